/- Ranges over whole.downwards; whole.long. -/
import Derived.Test.YtfofhjofkodoeaaGreatDoorA19
set_option linter.all false
noncomputable section
set_option maxRecDepth 100000
namespace Go.Proofs
open Go Go.Am
variable [lC]
variable {t tf:Tr qA}
theorem CO{n:Nat}{y:qA}(hn:t.get n=none)(h:xB tf t):xB (tf.set n y) (t.set n y):=by
 intro c u hc;rw[Tr.get_set]at hc ⊢;split at hc
 ·simp_all
 ·rename_i e;rw[yaa e];exact h _ _ hc
theorem Oz(h:xB tf t){n:Nat}(hn:t.get n=none):tf.get n=none:=by
 cases hx:tf.get n with
 | none=>rfl
 | some y=>rw[h _ _ hx]at hn;cases hn
structure Zp (S:Tr qA->Tr qA->Prop):Prop where
 le:∀ {tf t:Tr qA},S tf t->xB tf t
 both:∀ {tf t:Tr qA} {n:Nat},S tf t->t.get n=none->∀y,S (tf.set n y) (t.set n y)
 out:∀ {tf t:Tr qA} {n:Nat} {y:qA},tf.get n=none->S (tf.set n y) t->S tf (t.del n)
theorem DX{f i:Nat}{v8 v4:zA}{K R:T}{ps:List Nat}{Q:aB}{S:Nat->Tr qA->Tr qA->Prop}(hS:∀k,Zp (S k))(hp:lA tf 1 (vB .u32 ps) v4)(hl:ps.length<30000)(h:S ps.length tf t)
  (body:∀(k x:Nat) (tf t:Tr qA) (Q1:aB),ps[k]?=some x->S (k+1) tf t->(∀t',S k tf t'->Q1 (.bool true) t')->Jq yA F f i [v8,.int .u32 (x:Int)] t Q1)
  (fF:∀tf' t',xB tf tf'->S 0 tf' t'->iA yA.base (Wq yA F rF) (Jq yA F f) K t' Q) :
  iA yA.base (Wq yA F rF) (Jq yA F f) (.call 255 [v4] fun a0=>.range (npC yA) a0 i 1 [v8] K R) t Q:=by
 simp only[iA];rw[q255];refine w255 ?_;simp only[t255,iA];intro bb hbb hbase;have hc4:v4.cells=[v4]:=by
  obtain⟨cl,h1,_⟩:=hp;rcases h1 with⟨rfl,_⟩ | ⟨_,_,_,rfl,_⟩<;>rfl
 have hone:yP v4 ⟨bb,t⟩=some (.ptr bb 0,⟨bb+1,t.set bb (.cells (Tr.ofList [v4]) 1 none)⟩):=by
  unfold yP;rw[hc4];rfl
 rw[hone,xA];simp only[];have h1:=(hS _).both h hbb (.cells (Tr.ofList [v4]) 1 none);have hfb:=Oz ((hS _).le h) hbb;have htf1:xB tf (tf.set bb (.cells (Tr.ofList [v4]) 1 none)):=(tM hfb _).1;generalize htf:tf.set bb (.cells (Tr.ofList [v4]) 1 none)=tf1 at h1 htf1;have hg1:tf1.get bb=some (.cells (Tr.ofList [v4]) 1 none):=by rw[<- htf,Tr.get_set,yab rfl]
 generalize t.set bb (.cells (Tr.ofList [v4]) 1 none)=t1 at h1;refine⟨Nat.le_add_right _ _,fun l r hl0 hlb hr1 hr2 hy=>?_⟩;have hra:Ns (npC yA) (.func (.func 271) [] [.ptr bb 0]) l=some (271,[.func (.yld l) [] [],.ptr bb 0]):=by
  unfold Ns;simp only[zA.asFunc,pA];have:npC yA 271=true:=by kernel_rfl
  rw[this];rfl
 rw[hra,xA];have h2:=(hS _).both h1 hl0 (.loop r);have hfl:=Oz ((hS _).le h1) hl0;have hlr:qX true r=r:=by
  obtain⟨a,b,c,d,e,f,g,h,i⟩:=r;have hr1:a=.ready:=hr1;have hr2:b=none:=hr2;subst hr1;subst hr2;rfl
 have hle2:xB tf1 (tf1.set l (.loop r)):=(tM hfl _).1;rw[show Wq yA F rF 271=Wc yA F 271 by funext a m R;rw[q271]];refine ziz (l:=ps) (v:=v4) (I:=fun k t'=>S k (tf1.set l (.loop r)) t') (by omega) ?_ ?_ ?_ h2
 ·intro k t' hI;have hle:=(hS _).le hI;have hg:t'.get bb=some (.cells (Tr.ofList [v4]) 1 none):=hle _ _ (hle2 _ _ hg1);refine⟨?_,hp.mono (htf1.trans (hle2.trans hle))⟩;exact(kE.load1 (cs:=[v4]) (lo:=none) ⟨Tr.ofList [v4],hg,fun j a hj=>by grind [Tr.get_ofList]⟩ vP rfl (j:=0) rfl)
 ·intro k x t' hx hI R hR;show oF (some (yo+l,[zA.int .u32 (x:Int)])) _;rw[xA];refine hy [.int .u32 (x:Int)] t' R rfl ((hS _).le hI _ _ (by rw[Tr.get_set,yab rfl])) ?_;refine body k x tf1 _ _ hx ((hS _).out hfl hI) fun t2 h3 hn2=>⟨true,rfl,?_⟩;rw[hlr];exact hR _ ((hS _).both h3 hn2 (.loop r))
 ·intro t' hI;exact .inl ⟨(hS _).le hI _ _ (by rw[Tr.get_set,yab rfl]),fF tf1 _ htf1 ((hS _).out hfl hI)⟩
def Di (bx:Nat)(v:zA)(tf t:Tr qA):Prop:=yA.base<=bx/\tf.get bx=none/\xB tf t/\kE t bx none [v]
theorem Di.framed{bx:Nat}{v:zA}:Zp (Di bx v) where
 le:=fun h=>h.2.2.1
 both:=fun {tf t n} h hn y=>by
  obtain⟨h1,h2,h3,h4⟩:=h;have hbx:bx≠n:=by intro e;obtain⟨c,h,_⟩:=h4;simp_all
  exact⟨h1,by grind [Tr.get_set],CO hn h3,h4.off (by rw[Tr.get_set,yaa hbx])⟩
 out:=fun {tf t n y} hn h=>by
  obtain⟨h1,h2,h3,h4⟩:=h;have hbx:bx≠n:=by grind [Tr.get_set]
  have hle:xB tf (tf.set n y):=(tM hn y).1;rw[Tr.get_set,yaa hbx]at h2;refine⟨h1,h2,fun c u hc=>?_,h4.off (by rw[Tr.get_del,yaa hbx])⟩;have:c≠n:=fun e=>by simp_all
  rw[Tr.get_del,yaa this];exact h3 _ _ (hle _ _ hc)
theorem VB{bx x y:Nat}{Q1:aB}(h:Di bx (.int .u64 (y:Int)) tf t)(hy:y<4294967296)(hx:x<4294967296)(hQ:∀t',Di bx (.int .u64 ((y*4294967296+x:Nat):Int)) tf t'->Q1 (.bool true) t'):jp 299 2 [.ptr bx 0,.int .u32 (x:Int)] t Q1:=by
 obtain⟨i1,i2,i3,i4⟩:=h;have e5:(y:Int)*4294967296=((y*4294967296:Nat):Int):=by omega
 have e6:cI Nat.lor .u64 (jA .u64 ((y:Int)*4294967296)) (jA .u64 (x:Int))=some (.int .u64 ((y*4294967296+x:Nat):Int)):=by
  rw[e5,vG (by omega) (by omega),vG (by omega) (by omega),or32 hy hx]
 generalize y*4294967296+x=z at e6 hQ;refine j299_2 ?_;simp only[uE,rA,zdx,iA];rw[i4.load1 Ij rfl (j:=0) rfl,xA,fB,xA,e6,xA,fB,xA];intro b3 _ _;obtain⟨t3,k1,k2,k3⟩:=i4.store1 (v:=.int .u64 (z:Int)) i1 Ij rfl rfl rfl (j:=0) (by simp);rw[k1,xA];exact hQ _ ⟨i1,i2,i3.off i2 k3,k2⟩
theorem VA{l:List Nat}{k x:Nat}(hl:l.length<=2)(hlt:qB 4294967296 l)(hx:l[k]?=some x):x<4294967296/\val 4294967296 (l.drop (k+1))<4294967296/\val 4294967296 (l.drop k)=val 4294967296 (l.drop (k+1))*4294967296+x:=by
 have hk:k<l.length:=(ybc.1 hx).1;have hdrop:l.drop k=x::l.drop (k+1):=by
  grind [List.drop_eq_getElem_cons]
 refine⟨hlt x (ycv hx),?_,?_⟩
 ·have h1:=NI hlt (k+1);have h2:(l.drop (k+1)).length<=1:=by grind
  generalize l.drop (k+1)=m at h1 h2 ⊢
  match m,h1,h2 with
  | [],_,_=>exact Nat.zero_lt_succ _
  | [a],h1,_=>rw[val,val,yat,yct];exact h1 a (.head _)
 grind [val]
theorem zhh{l:List Nat}{v:zA}(hv:lA t 1 (vB .u32 l) v)(hl:l.length<=2)(hlt:qB 4294967296 l):rB yA F 299 [v] t=some (.int .u64 ((val 4294967296 l:Nat):Int)):=by
 refine lL (w299 ?_);have hlen0:l.length<30000:=by omega
 have hst:∀k x,l[k]?=some x->_:=fun k x=>VA (k:=k) (x:=x) hl hlt;have h0:val 4294967296 (l.drop l.length)=0:=by rw[List.drop_length,val]
 generalize hg:(fun k=>val 4294967296 (l.drop k))=g;have hst':∀k x,l[k]?=some x->x<4294967296/\g (k+1)<4294967296/\g k=g (k+1)*4294967296+x:=fun k x hx=>by grind
 have h0':g l.length=0:=by grind
 have hend:val 4294967296 l=g 0:=by grind
 rw[hend];clear hg hst h0 hend;unfold t299 uE rA;show ∀b,t.get b=none->yA.base<=b->oF (zI yA 244 ⟨b,t⟩) _;intro bx hbx hbase;obtain⟨t1,e1,e2,e3,e4⟩:=Ag (C:=yA) Ij hbx;rw[e1,xA];show ∀b,t1.get b=none->yA.base<=b->oF (tD yA 244 (.ptr bx 0) (.int .u64 0) ⟨b,t1⟩) _;intro b2 _ _;obtain⟨t2,g1,g2,g3⟩:=e2.store1 (v:=.int .u64 0) hbase Ij rfl rfl rfl (j:=0) (by simp);rw[g1,xA];have hS0:Di bx (.int .u64 ((g l.length:Nat):Int)) t t2:=by
  rw[h0'];exact⟨hbase,hbx,(xB.refl t).off hbx e4 |>.off hbx g3,g2⟩
 refine DX (S:=fun k tf t=>Di bx (.int .u64 ((g k:Nat):Int)) tf t) (fun k=>Di.framed) hv hlen0 hS0 ?_ ?_
 ·grind [VB]
 ·intro tf' t' hle hI;obtain⟨i1,i2,i3,i4⟩:=hI;simp only[iA];rw[i4.load1 Ij rfl (j:=0) rfl,xA];simp only[fB,xA];exact⟨trivial,hle.trans i3⟩
end Go.Proofs
namespace Go.Am
open Go
def cE (u:Nat):List Nat:=(Lib.decDigits u).map UInt8.toNat
theorem Le{u:Nat}(h:u<10):cE u=[48+u]:=by
 grind [cE,Lib.decDigits_one,UInt8.toNat_ofNat']
theorem Gk{u:Nat}(h:¬ u<10):cE u=cE (u / 10)++[48+u%10]:=by
 grind [cE,Lib.decDigits,UInt8.toNat_ofNat']
def Xj(u:Nat):kL (u:Int)=cE u:=by
 grind [kL,Lib.itoa,cE]
def IR{u:Nat}(h:0<u):kL (-(u:Int))=45::cE u:=by
 grind [kL,Lib.itoa,cE]
def zc3(u:Nat):(cE u).length=Lib.nDigits u:=by unfold cE;rw[ybf,Lib.decDigits_length]
theorem xY(u:Nat):0<(cE u).length:=by rw[zc3];exact Lib.nDigits_pos u
def Lf(u:Nat):∀x∈cE u,48<=x/\x<58:=by
 induction u using Nat.strongRecOn with
 | _ u ih=>
  grind [Le,Gk]
def Cu{u k:Nat}(hk:0<k)(h:u<10^k):(cE u).length<=k:=by
 induction k generalizing u with
 | zero=>omega
 | succ k ih=>
  grind [Le,Gk]
def mP:Nat->Nat->List Nat
 | 0,_=>[]
 | k+1,r=>mP k (r / 10)++[48+r%10]
theorem Vr:∀(k r:Nat),(mP k r).length=k
 | 0,_=>rfl
 | k+1,r=>by rw[mP,ybg,Vr k];rfl
theorem FB:∀k,mP k 0=List.replicate k 48
 | 0=>rfl
 | k+1=>by rw[mP,FB k,List.replicate_succ']
theorem zg3{k r:Nat}(hk:0<k)(h:r<10^k):mP k r=List.replicate (k-(cE r).length) 48++cE r:=by
 induction k generalizing r with
 | zero=>omega
 | succ k ih=>
  rw[mP];by_cases h10:r<10
  ·grind [Le,FB]
  ·have h1:r / 10<10^k:=by omega
   have hk0:0<k:=by
    grind
   simp_all [Gk]
def zc2{q:Nat}(hq:0<q):∀ {k r:Nat},r<10^k->cE (q*10^k+r)=cE q++mP k r:=by
 intro k;induction k with
 | zero=>grind [mP]
 | succ k ih=>
  intro r h;have hp:0<10^k:=Nat.pow_pos (by decide);have hb:¬ q*10^(k+1)+r<10:=by
   have:10^(k+1)=10^k*10:=yag ..;have h2:10<=q*10^(k+1):=by
    rw[this];calc 10=1*(1*10):=by omega
     _<=q*(10^k*10):=ydb hq (ydb hp (ybk _))
   omega
  have e1:(q*10^(k+1)+r) / 10=q*10^k+r / 10:=by
   rw[yag,<- ybj,yap,Nat.add_mul_div_right _ _ (by decide),yap]
  have e2:(q*10^(k+1)+r)%10=r%10:=by
   rw[yag,<- ybj,yap,Nat.add_mul_mod_self_right]
  rw[Gk hb,e1,e2,ih (by omega),mP,ybz]
def FC:∀(k r:Nat),∀x∈mP k r,48<=x/\x<58
 | 0,_,x,hx=>by cases hx
 | k+1,r,x,hx=>by
  rw[mP]at hx;rcases yaf.1 hx with hx | hx
  ·exact FC k _ x hx
  grind
def cJ:List Nat->List Nat
 | []=>[]
 | [p]=>cE p
 | p::q::l=>cJ (q::l)++mP 9 p
def AQ:∀ {l:List Nat},l≠[]->(∀x∈l,x<1000000000)->l.getLast?≠some 0->cJ l=cE (val 1000000000 l)/\0<val 1000000000 l
 | [],h,_,_=>absurd rfl h
 | [p],_,_,h=>by
  grind [cJ,val]
 | p::q::l,_,h1,h2=>by
  obtain⟨g1,g2⟩:=AQ (l:=q::l) (by simp) (fun x hx=>h1 x (.tail _ hx)) (by simp_all);have hp:=h1 p (.head _);have e:val 1000000000 (p::q::l)=val 1000000000 (q::l)*10^9+p:=by
   rw[val];omega
  rw[e,zc2 g2 (by omega),cJ,g1]
  grind
def Sn:∀(l:List Nat),∀x∈cJ l,48<=x/\x<58
 | [],x,hx=>by cases hx
 | [p],x,hx=>Lf p x hx
 | p::q::l,x,hx=>by
  rw[cJ]at hx;rcases yaf.1 hx with hx | hx
  ·exact Sn _ x hx
  ·exact FC _ _ x hx
def aT (neg:Bool)(n:Nat):List Nat:=(if neg then [45]else [])++cE n
end Go.Am
namespace Go.Am
open Go Go.RowKit
section
variable {base:Nat}{t t0:Tr qA}{X X0:Xt}{HA:wA}{n:Nat}{y:qA}{C:dA}{F:Tr cF}{Q:aB}
def Xt.put(X:Xt)(n:Nat)(y:qA):Xt:=fun b=>if b=n then some y else X b
theorem Xt.put_self{X:Xt}:X.put n y n=some y:=yab rfl
theorem Xt.put_ne{X:Xt}{b:Nat}(h:b≠n):X.put n y b=X b:=yaa h
theorem Ov.hide(h:Ov base t X HA)(hy:t.get n=some y)(h0:t0.get n=none)(ho:sE n t0 t):Ov base t0 (X.put n y) HA:=by
 refine⟨h.base,fun b hb=>?_,fun b z hb=>?_,fun b z hb=>?_⟩
 ·by_cases e:b=n
  ·grind [Xt.put_self]
  ·rw[Xt.put_ne e]at hb;rw[h.same b hb,ho b e]
 ·by_cases e:b=n
  ·subst e;rw[Xt.put_self]at hb;cases hb;exact⟨h.up hy,h0,h.lt _ _ hy⟩
  ·rw[Xt.put_ne e]at hb;obtain⟨h1,h2,h3⟩:=h.ext b z hb;exact⟨h1,by rw[<- ho b e];exact h2,h3⟩
 ·by_cases e:b=n
  ·simp_all
  ·exact h.lt b z (by rw[ho b e];exact hb)
theorem qC.unhide{Q:aB}{d:iB}(hX:X.put n y=X0)(hn:X n=none)(h:qC base X0 Q d):qC base X (fun v t'=>∃t0',Q v t0'/\t0'.get n=none/\t'.get n=some y/\sE n t0' t') d:=by
 obtain⟨v,t',HA',X',h1,h2,h3,h4⟩:=h;subst hX;have hy:X' n=some y:=h3 n y Xt.put_self;obtain⟨e1,e2,e3⟩:=h2.ext n y hy;obtain⟨_,ho⟩:=tM (t:=t') e2 y;have hs:(t'.set n y).get n=some y:=by rw[Tr.get_set,yab rfl]
 refine⟨v,t'.set n y,HA',fun b=>if b=n then none else X' b,h1,⟨h2.base,fun b hb=>?_,fun b z hb=>?_,fun b z hb=>?_⟩,fun b z hb=>?_,t',h4,e2,hs,ho⟩
 ·by_cases e:b=n
  ·subst e;rw[e1,hs]
  ·have hb:(if b=n then none else X' b)=none:=hb;rw[yaa e]at hb;rw[h2.same b hb,ho b e]
 ·by_cases e:b=n
  ·simp_all
  ·have hb:(if b=n then none else X' b)=some z:=hb;rw[yaa e]at hb;obtain⟨k1,k2,k3⟩:=h2.ext b z hb;exact⟨k1,by rw[ho b e];exact k2,k3⟩
 ·by_cases e:b=n
  ·omega
  ·rw[ho b e]at hb;exact h2.lt b z hb
 ·show(if b=n then none else X' b)=some z;have e:b≠n:=fun e=>by simp_all
  rw[yaa e];exact h3 b z (by grind [Xt.put_ne])
theorem Wc.frame{f:Nat}{args:List zA}(h:Wc C F f args t0 Q)(hy:t.get n=some y)(h0:t0.get n=none)(ho:sE n t0 t) :
  Wc C F f args t (fun v t'=>∃t0',Q v t0'/\t0'.get n=none/\t'.get n=some y/\sE n t0' t'):=
 fun X HA hv=>(h _ HA (hv.hide hy h0 ho)).unhide rfl (hv.notX hy)
end
theorem Tr.without(t:Tr qA):∀n:Nat,∃t0:Tr qA,t0.get n=none/\sE n t0 t:=by
 induction t with
 | leaf=>exact fun n=>⟨.leaf,Tr.get_leaf n,fun _ _=>rfl⟩
 | node l v r ihl ihr=>
  intro n;by_cases h0:n=0
  ·subst h0;refine⟨.node l none r,by rw[Tr.get_node];rfl,fun k hk=>?_⟩;rw[Tr.get_node,Tr.get_node,yaa hk,yaa hk]
  ·by_cases h1:n%2=1
   ·obtain⟨l0,g1,g2⟩:=ihl (n / 2);refine⟨.node l0 v r,by grind [Tr.get_node],fun k hk=>?_⟩;rw[Tr.get_node,Tr.get_node];split
    ·rfl
    ·split
     ·exact g2 _ (by omega)
     ·rfl
   ·obtain⟨r0,g1,g2⟩:=ihr (n / 2-1);refine⟨.node l v r0,by grind [Tr.get_node],fun k hk=>?_⟩;rw[Tr.get_node,Tr.get_node];split
    ·rfl
    ·split
     ·rfl
     ·exact g2 _ (by omega)
end Go.Am
namespace Go.Proofs
open Go Go.Am
variable [lC]
variable {t tf:Tr qA}
theorem vH.call{cd:Lo}{base sz:Nat}{l:List D}{v:zA}(h:vH cd base tf t sz l v)(ht:xB tf t):∃t0,xB tf t0/\∀ {f:Nat} {args:List zA} {Q:aB},Wc yA F f args t0 Q->Wc yA F f args t (fun u t'=>∃t1,Q u t1/\(xB tf t1->xB t1 t'/\vH cd base t1 t' sz l v)):=by
 rcases h with⟨rfl,rfl⟩ | ⟨b,cl,c,rfl,h0,h1,h2,h3,h4⟩
 ·exact⟨t,ht,fun h=>h.mono fun u t' hq=>⟨t',hq,fun _=>⟨xB.refl _,.inl ⟨rfl,rfl⟩⟩⟩⟩
 ·obtain⟨t0,g1,g2⟩:=Tr.without t b;refine⟨t0,fun k u hk=>?_,fun h=>(h.frame h2 g1 g2).mono fun u t' ⟨t1,k1,k2,k3,k4⟩=>⟨t1,k1,fun hle=>⟨fun k u hk=>?_,.inr ⟨b,cl,c,rfl,h0,k2,k3,h3,jC.mono hle _ _ h4⟩⟩⟩⟩
  ·have hkb:k≠b:=by grind
   rw[<- g2 k hkb];exact ht _ _ hk
  ·have hkb:k≠b:=by grind
   rw[k4 k hkb];exact hk
def el238:Hi yA 268 270 1:=⟨⟨_,vP,rfl,rfl⟩,⟨_,qH,rfl,rfl,by decide,by decide⟩⟩
def el32:Hi yA 59 5 1:=⟨⟨_,xM,rfl,rfl⟩,⟨_,xI,rfl,rfl,by decide,by decide⟩⟩
def co202:∀z,yA.tys.get 270=some z->aK 270 z=.sz 1:=fun z h=>by rw[qH]at h;cases h;rfl
def co5:∀z,yA.tys.get 5=some z->aK 5 z=.ty 5:=fun z h=>by rw[xI]at h;cases h;rfl
theorem VS{cd:Lo}{base sz:Nat}{l:List D}{v:zA}{b:Nat}(h:vH cd base tf t sz l v)(hb:oO v b)(hn:t.get b=none):False:=by
 obtain⟨_,_,y,hy⟩:=h.none hb
 simp_all
theorem TK{v2:List Nat}{v3:Int}{neg:Bool}{c1:zA}{N M:Nat}{Q:aB}{t0:Tr qA}(hM:M<400000)
  (hR:∀(tf t':Tr qA) (ps:List Nat) (v4 v5:zA),xB t0 tf->xB tf t'->vH (.sz 1) yA.base tf t' 1 (vB .u32 ps) v4->lA tf 1 (vB .u32 []) v5->qB 1000000000 ps->ps≠[]->ps.getLast?≠some 0->val 1000000000 ps=N->ps.length<=M->jp 235 2 [.str v2,.int .i64 v3,v4,v5,.bool neg,c1] t' Q) :
  ∀(k:Nat) (l ps:List Nat) (v4 v5:zA) (tf t':Tr qA),val 4294967296 l<1000000000^k->k+ps.length<=M->norm l->qB 4294967296 l->l.length<900000->qB 1000000000 ps->(l=[]->ps≠[]/\ps.getLast?≠some 0) →
   val 4294967296 l*1000000000^ps.length+val 1000000000 ps=N->xB t0 tf->xB tf t'->vH (.sz 1) yA.base tf t' 1 (vB .u32 ps) v4->lA tf 1 (vB .u32 l) v5->jp 235 2 [.str v2,.int .i64 v3,v4,v5,.bool neg,c1] t' Q:=by
 intro k;induction k with
 | zero=>
  intro l ps v4 v5 tf t' h1 h2 h3 h4 h5 h6 h7 h8 h9 h10 h11 h12;have hl:l=[]:=Fh (B:=4294967296) (by decide) h3 (by omega)
  grind
 | succ k ih=>
  intro l ps v4 v5 tf t' h1 h2 h3 h4 h5 h6 h7 h8 h9 h10 h11 h12;by_cases hl:l=[]
  ·grind [val]
  have hpos:0<l.length:=List.length_pos_iff.2 hl;have hv0:0<val 4294967296 l:=by
   rcases yav (val 4294967296 l)with e | e
   ·exact absurd (Fh (B:=4294967296) (by decide) h3 e) hl
   ·exact e
  refine ze2 ?_;simp only[uI,uL,rA,iG,uX,uZ,uY,Th,iA,(h12.mono h10).len,xA,fB,nD,wC];rw[yab (by omega),q254];obtain⟨t1,g1,g2⟩:=vH.call h11 h10;refine(g2 (KX (h12.mono g1) h5 h4 (d:=1000000000) (by decide) (by decide) (Q:=fun u t'=>∃v' q r,u=.tup [v',.int .u32 (r:Nat)]/\xB t1 t'/\lA t' 1 (vB .u32 (zE q)) v'/\qB 4294967296 q/\q.length=l.length/\r<1000000000/\val 4294967296 l=val 4294967296 q*1000000000+r) fun t' v' q r a b c d e f=>⟨v',q,r,rfl,a,b,c,d,e,f⟩)).mono ?_
  rintro u t2 ⟨tf2,⟨v',q,r,rfl,a1,a2,a3,a4,a5,a6⟩,hk⟩;obtain⟨b1,b2⟩:=hk (g1.trans a1);have x0:zG 0 (.tup [v',.int .u32 (r:Nat)])=some v':=rfl;have x1:zG 1 (.tup [v',.int .u32 (r:Nat)])=some (.int .u32 (r:Nat)):=rfl;simp only[x0,x1,xA,fB];intro n hn hbase;obtain⟨H1,c1',c2,c3⟩:=Cf (k:=.u32) vP rfl qH rfl rfl r trivial hn;rw[c1',xA];intro n2 hn2 hbase2;have b3:vH (.sz 1) yA.base tf2 H1.t 1 (vB .u32 ps) v4:=b2.keep' fun b hb=>by
   obtain⟨_,_,y,hy⟩:=b2.none hb;rw[c3 _ _ hy,hy]
  obtain⟨t4,d1,d2,d3,d4⟩:=Zh el238 co202 b3 (c2.all (cap:=1) (ybk _)) (by simp) (by grind) hn2 hbase2 (b1.trans c3);simp only[List.length_singleton]at d1 d2;simp only[];rw[d1,xA];refine ih (zE q) (ps++[r]) _ _ tf2 t4 ?_ ?_ (dQ _) (iS a3) ?_ ?_ ?_ ?_ (h9.trans (g1.trans a1)) d3 ?_ a2
  ·grind [nQ]
  ·grind
  ·grind [Ud]
  ·exact NJ h6 fun x hx=>by simp_all
  ·intro hs;refine⟨by simp,?_⟩;have hq:val 4294967296 q=0:=by rw[<- nQ,hs];rfl
   grind
  ·rw[nQ,Du,ybg];simp only[val,ybn,ybx,ybw,yat,yct];grind
  omega
end Go.Proofs
namespace Go.Proofs
open Go Go.Am
section
variable [lC]
variable {t tf:Tr qA}{bx:Nat}{s m:List Nat}
def TX (tf t:Tr qA)(bx:Nat)(s:List Nat):Prop:=yA.base<=bx/\tf.get bx=none/\xB tf t/\∃tv,kE t bx none [tv]/\vH (.ty 5) yA.base tf t 1 (vB .u8 s) tv/\¬ oO tv bx
theorem TX.both(h:TX tf t bx s){n:Nat}(hn:t.get n=none)(y:qA):TX (tf.set n y) (t.set n y) bx s:=by
 obtain⟨h1,h2,h3,tv,h4,h5,h6⟩:=h;have hbx:bx≠n:=by intro e;obtain⟨c,h,_⟩:=h4;simp_all
 refine⟨h1,by grind [Tr.get_set],CO hn h3,tv,h4.off (by rw[Tr.get_set,yaa hbx]),?_,h6⟩;have hb:∀b,oO tv b->b≠n:=fun b hb e=>VS h5 hb (e ▸ hn);rcases h5 with⟨rfl,h5⟩ | ⟨b,cl,c,rfl,k0,k1,k2,k3,k4⟩
 ·exact .inl ⟨rfl,h5⟩
 ·have hbn:=hb b (Ck.2 rfl);exact .inr ⟨b,cl,c,rfl,k0,by grind [Tr.get_set],by grind [Tr.get_set],k3,jC.mono (fun c u hc=>by
   grind [Oz,Tr.get_set]) _ _ k4⟩
theorem TX.out{n:Nat}{y:qA}(hn:tf.get n=none)(h:TX (tf.set n y) t bx s):TX tf (t.del n) bx s:=by
 obtain⟨h1,h2,h3,tv,h4,h5,h6⟩:=h;have hbx:bx≠n:=by grind [Tr.get_set]
 have hle:xB tf (tf.set n y):=(tM hn y).1;rw[Tr.get_set,yaa hbx]at h2;refine⟨h1,h2,fun c u hc=>?_,tv,h4.off (by rw[Tr.get_del,yaa hbx]),?_,h6⟩
 ·have:c≠n:=fun e=>by simp_all
  rw[Tr.get_del,yaa this];exact h3 _ _ (hle _ _ hc)
 ·rcases h5 with⟨rfl,h5⟩ | ⟨b,cl,c,rfl,k0,k1,k2,k3,k4⟩
  ·exact .inl ⟨rfl,h5⟩
  ·have hbn:b≠n:=by grind [Tr.get_set]
   refine .inr ⟨b,cl,c,rfl,k0,by grind [Tr.get_set],by grind [Tr.get_del],k3,?_⟩
   grind [Al]
theorem TX.load(h:TX tf t bx s):∃tv,vC yA 59 ⟨0,t⟩ (.ptr bx 0)=some tv/\kE t bx none [tv]/\vH (.ty 5) yA.base tf t 1 (vB .u8 s) tv/\¬ oO tv bx:=by
 obtain⟨h1,h2,h3,tv,h4,h5,h6⟩:=h;exact⟨tv,h4.load1 xM rfl rfl,h4,h5,h6⟩
theorem TX.put{t1:Tr qA}{n k:Nat}{tv:zA}(hb:yA.base<=bx)(hf:tf.get bx=none)(hc:kE t1 bx none [tv])(hl:vH (.ty 5) yA.base tf t1 1 (vB .u8 s) (.slice n 0 k k))(hle:xB tf t1)(hn:n≠bx) :
  ∃t2,(∀n',tD yA 59 (.ptr bx 0) (.slice n 0 k k) ⟨n',t1⟩=some (xE,⟨n',t2⟩))/\TX tf t2 bx s:=by
 obtain⟨t2,g1,g2,g3⟩:=hc.store1 (v:=.slice n 0 k k) hb xM rfl rfl rfl (j:=0) (by simp);refine⟨t2,g1,hb,hf,hle.off hf g3,_,g2,hl.keep' fun b hb'=>g3 b fun e=>?_,fun e=>?_⟩
 all_goals grind [Ck]
theorem TX.add(h:TX tf t bx s)(hm:m≠[])(hl:s.length+m.length<400000):∃tv,vC yA 59 ⟨0,t⟩ (.ptr bx 0)=some tv/\∀n,t.get n=none->yA.base<=n →
  ∃w t1 t2,sF yA 59 9 tv (.str m) ⟨n,t⟩=some (w,⟨n+1,t1⟩)/\(∀n',tD yA 59 (.ptr bx 0) w ⟨n',t1⟩=some (xE,⟨n',t2⟩))/\TX tf t2 bx (s++m):=by
 obtain⟨tv,h1,h2,h3,h4⟩:=h.load;refine⟨tv,h1,fun n hn hbase=>?_⟩;have hbn:n≠bx:=by intro e;obtain⟨c,hh,_⟩:=h2;simp_all
 obtain⟨t1,g1,g2,g3,g4⟩:=MZ el32 ⟨_,vL,rfl⟩ co5 h3 hm hl hn hbase h.2.2.1;obtain⟨t2,g5,g6⟩:=TX.put h.1 h.2.1 (h2.off (g4 bx hbn.symm h4)) g2 g3 hbn
 grind
theorem TX.byte(h:TX tf t bx s)(x:Nat)(hl:s.length+1<400000):∃tv,vC yA 59 ⟨0,t⟩ (.ptr bx 0)=some tv/\∀n,t.get n=none->yA.base<=n →
  ∃H1,oG yA 59 1 [(0,.int .u8 (x:Int))] ⟨n,t⟩=some (.slice n 0 1 1,H1)/\∀n2,H1.t.get n2=none->yA.base<=n2 →
   ∃w t1 t2,sF yA 59 59 tv (.slice n 0 1 1) ⟨n2,H1.t⟩=some (w,⟨n2+1,t1⟩)/\(∀n',tD yA 59 (.ptr bx 0) w ⟨n',t1⟩=some (xE,⟨n',t2⟩))/\TX tf t2 bx (s++[x]):=by
 obtain⟨tv,h1,h2,h3,h4⟩:=h.load;refine⟨tv,h1,fun n hn hbase=>?_⟩;obtain⟨H1,c1,c2,c3⟩:=Cf (k:=.u8) xM rfl xI rfl rfl x trivial hn;refine⟨H1,c1,fun n2 hn2 hbase2=>?_⟩;have hcel:kE H1.t bx none [tv]:=h2.off (by
  obtain⟨c,hh,_⟩:=h2;rw[c3 _ _ hh,hh])
 have hbn:n2≠bx:=by intro e;obtain⟨c,hh,_⟩:=hcel;simp_all
 have h3':vH (.ty 5) yA.base tf H1.t 1 (vB .u8 s) tv:=h3.keep' fun b hb=>by
  obtain⟨_,_,y,hy⟩:=h3.none hb;rw[c3 _ _ hy,hy]
 obtain⟨t1,g1,g2,g3,g4⟩:=Zh el32 co5 h3' (c2.all (cap:=1) (ybk _)) (by simp) (by omega) hn2 hbase2 (h.2.2.1.trans c3);simp only[List.length_singleton]at g1 g2;obtain⟨t2,g5,g6⟩:=TX.put h.1 h.2.1 (hcel.off (g4 bx hbn.symm h4)) g2 g3 hbn
 grind
theorem zbv{Q:aB}{c:Nat}(hm:m≠[])(hc:c<100)(hml:m.length<100):∀(k i:Nat) (s:List Nat) (t:Tr qA),i+k=c->s.length+k+m.length<400000->TX tf t bx s->(∀t',TX tf t' bx (s++(List.replicate k 48++m))->Q (.bool true) t') →
  jp 235 10 [.ptr bx 0,.str m,.int .i64 (c:Int),.int .i64 (i:Int)] t Q:=by
 intro k;induction k with
 | zero=>
  intro i s t hi hl h hQ;refine IP ?_;simp only[rA,sB,iG,uZ,uY,Ti,iA,wC];rw[yaa (by omega)];obtain⟨tv,g1,g2⟩:=h.add hm (by omega)
  grind [xA]
 | succ k ih=>
  intro i s t hi hl h hQ;refine IP ?_;simp only[rA,sB,iG,uZ,uY,Ti,iA,wC];rw[yab (by omega)];obtain⟨tv,g1,g2⟩:=h.byte 48 (by omega);rw[g1,xA];intro n hn hbase;obtain⟨H1,g3,g4⟩:=g2 n hn hbase;rw[show((48:Nat):Int)=48 from rfl]at g3;rw[g3,xA];intro n2 hn2 hbase2;obtain⟨w,t1,t2,g5,g6,g7⟩:=g4 n2 hn2 hbase2;simp only[];rw[g5,xA];intro n3 _ _;rw[g6,xA];rw[wrap_i64 (by omega) (by omega),show(i:Int)+1=((i+1:Nat):Int) by omega]
  refine ih (i+1) (s++[48]) t2 (by omega) (by grind) g7 fun t' h'=>hQ t' ?_
  grind
def zf4{u:Nat}(h:u<18446744073709551616):rB yA F 256 [.int .u64 (u:Int),.int .i64 10] t=some (.str (cE u)):=by
 have hg:yA.prims.get 256=some (gM Jl):=by kernel_rfl
 refine Nu hg fun H=>?_;show pB (xC 0 (u:Int)&&kB (u:Int) 18446744073709551616&&tA 10 10) (some (zA.str (kL (u:Int))))=_;rw[Xj,iD.2 (by omega),wC.2 (by omega)];rfl
def Lp(s:List Nat)(x:Nat):List Nat:=if s=[]\/s=[45]then s++cE x else s++mP 9 x
theorem zi8{Q:aB}{x:Nat}(h:TX tf t bx s)(hx:x<1000000000)(hs:s.length<300000)(hlt:qB 256 s)(hQ:∀t',TX tf t' bx (Lp s x)->Q (.bool true) t'):jp 235 6 [.ptr bx 0,.int .u32 (x:Int)] t Q:=by
 have hd:=xY x;have hd9:(cE x).length<=9:=Cu (by decide) (by omega);have hne:cE x≠[]:=fun e=>by simp_all
 have hpad:s≠[]->s≠[45]->jp 235 10 [.ptr bx 0,.str (cE x),.int .i64 (jA .i64 (9-Int.ofNat (oB (cE x)))),.int .i64 0] t Q:=by
  intro h1 h2;have e:jA .i64 (9-Int.ofNat (oB (cE x)))=((9-(cE x).length:Nat):Int):=by
   grind [pD,wrap_i64]
  rw[e];refine zbv hne (by omega) (by omega) _ 0 s t (ybw _) (by omega) h fun t' h'=>hQ t' ?_
  grind [Lp,zg3]
 have hadd:s=[]\/s=[45]->∃tv,vC yA 59 ⟨0,t⟩ (.ptr bx 0)=some tv/\∀b,t.get b=none->yA.base<=b->oF (sF yA 59 9 tv (.str (cE x)) ⟨b,t⟩) fun p=>∀b,p.2.t.get b=none->yA.base<=b->oF (tD yA 59 (.ptr bx 0) p.1 ⟨b,p.2.t⟩) fun p=>Q (.bool true) p.2.t:=by
  intro hs';obtain⟨tv,g1,g2⟩:=h.add hne (by omega)
  grind [xA,Lp]
 obtain⟨tv,l1,l2,l3,l4⟩:=h.load;refine j235_6 ?_;simp only[uQ34,uI,uU,uS,wB,rA,uZ,uW,zd2,iA,q256];rw[vG (by omega) (by omega),zf4 (by omega),xA];simp only[zA.asStr,xA,l1,l3.len,fB,nD,wC,wE];by_cases h1:1<s.length
 ·rw[yab (by omega)];exact hpad (by grind) (by grind)
 ·rw[yaa (by omega)];by_cases h2:s.length=1
  ·rw[yab (by omega)];obtain⟨y,rfl⟩:=List.length_eq_one_iff.1 h2;have hr:=l3.read (by rfl) h.2.2.1;obtain⟨b,off,k1,k2⟩:=hr.idx sl59 (i:=0) (x:=y) rfl
   grind [xA,fB,jX]
  grind [List.length_eq_zero_iff]
end
section
variable [lC]
variable {t tf:Tr qA}{bx:Nat}{s m:List Nat}
theorem ZX{sg:List Nat}(hsg:sg=[]\/sg=[45]){x:Nat}{l:List Nat}:Lp (sg++cJ l) x=sg++cJ (x::l):=by
 unfold Lp
 cases l with
 | nil=>
  grind [cJ]
 | cons p l=>
  have hne:cJ (p::l)≠[]:=by
   cases l with
   | nil=>grind [xY,cJ]
   | cons q l=>
    grind [cJ,List.length_append,Vr]
  rw[yaa,cJ,ybz];rintro(h | h)
  ·simp_all
  ·rcases hsg with rfl | rfl
   ·rw[yah]at h;have:=Sn (p::l) 45 (by simp_all);omega
   simp_all
theorem AP:∀(l:List Nat),(∀x∈l,x<1000000000)->(cJ l).length<=9*l.length
 | [],_=>by simp[cJ]
 | [p],h=>by
  simp_all [Cu,cJ]
 | p::q::l,h=>by
  have:=AP (q::l) fun x hx=>h x (.tail _ hx)
  grind [cJ,Vr]
theorem NH{sg l:List Nat}(hsg:sg=[]\/sg=[45]):qB 256 (sg++cJ l):=by
 intro x hx;rcases yaf.1 hx with hx | hx
 ·grind
 ·have:=Sn _ x hx;omega
theorem TX.framed{bx:Nat}{s:List Nat}:Zp (fun tf t=>TX tf t bx s) where
 le:=fun h=>h.2.2.1
 both:=fun h hn y=>h.both hn y
 out:=fun hn h=>TX.out hn h
theorem zdo{Q:aB}{t0:Tr qA}{ps:List Nat}{v4:zA}{sg:List Nat}(hsg:sg=[]\/sg=[45])(h0:xB t0 tf)(hp:lA tf 1 (vB .u32 ps) v4)(hlt:qB 1000000000 ps)(hl:ps.length<30000)(h:TX tf t bx sg)
  (hQ:∀t',xB t0 t'->Q (.tup [.str (sg++cJ ps),.int .i64 0]) t'):jp 235 29 [.str [],.int .i64 0,v4,.ptr bx 0] t Q:=by
 refine zh6 ?_;unfold BH uS rA uZ;refine DX (S:=fun k tf t=>TX tf t bx (sg++cJ (ps.drop k))) (fun k=>TX.framed) hp hl (by grind [cJ]) ?_ ?_
 ·intro k x tf t' Q1 hx hI hQ1;have hk:k<ps.length:=(ybc.1 hx).1;have hxl:x<1000000000:=hlt x (ycv hx);have hdrop:ps.drop k=x::ps.drop (k+1):=by
   grind [List.drop_eq_getElem_cons]
  have hlen:(sg++cJ (ps.drop (k+1))).length<300000:=by
   have:=AP (ps.drop (k+1)) fun y hy=>hlt y (List.mem_of_mem_drop hy)
   grind
  grind [zi8,NH,ZX]
 ·intro tf' t' hle h3;rw[ycr]at h3;obtain⟨tv,g1,_,g3,_⟩:=h3.load;show oF (vC yA 59 ⟨0,t'⟩ (.ptr bx 0)) _;rw[g1,xA];show oF (kK yA 59 9 ⟨0,t'⟩ tv) _;rw[LM xM vL rfl rfl rfl xI rfl (g3.read (by rfl) h3.2.2.1) (NH hsg),xA];exact hQ _ (h0.trans (hle.trans h3.2.2.1))
def uN(neg:Bool)(l:List Nat):List Nat:=aT neg (val 65536 l)
set_option exponentiation.threshold 2000 in
theorem AO{neg:Bool}{l:List Nat}{v:zA}(hv:lA t 1 (vB .u16 l) v)(hlt:qB 65536 l)(hval:pI neg l=true):rB yA F 235 [.agg [.bool neg,v]] t=some (.tup [.str (uN neg l),.int .i64 0]):=by
 have hlen:l.length<=1024:=by
  grind [pI]
 refine lL (w235 ?_);simp only[uI,uB,uZ,t235,iA,q250];rw[Mb (by omega) hv,hval];simp only[zA.asBool,xA,Bool.not_true,ybq,if_false,hv.len,nD,fB,wE];by_cases h0:l=[]
 ·grind [pI,uN,aT,val,Le]
 ·have hpos:0<l.length:=List.length_pos_iff.2 h0;rw[yaa (by omega),q253];refine Vs hv (by omega) hlt fun t1 v1 hle hv1=>?_;have hlast:l.getLast?≠some 0:=by
   grind [pI]
  have hnorm:norm l:=fun hne e2=>hlast (by rw[List.getLast?_eq_some_getLast hne,e2]);have hN:val 4294967296 (kG l)=val 65536 l:=Sc l;have hvpos:0<val 65536 l:=by
   rcases yav (val 65536 l)with e | e
   ·exfalso;exact h0 (Fh (B:=65536) (by decide) hnorm e)
   ·exact e
  have hple:(kG l).length<=512:=by rw[wS];omega
  have hbnd:val 4294967296 (kG l)<1000000000^1100:=by
   have g1:=lK (B:=4294967296) (by decide) (Lm hlt);have g2:4294967296^(kG l).length<=4294967296^512:=yao (by decide) hple;omega
  refine TK (t0:=t1) (N:=val 65536 l) (M:=1100) (by decide) ?_ 1100 (kG l) [] .nilslice v1 t1 t1 hbnd (by simp) (Ox hnorm) (Lm hlt) (by omega) (fun x hx=>by cases hx) ?_ (by simp[val,hN]) (xB.refl _) (xB.refl _) Jy hv1
  ·intro tf t' ps v4 v5 k1 k2 k3 k4 k5 k6 k7 k8 k9;refine ze2 ?_;simp only[uI,uL,rA,iG,uX,uZ,uY,Th,iA,(k4.mono k2).len,xA,fB,nD,wC,ybx];rw[yaa (by simp)];obtain⟨tf',f1,f2,f3,f4⟩:=k3.freeze rfl k2;have hpl:ps.length<30000:=by omega
   intro bx hbx hbase;obtain⟨t2,e1,e2,e3,e4⟩:=Ag (C:=yA) xM hbx;rw[e1,xA];have hTX:TX tf' t2 bx []:=⟨hbase,Oz f2 hbx,f2.trans e3,.nilslice,e2,Jy,Xq⟩;have ht:xB t tf':=hle.trans (k1.trans f1);have htext:cJ ps=cE (val 65536 l):=by rw[<- k8];exact(AQ k6 k5 k7).1
   cases neg with
   | false=>
    simp only[ybq,if_false];refine zdo (.inl rfl) ht f3 k5 hpl hTX fun t' ht'=>⟨?_,ht'⟩;rw[htext];rfl
   | true=>
    simp only[if_true];obtain⟨tv,g1,g2⟩:=hTX.byte 45 (by simp);rw[g1,xA];intro n hn hbn;obtain⟨H1,g3,g4⟩:=g2 n hn hbn;rw[show((45:Nat):Int)=45 from rfl]at g3;rw[g3,xA];intro n2 hn2 hbn2;obtain⟨w,t3,t4,g5,g6,g7⟩:=g4 n2 hn2 hbn2;simp only[];rw[g5,xA];intro n3 _ _;rw[g6,xA];refine zdo (.inr rfl) ht f3 k5 hpl g7 fun t' ht'=>⟨?_,ht'⟩;rw[htext];rfl
  grind [wS]
end
section
variable [lC]
variable {t:Tr qA}
def zcy{A lu lv Z:List Nat}{v:zA}{b cap m:Nat}{t0 t':Tr qA}{Q:aB}(hv:lA t0 1 (vB .u32 lv) v)(hl:lv.length=m+2)(hm:m<800000)(hlv:qB BB lv)(hbase:yA.base<=b)(hb:t0.get b=none)(hlul:lu.length=m+3)(hlu:qB BB lu)(hcap:m+3<=cap)
  (htop:∀top,lv[m+1]?=some top->2147483648<=top) (hlt:val BB lu<BB*val BB lv) (ht:xB t0 t') (hoff:sE b t t') (ho:tF t' b .u32 (A++lu++Z))
  (hQ:∀t2 r,xB t0 t2->sE b t t2->tF t2 b .u32 (A++(r++[0])++Z)->r.length=m+2->qB BB r->val BB r=val BB lu%val BB lv->val BB lu / val BB lv<BB->Q (.int .u32 ((val BB lu / val BB lv:Nat):Int)) t2) :
  Wc yA F 311 [.slice b A.length (m+3) cap,v] t' Q:=by
 obtain⟨top,h1⟩:=getElem?_of_lt (l:=lv) (i:=m+1) (by omega);obtain⟨v2,h2⟩:=getElem?_of_lt (l:=lv) (i:=m) (by omega);obtain⟨un,h3⟩:=getElem?_of_lt (l:=lu) (i:=m+2) (by omega);obtain⟨u1,h4⟩:=getElem?_of_lt (l:=lu) (i:=m+1) (by omega);obtain⟨u2,h5⟩:=getElem?_of_lt (l:=lu) (i:=m) (by omega);have b1:top<BB:=sI hlv h1;have b2:v2<BB:=sI hlv h2;have b3:un<BB:=sI hlu h3;have b4:u1<BB:=sI hlu h4
 have b5:u2<BB:=sI hlu h5;have hBB:=xN;have c1:top<4294967296:=by omega
 have c3:un<4294967296:=by omega
 have c4:u1<4294967296:=by omega
 have htop2:=htop top h1;obtain⟨hV,hvr⟩:=top2 (B:=BB) iI hlv hl h1 h2;obtain⟨hU,hur⟩:=top3 (B:=BB) iI hlu hlul h3 h4 h5;have hVpos:0<val BB lv:=by
  have:0<(top*BB+v2)*BB^m:=Nat.mul_pos (by have:0<top*BB:=Nat.mul_pos (by omega) iI;omega) (Nat.pow_pos iI);omega
 have hq:val BB lu / val BB lv<BB:=ycu (by rw[ybh];exact hlt);have hread:lA t' 1 (vB .u32 lu) (.slice b A.length (m+3) cap):=by
  have:=ho.slice (off:=A.length) (n:=m+3) (cap:=cap) (by simp;omega) hcap;rw[ybz,List.drop_left,List.take_left' hlul]at this;exact this
 have hv':=hv.mono ht;obtain⟨d1,o1,g1,g1'⟩:=hread.idx gG h3;obtain⟨d2,o2,g2,g2'⟩:=hread.idx gG h4;obtain⟨d3,o3,g3,g3'⟩:=hv'.idx gG h1;have hun:un<=top:=by
  rcases yau top un with g | g
  ·exfalso;have e1:(un*BB)*BB*BB^m<=val BB lu:=by rw[hU,ybo,ybo,ybo];omega
   have e2:val BB lv<(top+1)*BB*BB^m:=by
    have h:top*BB+v2+1<=(top+1)*BB:=by rw[ybo];omega
    have:=ybi (BB^m) h;rw[ybo (top*BB+v2) 1,Nat.one_mul]at this;omega
   have e3:BB*val BB lv<BB*((top+1)*BB*BB^m):=Nat.mul_lt_mul_of_pos_left e2 iI;have e4:BB*((top+1)*BB*BB^m)<=un*BB*BB*BB^m:=by
    have:(top+1)*BB*BB^m<=un*BB*BB^m:=ybi _ (ybi _ g);have:=ybv BB this
    calc BB*((top+1)*BB*BB^m)<=BB*(un*BB*BB^m):=this
     _=un*BB*BB*BB^m:=by rw[<- ybj,ybh BB (un*BB)]
   omega
  ·exact g
 have hh:un*BB+u1<=top*BB+(BB-1):=by
  have:=ybi BB hun;omega
 have hge:val BB lu / val BB lv<=(un*BB+u1) / top:=kn_ge hU hur b5 hV (by omega);have hdle:(un*BB+u1) / top<=BB+1:=by
  have:un*BB+u1<(BB+2)*top:=by
   rw[ybo,ybh BB top];generalize top*BB=P at hh ⊢;generalize un*BB=R at hh ⊢;omega
  have:=ycu (show un*BB+u1<top*(BB+2) by rw[ybh top];exact this);omega
 have hrest:(un*BB+u1)%top<BB:=Nat.lt_trans (ycy _ (by omega)) b1;refine w311 ?_;have e1:((lv.length:Nat):Int)=((m+2:Nat):Int):=by rw[hl]
 have e2:((m+2:Nat):Int)-1=((m+1:Nat):Int):=by omega
 have e3:(un:Int)*4294967296=((un*4294967296:Nat):Int):=by omega
 simp (disch:=omega) only[uI,uL,uE,wB,rA,uZ,uW,t311,iA,hv'.len,xA,fB,nD,e1,g1,g1',e2,wrap_i64,g2,g2',g3,g3',vG,e3];have e4:cI Nat.lor .u64 ((un*4294967296:Nat):Int) (u1:Int)=some (.int .u64 ((un*4294967296+u1:Nat):Int)):=by
  rw[yU (k:=.u64) (show un*4294967296<yH .u64 by show _<18446744073709551616;omega) (show u1<yH .u64 by show _<18446744073709551616;omega)];have:=Ek (a:=un) (b:=u1) (n:=32) c4;rw[show un*4294967296=un*2^32 by rfl,this]
 rw[e4];simp only[xA,fB];have e5:oV .u64 ((un*4294967296+u1:Nat):Int) (top:Int)=some (.int .u64 (((un*4294967296+u1) / top:Nat):Int)):=Py (by omega) (by
  have h:(un*4294967296+u1) / top<=4294967296+1:=by rw[hBB]at hdle;exact hdle
  generalize (un*4294967296+u1) / top=z at h ⊢;exact vG (by omega) (by omega))
 rw[e5];simp only[xA,fB];rw[Kq (by omega)];simp only[xA,fB];refine WD hread hv' (by omega) h5 h2 b5 b2 (by omega) b1 hU hur hV hvr hq hh (fun d q1 q2 q3=>?_) _ _ ?_ (by rw[hBB]at hge ⊢;exact hge) (by rw[hBB]at hdle ⊢;exact hdle) (by rw[hBB]at hrest ⊢;exact hrest)
 ·refine zhz ?_;simp only[uI,uZ,BC,iA,hv'.len,xA,fB,nD,e1];have hms:=UP (t:=t) (A:=A) (Z:=Z) (lu:=lu) (lv:=lv) (v:=v) (b:=b) (cap:=cap) (d:=d) (t0:=t0) (Q:=Q) hv (by omega) hlv hbase hb q3 (by omega) hlu (by omega) ?_ lv.length 0 0 0 t' [] (by omega) ht hoff (by simpa using ho) rfl (fun x hx=>by cases hx) (by first | omega | decide) (by first | omega | decide) (by simp[val])
  ·rw[hl]at hms;exact hms
  ·intro t2 W last bo k1 k2 k3 k4 k5 k6 k7 k8;have hWall:val BB (W++[last])<BB^(lv.length+1):=by
    have:=lK (B:=BB) iI (gS k5 k6);simp only[ybg,ybn,ybx,k4]at this;exact this
   have hVlt:val BB lv<BB^lv.length:=lK iI hlv;have hdm:=ych (val BB lu) (val BB lv);have hmod:val BB lu%val BB lv<val BB lv:=ycy _ hVpos;have hWs:val BB (W++[last])=val BB W+BB^lv.length*last:=by rw[mK,k4]
   split
   ·rename_i hz;subst hz;rw[yat,yct]at k8;have hd:d=val BB lu / val BB lv:=by
     refine Nat.le_antisymm ?_ q1;rw[Nat.le_div_iff_mul_le hVpos];omega
    have hr:val BB (W++[last])=val BB lu%val BB lv:=by
     rw[hd,ybh]at k8;omega
    have hlast:last=0:=by
     rcases yav last with g | g
     ·exact g
     ·exfalso;have:=ybv (BB^lv.length) g;rw[Nat.mul_one]at this;omega
    subst hlast;rw[hd];exact hQ t2 W k1 k2 k3 (by omega) k5 (by rw[<- hr,hWs];simp) hq
   ·rename_i hz;have hbo:bo=1:=by omega
    subst hbo;rw[Nat.mul_one]at k8;have hd:d=val BB lu / val BB lv+1:=by
     refine Nat.le_antisymm q2 ?_;rcases yau (val BB lu / val BB lv) d with g | g
     ·exact g
     ·exfalso;have:d*val BB lv<=val BB lu:=Nat.le_trans (ybi _ g) (Nat.div_mul_le_self _ _);omega
    have hk9:val BB (W++[last])+val BB lv=val BB lu%val BB lv+BB^(lv.length+1):=by
     rw[hd,ybo,Nat.one_mul,ybh (val BB lu / val BB lv)]at k8;omega
    refine ZW (t:=t) (A:=A) (Z:=Z) (t0:=t0) hv (by omega) hlv hbase hb (by rw[hd];exact Nat.succ_pos _) (by omega) W k4 k5 last k6 (by omega) (fun t3 r up n1 n2 n3 n4 n5 n6=>?_) lv.length 0 0 t2 [] (by omega) k1 k2 (by simpa using k3) rfl (fun x hx=>by cases hx) (by first | omega | decide) (by simp[val])
    have hrlt:val BB r<BB^lv.length:=by
     have:=lK (B:=BB) iI n4;rw[n3]at this;exact this
    rw[hWs,yag]at hk9;have hfin:val BB r+BB^lv.length*(up+last)=val BB lu%val BB lv+BB^lv.length*BB:=by
     rw[ybm];omega
    have hsplit:up+last=BB/\val BB r=val BB lu%val BB lv:=by
     have hmlt:val BB lu%val BB lv<BB^lv.length:=by omega
     have hB:0<BB^lv.length:=by omega
     have e1:(val BB r+BB^lv.length*(up+last)) / BB^lv.length=up+last:=by rw[Nat.add_mul_div_left _ _ hB,Nat.div_eq_of_lt hrlt];simp
     have e2:(val BB lu%val BB lv+BB^lv.length*BB) / BB^lv.length=BB:=by rw[Nat.add_mul_div_left _ _ hB,Nat.div_eq_of_lt hmlt];simp
     rw[hfin,e2]at e1;refine⟨e1.symm,?_⟩;rw[<- e1]at hfin;omega
    have hl0:(last+up)%BB=0:=by rw[yap,hsplit.1];exact Nat.mod_self _
    rw[hl0]at n2;have hd1:d-1=val BB lu / val BB lv:=by rw[hd];exact Nat.add_sub_cancel _ _
    rw[hd1];exact hQ t3 r (k1.off hb (fun c hc=>by
     rw[n1 c hc,<- k2 c hc])) n1 n2 (by omega) n4 hsplit.2 hq
 ·rw[ybh,hBB];exact ych _ _
end
end Go.Proofs
namespace Go.Am
def OT{B p K:Nat}(hB:B=p*K)(hp:0<p)(hK:0<K){x y:Nat}{l:List Nat}(hx:x<B) :
  val B (x::y::l) / p=(y*B+x) / p%B+B*(val B (y::l) / p):=by
 have e1:val B (x::y::l)=x+p*(K*val B (y::l)):=by
  show x+B*val B (y::l)=_;rw[hB,ybj]
 have e2:y*B+x=x+p*(K*y):=by rw[hB,yap,ybh y,ybj]
 have e3:val B (y::l)%p=y%p:=by
  show(y+B*val B l)%p=_;rw[hB,ybj,Nat.add_mul_mod_self_left]
 have e4:K*y=K*(y%p)+B*(y / p):=by
  grind [Nat.div_add_mod]
 have e5:K*val B (y::l)=K*(y%p)+B*(val B (y::l) / p):=by
  grind [Nat.div_add_mod]
 have e6:x / p<K:=ycu (by omega);have e7:x / p+K*(y%p)<B:=by
  have h1:y%p<p:=ycy _ hp;have h2:K*(y%p+1)<=K*p:=ybv _ h1
  grind
 rw[e1,Nat.add_mul_div_left _ _ hp,e2,Nat.add_mul_div_left _ _ hp,e4,<- Nat.add_assoc,Nat.add_mul_mod_self_left,Nat.mod_eq_of_lt e7,e5,<- Nat.add_assoc]
end Go.Am
namespace Go.Proofs
open Go Go.Am
variable [lC]
variable {t:Tr qA}
theorem QK{l:List Nat}{b L lo hi:Nat}(ho:tF t b .u32 l)(h1:lo<=hi)(h2:hi<=L)(h3:lo<L) :
  qE yA 268 ⟨0,t⟩ (.slice b 0 L L) (some (.int .i64 (lo:Int))) (some (.int .i64 (hi:Int)))=some (.slice b lo (hi-lo) (L-lo)):=by
 obtain⟨c,hg,_⟩:=ho;obtain⟨⟨y,hy1,hy2⟩,⟨z,hz1,hz2,hz3⟩⟩:=gG;unfold qE;rw[hy1,pA];have hb:∀y (k:Nat),eV y (.int .i64 (k:Int))=pB (Nat.ble k y) (some k):=fun y k=>rfl;unfold vM;simp only[zA.asStr,zA.asSlice];rw[hy2,pA];unfold sN;rw[hz1,pA];unfold iO Ac;simp only[hb];rw[show Nat.ble hi L=true from mE.2 h2];simp only[vE,pA];rw[show Nat.ble lo hi=true from mE.2 h1];simp only[vE,pA];have he2:nL ⟨0,t⟩ b z.size L lo false=false:=by
  unfold nL mD;rw[hg,pA];rfl
 rw[he2,yay,cond_false];have hf:wM ⟨0,t⟩ b z.size L lo false=true:=by
  unfold wM mD;rw[hg,pA];rfl
 rw[show Nat.ble hi L=true from mE.2 h2,hf];simp only[Bool.and_self,vE];have hq:Nat.beq L lo=false:=by
  grind [oC]
 rw[hq,cond_false,hz2,Nat.mul_one,ybw]
theorem OU{qv:zA}{Z c:List Nat}{b n s L cn:Nat}{Q:aB}(hn:n<900000)(hc:c.length=n+1)(hcl:qB BB c)(hcn:c[n]?=some cn)(hbase:yA.base<=b)(hs:s<32)(hL:n+1<=L)
  (hexit:∀t' W,sE b t t'->tF t' b .u32 (W++[cn]++Z)->W.length=n->qB BB W->val BB W+BB^n*(cn / 2^s)=val BB c / 2^s->jp 297 6 [.int .i64 (n:Int),.int .i64 (s:Int),.slice b 0 L L,qv,.int .i64 (n:Int),.int .i64 (n:Int)] t' Q) :
  ∀(k i:Nat) (t':Tr qA) (W:List Nat),i+k=n->sE b t t'->tF t' b .u32 (W++c.drop i++Z)->W.length=i->qB BB W->val BB W+BB^i*(val BB (c.drop i) / 2^s)=val BB c / 2^s →
  jp 297 6 [.int .i64 (n:Int),.int .i64 (s:Int),.slice b 0 L L,qv,.int .i64 (n:Int),.int .i64 (i:Int)] t' Q:=by
 intro k;induction k with
 | zero=>
  intro i t' W hi hoff ho hW hWl hval;have hi':i=n:=by omega
  subst hi';have hd:c.drop i=[cn]:=by
   rw[drop_cons' hcn,ybt (by omega)]
  grind [val]
 | succ k ih=>
  intro i t' W hi hoff ho hW hWl hval;have hBB:=xN;obtain⟨x,hx⟩:=getElem?_of_lt (l:=c) (i:=i) (by omega);obtain⟨y,hy⟩:=getElem?_of_lt (l:=c) (i:=i+1) (by omega);have hx32:x<4294967296:=by have:=sI hcl hx;omega
  have hy32:y<4294967296:=by have:=sI hcl hy;omega
  have hd1:c.drop (i+1)=y::c.drop (i+2):=drop_cons' hy;have hd0:c.drop i=x::y::c.drop (i+2):=by rw[drop_cons' hx,hd1]
  have m0:=Fj (A:=W) (w:=c.drop i) (Z:=Z) (j:=0) (x:=x) (by grind);have m1:=Fj (A:=W) (w:=c.drop i) (Z:=Z) (j:=1) (x:=y) (by grind);rw[hW]at m0 m1;rw[yct]at m0;have g0:=Cl gG (b:=b) (n:=L) (cap:=L) (j:=i) (by omega);have g1:=Cl gG (b:=b) (n:=L) (cap:=L) (j:=i+1) (by omega);have l0:=ho.load (C:=yA) m0 qH rfl;have l1:=ho.load (C:=yA) m1 qH rfl;have ei:(i:Int)+1=((i+1:Nat):Int):=by omega
  have e2:(y:Int)*4294967296=((y*4294967296:Nat):Int):=by omega
  obtain⟨t1,s1,s2,s3⟩:=ho.store (C:=yA) hbase (j:=i) (by grind) ((y*4294967296+x) / 2^s%4294967296) qH rfl;have hset:=Jv (A:=W) (w:=c.drop i) (Z:=Z) (j:=0) (x:=(y*4294967296+x) / 2^s%4294967296) (by grind);rw[yct,hW]at hset;rw[hset]at s2;refine zeq ?_;simp only[uL,uE,wB,rA,sB,uZ,Sw,iA,wC];rw[yab (by omega)];simp (disch:=omega) only[ei,wrap_i64,g0,g1,xA,l0,l1,fB]
  rw[vG (n:=(y:Int)) (by omega) (by omega),e2,vG (n:=((y*4294967296:Nat):Int)) (by omega) (by omega),vG (n:=(x:Int)) (by omega) (by omega),or32 hy32 hx32,xA,fB,xA,JB (by omega),xA,fB,xA];have e3:jA .u32 (((y*4294967296+x) / 2^s:Nat):Int)=(((y*4294967296+x) / 2^s%4294967296:Nat):Int):=by
   grind [dS]
  rw[e3];intro _ _ _;rw[s1,xA];have hw:(y*4294967296+x) / 2^s%4294967296<BB:=by omega
  refine ih (i+1) t1 (W++[(y*4294967296+x) / 2^s%4294967296]) (by omega) (hoff.trans s3) ?_ (by simp[hW]) (gS hWl hw) ?_
  ·grind
  ·have hst:=OT (B:=BB) (p:=2^s) (K:=2^(32-s)) (by rw[<- Nat.pow_add,show s+(32-s)=32 by omega,hBB]) (Nat.pow_pos (by decide)) (Nat.pow_pos (by decide)) (x:=x) (y:=y) (l:=c.drop (i+2)) (by omega);rw[<- hval,hd0,hst,mK,hW,hd1,yag,ybm,hBB];grind
end Go.Proofs
namespace Go.Proofs
open Go Go.Am
variable [lC]
variable {t:Tr qA}
theorem XZ{lv:List Nat}{v:zA}{b bq m s L Lq U:Nat}{t0:Tr qA}{Q:aB}(hv:lA t0 1 (vB .u32 lv) v)(hl:lv.length=m+2)(hm:m<800000)(hlv:qB BB lv)(hbase:yA.base<=b)(hbaseq:yA.base<=bq)(hb:t0.get b=none)(hbq:t0.get bq=none)(hne:b≠bq)(hL:L<1000000)
  (htop:∀top,lv[m+1]?=some top->2147483648<=top) (hVpos:0<val BB lv)
  (hexit:∀t' q r Z,xB t0 t'->tF t' b .u32 (r++[0]++Z)->tF t' bq .u32 q->r.length=m+2->qB BB r->qB BB q->q.length=Lq->m+3+Z.length=L->val BB r<val BB lv->U=val BB lv*val BB q+val BB r->jp 297 6 [.int .i64 ((m+2:Nat):Int),.int .i64 (s:Int),.slice b 0 L L,.slice bq 0 Lq Lq,.int .i64 ((m+2:Nat):Int),.int .i64 0] t' Q) :
  ∀(j:Nat) (A c Z Qd:List Nat) (t':Tr qA),A.length=j->c.length=m+3->qB BB A->qB BB c->qB BB Qd->A.length+(m+3)+Z.length=L->j+1+Qd.length=Lq->val BB c<BB*val BB lv->xB t0 t'->tF t' b .u32 (A++c++Z)->tF t' bq .u32 (List.replicate (j+1) 0++Qd)->U=val BB lv*(BB^(j+1)*val BB Qd)+val BB (A++c) →
  jp 297 2 [.int .i64 ((m+2:Nat):Int),.int .i64 (s:Int),v,.slice b 0 L L,.slice bq 0 Lq Lq,.int .i64 (j:Int)] t' Q:=by
 intro j;induction j using Nat.strongRecOn with
 | ind j ih=>
  intro A c Z Qd t' hA hc hAl hcl hQl hLen hLq hlt ht ho hoq hU;have gs:=QK (b:=b) (L:=L) (lo:=j) (hi:=j+(m+2)+1) ho (by omega) (by omega) (by omega);rw[show j+(m+2)+1-j=m+3 by omega]at gs;have e1:(j:Int)+((m+2:Nat):Int)=((j+(m+2):Nat):Int):=by omega
  have e2:((j+(m+2):Nat):Int)+1=((j+(m+2)+1:Nat):Int):=by omega
  refine zer ?_;simp only[uL,wB,uZ,uW,Sx,iA,iD];rw[yab (by omega)];simp (disch:=omega) only[e1,wrap_i64,e2,gs,xA,q311];subst hA;refine zcy (A:=A) (Z:=Z) (t:=t') (t0:=t0) hv hl hm hlv hbase hb hc hcl (by omega) htop hlt ht (sE.refl _ _) ho (fun t2 r k1 k2 k3 k4 k5 k6 k7=>?_);have hoq2:=hoq.off (fun e=>hne e.symm) k2;have g1:=Cl gG (b:=bq) (n:=Lq) (cap:=Lq) (j:=A.length) (by omega)
  obtain⟨t3,s1,s2,s3⟩:=hoq2.store (C:=yA) hbaseq (j:=A.length) (by grind) (val BB c / val BB lv) qH rfl;have hset:(List.replicate (A.length+1) 0++Qd).set A.length (val BB c / val BB lv)=List.replicate A.length 0++((val BB c / val BB lv)::Qd):=by
   simp_all [List.replicate_succ']
  rw[hset]at s2;rw[fB,xA,g1,xA];intro _ _ _;rw[s1,xA];have ho3:=k3.off hne s3;have ht3:=k1.off hbq s3;have hr:val BB r<val BB lv:=by grind [Nat.mod_lt]
  have hdm:=ych (val BB c) (val BB lv);have hU2:U=val BB lv*(BB^A.length*val BB ((val BB c / val BB lv)::Qd))+val BB (A++r):=by
   grind [Du,val]
  rcases hA:A.length with _ | j'
  ·have hnil:A=[]:=List.eq_nil_of_length_eq_zero hA;subst hnil;refine zer ?_;have e3:((0:Nat):Int)-1 = -1:=by omega
   rw[e3];simp only[uL,wB,uZ,uW,Sx,iA,iD];rw[yaa (by omega)];refine hexit t3 _ r Z ht3 (by simp_all) (by omega) k4 k5 (fun x hx=>?_) (by grind) (by omega) hr (by simp_all);rcases ybs.1 hx with rfl | hx
   ·exact k7
   ·exact hQl x hx
  ·obtain⟨x,hx⟩:=getElem?_of_lt (l:=A) (i:=j') (by omega);have hAx:A=A.take j'++[x]:=by
    rw[<- bS hx,yca (by omega)]
   have hxB:x<BB:=sI hAl hx;have e3:((j'+1:Nat):Int)-1=(j':Int):=by omega
   rw[e3];have hvx:val BB (x::r)=x+BB*val BB r:=rfl;refine ih j' (by omega) (A.take j') (x::r) (0::Z) ((val BB c / val BB lv)::Qd) t3 (by grind) (by simp[k4]) (Ah hAl _) (fun y hy=>?_) (fun y hy=>?_) (by grind) (by grind) ?_ ht3 ?_ ?_ ?_
   ·rcases ybs.1 hy with rfl | hy
    ·exact hxB
    ·exact k5 y hy
   ·rcases ybs.1 hy with rfl | hy
    ·exact k7
    ·exact hQl y hy
   ·rw[hvx];have:=ybv BB hr;rw[Nat.mul_succ]at this;omega
   ·have:A.take j'++x::r++0::Z=A++(r++[0])++Z:=by
     conv=>rhs;rw[hAx]
     simp
    grind
   ·grind
   ·rw[hU2,hA];have:A++r=A.take j'++x::r:=by
     grind
    rw[this]
end Go.Proofs
namespace Go.Am
def XY{a b q R p:Nat}(hp:0<p)(h:a*p=b*p*q+R)(hR:R<b*p):a=b*q+R / p/\R / p<b:=by
 have h1:p ∣ R:=(Nat.dvd_add_right (⟨b*q,by rw[ybh b p,ybj]⟩:p ∣ b*p*q)).1 (h ▸ ⟨a,ybh a p⟩);obtain⟨R',rfl⟩:=h1;rw[Nat.mul_div_cancel_left _ hp];refine⟨Nat.eq_of_mul_eq_mul_left hp ?_,Nat.lt_of_mul_lt_mul_left (a:=p) ?_⟩
 all_goals grind
def div_v{B p K n top:Nat}{b rb:List Nat}(hB:B=p*K)(hp:0<p)(hlt:qB B b)(hl:b.length=n+1)(htop:b[n]?=some top)(ht:top*p<B)(hbig:B<=2*(top*p))(hrl:qB B rb)(hrb:rb.length=n+2)(hv:val B rb=val B b*p) :
  val B (rb.take (n+1))=val B b*p/\∀x,(rb.take (n+1))[n]?=some x->B<=2*x:=by
 have hB0:0<B:=by omega
 have hbv:val B b=val B (b.take n)+B^n*top:=by
  have:=Be B b n
  simp_all [drop_cons',ybt,val]
 have hlow:val B (b.take n)<B^n:=by
  have:=lK hB0 (Ah hlt n)
  simp_all
 have hK:top<K:=by
  simp_all [ybh]
 have hup:val B b*p<B^(n+1):=by
  have h1:val B b<B^n*(top+1):=by grind
  have h2:B^n*(top+1)<=B^n*K:=ybv _ hK;have h3:val B b*p<B^n*K*p:=Nat.mul_lt_mul_of_pos_right (by omega) hp
  grind
 have hsplit:=Be B rb (n+1);have htl:(rb.take (n+1)).length=n+1:=by grind
 rw[htl]at hsplit;have hz:val B (rb.drop (n+1))=0:=by
  rcases yav (val B (rb.drop (n+1)))with h | h
  ·exact h
  ·exfalso;have:=ybv (B^(n+1)) h;omega
 have hval:val B (rb.take (n+1))=val B b*p:=by simp_all
 refine⟨hval,fun x hx=>?_⟩;have h1:val B (rb.take (n+1))=val B ((rb.take (n+1)).take n)+B^n*x:=by
  have:=Be B (rb.take (n+1)) n
  simp_all [drop_cons',ybt,val]
 have h2:val B ((rb.take (n+1)).take n)<B^n:=by
  grind [lK,Ah]
 have h3:B^n*(top*p)<=val B b*p:=by
  grind [Nat.add_mul]
 have h4:B^n*(top*p)<B^n*(x+1):=by grind
 have h5:top*p<x+1:=Nat.lt_of_mul_lt_mul_left h4;omega
def div_u{B p n j:Nat}{a b ru:List Nat}(hB0:0<B)(hal:qB B a)(hb:B^n<=val B b)(hj:a.length=j+(n+1))(hru:ru.length=a.length+1)(hp:0<p)(hv:val B ru=val B a*p):val B (ru.drop j)<B*(val B b*p):=by
 have h1:=Be B ru j;have htl:(ru.take j).length=j:=by grind
 rw[htl]at h1;have h2:val B a<B^(j+(n+1)):=by grind [lK]
 have h3:val B a*p<B^(j+(n+1))*p:=Nat.mul_lt_mul_of_pos_right h2 hp;have h4:B^(j+(n+1))*p=B^j*(B*(B^n*p)):=by
  rw[Nat.pow_add,yag,ybh (B^n) B,ybj,ybj]
 have h5:B^j*val B (ru.drop j)<B^j*(B*(B^n*p)):=by omega
 have h6:=Nat.lt_of_mul_lt_mul_left h5;have h7:B*(B^n*p)<=B*(val B b*p):=ybv _ (ybi _ hb);omega
end Go.Am
namespace Go.Proofs
open Go Go.Am
variable [lC]
variable {t:Tr qA}
theorem BZ{l:List Nat}{b L hi:Nat}(ho:tF t b .u32 l)(h2:hi<=L)(h3:0<L) :
  qE yA 268 ⟨0,t⟩ (.slice b 0 L L) none (some (.int .i64 (hi:Int)))=some (.slice b 0 hi L):=by
 obtain⟨c,hg,_⟩:=ho;obtain⟨⟨y,hy1,hy2⟩,⟨z,hz1,hz2,hz3⟩⟩:=gG;unfold qE;rw[hy1,pA];have hb:∀y (k:Nat),eV y (.int .i64 (k:Int))=pB (Nat.ble k y) (some k):=fun y k=>rfl;unfold vM;simp only[zA.asStr,zA.asSlice];rw[hy2,pA];unfold sN;rw[hz1,pA];unfold iO Ac;simp only[hb];rw[show Nat.ble hi L=true from mE.2 h2];simp only[vE,pA];have he2:nL ⟨0,t⟩ b z.size L 0 false=false:=by
  unfold nL mD;rw[hg,pA];rfl
 rw[he2,yay,cond_false];have hf:wM ⟨0,t⟩ b z.size L 0 false=true:=by
  unfold wM mD;rw[hg,pA];rfl
 grind [mE,vE]
theorem RC{b o n c:Nat}:same 10 (.slice b o n c) (.slice b o n c)=true:=by
 simp[same]
theorem XX{q W Z:List Nat}{b bq n s L Lq:Nat}{Q:aB}(ho:tF t b .u32 (W++[0]++Z))(hoq:tF t bq .u32 q)(hW:W.length=n)(hn:n<1000000)(hL:n+1+Z.length=L)(hq:q.length=Lq)(hLq:Lq<1000000)
  (hQ:∀qv rv,lA t 1 (vB .u32 (zE q)) qv->lA t 1 (vB .u32 (zE W)) rv->Q (.tup [qv,rv]) t) :
  jp 297 6 [.int .i64 (n:Int),.int .i64 (s:Int),.slice b 0 L L,.slice bq 0 Lq Lq,.int .i64 (n:Int),.int .i64 (n:Int)] t Q:=by
 have e1:=BZ (L:=L) (hi:=n) ho (by omega) (by omega);have e2:lA t 1 (vB .u32 W) (.slice b 0 n L):=by
  have:=ho.slice (off:=0) (n:=n) (cap:=L) (by grind) (by omega)
  simp_all
 have e3:lA t 1 (vB .u32 q) (.slice bq 0 Lq Lq):=by
  have:=hoq.all (cap:=Lq) (by omega)
  simp_all
 obtain⟨qv,f1,f2⟩:=Bl (by omega) e3;obtain⟨rv,f3,f4⟩:=Bl (by omega) e2;refine zeq ?_;simp only[uL,uE,wB,rA,sB,uZ,Sw,iA,wC];rw[yaa (by omega)];simp only[e1,xA,Ey,f1,f3];grind [RC]
theorem KY{a b:List Nat}{u v:zA}{Q:aB}(hu:lA t 1 (vB .u32 a) u)(hv:lA t 1 (vB .u32 b) v)(ha:a.length<700000)(hal:qB BB a)(hbl:qB BB b)(han:norm a)(hbn:norm b)(hb0:b≠[])
  (hQ:∀t' q r qv rv,xB t t'->lA t' 1 (vB .u32 q) qv->lA t' 1 (vB .u32 r) rv->qB BB q->qB BB r->norm q->norm r->val BB a=val BB b*val BB q+val BB r->val BB r<val BB b->Q (.tup [qv,rv]) t') :
  Wc yA F 297 [u,v] t Q:=by
 have hBB:=xN;have hB1:1<BB:=by omega
 have hlt:=Yu hB1 hal hbl han hbn;refine w297 ?_;simp only[uI,uL,wB,rA,iG,uX,uZ,uW,t297,iA,q295,zfp (by omega) hu hv,xA,fB,wC];by_cases hc:dH a b<0
 ·rw[yab hc];simp only[q309];refine zdb hu (by omega) fun t' v' h1 h2=>?_;exact hQ t' [] a _ _ h1 ⟨[],.inl ⟨rfl,rfl⟩,by simp[vB,jC]⟩ h2 (fun x hx=>by cases hx) hal (fun h=>absurd rfl h) han (by simp[val]) (hlt.1 hc)
 ·rw[yaa hc];have hge:val BB b<=val BB a:=Nat.le_of_not_lt fun h=>hc (hlt.2 h);have hlen:b.length<=a.length:=eM hB1 hal hbn hge;simp only[hv.len,xA,fB,nD,wE];by_cases h1:b.length=1
  ·rw[yab (by omega)];obtain⟨d,rfl⟩:∃d,b=[d]:=by
    match b,h1 with
    | [d],_=>simp_all
   have hd:d<4294967296:=by have:=hbl d (by simp);omega
   have hd0:0<d:=by have:=hbn (by simp);grind
   obtain⟨c,off,g1,g2⟩:=hv.idx gG (i:=0) (x:=d) rfl;have g1':bC yA 268 v (.int .i64 0)=some (.ptr c off):=g1;simp only[g1',g2,xA,fB,q254];refine KX hu (by omega) (by simp_all) hd hd0 fun t' v' q r k1 k2 k3 k4 k5 k6=>?_;simp only[zG,zA.asTup,pA,dG,yaz,yba,xA,fB];intro b' hb' _;obtain⟨H',m1,m2,m3⟩:=Cf (k:=.u32) vP rfl qH rfl rfl r trivial hb'
   have hR:=m2.all (cap:=1) (by simp);obtain⟨rv,f1,f2⟩:=Bl (by simp) hR;have f1':rB yA F 270 [.slice b' 0 1 1] H'.t=some rv:=f1;rw[m1];simp only[xA,Ey,f1'];rw[<- hBB]at k3 k6;have hrl:qB BB [r]:=fun x hx=>by grind
   refine hQ H'.t (zE q) (zE [r]) v' rv (k1.trans m3) (k2.mono m3) f2 (iS k3) (iS hrl) (dQ _) (dQ _) ?_ ?_
   all_goals grind [nQ,val]
  ·rw[yaa (by omega)];have hbpos:0<b.length:=List.length_pos_iff.2 hb0;obtain⟨m,hm⟩:∃m,b.length=m+2:=⟨b.length-2,by omega⟩;obtain⟨j,hj⟩:∃j,a.length=j+(m+2):=⟨a.length-(m+2),by omega⟩;obtain⟨top,htop⟩:=getElem?_of_lt (l:=b) (i:=m+1) (by omega);have htlt:top<4294967296:=by have:=sI hbl htop;omega
   have ht0:0<top:=by
    have:=hbn hb0
    grind
   obtain⟨s,hs,hs1,hs2,hs3⟩:=FY (t:=t) htlt ht0;obtain⟨c,off,g1,g2⟩:=hv.idx gG htop;have eb:((m+2:Nat):Int)-1=((m+1:Nat):Int):=by omega
   simp (disch:=omega) only[hm,eb,wrap_i64,g1,g2,xA,fB,q307,hs3,q310];refine CJ hv (by omega) (by simp_all) hs fun t1 b1 rb k1 k2 k3 k4 k5 k6 k7=>?_;rw[<- hBB]at k6 k7;rw[hm]at k5 ⊢;have hK:BB=2^s*2^(32-s):=by rw[<- Nat.pow_add,show s+(32-s)=32 by omega,hBB]
   have hp:0<2^s:=Nat.pow_pos (by decide);obtain⟨w1,w2⟩:=div_v (n:=m+1) hK hp hbl hm htop (by omega) (by omega) k6 k5 k7;have e1:=BZ (L:=m+2+1) (hi:=m+2) k4 (by omega) (by omega);have hv1:lA t1 1 (vB .u32 (rb.take (m+2))) (.slice b1 0 (m+2) (m+2+1)):=by
    have:=k4.slice (off:=0) (n:=m+2) (cap:=m+2+1) (by omega) (by omega)
    simp_all
   simp only[e1,xA];refine CJ (hu.mono k1) (by omega) (by simp_all) hs fun t2 b2 ra n1 n2 n3 n4 n5 n6 n7=>?_;rw[<- hBB]at n6 n7;rw[hj]at n5 ⊢;have ea:((j+(m+2):Nat):Int)-((m+2:Nat):Int)=(j:Int):=by omega
   have ea2:(j:Int)+1=((j+1:Nat):Int):=by omega
   simp (disch:=omega) only[hu.len,nD,hj,xA,fB,ea,ea2,wrap_i64];intro bq hbq hbaseq;obtain⟨t3,p1,p2,p3,p4⟩:=sZ (C:=yA) (k:=.u32) vP rfl qH rfl rfl (by decide) (n:=j+1) (by omega) hbq;rw[p1];have el:cA (.slice bq 0 (j+1) (j+1))=some (.int .i64 ((j+1:Nat):Int)):=rfl;have el2:((j+1:Nat):Int)-1=(j:Int):=by omega
   simp (disch:=omega) only[xA,el,fB,el2,wrap_i64];have hne:b2≠bq:=by
    intro e;obtain⟨c,hc1,_⟩:=n4
    simp_all
   have hbq1:t1.get bq=none:=by
    cases hg:t1.get bq with
    | none=>rfl
    | some x=>rw[n1 _ _ hg]at hbq;cases hbq
   have hVpos:0<val BB (rb.take (m+2)):=by
    rw[w1];refine Nat.mul_pos ?_ hp;have:=Dr (B:=BB) hbn hb0
    grind
   have hbge:BB^(m+1)<=val BB b:=by
    have:=Dr (B:=BB) hbn hb0
    simp_all
   have hcl:=div_u (n:=m+1) (j:=j) (p:=2^s) iI hal hbge (by omega) (by omega) hp n7;have hta:ra.take j++ra.drop j=ra:=List.take_append_drop _ _;refine XZ (U:=val BB ra) hv1 (by grind) (by omega) (Ah k6 _) n3 hbaseq n2 hbq1 hne (by omega) (fun x hx=>by grind) hVpos (fun t4 q r Z z1 z2 z3 z4 z5 z6 z7 z8 z9 z10=>?_) j (ra.take j) (ra.drop j) [] [] t3 (by grind) (by grind) (Ah n6 _) (NI n6 _) (fun x hx=>by cases hx) (by grind) (by simp) ?_ (n1.trans p3) ?_ (by simp_all) ?_
   ·have hcl2:qB BB (r++[0]):=gS z5 iI;refine OU (t:=t4) (Z:=Z) (c:=r++[0]) (cn:=0) (by omega) (by simp[z4]) hcl2 (by simp_all) n3 hs (by omega) (fun t5 W y1 y2 y3 y4 y5=>?_) (m+2) 0 t4 [] (by omega) (sE.refl _ _) (by simp_all) rfl (fun x hx=>by cases hx) (by rw[ycr,Nat.pow_zero,Nat.one_mul];exact ybw _);have y6:val BB W=val BB r / 2^s:=by
     grind [mK,Nat.zero_div]
    rw[w1]at z9 z10;rw[n7]at z10;obtain⟨x1,x2⟩:=XY hp z10 z9;refine XX y2 (z3.off (fun e=>hne e.symm) y1) y3 (by omega) (by omega) z7 (by omega) fun qv rv x3 x4=>?_;have ht5:xB t t5:=k1.trans (z1.off n2 y1)
    grind [iS,dQ,nQ]
   ·simp_all
   ·rw[hta,ycd];exact n4.tle p3
   simp_all [val]
end Go.Proofs
namespace Go.Am
def wd (l:List Nat)(i:Nat):Nat:=(l[i]?).getD 0
def Bc{B:Nat}(hB:0<B){l:List Nat}(h:qB B l)(i:Nat):wd l i<B:=by
 unfold wd
 cases hx:l[i]? with
 | none=>exact hB
 | some x=>exact sI h hx
def Hy(B:Nat)(l:List Nat)(i:Nat):val B (l.take (i+1))=val B (l.take i)+B^i*wd l i:=by
 unfold wd
 cases hx:l[i]? with
 | none=>
  grind [List.take_of_length_le]
 | some x=>
  have hi:=(ybc.1 hx).1;rw[bS hx,mK];grind
def YC{B P u v Va Vb w x y bo ai bi x' y' lx ly bo' W:Nat}(h:W+P*x+v*Vb=u*Va+P*(y+bo))(hx:B*x'+lx=x+u*ai)(hy:B*y'+ly=y+v*bi)(hw:lx+B*bo'=w+ly+bo) :
  (W+P*w)+P*B*x'+v*(Vb+P*bi)=u*(Va+P*ai)+P*B*(y'+bo'):=by
 grind
theorem zc4{P W x z X Y:Nat}(h:W+P*x+Y=X+P*z)(hW:W<P)(hX:X<P)(hle:Y<=X):W=X-Y:=by
 rcases Nat.lt_trichotomy x z with g | g | g
 ·have:=ybv P g
  grind
 ·grind
 ·have:=ybv P g
  grind
def MD{B u x a:Nat}(hx:x<=u)(ha:a<B):(x+u*a) / B<=u:=by
 have h:x+u*a<=u*B:=by
  have:=ybv u (Nat.succ_le_of_lt ha)
  grind
 simp_all [Nat.div_le_of_le_mul,ybh]
end Go.Am
namespace Go.Proofs
open Go Go.Am
variable [lC]
variable {t:Tr qA}
theorem EF{x u a:Nat}(hx:x<=u)(hu:u<4294967296)(ha:a<4294967296):jA .u64 ((x:Int)+jA .u64 ((u:Int)*jA .u64 (a:Int)))=((x+u*a:Nat):Int):=by
 have h:u*a<=4294967295*4294967295:=ydb (by omega) (by omega)
 grind [vG]
theorem YB{la lb:List Nat}{pa pb w:zA}{u v x y bo n i:Nat}{Q:aB}(ha:lA t 1 (vB .u32 la) pa)(hb:lA t 1 (vB .u32 lb) pb)(hal:qB BB la)(hbl:qB BB lb)(hu:u<4294967296)(hv:v<4294967296)(hx:x<=u)(hy:y<=v)(hi:i<n)
  (h:jp 298 21 [.int .u64 (u:Int),pa,.int .u64 (v:Int),pb,w,.int .u64 ((x+u*wd la i:Nat):Int),.int .u64 ((y+v*wd lb i:Nat):Int),.int .u32 (bo:Int),.int .i64 (i:Int),.int .i64 (n:Int),.int .i64 (i:Int)] t Q) :
  jp 298 2 [.int .u64 (u:Int),pa,.int .u64 (v:Int),pb,w,.int .u64 (x:Int),.int .u64 (y:Int),.int .u32 (bo:Int),.int .i64 (n:Int),.int .i64 (i:Int)] t Q:=by
 have hBB:=xN;have second:jp 298 17 [.int .u64 (u:Int),pa,.int .u64 (v:Int),pb,w,.int .u64 ((x+u*wd la i:Nat):Int),.int .u64 (y:Int),.int .u32 (bo:Int),.int .i64 (i:Int),.int .i64 (n:Int),.int .i64 (i:Int)] t Q:=by
  refine zh3 ?_;simp only[uI,uL,wB,rA,uZ,BE,iA,hb.len,xA,fB,nD,wC];by_cases hlen:i<lb.length
  ·obtain⟨z,hz⟩:=getElem?_of_lt hlen;have hz32:z<4294967296:=by have:=sI hbl hz;omega
   obtain⟨c,off,g1,g2⟩:=hb.idx gG hz
   grind [xA,fB,EF,wd]
  grind [wd]
 refine zep ?_;simp only[uI,uL,wB,rA,uZ,Sv,iA,wC];rw[yab (by omega)];simp only[ha.len,xA,fB,nD];by_cases hlen:i<la.length
 ·obtain⟨z,hz⟩:=getElem?_of_lt hlen;have hz32:z<4294967296:=by have:=sI hal hz;omega
  obtain⟨c,off,g1,g2⟩:=ha.idx gG hz
  grind [xA,fB,EF,wd]
 grind [wd]
end Go.Proofs
namespace Go.Proofs
open Go Go.Am
section
variable [lC]
variable {t:Tr qA}
theorem YD{la lb:List Nat}{pa pb:zA}{b u v n:Nat}{t0:Tr qA}{Q:aB}(ha:lA t0 1 (vB .u32 la) pa)(hb:lA t0 1 (vB .u32 lb) pb)(hal:qB BB la)(hbl:qB BB lb)(hu:u<4294967296)(hv:v<4294967296)(hn:n<1000000)(hbase:yA.base<=b)(hb0:t0.get b=none)
  (hQ:∀t' W rv x z,xB t0 t'->lA t' 1 (vB .u32 (zE W)) rv->W.length=n->qB BB W->val BB W+BB^n*x+v*val BB (lb.take n)=u*val BB (la.take n)+BB^n*z->Q rv t') :
  ∀(k i x y bo:Nat) (t':Tr qA) (W:List Nat),i+k=n->xB t0 t'->tF t' b .u32 (W++List.replicate k 0)->W.length=i->qB BB W->x<=u->y<=v->bo<2->val BB W+BB^i*x+v*val BB (lb.take i)=u*val BB (la.take i)+BB^i*(y+bo) →
  jp 298 2 [.int .u64 (u:Int),pa,.int .u64 (v:Int),pb,.slice b 0 n n,.int .u64 (x:Int),.int .u64 (y:Int),.int .u32 (bo:Int),.int .i64 (n:Int),.int .i64 (i:Int)] t' Q:=by
 intro k;have hBB:=xN
 induction k with
 | zero=>
  intro i x y bo t' W hi ht ho hW hWl hx hy hbo hval;have hi':i=n:=by omega
  subst hi';have e3:lA t' 1 (vB .u32 W) (.slice b 0 i i):=by
   rw[List.replicate_zero,ycd]at ho;have:=ho.all (cap:=i) (by omega)
   simp_all
  obtain⟨rv,f1,f2⟩:=Bl (by omega) e3;refine zep ?_;simp only[uI,uL,wB,rA,uZ,Sv,iA,wC];rw[yaa (by omega)];simp only[Ey,f1,xA];grind
 | succ k ih=>
  intro i x y bo t' W hi ht ho hW hWl hx hy hbo hval;refine YB (ha.mono ht) (hb.mono ht) hal hbl hu hv hx hy (by omega) ?_;have wa:=Bc iI hal i;have wb:=Bc iI hbl i;have cx:=MD hx wa;have cy:=MD hy wb;have va:=Hy BB la i;have vb:=Hy BB lb i;generalize wd la i=ai at *;generalize wd lb i=bi at *;generalize hX:x+u*ai=X at *;generalize hY:y+v*bi=Y at *
  have ex:jA .u32 (X:Int)=((X%4294967296:Nat):Int):=by rw[dS];omega
  have ey:jA .u32 (Y:Int)=((Y%4294967296:Nat):Int):=by rw[dS];omega
  have fx:Int.fdiv (X:Int) 4294967296=((X / 4294967296:Nat):Int):=dZ X 4294967296;have fy:Int.fdiv (Y:Int) 4294967296=((Y / 4294967296:Nat):Int):=dZ Y 4294967296;have hs:=zaz (t:=t') (x:=X%4294967296) (y:=Y%4294967296) (b:=bo) (ycy _ (by decide)) (ycy _ (by decide)) hbo;obtain⟨w,hw⟩:∃w,w=(X%4294967296+8589934592-Y%4294967296-bo)%4294967296:=⟨_,rfl⟩;obtain⟨bo',hbo'⟩:∃bo':Nat,bo'=if X%4294967296<Y%4294967296+bo then 1 else 0:=⟨_,rfl⟩
  rw[<- hw,<- hbo']at hs;have hwlt:w<BB:=by omega
  have hb2:bo'<2:=by rw[hbo'];split<;>omega
  have hsum:X%4294967296+4294967296*bo'=w+Y%4294967296+bo:=by
   rw[hw,hbo'];split<;>omega
  have g1:=Cl gG (b:=b) (n:=n) (cap:=n) (j:=i) (by omega);obtain⟨t1,s1,s2,s3⟩:=ho.store (C:=yA) hbase (j:=i) (by grind) w qH rfl;have hset:=Ni (p:=W) (n:=k) (x:=w);rw[hW]at hset;rw[hset]at s2;have ei:(i:Int)+1=((i+1:Nat):Int):=by omega
  refine zh2 ?_;simp only[uL,wB,sB,uX,uZ,BD,iA,ex,ey,q312,hs,xA,zG,zA.asTup,pA,dG,yaz,yba,fB,g1,fx,fy,ei];intro _ _ _;rw[s1,xA,wrap_i64 (by omega) (by omega)];rw[hBB]at cx cy;refine ih (i+1) (X / 4294967296) (Y / 4294967296) bo' t1 (W++[w]) (by omega) (ht.off hb0 s3) s2 (by simp[hW]) (gS hWl hwlt) cx cy hb2 ?_;have hst:=YC (B:=BB) (P:=BB^i) (ai:=ai) (bi:=bi) (x':=X / 4294967296) (y':=Y / 4294967296) (lx:=X%4294967296) (ly:=Y%4294967296) (w:=w) (bo':=bo') hval (by grind) (by grind) (by simp_all)
  grind [mK]
theorem Qt{la lb:List Nat}{pa pb:zA}{u v:Nat}{Q:aB}(ha:lA t 1 (vB .u32 la) pa)(hb:lA t 1 (vB .u32 lb) pb)(hal:qB BB la)(hbl:qB BB lb)(hu:u<4294967296)(hv:v<4294967296)(hla:la.length<700000)(hlb:lb.length<700000)(hge:v*val BB lb<=u*val BB la)
  (hQ:∀t' r rv,xB t t'->lA t' 1 (vB .u32 r) rv->qB BB r->norm r->val BB r=u*val BB la-v*val BB lb->Q rv t') :
  Wc yA F 298 [.int .u64 (u:Int),pa,.int .u64 (v:Int),pb] t Q:=by
 have hBB:=xN;refine w298 ?_;simp only[uI,uZ,uW,t298,iA,ha.len,hb.len,xA,fB,nD];obtain⟨n,hn1,hn2,hn3,hn4⟩:∃n:Nat,(bif kB (la.length:Int) (lb.length:Int)then(lb.length:Int)else(la.length:Int))+1=(n:Int)/\la.length<n/\lb.length<n/\n<700002:=by
  cases hc:kB (la.length:Int) (lb.length:Int)with
  | true=>have:=wC.1 hc;exact⟨lb.length+1,by simp,by omega,by omega,by omega⟩
  | false=>
   have:¬ ((la.length:Int)<(lb.length:Int)):=fun h=>by grind [wC]
   exact⟨la.length+1,by simp,by omega,by omega,by omega⟩
 rw[hn1,wrap_i64 (by omega) (by omega)];intro b hb0 hbase;obtain⟨t',g1,g2,g3,g4⟩:=sZ (C:=yA) (k:=.u32) vP rfl qH rfl rfl (by decide) (n:=n) (by omega) hb0;rw[g1];have el:cA (.slice b 0 n n)=some (.int .i64 (n:Int)):=rfl;simp only[xA,el,fB];refine YD ha hb hal hbl hu hv (by omega) hbase hb0 (fun t2 W rv x z k1 k2 k3 k4 k5=>?_) n 0 0 0 0 t' [] (by omega) g3 (by simp_all) rfl (fun x hx=>by cases hx) (by omega) (by omega) (by omega) (by simp[val])
 rw[yca (by omega),yca (by omega)]at k5;have hP:u*val BB la<BB^n:=by
  have h1:=lK iI hal;have h2:BB^(la.length+1)<=BB^n:=yao iI (by omega);have h3:u*val BB la<=u*BB^la.length:=ybv _ (Nat.le_of_lt h1);have h4:u*BB^la.length<BB*BB^la.length:=Nat.mul_lt_mul_of_pos_right (by omega) (Nat.pow_pos iI)
  grind
 grind [lK,zc4,iS,dQ,nQ]
end
section
variable [lC]
variable {t:Tr qA}
theorem zi7{v:zA}{l:List Nat}{b:Nat}(hv:lA t 1 (vB .u32 l) v)(hb:t.get b=none) :
  ∃H',yP v ⟨b,t⟩=some (.ptr b 0,H')/\xB t H'.t/\vC yA 268 ⟨0,H'.t⟩ (.ptr b 0)=some v:=by
 have hc:v.cells=[v]:=by
  obtain⟨cl,h1,_⟩:=hv;rcases h1 with⟨rfl,_⟩ | ⟨_,_,_,rfl,_⟩<;>rfl
 refine⟨yF ⟨b,t⟩ [v] none,by unfold yP;rw[hc],?_,?_⟩
 ·intro c u hg;show(t.set b _).get c=_
  grind [Tr.get_set]
 ·have hg:(yF ⟨b,t⟩ [v] none).t.get b=some (.cells (Tr.ofList [v]) 1 none):=by
   show(t.set b _).get b=_;rw[Tr.get_set,yab rfl];rfl
  unfold vC;simp only[zA.asPtr,pA];rw[vP,pA];unfold mD;rw[hg,pA];simp only[qA.asCells,pA];unfold zR;first
   | rfl
   | (rw[cond_false,Tr.get_ofList];rfl)
theorem Rx{v:zA}{l:List Nat}{b i:Nat}(hv:lA t 1 (vB .u32 l) v)(hl:qB BB l)(hload:vC yA 268 ⟨0,t⟩ (.ptr b 0)=some v):rB yA F 316 [.int .i64 (i:Int),.ptr b 0] t=some (.int .u64 ((wd l i:Nat):Int)):=by
 have hBB:=xN;refine dB.2 (w316 ?_);simp only[uI,uL,wB,rA,t316,iA,hload,xA,hv.len,fB,nD,iD];by_cases h:i<l.length
 ·obtain⟨x,hx⟩:=getElem?_of_lt h;have hx32:x<4294967296:=by have:=sI hl hx;omega
  obtain⟨c,off,g1,g2⟩:=hv.idx gG hx
  grind [xA,fB,vG,wd]
 grind [wd]
def JF{v:zA}{l:List Nat}{n s:Nat}(hv:lA t 1 (vB .u32 l) v)(hl:qB BB l)(hn:3<=n)(hn2:n<1000000)(hs:s<32)(hb:(wd l (n-1)*4294967296+wd l (n-2))*2^s<18446744073709551616) :
  rB yA F 308 [v,.int .i64 (n:Int),.int .i64 (s:Int)] t=some (.int .u64 (((wd l (n-1)*4294967296+wd l (n-2))*2^s+wd l (n-3) / 2^(32-s):Nat):Int)):=by
 have hBB:=xN;refine lL (w308 ?_);simp only[uE,uZ,uW,t308,iA];intro b hb0 _;obtain⟨H',g1,g2,g3⟩:=zi7 hv hb0;rw[g1,xA];have w1:=Bc iI hl (n-1);have w2:=Bc iI hl (n-2);have w3:=Bc iI hl (n-3);have c1:=Rx (i:=n-1) (hv.mono g2) hl g3;have c2:=Rx (i:=n-2) (hv.mono g2) hl g3;have c3:=Rx (i:=n-3) (hv.mono g2) hl g3;generalize wd l (n-1)=x1 at *;generalize wd l (n-2)=x2 at *
 generalize wd l (n-3)=x3 at *;have e1:(n:Int)-1=((n-1:Nat):Int):=by omega
 have e2:(n:Int)-2=((n-2:Nat):Int):=by omega
 have e3:(n:Int)-3=((n-3:Nat):Int):=by omega
 have e4:(32:Int)-(s:Int)=((32-s:Nat):Int):=by omega
 have f:∀a,qU (.func (.func 316) [] [.ptr b 0]) [a]=some (316,[a,.ptr b 0]):=fun _=>rfl;have e5:(x1:Int)*4294967296=((x1*4294967296:Nat):Int):=by omega
 rw[f,xA,e1,wrap_i64 (by omega) (by omega),q316,c1,xA,fB,xA,f,xA,e2,wrap_i64 (by omega) (by omega),q316,c2,xA,fB,xA,e5,vG (by omega) (by omega),or32 (by omega) (by omega),xA,fB,xA,JC (by omega) hb,xA,fB,xA,f,xA,e3,wrap_i64 (by omega) (by omega),q316,c3,xA,fB,xA,e4,wrap_i64 (by omega) (by omega),JB (by omega),xA,fB,xA]
 have hz:x3 / 2^(32-s)<2^s:=ycu (by rw[<- Nat.pow_add,show 32-s+s=32 by omega];omega);have hz2:(2:Nat)^s<=2^31:=yao (by decide) (by omega);generalize x3 / 2^(32-s)=z at hz ⊢;have ho:=Ek (a:=x1*4294967296+x2) (b:=z) (n:=s) hz;generalize (x1*4294967296+x2)*2^s=h at hb ho ⊢;have hz3:z<18446744073709551616:=by omega
 rw[yU (k:=.u64) (show h<yH .u64 from hb) (show z<yH .u64 from hz3),ho,xA,fB,xA];exact⟨rfl,g2⟩
end
section
variable [lC]
variable {t:Tr qA}
theorem QQ{A1 B1:Nat}{P:Nat->Nat->Nat->Nat->Nat->Nat->Nat->Nat->Bool->Prop}{Q:aB}(hA:A1<18446744073709551616)(hB:B1<18446744073709551616)
  (hstep:∀x y u0 u1 u2 v0 v1 v2 ev,P x y u0 u1 u2 v0 v1 v2 ev->0<y->v2<=y->v1+v2<=x-y->P y (x%y) u1 u2 (u1+x / y*u2) v1 v2 (v1+x / y*v2) (!ev))
  (hQ:∀x y u0 u1 u2 v0 v1 v2 ev,P x y u0 u1 u2 v0 v1 v2 ev->Q (.agg [.int .u64 (u0:Int),.int .u64 (u1:Int),.int .u64 (v0:Int),.int .u64 (v1:Int),.bool ev]) t) :
  ∀(y x u0 u1 u2 v0 v1 v2:Nat) (ev:Bool) (c0 c1 c2 c3:Int) (c4:Bool),P x y u0 u1 u2 v0 v1 v2 ev->A1=v2*x+v1*y->B1=u2*x+u1*y->y<=x->1<=v2->v1<=v2 →
  jp 296 2 [.int .u64 (x:Int),.int .u64 (y:Int),.int .u64 (u2:Int),.int .u64 (v2:Int),.int .u64 c0,.int .u64 c1,.int .u64 c2,.int .u64 c3,.bool c4,.int .u64 (u0:Int),.int .u64 (u1:Int),.int .u64 (v0:Int),.int .u64 (v1:Int),.bool ev] t Q:=by
 intro y;induction y using Nat.strongRecOn with
 | ind y ih=>
  intro x u0 u1 u2 v0 v1 v2 ev c0 c1 c2 c3 c4 hP hx hy hle h1 h12;refine j296_2 ?_;simp only[uE,zdy,iA,iD];by_cases g1:v2<=y
  ·rw[yab (by omega)];have hy0:0<y:=by omega
   have b1:v2*x<=A1:=by omega
   have b2:x<=A1:=Nat.le_trans (yan x (by omega)) b1;have b3:v2<4294967296:=by
    rcases yau v2 4294967296 with h | h
    ·exact h
    ·exfalso;have:4294967296*4294967296<=v2*x:=ydb h (by omega);omega
   have e1:jA .u64 ((v1:Int)+(v2:Int))=((v1+v2:Nat):Int):=by grind [vG]
   have e2:jA .u64 ((x:Int)-(y:Int))=((x-y:Nat):Int):=by grind [vG]
   rw[e1,e2];by_cases g2:v1+v2<=x-y
   ·rw[yab (by omega)];have hdm:=ych x y;have hmod:x%y<y:=ycy _ hy0;have hq1:1<=x / y:=by
     grind
    have hxq:x / y<=x:=Nat.div_le_self _ _;have e3:oV .u64 (x:Int) (y:Int)=some (.int .u64 ((x / y:Nat):Int)):=Py hy0 (by
     grind [vG])
    have e4:pV .u64 (x:Int) (y:Int)=some (.int .u64 ((x%y:Nat):Int)):=Kq hy0;have hst:=hstep x y u0 u1 u2 v0 v1 v2 ev hP hy0 g1 g2;generalize x / y=q at *;generalize x%y=r at *;have nA:A1=(v1+q*v2)*y+v2*r:=by
     grind
    have nB:B1=(u1+q*u2)*y+u2*r:=by
     grind
    have bv:v1+q*v2<=A1:=Nat.le_trans (Nat.le_mul_of_pos_right _ hy0) (by omega);have bu:u1+q*u2<=B1:=Nat.le_trans (Nat.le_mul_of_pos_right _ hy0) (by omega);have bq:v2<=q*v2:=yan _ hq1;have e5:jA .u64 ((v1:Int)+jA .u64 ((q:Int)*(v2:Int)))=((v1+q*v2:Nat):Int):=by
     grind [vG]
    have e6:jA .u64 ((u1:Int)+jA .u64 ((q:Int)*(u2:Int)))=((u1+q*u2:Nat):Int):=by
     grind [vG]
    rw[e3,xA,fB,xA,e4,xA,fB,xA,e5,e6];grind
   grind
  grind
end
end Go.Proofs
namespace Go.Am
def Lrel (a b x y u1 u2 v1 v2:Nat)(ev:Bool):Prop:=
 match ev with
 | false=>u1*v2=u2*v1+1/\x+v1*b=u1*a/\y+u2*a=v2*b
 | true=>u2*v1=u1*v2+1/\x+u1*a=v1*b/\y+v2*b=u2*a
def Lst (u1 u2 v1 v2:Nat):Prop:=(u1=1/\v1=0/\u2=0)\/(u1<=v1/\u2<=v2/\1<=u2/\1<=v1)
def Rt(a b u0 u1 v0 v1:Nat)(ev:Bool):Prop:=∃x y,Lrel a b x y u0 u1 v0 v1 (!ev)/\v1<=y/\v0+v1<=x-y/\u0<=v0/\u1<=v1/\1<=u1/\1<=v0/\v0<=v1
def Lsim (a b x y u0 u1 u2 v0 v1 v2:Nat)(ev:Bool):Prop:=Lrel a b x y u1 u2 v1 v2 ev/\1<=v2/\v1<=v2/\Lst u1 u2 v1 v2/\(v0=0\/Rt a b u0 u1 v0 v1 ev)
def zan(a b:Nat):Lsim a b a b 0 1 0 0 0 1 false:=⟨⟨by simp,by simp,by simp⟩,ybk _,by omega,.inl ⟨rfl,rfl,rfl⟩,.inl rfl⟩
def zam{a b x y u0 u1 u2 v0 v1 v2:Nat}{ev:Bool}(h:Lsim a b x y u0 u1 u2 v0 v1 v2 ev)(hy:0<y)(h1:v2<=y)(h2:v1+v2<=x-y) :
  Lsim a b y (x%y) u1 u2 (u1+x / y*u2) v1 v2 (v1+x / y*v2) (!ev):=by
 obtain⟨k1,k2,k5,k3,k4⟩:=h;have hq:1<=x / y:=by rw[Nat.le_div_iff_mul_le hy];omega
 have hdm:=ych x y;generalize x / y=q at *;generalize x%y=r at *;have hv2:v2<=q*v2:=yan _ hq;have hu2:u2<=q*u2:=yan _ hq;refine⟨?_,by omega,by omega,?_,?_⟩
 ·cases ev with
  | false=>
   obtain⟨m1,m2,m3⟩:=k1;refine⟨?_,m3,?_⟩
   all_goals grind
  | true=>
   obtain⟨m1,m2,m3⟩:=k1;refine⟨?_,m3,?_⟩
   all_goals grind
 ·right
  rcases k3 with⟨e1,e2,e3⟩ | ⟨g1,g2,g3,g4⟩
  ·grind
  ·have:=ybv q g2;omega
 ·rcases k3 with⟨e1,e2,e3⟩ | ⟨g1,g2,g3,g4⟩
  ·omega
  ·right
   exact⟨x,y,by simp_all,h1,h2,g1,g2,g3,g4,k5⟩
end Go.Am
namespace Go.Am
def GR{p q r s A B X Y:Nat}(hdet:p*s=q*r+1)(hX:X+r*B=p*A)(hY:Y+q*A=s*B):A=s*X+r*Y/\B=q*X+p*Y:=by
 have a1:s*(X+r*B)=s*(p*A):=by rw[hX]
 have a2:r*(Y+q*A)=r*(s*B):=by rw[hY]
 have a3:q*(X+r*B)=q*(p*A):=by rw[hX]
 have a4:p*(Y+q*A)=p*(s*B):=by rw[hY]
 have d1:p*s*A=q*r*A+A:=by rw[hdet,ybo,Nat.one_mul]
 have d2:p*s*B=q*r*B+B:=by rw[hdet,ybo,Nat.one_mul]
 have e1:s*(p*A)=p*s*A:=by rw[<- ybj,ybh s p]
 have e2:r*(q*A)=q*r*A:=by rw[<- ybj,ybh r q]
 have e3:s*(r*B)=r*(s*B):=Nat.mul_left_comm _ _ _;have e4:q*(p*A)=p*(q*A):=Nat.mul_left_comm _ _ _;have e5:q*(r*B)=q*r*B:=(ybj _ _ _).symm;have e6:p*(s*B)=p*s*B:=(ybj _ _ _).symm;rw[ybm]at a1 a2 a3 a4;constructor<;>omega
def GQ{p q r s a b A B W α β x y:Nat}(hx:x+r*b=p*a)(hy:y+q*a=s*b)(hA:A=W*a+α)(hB:B=W*b+β)(ha:α<W)(hb:β<W)(hrs:r+s<=x-y)(h1:1<=r+s)(hq:q<=y) :
  ∃X Y,X+r*B=p*A/\Y+q*A=s*B/\Y<X:=by
 obtain⟨D,hD⟩:∃D,x=y+D:=⟨x-y,by omega⟩;have w1:p*A=W*x+r*(W*b)+p*α:=by
  rw[hA,ybm,Nat.mul_left_comm p W,<- hx,ybm,Nat.mul_left_comm W r]
 have w2:r*B=r*(W*b)+r*β:=by rw[hB,ybm]
 have w3:s*B=W*y+q*(W*a)+s*β:=by
  rw[hB,ybm,Nat.mul_left_comm s W,<- hy,ybm,Nat.mul_left_comm W q]
 have w4:q*A=q*(W*a)+q*α:=by rw[hA,ybm]
 have i1:r*β<=W*D:=by
  rw[ybh W D];exact ydb (by omega) (by omega)
 have i2:q*α<=W*y:=by
  rw[ybh W y];exact ydb hq (by omega)
 have i3:(r+s)*β<W*D:=by
  have h2:(r+s)*β<(r+s)*W:=Nat.mul_lt_mul_of_pos_left hb (by omega);have h3:(r+s)*W<=D*W:=ybi _ (by omega)
  grind
 have w5:W*x=W*y+W*D:=by rw[hD,ybm]
 rw[ybo]at i3;exact⟨p*A-r*B,s*B-q*A,by omega,by omega,by omega⟩
def lehmer{a b A B W α β u0 u1 v0 v1:Nat}{ev:Bool}(hA:A=W*a+α)(hB:B=W*b+β)(ha:α<W)(hb:β<W)(h:Rt a b u0 u1 v0 v1 ev) :
  ∃X Y,(ev=true->X+v0*B=u0*A/\Y+u1*A=v1*B)/\(ev=false->X+u0*A=v0*B/\Y+v1*B=u1*A)/\Y<X/\A=v1*X+v0*Y/\B=u1*X+u0*Y/\X+Y<A+B:=by
 obtain⟨x,y,k1,k2,k3,k4,k5,k6,k7,_⟩:=h;have fF:∀X Y:Nat,Y<X->A=v1*X+v0*Y->B=u1*X+u0*Y->X+Y<A+B:=by
  intro X Y g1 g2 g3;have j1:X<=v1*X:=yan _ (by omega);have j2:X<=u1*X:=yan _ (by omega);omega
 cases ev with
 | true=>
  obtain⟨m1,m2,m3⟩:=k1;obtain⟨X,Y,g1,g2,g3⟩:=GQ m2 m3 hA hB ha hb k3 (by omega) (by omega);obtain⟨d1,d2⟩:=GR m1 g1 g2;exact⟨X,Y,fun _=>⟨g1,g2⟩,(fun h=>absurd h (by decide)),g3,d1,d2,fF X Y g3 d1 d2⟩
 | false=>
  obtain⟨m1,m2,m3⟩:=k1;obtain⟨X,Y,g1,g2,g3⟩:=GQ m2 m3 hB hA hb ha (by omega) (by omega) k2;have m1':v0*u1=v1*u0+1:=by grind
  obtain⟨d1,d2⟩:=GR m1' g1 g2;exact⟨X,Y,(fun h=>absurd h (by decide)),fun _=>⟨g1,g2⟩,g3,d2,d1,fF X Y g3 d2 d1⟩
def ZY{a b u0 u1 v0 v1:Nat}{ev:Bool}(ha:a<18446744073709551616)(hb:b<18446744073709551616)(h:Rt a b u0 u1 v0 v1 ev):u0<4294967296/\u1<4294967296/\v0<4294967296/\v1<4294967296:=by
 obtain⟨x,y,k1,k2,k3,k4,k5,k6,k7,k8⟩:=h;have key:a=v1*x+v0*y:=by
  cases ev with
  | true=>
   obtain⟨m1,m2,m3⟩:=k1
   grind
  | false=>
   obtain⟨m1,m2,m3⟩:=k1
   grind
 have:v1<4294967296:=by
  rcases yau v1 4294967296 with g | g
  ·exact g
  ·exfalso;have:4294967296*4294967296<=v1*x:=ydb g (by omega);omega
 omega
end Go.Am
namespace Go.Am
def zar{B:Nat}{l:List Nat}{m:Nat}(hl:l.length<=m+3):val B l=val B (l.take m)+B^m*(wd l m+B*(wd l (m+1)+B*wd l (m+2))):=by
 have h0:=Hy B l m;have h1:val B (l.take (m+2))=val B (l.take (m+1))+B^(m+1)*wd l (m+1):=Hy B l (m+1);have h2:val B (l.take (m+3))=val B (l.take (m+2))+B^(m+2)*wd l (m+2):=Hy B l (m+2)
 grind [List.take_of_length_le]
def JE{B p K m:Nat}{l:List Nat}(hB:B=p*K)(hp:0<p)(hB0:0<B)(hlt:qB B l)(hl:l.length<=m+3) :
  (wd l (m+2)*B+wd l (m+1))*K+wd l m / p=val B l / (B^m*p):=by
 have h1:=zar (B:=B) hl;have h2:val B (l.take m)<B^m:=by
  have h:=lK hB0 (Ah hlt m)
  grind [Nat.lt_of_lt_of_le,Nat.pow_le_pow_right]
 have h3:val B l / B^m=wd l m+B*(wd l (m+1)+B*wd l (m+2)):=by
  rw[h1,Nat.add_mul_div_left _ _ (Nat.pow_pos hB0),Nat.div_eq_of_lt h2,ybw]
 rw[<- Nat.div_div_eq_div_mul,h3];generalize wd l m=x;have e:B*(wd l (m+1)+B*wd l (m+2))=p*(K*(wd l (m+2)*B+wd l (m+1))):=by
  rw[<- ybj p,<- hB,ybh (wd l (m+2)),yap]
 rw[e,Nat.add_mul_div_left _ _ hp,ybh K,yap]
end Go.Am
namespace Go.Proofs
open Go Go.Am
variable [lC]
variable {t:Tr qA}
theorem QP{la lb:List Nat}{pa pb:zA}{m top:Nat}{Q:aB}(ha:lA t 1 (vB .u32 la) pa)(hb:lA t 1 (vB .u32 lb) pb)(hal:qB BB la)(hbl:qB BB lb)(hla:la.length=m+3)(hm:m<700000)(hlb:lb.length<=m+3)(htop:la[m+2]?=some top)(ht0:0<top)(hle:val BB lb<=val BB la)
  (hQ:∀u0 u1 v0 v1 ev W,0<W->val BB la / W<18446744073709551616->val BB lb / W<18446744073709551616->(v0=0\/Rt (val BB la / W) (val BB lb / W) u0 u1 v0 v1 ev)->Q (.agg [.int .u64 (u0:Int),.int .u64 (u1:Int),.int .u64 (v0:Int),.int .u64 (v1:Int),.bool ev]) t) :
  Wc yA F 296 [pa,pb] t Q:=by
 have hBB:=xN;have htlt:top<4294967296:=by have:=sI hal htop;omega
 obtain⟨s,hs,hs1,hs2,hs3⟩:=FY (t:=t) htlt ht0;obtain⟨c,off,g1,g2⟩:=ha.idx gG htop;have hK:BB=2^(32-s)*2^s:=by rw[<- Nat.pow_add,show 32-s+s=32 by omega,hBB]
 have hp:0<2^(32-s):=Nat.pow_pos (by decide);have va:=JE hK hp iI hal (m:=m) (by omega);have vb:=JE hK hp iI hbl hlb;have hW:0<BB^m*2^(32-s):=Nat.mul_pos (Nat.pow_pos iI) hp;have hdiv:val BB lb / (BB^m*2^(32-s))<=val BB la / (BB^m*2^(32-s)):=Nat.div_le_div_right hle;have hwt:wd la (m+2)=top:=by grind [wd]
 have wa1:=Bc iI hal (m+1);have wa0:=Bc iI hal m;have hz:wd la m / 2^(32-s)<2^s:=ycu (by omega);rw[hBB]at va vb;have bigA:(wd la (m+2)*4294967296+wd la (m+1))*2^s+wd la m / 2^(32-s)<18446744073709551616:=by
  rw[hwt];have q1:top+1<=2^(32-s):=by
   have:top*2^s<2^(32-s)*2^s:=by omega
   exact Nat.lt_of_mul_lt_mul_right this
  have q2:(top*4294967296+wd la (m+1))+1<=2^(32-s)*4294967296:=by
   omega
  have q3:=ybi (2^s) q2
  grind
 have hBB':∀l,val 4294967296 l=val BB l:=fun l=>by rw[hBB]
 have hPP:(4294967296:Nat)^m=BB^m:=by rw[hBB]
 rw[hBB',hPP]at va vb;have pE:(wd lb (m+2)*4294967296+wd lb (m+1))*2^s+wd lb m / 2^(32-s)<18446744073709551616:=by
  grind
 have h1:=JF (n:=m+3) (s:=s) ha hal (by omega) (by omega) hs (yam (Nat.le_add_right _ _) bigA);have h2:=JF (n:=m+3) (s:=s) hb hbl (by omega) (by omega) hs (yam (Nat.le_add_right _ _) pE);rw[show m+3-1=m+2 by omega,show m+3-2=m+1 by omega,show m+3-3=m by omega]at h1 h2;rw[va]at h1 bigA;rw[vb]at h2 pE;generalize hw:BB^m*2^(32-s)=W at *;have e1:((m+3:Nat):Int)-1=((m+2:Nat):Int):=by omega
 refine w296 ?_;simp only[uI,uL,uE,rA,uZ,uW,t296,iA,ha.len,xA,fB,nD,hla,e1];rw[wrap_i64 (by omega) (by omega),g1,xA,g2,xA,fB,xA,q307,hs3,xA,fB,xA,q308,h1,xA,fB,xA,q308,h2,xA,fB,xA];simp only[if_true];exact QQ (P:=Lsim (val BB la / W) (val BB lb / W)) bigA pE (fun x y u0 u1 u2 v0 v1 v2 ev hP hy k1 k2=>zam hP hy k1 k2) (fun x y u0 u1 u2 v0 v1 v2 ev hP=>hQ u0 u1 v0 v1 ev W hW bigA pE hP.2.2.2.2) _ _ 0 1 0 0 0 1 false 0 0 0 0 false (zan _ _) (by omega) (by omega) hdiv (by omega) (by omega)
end Go.Proofs
namespace Go.Am
def WI{A B X Y u0 u1 v0 v1:Nat}{ev:Bool}(h1:ev=true->X+v0*B=u0*A/\Y+u1*A=v1*B)(h2:ev=false->X+u0*A=v0*B/\Y+v1*B=u1*A)(hA:A=v1*X+v0*Y)(hB:B=u1*X+u0*Y):Nat.gcd X Y=Nat.gcd A B:=by
 have gX:=Nat.gcd_dvd_left X Y;have gY:=Nat.gcd_dvd_right X Y;have gA:=Nat.gcd_dvd_left A B;have gB:=Nat.gcd_dvd_right A B;refine Nat.dvd_antisymm (Nat.dvd_gcd ?_ ?_) (Nat.dvd_gcd ?_ ?_)
 ·grind [Nat.dvd_add]
 ·grind [Nat.dvd_add]
 ·generalize Nat.gcd A B=g at *
  cases ev with
  | true=>
   grind [Nat.dvd_add_left]
  | false=>
   grind [Nat.dvd_add_left]
 ·generalize Nat.gcd A B=g at *
  cases ev with
  | true=>
   grind [Nat.dvd_add_left]
  | false=>
   grind [Nat.dvd_add_left]
theorem JK{a b q r:Nat}(h:a=b*q+r):Nat.gcd b r=Nat.gcd a b:=by
 grind [Nat.mul_comm,Nat.gcd_mul_right_add_left]
theorem zii{x y:Nat}:Nat.gcd y (x%y)=Nat.gcd x y:=by
 rw[Nat.gcd_comm y (x%y),<- Nat.gcd_rec,Nat.gcd_comm]
def AH{B:Nat}{l:List Nat}(hB:0<B)(h:qB B l)(hl:l.length<=2):val B l<B*B:=by
 have h1:=lK hB h;have h2:B^l.length<=B^2:=yao hB hl
 grind
end Go.Am
namespace Go.Proofs
open Go Go.Am
variable [lC]
variable {t:Tr qA}
theorem Xl{c:Prop}{d:Decidable c}{P Q:Prop}(h:c)(k:P):@ite Prop c d P Q:=by simp_all
theorem ite_no{c:Prop}{d:Decidable c}{P Q:Prop}(h:¬ c)(k:Q):@ite Prop c d P Q:=by simp_all
theorem XC{Q:aB}:∀(y x:Nat),x<18446744073709551616->y<18446744073709551616->(∀t' r rv,xB t t'->lA t' 1 (vB .u32 r) rv->qB BB r->norm r->val BB r=Nat.gcd x y->Q rv t')->jp 287 6 [.int .u64 (x:Int),.int .u64 (y:Int)] t Q:=by
 have hBB:=xN
 intro y;induction y using Nat.strongRecOn with
 | ind y ih=>
  intro x hx hy hQ;refine j287_6 ?_;simp only[uE,zdz,iA,oN];by_cases h0:y=0
  ·subst h0;rw[yaa (by simp)];simp only[q300];grind [za8,ZT,OC,UI]
  ·rw[yab (by omega),Kq (by omega),xA,fB,xA];have hm:=ycy x (show 0<y by omega)
   grind [zii]
theorem GG{l:List Nat}{v:zA}(hv:lA t 1 (vB .u32 l) v)(hl:l.length<=2)(hlt:qB BB l):rB yA F 299 [v] t=some (.int .u64 ((val BB l:Nat):Int)):=by
 have hBB:=xN
 grind [zhh]
theorem MB{la lb:List Nat}{pa pb:zA}{Q:aB}(ha:lA t 1 (vB .u32 la) pa)(hb:lA t 1 (vB .u32 lb) pb)(hal:qB BB la)(hbl:qB BB lb)(hla:la.length<=2)(hlb:lb.length<=2)
  (hQ:∀t' r rv,xB t t'->lA t' 1 (vB .u32 r) rv->qB BB r->norm r->val BB r=Nat.gcd (val BB la) (val BB lb)->Q rv t'):jp 287 33 [pa,pb] t Q:=by
 have hBB:=xN;have b1:=AH iI hal hla;have b2:=AH iI hbl hlb;refine zh4 ?_;simp only[uE,BF,iA,q299,GG ha hla hal,GG hb hlb hbl,xA,fB];grind [XC]
theorem MC{Q:aB}{t0:Tr qA}{G:Nat}(hQ:∀t' r rv,xB t0 t'->lA t' 1 (vB .u32 r) rv->qB BB r->norm r->val BB r=G->Q rv t'):∀(n:Nat) (la lb:List Nat) (pa pb:zA) (t:Tr qA),val BB la+val BB lb=n->xB t0 t->lA t 1 (vB .u32 la) pa->lA t 1 (vB .u32 lb) pb->qB BB la->qB BB lb->norm la->norm lb->val BB lb<=val BB la->la.length<700000->Nat.gcd (val BB la) (val BB lb)=G->jp 287 2 [pa,pb] t Q:=by
 have hBB:=xN;have hB1:1<BB:=by omega
 intro n;induction n using Nat.strongRecOn with
 | ind n ih=>
  intro la lb pa pb t hn ht ha hb hal hbl han hbn hle hlen hg;have hlb:lb.length<=la.length:=eM hB1 hal hbn hle;refine j287_2 ?_;simp only[uI,uG,uX,zd0,iA,hb.len,xA,fB,nD,wC];by_cases h2:2<lb.length
  ·rw[yab (by omega)];have hb0:lb≠[]:=by grind
   have hbpos:0<val BB lb:=by
    rcases yav (val BB lb)with h | h
    ·exact absurd (Fh iI hbn h) hb0
    ·exact h
   obtain⟨m,hm⟩:∃m,la.length=m+3:=⟨la.length-3,by omega⟩;obtain⟨top,htop⟩:=getElem?_of_lt (l:=la) (i:=m+2) (by omega);have ha0:la≠[]:=by grind
   have ht0:0<top:=by
    have:=han ha0
    grind
   rw[q296];refine QP ha hb hal hbl hm (by omega) (by omega) htop ht0 hle fun u0 u1 v0 v1 ev W hW hA hB hL=>?_;have eG:yN [(.int .u64 0),(.int .u64 0),(.int .u64 0),(.int .u64 0),(.bool false)] (.agg [.int .u64 (u0:Int),.int .u64 (u1:Int),.int .u64 (v0:Int),.int .u64 (v1:Int),.bool ev])=some (cellsOf [.int .u64 (u0:Int),.int .u64 (u1:Int),.int .u64 (v0:Int),.int .u64 (v1:Int),.bool ev]):=zW rfl
   rw[eG];simp only[xA,cellsOf,Kn,sY,yaz,yba,if_true,El];by_cases hv0:v0=0
   ·refine Xl (wE.2 (by omega)) ?_;rw[q297];refine KY ha hb hlen hal hbl han hbn hb0 fun t' q r qv rv k1 k2 k3 k4 k5 k6 k7 k8 k9=>?_;simp only[zG,zA.asTup,pA,dG,yaz,yba,xA];refine ih (val BB lb+val BB r) (by omega) lb r pb rv t' rfl (ht.trans k1) (hb.mono k1) k3 hbl k5 hbn k7 (by omega) (by omega) ?_
    grind [JK]
   ·refine ite_no (fun e=>absurd (wE.1 e) (by omega)) ?_;rcases hL with h | hL
    ·omega
    obtain⟨s1,s2,s3,s4⟩:=ZY hA hB hL;have eA:val BB la=W*(val BB la / W)+val BB la%W:=(ych _ _).symm;have eB:val BB lb=W*(val BB lb / W)+val BB lb%W:=(ych _ _).symm;obtain⟨X,Y,l1,l2,l3,l4,l5,l6⟩:=lehmer eA eB (ycy _ hW) (ycy _ hW) hL;have hgg:=WI l1 l2 l4 l5;have hXA:X<=val BB la:=by
     have:X<=v1*X:=yan _ (by
      obtain⟨x,y,_,_,_,_,_,_,w2,w3⟩:=hL;omega)
     omega
    cases ev with
    | true=>
     obtain⟨m1,m2⟩:=l1 rfl;simp only[if_true];rw[q298];refine Qt ha hb hal hbl s1 s3 hlen (by omega) (by omega) fun t1 r1 rv1 k1 k2 k3 k4 k5=>?_;rw[q298];refine Qt (hb.mono k1) (ha.mono k1) hbl hal s4 s2 (by omega) hlen (by omega) fun t2 r2 rv2 j1 j2 j3 j4 j5=>?_;have e1:val BB r1=X:=by omega
     have e2:val BB r2=Y:=by omega
     refine ih (val BB r1+val BB r2) (by omega) r1 r2 rv1 rv2 t2 rfl (ht.trans (k1.trans j1)) (k2.mono j1) j2 k3 j3 k4 j4 (by omega) ?_ (by grind);have:=eM hB1 hal k4 (by omega);omega
    | false=>
     obtain⟨m1,m2⟩:=l2 rfl;simp only[if_true,ybq,if_false];rw[q298];refine Qt hb ha hbl hal s3 s1 (by omega) hlen (by omega) fun t1 r1 rv1 k1 k2 k3 k4 k5=>?_;rw[q298];refine Qt (ha.mono k1) (hb.mono k1) hal hbl s2 s4 hlen (by omega) (by omega) fun t2 r2 rv2 j1 j2 j3 j4 j5=>?_;have e1:val BB r1=X:=by omega
     have e2:val BB r2=Y:=by omega
     refine ih (val BB r1+val BB r2) (by omega) r1 r2 rv1 rv2 t2 rfl (ht.trans (k1.trans j1)) (k2.mono j1) j2 k3 j3 k4 j4 (by omega) ?_ (by grind);have:=eM hB1 hal k4 (by omega);omega
  ·rw[yaa (by omega)];simp only[wE];by_cases h0:lb.length=0
   ·rw[yab (by omega)];have:lb=[]:=ycc.1 h0;subst this;refine hQ t la pa ht ha hal han ?_;rw[<- hg];simp only[val];rw[Nat.gcd_zero_right]
   ·rw[yaa (by omega)];simp only[ha.len,xA,fB,nD,wC];have hb0:lb≠[]:=by simp_all
    by_cases h3:2<la.length
    ·rw[yab (by omega),q297];refine KY ha hb hlen hal hbl han hbn hb0 fun t' q r qv rv k1 k2 k3 k4 k5 k6 k7 k8 k9=>?_;simp only[zG,zA.asTup,pA,dG,yaz,yba,xA];have:=eM hB1 hbl k7 (Nat.le_of_lt k9);refine MB (hb.mono k1) k3 hbl k5 (by omega) (by omega) fun t2 r2 rv2 j1 j2 j3 j4 j5=>?_;exact hQ t2 r2 rv2 (ht.trans (k1.trans j1)) j2 j3 j4 (by grind [JK])
    ·rw[yaa (by omega)];refine MB ha hb hal hbl (by omega) (by omega) fun t2 r2 rv2 j1 j2 j3 j4 j5=>?_;exact hQ t2 r2 rv2 (ht.trans j1) j2 j3 j4 (by omega)
def cd_ok{la lb:List Nat}{pa pb:zA}{Q:aB}(ha:lA t 1 (vB .u32 la) pa)(hb:lA t 1 (vB .u32 lb) pb)(hal:qB BB la)(hbl:qB BB lb)(han:norm la)(hbn:norm lb)(hla:la.length<700000)(hlb:lb.length<700000)
  (hQ:∀t' r rv,xB t t'->lA t' 1 (vB .u32 r) rv->qB BB r->norm r->val BB r=Nat.gcd (val BB la) (val BB lb)->Q rv t'):Wc yA F 287 [pa,pb] t Q:=by
 have hBB:=xN;have hB1:1<BB:=by omega
 have hlt:=Yu hB1 hal hbl han hbn;refine w287 ?_;simp only[uI,t287,iA,q295,zfp (by omega) ha hb,xA,fB,wC];by_cases hc:dH la lb<0
 ·rw[yab hc];have:=hlt.1 hc;exact MC hQ _ lb la pb pa t rfl (xB.refl _) hb ha hbl hal hbn han (by omega) hlb (Nat.gcd_comm _ _)
 ·rw[yaa hc];have:val BB lb<=val BB la:=Nat.le_of_not_lt fun h=>hc (hlt.2 h);exact MC hQ _ la lb pa pb t rfl (xB.refl _) ha hb hal hbl han hbn this hla rfl
end Go.Proofs
namespace Go.Proofs
open Go Go.Am
variable [lC]
variable {t:Tr qA}
theorem Oy{neg:Bool}{l:List Nat}(h:pI neg l=true):norm l:=by
 intro hne;grind [pI]
theorem ZS{l:List lF}{v:zA}(hv:lA t 2 (l.map lF.d) v)(hb:∀w∈l,w.limbs.length<1125899906842624)(hn:l.length<1125899906842624):∀(k i:Nat),i+k=l.length->jp 285 2 [v,.int .i64 (l.length:Int),.int .i64 (i:Int)] t (fun r m=>r=.bool ((l.drop i).all fun w=>pI w.neg w.limbs)/\m=t):=by
 intro k;induction k with
 | zero=>
  intro i hi;refine zeu ?_;simp only[uB,uG,wB,rA,gC,sB,aA,zF,uZ,xP,wP,Ta,iA,wC];simp_all
 | succ k ih=>
  intro i hi;have hlt:i<l.length:=by omega
  have hx:l[i]?=some l[i]:=ybd hlt;obtain⟨b,off,cs,g1,g2,_,_,g5⟩:=lD.at sl301 (by simp) hv (i:=i) (d:=l[i].d) (by simp[hx]);obtain⟨u,rfl,hu⟩:=Eu g5;have hv1:=Mb (neg:=l[i].neg) (hb _ (ycj hlt)) hu;refine zeu ?_;simp only[uB,uG,wB,rA,gC,sB,aA,zF,uZ,xP,wP,Ta,iA,wC];rw[yab (by omega),g1,xA,g2,mQ,xA,rG g5 (lF.zs _)];simp only[xA,cellsOf,sY,fY,yaz,yba];have hone:eE zA.one [.bool l[i].neg,u]=true:=by
   show(bif zA.one (.bool l[i].neg)then(bif zA.one u then true else false)else false)=true;rw[hu.one];rfl
  refine Xl hone ?_;rw[q250,hv1];simp only[xA,Dd,Wb];rw[ybl hlt,ycg]
  cases hq:pI l[i].neg l[i].limbs with
  | false=>simp
  | true=>
   simp only[ycn,Bool.true_eq_false,if_false];rw[wrap_i64 (by omega) (by omega)];exact ih (i+1) (by omega)
theorem ZR{l:List lF}{v:zA}(hv:lA t 2 (l.map lF.d) v)(hb:∀w∈l,w.limbs.length<1125899906842624)(hn:l.length<1125899906842624):rB yA F 285 [v] t=some (.bool (l.all fun w=>pI w.neg w.limbs)):=by
 refine dB.2 (w285 ?_);simp only[uI,uZ,t285,iA,hv.len,xA,fB,ybf];have:=ZS hv hb hn l.length 0 (by omega)
 simp_all
theorem gcd_ok{n d:lF}{u v:zA}{Q:aB}(hu:lA t 1 (cC n.limbs) u)(hv:lA t 1 (cC d.limbs) v)(hn:n.limbs.length<700000)(hd:d.limbs.length<700000)(hnl:qB 65536 n.limbs)(hdl:qB 65536 d.limbs)(hnv:pI n.neg n.limbs=true)(hdv:pI d.neg d.limbs=true)
  (hQ:∀t' g rv,xB t t'->lA t' 1 (cC g) rv->qB 65536 g->norm g->val 65536 g=Nat.gcd (val 65536 n.limbs) (val 65536 d.limbs)->Q (.tup [.agg [.bool false,rv],.int .i64 0]) t'):Wc yA F 268 [.agg [.bool n.neg,u],.agg [.bool d.neg,v]] t Q:=by
 have hBB:=xN;refine w268 ?_;simp only[uB,uG,gC,uZ,xP,wP,t268,iA];intro b hb hbase;obtain⟨t1,g1,g2,g3,g4⟩:=Pb (C:=yA) (T:=301) (el:=29) (sz:=2) (n:=2) (cl:=[[.bool n.neg,u],[.bool d.neg,v]]) (ps:=[(0,.agg [.bool n.neg,u]),(1,.agg [.bool d.neg,v])]) ty301 rfl ty29 rfl rfl (by decide) rfl (fun i cs hi=>by
  grind) rfl hb
 rw[g1,xA];have hw:lA t1 2 ([n,d].map lF.d) (.slice b 0 2 2):=⟨_,g2,by
  simp only[ycm,List.map_nil,iH,rI];refine⟨_,_,rfl,?_,_,_,rfl,?_,rfl⟩
  ·unfold lF.d;rw[nJ];refine⟨[[.bool n.neg],[u]],rfl,?_⟩;simp only[iH,rI,vQ,oM];exact⟨_,_,rfl,rfl,_,_,rfl,⟨u,rfl,hu.mono g3⟩,rfl⟩
  ·unfold lF.d;rw[nJ];refine⟨[[.bool d.neg],[v]],rfl,?_⟩;simp only[iH,rI,vQ,oM];exact⟨_,_,rfl,rfl,_,_,rfl,⟨v,rfl,hv.mono g3⟩,rfl⟩⟩
 have hall:=ZR hw (fun w hw=>by
  grind) (by simp)
 rw[q285,hall];simp only[xA,Dd,Wb,ycg,yck,hnv,hdv,Bool.and_self,Bool.true_eq_false,if_false];rw[q253];refine Vs (hu.mono g3) (by omega) hnl fun t2 v2 k1 k2=>?_;rw[yab hv.same,q253];refine Vs ((hv.mono g3).mono k1) (by omega) hdl fun t3 v3 m1 m2=>?_;have an:=Lm hnl;have ad:=Lm hdl;rw[<- hBB]at an ad;rw[q287];refine cd_ok (k2.mono m1) m2 an ad (Ox (Oy hnv)) (Ox (Oy hdv)) (by rw[wS];omega) (by rw[wS];omega) fun t4 r rv p1 p2 p3 p4 p5=>?_
 rw[hBB]at p3;have vn:∀l,val BB (kG l)=val 65536 l:=fun l=>by grind [Sc]
 rw[vn,vn]at p5;have hrl:r.length<400000:=by
  have hB1:1<BB:=by omega
  rcases yav (val 65536 n.limbs)with h0 | h0
  ·rw[h0,Nat.gcd_zero_left,<- vn]at p5;have:=eM hB1 ad p4 (Nat.le_of_eq p5)
   grind [wS]
  ·have h1:=Nat.gcd_le_left (val 65536 d.limbs) h0;rw[<- p5,<- vn]at h1;have:=eM hB1 an p4 h1
   grind [wS]
 rw[q286];refine OV p2 hrl p3 fun t5 v5 s1 s2=>?_;rw[Bm p4]at s2 ⊢;have eG:yN [(.bool false),.nilslice] (.agg [.bool (if r=[]then false else false),v5])=some (cellsOf [.bool (if r=[]then false else false),v5]):=zW (by
  show(true&&(mS .nilslice v5&&true))=true;rw[Kw s2];rfl)
 rw[eG];have hone:eE zA.one [.bool false,v5]=true:=by
  show(bif zA.one (.bool false)then(bif zA.one v5 then true else false)else false)=true;rw[s2.one];rfl
 simp only[xA,cellsOf,sY,fY,yaz,yba,ite_self,hone,if_true];refine hQ t5 (zE (yI r)) v5 (g3.trans (k1.trans (m1.trans (p1.trans s1)))) s2 (iS (NG p3)) (dQ _) ?_;rw[nQ,<- p5,AA,hBB]
end Go.Proofs
namespace Go.Am
def dC.fit(f:dC):Prop:=f.ok/\qB 65536 f.n.limbs/\qB 65536 f.d.limbs
def lE.fit(v:lE):Prop:=v.kind<256/\v.f.fit /\ -9223372036854775808<=v.i/\v.i<9223372036854775808
mutual
def sA.fit:sA->Prop
 | .mk op name v args=>op<256/\name.length<pE/\(∀c∈name,c<256)/\v.fit/\args.length<pE/\sA.fits args
def sA.fits:List sA->Prop
 | []=>True
 | x::l=>x.fit/\sA.fits l
end
def sA.fits_mem:∀ {l:List sA},sA.fits l->∀x∈l,x.fit
 | [],_,_,h=>by cases h
 | y::l,h,x,hx=>by
  unfold sA.fits at h;rcases ybs.1 hx with rfl | hx
  ·exact h.1
  ·exact sA.fits_mem h.2 x hx
mutual
def sA.fit_ok:∀ {x:sA},x.fit->x.ok
 | .mk op name v args,h=>by
  unfold sA.fit at h;unfold sA.ok;exact⟨h.2.1,h.2.2.2.1.2.1.1,h.2.2.2.2.1,sA.fits_oks h.2.2.2.2.2⟩
def sA.fits_oks:∀ {l:List sA},sA.fits l->sA.oks l
 | [],_=>by grind [sA.oks]
 | x::l,h=>by
  unfold sA.fits at h;unfold sA.oks;exact⟨sA.fit_ok h.1,sA.fits_oks h.2⟩
end
def i64 (n:Int):Prop := -9223372036854775808<=n/\n<9223372036854775808
def oE.fit(r:oE):Prop:=i64 r.a/\i64 r.b/\i64 r.known/\r.f.fit
def wD.fit(x:wD):Prop:=x.name.length<pE/\x.rows.length<pE/\∀r∈x.rows,r.fit
def nE.fit(x:nE):Prop:=x.name.length<pE/\x.kind<256
def dD.fit(x:dD):Prop:=x.name.length<pE/\x.label.length<pE/\i64 x.from_/\i64 x.to/\i64 x.known/\x.when_.fit/\x.then_.fit
structure qD.fit (p:qD):Prop where
 name:p.name.length<pE
 ndefs:p.defs.length<pE
 ntables:p.tables.length<pE
 nclauses:p.clauses.length<pE
 defs:∀d∈p.defs,d.fit
 tables:∀d∈p.tables,d.fit
 clauses:∀d∈p.clauses,d.fit
end Go.Am
namespace Go.Proofs
open Go Go.Am
variable [lC]
variable {t:Tr qA}
def sR(w:lF):Bool := !w.neg&&decide (w.limbs=[1])
def oI(f:dC):Bool:=decide (f.n.limbs.length<=256)&&decide (f.d.limbs.length<=256)&&pI f.n.neg f.n.limbs&&pI f.d.neg f.d.limbs && !f.d.neg&&decide (f.d.limbs≠[])&&(sR f.d||decide (Nat.gcd (val 65536 f.n.limbs) (val 65536 f.d.limbs)=1))
theorem Fw{a b:Int}:kB a b=decide (a<b):=by
 grind [wC]
theorem kX{a b:Int}:xC a b=decide (a<=b):=by
 grind [iD]
theorem bM{a b:Int}:tA a b=decide (a=b):=by
 grind [wE]
theorem PP{f:dC}{u v:zA}(hu:lA t 1 (cC f.n.limbs) u)(hv:lA t 1 (cC f.d.limbs) v)(hf:dC.fit f):rB yA F 234 [.agg [.bool f.n.neg,u,.bool f.d.neg,v]] t=some (.bool (oI f)):=by
 obtain⟨h1,h2,h3⟩:=hf;unfold dC.ok pE at h1;have c1:rB yA F 249 [.agg [.bool f.n.neg,u,.bool f.d.neg,v]] t=some (.bool (!(decide (f.n.limbs.length<=256)&&decide (f.d.limbs.length<=256)))):=by
  refine dB.2 (w249 ?_);simp only[uI,zF,t249,iA,hu.len,hv.len,xA,fB,iN];grind [wC]
 have c2:=Mb (neg:=f.n.neg) (by omega) hu;have c3:=Mb (neg:=f.d.neg) (by omega) hv;have c4:rB yA F 236 [.agg [.bool f.n.neg,u,.bool f.d.neg,v]] t=some (.bool (sR f.d)):=by
  refine dB.2 (w236 ?_);simp only[uB,t236,iA,q251,Xm hv,xA,Dd]; (first | exact⟨rfl,rfl⟩ | exact⟨rfl,trivial⟩ | trivial)
 refine lL (w234 ?_);simp only[uI,uB,uG,aA,zF,wP,t234,iA,q249,c1,q250,c2,c3,q236,c4,xA,Dd,hv.len,fB,iN,wE,Wb];unfold oI;by_cases g1:f.n.limbs.length<=256
 ·by_cases g2:f.d.limbs.length<=256
  ·simp only[g1,g2,decide_true,ycn,Bool.not_true,ybq,if_false]
   cases hn:pI f.n.neg f.n.limbs with
   | false=>simp
   | true=>
    cases hd:pI f.d.neg f.d.limbs with
    | false=>simp
    | true=>
     simp only[Bool.true_eq_false,if_false,ycn]
     cases hg:f.d.neg with
     | true=>simp
     | false=>
      simp only[ybq,if_false,ycl,ycn];by_cases h0:f.d.limbs=[]
      ·simp_all
      ·have:f.d.limbs.length≠0:=fun e=>h0 (ycc.1 e);rw[yaa (by omega)];simp only[h0,ne_eq,not_false_eq_true,decide_true,ycn]
       cases ho:sR f.d with
       | true=>simp
       | false=>
        simp only[ybq,if_false,Bool.false_or];rw[q252];refine w252 ?_;simp only[uI,uG,gC,uX,xP,wP,t252,iA,q268];have hn':=hn;have hd':=hd;rw[hg]at hd';refine gcd_ok (n:=f.n) (d:=⟨false,f.d.limbs⟩) hu hv (by omega) (by grind) h2 h3 hn' hd' fun t' g rv k1 k2 k3 k4 k5=>?_;have eG:yN [(.bool false),.nilslice] (.agg [.bool false,rv])=some (cellsOf [.bool false,rv]):=zW (by
         show(true&&(mS .nilslice rv&&true))=true;rw[Kw k2];rfl)
        have hone:eE zA.one [.bool false,rv]=true:=by
         show(bif zA.one (.bool false)then(bif zA.one rv then true else false)else false)=true;rw[k2.one];rfl
        simp only[zG,zA.asTup,pA,dG,yaz,yba,xA,fB,eG,cellsOf,sY,fY,hone,if_true];rw[q251,Xm k2];simp only[xA,Dd,ycl,ycn];refine⟨?_,k1⟩;congr 1;rw[decide_eq_decide,<- k5];constructor
        ·intro e;subst e;rfl
        ·intro e;exact zb1 (B:=65536) (by decide) k3 (fun x hx=>by grind) k4 (fun _=>by simp) (by rw[e];rfl)
  grind
 grind
theorem Zz{f:dC}{u v:zA}(hu:lA t 1 (cC f.n.limbs) u)(hv:lA t 1 (cC f.d.limbs) v)(hf:dC.fit f):rB yA F 220 [.agg [.bool f.n.neg,u,.bool f.d.neg,v]] t=some (.bool (oI f)):=by
 refine dB.2 (w220 ?_);simp only[uB,t220,iA,q234,PP hu hv hf,xA,Dd,if_true];simp_all
end Go.Proofs
namespace Go.Proofs
open Go Go.Am
variable [lC]
variable {t:Tr qA}
theorem nI{a b:List Nat}(h:a.length+b.length<4611686018427387904):zH a b=some (.str (a++b)):=by
 unfold zH;rw[pD,pD,pC.2 h,wH];rfl
theorem Nc{s:List Nat}{k:Nat}(h:k<=s.length):qE yA 9 H0A (.str s) (some (.int .i64 (k:Int))) none=some (.str (s.drop k)):=by
 unfold qE vM;rw[vL,pA];simp only[zA.asStr];rw[show jD.isString .string=true from rfl,vE];unfold Nd iO Ac eV;grind [sL,pA,zA.asNat,zA.asInt,pD,mE,vE,tS,oT,List.take_length]
theorem Uj{s:List Nat}{k:Nat}(h:k<=s.length):qE yA 9 H0A (.str s) none (some (.int .i64 (k:Int)))=some (.str (s.take k)):=by
 unfold qE vM;rw[vL,pA];simp only[zA.asStr];rw[show jD.isString .string=true from rfl,vE];unfold Nd iO Ac eV;have e:sL (k:Int)=some k:=rfl;simp only[pA,zA.asNat,zA.asInt,e,pD,mE.2 h,mE.2 (yaw _),vE,tS,oT,ycr]
def iL (a b:List Nat):Bool:=decide (b.length<=a.length)&&fC (a.take b.length) b
theorem JG{a b:List Nat}:rB yA F 257 [.str a,.str b] t=some (.bool (iL a b)):=by
 refine dB.2 (w257 ?_);simp only[uS,aA,uZ,t257,iA,qJ,iD];grind [iL,Uj,xA,zA.asStr]
theorem PK{a b:List Nat}:rB yA F 222 [.str a,.str b] t=some (.str (if iL a b then a.drop b.length else a)):=by
 have h:rB yA F 237 [.str a,.str b] t=some (.str (if iL a b then a.drop b.length else a)):=by
  refine dB.2 (w237 ?_);simp only[uB,uS,uZ,t237,iA,q257,JG,xA,zA.asBool,qJ];grind [iL,Nc,xA,zA.asStr]
 refine dB.2 (w222 ?_);simp only[uS,t222,iA,q237,h,xA,zA.asStr];simp_all
theorem YH{a b:List Nat}:rB yA F 258 [.str a,.str b] t=some (.tup [.str (if iL a b then a.drop b.length else a),.bool (iL a b)]):=by
 have h:rB yA F 273 [.str a,.str b] t=some (.tup [.str (if iL a b then a.drop b.length else a),.bool (iL a b)]):=by
  refine dB.2 (w273 ?_);simp only[uB,uS,uZ,t273,iA,q257,JG,xA,zA.asBool,qJ];grind [iL,Nc,xA,zA.asStr]
 refine dB.2 (w258 ?_);have x0:∀u v,zG 0 (.tup [u,v])=some u:=fun _ _=>rfl;have x1:∀u v,zG 1 (.tup [u,v])=some v:=fun _ _=>rfl;simp only[uB,uS,uX,t258,iA,q273,h,xA,x0,x1,zA.asStr,zA.asBool];simp_all
def tK(s:List Nat):List Nat:=if iL s [45]then [109,105,110,117,115,32]++s.drop 1 else s
theorem CG{s:List Nat}(h:s.length<4000000000000000000):rB yA F 240 [.str s] t=some (.str (tK s)):=by
 refine dB.2 (w240 ?_);have x0:∀u v,zG 0 (.tup [u,v])=some u:=fun _ _=>rfl;have x1:∀u v,zG 1 (.tup [u,v])=some v:=fun _ _=>rfl;simp only[uB,uS,uX,t240,iA,q258,YH,xA,x0,x1,zA.asStr,zA.asBool];grind [tK,nI,xA]
def zib{n:Int}(h0 : -9223372036854775808<=n)(h1:n<9223372036854775808):rB yA F 243 [.int .i64 n] t=some (.str (kL n)):=by
 have hg:yA.prims.get 243=some (gM Ff):=by kernel_rfl
 refine Nu hg fun H=>?_;unfold Ff;simp only[];rw[iD.2 h0,wC.2 h1];rfl
theorem Xi{n:Int}(h0 : -9223372036854775808<=n)(h1:n<9223372036854775808):(kL n).length<=21:=by
 by_cases h:n<0
 ·obtain⟨u,rfl⟩:∃u:Nat,n = -(u:Int):=⟨n.natAbs,by omega⟩;rw[IR (by omega)];have:=Cu (u:=u) (k:=20) (by decide) (by omega)
  grind
 ·obtain⟨u,rfl⟩:∃u:Nat,n=(u:Int):=⟨n.toNat,by omega⟩;rw[Xj];have:=Cu (u:=u) (k:=20) (by decide) (by omega);omega
theorem IY{n:Int}(h0 : -9223372036854775808<=n)(h1:n<9223372036854775808):rB yA F 227 [.int .i64 n] t=some (.str (tK (kL n))):=by
 have:=Xi h0 h1;refine dB.2 (w227 ?_);simp only[uS,uZ,t227,iA,q243,zib h0 h1,xA,zA.asStr,q240,CG (s:=kL n) (by omega)]
 simp_all
def jG(f:dC):List Nat:=uN f.n.neg f.n.limbs++(if sR f.d then []else 47::uN f.d.neg f.d.limbs)
def YA{u:Nat}:∀ {k:Nat},u<10^k->(cE u).length<=k+1:=by
 intro k h;have:=Cu (u:=u) (k:=k+1) (by omega) (by omega);exact this
theorem Bb{neg:Bool}{l:List Nat}(hlt:qB 65536 l)(hl:l.length<=1024):(uN neg l).length<=10000:=by
 unfold uN aT;have h1:=lK (B:=65536) (by decide) hlt;have h2:(65536:Nat)^l.length<=10^(5*l.length):=by
  simp_all [Nat.pow_mul,Nat.pow_le_pow_left]
 have:=YA (u:=val 65536 l) (k:=5*l.length) (by omega)
 grind
theorem Mc{f:dC}(h:oI f=true):pI f.n.neg f.n.limbs=true/\pI f.d.neg f.d.limbs=true/\f.n.limbs.length<=1024/\f.d.limbs.length<=1024:=by
 grind [oI]
theorem Qf{f:dC}(hf:f.fit)(h:oI f=true):(jG f).length<=20001:=by
 obtain⟨_,_,h3,h4⟩:=Mc h;have a:=Bb (neg:=f.n.neg) hf.2.1 h3;have b:=Bb (neg:=f.d.neg) hf.2.2 h4
 grind [jG]
theorem JL{f:dC}{u v:zA}(hu:lA t 1 (cC f.n.limbs) u)(hv:lA t 1 (cC f.d.limbs) v)(hf:dC.fit f):rB yA F 221 [.agg [.bool f.n.neg,u,.bool f.d.neg,v]] t=some (if oI f then .tup [.str (jG f),.int .i64 0]else .tup [.str [],.int .i64 2]):=by
 refine dB.2 (w221 ?_);have x0:∀u v,zG 0 (.tup [u,v])=some u:=fun _ _=>rfl;have x1:∀u v,zG 1 (.tup [u,v])=some v:=fun _ _=>rfl;simp only[uI,uB,uS,uX,uZ,t221,iA,q220,Zz hu hv hf,xA,zA.asBool]
 cases hval:oI f with
 | false=>simp
 | true=>
  obtain⟨h1,h2,h3,h4⟩:=Mc hval;have a:=Bb (neg:=f.n.neg) hf.2.1 h3;have b:=Bb (neg:=f.d.neg) hf.2.2 h4;have c1:rB yA F 236 [.agg [.bool f.n.neg,u,.bool f.d.neg,v]] t=some (.bool (sR f.d)):=by
   refine dB.2 (w236 ?_);simp only[uB,t236,iA,q251,Xm hv,xA,zA.asBool];first | exact⟨rfl,rfl⟩ | exact⟨trivial,trivial⟩ | exact⟨rfl,trivial⟩
  simp only[Bool.not_true,ybq,if_false,q235,AO hu hf.2.1 h1,xA,x0,x1,zA.asStr,fB,if_true,q236,c1,zA.asBool];unfold jG
  cases hone:sR f.d with
  | true=>simp
  | false=>
   simp only[ycl,if_true,AO hv hf.2.2 h2,xA,x0,x1,zA.asStr,fB];grind [nI,xA]
theorem JM{f:dC}{u v:zA}(hu:lA t 1 (cC f.n.limbs) u)(hv:lA t 1 (cC f.d.limbs) v)(hf:dC.fit f)(hval:oI f=true):rB yA F 225 [.agg [.bool f.n.neg,u,.bool f.d.neg,v]] t=some (.str (tK (jG f))):=by
 have:=Qf hf hval;refine dB.2 (w225 ?_);have x0:∀u v,zG 0 (.tup [u,v])=some u:=fun _ _=>rfl;have x1:∀u v,zG 1 (.tup [u,v])=some v:=fun _ _=>rfl;simp only[uI,uS,uX,t225,iA,q221,JL hu hv hf,hval,if_true,xA,x0,x1,zA.asStr,fB,q240,CG (s:=jG f) (by omega)]
 simp_all
def yV(f:dC):Bool:=decide (f.n.limbs.length<=42)&&decide (f.d.limbs.length<=42)&&oI f&&decide ((if iL (jG f) [45]then(jG f).drop 1 else jG f).length<=200)
theorem SX{f:dC}{u v:zA}(hu:lA t 1 (cC f.n.limbs) u)(hv:lA t 1 (cC f.d.limbs) v)(hf:dC.fit f):rB yA F 187 [.agg [.bool f.n.neg,u,.bool f.d.neg,v]] t=some (.bool (yV f)):=by
 refine dB.2 (w187 ?_);have x0:∀u v,zG 0 (.tup [u,v])=some u:=fun _ _=>rfl;have x1:∀u v,zG 1 (.tup [u,v])=some v:=fun _ _=>rfl;simp only[uI,uB,uS,aA,uX,t187,iA,hu.len,hv.len,iN,xA,fB,wC];unfold yV;by_cases h1:f.n.limbs.length<=42
 ·rw[yaa (by omega)];by_cases h2:f.d.limbs.length<=42
  ·rw[yaa (by omega)];simp only[q220,Zz hu hv hf,xA,zA.asBool]
   cases hval:oI f with
   | false=>simp
   | true=>
    simp only[Bool.not_true,ybq,if_false,q221,JL hu hv hf,hval,if_true,xA,x0,x1,zA.asStr,fB,wE,q222,PK,qJ];simp[h1,h2,kX];constructor<;>intro h<;>omega
  grind
 grind
def aO(f:dC):Bool := !f.n.neg && !f.d.neg&&decide (f.n.limbs.length+f.d.limbs.length=0)
theorem Zq{f:dC}{u v:zA}(hu:lA t 1 (cC f.n.limbs) u)(hv:lA t 1 (cC f.d.limbs) v)(hf:f.ok):rB yA F 188 [.agg [.bool f.n.neg,u,.bool f.d.neg,v]] t=some (.bool (aO f)):=by
 unfold dC.ok pE at hf;refine dB.2 (w188 ?_);simp only[uI,aA,uW,t188,iA,hu.len,hv.len,iN,xA,fB];unfold aO;rw[wrap_i64 (by omega) (by omega),bM];have e:decide ((f.n.limbs.length:Int)+(f.d.limbs.length:Int)=0)=decide (f.n.limbs.length+f.d.limbs.length=0):=by
  grind
 rw[e];cases f.n.neg<;>cases f.d.neg<;>simp
theorem zck{n:Int}:rB yA F 189 [.int .i64 n] t=some (.bool (decide (0<=n)&&decide (n<65536))):=by
 refine dB.2 (w189 ?_);simp only[aA,t189,iA,iD];grind [Fw]
def eH(v:lE):Bool:=
 if v.kind=2\/v.kind=3 then decide (v.i=0)&&yV v.f
 else if v.kind=1 then aO v.f&&(decide (v.i=0)||decide (v.i=1))
 else if v.kind=4 then aO v.f&&(decide (0<=v.i)&&decide (v.i<65536))
 else if v.kind=5\/v.kind=6 then aO v.f&&(decide (-1048576<=v.i)&&decide (v.i<=1048576))
 else false
theorem SW{a:lE}{u v:zA}(hu:lA t 1 (cC a.f.n.limbs) u)(hv:lA t 1 (cC a.f.d.limbs) v)(hf:dC.fit a.f):rB yA F 146 [.agg [.int .u8 a.kind,.bool a.f.n.neg,u,.bool a.f.d.neg,v,.int .i64 a.i]] t=some (.bool (eH a)):=by
 refine dB.2 (w146 ?_);simp only[uQ31,uQ16,uB,aA,zF,uZ,t146,iA,q187,SX hu hv hf,q188,Zq hu hv hf.1,q189,zck,xA,zA.asBool];unfold eH;have kk:∀j:Int,tA (a.kind:Int) j=decide ((a.kind:Int)=j):=fun j=>bM;simp only[kk];by_cases k2:a.kind=2
 ·have e:(a.kind:Int)=2:=by omega
  by_cases h0:a.i=0<;>simp[e,k2,h0,bM]
 by_cases k3:a.kind=3
 all_goals grind [bM,kX]
end Go.Proofs
namespace Go.Am
open Go Go.RowKit
section
variable {t tf tf0:Tr qA}{C:dA}
mutual
theorem RD.ones:∀(d:D) (cs:List zA),RD t d cs->∀a∈cs,zA.one a=true
 | .int _ _,cs,h,a,ha=>by rw[RD]at h;subst h;simp at ha;subst ha;rfl
 | .bool _,cs,h,a,ha=>by rw[RD]at h;subst h;simp at ha;subst ha;rfl
 | .str _,cs,h,a,ha=>by rw[RD]at h;subst h;simp at ha;subst ha;rfl
 | .sl sz l,cs,h,a,ha=>by
  rw[oM]at h;obtain⟨v,rfl,h⟩:=h;simp at ha;subst ha;exact h.one
 | .st l,cs,h,a,ha=>by
  rw[nJ]at h;obtain⟨cl,rfl,h⟩:=h;exact jC.ones l cl h a ha
theorem jC.ones:∀(l:List D) (cl:List (List zA)),jC t l cl->∀a∈cl.flatten,zA.one a=true
 | [],cl,h,a,ha=>by grind [jC]
 | d::l,cl,h,a,ha=>by
  rw[jC]at h;obtain⟨c,r,rfl,h1,h2⟩:=h;rw[yas,yaf]at ha;rcases ha with ha | ha
  ·exact RD.ones d c h1 a ha
  ·exact jC.ones l r h2 a ha
end
theorem RD.all{d:D}{cs:List zA}(h:RD t d cs):eE zA.one cs=true:=by
 grind [mI,RD.ones]
theorem RD.mk{d:D}{cs zs:List zA}(h:RD t d cs)(hz:d.zs=zs):dK zs (cellsOf cs) 0=cs:=by
 have:=JV zs cs [] (by grind [Yc])
 simp_all
theorem lit1{S el sz b:Nat}{cs:List zA}(hT:cL C S el sz)(hc:cs.length=sz)(hs:sz<1000000)(hb:t.get b=none) :
  ∃t',oG C S 1 [(0,.agg cs)] ⟨b,t⟩=some (.slice b 0 1 1,⟨b+1,t'⟩)/\pJ t' sz (.slice b 0 1 1) [cs]/\xB t t'/\sE b t t':=by
 obtain⟨⟨y,hy1,hy2,_⟩,⟨z,hz1,hz2,hz3,_,_⟩⟩:=hT;refine Pb (n:=1) (cl:=[cs]) hy1 hy2 hz1 hz2 hz3 (by omega) ?_ (fun i q hq=>?_) rfl hb
 ·have e:lJ z.zero 1=z.zero:=by show bD z.zero []=z.zero;rw[wH,ycd]
  rw[e];unfold kN eZ;have e1:(zA.agg cs).cells=cs:=rfl
  grind [pD,pA,tS,oT,wH,oC,mE,vE,kN]
 grind
end
end Go.Am
namespace Go.Am
open Go Go.RowKit
section
variable {C:dA}{t:Tr qA}
def uR(C:dA)(T:Nat)(k:zA):Bool:=
 match ob (C.tys.get T) fun ty=>ob ty.desc.asMap fun ke=>ob (C.tys.get ke.1) fun kty=>pB (rS C kty&&dP C kty k) (some ())with | some _=>true | none=>false
theorem Pr{T:Nat}{k:zA}(h:uR C T k=true):∃ty ke kty,C.tys.get T=some ty/\ty.desc.asMap=some ke/\C.tys.get ke.1=some kty/\rS C kty=true/\dP C kty k=true:=by
 grind [uR,mA,jB]
theorem AD{T b n:Nat}{k v:zA}{l l':List (zA × zA)}(hk:uR C T k=true)(hb:C.base<=b)(hm:t.get b=some (.map l))(hs:fH k v l=some l') :
  vK C T (.map b) k v ⟨n,t⟩=some (xE,⟨n,t.set b (.map l')⟩):=by
 obtain⟨ty,ke,kty,h1,h2,h3,h4,h5⟩:=Pr hk;have e2:(!Nat.blt b C.base)=true:=by
  grind [pC]
 have e3:cH ⟨n,t⟩ b=some l:=by unfold cH;rw[hm];rfl
 unfold vK;rw[h1,pA,h2,pA,h3,pA,h4,vE];simp only[zA.asMap,pA];rw[e2,vE,e3,pA,h5,vE,hs];rfl
theorem GF{T b n:Nat}{k v:zA}{l:List (zA × zA)}(hk:uR C T k=true)(hm:t.get b=some (.map l))(hs:uJ k l=some (some v)){ty:mC}(hT:C.tys.get T=some ty){ke:Nat × Nat}(hd:ty.desc.asMap=some ke){ety:mC}(he:C.tys.get ke.2=some ety)(ok:Bool) :
  uK C T ⟨n,t⟩ (.map b) k ok=some (bif ok then .tup [v,.bool true]else v):=by
 obtain⟨ty,ke,kty,h1,h2,h3,h4,h5⟩:=Pr hk;rw[hT]at h1;cases h1;rw[hd]at h2;cases h2;have e3:cH ⟨n,t⟩ b=some l:=by unfold cH;rw[hm];rfl
 unfold uK;rw[hT,pA,hd,pA,h3,pA,h4,vE,he,pA];have e4:bQ ⟨n,t⟩ (.map b)=some l:=by grind [bQ,zA.asMap]
 rw[e4,pA,h5,vE,hs,pA]
theorem UZ{T b n:Nat}{k:zA}{l:List (zA × zA)}(hk:uR C T k=true)(hm:t.get b=some (.map l))(hs:uJ k l=some none){ty:mC}(hT:C.tys.get T=some ty){ke:Nat × Nat}(hd:ty.desc.asMap=some ke){ety:mC}(he:C.tys.get ke.2=some ety)(ok:Bool) :
  uK C T ⟨n,t⟩ (.map b) k ok=some (bif ok then .tup [dR ety,.bool false]else dR ety):=by
 obtain⟨ty,ke,kty,h1,h2,h3,h4,h5⟩:=Pr hk;rw[hT]at h1;cases h1;rw[hd]at h2;cases h2;have e3:cH ⟨n,t⟩ b=some l:=by unfold cH;rw[hm];rfl
 unfold uK;rw[hT,pA,hd,pA,h3,pA,h4,vE,he,pA];have e4:bQ ⟨n,t⟩ (.map b)=some l:=by grind [bQ,zA.asMap]
 rw[e4,pA,h5,vE,hs,pA]
mutual
theorem RD.sames1:∀(d:D) (cs:List zA),RD t d cs->∀a∈cs,∀k,Am.same k a a=true
 | .int _ _,cs,h,a,ha,k=>by grind [RD,El]
 | .bool _,cs,h,a,ha,k=>by grind [RD,RF]
 | .str _,cs,h,a,ha,k=>by grind [RD,Uo]
 | .sl sz l,cs,h,a,ha,k=>by
  rw[oM]at h;obtain⟨v,rfl,h⟩:=h;simp at ha;subst ha;exact h.same
 | .st l,cs,h,a,ha,k=>by
  rw[nJ]at h;obtain⟨cl,rfl,h⟩:=h;exact jC.sames1 l cl h a ha k
theorem jC.sames1:∀(l:List D) (cl:List (List zA)),jC t l cl->∀a∈cl.flatten,∀k,Am.same k a a=true
 | [],cl,h,a,ha,k=>by grind [jC]
 | d::l,cl,h,a,ha,k=>by
  rw[jC]at h;obtain⟨c,r,rfl,h1,h2⟩:=h;rw[yas,yaf]at ha;rcases ha with ha | ha
  ·exact RD.sames1 d c h1 a ha k
  ·exact jC.sames1 l r h2 a ha k
end
def CU:∀ {l:List zA} {k:Nat},(∀a∈l,∀k,Am.same k a a=true)->Am.same.sames k l l=true
 | [],_,_=>rfl
 | a::l,k,h=>by
  rw[Am.same.sames,h a (.head _) k,CU fun b hb=>h b (.tail _ hb)];rfl
def RD.sameA{d:D}{cs:List zA}(h:RD t d cs){k:Nat}:Am.same (k+1) (.agg cs) (.agg cs)=true:=CU (RD.sames1 d cs h)
theorem MX{b:Nat}(hb:C.base<=b):∀(l:List (zA × zA)) (m:List (zA × zA)) (n:Nat) (t:Tr qA),t.get b=some (.map m) →
  ∃t',pY C (l.map fun e=>RE.up b e.1 e.2) ⟨n,t⟩=some ⟨n,t'⟩/\t'.get b=some (.map (m++l))/\sE b t t'
 | [],m,n,t,h=>⟨t,rfl,by simp_all,fun _ _=>rfl⟩
 | e::l,m,n,t,h=>by
  obtain⟨t',h1,h2,h3⟩:=MX hb l (m++[e]) n (t.set b (.map (m++[e]))) (by rw[Tr.get_set,yab rfl]);refine⟨t',?_,by simp_all,fun c hc=>by rw[h3 c hc,Tr.get_set,yaa hc]⟩;have e2:(!Nat.blt b C.base)=true:=by
   grind [pC]
  have e3:cH ⟨n,t⟩ b=some m:=by unfold cH;rw[h];rfl
  grind [bV,setBlk,vE,pA,wH,pY]
def DP{T b:Nat}:∀(l:List (zA × zA)),(∀e∈l,uR C T e.1=true)->fG (oP C) (l.map fun e=>xK.upd T (.map b) e.1 e.2)=some (l.map fun e=>RE.up b e.1 e.2)
 | [],_=>rfl
 | e::l,h=>by
  obtain⟨ty,ke,kty,h1,h2,h3,h4,h5⟩:=Pr (h e (.head _));have e1:oP C (.upd T (.map b) e.1 e.2)=some (.up b e.1 e.2):=by
   unfold oP;simp only[];rw[h1,pA,h2,pA,h3,pA,h4,h5];rfl
  rw[ycm,dM,e1,pA,DP l fun x hx=>h x (.tail _ hx),pA];rfl
def Pq:List (zA × zA)->Bool
 | []=>true
 | e::l=>eE (fun x=>Ow e.1 x.1) l&&Pq l
theorem ND{b:Nat}:∀(l:List (zA × zA)),Pq l=true->Ha (l.map fun e=>RE.up b e.1 e.2)=true
 | [],_=>rfl
 | e::l,h=>by
  unfold Pq at h;rw[ybb,mI,ycb]at h;rw[ycm];unfold Ha;rw[ybb,mI,ycb];refine⟨fun x hx=>?_,ND l h.2⟩;obtain⟨y,hy,rfl⟩:=yaq.1 hx;show(bif Nat.beq b b then Ow e.1 y.1 else true)=true
  grind
theorem WG{T b n:Nat}{l:List (zA × zA)}(hk:∀e∈l,uR C T e.1=true)(ha:Pq l=true)(hb:C.base<=b)(hm:t.get b=some (.map [])) :
  ∃t',iU C (l.map fun e=>xK.upd T (.map b) e.1 e.2) ⟨n,t⟩=some (xE,⟨n,t'⟩)/\t'.get b=some (.map l)/\sE b t t':=by
 obtain⟨t',h1,h2,h3⟩:=MX (C:=C) hb l [] n t hm;refine⟨t',?_,by simp_all,h3⟩;unfold iU kV;rw[DP l hk,pA,ND l ha];have hr:eE (Bt C ⟨n,t⟩) (l.map fun e=>RE.up b e.1 e.2)=true:=by
  rw[mI,ycb];intro x hx;obtain⟨e,_,rfl⟩:=yaq.1 hx;have e2:(!Nat.blt b C.base)=true:=by
   grind [pC]
  have e3:cH ⟨n,t⟩ b=some []:=by unfold cH;rw[hm];rfl
  show(!Nat.blt b C.base&&(match cH ⟨n,t⟩ b with | some []=>true | _=>false))=true
  simp_all
 simp_all
theorem kE.up{t':Tr qA}{b:Nat}{lo:Option Lo}{cs:List zA}(h:kE t b lo cs)(k:xB t t'):kE t' b lo cs:=by
 obtain⟨c,h1,h2⟩:=h;exact⟨c,k _ _ h1,h2⟩
end
end Go.Am
