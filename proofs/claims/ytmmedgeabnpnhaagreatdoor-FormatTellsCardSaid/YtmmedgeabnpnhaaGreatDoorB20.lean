/- Ranges over whole.downwards; whole.long. -/
import Derived.Test.YtmmedgeabnpnhaaGreatDoorB19
set_option linter.all false
noncomputable section
set_option maxRecDepth 100000
namespace Go.Proofs
open Go Go.Am
variable [kC]
variable {t tf:Tr sA}
theorem Vs{n:Nat}{y:sA}(hn:t.get n=none)(h:yB tf t):yB (tf.set n y) (t.set n y):=by
 intro c u hc;rw[Tr.get_set]at hc ⊢;split at hc
 ·simp_all
 ·rename_i e;rw[yaa e];exact h _ _ hc
theorem Ad(h:yB tf t){n:Nat}(hn:t.get n=none):tf.get n=none:=by
 cases hx:tf.get n with
 | none=>rfl
 | some y=>rw[h _ _ hx]at hn;cases hn
structure AY (S:Tr sA->Tr sA->Prop):Prop where
 le:∀ {tf t:Tr sA},S tf t->yB tf t
 both:∀ {tf t:Tr sA} {n:Nat},S tf t->t.get n=none->∀y,S (tf.set n y) (t.set n y)
 out:∀ {tf t:Tr sA} {n:Nat} {y:sA},tf.get n=none->S (tf.set n y) t->S tf (t.del n)
theorem FI{f i:Nat}{v8 v4:zA}{K R:T}{ps:List Nat}{Q:wC}{S:Nat->Tr sA->Tr sA->Prop}(hS:∀k,AY (S k))(hp:mA tf 1 (sB .u32 ps) v4)(hl:ps.length<30000)(h:S ps.length tf t)
  (body:∀(k x:Nat) (tf t:Tr sA) (Q1:wC),ps[k]?=some x->S (k+1) tf t->(∀t',S k tf t'->Q1 (.bool true) t')->Jq yA F f i [v8,.int .u32 (x:Int)] t Q1)
  (cC:∀tf' t',yB tf tf'->S 0 tf' t'->lA yA.base (Wq yA F gE) (Jq yA F f) K t' Q) :
  lA yA.base (Wq yA F gE) (Jq yA F f) (.call 242 [v4] fun a0=>.range (npC yA) a0 i 1 [v8] K R) t Q:=by
 simp only[lA];rw[q242];refine w242 ?_;simp only[t242,lA];intro bb hbb hbase;have hc4:v4.cells=[v4]:=by
  obtain⟨cl,h1,_⟩:=hp;rcases h1 with⟨rfl,_⟩ | ⟨_,_,_,rfl,_⟩<;>rfl
 have hone:tO v4 ⟨bb,t⟩=some (.ptr bb 0,⟨bb+1,t.set bb (.cells (Tr.ofList [v4]) 1 none)⟩):=by
  unfold tO;rw[hc4];rfl
 rw[hone,xA];simp only[];have h1:=(hS _).both h hbb (.cells (Tr.ofList [v4]) 1 none);have hfb:=Ad ((hS _).le h) hbb;have htf1:yB tf (tf.set bb (.cells (Tr.ofList [v4]) 1 none)):=(iK hfb _).1;generalize htf:tf.set bb (.cells (Tr.ofList [v4]) 1 none)=tf1 at h1 htf1;have hg1:tf1.get bb=some (.cells (Tr.ofList [v4]) 1 none):=by rw[<- htf,Tr.get_set,yab rfl]
 generalize t.set bb (.cells (Tr.ofList [v4]) 1 none)=t1 at h1;refine⟨Nat.le_add_right _ _,fun l r hl0 hlb hr1 hr2 hy=>?_⟩;have hra:Fu (npC yA) (.func (.func 261) [] [.ptr bb 0]) l=some (261,[.func (.yld l) [] [],.ptr bb 0]):=by
  unfold Fu;simp only[zA.asFunc,pA];have:npC yA 261=true:=by kernel_rfl
  rw[this];rfl
 rw[hra,xA];have h2:=(hS _).both h1 hl0 (.loop r);have hfl:=Ad ((hS _).le h1) hl0;have hlr:aT true r=r:=by
  obtain⟨a,b,c,d,e,f,g,h,i⟩:=r;have hr1:a=.ready:=hr1;have hr2:b=none:=hr2;subst hr1;subst hr2;rfl
 have hle2:yB tf1 (tf1.set l (.loop r)):=(iK hfl _).1;rw[show Wq yA F gE 261=Wc yA F 261 by funext a m R;rw[q261]];refine zjq (l:=ps) (v:=v4) (I:=fun k t'=>S k (tf1.set l (.loop r)) t') (by omega) ?_ ?_ ?_ h2
 ·intro k t' hI;have hle:=(hS _).le hI;have hg:t'.get bb=some (.cells (Tr.ofList [v4]) 1 none):=hle _ _ (hle2 _ _ hg1);refine⟨?_,hp.mono (htf1.trans (hle2.trans hle))⟩;exact(wD.load1 (cs:=[v4]) (lo:=none) ⟨Tr.ofList [v4],hg,fun j a hj=>by grind [Tr.get_ofList]⟩ mP rfl (j:=0) rfl)
 ·intro k x t' hx hI R hR;show oE (some (yo+l,[zA.int .u32 (x:Int)])) _;rw[xA];refine hy [.int .u32 (x:Int)] t' R rfl ((hS _).le hI _ _ (by rw[Tr.get_set,yab rfl])) ?_;refine body k x tf1 _ _ hx ((hS _).out hfl hI) fun t2 h3 hn2=>⟨true,rfl,?_⟩;rw[hlr];exact hR _ ((hS _).both h3 hn2 (.loop r))
 ·intro t' hI;exact .inl ⟨(hS _).le hI _ _ (by rw[Tr.get_set,yab rfl]),cC tf1 _ htf1 ((hS _).out hfl hI)⟩
def Ef (bx:Nat)(v:zA)(tf t:Tr sA):Prop:=yA.base<=bx/\tf.get bx=none/\yB tf t/\wD t bx none [v]
theorem Ef.framed{bx:Nat}{v:zA}:AY (Ef bx v) where
 le:=fun h=>h.2.2.1
 both:=fun {tf t n} h hn y=>by
  obtain⟨h1,h2,h3,h4⟩:=h;have hbx:bx≠n:=by intro e;obtain⟨c,h,_⟩:=h4;simp_all
  exact⟨h1,by grind [Tr.get_set],Vs hn h3,h4.off (by rw[Tr.get_set,yaa hbx])⟩
 out:=fun {tf t n y} hn h=>by
  obtain⟨h1,h2,h3,h4⟩:=h;have hbx:bx≠n:=by grind [Tr.get_set]
  have hle:yB tf (tf.set n y):=(iK hn y).1;rw[Tr.get_set,yaa hbx]at h2;refine⟨h1,h2,fun c u hc=>?_,h4.off (by rw[Tr.get_del,yaa hbx])⟩;have:c≠n:=fun e=>by simp_all
  rw[Tr.get_del,yaa this];exact h3 _ _ (hle _ _ hc)
theorem VW{bx x y:Nat}{Q1:wC}(h:Ef bx (.int .u64 (y:Int)) tf t)(hy:y<4294967296)(hx:x<4294967296)(hQ:∀t',Ef bx (.int .u64 ((y*4294967296+x:Nat):Int)) tf t'->Q1 (.bool true) t'):jp 287 2 [.ptr bx 0,.int .u32 (x:Int)] t Q1:=by
 obtain⟨i1,i2,i3,i4⟩:=h;have e5:(y:Int)*4294967296=((y*4294967296:Nat):Int):=by omega
 have e6:gI Nat.lor .u64 (iA .u64 ((y:Int)*4294967296)) (iA .u64 (x:Int))=some (.int .u64 ((y*4294967296+x:Nat):Int)):=by
  rw[e5,yG (by omega) (by omega),yG (by omega) (by omega),or32 hy hx]
 generalize y*4294967296+x=z at e6 hQ;refine j287_2 ?_;simp only[uE,zeo,lA];rw[i4.load1 Ja rfl (j:=0) rfl,xA,aB,xA,e6,xA,aB,xA];intro b3 _ _;obtain⟨t3,k1,k2,k3⟩:=i4.store1 (v:=.int .u64 (z:Int)) i1 Ja rfl rfl rfl (j:=0) (by simp);rw[k1,xA];exact hQ _ ⟨i1,i2,i3.off i2 k3,k2⟩
theorem VV{l:List Nat}{k x:Nat}(hl:l.length<=2)(hlt:wB 4294967296 l)(hx:l[k]?=some x):x<4294967296/\val 4294967296 (l.drop (k+1))<4294967296/\val 4294967296 (l.drop k)=val 4294967296 (l.drop (k+1))*4294967296+x:=by
 have hk:k<l.length:=(ybc.1 hx).1;have hdrop:l.drop k=x::l.drop (k+1):=by
  grind [List.drop_eq_getElem_cons]
 refine⟨hlt x (ycv hx),?_,?_⟩
 ·have h1:=OG hlt (k+1);have h2:(l.drop (k+1)).length<=1:=by grind
  generalize l.drop (k+1)=m at h1 h2 ⊢
  match m,h1,h2 with
  | [],_,_=>exact Nat.zero_lt_succ _
  | [a],h1,_=>rw[val,val,yat,yct];exact h1 a (.head _)
 grind [val]
theorem zig{l:List Nat}{v:zA}(hv:mA t 1 (sB .u32 l) v)(hl:l.length<=2)(hlt:wB 4294967296 l):vB yA F 287 [v] t=some (.int .u64 ((val 4294967296 l:Nat):Int)):=by
 refine rN (w287 ?_);have hlen0:l.length<30000:=by omega
 have hst:∀k x,l[k]?=some x->_:=fun k x=>VV (k:=k) (x:=x) hl hlt;have h0:val 4294967296 (l.drop l.length)=0:=by rw[List.drop_length,val]
 generalize hg:(fun k=>val 4294967296 (l.drop k))=g;have hst':∀k x,l[k]?=some x->x<4294967296/\g (k+1)<4294967296/\g k=g (k+1)*4294967296+x:=fun k x hx=>by grind
 have h0':g l.length=0:=by grind
 have hend:val 4294967296 l=g 0:=by grind
 rw[hend];clear hg hst h0 hend;unfold t287 uE;show ∀b,t.get b=none->yA.base<=b->oE (eR yA 209 ⟨b,t⟩) _;intro bx hbx hbase;obtain⟨t1,e1,e2,e3,e4⟩:=Hp (C:=yA) Ja hbx;rw[e1,xA];show ∀b,t1.get b=none->yA.base<=b->oE (pE yA 209 (.ptr bx 0) (.int .u64 0) ⟨b,t1⟩) _;intro b2 _ _;obtain⟨t2,g1,g2,g3⟩:=e2.store1 (v:=.int .u64 0) hbase Ja rfl rfl rfl (j:=0) (by simp);rw[g1,xA];have hS0:Ef bx (.int .u64 ((g l.length:Nat):Int)) t t2:=by
  rw[h0'];exact⟨hbase,hbx,(yB.refl t).off hbx e4 |>.off hbx g3,g2⟩
 refine FI (S:=fun k tf t=>Ef bx (.int .u64 ((g k:Nat):Int)) tf t) (fun k=>Ef.framed) hv hlen0 hS0 ?_ ?_
 ·grind [VW]
 ·intro tf' t' hle hI;obtain⟨i1,i2,i3,i4⟩:=hI;simp only[lA];rw[i4.load1 Ja rfl (j:=0) rfl,xA];simp only[aB,xA];exact⟨trivial,hle.trans i3⟩
end Go.Proofs
namespace Go.Am
open Go
def eE (u:Nat):List Nat:=(Lib.decDigits u).map UInt8.toNat
theorem Lt{u:Nat}(h:u<10):eE u=[48+u]:=by
 grind [eE,Lib.decDigits_one,UInt8.toNat_ofNat']
theorem Ha{u:Nat}(h:¬ u<10):eE u=eE (u / 10)++[48+u%10]:=by
 grind [eE,Lib.decDigits,UInt8.toNat_ofNat']
def Qg(u:Nat):mH (u:Int)=eE u:=by
 grind [mH,Lib.itoa,eE]
def Yt{u:Nat}(h:0<u):mH (-(u:Int))=45::eE u:=by
 grind [mH,Lib.itoa,eE]
def zdr(u:Nat):(eE u).length=Lib.nDigits u:=by unfold eE;rw[ybf,Lib.decDigits_length]
theorem qW(u:Nat):0<(eE u).length:=by rw[zdr];exact Lib.nDigits_pos u
def Gz(u:Nat):∀x∈eE u,48<=x/\x<58:=by
 induction u using Nat.strongRecOn with
 | _ u ih=>
  grind [Lt,Ha]
def Dk{u k:Nat}(hk:0<k)(h:u<10^k):(eE u).length<=k:=by
 induction k generalizing u with
 | zero=>omega
 | succ k ih=>
  grind [Lt,Ha]
def dP:Nat->Nat->List Nat
 | 0,_=>[]
 | k+1,r=>dP k (r / 10)++[48+r%10]
theorem Xe:∀(k r:Nat),(dP k r).length=k
 | 0,_=>rfl
 | k+1,r=>by rw[dP,ybg,Xe k];rfl
theorem GM:∀k,dP k 0=List.replicate k 48
 | 0=>rfl
 | k+1=>by rw[dP,GM k,List.replicate_succ']
theorem zh6{k r:Nat}(hk:0<k)(h:r<10^k):dP k r=List.replicate (k-(eE r).length) 48++eE r:=by
 induction k generalizing r with
 | zero=>omega
 | succ k ih=>
  rw[dP];by_cases h10:r<10
  ·grind [Lt,GM]
  ·have h1:r / 10<10^k:=by omega
   have hk0:0<k:=by
    grind
   simp_all [Ha]
def zdq{q:Nat}(hq:0<q):∀ {k r:Nat},r<10^k->eE (q*10^k+r)=eE q++dP k r:=by
 intro k;induction k with
 | zero=>grind [dP]
 | succ k ih=>
  intro r h;have hp:0<10^k:=Nat.pow_pos (by decide);have hb:¬ q*10^(k+1)+r<10:=by
   have:10^(k+1)=10^k*10:=yag ..;have h2:10<=q*10^(k+1):=by
    rw[this];calc 10=1*(1*10):=by omega
     _<=q*(10^k*10):=ydb hq (ydb hp (ybk _))
   omega
  have e1:(q*10^(k+1)+r) / 10=q*10^k+r / 10:=by
   rw[yag,<- ybj,yap,Nat.add_mul_div_right _ _ (by decide),yap]
  have e2:(q*10^(k+1)+r)%10=r%10:=by
   rw[yag,<- ybj,yap,Nat.add_mul_mod_self_right]
  rw[Ha hb,e1,e2,ih (by omega),dP,ybz]
def GN:∀(k r:Nat),∀x∈dP k r,48<=x/\x<58
 | 0,_,x,hx=>by cases hx
 | k+1,r,x,hx=>by
  rw[dP]at hx;rcases yaf.1 hx with hx | hx
  ·exact GN k _ x hx
  grind
def dJ:List Nat->List Nat
 | []=>[]
 | [p]=>eE p
 | p::q::l=>dJ (q::l)++dP 9 p
def CL:∀ {l:List Nat},l≠[]->(∀x∈l,x<1000000000)->l.getLast?≠some 0->dJ l=eE (val 1000000000 l)/\0<val 1000000000 l
 | [],h,_,_=>absurd rfl h
 | [p],_,_,h=>by
  grind [dJ,val]
 | p::q::l,_,h1,h2=>by
  obtain⟨g1,g2⟩:=CL (l:=q::l) (by simp) (fun x hx=>h1 x (.tail _ hx)) (by simp_all);have hp:=h1 p (.head _);have e:val 1000000000 (p::q::l)=val 1000000000 (q::l)*10^9+p:=by
   rw[val];omega
  rw[e,zdq g2 (by omega),dJ,g1]
  grind
def Tf:∀(l:List Nat),∀x∈dJ l,48<=x/\x<58
 | [],x,hx=>by cases hx
 | [p],x,hx=>Gz p x hx
 | p::q::l,x,hx=>by
  rw[dJ]at hx;rcases yaf.1 hx with hx | hx
  ·exact Tf _ x hx
  ·exact GN _ _ x hx
def lU (neg:Bool)(n:Nat):List Nat:=(if neg then [45]else [])++eE n
end Go.Am
namespace Go.Am
open Go Go.RowKit
section
variable {base:Nat}{t t0:Tr sA}{X X0:Xt}{HA:wA}{n:Nat}{y:sA}{C:fA}{F:Tr eF}{Q:wC}
def Xt.put(X:Xt)(n:Nat)(y:sA):Xt:=fun b=>if b=n then some y else X b
theorem Xt.put_self{X:Xt}:X.put n y n=some y:=yab rfl
theorem Xt.put_ne{X:Xt}{b:Nat}(h:b≠n):X.put n y b=X b:=yaa h
theorem Ov.hide(h:Ov base t X HA)(hy:t.get n=some y)(h0:t0.get n=none)(ho:rE n t0 t):Ov base t0 (X.put n y) HA:=by
 refine⟨h.base,fun b hb=>?_,fun b z hb=>?_,fun b z hb=>?_⟩
 ·by_cases e:b=n
  ·grind [Xt.put_self]
  ·rw[Xt.put_ne e]at hb;rw[h.same b hb,ho b e]
 ·by_cases e:b=n
  ·subst e;rw[Xt.put_self]at hb;cases hb;exact⟨h.up hy,h0,h.lt _ _ hy⟩
  ·rw[Xt.put_ne e]at hb;obtain⟨h1,h2,h3⟩:=h.ext b z hb;exact⟨h1,by rw[<- ho b e];exact h2,h3⟩
 ·by_cases e:b=n
  ·simp_all
  ·exact h.lt b z (by rw[ho b e];exact hb)
theorem oC.unhide{Q:wC}{d:dB}(hX:X.put n y=X0)(hn:X n=none)(h:oC base X0 Q d):oC base X (fun v t'=>∃t0',Q v t0'/\t0'.get n=none/\t'.get n=some y/\rE n t0' t') d:=by
 obtain⟨v,t',HA',X',h1,h2,h3,h4⟩:=h;subst hX;have hy:X' n=some y:=h3 n y Xt.put_self;obtain⟨e1,e2,e3⟩:=h2.ext n y hy;obtain⟨_,ho⟩:=iK (t:=t') e2 y;have hs:(t'.set n y).get n=some y:=by rw[Tr.get_set,yab rfl]
 refine⟨v,t'.set n y,HA',fun b=>if b=n then none else X' b,h1,⟨h2.base,fun b hb=>?_,fun b z hb=>?_,fun b z hb=>?_⟩,fun b z hb=>?_,t',h4,e2,hs,ho⟩
 ·by_cases e:b=n
  ·subst e;rw[e1,hs]
  ·have hb:(if b=n then none else X' b)=none:=hb;rw[yaa e]at hb;rw[h2.same b hb,ho b e]
 ·by_cases e:b=n
  ·simp_all
  ·have hb:(if b=n then none else X' b)=some z:=hb;rw[yaa e]at hb;obtain⟨k1,k2,k3⟩:=h2.ext b z hb;exact⟨k1,by rw[ho b e];exact k2,k3⟩
 ·by_cases e:b=n
  ·omega
  ·rw[ho b e]at hb;exact h2.lt b z hb
 ·show(if b=n then none else X' b)=some z;have e:b≠n:=fun e=>by simp_all
  rw[yaa e];exact h3 b z (by grind [Xt.put_ne])
theorem Wc.frame{f:Nat}{args:List zA}(h:Wc C F f args t0 Q)(hy:t.get n=some y)(h0:t0.get n=none)(ho:rE n t0 t) :
  Wc C F f args t (fun v t'=>∃t0',Q v t0'/\t0'.get n=none/\t'.get n=some y/\rE n t0' t'):=
 fun X HA hv=>(h _ HA (hv.hide hy h0 ho)).unhide rfl (hv.notX hy)
end
theorem Tr.without(t:Tr sA):∀n:Nat,∃t0:Tr sA,t0.get n=none/\rE n t0 t:=by
 induction t with
 | leaf=>exact fun n=>⟨.leaf,Tr.get_leaf n,fun _ _=>rfl⟩
 | node l v r ihl ihr=>
  intro n;by_cases h0:n=0
  ·subst h0;refine⟨.node l none r,by rw[Tr.get_node];rfl,fun k hk=>?_⟩;rw[Tr.get_node,Tr.get_node,yaa hk,yaa hk]
  ·by_cases h1:n%2=1
   ·obtain⟨l0,g1,g2⟩:=ihl (n / 2);refine⟨.node l0 v r,by grind [Tr.get_node],fun k hk=>?_⟩;rw[Tr.get_node,Tr.get_node];split
    ·rfl
    ·split
     ·exact g2 _ (by omega)
     ·rfl
   ·obtain⟨r0,g1,g2⟩:=ihr (n / 2-1);refine⟨.node l v r0,by grind [Tr.get_node],fun k hk=>?_⟩;rw[Tr.get_node,Tr.get_node];split
    ·rfl
    ·split
     ·rfl
     ·exact g2 _ (by omega)
end Go.Am
namespace Go.Proofs
open Go Go.Am
variable [kC]
variable {t tf:Tr sA}
theorem cG.call{cd:Lo}{base sz:Nat}{l:List D}{v:zA}(h:cG cd base tf t sz l v)(ht:yB tf t):∃t0,yB tf t0/\∀ {f:Nat} {args:List zA} {Q:wC},Wc yA F f args t0 Q->Wc yA F f args t (fun u t'=>∃t1,Q u t1/\(yB tf t1->yB t1 t'/\cG cd base t1 t' sz l v)):=by
 rcases h with⟨rfl,rfl⟩ | ⟨b,cl,c,rfl,h0,h1,h2,h3,h4⟩
 ·exact⟨t,ht,fun h=>h.mono fun u t' hq=>⟨t',hq,fun _=>⟨yB.refl _,.inl ⟨rfl,rfl⟩⟩⟩⟩
 ·obtain⟨t0,g1,g2⟩:=Tr.without t b;refine⟨t0,fun k u hk=>?_,fun h=>(h.frame h2 g1 g2).mono fun u t' ⟨t1,k1,k2,k3,k4⟩=>⟨t1,k1,fun hle=>⟨fun k u hk=>?_,.inr ⟨b,cl,c,rfl,h0,k2,k3,h3,iC.mono hle _ _ h4⟩⟩⟩⟩
  ·have hkb:k≠b:=by grind
   rw[<- g2 k hkb];exact ht _ _ hk
  ·have hkb:k≠b:=by grind
   rw[k4 k hkb];exact hk
def el203:Ia yA 240 242 1:=⟨⟨_,mP,rfl,rfl⟩,⟨_,xH,rfl,rfl,by decide,by decide⟩⟩
def el35:Ia yA 90 5 1:=⟨⟨_,sO,rfl,rfl⟩,⟨_,tN,rfl,rfl,by decide,by decide⟩⟩
def co202:∀z,yA.tys.get 242=some z->cK 242 z=.sz 1:=fun z h=>by rw[xH]at h;cases h;rfl
def co5:∀z,yA.tys.get 5=some z->cK 5 z=.ty 5:=fun z h=>by rw[tN]at h;cases h;rfl
theorem Za{cd:Lo}{base sz:Nat}{l:List D}{v:zA}{b:Nat}(h:cG cd base tf t sz l v)(hb:dM v b)(hn:t.get b=none):False:=by
 obtain⟨_,_,y,hy⟩:=h.none hb
 simp_all
theorem UK{v2:List Nat}{v3:Int}{neg:Bool}{c1:zA}{N M:Nat}{Q:wC}{t0:Tr sA}(hM:M<400000)
  (hR:∀(tf t':Tr sA) (ps:List Nat) (v4 v5:zA),yB t0 tf->yB tf t'->cG (.sz 1) yA.base tf t' 1 (sB .u32 ps) v4->mA tf 1 (sB .u32 []) v5->wB 1000000000 ps->ps≠[]->ps.getLast?≠some 0->val 1000000000 ps=N->ps.length<=M->jp 211 2 [.str v2,.int .i64 v3,v4,v5,.bool neg,c1] t' Q) :
  ∀(k:Nat) (l ps:List Nat) (v4 v5:zA) (tf t':Tr sA),val 4294967296 l<1000000000^k->k+ps.length<=M->norm l->wB 4294967296 l->l.length<900000->wB 1000000000 ps->(l=[]->ps≠[]/\ps.getLast?≠some 0) →
   val 4294967296 l*1000000000^ps.length+val 1000000000 ps=N->yB t0 tf->yB tf t'->cG (.sz 1) yA.base tf t' 1 (sB .u32 ps) v4->mA tf 1 (sB .u32 l) v5->jp 211 2 [.str v2,.int .i64 v3,v4,v5,.bool neg,c1] t' Q:=by
 intro k;induction k with
 | zero=>
  intro l ps v4 v5 tf t' h1 h2 h3 h4 h5 h6 h7 h8 h9 h10 h11 h12;have hl:l=[]:=Gc (B:=4294967296) (by decide) h3 (by omega)
  grind
 | succ k ih=>
  intro l ps v4 v5 tf t' h1 h2 h3 h4 h5 h6 h7 h8 h9 h10 h11 h12;by_cases hl:l=[]
  ·grind [val]
  have hpos:0<l.length:=List.length_pos_iff.2 hl;have hv0:0<val 4294967296 l:=by
   rcases yav (val 4294967296 l)with e | e
   ·exact absurd (Gc (B:=4294967296) (by decide) h3 e) hl
   ·exact e
  refine zf6 ?_;simp only[uI,uL,uX,uZ,uY,Uo,lA,(h12.mono h10).len,xA,aB,pD,uC];rw[yab (by omega),q241];obtain⟨t1,g1,g2⟩:=cG.call h11 h10;refine(g2 (MC (h12.mono g1) h5 h4 (d:=1000000000) (by decide) (by decide) (Q:=fun u t'=>∃v' q r,u=.tup [v',.int .u32 (r:Nat)]/\yB t1 t'/\mA t' 1 (sB .u32 (eD q)) v'/\wB 4294967296 q/\q.length=l.length/\r<1000000000/\val 4294967296 l=val 4294967296 q*1000000000+r) fun t' v' q r a b c d e f=>⟨v',q,r,rfl,a,b,c,d,e,f⟩)).mono ?_
  rintro u t2 ⟨tf2,⟨v',q,r,rfl,a1,a2,a3,a4,a5,a6⟩,hk⟩;obtain⟨b1,b2⟩:=hk (g1.trans a1);have x0:eJ 0 (.tup [v',.int .u32 (r:Nat)])=some v':=rfl;have x1:eJ 1 (.tup [v',.int .u32 (r:Nat)])=some (.int .u32 (r:Nat)):=rfl;simp only[x0,x1,xA,aB];intro n hn hbase;obtain⟨H1,c1',c2,c3⟩:=Cx (k:=.u32) mP rfl xH rfl rfl r trivial hn;rw[c1',xA];intro n2 hn2 hbase2;have b3:cG (.sz 1) yA.base tf2 H1.t 1 (sB .u32 ps) v4:=b2.keep' fun b hb=>by
   obtain⟨_,_,y,hy⟩:=b2.none hb;rw[c3 _ _ hy,hy]
  obtain⟨t4,d1,d2,d3,d4⟩:=AR el203 co202 b3 (c2.all (cap:=1) (ybk _)) (by simp) (by grind) hn2 hbase2 (b1.trans c3);simp only[List.length_singleton]at d1 d2;simp only[];rw[d1,xA];refine ih (eD q) (ps++[r]) _ _ tf2 t4 ?_ ?_ (yR _) (bS a3) ?_ ?_ ?_ ?_ (h9.trans (g1.trans a1)) d3 ?_ a2
  ·grind [gQ]
  ·grind
  ·grind [Vf]
  ·exact OH h6 fun x hx=>by simp_all
  ·intro hs;refine⟨by simp,?_⟩;have hq:val 4294967296 q=0:=by rw[<- gQ,hs];rfl
   grind
  ·rw[gQ,Em,ybg];simp only[val,ybn,ybx,ybw,yat,yct];grind
  omega
end Go.Proofs
namespace Go.Proofs
open Go Go.Am
section
variable [kC]
variable {t tf:Tr sA}{bx:Nat}{s m:List Nat}
def TX (tf t:Tr sA)(bx:Nat)(s:List Nat):Prop:=yA.base<=bx/\tf.get bx=none/\yB tf t/\∃tv,wD t bx none [tv]/\cG (.ty 5) yA.base tf t 1 (sB .u8 s) tv/\¬ dM tv bx
theorem TX.both(h:TX tf t bx s){n:Nat}(hn:t.get n=none)(y:sA):TX (tf.set n y) (t.set n y) bx s:=by
 obtain⟨h1,h2,h3,tv,h4,h5,h6⟩:=h;have hbx:bx≠n:=by intro e;obtain⟨c,h,_⟩:=h4;simp_all
 refine⟨h1,by grind [Tr.get_set],Vs hn h3,tv,h4.off (by rw[Tr.get_set,yaa hbx]),?_,h6⟩;have hb:∀b,dM tv b->b≠n:=fun b hb e=>Za h5 hb (e ▸ hn);rcases h5 with⟨rfl,h5⟩ | ⟨b,cl,c,rfl,k0,k1,k2,k3,k4⟩
 ·exact .inl ⟨rfl,h5⟩
 ·have hbn:=hb b (Ak.2 rfl);exact .inr ⟨b,cl,c,rfl,k0,by grind [Tr.get_set],by grind [Tr.get_set],k3,iC.mono (fun c u hc=>by
   grind [Ad,Tr.get_set]) _ _ k4⟩
theorem TX.out{n:Nat}{y:sA}(hn:tf.get n=none)(h:TX (tf.set n y) t bx s):TX tf (t.del n) bx s:=by
 obtain⟨h1,h2,h3,tv,h4,h5,h6⟩:=h;have hbx:bx≠n:=by grind [Tr.get_set]
 have hle:yB tf (tf.set n y):=(iK hn y).1;rw[Tr.get_set,yaa hbx]at h2;refine⟨h1,h2,fun c u hc=>?_,tv,h4.off (by rw[Tr.get_del,yaa hbx]),?_,h6⟩
 ·have:c≠n:=fun e=>by simp_all
  rw[Tr.get_del,yaa this];exact h3 _ _ (hle _ _ hc)
 ·rcases h5 with⟨rfl,h5⟩ | ⟨b,cl,c,rfl,k0,k1,k2,k3,k4⟩
  ·exact .inl ⟨rfl,h5⟩
  ·have hbn:b≠n:=by grind [Tr.get_set]
   refine .inr ⟨b,cl,c,rfl,k0,by grind [Tr.get_set],by grind [Tr.get_del],k3,?_⟩
   grind [oZ]
theorem TX.load(h:TX tf t bx s):∃tv,dA yA 90 ⟨0,t⟩ (.ptr bx 0)=some tv/\wD t bx none [tv]/\cG (.ty 5) yA.base tf t 1 (sB .u8 s) tv/\¬ dM tv bx:=by
 obtain⟨h1,h2,h3,tv,h4,h5,h6⟩:=h;exact⟨tv,h4.load1 sO rfl rfl,h4,h5,h6⟩
theorem TX.put{t1:Tr sA}{n k:Nat}{tv:zA}(hb:yA.base<=bx)(hf:tf.get bx=none)(hc:wD t1 bx none [tv])(hl:cG (.ty 5) yA.base tf t1 1 (sB .u8 s) (.slice n 0 k k))(hle:yB tf t1)(hn:n≠bx) :
  ∃t2,(∀n',pE yA 90 (.ptr bx 0) (.slice n 0 k k) ⟨n',t1⟩=some (vE,⟨n',t2⟩))/\TX tf t2 bx s:=by
 obtain⟨t2,g1,g2,g3⟩:=hc.store1 (v:=.slice n 0 k k) hb sO rfl rfl rfl (j:=0) (by simp);refine⟨t2,g1,hb,hf,hle.off hf g3,_,g2,hl.keep' fun b hb'=>g3 b fun e=>?_,fun e=>?_⟩
 all_goals grind [Ak]
theorem TX.add(h:TX tf t bx s)(hm:m≠[])(hl:s.length+m.length<400000):∃tv,dA yA 90 ⟨0,t⟩ (.ptr bx 0)=some tv/\∀n,t.get n=none->yA.base<=n →
  ∃w t1 t2,vF yA 90 9 tv (.str m) ⟨n,t⟩=some (w,⟨n+1,t1⟩)/\(∀n',pE yA 90 (.ptr bx 0) w ⟨n',t1⟩=some (vE,⟨n',t2⟩))/\TX tf t2 bx (s++m):=by
 obtain⟨tv,h1,h2,h3,h4⟩:=h.load;refine⟨tv,h1,fun n hn hbase=>?_⟩;have hbn:n≠bx:=by intro e;obtain⟨c,hh,_⟩:=h2;simp_all
 obtain⟨t1,g1,g2,g3,g4⟩:=NZ el35 ⟨_,gH,rfl⟩ co5 h3 hm hl hn hbase h.2.2.1;obtain⟨t2,g5,g6⟩:=TX.put h.1 h.2.1 (h2.off (g4 bx hbn.symm h4)) g2 g3 hbn
 grind
theorem TX.byte(h:TX tf t bx s)(x:Nat)(hl:s.length+1<400000):∃tv,dA yA 90 ⟨0,t⟩ (.ptr bx 0)=some tv/\∀n,t.get n=none->yA.base<=n →
  ∃H1,jE yA 90 1 [(0,.int .u8 (x:Int))] ⟨n,t⟩=some (.slice n 0 1 1,H1)/\∀n2,H1.t.get n2=none->yA.base<=n2 →
   ∃w t1 t2,vF yA 90 90 tv (.slice n 0 1 1) ⟨n2,H1.t⟩=some (w,⟨n2+1,t1⟩)/\(∀n',pE yA 90 (.ptr bx 0) w ⟨n',t1⟩=some (vE,⟨n',t2⟩))/\TX tf t2 bx (s++[x]):=by
 obtain⟨tv,h1,h2,h3,h4⟩:=h.load;refine⟨tv,h1,fun n hn hbase=>?_⟩;obtain⟨H1,c1,c2,c3⟩:=Cx (k:=.u8) sO rfl tN rfl rfl x trivial hn;refine⟨H1,c1,fun n2 hn2 hbase2=>?_⟩;have hcel:wD H1.t bx none [tv]:=h2.off (by
  obtain⟨c,hh,_⟩:=h2;rw[c3 _ _ hh,hh])
 have hbn:n2≠bx:=by intro e;obtain⟨c,hh,_⟩:=hcel;simp_all
 have h3':cG (.ty 5) yA.base tf H1.t 1 (sB .u8 s) tv:=h3.keep' fun b hb=>by
  obtain⟨_,_,y,hy⟩:=h3.none hb;rw[c3 _ _ hy,hy]
 obtain⟨t1,g1,g2,g3,g4⟩:=AR el35 co5 h3' (c2.all (cap:=1) (ybk _)) (by simp) (by omega) hn2 hbase2 (h.2.2.1.trans c3);simp only[List.length_singleton]at g1 g2;obtain⟨t2,g5,g6⟩:=TX.put h.1 h.2.1 (hcel.off (g4 bx hbn.symm h4)) g2 g3 hbn
 grind
theorem zci{Q:wC}{c:Nat}(hm:m≠[])(hc:c<100)(hml:m.length<100):∀(k i:Nat) (s:List Nat) (t:Tr sA),i+k=c->s.length+k+m.length<400000->TX tf t bx s->(∀t',TX tf t' bx (s++(List.replicate k 48++m))->Q (.bool true) t') →
  jp 211 10 [.ptr bx 0,.str m,.int .i64 (c:Int),.int .i64 (i:Int)] t Q:=by
 intro k;induction k with
 | zero=>
  intro i s t hi hl h hQ;refine JV ?_;simp only[qB,uZ,uY,Up,lA,uC];rw[yaa (by omega)];obtain⟨tv,g1,g2⟩:=h.add hm (by omega)
  grind [xA]
 | succ k ih=>
  intro i s t hi hl h hQ;refine JV ?_;simp only[qB,uZ,uY,Up,lA,uC];rw[yab (by omega)];obtain⟨tv,g1,g2⟩:=h.byte 48 (by omega);rw[g1,xA];intro n hn hbase;obtain⟨H1,g3,g4⟩:=g2 n hn hbase;rw[show((48:Nat):Int)=48 from rfl]at g3;rw[g3,xA];intro n2 hn2 hbase2;obtain⟨w,t1,t2,g5,g6,g7⟩:=g4 n2 hn2 hbase2;simp only[];rw[g5,xA];intro n3 _ _;rw[g6,xA];rw[wrap_i64 (by omega) (by omega),show(i:Int)+1=((i+1:Nat):Int) by omega]
  refine ih (i+1) (s++[48]) t2 (by omega) (by grind) g7 fun t' h'=>hQ t' ?_
  grind
def zg1{u:Nat}(h:u<18446744073709551616):vB yA F 243 [.int .u64 (u:Int),.int .i64 10] t=some (.str (eE u)):=by
 have hg:yA.prims.get 243=some (qN Ka):=by kernel_rfl
 refine Oj hg fun H=>?_;show mB (qC 0 (u:Int)&&lB (u:Int) 18446744073709551616&&zB 10 10) (some (zA.str (mH (u:Int))))=_;rw[Qg,mD.2 (by omega),uC.2 (by omega)];rfl
def Md(s:List Nat)(x:Nat):List Nat:=if s=[]\/s=[45]then s++eE x else s++dP 9 x
theorem zj0{Q:wC}{x:Nat}(h:TX tf t bx s)(hx:x<1000000000)(hs:s.length<300000)(hlt:wB 256 s)(hQ:∀t',TX tf t' bx (Md s x)->Q (.bool true) t'):jp 211 6 [.ptr bx 0,.int .u32 (x:Int)] t Q:=by
 have hd:=qW x;have hd9:(eE x).length<=9:=Dk (by decide) (by omega);have hne:eE x≠[]:=fun e=>by simp_all
 have hpad:s≠[]->s≠[45]->jp 211 10 [.ptr bx 0,.str (eE x),.int .i64 (iA .i64 (9-Int.ofNat (kB (eE x)))),.int .i64 0] t Q:=by
  intro h1 h2;have e:iA .i64 (9-Int.ofNat (kB (eE x)))=((9-(eE x).length:Nat):Int):=by
   grind [jD,wrap_i64]
  rw[e];refine zci hne (by omega) (by omega) _ 0 s t (ybw _) (by omega) h fun t' h'=>hQ t' ?_
  grind [Md,zh6]
 have hadd:s=[]\/s=[45]->∃tv,dA yA 90 ⟨0,t⟩ (.ptr bx 0)=some tv/\∀b,t.get b=none->yA.base<=b->oE (vF yA 90 9 tv (.str (eE x)) ⟨b,t⟩) fun p=>∀b,p.2.t.get b=none->yA.base<=b->oE (pE yA 90 (.ptr bx 0) p.1 ⟨b,p.2.t⟩) fun p=>Q (.bool true) p.2.t:=by
  intro hs';obtain⟨tv,g1,g2⟩:=h.add hne (by omega)
  grind [xA,Md]
 obtain⟨tv,l1,l2,l3,l4⟩:=h.load;refine j211_6 ?_;simp only[uQ14,uI,uU,uS,uZ,uW,zex,lA,q243];rw[yG (by omega) (by omega),zg1 (by omega),xA];simp only[zA.asStr,xA,l1,l3.len,aB,pD,uC,tE];by_cases h1:1<s.length
 ·rw[yab (by omega)];exact hpad (by grind) (by grind)
 ·rw[yaa (by omega)];by_cases h2:s.length=1
  ·rw[yab (by omega)];obtain⟨y,rfl⟩:=List.length_eq_one_iff.1 h2;have hr:=l3.read (by rfl) h.2.2.1;obtain⟨b,off,k1,k2⟩:=hr.idx sl90 (i:=0) (x:=y) rfl
   grind [xA,aB,lY]
  grind [List.length_eq_zero_iff]
end
section
variable [kC]
variable {t tf:Tr sA}{bx:Nat}{s m:List Nat}
theorem ZX{sg:List Nat}(hsg:sg=[]\/sg=[45]){x:Nat}{l:List Nat}:Md (sg++dJ l) x=sg++dJ (x::l):=by
 unfold Md
 cases l with
 | nil=>
  grind [dJ]
 | cons p l=>
  have hne:dJ (p::l)≠[]:=by
   cases l with
   | nil=>grind [qW,dJ]
   | cons q l=>
    grind [dJ,List.length_append,Xe]
  rw[yaa,dJ,ybz];rintro(h | h)
  ·simp_all
  ·rcases hsg with rfl | rfl
   ·rw[yah]at h;have:=Tf (p::l) 45 (by simp_all);omega
   simp_all
theorem CK:∀(l:List Nat),(∀x∈l,x<1000000000)->(dJ l).length<=9*l.length
 | [],_=>by simp[dJ]
 | [p],h=>by
  simp_all [Dk,dJ]
 | p::q::l,h=>by
  have:=CK (q::l) fun x hx=>h x (.tail _ hx)
  grind [dJ,Xe]
theorem OF{sg l:List Nat}(hsg:sg=[]\/sg=[45]):wB 256 (sg++dJ l):=by
 intro x hx;rcases yaf.1 hx with hx | hx
 ·grind
 ·have:=Tf _ x hx;omega
theorem TX.framed{bx:Nat}{s:List Nat}:AY (fun tf t=>TX tf t bx s) where
 le:=fun h=>h.2.2.1
 both:=fun h hn y=>h.both hn y
 out:=fun hn h=>TX.out hn h
theorem zed{Q:wC}{t0:Tr sA}{ps:List Nat}{v4:zA}{sg:List Nat}(hsg:sg=[]\/sg=[45])(h0:yB t0 tf)(hp:mA tf 1 (sB .u32 ps) v4)(hlt:wB 1000000000 ps)(hl:ps.length<30000)(h:TX tf t bx sg)
  (hQ:∀t',yB t0 t'->Q (.tup [.str (sg++dJ ps),.int .i64 0]) t'):jp 211 29 [.str [],.int .i64 0,v4,.ptr bx 0] t Q:=by
 refine ziz ?_;unfold CY uS uZ;refine FI (S:=fun k tf t=>TX tf t bx (sg++dJ (ps.drop k))) (fun k=>TX.framed) hp hl (by grind [dJ]) ?_ ?_
 ·intro k x tf t' Q1 hx hI hQ1;have hk:k<ps.length:=(ybc.1 hx).1;have hxl:x<1000000000:=hlt x (ycv hx);have hdrop:ps.drop k=x::ps.drop (k+1):=by
   grind [List.drop_eq_getElem_cons]
  have hlen:(sg++dJ (ps.drop (k+1))).length<300000:=by
   have:=CK (ps.drop (k+1)) fun y hy=>hlt y (List.mem_of_mem_drop hy)
   grind
  grind [zj0,OF,ZX]
 ·intro tf' t' hle h3;rw[ycr]at h3;obtain⟨tv,g1,_,g3,_⟩:=h3.load;show oE (dA yA 90 ⟨0,t'⟩ (.ptr bx 0)) _;rw[g1,xA];show oE (kK yA 90 9 ⟨0,t'⟩ tv) _;rw[MO sO gH rfl rfl rfl tN rfl (g3.read (by rfl) h3.2.2.1) (OF hsg),xA];exact hQ _ (h0.trans (hle.trans h3.2.2.1))
def vN(neg:Bool)(l:List Nat):List Nat:=lU neg (val 65536 l)
set_option exponentiation.threshold 2000 in
theorem CJ{neg:Bool}{l:List Nat}{v:zA}(hv:mA t 1 (sB .u16 l) v)(hlt:wB 65536 l)(hval:tI neg l=true):vB yA F 211 [.agg [.bool neg,v]] t=some (.tup [.str (vN neg l),.int .i64 0]):=by
 have hlen:l.length<=1024:=by
  grind [tI]
 refine rN (w211 ?_);simp only[uI,uB,uZ,t211,lA,q237];rw[Mr (by omega) hv,hval];simp only[zA.asBool,xA,Bool.not_true,ybq,if_false,hv.len,pD,aB,tE];by_cases h0:l=[]
 ·grind [tI,vN,lU,val,Lt]
 ·have hpos:0<l.length:=List.length_pos_iff.2 h0;rw[yaa (by omega),q240];refine Xf hv (by omega) hlt fun t1 v1 hle hv1=>?_;have hlast:l.getLast?≠some 0:=by
   grind [tI]
  have hnorm:norm l:=fun hne e2=>hlast (by rw[List.getLast?_eq_some_getLast hne,e2]);have hN:val 4294967296 (qG l)=val 65536 l:=Ss l;have hvpos:0<val 65536 l:=by
   rcases yav (val 65536 l)with e | e
   ·exfalso;exact h0 (Gc (B:=65536) (by decide) hnorm e)
   ·exact e
  have hple:(qG l).length<=512:=by rw[vS];omega
  have hbnd:val 4294967296 (qG l)<1000000000^1100:=by
   have g1:=lK (B:=4294967296) (by decide) (Mb hlt);have g2:4294967296^(qG l).length<=4294967296^512:=yao (by decide) hple;omega
  refine UK (t0:=t1) (N:=val 65536 l) (M:=1100) (by decide) ?_ 1100 (qG l) [] .nilslice v1 t1 t1 hbnd (by simp) (Pk hnorm) (Mb hlt) (by omega) (fun x hx=>by cases hx) ?_ (by simp[val,hN]) (yB.refl _) (yB.refl _) Kp hv1
  ·intro tf t' ps v4 v5 k1 k2 k3 k4 k5 k6 k7 k8 k9;refine zf6 ?_;simp only[uI,uL,uX,uZ,uY,Uo,lA,(k4.mono k2).len,xA,aB,pD,uC,ybx];rw[yaa (by simp)];obtain⟨tf',f1,f2,f3,f4⟩:=k3.freeze rfl k2;have hpl:ps.length<30000:=by omega
   intro bx hbx hbase;obtain⟨t2,e1,e2,e3,e4⟩:=Hp (C:=yA) sO hbx;rw[e1,xA];have hTX:TX tf' t2 bx []:=⟨hbase,Ad f2 hbx,f2.trans e3,.nilslice,e2,Kp,Qj⟩;have ht:yB t tf':=hle.trans (k1.trans f1);have htext:dJ ps=eE (val 65536 l):=by rw[<- k8];exact(CL k6 k5 k7).1
   cases neg with
   | false=>
    simp only[ybq,if_false];refine zed (.inl rfl) ht f3 k5 hpl hTX fun t' ht'=>⟨?_,ht'⟩;rw[htext];rfl
   | true=>
    simp only[if_true];obtain⟨tv,g1,g2⟩:=hTX.byte 45 (by simp);rw[g1,xA];intro n hn hbn;obtain⟨H1,g3,g4⟩:=g2 n hn hbn;rw[show((45:Nat):Int)=45 from rfl]at g3;rw[g3,xA];intro n2 hn2 hbn2;obtain⟨w,t3,t4,g5,g6,g7⟩:=g4 n2 hn2 hbn2;simp only[];rw[g5,xA];intro n3 _ _;rw[g6,xA];refine zed (.inr rfl) ht f3 k5 hpl g7 fun t' ht'=>⟨?_,ht'⟩;rw[htext];rfl
  grind [vS]
end
section
variable [kC]
variable {t:Tr sA}
def zdm{A lu lv Z:List Nat}{v:zA}{b cap m:Nat}{t0 t':Tr sA}{Q:wC}(hv:mA t0 1 (sB .u32 lv) v)(hl:lv.length=m+2)(hm:m<800000)(hlv:wB BB lv)(hbase:yA.base<=b)(hb:t0.get b=none)(hlul:lu.length=m+3)(hlu:wB BB lu)(hcap:m+3<=cap)
  (htop:∀top,lv[m+1]?=some top->2147483648<=top) (hlt:val BB lu<BB*val BB lv) (ht:yB t0 t') (hoff:rE b t t') (ho:jF t' b .u32 (A++lu++Z))
  (hQ:∀t2 r,yB t0 t2->rE b t t2->jF t2 b .u32 (A++(r++[0])++Z)->r.length=m+2->wB BB r->val BB r=val BB lu%val BB lv->val BB lu / val BB lv<BB->Q (.int .u32 ((val BB lu / val BB lv:Nat):Int)) t2) :
  Wc yA F 298 [.slice b A.length (m+3) cap,v] t' Q:=by
 obtain⟨top,h1⟩:=getElem?_of_lt (l:=lv) (i:=m+1) (by omega);obtain⟨v2,h2⟩:=getElem?_of_lt (l:=lv) (i:=m) (by omega);obtain⟨un,h3⟩:=getElem?_of_lt (l:=lu) (i:=m+2) (by omega);obtain⟨u1,h4⟩:=getElem?_of_lt (l:=lu) (i:=m+1) (by omega);obtain⟨u2,h5⟩:=getElem?_of_lt (l:=lu) (i:=m) (by omega);have b1:top<BB:=xI hlv h1;have b2:v2<BB:=xI hlv h2;have b3:un<BB:=xI hlu h3;have b4:u1<BB:=xI hlu h4
 have b5:u2<BB:=xI hlu h5;have hBB:=yN;have c1:top<4294967296:=by omega
 have c3:un<4294967296:=by omega
 have c4:u1<4294967296:=by omega
 have htop2:=htop top h1;obtain⟨hV,hvr⟩:=top2 (B:=BB) nI hlv hl h1 h2;obtain⟨hU,hur⟩:=top3 (B:=BB) nI hlu hlul h3 h4 h5;have hVpos:0<val BB lv:=by
  have:0<(top*BB+v2)*BB^m:=Nat.mul_pos (by have:0<top*BB:=Nat.mul_pos (by omega) nI;omega) (Nat.pow_pos nI);omega
 have hq:val BB lu / val BB lv<BB:=ycu (by rw[ybh];exact hlt);have hread:mA t' 1 (sB .u32 lu) (.slice b A.length (m+3) cap):=by
  have:=ho.slice (off:=A.length) (n:=m+3) (cap:=cap) (by simp;omega) hcap;rw[ybz,List.drop_left,List.take_left' hlul]at this;exact this
 have hv':=hv.mono ht;obtain⟨d1,o1,g1,g1'⟩:=hread.idx oG h3;obtain⟨d2,o2,g2,g2'⟩:=hread.idx oG h4;obtain⟨d3,o3,g3,g3'⟩:=hv'.idx oG h1;have hun:un<=top:=by
  rcases yau top un with g | g
  ·exfalso;have e1:(un*BB)*BB*BB^m<=val BB lu:=by rw[hU,ybo,ybo,ybo];omega
   have e2:val BB lv<(top+1)*BB*BB^m:=by
    have h:top*BB+v2+1<=(top+1)*BB:=by rw[ybo];omega
    have:=ybi (BB^m) h;rw[ybo (top*BB+v2) 1,Nat.one_mul]at this;omega
   have e3:BB*val BB lv<BB*((top+1)*BB*BB^m):=Nat.mul_lt_mul_of_pos_left e2 nI;have e4:BB*((top+1)*BB*BB^m)<=un*BB*BB*BB^m:=by
    have:(top+1)*BB*BB^m<=un*BB*BB^m:=ybi _ (ybi _ g);have:=ybv BB this
    calc BB*((top+1)*BB*BB^m)<=BB*(un*BB*BB^m):=this
     _=un*BB*BB*BB^m:=by rw[<- ybj,ybh BB (un*BB)]
   omega
  ·exact g
 have hh:un*BB+u1<=top*BB+(BB-1):=by
  have:=ybi BB hun;omega
 have hge:val BB lu / val BB lv<=(un*BB+u1) / top:=kn_ge hU hur b5 hV (by omega);have hdle:(un*BB+u1) / top<=BB+1:=by
  have:un*BB+u1<(BB+2)*top:=by
   rw[ybo,ybh BB top];generalize top*BB=P at hh ⊢;generalize un*BB=R at hh ⊢;omega
  have:=ycu (show un*BB+u1<top*(BB+2) by rw[ybh top];exact this);omega
 have hrest:(un*BB+u1)%top<BB:=Nat.lt_trans (ycy _ (by omega)) b1;refine w298 ?_;have e1:((lv.length:Nat):Int)=((m+2:Nat):Int):=by rw[hl]
 have e2:((m+2:Nat):Int)-1=((m+1:Nat):Int):=by omega
 have e3:(un:Int)*4294967296=((un*4294967296:Nat):Int):=by omega
 simp (disch:=omega) only[uI,uL,uE,uZ,uW,t298,lA,hv'.len,xA,aB,pD,e1,g1,g1',e2,wrap_i64,g2,g2',g3,g3',yG,e3];have e4:gI Nat.lor .u64 ((un*4294967296:Nat):Int) (u1:Int)=some (.int .u64 ((un*4294967296+u1:Nat):Int)):=by
  rw[iU (k:=.u64) (show un*4294967296<gG .u64 by show _<18446744073709551616;omega) (show u1<gG .u64 by show _<18446744073709551616;omega)];have:=Fg (a:=un) (b:=u1) (n:=32) c4;rw[show un*4294967296=un*2^32 by rfl,this]
 rw[e4];simp only[xA,aB];have e5:wW .u64 ((un*4294967296+u1:Nat):Int) (top:Int)=some (.int .u64 (((un*4294967296+u1) / top:Nat):Int)):=Qn (by omega) (by
  have h:(un*4294967296+u1) / top<=4294967296+1:=by rw[hBB]at hdle;exact hdle
  generalize (un*4294967296+u1) / top=z at h ⊢;exact yG (by omega) (by omega))
 rw[e5];simp only[xA,aB];rw[Lg (by omega)];simp only[xA,aB];refine WX hread hv' (by omega) h5 h2 b5 b2 (by omega) b1 hU hur hV hvr hq hh (fun d q1 q2 q3=>?_) _ _ ?_ (by rw[hBB]at hge ⊢;exact hge) (by rw[hBB]at hdle ⊢;exact hdle) (by rw[hBB]at hrest ⊢;exact hrest)
 ·refine ziu ?_;simp only[uI,uZ,CT,lA,hv'.len,xA,aB,pD,e1];have hms:=VK (t:=t) (A:=A) (Z:=Z) (lu:=lu) (lv:=lv) (v:=v) (b:=b) (cap:=cap) (d:=d) (t0:=t0) (Q:=Q) hv (by omega) hlv hbase hb q3 (by omega) hlu (by omega) ?_ lv.length 0 0 0 t' [] (by omega) ht hoff (by simpa using ho) rfl (fun x hx=>by cases hx) (by first | omega | decide) (by first | omega | decide) (by simp[val])
  ·rw[hl]at hms;exact hms
  ·intro t2 W last bo k1 k2 k3 k4 k5 k6 k7 k8;have hWall:val BB (W++[last])<BB^(lv.length+1):=by
    have:=lK (B:=BB) nI (aS k5 k6);simp only[ybg,ybn,ybx,k4]at this;exact this
   have hVlt:val BB lv<BB^lv.length:=lK nI hlv;have hdm:=ych (val BB lu) (val BB lv);have hmod:val BB lu%val BB lv<val BB lv:=ycy _ hVpos;have hWs:val BB (W++[last])=val BB W+BB^lv.length*last:=by rw[mK,k4]
   split
   ·rename_i hz;subst hz;rw[yat,yct]at k8;have hd:d=val BB lu / val BB lv:=by
     refine Nat.le_antisymm ?_ q1;rw[Nat.le_div_iff_mul_le hVpos];omega
    have hr:val BB (W++[last])=val BB lu%val BB lv:=by
     rw[hd,ybh]at k8;omega
    have hlast:last=0:=by
     rcases yav last with g | g
     ·exact g
     ·exfalso;have:=ybv (BB^lv.length) g;rw[Nat.mul_one]at this;omega
    subst hlast;rw[hd];exact hQ t2 W k1 k2 k3 (by omega) k5 (by rw[<- hr,hWs];simp) hq
   ·rename_i hz;have hbo:bo=1:=by omega
    subst hbo;rw[Nat.mul_one]at k8;have hd:d=val BB lu / val BB lv+1:=by
     refine Nat.le_antisymm q2 ?_;rcases yau (val BB lu / val BB lv) d with g | g
     ·exact g
     ·exfalso;have:d*val BB lv<=val BB lu:=Nat.le_trans (ybi _ g) (Nat.div_mul_le_self _ _);omega
    have hk9:val BB (W++[last])+val BB lv=val BB lu%val BB lv+BB^(lv.length+1):=by
     rw[hd,ybo,Nat.one_mul,ybh (val BB lu / val BB lv)]at k8;omega
    refine ZW (t:=t) (A:=A) (Z:=Z) (t0:=t0) hv (by omega) hlv hbase hb (by rw[hd];exact Nat.succ_pos _) (by omega) W k4 k5 last k6 (by omega) (fun t3 r up n1 n2 n3 n4 n5 n6=>?_) lv.length 0 0 t2 [] (by omega) k1 k2 (by simpa using k3) rfl (fun x hx=>by cases hx) (by first | omega | decide) (by simp[val])
    have hrlt:val BB r<BB^lv.length:=by
     have:=lK (B:=BB) nI n4;rw[n3]at this;exact this
    rw[hWs,yag]at hk9;have hfin:val BB r+BB^lv.length*(up+last)=val BB lu%val BB lv+BB^lv.length*BB:=by
     rw[ybm];omega
    have hsplit:up+last=BB/\val BB r=val BB lu%val BB lv:=by
     have hmlt:val BB lu%val BB lv<BB^lv.length:=by omega
     have hB:0<BB^lv.length:=by omega
     have e1:(val BB r+BB^lv.length*(up+last)) / BB^lv.length=up+last:=by rw[Nat.add_mul_div_left _ _ hB,Nat.div_eq_of_lt hrlt];simp
     have e2:(val BB lu%val BB lv+BB^lv.length*BB) / BB^lv.length=BB:=by rw[Nat.add_mul_div_left _ _ hB,Nat.div_eq_of_lt hmlt];simp
     rw[hfin,e2]at e1;refine⟨e1.symm,?_⟩;rw[<- e1]at hfin;omega
    have hl0:(last+up)%BB=0:=by rw[yap,hsplit.1];exact Nat.mod_self _
    rw[hl0]at n2;have hd1:d-1=val BB lu / val BB lv:=by rw[hd];exact Nat.add_sub_cancel _ _
    rw[hd1];exact hQ t3 r (k1.off hb (fun c hc=>by
     rw[n1 c hc,<- k2 c hc])) n1 n2 (by omega) n4 hsplit.2 hq
 ·rw[ybh,hBB];exact ych _ _
end
end Go.Proofs
namespace Go.Am
def QA{B p K:Nat}(hB:B=p*K)(hp:0<p)(hK:0<K){x y:Nat}{l:List Nat}(hx:x<B) :
  val B (x::y::l) / p=(y*B+x) / p%B+B*(val B (y::l) / p):=by
 have e1:val B (x::y::l)=x+p*(K*val B (y::l)):=by
  show x+B*val B (y::l)=_;rw[hB,ybj]
 have e2:y*B+x=x+p*(K*y):=by rw[hB,yap,ybh y,ybj]
 have e3:val B (y::l)%p=y%p:=by
  show(y+B*val B l)%p=_;rw[hB,ybj,Nat.add_mul_mod_self_left]
 have e4:K*y=K*(y%p)+B*(y / p):=by
  grind [Nat.div_add_mod]
 have e5:K*val B (y::l)=K*(y%p)+B*(val B (y::l) / p):=by
  grind [Nat.div_add_mod]
 have e6:x / p<K:=ycu (by omega);have e7:x / p+K*(y%p)<B:=by
  have h1:y%p<p:=ycy _ hp;have h2:K*(y%p+1)<=K*p:=ybv _ h1
  grind
 rw[e1,Nat.add_mul_div_left _ _ hp,e2,Nat.add_mul_div_left _ _ hp,e4,<- Nat.add_assoc,Nat.add_mul_mod_self_left,Nat.mod_eq_of_lt e7,e5,<- Nat.add_assoc]
end Go.Am
namespace Go.Proofs
open Go Go.Am
variable [kC]
variable {t:Tr sA}
theorem RQ{l:List Nat}{b L lo hi:Nat}(ho:jF t b .u32 l)(h1:lo<=hi)(h2:hi<=L)(h3:lo<L) :
  zE yA 240 ⟨0,t⟩ (.slice b 0 L L) (some (.int .i64 (lo:Int))) (some (.int .i64 (hi:Int)))=some (.slice b lo (hi-lo) (L-lo)):=by
 obtain⟨c,hg,_⟩:=ho;obtain⟨⟨y,hy1,hy2⟩,⟨z,hz1,hz2,hz3⟩⟩:=oG;unfold zE;rw[hy1,pA];have hb:∀y (k:Nat),mW y (.int .i64 (k:Int))=mB (Nat.ble k y) (some k):=fun y k=>rfl;unfold bL;simp only[zA.asStr,zA.asSlice];rw[hy2,pA];unfold sN;rw[hz1,pA];unfold xP Be;simp only[hb];rw[show Nat.ble hi L=true from rF.2 h2];simp only[sE,pA];rw[show Nat.ble lo hi=true from rF.2 h1];simp only[sE,pA];have he2:pL ⟨0,t⟩ b z.size L lo false=false:=by
  unfold pL oD;rw[hg,pA];rfl
 rw[he2,yay,cond_false];have hf:cL ⟨0,t⟩ b z.size L lo false=true:=by
  unfold cL oD;rw[hg,pA];rfl
 rw[show Nat.ble hi L=true from rF.2 h2,hf];simp only[Bool.and_self,sE];have hq:Nat.beq L lo=false:=by
  grind [bC]
 rw[hq,cond_false,hz2,Nat.mul_one,ybw]
theorem QB{qv:zA}{Z c:List Nat}{b n s L cn:Nat}{Q:wC}(hn:n<900000)(hc:c.length=n+1)(hcl:wB BB c)(hcn:c[n]?=some cn)(hbase:yA.base<=b)(hs:s<32)(hL:n+1<=L)
  (hexit:∀t' W,rE b t t'->jF t' b .u32 (W++[cn]++Z)->W.length=n->wB BB W->val BB W+BB^n*(cn / 2^s)=val BB c / 2^s->jp 285 6 [.int .i64 (n:Int),.int .i64 (s:Int),.slice b 0 L L,qv,.int .i64 (n:Int),.int .i64 (n:Int)] t' Q) :
  ∀(k i:Nat) (t':Tr sA) (W:List Nat),i+k=n->rE b t t'->jF t' b .u32 (W++c.drop i++Z)->W.length=i->wB BB W->val BB W+BB^i*(val BB (c.drop i) / 2^s)=val BB c / 2^s →
  jp 285 6 [.int .i64 (n:Int),.int .i64 (s:Int),.slice b 0 L L,qv,.int .i64 (n:Int),.int .i64 (i:Int)] t' Q:=by
 intro k;induction k with
 | zero=>
  intro i t' W hi hoff ho hW hWl hval;have hi':i=n:=by omega
  subst hi';have hd:c.drop i=[cn]:=by
   rw[drop_cons' hcn,ybt (by omega)]
  grind [val]
 | succ k ih=>
  intro i t' W hi hoff ho hW hWl hval;have hBB:=yN;obtain⟨x,hx⟩:=getElem?_of_lt (l:=c) (i:=i) (by omega);obtain⟨y,hy⟩:=getElem?_of_lt (l:=c) (i:=i+1) (by omega);have hx32:x<4294967296:=by have:=xI hcl hx;omega
  have hy32:y<4294967296:=by have:=xI hcl hy;omega
  have hd1:c.drop (i+1)=y::c.drop (i+2):=drop_cons' hy;have hd0:c.drop i=x::y::c.drop (i+2):=by rw[drop_cons' hx,hd1]
  have m0:=Ge (A:=W) (w:=c.drop i) (Z:=Z) (j:=0) (x:=x) (by grind);have m1:=Ge (A:=W) (w:=c.drop i) (Z:=Z) (j:=1) (x:=y) (by grind);rw[hW]at m0 m1;rw[yct]at m0;have g0:=Dd oG (b:=b) (n:=L) (cap:=L) (j:=i) (by omega);have g1:=Dd oG (b:=b) (n:=L) (cap:=L) (j:=i+1) (by omega);have l0:=ho.load (C:=yA) m0 xH rfl;have l1:=ho.load (C:=yA) m1 xH rfl;have ei:(i:Int)+1=((i+1:Nat):Int):=by omega
  have e2:(y:Int)*4294967296=((y*4294967296:Nat):Int):=by omega
  obtain⟨t1,s1,s2,s3⟩:=ho.store (C:=yA) hbase (j:=i) (by grind) ((y*4294967296+x) / 2^s%4294967296) xH rfl;have hset:=Km (A:=W) (w:=c.drop i) (Z:=Z) (j:=0) (x:=(y*4294967296+x) / 2^s%4294967296) (by grind);rw[yct,hW]at hset;rw[hset]at s2;refine zfl ?_;simp only[uL,uE,qB,uZ,Tp,lA,uC];rw[yab (by omega)];simp (disch:=omega) only[ei,wrap_i64,g0,g1,xA,l0,l1,aB];rw[yG (n:=(y:Int)) (by omega) (by omega),e2,yG (n:=((y*4294967296:Nat):Int)) (by omega) (by omega),yG (n:=(x:Int)) (by omega) (by omega),or32 hy32 hx32,xA,aB,xA,KK (by omega),xA,aB,xA]
  have e3:iA .u32 (((y*4294967296+x) / 2^s:Nat):Int)=(((y*4294967296+x) / 2^s%4294967296:Nat):Int):=by
   grind [wT]
  rw[e3];intro _ _ _;rw[s1,xA];have hw:(y*4294967296+x) / 2^s%4294967296<BB:=by omega
  refine ih (i+1) t1 (W++[(y*4294967296+x) / 2^s%4294967296]) (by omega) (hoff.trans s3) ?_ (by simp[hW]) (aS hWl hw) ?_
  ·grind
  ·have hst:=QA (B:=BB) (p:=2^s) (K:=2^(32-s)) (by rw[<- Nat.pow_add,show s+(32-s)=32 by omega,hBB]) (Nat.pow_pos (by decide)) (Nat.pow_pos (by decide)) (x:=x) (y:=y) (l:=c.drop (i+2)) (by omega);rw[<- hval,hd0,hst,mK,hW,hd1,yag,ybm,hBB];grind
end Go.Proofs
namespace Go.Proofs
open Go Go.Am
variable [kC]
variable {t:Tr sA}
theorem YF{lv:List Nat}{v:zA}{b bq m s L Lq U:Nat}{t0:Tr sA}{Q:wC}(hv:mA t0 1 (sB .u32 lv) v)(hl:lv.length=m+2)(hm:m<800000)(hlv:wB BB lv)(hbase:yA.base<=b)(hbaseq:yA.base<=bq)(hb:t0.get b=none)(hbq:t0.get bq=none)(hne:b≠bq)(hL:L<1000000)
  (htop:∀top,lv[m+1]?=some top->2147483648<=top) (hVpos:0<val BB lv)
  (hexit:∀t' q r Z,yB t0 t'->jF t' b .u32 (r++[0]++Z)->jF t' bq .u32 q->r.length=m+2->wB BB r->wB BB q->q.length=Lq->m+3+Z.length=L->val BB r<val BB lv->U=val BB lv*val BB q+val BB r->jp 285 6 [.int .i64 ((m+2:Nat):Int),.int .i64 (s:Int),.slice b 0 L L,.slice bq 0 Lq Lq,.int .i64 ((m+2:Nat):Int),.int .i64 0] t' Q) :
  ∀(j:Nat) (A c Z Qd:List Nat) (t':Tr sA),A.length=j->c.length=m+3->wB BB A->wB BB c->wB BB Qd->A.length+(m+3)+Z.length=L->j+1+Qd.length=Lq->val BB c<BB*val BB lv->yB t0 t'->jF t' b .u32 (A++c++Z)->jF t' bq .u32 (List.replicate (j+1) 0++Qd)->U=val BB lv*(BB^(j+1)*val BB Qd)+val BB (A++c) →
  jp 285 2 [.int .i64 ((m+2:Nat):Int),.int .i64 (s:Int),v,.slice b 0 L L,.slice bq 0 Lq Lq,.int .i64 (j:Int)] t' Q:=by
 intro j;induction j using Nat.strongRecOn with
 | ind j ih=>
  intro A c Z Qd t' hA hc hAl hcl hQl hLen hLq hlt ht ho hoq hU;have gs:=RQ (b:=b) (L:=L) (lo:=j) (hi:=j+(m+2)+1) ho (by omega) (by omega) (by omega);rw[show j+(m+2)+1-j=m+3 by omega]at gs;have e1:(j:Int)+((m+2:Nat):Int)=((j+(m+2):Nat):Int):=by omega
  have e2:((j+(m+2):Nat):Int)+1=((j+(m+2)+1:Nat):Int):=by omega
  refine zfm ?_;simp only[uL,uZ,uW,Tq,lA,mD];rw[yab (by omega)];simp (disch:=omega) only[e1,wrap_i64,e2,gs,xA,q298];subst hA;refine zdm (A:=A) (Z:=Z) (t:=t') (t0:=t0) hv hl hm hlv hbase hb hc hcl (by omega) htop hlt ht (rE.refl _ _) ho (fun t2 r k1 k2 k3 k4 k5 k6 k7=>?_);have hoq2:=hoq.off (fun e=>hne e.symm) k2;have g1:=Dd oG (b:=bq) (n:=Lq) (cap:=Lq) (j:=A.length) (by omega)
  obtain⟨t3,s1,s2,s3⟩:=hoq2.store (C:=yA) hbaseq (j:=A.length) (by grind) (val BB c / val BB lv) xH rfl;have hset:(List.replicate (A.length+1) 0++Qd).set A.length (val BB c / val BB lv)=List.replicate A.length 0++((val BB c / val BB lv)::Qd):=by
   simp_all [List.replicate_succ']
  rw[hset]at s2;rw[aB,xA,g1,xA];intro _ _ _;rw[s1,xA];have ho3:=k3.off hne s3;have ht3:=k1.off hbq s3;have hr:val BB r<val BB lv:=by grind [Nat.mod_lt]
  have hdm:=ych (val BB c) (val BB lv);have hU2:U=val BB lv*(BB^A.length*val BB ((val BB c / val BB lv)::Qd))+val BB (A++r):=by
   grind [Em,val]
  rcases hA:A.length with _ | j'
  ·have hnil:A=[]:=List.eq_nil_of_length_eq_zero hA;subst hnil;refine zfm ?_;have e3:((0:Nat):Int)-1 = -1:=by omega
   rw[e3];simp only[uL,uZ,uW,Tq,lA,mD];rw[yaa (by omega)];refine hexit t3 _ r Z ht3 (by simp_all) (by omega) k4 k5 (fun x hx=>?_) (by grind) (by omega) hr (by simp_all);rcases ybs.1 hx with rfl | hx
   ·exact k7
   ·exact hQl x hx
  ·obtain⟨x,hx⟩:=getElem?_of_lt (l:=A) (i:=j') (by omega);have hAx:A=A.take j'++[x]:=by
    rw[<- uT hx,yca (by omega)]
   have hxB:x<BB:=xI hAl hx;have e3:((j'+1:Nat):Int)-1=(j':Int):=by omega
   rw[e3];have hvx:val BB (x::r)=x+BB*val BB r:=rfl;refine ih j' (by omega) (A.take j') (x::r) (0::Z) ((val BB c / val BB lv)::Qd) t3 (by grind) (by simp[k4]) (Bj hAl _) (fun y hy=>?_) (fun y hy=>?_) (by grind) (by grind) ?_ ht3 ?_ ?_ ?_
   ·rcases ybs.1 hy with rfl | hy
    ·exact hxB
    ·exact k5 y hy
   ·rcases ybs.1 hy with rfl | hy
    ·exact k7
    ·exact hQl y hy
   ·rw[hvx];have:=ybv BB hr;rw[Nat.mul_succ]at this;omega
   ·have:A.take j'++x::r++0::Z=A++(r++[0])++Z:=by
     conv=>rhs;rw[hAx]
     simp
    grind
   ·grind
   ·rw[hU2,hA];have:A++r=A.take j'++x::r:=by
     grind
    rw[this]
end Go.Proofs
namespace Go.Am
def zap{a b q R p:Nat}(hp:0<p)(h:a*p=b*p*q+R)(hR:R<b*p):a=b*q+R / p/\R / p<b:=by
 have h1:p ∣ R:=(Nat.dvd_add_right (⟨b*q,by rw[ybh b p,ybj]⟩:p ∣ b*p*q)).1 (h ▸ ⟨a,ybh a p⟩);obtain⟨R',rfl⟩:=h1;rw[Nat.mul_div_cancel_left _ hp];refine⟨Nat.eq_of_mul_eq_mul_left hp ?_,Nat.lt_of_mul_lt_mul_left (a:=p) ?_⟩
 all_goals grind
def div_v{B p K n top:Nat}{b rb:List Nat}(hB:B=p*K)(hp:0<p)(hlt:wB B b)(hl:b.length=n+1)(htop:b[n]?=some top)(ht:top*p<B)(hbig:B<=2*(top*p))(hrl:wB B rb)(hrb:rb.length=n+2)(hv:val B rb=val B b*p) :
  val B (rb.take (n+1))=val B b*p/\∀x,(rb.take (n+1))[n]?=some x->B<=2*x:=by
 have hB0:0<B:=by omega
 have hbv:val B b=val B (b.take n)+B^n*top:=by
  have:=Cb B b n
  simp_all [drop_cons',ybt,val]
 have hlow:val B (b.take n)<B^n:=by
  have:=lK hB0 (Bj hlt n)
  simp_all
 have hK:top<K:=by
  simp_all [ybh]
 have hup:val B b*p<B^(n+1):=by
  have h1:val B b<B^n*(top+1):=by grind
  have h2:B^n*(top+1)<=B^n*K:=ybv _ hK;have h3:val B b*p<B^n*K*p:=Nat.mul_lt_mul_of_pos_right (by omega) hp
  grind
 have hsplit:=Cb B rb (n+1);have htl:(rb.take (n+1)).length=n+1:=by grind
 rw[htl]at hsplit;have hz:val B (rb.drop (n+1))=0:=by
  rcases yav (val B (rb.drop (n+1)))with h | h
  ·exact h
  ·exfalso;have:=ybv (B^(n+1)) h;omega
 have hval:val B (rb.take (n+1))=val B b*p:=by simp_all
 refine⟨hval,fun x hx=>?_⟩;have h1:val B (rb.take (n+1))=val B ((rb.take (n+1)).take n)+B^n*x:=by
  have:=Cb B (rb.take (n+1)) n
  simp_all [drop_cons',ybt,val]
 have h2:val B ((rb.take (n+1)).take n)<B^n:=by
  grind [lK,Bj]
 have h3:B^n*(top*p)<=val B b*p:=by
  grind [Nat.add_mul]
 have h4:B^n*(top*p)<B^n*(x+1):=by grind
 have h5:top*p<x+1:=Nat.lt_of_mul_lt_mul_left h4;omega
def div_u{B p n j:Nat}{a b ru:List Nat}(hB0:0<B)(hal:wB B a)(hb:B^n<=val B b)(hj:a.length=j+(n+1))(hru:ru.length=a.length+1)(hp:0<p)(hv:val B ru=val B a*p):val B (ru.drop j)<B*(val B b*p):=by
 have h1:=Cb B ru j;have htl:(ru.take j).length=j:=by grind
 rw[htl]at h1;have h2:val B a<B^(j+(n+1)):=by grind [lK]
 have h3:val B a*p<B^(j+(n+1))*p:=Nat.mul_lt_mul_of_pos_right h2 hp;have h4:B^(j+(n+1))*p=B^j*(B*(B^n*p)):=by
  rw[Nat.pow_add,yag,ybh (B^n) B,ybj,ybj]
 have h5:B^j*val B (ru.drop j)<B^j*(B*(B^n*p)):=by omega
 have h6:=Nat.lt_of_mul_lt_mul_left h5;have h7:B*(B^n*p)<=B*(val B b*p):=ybv _ (ybi _ hb);omega
end Go.Am
namespace Go.Proofs
open Go Go.Am
variable [kC]
variable {t:Tr sA}
theorem DP{l:List Nat}{b L hi:Nat}(ho:jF t b .u32 l)(h2:hi<=L)(h3:0<L) :
  zE yA 240 ⟨0,t⟩ (.slice b 0 L L) none (some (.int .i64 (hi:Int)))=some (.slice b 0 hi L):=by
 obtain⟨c,hg,_⟩:=ho;obtain⟨⟨y,hy1,hy2⟩,⟨z,hz1,hz2,hz3⟩⟩:=oG;unfold zE;rw[hy1,pA];have hb:∀y (k:Nat),mW y (.int .i64 (k:Int))=mB (Nat.ble k y) (some k):=fun y k=>rfl;unfold bL;simp only[zA.asStr,zA.asSlice];rw[hy2,pA];unfold sN;rw[hz1,pA];unfold xP Be;simp only[hb];rw[show Nat.ble hi L=true from rF.2 h2];simp only[sE,pA];have he2:pL ⟨0,t⟩ b z.size L 0 false=false:=by
  unfold pL oD;rw[hg,pA];rfl
 rw[he2,yay,cond_false];have hf:cL ⟨0,t⟩ b z.size L 0 false=true:=by
  unfold cL oD;rw[hg,pA];rfl
 grind [rF,sE]
theorem SI{b o n c:Nat}:same 10 (.slice b o n c) (.slice b o n c)=true:=by
 simp[same]
theorem YE{q W Z:List Nat}{b bq n s L Lq:Nat}{Q:wC}(ho:jF t b .u32 (W++[0]++Z))(hoq:jF t bq .u32 q)(hW:W.length=n)(hn:n<1000000)(hL:n+1+Z.length=L)(hq:q.length=Lq)(hLq:Lq<1000000)
  (hQ:∀qv rv,mA t 1 (sB .u32 (eD q)) qv->mA t 1 (sB .u32 (eD W)) rv->Q (.tup [qv,rv]) t) :
  jp 285 6 [.int .i64 (n:Int),.int .i64 (s:Int),.slice b 0 L L,.slice bq 0 Lq Lq,.int .i64 (n:Int),.int .i64 (n:Int)] t Q:=by
 have e1:=DP (L:=L) (hi:=n) ho (by omega) (by omega);have e2:mA t 1 (sB .u32 W) (.slice b 0 n L):=by
  have:=ho.slice (off:=0) (n:=n) (cap:=L) (by grind) (by omega)
  simp_all
 have e3:mA t 1 (sB .u32 q) (.slice bq 0 Lq Lq):=by
  have:=hoq.all (cap:=Lq) (by omega)
  simp_all
 obtain⟨qv,f1,f2⟩:=Ch (by omega) e3;obtain⟨rv,f3,f4⟩:=Ch (by omega) e2;refine zfl ?_;simp only[uL,uE,qB,uZ,Tp,lA,uC];rw[yaa (by omega)];simp only[e1,xA,Fv,f1,f3];grind [SI]
theorem MD{a b:List Nat}{u v:zA}{Q:wC}(hu:mA t 1 (sB .u32 a) u)(hv:mA t 1 (sB .u32 b) v)(ha:a.length<700000)(hal:wB BB a)(hbl:wB BB b)(han:norm a)(hbn:norm b)(hb0:b≠[])
  (hQ:∀t' q r qv rv,yB t t'->mA t' 1 (sB .u32 q) qv->mA t' 1 (sB .u32 r) rv->wB BB q->wB BB r->norm q->norm r->val BB a=val BB b*val BB q+val BB r->val BB r<val BB b->Q (.tup [qv,rv]) t') :
  Wc yA F 285 [u,v] t Q:=by
 have hBB:=yN;have hB1:1<BB:=by omega
 have hlt:=AE hB1 hal hbl han hbn;refine w285 ?_;simp only[uI,uL,uX,uZ,uW,t285,lA,q283,zgn (by omega) hu hv,xA,aB,uC];by_cases hc:dH a b<0
 ·rw[yab hc];simp only[q296];refine zdz hu (by omega) fun t' v' h1 h2=>?_;exact hQ t' [] a _ _ h1 ⟨[],.inl ⟨rfl,rfl⟩,by simp[sB,iC]⟩ h2 (fun x hx=>by cases hx) hal (fun h=>absurd rfl h) han (by simp[val]) (hlt.1 hc)
 ·rw[yaa hc];have hge:val BB b<=val BB a:=Nat.le_of_not_lt fun h=>hc (hlt.2 h);have hlen:b.length<=a.length:=eM hB1 hal hbn hge;simp only[hv.len,xA,aB,pD,tE];by_cases h1:b.length=1
  ·rw[yab (by omega)];obtain⟨d,rfl⟩:∃d,b=[d]:=by
    match b,h1 with
    | [d],_=>simp_all
   have hd:d<4294967296:=by have:=hbl d (by simp);omega
   have hd0:0<d:=by have:=hbn (by simp);grind
   obtain⟨c,off,g1,g2⟩:=hv.idx oG (i:=0) (x:=d) rfl;have g1':rB yA 240 v (.int .i64 0)=some (.ptr c off):=g1;simp only[g1',g2,xA,aB,q241];refine MC hu (by omega) (by simp_all) hd hd0 fun t' v' q r k1 k2 k3 k4 k5 k6=>?_;simp only[eJ,zA.asTup,pA,nG,yaz,yba,xA,aB];intro b' hb' _;obtain⟨H',m1,m2,m3⟩:=Cx (k:=.u32) mP rfl xH rfl rfl r trivial hb'
   have hR:=m2.all (cap:=1) (by simp);obtain⟨rv,f1,f2⟩:=Ch (by simp) hR;have f1':vB yA F 260 [.slice b' 0 1 1] H'.t=some rv:=f1;rw[m1];simp only[xA,Fv,f1'];rw[<- hBB]at k3 k6;have hrl:wB BB [r]:=fun x hx=>by grind
   refine hQ H'.t (eD q) (eD [r]) v' rv (k1.trans m3) (k2.mono m3) f2 (bS k3) (bS hrl) (yR _) (yR _) ?_ ?_
   all_goals grind [gQ,val]
  ·rw[yaa (by omega)];have hbpos:0<b.length:=List.length_pos_iff.2 hb0;obtain⟨m,hm⟩:∃m,b.length=m+2:=⟨b.length-2,by omega⟩;obtain⟨j,hj⟩:∃j,a.length=j+(m+2):=⟨a.length-(m+2),by omega⟩;obtain⟨top,htop⟩:=getElem?_of_lt (l:=b) (i:=m+1) (by omega);have htlt:top<4294967296:=by have:=xI hbl htop;omega
   have ht0:0<top:=by
    have:=hbn hb0
    grind
   obtain⟨s,hs,hs1,hs2,hs3⟩:=HG (t:=t) htlt ht0;obtain⟨c,off,g1,g2⟩:=hv.idx oG htop;have eb:((m+2:Nat):Int)-1=((m+1:Nat):Int):=by omega
   simp (disch:=omega) only[hm,eb,wrap_i64,g1,g2,xA,aB,q294,hs3,q297];refine DV hv (by omega) (by simp_all) hs fun t1 b1 rb k1 k2 k3 k4 k5 k6 k7=>?_;rw[<- hBB]at k6 k7;rw[hm]at k5 ⊢;have hK:BB=2^s*2^(32-s):=by rw[<- Nat.pow_add,show s+(32-s)=32 by omega,hBB]
   have hp:0<2^s:=Nat.pow_pos (by decide);obtain⟨w1,w2⟩:=div_v (n:=m+1) hK hp hbl hm htop (by omega) (by omega) k6 k5 k7;have e1:=DP (L:=m+2+1) (hi:=m+2) k4 (by omega) (by omega);have hv1:mA t1 1 (sB .u32 (rb.take (m+2))) (.slice b1 0 (m+2) (m+2+1)):=by
    have:=k4.slice (off:=0) (n:=m+2) (cap:=m+2+1) (by omega) (by omega)
    simp_all
   simp only[e1,xA];refine DV (hu.mono k1) (by omega) (by simp_all) hs fun t2 b2 ra n1 n2 n3 n4 n5 n6 n7=>?_;rw[<- hBB]at n6 n7;rw[hj]at n5 ⊢;have ea:((j+(m+2):Nat):Int)-((m+2:Nat):Int)=(j:Int):=by omega
   have ea2:(j:Int)+1=((j+1:Nat):Int):=by omega
   simp (disch:=omega) only[hu.len,pD,hj,xA,aB,ea,ea2,wrap_i64];intro bq hbq hbaseq;obtain⟨t3,p1,p2,p3,p4⟩:=Af (C:=yA) (k:=.u32) mP rfl xH rfl rfl (by decide) (n:=j+1) (by omega) hbq;rw[p1];have el:aA (.slice bq 0 (j+1) (j+1))=some (.int .i64 ((j+1:Nat):Int)):=rfl;have el2:((j+1:Nat):Int)-1=(j:Int):=by omega
   simp (disch:=omega) only[xA,el,aB,el2,wrap_i64];have hne:b2≠bq:=by
    intro e;obtain⟨c,hc1,_⟩:=n4
    simp_all
   have hbq1:t1.get bq=none:=by
    cases hg:t1.get bq with
    | none=>rfl
    | some x=>rw[n1 _ _ hg]at hbq;cases hbq
   have hVpos:0<val BB (rb.take (m+2)):=by
    rw[w1];refine Nat.mul_pos ?_ hp;have:=El (B:=BB) hbn hb0
    grind
   have hbge:BB^(m+1)<=val BB b:=by
    have:=El (B:=BB) hbn hb0
    simp_all
   have hcl:=div_u (n:=m+1) (j:=j) (p:=2^s) nI hal hbge (by omega) (by omega) hp n7;have hta:ra.take j++ra.drop j=ra:=List.take_append_drop _ _;refine YF (U:=val BB ra) hv1 (by grind) (by omega) (Bj k6 _) n3 hbaseq n2 hbq1 hne (by omega) (fun x hx=>by grind) hVpos (fun t4 q r Z z1 z2 z3 z4 z5 z6 z7 z8 z9 z10=>?_) j (ra.take j) (ra.drop j) [] [] t3 (by grind) (by grind) (Bj n6 _) (OG n6 _) (fun x hx=>by cases hx) (by grind) (by simp) ?_ (n1.trans p3) ?_ (by simp_all) ?_
   ·have hcl2:wB BB (r++[0]):=aS z5 nI;refine QB (t:=t4) (Z:=Z) (c:=r++[0]) (cn:=0) (by omega) (by simp[z4]) hcl2 (by simp_all) n3 hs (by omega) (fun t5 W y1 y2 y3 y4 y5=>?_) (m+2) 0 t4 [] (by omega) (rE.refl _ _) (by simp_all) rfl (fun x hx=>by cases hx) (by rw[ycr,Nat.pow_zero,Nat.one_mul];exact ybw _);have y6:val BB W=val BB r / 2^s:=by
     grind [mK,Nat.zero_div]
    rw[w1]at z9 z10;rw[n7]at z10;obtain⟨x1,x2⟩:=zap hp z10 z9;refine YE y2 (z3.off (fun e=>hne e.symm) y1) y3 (by omega) (by omega) z7 (by omega) fun qv rv x3 x4=>?_;have ht5:yB t t5:=k1.trans (z1.off n2 y1)
    grind [bS,yR,gQ]
   ·simp_all
   ·rw[hta,ycd];exact n4.tle p3
   simp_all [val]
end Go.Proofs
namespace Go.Am
def wd (l:List Nat)(i:Nat):Nat:=(l[i]?).getD 0
def Ca{B:Nat}(hB:0<B){l:List Nat}(h:wB B l)(i:Nat):wd l i<B:=by
 unfold wd
 cases hx:l[i]? with
 | none=>exact hB
 | some x=>exact xI h hx
def Ir(B:Nat)(l:List Nat)(i:Nat):val B (l.take (i+1))=val B (l.take i)+B^i*wd l i:=by
 unfold wd
 cases hx:l[i]? with
 | none=>
  grind [List.take_of_length_le]
 | some x=>
  have hi:=(ybc.1 hx).1;rw[uT hx,mK];grind
def zaq{B P u v Va Vb w x y bo ai bi x' y' lx ly bo' W:Nat}(h:W+P*x+v*Vb=u*Va+P*(y+bo))(hx:B*x'+lx=x+u*ai)(hy:B*y'+ly=y+v*bi)(hw:lx+B*bo'=w+ly+bo) :
  (W+P*w)+P*B*x'+v*(Vb+P*bi)=u*(Va+P*ai)+P*B*(y'+bo'):=by
 grind
theorem zds{P W x z X Y:Nat}(h:W+P*x+Y=X+P*z)(hW:W<P)(hX:X<P)(hle:Y<=X):W=X-Y:=by
 rcases Nat.lt_trichotomy x z with g | g | g
 ·have:=ybv P g
  grind
 ·grind
 ·have:=ybv P g
  grind
def NH{B u x a:Nat}(hx:x<=u)(ha:a<B):(x+u*a) / B<=u:=by
 have h:x+u*a<=u*B:=by
  have:=ybv u (Nat.succ_le_of_lt ha)
  grind
 simp_all [Nat.div_le_of_le_mul,ybh]
end Go.Am
namespace Go.Proofs
open Go Go.Am
variable [kC]
variable {t:Tr sA}
theorem FS{x u a:Nat}(hx:x<=u)(hu:u<4294967296)(ha:a<4294967296):iA .u64 ((x:Int)+iA .u64 ((u:Int)*iA .u64 (a:Int)))=((x+u*a:Nat):Int):=by
 have h:u*a<=4294967295*4294967295:=ydb (by omega) (by omega)
 grind [yG]
theorem YH{la lb:List Nat}{pa pb w:zA}{u v x y bo n i:Nat}{Q:wC}(ha:mA t 1 (sB .u32 la) pa)(hb:mA t 1 (sB .u32 lb) pb)(hal:wB BB la)(hbl:wB BB lb)(hu:u<4294967296)(hv:v<4294967296)(hx:x<=u)(hy:y<=v)(hi:i<n)
  (h:jp 286 21 [.int .u64 (u:Int),pa,.int .u64 (v:Int),pb,w,.int .u64 ((x+u*wd la i:Nat):Int),.int .u64 ((y+v*wd lb i:Nat):Int),.int .u32 (bo:Int),.int .i64 (i:Int),.int .i64 (n:Int),.int .i64 (i:Int)] t Q) :
  jp 286 2 [.int .u64 (u:Int),pa,.int .u64 (v:Int),pb,w,.int .u64 (x:Int),.int .u64 (y:Int),.int .u32 (bo:Int),.int .i64 (n:Int),.int .i64 (i:Int)] t Q:=by
 have hBB:=yN;have second:jp 286 17 [.int .u64 (u:Int),pa,.int .u64 (v:Int),pb,w,.int .u64 ((x+u*wd la i:Nat):Int),.int .u64 (y:Int),.int .u32 (bo:Int),.int .i64 (i:Int),.int .i64 (n:Int),.int .i64 (i:Int)] t Q:=by
  refine ziw ?_;simp only[uI,uL,uZ,CV,lA,hb.len,xA,aB,pD,uC];by_cases hlen:i<lb.length
  ·obtain⟨z,hz⟩:=getElem?_of_lt hlen;have hz32:z<4294967296:=by have:=xI hbl hz;omega
   obtain⟨c,off,g1,g2⟩:=hb.idx oG hz
   grind [xA,aB,FS,wd]
  grind [wd]
 refine zfk ?_;simp only[uI,uL,uZ,To,lA,uC];rw[yab (by omega)];simp only[ha.len,xA,aB,pD];by_cases hlen:i<la.length
 ·obtain⟨z,hz⟩:=getElem?_of_lt hlen;have hz32:z<4294967296:=by have:=xI hal hz;omega
  obtain⟨c,off,g1,g2⟩:=ha.idx oG hz
  grind [xA,aB,FS,wd]
 grind [wd]
end Go.Proofs
namespace Go.Proofs
open Go Go.Am
section
variable [kC]
variable {t:Tr sA}
theorem zar{la lb:List Nat}{pa pb:zA}{b u v n:Nat}{t0:Tr sA}{Q:wC}(ha:mA t0 1 (sB .u32 la) pa)(hb:mA t0 1 (sB .u32 lb) pb)(hal:wB BB la)(hbl:wB BB lb)(hu:u<4294967296)(hv:v<4294967296)(hn:n<1000000)(hbase:yA.base<=b)(hb0:t0.get b=none)
  (hQ:∀t' W rv x z,yB t0 t'->mA t' 1 (sB .u32 (eD W)) rv->W.length=n->wB BB W->val BB W+BB^n*x+v*val BB (lb.take n)=u*val BB (la.take n)+BB^n*z->Q rv t') :
  ∀(k i x y bo:Nat) (t':Tr sA) (W:List Nat),i+k=n->yB t0 t'->jF t' b .u32 (W++List.replicate k 0)->W.length=i->wB BB W->x<=u->y<=v->bo<2->val BB W+BB^i*x+v*val BB (lb.take i)=u*val BB (la.take i)+BB^i*(y+bo) →
  jp 286 2 [.int .u64 (u:Int),pa,.int .u64 (v:Int),pb,.slice b 0 n n,.int .u64 (x:Int),.int .u64 (y:Int),.int .u32 (bo:Int),.int .i64 (n:Int),.int .i64 (i:Int)] t' Q:=by
 intro k;have hBB:=yN
 induction k with
 | zero=>
  intro i x y bo t' W hi ht ho hW hWl hx hy hbo hval;have hi':i=n:=by omega
  subst hi';have e3:mA t' 1 (sB .u32 W) (.slice b 0 i i):=by
   rw[List.replicate_zero,ycd]at ho;have:=ho.all (cap:=i) (by omega)
   simp_all
  obtain⟨rv,f1,f2⟩:=Ch (by omega) e3;refine zfk ?_;simp only[uI,uL,uZ,To,lA,uC];rw[yaa (by omega)];simp only[Fv,f1,xA];grind
 | succ k ih=>
  intro i x y bo t' W hi ht ho hW hWl hx hy hbo hval;refine YH (ha.mono ht) (hb.mono ht) hal hbl hu hv hx hy (by omega) ?_;have wa:=Ca nI hal i;have wb:=Ca nI hbl i;have cx:=NH hx wa;have cy:=NH hy wb;have va:=Ir BB la i;have vb:=Ir BB lb i;generalize wd la i=ai at *;generalize wd lb i=bi at *;generalize hX:x+u*ai=X at *;generalize hY:y+v*bi=Y at *
  have ex:iA .u32 (X:Int)=((X%4294967296:Nat):Int):=by rw[wT];omega
  have ey:iA .u32 (Y:Int)=((Y%4294967296:Nat):Int):=by rw[wT];omega
  have fx:Int.fdiv (X:Int) 4294967296=((X / 4294967296:Nat):Int):=Ax X 4294967296;have fy:Int.fdiv (Y:Int) 4294967296=((Y / 4294967296:Nat):Int):=Ax Y 4294967296;have hs:=zbp (t:=t') (x:=X%4294967296) (y:=Y%4294967296) (b:=bo) (ycy _ (by decide)) (ycy _ (by decide)) hbo;obtain⟨w,hw⟩:∃w,w=(X%4294967296+8589934592-Y%4294967296-bo)%4294967296:=⟨_,rfl⟩;obtain⟨bo',hbo'⟩:∃bo':Nat,bo'=if X%4294967296<Y%4294967296+bo then 1 else 0:=⟨_,rfl⟩
  rw[<- hw,<- hbo']at hs;have hwlt:w<BB:=by omega
  have hb2:bo'<2:=by rw[hbo'];split<;>omega
  have hsum:X%4294967296+4294967296*bo'=w+Y%4294967296+bo:=by
   rw[hw,hbo'];split<;>omega
  have g1:=Dd oG (b:=b) (n:=n) (cap:=n) (j:=i) (by omega);obtain⟨t1,s1,s2,s3⟩:=ho.store (C:=yA) hbase (j:=i) (by grind) w xH rfl;have hset:=Nw (p:=W) (n:=k) (x:=w);rw[hW]at hset;rw[hset]at s2;have ei:(i:Int)+1=((i+1:Nat):Int):=by omega
  refine ziv ?_;simp only[uL,qB,uX,uZ,CU,lA,ex,ey,q299,hs,xA,eJ,zA.asTup,pA,nG,yaz,yba,aB,g1,fx,fy,ei];intro _ _ _;rw[s1,xA,wrap_i64 (by omega) (by omega)];rw[hBB]at cx cy;refine ih (i+1) (X / 4294967296) (Y / 4294967296) bo' t1 (W++[w]) (by omega) (ht.off hb0 s3) s2 (by simp[hW]) (aS hWl hwlt) cx cy hb2 ?_;have hst:=zaq (B:=BB) (P:=BB^i) (ai:=ai) (bi:=bi) (x':=X / 4294967296) (y':=Y / 4294967296) (lx:=X%4294967296) (ly:=Y%4294967296) (w:=w) (bo':=bo') hval (by grind) (by grind) (by simp_all)
  grind [mK]
theorem Ri{la lb:List Nat}{pa pb:zA}{u v:Nat}{Q:wC}(ha:mA t 1 (sB .u32 la) pa)(hb:mA t 1 (sB .u32 lb) pb)(hal:wB BB la)(hbl:wB BB lb)(hu:u<4294967296)(hv:v<4294967296)(hla:la.length<700000)(hlb:lb.length<700000)(hge:v*val BB lb<=u*val BB la)
  (hQ:∀t' r rv,yB t t'->mA t' 1 (sB .u32 r) rv->wB BB r->norm r->val BB r=u*val BB la-v*val BB lb->Q rv t') :
  Wc yA F 286 [.int .u64 (u:Int),pa,.int .u64 (v:Int),pb] t Q:=by
 have hBB:=yN;refine w286 ?_;simp only[uI,uZ,uW,t286,lA,ha.len,hb.len,xA,aB,pD];obtain⟨n,hn1,hn2,hn3,hn4⟩:∃n:Nat,(bif lB (la.length:Int) (lb.length:Int)then(lb.length:Int)else(la.length:Int))+1=(n:Int)/\la.length<n/\lb.length<n/\n<700002:=by
  cases hc:lB (la.length:Int) (lb.length:Int)with
  | true=>have:=uC.1 hc;exact⟨lb.length+1,by simp,by omega,by omega,by omega⟩
  | false=>
   have:¬ ((la.length:Int)<(lb.length:Int)):=fun h=>by grind [uC]
   exact⟨la.length+1,by simp,by omega,by omega,by omega⟩
 rw[hn1,wrap_i64 (by omega) (by omega)];intro b hb0 hbase;obtain⟨t',g1,g2,g3,g4⟩:=Af (C:=yA) (k:=.u32) mP rfl xH rfl rfl (by decide) (n:=n) (by omega) hb0;rw[g1];have el:aA (.slice b 0 n n)=some (.int .i64 (n:Int)):=rfl;simp only[xA,el,aB];refine zar ha hb hal hbl hu hv (by omega) hbase hb0 (fun t2 W rv x z k1 k2 k3 k4 k5=>?_) n 0 0 0 0 t' [] (by omega) g3 (by simp_all) rfl (fun x hx=>by cases hx) (by omega) (by omega) (by omega) (by simp[val])
 rw[yca (by omega),yca (by omega)]at k5;have hP:u*val BB la<BB^n:=by
  have h1:=lK nI hal;have h2:BB^(la.length+1)<=BB^n:=yao nI (by omega);have h3:u*val BB la<=u*BB^la.length:=ybv _ (Nat.le_of_lt h1);have h4:u*BB^la.length<BB*BB^la.length:=Nat.mul_lt_mul_of_pos_right (by omega) (Nat.pow_pos nI)
  grind
 grind [lK,zds,bS,yR,gQ]
end
section
variable [kC]
variable {t:Tr sA}
theorem zjz{v:zA}{l:List Nat}{b:Nat}(hv:mA t 1 (sB .u32 l) v)(hb:t.get b=none) :
  ∃H',tO v ⟨b,t⟩=some (.ptr b 0,H')/\yB t H'.t/\dA yA 240 ⟨0,H'.t⟩ (.ptr b 0)=some v:=by
 have hc:v.cells=[v]:=by
  obtain⟨cl,h1,_⟩:=hv;rcases h1 with⟨rfl,_⟩ | ⟨_,_,_,rfl,_⟩<;>rfl
 refine⟨uF ⟨b,t⟩ [v] none,by unfold tO;rw[hc],?_,?_⟩
 ·intro c u hg;show(t.set b _).get c=_
  grind [Tr.get_set]
 ·have hg:(uF ⟨b,t⟩ [v] none).t.get b=some (.cells (Tr.ofList [v]) 1 none):=by
   show(t.set b _).get b=_;rw[Tr.get_set,yab rfl];rfl
  unfold dA;simp only[zA.asPtr,pA];rw[mP,pA];unfold oD;rw[hg,pA];simp only[sA.asCells,pA];unfold xR;first
   | rfl
   | (rw[cond_false,Tr.get_ofList];rfl)
theorem So{v:zA}{l:List Nat}{b i:Nat}(hv:mA t 1 (sB .u32 l) v)(hl:wB BB l)(hload:dA yA 240 ⟨0,t⟩ (.ptr b 0)=some v):vB yA F 302 [.int .i64 (i:Int),.ptr b 0] t=some (.int .u64 ((wd l i:Nat):Int)):=by
 have hBB:=yN;refine bB.2 (w302 ?_);simp only[uI,uL,uZ,t302,lA,hload,xA,hv.len,aB,pD,mD];by_cases h:i<l.length
 ·obtain⟨x,hx⟩:=getElem?_of_lt h;have hx32:x<4294967296:=by have:=xI hl hx;omega
  obtain⟨c,off,g1,g2⟩:=hv.idx oG hx
  grind [xA,aB,yG,wd]
 grind [wd]
def KO{v:zA}{l:List Nat}{n s:Nat}(hv:mA t 1 (sB .u32 l) v)(hl:wB BB l)(hn:3<=n)(hn2:n<1000000)(hs:s<32)(hb:(wd l (n-1)*4294967296+wd l (n-2))*2^s<18446744073709551616) :
  vB yA F 295 [v,.int .i64 (n:Int),.int .i64 (s:Int)] t=some (.int .u64 (((wd l (n-1)*4294967296+wd l (n-2))*2^s+wd l (n-3) / 2^(32-s):Nat):Int)):=by
 have hBB:=yN;refine rN (w295 ?_);simp only[uE,uZ,uW,t295,lA];intro b hb0 _;obtain⟨H',g1,g2,g3⟩:=zjz hv hb0;rw[g1,xA];have w1:=Ca nI hl (n-1);have w2:=Ca nI hl (n-2);have w3:=Ca nI hl (n-3);have c1:=So (i:=n-1) (hv.mono g2) hl g3;have c2:=So (i:=n-2) (hv.mono g2) hl g3;have c3:=So (i:=n-3) (hv.mono g2) hl g3;generalize wd l (n-1)=x1 at *;generalize wd l (n-2)=x2 at *
 generalize wd l (n-3)=x3 at *;have e1:(n:Int)-1=((n-1:Nat):Int):=by omega
 have e2:(n:Int)-2=((n-2:Nat):Int):=by omega
 have e3:(n:Int)-3=((n-3:Nat):Int):=by omega
 have e4:(32:Int)-(s:Int)=((32-s:Nat):Int):=by omega
 have f:∀a,cS (.func (.func 302) [] [.ptr b 0]) [a]=some (302,[a,.ptr b 0]):=fun _=>rfl;have e5:(x1:Int)*4294967296=((x1*4294967296:Nat):Int):=by omega
 rw[f,xA,e1,wrap_i64 (by omega) (by omega),q302,c1,xA,aB,xA,f,xA,e2,wrap_i64 (by omega) (by omega),q302,c2,xA,aB,xA,e5,yG (by omega) (by omega),or32 (by omega) (by omega),xA,aB,xA,KL (by omega) hb,xA,aB,xA,f,xA,e3,wrap_i64 (by omega) (by omega),q302,c3,xA,aB,xA,e4,wrap_i64 (by omega) (by omega),KK (by omega),xA,aB,xA]
 have hz:x3 / 2^(32-s)<2^s:=ycu (by rw[<- Nat.pow_add,show 32-s+s=32 by omega];omega);have hz2:(2:Nat)^s<=2^31:=yao (by decide) (by omega);generalize x3 / 2^(32-s)=z at hz ⊢;have ho:=Fg (a:=x1*4294967296+x2) (b:=z) (n:=s) hz;generalize (x1*4294967296+x2)*2^s=h at hb ho ⊢;have hz3:z<18446744073709551616:=by omega
 rw[iU (k:=.u64) (show h<gG .u64 from hb) (show z<gG .u64 from hz3),ho,xA,aB,xA];exact⟨rfl,g2⟩
end
section
variable [kC]
variable {t:Tr sA}
theorem RX{A1 B1:Nat}{P:Nat->Nat->Nat->Nat->Nat->Nat->Nat->Nat->Bool->Prop}{Q:wC}(hA:A1<18446744073709551616)(hB:B1<18446744073709551616)
  (hstep:∀x y u0 u1 u2 v0 v1 v2 ev,P x y u0 u1 u2 v0 v1 v2 ev->0<y->v2<=y->v1+v2<=x-y->P y (x%y) u1 u2 (u1+x / y*u2) v1 v2 (v1+x / y*v2) (!ev))
  (hQ:∀x y u0 u1 u2 v0 v1 v2 ev,P x y u0 u1 u2 v0 v1 v2 ev->Q (.agg [.int .u64 (u0:Int),.int .u64 (u1:Int),.int .u64 (v0:Int),.int .u64 (v1:Int),.bool ev]) t) :
  ∀(y x u0 u1 u2 v0 v1 v2:Nat) (ev:Bool) (c0 c1 c2 c3:Int) (c4:Bool),P x y u0 u1 u2 v0 v1 v2 ev->A1=v2*x+v1*y->B1=u2*x+u1*y->y<=x->1<=v2->v1<=v2 →
  jp 284 2 [.int .u64 (x:Int),.int .u64 (y:Int),.int .u64 (u2:Int),.int .u64 (v2:Int),.int .u64 c0,.int .u64 c1,.int .u64 c2,.int .u64 c3,.bool c4,.int .u64 (u0:Int),.int .u64 (u1:Int),.int .u64 (v0:Int),.int .u64 (v1:Int),.bool ev] t Q:=by
 intro y;induction y using Nat.strongRecOn with
 | ind y ih=>
  intro x u0 u1 u2 v0 v1 v2 ev c0 c1 c2 c3 c4 hP hx hy hle h1 h12;refine j284_2 ?_;simp only[uE,zep,lA,mD];by_cases g1:v2<=y
  ·rw[yab (by omega)];have hy0:0<y:=by omega
   have b1:v2*x<=A1:=by omega
   have b2:x<=A1:=Nat.le_trans (yan x (by omega)) b1;have b3:v2<4294967296:=by
    rcases yau v2 4294967296 with h | h
    ·exact h
    ·exfalso;have:4294967296*4294967296<=v2*x:=ydb h (by omega);omega
   have e1:iA .u64 ((v1:Int)+(v2:Int))=((v1+v2:Nat):Int):=by grind [yG]
   have e2:iA .u64 ((x:Int)-(y:Int))=((x-y:Nat):Int):=by grind [yG]
   rw[e1,e2];by_cases g2:v1+v2<=x-y
   ·rw[yab (by omega)];have hdm:=ych x y;have hmod:x%y<y:=ycy _ hy0;have hq1:1<=x / y:=by
     grind
    have hxq:x / y<=x:=Nat.div_le_self _ _;have e3:wW .u64 (x:Int) (y:Int)=some (.int .u64 ((x / y:Nat):Int)):=Qn hy0 (by
     grind [yG])
    have e4:xW .u64 (x:Int) (y:Int)=some (.int .u64 ((x%y:Nat):Int)):=Lg hy0;have hst:=hstep x y u0 u1 u2 v0 v1 v2 ev hP hy0 g1 g2;generalize x / y=q at *;generalize x%y=r at *;have nA:A1=(v1+q*v2)*y+v2*r:=by
     grind
    have nB:B1=(u1+q*u2)*y+u2*r:=by
     grind
    have bv:v1+q*v2<=A1:=Nat.le_trans (Nat.le_mul_of_pos_right _ hy0) (by omega);have bu:u1+q*u2<=B1:=Nat.le_trans (Nat.le_mul_of_pos_right _ hy0) (by omega);have bq:v2<=q*v2:=yan _ hq1;have e5:iA .u64 ((v1:Int)+iA .u64 ((q:Int)*(v2:Int)))=((v1+q*v2:Nat):Int):=by
     grind [yG]
    have e6:iA .u64 ((u1:Int)+iA .u64 ((q:Int)*(u2:Int)))=((u1+q*u2:Nat):Int):=by
     grind [yG]
    rw[e3,xA,aB,xA,e4,xA,aB,xA,e5,e6];grind
   grind
  grind
end
end Go.Proofs
namespace Go.Am
def Lrel (a b x y u1 u2 v1 v2:Nat)(ev:Bool):Prop:=
 match ev with
 | false=>u1*v2=u2*v1+1/\x+v1*b=u1*a/\y+u2*a=v2*b
 | true=>u2*v1=u1*v2+1/\x+u1*a=v1*b/\y+v2*b=u2*a
def Lst (u1 u2 v1 v2:Nat):Prop:=(u1=1/\v1=0/\u2=0)\/(u1<=v1/\u2<=v2/\1<=u2/\1<=v1)
def Sk(a b u0 u1 v0 v1:Nat)(ev:Bool):Prop:=∃x y,Lrel a b x y u0 u1 v0 v1 (!ev)/\v1<=y/\v0+v1<=x-y/\u0<=v0/\u1<=v1/\1<=u1/\1<=v0/\v0<=v1
def Lsim (a b x y u0 u1 u2 v0 v1 v2:Nat)(ev:Bool):Prop:=Lrel a b x y u1 u2 v1 v2 ev/\1<=v2/\v1<=v2/\Lst u1 u2 v1 v2/\(v0=0\/Sk a b u0 u1 v0 v1 ev)
def zbc(a b:Nat):Lsim a b a b 0 1 0 0 0 1 false:=⟨⟨by simp,by simp,by simp⟩,ybk _,by omega,.inl ⟨rfl,rfl,rfl⟩,.inl rfl⟩
def zbb{a b x y u0 u1 u2 v0 v1 v2:Nat}{ev:Bool}(h:Lsim a b x y u0 u1 u2 v0 v1 v2 ev)(hy:0<y)(h1:v2<=y)(h2:v1+v2<=x-y) :
  Lsim a b y (x%y) u1 u2 (u1+x / y*u2) v1 v2 (v1+x / y*v2) (!ev):=by
 obtain⟨k1,k2,k5,k3,k4⟩:=h;have hq:1<=x / y:=by rw[Nat.le_div_iff_mul_le hy];omega
 have hdm:=ych x y;generalize x / y=q at *;generalize x%y=r at *;have hv2:v2<=q*v2:=yan _ hq;have hu2:u2<=q*u2:=yan _ hq;refine⟨?_,by omega,by omega,?_,?_⟩
 ·cases ev with
  | false=>
   obtain⟨m1,m2,m3⟩:=k1;refine⟨?_,m3,?_⟩
   all_goals grind
  | true=>
   obtain⟨m1,m2,m3⟩:=k1;refine⟨?_,m3,?_⟩
   all_goals grind
 ·right
  rcases k3 with⟨e1,e2,e3⟩ | ⟨g1,g2,g3,g4⟩
  ·grind
  ·have:=ybv q g2;omega
 ·rcases k3 with⟨e1,e2,e3⟩ | ⟨g1,g2,g3,g4⟩
  ·omega
  ·right
   exact⟨x,y,by simp_all,h1,h2,g1,g2,g3,g4,k5⟩
end Go.Am
namespace Go.Am
def HU{p q r s A B X Y:Nat}(hdet:p*s=q*r+1)(hX:X+r*B=p*A)(hY:Y+q*A=s*B):A=s*X+r*Y/\B=q*X+p*Y:=by
 have a1:s*(X+r*B)=s*(p*A):=by rw[hX]
 have a2:r*(Y+q*A)=r*(s*B):=by rw[hY]
 have a3:q*(X+r*B)=q*(p*A):=by rw[hX]
 have a4:p*(Y+q*A)=p*(s*B):=by rw[hY]
 have d1:p*s*A=q*r*A+A:=by rw[hdet,ybo,Nat.one_mul]
 have d2:p*s*B=q*r*B+B:=by rw[hdet,ybo,Nat.one_mul]
 have e1:s*(p*A)=p*s*A:=by rw[<- ybj,ybh s p]
 have e2:r*(q*A)=q*r*A:=by rw[<- ybj,ybh r q]
 have e3:s*(r*B)=r*(s*B):=Nat.mul_left_comm _ _ _;have e4:q*(p*A)=p*(q*A):=Nat.mul_left_comm _ _ _;have e5:q*(r*B)=q*r*B:=(ybj _ _ _).symm;have e6:p*(s*B)=p*s*B:=(ybj _ _ _).symm;rw[ybm]at a1 a2 a3 a4;constructor<;>omega
def HT{p q r s a b A B W α β x y:Nat}(hx:x+r*b=p*a)(hy:y+q*a=s*b)(hA:A=W*a+α)(hB:B=W*b+β)(ha:α<W)(hb:β<W)(hrs:r+s<=x-y)(h1:1<=r+s)(hq:q<=y) :
  ∃X Y,X+r*B=p*A/\Y+q*A=s*B/\Y<X:=by
 obtain⟨D,hD⟩:∃D,x=y+D:=⟨x-y,by omega⟩;have w1:p*A=W*x+r*(W*b)+p*α:=by
  rw[hA,ybm,Nat.mul_left_comm p W,<- hx,ybm,Nat.mul_left_comm W r]
 have w2:r*B=r*(W*b)+r*β:=by rw[hB,ybm]
 have w3:s*B=W*y+q*(W*a)+s*β:=by
  rw[hB,ybm,Nat.mul_left_comm s W,<- hy,ybm,Nat.mul_left_comm W q]
 have w4:q*A=q*(W*a)+q*α:=by rw[hA,ybm]
 have i1:r*β<=W*D:=by
  rw[ybh W D];exact ydb (by omega) (by omega)
 have i2:q*α<=W*y:=by
  rw[ybh W y];exact ydb hq (by omega)
 have i3:(r+s)*β<W*D:=by
  have h2:(r+s)*β<(r+s)*W:=Nat.mul_lt_mul_of_pos_left hb (by omega);have h3:(r+s)*W<=D*W:=ybi _ (by omega)
  grind
 have w5:W*x=W*y+W*D:=by rw[hD,ybm]
 rw[ybo]at i3;exact⟨p*A-r*B,s*B-q*A,by omega,by omega,by omega⟩
def lehmer{a b A B W α β u0 u1 v0 v1:Nat}{ev:Bool}(hA:A=W*a+α)(hB:B=W*b+β)(ha:α<W)(hb:β<W)(h:Sk a b u0 u1 v0 v1 ev) :
  ∃X Y,(ev=true->X+v0*B=u0*A/\Y+u1*A=v1*B)/\(ev=false->X+u0*A=v0*B/\Y+v1*B=u1*A)/\Y<X/\A=v1*X+v0*Y/\B=u1*X+u0*Y/\X+Y<A+B:=by
 obtain⟨x,y,k1,k2,k3,k4,k5,k6,k7,_⟩:=h;have cC:∀X Y:Nat,Y<X->A=v1*X+v0*Y->B=u1*X+u0*Y->X+Y<A+B:=by
  intro X Y g1 g2 g3;have j1:X<=v1*X:=yan _ (by omega);have j2:X<=u1*X:=yan _ (by omega);omega
 cases ev with
 | true=>
  obtain⟨m1,m2,m3⟩:=k1;obtain⟨X,Y,g1,g2,g3⟩:=HT m2 m3 hA hB ha hb k3 (by omega) (by omega);obtain⟨d1,d2⟩:=HU m1 g1 g2;exact⟨X,Y,fun _=>⟨g1,g2⟩,(fun h=>absurd h (by decide)),g3,d1,d2,cC X Y g3 d1 d2⟩
 | false=>
  obtain⟨m1,m2,m3⟩:=k1;obtain⟨X,Y,g1,g2,g3⟩:=HT m2 m3 hB hA hb ha (by omega) (by omega) k2;have m1':v0*u1=v1*u0+1:=by grind
  obtain⟨d1,d2⟩:=HU m1' g1 g2;exact⟨X,Y,(fun h=>absurd h (by decide)),fun _=>⟨g1,g2⟩,g3,d2,d1,cC X Y g3 d2 d1⟩
def ZY{a b u0 u1 v0 v1:Nat}{ev:Bool}(ha:a<18446744073709551616)(hb:b<18446744073709551616)(h:Sk a b u0 u1 v0 v1 ev):u0<4294967296/\u1<4294967296/\v0<4294967296/\v1<4294967296:=by
 obtain⟨x,y,k1,k2,k3,k4,k5,k6,k7,k8⟩:=h;have key:a=v1*x+v0*y:=by
  cases ev with
  | true=>
   obtain⟨m1,m2,m3⟩:=k1
   grind
  | false=>
   obtain⟨m1,m2,m3⟩:=k1
   grind
 have:v1<4294967296:=by
  rcases yau v1 4294967296 with g | g
  ·exact g
  ·exfalso;have:4294967296*4294967296<=v1*x:=ydb g (by omega);omega
 omega
end Go.Am
namespace Go.Am
def zbh{B:Nat}{l:List Nat}{m:Nat}(hl:l.length<=m+3):val B l=val B (l.take m)+B^m*(wd l m+B*(wd l (m+1)+B*wd l (m+2))):=by
 have h0:=Ir B l m;have h1:val B (l.take (m+2))=val B (l.take (m+1))+B^(m+1)*wd l (m+1):=Ir B l (m+1);have h2:val B (l.take (m+3))=val B (l.take (m+2))+B^(m+2)*wd l (m+2):=Ir B l (m+2)
 grind [List.take_of_length_le]
def KN{B p K m:Nat}{l:List Nat}(hB:B=p*K)(hp:0<p)(hB0:0<B)(hlt:wB B l)(hl:l.length<=m+3) :
  (wd l (m+2)*B+wd l (m+1))*K+wd l m / p=val B l / (B^m*p):=by
 have h1:=zbh (B:=B) hl;have h2:val B (l.take m)<B^m:=by
  have h:=lK hB0 (Bj hlt m)
  grind [Nat.lt_of_lt_of_le,Nat.pow_le_pow_right]
 have h3:val B l / B^m=wd l m+B*(wd l (m+1)+B*wd l (m+2)):=by
  rw[h1,Nat.add_mul_div_left _ _ (Nat.pow_pos hB0),Nat.div_eq_of_lt h2,ybw]
 rw[<- Nat.div_div_eq_div_mul,h3];generalize wd l m=x;have e:B*(wd l (m+1)+B*wd l (m+2))=p*(K*(wd l (m+2)*B+wd l (m+1))):=by
  rw[<- ybj p,<- hB,ybh (wd l (m+2)),yap]
 rw[e,Nat.add_mul_div_left _ _ hp,ybh K,yap]
end Go.Am
namespace Go.Proofs
open Go Go.Am
variable [kC]
variable {t:Tr sA}
theorem RW{la lb:List Nat}{pa pb:zA}{m top:Nat}{Q:wC}(ha:mA t 1 (sB .u32 la) pa)(hb:mA t 1 (sB .u32 lb) pb)(hal:wB BB la)(hbl:wB BB lb)(hla:la.length=m+3)(hm:m<700000)(hlb:lb.length<=m+3)(htop:la[m+2]?=some top)(ht0:0<top)(hle:val BB lb<=val BB la)
  (hQ:∀u0 u1 v0 v1 ev W,0<W->val BB la / W<18446744073709551616->val BB lb / W<18446744073709551616->(v0=0\/Sk (val BB la / W) (val BB lb / W) u0 u1 v0 v1 ev)->Q (.agg [.int .u64 (u0:Int),.int .u64 (u1:Int),.int .u64 (v0:Int),.int .u64 (v1:Int),.bool ev]) t) :
  Wc yA F 284 [pa,pb] t Q:=by
 have hBB:=yN;have htlt:top<4294967296:=by have:=xI hal htop;omega
 obtain⟨s,hs,hs1,hs2,hs3⟩:=HG (t:=t) htlt ht0;obtain⟨c,off,g1,g2⟩:=ha.idx oG htop;have hK:BB=2^(32-s)*2^s:=by rw[<- Nat.pow_add,show 32-s+s=32 by omega,hBB]
 have hp:0<2^(32-s):=Nat.pow_pos (by decide);have va:=KN hK hp nI hal (m:=m) (by omega);have vb:=KN hK hp nI hbl hlb;have hW:0<BB^m*2^(32-s):=Nat.mul_pos (Nat.pow_pos nI) hp;have hdiv:val BB lb / (BB^m*2^(32-s))<=val BB la / (BB^m*2^(32-s)):=Nat.div_le_div_right hle;have hwt:wd la (m+2)=top:=by grind [wd]
 have wa1:=Ca nI hal (m+1);have wa0:=Ca nI hal m;have hz:wd la m / 2^(32-s)<2^s:=ycu (by omega);rw[hBB]at va vb;have bigA:(wd la (m+2)*4294967296+wd la (m+1))*2^s+wd la m / 2^(32-s)<18446744073709551616:=by
  rw[hwt];have q1:top+1<=2^(32-s):=by
   have:top*2^s<2^(32-s)*2^s:=by omega
   exact Nat.lt_of_mul_lt_mul_right this
  have q2:(top*4294967296+wd la (m+1))+1<=2^(32-s)*4294967296:=by
   omega
  have q3:=ybi (2^s) q2
  grind
 have hBB':∀l,val 4294967296 l=val BB l:=fun l=>by rw[hBB]
 have hPP:(4294967296:Nat)^m=BB^m:=by rw[hBB]
 rw[hBB',hPP]at va vb;have dD:(wd lb (m+2)*4294967296+wd lb (m+1))*2^s+wd lb m / 2^(32-s)<18446744073709551616:=by
  grind
 have h1:=KO (n:=m+3) (s:=s) ha hal (by omega) (by omega) hs (yam (Nat.le_add_right _ _) bigA);have h2:=KO (n:=m+3) (s:=s) hb hbl (by omega) (by omega) hs (yam (Nat.le_add_right _ _) dD);rw[show m+3-1=m+2 by omega,show m+3-2=m+1 by omega,show m+3-3=m by omega]at h1 h2;rw[va]at h1 bigA;rw[vb]at h2 dD;generalize hw:BB^m*2^(32-s)=W at *;have e1:((m+3:Nat):Int)-1=((m+2:Nat):Int):=by omega
 refine w284 ?_;simp only[uI,uL,uE,uZ,uW,t284,lA,ha.len,xA,aB,pD,hla,e1];rw[wrap_i64 (by omega) (by omega),g1,xA,g2,xA,aB,xA,q294,hs3,xA,aB,xA,q295,h1,xA,aB,xA,q295,h2,xA,aB,xA];simp only[if_true];exact RX (P:=Lsim (val BB la / W) (val BB lb / W)) bigA dD (fun x y u0 u1 u2 v0 v1 v2 ev hP hy k1 k2=>zbb hP hy k1 k2) (fun x y u0 u1 u2 v0 v1 v2 ev hP=>hQ u0 u1 v0 v1 ev W hW bigA dD hP.2.2.2.2) _ _ 0 1 0 0 0 1 false 0 0 0 0 false (zbc _ _) (by omega) (by omega) hdiv (by omega) (by omega)
end Go.Proofs
namespace Go.Am
def zab{A B X Y u0 u1 v0 v1:Nat}{ev:Bool}(h1:ev=true->X+v0*B=u0*A/\Y+u1*A=v1*B)(h2:ev=false->X+u0*A=v0*B/\Y+v1*B=u1*A)(hA:A=v1*X+v0*Y)(hB:B=u1*X+u0*Y):Nat.gcd X Y=Nat.gcd A B:=by
 have gX:=Nat.gcd_dvd_left X Y;have gY:=Nat.gcd_dvd_right X Y;have gA:=Nat.gcd_dvd_left A B;have gB:=Nat.gcd_dvd_right A B;refine Nat.dvd_antisymm (Nat.dvd_gcd ?_ ?_) (Nat.dvd_gcd ?_ ?_)
 ·grind [Nat.dvd_add]
 ·grind [Nat.dvd_add]
 ·generalize Nat.gcd A B=g at *
  cases ev with
  | true=>
   grind [Nat.dvd_add_left]
  | false=>
   grind [Nat.dvd_add_left]
 ·generalize Nat.gcd A B=g at *
  cases ev with
  | true=>
   grind [Nat.dvd_add_left]
  | false=>
   grind [Nat.dvd_add_left]
theorem KV{a b q r:Nat}(h:a=b*q+r):Nat.gcd b r=Nat.gcd a b:=by
 grind [Nat.mul_comm,Nat.gcd_mul_right_add_left]
theorem zjc{x y:Nat}:Nat.gcd y (x%y)=Nat.gcd x y:=by
 rw[Nat.gcd_comm y (x%y),<- Nat.gcd_rec,Nat.gcd_comm]
def CB{B:Nat}{l:List Nat}(hB:0<B)(h:wB B l)(hl:l.length<=2):val B l<B*B:=by
 have h1:=lK hB h;have h2:B^l.length<=B^2:=yao hB hl
 grind
end Go.Am
namespace Go.Proofs
open Go Go.Am
variable [kC]
variable {t:Tr sA}
theorem Yv{c:Prop}{d:Decidable c}{P Q:Prop}(h:c)(k:P):@ite Prop c d P Q:=by simp_all
theorem ite_no{c:Prop}{d:Decidable c}{P Q:Prop}(h:¬ c)(k:Q):@ite Prop c d P Q:=by simp_all
theorem XQ{Q:wC}:∀(y x:Nat),x<18446744073709551616->y<18446744073709551616->(∀t' r rv,yB t t'->mA t' 1 (sB .u32 r) rv->wB BB r->norm r->val BB r=Nat.gcd x y->Q rv t')->jp 272 6 [.int .u64 (x:Int),.int .u64 (y:Int)] t Q:=by
 have hBB:=yN
 intro y;induction y using Nat.strongRecOn with
 | ind y ih=>
  intro x hx hy hQ;refine j272_6 ?_;simp only[uE,zeq,lA,oN];by_cases h0:y=0
  ·subst h0;rw[yaa (by simp)];simp only[q288];grind [zbx,ZT,PH,VE]
  ·rw[yab (by omega),Lg (by omega),xA,aB,xA];have hm:=ycy x (show 0<y by omega)
   grind [zjc]
theorem HI{l:List Nat}{v:zA}(hv:mA t 1 (sB .u32 l) v)(hl:l.length<=2)(hlt:wB BB l):vB yA F 287 [v] t=some (.int .u64 ((val BB l:Nat):Int)):=by
 have hBB:=yN
 grind [zig]
theorem NF{la lb:List Nat}{pa pb:zA}{Q:wC}(ha:mA t 1 (sB .u32 la) pa)(hb:mA t 1 (sB .u32 lb) pb)(hal:wB BB la)(hbl:wB BB lb)(hla:la.length<=2)(hlb:lb.length<=2)
  (hQ:∀t' r rv,yB t t'->mA t' 1 (sB .u32 r) rv->wB BB r->norm r->val BB r=Nat.gcd (val BB la) (val BB lb)->Q rv t'):jp 272 33 [pa,pb] t Q:=by
 have hBB:=yN;have b1:=CB nI hal hla;have b2:=CB nI hbl hlb;refine zix ?_;simp only[uE,CW,lA,q287,HI ha hla hal,HI hb hlb hbl,xA,aB];grind [XQ]
theorem NG{Q:wC}{t0:Tr sA}{G:Nat}(hQ:∀t' r rv,yB t0 t'->mA t' 1 (sB .u32 r) rv->wB BB r->norm r->val BB r=G->Q rv t'):∀(n:Nat) (la lb:List Nat) (pa pb:zA) (t:Tr sA),val BB la+val BB lb=n->yB t0 t->mA t 1 (sB .u32 la) pa->mA t 1 (sB .u32 lb) pb->wB BB la->wB BB lb->norm la->norm lb->val BB lb<=val BB la->la.length<700000->Nat.gcd (val BB la) (val BB lb)=G->jp 272 2 [pa,pb] t Q:=by
 have hBB:=yN;have hB1:1<BB:=by omega
 intro n;induction n using Nat.strongRecOn with
 | ind n ih=>
  intro la lb pa pb t hn ht ha hb hal hbl han hbn hle hlen hg;have hlb:lb.length<=la.length:=eM hB1 hal hbn hle;refine j272_2 ?_;simp only[uI,uG,uX,zer,lA,hb.len,xA,aB,pD,uC];by_cases h2:2<lb.length
  ·rw[yab (by omega)];have hb0:lb≠[]:=by grind
   have hbpos:0<val BB lb:=by
    rcases yav (val BB lb)with h | h
    ·exact absurd (Gc nI hbn h) hb0
    ·exact h
   obtain⟨m,hm⟩:∃m,la.length=m+3:=⟨la.length-3,by omega⟩;obtain⟨top,htop⟩:=getElem?_of_lt (l:=la) (i:=m+2) (by omega);have ha0:la≠[]:=by grind
   have ht0:0<top:=by
    have:=han ha0
    grind
   rw[q284];refine RW ha hb hal hbl hm (by omega) (by omega) htop ht0 hle fun u0 u1 v0 v1 ev W hW hA hB hL=>?_;have eG:cN [(.int .u64 0),(.int .u64 0),(.int .u64 0),(.int .u64 0),(.bool false)] (.agg [.int .u64 (u0:Int),.int .u64 (u1:Int),.int .u64 (v0:Int),.int .u64 (v1:Int),.bool ev])=some (cellsOf [.int .u64 (u0:Int),.int .u64 (u1:Int),.int .u64 (v0:Int),.int .u64 (v1:Int),.bool ev]):=Hq rfl
   rw[eG];simp only[xA,cellsOf,Lc,xZ,yaz,yba,if_true,lT];by_cases hv0:v0=0
   ·refine Yv (tE.2 (by omega)) ?_;rw[q285];refine MD ha hb hlen hal hbl han hbn hb0 fun t' q r qv rv k1 k2 k3 k4 k5 k6 k7 k8 k9=>?_;simp only[eJ,zA.asTup,pA,nG,yaz,yba,xA];refine ih (val BB lb+val BB r) (by omega) lb r pb rv t' rfl (ht.trans k1) (hb.mono k1) k3 hbl k5 hbn k7 (by omega) (by omega) ?_
    grind [KV]
   ·refine ite_no (fun e=>absurd (tE.1 e) (by omega)) ?_;rcases hL with h | hL
    ·omega
    obtain⟨s1,s2,s3,s4⟩:=ZY hA hB hL;have eA:val BB la=W*(val BB la / W)+val BB la%W:=(ych _ _).symm;have eB:val BB lb=W*(val BB lb / W)+val BB lb%W:=(ych _ _).symm;obtain⟨X,Y,l1,l2,l3,l4,l5,l6⟩:=lehmer eA eB (ycy _ hW) (ycy _ hW) hL;have hgg:=zab l1 l2 l4 l5;have hXA:X<=val BB la:=by
     have:X<=v1*X:=yan _ (by
      obtain⟨x,y,_,_,_,_,_,_,w2,w3⟩:=hL;omega)
     omega
    cases ev with
    | true=>
     obtain⟨m1,m2⟩:=l1 rfl;simp only[if_true];rw[q286];refine Ri ha hb hal hbl s1 s3 hlen (by omega) (by omega) fun t1 r1 rv1 k1 k2 k3 k4 k5=>?_;rw[q286];refine Ri (hb.mono k1) (ha.mono k1) hbl hal s4 s2 (by omega) hlen (by omega) fun t2 r2 rv2 j1 j2 j3 j4 j5=>?_;have e1:val BB r1=X:=by omega
     have e2:val BB r2=Y:=by omega
     refine ih (val BB r1+val BB r2) (by omega) r1 r2 rv1 rv2 t2 rfl (ht.trans (k1.trans j1)) (k2.mono j1) j2 k3 j3 k4 j4 (by omega) ?_ (by grind);have:=eM hB1 hal k4 (by omega);omega
    | false=>
     obtain⟨m1,m2⟩:=l2 rfl;simp only[if_true,ybq,if_false];rw[q286];refine Ri hb ha hbl hal s3 s1 (by omega) hlen (by omega) fun t1 r1 rv1 k1 k2 k3 k4 k5=>?_;rw[q286];refine Ri (ha.mono k1) (hb.mono k1) hal hbl s2 s4 hlen (by omega) (by omega) fun t2 r2 rv2 j1 j2 j3 j4 j5=>?_;have e1:val BB r1=X:=by omega
     have e2:val BB r2=Y:=by omega
     refine ih (val BB r1+val BB r2) (by omega) r1 r2 rv1 rv2 t2 rfl (ht.trans (k1.trans j1)) (k2.mono j1) j2 k3 j3 k4 j4 (by omega) ?_ (by grind);have:=eM hB1 hal k4 (by omega);omega
  ·rw[yaa (by omega)];simp only[tE];by_cases h0:lb.length=0
   ·rw[yab (by omega)];have:lb=[]:=ycc.1 h0;subst this;refine hQ t la pa ht ha hal han ?_;rw[<- hg];simp only[val];rw[Nat.gcd_zero_right]
   ·rw[yaa (by omega)];simp only[ha.len,xA,aB,pD,uC];have hb0:lb≠[]:=by simp_all
    by_cases h3:2<la.length
    ·rw[yab (by omega),q285];refine MD ha hb hlen hal hbl han hbn hb0 fun t' q r qv rv k1 k2 k3 k4 k5 k6 k7 k8 k9=>?_;simp only[eJ,zA.asTup,pA,nG,yaz,yba,xA];have:=eM hB1 hbl k7 (Nat.le_of_lt k9);refine NF (hb.mono k1) k3 hbl k5 (by omega) (by omega) fun t2 r2 rv2 j1 j2 j3 j4 j5=>?_;exact hQ t2 r2 rv2 (ht.trans (k1.trans j1)) j2 j3 j4 (by grind [KV])
    ·rw[yaa (by omega)];refine NF ha hb hal hbl (by omega) (by omega) fun t2 r2 rv2 j1 j2 j3 j4 j5=>?_;exact hQ t2 r2 rv2 (ht.trans j1) j2 j3 j4 (by omega)
def cd_ok{la lb:List Nat}{pa pb:zA}{Q:wC}(ha:mA t 1 (sB .u32 la) pa)(hb:mA t 1 (sB .u32 lb) pb)(hal:wB BB la)(hbl:wB BB lb)(han:norm la)(hbn:norm lb)(hla:la.length<700000)(hlb:lb.length<700000)
  (hQ:∀t' r rv,yB t t'->mA t' 1 (sB .u32 r) rv->wB BB r->norm r->val BB r=Nat.gcd (val BB la) (val BB lb)->Q rv t'):Wc yA F 272 [pa,pb] t Q:=by
 have hBB:=yN;have hB1:1<BB:=by omega
 have hlt:=AE hB1 hal hbl han hbn;refine w272 ?_;simp only[uI,t272,lA,q283,zgn (by omega) ha hb,xA,aB,uC];by_cases hc:dH la lb<0
 ·rw[yab hc];have:=hlt.1 hc;exact NG hQ _ lb la pb pa t rfl (yB.refl _) hb ha hbl hal hbn han (by omega) hlb (Nat.gcd_comm _ _)
 ·rw[yaa hc];have:val BB lb<=val BB la:=Nat.le_of_not_lt fun h=>hc (hlt.2 h);exact NG hQ _ la lb pa pb t rfl (yB.refl _) ha hb hal hbl han hbn this hla rfl
end Go.Proofs
namespace Go.Proofs
open Go Go.Am
variable [kC]
variable {t:Tr sA}
theorem Pl{neg:Bool}{l:List Nat}(h:tI neg l=true):norm l:=by
 intro hne;grind [tI]
theorem ZS{l:List nF}{v:zA}(hv:mA t 2 (l.map nF.d) v)(hb:∀w∈l,w.limbs.length<1125899906842624)(hn:l.length<1125899906842624):∀(k i:Nat),i+k=l.length->jp 270 2 [v,.int .i64 (l.length:Int),.int .i64 (i:Int)] t (fun r m=>r=.bool ((l.drop i).all fun w=>tI w.neg w.limbs)/\m=t):=by
 intro k;induction k with
 | zero=>
  intro i hi;refine zfp ?_;simp only[uB,uG,mC,qB,jA,cD,uZ,pP,nP,Tv,lA,uC];simp_all
 | succ k ih=>
  intro i hi;have hlt:i<l.length:=by omega
  have hx:l[i]?=some l[i]:=ybd hlt;obtain⟨b,off,cs,g1,g2,_,_,g5⟩:=rD.at sl271 (by simp) hv (i:=i) (d:=l[i].d) (by simp[hx]);obtain⟨u,rfl,hu⟩:=Fq g5;have hv1:=Mr (neg:=l[i].neg) (hb _ (ycj hlt)) hu;refine zfp ?_;simp only[uB,uG,mC,qB,jA,cD,uZ,pP,nP,Tv,lA,uC];rw[yab (by omega),g1,xA,g2,qL,xA,aF g5 (nF.zs _)];simp only[xA,cellsOf,xZ,gZ,yaz,yba];have hone:nE zA.one [.bool l[i].neg,u]=true:=by
   show(bif zA.one (.bool l[i].neg)then(bif zA.one u then true else false)else false)=true;rw[hu.one];rfl
  refine Yv hone ?_;rw[q237,hv1];simp only[xA,Dx,Xp];rw[ybl hlt,ycg]
  cases hq:tI l[i].neg l[i].limbs with
  | false=>simp
  | true=>
   simp only[ycn,Bool.true_eq_false,if_false];rw[wrap_i64 (by omega) (by omega)];exact ih (i+1) (by omega)
theorem ZR{l:List nF}{v:zA}(hv:mA t 2 (l.map nF.d) v)(hb:∀w∈l,w.limbs.length<1125899906842624)(hn:l.length<1125899906842624):vB yA F 270 [v] t=some (.bool (l.all fun w=>tI w.neg w.limbs)):=by
 refine bB.2 (w270 ?_);simp only[uI,uZ,t270,lA,hv.len,xA,aB,ybf];have:=ZS hv hb hn l.length 0 (by omega)
 simp_all
theorem gcd_ok{n d:nF}{u v:zA}{Q:wC}(hu:mA t 1 (jC n.limbs) u)(hv:mA t 1 (jC d.limbs) v)(hn:n.limbs.length<700000)(hd:d.limbs.length<700000)(hnl:wB 65536 n.limbs)(hdl:wB 65536 d.limbs)(hnv:tI n.neg n.limbs=true)(hdv:tI d.neg d.limbs=true)
  (hQ:∀t' g rv,yB t t'->mA t' 1 (jC g) rv->wB 65536 g->norm g->val 65536 g=Nat.gcd (val 65536 n.limbs) (val 65536 d.limbs)->Q (.tup [.agg [.bool false,rv],.int .i64 0]) t'):Wc yA F 258 [.agg [.bool n.neg,u],.agg [.bool d.neg,v]] t Q:=by
 have hBB:=yN;refine w258 ?_;simp only[uB,uG,mC,uZ,pP,nP,t258,lA];intro b hb hbase;obtain⟨t1,g1,g2,g3,g4⟩:=Pq (C:=yA) (T:=271) (el:=32) (sz:=2) (n:=2) (cl:=[[.bool n.neg,u],[.bool d.neg,v]]) (ps:=[(0,.agg [.bool n.neg,u]),(1,.agg [.bool d.neg,v])]) ty271 rfl ty32 rfl rfl (by decide) rfl (fun i cs hi=>by
  grind) rfl hb
 rw[g1,xA];have hw:mA t1 2 ([n,d].map nF.d) (.slice b 0 2 2):=⟨_,g2,by
  simp only[ycm,List.map_nil,jH,wI];refine⟨_,_,rfl,?_,_,_,rfl,?_,rfl⟩
  ·unfold nF.d;rw[qJ];refine⟨[[.bool n.neg],[u]],rfl,?_⟩;simp only[jH,wI,oQ,qM];exact⟨_,_,rfl,rfl,_,_,rfl,⟨u,rfl,hu.mono g3⟩,rfl⟩
  ·unfold nF.d;rw[qJ];refine⟨[[.bool d.neg],[v]],rfl,?_⟩;simp only[jH,wI,oQ,qM];exact⟨_,_,rfl,rfl,_,_,rfl,⟨v,rfl,hv.mono g3⟩,rfl⟩⟩
 have hall:=ZR hw (fun w hw=>by
  grind) (by simp)
 rw[q270,hall];simp only[xA,Dx,Xp,ycg,yck,hnv,hdv,Bool.and_self,Bool.true_eq_false,if_false];rw[q240];refine Xf (hu.mono g3) (by omega) hnl fun t2 v2 k1 k2=>?_;rw[yab hv.same,q240];refine Xf ((hv.mono g3).mono k1) (by omega) hdl fun t3 v3 m1 m2=>?_;have an:=Mb hnl;have ad:=Mb hdl;rw[<- hBB]at an ad;rw[q272];refine cd_ok (k2.mono m1) m2 an ad (Pk (Pl hnv)) (Pk (Pl hdv)) (by rw[vS];omega) (by rw[vS];omega) fun t4 r rv p1 p2 p3 p4 p5=>?_
 rw[hBB]at p3;have vn:∀l,val BB (qG l)=val 65536 l:=fun l=>by grind [Ss]
 rw[vn,vn]at p5;have hrl:r.length<400000:=by
  have hB1:1<BB:=by omega
  rcases yav (val 65536 n.limbs)with h0 | h0
  ·rw[h0,Nat.gcd_zero_left,<- vn]at p5;have:=eM hB1 ad p4 (Nat.le_of_eq p5)
   grind [vS]
  ·have h1:=Nat.gcd_le_left (val 65536 d.limbs) h0;rw[<- p5,<- vn]at h1;have:=eM hB1 an p4 h1
   grind [vS]
 rw[q271];refine QC p2 hrl p3 fun t5 v5 s1 s2=>?_;rw[Ci p4]at s2 ⊢;have eG:cN [(.bool false),.nilslice] (.agg [.bool (if r=[]then false else false),v5])=some (cellsOf [.bool (if r=[]then false else false),v5]):=Hq (by
  show(true&&(fU .nilslice v5&&true))=true;rw[Ra s2];rfl)
 rw[eG];have hone:nE zA.one [.bool false,v5]=true:=by
  show(bif zA.one (.bool false)then(bif zA.one v5 then true else false)else false)=true;rw[s2.one];rfl
 simp only[xA,cellsOf,xZ,gZ,yaz,yba,ite_self,hone,if_true];refine hQ t5 (eD (bH r)) v5 (g3.trans (k1.trans (m1.trans (p1.trans s1)))) s2 (bS (OE p3)) (yR _) ?_;rw[gQ,<- p5,BP,hBB]
end Go.Proofs
namespace Go.Am
def fC.fit(f:fC):Prop:=f.ok/\wB 65536 f.n.limbs/\wB 65536 f.d.limbs
def xE.fit(v:xE):Prop:=v.kind<256/\v.f.fit /\ -9223372036854775808<=v.i/\v.i<9223372036854775808
mutual
def qA.fit:qA->Prop
 | .mk op name v args=>op<256/\name.length<dD/\(∀c∈name,c<256)/\v.fit/\args.length<dD/\qA.fits args
def qA.fits:List qA->Prop
 | []=>True
 | x::l=>x.fit/\qA.fits l
end
def qA.fits_mem:∀ {l:List qA},qA.fits l->∀x∈l,x.fit
 | [],_,_,h=>by cases h
 | y::l,h,x,hx=>by
  unfold qA.fits at h;rcases ybs.1 hx with rfl | hx
  ·exact h.1
  ·exact qA.fits_mem h.2 x hx
mutual
def qA.fit_ok:∀ {x:qA},x.fit->x.ok
 | .mk op name v args,h=>by
  unfold qA.fit at h;unfold qA.ok;exact⟨h.2.1,h.2.2.2.1.2.1.1,h.2.2.2.2.1,qA.fits_oks h.2.2.2.2.2⟩
def qA.fits_oks:∀ {l:List qA},qA.fits l->qA.oks l
 | [],_=>by grind [qA.oks]
 | x::l,h=>by
  unfold qA.fits at h;unfold qA.oks;exact⟨qA.fit_ok h.1,qA.fits_oks h.2⟩
end
def i64 (n:Int):Prop := -9223372036854775808<=n/\n<9223372036854775808
def vD.fit(r:vD):Prop:=i64 r.a/\i64 r.b/\i64 r.known/\r.f.fit
def tD.fit(x:tD):Prop:=x.name.length<dD/\x.rows.length<dD/\∀r∈x.rows,r.fit
def cE.fit(x:cE):Prop:=x.name.length<dD/\x.kind<256
def gC.fit(x:gC):Prop:=x.name.length<dD/\x.label.length<dD/\i64 x.from_/\i64 x.to/\i64 x.known/\x.when_.fit/\x.then_.fit
structure wF.fit (p:wF):Prop where
 name:p.name.length<dD
 ndefs:p.defs.length<dD
 ntables:p.tables.length<dD
 nclauses:p.clauses.length<dD
 defs:∀d∈p.defs,d.fit
 tables:∀d∈p.tables,d.fit
 clauses:∀d∈p.clauses,d.fit
end Go.Am
namespace Go.Proofs
open Go Go.Am
variable [kC]
variable {t:Tr sA}
def sR(w:nF):Bool := !w.neg&&decide (w.limbs=[1])
def iH(f:fC):Bool:=decide (f.n.limbs.length<=256)&&decide (f.d.limbs.length<=256)&&tI f.n.neg f.n.limbs&&tI f.d.neg f.d.limbs && !f.d.neg&&decide (f.d.limbs≠[])&&(sR f.d||decide (Nat.gcd (val 65536 f.n.limbs) (val 65536 f.d.limbs)=1))
theorem Ao{a b:Int}:lB a b=decide (a<b):=by
 grind [uC]
theorem mY{a b:Int}:qC a b=decide (a<=b):=by
 grind [mD]
theorem rR{a b:Int}:zB a b=decide (a=b):=by
 grind [tE]
theorem QT{f:fC}{u v:zA}(hu:mA t 1 (jC f.n.limbs) u)(hv:mA t 1 (jC f.d.limbs) v)(hf:fC.fit f):vB yA F 210 [.agg [.bool f.n.neg,u,.bool f.d.neg,v]] t=some (.bool (iH f)):=by
 obtain⟨h1,h2,h3⟩:=hf;unfold fC.ok dD at h1;have c1:vB yA F 236 [.agg [.bool f.n.neg,u,.bool f.d.neg,v]] t=some (.bool (!(decide (f.n.limbs.length<=256)&&decide (f.d.limbs.length<=256)))):=by
  refine bB.2 (w236 ?_);simp only[uI,cD,t236,lA,hu.len,hv.len,xA,aB,fN];grind [uC]
 have c2:=Mr (neg:=f.n.neg) (by omega) hu;have c3:=Mr (neg:=f.d.neg) (by omega) hv;have c4:vB yA F 212 [.agg [.bool f.n.neg,u,.bool f.d.neg,v]] t=some (.bool (sR f.d)):=by
  refine bB.2 (w212 ?_);simp only[uB,t212,lA,q238,Yw hv,xA,Dx]; (first | exact⟨rfl,rfl⟩ | exact⟨rfl,trivial⟩ | trivial)
 refine rN (w210 ?_);simp only[uI,uB,uG,jA,cD,nP,t210,lA,q236,c1,q237,c2,c3,q212,c4,xA,Dx,hv.len,aB,fN,tE,Xp];unfold iH;by_cases g1:f.n.limbs.length<=256
 ·by_cases g2:f.d.limbs.length<=256
  ·simp only[g1,g2,decide_true,ycn,Bool.not_true,ybq,if_false]
   cases hn:tI f.n.neg f.n.limbs with
   | false=>simp
   | true=>
    cases hd:tI f.d.neg f.d.limbs with
    | false=>simp
    | true=>
     simp only[Bool.true_eq_false,if_false,ycn]
     cases hg:f.d.neg with
     | true=>simp
     | false=>
      simp only[ybq,if_false,ycl,ycn];by_cases h0:f.d.limbs=[]
      ·simp_all
      ·have:f.d.limbs.length≠0:=fun e=>h0 (ycc.1 e);rw[yaa (by omega)];simp only[h0,ne_eq,not_false_eq_true,decide_true,ycn]
       cases ho:sR f.d with
       | true=>simp
       | false=>
        simp only[ybq,if_false,Bool.false_or];rw[q239];refine w239 ?_;simp only[uI,uG,mC,uX,pP,nP,t239,lA,q258];have hn':=hn;have hd':=hd;rw[hg]at hd';refine gcd_ok (n:=f.n) (d:=⟨false,f.d.limbs⟩) hu hv (by omega) (by grind) h2 h3 hn' hd' fun t' g rv k1 k2 k3 k4 k5=>?_;have eG:cN [(.bool false),.nilslice] (.agg [.bool false,rv])=some (cellsOf [.bool false,rv]):=Hq (by
         show(true&&(fU .nilslice rv&&true))=true;rw[Ra k2];rfl)
        have hone:nE zA.one [.bool false,rv]=true:=by
         show(bif zA.one (.bool false)then(bif zA.one rv then true else false)else false)=true;rw[k2.one];rfl
        simp only[eJ,zA.asTup,pA,nG,yaz,yba,xA,aB,eG,cellsOf,xZ,gZ,hone,if_true];rw[q238,Yw k2];simp only[xA,Dx,ycl,ycn];refine⟨?_,k1⟩;congr 1;rw[decide_eq_decide,<- k5];constructor
        ·intro e;subst e;rfl
        ·intro e;exact zcm (B:=65536) (by decide) k3 (fun x hx=>by grind) k4 (fun _=>by simp) (by rw[e];rfl)
  grind
 grind
theorem BO{f:fC}{u v:zA}(hu:mA t 1 (jC f.n.limbs) u)(hv:mA t 1 (jC f.d.limbs) v)(hf:fC.fit f):vB yA F 157 [.agg [.bool f.n.neg,u,.bool f.d.neg,v]] t=some (.bool (iH f)):=by
 refine bB.2 (w157 ?_);simp only[uB,t157,lA,q210,QT hu hv hf,xA,Dx,if_true];simp_all
end Go.Proofs
namespace Go.Proofs
open Go Go.Am
variable [kC]
variable {t:Tr sA}
theorem pC{a b:List Nat}(h:a.length+b.length<4611686018427387904):xC a b=some (.str (a++b)):=by
 unfold xC;rw[jD,jD,lC.2 h,zH];rfl
theorem Ns{s:List Nat}{k:Nat}(h:k<=s.length):zE yA 9 H0A (.str s) (some (.int .i64 (k:Int))) none=some (.str (s.drop k)):=by
 unfold zE bL;rw[gH,pA];simp only[zA.asStr];rw[show lD.isString .string=true from rfl,sE];unfold Nt xP Be mW;grind [yL,pA,zA.asNat,zA.asInt,jD,rF,sE,sS,zU,List.take_length]
theorem Vl{s:List Nat}{k:Nat}(h:k<=s.length):zE yA 9 H0A (.str s) none (some (.int .i64 (k:Int)))=some (.str (s.take k)):=by
 unfold zE bL;rw[gH,pA];simp only[zA.asStr];rw[show lD.isString .string=true from rfl,sE];unfold Nt xP Be mW;have e:yL (k:Int)=some k:=rfl;simp only[pA,zA.asNat,zA.asInt,e,jD,rF.2 h,rF.2 (yaw _),sE,sS,zU,ycr]
def tK (a b:List Nat):Bool:=decide (b.length<=a.length)&&zD (a.take b.length) b
theorem KP{a b:List Nat}:vB yA F 244 [.str a,.str b] t=some (.bool (tK a b)):=by
 refine bB.2 (w244 ?_);simp only[uS,jA,uZ,t244,lA,vJ,mD];grind [tK,Vl,xA,zA.asStr]
theorem QP{a b:List Nat}:vB yA F 159 [.str a,.str b] t=some (.str (if tK a b then a.drop b.length else a)):=by
 have h:vB yA F 213 [.str a,.str b] t=some (.str (if tK a b then a.drop b.length else a)):=by
  refine bB.2 (w213 ?_);simp only[uB,uS,uZ,t213,lA,q244,KP,xA,zA.asBool,vJ];grind [tK,Ns,xA,zA.asStr]
 refine bB.2 (w159 ?_);simp only[uS,t159,lA,q213,h,xA,zA.asStr];simp_all
theorem YK{a b:List Nat}:vB yA F 214 [.str a,.str b] t=some (.tup [.str (if tK a b then a.drop b.length else a),.bool (tK a b)]):=by
 have h:vB yA F 245 [.str a,.str b] t=some (.tup [.str (if tK a b then a.drop b.length else a),.bool (tK a b)]):=by
  refine bB.2 (w245 ?_);simp only[uB,uS,uZ,t245,lA,q244,KP,xA,zA.asBool,vJ];grind [tK,Ns,xA,zA.asStr]
 refine bB.2 (w214 ?_);have x0:∀u v,eJ 0 (.tup [u,v])=some u:=fun _ _=>rfl;have x1:∀u v,eJ 1 (.tup [u,v])=some v:=fun _ _=>rfl;simp only[uB,uS,uX,t214,lA,q245,h,xA,x0,x1,zA.asStr,zA.asBool];simp_all
def lF(s:List Nat):List Nat:=if tK s [45]then [109,105,110,117,115,32]++s.drop 1 else s
theorem DT{s:List Nat}(h:s.length<4000000000000000000):vB yA F 161 [.str s] t=some (.str (lF s)):=by
 refine bB.2 (w161 ?_);have x0:∀u v,eJ 0 (.tup [u,v])=some u:=fun _ _=>rfl;have x1:∀u v,eJ 1 (.tup [u,v])=some v:=fun _ _=>rfl;simp only[uB,uS,uX,t161,lA,q214,YK,xA,x0,x1,zA.asStr,zA.asBool];grind [lF,pC,xA]
def zi4{n:Int}(h0 : -9223372036854775808<=n)(h1:n<9223372036854775808):vB yA F 164 [.int .i64 n] t=some (.str (mH n)):=by
 have hg:yA.prims.get 164=some (qN Ga):=by kernel_rfl
 refine Oj hg fun H=>?_;unfold Ga;simp only[];rw[mD.2 h0,uC.2 h1];rfl
theorem Kz{n:Int}(h0 : -9223372036854775808<=n)(h1:n<9223372036854775808):(mH n).length<=21:=by
 by_cases h:n<0
 ·obtain⟨u,rfl⟩:∃u:Nat,n = -(u:Int):=⟨n.natAbs,by omega⟩;rw[Yt (by omega)];have:=Dk (u:=u) (k:=20) (by decide) (by omega)
  grind
 ·obtain⟨u,rfl⟩:∃u:Nat,n=(u:Int):=⟨n.toNat,by omega⟩;rw[Qg];have:=Dk (u:=u) (k:=20) (by decide) (by omega);omega
theorem Ql{n:Int}(h0 : -9223372036854775808<=n)(h1:n<9223372036854775808):vB yA F 95 [.int .i64 n] t=some (.str (lF (mH n))):=by
 have:=Kz h0 h1;refine bB.2 (w95 ?_);simp only[uS,uZ,t95,lA,q164,zi4 h0 h1,xA,zA.asStr,q161,DT (s:=mH n) (by omega)]
 simp_all
def mE(f:fC):List Nat:=vN f.n.neg f.n.limbs++(if sR f.d then []else 47::vN f.d.neg f.d.limbs)
def YG{u:Nat}:∀ {k:Nat},u<10^k->(eE u).length<=k+1:=by
 intro k h;have:=Dk (u:=u) (k:=k+1) (by omega) (by omega);exact this
theorem Bz{neg:Bool}{l:List Nat}(hlt:wB 65536 l)(hl:l.length<=1024):(vN neg l).length<=10000:=by
 unfold vN lU;have h1:=lK (B:=65536) (by decide) hlt;have h2:(65536:Nat)^l.length<=10^(5*l.length):=by
  simp_all [Nat.pow_mul,Nat.pow_le_pow_left]
 have:=YG (u:=val 65536 l) (k:=5*l.length) (by omega)
 grind
theorem Ms{f:fC}(h:iH f=true):tI f.n.neg f.n.limbs=true/\tI f.d.neg f.d.limbs=true/\f.n.limbs.length<=1024/\f.d.limbs.length<=1024:=by
 grind [iH]
theorem Qu{f:fC}(hf:f.fit)(h:iH f=true):(mE f).length<=20001:=by
 obtain⟨_,_,h3,h4⟩:=Ms h;have a:=Bz (neg:=f.n.neg) hf.2.1 h3;have b:=Bz (neg:=f.d.neg) hf.2.2 h4
 grind [mE]
theorem KW{f:fC}{u v:zA}(hu:mA t 1 (jC f.n.limbs) u)(hv:mA t 1 (jC f.d.limbs) v)(hf:fC.fit f):vB yA F 158 [.agg [.bool f.n.neg,u,.bool f.d.neg,v]] t=some (if iH f then .tup [.str (mE f),.int .i64 0]else .tup [.str [],.int .i64 2]):=by
 refine bB.2 (w158 ?_);have x0:∀u v,eJ 0 (.tup [u,v])=some u:=fun _ _=>rfl;have x1:∀u v,eJ 1 (.tup [u,v])=some v:=fun _ _=>rfl;simp only[uI,uB,uS,uX,uZ,t158,lA,q157,BO hu hv hf,xA,zA.asBool]
 cases hval:iH f with
 | false=>simp
 | true=>
  obtain⟨h1,h2,h3,h4⟩:=Ms hval;have a:=Bz (neg:=f.n.neg) hf.2.1 h3;have b:=Bz (neg:=f.d.neg) hf.2.2 h4;have c1:vB yA F 212 [.agg [.bool f.n.neg,u,.bool f.d.neg,v]] t=some (.bool (sR f.d)):=by
   refine bB.2 (w212 ?_);simp only[uB,t212,lA,q238,Yw hv,xA,zA.asBool];first | exact⟨rfl,rfl⟩ | exact⟨trivial,trivial⟩ | exact⟨rfl,trivial⟩
  simp only[Bool.not_true,ybq,if_false,q211,CJ hu hf.2.1 h1,xA,x0,x1,zA.asStr,aB,if_true,q212,c1,zA.asBool];unfold mE
  cases hone:sR f.d with
  | true=>simp
  | false=>
   simp only[ycl,if_true,CJ hv hf.2.2 h2,xA,x0,x1,zA.asStr,aB];grind [pC,xA]
theorem Zi{f:fC}{u v:zA}(hu:mA t 1 (jC f.n.limbs) u)(hv:mA t 1 (jC f.d.limbs) v)(hf:fC.fit f)(hval:iH f=true):vB yA F 93 [.agg [.bool f.n.neg,u,.bool f.d.neg,v]] t=some (.str (lF (mE f))):=by
 have:=Qu hf hval;refine bB.2 (w93 ?_);have x0:∀u v,eJ 0 (.tup [u,v])=some u:=fun _ _=>rfl;have x1:∀u v,eJ 1 (.tup [u,v])=some v:=fun _ _=>rfl;simp only[uI,uS,uX,t93,lA,q158,KW hu hv hf,hval,if_true,xA,x0,x1,zA.asStr,aB,q161,DT (s:=mE f) (by omega)]
 simp_all
def gM(f:fC):Bool:=decide (f.n.limbs.length<=42)&&decide (f.d.limbs.length<=42)&&iH f&&decide ((if tK (mE f) [45]then(mE f).drop 1 else mE f).length<=200)
theorem FU{f:fC}{u v:zA}(hu:mA t 1 (jC f.n.limbs) u)(hv:mA t 1 (jC f.d.limbs) v)(hf:fC.fit f):vB yA F 89 [.agg [.bool f.n.neg,u,.bool f.d.neg,v]] t=some (.bool (gM f)):=by
 refine bB.2 (w89 ?_);have x0:∀u v,eJ 0 (.tup [u,v])=some u:=fun _ _=>rfl;have x1:∀u v,eJ 1 (.tup [u,v])=some v:=fun _ _=>rfl;simp only[uI,uB,uS,jA,uX,t89,lA,hu.len,hv.len,fN,xA,aB,uC];unfold gM;by_cases h1:f.n.limbs.length<=42
 ·rw[yaa (by omega)];by_cases h2:f.d.limbs.length<=42
  ·rw[yaa (by omega)];simp only[q157,BO hu hv hf,xA,zA.asBool]
   cases hval:iH f with
   | false=>simp
   | true=>
    simp only[Bool.not_true,ybq,if_false,q158,KW hu hv hf,hval,if_true,xA,x0,x1,zA.asStr,aB,tE,q159,QP,vJ];simp[h1,h2,mY];constructor<;>intro h<;>omega
  grind
 grind
def rP(f:fC):Bool := !f.n.neg && !f.d.neg&&decide (f.n.limbs.length+f.d.limbs.length=0)
theorem BA{f:fC}{u v:zA}(hu:mA t 1 (jC f.n.limbs) u)(hv:mA t 1 (jC f.d.limbs) v)(hf:f.ok):vB yA F 90 [.agg [.bool f.n.neg,u,.bool f.d.neg,v]] t=some (.bool (rP f)):=by
 unfold fC.ok dD at hf;refine bB.2 (w90 ?_);simp only[uI,jA,uW,t90,lA,hu.len,hv.len,fN,xA,aB];unfold rP;rw[wrap_i64 (by omega) (by omega),rR];have e:decide ((f.n.limbs.length:Int)+(f.d.limbs.length:Int)=0)=decide (f.n.limbs.length+f.d.limbs.length=0):=by
  grind
 rw[e];cases f.n.neg<;>cases f.d.neg<;>simp
theorem KC{n:Int}:vB yA F 91 [.int .i64 n] t=some (.bool (decide (0<=n)&&decide (n<65536))):=by
 refine bB.2 (w91 ?_);simp only[jA,t91,lA,mD];grind [Ao]
def wH(v:xE):Bool:=
 if v.kind=2\/v.kind=3 then decide (v.i=0)&&gM v.f
 else if v.kind=1 then rP v.f&&(decide (v.i=0)||decide (v.i=1))
 else if v.kind=4 then rP v.f&&(decide (0<=v.i)&&decide (v.i<65536))
 else if v.kind=5\/v.kind=6 then rP v.f&&(decide (-1048576<=v.i)&&decide (v.i<=1048576))
 else false
theorem UA{a:xE}{u v:zA}(hu:mA t 1 (jC a.f.n.limbs) u)(hv:mA t 1 (jC a.f.d.limbs) v)(hf:fC.fit a.f):vB yA F 39 [.agg [.int .u8 a.kind,.bool a.f.n.neg,u,.bool a.f.d.neg,v,.int .i64 a.i]] t=some (.bool (wH a)):=by
 refine bB.2 (w39 ?_);simp only[Eu,uQ4,uB,jA,cD,uZ,t39,lA,q89,FU hu hv hf,q90,BA hu hv hf.1,q91,KC,xA,zA.asBool];unfold wH;have kk:∀j:Int,zB (a.kind:Int) j=decide ((a.kind:Int)=j):=fun j=>rR;simp only[kk];by_cases k2:a.kind=2
 ·have e:(a.kind:Int)=2:=by omega
  by_cases h0:a.i=0<;>simp[e,k2,h0,rR]
 by_cases k3:a.kind=3
 all_goals grind [rR,mY]
end Go.Proofs
namespace Go.Am
open Go Go.RowKit
section
variable {t tf tf0:Tr sA}{C:fA}
mutual
theorem RD.ones:∀(d:D) (cs:List zA),RD t d cs->∀a∈cs,zA.one a=true
 | .int _ _,cs,h,a,ha=>by rw[RD]at h;subst h;simp at ha;subst ha;rfl
 | .bool _,cs,h,a,ha=>by rw[RD]at h;subst h;simp at ha;subst ha;rfl
 | .str _,cs,h,a,ha=>by rw[RD]at h;subst h;simp at ha;subst ha;rfl
 | .sl sz l,cs,h,a,ha=>by
  rw[qM]at h;obtain⟨v,rfl,h⟩:=h;simp at ha;subst ha;exact h.one
 | .st l,cs,h,a,ha=>by
  rw[qJ]at h;obtain⟨cl,rfl,h⟩:=h;exact iC.ones l cl h a ha
theorem iC.ones:∀(l:List D) (cl:List (List zA)),iC t l cl->∀a∈cl.flatten,zA.one a=true
 | [],cl,h,a,ha=>by grind [iC]
 | d::l,cl,h,a,ha=>by
  rw[iC]at h;obtain⟨c,r,rfl,h1,h2⟩:=h;rw[yas,yaf]at ha;rcases ha with ha | ha
  ·exact RD.ones d c h1 a ha
  ·exact iC.ones l r h2 a ha
end
theorem RD.all{d:D}{cs:List zA}(h:RD t d cs):nE zA.one cs=true:=by
 grind [iI,RD.ones]
theorem RD.mk{d:D}{cs zs:List zA}(h:RD t d cs)(hz:d.zs=zs):wJ zs (cellsOf cs) 0=cs:=by
 have:=Lm zs cs [] (by grind [Qz])
 simp_all
theorem lit1{S el sz b:Nat}{cs:List zA}(hT:gL C S el sz)(hc:cs.length=sz)(hs:sz<1000000)(hb:t.get b=none) :
  ∃t',jE C S 1 [(0,.agg cs)] ⟨b,t⟩=some (.slice b 0 1 1,⟨b+1,t'⟩)/\tJ t' sz (.slice b 0 1 1) [cs]/\yB t t'/\rE b t t':=by
 obtain⟨⟨y,hy1,hy2,_⟩,⟨z,hz1,hz2,hz3,_,_⟩⟩:=hT;refine Pq (n:=1) (cl:=[cs]) hy1 hy2 hz1 hz2 hz3 (by omega) ?_ (fun i q hq=>?_) rfl hb
 ·have e:oJ z.zero 1=z.zero:=by show iD z.zero []=z.zero;rw[zH,ycd]
  rw[e];unfold iN Aw;have e1:(zA.agg cs).cells=cs:=rfl
  grind [jD,pA,sS,zU,zH,bC,rF,sE,iN]
 grind
end
end Go.Am
namespace Go.Am
open Go Go.RowKit
section
variable {C:fA}{t:Tr sA}
def Gj(C:fA)(T:Nat)(k:zA):Bool:=
 match ob (C.tys.get T) fun ty=>ob ty.desc.asMap fun ke=>ob (C.tys.get ke.1) fun kty=>mB (nS C kty&&wQ C kty k) (some ())with | some _=>true | none=>false
theorem JK{T:Nat}{k:zA}(h:Gj C T k=true):∃ty ke kty,C.tys.get T=some ty/\ty.desc.asMap=some ke/\C.tys.get ke.1=some kty/\nS C kty=true/\wQ C kty k=true:=by
 grind [Gj,rA,fB]
theorem zg0{T b n:Nat}{k v:zA}{l l':List (zA × zA)}(hk:Gj C T k=true)(hb:C.base<=b)(hm:t.get b=some (.map l))(hs:wM k v l=some l') :
  fQ C T (.map b) k v ⟨n,t⟩=some (vE,⟨n,t.set b (.map l')⟩):=by
 obtain⟨ty,ke,kty,h1,h2,h3,h4,h5⟩:=JK hk;have e2:(!Nat.blt b C.base)=true:=by
  grind [lC]
 have e3:yK ⟨n,t⟩ b=some l:=by unfold yK;rw[hm];rfl
 unfold fQ;rw[h1,pA,h2,pA,h3,pA,h4,sE];simp only[zA.asMap,pA];rw[e2,sE,e3,pA,h5,sE,hs];rfl
theorem zcq{T b n:Nat}{k v:zA}{l:List (zA × zA)}(hk:Gj C T k=true)(hm:t.get b=some (.map l))(hs:zK k l=some (some v)){ty:eC}(hT:C.tys.get T=some ty){ke:Nat × Nat}(hd:ty.desc.asMap=some ke){ety:eC}(he:C.tys.get ke.2=some ety)(ok:Bool) :
  uV C T ⟨n,t⟩ (.map b) k ok=some (bif ok then .tup [v,.bool true]else v):=by
 obtain⟨ty,ke,kty,h1,h2,h3,h4,h5⟩:=JK hk;rw[hT]at h1;cases h1;rw[hd]at h2;cases h2;have e3:yK ⟨n,t⟩ b=some l:=by unfold yK;rw[hm];rfl
 unfold uV;rw[hT,pA,hd,pA,h3,pA,h4,sE,he,pA];have e4:bT ⟨n,t⟩ (.map b)=some l:=by grind [bT,zA.asMap]
 rw[e4,pA,h5,sE,hs,pA]
mutual
theorem RD.sames1:∀(d:D) (cs:List zA),RD t d cs->∀a∈cs,∀k,Am.same k a a=true
 | .int _ _,cs,h,a,ha,k=>by grind [RD,lT]
 | .bool _,cs,h,a,ha,k=>by grind [RD,Vx]
 | .str _,cs,h,a,ha,k=>by grind [RD,nO]
 | .sl sz l,cs,h,a,ha,k=>by
  rw[qM]at h;obtain⟨v,rfl,h⟩:=h;simp at ha;subst ha;exact h.same
 | .st l,cs,h,a,ha,k=>by
  rw[qJ]at h;obtain⟨cl,rfl,h⟩:=h;exact iC.sames1 l cl h a ha k
theorem iC.sames1:∀(l:List D) (cl:List (List zA)),iC t l cl->∀a∈cl.flatten,∀k,Am.same k a a=true
 | [],cl,h,a,ha,k=>by grind [iC]
 | d::l,cl,h,a,ha,k=>by
  rw[iC]at h;obtain⟨c,r,rfl,h1,h2⟩:=h;rw[yas,yaf]at ha;rcases ha with ha | ha
  ·exact RD.sames1 d c h1 a ha k
  ·exact iC.sames1 l r h2 a ha k
end
def EE:∀ {l:List zA} {k:Nat},(∀a∈l,∀k,Am.same k a a=true)->Am.same.sames k l l=true
 | [],_,_=>rfl
 | a::l,k,h=>by
  rw[Am.same.sames,h a (.head _) k,EE fun b hb=>h b (.tail _ hb)];rfl
def RD.sameA{d:D}{cs:List zA}(h:RD t d cs){k:Nat}:Am.same (k+1) (.agg cs) (.agg cs)=true:=EE (RD.sames1 d cs h)
theorem wD.up{t':Tr sA}{b:Nat}{lo:Option Lo}{cs:List zA}(h:wD t b lo cs)(k:yB t t'):wD t' b lo cs:=by
 obtain⟨c,h1,h2⟩:=h;exact⟨c,k _ _ h1,h2⟩
def wD.setOff{b n:Nat}{lo:Option Lo}{cs:List zA}(h:wD t b lo cs)(hn:b≠n)(y:sA):wD (t.set n y) b lo cs:=wD.off h (by rw[Tr.get_set,yaa hn])
end
end Go.Am
