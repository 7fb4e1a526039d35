/- Ranges over whole.downwards; whole.long. -/
import Derived.Test.YtefajchlhjcgpaaGreatDoorA19
set_option linter.all false
noncomputable section
set_option maxRecDepth 100000
namespace Go.Proofs
open Go Go.Am
variable {bx n x:Nat}{v:zA}{l:List Nat}
variable [nC]
variable {t tf:Tr tA}
theorem GV {y:tA}(hn:t.get n=none)(h:zB tf t):zB (tf.set n y) (t.set n y):=by
 intro c u hc;rw[Tr.get_set]at hc ⊢
 split at hc
 ·simp_all
 ·rename_i e;rw[yaa e];exact h _ _ hc
theorem Kf(h:zB tf t) (hn:t.get n=none):tf.get n=none:=by
 cases hx:tf.get n with
 | none=>rfl
 | some y=>rw[h _ _ hx]at hn;cases hn
structure Vz (S:Tr tA->Tr tA->Prop):Prop where
 le:∀ {tf t:Tr tA},S tf t->zB tf t
 both:∀ {tf t:Tr tA} {n:Nat},S tf t->t.get n=none->∀y,S (tf.set n y) (t.set n y)
 out:∀ {tf t:Tr tA} {n:Nat} {y:tA},tf.get n=none->S (tf.set n y) t->S tf (t.del n)
theorem HY{f i:Nat}{v8 v4:zA}{K R:T}{ps:List Nat}{Q:mB}{S:Nat->Tr tA->Tr tA->Prop}(hS:∀k,Vz (S k))(hp:aA tf 1 (bB .u32 ps) v4)(hl:ps.length<30000)(h:S ps.length tf t)
  (body:∀(k x:Nat) (tf t:Tr tA) (Q1:mB),ps[k]?=some x->S (k+1) tf t->(∀t',S k tf t'->Q1 (.bool true) t')->Jq yA F f i [v8,.int .u32 (x:Int)] t Q1)
  (jH:∀tf' t',zB tf tf'->S 0 tf' t'->oA yA.base (Wq yA F jC) (Jq yA F f) K t' Q) :
  oA yA.base (Wq yA F jC) (Jq yA F f) (.call 237 [v4] fun a0=>.range (bQ yA) a0 i 1 [v8] K R) t Q:=by
 simp only[oA];rw[q237];refine w237 ?_
 simp only[t237,oA];intro bb hbb hbase;have hc4:v4.cells=[v4]:=by
  obtain⟨cl,h1,_⟩:=hp
  rcases h1 with⟨rfl,_⟩ | ⟨_,_,_,rfl,_⟩<;>rfl
 have hone:jL v4 ⟨bb,t⟩=some (.ptr bb 0,⟨bb+1,t.set bb (.cells (Tr.ofList [v4]) 1 none)⟩):=by
  unfold jL;rw[hc4];rfl
 rw[hone,uA];simp only[];have h1:=(hS _).both h hbb (.cells (Tr.ofList [v4]) 1 none)
 have hfb:=Kf ((hS _).le h) hbb
 have htf1:zB tf (tf.set bb (.cells (Tr.ofList [v4]) 1 none)):=(rP hfb _).1
 generalize htf:tf.set bb (.cells (Tr.ofList [v4]) 1 none)=tf1 at h1 htf1
 have hg1:tf1.get bb=some (.cells (Tr.ofList [v4]) 1 none):=by rw[<- htf,Tr.get_set,yab rfl]
 generalize t.set bb (.cells (Tr.ofList [v4]) 1 none)=t1 at h1
 refine⟨Nat.le_add_right _ _,fun l r hl0 hlb hr1 hr2 hy=>?_⟩
 have hra:Eb (bQ yA) (.func (.func 269) [] [.ptr bb 0]) l=some (269,[.func (.yld l) [] [],.ptr bb 0]):=by
  unfold Eb;simp only[zA.asFunc,pA];have:bQ yA 269=true:=by kernel_rfl
  rw[this];rfl
 rw[hra,uA];have h2:=(hS _).both h1 hl0 (.loop r)
 have hfl:=Kf ((hS _).le h1) hl0
 have hlr:kP true r=r:=by
  obtain⟨a,b,c,d,e,f,g,h,i⟩:=r
  have hr1:a=.ready:=hr1
  have hr2:b=none:=hr2
  subst hr1;subst hr2;rfl
 have hle2:zB tf1 (tf1.set l (.loop r)):=(rP hfl _).1
 rw[show Wq yA F jC 269=Wc yA F 269 by funext a m R;rw[q269]]
 refine zqc (l:=ps) (v:=v4) (I:=fun k t'=>S k (tf1.set l (.loop r)) t') (by omega) ?_ ?_ ?_ h2
 ·intro k t' hI
  have hle:=(hS _).le hI
  have hg:t'.get bb=some (.cells (Tr.ofList [v4]) 1 none):=hle _ _ (hle2 _ _ hg1)
  refine⟨?_,hp.mono (htf1.trans (hle2.trans hle))⟩
  exact(lC.load1 (cs:=[v4]) (lo:=none) ⟨Tr.ofList [v4],hg,fun j a hj=>by grind [Tr.get_ofList]⟩ fL rfl (j:=0) rfl)
 ·intro k x t' hx hI R hR
  show oD (some (yo+l,[zA.int .u32 (x:Int)])) _
  rw[uA];refine hy [.int .u32 (x:Int)] t' R rfl ((hS _).le hI _ _ (by rw[Tr.get_set,yab rfl])) ?_
  refine body k x tf1 _ _ hx ((hS _).out hfl hI) fun t2 h3 hn2=>⟨true,rfl,?_⟩
  rw[hlr];exact hR _ ((hS _).both h3 hn2 (.loop r))
 ·intro t' hI
  exact .inl ⟨(hS _).le hI _ _ (by rw[Tr.get_set,yab rfl]),jH tf1 _ htf1 ((hS _).out hfl hI)⟩
def cW (bx:Nat)(v:zA)(tf t:Tr tA):Prop:=yA.base<=bx/\tf.get bx=none/\zB tf t/\lC t bx none [v]
theorem cW.framed   : Vz (cW bx v) where
 le:=fun h=>h.2.2.1
 both:=fun {tf t n} h hn y=>by
  obtain⟨h1,h2,h3,h4⟩:=h
  have hbx:bx≠n:=by intro e;obtain⟨c,h,_⟩:=h4;simp_all
  exact⟨h1,by grind [Tr.get_set],GV hn h3,h4.off (by rw[Tr.get_set,yaa hbx])⟩
 out:=fun {tf t n y} hn h=>by
  obtain⟨h1,h2,h3,h4⟩:=h
  have hbx:bx≠n:=by grind [Tr.get_set]
  have hle:zB tf (tf.set n y):=(rP hn y).1
  rw[Tr.get_set,yaa hbx]at h2;refine⟨h1,h2,fun c u hc=>?_,h4.off (by rw[Tr.get_del,yaa hbx])⟩
  have:c≠n:=fun e=>by simp_all
  rw[Tr.get_del,yaa this];exact h3 _ _ (hle _ _ hc)
theorem zcy{y:Nat}{Q1:mB}(h:cW bx (.int .u64 (y:Int)) tf t)(hy:y<4294967296)(hx:x<4294967296)(hQ:∀t',cW bx (.int .u64 ((y*4294967296+x:Nat):Int)) tf t'->Q1 (.bool true) t'):jp 303 2 [.ptr bx 0,.int .u32 (x:Int)] t Q1:=by
 obtain⟨i1,i2,i3,i4⟩:=h
 have e5:(y:Int)*4294967296=((y*4294967296:Nat):Int):=by omega
 have e6:jI Nat.lor .u64 (fA .u64 ((y:Int)*4294967296)) (fA .u64 (x:Int))=some (.int .u64 ((y*4294967296+x:Nat):Int)):=by
  rw[e5,fF (by omega) (by omega),fF (by omega) (by omega),or32 hy hx]
 generalize y*4294967296+x=z at e6 hQ
 refine j303_2 ?_
 simp only[uE,zkr,oA];rw[i4.load1 gQ rfl (j:=0) rfl,uA,aB,uA,e6,uA,aB,uA]
 intro b3 _ _;obtain⟨t3,k1,k2,k3⟩:=i4.store1 (v:=.int .u64 (z:Int)) i1 gQ rfl rfl rfl (j:=0) (by simp)
 rw[k1,uA];exact hQ _ ⟨i1,i2,i3.off i2 k3,k2⟩
theorem WC {k:Nat}(hl:l.length<=2)(hlt:oB 4294967296 l)(hx:l[k]?=some x):x<4294967296/\val 4294967296 (l.drop (k+1))<4294967296/\val 4294967296 (l.drop k)=val 4294967296 (l.drop (k+1))*4294967296+x:=by
 have hk:k<l.length:=(ybc.1 hx).1
 have hdrop:l.drop k=x::l.drop (k+1):=by
  grind [List.drop_eq_getElem_cons]
 refine⟨hlt x (ycv hx),?_,?_⟩
 ·have h1:=DW hlt (k+1)
  have h2:(l.drop (k+1)).length<=1:=by grind
  generalize l.drop (k+1)=m at h1 h2 ⊢
  match m,h1,h2 with
  | [],_,_=>exact Nat.zero_lt_succ _
  | [a],h1,_=>rw[val,val,yat,yct];exact h1 a (.head _)
 grind [val]
theorem zo1  (hv:aA t 1 (bB .u32 l) v)(hl:l.length<=2)(hlt:oB 4294967296 l):kB yA F 303 [v] t=some (.int .u64 ((val 4294967296 l:Nat):Int)):=by
 refine iV (w303 ?_)
 have hlen0:l.length<30000:=by omega
 have hst:∀k x,l[k]?=some x->_:=fun k x=>WC (k:=k) (x:=x) hl hlt
 have h0:val 4294967296 (l.drop l.length)=0:=by rw[List.drop_length,val]
 generalize hg:(fun k=>val 4294967296 (l.drop k))=g
 have hst':∀k x,l[k]?=some x->x<4294967296/\g (k+1)<4294967296/\g k=g (k+1)*4294967296+x:=fun k x hx=>by grind
 have h0':g l.length=0:=by grind
 have hend:val 4294967296 l=g 0:=by grind
 rw[hend];clear hg hst h0 hend
 unfold t303 uE;show ∀b,t.get b=none->yA.base<=b->oD (iL yA 270 ⟨b,t⟩) _
 intro bx hbx hbase;obtain⟨t1,e1,e2,e3,e4⟩:=xS (C:=yA) gQ hbx
 rw[e1,uA];show ∀b,t1.get b=none->yA.base<=b->oD (mC yA 270 (.ptr bx 0) (.int .u64 0) ⟨b,t1⟩) _
 intro b2 _ _;obtain⟨t2,g1,g2,g3⟩:=e2.store1 (v:=.int .u64 0) hbase gQ rfl rfl rfl (j:=0) (by simp)
 rw[g1,uA];have hS0:cW bx (.int .u64 ((g l.length:Nat):Int)) t t2:=by
  rw[h0'];exact⟨hbase,hbx,(zB.refl t).off hbx e4 |>.off hbx g3,g2⟩
 refine HY (S:=fun k tf t=>cW bx (.int .u64 ((g k:Nat):Int)) tf t) (fun k=>cW.framed) hv hlen0 hS0 ?_ ?_
 ·grind [zcy]
 ·intro tf' t' hle hI
  obtain⟨i1,i2,i3,i4⟩:=hI
  simp only[oA];rw[i4.load1 gQ rfl (j:=0) rfl,uA]
  simp only[aB,uA];exact⟨trivial,hle.trans i3⟩
end Go.Proofs
namespace Go.Am
open Go
variable {k u:Nat}
def kF (u:Nat):List Nat:=(Lib.decDigits u).map UInt8.toNat
theorem Qb (h:u<10):kF u=[48+u]:=by
 grind [kF,Lib.decDigits_one,UInt8.toNat_ofNat']
theorem Qe (h:¬ u<10):kF u=kF (u / 10)++[48+u%10]:=by
 grind [kF,Lib.decDigits,UInt8.toNat_ofNat']
def Tt(u:Nat):xM (u:Int)=kF u:=by
 grind [xM,Lib.itoa,kF]
theorem BR (h:0<u):xM (-(u:Int))=45::kF u:=by
 grind [xM,Lib.itoa,kF]
def zjg(u:Nat):(kF u).length=Lib.nDigits u:=by unfold kF;rw[ybf,Lib.decDigits_length]
theorem Uu(u:Nat):0<(kF u).length:=by rw[zjg];exact Lib.nDigits_pos u
def Ut(u:Nat):∀x∈kF u,48<=x/\x<58:=by
 induction u using Nat.strongRecOn with
 | _ u ih=>
  grind [Qb,Qe]
def Qc (hk:0<k)(h:u<10^k):(kF u).length<=k:=by
 induction k generalizing u with
 | zero=>omega
 | succ k ih=>
  grind [Qb,Qe]
def bS:Nat->Nat->List Nat
 | 0,_=>[]
 | k+1,r=>bS k (r / 10)++[48+r%10]
theorem Zx:∀(k r:Nat),(bS k r).length=k
 | 0,_=>rfl
 | k+1,r=>by rw[bS,ybg,Zx k];rfl
theorem IY:∀k,bS k 0=List.replicate k 48
 | 0=>rfl
 | k+1=>by rw[bS,IY k,List.replicate_succ']
theorem zok{r:Nat}(hk:0<k)(h:r<10^k):bS k r=List.replicate (k-(kF r).length) 48++kF r:=by
 induction k generalizing r with
 | zero=>omega
 | succ k ih=>
  rw[bS];by_cases h10:r<10
  ·grind [Qb,IY]
  ·have h1:r / 10<10^k:=by omega
   have hk0:0<k:=by
    grind
   simp_all [Qe]
def zjf{q:Nat}(hq:0<q):∀ {k r:Nat},r<10^k->kF (q*10^k+r)=kF q++bS k r:=by
 intro k;induction k with
 | zero=>grind [bS]
 | succ k ih=>
  intro r h;have hp:0<10^k:=Nat.pow_pos (by decide)
  have hb:¬ q*10^(k+1)+r<10:=by
   have:10^(k+1)=10^k*10:=yag ..
   have h2:10<=q*10^(k+1):=by
    rw[this];calc 10=1*(1*10):=by omega
     _<=q*(10^k*10):=ydb hq (ydb hp (ybk _))
   omega
  have e1:(q*10^(k+1)+r) / 10=q*10^k+r / 10:=by
   rw[yag,<- ybj,yap,Nat.add_mul_div_right _ _ (by decide),yap]
  have e2:(q*10^(k+1)+r)%10=r%10:=by
   rw[yag,<- ybj,yap,Nat.add_mul_mod_self_right]
  rw[Qe hb,e1,e2,ih (by omega),bS,ybz]
def IZ:∀(k r:Nat),∀x∈bS k r,48<=x/\x<58
 | 0,_,x,hx=>by cases hx
 | k+1,r,x,hx=>by
  rw[bS]at hx;rcases yaf.1 hx with hx | hx
  ·exact IZ k _ x hx
  grind
def xL:List Nat->List Nat
 | []=>[]
 | [p]=>kF p
 | p::q::l=>xL (q::l)++bS 9 p
def FK:∀ {l:List Nat},l≠[]->(∀x∈l,x<1000000000)->l.getLast?≠some 0->xL l=kF (val 1000000000 l)/\0<val 1000000000 l
 | [],h,_,_=>absurd rfl h
 | [p],_,_,h=>by
  grind [xL,val]
 | p::q::l,_,h1,h2=>by
  obtain⟨g1,g2⟩:=FK (l:=q::l) (by simp) (fun x hx=>h1 x (.tail _ hx)) (by simp_all)
  have hp:=h1 p (.head _)
  have e:val 1000000000 (p::q::l)=val 1000000000 (q::l)*10^9+p:=by
   rw[val];omega
  rw[e,zjf g2 (by omega),xL,g1]
  grind
def Wx:∀(l:List Nat),∀x∈xL l,48<=x/\x<58
 | [],x,hx=>by cases hx
 | [p],x,hx=>Ut p x hx
 | p::q::l,x,hx=>by
  rw[xL]at hx;rcases yaf.1 hx with hx | hx
  ·exact Wx _ x hx
  ·exact IZ _ _ x hx
def Hl (neg:Bool)(n:Nat):List Nat:=(if neg then [45]else [])++kF n
end Go.Am
namespace Go.Am
open Go Go.RowKit
section
variable {base:Nat}{t t0:Tr tA}{X X0:Xt}{HA:xA}{n:Nat}{y:tA}{C:iA}{F:Tr xE}{Q:mB}
def Xt.put(X:Xt)(n:Nat)(y:tA):Xt:=fun b=>if b=n then some y else X b
theorem Xt.put_self{X:Xt}:X.put n y n=some y:=yab rfl
theorem Xt.put_ne{X:Xt}{b:Nat}(h:b≠n):X.put n y b=X b:=yaa h
theorem Ov.hide(h:Ov base t X HA)(hy:t.get n=some y)(h0:t0.get n=none)(ho:wF n t0 t):Ov base t0 (X.put n y) HA:=by
 refine⟨h.base,fun b hb=>?_,fun b z hb=>?_,fun b z hb=>?_⟩
 ·by_cases e:b=n
  ·grind [Xt.put_self]
  ·rw[Xt.put_ne e]at hb
   rw[h.same b hb,ho b e]
 ·by_cases e:b=n
  ·subst e
   rw[Xt.put_self]at hb;cases hb;exact⟨h.up hy,h0,h.lt _ _ hy⟩
  ·rw[Xt.put_ne e]at hb
   obtain⟨h1,h2,h3⟩:=h.ext b z hb
   exact⟨h1,by rw[<- ho b e];exact h2,h3⟩
 ·by_cases e:b=n
  ·simp_all
  ·exact h.lt b z (by rw[ho b e];exact hb)
theorem zC.unhide{Q:mB}{d:iB}(hX:X.put n y=X0)(hn:X n=none)(h:zC base X0 qJ Q d):zC base X qJ (fun v t'=>∃t0',Q v t0'/\t0'.get n=none/\t'.get n=some y/\wF n t0' t') d:=by
 obtain⟨v,t',HA',X',h1,h2,h3,h4⟩:=pP.1 h
 subst hX;have hy:X' n=some y:=h3 n y Xt.put_self
 obtain⟨e1,e2,e3⟩:=h2.ext n y hy
 obtain⟨_,ho⟩:=rP (t:=t') e2 y
 have hs:(t'.set n y).get n=some y:=by rw[Tr.get_set,yab rfl]
 refine pP.2 ⟨v,t'.set n y,HA',fun b=>if b=n then none else X' b,h1,⟨h2.base,fun b hb=>?_,fun b z hb=>?_,fun b z hb=>?_⟩,fun b z hb=>?_,t',h4,e2,hs,ho⟩
 ·by_cases e:b=n
  ·subst e;rw[e1,hs]
  ·have hb:(if b=n then none else X' b)=none:=hb
   rw[yaa e]at hb;rw[h2.same b hb,ho b e]
 ·by_cases e:b=n
  ·simp_all
  ·have hb:(if b=n then none else X' b)=some z:=hb
   rw[yaa e]at hb;obtain⟨k1,k2,k3⟩:=h2.ext b z hb
   exact⟨k1,by rw[ho b e];exact k2,k3⟩
 ·by_cases e:b=n
  ·omega
  ·rw[ho b e]at hb;exact h2.lt b z hb
 ·show(if b=n then none else X' b)=some z
  have e:b≠n:=fun e=>by simp_all
  rw[yaa e];exact h3 b z (by grind [Xt.put_ne])
theorem Wc.frame{f:Nat}{args:List zA}(h:Wc C F f args t0 Q)(hy:t.get n=some y)(h0:t0.get n=none)(ho:wF n t0 t) :
  Wc C F f args t (fun v t'=>∃t0',Q v t0'/\t0'.get n=none/\t'.get n=some y/\wF n t0' t'):=
 fun X HA hv=>zC.unhide rfl (hv.notX hy) (h _ HA (hv.hide hy h0 ho))
end
theorem Tr.without(t:Tr tA):∀n:Nat,∃t0:Tr tA,t0.get n=none/\wF n t0 t:=by
 induction t with
 | leaf=>exact fun n=>⟨.leaf,Tr.get_leaf n,fun _ _=>rfl⟩
 | node l v r ihl ihr=>
  intro n;by_cases h0:n=0
  ·subst h0
   refine⟨.node l none r,by rw[Tr.get_node];rfl,fun k hk=>?_⟩
   rw[Tr.get_node,Tr.get_node,yaa hk,yaa hk]
  ·by_cases h1:n%2=1
   ·obtain⟨l0,g1,g2⟩:=ihl (n / 2)
    refine⟨.node l0 v r,by grind [Tr.get_node],fun k hk=>?_⟩
    rw[Tr.get_node,Tr.get_node];split
    ·rfl
    ·split
     ·exact g2 _ (by omega)
     ·rfl
   ·obtain⟨r0,g1,g2⟩:=ihr (n / 2-1)
    refine⟨.node l v r0,by grind [Tr.get_node],fun k hk=>?_⟩
    rw[Tr.get_node,Tr.get_node];split
    ·rfl
    ·split
     ·rfl
     ·exact g2 _ (by omega)
end Go.Am
namespace Go.Proofs
open Go Go.Am
variable {cd:Lo}{base sz:Nat}{l:List D}{v:zA}
variable [nC]
variable {t tf:Tr tA}
theorem kG.call    (h:kG cd base tf t sz l v)(ht:zB tf t):∃t0,zB tf t0/\∀ {f:Nat} {args:List zA} {Q:mB},Wc yA F f args t0 Q->Wc yA F f args t (fun u t'=>∃t1,Q u t1/\(zB tf t1->zB t1 t'/\kG cd base t1 t' sz l v)):=by
 rcases h with⟨rfl,rfl⟩ | ⟨b,cl,c,rfl,h0,h1,h2,h3,h4⟩
 ·exact⟨t,ht,fun h=>h.mono fun u t' hq=>⟨t',hq,fun _=>⟨zB.refl _,.inl ⟨rfl,rfl⟩⟩⟩⟩
 ·obtain⟨t0,g1,g2⟩:=Tr.without t b
  refine⟨t0,fun k u hk=>?_,fun h=>(h.frame h2 g1 g2).mono fun u t' ⟨t1,k1,k2,k3,k4⟩=>⟨t1,k1,fun hle=>⟨fun k u hk=>?_,.inr ⟨b,cl,c,rfl,h0,k2,k3,h3,uD.mono hle _ _ h4⟩⟩⟩⟩
  ·have hkb:k≠b:=by grind
   rw[<- g2 k hkb];exact ht _ _ hk
  ·have hkb:k≠b:=by grind
   rw[k4 k hkb];exact hk
def el226:Db yA 253 254 1:=⟨⟨_,fL,rfl,rfl⟩,⟨_,yH,rfl,rfl,by decide,by decide⟩⟩
def el27:Db yA 96 5 1:=⟨⟨_,mV,rfl,rfl⟩,⟨_,ty5,rfl,rfl,by decide,by decide⟩⟩
def co202:∀z,yA.tys.get 254=some z->qN 254 z=.sz 1:=fun z h=>by rw[yH]at h;cases h;rfl
def co5:∀z,yA.tys.get 5=some z->qN 5 z=.ty 5:=fun z h=>by rw[ty5]at h;cases h;rfl
theorem WK    {b:Nat}(h:kG cd base tf t sz l v)(hb:uN v b)(hn:t.get b=none):False:=by
 obtain⟨_,_,y,hy⟩:=h.none hb
 simp_all
theorem VB{v2:List Nat}{v3:Int}{neg:Bool}{c1:zA}{N M:Nat}{Q:mB}{t0:Tr tA}(hM:M<400000)
  (hR:∀(tf t':Tr tA) (ps:List Nat) (v4 v5:zA),zB t0 tf->zB tf t'->kG (.sz 1) yA.base tf t' 1 (bB .u32 ps) v4->aA tf 1 (bB .u32 []) v5->oB 1000000000 ps->ps≠[]->ps.getLast?≠some 0->val 1000000000 ps=N->ps.length<=M->jp 183 2 [.str v2,.int .i64 v3,v4,v5,.bool neg,c1] t' Q) :
  ∀(k:Nat) (l ps:List Nat) (v4 v5:zA) (tf t':Tr tA),val 4294967296 l<1000000000^k->k+ps.length<=M->norm l->oB 4294967296 l->l.length<900000->oB 1000000000 ps->(l=[]->ps≠[]/\ps.getLast?≠some 0) →
   val 4294967296 l*1000000000^ps.length+val 1000000000 ps=N->zB t0 tf->zB tf t'->kG (.sz 1) yA.base tf t' 1 (bB .u32 ps) v4->aA tf 1 (bB .u32 l) v5->jp 183 2 [.str v2,.int .i64 v3,v4,v5,.bool neg,c1] t' Q:=by
 intro k;induction k with
 | zero=>
  intro l ps v4 v5 tf t' h1 h2 h3 h4 h5 h6 h7 h8 h9 h10 h11 h12;have hl:l=[]:=Td (B:=4294967296) (by decide) h3 (by omega)
  grind
 | succ k ih=>
  intro l ps v4 v5 tf t' h1 h2 h3 h4 h5 h6 h7 h8 h9 h10 h11 h12;by_cases hl:l=[]
  ·grind [val]
  have hpos:0<l.length:=List.length_pos_iff.2 hl
  have hv0:0<val 4294967296 l:=by
   rcases yav (val 4294967296 l)with e | e
   ·exact absurd (Td (B:=4294967296) (by decide) h3 e) hl
   ·exact e
  refine zl7 ?_
  simp only[uI,uL,uX,uZ,uY,Yc,oA,(h12.mono h10).len,uA,aB,vG,bE]
  rw[yab (by omega),q236]
  obtain⟨t1,g1,g2⟩:=kG.call h11 h10
  refine(g2 (OJ (h12.mono g1) h5 h4 (d:=1000000000) (by decide) (by decide) (Q:=fun u t'=>∃v' q r,u=.tup [v',.int .u32 (r:Nat)]/\zB t1 t'/\aA t' 1 (bB .u32 (lE q)) v'/\oB 4294967296 q/\q.length=l.length/\r<1000000000/\val 4294967296 l=val 4294967296 q*1000000000+r) fun t' v' q r a b c d e f=>⟨v',q,r,rfl,a,b,c,d,e,f⟩)).mono ?_
  rintro u t2 ⟨tf2,⟨v',q,r,rfl,a1,a2,a3,a4,a5,a6⟩,hk⟩
  obtain⟨b1,b2⟩:=hk (g1.trans a1)
  have x0:aI 0 (.tup [v',.int .u32 (r:Nat)])=some v':=rfl
  have x1:aI 1 (.tup [v',.int .u32 (r:Nat)])=some (.int .u32 (r:Nat)):=rfl
  simp only[x0,x1,uA,aB];intro n hn hbase;obtain⟨H1,c1',c2,c3⟩:=AV (k:=.u32) fL rfl yH rfl rfl r trivial hn
  rw[c1',uA];intro n2 hn2 hbase2;have b3:kG (.sz 1) yA.base tf2 H1.t 1 (bB .u32 ps) v4:=b2.keep' fun b hb=>by
   obtain⟨_,_,y,hy⟩:=b2.none hb
   rw[c3 _ _ hy,hy]
  obtain⟨t4,d1,d2,d3,d4⟩:=QN el226 co202 b3 (c2.all (cap:=1) (ybk _)) (by simp) (by grind) hn2 hbase2 (b1.trans c3)
  simp only[List.length_singleton]at d1 d2;simp only[];rw[d1,uA];refine ih (lE q) (ps++[r]) _ _ tf2 t4 ?_ ?_ (bV _) (zU a3) ?_ ?_ ?_ ?_ (h9.trans (g1.trans a1)) d3 ?_ a2
  ·grind [mS]
  ·grind
  ·grind [Nh]
  ·exact QT h6 fun x hx=>by simp_all
  ·intro hs
   refine⟨by simp,?_⟩
   have hq:val 4294967296 q=0:=by rw[<- mS,hs];rfl
   grind
  ·rw[mS,Jd,ybg]
   simp only[val,ybn,ybx,ybw,yat,yct];grind
  omega
end Go.Proofs
namespace Go.Proofs
open Go Go.Am
variable [nC]
variable {t:Tr tA}
def zjc{A lu lv Z:List Nat}{v:zA}{b cap m:Nat}{t0 t':Tr tA}{Q:mB}(hv:aA t0 1 (bB .u32 lv) v)(hl:lv.length=m+2)(hm:m<800000)(hlv:oB BB lv)(hbase:yA.base<=b)(hb:t0.get b=none)(hlul:lu.length=m+3)(hlu:oB BB lu)(hcap:m+3<=cap)
  (htop:∀top,lv[m+1]?=some top->2147483648<=top) (hlt:val BB lu<BB*val BB lv) (ht:zB t0 t') (hoff:wF b t t') (ho:zG t' b .u32 (A++lu++Z))
  (hQ:∀t2 r,zB t0 t2->wF b t t2->zG t2 b .u32 (A++(r++[0])++Z)->r.length=m+2->oB BB r->val BB r=val BB lu%val BB lv->val BB lu / val BB lv<BB->Q (.int .u32 ((val BB lu / val BB lv:Nat):Int)) t2) :
  Wc yA F 310 [.slice b A.length (m+3) cap,v] t' Q:=by
 obtain⟨top,h1⟩:=getElem?_of_lt (l:=lv) (i:=m+1) (by omega)
 obtain⟨v2,h2⟩:=getElem?_of_lt (l:=lv) (i:=m) (by omega)
 obtain⟨un,h3⟩:=getElem?_of_lt (l:=lu) (i:=m+2) (by omega)
 obtain⟨u1,h4⟩:=getElem?_of_lt (l:=lu) (i:=m+1) (by omega)
 obtain⟨u2,h5⟩:=getElem?_of_lt (l:=lu) (i:=m) (by omega)
 have b1:top<BB:=lL hlv h1
 have b2:v2<BB:=lL hlv h2
 have b3:un<BB:=lL hlu h3
 have b4:u1<BB:=lL hlu h4
 have b5:u2<BB:=lL hlu h5
 have hBB:=aO
 have c1:top<4294967296:=by omega
 have c3:un<4294967296:=by omega
 have c4:u1<4294967296:=by omega
 have htop2:=htop top h1
 obtain⟨hV,hvr⟩:=top2 (B:=BB) tJ hlv hl h1 h2
 obtain⟨hU,hur⟩:=top3 (B:=BB) tJ hlu hlul h3 h4 h5
 have hVpos:0<val BB lv:=by
  have:0<(top*BB+v2)*BB^m:=Nat.mul_pos (by have:0<top*BB:=Nat.mul_pos (by omega) tJ;omega) (Nat.pow_pos tJ)
  omega
 have hq:val BB lu / val BB lv<BB:=ycu (by rw[ybh];exact hlt)
 have hread:aA t' 1 (bB .u32 lu) (.slice b A.length (m+3) cap):=by
  have:=ho.slice (off:=A.length) (n:=m+3) (cap:=cap) (by simp;omega) hcap
  rw[ybz,List.drop_left,List.take_left' hlul]at this;exact this
 have hv':=hv.mono ht
 obtain⟨d1,o1,g1,g1'⟩:=hread.idx iG h3
 obtain⟨d2,o2,g2,g2'⟩:=hread.idx iG h4
 obtain⟨d3,o3,g3,g3'⟩:=hv'.idx iG h1
 have hun:un<=top:=by
  rcases yau top un with g | g
  ·exfalso
   have e1:(un*BB)*BB*BB^m<=val BB lu:=by rw[hU,ybo,ybo,ybo];omega
   have e2:val BB lv<(top+1)*BB*BB^m:=by
    have h:top*BB+v2+1<=(top+1)*BB:=by rw[ybo];omega
    have:=ybi (BB^m) h
    rw[ybo (top*BB+v2) 1,Nat.one_mul]at this
    omega
   have e3:BB*val BB lv<BB*((top+1)*BB*BB^m):=Nat.mul_lt_mul_of_pos_left e2 tJ
   have e4:BB*((top+1)*BB*BB^m)<=un*BB*BB*BB^m:=by
    have:(top+1)*BB*BB^m<=un*BB*BB^m:=ybi _ (ybi _ g)
    have:=ybv BB this
    calc BB*((top+1)*BB*BB^m)<=BB*(un*BB*BB^m):=this
     _=un*BB*BB*BB^m:=by rw[<- ybj,ybh BB (un*BB)]
   omega
  ·exact g
 have hh:un*BB+u1<=top*BB+(BB-1):=by
  have:=ybi BB hun
  omega
 have hge:val BB lu / val BB lv<=(un*BB+u1) / top:=kn_ge hU hur b5 hV (by omega)
 have hdle:(un*BB+u1) / top<=BB+1:=by
  have:un*BB+u1<(BB+2)*top:=by
   rw[ybo,ybh BB top];generalize top*BB=P at hh ⊢
   generalize un*BB=R at hh ⊢
   omega
  have:=ycu (show un*BB+u1<top*(BB+2) by rw[ybh top];exact this)
  omega
 have hrest:(un*BB+u1)%top<BB:=Nat.lt_trans (ycy _ (by omega)) b1
 refine w310 ?_
 have e1:((lv.length:Nat):Int)=((m+2:Nat):Int):=by rw[hl]
 have e2:((m+2:Nat):Int)-1=((m+1:Nat):Int):=by omega
 have e3:(un:Int)*4294967296=((un*4294967296:Nat):Int):=by omega
 simp (disch:=omega) only[uI,uL,uE,uZ,uW,t310,oA,hv'.len,uA,aB,vG,e1,g1,g1',e2,wrap_i64,g2,g2',g3,g3',fF,e3]
 have e4:jI Nat.lor .u64 ((un*4294967296:Nat):Int) (u1:Int)=some (.int .u64 ((un*4294967296+u1:Nat):Int)):=by
  rw[rW (k:=.u64) (show un*4294967296<gG .u64 by show _<18446744073709551616;omega) (show u1<gG .u64 by show _<18446744073709551616;omega)]
  have:=Gp (a:=un) (b:=u1) (n:=32) c4
  rw[show un*4294967296=un*2^32 by rfl,this]
 rw[e4];simp only[uA,aB];have e5:Bu .u64 ((un*4294967296+u1:Nat):Int) (top:Int)=some (.int .u64 (((un*4294967296+u1) / top:Nat):Int)):=CB (by omega) (by
  have h:(un*4294967296+u1) / top<=4294967296+1:=by rw[hBB]at hdle;exact hdle
  generalize (un*4294967296+u1) / top=z at h ⊢
  exact fF (by omega) (by omega))
 rw[e5];simp only[uA,aB];rw[Tz (by omega)]
 simp only[uA,aB];refine WQ hread hv' (by omega) h5 h2 b5 b2 (by omega) b1 hU hur hV hvr hq hh (fun d q1 q2 q3=>?_) _ _ ?_ (by rw[hBB]at hge ⊢;exact hge) (by rw[hBB]at hdle ⊢;exact hdle) (by rw[hBB]at hrest ⊢;exact hrest)
 ·refine zpf ?_
  simp only[uI,uZ,za2,oA,hv'.len,uA,aB,vG,e1];have hms:=VX (t:=t) (A:=A) (Z:=Z) (lu:=lu) (lv:=lv) (v:=v) (b:=b) (cap:=cap) (d:=d) (t0:=t0) (Q:=Q) hv (by omega) hlv hbase hb q3 (by omega) hlu (by omega) ?_ lv.length 0 0 0 t' [] (by omega) ht hoff (by simpa using ho) rfl (fun x hx=>by cases hx) (by first | omega | decide) (by first | omega | decide) (by simp[val])
  ·rw[hl]at hms
   exact hms
  ·intro t2 W last bo k1 k2 k3 k4 k5 k6 k7 k8
   have hWall:val BB (W++[last])<BB^(lv.length+1):=by
    have:=vP (B:=BB) tJ (Ad k5 k6)
    simp only[ybg,ybn,ybx,k4]at this;exact this
   have hVlt:val BB lv<BB^lv.length:=vP tJ hlv
   have hdm:=ych (val BB lu) (val BB lv)
   have hmod:val BB lu%val BB lv<val BB lv:=ycy _ hVpos
   have hWs:val BB (W++[last])=val BB W+BB^lv.length*last:=by rw[tO,k4]
   split
   ·rename_i hz
    subst hz;rw[yat,yct]at k8;have hd:d=val BB lu / val BB lv:=by
     refine Nat.le_antisymm ?_ q1
     rw[Nat.le_div_iff_mul_le hVpos];omega
    have hr:val BB (W++[last])=val BB lu%val BB lv:=by
     rw[hd,ybh]at k8;omega
    have hlast:last=0:=by
     rcases yav last with g | g
     ·exact g
     ·exfalso
      have:=ybv (BB^lv.length) g
      rw[Nat.mul_one]at this;omega
    subst hlast;rw[hd];exact hQ t2 W k1 k2 k3 (by omega) k5 (by rw[<- hr,hWs];simp) hq
   ·rename_i hz
    have hbo:bo=1:=by omega
    subst hbo;rw[Nat.mul_one]at k8;have hd:d=val BB lu / val BB lv+1:=by
     refine Nat.le_antisymm q2 ?_
     rcases yau (val BB lu / val BB lv) d with g | g
     ·exact g
     ·exfalso
      have:d*val BB lv<=val BB lu:=Nat.le_trans (ybi _ g) (Nat.div_mul_le_self _ _)
      omega
    have hk9:val BB (W++[last])+val BB lv=val BB lu%val BB lv+BB^(lv.length+1):=by
     rw[hd,ybo,Nat.one_mul,ybh (val BB lu / val BB lv)]at k8
     omega
    refine ZW (t:=t) (A:=A) (Z:=Z) (t0:=t0) hv (by omega) hlv hbase hb (by rw[hd];exact Nat.succ_pos _) (by omega) W k4 k5 last k6 (by omega) (fun t3 r up n1 n2 n3 n4 n5 n6=>?_) lv.length 0 0 t2 [] (by omega) k1 k2 (by simpa using k3) rfl (fun x hx=>by cases hx) (by first | omega | decide) (by simp[val])
    have hrlt:val BB r<BB^lv.length:=by
     have:=vP (B:=BB) tJ n4;rw[n3]at this;exact this
    rw[hWs,yag]at hk9;have hfin:val BB r+BB^lv.length*(up+last)=val BB lu%val BB lv+BB^lv.length*BB:=by
     rw[ybm];omega
    have hsplit:up+last=BB/\val BB r=val BB lu%val BB lv:=by
     have hmlt:val BB lu%val BB lv<BB^lv.length:=by omega
     have hB:0<BB^lv.length:=by omega
     have e1:(val BB r+BB^lv.length*(up+last)) / BB^lv.length=up+last:=by rw[Nat.add_mul_div_left _ _ hB,Nat.div_eq_of_lt hrlt];simp
     have e2:(val BB lu%val BB lv+BB^lv.length*BB) / BB^lv.length=BB:=by rw[Nat.add_mul_div_left _ _ hB,Nat.div_eq_of_lt hmlt];simp
     rw[hfin,e2]at e1;refine⟨e1.symm,?_⟩
     rw[<- e1]at hfin;omega
    have hl0:(last+up)%BB=0:=by rw[yap,hsplit.1];exact Nat.mod_self _
    rw[hl0]at n2;have hd1:d-1=val BB lu / val BB lv:=by rw[hd];exact Nat.add_sub_cancel _ _
    rw[hd1];exact hQ t3 r (k1.off hb (fun c hc=>by
     rw[n1 c hc,<- k2 c hc])) n1 n2 (by omega) n4 hsplit.2 hq
 ·rw[ybh,hBB];exact ych _ _
end Go.Proofs
namespace Go.Am
def SD{B p K:Nat}(hB:B=p*K)(hp:0<p)(hK:0<K){x y:Nat}{l:List Nat}(hx:x<B) :
  val B (x::y::l) / p=(y*B+x) / p%B+B*(val B (y::l) / p):=by
 have e1:val B (x::y::l)=x+p*(K*val B (y::l)):=by
  show x+B*val B (y::l)=_
  rw[hB,ybj]
 have e2:y*B+x=x+p*(K*y):=by rw[hB,yap,ybh y,ybj]
 have e3:val B (y::l)%p=y%p:=by
  show(y+B*val B l)%p=_
  rw[hB,ybj,Nat.add_mul_mod_self_left]
 have e4:K*y=K*(y%p)+B*(y / p):=by
  grind [Nat.div_add_mod]
 have e5:K*val B (y::l)=K*(y%p)+B*(val B (y::l) / p):=by
  grind [Nat.div_add_mod]
 have e6:x / p<K:=ycu (by omega)
 have e7:x / p+K*(y%p)<B:=by
  have h1:y%p<p:=ycy _ hp
  have h2:K*(y%p+1)<=K*p:=ybv _ h1
  grind
 rw[e1,Nat.add_mul_div_left _ _ hp,e2,Nat.add_mul_div_left _ _ hp,e4,<- Nat.add_assoc,Nat.add_mul_mod_self_left,Nat.mod_eq_of_lt e7,e5,<- Nat.add_assoc]
end Go.Am
namespace Go.Proofs
open Go Go.Am
variable [nC]
variable {t:Tr tA}
theorem zbh{l:List Nat}{b L lo hi:Nat}(ho:zG t b .u32 l)(h1:lo<=hi)(h2:hi<=L)(h3:lo<L) :
  vF yA 253 ⟨0,t⟩ (.slice b 0 L L) (some (.int .i64 (lo:Int))) (some (.int .i64 (hi:Int)))=some (.slice b lo (hi-lo) (L-lo)):=by
 obtain⟨c,hg,_⟩:=ho
 obtain⟨⟨y,hy1,hy2⟩,⟨z,hz1,hz2,hz3⟩⟩:=iG
 unfold vF;rw[hy1,pA];have hb:∀y (k:Nat),nY y (.int .i64 (k:Int))=tB (Nat.ble k y) (some k):=fun y k=>rfl
 unfold kN;simp only[zA.asStr,zA.asSlice];rw[hy2,pA];unfold zQ;rw[hz1,pA];unfold nQ Cr;simp only[hb];rw[show Nat.ble hi L=true from aE.2 h2];simp only[cD,pA]
 rw[show Nat.ble lo hi=true from aE.2 h1];simp only[cD,pA];have he2:lN ⟨0,t⟩ b z.size L lo false=false:=by
  unfold lN qD;rw[hg,pA];rfl
 rw[he2,yay,cond_false];have hf:rO ⟨0,t⟩ b z.size L lo false=true:=by
  unfold rO qD;rw[hg,pA];rfl
 rw[show Nat.ble hi L=true from aE.2 h2,hf];simp only[Bool.and_self,cD];have hq:Nat.beq L lo=false:=by
  grind [gC]
 rw[hq,cond_false,hz2,Nat.mul_one,ybw]
theorem SE{qv:zA}{Z c:List Nat}{b n s L cn:Nat}{Q:mB}(hn:n<900000)(hc:c.length=n+1)(hcl:oB BB c)(hcn:c[n]?=some cn)(hbase:yA.base<=b)(hs:s<32)(hL:n+1<=L)
  (hexit:∀t' W,wF b t t'->zG t' b .u32 (W++[cn]++Z)->W.length=n->oB BB W->val BB W+BB^n*(cn / 2^s)=val BB c / 2^s->jp 295 6 [.int .i64 (n:Int),.int .i64 (s:Int),.slice b 0 L L,qv,.int .i64 (n:Int),.int .i64 (n:Int)] t' Q) :
  ∀(k i:Nat) (t':Tr tA) (W:List Nat),i+k=n->wF b t t'->zG t' b .u32 (W++c.drop i++Z)->W.length=i->oB BB W->val BB W+BB^i*(val BB (c.drop i) / 2^s)=val BB c / 2^s →
  jp 295 6 [.int .i64 (n:Int),.int .i64 (s:Int),.slice b 0 L L,qv,.int .i64 (n:Int),.int .i64 (i:Int)] t' Q:=by
 intro k;induction k with
 | zero=>
  intro i t' W hi hoff ho hW hWl hval;have hi':i=n:=by omega
  subst hi'
  have hd:c.drop i=[cn]:=by
   rw[fR hcn,ybt (by omega)]
  grind [val]
 | succ k ih=>
  intro i t' W hi hoff ho hW hWl hval;have hBB:=aO
  obtain⟨x,hx⟩:=getElem?_of_lt (l:=c) (i:=i) (by omega)
  obtain⟨y,hy⟩:=getElem?_of_lt (l:=c) (i:=i+1) (by omega)
  have hx32:x<4294967296:=by have:=lL hcl hx;omega
  have hy32:y<4294967296:=by have:=lL hcl hy;omega
  have hd1:c.drop (i+1)=y::c.drop (i+2):=fR hy
  have hd0:c.drop i=x::y::c.drop (i+2):=by rw[fR hx,hd1]
  have m0:=Kj (A:=W) (w:=c.drop i) (Z:=Z) (j:=0) (x:=x) (by grind)
  have m1:=Kj (A:=W) (w:=c.drop i) (Z:=Z) (j:=1) (x:=y) (by grind)
  rw[hW]at m0 m1;rw[yct]at m0;have g0:=Hm iG (b:=b) (n:=L) (cap:=L) (j:=i) (by omega)
  have g1:=Hm iG (b:=b) (n:=L) (cap:=L) (j:=i+1) (by omega)
  have l0:=ho.load (C:=yA) m0 yH rfl
  have l1:=ho.load (C:=yA) m1 yH rfl
  have ei:(i:Int)+1=((i+1:Nat):Int):=by omega
  have e2:(y:Int)*4294967296=((y*4294967296:Nat):Int):=by omega
  obtain⟨t1,s1,s2,s3⟩:=ho.store (C:=yA) hbase (j:=i) (by grind) ((y*4294967296+x) / 2^s%4294967296) yH rfl
  have hset:=Om (A:=W) (w:=c.drop i) (Z:=Z) (j:=0) (x:=(y*4294967296+x) / 2^s%4294967296) (by grind)
  rw[yct,hW]at hset;rw[hset]at s2;refine zlu ?_
  simp only[uL,uE,kC,uZ,Xn,oA,bE];rw[yab (by omega)]
  simp (disch:=omega) only[ei,wrap_i64,g0,g1,uA,l0,l1,aB]
  rw[fF (n:=(y:Int)) (by omega) (by omega),e2,fF (n:=((y*4294967296:Nat):Int)) (by omega) (by omega),fF (n:=(x:Int)) (by omega) (by omega),or32 hy32 hx32,uA,aB,uA,MJ (by omega),uA,aB,uA]
  have e3:fA .u32 (((y*4294967296+x) / 2^s:Nat):Int)=(((y*4294967296+x) / 2^s%4294967296:Nat):Int):=by
   grind [rV]
  rw[e3];intro _ _ _;rw[s1,uA];have hw:(y*4294967296+x) / 2^s%4294967296<BB:=by omega
  refine ih (i+1) t1 (W++[(y*4294967296+x) / 2^s%4294967296]) (by omega) (hoff.trans s3) ?_ (by simp[hW]) (Ad hWl hw) ?_
  ·grind
  ·have hst:=SD (B:=BB) (p:=2^s) (K:=2^(32-s)) (by rw[<- Nat.pow_add,show s+(32-s)=32 by omega,hBB]) (Nat.pow_pos (by decide)) (Nat.pow_pos (by decide)) (x:=x) (y:=y) (l:=c.drop (i+2)) (by omega)
   rw[<- hval,hd0,hst,tO,hW,hd1,yag,ybm,hBB];grind
end Go.Proofs
namespace Go.Proofs
open Go Go.Am
variable [nC]
variable {t:Tr tA}
theorem XV{lv:List Nat}{v:zA}{b bq m s L Lq U:Nat}{t0:Tr tA}{Q:mB}(hv:aA t0 1 (bB .u32 lv) v)(hl:lv.length=m+2)(hm:m<800000)(hlv:oB BB lv)(hbase:yA.base<=b)(hbaseq:yA.base<=bq)(hb:t0.get b=none)(hbq:t0.get bq=none)(hne:b≠bq)(hL:L<1000000)
  (htop:∀top,lv[m+1]?=some top->2147483648<=top) (hVpos:0<val BB lv)
  (hexit:∀t' q r Z,zB t0 t'->zG t' b .u32 (r++[0]++Z)->zG t' bq .u32 q->r.length=m+2->oB BB r->oB BB q->q.length=Lq->m+3+Z.length=L->val BB r<val BB lv->U=val BB lv*val BB q+val BB r->jp 295 6 [.int .i64 ((m+2:Nat):Int),.int .i64 (s:Int),.slice b 0 L L,.slice bq 0 Lq Lq,.int .i64 ((m+2:Nat):Int),.int .i64 0] t' Q) :
  ∀(j:Nat) (A c Z Qd:List Nat) (t':Tr tA),A.length=j->c.length=m+3->oB BB A->oB BB c->oB BB Qd->A.length+(m+3)+Z.length=L->j+1+Qd.length=Lq->val BB c<BB*val BB lv->zB t0 t'->zG t' b .u32 (A++c++Z)->zG t' bq .u32 (List.replicate (j+1) 0++Qd)->U=val BB lv*(BB^(j+1)*val BB Qd)+val BB (A++c) →
  jp 295 2 [.int .i64 ((m+2:Nat):Int),.int .i64 (s:Int),v,.slice b 0 L L,.slice bq 0 Lq Lq,.int .i64 (j:Int)] t' Q:=by
 intro j;induction j using Nat.strongRecOn with
 | ind j ih=>
  intro A c Z Qd t' hA hc hAl hcl hQl hLen hLq hlt ht ho hoq hU;have gs:=zbh (b:=b) (L:=L) (lo:=j) (hi:=j+(m+2)+1) ho (by omega) (by omega) (by omega)
  rw[show j+(m+2)+1-j=m+3 by omega]at gs
  have e1:(j:Int)+((m+2:Nat):Int)=((j+(m+2):Nat):Int):=by omega
  have e2:((j+(m+2):Nat):Int)+1=((j+(m+2)+1:Nat):Int):=by omega
  refine zlv ?_
  simp only[uL,uZ,uW,Xo,oA,kI];rw[yab (by omega)]
  simp (disch:=omega) only[e1,wrap_i64,e2,gs,uA,q310]
  subst hA;refine zjc (A:=A) (Z:=Z) (t:=t') (t0:=t0) hv hl hm hlv hbase hb hc hcl (by omega) htop hlt ht (wF.refl _ _) ho (fun t2 r k1 k2 k3 k4 k5 k6 k7=>?_)
  have hoq2:=hoq.off (fun e=>hne e.symm) k2
  have g1:=Hm iG (b:=bq) (n:=Lq) (cap:=Lq) (j:=A.length) (by omega)
  obtain⟨t3,s1,s2,s3⟩:=hoq2.store (C:=yA) hbaseq (j:=A.length) (by grind) (val BB c / val BB lv) yH rfl
  have hset:(List.replicate (A.length+1) 0++Qd).set A.length (val BB c / val BB lv)=List.replicate A.length 0++((val BB c / val BB lv)::Qd):=by
   simp_all [List.replicate_succ']
  rw[hset]at s2;rw[aB,uA,g1,uA];intro _ _ _;rw[s1,uA];have ho3:=k3.off hne s3
  have ht3:=k1.off hbq s3
  have hr:val BB r<val BB lv:=by grind [Nat.mod_lt]
  have hdm:=ych (val BB c) (val BB lv)
  have hU2:U=val BB lv*(BB^A.length*val BB ((val BB c / val BB lv)::Qd))+val BB (A++r):=by
   grind [Jd,val]
  rcases hA:A.length with _ | j'
  ·have hnil:A=[]:=List.eq_nil_of_length_eq_zero hA
   subst hnil;refine zlv ?_
   have e3:((0:Nat):Int)-1 = -1:=by omega
   rw[e3];simp only[uL,uZ,uW,Xo,oA,kI];rw[yaa (by omega)]
   refine hexit t3 _ r Z ht3 (by simp_all) (by omega) k4 k5 (fun x hx=>?_) (by grind) (by omega) hr (by simp_all)
   rcases ybs.1 hx with rfl | hx
   ·exact k7
   ·exact hQl x hx
  ·obtain⟨x,hx⟩:=getElem?_of_lt (l:=A) (i:=j') (by omega)
   have hAx:A=A.take j'++[x]:=by
    rw[<- fQ hx,yca (by omega)]
   have hxB:x<BB:=lL hAl hx
   have e3:((j'+1:Nat):Int)-1=(j':Int):=by omega
   rw[e3];have hvx:val BB (x::r)=x+BB*val BB r:=rfl
   refine ih j' (by omega) (A.take j') (x::r) (0::Z) ((val BB c / val BB lv)::Qd) t3 (by grind) (by simp[k4]) (Fl hAl _) (fun y hy=>?_) (fun y hy=>?_) (by grind) (by grind) ?_ ht3 ?_ ?_ ?_
   ·rcases ybs.1 hy with rfl | hy
    ·exact hxB
    ·exact k5 y hy
   ·rcases ybs.1 hy with rfl | hy
    ·exact k7
    ·exact hQl y hy
   ·rw[hvx]
    have:=ybv BB hr
    rw[Nat.mul_succ]at this;omega
   ·have:A.take j'++x::r++0::Z=A++(r++[0])++Z:=by
     conv=>rhs;rw[hAx]
     simp
    grind
   ·grind
   ·rw[hU2,hA]
    have:A++r=A.take j'++x::r:=by
     grind
    rw[this]
end Go.Proofs
namespace Go.Am
def zeq{a b q R p:Nat}(hp:0<p)(h:a*p=b*p*q+R)(hR:R<b*p):a=b*q+R / p/\R / p<b:=by
 have h1:p ∣ R:=(Nat.dvd_add_right (⟨b*q,by rw[ybh b p,ybj]⟩:p ∣ b*p*q)).1 (h ▸ ⟨a,ybh a p⟩)
 obtain⟨R',rfl⟩:=h1
 rw[Nat.mul_div_cancel_left _ hp];refine⟨Nat.eq_of_mul_eq_mul_left hp ?_,Nat.lt_of_mul_lt_mul_left (a:=p) ?_⟩
 all_goals grind
def div_v{B p K n top:Nat}{b rb:List Nat}(hB:B=p*K)(hp:0<p)(hlt:oB B b)(hl:b.length=n+1)(htop:b[n]?=some top)(ht:top*p<B)(hbig:B<=2*(top*p))(hrl:oB B rb)(hrb:rb.length=n+2)(hv:val B rb=val B b*p) :
  val B (rb.take (n+1))=val B b*p/\∀x,(rb.take (n+1))[n]?=some x->B<=2*x:=by
 have hB0:0<B:=by omega
 have hbv:val B b=val B (b.take n)+B^n*top:=by
  have:=Gh B b n
  simp_all [fR,ybt,val]
 have hlow:val B (b.take n)<B^n:=by
  have:=vP hB0 (Fl hlt n)
  simp_all
 have hK:top<K:=by
  simp_all [ybh]
 have hup:val B b*p<B^(n+1):=by
  have h1:val B b<B^n*(top+1):=by grind
  have h2:B^n*(top+1)<=B^n*K:=ybv _ hK
  have h3:val B b*p<B^n*K*p:=Nat.mul_lt_mul_of_pos_right (by omega) hp
  grind
 have hsplit:=Gh B rb (n+1)
 have htl:(rb.take (n+1)).length=n+1:=by grind
 rw[htl]at hsplit;have hz:val B (rb.drop (n+1))=0:=by
  rcases yav (val B (rb.drop (n+1)))with h | h
  ·exact h
  ·exfalso
   have:=ybv (B^(n+1)) h
   omega
 have hval:val B (rb.take (n+1))=val B b*p:=by simp_all
 refine⟨hval,fun x hx=>?_⟩
 have h1:val B (rb.take (n+1))=val B ((rb.take (n+1)).take n)+B^n*x:=by
  have:=Gh B (rb.take (n+1)) n
  simp_all [fR,ybt,val]
 have h2:val B ((rb.take (n+1)).take n)<B^n:=by
  grind [vP,Fl]
 have h3:B^n*(top*p)<=val B b*p:=by
  grind [Nat.add_mul]
 have h4:B^n*(top*p)<B^n*(x+1):=by grind
 have h5:top*p<x+1:=Nat.lt_of_mul_lt_mul_left h4
 omega
def div_u{B p n j:Nat}{a b ru:List Nat}(hB0:0<B)(hal:oB B a)(hb:B^n<=val B b)(hj:a.length=j+(n+1))(hru:ru.length=a.length+1)(hp:0<p)(hv:val B ru=val B a*p):val B (ru.drop j)<B*(val B b*p):=by
 have h1:=Gh B ru j
 have htl:(ru.take j).length=j:=by grind
 rw[htl]at h1;have h2:val B a<B^(j+(n+1)):=by grind [vP]
 have h3:val B a*p<B^(j+(n+1))*p:=Nat.mul_lt_mul_of_pos_right h2 hp
 have h4:B^(j+(n+1))*p=B^j*(B*(B^n*p)):=by
  rw[Nat.pow_add,yag,ybh (B^n) B,ybj,ybj]
 have h5:B^j*val B (ru.drop j)<B^j*(B*(B^n*p)):=by omega
 have h6:=Nat.lt_of_mul_lt_mul_left h5
 have h7:B*(B^n*p)<=B*(val B b*p):=ybv _ (ybi _ hb)
 omega
end Go.Am
namespace Go.Proofs
open Go Go.Am
variable [nC]
variable {t:Tr tA}
theorem GJ{l:List Nat}{b L hi:Nat}(ho:zG t b .u32 l)(h2:hi<=L)(h3:0<L) :
  vF yA 253 ⟨0,t⟩ (.slice b 0 L L) none (some (.int .i64 (hi:Int)))=some (.slice b 0 hi L):=by
 obtain⟨c,hg,_⟩:=ho
 obtain⟨⟨y,hy1,hy2⟩,⟨z,hz1,hz2,hz3⟩⟩:=iG
 unfold vF;rw[hy1,pA];have hb:∀y (k:Nat),nY y (.int .i64 (k:Int))=tB (Nat.ble k y) (some k):=fun y k=>rfl
 unfold kN;simp only[zA.asStr,zA.asSlice];rw[hy2,pA];unfold zQ;rw[hz1,pA];unfold nQ Cr;simp only[hb];rw[show Nat.ble hi L=true from aE.2 h2];simp only[cD,pA]
 have he2:lN ⟨0,t⟩ b z.size L 0 false=false:=by
  unfold lN qD;rw[hg,pA];rfl
 rw[he2,yay,cond_false];have hf:rO ⟨0,t⟩ b z.size L 0 false=true:=by
  unfold rO qD;rw[hg,pA];rfl
 grind [aE,cD]
theorem HG{b o n c:Nat}:same 10 (.slice b o n c) (.slice b o n c)=true:=by
 simp[same]
theorem XU{q W Z:List Nat}{b bq n s L Lq:Nat}{Q:mB}(ho:zG t b .u32 (W++[0]++Z))(hoq:zG t bq .u32 q)(hW:W.length=n)(hn:n<1000000)(hL:n+1+Z.length=L)(hq:q.length=Lq)(hLq:Lq<1000000)
  (hQ:∀qv rv,aA t 1 (bB .u32 (lE q)) qv->aA t 1 (bB .u32 (lE W)) rv->Q (.tup [qv,rv]) t) :
  jp 295 6 [.int .i64 (n:Int),.int .i64 (s:Int),.slice b 0 L L,.slice bq 0 Lq Lq,.int .i64 (n:Int),.int .i64 (n:Int)] t Q:=by
 have e1:=GJ (L:=L) (hi:=n) ho (by omega) (by omega)
 have e2:aA t 1 (bB .u32 W) (.slice b 0 n L):=by
  have:=ho.slice (off:=0) (n:=n) (cap:=L) (by grind) (by omega)
  simp_all
 have e3:aA t 1 (bB .u32 q) (.slice bq 0 Lq Lq):=by
  have:=hoq.all (cap:=Lq) (by omega)
  simp_all
 obtain⟨qv,f1,f2⟩:=Dp (by omega) e3
 obtain⟨rv,f3,f4⟩:=Dp (by omega) e2
 refine zlu ?_
 simp only[uL,uE,kC,uZ,Xn,oA,bE];rw[yaa (by omega)]
 simp only[e1,uA,Gv,f1,f3];grind [HG]
theorem DB{a b:List Nat}{u v:zA}{Q:mB}(hu:aA t 1 (bB .u32 a) u)(hv:aA t 1 (bB .u32 b) v)(ha:a.length<700000)(hal:oB BB a)(hbl:oB BB b)(han:norm a)(hbn:norm b)(hb0:b≠[])
  (hQ:∀t' q r qv rv,zB t t'->aA t' 1 (bB .u32 q) qv->aA t' 1 (bB .u32 r) rv->oB BB q->oB BB r->norm q->norm r->val BB a=val BB b*val BB q+val BB r->val BB r<val BB b->Q (.tup [qv,rv]) t') :
  Wc yA F 295 [u,v] t Q:=by
 have hBB:=aO
 have hB1:1<BB:=by omega
 have hlt:=ze7 hB1 hal hbl han hbn
 refine w295 ?_
 simp only[uI,uL,uX,uZ,uW,t295,oA,q300,zmu (by omega) hu hv,uA,aB,bE]
 by_cases hc:bN a b<0
 ·rw[yab hc]
  simp only[q307];refine zjy hu (by omega) fun t' v' h1 h2=>?_
  exact hQ t' [] a _ _ h1 ⟨[],.inl ⟨rfl,rfl⟩,by simp[bB,uD]⟩ h2 (fun x hx=>by cases hx) hal (fun h=>absurd rfl h) han (by simp[val]) (hlt.1 hc)
 ·rw[yaa hc]
  have hge:val BB b<=val BB a:=Nat.le_of_not_lt fun h=>hc (hlt.2 h)
  have hlen:b.length<=a.length:=zT hB1 hal hbn hge
  simp only[hv.len,uA,aB,vG,kJ];by_cases h1:b.length=1
  ·rw[yab (by omega)]
   obtain⟨d,rfl⟩:∃d,b=[d]:=by
    match b,h1 with
    | [d],_=>simp_all
   have hd:d<4294967296:=by have:=hbl d (by simp);omega
   have hd0:0<d:=by have:=hbn (by simp);grind
   obtain⟨c,off,g1,g2⟩:=hv.idx iG (i:=0) (x:=d) rfl
   have g1':uC yA 253 v (.int .i64 0)=some (.ptr c off):=g1
   simp only[g1',g2,uA,aB,q236];refine OJ hu (by omega) (by simp_all) hd hd0 fun t' v' q r k1 k2 k3 k4 k5 k6=>?_
   simp only[aI,zA.asTup,pA,bG,yaz,yba,uA,aB];intro b' hb' _;obtain⟨H',m1,m2,m3⟩:=AV (k:=.u32) fL rfl yH rfl rfl r trivial hb'
   have hR:=m2.all (cap:=1) (by simp)
   obtain⟨rv,f1,f2⟩:=Dp (by simp) hR
   have f1':kB yA F 247 [.slice b' 0 1 1] H'.t=some rv:=f1
   rw[m1];simp only[uA,Gv,f1'];rw[<- hBB]at k3 k6;have hrl:oB BB [r]:=fun x hx=>by grind
   refine hQ H'.t (lE q) (lE [r]) v' rv (k1.trans m3) (k2.mono m3) f2 (zU k3) (zU hrl) (bV _) (bV _) ?_ ?_
   all_goals grind [mS,val]
  ·rw[yaa (by omega)]
   have hbpos:0<b.length:=List.length_pos_iff.2 hb0
   obtain⟨m,hm⟩:∃m,b.length=m+2:=⟨b.length-2,by omega⟩
   obtain⟨j,hj⟩:∃j,a.length=j+(m+2):=⟨a.length-(m+2),by omega⟩
   obtain⟨top,htop⟩:=getElem?_of_lt (l:=b) (i:=m+1) (by omega)
   have htlt:top<4294967296:=by have:=lL hbl htop;omega
   have ht0:0<top:=by
    have:=hbn hb0
    grind
   obtain⟨s,hs,hs1,hs2,hs3⟩:=zcu (t:=t) htlt ht0
   obtain⟨c,off,g1,g2⟩:=hv.idx iG htop
   have eb:((m+2:Nat):Int)-1=((m+1:Nat):Int):=by omega
   simp (disch:=omega) only[hm,eb,wrap_i64,g1,g2,uA,aB,q308,hs3,q309]
   refine GR hv (by omega) (by simp_all) hs fun t1 b1 rb k1 k2 k3 k4 k5 k6 k7=>?_
   rw[<- hBB]at k6 k7;rw[hm]at k5 ⊢
   have hK:BB=2^s*2^(32-s):=by rw[<- Nat.pow_add,show s+(32-s)=32 by omega,hBB]
   have hp:0<2^s:=Nat.pow_pos (by decide)
   obtain⟨w1,w2⟩:=div_v (n:=m+1) hK hp hbl hm htop (by omega) (by omega) k6 k5 k7
   have e1:=GJ (L:=m+2+1) (hi:=m+2) k4 (by omega) (by omega)
   have hv1:aA t1 1 (bB .u32 (rb.take (m+2))) (.slice b1 0 (m+2) (m+2+1)):=by
    have:=k4.slice (off:=0) (n:=m+2) (cap:=m+2+1) (by omega) (by omega)
    simp_all
   simp only[e1,uA];refine GR (hu.mono k1) (by omega) (by simp_all) hs fun t2 b2 ra n1 n2 n3 n4 n5 n6 n7=>?_
   rw[<- hBB]at n6 n7;rw[hj]at n5 ⊢
   have ea:((j+(m+2):Nat):Int)-((m+2:Nat):Int)=(j:Int):=by omega
   have ea2:(j:Int)+1=((j+1:Nat):Int):=by omega
   simp (disch:=omega) only[hu.len,vG,hj,uA,aB,ea,ea2,wrap_i64]
   intro bq hbq hbaseq;obtain⟨t3,p1,p2,p3,p4⟩:=Hg (C:=yA) (k:=.u32) fL rfl yH rfl rfl (by decide) (n:=j+1) (by omega) hbq
   rw[p1];have el:pC (.slice bq 0 (j+1) (j+1))=some (.int .i64 ((j+1:Nat):Int)):=rfl
   have el2:((j+1:Nat):Int)-1=(j:Int):=by omega
   simp (disch:=omega) only[uA,el,aB,el2,wrap_i64]
   have hne:b2≠bq:=by
    intro e;obtain⟨c,hc1,_⟩:=n4
    simp_all
   have hbq1:t1.get bq=none:=by
    cases hg:t1.get bq with
    | none=>rfl
    | some x=>rw[n1 _ _ hg]at hbq;cases hbq
   have hVpos:0<val BB (rb.take (m+2)):=by
    rw[w1];refine Nat.mul_pos ?_ hp
    have:=Wj (B:=BB) hbn hb0
    grind
   have hbge:BB^(m+1)<=val BB b:=by
    have:=Wj (B:=BB) hbn hb0
    simp_all
   have hcl:=div_u (n:=m+1) (j:=j) (p:=2^s) tJ hal hbge (by omega) (by omega) hp n7
   have hta:ra.take j++ra.drop j=ra:=List.take_append_drop _ _
   refine XV (U:=val BB ra) hv1 (by grind) (by omega) (Fl k6 _) n3 hbaseq n2 hbq1 hne (by omega) (fun x hx=>by grind) hVpos (fun t4 q r Z z1 z2 z3 z4 z5 z6 z7 z8 z9 z10=>?_) j (ra.take j) (ra.drop j) [] [] t3 (by grind) (by grind) (Fl n6 _) (DW n6 _) (fun x hx=>by cases hx) (by grind) (by simp) ?_ (n1.trans p3) ?_ (by simp_all) ?_
   ·have hcl2:oB BB (r++[0]):=Ad z5 tJ
    refine SE (t:=t4) (Z:=Z) (c:=r++[0]) (cn:=0) (by omega) (by simp[z4]) hcl2 (by simp_all) n3 hs (by omega) (fun t5 W y1 y2 y3 y4 y5=>?_) (m+2) 0 t4 [] (by omega) (wF.refl _ _) (by simp_all) rfl (fun x hx=>by cases hx) (by rw[ycr,Nat.pow_zero,Nat.one_mul];exact ybw _)
    have y6:val BB W=val BB r / 2^s:=by
     grind [tO,Nat.zero_div]
    rw[w1]at z9 z10;rw[n7]at z10;obtain⟨x1,x2⟩:=zeq hp z10 z9
    refine XU y2 (z3.off (fun e=>hne e.symm) y1) y3 (by omega) (by omega) z7 (by omega) fun qv rv x3 x4=>?_
    have ht5:zB t t5:=k1.trans (z1.off n2 y1)
    grind [zU,bV,mS]
   ·simp_all
   ·rw[hta,ycd];exact n4.tle p3
   simp_all [val]
end Go.Proofs
namespace Go.Am
variable {B P W u x:Nat}
def wd (l:List Nat)(i:Nat):Nat:=(l[i]?).getD 0
def Gd (hB:0<B){l:List Nat}(h:oB B l)(i:Nat):wd l i<B:=by
 unfold wd
 cases hx:l[i]? with
 | none=>exact hB
 | some x=>exact lL h hx
def Mr(B:Nat)(l:List Nat)(i:Nat):val B (l.take (i+1))=val B (l.take i)+B^i*wd l i:=by
 unfold wd
 cases hx:l[i]? with
 | none=>
  grind [List.take_of_length_le]
 | some x=>
  have hi:=(ybc.1 hx).1
  rw[fQ hx,tO];grind
def zes{v Va Vb w y bo ai bi x' y' lx ly bo':Nat}(h:W+P*x+v*Vb=u*Va+P*(y+bo))(hx:B*x'+lx=x+u*ai)(hy:B*y'+ly=y+v*bi)(hw:lx+B*bo'=w+ly+bo) :
  (W+P*w)+P*B*x'+v*(Vb+P*bi)=u*(Va+P*ai)+P*B*(y'+bo'):=by
 grind
theorem zjh{z X Y:Nat}(h:W+P*x+Y=X+P*z)(hW:W<P)(hX:X<P)(hle:Y<=X):W=X-Y:=by
 rcases Nat.lt_trichotomy x z with g | g | g
 ·have:=ybv P g
  grind
 ·grind
 ·have:=ybv P g
  grind
def PS{a:Nat}(hx:x<=u)(ha:a<B):(x+u*a) / B<=u:=by
 have h:x+u*a<=u*B:=by
  have:=ybv u (Nat.succ_le_of_lt ha)
  grind
 simp_all [Nat.div_le_of_le_mul,ybh]
end Go.Am
namespace Go.Proofs
open Go Go.Am
variable [nC]
variable {t:Tr tA}
theorem IG{x u a:Nat}(hx:x<=u)(hu:u<4294967296)(ha:a<4294967296):fA .u64 ((x:Int)+fA .u64 ((u:Int)*fA .u64 (a:Int)))=((x+u*a:Nat):Int):=by
 have h:u*a<=4294967295*4294967295:=ydb (by omega) (by omega)
 grind [fF]
theorem XX{la lb:List Nat}{pa pb w:zA}{u v x y bo n i:Nat}{Q:mB}(ha:aA t 1 (bB .u32 la) pa)(hb:aA t 1 (bB .u32 lb) pb)(hal:oB BB la)(hbl:oB BB lb)(hu:u<4294967296)(hv:v<4294967296)(hx:x<=u)(hy:y<=v)(hi:i<n)
  (h:jp 302 21 [.int .u64 (u:Int),pa,.int .u64 (v:Int),pb,w,.int .u64 ((x+u*wd la i:Nat):Int),.int .u64 ((y+v*wd lb i:Nat):Int),.int .u32 (bo:Int),.int .i64 (i:Int),.int .i64 (n:Int),.int .i64 (i:Int)] t Q) :
  jp 302 2 [.int .u64 (u:Int),pa,.int .u64 (v:Int),pb,w,.int .u64 (x:Int),.int .u64 (y:Int),.int .u32 (bo:Int),.int .i64 (n:Int),.int .i64 (i:Int)] t Q:=by
 have hBB:=aO
 have second:jp 302 17 [.int .u64 (u:Int),pa,.int .u64 (v:Int),pb,w,.int .u64 ((x+u*wd la i:Nat):Int),.int .u64 (y:Int),.int .u32 (bo:Int),.int .i64 (i:Int),.int .i64 (n:Int),.int .i64 (i:Int)] t Q:=by
  refine zph ?_
  simp only[uI,uL,uZ,za4,oA,hb.len,uA,aB,vG,bE];by_cases hlen:i<lb.length
  ·obtain⟨z,hz⟩:=getElem?_of_lt hlen
   have hz32:z<4294967296:=by have:=lL hbl hz;omega
   obtain⟨c,off,g1,g2⟩:=hb.idx iG hz
   grind [uA,aB,IG,wd]
  grind [wd]
 refine zls ?_
 simp only[uI,uL,uZ,Xk,oA,bE];rw[yab (by omega)]
 simp only[ha.len,uA,aB,vG];by_cases hlen:i<la.length
 ·obtain⟨z,hz⟩:=getElem?_of_lt hlen
  have hz32:z<4294967296:=by have:=lL hal hz;omega
  obtain⟨c,off,g1,g2⟩:=ha.idx iG hz
  grind [uA,aB,IG,wd]
 grind [wd]
end Go.Proofs
namespace Go.Proofs
open Go Go.Am
section
variable {la lb:List Nat}{pa pb:zA}{u v:Nat}{Q:mB}
variable [nC]
variable {t:Tr tA}
theorem zet  {b n:Nat}{t0:Tr tA} (ha:aA t0 1 (bB .u32 la) pa)(hb:aA t0 1 (bB .u32 lb) pb)(hal:oB BB la)(hbl:oB BB lb)(hu:u<4294967296)(hv:v<4294967296)(hn:n<1000000)(hbase:yA.base<=b)(hb0:t0.get b=none)
  (hQ:∀t' W rv x z,zB t0 t'->aA t' 1 (bB .u32 (lE W)) rv->W.length=n->oB BB W->val BB W+BB^n*x+v*val BB (lb.take n)=u*val BB (la.take n)+BB^n*z->Q rv t') :
  ∀(k i x y bo:Nat) (t':Tr tA) (W:List Nat),i+k=n->zB t0 t'->zG t' b .u32 (W++List.replicate k 0)->W.length=i->oB BB W->x<=u->y<=v->bo<2->val BB W+BB^i*x+v*val BB (lb.take i)=u*val BB (la.take i)+BB^i*(y+bo) →
  jp 302 2 [.int .u64 (u:Int),pa,.int .u64 (v:Int),pb,.slice b 0 n n,.int .u64 (x:Int),.int .u64 (y:Int),.int .u32 (bo:Int),.int .i64 (n:Int),.int .i64 (i:Int)] t' Q:=by
 intro k;have hBB:=aO
 induction k with
 | zero=>
  intro i x y bo t' W hi ht ho hW hWl hx hy hbo hval;have hi':i=n:=by omega
  subst hi'
  have e3:aA t' 1 (bB .u32 W) (.slice b 0 i i):=by
   rw[List.replicate_zero,ycd]at ho;have:=ho.all (cap:=i) (by omega)
   simp_all
  obtain⟨rv,f1,f2⟩:=Dp (by omega) e3
  refine zls ?_
  simp only[uI,uL,uZ,Xk,oA,bE];rw[yaa (by omega)]
  simp only[Gv,f1,uA];grind
 | succ k ih=>
  intro i x y bo t' W hi ht ho hW hWl hx hy hbo hval;refine XX (ha.mono ht) (hb.mono ht) hal hbl hu hv hx hy (by omega) ?_
  have wa:=Gd tJ hal i
  have wb:=Gd tJ hbl i
  have cx:=PS hx wa
  have cy:=PS hy wb
  have va:=Mr BB la i
  have vb:=Mr BB lb i
  generalize wd la i=ai at *
  generalize wd lb i=bi at *
  generalize hX:x+u*ai=X at *
  generalize hY:y+v*bi=Y at *
  have ex:fA .u32 (X:Int)=((X%4294967296:Nat):Int):=by rw[rV];omega
  have ey:fA .u32 (Y:Int)=((Y%4294967296:Nat):Int):=by rw[rV];omega
  have fx:Int.fdiv (X:Int) 4294967296=((X / 4294967296:Nat):Int):=Fb X 4294967296
  have fy:Int.fdiv (Y:Int) 4294967296=((Y / 4294967296:Nat):Int):=Fb Y 4294967296
  have hs:=zgz (t:=t') (x:=X%4294967296) (y:=Y%4294967296) (b:=bo) (ycy _ (by decide)) (ycy _ (by decide)) hbo
  obtain⟨w,hw⟩:∃w,w=(X%4294967296+8589934592-Y%4294967296-bo)%4294967296:=⟨_,rfl⟩
  obtain⟨bo',hbo'⟩:∃bo':Nat,bo'=if X%4294967296<Y%4294967296+bo then 1 else 0:=⟨_,rfl⟩
  rw[<- hw,<- hbo']at hs;have hwlt:w<BB:=by omega
  have hb2:bo'<2:=by rw[hbo'];split<;>omega
  have hsum:X%4294967296+4294967296*bo'=w+Y%4294967296+bo:=by
   rw[hw,hbo'];split<;>omega
  have g1:=Hm iG (b:=b) (n:=n) (cap:=n) (j:=i) (by omega)
  obtain⟨t1,s1,s2,s3⟩:=ho.store (C:=yA) hbase (j:=i) (by grind) w yH rfl
  have hset:=Sc (p:=W) (n:=k) (x:=w)
  rw[hW]at hset;rw[hset]at s2;have ei:(i:Int)+1=((i+1:Nat):Int):=by omega
  refine zpg ?_
  simp only[uL,kC,uX,uZ,za3,oA,ex,ey,q311,hs,uA,aI,zA.asTup,pA,bG,yaz,yba,aB,g1,fx,fy,ei];intro _ _ _;rw[s1,uA,wrap_i64 (by omega) (by omega)]
  rw[hBB]at cx cy;refine ih (i+1) (X / 4294967296) (Y / 4294967296) bo' t1 (W++[w]) (by omega) (ht.off hb0 s3) s2 (by simp[hW]) (Ad hWl hwlt) cx cy hb2 ?_
  have hst:=zes (B:=BB) (P:=BB^i) (ai:=ai) (bi:=bi) (x':=X / 4294967296) (y':=Y / 4294967296) (lx:=X%4294967296) (ly:=Y%4294967296) (w:=w) (bo':=bo') hval (by grind) (by grind) (by simp_all)
  grind [tO]
theorem Uv    (ha:aA t 1 (bB .u32 la) pa)(hb:aA t 1 (bB .u32 lb) pb)(hal:oB BB la)(hbl:oB BB lb)(hu:u<4294967296)(hv:v<4294967296)(hla:la.length<700000)(hlb:lb.length<700000)(hge:v*val BB lb<=u*val BB la)
  (hQ:∀t' r rv,zB t t'->aA t' 1 (bB .u32 r) rv->oB BB r->norm r->val BB r=u*val BB la-v*val BB lb->Q rv t') :
  Wc yA F 302 [.int .u64 (u:Int),pa,.int .u64 (v:Int),pb] t Q:=by
 have hBB:=aO
 refine w302 ?_
 simp only[uI,uZ,uW,t302,oA,ha.len,hb.len,uA,aB,vG];obtain⟨n,hn1,hn2,hn3,hn4⟩:∃n:Nat,(bif fB (la.length:Int) (lb.length:Int)then(lb.length:Int)else(la.length:Int))+1=(n:Int)/\la.length<n/\lb.length<n/\n<700002:=by
  cases hc:fB (la.length:Int) (lb.length:Int)with
  | true=>have:=bE.1 hc;exact⟨lb.length+1,by simp,by omega,by omega,by omega⟩
  | false=>
   have:¬ ((la.length:Int)<(lb.length:Int)):=fun h=>by grind [bE]
   exact⟨la.length+1,by simp,by omega,by omega,by omega⟩
 rw[hn1,wrap_i64 (by omega) (by omega)]
 intro b hb0 hbase;obtain⟨t',g1,g2,g3,g4⟩:=Hg (C:=yA) (k:=.u32) fL rfl yH rfl rfl (by decide) (n:=n) (by omega) hb0
 rw[g1];have el:pC (.slice b 0 n n)=some (.int .i64 (n:Int)):=rfl
 simp only[uA,el,aB];refine zet ha hb hal hbl hu hv (by omega) hbase hb0 (fun t2 W rv x z k1 k2 k3 k4 k5=>?_) n 0 0 0 0 t' [] (by omega) g3 (by simp_all) rfl (fun x hx=>by cases hx) (by omega) (by omega) (by omega) (by simp[val])
 rw[yca (by omega),yca (by omega)]at k5
 have hP:u*val BB la<BB^n:=by
  have h1:=vP tJ hal
  have h2:BB^(la.length+1)<=BB^n:=yao tJ (by omega)
  have h3:u*val BB la<=u*BB^la.length:=ybv _ (Nat.le_of_lt h1)
  have h4:u*BB^la.length<BB*BB^la.length:=Nat.mul_lt_mul_of_pos_right (by omega) (Nat.pow_pos tJ)
  grind
 grind [vP,zjh,zU,bV,mS]
end
section
variable {v:zA}{l:List Nat}{b:Nat}
variable [nC]
variable {t:Tr tA}
theorem zqs   (hv:aA t 1 (bB .u32 l) v)(hb:t.get b=none) :
  ∃H',jL v ⟨b,t⟩=some (.ptr b 0,H')/\zB t H'.t/\cA yA 253 ⟨0,H'.t⟩ (.ptr b 0)=some v:=by
 have hc:v.cells=[v]:=by
  obtain⟨cl,h1,_⟩:=hv
  rcases h1 with⟨rfl,_⟩ | ⟨_,_,_,rfl,_⟩<;>rfl
 refine⟨rF ⟨b,t⟩ [v] none,by unfold jL;rw[hc],?_,?_⟩
 ·intro c u hg
  show(t.set b _).get c=_
  grind [Tr.get_set]
 ·have hg:(rF ⟨b,t⟩ [v] none).t.get b=some (.cells (Tr.ofList [v]) 1 none):=by
   show(t.set b _).get b=_
   rw[Tr.get_set,yab rfl];rfl
  unfold cA;simp only[zA.asPtr,pA];rw[fL,pA];unfold qD;rw[hg,pA];simp only[tA.asCells,pA];unfold wT;first
   | rfl
   | (rw[cond_false,Tr.get_ofList];rfl)
theorem Wg  {i:Nat}(hv:aA t 1 (bB .u32 l) v)(hl:oB BB l)(hload:cA yA 253 ⟨0,t⟩ (.ptr b 0)=some v):kB yA F 320 [.int .i64 (i:Int),.ptr b 0] t=some (.int .u64 ((wd l i:Nat):Int)):=by
 have hBB:=aO
 refine iC.2 (w320 ?_)
 simp only[uI,uL,uZ,t320,oA,hload,uA,hv.len,aB,vG,kI];by_cases h:i<l.length
 ·obtain⟨x,hx⟩:=getElem?_of_lt h
  have hx32:x<4294967296:=by have:=lL hl hx;omega
  obtain⟨c,off,g1,g2⟩:=hv.idx iG hx
  grind [uA,aB,fF,wd]
 grind [wd]
def zdx  {n s:Nat}(hv:aA t 1 (bB .u32 l) v)(hl:oB BB l)(hn:3<=n)(hn2:n<1000000)(hs:s<32)(hb:(wd l (n-1)*4294967296+wd l (n-2))*2^s<18446744073709551616) :
  kB yA F 315 [v,.int .i64 (n:Int),.int .i64 (s:Int)] t=some (.int .u64 (((wd l (n-1)*4294967296+wd l (n-2))*2^s+wd l (n-3) / 2^(32-s):Nat):Int)):=by
 have hBB:=aO
 refine iV (w315 ?_)
 simp only[uE,uZ,uW,t315,oA];intro b hb0 _;obtain⟨H',g1,g2,g3⟩:=zqs hv hb0
 rw[g1,uA];have w1:=Gd tJ hl (n-1)
 have w2:=Gd tJ hl (n-2)
 have w3:=Gd tJ hl (n-3)
 have c1:=Wg (i:=n-1) (hv.mono g2) hl g3
 have c2:=Wg (i:=n-2) (hv.mono g2) hl g3
 have c3:=Wg (i:=n-3) (hv.mono g2) hl g3
 generalize wd l (n-1)=x1 at *
 generalize wd l (n-2)=x2 at *
 generalize wd l (n-3)=x3 at *
 have e1:(n:Int)-1=((n-1:Nat):Int):=by omega
 have e2:(n:Int)-2=((n-2:Nat):Int):=by omega
 have e3:(n:Int)-3=((n-3:Nat):Int):=by omega
 have e4:(32:Int)-(s:Int)=((32-s:Nat):Int):=by omega
 have f:∀a,mL (.func (.func 320) [] [.ptr b 0]) [a]=some (320,[a,.ptr b 0]):=fun _=>rfl
 have e5:(x1:Int)*4294967296=((x1*4294967296:Nat):Int):=by omega
 rw[f,uA,e1,wrap_i64 (by omega) (by omega),q320,c1,uA,aB,uA,f,uA,e2,wrap_i64 (by omega) (by omega),q320,c2,uA,aB,uA,e5,fF (by omega) (by omega),or32 (by omega) (by omega),uA,aB,uA,MK (by omega) hb,uA,aB,uA,f,uA,e3,wrap_i64 (by omega) (by omega),q320,c3,uA,aB,uA,e4,wrap_i64 (by omega) (by omega),MJ (by omega),uA,aB,uA]
 have hz:x3 / 2^(32-s)<2^s:=ycu (by rw[<- Nat.pow_add,show 32-s+s=32 by omega];omega)
 have hz2:(2:Nat)^s<=2^31:=yao (by decide) (by omega)
 generalize x3 / 2^(32-s)=z at hz ⊢
 have ho:=Gp (a:=x1*4294967296+x2) (b:=z) (n:=s) hz
 generalize (x1*4294967296+x2)*2^s=h at hb ho ⊢
 have hz3:z<18446744073709551616:=by omega
 rw[rW (k:=.u64) (show h<gG .u64 from hb) (show z<gG .u64 from hz3),ho,uA,aB,uA]
 exact⟨rfl,g2⟩
end
section
variable [nC]
variable {t:Tr tA}
theorem TP{A1 B1:Nat}{P:Nat->Nat->Nat->Nat->Nat->Nat->Nat->Nat->Bool->Prop}{Q:mB}(hA:A1<18446744073709551616)(hB:B1<18446744073709551616)
  (hstep:∀x y u0 u1 u2 v0 v1 v2 ev,P x y u0 u1 u2 v0 v1 v2 ev->0<y->v2<=y->v1+v2<=x-y->P y (x%y) u1 u2 (u1+x / y*u2) v1 v2 (v1+x / y*v2) (!ev))
  (hQ:∀x y u0 u1 u2 v0 v1 v2 ev,P x y u0 u1 u2 v0 v1 v2 ev->Q (.agg [.int .u64 (u0:Int),.int .u64 (u1:Int),.int .u64 (v0:Int),.int .u64 (v1:Int),.bool ev]) t) :
  ∀(y x u0 u1 u2 v0 v1 v2:Nat) (ev:Bool) (c0 c1 c2 c3:Int) (c4:Bool),P x y u0 u1 u2 v0 v1 v2 ev->A1=v2*x+v1*y->B1=u2*x+u1*y->y<=x->1<=v2->v1<=v2 →
  jp 301 2 [.int .u64 (x:Int),.int .u64 (y:Int),.int .u64 (u2:Int),.int .u64 (v2:Int),.int .u64 c0,.int .u64 c1,.int .u64 c2,.int .u64 c3,.bool c4,.int .u64 (u0:Int),.int .u64 (u1:Int),.int .u64 (v0:Int),.int .u64 (v1:Int),.bool ev] t Q:=by
 intro y;induction y using Nat.strongRecOn with
 | ind y ih=>
  intro x u0 u1 u2 v0 v1 v2 ev c0 c1 c2 c3 c4 hP hx hy hle h1 h12;refine j301_2 ?_
  simp only[uE,zks,oA,kI];by_cases g1:v2<=y
  ·rw[yab (by omega)]
   have hy0:0<y:=by omega
   have b1:v2*x<=A1:=by omega
   have b2:x<=A1:=Nat.le_trans (yan x (by omega)) b1
   have b3:v2<4294967296:=by
    rcases yau v2 4294967296 with h | h
    ·exact h
    ·exfalso
     have:4294967296*4294967296<=v2*x:=ydb h (by omega)
     omega
   have e1:fA .u64 ((v1:Int)+(v2:Int))=((v1+v2:Nat):Int):=by grind [fF]
   have e2:fA .u64 ((x:Int)-(y:Int))=((x-y:Nat):Int):=by grind [fF]
   rw[e1,e2];by_cases g2:v1+v2<=x-y
   ·rw[yab (by omega)]
    have hdm:=ych x y
    have hmod:x%y<y:=ycy _ hy0
    have hq1:1<=x / y:=by
     grind
    have hxq:x / y<=x:=Nat.div_le_self _ _
    have e3:Bu .u64 (x:Int) (y:Int)=some (.int .u64 ((x / y:Nat):Int)):=CB hy0 (by
     grind [fF])
    have e4:Bt .u64 (x:Int) (y:Int)=some (.int .u64 ((x%y:Nat):Int)):=Tz hy0
    have hst:=hstep x y u0 u1 u2 v0 v1 v2 ev hP hy0 g1 g2
    generalize x / y=q at *
    generalize x%y=r at *
    have nA:A1=(v1+q*v2)*y+v2*r:=by
     grind
    have nB:B1=(u1+q*u2)*y+u2*r:=by
     grind
    have bv:v1+q*v2<=A1:=Nat.le_trans (Nat.le_mul_of_pos_right _ hy0) (by omega)
    have bu:u1+q*u2<=B1:=Nat.le_trans (Nat.le_mul_of_pos_right _ hy0) (by omega)
    have bq:v2<=q*v2:=yan _ hq1
    have e5:fA .u64 ((v1:Int)+fA .u64 ((q:Int)*(v2:Int)))=((v1+q*v2:Nat):Int):=by
     grind [fF]
    have e6:fA .u64 ((u1:Int)+fA .u64 ((q:Int)*(u2:Int)))=((u1+q*u2:Nat):Int):=by
     grind [fF]
    rw[e3,uA,aB,uA,e4,uA,aB,uA,e5,e6];grind
   grind
  grind
end
end Go.Proofs
namespace Go.Am
def Lrel (a b x y u1 u2 v1 v2:Nat)(ev:Bool):Prop:=
 match ev with
 | false=>u1*v2=u2*v1+1/\x+v1*b=u1*a/\y+u2*a=v2*b
 | true=>u2*v1=u1*v2+1/\x+u1*a=v1*b/\y+v2*b=u2*a
def Lst (u1 u2 v1 v2:Nat):Prop:=(u1=1/\v1=0/\u2=0)\/(u1<=v1/\u2<=v2/\1<=u2/\1<=v1)
def zkd(a b u0 u1 v0 v1:Nat)(ev:Bool):Prop:=∃x y,Lrel a b x y u0 u1 v0 v1 (!ev)/\v1<=y/\v0+v1<=x-y/\u0<=v0/\u1<=v1/\1<=u1/\1<=v0/\v0<=v1
def Lsim (a b x y u0 u1 u2 v0 v1 v2:Nat)(ev:Bool):Prop:=Lrel a b x y u1 u2 v1 v2 ev/\1<=v2/\v1<=v2/\Lst u1 u2 v1 v2/\(v0=0\/zkd a b u0 u1 v0 v1 ev)
def zfx(a b:Nat):Lsim a b a b 0 1 0 0 0 1 false:=⟨⟨by simp,by simp,by simp⟩,ybk _,by omega,.inl ⟨rfl,rfl,rfl⟩,.inl rfl⟩
def zfw{a b x y u0 u1 u2 v0 v1 v2:Nat}{ev:Bool}(h:Lsim a b x y u0 u1 u2 v0 v1 v2 ev)(hy:0<y)(h1:v2<=y)(h2:v1+v2<=x-y) :
  Lsim a b y (x%y) u1 u2 (u1+x / y*u2) v1 v2 (v1+x / y*v2) (!ev):=by
 obtain⟨k1,k2,k5,k3,k4⟩:=h
 have hq:1<=x / y:=by rw[Nat.le_div_iff_mul_le hy];omega
 have hdm:=ych x y
 generalize x / y=q at *
 generalize x%y=r at *
 have hv2:v2<=q*v2:=yan _ hq
 have hu2:u2<=q*u2:=yan _ hq
 refine⟨?_,by omega,by omega,?_,?_⟩
 ·cases ev with
  | false=>
   obtain⟨m1,m2,m3⟩:=k1
   refine⟨?_,m3,?_⟩
   all_goals grind
  | true=>
   obtain⟨m1,m2,m3⟩:=k1
   refine⟨?_,m3,?_⟩
   all_goals grind
 ·right
  rcases k3 with⟨e1,e2,e3⟩ | ⟨g1,g2,g3,g4⟩
  ·grind
  ·have:=ybv q g2
   omega
 ·rcases k3 with⟨e1,e2,e3⟩ | ⟨g1,g2,g3,g4⟩
  ·omega
  ·right
   exact⟨x,y,by simp_all,h1,h2,g1,g2,g3,g4,k5⟩
end Go.Am
namespace Go.Am
variable {A B W a b p q r s u0 u1 v0 v1 α β:Nat}{ev:Bool}
def KO{X Y:Nat}(hdet:p*s=q*r+1)(hX:X+r*B=p*A)(hY:Y+q*A=s*B):A=s*X+r*Y/\B=q*X+p*Y:=by
 have a1:s*(X+r*B)=s*(p*A):=by rw[hX]
 have a2:r*(Y+q*A)=r*(s*B):=by rw[hY]
 have a3:q*(X+r*B)=q*(p*A):=by rw[hX]
 have a4:p*(Y+q*A)=p*(s*B):=by rw[hY]
 have d1:p*s*A=q*r*A+A:=by rw[hdet,ybo,Nat.one_mul]
 have d2:p*s*B=q*r*B+B:=by rw[hdet,ybo,Nat.one_mul]
 have e1:s*(p*A)=p*s*A:=by rw[<- ybj,ybh s p]
 have e2:r*(q*A)=q*r*A:=by rw[<- ybj,ybh r q]
 have e3:s*(r*B)=r*(s*B):=Nat.mul_left_comm _ _ _
 have e4:q*(p*A)=p*(q*A):=Nat.mul_left_comm _ _ _
 have e5:q*(r*B)=q*r*B:=(ybj _ _ _).symm
 have e6:p*(s*B)=p*s*B:=(ybj _ _ _).symm
 rw[ybm]at a1 a2 a3 a4;constructor<;>omega
def KN{x y:Nat}(hx:x+r*b=p*a)(hy:y+q*a=s*b)(hA:A=W*a+α)(hB:B=W*b+β)(ha:α<W)(hb:β<W)(hrs:r+s<=x-y)(h1:1<=r+s)(hq:q<=y) :
  ∃X Y,X+r*B=p*A/\Y+q*A=s*B/\Y<X:=by
 obtain⟨D,hD⟩:∃D,x=y+D:=⟨x-y,by omega⟩
 have w1:p*A=W*x+r*(W*b)+p*α:=by
  rw[hA,ybm,Nat.mul_left_comm p W,<- hx,ybm,Nat.mul_left_comm W r]
 have w2:r*B=r*(W*b)+r*β:=by rw[hB,ybm]
 have w3:s*B=W*y+q*(W*a)+s*β:=by
  rw[hB,ybm,Nat.mul_left_comm s W,<- hy,ybm,Nat.mul_left_comm W q]
 have w4:q*A=q*(W*a)+q*α:=by rw[hA,ybm]
 have i1:r*β<=W*D:=by
  rw[ybh W D];exact ydb (by omega) (by omega)
 have i2:q*α<=W*y:=by
  rw[ybh W y];exact ydb hq (by omega)
 have i3:(r+s)*β<W*D:=by
  have h2:(r+s)*β<(r+s)*W:=Nat.mul_lt_mul_of_pos_left hb (by omega)
  have h3:(r+s)*W<=D*W:=ybi _ (by omega)
  grind
 have w5:W*x=W*y+W*D:=by rw[hD,ybm]
 rw[ybo]at i3;exact⟨p*A-r*B,s*B-q*A,by omega,by omega,by omega⟩
def lehmer  (hA:A=W*a+α)(hB:B=W*b+β)(ha:α<W)(hb:β<W)(h:zkd a b u0 u1 v0 v1 ev) :
  ∃X Y,(ev=true->X+v0*B=u0*A/\Y+u1*A=v1*B)/\(ev=false->X+u0*A=v0*B/\Y+v1*B=u1*A)/\Y<X/\A=v1*X+v0*Y/\B=u1*X+u0*Y/\X+Y<A+B:=by
 obtain⟨x,y,k1,k2,k3,k4,k5,k6,k7,_⟩:=h
 have jH:∀X Y:Nat,Y<X->A=v1*X+v0*Y->B=u1*X+u0*Y->X+Y<A+B:=by
  intro X Y g1 g2 g3;have j1:X<=v1*X:=yan _ (by omega)
  have j2:X<=u1*X:=yan _ (by omega)
  omega
 cases ev with
 | true=>
  obtain⟨m1,m2,m3⟩:=k1
  obtain⟨X,Y,g1,g2,g3⟩:=KN m2 m3 hA hB ha hb k3 (by omega) (by omega)
  obtain⟨d1,d2⟩:=KO m1 g1 g2
  exact⟨X,Y,fun _=>⟨g1,g2⟩,(fun h=>absurd h (by decide)),g3,d1,d2,jH X Y g3 d1 d2⟩
 | false=>
  obtain⟨m1,m2,m3⟩:=k1
  obtain⟨X,Y,g1,g2,g3⟩:=KN m2 m3 hB hA hb ha (by omega) (by omega) k2
  have m1':v0*u1=v1*u0+1:=by grind
  obtain⟨d1,d2⟩:=KO m1' g1 g2
  exact⟨X,Y,(fun h=>absurd h (by decide)),fun _=>⟨g1,g2⟩,g3,d2,d1,jH X Y g3 d2 d1⟩
def ZY  (ha:a<18446744073709551616)(hb:b<18446744073709551616)(h:zkd a b u0 u1 v0 v1 ev):u0<4294967296/\u1<4294967296/\v0<4294967296/\v1<4294967296:=by
 obtain⟨x,y,k1,k2,k3,k4,k5,k6,k7,k8⟩:=h
 have key:a=v1*x+v0*y:=by
  cases ev with
  | true=>
   obtain⟨m1,m2,m3⟩:=k1
   grind
  | false=>
   obtain⟨m1,m2,m3⟩:=k1
   grind
 have:v1<4294967296:=by
  rcases yau v1 4294967296 with g | g
  ·exact g
  ·exfalso
   have:4294967296*4294967296<=v1*x:=ydb g (by omega)
   omega
 omega
end Go.Am
namespace Go.Am
variable {B m:Nat}{l:List Nat}
def zf9   (hl:l.length<=m+3):val B l=val B (l.take m)+B^m*(wd l m+B*(wd l (m+1)+B*wd l (m+2))):=by
 have h0:=Mr B l m
 have h1:val B (l.take (m+2))=val B (l.take (m+1))+B^(m+1)*wd l (m+1):=Mr B l (m+1)
 have h2:val B (l.take (m+3))=val B (l.take (m+2))+B^(m+2)*wd l (m+2):=Mr B l (m+2)
 grind [List.take_of_length_le]
def MM{p K:Nat} (hB:B=p*K)(hp:0<p)(hB0:0<B)(hlt:oB B l)(hl:l.length<=m+3) :
  (wd l (m+2)*B+wd l (m+1))*K+wd l m / p=val B l / (B^m*p):=by
 have h1:=zf9 (B:=B) hl
 have h2:val B (l.take m)<B^m:=by
  have h:=vP hB0 (Fl hlt m)
  grind [Nat.lt_of_lt_of_le,Nat.pow_le_pow_right]
 have h3:val B l / B^m=wd l m+B*(wd l (m+1)+B*wd l (m+2)):=by
  rw[h1,Nat.add_mul_div_left _ _ (Nat.pow_pos hB0),Nat.div_eq_of_lt h2,ybw]
 rw[<- Nat.div_div_eq_div_mul,h3];generalize wd l m=x
 have e:B*(wd l (m+1)+B*wd l (m+2))=p*(K*(wd l (m+2)*B+wd l (m+1))):=by
  rw[<- ybj p,<- hB,ybh (wd l (m+2)),yap]
 rw[e,Nat.add_mul_div_left _ _ hp,ybh K,yap]
end Go.Am
namespace Go.Proofs
open Go Go.Am
variable [nC]
variable {t:Tr tA}
theorem TN{la lb:List Nat}{pa pb:zA}{m top:Nat}{Q:mB}(ha:aA t 1 (bB .u32 la) pa)(hb:aA t 1 (bB .u32 lb) pb)(hal:oB BB la)(hbl:oB BB lb)(hla:la.length=m+3)(hm:m<700000)(hlb:lb.length<=m+3)(htop:la[m+2]?=some top)(ht0:0<top)(hle:val BB lb<=val BB la)
  (hQ:∀u0 u1 v0 v1 ev W,0<W->val BB la / W<18446744073709551616->val BB lb / W<18446744073709551616->(v0=0\/zkd (val BB la / W) (val BB lb / W) u0 u1 v0 v1 ev)->Q (.agg [.int .u64 (u0:Int),.int .u64 (u1:Int),.int .u64 (v0:Int),.int .u64 (v1:Int),.bool ev]) t) :
  Wc yA F 301 [pa,pb] t Q:=by
 have hBB:=aO
 have htlt:top<4294967296:=by have:=lL hal htop;omega
 obtain⟨s,hs,hs1,hs2,hs3⟩:=zcu (t:=t) htlt ht0
 obtain⟨c,off,g1,g2⟩:=ha.idx iG htop
 have hK:BB=2^(32-s)*2^s:=by rw[<- Nat.pow_add,show 32-s+s=32 by omega,hBB]
 have hp:0<2^(32-s):=Nat.pow_pos (by decide)
 have va:=MM hK hp tJ hal (m:=m) (by omega)
 have vb:=MM hK hp tJ hbl hlb
 have hW:0<BB^m*2^(32-s):=Nat.mul_pos (Nat.pow_pos tJ) hp
 have hdiv:val BB lb / (BB^m*2^(32-s))<=val BB la / (BB^m*2^(32-s)):=Nat.div_le_div_right hle
 have hwt:wd la (m+2)=top:=by grind [wd]
 have wa1:=Gd tJ hal (m+1)
 have wa0:=Gd tJ hal m
 have hz:wd la m / 2^(32-s)<2^s:=ycu (by omega)
 rw[hBB]at va vb;have bigA:(wd la (m+2)*4294967296+wd la (m+1))*2^s+wd la m / 2^(32-s)<18446744073709551616:=by
  rw[hwt];have q1:top+1<=2^(32-s):=by
   have:top*2^s<2^(32-s)*2^s:=by omega
   exact Nat.lt_of_mul_lt_mul_right this
  have q2:(top*4294967296+wd la (m+1))+1<=2^(32-s)*4294967296:=by
   omega
  have q3:=ybi (2^s) q2
  grind
 have hBB':∀l,val 4294967296 l=val BB l:=fun l=>by rw[hBB]
 have hPP:(4294967296:Nat)^m=BB^m:=by rw[hBB]
 rw[hBB',hPP]at va vb;have fG:(wd lb (m+2)*4294967296+wd lb (m+1))*2^s+wd lb m / 2^(32-s)<18446744073709551616:=by
  grind
 have h1:=zdx (n:=m+3) (s:=s) ha hal (by omega) (by omega) hs (yam (Nat.le_add_right _ _) bigA)
 have h2:=zdx (n:=m+3) (s:=s) hb hbl (by omega) (by omega) hs (yam (Nat.le_add_right _ _) fG)
 rw[show m+3-1=m+2 by omega,show m+3-2=m+1 by omega,show m+3-3=m by omega]at h1 h2;rw[va]at h1 bigA;rw[vb]at h2 fG;generalize hw:BB^m*2^(32-s)=W at *
 have e1:((m+3:Nat):Int)-1=((m+2:Nat):Int):=by omega
 refine w301 ?_
 simp only[uI,uL,uE,uZ,uW,t301,oA,ha.len,uA,aB,vG,hla,e1];rw[wrap_i64 (by omega) (by omega),g1,uA,g2,uA,aB,uA,q308,hs3,uA,aB,uA,q315,h1,uA,aB,uA,q315,h2,uA,aB,uA]
 simp only[if_true];exact TP (P:=Lsim (val BB la / W) (val BB lb / W)) bigA fG (fun x y u0 u1 u2 v0 v1 v2 ev hP hy k1 k2=>zfw hP hy k1 k2) (fun x y u0 u1 u2 v0 v1 v2 ev hP=>hQ u0 u1 v0 v1 ev W hW bigA fG hP.2.2.2.2) _ _ 0 1 0 0 0 1 false 0 0 0 0 false (zfx _ _) (by omega) (by omega) hdiv (by omega) (by omega)
end Go.Proofs
namespace Go.Am
def zd5{A B X Y u0 u1 v0 v1:Nat}{ev:Bool}(h1:ev=true->X+v0*B=u0*A/\Y+u1*A=v1*B)(h2:ev=false->X+u0*A=v0*B/\Y+v1*B=u1*A)(hA:A=v1*X+v0*Y)(hB:B=u1*X+u0*Y):Nat.gcd X Y=Nat.gcd A B:=by
 have gX:=Nat.gcd_dvd_left X Y
 have gY:=Nat.gcd_dvd_right X Y
 have gA:=Nat.gcd_dvd_left A B
 have gB:=Nat.gcd_dvd_right A B
 refine Nat.dvd_antisymm (Nat.dvd_gcd ?_ ?_) (Nat.dvd_gcd ?_ ?_)
 ·grind [Nat.dvd_add]
 ·grind [Nat.dvd_add]
 ·generalize Nat.gcd A B=g at *
  cases ev with
  | true=>
   grind [Nat.dvd_add_left]
  | false=>
   grind [Nat.dvd_add_left]
 ·generalize Nat.gcd A B=g at *
  cases ev with
  | true=>
   grind [Nat.dvd_add_left]
  | false=>
   grind [Nat.dvd_add_left]
theorem gcd_div{a b q r:Nat}(h:a=b*q+r):Nat.gcd b r=Nat.gcd a b:=by
 grind [Nat.mul_comm,Nat.gcd_mul_right_add_left]
theorem zpv{x y:Nat}:Nat.gcd y (x%y)=Nat.gcd x y:=by
 rw[Nat.gcd_comm y (x%y),<- Nat.gcd_rec,Nat.gcd_comm]
def FC{B:Nat}{l:List Nat}(hB:0<B)(h:oB B l)(hl:l.length<=2):val B l<B*B:=by
 have h1:=vP hB h
 have h2:B^l.length<=B^2:=yao hB hl
 grind
end Go.Am
namespace Go.Proofs
open Go Go.Am
variable {P c:Prop}{Q:mB}{la lb:List Nat}{pa pb:zA}
variable [nC]
variable {t:Tr tA}
theorem zds {d:Decidable c}{Q:Prop}(h:c)(k:P):@ite Prop c d P Q:=by simp_all
theorem ite_no {d:Decidable c}{Q:Prop}(h:¬ c)(k:Q):@ite Prop c d P Q:=by simp_all
theorem XH  : ∀(y x:Nat),x<18446744073709551616->y<18446744073709551616->(∀t' r rv,zB t t'->aA t' 1 (bB .u32 r) rv->oB BB r->norm r->val BB r=Nat.gcd x y->Q rv t')->jp 289 6 [.int .u64 (x:Int),.int .u64 (y:Int)] t Q:=by
 have hBB:=aO
 intro y;induction y using Nat.strongRecOn with
 | ind y ih=>
  intro x hx hy hQ;refine j289_6 ?_
  simp only[uE,zkt,oA,Ej];by_cases h0:y=0
  ·subst h0
   rw[yaa (by simp)]
   simp only[q304];grind [zg7,ZT,RQ,VQ]
  ·rw[yab (by omega),Tz (by omega),uA,aB,uA]
   have hm:=ycy x (show 0<y by omega)
   grind [zpv]
theorem zcx{l:List Nat}{v:zA}(hv:aA t 1 (bB .u32 l) v)(hl:l.length<=2)(hlt:oB BB l):kB yA F 303 [v] t=some (.int .u64 ((val BB l:Nat):Int)):=by
 have hBB:=aO
 grind [zo1]
theorem zff   (ha:aA t 1 (bB .u32 la) pa)(hb:aA t 1 (bB .u32 lb) pb)(hal:oB BB la)(hbl:oB BB lb)(hla:la.length<=2)(hlb:lb.length<=2)
  (hQ:∀t' r rv,zB t t'->aA t' 1 (bB .u32 r) rv->oB BB r->norm r->val BB r=Nat.gcd (val BB la) (val BB lb)->Q rv t'):jp 289 33 [pa,pb] t Q:=by
 have hBB:=aO
 have b1:=FC tJ hal hla
 have b2:=FC tJ hbl hlb
 refine zpi ?_
 simp only[uE,za5,oA,q303,zcx ha hla hal,zcx hb hlb hbl,uA,aB];grind [XH]
theorem zfg {t0:Tr tA}{G:Nat}(hQ:∀t' r rv,zB t0 t'->aA t' 1 (bB .u32 r) rv->oB BB r->norm r->val BB r=G->Q rv t'):∀(n:Nat) (la lb:List Nat) (pa pb:zA) (t:Tr tA),val BB la+val BB lb=n->zB t0 t->aA t 1 (bB .u32 la) pa->aA t 1 (bB .u32 lb) pb->oB BB la->oB BB lb->norm la->norm lb->val BB lb<=val BB la->la.length<700000->Nat.gcd (val BB la) (val BB lb)=G->jp 289 2 [pa,pb] t Q:=by
 have hBB:=aO
 have hB1:1<BB:=by omega
 intro n;induction n using Nat.strongRecOn with
 | ind n ih=>
  intro la lb pa pb t hn ht ha hb hal hbl han hbn hle hlen hg;have hlb:lb.length<=la.length:=zT hB1 hal hbn hle
  refine j289_2 ?_
  simp only[uI,uG,uX,zku,oA,hb.len,uA,aB,vG,bE];by_cases h2:2<lb.length
  ·rw[yab (by omega)]
   have hb0:lb≠[]:=by grind
   have hbpos:0<val BB lb:=by
    rcases yav (val BB lb)with h | h
    ·exact absurd (Td tJ hbn h) hb0
    ·exact h
   obtain⟨m,hm⟩:∃m,la.length=m+3:=⟨la.length-3,by omega⟩
   obtain⟨top,htop⟩:=getElem?_of_lt (l:=la) (i:=m+2) (by omega)
   have ha0:la≠[]:=by grind
   have ht0:0<top:=by
    have:=han ha0
    grind
   rw[q301];refine TN ha hb hal hbl hm (by omega) (by omega) htop ht0 hle fun u0 u1 v0 v1 ev W hW hA hB hL=>?_
   have eG:eK [(.int .u64 0),(.int .u64 0),(.int .u64 0),(.int .u64 0),(.bool false)] (.agg [.int .u64 (u0:Int),.int .u64 (u1:Int),.int .u64 (v0:Int),.int .u64 (v1:Int),.bool ev])=some (cellsOf [.int .u64 (u0:Int),.int .u64 (u1:Int),.int .u64 (v0:Int),.int .u64 (v1:Int),.bool ev]):=zO rfl
   rw[eG];simp only[uA,cellsOf,zir,Ih,yaz,yba,if_true,Jp];by_cases hv0:v0=0
   ·refine zds (kJ.2 (by omega)) ?_
    rw[q295];refine DB ha hb hlen hal hbl han hbn hb0 fun t' q r qv rv k1 k2 k3 k4 k5 k6 k7 k8 k9=>?_
    simp only[aI,zA.asTup,pA,bG,yaz,yba,uA];refine ih (val BB lb+val BB r) (by omega) lb r pb rv t' rfl (ht.trans k1) (hb.mono k1) k3 hbl k5 hbn k7 (by omega) (by omega) ?_
    grind [gcd_div]
   ·refine ite_no (fun e=>absurd (kJ.1 e) (by omega)) ?_
    rcases hL with h | hL
    ·omega
    obtain⟨s1,s2,s3,s4⟩:=ZY hA hB hL
    have eA:val BB la=W*(val BB la / W)+val BB la%W:=(ych _ _).symm
    have eB:val BB lb=W*(val BB lb / W)+val BB lb%W:=(ych _ _).symm
    obtain⟨X,Y,l1,l2,l3,l4,l5,l6⟩:=lehmer eA eB (ycy _ hW) (ycy _ hW) hL
    have hgg:=zd5 l1 l2 l4 l5
    have hXA:X<=val BB la:=by
     have:X<=v1*X:=yan _ (by
      obtain⟨x,y,_,_,_,_,_,_,w2,w3⟩:=hL;omega)
     omega
    cases ev with
    | true=>
     obtain⟨m1,m2⟩:=l1 rfl
     simp only[if_true];rw[q302];refine Uv ha hb hal hbl s1 s3 hlen (by omega) (by omega) fun t1 r1 rv1 k1 k2 k3 k4 k5=>?_
     rw[q302];refine Uv (hb.mono k1) (ha.mono k1) hbl hal s4 s2 (by omega) hlen (by omega) fun t2 r2 rv2 j1 j2 j3 j4 j5=>?_
     have e1:val BB r1=X:=by omega
     have e2:val BB r2=Y:=by omega
     refine ih (val BB r1+val BB r2) (by omega) r1 r2 rv1 rv2 t2 rfl (ht.trans (k1.trans j1)) (k2.mono j1) j2 k3 j3 k4 j4 (by omega) ?_ (by grind)
     have:=zT hB1 hal k4 (by omega)
     omega
    | false=>
     obtain⟨m1,m2⟩:=l2 rfl
     simp only[if_true,ybq,if_false];rw[q302];refine Uv hb ha hbl hal s3 s1 (by omega) hlen (by omega) fun t1 r1 rv1 k1 k2 k3 k4 k5=>?_
     rw[q302];refine Uv (ha.mono k1) (hb.mono k1) hal hbl s2 s4 hlen (by omega) (by omega) fun t2 r2 rv2 j1 j2 j3 j4 j5=>?_
     have e1:val BB r1=X:=by omega
     have e2:val BB r2=Y:=by omega
     refine ih (val BB r1+val BB r2) (by omega) r1 r2 rv1 rv2 t2 rfl (ht.trans (k1.trans j1)) (k2.mono j1) j2 k3 j3 k4 j4 (by omega) ?_ (by grind)
     have:=zT hB1 hal k4 (by omega)
     omega
  ·rw[yaa (by omega)]
   simp only[kJ];by_cases h0:lb.length=0
   ·rw[yab (by omega)]
    have:lb=[]:=ycc.1 h0
    subst this;refine hQ t la pa ht ha hal han ?_
    rw[<- hg];simp only[val];rw[Nat.gcd_zero_right]
   ·rw[yaa (by omega)]
    simp only[ha.len,uA,aB,vG,bE];have hb0:lb≠[]:=by simp_all
    by_cases h3:2<la.length
    ·rw[yab (by omega),q295]
     refine DB ha hb hlen hal hbl han hbn hb0 fun t' q r qv rv k1 k2 k3 k4 k5 k6 k7 k8 k9=>?_
     simp only[aI,zA.asTup,pA,bG,yaz,yba,uA];have:=zT hB1 hbl k7 (Nat.le_of_lt k9)
     refine zff (hb.mono k1) k3 hbl k5 (by omega) (by omega) fun t2 r2 rv2 j1 j2 j3 j4 j5=>?_
     exact hQ t2 r2 rv2 (ht.trans (k1.trans j1)) j2 j3 j4 (by grind [gcd_div])
    ·rw[yaa (by omega)]
     refine zff ha hb hal hbl (by omega) (by omega) fun t2 r2 rv2 j1 j2 j3 j4 j5=>?_
     exact hQ t2 r2 rv2 (ht.trans j1) j2 j3 j4 (by omega)
def cd_ok   (ha:aA t 1 (bB .u32 la) pa)(hb:aA t 1 (bB .u32 lb) pb)(hal:oB BB la)(hbl:oB BB lb)(han:norm la)(hbn:norm lb)(hla:la.length<700000)(hlb:lb.length<700000)
  (hQ:∀t' r rv,zB t t'->aA t' 1 (bB .u32 r) rv->oB BB r->norm r->val BB r=Nat.gcd (val BB la) (val BB lb)->Q rv t'):Wc yA F 289 [pa,pb] t Q:=by
 have hBB:=aO
 have hB1:1<BB:=by omega
 have hlt:=ze7 hB1 hal hbl han hbn
 refine w289 ?_
 simp only[uI,t289,oA,q300,zmu (by omega) ha hb,uA,aB,bE]
 by_cases hc:bN la lb<0
 ·rw[yab hc]
  have:=hlt.1 hc
  exact zfg hQ _ lb la pb pa t rfl (zB.refl _) hb ha hbl hal hbn han (by omega) hlb (Nat.gcd_comm _ _)
 ·rw[yaa hc]
  have:val BB lb<=val BB la:=Nat.le_of_not_lt fun h=>hc (hlt.2 h)
  exact zfg hQ _ la lb pa pb t rfl (zB.refl _) ha hb hal hbl han hbn this hla rfl
end Go.Proofs
namespace Go.Proofs
open Go Go.Am
variable {l:List iJ}{v:zA}
variable [nC]
variable {t:Tr tA}
theorem JP{neg:Bool}{l:List Nat}(h:rK neg l=true):norm l:=by
 intro hne;grind [rK]
theorem ZS  (hv:aA t 2 (l.map iJ.d) v)(hb:∀w∈l,w.limbs.length<1125899906842624)(hn:l.length<1125899906842624):∀(k i:Nat),i+k=l.length->jp 288 2 [v,.int .i64 (l.length:Int),.int .i64 (i:Int)] t (fun r m=>r=.bool ((l.drop i).all fun w=>rK w.neg w.limbs)/\m=t):=by
 intro k;induction k with
 | zero=>
  intro i hi;refine zlw ?_
  simp only[uB,uG,jB,kC,wC,yI,uZ,rH,gH,Xp,oA,bE];simp_all
 | succ k ih=>
  intro i hi;have hlt:i<l.length:=by omega
  have hx:l[i]?=some l[i]:=ybd hlt
  obtain⟨b,off,cs,g1,g2,_,_,g5⟩:=gI.at sl323 (by simp) hv (i:=i) (d:=l[i].d) (by simp[hx])
  obtain⟨u,rfl,hu⟩:=Sl g5
  have hv1:=Gg (neg:=l[i].neg) (hb _ (ycj hlt)) hu
  refine zlw ?_
  simp only[uB,uG,jB,kC,wC,yI,uZ,rH,gH,Xp,oA,bE];rw[yab (by omega),g1,uA,g2,Mt,uA,iW g5 (iJ.zs _)]
  simp only[uA,cellsOf,Ih,Je,yaz,yba];have hone:sD zA.one [.bool l[i].neg,u]=true:=by
   show(bif zA.one (.bool l[i].neg)then(bif zA.one u then true else false)else false)=true
   rw[hu.one];rfl
  refine zds hone ?_
  rw[q196,hv1];simp only[uA,Fk,AI];rw[ybl hlt,ycg]
  cases hq:rK l[i].neg l[i].limbs with
  | false=>simp
  | true=>
   simp only[ycn,Bool.true_eq_false,if_false];rw[wrap_i64 (by omega) (by omega)]
   exact ih (i+1) (by omega)
theorem QR  (hv:aA t 2 (l.map iJ.d) v)(hb:∀w∈l,w.limbs.length<1125899906842624)(hn:l.length<1125899906842624):kB yA F 288 [v] t=some (.bool (l.all fun w=>rK w.neg w.limbs)):=by
 refine iC.2 (w288 ?_)
 simp only[uI,uZ,t288,oA,hv.len,uA,aB,ybf];have:=ZS hv hb hn l.length 0 (by omega)
 simp_all
theorem zml{n d:iJ}{u:zA}{Q:mB}(hu:aA t 1 (cC n.limbs) u)(hv:aA t 1 (cC d.limbs) v)(hn:n.limbs.length<700000)(hd:d.limbs.length<700000)(hnl:oB 65536 n.limbs)(hdl:oB 65536 d.limbs)(hnv:rK n.neg n.limbs=true)(hdv:rK d.neg d.limbs=true)
  (hQ:∀t' g rv,zB t t'->aA t' 1 (cC g) rv->oB 65536 g->norm g->val 65536 g=Nat.gcd (val 65536 n.limbs) (val 65536 d.limbs)->Q (.tup [.agg [.bool false,rv],.int .i64 0]) t'):Wc yA F 267 [.agg [.bool n.neg,u],.agg [.bool d.neg,v]] t Q:=by
 have hBB:=aO
 refine w267 ?_
 simp only[uB,uG,jB,uZ,rH,gH,t267,oA];intro b hb hbase;obtain⟨t1,g1,g2,g3,g4⟩:=Ou (C:=yA) (T:=323) (el:=24) (sz:=2) (n:=2) (cl:=[[.bool n.neg,u],[.bool d.neg,v]]) (ps:=[(0,.agg [.bool n.neg,u]),(1,.agg [.bool d.neg,v])]) znm rfl ty24 rfl rfl (by decide) rfl (fun i cs hi=>by
  grind) rfl hb
 rw[g1,uA];have hw:aA t1 2 ([n,d].map iJ.d) (.slice b 0 2 2):=⟨_,g2,by
  simp only[ycm,List.map_nil,vH,cH];refine⟨_,_,rfl,?_,_,_,rfl,?_,rfl⟩
  ·unfold iJ.d
   rw[eO];refine⟨[[.bool n.neg],[u]],rfl,?_⟩
   simp only[vH,cH,Vy,fW];exact⟨_,_,rfl,rfl,_,_,rfl,⟨u,rfl,hu.mono g3⟩,rfl⟩
  ·unfold iJ.d
   rw[eO];refine⟨[[.bool d.neg],[v]],rfl,?_⟩
   simp only[vH,cH,Vy,fW];exact⟨_,_,rfl,rfl,_,_,rfl,⟨v,rfl,hv.mono g3⟩,rfl⟩⟩
 have hall:=QR hw (fun w hw=>by
  grind) (by simp)
 rw[q288,hall];simp only[uA,Fk,AI,ycg,yck,hnv,hdv,Bool.and_self,Bool.true_eq_false,if_false];rw[q235];refine Ny (hu.mono g3) (by omega) hnl fun t2 v2 k1 k2=>?_
 rw[yab hv.same,q235];refine Ny ((hv.mono g3).mono k1) (by omega) hdl fun t3 v3 m1 m2=>?_
 have an:=Io hnl
 have ad:=Io hdl
 rw[<- hBB]at an ad;rw[q289];refine cd_ok (k2.mono m1) m2 an ad (Ke (JP hnv)) (Ke (JP hdv)) (by rw[dQ];omega) (by rw[dQ];omega) fun t4 r rv p1 p2 p3 p4 p5=>?_
 rw[hBB]at p3;have vn:∀l,val BB (tG l)=val 65536 l:=fun l=>by grind [Rl]
 rw[vn,vn]at p5;have hrl:r.length<400000:=by
  have hB1:1<BB:=by omega
  rcases yav (val 65536 n.limbs)with h0 | h0
  ·rw[h0,Nat.gcd_zero_left,<- vn]at p5
   have:=zT hB1 ad p4 (Nat.le_of_eq p5)
   grind [dQ]
  ·have h1:=Nat.gcd_le_left (val 65536 d.limbs) h0
   rw[<- p5,<- vn]at h1;have:=zT hB1 an p4 h1
   grind [dQ]
 rw[q248];refine Wl p2 hrl p3 fun t5 v5 s1 s2=>?_
 rw[Ng p4]at s2 ⊢
 have eG:eK [(.bool false),.nilslice] (.agg [.bool (if r=[]then false else false),v5])=some (cellsOf [.bool (if r=[]then false else false),v5]):=zO (by
  show(true&&(Ce .nilslice v5&&true))=true
  rw[CO s2];rfl)
 rw[eG];have hone:sD zA.one [.bool false,v5]=true:=by
  show(bif zA.one (.bool false)then(bif zA.one v5 then true else false)else false)=true
  rw[s2.one];rfl
 simp only[uA,cellsOf,Ih,Je,yaz,yba,ite_self,hone,if_true];refine hQ t5 (lE (lH r)) v5 (g3.trans (k1.trans (m1.trans (p1.trans s1)))) s2 (zU (Vv p3)) (bV _) ?_
 rw[mS,<- p5,Rk,hBB]
end Go.Proofs
namespace Go.Am
def zF.fit(f:zF):Prop:=f.ok/\oB 65536 f.n.limbs/\oB 65536 f.d.limbs
def eD.fit(v:eD):Prop:=v.kind<256/\v.f.fit /\ -9223372036854775808<=v.i/\v.i<9223372036854775808
mutual
def lA.fit:lA->Prop
 | .mk op name v args=>op<256/\name.length<fG/\(∀c∈name,c<256)/\v.fit/\args.length<fG/\lA.fits args
def lA.fits:List lA->Prop
 | []=>True
 | x::l=>x.fit/\lA.fits l
end
def lA.fits_mem:∀ {l:List lA},lA.fits l->∀x∈l,x.fit
 | [],_,_,h=>by cases h
 | y::l,h,x,hx=>by
  unfold lA.fits at h;rcases ybs.1 hx with rfl | hx
  ·exact h.1
  ·exact lA.fits_mem h.2 x hx
mutual
def lA.fit_ok:∀ {x:lA},x.fit->x.ok
 | .mk op name v args,h=>by
  unfold lA.fit at h;unfold lA.ok;exact⟨h.2.1,h.2.2.2.1.2.1.1,h.2.2.2.2.1,lA.fits_oks h.2.2.2.2.2⟩
def lA.fits_oks:∀ {l:List lA},lA.fits l->lA.oks l
 | [],_=>by grind [lA.oks]
 | x::l,h=>by
  unfold lA.fits at h;unfold lA.oks;exact⟨lA.fit_ok h.1,lA.fits_oks h.2⟩
end
def i64 (n:Int):Prop := -9223372036854775808<=n/\n<9223372036854775808
def XRow.fit(r:XRow):Prop:=i64 r.a/\i64 r.b/\i64 r.known/\r.f.fit
def Lu.fit(x:Lu):Prop:=x.name.length<fG/\x.rows.length<fG/\∀r∈x.rows,r.fit
def XDef.fit(x:XDef):Prop:=x.name.length<fG/\x.kind<256
def Da.fit(x:Da):Prop:=x.name.length<fG/\x.label.length<fG/\i64 x.from_/\i64 x.to/\i64 x.known/\x.when_.fit/\x.then_.fit
structure Ip.fit (p:Ip):Prop where
 name:p.name.length<fG
 ndefs:p.defs.length<fG
 ntables:p.tables.length<fG
 nclauses:p.clauses.length<fG
 defs:∀d∈p.defs,d.fit
 tables:∀d∈p.tables,d.fit
 clauses:∀d∈p.clauses,d.fit
end Go.Am
namespace Go.Proofs
open Go Go.Am
variable {a b:Int}{f:zF}{u v:zA}
variable [nC]
variable {t:Tr tA}
def cU(w:iJ):Bool := !w.neg&&decide (w.limbs=[1])
def bM(f:zF):Bool:=decide (f.n.limbs.length<=256)&&decide (f.d.limbs.length<=256)&&rK f.n.neg f.n.limbs&&rK f.d.neg f.d.limbs && !f.d.neg&&decide (f.d.limbs≠[])&&(cU f.d||decide (Nat.gcd (val 65536 f.n.limbs) (val 65536 f.d.limbs)=1))
theorem aC  : fB a b=decide (a<b):=by
 grind [bE]
theorem oR  : gE a b=decide (a<=b):=by
 grind [kI]
theorem fE  : lB a b=decide (a=b):=by
 grind [kJ]
theorem SR  (hu:aA t 1 (cC f.n.limbs) u)(hv:aA t 1 (cC f.d.limbs) v)(hf:zF.fit f):kB yA F 182 [.agg [.bool f.n.neg,u,.bool f.d.neg,v]] t=some (.bool (bM f)):=by
 obtain⟨h1,h2,h3⟩:=hf
 unfold zF.ok fG at h1;have c1:kB yA F 232 [.agg [.bool f.n.neg,u,.bool f.d.neg,v]] t=some (.bool (!(decide (f.n.limbs.length<=256)&&decide (f.d.limbs.length<=256)))):=by
  refine iC.2 (w232 ?_)
  simp only[uI,yI,t232,oA,hu.len,hv.len,uA,aB,dR];grind [bE]
 have c2:=Gg (neg:=f.n.neg) (by omega) hu
 have c3:=Gg (neg:=f.d.neg) (by omega) hv
 have c4:kB yA F 184 [.agg [.bool f.n.neg,u,.bool f.d.neg,v]] t=some (.bool (cU f.d)):=by
  refine iC.2 (w184 ?_)
  simp only[uB,t184,oA,q233,BU hv,uA,Fk]; (first | exact⟨rfl,rfl⟩ | exact⟨rfl,trivial⟩ | trivial)
 refine iV (w182 ?_)
 simp only[uI,uB,uG,wC,yI,gH,t182,oA,q232,c1,q196,c2,c3,q184,c4,uA,Fk,hv.len,aB,dR,kJ,AI];unfold bM;by_cases g1:f.n.limbs.length<=256
 ·by_cases g2:f.d.limbs.length<=256
  ·simp only[g1,g2,decide_true,ycn,Bool.not_true,ybq,if_false]
   cases hn:rK f.n.neg f.n.limbs with
   | false=>simp
   | true=>
    cases hd:rK f.d.neg f.d.limbs with
    | false=>simp
    | true=>
     simp only[Bool.true_eq_false,if_false,ycn]
     cases hg:f.d.neg with
     | true=>simp
     | false=>
      simp only[ybq,if_false,ycl,ycn];by_cases h0:f.d.limbs=[]
      ·simp_all
      ·have:f.d.limbs.length≠0:=fun e=>h0 (ycc.1 e)
       rw[yaa (by omega)]
       simp only[h0,ne_eq,not_false_eq_true,decide_true,ycn]
       cases ho:cU f.d with
       | true=>simp
       | false=>
        simp only[ybq,if_false,Bool.false_or];rw[q234];refine w234 ?_
        simp only[uI,uG,jB,uX,rH,gH,t234,oA,q267];have hn':=hn
        have hd':=hd
        rw[hg]at hd'
        refine zml (n:=f.n) (d:=⟨false,f.d.limbs⟩) hu hv (by omega) (by grind) h2 h3 hn' hd' fun t' g rv k1 k2 k3 k4 k5=>?_
        have eG:eK [(.bool false),.nilslice] (.agg [.bool false,rv])=some (cellsOf [.bool false,rv]):=zO (by
         show(true&&(Ce .nilslice rv&&true))=true
         rw[CO k2];rfl)
        have hone:sD zA.one [.bool false,rv]=true:=by
         show(bif zA.one (.bool false)then(bif zA.one rv then true else false)else false)=true
         rw[k2.one];rfl
        simp only[aI,zA.asTup,pA,bG,yaz,yba,uA,aB,eG,cellsOf,Ih,Je,hone,if_true];rw[q233,BU k2];simp only[uA,Fk,ycl,ycn]
        refine⟨?_,k1⟩
        congr 1
        rw[decide_eq_decide,<- k5];constructor
        ·intro e;subst e;rfl
        ·intro e
         exact JQ (B:=65536) (by decide) k3 (fun x hx=>by grind) k4 (fun _=>by simp) (by rw[e];rfl)
  grind
 grind
theorem Wi  (hu:aA t 1 (cC f.n.limbs) u)(hv:aA t 1 (cC f.d.limbs) v)(hf:zF.fit f):kB yA F 130 [.agg [.bool f.n.neg,u,.bool f.d.neg,v]] t=some (.bool (bM f)):=by
 refine iC.2 (w130 ?_)
 simp only[uB,t130,oA,q182,SR hu hv hf,uA,Fk,if_true];simp_all
end Go.Proofs
namespace Go.Proofs
open Go Go.Am
variable {s:List Nat}{k:Nat}
variable [nC]
variable {t:Tr tA}
theorem gS{a b:List Nat}(h:a.length+b.length<4611686018427387904):jN a b=some (.str (a++b)):=by
 unfold jN;rw[kD,kD,qC.2 h,aG];rfl
theorem Jn  (h:k<=s.length):vF yA 9 kL (.str s) (some (.int .i64 (k:Int))) none=some (.str (s.drop k)):=by
 unfold vF kN;rw[gL,pA];simp only[zA.asStr];rw[show vE.isString .string=true from rfl,cD];unfold Nj nQ Cr nY;grind [mM,pA,zA.asNat,zA.asInt,kD,aE,cD,xT,vR,List.take_length]
theorem Dw  (h:k<=s.length):vF yA 9 kL (.str s) none (some (.int .i64 (k:Int)))=some (.str (s.take k)):=by
 unfold vF kN;rw[gL,pA];simp only[zA.asStr];rw[show vE.isString .string=true from rfl,cD];unfold Nj nQ Cr nY;have e:mM (k:Int)=some k:=rfl
 simp only[pA,zA.asNat,zA.asInt,e,kD,aE.2 h,aE.2 (yaw _),cD,xT,vR,ycr]
end Go.Proofs
namespace Go.Am
open Go Go.RowKit
section
variable {t tf tf0:Tr tA}{C:iA}
mutual
theorem RD.ones:∀(d:D) (cs:List zA),RD t d cs->∀a∈cs,zA.one a=true
 | .int _ _,cs,h,a,ha=>by rw[RD]at h;subst h;simp at ha;subst ha;rfl
 | .bool _,cs,h,a,ha=>by rw[RD]at h;subst h;simp at ha;subst ha;rfl
 | .str _,cs,h,a,ha=>by rw[RD]at h;subst h;simp at ha;subst ha;rfl
 | .sl sz l,cs,h,a,ha=>by
  rw[fW]at h;obtain⟨v,rfl,h⟩:=h
  simp at ha;subst ha;exact h.one
 | .st l,cs,h,a,ha=>by
  rw[eO]at h;obtain⟨cl,rfl,h⟩:=h
  exact uD.ones l cl h a ha
theorem uD.ones:∀(l:List D) (cl:List (List zA)),uD t l cl->∀a∈cl.flatten,zA.one a=true
 | [],cl,h,a,ha=>by grind [uD]
 | d::l,cl,h,a,ha=>by
  rw[uD]at h;obtain⟨c,r,rfl,h1,h2⟩:=h
  rw[yas,yaf]at ha;rcases ha with ha | ha
  ·exact RD.ones d c h1 a ha
  ·exact uD.ones l r h2 a ha
end
theorem RD.all{d:D}{cs:List zA}(h:RD t d cs):sD zA.one cs=true:=by
 grind [mI,RD.ones]
theorem RD.mk{d:D}{cs zs:List zA}(h:RD t d cs)(hz:d.zs=zs):Bj zs (cellsOf cs) 0=cs:=by
 have:=NL zs cs [] (by grind [CN])
 simp_all
end
end Go.Am
namespace Go.Am
open Go Go.RowKit
section
variable {C:iA}{t:Tr tA}
def Ko(C:iA)(T:Nat)(k:zA):Bool:=
 match ob (C.tys.get T) fun ty=>ob ty.desc.asMap fun ke=>ob (C.tys.get ke.1) fun kty=>tB (wW C kty&&rT C kty k) (some ())with | some _=>true | none=>false
theorem LV{T:Nat}{k:zA}(h:Ko C T k=true):∃ty ke kty,C.tys.get T=some ty/\ty.desc.asMap=some ke/\C.tys.get ke.1=some kty/\wW C kty=true/\rT C kty k=true:=by
 grind [Ko,sA,sB]
theorem znk{T b n:Nat}{k v:zA}{l l':List (zA × zA)}(hk:Ko C T k=true)(hb:C.base<=b)(hm:t.get b=some (.map l))(hs:qO k v l=some l') :
  rU C T (.map b) k v ⟨n,t⟩=some (pD,⟨n,t.set b (.map l')⟩):=by
 obtain⟨ty,ke,kty,h1,h2,h3,h4,h5⟩:=LV hk
 have e2:(!Nat.blt b C.base)=true:=by
  grind [qC]
 have e3:nL ⟨n,t⟩ b=some l:=by unfold nL;rw[hm];rfl
 unfold rU;rw[h1,pA,h2,pA,h3,pA,h4,cD];simp only[zA.asMap,pA];rw[e2,cD,e3,pA,h5,cD,hs];rfl
theorem zh2{T b n:Nat}{k v:zA}{l:List (zA × zA)}(hk:Ko C T k=true)(hm:t.get b=some (.map l))(hs:pL k l=some (some v)){ty:lD}(hT:C.tys.get T=some ty){ke:Nat × Nat}(hd:ty.desc.asMap=some ke){ety:lD}(he:C.tys.get ke.2=some ety)(ok:Bool) :
  xZ C T ⟨n,t⟩ (.map b) k ok=some (bif ok then .tup [v,.bool true]else v):=by
 obtain⟨ty,ke,kty,h1,h2,h3,h4,h5⟩:=LV hk
 rw[hT]at h1;cases h1;rw[hd]at h2;cases h2;have e3:nL ⟨n,t⟩ b=some l:=by unfold nL;rw[hm];rfl
 unfold xZ;rw[hT,pA,hd,pA,h3,pA,h4,cD,he,pA];have e4:lX ⟨n,t⟩ (.map b)=some l:=by grind [lX,zA.asMap]
 rw[e4,pA,h5,cD,hs,pA]
mutual
theorem RD.sames1:∀(d:D) (cs:List zA),RD t d cs->∀a∈cs,∀k,Am.same k a a=true
 | .int _ _,cs,h,a,ha,k=>by grind [RD,Jp]
 | .bool _,cs,h,a,ha,k=>by grind [RD,HH]
 | .str _,cs,h,a,ha,k=>by grind [RD,HF]
 | .sl sz l,cs,h,a,ha,k=>by
  rw[fW]at h;obtain⟨v,rfl,h⟩:=h
  simp at ha;subst ha;exact h.same
 | .st l,cs,h,a,ha,k=>by
  rw[eO]at h;obtain⟨cl,rfl,h⟩:=h
  exact uD.sames1 l cl h a ha k
theorem uD.sames1:∀(l:List D) (cl:List (List zA)),uD t l cl->∀a∈cl.flatten,∀k,Am.same k a a=true
 | [],cl,h,a,ha,k=>by grind [uD]
 | d::l,cl,h,a,ha,k=>by
  rw[uD]at h;obtain⟨c,r,rfl,h1,h2⟩:=h
  rw[yas,yaf]at ha;rcases ha with ha | ha
  ·exact RD.sames1 d c h1 a ha k
  ·exact uD.sames1 l r h2 a ha k
end
def HE:∀ {l:List zA} {k:Nat},(∀a∈l,∀k,Am.same k a a=true)->Am.same.sames k l l=true
 | [],_,_=>rfl
 | a::l,k,h=>by
  rw[Am.same.sames,h a (.head _) k,HE fun b hb=>h b (.tail _ hb)];rfl
theorem RD.sameA{d:D}{cs:List zA}(h:RD t d cs){k:Nat}:Am.same (k+1) (.agg cs) (.agg cs)=true:=HE (RD.sames1 d cs h)
theorem lC.up{t':Tr tA}{b:Nat}{lo:Option Lo}{cs:List zA}(h:lC t b lo cs)(k:zB t t'):lC t' b lo cs:=by
 obtain⟨c,h1,h2⟩:=h
 exact⟨c,k _ _ h1,h2⟩
end
end Go.Am
namespace Go.Proofs
open Go Go.Am
def vN(n:Nat):Bool:=(decide (65<=n)&&decide (n<=90))||(decide (97<=n)&&decide (n<=122))
def nD(n:Nat):Bool:=decide (48<=n)&&decide (n<=57)
def iK(n:Nat):Bool:=vN n||nD n||decide (n=95)
def jE (p:Nat->Bool)(s:List Nat):List Nat:=s.takeWhile p
def resW:Nat->List Nat
 | 2=>[32,116,111,32,105,115,32,97,116,32,105,102,32,111,114,32,117,112,32]
 | 3=>[32,100,101,102,32,114,111,119,32,111,110,101,32,116,119,111,32,101,110,100,32,111,102,102,32,104,97,115,32,109,105,110,32,109,97,120,32,97,110,100,32,110,111,116,32]
 | 4=>[32,112,108,97,110,32,102,97,99,116,32,102,114,111,109,32,119,104,101,110,32,116,104,101,110,32,100,97,116,101,32,100,97,121,115,32,116,114,117,101,32,108,111,111,107,32,98,101,115,116,32,103,114,111,119,32,100,111,119,110,32,99,101,105,108,32,104,97,108,102,32,101,118,101,110,32]
 | 5=>[32,116,97,98,108,101,32,107,110,111,119,110,32,116,114,117,116,104,32,109,111,110,101,121,32,102,97,108,115,101,32,109,105,110,117,115,32,116,111,100,97,121,32,114,111,117,110,100,32,115,116,97,114,116,32,102,108,111,111,114,32]
 | 6=>[32,99,108,97,117,115,101,32,110,117,109,98,101,114,32,109,111,110,116,104,115,32]
 | 7=>[32,98,101,116,119,101,101,110,32,115,101,114,118,105,99,101,32]
 | _=>[]
def Zn(s:List Nat):Bool:=decide (2<=s.length)&&decide (s.length<=7)&&qF (jE vN s) s&&Cn ([32]++s++[32]) (resW s.length)
def mO(s:List Nat):Bool:=match s with
 | []=>false
 | x::r=>decide ((x::r).length<=24)&&vN x&&qF (jE iK (x::r)) (x::r) && !Zn (x::r)
structure bC where
 kind:Nat
 text:List Nat
 line:Nat
 col:Nat
def wE (s:List Nat):Nat:=s.foldl (fun n b=>n*10+(b-48)) 0
def wK(i b:Nat):Bool:=if i=4\/i=7 then decide (b=45)else nD b
def cI(s:List Nat):Bool:=decide (10<=s.length)&&(List.range 10).all fun i=>wK i (s.getD i 0)
def Oz(y:Nat):Bool:=decide (y%4=0)&&(decide (y%100≠0)||decide (y%400=0))
def Ox:List Nat:=[31,28,31,30,31,30,31,31,30,31,30,31]
def wN(y m:Nat):Nat:=if m<1\/12<m then 0 else if m=2/\Oz y=true then 29 else Ox.getD (m-1) 0
def wR(y:Nat):Nat:=y / 4-y / 100+y / 400
def Jl(y:Nat):Nat->Nat
 | 0=>0
 | k+1=>Jl y k+wN y (k+1)
def yG(m:Nat):Nat:=365*(m / 12)+wR (1899+m / 12)-wR 1899+Jl (1900+m / 12) (m%12)
def Cl (y m d:Nat):Option Nat:=if y<1900\/2079<y\/d<1\/wN y m<d then none else if yG (12*(y-1900)+m-1)+d-1<65536 then some (yG (12*(y-1900)+m-1)+d-1)else none
def wV (s:List Nat):Option Nat:=Cl (wE (s.take 4)) (wE ((s.take 7).drop 5)) (wE (s.drop 8))
def oO(s:List Nat):Bool:=decide (1<s.length)&&decide (s.head?=some 48)
def Er(b:Nat):Bool:=[40,41,44,43,45,42,47,60,61].contains b
inductive TR where
 | bad (e:Nat)
 | tok (kind:Nat) (text:List Nat)
def bD(s:List Nat):List Nat:=jE nD s
def wG(s:List Nat):List Nat:=if s[(bD s).length]?=some 47 then jE nD (s.drop ((bD s).length+1))else []
def xG(s:List Nat):Nat:=if wG s=[]then(bD s).length else(bD s).length+1+(wG s).length
def lR(s:List Nat)(n:Nat):Bool:=match s[n]? with | some b=>iK b | none=>false
def lK(s:List Nat):Bool:=decide (200<xG s)||lR s (xG s)||oO (bD s)||oO (wG s)||decide (wG s=[48])
def oQ(s:List Nat):Bool:=(decide (10<s.length)&&lR s 10)||decide (wV (s.take 10)=none)
def uF(s:List Nat):TR:=
 match s with
 | []=>.bad 110
 | b::_=>
  if vN b then(if 24<(jE iK s).length then .bad 111 else .tok 1 (jE iK s))
  else if nD b&&cI s then(if oQ s then .bad 113 else .tok 3 (s.take 10))
  else if nD b then(if lK s then .bad 112 else .tok 2 (s.take (xG s)))
  else if Er b then .tok 4 [b]else .bad 110
inductive LR where
 | ok (l:List bC)
 | er (e line col:Nat)
def LR.cons(t:bC):LR->LR
 | .ok l=>.ok (t::l)
 | .er e a b=>.er e a b
def endT (p:Nat × Nat):bC:=⟨5,[],p.1,p.2⟩
def LR.close(op:Option (Nat × Nat))(r:LR):LR:=match op with | some p=>r.cons (endT p) | none=>r
def xN:Nat->List Nat->Nat->Nat->Option (Nat × Nat)->LR
 | 0,_,_,_,_=>.ok []
 | _+1,[],_,_,op=>LR.close op (.ok [])
 | k+1,b::r,ln,cl,op=>
  if b=10 then LR.close op (xN k r (ln+1) 1 none)
  else if b=32\/b=9 then xN k r ln (cl+1) op
  else if b=35 then xN k ((b::r).drop (jE (fun x=>decide (x≠10)) (b::r)).length) ln (cl+(jE (fun x=>decide (x≠10)) (b::r)).length) op
  else match uF (b::r)with
   | .bad e=>.er e ln cl
   | .tok kd w=>LR.cons ⟨kd,w,ln,cl⟩ (xN k ((b::r).drop w.length) ln (cl+w.length) (some (ln,cl+w.length)))
def nZ (s:List Nat):LR:=xN (s.length+1) s 1 1 none
end Go.Proofs
namespace Go.Proofs
open Go Go.Am
section
abbrev wPlan:List Nat:=[112,108,97,110]
abbrev Dj:List Nat:=[102,97,99,116]
abbrev wDef:List Nat:=[100,101,102]
abbrev wTable:List Nat:=[116,97,98,108,101]
abbrev wTwo:List Nat:=[116,119,111]
abbrev wOne:List Nat:=[111,110,101]
abbrev wRow:List Nat:=[114,111,119]
abbrev wClause:List Nat:=[99,108,97,117,115,101]
abbrev wAt:List Nat:=[97,116]
abbrev Iz:List Nat:=[116,111,100,97,121]
abbrev Di:List Nat:=[104,97,115]
abbrev Iy:List Nat:=[116,114,117,101]
abbrev Ja:List Nat:=[102,97,108,115,101]
abbrev Ge:List Nat:=[109,111,110,101,121]
abbrev zX:List Nat:=[109,105,110,117,115]
abbrev oV:List Nat:=[100,97,121,115]
abbrev pV:List Nat:=[109,111,110,116,104,115]
abbrev wLook:List Nat:=[108,111,111,107]
abbrev wMin:List Nat:=[109,105,110]
abbrev wMax:List Nat:=[109,97,120]
abbrev zf8:List Nat:=[98,101,116,119,101,101,110]
abbrev wIf:List Nat:=[105,102]
abbrev wRound:List Nat:=[114,111,117,110,100]
abbrev zf7:List Nat:=[115,101,114,118,105,99,101]
abbrev wGrow:List Nat:=[103,114,111,119]
abbrev wBest:List Nat:=[98,101,115,116]
abbrev zng:List Nat:=[110,117,109,98,101,114]
abbrev wStart:List Nat:=[115,116,97,114,116]
abbrev wKnown:List Nat:=[107,110,111,119,110]
abbrev wIs:List Nat:=[105,115]
abbrev wFrom:List Nat:=[102,114,111,109]
abbrev wTo:List Nat:=[116,111]
abbrev wEnd:List Nat:=[101,110,100]
abbrev wOff:List Nat:=[111,102,102]
abbrev wWhen:List Nat:=[119,104,101,110]
abbrev wThen:List Nat:=[116,104,101,110]
abbrev yZ:List Nat:=[110,111,116]
abbrev wAnd:List Nat:=[97,110,100]
abbrev wOr:List Nat:=[111,114]
def rC (n:Nat):List Nat:=if n=0 then []else n%65536::rC (n / 65536)
decreasing_by omega
def cN (s:List Nat):List Nat:=jE (fun b=>decide (b≠47)) s
def jP (s:List Nat):List Nat:=s.drop ((cN s).length+1)
def gK(s:List Nat):Bool:=s.contains 47
def gM(neg:Bool)(n d:Nat):zF:=⟨⟨neg&&decide (0<n),rC (n / Nat.gcd n d)⟩,⟨false,rC (d / Nat.gcd n d)⟩⟩
def mR(s:List Nat)(neg:Bool):zF:=gM neg (wE (cN s)) (if gK s then wE (jP s)else 1)
def mJ:zF:=⟨⟨false,[]⟩,⟨false,[]⟩⟩
def nS:eD:=⟨0,mJ,0⟩
def mT (s:List Nat)(neg:Bool)(lo hi:Int):Option Int:=(fun n:Int=>if lo<=n/\n<=hi then some n else none) (if neg then -(wE s:Int)else wE s)
def Bf(s:List Nat):Prop:=s.length<=200/\(∀b∈cN s,nD b=true)/\cN s≠[]/\oO (cN s)=false/\(gK s=true->jP s≠[]/\(∀b∈jP s,nD b=true)/\oO (jP s)=false/\jP s≠[48])
def Ve(s:List Nat):Prop:=s.length=10/\cI s=true/\∃n,wV s=some n
def Ao(t:bC):Prop:=(t.kind=2->Bf t.text)/\(t.kind=3->Ve t.text)
inductive PR (α:Type) where
 | ok (a:α) (n:Nat)
 | er (e:Nat) (i:Nat)
def PR.bind{α β:Type}:PR α->(α->Nat->PR β)->PR β
 | .ok a n,f=>f a n
 | .er e i,_=>.er e i
abbrev PM(α:Type):=Nat->PR α
section
variable (tk:List bC)
def acc (w:List Nat)(n:Nat):Bool:=match tk[n]? with | some t=>(decide (t.kind=1)||decide (t.kind=4))&&qF t.text w | none=>false
def jM(k n:Nat):Bool:=match tk[n]? with | some t=>decide (t.kind=k) | none=>false
def aP(n:Nat):List Nat:=match tk[n]? with | some t=>t.text | none=>[]
def lS(k:Nat):PM (List Nat):=fun n=>if jM tk k n then .ok (aP tk n) (n+1)else .er 120 n
def pH (w:List Nat):PM Unit:=fun n=>if acc tk w n then .ok () (n+1)else .er 120 n
def nT(n:Nat):Bool:=jM tk 1 n&&mO (aP tk n)
def kU:PM (List Nat):=fun n=>if nT tk n then .ok (aP tk n) (n+1)else .er 120 n
def Qg:PM Int:=fun n=>(lS tk 3 n).bind fun t n=>.ok ((wV t).getD 0:Nat) n
def aN(word:Nat->List Nat)(most:Nat):Nat->Nat->PM Nat
 | 0,_,n=>.er 120 n
 | k+1,i,n=>if most<i then .er 120 n else if acc tk (word i) n then .ok i (n+1)else aN word most k (i+1) n
def aM(l:List (List Nat × Nat))(n:Nat):Option Nat:=(l.find? fun o=>acc tk o.1 n).map Prod.snd
def cZ (op:Nat)(x y:lA):lA:=.mk op [] nS [x,y]
def unX (op:Nat)(w:List Nat)(x:lA):lA:=.mk op w nS [x]
def DM(v:eD):lA:=.mk 1 [] v []
def dT(o:PM lA)(l:List (List Nat × Nat)):Nat->lA->PM lA
 | 0,x,n=>.ok x n
 | m+1,x,n=>match aM tk l n with
  | none=>.ok x n
  | some op=>(o (n+1)).bind fun y n'=>dT o l m (cZ op x y) n'
def zS(o:PM lA)(l:List (List Nat × Nat)):PM lA:=fun n=>(o n).bind fun x n'=>dT tk o l tk.length x n'
def zhj(o:PM lA):PM lA:=zS tk o [([42],9),([47],10)]
def Aq (o:PM lA):PM lA:=zS tk (zhj tk o) [([43],7),([45],8)]
def lW(o:PM lA):PM lA:=fun n=>(Aq tk o n).bind fun x n1=>match aM tk [([60],13),([61],14)] n1 with
 | none=>.ok x n1
 | some op=>(Aq tk o (n1+1)).bind fun y n2=>.ok (cZ op x y) n2
def kK:Nat->Nat->Nat
 | 0,_=>0
 | m+1,n=>if acc tk yZ n then kK m (n+1)+1 else 0
def Gb:Nat->lA->lA
 | 0,x=>x
 | k+1,x=>Gb k (unX 17 [] x)
def lU(o:PM lA):PM lA:=fun n=>(lW tk o (n+kK tk tk.length n)).bind fun x n'=>.ok (Gb (kK tk tk.length n) x) n'
def Qh(o:PM lA):PM lA:=zS tk (lU tk o) [(wAnd,15)]
def iR(o:PM lA):PM lA:=zS tk (Qh tk o) [(wOr,16)]
def atP (o:PM lA)(op:Nat):PM lA:=fun n=>(kU tk n).bind fun w n1=>(pH tk wAt n1).bind fun _ n2=>(o n2).bind fun x n3=>.ok (unX op w x) n3
def jV(neg:Bool):PM eD:=fun n=>(lS tk 2 n).bind fun s n1=>
 if acc tk oV n1||acc tk pV n1 then
  (if gK s then .er 120 n1 else match mT s neg (-1048576) 1048576 with
   | none=>.er 121 n
   | some i=>.ok ⟨if acc tk oV n1 then 5 else 6,mJ,i⟩ (n1+1))
 else .ok ⟨2,mR s neg,0⟩ n1
def eT:PM (Option eD):=fun n=>
 if acc tk Iy n then .ok (some ⟨1,mJ,1⟩) (n+1)
 else if acc tk Ja n then .ok (some ⟨1,mJ,0⟩) (n+1)
 else if jM tk 3 n then(Qg tk n).bind fun d n1=>.ok (some ⟨4,mJ,d⟩) n1
 else if acc tk Ge n then(fun(neg:Bool)=>(lS tk 2 (if neg then n+2 else n+1)).bind fun s n1=>.ok (some ⟨3,mR s neg,0⟩) n1) (acc tk zX (n+1))
 else if acc tk zX n then(jV tk true (n+1)).bind fun v n1=>.ok (some v) n1
 else if jM tk 2 n then(jV tk false n).bind fun v n1=>.ok (some v) n1
 else .ok none n
structure CF where
 word:List Nat
 op:Nat
 named:Bool
 least:Nat
 most:Nat
abbrev fZ:List CF:=[⟨wLook,6,true,1,2⟩,⟨wMin,11,false,2,2⟩,⟨wMax,12,false,2,2⟩,⟨zf8,20,false,2,2⟩,⟨wIf,18,false,3,3⟩,⟨wRound,19,false,2,2⟩,⟨zf7,21,true,2,2⟩,⟨wGrow,23,true,2,2⟩,⟨wBest,22,true,3,3⟩,⟨pV,24,false,1,1⟩,⟨zng,25,false,1,1⟩,⟨wStart,26,false,1,1⟩]
def Bi(e:PM lA):Nat->List lA->PM (List lA)
 | 0,l,n=>.ok l n
 | k+1,l,n=>(pH tk [44] n).bind fun _ n1=>(e n1).bind fun x n2=>Bi e k (l++[x]) n2
def kV(e:PM lA):Nat->List lA->PM (List lA)
 | 0,l,n=>.ok l n
 | k+1,l,n=>if acc tk [44] n then(e (n+1)).bind fun x n2=>kV e k (l++[x]) n2 else .ok l n
def lM:Nat->List Nat
 | 1=>[100,111,119,110]
 | 2=>[117,112]
 | 3=>[102,108,111,111,114]
 | 4=>[99,101,105,108]
 | 5=>[104,97,108,102]
 | 6=>[101,118,101,110]
 | _=>[]
def kindN:Nat->List Nat
 | 1=>[116,114,117,116,104]
 | 2=>[110,117,109,98,101,114]
 | 3=>[109,111,110,101,121]
 | 4=>[100,97,116,101]
 | 5=>[100,97,121,115]
 | 6=>[109,111,110,116,104,115]
 | _=>[]
def gZ(e:PM lA):PM lA:=fun n=>match fZ.find? fun f=>acc tk f.word n with
 | none=>.er 120 n
 | some f=>(pH tk [40] (n+1)).bind fun _ n1=>
  (if f.named then(kU tk n1).bind fun w n2=>(pH tk [44] n2).bind fun _ n3=>.ok w n3 else .ok [] n1:PR (List Nat)).bind fun w n2=>
  (e n2).bind fun x n3=>(Bi tk e (f.least-1) [x] n3).bind fun l n4=>(kV tk e (f.most-f.least) l n4).bind fun l n5=>
  (if f.op=19 then(pH tk [44] n5).bind fun _ n6=>aN tk lM 6 6 1 n6 else .ok 0 n5:PR Nat).bind fun m n6=>
  (pH tk [41] n6).bind fun _ n7=>.ok (.mk f.op w ⟨0,mJ,m⟩ l) n7
def fN(o:PM lA):PM lA:=fun n=>(eT tk n).bind fun v n'=>match v with
 | some v=>.ok (DM v) n'
 | none=>
  if acc tk [40] n' then(iR tk o (n'+1)).bind fun x n1=>(pH tk [41] n1).bind fun _ n2=>.ok x n2
  else if acc tk Iz n' then .ok (.mk 2 [] nS []) (n'+1)
  else if acc tk Dj n' then atP tk o 3 (n'+1)
  else if acc tk Di n' then atP tk o 4 (n'+1)
  else if nT tk n' then atP tk o 5 n'
  else gZ tk (iR tk o) n'
def xI:Nat->PM lA
 | 0,n=>.er 122 n
 | k+1,n=>fN tk (xI k) n
def zi9:PM lA:=iR tk (xI tk 101)
def Eh:PM Unit:=fun n=>(lS tk 5 n).bind fun _ n1=>if n1<tk.length then .er 120 n1 else .ok () n1
def yL:PR lA:=(zi9 tk 0).bind fun x n=>(Eh tk n).bind fun _ n1=>.ok x n1
def zL:PR eD:=(eT tk 0).bind fun v n=>match v with
 | none=>.er 120 n
 | some v=>(Eh tk n).bind fun _ n1=>.ok v n1
def zm7:lA:=.mk 0 [] nS []
end
end
section
variable {n:Nat}{s:List Nat}
variable [nC]
variable {t:Tr tA}
theorem iLe_d{a b:Int}:gE a b=decide (a<=b):=by
 grind [kI]
theorem Tu  : kB yA F 119 [.int .u8 (n:Int)] t=some (.bool (vN n)):=by
 refine iC.2 (w119 ?_)
 simp only[wC,yI,t119,oA,iLe_d,decide_eq_true_eq];grind [vN]
theorem Pi  : kB yA F 169 [.int .u8 (n:Int)] t=some (.bool (nD n)):=by
 refine iC.2 (w169 ?_)
 simp only[wC,t169,oA,iLe_d,decide_eq_true_eq];grind [nD]
theorem BZ  : kB yA F 121 [.int .u8 (n:Int)] t=some (.bool (iK n)):=by
 refine iC.2 (w121 ?_)
 simp only[uB,yI,uY,t121,oA,q119,Tu,uA,zA.asBool];unfold iK
 cases h:vN n with
 | true=>simp
 | false=>
  simp only[ybq,if_false,q169,Pi,uA,zA.asBool];grind [fE,decide]
def tN {i x:Nat}(h:s[i]?=some x):rI yA 9 (.str s) (.int .i64 (i:Int))=some (.int .u8 (x:Int)):=by
 unfold rI;rw[gL,pA];simp only[zA.asNat,zA.asInt,zA.asStr];have e:ob (some (i:Int)) mM=some i:=rfl
 rw[e,pA,show vE.isString .string=true from rfl,cD,bG,h,pA];rfl
theorem Sf{p:Nat->Bool}{g:Nat}(hg:∀n:Nat,kB yA F g [.int .u8 (n:Int)] t=some (.bool (p n)))(hq:∀ {a:List zA} {m:Tr tA} {R:mB},Wq yA F jC g a m R=oD (kB yA F g a m) (fun v=>R v m))(hy:Nat.blt g pn=true) (hs:s.length<4000000000000000000) :
  ∀(k i:Nat),i+k=s.length->(∀j x,j<i->s[j]?=some x->p x=true)->jp 120 2 [.str s,.func (.func g) [] [],.int .i64 (i:Int)] t (fun v t'=>v=.str (jE p s)/\t'=t):=by
 have key:∀i,i<=s.length->(∀j x,j<i->s[j]?=some x->p x=true)->(∀x,s[i]?=some x->p x=false)->jE p s=s.take i:=by
  intro i hi h1 h2;unfold jE;induction s generalizing i with
  | nil=>simp
  | cons a s ih=>
   cases i with
   | zero=>simp_all
   | succ i=>
    rw[List.takeWhile_cons,h1 0 a (by omega) rfl,yab rfl,List.take_succ_cons]
    rw[ih (by grind) i (by simp_all) (fun j x hj hx=>h1 (j+1) x (by omega) (by simp_all)) (fun x hx=>h2 x (by simp_all))]
 intro k;induction k with
 | zero=>
  intro i hi hp;refine zmh ?_
  simp only[uU,uB,uS,kC,uZ,uY,Yn,oA,bE,kX];grind [Dw,uA,zA.asStr]
 | succ k ih=>
  intro i hi hp;have hx:s[i]?=some s[i]:=ybd (by omega)
  refine zmh ?_
  simp only[uU,uB,uS,kC,uZ,uY,Yn,oA,bE,kX];rw[yab (by omega),tN hx,uA,aB,uA]
  have e:mL (.func (.func g) [] []) [.int .u8 (s[i]:Int)]=some (g,[.int .u8 (s[i]:Int)]):=by
   unfold mL;simp only[zA.asFunc,pA,hy,cD];rfl
  rw[e,uA];simp only[];rw[hq,hg,uA];simp only[zA.asBool,uA]
  cases hb:p s[i]with
  | true=>
   rw[yab rfl,wrap_i64 (by omega) (by omega),show(i:Int)+1=((i+1:Nat):Int) by omega]
   refine ih (i+1) (by omega) fun j x hj hjx=>?_
   grind
  | false=>
   rw[yaa (by simp),Dw (by omega),uA]
   simp only[zA.asStr,uA];rw[key i (by omega) hp (fun x hx'=>by simp_all)]
   simp_all
def HJ (hs:s.length<4000000000000000000):kB yA F 120 [.str s,.func (.func 121) [] []] t=some (.str (jE iK s)):=by
 refine iC.2 (w120 ?_)
 simp only[uZ,t120,oA];exact Sf (fun n=>BZ) (fun {a m R}=>by rw[q121]) rfl hs s.length 0 (by omega) (fun j x hj=>by omega)
def zob (hs:s.length<4000000000000000000):kB yA F 120 [.str s,.func (.func 119) [] []] t=some (.str (jE vN s)):=by
 refine iC.2 (w120 ?_)
 simp only[uZ,t120,oA];exact Sf (fun n=>Tu) (fun {a m R}=>by rw[q119]) rfl hs s.length 0 (by omega) (fun j x hj=>by omega)
def nJ (n:Nat):zA × zA:=(.int .i64 (n:Int),.str (resW n))
def OX{a b:List Nat}(h:a.length<4294967281):kB yA F 143 [.str a,.str b] t=some (.bool (Cn b a)):=by
 have hg:yA.prims.get 143=some (bL Kc):=by kernel_rfl
 refine Gw hg fun H=>?_
 unfold Kc;simp only[];rw[kD,qC.2 h];rfl
theorem UJ (hs:s.length<4000000000000000000):kB yA F 122 [.str s] t=some (.bool (Zn s)):=by
 refine iV (w122 ?_)
 simp only[uB,uS,wC,uZ,t122,oA,bE,kX];unfold Zn;by_cases h1:2<=s.length
 ·rw[yaa (by omega)]
  by_cases h2:s.length<=7
  ·rw[yaa (by omega)]
   simp only[q120,zob hs,uA,zA.asStr]
   cases h3:qF (jE vN s) s with
   | false=>simp
   | true=>
    simp only[Bool.not_true,ybq,if_false];intro b hb hbase;have hmk:Rn ⟨b,t⟩=some (.map b,⟨b+1,t.set b (.map [])⟩):=rfl
    rw[hmk,uA];simp only[];have h0:(t.set b (.map [])).get b=some (.map []):=by rw[Tr.get_set,yab rfl]
    have ho:wF b t (t.set b (.map [])):=fun c hc=>by rw[Tr.get_set,yaa hc]
    generalize t.set b (.map [])=t1 at h0 ho
    have hstep:∀(l:List (zA × zA)) (k:Nat) (s':List Nat) (l':List (zA × zA)) (Q:(zA × xA)->Prop) (t1:Tr tA),t1.get b=some (.map l)->wF b t t1->qO (.int .i64 (k:Int)) (.str s') l=some l'->Ko yA 236 (.int .i64 (k:Int))=true →
      (∀n t2,t2.get b=some (.map l')->wF b t t2->Q (pD,⟨n,t2⟩))->∀n,t1.get n=none->yA.base<=n->oD (rU yA 236 (.map b) (.int .i64 (k:Int)) (.str s') ⟨n,t1⟩) Q:=by
     intro l k s' l' Q t1 g1 g2 h1 h2 h3 n _ _;rw[znk h2 hbase g1 h1,uA];exact h3 n _ (by rw[Tr.get_set,yab rfl]) fun c hc=>by rw[Tr.get_set,yaa hc];exact g2 c hc
    refine hstep [] 2 _ [nJ 2] _ t1 h0 ho rfl (by kernel_rfl) fun n t2 g o=>?_
    refine hstep _ 3 _ [nJ 2,nJ 3] _ t2 g o rfl (by kernel_rfl) fun n t2 g o=>?_
    refine hstep _ 4 _ [nJ 2,nJ 3,nJ 4] _ t2 g o rfl (by kernel_rfl) fun n t2 g o=>?_
    refine hstep _ 5 _ [nJ 2,nJ 3,nJ 4,nJ 5] _ t2 g o rfl (by kernel_rfl) fun n t2 g o=>?_
    refine hstep _ 6 _ [nJ 2,nJ 3,nJ 4,nJ 5,nJ 6] _ t2 g o rfl (by kernel_rfl) fun n t2 g o=>?_
    refine hstep _ 7 _ [nJ 2,nJ 3,nJ 4,nJ 5,nJ 6,nJ 7] _ t2 g o rfl (by kernel_rfl) fun n t2 g o=>?_
    have hle:zB t t2:=fun c u hc=>by
     have:c≠b:=fun e=>by simp_all
     rw[o c this];exact hc
    have hl:xZ yA 236 ⟨0,t2⟩ (.map b) (.int .i64 (s.length:Int)) false=some (.str (resW s.length)):=by
     have hk:Ko yA 236 (.int .i64 (s.length:Int))=true/\pL (.int .i64 (s.length:Int)) [nJ 2,nJ 3,nJ 4,nJ 5,nJ 6,nJ 7]=some (some (.str (resW s.length))):=by
      have:s.length=2\/s.length=3\/s.length=4\/s.length=5\/s.length=6\/s.length=7:=by omega
      rcases this with e | e | e | e | e | e<;>rw[e]<;>exact⟨by kernel_rfl,rfl⟩
     exact zh2 hk.1 g hk.2 ty236 rfl gL false
    rw[hl,uA];simp only[zA.asStr,uA];rw[gS (by grind),uA]
    simp only[zA.asStr,uA];rw[gS (by grind),uA]
    simp only[zA.asStr,uA];have hr:(resW s.length).length<4294967281:=by
     have:s.length=2\/s.length=3\/s.length=4\/s.length=5\/s.length=6\/s.length=7:=by omega
     rcases this with e | e | e | e | e | e<;>rw[e]<;>decide
    rw[q143,OX hr,uA];simp only[zA.asBool,uA];refine⟨?_,hle⟩
    grind
  grind
 grind
theorem zcn  : kB yA F 60 [.str s] t=some (.bool (mO s)):=by
 refine iC.2 (w60 ?_)
 simp only[uU,uB,uS,wC,uZ,uY,t60,oA,bE,kX]
 cases s with
 | nil=>simp[mO,sN]
 | cons x r=>
  have h0:qF (x::r) []=false:=by
   grind [sN]
  rw[h0];simp only[ybq,if_false];unfold mO;by_cases h1:(x::r).length<=24
  ·rw[yaa (by omega)]
   have hx:=tN (s:=x::r) (i:=0) (x:=x) rfl
   rw[show((0:Nat):Int)=0 from rfl]at hx
   rw[hx,uA,aB,uA,q119,Tu,uA];simp only[zA.asBool,uA]
   cases h2:vN x with
   | false=>simp
   | true=>
    simp only[Bool.not_true,ybq,if_false];rw[q120,HJ (by omega),uA]
    simp only[zA.asStr,uA]
    cases h3:qF (jE iK (x::r)) (x::r)with
    | false=>simp
    | true=>
     simp only[if_true,q122,UJ (s:=x::r) (by omega),uA,zA.asBool]
     simp_all
  grind
end
end Go.Proofs
namespace Go.Am
open Go Go.RowKit
variable {b:Bool}{x y:T}{K:zA->T}{v:zA}{a:List zA}
section
variable {base:Nat}{W J:eF}{t:Tr tA}{Q:mB}
theorem mA  (h:b=true)(k:oA base W J x t Q):oA base W J (.ite b x y) t Q:=by
 show if b=true then _ else _;simp_all
theorem vB  (h:b≠true)(k:oA base W J y t Q):oA base W J (.ite b x y) t Q:=by
 show if b=true then _ else _;simp_all
theorem rA{x:Option zA}  (h:x=some v)(k:oA base W J (K v) t Q):oA base W J (.opt x K) t Q:=by
 show oD x _;simp_all
theorem yC{x:Tr tA->Option zA}  (h:x t=some v)(k:oA base W J (K v) t Q):oA base W J (.light x K) t Q:=by
 show oD (x t) _;simp_all
theorem wB{f:Nat}  (k:W f a t (fun v t'=>oA base W J (K v) t' Q)):oA base W J (.call f a K) t Q:=k
theorem qB{n:Int}{i:IntKind}{K:Int->T}(k:oA base W J (K n) t Q):oA base W J (.asI i (.int i n) K) t Q:=by
 show oD (intK i (.int i n)) _;rw[aB];exact k
theorem iD {K:Bool->T}(k:oA base W J (K b) t Q):oA base W J (.asB (.bool b) K) t Q:=k
def dD{s:List Nat}{K:List Nat->T}(k:oA base W J (K s) t Q):oA base W J (.asS (.str s) K) t Q:=k
theorem dC{zs:List zA}{a:zA}{K:sI->T}{X:sI}(h:eK zs a=some X)(k:oA base W J (K X) t Q):oA base W J (.asG zs a K) t Q:=by
 show oD (eK zs a) _;simp_all
theorem eC{x:xA->Option (zA × xA)} (k:∀b,t.get b=none->base<=b->∃v H,x ⟨b,t⟩=some (v,H)/\oA base W J (K v) H.t Q):oA base W J (.heavy x K) t Q:=by
 intro b h1 h2;obtain⟨v,H,h3,h4⟩:=k b h1 h2
 simp_all
theorem fC{i:Nat} (k:J i a t Q):oA base W J (.jump i a) t Q:=k
end
section
variable {t:Tr tA}{C:iA}
theorem gI.mid{T el sz:Nat}{agg:Bool}(h:gI C T el sz agg){l:List D} (hr:aA t sz l v){k:Nat}{d:D}(hk:l[k]?=some d) :
  ∃v',vF C T ⟨0,t⟩ v (some (.int .i64 (k:Int))) (some (.int .i64 ((k+1:Nat):Int)))=some v'/\aA t sz [d] v':=by
 obtain⟨⟨y,hy1,hy2⟩,⟨z,hz1,hz2,hz3⟩⟩:=h
 obtain⟨cl,he,hd⟩:=hr
 have hlen:=hd.length
 have hlt:=(ybc.1 hk).1
 obtain⟨cs,hc,hrd⟩:=hd.get hk
 unfold vF;rw[hy1,pA];have hb:∀(y n:Nat),nY y (.int .i64 (n:Int))=tB (Nat.ble n y) (some n):=fun y n=>rfl
 rcases he with⟨rfl,rfl⟩ | ⟨b,off,cap,rfl,hcap,⟨c,n,lo,hg,hlo⟩,he⟩
 ·grind
 ·refine⟨.slice b (off+k*sz) 1 (cap-k),?_,[cs],.inr ⟨b,off+k*sz,cap-k,rfl,by grind,⟨c,n,lo,hg,hlo⟩,fun i q hi=>?_⟩,vH.2 ⟨cs,[],rfl,hrd,cH.2 rfl⟩⟩
  ·unfold kN
   simp only[zA.asStr,zA.asSlice];rw[hy2,pA];unfold zQ;rw[hz1,pA];unfold nQ Cr;simp only[hb];rw[aE.2 (show k+1<=cap by omega)]
   simp only[cD,pA];rw[aE.2 (show k<=k+1 by omega)]
   simp only[cD,pA];have hne:Nat.beq cap k=false:=by
    grind [gC]
   have he2:lN ⟨0,t⟩ b z.size cap k false=false:=by
    grind [lN]
   rw[he2,yay,cond_false];have hf:rO ⟨0,t⟩ b z.size cap k false=true:=by
    unfold rO qD;rw[hg,pA];simp only[tA.asCells];rcases hlo with rfl | ⟨x,rfl,hx⟩
    all_goals simp_all
   rw[aE.2 (show k+1<=cap by omega),hf,hne,hz2]
   simp only[Bool.and_self,cD,cond_false];rw[show k+1-k=1 by omega]
  grind
end
end Go.Am
