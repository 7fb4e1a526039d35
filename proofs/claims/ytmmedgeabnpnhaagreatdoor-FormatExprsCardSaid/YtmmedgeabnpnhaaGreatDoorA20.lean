/- Decimal digits. -/
import Derived.Test.YtmmedgeabnpnhaaGreatDoorA19
set_option linter.all false
noncomputable section
namespace Go.Am
open Go
def fD (u:Nat):List Nat:=(Lib.decDigits u).map UInt8.toNat
theorem Hy{u:Nat}(h:u<10):fD u=[48+u]:=by
 grind [fD,Lib.decDigits_one,UInt8.toNat_ofNat']
theorem Dh{u:Nat}(h:¬ u<10):fD u=fD (u / 10)++[48+u%10]:=by
 grind [fD,Lib.decDigits,UInt8.toNat_ofNat']
def Mg(u:Nat):eJ (u:Int)=fD u:=by
 grind [eJ,Lib.itoa,fD]
def Uk{u:Nat}(h:0<u):eJ (-(u:Int))=45::fD u:=by
 grind [eJ,Lib.itoa,fD]
def za0(u:Nat):(fD u).length=Lib.nDigits u:=by unfold fD;rw[ybf,Lib.decDigits_length]
theorem gT(u:Nat):0<(fD u).length:=by rw[za0];exact Lib.nDigits_pos u
def Dg(u:Nat):∀x∈fD u,48<=x/\x<58:=by
 induction u using Nat.strongRecOn with
 | _ u ih=>
  grind [Hy,Dh]
def Ai{u k:Nat}(hk:0<k)(h:u<10^k):(fD u).length<=k:=by
 induction k generalizing u with
 | zero=>omega
 | succ k ih=>
  grind [Hy,Dh]
def eN:Nat->Nat->List Nat
 | 0,_=>[]
 | k+1,r=>eN k (r / 10)++[48+r%10]
theorem Sp:∀(k r:Nat),(eN k r).length=k
 | 0,_=>rfl
 | k+1,r=>by rw[eN,ybg,Sp k];rfl
theorem CT:∀k,eN k 0=List.replicate k 48
 | 0=>rfl
 | k+1=>by rw[eN,CT k,List.replicate_succ']
theorem zdd{k r:Nat}(hk:0<k)(h:r<10^k):eN k r=List.replicate (k-(fD r).length) 48++fD r:=by
 induction k generalizing r with
 | zero=>omega
 | succ k ih=>
  rw[eN];by_cases h10:r<10
  ·grind [Hy,CT]
  ·have h1:r / 10<10^k:=by omega
   have hk0:0<k:=by
    grind
   simp_all [Dh]
def zaz{q:Nat}(hq:0<q):∀ {k r:Nat},r<10^k->fD (q*10^k+r)=fD q++eN k r:=by
 intro k;induction k with
 | zero=>grind [eN]
 | succ k ih=>
  intro r h;have hp:0<10^k:=Nat.pow_pos (by decide);have hb:¬ q*10^(k+1)+r<10:=by
   have:10^(k+1)=10^k*10:=yag ..;have h2:10<=q*10^(k+1):=by
    rw[this];calc 10=1*(1*10):=by omega
     _<=q*(10^k*10):=ydb hq (ydb hp (ybk _))
   omega
  have e1:(q*10^(k+1)+r) / 10=q*10^k+r / 10:=by
   rw[yag,<- ybj,yap,Nat.add_mul_div_right _ _ (by decide),yap]
  have e2:(q*10^(k+1)+r)%10=r%10:=by
   rw[yag,<- ybj,yap,Nat.add_mul_mod_self_right]
  rw[Dh hb,e1,e2,ih (by omega),eN,ybz]
def CU:∀(k r:Nat),∀x∈eN k r,48<=x/\x<58
 | 0,_,x,hx=>by cases hx
 | k+1,r,x,hx=>by
  rw[eN]at hx;rcases yaf.1 hx with hx | hx
  ·exact CU k _ x hx
  grind
def fI:List Nat->List Nat
 | []=>[]
 | [p]=>fD p
 | p::q::l=>fI (q::l)++eN 9 p
def Xz:∀ {l:List Nat},l≠[]->(∀x∈l,x<1000000000)->l.getLast?≠some 0->fI l=fD (val 1000000000 l)/\0<val 1000000000 l
 | [],h,_,_=>absurd rfl h
 | [p],_,_,h=>by
  grind [fI,val]
 | p::q::l,_,h1,h2=>by
  obtain⟨g1,g2⟩:=Xz (l:=q::l) (by simp) (fun x hx=>h1 x (.tail _ hx)) (by simp_all);have hp:=h1 p (.head _);have e:val 1000000000 (p::q::l)=val 1000000000 (q::l)*10^9+p:=by
   rw[val];omega
  rw[e,zaz g2 (by omega),fI,g1]
  grind
def Pi:∀(l:List Nat),∀x∈fI l,48<=x/\x<58
 | [],x,hx=>by cases hx
 | [p],x,hx=>Dg p x hx
 | p::q::l,x,hx=>by
  rw[fI]at hx;rcases yaf.1 hx with hx | hx
  ·exact Pi _ x hx
  ·exact CU _ _ x hx
def xS (neg:Bool)(n:Nat):List Nat:=(if neg then [45]else [])++fD n
end Go.Am
namespace Go.Am
open Go Go.RowKit
section
variable {base:Nat}{t t0:Tr sA}{X X0:Xt}{HA:xA}{n:Nat}{y:sA}{C:oA}{F:Tr wF}{Q:dB}
def Xt.put(X:Xt)(n:Nat)(y:sA):Xt:=fun b=>if b=n then some y else X b
theorem Xt.put_self{X:Xt}:X.put n y n=some y:=yab rfl
theorem Xt.put_ne{X:Xt}{b:Nat}(h:b≠n):X.put n y b=X b:=yaa h
theorem Ov.hide(h:Ov base t X HA)(hy:t.get n=some y)(h0:t0.get n=none)(ho:dD n t0 t):Ov base t0 (X.put n y) HA:=by
 refine⟨h.base,fun b hb=>?_,fun b z hb=>?_,fun b z hb=>?_⟩
 ·by_cases e:b=n
  ·grind [Xt.put_self]
  ·rw[Xt.put_ne e]at hb;rw[h.same b hb,ho b e]
 ·by_cases e:b=n
  ·subst e;rw[Xt.put_self]at hb;cases hb;exact⟨h.up hy,h0,h.lt _ _ hy⟩
  ·rw[Xt.put_ne e]at hb;obtain⟨h1,h2,h3⟩:=h.ext b z hb;exact⟨h1,by rw[<- ho b e];exact h2,h3⟩
 ·by_cases e:b=n
  ·simp_all
  ·exact h.lt b z (by rw[ho b e];exact hb)
theorem wC.unhide{Q:dB}{d:kB}(hX:X.put n y=X0)(hn:X n=none)(h:wC base X0 Q d):wC base X (fun v t'=>∃t0',Q v t0'/\t0'.get n=none/\t'.get n=some y/\dD n t0' t') d:=by
 obtain⟨v,t',HA',X',h1,h2,h3,h4⟩:=h;subst hX;have hy:X' n=some y:=h3 n y Xt.put_self;obtain⟨e1,e2,e3⟩:=h2.ext n y hy;obtain⟨_,ho⟩:=fK (t:=t') e2 y;have hs:(t'.set n y).get n=some y:=by rw[Tr.get_set,yab rfl]
 refine⟨v,t'.set n y,HA',fun b=>if b=n then none else X' b,h1,⟨h2.base,fun b hb=>?_,fun b z hb=>?_,fun b z hb=>?_⟩,fun b z hb=>?_,t',h4,e2,hs,ho⟩
 ·by_cases e:b=n
  ·subst e;rw[e1,hs]
  ·have hb:(if b=n then none else X' b)=none:=hb;rw[yaa e]at hb;rw[h2.same b hb,ho b e]
 ·by_cases e:b=n
  ·simp_all
  ·have hb:(if b=n then none else X' b)=some z:=hb;rw[yaa e]at hb;obtain⟨k1,k2,k3⟩:=h2.ext b z hb;exact⟨k1,by rw[ho b e];exact k2,k3⟩
 ·by_cases e:b=n
  ·omega
  ·rw[ho b e]at hb;exact h2.lt b z hb
 ·show(if b=n then none else X' b)=some z;have e:b≠n:=fun e=>by simp_all
  rw[yaa e];exact h3 b z (by grind [Xt.put_ne])
theorem Wc.frame{f:Nat}{args:List zA}(h:Wc C F f args t0 Q)(hy:t.get n=some y)(h0:t0.get n=none)(ho:dD n t0 t) :
  Wc C F f args t (fun v t'=>∃t0',Q v t0'/\t0'.get n=none/\t'.get n=some y/\dD n t0' t'):=
 fun X HA hv=>(h _ HA (hv.hide hy h0 ho)).unhide rfl (hv.notX hy)
end
theorem Tr.without(t:Tr sA):∀n:Nat,∃t0:Tr sA,t0.get n=none/\dD n t0 t:=by
 induction t with
 | leaf=>exact fun n=>⟨.leaf,Tr.get_leaf n,fun _ _=>rfl⟩
 | node l v r ihl ihr=>
  intro n;by_cases h0:n=0
  ·subst h0;refine⟨.node l none r,by rw[Tr.get_node];rfl,fun k hk=>?_⟩;rw[Tr.get_node,Tr.get_node,yaa hk,yaa hk]
  ·by_cases h1:n%2=1
   ·obtain⟨l0,g1,g2⟩:=ihl (n / 2);refine⟨.node l0 v r,by grind [Tr.get_node],fun k hk=>?_⟩;rw[Tr.get_node,Tr.get_node];split
    ·rfl
    ·split
     ·exact g2 _ (by omega)
     ·rfl
   ·obtain⟨r0,g1,g2⟩:=ihr (n / 2-1);refine⟨.node l v r0,by grind [Tr.get_node],fun k hk=>?_⟩;rw[Tr.get_node,Tr.get_node];split
    ·rfl
    ·split
     ·rfl
     ·exact g2 _ (by omega)
end Go.Am
set_option maxRecDepth 100000
namespace Go.Proofs
open Go Go.Am
variable [sC]
variable {t tf:Tr sA}
theorem xG.call{cd:Lo}{base sz:Nat}{l:List D}{v:zA}(h:xG cd base tf t sz l v)(ht:bA tf t):∃t0,bA tf t0/\∀ {f:Nat} {args:List zA} {Q:dB},Wc yA F f args t0 Q->Wc yA F f args t (fun u t'=>∃t1,Q u t1/\(bA tf t1->bA t1 t'/\xG cd base t1 t' sz l v)):=by
 rcases h with⟨rfl,rfl⟩ | ⟨b,cl,c,rfl,h0,h1,h2,h3,h4⟩
 ·exact⟨t,ht,fun h=>h.mono fun u t' hq=>⟨t',hq,fun _=>⟨bA.refl _,.inl ⟨rfl,rfl⟩⟩⟩⟩
 ·obtain⟨t0,g1,g2⟩:=Tr.without t b;refine⟨t0,fun k u hk=>?_,fun h=>(h.frame h2 g1 g2).mono fun u t' ⟨t1,k1,k2,k3,k4⟩=>⟨t1,k1,fun hle=>⟨fun k u hk=>?_,.inr ⟨b,cl,c,rfl,h0,k2,k3,h3,tC.mono hle _ _ h4⟩⟩⟩⟩
  ·have hkb:k≠b:=by grind
   rw[<- g2 k hkb];exact ht _ _ hk
  ·have hkb:k≠b:=by grind
   rw[k4 k hkb];exact hk
def el203:Ek yA 240 242 1:=⟨⟨_,mN,rfl,rfl⟩,⟨_,tG,rfl,rfl,by decide,by decide⟩⟩
def el35:Ek yA 90 5 1:=⟨⟨_,pM,rfl,rfl⟩,⟨_,nN,rfl,rfl,by decide,by decide⟩⟩
def co202:∀z,yA.tys.get 242=some z->cJ 242 z=.sz 1:=fun z h=>by rw[tG]at h;cases h;rfl
def co5:∀z,yA.tys.get 5=some z->cJ 5 z=.ty 5:=fun z h=>by rw[nN]at h;cases h;rfl
theorem VI{cd:Lo}{base sz:Nat}{l:List D}{v:zA}{b:Nat}(h:xG cd base tf t sz l v)(hb:dM v b)(hn:t.get b=none):False:=by
 obtain⟨_,_,y,hy⟩:=h.none hb
 simp_all
theorem SJ{v2:List Nat}{v3:Int}{neg:Bool}{c1:zA}{N M:Nat}{Q:dB}{t0:Tr sA}(hM:M<400000)
  (hR:∀(tf t':Tr sA) (ps:List Nat) (v4 v5:zA),bA t0 tf->bA tf t'->xG (.sz 1) yA.base tf t' 1 (cA .u32 ps) v4->mA tf 1 (cA .u32 []) v5->yB 1000000000 ps->ps≠[]->ps.getLast?≠some 0->val 1000000000 ps=N->ps.length<=M->jp 211 2 [.str v2,.int .i64 v3,v4,v5,.bool neg,c1] t' Q) :
  ∀(k:Nat) (l ps:List Nat) (v4 v5:zA) (tf t':Tr sA),val 4294967296 l<1000000000^k->k+ps.length<=M->norm l->yB 4294967296 l->l.length<900000->yB 1000000000 ps->(l=[]->ps≠[]/\ps.getLast?≠some 0) →
   val 4294967296 l*1000000000^ps.length+val 1000000000 ps=N->bA t0 tf->bA tf t'->xG (.sz 1) yA.base tf t' 1 (cA .u32 ps) v4->mA tf 1 (cA .u32 l) v5->jp 211 2 [.str v2,.int .i64 v3,v4,v5,.bool neg,c1] t' Q:=by
 intro k;induction k with
 | zero=>
  intro l ps v4 v5 tf t' h1 h2 h3 h4 h5 h6 h7 h8 h9 h10 h11 h12;have hl:l=[]:=Cl (B:=4294967296) (by decide) h3 (by omega)
  grind
 | succ k ih=>
  intro l ps v4 v5 tf t' h1 h2 h3 h4 h5 h6 h7 h8 h9 h10 h11 h12;by_cases hl:l=[]
  ·grind [val]
  have hpos:0<l.length:=List.length_pos_iff.2 hl;have hv0:0<val 4294967296 l:=by
   rcases yav (val 4294967296 l)with e | e
   ·exact absurd (Cl (B:=4294967296) (by decide) h3 e) hl
   ·exact e
  refine zca ?_;simp only[uI,uL,uX,uZ,uY,Qq,qA,(h12.mono h10).len,wA,fB,bC,xC];rw[yab (by omega),q241];obtain⟨t1,g1,g2⟩:=xG.call h11 h10;refine(g2 (IL (h12.mono g1) h5 h4 (d:=1000000000) (by decide) (by decide) (Q:=fun u t'=>∃v' q r,u=.tup [v',.int .u32 (r:Nat)]/\bA t1 t'/\mA t' 1 (cA .u32 (rD q)) v'/\yB 4294967296 q/\q.length=l.length/\r<1000000000/\val 4294967296 l=val 4294967296 q*1000000000+r) fun t' v' q r a b c d e f=>⟨v',q,r,rfl,a,b,c,d,e,f⟩)).mono ?_
  rintro u t2 ⟨tf2,⟨v',q,r,rfl,a1,a2,a3,a4,a5,a6⟩,hk⟩;obtain⟨b1,b2⟩:=hk (g1.trans a1);have x0:gI 0 (.tup [v',.int .u32 (r:Nat)])=some v':=rfl;have x1:gI 1 (.tup [v',.int .u32 (r:Nat)])=some (.int .u32 (r:Nat)):=rfl;simp only[x0,x1,wA,fB];intro n hn hbase;obtain⟨H1,c1',c2,c3⟩:=fZ (k:=.u32) mN rfl tG rfl rfl r trivial hn;rw[c1',wA];intro n2 hn2 hbase2;have b3:xG (.sz 1) yA.base tf2 H1.t 1 (cA .u32 ps) v4:=b2.keep' fun b hb=>by
   obtain⟨_,_,y,hy⟩:=b2.none hb;rw[c3 _ _ hy,hy]
  obtain⟨t4,d1,d2,d3,d4⟩:=Wg el203 co202 b3 (c2.all (cap:=1) (ybk _)) (by simp) (by grind) hn2 hbase2 (b1.trans c3);simp only[List.length_singleton]at d1 d2;simp only[];rw[d1,wA];refine ih (rD q) (ps++[r]) _ _ tf2 t4 ?_ ?_ (xP _) (iQ a3) ?_ ?_ ?_ ?_ (h9.trans (g1.trans a1)) d3 ?_ a2
  ·grind [hO]
  ·grind
  ·grind [Ra]
  ·exact KO h6 fun x hx=>by simp_all
  ·intro hs;refine⟨by simp,?_⟩;have hq:val 4294967296 q=0:=by rw[<- hO,hs];rfl
   grind
  ·rw[hO,Bl,ybg];simp only[val,ybn,ybx,ybw,yat,yct];grind
  omega
end Go.Proofs
namespace Go.Proofs
open Go Go.Am
section
variable [sC]
variable {t tf:Tr sA}{bx:Nat}{s m:List Nat}
def TX (tf t:Tr sA)(bx:Nat)(s:List Nat):Prop:=yA.base<=bx/\tf.get bx=none/\bA tf t/\∃tv,dE t bx none [tv]/\xG (.ty 5) yA.base tf t 1 (cA .u8 s) tv/\¬ dM tv bx
theorem TX.both(h:TX tf t bx s){n:Nat}(hn:t.get n=none)(y:sA):TX (tf.set n y) (t.set n y) bx s:=by
 obtain⟨h1,h2,h3,tv,h4,h5,h6⟩:=h;have hbx:bx≠n:=by intro e;obtain⟨c,h,_⟩:=h4;simp_all
 refine⟨h1,by grind [Tr.get_set],AI hn h3,tv,h4.off (by rw[Tr.get_set,yaa hbx]),?_,h6⟩;have hb:∀b,dM tv b->b≠n:=fun b hb e=>VI h5 hb (e ▸ hn);rcases h5 with⟨rfl,h5⟩ | ⟨b,cl,c,rfl,k0,k1,k2,k3,k4⟩
 ·exact .inl ⟨rfl,h5⟩
 ·have hbn:=hb b (bZ.2 rfl);exact .inr ⟨b,cl,c,rfl,k0,by grind [Tr.get_set],by grind [Tr.get_set],k3,tC.mono (fun c u hc=>by
   grind [Lm,Tr.get_set]) _ _ k4⟩
theorem TX.out{n:Nat}{y:sA}(hn:tf.get n=none)(h:TX (tf.set n y) t bx s):TX tf (t.del n) bx s:=by
 obtain⟨h1,h2,h3,tv,h4,h5,h6⟩:=h;have hbx:bx≠n:=by grind [Tr.get_set]
 have hle:bA tf (tf.set n y):=(fK hn y).1;rw[Tr.get_set,yaa hbx]at h2;refine⟨h1,h2,fun c u hc=>?_,tv,h4.off (by rw[Tr.get_del,yaa hbx]),?_,h6⟩
 ·have:c≠n:=fun e=>by simp_all
  rw[Tr.get_del,yaa this];exact h3 _ _ (hle _ _ hc)
 ·rcases h5 with⟨rfl,h5⟩ | ⟨b,cl,c,rfl,k0,k1,k2,k3,k4⟩
  ·exact .inl ⟨rfl,h5⟩
  ·have hbn:b≠n:=by grind [Tr.get_set]
   refine .inr ⟨b,cl,c,rfl,k0,by grind [Tr.get_set],by grind [Tr.get_del],k3,?_⟩
   grind [sY]
theorem TX.load(h:TX tf t bx s):∃tv,aA yA 90 ⟨0,t⟩ (.ptr bx 0)=some tv/\dE t bx none [tv]/\xG (.ty 5) yA.base tf t 1 (cA .u8 s) tv/\¬ dM tv bx:=by
 obtain⟨h1,h2,h3,tv,h4,h5,h6⟩:=h;exact⟨tv,h4.load1 pM rfl rfl,h4,h5,h6⟩
theorem TX.put{t1:Tr sA}{n k:Nat}{tv:zA}(hb:yA.base<=bx)(hf:tf.get bx=none)(hc:dE t1 bx none [tv])(hl:xG (.ty 5) yA.base tf t1 1 (cA .u8 s) (.slice n 0 k k))(hle:bA tf t1)(hn:n≠bx) :
  ∃t2,(∀n',kE yA 90 (.ptr bx 0) (.slice n 0 k k) ⟨n',t1⟩=some (lD,⟨n',t2⟩))/\TX tf t2 bx s:=by
 obtain⟨t2,g1,g2,g3⟩:=hc.store1 (v:=.slice n 0 k k) hb pM rfl rfl rfl (j:=0) (by simp);refine⟨t2,g1,hb,hf,hle.off hf g3,_,g2,hl.keep' fun b hb'=>g3 b fun e=>?_,fun e=>?_⟩
 all_goals grind [bZ]
theorem TX.add(h:TX tf t bx s)(hm:m≠[])(hl:s.length+m.length<400000):∃tv,aA yA 90 ⟨0,t⟩ (.ptr bx 0)=some tv/\∀n,t.get n=none->yA.base<=n →
  ∃w t1 t2,nF yA 90 9 tv (.str m) ⟨n,t⟩=some (w,⟨n+1,t1⟩)/\(∀n',kE yA 90 (.ptr bx 0) w ⟨n',t1⟩=some (lD,⟨n',t2⟩))/\TX tf t2 bx (s++m):=by
 obtain⟨tv,h1,h2,h3,h4⟩:=h.load;refine⟨tv,h1,fun n hn hbase=>?_⟩;have hbn:n≠bx:=by intro e;obtain⟨c,hh,_⟩:=h2;simp_all
 obtain⟨t1,g1,g2,g3,g4⟩:=KG el35 ⟨_,iL,rfl⟩ co5 h3 hm hl hn hbase h.2.2.1;obtain⟨t2,g5,g6⟩:=TX.put h.1 h.2.1 (h2.off (g4 bx hbn.symm h4)) g2 g3 hbn
 grind
theorem TX.byte(h:TX tf t bx s)(x:Nat)(hl:s.length+1<400000):∃tv,aA yA 90 ⟨0,t⟩ (.ptr bx 0)=some tv/\∀n,t.get n=none->yA.base<=n →
  ∃H1,bE yA 90 1 [(0,.int .u8 (x:Int))] ⟨n,t⟩=some (.slice n 0 1 1,H1)/\∀n2,H1.t.get n2=none->yA.base<=n2 →
   ∃w t1 t2,nF yA 90 90 tv (.slice n 0 1 1) ⟨n2,H1.t⟩=some (w,⟨n2+1,t1⟩)/\(∀n',kE yA 90 (.ptr bx 0) w ⟨n',t1⟩=some (lD,⟨n',t2⟩))/\TX tf t2 bx (s++[x]):=by
 obtain⟨tv,h1,h2,h3,h4⟩:=h.load;refine⟨tv,h1,fun n hn hbase=>?_⟩;obtain⟨H1,c1,c2,c3⟩:=fZ (k:=.u8) pM rfl nN rfl rfl x trivial hn;refine⟨H1,c1,fun n2 hn2 hbase2=>?_⟩;have hcel:dE H1.t bx none [tv]:=h2.off (by
  obtain⟨c,hh,_⟩:=h2;rw[c3 _ _ hh,hh])
 have hbn:n2≠bx:=by intro e;obtain⟨c,hh,_⟩:=hcel;simp_all
 have h3':xG (.ty 5) yA.base tf H1.t 1 (cA .u8 s) tv:=h3.keep' fun b hb=>by
  obtain⟨_,_,y,hy⟩:=h3.none hb;rw[c3 _ _ hy,hy]
 obtain⟨t1,g1,g2,g3,g4⟩:=Wg el35 co5 h3' (c2.all (cap:=1) (ybk _)) (by simp) (by omega) hn2 hbase2 (h.2.2.1.trans c3);simp only[List.length_singleton]at g1 g2;obtain⟨t2,g5,g6⟩:=TX.put h.1 h.2.1 (hcel.off (g4 bx hbn.symm h4)) g2 g3 hbn
 grind
theorem SM{Q:dB}{c:Nat}(hm:m≠[])(hc:c<100)(hml:m.length<100):∀(k i:Nat) (s:List Nat) (t:Tr sA),i+k=c->s.length+k+m.length<400000->TX tf t bx s->(∀t',TX tf t' bx (s++(List.replicate k 48++m))->Q (.bool true) t') →
  jp 211 10 [.ptr bx 0,.str m,.int .i64 (c:Int),.int .i64 (i:Int)] t Q:=by
 intro k;induction k with
 | zero=>
  intro i s t hi hl h hQ;refine GI ?_;simp only[yC,uZ,uY,Qr,qA,xC];rw[yaa (by omega)];obtain⟨tv,g1,g2⟩:=h.add hm (by omega)
  grind [wA]
 | succ k ih=>
  intro i s t hi hl h hQ;refine GI ?_;simp only[yC,uZ,uY,Qr,qA,xC];rw[yab (by omega)];obtain⟨tv,g1,g2⟩:=h.byte 48 (by omega);rw[g1,wA];intro n hn hbase;obtain⟨H1,g3,g4⟩:=g2 n hn hbase;rw[show((48:Nat):Int)=48 from rfl]at g3;rw[g3,wA];intro n2 hn2 hbase2;obtain⟨w,t1,t2,g5,g6,g7⟩:=g4 n2 hn2 hbase2;simp only[];rw[g5,wA];intro n3 _ _;rw[g6,wA];rw[wrap_i64 (by omega) (by omega),show(i:Int)+1=((i+1:Nat):Int) by omega]
  refine ih (i+1) (s++[48]) t2 (by omega) (by grind) g7 fun t' h'=>hQ t' ?_
  grind
def zc0{u:Nat}(h:u<18446744073709551616):lB yA F 243 [.int .u64 (u:Int),.int .i64 10] t=some (.str (fD u)):=by
 have hg:yA.prims.get 243=some (fL Gm):=by kernel_rfl
 refine Ko hg fun H=>?_;show xB (uC 0 (u:Int)&&iB (u:Int) 18446744073709551616&&iA 10 10) (some (zA.str (eJ (u:Int))))=_;rw[Mg,pD.2 (by omega),xC.2 (by omega)];rfl
def Ij(s:List Nat)(x:Nat):List Nat:=if s=[]\/s=[45]then s++fD x else s++eN 9 x
theorem zew{Q:dB}{x:Nat}(h:TX tf t bx s)(hx:x<1000000000)(hs:s.length<300000)(hlt:yB 256 s)(hQ:∀t',TX tf t' bx (Ij s x)->Q (.bool true) t'):jp 211 6 [.ptr bx 0,.int .u32 (x:Int)] t Q:=by
 have hd:=gT x;have hd9:(fD x).length<=9:=Ai (by decide) (by omega);have hne:fD x≠[]:=fun e=>by simp_all
 have hpad:s≠[]->s≠[45]->jp 211 10 [.ptr bx 0,.str (fD x),.int .i64 (rA .i64 (9-Int.ofNat (rB (fD x)))),.int .i64 0] t Q:=by
  intro h1 h2;have e:rA .i64 (9-Int.ofNat (rB (fD x)))=((9-(fD x).length:Nat):Int):=by
   grind [vD,wrap_i64]
  rw[e];refine SM hne (by omega) (by omega) _ 0 s t (ybw _) (by omega) h fun t' h'=>hQ t' ?_
  grind [Ij,zdd]
 have hadd:s=[]\/s=[45]->∃tv,aA yA 90 ⟨0,t⟩ (.ptr bx 0)=some tv/\∀b,t.get b=none->yA.base<=b->oE (nF yA 90 9 tv (.str (fD x)) ⟨b,t⟩) fun p=>∀b,p.2.t.get b=none->yA.base<=b->oE (kE yA 90 (.ptr bx 0) p.1 ⟨b,p.2.t⟩) fun p=>Q (.bool true) p.2.t:=by
  intro hs';obtain⟨tv,g1,g2⟩:=h.add hne (by omega)
  grind [wA,Ij]
 obtain⟨tv,l1,l2,l3,l4⟩:=h.load;refine j211_6 ?_;simp only[uQ14,uI,uU,uS,uZ,uW,Zd,qA,q243];rw[rF (by omega) (by omega),zc0 (by omega),wA];simp only[zA.asStr,wA,l1,l3.len,fB,bC,xC,gE];by_cases h1:1<s.length
 ·rw[yab (by omega)];exact hpad (by grind) (by grind)
 ·rw[yaa (by omega)];by_cases h2:s.length=1
  ·rw[yab (by omega)];obtain⟨y,rfl⟩:=List.length_eq_one_iff.1 h2;have hr:=l3.read (by rfl) h.2.2.1;obtain⟨b,off,k1,k2⟩:=hr.idx sl90 (i:=0) (x:=y) rfl
   grind [wA,fB,jV]
  grind [List.length_eq_zero_iff]
end
section
variable [sC]
variable {t tf:Tr sA}{bx:Nat}{s m:List Nat}
theorem ZT{sg:List Nat}(hsg:sg=[]\/sg=[45]){x:Nat}{l:List Nat}:Ij (sg++fI l) x=sg++fI (x::l):=by
 unfold Ij
 cases l with
 | nil=>
  grind [fI]
 | cons p l=>
  have hne:fI (p::l)≠[]:=by
   cases l with
   | nil=>grind [gT,fI]
   | cons q l=>
    grind [fI,List.length_append,Sp]
  rw[yaa,fI,ybz];rintro(h | h)
  ·simp_all
  ·rcases hsg with rfl | rfl
   ·rw[yah]at h;have:=Pi (p::l) 45 (by simp_all);omega
   simp_all
theorem Xy:∀(l:List Nat),(∀x∈l,x<1000000000)->(fI l).length<=9*l.length
 | [],_=>by simp[fI]
 | [p],h=>by
  simp_all [Ai,fI]
 | p::q::l,h=>by
  have:=Xy (q::l) fun x hx=>h x (.tail _ hx)
  grind [fI,Sp]
theorem KM{sg l:List Nat}(hsg:sg=[]\/sg=[45]):yB 256 (sg++fI l):=by
 intro x hx;rcases yaf.1 hx with hx | hx
 ·grind
 ·have:=Pi _ x hx;omega
theorem TX.framed{bx:Nat}{s:List Nat}:Wo (fun tf t=>TX tf t bx s) where
 le:=fun h=>h.2.2.1
 both:=fun h hn y=>h.both hn y
 out:=fun hn h=>TX.out hn h
theorem Ya{Q:dB}{t0:Tr sA}{ps:List Nat}{v4:zA}{sg:List Nat}(hsg:sg=[]\/sg=[45])(h0:bA t0 tf)(hp:mA tf 1 (cA .u32 ps) v4)(hlt:yB 1000000000 ps)(hl:ps.length<30000)(h:TX tf t bx sg)
  (hQ:∀t',bA t0 t'->Q (.tup [.str (sg++fI ps),.int .i64 0]) t'):jp 211 29 [.str [],.int .i64 0,v4,.ptr bx 0] t Q:=by
 refine zd0 ?_;unfold Ze uS uZ;refine BS (S:=fun k tf t=>TX tf t bx (sg++fI (ps.drop k))) (fun k=>TX.framed) hp hl (by grind [fI]) ?_ ?_
 ·intro k x tf t' Q1 hx hI hQ1;have hk:k<ps.length:=(ybc.1 hx).1;have hxl:x<1000000000:=hlt x (ycv hx);have hdrop:ps.drop k=x::ps.drop (k+1):=by
   grind [List.drop_eq_getElem_cons]
  have hlen:(sg++fI (ps.drop (k+1))).length<300000:=by
   have:=Xy (ps.drop (k+1)) fun y hy=>hlt y (List.mem_of_mem_drop hy)
   grind
  grind [zew,KM,ZT]
 ·intro tf' t' hle h3;rw[ycr]at h3;obtain⟨tv,g1,_,g3,_⟩:=h3.load;show oE (aA yA 90 ⟨0,t'⟩ (.ptr bx 0)) _;rw[g1,wA];show oE (nJ yA 90 9 ⟨0,t'⟩ tv) _;rw[IY pM iL rfl rfl rfl nN rfl (g3.read (by rfl) h3.2.2.1) (KM hsg),wA];exact hQ _ (h0.trans (hle.trans h3.2.2.1))
def jL(neg:Bool)(l:List Nat):List Nat:=xS neg (val 65536 l)
set_option exponentiation.threshold 2000 in
theorem Xx{neg:Bool}{l:List Nat}{v:zA}(hv:mA t 1 (cA .u16 l) v)(hlt:yB 65536 l)(hval:sH neg l=true):lB yA F 211 [.agg [.bool neg,v]] t=some (.tup [.str (jL neg l),.int .i64 0]):=by
 have hlen:l.length<=1024:=by
  grind [sH]
 refine fN (w211 ?_);simp only[uI,uB,uZ,t211,qA,q237];rw[Ja (by omega) hv,hval];simp only[zA.asBool,wA,Bool.not_true,ybq,if_false,hv.len,bC,fB,gE];by_cases h0:l=[]
 ·grind [sH,jL,xS,val,Hy]
 ·have hpos:0<l.length:=List.length_pos_iff.2 h0;rw[yaa (by omega),q240];refine Sq hv (by omega) hlt fun t1 v1 hle hv1=>?_;have hlast:l.getLast?≠some 0:=by
   grind [sH]
  have hnorm:norm l:=fun hne e2=>hlast (by rw[List.getLast?_eq_some_getLast hne,e2]);have hN:val 4294967296 (kF l)=val 65536 l:=Ox l;have hvpos:0<val 65536 l:=by
   rcases yav (val 65536 l)with e | e
   ·exfalso;exact h0 (Cl (B:=65536) (by decide) hnorm e)
   ·exact e
  have hple:(kF l).length<=512:=by rw[wQ];omega
  have hbnd:val 4294967296 (kF l)<1000000000^1100:=by
   have g1:=oJ (B:=4294967296) (by decide) (Ig hlt);have g2:4294967296^(kF l).length<=4294967296^512:=yao (by decide) hple;omega
  refine SJ (t0:=t1) (N:=val 65536 l) (M:=1100) (by decide) ?_ 1100 (kF l) [] .nilslice v1 t1 t1 hbnd (by simp) (Lk hnorm) (Ig hlt) (by omega) (fun x hx=>by cases hx) ?_ (by simp[val,hN]) (bA.refl _) (bA.refl _) Ha hv1
  ·intro tf t' ps v4 v5 k1 k2 k3 k4 k5 k6 k7 k8 k9;refine zca ?_;simp only[uI,uL,uX,uZ,uY,Qq,qA,(k4.mono k2).len,wA,fB,bC,xC,ybx];rw[yaa (by simp)];obtain⟨tf',f1,f2,f3,f4⟩:=k3.freeze rfl k2;have hpl:ps.length<30000:=by omega
   intro bx hbx hbase;obtain⟨t2,e1,e2,e3,e4⟩:=Wi (C:=yA) pM hbx;rw[e1,wA];have hTX:TX tf' t2 bx []:=⟨hbase,Lm f2 hbx,f2.trans e3,.nilslice,e2,Ha,Uq⟩;have ht:bA t tf':=hle.trans (k1.trans f1);have htext:fI ps=fD (val 65536 l):=by rw[<- k8];exact(Xz k6 k5 k7).1
   cases neg with
   | false=>
    simp only[ybq,if_false];refine Ya (.inl rfl) ht f3 k5 hpl hTX fun t' ht'=>⟨?_,ht'⟩;rw[htext];rfl
   | true=>
    simp only[if_true];obtain⟨tv,g1,g2⟩:=hTX.byte 45 (by simp);rw[g1,wA];intro n hn hbn;obtain⟨H1,g3,g4⟩:=g2 n hn hbn;rw[show((45:Nat):Int)=45 from rfl]at g3;rw[g3,wA];intro n2 hn2 hbn2;obtain⟨w,t3,t4,g5,g6,g7⟩:=g4 n2 hn2 hbn2;simp only[];rw[g5,wA];intro n3 _ _;rw[g6,wA];refine Ya (.inr rfl) ht f3 k5 hpl g7 fun t' ht'=>⟨?_,ht'⟩;rw[htext];rfl
  grind [wQ]
end
section
variable [sC]
variable {t:Tr sA}
def zav{A lu lv Z:List Nat}{v:zA}{b cap m:Nat}{t0 t':Tr sA}{Q:dB}(hv:mA t0 1 (cA .u32 lv) v)(hl:lv.length=m+2)(hm:m<800000)(hlv:yB BB lv)(hbase:yA.base<=b)(hb:t0.get b=none)(hlul:lu.length=m+3)(hlu:yB BB lu)(hcap:m+3<=cap)
  (htop:∀top,lv[m+1]?=some top->2147483648<=top) (hlt:val BB lu<BB*val BB lv) (ht:bA t0 t') (hoff:dD b t t') (ho:eE t' b .u32 (A++lu++Z))
  (hQ:∀t2 r,bA t0 t2->dD b t t2->eE t2 b .u32 (A++(r++[0])++Z)->r.length=m+2->yB BB r->val BB r=val BB lu%val BB lv->val BB lu / val BB lv<BB->Q (.int .u32 ((val BB lu / val BB lv:Nat):Int)) t2) :
  Wc yA F 298 [.slice b A.length (m+3) cap,v] t' Q:=by
 obtain⟨top,h1⟩:=getElem?_of_lt (l:=lv) (i:=m+1) (by omega);obtain⟨v2,h2⟩:=getElem?_of_lt (l:=lv) (i:=m) (by omega);obtain⟨un,h3⟩:=getElem?_of_lt (l:=lu) (i:=m+2) (by omega);obtain⟨u1,h4⟩:=getElem?_of_lt (l:=lu) (i:=m+1) (by omega);obtain⟨u2,h5⟩:=getElem?_of_lt (l:=lu) (i:=m) (by omega);have b1:top<BB:=wH hlv h1;have b2:v2<BB:=wH hlv h2;have b3:un<BB:=wH hlu h3;have b4:u1<BB:=wH hlu h4
 have b5:u2<BB:=wH hlu h5;have hBB:=lL;have c1:top<4294967296:=by omega
 have c3:un<4294967296:=by omega
 have c4:u1<4294967296:=by omega
 have htop2:=htop top h1;obtain⟨hV,hvr⟩:=top2 (B:=BB) mH hlv hl h1 h2;obtain⟨hU,hur⟩:=top3 (B:=BB) mH hlu hlul h3 h4 h5;have hVpos:0<val BB lv:=by
  have:0<(top*BB+v2)*BB^m:=Nat.mul_pos (by have:0<top*BB:=Nat.mul_pos (by omega) mH;omega) (Nat.pow_pos mH);omega
 have hq:val BB lu / val BB lv<BB:=ycu (by rw[ybh];exact hlt);have hread:mA t' 1 (cA .u32 lu) (.slice b A.length (m+3) cap):=by
  have:=ho.slice (off:=A.length) (n:=m+3) (cap:=cap) (by simp;omega) hcap;rw[ybz,List.drop_left,List.take_left' hlul]at this;exact this
 have hv':=hv.mono ht;obtain⟨d1,o1,g1,g1'⟩:=hread.idx gF h3;obtain⟨d2,o2,g2,g2'⟩:=hread.idx gF h4;obtain⟨d3,o3,g3,g3'⟩:=hv'.idx gF h1;have hun:un<=top:=by
  rcases yau top un with g | g
  ·exfalso;have e1:(un*BB)*BB*BB^m<=val BB lu:=by rw[hU,ybo,ybo,ybo];omega
   have e2:val BB lv<(top+1)*BB*BB^m:=by
    have h:top*BB+v2+1<=(top+1)*BB:=by rw[ybo];omega
    have:=ybi (BB^m) h;rw[ybo (top*BB+v2) 1,Nat.one_mul]at this;omega
   have e3:BB*val BB lv<BB*((top+1)*BB*BB^m):=Nat.mul_lt_mul_of_pos_left e2 mH;have e4:BB*((top+1)*BB*BB^m)<=un*BB*BB*BB^m:=by
    have:(top+1)*BB*BB^m<=un*BB*BB^m:=ybi _ (ybi _ g);have:=ybv BB this
    calc BB*((top+1)*BB*BB^m)<=BB*(un*BB*BB^m):=this
     _=un*BB*BB*BB^m:=by rw[<- ybj,ybh BB (un*BB)]
   omega
  ·exact g
 have hh:un*BB+u1<=top*BB+(BB-1):=by
  have:=ybi BB hun;omega
 have hge:val BB lu / val BB lv<=(un*BB+u1) / top:=kn_ge hU hur b5 hV (by omega);have hdle:(un*BB+u1) / top<=BB+1:=by
  have:un*BB+u1<(BB+2)*top:=by
   rw[ybo,ybh BB top];generalize top*BB=P at hh ⊢;generalize un*BB=R at hh ⊢;omega
  have:=ycu (show un*BB+u1<top*(BB+2) by rw[ybh top];exact this);omega
 have hrest:(un*BB+u1)%top<BB:=Nat.lt_trans (ycy _ (by omega)) b1;refine w298 ?_;have e1:((lv.length:Nat):Int)=((m+2:Nat):Int):=by rw[hl]
 have e2:((m+2:Nat):Int)-1=((m+1:Nat):Int):=by omega
 have e3:(un:Int)*4294967296=((un*4294967296:Nat):Int):=by omega
 simp (disch:=omega) only[uI,uL,uE,uZ,uW,t298,qA,hv'.len,wA,fB,bC,e1,g1,g1',e2,wrap_i64,g2,g2',g3,g3',rF,e3];have e4:iH Nat.lor .u64 ((un*4294967296:Nat):Int) (u1:Int)=some (.int .u64 ((un*4294967296+u1:Nat):Int)):=by
  rw[tS (k:=.u64) (show un*4294967296<zG .u64 by show _<18446744073709551616;omega) (show u1<zG .u64 by show _<18446744073709551616;omega)];have:=Bw (a:=un) (b:=u1) (n:=32) c4;rw[show un*4294967296=un*2^32 by rfl,this]
 rw[e4];simp only[wA,fB];have e5:mT .u64 ((un*4294967296+u1:Nat):Int) (top:Int)=some (.int .u64 (((un*4294967296+u1) / top:Nat):Int)):=Mm (by omega) (by
  have h:(un*4294967296+u1) / top<=4294967296+1:=by rw[hBB]at hdle;exact hdle
  generalize (un*4294967296+u1) / top=z at h ⊢;exact rF (by omega) (by omega))
 rw[e5];simp only[wA,fB];rw[Hm (by omega)];simp only[wA,fB];refine VT hread hv' (by omega) h5 h2 b5 b2 (by omega) b1 hU hur hV hvr hq hh (fun d q1 q2 q3=>?_) _ _ ?_ (by rw[hBB]at hge ⊢;exact hge) (by rw[hBB]at hdle ⊢;exact hdle) (by rw[hBB]at hrest ⊢;exact hrest)
 ·refine zdv ?_;simp only[uI,uZ,Ys,qA,hv'.len,wA,fB,bC,e1];have hms:=TQ (t:=t) (A:=A) (Z:=Z) (lu:=lu) (lv:=lv) (v:=v) (b:=b) (cap:=cap) (d:=d) (t0:=t0) (Q:=Q) hv (by omega) hlv hbase hb q3 (by omega) hlu (by omega) ?_ lv.length 0 0 0 t' [] (by omega) ht hoff (by simpa using ho) rfl (fun x hx=>by cases hx) (by first | omega | decide) (by first | omega | decide) (by simp[val])
  ·rw[hl]at hms;exact hms
  ·intro t2 W last bo k1 k2 k3 k4 k5 k6 k7 k8;have hWall:val BB (W++[last])<BB^(lv.length+1):=by
    have:=oJ (B:=BB) mH (gQ k5 k6);simp only[ybg,ybn,ybx,k4]at this;exact this
   have hVlt:val BB lv<BB^lv.length:=oJ mH hlv;have hdm:=ych (val BB lu) (val BB lv);have hmod:val BB lu%val BB lv<val BB lv:=ycy _ hVpos;have hWs:val BB (W++[last])=val BB W+BB^lv.length*last:=by rw[pJ,k4]
   split
   ·rename_i hz;subst hz;rw[yat,yct]at k8;have hd:d=val BB lu / val BB lv:=by
     refine Nat.le_antisymm ?_ q1;rw[Nat.le_div_iff_mul_le hVpos];omega
    have hr:val BB (W++[last])=val BB lu%val BB lv:=by
     rw[hd,ybh]at k8;omega
    have hlast:last=0:=by
     rcases yav last with g | g
     ·exact g
     ·exfalso;have:=ybv (BB^lv.length) g;rw[Nat.mul_one]at this;omega
    subst hlast;rw[hd];exact hQ t2 W k1 k2 k3 (by omega) k5 (by rw[<- hr,hWs];simp) hq
   ·rename_i hz;have hbo:bo=1:=by omega
    subst hbo;rw[Nat.mul_one]at k8;have hd:d=val BB lu / val BB lv+1:=by
     refine Nat.le_antisymm q2 ?_;rcases yau (val BB lu / val BB lv) d with g | g
     ·exact g
     ·exfalso;have:d*val BB lv<=val BB lu:=Nat.le_trans (ybi _ g) (Nat.div_mul_le_self _ _);omega
    have hk9:val BB (W++[last])+val BB lv=val BB lu%val BB lv+BB^(lv.length+1):=by
     rw[hd,ybo,Nat.one_mul,ybh (val BB lu / val BB lv)]at k8;omega
    refine ZS (t:=t) (A:=A) (Z:=Z) (t0:=t0) hv (by omega) hlv hbase hb (by rw[hd];exact Nat.succ_pos _) (by omega) W k4 k5 last k6 (by omega) (fun t3 r up n1 n2 n3 n4 n5 n6=>?_) lv.length 0 0 t2 [] (by omega) k1 k2 (by simpa using k3) rfl (fun x hx=>by cases hx) (by first | omega | decide) (by simp[val])
    have hrlt:val BB r<BB^lv.length:=by
     have:=oJ (B:=BB) mH n4;rw[n3]at this;exact this
    rw[hWs,yag]at hk9;have hfin:val BB r+BB^lv.length*(up+last)=val BB lu%val BB lv+BB^lv.length*BB:=by
     rw[ybm];omega
    have hsplit:up+last=BB/\val BB r=val BB lu%val BB lv:=by
     have hmlt:val BB lu%val BB lv<BB^lv.length:=by omega
     have hB:0<BB^lv.length:=by omega
     have e1:(val BB r+BB^lv.length*(up+last)) / BB^lv.length=up+last:=by rw[Nat.add_mul_div_left _ _ hB,Nat.div_eq_of_lt hrlt];simp
     have e2:(val BB lu%val BB lv+BB^lv.length*BB) / BB^lv.length=BB:=by rw[Nat.add_mul_div_left _ _ hB,Nat.div_eq_of_lt hmlt];simp
     rw[hfin,e2]at e1;refine⟨e1.symm,?_⟩;rw[<- e1]at hfin;omega
    have hl0:(last+up)%BB=0:=by rw[yap,hsplit.1];exact Nat.mod_self _
    rw[hl0]at n2;have hd1:d-1=val BB lu / val BB lv:=by rw[hd];exact Nat.add_sub_cancel _ _
    rw[hd1];exact hQ t3 r (k1.off hb (fun c hc=>by
     rw[n1 c hc,<- k2 c hc])) n1 n2 (by omega) n4 hsplit.2 hq
 ·rw[ybh,hBB];exact ych _ _
end
end Go.Proofs
namespace Go.Am
def MO{B p K:Nat}(hB:B=p*K)(hp:0<p)(hK:0<K){x y:Nat}{l:List Nat}(hx:x<B) :
  val B (x::y::l) / p=(y*B+x) / p%B+B*(val B (y::l) / p):=by
 have e1:val B (x::y::l)=x+p*(K*val B (y::l)):=by
  show x+B*val B (y::l)=_;rw[hB,ybj]
 have e2:y*B+x=x+p*(K*y):=by rw[hB,yap,ybh y,ybj]
 have e3:val B (y::l)%p=y%p:=by
  show(y+B*val B l)%p=_;rw[hB,ybj,Nat.add_mul_mod_self_left]
 have e4:K*y=K*(y%p)+B*(y / p):=by
  grind [Nat.div_add_mod]
 have e5:K*val B (y::l)=K*(y%p)+B*(val B (y::l) / p):=by
  grind [Nat.div_add_mod]
 have e6:x / p<K:=ycu (by omega);have e7:x / p+K*(y%p)<B:=by
  have h1:y%p<p:=ycy _ hp;have h2:K*(y%p+1)<=K*p:=ybv _ h1
  grind
 rw[e1,Nat.add_mul_div_left _ _ hp,e2,Nat.add_mul_div_left _ _ hp,e4,<- Nat.add_assoc,Nat.add_mul_mod_self_left,Nat.mod_eq_of_lt e7,e5,<- Nat.add_assoc]
end Go.Am
namespace Go.Proofs
open Go Go.Am
variable [sC]
variable {t:Tr sA}
theorem OR{l:List Nat}{b L lo hi:Nat}(ho:eE t b .u32 l)(h1:lo<=hi)(h2:hi<=L)(h3:lo<L) :
  tE yA 240 ⟨0,t⟩ (.slice b 0 L L) (some (.int .i64 (lo:Int))) (some (.int .i64 (hi:Int)))=some (.slice b lo (hi-lo) (L-lo)):=by
 obtain⟨c,hg,_⟩:=ho;obtain⟨⟨y,hy1,hy2⟩,⟨z,hz1,hz2,hz3⟩⟩:=gF;unfold tE;rw[hy1,tA];have hb:∀y (k:Nat),bT y (.int .i64 (k:Int))=xB (Nat.ble k y) (some k):=fun y k=>rfl;unfold iK;simp only[zA.asStr,zA.asSlice];rw[hy2,tA];unfold gL;rw[hz1,tA];unfold xN cX;simp only[hb];rw[show Nat.ble hi L=true from rE.2 h2];simp only[jD,tA];rw[show Nat.ble lo hi=true from rE.2 h1];simp only[jD,tA];have he2:rK ⟨0,t⟩ b z.size L lo false=false:=by
  unfold rK aC;rw[hg,tA];rfl
 rw[he2,yay,cond_false];have hf:jK ⟨0,t⟩ b z.size L lo false=true:=by
  unfold jK aC;rw[hg,tA];rfl
 rw[show Nat.ble hi L=true from rE.2 h2,hf];simp only[Bool.and_self,jD];have hq:Nat.beq L lo=false:=by
  grind [oC]
 rw[hq,cond_false,hz2,Nat.mul_one,ybw]
theorem MP{qv:zA}{Z c:List Nat}{b n s L cn:Nat}{Q:dB}(hn:n<900000)(hc:c.length=n+1)(hcl:yB BB c)(hcn:c[n]?=some cn)(hbase:yA.base<=b)(hs:s<32)(hL:n+1<=L)
  (hexit:∀t' W,dD b t t'->eE t' b .u32 (W++[cn]++Z)->W.length=n->yB BB W->val BB W+BB^n*(cn / 2^s)=val BB c / 2^s->jp 285 6 [.int .i64 (n:Int),.int .i64 (s:Int),.slice b 0 L L,qv,.int .i64 (n:Int),.int .i64 (n:Int)] t' Q) :
  ∀(k i:Nat) (t':Tr sA) (W:List Nat),i+k=n->dD b t t'->eE t' b .u32 (W++c.drop i++Z)->W.length=i->yB BB W->val BB W+BB^i*(val BB (c.drop i) / 2^s)=val BB c / 2^s →
  jp 285 6 [.int .i64 (n:Int),.int .i64 (s:Int),.slice b 0 L L,qv,.int .i64 (n:Int),.int .i64 (i:Int)] t' Q:=by
 intro k;induction k with
 | zero=>
  intro i t' W hi hoff ho hW hWl hval;have hi':i=n:=by omega
  subst hi';have hd:c.drop i=[cn]:=by
   rw[drop_cons' hcn,ybt (by omega)]
  grind [val]
 | succ k ih=>
  intro i t' W hi hoff ho hW hWl hval;have hBB:=lL;obtain⟨x,hx⟩:=getElem?_of_lt (l:=c) (i:=i) (by omega);obtain⟨y,hy⟩:=getElem?_of_lt (l:=c) (i:=i+1) (by omega);have hx32:x<4294967296:=by have:=wH hcl hx;omega
  have hy32:y<4294967296:=by have:=wH hcl hy;omega
  have hd1:c.drop (i+1)=y::c.drop (i+2):=drop_cons' hy;have hd0:c.drop i=x::y::c.drop (i+2):=by rw[drop_cons' hx,hd1]
  have m0:=Cm (A:=W) (w:=c.drop i) (Z:=Z) (j:=0) (x:=x) (by grind);have m1:=Cm (A:=W) (w:=c.drop i) (Z:=Z) (j:=1) (x:=y) (by grind);rw[hW]at m0 m1;rw[yct]at m0;have g0:=Aa gF (b:=b) (n:=L) (cap:=L) (j:=i) (by omega);have g1:=Aa gF (b:=b) (n:=L) (cap:=L) (j:=i+1) (by omega);have l0:=ho.load (C:=yA) m0 tG rfl;have l1:=ho.load (C:=yA) m1 tG rfl;have ei:(i:Int)+1=((i+1:Nat):Int):=by omega
  have e2:(y:Int)*4294967296=((y*4294967296:Nat):Int):=by omega
  obtain⟨t1,s1,s2,s3⟩:=ho.store (C:=yA) hbase (j:=i) (by grind) ((y*4294967296+x) / 2^s%4294967296) tG rfl;have hset:=Gx (A:=W) (w:=c.drop i) (Z:=Z) (j:=0) (x:=(y*4294967296+x) / 2^s%4294967296) (by grind);rw[yct,hW]at hset;rw[hset]at s2;refine zbt ?_;simp only[uL,uE,yC,uZ,Px,qA,xC];rw[yab (by omega)];simp (disch:=omega) only[ei,wrap_i64,g0,g1,wA,l0,l1,fB];rw[rF (n:=(y:Int)) (by omega) (by omega),e2,rF (n:=((y*4294967296:Nat):Int)) (by omega) (by omega),rF (n:=(x:Int)) (by omega) (by omega),Gn hy32 hx32,wA,fB,wA,GV (by omega),wA,fB,wA]
  have e3:rA .u32 (((y*4294967296+x) / 2^s:Nat):Int)=(((y*4294967296+x) / 2^s%4294967296:Nat):Int):=by
   grind [cQ]
  rw[e3];intro _ _ _;rw[s1,wA];have hw:(y*4294967296+x) / 2^s%4294967296<BB:=by omega
  refine ih (i+1) t1 (W++[(y*4294967296+x) / 2^s%4294967296]) (by omega) (hoff.trans s3) ?_ (by simp[hW]) (gQ hWl hw) ?_
  ·grind
  ·have hst:=MO (B:=BB) (p:=2^s) (K:=2^(32-s)) (by rw[<- Nat.pow_add,show s+(32-s)=32 by omega,hBB]) (Nat.pow_pos (by decide)) (Nat.pow_pos (by decide)) (x:=x) (y:=y) (l:=c.drop (i+2)) (by omega);rw[<- hval,hd0,hst,pJ,hW,hd1,yag,ybm,hBB];grind
end Go.Proofs
namespace Go.Proofs
open Go Go.Am
variable [sC]
variable {t:Tr sA}
theorem XP{lv:List Nat}{v:zA}{b bq m s L Lq U:Nat}{t0:Tr sA}{Q:dB}(hv:mA t0 1 (cA .u32 lv) v)(hl:lv.length=m+2)(hm:m<800000)(hlv:yB BB lv)(hbase:yA.base<=b)(hbaseq:yA.base<=bq)(hb:t0.get b=none)(hbq:t0.get bq=none)(hne:b≠bq)(hL:L<1000000)
  (htop:∀top,lv[m+1]?=some top->2147483648<=top) (hVpos:0<val BB lv)
  (hexit:∀t' q r Z,bA t0 t'->eE t' b .u32 (r++[0]++Z)->eE t' bq .u32 q->r.length=m+2->yB BB r->yB BB q->q.length=Lq->m+3+Z.length=L->val BB r<val BB lv->U=val BB lv*val BB q+val BB r->jp 285 6 [.int .i64 ((m+2:Nat):Int),.int .i64 (s:Int),.slice b 0 L L,.slice bq 0 Lq Lq,.int .i64 ((m+2:Nat):Int),.int .i64 0] t' Q) :
  ∀(j:Nat) (A c Z Qd:List Nat) (t':Tr sA),A.length=j->c.length=m+3->yB BB A->yB BB c->yB BB Qd->A.length+(m+3)+Z.length=L->j+1+Qd.length=Lq->val BB c<BB*val BB lv->bA t0 t'->eE t' b .u32 (A++c++Z)->eE t' bq .u32 (List.replicate (j+1) 0++Qd)->U=val BB lv*(BB^(j+1)*val BB Qd)+val BB (A++c) →
  jp 285 2 [.int .i64 ((m+2:Nat):Int),.int .i64 (s:Int),v,.slice b 0 L L,.slice bq 0 Lq Lq,.int .i64 (j:Int)] t' Q:=by
 intro j;induction j using Nat.strongRecOn with
 | ind j ih=>
  intro A c Z Qd t' hA hc hAl hcl hQl hLen hLq hlt ht ho hoq hU;have gs:=OR (b:=b) (L:=L) (lo:=j) (hi:=j+(m+2)+1) ho (by omega) (by omega) (by omega);rw[show j+(m+2)+1-j=m+3 by omega]at gs;have e1:(j:Int)+((m+2:Nat):Int)=((j+(m+2):Nat):Int):=by omega
  have e2:((j+(m+2):Nat):Int)+1=((j+(m+2)+1:Nat):Int):=by omega
  refine zbu ?_;simp only[uL,uZ,uW,Py,qA,pD];rw[yab (by omega)];simp (disch:=omega) only[e1,wrap_i64,e2,gs,wA,q298];subst hA;refine zav (A:=A) (Z:=Z) (t:=t') (t0:=t0) hv hl hm hlv hbase hb hc hcl (by omega) htop hlt ht (dD.refl _ _) ho (fun t2 r k1 k2 k3 k4 k5 k6 k7=>?_);have hoq2:=hoq.off (fun e=>hne e.symm) k2;have g1:=Aa gF (b:=bq) (n:=Lq) (cap:=Lq) (j:=A.length) (by omega)
  obtain⟨t3,s1,s2,s3⟩:=hoq2.store (C:=yA) hbaseq (j:=A.length) (by grind) (val BB c / val BB lv) tG rfl;have hset:(List.replicate (A.length+1) 0++Qd).set A.length (val BB c / val BB lv)=List.replicate A.length 0++((val BB c / val BB lv)::Qd):=by
   simp_all [List.replicate_succ']
  rw[hset]at s2;rw[fB,wA,g1,wA];intro _ _ _;rw[s1,wA];have ho3:=k3.off hne s3;have ht3:=k1.off hbq s3;have hr:val BB r<val BB lv:=by grind [Nat.mod_lt]
  have hdm:=ych (val BB c) (val BB lv);have hU2:U=val BB lv*(BB^A.length*val BB ((val BB c / val BB lv)::Qd))+val BB (A++r):=by
   grind [Bl,val]
  rcases hA:A.length with _ | j'
  ·have hnil:A=[]:=List.eq_nil_of_length_eq_zero hA;subst hnil;refine zbu ?_;have e3:((0:Nat):Int)-1 = -1:=by omega
   rw[e3];simp only[uL,uZ,uW,Py,qA,pD];rw[yaa (by omega)];refine hexit t3 _ r Z ht3 (by simp_all) (by omega) k4 k5 (fun x hx=>?_) (by grind) (by omega) hr (by simp_all);rcases ybs.1 hx with rfl | hx
   ·exact k7
   ·exact hQl x hx
  ·obtain⟨x,hx⟩:=getElem?_of_lt (l:=A) (i:=j') (by omega);have hAx:A=A.take j'++[x]:=by
    rw[<- zR hx,yca (by omega)]
   have hxB:x<BB:=wH hAl hx;have e3:((j'+1:Nat):Int)-1=(j':Int):=by omega
   rw[e3];have hvx:val BB (x::r)=x+BB*val BB r:=rfl;refine ih j' (by omega) (A.take j') (x::r) (0::Z) ((val BB c / val BB lv)::Qd) t3 (by grind) (by simp[k4]) (xY hAl _) (fun y hy=>?_) (fun y hy=>?_) (by grind) (by grind) ?_ ht3 ?_ ?_ ?_
   ·rcases ybs.1 hy with rfl | hy
    ·exact hxB
    ·exact k5 y hy
   ·rcases ybs.1 hy with rfl | hy
    ·exact k7
    ·exact hQl y hy
   ·rw[hvx];have:=ybv BB hr;rw[Nat.mul_succ]at this;omega
   ·have:A.take j'++x::r++0::Z=A++(r++[0])++Z:=by
     conv=>rhs;rw[hAx]
     simp
    grind
   ·grind
   ·rw[hU2,hA];have:A++r=A.take j'++x::r:=by
     grind
    rw[this]
end Go.Proofs
namespace Go.Am
def XO{a b q R p:Nat}(hp:0<p)(h:a*p=b*p*q+R)(hR:R<b*p):a=b*q+R / p/\R / p<b:=by
 have h1:p ∣ R:=(Nat.dvd_add_right (⟨b*q,by rw[ybh b p,ybj]⟩:p ∣ b*p*q)).1 (h ▸ ⟨a,ybh a p⟩);obtain⟨R',rfl⟩:=h1;rw[Nat.mul_div_cancel_left _ hp];refine⟨Nat.eq_of_mul_eq_mul_left hp ?_,Nat.lt_of_mul_lt_mul_left (a:=p) ?_⟩
 all_goals grind
def div_v{B p K n top:Nat}{b rb:List Nat}(hB:B=p*K)(hp:0<p)(hlt:yB B b)(hl:b.length=n+1)(htop:b[n]?=some top)(ht:top*p<B)(hbig:B<=2*(top*p))(hrl:yB B rb)(hrb:rb.length=n+2)(hv:val B rb=val B b*p) :
  val B (rb.take (n+1))=val B b*p/\∀x,(rb.take (n+1))[n]?=some x->B<=2*x:=by
 have hB0:0<B:=by omega
 have hbv:val B b=val B (b.take n)+B^n*top:=by
  have:=aY B b n
  simp_all [drop_cons',ybt,val]
 have hlow:val B (b.take n)<B^n:=by
  have:=oJ hB0 (xY hlt n)
  simp_all
 have hK:top<K:=by
  simp_all [ybh]
 have hup:val B b*p<B^(n+1):=by
  have h1:val B b<B^n*(top+1):=by grind
  have h2:B^n*(top+1)<=B^n*K:=ybv _ hK;have h3:val B b*p<B^n*K*p:=Nat.mul_lt_mul_of_pos_right (by omega) hp
  grind
 have hsplit:=aY B rb (n+1);have htl:(rb.take (n+1)).length=n+1:=by grind
 rw[htl]at hsplit;have hz:val B (rb.drop (n+1))=0:=by
  rcases yav (val B (rb.drop (n+1)))with h | h
  ·exact h
  ·exfalso;have:=ybv (B^(n+1)) h;omega
 have hval:val B (rb.take (n+1))=val B b*p:=by simp_all
 refine⟨hval,fun x hx=>?_⟩;have h1:val B (rb.take (n+1))=val B ((rb.take (n+1)).take n)+B^n*x:=by
  have:=aY B (rb.take (n+1)) n
  simp_all [drop_cons',ybt,val]
 have h2:val B ((rb.take (n+1)).take n)<B^n:=by
  grind [oJ,xY]
 have h3:B^n*(top*p)<=val B b*p:=by
  grind [Nat.add_mul]
 have h4:B^n*(top*p)<B^n*(x+1):=by grind
 have h5:top*p<x+1:=Nat.lt_of_mul_lt_mul_left h4;omega
def div_u{B p n j:Nat}{a b ru:List Nat}(hB0:0<B)(hal:yB B a)(hb:B^n<=val B b)(hj:a.length=j+(n+1))(hru:ru.length=a.length+1)(hp:0<p)(hv:val B ru=val B a*p):val B (ru.drop j)<B*(val B b*p):=by
 have h1:=aY B ru j;have htl:(ru.take j).length=j:=by grind
 rw[htl]at h1;have h2:val B a<B^(j+(n+1)):=by grind [oJ]
 have h3:val B a*p<B^(j+(n+1))*p:=Nat.mul_lt_mul_of_pos_right h2 hp;have h4:B^(j+(n+1))*p=B^j*(B*(B^n*p)):=by
  rw[Nat.pow_add,yag,ybh (B^n) B,ybj,ybj]
 have h5:B^j*val B (ru.drop j)<B^j*(B*(B^n*p)):=by omega
 have h6:=Nat.lt_of_mul_lt_mul_left h5;have h7:B*(B^n*p)<=B*(val B b*p):=ybv _ (ybi _ hb);omega
end Go.Am
namespace Go.Proofs
open Go Go.Am
variable [sC]
variable {t:Tr sA}
theorem Zx{l:List Nat}{b L hi:Nat}(ho:eE t b .u32 l)(h2:hi<=L)(h3:0<L) :
  tE yA 240 ⟨0,t⟩ (.slice b 0 L L) none (some (.int .i64 (hi:Int)))=some (.slice b 0 hi L):=by
 obtain⟨c,hg,_⟩:=ho;obtain⟨⟨y,hy1,hy2⟩,⟨z,hz1,hz2,hz3⟩⟩:=gF;unfold tE;rw[hy1,tA];have hb:∀y (k:Nat),bT y (.int .i64 (k:Int))=xB (Nat.ble k y) (some k):=fun y k=>rfl;unfold iK;simp only[zA.asStr,zA.asSlice];rw[hy2,tA];unfold gL;rw[hz1,tA];unfold xN cX;simp only[hb];rw[show Nat.ble hi L=true from rE.2 h2];simp only[jD,tA];have he2:rK ⟨0,t⟩ b z.size L 0 false=false:=by
  unfold rK aC;rw[hg,tA];rfl
 rw[he2,yay,cond_false];have hf:jK ⟨0,t⟩ b z.size L 0 false=true:=by
  unfold jK aC;rw[hg,tA];rfl
 grind [rE,jD]
theorem PN{b o n c:Nat}:same 10 (.slice b o n c) (.slice b o n c)=true:=by
 simp[same]
theorem XN{q W Z:List Nat}{b bq n s L Lq:Nat}{Q:dB}(ho:eE t b .u32 (W++[0]++Z))(hoq:eE t bq .u32 q)(hW:W.length=n)(hn:n<1000000)(hL:n+1+Z.length=L)(hq:q.length=Lq)(hLq:Lq<1000000)
  (hQ:∀qv rv,mA t 1 (cA .u32 (rD q)) qv->mA t 1 (cA .u32 (rD W)) rv->Q (.tup [qv,rv]) t) :
  jp 285 6 [.int .i64 (n:Int),.int .i64 (s:Int),.slice b 0 L L,.slice bq 0 Lq Lq,.int .i64 (n:Int),.int .i64 (n:Int)] t Q:=by
 have e1:=Zx (L:=L) (hi:=n) ho (by omega) (by omega);have e2:mA t 1 (cA .u32 W) (.slice b 0 n L):=by
  have:=ho.slice (off:=0) (n:=n) (cap:=L) (by grind) (by omega)
  simp_all
 have e3:mA t 1 (cA .u32 q) (.slice bq 0 Lq Lq):=by
  have:=hoq.all (cap:=Lq) (by omega)
  simp_all
 obtain⟨qv,f1,f2⟩:=xZ (by omega) e3;obtain⟨rv,f3,f4⟩:=xZ (by omega) e2;refine zbt ?_;simp only[uL,uE,yC,uZ,Px,qA,xC];rw[yaa (by omega)];simp only[e1,wA,Cf,f1,f3];grind [PN]
theorem IM{a b:List Nat}{u v:zA}{Q:dB}(hu:mA t 1 (cA .u32 a) u)(hv:mA t 1 (cA .u32 b) v)(ha:a.length<700000)(hal:yB BB a)(hbl:yB BB b)(han:norm a)(hbn:norm b)(hb0:b≠[])
  (hQ:∀t' q r qv rv,bA t t'->mA t' 1 (cA .u32 q) qv->mA t' 1 (cA .u32 r) rv->yB BB q->yB BB r->norm q->norm r->val BB a=val BB b*val BB q+val BB r->val BB r<val BB b->Q (.tup [qv,rv]) t') :
  Wc yA F 285 [u,v] t Q:=by
 have hBB:=lL;have hB1:1<BB:=by omega
 have hlt:=Vu hB1 hal hbl han hbn;refine w285 ?_;simp only[uI,uL,uX,uZ,uW,t285,qA,q283,zco (by omega) hu hv,wA,fB,xC];by_cases hc:cG a b<0
 ·rw[yab hc];simp only[q296];refine za8 hu (by omega) fun t' v' h1 h2=>?_;exact hQ t' [] a _ _ h1 ⟨[],.inl ⟨rfl,rfl⟩,by simp[cA,tC]⟩ h2 (fun x hx=>by cases hx) hal (fun h=>absurd rfl h) han (by simp[val]) (hlt.1 hc)
 ·rw[yaa hc];have hge:val BB b<=val BB a:=Nat.le_of_not_lt fun h=>hc (hlt.2 h);have hlen:b.length<=a.length:=nL hB1 hal hbn hge;simp only[hv.len,wA,fB,bC,gE];by_cases h1:b.length=1
  ·rw[yab (by omega)];obtain⟨d,rfl⟩:∃d,b=[d]:=by
    match b,h1 with
    | [d],_=>simp_all
   have hd:d<4294967296:=by have:=hbl d (by simp);omega
   have hd0:0<d:=by have:=hbn (by simp);grind
   obtain⟨c,off,g1,g2⟩:=hv.idx gF (i:=0) (x:=d) rfl;have g1':jB yA 240 v (.int .i64 0)=some (.ptr c off):=g1;simp only[g1',g2,wA,fB,q241];refine IL hu (by omega) (by simp_all) hd hd0 fun t' v' q r k1 k2 k3 k4 k5 k6=>?_;simp only[gI,zA.asTup,tA,eF,yaz,yba,wA,fB];intro b' hb' _;obtain⟨H',m1,m2,m3⟩:=fZ (k:=.u32) mN rfl tG rfl rfl r trivial hb'
   have hR:=m2.all (cap:=1) (by simp);obtain⟨rv,f1,f2⟩:=xZ (by simp) hR;have f1':lB yA F 260 [.slice b' 0 1 1] H'.t=some rv:=f1;rw[m1];simp only[wA,Cf,f1'];rw[<- hBB]at k3 k6;have hrl:yB BB [r]:=fun x hx=>by grind
   refine hQ H'.t (rD q) (rD [r]) v' rv (k1.trans m3) (k2.mono m3) f2 (iQ k3) (iQ hrl) (xP _) (xP _) ?_ ?_
   all_goals grind [hO,val]
  ·rw[yaa (by omega)];have hbpos:0<b.length:=List.length_pos_iff.2 hb0;obtain⟨m,hm⟩:∃m,b.length=m+2:=⟨b.length-2,by omega⟩;obtain⟨j,hj⟩:∃j,a.length=j+(m+2):=⟨a.length-(m+2),by omega⟩;obtain⟨top,htop⟩:=getElem?_of_lt (l:=b) (i:=m+1) (by omega);have htlt:top<4294967296:=by have:=wH hbl htop;omega
   have ht0:0<top:=by
    have:=hbn hb0
    grind
   obtain⟨s,hs,hs1,hs2,hs3⟩:=DQ (t:=t) htlt ht0;obtain⟨c,off,g1,g2⟩:=hv.idx gF htop;have eb:((m+2:Nat):Int)-1=((m+1:Nat):Int):=by omega
   simp (disch:=omega) only[hm,eb,wrap_i64,g1,g2,wA,fB,q294,hs3,q297];refine AE hv (by omega) (by simp_all) hs fun t1 b1 rb k1 k2 k3 k4 k5 k6 k7=>?_;rw[<- hBB]at k6 k7;rw[hm]at k5 ⊢;have hK:BB=2^s*2^(32-s):=by rw[<- Nat.pow_add,show s+(32-s)=32 by omega,hBB]
   have hp:0<2^s:=Nat.pow_pos (by decide);obtain⟨w1,w2⟩:=div_v (n:=m+1) hK hp hbl hm htop (by omega) (by omega) k6 k5 k7;have e1:=Zx (L:=m+2+1) (hi:=m+2) k4 (by omega) (by omega);have hv1:mA t1 1 (cA .u32 (rb.take (m+2))) (.slice b1 0 (m+2) (m+2+1)):=by
    have:=k4.slice (off:=0) (n:=m+2) (cap:=m+2+1) (by omega) (by omega)
    simp_all
   simp only[e1,wA];refine AE (hu.mono k1) (by omega) (by simp_all) hs fun t2 b2 ra n1 n2 n3 n4 n5 n6 n7=>?_;rw[<- hBB]at n6 n7;rw[hj]at n5 ⊢;have ea:((j+(m+2):Nat):Int)-((m+2:Nat):Int)=(j:Int):=by omega
   have ea2:(j:Int)+1=((j+1:Nat):Int):=by omega
   simp (disch:=omega) only[hu.len,bC,hj,wA,fB,ea,ea2,wrap_i64];intro bq hbq hbaseq;obtain⟨t3,p1,p2,p3,p4⟩:=vX (C:=yA) (k:=.u32) mN rfl tG rfl rfl (by decide) (n:=j+1) (by omega) hbq;rw[p1];have el:vB (.slice bq 0 (j+1) (j+1))=some (.int .i64 ((j+1:Nat):Int)):=rfl;have el2:((j+1:Nat):Int)-1=(j:Int):=by omega
   simp (disch:=omega) only[wA,el,fB,el2,wrap_i64];have hne:b2≠bq:=by
    intro e;obtain⟨c,hc1,_⟩:=n4
    simp_all
   have hbq1:t1.get bq=none:=by
    cases hg:t1.get bq with
    | none=>rfl
    | some x=>rw[n1 _ _ hg]at hbq;cases hbq
   have hVpos:0<val BB (rb.take (m+2)):=by
    rw[w1];refine Nat.mul_pos ?_ hp;have:=Bk (B:=BB) hbn hb0
    grind
   have hbge:BB^(m+1)<=val BB b:=by
    have:=Bk (B:=BB) hbn hb0
    simp_all
   have hcl:=div_u (n:=m+1) (j:=j) (p:=2^s) mH hal hbge (by omega) (by omega) hp n7;have hta:ra.take j++ra.drop j=ra:=List.take_append_drop _ _;refine XP (U:=val BB ra) hv1 (by grind) (by omega) (xY k6 _) n3 hbaseq n2 hbq1 hne (by omega) (fun x hx=>by grind) hVpos (fun t4 q r Z z1 z2 z3 z4 z5 z6 z7 z8 z9 z10=>?_) j (ra.take j) (ra.drop j) [] [] t3 (by grind) (by grind) (xY n6 _) (KN n6 _) (fun x hx=>by cases hx) (by grind) (by simp) ?_ (n1.trans p3) ?_ (by simp_all) ?_
   ·have hcl2:yB BB (r++[0]):=gQ z5 mH;refine MP (t:=t4) (Z:=Z) (c:=r++[0]) (cn:=0) (by omega) (by simp[z4]) hcl2 (by simp_all) n3 hs (by omega) (fun t5 W y1 y2 y3 y4 y5=>?_) (m+2) 0 t4 [] (by omega) (dD.refl _ _) (by simp_all) rfl (fun x hx=>by cases hx) (by rw[ycr,Nat.pow_zero,Nat.one_mul];exact ybw _);have y6:val BB W=val BB r / 2^s:=by
     grind [pJ,Nat.zero_div]
    rw[w1]at z9 z10;rw[n7]at z10;obtain⟨x1,x2⟩:=XO hp z10 z9;refine XN y2 (z3.off (fun e=>hne e.symm) y1) y3 (by omega) (by omega) z7 (by omega) fun qv rv x3 x4=>?_;have ht5:bA t t5:=k1.trans (z1.off n2 y1)
    grind [iQ,xP,hO]
   ·simp_all
   ·rw[hta,ycd];exact n4.tle p3
   simp_all [val]
end Go.Proofs
namespace Go.Am
def wd (l:List Nat)(i:Nat):Nat:=(l[i]?).getD 0
def bY{B:Nat}(hB:0<B){l:List Nat}(h:yB B l)(i:Nat):wd l i<B:=by
 unfold wd
 cases hx:l[i]? with
 | none=>exact hB
 | some x=>exact wH h hx
def Ez(B:Nat)(l:List Nat)(i:Nat):val B (l.take (i+1))=val B (l.take i)+B^i*wd l i:=by
 unfold wd
 cases hx:l[i]? with
 | none=>
  grind [List.take_of_length_le]
 | some x=>
  have hi:=(ybc.1 hx).1;rw[zR hx,pJ];grind
def XS{B P u v Va Vb w x y bo ai bi x' y' lx ly bo' W:Nat}(h:W+P*x+v*Vb=u*Va+P*(y+bo))(hx:B*x'+lx=x+u*ai)(hy:B*y'+ly=y+v*bi)(hw:lx+B*bo'=w+ly+bo) :
  (W+P*w)+P*B*x'+v*(Vb+P*bi)=u*(Va+P*ai)+P*B*(y'+bo'):=by
 grind
theorem za1{P W x z X Y:Nat}(h:W+P*x+Y=X+P*z)(hW:W<P)(hX:X<P)(hle:Y<=X):W=X-Y:=by
 rcases Nat.lt_trichotomy x z with g | g | g
 ·have:=ybv P g
  grind
 ·grind
 ·have:=ybv P g
  grind
def JP{B u x a:Nat}(hx:x<=u)(ha:a<B):(x+u*a) / B<=u:=by
 have h:x+u*a<=u*B:=by
  have:=ybv u (Nat.succ_le_of_lt ha)
  grind
 simp_all [Nat.div_le_of_le_mul,ybh]
end Go.Am
namespace Go.Proofs
open Go Go.Am
variable [sC]
variable {t:Tr sA}
theorem CC{x u a:Nat}(hx:x<=u)(hu:u<4294967296)(ha:a<4294967296):rA .u64 ((x:Int)+rA .u64 ((u:Int)*rA .u64 (a:Int)))=((x+u*a:Nat):Int):=by
 have h:u*a<=4294967295*4294967295:=ydb (by omega) (by omega)
 grind [rF]
theorem XR{la lb:List Nat}{pa pb w:zA}{u v x y bo n i:Nat}{Q:dB}(ha:mA t 1 (cA .u32 la) pa)(hb:mA t 1 (cA .u32 lb) pb)(hal:yB BB la)(hbl:yB BB lb)(hu:u<4294967296)(hv:v<4294967296)(hx:x<=u)(hy:y<=v)(hi:i<n)
  (h:jp 286 21 [.int .u64 (u:Int),pa,.int .u64 (v:Int),pb,w,.int .u64 ((x+u*wd la i:Nat):Int),.int .u64 ((y+v*wd lb i:Nat):Int),.int .u32 (bo:Int),.int .i64 (i:Int),.int .i64 (n:Int),.int .i64 (i:Int)] t Q) :
  jp 286 2 [.int .u64 (u:Int),pa,.int .u64 (v:Int),pb,w,.int .u64 (x:Int),.int .u64 (y:Int),.int .u32 (bo:Int),.int .i64 (n:Int),.int .i64 (i:Int)] t Q:=by
 have hBB:=lL;have second:jp 286 17 [.int .u64 (u:Int),pa,.int .u64 (v:Int),pb,w,.int .u64 ((x+u*wd la i:Nat):Int),.int .u64 (y:Int),.int .u32 (bo:Int),.int .i64 (i:Int),.int .i64 (n:Int),.int .i64 (i:Int)] t Q:=by
  refine zdx ?_;simp only[uI,uL,uZ,Yv,qA,hb.len,wA,fB,bC,xC];by_cases hlen:i<lb.length
  ·obtain⟨z,hz⟩:=getElem?_of_lt hlen;have hz32:z<4294967296:=by have:=wH hbl hz;omega
   obtain⟨c,off,g1,g2⟩:=hb.idx gF hz
   grind [wA,fB,CC,wd]
  grind [wd]
 refine zbs ?_;simp only[uI,uL,uZ,Pw,qA,xC];rw[yab (by omega)];simp only[ha.len,wA,fB,bC];by_cases hlen:i<la.length
 ·obtain⟨z,hz⟩:=getElem?_of_lt hlen;have hz32:z<4294967296:=by have:=wH hal hz;omega
  obtain⟨c,off,g1,g2⟩:=ha.idx gF hz
  grind [wA,fB,CC,wd]
 grind [wd]
end Go.Proofs
namespace Go.Proofs
open Go Go.Am
section
variable [sC]
variable {t:Tr sA}
theorem XT{la lb:List Nat}{pa pb:zA}{b u v n:Nat}{t0:Tr sA}{Q:dB}(ha:mA t0 1 (cA .u32 la) pa)(hb:mA t0 1 (cA .u32 lb) pb)(hal:yB BB la)(hbl:yB BB lb)(hu:u<4294967296)(hv:v<4294967296)(hn:n<1000000)(hbase:yA.base<=b)(hb0:t0.get b=none)
  (hQ:∀t' W rv x z,bA t0 t'->mA t' 1 (cA .u32 (rD W)) rv->W.length=n->yB BB W->val BB W+BB^n*x+v*val BB (lb.take n)=u*val BB (la.take n)+BB^n*z->Q rv t') :
  ∀(k i x y bo:Nat) (t':Tr sA) (W:List Nat),i+k=n->bA t0 t'->eE t' b .u32 (W++List.replicate k 0)->W.length=i->yB BB W->x<=u->y<=v->bo<2->val BB W+BB^i*x+v*val BB (lb.take i)=u*val BB (la.take i)+BB^i*(y+bo) →
  jp 286 2 [.int .u64 (u:Int),pa,.int .u64 (v:Int),pb,.slice b 0 n n,.int .u64 (x:Int),.int .u64 (y:Int),.int .u32 (bo:Int),.int .i64 (n:Int),.int .i64 (i:Int)] t' Q:=by
 intro k;have hBB:=lL
 induction k with
 | zero=>
  intro i x y bo t' W hi ht ho hW hWl hx hy hbo hval;have hi':i=n:=by omega
  subst hi';have e3:mA t' 1 (cA .u32 W) (.slice b 0 i i):=by
   rw[List.replicate_zero,ycd]at ho;have:=ho.all (cap:=i) (by omega)
   simp_all
  obtain⟨rv,f1,f2⟩:=xZ (by omega) e3;refine zbs ?_;simp only[uI,uL,uZ,Pw,qA,xC];rw[yaa (by omega)];simp only[Cf,f1,wA];grind
 | succ k ih=>
  intro i x y bo t' W hi ht ho hW hWl hx hy hbo hval;refine XR (ha.mono ht) (hb.mono ht) hal hbl hu hv hx hy (by omega) ?_;have wa:=bY mH hal i;have wb:=bY mH hbl i;have cx:=JP hx wa;have cy:=JP hy wb;have va:=Ez BB la i;have vb:=Ez BB lb i;generalize wd la i=ai at *;generalize wd lb i=bi at *;generalize hX:x+u*ai=X at *;generalize hY:y+v*bi=Y at *
  have ex:rA .u32 (X:Int)=((X%4294967296:Nat):Int):=by rw[cQ];omega
  have ey:rA .u32 (Y:Int)=((Y%4294967296:Nat):Int):=by rw[cQ];omega
  have fx:Int.fdiv (X:Int) 4294967296=((X / 4294967296:Nat):Int):=iX X 4294967296;have fy:Int.fdiv (Y:Int) 4294967296=((Y / 4294967296:Nat):Int):=iX Y 4294967296;have hs:=NS (t:=t') (x:=X%4294967296) (y:=Y%4294967296) (b:=bo) (ycy _ (by decide)) (ycy _ (by decide)) hbo;obtain⟨w,hw⟩:∃w,w=(X%4294967296+8589934592-Y%4294967296-bo)%4294967296:=⟨_,rfl⟩;obtain⟨bo',hbo'⟩:∃bo':Nat,bo'=if X%4294967296<Y%4294967296+bo then 1 else 0:=⟨_,rfl⟩
  rw[<- hw,<- hbo']at hs;have hwlt:w<BB:=by omega
  have hb2:bo'<2:=by rw[hbo'];split<;>omega
  have hsum:X%4294967296+4294967296*bo'=w+Y%4294967296+bo:=by
   rw[hw,hbo'];split<;>omega
  have g1:=Aa gF (b:=b) (n:=n) (cap:=n) (j:=i) (by omega);obtain⟨t1,s1,s2,s3⟩:=ho.store (C:=yA) hbase (j:=i) (by grind) w tG rfl;have hset:=Kb (p:=W) (n:=k) (x:=w);rw[hW]at hset;rw[hset]at s2;have ei:(i:Int)+1=((i+1:Nat):Int):=by omega
  refine zdw ?_;simp only[uL,yC,uX,uZ,Yu,qA,ex,ey,q299,hs,wA,gI,zA.asTup,tA,eF,yaz,yba,fB,g1,fx,fy,ei];intro _ _ _;rw[s1,wA,wrap_i64 (by omega) (by omega)];rw[hBB]at cx cy;refine ih (i+1) (X / 4294967296) (Y / 4294967296) bo' t1 (W++[w]) (by omega) (ht.off hb0 s3) s2 (by simp[hW]) (gQ hWl hwlt) cx cy hb2 ?_;have hst:=XS (B:=BB) (P:=BB^i) (ai:=ai) (bi:=bi) (x':=X / 4294967296) (y':=Y / 4294967296) (lx:=X%4294967296) (ly:=Y%4294967296) (w:=w) (bo':=bo') hval (by grind) (by grind) (by simp_all)
  grind [pJ]
theorem Nd{la lb:List Nat}{pa pb:zA}{u v:Nat}{Q:dB}(ha:mA t 1 (cA .u32 la) pa)(hb:mA t 1 (cA .u32 lb) pb)(hal:yB BB la)(hbl:yB BB lb)(hu:u<4294967296)(hv:v<4294967296)(hla:la.length<700000)(hlb:lb.length<700000)(hge:v*val BB lb<=u*val BB la)
  (hQ:∀t' r rv,bA t t'->mA t' 1 (cA .u32 r) rv->yB BB r->norm r->val BB r=u*val BB la-v*val BB lb->Q rv t') :
  Wc yA F 286 [.int .u64 (u:Int),pa,.int .u64 (v:Int),pb] t Q:=by
 have hBB:=lL;refine w286 ?_;simp only[uI,uZ,uW,t286,qA,ha.len,hb.len,wA,fB,bC];obtain⟨n,hn1,hn2,hn3,hn4⟩:∃n:Nat,(bif iB (la.length:Int) (lb.length:Int)then(lb.length:Int)else(la.length:Int))+1=(n:Int)/\la.length<n/\lb.length<n/\n<700002:=by
  cases hc:iB (la.length:Int) (lb.length:Int)with
  | true=>have:=xC.1 hc;exact⟨lb.length+1,by simp,by omega,by omega,by omega⟩
  | false=>
   have:¬ ((la.length:Int)<(lb.length:Int)):=fun h=>by grind [xC]
   exact⟨la.length+1,by simp,by omega,by omega,by omega⟩
 rw[hn1,wrap_i64 (by omega) (by omega)];intro b hb0 hbase;obtain⟨t',g1,g2,g3,g4⟩:=vX (C:=yA) (k:=.u32) mN rfl tG rfl rfl (by decide) (n:=n) (by omega) hb0;rw[g1];have el:vB (.slice b 0 n n)=some (.int .i64 (n:Int)):=rfl;simp only[wA,el,fB];refine XT ha hb hal hbl hu hv (by omega) hbase hb0 (fun t2 W rv x z k1 k2 k3 k4 k5=>?_) n 0 0 0 0 t' [] (by omega) g3 (by simp_all) rfl (fun x hx=>by cases hx) (by omega) (by omega) (by omega) (by simp[val])
 rw[yca (by omega),yca (by omega)]at k5;have hP:u*val BB la<BB^n:=by
  have h1:=oJ mH hal;have h2:BB^(la.length+1)<=BB^n:=yao mH (by omega);have h3:u*val BB la<=u*BB^la.length:=ybv _ (Nat.le_of_lt h1);have h4:u*BB^la.length<BB*BB^la.length:=Nat.mul_lt_mul_of_pos_right (by omega) (Nat.pow_pos mH)
  grind
 grind [oJ,za1,iQ,xP,hO]
end
section
variable [sC]
variable {t:Tr sA}
theorem zev{v:zA}{l:List Nat}{b:Nat}(hv:mA t 1 (cA .u32 l) v)(hb:t.get b=none) :
  ∃H',bP v ⟨b,t⟩=some (.ptr b 0,H')/\bA t H'.t/\aA yA 240 ⟨0,H'.t⟩ (.ptr b 0)=some v:=by
 have hc:v.cells=[v]:=by
  obtain⟨cl,h1,_⟩:=hv;rcases h1 with⟨rfl,_⟩ | ⟨_,_,_,rfl,_⟩<;>rfl
 refine⟨sE ⟨b,t⟩ [v] none,by unfold bP;rw[hc],?_,?_⟩
 ·intro c u hg;show(t.set b _).get c=_
  grind [Tr.get_set]
 ·have hg:(sE ⟨b,t⟩ [v] none).t.get b=some (.cells (Tr.ofList [v]) 1 none):=by
   show(t.set b _).get b=_;rw[Tr.get_set,yab rfl];rfl
  unfold aA;simp only[zA.asPtr,tA];rw[mN,tA];unfold aC;rw[hg,tA];simp only[sA.asCells,tA];unfold vP;first
   | rfl
   | (rw[cond_false,Tr.get_ofList];rfl)
theorem Oq{v:zA}{l:List Nat}{b i:Nat}(hv:mA t 1 (cA .u32 l) v)(hl:yB BB l)(hload:aA yA 240 ⟨0,t⟩ (.ptr b 0)=some v):lB yA F 302 [.int .i64 (i:Int),.ptr b 0] t=some (.int .u64 ((wd l i:Nat):Int)):=by
 have hBB:=lL;refine bB.2 (w302 ?_);simp only[uI,uL,uZ,t302,qA,hload,wA,hv.len,fB,bC,pD];by_cases h:i<l.length
 ·obtain⟨x,hx⟩:=getElem?_of_lt h;have hx32:x<4294967296:=by have:=wH hl hx;omega
  obtain⟨c,off,g1,g2⟩:=hv.idx gF hx
  grind [wA,fB,rF,wd]
 grind [wd]
def GZ{v:zA}{l:List Nat}{n s:Nat}(hv:mA t 1 (cA .u32 l) v)(hl:yB BB l)(hn:3<=n)(hn2:n<1000000)(hs:s<32)(hb:(wd l (n-1)*4294967296+wd l (n-2))*2^s<18446744073709551616) :
  lB yA F 295 [v,.int .i64 (n:Int),.int .i64 (s:Int)] t=some (.int .u64 (((wd l (n-1)*4294967296+wd l (n-2))*2^s+wd l (n-3) / 2^(32-s):Nat):Int)):=by
 have hBB:=lL;refine fN (w295 ?_);simp only[uE,uZ,uW,t295,qA];intro b hb0 _;obtain⟨H',g1,g2,g3⟩:=zev hv hb0;rw[g1,wA];have w1:=bY mH hl (n-1);have w2:=bY mH hl (n-2);have w3:=bY mH hl (n-3);have c1:=Oq (i:=n-1) (hv.mono g2) hl g3;have c2:=Oq (i:=n-2) (hv.mono g2) hl g3;have c3:=Oq (i:=n-3) (hv.mono g2) hl g3;generalize wd l (n-1)=x1 at *;generalize wd l (n-2)=x2 at *
 generalize wd l (n-3)=x3 at *;have e1:(n:Int)-1=((n-1:Nat):Int):=by omega
 have e2:(n:Int)-2=((n-2:Nat):Int):=by omega
 have e3:(n:Int)-3=((n-3:Nat):Int):=by omega
 have e4:(32:Int)-(s:Int)=((32-s:Nat):Int):=by omega
 have f:∀a,pS (.func (.func 302) [] [.ptr b 0]) [a]=some (302,[a,.ptr b 0]):=fun _=>rfl;have e5:(x1:Int)*4294967296=((x1*4294967296:Nat):Int):=by omega
 rw[f,wA,e1,wrap_i64 (by omega) (by omega),q302,c1,wA,fB,wA,f,wA,e2,wrap_i64 (by omega) (by omega),q302,c2,wA,fB,wA,e5,rF (by omega) (by omega),Gn (by omega) (by omega),wA,fB,wA,GW (by omega) hb,wA,fB,wA,f,wA,e3,wrap_i64 (by omega) (by omega),q302,c3,wA,fB,wA,e4,wrap_i64 (by omega) (by omega),GV (by omega),wA,fB,wA]
 have hz:x3 / 2^(32-s)<2^s:=ycu (by rw[<- Nat.pow_add,show 32-s+s=32 by omega];omega);have hz2:(2:Nat)^s<=2^31:=yao (by decide) (by omega);generalize x3 / 2^(32-s)=z at hz ⊢;have ho:=Bw (a:=x1*4294967296+x2) (b:=z) (n:=s) hz;generalize (x1*4294967296+x2)*2^s=h at hb ho ⊢;have hz3:z<18446744073709551616:=by omega
 rw[tS (k:=.u64) (show h<zG .u64 from hb) (show z<zG .u64 from hz3),ho,wA,fB,wA];exact⟨rfl,g2⟩
end
section
variable [sC]
variable {t:Tr sA}
theorem OU{A1 B1:Nat}{P:Nat->Nat->Nat->Nat->Nat->Nat->Nat->Nat->Bool->Prop}{Q:dB}(hA:A1<18446744073709551616)(hB:B1<18446744073709551616)
  (hstep:∀x y u0 u1 u2 v0 v1 v2 ev,P x y u0 u1 u2 v0 v1 v2 ev->0<y->v2<=y->v1+v2<=x-y->P y (x%y) u1 u2 (u1+x / y*u2) v1 v2 (v1+x / y*v2) (!ev))
  (hQ:∀x y u0 u1 u2 v0 v1 v2 ev,P x y u0 u1 u2 v0 v1 v2 ev->Q (.agg [.int .u64 (u0:Int),.int .u64 (u1:Int),.int .u64 (v0:Int),.int .u64 (v1:Int),.bool ev]) t) :
  ∀(y x u0 u1 u2 v0 v1 v2:Nat) (ev:Bool) (c0 c1 c2 c3:Int) (c4:Bool),P x y u0 u1 u2 v0 v1 v2 ev->A1=v2*x+v1*y->B1=u2*x+u1*y->y<=x->1<=v2->v1<=v2 →
  jp 284 2 [.int .u64 (x:Int),.int .u64 (y:Int),.int .u64 (u2:Int),.int .u64 (v2:Int),.int .u64 c0,.int .u64 c1,.int .u64 c2,.int .u64 c3,.bool c4,.int .u64 (u0:Int),.int .u64 (u1:Int),.int .u64 (v0:Int),.int .u64 (v1:Int),.bool ev] t Q:=by
 intro y;induction y using Nat.strongRecOn with
 | ind y ih=>
  intro x u0 u1 u2 v0 v1 v2 ev c0 c1 c2 c3 c4 hP hx hy hle h1 h12;refine j284_2 ?_;simp only[uE,Yw,qA,pD];by_cases g1:v2<=y
  ·rw[yab (by omega)];have hy0:0<y:=by omega
   have b1:v2*x<=A1:=by omega
   have b2:x<=A1:=Nat.le_trans (yan x (by omega)) b1;have b3:v2<4294967296:=by
    rcases yau v2 4294967296 with h | h
    ·exact h
    ·exfalso;have:4294967296*4294967296<=v2*x:=ydb h (by omega);omega
   have e1:rA .u64 ((v1:Int)+(v2:Int))=((v1+v2:Nat):Int):=by grind [rF]
   have e2:rA .u64 ((x:Int)-(y:Int))=((x-y:Nat):Int):=by grind [rF]
   rw[e1,e2];by_cases g2:v1+v2<=x-y
   ·rw[yab (by omega)];have hdm:=ych x y;have hmod:x%y<y:=ycy _ hy0;have hq1:1<=x / y:=by
     grind
    have hxq:x / y<=x:=Nat.div_le_self _ _;have e3:mT .u64 (x:Int) (y:Int)=some (.int .u64 ((x / y:Nat):Int)):=Mm hy0 (by
     grind [rF])
    have e4:nT .u64 (x:Int) (y:Int)=some (.int .u64 ((x%y:Nat):Int)):=Hm hy0;have hst:=hstep x y u0 u1 u2 v0 v1 v2 ev hP hy0 g1 g2;generalize x / y=q at *;generalize x%y=r at *;have nA:A1=(v1+q*v2)*y+v2*r:=by
     grind
    have nB:B1=(u1+q*u2)*y+u2*r:=by
     grind
    have bv:v1+q*v2<=A1:=Nat.le_trans (Nat.le_mul_of_pos_right _ hy0) (by omega);have bu:u1+q*u2<=B1:=Nat.le_trans (Nat.le_mul_of_pos_right _ hy0) (by omega);have bq:v2<=q*v2:=yan _ hq1;have e5:rA .u64 ((v1:Int)+rA .u64 ((q:Int)*(v2:Int)))=((v1+q*v2:Nat):Int):=by
     grind [rF]
    have e6:rA .u64 ((u1:Int)+rA .u64 ((q:Int)*(u2:Int)))=((u1+q*u2:Nat):Int):=by
     grind [rF]
    rw[e3,wA,fB,wA,e4,wA,fB,wA,e5,e6];grind
   grind
  grind
end
end Go.Proofs
namespace Go.Am
def Lrel (a b x y u1 u2 v1 v2:Nat)(ev:Bool):Prop:=
 match ev with
 | false=>u1*v2=u2*v1+1/\x+v1*b=u1*a/\y+u2*a=v2*b
 | true=>u2*v1=u1*v2+1/\x+u1*a=v1*b/\y+v2*b=u2*a
def Lst (u1 u2 v1 v2:Nat):Prop:=(u1=1/\v1=0/\u2=0)\/(u1<=v1/\u2<=v2/\1<=u2/\1<=v1)
def Og(a b u0 u1 v0 v1:Nat)(ev:Bool):Prop:=∃x y,Lrel a b x y u0 u1 v0 v1 (!ev)/\v1<=y/\v0+v1<=x-y/\u0<=v0/\u1<=v1/\1<=u1/\1<=v0/\v0<=v1
def Lsim (a b x y u0 u1 u2 v0 v1 v2:Nat)(ev:Bool):Prop:=Lrel a b x y u1 u2 v1 v2 ev/\1<=v2/\v1<=v2/\Lst u1 u2 v1 v2/\(v0=0\/Og a b u0 u1 v0 v1 ev)
def ZX(a b:Nat):Lsim a b a b 0 1 0 0 0 1 false:=⟨⟨by simp,by simp,by simp⟩,ybk _,by omega,.inl ⟨rfl,rfl,rfl⟩,.inl rfl⟩
def ZW{a b x y u0 u1 u2 v0 v1 v2:Nat}{ev:Bool}(h:Lsim a b x y u0 u1 u2 v0 v1 v2 ev)(hy:0<y)(h1:v2<=y)(h2:v1+v2<=x-y) :
  Lsim a b y (x%y) u1 u2 (u1+x / y*u2) v1 v2 (v1+x / y*v2) (!ev):=by
 obtain⟨k1,k2,k5,k3,k4⟩:=h;have hq:1<=x / y:=by rw[Nat.le_div_iff_mul_le hy];omega
 have hdm:=ych x y;generalize x / y=q at *;generalize x%y=r at *;have hv2:v2<=q*v2:=yan _ hq;have hu2:u2<=q*u2:=yan _ hq;refine⟨?_,by omega,by omega,?_,?_⟩
 ·cases ev with
  | false=>
   obtain⟨m1,m2,m3⟩:=k1;refine⟨?_,m3,?_⟩
   all_goals grind
  | true=>
   obtain⟨m1,m2,m3⟩:=k1;refine⟨?_,m3,?_⟩
   all_goals grind
 ·right
  rcases k3 with⟨e1,e2,e3⟩ | ⟨g1,g2,g3,g4⟩
  ·grind
  ·have:=ybv q g2;omega
 ·rcases k3 with⟨e1,e2,e3⟩ | ⟨g1,g2,g3,g4⟩
  ·omega
  ·right
   exact⟨x,y,by simp_all,h1,h2,g1,g2,g3,g4,k5⟩
end Go.Am
namespace Go.Am
def EJ{p q r s A B X Y:Nat}(hdet:p*s=q*r+1)(hX:X+r*B=p*A)(hY:Y+q*A=s*B):A=s*X+r*Y/\B=q*X+p*Y:=by
 have a1:s*(X+r*B)=s*(p*A):=by rw[hX]
 have a2:r*(Y+q*A)=r*(s*B):=by rw[hY]
 have a3:q*(X+r*B)=q*(p*A):=by rw[hX]
 have a4:p*(Y+q*A)=p*(s*B):=by rw[hY]
 have d1:p*s*A=q*r*A+A:=by rw[hdet,ybo,Nat.one_mul]
 have d2:p*s*B=q*r*B+B:=by rw[hdet,ybo,Nat.one_mul]
 have e1:s*(p*A)=p*s*A:=by rw[<- ybj,ybh s p]
 have e2:r*(q*A)=q*r*A:=by rw[<- ybj,ybh r q]
 have e3:s*(r*B)=r*(s*B):=Nat.mul_left_comm _ _ _;have e4:q*(p*A)=p*(q*A):=Nat.mul_left_comm _ _ _;have e5:q*(r*B)=q*r*B:=(ybj _ _ _).symm;have e6:p*(s*B)=p*s*B:=(ybj _ _ _).symm;rw[ybm]at a1 a2 a3 a4;constructor<;>omega
def EI{p q r s a b A B W α β x y:Nat}(hx:x+r*b=p*a)(hy:y+q*a=s*b)(hA:A=W*a+α)(hB:B=W*b+β)(ha:α<W)(hb:β<W)(hrs:r+s<=x-y)(h1:1<=r+s)(hq:q<=y) :
  ∃X Y,X+r*B=p*A/\Y+q*A=s*B/\Y<X:=by
 obtain⟨D,hD⟩:∃D,x=y+D:=⟨x-y,by omega⟩;have w1:p*A=W*x+r*(W*b)+p*α:=by
  rw[hA,ybm,Nat.mul_left_comm p W,<- hx,ybm,Nat.mul_left_comm W r]
 have w2:r*B=r*(W*b)+r*β:=by rw[hB,ybm]
 have w3:s*B=W*y+q*(W*a)+s*β:=by
  rw[hB,ybm,Nat.mul_left_comm s W,<- hy,ybm,Nat.mul_left_comm W q]
 have w4:q*A=q*(W*a)+q*α:=by rw[hA,ybm]
 have i1:r*β<=W*D:=by
  rw[ybh W D];exact ydb (by omega) (by omega)
 have i2:q*α<=W*y:=by
  rw[ybh W y];exact ydb hq (by omega)
 have i3:(r+s)*β<W*D:=by
  have h2:(r+s)*β<(r+s)*W:=Nat.mul_lt_mul_of_pos_left hb (by omega);have h3:(r+s)*W<=D*W:=ybi _ (by omega)
  grind
 have w5:W*x=W*y+W*D:=by rw[hD,ybm]
 rw[ybo]at i3;exact⟨p*A-r*B,s*B-q*A,by omega,by omega,by omega⟩
def lehmer{a b A B W α β u0 u1 v0 v1:Nat}{ev:Bool}(hA:A=W*a+α)(hB:B=W*b+β)(ha:α<W)(hb:β<W)(h:Og a b u0 u1 v0 v1 ev) :
  ∃X Y,(ev=true->X+v0*B=u0*A/\Y+u1*A=v1*B)/\(ev=false->X+u0*A=v0*B/\Y+v1*B=u1*A)/\Y<X/\A=v1*X+v0*Y/\B=u1*X+u0*Y/\X+Y<A+B:=by
 obtain⟨x,y,k1,k2,k3,k4,k5,k6,k7,_⟩:=h;have uF:∀X Y:Nat,Y<X->A=v1*X+v0*Y->B=u1*X+u0*Y->X+Y<A+B:=by
  intro X Y g1 g2 g3;have j1:X<=v1*X:=yan _ (by omega);have j2:X<=u1*X:=yan _ (by omega);omega
 cases ev with
 | true=>
  obtain⟨m1,m2,m3⟩:=k1;obtain⟨X,Y,g1,g2,g3⟩:=EI m2 m3 hA hB ha hb k3 (by omega) (by omega);obtain⟨d1,d2⟩:=EJ m1 g1 g2;exact⟨X,Y,fun _=>⟨g1,g2⟩,(fun h=>absurd h (by decide)),g3,d1,d2,uF X Y g3 d1 d2⟩
 | false=>
  obtain⟨m1,m2,m3⟩:=k1;obtain⟨X,Y,g1,g2,g3⟩:=EI m2 m3 hB hA hb ha (by omega) (by omega) k2;have m1':v0*u1=v1*u0+1:=by grind
  obtain⟨d1,d2⟩:=EJ m1' g1 g2;exact⟨X,Y,(fun h=>absurd h (by decide)),fun _=>⟨g1,g2⟩,g3,d2,d1,uF X Y g3 d2 d1⟩
def ZY{a b u0 u1 v0 v1:Nat}{ev:Bool}(ha:a<18446744073709551616)(hb:b<18446744073709551616)(h:Og a b u0 u1 v0 v1 ev):u0<4294967296/\u1<4294967296/\v0<4294967296/\v1<4294967296:=by
 obtain⟨x,y,k1,k2,k3,k4,k5,k6,k7,k8⟩:=h;have key:a=v1*x+v0*y:=by
  cases ev with
  | true=>
   obtain⟨m1,m2,m3⟩:=k1
   grind
  | false=>
   obtain⟨m1,m2,m3⟩:=k1
   grind
 have:v1<4294967296:=by
  rcases yau v1 4294967296 with g | g
  ·exact g
  ·exfalso;have:4294967296*4294967296<=v1*x:=ydb g (by omega);omega
 omega
end Go.Am
namespace Go.Am
def LV{B:Nat}{l:List Nat}{m:Nat}(hl:l.length<=m+3):val B l=val B (l.take m)+B^m*(wd l m+B*(wd l (m+1)+B*wd l (m+2))):=by
 have h0:=Ez B l m;have h1:val B (l.take (m+2))=val B (l.take (m+1))+B^(m+1)*wd l (m+1):=Ez B l (m+1);have h2:val B (l.take (m+3))=val B (l.take (m+2))+B^(m+2)*wd l (m+2):=Ez B l (m+2)
 grind [List.take_of_length_le]
def GY{B p K m:Nat}{l:List Nat}(hB:B=p*K)(hp:0<p)(hB0:0<B)(hlt:yB B l)(hl:l.length<=m+3) :
  (wd l (m+2)*B+wd l (m+1))*K+wd l m / p=val B l / (B^m*p):=by
 have h1:=LV (B:=B) hl;have h2:val B (l.take m)<B^m:=by
  have h:=oJ hB0 (xY hlt m)
  grind [Nat.lt_of_lt_of_le,Nat.pow_le_pow_right]
 have h3:val B l / B^m=wd l m+B*(wd l (m+1)+B*wd l (m+2)):=by
  rw[h1,Nat.add_mul_div_left _ _ (Nat.pow_pos hB0),Nat.div_eq_of_lt h2,ybw]
 rw[<- Nat.div_div_eq_div_mul,h3];generalize wd l m=x;have e:B*(wd l (m+1)+B*wd l (m+2))=p*(K*(wd l (m+2)*B+wd l (m+1))):=by
  rw[<- ybj p,<- hB,ybh (wd l (m+2)),yap]
 rw[e,Nat.add_mul_div_left _ _ hp,ybh K,yap]
end Go.Am
namespace Go.Proofs
open Go Go.Am
variable [sC]
variable {t:Tr sA}
theorem OT{la lb:List Nat}{pa pb:zA}{m top:Nat}{Q:dB}(ha:mA t 1 (cA .u32 la) pa)(hb:mA t 1 (cA .u32 lb) pb)(hal:yB BB la)(hbl:yB BB lb)(hla:la.length=m+3)(hm:m<700000)(hlb:lb.length<=m+3)(htop:la[m+2]?=some top)(ht0:0<top)(hle:val BB lb<=val BB la)
  (hQ:∀u0 u1 v0 v1 ev W,0<W->val BB la / W<18446744073709551616->val BB lb / W<18446744073709551616->(v0=0\/Og (val BB la / W) (val BB lb / W) u0 u1 v0 v1 ev)->Q (.agg [.int .u64 (u0:Int),.int .u64 (u1:Int),.int .u64 (v0:Int),.int .u64 (v1:Int),.bool ev]) t) :
  Wc yA F 284 [pa,pb] t Q:=by
 have hBB:=lL;have htlt:top<4294967296:=by have:=wH hal htop;omega
 obtain⟨s,hs,hs1,hs2,hs3⟩:=DQ (t:=t) htlt ht0;obtain⟨c,off,g1,g2⟩:=ha.idx gF htop;have hK:BB=2^(32-s)*2^s:=by rw[<- Nat.pow_add,show 32-s+s=32 by omega,hBB]
 have hp:0<2^(32-s):=Nat.pow_pos (by decide);have va:=GY hK hp mH hal (m:=m) (by omega);have vb:=GY hK hp mH hbl hlb;have hW:0<BB^m*2^(32-s):=Nat.mul_pos (Nat.pow_pos mH) hp;have hdiv:val BB lb / (BB^m*2^(32-s))<=val BB la / (BB^m*2^(32-s)):=Nat.div_le_div_right hle;have hwt:wd la (m+2)=top:=by grind [wd]
 have wa1:=bY mH hal (m+1);have wa0:=bY mH hal m;have hz:wd la m / 2^(32-s)<2^s:=ycu (by omega);rw[hBB]at va vb;have bigA:(wd la (m+2)*4294967296+wd la (m+1))*2^s+wd la m / 2^(32-s)<18446744073709551616:=by
  rw[hwt];have q1:top+1<=2^(32-s):=by
   have:top*2^s<2^(32-s)*2^s:=by omega
   exact Nat.lt_of_mul_lt_mul_right this
  have q2:(top*4294967296+wd la (m+1))+1<=2^(32-s)*4294967296:=by
   omega
  have q3:=ybi (2^s) q2
  grind
 have hBB':∀l,val 4294967296 l=val BB l:=fun l=>by rw[hBB]
 have hPP:(4294967296:Nat)^m=BB^m:=by rw[hBB]
 rw[hBB',hPP]at va vb;have jF:(wd lb (m+2)*4294967296+wd lb (m+1))*2^s+wd lb m / 2^(32-s)<18446744073709551616:=by
  grind
 have h1:=GZ (n:=m+3) (s:=s) ha hal (by omega) (by omega) hs (yam (Nat.le_add_right _ _) bigA);have h2:=GZ (n:=m+3) (s:=s) hb hbl (by omega) (by omega) hs (yam (Nat.le_add_right _ _) jF);rw[show m+3-1=m+2 by omega,show m+3-2=m+1 by omega,show m+3-3=m by omega]at h1 h2;rw[va]at h1 bigA;rw[vb]at h2 jF;generalize hw:BB^m*2^(32-s)=W at *;have e1:((m+3:Nat):Int)-1=((m+2:Nat):Int):=by omega
 refine w284 ?_;simp only[uI,uL,uE,uZ,uW,t284,qA,ha.len,wA,fB,bC,hla,e1];rw[wrap_i64 (by omega) (by omega),g1,wA,g2,wA,fB,wA,q294,hs3,wA,fB,wA,q295,h1,wA,fB,wA,q295,h2,wA,fB,wA];simp only[if_true];exact OU (P:=Lsim (val BB la / W) (val BB lb / W)) bigA jF (fun x y u0 u1 u2 v0 v1 v2 ev hP hy k1 k2=>ZW hP hy k1 k2) (fun x y u0 u1 u2 v0 v1 v2 ev hP=>hQ u0 u1 v0 v1 ev W hW bigA jF hP.2.2.2.2) _ _ 0 1 0 0 0 1 false 0 0 0 0 false (ZX _ _) (by omega) (by omega) hdiv (by omega) (by omega)
end Go.Proofs
namespace Go.Am
def VX{A B X Y u0 u1 v0 v1:Nat}{ev:Bool}(h1:ev=true->X+v0*B=u0*A/\Y+u1*A=v1*B)(h2:ev=false->X+u0*A=v0*B/\Y+v1*B=u1*A)(hA:A=v1*X+v0*Y)(hB:B=u1*X+u0*Y):Nat.gcd X Y=Nat.gcd A B:=by
 have gX:=Nat.gcd_dvd_left X Y;have gY:=Nat.gcd_dvd_right X Y;have gA:=Nat.gcd_dvd_left A B;have gB:=Nat.gcd_dvd_right A B;refine Nat.dvd_antisymm (Nat.dvd_gcd ?_ ?_) (Nat.dvd_gcd ?_ ?_)
 ·grind [Nat.dvd_add]
 ·grind [Nat.dvd_add]
 ·generalize Nat.gcd A B=g at *
  cases ev with
  | true=>
   grind [Nat.dvd_add_left]
  | false=>
   grind [Nat.dvd_add_left]
 ·generalize Nat.gcd A B=g at *
  cases ev with
  | true=>
   grind [Nat.dvd_add_left]
  | false=>
   grind [Nat.dvd_add_left]
theorem HG{a b q r:Nat}(h:a=b*q+r):Nat.gcd b r=Nat.gcd a b:=by
 grind [Nat.mul_comm,Nat.gcd_mul_right_add_left]
theorem zea{x y:Nat}:Nat.gcd y (x%y)=Nat.gcd x y:=by
 rw[Nat.gcd_comm y (x%y),<- Nat.gcd_rec,Nat.gcd_comm]
def Xp{B:Nat}{l:List Nat}(hB:0<B)(h:yB B l)(hl:l.length<=2):val B l<B*B:=by
 have h1:=oJ hB h;have h2:B^l.length<=B^2:=yao hB hl
 grind
end Go.Am
namespace Go.Proofs
open Go Go.Am
variable [sC]
variable {t:Tr sA}
theorem GJ{c:Prop}{d:Decidable c}{P Q:Prop}(h:c)(k:P):@ite Prop c d P Q:=by simp_all
theorem ite_no{c:Prop}{d:Decidable c}{P Q:Prop}(h:¬ c)(k:Q):@ite Prop c d P Q:=by simp_all
theorem WR{Q:dB}:∀(y x:Nat),x<18446744073709551616->y<18446744073709551616->(∀t' r rv,bA t t'->mA t' 1 (cA .u32 r) rv->yB BB r->norm r->val BB r=Nat.gcd x y->Q rv t')->jp 272 6 [.int .u64 (x:Int),.int .u64 (y:Int)] t Q:=by
 have hBB:=lL
 intro y;induction y using Nat.strongRecOn with
 | ind y ih=>
  intro x hx hy hQ;refine j272_6 ?_;simp only[uE,Yx,qA,uQ];by_cases h0:y=0
  ·subst h0;rw[yaa (by simp)];simp only[q288];grind [OX,ZN,LW,TI]
  ·rw[yab (by omega),Hm (by omega),wA,fB,wA];have hm:=ycy x (show 0<y by omega)
   grind [zea]
theorem DW{l:List Nat}{v:zA}(hv:mA t 1 (cA .u32 l) v)(hl:l.length<=2)(hlt:yB BB l):lB yA F 287 [v] t=some (.int .u64 ((val BB l:Nat):Int)):=by
 have hBB:=lL
 grind [zdm]
theorem JN{la lb:List Nat}{pa pb:zA}{Q:dB}(ha:mA t 1 (cA .u32 la) pa)(hb:mA t 1 (cA .u32 lb) pb)(hal:yB BB la)(hbl:yB BB lb)(hla:la.length<=2)(hlb:lb.length<=2)
  (hQ:∀t' r rv,bA t t'->mA t' 1 (cA .u32 r) rv->yB BB r->norm r->val BB r=Nat.gcd (val BB la) (val BB lb)->Q rv t'):jp 272 33 [pa,pb] t Q:=by
 have hBB:=lL;have b1:=Xp mH hal hla;have b2:=Xp mH hbl hlb;refine zdy ?_;simp only[uE,Yy,qA,q287,DW ha hla hal,DW hb hlb hbl,wA,fB];grind [WR]
theorem JO{Q:dB}{t0:Tr sA}{G:Nat}(hQ:∀t' r rv,bA t0 t'->mA t' 1 (cA .u32 r) rv->yB BB r->norm r->val BB r=G->Q rv t'):∀(n:Nat) (la lb:List Nat) (pa pb:zA) (t:Tr sA),val BB la+val BB lb=n->bA t0 t->mA t 1 (cA .u32 la) pa->mA t 1 (cA .u32 lb) pb->yB BB la->yB BB lb->norm la->norm lb->val BB lb<=val BB la->la.length<700000->Nat.gcd (val BB la) (val BB lb)=G->jp 272 2 [pa,pb] t Q:=by
 have hBB:=lL;have hB1:1<BB:=by omega
 intro n;induction n using Nat.strongRecOn with
 | ind n ih=>
  intro la lb pa pb t hn ht ha hb hal hbl han hbn hle hlen hg;have hlb:lb.length<=la.length:=nL hB1 hal hbn hle;refine j272_2 ?_;simp only[uI,uG,uX,Yz,qA,hb.len,wA,fB,bC,xC];by_cases h2:2<lb.length
  ·rw[yab (by omega)];have hb0:lb≠[]:=by grind
   have hbpos:0<val BB lb:=by
    rcases yav (val BB lb)with h | h
    ·exact absurd (Cl mH hbn h) hb0
    ·exact h
   obtain⟨m,hm⟩:∃m,la.length=m+3:=⟨la.length-3,by omega⟩;obtain⟨top,htop⟩:=getElem?_of_lt (l:=la) (i:=m+2) (by omega);have ha0:la≠[]:=by grind
   have ht0:0<top:=by
    have:=han ha0
    grind
   rw[q284];refine OT ha hb hal hbl hm (by omega) (by omega) htop ht0 hle fun u0 u1 v0 v1 ev W hW hA hB hL=>?_;have eG:oO [(.int .u64 0),(.int .u64 0),(.int .u64 0),(.int .u64 0),(.bool false)] (.agg [.int .u64 (u0:Int),.int .u64 (u1:Int),.int .u64 (v0:Int),.int .u64 (v1:Int),.bool ev])=some (cellsOf [.int .u64 (u0:Int),.int .u64 (u1:Int),.int .u64 (v0:Int),.int .u64 (v1:Int),.bool ev]):=Ih rfl
   rw[eG];simp only[wA,cellsOf,Mk,Aq,yaz,yba,if_true,cW];by_cases hv0:v0=0
   ·refine GJ (gE.2 (by omega)) ?_;rw[q285];refine IM ha hb hlen hal hbl han hbn hb0 fun t' q r qv rv k1 k2 k3 k4 k5 k6 k7 k8 k9=>?_;simp only[gI,zA.asTup,tA,eF,yaz,yba,wA];refine ih (val BB lb+val BB r) (by omega) lb r pb rv t' rfl (ht.trans k1) (hb.mono k1) k3 hbl k5 hbn k7 (by omega) (by omega) ?_
    grind [HG]
   ·refine ite_no (fun e=>absurd (gE.1 e) (by omega)) ?_;rcases hL with h | hL
    ·omega
    obtain⟨s1,s2,s3,s4⟩:=ZY hA hB hL;have eA:val BB la=W*(val BB la / W)+val BB la%W:=(ych _ _).symm;have eB:val BB lb=W*(val BB lb / W)+val BB lb%W:=(ych _ _).symm;obtain⟨X,Y,l1,l2,l3,l4,l5,l6⟩:=lehmer eA eB (ycy _ hW) (ycy _ hW) hL;have hgg:=VX l1 l2 l4 l5;have hXA:X<=val BB la:=by
     have:X<=v1*X:=yan _ (by
      obtain⟨x,y,_,_,_,_,_,_,w2,w3⟩:=hL;omega)
     omega
    cases ev with
    | true=>
     obtain⟨m1,m2⟩:=l1 rfl;simp only[if_true];rw[q286];refine Nd ha hb hal hbl s1 s3 hlen (by omega) (by omega) fun t1 r1 rv1 k1 k2 k3 k4 k5=>?_;rw[q286];refine Nd (hb.mono k1) (ha.mono k1) hbl hal s4 s2 (by omega) hlen (by omega) fun t2 r2 rv2 j1 j2 j3 j4 j5=>?_;have e1:val BB r1=X:=by omega
     have e2:val BB r2=Y:=by omega
     refine ih (val BB r1+val BB r2) (by omega) r1 r2 rv1 rv2 t2 rfl (ht.trans (k1.trans j1)) (k2.mono j1) j2 k3 j3 k4 j4 (by omega) ?_ (by grind);have:=nL hB1 hal k4 (by omega);omega
    | false=>
     obtain⟨m1,m2⟩:=l2 rfl;simp only[if_true,ybq,if_false];rw[q286];refine Nd hb ha hbl hal s3 s1 (by omega) hlen (by omega) fun t1 r1 rv1 k1 k2 k3 k4 k5=>?_;rw[q286];refine Nd (ha.mono k1) (hb.mono k1) hal hbl s2 s4 hlen (by omega) (by omega) fun t2 r2 rv2 j1 j2 j3 j4 j5=>?_;have e1:val BB r1=X:=by omega
     have e2:val BB r2=Y:=by omega
     refine ih (val BB r1+val BB r2) (by omega) r1 r2 rv1 rv2 t2 rfl (ht.trans (k1.trans j1)) (k2.mono j1) j2 k3 j3 k4 j4 (by omega) ?_ (by grind);have:=nL hB1 hal k4 (by omega);omega
  ·rw[yaa (by omega)];simp only[gE];by_cases h0:lb.length=0
   ·rw[yab (by omega)];have:lb=[]:=ycc.1 h0;subst this;refine hQ t la pa ht ha hal han ?_;rw[<- hg];simp only[val];rw[Nat.gcd_zero_right]
   ·rw[yaa (by omega)];simp only[ha.len,wA,fB,bC,xC];have hb0:lb≠[]:=by simp_all
    by_cases h3:2<la.length
    ·rw[yab (by omega),q285];refine IM ha hb hlen hal hbl han hbn hb0 fun t' q r qv rv k1 k2 k3 k4 k5 k6 k7 k8 k9=>?_;simp only[gI,zA.asTup,tA,eF,yaz,yba,wA];have:=nL hB1 hbl k7 (Nat.le_of_lt k9);refine JN (hb.mono k1) k3 hbl k5 (by omega) (by omega) fun t2 r2 rv2 j1 j2 j3 j4 j5=>?_;exact hQ t2 r2 rv2 (ht.trans (k1.trans j1)) j2 j3 j4 (by grind [HG])
    ·rw[yaa (by omega)];refine JN ha hb hal hbl (by omega) (by omega) fun t2 r2 rv2 j1 j2 j3 j4 j5=>?_;exact hQ t2 r2 rv2 (ht.trans j1) j2 j3 j4 (by omega)
def cd_ok{la lb:List Nat}{pa pb:zA}{Q:dB}(ha:mA t 1 (cA .u32 la) pa)(hb:mA t 1 (cA .u32 lb) pb)(hal:yB BB la)(hbl:yB BB lb)(han:norm la)(hbn:norm lb)(hla:la.length<700000)(hlb:lb.length<700000)
  (hQ:∀t' r rv,bA t t'->mA t' 1 (cA .u32 r) rv->yB BB r->norm r->val BB r=Nat.gcd (val BB la) (val BB lb)->Q rv t'):Wc yA F 272 [pa,pb] t Q:=by
 have hBB:=lL;have hB1:1<BB:=by omega
 have hlt:=Vu hB1 hal hbl han hbn;refine w272 ?_;simp only[uI,t272,qA,q283,zco (by omega) ha hb,wA,fB,xC];by_cases hc:cG la lb<0
 ·rw[yab hc];have:=hlt.1 hc;exact JO hQ _ lb la pb pa t rfl (bA.refl _) hb ha hbl hal hbn han (by omega) hlb (Nat.gcd_comm _ _)
 ·rw[yaa hc];have:val BB lb<=val BB la:=Nat.le_of_not_lt fun h=>hc (hlt.2 h);exact JO hQ _ la lb pa pb t rfl (bA.refl _) ha hb hal hbl han hbn this hla rfl
end Go.Proofs
namespace Go.Proofs
open Go Go.Am
variable [sC]
variable {t:Tr sA}
theorem Ll{neg:Bool}{l:List Nat}(h:sH neg l=true):norm l:=by
 intro hne;grind [sH]
theorem ZM{l:List mE}{v:zA}(hv:mA t 2 (l.map mE.d) v)(hb:∀w∈l,w.limbs.length<1125899906842624)(hn:l.length<1125899906842624):∀(k i:Nat),i+k=l.length->jp 270 2 [v,.int .i64 (l.length:Int),.int .i64 (i:Int)] t (fun r m=>r=.bool ((l.drop i).all fun w=>sH w.neg w.limbs)/\m=t):=by
 intro k;induction k with
 | zero=>
  intro i hi;refine zbx ?_;simp only[uB,uG,kD,yC,zB,qF,uZ,pN,oN,Qb,qA,xC];simp_all
 | succ k ih=>
  intro i hi;have hlt:i<l.length:=by omega
  have hx:l[i]?=some l[i]:=ybd hlt;obtain⟨b,off,cs,g1,g2,_,_,g5⟩:=yF.at sl271 (by simp) hv (i:=i) (d:=l[i].d) (by simp[hx]);obtain⟨u,rfl,hu⟩:=Ce g5;have hv1:=Ja (neg:=l[i].neg) (hb _ (ycj hlt)) hu;refine zbx ?_;simp only[uB,uG,kD,yC,zB,qF,uZ,pN,oN,Qb,qA,xC];rw[yab (by omega),g1,wA,g2,fW,wA,wJ g5 (mE.zs _)];simp only[wA,cellsOf,Aq,Bm,yaz,yba];have hone:vF zA.one [.bool l[i].neg,u]=true:=by
   show(bif zA.one (.bool l[i].neg)then(bif zA.one u then true else false)else false)=true;rw[hu.one];rfl
  refine GJ hone ?_;rw[q237,hv1];simp only[wA,Av,Tb];rw[ybl hlt,ycg]
  cases hq:sH l[i].neg l[i].limbs with
  | false=>simp
  | true=>
   simp only[ycn,Bool.true_eq_false,if_false];rw[wrap_i64 (by omega) (by omega)];exact ih (i+1) (by omega)
theorem ZL{l:List mE}{v:zA}(hv:mA t 2 (l.map mE.d) v)(hb:∀w∈l,w.limbs.length<1125899906842624)(hn:l.length<1125899906842624):lB yA F 270 [v] t=some (.bool (l.all fun w=>sH w.neg w.limbs)):=by
 refine bB.2 (w270 ?_);simp only[uI,uZ,t270,qA,hv.len,wA,fB,ybf];have:=ZM hv hb hn l.length 0 (by omega)
 simp_all
theorem gcd_ok{n d:mE}{u v:zA}{Q:dB}(hu:mA t 1 (lC n.limbs) u)(hv:mA t 1 (lC d.limbs) v)(hn:n.limbs.length<700000)(hd:d.limbs.length<700000)(hnl:yB 65536 n.limbs)(hdl:yB 65536 d.limbs)(hnv:sH n.neg n.limbs=true)(hdv:sH d.neg d.limbs=true)
  (hQ:∀t' g rv,bA t t'->mA t' 1 (lC g) rv->yB 65536 g->norm g->val 65536 g=Nat.gcd (val 65536 n.limbs) (val 65536 d.limbs)->Q (.tup [.agg [.bool false,rv],.int .i64 0]) t'):Wc yA F 258 [.agg [.bool n.neg,u],.agg [.bool d.neg,v]] t Q:=by
 have hBB:=lL;refine w258 ?_;simp only[uB,uG,kD,uZ,pN,oN,t258,qA];intro b hb hbase;obtain⟨t1,g1,g2,g3,g4⟩:=Lr (C:=yA) (T:=271) (el:=32) (sz:=2) (n:=2) (cl:=[[.bool n.neg,u],[.bool d.neg,v]]) (ps:=[(0,.agg [.bool n.neg,u]),(1,.agg [.bool d.neg,v])]) ty271 rfl ty32 rfl rfl (by decide) rfl (fun i cs hi=>by
  grind) rfl hb
 rw[g1,wA];have hw:mA t1 2 ([n,d].map mE.d) (.slice b 0 2 2):=⟨_,g2,by
  simp only[ycm,List.map_nil,tJ,aJ];refine⟨_,_,rfl,?_,_,_,rfl,?_,rfl⟩
  ·unfold mE.d;rw[mL];refine⟨[[.bool n.neg],[u]],rfl,?_⟩;simp only[tJ,aJ,rY,vN];exact⟨_,_,rfl,rfl,_,_,rfl,⟨u,rfl,hu.mono g3⟩,rfl⟩
  ·unfold mE.d;rw[mL];refine⟨[[.bool d.neg],[v]],rfl,?_⟩;simp only[tJ,aJ,rY,vN];exact⟨_,_,rfl,rfl,_,_,rfl,⟨v,rfl,hv.mono g3⟩,rfl⟩⟩
 have hall:=ZL hw (fun w hw=>by
  grind) (by simp)
 rw[q270,hall];simp only[wA,Av,Tb,ycg,yck,hnv,hdv,Bool.and_self,Bool.true_eq_false,if_false];rw[q240];refine Sq (hu.mono g3) (by omega) hnl fun t2 v2 k1 k2=>?_;rw[yab hv.same,q240];refine Sq ((hv.mono g3).mono k1) (by omega) hdl fun t3 v3 m1 m2=>?_;have an:=Ig hnl;have ad:=Ig hdl;rw[<- hBB]at an ad;rw[q272];refine cd_ok (k2.mono m1) m2 an ad (Lk (Ll hnv)) (Lk (Ll hdv)) (by rw[wQ];omega) (by rw[wQ];omega) fun t4 r rv p1 p2 p3 p4 p5=>?_
 rw[hBB]at p3;have vn:∀l,val BB (kF l)=val 65536 l:=fun l=>by grind [Ox]
 rw[vn,vn]at p5;have hrl:r.length<400000:=by
  have hB1:1<BB:=by omega
  rcases yav (val 65536 n.limbs)with h0 | h0
  ·rw[h0,Nat.gcd_zero_left,<- vn]at p5;have:=nL hB1 ad p4 (Nat.le_of_eq p5)
   grind [wQ]
  ·have h1:=Nat.gcd_le_left (val 65536 d.limbs) h0;rw[<- p5,<- vn]at h1;have:=nL hB1 an p4 h1
   grind [wQ]
 rw[q271];refine MQ p2 hrl p3 fun t5 v5 s1 s2=>?_;rw[wZ p4]at s2 ⊢;have eG:oO [(.bool false),.nilslice] (.agg [.bool (if r=[]then false else false),v5])=some (cellsOf [.bool (if r=[]then false else false),v5]):=Ih (by
  show(true&&(bV .nilslice v5&&true))=true;rw[Vc s2];rfl)
 rw[eG];have hone:vF zA.one [.bool false,v5]=true:=by
  show(bif zA.one (.bool false)then(bif zA.one v5 then true else false)else false)=true;rw[s2.one];rfl
 simp only[wA,cellsOf,Aq,Bm,yaz,yba,ite_self,hone,if_true];refine hQ t5 (rD (zH r)) v5 (g3.trans (k1.trans (m1.trans (p1.trans s1)))) s2 (iQ (KL p3)) (xP _) ?_;rw[hO,<- p5,Xe,hBB]
end Go.Proofs
namespace Go.Am
def kC.fit(f:kC):Prop:=f.ok/\yB 65536 f.n.limbs/\yB 65536 f.d.limbs
def oD.fit(v:oD):Prop:=v.kind<256/\v.f.fit /\ -9223372036854775808<=v.i/\v.i<9223372036854775808
mutual
def pA.fit:pA->Prop
 | .mk op name v args=>op<256/\name.length<jF/\(∀c∈name,c<256)/\v.fit/\args.length<jF/\pA.fits args
def pA.fits:List pA->Prop
 | []=>True
 | x::l=>x.fit/\pA.fits l
end
def pA.fits_mem:∀ {l:List pA},pA.fits l->∀x∈l,x.fit
 | [],_,_,h=>by cases h
 | y::l,h,x,hx=>by
  unfold pA.fits at h;rcases ybs.1 hx with rfl | hx
  ·exact h.1
  ·exact pA.fits_mem h.2 x hx
mutual
def pA.fit_ok:∀ {x:pA},x.fit->x.ok
 | .mk op name v args,h=>by
  unfold pA.fit at h;unfold pA.ok;exact⟨h.2.1,h.2.2.2.1.2.1.1,h.2.2.2.2.1,pA.fits_oks h.2.2.2.2.2⟩
def pA.fits_oks:∀ {l:List pA},pA.fits l->pA.oks l
 | [],_=>by grind [pA.oks]
 | x::l,h=>by
  unfold pA.fits at h;unfold pA.oks;exact⟨pA.fit_ok h.1,pA.fits_oks h.2⟩
end
def i64 (n:Int):Prop := -9223372036854775808<=n/\n<9223372036854775808
def Ec.fit(r:Ec):Prop:=i64 r.a/\i64 r.b/\i64 r.known/\r.f.fit
def Eb.fit(x:Eb):Prop:=x.name.length<jF/\x.rows.length<jF/\∀r∈x.rows,r.fit
def Ed.fit(x:Ed):Prop:=x.name.length<jF/\x.kind<256
def vY.fit(x:vY):Prop:=x.name.length<jF/\x.label.length<jF/\i64 x.from_/\i64 x.to/\i64 x.known/\x.when_.fit/\x.then_.fit
structure Ay.fit (p:Ay):Prop where
 name:p.name.length<jF
 ndefs:p.defs.length<jF
 ntables:p.tables.length<jF
 nclauses:p.clauses.length<jF
 defs:∀d∈p.defs,d.fit
 tables:∀d∈p.tables,d.fit
 clauses:∀d∈p.clauses,d.fit
end Go.Am
namespace Go.Proofs
open Go Go.Am
variable [sC]
variable {t:Tr sA}
def sP(w:mE):Bool := !w.neg&&decide (w.limbs=[1])
def aG(f:kC):Bool:=decide (f.n.limbs.length<=256)&&decide (f.d.limbs.length<=256)&&sH f.n.neg f.n.limbs&&sH f.d.neg f.d.limbs && !f.d.neg&&decide (f.d.limbs≠[])&&(sP f.d||decide (Nat.gcd (val 65536 f.n.limbs) (val 65536 f.d.limbs)=1))
theorem Cu{a b:Int}:iB a b=decide (a<b):=by
 grind [xC]
theorem kV{a b:Int}:uC a b=decide (a<=b):=by
 grind [pD]
theorem rP{a b:Int}:iA a b=decide (a=b):=by
 grind [gE]
theorem NN{f:kC}{u v:zA}(hu:mA t 1 (lC f.n.limbs) u)(hv:mA t 1 (lC f.d.limbs) v)(hf:kC.fit f):lB yA F 210 [.agg [.bool f.n.neg,u,.bool f.d.neg,v]] t=some (.bool (aG f)):=by
 obtain⟨h1,h2,h3⟩:=hf;unfold kC.ok jF at h1;have c1:lB yA F 236 [.agg [.bool f.n.neg,u,.bool f.d.neg,v]] t=some (.bool (!(decide (f.n.limbs.length<=256)&&decide (f.d.limbs.length<=256)))):=by
  refine bB.2 (w236 ?_);simp only[uI,qF,t236,qA,hu.len,hv.len,wA,fB,vM];grind [xC]
 have c2:=Ja (neg:=f.n.neg) (by omega) hu;have c3:=Ja (neg:=f.d.neg) (by omega) hv;have c4:lB yA F 212 [.agg [.bool f.n.neg,u,.bool f.d.neg,v]] t=some (.bool (sP f.d)):=by
  refine bB.2 (w212 ?_);simp only[uB,t212,qA,q238,Um hv,wA,Av]; (first | exact⟨rfl,rfl⟩ | exact⟨rfl,trivial⟩ | trivial)
 refine fN (w210 ?_);simp only[uI,uB,uG,zB,qF,oN,t210,qA,q236,c1,q237,c2,c3,q212,c4,wA,Av,hv.len,fB,vM,gE,Tb];unfold aG;by_cases g1:f.n.limbs.length<=256
 ·by_cases g2:f.d.limbs.length<=256
  ·simp only[g1,g2,decide_true,ycn,Bool.not_true,ybq,if_false]
   cases hn:sH f.n.neg f.n.limbs with
   | false=>simp
   | true=>
    cases hd:sH f.d.neg f.d.limbs with
    | false=>simp
    | true=>
     simp only[Bool.true_eq_false,if_false,ycn]
     cases hg:f.d.neg with
     | true=>simp
     | false=>
      simp only[ybq,if_false,ycl,ycn];by_cases h0:f.d.limbs=[]
      ·simp_all
      ·have:f.d.limbs.length≠0:=fun e=>h0 (ycc.1 e);rw[yaa (by omega)];simp only[h0,ne_eq,not_false_eq_true,decide_true,ycn]
       cases ho:sP f.d with
       | true=>simp
       | false=>
        simp only[ybq,if_false,Bool.false_or];rw[q239];refine w239 ?_;simp only[uI,uG,kD,uX,pN,oN,t239,qA,q258];have hn':=hn;have hd':=hd;rw[hg]at hd';refine gcd_ok (n:=f.n) (d:=⟨false,f.d.limbs⟩) hu hv (by omega) (by grind) h2 h3 hn' hd' fun t' g rv k1 k2 k3 k4 k5=>?_;have eG:oO [(.bool false),.nilslice] (.agg [.bool false,rv])=some (cellsOf [.bool false,rv]):=Ih (by
         show(true&&(bV .nilslice rv&&true))=true;rw[Vc k2];rfl)
        have hone:vF zA.one [.bool false,rv]=true:=by
         show(bif zA.one (.bool false)then(bif zA.one rv then true else false)else false)=true;rw[k2.one];rfl
        simp only[gI,zA.asTup,tA,eF,yaz,yba,wA,fB,eG,cellsOf,Aq,Bm,hone,if_true];rw[q238,Um k2];simp only[wA,Av,ycl,ycn];refine⟨?_,k1⟩;congr 1;rw[decide_eq_decide,<- k5];constructor
        ·intro e;subst e;rfl
        ·intro e;exact TJ (B:=65536) (by decide) k3 (fun x hx=>by grind) k4 (fun _=>by simp) (by rw[e];rfl)
  grind
 grind
theorem Xd{f:kC}{u v:zA}(hu:mA t 1 (lC f.n.limbs) u)(hv:mA t 1 (lC f.d.limbs) v)(hf:kC.fit f):lB yA F 157 [.agg [.bool f.n.neg,u,.bool f.d.neg,v]] t=some (.bool (aG f)):=by
 refine bB.2 (w157 ?_);simp only[uB,t157,qA,q210,NN hu hv hf,wA,Av,if_true];simp_all
end Go.Proofs
namespace Go.Proofs
open Go Go.Am
variable [sC]
variable {t:Tr sA}
theorem bF{a b:List Nat}(h:a.length+b.length<4611686018427387904):iE a b=some (.str (a++b)):=by
 unfold iE;rw[vD,vD,vC.2 h,wG];rfl
theorem Jy{s:List Nat}{k:Nat}(h:k<=s.length):tE yA 9 eQ (.str s) (some (.int .i64 (k:Int))) none=some (.str (s.drop k)):=by
 unfold tE iK;rw[iL,tA];simp only[zA.asStr];rw[show sD.isString .string=true from rfl,jD];unfold Jz xN cX bT;grind [yK,tA,zA.asNat,zA.asInt,vD,rE,jD,sQ,nR,List.take_length]
theorem Rh{s:List Nat}{k:Nat}(h:k<=s.length):tE yA 9 eQ (.str s) none (some (.int .i64 (k:Int)))=some (.str (s.take k)):=by
 unfold tE iK;rw[iL,tA];simp only[zA.asStr];rw[show sD.isString .string=true from rfl,jD];unfold Jz xN cX bT;have e:yK (k:Int)=some k:=rfl;simp only[tA,zA.asNat,zA.asInt,e,vD,rE.2 h,rE.2 (yaw _),jD,sQ,nR,ycr]
def dJ (a b:List Nat):Bool:=decide (b.length<=a.length)&&cC (a.take b.length) b
theorem HC{a b:List Nat}:lB yA F 244 [.str a,.str b] t=some (.bool (dJ a b)):=by
 refine bB.2 (w244 ?_);simp only[uS,zB,uZ,t244,qA,bI,pD];grind [dJ,Rh,wA,zA.asStr]
theorem NI{a b:List Nat}:lB yA F 159 [.str a,.str b] t=some (.str (if dJ a b then a.drop b.length else a)):=by
 have h:lB yA F 213 [.str a,.str b] t=some (.str (if dJ a b then a.drop b.length else a)):=by
  refine bB.2 (w213 ?_);simp only[uB,uS,uZ,t213,qA,q244,HC,wA,zA.asBool,bI];grind [dJ,Jy,wA,zA.asStr]
 refine bB.2 (w159 ?_);simp only[uS,t159,qA,q213,h,wA,zA.asStr];simp_all
theorem XW{a b:List Nat}:lB yA F 214 [.str a,.str b] t=some (.tup [.str (if dJ a b then a.drop b.length else a),.bool (dJ a b)]):=by
 have h:lB yA F 245 [.str a,.str b] t=some (.tup [.str (if dJ a b then a.drop b.length else a),.bool (dJ a b)]):=by
  refine bB.2 (w245 ?_);simp only[uB,uS,uZ,t245,qA,q244,HC,wA,zA.asBool,bI];grind [dJ,Jy,wA,zA.asStr]
 refine bB.2 (w214 ?_);have x0:∀u v,gI 0 (.tup [u,v])=some u:=fun _ _=>rfl;have x1:∀u v,gI 1 (.tup [u,v])=some v:=fun _ _=>rfl;simp only[uB,uS,uX,t214,qA,q245,h,wA,x0,x1,zA.asStr,zA.asBool];simp_all
def kH(s:List Nat):List Nat:=if dJ s [45]then [109,105,110,117,115,32]++s.drop 1 else s
theorem AB{s:List Nat}(h:s.length<4000000000000000000):lB yA F 161 [.str s] t=some (.str (kH s)):=by
 refine bB.2 (w161 ?_);have x0:∀u v,gI 0 (.tup [u,v])=some u:=fun _ _=>rfl;have x1:∀u v,gI 1 (.tup [u,v])=some v:=fun _ _=>rfl;simp only[uB,uS,uX,t161,qA,q214,XW,wA,x0,x1,zA.asStr,zA.asBool];grind [kH,bF,wA]
def zd3{n:Int}(h0 : -9223372036854775808<=n)(h1:n<9223372036854775808):lB yA F 164 [.int .i64 n] t=some (.str (eJ n)):=by
 have hg:yA.prims.get 164=some (fL Cj):=by kernel_rfl
 refine Ko hg fun H=>?_;unfold Cj;simp only[];rw[pD.2 h0,xC.2 h1];rfl
theorem Mf{n:Int}(h0 : -9223372036854775808<=n)(h1:n<9223372036854775808):(eJ n).length<=21:=by
 by_cases h:n<0
 ·obtain⟨u,rfl⟩:∃u:Nat,n = -(u:Int):=⟨n.natAbs,by omega⟩;rw[Uk (by omega)];have:=Ai (u:=u) (k:=20) (by decide) (by omega)
  grind
 ·obtain⟨u,rfl⟩:∃u:Nat,n=(u:Int):=⟨n.toNat,by omega⟩;rw[Mg];have:=Ai (u:=u) (k:=20) (by decide) (by omega);omega
theorem GR{n:Int}(h0 : -9223372036854775808<=n)(h1:n<9223372036854775808):lB yA F 95 [.int .i64 n] t=some (.str (kH (eJ n))):=by
 have:=Mf h0 h1;refine bB.2 (w95 ?_);simp only[uS,uZ,t95,qA,q164,zd3 h0 h1,wA,zA.asStr,q161,AB (s:=eJ n) (by omega)]
 simp_all
def aE(f:kC):List Nat:=jL f.n.neg f.n.limbs++(if sP f.d then []else 47::jL f.d.neg f.d.limbs)
def XQ{u:Nat}:∀ {k:Nat},u<10^k->(fD u).length<=k+1:=by
 intro k h;have:=Ai (u:=u) (k:=k+1) (by omega) (by omega);exact this
theorem cY{neg:Bool}{l:List Nat}(hlt:yB 65536 l)(hl:l.length<=1024):(jL neg l).length<=10000:=by
 unfold jL xS;have h1:=oJ (B:=65536) (by decide) hlt;have h2:(65536:Nat)^l.length<=10^(5*l.length):=by
  simp_all [Nat.pow_mul,Nat.pow_le_pow_left]
 have:=XQ (u:=val 65536 l) (k:=5*l.length) (by omega)
 grind
theorem Jb{f:kC}(h:aG f=true):sH f.n.neg f.n.limbs=true/\sH f.d.neg f.d.limbs=true/\f.n.limbs.length<=1024/\f.d.limbs.length<=1024:=by
 grind [aG]
theorem Ms{f:kC}(hf:f.fit)(h:aG f=true):(aE f).length<=20001:=by
 obtain⟨_,_,h3,h4⟩:=Jb h;have a:=cY (neg:=f.n.neg) hf.2.1 h3;have b:=cY (neg:=f.d.neg) hf.2.2 h4
 grind [aE]
theorem HI{f:kC}{u v:zA}(hu:mA t 1 (lC f.n.limbs) u)(hv:mA t 1 (lC f.d.limbs) v)(hf:kC.fit f):lB yA F 158 [.agg [.bool f.n.neg,u,.bool f.d.neg,v]] t=some (if aG f then .tup [.str (aE f),.int .i64 0]else .tup [.str [],.int .i64 2]):=by
 refine bB.2 (w158 ?_);have x0:∀u v,gI 0 (.tup [u,v])=some u:=fun _ _=>rfl;have x1:∀u v,gI 1 (.tup [u,v])=some v:=fun _ _=>rfl;simp only[uI,uB,uS,uX,uZ,t158,qA,q157,Xd hu hv hf,wA,zA.asBool]
 cases hval:aG f with
 | false=>simp
 | true=>
  obtain⟨h1,h2,h3,h4⟩:=Jb hval;have a:=cY (neg:=f.n.neg) hf.2.1 h3;have b:=cY (neg:=f.d.neg) hf.2.2 h4;have c1:lB yA F 212 [.agg [.bool f.n.neg,u,.bool f.d.neg,v]] t=some (.bool (sP f.d)):=by
   refine bB.2 (w212 ?_);simp only[uB,t212,qA,q238,Um hv,wA,zA.asBool];first | exact⟨rfl,rfl⟩ | exact⟨trivial,trivial⟩ | exact⟨rfl,trivial⟩
  simp only[Bool.not_true,ybq,if_false,q211,Xx hu hf.2.1 h1,wA,x0,x1,zA.asStr,fB,if_true,q212,c1,zA.asBool];unfold aE
  cases hone:sP f.d with
  | true=>simp
  | false=>
   simp only[ycl,if_true,Xx hv hf.2.2 h2,wA,x0,x1,zA.asStr,fB];grind [bF,wA]
theorem HJ{f:kC}{u v:zA}(hu:mA t 1 (lC f.n.limbs) u)(hv:mA t 1 (lC f.d.limbs) v)(hf:kC.fit f)(hval:aG f=true):lB yA F 93 [.agg [.bool f.n.neg,u,.bool f.d.neg,v]] t=some (.str (kH (aE f))):=by
 have:=Ms hf hval;refine bB.2 (w93 ?_);have x0:∀u v,gI 0 (.tup [u,v])=some u:=fun _ _=>rfl;have x1:∀u v,gI 1 (.tup [u,v])=some v:=fun _ _=>rfl;simp only[uI,uS,uX,t93,qA,q158,HI hu hv hf,hval,if_true,wA,x0,x1,zA.asStr,fB,q161,AB (s:=aE f) (by omega)]
 simp_all
def rR(f:kC):Bool:=decide (f.n.limbs.length<=42)&&decide (f.d.limbs.length<=42)&&aG f&&decide ((if dJ (aE f) [45]then(aE f).drop 1 else aE f).length<=200)
theorem RY{f:kC}{u v:zA}(hu:mA t 1 (lC f.n.limbs) u)(hv:mA t 1 (lC f.d.limbs) v)(hf:kC.fit f):lB yA F 89 [.agg [.bool f.n.neg,u,.bool f.d.neg,v]] t=some (.bool (rR f)):=by
 refine bB.2 (w89 ?_);have x0:∀u v,gI 0 (.tup [u,v])=some u:=fun _ _=>rfl;have x1:∀u v,gI 1 (.tup [u,v])=some v:=fun _ _=>rfl;simp only[uI,uB,uS,zB,uX,t89,qA,hu.len,hv.len,vM,wA,fB,xC];unfold rR;by_cases h1:f.n.limbs.length<=42
 ·rw[yaa (by omega)];by_cases h2:f.d.limbs.length<=42
  ·rw[yaa (by omega)];simp only[q157,Xd hu hv hf,wA,zA.asBool]
   cases hval:aG f with
   | false=>simp
   | true=>
    simp only[Bool.not_true,ybq,if_false,q158,HI hu hv hf,hval,if_true,wA,x0,x1,zA.asStr,fB,gE,q159,NI,bI];simp[h1,h2,kV];constructor<;>intro h<;>omega
  grind
 grind
def qN(f:kC):Bool := !f.n.neg && !f.d.neg&&decide (f.n.limbs.length+f.d.limbs.length=0)
theorem Wp{f:kC}{u v:zA}(hu:mA t 1 (lC f.n.limbs) u)(hv:mA t 1 (lC f.d.limbs) v)(hf:f.ok):lB yA F 90 [.agg [.bool f.n.neg,u,.bool f.d.neg,v]] t=some (.bool (qN f)):=by
 unfold kC.ok jF at hf;refine bB.2 (w90 ?_);simp only[uI,zB,uW,t90,qA,hu.len,hv.len,vM,wA,fB];unfold qN;rw[wrap_i64 (by omega) (by omega),rP];have e:decide ((f.n.limbs.length:Int)+(f.d.limbs.length:Int)=0)=decide (f.n.limbs.length+f.d.limbs.length=0):=by
  grind
 rw[e];cases f.n.neg<;>cases f.d.neg<;>simp
theorem zae{n:Int}:lB yA F 91 [.int .i64 n] t=some (.bool (decide (0<=n)&&decide (n<65536))):=by
 refine bB.2 (w91 ?_);simp only[zB,t91,qA,pD];grind [Cu]
def fF(v:oD):Bool:=
 if v.kind=2\/v.kind=3 then decide (v.i=0)&&rR v.f
 else if v.kind=1 then qN v.f&&(decide (v.i=0)||decide (v.i=1))
 else if v.kind=4 then qN v.f&&(decide (0<=v.i)&&decide (v.i<65536))
 else if v.kind=5\/v.kind=6 then qN v.f&&(decide (-1048576<=v.i)&&decide (v.i<=1048576))
 else false
theorem CD{a:oD}{u v:zA}(hu:mA t 1 (lC a.f.n.limbs) u)(hv:mA t 1 (lC a.f.d.limbs) v)(hf:kC.fit a.f):lB yA F 39 [.agg [.int .u8 a.kind,.bool a.f.n.neg,u,.bool a.f.d.neg,v,.int .i64 a.i]] t=some (.bool (fF a)):=by
 refine bB.2 (w39 ?_);simp only[uQ13,uQ4,uB,zB,qF,uZ,t39,qA,q89,RY hu hv hf,q90,Wp hu hv hf.1,q91,zae,wA,zA.asBool];unfold fF;have kk:∀j:Int,iA (a.kind:Int) j=decide ((a.kind:Int)=j):=fun j=>rP;simp only[kk];by_cases k2:a.kind=2
 ·have e:(a.kind:Int)=2:=by omega
  by_cases h0:a.i=0<;>simp[e,k2,h0,rP]
 by_cases k3:a.kind=3
 all_goals grind [rP,kV]
end Go.Proofs
namespace Go.Am
open Go Go.RowKit
section
variable {t tf tf0:Tr sA}{C:oA}
mutual
theorem RD.ones:∀(d:D) (cs:List zA),RD t d cs->∀a∈cs,zA.one a=true
 | .int _ _,cs,h,a,ha=>by rw[RD]at h;subst h;simp at ha;subst ha;rfl
 | .bool _,cs,h,a,ha=>by rw[RD]at h;subst h;simp at ha;subst ha;rfl
 | .str _,cs,h,a,ha=>by rw[RD]at h;subst h;simp at ha;subst ha;rfl
 | .sl sz l,cs,h,a,ha=>by
  rw[vN]at h;obtain⟨v,rfl,h⟩:=h;simp at ha;subst ha;exact h.one
 | .st l,cs,h,a,ha=>by
  rw[mL]at h;obtain⟨cl,rfl,h⟩:=h;exact tC.ones l cl h a ha
theorem tC.ones:∀(l:List D) (cl:List (List zA)),tC t l cl->∀a∈cl.flatten,zA.one a=true
 | [],cl,h,a,ha=>by grind [tC]
 | d::l,cl,h,a,ha=>by
  rw[tC]at h;obtain⟨c,r,rfl,h1,h2⟩:=h;rw[yas,yaf]at ha;rcases ha with ha | ha
  ·exact RD.ones d c h1 a ha
  ·exact tC.ones l r h2 a ha
end
theorem RD.all{d:D}{cs:List zA}(h:RD t d cs):vF zA.one cs=true:=by
 grind [aI,RD.ones]
theorem RD.mk{d:D}{cs zs:List zA}(h:RD t d cs)(hz:d.zs=zs):iJ zs (cellsOf cs) 0=cs:=by
 have:=HS zs cs [] (by grind [Uz])
 simp_all
theorem lit1{S el sz b:Nat}{cs:List zA}(hT:sN C S el sz)(hc:cs.length=sz)(hs:sz<1000000)(hb:t.get b=none) :
  ∃t',bE C S 1 [(0,.agg cs)] ⟨b,t⟩=some (.slice b 0 1 1,⟨b+1,t'⟩)/\vI t' sz (.slice b 0 1 1) [cs]/\bA t t'/\dD b t t':=by
 obtain⟨⟨y,hy1,hy2,_⟩,⟨z,hz1,hz2,hz3,_,_⟩⟩:=hT;refine Lr (n:=1) (cl:=[cs]) hy1 hy2 hz1 hz2 hz3 (by omega) ?_ (fun i q hq=>?_) rfl hb
 ·have e:pI z.zero 1=z.zero:=by show uD z.zero []=z.zero;rw[wG,ycd]
  rw[e];unfold yM jX;have e1:(zA.agg cs).cells=cs:=rfl
  grind [vD,tA,sQ,nR,wG,oC,rE,jD,yM]
 grind
end
end Go.Am
namespace Go.Am
open Go Go.RowKit
section
variable {C:oA}{t:Tr sA}
def Co(C:oA)(T:Nat)(k:zA):Bool:=
 match ob (C.tys.get T) fun ty=>ob ty.desc.asMap fun ke=>ob (C.tys.get ke.1) fun kty=>xB (pQ C kty&&xO C kty k) (some ())with | some _=>true | none=>false
theorem FV{T:Nat}{k:zA}(h:Co C T k=true):∃ty ke kty,C.tys.get T=some ty/\ty.desc.asMap=some ke/\C.tys.get ke.1=some kty/\pQ C kty=true/\xO C kty k=true:=by
 grind [Co,uA,oB]
theorem zcz{T b n:Nat}{k v:zA}{l l':List (zA × zA)}(hk:Co C T k=true)(hb:C.base<=b)(hm:t.get b=some (.map l))(hs:eK k v l=some l') :
  eO C T (.map b) k v ⟨n,t⟩=some (lD,⟨n,t.set b (.map l')⟩):=by
 obtain⟨ty,ke,kty,h1,h2,h3,h4,h5⟩:=FV hk;have e2:(!Nat.blt b C.base)=true:=by
  grind [vC]
 have e3:xJ ⟨n,t⟩ b=some l:=by unfold xJ;rw[hm];rfl
 unfold eO;rw[h1,tA,h2,tA,h3,tA,h4,jD];simp only[zA.asMap,tA];rw[e2,jD,e3,tA,h5,jD,hs];rfl
theorem UE{T b n:Nat}{k v:zA}{l:List (zA × zA)}(hk:Co C T k=true)(hm:t.get b=some (.map l))(hs:yJ k l=some (some v)){ty:pC}(hT:C.tys.get T=some ty){ke:Nat × Nat}(hd:ty.desc.asMap=some ke){ety:pC}(he:C.tys.get ke.2=some ety)(ok:Bool) :
  iS C T ⟨n,t⟩ (.map b) k ok=some (bif ok then .tup [v,.bool true]else v):=by
 obtain⟨ty,ke,kty,h1,h2,h3,h4,h5⟩:=FV hk;rw[hT]at h1;cases h1;rw[hd]at h2;cases h2;have e3:xJ ⟨n,t⟩ b=some l:=by unfold xJ;rw[hm];rfl
 unfold iS;rw[hT,tA,hd,tA,h3,tA,h4,jD,he,tA];have e4:oR ⟨n,t⟩ (.map b)=some l:=by grind [oR,zA.asMap]
 rw[e4,tA,h5,jD,hs,tA]
mutual
theorem RD.sames1:∀(d:D) (cs:List zA),RD t d cs->∀a∈cs,∀k,Am.same k a a=true
 | .int _ _,cs,h,a,ha,k=>by grind [RD,cW]
 | .bool _,cs,h,a,ha,k=>by grind [RD,PP]
 | .str _,cs,h,a,ha,k=>by grind [RD,Kc]
 | .sl sz l,cs,h,a,ha,k=>by
  rw[vN]at h;obtain⟨v,rfl,h⟩:=h;simp at ha;subst ha;exact h.same
 | .st l,cs,h,a,ha,k=>by
  rw[mL]at h;obtain⟨cl,rfl,h⟩:=h;exact tC.sames1 l cl h a ha k
theorem tC.sames1:∀(l:List D) (cl:List (List zA)),tC t l cl->∀a∈cl.flatten,∀k,Am.same k a a=true
 | [],cl,h,a,ha,k=>by grind [tC]
 | d::l,cl,h,a,ha,k=>by
  rw[tC]at h;obtain⟨c,r,rfl,h1,h2⟩:=h;rw[yas,yaf]at ha;rcases ha with ha | ha
  ·exact RD.sames1 d c h1 a ha k
  ·exact tC.sames1 l r h2 a ha k
end
def AP:∀ {l:List zA} {k:Nat},(∀a∈l,∀k,Am.same k a a=true)->Am.same.sames k l l=true
 | [],_,_=>rfl
 | a::l,k,h=>by
  rw[Am.same.sames,h a (.head _) k,AP fun b hb=>h b (.tail _ hb)];rfl
def RD.sameA{d:D}{cs:List zA}(h:RD t d cs){k:Nat}:Am.same (k+1) (.agg cs) (.agg cs)=true:=AP (RD.sames1 d cs h)
theorem dE.up{t':Tr sA}{b:Nat}{lo:Option Lo}{cs:List zA}(h:dE t b lo cs)(k:bA t t'):dE t' b lo cs:=by
 obtain⟨c,h1,h2⟩:=h;exact⟨c,k _ _ h1,h2⟩
end
end Go.Am
namespace Go.Proofs
open Go Go.Am
variable [sC]
variable {t:Tr sA}
def zL(n:Nat):Bool:=(decide (65<=n)&&decide (n<=90))||(decide (97<=n)&&decide (n<=122))
def Cs(n:Nat):Bool:=decide (48<=n)&&decide (n<=57)
def zM(n:Nat):Bool:=zL n||Cs n||decide (n=95)
theorem iLe_d{a b:Int}:uC a b=decide (a<=b):=by
 grind [pD]
theorem Un{n:Nat}:lB yA F 169 [.int .u8 (n:Int)] t=some (.bool (zL n)):=by
 refine bB.2 (w169 ?_);simp only[zB,qF,t169,qA,iLe_d,decide_eq_true_eq];grind [zL]
theorem VH{n:Nat}:lB yA F 219 [.int .u8 (n:Int)] t=some (.bool (Cs n)):=by
 refine bB.2 (w219 ?_);simp only[zB,t219,qA,iLe_d,decide_eq_true_eq];grind [Cs]
theorem VK{n:Nat}:lB yA F 171 [.int .u8 (n:Int)] t=some (.bool (zM n)):=by
 refine bB.2 (w171 ?_);simp only[uB,qF,uY,t171,qA,q169,Un,wA,zA.asBool];unfold zM
 cases h:zL n with
 | true=>simp
 | false=>
  simp only[ybq,if_false,q219,VH,wA,zA.asBool];grind [rP,decide]
def Hk{s:List Nat}{i x:Nat}(h:s[i]?=some x):cP yA 9 (.str s) (.int .i64 (i:Int))=some (.int .u8 (x:Int)):=by
 unfold cP;rw[iL,tA];simp only[zA.asNat,zA.asInt,zA.asStr];have e:ob (some (i:Int)) yK=some i:=rfl;rw[e,tA,show sD.isString .string=true from rfl,jD,eF,h,tA];rfl
def dK (p:Nat->Bool)(s:List Nat):List Nat:=s.takeWhile p
theorem AW{p:Nat->Bool}{g:Nat}(hg:∀n:Nat,lB yA F g [.int .u8 (n:Int)] t=some (.bool (p n)))(hq:∀ {a:List zA} {m:Tr sA} {R:dB},Wq yA F jH g a m R=oE (lB yA F g a m) (fun v=>R v m))(hy:Nat.blt g yo=true){s:List Nat}(hs:s.length<4000000000000000000) :
  ∀(k i:Nat),i+k=s.length->(∀j x,j<i->s[j]?=some x->p x=true)->jp 170 2 [.str s,.func (.func g) [] [],.int .i64 (i:Int)] t (fun v t'=>v=.str (dK p s)/\t'=t):=by
 have key:∀i,i<=s.length->(∀j x,j<i->s[j]?=some x->p x=true)->(∀x,s[i]?=some x->p x=false)->dK p s=s.take i:=by
  intro i hi h1 h2;unfold dK;induction s generalizing i with
  | nil=>simp
  | cons a s ih=>
   cases i with
   | zero=>simp_all
   | succ i=>
    rw[List.takeWhile_cons,h1 0 a (by omega) rfl,yab rfl,List.take_succ_cons];rw[ih (by grind) i (by simp_all) (fun j x hj hx=>h1 (j+1) x (by omega) (by simp_all)) (fun x hx=>h2 x (by simp_all))]
 intro k;induction k with
 | zero=>
  intro i hi hp;refine zcd ?_;simp only[uU,uB,uS,yC,uZ,uY,Qu,qA,xC,bI];grind [Rh,wA,zA.asStr]
 | succ k ih=>
  intro i hi hp;have hx:s[i]?=some s[i]:=ybd (by omega);refine zcd ?_;simp only[uU,uB,uS,yC,uZ,uY,Qu,qA,xC,bI];rw[yab (by omega),Hk hx,wA,fB,wA];have e:pS (.func (.func g) [] []) [.int .u8 (s[i]:Int)]=some (g,[.int .u8 (s[i]:Int)]):=by
   unfold pS;simp only[zA.asFunc,tA,hy,jD];rfl
  rw[e,wA];simp only[];rw[hq,hg,wA];simp only[zA.asBool,wA]
  cases hb:p s[i]with
  | true=>
   rw[yab rfl,wrap_i64 (by omega) (by omega),show(i:Int)+1=((i+1:Nat):Int) by omega];refine ih (i+1) (by omega) fun j x hj hjx=>?_
   grind
  | false=>
   rw[yaa (by simp),Rh (by omega),wA];simp only[zA.asStr,wA];rw[key i (by omega) hp (fun x hx'=>by simp_all)]
   simp_all
def PX{s:List Nat}(hs:s.length<4000000000000000000):lB yA F 170 [.str s,.func (.func 171) [] []] t=some (.str (dK zM s)):=by
 refine bB.2 (w170 ?_);simp only[uZ,t170,qA];exact AW (fun n=>VK) (fun {a m R}=>by rw[q171]) rfl hs s.length 0 (by omega) (fun j x hj=>by omega)
def zc5{s:List Nat}(hs:s.length<4000000000000000000):lB yA F 170 [.str s,.func (.func 169) [] []] t=some (.str (dK zL s)):=by
 refine bB.2 (w170 ?_);simp only[uZ,t170,qA];exact AW (fun n=>Un) (fun {a m R}=>by rw[q169]) rfl hs s.length 0 (by omega) (fun j x hj=>by omega)
def zQ:Nat->List Nat
 | 2=>[32,116,111,32,105,115,32,97,116,32,105,102,32,111,114,32,117,112,32]
 | 3=>[32,100,101,102,32,114,111,119,32,111,110,101,32,116,119,111,32,101,110,100,32,111,102,102,32,104,97,115,32,109,105,110,32,109,97,120,32,97,110,100,32,110,111,116,32]
 | 4=>[32,112,108,97,110,32,102,97,99,116,32,102,114,111,109,32,119,104,101,110,32,116,104,101,110,32,100,97,116,101,32,100,97,121,115,32,116,114,117,101,32,108,111,111,107,32,98,101,115,116,32,103,114,111,119,32,100,111,119,110,32,99,101,105,108,32,104,97,108,102,32,101,118,101,110,32]
 | 5=>[32,116,97,98,108,101,32,107,110,111,119,110,32,116,114,117,116,104,32,109,111,110,101,121,32,102,97,108,115,101,32,109,105,110,117,115,32,116,111,100,97,121,32,114,111,117,110,100,32,115,116,97,114,116,32,102,108,111,111,114,32]
 | 6=>[32,99,108,97,117,115,101,32,110,117,109,98,101,114,32,109,111,110,116,104,115,32]
 | 7=>[32,98,101,116,119,101,101,110,32,115,101,114,118,105,99,101,32]
 | _=>[]
def eU(s:List Nat):Bool:=decide (2<=s.length)&&decide (s.length<=7)&&cC (dK zL s) s&&xW ([32]++s++[32]) (zQ s.length)
def dH (n:Nat):zA × zA:=(.int .i64 (n:Int),.str (zQ n))
def XZ{a b:List Nat}(h:a.length<4294967281):lB yA F 220 [.str a,.str b] t=some (.bool (xW b a)):=by
 have hg:yA.prims.get 220=some (fL Ck):=by kernel_rfl
 refine Ko hg fun H=>?_;unfold Ck;simp only[];rw[vD,vC.2 h];rfl
theorem QX{s:List Nat}(hs:s.length<4000000000000000000):lB yA F 172 [.str s] t=some (.bool (eU s)):=by
 refine fN (w172 ?_);simp only[uB,uS,zB,uZ,t172,qA,xC,bI];unfold eU;by_cases h1:2<=s.length
 ·rw[yaa (by omega)];by_cases h2:s.length<=7
  ·rw[yaa (by omega)];simp only[q170,zc5 hs,wA,zA.asStr]
   cases h3:cC (dK zL s) s with
   | false=>simp
   | true=>
    simp only[Bool.not_true,ybq,if_false];intro b hb hbase;have hmk:Jc ⟨b,t⟩=some (.map b,⟨b+1,t.set b (.map [])⟩):=rfl;rw[hmk,wA];simp only[];have h0:(t.set b (.map [])).get b=some (.map []):=by rw[Tr.get_set,yab rfl]
    have ho:dD b t (t.set b (.map [])):=fun c hc=>by rw[Tr.get_set,yaa hc]
    generalize t.set b (.map [])=t1 at h0 ho;have hstep:∀(l:List (zA × zA)) (k:Nat) (s':List Nat) (l':List (zA × zA)) (Q:(zA × xA)->Prop) (t1:Tr sA),t1.get b=some (.map l)->dD b t t1->eK (.int .i64 (k:Int)) (.str s') l=some l'->Co yA 230 (.int .i64 (k:Int))=true →
      (∀n t2,t2.get b=some (.map l')->dD b t t2->Q (lD,⟨n,t2⟩))->∀n,t1.get n=none->yA.base<=n->oE (eO yA 230 (.map b) (.int .i64 (k:Int)) (.str s') ⟨n,t1⟩) Q:=by
     intro l k s' l' Q t1 g1 g2 h1 h2 h3 n _ _;rw[zcz h2 hbase g1 h1,wA];exact h3 n _ (by rw[Tr.get_set,yab rfl]) fun c hc=>by rw[Tr.get_set,yaa hc];exact g2 c hc
    refine hstep [] 2 _ [dH 2] _ t1 h0 ho rfl (by kernel_rfl) fun n t2 g o=>?_;refine hstep _ 3 _ [dH 2,dH 3] _ t2 g o rfl (by kernel_rfl) fun n t2 g o=>?_;refine hstep _ 4 _ [dH 2,dH 3,dH 4] _ t2 g o rfl (by kernel_rfl) fun n t2 g o=>?_;refine hstep _ 5 _ [dH 2,dH 3,dH 4,dH 5] _ t2 g o rfl (by kernel_rfl) fun n t2 g o=>?_;refine hstep _ 6 _ [dH 2,dH 3,dH 4,dH 5,dH 6] _ t2 g o rfl (by kernel_rfl) fun n t2 g o=>?_
    refine hstep _ 7 _ [dH 2,dH 3,dH 4,dH 5,dH 6,dH 7] _ t2 g o rfl (by kernel_rfl) fun n t2 g o=>?_;have hle:bA t t2:=fun c u hc=>by
     have:c≠b:=fun e=>by simp_all
     rw[o c this];exact hc
    have hl:iS yA 230 ⟨0,t2⟩ (.map b) (.int .i64 (s.length:Int)) false=some (.str (zQ s.length)):=by
     have hk:Co yA 230 (.int .i64 (s.length:Int))=true/\yJ (.int .i64 (s.length:Int)) [dH 2,dH 3,dH 4,dH 5,dH 6,dH 7]=some (some (.str (zQ s.length))):=by
      have:s.length=2\/s.length=3\/s.length=4\/s.length=5\/s.length=6\/s.length=7:=by omega
      rcases this with e | e | e | e | e | e<;>rw[e]<;>exact⟨by kernel_rfl,rfl⟩
     exact UE hk.1 g hk.2 ty230 rfl iL false
    rw[hl,wA];simp only[zA.asStr,wA];rw[bF (by grind),wA];simp only[zA.asStr,wA];rw[bF (by grind),wA];simp only[zA.asStr,wA];have hr:(zQ s.length).length<4294967281:=by
     have:s.length=2\/s.length=3\/s.length=4\/s.length=5\/s.length=6\/s.length=7:=by omega
     rcases this with e | e | e | e | e | e<;>rw[e]<;>decide
    rw[q220,XZ hr,wA];simp only[zA.asBool,wA];refine⟨?_,hle⟩
    grind
  grind
 grind
def qR(s:List Nat):Bool:=match s with
 | []=>false
 | x::r=>decide ((x::r).length<=24)&&zL x&&cC (dK zM (x::r)) (x::r) && !eU (x::r)
theorem zdf{s:List Nat}:lB yA F 107 [.str s] t=some (.bool (qR s)):=by
 refine bB.2 (w107 ?_);simp only[uU,uB,uS,zB,uZ,uY,t107,qA,xC,bI]
 cases s with
 | nil=>simp[qR,fH]
 | cons x r=>
  have h0:cC (x::r) []=false:=by
   grind [fH]
  rw[h0];simp only[ybq,if_false];unfold qR;by_cases h1:(x::r).length<=24
  ·rw[yaa (by omega)];have hx:=Hk (s:=x::r) (i:=0) (x:=x) rfl;rw[show((0:Nat):Int)=0 from rfl]at hx;rw[hx,wA,fB,wA,q169,Un,wA];simp only[zA.asBool,wA]
   cases h2:zL x with
   | false=>simp
   | true=>
    simp only[Bool.not_true,ybq,if_false];rw[q170,PX (by omega),wA];simp only[zA.asStr,wA]
    cases h3:cC (dK zM (x::r)) (x::r)with
    | false=>simp
    | true=>
     simp only[if_true,q172,QX (s:=x::r) (by omega),wA,zA.asBool]
     simp_all
  grind
end Go.Proofs
namespace Go.Am
open Go Go.RowKit
section
variable {base:Nat}{W J:oH}{t:Tr sA}{Q:dB}
theorem fA{b:Bool}{x y:T}(h:b=true)(k:qA base W J x t Q):qA base W J (.ite b x y) t Q:=by
 show if b=true then _ else _;simp_all
theorem dA{b:Bool}{x y:T}(h:b≠true)(k:qA base W J y t Q):qA base W J (.ite b x y) t Q:=by
 show if b=true then _ else _;simp_all
theorem lA{x:Option zA}{K:zA->T}{v:zA}(h:x=some v)(k:qA base W J (K v) t Q):qA base W J (.opt x K) t Q:=by
 show oE x _;simp_all
theorem gC{x:Tr sA->Option zA}{K:zA->T}{v:zA}(h:x t=some v)(k:qA base W J (K v) t Q):qA base W J (.light x K) t Q:=by
 show oE (x t) _;simp_all
theorem wB{f:Nat}{a:List zA}{K:zA->T}(k:W f a t (fun v t'=>qA base W J (K v) t' Q)):qA base W J (.call f a K) t Q:=k
theorem qB{n:Int}{i:IntKind}{K:Int->T}(k:qA base W J (K n) t Q):qA base W J (.asI i (.int i n) K) t Q:=by
 show oE (aZ i (.int i n)) _;rw[fB];exact k
theorem wD{b:Bool}{K:Bool->T}(k:qA base W J (K b) t Q):qA base W J (.asB (.bool b) K) t Q:=k
def rC{s:List Nat}{K:List Nat->T}(k:qA base W J (K s) t Q):qA base W J (.asS (.str s) K) t Q:=k
theorem wI{zs:List zA}{a:zA}{K:jI->T}{X:jI}(h:oO zs a=some X)(k:qA base W J (K X) t Q):qA base W J (.asG zs a K) t Q:=by
 show oE (oO zs a) _;simp_all
theorem eI{x:xA->Option (zA × xA)}{K:zA->T}(k:∀b,t.get b=none->base<=b->∃v H,x ⟨b,t⟩=some (v,H)/\qA base W J (K v) H.t Q):qA base W J (.heavy x K) t Q:=by
 intro b h1 h2;obtain⟨v,H,h3,h4⟩:=k b h1 h2
 simp_all
theorem qC{i:Nat}{a:List zA}(k:J i a t Q):qA base W J (.jump i a) t Q:=k
end
section
variable {t:Tr sA}{C:oA}
end
end Go.Am
namespace Go.Proofs
open Go Go.Am
variable [sC]
variable {t:Tr sA}
def Be(v:oD):Bool:=decide (v.kind=0)&&decide (v.i=0)&&qN v.f
theorem KY{a:oD}{u v:zA}(hu:mA t 1 (lC a.f.n.limbs) u)(hv:mA t 1 (lC a.f.d.limbs) v)(hf:a.f.ok):lB yA F 136 [.agg [.int .u8 a.kind,.bool a.f.n.neg,u,.bool a.f.d.neg,v,.int .i64 a.i]] t=some (.bool (Be a)):=by
 refine bB.2 (w136 ?_);simp only[uB,zB,t136,qA,gE];unfold Be;by_cases h1:a.kind=0
 ·rw[yab (by omega)];by_cases h2:a.i=0
  ·rw[yab h2,q90,Wp hu hv hf,wA]
   grind [zA.asBool,wA]
  simp_all
 simp_all
structure FM where
 style:Nat
 word:List Nat
 named:Bool
 least:Nat
 most:Nat
 level:Nat
 left:Nat
 right:Nat
def FM.cs(f:FM):List zA:=[.int .u8 f.style,.str f.word,.bool f.named,.int .i64 f.least,.int .i64 f.most,.int .i64 f.level,.int .i64 f.left,.int .i64 f.right]
def atF (w:List Nat):FM:=⟨3,w,true,1,1,7,7,7⟩
def rO(w:List Nat)(n:Bool)(a b:Nat):FM:=⟨6,w,n,a,b,7,1,1⟩
def yT(w:List Nat)(a b c:Nat):FM:=⟨4,w,false,2,2,a,b,c⟩
def zec:List FM:=[⟨0,[],false,0,0,0,0,0⟩,⟨1,[],false,0,0,7,0,0⟩,⟨2,[116,111,100,97,121],false,0,0,7,0,0⟩,atF [102,97,99,116,32],atF [104,97,115,32],atF [],rO [108,111,111,107] true 1 2,yT [43] 5 5 6,yT [45] 5 5 6,yT [42] 6 6 7,yT [47] 6 6 7,
 rO [109,105,110] false 2 2,rO [109,97,120] false 2 2,yT [60] 4 5 5,yT [61] 4 5 5,yT [97,110,100] 2 2 3,yT [111,114] 1 1 2,⟨5,[110,111,116,32],false,1,1,3,3,3⟩,rO [105,102] false 3 3,rO [114,111,117,110,100] false 2 2,rO [98,101,116,119,101,101,110] false 2 2,
 rO [115,101,114,118,105,99,101] true 2 2,rO [98,101,115,116] true 3 3,rO [103,114,111,119] true 2 2,rO [109,111,110,116,104,115] false 1 1,rO [110,117,109,98,101,114] false 1 1,rO [115,116,97,114,116] false 1 1]
def oP:List zA:=(zec.map FM.cs).flatten
abbrev z8:List zA:=[.int .u8 0,.str [],.bool false,.int .i64 0,.int .i64 0,.int .i64 0,.int .i64 0,.int .i64 0]
def cv76{w:List Nat}{n:Bool}{a b:Nat}{K:jI->T}{Q:dB}(h:wp 105 (K (cellsOf (rO w n a b).cs)) t Q):wp 105 (.callv (.func (.func 166) [] []) [.str w,.bool n,.int .i64 (a:Int),.int .i64 (b:Int)] fun a=>.asG z8 a K) t Q:=by
 have e:lB yA F 166 [.str w,.bool n,.int .i64 (a:Int),.int .i64 (b:Int)] t=some (.agg (rO w n a b).cs):=by
  refine bB.2 (w166 ?_);simp only[uZ,uY,t166,qA,if_true];constructor<;>trivial
 show oE (some (166,[zA.str w,.bool n,.int .i64 (a:Int),.int .i64 (b:Int)])) _;rw[wA];simp only[];rw[q166,e,wA];exact h
def cv77{w:List Nat}{K:jI->T}{Q:dB}(h:wp 105 (K (cellsOf (atF w).cs)) t Q):wp 105 (.callv (.func (.func 167) [] []) [.str w] fun a=>.asG z8 a K) t Q:=by
 have e:lB yA F 167 [.str w] t=some (.agg (atF w).cs):=by
  refine bB.2 (w167 ?_);simp only[uZ,uY,t167,qA,if_true];constructor<;>trivial
 show oE (some (167,[zA.str w])) _;rw[wA];simp only[];rw[q167,e,wA];exact h
def cv78{w:List Nat}{a b c:Nat}{K:jI->T}{Q:dB}(h:wp 105 (K (cellsOf (yT w a b c).cs)) t Q):wp 105 (.callv (.func (.func 168) [] []) [.str w,.int .i64 (a:Int),.int .i64 (b:Int),.int .i64 (c:Int)] fun a=>.asG z8 a K) t Q:=by
 have e:lB yA F 168 [.str w,.int .i64 (a:Int),.int .i64 (b:Int),.int .i64 (c:Int)] t=some (.agg (yT w a b c).cs):=by
  refine bB.2 (w168 ?_);simp only[uZ,uY,t168,qA,if_true];constructor<;>trivial
 show oE (some (168,[zA.str w,.int .i64 (a:Int),.int .i64 (b:Int),.int .i64 (c:Int)])) _;rw[wA];simp only[];rw[q168,e,wA];exact h
def DI{Q:dB}(h:∀b t',t.get b=none->yA.base<=b->dE t' b none oP->bA t t'->dD b t t'->Q (.ptr b 0) t'):Wc yA F 105 [] t Q:=by
 refine w105 ?_;unfold t105 uG uZ uY;repeat (first | refine cv76 ?_ | refine cv77 ?_ | refine cv78 ?_ | refine fA rfl ?_)
 intro b hb hbase;obtain⟨t',h1,h2,h3,h4⟩:=iZ hb oP none;have e:∀l:List zA,l=oP->bP (.agg l) ⟨b,t⟩=some (.ptr b 0,⟨b+1,t'⟩):=by
  intro l hl;show some (zA.ptr b 0,sE ⟨b,t⟩ l none)=_;rw[hl,h1]
 rw[e _ (by rfl),wA];exact h b t' hb hbase h2 h3 h4
def TM{Q:dB}(h:∀b t',t.get b=none->yA.base<=b->dE t' b none oP->bA t t'->dD b t t'->Q (.agg [.ptr b 0]) t'):Wc yA F 48 [] t Q:=by
 refine w48 ?_;unfold t48 kD;refine wB ?_;rw[q105];refine DI fun b t' h1 h2 h3 h4 h5=>?_;refine fA rfl (fA rfl ?_);exact h b t' h1 h2 h3 h4 h5
end Go.Proofs
