/- strings.Builder: text that grows. -/
import Derived.KernelRfl
import Derived.Test.YtefajchlhjcgpaaGreatDoorA20
set_option linter.all false
noncomputable section
set_option maxRecDepth 100000
namespace Go.Am
open Go Go.RowKit
theorem ED{C:iA}{F:Tr xE}{f:Nat}{args:List zA}{t:Tr tA}{Q:mB}{g:List zA->xA->Option (zA × xA)}(hg:C.prims.get f=some g)(h:∀X HA,Ov C.base t X HA->∃v t' HA',g args HA=some (v,HA')/\Ov C.base t' X HA'/\Q v t')(hf:Nat.blt f yo=true:=by rfl):Wc C F f args t Q:=by
 intro X HA ho;rw[Ie hf,hg];obtain⟨v,t',HA',h1,h2,h3⟩:=h X HA ho
 exact⟨⟨v,false⟩,t',HA',X,by simp_all,h2,iI.refl _,h3⟩
end Go.Am
namespace Go.Proofs
open Go Go.Am
variable [nC]
variable {t tf:Tr tA}{bx T:Nat}{s m:List Nat}{ex:List zA}
def el96:Db yA 96 5 1:=⟨⟨_,mV,rfl,rfl⟩,⟨_,ty5,rfl,rfl,by decide,by decide⟩⟩
def dG{b o:Nat}:Dl (.ptr b o)=some (.ptr b o):=rfl
def BX (T:Nat)(ex:List zA)(tf t:Tr tA)(bx:Nat)(s:List Nat):Prop:=
 yA.base<=bx/\tf.get bx=none/\zB tf t/\oB 256 s/\Oq Oo T (ex.length+2)=true/\∃p tv,(p=zA.nilptr\/p=.ptr bx 0)/\lC t bx (some (.ty T)) (p::tv::ex)/\kG (.ty 5) yA.base tf t 1 (bB .u8 s) tv/\(¬ uN tv bx/\(s=[]->tv=.nilslice))
def BX.le(h:BX T ex tf t bx s):zB tf t:=h.2.2.1
theorem BX.check{Q:mB}(h:BX T ex tf t bx s)(hQ:∀t',BX T ex tf t' bx s->Q (.tup []) t'):Wc yA F 87 [.ptr bx 0] t Q:=by
 have h0:=h
 obtain⟨h1,h2,h3,ha,hM,p,tv,hp,⟨c,h4,h4'⟩,h5,h6⟩:=h
 have hg:yA.prims.get 87=some pChk:=by kernel_rfl
 refine ED hg fun X HA ho=>?_
 have hk:qD HA bx=some (c,(p::tv::ex).length,some (.ty T)):=by unfold qD;rw[ho.up h4];rfl
 have hc0:c.get 0=some p:=h4' 0 p rfl
 rcases hp with rfl | rfl
 ·refine⟨.tup [],t.set bx (.cells (c.set 0 (.ptr bx 0)) (zA.nilptr::tv::ex).length (some (.ty T))),setBlk HA bx (.cells (c.set 0 (.ptr bx 0)) (zA.nilptr::tv::ex).length (some (.ty T))),?_,ho.setBlk h4 _,hQ _ ?_⟩
  ·unfold pChk Ha
   simp only[];rw[hk,pA,hc0,pA];simp only[];have e1:(!Nat.blt bx (256+nC.n))=true:=by
    cases hq:Nat.blt bx (256+nC.n)with
    | true=>
     have h3:=qC.1 hq
     have h1':256+nC.n<=bx:=h1
     omega
    | false=>rfl
   simp_all
  ·refine⟨h1,h2,fun b u hb=>?_,ha,hM,.ptr bx 0,tv,.inr rfl,⟨_,by rw[Tr.get_set,yab rfl];rfl,fun j a hj=>?_⟩,h5.keep' fun b hb=>?_,h6⟩
   ·have:b≠bx:=fun e=>by simp_all
    rw[Tr.get_set,yaa this];exact h3 _ _ hb
   all_goals grind [Tr.get_set]
 ·refine⟨.tup [],t,HA,?_,ho,hQ _ h0⟩
  simp_all [pChk,Ha]
def fa77{b:Nat}:tC yA 98 1 (.ptr b 0)=some (.ptr b 1):=by kernel_rfl
theorem BX.write{Q:mB}(h:BX T ex tf t bx s)(hm:m≠[])(hlt:oB 256 m)(hl:s.length+m.length<400000)(hQ:∀v t',BX T ex tf t' bx (s++m)->Q v t'):Wc yA F 42 [.ptr bx 0,.str m] t Q:=by
 refine w42 ?_
 unfold t42 sC uZ;refine wB ?_
 rw[q87];refine h.check fun t' h'=>?_
 obtain⟨h1,h2,h3,ha,hM,p,tv,hp,h4,h5,h6⟩:=h'
 refine rA dG (rA fa77 (yC (h4.load1 (j:=1) mV rfl rfl) (eC fun n hn hbase=>?_)))
 have hbn:n≠bx:=by intro e;obtain⟨c,hh,_⟩:=h4;simp_all
 obtain⟨t1,g1,g2,g3,g4⟩:=QK el96 ⟨_,gL,rfl⟩ co5 h5 hm hl hn hbase h3
 refine⟨_,_,g1,rA dG (rA fa77 (eC fun n2 _ _=>?_))⟩
 have h4':lC t1 bx (some (.ty T)) (p::tv::ex):=h4.off (g4 bx hbn.symm h6.1)
 obtain⟨t2,e1,e2,e3⟩:=h4'.store1 (v:=.slice n 0 (s.length+m.length) (s.length+m.length)) h1 mV rfl rfl rfl (j:=1) (by simp)
 refine⟨_,_,e1 n2,hQ _ _ ⟨h1,h2,g3.off h2 e3,fun x hx=>?_,hM,p,_,hp,e2,g2.keep' fun b hb=>e3 b fun e=>?_,fun e=>?_,fun e=>absurd (List.append_eq_nil_iff.1 e).2 hm⟩⟩
 ·rcases yaf.1 hx with hx | hx
  ·exact ha x hx
  ·exact hlt x hx
 all_goals grind [Es]
def KH:∀ {l:List Nat},oB 256 l->pG Go.Am.byteOf (l.map fun(n:Nat)=>zA.int .u8 (n:Int))=some l
 | [],_=>rfl
 | x::l,h=>by
  have hx:Go.Am.byteOf (.int .u8 (x:Int))=some x:=by
   show tB (Nat.blt x 256) (some x)=_
   rw[qC.2 (h x (.head _))];rfl
  rw[ycm,lO,hx,pA,KH fun y hy=>h y (.tail _ hy)]
  rfl
theorem BX.string{Q:mB}(h:BX T ex tf t bx s)(hl:s.length<400000)(hQ:∀t',zB tf t'->Q (.str s) t'):Wc yA F 44 [.ptr bx 0] t Q:=by
 obtain⟨h1,h2,h3,ha,hM,p,tv,hp,⟨c,h4,h4'⟩,h5,h6⟩:=h
 have hg:yA.prims.get 44=some pStr:=by kernel_rfl
 rcases h5 with⟨rfl,h5⟩ | ⟨b,cl,d,rfl,k0,k1,k2,k3,k4⟩
 ·refine ED hg fun X HA ho=>?_
  have hk:qD HA bx=some (c,(p::zA.nilslice::ex).length,some (.ty T)):=by unfold qD;rw[ho.up h4];rfl
  have hc1:=h4' 1 _ rfl
  have hs:s=[]:=by grind [vG]
  subst hs;refine⟨.str [],t,HA,?_,ho,hQ _ h3⟩
  unfold pStr Gz;simp only[];rw[hk,pA,hc1,pA]
 have hs:s≠[]:=fun e=>by simp_all
 have hpos:0<s.length:=List.length_pos_iff.2 hs
 rw[vG,Nat.mul_one]at k2;rw[Fr]at k4;subst k4;have hbytes:∀j a,(s.map fun(n:Nat)=>zA.int .u8 (n:Int))[j]?=some a->d.get j=some a:=by
  intro j a hj;have hj':(cT .u8 s)[j]?=some [a]:=by
   grind [cT]
  have:=(k3 j _ hj').2 0 a rfl
  simp_all
 refine ED hg fun X HA ho=>?_
 have hk:qD HA bx=some (c,(p::zA.slice b 0 (bB .u8 s).length (bB .u8 s).length::ex).length,some (.ty T)):=by unfold qD;rw[ho.up h4];rfl
 have hk2:qD HA b=some (d,s.length,some (.ty 5)):=by unfold qD;rw[ho.up k2];rfl
 have hc1:=h4' 1 _ rfl
 refine⟨.str s,t.del b,⟨HA.next,HA.t.del b⟩,?_,ho.delBlk k2,hQ _ fun e u he=>?_⟩
 ·unfold pStr Gz
  simp only[];rw[hk,pA,hc1,pA];unfold Su;simp only[];rw[hk,pA,hc1,pA];simp only[zA.asSlice,pA,vG];rw[hk2,pA];simp only[];have hm:=zcr hbytes s.length 0 (by simp)
  rw[ycr,yca (by simp)]at hm
  rw[hm,pA,KH ha,pA];have e1:(!Nat.blt b (256+nC.n))=true:=by
   cases hq:Nat.blt b (256+nC.n)with
   | true=>
    have h3:=qC.1 hq
    have h1':256+nC.n<=b:=k0
    omega
   | false=>rfl
  rw[e1,gC.2 rfl,qC.2 hpos,aE.2 (ybk _),qC.2 (show s.length<1000000000 by omega),gC.2 rfl]
  rfl
 ·have:e≠b:=fun h=>by simp_all
  rw[Tr.get_del,yaa this];exact h3 _ _ he
end Go.Proofs
namespace Go.Proofs
open Go Go.Am
section
variable {n:Nat}{Q:mB}
variable [nC]
variable {t tf:Tr tA}{bx:Nat}{s m:List Nat}
def TX (tf t:Tr tA)(bx:Nat)(s:List Nat):Prop:=yA.base<=bx/\tf.get bx=none/\zB tf t/\∃tv,lC t bx none [tv]/\kG (.ty 5) yA.base tf t 1 (bB .u8 s) tv/\¬ uN tv bx
theorem TX.both(h:TX tf t bx s) (hn:t.get n=none)(y:tA):TX (tf.set n y) (t.set n y) bx s:=by
 obtain⟨h1,h2,h3,tv,h4,h5,h6⟩:=h
 have hbx:bx≠n:=by intro e;obtain⟨c,h,_⟩:=h4;simp_all
 refine⟨h1,by grind [Tr.get_set],GV hn h3,tv,h4.off (by rw[Tr.get_set,yaa hbx]),?_,h6⟩
 have hb:∀b,uN tv b->b≠n:=fun b hb e=>WK h5 hb (e ▸ hn)
 rcases h5 with⟨rfl,h5⟩ | ⟨b,cl,c,rfl,k0,k1,k2,k3,k4⟩
 ·exact .inl ⟨rfl,h5⟩
 ·have hbn:=hb b (Es.2 rfl)
  exact .inr ⟨b,cl,c,rfl,k0,by grind [Tr.get_set],by grind [Tr.get_set],k3,uD.mono (fun c u hc=>by
   grind [Kf,Tr.get_set]) _ _ k4⟩
theorem TX.out {y:tA}(hn:tf.get n=none)(h:TX (tf.set n y) t bx s):TX tf (t.del n) bx s:=by
 obtain⟨h1,h2,h3,tv,h4,h5,h6⟩:=h
 have hbx:bx≠n:=by grind [Tr.get_set]
 have hle:zB tf (tf.set n y):=(rP hn y).1
 rw[Tr.get_set,yaa hbx]at h2;refine⟨h1,h2,fun c u hc=>?_,tv,h4.off (by rw[Tr.get_del,yaa hbx]),?_,h6⟩
 ·have:c≠n:=fun e=>by simp_all
  rw[Tr.get_del,yaa this];exact h3 _ _ (hle _ _ hc)
 ·rcases h5 with⟨rfl,h5⟩ | ⟨b,cl,c,rfl,k0,k1,k2,k3,k4⟩
  ·exact .inl ⟨rfl,h5⟩
  ·have hbn:b≠n:=by grind [Tr.get_set]
   refine .inr ⟨b,cl,c,rfl,k0,by grind [Tr.get_set],by grind [Tr.get_del],k3,?_⟩
   grind [Fr]
theorem TX.load(h:TX tf t bx s):∃tv,cA yA 96 ⟨0,t⟩ (.ptr bx 0)=some tv/\lC t bx none [tv]/\kG (.ty 5) yA.base tf t 1 (bB .u8 s) tv/\¬ uN tv bx:=by
 obtain⟨h1,h2,h3,tv,h4,h5,h6⟩:=h
 exact⟨tv,h4.load1 mV rfl rfl,h4,h5,h6⟩
theorem TX.put{t1:Tr tA}{k:Nat}{tv:zA}(hb:yA.base<=bx)(hf:tf.get bx=none)(hc:lC t1 bx none [tv])(hl:kG (.ty 5) yA.base tf t1 1 (bB .u8 s) (.slice n 0 k k))(hle:zB tf t1)(hn:n≠bx) :
  ∃t2,(∀n',mC yA 96 (.ptr bx 0) (.slice n 0 k k) ⟨n',t1⟩=some (pD,⟨n',t2⟩))/\TX tf t2 bx s:=by
 obtain⟨t2,g1,g2,g3⟩:=hc.store1 (v:=.slice n 0 k k) hb mV rfl rfl rfl (j:=0) (by simp)
 refine⟨t2,g1,hb,hf,hle.off hf g3,_,g2,hl.keep' fun b hb'=>g3 b fun e=>?_,fun e=>?_⟩
 all_goals grind [Es]
theorem TX.add(h:TX tf t bx s)(hm:m≠[])(hl:s.length+m.length<400000):∃tv,cA yA 96 ⟨0,t⟩ (.ptr bx 0)=some tv/\∀n,t.get n=none->yA.base<=n →
  ∃w t1 t2,sH yA 96 9 tv (.str m) ⟨n,t⟩=some (w,⟨n+1,t1⟩)/\(∀n',mC yA 96 (.ptr bx 0) w ⟨n',t1⟩=some (pD,⟨n',t2⟩))/\TX tf t2 bx (s++m):=by
 obtain⟨tv,h1,h2,h3,h4⟩:=h.load
 refine⟨tv,h1,fun n hn hbase=>?_⟩
 have hbn:n≠bx:=by intro e;obtain⟨c,hh,_⟩:=h2;simp_all
 obtain⟨t1,g1,g2,g3,g4⟩:=QK el27 ⟨_,gL,rfl⟩ co5 h3 hm hl hn hbase h.2.2.1
 obtain⟨t2,g5,g6⟩:=TX.put h.1 h.2.1 (h2.off (g4 bx hbn.symm h4)) g2 g3 hbn
 grind
theorem TX.byte(h:TX tf t bx s)(x:Nat)(hl:s.length+1<400000):∃tv,cA yA 96 ⟨0,t⟩ (.ptr bx 0)=some tv/\∀n,t.get n=none->yA.base<=n →
  ∃H1,tE yA 96 1 [(0,.int .u8 (x:Int))] ⟨n,t⟩=some (.slice n 0 1 1,H1)/\∀n2,H1.t.get n2=none->yA.base<=n2 →
   ∃w t1 t2,sH yA 96 96 tv (.slice n 0 1 1) ⟨n2,H1.t⟩=some (w,⟨n2+1,t1⟩)/\(∀n',mC yA 96 (.ptr bx 0) w ⟨n',t1⟩=some (pD,⟨n',t2⟩))/\TX tf t2 bx (s++[x]):=by
 obtain⟨tv,h1,h2,h3,h4⟩:=h.load
 refine⟨tv,h1,fun n hn hbase=>?_⟩
 obtain⟨H1,c1,c2,c3⟩:=AV (k:=.u8) mV rfl ty5 rfl rfl x trivial hn
 refine⟨H1,c1,fun n2 hn2 hbase2=>?_⟩
 have hcel:lC H1.t bx none [tv]:=h2.off (by
  obtain⟨c,hh,_⟩:=h2
  rw[c3 _ _ hh,hh])
 have hbn:n2≠bx:=by intro e;obtain⟨c,hh,_⟩:=hcel;simp_all
 have h3':kG (.ty 5) yA.base tf H1.t 1 (bB .u8 s) tv:=h3.keep' fun b hb=>by
  obtain⟨_,_,y,hy⟩:=h3.none hb
  rw[c3 _ _ hy,hy]
 obtain⟨t1,g1,g2,g3,g4⟩:=QN el27 co5 h3' (c2.all (cap:=1) (ybk _)) (by simp) (by omega) hn2 hbase2 (h.2.2.1.trans c3)
 simp only[List.length_singleton]at g1 g2;obtain⟨t2,g5,g6⟩:=TX.put h.1 h.2.1 (hcel.off (g4 bx hbn.symm h4)) g2 g3 hbn
 grind
theorem zhn {c:Nat}(hm:m≠[])(hc:c<100)(hml:m.length<100):∀(k i:Nat) (s:List Nat) (t:Tr tA),i+k=c->s.length+k+m.length<400000->TX tf t bx s->(∀t',TX tf t' bx (s++(List.replicate k 48++m))->Q (.bool true) t') →
  jp 183 10 [.ptr bx 0,.str m,.int .i64 (c:Int),.int .i64 (i:Int)] t Q:=by
 intro k;induction k with
 | zero=>
  intro i s t hi hl h hQ;refine zdp ?_
  simp only[kC,uZ,uY,Yd,oA,bE];rw[yaa (by omega)]
  obtain⟨tv,g1,g2⟩:=h.add hm (by omega)
  grind [uA]
 | succ k ih=>
  intro i s t hi hl h hQ;refine zdp ?_
  simp only[kC,uZ,uY,Yd,oA,bE];rw[yab (by omega)]
  obtain⟨tv,g1,g2⟩:=h.byte 48 (by omega)
  rw[g1,uA];intro n hn hbase;obtain⟨H1,g3,g4⟩:=g2 n hn hbase
  rw[show((48:Nat):Int)=48 from rfl]at g3
  rw[g3,uA];intro n2 hn2 hbase2;obtain⟨w,t1,t2,g5,g6,g7⟩:=g4 n2 hn2 hbase2
  simp only[];rw[g5,uA];intro n3 _ _;rw[g6,uA];rw[wrap_i64 (by omega) (by omega),show(i:Int)+1=((i+1:Nat):Int) by omega]
  refine ih (i+1) (s++[48]) t2 (by omega) (by grind) g7 fun t' h'=>hQ t' ?_
  grind
def znl{u:Nat}(h:u<18446744073709551616):kB yA F 238 [.int .u64 (u:Int),.int .i64 10] t=some (.str (kF u)):=by
 have hg:yA.prims.get 238=some (bL Nz):=by kernel_rfl
 refine Gw hg fun H=>?_
 show tB (gE 0 (u:Int)&&fB (u:Int) 18446744073709551616&&lB 10 10) (some (zA.str (xM (u:Int))))=_
 rw[Tt,kI.2 (by omega),bE.2 (by omega)]
 rfl
def Qq(s:List Nat)(x:Nat):List Nat:=if s=[]\/s=[45]then s++kF x else s++bS 9 x
theorem zqt {x:Nat}(h:TX tf t bx s)(hx:x<1000000000)(hs:s.length<300000)(hlt:oB 256 s)(hQ:∀t',TX tf t' bx (Qq s x)->Q (.bool true) t'):jp 183 6 [.ptr bx 0,.int .u32 (x:Int)] t Q:=by
 have hd:=Uu x
 have hd9:(kF x).length<=9:=Qc (by decide) (by omega)
 have hne:kF x≠[]:=fun e=>by simp_all
 have hpad:s≠[]->s≠[45]->jp 183 10 [.ptr bx 0,.str (kF x),.int .i64 (fA .i64 (9-Int.ofNat (yB (kF x)))),.int .i64 0] t Q:=by
  intro h1 h2;have e:fA .i64 (9-Int.ofNat (yB (kF x)))=((9-(kF x).length:Nat):Int):=by
   grind [kD,wrap_i64]
  rw[e];refine zhn hne (by omega) (by omega) _ 0 s t (ybw _) (by omega) h fun t' h'=>hQ t' ?_
  grind [Qq,zok]
 have hadd:s=[]\/s=[45]->∃tv,cA yA 96 ⟨0,t⟩ (.ptr bx 0)=some tv/\∀b,t.get b=none->yA.base<=b->oD (sH yA 96 9 tv (.str (kF x)) ⟨b,t⟩) fun p=>∀b,p.2.t.get b=none->yA.base<=b->oD (mC yA 96 (.ptr bx 0) p.1 ⟨b,p.2.t⟩) fun p=>Q (.bool true) p.2.t:=by
  intro hs';obtain⟨tv,g1,g2⟩:=h.add hne (by omega)
  grind [uA,Qq]
 obtain⟨tv,l1,l2,l3,l4⟩:=h.load
 refine j183_6 ?_
 simp only[uQ15,uI,uU,uS,uZ,uW,zk1,oA,q238];rw[fF (by omega) (by omega),znl (by omega),uA]
 simp only[zA.asStr,uA,l1,l3.len,aB,vG,bE,kJ];by_cases h1:1<s.length
 ·rw[yab (by omega)]
  exact hpad (by grind) (by grind)
 ·rw[yaa (by omega)]
  by_cases h2:s.length=1
  ·rw[yab (by omega)]
   obtain⟨y,rfl⟩:=List.length_eq_one_iff.1 h2
   have hr:=l3.read (by rfl) h.2.2.1
   obtain⟨b,off,k1,k2⟩:=hr.idx sl96 (i:=0) (x:=y) rfl
   grind [uA,aB,Bv]
  grind [List.length_eq_zero_iff]
end
section
variable {p:Nat->Bool}{r s:List Nat}{b:Nat}{m:List bC}
theorem zbr   : ∀b∈jE p s,p b=true:=by
 intro b hb;unfold jE at hb;induction s with
 | nil=>cases hb
 | cons x s ih=>
  grind [List.takeWhile_cons]
def zbq   : ∃r,s=jE p s++r/\∀b r',r=b::r'->p b=false:=by
 refine⟨s.dropWhile p,(List.takeWhile_append_dropWhile).symm,fun b r' h=>?_⟩
 grind [List.head?_dropWhile_not]
theorem sX {a:List Nat}(h:∀b∈a,p b=true)(hr:∀b r',r=b::r'->p b=false):jE p (a++r)=a:=by
 unfold jE;induction a with
 | nil=>
  cases r with
  | nil=>rfl
  | cons b r'=>simp_all
 | cons x a ih=>
  rw[List.cons_append,List.takeWhile_cons,h x yby,yab rfl,ih fun b hb=>h b (ybr _ hb)]
theorem Qa (h:nD b=true):decide (b≠47)=true:=by
 grind [nD]
def get_at(f q:List Nat):(f++q)[f.length]?=q.head?:=by
 rw[ybp (ybk _),Nat.sub_self]
 cases q<;>rfl
def zau(f q:List Nat):(f++q).take f.length=f:=by simp
theorem Us(f q:List Nat)(b:Nat):(f++b::q).drop (f.length+1)=q:=by
 simp_all
theorem zop   (he:s=b::r)(hd:nD b=true)(h:lK s=false):Bf (s.take (xG s))/\0<(s.take (xG s)).length:=by
 unfold lK at h;simp only[yal,decide_eq_false_iff_not]at h;obtain⟨⟨⟨⟨h1,h2⟩,h3⟩,h4⟩,h5⟩:=h
 have hf:bD s≠[]:=by
  grind [bD,jE,List.takeWhile_cons]
 obtain⟨q,hq1,hq2⟩:=zbq (p:=nD) (s:=s)
 have hq1:s=bD s++q:=hq1
 have hall:∀x∈bD s,nD x=true:=zbr
 have hpos:0<(bD s).length:=List.length_pos_iff.2 hf
 have hgd:s[(bD s).length]?=q.head?:=by
  have:=get_at (bD s) q
  rwa [<- hq1]at this
 by_cases hs:wG s=[]
 ·have hl:xG s=(bD s).length:=yab hs
  have ht:s.take (xG s)=bD s:=by rw[hl];have:=zau (bD s) q;rwa [<- hq1]at this
  rw[ht];have hc:cN (bD s)=bD s:=by
   have:=sX (p:=fun b=>decide (b≠47)) (a:=bD s) (r:=[]) (fun b hb=>Qa (hall b hb)) (fun _ _ e=>by cases e)
   rwa [ycd]at this
  refine⟨⟨by omega,by grind,by grind,by grind,fun hh=>?_⟩,hpos⟩
  grind [gK,Qa]
 ·have hl:xG s=(bD s).length+1+(wG s).length:=yaa hs
  have hsl:s[(bD s).length]?=some 47:=by
   cases Decidable.em (s[(bD s).length]?=some 47)with
   | inl h=>exact h
   | inr h=>exact absurd (yaa h) hs
  rw[hgd]at hsl;obtain⟨u,rfl⟩:∃u,q=47::u:=by
   cases q with
   | nil=>cases hsl
   | cons x u=>grind
  have hsec:wG s=jE nD u:=by
   unfold wG;rw[yab (by grind)]
   congr 1
   have:=Us (bD s) u 47
   rwa [<- hq1]at this
  obtain⟨w,hw1,_⟩:=zbq (p:=nD) (s:=u)
  rw[<- hsec]at hw1;have hall2:∀x∈wG s,nD x=true:=by grind [zbr]
  have ht:s.take (xG s)=bD s++47::wG s:=by
   have e:s=(bD s++47::wG s)++w:=by grind
   rw[hl];have:=zau (bD s++47::wG s) w
   rw[<- e]at this;rw[ybg,ybn,show(bD s).length+((wG s).length+1)=(bD s).length+1+(wG s).length from by omega]at this
   exact this
  rw[ht];have hc:cN (bD s++47::wG s)=bD s:=sX (fun b hb=>Qa (hall b hb)) (fun b r' e=>by grind)
  have hcb:jP (bD s++47::wG s)=wG s:=by
   grind [jP,Us]
  refine⟨⟨?_,by grind,by grind,by grind,fun _=>?_⟩,by grind⟩
  all_goals grind
theorem Wu {k:Nat}{w:List Nat}(h:uF s=.tok k w):0<w.length/\(k=2->Bf w)/\(k=3->Ve w)/\k≠5:=by
 unfold uF at h;split at h
 ·cases h
 ·rename_i b r
  split at h
  ·grind [jE,List.takeWhile_cons,iK]
  ·split at h
   ·rename_i hb
    simp only[ybb]at hb;split at h
    ·cases h
    ·rename_i hd
     cases h;have hl:10<=(b::r).length:=by
      grind [cI]
     have hlt:((b::r).take 10).length=10:=by simp_all
     refine⟨by omega,fun e=>by omega,fun _=>⟨hlt,?_,?_⟩,by omega⟩
     ·grind [cI]
     ·have hd:oQ (b::r)=false:=by simp_all
      unfold oQ at hd;simp only[yal,decide_eq_false_iff_not]at hd
      cases hx:wV ((b::r).take 10)with
      | none=>simp_all
      | some n=>simp_all
   grind [zop]
theorem bad_ne {e:Nat}(h:uF s=.bad e):e≠0:=by
 unfold uF at h;grind
theorem CZ(p:Nat × Nat):Ao (endT p):=⟨fun e=>(by cases e),fun e=>(by cases e)⟩
def ze3{t:bC}{r:LR} (h:r.cons t=.ok m):∃m',r=.ok m'/\m=t::m':=by
 cases r with
 | ok l=>cases h;simp_all
 | er _ _ _=>cases h
theorem PF{op:Option (Nat × Nat)}{r:LR} (h:LR.close op r=.ok m):∃m',r=.ok m'/\m.length<=m'.length+1/\∀x∈m,x∈m'\/Ao x:=by
 cases op with
 | none=>exact⟨m,h,by omega,fun x hx=>.inl hx⟩
 | some p=>
  obtain⟨m',h1,rfl⟩:=ze3 h
  grind [CZ]
def zh6:∀(k:Nat) (s:List Nat) (ln cl:Nat) (op:Option (Nat × Nat)) (m:List bC),xN k s ln cl op=.ok m->m.length<=s.length+1/\∀x∈m,Ao x:=by
 intro k;induction k with
 | zero=>intro s ln cl op m h;cases h;simp_all
 | succ k ih=>
  intro s ln cl op m h;unfold xN at h;split at h
  ·omega
  ·grind [PF]
  ·rename_i b r heq
   cases heq;split at h
   ·grind [PF]
   ·split at h
    ·grind
    ·split at h
     ·grind
     ·split at h
      ·cases h
      ·rename_i kd w ht
       obtain⟨m',h1,rfl⟩:=ze3 h
       obtain⟨g1,g2⟩:=ih _ _ _ _ _ h1
       obtain⟨f1,f2,f3,_⟩:=Wu ht
       rw[ydj]at g1;refine⟨by grind,fun x hx=>?_⟩
       rcases ybs.1 hx with rfl | hx
       ·exact⟨f2,f3⟩
       simp_all
def zo2:∀(k:Nat) (s:List Nat) (ln cl:Nat) (op:Option (Nat × Nat)) (e a b:Nat),xN k s ln cl op=.er e a b->e≠0:=by
 have hcons:∀(t:bC) (r:LR) (e a b:Nat),r.cons t=.er e a b->r=.er e a b:=by
  intro t r e a b h
  cases r with
  | ok l=>cases h
  | er _ _ _=>cases h;rfl
 have hclose:∀(op:Option (Nat × Nat)) (r:LR) (e a b:Nat),LR.close op r=.er e a b->r=.er e a b:=by
  intro op r e a b h
  cases op with
  | none=>exact h
  | some p=>exact hcons _ _ _ _ _ h
 intro k;induction k with
 | zero=>intro s ln cl op e a b h;cases h
 | succ k ih=>
  intro s ln cl op e a b h;unfold xN at h;grind [bad_ne]
end
section
variable {n:Nat}
theorem zqe(n:Nat):∀s:List Nat,s.foldl (fun n b=>n*10+(b-48)) n=n*10^s.length+wE s:=by
 intro s;induction s generalizing n with
 | nil=>simp[wE]
 | cons b s ih=>
  show s.foldl _ (n*10+(b-48))=_+s.foldl _ (0*10+(b-48))
  grind
theorem DF(a b:List Nat):wE (a++b)=wE a*10^b.length+wE b:=by
 grind [wE,zqe]
theorem Uz(a:List Nat)(x:Nat):wE (a++[x])=wE a*10+(x-48):=by
 grind [wE]
theorem Ld:∀ {s:List Nat},(∀b∈s,nD b=true)->wE s<10^s.length:=by
 intro s;induction s with
 | nil=>grind [wE]
 | cons b s ih=>
  intro h;have h1:=h b (by simp)
  have h2:=ih fun c hc=>h c (by simp[hc])
  have:wE (b::s)=(b-48)*10^s.length+wE s:=by
   have:=DF [b] s
   grind [wE]
  rw[this,ybn,yag];unfold nD at h1;simp only[ybb,decide_eq_true_eq]at h1;have:(b-48)*10^s.length<=9*10^s.length:=ybi _ (by omega)
  omega
def zjk{s:List Nat}(hd:∀b∈s,nD b=true)(h0:s≠[])(hp:s.head?≠some 48):0<wE s:=by
 cases s with
 | nil=>simp_all
 | cons b s=>
  have h1:=hd b (by simp)
  unfold nD at h1;simp only[ybb,decide_eq_true_eq]at h1;have:wE (b::s)=(b-48)*10^s.length+wE s:=by
   have:=DF [b] s
   grind [wE]
  rw[this];have hb:b≠48:=fun e=>hp (by simp[e])
  have:1*10^s.length<=(b-48)*10^s.length:=ybi _ (by omega)
  grind
theorem Dk(n:Nat):val 65536 (rC n)=n:=by
 induction n using Nat.strongRecOn with
 | ind n ih=>
  grind [rC,val]
def jY(n:Nat):oB 65536 (rC n):=by
 induction n using Nat.strongRecOn with
 | ind n ih=>
  unfold rC;split
  ·intro x hx;cases hx
  ·intro x hx
   rcases ybs.1 hx with rfl | hx
   ·omega
   ·exact ih _ (by omega) x hx
def Oh(n:Nat):norm (rC n):=by
 induction n using Nat.strongRecOn with
 | ind n ih=>
  unfold rC;split
  ·intro h;grind
  ·intro h
   have h2:=ih (n / 65536) (by omega)
   by_cases h3:rC (n / 65536)=[]
   ·simp only[h3,List.getLast_singleton]
    have h4:=Dk (n / 65536)
    rw[h3]at h4;have:n / 65536=0:=h4.symm
    omega
   ·rw[List.getLast_cons h3]
    exact h2 h3
def Pc{l:List Nat} (h1:oB 65536 l)(h2:norm l)(h3:val 65536 l=n):l=rC n:=
 JQ (B:=65536) (by omega) h1 (jY n) h2 (Oh n) (by rw[Dk,h3])
theorem Hj  : rC n=[] ↔ n=0:=by
 grind [rC]
def zdl{k:Nat}(h:n<65536^k):(rC n).length<=k:=by
 induction k generalizing n with
 | zero=>
  grind [Hj]
 | succ k ih=>
  grind [rC]
end
section
variable {ds es s:List Nat}{n:Nat}
section
variable {k ln cl:Nat}{op:Option (Nat × Nat)}{r:List Nat}
theorem Lb{b:Nat}(h:nD b=true):b≠10/\b≠32/\b≠9/\b≠35/\b≠45/\b≠47/\vN b=false:=by
 grind [nD,vN]
theorem JO {i:Nat}(hi:i<10)(h:wK i (s.getD i 0)=false):cI s=false:=by
 grind [cI]
theorem zor (h:∀b∈s,b≠45):cI s=false:=by
 refine JO (i:=4) (by omega) ?_
 grind [wK]
theorem MP (h0:ds≠[])(h:∀b∈ds,nD b=true):∃x r',ds=x::r'/\nD x=true:=by
 cases ds with
 | nil=>simp_all
 | cons x r'=>simp_all
theorem WS (h0:ds≠[])(hd:∀b∈ds,nD b=true)(h0':es≠[])(hd':∀b∈es,nD b=true)(hr:∀b r',r=b::r'->nD b=false) :
  bD (ds++47::(es++r))=ds/\wG (ds++47::(es++r))=es/\xG (ds++47::(es++r))=(ds++47::es).length:=by
 have hf:bD (ds++47::(es++r))=ds:=sX hd fun b r2 e=>by cases e;rfl
 have hs:wG (ds++47::(es++r))=es:=by
  grind [wG,Us,sX]
 grind [xG]
end
def vJ (n:Nat):List Nat:=if n<10 then [48+n]else vJ (n / 10)++[48+n%10]
decreasing_by omega
theorem OR:∀(k n:Nat),n<10^(k+1)->(vJ n).length<=k+1
 | 0,n,h=>by grind [vJ]
 | k+1,n,h=>by
  rw[vJ];split
  ·simp
  ·have:=OR k (n / 10) (by omega)
   simp_all
theorem Vd(n:Nat):vJ n≠[]:=by rw[vJ];split<;>simp
theorem zmq (h:n<10):nD (48+n)=true:=by grind [nD]
theorem DH:∀(k n:Nat),n<=k->(∀b∈vJ n,nD b=true)/\(0<n->(vJ n).head?≠some 48)/\wE (vJ n)=n:=by
 intro k;induction k with
 | zero=>
  intro n h;have:n=0:=by omega
  subst this;rw[vJ,yab (by omega)]
  exact⟨fun b hb=>by rw[ydd]at hb;subst hb;rfl,fun h=>by omega,rfl⟩
 | succ k ih=>
  intro n h;rw[vJ];split
  ·rename_i hn
   refine⟨fun b hb=>by grind [zmq],fun h e=>?_,?_⟩
   ·simp_all
   ·show 0*10+(48+n-48)=n
    omega
  grind [zmq,vJ,Uz]
theorem Ia(n:Nat):∀b∈vJ n,nD b=true:=(DH n n (ybk _)).1
theorem Vc(n:Nat):wE (vJ n)=n:=(DH n n (ybk _)).2.2
theorem DG(n:Nat):oO (vJ n)=false:=by
 unfold oO;by_cases h:n=0
 ·grind [vJ]
 ·rw[decide_eq_false (p:=(vJ n).head?=some 48) ((DH n n (ybk _)).2.1 (by omega)),yay]
theorem zew  : vJ n=[48] ↔ n=0:=by
 constructor
 ·intro h
  have:=Vc n
  rw[h]at this;exact this.symm
 grind [vJ]
theorem OQ(n:Nat):gK (vJ n)=false:=by
 unfold gK
 cases hx:(vJ n).contains 47 with
 | false=>rfl
 | true=>have:=(Lb (Ia n 47 (by simp_all))).2.2.2.2.2.1;omega
theorem zjq (hd:∀b∈ds,nD b=true):cN (ds++47::es)=ds/\jP (ds++47::es)=es/\gK (ds++47::es)=true:=by
 grind [cN,sX,Qa,jP,Us,gK]
end
section
structure FM where
 style:Nat
 word:List Nat
 named:Bool
 least:Nat
 most:Nat
 level:Nat
 left:Nat
 right:Nat
def atF (w:List Nat):FM:=⟨3,w,true,1,1,7,7,7⟩
def bT(w:List Nat)(n:Bool)(a b:Nat):FM:=⟨6,w,n,a,b,7,1,1⟩
def sZ(w:List Nat)(a b c:Nat):FM:=⟨4,w,false,2,2,a,b,c⟩
def Ht:List FM:=[⟨0,[],false,0,0,0,0,0⟩,⟨1,[],false,0,0,7,0,0⟩,⟨2,[116,111,100,97,121],false,0,0,7,0,0⟩,atF [102,97,99,116,32],atF [104,97,115,32],atF [],bT [108,111,111,107] true 1 2,sZ [43] 5 5 6,sZ [45] 5 5 6,sZ [42] 6 6 7,sZ [47] 6 6 7,
 bT [109,105,110] false 2 2,bT [109,97,120] false 2 2,sZ [60] 4 5 5,sZ [61] 4 5 5,sZ [97,110,100] 2 2 3,sZ [111,114] 1 1 2,⟨5,[110,111,116,32],false,1,1,3,3,3⟩,bT [105,102] false 3 3,bT [114,111,117,110,100] false 2 2,bT [98,101,116,119,101,101,110] false 2 2,
 bT [115,101,114,118,105,99,101] true 2 2,bT [98,101,115,116] true 3 3,bT [103,114,111,119] true 2 2,bT [109,111,110,116,104,115] false 1 1,bT [110,117,109,98,101,114] false 1 1,bT [115,116,97,114,116] false 1 1]
def bA(op:Nat):FM:=Ht.getD op ⟨0,[],false,0,0,0,0,0⟩
def nR (a b:List Nat):Bool:=decide (b.length<=a.length)&&qF (a.take b.length) b
def nK(s:List Nat):List Nat:=if nR s [45]then [109,105,110,117,115,32]++s.drop 1 else s
def Dh(neg:Bool)(l:List Nat):List Nat:=Hl neg (val 65536 l)
def qL(f:zF):List Nat:=Dh f.n.neg f.n.limbs++(if cU f.d then []else 47::Dh f.d.neg f.d.limbs)
def Dd(f:zF):Bool := !f.n.neg && !f.d.neg&&decide (f.n.limbs.length+f.d.limbs.length=0)
def tZ(f:zF):Bool:=decide (f.n.limbs.length<=42)&&decide (f.d.limbs.length<=42)&&bM f&&decide ((if nR (qL f) [45]then(qL f).drop 1 else qL f).length<=200)
def xH(v:eD):Bool:=
 if v.kind=2\/v.kind=3 then decide (v.i=0)&&tZ v.f
 else if v.kind=1 then Dd v.f&&(decide (v.i=0)||decide (v.i=1))
 else if v.kind=4 then Dd v.f&&(decide (0<=v.i)&&decide (v.i<65536))
 else if v.kind=5\/v.kind=6 then Dd v.f&&(decide (-1048576<=v.i)&&decide (v.i<=1048576))
 else false
def jU:Nat->Nat->Nat
 | 0,_=>0
 | k+1,n=>if yG (k+1)<=n then k+1 else jU k n
def d1 (n:Nat):Nat:=48+n%10
def De (y m d:Nat):List Nat:=[d1 (y / 1000),d1 (y / 100),d1 (y / 10),d1 y,45,d1 (m / 10),d1 m,45,d1 (d / 10),d1 d]
def fM(n:Nat):List Nat:=De (1900+jU 2153 n / 12) (jU 2153 n%12+1) (n-yG (jU 2153 n)+1)
def Mq(date:List Nat)(v:eD):List Nat:=
 if v.kind=1 then(if v.i=1 then [116,114,117,101]else [102,97,108,115,101])
 else if v.kind=2 then nK (qL v.f)
 else if v.kind=3 then [109,111,110,101,121,32]++nK (qL v.f)
 else if v.kind=4 then date
 else if v.kind=5 then nK (xM v.i)++[32,100,97,121,115]
 else if v.kind=6 then nK (xM v.i)++[32,109,111,110,116,104,115]
 else []
def sU (v:eD):List Nat:=Mq (fM v.i.toNat) v
def Fx(v:eD):Bool:=decide (v.kind=0)&&decide (v.i=0)&&Dd v.f
def Eu(op:Nat)(name:List Nat)(n:Nat):Bool:=
 decide (op<27) && !decide ((bA op).style=0)&&decide ((bA op).least<=n)&&decide (n<=(bA op).most)&&(if (bA op).named=true then mO name else qF name [])
def bR(op:Nat)(v:eD):Bool:=if op=19 then decide (1<=v.i)&&decide (v.i<=6)&&Fx { v with i:=0 } else Fx v
mutual
/-- is an expression printable at a depth? -/
def vI:lA->Nat->Bool
 | .mk op name v args,d=>decide (d<=24)&&Eu op name args.length&&(if op=1 then xH v else bR op v&&Cw args (d+1))
def Cw:List lA->Nat->Bool
 | [],_=>true
 | x::l,d=>vI x d&&Cw l d
end
theorem Vt:∀ {l:List lA} {d:Nat},Cw l d=l.all fun x=>vI x d
 | [],d=>by rw[Cw];rfl
 | x::l,d=>by rw[Cw,Vt];rfl
def oZ:List (List Nat):=[[],[100,111,119,110],[117,112],[102,108,111,111,114],[99,101,105,108],[104,97,108,102],[101,118,101,110]]
def jK(n:Nat):List Nat:=if n<7 then oZ.getD n []else []
def qR (lev:Nat)(p:Nat × List Nat):List Nat:=if lev<=p.1 then p.2 else [40]++p.2++[41]
def oT:Bool->List (Nat × List Nat)->List Nat
 | _,[]=>[]
 | b,p::l=>(if b then []else [44,32])++p.2++oT false l
def Ap(op:Nat)(i:Int):List Nat:=(if op=19 then [44,32]++jK i.toNat else [])++[41]
def rQ(op:Nat)(name:List Nat)(v:eD)(l:List (Nat × List Nat)):List Nat:=
 if (bA op).style=1 then sU v else if (bA op).style=2 then(bA op).word
 else if (bA op).style=3 then(bA op).word++name++[32,97,116,32]++qR (bA op).left (l.getD 0 (0,[]))
 else if (bA op).style=4 then qR (bA op).left (l.getD 0 (0,[]))++([32]++(bA op).word++[32]++qR (bA op).right (l.getD 1 (0,[])))
 else if (bA op).style=5 then(bA op).word++qR (bA op).left (l.getD 0 (0,[]))
 else(bA op).word++[40]++((if (bA op).named then name++[44,32]else [])++(oT true l++Ap op v.i))
mutual
def eL:lA->List Nat
 | .mk op name v args=>rQ op name v (pI args)
def pI:List lA->List (Nat × List Nat)
 | []=>[]
 | y::l=>((bA y.op).level,eL y)::pI l
end
theorem Jh:∀l:List lA,pI l=l.map fun y=>((bA y.op).level,eL y)
 | []=>by rw[pI];rfl
 | y::l=>by rw[pI,Jh l];rfl
end
section
variable {l sg:List Nat}
variable [nC]
variable {t tf:Tr tA}{bx:Nat}{s m:List Nat}
theorem ZX (hsg:sg=[]\/sg=[45]){x:Nat}  : Qq (sg++xL l) x=sg++xL (x::l):=by
 unfold Qq
 cases l with
 | nil=>
  grind [xL]
 | cons p l=>
  have hne:xL (p::l)≠[]:=by
   cases l with
   | nil=>grind [Uu,xL]
   | cons q l=>
    grind [xL,List.length_append,Zx]
  rw[yaa,xL,ybz];rintro(h | h)
  ·simp_all
  ·rcases hsg with rfl | rfl
   ·rw[yah]at h
    have:=Wx (p::l) 45 (by simp_all)
    omega
   simp_all
theorem FJ:∀(l:List Nat),(∀x∈l,x<1000000000)->(xL l).length<=9*l.length
 | [],_=>by simp[xL]
 | [p],h=>by
  simp_all [Qc,xL]
 | p::q::l,h=>by
  have:=FJ (q::l) fun x hx=>h x (.tail _ hx)
  grind [xL,Zx]
theorem QS (hsg:sg=[]\/sg=[45]):oB 256 (sg++xL l):=by
 intro x hx;rcases yaf.1 hx with hx | hx
 ·grind
 ·have:=Wx _ x hx;omega
theorem TX.framed{bx:Nat}{s:List Nat}:Vz (fun tf t=>TX tf t bx s) where
 le:=fun h=>h.2.2.1
 both:=fun h hn y=>h.both hn y
 out:=fun hn h=>TX.out hn h
theorem zkh{Q:mB}{t0:Tr tA}{ps:List Nat}{v4:zA} (hsg:sg=[]\/sg=[45])(h0:zB t0 tf)(hp:aA tf 1 (bB .u32 ps) v4)(hlt:oB 1000000000 ps)(hl:ps.length<30000)(h:TX tf t bx sg)
  (hQ:∀t',zB t0 t'->Q (.tup [.str (sg++xL ps),.int .i64 0]) t'):jp 183 29 [.str [],.int .i64 0,v4,.ptr bx 0] t Q:=by
 refine zpm ?_
 unfold za9 uS uZ;refine HY (S:=fun k tf t=>TX tf t bx (sg++xL (ps.drop k))) (fun k=>TX.framed) hp hl (by grind [xL]) ?_ ?_
 ·intro k x tf t' Q1 hx hI hQ1
  have hk:k<ps.length:=(ybc.1 hx).1
  have hxl:x<1000000000:=hlt x (ycv hx)
  have hdrop:ps.drop k=x::ps.drop (k+1):=by
   grind [List.drop_eq_getElem_cons]
  have hlen:(sg++xL (ps.drop (k+1))).length<300000:=by
   have:=FJ (ps.drop (k+1)) fun y hy=>hlt y (List.mem_of_mem_drop hy)
   grind
  grind [zqt,QS,ZX]
 ·intro tf' t' hle h3
  rw[ycr]at h3;obtain⟨tv,g1,_,g3,_⟩:=h3.load
  show oD (cA yA 96 ⟨0,t'⟩ (.ptr bx 0)) _
  rw[g1,uA];show oD (eP yA 96 9 ⟨0,t'⟩ tv) _
  rw[zjs mV gL rfl rfl rfl ty5 rfl (g3.read (by rfl) h3.2.2.1) (QS hsg),uA]
  exact hQ _ (h0.trans (hle.trans h3.2.2.1))
set_option exponentiation.threshold 2000 in
theorem zat{neg:Bool} {v:zA}(hv:aA t 1 (bB .u16 l) v)(hlt:oB 65536 l)(hval:rK neg l=true):kB yA F 183 [.agg [.bool neg,v]] t=some (.tup [.str (Dh neg l),.int .i64 0]):=by
 have hlen:l.length<=1024:=by
  grind [rK]
 refine iV (w183 ?_)
 simp only[uI,uB,uZ,t183,oA,q196];rw[Gg (by omega) hv,hval]
 simp only[zA.asBool,uA,Bool.not_true,ybq,if_false,hv.len,vG,aB,kJ];by_cases h0:l=[]
 ·grind [rK,Dh,Hl,val,Qb]
 ·have hpos:0<l.length:=List.length_pos_iff.2 h0
  rw[yaa (by omega),q235]
  refine Ny hv (by omega) hlt fun t1 v1 hle hv1=>?_
  have hlast:l.getLast?≠some 0:=by
   grind [rK]
  have hnorm:norm l:=fun hne e2=>hlast (by rw[List.getLast?_eq_some_getLast hne,e2])
  have hN:val 4294967296 (tG l)=val 65536 l:=Rl l
  have hvpos:0<val 65536 l:=by
   rcases yav (val 65536 l)with e | e
   ·exfalso
    exact h0 (Td (B:=65536) (by decide) hnorm e)
   ·exact e
  have hple:(tG l).length<=512:=by rw[dQ];omega
  have hbnd:val 4294967296 (tG l)<1000000000^1100:=by
   have g1:=vP (B:=4294967296) (by decide) (Io hlt)
   have g2:4294967296^(tG l).length<=4294967296^512:=yao (by decide) hple
   omega
  refine VB (t0:=t1) (N:=val 65536 l) (M:=1100) (by decide) ?_ 1100 (tG l) [] .nilslice v1 t1 t1 hbnd (by simp) (Ke hnorm) (Io hlt) (by omega) (fun x hx=>by cases hx) ?_ (by simp[val,hN]) (zB.refl _) (zB.refl _) KE hv1
  ·intro tf t' ps v4 v5 k1 k2 k3 k4 k5 k6 k7 k8 k9
   refine zl7 ?_
   simp only[uI,uL,uX,uZ,uY,Yc,oA,(k4.mono k2).len,uA,aB,vG,bE,ybx]
   rw[yaa (by simp)]
   obtain⟨tf',f1,f2,f3,f4⟩:=k3.freeze rfl k2
   have hpl:ps.length<30000:=by omega
   intro bx hbx hbase;obtain⟨t2,e1,e2,e3,e4⟩:=xS (C:=yA) mV hbx
   rw[e1,uA];have hTX:TX tf' t2 bx []:=⟨hbase,Kf f2 hbx,f2.trans e3,.nilslice,e2,KE,BY⟩
   have ht:zB t tf':=hle.trans (k1.trans f1)
   have htext:xL ps=kF (val 65536 l):=by rw[<- k8];exact(FK k6 k5 k7).1
   cases neg with
   | false=>
    simp only[ybq,if_false];refine zkh (.inl rfl) ht f3 k5 hpl hTX fun t' ht'=>⟨?_,ht'⟩
    rw[htext];rfl
   | true=>
    simp only[if_true];obtain⟨tv,g1,g2⟩:=hTX.byte 45 (by simp)
    rw[g1,uA];intro n hn hbn;obtain⟨H1,g3,g4⟩:=g2 n hn hbn
    rw[show((45:Nat):Int)=45 from rfl]at g3
    rw[g3,uA];intro n2 hn2 hbn2;obtain⟨w,t3,t4,g5,g6,g7⟩:=g4 n2 hn2 hbn2
    simp only[];rw[g5,uA];intro n3 _ _;rw[g6,uA];refine zkh (.inr rfl) ht f3 k5 hpl g7 fun t' ht'=>⟨?_,ht'⟩
    rw[htext];rfl
  grind [dQ]
end
section
variable {a b:List Nat}{n:Int}{u v:zA}{f:zF}
variable [nC]
variable {t:Tr tA}
theorem MR  : kB yA F 239 [.str a,.str b] t=some (.bool (nR a b)):=by
 refine iC.2 (w239 ?_)
 simp only[uS,wC,uZ,t239,oA,kX,kI];grind [nR,Dw,uA,zA.asStr]
theorem SO  : kB yA F 132 [.str a,.str b] t=some (.str (if nR a b then a.drop b.length else a)):=by
 have h:kB yA F 185 [.str a,.str b] t=some (.str (if nR a b then a.drop b.length else a)):=by
  refine iC.2 (w185 ?_)
  simp only[uB,uS,uZ,t185,oA,q239,MR,uA,zA.asBool,kX];grind [nR,Jn,uA,zA.asStr]
 refine iC.2 (w132 ?_)
 simp only[uS,t132,oA,q185,h,uA,zA.asStr];simp_all
theorem YD  : kB yA F 186 [.str a,.str b] t=some (.tup [.str (if nR a b then a.drop b.length else a),.bool (nR a b)]):=by
 have h:kB yA F 240 [.str a,.str b] t=some (.tup [.str (if nR a b then a.drop b.length else a),.bool (nR a b)]):=by
  refine iC.2 (w240 ?_)
  simp only[uB,uS,uZ,t240,oA,q239,MR,uA,zA.asBool,kX];grind [nR,Jn,uA,zA.asStr]
 refine iC.2 (w186 ?_)
 have x0:∀u v,aI 0 (.tup [u,v])=some u:=fun _ _=>rfl
 have x1:∀u v,aI 1 (.tup [u,v])=some v:=fun _ _=>rfl
 simp only[uB,uS,uX,t186,oA,q240,h,uA,x0,x1,zA.asStr,zA.asBool];simp_all
theorem GO{s:List Nat}(h:s.length<4000000000000000000):kB yA F 134 [.str s] t=some (.str (nK s)):=by
 refine iC.2 (w134 ?_)
 have x0:∀u v,aI 0 (.tup [u,v])=some u:=fun _ _=>rfl
 have x1:∀u v,aI 1 (.tup [u,v])=some v:=fun _ _=>rfl
 simp only[uB,uS,uX,t134,oA,q186,YD,uA,x0,x1,zA.asStr,zA.asBool];grind [nK,gS,uA]
def zpq (h0 : -9223372036854775808<=n)(h1:n<9223372036854775808):kB yA F 137 [.int .i64 n] t=some (.str (xM n)):=by
 have hg:yA.prims.get 137=some (bL Kb):=by kernel_rfl
 refine Gw hg fun H=>?_
 unfold Kb;simp only[];rw[kI.2 h0,bE.2 h1];rfl
theorem BQ (h0 : -9223372036854775808<=n)(h1:n<9223372036854775808):(xM n).length<=21:=by
 by_cases h:n<0
 ·obtain⟨u,rfl⟩:∃u:Nat,n = -(u:Int):=⟨n.natAbs,by omega⟩
  rw[BR (by omega)]
  have:=Qc (u:=u) (k:=20) (by decide) (by omega)
  grind
 ·obtain⟨u,rfl⟩:∃u:Nat,n=(u:Int):=⟨n.toNat,by omega⟩
  rw[Tt];have:=Qc (u:=u) (k:=20) (by decide) (by omega)
  omega
theorem MG (h0 : -9223372036854775808<=n)(h1:n<9223372036854775808):kB yA F 75 [.int .i64 n] t=some (.str (nK (xM n))):=by
 have:=BQ h0 h1
 refine iC.2 (w75 ?_)
 simp only[uS,uZ,t75,oA,q137,zpq h0 h1,uA,zA.asStr,q134,GO (s:=xM n) (by omega)]
 simp_all
def XW{u:Nat}:∀ {k:Nat},u<10^k->(kF u).length<=k+1:=by
 intro k h;have:=Qc (u:=u) (k:=k+1) (by omega) (by omega)
 exact this
theorem Rh{neg:Bool}{l:List Nat}(hlt:oB 65536 l)(hl:l.length<=1024):(Dh neg l).length<=10000:=by
 unfold Dh Hl;have h1:=vP (B:=65536) (by decide) hlt
 have h2:(65536:Nat)^l.length<=10^(5*l.length):=by
  simp_all [Nat.pow_mul,Nat.pow_le_pow_left]
 have:=XW (u:=val 65536 l) (k:=5*l.length) (by omega)
 grind
theorem ES (h:bM f=true):rK f.n.neg f.n.limbs=true/\rK f.d.neg f.d.limbs=true/\f.n.limbs.length<=1024/\f.d.limbs.length<=1024:=by
 grind [bM]
theorem CE (hf:f.fit)(h:bM f=true):(qL f).length<=20001:=by
 obtain⟨_,_,h3,h4⟩:=ES h
 have a:=Rh (neg:=f.n.neg) hf.2.1 h3
 have b:=Rh (neg:=f.d.neg) hf.2.2 h4
 grind [qL]
theorem MZ  (hu:aA t 1 (cC f.n.limbs) u)(hv:aA t 1 (cC f.d.limbs) v)(hf:zF.fit f):kB yA F 131 [.agg [.bool f.n.neg,u,.bool f.d.neg,v]] t=some (if bM f then .tup [.str (qL f),.int .i64 0]else .tup [.str [],.int .i64 2]):=by
 refine iC.2 (w131 ?_)
 have x0:∀u v,aI 0 (.tup [u,v])=some u:=fun _ _=>rfl
 have x1:∀u v,aI 1 (.tup [u,v])=some v:=fun _ _=>rfl
 simp only[uI,uB,uS,uX,uZ,t131,oA,q130,Wi hu hv hf,uA,zA.asBool]
 cases hval:bM f with
 | false=>simp
 | true=>
  obtain⟨h1,h2,h3,h4⟩:=ES hval
  have a:=Rh (neg:=f.n.neg) hf.2.1 h3
  have b:=Rh (neg:=f.d.neg) hf.2.2 h4
  have c1:kB yA F 184 [.agg [.bool f.n.neg,u,.bool f.d.neg,v]] t=some (.bool (cU f.d)):=by
   refine iC.2 (w184 ?_)
   simp only[uB,t184,oA,q233,BU hv,uA,zA.asBool];first | exact⟨rfl,rfl⟩ | exact⟨trivial,trivial⟩ | exact⟨rfl,trivial⟩
  simp only[Bool.not_true,ybq,if_false,q183,zat hu hf.2.1 h1,uA,x0,x1,zA.asStr,aB,if_true,q184,c1,zA.asBool];unfold qL
  cases hone:cU f.d with
  | true=>simp
  | false=>
   simp only[ycl,if_true,zat hv hf.2.2 h2,uA,x0,x1,zA.asStr,aB];grind [gS,uA]
theorem NA  (hu:aA t 1 (cC f.n.limbs) u)(hv:aA t 1 (cC f.d.limbs) v)(hf:zF.fit f)(hval:bM f=true):kB yA F 73 [.agg [.bool f.n.neg,u,.bool f.d.neg,v]] t=some (.str (nK (qL f))):=by
 have:=CE hf hval
 refine iC.2 (w73 ?_)
 have x0:∀u v,aI 0 (.tup [u,v])=some u:=fun _ _=>rfl
 have x1:∀u v,aI 1 (.tup [u,v])=some v:=fun _ _=>rfl
 simp only[uI,uS,uX,t73,oA,q131,MZ hu hv hf,hval,if_true,uA,x0,x1,zA.asStr,aB,q134,GO (s:=qL f) (by omega)]
 simp_all
theorem UU  (hu:aA t 1 (cC f.n.limbs) u)(hv:aA t 1 (cC f.d.limbs) v)(hf:zF.fit f):kB yA F 69 [.agg [.bool f.n.neg,u,.bool f.d.neg,v]] t=some (.bool (tZ f)):=by
 refine iC.2 (w69 ?_)
 have x0:∀u v,aI 0 (.tup [u,v])=some u:=fun _ _=>rfl
 have x1:∀u v,aI 1 (.tup [u,v])=some v:=fun _ _=>rfl
 simp only[uI,uB,uS,wC,uX,t69,oA,hu.len,hv.len,dR,uA,aB,bE];unfold tZ;by_cases h1:f.n.limbs.length<=42
 ·rw[yaa (by omega)]
  by_cases h2:f.d.limbs.length<=42
  ·rw[yaa (by omega)]
   simp only[q130,Wi hu hv hf,uA,zA.asBool]
   cases hval:bM f with
   | false=>simp
   | true=>
    simp only[Bool.not_true,ybq,if_false,q131,MZ hu hv hf,hval,if_true,uA,x0,x1,zA.asStr,aB,kJ,q132,SO,kX];simp[h1,h2,oR]
    constructor<;>intro h<;>omega
  grind
 grind
theorem EI  (hu:aA t 1 (cC f.n.limbs) u)(hv:aA t 1 (cC f.d.limbs) v)(hf:f.ok):kB yA F 70 [.agg [.bool f.n.neg,u,.bool f.d.neg,v]] t=some (.bool (Dd f)):=by
 unfold zF.ok fG at hf;refine iC.2 (w70 ?_)
 simp only[uI,wC,uW,t70,oA,hu.len,hv.len,dR,uA,aB];unfold Dd;rw[wrap_i64 (by omega) (by omega),fE]
 have e:decide ((f.n.limbs.length:Int)+(f.d.limbs.length:Int)=0)=decide (f.n.limbs.length+f.d.limbs.length=0):=by
  grind
 rw[e]
 cases f.n.neg<;>cases f.d.neg<;>simp
theorem zin  : kB yA F 71 [.int .i64 n] t=some (.bool (decide (0<=n)&&decide (n<65536))):=by
 refine iC.2 (w71 ?_)
 simp only[wC,t71,oA,kI];grind [aC]
theorem IH{a:eD} (hu:aA t 1 (cC a.f.n.limbs) u)(hv:aA t 1 (cC a.f.d.limbs) v)(hf:zF.fit a.f):kB yA F 34 [.agg [.int .u8 a.kind,.bool a.f.n.neg,u,.bool a.f.d.neg,v,.int .i64 a.i]] t=some (.bool (xH a)):=by
 refine iC.2 (w34 ?_)
 simp only[uQ14,uQ3,uB,wC,yI,uZ,t34,oA,q69,UU hu hv hf,q70,EI hu hv hf.1,q71,zin,uA,zA.asBool];unfold xH;have kk:∀j:Int,lB (a.kind:Int) j=decide ((a.kind:Int)=j):=fun j=>fE
 simp only[kk];by_cases k2:a.kind=2
 ·have e:(a.kind:Int)=2:=by omega
  by_cases h0:a.i=0<;>simp[e,k2,h0,fE]
 by_cases k3:a.kind=3
 all_goals grind [fE,oR]
end
section
variable [nC]
variable {t:Tr tA}
theorem Sb(s:List Nat):(nK s).length<=s.length+6:=by
 grind [nK]
theorem So{v:eD}(h:xH v=true)(hk:v.kind=2\/v.kind=3):bM v.f=true:=by
 grind [xH,tZ]
theorem ER{a:eD}{u v:zA}{date:List Nat}(hu:aA t 1 (cC a.f.n.limbs) u)(hv:aA t 1 (cC a.f.d.limbs) v)(hf:eD.fit a)(hp:xH a=true)(hd:a.kind=4->kB yA F 74 [.int .i64 a.i] t=some (.str date)):kB yA F 35 [.agg [.int .u8 a.kind,.bool a.f.n.neg,u,.bool a.f.d.neg,v,.int .i64 a.i]] t=some (.str (Mq date a)):=by
 obtain⟨_,hff,hi1,hi2⟩:=hf
 have hil:=BQ hi1 hi2
 have hsl:=Sb (xM a.i)
 have kk:∀j:Int,lB (a.kind:Int) j=decide ((a.kind:Int)=j):=fun j=>fE
 refine iC.2 (w35 ?_)
 simp only[uS,uZ,t35,oA,kk];unfold Mq;by_cases k1:a.kind=1
 ·have e:(a.kind:Int)=1:=by omega
  have hb:kB yA F 72 [.bool (lB a.i 1)] t=some (.str (if a.i=1 then [116,114,117,101]else [102,97,108,115,101])):=by
   refine iC.2 (w72 ?_)
   have h94:kB yA F 133 [.bool (lB a.i 1)] t=some (.str (if a.i=1 then [116,114,117,101]else [102,97,108,115,101])):=by
    refine iC.2 (w133 ?_)
    by_cases h:a.i=1<;>simp[t133,oA,fE,h]
   simp only[uS,t72,oA,q133,h94,uA,zA.asStr];simp_all
  simp[e,k1,q72,hb,zA.asStr]
 have e1:¬ (a.kind:Int)=1:=by omega
 by_cases k2:a.kind=2
 ·have e:(a.kind:Int)=2:=by omega
  simp[e,k2,q73,NA hu hv hff (So hp (.inl k2)),zA.asStr]
 have e2:¬ (a.kind:Int)=2:=by omega
 by_cases k3:a.kind=3
 ·have e:(a.kind:Int)=3:=by omega
  have hl:=CE hff (So hp (.inr k3))
  have hl2:=Sb (qL a.f)
  have:=gS (a:=[109,111,110,101,121,32]) (b:=nK (qL a.f)) (by grind)
  simp[e,k3,q73,NA hu hv hff (So hp (.inr k3)),zA.asStr,this]
 have e3:¬ (a.kind:Int)=3:=by omega
 by_cases k4:a.kind=4
 ·have e:(a.kind:Int)=4:=by omega
  simp[e,k4,q74,hd k4,zA.asStr]
 have e4:¬ (a.kind:Int)=4:=by omega
 by_cases k5:a.kind=5
 ·have e:(a.kind:Int)=5:=by omega
  have:=gS (a:=nK (xM a.i)) (b:=[32,100,97,121,115]) (by simp;omega)
  simp[e,k5,q75,MG hi1 hi2,zA.asStr,this]
 have e5:¬ (a.kind:Int)=5:=by omega
 by_cases k6:a.kind=6
 ·have e:(a.kind:Int)=6:=by omega
  have:=gS (a:=nK (xM a.i)) (b:=[32,109,111,110,116,104,115]) (by simp;omega)
  simp[e,k6,q75,MG hi1 hi2,zA.asStr,this]
 grind
end
section
variable {a b:Nat}{w:List Nat}{K:sI->T}{Q:mB}
variable [nC]
variable {t:Tr tA}
theorem RB{a:eD}{u v:zA}(hu:aA t 1 (cC a.f.n.limbs) u)(hv:aA t 1 (cC a.f.d.limbs) v)(hf:a.f.ok):kB yA F 61 [.agg [.int .u8 a.kind,.bool a.f.n.neg,u,.bool a.f.d.neg,v,.int .i64 a.i]] t=some (.bool (Fx a)):=by
 refine iC.2 (w61 ?_)
 simp only[uB,wC,t61,oA,kJ];unfold Fx;by_cases h1:a.kind=0
 ·rw[yab (by omega)]
  by_cases h2:a.i=0
  ·rw[yab h2,q70,EI hu hv hf,uA]
   grind [zA.asBool,uA]
  simp_all
 simp_all
def FM.cs(f:FM):List zA:=[.int .u8 f.style,.str f.word,.bool f.named,.int .i64 f.least,.int .i64 f.most,.int .i64 f.level,.int .i64 f.left,.int .i64 f.right]
def aU:List zA:=(Ht.map FM.cs).flatten
abbrev z8:List zA:=[.int .u8 0,.str [],.bool false,.int .i64 0,.int .i64 0,.int .i64 0,.int .i64 0,.int .i64 0]
def cv76 {n:Bool}   (h:wp 59 (K (cellsOf (bT w n a b).cs)) t Q):wp 59 (.callv (.func (.func 116) [] []) [.str w,.bool n,.int .i64 (a:Int),.int .i64 (b:Int)] fun a=>.asG z8 a K) t Q:=by
 have e:kB yA F 116 [.str w,.bool n,.int .i64 (a:Int),.int .i64 (b:Int)] t=some (.agg (bT w n a b).cs):=by
  refine iC.2 (w116 ?_)
  simp only[uZ,uY,t116,oA,if_true];constructor<;>trivial
 show oD (some (116,[zA.str w,.bool n,.int .i64 (a:Int),.int .i64 (b:Int)])) _
 rw[uA];simp only[];rw[q116,e,uA];exact h
def cv77   (h:wp 59 (K (cellsOf (atF w).cs)) t Q):wp 59 (.callv (.func (.func 117) [] []) [.str w] fun a=>.asG z8 a K) t Q:=by
 have e:kB yA F 117 [.str w] t=some (.agg (atF w).cs):=by
  refine iC.2 (w117 ?_)
  simp only[uZ,uY,t117,oA,if_true];constructor<;>trivial
 show oD (some (117,[zA.str w])) _
 rw[uA];simp only[];rw[q117,e,uA];exact h
def cv78 {c:Nat}  (h:wp 59 (K (cellsOf (sZ w a b c).cs)) t Q):wp 59 (.callv (.func (.func 118) [] []) [.str w,.int .i64 (a:Int),.int .i64 (b:Int),.int .i64 (c:Int)] fun a=>.asG z8 a K) t Q:=by
 have e:kB yA F 118 [.str w,.int .i64 (a:Int),.int .i64 (b:Int),.int .i64 (c:Int)] t=some (.agg (sZ w a b c).cs):=by
  refine iC.2 (w118 ?_)
  simp only[uZ,uY,t118,oA,if_true];constructor<;>trivial
 show oD (some (118,[zA.str w,.int .i64 (a:Int),.int .i64 (b:Int),.int .i64 (c:Int)])) _
 rw[uA];simp only[];rw[q118,e,uA];exact h
def JT (h:∀b t',t.get b=none->yA.base<=b->lC t' b none aU->zB t t'->wF b t t'->Q (.ptr b 0) t'):Wc yA F 59 [] t Q:=by
 refine w59 ?_
 unfold t59 uG uZ uY;repeat (first | refine cv76 ?_ | refine cv77 ?_ | refine cv78 ?_ | refine mA rfl ?_)
 intro b hb hbase;obtain⟨t',h1,h2,h3,h4⟩:=Hd hb aU none
 have e:∀l:List zA,l=aU->jL (.agg l) ⟨b,t⟩=some (.ptr b 0,⟨b+1,t'⟩):=by
  intro l hl;show some (zA.ptr b 0,rF ⟨b,t⟩ l none)=_
  rw[hl,h1]
 rw[e _ (by rfl),uA]
 exact h b t' hb hbase h2 h3 h4
def VU (h:∀b t',t.get b=none->yA.base<=b->lC t' b none aU->zB t t'->wF b t t'->Q (.agg [.ptr b 0]) t'):Wc yA F 26 [] t Q:=by
 refine w26 ?_
 unfold t26 jB;refine wB ?_
 rw[q59];refine JT fun b t' h1 h2 h3 h4 h5=>?_
 refine mA rfl (mA rfl ?_)
 exact h b t' h1 h2 h3 h4 h5
end
section
variable {a b:Int}
def yN (h:a≠b):lB a b≠true:=fun e=>h (kJ.1 e)
theorem mP (h:¬ a<b):fB a b≠true:=fun e=>h (bE.1 e)
theorem nLe (h:¬ a<=b):gE a b≠true:=fun e=>h (kI.1 e)
theorem yEq (h:a=b):lB a b=true:=kJ.2 h
theorem xP (h:a<b):fB a b=true:=bE.2 h
theorem yLe (h:a<=b):gE a b=true:=kI.2 h
end
section
variable [nC]
variable {t:Tr tA}
theorem NJ{f:FM->List zA}(hf:∀x,(f x).length=8):∀(l:List FM) (i k:Nat),i<l.length->k<8->(l.map f).flatten[i*8+k]?=(f (l.getD i ⟨0,[],false,0,0,0,0,0⟩))[k]?
 | [],i,k,h,_=>by simp at h
 | x::l,0,k,h,hk=>by
  grind
 | x::l,i+1,k,h,hk=>by
  rw[ycm,yas,ybp (by grind),hf,show(i+1)*8+k-8=i*8+k by omega]
  rw[NJ hf l i k (by grind) hk]
  simp
def Fa{op k:Nat}(h:op<27)(hk:k<8):aU[op*8+k]?=(bA op).cs[k]?:=NJ (f:=FM.cs) (fun _=>rfl) Ht op k h hk
theorem CA{b op:Nat}(h:op<27):uC yA 191 (.ptr b 0) (.int .u8 (op:Int))=some (.ptr b (op*8)):=by
 have hA:ob (yA.tys.get 191) (fun y=>y.desc.asArr)=some (27,131):=by kernel_rfl
 rw[sA]at hA;obtain⟨y,hy,hd⟩:=hA
 unfold uC;rw[hy,pA];have e:(zA.int .u8 (op:Int)).asNat=some op:=rfl
 grind [pA,zA.asSlice,zA.asPtr,ty131,qC,cD]
def jR{b o k:Nat}(hk:k<8):tC yA 131 k (.ptr b o)=some (.ptr b (o+k)):=by
 have h:Mv yA 131 k=some k:=by
  unfold Mv;rw[ty131,pA];simp only[vE.asStruct,pA];have:k=0\/k=1\/k=2\/k=3\/k=4\/k=5\/k=6\/k=7:=by omega
  rcases this with e | e | e | e | e | e | e | e<;>rw[e]<;>rfl
 unfold tC;rw[h];rfl
section
variable {b op:Nat}(hF:lC t b none aU)(h:op<27)
include hF h
def KS:cA yA 5 ⟨0,t⟩ (.ptr b (op*8+0))=some (.int .u8 (bA op).style):=hF.load1 ty5 rfl (by rw[Fa h (by decide)];rfl)
def zc8:cA yA 9 ⟨0,t⟩ (.ptr b (op*8+1))=some (.str (bA op).word):=hF.load1 gL rfl (by rw[Fa h (by decide)];rfl)
def KU:cA yA 4 ⟨0,t⟩ (.ptr b (op*8+2))=some (.bool (bA op).named):=hF.load1 ty4 rfl (by rw[Fa h (by decide)];rfl)
def zie:cA yA 3 ⟨0,t⟩ (.ptr b (op*8+3))=some (.int .i64 (bA op).least):=hF.load1 aJ rfl (by rw[Fa h (by decide)];rfl)
def zo8:cA yA 3 ⟨0,t⟩ (.ptr b (op*8+4))=some (.int .i64 (bA op).most):=hF.load1 aJ rfl (by rw[Fa h (by decide)];rfl)
def zid:cA yA 3 ⟨0,t⟩ (.ptr b (op*8+5))=some (.int .i64 (bA op).level):=hF.load1 aJ rfl (by rw[Fa h (by decide)];rfl)
def BE:cA yA 3 ⟨0,t⟩ (.ptr b (op*8+6))=some (.int .i64 (bA op).left):=hF.load1 aJ rfl (by rw[Fa h (by decide)];rfl)
def zic:cA yA 3 ⟨0,t⟩ (.ptr b (op*8+7))=some (.int .i64 (bA op).right):=hF.load1 aJ rfl (by rw[Fa h (by decide)];rfl)
end
def zki(p0_0:zA)(p1_0:Int)(p1_1:List Nat)(p1_2:Int)(p1_3:Bool)(p1_4:zA)(p1_5:Bool)(p1_6:zA)(p1_7:Int)(p1_8:zA)(p2:Int):T:=
 .ite (sD zA.one [(.int .u8 p1_2),(.bool p1_3),p1_4,(.bool p1_5),p1_6,(.int .i64 p1_7)]) (.ite (lB p1_0 1)
 (.call 34 [(.agg [(.int .u8 p1_2),(.bool p1_3),p1_4,(.bool p1_5),p1_6,(.int .i64 p1_7)])] fun a28=>
 .asB a28 fun b29=>.ret (.bool b29))
 (.ite (lB p1_0 19)
 (.ite (fB p1_7 1)
 (.ret (.bool false))
 (.ite (fB 6 p1_7)
 (.ret (.bool false))
 (.ite true (.jump 33 [(.int .i64 p2),p0_0,(.int .u8 p1_0),(.str p1_1),(.int .u8 p1_2),(.bool p1_3),p1_4,(.bool p1_5),p1_6,(.int .i64 p1_7),p1_8,(.int .u8 p1_2),(.bool p1_3),p1_4,(.bool p1_5),p1_6,(.int .i64 0)]) .fail)))
 (.jump 33 [(.int .i64 p2),p0_0,(.int .u8 p1_0),(.str p1_1),(.int .u8 p1_2),(.bool p1_3),p1_4,(.bool p1_5),p1_6,(.int .i64 p1_7),p1_8,(.int .u8 p1_2),(.bool p1_3),p1_4,(.bool p1_5),p1_6,(.int .i64 p1_7)]))) .fail
section
variable {op:Nat}{name:List Nat}{v:eD}{a b c:zA}{bf d:Nat}
theorem PD{v2:Int}{v':eD}{R:Bool}{n:Nat}{c3:zA}(ha:aA t 1 (cC v'.f.n.limbs) a)(hb:aA t 1 (cC v'.f.d.limbs) b)(hf:v'.f.ok)(hc:pC c=some (.int .i64 (n:Int)))
  (hargs:jp 27 4 [.int .i64 v2,c,.int .i64 (n:Int),.int .i64 0,c3] t (fun x t'=>x=.bool R/\t'=t)) (p3:Bool) (p5:Bool) (p2 p7:Int) (p4 p6:zA) :
  jp 27 33 [.int .i64 v2,c3,.int .u8 (op:Int),.str name,.int .u8 p2,.bool p3,p4,.bool p5,p6,.int .i64 p7,c,.int .u8 v'.kind,.bool v'.f.n.neg,a,.bool v'.f.d.neg,b,.int .i64 v'.i] t (fun x t'=>x=.bool (Fx v'&&R)/\t'=t):=by
 refine j27_33 ?_
 simp only[uI,uB,wC,uZ,uY,zkw,oA,q61,RB ha hb hf,uA,zA.asBool];grind [uA,aB]
theorem zgl{n:Nat}{R:Bool}(ha:aA t 1 (cC v.f.n.limbs) a)(hb:aA t 1 (cC v.f.d.limbs) b)(hf:zF.fit v.f)(hc:pC c=some (.int .i64 (n:Int)))
  (hargs:jp 27 4 [.int .i64 (d:Int),c,.int .i64 (n:Int),.int .i64 0,.ptr bf 0] t (fun x t'=>x=.bool R/\t'=t)) :
  wp 27 (zki (.ptr bf 0) (op:Int) name (v.kind:Int) v.f.n.neg a v.f.d.neg b v.i c (d:Int)) t (fun x t'=>x=.bool (if op=1 then xH v else bR op v&&R)/\t'=t):=by
 unfold zki;refine mA ?_ ?_
 ·rw[mI];simp only[ycg,yck,ha.one,hb.one];rfl
 by_cases h1:op=1
 ·refine mA (yEq (by omega)) ?_
  simp only[oA,q34,IH ha hb hf,uA,zA.asBool,yab h1];constructor<;>trivial
 ·refine vB (yN (by omega)) ?_
  simp only[yaa h1];unfold bR;by_cases h2:op=19
  ·refine mA (yEq (by omega)) ?_
   simp only[yab h2];by_cases h3:1<=v.i
   ·refine vB (mP (by omega)) ?_
    by_cases h4:v.i<=6
    ·refine vB (mP (by omega)) (mA rfl ?_)
     have:=PD (op:=op) (name:=name) (v':={ v with i:=0 }) ha hb hf.1 hc hargs v.f.n.neg v.f.d.neg v.kind v.i a b
     simp only[decide_eq_true h3,decide_eq_true h4,ycn];exact this
    grind [xP,oA]
   grind [xP,oA]
  ·refine vB (yN (by omega)) ?_
   simp only[yaa h2];exact PD (op:=op) (name:=name) (v':=v) ha hb hf.1 hc hargs v.f.n.neg v.f.d.neg v.kind v.i a b
theorem ziw{n:Nat}{R:Bool}(hF:lC t bf none aU)(hop:op<256)(hn:n<fG)(hnl:name.length<fG)(ha:aA t 1 (cC v.f.n.limbs) a)(hb:aA t 1 (cC v.f.d.limbs) b)(hf:zF.fit v.f)(hc:pC c=some (.int .i64 (n:Int)))
  (hargs:d<=24->jp 27 4 [.int .i64 (d:Int),c,.int .i64 (n:Int),.int .i64 0,.ptr bf 0] t (fun x t'=>x=.bool R/\t'=t)) :
  kB yA F 27 [.agg [.ptr bf 0],.agg [.int .u8 op,.str name,.int .u8 v.kind,.bool v.f.n.neg,a,.bool v.f.d.neg,b,.int .i64 v.i,c],.int .i64 (d:Int)] t=some (.bool (decide (d<=24)&&Eu op name n&&(if op=1 then xH v else bR op v&&R))):=by
 refine iC.2 (w27 ?_)
 unfold t27 Eu uQ1 uI uU uB jB wC sC uZ uY uW;by_cases hd:d<=24
 case neg=>
  grind [xP,oA]
 refine vB (mP (by omega)) ?_
 have htail:=zgl (op:=op) (name:=name) (d:=d) (bf:=bf) ha hb hf hc (hargs hd)
 by_cases h27:op<27
 case neg=>
  grind [wrap_i64,yLe,oA]
 refine vB (by grind [wrap_i64,nLe]) ?_
 refine rA dG (rA (CA h27) (rA dG (rA (jR (by decide)) (yC (KS hF h27) (qB ?_)))))
 by_cases hs:(bA op).style=0
 ·grind [yEq,oA]
 refine vB (yN (by omega)) ?_
 refine rA hc (qB (rA dG (rA (jR (by decide)) (yC (zie hF h27) (qB ?_)))))
 by_cases hl:(bA op).least<=n
 case neg=>
  grind [xP,oA]
 refine vB (mP (by omega)) ?_
 refine rA hc (qB (rA dG (rA (jR (by decide)) (yC (zo8 hF h27) (qB ?_)))))
 by_cases hm:n<=(bA op).most
 case neg=>
  grind [xP,oA]
 refine vB (mP (by omega)) ?_
 have hld:=KU hF h27
 refine rA dG (rA (jR (by decide)) (yC hld (iD ?_)))
 simp only[decide_eq_true hd,decide_eq_true h27,decide_eq_false hs,decide_eq_true hl,decide_eq_true hm,ycn,ycl]
 cases hnm:(bA op).named with
 | true=>
  rw[hnm]at hld;simp only[if_true];refine mA rfl (wB ?_)
  rw[q60,zcn,uA];refine iD ?_
  cases hN:mO name with
  | false=>
   grind [oA]
  | true=>
   refine vB (by simp) (rA dG (rA (jR (by decide)) (yC hld (iD (vB (by simp) ?_)))))
   simp only[ycn];exact htail
 | false=>
  rw[hnm]at hld;simp only[ybq,if_false];refine vB (by simp) (rA dG (rA (jR (by decide)) (yC hld (iD (mA rfl ?_)))))
  cases hN:qF name []with
  | false=>
   grind [oA]
  | true=>
   refine vB (by simp) ?_
   simp only[ycn];exact htail
end
mutual
theorem NZ{bf:Nat}(hF:lC t bf none aU):∀(x:lA) (d:Nat) (cs:List zA),x.fit->d<1000->RD t x.d cs->kB yA F 27 [.agg [.ptr bf 0],.agg cs,.int .i64 (d:Int)] t=some (.bool (vI x d))
 | .mk op name v args,d,cs,hx,hd,h=>by
  obtain⟨a,b,c,rfl,ha,hb,hc⟩:=nI h
  simp only[lA.op,lA.name,lA.v,lA.args]at ha hb hc ⊢
  have hx':=hx
  unfold lA.fit at hx';unfold vI;refine ziw hF hx'.1 (n:=args.length) hx'.2.2.2.2.1 hx'.2.1 ha hb hx'.2.2.2.1.2.1 (by rw[hc.len,ybf]) fun hd'=>?_
  have:=QI hF args args d c 0 hc rfl hx'.2.2.2.2.2 hx'.2.2.2.2.1 hd'
  exact this
theorem QI{bf:Nat}(hF:lC t bf none aU):∀(l args:List lA) (d:Nat) (c:zA) (i:Nat),aA t 9 (args.map lA.d) c->args.drop i=l->lA.fits l->args.length<fG->d<=24 →
  jp 27 4 [.int .i64 (d:Int),c,.int .i64 (args.length:Int),.int .i64 (i:Int),.ptr bf 0] t (fun x t'=>x=.bool (Cw l (d+1))/\t'=t)
 | [],args,d,c,i,hc,hl,hok,hsz,hd=>by
  have:=OL hl
  refine j27_4 ?_
  unfold zn4 uB uG jB kC wC yI uZ lF nE;grind [mP,Cw,oA]
 | x::l,args,d,c,i,hc,hl,hok,hsz,hd=>by
  obtain⟨h1,h2,h3⟩:=OM hl
  unfold fG at hsz;have hok':=hok
  unfold lA.fits at hok';refine j27_4 ?_
  obtain⟨pb,po,cs,g1,g2,g3,g4,g5⟩:=gI.at sl29 (by simp) hc (i:=i) (d:=x.d) (by simp[h1])
  unfold zn4 uB uG jB kC wC yI uZ lF nE;refine mA (xP (by omega)) (rA g1 (yC g2 ?_))
  rw[Mt];refine dC (iW g5 x.zs) ?_
  have hmk:=g5.mk x.zs
  have hcs:[zA.int .u8 ((cellsOf cs).i 0),.str ((cellsOf cs).s 1),.int .u8 ((cellsOf cs).i 2),.bool ((cellsOf cs).b 3),(cellsOf cs).v 4,.bool ((cellsOf cs).b 5),(cellsOf cs).v 6,.int .i64 ((cellsOf cs).i 7),(cellsOf cs).v 8]=cs:=hmk
  rw[hcs];refine mA g5.all (wB ?_)
  rw[wrap_i64 (by omega) (by omega),show(d:Int)+1=((d+1:Nat):Int) by omega,q27,NZ hF x (d+1) cs hok'.1 (by omega) g5,uA]
  refine iD ?_
  unfold Cw
  cases hE:vI x (d+1)with
  | false=>
   grind [oA]
  | true=>
   refine vB (by simp) (fC ?_)
   rw[wrap_i64 (by omega) (by omega),show(i:Int)+1=((i+1:Nat):Int) by omega]
   have:=QI hF l args d c (i+1) hc h2 hok'.2 hsz hd
   simp_all
end
end
section
variable [nC]
def Wr (s T s':List Nat):Prop:=s'=s++T\/(65536<s.length+T.length/\65536<s'.length)
theorem Wr.one(s T:List Nat):Wr s T (s++T):=.inl rfl
def Wr.big{s:List Nat}(T:List Nat)(h:65536<s.length):Wr s T s:=.inr ⟨by omega,h⟩
def Wr.trans{s T s1 U s2:List Nat}(h:Wr s T s1)(k:Wr s1 U s2):Wr s (T++U) s2:=by
 rcases h with rfl | ⟨h1,h2⟩
 ·rcases k with rfl | ⟨k1,k2⟩
  ·exact .inl (by simp)
  ·exact .inr ⟨by simp at k1 ⊢;omega,k2⟩
 ·rcases k with rfl | ⟨k1,k2⟩
  ·exact .inr ⟨by simp;omega,by simp;omega⟩
  ·exact .inr ⟨by simp;omega,k2⟩
def Wr.eq{s T T' s':List Nat}(h:Wr s T s')(e:T=T'):Wr s T' s':=e ▸ h
def zil{l:List (Nat × List Nat)}{i:Nat}(h:i<l.length):oT (decide (i=0)) (l.drop i)=(if i=0 then []else [44,32])++l[i].2++oT (decide (i+1=0)) (l.drop (i+1)):=by
 rw[ybl h,oT];by_cases h0:i=0<;>simp[h0]
end
section
variable {b from_ i k:Nat}{d:Int}{l:List Nat}
variable [nC]
variable {t:Tr tA}
def Hi:List Int:=[31,28,31,30,31,30,31,31,30,31,30,31]
def nN(t:Tr tA):Prop:=At t 3 0 (Hi.map fun n=>zA.int .i64 n)
theorem nN.mono{t':Tr tA}(h:nN t)(k:zB t t'):nN t':=At.mono k h
def SQ(x:Int) (hk:0<k) : -(k:Int)<Int.tmod x k/\Int.tmod x k<k:=by
 have h:=Int.natAbs_tmod x k
 have h2:=ycy x.natAbs (show 0<(k:Int).natAbs by omega)
 omega
def zib(y:Int):Bool:=decide (Int.tmod y 4=0)&&(!decide (Int.tmod y 100=0)||decide (Int.tmod y 400=0))
def lenD (y m:Int):Int:=if m<1 then 0 else if 12<m then 0 else if m=2/\zib y=true then 29 else Hi.getD (m-1).toNat 0
def BD(y:Int):Int:=fA .i64 ((fA .i64 ((fA .i64 (Int.tdiv y 4))-(fA .i64 (Int.tdiv y 100))))+(fA .i64 (Int.tdiv y 400)))
def Rz(v0 v3:Int):Nat->Int->Int->Int
 | 0,_,v4=>v4
 | k+1,v5,v4=>if v5<=Int.tmod v0 12 then Rz v0 v3 k (v5+1) (fA .i64 (v4+lenD v3 v5))else v4
def vZ(m:Int):Int:=Rz m (fA .i64 (1900+(fA .i64 (Int.tdiv m 12)))) 11 1 (fA .i64 ((fA .i64 ((fA .i64 (365*(fA .i64 ((fA .i64 (1900+(fA .i64 (Int.tdiv m 12))))-1900))))+BD (fA .i64 ((fA .i64 (1900+(fA .i64 (Int.tdiv m 12))))-1))))-BD 1899))
def Dx(P:Int->Bool):Nat->Nat->Nat->Int
 | 0,i,_=>(i:Int)
 | k+1,i,j=>if i<j then(if P (((i+j) / 2:Nat):Int)=true then Dx P k i ((i+j) / 2)else Dx P k ((i+j) / 2+1) j)else(i:Int)
theorem zia(y:Int):kB yA F 271 [.int .i64 y] t=some (.bool (zib y)):=by
 refine iC.2 (w271 ?_)
 unfold t271 zib wC yI;grind [oA,fE]
theorem len_at(hG:nN t){m:Int}(h1:1<=m)(h2:m<=12):∃b o,uC yA 304 (.ptr 3 0) (.int .i64 (fA .i64 (m-1)))=some (.ptr b o)/\cA yA 3 ⟨0,t⟩ (.ptr b o)=some (.int .i64 (Hi.getD (m-1).toNat 0)):=by
 obtain⟨k,rfl⟩:∃k:Nat,m=(k:Int)+1:=⟨(m-1).toNat,by omega⟩
 have hk:k<12:=by omega
 have e0:((k:Int)+1-1).toNat=k:=by omega
 rw[wrap_i64 (by omega) (by omega),e0,show(k:Int)+1-1=(k:Int) by omega]
 have hx:(Hi.map fun n=>zA.int .i64 n)[k]?=some (.int .i64 (Hi.getD k 0)):=by
  have:k<Hi.length:=hk
  simp_all
 refine⟨3,0+k,?_,hG.load1 aJ rfl hx⟩
 unfold uC;rw[ty304,pA];have e:(zA.int .i64 (k:Int)).asNat=some k:=rfl
 rw[e,pA];grind [zA.asSlice,zA.asPtr,pA,vE.asArr,aJ,qC,cD]
def VZ(hG:nN t)(y m:Int):kB yA F 244 [.int .i64 y,.int .i64 m] t=some (.int .i64 (lenD y m)):=by
 refine iC.2 (w244 ?_)
 unfold t244 lenD uQ16 uI uB uZ uW;by_cases h1:m<1
 ·rw[yab h1];exact mA (xP h1) ⟨rfl,rfl⟩
 rw[yaa h1];refine vB (mP h1) ?_
 by_cases h2:12<m
 ·rw[yab h2];exact mA (xP h2) ⟨rfl,rfl⟩
 rw[yaa h2];refine vB (mP h2) ?_
 obtain⟨b,o,g1,g2⟩:=len_at hG (m:=m) (by omega) (by omega)
 by_cases h3:m=2
 ·refine mA (yEq h3) (wB ?_)
  rw[q271,zia,uA];refine iD ?_
  cases hl:zib y with
  | true=>rw[yab ⟨h3,rfl⟩];exact mA rfl ⟨rfl,rfl⟩
  | false=>rw[yaa (by simp)];exact vB (by simp) (rA g1 (yC g2 (qB ⟨rfl,rfl⟩)))
 ·rw[yaa (by simp[h3])]
  exact vB (yN h3) (rA g1 (yC g2 (qB ⟨rfl,rfl⟩)))
theorem TJ(hG:nN t)(v0 v3:Int):∀(k:Nat) (v5 v4:Int),v5+k=12->1<=v5->jp 189 2 [.int .i64 v0,.int .i64 v3,.int .i64 v4,.int .i64 v5] t (fun v t'=>v=.int .i64 (Rz v0 v3 k v5 v4)/\t'=t):=by
 have hb:=SQ v0 (k:=12) (by omega)
 rw[show((12:Nat):Int)=12 from rfl]at hb
 intro k;induction k with
 | zero=>
  intro v5 v4 h1 h2;exact Pg (vB (nLe (by omega)) ⟨rfl,rfl⟩)
 | succ k ih=>
  intro v5 v4 h1 h2;unfold Rz;by_cases h3:v5<=Int.tmod v0 12
  ·rw[yab h3]
   refine Pg (mA (yLe h3) (wB ?_))
   rw[q244,VZ hG,uA];refine qB (fC ?_)
   grind [wrap_i64]
  ·rw[yaa h3]
   exact Pg (vB (nLe h3) ⟨rfl,rfl⟩)
def KR(y:Int):kB yA F 243 [.int .i64 y] t=some (.int .i64 (BD y)):=iC.2 (w243 ⟨rfl,rfl⟩)
def GI(hG:nN t)(m:Int):kB yA F 189 [.int .i64 m] t=some (.int .i64 (vZ m)):=by
 refine iC.2 (w189 (wB ?_))
 rw[q243,KR,uA];refine qB (wB ?_)
 rw[q243,KR,uA];exact qB (fC (TJ hG m _ 11 1 _ (by omega) (by omega)))
theorem UA{v1:zA}{P:Int->Bool}(hcall:∀n:Int,∀(R:mB),R (.bool (P n)) t->oD (mL v1 [.int .i64 n]) fun p=>Wq yA F jC p.1 p.2 t R) :
  ∀(k i j:Nat),j-i<=k->j<=100000->jp 241 2 [v1,.int .i64 (i:Int),.int .i64 (j:Int)] t (fun v t'=>v=.int .i64 (Dx P k i j)/\t'=t):=by
 intro k;induction k with
 | zero=>
  intro i j h1 h2;exact BP (vB (mP (by omega)) ⟨rfl,rfl⟩)
 | succ k ih=>
  intro i j h1 h2;unfold Dx;by_cases h3:i<j
  ·have e1:fA .i64 (Int.fdiv (fA .u64 (fA .i64 ((i:Int)+(j:Int)))) 2)=(((i+j) / 2:Nat):Int):=by
    grind [wrap_i64,fF]
   rw[yab h3];refine BP (mA (xP (by omega)) ?_)
   show oD _ _
   unfold uZ uW;rw[e1];refine hcall _ _ (iD ?_)
   cases hP:P (((i+j) / 2:Nat):Int)with
   | false=>
    rw[yaa (by simp)]
    refine mA rfl (fC ?_)
    rw[wrap_i64 (by omega) (by omega),show(((i+j) / 2:Nat):Int)+1=(((i+j) / 2+1:Nat):Int) by omega]
    exact ih _ _ (by omega) h2
   | true=>
    rw[yab rfl];exact vB (by simp) (fC (ih _ _ (by omega) (by omega)))
  ·rw[yaa h3]
   exact BP (vB (mP (by omega)) ⟨rfl,rfl⟩)
def yT(d:Int):Int:=Dx (fun n=>fB d (vZ (fA .i64 (n+1)))) 2154 0 2154
def VY(hG:nN t)(d:Int):kB yA F 188 [.int .i64 d] t=some (.int .i64 (yT d)):=by
 refine iV (w188 ?_)
 unfold t188 uI uZ;refine eC fun b hb hbase=>?_
 obtain⟨t',e,hc,hle,_⟩:=Hd hb [.int .i64 d] none
 refine⟨.ptr b 0,⟨b+1,t'⟩,by show some (zA.ptr b 0,rF ⟨b,t⟩ [.int .i64 d] none)=_;rw[e],wB ?_⟩
 have hld:cA yA 3 ⟨0,t'⟩ (.ptr b 0)=some (.int .i64 d):=hc.load1 (j:=0) aJ rfl rfl
 have:kB yA F 241 [.int .i64 2154,.func (.func 242) [] [.ptr b 0]] t'=some (.int .i64 (yT d)):=by
  refine iC.2 (w241 (fC ?_))
  refine UA (fun n R hR=>?_) 2154 0 2154 (by omega) (by omega)
  show oD (some (242,[zA.int .i64 n,.ptr b 0])) _
  rw[uA];simp only[];have:kB yA F 242 [zA.int .i64 n,.ptr b 0] t'=some (.bool (fB d (vZ (fA .i64 (n+1))))):=by
   refine iC.2 (w242 (yC hld (qB (wB ?_))))
   unfold kC;rw[q189,GI (hG.mono hle),uA]
   exact qB (yC hld (mA Jp ⟨rfl,rfl⟩))
  rw[q242,this,uA];exact hR
 rw[q241];exact Wc_pv this (qB ⟨rfl,hle⟩)
def ymdD (d:Int):zA:=.tup [.int .i64 (fA .i64 (1900+(fA .i64 (Int.tdiv (yT d) 12)))),.int .i64 (fA .i64 ((Int.tmod (yT d) 12)+1)),.int .i64 (fA .i64 ((fA .i64 (d-vZ (yT d)))+1)),.int .i64 0]
def ymd_ok(hG:nN t) (h0:0<=d)(h1:d<65536):kB yA F 135 [.int .i64 d] t=some (ymdD d):=by
 have hd:kB yA F 187 [.int .i64 d] t=some (.bool true):=by
  refine iC.2 (w187 (mA (yLe h0) ?_))
  rw[xP h1];exact⟨rfl,rfl⟩
 refine iC.2 (w135 (wB ?_))
 rw[q187,hd,uA];refine iD (vB (by simp) (wB ?_))
 rw[q188,VY hG,uA];refine qB (wB ?_)
 rw[q189,GI hG,uA];exact qB ⟨rfl,rfl⟩
def cB (l:List Nat):List zA:=l.map fun(n:Nat)=>zA.int .u8 (n:Int)
theorem ten (h:l.length=10):∃a b c d e f g h i j,l=[a,b,c,d,e,f,g,h,i,j]:=by
 match l,h with
 | [a,b,c,d,e,f,g,h,i,j],_=>simp_all
theorem Lj  : (cB l).length=l.length:=by simp[cB]
def cB_set {x:Nat}:(cB l).set i (.int .u8 (x:Int))=cB (l.set i x):=by simp[cB,List.map_set]
theorem idx164 (h:i<10):uC yA 209 (.ptr b 0) (.int .i64 (i:Int))=some (.ptr b i):=by
 unfold uC;rw[Na,pA];have e:(zA.int .i64 (i:Int)).asNat=some i:=rfl
 rw[e,pA];grind [zA.asSlice,zA.asPtr,pA,vE.asArr,ty5,qC,cD]
def Vj  (h:lC t b none (cB l))(hl:l.length=10):cA yA 209 ⟨0,t⟩ (.ptr b 0)=some (.agg (cB l)):=by
 have:=h.at.load (C:=yA) (ty:=209) Na rfl (n:=10) rfl (j:=0) (by rw[Lj];omega)
 rw[ybw]at this;rw[this];congr 2
 rw[ycr,yca (by rw[Lj];omega)]
theorem PQ {m:List Nat}(h:lC t b none (cB l))(hb:yA.base<=b)(hl:l.length=10)(hm:m.length=10):∃t',(∀n,mC yA 209 (.ptr b 0) (.agg (cB m)) ⟨n,t⟩=some (pD,⟨n,t'⟩))/\lC t' b none (cB m)/\wF b t t':=by
 obtain⟨t',h1,h2,h3⟩:=h.store (C:=yA) hb (T:=209) (v:=.agg (cB m)) (j:=0) Na (by show(cB m).length=10;rw[Lj,hm]) (by show 0+(cB m).length<=_;grind [Lj]) (by
  show sD zA.one (cB m)=true
  rw[mI,ycb];intro a ha;unfold cB at ha;obtain⟨n,_,rfl⟩:=yaq.1 ha
  rfl)
 refine⟨t',h1,?_,h3⟩
 have e:oM (cB l) 0 (zA.agg (cB m)).cells=cB m:=by
  show oM (cB l) 0 (cB m)=cB m
  unfold oM;rw[List.take_zero,yah,ybt (by grind [Lj]),ycd]
 simp_all
abbrev z10:List zA:=[.int .u8 0,.int .u8 0,.int .u8 0,.int .u8 0,.int .u8 0,.int .u8 0,.int .u8 0,.int .u8 0,.int .u8 0,.int .u8 0]
def Qm (hl:l.length=10):eK z10 (.agg (cB l))=some (cellsOf (cB l)):=by
 obtain⟨a,b,c,d,e,f,g,h,i,j,rfl⟩:=ten hl
 exact zO rfl
def DP (hl:l.length=10):[zA.int .u8 ((cellsOf (cB l)).i 0),.int .u8 ((cellsOf (cB l)).i 1),.int .u8 ((cellsOf (cB l)).i 2),.int .u8 ((cellsOf (cB l)).i 3),.int .u8 ((cellsOf (cB l)).i 4),.int .u8 ((cellsOf (cB l)).i 5),.int .u8 ((cellsOf (cB l)).i 6),.int .u8 ((cellsOf (cB l)).i 7),.int .u8 ((cellsOf (cB l)).i 8),.int .u8 ((cellsOf (cB l)).i 9)]=cB l:=by
 obtain⟨a,b,c,d,e,f,g,h,i,j,rfl⟩:=ten hl
 rfl
def hZ (x:Int):Nat:=(48+Int.tmod x 10).toNat
theorem zer(x:Int):fA .u8 (fA .i64 (48+Int.tmod x 10))=((hZ x:Nat):Int)/\hZ x<256:=by
 grind [hZ,wrap_i64,Iw]
def jQ:Nat->Int->Nat->List Nat->List Nat
 | 0,_,_,l=>l
 | k+1,x,i,l=>jQ k (fA .i64 (Int.tdiv x 10)) (i-1) (l.set i (hZ x))
theorem Gc:∀(k:Nat) (x:Int) (i:Nat) (l:List Nat),oB 256 l->(jQ k x i l).length=l.length/\oB 256 (jQ k x i l)
 | 0,x,i,l,h=>⟨rfl,h⟩
 | k+1,x,i,l,h=>by
  unfold jQ;have:=Gc k (fA .i64 (Int.tdiv x 10)) (i-1) (l.set i (hZ x)) (fun y hy=>by
   rcases List.mem_or_eq_of_mem_set hy with h1 | h1
   ·exact h y h1
   simp_all [zer])
  simp_all
theorem RF (hb:yA.base<=b){c0 c1 c2 c3 c4 c5 c6 c7 c8 c9:Int}:∀(k:Nat) (from_:Nat) (x:Int) (i:Int) (l:List Nat) (t:Tr tA),i+1=(from_:Int)+k->from_+k<=10->l.length=10->lC t b none (cB l) →
  jp 136 2 [.int .i64 (from_:Int),.int .i64 x,.ptr b 0,.int .i64 i,.int .u8 c0,.int .u8 c1,.int .u8 c2,.int .u8 c3,.int .u8 c4,.int .u8 c5,.int .u8 c6,.int .u8 c7,.int .u8 c8,.int .u8 c9] t (fun v t'=>v=.agg (cB (jQ k x i.toNat l))/\wF b t t'):=by
 intro k;induction k with
 | zero=>
  intro from_ x i l t h1 h2 h3 h4;refine zmc (vB (nLe (by omega)) (yC (Vj h4 h3) (dC (Qm h3) (mA rfl ?_))))
  show zA.agg _=_/\_
  rw[DP h3];exact⟨rfl,fun _ _=>rfl⟩
 | succ k ih=>
  intro from_ x i l t h1 h2 h3 h4;obtain⟨n,rfl⟩:∃n:Nat,i=(n:Int):=⟨i.toNat,by omega⟩
  refine zmc (mA (yLe (by omega)) (rA (idx164 (by omega)) (eC fun m _ _=>?_)))
  rw[(zer x).1]
  obtain⟨t',g1,g2,g3⟩:=h4.store1 (v:=.int .u8 ((hZ x:Nat):Int)) hb ty5 rfl rfl rfl (j:=n) (by rw[Lj];omega)
  refine⟨_,_,g1 m,fC ?_⟩
  rw[cB_set]at g2;unfold uW;rw[wrap_i64 (n:=(n:Int)-1) (by omega) (by omega)]
  have:=ih from_ (fA .i64 (Int.tdiv x 10)) ((n:Int)-1) (l.set n (hZ x)) t' (by omega) (by omega) (by simp_all) g2
  refine Jq.mono this fun v t2 hh=>⟨?_,fun c hc=>by rw[hh.2 c hc,g3 c hc]⟩
  rw[hh.1];have e1:((n:Int)-1).toNat=n-1:=by omega
  have e2:((n:Int)).toNat=n:=by omega
  rw[e1,e2];rfl
theorem RC (hl:l.length=10) (hk:from_+k<=10)(h1:1<=from_+k)(x:Int):kB yA F 136 [.agg (cB l),.int .i64 (from_:Int),.int .i64 (k:Int),.int .i64 x] t=some (.agg (cB (jQ k x (from_+k-1) l))):=by
 obtain⟨a,b,c,d,e,f,g,h,i,j,rfl⟩:=ten hl
 refine iV ?_
 show Wf 136 [.agg [.int .u8 a,.int .u8 b,.int .u8 c,.int .u8 d,.int .u8 e,.int .u8 f,.int .u8 g,.int .u8 h,.int .u8 i,.int .u8 j],.int .i64 (from_:Int),.int .i64 (k:Int),.int .i64 x] t _
 refine w136 ?_
 unfold t136 uZ uY uW;refine eC fun n hn hbase=>?_
 obtain⟨t',e1,hc,hle,ho⟩:=Hd hn (cB [a,b,c,d,e,f,g,h,i,j]) none
 refine⟨.ptr n 0,⟨n+1,t'⟩,by show some (zA.ptr n 0,rF ⟨n,t⟩ (cB [a,b,c,d,e,f,g,h,i,j]) none)=_;rw[e1],fC ?_⟩
 rw[wrap_i64 (n:=(from_:Int)+(k:Int)) (by omega) (by omega),wrap_i64 (by omega) (by omega)]
 have:=RF (c0:=0) (c1:=0) (c2:=0) (c3:=0) (c4:=0) (c5:=0) (c6:=0) (c7:=0) (c8:=0) (c9:=0) hbase k from_ x ((from_:Int)+(k:Int)-1) _ t' (by omega) hk hl hc
 refine Jq.mono this fun v t2 hh=>⟨?_,fun b' y hy=>?_⟩
 ·rw[hh.1,show((from_:Int)+(k:Int)-1).toNat=from_+k-1 by omega]
 ·have:b'≠n:=fun e=>by simp_all
  rw[hh.2 b' this];exact hle _ _ hy
def Cp (d:Int):List Nat:=
 jQ 2 (fA .i64 ((fA .i64 (d-vZ (yT d)))+1)) 9 (jQ 2 (fA .i64 ((Int.tmod (yT d) 12)+1)) 6 (jQ 4 (fA .i64 (1900+(fA .i64 (Int.tdiv (yT d) 12)))) 3 [0,0,0,0,45,0,0,45,0,0]))
theorem zj2(d:Int):(Cp d).length=10/\oB 256 (Cp d):=by
 have h0:oB 256 [0,0,0,0,45,0,0,45,0,0]:=by intro x hx;simp at hx;omega
 have h1:=Gc 4 (fA .i64 (1900+(fA .i64 (Int.tdiv (yT d) 12)))) 3 _ h0
 have h2:=Gc 2 (fA .i64 ((Int.tmod (yT d) 12)+1)) 6 _ h1.2
 have h3:=Gc 2 (fA .i64 ((fA .i64 (d-vZ (yT d)))+1)) 9 _ h2.2
 simp_all [Cp]
def zn7{K:zA->T}{Q:mB} {p:Nat}{x:Int}(hl:l.length=10)(hlt:oB 256 l)(hp:yA.base<=p)(hc:lC t p none (cB l))(hk:from_+k<=10)(h1:1<=from_+k)
  (h:∀t',lC t' p none (cB (jQ k x (from_+k-1) l))->wF p t t'->∀u,wp 74 (K u) t' Q) :
  wp 74 (.call 136 [.agg [(.int .u8 ((cellsOf (cB l)).i 0)),(.int .u8 ((cellsOf (cB l)).i 1)),(.int .u8 ((cellsOf (cB l)).i 2)),(.int .u8 ((cellsOf (cB l)).i 3)),(.int .u8 ((cellsOf (cB l)).i 4)),(.int .u8 ((cellsOf (cB l)).i 5)),(.int .u8 ((cellsOf (cB l)).i 6)),(.int .u8 ((cellsOf (cB l)).i 7)),(.int .u8 ((cellsOf (cB l)).i 8)),(.int .u8 ((cellsOf (cB l)).i 9))],.int .i64 (from_:Int),.int .i64 (k:Int),.int .i64 x] fun a=>.asG z10 a fun X=>
   .heavy (mC yA 209 (.ptr p 0) (.agg [(.int .u8 (X.i 0)),(.int .u8 (X.i 1)),(.int .u8 (X.i 2)),(.int .u8 (X.i 3)),(.int .u8 (X.i 4)),(.int .u8 (X.i 5)),(.int .u8 (X.i 6)),(.int .u8 (X.i 7)),(.int .u8 (X.i 8)),(.int .u8 (X.i 9))])) K) t Q:=by
 have hw:=Gc k x (from_+k-1) l hlt
 refine wB ?_
 rw[DP hl,q136,RC hl hk h1,uA];refine dC (Qm (by rw[hw.1,hl])) (eC fun n _ _=>?_)
 rw[DP (by rw[hw.1,hl])]
 obtain⟨t',g1,g2,g3⟩:=PQ hc hp hl (m:=jQ k x (from_+k-1) l) (by rw[hw.1,hl])
 exact⟨_,_,g1 n,h t' g2 g3 _⟩
theorem zmx(hG:nN t) (h0:0<=d)(h1:d<65536):kB yA F 74 [.int .i64 d] t=some (.str (Cp d)):=by
 refine iV (w74 ?_)
 unfold t74 uI uS uG uX uZ uY uA6;refine wB ?_
 rw[q135,ymd_ok hG h0 h1,uA];unfold ymdD;refine rA rfl (qB (rA rfl (qB (rA rfl (qB (rA rfl (qB (vB (by grind [yEq]) (mA rfl ?_)))))))))
 refine eC fun p hp hbase=>?_
 obtain⟨t1,e1,c1,l1,o1⟩:=xS (C:=yA) Na hp
 refine⟨_,_,e1,?_⟩
 have c1':lC t1 p none (cB [0,0,0,0,0,0,0,0,0,0]):=c1
 refine eC fun n _ _=>?_
 obtain⟨t2,e2,c2,o2⟩:=PQ c1' hbase rfl (m:=[0,0,0,0,45,0,0,45,0,0]) rfl
 refine⟨_,_,e2 n,?_⟩
 have h0':oB 256 [0,0,0,0,45,0,0,45,0,0]:=by intro x hx;simp at hx;omega
 refine yC (Vj c2 rfl) (dC (Qm rfl) ?_)
 refine zn7 (from_:=0) (k:=4) rfl h0' hbase c2 (by omega) (by omega) fun t3 c3 o3 _=>?_
 have w3:=Gc 4 (fA .i64 (1900+(fA .i64 (Int.tdiv (yT d) 12)))) 3 _ h0'
 refine yC (Vj c3 w3.1) (dC (Qm w3.1) ?_)
 refine zn7 (from_:=5) (k:=2) w3.1 w3.2 hbase c3 (by omega) (by omega) fun t4 c4 o4 _=>?_
 have w4:=Gc 2 (fA .i64 ((Int.tmod (yT d) 12)+1)) 6 _ w3.2
 rw[w3.1]at w4;refine yC (Vj c4 w4.1) (dC (Qm w4.1) ?_)
 refine zn7 (from_:=8) (k:=2) w4.1 w4.2 hbase c4 (by omega) (by omega) fun t5 c5 o5 _=>?_
 have hL:=zj2 d
 have c5':lC t5 p none (cB (Cp d)):=c5
 have hs:vF yA 209 ⟨0,t5⟩ (.ptr p 0) none none=some (.slice p 0 10 10):=by
  obtain⟨c,g,_⟩:=c5'
  have hk:qD ⟨0,t5⟩ p=some (c,(cB (Cp d)).length,none):=by unfold qD;rw[g];rfl
  unfold vF;rw[Na,pA];unfold kN;simp only[zA.asStr,zA.asSlice,zA.asPtr,vE.asArr,pA];unfold zQ;rw[ty5,pA];have hb2:nQ 10 10 none none=some (0,10):=rfl
  rw[hb2,pA];unfold lN rO;rw[hk];rfl
 have hv:eP yA 96 9 ⟨0,t5⟩ (.slice p 0 10 10)=some (.str (Cp d)):=YE mV gL rfl rfl rfl ty5 rfl c5' hL.1 (fun j x hj=>by
  grind [cB]) hL.2
 refine yC hs (yC hv (dD ⟨rfl,fun b y hy=>?_⟩))
 have:b≠p:=fun e=>by simp_all
 rw[o5 b this,o4 b this,o3 b this,o2 b this];exact l1 _ _ hy
end
section
mutual
def lA.cpy:lA->Prop
 | .mk _ _ v args=>(v.f.n.limbs.length<300000/\v.f.d.limbs.length<300000)/\args.length<300000/\lA.cpys args
def lA.cpys:List lA->Prop
 | []=>True
 | x::l=>lA.cpy x/\lA.cpys l
end
structure Ip.cpy (p:Ip):Prop where
 defs:p.defs.length<300000
 tables:p.tables.length<300000
 clauses:p.clauses.length<300000
 rows:∀x∈p.tables,x.rows.length<300000/\∀r∈x.rows,r.f.n.limbs.length<300000/\r.f.d.limbs.length<300000
 exprs:∀x∈p.clauses,lA.cpy x.when_/\lA.cpy x.then_
def zF.cpy(f:zF):Prop:=f.n.limbs.length<300000/\f.d.limbs.length<300000
def NE (tk:List bC)(a b:Nat):Prop:=∀j,a<=j->j<b->jM tk 5 j=false
theorem NE.nil{tk:List bC}{a:Nat}:NE tk a a:=fun j h1 h2=>by omega
structure VP where
 tk:List bC
 tk2:List bC
 d:Nat
 k:Nat
 full:Prop
 dp:Prop
 lo:Nat:=0
abbrev stopW:List (List Nat):=[[41],wThen]
structure VW (S:VP):Prop where
 acc:∀i,S.lo<=i->i<S.k->∀w,Proofs.acc S.tk2 w (i+S.d)=Proofs.acc S.tk w i
 kind:∀i,S.lo<=i->i<S.k->∀q,jM S.tk2 q (i+S.d)=jM S.tk q i
 text:∀i,S.lo<=i->i<S.k->aP S.tk2 (i+S.d)=aP S.tk i
 qacc:∀w,w∉stopW->Proofs.acc S.tk2 w (S.k+S.d)=false
 qkind:∀q,q=2\/q=3->jM S.tk2 q (S.k+S.d)=false
 qname:nT S.tk2 (S.k+S.d)=false
 full:S.full->¬ S.dp/\(∀w,Proofs.acc S.tk2 w (S.k+S.d)=false)/\∀q,q≠5->jM S.tk2 q (S.k+S.d)=false
 good:∀x∈S.tk,Ao x
def RRk {α:Type}(j:Nat)(r:PR α):Prop:=match r with | .ok _ n=>n=j | .er e i=>i=j/\(e=120\/e=122)
def MO {α:Type}(S:VP)(V:α->Prop)(n:Nat)(r:PR α):Prop:=
 match r with | .ok a n'=>n<=n'/\NE S.tk n n'/\V a | .er e i=>n<=i/\NE S.tk n i/\(e=120\/e=121\/e=122)
structure RA {α:Type} (S:VP) (V:α->Prop) (n:Nat) (r r2:PR α):Prop where
 mo:MO S V n r
 ok:n<=S.k->∀a n',r=.ok a n'->n'<=S.k->r2=.ok a (n'+S.d)\/(S.dp/\∃i,r2=.er 122 i)
 er:n<=S.k->S.full->∀e,r=.er e S.k->RRk (S.k+S.d) r2
structure Rel {α:Type} (S:VP) (H:Prop) (V:α->Prop) (f f2:PM α):Prop where
 ra:H->∀n,S.lo<=n->RA S V n (f n) (f2 (n+S.d))
 rr:S.full->RRk (S.k+S.d) (f2 (S.k+S.d))
section
variable {S:VP}{H:Prop}{α β:Type}{V:α->Prop}{W:β->Prop}{n:Nat}
theorem RA.fail{e:Nat}(he:e=120\/e=122):RA S V n (.er e n) (.er e (n+S.d)):=
 ⟨⟨ybk _,NE.nil,by omega⟩,fun _ b m e _=>(by cases e),fun _ _ e' h=>by cases h;exact⟨rfl,he⟩⟩
end
end
section
variable {p:Nat->Bool}{r s:List Nat}{b n:Nat}
def Dv(r:List Nat):Prop:=∀c r',r=c::r'->c=10\/c=32\/c=40\/c=41\/c=44
def Zg  (hr:∀c r',r=c::r'->p c=false):∀s:List Nat,jE p (s++r)=jE p s:=by
 intro s;unfold jE;induction s with
 | nil=>
  cases r with
  | nil=>rfl
  | cons c r=>simp_all
 | cons x s ih=>rw[List.cons_append,List.takeWhile_cons,List.takeWhile_cons,ih]
def Yr  (hr:Dv r)(h:(p 10||(p 32||(p 40||(p 41||p 44))))=false):∀c r',r=c::r'->p c=false:=by
 intro c r' e;simp only[yal]at h;rcases hr c r' e with rfl | rfl | rfl | rfl | rfl<;>simp only[h]
theorem zk9 (s:List Nat):(jE p s).length<=s.length:=(List.takeWhile_sublist p).length_le
def YA (hr:Dv r):cI (s++r)=cI s:=by
 by_cases h:10<=s.length
 ·unfold cI
  have e:∀i∈List.range 10,wK i ((s++r).getD i 0)=wK i (s.getD i 0):=fun i hi=>by
   rw[List.mem_range]at hi;rw[List.getD_eq_getElem?_getD,List.getD_eq_getElem?_getD,yco (by omega)]
  rw[show(List.range 10).all (fun i=>wK i ((s++r).getD i 0))=(List.range 10).all (fun i=>wK i (s.getD i 0)) from by
   grind]
  rw[decide_eq_true h,decide_eq_true (by grind)]
 ·have h1:cI s=false:=by grind [cI]
  rw[h1];refine JO (i:=s.length) (by omega) ?_
  rw[List.getD_eq_getElem?_getD,ybp (ybk _),Nat.sub_self]
  cases r with
  | nil=>unfold wK;split<;>rfl
  | cons c r=>
   rcases hr c r rfl with rfl | rfl | rfl | rfl | rfl <;> (unfold wK;split<;>rfl)
theorem NG (hr:Dv r) (hn:n<=s.length):lR (s++r) n=lR s n:=by
 unfold lR;by_cases h:n<s.length
 ·rw[yco h]
 ·have:n=s.length:=by omega
  subst this;rw[ybp (ybk _),Nat.sub_self,List.getElem?_eq_none (ybk _)]
  cases r with
  | nil=>rfl
  | cons c r=>rcases hr c r rfl with rfl | rfl | rfl | rfl | rfl<;>rfl
def CQ (hr:Dv r):bD (s++r)=bD s:=Zg (Yr hr rfl) s
theorem zfo (hr:Dv r) (hn:n<=s.length):((s++r)[n]?=some 47) ↔ s[n]?=some 47:=by
 by_cases h:n<s.length
 ·rw[yco h]
 ·have:n=s.length:=by omega
  subst this;rw[ybp (ybk _),Nat.sub_self,List.getElem?_eq_none (ybk _)]
  cases r with
  | nil=>simp
  | cons c r=>rcases hr c r rfl with rfl | rfl | rfl | rfl | rfl<;>simp
def HD (hr:Dv r):wG (s++r)=wG s:=by
 unfold wG;rw[CQ hr];have hl:(bD s).length<=s.length:=zk9 s
 by_cases h:s[(bD s).length]?=some 47
 ·rw[yab ((zfo hr hl).2 h),yab h]
  have:(bD s).length<s.length:=(ybc.1 h).1
  rw[List.drop_append_of_le_length (by omega)]
  exact Zg (Yr hr rfl) _
 grind [zfo]
theorem zbm (h:wG s≠[]):s[(bD s).length]?=some 47/\wG s=jE nD (s.drop ((bD s).length+1)):=by
 grind [wG]
theorem JL(s:List Nat):xG s<=s.length:=by
 grind [bD,zk9,xG,zbm]
theorem zgf  (hr:Dv r):uF ((b::s)++r)=uF (b::s):=by
 have e1:=Zg (p:=iK) (Yr hr rfl) (b::s)
 have e2:=YA (s:=b::s) hr
 have e3:xG ((b::s)++r)=xG (b::s):=by unfold xG;rw[HD hr,CQ hr]
 have e4:lK ((b::s)++r)=lK (b::s):=by unfold lK;rw[e3,NG hr (JL _),HD hr,CQ hr]
 show(if vN b=true then _ else _)=if vN b=true then _ else _
 show(if vN b=true then(if 24<(jE iK ((b::s)++r)).length then TR.bad 111 else .tok 1 (jE iK ((b::s)++r)))else if (nD b&&cI ((b::s)++r))=true then(if oQ ((b::s)++r)=true then .bad 113 else .tok 3 (((b::s)++r).take 10))else if nD b=true then(if lK ((b::s)++r)=true then .bad 112 else .tok 2 (((b::s)++r).take (xG ((b::s)++r))))else if Er b=true then .tok 4 [b]else .bad 110)=_
 grind [JL,cI,oQ,NG,lR]
def zgh  {k:Nat}{w:List Nat}(h:uF (b::r)=.tok k w):b≠10/\b≠32/\b≠9/\b≠35:=by
 refine⟨?_,?_,?_,?_⟩ <;> (rintro rfl;simp_all [uF,vN,nD,Er])
end
section
variable {r s:List Nat}{o:Bool}{b:Nat}
abbrev nF:=Nat × List Nat
def kt (t:bC):nF:=(t.kind,t.text)
def ktR:LR->Option (List nF)
 | .ok l=>some (l.map kt)
 | .er _ _ _=>none
def xR:Nat->List Nat->Bool->Option (List nF)
 | 0,_,_=>some []
 | _+1,[],o=>some (if o=true then [(5,[])]else [])
 | k+1,b::r,o=>
  if b=10 then(xR k r false).map fun l=>if o=true then(5,[])::l else l
  else if b=32\/b=9 then xR k r o
  else if b=35 then xR k ((b::r).drop (jE (fun x=>decide (x≠10)) (b::r)).length) o
  else match uF (b::r)with
   | .bad _=>none
   | .tok kd w=>(xR k ((b::r).drop w.length) true).map fun l=>(kd,w)::l
def zo5:∀(k:Nat) (s:List Nat) (ln cl:Nat) (op:Option (Nat × Nat)),ktR (xN k s ln cl op)=xR k s op.isSome:=by
 have cons:∀(t:bC) (r:LR),ktR (r.cons t)=(ktR r).map fun l=>kt t::l:=fun t r=>by cases r<;>rfl
 have close:∀(op:Option (Nat × Nat)) (r:LR),ktR (LR.close op r)=(ktR r).map fun l=>if op.isSome=true then(5,[])::l else l:=fun op r=>by
  cases op with
  | none=>cases r<;>rfl
  | some p=>exact cons _ r
 intro k;induction k with
 | zero=>intro s ln cl op;rfl
 | succ k ih=>
  intro s ln cl op
  cases s with
  | nil=>rw[xN,close];rfl
  | cons b r=>
   rw[xN,xR];split
   ·simp_all
   split
   ·simp_all
   split
   ·simp_all
   ·cases uF (b::r)with
    | bad e=>rfl
    | tok kd w=>exact(cons _ _).trans (by rw[ih];rfl)
def zc5:∀(k k':Nat) (s:List Nat) (o:Bool),s.length<k->s.length<k'->xR k s o=xR k' s o:=by
 intro k;induction k with
 | zero=>omega
 | succ k ih=>
  intro k' s o h h';obtain⟨k',rfl⟩:∃m,k'=m+1:=⟨k'-1,by omega⟩
  cases s with
  | nil=>rfl
  | cons b r=>
   simp only[ybn]at h h'
   rw[xR,xR];split
   ·rw[ih k' r false (by omega) (by omega)]
   split
   all_goals grind [jE,List.takeWhile_cons,Wu]
def gU (s:List Nat)(o:Bool):Option (List nF):=xR (s.length+1) s o
theorem zc2{k:Nat}  (h:s.length<k):xR k s o=gU s o:=zc5 _ _ _ _ h (by omega)
theorem zc3   (h:b=32\/b=9):gU (b::r) o=gU r o:=by
 grind [gU,xR]
theorem KK {w:List Nat}{kd:Nat} (h:uF (b::r)=.tok kd w):gU (b::r) o=(gU ((b::r).drop w.length) true).map fun l=>(kd,w)::l:=by
 obtain⟨h1,h2,h3,h4⟩:=zgh h
 have:=(Wu h).1
 rw[<- zc2 (k:=(b::r).length+1) (by omega),xR,yaa h1,yaa (by omega),yaa h4,h]
 show(xR _ _ true).map _=_
 rw[zc2 (by grind)]
def zo4(s:List Nat):ktR (nZ s)=gU s false:=zo5 _ _ _ _ _
def zc4 {l:List nF}(h:gU s false=some l):∃m,nZ s=.ok m/\m.map kt=l:=by
 have e:=zo4 s
 rw[h]at e
 cases hl:nZ s with
 | ok m=>rw[hl]at e;exact⟨m,rfl,yci e⟩
 | er a b c=>rw[hl]at e;cases e
end
section
section
variable {S:VP}{H:Prop}{n:Nat}{o o2:PM lA}
def eD.cpy(v:eD):Prop:=v.f.n.limbs.length<300000/\v.f.d.limbs.length<300000
end
end
section
section
variable {S:VP}{H:Prop}{n:Nat}{o o2:PM lA}
def restP(tk:List bC)(e:PM lA)(f:CF):PM lA:=fun n=>(pH tk [40] n).bind fun _ n1=>
  (if f.named then(kU tk n1).bind fun w n2=>(pH tk [44] n2).bind fun _ n3=>.ok w n3 else .ok [] n1:PR (List Nat)).bind fun w n2=>
  (e n2).bind fun x n3=>(Bi tk e (f.least-1) [x] n3).bind fun l n4=>(kV tk e (f.most-f.least) l n4).bind fun l n5=>
  (if f.op=19 then(pH tk [44] n5).bind fun _ n6=>aN tk lM 6 6 1 n6 else .ok 0 n5:PR Nat).bind fun m n6=>
  (pH tk [41] n6).bind fun _ n7=>.ok (.mk f.op w ⟨0,mJ,m⟩ l) n7
def Da.cpy(c:Da):Prop:=lA.cpy c.when_/\lA.cpy c.then_
end
end
section
structure Cg (tk tk':List bC):Prop where
 acc:acc tk=acc tk'
 kind:jM tk=jM tk'
 text:aP tk=aP tk'
 len:tk.length=tk'.length
end
section
theorem JS{tk:List bC}{w:List Nat}{n:Nat}(h:tk.length<=n):acc tk w n=false:=by unfold acc;rw[List.getElem?_eq_none h]
section
variable {tk:List bC}(hg:∀x∈tk,Ao x)
include hg
structure PBd (p:Ip) (n:Nat):Prop where
 defs:p.defs.length<=n
 tables:p.tables.length<=n
 clauses:p.clauses.length<=n
 rows:∀x∈p.tables,x.rows.length<=n/\∀r∈x.rows,zF.cpy r.f
 exprs:∀x∈p.clauses,Da.cpy x
end
end
section
variable {q:Nat}{v:List Nat}
def inLine(l:List nF):Prop:=l≠[]/\∀t∈l,t.1≠5/\uF t.2=.tok t.1 t.2
section
variable {tk:List bC}{o:PM lA}{n n':Nat}{x:lA}{l:List (List Nat × Nat)}
def Vf(h:o n=.ok x n')(hq:aM tk l n'=none):zS tk o l n=.ok x n':=by
 unfold zS;rw[h];show dT tk o l tk.length x n'=_
 cases tk.length with
 | zero=>rfl
 | succ m=>rw[dT,hq]
end
section
variable {tk:List bC}{K:List nF}
theorem Qr(hK:tk.map kt=K){n:Nat} (h:K[n]?=some (q,v))(w:List Nat):acc tk w n=((decide (q=1)||decide (q=4))&&qF v w):=by
 subst hK;rw[ybu]at h;unfold acc
 cases hx:tk[n]? with
 | none=>simp_all
 | some t=>rw[hx]at h;cases h;rfl
theorem Br(hK:tk.map kt=K){n:Nat} (h:K[n]?=some (q,v))(j:Nat):jM tk j n=decide (q=j):=by
 subst hK;rw[ybu]at h;unfold jM
 cases hx:tk[n]? with
 | none=>simp_all
 | some t=>rw[hx]at h;cases h;rfl
theorem Rt(hK:tk.map kt=K){n:Nat} (h:K[n]?=some (q,v)):aP tk n=v:=by
 subst hK;rw[ybu]at h;unfold aP
 cases hx:tk[n]? with
 | none=>simp_all
 | some t=>rw[hx]at h;cases h;rfl
def zli(hK:tk.map kt=K):tk.length=K.length:=by rw[<- hK,ybf]
end
structure Ex (m:List bC) (u:List nF) (x:lA):Prop where
 toks:m.map kt=u++[(5,[])]
 line:inLine u
 good:∀t∈m,Ao t
 ok:zi9 m 0=.ok x u.length
end
section
theorem zmo{v w:List Nat}(h:v≠w):qF v w=false:=by
 grind [sN]
section
variable {tk:List bC}{K:List nF}{o:PM lA}{n q:Nat}{v:List Nat}
theorem jJ(hK:tk.map kt=K)(h:K[n]?=some (q,v)){w:List Nat}(hw:v≠w):acc tk w n=false:=by rw[Qr hK h,zmo hw,yay]
theorem yU(hK:tk.map kt=K)(h:K[n]?=some (q,v))(hq:q=1\/q=4):acc tk v n=true:=by
 rw[Qr hK h,(sN v v).2 rfl]
 rcases hq with rfl | rfl<;>rfl
theorem Le(hK:tk.map kt=K)(h:K[n]?=some (q,v))(hq:q≠2/\q≠3)(hv:v∉[Iy,Ja,Ge,zX]):eT tk n=.ok none n:=by
 grind [eT,jJ,Br]
def zit(hK:tk.map kt=K)(h:K[n]?=some (4,[40])):fN tk o n=(iR tk o (n+1)).bind fun x n1=>(pH tk [41] n1).bind fun _ n2=>.ok x n2:=by
 unfold fN;rw[Le hK h (by decide) (by decide)]
 show(if acc tk [40] n=true then _ else _)=_
 rw[yU hK h (.inr rfl),yab rfl]
def Fc(hK:tk.map kt=K)(h:K[n]?=some (q,v))(hq:q=1\/q=4):pH tk v n=.ok () (n+1):=by
 unfold pH;rw[yU hK h hq,yab rfl]
def Nb(hK:tk.map kt=K)(h:K[n]?=some (q,v)):lS tk q n=.ok v (n+1):=by
 unfold lS;rw[Br hK h,decide_eq_true rfl,yab rfl,Rt hK h]
def JG(hK:tk.map kt=K)(h:K[n]?=some (5,v))(hl:K.length=n+1):Eh tk n=.ok () (n+1):=by
 unfold Eh;rw[Nb hK h];show(if n+1<tk.length then _ else _)=_
 rw[zli hK,hl,yaa (by omega)]
theorem JV(hK:tk.map kt=K)(h:K[n]?=some (1,v))(hv:mO v=true):kU tk n=.ok v (n+1):=by
 grind [kU,nT,Br,Rt]
def zjm(hK:tk.map kt=K)(h:K[n]?=some (3,v)):Qg tk n=.ok ((wV v).getD 0:Nat) (n+1):=by
 unfold Qg;rw[Nb hK h];rfl
end
variable {m T:List bC}{u:List nF}{x:lA}
abbrev startX(x:lA):lA:=cZ 7 (.mk 26 [] ⟨0,mJ,(0:Nat)⟩ [x]) (DM ⟨2,mR [49] false,0⟩)
end
section
variable {m n:Nat}
def Fe(n:Nat):kF n=vJ n:=by
 induction n using Nat.strongRecOn with
 | _ n ih=>
  grind [vJ,Qb,Qe]
theorem EH{f:zF}(h:Dd f=true):f=mJ:=by
 obtain⟨⟨a,l⟩,⟨b,m⟩⟩:=f
 unfold Dd at h;simp only[ybb,ycp,decide_eq_true_eq]at h;have h1:l=[]:=List.eq_nil_of_length_eq_zero (by omega)
 have h2:m=[]:=List.eq_nil_of_length_eq_zero (by omega)
 rw[h.1.1,h.1.2,h1,h2];rfl
def zbf:((List.range 2154).all fun m=>Nat.beq (yG (m+1)) (yG m+wN (1900+m / 12) (m%12+1)))=true:=by kernel_rfl
theorem Yu (h:m<2154):yG (m+1)=yG m+wN (1900+m / 12) (m%12+1):=Nat.eq_of_beq_eq_true (ycb.1 zbf m (List.mem_range.2 h))
def Yw:Nat.ble 65536 (yG 2154)=true:=by kernel_rfl
def AM(n:Nat):∀k,jU k n<=k/\yG (jU k n)<=n/\(n<yG (k+1)->n<yG (jU k n+1)):=by
 intro k;induction k with
 | zero=>exact⟨ybk _,by show yG 0<=n;exact yaw _,id⟩
 | succ k ih=>
  grind [jU]
theorem YB (h:n<65536):∃M,M<=2153/\fM n=De (1900+M / 12) (M%12+1) (n-yG M+1)/\yG M<=n/\n-yG M+1<=wN (1900+M / 12) (M%12+1):=by
 have h1:=AM n 2153
 have h2:65536<=yG (2153+1):=Nat.le_of_ble_eq_true Yw
 have h3:=h1.2.2 (by omega)
 refine⟨_,h1.1,rfl,h1.2.1,?_⟩
 grind [Yu]
theorem zc7(y m:Nat):wN y m<=31:=by
 unfold wN;split
 ·omega
 ·split
  ·omega
  ·rename_i h _
   have:m=1\/m=2\/m=3\/m=4\/m=5\/m=6\/m=7\/m=8\/m=9\/m=10\/m=11\/m=12:=by omega
   rcases this with rfl | rfl | rfl | rfl | rfl | rfl | rfl | rfl | rfl | rfl | rfl | rfl<;>decide
def zmr(n:Nat):nD (d1 n)=true:=by grind [nD,d1]
def d1_sub(n:Nat):d1 n-48=n%10:=by grind [d1]
def zaa(y m d:Nat):cI (De y m d)=true:=by
 unfold cI De;simp[List.range,List.range.loop,wK,zmr]
theorem zm8{y d:Nat}(hy:y<10000)(hm:m<100)(hd:d<100):wV (De y m d)=Cl y m d:=by
 unfold wV De wE;simp only[List.take,List.drop,List.foldl,d1_sub];rw[show(((0*10+y / 1000%10)*10+y / 100%10)*10+y / 10%10)*10+y%10=y by omega,show(0*10+m / 10%10)*10+m%10=m by omega,show(0*10+d / 10%10)*10+d%10=d by omega]
theorem OS (h:n<65536):wV (fM n)=some n:=by
 grind [YB,zc7,zm8,Cl]
theorem zjo(n:Nat):(fM n).length=10:=rfl
def zjn (h:n<65536):uF (fM n)=.tok 3 (fM n):=by
 have hd:cI (fM n)=true:=zaa _ _ _
 have hb:oQ (fM n)=false:=by
  grind [oQ,zjo,OS]
 obtain⟨x,r,e,hx⟩:∃x r,fM n=x::r/\nD x=true:=⟨_,_,rfl,zmr _⟩
 rw[e]at hd hb ⊢
 have hl:vN x=false:=(Lb hx).2.2.2.2.2.2
 have ht:(x::r).take 10=x::r:=by rw[<- e];rfl
 grind [uF]
end
section
variable [nC]
def TI:((List.range 2155).all fun m=>lB (vZ (m:Int)) (yG m:Int))=true:=by kernel_rfl
def GH{m:Nat}(h:m<2155):vZ (m:Int)=(yG m:Nat):=(sY _ _).1 (ycb.1 TI m (List.mem_range.2 h))
theorem GG:∀ {a b:Nat},a<=b->b<=2154->yG a<=yG b:=by
 intro a b h;induction h with
 | refl=>omega
 | @step m hm ih=>grind [Yu]
theorem Zc{P:Int->Bool}(hP:∀x y:Nat,x<=y->y<2154->P (y:Int)=false->P (x:Int)=false) :
  ∀(k i j:Nat),j-i<=k->i<=j->j<=2154->(∀x:Nat,x<i->P (x:Int)=false)->(j<2154->P (j:Int)=true) →
   ∃r:Nat,Dx P k i j=(r:Int)/\r<=2154/\(∀x:Nat,x<r->P (x:Int)=false)/\(r<2154->P (r:Int)=true)
 | 0,i,j,h1,h2,h3,h4,h5=>⟨i,rfl,by omega,h4,by grind⟩
 | k+1,i,j,h1,h2,h3,h4,h5=>by
  unfold Dx;by_cases h:i<j
  ·rw[yab h]
   by_cases hp:P (((i+j) / 2:Nat):Int)=true
   ·rw[yab hp]
    exact Zc hP k i _ (by omega) (by omega) (by omega) h4 fun _=>hp
   ·rw[yaa hp]
    exact Zc hP k _ j (by omega) (by omega) h3 (fun x hx=>hP x _ (by omega) (by omega) (Bool.eq_false_iff.2 hp)) h5
  grind
theorem zcp{n:Nat}(hn:n<65536):yT (n:Int)=(jU 2153 n:Nat):=by
 have hP:∀y:Nat,y<2154->fB (n:Int) (vZ (fA .i64 ((y:Int)+1)))=decide (n<yG (y+1)):=fun y hy=>by
  rw[wrap_i64 (by omega) (by omega),show(y:Int)+1=((y+1:Nat):Int) by omega,GH (by omega)]
  grind [Hp]
 obtain⟨r,h1,h2,h3,h4⟩:=Zc (P:=fun m=>fB (n:Int) (vZ (fA .i64 (m+1)))) (fun x y hxy hy h=>by
  simp only[hP y hy,decide_eq_false_iff_not]at h;simp only[hP x (by omega),decide_eq_false_iff_not]
  have:=GG (show x+1<=y+1 by omega) (by omega)
  omega) 2154 0 2154 (by omega) (by omega) (by omega) (fun x hx=>by omega) (fun h=>by omega)
 have hl:65536<=yG 2154:=Nat.le_of_ble_eq_true Yw
 obtain⟨s1,s2,s3⟩:=AM n 2153
 have s3:=s3 (show n<yG 2154 by omega)
 show Dx _ _ _ _=_
 rw[h1];generalize jU 2153 n=m at *
 congr 1
 rcases Nat.lt_trichotomy r m with h | h | h
 ·have:=h4 (by omega)
  simp only[hP r (by omega),decide_eq_true_eq]at this
  have:=GG (show r+1<=m by omega) (by omega)
  omega
 all_goals grind
theorem Dg{k x i:Nat}{l:List Nat}(hx:x<1000000000):jQ (k+1) (x:Int) i l=jQ k ((x / 10:Nat):Int) (i-1) (l.set i (d1 x)):=by
 have e1:Int.tdiv (x:Int) 10=((x / 10:Nat):Int):=by simp_all
 have e2:hZ (x:Int)=d1 x:=by
  grind [hZ,d1]
 show jQ k (fA .i64 (Int.tdiv (x:Int) 10)) (i-1) (l.set i (hZ x))=_
 rw[e1,e2,wrap_i64 (by omega) (by omega)]
theorem PX{n:Nat}(hn:n<65536):Cp (n:Int)=fM n:=by
 have hm:=zcp hn
 obtain⟨s1,s2,s3⟩:=AM n 2153
 have s3:=s3 (by have:65536<=yG 2154:=Nat.le_of_ble_eq_true Yw;grind)
 rw[Yu (by omega)]at s3
 have hb:=zc7 (1900+jU 2153 n / 12) (jU 2153 n%12+1)
 unfold Cp fM;rw[hm];generalize jU 2153 n=M at *
 rw[GH (by omega)]
 have e1:Int.tdiv (M:Int) 12=((M / 12:Nat):Int):=by simp_all
 have e2:Int.tmod (M:Int) 12=((M%12:Nat):Int):=by grind
 rw[e1,e2,wrap_i64 (n:=(n:Int)-(yG M:Nat)) (by omega) (by omega),wrap_i64 (n:=((M / 12:Nat):Int)) (by omega) (by omega),wrap_i64 (by omega) (by omega),wrap_i64 (by omega) (by omega),wrap_i64 (by omega) (by omega)]
 rw[show(n:Int)-(yG M:Nat)+1=((n-yG M+1:Nat):Int) by omega,show((M%12:Nat):Int)+1=((M%12+1:Nat):Int) by omega,show(1900:Int)+((M / 12:Nat):Int)=((1900+M / 12:Nat):Int) by omega]
 have b1:1900+M / 12<10000:=by omega
 have b2:M%12+1<100:=by omega
 have b3:n-yG M+1<100:=by omega
 clear hm s2 s3 hb e1 e2
 generalize 1900+M / 12=y at *
 generalize M%12+1=m at *
 generalize n-yG M+1=d at *
 rw[Dg (by omega),Dg (by omega),Dg (by omega),Dg (by omega),Dg (by omega),Dg (by omega),Dg (by omega),Dg (by omega)]
 simp[jQ,De,Nat.div_div_eq_div_mul]
end
section
variable [nC]
variable {t tf:Tr tA}
def uV(t:Tr tA):Prop:=At t 1 0 (oZ.map zA.str)
theorem uV.mono{t':Tr tA}(h:uV t)(k:zB t t'):uV t':=At.mono k h
theorem WA(hG:uV t){n:Nat}(hn:n<256):kB yA F 170 [.int .u8 (n:Int)] t=some (.str (jK n))/\(jK n).length<=10/\oB 256 (jK n):=by
 unfold jK;by_cases h:n<7
 ·have hx:(oZ.map zA.str)[n]?=some (.str (oZ.getD n [])):=by
   have:n<oZ.length:=h
   simp_all
  rw[yab h];refine⟨iC.2 (w170 (mA (by grind [wrap_i64,xP]) (rA (v:=.ptr 1 n) ?_ (yC (v:=.str (oZ.getD n [])) ?_ (dD ⟨rfl,rfl⟩))))),?_,?_⟩
  ·unfold uC
   rw[ty223,pA];have e:(zA.int .u8 (n:Int)).asNat=some n:=rfl
   rw[e,pA];grind [zA.asSlice,zA.asPtr,pA,vE.asArr,gL,qC,cD]
  ·have:=hG.load1 gL rfl hx
   grind
  ·have:∀k,k<7->(oZ.getD k []).length<=10:=by decide
   grind
  ·have:∀k,k<7->∀x∈oZ.getD k [],x<256:=by decide
   exact this n h
 ·rw[yaa h]
  exact⟨iC.2 (w170 (vB (by grind [wrap_i64,mP]) ⟨rfl,rfl⟩)),by simp,fun x hx=>by cases hx⟩
theorem AS{s:List Nat}(h:∀x∈s,48<=x/\x<58):oB 256 s:=fun x hx=>by grind
def iU{a b:List Nat}(ha:oB 256 a)(hb:oB 256 b):oB 256 (a++b):=fun x hx=>by
 rcases yaf.1 hx with h | h
 ·exact ha x h
 ·exact hb x h
theorem AR{neg:Bool}{n:Nat}:oB 256 (Hl neg n)/\Hl neg n≠[]:=by
 have h:=Uu n
 refine⟨iU ?_ (AS (Ut n)),fun e=>?_⟩
 ·cases neg
  ·intro x hx;cases hx
  ·intro x hx;simp_all
 grind [Hl]
def KD{f:zF}:oB 256 (qL f)/\qL f≠[]:=by
 unfold qL Dh;refine⟨iU AR.1 ?_,fun e=>AR.2 (List.append_eq_nil_iff.1 e).1⟩
 split
 ·intro x hx;cases hx
 ·intro x hx
  rcases ybs.1 hx with rfl | hx
  ·decide
  ·exact AR.1 x hx
theorem zcv{n:Int}:oB 256 (xM n)/\xM n≠[]:=by
 by_cases h:n<0
 ·obtain⟨u,rfl⟩:∃u:Nat,n = -(u:Int):=⟨n.natAbs,by omega⟩
  rw[BR (by omega)]
  refine⟨fun x hx=>?_,by simp⟩
  rcases ybs.1 hx with rfl | hx
  ·decide
  ·exact AS (Ut u) x hx
 ·obtain⟨u,rfl⟩:∃u:Nat,n=(u:Int):=⟨n.toNat,by omega⟩
  rw[Tt];exact⟨AS (Ut u),fun e=>by grind [Uu]⟩
theorem KC{s:List Nat}(h:oB 256 s)(hn:s≠[]):oB 256 (nK s)/\nK s≠[]:=by
 unfold nK;split
 ·exact⟨iU (by intro x hx;grind) fun x hx=>h x (List.mem_of_mem_drop hx),by simp⟩
 simp_all
def zey(n:Nat):(fM n).length=10/\oB 256 (fM n):=⟨rfl,by unfold fM De d1;intro x hx;simp only[ybs,List.not_mem_nil,or_false]at hx;omega⟩
theorem EQ{v:eD}(hv:v.fit)(hp:xH v=true):sU v≠[]/\(sU v).length<=20100/\oB 256 (sU v):=by
 obtain⟨_,hff,hi1,hi2⟩:=hv
 have hil:=BQ hi1 hi2
 have hsl:=Sb (xM v.i)
 have hsi:=KC (zcv (n:=v.i)).1 zcv.2
 have hsf:=KC (KD (f:=v.f)).1 KD.2
 have hc:=zey v.i.toNat
 have hF:∀k,(k=2\/k=3)->v.kind=k->(nK (qL v.f)).length<=20010:=by
  grind [CE,So,Sb]
 unfold sU Mq;split
 ·split
  ·exact⟨by simp,by simp,by intro x hx;grind⟩
  ·exact⟨by simp,by simp,by intro x hx;grind⟩
 ·split
  ·grind
  ·split
   ·rename_i e;have:=hF 3 (.inr rfl) e
    exact⟨by simp,by grind,iU (by intro x hx;grind) hsf.1⟩
   ·split
    ·grind
    ·split
     ·exact⟨by simp,by grind,iU hsi.1 (by intro x hx;grind)⟩
     ·split
      ·exact⟨by simp,by simp;omega,iU hsi.1 (by intro x hx;grind)⟩
      grind [xH]
theorem NC{op:Nat}(h:op<27):(bA op).word.length<=10/\∀x∈(bA op).word,x<256:=by
 have:∀k,k<27->(bA k).word.length<=10/\∀x∈(bA k).word,x<256:=by decide +kernel
 grind
theorem ND{op:Nat}(h:op<27):((bA op).style=1->op=1)/\((bA op).style=2->(bA op).word≠[])/\((bA op).style=3->1<=(bA op).least)/\((bA op).style=4->2<=(bA op).least)/\((bA op).style=5->1<=(bA op).least/\(bA op).word≠[])/\(bA op).style<=6/\(bA op).most<=3/\(op=1->(bA op).style=1):=by
 have:∀k,k<27->((bA k).style=1->k=1)/\((bA k).style=2->(bA k).word≠[])/\((bA k).style=3->1<=(bA k).least)/\((bA k).style=4->2<=(bA k).least)/\((bA k).style=5->1<=(bA k).least/\(bA k).word≠[])/\(bA k).style<=6/\(bA k).most<=3/\(k=1->(bA k).style=1):=by decide +kernel
 grind
theorem JY{s:List Nat}(h:mO s=true):s.length<=24:=by
 unfold mO at h;grind
def sL (h:Nat):Nat:=86000+200*h
def WOk (bf:Nat)(x:lA):Prop:=∀(d:Nat) (cs:List zA) (tf t:Tr tA) (bx:Nat) (s:List Nat) (Q:mB),x.fit->vI x d=true->lC tf bf none aU->nN tf->uV tf->RD tf x.d cs->BX 134 [.ptr bf 0] tf t bx s->s.length<=95000 →
 (∀t' s',BX 134 [.ptr bf 0] tf t' bx s'->s'≠[]->s'.length<=max s.length (sL (25-d))->Wr s (eL x) s'->Q (.tup []) t')->Wc yA F 62 [.ptr bx 0,.agg cs] t Q
def kR{b:Nat}:tC yA 134 0 (.ptr b 0)=some (.ptr b 0):=by kernel_rfl
def zed{b:Nat}:tC yA 134 1 (.ptr b 0)=some (.ptr b 2):=by kernel_rfl
def BX.forms{bf bx:Nat}{s:List Nat}(h:BX 134 [.ptr bf 0] tf t bx s):cA yA 69 ⟨0,t⟩ (.ptr bx 2)=some (.ptr bf 0):=by
 obtain⟨_,_,_,_,_,p,tv,_,h4,_,_⟩:=h
 exact h4.load1 (j:=2) ty69 rfl rfl
section
variable {bf bx:Nat}{s:List Nat}{Q:mB}
theorem BX.len{T:Nat}{ex:List zA}(h:BX T ex tf t bx s):kB yA F 43 [.ptr bx 0] t=some (.int .i64 (s.length:Int)):=by
 obtain⟨h1,h2,h3,ha,hM,p,tv,hp,h4,h5,h6⟩:=h
 refine iC.2 (w43 ?_)
 unfold t43 uI sC uZ;have hlen:=h5.len
 rw[vG]at hlen;exact rA dG (rA fa77 (yC (h4.load1 (j:=1) mV rfl rfl) (rA hlen (qB ⟨rfl,rfl⟩))))
theorem ZM{y:lA}{d:Nat}{cs:List zA}{lev:Nat}(hy:WOk bf y)(hfit:y.fit)(hP:vI y d=true)(hF:lC tf bf none aU)(hM:nN tf)(hW:uV tf)(hr:RD tf y.d cs)(hB:BX 134 [.ptr bf 0] tf t bx s)(hs:s.length<=94000)(hd1:1<=d)
  (hQ:∀t' s',BX 134 [.ptr bf 0] tf t' bx s'->s'≠[]->s'.length<=max s.length (sL (25-d))+2->Wr s (qR lev ((bA y.op).level,eL y)) s'->Q (.tup []) t'):Wc yA F 123 [.ptr bx 0,.agg cs,.int .i64 (lev:Int)] t Q:=by
 obtain⟨a,b,c,rfl,ha,hb,hc⟩:=nI hr
 have hop:y.op<27:=by
  obtain⟨op,name,v,args⟩:=y
  unfold vI Eu at hP;simp only[ybb,decide_eq_true_eq]at hP;exact hP.1.2.1.1.1.1
 have hbm:sL (25-d)<=91000:=by grind [sL]
 refine w123 ?_
 unfold t123 uI sC uZ uY;refine rA dG (rA zed (yC hB.forms (rA dG (rA (CA hop) (rA (jR (by decide)) (yC (zid (hF.up hB.le) hop) (qB ?_)))))))
 by_cases hl:lev<=(bA y.op).level
 ·refine mA (yLe (by omega)) (wB ?_)
  rw[q62];exact hy d _ tf t bx s _ hfit hP hF hM hW hr hB (by omega) fun t' s' h1 h2 h3 h4=>hQ t' s' h1 h2 (by omega) (h4.eq (by unfold qR;rw[yab hl]))
 ·refine vB (nLe (by omega)) (rA dG (rA kR (wB ?_)))
  rw[q42];refine hB.write (by simp) (by intro x hx;simp_all) (by grind) fun _ t1 h1=>wB ?_
  rw[q62];refine hy d _ tf t1 bx _ _ hfit hP hF hM hW hr h1 (by grind) fun t2 s2 h2 h2n h2l h2w=>rA dG (rA kR (wB ?_))
  rw[q42];simp only[ybg,List.length_singleton]at h2l;refine h2.write (by simp) (by intro x hx;simp_all) (by grind) fun _ t3 h3=>?_
  exact hQ _ _ h3 (by simp) (by grind) ((((Wr.one _ _).trans h2w).trans (Wr.one _ _)).eq (by unfold qR;rw[yaa hl]))
theorem zfi{args:List lA}{d:Nat}{c:zA}(hall:∀y∈args,WOk bf y)(hfits:∀y∈args,y.fit)(hP:∀y∈args,vI y (d+1)=true)(hF:lC tf bf none aU)(hM:nN tf)(hW:uV tf)(hc:aA tf 9 (args.map lA.d) c)(hlen:args.length<=3)(hd:d<=24)
  {c0 c2 c7:Int} {c1:List Nat} {c3 c5:Bool} {c4 c6 c8:zA} {op:Nat} (hc0:c0=(op:Int)) (h19c:op=19->0<=c7/\c7<256):∀(k i:Nat) (t:Tr tA) (s:List Nat),i+k=args.length->BX 134 [.ptr bf 0] tf t bx s->s≠[]->s.length<=sL (24-d)+100+2*i →
  (∀t' s',BX 134 [.ptr bf 0] tf t' bx s'->s'≠[]->s'.length<=sL (24-d)+130->Wr s (oT (decide (i=0)) ((pI args).drop i)++Ap op c7) s'->Q (.tup []) t') →
  jp 124 2 [.ptr bx 0,c,.int .i64 (args.length:Int),.int .i64 (i:Int),.int .u8 c0,.str c1,.int .u8 c2,.bool c3,c4,.bool c5,c6,.int .i64 c7,c8] t Q:=by
 have hbm:sL (24-d)<=91000:=by grind [sL]
 intro k;induction k with
 | zero=>
  intro i t s hi hB hn hs hQ;refine zmg ?_
  unfold Ym uS uG jB kC sC uZ uY lF nE;refine vB (mP (by omega)) ?_
  have hdrop:(pI args).drop i=[]:=ybt (by grind [Jh])
  rw[hdrop,oT,yah]at hQ;unfold Ap at hQ;by_cases h19:op=19
  ·rw[yab h19]at hQ
   refine mA (yEq (by omega)) (rA dG (rA kR (wB ?_)))
   obtain⟨n,hn1,hn2,hn3⟩:∃n:Nat,fA .u8 c7=(n:Int)/\n<256/\c7.toNat=n:=⟨c7.toNat,by grind [Iw],by omega,rfl⟩
   obtain⟨hw1,hw2,hw3⟩:=WA (hW.mono hB.le) hn2
   rw[hn3]at hQ;rw[hn1,q170,hw1,uA];refine dD (rA (gS (by grind)) (dD (wB ?_)))
   rw[q42];refine hB.write (by simp) (iU (by intro x hx;grind) hw3) (by grind) fun _ t1 h1=>rA dG (rA kR (wB ?_))
   rw[q42];refine h1.write (by simp) (by intro x hx;simp_all) (by grind) fun _ t2 h2=>?_
   exact hQ _ _ h2 (by simp) (by grind) ((Wr.one _ _).trans (Wr.one _ _))
  ·rw[yaa h19,yah]at hQ
   refine vB (yN (by omega)) (rA dG (rA kR (wB ?_)))
   rw[q42];refine hB.write (by simp) (by intro x hx;simp_all) (by grind) fun _ t2 h2=>?_
   exact hQ _ _ h2 (by simp) (by grind) (Wr.one _ _)
 | succ k ih=>
  intro i t s hi hB hn hs hQ;have hlt:i<args.length:=by omega
  have hm:args[i]∈args:=ycj hlt
  refine zmg ?_
  unfold Ym uS uG jB kC sC uZ uY lF nE;obtain⟨b0,off0,cs,g1,g2,_,_,g5⟩:=gI.at sl29 (by simp) hc (i:=i) (d:=args[i].d) (by simp[hlt])
  have ld:cA yA 31 ⟨0,t⟩ (.ptr b0 off0)=some (Rm true cs):=Ro (H:=⟨0,tf⟩) (HA:=⟨0,t⟩) hB.le g2
  refine mA (xP (by omega)) (rA g1 (yC ld ?_))
  rw[Mt];refine dC (iW g5 (lA.zs _)) ?_
  have hmk:=g5.mk (lA.zs args[i])
  have hcs:[zA.int .u8 ((cellsOf cs).i 0),.str ((cellsOf cs).s 1),.int .u8 ((cellsOf cs).i 2),.bool ((cellsOf cs).b 3),(cellsOf cs).v 4,.bool ((cellsOf cs).b 5),(cellsOf cs).v 6,.int .i64 ((cellsOf cs).i 7),(cellsOf cs).v 8]=cs:=hmk
  rw[hcs];refine mA g5.all ?_
  have hli:i<(pI args).length:=by grind [Jh]
  have hgi:(pI args)[i]=((bA args[i].op).level,eL args[i]):=by simp[Jh]
  have hj:=zil hli
  rw[hgi]at hj;have next:∀t' s',BX 134 [.ptr bf 0] tf t' bx s'->s'≠[]->s'.length<=sL (24-d)+100+2*(i+1)->Wr s ((if i=0 then []else [44,32])++eL args[i]) s'->jp 124 2 [.ptr bx 0,c,.int .i64 (args.length:Int),.int .i64 (fA .i64 ((i:Int)+1)),.int .u8 c0,.str c1,.int .u8 c2,.bool c3,c4,.bool c5,c6,.int .i64 c7,c8] t' Q:=by
   intro t' s' h1 h2 h3 h4;rw[wrap_i64 (by omega) (by omega),show(i:Int)+1=((i+1:Nat):Int) by omega]
   exact ih (i+1) t' s' (by omega) h1 h2 h3 fun t2 s2 g1 g2 g3 g4=>hQ t2 s2 g1 g2 g3 ((h4.trans g4).eq (by simp_all))
  have e25:25-(d+1)=24-d:=by omega
  by_cases h0:0<i
  ·refine mA (xP (by omega)) (rA dG (rA kR (wB ?_)))
   rw[q42];refine hB.write (by simp) (by intro x hx;grind) (by grind) fun _ t1 h1=>wB ?_
   rw[q62];refine hall _ hm (d+1) _ tf t1 bx _ _ (hfits _ hm) (hP _ hm) hF hM hW g5 h1 (by grind) fun t2 s2 h2 h2n h2l h2w=>fC ?_
   have hn0:i≠0:=by omega
   exact next _ _ h2 h2n (by grind) (((Wr.one _ _).trans h2w).eq (by rw[yaa hn0]))
  ·refine vB (mP (by omega)) (wB ?_)
   rw[q62];refine hall _ hm (d+1) _ tf t bx _ _ (hfits _ hm) (hP _ hm) hF hM hW g5 hB (by omega) fun t2 s2 h2 h2n h2l h2w=>fC ?_
   grind
theorem zf4{op:Nat}{name:List Nat}{v:eD}{args:List lA}{d:Nat}{a b c:zA}(hall:∀y∈args,WOk bf y)(hfit:lA.fit (.mk op name v args))(hP:vI (.mk op name v args) d=true)(hs6:(bA op).style=6)(hF:lC tf bf none aU)(hM:nN tf)(hW:uV tf)
  (hc:aA tf 9 (args.map lA.d) c) (hB:BX 134 [.ptr bf 0] tf t bx s) (hs:s.length<=65536)
  (hQ:∀t' s',BX 134 [.ptr bf 0] tf t' bx s'->s'≠[]->s'.length<=sL (25-d)->Wr s (rQ op name v (pI args)) s'->Q (.tup []) t') :
  Wc yA F 124 [.ptr bx 0,.agg [.int .u8 op,.str name,.int .u8 v.kind,.bool v.f.n.neg,a,.bool v.f.d.neg,b,.int .i64 v.i,c],.ptr bf (op*8)] t Q:=by
 unfold vI Eu at hP;simp only[ybb,decide_eq_true_eq]at hP;obtain⟨⟨hd,⟨⟨⟨h27,_⟩,hl⟩,hm⟩,hnm⟩,hrest⟩:=hP
 obtain⟨f1,f2,f3,f4,f5,f6,f7,f8⟩:=ND h27
 have hw:=NC h27
 have h1:op≠1:=fun e=>by omega
 rw[yaa h1,ybb,Vt,ycb]at hrest;unfold lA.fit at hfit;have hfits:=lA.fits_mem hfit.2.2.2.2.2
 have hmax:sL (25-d)=sL (24-d)+200:=by grind [sL]
 have h19c:op=19->0<=v.i/\v.i<256:=by
  grind [bR]
 unfold rQ at hQ;rw[hs6]at hQ;simp only[Nat.reduceEqDiff,if_false]at hQ;have go9:∀t' s',BX 134 [.ptr bf 0] tf t' bx s'->s'≠[]->s'.length<=65536+100->Wr s ((bA op).word++[40]++(if (bA op).named then name++[44,32]else [])) s'->jp 124 9 [.ptr bx 0,.int .u8 op,.str name,.int .u8 v.kind,.bool v.f.n.neg,a,.bool v.f.d.neg,b,.int .i64 v.i,c] t' Q:=by
  intro t' s' k1 k2 k3 k4;refine j124_9 ?_
  unfold zk3 uI uZ uY;have hlen:=hc.len
  rw[ybf]at hlen;refine rA hlen (qB (fC ?_))
  refine zfi (d:=d) hall hfits (fun y hy=>hrest.2 y hy) hF hM hW hc (by omega) hd rfl h19c args.length 0 t' s' (by omega) k1 k2 (by grind [sL]) fun t2 s2 g1 g2 g3 g4=>hQ t2 s2 g1 g2 (by omega) ((k4.trans g4).eq (by simp_all))
 refine w124 ?_
 unfold t124 uB uS sC uZ uY;have hld:=zc8 (hF.up hB.le) h27
 refine rA dG (rA kR (rA dG (rA (jR (by decide)) (yC hld (dD (rA (gS (by grind)) (dD (wB ?_))))))))
 rw[q42];refine hB.write (by simp) (iU hw.2 (by intro x hx;simp_all)) (by grind) fun _ t1 h1=>?_
 refine rA dG (rA (jR (by decide)) (yC (KU (hF.up h1.le) h27) (iD ?_)))
 cases hn:(bA op).named with
 | true=>
  rw[hn,yab rfl]at hnm;have hnl:=JY hnm
  refine mA rfl (rA dG (rA kR (rA (gS (by grind)) (dD (wB ?_)))))
  rw[q42];refine h1.write (by simp) (iU hfit.2.2.1 (by intro x hx;grind)) (by grind) fun _ t2 h2=>fC ?_
  exact go9 _ _ h2 (by simp) (by grind) (((Wr.one _ _).trans (Wr.one _ _)).eq (by rw[hn,yab rfl]))
 | false=>exact vB (by simp) (fC (go9 _ _ h1 (by simp) (by grind) ((Wr.one _ _).eq (by grind))))
set_option maxHeartbeats 2000000 in
mutual
/-- THE WRITER COMES TO AN END -/
theorem EL:∀(x:lA),WOk bf x
 | .mk op name v args=>by
  have hall:=EK args
  intro d cs tf t bx s Q hfit hP hF hM hW hr hB hs hQ;have hP0:=hP
  have hfit0:=hfit
  obtain⟨a,b,c,rfl,ha,hb,hc⟩:=nI hr
  simp only[lA.op,lA.name,lA.v,lA.args]at ha hb hc ⊢
  unfold vI Eu at hP;simp only[ybb,decide_eq_true_eq]at hP;obtain⟨⟨hd,⟨⟨⟨h27,hs0⟩,hl⟩,hm⟩,hnm⟩,hrest⟩:=hP
  simp only[ycp,decide_eq_false_iff_not]at hs0;obtain⟨f1,f2,f3,f4,f5,f6,f7,f8⟩:=ND h27
  have hw:=NC h27
  unfold lA.fit at hfit;have hfits:=lA.fits_mem hfit.2.2.2.2.2
  have hmax:sL (25-d)=sL (24-d)+200:=by grind [sL]
  have e25:25-(d+1)=24-d:=by omega
  have hmb:sL (24-d)<=91000/\86000<=sL (24-d):=by grind [sL]
  refine w62 ?_
  unfold t62 uI uU uS uG sC uZ uY nE;refine rA dG (rA kR (wB ?_))
  rw[q43,hB.len,uA];refine qB ?_
  by_cases hbig:65536<s.length
  ·refine mA (xP (by omega)) ?_
   exact hQ t s hB (fun e=>by simp_all) (by omega) (Wr.big _ hbig)
  rw[eL]at hQ;refine vB (mP (by omega)) ?_
  have hFt:=hF.up hB.le
  refine rA dG (rA zed (yC hB.forms (rA dG (rA (CA h27) (rA dG (rA (jR (by decide)) (yC (KS hFt h27) (qB ?_))))))))
  have ldw:∀ {t'},zB tf t'->cA yA 9 ⟨0,t'⟩ (.ptr bf (op*8+1))=some (.str (bA op).word):=fun h=>zc8 (hF.up h) h27
  have notc:(bA op).style≠1->Cw args (d+1)=true:=by
   grind
  have arg:∀(i:Nat) (lev:Nat) (t1:Tr tA) (s1:List Nat) (K:zA->T) (Q:mB) (k:Nat),(bA op).style≠1->i<args.length->k<8->BX 134 [.ptr bf 0] tf t1 bx s1->s1.length<=94000->cA yA 3 ⟨0,t1⟩ (.ptr bf (op*8+k))=some (.int .i64 (lev:Int)) →
    (∀t' s',BX 134 [.ptr bf 0] tf t' bx s'->s'≠[]->s'.length<=max s1.length (sL (24-d))+2->Wr s1 (qR lev ((pI args).getD i (0,[]))) s'->wp 62 (K (.tup [])) t' Q) →
    wp 62 (.opt (uC yA 29 c (.int .i64 (i:Int))) fun a36=>.light (fun m=>cA yA 31 ⟨0,m⟩ a36) fun a37=>.asG [(.int .u8 0),(.str []),(.int .u8 0),(.bool false),.nilslice,(.bool false),.nilslice,(.int .i64 0),.nilslice] a37 fun X38=>
     .opt (Dl (.ptr bf (op*8))) fun a39=>.opt (tC yA 131 k a39) fun a40=>.light (fun m=>cA yA 3 ⟨0,m⟩ a40) fun a41=>.asI .i64 a41 fun n42=>.call 123 [.ptr bx 0,(.agg [(.int .u8 (X38.i 0)),(.str (X38.s 1)),(.int .u8 (X38.i 2)),(.bool (X38.b 3)),(X38.v 4),(.bool (X38.b 5)),(X38.v 6),(.int .i64 (X38.i 7)),(X38.v 8)]),(.int .i64 n42)] K) t1 Q:=by
   intro i lev t1 s1 K Q k hne hi hk h1 hs1 hldp hQ';have hm:args[i]∈args:=ycj hi
   obtain⟨b0,off0,cs,g1,g2,_,_,g5⟩:=gI.at sl29 (by simp) hc (i:=i) (d:=args[i].d) (by simp[hi])
   have ld:cA yA 31 ⟨0,t1⟩ (.ptr b0 off0)=some (Rm true cs):=Ro (H:=⟨0,tf⟩) (HA:=⟨0,t1⟩) h1.le g2
   refine rA g1 (yC ld ?_)
   rw[Mt];refine dC (iW g5 (lA.zs _)) ?_
   have hmk:=g5.mk (lA.zs args[i])
   have hcs:[zA.int .u8 ((cellsOf cs).i 0),.str ((cellsOf cs).s 1),.int .u8 ((cellsOf cs).i 2),.bool ((cellsOf cs).b 3),(cellsOf cs).v 4,.bool ((cellsOf cs).b 5),(cellsOf cs).v 6,.int .i64 ((cellsOf cs).i 7),(cellsOf cs).v 8]=cs:=hmk
   rw[hcs];refine rA dG (rA (jR hk) (yC hldp (qB (wB ?_))))
   rw[q123];have hPy:vI args[i] (d+1)=true:=by
    grind [Vt]
   grind [Jh,ZM]
  have hQ0:=hQ
  have hd1:(bA op).style=1->rQ op name v (pI args)=sU v:=fun e=>by unfold rQ;rw[yab e]
  have hd2:(bA op).style=2->rQ op name v (pI args)=(bA op).word:=fun e=>by unfold rQ;rw[yaa (by omega),yab e]
  have hd3:(bA op).style=3->rQ op name v (pI args)=(bA op).word++name++[32,97,116,32]++qR (bA op).left ((pI args).getD 0 (0,[])):=fun e=>by unfold rQ;rw[yaa (by omega),yaa (by omega),yab e]
  have hd4:(bA op).style=4->rQ op name v (pI args)=qR (bA op).left ((pI args).getD 0 (0,[]))++([32]++(bA op).word++[32]++qR (bA op).right ((pI args).getD 1 (0,[]))):=fun e=>by unfold rQ;rw[yaa (by omega),yaa (by omega),yaa (by omega),yab e]
  have hd5:(bA op).style=5->rQ op name v (pI args)=(bA op).word++qR (bA op).left ((pI args).getD 0 (0,[])):=fun e=>by unfold rQ;rw[yaa (by omega),yaa (by omega),yaa (by omega),yaa (by omega),yab e]
  have done:∀t' s',BX 134 [.ptr bf 0] tf t' bx s'->s'≠[]->s'.length<=sL (25-d)->Wr s (rQ op name v (pI args)) s'->wp 62 (.ret (.tup [])) t' Q:=fun t' s' k1 k2 k3 k4=>hQ0 t' s' k1 k2 (by omega) k4
  have i0:((0:Nat):Int)=0:=rfl
  have i1:((1:Nat):Int)=1:=rfl
  have arg0:=arg 0
  have arg1:=arg 1
  rw[i0]at arg0;rw[i1]at arg1;have style:(bA op).style=1\/(bA op).style=2\/(bA op).style=3\/(bA op).style=4\/(bA op).style=5\/(bA op).style=6:=by omega
  rcases style with e | e | e | e | e | e
  ·-- a constant
   refine mA (yEq (by omega)) (rA dG (rA kR (wB ?_)))
   have hop1:=f1 e
   rw[yab hop1]at hrest;obtain⟨v1,v2,v3⟩:=EQ hfit.2.2.2.1 hrest
   have hv:=ER (date:=fM v.i.toNat) (ha.mono hB.le) (hb.mono hB.le) hfit.2.2.2.1 hrest (fun hk=>by
    have hp:=hrest
    unfold xH at hp;rw[yaa (by omega),yaa (by omega),yab hk]at hp
    simp only[ybb,decide_eq_true_eq]at hp;have hn:v.i.toNat<65536:=by omega
    rw[<- PX hn,show((v.i.toNat:Nat):Int)=v.i by omega]
    exact zmx (hM.mono hB.le) hp.2.1 hp.2.2)
   rw[show Mq (fM v.i.toNat) v=sU v from rfl]at hv
   rw[q35,hv,uA];refine dD (wB ?_)
   rw[q42];refine hB.write v1 v3 (by omega) fun _ t1 h1=>done _ _ h1 (by simp[v1]) (by grind) ((Wr.one _ _).eq (hd1 e).symm)
  ·-- a word
   refine vB (yN (by omega)) (mA (yEq (by omega)) (rA dG (rA kR (rA dG (rA (jR (by decide)) (yC (ldw hB.le) (dD (wB ?_))))))))
   rw[q42];refine hB.write (f2 e) hw.2 (by omega) fun _ t1 h1=>done _ _ h1 (by simp[f2 e]) (by grind) ((Wr.one _ _).eq (hd2 e).symm)
  ·-- word,name,at
   have hnl:name.length<=24:=by
    grind [JY,sN]
   have h3:=f3 e
   refine vB (yN (by omega)) (vB (yN (by omega)) (mA (yEq (by omega)) (rA dG (rA kR (rA dG (rA (jR (by decide)) (yC (ldw hB.le) (dD (rA (gS (by omega)) (dD (rA (gS (by grind)) (dD (wB ?_)))))))))))))
   rw[q42];refine hB.write (by simp) (iU (iU hw.2 hfit.2.2.1) (by intro x hx;grind)) (by grind) fun _ t1 h1=>?_
   refine arg0 _ t1 _ _ _ 6 (by omega) (by omega) (by decide) h1 (by grind) (BE (hF.up h1.le) h27) fun t2 s2 k1 k2 k3 k4=>done _ _ k1 k2 (by grind) (((Wr.one _ _).trans k4).eq (hd3 e).symm)
  ·-- an operator
   have h4:=f4 e
   refine vB (yN (by omega)) (vB (yN (by omega)) (vB (yN (by omega)) (mA (yEq (by omega)) ?_)))
   refine arg0 _ t _ _ _ 6 (by omega) (by omega) (by decide) hB (by omega) (BE hFt h27) fun t1 s1 k1 k2 k3 k4=>?_
   refine rA dG (rA kR (rA dG (rA (jR (by decide)) (yC (ldw k1.le) (dD (rA (gS (by grind)) (dD (rA (gS (by grind)) (dD (wB ?_))))))))))
   rw[q42];refine k1.write (by simp) (iU (iU (by intro x hx;simp_all) hw.2) (by intro x hx;simp_all)) (by grind) fun _ t2 h2=>?_
   refine arg1 _ t2 _ _ _ 7 (by omega) (by omega) (by decide) h2 (by grind) (zic (hF.up h2.le) h27) fun t3 s3 m1 m2 m3 m4=>done _ _ m1 m2 (by grind) ((k4.trans ((Wr.one _ _).trans m4)).eq (hd4 e).symm)
  ·-- not
   have h5:=f5 e
   refine vB (yN (by omega)) (vB (yN (by omega)) (vB (yN (by omega)) (vB (yN (by omega)) (mA (yEq (by omega)) (rA dG (rA kR (rA dG (rA (jR (by decide)) (yC (ldw hB.le) (dD (wB ?_)))))))))))
   rw[q42];refine hB.write h5.2 hw.2 (by omega) fun _ t1 h1=>?_
   refine arg0 _ t1 _ _ _ 6 (by omega) (by omega) (by decide) h1 (by grind) (BE (hF.up h1.le) h27) fun t2 s2 k1 k2 k3 k4=>done _ _ k1 k2 (by grind) (((Wr.one _ _).trans k4).eq (hd5 e).symm)
  ·-- a call
   refine vB (yN (by omega)) (vB (yN (by omega)) (vB (yN (by omega)) (vB (yN (by omega)) (vB (yN (by omega)) (mA (yEq (by omega)) (wB ?_))))))
   rw[q124];grind [zf4]
theorem EK:∀(l:List lA),∀y∈l,WOk bf y
 | [],_,h=>by cases h
 | x::l,y,h=>by
  rcases ybs.1 h with e | h
  ·rw[e];exact EL x
  ·exact EK l y h
end
end
end
section
variable {x:lA}{cs:List zA}{Q:mB}
variable [nC]
variable {t tf:Tr tA}
theorem XF   (hfit:x.fit)(hP:vI x 1=true)(hM:nN t)(hW:uV t)(hr:RD t x.d cs)(hQ:∀t' s,zB t t'->s≠[]->Wr [] (eL x) s->s.length<=91000->oB 256 s->Q (.str s) t'):Wc yA F 28 [.agg cs] t Q:=by
 obtain⟨a,b,c,rfl,ha,hb,hc⟩:=nI hr
 refine w28 ?_
 unfold t28 uS jB sC uZ uY;refine wB ?_
 rw[q59];refine JT fun bf t1 h1 h2 h3 h4 h5=>?_
 refine mA rfl (eC fun bx hbx hbb=>?_)
 obtain⟨t2,e1,e2,e3,e4⟩:=Hd hbx [.nilptr,.nilslice,.ptr bf 0] (some (.ty 134))
 have hbox:Jg yA 134 (.agg [.nilptr,.nilslice,.ptr bf 0]) ⟨bx,t1⟩=some (.ptr bx 0,⟨bx+1,t2⟩):=by
  unfold Jg;have:pK yA 134=some (.ty 134):=by kernel_rfl
  rw[this,<- e1];rfl
 refine⟨_,_,hbox,wB ?_⟩
 have hB:BX 134 [.ptr bf 0] t1 t2 bx []:=⟨hbb,hbx,e3,(by intro x hx;cases hx),rfl,.nilptr,.nilslice,.inl rfl,e2,.inl ⟨rfl,rfl⟩,BY,fun _=>rfl⟩
 rw[q62];refine EL x 1 _ t1 t2 bx [] _ hfit hP h3 (hM.mono h4) (hW.mono h4) (hr.mono h4) hB (by simp) fun t3 s h6 h7 h8 hw=>?_
 refine rA dG (rA kR (wB ?_))
 rw[q44];have hl:s.length<=91000:=by
  grind [sL]
 exact h6.string (by omega) fun t4 h9=>dD (hQ _ _ (h4.trans h9) h7 hw hl h6.2.2.2.1)
theorem Wr.len{T s:List Nat}(h:Wr [] T s):(65536<s.length->65536<T.length)/\(¬ 65536<s.length->s=T/\¬ 65536<T.length):=by
 rcases h with rfl | ⟨h1,h2⟩
 all_goals simp_all
def Uo(x:lA):zA:=if vI x 1=true then(if 65536<(eL x).length then .tup [.str [],.int .i64 3]else .tup [.str (eL x),.int .i64 0])else .tup [.str [],.int .i64 2]
theorem zi7   (hfit:x.fit)(hM:nN t)(hW:uV t)(hr:RD t x.d cs)
  (hQ:∀t',zB t t'->(vI x 1=true->¬ 65536<(eL x).length->oB 256 (eL x))->Q (Uo x) t'):Wc yA F 9 [.agg cs] t Q:=by
 have hr0:=hr
 obtain⟨a,b,c,rfl,ha,hb,hc⟩:=nI hr
 refine w9 ?_
 unfold t9 uB uS uG uZ uY;refine wB ?_
 rw[q26];refine VU fun bf t1 h1 h2 h3 h4 h5=>?_
 have e:(cellsOf [zA.ptr bf 0]).v 0=.ptr bf 0:=rfl
 refine dC (zO rfl) (mA hr0.sameA (wB ?_))
 have he:=NZ h3 x 1 _ hfit (by omega) (hr0.mono h4)
 rw[show((1:Nat):Int)=1 from rfl]at he
 rw[q27,e,he,uA];refine iD ?_
 cases hP:vI x 1 with
 | false=>
  refine mA rfl ?_
  have:=hQ _ h4 (fun e=>by simp_all)
  unfold Uo at this;rw[hP]at this;exact this
 | true=>
  refine vB (by simp) (wB ?_)
  rw[q28];refine XF hfit hP (hM.mono h4) (hW.mono h4) (hr0.mono h4) fun t2 s h6 h7 hw _ hlt=>dD ?_
  have hq:=hQ _ (h4.trans h6) (fun _ hn=>by
   by_cases hl:65536<s.length
   ·exact absurd (hw.len.1 hl) hn
   ·rw[<- (hw.len.2 hl).1];exact hlt)
  unfold Uo at hq;rw[yab hP]at hq;by_cases hl:65536<s.length
  ·refine mA (xP (by rw[kX];omega)) ?_
   rw[yab (hw.len.1 hl)]at hq
   exact hq
  ·refine vB (mP (by rw[kX];omega)) ?_
   obtain⟨k1,k2⟩:=hw.len.2 hl
   rw[yaa k2,<- k1]at hq;exact hq
end
end Go.Proofs
