/- strings.Builder: text that grows. -/
import Derived.KernelRfl
import Derived.Test.YtefajchlhjcgpaaGreatDoorB20
set_option linter.all false
noncomputable section
set_option maxRecDepth 100000
namespace Go.Am
open Go Go.RowKit
theorem CJ{C:lA}{F:Tr aD}{f:Nat}{args:List zA}{t:Tr tA}{Q:mB}{g:List zA->xA->Option (zA × xA)}(hg:C.prims.get f=some g)(h:∀X HA,Ov C.base t X HA->∃v t' HA',g args HA=some (v,HA')/\Ov C.base t' X HA'/\Q v t')(hf:Nat.blt f yo=true:=by rfl):Wc C F f args t Q:=by
 intro X HA ho;rw[Gj hf,hg];obtain⟨v,t',HA',h1,h2,h3⟩:=h X HA ho
 exact⟨⟨v,false⟩,t',HA',X,by simp_all,h2,pI.refl _,h3⟩
end Go.Am
namespace Go.Proofs
open Go Go.Am
variable [rC]
variable {t tf:Tr tA}{bx T:Nat}{s m:List Nat}{ex:List zA}
def el96:Br yA 96 5 1:=⟨⟨_,bT,rfl,rfl⟩,⟨_,ty5,rfl,rfl,by decide,by decide⟩⟩
def mG{b o:Nat}:Bx (.ptr b o)=some (.ptr b o):=rfl
def BX (T:Nat)(ex:List zA)(tf t:Tr tA)(bx:Nat)(s:List Nat):Prop:=
 yA.base<=bx/\tf.get bx=none/\bA tf t/\qB 256 s/\Mn Mm T (ex.length+2)=true/\∃p tv,(p=zA.nilptr\/p=.ptr bx 0)/\iC t bx (some (.ty T)) (p::tv::ex)/\tG (.ty 5) yA.base tf t 1 (fB .u8 s) tv/\(¬ mM tv bx/\(s=[]->tv=.nilslice))
def BX.le(h:BX T ex tf t bx s):bA tf t:=h.2.2.1
theorem BX.check{Q:mB}(h:BX T ex tf t bx s)(hQ:∀t',BX T ex tf t' bx s->Q (.tup []) t'):Wc yA F 87 [.ptr bx 0] t Q:=by
 have h0:=h
 obtain⟨h1,h2,h3,ha,hM,p,tv,hp,⟨c,h4,h4'⟩,h5,h6⟩:=h
 have hg:yA.prims.get 87=some pChk:=by kernel_rfl
 refine CJ hg fun X HA ho=>?_
 have hk:qD HA bx=some (c,(p::tv::ex).length,some (.ty T)):=by unfold qD;rw[ho.up h4];rfl
 have hc0:c.get 0=some p:=h4' 0 p rfl
 rcases hp with rfl | rfl
 ·refine⟨.tup [],t.set bx (.cells (c.set 0 (.ptr bx 0)) (zA.nilptr::tv::ex).length (some (.ty T))),setBlk HA bx (.cells (c.set 0 (.ptr bx 0)) (zA.nilptr::tv::ex).length (some (.ty T))),?_,ho.setBlk h4 _,hQ _ ?_⟩
  ·unfold pChk Fh
   simp only[];rw[hk,qA,hc0,qA];simp only[];have e1:(!Nat.blt bx (256+rC.n))=true:=by
    cases hq:Nat.blt bx (256+rC.n)with
    | true=>
     have h3:=nC.1 hq
     have h1':256+rC.n<=bx:=h1
     omega
    | false=>rfl
   simp_all
  ·refine⟨h1,h2,fun b u hb=>?_,ha,hM,.ptr bx 0,tv,.inr rfl,⟨_,by rw[Tr.get_set,yab rfl];rfl,fun j a hj=>?_⟩,h5.keep' fun b hb=>?_,h6⟩
   ·have:b≠bx:=fun e=>by simp_all
    rw[Tr.get_set,yaa this];exact h3 _ _ hb
   all_goals grind [Tr.get_set]
 ·refine⟨.tup [],t,HA,?_,ho,hQ _ h0⟩
  simp_all [pChk,Fh]
def fa77{b:Nat}:pC yA 98 1 (.ptr b 0)=some (.ptr b 1):=by kernel_rfl
theorem BX.write{Q:mB}(h:BX T ex tf t bx s)(hm:m≠[])(hlt:qB 256 m)(hl:s.length+m.length<400000)(hQ:∀v t',BX T ex tf t' bx (s++m)->Q v t'):Wc yA F 42 [.ptr bx 0,.str m] t Q:=by
 refine w42 ?_
 unfold t42 oC uZ;refine xB ?_
 rw[q87];refine h.check fun t' h'=>?_
 obtain⟨h1,h2,h3,ha,hM,p,tv,hp,h4,h5,h6⟩:=h'
 refine rA mG (rA fa77 (aB (h4.load1 (j:=1) bT rfl rfl) (gC fun n hn hbase=>?_)))
 have hbn:n≠bx:=by intro e;obtain⟨c,hh,_⟩:=h4;simp_all
 obtain⟨t1,g1,g2,g3,g4⟩:=QL el96 ⟨_,yL,rfl⟩ co5 h5 hm hl hn hbase h3
 refine⟨_,_,g1,rA mG (rA fa77 (gC fun n2 _ _=>?_))⟩
 have h4':iC t1 bx (some (.ty T)) (p::tv::ex):=h4.off (g4 bx hbn.symm h6.1)
 obtain⟨t2,e1,e2,e3⟩:=h4'.store1 (v:=.slice n 0 (s.length+m.length) (s.length+m.length)) h1 bT rfl rfl rfl (j:=1) (by simp)
 refine⟨_,_,e1 n2,hQ _ _ ⟨h1,h2,g3.off h2 e3,fun x hx=>?_,hM,p,_,hp,e2,g2.keep' fun b hb=>e3 b fun e=>?_,fun e=>?_,fun e=>absurd (List.append_eq_nil_iff.1 e).2 hm⟩⟩
 ·rcases yaf.1 hx with hx | hx
  ·exact ha x hx
  ·exact hlt x hx
 all_goals grind [Cx]
def JR:∀ {l:List Nat},qB 256 l->aF Go.Am.byteOf (l.map fun(n:Nat)=>zA.int .u8 (n:Int))=some l
 | [],_=>rfl
 | x::l,h=>by
  have hx:Go.Am.byteOf (.int .u8 (x:Int))=some x:=by
   show wB (Nat.blt x 256) (some x)=_
   rw[nC.2 (h x (.head _))];rfl
  rw[ycm,fN,hx,qA,JR fun y hy=>h y (.tail _ hy)]
  rfl
theorem BX.string{Q:mB}(h:BX T ex tf t bx s)(hl:s.length<400000)(hQ:∀t',bA tf t'->Q (.str s) t'):Wc yA F 44 [.ptr bx 0] t Q:=by
 obtain⟨h1,h2,h3,ha,hM,p,tv,hp,⟨c,h4,h4'⟩,h5,h6⟩:=h
 have hg:yA.prims.get 44=some pStr:=by kernel_rfl
 rcases h5 with⟨rfl,h5⟩ | ⟨b,cl,d,rfl,k0,k1,k2,k3,k4⟩
 ·refine CJ hg fun X HA ho=>?_
  have hk:qD HA bx=some (c,(p::zA.nilslice::ex).length,some (.ty T)):=by unfold qD;rw[ho.up h4];rfl
  have hc1:=h4' 1 _ rfl
  have hs:s=[]:=by grind [fF]
  subst hs;refine⟨.str [],t,HA,?_,ho,hQ _ h3⟩
  unfold pStr Fg;simp only[];rw[hk,qA,hc1,qA]
 have hs:s≠[]:=fun e=>by simp_all
 have hpos:0<s.length:=List.length_pos_iff.2 hs
 rw[fF,Nat.mul_one]at k2;rw[Du]at k4;subst k4;have hbytes:∀j a,(s.map fun(n:Nat)=>zA.int .u8 (n:Int))[j]?=some a->d.get j=some a:=by
  intro j a hj;have hj':(mS .u8 s)[j]?=some [a]:=by
   grind [mS]
  have:=(k3 j _ hj').2 0 a rfl
  simp_all
 refine CJ hg fun X HA ho=>?_
 have hk:qD HA bx=some (c,(p::zA.slice b 0 (fB .u8 s).length (fB .u8 s).length::ex).length,some (.ty T)):=by unfold qD;rw[ho.up h4];rfl
 have hk2:qD HA b=some (d,s.length,some (.ty 5)):=by unfold qD;rw[ho.up k2];rfl
 have hc1:=h4' 1 _ rfl
 refine⟨.str s,t.del b,⟨HA.next,HA.t.del b⟩,?_,ho.delBlk k2,hQ _ fun e u he=>?_⟩
 ·unfold pStr Fg
  simp only[];rw[hk,qA,hc1,qA];unfold Qz;simp only[];rw[hk,qA,hc1,qA];simp only[zA.asSlice,qA,fF];rw[hk2,qA];simp only[];have hm:=JH hbytes s.length 0 (by simp)
  rw[ycr,yca (by simp)]at hm
  rw[hm,qA,JR ha,qA];have e1:(!Nat.blt b (256+rC.n))=true:=by
   cases hq:Nat.blt b (256+rC.n)with
   | true=>
    have h3:=nC.1 hq
    have h1':256+rC.n<=b:=k0
    omega
   | false=>rfl
  rw[e1,fC.2 rfl,nC.2 hpos,fE.2 (ybk _),nC.2 (show s.length<1000000000 by omega),fC.2 rfl]
  rfl
 ·have:e≠b:=fun h=>by simp_all
  rw[Tr.get_del,yaa this];exact h3 _ _ he
end Go.Proofs
namespace Go.Proofs
open Go Go.Am
section
variable {n:Nat}{Q:mB}
variable [rC]
variable {t tf:Tr tA}{bx:Nat}{s m:List Nat}
def TX (tf t:Tr tA)(bx:Nat)(s:List Nat):Prop:=yA.base<=bx/\tf.get bx=none/\bA tf t/\∃tv,iC t bx none [tv]/\tG (.ty 5) yA.base tf t 1 (fB .u8 s) tv/\¬ mM tv bx
theorem TX.both(h:TX tf t bx s) (hn:t.get n=none)(y:tA):TX (tf.set n y) (t.set n y) bx s:=by
 obtain⟨h1,h2,h3,tv,h4,h5,h6⟩:=h
 have hbx:bx≠n:=by intro e;obtain⟨c,h,_⟩:=h4;simp_all
 refine⟨h1,by grind [Tr.get_set],FU hn h3,tv,h4.off (by rw[Tr.get_set,yaa hbx]),?_,h6⟩
 have hb:∀b,mM tv b->b≠n:=fun b hb e=>WP h5 hb (e ▸ hn)
 rcases h5 with⟨rfl,h5⟩ | ⟨b,cl,c,rfl,k0,k1,k2,k3,k4⟩
 ·exact .inl ⟨rfl,h5⟩
 ·have hbn:=hb b (Cx.2 rfl)
  exact .inr ⟨b,cl,c,rfl,k0,by grind [Tr.get_set],by grind [Tr.get_set],k3,uD.mono (fun c u hc=>by
   grind [Ii,Tr.get_set]) _ _ k4⟩
theorem TX.out {y:tA}(hn:tf.get n=none)(h:TX (tf.set n y) t bx s):TX tf (t.del n) bx s:=by
 obtain⟨h1,h2,h3,tv,h4,h5,h6⟩:=h
 have hbx:bx≠n:=by grind [Tr.get_set]
 have hle:bA tf (tf.set n y):=(nO hn y).1
 rw[Tr.get_set,yaa hbx]at h2;refine⟨h1,h2,fun c u hc=>?_,tv,h4.off (by rw[Tr.get_del,yaa hbx]),?_,h6⟩
 ·have:c≠n:=fun e=>by simp_all
  rw[Tr.get_del,yaa this];exact h3 _ _ (hle _ _ hc)
 ·rcases h5 with⟨rfl,h5⟩ | ⟨b,cl,c,rfl,k0,k1,k2,k3,k4⟩
  ·exact .inl ⟨rfl,h5⟩
  ·have hbn:b≠n:=by grind [Tr.get_set]
   refine .inr ⟨b,cl,c,rfl,k0,by grind [Tr.get_set],by grind [Tr.get_del],k3,?_⟩
   grind [Du]
theorem TX.load(h:TX tf t bx s):∃tv,iA yA 96 ⟨0,t⟩ (.ptr bx 0)=some tv/\iC t bx none [tv]/\tG (.ty 5) yA.base tf t 1 (fB .u8 s) tv/\¬ mM tv bx:=by
 obtain⟨h1,h2,h3,tv,h4,h5,h6⟩:=h
 exact⟨tv,h4.load1 bT rfl rfl,h4,h5,h6⟩
theorem TX.put{t1:Tr tA}{k:Nat}{tv:zA}(hb:yA.base<=bx)(hf:tf.get bx=none)(hc:iC t1 bx none [tv])(hl:tG (.ty 5) yA.base tf t1 1 (fB .u8 s) (.slice n 0 k k))(hle:bA tf t1)(hn:n≠bx) :
  ∃t2,(∀n',sC yA 96 (.ptr bx 0) (.slice n 0 k k) ⟨n',t1⟩=some (pD,⟨n',t2⟩))/\TX tf t2 bx s:=by
 obtain⟨t2,g1,g2,g3⟩:=hc.store1 (v:=.slice n 0 k k) hb bT rfl rfl rfl (j:=0) (by simp)
 refine⟨t2,g1,hb,hf,hle.off hf g3,_,g2,hl.keep' fun b hb'=>g3 b fun e=>?_,fun e=>?_⟩
 all_goals grind [Cx]
theorem TX.add(h:TX tf t bx s)(hm:m≠[])(hl:s.length+m.length<400000):∃tv,iA yA 96 ⟨0,t⟩ (.ptr bx 0)=some tv/\∀n,t.get n=none->yA.base<=n →
  ∃w t1 t2,aG yA 96 9 tv (.str m) ⟨n,t⟩=some (w,⟨n+1,t1⟩)/\(∀n',sC yA 96 (.ptr bx 0) w ⟨n',t1⟩=some (pD,⟨n',t2⟩))/\TX tf t2 bx (s++m):=by
 obtain⟨tv,h1,h2,h3,h4⟩:=h.load
 refine⟨tv,h1,fun n hn hbase=>?_⟩
 have hbn:n≠bx:=by intro e;obtain⟨c,hh,_⟩:=h2;simp_all
 obtain⟨t1,g1,g2,g3,g4⟩:=QL el27 ⟨_,yL,rfl⟩ co5 h3 hm hl hn hbase h.2.2.1
 obtain⟨t2,g5,g6⟩:=TX.put h.1 h.2.1 (h2.off (g4 bx hbn.symm h4)) g2 g3 hbn
 grind
theorem TX.byte(h:TX tf t bx s)(x:Nat)(hl:s.length+1<400000):∃tv,iA yA 96 ⟨0,t⟩ (.ptr bx 0)=some tv/\∀n,t.get n=none->yA.base<=n →
  ∃H1,wE yA 96 1 [(0,.int .u8 (x:Int))] ⟨n,t⟩=some (.slice n 0 1 1,H1)/\∀n2,H1.t.get n2=none->yA.base<=n2 →
   ∃w t1 t2,aG yA 96 96 tv (.slice n 0 1 1) ⟨n2,H1.t⟩=some (w,⟨n2+1,t1⟩)/\(∀n',sC yA 96 (.ptr bx 0) w ⟨n',t1⟩=some (pD,⟨n',t2⟩))/\TX tf t2 bx (s++[x]):=by
 obtain⟨tv,h1,h2,h3,h4⟩:=h.load
 refine⟨tv,h1,fun n hn hbase=>?_⟩
 obtain⟨H1,c1,c2,c3⟩:=Zd (k:=.u8) bT rfl ty5 rfl rfl x trivial hn
 refine⟨H1,c1,fun n2 hn2 hbase2=>?_⟩
 have hcel:iC H1.t bx none [tv]:=h2.off (by
  obtain⟨c,hh,_⟩:=h2
  rw[c3 _ _ hh,hh])
 have hbn:n2≠bx:=by intro e;obtain⟨c,hh,_⟩:=hcel;simp_all
 have h3':tG (.ty 5) yA.base tf H1.t 1 (fB .u8 s) tv:=h3.keep' fun b hb=>by
  obtain⟨_,_,y,hy⟩:=h3.none hb
  rw[c3 _ _ hy,hy]
 obtain⟨t1,g1,g2,g3,g4⟩:=QO el27 co5 h3' (c2.all (cap:=1) (ybk _)) (by simp) (by omega) hn2 hbase2 (h.2.2.1.trans c3)
 simp only[List.length_singleton]at g1 g2;obtain⟨t2,g5,g6⟩:=TX.put h.1 h.2.1 (hcel.off (g4 bx hbn.symm h4)) g2 g3 hbn
 grind
theorem zew {c:Nat}(hm:m≠[])(hc:c<100)(hml:m.length<100):∀(k i:Nat) (s:List Nat) (t:Tr tA),i+k=c->s.length+k+m.length<400000->TX tf t bx s->(∀t',TX tf t' bx (s++(List.replicate k 48++m))->Q (.bool true) t') →
  jp 183 10 [.ptr bx 0,.str m,.int .i64 (c:Int),.int .i64 (i:Int)] t Q:=by
 intro k;induction k with
 | zero=>
  intro i s t hi hl h hQ;refine LX ?_
  simp only[vC,uZ,uY,Wn,oA,gE];rw[yaa (by omega)]
  obtain⟨tv,g1,g2⟩:=h.add hm (by omega)
  grind [vA]
 | succ k ih=>
  intro i s t hi hl h hQ;refine LX ?_
  simp only[vC,uZ,uY,Wn,oA,gE];rw[yab (by omega)]
  obtain⟨tv,g1,g2⟩:=h.byte 48 (by omega)
  rw[g1,vA];intro n hn hbase;obtain⟨H1,g3,g4⟩:=g2 n hn hbase
  rw[show((48:Nat):Int)=48 from rfl]at g3
  rw[g3,vA];intro n2 hn2 hbase2;obtain⟨w,t1,t2,g5,g6,g7⟩:=g4 n2 hn2 hbase2
  simp only[];rw[g5,vA];intro n3 _ _;rw[g6,vA];rw[wrap_i64 (by omega) (by omega),show(i:Int)+1=((i+1:Nat):Int) by omega]
  refine ih (i+1) (s++[48]) t2 (by omega) (by grind) g7 fun t' h'=>hQ t' ?_
  grind
def zki{u:Nat}(h:u<18446744073709551616):lB yA F 238 [.int .u64 (u:Int),.int .i64 10] t=some (.str (oG u)):=by
 have hg:yA.prims.get 238=some (rL Ma):=by kernel_rfl
 refine Fdzx hg fun H=>?_
 show wB (mE 0 (u:Int)&&jB (u:Int) 18446744073709551616&&kB 10 10) (some (zA.str (nL (u:Int))))=_
 rw[Na,sI.2 (by omega),gE.2 (by omega)]
 rfl
def Oi(s:List Nat)(x:Nat):List Nat:=if s=[]\/s=[45]then s++oG x else s++jR 9 x
theorem zn3 {x:Nat}(h:TX tf t bx s)(hx:x<1000000000)(hs:s.length<300000)(hlt:qB 256 s)(hQ:∀t',TX tf t' bx (Oi s x)->Q (.bool true) t'):jp 183 6 [.ptr bx 0,.int .u32 (x:Int)] t Q:=by
 have hd:=Te x
 have hd9:(oG x).length<=9:=Nw (by decide) (by omega)
 have hne:oG x≠[]:=fun e=>by simp_all
 have hpad:s≠[]->s≠[45]->jp 183 10 [.ptr bx 0,.str (oG x),.int .i64 (fA .i64 (9-Int.ofNat (aA (oG x)))),.int .i64 0] t Q:=by
  intro h1 h2;have e:fA .i64 (9-Int.ofNat (aA (oG x)))=((9-(oG x).length:Nat):Int):=by
   grind [lD,wrap_i64]
  rw[e];refine zew hne (by omega) (by omega) _ 0 s t (ybw _) (by omega) h fun t' h'=>hQ t' ?_
  grind [Oi,zlh]
 have hadd:s=[]\/s=[45]->∃tv,iA yA 96 ⟨0,t⟩ (.ptr bx 0)=some tv/\∀b,t.get b=none->yA.base<=b->oD (aG yA 96 9 tv (.str (oG x)) ⟨b,t⟩) fun p=>∀b,p.2.t.get b=none->yA.base<=b->oD (sC yA 96 (.ptr bx 0) p.1 ⟨b,p.2.t⟩) fun p=>Q (.bool true) p.2.t:=by
  intro hs';obtain⟨tv,g1,g2⟩:=h.add hne (by omega)
  grind [vA,Oi]
 obtain⟨tv,l1,l2,l3,l4⟩:=h.load
 refine j183_6 ?_
 simp only[uQ15,uI,uU,uS,uZ,uW,zh4,oA,q238];rw[nF (by omega) (by omega),zki (by omega),vA]
 simp only[zA.asStr,vA,l1,l3.len,zC,fF,gE,lI];by_cases h1:1<s.length
 ·rw[yab (by omega)]
  exact hpad (by grind) (by grind)
 ·rw[yaa (by omega)]
  by_cases h2:s.length=1
  ·rw[yab (by omega)]
   obtain⟨y,rfl⟩:=List.length_eq_one_iff.1 h2
   have hr:=l3.read (by rfl) h.2.2.1
   obtain⟨b,off,k1,k2⟩:=hr.idx sl96 (i:=0) (x:=y) rfl
   grind [vA,zC,Al]
  grind [List.length_eq_zero_iff]
end
section
variable {p:Nat->Bool}{r s:List Nat}{b:Nat}{m:List eC}
theorem GM   : ∀b∈iE p s,p b=true:=by
 intro b hb;unfold iE at hb;induction s with
 | nil=>cases hb
 | cons x s ih=>
  grind [List.takeWhile_cons]
def Xp   : ∃r,s=iE p s++r/\∀b r',r=b::r'->p b=false:=by
 refine⟨s.dropWhile p,(List.takeWhile_append_dropWhile).symm,fun b r' h=>?_⟩
 grind [List.head?_dropWhile_not]
theorem Hq {a:List Nat}(h:∀b∈a,p b=true)(hr:∀b r',r=b::r'->p b=false):iE p (a++r)=a:=by
 unfold iE;induction a with
 | nil=>
  cases r with
  | nil=>rfl
  | cons b r'=>simp_all
 | cons x a ih=>
  rw[List.cons_append,List.takeWhile_cons,h x yby,yab rfl,ih fun b hb=>h b (ybr _ hb)]
theorem BH (h:bE b=true):decide (b≠47)=true:=by
 grind [bE]
def get_at(f q:List Nat):(f++q)[f.length]?=q.head?:=by
 rw[ybp (ybk _),Nat.sub_self]
 cases q<;>rfl
def DT(f q:List Nat):(f++q).take f.length=f:=by simp
theorem OL(f q:List Nat)(b:Nat):(f++b::q).drop (f.length+1)=q:=by
 simp_all
theorem zlp   (he:s=b::r)(hd:bE b=true)(h:iN s=false):dZ (s.take (kH s))/\0<(s.take (kH s)).length:=by
 unfold iN at h;simp only[yal,decide_eq_false_iff_not]at h;obtain⟨⟨⟨⟨h1,h2⟩,h3⟩,h4⟩,h5⟩:=h
 have hf:xF s≠[]:=by
  grind [xF,iE,List.takeWhile_cons]
 obtain⟨q,hq1,hq2⟩:=Xp (p:=bE) (s:=s)
 have hq1:s=xF s++q:=hq1
 have hall:∀x∈xF s,bE x=true:=GM
 have hpos:0<(xF s).length:=List.length_pos_iff.2 hf
 have hgd:s[(xF s).length]?=q.head?:=by
  have:=get_at (xF s) q
  rwa [<- hq1]at this
 by_cases hs:bH s=[]
 ·have hl:kH s=(xF s).length:=yab hs
  have ht:s.take (kH s)=xF s:=by rw[hl];have:=DT (xF s) q;rwa [<- hq1]at this
  rw[ht];have hc:kP (xF s)=xF s:=by
   have:=Hq (p:=fun b=>decide (b≠47)) (a:=xF s) (r:=[]) (fun b hb=>BH (hall b hb)) (fun _ _ e=>by cases e)
   rwa [ycd]at this
  refine⟨⟨by omega,by grind,by grind,by grind,fun hh=>?_⟩,hpos⟩
  grind [wN,BH]
 ·have hl:kH s=(xF s).length+1+(bH s).length:=yaa hs
  have hsl:s[(xF s).length]?=some 47:=by
   cases Decidable.em (s[(xF s).length]?=some 47)with
   | inl h=>exact h
   | inr h=>exact absurd (yaa h) hs
  rw[hgd]at hsl;obtain⟨u,rfl⟩:∃u,q=47::u:=by
   cases q with
   | nil=>cases hsl
   | cons x u=>grind
  have hsec:bH s=iE bE u:=by
   unfold bH;rw[yab (by grind)]
   congr 1
   have:=OL (xF s) u 47
   rwa [<- hq1]at this
  obtain⟨w,hw1,_⟩:=Xp (p:=bE) (s:=u)
  rw[<- hsec]at hw1;have hall2:∀x∈bH s,bE x=true:=by grind [GM]
  have ht:s.take (kH s)=xF s++47::bH s:=by
   have e:s=(xF s++47::bH s)++w:=by grind
   rw[hl];have:=DT (xF s++47::bH s) w
   rw[<- e]at this;rw[ybg,ybn,show(xF s).length+((bH s).length+1)=(xF s).length+1+(bH s).length from by omega]at this
   exact this
  rw[ht];have hc:kP (xF s++47::bH s)=xF s:=Hq (fun b hb=>BH (hall b hb)) (fun b r' e=>by grind)
  have hcb:eQ (xF s++47::bH s)=bH s:=by
   grind [eQ,OL]
  refine⟨⟨?_,by grind,by grind,by grind,fun _=>?_⟩,by grind⟩
  all_goals grind
theorem Pr {k:Nat}{w:List Nat}(h:rH s=.tok k w):0<w.length/\(k=2->dZ w)/\(k=3->Tk w)/\k≠5:=by
 unfold rH at h;split at h
 ·cases h
 ·rename_i b r
  split at h
  ·grind [iE,List.takeWhile_cons,mL]
  ·split at h
   ·rename_i hb
    simp only[ybb]at hb;split at h
    ·cases h
    ·rename_i hd
     cases h;have hl:10<=(b::r).length:=by
      grind [mP]
     have hlt:((b::r).take 10).length=10:=by simp_all
     refine⟨by omega,fun e=>by omega,fun _=>⟨hlt,?_,?_⟩,by omega⟩
     ·grind [mP]
     ·have hd:bU (b::r)=false:=by simp_all
      unfold bU at hd;simp only[yal,decide_eq_false_iff_not]at hd
      cases hx:Ba ((b::r).take 10)with
      | none=>simp_all
      | some n=>simp_all
   grind [zlp]
theorem bad_ne {e:Nat}(h:rH s=.bad e):e≠0:=by
 unfold rH at h;grind
theorem BD(p:Nat × Nat):sZ (endT p):=⟨fun e=>(by cases e),fun e=>(by cases e)⟩
def zcu{t:eC}{r:LR} (h:r.cons t=.ok m):∃m',r=.ok m'/\m=t::m':=by
 cases r with
 | ok l=>cases h;simp_all
 | er _ _ _=>cases h
theorem PH{op:Option (Nat × Nat)}{r:LR} (h:LR.close op r=.ok m):∃m',r=.ok m'/\m.length<=m'.length+1/\∀x∈m,x∈m'\/sZ x:=by
 cases op with
 | none=>exact⟨m,h,by omega,fun x hx=>.inl hx⟩
 | some p=>
  obtain⟨m',h1,rfl⟩:=zcu h
  grind [BD]
def ze6:∀(k:Nat) (s:List Nat) (ln cl:Nat) (op:Option (Nat × Nat)) (m:List eC),nM k s ln cl op=.ok m->m.length<=s.length+1/\∀x∈m,sZ x:=by
 intro k;induction k with
 | zero=>intro s ln cl op m h;cases h;simp_all
 | succ k ih=>
  intro s ln cl op m h;unfold nM at h;split at h
  ·omega
  ·grind [PH]
  ·rename_i b r heq
   cases heq;split at h
   ·grind [PH]
   ·split at h
    ·grind
    ·split at h
     ·grind
     ·split at h
      ·cases h
      ·rename_i kd w ht
       obtain⟨m',h1,rfl⟩:=zcu h
       obtain⟨g1,g2⟩:=ih _ _ _ _ _ h1
       obtain⟨f1,f2,f3,_⟩:=Pr ht
       rw[ydj]at g1;refine⟨by grind,fun x hx=>?_⟩
       rcases ybs.1 hx with rfl | hx
       ·exact⟨f2,f3⟩
       simp_all
def zl2:∀(k:Nat) (s:List Nat) (ln cl:Nat) (op:Option (Nat × Nat)) (e a b:Nat),nM k s ln cl op=.er e a b->e≠0:=by
 have hcons:∀(t:eC) (r:LR) (e a b:Nat),r.cons t=.er e a b->r=.er e a b:=by
  intro t r e a b h
  cases r with
  | ok l=>cases h
  | er _ _ _=>cases h;rfl
 have hclose:∀(op:Option (Nat × Nat)) (r:LR) (e a b:Nat),LR.close op r=.er e a b->r=.er e a b:=by
  intro op r e a b h
  cases op with
  | none=>exact h
  | some p=>exact hcons _ _ _ _ _ h
 intro k;induction k with
 | zero=>intro s ln cl op e a b h;cases h
 | succ k ih=>
  intro s ln cl op e a b h;unfold nM at h;grind [bad_ne]
end
section
variable {n:Nat}
theorem znk(n:Nat):∀s:List Nat,s.foldl (fun n b=>n*10+(b-48)) n=n*10^s.length+vE s:=by
 intro s;induction s generalizing n with
 | nil=>simp[vE]
 | cons b s ih=>
  show s.foldl _ (n*10+(b-48))=_+s.foldl _ (0*10+(b-48))
  grind
theorem BM(a b:List Nat):vE (a++b)=vE a*10^b.length+vE b:=by
 grind [vE,znk]
theorem Tj(a:List Nat)(x:Nat):vE (a++[x])=vE a*10+(x-48):=by
 grind [vE]
theorem Jg:∀ {s:List Nat},(∀b∈s,bE b=true)->vE s<10^s.length:=by
 intro s;induction s with
 | nil=>grind [vE]
 | cons b s ih=>
  intro h;have h1:=h b (by simp)
  have h2:=ih fun c hc=>h c (by simp[hc])
  have:vE (b::s)=(b-48)*10^s.length+vE s:=by
   have:=BM [b] s
   grind [vE]
  rw[this,ybn,yag];unfold bE at h1;simp only[ybb,decide_eq_true_eq]at h1;have:(b-48)*10^s.length<=9*10^s.length:=ybi _ (by omega)
  omega
def zgm{s:List Nat}(hd:∀b∈s,bE b=true)(h0:s≠[])(hp:s.head?≠some 48):0<vE s:=by
 cases s with
 | nil=>simp_all
 | cons b s=>
  have h1:=hd b (by simp)
  unfold bE at h1;simp only[ybb,decide_eq_true_eq]at h1;have:vE (b::s)=(b-48)*10^s.length+vE s:=by
   have:=BM [b] s
   grind [vE]
  rw[this];have hb:b≠48:=fun e=>hp (by simp[e])
  have:1*10^s.length<=(b-48)*10^s.length:=ybi _ (by omega)
  grind
theorem Bw(n:Nat):val 65536 (lC n)=n:=by
 induction n using Nat.strongRecOn with
 | ind n ih=>
  grind [lC,val]
def yX(n:Nat):qB 65536 (lC n):=by
 induction n using Nat.strongRecOn with
 | ind n ih=>
  unfold lC;split
  ·intro x hx;cases hx
  ·intro x hx
   rcases ybs.1 hx with rfl | hx
   ·omega
   ·exact ih _ (by omega) x hx
def Mi(n:Nat):norm (lC n):=by
 induction n using Nat.strongRecOn with
 | ind n ih=>
  unfold lC;split
  ·intro h;grind
  ·intro h
   have h2:=ih (n / 65536) (by omega)
   by_cases h3:lC (n / 65536)=[]
   ·simp only[h3,List.getLast_singleton]
    have h4:=Bw (n / 65536)
    rw[h3]at h4;have:n / 65536=0:=h4.symm
    omega
   ·rw[List.getLast_cons h3]
    exact h2 h3
def Zn{l:List Nat} (h1:qB 65536 l)(h2:norm l)(h3:val 65536 l=n):l=lC n:=
 IU (B:=65536) (by omega) h1 (yX n) h2 (Mi n) (by rw[Bw,h3])
theorem Ip  : lC n=[] ↔ n=0:=by
 grind [lC]
def LJ{k:Nat}(h:n<65536^k):(lC n).length<=k:=by
 induction k generalizing n with
 | zero=>
  grind [Ip]
 | succ k ih=>
  grind [lC]
end
section
section
variable {k ln cl:Nat}{op:Option (Nat × Nat)}{r:List Nat}
theorem zfw{ds:List Nat}(h0:ds≠[])(h:∀b∈ds,bE b=true):∃x r',ds=x::r'/\bE x=true:=by
 cases ds with
 | nil=>simp_all
 | cons x r'=>simp_all
end
def cU (n:Nat):List Nat:=if n<10 then [48+n]else cU (n / 10)++[48+n%10]
decreasing_by omega
theorem znl(n:Nat):cU n≠[]:=by rw[cU];split<;>simp
theorem zjs{n:Nat}(h:n<10):bE (48+n)=true:=by grind [bE]
theorem zcp:∀(k n:Nat),n<=k->(∀b∈cU n,bE b=true)/\(0<n->(cU n).head?≠some 48)/\vE (cU n)=n:=by
 intro k;induction k with
 | zero=>
  intro n h;have:n=0:=by omega
  subst this;rw[cU,yab (by omega)]
  exact⟨fun b hb=>by rw[ydd]at hb;subst hb;rfl,fun h=>by omega,rfl⟩
 | succ k ih=>
  intro n h;rw[cU];split
  ·rename_i hn
   refine⟨fun b hb=>by grind [zjs],fun h e=>?_,?_⟩
   ·simp_all
   ·show 0*10+(48+n-48)=n
    omega
  grind [zjs,cU,Tj]
theorem zgn(n:Nat):∀b∈cU n,bE b=true:=(zcp n n (ybk _)).1
end
section
structure FM where
 style:Nat
 word:List Nat
 named:Bool
 least:Nat
 most:Nat
 level:Nat
 left:Nat
 right:Nat
def atF (w:List Nat):FM:=⟨3,w,true,1,1,7,7,7⟩
def lS(w:List Nat)(n:Bool)(a b:Nat):FM:=⟨6,w,n,a,b,7,1,1⟩
def iX(w:List Nat)(a b c:Nat):FM:=⟨4,w,false,2,2,a,b,c⟩
def zm3:List FM:=[⟨0,[],false,0,0,0,0,0⟩,⟨1,[],false,0,0,7,0,0⟩,⟨2,[116,111,100,97,121],false,0,0,7,0,0⟩,atF [102,97,99,116,32],atF [104,97,115,32],atF [],lS [108,111,111,107] true 1 2,iX [43] 5 5 6,iX [45] 5 5 6,iX [42] 6 6 7,iX [47] 6 6 7,
 lS [109,105,110] false 2 2,lS [109,97,120] false 2 2,iX [60] 4 5 5,iX [61] 4 5 5,iX [97,110,100] 2 2 3,iX [111,114] 1 1 2,⟨5,[110,111,116,32],false,1,1,3,3,3⟩,lS [105,102] false 3 3,lS [114,111,117,110,100] false 2 2,lS [98,101,116,119,101,101,110] false 2 2,
 lS [115,101,114,118,105,99,101] true 2 2,lS [98,101,115,116] true 3 3,lS [103,114,111,119] true 2 2,lS [109,111,110,116,104,115] false 1 1,lS [110,117,109,98,101,114] false 1 1,lS [115,116,97,114,116] false 1 1]
def sB(op:Nat):FM:=zm3.getD op ⟨0,[],false,0,0,0,0,0⟩
def tS (a b:List Nat):Bool:=decide (b.length<=a.length)&&wG (a.take b.length) b
def zK(s:List Nat):List Nat:=if tS s [45]then [109,105,110,117,115,32]++s.drop 1 else s
def nX(neg:Bool)(l:List Nat):List Nat:=Ft neg (val 65536 l)
def lM(f:eE):List Nat:=nX f.n.neg f.n.limbs++(if Iv f.d then []else 47::nX f.d.neg f.d.limbs)
def Bt(f:eE):Bool := !f.n.neg && !f.d.neg&&decide (f.n.limbs.length+f.d.limbs.length=0)
def Ia(f:eE):Bool:=decide (f.n.limbs.length<=42)&&decide (f.d.limbs.length<=42)&&vR f&&decide ((if tS (lM f) [45]then(lM f).drop 1 else lM f).length<=200)
def yQ(v:zF):Bool:=
 if v.kind=2\/v.kind=3 then decide (v.i=0)&&Ia v.f
 else if v.kind=1 then Bt v.f&&(decide (v.i=0)||decide (v.i=1))
 else if v.kind=4 then Bt v.f&&(decide (0<=v.i)&&decide (v.i<65536))
 else if v.kind=5\/v.kind=6 then Bt v.f&&(decide (-1048576<=v.i)&&decide (v.i<=1048576))
 else false
def vT:Nat->Nat->Nat
 | 0,_=>0
 | k+1,n=>if yG (k+1)<=n then k+1 else vT k n
def d1 (n:Nat):Nat:=48+n%10
def ymdS (y m d:Nat):List Nat:=[d1 (y / 1000),d1 (y / 100),d1 (y / 10),d1 y,45,d1 (m / 10),d1 m,45,d1 (d / 10),d1 d]
def fW(n:Nat):List Nat:=ymdS (1900+vT 2153 n / 12) (vT 2153 n%12+1) (n-yG (vT 2153 n)+1)
def Eg(date:List Nat)(v:zF):List Nat:=
 if v.kind=1 then(if v.i=1 then [116,114,117,101]else [102,97,108,115,101])
 else if v.kind=2 then zK (lM v.f)
 else if v.kind=3 then [109,111,110,101,121,32]++zK (lM v.f)
 else if v.kind=4 then date
 else if v.kind=5 then zK (nL v.i)++[32,100,97,121,115]
 else if v.kind=6 then zK (nL v.i)++[32,109,111,110,116,104,115]
 else []
def qV (v:zF):List Nat:=Eg (fW v.i.toNat) v
def Ea(v:zF):Bool:=decide (v.kind=0)&&decide (v.i=0)&&Bt v.f
def Cz(op:Nat)(name:List Nat)(n:Nat):Bool:=
 decide (op<27) && !decide ((sB op).style=0)&&decide ((sB op).least<=n)&&decide (n<=(sB op).most)&&(if (sB op).named=true then gN name else wG name [])
def Dg(op:Nat)(v:zF):Bool:=if op=19 then decide (1<=v.i)&&decide (v.i<=6)&&Ea { v with i:=0 } else Ea v
mutual
/-- is an expression printable at a depth? -/
def sJ:mA->Nat->Bool
 | .mk op name v args,d=>decide (d<=24)&&Cz op name args.length&&(if op=1 then yQ v else Dg op v&&Bm args (d+1))
def Bm:List mA->Nat->Bool
 | [],_=>true
 | x::l,d=>sJ x d&&Bm l d
end
theorem Ue:∀ {l:List mA} {d:Nat},Bm l d=l.all fun x=>sJ x d
 | [],d=>by rw[Bm];rfl
 | x::l,d=>by rw[Bm,Ue];rfl
def rU:List (List Nat):=[[],[100,111,119,110],[117,112],[102,108,111,111,114],[99,101,105,108],[104,97,108,102],[101,118,101,110]]
def bX(n:Nat):List Nat:=if n<7 then rU.getD n []else []
def yN (lev:Nat)(p:Nat × List Nat):List Nat:=if lev<=p.1 then p.2 else [40]++p.2++[41]
def nU:Bool->List (Nat × List Nat)->List Nat
 | _,[]=>[]
 | b,p::l=>(if b then []else [44,32])++p.2++nU false l
def Lc(op:Nat)(i:Int):List Nat:=(if op=19 then [44,32]++bX i.toNat else [])++[41]
def kK(op:Nat)(name:List Nat)(v:zF)(l:List (Nat × List Nat)):List Nat:=
 if (sB op).style=1 then qV v else if (sB op).style=2 then(sB op).word
 else if (sB op).style=3 then(sB op).word++name++[32,97,116,32]++yN (sB op).left (l.getD 0 (0,[]))
 else if (sB op).style=4 then yN (sB op).left (l.getD 0 (0,[]))++([32]++(sB op).word++[32]++yN (sB op).right (l.getD 1 (0,[])))
 else if (sB op).style=5 then(sB op).word++yN (sB op).left (l.getD 0 (0,[]))
 else(sB op).word++[40]++((if (sB op).named then name++[44,32]else [])++(nU true l++Lc op v.i))
mutual
def gF:mA->List Nat
 | .mk op name v args=>kK op name v (bI args)
def bI:List mA->List (Nat × List Nat)
 | []=>[]
 | y::l=>((sB y.op).level,gF y)::bI l
end
theorem Hg:∀l:List mA,bI l=l.map fun y=>((sB y.op).level,gF y)
 | []=>by rw[bI];rfl
 | y::l=>by rw[bI,Hg l];rfl
end
section
variable {l sg:List Nat}
variable [rC]
variable {t tf:Tr tA}{bx:Nat}{s m:List Nat}
theorem ZX (hsg:sg=[]\/sg=[45]){x:Nat}  : Oi (sg++rK l) x=sg++rK (x::l):=by
 unfold Oi
 cases l with
 | nil=>
  grind [rK]
 | cons p l=>
  have hne:rK (p::l)≠[]:=by
   cases l with
   | nil=>grind [Te,rK]
   | cons q l=>
    grind [rK,List.length_append,Yg]
  rw[yaa,rK,ybz];rintro(h | h)
  ·simp_all
  ·rcases hsg with rfl | rfl
   ·rw[yah]at h
    have:=Vh (p::l) 45 (by simp_all)
    omega
   simp_all
theorem DR:∀(l:List Nat),(∀x∈l,x<1000000000)->(rK l).length<=9*l.length
 | [],_=>by simp[rK]
 | [p],h=>by
  simp_all [Nw,rK]
 | p::q::l,h=>by
  have:=DR (q::l) fun x hx=>h x (.tail _ hx)
  grind [rK,Yg]
theorem QT (hsg:sg=[]\/sg=[45]):qB 256 (sg++rK l):=by
 intro x hx;rcases yaf.1 hx with hx | hx
 ·grind
 ·have:=Vh _ x hx;omega
theorem TX.framed{bx:Nat}{s:List Nat}:Ul (fun tf t=>TX tf t bx s) where
 le:=fun h=>h.2.2.1
 both:=fun h hn y=>h.both hn y
 out:=fun hn h=>TX.out hn h
theorem zhl{Q:mB}{t0:Tr tA}{ps:List Nat}{v4:zA} (hsg:sg=[]\/sg=[45])(h0:bA t0 tf)(hp:cA tf 1 (fB .u32 ps) v4)(hlt:qB 1000000000 ps)(hl:ps.length<30000)(h:TX tf t bx sg)
  (hQ:∀t',bA t0 t'->Q (.tup [.str (sg++rK ps),.int .i64 0]) t'):jp 183 29 [.str [],.int .i64 0,v4,.ptr bx 0] t Q:=by
 refine zmr ?_
 unfold EL uS uZ;refine GZ (S:=fun k tf t=>TX tf t bx (sg++rK (ps.drop k))) (fun k=>TX.framed) hp hl (by grind [rK]) ?_ ?_
 ·intro k x tf t' Q1 hx hI hQ1
  have hk:k<ps.length:=(ybc.1 hx).1
  have hxl:x<1000000000:=hlt x (ycv hx)
  have hdrop:ps.drop k=x::ps.drop (k+1):=by
   grind [List.drop_eq_getElem_cons]
  have hlen:(sg++rK (ps.drop (k+1))).length<300000:=by
   have:=DR (ps.drop (k+1)) fun y hy=>hlt y (List.mem_of_mem_drop hy)
   grind
  grind [zn3,QT,ZX]
 ·intro tf' t' hle h3
  rw[ycr]at h3;obtain⟨tv,g1,_,g3,_⟩:=h3.load
  show oD (iA yA 96 ⟨0,t'⟩ (.ptr bx 0)) _
  rw[g1,vA];show oD (xP yA 96 9 ⟨0,t'⟩ tv) _
  rw[zgs bT yL rfl rfl rfl ty5 rfl (g3.read (by rfl) h3.2.2.1) (QT hsg),vA]
  exact hQ _ (h0.trans (hle.trans h3.2.2.1))
set_option exponentiation.threshold 2000 in
theorem DP{neg:Bool} {v:zA}(hv:cA t 1 (fB .u16 l) v)(hlt:qB 65536 l)(hval:eL neg l=true):lB yA F 183 [.agg [.bool neg,v]] t=some (.tup [.str (nX neg l),.int .i64 0]):=by
 have hlen:l.length<=1024:=by
  grind [eL]
 refine zU (w183 ?_)
 simp only[uI,uB,uZ,t183,oA,q196];rw[Ei (by omega) hv,hval]
 simp only[zA.asBool,vA,Bool.not_true,ybq,if_false,hv.len,fF,zC,lI];by_cases h0:l=[]
 ·grind [eL,nX,Ft,val,Nv]
 ·have hpos:0<l.length:=List.length_pos_iff.2 h0
  rw[yaa (by omega),q235]
  refine Lz hv (by omega) hlt fun t1 v1 hle hv1=>?_
  have hlast:l.getLast?≠some 0:=by
   grind [eL]
  have hnorm:norm l:=fun hne e2=>hlast (by rw[List.getLast?_eq_some_getLast hne,e2])
  have hN:val 4294967296 (dF l)=val 65536 l:=Pi l
  have hvpos:0<val 65536 l:=by
   rcases yav (val 65536 l)with e | e
   ·exfalso
    exact h0 (Rl (B:=65536) (by decide) hnorm e)
   ·exact e
  have hple:(dF l).length<=512:=by rw[wQ];omega
  have hbnd:val 4294967296 (dF l)<1000000000^1100:=by
   have g1:=sO (B:=4294967296) (by decide) (Gs hlt)
   have g2:4294967296^(dF l).length<=4294967296^512:=yao (by decide) hple
   omega
  refine VG (t0:=t1) (N:=val 65536 l) (M:=1100) (by decide) ?_ 1100 (dF l) [] .nilslice v1 t1 t1 hbnd (by simp) (Ih hnorm) (Gs hlt) (by omega) (fun x hx=>by cases hx) ?_ (by simp[val,hN]) (bA.refl _) (bA.refl _) JM hv1
  ·intro tf t' ps v4 v5 k1 k2 k3 k4 k5 k6 k7 k8 k9
   refine zjb ?_
   simp only[uI,uL,uX,uZ,uY,Wm,oA,(k4.mono k2).len,vA,zC,fF,gE,ybx]
   rw[yaa (by simp)]
   obtain⟨tf',f1,f2,f3,f4⟩:=k3.freeze rfl k2
   have hpl:ps.length<30000:=by omega
   intro bx hbx hbase;obtain⟨t2,e1,e2,e3,e4⟩:=dO (C:=yA) bT hbx
   rw[e1,vA];have hTX:TX tf' t2 bx []:=⟨hbase,Ii f2 hbx,f2.trans e3,.nilslice,e2,JM,AE⟩
   have ht:bA t tf':=hle.trans (k1.trans f1)
   have htext:rK ps=oG (val 65536 l):=by rw[<- k8];exact(DS k6 k5 k7).1
   cases neg with
   | false=>
    simp only[ybq,if_false];refine zhl (.inl rfl) ht f3 k5 hpl hTX fun t' ht'=>⟨?_,ht'⟩
    rw[htext];rfl
   | true=>
    simp only[if_true];obtain⟨tv,g1,g2⟩:=hTX.byte 45 (by simp)
    rw[g1,vA];intro n hn hbn;obtain⟨H1,g3,g4⟩:=g2 n hn hbn
    rw[show((45:Nat):Int)=45 from rfl]at g3
    rw[g3,vA];intro n2 hn2 hbn2;obtain⟨w,t3,t4,g5,g6,g7⟩:=g4 n2 hn2 hbn2
    simp only[];rw[g5,vA];intro n3 _ _;rw[g6,vA];refine zhl (.inr rfl) ht f3 k5 hpl g7 fun t' ht'=>⟨?_,ht'⟩
    rw[htext];rfl
  grind [wQ]
end
section
variable {a b:List Nat}{n:Int}{u v:zA}{f:eE}
variable [rC]
variable {t:Tr tA}
theorem MP  : lB yA F 239 [.str a,.str b] t=some (.bool (tS a b)):=by
 refine kC.2 (w239 ?_)
 simp only[uS,bB,uZ,t239,oA,eV,sI];grind [tS,pZ,vA,zA.asStr]
theorem SR  : lB yA F 132 [.str a,.str b] t=some (.str (if tS a b then a.drop b.length else a)):=by
 have h:lB yA F 185 [.str a,.str b] t=some (.str (if tS a b then a.drop b.length else a)):=by
  refine kC.2 (w185 ?_)
  simp only[uB,uS,uZ,t185,oA,q239,MP,vA,zA.asBool,eV];grind [tS,Er,vA,zA.asStr]
 refine kC.2 (w132 ?_)
 simp only[uS,t132,oA,q185,h,vA,zA.asStr];simp_all
theorem YG  : lB yA F 186 [.str a,.str b] t=some (.tup [.str (if tS a b then a.drop b.length else a),.bool (tS a b)]):=by
 have h:lB yA F 240 [.str a,.str b] t=some (.tup [.str (if tS a b then a.drop b.length else a),.bool (tS a b)]):=by
  refine kC.2 (w240 ?_)
  simp only[uB,uS,uZ,t240,oA,q239,MP,vA,zA.asBool,eV];grind [tS,Er,vA,zA.asStr]
 refine kC.2 (w186 ?_)
 have x0:∀u v,iI 0 (.tup [u,v])=some u:=fun _ _=>rfl
 have x1:∀u v,iI 1 (.tup [u,v])=some v:=fun _ _=>rfl
 simp only[uB,uS,uX,t186,oA,q240,h,vA,x0,x1,zA.asStr,zA.asBool];simp_all
theorem FO{s:List Nat}(h:s.length<4000000000000000000):lB yA F 134 [.str s] t=some (.str (zK s)):=by
 refine kC.2 (w134 ?_)
 have x0:∀u v,iI 0 (.tup [u,v])=some u:=fun _ _=>rfl
 have x1:∀u v,iI 1 (.tup [u,v])=some v:=fun _ _=>rfl
 simp only[uB,uS,uX,t134,oA,q186,YG,vA,x0,x1,zA.asStr,zA.asBool];grind [zK,uP,vA]
def zmv (h0 : -9223372036854775808<=n)(h1:n<9223372036854775808):lB yA F 137 [.int .i64 n] t=some (.str (nL n)):=by
 have hg:yA.prims.get 137=some (rL Ic):=by kernel_rfl
 refine Fdzx hg fun H=>?_
 unfold Ic;simp only[];rw[sI.2 h0,gE.2 h1];rfl
theorem Zy (h0 : -9223372036854775808<=n)(h1:n<9223372036854775808):(nL n).length<=21:=by
 by_cases h:n<0
 ·obtain⟨u,rfl⟩:∃u:Nat,n = -(u:Int):=⟨n.natAbs,by omega⟩
  rw[Sd (by omega)]
  have:=Nw (u:=u) (k:=20) (by decide) (by omega)
  grind
 ·obtain⟨u,rfl⟩:∃u:Nat,n=(u:Int):=⟨n.toNat,by omega⟩
  rw[Na];have:=Nw (u:=u) (k:=20) (by decide) (by omega)
  omega
theorem MG (h0 : -9223372036854775808<=n)(h1:n<9223372036854775808):lB yA F 75 [.int .i64 n] t=some (.str (zK (nL n))):=by
 have:=Zy h0 h1
 refine kC.2 (w75 ?_)
 simp only[uS,uZ,t75,oA,q137,zmv h0 h1,vA,zA.asStr,q134,FO (s:=nL n) (by omega)]
 simp_all
def YB{u:Nat}:∀ {k:Nat},u<10^k->(oG u).length<=k+1:=by
 intro k h;have:=Nw (u:=u) (k:=k+1) (by omega) (by omega)
 exact this
theorem Pb{neg:Bool}{l:List Nat}(hlt:qB 65536 l)(hl:l.length<=1024):(nX neg l).length<=10000:=by
 unfold nX Ft;have h1:=sO (B:=65536) (by decide) hlt
 have h2:(65536:Nat)^l.length<=10^(5*l.length):=by
  simp_all [Nat.pow_mul,Nat.pow_le_pow_left]
 have:=YB (u:=val 65536 l) (k:=5*l.length) (by omega)
 grind
theorem CV (h:vR f=true):eL f.n.neg f.n.limbs=true/\eL f.d.neg f.d.limbs=true/\f.n.limbs.length<=1024/\f.d.limbs.length<=1024:=by
 grind [vR]
theorem AK (hf:f.fit)(h:vR f=true):(lM f).length<=20001:=by
 obtain⟨_,_,h3,h4⟩:=CV h
 have a:=Pb (neg:=f.n.neg) hf.2.1 h3
 have b:=Pb (neg:=f.d.neg) hf.2.2 h4
 grind [lM]
theorem MY  (hu:cA t 1 (cC f.n.limbs) u)(hv:cA t 1 (cC f.d.limbs) v)(hf:eE.fit f):lB yA F 131 [.agg [.bool f.n.neg,u,.bool f.d.neg,v]] t=some (if vR f then .tup [.str (lM f),.int .i64 0]else .tup [.str [],.int .i64 2]):=by
 refine kC.2 (w131 ?_)
 have x0:∀u v,iI 0 (.tup [u,v])=some u:=fun _ _=>rfl
 have x1:∀u v,iI 1 (.tup [u,v])=some v:=fun _ _=>rfl
 simp only[uI,uB,uS,uX,uZ,t131,oA,q130,Ut hu hv hf,vA,zA.asBool]
 cases hval:vR f with
 | false=>simp
 | true=>
  obtain⟨h1,h2,h3,h4⟩:=CV hval
  have a:=Pb (neg:=f.n.neg) hf.2.1 h3
  have b:=Pb (neg:=f.d.neg) hf.2.2 h4
  have c1:lB yA F 184 [.agg [.bool f.n.neg,u,.bool f.d.neg,v]] t=some (.bool (Iv f.d)):=by
   refine kC.2 (w184 ?_)
   simp only[uB,t184,oA,q233,AB hv,vA,zA.asBool];first | exact⟨rfl,rfl⟩ | exact⟨trivial,trivial⟩ | exact⟨rfl,trivial⟩
  simp only[Bool.not_true,ybq,if_false,q183,DP hu hf.2.1 h1,vA,x0,x1,zA.asStr,zC,if_true,q184,c1,zA.asBool];unfold lM
  cases hone:Iv f.d with
  | true=>simp
  | false=>
   simp only[ycl,if_true,DP hv hf.2.2 h2,vA,x0,x1,zA.asStr,zC];grind [uP,vA]
theorem MZ  (hu:cA t 1 (cC f.n.limbs) u)(hv:cA t 1 (cC f.d.limbs) v)(hf:eE.fit f)(hval:vR f=true):lB yA F 73 [.agg [.bool f.n.neg,u,.bool f.d.neg,v]] t=some (.str (zK (lM f))):=by
 have:=AK hf hval
 refine kC.2 (w73 ?_)
 have x0:∀u v,iI 0 (.tup [u,v])=some u:=fun _ _=>rfl
 have x1:∀u v,iI 1 (.tup [u,v])=some v:=fun _ _=>rfl
 simp only[uI,uS,uX,t73,oA,q131,MY hu hv hf,hval,if_true,vA,x0,x1,zA.asStr,zC,q134,FO (s:=lM f) (by omega)]
 simp_all
theorem UX  (hu:cA t 1 (cC f.n.limbs) u)(hv:cA t 1 (cC f.d.limbs) v)(hf:eE.fit f):lB yA F 69 [.agg [.bool f.n.neg,u,.bool f.d.neg,v]] t=some (.bool (Ia f)):=by
 refine kC.2 (w69 ?_)
 have x0:∀u v,iI 0 (.tup [u,v])=some u:=fun _ _=>rfl
 have x1:∀u v,iI 1 (.tup [u,v])=some v:=fun _ _=>rfl
 simp only[uI,uB,uS,bB,uX,t69,oA,hu.len,hv.len,eO,vA,zC,gE];unfold Ia;by_cases h1:f.n.limbs.length<=42
 ·rw[yaa (by omega)]
  by_cases h2:f.d.limbs.length<=42
  ·rw[yaa (by omega)]
   simp only[q130,Ut hu hv hf,vA,zA.asBool]
   cases hval:vR f with
   | false=>simp
   | true=>
    simp only[Bool.not_true,ybq,if_false,q131,MY hu hv hf,hval,if_true,vA,x0,x1,zA.asStr,zC,lI,q132,SR,eV];simp[h1,h2,jQ]
    constructor<;>intro h<;>omega
  grind
 grind
theorem CO  (hu:cA t 1 (cC f.n.limbs) u)(hv:cA t 1 (cC f.d.limbs) v)(hf:f.ok):lB yA F 70 [.agg [.bool f.n.neg,u,.bool f.d.neg,v]] t=some (.bool (Bt f)):=by
 unfold eE.ok nG at hf;refine kC.2 (w70 ?_)
 simp only[uI,bB,uW,t70,oA,hu.len,hv.len,eO,vA,zC];unfold Bt;rw[wrap_i64 (by omega) (by omega),lE]
 have e:decide ((f.n.limbs.length:Int)+(f.d.limbs.length:Int)=0)=decide (f.n.limbs.length+f.d.limbs.length=0):=by
  grind
 rw[e]
 cases f.n.neg<;>cases f.d.neg<;>simp
theorem zfp  : lB yA F 71 [.int .i64 n] t=some (.bool (decide (0<=n)&&decide (n<65536))):=by
 refine kC.2 (w71 ?_)
 simp only[bB,t71,oA,sI];grind [dC]
theorem UW{a:zF} (hu:cA t 1 (cC a.f.n.limbs) u)(hv:cA t 1 (cC a.f.d.limbs) v)(hf:eE.fit a.f):lB yA F 34 [.agg [.int .u8 a.kind,.bool a.f.n.neg,u,.bool a.f.d.neg,v,.int .i64 a.i]] t=some (.bool (yQ a)):=by
 refine kC.2 (w34 ?_)
 simp only[uQ14,uQ3,uB,bB,gG,uZ,t34,oA,q69,UX hu hv hf,q70,CO hu hv hf.1,q71,zfp,vA,zA.asBool];unfold yQ;have kk:∀j:Int,kB (a.kind:Int) j=decide ((a.kind:Int)=j):=fun j=>lE
 simp only[kk];by_cases k2:a.kind=2
 ·have e:(a.kind:Int)=2:=by omega
  by_cases h0:a.i=0<;>simp[e,k2,h0,lE]
 by_cases k3:a.kind=3
 all_goals grind [lE,jQ]
end
section
variable [rC]
variable {t:Tr tA}
theorem Qh(s:List Nat):(zK s).length<=s.length+6:=by
 grind [zK]
theorem Qs{v:zF}(h:yQ v=true)(hk:v.kind=2\/v.kind=3):vR v.f=true:=by
 grind [yQ,Ia]
theorem RS{a:zF}{u v:zA}{date:List Nat}(hu:cA t 1 (cC a.f.n.limbs) u)(hv:cA t 1 (cC a.f.d.limbs) v)(hf:zF.fit a)(hp:yQ a=true)(hd:a.kind=4->lB yA F 74 [.int .i64 a.i] t=some (.str date)):lB yA F 35 [.agg [.int .u8 a.kind,.bool a.f.n.neg,u,.bool a.f.d.neg,v,.int .i64 a.i]] t=some (.str (Eg date a)):=by
 obtain⟨_,hff,hi1,hi2⟩:=hf
 have hil:=Zy hi1 hi2
 have hsl:=Qh (nL a.i)
 have kk:∀j:Int,kB (a.kind:Int) j=decide ((a.kind:Int)=j):=fun j=>lE
 refine kC.2 (w35 ?_)
 simp only[uS,uZ,t35,oA,kk];unfold Eg;by_cases k1:a.kind=1
 ·have e:(a.kind:Int)=1:=by omega
  have hb:lB yA F 72 [.bool (kB a.i 1)] t=some (.str (if a.i=1 then [116,114,117,101]else [102,97,108,115,101])):=by
   refine kC.2 (w72 ?_)
   have h94:lB yA F 133 [.bool (kB a.i 1)] t=some (.str (if a.i=1 then [116,114,117,101]else [102,97,108,115,101])):=by
    refine kC.2 (w133 ?_)
    by_cases h:a.i=1<;>simp[t133,oA,lE,h]
   simp only[uS,t72,oA,q133,h94,vA,zA.asStr];simp_all
  simp[e,k1,q72,hb,zA.asStr]
 have e1:¬ (a.kind:Int)=1:=by omega
 by_cases k2:a.kind=2
 ·have e:(a.kind:Int)=2:=by omega
  simp[e,k2,q73,MZ hu hv hff (Qs hp (.inl k2)),zA.asStr]
 have e2:¬ (a.kind:Int)=2:=by omega
 by_cases k3:a.kind=3
 ·have e:(a.kind:Int)=3:=by omega
  have hl:=AK hff (Qs hp (.inr k3))
  have hl2:=Qh (lM a.f)
  have:=uP (a:=[109,111,110,101,121,32]) (b:=zK (lM a.f)) (by grind)
  simp[e,k3,q73,MZ hu hv hff (Qs hp (.inr k3)),zA.asStr,this]
 have e3:¬ (a.kind:Int)=3:=by omega
 by_cases k4:a.kind=4
 ·have e:(a.kind:Int)=4:=by omega
  simp[e,k4,q74,hd k4,zA.asStr]
 have e4:¬ (a.kind:Int)=4:=by omega
 by_cases k5:a.kind=5
 ·have e:(a.kind:Int)=5:=by omega
  have:=uP (a:=zK (nL a.i)) (b:=[32,100,97,121,115]) (by simp;omega)
  simp[e,k5,q75,MG hi1 hi2,zA.asStr,this]
 have e5:¬ (a.kind:Int)=5:=by omega
 by_cases k6:a.kind=6
 ·have e:(a.kind:Int)=6:=by omega
  have:=uP (a:=zK (nL a.i)) (b:=[32,109,111,110,116,104,115]) (by simp;omega)
  simp[e,k6,q75,MG hi1 hi2,zA.asStr,this]
 grind
end
section
variable {a b:Nat}{w:List Nat}{K:jI->T}{Q:mB}
variable [rC]
variable {t:Tr tA}
theorem RC{a:zF}{u v:zA}(hu:cA t 1 (cC a.f.n.limbs) u)(hv:cA t 1 (cC a.f.d.limbs) v)(hf:a.f.ok):lB yA F 61 [.agg [.int .u8 a.kind,.bool a.f.n.neg,u,.bool a.f.d.neg,v,.int .i64 a.i]] t=some (.bool (Ea a)):=by
 refine kC.2 (w61 ?_)
 simp only[uB,bB,t61,oA,lI];unfold Ea;by_cases h1:a.kind=0
 ·rw[yab (by omega)]
  by_cases h2:a.i=0
  ·rw[yab h2,q70,CO hu hv hf,vA]
   grind [zA.asBool,vA]
  simp_all
 simp_all
def FM.cs(f:FM):List zA:=[.int .u8 f.style,.str f.word,.bool f.named,.int .i64 f.least,.int .i64 f.most,.int .i64 f.level,.int .i64 f.left,.int .i64 f.right]
def mT:List zA:=(zm3.map FM.cs).flatten
abbrev z8:List zA:=[.int .u8 0,.str [],.bool false,.int .i64 0,.int .i64 0,.int .i64 0,.int .i64 0,.int .i64 0]
def cv76 {n:Bool}   (h:wp 59 (K (cellsOf (lS w n a b).cs)) t Q):wp 59 (.callv (.func (.func 116) [] []) [.str w,.bool n,.int .i64 (a:Int),.int .i64 (b:Int)] fun a=>.asG z8 a K) t Q:=by
 have e:lB yA F 116 [.str w,.bool n,.int .i64 (a:Int),.int .i64 (b:Int)] t=some (.agg (lS w n a b).cs):=by
  refine kC.2 (w116 ?_)
  simp only[uZ,uY,t116,oA,if_true];constructor<;>trivial
 show oD (some (116,[zA.str w,.bool n,.int .i64 (a:Int),.int .i64 (b:Int)])) _
 rw[vA];simp only[];rw[q116,e,vA];exact h
def cv77   (h:wp 59 (K (cellsOf (atF w).cs)) t Q):wp 59 (.callv (.func (.func 117) [] []) [.str w] fun a=>.asG z8 a K) t Q:=by
 have e:lB yA F 117 [.str w] t=some (.agg (atF w).cs):=by
  refine kC.2 (w117 ?_)
  simp only[uZ,uY,t117,oA,if_true];constructor<;>trivial
 show oD (some (117,[zA.str w])) _
 rw[vA];simp only[];rw[q117,e,vA];exact h
def cv78 {c:Nat}  (h:wp 59 (K (cellsOf (iX w a b c).cs)) t Q):wp 59 (.callv (.func (.func 118) [] []) [.str w,.int .i64 (a:Int),.int .i64 (b:Int),.int .i64 (c:Int)] fun a=>.asG z8 a K) t Q:=by
 have e:lB yA F 118 [.str w,.int .i64 (a:Int),.int .i64 (b:Int),.int .i64 (c:Int)] t=some (.agg (iX w a b c).cs):=by
  refine kC.2 (w118 ?_)
  simp only[uZ,uY,t118,oA,if_true];constructor<;>trivial
 show oD (some (118,[zA.str w,.int .i64 (a:Int),.int .i64 (b:Int),.int .i64 (c:Int)])) _
 rw[vA];simp only[];rw[q118,e,vA];exact h
def IX (h:∀b t',t.get b=none->yA.base<=b->iC t' b none mT->bA t t'->yF b t t'->Q (.ptr b 0) t'):Wc yA F 59 [] t Q:=by
 refine w59 ?_
 unfold t59 uG uZ uY;repeat (first | refine cv76 ?_ | refine cv77 ?_ | refine cv78 ?_ | refine pA rfl ?_)
 intro b hb hbase;obtain⟨t',h1,h2,h3,h4⟩:=Fj hb mT none
 have e:∀l:List zA,l=mT->zL (.agg l) ⟨b,t⟩=some (.ptr b 0,⟨b+1,t'⟩):=by
  intro l hl;show some (zA.ptr b 0,uF ⟨b,t⟩ l none)=_
  rw[hl,h1]
 rw[e _ (by rfl),vA]
 exact h b t' hb hbase h2 h3 h4
def WA (h:∀b t',t.get b=none->yA.base<=b->iC t' b none mT->bA t t'->yF b t t'->Q (.agg [.ptr b 0]) t'):Wc yA F 26 [] t Q:=by
 refine w26 ?_
 unfold t26 yC;refine xB ?_
 rw[q59];refine IX fun b t' h1 h2 h3 h4 h5=>?_
 refine pA rfl (pA rfl ?_)
 exact h b t' h1 h2 h3 h4 h5
end
section
variable {a b:Int}
theorem uJ (h:a≠b):kB a b≠true:=fun e=>h (lI.1 e)
theorem pK (h:¬ a<b):jB a b≠true:=fun e=>h (gE.1 e)
theorem nLe (h:¬ a<=b):mE a b≠true:=fun e=>h (sI.1 e)
theorem eP (h:a=b):kB a b=true:=lI.2 h
theorem sK (h:a<b):jB a b=true:=gE.2 h
theorem yLe (h:a<=b):mE a b=true:=sI.2 h
end
section
variable [rC]
variable {t:Tr tA}
theorem NL{f:FM->List zA}(hf:∀x,(f x).length=8):∀(l:List FM) (i k:Nat),i<l.length->k<8->(l.map f).flatten[i*8+k]?=(f (l.getD i ⟨0,[],false,0,0,0,0,0⟩))[k]?
 | [],i,k,h,_=>by simp at h
 | x::l,0,k,h,hk=>by
  grind
 | x::l,i+1,k,h,hk=>by
  rw[ycm,yas,ybp (by grind),hf,show(i+1)*8+k-8=i*8+k by omega]
  rw[NL hf l i k (by grind) hk]
  simp
def Dd{op k:Nat}(h:op<27)(hk:k<8):mT[op*8+k]?=(sB op).cs[k]?:=NL (f:=FM.cs) (fun _=>rfl) zm3 op k h hk
theorem AG{b op:Nat}(h:op<27):tC yA 191 (.ptr b 0) (.int .u8 (op:Int))=some (.ptr b (op*8)):=by
 have hA:ob (yA.tys.get 191) (fun y=>y.desc.asArr)=some (27,131):=by kernel_rfl
 rw[sA]at hA;obtain⟨y,hy,hd⟩:=hA
 unfold tC;rw[hy,qA];have e:(zA.int .u8 (op:Int)).asNat=some op:=rfl
 grind [qA,zA.asSlice,zA.asPtr,ty131,nC,cD]
def gQ{b o k:Nat}(hk:k<8):pC yA 131 k (.ptr b o)=some (.ptr b (o+k)):=by
 have h:Kv yA 131 k=some k:=by
  unfold Kv;rw[ty131,qA];simp only[xE.asStruct,qA];have:k=0\/k=1\/k=2\/k=3\/k=4\/k=5\/k=6\/k=7:=by omega
  rcases this with e | e | e | e | e | e | e | e<;>rw[e]<;>rfl
 unfold pC;rw[h];rfl
section
variable {b op:Nat}(hF:iC t b none mT)(h:op<27)
include hF h
def KF:iA yA 5 ⟨0,t⟩ (.ptr b (op*8+0))=some (.int .u8 (sB op).style):=hF.load1 ty5 rfl (by rw[Dd h (by decide)];rfl)
def KE:iA yA 9 ⟨0,t⟩ (.ptr b (op*8+1))=some (.str (sB op).word):=hF.load1 yL rfl (by rw[Dd h (by decide)];rfl)
def KG:iA yA 4 ⟨0,t⟩ (.ptr b (op*8+2))=some (.bool (sB op).named):=hF.load1 ty4 rfl (by rw[Dd h (by decide)];rfl)
def zfi:iA yA 3 ⟨0,t⟩ (.ptr b (op*8+3))=some (.int .i64 (sB op).least):=hF.load1 iJ rfl (by rw[Dd h (by decide)];rfl)
def zmd:iA yA 3 ⟨0,t⟩ (.ptr b (op*8+4))=some (.int .i64 (sB op).most):=hF.load1 iJ rfl (by rw[Dd h (by decide)];rfl)
def zfh:iA yA 3 ⟨0,t⟩ (.ptr b (op*8+5))=some (.int .i64 (sB op).level):=hF.load1 iJ rfl (by rw[Dd h (by decide)];rfl)
def Zm:iA yA 3 ⟨0,t⟩ (.ptr b (op*8+6))=some (.int .i64 (sB op).left):=hF.load1 iJ rfl (by rw[Dd h (by decide)];rfl)
def zfg:iA yA 3 ⟨0,t⟩ (.ptr b (op*8+7))=some (.int .i64 (sB op).right):=hF.load1 iJ rfl (by rw[Dd h (by decide)];rfl)
end
def zhm(p0_0:zA)(p1_0:Int)(p1_1:List Nat)(p1_2:Int)(p1_3:Bool)(p1_4:zA)(p1_5:Bool)(p1_6:zA)(p1_7:Int)(p1_8:zA)(p2:Int):T:=
 .ite (fD zA.one [(.int .u8 p1_2),(.bool p1_3),p1_4,(.bool p1_5),p1_6,(.int .i64 p1_7)]) (.ite (kB p1_0 1)
 (.call 34 [(.agg [(.int .u8 p1_2),(.bool p1_3),p1_4,(.bool p1_5),p1_6,(.int .i64 p1_7)])] fun a28=>
 .asB a28 fun b29=>.ret (.bool b29))
 (.ite (kB p1_0 19)
 (.ite (jB p1_7 1)
 (.ret (.bool false))
 (.ite (jB 6 p1_7)
 (.ret (.bool false))
 (.ite true (.jump 33 [(.int .i64 p2),p0_0,(.int .u8 p1_0),(.str p1_1),(.int .u8 p1_2),(.bool p1_3),p1_4,(.bool p1_5),p1_6,(.int .i64 p1_7),p1_8,(.int .u8 p1_2),(.bool p1_3),p1_4,(.bool p1_5),p1_6,(.int .i64 0)]) .fail)))
 (.jump 33 [(.int .i64 p2),p0_0,(.int .u8 p1_0),(.str p1_1),(.int .u8 p1_2),(.bool p1_3),p1_4,(.bool p1_5),p1_6,(.int .i64 p1_7),p1_8,(.int .u8 p1_2),(.bool p1_3),p1_4,(.bool p1_5),p1_6,(.int .i64 p1_7)]))) .fail
section
variable {op:Nat}{name:List Nat}{v:zF}{a b c:zA}{bf d:Nat}
theorem PF{v2:Int}{v':zF}{R:Bool}{n:Nat}{c3:zA}(ha:cA t 1 (cC v'.f.n.limbs) a)(hb:cA t 1 (cC v'.f.d.limbs) b)(hf:v'.f.ok)(hc:qC c=some (.int .i64 (n:Int)))
  (hargs:jp 27 4 [.int .i64 v2,c,.int .i64 (n:Int),.int .i64 0,c3] t (fun x t'=>x=.bool R/\t'=t)) (p3:Bool) (p5:Bool) (p2 p7:Int) (p4 p6:zA) :
  jp 27 33 [.int .i64 v2,c3,.int .u8 (op:Int),.str name,.int .u8 p2,.bool p3,p4,.bool p5,p6,.int .i64 p7,c,.int .u8 v'.kind,.bool v'.f.n.neg,a,.bool v'.f.d.neg,b,.int .i64 v'.i] t (fun x t'=>x=.bool (Ea v'&&R)/\t'=t):=by
 refine j27_33 ?_
 simp only[uI,uB,bB,uZ,uY,zhz,oA,q61,RC ha hb hf,vA,zA.asBool];grind [vA,zC]
theorem zd5{n:Nat}{R:Bool}(ha:cA t 1 (cC v.f.n.limbs) a)(hb:cA t 1 (cC v.f.d.limbs) b)(hf:eE.fit v.f)(hc:qC c=some (.int .i64 (n:Int)))
  (hargs:jp 27 4 [.int .i64 (d:Int),c,.int .i64 (n:Int),.int .i64 0,.ptr bf 0] t (fun x t'=>x=.bool R/\t'=t)) :
  wp 27 (zhm (.ptr bf 0) (op:Int) name (v.kind:Int) v.f.n.neg a v.f.d.neg b v.i c (d:Int)) t (fun x t'=>x=.bool (if op=1 then yQ v else Dg op v&&R)/\t'=t):=by
 unfold zhm;refine pA ?_ ?_
 ·rw[vI];simp only[ycg,yck,ha.one,hb.one];rfl
 by_cases h1:op=1
 ·refine pA (eP (by omega)) ?_
  simp only[oA,q34,UW ha hb hf,vA,zA.asBool,yab h1];constructor<;>trivial
 ·refine zB (uJ (by omega)) ?_
  simp only[yaa h1];unfold Dg;by_cases h2:op=19
  ·refine pA (eP (by omega)) ?_
   simp only[yab h2];by_cases h3:1<=v.i
   ·refine zB (pK (by omega)) ?_
    by_cases h4:v.i<=6
    ·refine zB (pK (by omega)) (pA rfl ?_)
     have:=PF (op:=op) (name:=name) (v':={ v with i:=0 }) ha hb hf.1 hc hargs v.f.n.neg v.f.d.neg v.kind v.i a b
     simp only[decide_eq_true h3,decide_eq_true h4,ycn];exact this
    grind [sK,oA]
   grind [sK,oA]
  ·refine zB (uJ (by omega)) ?_
   simp only[yaa h2];exact PF (op:=op) (name:=name) (v':=v) ha hb hf.1 hc hargs v.f.n.neg v.f.d.neg v.kind v.i a b
theorem zfy{n:Nat}{R:Bool}(hF:iC t bf none mT)(hop:op<256)(hn:n<nG)(hnl:name.length<nG)(ha:cA t 1 (cC v.f.n.limbs) a)(hb:cA t 1 (cC v.f.d.limbs) b)(hf:eE.fit v.f)(hc:qC c=some (.int .i64 (n:Int)))
  (hargs:d<=24->jp 27 4 [.int .i64 (d:Int),c,.int .i64 (n:Int),.int .i64 0,.ptr bf 0] t (fun x t'=>x=.bool R/\t'=t)) :
  lB yA F 27 [.agg [.ptr bf 0],.agg [.int .u8 op,.str name,.int .u8 v.kind,.bool v.f.n.neg,a,.bool v.f.d.neg,b,.int .i64 v.i,c],.int .i64 (d:Int)] t=some (.bool (decide (d<=24)&&Cz op name n&&(if op=1 then yQ v else Dg op v&&R))):=by
 refine kC.2 (w27 ?_)
 unfold t27 Cz uQ1 uI uU uB yC bB oC uZ uY uW;by_cases hd:d<=24
 case neg=>
  grind [sK,oA]
 refine zB (pK (by omega)) ?_
 have htail:=zd5 (op:=op) (name:=name) (d:=d) (bf:=bf) ha hb hf hc (hargs hd)
 by_cases h27:op<27
 case neg=>
  grind [wrap_i64,yLe,oA]
 refine zB (by grind [wrap_i64,nLe]) ?_
 refine rA mG (rA (AG h27) (rA mG (rA (gQ (by decide)) (aB (KF hF h27) (rB ?_)))))
 by_cases hs:(sB op).style=0
 ·grind [eP,oA]
 refine zB (uJ (by omega)) ?_
 refine rA hc (rB (rA mG (rA (gQ (by decide)) (aB (zfi hF h27) (rB ?_)))))
 by_cases hl:(sB op).least<=n
 case neg=>
  grind [sK,oA]
 refine zB (pK (by omega)) ?_
 refine rA hc (rB (rA mG (rA (gQ (by decide)) (aB (zmd hF h27) (rB ?_)))))
 by_cases hm:n<=(sB op).most
 case neg=>
  grind [sK,oA]
 refine zB (pK (by omega)) ?_
 have hld:=KG hF h27
 refine rA mG (rA (gQ (by decide)) (aB hld (sD ?_)))
 simp only[decide_eq_true hd,decide_eq_true h27,decide_eq_false hs,decide_eq_true hl,decide_eq_true hm,ycn,ycl]
 cases hnm:(sB op).named with
 | true=>
  rw[hnm]at hld;simp only[if_true];refine pA rfl (xB ?_)
  rw[q60,JA,vA];refine sD ?_
  cases hN:gN name with
  | false=>
   grind [oA]
  | true=>
   refine zB (by simp) (rA mG (rA (gQ (by decide)) (aB hld (sD (zB (by simp) ?_)))))
   simp only[ycn];exact htail
 | false=>
  rw[hnm]at hld;simp only[ybq,if_false];refine zB (by simp) (rA mG (rA (gQ (by decide)) (aB hld (sD (pA rfl ?_)))))
  cases hN:wG name []with
  | false=>
   grind [oA]
  | true=>
   refine zB (by simp) ?_
   simp only[ycn];exact htail
end
mutual
theorem NZ{bf:Nat}(hF:iC t bf none mT):∀(x:mA) (d:Nat) (cs:List zA),x.fit->d<1000->RD t x.d cs->lB yA F 27 [.agg [.ptr bf 0],.agg cs,.int .i64 (d:Int)] t=some (.bool (sJ x d))
 | .mk op name v args,d,cs,hx,hd,h=>by
  obtain⟨a,b,c,rfl,ha,hb,hc⟩:=qH h
  simp only[mA.op,mA.name,mA.v,mA.args]at ha hb hc ⊢
  have hx':=hx
  unfold mA.fit at hx';unfold sJ;refine zfy hF hx'.1 (n:=args.length) hx'.2.2.2.2.1 hx'.2.1 ha hb hx'.2.2.2.1.2.1 (by rw[hc.len,ybf]) fun hd'=>?_
  have:=QJ hF args args d c 0 hc rfl hx'.2.2.2.2.2 hx'.2.2.2.2.1 hd'
  exact this
theorem QJ{bf:Nat}(hF:iC t bf none mT):∀(l args:List mA) (d:Nat) (c:zA) (i:Nat),cA t 9 (args.map mA.d) c->args.drop i=l->mA.fits l->args.length<nG->d<=24 →
  jp 27 4 [.int .i64 (d:Int),c,.int .i64 (args.length:Int),.int .i64 (i:Int),.ptr bf 0] t (fun x t'=>x=.bool (Bm l (d+1))/\t'=t)
 | [],args,d,c,i,hc,hl,hok,hsz,hd=>by
  have:=OM hl
  refine j27_4 ?_
  unfold zk2 uB uG yC vC bB gG uZ eF kD;grind [pK,Bm,oA]
 | x::l,args,d,c,i,hc,hl,hok,hsz,hd=>by
  obtain⟨h1,h2,h3⟩:=BF hl
  unfold nG at hsz;have hok':=hok
  unfold mA.fits at hok';refine j27_4 ?_
  obtain⟨pb,po,cs,g1,g2,g3,g4,g5⟩:=dH.at Es (by simp) hc (i:=i) (d:=x.d) (by simp[h1])
  unfold zk2 uB uG yC vC bB gG uZ eF kD;refine pA (sK (by omega)) (rA g1 (aB g2 ?_))
  rw[Ku];refine bC (iS g5 x.zs) ?_
  have hmk:=g5.mk x.zs
  have hcs:[zA.int .u8 ((cellsOf cs).i 0),.str ((cellsOf cs).s 1),.int .u8 ((cellsOf cs).i 2),.bool ((cellsOf cs).b 3),(cellsOf cs).v 4,.bool ((cellsOf cs).b 5),(cellsOf cs).v 6,.int .i64 ((cellsOf cs).i 7),(cellsOf cs).v 8]=cs:=hmk
  rw[hcs];refine pA g5.all (xB ?_)
  rw[wrap_i64 (by omega) (by omega),show(d:Int)+1=((d+1:Nat):Int) by omega,q27,NZ hF x (d+1) cs hok'.1 (by omega) g5,vA]
  refine sD ?_
  unfold Bm
  cases hE:sJ x (d+1)with
  | false=>
   grind [oA]
  | true=>
   refine zB (by simp) (jC ?_)
   rw[wrap_i64 (by omega) (by omega),show(i:Int)+1=((i+1:Nat):Int) by omega]
   have:=QJ hF l args d c (i+1) hc h2 hok'.2 hsz hd
   simp_all
end
end
section
variable [rC]
def Wr (s T s':List Nat):Prop:=s'=s++T\/(65536<s.length+T.length/\65536<s'.length)
theorem Wr.one(s T:List Nat):Wr s T (s++T):=.inl rfl
def Wr.big{s:List Nat}(T:List Nat)(h:65536<s.length):Wr s T s:=.inr ⟨by omega,h⟩
def Wr.trans{s T s1 U s2:List Nat}(h:Wr s T s1)(k:Wr s1 U s2):Wr s (T++U) s2:=by
 rcases h with rfl | ⟨h1,h2⟩
 ·rcases k with rfl | ⟨k1,k2⟩
  ·exact .inl (by simp)
  ·exact .inr ⟨by simp at k1 ⊢;omega,k2⟩
 ·rcases k with rfl | ⟨k1,k2⟩
  ·exact .inr ⟨by simp;omega,by simp;omega⟩
  ·exact .inr ⟨by simp;omega,k2⟩
def Wr.eq{s T T' s':List Nat}(h:Wr s T s')(e:T=T'):Wr s T' s':=e ▸ h
def zfo{l:List (Nat × List Nat)}{i:Nat}(h:i<l.length):nU (decide (i=0)) (l.drop i)=(if i=0 then []else [44,32])++l[i].2++nU (decide (i+1=0)) (l.drop (i+1)):=by
 rw[ybl h,nU];by_cases h0:i=0<;>simp[h0]
end
section
variable {b from_ i k:Nat}{d:Int}{l:List Nat}
variable [rC]
variable {t:Tr tA}
def Fr:List Int:=[31,28,31,30,31,30,31,31,30,31,30,31]
def rN(t:Tr tA):Prop:=At t 3 0 (Fr.map fun n=>zA.int .i64 n)
theorem rN.mono{t':Tr tA}(h:rN t)(k:bA t t'):rN t':=At.mono k h
def STzx(x:Int) (hk:0<k) : -(k:Int)<Int.tmod x k/\Int.tmod x k<k:=by
 have h:=Int.natAbs_tmod x k
 have h2:=ycy x.natAbs (show 0<(k:Int).natAbs by omega)
 omega
def Sa(y:Int):Bool:=decide (Int.tmod y 4=0)&&(!decide (Int.tmod y 100=0)||decide (Int.tmod y 400=0))
def lenD (y m:Int):Int:=if m<1 then 0 else if 12<m then 0 else if m=2/\Sa y=true then 29 else Fr.getD (m-1).toNat 0
def Zl(y:Int):Int:=fA .i64 ((fA .i64 ((fA .i64 (Int.tdiv y 4))-(fA .i64 (Int.tdiv y 100))))+(fA .i64 (Int.tdiv y 400)))
def Qf(v0 v3:Int):Nat->Int->Int->Int
 | 0,_,v4=>v4
 | k+1,v5,v4=>if v5<=Int.tmod v0 12 then Qf v0 v3 k (v5+1) (fA .i64 (v4+lenD v3 v5))else v4
def kX(m:Int):Int:=Qf m (fA .i64 (1900+(fA .i64 (Int.tdiv m 12)))) 11 1 (fA .i64 ((fA .i64 ((fA .i64 (365*(fA .i64 ((fA .i64 (1900+(fA .i64 (Int.tdiv m 12))))-1900))))+Zl (fA .i64 ((fA .i64 (1900+(fA .i64 (Int.tdiv m 12))))-1))))-Zl 1899))
def Ci(P:Int->Bool):Nat->Nat->Nat->Int
 | 0,i,_=>(i:Int)
 | k+1,i,j=>if i<j then(if P (((i+j) / 2:Nat):Int)=true then Ci P k i ((i+j) / 2)else Ci P k ((i+j) / 2+1) j)else(i:Int)
theorem zff(y:Int):lB yA F 271 [.int .i64 y] t=some (.bool (Sa y)):=by
 refine kC.2 (w271 ?_)
 unfold t271 Sa bB gG;grind [oA,lE]
theorem len_at(hG:rN t){m:Int}(h1:1<=m)(h2:m<=12):∃b o,tC yA 304 (.ptr 3 0) (.int .i64 (fA .i64 (m-1)))=some (.ptr b o)/\iA yA 3 ⟨0,t⟩ (.ptr b o)=some (.int .i64 (Fr.getD (m-1).toNat 0)):=by
 obtain⟨k,rfl⟩:∃k:Nat,m=(k:Int)+1:=⟨(m-1).toNat,by omega⟩
 have hk:k<12:=by omega
 have e0:((k:Int)+1-1).toNat=k:=by omega
 rw[wrap_i64 (by omega) (by omega),e0,show(k:Int)+1-1=(k:Int) by omega]
 have hx:(Fr.map fun n=>zA.int .i64 n)[k]?=some (.int .i64 (Fr.getD k 0)):=by
  have:k<Fr.length:=hk
  simp_all
 refine⟨3,0+k,?_,hG.load1 iJ rfl hx⟩
 unfold tC;rw[ty304,qA];have e:(zA.int .i64 (k:Int)).asNat=some k:=rfl
 rw[e,qA];grind [zA.asSlice,zA.asPtr,qA,xE.asArr,iJ,nC,cD]
def WE(hG:rN t)(y m:Int):lB yA F 244 [.int .i64 y,.int .i64 m] t=some (.int .i64 (lenD y m)):=by
 refine kC.2 (w244 ?_)
 unfold t244 lenD uQ16 uI uB uZ uW;by_cases h1:m<1
 ·rw[yab h1];exact pA (sK h1) ⟨rfl,rfl⟩
 rw[yaa h1];refine zB (pK h1) ?_
 by_cases h2:12<m
 ·rw[yab h2];exact pA (sK h2) ⟨rfl,rfl⟩
 rw[yaa h2];refine zB (pK h2) ?_
 obtain⟨b,o,g1,g2⟩:=len_at hG (m:=m) (by omega) (by omega)
 by_cases h3:m=2
 ·refine pA (eP h3) (xB ?_)
  rw[q271,zff,vA];refine sD ?_
  cases hl:Sa y with
  | true=>rw[yab ⟨h3,rfl⟩];exact pA rfl ⟨rfl,rfl⟩
  | false=>rw[yaa (by simp)];exact zB (by simp) (rA g1 (aB g2 (rB ⟨rfl,rfl⟩)))
 ·rw[yaa (by simp[h3])]
  exact zB (uJ h3) (rA g1 (aB g2 (rB ⟨rfl,rfl⟩)))
theorem TM(hG:rN t)(v0 v3:Int):∀(k:Nat) (v5 v4:Int),v5+k=12->1<=v5->jp 189 2 [.int .i64 v0,.int .i64 v3,.int .i64 v4,.int .i64 v5] t (fun v t'=>v=.int .i64 (Qf v0 v3 k v5 v4)/\t'=t):=by
 have hb:=STzx v0 (k:=12) (by omega)
 rw[show((12:Nat):Int)=12 from rfl]at hb
 intro k;induction k with
 | zero=>
  intro v5 v4 h1 h2;exact Mz (zB (nLe (by omega)) ⟨rfl,rfl⟩)
 | succ k ih=>
  intro v5 v4 h1 h2;unfold Qf;by_cases h3:v5<=Int.tmod v0 12
  ·rw[yab h3]
   refine Mz (pA (yLe h3) (xB ?_))
   rw[q244,WE hG,vA];refine rB (jC ?_)
   grind [wrap_i64]
  ·rw[yaa h3]
   exact Mz (zB (nLe h3) ⟨rfl,rfl⟩)
def KD(y:Int):lB yA F 243 [.int .i64 y] t=some (.int .i64 (Zl y)):=kC.2 (w243 ⟨rfl,rfl⟩)
def FD(hG:rN t)(m:Int):lB yA F 189 [.int .i64 m] t=some (.int .i64 (kX m)):=by
 refine kC.2 (w189 (xB ?_))
 rw[q243,KD,vA];refine rB (xB ?_)
 rw[q243,KD,vA];exact rB (jC (TM hG m _ 11 1 _ (by omega) (by omega)))
theorem UF{v1:zA}{P:Int->Bool}(hcall:∀n:Int,∀(R:mB),R (.bool (P n)) t->oD (eK v1 [.int .i64 n]) fun p=>Wq yA F wD p.1 p.2 t R) :
  ∀(k i j:Nat),j-i<=k->j<=100000->jp 241 2 [v1,.int .i64 (i:Int),.int .i64 (j:Int)] t (fun v t'=>v=.int .i64 (Ci P k i j)/\t'=t):=by
 intro k;induction k with
 | zero=>
  intro i j h1 h2;exact Zw (zB (pK (by omega)) ⟨rfl,rfl⟩)
 | succ k ih=>
  intro i j h1 h2;unfold Ci;by_cases h3:i<j
  ·have e1:fA .i64 (Int.fdiv (fA .u64 (fA .i64 ((i:Int)+(j:Int)))) 2)=(((i+j) / 2:Nat):Int):=by
    grind [wrap_i64,nF]
   rw[yab h3];refine Zw (pA (sK (by omega)) ?_)
   show oD _ _
   unfold uZ uW;rw[e1];refine hcall _ _ (sD ?_)
   cases hP:P (((i+j) / 2:Nat):Int)with
   | false=>
    rw[yaa (by simp)]
    refine pA rfl (jC ?_)
    rw[wrap_i64 (by omega) (by omega),show(((i+j) / 2:Nat):Int)+1=(((i+j) / 2+1:Nat):Int) by omega]
    exact ih _ _ (by omega) h2
   | true=>
    rw[yab rfl];exact zB (by simp) (jC (ih _ _ (by omega) (by omega)))
  ·rw[yaa h3]
   exact Zw (zB (pK (by omega)) ⟨rfl,rfl⟩)
def dR(d:Int):Int:=Ci (fun n=>jB d (kX (fA .i64 (n+1)))) 2154 0 2154
def WD(hG:rN t)(d:Int):lB yA F 188 [.int .i64 d] t=some (.int .i64 (dR d)):=by
 refine zU (w188 ?_)
 unfold t188 uI uZ;refine gC fun b hb hbase=>?_
 obtain⟨t',e,hc,hle,_⟩:=Fj hb [.int .i64 d] none
 refine⟨.ptr b 0,⟨b+1,t'⟩,by show some (zA.ptr b 0,uF ⟨b,t⟩ [.int .i64 d] none)=_;rw[e],xB ?_⟩
 have hld:iA yA 3 ⟨0,t'⟩ (.ptr b 0)=some (.int .i64 d):=hc.load1 (j:=0) iJ rfl rfl
 have:lB yA F 241 [.int .i64 2154,.func (.func 242) [] [.ptr b 0]] t'=some (.int .i64 (dR d)):=by
  refine kC.2 (w241 (jC ?_))
  refine UF (fun n R hR=>?_) 2154 0 2154 (by omega) (by omega)
  show oD (some (242,[zA.int .i64 n,.ptr b 0])) _
  rw[vA];simp only[];have:lB yA F 242 [zA.int .i64 n,.ptr b 0] t'=some (.bool (jB d (kX (fA .i64 (n+1))))):=by
   refine kC.2 (w242 (aB hld (rB (xB ?_))))
   unfold vC;rw[q189,FD (hG.mono hle),vA]
   exact rB (aB hld (pA Ho ⟨rfl,rfl⟩))
  rw[q242,this,vA];exact hR
 rw[q241];exact Wc_pv this (rB ⟨rfl,hle⟩)
def ymdD (d:Int):zA:=.tup [.int .i64 (fA .i64 (1900+(fA .i64 (Int.tdiv (dR d) 12)))),.int .i64 (fA .i64 ((Int.tmod (dR d) 12)+1)),.int .i64 (fA .i64 ((fA .i64 (d-kX (dR d)))+1)),.int .i64 0]
def ymd_ok(hG:rN t) (h0:0<=d)(h1:d<65536):lB yA F 135 [.int .i64 d] t=some (ymdD d):=by
 have hd:lB yA F 187 [.int .i64 d] t=some (.bool true):=by
  refine kC.2 (w187 (pA (yLe h0) ?_))
  rw[sK h1];exact⟨rfl,rfl⟩
 refine kC.2 (w135 (xB ?_))
 rw[q187,hd,vA];refine sD (zB (by simp) (xB ?_))
 rw[q188,WD hG,vA];refine rB (xB ?_)
 rw[q189,FD hG,vA];exact rB ⟨rfl,rfl⟩
def cB (l:List Nat):List zA:=l.map fun(n:Nat)=>zA.int .u8 (n:Int)
theorem ten (h:l.length=10):∃a b c d e f g h i j,l=[a,b,c,d,e,f,g,h,i,j]:=by
 match l,h with
 | [a,b,c,d,e,f,g,h,i,j],_=>simp_all
theorem Jm  : (cB l).length=l.length:=by simp[cB]
def cB_set {x:Nat}:(cB l).set i (.int .u8 (x:Int))=cB (l.set i x):=by simp[cB,List.map_set]
theorem idx164 (h:i<10):tC yA 209 (.ptr b 0) (.int .i64 (i:Int))=some (.ptr b i):=by
 unfold tC;rw[La,qA];have e:(zA.int .i64 (i:Int)).asNat=some i:=rfl
 rw[e,qA];grind [zA.asSlice,zA.asPtr,qA,xE.asArr,ty5,nC,cD]
def Tt  (h:iC t b none (cB l))(hl:l.length=10):iA yA 209 ⟨0,t⟩ (.ptr b 0)=some (.agg (cB l)):=by
 have:=h.at.load (C:=yA) (ty:=209) La rfl (n:=10) rfl (j:=0) (by rw[Jm];omega)
 rw[ybw]at this;rw[this];congr 2
 rw[ycr,yca (by rw[Jm];omega)]
theorem PU {m:List Nat}(h:iC t b none (cB l))(hb:yA.base<=b)(hl:l.length=10)(hm:m.length=10):∃t',(∀n,sC yA 209 (.ptr b 0) (.agg (cB m)) ⟨n,t⟩=some (pD,⟨n,t'⟩))/\iC t' b none (cB m)/\yF b t t':=by
 obtain⟨t',h1,h2,h3⟩:=h.store (C:=yA) hb (T:=209) (v:=.agg (cB m)) (j:=0) La (by show(cB m).length=10;rw[Jm,hm]) (by show 0+(cB m).length<=_;grind [Jm]) (by
  show fD zA.one (cB m)=true
  rw[vI,ycb];intro a ha;unfold cB at ha;obtain⟨n,_,rfl⟩:=yaq.1 ha
  rfl)
 refine⟨t',h1,?_,h3⟩
 have e:yM (cB l) 0 (zA.agg (cB m)).cells=cB m:=by
  show yM (cB l) 0 (cB m)=cB m
  unfold yM;rw[List.take_zero,yah,ybt (by grind [Jm]),ycd]
 simp_all
abbrev z10:List zA:=[.int .u8 0,.int .u8 0,.int .u8 0,.int .u8 0,.int .u8 0,.int .u8 0,.int .u8 0,.int .u8 0,.int .u8 0,.int .u8 0]
def Oe (hl:l.length=10):wK z10 (.agg (cB l))=some (cellsOf (cB l)):=by
 obtain⟨a,b,c,d,e,f,g,h,i,j,rfl⟩:=ten hl
 exact cO rfl
def BU (hl:l.length=10):[zA.int .u8 ((cellsOf (cB l)).i 0),.int .u8 ((cellsOf (cB l)).i 1),.int .u8 ((cellsOf (cB l)).i 2),.int .u8 ((cellsOf (cB l)).i 3),.int .u8 ((cellsOf (cB l)).i 4),.int .u8 ((cellsOf (cB l)).i 5),.int .u8 ((cellsOf (cB l)).i 6),.int .u8 ((cellsOf (cB l)).i 7),.int .u8 ((cellsOf (cB l)).i 8),.int .u8 ((cellsOf (cB l)).i 9)]=cB l:=by
 obtain⟨a,b,c,d,e,f,g,h,i,j,rfl⟩:=ten hl
 rfl
def qY (x:Int):Nat:=(48+Int.tmod x 10).toNat
theorem ON(x:Int):fA .u8 (fA .i64 (48+Int.tmod x 10))=((qY x:Nat):Int)/\qY x<256:=by
 grind [qY,wrap_i64,Gy]
def dP:Nat->Int->Nat->List Nat->List Nat
 | 0,_,_,l=>l
 | k+1,x,i,l=>dP k (fA .i64 (Int.tdiv x 10)) (i-1) (l.set i (qY x))
theorem Ee:∀(k:Nat) (x:Int) (i:Nat) (l:List Nat),qB 256 l->(dP k x i l).length=l.length/\qB 256 (dP k x i l)
 | 0,x,i,l,h=>⟨rfl,h⟩
 | k+1,x,i,l,h=>by
  unfold dP;have:=Ee k (fA .i64 (Int.tdiv x 10)) (i-1) (l.set i (qY x)) (fun y hy=>by
   rcases List.mem_or_eq_of_mem_set hy with h1 | h1
   ·exact h y h1
   simp_all [ON])
  simp_all
theorem RG (hb:yA.base<=b){c0 c1 c2 c3 c4 c5 c6 c7 c8 c9:Int}:∀(k:Nat) (from_:Nat) (x:Int) (i:Int) (l:List Nat) (t:Tr tA),i+1=(from_:Int)+k->from_+k<=10->l.length=10->iC t b none (cB l) →
  jp 136 2 [.int .i64 (from_:Int),.int .i64 x,.ptr b 0,.int .i64 i,.int .u8 c0,.int .u8 c1,.int .u8 c2,.int .u8 c3,.int .u8 c4,.int .u8 c5,.int .u8 c6,.int .u8 c7,.int .u8 c8,.int .u8 c9] t (fun v t'=>v=.agg (cB (dP k x i.toNat l))/\yF b t t'):=by
 intro k;induction k with
 | zero=>
  intro from_ x i l t h1 h2 h3 h4;refine zjf (zB (nLe (by omega)) (aB (Tt h4 h3) (bC (Oe h3) (pA rfl ?_))))
  show zA.agg _=_/\_
  rw[BU h3];exact⟨rfl,fun _ _=>rfl⟩
 | succ k ih=>
  intro from_ x i l t h1 h2 h3 h4;obtain⟨n,rfl⟩:∃n:Nat,i=(n:Int):=⟨i.toNat,by omega⟩
  refine zjf (pA (yLe (by omega)) (rA (idx164 (by omega)) (gC fun m _ _=>?_)))
  rw[(ON x).1]
  obtain⟨t',g1,g2,g3⟩:=h4.store1 (v:=.int .u8 ((qY x:Nat):Int)) hb ty5 rfl rfl rfl (j:=n) (by rw[Jm];omega)
  refine⟨_,_,g1 m,jC ?_⟩
  rw[cB_set]at g2;unfold uW;rw[wrap_i64 (n:=(n:Int)-1) (by omega) (by omega)]
  have:=ih from_ (fA .i64 (Int.tdiv x 10)) ((n:Int)-1) (l.set n (qY x)) t' (by omega) (by omega) (by simp_all) g2
  refine Jq.mono this fun v t2 hh=>⟨?_,fun c hc=>by rw[hh.2 c hc,g3 c hc]⟩
  rw[hh.1];have e1:((n:Int)-1).toNat=n-1:=by omega
  have e2:((n:Int)).toNat=n:=by omega
  rw[e1,e2];rfl
theorem RF (hl:l.length=10) (hk:from_+k<=10)(h1:1<=from_+k)(x:Int):lB yA F 136 [.agg (cB l),.int .i64 (from_:Int),.int .i64 (k:Int),.int .i64 x] t=some (.agg (cB (dP k x (from_+k-1) l))):=by
 obtain⟨a,b,c,d,e,f,g,h,i,j,rfl⟩:=ten hl
 refine zU ?_
 show Wf 136 [.agg [.int .u8 a,.int .u8 b,.int .u8 c,.int .u8 d,.int .u8 e,.int .u8 f,.int .u8 g,.int .u8 h,.int .u8 i,.int .u8 j],.int .i64 (from_:Int),.int .i64 (k:Int),.int .i64 x] t _
 refine w136 ?_
 unfold t136 uZ uY uW;refine gC fun n hn hbase=>?_
 obtain⟨t',e1,hc,hle,ho⟩:=Fj hn (cB [a,b,c,d,e,f,g,h,i,j]) none
 refine⟨.ptr n 0,⟨n+1,t'⟩,by show some (zA.ptr n 0,uF ⟨n,t⟩ (cB [a,b,c,d,e,f,g,h,i,j]) none)=_;rw[e1],jC ?_⟩
 rw[wrap_i64 (n:=(from_:Int)+(k:Int)) (by omega) (by omega),wrap_i64 (by omega) (by omega)]
 have:=RG (c0:=0) (c1:=0) (c2:=0) (c3:=0) (c4:=0) (c5:=0) (c6:=0) (c7:=0) (c8:=0) (c9:=0) hbase k from_ x ((from_:Int)+(k:Int)-1) _ t' (by omega) hk hl hc
 refine Jq.mono this fun v t2 hh=>⟨?_,fun b' y hy=>?_⟩
 ·rw[hh.1,show((from_:Int)+(k:Int)-1).toNat=from_+k-1 by omega]
 ·have:b'≠n:=fun e=>by simp_all
  rw[hh.2 b' this];exact hle _ _ hy
def Bf (d:Int):List Nat:=
 dP 2 (fA .i64 ((fA .i64 (d-kX (dR d)))+1)) 9 (dP 2 (fA .i64 ((Int.tmod (dR d) 12)+1)) 6 (dP 4 (fA .i64 (1900+(fA .i64 (Int.tdiv (dR d) 12)))) 3 [0,0,0,0,45,0,0,45,0,0]))
theorem zg3(d:Int):(Bf d).length=10/\qB 256 (Bf d):=by
 have h0:qB 256 [0,0,0,0,45,0,0,45,0,0]:=by intro x hx;simp at hx;omega
 have h1:=Ee 4 (fA .i64 (1900+(fA .i64 (Int.tdiv (dR d) 12)))) 3 _ h0
 have h2:=Ee 2 (fA .i64 ((Int.tmod (dR d) 12)+1)) 6 _ h1.2
 have h3:=Ee 2 (fA .i64 ((fA .i64 (d-kX (dR d)))+1)) 9 _ h2.2
 simp_all [Bf]
def zk5{K:zA->T}{Q:mB} {p:Nat}{x:Int}(hl:l.length=10)(hlt:qB 256 l)(hp:yA.base<=p)(hc:iC t p none (cB l))(hk:from_+k<=10)(h1:1<=from_+k)
  (h:∀t',iC t' p none (cB (dP k x (from_+k-1) l))->yF p t t'->∀u,wp 74 (K u) t' Q) :
  wp 74 (.call 136 [.agg [(.int .u8 ((cellsOf (cB l)).i 0)),(.int .u8 ((cellsOf (cB l)).i 1)),(.int .u8 ((cellsOf (cB l)).i 2)),(.int .u8 ((cellsOf (cB l)).i 3)),(.int .u8 ((cellsOf (cB l)).i 4)),(.int .u8 ((cellsOf (cB l)).i 5)),(.int .u8 ((cellsOf (cB l)).i 6)),(.int .u8 ((cellsOf (cB l)).i 7)),(.int .u8 ((cellsOf (cB l)).i 8)),(.int .u8 ((cellsOf (cB l)).i 9))],.int .i64 (from_:Int),.int .i64 (k:Int),.int .i64 x] fun a=>.asG z10 a fun X=>
   .heavy (sC yA 209 (.ptr p 0) (.agg [(.int .u8 (X.i 0)),(.int .u8 (X.i 1)),(.int .u8 (X.i 2)),(.int .u8 (X.i 3)),(.int .u8 (X.i 4)),(.int .u8 (X.i 5)),(.int .u8 (X.i 6)),(.int .u8 (X.i 7)),(.int .u8 (X.i 8)),(.int .u8 (X.i 9))])) K) t Q:=by
 have hw:=Ee k x (from_+k-1) l hlt
 refine xB ?_
 rw[BU hl,q136,RF hl hk h1,vA];refine bC (Oe (by rw[hw.1,hl])) (gC fun n _ _=>?_)
 rw[BU (by rw[hw.1,hl])]
 obtain⟨t',g1,g2,g3⟩:=PU hc hp hl (m:=dP k x (from_+k-1) l) (by rw[hw.1,hl])
 exact⟨_,_,g1 n,h t' g2 g3 _⟩
theorem cal_ok(hG:rN t) (h0:0<=d)(h1:d<65536):lB yA F 74 [.int .i64 d] t=some (.str (Bf d)):=by
 refine zU (w74 ?_)
 unfold t74 uI uS uG uX uZ uY uA6;refine xB ?_
 rw[q135,ymd_ok hG h0 h1,vA];unfold ymdD;refine rA rfl (rB (rA rfl (rB (rA rfl (rB (rA rfl (rB (zB (by grind [eP]) (pA rfl ?_)))))))))
 refine gC fun p hp hbase=>?_
 obtain⟨t1,e1,c1,l1,o1⟩:=dO (C:=yA) La hp
 refine⟨_,_,e1,?_⟩
 have c1':iC t1 p none (cB [0,0,0,0,0,0,0,0,0,0]):=c1
 refine gC fun n _ _=>?_
 obtain⟨t2,e2,c2,o2⟩:=PU c1' hbase rfl (m:=[0,0,0,0,45,0,0,45,0,0]) rfl
 refine⟨_,_,e2 n,?_⟩
 have h0':qB 256 [0,0,0,0,45,0,0,45,0,0]:=by intro x hx;simp at hx;omega
 refine aB (Tt c2 rfl) (bC (Oe rfl) ?_)
 refine zk5 (from_:=0) (k:=4) rfl h0' hbase c2 (by omega) (by omega) fun t3 c3 o3 _=>?_
 have w3:=Ee 4 (fA .i64 (1900+(fA .i64 (Int.tdiv (dR d) 12)))) 3 _ h0'
 refine aB (Tt c3 w3.1) (bC (Oe w3.1) ?_)
 refine zk5 (from_:=5) (k:=2) w3.1 w3.2 hbase c3 (by omega) (by omega) fun t4 c4 o4 _=>?_
 have w4:=Ee 2 (fA .i64 ((Int.tmod (dR d) 12)+1)) 6 _ w3.2
 rw[w3.1]at w4;refine aB (Tt c4 w4.1) (bC (Oe w4.1) ?_)
 refine zk5 (from_:=8) (k:=2) w4.1 w4.2 hbase c4 (by omega) (by omega) fun t5 c5 o5 _=>?_
 have hL:=zg3 d
 have c5':iC t5 p none (cB (Bf d)):=c5
 have hs:iD yA 209 ⟨0,t5⟩ (.ptr p 0) none none=some (.slice p 0 10 10):=by
  obtain⟨c,g,_⟩:=c5'
  have hk:qD ⟨0,t5⟩ p=some (c,(cB (Bf d)).length,none):=by unfold qD;rw[g];rfl
  unfold iD;rw[La,qA];unfold dM;simp only[zA.asStr,zA.asSlice,zA.asPtr,xE.asArr,qA];unfold wP;rw[ty5,qA];have hb2:jP 10 10 none none=some (0,10):=rfl
  rw[hb2,qA];unfold eM lN;rw[hk];rfl
 have hv:xP yA 96 9 ⟨0,t5⟩ (.slice p 0 10 10)=some (.str (Bf d)):=YH bT yL rfl rfl rfl ty5 rfl c5' hL.1 (fun j x hj=>by
  grind [cB]) hL.2
 refine aB hs (aB hv (eD ⟨rfl,fun b y hy=>?_⟩))
 have:b≠p:=fun e=>by simp_all
 rw[o5 b this,o4 b this,o3 b this,o2 b this];exact l1 _ _ hy
end
section
mutual
def mA.cpy:mA->Prop
 | .mk _ _ v args=>(v.f.n.limbs.length<300000/\v.f.d.limbs.length<300000)/\args.length<300000/\mA.cpys args
def mA.cpys:List mA->Prop
 | []=>True
 | x::l=>mA.cpy x/\mA.cpys l
end
structure Gt.cpy (p:Gt):Prop where
 defs:p.defs.length<300000
 tables:p.tables.length<300000
 clauses:p.clauses.length<300000
 rows:∀x∈p.tables,x.rows.length<300000/\∀r∈x.rows,r.f.n.limbs.length<300000/\r.f.d.limbs.length<300000
 exprs:∀x∈p.clauses,mA.cpy x.when_/\mA.cpy x.then_
def eE.cpy(f:eE):Prop:=f.n.limbs.length<300000/\f.d.limbs.length<300000
def NE (tk:List eC)(a b:Nat):Prop:=∀j,a<=j->j<b->aM tk 5 j=false
theorem NE.nil{tk:List eC}{a:Nat}:NE tk a a:=fun j h1 h2=>by omega
structure VP where
 tk:List eC
 tk2:List eC
 d:Nat
 k:Nat
 full:Prop
 dp:Prop
 lo:Nat:=0
abbrev stopW:List (List Nat):=[[41],wThen]
structure VW (S:VP):Prop where
 acc:∀i,S.lo<=i->i<S.k->∀w,Proofs.acc S.tk2 w (i+S.d)=Proofs.acc S.tk w i
 kind:∀i,S.lo<=i->i<S.k->∀q,aM S.tk2 q (i+S.d)=aM S.tk q i
 text:∀i,S.lo<=i->i<S.k->tR S.tk2 (i+S.d)=tR S.tk i
 qacc:∀w,w∉stopW->Proofs.acc S.tk2 w (S.k+S.d)=false
 qkind:∀q,q=2\/q=3->aM S.tk2 q (S.k+S.d)=false
 qname:xY S.tk2 (S.k+S.d)=false
 full:S.full->¬ S.dp/\(∀w,Proofs.acc S.tk2 w (S.k+S.d)=false)/\∀q,q≠5->aM S.tk2 q (S.k+S.d)=false
 good:∀x∈S.tk,sZ x
def RRk {α:Type}(j:Nat)(r:PR α):Prop:=match r with | .ok _ n=>n=j | .er e i=>i=j/\(e=120\/e=122)
def MO {α:Type}(S:VP)(V:α->Prop)(n:Nat)(r:PR α):Prop:=
 match r with | .ok a n'=>n<=n'/\NE S.tk n n'/\V a | .er e i=>n<=i/\NE S.tk n i/\(e=120\/e=121\/e=122)
structure RA {α:Type} (S:VP) (V:α->Prop) (n:Nat) (r r2:PR α):Prop where
 mo:MO S V n r
 ok:n<=S.k->∀a n',r=.ok a n'->n'<=S.k->r2=.ok a (n'+S.d)\/(S.dp/\∃i,r2=.er 122 i)
 er:n<=S.k->S.full->∀e,r=.er e S.k->RRk (S.k+S.d) r2
structure Rel {α:Type} (S:VP) (H:Prop) (V:α->Prop) (f f2:PM α):Prop where
 ra:H->∀n,S.lo<=n->RA S V n (f n) (f2 (n+S.d))
 rr:S.full->RRk (S.k+S.d) (f2 (S.k+S.d))
section
variable {S:VP}{H:Prop}{α β:Type}{V:α->Prop}{W:β->Prop}{n:Nat}
theorem RA.fail{e:Nat}(he:e=120\/e=122):RA S V n (.er e n) (.er e (n+S.d)):=
 ⟨⟨ybk _,NE.nil,by omega⟩,fun _ b m e _=>(by cases e),fun _ _ e' h=>by cases h;exact⟨rfl,he⟩⟩
end
end
section
variable {k:Nat}{w:List Nat}
def stopR(r:List Nat):Prop:=∀c r',r=c::r'->c=10\/c=32\/c=40\/c=41\/c=44
theorem zkq{s:List Nat}  (h:rH s=.tok k w):∃r,s=w++r:=by
 unfold rH at h;split at h
 ·cases h
 ·rename_i b s
  split at h
  ·split at h
   ·cases h
   ·cases h;obtain⟨r,h,_⟩:=Xp (p:=mL) (s:=b::s);grind
  ·split at h
   ·grind [List.take_append_drop]
   ·split at h
    ·grind [List.take_append_drop]
    ·split at h
     ·cases h;simp_all
     ·cases h
def zd2{b:Nat}{r:List Nat}  (h:rH (b::r)=.tok k w):b≠10/\b≠32/\b≠9/\b≠35:=by
 refine⟨?_,?_,?_,?_⟩ <;> (rintro rfl;simp_all [rH,vS,bE,Iu])
end
section
variable {r s:List Nat}{o:Bool}{b:Nat}
abbrev gL:=Nat × List Nat
def kt (t:eC):gL:=(t.kind,t.text)
def ktR:LR->Option (List gL)
 | .ok l=>some (l.map kt)
 | .er _ _ _=>none
def eN:Nat->List Nat->Bool->Option (List gL)
 | 0,_,_=>some []
 | _+1,[],o=>some (if o=true then [(5,[])]else [])
 | k+1,b::r,o=>
  if b=10 then(eN k r false).map fun l=>if o=true then(5,[])::l else l
  else if b=32\/b=9 then eN k r o
  else if b=35 then eN k ((b::r).drop (iE (fun x=>decide (x≠10)) (b::r)).length) o
  else match rH (b::r)with
   | .bad _=>none
   | .tok kd w=>(eN k ((b::r).drop w.length) true).map fun l=>(kd,w)::l
def zl9:∀(k:Nat) (s:List Nat) (ln cl:Nat) (op:Option (Nat × Nat)),ktR (nM k s ln cl op)=eN k s op.isSome:=by
 have cons:∀(t:eC) (r:LR),ktR (r.cons t)=(ktR r).map fun l=>kt t::l:=fun t r=>by cases r<;>rfl
 have close:∀(op:Option (Nat × Nat)) (r:LR),ktR (LR.close op r)=(ktR r).map fun l=>if op.isSome=true then(5,[])::l else l:=fun op r=>by
  cases op with
  | none=>cases r<;>rfl
  | some p=>exact cons _ r
 intro k;induction k with
 | zero=>intro s ln cl op;rfl
 | succ k ih=>
  intro s ln cl op
  cases s with
  | nil=>rw[nM,close];rfl
  | cons b r=>
   rw[nM,eN];split
   ·simp_all
   split
   ·simp_all
   split
   ·simp_all
   ·cases rH (b::r)with
    | bad e=>rfl
    | tok kd w=>exact(cons _ _).trans (by rw[ih];rfl)
def zbp:∀(k k':Nat) (s:List Nat) (o:Bool),s.length<k->s.length<k'->eN k s o=eN k' s o:=by
 intro k;induction k with
 | zero=>omega
 | succ k ih=>
  intro k' s o h h';obtain⟨k',rfl⟩:∃m,k'=m+1:=⟨k'-1,by omega⟩
  cases s with
  | nil=>rfl
  | cons b r=>
   simp only[ybn]at h h'
   rw[eN,eN];split
   ·rw[ih k' r false (by omega) (by omega)]
   split
   all_goals grind [iE,List.takeWhile_cons,Pr]
def mK (s:List Nat)(o:Bool):Option (List gL):=eN (s.length+1) s o
theorem Ry{k:Nat}  (h:s.length<k):eN k s o=mK s o:=zbp _ _ _ _ h (by omega)
def ze9  : mK [] o=some (if o=true then [(5,[])]else []):=rfl
def zl5   : mK (10::r) o=(mK r false).map fun l=>if o=true then(5,[])::l else l:=by
 grind [mK,eN]
theorem zl6   (h:b=32\/b=9):mK (b::r) o=mK r o:=by
 grind [mK,eN]
theorem zfa   : mK (35::r) o=mK ((35::r).drop (iE (fun x=>decide (x≠10)) (35::r)).length) o:=by
 rw[<- Ry (k:=(35::r).length+1) (by omega),eN,yaa (by omega),yaa (by omega),yab rfl]
 grind [Ry,iE,List.takeWhile_cons]
theorem JU {w:List Nat}{kd:Nat} (h:rH (b::r)=.tok kd w):mK (b::r) o=(mK ((b::r).drop w.length) true).map fun l=>(kd,w)::l:=by
 obtain⟨h1,h2,h3,h4⟩:=zd2 h
 have:=(Pr h).1
 rw[<- Ry (k:=(b::r).length+1) (by omega),eN,yaa h1,yaa (by omega),yaa h4,h]
 show(eN _ _ true).map _=_
 rw[Ry (by grind)]
theorem zfb  {e:Nat} (h1:b≠10)(h2:b≠32)(h3:b≠9)(h4:b≠35)(h:rH (b::r)=.bad e):mK (b::r) o=none:=by
 unfold mK;rw[eN,yaa h1,yaa (by omega),yaa h4,h]
def zbo{M:List Nat->Prop}(h0:M [])(h1:∀r,M r->M (10::r))(h2:∀b r,b=32\/b=9->M r->M (b::r))
  (h3:∀r,M ((35::r).drop (iE (fun x=>decide (x≠10)) (35::r)).length)->M (35::r))
  (h4:∀b r kd w,rH (b::r)=.tok kd w->M ((b::r).drop w.length)->M (b::r))
  (h5:∀b r e,b≠10->b≠32->b≠9->b≠35->rH (b::r)=.bad e->M (b::r)):∀s,M s:=by
 have key:∀(n:Nat) (s:List Nat),s.length<=n->M s:=by
  intro n;induction n with
  | zero=>
   simp_all
  | succ n ih=>
   intro s hs
   cases s with
   | nil=>exact h0
   | cons b r=>
    simp only[ybn]at hs;by_cases a1:b=10
    ·simp_all
    by_cases a2:b=32\/b=9
    ·simp_all
    by_cases a3:b=35
    ·grind [iE,List.takeWhile_cons]
    cases ht:rH (b::r)with
    | bad e=>simp_all
    | tok kd w=>
     refine h4 b r kd w ht (ih _ ?_)
     have:=(Pr ht).1
     rw[ydj,ybn];omega
 exact fun s=>key _ s (ybk _)
def zl8(s:List Nat):ktR (Fq s)=mK s false:=zl9 _ _ _ _ _
def zl7 {m:List eC}(h:Fq s=.ok m):mK s false=some (m.map kt):=by rw[<- zl8,h];rfl
end
section
section
variable {S:VP}{H:Prop}{n:Nat}{o o2:PM mA}
def Bq.cpy(c:Bq):Prop:=mA.cpy c.when_/\mA.cpy c.then_
end
end
section
structure Cg (tk tk':List eC):Prop where
 acc:acc tk=acc tk'
 kind:aM tk=aM tk'
 text:tR tk=tR tk'
 len:tk.length=tk'.length
end
section
section
variable {tk:List eC}(hg:∀x∈tk,sZ x)
include hg
structure PBd (p:Gt) (n:Nat):Prop where
 defs:p.defs.length<=n
 tables:p.tables.length<=n
 clauses:p.clauses.length<=n
 rows:∀x∈p.tables,x.rows.length<=n/\∀r∈x.rows,eE.cpy r.f
 exprs:∀x∈p.clauses,Bq.cpy x
end
end
section
def inLine(l:List gL):Prop:=l≠[]/\∀t∈l,t.1≠5/\rH t.2=.tok t.1 t.2
structure Ex (m:List eC) (u:List gL) (x:mA):Prop where
 toks:m.map kt=u++[(5,[])]
 line:inLine u
 good:∀t∈m,sZ t
 ok:znb m 0=.ok x u.length
end
section
theorem eqS_ne{v w:List Nat}(h:v≠w):wG v w=false:=by
 grind [gK]
variable {m T:List eC}{u:List gL}{x:mA}
abbrev startX(x:mA):mA:=kY 7 (.mk 26 [] ⟨0,aK,(0:Nat)⟩ [x]) (Jh ⟨2,tY [49] false,0⟩)
end
section
def zgi(n:Nat):oG n=cU n:=by
 induction n using Nat.strongRecOn with
 | _ n ih=>
  grind [cU,Nv,Nx]
theorem CN{f:eE}(h:Bt f=true):f=aK:=by
 obtain⟨⟨a,l⟩,⟨b,m⟩⟩:=f
 unfold Bt at h;simp only[ybb,ycp,decide_eq_true_eq]at h;have h1:l=[]:=List.eq_nil_of_length_eq_zero (by omega)
 have h2:m=[]:=List.eq_nil_of_length_eq_zero (by omega)
 rw[h.1.1,h.1.2,h1,h2];rfl
def zat:((List.range 2154).all fun m=>Nat.beq (yG (m+1)) (yG m+bM (1900+m / 12) (m%12+1)))=true:=by kernel_rfl
theorem EZ{m:Nat}(h:m<2154):yG (m+1)=yG m+bM (1900+m / 12) (m%12+1):=Nat.eq_of_beq_eq_true (ycb.1 zat m (List.mem_range.2 h))
def FB:Nat.ble 65536 (yG 2154)=true:=by kernel_rfl
def JF(n:Nat):∀k,vT k n<=k/\yG (vT k n)<=n/\(n<yG (k+1)->n<yG (vT k n+1)):=by
 intro k;induction k with
 | zero=>exact⟨ybk _,by show yG 0<=n;exact yaw _,id⟩
 | succ k ih=>
  grind [vT]
theorem zmb(y m:Nat):bM y m<=31:=by
 unfold bM;split
 ·omega
 ·split
  ·omega
  ·rename_i h _
   have:m=1\/m=2\/m=3\/m=4\/m=5\/m=6\/m=7\/m=8\/m=9\/m=10\/m=11\/m=12:=by omega
   rcases this with rfl | rfl | rfl | rfl | rfl | rfl | rfl | rfl | rfl | rfl | rfl | rfl<;>decide
end
section
variable [rC]
def TL:((List.range 2155).all fun m=>kB (kX (m:Int)) (yG m:Int))=true:=by kernel_rfl
def FC{m:Nat}(h:m<2155):kX (m:Int)=(yG m:Nat):=(lW _ _).1 (ycb.1 TL m (List.mem_range.2 h))
theorem FA:∀ {a b:Nat},a<=b->b<=2154->yG a<=yG b:=by
 intro a b h;induction h with
 | refl=>omega
 | @step m hm ih=>grind [EZ]
theorem Xk{P:Int->Bool}(hP:∀x y:Nat,x<=y->y<2154->P (y:Int)=false->P (x:Int)=false) :
  ∀(k i j:Nat),j-i<=k->i<=j->j<=2154->(∀x:Nat,x<i->P (x:Int)=false)->(j<2154->P (j:Int)=true) →
   ∃r:Nat,Ci P k i j=(r:Int)/\r<=2154/\(∀x:Nat,x<r->P (x:Int)=false)/\(r<2154->P (r:Int)=true)
 | 0,i,j,h1,h2,h3,h4,h5=>⟨i,rfl,by omega,h4,by grind⟩
 | k+1,i,j,h1,h2,h3,h4,h5=>by
  unfold Ci;by_cases h:i<j
  ·rw[yab h]
   by_cases hp:P (((i+j) / 2:Nat):Int)=true
   ·rw[yab hp]
    exact Xk hP k i _ (by omega) (by omega) (by omega) h4 fun _=>hp
   ·rw[yaa hp]
    exact Xk hP k _ j (by omega) (by omega) h3 (fun x hx=>hP x _ (by omega) (by omega) (Bool.eq_false_iff.2 hp)) h5
  grind
theorem zbh{n:Nat}(hn:n<65536):dR (n:Int)=(vT 2153 n:Nat):=by
 have hP:∀y:Nat,y<2154->jB (n:Int) (kX (fA .i64 ((y:Int)+1)))=decide (n<yG (y+1)):=fun y hy=>by
  rw[wrap_i64 (by omega) (by omega),show(y:Int)+1=((y+1:Nat):Int) by omega,FC (by omega)]
  grind [Fw]
 obtain⟨r,h1,h2,h3,h4⟩:=Xk (P:=fun m=>jB (n:Int) (kX (fA .i64 (m+1)))) (fun x y hxy hy h=>by
  simp only[hP y hy,decide_eq_false_iff_not]at h;simp only[hP x (by omega),decide_eq_false_iff_not]
  have:=FA (show x+1<=y+1 by omega) (by omega)
  omega) 2154 0 2154 (by omega) (by omega) (by omega) (fun x hx=>by omega) (fun h=>by omega)
 have hl:65536<=yG 2154:=Nat.le_of_ble_eq_true FB
 obtain⟨s1,s2,s3⟩:=JF n 2153
 have s3:=s3 (show n<yG 2154 by omega)
 show Ci _ _ _ _=_
 rw[h1];generalize vT 2153 n=m at *
 congr 1
 rcases Nat.lt_trichotomy r m with h | h | h
 ·have:=h4 (by omega)
  simp only[hP r (by omega),decide_eq_true_eq]at this
  have:=FA (show r+1<=m by omega) (by omega)
  omega
 all_goals grind
theorem Bv{k x i:Nat}{l:List Nat}(hx:x<1000000000):dP (k+1) (x:Int) i l=dP k ((x / 10:Nat):Int) (i-1) (l.set i (d1 x)):=by
 have e1:Int.tdiv (x:Int) 10=((x / 10:Nat):Int):=by simp_all
 have e2:qY (x:Int)=d1 x:=by
  grind [qY,d1]
 show dP k (fA .i64 (Int.tdiv (x:Int) 10)) (i-1) (l.set i (qY x))=_
 rw[e1,e2,wrap_i64 (by omega) (by omega)]
theorem zg2{n:Nat}(hn:n<65536):Bf (n:Int)=fW n:=by
 have hm:=zbh hn
 obtain⟨s1,s2,s3⟩:=JF n 2153
 have s3:=s3 (by have:65536<=yG 2154:=Nat.le_of_ble_eq_true FB;grind)
 rw[EZ (by omega)]at s3
 have hb:=zmb (1900+vT 2153 n / 12) (vT 2153 n%12+1)
 unfold Bf fW;rw[hm];generalize vT 2153 n=M at *
 rw[FC (by omega)]
 have e1:Int.tdiv (M:Int) 12=((M / 12:Nat):Int):=by simp_all
 have e2:Int.tmod (M:Int) 12=((M%12:Nat):Int):=by grind
 rw[e1,e2,wrap_i64 (n:=(n:Int)-(yG M:Nat)) (by omega) (by omega),wrap_i64 (n:=((M / 12:Nat):Int)) (by omega) (by omega),wrap_i64 (by omega) (by omega),wrap_i64 (by omega) (by omega),wrap_i64 (by omega) (by omega)]
 rw[show(n:Int)-(yG M:Nat)+1=((n-yG M+1:Nat):Int) by omega,show((M%12:Nat):Int)+1=((M%12+1:Nat):Int) by omega,show(1900:Int)+((M / 12:Nat):Int)=((1900+M / 12:Nat):Int) by omega]
 have b1:1900+M / 12<10000:=by omega
 have b2:M%12+1<100:=by omega
 have b3:n-yG M+1<100:=by omega
 clear hm s2 s3 hb e1 e2
 generalize 1900+M / 12=y at *
 generalize M%12+1=m at *
 generalize n-yG M+1=d at *
 rw[Bv (by omega),Bv (by omega),Bv (by omega),Bv (by omega),Bv (by omega),Bv (by omega),Bv (by omega),Bv (by omega)]
 simp[dP,ymdS,Nat.div_div_eq_div_mul]
end
section
variable [rC]
variable {t tf:Tr tA}
def iT(t:Tr tA):Prop:=At t 1 0 (rU.map zA.str)
theorem iT.mono{t':Tr tA}(h:iT t)(k:bA t t'):iT t':=At.mono k h
theorem WF(hG:iT t){n:Nat}(hn:n<256):lB yA F 170 [.int .u8 (n:Int)] t=some (.str (bX n))/\(bX n).length<=10/\qB 256 (bX n):=by
 unfold bX;by_cases h:n<7
 ·have hx:(rU.map zA.str)[n]?=some (.str (rU.getD n [])):=by
   have:n<rU.length:=h
   simp_all
  rw[yab h];refine⟨kC.2 (w170 (pA (by grind [wrap_i64,sK]) (rA (v:=.ptr 1 n) ?_ (aB (v:=.str (rU.getD n [])) ?_ (eD ⟨rfl,rfl⟩))))),?_,?_⟩
  ·unfold tC
   rw[ty223,qA];have e:(zA.int .u8 (n:Int)).asNat=some n:=rfl
   rw[e,qA];grind [zA.asSlice,zA.asPtr,qA,xE.asArr,yL,nC,cD]
  ·have:=hG.load1 yL rfl hx
   grind
  ·have:∀k,k<7->(rU.getD k []).length<=10:=by decide
   grind
  ·have:∀k,k<7->∀x∈rU.getD k [],x<256:=by decide
   exact this n h
 ·rw[yaa h]
  exact⟨kC.2 (w170 (zB (by grind [wrap_i64,pK]) ⟨rfl,rfl⟩)),by simp,fun x hx=>by cases hx⟩
theorem Za{s:List Nat}(h:∀x∈s,48<=x/\x<58):qB 256 s:=fun x hx=>by grind
def uT{a b:List Nat}(ha:qB 256 a)(hb:qB 256 b):qB 256 (a++b):=fun x hx=>by
 rcases yaf.1 hx with h | h
 ·exact ha x h
 ·exact hb x h
theorem Yz{neg:Bool}{n:Nat}:qB 256 (Ft neg n)/\Ft neg n≠[]:=by
 have h:=Te n
 refine⟨uT ?_ (Za (Je n)),fun e=>?_⟩
 ·cases neg
  ·intro x hx;cases hx
  ·intro x hx;simp_all
 grind [Ft]
def JL{f:eE}:qB 256 (lM f)/\lM f≠[]:=by
 unfold lM nX;refine⟨uT Yz.1 ?_,fun e=>Yz.2 (List.append_eq_nil_iff.1 e).1⟩
 split
 ·intro x hx;cases hx
 ·intro x hx
  rcases ybs.1 hx with rfl | hx
  ·decide
  ·exact Yz.1 x hx
theorem JK{n:Int}:qB 256 (nL n)/\nL n≠[]:=by
 by_cases h:n<0
 ·obtain⟨u,rfl⟩:∃u:Nat,n = -(u:Int):=⟨n.natAbs,by omega⟩
  rw[Sd (by omega)]
  refine⟨fun x hx=>?_,by simp⟩
  rcases ybs.1 hx with rfl | hx
  ·decide
  ·exact Za (Je u) x hx
 ·obtain⟨u,rfl⟩:∃u:Nat,n=(u:Int):=⟨n.toNat,by omega⟩
  rw[Na];exact⟨Za (Je u),fun e=>by grind [Te]⟩
theorem JJ{s:List Nat}(h:qB 256 s)(hn:s≠[]):qB 256 (zK s)/\zK s≠[]:=by
 unfold zK;split
 ·exact⟨uT (by intro x hx;grind) fun x hx=>h x (List.mem_of_mem_drop hx),by simp⟩
 simp_all
def zcq(n:Nat):(fW n).length=10/\qB 256 (fW n):=⟨rfl,by unfold fW ymdS d1;intro x hx;simp only[ybs,List.not_mem_nil,or_false]at hx;omega⟩
theorem RQ{v:zF}(hv:v.fit)(hp:yQ v=true):qV v≠[]/\(qV v).length<=20100/\qB 256 (qV v):=by
 obtain⟨_,hff,hi1,hi2⟩:=hv
 have hil:=Zy hi1 hi2
 have hsl:=Qh (nL v.i)
 have hsi:=JJ (JK (n:=v.i)).1 JK.2
 have hsf:=JJ (JL (f:=v.f)).1 JL.2
 have hc:=zcq v.i.toNat
 have hF:∀k,(k=2\/k=3)->v.kind=k->(zK (lM v.f)).length<=20010:=by
  grind [AK,Qs,Qh]
 unfold qV Eg;split
 ·split
  ·exact⟨by simp,by simp,by intro x hx;grind⟩
  ·exact⟨by simp,by simp,by intro x hx;grind⟩
 ·split
  ·grind
  ·split
   ·rename_i e;have:=hF 3 (.inr rfl) e
    exact⟨by simp,by grind,uT (by intro x hx;grind) hsf.1⟩
   ·split
    ·grind
    ·split
     ·exact⟨by simp,by grind,uT hsi.1 (by intro x hx;grind)⟩
     ·split
      ·exact⟨by simp,by simp;omega,uT hsi.1 (by intro x hx;grind)⟩
      grind [yQ]
theorem NA{op:Nat}(h:op<27):(sB op).word.length<=10/\∀x∈(sB op).word,x<256:=by
 have:∀k,k<27->(sB k).word.length<=10/\∀x∈(sB k).word,x<256:=by decide +kernel
 grind
theorem ND{op:Nat}(h:op<27):((sB op).style=1->op=1)/\((sB op).style=2->(sB op).word≠[])/\((sB op).style=3->1<=(sB op).least)/\((sB op).style=4->2<=(sB op).least)/\((sB op).style=5->1<=(sB op).least/\(sB op).word≠[])/\(sB op).style<=6/\(sB op).most<=3/\(op=1->(sB op).style=1):=by
 have:∀k,k<27->((sB k).style=1->k=1)/\((sB k).style=2->(sB k).word≠[])/\((sB k).style=3->1<=(sB k).least)/\((sB k).style=4->2<=(sB k).least)/\((sB k).style=5->1<=(sB k).least/\(sB k).word≠[])/\(sB k).style<=6/\(sB k).most<=3/\(k=1->(sB k).style=1):=by decide +kernel
 grind
theorem JB{s:List Nat}(h:gN s=true):s.length<=24:=by
 unfold gN at h;grind
def oK (h:Nat):Nat:=86000+200*h
def WOk (bf:Nat)(x:mA):Prop:=∀(d:Nat) (cs:List zA) (tf t:Tr tA) (bx:Nat) (s:List Nat) (Q:mB),x.fit->sJ x d=true->iC tf bf none mT->rN tf->iT tf->RD tf x.d cs->BX 134 [.ptr bf 0] tf t bx s->s.length<=95000 →
 (∀t' s',BX 134 [.ptr bf 0] tf t' bx s'->s'≠[]->s'.length<=max s.length (oK (25-d))->Wr s (gF x) s'->Q (.tup []) t')->Wc yA F 62 [.ptr bx 0,.agg cs] t Q
def iQ{b:Nat}:pC yA 134 0 (.ptr b 0)=some (.ptr b 0):=by kernel_rfl
def NX{b:Nat}:pC yA 134 1 (.ptr b 0)=some (.ptr b 2):=by kernel_rfl
def BX.forms{bf bx:Nat}{s:List Nat}(h:BX 134 [.ptr bf 0] tf t bx s):iA yA 69 ⟨0,t⟩ (.ptr bx 2)=some (.ptr bf 0):=by
 obtain⟨_,_,_,_,_,p,tv,_,h4,_,_⟩:=h
 exact h4.load1 (j:=2) ty69 rfl rfl
section
variable {bf bx:Nat}{s:List Nat}{Q:mB}
theorem BX.len{T:Nat}{ex:List zA}(h:BX T ex tf t bx s):lB yA F 43 [.ptr bx 0] t=some (.int .i64 (s.length:Int)):=by
 obtain⟨h1,h2,h3,ha,hM,p,tv,hp,h4,h5,h6⟩:=h
 refine kC.2 (w43 ?_)
 unfold t43 uI oC uZ;have hlen:=h5.len
 rw[fF]at hlen;exact rA mG (rA fa77 (aB (h4.load1 (j:=1) bT rfl rfl) (rA hlen (rB ⟨rfl,rfl⟩))))
theorem ZM{y:mA}{d:Nat}{cs:List zA}{lev:Nat}(hy:WOk bf y)(hfit:y.fit)(hP:sJ y d=true)(hF:iC tf bf none mT)(hM:rN tf)(hW:iT tf)(hr:RD tf y.d cs)(hB:BX 134 [.ptr bf 0] tf t bx s)(hs:s.length<=94000)(hd1:1<=d)
  (hQ:∀t' s',BX 134 [.ptr bf 0] tf t' bx s'->s'≠[]->s'.length<=max s.length (oK (25-d))+2->Wr s (yN lev ((sB y.op).level,gF y)) s'->Q (.tup []) t'):Wc yA F 123 [.ptr bx 0,.agg cs,.int .i64 (lev:Int)] t Q:=by
 obtain⟨a,b,c,rfl,ha,hb,hc⟩:=qH hr
 have hop:y.op<27:=by
  obtain⟨op,name,v,args⟩:=y
  unfold sJ Cz at hP;simp only[ybb,decide_eq_true_eq]at hP;exact hP.1.2.1.1.1.1
 have hbm:oK (25-d)<=91000:=by grind [oK]
 refine w123 ?_
 unfold t123 uI oC uZ uY;refine rA mG (rA NX (aB hB.forms (rA mG (rA (AG hop) (rA (gQ (by decide)) (aB (zfh (hF.up hB.le) hop) (rB ?_)))))))
 by_cases hl:lev<=(sB y.op).level
 ·refine pA (yLe (by omega)) (xB ?_)
  rw[q62];exact hy d _ tf t bx s _ hfit hP hF hM hW hr hB (by omega) fun t' s' h1 h2 h3 h4=>hQ t' s' h1 h2 (by omega) (h4.eq (by unfold yN;rw[yab hl]))
 ·refine zB (nLe (by omega)) (rA mG (rA iQ (xB ?_)))
  rw[q42];refine hB.write (by simp) (by intro x hx;simp_all) (by grind) fun _ t1 h1=>xB ?_
  rw[q62];refine hy d _ tf t1 bx _ _ hfit hP hF hM hW hr h1 (by grind) fun t2 s2 h2 h2n h2l h2w=>rA mG (rA iQ (xB ?_))
  rw[q42];simp only[ybg,List.length_singleton]at h2l;refine h2.write (by simp) (by intro x hx;simp_all) (by grind) fun _ t3 h3=>?_
  exact hQ _ _ h3 (by simp) (by grind) ((((Wr.one _ _).trans h2w).trans (Wr.one _ _)).eq (by unfold yN;rw[yaa hl]))
theorem zc7{args:List mA}{d:Nat}{c:zA}(hall:∀y∈args,WOk bf y)(hfits:∀y∈args,y.fit)(hP:∀y∈args,sJ y (d+1)=true)(hF:iC tf bf none mT)(hM:rN tf)(hW:iT tf)(hc:cA tf 9 (args.map mA.d) c)(hlen:args.length<=3)(hd:d<=24)
  {c0 c2 c7:Int} {c1:List Nat} {c3 c5:Bool} {c4 c6 c8:zA} {op:Nat} (hc0:c0=(op:Int)) (h19c:op=19->0<=c7/\c7<256):∀(k i:Nat) (t:Tr tA) (s:List Nat),i+k=args.length->BX 134 [.ptr bf 0] tf t bx s->s≠[]->s.length<=oK (24-d)+100+2*i →
  (∀t' s',BX 134 [.ptr bf 0] tf t' bx s'->s'≠[]->s'.length<=oK (24-d)+130->Wr s (nU (decide (i=0)) ((bI args).drop i)++Lc op c7) s'->Q (.tup []) t') →
  jp 124 2 [.ptr bx 0,c,.int .i64 (args.length:Int),.int .i64 (i:Int),.int .u8 c0,.str c1,.int .u8 c2,.bool c3,c4,.bool c5,c6,.int .i64 c7,c8] t Q:=by
 have hbm:oK (24-d)<=91000:=by grind [oK]
 intro k;induction k with
 | zero=>
  intro i t s hi hB hn hs hQ;refine zjj ?_
  unfold Wx uS uG yC vC oC uZ uY eF kD;refine zB (pK (by omega)) ?_
  have hdrop:(bI args).drop i=[]:=ybt (by grind [Hg])
  rw[hdrop,nU,yah]at hQ;unfold Lc at hQ;by_cases h19:op=19
  ·rw[yab h19]at hQ
   refine pA (eP (by omega)) (rA mG (rA iQ (xB ?_)))
   obtain⟨n,hn1,hn2,hn3⟩:∃n:Nat,fA .u8 c7=(n:Int)/\n<256/\c7.toNat=n:=⟨c7.toNat,by grind [Gy],by omega,rfl⟩
   obtain⟨hw1,hw2,hw3⟩:=WF (hW.mono hB.le) hn2
   rw[hn3]at hQ;rw[hn1,q170,hw1,vA];refine eD (rA (uP (by grind)) (eD (xB ?_)))
   rw[q42];refine hB.write (by simp) (uT (by intro x hx;grind) hw3) (by grind) fun _ t1 h1=>rA mG (rA iQ (xB ?_))
   rw[q42];refine h1.write (by simp) (by intro x hx;simp_all) (by grind) fun _ t2 h2=>?_
   exact hQ _ _ h2 (by simp) (by grind) ((Wr.one _ _).trans (Wr.one _ _))
  ·rw[yaa h19,yah]at hQ
   refine zB (uJ (by omega)) (rA mG (rA iQ (xB ?_)))
   rw[q42];refine hB.write (by simp) (by intro x hx;simp_all) (by grind) fun _ t2 h2=>?_
   exact hQ _ _ h2 (by simp) (by grind) (Wr.one _ _)
 | succ k ih=>
  intro i t s hi hB hn hs hQ;have hlt:i<args.length:=by omega
  have hm:args[i]∈args:=ycj hlt
  refine zjj ?_
  unfold Wx uS uG yC vC oC uZ uY eF kD;obtain⟨b0,off0,cs,g1,g2,_,_,g5⟩:=dH.at Es (by simp) hc (i:=i) (d:=args[i].d) (by simp[hlt])
  have ld:iA yA 31 ⟨0,t⟩ (.ptr b0 off0)=some (Pj true cs):=Pl (H:=⟨0,tf⟩) (HA:=⟨0,t⟩) hB.le g2
  refine pA (sK (by omega)) (rA g1 (aB ld ?_))
  rw[Ku];refine bC (iS g5 (mA.zs _)) ?_
  have hmk:=g5.mk (mA.zs args[i])
  have hcs:[zA.int .u8 ((cellsOf cs).i 0),.str ((cellsOf cs).s 1),.int .u8 ((cellsOf cs).i 2),.bool ((cellsOf cs).b 3),(cellsOf cs).v 4,.bool ((cellsOf cs).b 5),(cellsOf cs).v 6,.int .i64 ((cellsOf cs).i 7),(cellsOf cs).v 8]=cs:=hmk
  rw[hcs];refine pA g5.all ?_
  have hli:i<(bI args).length:=by grind [Hg]
  have hgi:(bI args)[i]=((sB args[i].op).level,gF args[i]):=by simp[Hg]
  have hj:=zfo hli
  rw[hgi]at hj;have next:∀t' s',BX 134 [.ptr bf 0] tf t' bx s'->s'≠[]->s'.length<=oK (24-d)+100+2*(i+1)->Wr s ((if i=0 then []else [44,32])++gF args[i]) s'->jp 124 2 [.ptr bx 0,c,.int .i64 (args.length:Int),.int .i64 (fA .i64 ((i:Int)+1)),.int .u8 c0,.str c1,.int .u8 c2,.bool c3,c4,.bool c5,c6,.int .i64 c7,c8] t' Q:=by
   intro t' s' h1 h2 h3 h4;rw[wrap_i64 (by omega) (by omega),show(i:Int)+1=((i+1:Nat):Int) by omega]
   exact ih (i+1) t' s' (by omega) h1 h2 h3 fun t2 s2 g1 g2 g3 g4=>hQ t2 s2 g1 g2 g3 ((h4.trans g4).eq (by simp_all))
  have e25:25-(d+1)=24-d:=by omega
  by_cases h0:0<i
  ·refine pA (sK (by omega)) (rA mG (rA iQ (xB ?_)))
   rw[q42];refine hB.write (by simp) (by intro x hx;grind) (by grind) fun _ t1 h1=>xB ?_
   rw[q62];refine hall _ hm (d+1) _ tf t1 bx _ _ (hfits _ hm) (hP _ hm) hF hM hW g5 h1 (by grind) fun t2 s2 h2 h2n h2l h2w=>jC ?_
   have hn0:i≠0:=by omega
   exact next _ _ h2 h2n (by grind) (((Wr.one _ _).trans h2w).eq (by rw[yaa hn0]))
  ·refine zB (pK (by omega)) (xB ?_)
   rw[q62];refine hall _ hm (d+1) _ tf t bx _ _ (hfits _ hm) (hP _ hm) hF hM hW g5 hB (by omega) fun t2 s2 h2 h2n h2l h2w=>jC ?_
   grind
theorem zdr{op:Nat}{name:List Nat}{v:zF}{args:List mA}{d:Nat}{a b c:zA}(hall:∀y∈args,WOk bf y)(hfit:mA.fit (.mk op name v args))(hP:sJ (.mk op name v args) d=true)(hs6:(sB op).style=6)(hF:iC tf bf none mT)(hM:rN tf)(hW:iT tf)
  (hc:cA tf 9 (args.map mA.d) c) (hB:BX 134 [.ptr bf 0] tf t bx s) (hs:s.length<=65536)
  (hQ:∀t' s',BX 134 [.ptr bf 0] tf t' bx s'->s'≠[]->s'.length<=oK (25-d)->Wr s (kK op name v (bI args)) s'->Q (.tup []) t') :
  Wc yA F 124 [.ptr bx 0,.agg [.int .u8 op,.str name,.int .u8 v.kind,.bool v.f.n.neg,a,.bool v.f.d.neg,b,.int .i64 v.i,c],.ptr bf (op*8)] t Q:=by
 unfold sJ Cz at hP;simp only[ybb,decide_eq_true_eq]at hP;obtain⟨⟨hd,⟨⟨⟨h27,_⟩,hl⟩,hm⟩,hnm⟩,hrest⟩:=hP
 obtain⟨f1,f2,f3,f4,f5,f6,f7,f8⟩:=ND h27
 have hw:=NA h27
 have h1:op≠1:=fun e=>by omega
 rw[yaa h1,ybb,Ue,ycb]at hrest;unfold mA.fit at hfit;have hfits:=mA.fits_mem hfit.2.2.2.2.2
 have hmax:oK (25-d)=oK (24-d)+200:=by grind [oK]
 have h19c:op=19->0<=v.i/\v.i<256:=by
  grind [Dg]
 unfold kK at hQ;rw[hs6]at hQ;simp only[Nat.reduceEqDiff,if_false]at hQ;have go9:∀t' s',BX 134 [.ptr bf 0] tf t' bx s'->s'≠[]->s'.length<=65536+100->Wr s ((sB op).word++[40]++(if (sB op).named then name++[44,32]else [])) s'->jp 124 9 [.ptr bx 0,.int .u8 op,.str name,.int .u8 v.kind,.bool v.f.n.neg,a,.bool v.f.d.neg,b,.int .i64 v.i,c] t' Q:=by
  intro t' s' k1 k2 k3 k4;refine j124_9 ?_
  unfold zh6 uI uZ uY;have hlen:=hc.len
  rw[ybf]at hlen;refine rA hlen (rB (jC ?_))
  refine zc7 (d:=d) hall hfits (fun y hy=>hrest.2 y hy) hF hM hW hc (by omega) hd rfl h19c args.length 0 t' s' (by omega) k1 k2 (by grind [oK]) fun t2 s2 g1 g2 g3 g4=>hQ t2 s2 g1 g2 (by omega) ((k4.trans g4).eq (by simp_all))
 refine w124 ?_
 unfold t124 uB uS oC uZ uY;have hld:=KE (hF.up hB.le) h27
 refine rA mG (rA iQ (rA mG (rA (gQ (by decide)) (aB hld (eD (rA (uP (by grind)) (eD (xB ?_))))))))
 rw[q42];refine hB.write (by simp) (uT hw.2 (by intro x hx;simp_all)) (by grind) fun _ t1 h1=>?_
 refine rA mG (rA (gQ (by decide)) (aB (KG (hF.up h1.le) h27) (sD ?_)))
 cases hn:(sB op).named with
 | true=>
  rw[hn,yab rfl]at hnm;have hnl:=JB hnm
  refine pA rfl (rA mG (rA iQ (rA (uP (by grind)) (eD (xB ?_)))))
  rw[q42];refine h1.write (by simp) (uT hfit.2.2.1 (by intro x hx;grind)) (by grind) fun _ t2 h2=>jC ?_
  exact go9 _ _ h2 (by simp) (by grind) (((Wr.one _ _).trans (Wr.one _ _)).eq (by rw[hn,yab rfl]))
 | false=>exact zB (by simp) (jC (go9 _ _ h1 (by simp) (by grind) ((Wr.one _ _).eq (by grind))))
set_option maxHeartbeats 2000000 in
mutual
/-- THE WRITER COMES TO AN END -/
theorem CR:∀(x:mA),WOk bf x
 | .mk op name v args=>by
  have hall:=CQ args
  intro d cs tf t bx s Q hfit hP hF hM hW hr hB hs hQ;have hP0:=hP
  have hfit0:=hfit
  obtain⟨a,b,c,rfl,ha,hb,hc⟩:=qH hr
  simp only[mA.op,mA.name,mA.v,mA.args]at ha hb hc ⊢
  unfold sJ Cz at hP;simp only[ybb,decide_eq_true_eq]at hP;obtain⟨⟨hd,⟨⟨⟨h27,hs0⟩,hl⟩,hm⟩,hnm⟩,hrest⟩:=hP
  simp only[ycp,decide_eq_false_iff_not]at hs0;obtain⟨f1,f2,f3,f4,f5,f6,f7,f8⟩:=ND h27
  have hw:=NA h27
  unfold mA.fit at hfit;have hfits:=mA.fits_mem hfit.2.2.2.2.2
  have hmax:oK (25-d)=oK (24-d)+200:=by grind [oK]
  have e25:25-(d+1)=24-d:=by omega
  have hmb:oK (24-d)<=91000/\86000<=oK (24-d):=by grind [oK]
  refine w62 ?_
  unfold t62 uI uU uS uG oC uZ uY kD;refine rA mG (rA iQ (xB ?_))
  rw[q43,hB.len,vA];refine rB ?_
  by_cases hbig:65536<s.length
  ·refine pA (sK (by omega)) ?_
   exact hQ t s hB (fun e=>by simp_all) (by omega) (Wr.big _ hbig)
  rw[gF]at hQ;refine zB (pK (by omega)) ?_
  have hFt:=hF.up hB.le
  refine rA mG (rA NX (aB hB.forms (rA mG (rA (AG h27) (rA mG (rA (gQ (by decide)) (aB (KF hFt h27) (rB ?_))))))))
  have ldw:∀ {t'},bA tf t'->iA yA 9 ⟨0,t'⟩ (.ptr bf (op*8+1))=some (.str (sB op).word):=fun h=>KE (hF.up h) h27
  have notc:(sB op).style≠1->Bm args (d+1)=true:=by
   grind
  have arg:∀(i:Nat) (lev:Nat) (t1:Tr tA) (s1:List Nat) (K:zA->T) (Q:mB) (k:Nat),(sB op).style≠1->i<args.length->k<8->BX 134 [.ptr bf 0] tf t1 bx s1->s1.length<=94000->iA yA 3 ⟨0,t1⟩ (.ptr bf (op*8+k))=some (.int .i64 (lev:Int)) →
    (∀t' s',BX 134 [.ptr bf 0] tf t' bx s'->s'≠[]->s'.length<=max s1.length (oK (24-d))+2->Wr s1 (yN lev ((bI args).getD i (0,[]))) s'->wp 62 (K (.tup [])) t' Q) →
    wp 62 (.opt (tC yA 29 c (.int .i64 (i:Int))) fun a36=>.light (fun m=>iA yA 31 ⟨0,m⟩ a36) fun a37=>.asG [(.int .u8 0),(.str []),(.int .u8 0),(.bool false),.nilslice,(.bool false),.nilslice,(.int .i64 0),.nilslice] a37 fun X38=>
     .opt (Bx (.ptr bf (op*8))) fun a39=>.opt (pC yA 131 k a39) fun a40=>.light (fun m=>iA yA 3 ⟨0,m⟩ a40) fun a41=>.asI .i64 a41 fun n42=>.call 123 [.ptr bx 0,(.agg [(.int .u8 (X38.i 0)),(.str (X38.s 1)),(.int .u8 (X38.i 2)),(.bool (X38.b 3)),(X38.v 4),(.bool (X38.b 5)),(X38.v 6),(.int .i64 (X38.i 7)),(X38.v 8)]),(.int .i64 n42)] K) t1 Q:=by
   intro i lev t1 s1 K Q k hne hi hk h1 hs1 hldp hQ';have hm:args[i]∈args:=ycj hi
   obtain⟨b0,off0,cs,g1,g2,_,_,g5⟩:=dH.at Es (by simp) hc (i:=i) (d:=args[i].d) (by simp[hi])
   have ld:iA yA 31 ⟨0,t1⟩ (.ptr b0 off0)=some (Pj true cs):=Pl (H:=⟨0,tf⟩) (HA:=⟨0,t1⟩) h1.le g2
   refine rA g1 (aB ld ?_)
   rw[Ku];refine bC (iS g5 (mA.zs _)) ?_
   have hmk:=g5.mk (mA.zs args[i])
   have hcs:[zA.int .u8 ((cellsOf cs).i 0),.str ((cellsOf cs).s 1),.int .u8 ((cellsOf cs).i 2),.bool ((cellsOf cs).b 3),(cellsOf cs).v 4,.bool ((cellsOf cs).b 5),(cellsOf cs).v 6,.int .i64 ((cellsOf cs).i 7),(cellsOf cs).v 8]=cs:=hmk
   rw[hcs];refine rA mG (rA (gQ hk) (aB hldp (rB (xB ?_))))
   rw[q123];have hPy:sJ args[i] (d+1)=true:=by
    grind [Ue]
   grind [Hg,ZM]
  have hQ0:=hQ
  have hd1:(sB op).style=1->kK op name v (bI args)=qV v:=fun e=>by unfold kK;rw[yab e]
  have hd2:(sB op).style=2->kK op name v (bI args)=(sB op).word:=fun e=>by unfold kK;rw[yaa (by omega),yab e]
  have hd3:(sB op).style=3->kK op name v (bI args)=(sB op).word++name++[32,97,116,32]++yN (sB op).left ((bI args).getD 0 (0,[])):=fun e=>by unfold kK;rw[yaa (by omega),yaa (by omega),yab e]
  have hd4:(sB op).style=4->kK op name v (bI args)=yN (sB op).left ((bI args).getD 0 (0,[]))++([32]++(sB op).word++[32]++yN (sB op).right ((bI args).getD 1 (0,[]))):=fun e=>by unfold kK;rw[yaa (by omega),yaa (by omega),yaa (by omega),yab e]
  have hd5:(sB op).style=5->kK op name v (bI args)=(sB op).word++yN (sB op).left ((bI args).getD 0 (0,[])):=fun e=>by unfold kK;rw[yaa (by omega),yaa (by omega),yaa (by omega),yaa (by omega),yab e]
  have done:∀t' s',BX 134 [.ptr bf 0] tf t' bx s'->s'≠[]->s'.length<=oK (25-d)->Wr s (kK op name v (bI args)) s'->wp 62 (.ret (.tup [])) t' Q:=fun t' s' k1 k2 k3 k4=>hQ0 t' s' k1 k2 (by omega) k4
  have i0:((0:Nat):Int)=0:=rfl
  have i1:((1:Nat):Int)=1:=rfl
  have arg0:=arg 0
  have arg1:=arg 1
  rw[i0]at arg0;rw[i1]at arg1;have style:(sB op).style=1\/(sB op).style=2\/(sB op).style=3\/(sB op).style=4\/(sB op).style=5\/(sB op).style=6:=by omega
  rcases style with e | e | e | e | e | e
  ·-- a constant
   refine pA (eP (by omega)) (rA mG (rA iQ (xB ?_)))
   have hop1:=f1 e
   rw[yab hop1]at hrest;obtain⟨v1,v2,v3⟩:=RQ hfit.2.2.2.1 hrest
   have hv:=RS (date:=fW v.i.toNat) (ha.mono hB.le) (hb.mono hB.le) hfit.2.2.2.1 hrest (fun hk=>by
    have hp:=hrest
    unfold yQ at hp;rw[yaa (by omega),yaa (by omega),yab hk]at hp
    simp only[ybb,decide_eq_true_eq]at hp;have hn:v.i.toNat<65536:=by omega
    rw[<- zg2 hn,show((v.i.toNat:Nat):Int)=v.i by omega]
    exact cal_ok (hM.mono hB.le) hp.2.1 hp.2.2)
   rw[show Eg (fW v.i.toNat) v=qV v from rfl]at hv
   rw[q35,hv,vA];refine eD (xB ?_)
   rw[q42];refine hB.write v1 v3 (by omega) fun _ t1 h1=>done _ _ h1 (by simp[v1]) (by grind) ((Wr.one _ _).eq (hd1 e).symm)
  ·-- a word
   refine zB (uJ (by omega)) (pA (eP (by omega)) (rA mG (rA iQ (rA mG (rA (gQ (by decide)) (aB (ldw hB.le) (eD (xB ?_))))))))
   rw[q42];refine hB.write (f2 e) hw.2 (by omega) fun _ t1 h1=>done _ _ h1 (by simp[f2 e]) (by grind) ((Wr.one _ _).eq (hd2 e).symm)
  ·-- word,name,at
   have hnl:name.length<=24:=by
    grind [JB,gK]
   have h3:=f3 e
   refine zB (uJ (by omega)) (zB (uJ (by omega)) (pA (eP (by omega)) (rA mG (rA iQ (rA mG (rA (gQ (by decide)) (aB (ldw hB.le) (eD (rA (uP (by omega)) (eD (rA (uP (by grind)) (eD (xB ?_)))))))))))))
   rw[q42];refine hB.write (by simp) (uT (uT hw.2 hfit.2.2.1) (by intro x hx;grind)) (by grind) fun _ t1 h1=>?_
   refine arg0 _ t1 _ _ _ 6 (by omega) (by omega) (by decide) h1 (by grind) (Zm (hF.up h1.le) h27) fun t2 s2 k1 k2 k3 k4=>done _ _ k1 k2 (by grind) (((Wr.one _ _).trans k4).eq (hd3 e).symm)
  ·-- an operator
   have h4:=f4 e
   refine zB (uJ (by omega)) (zB (uJ (by omega)) (zB (uJ (by omega)) (pA (eP (by omega)) ?_)))
   refine arg0 _ t _ _ _ 6 (by omega) (by omega) (by decide) hB (by omega) (Zm hFt h27) fun t1 s1 k1 k2 k3 k4=>?_
   refine rA mG (rA iQ (rA mG (rA (gQ (by decide)) (aB (ldw k1.le) (eD (rA (uP (by grind)) (eD (rA (uP (by grind)) (eD (xB ?_))))))))))
   rw[q42];refine k1.write (by simp) (uT (uT (by intro x hx;simp_all) hw.2) (by intro x hx;simp_all)) (by grind) fun _ t2 h2=>?_
   refine arg1 _ t2 _ _ _ 7 (by omega) (by omega) (by decide) h2 (by grind) (zfg (hF.up h2.le) h27) fun t3 s3 m1 m2 m3 m4=>done _ _ m1 m2 (by grind) ((k4.trans ((Wr.one _ _).trans m4)).eq (hd4 e).symm)
  ·-- not
   have h5:=f5 e
   refine zB (uJ (by omega)) (zB (uJ (by omega)) (zB (uJ (by omega)) (zB (uJ (by omega)) (pA (eP (by omega)) (rA mG (rA iQ (rA mG (rA (gQ (by decide)) (aB (ldw hB.le) (eD (xB ?_)))))))))))
   rw[q42];refine hB.write h5.2 hw.2 (by omega) fun _ t1 h1=>?_
   refine arg0 _ t1 _ _ _ 6 (by omega) (by omega) (by decide) h1 (by grind) (Zm (hF.up h1.le) h27) fun t2 s2 k1 k2 k3 k4=>done _ _ k1 k2 (by grind) (((Wr.one _ _).trans k4).eq (hd5 e).symm)
  ·-- a call
   refine zB (uJ (by omega)) (zB (uJ (by omega)) (zB (uJ (by omega)) (zB (uJ (by omega)) (zB (uJ (by omega)) (pA (eP (by omega)) (xB ?_))))))
   rw[q124];grind [zdr]
theorem CQ:∀(l:List mA),∀y∈l,WOk bf y
 | [],_,h=>by cases h
 | x::l,y,h=>by
  rcases ybs.1 h with e | h
  ·rw[e];exact CR x
  ·exact CQ l y h
end
end
end
section
variable {x:mA}{cs:List zA}{Q:mB}
variable [rC]
variable {t tf:Tr tA}
theorem XK   (hfit:x.fit)(hP:sJ x 1=true)(hM:rN t)(hW:iT t)(hr:RD t x.d cs)(hQ:∀t' s,bA t t'->s≠[]->Wr [] (gF x) s->s.length<=91000->qB 256 s->Q (.str s) t'):Wc yA F 28 [.agg cs] t Q:=by
 obtain⟨a,b,c,rfl,ha,hb,hc⟩:=qH hr
 refine w28 ?_
 unfold t28 uS yC oC uZ uY;refine xB ?_
 rw[q59];refine IX fun bf t1 h1 h2 h3 h4 h5=>?_
 refine pA rfl (gC fun bx hbx hbb=>?_)
 obtain⟨t2,e1,e2,e3,e4⟩:=Fj hbx [.nilptr,.nilslice,.ptr bf 0] (some (.ty 134))
 have hbox:Hf yA 134 (.agg [.nilptr,.nilslice,.ptr bf 0]) ⟨bx,t1⟩=some (.ptr bx 0,⟨bx+1,t2⟩):=by
  unfold Hf;have:aJ yA 134=some (.ty 134):=by kernel_rfl
  rw[this,<- e1];rfl
 refine⟨_,_,hbox,xB ?_⟩
 have hB:BX 134 [.ptr bf 0] t1 t2 bx []:=⟨hbb,hbx,e3,(by intro x hx;cases hx),rfl,.nilptr,.nilslice,.inl rfl,e2,.inl ⟨rfl,rfl⟩,AE,fun _=>rfl⟩
 rw[q62];refine CR x 1 _ t1 t2 bx [] _ hfit hP h3 (hM.mono h4) (hW.mono h4) (hr.mono h4) hB (by simp) fun t3 s h6 h7 h8 hw=>?_
 refine rA mG (rA iQ (xB ?_))
 rw[q44];have hl:s.length<=91000:=by
  grind [oK]
 exact h6.string (by omega) fun t4 h9=>eD (hQ _ _ (h4.trans h9) h7 hw hl h6.2.2.2.1)
theorem Wr.len{T s:List Nat}(h:Wr [] T s):(65536<s.length->65536<T.length)/\(¬ 65536<s.length->s=T/\¬ 65536<T.length):=by
 rcases h with rfl | ⟨h1,h2⟩
 all_goals simp_all
def Ta(x:mA):zA:=if sJ x 1=true then(if 65536<(gF x).length then .tup [.str [],.int .i64 3]else .tup [.str (gF x),.int .i64 0])else .tup [.str [],.int .i64 2]
theorem zf9   (hfit:x.fit)(hM:rN t)(hW:iT t)(hr:RD t x.d cs)
  (hQ:∀t',bA t t'->(sJ x 1=true->¬ 65536<(gF x).length->qB 256 (gF x))->Q (Ta x) t'):Wc yA F 9 [.agg cs] t Q:=by
 have hr0:=hr
 obtain⟨a,b,c,rfl,ha,hb,hc⟩:=qH hr
 refine w9 ?_
 unfold t9 uB uS uG uZ uY;refine xB ?_
 rw[q26];refine WA fun bf t1 h1 h2 h3 h4 h5=>?_
 have e:(cellsOf [zA.ptr bf 0]).v 0=.ptr bf 0:=rfl
 refine bC (cO rfl) (pA hr0.sameA (xB ?_))
 have he:=NZ h3 x 1 _ hfit (by omega) (hr0.mono h4)
 rw[show((1:Nat):Int)=1 from rfl]at he
 rw[q27,e,he,vA];refine sD ?_
 cases hP:sJ x 1 with
 | false=>
  refine pA rfl ?_
  have:=hQ _ h4 (fun e=>by simp_all)
  unfold Ta at this;rw[hP]at this;exact this
 | true=>
  refine zB (by simp) (xB ?_)
  rw[q28];refine XK hfit hP (hM.mono h4) (hW.mono h4) (hr0.mono h4) fun t2 s h6 h7 hw _ hlt=>eD ?_
  have hq:=hQ _ (h4.trans h6) (fun _ hn=>by
   by_cases hl:65536<s.length
   ·exact absurd (hw.len.1 hl) hn
   ·rw[<- (hw.len.2 hl).1];exact hlt)
  unfold Ta at hq;rw[yab hP]at hq;by_cases hl:65536<s.length
  ·refine pA (sK (by rw[eV];omega)) ?_
   rw[yab (hw.len.1 hl)]at hq
   exact hq
  ·refine zB (pK (by rw[eV];omega)) ?_
   obtain⟨k1,k2⟩:=hw.len.2 hl
   rw[yaa k2,<- k1]at hq;exact hq
end
end Go.Proofs
