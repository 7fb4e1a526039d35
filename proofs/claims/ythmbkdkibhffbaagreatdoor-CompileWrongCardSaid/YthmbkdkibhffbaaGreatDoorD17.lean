/- Translations are sound. -/
import Derived.Test.YthmbkdkibhffbaaGreatDoorD16
set_option linter.all false
noncomputable section
namespace Go.Am
section
variable {key:xB->List Nat}{valid:xB->Bool}
theorem zc0{s:Nt}{v:xB}{nN nC i len:Nat}(hs:pK key (fun _=>True) s)(hc:(s.const key v).consts.length<=nC):sE nN nC ⟨1,s.constI key v,0⟩ i len=true:=by
 obtain⟨_,_,h3,_⟩:=zbd (P:=fun _=>True) (v:=v) hs trivial
 unfold sE;simp;omega
theorem zmk{f g:fG}{skip:Nat}{truth:Int}{m m' M:Nat}(hf:Snd key f m)(hg:Snd key g m')(hs:skip=10\/skip=11)(h1:m<=M)(h2:m'<=M)(h3:1<=M):Snd key (iJ key f g skip truth) M:=by
 refine⟨zko hf.1 hg.1 hs trivial,fun s p nN nC len d e hN=>⟨by unfold iJ;simp;omega,?_⟩⟩
 obtain⟨f1,f2⟩:=hf.1 s p hN
 have fl:=hf.2 s p nN nC len d e hN
 generalize hA:f s p=A at f1 f2 fl
 have hq:(iJ key f g skip truth s p)=(((g A.1 (p+A.2.length+1)).1.const key (cF truth)),A.2++⟨skip,((p+A.2.length+1+(g A.1 (p+A.2.length+1)).2.length+2:Nat):Int),0⟩::((g A.1 (p+A.2.length+1)).2++[⟨12,0,0⟩,⟨9,((p+A.2.length+1+(g A.1 (p+A.2.length+1)).2.length+3:Nat):Int),0⟩,⟨1,(g A.1 (p+A.2.length+1)).1.constI key (cF truth),0⟩])):=by
  unfold iJ;rw[hA]
 rw[hq];obtain⟨g1,g2⟩:=hg.1 A.1 (p+A.2.length+1) f1
 have gl:=fun d=>hg.2 A.1 (p+A.2.length+1) nN nC len d e f1
 generalize g A.1 (p+A.2.length+1)=B at g1 g2 gl
 obtain⟨c1,c2,c3,c4⟩:=zbd (P:=fun _=>True) (v:=cF truth) g1 trivial
 simp only[yah,yao,yay];intro hn hc hlen hd hp hz hend hM;have hgm:=g2.mono
 have hfp:=fl.1
 have hgp:=(gl d).1
 obtain⟨d1,k1,k2,k3,k4⟩:=fl.2 (by rw[c4]at hn;omega) (by omega) (by omega) hd hp (fun k a b=>hz k a (by omega)) (.inl (hz _ (by omega) (by omega))) (by omega)
 obtain⟨d2,l1,l2,l3,l4,l5⟩:=zhi (nN:=nN) (nC:=nC) (len:=len) (x:=⟨skip,((p+A.2.length+1+B.2.length+2:Nat):Int),0⟩) k3 hs rfl rfl (by omega) (by omega) (by omega) (.inl (by rw[k4 _ (by omega)];exact hz _ (by omega) (by omega))) (by omega) (.inl (by rw[k4 _ (by omega)];exact hz _ (by omega) (by omega)))
 obtain⟨d3,m1,m2,m3,m4⟩:=(gl d2).2 (by rw[c4]at hn;omega) (by omega) (by omega) (by omega) l3 (fun k a b=>by rw[l5 k (by omega) (by omega),k4 k (by omega)];exact hz k (by omega) (by omega)) (.inl (by rw[l5 _ (by omega) (by omega),k4 _ (by omega)];exact hz _ (by omega) (by omega))) (by omega)
 have z:∀k,p+A.2.length+1+B.2.length<k->k≠p+A.2.length+1+B.2.length+2->d3[k]?=d[k]?:=fun k a b=>by rw[m4 k a,l5 k (by omega) b,k4 k (by omega)]
 obtain⟨d4,n1,n2,n3,n4⟩:=uX (nN:=nN) (nC:=nC) (len:=len) (x:=⟨12,0,0⟩) (v:=e+1) m3 (by unfold sE;simp) (by simp) (by show(1:Int)+_=_;omega) (by show(1:Int)<=_;omega) (by omega) (.inl (by rw[z _ (by omega) (by omega)];exact hz _ (by omega) (by omega)))
 have hE:d4[p+A.2.length+1+B.2.length+3]?=some 0\/d4[p+A.2.length+1+B.2.length+3]?=some (e+2):=by
  rw[n4 _ (by omega),z _ (by omega) (by omega)]
  rw[show p+(A.2.length+(B.2.length+(0+1+1+1)+1))=p+A.2.length+1+B.2.length+3 by omega]at hend
  exact hend
 obtain⟨d5,o1,o2,o3,o4⟩:=zhj (nN:=nN) (nC:=nC) (len:=len) (T:=p+A.2.length+1+B.2.length+3) n3 (by omega) (by omega) (by omega) hE
 have hT:d5[p+A.2.length+1+B.2.length+1+1]?=some (e+1):=by
  rw[o4 _ (by omega),n4 _ (by omega),m4 _ (by omega)]
  exact l4
 obtain⟨d6,q1,q2,q3,q4⟩:=uX (nN:=nN) (nC:=nC) (len:=len) (x:=⟨1,B.1.constI key (cF truth),0⟩) (v:=e+1) hT (zc0 g1 hc) (by simp) (by show(0:Int)+_=_;omega) (by show(0:Int)<=_;omega) (by omega) (.inr (by
  have:=o3
  rw[show p+A.2.length+1+B.2.length+3=p+A.2.length+1+B.2.length+1+1+1 by omega]at this;exact this))
 refine⟨d6,?_,by omega,?_,fun k hk=>?_⟩
 ·rw[tR,k1]
  show(dF nN nC len _ (p+A.2.length) d1).bind _=_
  rw[l1];show vI nN nC len (B.2++_) (p+A.2.length+1) d2=_
  rw[tR,m1];show(dF nN nC len _ (p+A.2.length+1+B.2.length) d3).bind _=_
  rw[n1];show(dF nN nC len _ (p+A.2.length+1+B.2.length+1) d4).bind _=_
  rw[o1];show(dF nN nC len _ (p+A.2.length+1+B.2.length+1+1) d5).bind _=_
  rw[q1];rfl
 ·rw[show p+(A.2.length+(B.2.length+(0+1+1+1)+1))=p+A.2.length+1+B.2.length+1+1+1 by omega]
  exact q3
 ·rw[q4 k (by omega),o4 k (by omega),n4 k (by omega),z k (by omega) (by omega)]
theorem snd_if{f g h:fG}{m m' m'' M:Nat}(hf:Snd key f m)(hg:Snd key g m')(hh:Snd key h m'')(h1:m<=M)(h2:m'<=M)(h3:m''<=M)(h4:1<=M):Snd key (ifT f g h) M:=by
 refine⟨lt_if hf.1 hg.1 hh.1,fun s p nN nC len d e hN=>⟨by unfold ifT;simp;omega,?_⟩⟩
 obtain⟨f1,f2⟩:=hf.1 s p hN
 have fl:=hf.2 s p nN nC len d e hN
 generalize hA:f s p=A at f1 f2 fl
 have hq:(ifT f g h s p)=(((h (g A.1 (p+A.2.length+1)).1 (p+A.2.length+1+(g A.1 (p+A.2.length+1)).2.length+1)).1),A.2++⟨10,((p+A.2.length+1+(g A.1 (p+A.2.length+1)).2.length+1:Nat):Int),0⟩::((g A.1 (p+A.2.length+1)).2++⟨9,((p+A.2.length+1+(g A.1 (p+A.2.length+1)).2.length+1+(h (g A.1 (p+A.2.length+1)).1 (p+A.2.length+1+(g A.1 (p+A.2.length+1)).2.length+1)).2.length:Nat):Int),0⟩::(h (g A.1 (p+A.2.length+1)).1 (p+A.2.length+1+(g A.1 (p+A.2.length+1)).2.length+1)).2)):=by
  unfold ifT;rw[hA]
 rw[hq];obtain⟨g1,g2⟩:=hg.1 A.1 (p+A.2.length+1) f1
 have gl:=fun d=>hg.2 A.1 (p+A.2.length+1) nN nC len d e f1
 generalize g A.1 (p+A.2.length+1)=B at g1 g2 gl
 obtain⟨w1,w2⟩:=hh.1 B.1 (p+A.2.length+1+B.2.length+1) g1
 have wl:=fun d=>hh.2 B.1 (p+A.2.length+1+B.2.length+1) nN nC len d e g1
 generalize h B.1 (p+A.2.length+1+B.2.length+1)=W at w1 w2 wl
 simp only[yah,yao];intro hn hc hlen hd hp hz hend hM;have hgm:=g2.mono
 have hwm:=w2.mono
 have hfp:=fl.1
 have hgp:=(gl d).1
 have hwp:=(wl d).1
 obtain⟨d1,k1,k2,k3,k4⟩:=fl.2 (by omega) (by omega) (by omega) hd hp (fun k a b=>hz k a (by omega)) (.inl (hz _ (by omega) (by omega))) (by omega)
 obtain⟨d2,l1,l2,l3,l4,l5⟩:=zhi (nN:=nN) (nC:=nC) (len:=len) (x:=⟨10,((p+A.2.length+1+B.2.length+1:Nat):Int),0⟩) k3 (.inl rfl) rfl rfl (by omega) (by omega) (by omega) (.inl (by rw[k4 _ (by omega)];exact hz _ (by omega) (by omega))) (by omega) (.inl (by rw[k4 _ (by omega)];exact hz _ (by omega) (by omega)))
 obtain⟨d3,m1,m2,m3,m4⟩:=(gl d2).2 (by omega) (by omega) (by omega) (by omega) l3 (fun k a b=>by rw[l5 k (by omega) (by omega),k4 k (by omega)];exact hz k (by omega) (by omega)) (.inl (by rw[l5 _ (by omega) (by omega),k4 _ (by omega)];exact hz _ (by omega) (by omega))) (by omega)
 have z:∀k,p+A.2.length+1+B.2.length<k->k≠p+A.2.length+1+B.2.length+1->d3[k]?=d[k]?:=fun k a b=>by rw[m4 k a,l5 k (by omega) b,k4 k (by omega)]
 have hE:d3[p+A.2.length+1+B.2.length+1+W.2.length]?=some 0\/d3[p+A.2.length+1+B.2.length+1+W.2.length]?=some (e+2):=by
  rw[z _ (by omega) (by omega)]
  rw[show p+(A.2.length+(B.2.length+(W.2.length+1)+1))=p+A.2.length+1+B.2.length+1+W.2.length by omega]at hend
  exact hend
 obtain⟨d5,o1,o2,o3,o4⟩:=zhj (nN:=nN) (nC:=nC) (len:=len) (T:=p+A.2.length+1+B.2.length+1+W.2.length) m3 (by omega) (by omega) (by omega) hE
 have hT:d5[p+A.2.length+1+B.2.length+1]?=some (e+1):=by
  rw[o4 _ (by omega),m4 _ (by omega)]
  exact l4
 obtain⟨d6,q1,q2,q3,q4⟩:=(wl d5).2 (by omega) (by omega) (by omega) (by omega) hT (fun k a b=>by rw[o4 k (by omega),z k (by omega) (by omega)];exact hz k (by omega) (by omega)) (.inr o3) (by omega)
 refine⟨d6,?_,by omega,?_,fun k hk=>?_⟩
 ·rw[tR,k1]
  show(dF nN nC len _ (p+A.2.length) d1).bind _=_
  rw[l1];show vI nN nC len (B.2++_) (p+A.2.length+1) d2=_
  rw[tR,m1];show(dF nN nC len _ (p+A.2.length+1+B.2.length) d3).bind _=_
  rw[o1];exact q1
 ·rw[show p+(A.2.length+(B.2.length+(W.2.length+1)+1))=p+A.2.length+1+B.2.length+1+W.2.length by omega]
  exact q3
 ·rw[q4 k (by omega),o4 k (by omega),z k (by omega) (by omega)]
theorem zsr{m:Nat}:∀ {fs:List fG},(∀f∈fs,Snd key f m)->∀(s:Nt) (p nN nC len:Nat) (d:List Nat) (e:Nat),pK key (fun _=>True) s->fs.length<=(rD fs s p).2.length ∧
  ((rD fs s p).1.names.length<=nN->(rD fs s p).1.consts.length<=nC->p+(rD fs s p).2.length<=len->d.length=len+1->d[p]?=some (e+1)->(∀k,p<k->k<=p+(rD fs s p).2.length->d[k]?=some 0)->e+fs.length+m<=65 →
   ∃d',vI nN nC len (rD fs s p).2 p d=some d'/\d'.length=len+1/\d'[p+(rD fs s p).2.length]?=some (e+fs.length+1)/\∀k,p+(rD fs s p).2.length<k->d'[k]?=d[k]?)
 | [],_,s,p,nN,nC,len,d,e,hN=>⟨yal _,fun hn hc hlen hd hp hz hM=>⟨d,rfl,hd,by simpa[rD]using hp,fun _ _=>rfl⟩⟩
 | f::l,hf,s,p,nN,nC,len,d,e,hN=>by
  have h0:=hf f (by simp)
  obtain⟨f1,f2⟩:=h0.1 s p hN
  have fl:=h0.2 s p nN nC len d e hN
  have gl:=fun d=>zsr (fs:=l) (fun g hg=>hf g (by simp[hg])) (f s p).1 (p+(f s p).2.length) nN nC len d (e+1) f1
  have gt:=(znb (fs:=l) (fun g hg=>(hf g (by simp[hg])).1) (f s p).1 (p+(f s p).2.length) f1).2
  have hq:rD (f::l) s p=((rD l (f s p).1 (p+(f s p).2.length)).1,(f s p).2++(rD l (f s p).1 (p+(f s p).2.length)).2):=rfl
  rw[hq];generalize f s p=A at f1 f2 fl gl gt
  generalize rD l A.1 (p+A.2.length)=B at gl gt
  simp only[yah,yao];have hgm:=gt.mono
  have hfp:=fl.1
  have hgp:=(gl d).1
  refine⟨by omega,fun hn hc hlen hd hp hz hM=>?_⟩
  obtain⟨d1,k1,k2,k3,k4⟩:=fl.2 (by omega) (by omega) (by omega) hd hp (fun k a b=>hz k a (by omega)) (.inl (hz _ (by omega) (by omega))) (by omega)
  obtain⟨d2,l1,l2,l3,l4⟩:=(gl d1).2 hn hc (by omega) k2 (by rw[k3]) (fun k a b=>by rw[k4 k (by omega)];exact hz k (by omega) (by omega)) (by omega)
  refine⟨d2,?_,l2,?_,fun k hk=>?_⟩
  ·rw[tR,k1];exact l1
  ·rw[show p+(A.2.length+B.2.length)=p+A.2.length+B.2.length by omega,l3,show e+1+l.length+1=e+(l.length+1)+1 by omega]
  ·rw[l4 k (by omega),k4 k (by omega)]
end
end Go.Am
namespace Go.Am
section
variable {key:xB->List Nat}{valid:xB->Bool}
theorem zyn{op n:Nat}{name:List Nat}{v:xB}{s:Nt}{nN nC i len:Nat}(hs:pK key (fun _=>True) s)(h:mH valid op v n=true)(h15:op≠15)(h16:op≠16)(h18:op≠18)(hop:op<256)
  (hn:(pE key op name v n s).1.names.length<=nN) (hc:(pE key op name v n s).1.consts.length<=nC) :
  sE nN nC (pE key op name v n s).2 i len=true/\rG (pE key op name v n s).2=n/\¬ ((pE key op name v n s).2.op=9\/(pE key op name v n s).2.op=10\/(pE key op name v n s).2.op=11):=by
 obtain⟨_,_,nm,_⟩:=zfz (P:=fun _=>True) (n:=name) hs
 unfold mH at h;simp only[yac,decide_eq_true_eq]at h;obtain⟨⟨_,h1⟩,h2⟩:=h
 unfold gF at h1 h2;unfold pE at hn hc ⊢
 by_cases c1:op=1
 ·subst c1
  simp at h1 h2;subst h2;rw[if_pos rfl]at hc ⊢
  exact⟨zc0 hs hc,rfl,by simp⟩
 ·rw[if_neg c1]at hn hc ⊢
  by_cases c2:op=2
  ·subst c2;simp at h1 h2;subst h2;exact⟨rfl,rfl,by simp⟩
  ·rw[if_neg c2]at hn hc ⊢
   rw[if_neg (by omega)]at h1 h2
   by_cases c3:op=3\/op=4\/op=5
   ·rw[if_pos c3]at hn ⊢
    have hn1:(n:Int)=1:=by
     rcases c3 with e | e | e<;>subst e<;>simp at h1 h2<;>omega
    refine⟨?_,?_,by simp;omega⟩
    ·unfold sE
     simp only[];rw[if_neg c1,if_pos c3];simp;show s.nameI name<nN
     have:(s.name name).names.length<=nN:=hn
     omega
    ·unfold rG
     simp only[];rw[if_neg (by omega),if_neg (by omega),if_neg (by omega),if_pos (by omega),hn1]
   ·rw[if_neg c3]at hn hc ⊢
    by_cases c6:op=6
    ·subst c6
     simp at h1 h2;rw[if_pos rfl]at hn ⊢
     have:(s.name name).names.length<=nN:=hn
     refine⟨?_,rfl,by simp⟩
     unfold sE;simp;omega
    ·rw[if_neg c6]at hn hc ⊢
     rw[if_neg (by omega),if_neg c6,if_neg (by omega),if_neg (by omega)]at h1 h2
     by_cases c8:op=21\/op=22\/op=23
     ·rw[if_pos c8]at hn ⊢
      rw[if_neg (by omega)]at h1 h2
      have:(s.name name).names.length<=nN:=hn
      refine⟨?_,?_,by simp⟩
      ·unfold sE cU
       simp;omega
      ·rcases c8 with e | e | e<;>subst e<;>simp at h1 h2 <;> (unfold rG;simp[gF];omega)
     ·rw[if_neg c8]at hn hc ⊢
      by_cases c19:op=19
      ·rw[if_pos c19]
       subst c19;simp at h1 h2;refine⟨by unfold sE zu9;simp,?_,by simp⟩
       unfold rG;simp[gF];omega
      ·rw[if_neg c19]
       have hdo:(7<=op/\op<=14)\/op=17\/op=20\/(24<=op/\op<=26):=by
        by_cases ca:op=17\/op=24\/op=25\/op=26
        ·omega
        ·rw[if_neg (by omega)]at h1 h2
         by_cases cb:(7<=op/\op<=14)\/op=19\/op=20\/op=21\/op=23
         ·omega
         ·rw[if_neg cb,if_neg (by omega)]at h1 h2;simp at h1 h2;omega
       refine⟨?_,?_,by simp⟩
       ·unfold sE zu9
        simp;omega
       ·unfold rG
        simp only[];rw[if_neg (by omega),if_pos trivial,show(((op:Nat):Int)%256).toNat=op by omega]
        unfold gF;rw[if_neg (by omega),if_neg (by omega),if_neg (by omega),if_neg (by omega),if_neg (by omega)]
        by_cases ca:op=17\/op=24\/op=25\/op=26
        ·rw[if_pos (by omega)]at h1 h2 ⊢;simp at h1 h2;omega
        ·rw[if_neg (by omega)]at h1 h2 ⊢
         rw[if_pos (by omega)]at h1 h2 ⊢
         simp at h1 h2 ⊢;omega
theorem z5y(op:Nat):(gF op).2<=3:=by
 unfold gF;repeat' split
 all_goals decide
mutual
def zev:qA->Nat
 | .mk _ _ _ args=>1+zcx args
def zcx:List qA->Nat
 | []=>0
 | x::l=>max (zev x) (zcx l)
end
theorem Snd.mono{f:fG}{m M:Nat}(h:Snd key f m)(hm:m<=M):Snd key f M:=
 ⟨h.1,fun s p nN nC len d e hN=>⟨(h.2 s p nN nC len d e hN).1,fun a1 a2 a3 a4 a5 a6 a7 a8=>(h.2 s p nN nC len d e hN).2 a1 a2 a3 a4 a5 a6 a7 (by omega)⟩⟩
theorem zx3:Snd key (fun s _=>(s,[⟨13,0,0⟩])) 1:=by
 refine⟨fun s p h=>⟨h,.other (by show(13:Nat)≠1;decide) (by show ¬ dH 13;unfold dH;decide) .nil⟩,fun s p nN nC len d e hN=>⟨by simp,fun a1 a2 a3 a4 a5 a6 a7 a8=>?_⟩⟩
 obtain⟨d',h1,h2,h3,h4⟩:=uX (nN:=nN) (nC:=nC) (len:=len) (x:=⟨13,0,0⟩) (v:=e+1) a5 rfl (by simp) (by show(0:Int)+_=_;omega) (by show(0:Int)<=_;omega) (by omega) a7
 refine⟨d',?_,by omega,h3,fun k hk=>h4 k (by simp at hk;omega)⟩
 show(dF nN nC len _ p d).bind _=_
 rw[h1];rfl
theorem snd_op{op:Nat}{name:List Nat}{v:xB}{fs:List fG}{m:Nat}(h:mH valid op v fs.length=true)(h15:op≠15)(h16:op≠16)(h18:op≠18)(hop:op<256)(hf:∀f∈fs,Snd key f m)(hl:fs.length<=3) :
  Snd key (fun s p=>((pE key op name v fs.length (rD fs s p).1).1,(rD fs s p).2++[(pE key op name v fs.length (rD fs s p).1).2])) (m+2):=by
 have hlt:=znb (key:=key) (P:=fun _=>True) (fs:=fs) fun f hf'=>(hf f hf').1
 refine⟨fun s p hN=>?_,fun s p nN nC len d e hN=>?_⟩
 ·obtain⟨q1,q2⟩:=hlt s p hN
  obtain⟨o1,o2⟩:=z4b (op:=op) (n:=fs.length) (name:=name) (v:=v) q1 (fun _=>trivial)
  exact⟨o1,q2.append o2⟩
 ·obtain⟨q1,q2⟩:=hlt s p hN
  have sl:=zsr hf s p nN nC len d e hN
  dsimp only
  generalize rD fs s p=A at q1 q2 sl
  obtain⟨o1,o2⟩:=z4b (op:=op) (n:=fs.length) (name:=name) (v:=v) q1 (fun _=>trivial)
  have om:=o2.mono
  simp only[yah,List.length_singleton];refine⟨by omega,fun a1 a2 a3 a4 a5 a6 a7 a8=>?_⟩
  obtain⟨s1,s2,s3⟩:=zyn (name:=name) (i:=p+A.2.length) (len:=len) q1 h h15 h16 h18 hop a1 a2
  obtain⟨d1,k1,k2,k3,k4⟩:=sl.2 (by omega) (by omega) (by omega) a4 a5 (fun k x y=>a6 k x (by omega)) (by omega)
  obtain⟨d',g1,g2,g3,g4⟩:=uX (nN:=nN) (nC:=nC) (len:=len) (v:=e+1) k3 s1 s3 (by rw[s2];omega) (by rw[s2];omega) (by omega) (by rw[k4 _ (by omega)];exact a7)
  refine⟨d',?_,by omega,g3,fun k hk=>by rw[g4 k (by omega),k4 k (by omega)]⟩
  rw[tR,k1];show(dF nN nC len _ (p+A.2.length) d1).bind _=_
  rw[g1];rfl
mutual
theorem zju:∀(x:qA),x.fit->Snd key (lB key valid x) (2*zev x)
 | .mk op name v args,hx=>by
  unfold qA.fit at hx;have ih:=zrj args hx.2.2.2.2.2
  unfold lB zev;by_cases h0:mH valid op v (uD key valid args).length=false
  ·have e:mJ key valid op name v (uD key valid args)=fun s _=>(s,[⟨13,0,0⟩]):=by
    funext s p;unfold mJ;rw[if_pos h0]
   rw[e];exact zx3.mono (by omega)
  ·have h0:mH valid op v (uD key valid args).length=true:=by simpa using h0
   have hl:(uD key valid args).length<=3:=by
    have:=h0
    unfold mH at this;simp only[yac,decide_eq_true_eq]at this;have h2:=this.2
    have h3:=z5y op
    omega
   have hn:=h0
   unfold mH at hn;simp only[yac,decide_eq_true_eq]at hn;by_cases h15:op=15
   ·subst h15
    have:(uD key valid args).length=2:=by have h1:=hn.1.2;have h2:=hn.2;simp[gF]at h1 h2;omega
    match hfs:uD key valid args,this with
    | [f,g],_=>
     rw[hfs]at ih h0;have e:mJ key valid 15 name v [f,g]=iJ key f g 10 0:=by
      funext s p;unfold mJ;rw[if_neg (by rw[h0];simp),if_pos rfl]
     rw[e];exact zmk (ih f (by simp)) (ih g (by simp)) (.inl rfl) (by omega) (by omega) (by omega)
   ·by_cases h16:op=16
    ·subst h16
     have:(uD key valid args).length=2:=by have h1:=hn.1.2;have h2:=hn.2;simp[gF]at h1 h2;omega
     match hfs:uD key valid args,this with
     | [f,g],_=>
      rw[hfs]at ih h0;have e:mJ key valid 16 name v [f,g]=iJ key f g 11 1:=by
       funext s p;unfold mJ;rw[if_neg (by rw[h0];simp),if_neg (by decide),if_pos rfl]
      rw[e];exact zmk (ih f (by simp)) (ih g (by simp)) (.inr rfl) (by omega) (by omega) (by omega)
    ·by_cases h18:op=18
     ·subst h18
      have:(uD key valid args).length=3:=by have h1:=hn.1.2;have h2:=hn.2;simp[gF]at h1 h2;omega
      match hfs:uD key valid args,this with
      | [f,g,h],_=>
       rw[hfs]at ih h0;have e:mJ key valid 18 name v [f,g,h]=ifT f g h:=by
        funext s p;unfold mJ;rw[if_neg (by rw[h0];simp),if_neg (by decide),if_neg (by decide),if_pos rfl]
       rw[e];exact snd_if (ih f (by simp)) (ih g (by simp)) (ih h (by simp)) (by omega) (by omega) (by omega) (by omega)
     ·have e:mJ key valid op name v (uD key valid args)=fun s p=>((pE key op name v (uD key valid args).length (rD (uD key valid args) s p).1).1,(rD (uD key valid args) s p).2++[(pE key op name v (uD key valid args).length (rD (uD key valid args) s p).1).2]):=by
       funext s p;unfold mJ;rw[if_neg (by rw[h0];simp),if_neg h15,if_neg h16,if_neg h18]
      rw[e];exact(snd_op h0 h15 h16 h18 hx.1 ih hl).mono (by omega)
theorem zrj:∀(l:List qA),qA.fits l->∀f∈uD key valid l,Snd key f (2*zcx l)
 | [],_,f,hf=>by simp[uD]at hf
 | x::l,h,f,hf=>by
  unfold qA.fits at h;simp only[uD,yat]at hf;unfold zcx;rcases hf with rfl | hf
  ·exact(zju x h.1).mono (by omega)
  ·exact(zrj l h.2 f hf).mono (by omega)
end
end
end Go.Am
set_option maxRecDepth 100000
namespace Go.Proofs
open Go Go.Am
variable [aC]
variable {t tf:Tr lA}
theorem do_ok{a:Int}:zD yA F 179 [.int .i64 a] t=some (.bool (zu9 a)):=by
 refine wF.2 (w179 _ ?_)
 simp only[t179,pA,qG,nE];unfold zu9;repeat' split
 all_goals refine⟨congrArg zA.bool (Bool.eq_iff_iff.2 ?_),by trivial⟩
 all_goals simp only[ybr,yac,decide_eq_true_eq,zf9,true_iff,yar,false_iff]
 all_goals omega
theorem z3l{a:Int}:zD yA F 180 [.int .i64 a] t=some (.bool (cU a)):=by
 refine wF.2 (w180 _ ?_)
 simp only[t180,pA,qG];unfold cU;split
 all_goals refine⟨congrArg zA.bool (Bool.eq_iff_iff.2 ?_),by trivial⟩
 all_goals simp only[ybr,yac,decide_eq_true_eq,zf9,true_iff,yar,false_iff]
 all_goals omega
theorem dU{op:Nat}:zD yA F 112 [.int .u8 (op:Int)] t=some (.bool (decide (op=9\/op=10\/op=11))):=by
 refine wF.2 (w112 _ ?_)
 simp only[t112,pA,qG];split
 all_goals refine⟨congrArg zA.bool (Bool.eq_iff_iff.2 ?_),by trivial⟩
 all_goals simp only[ybr,yac,decide_eq_true_eq,zf9,true_iff,yar,false_iff]
 all_goals omega
theorem aS{v9 v10:Bool}{op:Nat}{a b:Int}{Q:bB}(h:Q (.bool (v9&&(if op=6 then(decide (b=1)||decide (b=2))else if op=8 then cU b else v10))) t):jp 110 45 [.bool v9,.bool v10,.int .u8 (op:Int),.int .i64 a,.int .i64 b] t Q:=by
 have dC:∀ {x y:Bool},Q (.bool (x&&y)) t->jp 110 55 [.bool x,.bool y] t Q:=fun {x y} h=>by
  refine z4t _ _ ?_
  simp only[zsj,pA]
  cases x with
  | true=>exact aA rfl h
  | false=>exact yC (by simp) h
 refine z4u _ _ _ _ _ ?_
 simp only[zsk,pA];by_cases h6:op=6
 ·subst h6
  refine aA (by decide) ?_
  simp only[if_true]at h;by_cases h1:b=1
  ·exact aA (nE.2 h1) (dC (by simpa[h1]using h))
  ·exact yC (oE h1) (dC (by rw[zga];simpa[h1]using h))
 ·rw[if_neg h6]at h
  refine yC (oE (by omega)) ?_
  by_cases h8:op=8
  ·subst h8
   simp only[if_true]at h;refine aA (by decide) ?_
   rw[q180,z3l,xA,qD,xA];exact dC h
  ·rw[if_neg h8]at h
   exact yC (oE (by omega)) (dC h)
section
variable {nm:List Nat}{a b c vn vc vw vt:zA}{names:List (List Nat)}{consts:List xB}
theorem zj4(hn:oA t 1 (names.map D.str) vn)(hc:oA t 6 (consts.map xB.d) vc){x:XIns}{i len:Nat} :
  zD yA F 110 [.agg [.str nm,a,b,c,vn,vc,vw,vt],.agg [.int .u8 (x.op:Int),.int .i64 x.a,.int .i64 x.b],.int .i64 (i:Int),.int .i64 (len:Int)] t=some (.bool (sE names.length consts.length x i len)):=by
 obtain⟨op,xa,xb⟩:=x
 have hnl:rB vn=some (.int .i64 (names.length:Int)):=by rw[hn.len,yag]
 have hcl:rB vc=some (.int .i64 (consts.length:Int)):=by rw[hc.len,yag]
 refine wF.2 (w110 _ _ _ _ _ _ _ _ _ _ _ _ _ ?_)
 simp only[t110,pA,hnl,hcl,q179,do_ok,xA,zB,qD];have idx:∀ {n op':Nat} {R:Bool},(op'=op)->((decide (0<=xa)&&decide (xa<n))&&(if op'=6 then(decide (xb=1)||decide (xb=2))else if op'=8 then cU xb else decide (xb=0)))=R →
   (if qC 0 xa=true then jp 110 45 [.bool (fB xa (n:Int)),.bool (wA xb 0),.int .u8 (op':Int),.int .i64 xa,.int .i64 xb] t (fun v t'=>v=.bool R/\t'=t)else jp 110 45 [.bool false,.bool (wA xb 0),.int .u8 (op':Int),.int .i64 xa,.int .i64 xb] t (fun v t'=>v=.bool R/\t'=t)):=by
  intro n op' R _ hR;by_cases h0:0<=xa
  ·refine aA (qG.2 h0) (aS ⟨?_,rfl⟩)
   rw[<- hR,z4x,zga];simp[h0]
  ·refine yC (fun e=>h0 (qG.1 e)) (aS ⟨?_,rfl⟩)
   rw[<- hR];simp[h0]
 have tgt:∀ {op':Nat} {R:Bool},op'≠6->op'≠8->(decide ((i:Int)<xa)&&decide (xa<=len)&&decide (xb=0))=R →
   (if fB (i:Int) xa=true then jp 110 45 [.bool (qC xa (len:Int)),.bool (wA xb 0),.int .u8 (op':Int),.int .i64 xa,.int .i64 xb] t (fun v t'=>v=.bool R/\t'=t)else jp 110 45 [.bool false,.bool (wA xb 0),.int .u8 (op':Int),.int .i64 xa,.int .i64 xb] t (fun v t'=>v=.bool R/\t'=t)):=by
  intro op' R h6 h8 hR;by_cases h0:(i:Int)<xa
  ·refine aA (jB.2 h0) (aS ⟨?_,rfl⟩)
   rw[<- hR,if_neg h6,if_neg h8,zf9,zga];simp[h0]
  ·refine yC (fun e=>h0 (jB.1 e)) (aS ⟨?_,rfl⟩)
   rw[<- hR];simp[h0]
 have zero:∀ {op':Nat} {R:Bool},op'≠6->op'≠8->(decide (xa=0)&&decide (xb=0))=R →
   jp 110 45 [.bool (wA xa 0),.bool (wA xb 0),.int .u8 (op':Int),.int .i64 xa,.int .i64 xb] t (fun v t'=>v=.bool R/\t'=t):=by
  intro op' R h6 h8 hR;refine aS ⟨?_,rfl⟩
  rw[<- hR,if_neg h6,if_neg h8,zga,zga]
 by_cases h1:op=1
 ·subst h1
  refine aA (by decide) (idx rfl ?_)
  unfold sE;simp
 refine yC (oE (by omega)) ?_
 by_cases h3:op=3
 ·subst h3
  refine aA (by decide) (aA (by decide) (idx rfl ?_))
  unfold sE;simp
 refine yC (oE (by omega)) ?_
 by_cases h4:op=4
 ·subst h4
  refine aA (by decide) (aA (by decide) (idx rfl ?_))
  unfold sE;simp
 refine yC (oE (by omega)) ?_
 by_cases h5:op=5
 ·subst h5
  refine aA (by decide) (aA (by decide) (idx rfl ?_))
  unfold sE;simp
 refine yC (oE (by omega)) ?_
 by_cases h6:op=6
 ·subst h6
  refine aA (by decide) (aA (by decide) (idx rfl ?_))
  unfold sE;simp
 refine yC (oE (by omega)) ?_
 by_cases h8:op=8
 ·subst h8
  refine aA (by decide) (idx rfl ?_)
  unfold sE;simp
 refine yC (oE (by omega)) ?_
 by_cases h7:op=7
 ·subst h7
  refine aA (by decide) ?_
  by_cases hb0:xb=0
  ·refine aA (nE.2 hb0) (aS ⟨?_,rfl⟩)
   unfold sE;simp[hb0]
  ·refine yC (oE hb0) (aS ⟨?_,rfl⟩)
   rw[zga];unfold sE;simp[hb0]
 refine yC (oE (by omega)) ?_
 by_cases h9:op=9
 ·subst h9
  refine aA (by decide) (aA (by decide) (tgt (by decide) (by decide) ?_))
  unfold sE;simp
 refine yC (oE (by omega)) ?_
 by_cases h10:op=10
 ·subst h10
  refine aA (by decide) (aA (by decide) (tgt (by decide) (by decide) ?_))
  unfold sE;simp
 refine yC (oE (by omega)) ?_
 by_cases h11:op=11
 ·subst h11
  refine aA (by decide) (tgt (by decide) (by decide) ?_)
  unfold sE;simp
 refine yC (oE (by omega)) ?_
 by_cases h2:op=2
 ·subst h2
  refine aA (by decide) (aA (by decide) (zero (by decide) (by decide) ?_))
  unfold sE;simp
 refine yC (oE (by omega)) ?_
 by_cases h12:op=12
 ·subst h12
  refine aA (by decide) (aA (by decide) (zero (by decide) (by decide) ?_))
  unfold sE;simp
 refine yC (oE (by omega)) ?_
 by_cases h13:op=13
 ·subst h13
  refine aA (by decide) (zero (by decide) (by decide) ?_)
  unfold sE;simp
 refine yC (oE (by omega)) ⟨congrArg zA.bool ?_,by trivial⟩
 unfold sE;simp only[];rw[if_neg h1,if_neg (by omega),if_neg h6,if_neg h8,if_neg h7,if_neg (by omega),if_neg (by omega)]
end
end Go.Proofs
namespace Go.Proofs
open Go Go.Am
variable [aC]
variable {t tf:Tr lA}
def znx:List zA:=[.int .i64 0,.int .i64 0,.int .i64 0,.int .i64 1,.int .i64 1,.int .i64 1,.int .i64 0,.int .i64 0,.int .i64 0,.int .i64 0,.int .i64 1,.int .i64 1,.int .i64 1,.int .i64 0]
theorem zay(n:Int):vA .u8 n=(((n%256).toNat:Nat):Int):=by
 rw[zxe];omega
theorem zmj(hg:bI t){x:XIns}(hop:x.op<14):zD yA F 111 [.agg [.int .u8 (x.op:Int),.int .i64 x.a,.int .i64 x.b]] t=some (.tup [.int .i64 (rG x),.int .i64 (wK x:Nat)]):=by
 obtain⟨op,xa,xb⟩:=x
 have hop:op<14:=hop
 refine zhw (w111 _ _ _ ?_)
 simp only[t111,pA];refine aA (by trivial) ?_
 intro n hn hnb;obtain⟨t1,a1,a2,a3,a4⟩:=mV (C:=yA) z22 hn
 rw[a1,xA];intro n2 _ _;obtain⟨t2,b1,b2,b3⟩:=a2.store (C:=yA) hnb (j:=0) (v:=.agg znx) z22 rfl (by show 0+14<=14;decide) rfl
 have b1:=b1 n2
 have b2:pD t2 n none znx:=b2
 have ht2:dA t t2:=(dA.refl t).off hn (a4.trans b3)
 unfold znx at b1;rw[b1,xA];have hg2:=hg.mono ht2
 have args:∀ {k:Nat},k<256->zD yA F 181 [.int .u8 (k:Int)] t2=some (.tup [.int .i64 (gF k).1,.int .i64 (gF k).2]):=fun h=>zwq h hg2
 have dC:∀ {v:zA},v=.tup [.int .i64 (rG ⟨op,xa,xb⟩),.int .i64 (wK ⟨op,xa,xb⟩:Nat)]->(v=.tup [.int .i64 (rG ⟨op,xa,xb⟩),.int .i64 (wK ⟨op,xa,xb⟩:Nat)]/\∀b y,t.get b=some y->t2.get b=some y):=fun h=>⟨h,ht2⟩
 have ia:yB yA 232 (.ptr n 0) (.int .u8 (op:Int))=some (.ptr n (0+op*1)):=by
  unfold yB;have e1:(zA.int .u8 (op:Int)).asNat=some op:=rfl
  rw[z22,uA,e1,uA];simp only[zA.asSlice,zA.asPtr,uA,rE.asArr];rw[ty3,uA,pC.2 (by omega)]
  rfl
 have ld:∀ {k:Int},znx[op]?=some (.int .i64 k)->jA yA 3 ⟨0,t2⟩ (.ptr n (0+op*1))=some (.int .i64 k):=fun {k} h=>by
  rw[show 0+op*1=op by omega];exact b2.load1 ty3 rfl h
 by_cases h6:op=6
 ·subst h6;exact aA (by decide) (dC rfl)
 refine yC (oE (by omega)) ?_
 by_cases h7:op=7
 ·subst h7
  refine aA (by decide) ?_
  rw[zay,q181,args (by omega),xA]
  simp only[wC,zA.asTup,uA,dD,yaa,yab,xA,zB];exact dC rfl
 refine yC (oE (by omega)) ?_
 by_cases h8:op=8
 ·subst h8
  refine aA (by decide) ?_
  rw[zay,q181,args (by omega),xA]
  simp only[wC,zA.asTup,uA,dD,yaa,yab,xA,zB];exact dC rfl
 refine yC (oE (by omega)) ?_
 by_cases h9:op=9
 ·subst h9
  refine aA (by decide) (aA (by decide) ?_)
  rw[ia,xA,ld rfl,xA,zB,xA];exact dC rfl
 refine yC (oE (by omega)) ?_
 by_cases h10:op=10
 ·subst h10
  refine aA (by decide) (aA (by decide) ?_)
  rw[ia,xA,ld rfl,xA,zB,xA];exact dC rfl
 refine yC (oE (by omega)) ?_
 by_cases h11:op=11
 ·subst h11
  refine aA (by decide) ?_
  rw[ia,xA,ld rfl,xA,zB,xA];exact dC rfl
 refine yC (oE (by omega)) ?_
 have hcase:op=0\/op=1\/op=2\/op=3\/op=4\/op=5\/op=12\/op=13:=by omega
 rw[ia,xA];rcases hcase with e | e | e | e | e | e | e | e<;>subst e <;> (rw[ld rfl,xA,zB,xA];exact dC rfl)
end Go.Proofs
namespace Go.Proofs
open Go Go.Am
variable [aC]
variable {t t0 tf:Tr lA}
theorem zmx{d:List Nat}{nb box k v:Nat}{Q:bB}(hown:xF t nb .i64 d)(hcel:pD t box none [.slice nb 0 d.length d.length])(hnb:yA.base<=nb)(hne:box≠nb)(hk:k<d.length)(hv:v<1000000)
  (hS:∀d' t',xK d k (v+1)=some d'->cC nb t t'->xF t' nb .i64 d'->Q (.bool true) t') (hN:xK d k (v+1)=none->Q (.bool false) t):Wc yA F 109 [.int .i64 (k:Int),.int .i64 (v:Int),.ptr box 0] t Q:=by
 have l0:jA yA 105 ⟨0,t⟩ (.ptr box 0)=some (.slice nb 0 d.length d.length):=hcel.load1 rP rfl rfl
 have ia:yB yA 105 (.slice nb 0 d.length d.length) (.int .i64 (k:Int))=some (.ptr nb (0+k*1)):=xL zsu hk
 have e0:0+k*1=k:=by omega
 rw[e0]at ia;have hx:d[k]?=some d[k]:=yae hk
 have l1:=hown.load (C:=yA) hx ty3 rfl
 have ev:vA .i64 ((v:Int)+1)=((v+1:Nat):Int):=by rw[zC (by omega) (by omega)];omega
 refine w109 _ _ _ ?_
 simp only[t109,pA];rw[l0,xA,ia,xA,l1,xA,zB,xA,ev];by_cases h0:d[k]=0
 ·rw[h0]
  refine aA (by decide) ?_
  rw[xA,ia,xA];intro n _ _;obtain⟨t',s1,s2,s3⟩:=hown.store (C:=yA) hnb hk (v+1) ty3 rfl
  rw[s1 n,xA];have hc':pD t' box none [.slice nb 0 d.length d.length]:=hcel.off (s3 box hne)
  have l0':jA yA 105 ⟨0,t'⟩ (.ptr box 0)=some (.slice nb 0 d.length d.length):=hc'.load1 rP rfl rfl
  have hx':(d.set k (v+1))[k]?=some (v+1):=by rw[ybx,if_pos rfl,if_pos hk]
  have l1':=s2.load (C:=yA) hx' ty3 rfl
  refine z2d _ _ _ ?_
  simp only[zsl,pA];rw[l0',xA,ia,xA,l1',xA,zB,xA,ev,nE.2 rfl];refine hS _ t' ?_ s3 s2
  unfold xK;rw[hx,h0]
 ·obtain⟨w,hw⟩:∃w,d[k]=w+1:=⟨d[k]-1,by omega⟩
  refine yC (oE (by omega)) ?_
  refine z2d _ _ _ ?_
  simp only[zsl,pA];rw[l0,xA,ia,xA,l1,xA,zB,xA,ev];rw[hw]at hx;by_cases he:w=v
  ·subst he
   rw[hw,nE.2 rfl];refine hS d t ?_ (cC.refl _ _) hown
   unfold xK;rw[hx];exact if_pos rfl
  ·rw[zga,decide_eq_false (by omega)]
   refine hN ?_
   unfold xK;rw[hx];exact if_neg (by omega)
theorem zhl{nN nC i len:Nat}{x:XIns}(h:sE nN nC x i len=true):x.op<14:=by
 unfold sE at h;repeat' split at h
 all_goals (first | omega | cases h)
theorem sX{nN nC i len:Nat}{x:XIns}(h:sE nN nC x i len=true)(hj:x.op=9\/x.op=10\/x.op=11):(i:Int)<x.a/\x.a<=len:=by
 unfold sE at h;rw[if_neg (by omega),if_neg (by omega),if_neg (by omega),if_neg (by omega),if_neg (by omega),if_pos hj]at h
 simp only[yac,decide_eq_true_eq]at h;exact h.1
theorem zoc(op:Nat):0<=(gF op).1:=by
 unfold gF;repeat' split
 all_goals decide
theorem zod(op:Nat):(gF op).1<=3:=by
 unfold gF;repeat' split
 all_goals decide
theorem zec{nN nC i len:Nat}{x:XIns}(h:sE nN nC x i len=true):0<=rG x/\rG x<=3:=by
 have h1:=zoc (x.a%256).toNat
 have h2:=zod (x.a%256).toNat
 have h3:=zoc (x.b%256).toNat
 have h4:=zod (x.b%256).toNat
 unfold rG;by_cases h6:x.op=6
 ·rw[if_pos h6]
  unfold sE at h;rw[if_neg (by omega),if_neg (by omega),if_pos h6]at h
  simp only[yac,ybr,decide_eq_true_eq]at h;omega
 ·rw[if_neg h6]
  repeat' split
  all_goals omega
theorem z3r(x:XIns):wK x<=1:=by unfold wK;split<;>omega
section
variable {nm:List Nat}{a b c vn vc vw vt v1:zA}{names:List (List Nat)}{consts:List xB}{code:List XIns}{nb box:Nat}
def zhk(len:Nat):Option (List Nat)->Bool
 | some d=>decide (d[len]?=some 2)
 | none=>false
theorem zoz(hv:oA t0 3 (code.map XIns.d) v1)(hn:oA t0 1 (names.map D.str) vn)(hc:oA t0 6 (consts.map xB.d) vc)(hg:bI t0)(hlen:code.length<=1000)(hnb:yA.base<=nb)(hne:box≠nb)(hb0:t0.get nb=none) :
  ∀(l:List XIns) (i:Nat) (d:List Nat) (t:Tr lA),code.drop i=l->d.length=code.length+1->(∀x∈d,x<=66)->xF t nb .i64 d->pD t box none [.slice nb 0 (code.length+1) (code.length+1)]->dA t0 t →
   jp 58 2 [v1,.ptr box 0,.func (.func 109) [] [.ptr box 0],v1,.int .i64 (code.length:Int),.int .i64 (i:Int),.str nm,a,b,c,vn,vc,vw,vt] t (fun v t'=>v=.bool (zhk code.length (vI names.length consts.length code.length l i d))/\dA t0 t'):=by
 intro l;induction l with
 | nil=>
  intro i d t hd hdl hsm hown hcel hle;have hi:code.length<=i:=by
   rcases Nat.lt_or_ge i code.length with h | h
   ·rw[yam h]at hd;cases hd
   ·exact h
  have hk:code.length<d.length:=by omega
  have hx:d[code.length]?=some d[code.length]:=yae hk
  have l0:jA yA 105 ⟨0,t⟩ (.ptr box 0)=some (.slice nb 0 (code.length+1) (code.length+1)):=hcel.load1 rP rfl rfl
  have ia:yB yA 105 (.slice nb 0 (code.length+1) (code.length+1)) (.int .i64 (code.length:Int))=some (.ptr nb (0+code.length*1)):=xL zsu (by omega)
  rw[show 0+code.length*1=code.length by omega]at ia;refine j58_2 _ _ _ _ _ _ _ _ _ _ _ _ _ _ ?_
  simp only[z29,pA];refine yC (fun e=>absurd (jB.1 e) (by omega)) ?_
  rw[l0,xA,(hv.mono hle).len,xA,yag,zB,xA,ia,xA,hown.load hx ty3 rfl,xA,zB,xA]
  refine⟨congrArg zA.bool ?_,hle⟩
  rw[zga];show _=decide (d[code.length]?=some 2)
  rw[hx];simp only[Option.some.injEq];exact decide_eq_decide.2 ⟨fun h=>by omega,fun h=>by omega⟩
 | cons x l ih=>
  intro i d t hd hdl hsm hown hcel hle;have hi:i<code.length:=by
   rcases Nat.lt_or_ge i code.length with h | h
   ·exact h
   ·rw[yau h]at hd;cases hd
  rw[yam hi]at hd;injection hd with hd1 hd2
  have hxc:code[i]?=some x:=by rw[yae hi,hd1]
  obtain⟨q,off,g1,g2,_⟩:=zcn (hv.mono hle) hxc
  have hk:i<d.length:=by omega
  have hx:d[i]?=some d[i]:=yae hk
  have hsmi:=hsm _ (ybk hk)
  have l0:jA yA 105 ⟨0,t⟩ (.ptr box 0)=some (.slice nb 0 (code.length+1) (code.length+1)):=hcel.load1 rP rfl rfl
  have ia:yB yA 105 (.slice nb 0 (code.length+1) (code.length+1)) (.int .i64 (i:Int))=some (.ptr nb (0+i*1)):=xL zsu (by omega)
  rw[show 0+i*1=i by omega]at ia;have hz:mG [(.int .u8 0),(.int .i64 0),(.int .i64 0)] (.agg x.cells)=some (cellsOf x.cells):=cK rfl
  refine j58_2 _ _ _ _ _ _ _ _ _ _ _ _ _ _ ?_
  simp only[z29,pA];refine aA (jB.2 (by omega)) ?_
  rw[g1,xA,g2,xA,hz,xA];simp only[XIns.cells,cellsOf,qF,yaa,yab];refine aA (by trivial) ?_
  rw[l0,xA,ia,xA,hown.load hx ty3 rfl,xA,zB,xA];have hL:vI names.length consts.length code.length (x::l) i d=(dF names.length consts.length code.length x i d).bind (vI names.length consts.length code.length l (i+1)):=rfl
  rw[hL];by_cases h0:d[i]=0
  ·have hst:dF names.length consts.length code.length x i d=none:=by
    unfold dF;rw[hx,h0]
   rw[hst];exact aA (nE.2 (by omega)) ⟨rfl,hle⟩
  ·obtain⟨e,he⟩:∃e,d[i]=e+1:=⟨d[i]-1,by omega⟩
   refine yC (oE (by omega)) ?_
   have hsi:=zj4 (nm:=nm) (a:=a) (b:=b) (c:=c) (vw:=vw) (vt:=vt) (hn.mono hle) (hc.mono hle) (x:=x) (i:=i) (len:=code.length)
   rw[(hv.mono hle).len,xA,yag,zB,xA,q110,hsi,xA,qD,xA]
   rw[he]at hx
   cases hs:sE names.length consts.length x i code.length with
   | false=>
    have hst:dF names.length consts.length code.length x i d=none:=by
     unfold dF;rw[hx];simp only[];rw[if_pos hs]
    rw[hst];exact aA (by simp) ⟨rfl,hle⟩
   | true=>
    refine yC (by simp) ?_
    have hop:=zhl hs
    obtain⟨hp1,hp2⟩:=zec hs
    have hpu:=z3r x
    have hst111:=zmj (hg.mono hle) hop
    rw[q111,hst111,xA];simp only[wC,zA.asTup,uA,dD,yaa,yab,xA,zB];have hx2:=hx
    rw[l0,xA,ia,xA,hown.load (C:=yA) hx ty3 rfl,xA,zB,xA]
    have w1:vA .i64 (((e+1:Nat):Int)-1)=(e:Int):=by rw[zC (by omega) (by omega)];omega
    have w2:vA .i64 ((e:Int)-rG x)=(e:Int)-rG x:=zC (by omega) (by omega)
    have w3:vA .i64 ((e:Int)-rG x+(wK x:Nat))=(e:Int)-rG x+(wK x:Nat):=zC (by omega) (by omega)
    rw[w1,w2,w3];by_cases hneg:(e:Int)-rG x<0
    ·have hst:dF names.length consts.length code.length x i d=none:=by
      unfold dF;rw[hx];simp only[];rw[if_neg (by simp[hs]),if_pos (.inl hneg)]
     rw[hst];exact aA (jB.2 hneg) ⟨rfl,hle⟩
    refine yC (fun h=>hneg (jB.1 h)) ?_
    by_cases hbig:64<(e:Int)-rG x+(wK x:Nat)
    ·have hst:dF names.length consts.length code.length x i d=none:=by
      unfold dF;rw[hx];simp only[];rw[if_neg (by simp[hs]),if_pos (.inr hbig)]
     rw[hst];exact aA (jB.2 hbig) ⟨rfl,hle⟩
    refine yC (fun h=>hbig (jB.1 h)) ?_
    obtain⟨v,hv'⟩:∃v:Nat,(e:Int)-rG x+(wK x:Nat)=(v:Int):=⟨((e:Int)-rG x+(wK x:Nat)).toNat,by omega⟩
    have hst:dF names.length consts.length code.length x i d=(if x.op=9\/x.op=10\/x.op=11 then xK d x.a.toNat (v+1)else some d).bind fun d'=>if x.op=9 then some d' else xK d' (i+1) (v+1):=by
     unfold dF;rw[hx];simp only[];rw[if_neg (by simp[hs]),if_neg (by omega),hv',show((v:Nat):Int).toNat=v by omega]
    rw[hst,hv',q112,dU,xA,qD,xA];have f:∀p q,fL (.func (.func 109) [] [.ptr box 0]) [p,q]=some (109,[p,q,.ptr box 0]):=fun _ _=>rfl
    have wi:vA .i64 ((i:Int)+1)=((i+1:Nat):Int):=by rw[zC (by omega) (by omega)];omega
    have small:∀ {d d':List Nat} {k:Nat},(∀x∈d,x<=66)->xK d k (v+1)=some d'->(∀x∈d',x<=66)/\d'.length=d.length:=by
     intro d d' k hsm h;unfold xK at h
     cases hdk:d[k]? with
     | none=>rw[hdk]at h;cases h
     | some w=>
      rw[hdk]at h
      cases w with
      | zero=>
       cases h;refine⟨fun y hy=>?_,by simp⟩
       rcases List.mem_or_eq_of_mem_set hy with hy | rfl
       ·exact hsm y hy
       ·omega
      | succ w=>
       simp only[]at h;split at h
       ·cases h;exact⟨hsm,rfl⟩
       ·cases h
    have second:∀(d1:List Nat) (t1:Tr lA),d1.length=code.length+1->(∀x∈d1,x<=66)->xF t1 nb .i64 d1->pD t1 box none [.slice nb 0 (code.length+1) (code.length+1)]->dA t0 t1 →
      (if (!wA (x.op:Int) 9)=true then uH (fL (.func (.func 109) [] [.ptr box 0]) [.int .i64 ((i+1:Nat):Int),.int .i64 (v:Int)]) (fun p=>Wq yA F xJ p.1 p.2 t1 fun v' t'=>uH v'.asBool fun n=>if (!n)=true then(.bool false:zA)=.bool (zhk code.length ((if x.op=9 then some d1 else xK d1 (i+1) (v+1)).bind (vI names.length consts.length code.length l (i+1))))/\dA t0 t' else jp 58 2 [v1,.ptr box 0,.func (.func 109) [] [.ptr box 0],v1,.int .i64 (code.length:Int),.int .i64 ((i+1:Nat):Int),.str nm,a,b,c,vn,vc,vw,vt] t' (fun v' t'=>v'=.bool (zhk code.length ((if x.op=9 then some d1 else xK d1 (i+1) (v+1)).bind (vI names.length consts.length code.length l (i+1))))/\dA t0 t'))
      else jp 58 2 [v1,.ptr box 0,.func (.func 109) [] [.ptr box 0],v1,.int .i64 (code.length:Int),.int .i64 ((i+1:Nat):Int),.str nm,a,b,c,vn,vc,vw,vt] t1 (fun v' t'=>v'=.bool (zhk code.length ((if x.op=9 then some d1 else xK d1 (i+1) (v+1)).bind (vI names.length consts.length code.length l (i+1))))/\dA t0 t')):=by
     intro d1 t1 hdl1 hsm1 hown1 hcel1 hle1;by_cases h9:x.op=9
     ·rw[if_pos h9]
      refine yC (fun h=>absurd (show(x.op:Int)=9 by omega) (vJ.1 h)) ?_
      exact ih (i+1) d1 t1 hd2 hdl1 hsm1 hown1 hcel1 hle1
     ·rw[if_neg h9]
      refine aA (vJ.2 (by omega)) ?_
      rw[f,xA];show Wq yA F xJ 109 _ _ _
      rw[q109];refine zmx (v:=v) hown1 (by rw[hdl1];exact hcel1) hnb hne (by omega) (by omega) (fun d2 t2 hr ho hw=>?_) (fun hr=>?_)
      ·rw[qD,xA,hr]
       obtain⟨s1,s2⟩:=small hsm1 hr
       exact yC (by simp) (ih (i+1) d2 t2 hd2 (by omega) s1 hw (hcel1.off (ho box hne)) (hle1.off hb0 ho))
      ·rw[qD,xA,hr]
       exact aA (by simp) ⟨rfl,hle1⟩
    by_cases hj:x.op=9\/x.op=10\/x.op=11
    ·rw[if_pos hj,decide_eq_true hj]
     refine aA (by trivial) ?_
     obtain⟨hj1,hj2⟩:=sX hs hj
     obtain⟨T,hT⟩:∃T:Nat,x.a=(T:Int):=⟨x.a.toNat,by omega⟩
     rw[hT,show((T:Nat):Int).toNat=T by omega,f,xA]
     show Wq yA F xJ 109 _ _ _
     rw[q109];refine zmx (v:=v) hown (by rw[hdl];exact hcel) hnb hne (by omega) (by omega) (fun d1 t1 hr ho hw=>?_) (fun hr=>?_)
     ·rw[qD,xA,hr]
      obtain⟨s1,s2⟩:=small hsm hr
      refine yC (by simp) ?_
      rw[wi];exact second d1 t1 (by omega) s1 hw (hcel.off (ho box hne)) (hle.off hb0 ho)
     ·rw[qD,xA,hr]
      exact aA (by simp) ⟨rfl,hle⟩
    ·rw[if_neg hj,decide_eq_false hj]
     refine yC (by simp) ?_
     rw[wi];exact second d t hdl hsm hown hcel hle
theorem jY(hv:oA t 3 (code.map XIns.d) v1)(hn:oA t 1 (names.map D.str) vn)(hc:oA t 6 (consts.map xB.d) vc)(hg:bI t)(hsz:code.length<1125899906842624) :
  zD yA F 58 [.agg [.str nm,a,b,c,vn,vc,vw,vt],v1] t=some (.bool (yJ names.length consts.length code)):=by
 have hlen:rB v1=some (.int .i64 (code.length:Int)):=by rw[hv.len,yag]
 refine zhw (w58 _ _ _ _ _ _ _ _ _ ?_)
 simp only[t58,pA,hlen,xA,zB];unfold yJ;by_cases hbig:1000<code.length
 ·rw[decide_eq_false (by omega),Bool.false_and]
  exact aA (jB.2 (by omega)) ⟨rfl,fun _ _ h=>h⟩
 ·rw[decide_eq_true (by omega),ybo]
  refine yC (fun h=>absurd (jB.1 h) (by omega)) ?_
  rw[zC (n:=(code.length:Int)+1) (by omega) (by omega),show(code.length:Int)+1=((code.length+1:Nat):Int) by omega]
  intro n hn1 hnb;obtain⟨t1,m1,m2,m3,m4⟩:=kT (C:=yA) rP rfl ty3 rfl rfl (by decide) (n:=code.length+1) (by omega) hn1
  rw[m1,xA];intro w hw hwb;obtain⟨t2,a1,a2,a3,a4⟩:=mV (C:=yA) rP hw
  have hwn:w≠n:=by
   intro e;subst e;obtain⟨cc,hcc,_⟩:=m2
   rw[show(zA.slice w 0 (code.length+1) (code.length+1),(⟨w+1,t1⟩:rA)).2.t=t1 from rfl,hcc]at hw
   cases hw
  rw[a1,xA];intro w2 _ _;obtain⟨t3,b1,b2,b3⟩:=a2.store1 (C:=yA) hwb (j:=0) (v:=.slice n 0 (code.length+1) (code.length+1)) rP rfl rfl rfl (by show 0<1;decide)
  have b2:pD t3 w none [.slice n 0 (code.length+1) (code.length+1)]:=b2
  have b1:=b1 w2
  rw[b1,xA];have o3:xF t3 n .i64 (List.replicate (code.length+1) 0):=(m2.tle a3).off (Ne.symm hwn) b3
  have l0:jA yA 105 ⟨0,t3⟩ (.ptr w 0)=some (.slice n 0 (code.length+1) (code.length+1)):=b2.load1 rP rfl rfl
  have ia:yB yA 105 (.slice n 0 (code.length+1) (code.length+1)) (.int .i64 0)=some (.ptr n (0+0*1)):=xL zsu (i:=0) (by omega)
  rw[l0,xA,ia,xA];intro w3 _ _;obtain⟨t4,c1,c2,c3⟩:=o3.store (C:=yA) hnb (j:=0) (by simp) 1 ty3 rfl
  have c1:=c1 w3
  have c1':cD yA 3 (.ptr n (0+0*1)) (.int .i64 1) ⟨w3,t3⟩=some (zE,⟨w3,t4⟩):=c1
  rw[c1',xA];have ht1:dA t t1:=m3
  have htw:t.get w=none:=by
   cases hq:t.get w with
   | none=>rfl
   | some y=>
    have:=m3 _ _ hq
    have hw':t1.get w=none:=hw
    rw[this]at hw';cases hw'
  have ht3:dA t t3:=(ht1.trans a3).off htw b3
  have ht4:dA t t4:=ht3.off hn1 c3
  have hset:(List.replicate (code.length+1) 0).set 0 1=1::List.replicate code.length 0:=by rw[List.replicate_succ];rfl
  rw[hset]at c2;refine Jq.mono (zoz (nm:=nm) (a:=a) (b:=b) (c:=c) (vw:=vw) (vt:=vt) (nb:=n) (box:=w) hv hn hc hg (by omega) hnb hwn hn1 code 0 (1::List.replicate code.length 0) t4 rfl (by simp) (fun x hx=>?_) c2 (b2.off (c3 w hwn)) ht4) fun v u hh=>⟨hh.1.trans ?_,hh.2⟩
  ·rcases yat.1 hx with rfl | hx
   ·omega
   ·have:=List.eq_of_mem_replicate hx;omega
  ·unfold zhk
   cases vI names.length consts.length code.length code 0 (1::List.replicate code.length 0)<;>rfl
end
end Go.Proofs
namespace Go.Am
def z2r:lF:=⟨⟨false,[]⟩,⟨false,[]⟩⟩
def jH:xB:=⟨0,z2r,0⟩
section
variable (names:List (List Nat))(consts:List xB)(code:List XIns)(same:xB->xB->Bool)
def xG(x:XIns)(args:List qA):qA:=
 if x.op=1 then .mk 1 [] (consts.getD x.a.toNat jH) args
 else if x.op=3\/x.op=4\/x.op=5\/x.op=6 then .mk x.op (names.getD x.a.toNat []) jH args
 else if x.op=8 then .mk (x.b%256).toNat (names.getD x.a.toNat []) jH args
 else if x.op=7 then .mk (x.a%256).toNat [] ⟨0,z2r,x.b⟩ args
 else .mk 2 [] jH args
def zc6(rd:Nat->Nat->Option qA)(first:qA)(at_ to:Nat):Option (qA × Nat):=
 match code[at_]? with
 | none=>none
 | some x=>
  if x.op=9 then none
  else if x.a<at_+2 then none
  else if (to:Int)<=x.a then none
  else match code[x.a.toNat-1]?,code[x.a.toNat-2]?,code[x.a.toNat]? with
   | some j,some k,some last=>
    if j.op≠9 then none
    else if (to:Int)<j.a then none
    else if k.op=12 then
     match rd (at_+1) (x.a.toNat-2)with
     | none=>none
     | some y=>if j.a=x.a+1/\last.op=1/\same (consts.getD last.a.toNat jH) (cF (if x.op=11 then 1 else 0))=true then some (.mk (if x.op=11 then 16 else 15) [] jH [first,y],j.a.toNat)else none
    else
     match rd (at_+1) (x.a.toNat-1)with
     | none=>none
     | some y=>if x.op≠10 then none else
      match rd x.a.toNat j.a.toNat with
      | none=>none
      | some z=>some (.mk 18 [] jH [first,y,z],j.a.toNat)
   | _,_,_=>none
def oneX:Option (List qA)->Option qA
 | some [x]=>some x
 | _=>none
def fM:Nat->Nat->Nat->List qA->Option (List qA)
 | 0,_,_,_=>none
 | f+1,i,to,st=>
  if to<=i then some st
  else match code[i]? with
   | none=>none
   | some x=>
    if x.op=9\/x.op=10\/x.op=11 then
     match st.getLast? with
     | none=>none
     | some top=>
      match zc6 consts code same (fun a b=>oneX (fM f a b [])) top i to with
      | none=>none
      | some (y,next)=>fM f next to (st.dropLast++[y])
    else if x.op=12\/(st.length:Int)<rG x then none
    else fM f (i+1) to (st.take (st.length-(rG x).toNat)++[xG names consts x (st.drop (st.length-(rG x).toNat))])
end
end Go.Am
namespace Go.Am
open Go Go.RowKit
section
variable {t tf:Tr lA}{C:iA}
def Buf (base:Nat)(tf t:Tr lA)(sz:Nat)(l:List D)(v:zA):Prop:=
 (v=.nilslice/\l=[])\/∃b cl c cap,v=.slice b 0 l.length cap/\l.length<=cap/\0<cap/\cap<400000/\base<=b/\tf.get b=none/\t.get b=some (.cells c (cap*sz) (some sz)) ∧
  (∀(i:Nat) cs,cl[i]?=some cs->cs.length=sz/\∀(j:Nat) a,cs[j]?=some a->c.get (i*sz+j)=some a)/\fC tf l cl
theorem fC.take'{l:List D}{cl:List (List zA)}{k:Nat}(h:fC t l cl):fC t (l.take k) (cl.take k):=by
 have hl:=h.length
 refine fC.mk (by rw[ycb,ycb,hl]) fun i d cs h1 h2=>?_
 rw[ycg]at h1 h2;split at h1
 ·rename_i e
  rw[if_pos e]at h2;obtain⟨cs',h3,h4⟩:=h.get h1
  rw[h3]at h2;cases h2;exact h4
 ·cases h1
theorem fC.drop'{l:List D}{cl:List (List zA)}{k:Nat}(h:fC t l cl):fC t (l.drop k) (cl.drop k):=by
 have hl:=h.length
 refine fC.mk (by rw[yck,yck,hl]) fun i d cs h1 h2=>?_
 rw[ycf]at h1 h2;obtain⟨cs',h3,h4⟩:=h.get h1
 rw[h3]at h2;cases h2;exact h4
theorem fC.app:∀ {l m:List D} {cl cm:List (List zA)},fC tf l cl->fC tf m cm->fC tf (l++m) (cl++cm):=by
 intro l;induction l with
 | nil=>intro m cl cm h k;rw[lE]at h;subst h;exact k
 | cons d l ih=>
  intro m cl cm h k;rw[fD]at h;obtain⟨c,r,rfl,h1,h2⟩:=h
  exact fD.2 ⟨c,r++cm,rfl,h1,ih h2 k⟩
variable {base sz:Nat}{l:List D}{v:zA}
theorem Buf.read(h:Buf base tf t sz l v)(ht:dA tf t):oA t sz l v:=by
 rcases h with⟨rfl,rfl⟩ | ⟨b,cl,c,cap,rfl,h0,_,_,_,_,h1,h2,h3⟩
 ·exact⟨[],.inl ⟨rfl,rfl⟩,lE.2 rfl⟩
 ·have hlen:=h3.length
  refine⟨cl,.inr ⟨b,0,cap,by rw[hlen],by omega,⟨c,_,_,h1,.inr rfl⟩,fun i cs hi=>⟨(h2 i cs hi).1,c,_,_,h1,fun j a hj=>?_⟩⟩,fC.mono ht _ _ h3⟩
  rw[yax];exact(h2 i cs hi).2 j a hj
theorem Buf.keep{t' tf':Tr lA}(h:Buf base tf t sz l v)(hf:dA tf tf')(hk:∀b,tJ v b->t'.get b=t.get b/\tf'.get b=Option.none):Buf base tf' t' sz l v:=by
 rcases h with⟨rfl,rfl⟩ | ⟨b,cl,c,cap,rfl,g1,g2,g3,h0,h1,h2,h3,h4⟩
 ·exact .inl ⟨rfl,rfl⟩
 ·obtain⟨k1,k2⟩:=hk b (aM.2 rfl)
  exact .inr ⟨b,cl,c,cap,rfl,g1,g2,g3,h0,k2,by rw[k1];exact h2,h3,fC.mono hf _ _ h4⟩
theorem Buf.live(h:Buf base tf t sz l v){b:Nat}(hb:tJ v b):∃y,t.get b=some y:=by
 rcases h with⟨rfl,rfl⟩ | ⟨c,cl,x,cap,rfl,_,_,_,h1,h2,h3,_⟩
 ·exact absurd hb zcm
 ·rw[aM]at hb;subst hb;exact⟨_,h3⟩
def pI (base sz:Nat)(l:List D)(v:zA):vD where
 blks:=mD v
 ok:=fun tf t=>Buf base tf t sz l v
 keep:=fun h hf k=>h.keep hf fun b hb=>k b (iK.2 hb)
 live:=fun h k hk=>h.live (iK.1 hk)
theorem Buf.elem{T el:Nat}(hT:nF C T el sz true)(h:Buf base tf t sz l v){i:Nat}{d:D}(hi:l[i]?=some d) :
  ∃p o cs,yB C T v (.int .i64 (i:Int))=some (.ptr p o)/\jA C el ⟨0,t⟩ (.ptr p o)=some (.agg cs)/\RD tf d cs/\cs.length=sz:=by
 rcases h with⟨rfl,rfl⟩ | ⟨b,cl,c,cap,rfl,h0,hp,hc4,hbb,h1,h2,h3,h4⟩
 ·simp at hi
 ·have hlen:=h4.length
  have hlt:i<l.length:=(yad.1 hi).1
  obtain⟨cs,g1,g2⟩:=h4.get hi
  obtain⟨g3,g4⟩:=h3 i cs g1
  refine⟨b,0+i*sz,cs,xL hT hlt,?_,g2,g3⟩
  obtain⟨_,⟨z,hz1,hz2,hz3⟩⟩:=hT
  have ha:At t b (0+i*sz) cs:=⟨c,_,_,h2,fun j a hj=>by rw[yax];exact g4 j a hj⟩
  have:=ha.load (j:=0) hz1 hz3 hz2 (by omega)
  rw[ybu,ybs,show cs.take sz=cs from by rw[<- g3,List.take_length]]at this;exact this
theorem zk9{n k sz:Nat}{y:lA}{cl:List (List zA)}(h:oG t sz (.slice n 0 k k) cl)(hy:t.get n=some y):oG (tf.set n y) sz (.slice n 0 k k) cl:=by
 rcases h with⟨h,_⟩ | ⟨b,off,cap,e,h1,⟨c,m,lo,h2,h3⟩,h4⟩
 ·cases h
 ·have eb:n=b:=by injection e
  have eo:0=off:=by injection e
  subst eb eo
  refine .inr ⟨n,0,cap,e,h1,⟨c,m,lo,by rw[Tr.get_set,if_pos rfl,<- hy,h2],h3⟩,fun i cs hi=>?_⟩
  obtain⟨k1,c',m',lo',k2,k3⟩:=h4 i cs hi
  exact⟨k1,c',m',lo',by rw[Tr.get_set,if_pos rfl,<- hy,k2],k3⟩
theorem Buf.front{T el:Nat}{agg:Bool}(hT:nF C T el sz agg)(h:Buf base tf t sz l v){k:Nat}(hk:k<=l.length) :
  ∃v',cG C T ⟨0,t⟩ v none (some (.int .i64 (k:Int)))=some v'/\Buf base tf t sz (l.take k) v'/\mD v'=mD v:=by
 obtain⟨⟨y,hy1,hy2⟩,⟨z,hz1,hz2,hz3⟩⟩:=hT
 have hb:∀y,cQ y (.int .i64 (k:Int))=sB (Nat.ble k y) (some k):=fun y=>rfl
 rcases h with⟨rfl,rfl⟩ | ⟨b,cl,c,cap,rfl,h0,hp,hc4,hbb,h1,h2,h3,h4⟩
 ·have:k=0:=by simp at hk;omega
  subst this;refine⟨.nilslice,?_,.inl ⟨rfl,rfl⟩,rfl⟩
  unfold cG;rw[hy1,uA];unfold aJ;simp only[zA.asStr,zA.asSlice,zA.asPtr];rw[hy2,uA,hz1,uA];rfl
 ·refine⟨.slice b 0 k cap,?_,.inr ⟨b,cl.take k,c,cap,?_,?_,hp,hc4,hbb,h1,h2,fun i cs hi=>?_,h4.take'⟩,rfl⟩
  ·unfold cG
   rw[hy1,uA];unfold aJ;simp only[zA.asStr,zA.asSlice];rw[hy2,uA];unfold wL;rw[hz1,uA];unfold vN zc7;simp only[hb];rw[show Nat.ble k cap=true from eE.2 (by omega)]
   simp only[fE,uA];have he2:iH ⟨0,t⟩ b z.size cap 0 false=false:=by
    unfold iH oD;rw[h2,uA];simp[lA.asCells]
   have hf:oH ⟨0,t⟩ b z.size cap 0 false=true:=by
    unfold oH oD;rw[h2,uA];simp[lA.asCells,hz2]
   rw[he2,Bool.and_false,cond_false,show Nat.ble k cap=true from eE.2 (by omega),hf]
   simp only[Bool.and_self,fE];congr 1
   cases hq:Nat.beq cap 0<;>simp
  ·rw[ycb];congr 1;omega
  ·rw[ycb];omega
  ·rw[ycg]at hi
   split at hi
   ·exact h3 i cs hi
   ·cases hi
theorem Buf.back{T el:Nat}{agg:Bool}(hT:nF C T el sz agg)(h:Buf base tf t sz l v)(hz0:∃c n,t.get 0=some (.cells c n none)){k:Nat}(hk:k<=l.length) :
  ∃v' cl',cG C T ⟨0,t⟩ v (some (.int .i64 (k:Int))) none=some v'/\oG t sz v' cl'/\fC tf (l.drop k) cl':=by
 obtain⟨⟨y,hy1,hy2⟩,⟨z,hz1,hz2,hz3⟩⟩:=hT
 have hb:∀y,cQ y (.int .i64 (k:Int))=sB (Nat.ble k y) (some k):=fun y=>rfl
 rcases h with⟨rfl,rfl⟩ | ⟨b,cl,c,cap,rfl,h0,hp,hc4,hbb,h1,h2,h3,h4⟩
 ·have:k=0:=by simp at hk;omega
  subst this;refine⟨.nilslice,[],?_,.inl ⟨rfl,rfl⟩,by simp[fC]⟩
  unfold cG;rw[hy1,uA];unfold aJ;simp only[zA.asStr,zA.asSlice,zA.asPtr];rw[hy2,uA,hz1,uA];rfl
 ·have hlen:=h4.length
  have pre:cG C T ⟨0,t⟩ (.slice b 0 l.length cap) (some (.int .i64 (k:Int))) none=(bif Nat.ble l.length cap&&Nat.ble k l.length&&iH ⟨0,t⟩ b z.size cap k false then some (.slice 0 1 0 0)else sB (Nat.ble l.length cap&&oH ⟨0,t⟩ b z.size cap k false) (some (.slice b (bif Nat.beq cap k then 0 else 0+k*z.size) (l.length-k) (cap-k)))):=by
   unfold cG;rw[hy1,uA];unfold aJ;simp only[zA.asStr,zA.asSlice];rw[hy2,uA];unfold wL;rw[hz1,uA];unfold vN zc7;simp only[hb];rw[uA,show Nat.ble k l.length=true from eE.2 hk]
   simp only[fE,uA];rw[show Nat.ble k l.length=true from eE.2 hk]
  rw[pre,show Nat.ble l.length cap=true from eE.2 h0,show Nat.ble k l.length=true from eE.2 hk];by_cases hend:k=cap
  ·have he2:iH ⟨0,t⟩ b z.size cap k false=true:=by
    have b0:Nat.beq sz z.size=true:=aB.2 hz2.symm
    have b1:Nat.beq cap k=true:=aB.2 hend.symm
    have b2:Nat.beq k 0=false:=by
     cases hq:Nat.beq k 0 with
     | true=>have:=aB.1 hq;omega
     | false=>rfl
    unfold iH oD;rw[h2,uA];simp only[lA.asCells,uA,b0,b1,b2];rfl
   rw[he2];obtain⟨cz,nz,hcz⟩:=hz0
   refine⟨.slice 0 1 0 0,[],rfl,.inr ⟨0,1,0,rfl,yal _,⟨cz,nz,none,hcz,.inl rfl⟩,fun i cs hi=>by simp at hi⟩,?_⟩
   rw[yau (by omega)]
   exact lE.2 rfl
  ·have he2:iH ⟨0,t⟩ b z.size cap k false=false:=by
    unfold iH oD;rw[h2,uA];simp[lA.asCells]
    intro _ e;exact absurd e.symm hend
   have hf:oH ⟨0,t⟩ b z.size cap k false=true:=by
    unfold oH oD;rw[h2,uA];have:Nat.beq cap k=false:=by
     cases hq:Nat.beq cap k with
     | true=>exact absurd (aB.1 hq).symm hend
     | false=>rfl
    simp[lA.asCells,hz2,this]
   have hq:Nat.beq cap k=false:=by
    cases hq:Nat.beq cap k with
    | true=>exact absurd (aB.1 hq).symm hend
    | false=>rfl
   rw[he2,hf,hq,cond_false,hz2];refine⟨_,cl.drop k,rfl,.inr ⟨b,0+k*sz,cap-k,by rw[yck,hlen],by rw[yck];omega,⟨c,_,_,h2,.inr rfl⟩,fun i cs hi=>?_⟩,h4.drop'⟩
   rw[ycf]at hi;obtain⟨g1,g2⟩:=h3 _ cs hi
   refine⟨g1,c,_,_,h2,fun j a hj=>?_⟩
   have:=g2 j a hj
   rw[yap]at this;rw[show 0+k*sz+i*sz+j=k*sz+i*sz+j by omega];exact this
theorem Buf.push{T el:Nat}(hT:aI C T el sz)(h:Buf C.base tf t sz l v){x:zA}{d:D}{cs:List zA}(hx:oG t sz x [cs])(hd:RD tf d cs)(hone:∀a∈cs,zA.one a=true)(hl:l.length<300000){n:Nat}(hn:t.get n=none)(hbase:C.base<=n)(ht:dA tf t) :
  ∃v' t' n',kD C T T v x ⟨n,t⟩=some (v',⟨n',t'⟩)/\Buf C.base tf t' sz (l++[d]) v'/\dA tf t'/\(∀c,¬ tJ v c->¬ tJ v' c->t'.get c=t.get c)/\(∀c,tJ v' c->tJ v c\/c=n):=by
 have asLoose:∀ {w:zA},Loose C.base tf t sz l w->w=v->(v=.nilslice\/∃b,v=.slice b 0 l.length l.length)->∃v' t' n',kD C T T v x ⟨n,t⟩=some (v',⟨n',t'⟩)/\Buf C.base tf t' sz (l++[d]) v'/\dA tf t'/\(∀c,¬ tJ v c->¬ tJ v' c->t'.get c=t.get c)/\(∀c,tJ v' c->tJ v c\/c=n):=by
  intro w hw e _;subst e;obtain⟨t',g1,g2,g3,g4⟩:=rS (C:=C) hT hw hx (m:=[d]) (fD.2 ⟨cs,[],rfl,hd,lE.2 rfl⟩) (by simpa using hone) (by simp) (by simp;omega) hn hbase ht
  refine⟨_,t',_,g1,?_,g3,fun c k1 k2=>g4 c (fun e=>k2 (aM.2 e)) k1,fun c hc=>.inr (aM.1 hc)⟩
  rcases g2 with⟨g2,_⟩ | ⟨b,cl,c,e,q1,q2,q3,q4,q5⟩
  ·cases g2
  ·have eb:n=b:=by injection e
   subst eb;exact .inr ⟨_,cl,c,l.length+1,by simp,by simp,by omega,by omega,q1,q2,by simpa using q3,q4,q5⟩
 rcases h with⟨rfl,rfl⟩ | ⟨b,cl,c,cap,rfl,h0,hp,hc4,hbb,h1,h2,h3,h4⟩
 ·exact asLoose (w:=.nilslice) (.inl ⟨rfl,rfl⟩) rfl (.inl rfl)
 ·by_cases hfull:l.length=cap
  ·subst hfull
   exact asLoose (w:=.slice b 0 l.length l.length) (.inr ⟨b,cl,c,rfl,hbb,h1,h2,h3,h4⟩) rfl (.inr ⟨b,rfl⟩)
  ·obtain⟨⟨y,hy1,hy2,hy3⟩,⟨z,hz1,hz2,hz3,hz4,hz5⟩⟩:=hT
   obtain⟨hf,hlen⟩:=hx.first (n:=n)
   have hcl:=h4.length
   have hcs:cs.length=sz:=(hx.len 0 cs (by simp))
   have e1:List.flatten [cs]=cs:=by simp
   rw[e1]at hf;have hne:cs≠[]:=by
    intro e;rw[e]at hcs;simp at hcs;omega
   have key:kD C T T (.slice b 0 l.length cap) x ⟨n,t⟩=some (.slice b 0 (l.length+1) cap,⟨n,t.set b (.cells (c.setMany cs (l.length*sz)) (cap*sz) (some sz))⟩):=by
    unfold kD eL;rw[hy1,uA,uA,hy3];simp only[ybm,fE];rw[hy2,uA,hz1,uA,hlen,uA,hz2,hf,uA];simp only[zA.asSlice];have g1:Nat.ble (l.length+[cs].length) cap=true:=eE.2 (by simp;omega)
    rw[g1,cond_true];unfold fN;obtain⟨a0,r0,hcs0⟩:∃a r,cs=a::r:=by
     cases cs with
     | nil=>exact absurd rfl hne
     | cons a r=>exact⟨a,r,rfl⟩
    have g2:nK C ⟨n,t⟩ b (0+l.length*z.size) cs=some (setBlk ⟨n,t⟩ b (.cells (c.setMany cs (l.length*sz)) (cap*sz) (some sz))):=by
     unfold nK;have q1:(!Nat.blt b C.base)=true:=by
      cases hq:Nat.blt b C.base with
      | true=>have:=pC.1 hq;omega
      | false=>rfl
     rw[q1,fE];unfold oD;rw[h2,uA];simp only[lA.asCells,uA];have q2:Nat.ble (0+l.length*z.size+uB cs) (cap*sz)=true:=eE.2 (by
      rw[xE,hcs,hz2];have:=yaj sz (show l.length+1<=cap by omega)
      rw[yap]at this;omega)
     have q3:iB zA.one cs=true:=by rw[iF];exact ybc.2 hone
     rw[q2,q3,hz2,yax];rfl
    rw[hcs0]at g2 ⊢
    simp only[];rw[g2,uA];rfl
   refine⟨_,_,_,key,.inr ⟨b,cl++[cs],c.setMany cs (l.length*sz),cap,by simp,by simp;omega,hp,hc4,hbb,h1,by rw[Tr.get_set,if_pos rfl],fun i cs' hi=>?_,fC.app h4 (fD.2 ⟨cs,[],rfl,hd,lE.2 rfl⟩)⟩,fun k u hk=>?_,fun k k1 k2=>?_,fun k hk=>.inl (aM.2 (aM.1 hk))⟩
   ·rw[List.getElem?_append]at hi
    split at hi
    ·rename_i hlt
     obtain⟨k1,k2⟩:=h3 i cs' hi
     refine⟨k1,fun j a hj=>?_⟩
     have hjl:j<sz:=by rw[<- k1];exact(yad.1 hj).1
     have:i*sz+j<l.length*sz:=by
      have:=yaj sz (show i+1<=l.length by omega)
      rw[yap]at this;omega
     rw[Tr.get_setMany,if_neg (by omega)]
     exact k2 j a hj
    ·rename_i hge
     have hi0:i-cl.length=0:=by
      cases hz:i-cl.length with
      | zero=>rfl
      | succ m=>rw[hz]at hi;simp at hi
     rw[hi0]at hi;have hi:cs=cs':=by simpa using hi
     subst hi;refine⟨hcs,fun j a hj=>?_⟩
     have hjl:j<sz:=by rw[<- hcs];exact(yad.1 hj).1
     have:i=l.length:=by omega
     subst this;rw[Tr.get_setMany,if_pos (by omega),show l.length*sz+j-l.length*sz=j by omega]
     exact hj
   ·have h5:k≠b:=by intro e;rw[e,h1]at hk;cases hk
    rw[Tr.get_set,if_neg h5];exact ht _ _ hk
   ·rw[Tr.get_set,if_neg (fun e=>k1 (aM.2 e))]
theorem Buf.set{T el S:Nat}{agg:Bool}{y:wD}(hT:nF C T el sz agg)(hS:C.tys.get S=some y)(h:Buf C.base tf t sz l v){i:Nat}(hi:i<l.length){w:zA}{d:D}(hw:w.cells.length=sz)(hy:y.size=sz)(hone:iB zA.one w.cells=true)(hd:RD tf d w.cells)(ht:dA tf t) :
  ∃p o t',yB C T v (.int .i64 (i:Int))=some (.ptr p o)/\(∀n,cD C S (.ptr p o) w ⟨n,t⟩=some (zE,⟨n,t'⟩))/\Buf C.base tf t' sz (l.set i d) v/\dA tf t'/\(∀c,¬ tJ v c->t'.get c=t.get c):=by
 rcases h with⟨rfl,rfl⟩ | ⟨b,cl,c,cap,rfl,h0,hp,hc4,hbb,h1,h2,h3,h4⟩
 ·simp at hi
 ·have hcl:=h4.length
  refine⟨b,0+i*sz,t.set b (.cells (c.setMany w.cells (i*sz)) (cap*sz) (some sz)),xL hT hi,fun n=>?_,.inr ⟨b,cl.set i w.cells,c.setMany w.cells (i*sz),cap,by simp,by simpa using h0,hp,hc4,hbb,h1,by rw[Tr.get_set,if_pos rfl],fun j cs hj=>?_,h4.set hd⟩,fun k u hk=>?_,fun k hk=>?_⟩
  ·unfold cD
   rw[hS,uA];simp only[zA.asPtr,uA];have q0:Nat.beq (uB w.cells) y.size=true:=by rw[xE,hw,hy];exact aB.2 rfl
   rw[q0,fE];unfold nK;have q1:(!Nat.blt b C.base)=true:=by
    cases hq:Nat.blt b C.base with
    | true=>have:=pC.1 hq;omega
    | false=>rfl
   rw[q1,fE];unfold oD;rw[h2,uA];simp only[lA.asCells,uA];have q2:Nat.ble (0+i*sz+uB w.cells) (cap*sz)=true:=eE.2 (by
    rw[xE,hw];have:=yaj sz (show i+1<=cap by omega)
    rw[yap]at this;omega)
   rw[q2,hone,yax];rfl
  ·rw[ybx]at hj
   split at hj
   ·rename_i e
    subst e;split at hj
    ·cases hj
     refine⟨hw,fun k a hk=>?_⟩
     have hkl:k<sz:=by rw[<- hw];exact(yad.1 hk).1
     rw[Tr.get_setMany,if_pos (by omega),show i*sz+k-i*sz=k by omega]
     exact hk
    ·cases hj
   ·rename_i hne
    obtain⟨k1,k2⟩:=h3 j cs hj
    refine⟨k1,fun k a hk=>?_⟩
    have hkl:k<sz:=by rw[<- k1];exact(yad.1 hk).1
    have:¬ (i*sz<=j*sz+k/\j*sz+k<i*sz+w.cells.length):=by
     rw[hw];rcases Nat.lt_or_gt_of_ne hne with hlt | hlt
     ·have:=yaj sz (show i+1<=j by omega)
      rw[yap]at this;omega
     ·have:=yaj sz (show j+1<=i by omega)
      rw[yap]at this;omega
    rw[Tr.get_setMany,if_neg this];exact k2 k a hk
  ·have h5:k≠b:=by intro e;rw[e,h1]at hk;cases hk
   rw[Tr.get_set,if_neg h5];exact ht _ _ hk
  ·rw[Tr.get_set,if_neg (fun e=>hk (aM.2 e))]
theorem zlr{T el:Nat}(hT:aI C T el sz){x:zA}(hx:oG t sz x []){n:Nat}:kD C T T .nilslice x ⟨n,t⟩=some (.nilslice,⟨n,t⟩):=by
 obtain⟨⟨y,hy1,hy2,hy3⟩,⟨z,hz1,hz2,hz3,hz4,hz5⟩⟩:=hT
 obtain⟨hf,hlen⟩:=hx.first (n:=n)
 unfold kD eL;rw[hy1,uA,uA,hy3];simp only[ybm,fE];rw[hy2,uA,hz1,uA,hlen,uA,hz2,hf,uA];rfl
end
end Go.Am
namespace Go.Proofs
open Go Go.Am
variable [aC]
variable {t tf:Tr lA}
theorem zf0{op:Nat}{name:List Nat}{v:xB}{args:List qA}{a b c:zA}(ha:oA t 1 (gC v.f.n.limbs) a)(hb:oA t 1 (gC v.f.d.limbs) b)(hc:oA t 9 (args.map qA.d) c):RD t (qA.mk op name v args).d (iC (.mk op name v args) a b c):=by
 unfold qA.d iC;rw[nI,qA.ds_eq];refine⟨[[.int .u8 op],[.str name],[.int .u8 v.kind,.bool v.f.n.neg,a,.bool v.f.d.neg,b,.int .i64 v.i],[c]],rfl,?_⟩
 rw[fD];refine⟨_,_,rfl,rfl,?_⟩
 rw[fD];refine⟨_,_,rfl,rfl,?_⟩
 rw[fD];refine⟨_,_,rfl,zef ha hb,?_⟩
 rw[fD];exact⟨_,_,rfl,cI.2 ⟨_,rfl,hc⟩,lE.2 rfl⟩
theorem eT{b:Nat}:cB yA 118 0 (.ptr b 0)=some (.ptr b 0):=by kernel_rfl
theorem zgi{b:Nat}:cB yA 118 1 (.ptr b 0)=some (.ptr b 8):=by kernel_rfl
structure Rdr (tf:Tr lA) (rb:Nat) (names:List (List Nat)) (consts:List xB) (code:List XIns):Prop where
 box:∃nm a b c vn vc vw vt v1,pD tf rb none [.str nm,a,b,c,vn,vc,vw,vt,v1]/\oA tf 1 (names.map D.str) vn/\oA tf 6 (consts.map xB.d) vc/\oA tf 3 (code.map XIns.d) v1
 short:∀v∈consts,xB.short v
 sound:∀i x,code[i]?=some x->sE names.length consts.length x i code.length=true
 len:code.length<=1000
 glob:bI tf
 zero:∃c n,tf.get 0=some (.cells c n none)
section
variable {rb:Nat}{names:List (List Nat)}{consts:List xB}{code:List XIns}{L:List vD}{Q:bB}
theorem pD.mono{b:Nat}{lo:Option Nat}{cs:List zA}(h:pD tf b lo cs)(ht:dA tf t):pD t b lo cs:=by
 obtain⟨c,h1,h2⟩:=h;exact⟨c,ht _ _ h1,h2⟩
theorem Rdr.mono{tf':Tr lA}(h:Rdr tf rb names consts code)(ht:dA tf tf'):Rdr tf' rb names consts code:=by
 obtain⟨nm,a,b,c,vn,vc,vw,vt,v1,h1,h2,h3,h4⟩:=h.box
 obtain⟨cz,nz,hz⟩:=h.zero
 exact⟨⟨nm,a,b,c,vn,vc,vw,vt,v1,pD.mono h1 ht,h2.mono ht,h3.mono ht,h4.mono ht⟩,h.short,h.sound,h.len,h.glob.mono ht,⟨cz,nz,ht _ _ hz⟩⟩
theorem zsx(h:Rdr tf rb names consts code)(ho:Objs yA.base tf t L){i:Nat}{x:XIns}(hx:code[i]?=some x)(hj:¬ (x.op=9\/x.op=10\/x.op=11))(h12:x.op≠12)
  (hQ:∀tf' t' a b,dA tf tf'->Objs yA.base tf' t' L->oA tf' 1 (gC (xG names consts x []).v.f.n.limbs) a->oA tf' 1 (gC (xG names consts x []).v.f.d.limbs) b->Q (.agg (iC (xG names consts x []) a b .nilslice)) t') :
  Wc yA F 114 [.ptr rb 0,.agg [.int .u8 (x.op:Int),.int .i64 x.a,.int .i64 x.b]] t Q:=by
 obtain⟨nm,a,b,c,vn,vc,vw,vt,v1,h1,h2,h3,h4⟩:=h.box
 have h1t:=pD.mono h1 ho.tle
 have hs:=h.sound i x hx
 have ldc:jA yA 31 ⟨0,t⟩ (.ptr rb 5)=some vc:=h1t.load1 zxk rfl rfl
 have ldn:jA yA 30 ⟨0,t⟩ (.ptr rb 4)=some vn:=h1t.load1 z21 rfl rfl
 obtain⟨op,xa,xb⟩:=x
 have named:∀ {k:Nat},(0<=xa/\xa<(names.length:Int))->∃p o s,yB yA 30 vn (.int .i64 xa)=some (.ptr p o)/\jA yA 9 ⟨0,t⟩ (.ptr p o)=some (.str s)/\names.getD xa.toNat []=s:=by
  intro _ hr;obtain⟨j,rfl⟩:∃j:Nat,xa=(j:Int):=⟨xa.toNat,by omega⟩
  have hj:j<names.length:=by omega
  obtain⟨p,o,cs,g1,g2,_,_,g5⟩:=nF.at sl30 (fun _=>rfl) (h2.mono ho.tle) (i:=j) (d:=.str names[j]) (by simp[hj])
  rw[rN]at g5;subst g5;exact⟨p,o,names[j],g1,g2,by simp[List.getD,hj]⟩
 have zn:∀ {tf:Tr lA},oA tf 1 (gC jH.f.n.limbs) .nilslice:=fun {tf}=>yK
 refine w114 _ _ _ _ ?_
 simp only[t114,pA];rw[kI];by_cases e1:op=1
 ·subst e1
  unfold sE at hs;simp only[if_true,yac,decide_eq_true_eq]at hs;obtain⟨⟨hs1,hs2⟩,hs3⟩:=hs
  obtain⟨j,rfl⟩:∃j:Nat,xa=(j:Int):=⟨xa.toNat,by omega⟩
  have hjl:j<consts.length:=by omega
  have hcj:consts[j]?=some consts[j]:=yae hjl
  obtain⟨p,o,u,w,g1,g2,g3,g4,g5⟩:=zg2 (h3.mono ho.tle) hcj
  obtain⟨p',o',u',w',k1,k2,_,k4,k5⟩:=zg2 h3 hcj
  have e:p=p'/\o=o':=by rw[g1]at k1;cases k1;exact⟨rfl,rfl⟩
  obtain⟨rfl,rfl⟩:=e
  have e2:=sP (H:=⟨0,tf⟩) (HA:=⟨0,t⟩) (fun _ _ k=>ho.tle _ _ k) k2
  rw[g2]at e2;have e3:u=u'/\w=w':=by cases e2;exact⟨rfl,rfl⟩
  obtain⟨rfl,rfl⟩:=e3
  refine aA (by decide) ?_
  rw[xA,eT,xA,zcv,xA,ldc,xA,g1,xA,g2,xA,g3,xA];simp only[cellsOf,qF,aE,kE,bF,yaa,yab];rw[q102];refine zle ho (h.short _ (ybk hjl)) k4 k5 fun tf' t' a' b' m1 m2 m3 m4=>?_
  have hz:mG [(.int .u8 0),(.bool false),.nilslice,(.bool false),.nilslice,(.int .i64 0)] (.agg [.int .u8 consts[j].kind,.bool consts[j].f.n.neg,a',.bool consts[j].f.d.neg,b',.int .i64 consts[j].i])=some (cellsOf [.int .u8 consts[j].kind,.bool consts[j].f.n.neg,a',.bool consts[j].f.d.neg,b',.int .i64 consts[j].i]):=bO (zef m3 m4) (xB.zs _)
  rw[hz,xA];simp only[cellsOf,qF,aE,kE,bF,yaa,yab];have hone:iB zA.one [(.int .u8 1),(.str []),(.int .u8 consts[j].kind),(.bool consts[j].f.n.neg),a',(.bool consts[j].f.d.neg),b',(.int .i64 consts[j].i),.nilslice]=true:=by
   rw[iF];simp only[ybh,ybl,m3.one,m4.one];rfl
  refine aA (by trivial) (aA hone ?_)
  have es:xG names consts ⟨1,(j:Int),xb⟩ []=.mk 1 [] consts[j] []:=by
   unfold xG;simp[List.getD,hjl]
  rw[es]at hQ;exact hQ tf' t' a' b' m1 m2 m3 m4
 refine yC (oE (by omega)) ?_
 by_cases e3:op=3\/op=4\/op=5
 ·have hr:0<=xa/\xa<(names.length:Int):=by
   unfold sE at hs;rw[if_neg e1,if_pos e3]at hs;simp only[yac,decide_eq_true_eq]at hs;exact hs.1
  obtain⟨p,o,s,g1,g2,g3⟩:=named (k:=0) hr
  have es:xG names consts ⟨op,xa,xb⟩ []=.mk op s jH []:=by
   unfold xG;simp only[];rw[if_neg e1,if_pos (by omega),g3]
  rw[es]at hQ;have dC:=hQ tf t .nilslice .nilslice (dA.refl _) ho zn zn
  rcases e3 with e3 | e3 | e3<;>subst e3
  ·refine aA (by decide) ?_
   rw[xA,eT,xA,zcw,xA,ldn,xA,g1,xA,g2,xA,sI,xA];exact aA (by trivial) (aA (by trivial) dC)
  ·refine yC (by decide) (aA (by decide) ?_)
   rw[xA,eT,xA,zcw,xA,ldn,xA,g1,xA,g2,xA,sI,xA];exact aA (by trivial) (aA (by trivial) dC)
  ·refine yC (by decide) (yC (by decide) (aA (by decide) ?_))
   rw[xA,eT,xA,zcw,xA,ldn,xA,g1,xA,g2,xA,sI,xA];exact aA (by trivial) (aA (by trivial) dC)
 refine yC (oE (by omega)) (yC (oE (by omega)) (yC (oE (by omega)) ?_))
 by_cases e6:op=6
 ·subst e6
  have hr:0<=xa/\xa<(names.length:Int):=by
   unfold sE at hs;rw[if_neg e1,if_neg (by show ¬ ((6:Nat)=3\/(6:Nat)=4\/(6:Nat)=5);decide),if_pos rfl]at hs
   simp only[yac,decide_eq_true_eq]at hs;exact hs.1
  obtain⟨p,o,s,g1,g2,g3⟩:=named (k:=0) hr
  have es:xG names consts ⟨6,xa,xb⟩ []=.mk 6 s jH []:=by
   unfold xG;simp only[];rw[if_neg e1,if_pos (by decide),g3]
  rw[es]at hQ;refine aA (by decide) ?_
  rw[xA,eT,xA,zcw,xA,ldn,xA,g1,xA,g2,xA,sI,xA];exact aA (by trivial) (aA (by trivial) (hQ tf t .nilslice .nilslice (dA.refl _) ho zn zn))
 refine yC (oE (by omega)) ?_
 by_cases e8:op=8
 ·subst e8
  have hr:0<=xa/\xa<(names.length:Int):=by
   unfold sE at hs;rw[if_neg e1,if_neg (by show ¬ ((8:Nat)=3\/(8:Nat)=4\/(8:Nat)=5);decide),if_neg (by show ¬ ((8:Nat)=6);decide),if_pos rfl]at hs
   simp only[yac,decide_eq_true_eq]at hs;exact hs.1
  obtain⟨p,o,s,g1,g2,g3⟩:=named (k:=0) hr
  have es:xG names consts ⟨8,xa,xb⟩ []=.mk (xb%256).toNat s jH []:=by
   unfold xG;simp only[];rw[if_neg e1,if_neg (by omega),if_pos trivial,g3]
  rw[es]at hQ;refine aA (by decide) ?_
  rw[xA,eT,xA,zcw,xA,ldn,xA,g1,xA,g2,xA,sI,xA,zay];exact aA (by trivial) (aA (by trivial) (hQ tf t .nilslice .nilslice (dA.refl _) ho zn zn))
 refine yC (oE (by omega)) ?_
 by_cases e7:op=7
 ·subst e7
  have es:xG names consts ⟨7,xa,xb⟩ []=.mk (xa%256).toNat [] ⟨0,z2r,xb⟩ []:=by
   unfold xG;simp only[];rw[if_neg e1,if_neg (by omega),if_neg e8,if_pos trivial]
  rw[es]at hQ;rw[zay];exact aA (by decide) (aA (by trivial) (aA (by trivial) (aA (by trivial) (hQ tf t .nilslice .nilslice (dA.refl _) ho yK yK))))
 have es:xG names consts ⟨op,xa,xb⟩ []=.mk 2 [] jH []:=by
  unfold xG;simp only[];rw[if_neg e1,if_neg (by omega),if_neg e8,if_neg e7]
 rw[es]at hQ;exact yC (oE (by omega)) (aA (by trivial) (aA (by trivial) (hQ tf t .nilslice .nilslice (dA.refl _) ho zn zn)))
end
end Go.Proofs
namespace Go.Proofs
open Go Go.Am
variable [aC]
variable {t tf:Tr lA}
theorem el48:aI yA 48 50 9:=⟨⟨_,ty48,rfl,rfl⟩,⟨_,zxj,rfl,rfl,by decide,by decide⟩⟩
theorem zud{n:Nat}{x:qA}{a b c:zA}(hn:t.get n=none):∃t',eD yA 48 1 [(0,.agg (iC x a b c))] ⟨n,t⟩=some (.slice n 0 1 1,⟨n+1,t'⟩)/\oG t' 9 (.slice n 0 1 1) [iC x a b c]/\dA t t'/\cC n t t':=
 nO (C:=yA) (T:=48) (el:=50) (sz:=9) (n:=1) (cl:=[iC x a b c]) ty48 rfl zxj rfl rfl (by decide) rfl (fun k cs hk=>by
  match k,hk with
  | 0,hk=>simp at hk;subst hk;rfl
  | k+1,hk=>simp at hk) rfl hn
theorem zuc{n:Nat}{x y:qA}{a b c a' b' c':zA}(hn:t.get n=none):∃t',eD yA 48 2 [(0,.agg (iC x a b c)),(1,.agg (iC y a' b' c'))] ⟨n,t⟩=some (.slice n 0 2 2,⟨n+1,t'⟩)/\oG t' 9 (.slice n 0 2 2) [iC x a b c,iC y a' b' c']/\dA t t'/\cC n t t':=
 nO (C:=yA) (T:=48) (el:=50) (sz:=9) (n:=2) (cl:=[iC x a b c,iC y a' b' c']) ty48 rfl zxj rfl rfl (by decide) rfl (fun k cs hk=>by
  match k,hk with
  | 0,hk=>simp at hk;subst hk;rfl
  | 1,hk=>simp at hk;subst hk;rfl
  | k+2,hk=>simp at hk) rfl hn
theorem zub{n:Nat}{x y z:qA}{a b c a' b' c' a'' b'' c'':zA}(hn:t.get n=none):∃t',eD yA 48 3 [(0,.agg (iC x a b c)),(1,.agg (iC y a' b' c')),(2,.agg (iC z a'' b'' c''))] ⟨n,t⟩=some (.slice n 0 3 3,⟨n+1,t'⟩)/\oG t' 9 (.slice n 0 3 3) [iC x a b c,iC y a' b' c',iC z a'' b'' c'']/\dA t t'/\cC n t t':=
 nO (C:=yA) (T:=48) (el:=50) (sz:=9) (n:=3) (cl:=[iC x a b c,iC y a' b' c',iC z a'' b'' c'']) ty48 rfl zxj rfl rfl (by decide) rfl (fun k cs hk=>by
  match k,hk with
  | 0,hk=>simp at hk;subst hk;rfl
  | 1,hk=>simp at hk;subst hk;rfl
  | 2,hk=>simp at hk;subst hk;rfl
  | k+3,hk=>simp at hk) rfl hn
theorem zim{L:List vD}{n k:Nat}{t':Tr lA}{l:List qA}{cl:List (List zA)}(ho:Objs yA.base tf t L)(hn:t.get n=none)(he:oG t' 9 (.slice n 0 k k) cl)(hof:cC n t t')(hd:fC tf (l.map qA.d) cl) :
  ∃tf',dA tf tf'/\Objs yA.base tf' t' L/\oA tf' 9 (l.map qA.d) (.slice n 0 k k):=by
 have h1:=ho.junk hn hof
 obtain⟨y,hy⟩:∃y,t'.get n=some y:=by
  rcases he with⟨e,_⟩ | ⟨b,off,cap,e,_,⟨c,m,lo,h2,_⟩,_⟩
  ·cases e
  ·have eb:n=b:=by injection e
   subst eb;exact⟨_,h2⟩
 obtain⟨k1,k2⟩:=h1.froze (ho.fresh hn) hy (ho.tfn hn)
 exact⟨_,k2,k1,_,zk9 he hy,fC.mono k2 _ _ hd⟩
section
variable {rb:Nat}{names:List (List Nat)}{consts:List xB}{code:List XIns}{L:List vD}{Q:bB}
def zw4(L:List vD)(tf:Tr lA)(r:Option qA)(Q:bB):Prop:=
 (∀x tf' t' cs,r=some x->dA tf tf'->Objs yA.base tf' t' L->RD tf' x.d cs->Q (.tup [.agg cs,.bool true]) t') ∧
 (r=none->∀tf' t',dA tf tf'->Objs yA.base tf' t' L->Q (.tup [.agg iG,.bool false]) t')
theorem zw4.mono{r:Option qA}{tf':Tr lA}(h:zw4 L tf r Q)(ht:dA tf tf'):zw4 L tf' r Q:=
 ⟨fun x a b cs e k1 k2 k3=>h.1 x a b cs e (ht.trans k1) k2 k3,fun e a b k1 k2=>h.2 e a b (ht.trans k1) k2⟩
def z6a(L:List vD)(tf:Tr lA)(r:Option (qA × Nat))(Q:bB):Prop:=
 (∀x (n:Nat) tf' t' cs,r=some (x,n)->dA tf tf'->Objs yA.base tf' t' L->RD tf' x.d cs->Q (.tup [.agg cs,.int .i64 (n:Int),.bool true]) t') ∧
 (r=none->∀x (n:Int) tf' t' cs,dA tf tf'->Objs yA.base tf' t' L->RD tf' (qA.d x) cs->Q (.tup [.agg cs,.int .i64 n,.bool false]) t')
def zlx(rb:Nat)(names:List (List Nat))(consts:List xB)(code:List XIns)(f:Nat):Prop:=
 ∀(L:List vD) (tf t:Tr lA) (i to:Nat) (Q:bB),Rdr tf rb names consts code->Objs yA.base tf t L->to<=code.length->to-i<f->zw4 L tf (oneX (fM names consts code zK f i to [])) Q->Wc yA F 59 [.ptr rb 0,.int .i64 (i:Int),.int .i64 (to:Int)] t Q
theorem qL{x:qA}{cs:List zA}(h:RD t x.d cs):∃a b c,cs=iC x a b c/\mG iG (.agg cs)=some (cellsOf cs)/\iB zA.one cs=true:=zp4 h
theorem z2l{f:Nat}(hP:zlx rb names consts code f)(hr:Rdr tf rb names consts code)(ho:Objs yA.base tf t L){x0:qA}{a0 b0 c0:zA}(hx0:RD tf x0.d (iC x0 a0 b0 c0)){at_ T to opn:Nat}{E tr:Int}{last:XIns}(hT:code[T]?=some last)(hT2:at_+2<=T)(hTt:T<to)(hto:to<=code.length)(hf:to-at_<f+1)(htr:tr=0\/tr=1)
  (hE0:0<=E)
  (hQ:z6a L tf (match oneX (fM names consts code zK f (at_+1) (T-2) [])with
   | none=>none
   | some y=>if E=(T:Int)+1/\last.op=1/\zK (consts.getD last.a.toNat jH) (cF tr)=true then some (.mk opn [] jH [x0,y],E.toNat)else none) Q) :
  jp 113 29 [.ptr rb 0,.int .i64 (at_:Int),.int .i64 (T:Int),.int .i64 E,.int .u8 (opn:Int),.int .u8 x0.op,.str x0.name,.int .u8 x0.v.kind,.bool x0.v.f.n.neg,a0,.bool x0.v.f.d.neg,b0,.int .i64 x0.v.i,c0,
   .int .u8 0,.str [],.int .u8 0,.bool false,.nilslice,.bool false,.nilslice,.int .i64 0,.nilslice,.int .u8 1,.bool false,.nilslice,.bool false,.nilslice,.int .i64 tr] t Q:=by
 obtain⟨nm,a,b,c,vn,vc,vw,vt,v1,h1,h2,h3,h4⟩:=hr.box
 have hTl:T<code.length:=(yad.1 hT).1
 have hlen:=hr.len
 have h1t:=pD.mono h1 ho.tle
 have ld1:jA yA 37 ⟨0,t⟩ (.ptr rb 8)=some v1:=h1t.load1 zl4 rfl rfl
 obtain⟨p,off,g1,g2,_⟩:=zcn (h4.mono ho.tle) hT
 have hz:mG [(.int .u8 0),(.int .i64 0),(.int .i64 0)] (.agg last.cells)=some (cellsOf last.cells):=cK rfl
 refine z4s _ _ _ _ _ _ _ _ _ _ _ _ _ _ _ _ _ _ _ _ _ _ _ _ _ _ _ _ _ ?_
 simp only[zsi,pA];rw[kI,xA,zgi,xA,ld1,xA,g1,xA,g2,xA,hz,xA];simp only[XIns.cells,cellsOf,qF,yaa,yab];refine aA (by trivial) ?_
 rw[zC (n:=(at_:Int)+1) (by omega) (by omega),zC (n:=(T:Int)-2) (by omega) (by omega),show(at_:Int)+1=((at_+1:Nat):Int) by omega,show(T:Int)-2=((T-2:Nat):Int) by omega,q59]
 have dC:∀ {tf1 t1:Tr lA} {y:qA} {a1 b1 c1:zA} {ok:Bool},dA tf tf1->Objs yA.base tf1 t1 L->RD tf1 y.d (iC y a1 b1 c1) →
   (∀tf' t' v,dA tf tf'->Objs yA.base tf' t' L->RD tf' (qA.mk opn [] jH [x0,y]).d [.int .u8 opn,.str [],.int .u8 0,.bool false,.nilslice,.bool false,.nilslice,.int .i64 0,v]->Q (.tup [.agg [.int .u8 opn,.str [],.int .u8 0,.bool false,.nilslice,.bool false,.nilslice,.int .i64 0,v],.int .i64 E,.bool ok]) t') →
   ∀n,t1.get n=none->yA.base<=n->uH (eD yA 48 2 [(0,.agg [.int .u8 x0.op,.str x0.name,.int .u8 x0.v.kind,.bool x0.v.f.n.neg,a0,.bool x0.v.f.d.neg,b0,.int .i64 x0.v.i,c0]),(1,.agg [.int .u8 y.op,.str y.name,.int .u8 y.v.kind,.bool y.v.f.n.neg,a1,.bool y.v.f.d.neg,b1,.int .i64 y.v.i,c1])] ⟨n,t1⟩) fun p=>if iB zA.one [.int .u8 opn,p.1]=true then(if iB zA.one [.int .u8 opn,.str [],.int .u8 0,.bool false,.nilslice,.bool false,.nilslice,.int .i64 0,p.1]=true then Q (.tup [.agg [.int .u8 opn,.str [],.int .u8 0,.bool false,.nilslice,.bool false,.nilslice,.int .i64 0,p.1],.int .i64 E,.bool ok]) p.2.t else False)else False:=by
  intro tf1 t1 y a1 b1 c1 ok k1 k2 k3 kQ n hn hnb;obtain⟨t2,m1,m2,m3,m4⟩:=zuc (x:=x0) (y:=y) (a:=a0) (b:=b0) (c:=c0) (a':=a1) (b':=b1) (c':=c1) hn
  unfold iC at m1;rw[m1,xA];refine aA rfl (aA rfl ?_)
  obtain⟨tf2,w1,w2,w3⟩:=zim (l:=[x0,y]) k2 hn m2 m4 (by
   rw[ybn,ybn,List.map_nil,fD];exact⟨_,_,rfl,RD.mono k1 _ _ hx0,fD.2 ⟨_,_,rfl,k3,lE.2 rfl⟩⟩)
  exact kQ tf2 t2 _ (k1.trans w1) w2 (zf0 (v:=jH) yK yK w3)
 refine hP L tf t (at_+1) (T-2) _ hr ho (by omega) (by omega) ⟨fun y tf1 t1 cs e k1 k2 k3=>?_,fun e tf1 t1 k1 k2=>?_⟩
 ·rw[e]at hQ
  obtain⟨a1,b1,c1,rfl,hz1,hone1⟩:=qL k3
  simp only[wC,zA.asTup,uA,dD,yaa,yab,xA,qD];unfold iG at hz1;rw[hz1,xA];simp only[iC,cellsOf,qF,aE,kE,bF,yaa,yab];refine aA hone1 (aA (by trivial) ?_)
  have bad:(¬ (E=(T:Int)+1/\last.op=1/\zK (consts.getD last.a.toNat jH) (cF tr)=true))->∀tf' t' v,dA tf tf'->Objs yA.base tf' t' L->RD tf' (qA.mk opn [] jH [x0,y]).d [.int .u8 opn,.str [],.int .u8 0,.bool false,.nilslice,.bool false,.nilslice,.int .i64 0,v]->Q (.tup [.agg [.int .u8 opn,.str [],.int .u8 0,.bool false,.nilslice,.bool false,.nilslice,.int .i64 0,v],.int .i64 E,.bool false]) t':=by
   intro hb tf' t' v w1 w2 w3;exact hQ.2 (by simp only[];rw[if_neg hb]) _ _ tf' t' _ w1 w2 w3
  rw[zC (n:=(T:Int)+1) (by omega) (by omega)]
  by_cases hEE:E=(T:Int)+1
  ·refine aA (nE.2 hEE) ?_
   by_cases hl1:last.op=1
   ·refine aA (nE.2 (by omega)) ?_
    have hs:=hr.sound T last hT
    unfold sE at hs;rw[if_pos hl1]at hs;simp only[yac,decide_eq_true_eq]at hs;obtain⟨j,hj⟩:∃j:Nat,last.a=(j:Int):=⟨last.a.toNat,by omega⟩
    have hjl:j<consts.length:=by omega
    have hcj:consts[j]?=some consts[j]:=yae hjl
    have ld5:jA yA 31 ⟨0,t1⟩ (.ptr rb 5)=some vc:=(pD.mono h1 (k1.trans k2.tle)).load1 zxk rfl rfl
    obtain⟨q,o,u,w,d1,d2,d3,d4,d5⟩:=zg2 (h3.mono (k1.trans k2.tle)) hcj
    have hz2:oA t1 1 (gC (cF tr).f.n.limbs) .nilslice:=yK
    have hok:lF.ok consts[j].f:=by
     have:=hr.short _ (ybk hjl)
     unfold xB.short at this;unfold lF.ok lD;omega
    have hsv:=zmq (b:=cF tr) d4 d5 hz2 hz2 hok
    rw[hj]at hQ bad ⊢
    rw[eT,xA,zcv,xA,ld5,xA,d1,xA,d2,xA,d3,xA];simp only[cellsOf,qF,aE,kE,bF,yaa,yab];have hsv':zD yA F 24 [.agg [.int .u8 consts[j].kind,.bool consts[j].f.n.neg,u,.bool consts[j].f.d.neg,w,.int .i64 consts[j].i],.agg [.int .u8 1,.bool false,.nilslice,.bool false,.nilslice,.int .i64 tr]] t1=some (.bool (zK consts[j] (cF tr))):=hsv
    rw[q24,hsv',xA,qD,xA];have hget:consts.getD ((j:Nat):Int).toNat jH=consts[j]:=by simp[List.getD,hjl]
    rw[hget]at hQ bad;refine dC k1 k2 k3 fun tf' t' v w1 w2 w3=>?_
    cases hsame:zK consts[j] (cF tr)with
    | true=>
     have:=hQ.1 (.mk opn [] jH [x0,y]) E.toNat tf' t' _ (by simp only[];rw[if_pos ⟨hEE,hl1,hsame⟩]) w1 w2 w3
     rw[show((E.toNat:Nat):Int)=E by omega]at this
     exact this
    | false=>exact bad (fun h=>by rw[hsame]at h;cases h.2.2) tf' t' v w1 w2 w3
   ·refine yC (oE (by omega)) ?_
    exact dC k1 k2 k3 (bad fun h=>hl1 h.2.1)
  ·refine yC (oE hEE) ?_
   exact dC k1 k2 k3 (bad fun h=>hEE h.1)
 ·rw[e]at hQ
  simp only[wC,zA.asTup,uA,dD,yaa,yab,xA,qD];have k3:RD tf1 qI.d (iC qI .nilslice .nilslice .nilslice):=fQ
  obtain⟨a1,b1,c1,e1,hz1,hone1⟩:=qL k3
  have hz1:mG [(.int .u8 0),(.str []),(.int .u8 0),(.bool false),.nilslice,(.bool false),.nilslice,(.int .i64 0),.nilslice] (.agg iG)=some (cellsOf iG):=hz1
  rw[hz1,xA];unfold iG;simp only[cellsOf,qF,aE,kE,bF,yaa,yab];refine aA rfl (yC (by simp) ?_)
  exact dC (y:=qI) (a1:=.nilslice) (b1:=.nilslice) (c1:=.nilslice) k1 k2 k3 fun tf' t' v w1 w2 w3=>hQ.2 rfl _ _ tf' t' _ w1 w2 w3
end
end Go.Proofs
namespace Go.Proofs
open Go Go.Am
variable [aC]
variable {t tf:Tr lA}
section
variable {rb:Nat}{names:List (List Nat)}{consts:List xB}{code:List XIns}{L:List vD}{Q:bB}
theorem zwh{f:Nat}(hP:zlx rb names consts code f)(hr:Rdr tf rb names consts code)(ho:Objs yA.base tf t L){x0:qA}{cs0:List zA}(hx0:RD tf x0.d cs0){at_ to:Nat}{x:XIns}(hx:code[at_]?=some x)(hj:x.op=9\/x.op=10\/x.op=11)(hlt:at_<to)(hto:to<=code.length)(hf:to-at_<f+1)
  (hQ:z6a L tf (zc6 consts code zK (fun a b=>oneX (fM names consts code zK f a b [])) x0 at_ to) Q) :
  Wc yA F 113 [.ptr rb 0,.agg cs0,.int .i64 (at_:Int),.int .i64 (to:Int)] t Q:=by
 obtain⟨nm,a,b,c,vn,vc,vw,vt,v1,h1,h2,h3,h4⟩:=hr.box
 obtain⟨a0,b0,c0,rfl⟩:∃a b c,cs0=iC x0 a b c:=by obtain⟨a,b,c,h,_⟩:=qL hx0;exact⟨a,b,c,h⟩
 have hlen:=hr.len
 have h1t:=pD.mono h1 ho.tle
 have h4t:=h4.mono ho.tle
 have ld1:jA yA 37 ⟨0,t⟩ (.ptr rb 8)=some v1:=h1t.load1 zl4 rfl rfl
 obtain⟨p,off,g1,g2,_⟩:=zcn h4t hx
 have hz:mG [(.int .u8 0),(.int .i64 0),(.int .i64 0)] (.agg x.cells)=some (cellsOf x.cells):=cK rfl
 have hs:=hr.sound at_ x hx
 obtain⟨hs1,hs2⟩:=sX hs hj
 obtain⟨T,hT⟩:∃T:Nat,x.a=(T:Int):=⟨x.a.toNat,by omega⟩
 have hTn:x.a.toNat=T:=by omega
 unfold zc6 at hQ;rw[hx]at hQ;simp only[]at hQ;refine w113 _ _ _ _ _ _ _ _ _ _ _ _ ?_
 simp only[t113,pA];rw[kI,xA,zgi,xA,ld1,xA,g1,xA,g2,xA,hz,xA];simp only[XIns.cells,cellsOf,qF,yaa,yab];refine aA (by trivial) ?_
 have none':∀ {R:Option (qA × Nat)},R=none->z6a L tf R Q->Q (.tup [.agg [(.int .u8 0),(.str []),(.int .u8 0),(.bool false),.nilslice,(.bool false),.nilslice,(.int .i64 0),.nilslice],.int .i64 0,.bool false]) t:=fun e h=>h.2 e qI 0 tf t iG (dA.refl _) ho fQ
 by_cases h9:x.op=9
 ·rw[if_pos h9]at hQ
  exact aA (nE.2 (by omega)) (aA (by trivial) (aA (by trivial) (none' rfl hQ)))
 rw[if_neg h9]at hQ;refine yC (oE (by omega)) ?_
 rw[zC (n:=(at_:Int)+2) (by omega) (by omega)]
 by_cases ha:x.a<(at_:Int)+2
 ·rw[if_pos ha]at hQ
  exact aA (jB.2 ha) (aA (by trivial) (aA (by trivial) (none' rfl hQ)))
 rw[if_neg ha]at hQ;refine yC (fun e=>ha (jB.1 e)) ?_
 by_cases hb:(to:Int)<=x.a
 ·rw[if_pos hb]at hQ
  exact aA (qG.2 hb) (aA (by trivial) (aA (by trivial) (none' rfl hQ)))
 rw[if_neg hb]at hQ;refine yC (fun e=>hb (qG.1 e)) ?_
 have hT1:T-1<code.length:=by omega
 have hT2:T-2<code.length:=by omega
 have hT0:T<code.length:=by omega
 have e1:code[T-1]?=some code[T-1]:=yae hT1
 have e2:code[T-2]?=some code[T-2]:=yae hT2
 have e0:code[T]?=some code[T]:=yae hT0
 rw[hTn,e1,e2,e0]at hQ;simp only[]at hQ;obtain⟨q1,o1,r1,_,r3,r4,_,r6,r7,_⟩:=zcn h4t e1
 obtain⟨q2,o2,u1,_,u3,_,_,u6,_,_⟩:=zcn h4t e2
 rw[hT]at hQ ⊢
 rw[zC (n:=(T:Int)-1) (by omega) (by omega),show(T:Int)-1=((T-1:Nat):Int) by omega,zC (n:=(T:Int)-2) (by omega) (by omega),show(T:Int)-2=((T-2:Nat):Int) by omega]
 simp only[kI,zgi,ld1,r1,r3,r6,r4,r7,u1,u3,u6,xA,zB,if_true];by_cases hj9:code[T-1].op=9
 case neg=>
  rw[if_pos hj9]at hQ;exact aA (vJ.2 (by omega)) (none' rfl hQ)
 rw[if_neg (by simp[hj9])]at hQ
 refine yC (fun e=>absurd (show((code[T-1].op:Nat):Int)=9 by omega) (vJ.1 e)) ?_
 by_cases hE:(to:Int)<code[T-1].a
 ·rw[if_pos hE]at hQ
  exact aA (jB.2 hE) (none' rfl hQ)
 rw[if_neg hE]at hQ;refine yC (fun e=>hE (jB.1 e)) ?_
 have hsE:=sX (hr.sound (T-1) _ e1) (.inl hj9)
 obtain⟨E,hEn⟩:∃E:Nat,code[T-1].a=(E:Int):=⟨code[T-1].a.toNat,by omega⟩
 have hEt:code[T-1].a.toNat=E:=by omega
 rw[hEt,hEn]at hQ;rw[hEn];by_cases h12:code[T-2].op=12
 ·rw[if_pos h12]at hQ
  refine aA (nE.2 (by omega)) ?_
  by_cases h11:x.op=11
  ·simp only[if_pos h11]at hQ
   refine aA (nE.2 (by omega)) ?_
   refine z2l hP hr ho hx0 (at_:=at_) (T:=T) (to:=to) (opn:=16) (E:=(E:Int)) (tr:=1) e0 (by omega) (by omega) hto hf (.inr rfl) (by omega) ?_
   rw[show((E:Nat):Int).toNat=E by omega]
   exact hQ
  ·simp only[if_neg h11]at hQ
   refine yC (oE (by omega)) ?_
   refine z2l hP hr ho hx0 (at_:=at_) (T:=T) (to:=to) (opn:=15) (E:=(E:Int)) (tr:=0) e0 (by omega) (by omega) hto hf (.inl rfl) (by omega) ?_
   rw[show((E:Nat):Int).toNat=E by omega]
   exact hQ
 rw[if_neg h12]at hQ;refine yC (oE (by omega)) ?_
 rw[zC (n:=(at_:Int)+1) (by omega) (by omega),show(at_:Int)+1=((at_+1:Nat):Int) by omega,q59]
 refine hP L tf t (at_+1) (T-1) _ hr ho (by omega) (by omega) ⟨fun y tf1 t1 cs e k1 k2 k3=>?_,fun e tf1 t1 k1 k2=>?_⟩
 ·rw[e]at hQ
  simp only[]at hQ;obtain⟨a1,b1,c1,rfl,hz1,hone1⟩:=qL k3
  simp only[wC,zA.asTup,uA,dD,yaa,yab,xA,qD];unfold iG at hz1;rw[hz1,xA];simp only[iC,cellsOf,qF,aE,kE,bF,yaa,yab];refine aA hone1 (yC (by simp) ?_)
  by_cases h10:x.op=10
  case neg=>
   rw[if_pos h10]at hQ;exact aA (vJ.2 (by omega)) (hQ.2 rfl qI 0 tf1 t1 iG k1 k2 fQ)
  rw[if_neg (by simp[h10])]at hQ
  refine yC (fun e=>absurd (show(x.op:Int)=10 by omega) (vJ.1 e)) ?_
  rw[q59];have dC:∀ {tf2 t2:Tr lA} {z:qA} {a2 b2 c2:zA} {ok:Bool},dA tf1 tf2->Objs yA.base tf2 t2 L->RD tf2 z.d (iC z a2 b2 c2) →
    (∀tf' t' v,dA tf tf'->Objs yA.base tf' t' L->RD tf' (qA.mk 18 [] jH [x0,y,z]).d [.int .u8 18,.str [],.int .u8 0,.bool false,.nilslice,.bool false,.nilslice,.int .i64 0,v]->Q (.tup [.agg [.int .u8 18,.str [],.int .u8 0,.bool false,.nilslice,.bool false,.nilslice,.int .i64 0,v],.int .i64 (E:Int),.bool ok]) t') →
    ∀n,t2.get n=none->yA.base<=n->uH (eD yA 48 3 [(0,.agg [.int .u8 x0.op,.str x0.name,.int .u8 x0.v.kind,.bool x0.v.f.n.neg,a0,.bool x0.v.f.d.neg,b0,.int .i64 x0.v.i,c0]),(1,.agg [.int .u8 y.op,.str y.name,.int .u8 y.v.kind,.bool y.v.f.n.neg,a1,.bool y.v.f.d.neg,b1,.int .i64 y.v.i,c1]),(2,.agg [.int .u8 z.op,.str z.name,.int .u8 z.v.kind,.bool z.v.f.n.neg,a2,.bool z.v.f.d.neg,b2,.int .i64 z.v.i,c2])] ⟨n,t2⟩) fun p=>if iB zA.one [.int .u8 18,p.1]=true then(if iB zA.one [.int .u8 18,.str [],.int .u8 0,.bool false,.nilslice,.bool false,.nilslice,.int .i64 0,p.1]=true then Q (.tup [.agg [.int .u8 18,.str [],.int .u8 0,.bool false,.nilslice,.bool false,.nilslice,.int .i64 0,p.1],.int .i64 (E:Int),.bool ok]) p.2.t else False)else False:=by
   intro tf2 t2 z a2 b2 c2 ok w1 w2 w3 kQ n hn hnb;obtain⟨t3,m1,m2,m3,m4⟩:=zub (x:=x0) (y:=y) (z:=z) (a:=a0) (b:=b0) (c:=c0) (a':=a1) (b':=b1) (c':=c1) (a'':=a2) (b'':=b2) (c'':=c2) hn
   unfold iC at m1;rw[m1,xA];refine aA rfl (aA rfl ?_)
   obtain⟨tf3,d1,d2,d3⟩:=zim (l:=[x0,y,z]) w2 hn m2 m4 (by
    rw[ybn,ybn,ybn,List.map_nil,fD];exact⟨_,_,rfl,RD.mono (k1.trans w1) _ _ hx0,fD.2 ⟨_,_,rfl,RD.mono w1 _ _ k3,fD.2 ⟨_,_,rfl,w3,lE.2 rfl⟩⟩⟩)
   exact kQ tf3 t3 _ (k1.trans (w1.trans d1)) d2 (zf0 (v:=jH) yK yK d3)
  refine hP L tf1 t1 T E _ (hr.mono k1) k2 (by omega) (by omega) ⟨fun z tf2 t2 cs e w1 w2 w3=>?_,fun e tf2 t2 w1 w2=>?_⟩
  ·rw[e]at hQ
   simp only[]at hQ;obtain⟨a2,b2,c2,rfl,hz2,hone2⟩:=qL w3
   simp only[wC,zA.asTup,uA,dD,yaa,yab,xA,qD];unfold iG at hz2;rw[hz2,xA];simp only[iC,cellsOf,qF,aE,kE,bF,yaa,yab];refine aA hone2 ?_
   exact dC w1 w2 w3 fun tf' t' v d1 d2 d3=>hQ.1 _ E tf' t' _ rfl d1 d2 d3
  ·rw[e]at hQ
   simp only[]at hQ;simp only[wC,zA.asTup,uA,dD,yaa,yab,xA,qD];have k3':RD tf2 qI.d (iC qI .nilslice .nilslice .nilslice):=fQ
   obtain⟨a2,b2,c2,e1,hz2,hone2⟩:=qL k3'
   have hz2:mG [(.int .u8 0),(.str []),(.int .u8 0),(.bool false),.nilslice,(.bool false),.nilslice,(.int .i64 0),.nilslice] (.agg iG)=some (cellsOf iG):=hz2
   rw[hz2,xA];unfold iG;simp only[cellsOf,qF,aE,kE,bF,yaa,yab];refine aA rfl ?_
   exact dC (z:=qI) (a2:=.nilslice) (b2:=.nilslice) (c2:=.nilslice) w1 w2 k3' fun tf' t' v d1 d2 d3=>hQ.2 rfl _ _ tf' t' _ d1 d2 d3
 ·rw[e]at hQ
  simp only[]at hQ;simp only[wC,zA.asTup,uA,dD,yaa,yab,xA,qD];have k3':RD tf1 qI.d (iC qI .nilslice .nilslice .nilslice):=fQ
  obtain⟨a2,b2,c2,e1,hz2,hone2⟩:=qL k3'
  have hz2:mG [(.int .u8 0),(.str []),(.int .u8 0),(.bool false),.nilslice,(.bool false),.nilslice,(.int .i64 0),.nilslice] (.agg iG)=some (cellsOf iG):=hz2
  rw[hz2,xA];unfold iG;simp only[cellsOf,qF,aE,kE,bF,yaa,yab];exact aA rfl (aA (by trivial) (hQ.2 rfl qI 0 tf1 t1 iG k1 k2 fQ))
end
end Go.Proofs
namespace Go.Proofs
open Go Go.Am
variable [aC]
variable {t tf:Tr lA}
section
variable {rb:Nat}{names:List (List Nat)}{consts:List xB}{code:List XIns}
def z0t(rb:Nat)(names:List (List Nat))(consts:List xB)(code:List XIns)(f:Nat):Prop:=
 ∀(L:List vD) (tf t:Tr lA) (i to:Nat) (st:List qA) (v8:zA) (Q:bB),Rdr tf rb names consts code->Objs yA.base tf t (pI yA.base 9 (st.map qA.d) v8::L)->to<=code.length->to-i<f->st.length<=i->i<=code.length →
  zw4 L tf (oneX (fM names consts code zK f i to st)) Q →
  jp 59 2 [.ptr rb 0,.int .i64 (to:Int),v8,.int .i64 (i:Int),.int .u8 0,.str [],.int .u8 0,.bool false,.nilslice,.bool false,.nilslice,.int .i64 0,.nilslice] t Q
theorem zas{f:Nat}(h:z0t rb names consts code f):zlx rb names consts code f:=by
 intro L tf t i to Q hr ho hto hf hQ;refine w59 _ _ _ ?_
 simp only[t59,pA];by_cases hi:i<=code.length
 ·exact h L tf t i to [] .nilslice Q hr (Objs.add (A:=[]) (B:=L) (o':=pI yA.base 9 ([]:List D) .nilslice) ho (fun _ _=>rfl) (fun k hk=>by simp[pI,mD]at hk) (.inl ⟨rfl,rfl⟩) (by simp[pI,mD]) ho.tle) hto hf (Nat.zero_le _) hi hQ
 ·refine j59_2 _ _ _ _ _ _ _ _ _ _ _ _ _ ?_
  simp only[z28,pA];have hr0:fM names consts code zK f i to []=some []:=by
   cases f with
   | zero=>omega
   | succ f=>unfold fM;rw[if_pos (by omega)]
  rw[hr0]at hQ;refine yC (fun e=>absurd (jB.1 e) (by omega)) ?_
  rw[show rB .nilslice=some (.int .i64 0) from rfl,xA,zB,xA]
  exact aA (by decide) (aA (by trivial) (aA (by trivial) (hQ.2 rfl tf t (dA.refl _) ho)))
theorem zll{f:Nat->Nat->Option qA}{x0 y:qA}{at_ to n:Nat}(hs:∀i x,code[i]?=some x->sE names.length consts.length x i code.length=true)(h:zc6 consts code zK f x0 at_ to=some (y,n)):at_<n/\n<=to:=by
 unfold zc6 at h;split at h
 ·cases h
 ·rename_i x hx
  split at h
  ·cases h
  ·split at h
   ·cases h
   ·split at h
    ·cases h
    ·rename_i h9 ha hb
     split at h
     ·rename_i j k last e1 e2 e3
      split at h
      ·cases h
      ·rename_i hj9
       have hj9:j.op=9:=by simpa using hj9
       have hsj:=sX (hs _ _ e1) (.inl hj9)
       split at h
       ·cases h
       ·rename_i hE
        have dC:n=j.a.toNat->at_<n/\n<=to:=fun e=>by omega
        split at h
        ·split at h
         ·cases h
         ·rw[Option.ite_none_right_eq_some]at h
          obtain⟨_,h⟩:=h
          injection h with h;injection h with _ h2;exact dC h2.symm
        ·split at h
         ·cases h
         ·split at h
          ·cases h
          ·split at h
           ·cases h
           ·injection h with h;injection h with _ h2;exact dC h2.symm
     ·cases h
theorem fY{x:XIns}{args:List qA}:xG names consts x args=.mk (xG names consts x []).op (xG names consts x []).name (xG names consts x []).v args:=by
 unfold xG;repeat' split
 all_goals rfl
theorem uW{l:List qA}{cl:List (List zA)}(h:fC tf (l.map qA.d) cl):∀a∈cl.flatten,zA.one a=true:=by
 induction l generalizing cl with
 | nil=>rw[List.map_nil,lE]at h;subst h;intro a ha;simp at ha
 | cons x l ih=>
  rw[ybn,fD]at h;obtain⟨c,r,rfl,h1,h2⟩:=h
  obtain⟨_,_,_,_,_,ho⟩:=qL h1
  rw[iF]at ho;intro a ha;rw[List.flatten_cons,List.mem_append]at ha;rcases ha with ha | ha
  ·exact ybc.1 ho a ha
  ·exact ih h2 a ha
theorem zyb{α:Type}{l:List α}{y:α}(h:l≠[]):l.set (l.length-1) y=l.dropLast++[y]:=by
 induction l with
 | nil=>exact absurd rfl h
 | cons a l ih=>
  cases l with
  | nil=>rfl
  | cons b l=>
   have:=ih (by simp)
   simp only[yao,Nat.add_sub_cancel]at this ⊢
   rw[List.set_cons_succ,this];rfl
theorem zt3{f:Nat}(hL:z0t rb names consts code f):z0t rb names consts code (f+1):=by
 have hP:=zas hL
 intro L tf t i to st v8 Q hr ho hto hf hst hil hQ;have hbuf:Buf yA.base tf t 9 (st.map qA.d) v8:=ho.ok (pI yA.base 9 (st.map qA.d) v8) (by simp)
 have hod:Objs yA.base tf t L:=Objs.drop (A:=[]) ho
 have hrd:=hbuf.read ho.tle
 have hlenv:rB v8=some (.int .i64 (st.length:Int)):=by rw[hrd.len,yag]
 have hclen:=hr.len
 refine j59_2 _ _ _ _ _ _ _ _ _ _ _ _ _ ?_
 simp only[z28,pA];by_cases hi:i<to
 case neg=>
  have hr0:fM names consts code zK (f+1) i to st=some st:=by unfold fM;rw[if_pos (by omega)]
  rw[hr0]at hQ;refine yC (fun e=>absurd (jB.1 e) (by omega)) ?_
  rw[hlenv,xA,zB,xA];by_cases h1:st.length=1
  ·refine yC (fun e=>absurd (show((st.length:Nat):Int)=1 by omega) (vJ.1 e)) ?_
   obtain⟨x,rfl⟩:∃x,st=[x]:=by
    match st,h1 with
    | [x],_=>exact⟨x,rfl⟩
   obtain⟨p,o,cs,g1,g2,g3,_⟩:=hbuf.elem z08 (i:=0) (d:=x.d) (by simp)
   obtain⟨a,b,c,rfl,hz,hone⟩:=qL g3
   have g1:yB yA 48 v8 (.int .i64 0)=some (.ptr p o):=g1
   unfold iG at hz;rw[g1,xA,g2,xA,hz,xA];simp only[iC,cellsOf,qF,aE,kE,bF,yaa,yab];exact aA hone (hQ.1 x tf t _ rfl (dA.refl _) hod g3)
  ·refine aA (vJ.2 (by omega)) (aA (by trivial) (aA (by trivial) (hQ.2 ?_ tf t (dA.refl _) hod)))
   match st,h1 with
   | [],_=>rfl
   | _::_::_,_=>rfl
 have hxl:i<code.length:=by omega
 have hx:code[i]?=some code[i]:=yae hxl
 generalize code[i]=x at hx
 obtain⟨nm,a,b,c,vn,vc,vw,vt,v1,h1,h2,h3,h4⟩:=hr.box
 have h1t:=pD.mono h1 ho.tle
 have ld1:jA yA 37 ⟨0,t⟩ (.ptr rb 8)=some v1:=h1t.load1 zl4 rfl rfl
 obtain⟨p,off,g1,g2,_⟩:=zcn (h4.mono ho.tle) hx
 have hz:mG [(.int .u8 0),(.int .i64 0),(.int .i64 0)] (.agg x.cells)=some (cellsOf x.cells):=cK rfl
 have hs:=hr.sound i x hx
 unfold fM at hQ;rw[if_neg (by omega),hx]at hQ
 simp only[]at hQ;refine aA (jB.2 (by omega)) ?_
 rw[kI,xA,zgi,xA,ld1,xA,g1,xA,g2,xA,hz,xA];simp only[XIns.cells,cellsOf,qF,yaa,yab];refine aA (by trivial) ?_
 rw[q112,dU,xA,qD,xA];by_cases hj:x.op=9\/x.op=10\/x.op=11
 ·rw[if_pos hj]at hQ
  rw[decide_eq_true hj];refine aA (by trivial) ?_
  rw[hlenv,xA,zB,xA];by_cases he:st=[]
  ·subst he
   exact aA (by decide) (aA (by trivial) (aA (by trivial) (hQ.2 rfl tf t (dA.refl _) hod)))
  have hpos:0<st.length:=List.length_pos_iff.2 he
  refine yC (oE (by omega)) ?_
  have htop:st.getLast?=some st[st.length-1]:=by
   rw[List.getLast?_eq_getElem?,yae (by omega)]
  rw[htop]at hQ;simp only[]at hQ;obtain⟨q,o,cs,k1,k2,k3,_⟩:=hbuf.elem z08 (i:=st.length-1) (d:=st[st.length-1].d) (by rw[yav,yae (by omega)];rfl)
  obtain⟨a1,b1,c1,rfl,hz1,hone1⟩:=qL k3
  unfold iG at hz1;rw[xA,zB,xA,zC (n:=(st.length:Int)-1) (by omega) (by omega),show(st.length:Int)-1=((st.length-1:Nat):Int) by omega,k1,xA,k2,xA,hz1,xA]
  simp only[iC,cellsOf,qF,aE,kE,bF,yaa,yab];rw[q113];refine zwh hP hr ho k3 hx hj hi hto hf ⟨fun y n tf1 t1 ds e m1 m2 m3=>?_,fun e y n tf1 t1 ds m1 m2 m3=>?_⟩
  ·obtain⟨hn1,hn2⟩:=zll hr.sound e
   rw[e]at hQ;simp only[]at hQ;obtain⟨a2,b2,c2,rfl,hz2,hone2⟩:=qL m3
   simp only[wC,zA.asTup,uA,dD,yaa,yab,xA,zB,qD];unfold iG at hz2;rw[hz2,xA];simp only[iC,cellsOf,qF,aE,kE,bF,yaa,yab]
   refine aA hone2 (yC (by simp) ?_)
   have hbuf1:Buf yA.base tf1 t1 9 (st.map qA.d) v8:=m2.ok (pI yA.base 9 (st.map qA.d) v8) (by simp)
   obtain⟨q2,o2,t2,d1,d2,d3,d4,d5⟩:=hbuf1.set z08 (S:=50) zxj (i:=st.length-1) (by rw[yag];omega) (w:=.agg (iC y a2 b2 c2)) (d:=y.d) rfl rfl hone2 m3 m2.tle
   rw[d1]at k1
   cases k1
   intro n2 _ _;have d2:=d2 n2
   unfold iC at d2;rw[d2,xA];have hset:(st.map qA.d).set (st.length-1) y.d=(st.dropLast++[y]).map qA.d:=by
    rw[<- zyb he,List.map_set]
   rw[hset]at d3;have o2':Objs yA.base tf1 t2 (pI yA.base 9 ((st.dropLast++[y]).map qA.d) v8::L):=
    Objs.upd (A:=[]) (o:=pI yA.base 9 (st.map qA.d) v8) (o':=pI yA.base 9 ((st.dropLast++[y]).map qA.d) v8) m2 (fun k k1 _=>d5 k (fun e=>k1 (iK.2 e))) (fun k hk=>.inl hk) d3 (by cases v8<;>simp[pI,mD]) d4
   exact hL L tf1 t2 n to (st.dropLast++[y]) v8 Q (hr.mono m1) o2' hto (by omega) (by simp;omega) (by omega) (hQ.mono m1)
  ·rw[e]at hQ
   obtain⟨a2,b2,c2,rfl,hz2,hone2⟩:=qL m3
   simp only[wC,zA.asTup,uA,dD,yaa,yab,xA,zB,qD];unfold iG at hz2;rw[hz2,xA];simp only[iC,cellsOf,qF,aE,kE,bF,yaa,yab]
   exact aA hone2 (aA (by trivial) (aA (by trivial) (aA (by trivial) (hQ.2 rfl tf1 t1 m1 (Objs.drop (A:=[]) m2)))))
 rw[if_neg hj]at hQ;rw[decide_eq_false hj];refine yC (by simp) ?_
 obtain⟨hp1,hp2⟩:=zec hs
 rw[q111,zmj (hr.glob.mono ho.tle) (zhl hs),xA]
 simp only[wC,zA.asTup,uA,dD,yaa,yab,xA,zB];by_cases h12:x.op=12
 ·rw[if_pos (.inl h12)]at hQ
  exact aA (nE.2 (by omega)) (aA (by trivial) (aA (by trivial) (hQ.2 rfl tf t (dA.refl _) hod)))
 refine yC (oE (by omega)) ?_
 rw[hlenv,xA,zB,xA];by_cases hfew:(st.length:Int)<rG x
 ·rw[if_pos (.inr hfew)]at hQ
  exact aA (jB.2 hfew) (aA (by trivial) (aA (by trivial) (hQ.2 rfl tf t (dA.refl _) hod)))
 rw[if_neg (fun h=>h.elim h12 hfew)]at hQ
 refine yC (fun e=>hfew (jB.1 e)) ?_
 rw[xA,zB,xA,q114];obtain⟨k,hk⟩:∃k,k=st.length-(rG x).toNat:=⟨_,rfl⟩
 have hkl:k<=st.length:=by omega
 rw[<- hk]at hQ;have hw:vA .i64 ((st.length:Int)-rG x)=(k:Int):=by rw[zC (by omega) (by omega)];omega
 refine zsx hr ho hx hj h12 fun tf1 t1 a1 b1 m1 m2 m3 m4=>?_
 have hr1:=hr.mono m1
 have hy0:RD tf1 (xG names consts x []).d (iC (xG names consts x []) a1 b1 .nilslice):=by
  rw[fY];exact zf0 m3 m4 yK
 obtain⟨_,_,_,_,hz1,hone1⟩:=qL hy0
 unfold iG at hz1;rw[hz1,xA];simp only[iC,cellsOf,qF,aE,kE,bF,yaa,yab];refine aA hone1 ?_
 rw[hw];have hbuf1:Buf yA.base tf1 t1 9 (st.map qA.d) v8:=m2.ok (pI yA.base 9 (st.map qA.d) v8) (by simp)
 obtain⟨va,ca,s1,s2,s3⟩:=hbuf1.back z08 (k:=k) (by obtain⟨cz,nz,hz⟩:=hr1.zero;exact⟨cz,nz,m2.tle _ _ hz⟩) (by rw[yag];exact hkl)
 rw[<- List.map_drop]at s3;rw[s1,xA];intro n1 hn1 hb1;have hargs:∃va' t2 tf2 n',kD yA 48 48 .nilslice va ⟨n1,t1⟩=some (va',⟨n',t2⟩)/\dA tf1 tf2/\Objs yA.base tf2 t2 (pI yA.base 9 (st.map qA.d) v8::L)/\oA tf2 9 ((st.drop k).map qA.d) va'/\dA t1 t2:=by
  by_cases hd0:st.drop k=[]
  ·have:ca=[]:=by rw[hd0,List.map_nil,lE]at s3;exact s3
   subst this;exact⟨.nilslice,t1,tf1,n1,zlr el48 s2,dA.refl _,m2,by rw[hd0];exact yK,dA.refl _⟩
  ·obtain⟨t2,g1,g2,g3,g4⟩:=rS (C:=yA) el48 (l:=[]) (m:=(st.drop k).map qA.d) (v:=.nilslice) (.inl ⟨rfl,rfl⟩) s2 s3 (uW s3) (by rw[yag];exact List.length_pos_iff.2 hd0) (by simp;omega) hn1 hb1 m2.tle
   simp only[yay,yax,List.nil_append]at g1 g2;have hoff:cC n1 t1 t2:=fun c hc=>g4 c hc zcm
   have o1:=m2.junk hn1 hoff
   have o2:Objs yA.base tf1 t2 ([]++wB yA.base 9 ((st.drop k).map qA.d) (.slice n1 0 ((st.drop k).map qA.d).length ((st.drop k).map qA.d).length)::(pI yA.base 9 (st.map qA.d) v8::L)):=by
    refine Objs.add (A:=[]) (o':=wB yA.base 9 ((st.drop k).map qA.d) _) m2 (fun c hc=>hoff c (fun e=>hc (by simp[wB,mD,e]))) (fun c hc=>?_) ?_ (by simp[wB,mD]) g3
    ·have:c=n1:=by simpa[wB,mD]using hc
     subst this;exact⟨hn1,hb1⟩
    ·exact g2
   obtain⟨tf2,z1,z2,z3⟩:=Objs.freezeL (A:=[]) o2
   refine⟨_,t2,tf2,_,g1,z1,z2,z3,fun c y hc=>?_⟩
   rw[hoff c (by intro e;subst e;rw[hn1]at hc;cases hc)];exact hc
 obtain⟨va',t2,tf2,n',e1,e2,e3,e4,e5⟩:=hargs
 rw[e1,xA];have honea:iB zA.one [va']=true:=by rw[iF];simp only[ybh,ybl,e4.one];rfl
 refine aA honea ?_
 have hbuf2:Buf yA.base tf2 t2 9 (st.map qA.d) v8:=e3.ok (pI yA.base 9 (st.map qA.d) v8) (by simp)
 obtain⟨vf,f1,f2,f3⟩:=hbuf2.front z08 (k:=k) (by rw[yag];exact hkl)
 rw[f1,xA];intro n2 hn2 hb2;have hy1:RD tf2 (xG names consts x (st.drop k)).d (iC (xG names consts x (st.drop k)) a1 b1 va'):=by
  rw[fY];exact zf0 (m3.mono e2) (m4.mono e2) e4
 have ec:iC (xG names consts x (st.drop k)) a1 b1 va'=[.int .u8 (xG names consts x []).op,.str (xG names consts x []).name,.int .u8 (xG names consts x []).v.kind,.bool (xG names consts x []).v.f.n.neg,a1,.bool (xG names consts x []).v.f.d.neg,b1,.int .i64 (xG names consts x []).v.i,va']:=by
  rw[fY];rfl
 obtain⟨t3,u1,u2,u3,u4⟩:=zud (x:=xG names consts x (st.drop k)) (a:=a1) (b:=b1) (c:=va') hn2
 rw[ec]at u1;rw[u1,xA];have f1':cG yA 48 ⟨0,t3⟩ v8 none (some (.int .i64 (k:Int)))=some vf:=zbm (H:=⟨0,t2⟩) (HA:=⟨0,t3⟩) (fun _ _ h=>u3 _ _ h) f1
 rw[f1',xA];have o3:Objs yA.base tf2 t3 (pI yA.base 9 (st.map qA.d) v8::L):=e3.junk hn2 u4
 have hbuf3:Buf yA.base tf2 t3 9 (st.map qA.d) v8:=o3.ok (pI yA.base 9 (st.map qA.d) v8) (by simp)
 obtain⟨vf',f1'',f2',f3'⟩:=hbuf3.front z08 (k:=k) (by rw[yag];exact hkl)
 rw[f1'']at f1'
 cases f1'
 refine aA (f2'.read o3.tle).same ?_
 have o4:Objs yA.base tf2 t3 (pI yA.base 9 ((st.map qA.d).take k) vf::L):=
  Objs.upd (A:=[]) (o:=pI yA.base 9 (st.map qA.d) v8) (o':=pI yA.base 9 ((st.map qA.d).take k) vf) o3 (fun _ _ _=>rfl) (fun c hc=>.inl (by
   have:c∈mD vf:=hc
   rw[f3']at this;exact this)) f2' (by cases vf<;>simp[pI,mD]) o3.tle
 intro n3 hn3 hb3;obtain⟨_,_,_,_,_,honey⟩:=qL hy1
 rw[iF]at honey;obtain⟨v9,t4,n4,p1,p2,p3,p4,p5⟩:=f2'.push el48 u2 hy1 (fun a ha=>ybc.1 honey a ha) (by rw[ycb,yag];omega) hn3 hb3 o3.tle
 rw[p1,xA];have hmap:(st.map qA.d).take k++[(xG names consts x (st.drop k)).d]=(st.take k++[xG names consts x (st.drop k)]).map qA.d:=by
  rw[List.map_append,List.map_take];rfl
 rw[hmap]at p2;have o5:Objs yA.base tf2 t4 (pI yA.base 9 ((st.take k++[xG names consts x (st.drop k)]).map qA.d) v9::L):=
  Objs.upd (A:=[]) (o:=pI yA.base 9 ((st.map qA.d).take k) vf) (o':=pI yA.base 9 ((st.take k++[xG names consts x (st.drop k)]).map qA.d) v9) o4 (fun c h1 h2=>p4 c (fun e=>h1 (iK.2 e)) (fun e=>h2 (iK.2 e))) (fun c hc=>by
   rcases p5 c (iK.1 hc)with h | rfl
   ·exact .inl (iK.2 h)
   ·exact .inr ⟨hn3,hb3⟩) p2 (by cases v9<;>simp[pI,mD]) p3
 rw[zC (n:=(i:Int)+1) (by omega) (by omega),show(i:Int)+1=((i+1:Nat):Int) by omega]
 exact hL L tf2 t4 (i+1) to _ v9 Q (hr1.mono e2) o5 hto (by omega) (by rw[yah,ycb,List.length_singleton];omega) (by omega) (hQ.mono (m1.trans e2))
theorem zy2:∀f,z0t rb names consts code f:=by
 intro f;induction f with
 | zero=>intro L tf t i to st v8 Q _ _ _ hf;omega
 | succ f ih=>exact zt3 ih
end
end Go.Proofs
namespace Go.Proofs
open Go Go.Am
variable [aC]
variable {t tf:Tr lA}
section
variable {names:List (List Nat)}{consts:List xB}{code:List XIns}{L:List vD}{Q:bB}
def zxb (consts:List xB)(x:XIns):Bool:=decide (x.op=13)||(decide (x.op=1) && !vB (consts.getD x.a.toNat jH))
def zvs(names:List (List Nat))(consts:List xB)(code:List XIns):Option qA:=
 if yJ names.length consts.length code=false then none
 else if code.any (zxb consts)=true then none
 else oneX (fM names consts code zK (code.length+1) 0 code.length [])
def ExpQ (L:List vD)(tf:Tr lA)(r:Option qA)(Q:bB):Prop:=
 (∀x tf' t' cs,r=some x->dA tf tf'->Objs yA.base tf' t' L->RD tf' (qA.d x) cs->Q (.tup [.agg cs,.int .i64 0]) t') ∧
 (r=none->∀tf' t',dA tf tf'->Objs yA.base tf' t' L->Q (.tup [.agg iG,.int .i64 190]) t')
theorem zd0{nN nC len:Nat}:∀ {l:List XIns} {i:Nat} {d d':List Nat},vI nN nC len l i d=some d'->∀(k:Nat) x,l[k]?=some x->sE nN nC x (i+k) len=true
 | [],_,_,_,_,k,x,h=>by simp at h
 | y::l,i,d,d',h,k,x,hx=>by
  have h:(dF nN nC len y i d).bind (vI nN nC len l (i+1))=some d':=h
  rw[Option.bind_eq_some_iff]at h;obtain⟨d1,h1,h2⟩:=h
  cases k with
  | zero=>
   obtain rfl:y=x:=by simpa using hx
   unfold dF at h1;split at h1
   ·split at h1
    ·cases h1
    ·rename_i h3;simpa using h3
   ·cases h1
  | succ k=>
   have:=zd0 h2 k x (by simpa using hx)
   rw[show i+(k+1)=i+1+k by omega];exact this
theorem zo0{nN nC:Nat}(h:yJ nN nC code=true):code.length<=1000/\∀i x,code[i]?=some x->sE nN nC x i code.length=true:=by
 unfold yJ at h;rw[yac,decide_eq_true_eq]at h;refine⟨h.1,fun i x hx=>?_⟩
 cases hl:vI nN nC code.length code 0 (1::List.replicate code.length 0)with
 | none=>rw[hl]at h;cases h.2
 | some d=>
  have:=zd0 hl i x hx
  rwa [yax]at this
theorem zvt{nm:List Nat}{a b c vn vc vw vt v1:zA}(ho:Objs yA.base tf t L)(hn:oA tf 1 (names.map D.str) vn)(hc:oA tf 6 (consts.map xB.d) vc)(hv:oA tf 3 (code.map XIns.d) v1)(hsz:code.length<1125899906842624)
  (hsh:∀v∈consts,xB.short v) (hfit:∀v∈consts,lF.fit v.f) (hg:bI tf) (hz0:∃c n,tf.get 0=some (.cells c n none)) (h1a:zA.one a=true) (h1b:zA.one b=true) (h1c:zA.one c=true) (h1w:zA.one vw=true) (h1t:zA.one vt=true)
  (hQ:ExpQ L tf (zvs names consts code) Q):Wc yA F 28 [.agg [.str nm,a,b,c,vn,vc,vw,vt],v1] t Q:=by
 have hvt:=hv.mono ho.tle
 have hct:=hc.mono ho.tle
 have hlen:rB v1=some (.int .i64 (code.length:Int)):=by rw[hvt.len,yag]
 have hso:=jY (nm:=nm) (a:=a) (b:=b) (c:=c) (vw:=vw) (vt:=vt) hvt (hn.mono ho.tle) hct (hg.mono ho.tle) hsz
 refine w28 _ _ _ _ _ _ _ _ _ ?_
 simp only[t28,pA];rw[q58,hso,xA,qD,xA];unfold zvs at hQ
 cases hs:yJ names.length consts.length code with
 | false=>
  rw[hs,if_pos rfl]at hQ;exact aA (by simp) (aA (by trivial) (aA (by trivial) (hQ.2 rfl tf t (dA.refl _) ho)))
 | true=>
  rw[hs,if_neg (by simp)]at hQ
  refine yC (by simp) ?_
  rw[hlen,xA,zB,xA];obtain⟨hl1,hall⟩:=zo0 hs
  have loop:∀(m i:Nat),i+m=code.length->(code.take i).any (zxb consts)=false->jp 28 2 [v1,v1,.int .i64 (code.length:Int),.int .i64 (i:Int),.str nm,a,b,c,vn,vc,vw,vt,.int .u8 0,.str [],.int .u8 0,.bool false,.nilslice,.bool false,.nilslice,.int .i64 0,.nilslice] t Q:=by
   intro m;induction m with
   | zero=>
    intro i hi hb;have hb:code.any (zxb consts)=false:=by rw[ybb (by omega)]at hb;exact hb
    rw[hb,if_neg (by simp)]at hQ
    refine j28_2 _ _ _ _ _ _ _ _ _ _ _ _ _ _ _ _ _ _ _ _ _ ?_
    simp only[z3h,pA];refine yC (fun e=>absurd (jB.1 e) (by omega)) ?_
    have hone1:iB zA.one [v1]=true:=by rw[iF];simp only[ybh,ybl,hv.one];rfl
    refine aA hone1 ?_
    intro n hn1 hnb;obtain⟨t1,a1,a2,a3,a4⟩:=mV (C:=yA) ty118 hn1
    rw[a1,xA];intro n2 _ _;obtain⟨t2,b1,b2,b3⟩:=a2.store (C:=yA) hnb (j:=0) (v:=.agg [.str nm,a,b,c,vn,vc,vw,vt,v1]) ty118 rfl (by show 0+9<=9;decide) (by
     rw[iF];simp only[zA.cells,zA.asAgg,ybh,ybl,h1a,h1b,h1c,h1w,h1t,hn.one,hc.one,hv.one];rfl)
    have b1:=b1 n2
    have b2:pD t2 n none [.str nm,a,b,c,vn,vc,vw,vt,v1]:=b2
    rw[b1,xA,hlen,xA,zB,xA,q59];have o1:=ho.junk hn1 (a4.trans b3)
    obtain⟨cb,hcb,hcb2⟩:=b2
    obtain⟨o2,z1⟩:=o1.froze (ho.fresh hn1) hcb (ho.tfn hn1)
    have hrd:Rdr (tf.set n (.cells cb [.str nm,a,b,c,vn,vc,vw,vt,v1].length none)) n names consts code:=by
     obtain⟨cz,nz,hz⟩:=hz0
     exact⟨⟨nm,a,b,c,vn,vc,vw,vt,v1,⟨cb,by rw[Tr.get_set,if_pos rfl],hcb2⟩,hn.mono z1,hc.mono z1,hv.mono z1⟩,hsh,hall,hl1,hg.mono z1,⟨cz,nz,z1 _ _ hz⟩⟩
    refine zas (zy2 (code.length+1)) L _ t2 0 code.length _ hrd o2 (yal _) (by omega) ⟨fun x tf' t' cs e k1 k2 k3=>?_,fun e tf' t' k1 k2=>?_⟩
    ·obtain⟨a5,b5,c5,rfl,hz5,hone5⟩:=qL k3
     simp only[wC,zA.asTup,uA,dD,yaa,yab,xA,qD];unfold iG at hz5;rw[hz5,xA];simp only[iC,cellsOf,qF,aE,kE,bF,yaa,yab]
     exact aA hone5 (yC (by simp) (aA hone5 (hQ.1 x tf' t' _ e (z1.trans k1) k2 k3)))
    ·have k3':RD tf' qI.d (iC qI .nilslice .nilslice .nilslice):=fQ
     obtain⟨_,_,_,_,hz5,_⟩:=qL k3'
     have hz5:mG [(.int .u8 0),(.str []),(.int .u8 0),(.bool false),.nilslice,(.bool false),.nilslice,(.int .i64 0),.nilslice] (.agg iG)=some (cellsOf iG):=hz5
     simp only[wC,zA.asTup,uA,dD,yaa,yab,xA,qD];rw[hz5,xA];unfold iG;simp only[cellsOf,qF,aE,kE,bF,yaa,yab];exact aA rfl (aA (by trivial) (aA (by trivial) (aA (by trivial) (hQ.2 e tf' t' (z1.trans k1) k2))))
   | succ m ih=>
    intro i hi hb;have hxl:i<code.length:=by omega
    have hx:code[i]?=some code[i]:=yae hxl
    obtain⟨p,off,g1,g2,_⟩:=zcn hvt hx
    have hz:mG [(.int .u8 0),(.int .i64 0),(.int .i64 0)] (.agg code[i].cells)=some (cellsOf code[i].cells):=cK rfl
    have htake:code.take (i+1)=code.take i++[code[i]]:=by rw[ych,hx];rfl
    have hany:zxb consts code[i]=true->code.any (zxb consts)=true:=fun h=>List.any_eq_true.2 ⟨_,ybk hxl,h⟩
    have next:zxb consts code[i]=false->jp 28 2 [v1,v1,.int .i64 (code.length:Int),.int .i64 ((i+1:Nat):Int),.str nm,a,b,c,vn,vc,vw,vt,.int .u8 0,.str [],.int .u8 0,.bool false,.nilslice,.bool false,.nilslice,.int .i64 0,.nilslice] t Q:=fun h=>
     ih (i+1) (by omega) (by rw[htake,List.any_append,hb,Bool.false_or];simp[h])
    refine j28_2 _ _ _ _ _ _ _ _ _ _ _ _ _ _ _ _ _ _ _ _ _ ?_
    simp only[z3h,pA];refine aA (jB.2 (by omega)) ?_
    rw[g1,xA,g2,xA,hz,xA];simp only[XIns.cells,cellsOf,qF,yaa,yab];refine aA (by trivial) ?_
    rw[zC (n:=(i:Int)+1) (by omega) (by omega),show(i:Int)+1=((i+1:Nat):Int) by omega]
    by_cases h13:code[i].op=13
    ·rw[hany (by unfold zxb;simp[h13]),if_pos rfl]at hQ
     exact aA (nE.2 (by omega)) (aA (by trivial) (aA (by trivial) (hQ.2 rfl tf t (dA.refl _) ho)))
    refine yC (oE (by omega)) ?_
    by_cases h1:code[i].op=1
    ·refine aA (nE.2 (by omega)) ?_
     have hsi:=hall i _ hx
     unfold sE at hsi;rw[if_pos h1]at hsi;simp only[yac,decide_eq_true_eq]at hsi;obtain⟨j,hj⟩:∃j:Nat,code[i].a=(j:Int):=⟨code[i].a.toNat,by omega⟩
     have hjl:j<consts.length:=by omega
     have hcj:consts[j]?=some consts[j]:=yae hjl
     obtain⟨q,o,u,w,d1,d2,d3,d4,d5⟩:=zg2 hct hcj
     rw[hj,d1,xA,d2,xA,d3,xA];simp only[cellsOf,qF,aE,kE,bF,yaa,yab];rw[q25,zbk d4 d5 (hfit _ (ybk hjl)),xA,qD,xA]
     have hbad:zxb consts code[i] = !vB consts[j]:=by
      unfold zxb;rw[hj,decide_eq_false h13,decide_eq_true h1];simp[List.getD,hjl]
     cases hval:vB consts[j]with
     | false=>
      rw[hval]at hbad;rw[hany hbad,if_pos rfl]at hQ;exact aA (by simp) (aA (by trivial) (aA (by trivial) (hQ.2 rfl tf t (dA.refl _) ho)))
     | true=>
      rw[hval]at hbad;exact yC (by simp) (next hbad)
    ·refine yC (oE (by omega)) (next ?_)
     unfold zxb;rw[decide_eq_false h13,decide_eq_false h1];rfl
  exact loop code.length 0 (by omega) rfl
end
end Go.Proofs
