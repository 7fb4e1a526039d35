/- Text in slices of bytes. -/
import Derived.Test.YtfijloeeppcipaaGreatDoorG20
set_option linter.all false
noncomputable section
namespace Go.Am
open Go
section
variable {C:oA}{t tf:Tr rA}
def qO(k:IntKind)(l:List Nat):List (List zA):=l.map fun(x:Nat)=>[zA.int k (x:Int)]
def jU{k:IntKind}:∀ {l:List Nat} {cl:List (List zA)},sC t (iB k l) cl ↔ cl=qO k l
 | [],cl=>by
  show sC t [] cl ↔ cl=[]
  exact kG
 | x::l,cl=>by
  show sC t (.int k (x:Int)::iB k l) cl ↔ cl=[.int k (x:Int)]::qO k l
  rw[uF];constructor
  ·rintro⟨c,r,rfl,h1,h2⟩
   rw[oM]at h1;rw[h1,jU.1 h2]
  ·rintro rfl
   exact⟨_,_,rfl,oM.2 rfl,jU.2 rfl⟩
def mY{k:IntKind}:∀(l:List Nat),(qO k l).flatten=l.map fun(x:Nat)=>zA.int k (x:Int)
 | []=>rfl
 | x::l=>by
  show [zA.int k (x:Int)]++(qO k l).flatten=_
  rw[mY l];rfl
def zhm{k:IntKind}{l:List Nat}:(qO k l).length=l.length:=by simp[qO]
def zu8{k:IntKind}{l:List Nat}(i:Nat)(cs:List zA)(h:(qO k l)[i]?=some cs):cs.length=1:=by
 unfold qO at h;rw[ybu]at h
 cases hx:l[i]? with
 | none=>rw[hx]at h;cases h
 | some x=>rw[hx]at h;cases h;rfl
def zp3(l:List Nat)(h:jB 256 l):uG aS (z1u l)=some l:=by
 induction l with
 | nil=>rfl
 | cons x l ih=>
  have e:aS (.int .u8 (x:Int))=some x:=by
   unfold aS;have e1:fJ (x:Int)=some x:=rfl
   simp only[zA.asIntK,sA];rw[oJ.2 rfl,lE,e1,sA,vC.2 (h x (by simp))];rfl
  show uG aS (.int .u8 (x:Int)::z1u l)=_
  rw[mL,e,sA,ih fun y hy=>h y (by simp[hy]),sA]
def z57{S Dt el:Nat}{l:List Nat}{v:zA}{yS yD yE:tC}(hS:C.tys.get S=some yS)(hD:C.tys.get Dt=some yD)(h1:yD.desc.asInt=none)(h2:yD.desc.isString=true)(h3:yS.desc.asSlice=some el)(h4:C.tys.get el=some yE)(h5:yE.desc.asInt=some .u8)
  (hv:lA t 1 (iB .u8 l) v) (hlt:jB 256 l):dN C S Dt ⟨0,t⟩ v=some (.str l):=by
 obtain⟨cl,g1,g2⟩:=hv
 rw[jU]at g2;subst g2;have hf:=(g1.first (n:=0)).1
 have htag:Nat.beq v.tag 2=false:=by
  rcases g1 with⟨rfl,_⟩ | ⟨b,off,cap,rfl,_⟩<;>rfl
 unfold dN nN;rw[hS,sA,hD,sA,h1];simp only[];rw[h2,lE,htag,cond_false,h3,sA,h4,sA,h5,sA,oJ.2 rfl,lE];unfold mV;rcases g1 with⟨rfl,hn⟩ | ⟨b,off,cap,rfl,_⟩
 ·have:l=[]:=by
   have:=congrArg List.length hn
   rw[zhm]at this;exact ycc.1 this
  subst this;rfl
 ·unfold sO at hf
  simp only[zA.asSlice,Nat.mul_one]at hf ⊢
  rw[uA]at hf;obtain⟨c,hc,hf⟩:=hf
  rw[hc,sA,hf,sA,mY];have:=zp3 l hlt
  unfold z1u at this;rw[this,sA]
def zuq{n k:Nat}{l:List Nat}(h:l.length=k):sO ⟨n,t⟩ 1 k (.str l)=some (qO .u8 l).flatten/\nS (.str l)=some k:=by
 subst h;constructor
 ·unfold sO
  simp only[zA.asSlice,zA.asStr];rw[mY,eO,List.take_length];rfl
 ·unfold nS
  simp only[zA.asSlice,zA.asStr,bC]
def zrl{k:IntKind}{l:List Nat}:∀a∈(qO k l).flatten,zA.one a=true:=by
 intro a ha;rw[mY]at ha;obtain⟨x,_,rfl⟩:=yaq.1 ha
 rfl
def zmn{k:IntKind}{l m:List Nat}:iB k (l++m)=iB k l++iB k m:=by simp[iB]
def zvh{T U el:Nat}{cd:Lo}(hT:zvo C T el 1)(hU:∃u,C.tys.get U=some u/\Nat.beq u.desc.tag 1=false)(hcd:∀z,C.tys.get el=some z->oI el z=cd){l m:List Nat}{v:zA}(hv:rG cd C.base tf t 1 (iB .u8 l) v)(hpos:m≠[])(hl:l.length+m.length<400000){n:Nat}(hn:t.get n=none)(hbase:C.base<=n)(ht:dA tf t) :
  ∃t',pF C T U v (.str m) ⟨n,t⟩=some (.slice n 0 (l.length+m.length) (l.length+m.length),⟨n+1,t'⟩)/\rG cd C.base tf t' 1 (iB .u8 (l++m)) (.slice n 0 (l.length+m.length) (l.length+m.length))/\dA tf t'/\(∀c,c≠n->¬ eJ v c->t'.get c=t.get c):=by
 have h0:0<m.length:=List.length_pos_iff.2 hpos
 obtain⟨t',h1,h2,h3,h4⟩:=zay hT hU hcd (l:=iB .u8 l) (m:=iB .u8 m) (x:=.str m) (cm:=qO .u8 m) hv zu8 (fun n=>by rw[zhm];exact zuq rfl) (jU.2 rfl) zrl (by rw[nF];exact h0) (by rw[nF,nF];exact hl) hn hbase ht
 rw[nF,nF]at h1 h2;rw[<- zmn]at h2;exact⟨t',h1,h2,h3,h4⟩
def ze7{T el:Nat}{cd:Lo}{k:IntKind}(hT:zvo C T el 1)(hcd:∀z,C.tys.get el=some z->oI el z=cd){l m:List Nat}{v x:zA}(hv:rG cd C.base tf t 1 (iB k l) v)(hx:lA t 1 (iB k m) x)(hpos:m≠[])(hl:l.length+m.length<400000){n:Nat}(hn:t.get n=none)(hbase:C.base<=n)(ht:dA tf t) :
  ∃t',pF C T T v x ⟨n,t⟩=some (.slice n 0 (l.length+m.length) (l.length+m.length),⟨n+1,t'⟩)/\rG cd C.base tf t' 1 (iB k (l++m)) (.slice n 0 (l.length+m.length) (l.length+m.length))/\dA tf t'/\(∀c,c≠n->¬ eJ v c->t'.get c=t.get c):=by
 have h0:0<m.length:=List.length_pos_iff.2 hpos
 obtain⟨cl,g1,g2⟩:=hx
 rw[jU]at g2;subst g2;obtain⟨t',h1,h2,h3,h4⟩:=zaz hT hcd (l:=iB k l) (m:=iB k m) (x:=x) (cm:=qO k m) hv g1 (jU.2 rfl) zrl (by rw[nF];exact h0) (by rw[nF,nF];exact hl) hn hbase ht
 rw[nF,nF]at h1 h2;rw[<- zmn]at h2;exact⟨t',h1,h2,h3,h4⟩
def zlm{cd:Lo}{base sz:Nat}:rG cd base tf t sz [] .nilslice:=.inl ⟨rfl,rfl⟩
def rG.keep'{cd:Lo}{base sz:Nat}{l:List D}{v:zA}{t':Tr rA}(h:rG cd base tf t sz l v)(hk:∀b,eJ v b->t'.get b=t.get b):rG cd base tf t' sz l v:=by
 rcases h with⟨rfl,rfl⟩ | ⟨b,cl,c,rfl,h0,h1,h2,h3,h4⟩
 ·exact .inl ⟨rfl,rfl⟩
 ·exact .inr ⟨b,cl,c,rfl,h0,h1,by rw[hk b (iS.2 rfl)];exact h2,h3,h4⟩
end
end Go.Am
namespace Go.Am
def kn_ge{B m U V head top u2 v2 ur vr:Nat}(hU:U=(head*B+u2)*B^m+ur)(hur:ur<B^m)(hu2:u2<B)(hV:V=(top*B+v2)*B^m+vr)(htop:0<top):U / V<=head / top:=by
 have hBm:0<B^m:=by omega
 rw[Nat.le_div_iff_mul_le htop];have h1:U / V*V<=U:=Nat.div_mul_le_self U V
 have h2:top*B*B^m<=V:=by
  rw[hV,ybo];omega
 have h3:U<(head+1)*B*B^m:=by
  have:head*B+u2+1<=(head+1)*B:=by rw[ybo];omega
  have:=ybi (B^m) this
  rw[hU];rw[ybo (head*B+u2) 1,Nat.one_mul]at this
  omega
 have h4:U / V*top*(B*B^m)<(head+1)*(B*B^m):=by
  calc U / V*top*(B*B^m)=U / V*(top*B*B^m):=by rw[ybj,ybj]
   _<=U / V*V:=ybv _ h2
   _<=U:=h1
   _<(head+1)*B*B^m:=h3
   _=(head+1)*(B*B^m):=by rw[ybj]
 exact Nat.lt_succ_iff.1 (Nat.lt_of_mul_lt_mul_right h4)
def kn_gt{B m U V head top u2 v2 ur vr d:Nat}(hU:U=(head*B+u2)*B^m+ur)(hur:ur<B^m)(hV:V=(top*B+v2)*B^m+vr)(h:head*B+u2<d*(top*B+v2)):U / V<d:=by
 rcases yau (U / V) d with g | g
 ·exact g
 ·exfalso
  have h1:U / V*V<=U:=Nat.div_mul_le_self U V
  have h2:d*V<=U:=Nat.le_trans (ybi _ g) h1
  have h3:d*(top*B+v2)*B^m<=d*V:=by rw[hV,ybj];exact ybv _ (Nat.le_add_right _ _)
  have h4:=ybi (B^m) (show head*B+u2+1<=d*(top*B+v2) from h)
  rw[ybo (head*B+u2) 1,Nat.one_mul]at h4
  omega
def kn_le{B m U V head top u2 v2 ur vr d:Nat}(hB:0<B)(hU:U=(head*B+u2)*B^m+ur)(hV:V=(top*B+v2)*B^m+vr)(hvr:vr<B^m)(htop:0<top)(hd:d<=B)(h:d*(top*B+v2)<=head*B+u2):d<=U / V+1:=by
 have hVpos:0<V:=by
  rw[hV];have:0<top*B+v2:=by have:=Nat.mul_pos htop hB;omega
  have:=Nat.mul_pos this (show 0<B^m by omega)
  omega
 rcases yau (U / V+1) d with g | g
 ·exfalso
  have h1:(d-1)*V<=U:=by
   have e1:d*V<=d*((top*B+v2)*B^m)+d*B^m:=by
    rw[hV,ybm];exact Nat.add_le_add_left (ybv _ (Nat.le_of_lt hvr)) _
   have e2:d*((top*B+v2)*B^m)<=(head*B+u2)*B^m:=by rw[<- ybj];exact ybi _ h
   have e3:d*B^m<=V:=by
    have:d*B^m<=top*B*B^m:=by
     refine ybi _ (Nat.le_trans hd ?_)
     exact yan _ htop
    rw[hV,ybo];omega
   rw[Nat.sub_mul,Nat.one_mul];omega
  have:=(Nat.le_div_iff_mul_le hVpos).2 h1
  omega
 ·exact g
def top2{B:Nat}(hB:0<B){l:List Nat}{m a b:Nat}(hlt:jB B l)(hl:l.length=m+2)(ha:l[m+1]?=some a)(hb:l[m]?=some b):val B l=(a*B+b)*B^m+val B (l.take m)/\val B (l.take m)<B^m:=by
 have e1:=nT B l m
 have hlen:(l.take m).length=m:=by simp;omega
 rw[hlen]at e1;have e2:l.drop m=[b,a]:=by
  rw[uJ hb,uJ ha,List.drop_of_length_le (by omega)]
 rw[e2]at e1;refine⟨?_,?_⟩
 ·rw[e1]
  simp only[val];rw[ybh (B^m),yat,yct,ybh B a]
  rw[yap b];omega
 ·have:=bK hB (aR hlt m);rw[hlen]at this;exact this
def top3{B:Nat}(hB:0<B){l:List Nat}{m a b c:Nat}(hlt:jB B l)(hl:l.length=m+3)(ha:l[m+2]?=some a)(hb:l[m+1]?=some b)(hc:l[m]?=some c):val B l=((a*B+b)*B+c)*B^m+val B (l.take m)/\val B (l.take m)<B^m:=by
 have e1:=nT B l m
 have hlen:(l.take m).length=m:=by simp;omega
 rw[hlen]at e1;have e2:l.drop m=[c,b,a]:=by
  rw[uJ hc,uJ hb,uJ ha,List.drop_of_length_le (by omega)]
 rw[e2]at e1;refine⟨?_,?_⟩
 ·rw[e1]
  simp only[val];rw[ybh (B^m),yat,yct]
  have e3:c+B*(b+B*a)=(a*B+b)*B+c:=by
   rw[ybm,ybo,ybh B b,ybh B (B*a),ybh B a]
   omega
  rw[e3];omega
 ·have:=bK hB (aR hlt m);rw[hlen]at this;exact this
end Go.Am
set_option maxRecDepth 100000
namespace Go.Proofs
open Go Go.Am
variable [lC]
variable {t:Tr rA}
def BB:Nat:=4294967296
def dK:BB=4294967296:=rfl
def aG:0<BB:=by decide
def zje{T el:Nat}(h:oE yA T el 1 false){b off n cap j:Nat}(hj:j<n):qB yA T (.slice b off n cap) (.int .i64 (j:Int))=some (.ptr b (off+j)):=by
 have:=vS (b:=b) (off:=off) (cap:=cap) h hj
 rw[Nat.mul_one]at this;exact this
def zbd{A w Z:List Nat}{j x:Nat}(h:w[j]?=some x):(A++w++Z)[A.length+j]?=some x:=by
 rw[ybz,ybp (by omega),Nat.add_sub_cancel_left,yco (ybc.1 h).1];exact h
def zd4{A w Z:List Nat}{j x:Nat}(h:j<w.length):(A++w++Z).set (A.length+j) x=A++w.set j x++Z:=by
 rw[ybz,List.set_append_right _ _ (by omega),Nat.add_sub_cancel_left,List.set_append_left _ _ h,ybz]
def znb{A Z lv:List Nat}{v:zA}{b cap d:Nat}{t0:Tr rA}{Q:cB}(hv:lA t0 1 (iB .u32 lv) v)(hl:lv.length<900000)(hlv:jB BB lv)(hbase:yA.base<=b)(hb:t0.get b=none)(hd:0<d)(hd2:d<=BB)(W:List Nat)(hWl:W.length=lv.length)(hWlt:jB BB W)(last:Nat)(hlast:last<BB)(hcap:lv.length+1<=cap)
  (hQ:∀t' r up,iD b t t'->rF t' b .u32 (A++(r++[(last+up)%BB])++Z)->r.length=lv.length->jB BB r->up<2->val BB r+BB^lv.length*up=val BB W+val BB lv->Q (.int .u32 ((d-1:Nat):Int)) t') :
  ∀(k i up:Nat) (t':Tr rA) (r:List Nat),i+k=lv.length->dA t0 t'->iD b t t'->rF t' b .u32 (A++(r++(W++[last]).drop i)++Z)->r.length=i->jB BB r->up<2->val BB r+BB^i*up=val BB (W.take i)+val BB (lv.take i) →
  jp 253 10 [.slice b A.length (lv.length+1) cap,.int .i64 lv.length,.int .u64 d,.int .u32 up,v,.int .i64 lv.length,.int .i64 i] t' Q:=by
 intro k;induction k with
 | zero=>
  intro i up t' r hi ht hoff ho hr hrl hup hval;have hi':i=lv.length:=by omega
  subst hi'
  have hdrop:(W++[last]).drop lv.length=[last]:=by rw[<- hWl];simp
  rw[hdrop]at ho;refine zzz _ _ _ _ _ _ _ ?_
  have g1:=zje fF (b:=b) (off:=A.length) (n:=lv.length+1) (cap:=cap) (j:=lv.length) (by omega)
  have hget:(r++[last])[lv.length]?=some last:=by rw[<- hr];simp
  have g2:=ho.load (zbd (A:=A) (Z:=Z) hget) pG rfl
  obtain⟨t1,s1,s2,s3⟩:=ho.store (C:=yA) hbase (j:=A.length+lv.length) (by simp;omega) ((last+up)%BB) pG rfl
  rw[zd4 (by simp;omega)]at s2
  have hset:(r++[last]).set lv.length ((last+up)%BB)=r++[(last+up)%BB]:=by rw[<- hr,List.set_append_right _ _ (ybk _)];simp
  rw[hset]at s2;have e1:tA .u32 ((last:Int)+(up:Int))=(((last+up)%BB:Nat):Int):=by rw[kM];show _=(((last+up)%4294967296:Nat):Int);omega
  simp only[zn0,qA,zD,g1,g2,wA,sB,e1];rw[yaa (by omega)]
  intro _ _ _;rw[s1];simp only[wA];rw[yca (by omega),yca (by omega)]at hval
  have e2:tA .u32 (tA .u64 ((d:Int)-1))=((d-1:Nat):Int):=by
   have:d<=4294967296:=hd2
   rw[bE (by omega) (by omega),fQ (by omega) (by omega)];omega
  rw[e2];exact hQ t1 r up (hoff.trans s3) s2 hr hrl hup hval
 | succ k ih=>
  intro i up t' r hi ht hoff ho hr hrl hup hval;obtain⟨x,hx⟩:=getElem?_of_lt (l:=lv) (i:=i) (by omega)
  obtain⟨y,hy⟩:=getElem?_of_lt (l:=W) (i:=i) (by omega)
  have hxlt:x<BB:=gI hlv hx
  have hylt:y<BB:=gI hWlt hy
  obtain⟨c,off,g1,g2⟩:=(hv.mono ht).idx fF hx
  have hy':(W++[last])[i]?=some y:=by rw[yco (by omega)];exact hy
  have hdrop:(W++[last]).drop i=y::(W++[last]).drop (i+1):=uJ hy'
  have g3:=zje fF (b:=b) (off:=A.length) (n:=lv.length+1) (cap:=cap) (j:=i) (by omega)
  have hget:(r++(W++[last]).drop i)[i]?=some y:=by rw[ybp (by omega),hr,Nat.sub_self,hdrop];rfl
  have g4:=ho.load (zbd (A:=A) (Z:=Z) hget) pG rfl
  have hlen:i<(r++(W++[last]).drop i).length:=by rw[hdrop];simp;omega
  obtain⟨t1,s1,s2,s3⟩:=ho.store (C:=yA) hbase (j:=A.length+i) (by rw[ybg,ybg];omega) ((y+x+up)%BB) pG rfl
  rw[zd4 hlen]at s2;have hset:(r++(W++[last]).drop i).set i ((y+x+up)%BB)=(r++[(y+x+up)%BB])++(W++[last]).drop (i+1):=by
   rw[hdrop,set_append_right hr];simp
  rw[hset]at s2;have hadd:=z6l (t:=t') (x:=y) (y:=x) (c:=up) hylt hxlt hup
  refine zzz _ _ _ _ _ _ _ ?_
  simp (disch:=omega) only[zn0,qA,zD,g1,g2,g3,g4,wA,sB,q260,hadd,mB,zA.asTup,sA,eF,yaz,yba,wrap_i64]
  rw[yab (by omega)]
  intro _ _ _;have s1':∀n,rC yA 246 (.ptr b (A.length+i)) (.int .u32 (((y+x+up)%4294967296:Nat):Int)) ⟨n,t'⟩=some (nD,⟨n,t1⟩):=s1
  rw[s1'];simp only[wA];refine ih (i+1) ((y+x+up) / BB) t1 _ (by omega) (ht.off hb s3) (hoff.trans s3) s2 (by simp[hr]) (wT hrl (ycy _ (by decide))) ?_ ?_
  ·have h1:y<4294967296:=hylt
   have h2:x<4294967296:=hxlt
   show(y+x+up) / 4294967296<2
   omega
  ·rw[pL,hr,tS hx,tS hy,pL,pL]
   have l1:(W.take i).length=i:=by simp;omega
   have l2:(lv.take i).length=i:=by simp;omega
   rw[l1,l2,yag];have hd:=ych (y+x+up) BB
   have e4:BB^i*y+BB^i*x+BB^i*up=BB^i*(BB*((y+x+up) / BB)+(y+x+up)%BB):=by rw[hd,ybm,ybm]
   rw[ybm,<- ybj]at e4;omega
def zqx{u low bo:Nat}(hu:u<BB)(hl:low<BB)(hb:bo<2):∃w b',w<BB/\b'<2/\u+BB*b'=w+low+bo ∧
  tA .u32 (tA .u64 (tA .u64 ((u:Int)-(low:Int))-(bo:Int)))=(w:Int)/\Int.fdiv (tA .u64 (tA .u64 ((u:Int)-(low:Int))-(bo:Int))) 9223372036854775808=(b':Int):=by
 have hu:u<4294967296:=hu
 have hl:low<4294967296:=hl
 rcases yau u (low+bo)with g | g
 ·refine⟨u+BB-low-bo,1,by show u+4294967296-low-bo<4294967296;omega,by omega,by show u+4294967296*1=u+4294967296-low-bo+low+bo;omega,?_,?_⟩
  ·rw[kM,wS,wS];show _=((u+4294967296-low-bo:Nat):Int);omega
  ·rw[wS,wS,Int.fdiv_eq_ediv_of_nonneg _ (by omega)];omega
 ·refine⟨u-low-bo,0,by show u-low-bo<4294967296;omega,by omega,by omega,?_,?_⟩
  ·rw[kM,wS,wS];omega
  ·rw[wS,wS,Int.fdiv_eq_ediv_of_nonneg _ (by omega)];omega
def zoz{A Z lu lv:List Nat}{v:zA}{b cap d:Nat}{t0:Tr rA}{Q:cB}(hv:lA t0 1 (iB .u32 lv) v)(hl:lv.length<900000)(hlv:jB BB lv)(hbase:yA.base<=b)(hb:t0.get b=none)(hd:d<BB)(hlul:lu.length=lv.length+1)(hlu:jB BB lu)(hcap:lv.length+1<=cap)
  (hQ:∀t' (W:List Nat) last bo,dA t0 t'->iD b t t'->rF t' b .u32 (A++(W++[last])++Z)->W.length=lv.length->jB BB W->last<BB->bo<2->val BB (W++[last])+d*val BB lv=val BB lu+BB^(lv.length+1)*bo →
   if bo=0 then Q (.int .u32 (d:Int)) t' else jp 253 10 [.slice b A.length (lv.length+1) cap,.int .i64 lv.length,.int .u64 d,.int .u32 0,v,.int .i64 lv.length,.int .i64 (0:Nat)] t' Q) :
  ∀(k i carry borrow:Nat) (t':Tr rA) (W:List Nat),i+k=lv.length->dA t0 t'->iD b t t'->rF t' b .u32 (A++(W++lu.drop i)++Z)->W.length=i->jB BB W->carry<BB->borrow<2->val BB W+d*val BB (lv.take i)=val BB (lu.take i)+BB^i*(carry+borrow) →
  jp 253 6 [.slice b A.length (lv.length+1) cap,v,.int .i64 lv.length,.int .u64 d,.int .u64 carry,.int .u64 borrow,v,.int .i64 lv.length,.int .i64 i] t' Q:=by
 intro k;induction k with
 | zero=>
  intro i carry borrow t' W hi ht hoff ho hW hWl hc hbo hval;have hi':i=lv.length:=by omega
  subst hi'
  obtain⟨x,hx⟩:=getElem?_of_lt (l:=lu) (i:=lv.length) (by omega)
  have hxlt:x<BB:=gI hlu hx
  have hdrop:lu.drop lv.length=[x]:=by rw[uJ hx,List.drop_of_length_le (by omega)]
  rw[hdrop]at ho;obtain⟨w,bo,hw,hbo',hsum,e1,e2⟩:=zqx hxlt hc hbo
  have g1:=zje fF (b:=b) (off:=A.length) (n:=lv.length+1) (cap:=cap) (j:=lv.length) (by omega)
  have hget:(W++[x])[lv.length]?=some x:=by rw[<- hW];simp
  have g2:=ho.load (zbd (A:=A) (Z:=Z) hget) pG rfl
  obtain⟨t1,s1,s2,s3⟩:=ho.store (C:=yA) hbase (j:=A.length+lv.length) (by simp;omega) w pG rfl
  rw[zd4 (by simp;omega)]at s2
  have hset:(W++[x]).set lv.length w=W++[w]:=by rw[<- hW,List.set_append_right _ _ (ybk _)];simp
  rw[hset]at s2;have hx32:x<4294967296:=hxlt
  have e0:tA .u64 (x:Int)=(x:Int):=bE (by omega) (by omega)
  refine z7r _ _ _ _ _ _ _ _ _ ?_
  simp only[zwy,qA,zD,g1,g2,wA,sB,e0,e1,e2,mG];rw[yaa (by omega)]
  intro _ _ _;rw[s1];simp only[wA];have hfin:=hQ t1 W w bo (ht.off hb s3) (hoff.trans s3) s2 hW hWl hw hbo' (by
   rw[pL,hW];rw[yca (by omega)]at hval
   have e5:val BB lu=val BB (lu.take lv.length)+BB^lv.length*x:=by
    have:=nT BB lu lv.length
    rw[hdrop]at this;rw[this];have:(lu.take lv.length).length=lv.length:=by simp;omega
    rw[this];simp[val]
   rw[e5,yag];have e6:BB^lv.length*(x+BB*bo)=BB^lv.length*(w+carry+borrow):=by rw[hsum]
   rw[ybm,ybm,ybm,<- ybj]at e6;rw[ybm]at hval;omega)
  by_cases hz:bo=0
  ·rw[yab (by omega)]
   rw[yab hz]at hfin;have hd32:d<4294967296:=hd
   rw[fQ (by omega) (by omega)]
   exact hfin
  ·rw[yaa (by omega)]
   rw[yaa hz]at hfin;simp only[(hv.mono (ht.off hb s3)).len,wA,sB,nF]
   exact hfin
 | succ k ih=>
  intro i carry borrow t' W hi ht hoff ho hW hWl hc hbo hval;obtain⟨x,hx⟩:=getElem?_of_lt (l:=lu) (i:=i) (by omega)
  obtain⟨y,hy⟩:=getElem?_of_lt (l:=lv) (i:=i) (by omega)
  have hxlt:x<BB:=gI hlu hx
  have hylt:y<BB:=gI hlv hy
  have hd32:d<4294967296:=hd
  have hx32:x<4294967296:=hxlt
  have hy32:y<4294967296:=hylt
  have hc32:carry<4294967296:=hc
  have hdrop:lu.drop i=x::lu.drop (i+1):=uJ hx
  obtain⟨c,off,g1,g2⟩:=(hv.mono ht).idx fF hy
  have g3:=zje fF (b:=b) (off:=A.length) (n:=lv.length+1) (cap:=cap) (j:=i) (by omega)
  have hget:(W++lu.drop i)[i]?=some x:=by rw[ybp (by omega),hW,Nat.sub_self,hdrop];rfl
  have g4:=ho.load (zbd (A:=A) (Z:=Z) hget) pG rfl
  have hprod:d*y<=4294967295*4294967295:=ydb (by omega) (by omega)
  obtain⟨P,hP⟩:∃P,P=d*y+carry:=⟨_,rfl⟩
  have hPlt:P<18446744073709551616:=by omega
  have hPhi:P / 4294967296<4294967296:=by omega
  obtain⟨w,bo,hw,hbo',hsum,e1,e2⟩:=zqx (u:=x) (low:=P%4294967296) (bo:=borrow) hxlt (ycy _ (by decide)) hbo
  obtain⟨t1,s1,s2,s3⟩:=ho.store (C:=yA) hbase (j:=A.length+i) (by rw[ybg,ybg,ybg,hdrop];simp;omega) w pG rfl
  rw[zd4 (by rw[hdrop];simp;omega)]at s2
  have hset:(W++lu.drop i).set i w=(W++[w])++lu.drop (i+1):=by rw[hdrop,set_append_right hW];simp
  rw[hset]at s2;have e0:tA .u64 (x:Int)=(x:Int):=bE (by omega) (by omega)
  have e0':tA .u64 (y:Int)=(y:Int):=bE (by omega) (by omega)
  have e3:(d:Int)*(y:Int)=((d*y:Nat):Int):=(Int.natCast_mul d y).symm
  have e4:tA .u64 ((d*y:Nat):Int)=((d*y:Nat):Int):=by
   generalize d*y=z at hprod ⊢
   exact bE (by omega) (by omega)
  have e5:tA .u64 (((d*y:Nat):Int)+(carry:Int))=(P:Int):=by
   rw[hP,<- Int.natCast_add];generalize d*y=z at hprod ⊢
   exact bE (by omega) (by omega)
  have e6:tA .u64 (tA .u32 (P:Int))=((P%4294967296:Nat):Int):=by
   rw[kM,bE (by omega) (by omega)];omega
  have e7:Int.fdiv (P:Int) 4294967296=((P / 4294967296:Nat):Int):=rP P 4294967296
  refine z7r _ _ _ _ _ _ _ _ _ ?_
  simp only[zwy,qA,zD,g1,g2,g3,g4,wA,sB,e0,e0',e3,e4,e5,e6,e7,e1,e2];rw[yab (by omega)]
  intro _ _ _;rw[s1];simp (disch:=omega) only[wA,wrap_i64]
  refine ih (i+1) (P / 4294967296) bo t1 _ (by omega) (ht.off hb s3) (hoff.trans s3) s2 (by simp[hW]) (wT hWl hw) hPhi hbo' ?_
  rw[pL,hW,tS hx,tS hy,pL,pL];have l1:(lu.take i).length=i:=by simp;omega
  have l2:(lv.take i).length=i:=by simp;omega
  rw[l1,l2,yag];have hd:=ych P BB
  have e8:BB^i*(x+BB*bo)=BB^i*(w+P%BB+borrow):=congrArg (fun z=>BB^i*z) hsum
  have e9:BB^i*(d*y+carry)=BB^i*(BB*(P / BB)+P%BB):=by rw[hd,hP]
  rw[ybm,ybm,ybm,<- ybj]at e8;rw[ybm,ybm,<- ybj (BB^i) BB]at e9
  rw[ybm]at hval ⊢
  have e10:d*(BB^i*y)=BB^i*(d*y):=by rw[<- ybj,ybh d,ybj]
  rw[e10,ybm (BB^i*BB)]
  show _=val BB (lu.take i)+BB^i*x+(BB^i*BB*(P / BB)+BB^i*BB*bo)
  omega
attribute [irreducible] BB
end Go.Proofs
namespace Go.Proofs
open Go Go.Am
section
variable [lC]
variable {t:Tr rA}
def or32{x y:Nat}(hx:x<4294967296)(hy:y<4294967296):gH Nat.lor .u64 ((x*4294967296:Nat):Int) (y:Int)=some (.int .u64 ((x*4294967296+y:Nat):Int)):=by
 have h:=zgc (a:=x) (b:=y) (n:=32) hy
 have e:(2:Nat)^32=4294967296:=by decide
 rw[e]at h;rw[vP (k:=.u64) (show x*4294967296<dF .u64 by show _<18446744073709551616;omega) (show y<dF .u64 by show _<18446744073709551616;omega),h]
def zuj{lu lv:List Nat}{u v:zA}{Q:cB}{m head top u2 v2 U V ur vr:Nat}(hu:lA t 1 (iB .u32 lu) u)(hv:lA t 1 (iB .u32 lv) v)(hl:m<900000)(hu2:lu[m]?=some u2)(hv2:lv[m]?=some v2)(hu2lt:u2<BB)(hv2lt:v2<BB)(htop:0<top)(htoplt:top<BB)
  (hU:U=(head*BB+u2)*BB^m+ur) (hur:ur<BB^m) (hV:V=(top*BB+v2)*BB^m+vr) (hvr:vr<BB^m) (hq:U / V<BB) (hhead:head<=top*BB+(BB-1))
  (hexit:∀d,U / V<=d->d<=U / V+1->d<BB->jp 253 19 [u,v,.int .i64 (m+2:Nat),.int .u64 d] t Q) :
  ∀(d rest:Nat),d*top+rest=head->U / V<=d->d<=BB+1->rest<BB->jp 253 2 [u,v,.int .i64 (m+2:Nat),.int .u64 top,.int .u64 d,.int .u64 rest] t Q:=by
 intro d;induction d with
 | zero=>
  intro rest hsum hge _ hrest;have hBB:=dK
  have hr32:rest<4294967296:=by omega
  obtain⟨b,off,g1,g2⟩:=hv.idx fF hv2
  obtain⟨c,off',g3,g4⟩:=hu.idx fF hu2
  have hu32:u2<4294967296:=by omega
  have hv32:v2<4294967296:=by omega
  obtain⟨D,hD⟩:∃D:Int,((0:Nat):Int)=D:=⟨_,rfl⟩
  rw[hD];refine z7s _ _ _ _ _ _ ?_
  unfold zwz;generalize hC:(4294967296:Int)=C
  generalize hG:gH Nat.lor .u64 (tA .u64 ((rest:Int)*C))=G
  have e4:D*(v2:Int)=0:=by rw[<- hD];simp
  have e1:((m+2:Nat):Int)-2=(m:Int):=by omega
  have e2:(rest:Int)*C=((rest*4294967296:Nat):Int):=by rw[<- hC];omega
  have e3:G (u2:Int)=some (.int .u64 ((rest*4294967296+u2:Nat):Int)):=by rw[<- hG,e2,bE (by omega) (by omega)];exact or32 hr32 hu32
  simp only[qA,tG];rw[yaa (by omega)]
  simp (disch:=omega) only[e1,wrap_i64,g1,wA]
  rw[g2];simp only[wA,sB,g3];rw[g4,wA,sB,wA,bE (n:=(u2:Int)) (by omega) (by omega),e3,wA,sB,wA,bE (n:=(v2:Int)) (by omega) (by omega),e4,bE (n:=0) (by decide) (by decide)]
  rw[yaa (fun h=>absurd (zD.1 h) (by omega)),<- hD]
  exact hexit 0 hge (yaw _) aG
 | succ d ih=>
  intro rest hsum hge hle hrest;have hBB:=dK
  have hr32:rest<4294967296:=by omega
  have ht32:top<4294967296:=by omega
  have hle32:d+1<=4294967296+1:=by omega
  have hsum':d*top+(rest+top)=head:=by rw[ybo]at hsum;omega
  obtain⟨D,hD⟩:∃D:Int,((d+1:Nat):Int)=D:=⟨_,rfl⟩
  rw[hD];have e1:D-1=(d:Int):=by omega
  have e0:(rest:Int)+(top:Int)=((rest+top:Nat):Int):=by omega
  have less:U / V<=d->(if (4294967296:Int)<=((rest+top:Nat):Int)then jp 253 19 [u,v,.int .i64 (m+2:Nat),.int .u64 d] t Q else jp 253 2 [u,v,.int .i64 (m+2:Nat),.int .u64 top,.int .u64 d,.int .u64 ((rest+top:Nat):Int)] t Q):=by
   intro hge';split
   ·rename_i hb
    have hb':BB<=rest+top:=by omega
    have hdlt:d<BB:=by
     rcases yau d BB with g | g
     ·exact g
     ·exfalso
      have:=ybi top g
      rw[ybh BB top]at this;omega
    refine hexit d hge' ?_ hdlt
    refine kn_le aG hU hV hvr htop (Nat.le_of_lt hdlt) ?_
    have h1:d*v2<=BB*BB:=ydb (Nat.le_of_lt hdlt) (Nat.le_of_lt hv2lt)
    have h2:BB*BB<=(rest+top)*BB:=ybi _ hb'
    have h3:head*BB=d*top*BB+(rest+top)*BB:=by rw[<- hsum',ybo]
    rw[ybm,<- ybj,h3];omega
   ·rename_i hb
    exact ih (rest+top) hsum' hge' (by omega) (by omega)
  refine z7s _ _ _ _ _ _ ?_
  unfold zwz;generalize hC:(4294967296:Int)=C
  generalize hG:gH Nat.lor .u64 (tA .u64 ((rest:Int)*C))=G
  by_cases hbig:4294967296<=d+1
  ·simp (disch:=omega) only[qA,tG,e0,e1,bE]
   rw[yab (by omega)]
   subst hC;exact less (by omega)
  ·obtain⟨b,off,g1,g2⟩:=hv.idx fF hv2
   obtain⟨c,off',g3,g4⟩:=hu.idx fF hu2
   have hu32:u2<4294967296:=by omega
   have hv32:v2<4294967296:=by omega
   have e5:((m+2:Nat):Int)-2=(m:Int):=by omega
   have e2:(rest:Int)*C=((rest*4294967296:Nat):Int):=by rw[<- hC];omega
   have e6:tA .u64 (D*(v2:Int))=(((d+1)*v2:Nat):Int):=by
    rw[<- hD,<- Int.natCast_mul];have:(d+1)*v2<=4294967295*4294967295:=ydb (by omega) (by omega)
    generalize (d+1)*v2=z at this ⊢
    exact bE (by omega) (by omega)
   have e3:G (u2:Int)=some (.int .u64 ((rest*4294967296+u2:Nat):Int)):=by rw[<- hG,e2,bE (by omega) (by omega)];exact or32 hr32 hu32
   simp only[qA,tG];rw[yaa (by omega)]
   simp (disch:=omega) only[e5,wrap_i64,g1,wA]
   rw[g2];simp only[wA,sB,g3];rw[g4,wA,sB,wA,bE (n:=(u2:Int)) (by omega) (by omega),e3,wA,sB,wA,bE (n:=(v2:Int)) (by omega) (by omega),e6]
   have e7:tA .u64 ((rest:Int)+(top:Int))=((rest+top:Nat):Int):=by rw[e0];exact bE (by omega) (by omega)
   have e8:tA .u64 (D-1)=(d:Int):=by rw[e1];exact bE (by omega) (by omega)
   rw[e7,e8];have key:(d+1)*(top*BB+v2)=(d+1)*top*BB+(d+1)*v2:=by rw[ybm,<- ybj]
   have key2:head*BB=(d+1)*top*BB+rest*BB:=by rw[<- hsum,ybo]
   by_cases htest:rest*4294967296+u2<(d+1)*v2
   ·rw[yab (zD.2 (by omega))]
    subst hC;refine less (Nat.lt_succ_iff.1 (kn_gt hU hur hV ?_))
    rw[key,key2];have:rest*BB=rest*4294967296:=by rw[hBB]
    generalize (d+1)*top*BB=P at this ⊢
    generalize (d+1)*v2=R at htest ⊢
    omega
   ·rw[yaa (fun h=>absurd (zD.1 h) (by omega))]
    rw[<- hD];refine hexit (d+1) hge (kn_le aG hU hV hvr htop (by omega) ?_) (by omega)
    rw[key,key2];have:rest*BB=rest*4294967296:=by rw[hBB]
    generalize (d+1)*top*BB=P at this ⊢
    generalize (d+1)*v2=R at htest ⊢
    omega
end
section
variable [lC]
variable {t tf:Tr rA}
def zq0{n:Nat}{y:rA}(hn:t.get n=none)(h:dA tf t):dA (tf.set n y) (t.set n y):=by
 intro c u hc;rw[Tr.get_set]at hc ⊢
 split at hc
 ·rename_i e;rw[yab e];exact hc
 ·rename_i e;rw[yaa e];exact h _ _ hc
def ziz(h:dA tf t){n:Nat}(hn:t.get n=none):tf.get n=none:=by
 cases hx:tf.get n with
 | none=>rfl
 | some y=>rw[h _ _ hx]at hn;cases hn
structure z2h (S:Tr rA->Tr rA->Prop):Prop where
 le:∀ {tf t:Tr rA},S tf t->dA tf t
 both:∀ {tf t:Tr rA} {n:Nat},S tf t->t.get n=none->∀y,S (tf.set n y) (t.set n y)
 out:∀ {tf t:Tr rA} {n:Nat} {y:rA},tf.get n=none->S (tf.set n y) t->S tf (t.del n)
def zgo{f i:Nat}{v8 v4:zA}{K R:T}{ps:List Nat}{Q:cB}{S:Nat->Tr rA->Tr rA->Prop}(hS:∀k,z2h (S k))(hp:lA tf 1 (iB .u32 ps) v4)(hl:ps.length<30000)(h:S ps.length tf t)
  (body:∀(k x:Nat) (tf t:Tr rA) (Q1:cB),ps[k]?=some x->S (k+1) tf t->(∀t',S k tf t'->Q1 (.bool true) t')->Jq yA F f i [v8,.int .u32 (x:Int)] t Q1)
  (aC:∀tf' t',dA tf tf'->S 0 tf' t'->qA yA.base (Wq yA F aH) (Jq yA F f) K t' Q) :
  qA yA.base (Wq yA F aH) (Jq yA F f) (.call 192 [v4] fun a0=>.range (npC yA) a0 i 1 [v8] K R) t Q:=by
 simp only[qA];rw[q192];refine w192 _ ?_
 simp only[t192,qA];intro bb hbb hbase;have hc4:v4.cells=[v4]:=by
  obtain⟨cl,h1,_⟩:=hp
  rcases h1 with⟨rfl,_⟩ | ⟨_,_,_,rfl,_⟩<;>rfl
 have hone:ztb v4 ⟨bb,t⟩=some (.ptr bb 0,⟨bb+1,t.set bb (.cells (Tr.ofList [v4]) 1 none)⟩):=by
  unfold ztb;rw[hc4];rfl
 rw[hone,wA];simp only[];have h1:=(hS _).both h hbb (.cells (Tr.ofList [v4]) 1 none)
 have hfb:=ziz ((hS _).le h) hbb
 have htf1:dA tf (tf.set bb (.cells (Tr.ofList [v4]) 1 none)):=(yJ hfb _).1
 generalize htf:tf.set bb (.cells (Tr.ofList [v4]) 1 none)=tf1 at h1 htf1
 have hg1:tf1.get bb=some (.cells (Tr.ofList [v4]) 1 none):=by rw[<- htf,Tr.get_set,yab rfl]
 generalize t.set bb (.cells (Tr.ofList [v4]) 1 none)=t1 at h1
 refine⟨Nat.le_add_right _ _,fun l r hl0 hlb hr1 hr2 hy=>?_⟩
 have hra:zag (npC yA) (.func (.func 213) [] [.ptr bb 0]) l=some (213,[.func (.yld l) [] [],.ptr bb 0]):=by
  unfold zag;simp only[zA.asFunc,sA];have:npC yA 213=true:=by kernel_rfl
  rw[this];rfl
 rw[hra,wA];have h2:=(hS _).both h1 hl0 (.loop r)
 have hfl:=ziz ((hS _).le h1) hl0
 have hlr:zi8 true r=r:=by
  obtain⟨a,b,c,d,e,f,g,h,i⟩:=r
  have hr1:a=.ready:=hr1
  have hr2:b=none:=hr2
  subst hr1;subst hr2;rfl
 have hle2:dA tf1 (tf1.set l (.loop r)):=(yJ hfl _).1
 rw[show Wq yA F aH 213=Wc yA F 213 by funext a m R;rw[q213]]
 refine zzba (l:=ps) (v:=v4) (I:=fun k t'=>S k (tf1.set l (.loop r)) t') (by omega) ?_ ?_ ?_ h2
 ·intro k t' hI
  have hle:=(hS _).le hI
  have hg:t'.get bb=some (.cells (Tr.ofList [v4]) 1 none):=hle _ _ (hle2 _ _ hg1)
  refine⟨?_,hp.mono (htf1.trans (hle2.trans hle))⟩
  exact(gD.load1 (cs:=[v4]) (lo:=none) ⟨Tr.ofList [v4],hg,fun j a hj=>by rw[Tr.get_ofList];exact hj⟩ fL rfl (j:=0) rfl)
 ·intro k x t' hx hI R hR
  show dD (some (yo+l,[zA.int .u32 (x:Int)])) _
  rw[wA];refine hy [.int .u32 (x:Int)] t' R rfl ((hS _).le hI _ _ (by rw[Tr.get_set,yab rfl])) ?_
  refine body k x tf1 _ _ hx ((hS _).out hfl hI) fun t2 h3 hn2=>⟨true,rfl,?_⟩
  rw[hlr];exact hR _ ((hS _).both h3 hn2 (.loop r))
 ·intro t' hI
  exact .inl ⟨(hS _).le hI _ _ (by rw[Tr.get_set,yab rfl]),aC tf1 _ htf1 ((hS _).out hfl hI)⟩
def zzby (bx:Nat)(v:zA)(tf t:Tr rA):Prop:=yA.base<=bx/\tf.get bx=none/\dA tf t/\gD t bx none [v]
def zzby.framed{bx:Nat}{v:zA}:z2h (zzby bx v) where
 le:=fun h=>h.2.2.1
 both:=fun {tf t n} h hn y=>by
  obtain⟨h1,h2,h3,h4⟩:=h
  have hbx:bx≠n:=by intro e;obtain⟨c,h,_⟩:=h4;rw[e,hn]at h;cases h
  exact⟨h1,by rw[Tr.get_set,yaa hbx];exact h2,zq0 hn h3,h4.off (by rw[Tr.get_set,yaa hbx])⟩
 out:=fun {tf t n y} hn h=>by
  obtain⟨h1,h2,h3,h4⟩:=h
  have hbx:bx≠n:=by intro e;rw[e,Tr.get_set,yab rfl]at h2;cases h2
  have hle:dA tf (tf.set n y):=(yJ hn y).1
  rw[Tr.get_set,yaa hbx]at h2;refine⟨h1,h2,fun c u hc=>?_,h4.off (by rw[Tr.get_del,yaa hbx])⟩
  have:c≠n:=fun e=>by rw[e,hn]at hc;cases hc
  rw[Tr.get_del,yaa this];exact h3 _ _ (hle _ _ hc)
def zy5{bx x y:Nat}{Q1:cB}(h:zzby bx (.int .u64 (y:Int)) tf t)(hy:y<4294967296)(hx:x<4294967296)(hQ:∀t',zzby bx (.int .u64 ((y*4294967296+x:Nat):Int)) tf t'->Q1 (.bool true) t'):jp 240 2 [.ptr bx 0,.int .u32 (x:Int)] t Q1:=by
 obtain⟨i1,i2,i3,i4⟩:=h
 have e5:(y:Int)*4294967296=((y*4294967296:Nat):Int):=by omega
 have e6:gH Nat.lor .u64 (tA .u64 ((y:Int)*4294967296)) (tA .u64 (x:Int))=some (.int .u64 ((y*4294967296+x:Nat):Int)):=by
  rw[e5,bE (by omega) (by omega),bE (by omega) (by omega),or32 hy hx]
 generalize y*4294967296+x=z at e6 hQ
 refine j240_2 _ _ ?_
 simp only[z63,qA];rw[i4.load1 zwh rfl (j:=0) rfl,wA,sB,wA,e6,wA,sB,wA]
 intro b3 _ _;obtain⟨t3,k1,k2,k3⟩:=i4.store1 (v:=.int .u64 (z:Int)) i1 zwh rfl rfl rfl (j:=0) (by simp)
 rw[k1,wA];exact hQ _ ⟨i1,i2,i3.off i2 k3,k2⟩
def zt8{l:List Nat}{k x:Nat}(hl:l.length<=2)(hlt:jB 4294967296 l)(hx:l[k]?=some x):x<4294967296/\val 4294967296 (l.drop (k+1))<4294967296/\val 4294967296 (l.drop k)=val 4294967296 (l.drop (k+1))*4294967296+x:=by
 have hk:k<l.length:=(ybc.1 hx).1
 have hdrop:l.drop k=x::l.drop (k+1):=by
  rw[ybl hk];congr 1
  rw[ybd hk]at hx;exact yci hx
 refine⟨hlt x (ycv hx),?_,?_⟩
 ·have h1:=zhu hlt (k+1)
  have h2:(l.drop (k+1)).length<=1:=by rw[ydj];omega
  generalize l.drop (k+1)=m at h1 h2 ⊢
  match m,h1,h2 with
  | [],_,_=>exact Nat.zero_lt_succ _
  | [a],h1,_=>rw[val,val,yat,yct];exact h1 a (.head _)
 ·rw[hdrop,val,ybh,yap]
def z96{l:List Nat}{v:zA}(hv:lA t 1 (iB .u32 l) v)(hl:l.length<=2)(hlt:jB 4294967296 l):uC yA F 240 [v] t=some (.int .u64 ((val 4294967296 l:Nat):Int)):=by
 refine zN (w240 _ ?_)
 have hlen0:l.length<30000:=by omega
 have hst:∀k x,l[k]?=some x->_:=fun k x=>zt8 (k:=k) (x:=x) hl hlt
 have h0:val 4294967296 (l.drop l.length)=0:=by rw[List.drop_length,val]
 generalize hg:(fun k=>val 4294967296 (l.drop k))=g
 have hst':∀k x,l[k]?=some x->x<4294967296/\g (k+1)<4294967296/\g k=g (k+1)*4294967296+x:=fun k x hx=>by rw[<- hg];exact hst k x hx
 have h0':g l.length=0:=by rw[<- hg];exact h0
 have hend:val 4294967296 l=g 0:=by rw[<- hg];rfl
 rw[hend];clear hg hst h0 hend
 unfold t240;show ∀b,t.get b=none->yA.base<=b->dD (yH yA 225 ⟨b,t⟩) _
 intro bx hbx hbase;obtain⟨t1,e1,e2,e3,e4⟩:=bR (C:=yA) zwh hbx
 rw[e1,wA];show ∀b,t1.get b=none->yA.base<=b->dD (rC yA 225 (.ptr bx 0) (.int .u64 0) ⟨b,t1⟩) _
 intro b2 _ _;obtain⟨t2,g1,g2,g3⟩:=e2.store1 (v:=.int .u64 0) hbase zwh rfl rfl rfl (j:=0) (by simp)
 rw[g1,wA];have hS0:zzby bx (.int .u64 ((g l.length:Nat):Int)) t t2:=by
  rw[h0'];exact⟨hbase,hbx,(dA.refl t).off hbx e4 |>.off hbx g3,g2⟩
 refine zgo (S:=fun k tf t=>zzby bx (.int .u64 ((g k:Nat):Int)) tf t) (fun k=>zzby.framed) hv hlen0 hS0 ?_ ?_
 ·intro k x tf t' Q1 hx hI hQ1
  obtain⟨s1,s2,s3⟩:=hst' k x hx
  refine zy5 hI s2 s1 fun t2 h2=>hQ1 t2 ?_
  rw[s3];exact h2
 ·intro tf' t' hle hI
  obtain⟨i1,i2,i3,i4⟩:=hI
  simp only[qA];rw[i4.load1 zwh rfl (j:=0) rfl,wA]
  simp only[sB,wA];exact⟨trivial,hle.trans i3⟩
end
end Go.Proofs
namespace Go.Am
open Go
def fG (u:Nat):List Nat:=(Lib.decDigits u).map UInt8.toNat
def qY{u:Nat}(h:u<10):fG u=[48+u]:=by
 unfold fG;rw[Lib.decDigits_one h];simp[UInt8.toNat_ofNat']
 omega
def zcv{u:Nat}(h:¬ u<10):fG u=fG (u / 10)++[48+u%10]:=by
 unfold fG;rw[Lib.decDigits,dif_neg h,List.map_append];simp[UInt8.toNat_ofNat']
 omega
def zz2(u:Nat):zz3 (u:Int)=fG u:=by
 unfold zz3 Lib.itoa fG;rw[yaa (by omega)];rfl
def z5y(u:Nat):(fG u).length=Lib.nDigits u:=by unfold fG;rw[ybf,Lib.decDigits_length]
def zso(u:Nat):0<(fG u).length:=by rw[z5y];exact Lib.nDigits_pos u
def zu2(u:Nat):∀x∈fG u,48<=x/\x<58:=by
 induction u using Nat.strongRecOn with
 | _ u ih=>
  by_cases h:u<10
  ·rw[qY h];intro x hx;simp at hx;omega
  ·rw[zcv h]
   intro x hx;rcases yaf.1 hx with hx | hx
   ·exact ih (u / 10) (by omega) x hx
   ·simp at hx;omega
def zpr{u k:Nat}(hk:0<k)(h:u<10^k):(fG u).length<=k:=by
 induction k generalizing u with
 | zero=>omega
 | succ k ih=>
  by_cases h10:u<10
  ·rw[qY h10];simp
  ·rw[zcv h10,ybg]
   have:u / 10<10^k:=by rw[yag]at h;omega
   by_cases hk0:k=0
   ·subst hk0;simp at this;omega
   ·have:=ih (by omega) this
    simp;omega
def zrj:Nat->Nat->List Nat
 | 0,_=>[]
 | k+1,r=>zrj k (r / 10)++[48+r%10]
def zit:∀(k r:Nat),(zrj k r).length=k
 | 0,_=>rfl
 | k+1,r=>by rw[zrj,ybg,zit k];rfl
def zk9:∀k,zrj k 0=List.replicate k 48
 | 0=>rfl
 | k+1=>by rw[zrj,zk9 k,List.replicate_succ']
def z9q{k r:Nat}(hk:0<k)(h:r<10^k):zrj k r=List.replicate (k-(fG r).length) 48++fG r:=by
 induction k generalizing r with
 | zero=>omega
 | succ k ih=>
  rw[zrj];by_cases h10:r<10
  ·rw[qY h10,Nat.div_eq_of_lt h10,zk9,Nat.mod_eq_of_lt h10]
   simp
  ·have h1:r / 10<10^k:=by rw[yag]at h;omega
   have hk0:0<k:=by
    rcases yav k with e | e
    ·subst e;simp at h1;omega
    ·exact e
   rw[ih hk0 h1,zcv h10,ybz];congr 2
   simp
def z5x{q:Nat}(hq:0<q):∀ {k r:Nat},r<10^k->fG (q*10^k+r)=fG q++zrj k r:=by
 intro k;induction k with
 | zero=>intro r h;simp at h;subst h;simp[zrj]
 | succ k ih=>
  intro r h;have hp:0<10^k:=Nat.pow_pos (by decide)
  have hb:¬ q*10^(k+1)+r<10:=by
   have:10^(k+1)=10^k*10:=yag ..
   have h2:10<=q*10^(k+1):=by
    rw[this];calc 10=1*(1*10):=by omega
     _<=q*(10^k*10):=ydb hq (ydb hp (ybk _))
   omega
  have e1:(q*10^(k+1)+r) / 10=q*10^k+r / 10:=by
   rw[yag,<- ybj,yap,Nat.add_mul_div_right _ _ (by decide),yap]
  have e2:(q*10^(k+1)+r)%10=r%10:=by
   rw[yag,<- ybj,yap,Nat.add_mul_mod_self_right]
  rw[zcv hb,e1,e2,ih (by rw[yag]at h;omega),zrj,ybz]
def zgx:∀(k r:Nat),∀x∈zrj k r,48<=x/\x<58
 | 0,_,x,hx=>by cases hx
 | k+1,r,x,hx=>by
  rw[zrj]at hx;rcases yaf.1 hx with hx | hx
  ·exact zgx k _ x hx
  ·simp at hx;omega
def bH:List Nat->List Nat
 | []=>[]
 | [p]=>fG p
 | p::q::l=>bH (q::l)++zrj 9 p
def zqr:∀ {l:List Nat},l≠[]->(∀x∈l,x<1000000000)->l.getLast?≠some 0->bH l=fG (val 1000000000 l)/\0<val 1000000000 l
 | [],h,_,_=>absurd rfl h
 | [p],_,_,h=>by
  have hp:p≠0:=fun e=>h (by simp[e])
  simp[bH,val]
  omega
 | p::q::l,_,h1,h2=>by
  obtain⟨g1,g2⟩:=zqr (l:=q::l) (by simp) (fun x hx=>h1 x (.tail _ hx)) (by rw[List.getLast?_cons_cons]at h2;exact h2)
  have hp:=h1 p (.head _)
  have e:val 1000000000 (p::q::l)=val 1000000000 (q::l)*10^9+p:=by
   rw[val];omega
  rw[e,z5x g2 (by simpa using hp),bH,g1]
  exact⟨rfl,by omega⟩
def eY:∀(l:List Nat),∀x∈bH l,48<=x/\x<58
 | [],x,hx=>by cases hx
 | [p],x,hx=>zu2 p x hx
 | p::q::l,x,hx=>by
  rw[bH]at hx;rcases yaf.1 hx with hx | hx
  ·exact eY _ x hx
  ·exact zgx _ _ x hx
def intN (neg:Bool)(n:Nat):List Nat:=(if neg then [45]else [])++fG n
end Go.Am
namespace Go.Am
open Go Go.RowKit
section
section
variable {t tf:Tr rA}{C:oA}{base:Nat}
def oS (base sz:Nat)(l:List D)(v:zA):cD where
 blks:=if l=[]then []else yI v
 ok:=fun tf t=>if l=[]then lA tf sz [] v else ∃n,v=.slice n 0 l.length l.length/\znj base tf t sz l n (some (.sz sz))
 keep:=fun {tf t tf' t'} h hf k=>by
  by_cases hl:l=[]
  ·rw[yab hl]at h ⊢;exact h.mono hf
  ·rw[yaa hl]at h k ⊢
   obtain⟨n,rfl,h⟩:=h
   have:=k n (by simp[yI])
   exact⟨n,rfl,h.grow hf this.2 this.1⟩
 live:=fun {tf t} h k hk=>by
  by_cases hl:l=[]
  ·rw[yab hl]at hk;cases hk
  ·rw[yaa hl]at h hk
   obtain⟨n,rfl,_,_,_,⟨c,hc,_⟩,_⟩:=h
   have:k=n:=by simpa[yI]using hk
   subst this;exact⟨_,hc⟩
def z7g{sz:Nat}{v:zA}(h:lA tf sz [] v):(oS base sz [] v).ok tf t:=h
def zov{sz n:Nat}{l:List D}(hl:l≠[])(h:znj base tf t sz l n (some (.sz sz))):(oS base sz l (.slice n 0 l.length l.length)).ok tf t:=by
 have e:(oS base sz l (.slice n 0 l.length l.length)).ok tf t=∃m,zA.slice n 0 l.length l.length=.slice m 0 l.length l.length/\znj base tf t sz l m (some (.sz sz)):=yaa hl
 rw[e];exact⟨n,rfl,h⟩
def zlg{sz:Nat}{l:List D}{v:zA}(hl:l≠[])(h:(oS base sz l v).ok tf t):∃n,v=.slice n 0 l.length l.length/\znj base tf t sz l n (some (.sz sz)):=by
 have e:(oS base sz l v).ok tf t=∃m,v=.slice m 0 l.length l.length/\znj base tf t sz l m (some (.sz sz)):=yaa hl
 rw[e]at h;exact h
def z7h{sz:Nat}{v:zA}(h:(oS base sz [] v).ok tf t):lA tf sz [] v:=h
def z9w{sz:Nat}{l:List D}{v:zA}(h:(oS base sz l v).ok tf t)(ht:dA tf t):lA t sz l v:=by
 by_cases hl:l=[]
 ·subst hl;exact(z7h h).mono ht
 ·obtain⟨n,hv,ho⟩:=zlg hl h
  subst hv;exact ho.read (.inr ⟨_,rfl,rfl⟩) ht rfl (ybk _)
def rB.freezeS{A B:List cD}{sz:Nat}{l:List D}{v:zA}(h:rB base tf t (A++oS base sz l v::B)):∃tf',dA tf tf'/\rB base tf' t (A++B)/\lA tf' sz l v:=by
 have ho:(oS base sz l v).ok tf t:=h.ok (oS base sz l v) (by simp)
 by_cases hl:l=[]
 ·subst hl
  exact⟨tf,dA.refl _,h.drop,z7h ho⟩
 ·obtain⟨n,rfl,h1,h2,cl,⟨c,h3,h4⟩,h5,h6⟩:=zlg hl ho
  have hn:n∉(A++B).flatMap cD.blks:=h.notin (o:=oS base sz l _) (by simp[oS,hl,yI])
  obtain⟨k1,k2⟩:=h.drop.froze hn h3 h2
  refine⟨_,k2,k1,?_⟩
  have hlen:=h6.length
  have:=(⟨h1,h2,cl,⟨c,h3,h4⟩,h5,h6⟩:znj base tf t sz l n (some (.sz sz)))
  refine⟨cl,.inr ⟨n,0,l.length,by rw[hlen],by omega,⟨c,_,_,by rw[Tr.get_set,yab rfl],.inr ⟨_,rfl,rfl⟩⟩,fun i cs hi=>⟨h5 i cs hi,c,_,_,(by rw[Tr.get_set,yab rfl]),fun j a hj=>?_⟩⟩,sC.mono k2 _ _ h6⟩
  rw[ybw];exact h4 _ _ (rN h5 i j cs a hi hj)
def rB.storeS{A B:List cD}{sz:Nat}{l:List D}{v w:zA}(h:rB C.base tf t (A++oS C.base sz l v::B)){i o S T el:Nat}{agg:Bool}{d d':D}{y:tC}(hi:l[i]?=some d)(hT:oE C T el sz agg)(hS:C.tys.get S=some y)(hl:w.cells.length=y.size)(ho:o+w.cells.length<=sz)(hone:kB zA.one w.cells=true)
  (hd:∀cs,cs.length=sz->RD tf d cs->RD tf d' (qI cs o w.cells)) :
  ∃p,qB C T v (.int .i64 (i:Int))=some (.ptr p (0+i*sz))/\∃t',(∀n,rC C S (.ptr p (0+i*sz+o)) w ⟨n,t⟩=some (nD,⟨n,t'⟩))/\rB C.base tf t' (A++oS C.base sz (l.set i d') v::B):=by
 have hlt:i<l.length:=(ybc.1 hi).1
 have hne:l≠[]:=by intro e;subst e;simp at hlt
 have hne':l.set i d'≠[]:=by intro e;have:=congrArg List.length e;rw[ydh]at this;simp at this;exact hne (ycc.1 (by simpa using this))
 obtain⟨n,rfl,ho'⟩:=zlg hne (h.ok (oS C.base sz l v) (by simp))
 refine⟨n,vS hT hlt,?_⟩
 obtain⟨t',g1,g2,g3⟩:=ho'.store hi hS hl ho hone hd
 rw[ybw];refine⟨t',g1,?_⟩
 refine rB.upd (o:=oS C.base sz l (.slice n 0 l.length l.length)) h (fun k k1 _=>g3 k (fun e=>k1 (by simp[oS,hne,yI,e]))) (fun k hk=>.inl ?_) ?_ ?_ (h.tle.off ho'.2.1 g3)
 ·have:k=n:=by simpa[oS,hne',yI]using hk
  subst this;simp[oS,hne,yI]
 ·have:=zov hne' g2
  rw[ydh]at this;exact this
 ·simp[oS,hne',yI]
end
end
section
section
variable {base:Nat}{t t0:Tr rA}{X X0:Xt}{HA:xA}{n:Nat}{y:rA}{C:oA}{F:Tr vB}{Q:cB}
def Xt.put(X:Xt)(n:Nat)(y:rA):Xt:=fun b=>if b=n then some y else X b
def Xt.put_self{X:Xt}:X.put n y n=some y:=yab rfl
def Xt.put_ne{X:Xt}{b:Nat}(h:b≠n):X.put n y b=X b:=yaa h
def Ov.hide(h:Ov base t X HA)(hy:t.get n=some y)(h0:t0.get n=none)(ho:iD n t0 t):Ov base t0 (X.put n y) HA:=by
 refine⟨h.base,fun b hb=>?_,fun b z hb=>?_,fun b z hb=>?_⟩
 ·by_cases e:b=n
  ·subst e;rw[Xt.put_self]at hb;cases hb
  ·rw[Xt.put_ne e]at hb
   rw[h.same b hb,ho b e]
 ·by_cases e:b=n
  ·subst e
   rw[Xt.put_self]at hb;cases hb;exact⟨h.up hy,h0,h.lt _ _ hy⟩
  ·rw[Xt.put_ne e]at hb
   obtain⟨h1,h2,h3⟩:=h.ext b z hb
   exact⟨h1,by rw[<- ho b e];exact h2,h3⟩
 ·by_cases e:b=n
  ·subst e;rw[h0]at hb;cases hb
  ·exact h.lt b z (by rw[ho b e];exact hb)
def wC.unhide{Q:cB}{d:uB}(hX:X.put n y=X0)(hn:X n=none)(h:wC base X0 Q d):wC base X (fun v t'=>∃t0',Q v t0'/\t0'.get n=none/\t'.get n=some y/\iD n t0' t') d:=by
 obtain⟨v,t',HA',X',h1,h2,h3,h4⟩:=h
 subst hX;have hy:X' n=some y:=h3 n y Xt.put_self
 obtain⟨e1,e2,e3⟩:=h2.ext n y hy
 obtain⟨_,ho⟩:=yJ (t:=t') e2 y
 have hs:(t'.set n y).get n=some y:=by rw[Tr.get_set,yab rfl]
 refine⟨v,t'.set n y,HA',fun b=>if b=n then none else X' b,h1,⟨h2.base,fun b hb=>?_,fun b z hb=>?_,fun b z hb=>?_⟩,fun b z hb=>?_,t',h4,e2,hs,ho⟩
 ·by_cases e:b=n
  ·subst e;rw[e1,hs]
  ·have hb:(if b=n then none else X' b)=none:=hb
   rw[yaa e]at hb;rw[h2.same b hb,ho b e]
 ·by_cases e:b=n
  ·have hb:(if b=n then none else X' b)=some z:=hb
   rw[yab e]at hb;cases hb
  ·have hb:(if b=n then none else X' b)=some z:=hb
   rw[yaa e]at hb;obtain⟨k1,k2,k3⟩:=h2.ext b z hb
   exact⟨k1,by rw[ho b e];exact k2,k3⟩
 ·by_cases e:b=n
  ·subst e;exact e3
  ·rw[ho b e]at hb;exact h2.lt b z hb
 ·show(if b=n then none else X' b)=some z
  have e:b≠n:=fun e=>by subst e;rw[hn]at hb;cases hb
  rw[yaa e];exact h3 b z (by rw[Xt.put_ne e];exact hb)
def Wc.frame{f:Nat}{args:List zA}(h:Wc C F f args t0 Q)(hy:t.get n=some y)(h0:t0.get n=none)(ho:iD n t0 t) :
  Wc C F f args t (fun v t'=>∃t0',Q v t0'/\t0'.get n=none/\t'.get n=some y/\iD n t0' t'):=
 fun X HA hv=>(h _ HA (hv.hide hy h0 ho)).unhide rfl (hv.notX hy)
end
def Tr.without(t:Tr rA):∀n:Nat,∃t0:Tr rA,t0.get n=none/\iD n t0 t:=by
 induction t with
 | leaf=>exact fun n=>⟨.leaf,Tr.get_leaf n,fun _ _=>rfl⟩
 | node l v r ihl ihr=>
  intro n;by_cases h0:n=0
  ·subst h0
   refine⟨.node l none r,by rw[Tr.get_node];rfl,fun k hk=>?_⟩
   rw[Tr.get_node,Tr.get_node,yaa hk,yaa hk]
  ·by_cases h1:n%2=1
   ·obtain⟨l0,g1,g2⟩:=ihl (n / 2)
    refine⟨.node l0 v r,by rw[Tr.get_node,yaa h0,yab h1];exact g1,fun k hk=>?_⟩
    rw[Tr.get_node,Tr.get_node];split
    ·rfl
    ·split
     ·exact g2 _ (by omega)
     ·rfl
   ·obtain⟨r0,g1,g2⟩:=ihr (n / 2-1)
    refine⟨.node l v r0,by rw[Tr.get_node,yaa h0,yaa h1];exact g1,fun k hk=>?_⟩
    rw[Tr.get_node,Tr.get_node];split
    ·rfl
    ·split
     ·rfl
     ·exact g2 _ (by omega)
end
end Go.Am
namespace Go.Proofs
open Go Go.Am
variable [lC]
variable {t tf:Tr rA}
def rG.call{cd:Lo}{base sz:Nat}{l:List D}{v:zA}(h:rG cd base tf t sz l v)(ht:dA tf t):∃t0,dA tf t0/\∀ {f:Nat} {args:List zA} {Q:cB},Wc yA F f args t0 Q->Wc yA F f args t (fun u t'=>∃t1,Q u t1/\(dA tf t1->dA t1 t'/\rG cd base t1 t' sz l v)):=by
 rcases h with⟨rfl,rfl⟩ | ⟨b,cl,c,rfl,h0,h1,h2,h3,h4⟩
 ·exact⟨t,ht,fun h=>h.mono fun u t' hq=>⟨t',hq,fun _=>⟨dA.refl _,.inl ⟨rfl,rfl⟩⟩⟩⟩
 ·obtain⟨t0,g1,g2⟩:=Tr.without t b
  refine⟨t0,fun k u hk=>?_,fun h=>(h.frame h2 g1 g2).mono fun u t' ⟨t1,k1,k2,k3,k4⟩=>⟨t1,k1,fun hle=>⟨fun k u hk=>?_,.inr ⟨b,cl,c,rfl,h0,k2,k3,h3,sC.mono hle _ _ h4⟩⟩⟩⟩
  ·have hkb:k≠b:=by intro e;rw[e,h1]at hk;cases hk
   rw[<- g2 k hkb];exact ht _ _ hk
  ·have hkb:k≠b:=by intro e;rw[e,k2]at hk;cases hk
   rw[k4 k hkb];exact hk
def el200:zvo yA 244 246 1:=⟨⟨_,fL,rfl,rfl⟩,⟨_,pG,rfl,rfl,by decide,by decide⟩⟩
def el32:zvo yA 38 5 1:=⟨⟨_,z8w,rfl,rfl⟩,⟨_,ty5,rfl,rfl,by decide,by decide⟩⟩
def co202:∀z,yA.tys.get 246=some z->oI 246 z=.sz 1:=fun z h=>by rw[pG]at h;cases h;rfl
def co5:∀z,yA.tys.get 5=some z->oI 5 z=.ty 5:=fun z h=>by rw[ty5]at h;cases h;rfl
def zuh{cd:Lo}{base sz:Nat}{l:List D}{v:zA}{b:Nat}(h:rG cd base tf t sz l v)(hb:eJ v b)(hn:t.get b=none):False:=by
 obtain⟨_,_,y,hy⟩:=h.none hb
 rw[hn]at hy;cases hy
def ztz{v2:List Nat}{v3:Int}{neg:Bool}{c1:zA}{N M:Nat}{Q:cB}{t0:Tr rA}(hM:M<400000)
  (hR:∀(tf t':Tr rA) (ps:List Nat) (v4 v5:zA),dA t0 tf->dA tf t'->rG (.sz 1) yA.base tf t' 1 (iB .u32 ps) v4->lA tf 1 (iB .u32 []) v5->jB 1000000000 ps->ps≠[]->ps.getLast?≠some 0->val 1000000000 ps=N->ps.length<=M->jp 167 2 [.str v2,.int .i64 v3,v4,v5,.bool neg,c1] t' Q) :
  ∀(k:Nat) (l ps:List Nat) (v4 v5:zA) (tf t':Tr rA),val 4294967296 l<1000000000^k->k+ps.length<=M->norm l->jB 4294967296 l->l.length<900000->jB 1000000000 ps->(l=[]->ps≠[]/\ps.getLast?≠some 0) →
   val 4294967296 l*1000000000^ps.length+val 1000000000 ps=N->dA t0 tf->dA tf t'->rG (.sz 1) yA.base tf t' 1 (iB .u32 ps) v4->lA tf 1 (iB .u32 l) v5->jp 167 2 [.str v2,.int .i64 v3,v4,v5,.bool neg,c1] t' Q:=by
 intro k;induction k with
 | zero=>
  intro l ps v4 v5 tf t' h1 h2 h3 h4 h5 h6 h7 h8 h9 h10 h11 h12;have hl:l=[]:=cX (B:=4294967296) (by decide) h3 (by simpa using h1)
  subst hl;exact hR tf t' ps v4 v5 h9 h10 h11 h12 h6 (h7 rfl).1 (h7 rfl).2 (by simpa[val]using h8) (by omega)
 | succ k ih=>
  intro l ps v4 v5 tf t' h1 h2 h3 h4 h5 h6 h7 h8 h9 h10 h11 h12;by_cases hl:l=[]
  ·subst hl
   exact hR tf t' ps v4 v5 h9 h10 h11 h12 h6 (h7 rfl).1 (h7 rfl).2 (by simpa[val]using h8) (by omega)
  have hpos:0<l.length:=List.length_pos_iff.2 hl
  have hv0:0<val 4294967296 l:=by
   rcases yav (val 4294967296 l)with e | e
   ·exact absurd (cX (B:=4294967296) (by decide) h3 e) hl
   ·exact e
  refine z75 _ _ _ _ _ _ ?_
  simp only[zxf,qA,(h12.mono h10).len,wA,sB,nF,zD]
  rw[yab (by omega),q191]
  obtain⟨t1,g1,g2⟩:=rG.call h11 h10
  refine(g2 (zmj (h12.mono g1) h5 h4 (d:=1000000000) (by decide) (by decide) (Q:=fun u t'=>∃v' q r,u=.tup [v',.int .u32 (r:Nat)]/\dA t1 t'/\lA t' 1 (iB .u32 (iE q)) v'/\jB 4294967296 q/\q.length=l.length/\r<1000000000/\val 4294967296 l=val 4294967296 q*1000000000+r) fun t' v' q r a b c d e f=>⟨v',q,r,rfl,a,b,c,d,e,f⟩)).mono ?_
  rintro u t2 ⟨tf2,⟨v',q,r,rfl,a1,a2,a3,a4,a5,a6⟩,hk⟩
  obtain⟨b1,b2⟩:=hk (g1.trans a1)
  have x0:mB 0 (.tup [v',.int .u32 (r:Nat)])=some v':=rfl
  have x1:mB 1 (.tup [v',.int .u32 (r:Nat)])=some (.int .u32 (r:Nat)):=rfl
  simp only[x0,x1,wA,sB];intro n hn hbase;obtain⟨H1,c1',c2,c3⟩:=zo1 (k:=.u32) fL rfl pG rfl rfl r trivial hn
  rw[c1',wA];intro n2 hn2 hbase2;have b3:rG (.sz 1) yA.base tf2 H1.t 1 (iB .u32 ps) v4:=b2.keep' fun b hb=>by
   obtain⟨_,_,y,hy⟩:=b2.none hb
   rw[c3 _ _ hy,hy]
  obtain⟨t4,d1,d2,d3,d4⟩:=ze7 el200 co202 b3 (c2.all (cap:=1) (ybk _)) (by simp) (by simp;omega) hn2 hbase2 (b1.trans c3)
  simp only[List.length_singleton]at d1 d2;simp only[];rw[d1,wA];refine ih (iE q) (ps++[r]) _ _ tf2 t4 ?_ ?_ (xQ _) (lQ a3) ?_ ?_ ?_ ?_ (h9.trans (g1.trans a1)) d3 ?_ a2
  ·rw[jM]
   rw[yag]at h1;exact Nat.lt_of_mul_lt_mul_right (a:=1000000000) (by omega)
  ·simp;omega
  ·have:=zda q;omega
  ·exact zm9 h6 fun x hx=>by simp at hx;omega
  ·intro hs
   refine⟨by simp,?_⟩
   have hq:val 4294967296 q=0:=by rw[<- jM,hs];rfl
   have e0:(ps++[r]).getLast?=some r:=by simp
   rw[e0];intro e
   cases e
   omega
  ·rw[jM,mT,ybg]
   simp only[val,ybn,ybx,ybw,yat,yct];rw[<- h8,a6,yag,ybo,ybj,ybh (1000000000^ps.length) 1000000000,ybh (1000000000^ps.length) r]
   omega
  ·simpa using d2
end Go.Proofs
namespace Go.Proofs
open Go Go.Am
section
variable [lC]
variable {t tf:Tr rA}{bx:Nat}{s m:List Nat}
def TX (tf t:Tr rA)(bx:Nat)(s:List Nat):Prop:=yA.base<=bx/\tf.get bx=none/\dA tf t/\∃tv,gD t bx none [tv]/\rG (.ty 5) yA.base tf t 1 (iB .u8 s) tv/\¬ eJ tv bx
def TX.both(h:TX tf t bx s){n:Nat}(hn:t.get n=none)(y:rA):TX (tf.set n y) (t.set n y) bx s:=by
 obtain⟨h1,h2,h3,tv,h4,h5,h6⟩:=h
 have hbx:bx≠n:=by intro e;obtain⟨c,h,_⟩:=h4;rw[e,hn]at h;cases h
 refine⟨h1,by rw[Tr.get_set,yaa hbx];exact h2,zq0 hn h3,tv,h4.off (by rw[Tr.get_set,yaa hbx]),?_,h6⟩
 have hb:∀b,eJ tv b->b≠n:=fun b hb e=>zuh h5 hb (e ▸ hn)
 rcases h5 with⟨rfl,h5⟩ | ⟨b,cl,c,rfl,k0,k1,k2,k3,k4⟩
 ·exact .inl ⟨rfl,h5⟩
 ·have hbn:=hb b (iS.2 rfl)
  exact .inr ⟨b,cl,c,rfl,k0,by rw[Tr.get_set,yaa hbn];exact k1,by rw[Tr.get_set,yaa hbn];exact k2,k3,sC.mono (fun c u hc=>by
   have:c≠n:=fun e=>by rw[e,ziz h3 hn]at hc;cases hc
   rw[Tr.get_set,yaa this];exact hc) _ _ k4⟩
def TX.out{n:Nat}{y:rA}(hn:tf.get n=none)(h:TX (tf.set n y) t bx s):TX tf (t.del n) bx s:=by
 obtain⟨h1,h2,h3,tv,h4,h5,h6⟩:=h
 have hbx:bx≠n:=by intro e;rw[e,Tr.get_set,yab rfl]at h2;cases h2
 have hle:dA tf (tf.set n y):=(yJ hn y).1
 rw[Tr.get_set,yaa hbx]at h2;refine⟨h1,h2,fun c u hc=>?_,tv,h4.off (by rw[Tr.get_del,yaa hbx]),?_,h6⟩
 ·have:c≠n:=fun e=>by rw[e,hn]at hc;cases hc
  rw[Tr.get_del,yaa this];exact h3 _ _ (hle _ _ hc)
 ·rcases h5 with⟨rfl,h5⟩ | ⟨b,cl,c,rfl,k0,k1,k2,k3,k4⟩
  ·exact .inl ⟨rfl,h5⟩
  ·have hbn:b≠n:=by intro e;rw[e,Tr.get_set,yab rfl]at k1;cases k1
   refine .inr ⟨b,cl,c,rfl,k0,by rw[Tr.get_set,yaa hbn]at k1;exact k1,by rw[Tr.get_del,yaa hbn];exact k2,k3,?_⟩
   rw[jU]at k4 ⊢;exact k4
def TX.load(h:TX tf t bx s):∃tv,mA yA 38 ⟨0,t⟩ (.ptr bx 0)=some tv/\gD t bx none [tv]/\rG (.ty 5) yA.base tf t 1 (iB .u8 s) tv/\¬ eJ tv bx:=by
 obtain⟨h1,h2,h3,tv,h4,h5,h6⟩:=h
 exact⟨tv,h4.load1 z8w rfl rfl,h4,h5,h6⟩
def TX.put{t1:Tr rA}{n k:Nat}{tv:zA}(hb:yA.base<=bx)(hf:tf.get bx=none)(hc:gD t1 bx none [tv])(hl:rG (.ty 5) yA.base tf t1 1 (iB .u8 s) (.slice n 0 k k))(hle:dA tf t1)(hn:n≠bx) :
  ∃t2,(∀n',rC yA 38 (.ptr bx 0) (.slice n 0 k k) ⟨n',t1⟩=some (nD,⟨n',t2⟩))/\TX tf t2 bx s:=by
 obtain⟨t2,g1,g2,g3⟩:=hc.store1 (v:=.slice n 0 k k) hb z8w rfl rfl rfl (j:=0) (by simp)
 refine⟨t2,g1,hb,hf,hle.off hf g3,_,g2,hl.keep' fun b hb'=>g3 b fun e=>?_,fun e=>?_⟩
 ·rw[iS]at hb';exact hn (hb'.symm.trans e)
 ·rw[iS]at e;exact hn e.symm
def TX.add(h:TX tf t bx s)(hm:m≠[])(hl:s.length+m.length<400000):∃tv,mA yA 38 ⟨0,t⟩ (.ptr bx 0)=some tv/\∀n,t.get n=none->yA.base<=n →
  ∃w t1 t2,pF yA 38 9 tv (.str m) ⟨n,t⟩=some (w,⟨n+1,t1⟩)/\(∀n',rC yA 38 (.ptr bx 0) w ⟨n',t1⟩=some (nD,⟨n',t2⟩))/\TX tf t2 bx (s++m):=by
 obtain⟨tv,h1,h2,h3,h4⟩:=h.load
 refine⟨tv,h1,fun n hn hbase=>?_⟩
 have hbn:n≠bx:=by intro e;obtain⟨c,hh,_⟩:=h2;rw[<- e,hn]at hh;cases hh
 obtain⟨t1,g1,g2,g3,g4⟩:=zvh el32 ⟨_,ty9,rfl⟩ co5 h3 hm hl hn hbase h.2.2.1
 obtain⟨t2,g5,g6⟩:=TX.put h.1 h.2.1 (h2.off (g4 bx hbn.symm h4)) g2 g3 hbn
 exact⟨_,t1,t2,g1,g5,g6⟩
def TX.byte(h:TX tf t bx s)(x:Nat)(hl:s.length+1<400000):∃tv,mA yA 38 ⟨0,t⟩ (.ptr bx 0)=some tv/\∀n,t.get n=none->yA.base<=n →
  ∃H1,cH yA 38 1 [(0,.int .u8 (x:Int))] ⟨n,t⟩=some (.slice n 0 1 1,H1)/\∀n2,H1.t.get n2=none->yA.base<=n2 →
   ∃w t1 t2,pF yA 38 38 tv (.slice n 0 1 1) ⟨n2,H1.t⟩=some (w,⟨n2+1,t1⟩)/\(∀n',rC yA 38 (.ptr bx 0) w ⟨n',t1⟩=some (nD,⟨n',t2⟩))/\TX tf t2 bx (s++[x]):=by
 obtain⟨tv,h1,h2,h3,h4⟩:=h.load
 refine⟨tv,h1,fun n hn hbase=>?_⟩
 obtain⟨H1,c1,c2,c3⟩:=zo1 (k:=.u8) z8w rfl ty5 rfl rfl x trivial hn
 refine⟨H1,c1,fun n2 hn2 hbase2=>?_⟩
 have hcel:gD H1.t bx none [tv]:=h2.off (by
  obtain⟨c,hh,_⟩:=h2
  rw[c3 _ _ hh,hh])
 have hbn:n2≠bx:=by intro e;obtain⟨c,hh,_⟩:=hcel;rw[<- e,hn2]at hh;cases hh
 have h3':rG (.ty 5) yA.base tf H1.t 1 (iB .u8 s) tv:=h3.keep' fun b hb=>by
  obtain⟨_,_,y,hy⟩:=h3.none hb
  rw[c3 _ _ hy,hy]
 obtain⟨t1,g1,g2,g3,g4⟩:=ze7 el32 co5 h3' (c2.all (cap:=1) (ybk _)) (by simp) (by simpa using hl) hn2 hbase2 (h.2.2.1.trans c3)
 simp only[List.length_singleton]at g1 g2;obtain⟨t2,g5,g6⟩:=TX.put h.1 h.2.1 (hcel.off (g4 bx hbn.symm h4)) g2 g3 hbn
 exact⟨_,t1,t2,g1,g5,g6⟩
def z4a{Q:cB}{c:Nat}(hm:m≠[])(hc:c<100)(hml:m.length<100):∀(k i:Nat) (s:List Nat) (t:Tr rA),i+k=c->s.length+k+m.length<400000->TX tf t bx s->(∀t',TX tf t' bx (s++(List.replicate k 48++m))->Q (.bool true) t') →
  jp 167 10 [.ptr bx 0,.str m,.int .i64 (c:Int),.int .i64 (i:Int)] t Q:=by
 intro k;induction k with
 | zero=>
  intro i s t hi hl h hQ;refine zz1 _ _ _ _ ?_
  simp only[zn1,qA,zD];rw[yaa (by omega)]
  obtain⟨tv,g1,g2⟩:=h.add hm (by omega)
  rw[g1,wA];intro n hn hbase;obtain⟨w,t1,t2,g3,g4,g5⟩:=g2 n hn hbase
  rw[g3,wA];intro n2 _ _;rw[g4,wA];exact hQ _ (by simpa using g5)
 | succ k ih=>
  intro i s t hi hl h hQ;refine zz1 _ _ _ _ ?_
  simp only[zn1,qA,zD];rw[yab (by omega)]
  obtain⟨tv,g1,g2⟩:=h.byte 48 (by omega)
  rw[g1,wA];intro n hn hbase;obtain⟨H1,g3,g4⟩:=g2 n hn hbase
  rw[show((48:Nat):Int)=48 from rfl]at g3
  rw[g3,wA];intro n2 hn2 hbase2;obtain⟨w,t1,t2,g5,g6,g7⟩:=g4 n2 hn2 hbase2
  simp only[];rw[g5,wA];intro n3 _ _;rw[g6,wA];rw[wrap_i64 (by omega) (by omega),show(i:Int)+1=((i+1:Nat):Int) by omega]
  refine ih (i+1) (s++[48]) t2 (by omega) (by simp;omega) g7 fun t' h'=>hQ t' ?_
  rw[ybz]at h'
  rw[List.replicate_succ];exact h'
def z8v{u:Nat}(h:u<18446744073709551616):uC yA F 193 [.int .u64 (u:Int),.int .i64 10] t=some (.str (fG u)):=by
 have hg:yA.prims.get 193=some (xL zyh):=by kernel_rfl
 refine zoj hg fun H=>?_
 show cA (jC 0 (u:Int)&&bB (u:Int) 18446744073709551616&&jA 10 10) (some (zA.str (zz3 (u:Int))))=_
 rw[zz2,tG.2 (by omega),zD.2 (by omega)]
 rfl
def zfa(s:List Nat)(x:Nat):List Nat:=if s=[]\/s=[45]then s++fG x else s++zrj 9 x
def zzbo{Q:cB}{x:Nat}(h:TX tf t bx s)(hx:x<1000000000)(hs:s.length<300000)(hlt:jB 256 s)(hQ:∀t',TX tf t' bx (zfa s x)->Q (.bool true) t'):jp 167 6 [.ptr bx 0,.int .u32 (x:Int)] t Q:=by
 have hd:=zso x
 have hd9:(fG x).length<=9:=zpr (by decide) (by omega)
 have hne:fG x≠[]:=fun e=>by rw[e]at hd;simp at hd
 have hpad:s≠[]->s≠[45]->jp 167 10 [.ptr bx 0,.str (fG x),.int .i64 (tA .i64 (9-Int.ofNat (yB (fG x)))),.int .i64 0] t Q:=by
  intro h1 h2;have e:tA .i64 (9-Int.ofNat (yB (fG x)))=((9-(fG x).length:Nat):Int):=by
   rw[bC,wrap_i64 (by simp;omega) (by simp;omega)]
   show 9-((fG x).length:Int)=_
   omega
  rw[e];refine z4a hne (by omega) (by omega) _ 0 s t (ybw _) (by omega) h fun t' h'=>hQ t' ?_
  unfold zfa;rw[yaa (by rintro(h | h);exact h1 h;exact h2 h),z9q (by decide) (by simpa using hx)]
  exact h'
 have hadd:s=[]\/s=[45]->∃tv,mA yA 38 ⟨0,t⟩ (.ptr bx 0)=some tv/\∀b,t.get b=none->yA.base<=b->dD (pF yA 38 9 tv (.str (fG x)) ⟨b,t⟩) fun p=>∀b,p.2.t.get b=none->yA.base<=b->dD (rC yA 38 (.ptr bx 0) p.1 ⟨b,p.2.t⟩) fun p=>Q (.bool true) p.2.t:=by
  intro hs';obtain⟨tv,g1,g2⟩:=h.add hne (by omega)
  refine⟨tv,g1,fun n hn hbase=>?_⟩
  obtain⟨w,t1,t2,g3,g4,g5⟩:=g2 n hn hbase
  rw[g3,wA];intro n2 _ _;rw[g4,wA];refine hQ _ ?_
  unfold zfa;rw[yab hs'];exact g5
 obtain⟨tv,l1,l2,l3,l4⟩:=h.load
 refine j167_6 _ _ ?_
 simp only[z68,qA,q193];rw[bE (by omega) (by omega),z8v (by omega),wA]
 simp only[zA.asStr,wA,l1,l3.len,sB,nF,zD,mG];by_cases h1:1<s.length
 ·rw[yab (by omega)]
  exact hpad (by intro e;rw[e]at h1;simp at h1) (by intro e;rw[e]at h1;simp at h1)
 ·rw[yaa (by omega)]
  by_cases h2:s.length=1
  ·rw[yab (by omega)]
   obtain⟨y,rfl⟩:=List.length_eq_one_iff.1 h2
   have hr:=l3.read (by rfl) h.2.2.1
   obtain⟨b,off,k1,k2⟩:=hr.idx sl38 (i:=0) (x:=y) rfl
   rw[show((0:Nat):Int)=0 from rfl]at k1
   simp only[k1,wA,k2,sB];by_cases h3:y=45
   ·subst h3
    rw[yaa (by simp[sQ])]
    obtain⟨tv',g1,g2⟩:=hadd (.inr rfl)
    rw[l1]at g1;cases g1
    exact g2
   ·rw[yab (by simp[sQ];omega)]
    exact hpad (by simp) (by simpa using h3)
  ·rw[yaa (by omega)]
   have hs0:s=[]:=ycc.1 (by omega)
   obtain⟨tv',g1,g2⟩:=hadd (.inl hs0)
   rw[l1]at g1;cases g1
   exact g2
end
section
variable [lC]
variable {t tf:Tr rA}{bx:Nat}{s m:List Nat}
def znc{sg:List Nat}(hsg:sg=[]\/sg=[45]){x:Nat}{l:List Nat}:zfa (sg++bH l) x=sg++bH (x::l):=by
 unfold zfa
 cases l with
 | nil=>
  rw[yab (by simpa[bH]using hsg)]
  simp[bH]
 | cons p l=>
  have hne:bH (p::l)≠[]:=by
   cases l with
   | nil=>intro e;have:=zso p;rw[show bH [p]=fG p from rfl]at e;rw[e]at this;simp at this
   | cons q l=>
    intro e;have:=congrArg List.length e
    rw[bH,ybg,zit]at this;simp at this
  rw[yaa,bH,ybz];rintro(h | h)
  ·rw[List.append_eq_nil_iff]at h;exact hne h.2
  ·rcases hsg with rfl | rfl
   ·rw[yah]at h
    have:=eY (p::l) 45 (by rw[h];exact .head _)
    omega
   ·rw[List.append_eq_cons_iff]at h
    rcases h with⟨h,_⟩ | ⟨a,h,h2⟩
    ·cases h
    ·cases h
     have:bH (p::l)=[]:=by
      cases hx:bH (p::l)with
      | nil=>rfl
      | cons a b=>rw[hx]at h2;simp at h2
     exact hne this
def zki:∀(l:List Nat),(∀x∈l,x<1000000000)->(bH l).length<=9*l.length
 | [],_=>by simp[bH]
 | [p],h=>by
  have:=zpr (u:=p) (k:=9) (by decide) (by simpa using h p (.head _))
  simp[bH];omega
 | p::q::l,h=>by
  have:=zki (q::l) fun x hx=>h x (.tail _ hx)
  rw[bH,ybg,zit];simp at this ⊢;omega
def zht{sg l:List Nat}(hsg:sg=[]\/sg=[45]):jB 256 (sg++bH l):=by
 intro x hx;rcases yaf.1 hx with hx | hx
 ·rcases hsg with rfl | rfl
  ·cases hx
  ·simp at hx;omega
 ·have:=eY _ x hx;omega
def TX.framed{bx:Nat}{s:List Nat}:z2h (fun tf t=>TX tf t bx s) where
 le:=fun h=>h.2.2.1
 both:=fun h hn y=>h.both hn y
 out:=fun hn h=>TX.out hn h
def z6v{Q:cB}{t0:Tr rA}{ps:List Nat}{v4:zA}{sg:List Nat}(hsg:sg=[]\/sg=[45])(h0:dA t0 tf)(hp:lA tf 1 (iB .u32 ps) v4)(hlt:jB 1000000000 ps)(hl:ps.length<30000)(h:TX tf t bx sg)
  (hQ:∀t',dA t0 t'->Q (.tup [.str (sg++bH ps),.int .i64 0]) t'):jp 167 29 [.str [],.int .i64 0,v4,.ptr bx 0] t Q:=by
 refine zzal _ _ _ _ ?_
 unfold zxe;refine zgo (S:=fun k tf t=>TX tf t bx (sg++bH (ps.drop k))) (fun k=>TX.framed) hp hl (by rw[List.drop_length];simpa[bH]using h) ?_ ?_
 ·intro k x tf t' Q1 hx hI hQ1
  have hk:k<ps.length:=(ybc.1 hx).1
  have hxl:x<1000000000:=hlt x (ycv hx)
  have hdrop:ps.drop k=x::ps.drop (k+1):=by
   rw[ybl hk];congr 1
   rw[ybd hk]at hx;exact yci hx
  have hlen:(sg++bH (ps.drop (k+1))).length<300000:=by
   have:=zki (ps.drop (k+1)) fun y hy=>hlt y (List.mem_of_mem_drop hy)
   rw[ybg];rw[ydj]at this;have:sg.length<=1:=by rcases hsg with rfl | rfl<;>simp
   omega
  refine zzbo hI hxl hlen (zht hsg) fun t2 h3=>hQ1 _ ?_
  rw[znc hsg,<- hdrop]at h3;exact h3
 ·intro tf' t' hle h3
  rw[ycr]at h3;obtain⟨tv,g1,_,g3,_⟩:=h3.load
  show dD (mA yA 38 ⟨0,t'⟩ (.ptr bx 0)) _
  rw[g1,wA];show dD (dN yA 38 9 ⟨0,t'⟩ tv) _
  rw[z57 z8w ty9 rfl rfl rfl ty5 rfl (g3.read (by rfl) h3.2.2.1) (zht hsg),wA]
  exact hQ _ (h0.trans (hle.trans h3.2.2.1))
def zfy(neg:Bool)(l:List Nat):List Nat:=intN neg (val 65536 l)
set_option exponentiation.threshold 2000 in
def zwq{neg:Bool}{l:List Nat}{v:zA}(hv:lA t 1 (iB .u16 l) v)(hlt:jB 65536 l)(hval:jJ neg l=true):uC yA F 167 [.agg [.bool neg,v]] t=some (.tup [.str (zfy neg l),.int .i64 0]):=by
 have hlen:l.length<=1024:=by
  unfold jJ at hval;split at hval
  ·rename_i e;rw[e];simp
  ·simp at hval;exact hval.1
 refine zN (w167 _ _ ?_)
 simp only[t167,qA,q187];rw[zcf (by omega) hv,hval]
 simp only[zA.asBool,wA,Bool.not_true,ybq,if_false,hv.len,nF,sB,mG];by_cases h0:l=[]
 ·subst h0
  rw[yab (by simp)]
  have hn:neg=false:=by unfold jJ at hval;simpa using hval
  subst hn;refine⟨?_,fun _ _ h=>h⟩
  unfold zfy intN;simp[val,qY]
 ·have hpos:0<l.length:=List.length_pos_iff.2 h0
  rw[yaa (by omega),q190]
  refine zop hv (by omega) hlt fun t1 v1 hle hv1=>?_
  have hlast:l.getLast?≠some 0:=by
   unfold jJ at hval;rw[yaa h0]at hval;simp at hval;exact hval.2
  have hnorm:norm l:=fun hne e2=>hlast (by rw[List.getLast?_eq_some_getLast hne,e2])
  have hN:val 4294967296 (gF l)=val 65536 l:=zc5 l
  have hvpos:0<val 65536 l:=by
   rcases yav (val 65536 l)with e | e
   ·exfalso
    exact h0 (cX (B:=65536) (by decide) hnorm e)
   ·exact e
  have hple:(gF l).length<=512:=by rw[zO];omega
  have hbnd:val 4294967296 (gF l)<1000000000^1100:=by
   have g1:=bK (B:=4294967296) (by decide) (tX hlt)
   have g2:4294967296^(gF l).length<=4294967296^512:=yao (by decide) hple
   have g3:(4294967296:Nat)^512<=1000000000^1100:=by
    have:(4294967296:Nat)<=1000000000^2:=by decide
    calc (4294967296:Nat)^512<=(1000000000^2)^512:=Nat.pow_le_pow_left this 512
     _=1000000000^1024:=by rw[<- Nat.pow_mul]
     _<=1000000000^1100:=yao (by decide) (by decide)
   omega
  refine ztz (t0:=t1) (N:=val 65536 l) (M:=1100) (by decide) ?_ 1100 (gF l) [] .nilslice v1 t1 t1 hbnd (by simp) (dX hnorm) (tX hlt) (by omega) (fun x hx=>by cases hx) ?_ (by simp[val,hN]) (dA.refl _) (dA.refl _) zlm hv1
  ·intro tf t' ps v4 v5 k1 k2 k3 k4 k5 k6 k7 k8 k9
   refine z75 _ _ _ _ _ _ ?_
   simp only[zxf,qA,(k4.mono k2).len,wA,sB,nF,zD,ybx]
   rw[yaa (by simp)]
   obtain⟨tf',f1,f2,f3,f4⟩:=k3.freeze rfl k2
   have hpl:ps.length<30000:=by omega
   intro bx hbx hbase;obtain⟨t2,e1,e2,e3,e4⟩:=bR (C:=yA) z8w hbx
   rw[e1,wA];have hTX:TX tf' t2 bx []:=⟨hbase,ziz f2 hbx,f2.trans e3,.nilslice,e2,zlm,zek⟩
   have ht:dA t tf':=hle.trans (k1.trans f1)
   have htext:bH ps=fG (val 65536 l):=by rw[<- k8];exact(zqr k6 k5 k7).1
   cases neg with
   | false=>
    simp only[ybq,if_false];refine z6v (.inl rfl) ht f3 k5 hpl hTX fun t' ht'=>⟨?_,ht'⟩
    rw[htext];rfl
   | true=>
    simp only[if_true];obtain⟨tv,g1,g2⟩:=hTX.byte 45 (by simp)
    rw[g1,wA];intro n hn hbn;obtain⟨H1,g3,g4⟩:=g2 n hn hbn
    rw[show((45:Nat):Int)=45 from rfl]at g3
    rw[g3,wA];intro n2 hn2 hbn2;obtain⟨w,t3,t4,g5,g6,g7⟩:=g4 n2 hn2 hbn2
    simp only[];rw[g5,wA];intro n3 _ _;rw[g6,wA];refine z6v (.inr rfl) ht f3 k5 hpl g7 fun t' ht'=>⟨?_,ht'⟩
    rw[htext];rfl
  ·intro e
   exfalso
   have:=congrArg List.length e
   rw[zO]at this;simp at this;omega
end
section
variable [lC]
variable {t:Tr rA}
def z5t{A lu lv Z:List Nat}{v:zA}{b cap m:Nat}{t0 t':Tr rA}{Q:cB}(hv:lA t0 1 (iB .u32 lv) v)(hl:lv.length=m+2)(hm:m<800000)(hlv:jB BB lv)(hbase:yA.base<=b)(hb:t0.get b=none)(hlul:lu.length=m+3)(hlu:jB BB lu)(hcap:m+3<=cap)
  (htop:∀top,lv[m+1]?=some top->2147483648<=top) (hlt:val BB lu<BB*val BB lv) (ht:dA t0 t') (hoff:iD b t t') (ho:rF t' b .u32 (A++lu++Z))
  (hQ:∀t2 r,dA t0 t2->iD b t t2->rF t2 b .u32 (A++(r++[0])++Z)->r.length=m+2->jB BB r->val BB r=val BB lu%val BB lv->val BB lu / val BB lv<BB->Q (.int .u32 ((val BB lu / val BB lv:Nat):Int)) t2) :
  Wc yA F 253 [.slice b A.length (m+3) cap,v] t' Q:=by
 obtain⟨top,h1⟩:=getElem?_of_lt (l:=lv) (i:=m+1) (by omega)
 obtain⟨v2,h2⟩:=getElem?_of_lt (l:=lv) (i:=m) (by omega)
 obtain⟨un,h3⟩:=getElem?_of_lt (l:=lu) (i:=m+2) (by omega)
 obtain⟨u1,h4⟩:=getElem?_of_lt (l:=lu) (i:=m+1) (by omega)
 obtain⟨u2,h5⟩:=getElem?_of_lt (l:=lu) (i:=m) (by omega)
 have b1:top<BB:=gI hlv h1
 have b2:v2<BB:=gI hlv h2
 have b3:un<BB:=gI hlu h3
 have b4:u1<BB:=gI hlu h4
 have b5:u2<BB:=gI hlu h5
 have hBB:=dK
 have c1:top<4294967296:=by omega
 have c3:un<4294967296:=by omega
 have c4:u1<4294967296:=by omega
 have htop2:=htop top h1
 obtain⟨hV,hvr⟩:=top2 (B:=BB) aG hlv hl h1 h2
 obtain⟨hU,hur⟩:=top3 (B:=BB) aG hlu hlul h3 h4 h5
 have hVpos:0<val BB lv:=by
  have:0<(top*BB+v2)*BB^m:=Nat.mul_pos (by have:0<top*BB:=Nat.mul_pos (by omega) aG;omega) (Nat.pow_pos aG)
  omega
 have hq:val BB lu / val BB lv<BB:=ycu (by rw[ybh];exact hlt)
 have hread:lA t' 1 (iB .u32 lu) (.slice b A.length (m+3) cap):=by
  have:=ho.slice (off:=A.length) (n:=m+3) (cap:=cap) (by simp;omega) hcap
  rw[ybz,List.drop_left,List.take_left' hlul]at this;exact this
 have hv':=hv.mono ht
 obtain⟨d1,o1,g1,g1'⟩:=hread.idx fF h3
 obtain⟨d2,o2,g2,g2'⟩:=hread.idx fF h4
 obtain⟨d3,o3,g3,g3'⟩:=hv'.idx fF h1
 have hun:un<=top:=by
  rcases yau top un with g | g
  ·exfalso
   have e1:(un*BB)*BB*BB^m<=val BB lu:=by rw[hU,ybo,ybo,ybo];omega
   have e2:val BB lv<(top+1)*BB*BB^m:=by
    have h:top*BB+v2+1<=(top+1)*BB:=by rw[ybo];omega
    have:=ybi (BB^m) h
    rw[ybo (top*BB+v2) 1,Nat.one_mul]at this
    omega
   have e3:BB*val BB lv<BB*((top+1)*BB*BB^m):=Nat.mul_lt_mul_of_pos_left e2 aG
   have e4:BB*((top+1)*BB*BB^m)<=un*BB*BB*BB^m:=by
    have:(top+1)*BB*BB^m<=un*BB*BB^m:=ybi _ (ybi _ g)
    have:=ybv BB this
    calc BB*((top+1)*BB*BB^m)<=BB*(un*BB*BB^m):=this
     _=un*BB*BB*BB^m:=by rw[<- ybj,ybh BB (un*BB)]
   omega
  ·exact g
 have hh:un*BB+u1<=top*BB+(BB-1):=by
  have:=ybi BB hun
  omega
 have hge:val BB lu / val BB lv<=(un*BB+u1) / top:=kn_ge hU hur b5 hV (by omega)
 have hdle:(un*BB+u1) / top<=BB+1:=by
  have:un*BB+u1<(BB+2)*top:=by
   rw[ybo,ybh BB top];generalize top*BB=P at hh ⊢
   generalize un*BB=R at hh ⊢
   omega
  have:=ycu (show un*BB+u1<top*(BB+2) by rw[ybh top];exact this)
  omega
 have hrest:(un*BB+u1)%top<BB:=Nat.lt_trans (ycy _ (by omega)) b1
 refine w253 _ _ ?_
 have e1:((lv.length:Nat):Int)=((m+2:Nat):Int):=by rw[hl]
 have e2:((m+2:Nat):Int)-1=((m+1:Nat):Int):=by omega
 have e3:(un:Int)*4294967296=((un*4294967296:Nat):Int):=by omega
 simp (disch:=omega) only[t253,qA,hv'.len,wA,sB,nF,e1,g1,g1',e2,wrap_i64,g2,g2',g3,g3',bE,e3]
 have e4:gH Nat.lor .u64 ((un*4294967296:Nat):Int) (u1:Int)=some (.int .u64 ((un*4294967296+u1:Nat):Int)):=by
  rw[vP (k:=.u64) (show un*4294967296<dF .u64 by show _<18446744073709551616;omega) (show u1<dF .u64 by show _<18446744073709551616;omega)]
  have:=zgc (a:=un) (b:=u1) (n:=32) c4
  rw[show un*4294967296=un*2^32 by rfl,this]
 rw[e4];simp only[wA,sB];have e5:z49 .u64 ((un*4294967296+u1:Nat):Int) (top:Int)=some (.int .u64 (((un*4294967296+u1) / top:Nat):Int)):=zjf (by omega) (by
  have h:(un*4294967296+u1) / top<=4294967296+1:=by rw[hBB]at hdle;exact hdle
  generalize (un*4294967296+u1) / top=z at h ⊢
  exact bE (by omega) (by omega))
 rw[e5];simp only[wA,sB];rw[zcq (by omega)]
 simp only[wA,sB];refine zuj hread hv' (by omega) h5 h2 b5 b2 (by omega) b1 hU hur hV hvr hq hh (fun d q1 q2 q3=>?_) _ _ ?_ (by rw[hBB]at hge ⊢;exact hge) (by rw[hBB]at hdle ⊢;exact hdle) (by rw[hBB]at hrest ⊢;exact hrest)
 ·refine zzah _ _ _ _ ?_
  simp only[zw0,qA,hv'.len,wA,sB,nF,e1];have hms:=zoz (t:=t) (A:=A) (Z:=Z) (lu:=lu) (lv:=lv) (v:=v) (b:=b) (cap:=cap) (d:=d) (t0:=t0) (Q:=Q) hv (by omega) hlv hbase hb q3 (by omega) hlu (by omega) ?_ lv.length 0 0 0 t' [] (by omega) ht hoff (by simpa using ho) rfl (fun x hx=>by cases hx) (by first | omega | decide) (by first | omega | decide) (by simp[val])
  ·rw[hl]at hms
   exact hms
  ·intro t2 W last bo k1 k2 k3 k4 k5 k6 k7 k8
   have hWall:val BB (W++[last])<BB^(lv.length+1):=by
    have:=bK (B:=BB) aG (wT k5 k6)
    simp only[ybg,ybn,ybx,k4]at this;exact this
   have hVlt:val BB lv<BB^lv.length:=bK aG hlv
   have hdm:=ych (val BB lu) (val BB lv)
   have hmod:val BB lu%val BB lv<val BB lv:=ycy _ hVpos
   have hWs:val BB (W++[last])=val BB W+BB^lv.length*last:=by rw[pL,k4]
   split
   ·rename_i hz
    subst hz;rw[yat,yct]at k8;have hd:d=val BB lu / val BB lv:=by
     refine Nat.le_antisymm ?_ q1
     rw[Nat.le_div_iff_mul_le hVpos];omega
    have hr:val BB (W++[last])=val BB lu%val BB lv:=by
     rw[hd,ybh]at k8;omega
    have hlast:last=0:=by
     rcases yav last with g | g
     ·exact g
     ·exfalso
      have:=ybv (BB^lv.length) g
      rw[Nat.mul_one]at this;omega
    subst hlast;rw[hd];exact hQ t2 W k1 k2 k3 (by omega) k5 (by rw[<- hr,hWs];simp) hq
   ·rename_i hz
    have hbo:bo=1:=by omega
    subst hbo;rw[Nat.mul_one]at k8;have hd:d=val BB lu / val BB lv+1:=by
     refine Nat.le_antisymm q2 ?_
     rcases yau (val BB lu / val BB lv) d with g | g
     ·exact g
     ·exfalso
      have:d*val BB lv<=val BB lu:=Nat.le_trans (ybi _ g) (Nat.div_mul_le_self _ _)
      omega
    have hk9:val BB (W++[last])+val BB lv=val BB lu%val BB lv+BB^(lv.length+1):=by
     rw[hd,ybo,Nat.one_mul,ybh (val BB lu / val BB lv)]at k8
     omega
    refine znb (t:=t) (A:=A) (Z:=Z) (t0:=t0) hv (by omega) hlv hbase hb (by rw[hd];exact Nat.succ_pos _) (by omega) W k4 k5 last k6 (by omega) (fun t3 r up n1 n2 n3 n4 n5 n6=>?_) lv.length 0 0 t2 [] (by omega) k1 k2 (by simpa using k3) rfl (fun x hx=>by cases hx) (by first | omega | decide) (by simp[val])
    have hrlt:val BB r<BB^lv.length:=by
     have:=bK (B:=BB) aG n4;rw[n3]at this;exact this
    rw[hWs,yag]at hk9;have hfin:val BB r+BB^lv.length*(up+last)=val BB lu%val BB lv+BB^lv.length*BB:=by
     rw[ybm];omega
    have hsplit:up+last=BB/\val BB r=val BB lu%val BB lv:=by
     have hmlt:val BB lu%val BB lv<BB^lv.length:=by omega
     have hB:0<BB^lv.length:=by omega
     have e1:(val BB r+BB^lv.length*(up+last)) / BB^lv.length=up+last:=by rw[Nat.add_mul_div_left _ _ hB,Nat.div_eq_of_lt hrlt];simp
     have e2:(val BB lu%val BB lv+BB^lv.length*BB) / BB^lv.length=BB:=by rw[Nat.add_mul_div_left _ _ hB,Nat.div_eq_of_lt hmlt];simp
     rw[hfin,e2]at e1;refine⟨e1.symm,?_⟩
     rw[<- e1]at hfin;omega
    have hl0:(last+up)%BB=0:=by rw[yap,hsplit.1];exact Nat.mod_self _
    rw[hl0]at n2;have hd1:d-1=val BB lu / val BB lv:=by rw[hd];exact Nat.add_sub_cancel _ _
    rw[hd1];exact hQ t3 r (k1.off hb (fun c hc=>by
     rw[n1 c hc,<- k2 c hc])) n1 n2 (by omega) n4 hsplit.2 hq
 ·rw[ybh,hBB];exact ych _ _
end
end Go.Proofs
namespace Go.Am
def zka{B p K:Nat}(hB:B=p*K)(hp:0<p)(hK:0<K){x y:Nat}{l:List Nat}(hx:x<B) :
  val B (x::y::l) / p=(y*B+x) / p%B+B*(val B (y::l) / p):=by
 have e1:val B (x::y::l)=x+p*(K*val B (y::l)):=by
  show x+B*val B (y::l)=_
  rw[hB,ybj]
 have e2:y*B+x=x+p*(K*y):=by rw[hB,yap,ybh y,ybj]
 have e3:val B (y::l)%p=y%p:=by
  show(y+B*val B l)%p=_
  rw[hB,ybj,Nat.add_mul_mod_self_left]
 have e4:K*y=K*(y%p)+B*(y / p):=by
  have:=ych y p
  calc K*y=K*(p*(y / p)+y%p):=by rw[this]
   _=_:=by rw[ybm,hB,ybh p K,ybj,yap]
 have e5:K*val B (y::l)=K*(y%p)+B*(val B (y::l) / p):=by
  have:=ych (val B (y::l)) p
  calc K*val B (y::l)=K*(p*(val B (y::l) / p)+val B (y::l)%p):=by rw[this]
   _=_:=by rw[ybm,e3,hB,ybh p K,ybj,yap]
 have e6:x / p<K:=ycu (by rw[<- hB];exact hx)
 have e7:x / p+K*(y%p)<B:=by
  have h1:y%p<p:=ycy _ hp
  have h2:K*(y%p+1)<=K*p:=ybv _ h1
  rw[hB,ybh p K];rw[ybm,Nat.mul_one]at h2;omega
 rw[e1,Nat.add_mul_div_left _ _ hp,e2,Nat.add_mul_div_left _ _ hp,e4,<- Nat.add_assoc,Nat.add_mul_mod_self_left,Nat.mod_eq_of_lt e7,e5,<- Nat.add_assoc]
end Go.Am
namespace Go.Proofs
open Go Go.Am
variable [lC]
variable {t:Tr rA}
def zxm{l:List Nat}{b L lo hi:Nat}(ho:rF t b .u32 l)(h1:lo<=hi)(h2:hi<=L)(h3:lo<L) :
  zH yA 244 ⟨0,t⟩ (.slice b 0 L L) (some (.int .i64 (lo:Int))) (some (.int .i64 (hi:Int)))=some (.slice b lo (hi-lo) (L-lo)):=by
 obtain⟨c,hg,_⟩:=ho
 obtain⟨⟨y,hy1,hy2⟩,⟨z,hz1,hz2,hz3⟩⟩:=fF
 unfold zH;rw[hy1,sA];have hb:∀y (k:Nat),kR y (.int .i64 (k:Int))=cA (Nat.ble k y) (some k):=fun y k=>rfl
 unfold aK;simp only[zA.asStr,zA.asSlice];rw[hy2,sA];unfold eL;rw[hz1,sA];unfold lN ze2;simp only[hb];rw[show Nat.ble hi L=true from kE.2 h2];simp only[lE,sA]
 rw[show Nat.ble lo hi=true from kE.2 h1];simp only[lE,sA];have he2:qJ ⟨0,t⟩ b z.size L lo false=false:=by
  unfold qJ vE;rw[hg,sA];rfl
 rw[he2,yay,cond_false];have hf:vI ⟨0,t⟩ b z.size L lo false=true:=by
  unfold vI vE;rw[hg,sA];rfl
 rw[show Nat.ble hi L=true from kE.2 h2,hf];simp only[Bool.and_self,lE];have hq:Nat.beq L lo=false:=by
  cases hq:Nat.beq L lo with
  | true=>have:=fB.1 hq;omega
  | false=>rfl
 rw[hq,cond_false,hz2,Nat.mul_one,ybw]
def zkb{qv:zA}{Z c:List Nat}{b n s L cn:Nat}{Q:cB}(hn:n<900000)(hc:c.length=n+1)(hcl:jB BB c)(hcn:c[n]?=some cn)(hbase:yA.base<=b)(hs:s<32)(hL:n+1<=L)
  (hexit:∀t' W,iD b t t'->rF t' b .u32 (W++[cn]++Z)->W.length=n->jB BB W->val BB W+BB^n*(cn / 2^s)=val BB c / 2^s->jp 238 6 [.int .i64 (n:Int),.int .i64 (s:Int),.slice b 0 L L,qv,.int .i64 (n:Int),.int .i64 (n:Int)] t' Q) :
  ∀(k i:Nat) (t':Tr rA) (W:List Nat),i+k=n->iD b t t'->rF t' b .u32 (W++c.drop i++Z)->W.length=i->jB BB W->val BB W+BB^i*(val BB (c.drop i) / 2^s)=val BB c / 2^s →
  jp 238 6 [.int .i64 (n:Int),.int .i64 (s:Int),.slice b 0 L L,qv,.int .i64 (n:Int),.int .i64 (i:Int)] t' Q:=by
 intro k;induction k with
 | zero=>
  intro i t' W hi hoff ho hW hWl hval;have hi':i=n:=by omega
  subst hi'
  have hd:c.drop i=[cn]:=by
   rw[uJ hcn,ybt (by omega)]
  rw[hd]at ho hval;refine hexit t' W hoff ho hW hWl ?_
  rw[<- hval];simp[val]
 | succ k ih=>
  intro i t' W hi hoff ho hW hWl hval;have hBB:=dK
  obtain⟨x,hx⟩:=getElem?_of_lt (l:=c) (i:=i) (by omega)
  obtain⟨y,hy⟩:=getElem?_of_lt (l:=c) (i:=i+1) (by omega)
  have hx32:x<4294967296:=by have:=gI hcl hx;omega
  have hy32:y<4294967296:=by have:=gI hcl hy;omega
  have hd1:c.drop (i+1)=y::c.drop (i+2):=uJ hy
  have hd0:c.drop i=x::y::c.drop (i+2):=by rw[uJ hx,hd1]
  have m0:=zbd (A:=W) (w:=c.drop i) (Z:=Z) (j:=0) (x:=x) (by rw[hd0];rfl)
  have m1:=zbd (A:=W) (w:=c.drop i) (Z:=Z) (j:=1) (x:=y) (by rw[hd0];rfl)
  rw[hW]at m0 m1;rw[yct]at m0;have g0:=xU fF (b:=b) (n:=L) (cap:=L) (j:=i) (by omega)
  have g1:=xU fF (b:=b) (n:=L) (cap:=L) (j:=i+1) (by omega)
  have l0:=ho.load (C:=yA) m0 pG rfl
  have l1:=ho.load (C:=yA) m1 pG rfl
  have ei:(i:Int)+1=((i+1:Nat):Int):=by omega
  have e2:(y:Int)*4294967296=((y*4294967296:Nat):Int):=by omega
  obtain⟨t1,s1,s2,s3⟩:=ho.store (C:=yA) hbase (j:=i) (by rw[hd0];simp;omega) ((y*4294967296+x) / 2^s%4294967296) pG rfl
  have hset:=zd4 (A:=W) (w:=c.drop i) (Z:=Z) (j:=0) (x:=(y*4294967296+x) / 2^s%4294967296) (by rw[hd0];simp)
  rw[yct,hW]at hset;rw[hset]at s2;refine z7v _ _ _ _ _ _ ?_
  simp only[zw5,qA,zD];rw[yab (by omega)]
  simp (disch:=omega) only[ei,wrap_i64,g0,g1,wA,l0,l1,sB]
  rw[bE (n:=(y:Int)) (by omega) (by omega),e2,bE (n:=((y*4294967296:Nat):Int)) (by omega) (by omega),bE (n:=(x:Int)) (by omega) (by omega),or32 hy32 hx32,wA,sB,wA,zsc (by omega),wA,sB,wA]
  have e3:tA .u32 (((y*4294967296+x) / 2^s:Nat):Int)=(((y*4294967296+x) / 2^s%4294967296:Nat):Int):=by
   generalize (y*4294967296+x) / 2^s=z
   rw[kM];omega
  rw[e3];intro _ _ _;rw[s1,wA];have hw:(y*4294967296+x) / 2^s%4294967296<BB:=by rw[hBB];exact ycy _ (by decide)
  refine ih (i+1) t1 (W++[(y*4294967296+x) / 2^s%4294967296]) (by omega) (hoff.trans s3) ?_ (by simp[hW]) (wT hWl hw) ?_
  ·rw[hd0]at s2
   rw[hd1];simpa using s2
  ·have hst:=zka (B:=BB) (p:=2^s) (K:=2^(32-s)) (by rw[<- Nat.pow_add,show s+(32-s)=32 by omega,hBB]) (Nat.pow_pos (by decide)) (Nat.pow_pos (by decide)) (x:=x) (y:=y) (l:=c.drop (i+2)) (by omega)
   rw[<- hval,hd0,hst,pL,hW,hd1,yag,ybm,hBB];simp only[ybj,Nat.add_assoc]
end Go.Proofs
namespace Go.Proofs
open Go Go.Am
variable [lC]
variable {t:Tr rA}
def zpp{lv:List Nat}{v:zA}{b bq m s L Lq U:Nat}{t0:Tr rA}{Q:cB}(hv:lA t0 1 (iB .u32 lv) v)(hl:lv.length=m+2)(hm:m<800000)(hlv:jB BB lv)(hbase:yA.base<=b)(hbaseq:yA.base<=bq)(hb:t0.get b=none)(hbq:t0.get bq=none)(hne:b≠bq)(hL:L<1000000)
  (htop:∀top,lv[m+1]?=some top->2147483648<=top) (hVpos:0<val BB lv)
  (hexit:∀t' q r Z,dA t0 t'->rF t' b .u32 (r++[0]++Z)->rF t' bq .u32 q->r.length=m+2->jB BB r->jB BB q->q.length=Lq->m+3+Z.length=L->val BB r<val BB lv->U=val BB lv*val BB q+val BB r->jp 238 6 [.int .i64 ((m+2:Nat):Int),.int .i64 (s:Int),.slice b 0 L L,.slice bq 0 Lq Lq,.int .i64 ((m+2:Nat):Int),.int .i64 0] t' Q) :
  ∀(j:Nat) (A c Z Qd:List Nat) (t':Tr rA),A.length=j->c.length=m+3->jB BB A->jB BB c->jB BB Qd->A.length+(m+3)+Z.length=L->j+1+Qd.length=Lq->val BB c<BB*val BB lv->dA t0 t'->rF t' b .u32 (A++c++Z)->rF t' bq .u32 (List.replicate (j+1) 0++Qd)->U=val BB lv*(BB^(j+1)*val BB Qd)+val BB (A++c) →
  jp 238 2 [.int .i64 ((m+2:Nat):Int),.int .i64 (s:Int),v,.slice b 0 L L,.slice bq 0 Lq Lq,.int .i64 (j:Int)] t' Q:=by
 intro j;induction j using Nat.strongRecOn with
 | ind j ih=>
  intro A c Z Qd t' hA hc hAl hcl hQl hLen hLq hlt ht ho hoq hU;have gs:=zxm (b:=b) (L:=L) (lo:=j) (hi:=j+(m+2)+1) ho (by omega) (by omega) (by omega)
  rw[show j+(m+2)+1-j=m+3 by omega]at gs
  have e1:(j:Int)+((m+2:Nat):Int)=((j+(m+2):Nat):Int):=by omega
  have e2:((j+(m+2):Nat):Int)+1=((j+(m+2)+1:Nat):Int):=by omega
  refine z7w _ _ _ _ _ _ ?_
  simp only[zw6,qA,tG];rw[yab (by omega)]
  simp (disch:=omega) only[e1,wrap_i64,e2,gs,wA,q253]
  subst hA;refine z5t (A:=A) (Z:=Z) (t:=t') (t0:=t0) hv hl hm hlv hbase hb hc hcl (by omega) htop hlt ht (iD.refl _ _) ho (fun t2 r k1 k2 k3 k4 k5 k6 k7=>?_)
  have hoq2:=hoq.off (fun e=>hne e.symm) k2
  have g1:=xU fF (b:=bq) (n:=Lq) (cap:=Lq) (j:=A.length) (by omega)
  obtain⟨t3,s1,s2,s3⟩:=hoq2.store (C:=yA) hbaseq (j:=A.length) (by simp;omega) (val BB c / val BB lv) pG rfl
  have hset:(List.replicate (A.length+1) 0++Qd).set A.length (val BB c / val BB lv)=List.replicate A.length 0++((val BB c / val BB lv)::Qd):=by
   rw[List.replicate_succ',ybz];rw[List.set_append_right _ _ (by simp)]
   simp
  rw[hset]at s2;rw[sB,wA,g1,wA];intro _ _ _;rw[s1,wA];have ho3:=k3.off hne s3
  have ht3:=k1.off hbq s3
  have hr:val BB r<val BB lv:=by rw[k6];exact ycy _ hVpos
  have hdm:=ych (val BB c) (val BB lv)
  have hU2:U=val BB lv*(BB^A.length*val BB ((val BB c / val BB lv)::Qd))+val BB (A++r):=by
   rw[hU,mT,mT];show _=val BB lv*(BB^A.length*((val BB c / val BB lv)+BB*val BB Qd))+_
   rw[k6];generalize val BB c / val BB lv=d at hdm ⊢
   generalize val BB c%val BB lv=z at hdm ⊢
   rw[<- hdm,yag];generalize BB^A.length=P
   rw[ybm P,ybm,ybm (val BB lv) (P*d),ybj P BB,<- ybj P (val BB lv),ybh P (val BB lv),ybj (val BB lv) P d]
   omega
  rcases hA:A.length with _ | j'
  ·have hnil:A=[]:=List.eq_nil_of_length_eq_zero hA
   subst hnil;refine z7w _ _ _ _ _ _ ?_
   have e3:((0:Nat):Int)-1 = -1:=by omega
   rw[e3];simp only[zw6,qA,tG];rw[yaa (by omega)]
   refine hexit t3 _ r Z ht3 (by simpa using ho3) (by simpa using s2) k4 k5 (fun x hx=>?_) (by simp at hLq ⊢;omega) (by simp at hLen;omega) hr (by simpa using hU2)
   rcases ybs.1 hx with rfl | hx
   ·exact k7
   ·exact hQl x hx
  ·obtain⟨x,hx⟩:=getElem?_of_lt (l:=A) (i:=j') (by omega)
   have hAx:A=A.take j'++[x]:=by
    rw[<- tS hx,yca (by omega)]
   have hxB:x<BB:=gI hAl hx
   have e3:((j'+1:Nat):Int)-1=(j':Int):=by omega
   rw[e3];have hvx:val BB (x::r)=x+BB*val BB r:=rfl
   refine ih j' (by omega) (A.take j') (x::r) (0::Z) ((val BB c / val BB lv)::Qd) t3 (by simp;omega) (by simp[k4]) (aR hAl _) (fun y hy=>?_) (fun y hy=>?_) (by simp;omega) (by simp;omega) ?_ ht3 ?_ ?_ ?_
   ·rcases ybs.1 hy with rfl | hy
    ·exact hxB
    ·exact k5 y hy
   ·rcases ybs.1 hy with rfl | hy
    ·exact k7
    ·exact hQl y hy
   ·rw[hvx]
    have:=ybv BB hr
    rw[Nat.mul_succ]at this;omega
   ·have:A.take j'++x::r++0::Z=A++(r++[0])++Z:=by
     conv=>rhs;rw[hAx]
     simp
    rw[this];exact ho3
   ·rw[<- hA];exact s2
   ·rw[hU2,hA]
    have:A++r=A.take j'++x::r:=by
     conv=>lhs;rw[hAx]
     simp
    rw[this]
end Go.Proofs
namespace Go.Am
def z05{a b q R p:Nat}(hp:0<p)(h:a*p=b*p*q+R)(hR:R<b*p):a=b*q+R / p/\R / p<b:=by
 have h1:p ∣ R:=(Nat.dvd_add_right (⟨b*q,by rw[ybh b p,ybj]⟩:p ∣ b*p*q)).1 (h ▸ ⟨a,ybh a p⟩)
 obtain⟨R',rfl⟩:=h1
 rw[Nat.mul_div_cancel_left _ hp];refine⟨Nat.eq_of_mul_eq_mul_left hp ?_,Nat.lt_of_mul_lt_mul_left (a:=p) ?_⟩
 ·rw[ybh p a,h,ybm,ybh b p,ybj]
 ·rw[ybh p b];exact hR
def div_v{B p K n top:Nat}{b rb:List Nat}(hB:B=p*K)(hp:0<p)(hlt:jB B b)(hl:b.length=n+1)(htop:b[n]?=some top)(ht:top*p<B)(hbig:B<=2*(top*p))(hrl:jB B rb)(hrb:rb.length=n+2)(hv:val B rb=val B b*p) :
  val B (rb.take (n+1))=val B b*p/\∀x,(rb.take (n+1))[n]?=some x->B<=2*x:=by
 have hB0:0<B:=by omega
 have hbv:val B b=val B (b.take n)+B^n*top:=by
  have:=nT B b n
  rw[this,uJ htop,ybt (by omega)]
  have:(b.take n).length=n:=by simp;omega
  rw[this];simp[val]
 have hlow:val B (b.take n)<B^n:=by
  have:=bK hB0 (aR hlt n)
  have h:(b.take n).length=n:=by simp;omega
  rw[h]at this;exact this
 have hK:top<K:=by
  rw[hB,ybh p K]at ht;exact Nat.lt_of_mul_lt_mul_right ht
 have hup:val B b*p<B^(n+1):=by
  have h1:val B b<B^n*(top+1):=by rw[hbv,ybm];omega
  have h2:B^n*(top+1)<=B^n*K:=ybv _ hK
  have h3:val B b*p<B^n*K*p:=Nat.mul_lt_mul_of_pos_right (by omega) hp
  have h4:B^n*K*p=B^(n+1):=by rw[yag,ybj,ybh K p,<- hB]
  omega
 have hsplit:=nT B rb (n+1)
 have htl:(rb.take (n+1)).length=n+1:=by simp;omega
 rw[htl]at hsplit;have hz:val B (rb.drop (n+1))=0:=by
  rcases yav (val B (rb.drop (n+1)))with h | h
  ·exact h
  ·exfalso
   have:=ybv (B^(n+1)) h
   rw[Nat.mul_one]at this;omega
 have hval:val B (rb.take (n+1))=val B b*p:=by rw[hz]at hsplit;omega
 refine⟨hval,fun x hx=>?_⟩
 have h1:val B (rb.take (n+1))=val B ((rb.take (n+1)).take n)+B^n*x:=by
  have:=nT B (rb.take (n+1)) n
  rw[this,uJ hx,ybt (by omega)]
  have h:((rb.take (n+1)).take n).length=n:=by simp;omega
  rw[h];simp[val]
 have h2:val B ((rb.take (n+1)).take n)<B^n:=by
  have:=bK hB0 (aR (aR hrl (n+1)) n)
  have h:((rb.take (n+1)).take n).length=n:=by simp;omega
  rw[h]at this;exact this
 have h3:B^n*(top*p)<=val B b*p:=by
  rw[hbv,ybo,ybj];omega
 have h4:B^n*(top*p)<B^n*(x+1):=by rw[ybm];omega
 have h5:top*p<x+1:=Nat.lt_of_mul_lt_mul_left h4
 omega
def div_u{B p n j:Nat}{a b ru:List Nat}(hB0:0<B)(hal:jB B a)(hb:B^n<=val B b)(hj:a.length=j+(n+1))(hru:ru.length=a.length+1)(hp:0<p)(hv:val B ru=val B a*p):val B (ru.drop j)<B*(val B b*p):=by
 have h1:=nT B ru j
 have htl:(ru.take j).length=j:=by simp;omega
 rw[htl]at h1;have h2:val B a<B^(j+(n+1)):=by rw[<- hj];exact bK hB0 hal
 have h3:val B a*p<B^(j+(n+1))*p:=Nat.mul_lt_mul_of_pos_right h2 hp
 have h4:B^(j+(n+1))*p=B^j*(B*(B^n*p)):=by
  rw[Nat.pow_add,yag,ybh (B^n) B,ybj,ybj]
 have h5:B^j*val B (ru.drop j)<B^j*(B*(B^n*p)):=by omega
 have h6:=Nat.lt_of_mul_lt_mul_left h5
 have h7:B*(B^n*p)<=B*(val B b*p):=ybv _ (ybi _ hb)
 omega
end Go.Am
namespace Go.Proofs
open Go Go.Am
variable [lC]
variable {t:Tr rA}
def zga{l:List Nat}{b L hi:Nat}(ho:rF t b .u32 l)(h2:hi<=L)(h3:0<L) :
  zH yA 244 ⟨0,t⟩ (.slice b 0 L L) none (some (.int .i64 (hi:Int)))=some (.slice b 0 hi L):=by
 obtain⟨c,hg,_⟩:=ho
 obtain⟨⟨y,hy1,hy2⟩,⟨z,hz1,hz2,hz3⟩⟩:=fF
 unfold zH;rw[hy1,sA];have hb:∀y (k:Nat),kR y (.int .i64 (k:Int))=cA (Nat.ble k y) (some k):=fun y k=>rfl
 unfold aK;simp only[zA.asStr,zA.asSlice];rw[hy2,sA];unfold eL;rw[hz1,sA];unfold lN ze2;simp only[hb];rw[show Nat.ble hi L=true from kE.2 h2];simp only[lE,sA]
 have he2:qJ ⟨0,t⟩ b z.size L 0 false=false:=by
  unfold qJ vE;rw[hg,sA];rfl
 rw[he2,yay,cond_false];have hf:vI ⟨0,t⟩ b z.size L 0 false=true:=by
  unfold vI vE;rw[hg,sA];rfl
 rw[show Nat.ble hi L=true from kE.2 h2,hf];simp only[Bool.and_self,lE];have hq:Nat.beq L 0=false:=by
  cases hq:Nat.beq L 0 with
  | true=>have:=fB.1 hq;omega
  | false=>rfl
 rw[hq,cond_false,Nat.zero_mul];rfl
def ztq{b o n c:Nat}:same 10 (.slice b o n c) (.slice b o n c)=true:=by
 simp[same]
def zpo{q W Z:List Nat}{b bq n s L Lq:Nat}{Q:cB}(ho:rF t b .u32 (W++[0]++Z))(hoq:rF t bq .u32 q)(hW:W.length=n)(hn:n<1000000)(hL:n+1+Z.length=L)(hq:q.length=Lq)(hLq:Lq<1000000)
  (hQ:∀qv rv,lA t 1 (iB .u32 (iE q)) qv->lA t 1 (iB .u32 (iE W)) rv->Q (.tup [qv,rv]) t) :
  jp 238 6 [.int .i64 (n:Int),.int .i64 (s:Int),.slice b 0 L L,.slice bq 0 Lq Lq,.int .i64 (n:Int),.int .i64 (n:Int)] t Q:=by
 have e1:=zga (L:=L) (hi:=n) ho (by omega) (by omega)
 have e2:lA t 1 (iB .u32 W) (.slice b 0 n L):=by
  have:=ho.slice (off:=0) (n:=n) (cap:=L) (by simp;omega) (by omega)
  rw[ycr,ybz,List.take_left' hW]at this;exact this
 have e3:lA t 1 (iB .u32 q) (.slice bq 0 Lq Lq):=by
  have:=hoq.all (cap:=Lq) (by omega)
  rw[hq]at this;exact this
 obtain⟨qv,f1,f2⟩:=iT (by omega) e3
 obtain⟨rv,f3,f4⟩:=iT (by omega) e2
 refine z7v _ _ _ _ _ _ ?_
 simp only[zw5,qA,zD];rw[yaa (by omega)]
 simp only[e1,wA,q212,f1,f3];rw[ztq];exact hQ qv rv f2 f4
def zmk{a b:List Nat}{u v:zA}{Q:cB}(hu:lA t 1 (iB .u32 a) u)(hv:lA t 1 (iB .u32 b) v)(ha:a.length<700000)(hal:jB BB a)(hbl:jB BB b)(han:norm a)(hbn:norm b)(hb0:b≠[])
  (hQ:∀t' q r qv rv,dA t t'->lA t' 1 (iB .u32 q) qv->lA t' 1 (iB .u32 r) rv->jB BB q->jB BB r->norm q->norm r->val BB a=val BB b*val BB q+val BB r->val BB r<val BB b->Q (.tup [qv,rv]) t') :
  Wc yA F 238 [u,v] t Q:=by
 have hBB:=dK
 have hB1:1<BB:=by omega
 have hlt:=z1n hB1 hal hbl han hbn
 refine w238 _ _ ?_
 simp only[t238,qA,q236,z8h (by omega) hu hv,wA,sB,zD]
 by_cases hc:bJ a b<0
 ·rw[yab hc]
  simp only[q251];refine z6a hu (by omega) fun t' v' h1 h2=>?_
  exact hQ t' [] a _ _ h1 ⟨[],.inl ⟨rfl,rfl⟩,by simp[iB,sC]⟩ h2 (fun x hx=>by cases hx) hal (fun h=>absurd rfl h) han (by simp[val]) (hlt.1 hc)
 ·rw[yaa hc]
  have hge:val BB b<=val BB a:=Nat.le_of_not_lt fun h=>hc (hlt.2 h)
  have hlen:b.length<=a.length:=gO hB1 hal hbn hge
  simp only[hv.len,wA,sB,nF,mG];by_cases h1:b.length=1
  ·rw[yab (by omega)]
   obtain⟨d,rfl⟩:∃d,b=[d]:=by
    match b,h1 with
    | [d],_=>exact⟨d,rfl⟩
   have hd:d<4294967296:=by have:=hbl d (by simp);omega
   have hd0:0<d:=by have:=hbn (by simp);simp at this;omega
   obtain⟨c,off,g1,g2⟩:=hv.idx fF (i:=0) (x:=d) rfl
   have g1':qB yA 244 v (.int .i64 0)=some (.ptr c off):=g1
   simp only[g1',g2,wA,sB,q191];refine zmj hu (by omega) (by rw[<- hBB];exact hal) hd hd0 fun t' v' q r k1 k2 k3 k4 k5 k6=>?_
   simp only[mB,zA.asTup,sA,eF,yaz,yba,wA,sB];intro b' hb' _;obtain⟨H',m1,m2,m3⟩:=zo1 (k:=.u32) fL rfl pG rfl rfl r trivial hb'
   have hR:=m2.all (cap:=1) (by simp)
   obtain⟨rv,f1,f2⟩:=iT (by simp) hR
   have f1':uC yA F 212 [.slice b' 0 1 1] H'.t=some rv:=f1
   rw[m1];simp only[wA,q212,f1'];rw[<- hBB]at k3 k6;have hrl:jB BB [r]:=fun x hx=>by rw[ydd.1 hx];omega
   refine hQ H'.t (iE q) (iE [r]) v' rv (k1.trans m3) (k2.mono m3) f2 (lQ k3) (lQ hrl) (xQ _) (xQ _) ?_ ?_
   ·rw[jM,jM];simp only[val];rw[k6,ybh];simp
   ·rw[jM];simp only[val];omega
  ·rw[yaa (by omega)]
   have hbpos:0<b.length:=List.length_pos_iff.2 hb0
   obtain⟨m,hm⟩:∃m,b.length=m+2:=⟨b.length-2,by omega⟩
   obtain⟨j,hj⟩:∃j,a.length=j+(m+2):=⟨a.length-(m+2),by omega⟩
   obtain⟨top,htop⟩:=getElem?_of_lt (l:=b) (i:=m+1) (by omega)
   have htlt:top<4294967296:=by have:=gI hbl htop;omega
   have ht0:0<top:=by
    have:=hbn hb0
    have hlast:b.getLast hb0=top:=by
     rw[List.getLast_eq_getElem];have:b[b.length-1]?=some top:=by rw[hm];exact htop
     exact(ybc.1 this).2
    omega
   obtain⟨s,hs,hs1,hs2,hs3⟩:=zy2 (t:=t) htlt ht0
   obtain⟨c,off,g1,g2⟩:=hv.idx fF htop
   have eb:((m+2:Nat):Int)-1=((m+1:Nat):Int):=by omega
   simp (disch:=omega) only[hm,eb,wrap_i64,g1,g2,wA,sB,q249,hs3,q252]
   refine zgd hv (by omega) (by rw[<- hBB];exact hbl) hs fun t1 b1 rb k1 k2 k3 k4 k5 k6 k7=>?_
   rw[<- hBB]at k6 k7;rw[hm]at k5 ⊢
   have hK:BB=2^s*2^(32-s):=by rw[<- Nat.pow_add,show s+(32-s)=32 by omega,hBB]
   have hp:0<2^s:=Nat.pow_pos (by decide)
   obtain⟨w1,w2⟩:=div_v (n:=m+1) hK hp hbl hm htop (by omega) (by omega) k6 k5 k7
   have e1:=zga (L:=m+2+1) (hi:=m+2) k4 (by omega) (by omega)
   have hv1:lA t1 1 (iB .u32 (rb.take (m+2))) (.slice b1 0 (m+2) (m+2+1)):=by
    have:=k4.slice (off:=0) (n:=m+2) (cap:=m+2+1) (by omega) (by omega)
    rw[ycr]at this;exact this
   simp only[e1,wA];refine zgd (hu.mono k1) (by omega) (by rw[<- hBB];exact hal) hs fun t2 b2 ra n1 n2 n3 n4 n5 n6 n7=>?_
   rw[<- hBB]at n6 n7;rw[hj]at n5 ⊢
   have ea:((j+(m+2):Nat):Int)-((m+2:Nat):Int)=(j:Int):=by omega
   have ea2:(j:Int)+1=((j+1:Nat):Int):=by omega
   simp (disch:=omega) only[hu.len,nF,hj,wA,sB,ea,ea2,wrap_i64]
   intro bq hbq hbaseq;obtain⟨t3,p1,p2,p3,p4⟩:=sV (C:=yA) (k:=.u32) fL rfl pG rfl rfl (by decide) (n:=j+1) (by omega) hbq
   rw[p1];have el:oB (.slice bq 0 (j+1) (j+1))=some (.int .i64 ((j+1:Nat):Int)):=rfl
   have el2:((j+1:Nat):Int)-1=(j:Int):=by omega
   simp (disch:=omega) only[wA,el,sB,el2,wrap_i64]
   have hne:b2≠bq:=by
    intro e;obtain⟨c,hc1,_⟩:=n4
    rw[e,hbq]at hc1
    cases hc1
   have hbq1:t1.get bq=none:=by
    cases hg:t1.get bq with
    | none=>rfl
    | some x=>rw[n1 _ _ hg]at hbq;cases hbq
   have hVpos:0<val BB (rb.take (m+2)):=by
    rw[w1];refine Nat.mul_pos ?_ hp
    have:=zv5 (B:=BB) hbn hb0
    have h2:0<BB^(b.length-1):=Nat.pow_pos aG
    omega
   have hbge:BB^(m+1)<=val BB b:=by
    have:=zv5 (B:=BB) hbn hb0
    rw[hm]at this;exact this
   have hcl:=div_u (n:=m+1) (j:=j) (p:=2^s) aG hal hbge (by omega) (by omega) hp n7
   have hta:ra.take j++ra.drop j=ra:=List.take_append_drop _ _
   refine zpp (U:=val BB ra) hv1 (by simp;omega) (by omega) (aR k6 _) n3 hbaseq n2 hbq1 hne (by omega) (fun x hx=>by have:=w2 x hx;omega) hVpos (fun t4 q r Z z1 z2 z3 z4 z5 z6 z7 z8 z9 z10=>?_) j (ra.take j) (ra.drop j) [] [] t3 (by simp;omega) (by simp;omega) (aR n6 _) (zhu n6 _) (fun x hx=>by cases hx) (by simp;omega) (by simp) ?_ (n1.trans p3) ?_ (by simpa using p2) ?_
   ·have hcl2:jB BB (r++[0]):=wT z5 aG
    refine zkb (t:=t4) (Z:=Z) (c:=r++[0]) (cn:=0) (by omega) (by simp[z4]) hcl2 (by rw[<- z4];simp) n3 hs (by omega) (fun t5 W y1 y2 y3 y4 y5=>?_) (m+2) 0 t4 [] (by omega) (iD.refl _ _) (by simpa using z2) rfl (fun x hx=>by cases hx) (by rw[ycr,Nat.pow_zero,Nat.one_mul];exact ybw _)
    have y6:val BB W=val BB r / 2^s:=by
     rw[pL,yat,yct,Nat.zero_div,yat,yct]at y5;exact y5
    rw[w1]at z9 z10;rw[n7]at z10;obtain⟨x1,x2⟩:=z05 hp z10 z9
    refine zpo y2 (z3.off (fun e=>hne e.symm) y1) y3 (by omega) (by omega) z7 (by omega) fun qv rv x3 x4=>?_
    have ht5:dA t t5:=k1.trans (z1.off n2 y1)
    exact hQ t5 (iE q) (iE W) qv rv ht5 x3 x4 (lQ z6) (lQ y4) (xQ _) (xQ _) (by rw[jM,jM,y6];exact x1) (by rw[jM,y6];exact x2)
   ·rw[w1];exact hcl
   ·rw[hta,ycd];exact n4.tle p3
   ·have hv0:val BB ([]:List Nat)=0:=rfl
    rw[hta,hv0,yat,yat,ybw]
end Go.Proofs
namespace Go.Am
def wd (l:List Nat)(i:Nat):Nat:=(l[i]?).getD 0
def zno{B:Nat}(hB:0<B){l:List Nat}(h:jB B l)(i:Nat):wd l i<B:=by
 unfold wd
 cases hx:l[i]? with
 | none=>exact hB
 | some x=>exact gI h hx
def fV(B:Nat)(l:List Nat)(i:Nat):val B (l.take (i+1))=val B (l.take i)+B^i*wd l i:=by
 unfold wd
 cases hx:l[i]? with
 | none=>
  have:=List.getElem?_eq_none_iff.1 hx
  rw[yca (by omega),yca (by omega)]
  simp
 | some x=>
  have hi:=(ybc.1 hx).1
  rw[tS hx,pL];have:(l.take i).length=i:=by simp;omega
  rw[this];rfl
def z06{B P u v Va Vb w x y bo ai bi x' y' lx ly bo' W:Nat}(h:W+P*x+v*Vb=u*Va+P*(y+bo))(hx:B*x'+lx=x+u*ai)(hy:B*y'+ly=y+v*bi)(hw:lx+B*bo'=w+ly+bo) :
  (W+P*w)+P*B*x'+v*(Vb+P*bi)=u*(Va+P*ai)+P*B*(y'+bo'):=by
 have e:P*(x+u*ai+B*y'+B*bo')=P*(w+B*x'+y+v*bi+bo):=congrArg (P * ·) (by omega)
 have e1:v*(P*bi)=P*(v*bi):=Nat.mul_left_comm _ _ _
 have e2:u*(P*ai)=P*(u*ai):=Nat.mul_left_comm _ _ _
 simp only[ybm,ybj]at e h ⊢
 rw[e1,e2];omega
def z5z{P W x z X Y:Nat}(h:W+P*x+Y=X+P*z)(hW:W<P)(hX:X<P)(hle:Y<=X):W=X-Y:=by
 rcases Nat.lt_trichotomy x z with g | g | g
 ·have:=ybv P g
  rw[Nat.mul_succ]at this;omega
 ·rw[g]at h;omega
 ·have:=ybv P g
  rw[Nat.mul_succ]at this;omega
def zsx{B u x a:Nat}(hx:x<=u)(ha:a<B):(x+u*a) / B<=u:=by
 have h:x+u*a<=u*B:=by
  have:=ybv u (Nat.succ_le_of_lt ha)
  rw[Nat.mul_succ]at this;omega
 exact Nat.div_le_of_le_mul (by rw[ybh B];exact h)
end Go.Am
namespace Go.Proofs
open Go Go.Am
variable [lC]
variable {t:Tr rA}
def zre{x u a:Nat}(hx:x<=u)(hu:u<4294967296)(ha:a<4294967296):tA .u64 ((x:Int)+tA .u64 ((u:Int)*tA .u64 (a:Int)))=((x+u*a:Nat):Int):=by
 have h:u*a<=4294967295*4294967295:=ydb (by omega) (by omega)
 rw[bE (n:=(a:Int)) (by omega) (by omega),<- Int.natCast_mul]
 generalize u*a=z at h ⊢
 rw[bE (n:=(z:Int)) (by omega) (by omega),bE (by omega) (by omega)]
 omega
def zu3{la lb:List Nat}{pa pb w:zA}{u v x y bo n i:Nat}{Q:cB}(ha:lA t 1 (iB .u32 la) pa)(hb:lA t 1 (iB .u32 lb) pb)(hal:jB BB la)(hbl:jB BB lb)(hu:u<4294967296)(hv:v<4294967296)(hx:x<=u)(hy:y<=v)(hi:i<n)
  (h:jp 239 21 [.int .u64 (u:Int),pa,.int .u64 (v:Int),pb,w,.int .u64 ((x+u*wd la i:Nat):Int),.int .u64 ((y+v*wd lb i:Nat):Int),.int .u32 (bo:Int),.int .i64 (i:Int),.int .i64 (n:Int),.int .i64 (i:Int)] t Q) :
  jp 239 2 [.int .u64 (u:Int),pa,.int .u64 (v:Int),pb,w,.int .u64 (x:Int),.int .u64 (y:Int),.int .u32 (bo:Int),.int .i64 (n:Int),.int .i64 (i:Int)] t Q:=by
 have hBB:=dK
 have second:jp 239 17 [.int .u64 (u:Int),pa,.int .u64 (v:Int),pb,w,.int .u64 ((x+u*wd la i:Nat):Int),.int .u64 (y:Int),.int .u32 (bo:Int),.int .i64 (i:Int),.int .i64 (n:Int),.int .i64 (i:Int)] t Q:=by
  refine zzaj _ _ _ _ _ _ _ _ _ _ _ ?_
  simp only[zw4,qA,hb.len,wA,sB,nF,zD];by_cases hlen:i<lb.length
  ·obtain⟨z,hz⟩:=getElem?_of_lt hlen
   have hz32:z<4294967296:=by have:=gI hbl hz;omega
   obtain⟨c,off,g1,g2⟩:=hb.idx fF hz
   rw[yab (by omega)]
   simp only[g1,g2,wA,sB];rw[zre hy hv hz32];have:wd lb i=z:=by unfold wd;rw[hz];rfl
   rw[this]at h;exact h
  ·rw[yaa (by omega)]
   have:wd lb i=0:=by unfold wd;rw[List.getElem?_eq_none (by omega)];rfl
   rw[this,yat,yct]at h;exact h
 refine z7u _ _ _ _ _ _ _ _ _ _ ?_
 simp only[zw3,qA,zD];rw[yab (by omega)]
 simp only[ha.len,wA,sB,nF];by_cases hlen:i<la.length
 ·obtain⟨z,hz⟩:=getElem?_of_lt hlen
  have hz32:z<4294967296:=by have:=gI hal hz;omega
  obtain⟨c,off,g1,g2⟩:=ha.idx fF hz
  rw[yab (by omega)]
  simp only[g1,g2,wA,sB];rw[zre hx hu hz32];have:wd la i=z:=by unfold wd;rw[hz];rfl
  rw[this]at second;exact second
 ·rw[yaa (by omega)]
  have:wd la i=0:=by unfold wd;rw[List.getElem?_eq_none (by omega)];rfl
  rw[this,yat,yct]at second;exact second
end Go.Proofs
namespace Go.Proofs
open Go Go.Am
section
variable [lC]
variable {t:Tr rA}
def z07{la lb:List Nat}{pa pb:zA}{b u v n:Nat}{t0:Tr rA}{Q:cB}(ha:lA t0 1 (iB .u32 la) pa)(hb:lA t0 1 (iB .u32 lb) pb)(hal:jB BB la)(hbl:jB BB lb)(hu:u<4294967296)(hv:v<4294967296)(hn:n<1000000)(hbase:yA.base<=b)(hb0:t0.get b=none)
  (hQ:∀t' W rv x z,dA t0 t'->lA t' 1 (iB .u32 (iE W)) rv->W.length=n->jB BB W->val BB W+BB^n*x+v*val BB (lb.take n)=u*val BB (la.take n)+BB^n*z->Q rv t') :
  ∀(k i x y bo:Nat) (t':Tr rA) (W:List Nat),i+k=n->dA t0 t'->rF t' b .u32 (W++List.replicate k 0)->W.length=i->jB BB W->x<=u->y<=v->bo<2->val BB W+BB^i*x+v*val BB (lb.take i)=u*val BB (la.take i)+BB^i*(y+bo) →
  jp 239 2 [.int .u64 (u:Int),pa,.int .u64 (v:Int),pb,.slice b 0 n n,.int .u64 (x:Int),.int .u64 (y:Int),.int .u32 (bo:Int),.int .i64 (n:Int),.int .i64 (i:Int)] t' Q:=by
 intro k;have hBB:=dK
 induction k with
 | zero=>
  intro i x y bo t' W hi ht ho hW hWl hx hy hbo hval;have hi':i=n:=by omega
  subst hi'
  have e3:lA t' 1 (iB .u32 W) (.slice b 0 i i):=by
   rw[List.replicate_zero,ycd]at ho;have:=ho.all (cap:=i) (by omega)
   rw[hW]at this;exact this
  obtain⟨rv,f1,f2⟩:=iT (by omega) e3
  refine z7u _ _ _ _ _ _ _ _ _ _ ?_
  simp only[zw3,qA,zD];rw[yaa (by omega)]
  simp only[q212,f1,wA];exact hQ t' W rv x (y+bo) ht f2 hW hWl hval
 | succ k ih=>
  intro i x y bo t' W hi ht ho hW hWl hx hy hbo hval;refine zu3 (ha.mono ht) (hb.mono ht) hal hbl hu hv hx hy (by omega) ?_
  have wa:=zno aG hal i
  have wb:=zno aG hbl i
  have cx:=zsx hx wa
  have cy:=zsx hy wb
  have va:=fV BB la i
  have vb:=fV BB lb i
  generalize wd la i=ai at *
  generalize wd lb i=bi at *
  generalize hX:x+u*ai=X at *
  generalize hY:y+v*bi=Y at *
  have ex:tA .u32 (X:Int)=((X%4294967296:Nat):Int):=by rw[kM];omega
  have ey:tA .u32 (Y:Int)=((Y%4294967296:Nat):Int):=by rw[kM];omega
  have fx:Int.fdiv (X:Int) 4294967296=((X / 4294967296:Nat):Int):=rP X 4294967296
  have fy:Int.fdiv (Y:Int) 4294967296=((Y / 4294967296:Nat):Int):=rP Y 4294967296
  have hs:=z3a (t:=t') (x:=X%4294967296) (y:=Y%4294967296) (b:=bo) (ycy _ (by decide)) (ycy _ (by decide)) hbo
  obtain⟨w,hw⟩:∃w,w=(X%4294967296+8589934592-Y%4294967296-bo)%4294967296:=⟨_,rfl⟩
  obtain⟨bo',hbo'⟩:∃bo':Nat,bo'=if X%4294967296<Y%4294967296+bo then 1 else 0:=⟨_,rfl⟩
  rw[<- hw,<- hbo']at hs;have hwlt:w<BB:=by omega
  have hb2:bo'<2:=by rw[hbo'];split<;>omega
  have hsum:X%4294967296+4294967296*bo'=w+Y%4294967296+bo:=by
   rw[hw,hbo'];split<;>omega
  have g1:=xU fF (b:=b) (n:=n) (cap:=n) (j:=i) (by omega)
  obtain⟨t1,s1,s2,s3⟩:=ho.store (C:=yA) hbase (j:=i) (by simp;omega) w pG rfl
  have hset:=nX (p:=W) (n:=k) (x:=w)
  rw[hW]at hset;rw[hset]at s2;have ei:(i:Int)+1=((i+1:Nat):Int):=by omega
  refine zzai _ _ _ _ _ _ _ _ _ _ _ ?_
  simp only[zw2,qA,ex,ey,q254,hs,wA,mB,zA.asTup,sA,eF,yaz,yba,sB,g1,fx,fy,ei];intro _ _ _;rw[s1,wA,wrap_i64 (by omega) (by omega)]
  rw[hBB]at cx cy;refine ih (i+1) (X / 4294967296) (Y / 4294967296) bo' t1 (W++[w]) (by omega) (ht.off hb0 s3) s2 (by simp[hW]) (wT hWl hwlt) cx cy hb2 ?_
  have hst:=z06 (B:=BB) (P:=BB^i) (ai:=ai) (bi:=bi) (x':=X / 4294967296) (y':=Y / 4294967296) (lx:=X%4294967296) (ly:=Y%4294967296) (w:=w) (bo':=bo') hval (by rw[hX,hBB];exact ych _ _) (by rw[hY,hBB];exact ych _ _) (by rw[hBB];exact hsum)
  rw[va,vb,pL,hW,yag];exact hst
def pY{la lb:List Nat}{pa pb:zA}{u v:Nat}{Q:cB}(ha:lA t 1 (iB .u32 la) pa)(hb:lA t 1 (iB .u32 lb) pb)(hal:jB BB la)(hbl:jB BB lb)(hu:u<4294967296)(hv:v<4294967296)(hla:la.length<700000)(hlb:lb.length<700000)(hge:v*val BB lb<=u*val BB la)
  (hQ:∀t' r rv,dA t t'->lA t' 1 (iB .u32 r) rv->jB BB r->norm r->val BB r=u*val BB la-v*val BB lb->Q rv t') :
  Wc yA F 239 [.int .u64 (u:Int),pa,.int .u64 (v:Int),pb] t Q:=by
 have hBB:=dK
 refine w239 _ _ _ _ ?_
 simp only[t239,qA,ha.len,hb.len,wA,sB,nF];obtain⟨n,hn1,hn2,hn3,hn4⟩:∃n:Nat,(bif bB (la.length:Int) (lb.length:Int)then(lb.length:Int)else(la.length:Int))+1=(n:Int)/\la.length<n/\lb.length<n/\n<700002:=by
  cases hc:bB (la.length:Int) (lb.length:Int)with
  | true=>have:=zD.1 hc;exact⟨lb.length+1,by simp,by omega,by omega,by omega⟩
  | false=>
   have:¬ ((la.length:Int)<(lb.length:Int)):=fun h=>by rw[zD.2 h]at hc;cases hc
   exact⟨la.length+1,by simp,by omega,by omega,by omega⟩
 rw[hn1,wrap_i64 (by omega) (by omega)]
 intro b hb0 hbase;obtain⟨t',g1,g2,g3,g4⟩:=sV (C:=yA) (k:=.u32) fL rfl pG rfl rfl (by decide) (n:=n) (by omega) hb0
 rw[g1];have el:oB (.slice b 0 n n)=some (.int .i64 (n:Int)):=rfl
 simp only[wA,el,sB];refine z07 ha hb hal hbl hu hv (by omega) hbase hb0 (fun t2 W rv x z k1 k2 k3 k4 k5=>?_) n 0 0 0 0 t' [] (by omega) g3 (by simpa using g2) rfl (fun x hx=>by cases hx) (by omega) (by omega) (by omega) (by simp[val])
 rw[yca (by omega),yca (by omega)]at k5
 have hP:u*val BB la<BB^n:=by
  have h1:=bK aG hal
  have h2:BB^(la.length+1)<=BB^n:=yao aG (by omega)
  have h3:u*val BB la<=u*BB^la.length:=ybv _ (Nat.le_of_lt h1)
  have h4:u*BB^la.length<BB*BB^la.length:=Nat.mul_lt_mul_of_pos_right (by omega) (Nat.pow_pos aG)
  rw[yag,ybh _ BB]at h2;omega
 have hWl:=bK aG k4
 rw[k3]at hWl;have:=z5z k5 hWl hP hge
 exact hQ t2 (iE W) rv k1 k2 (lQ k4) (xQ _) (by rw[jM];exact this)
end
section
variable [lC]
variable {t:Tr rA}
def zzbn{v:zA}{l:List Nat}{b:Nat}(hv:lA t 1 (iB .u32 l) v)(hb:t.get b=none) :
  ∃H',ztb v ⟨b,t⟩=some (.ptr b 0,H')/\dA t H'.t/\mA yA 244 ⟨0,H'.t⟩ (.ptr b 0)=some v:=by
 have hc:v.cells=[v]:=by
  obtain⟨cl,h1,_⟩:=hv
  rcases h1 with⟨rfl,_⟩ | ⟨_,_,_,rfl,_⟩<;>rfl
 refine⟨mE ⟨b,t⟩ [v] none,by unfold ztb;rw[hc],?_,?_⟩
 ·intro c u hg
  show(t.set b _).get c=_
  rw[Tr.get_set,yaa (by intro e;rw[e,hb]at hg;cases hg)];exact hg
 ·have hg:(mE ⟨b,t⟩ [v] none).t.get b=some (.cells (Tr.ofList [v]) 1 none):=by
   show(t.set b _).get b=_
   rw[Tr.get_set,yab rfl];rfl
  unfold mA;simp only[zA.asPtr,sA];rw[fL,sA];unfold vE;rw[hg,sA];simp only[rA.asCells,sA];unfold wN;first
   | rfl
   | (rw[cond_false,Tr.get_ofList];rfl)
def znn{v:zA}{l:List Nat}{b i:Nat}(hv:lA t 1 (iB .u32 l) v)(hl:jB BB l)(hload:mA yA 244 ⟨0,t⟩ (.ptr b 0)=some v):uC yA F 259 [.int .i64 (i:Int),.ptr b 0] t=some (.int .u64 ((wd l i:Nat):Int)):=by
 have hBB:=dK
 refine mD.2 (w259 _ _ ?_)
 simp only[t259,qA,hload,wA,hv.len,sB,nF,tG];by_cases h:i<l.length
 ·obtain⟨x,hx⟩:=getElem?_of_lt h
  have hx32:x<4294967296:=by have:=gI hl hx;omega
  obtain⟨c,off,g1,g2⟩:=hv.idx fF hx
  rw[yaa (by omega)]
  simp (disch:=omega) only[g1,g2,wA,sB,bE]
  have:wd l i=x:=by unfold wd;rw[hx];rfl
  rw[this];simp
 ·rw[yab (by omega)]
  have:wd l i=0:=by unfold wd;rw[List.getElem?_eq_none (by omega)];rfl
  rw[this];simp
def z0b{v:zA}{l:List Nat}{n s:Nat}(hv:lA t 1 (iB .u32 l) v)(hl:jB BB l)(hn:3<=n)(hn2:n<1000000)(hs:s<32)(hb:(wd l (n-1)*4294967296+wd l (n-2))*2^s<18446744073709551616) :
  uC yA F 250 [v,.int .i64 (n:Int),.int .i64 (s:Int)] t=some (.int .u64 (((wd l (n-1)*4294967296+wd l (n-2))*2^s+wd l (n-3) / 2^(32-s):Nat):Int)):=by
 have hBB:=dK
 refine zN (w250 _ _ _ ?_)
 simp only[t250,qA];intro b hb0 _;obtain⟨H',g1,g2,g3⟩:=zzbn hv hb0
 rw[g1,wA];have w1:=zno aG hl (n-1)
 have w2:=zno aG hl (n-2)
 have w3:=zno aG hl (n-3)
 have c1:=znn (i:=n-1) (hv.mono g2) hl g3
 have c2:=znn (i:=n-2) (hv.mono g2) hl g3
 have c3:=znn (i:=n-3) (hv.mono g2) hl g3
 generalize wd l (n-1)=x1 at *
 generalize wd l (n-2)=x2 at *
 generalize wd l (n-3)=x3 at *
 have e1:(n:Int)-1=((n-1:Nat):Int):=by omega
 have e2:(n:Int)-2=((n-2:Nat):Int):=by omega
 have e3:(n:Int)-3=((n-3:Nat):Int):=by omega
 have e4:(32:Int)-(s:Int)=((32-s:Nat):Int):=by omega
 have f:∀a,kN (.func (.func 259) [] [.ptr b 0]) [a]=some (259,[a,.ptr b 0]):=fun _=>rfl
 have e5:(x1:Int)*4294967296=((x1*4294967296:Nat):Int):=by omega
 rw[f,wA,e1,wrap_i64 (by omega) (by omega),q259,c1,wA,sB,wA,f,wA,e2,wrap_i64 (by omega) (by omega),q259,c2,wA,sB,wA,e5,bE (by omega) (by omega),or32 (by omega) (by omega),wA,sB,wA,zsd (by omega) hb,wA,sB,wA,f,wA,e3,wrap_i64 (by omega) (by omega),q259,c3,wA,sB,wA,e4,wrap_i64 (by omega) (by omega),zsc (by omega),wA,sB,wA]
 have hz:x3 / 2^(32-s)<2^s:=ycu (by rw[<- Nat.pow_add,show 32-s+s=32 by omega];omega)
 have hz2:(2:Nat)^s<=2^31:=yao (by decide) (by omega)
 generalize x3 / 2^(32-s)=z at hz ⊢
 have ho:=zgc (a:=x1*4294967296+x2) (b:=z) (n:=s) hz
 generalize (x1*4294967296+x2)*2^s=h at hb ho ⊢
 have hz3:z<18446744073709551616:=by omega
 rw[vP (k:=.u64) (show h<dF .u64 from hb) (show z<dF .u64 from hz3),ho,wA,sB,wA]
 exact⟨rfl,g2⟩
end
section
variable [lC]
variable {t:Tr rA}
def zif{A1 B1:Nat}{P:Nat->Nat->Nat->Nat->Nat->Nat->Nat->Nat->Bool->Prop}{Q:cB}(hA:A1<18446744073709551616)(hB:B1<18446744073709551616)
  (hstep:∀x y u0 u1 u2 v0 v1 v2 ev,P x y u0 u1 u2 v0 v1 v2 ev->0<y->v2<=y->v1+v2<=x-y->P y (x%y) u1 u2 (u1+x / y*u2) v1 v2 (v1+x / y*v2) (!ev))
  (hQ:∀x y u0 u1 u2 v0 v1 v2 ev,P x y u0 u1 u2 v0 v1 v2 ev->Q (.agg [.int .u64 (u0:Int),.int .u64 (u1:Int),.int .u64 (v0:Int),.int .u64 (v1:Int),.bool ev]) t) :
  ∀(y x u0 u1 u2 v0 v1 v2:Nat) (ev:Bool) (c0 c1 c2 c3:Int) (c4:Bool),P x y u0 u1 u2 v0 v1 v2 ev->A1=v2*x+v1*y->B1=u2*x+u1*y->y<=x->1<=v2->v1<=v2 →
  jp 237 2 [.int .u64 (x:Int),.int .u64 (y:Int),.int .u64 (u2:Int),.int .u64 (v2:Int),.int .u64 c0,.int .u64 c1,.int .u64 c2,.int .u64 c3,.bool c4,.int .u64 (u0:Int),.int .u64 (u1:Int),.int .u64 (v0:Int),.int .u64 (v1:Int),.bool ev] t Q:=by
 intro y;induction y using Nat.strongRecOn with
 | ind y ih=>
  intro x u0 u1 u2 v0 v1 v2 ev c0 c1 c2 c3 c4 hP hx hy hle h1 h12;refine j237_2 _ _ _ _ _ _ _ _ _ _ _ _ _ _ ?_
  simp only[z64,qA,tG];by_cases g1:v2<=y
  ·rw[yab (by omega)]
   have hy0:0<y:=by omega
   have b1:v2*x<=A1:=by omega
   have b2:x<=A1:=Nat.le_trans (yan x (by omega)) b1
   have b3:v2<4294967296:=by
    rcases yau v2 4294967296 with h | h
    ·exact h
    ·exfalso
     have:4294967296*4294967296<=v2*x:=ydb h (by omega)
     omega
   have e1:tA .u64 ((v1:Int)+(v2:Int))=((v1+v2:Nat):Int):=by rw[bE (by omega) (by omega)];omega
   have e2:tA .u64 ((x:Int)-(y:Int))=((x-y:Nat):Int):=by rw[bE (by omega) (by omega)];omega
   rw[e1,e2];by_cases g2:v1+v2<=x-y
   ·rw[yab (by omega)]
    have hdm:=ych x y
    have hmod:x%y<y:=ycy _ hy0
    have hq1:1<=x / y:=by
     rw[Nat.le_div_iff_mul_le hy0];omega
    have hxq:x / y<=x:=Nat.div_le_self _ _
    have e3:z49 .u64 (x:Int) (y:Int)=some (.int .u64 ((x / y:Nat):Int)):=zjf hy0 (by
     generalize x / y=q at hxq ⊢
     exact bE (by omega) (by omega))
    have e4:zvu .u64 (x:Int) (y:Int)=some (.int .u64 ((x%y:Nat):Int)):=zcq hy0
    have hst:=hstep x y u0 u1 u2 v0 v1 v2 ev hP hy0 g1 g2
    generalize x / y=q at *
    generalize x%y=r at *
    have nA:A1=(v1+q*v2)*y+v2*r:=by
     rw[hx,<- hdm,ybm,ybo,ybh y q,<- ybj v2 q,ybh v2 q];omega
    have nB:B1=(u1+q*u2)*y+u2*r:=by
     rw[hy,<- hdm,ybm,ybo,ybh y q,<- ybj u2 q,ybh u2 q];omega
    have bv:v1+q*v2<=A1:=Nat.le_trans (Nat.le_mul_of_pos_right _ hy0) (by omega)
    have bu:u1+q*u2<=B1:=Nat.le_trans (Nat.le_mul_of_pos_right _ hy0) (by omega)
    have bq:v2<=q*v2:=yan _ hq1
    have e5:tA .u64 ((v1:Int)+tA .u64 ((q:Int)*(v2:Int)))=((v1+q*v2:Nat):Int):=by
     rw[<- Int.natCast_mul];generalize q*v2=z at bv ⊢
     rw[bE (n:=(z:Int)) (by omega) (by omega),bE (by omega) (by omega)];omega
    have e6:tA .u64 ((u1:Int)+tA .u64 ((q:Int)*(u2:Int)))=((u1+q*u2:Nat):Int):=by
     rw[<- Int.natCast_mul];generalize q*u2=z at bu ⊢
     rw[bE (n:=(z:Int)) (by omega) (by omega),bE (by omega) (by omega)];omega
    rw[e3,wA,sB,wA,e4,wA,sB,wA,e5,e6];simp only[if_true];exact ih r hmod y u1 u2 (u1+q*u2) v1 v2 (v1+q*v2) (!ev) _ _ _ _ _ hst nA nB (by omega) (by omega) (by omega)
   ·rw[yaa (by omega)]
    simp only[if_true];exact hQ x y u0 u1 u2 v0 v1 v2 ev hP
  ·rw[yaa (by omega)]
   simp only[if_true];exact hQ x y u0 u1 u2 v0 v1 v2 ev hP
end
end Go.Proofs
namespace Go.Am
def Lrel (a b x y u1 u2 v1 v2:Nat)(ev:Bool):Prop:=
 match ev with
 | false=>u1*v2=u2*v1+1/\x+v1*b=u1*a/\y+u2*a=v2*b
 | true=>u2*v1=u1*v2+1/\x+u1*a=v1*b/\y+v2*b=u2*a
def Lst (u1 u2 v1 v2:Nat):Prop:=(u1=1/\v1=0/\u2=0)\/(u1<=v1/\u2<=v2/\1<=u2/\1<=v1)
def z6r(a b u0 u1 v0 v1:Nat)(ev:Bool):Prop:=∃x y,Lrel a b x y u0 u1 v0 v1 (!ev)/\v1<=y/\v0+v1<=x-y/\u0<=v0/\u1<=v1/\1<=u1/\1<=v0/\v0<=v1
def Lsim (a b x y u0 u1 u2 v0 v1 v2:Nat)(ev:Bool):Prop:=Lrel a b x y u1 u2 v1 v2 ev/\1<=v2/\v1<=v2/\Lst u1 u2 v1 v2/\(v0=0\/z6r a b u0 u1 v0 v1 ev)
def z2f(a b:Nat):Lsim a b a b 0 1 0 0 0 1 false:=⟨⟨by simp,by simp,by simp⟩,ybk _,by omega,.inl ⟨rfl,rfl,rfl⟩,.inl rfl⟩
def z2e{a b x y u0 u1 u2 v0 v1 v2:Nat}{ev:Bool}(h:Lsim a b x y u0 u1 u2 v0 v1 v2 ev)(hy:0<y)(h1:v2<=y)(h2:v1+v2<=x-y) :
  Lsim a b y (x%y) u1 u2 (u1+x / y*u2) v1 v2 (v1+x / y*v2) (!ev):=by
 obtain⟨k1,k2,k5,k3,k4⟩:=h
 have hq:1<=x / y:=by rw[Nat.le_div_iff_mul_le hy];omega
 have hdm:=ych x y
 generalize x / y=q at *
 generalize x%y=r at *
 have hv2:v2<=q*v2:=yan _ hq
 have hu2:u2<=q*u2:=yan _ hq
 refine⟨?_,by omega,by omega,?_,?_⟩
 ·cases ev with
  | false=>
   obtain⟨m1,m2,m3⟩:=k1
   refine⟨?_,m3,?_⟩
   ·rw[ybo,ybm,m1]
    have:q*u2*v2=u2*(q*v2):=by rw[ybh q u2,ybj]
    omega
   ·-- r+(v1+q v2) b=(u1+q u2) a
    show r+(v1+q*v2)*b=(u1+q*u2)*a
    have e:q*(y+u2*a)=q*(v2*b):=by rw[m3]
    rw[ybm,<- ybj,<- ybj,ybh q y]at e;rw[ybo,ybo];omega
  | true=>
   obtain⟨m1,m2,m3⟩:=k1
   refine⟨?_,m3,?_⟩
   ·show u2*(v1+q*v2)=(u1+q*u2)*v2+1
    rw[ybo,ybm,m1];have:q*u2*v2=u2*(q*v2):=by rw[ybh q u2,ybj]
    omega
   ·show r+(u1+q*u2)*a=(v1+q*v2)*b
    have e:q*(y+v2*b)=q*(u2*a):=by rw[m3]
    rw[ybm,<- ybj,<- ybj,ybh q y]at e;rw[ybo,ybo];omega
 ·right
  rcases k3 with⟨e1,e2,e3⟩ | ⟨g1,g2,g3,g4⟩
  ·subst e1 e2 e3
   refine⟨by omega,?_,by omega,by omega⟩
   simp only[yat,ybw,yct];omega
  ·have:=ybv q g2
   exact⟨g2,by omega,by omega,by omega⟩
 ·rcases k3 with⟨e1,e2,e3⟩ | ⟨g1,g2,g3,g4⟩
  ·exact .inl e2
  ·right
   exact⟨x,y,by rw[Bool.not_not];exact k1,h1,h2,g1,g2,g3,g4,k5⟩
end Go.Am
namespace Go.Am
def wY{p q r s A B X Y:Nat}(hdet:p*s=q*r+1)(hX:X+r*B=p*A)(hY:Y+q*A=s*B):A=s*X+r*Y/\B=q*X+p*Y:=by
 have a1:s*(X+r*B)=s*(p*A):=by rw[hX]
 have a2:r*(Y+q*A)=r*(s*B):=by rw[hY]
 have a3:q*(X+r*B)=q*(p*A):=by rw[hX]
 have a4:p*(Y+q*A)=p*(s*B):=by rw[hY]
 have d1:p*s*A=q*r*A+A:=by rw[hdet,ybo,Nat.one_mul]
 have d2:p*s*B=q*r*B+B:=by rw[hdet,ybo,Nat.one_mul]
 have e1:s*(p*A)=p*s*A:=by rw[<- ybj,ybh s p]
 have e2:r*(q*A)=q*r*A:=by rw[<- ybj,ybh r q]
 have e3:s*(r*B)=r*(s*B):=Nat.mul_left_comm _ _ _
 have e4:q*(p*A)=p*(q*A):=Nat.mul_left_comm _ _ _
 have e5:q*(r*B)=q*r*B:=(ybj _ _ _).symm
 have e6:p*(s*B)=p*s*B:=(ybj _ _ _).symm
 rw[ybm]at a1 a2 a3 a4;constructor<;>omega
def zlt{p q r s a b A B W α β x y:Nat}(hx:x+r*b=p*a)(hy:y+q*a=s*b)(hA:A=W*a+α)(hB:B=W*b+β)(ha:α<W)(hb:β<W)(hrs:r+s<=x-y)(h1:1<=r+s)(hq:q<=y) :
  ∃X Y,X+r*B=p*A/\Y+q*A=s*B/\Y<X:=by
 obtain⟨D,hD⟩:∃D,x=y+D:=⟨x-y,by omega⟩
 have w1:p*A=W*x+r*(W*b)+p*α:=by
  rw[hA,ybm,Nat.mul_left_comm p W,<- hx,ybm,Nat.mul_left_comm W r]
 have w2:r*B=r*(W*b)+r*β:=by rw[hB,ybm]
 have w3:s*B=W*y+q*(W*a)+s*β:=by
  rw[hB,ybm,Nat.mul_left_comm s W,<- hy,ybm,Nat.mul_left_comm W q]
 have w4:q*A=q*(W*a)+q*α:=by rw[hA,ybm]
 have i1:r*β<=W*D:=by
  rw[ybh W D];exact ydb (by omega) (by omega)
 have i2:q*α<=W*y:=by
  rw[ybh W y];exact ydb hq (by omega)
 have i3:(r+s)*β<W*D:=by
  have h2:(r+s)*β<(r+s)*W:=Nat.mul_lt_mul_of_pos_left hb (by omega)
  have h3:(r+s)*W<=D*W:=ybi _ (by omega)
  rw[ybh W D];omega
 have w5:W*x=W*y+W*D:=by rw[hD,ybm]
 rw[ybo]at i3;exact⟨p*A-r*B,s*B-q*A,by omega,by omega,by omega⟩
def lehmer{a b A B W α β u0 u1 v0 v1:Nat}{ev:Bool}(hA:A=W*a+α)(hB:B=W*b+β)(ha:α<W)(hb:β<W)(h:z6r a b u0 u1 v0 v1 ev) :
  ∃X Y,(ev=true->X+v0*B=u0*A/\Y+u1*A=v1*B)/\(ev=false->X+u0*A=v0*B/\Y+v1*B=u1*A)/\Y<X/\A=v1*X+v0*Y/\B=u1*X+u0*Y/\X+Y<A+B:=by
 obtain⟨x,y,k1,k2,k3,k4,k5,k6,k7,_⟩:=h
 have aC:∀X Y:Nat,Y<X->A=v1*X+v0*Y->B=u1*X+u0*Y->X+Y<A+B:=by
  intro X Y g1 g2 g3;have j1:X<=v1*X:=yan _ (by omega)
  have j2:X<=u1*X:=yan _ (by omega)
  omega
 cases ev with
 | true=>
  obtain⟨m1,m2,m3⟩:=k1
  obtain⟨X,Y,g1,g2,g3⟩:=zlt m2 m3 hA hB ha hb k3 (by omega) (by omega)
  obtain⟨d1,d2⟩:=wY m1 g1 g2
  exact⟨X,Y,fun _=>⟨g1,g2⟩,(fun h=>absurd h (by decide)),g3,d1,d2,aC X Y g3 d1 d2⟩
 | false=>
  obtain⟨m1,m2,m3⟩:=k1
  obtain⟨X,Y,g1,g2,g3⟩:=zlt m2 m3 hB hA hb ha (by omega) (by omega) k2
  have m1':v0*u1=v1*u0+1:=by rw[ybh v0 u1,ybh v1 u0];exact m1
  obtain⟨d1,d2⟩:=wY m1' g1 g2
  exact⟨X,Y,(fun h=>absurd h (by decide)),fun _=>⟨g1,g2⟩,g3,d2,d1,aC X Y g3 d2 d1⟩
def zqe{a b u0 u1 v0 v1:Nat}{ev:Bool}(ha:a<18446744073709551616)(hb:b<18446744073709551616)(h:z6r a b u0 u1 v0 v1 ev):u0<4294967296/\u1<4294967296/\v0<4294967296/\v1<4294967296:=by
 obtain⟨x,y,k1,k2,k3,k4,k5,k6,k7,k8⟩:=h
 have key:a=v1*x+v0*y:=by
  cases ev with
  | true=>
   obtain⟨m1,m2,m3⟩:=k1
   exact(wY m1 m2 m3).1
  | false=>
   obtain⟨m1,m2,m3⟩:=k1
   have m1':v0*u1=v1*u0+1:=by rw[ybh v0 u1,ybh v1 u0];exact m1
   exact(wY m1' m2 m3).2
 have:v1<4294967296:=by
  rcases yau v1 4294967296 with g | g
  ·exact g
  ·exfalso
   have:4294967296*4294967296<=v1*x:=ydb g (by omega)
   omega
 omega
end Go.Am
namespace Go.Am
def z2x{B:Nat}{l:List Nat}{m:Nat}(hl:l.length<=m+3):val B l=val B (l.take m)+B^m*(wd l m+B*(wd l (m+1)+B*wd l (m+2))):=by
 have h0:=fV B l m
 have h1:val B (l.take (m+2))=val B (l.take (m+1))+B^(m+1)*wd l (m+1):=fV B l (m+1)
 have h2:val B (l.take (m+3))=val B (l.take (m+2))+B^(m+2)*wd l (m+2):=fV B l (m+2)
 have p1:B^(m+1)=B^m*B:=yag _ _
 have p2:B^(m+2)=B^m*B*B:=by rw[yag,yag]
 rw[yca hl]at h2;rw[p1]at h1;rw[p2]at h2;rw[h2,h1,h0,ybm (B^m),ybm B,ybm (B^m)]
 simp only[ybj];omega
def zsf{B p K m:Nat}{l:List Nat}(hB:B=p*K)(hp:0<p)(hB0:0<B)(hlt:jB B l)(hl:l.length<=m+3) :
  (wd l (m+2)*B+wd l (m+1))*K+wd l m / p=val B l / (B^m*p):=by
 have h1:=z2x (B:=B) hl
 have h2:val B (l.take m)<B^m:=by
  have h:=bK hB0 (aR hlt m)
  exact Nat.lt_of_lt_of_le h (yao hB0 (by simp;omega))
 have h3:val B l / B^m=wd l m+B*(wd l (m+1)+B*wd l (m+2)):=by
  rw[h1,Nat.add_mul_div_left _ _ (Nat.pow_pos hB0),Nat.div_eq_of_lt h2,ybw]
 rw[<- Nat.div_div_eq_div_mul,h3];generalize wd l m=x
 have e:B*(wd l (m+1)+B*wd l (m+2))=p*(K*(wd l (m+2)*B+wd l (m+1))):=by
  rw[<- ybj p,<- hB,ybh (wd l (m+2)),yap]
 rw[e,Nat.add_mul_div_left _ _ hp,ybh K,yap]
end Go.Am
