/- format's writer comes to an end, with a text that is not empty and not much longer than a source. -/
import Derived.Carry
import Derived.ChangeArms
import Derived.HandedShaped
import Derived.JoinedOf
import Derived.LaidMore
import Derived.OpenShut
import Derived.ProofKit
import Derived.Stop.Joined
import GoSem.ClaimJoined
import Derived.Test.YtfijloeeppcipaaGreatDoorB22
set_option linter.all false
noncomputable section
set_option maxRecDepth 100000
namespace Go.Proofs
open Go Go.Am
variable [nC]
variable {t tf:Tr rA}
def nP:List (List Nat):=[[],[100,111,119,110],[117,112],[102,108,111,111,114],[99,101,105,108],[104,97,108,102],[101,118,101,110]]
def uN(t:Tr rA):Prop:=At t 0 0 (nP.map zA.str)
theorem uN.mono{t':Tr rA}(h:uN t)(k:zB t t'):uN t':=At.mono k h
theorem znq(hG:uN t){n:Nat}(hn:n<256):∃s,wC yA F 149 [.int .u8 (n:Int)] t=some (.str s)/\s.length<=10/\tB 256 s:=by
 by_cases h:n<7
 ·have hx:(nP.map zA.str)[n]?=some (.str (nP.getD n [])):=by
   have:n<nP.length:=h
   simp[yae this]
  refine⟨nP.getD n [],fC.2 (w149 _ (wB (by rw[wrap_i64 (by omega) (by omega)];exact yLt (by omega)) (cA (v:=.ptr 0 n) ?_ (rD (v:=.str (nP.getD n [])) ?_ (vJ ⟨rfl,rfl⟩))))),?_,?_⟩
  ·unfold lB
   rw[ty238,uA];have e:(zA.int .u8 (n:Int)).asNat=some n:=rfl
   rw[e,uA];simp only[zA.asSlice,zA.asPtr,uA,qD.asArr];rw[ty9,uA,dB.2 h,nD];simp
  ·have:=hG.load1 ty9 rfl hx
   rw[yax]at this;exact this
  ·have:∀k,k<7->(nP.getD k []).length<=10:=by decide
   exact this n h
  ·have:∀k,k<7->∀x∈nP.getD k [],x<256:=by decide
   exact this n h
 ·exact⟨[],fC.2 (w149 _ (zC (by rw[wrap_i64 (by omega) (by omega)];exact nLt (by omega)) ⟨rfl,rfl⟩)),by simp,fun x hx=>by cases hx⟩
theorem zdj{s:List Nat}(h:∀x∈s,48<=x/\x<58):tB 256 s:=fun x hx=>by have:=h x hx;omega
theorem gM{a b:List Nat}(ha:tB 256 a)(hb:tB 256 b):tB 256 (a++b):=fun x hx=>by
 rcases List.mem_append.1 hx with h | h
 ·exact ha x h
 ·exact hb x h
theorem znt{neg:Bool}{n:Nat}:tB 256 (intN neg n)/\intN neg n≠[]:=by
 have h:=zca n
 refine⟨gM ?_ (zdj (nY n)),fun e=>?_⟩
 ·cases neg
  ·intro x hx;cases hx
  ·intro x hx;simp at hx;omega
 ·unfold intN at e
  rw[List.append_eq_nil_iff]at e;rw[e.2]at h;simp at h
theorem zqj{f:uE}:tB 256 (gJ f)/\gJ f≠[]:=by
 unfold gJ zcj;refine⟨gM znt.1 ?_,fun e=>znt.2 (List.append_eq_nil_iff.1 e).1⟩
 split
 ·intro x hx;cases hx
 ·intro x hx
  rcases yat.1 hx with rfl | hx
  ·decide
  ·exact znt.1 x hx
theorem zxo{n:Int}:tB 256 (rJ n)/\rJ n≠[]:=by
 by_cases h:n<0
 ·obtain⟨u,rfl⟩:∃u:Nat,n = -(u:Int):=⟨n.natAbs,by omega⟩
  rw[zkx (by omega)]
  refine⟨fun x hx=>?_,by simp⟩
  rcases yat.1 hx with rfl | hx
  ·decide
  ·exact zdj (nY u) x hx
 ·obtain⟨u,rfl⟩:∃u:Nat,n=(u:Int):=⟨n.toNat,by omega⟩
  rw[zdy];exact⟨zdj (nY u),fun e=>by have:=zca u;rw[e]at this;simp at this⟩
theorem zkg{s:List Nat}(h:tB 256 s)(hn:s≠[]):tB 256 (yK s)/\yK s≠[]:=by
 unfold yK;split
 ·exact⟨gM (by intro x hx;simp at hx;omega) fun x hx=>h x (List.mem_of_mem_drop hx),by simp⟩
 ·exact⟨h,hn⟩
theorem zmi{v:gF}(hv:v.fit)(hp:wO v=true):zfe (z0g v.i) v≠[]/\(zfe (z0g v.i) v).length<=20100/\tB 256 (zfe (z0g v.i) v):=by
 obtain⟨_,hff,hi1,hi2⟩:=hv
 have hil:=zh7 hi1 hi2
 have hsl:=rX (rJ v.i)
 have hsi:=zkg (zxo (n:=v.i)).1 zxo.2
 have hsf:=zkg (zqj (f:=v.f)).1 zqj.2
 have hc:=zrn v.i
 have hF:∀k,(k=2\/k=3)->v.kind=k->(yK (gJ v.f)).length<=20010:=by
  intro k hk e;have h1:=zd6 hff (zb1 hp (by omega))
  have h2:=rX (gJ v.f)
  omega
 unfold zfe;split
 ·split
  ·exact⟨by simp,by simp,by intro x hx;simp at hx;omega⟩
  ·exact⟨by simp,by simp,by intro x hx;simp at hx;omega⟩
 ·split
  ·rename_i e;have:=hF 2 (.inl rfl) e;exact⟨hsf.2,by omega,hsf.1⟩
  ·split
   ·rename_i e;have:=hF 3 (.inr rfl) e
    exact⟨by simp,by simp;omega,gM (by intro x hx;simp at hx;omega) hsf.1⟩
   ·split
    ·exact⟨fun e=>by rw[e]at hc;simp at hc,by omega,hc.2⟩
    ·split
     ·exact⟨by simp,by simp;omega,gM hsi.1 (by intro x hx;simp at hx;omega)⟩
     ·split
      ·exact⟨by simp,by simp;omega,gM hsi.1 (by intro x hx;simp at hx;omega)⟩
      ·rename_i h1 h2 h3 h4 h5 h6
       exfalso
       unfold wO at hp;rw[if_neg (by omega),if_neg h1,if_neg h4,if_neg (by omega)]at hp
       cases hp
theorem zk3{op:Nat}(h:op<27):(xD op).word.length<=10/\∀x∈(xD op).word,x<256:=by
 have:∀k,k<27->(xD k).word.length<=10/\∀x∈(xD k).word,x<256:=by decide +kernel
 exact this op h
theorem za4{op:Nat}(h:op<27):((xD op).style=1->op=1)/\((xD op).style=2->(xD op).word≠[])/\((xD op).style=3->1<=(xD op).least)/\((xD op).style=4->2<=(xD op).least)/\((xD op).style=5->1<=(xD op).least/\(xD op).word≠[])/\(xD op).style<=6/\(xD op).most<=3/\(op=1->(xD op).style=1):=by
 have:∀k,k<27->((xD k).style=1->k=1)/\((xD k).style=2->(xD k).word≠[])/\((xD k).style=3->1<=(xD k).least)/\((xD k).style=4->2<=(xD k).least)/\((xD k).style=5->1<=(xD k).least/\(xD k).word≠[])/\(xD k).style<=6/\(xD k).most<=3/\(k=1->(xD k).style=1):=by decide +kernel
 exact this op h
theorem zqi{s:List Nat}(h:znn s=true):s.length<=24:=by
 unfold znn at h;split at h
 ·simp
 ·simp only[yac,decide_eq_true_eq]at h
  exact h.1.1.1
def dH (h:Nat):Nat:=86000+200*h
def WOk (bf:Nat)(x:mA):Prop:=∀(d:Nat) (cs:List zA) (tf t:Tr rA) (bx:Nat) (s:List Nat) (Q:aB),x.fit->zE x d=true->jD tf bf none xN->mJ tf->uN tf->RD tf x.d cs->BX 166 [.ptr bf 0] tf t bx s->s.length<=95000 →
 (∀t' s',BX 166 [.ptr bf 0] tf t' bx s'->s'≠[]->s'.length<=max s.length (dH (25-d))->Q (.tup []) t')->Wc yA F 87 [.ptr bx 0,.agg cs] t Q
theorem uL{b:Nat}:rB yA 166 0 (.ptr b 0)=some (.ptr b 0):=by kernel_rfl
theorem zzg{b:Nat}:rB yA 166 1 (.ptr b 0)=some (.ptr b 2):=by kernel_rfl
theorem BX.forms{bf bx:Nat}{s:List Nat}(h:BX 166 [.ptr bf 0] tf t bx s):oA yA 132 ⟨0,t⟩ (.ptr bx 2)=some (.ptr bf 0):=by
 obtain⟨_,_,_,_,_,p,tv,_,h4,_,_⟩:=h
 exact h4.load1 (j:=2) ty132 rfl rfl
section
variable {bf bx:Nat}{s:List Nat}{Q:aB}
theorem zoy{y:mA}{d:Nat}{cs:List zA}{lev:Int}(hy:WOk bf y)(hfit:y.fit)(hP:zE y d=true)(hF:jD tf bf none xN)(hM:mJ tf)(hW:uN tf)(hr:RD tf y.d cs)(hB:BX 166 [.ptr bf 0] tf t bx s)(hs:s.length<=94000)(hd1:1<=d)
  (hQ:∀t' s',BX 166 [.ptr bf 0] tf t' bx s'->s'≠[]->s'.length<=max s.length (dH (25-d))+2->Q (.tup []) t'):Wc yA F 121 [.ptr bx 0,.agg cs,.int .i64 lev] t Q:=by
 obtain⟨a,b,c,rfl,ha,hb,hc⟩:=bI hr
 have hop:y.op<27:=by
  obtain⟨op,name,v,args⟩:=y
  unfold zE dN at hP;simp only[yac,decide_eq_true_eq]at hP;exact hP.1.2.1.1.1.1
 have hbm:dH (25-d)<=91000:=by unfold dH;omega
 refine w121 _ _ _ _ _ _ _ _ _ _ _ ?_
 unfold t121;refine cA gE (cA zzg (rD hB.forms (cA gE (cA (zyx hop) (cA (sL (by decide)) (rD (z24 (hF.up hB.le) hop) (iC ?_)))))))
 by_cases hl:lev<=((xD y.op).level:Int)
 ·refine wB (yLe hl) (cC ?_)
  rw[q87];exact hy d _ tf t bx s _ hfit hP hF hM hW hr hB (by omega) fun t' s' h1 h2 h3=>hQ t' s' h1 h2 (by omega)
 ·refine zC (nLe hl) (cA gE (cA uL (cC ?_)))
  rw[zsm];refine hB.write (by simp) (by intro x hx;simp at hx;omega) (by simp;omega) fun _ t1 h1=>cC ?_
  rw[q87];refine hy d _ tf t1 bx _ _ hfit hP hF hM hW hr h1 (by simp;omega) fun t2 s2 h2 h2n h2l=>cA gE (cA uL (cC ?_))
  rw[zsm];simp only[yah,List.length_singleton]at h2l;refine h2.write (by simp) (by intro x hx;simp at hx;omega) (by simp;omega) fun _ t3 h3=>?_
  exact hQ _ _ h3 (by simp) (by simp;omega)
theorem z0f{args:List mA}{d:Nat}{c:zA}(hall:∀y∈args,WOk bf y)(hfits:∀y∈args,y.fit)(hP:∀y∈args,zE y (d+1)=true)(hF:jD tf bf none xN)(hM:mJ tf)(hW:uN tf)(hc:jA tf 9 (args.map mA.d) c)(hlen:args.length<=3)(hd:d<=24)
  {c0 c2 c7:Int} {c1:List Nat} {c3 c5:Bool} {c4 c6 c8:zA} (h19c:c0=19->0<=c7/\c7<256):∀(k i:Nat) (t:Tr rA) (s:List Nat),i+k=args.length->BX 166 [.ptr bf 0] tf t bx s->s≠[]->s.length<=dH (24-d)+100+2*i →
  (∀t' s',BX 166 [.ptr bf 0] tf t' bx s'->s'≠[]->s'.length<=dH (24-d)+130->Q (.tup []) t') →
  jp 122 2 [.ptr bx 0,c,.int .i64 (args.length:Int),.int .i64 (i:Int),.int .u8 c0,.str c1,.int .u8 c2,.bool c3,c4,.bool c5,c6,.int .i64 c7,c8] t Q:=by
 have hbm:dH (24-d)<=91000:=by unfold dH;omega
 intro k;induction k with
 | zero=>
  intro i t s hi hB hn hs hQ;refine z6i _ _ _ _ _ _ _ _ _ _ _ _ _ ?_
  unfold zv5;refine zC (nLt (by omega)) ?_
  by_cases h19:c0=19
  ·refine wB (yF h19) (cA gE (cA uL (cC ?_)))
   obtain⟨n,hn1,hn2⟩:∃n:Nat,wA .u8 c7=(n:Int)/\n<256:=⟨c7.toNat,by have:=h19c h19;rw[zch this.1 this.2];omega,by have:=h19c h19;omega⟩
   obtain⟨w,hw1,hw2,hw3⟩:=znq (hW.mono hB.le) hn2
   rw[hn1,q149,hw1,tA];refine vJ (cA (bK (by simp;omega)) (vJ (cC ?_)))
   rw[zsm];refine hB.write (by simp) (gM (by intro x hx;simp at hx;omega) hw3) (by simp;omega) fun _ t1 h1=>cA gE (cA uL (cC ?_))
   rw[zsm];refine h1.write (by simp) (by intro x hx;simp at hx;omega) (by simp;omega) fun _ t2 h2=>?_
   exact hQ _ _ h2 (by simp) (by simp;omega)
  ·refine zC (wF h19) (cA gE (cA uL (cC ?_)))
   rw[zsm];refine hB.write (by simp) (by intro x hx;simp at hx;omega) (by simp;omega) fun _ t2 h2=>?_
   exact hQ _ _ h2 (by simp) (by simp;omega)
 | succ k ih=>
  intro i t s hi hB hn hs hQ;have hlt:i<args.length:=by omega
  have hm:args[i]∈args:=ybk hlt
  refine z6i _ _ _ _ _ _ _ _ _ _ _ _ _ ?_
  unfold zv5;obtain⟨b0,off0,cs,g1,g2,_,_,g5⟩:=lF.at z7l (by simp) hc (i:=i) (d:=args[i].d) (by simp[hlt])
  have ld:oA yA 36 ⟨0,t⟩ (.ptr b0 off0)=some (xX true cs):=wX (H:=⟨0,tf⟩) (HA:=⟨0,t⟩) hB.le g2
  refine wB (yLt (by omega)) (cA g1 (rD ld ?_))
  rw[vP];refine eH (rI g5 (mA.zs _)) ?_
  have hmk:=g5.mk (mA.zs args[i])
  have hcs:[zA.int .u8 ((cellsOf cs).i 0),.str ((cellsOf cs).s 1),.int .u8 ((cellsOf cs).i 2),.bool ((cellsOf cs).b 3),(cellsOf cs).v 4,.bool ((cellsOf cs).b 5),(cellsOf cs).v 6,.int .i64 ((cellsOf cs).i 7),(cellsOf cs).v 8]=cs:=hmk
  rw[hcs];refine wB g5.all ?_
  have next:∀t' s',BX 166 [.ptr bf 0] tf t' bx s'->s'≠[]->s'.length<=dH (24-d)+100+2*(i+1)->jp 122 2 [.ptr bx 0,c,.int .i64 (args.length:Int),.int .i64 (wA .i64 ((i:Int)+1)),.int .u8 c0,.str c1,.int .u8 c2,.bool c3,c4,.bool c5,c6,.int .i64 c7,c8] t' Q:=by
   intro t' s' h1 h2 h3;rw[wrap_i64 (by omega) (by omega),show(i:Int)+1=((i+1:Nat):Int) by omega]
   exact ih (i+1) t' s' (by omega) h1 h2 h3 hQ
  have e25:25-(d+1)=24-d:=by omega
  by_cases h0:0<i
  ·refine wB (yLt (by omega)) (cA gE (cA uL (cC ?_)))
   rw[zsm];refine hB.write (by simp) (by intro x hx;simp at hx;omega) (by simp;omega) fun _ t1 h1=>cC ?_
   rw[q87];refine hall _ hm (d+1) _ tf t1 bx _ _ (hfits _ hm) (hP _ hm) hF hM hW g5 h1 (by simp;omega) fun t2 s2 h2 h2n h2l=>xF ?_
   rw[e25]at h2l;simp only[yah,yao,yay]at h2l;exact next t2 s2 h2 h2n (by omega)
  ·refine zC (nLt (by omega)) (cC ?_)
   rw[q87];refine hall _ hm (d+1) _ tf t bx _ _ (hfits _ hm) (hP _ hm) hF hM hW g5 hB (by omega) fun t2 s2 h2 h2n h2l=>xF ?_
   rw[e25]at h2l;exact next t2 s2 h2 h2n (by omega)
theorem zor{op:Nat}{name:List Nat}{v:gF}{args:List mA}{d:Nat}{a b c:zA}(hall:∀y∈args,WOk bf y)(hfit:mA.fit (.mk op name v args))(hP:zE (.mk op name v args) d=true)(hs6:(xD op).style=6)(hF:jD tf bf none xN)(hM:mJ tf)(hW:uN tf)
  (hc:jA tf 9 (args.map mA.d) c) (hB:BX 166 [.ptr bf 0] tf t bx s) (hs:s.length<=65536)
  (hQ:∀t' s',BX 166 [.ptr bf 0] tf t' bx s'->s'≠[]->s'.length<=dH (25-d)->Q (.tup []) t') :
  Wc yA F 122 [.ptr bx 0,.agg [.int .u8 op,.str name,.int .u8 v.kind,.bool v.f.n.neg,a,.bool v.f.d.neg,b,.int .i64 v.i,c],.ptr bf (op*8)] t Q:=by
 unfold zE dN at hP;simp only[yac,decide_eq_true_eq]at hP;obtain⟨⟨hd,⟨⟨⟨h27,_⟩,hl⟩,hm⟩,hnm⟩,hrest⟩:=hP
 obtain⟨f1,f2,f3,f4,f5,f6,f7,f8⟩:=za4 h27
 have hw:=zk3 h27
 have h1:op≠1:=fun e=>by have:=f8 e;omega
 rw[if_neg h1,yac,zao,ybc]at hrest;unfold mA.fit at hfit;have hfits:=mA.fits_mem hfit.2.2.2.2.2
 have hmax:dH (25-d)=dH (24-d)+200:=by unfold dH;omega
 have h19c:(op:Int)=19->0<=v.i/\v.i<256:=by
  intro e;have hcp:=hrest.1
  unfold zgo at hcp;rw[if_pos (by omega)]at hcp
  simp only[yac,decide_eq_true_eq]at hcp;omega
 have go9:∀t' s',BX 166 [.ptr bf 0] tf t' bx s'->s'≠[]->s'.length<=65536+100->jp 122 9 [.ptr bx 0,.int .u8 op,.str name,.int .u8 v.kind,.bool v.f.n.neg,a,.bool v.f.d.neg,b,.int .i64 v.i,c] t' Q:=by
  intro t' s' k1 k2 k3;refine j122_9 _ _ _ _ _ _ _ _ _ _ ?_
  unfold z5m;have hlen:=hc.len
  rw[yag]at hlen;refine cA hlen (iC (xF ?_))
  refine z0f (d:=d) hall hfits (fun y hy=>hrest.2 y hy) hF hM hW hc (by omega) hd h19c args.length 0 t' s' (by omega) k1 k2 (by unfold dH;omega) fun t2 s2 g1 g2 g3=>hQ t2 s2 g1 g2 (by omega)
 refine w122 _ _ _ _ _ _ _ _ _ _ _ ?_
 unfold t122;have hld:=zxz (hF.up hB.le) h27
 refine cA gE (cA uL (cA gE (cA (sL (by decide)) (rD hld (vJ (cA (bK (by simp;omega)) (vJ (cC ?_))))))))
 rw[zsm];refine hB.write (by simp) (gM hw.2 (by intro x hx;simp at hx;omega)) (by simp;omega) fun _ t1 h1=>?_
 refine cA gE (cA (sL (by decide)) (rD (zqq (hF.up h1.le) h27) (iG ?_)))
 cases hn:(xD op).named with
 | true=>
  rw[hn,if_pos rfl]at hnm;have hnl:=zqi hnm
  refine wB rfl (cA gE (cA uL (cA (bK (by simp;omega)) (vJ (cC ?_)))))
  rw[zsm];refine h1.write (by simp) (gM hfit.2.2.1 (by intro x hx;simp at hx;omega)) (by simp;omega) fun _ t2 h2=>xF ?_
  exact go9 _ _ h2 (by simp) (by simp;omega)
 | false=>exact zC (by simp) (xF (go9 _ _ h1 (by simp) (by simp;omega)))
mutual
/-- THE WRITER COMES TO AN END -/
theorem zi4:∀(x:mA),WOk bf x
 | .mk op name v args=>by
  have hall:=zfd args
  intro d cs tf t bx s Q hfit hP hF hM hW hr hB hs hQ;have hP0:=hP
  have hfit0:=hfit
  obtain⟨a,b,c,rfl,ha,hb,hc⟩:=bI hr
  simp only[mA.op,mA.name,mA.v,mA.args]at ha hb hc ⊢
  unfold zE dN at hP;simp only[yac,decide_eq_true_eq]at hP;obtain⟨⟨hd,⟨⟨⟨h27,hs0⟩,hl⟩,hm⟩,hnm⟩,hrest⟩:=hP
  simp only[ybq,decide_eq_false_iff_not]at hs0;obtain⟨f1,f2,f3,f4,f5,f6,f7,f8⟩:=za4 h27
  have hw:=zk3 h27
  unfold mA.fit at hfit;have hfits:=mA.fits_mem hfit.2.2.2.2.2
  have hmax:dH (25-d)=dH (24-d)+200:=by unfold dH;omega
  have e25:25-(d+1)=24-d:=by omega
  have hmb:dH (24-d)<=91000/\86000<=dH (24-d):=by unfold dH;omega
  refine w87 _ _ _ _ _ _ _ _ _ _ ?_
  unfold t87;refine cA gE (cA uL (cC ?_))
  rw[q118,hB.len,tA];refine iC ?_
  by_cases hbig:65536<s.length
  ·refine wB (yLt (by omega)) ?_
   exact hQ t s hB (fun e=>by rw[e]at hbig;simp at hbig) (by omega)
  refine zC (nLt (by omega)) ?_
  have hFt:=hF.up hB.le
  refine cA gE (cA zzg (rD hB.forms (cA gE (cA (zyx h27) (cA gE (cA (sL (by decide)) (rD (zqp hFt h27) (iC ?_))))))))
  have ldw:∀ {t'},zB tf t'->oA yA 9 ⟨0,t'⟩ (.ptr bf (op*8+1))=some (.str (xD op).word):=fun h=>zxz (hF.up h) h27
  have notc:(xD op).style≠1->sK args (d+1)=true:=by
   intro hne;have h1:op≠1:=fun e=>hne (f8 e)
   rw[if_neg h1,yac]at hrest;exact hrest.2
  have arg:∀(i:Nat) (lev:Int) (t1:Tr rA) (s1:List Nat) (K:zA->T) (Q:aB) (k:Nat),(xD op).style≠1->i<args.length->k<8->BX 166 [.ptr bf 0] tf t1 bx s1->s1.length<=94000->oA yA 3 ⟨0,t1⟩ (.ptr bf (op*8+k))=some (.int .i64 lev) →
    (∀t' s',BX 166 [.ptr bf 0] tf t' bx s'->s'≠[]->s'.length<=max s1.length (dH (24-d))+2->wp 87 (K (.tup [])) t' Q) →
    wp 87 (.opt (lB yA 34 c (.int .i64 (i:Int))) fun a36=>.light (fun m=>oA yA 36 ⟨0,m⟩ a36) fun a37=>.asG [(.int .u8 0),(.str []),(.int .u8 0),(.bool false),.nilslice,(.bool false),.nilslice,(.int .i64 0),.nilslice] a37 fun X38=>
     .opt (qC (.ptr bf (op*8))) fun a39=>.opt (rB yA 159 k a39) fun a40=>.light (fun m=>oA yA 3 ⟨0,m⟩ a40) fun a41=>.asI .i64 a41 fun n42=>.call 121 [.ptr bx 0,(.agg [(.int .u8 (X38.i 0)),(.str (X38.s 1)),(.int .u8 (X38.i 2)),(.bool (X38.b 3)),(X38.v 4),(.bool (X38.b 5)),(X38.v 6),(.int .i64 (X38.i 7)),(X38.v 8)]),(.int .i64 n42)] K) t1 Q:=by
   intro i lev t1 s1 K Q k hne hi hk h1 hs1 hldp hQ';have hm:args[i]∈args:=ybk hi
   obtain⟨b0,off0,cs,g1,g2,_,_,g5⟩:=lF.at z7l (by simp) hc (i:=i) (d:=args[i].d) (by simp[hi])
   have ld:oA yA 36 ⟨0,t1⟩ (.ptr b0 off0)=some (xX true cs):=wX (H:=⟨0,tf⟩) (HA:=⟨0,t1⟩) h1.le g2
   refine cA g1 (rD ld ?_)
   rw[vP];refine eH (rI g5 (mA.zs _)) ?_
   have hmk:=g5.mk (mA.zs args[i])
   have hcs:[zA.int .u8 ((cellsOf cs).i 0),.str ((cellsOf cs).s 1),.int .u8 ((cellsOf cs).i 2),.bool ((cellsOf cs).b 3),(cellsOf cs).v 4,.bool ((cellsOf cs).b 5),(cellsOf cs).v 6,.int .i64 ((cellsOf cs).i 7),(cellsOf cs).v 8]=cs:=hmk
   rw[hcs];refine cA gE (cA (sL hk) (rD hldp (iC (cC ?_))))
   rw[q121];have hPy:zE args[i] (d+1)=true:=by
    have:=notc hne
    rw[zao,ybc]at this;exact this _ hm
   refine zoy (d:=d+1) (hall _ hm) (hfits _ hm) hPy hF hM hW g5 h1 hs1 (by omega) fun t' s' k1 k2 k3=>?_
   rw[e25]at k3;exact hQ' t' s' k1 k2 k3
  have done:∀t' s',BX 166 [.ptr bf 0] tf t' bx s'->s'≠[]->s'.length<=dH (25-d)->wp 87 (.ret (.tup [])) t' Q:=fun t' s' k1 k2 k3=>hQ t' s' k1 k2 (by omega)
  have i0:((0:Nat):Int)=0:=rfl
  have i1:((1:Nat):Int)=1:=rfl
  have arg0:=arg 0
  have arg1:=arg 1
  rw[i0]at arg0;rw[i1]at arg1;have style:(xD op).style=1\/(xD op).style=2\/(xD op).style=3\/(xD op).style=4\/(xD op).style=5\/(xD op).style=6:=by omega
  rcases style with e | e | e | e | e | e
  ·-- a constant
   refine wB (yF (by omega)) (cA gE (cA uL (cC ?_)))
   have hop1:=f1 e
   rw[if_pos hop1]at hrest;obtain⟨v1,v2,v3⟩:=zmi hfit.2.2.2.1 hrest
   have hv:=zi7 (date:=z0g v.i) (ha.mono hB.le) (hb.mono hB.le) hfit.2.2.2.1 hrest (fun hk=>by
    have hp:=hrest
    unfold wO at hp;rw[if_neg (by omega),if_neg (by omega),if_pos hk]at hp
    simp only[yac,decide_eq_true_eq]at hp;exact cal_ok (hM.mono hB.le) hp.2.1 hp.2.2)
   rw[q120,hv,tA];refine vJ (cC ?_)
   rw[zsm];refine hB.write v1 v3 (by omega) fun _ t1 h1=>done _ _ h1 (by simp[v1]) ?_
   rw[yah];unfold dH;omega
  ·-- a word
   refine zC (wF (by omega)) (wB (yF (by omega)) (cA gE (cA uL (cA gE (cA (sL (by decide)) (rD (ldw hB.le) (vJ (cC ?_))))))))
   rw[zsm];refine hB.write (f2 e) hw.2 (by omega) fun _ t1 h1=>done _ _ h1 (by simp[f2 e]) ?_
   rw[yah];omega
  ·-- word,name,at
   have hnl:name.length<=24:=by
    split at hnm
    ·exact zqi hnm
    ·have:=(cL _ _).1 hnm;rw[this];simp
   have h3:=f3 e
   refine zC (wF (by omega)) (zC (wF (by omega)) (wB (yF (by omega)) (cA gE (cA uL (cA gE (cA (sL (by decide)) (rD (ldw hB.le) (vJ (cA (bK (by omega)) (vJ (cA (bK (by simp;omega)) (vJ (cC ?_)))))))))))))
   rw[zsm];refine hB.write (by simp) (gM (gM hw.2 hfit.2.2.1) (by intro x hx;simp at hx;omega)) (by simp;omega) fun _ t1 h1=>?_
   refine arg0 _ t1 _ _ _ 6 (by omega) (by omega) (by decide) h1 (by simp;omega) (znx (hF.up h1.le) h27) fun t2 s2 k1 k2 k3=>done _ _ k1 k2 ?_
   simp only[yah,yao,yay]at k3;omega
  ·-- an operator
   have h4:=f4 e
   refine zC (wF (by omega)) (zC (wF (by omega)) (zC (wF (by omega)) (wB (yF (by omega)) ?_)))
   refine arg0 _ t _ _ _ 6 (by omega) (by omega) (by decide) hB (by omega) (znx hFt h27) fun t1 s1 k1 k2 k3=>?_
   refine cA gE (cA uL (cA gE (cA (sL (by decide)) (rD (ldw k1.le) (vJ (cA (bK (by simp;omega)) (vJ (cA (bK (by simp;omega)) (vJ (cC ?_))))))))))
   rw[zsm];refine k1.write (by simp) (gM (gM (by intro x hx;simp at hx;omega) hw.2) (by intro x hx;simp at hx;omega)) (by simp;omega) fun _ t2 h2=>?_
   refine arg1 _ t2 _ _ _ 7 (by omega) (by omega) (by decide) h2 (by simp;omega) (z23 (hF.up h2.le) h27) fun t3 s3 m1 m2 m3=>done _ _ m1 m2 ?_
   simp only[yah,yao,yay]at m3;omega
  ·-- not
   have h5:=f5 e
   refine zC (wF (by omega)) (zC (wF (by omega)) (zC (wF (by omega)) (zC (wF (by omega)) (wB (yF (by omega)) (cA gE (cA uL (cA gE (cA (sL (by decide)) (rD (ldw hB.le) (vJ (cC ?_)))))))))))
   rw[zsm];refine hB.write h5.2 hw.2 (by omega) fun _ t1 h1=>?_
   refine arg0 _ t1 _ _ _ 6 (by omega) (by omega) (by decide) h1 (by simp;omega) (znx (hF.up h1.le) h27) fun t2 s2 k1 k2 k3=>done _ _ k1 k2 ?_
   simp only[yah]at k3;omega
  ·-- a call
   refine zC (wF (by omega)) (zC (wF (by omega)) (zC (wF (by omega)) (zC (wF (by omega)) (zC (wF (by omega)) (wB (yF (by omega)) (cC ?_))))))
   rw[q122];exact zor hall hfit0 hP0 e hF hM hW hc hB (by omega) fun t' s' k1 k2 k3=>done t' s' k1 k2 k3
theorem zfd:∀(l:List mA),∀y∈l,WOk bf y
 | [],_,h=>by cases h
 | x::l,y,h=>by
  rcases yat.1 h with e | h
  ·rw[e];exact zi4 x
  ·exact zfd l y h
end
end
end Go.Proofs
namespace Go.Proofs
open Go Go.Am
variable [nC]
variable {t tf:Tr rA}
theorem zoa{x:mA}{cs:List zA}{Q:aB}(hfit:x.fit)(hP:zE x 1=true)(hM:mJ t)(hW:uN t)(hr:RD t x.d cs)(hQ:∀t' s,zB t t'->s≠[]->Q (.str s) t'):Wc yA F 65 [.agg cs] t Q:=by
 obtain⟨a,b,c,rfl,ha,hb,hc⟩:=bI hr
 refine w65 _ _ _ _ _ _ _ _ _ ?_
 unfold t65;refine cC ?_
 rw[q83];refine zdg fun bf t1 h1 h2 h3 h4 h5=>?_
 refine wB rfl (fH fun bx hbx hbb=>?_)
 obtain⟨t2,e1,e2,e3,e4⟩:=iU hbx [.nilptr,.nilslice,.ptr bf 0] (some (.ty 166))
 have hbox:zr2 yA 166 (.agg [.nilptr,.nilslice,.ptr bf 0]) ⟨bx,t1⟩=some (.ptr bx 0,⟨bx+1,t2⟩):=by
  unfold zr2;have:mI yA 166=some (.ty 166):=by kernel_rfl
  rw[this,<- e1];rfl
 refine⟨_,_,hbox,cC ?_⟩
 have hB:BX 166 [.ptr bf 0] t1 t2 bx []:=⟨hbb,hbx,e3,(by intro x hx;cases hx),rfl,.nilptr,.nilslice,.inl rfl,e2,.inl ⟨rfl,rfl⟩,zdz⟩
 rw[q87];refine zi4 x 1 _ t1 t2 bx [] _ hfit hP h3 (hM.mono h4) (hW.mono h4) (hr.mono h4) hB (by simp) fun t3 s h6 h7 h8=>?_
 refine cA gE (cA uL (cC ?_))
 rw[q88];have hl:s.length<=91000:=by
  have:dH (25-1)=90800:=rfl
  rw[this]at h8;simp at h8;omega
 exact h6.string h7 (by omega) fun t4 h9=>vJ (hQ _ _ (h4.trans h9) h7)
theorem z33{x:mA}{cs:List zA}{Q:aB}(hfit:x.fit)(hM:mJ t)(hW:uN t)(hr:RD t x.d cs)
  (hQ:∀t' s e,zB t t'->(if zE x 1=true then(s≠[]/\e=0\/s=[]/\e=3)else s=[]/\e=2)->Q (.tup [.str s,.int .i64 e]) t'):Wc yA F 43 [.agg cs] t Q:=by
 have hr0:=hr
 obtain⟨a,b,c,rfl,ha,hb,hc⟩:=bI hr
 refine w43 _ _ _ _ _ _ _ _ _ ?_
 unfold t43;refine cC ?_
 rw[q63];refine zh3 fun bf t1 h1 h2 h3 h4 h5=>?_
 have e:(cellsOf [zA.ptr bf 0]).v 0=.ptr bf 0:=rfl
 refine eH (yQ rfl) (wB hr0.sameA (cC ?_))
 have he:=zzi h3 x 1 _ hfit (by omega) (hr0.mono h4)
 rw[show((1:Nat):Int)=1 from rfl]at he
 rw[q64,e,he,tA];refine iG ?_
 cases hP:zE x 1 with
 | false=>
  refine wB rfl ?_
  exact hQ _ _ _ h4 (by rw[hP,if_neg (by simp)];exact⟨rfl,rfl⟩)
 | true=>
  refine zC (by simp) (cC ?_)
  rw[q65];refine zoa hfit hP (hM.mono h4) (hW.mono h4) (hr0.mono h4) fun t2 s h6 h7=>vJ ?_
  by_cases hl:65536<s.length
  ·refine wB (yLt (by rw[yL];omega)) ?_
   exact hQ _ _ _ (h4.trans h6) (by rw[hP,if_pos rfl];exact .inr ⟨rfl,rfl⟩)
  ·refine zC (nLt (by rw[yL];omega)) ?_
   exact hQ _ _ _ (h4.trans h6) (by rw[hP,if_pos rfl];exact .inl ⟨h7,rfl⟩)
end Go.Proofs
namespace Go.Proofs
open Go Go.Am
variable [nC]
variable {t tf:Tr rA}
def defN (l:List qI)(s:List Nat):Option qI:=l.find? fun d=>iF d.name s
def z07 (l:List aG)(s:List Nat):Option aG:=l.find? fun d=>iF d.name s
def defV:Option qI->zA
 | some d=>.tup [.agg [.str d.name,.int .u8 d.kind,.bool d.fact],.bool true]
 | none=>.tup [.agg [.str [],.int .u8 0,.bool false],.bool false]
theorem uK{α:Type}{l:List α}{i:Nat}(h:i<l.length):l.drop i=l[i]::l.drop (i+1):=yam h
theorem z4e{l:List qI}{s:List Nat}{v:zA}(hr:jA t 3 (l.map qI.d) v)(hlen:l.length<iD):∀(k i:Nat),i+k=l.length->jp 19 2 [.str s,v,.int .i64 (l.length:Int),.int .i64 (i:Int),.str [],.int .u8 0,.bool false] t (fun x t'=>x=defV (defN (l.drop i) s)/\t'=t):=by
 unfold iD at hlen;intro k;induction k with
 | zero=>
  intro i hi;refine j19_2 _ _ _ _ _ _ _ (zC (nLt (by omega)) (wB rfl (wB rfl ?_)))
  rw[yau (by omega)]
  exact⟨rfl,rfl⟩
 | succ k ih=>
  intro i hi;have hlt:i<l.length:=by omega
  obtain⟨b,off,cs,g1,g2,_,_,g5⟩:=lF.at sl22 (by simp) hr (i:=i) (d:=l[i].d) (by simp[hlt])
  refine j19_2 _ _ _ _ _ _ _ (wB (yLt (by omega)) (cA g1 (rD g2 ?_)))
  rw[vP];have hcs:=z5p g5
  subst hcs;refine eH (rI g5 (qI.zs _)) (wB rfl ?_)
  rw[uK hlt];unfold defN;rw[List.find?_cons]
  cases he:iF l[i].name s with
  | true=>exact wB he (wB rfl ⟨rfl,rfl⟩)
  | false=>
   refine zC (by show ¬ (iF l[i].name s=true);rw[he];simp) (xF ?_)
   rw[wrap_i64 (by omega) (by omega),show(i:Int)+1=((i+1:Nat):Int) by omega]
   exact ih (i+1) (by omega)
theorem def_ok{p:bE}{cs:List zA}{s:List Nat}(hp:p.fit)(hr:RD t p.d cs):wC yA F 19 [.agg cs,.str s] t=some (defV (defN p.defs s)):=by
 obtain⟨a,b,c,rfl,ha,hb,hc⟩:=mR hr
 refine fC.2 (w19 _ _ _ _ _ (cA ha.len (iC (xF ?_))))
 rw[yag];have:=z4e (s:=s) ha hp.ndefs p.defs.length 0 (by omega)
 rw[ybs]at this;exact this
def TabV (t:Tr rA)(o:Option aG)(v:zA):Prop:=
 match o with
 | some x=>∃a,v=.tup [.agg [.str x.name,.bool x.two,a],.bool true]/\jA t 7 (x.rows.map zl9.d) a
 | none=>v=.tup [.agg [.str [],.bool false,.nilslice],.bool false]
theorem z1k{l:List aG}{s:List Nat}{v:zA}(hr:jA t 3 (l.map aG.d) v)(hlen:l.length<iD):∀(k i:Nat),i+k=l.length->∃r,TabV t (z07 (l.drop i) s) r/\jp 54 2 [.str s,v,.int .i64 (l.length:Int),.int .i64 (i:Int),.str [],.bool false,.nilslice] t (fun x t'=>x=r/\t'=t):=by
 unfold iD at hlen;intro k;induction k with
 | zero=>
  intro i hi;rw[yau (by omega)]
  exact⟨_,rfl,z8j _ _ _ _ _ _ _ (zC (nLt (by omega)) (wB rfl (wB rfl ⟨rfl,rfl⟩)))⟩
 | succ k ih=>
  intro i hi;have hlt:i<l.length:=by omega
  obtain⟨b,off,cs,g1,g2,_,_,g5⟩:=lF.at sl23 (by simp) hr (i:=i) (d:=l[i].d) (by simp[hlt])
  have g50:=g5
  obtain⟨a,rfl,ha⟩:=zpz g5
  rw[uK hlt];have hone:tC zA.one [.str l[i].name,.bool l[i].two,a]=true:=g50.all
  unfold z07;rw[List.find?_cons]
  cases he:iF l[i].name s with
  | true=>
   refine⟨_,⟨a,rfl,ha⟩,z8j _ _ _ _ _ _ _ (wB (yLt (by omega)) (cA g1 (rD g2 ?_)))⟩
   rw[vP];exact eH (rI g50 (aG.zs _)) (wB hone (wB he (wB hone ⟨rfl,rfl⟩)))
  | false=>
   obtain⟨r,h1,h2⟩:=ih (i+1) (by omega)
   refine⟨r,h1,z8j _ _ _ _ _ _ _ (wB (yLt (by omega)) (cA g1 (rD g2 ?_)))⟩
   rw[vP];refine eH (rI g50 (aG.zs _)) (wB hone (zC (by show ¬ (iF l[i].name s=true);rw[he];simp) (xF ?_)))
   rw[wrap_i64 (by omega) (by omega),show(i:Int)+1=((i+1:Nat):Int) by omega]
   exact h2
theorem tab_ok{p:bE}{cs:List zA}(hp:p.fit)(hr:RD t p.d cs)(s:List Nat):∃r,TabV t (z07 p.tables s) r/\wC yA F 54 [.agg cs,.str s] t=some r:=by
 obtain⟨a,b,c,rfl,ha,hb,hc⟩:=mR hr
 obtain⟨r,h1,h2⟩:=z1k (s:=s) hb hp.ntables p.tables.length 0 (by omega)
 rw[ybs]at h1;refine⟨r,h1,fC.2 (w54 _ _ _ _ _ (cA hb.len (iC (xF ?_))))⟩
 rw[yag];exact h2
def lM(p:bE)(op:Nat)(name:List Nat)(n:Nat):Nat × Bool:=
 if op=3\/op=4\/op=21\/op=22\/op=5 then
  match defN p.defs name with
  | some d=>(d.kind,bEq d.fact (!decide (op=5))&&(decide (1<=d.kind)&&decide (d.kind<=6)))
  | none=>(0,false)
 else if op=6 then
  match z07 p.tables name with
  | some x=>(0,bEq x.two (decide (n=2)))
  | none=>(0,false)
 else if op=23 then
  match z07 p.tables name with
  | some x=>(0,!x.two)
  | none=>(0,false)
 else(0,true)
def nmV (r:Nat × Bool):zA:=.tup [.int .u8 (r.1:Nat),.bool r.2]
def D66 (p0:zA)(p1_0:Int)(p1_1:List Nat):T:=
 (.opt (qC p0) fun a0=>.opt (rB yA 104 0 a0) fun a1=>.light (fun m=>oA yA 26 ⟨0,m⟩ a1) fun a2=>.asG [(.str []),.nilslice,.nilslice,.nilslice] a2 fun X3=>
 .heavy (dG yA 59) fun a4=>
 .call 19 [(.agg [(.str (X3.s 0)),(X3.v 1),(X3.v 2),(X3.v 3)]),(.str p1_1)] fun a5=>
 .opt (sB 0 a5) fun a6=>.asG [(.str []),(.int .u8 0),(.bool false)] a6 fun X7=>
 .opt (sB 1 a5) fun a8=>.asB a8 fun b9=>.heavy (dC yA 59 a4 (.agg [(.str (X7.s 0)),(.int .u8 (X7.i 1)),(.bool (X7.b 2))])) fun _=>
 .ite b9
 (.opt (rB yA 59 2 a4) fun sD=>.light (fun m=>oA yA 4 ⟨0,m⟩ sD) fun a11=>.asB a11 fun b12=>.opt (rB yA 59 1 a4) fun a13=>.light (fun m=>oA yA 5 ⟨0,m⟩ a13) fun cF=>.asI .u8 cF fun n15=>.ite (bEq b12 (!lA p1_0 5))
 (.opt (rB yA 59 1 a4) fun a16=>.light (fun m=>oA yA 5 ⟨0,m⟩ a16) fun a17=>.asI .u8 a17 fun n18=>.ite (rC 1 n18)
 (.opt (rB yA 59 1 a4) fun a19=>.light (fun m=>oA yA 5 ⟨0,m⟩ a19) fun a20=>.asI .u8 a20 fun n21=>.ret (.tup [(.int .u8 n15),(.bool (rC n21 6))]))
 (.ret (.tup [(.int .u8 n15),(.bool false)])))
 (.ret (.tup [(.int .u8 n15),(.bool false)])))
 (.opt (rB yA 59 1 a4) fun a22=>.light (fun m=>oA yA 5 ⟨0,m⟩ a22) fun a23=>.asI .u8 a23 fun n24=>.ret (.tup [(.int .u8 n24),(.bool false)])))
def T66 (p0:zA)(p1_1:List Nat)(K:zA->zA->T):T:=
 (.opt (qC p0) fun a25=>.opt (rB yA 104 0 a25) fun a26=>.light (fun m=>oA yA 26 ⟨0,m⟩ a26) fun a27=>.asG [(.str []),.nilslice,.nilslice,.nilslice] a27 fun X28=>
 .heavy (dG yA 81) fun a29=>
 .call 54 [(.agg [(.str (X28.s 0)),(X28.v 1),(X28.v 2),(X28.v 3)]),(.str p1_1)] fun a30=>
 .opt (sB 0 a30) fun a31=>.asG [(.str []),(.bool false),.nilslice] a31 fun X32=>
 .opt (sB 1 a30) fun a33=>.asB a33 fun b34=>.heavy (dC yA 81 a29 (.agg [(.str (X32.s 0)),(.bool (X32.b 1)),(X32.v 2)])) fun _=>
 .ite b34
 (.opt (rB yA 81 1 a29) fun a35=>.light (fun m=>oA yA 4 ⟨0,m⟩ a35) fun a36=>K a36 a29)
 (.ret (.tup [(.int .u8 0),(.bool false)])))
def tM(t:Tr rA)(b m:Nat)(p:bE):Prop:=∃cs,RD t p.d cs/\jD t b none (cs++[.map m])
theorem zzh{b:Nat}:rB yA 104 0 (.ptr b 0)=some (.ptr b 0):=by kernel_rfl
theorem zn9{b:Nat}:rB yA 104 1 (.ptr b 0)=some (.ptr b 4):=by kernel_rfl
theorem tM.plan{b m:Nat}{p:bE}(h:tM t b m p):∃cs,RD t p.d cs/\cs.length=4/\oA yA 26 ⟨0,t⟩ (.ptr b 0)=some (.agg cs)/\jD t b none (cs++[.map m]):=by
 obtain⟨cs,h1,h2⟩:=h
 have hlen:cs.length=4:=by obtain⟨a,b,c,rfl,_⟩:=mR h1;rfl
 refine⟨cs,h1,hlen,?_,h2⟩
 have:=h2.at.load (C:=yA) (ty:=26) ty26 rfl (n:=4) rfl (j:=0) (by simp[hlen])
 rw[yax]at this;rw[this];congr 2
 rw[ybs,List.take_left' hlen]
theorem eW{b T n:Nat}{l m:List zA}{y:uC}(h:jD t b none l)(hb:yA.base<=b)(hT:yA.tys.get T=some y)(hy:y.size=n)(hl:l.length=n)(hm:m.length=n)(hone:tC zA.one m=true):∃t',(∀k,dC yA T (.ptr b 0) (.agg m) ⟨k,t⟩=some (pD,⟨k,t'⟩))/\jD t' b none m/\mD b t t':=by
 obtain⟨t',h1,h2,h3⟩:=h.store (C:=yA) hb (T:=T) (v:=.agg m) (j:=0) hT (by show m.length=_;rw[hm,hy]) (by show 0+m.length<=_;omega) hone
 refine⟨t',h1,?_,h3⟩
 have e:lN l 0 (zA.agg m).cells=m:=by
  show lN l 0 m=m
  unfold lN;rw[List.take_zero,List.nil_append,yau (by omega),ybe]
 rw[e]at h2;exact h2
theorem zp7{p:bE}{cs:List zA}(h:RD t p.d cs):rK [.str [],.nilslice,.nilslice,.nilslice] (.agg cs)=some (cellsOf cs)/\[zA.str ((cellsOf cs).s 0),(cellsOf cs).v 1,(cellsOf cs).v 2,(cellsOf cs).v 3]=cs:=⟨rI h (bE.zs _),h.mk (bE.zs p)⟩
section
variable {b m:Nat}{p:bE}{op:Nat}{name:List Nat}{n:Nat}
theorem D_ok(hC:tM t b m p)(hp:p.fit)(hop:op=3\/op=4\/op=21\/op=22\/op=5):wp 66 (D66 (.ptr b 0) (op:Int) name) t (fun v t'=>v=nmV (lM p op name n)/\zB t t'):=by
 obtain⟨cs,h1,h2,h3,h4⟩:=hC.plan
 obtain⟨e1,e2⟩:=zp7 h1
 unfold D66 lM;rw[if_pos hop];refine cA gE (cA zzh (rD h3 (eH e1 (fH fun bd hbd hbase=>?_))))
 obtain⟨t1,g1,g2,g3,g4⟩:=aT (C:=yA) ty59 hbd
 refine⟨_,_,g1,cC ?_⟩
 rw[e2,q19,def_ok hp (h1.mono g3),tA]
 have f1:rB yA 59 1 (.ptr bd 0)=some (.ptr bd 1):=by kernel_rfl
 have f2:rB yA 59 2 (.ptr bd 0)=some (.ptr bd 2):=by kernel_rfl
 have hb5:(!lA (op:Int) 5) = !decide (op=5):=by
  rw[yN];congr 2;exact propext (by omega)
 cases hd:defN p.defs name with
 | none=>
  refine cA rfl (eH (yQ rfl) (cA rfl (iG (fH fun k _ _=>?_))))
  obtain⟨t2,k1,k2,k3⟩:=eW g2 hbase ty59 rfl rfl (m:=[.str [],.int .u8 0,.bool false]) rfl rfl
  refine⟨_,_,k1 k,zC (by simp) (cA f1 (rD (k2.load1 (j:=1) ty5 rfl rfl) (iC ⟨rfl,fun c u hc=>?_⟩)))⟩
  have:c≠bd:=fun e=>by rw[e,hbd]at hc;cases hc
  rw[k3 c this];exact g3 _ _ hc
 | some d=>
  refine cA rfl (eH (yQ rfl) (cA rfl (iG (fH fun k _ _=>?_))))
  obtain⟨t2,k1,k2,k3⟩:=eW g2 hbase ty59 rfl rfl (m:=[.str d.name,.int .u8 d.kind,.bool d.fact]) rfl rfl
  have hle:zB t t2:=fun c u hc=>by
   have:c≠bd:=fun e=>by rw[e,hbd]at hc;cases hc
   rw[k3 c this];exact g3 _ _ hc
  have ld1:oA yA 5 ⟨0,t2⟩ (.ptr bd 1)=some (.int .u8 (d.kind:Int)):=k2.load1 (j:=1) ty5 rfl rfl
  have ld2:oA yA 4 ⟨0,t2⟩ (.ptr bd 2)=some (.bool d.fact):=k2.load1 (j:=2) ty4 rfl rfl
  refine⟨_,_,k1 k,wB rfl (cA f2 (rD ld2 (iG (cA f1 (rD ld1 (iC ?_))))))⟩
  rw[hb5];show wp 66 _ t2 _
  cases hf:bEq d.fact (!decide (op=5))with
  | false=>exact zC (by simp) ⟨by simp[nmV,hf],hle⟩
  | true=>
   refine wB rfl (cA f1 (rD ld1 (iC ?_)))
   by_cases h6:1<=d.kind
   ·refine wB (yLe (by omega)) (cA f1 (rD ld1 (iC ⟨?_,hle⟩)))
    have:rC (d.kind:Int) 6=decide (d.kind<=6):=by rw[z8w];congr 1;exact propext (by omega)
    simp[nmV,hf,h6,this]
   ·refine zC (nLe (by omega)) ⟨?_,hle⟩
    simp[nmV,hf,h6]
theorem T_ok{R:Bool}{K:zA->zA->T}(hC:tM t b m p)(hp:p.fit)(hK:∀x bd t',z07 p.tables name=some x->zB t t'->wp 66 (K (.bool x.two) bd) t' (fun v t'=>v=nmV (0,R)/\zB t t'))(hN:z07 p.tables name=none->R=false):wp 66 (T66 (.ptr b 0) name K) t (fun v t'=>v=nmV (0,R)/\zB t t'):=by
 obtain⟨cs,h1,h2,h3,h4⟩:=hC.plan
 obtain⟨e1,e2⟩:=zp7 h1
 unfold T66;refine cA gE (cA zzh (rD h3 (eH e1 (fH fun bd hbd hbase=>?_))))
 obtain⟨t1,g1,g2,g3,g4⟩:=aT (C:=yA) ty81 hbd
 refine⟨_,_,g1,cC ?_⟩
 obtain⟨r,r1,r2⟩:=tab_ok hp (h1.mono g3) name
 rw[e2,q54,r2,tA];have f1:rB yA 81 1 (.ptr bd 0)=some (.ptr bd 1):=by kernel_rfl
 cases hd:z07 p.tables name with
 | none=>
  rw[hd]at r1;unfold TabV at r1;subst r1;refine cA rfl (eH (yQ rfl) (cA rfl (iG (fH fun k _ _=>?_))))
  obtain⟨t2,k1,k2,k3⟩:=eW g2 hbase ty81 rfl rfl (m:=[.str [],.bool false,.nilslice]) rfl rfl
  rw[hN hd];refine⟨_,_,k1 k,zC (by simp) ⟨rfl,fun c u hc=>?_⟩⟩
  have:c≠bd:=fun e=>by rw[e,hbd]at hc;cases hc
  rw[k3 c this];exact g3 _ _ hc
 | some x=>
  rw[hd]at r1;obtain⟨a,rfl,ha⟩:=r1
  have hfz:vL [.str [],.bool false,.nilslice] [zA.str x.name,.bool x.two,a]=true:=by
   show(true&&(true&&(zug .nilslice a&&true)))=true
   rw[vV ha];rfl
  have hone:tC zA.one [zA.str x.name,.bool x.two,a]=true:=by
   rw[gG];simp only[ybh,ybl,ha.one];rfl
  refine cA rfl (eH (yQ hfz) (cA rfl (iG (fH fun k _ _=>?_))))
  obtain⟨t2,k1,k2,k3⟩:=eW g2 hbase ty81 rfl rfl (m:=[.str x.name,.bool x.two,a]) rfl hone
  have hle:zB t t2:=fun c u hc=>by
   have:c≠bd:=fun e=>by rw[e,hbd]at hc;cases hc
   rw[k3 c this];exact g3 _ _ hc
  refine⟨_,_,k1 k,wB rfl (cA f1 (rD (k2.load1 (j:=1) ty4 rfl rfl) ?_))⟩
  exact hK x _ t2 hd hle
theorem z2r{a c d:zA}{kd:Int}{n1 n2:Bool}{vi:Int}(hC:tM t b m p)(hp:p.fit)(hc:xC d=some (.int .i64 (n:Int))):wC yA F 66 [.ptr b 0,.agg [.int .u8 op,.str name,.int .u8 kd,.bool n1,a,.bool n2,c,.int .i64 vi,d]] t=some (nmV (lM p op name n)):=by
 refine oN ?_
 refine w66 _ _ _ _ _ _ _ _ _ _ ?_
 unfold t66;have rest:∀(Y:T),(op=3\/op=4\/op=21\/op=22\/op=5)->wp 66 (D66 (.ptr b 0) (op:Int) name) t (fun v t'=>v=nmV (lM p op name n)/\zB t t'):=fun Y h=>D_ok hC hp h
 by_cases h3:op=3
 ·exact wB (yF (by omega)) (wB (yF (by omega)) (D_ok hC hp (.inl h3)))
 refine zC (wF (by omega)) ?_
 by_cases h4:op=4
 ·exact wB (yF (by omega)) (wB (yF (by omega)) (D_ok hC hp (.inr (.inl h4))))
 refine zC (wF (by omega)) ?_
 by_cases h21:op=21
 ·exact wB (yF (by omega)) (wB (yF (by omega)) (D_ok hC hp (.inr (.inr (.inl h21)))))
 refine zC (wF (by omega)) ?_
 by_cases h22:op=22
 ·exact wB (yF (by omega)) (wB (yF (by omega)) (D_ok hC hp (.inr (.inr (.inr (.inl h22))))))
 refine zC (wF (by omega)) ?_
 by_cases h5:op=5
 ·exact wB (yF (by omega)) (D_ok hC hp (.inr (.inr (.inr (.inr h5)))))
 refine zC (wF (by omega)) ?_
 have hno:¬ (op=3\/op=4\/op=21\/op=22\/op=5):=by omega
 by_cases h6:op=6
 ·refine wB (yF (by omega)) ?_
  unfold lM;rw[if_neg hno,if_pos h6]
  cases hd:z07 p.tables name with
  | none=>
   exact T_ok (R:=false) (K:=fun a36 _=>.asB a36 fun b37=>.opt (xC d) fun a38=>.asI .i64 a38 fun n39=>.ret (.tup [(.int .u8 0),(.bool (bEq b37 (lA n39 2)))])) hC hp (fun x bd t' h _=>by rw[hd]at h;cases h) (fun _=>rfl)
  | some x=>
   refine T_ok (R:=bEq x.two (decide (n=2))) (K:=fun a36 _=>.asB a36 fun b37=>.opt (xC d) fun a38=>.asI .i64 a38 fun n39=>.ret (.tup [(.int .u8 0),(.bool (bEq b37 (lA n39 2)))])) hC hp (fun y bd t' h hle=>?_) (fun h=>by rw[hd]at h;cases h)
   rw[hd]at h
   cases h;refine iG (cA hc (iC ⟨?_,hle⟩))
   have:lA (n:Int) 2=decide (n=2):=by rw[yN];congr 1;exact propext (by omega)
   rw[this];rfl
 refine zC (wF (by omega)) ?_
 by_cases h23:op=23
 ·refine wB (yF (by omega)) ?_
  unfold lM;rw[if_neg hno,if_neg h6,if_pos h23]
  cases hd:z07 p.tables name with
  | none=>
   exact T_ok (R:=false) (K:=fun a36 _=>.asB a36 fun b52=>.ret (.tup [(.int .u8 0),(.bool (!b52))])) hC hp (fun x bd t' h _=>by rw[hd]at h;cases h) (fun _=>rfl)
  | some x=>
   refine T_ok (R := !x.two) (K:=fun a36 _=>.asB a36 fun b52=>.ret (.tup [(.int .u8 0),(.bool (!b52))])) hC hp (fun y bd t' h hle=>?_) (fun h=>by rw[hd]at h;cases h)
   rw[hd]at h
   cases h;exact iG ⟨rfl,hle⟩
 refine zC (wF (by omega)) ?_
 unfold lM;rw[if_neg hno,if_neg h6,if_neg h23];exact⟨rfl,zB.refl _⟩
end
end Go.Proofs
namespace Go.Proofs
open Go Go.Am
variable [nC]
variable {t tf:Tr rA}
structure KE where
 op:Nat
 a:Nat
 b:Nat
 c:Nat
 k:Nat
def zku:List KE:=[⟨2,0,0,0,4⟩,⟨4,4,0,0,1⟩,⟨6,2,0,0,2⟩,⟨6,2,2,0,2⟩,⟨8,4,4,0,5⟩,⟨9,2,2,0,2⟩,⟨9,3,2,0,3⟩,⟨9,2,3,0,3⟩,⟨10,2,2,0,2⟩,⟨10,3,2,0,3⟩,⟨10,3,3,0,2⟩,⟨15,1,1,0,1⟩,⟨16,1,1,0,1⟩,⟨17,1,0,0,1⟩,
 ⟨19,2,2,0,2⟩,⟨19,3,3,0,3⟩,⟨20,4,4,0,6⟩,⟨21,4,4,0,2⟩,⟨22,4,4,6,3⟩,⟨23,4,4,0,2⟩,⟨24,2,0,0,6⟩,⟨25,5,0,0,2⟩,⟨25,6,0,0,2⟩,⟨25,3,0,0,2⟩,⟨26,4,0,0,4⟩,
 ⟨7,2,2,0,2⟩,⟨7,3,3,0,3⟩,⟨7,5,5,0,5⟩,⟨7,6,6,0,6⟩,⟨7,4,5,0,4⟩,⟨7,4,6,0,4⟩,⟨8,2,2,0,2⟩,⟨8,3,3,0,3⟩,⟨8,5,5,0,5⟩,⟨8,6,6,0,6⟩,⟨8,4,5,0,4⟩,⟨8,4,6,0,4⟩,
 ⟨14,1,1,0,1⟩,⟨18,1,1,1,1⟩,⟨14,2,2,0,1⟩,⟨18,1,2,2,2⟩,⟨11,2,2,0,2⟩,⟨12,2,2,0,2⟩,⟨13,2,2,0,1⟩,⟨14,3,3,0,1⟩,⟨18,1,3,3,3⟩,⟨11,3,3,0,3⟩,⟨12,3,3,0,3⟩,⟨13,3,3,0,1⟩,
 ⟨14,4,4,0,1⟩,⟨18,1,4,4,4⟩,⟨11,4,4,0,4⟩,⟨12,4,4,0,4⟩,⟨13,4,4,0,1⟩,⟨14,5,5,0,1⟩,⟨18,1,5,5,5⟩,⟨11,5,5,0,5⟩,⟨12,5,5,0,5⟩,⟨13,5,5,0,1⟩,
 ⟨14,6,6,0,1⟩,⟨18,1,6,6,6⟩,⟨11,6,6,0,6⟩,⟨12,6,6,0,6⟩,⟨13,6,6,0,1⟩]
def z5y (op a b c:Nat):zA:=.agg [.int .u8 op,.int .u8 a,.int .u8 b,.int .u8 c]
def KE.e (x:KE):zA × zA:=(z5y x.op x.a x.b x.c,.int .u8 x.k)
def wD (n:Nat):List (zA × zA):=(zku.take n).map KE.e
theorem dR{w x y z:Int}:bM yA 100 (.agg [.int .u8 w,.int .u8 x,.int .u8 y,.int .u8 z])=true:=by kernel_rfl
def KI (t0:Tr rA)(b n:Nat)(t:Tr rA):Prop:=t.get b=some (.map (wD n))/\mD b t0 t
theorem zs6{t0:Tr rA}{b n i:Nat}{k v:zA}{K:T}{Q:aB}(hb:yA.base<=b)(hI:KI t0 b n t)(hs:kG k v (wD n)=some (wD (n+1)))(hk:bM yA 100 k=true)(next:∀t',KI t0 b (n+1) t'->wp i K t' Q):wp i (.heavy (vI yA 100 (.map b) k v) fun _=>K) t Q:=by
 refine fH fun m _ _=>?_
 refine⟨_,_,zuw hk hb hI.1 hs,next _ ⟨by show(t.set b _).get b=_;rw[Tr.get_set,if_pos rfl],fun c hc=>?_⟩⟩
 show(t.set b _).get c=_
 rw[Tr.get_set,if_neg hc];exact hI.2 c hc
section
variable {t0:Tr rA}{b:Nat}{name:List Nat}{c1 c2 c3:zA}{Q:aB}
abbrev ag2:zA:=.agg [.int .u8 7,.int .u8 8]
abbrev ag4:zA:=.agg [.int .u8 2,.int .u8 3,.int .u8 5,.int .u8 6]
theorem zw9{n:Nat}{op i:Int}(hb:yA.base<=b)(hI:KI t0 b n t)
  (h1:kG (.agg [.int .u8 op,.int .u8 2,.int .u8 2,.int .u8 0]) (.int .u8 2) (wD n)=some (wD (n+1))) (h2:kG (.agg [.int .u8 op,.int .u8 3,.int .u8 3,.int .u8 0]) (.int .u8 3) (wD (n+1))=some (wD (n+1+1)))
  (h3:kG (.agg [.int .u8 op,.int .u8 5,.int .u8 5,.int .u8 0]) (.int .u8 5) (wD (n+1+1))=some (wD (n+1+1+1))) (h4:kG (.agg [.int .u8 op,.int .u8 6,.int .u8 6,.int .u8 0]) (.int .u8 6) (wD (n+1+1+1))=some (wD (n+1+1+1+1)))
  (h5:kG (.agg [.int .u8 op,.int .u8 4,.int .u8 5,.int .u8 0]) (.int .u8 4) (wD (n+1+1+1+1))=some (wD (n+1+1+1+1+1))) (h6:kG (.agg [.int .u8 op,.int .u8 4,.int .u8 6,.int .u8 0]) (.int .u8 4) (wD (n+1+1+1+1+1))=some (wD (n+1+1+1+1+1+1)))
  (hk:∀x y:Nat,x<10->y<10->bM yA 100 (.agg [.int .u8 op,.int .u8 (x:Int),.int .u8 (y:Int),.int .u8 0])=true)
  (next:∀t',KI t0 b (n+1+1+1+1+1+1) t'->jp 28 2 [.map b,ag2,.int .i64 (wA .i64 (i+1)),.str name,c1,c2,c3] t' Q) :
  jp 28 6 [.map b,.int .u8 op,ag2,.int .i64 i,ag4,.int .i64 0,.str name,c1,c2,c3] t Q:=by
 have i0:aJ yA 102 ag4 (.int .i64 0)=some (.int .u8 2):=by kernel_rfl
 have i1:aJ yA 102 ag4 (.int .i64 1)=some (.int .u8 3):=by kernel_rfl
 have i2:aJ yA 102 ag4 (.int .i64 2)=some (.int .u8 5):=by kernel_rfl
 have i3:aJ yA 102 ag4 (.int .i64 3)=some (.int .u8 6):=by kernel_rfl
 have w1:wA .i64 (0+1)=1:=rfl
 have w2:wA .i64 (1+1)=2:=rfl
 have w3:wA .i64 (2+1)=3:=rfl
 have w4:wA .i64 (3+1)=4:=rfl
 refine zym _ _ _ _ _ _ _ _ _ _ _ _ _ _ (wB rfl (cA i0 (iC (wB rfl (zs6 hb hI h1 (hk 2 2 (by omega) (by omega)) fun t' hI=>xF ?_)))))
 rw[w1];refine zym _ _ _ _ _ _ _ _ _ _ _ _ _ _ (wB rfl (cA i1 (iC (wB rfl (zs6 hb hI h2 (hk 3 3 (by omega) (by omega)) fun t' hI=>xF ?_)))))
 rw[w2];refine zym _ _ _ _ _ _ _ _ _ _ _ _ _ _ (wB rfl (cA i2 (iC (wB rfl (zs6 hb hI h3 (hk 5 5 (by omega) (by omega)) fun t' hI=>xF ?_)))))
 rw[w3];refine zym _ _ _ _ _ _ _ _ _ _ _ _ _ _ (wB rfl (cA i3 (iC (wB rfl (zs6 hb hI h4 (hk 6 6 (by omega) (by omega)) fun t' hI=>xF ?_)))))
 rw[w4];refine zym _ _ _ _ _ _ _ _ _ _ _ _ _ _ (zC (by show ¬ (false=true);simp) (wB rfl (zs6 hb hI h5 (hk 4 5 (by omega) (by omega)) fun t' hI=>wB rfl (zs6 hb hI h6 (hk 4 6 (by omega) (by omega)) fun t' hI=>xF ?_))))
 exact next t' hI
theorem zkw{n:Nat}{k:Nat}(hk0:2<=k/\k<=6)(hb:yA.base<=b)(hI:KI t0 b n t)
  (h1:kG (.agg [.int .u8 14,.int .u8 k,.int .u8 k,.int .u8 0]) (.int .u8 1) (wD n)=some (wD (n+1))) (h2:kG (.agg [.int .u8 18,.int .u8 1,.int .u8 k,.int .u8 k]) (.int .u8 k) (wD (n+1))=some (wD (n+1+1)))
  (h3:kG (.agg [.int .u8 11,.int .u8 k,.int .u8 k,.int .u8 0]) (.int .u8 k) (wD (n+1+1))=some (wD (n+1+1+1))) (h4:kG (.agg [.int .u8 12,.int .u8 k,.int .u8 k,.int .u8 0]) (.int .u8 k) (wD (n+1+1+1))=some (wD (n+1+1+1+1)))
  (h5:kG (.agg [.int .u8 13,.int .u8 k,.int .u8 k,.int .u8 0]) (.int .u8 1) (wD (n+1+1+1+1))=some (wD (n+1+1+1+1+1)))
  (next:∀t',KI t0 b (n+1+1+1+1+1) t'->jp 28 10 [.map b,.int .u8 ((k+1:Nat):Int),.str name,c1,c2,c3] t' Q) :
  jp 28 10 [.map b,.int .u8 (k:Int),.str name,c1,c2,c3] t Q:=by
 have hk:∀w x y z:Nat,w<30->x<10->y<10->z<10->bM yA 100 (z5y w x y z)=true:=fun w x y z _ _ _ _=>dR
 refine zyn _ _ _ _ _ _ (wB (yLe (by omega)) (wB rfl (zs6 hb hI h1 (hk 14 k k 0 (by omega) (by omega) (by omega) (by omega)) fun t' hI=>wB rfl (zs6 hb hI h2 (hk 18 1 k k (by omega) (by omega) (by omega) (by omega)) fun t' hI=>wB ?_ (wB rfl (zs6 hb hI h3 (hk 11 k k 0 (by omega) (by omega) (by omega) (by omega)) fun t' hI=>wB rfl (zs6 hb hI h4 (hk 12 k k 0 (by omega) (by omega) (by omega) (by omega)) fun t' hI=>wB rfl (zs6 hb hI h5 (hk 13 k k 0 (by omega) (by omega) (by omega) (by omega)) fun t' hI=>xF ?_))))))))
 ·cases hq:lA (k:Int) 1 with
  | true=>exact absurd (cH.1 hq) (by omega)
  | false=>rfl
 ·rw[zch (by omega) (by omega),show(k:Int)+1=((k+1:Nat):Int) by omega]
  exact next t' hI
theorem zdh{p:bE}{cs:List zA}(hr:RD t p.d cs)(hQ:∀b m t',zB t t'->tM t' b m p->t'.get m=some (.map (wD 64))->Q (.ptr b 0) t'):Wc yA F 28 [.agg cs] t Q:=by
 have hr0:=hr
 obtain⟨u1,u2,u3,rfl,h1,h2,h3⟩:=mR hr
 refine w28 _ _ _ _ ?_
 unfold t28;repeat refine wB rfl ?_
 refine fH fun b hb hbase=>?_
 refine⟨.map b,⟨b+1,t.set b (.map [])⟩,rfl,fH fun n _ _=>?_⟩
 have hm0:(t.set b (.map [])).get b=some (.map []):=by rw[Tr.get_set,if_pos rfl]
 have ho0:mD b t (t.set b (.map [])):=fun c hc=>by rw[Tr.get_set,if_neg hc]
 obtain⟨t1,g1,g2,g3⟩:=ztf (C:=yA) (T:=100) (b:=b) (n:=n) (l:=wD 25) (t:=t.set b (.map [])) (fun e he=>by
  obtain⟨x,_,rfl⟩:=List.mem_map.1 he
  exact dR) (by kernel_rfl) hbase hm0
 have g1':uP yA ((wD 25).map fun e=>Eff.upd 100 (.map b) e.1 e.2) ⟨n,t.set b (.map [])⟩=some (pD,⟨n,t1⟩):=g1
 have hI:KI t b 25 t1:=⟨g2,fun c hc=>by rw[g3 c hc,ho0 c hc]⟩
 refine⟨pD,⟨n,t1⟩,g1',wB rfl (xF ?_)⟩
 have j0:aJ yA 101 ag2 (.int .i64 0)=some (.int .u8 7):=by kernel_rfl
 have j1:aJ yA 101 ag2 (.int .i64 1)=some (.int .u8 8):=by kernel_rfl
 have w1:wA .i64 (0+1)=1:=rfl
 have w2:wA .i64 (1+1)=2:=rfl
 refine z8k _ _ _ _ _ _ _ _ (wB rfl (cA j0 (iC (wB rfl (xF ?_)))))
 refine zw9 hbase hI (by kernel_rfl) (by kernel_rfl) (by kernel_rfl) (by kernel_rfl) (by kernel_rfl) (by kernel_rfl) (fun x y _ _=>dR) fun t2 hI=>?_
 rw[w1];refine z8k _ _ _ _ _ _ _ _ (wB rfl (cA j1 (iC (wB rfl (xF ?_)))))
 refine zw9 hbase hI (by kernel_rfl) (by kernel_rfl) (by kernel_rfl) (by kernel_rfl) (by kernel_rfl) (by kernel_rfl) (fun x y _ _=>dR) fun t3 hI=>?_
 rw[w2];refine z8k _ _ _ _ _ _ _ _ (zC (by show ¬ (false=true);simp) (xF ?_))
 refine zyn _ _ _ _ _ _ (wB rfl (wB rfl (zs6 hbase hI (by kernel_rfl) dR fun t4 hI=>wB rfl (zs6 hbase hI (by kernel_rfl) dR fun t5 hI=>zC (by show ¬ (false=true);simp) (xF ?_)))))
 have uw:wA .u8 (1+1)=((2:Nat):Int):=rfl
 rw[uw];refine zkw (by omega) hbase hI (by kernel_rfl) (by kernel_rfl) (by kernel_rfl) (by kernel_rfl) (by kernel_rfl) fun t6 hI=>?_
 refine zkw (by omega) hbase hI (by kernel_rfl) (by kernel_rfl) (by kernel_rfl) (by kernel_rfl) (by kernel_rfl) fun t7 hI=>?_
 refine zkw (by omega) hbase hI (by kernel_rfl) (by kernel_rfl) (by kernel_rfl) (by kernel_rfl) (by kernel_rfl) fun t8 hI=>?_
 refine zkw (by omega) hbase hI (by kernel_rfl) (by kernel_rfl) (by kernel_rfl) (by kernel_rfl) (by kernel_rfl) fun t9 hI=>?_
 refine zkw (by omega) hbase hI (by kernel_rfl) (by kernel_rfl) (by kernel_rfl) (by kernel_rfl) (by kernel_rfl) fun t10 hI=>?_
 refine zyn _ _ _ _ _ _ (zC (nLe (by omega)) (wB rfl (fH fun bc hbc _=>?_)))
 have hle:zB t t10:=fun c u hc=>by
  have:c≠b:=fun e=>by rw[e,hb]at hc;cases hc
  rw[hI.2 c this];exact hc
 obtain⟨t11,e1,e2,e3,e4⟩:=iU hbc [.str p.name,u1,u2,u3,.map b] none
 have hb:zpc (.agg [.str p.name,u1,u2,u3,.map b]) ⟨bc,t10⟩=some (.ptr bc 0,⟨bc+1,t11⟩):=by
  show some (zA.ptr bc 0,dD ⟨bc,t10⟩ [.str p.name,u1,u2,u3,.map b] none)=_
  rw[e1]
 refine⟨_,_,hb,hQ bc b t11 (hle.trans e3) ⟨_,hr0.mono (hle.trans e3),e2⟩ ?_⟩
 exact e3 _ _ hI.1
end
end Go.Proofs
namespace Go.Proofs
open Go Go.Am
variable [nC]
variable {t tf:Tr rA}
def zh4(op a b c:Nat):Option Nat:=(zku.find? fun x=>decide (op=x.op)&&(decide (a=x.a)&&(decide (b=x.b)&&(decide (c=x.c)&&true)))).map KE.k
theorem zyh{op a b c op' a' b' c':Nat}:rG (z5y op a b c) (z5y op' a' b' c')=some (decide (op=op')&&(decide (a=a')&&(decide (b=b')&&(decide (c=c')&&true)))):=by
 have h:∀x y:Nat,iK (.int .u8 (x:Int)) (.int .u8 (y:Int))=some (decide (x=y)):=by
  intro x y;show iA (kEq .u8 .u8) (some (lA (x:Int) (y:Int)))=_
  rw[tI.2 rfl,nD,yN];congr 2
  exact propext (by omega)
 unfold rG z5y;simp only[zA.asAgg,uA,cM,h]
theorem zk8{op a b c:Nat}:∀(l:List KE),nH (z5y op a b c) (l.map KE.e)=some ((l.find? fun x=>decide (op=x.op)&&(decide (a=x.a)&&(decide (b=x.b)&&(decide (c=x.c)&&true)))).map fun x=>zA.int .u8 (x.k:Int))
 | []=>rfl
 | x::l=>by
  rw[ybn,nH,show(KE.e x).1=z5y x.op x.a x.b x.c from rfl,zyh,uA,List.find?_cons]
  cases h:(decide (op=x.op)&&(decide (a=x.a)&&(decide (b=x.b)&&(decide (c=x.c)&&true))))with
  | true=>rfl
  | false=>exact zk8 l
theorem z8c{m:Nat}(hm:t.get m=some (.map (wD 64)))(op a b c:Nat):kH yA 100 ⟨0,t⟩ (.map m) (z5y op a b c) true=some (match zh4 op a b c with | some k=>.tup [.int .u8 (k:Int),.bool true] | none=>.tup [.int .u8 0,.bool false]):=by
 have hl:wD 64=zku.map KE.e:=rfl
 have hf:=zk8 (op:=op) (a:=a) (b:=b) (c:=c) zku
 rw[<- hl]at hf;unfold zh4
 cases h:zku.find? fun x=>decide (op=x.op)&&(decide (a=x.a)&&(decide (b=x.b)&&(decide (c=x.c)&&true)))with
 | some x=>
  rw[h]at hf;exact zqk dR hm hf z68 rfl ty5 true
 | none=>
  rw[h]at hf;exact zxq dR hm hf z68 rfl ty5 true
def z83 (op nm a b c:Nat):Nat × Nat:=
 if op=3\/op=5 then(if a=4 then(nm,0)else(0,142))
 else match zh4 op a b c with
  | some k=>if op=21 then(if nm=2 then(k,0)else(0,142))else if op=22 then(if nm=3 then(k,0)else(0,142))else(k,0)
  | none=>(0,142)
def opK (p:bE)(op:Nat)(name:List Nat)(vk n:Nat)(ks:List Nat):Nat × Nat:=
 if (lM p op name n).2=false then(0,141)else if op=1 then(vk,0)else z83 op (lM p op name n).1 (ks.getD 0 0) (ks.getD 1 0) (ks.getD 2 0)
def zyl(p:bE)(op:Nat)(name:List Nat)(vk n:Nat)(ks:List Nat)(r:Nat ⊕ List Nat):Nat × Nat:=
 match r with
 | .inl e=>(0,e)
 | .inr ks'=>opK p op name vk n (ks++ks')
mutual
/-- kind and error of an expression whose parts are printable -/
def sG(p:bE):mA->Nat × Nat
 | .mk op name v args=>zyl p op name v.kind args.length [] (xL p args)
def xL(p:bE):List mA->Nat ⊕ List Nat
 | []=>.inr []
 | x::l=>if (sG p x).2≠0 then .inl (sG p x).2 else match xL p l with
  | .inl e=>.inl e
  | .inr ks=>.inr ((sG p x).1::ks)
end
def kdV (r:Nat × Nat):zA:=.tup [.int .u8 (r.1:Nat),.int .i64 (r.2:Nat)]
def kC (ks:List Nat):List zA:=[.int .u8 (ks.getD 0 0:Nat),.int .u8 (ks.getD 1 0:Nat),.int .u8 (ks.getD 2 0:Nat)]
theorem kC_set{ks:List Nat}{k:Nat}(h:ks.length<3):(kC ks).set ks.length (.int .u8 (k:Int))=kC (ks++[k]):=by
 match ks,h with
 | [],_=>rfl
 | [x],_=>rfl
 | [x,y],_=>rfl
theorem zyk{ks:List Nat}{i:Nat}(h:i<3):(kC ks)[i]?=some (.int .u8 (ks.getD i 0:Nat)):=by
 have:i=0\/i=1\/i=2:=by omega
 rcases this with e | e | e<;>subst e<;>rfl
theorem zq4{b i:Nat}(h:i<3):lB yA 137 (.ptr b 0) (.int .i64 (i:Int))=some (.ptr b i):=by
 unfold lB;rw[ty137,uA];have e:(zA.int .i64 (i:Int)).asNat=some i:=rfl
 rw[e,uA];simp only[zA.asSlice,zA.asPtr,uA,qD.asArr];rw[ty5,uA,dB.2 h,nD];simp
theorem z4t{x:mA}{d:Nat}(h:zE x d=true):x.args.length<=3/\(x.op=1\/∀y∈x.args,zE y (d+1)=true):=by
 obtain⟨op,name,v,args⟩:=x
 unfold zE dN at h;simp only[yac,decide_eq_true_eq]at h;obtain⟨⟨hd,⟨⟨⟨h27,_⟩,hl⟩,hm⟩,hnm⟩,hrest⟩:=h
 obtain⟨f1,f2,f3,f4,f5,f6,f7,f8⟩:=za4 h27
 refine⟨by show args.length<=3;omega,?_⟩
 show op=1\/∀y∈args,zE y (d+1)=true
 by_cases h1:op=1
 ·exact .inl h1
 ·rw[if_neg h1,yac,zao,ybc]at hrest
  exact .inr hrest.2
theorem z4s{x:mA}{d:Nat}(h:zE x d=true)(h1:x.op=1):x.args=[]:=by
 obtain⟨op,name,v,args⟩:=x
 have h1:op=1:=h1
 subst h1;unfold zE dN at h;simp only[yac,decide_eq_true_eq]at h;have:=h.1.2.1.2
 have e:(xD 1).most=0:=rfl
 rw[e]at this;exact ybd.1 (by show args.length=0;omega)
def POk (p:bE)(b m:Nat)(x:mA):Prop:=∀(d:Nat) (t:Tr rA) (cs:List zA),zE x d=true->x.fit->tM t b m p->t.get m=some (.map (wD 64))->RD t x.d cs->wC yA F 44 [.ptr b 0,.agg cs] t=some (kdV (sG p x))
section
variable {p:bE}{b m:Nat}
theorem tM.mono{t':Tr rA}(h:tM t b m p)(k:zB t t'):tM t' b m p:=by
 obtain⟨cs,h1,h2⟩:=h
 exact⟨cs,h1.mono k,h2.up k⟩
theorem tM.map(h:tM t b m p):oA yA 100 ⟨0,t⟩ (.ptr b 4)=some (.map m):=by
 obtain⟨cs,h1,h2,h3,h4⟩:=h.plan
 refine h4.load1 (j:=4) z68 rfl ?_
 rw[yaq (by omega),h2]
 rfl
theorem zzt{r:Bool}{k:Nat}{t0:Tr rA}(hle:zB t0 t):jp 44 59 [.bool r,.int .u8 (k:Int)] t (fun v t'=>v=kdV (if r=true then(k,0)else(0,142))/\zB t0 t'):=by
 refine j44_59 _ _ ?_
 unfold z5f
 cases r with
 | true=>exact zC (by simp) ⟨rfl,hle⟩
 | false=>exact wB rfl ⟨rfl,hle⟩
theorem z2f{op:Nat}{name:List Nat}{v:gF}{n:Nat}{ks:List Nat}{a c d:zA}{ak:Nat}{t0:Tr rA}(hp:p.fit)(hC:tM t b m p)(hm:t.get m=some (.map (wD 64)))(hd:xC d=some (.int .i64 (n:Int)))(hk:jD t ak none (kC ks))(hle:zB t0 t) :
  wp 44 (.call 66 [.ptr b 0,(.agg [(.int .u8 (op:Int)),(.str name),(.int .u8 (v.kind:Int)),(.bool v.f.n.neg),a,(.bool v.f.d.neg),c,(.int .i64 v.i),d])] fun a9=>
 .opt (sB 0 a9) fun sD=>.asI .u8 sD fun n11=>.opt (sB 1 a9) fun dE=>.asB dE fun b13=>.ite (!b13)
 (.ret (.tup [(.int .u8 0),(.int .i64 141)]))
 (.opt (lB yA 137 (.ptr ak 0) (.int .i64 0)) fun cF=>.light (fun m=>oA yA 5 ⟨0,m⟩ cF) fun a15=>.asI .u8 a15 fun n16=>.opt (lB yA 137 (.ptr ak 0) (.int .i64 1)) fun a17=>.light (fun m=>oA yA 5 ⟨0,m⟩ a17) fun a18=>.asI .u8 a18 fun n19=>.opt (lB yA 137 (.ptr ak 0) (.int .i64 2)) fun a20=>.light (fun m=>oA yA 5 ⟨0,m⟩ a20) fun a21=>.asI .u8 a21 fun n22=>.ite true (.ite true (.ite (lA (op:Int) 1)
 (.ret (.tup [(.int .u8 (v.kind:Int)),(.int .i64 0)]))
 (.ite (lA (op:Int) 3)
 (.ite (lA (op:Int) 3)
 (.opt (lB yA 137 (.ptr ak 0) (.int .i64 0)) fun a23=>.light (fun m=>oA yA 5 ⟨0,m⟩ a23) fun a24=>.asI .u8 a24 fun n25=>.jump 59 [(.bool (lA n25 4)),(.int .u8 n11)])
 (.ite (lA (op:Int) 21)
 (.opt (qC (.ptr b 0)) fun a26=>.opt (rB yA 104 1 a26) fun a27=>.light (fun m=>oA yA 100 ⟨0,m⟩ a27) fun a28=>.light (fun m=>kH yA 100 ⟨0,m⟩ a28 (.agg [(.int .u8 (op:Int)),(.int .u8 n16),(.int .u8 n19),(.int .u8 n22)]) true) fun a29=>.opt (sB 0 a29) fun a30=>.asI .u8 a30 fun n31=>.opt (sB 1 a29) fun a32=>.asB a32 fun b33=>.ite b33
 (.jump 59 [(.bool (lA n11 2)),(.int .u8 n31)])
 (.jump 59 [(.bool false),(.int .u8 n31)]))
 (.ite (lA (op:Int) 22)
 (.opt (qC (.ptr b 0)) fun a34=>.opt (rB yA 104 1 a34) fun a35=>.light (fun m=>oA yA 100 ⟨0,m⟩ a35) fun a36=>.light (fun m=>kH yA 100 ⟨0,m⟩ a36 (.agg [(.int .u8 (op:Int)),(.int .u8 n16),(.int .u8 n19),(.int .u8 n22)]) true) fun a37=>.opt (sB 0 a37) fun a38=>.asI .u8 a38 fun n39=>.opt (sB 1 a37) fun a40=>.asB a40 fun b41=>.ite b41
 (.jump 59 [(.bool (lA n11 3)),(.int .u8 n39)])
 (.jump 59 [(.bool false),(.int .u8 n39)]))
 (.opt (qC (.ptr b 0)) fun a42=>.opt (rB yA 104 1 a42) fun a43=>.light (fun m=>oA yA 100 ⟨0,m⟩ a43) fun a44=>.light (fun m=>kH yA 100 ⟨0,m⟩ a44 (.agg [(.int .u8 (op:Int)),(.int .u8 n16),(.int .u8 n19),(.int .u8 n22)]) true) fun a45=>.opt (sB 0 a45) fun a46=>.asI .u8 a46 fun n47=>.opt (sB 1 a45) fun a48=>.asB a48 fun b49=>.jump 59 [(.bool b49),(.int .u8 n47)]))))
 (.ite (lA (op:Int) 5)
 (.opt (lB yA 137 (.ptr ak 0) (.int .i64 0)) fun a50=>.light (fun m=>oA yA 5 ⟨0,m⟩ a50) fun a51=>.asI .u8 a51 fun n52=>.jump 59 [(.bool (lA n52 4)),(.int .u8 n11)])
 (.ite (lA (op:Int) 21)
 (.opt (qC (.ptr b 0)) fun a53=>.opt (rB yA 104 1 a53) fun a54=>.light (fun m=>oA yA 100 ⟨0,m⟩ a54) fun a55=>.light (fun m=>kH yA 100 ⟨0,m⟩ a55 (.agg [(.int .u8 (op:Int)),(.int .u8 n16),(.int .u8 n19),(.int .u8 n22)]) true) fun a56=>.opt (sB 0 a56) fun a57=>.asI .u8 a57 fun n58=>.opt (sB 1 a56) fun a59=>.asB a59 fun b60=>.ite b60
 (.jump 59 [(.bool (lA n11 2)),(.int .u8 n58)])
 (.jump 59 [(.bool false),(.int .u8 n58)]))
 (.ite (lA (op:Int) 22)
 (.opt (qC (.ptr b 0)) fun a61=>.opt (rB yA 104 1 a61) fun a62=>.light (fun m=>oA yA 100 ⟨0,m⟩ a62) fun a63=>.light (fun m=>kH yA 100 ⟨0,m⟩ a63 (.agg [(.int .u8 (op:Int)),(.int .u8 n16),(.int .u8 n19),(.int .u8 n22)]) true) fun a64=>.opt (sB 0 a64) fun a65=>.asI .u8 a65 fun n66=>.opt (sB 1 a64) fun a67=>.asB a67 fun b68=>.ite b68
 (.jump 59 [(.bool (lA n11 3)),(.int .u8 n66)])
 (.jump 59 [(.bool false),(.int .u8 n66)]))
 (.opt (qC (.ptr b 0)) fun a69=>.opt (rB yA 104 1 a69) fun a70=>.light (fun m=>oA yA 100 ⟨0,m⟩ a70) fun a71=>.light (fun m=>kH yA 100 ⟨0,m⟩ a71 (.agg [(.int .u8 (op:Int)),(.int .u8 n16),(.int .u8 n19),(.int .u8 n22)]) true) fun a72=>.opt (sB 0 a72) fun a73=>.asI .u8 a73 fun n74=>.opt (sB 1 a72) fun a75=>.asB a75 fun b76=>.jump 59 [(.bool b76),(.int .u8 n74)])))))) .fail) .fail)) t (fun x t'=>x=kdV (opK p op name v.kind n ks)/\zB t0 t'):=by
 refine cC ?_
 rw[q66,z2r hC hp hd,tA];unfold opK;generalize lM p op name n=r
 obtain⟨nm,ok⟩:=r
 refine cA rfl (iC (cA rfl (iG ?_)))
 cases ok with
 | false=>exact wB rfl ⟨rfl,hle⟩
 | true=>
  refine zC (by simp) ?_
  rw[if_neg (by simp)]
  have i0:=zq4 (b:=ak) (i:=0) (by omega)
  have i1:=zq4 (b:=ak) (i:=1) (by omega)
  have i2:=zq4 (b:=ak) (i:=2) (by omega)
  have l0:oA yA 5 ⟨0,t⟩ (.ptr ak 0)=some (.int .u8 (ks.getD 0 0:Nat)):=hk.load1 ty5 rfl (zyk (by omega))
  have l1:oA yA 5 ⟨0,t⟩ (.ptr ak 1)=some (.int .u8 (ks.getD 1 0:Nat)):=hk.load1 ty5 rfl (zyk (by omega))
  have l2:oA yA 5 ⟨0,t⟩ (.ptr ak 2)=some (.int .u8 (ks.getD 2 0:Nat)):=hk.load1 ty5 rfl (zyk (by omega))
  refine cA i0 (rD l0 (iC (cA i1 (rD l1 (iC (cA i2 (rD l2 (iC (wB rfl (wB rfl ?_))))))))))
  by_cases h1:op=1
  ·rw[if_pos h1];exact wB (yF (by omega)) ⟨rfl,hle⟩
  rw[if_neg h1];refine zC (wF (by omega)) ?_
  have hlk:=z8c hm op (ks.getD 0 0) (ks.getD 1 0) (ks.getD 2 0)
  unfold z83;have eq4:∀ {x j:Nat},lA (x:Int) (j:Int)=decide (x=j):=by intro x j;rw[yN];congr 1;exact propext (by omega)
  have fE:∀ {x j k:Nat},jp 44 59 [.bool (lA (x:Int) (j:Int)),.int .u8 (k:Int)] t (fun v t'=>v=kdV (if x=j then(k,0)else(0,142))/\zB t0 t'):=by
   intro x j k;rw[eq4];have:=zzt (r:=decide (x=j)) (k:=k) hle
   simpa using this
  by_cases h3:op=3
  ·rw[if_pos (.inl h3)]
   refine wB (yF (by omega)) (wB (yF (by omega)) (cA i0 (rD l0 (iC (xF ?_)))))
   exact fE (j:=4)
  refine zC (wF (by omega)) ?_
  by_cases h5:op=5
  ·rw[if_pos (.inr h5)]
   refine wB (yF (by omega)) (cA i0 (rD l0 (iC (xF ?_))))
   exact fE (j:=4)
  rw[if_neg (by omega)]
  refine zC (wF (by omega)) ?_
  by_cases h21:op=21
  ·refine wB (yF (by omega)) (cA gE (cA zn9 (rD hC.map (rD hlk ?_))))
   cases hL:zh4 op (ks.getD 0 0) (ks.getD 1 0) (ks.getD 2 0)with
   | some k=>
    refine cA rfl (iC (cA rfl (iG (wB rfl (xF ?_)))))
    simp only[if_pos h21];exact fE (j:=2)
   | none=>
    refine cA rfl (iC (cA rfl (iG (zC (by simp) (xF ?_)))))
    exact zzt (r:=false) (k:=0) hle
  refine zC (wF (by omega)) ?_
  by_cases h22:op=22
  ·refine wB (yF (by omega)) (cA gE (cA zn9 (rD hC.map (rD hlk ?_))))
   cases hL:zh4 op (ks.getD 0 0) (ks.getD 1 0) (ks.getD 2 0)with
   | some k=>
    refine cA rfl (iC (cA rfl (iG (wB rfl (xF ?_)))))
    simp only[if_neg h21,if_pos h22];exact fE (j:=3)
   | none=>
    refine cA rfl (iC (cA rfl (iG (zC (by simp) (xF ?_)))))
    exact zzt (r:=false) (k:=0) hle
  refine zC (wF (by omega)) (cA gE (cA zn9 (rD hC.map (rD hlk ?_))))
  cases hL:zh4 op (ks.getD 0 0) (ks.getD 1 0) (ks.getD 2 0)with
  | some k=>
   refine cA rfl (iC (cA rfl (iG (xF ?_))))
   simp only[if_neg h21,if_neg h22];exact zzt (r:=true) (k:=k) hle
  | none=>
   refine cA rfl (iC (cA rfl (iG (xF ?_))))
   exact zzt (r:=false) (k:=0) hle
theorem zw4{op:Nat}{name:List Nat}{v:gF}{args:List mA}{a c d:zA}{ak dd:Nat}{t0:Tr rA}(hp:p.fit)(hall:∀y∈args,POk p b m y)(hP:∀y∈args,zE y dd=true)(hfits:∀y∈args,y.fit)(hlen:args.length<=3)
  (hC:tM t0 b m p) (hm:t0.get m=some (.map (wD 64))) (hr:jA t0 9 (args.map mA.d) d) (hak:t0.get ak=none) (hbase:yA.base<=ak):∀(l:List mA) (i:Nat) (ks:List Nat) (t:Tr rA),args.drop i=l->i<=args.length->ks.length=i->zB t0 t->jD t ak none (kC ks) →
  jp 44 2 [.ptr b 0,.ptr ak 0,d,.int .i64 (args.length:Int),.int .i64 (i:Int),.int .u8 (op:Int),.str name,.int .u8 (v.kind:Int),.bool v.f.n.neg,a,.bool v.f.d.neg,c,.int .i64 v.i,d] t (fun x t'=>x=kdV (zyl p op name v.kind args.length ks (xL p l))/\zB t0 t'):=by
 intro l;induction l with
 | nil=>
  intro i ks t hl hi hk hle hc;have hi2:=List.drop_eq_nil_iff.1 hl
  refine j44_2 _ _ _ _ _ _ _ _ _ _ _ _ _ _ ?_
  unfold z7g;refine zC (nLt (by omega)) ?_
  have:=z2f (op:=op) (name:=name) (v:=v) (n:=args.length) (a:=a) (c:=c) (d:=d) hp (hC.mono hle) (hle _ _ hm) (by rw[hr.len,yag]) hc hle
  unfold xL;show wp 44 _ t (fun x t'=>x=kdV (opK p op name v.kind args.length (ks++[]))/\zB t0 t')
  rw[ybe];exact this
 | cons x l ih=>
  intro i ks t hl hi hk hle hc;obtain⟨h1,h2,h3⟩:=pY hl
  have hm':x∈args:=ybw h1
  refine j44_2 _ _ _ _ _ _ _ _ _ _ _ _ _ _ ?_
  unfold z7g;obtain⟨pb,po,cs,g1,g2,g3,g4,g5⟩:=lF.at z7l (by simp) (hr.mono hle) (i:=i) (d:=x.d) (by simp[h1])
  refine wB (yLt (by omega)) (cA g1 (rD g2 ?_))
  rw[vP];refine eH (rI g5 x.zs) ?_
  have hmk:=g5.mk x.zs
  have hcs:[zA.int .u8 ((cellsOf cs).i 0),.str ((cellsOf cs).s 1),.int .u8 ((cellsOf cs).i 2),.bool ((cellsOf cs).b 3),(cellsOf cs).v 4,.bool ((cellsOf cs).b 5),(cellsOf cs).v 6,.int .i64 ((cellsOf cs).i 7),(cellsOf cs).v 8]=cs:=hmk
  rw[hcs];refine wB g5.all (cC ?_)
  rw[q44,hall x hm' dd t cs (hP x hm') (hfits x hm') (hC.mono hle) (hle _ _ hm) g5,tA]
  refine cA rfl (iC (cA rfl (iC ?_)))
  unfold xL;by_cases he:(sG p x).2=0
  ·rw[if_neg (by simpa using he)]
   refine zC (by rw[yF (by omega)];simp) (cA (zq4 (by omega)) (fH fun n _ _=>?_))
   obtain⟨t',e1,e2,e3⟩:=hc.store1 (v:=.int .u8 ((sG p x).1:Nat)) hbase ty5 rfl rfl rfl (j:=i) (by show i<3;omega)
   refine⟨_,_,e1 n,xF ?_⟩
   rw[wrap_i64 (by omega) (by omega),show(i:Int)+1=((i+1:Nat):Int) by omega]
   rw[<- hk,kC_set (by omega)]at e2
   have hle':zB t0 t':=hle.off hak e3
   have:=ih (i+1) (ks++[(sG p x).1]) t' h2 (by omega) (by simp;omega) hle' e2
   refine Jq.mono this fun v' t2 hh=>⟨?_,hh.2⟩
   rw[hh.1]
   cases xL p l with
   | inl e=>rfl
   | inr ks'=>simp[zyl]
  ·rw[if_pos he]
   refine wB ?_ ⟨rfl,hle⟩
   cases hq:lA ((sG p x).2:Int) 0 with
   | true=>exact absurd (cH.1 hq) (by omega)
   | false=>rfl
mutual
theorem zw3(hp:p.fit):∀(x:mA),POk p b m x
 | .mk op name v args=>by
  have hall:=zqb hp args
  intro dd t cs hP hfit hC hm hr;have hP0:=hP
  obtain⟨h1,h2⟩:=z4t hP
  have hone:=z4s hP
  simp only[mA.args,mA.op]at h1 h2 hone;obtain⟨a,c,d,rfl,ha,hc,hd⟩:=bI hr
  simp only[mA.op,mA.name,mA.v,mA.args]at ha hc hd ⊢
  have hfit':=hfit
  unfold mA.fit at hfit';have hfits:=mA.fits_mem hfit'.2.2.2.2.2
  have hPs:∀y∈args,zE y (dd+1)=true:=by
   rcases h2 with e | h
   ·rw[hone e];intro y hy;cases hy
   ·exact h
  refine oN (w44 _ _ _ _ _ _ _ _ _ _ ?_)
  unfold t44;refine fH fun ak hak hbase=>?_
  obtain⟨t1,e1,e2,e3,e4⟩:=aT (C:=yA) ty137 hak
  have hlen:=hd.len
  rw[yag]at hlen;refine⟨_,_,e1,cA hlen (iC (xF ?_))⟩
  have:=zw4 (op:=op) (name:=name) (v:=v) (a:=a) (c:=c) hp hall hPs hfits h1 hC hm hd hak hbase args 0 [] t1 rfl (by omega) rfl e3 e2
  unfold sG;exact this
theorem zqb(hp:p.fit):∀(l:List mA),∀y∈l,POk p b m y
 | [],_,h=>by cases h
 | x::l,y,h=>by
  rcases yat.1 h with e | h
  ·rw[e];exact zw3 hp x
  ·exact zqb hp l y h
end
end
def jG(p:bE)(x:mA):Nat × Nat:=if zE x 1=true then sG p x else(0,140)
theorem znz{p:bE}{x:mA}{cp cs:List zA}(hp:p.fit)(hfit:x.fit)(hM:mJ t)(hW:uN t)(hrp:RD t p.d cp)(hr:RD t x.d cs):wC yA F 11 [.agg cp,.agg cs] t=some (kdV (jG p x)):=by
 have hrp0:=hrp
 have hr0:=hr
 obtain⟨u1,u2,u3,rfl,_⟩:=mR hrp
 obtain⟨a,c,d,rfl,_⟩:=bI hr
 refine oN (w11 _ _ _ _ _ _ _ _ _ _ _ _ _ ?_)
 unfold t11;refine cC ?_
 rw[q28];refine zdh hrp0 fun b m t1 h1 h2 h3=>wB hr0.sameA (cC ?_)
 have hk:wC yA F 29 [.ptr b 0,.agg [.int .u8 x.op,.str x.name,.int .u8 x.v.kind,.bool x.v.f.n.neg,a,.bool x.v.f.d.neg,c,.int .i64 x.v.i,d]] t1=some (kdV (jG p x)):=by
  refine oN (w29 _ _ _ _ _ _ _ _ _ _ ?_)
  unfold t29;refine cC ?_
  rw[q43];refine z33 hfit (hM.mono h1) (hW.mono h1) (hr0.mono h1) fun t2 s e h4 h5=>?_
  refine cA rfl (vJ (cA rfl (iC ?_)))
  unfold jG
  cases hP:zE x 1 with
  | false=>
   rw[hP,if_neg (by simp)]at h5
   exact wB (yF h5.2) ⟨rfl,h4⟩
  | true=>
   rw[hP,if_pos rfl]at h5;refine zC (wF (by omega)) (cC ?_)
   rw[q44,zw3 hp x 1 t2 _ hP hfit (h2.mono h4) (h4 _ _ h3) ((hr0.mono h1).mono h4),tA]
   exact cA rfl (iC (cA rfl (iC ⟨rfl,h4⟩)))
 rw[q29,hk,tA];exact cA rfl (iC (cA rfl (iC ⟨rfl,h1⟩)))
end Go.Proofs
namespace Go.Proofs
open Go Go.Am
variable [nC]
variable {t tf:Tr rA}
abbrev z10h:List zA:=[(.int .u8 0),(.str []),(.int .u8 0),(.bool false),.nilslice,(.bool false),.nilslice,(.int .i64 0),.nilslice,(.int .u8 0)]
section
variable {p:bE}{b m:Nat}
end
end Go.Proofs
namespace Go.Proofs
open Go Go.Am
variable [nC]
variable {t tf:Tr rA}
theorem nilR{sz:Nat}:jA t sz [] .nilslice:=⟨[],.inl ⟨rfl,rfl⟩,sH.2 rfl⟩
end Go.Proofs
namespace Go.Proofs
open Go Go.Am
variable [nC]
variable {t:Tr rA}
theorem pv36{f:uE}{u v:zA}(h1:jA t 1 (cD f.n.limbs) u)(h2:jA t 1 (cD f.d.limbs) v)(hf:f.ok):wC yA F 32 [.agg [.bool f.n.neg,u,.bool f.d.neg,v]] t=some (.int .i64 (cK f:Nat)):=by
 have hs:=cV hf
 refine fC.2 (w32 _ _ _ _ ?_)
 unfold cK at hs ⊢
 simp (disch:=omega) only[t32,qA,h1.len,h2.len,tA,qB,tV,wrap_i64]
 simp
mutual
theorem pv37:∀(x:mA) (left:Int) (cs:List zA),x.ok -> -9007199254740992<=left->left<=9007199254740992->RD t x.d cs->wC yA F 22 [.agg cs,.int .i64 left] t=some (.int .i64 (jI x left))
 | .mk op name v args,left,cs,hx,hl1,hl2,h=>by
  obtain⟨a,b,c,rfl,ha,hb,hc⟩:=bI h
  simp only[mA.op,mA.name,mA.v,mA.args]at ha hb hc ⊢
  have hx':=hx
  unfold mA.ok at hx';have hf:=cV hx'.2.1
  have hn:=hx'.1
  unfold iD at hn;refine fC.2 (w22 _ _ _ _ _ _ _ _ _ _ ?_)
  simp (disch:=omega) only[t22,qA,q32,pv36 ha hb hx'.2.1,tA,qB,zhn,aV,if_true,yL,wrap_i64,Int.tdiv_eq_ediv_of_nonneg]
  unfold jI;exact z5u args args left _ op name v _ _ c 0 hc rfl hx'.2.2.2 hx'.2.2.1 (by omega) hl1 hl2 (by omega)
theorem z5u:∀(l args:List mA) (left n:Int) (op:Nat) (name:List Nat) (v:gF) (a b c:zA) (i:Nat),jA t 9 (args.map mA.d) c->args.drop i=l->mA.oks l->args.length<iD->0<=n -> -9007199254740992<=left->left<=9007199254740992->n<=27021597764222976 →
  jp 22 2 [.int .i64 left,.int .i64 n,.int .i64 i,.int .u8 op,.str name,.int .u8 v.kind,.bool v.f.n.neg,a,.bool v.f.d.neg,b,.int .i64 v.i,c] t (fun v' t'=>v'=.int .i64 (pN l left n)/\t'=t)
 | [],args,left,n,op,name,v,a,b,c,i,hc,hd,hok,hsz,hn,hl1,hl2,hn2=>by
  have:=zee hd
  refine j22_2 _ _ _ _ _ _ _ _ _ _ _ _ ?_
  simp only[z7h,qA,hc.len,tA,qB,yag,zD];rw[if_neg (by omega)]
  unfold pN;simp
 | x::l,args,left,n,op,name,v,a,b,c,i,hc,hd,hok,hsz,hn,hl1,hl2,hn2=>by
  obtain⟨h1,h2,h3⟩:=pY hd
  unfold iD at hsz;have hok':=hok
  unfold mA.oks at hok';refine j22_2 _ _ _ _ _ _ _ _ _ _ _ _ ?_
  obtain⟨pb,po,cs,g1,g2,g3,g4,g5⟩:=lF.at z7l (by simp) hc (i:=i) (d:=x.d) (by simp[h1])
  simp only[z7h,qA,hc.len,tA,qB,yag,zD,dF,g1,g2,vP];rw[if_pos (by omega)]
  unfold pN;split
  ·rename_i hle
   obtain⟨a1,b1,c1,rfl,ha1,hb1,hc1⟩:=bI g5
   have hs:=sX x (left-n) hok'.1
   rw[rI g5 x.zs];simp only[tA,cellsOf,zyv,z1t,cQ,zi9];simp (disch:=omega) only[q22,yaa,yab,wrap_i64]
   rw[pv37 x (left-n) _ hok'.1 (by omega) (by omega) g5]
   simp (disch:=omega) only[tA,qB,wrap_i64]
   have:=z5u l args left (n+jI x (left-n)) op name v a b c (i+1) hc h2 hok'.2 hsz (by omega) hl1 hl2 (by omega)
   rw[show((i:Int)+1)=((i+1:Nat):Int) by omega]
   exact this
  ·simp
end
end Go.Proofs
namespace Go.Proofs
open Go Go.Am
variable [nC]
variable {t tf:Tr rA}
def zrw:gF:=⟨0,⟨⟨false,[]⟩,⟨false,[]⟩⟩,0⟩
theorem z2t{op a b c k:Nat}(h:zh4 op a b c=some k):∃e∈zku,e.op=op/\e.a=a/\e.b=b/\e.c=c/\e.k=k:=by
 unfold zh4 at h
 cases hf:zku.find? fun x=>decide (op=x.op)&&(decide (a=x.a)&&(decide (b=x.b)&&(decide (c=x.c)&&true)))with
 | none=>rw[hf]at h;cases h
 | some e=>
  rw[hf]at h
  cases h;have:=List.find?_some hf
  simp only[yac,decide_eq_true_eq]at this;exact⟨e,List.mem_of_find?_eq_some hf,this.1.symm,this.2.1.symm,this.2.2.1.symm,this.2.2.2.1.symm,rfl⟩
theorem el34:zuh yA 34 36 9:=⟨⟨_,ty34,rfl,rfl⟩,⟨_,ty36,rfl,rfl,by decide,by decide⟩,fun y h=>by rw[ty36]at h;cases h;rfl⟩
theorem zui:zrw.fit:=⟨by decide,⟨⟨by decide,by decide⟩,(fun x h=>by cases h),(fun x h=>by cases h)⟩,by decide,by decide⟩
end Go.Proofs
namespace Go.Am
open Go Go.RowKit
def zhx{α:Type}(f:Nat->Option α):Nat->Tr α
 | 0=>.leaf
 | n+1=>match f n with
  | some v=>(zhx f n).set n v
  | none=>zhx f n
theorem iO{α:Type}(f:Nat->Option α):∀(n a:Nat),(zhx f n).get a=if a<n then f a else none:=by
 intro n;induction n with
 | zero=>intro a;rw[if_neg (by omega)];exact Tr.get_leaf _
 | succ n ih=>
  intro a;unfold zhx
  cases hf:f n with
  | some v=>
   simp only[];rw[Tr.get_set,ih];by_cases h:a=n
   ·subst h;rw[if_pos rfl,if_pos (by omega),hf]
   ·rw[if_neg h]
    by_cases h2:a<n
    ·rw[if_pos h2,if_pos (by omega)]
    ·rw[if_neg h2,if_neg (by omega)]
  | none=>
   simp only[];rw[ih];by_cases h:a=n
   ·subst h;rw[if_neg (by omega),if_pos (by omega),hf]
   ·by_cases h2:a<n
    ·rw[if_pos h2,if_pos (by omega)]
    ·rw[if_neg h2,if_neg (by omega)]
def zt5 (N:Nat):Value->Option zA
 | .bool b=>some (.bool b)
 | .int k n=>some (.int k n)
 | .string s=>some (.str (xE s))
 | .slice none 0 0=>some .nilslice
 | .slice (some _) 0 0=>some (.slice 0 0 0 0)
 | .slice (some ⟨b,off,none⟩) len cap=>if b<N then some (.slice (256+b) off len cap)else none
 | _=>none
def absB (N:Nat):Obj->Option rA
 | .cells cs _ _=>some (.cells (zhx (fun j=>(cs[j]?).bind (zt5 N)) cs.size) cs.size none)
 | _=>none
def nG (w:World):Tr rA:=zhx (fun a=>if a<256 then(w.heap[a]?).bind (absB w.heap.size)else(w.heap[a-256]?).bind (absB w.heap.size)) (256+w.heap.size)
def muW (w:World):Mu:=⟨fun a=>if a<256 then some ⟨a,true,0,0,true⟩else if a<256+w.heap.size then some ⟨a-256,true,0,0,true⟩else none,fun _=>none⟩
section
variable {w:World}
theorem zrr{v:Value}{a:zA}(h:zt5 w.heap.size v=some a):vA (muW w) a v:=by
 unfold zt5 at h;split at h
 ·cases h;rw[vA]
 ·cases h;rw[vA]
 ·cases h;rw[vA];exact⟨_,rfl,rfl⟩
 ·cases h;rw[vA]
 ·cases h;rw[vA];exact .inr ⟨rfl,rfl,rfl,_,_,rfl,.inl ⟨rfl,rfl⟩⟩
 ·split at h
  ·rename_i hb
   cases h;rename_i b off len cap _;rw[vA];refine .inl ⟨⟨b,true,0,0,true⟩,cap,?_,rfl,yal _,fun _=>rfl,fun h=>by cases h⟩
   show(if 256+b<256 then some (⟨256+b,true,0,0,true⟩:BI)else if 256+b<256+w.heap.size then some ⟨256+b-256,true,0,0,true⟩else none)=_
   rw[if_neg (by omega),if_pos (by omega),show 256+b-256=b by omega]
  ·cases h
 ·cases h
theorem zrt{o:Obj}{x:rA}(h:absB w.heap.size o=some x)(b:Nat):zH (muW w) ⟨b,true,0,0,true⟩ x o/\x.asLoop=none/\x.asDeferred=none:=by
 cases o<;>first | (cases h;done) | skip
 rename_i cs elem fr
 cases h;refine⟨⟨cs,elem,fr,rfl,yal _,.inl rfl,fun j v hv=>?_,rfl⟩,rfl,rfl⟩
 rw[iO]at hv;split at hv
 case isFalse=>cases hv
 rename_i hj
 cases hc:cs[j]? with
 | none=>rw[hc]at hv;cases hv
 | some u=>
  rw[hc]at hv;exact⟨hj,u,rfl,zrr hv⟩
theorem hrelW:aA (256+w.heap.size) w.heap.size (muW w) ⟨256+w.heap.size,nG w⟩ w:=by
 have hget:∀a x,(nG w).get a=some x->∃b o,b<w.heap.size/\w.heap[b]?=some o/\absB w.heap.size o=some x/\a<256+w.heap.size/\b=(if a<256 then a else a-256):=by
  intro a x hx;unfold nG at hx;rw[iO]at hx;split at hx
  case isFalse=>cases hx
  rename_i hlt;split at hx
  ·rename_i h
   cases ho:w.heap[a]? with
   | none=>rw[ho]at hx;cases hx
   | some o=>rw[ho]at hx;exact⟨a,o,(yaf.1 ho).1,ho,hx,hlt,by rw[if_pos h]⟩
  ·rename_i h
   cases ho:w.heap[a-256]? with
   | none=>rw[ho]at hx;cases hx
   | some o=>rw[ho]at hx;exact⟨a-256,o,(yaf.1 ho).1,ho,hx,hlt,by rw[if_neg h]⟩
 have hmu:∀a,(muW w) a=if a<256 then some ⟨a,true,0,0,true⟩else if a<256+w.heap.size then some ⟨a-256,true,0,0,true⟩else none:=fun _=>rfl
 have big:∀a,256+w.heap.size<=a->(muW w) a=none:=fun a h=>by rw[hmu,if_neg (by omega),if_neg (by omega)]
 have same:∀a x i,(nG w).get a=some x->(muW w) a=some i->∃o,w.heap[i.b]?=some o/\i.b<w.heap.size/\absB w.heap.size o=some x/\i=⟨i.b,true,0,0,true⟩:=by
  intro a x i hx hi;obtain⟨b,o,h1,h2,h3,h4,h5⟩:=hget a x hx
  rw[hmu]at hi;split at hi
  ·rename_i h
   cases hi;rw[if_pos h]at h5;subst h5;exact⟨o,h2,h1,h3,rfl⟩
  ·rename_i h
   rw[if_neg h]at h5;have hi:=ybj hi
   have hb:i.b=b:=by rw[<- hi,h5]
   refine⟨o,by rw[hb];exact h2,by rw[hb];exact h1,h3,by rw[<- hi]⟩
 refine⟨by omega,fun g hg=>by rw[hmu,if_pos hg],fun a x i _ hx hi=>?_,yal _,yal _,fun a ha=>⟨big a ha,?_⟩,fun a x i hx hi=>?_,fun a i ha hi=>?_,fun a b x y i j hx _ hi _ ha _ _=>?_,fun a x t h=>by cases h⟩
 ·obtain⟨o,_,h2,h3,_⟩:=same a x i hx hi
  exact⟨h2,(zrt h3 0).2⟩
 ·show(nG w).get a=none
  unfold nG;have ha:256+w.heap.size<=a:=ha
  rw[iO,if_neg (by omega)]
 ·obtain⟨o,h1,_,h3,h4⟩:=same a x i hx hi
  exact⟨o,h1,by rw[h4];exact(zrt h3 _).1⟩
 ·rw[big a ha]at hi;cases hi
 ·rw[big a ha]at hi;cases hi
end
end Go.Am
namespace Go.Am
open Go Go.RowKit
def nF(P:Program):Nat->TypeId->D->Prop
 | 0,_,_=>False
 | f+1,t,x=>match P.underlying t with
  | some .bool=>∃b,x=.bool b
  | some (.int k)=>∃n,x=.int k n/\(Lit.int k n).wf=true
  | some .string=>∃l:List Nat,x=.str l/\l.length<=reachBytes/\∀c∈l,c<256
  | some (.slice e)=>∃l:List D,x=.sl (P.cellsOf e) l/\l.length*P.bytesOf e<=reachBytes/\∀y∈l,nF P f e y
  | some (.struct fs)=>∃l:List D,x=.st l/\sC (fun fd y=>nF P f fd.type y) fs.toList l
  | _=>False
def zsb(P:Program):Nat->List Field->Nat->Bool
 | off,[],n=>off == n
 | off,f::fs,n=>f.offset == off&&zsb P (off+P.cellsOf f.type) fs n
structure Plain (P:Program) (S:TypeId->Prop):Prop where
 part:∀t,S t->match P.underlying t with
  | some .bool=>True
  | some (.int _)=>True
  | some .string=>True
  | some (.slice e)=>S e/\0<P.cellsOf e
  | some (.struct fs)=>(∀f∈fs.toList,S f.type)/\zsb P 0 fs.toList (P.cellsOf t)=true
  | _=>False
def av (N:Nat)(v:Value):zA:=(zt5 N v).getD .nilptr
def Has (N:Nat)(cs:List Value):Prop:=∀v∈cs,zt5 N v=some (av N v)
theorem zei{α:Type}{Q:Nat->α->Prop}:∀(n:Nat),(∀i,i<n->∃p,Q i p)->∃l:List α,l.length=n/\∀i p,l[i]?=some p->Q i p:=by
 intro n;induction n with
 | zero=>intro _;exact⟨[],rfl,fun i p h=>by simp at h⟩
 | succ n ih=>
  intro h;obtain⟨l,hl,hq⟩:=ih fun i hi=>h i (by omega)
  obtain⟨p,hp⟩:=h n (by omega)
  refine⟨l++[p],by simp[hl],fun i q hq'=>?_⟩
  by_cases hi:i<n
  ·rw[ybp (by omega)]at hq';exact hq i q hq'
  ·rw[yaq (by omega)]at hq'
   have:i-l.length=0:=by
    cases hz:i-l.length with
    | zero=>rfl
    | succ m=>rw[hz]at hq';simp at hq'
   rw[this]at hq'
   simp at hq'
   subst hq'
   have:i=n:=by omega
   subst this;exact hp
section
variable {H:Type}{enc:TypeId × Value->H}{P:Program}{w:World}
theorem iZ{p:Nat->Bool}:∀ {ts:List TypeId} {ds:List (DataW H)},(DataW.weightsEach P ts ds).all p=true->∀ {i:Nat} {t:TypeId} {d:DataW H},ts[i]?=some t->ds[i]?=some d->(DataW.weights P t d).all p=true
 | [],_,_,i,_,_,h1,_=>by simp at h1
 | _::_,[],_,i,_,_,_,h2=>by simp at h2
 | t::ts,d::ds,h,i,u,e,h1,h2=>by
  rw[DataW.weightsEach,ycj,yac]at h
  cases i with
  | zero=>simp at h1 h2;subst h1 h2;exact h.1
  | succ i=>exact iZ h.2 (by simpa using h1) (by simpa using h2)
theorem zZ{p:Nat->Bool}{e:TypeId}:∀ {ds:List (DataW H)},(DataW.weightsAll P e ds).all p=true->∀ {i:Nat} {d:DataW H},ds[i]?=some d->(DataW.weights P e d).all p=true
 | [],_,i,_,h2=>by simp at h2
 | d::ds,h,i,x,h2=>by
  rw[DataW.weightsAll,ycj,yac]at h
  cases i with
  | zero=>simp at h2;subst h2;exact h.1
  | succ i=>exact zZ h.2 (by simpa using h2)
theorem zrl{a:Addr}{n:Nat}{cs:List Value}(h:w.cells? 0 a n=some cs):cs.length=n/\(0<n->a.spot=none/\∃c t fr,w.heap[a.block]?=some (.cells c t fr)/\∀j,j<n->c[a.off+j]?=cs[j]?):=by
 unfold World.cells? at h
 rw[if_pos (Nat.zero_le _)]at h
 have hl:=mapM_some_length h
 have hg:=mapM_some_get h
 simp only[List.length_range]at hl;refine⟨hl,fun hn=>?_⟩
 have key:∀j,j<n->w.cell? (a.add j)=cs[j]?:=fun j hj=>hg j j (by simp[hj])
 have h0:=key 0 hn
 have hs0:∃v,cs[0]?=some v:=⟨cs[0]'(by omega),yae (by omega)⟩
 obtain⟨v0,hv0⟩:=hs0
 rw[hv0]at h0;have e0:a.add 0=a:=by simp[Addr.add]
 rw[e0]at h0;unfold World.cell? at h0
 cases hb:w.heap[a.block]? with
 | none=>rw[hb]at h0;cases h0
 | some o=>
  rw[hb]at h0
  cases o with
  | cells c t fr=>
   simp only[]at h0;split at h0
   ·cases h0
   ·rename_i hsp
    refine⟨by simpa using hsp,c,t,fr,rfl,fun j hj=>?_⟩
    have:=key j hj
    unfold World.cell? at this
    by_cases hj0:j=0
    ·subst hj0;rw[hv0,ybu];exact h0
    ·have eb:(a.add j).block=a.block:=by unfold Addr.add;rw[if_neg hj0]
     have eo:(a.add j).off=a.off+j:=by unfold Addr.add;rw[if_neg hj0]
     have es:(a.add j).spot=none:=by unfold Addr.add;rw[if_neg hj0]
     rw[eb,hb]at this;simp only[es,eo,Option.isSome_none,yar,if_false]at this;exact this
  | _=>cases h0
theorem zrs{b:Nat}{c:Array Value}{t:TypeId}{fr:Nat × Nat}(h:w.heap[b]?=some (.cells c t fr)) :
  (nG w).get (256+b)=some (.cells (zhx (fun j=>(c[j]?).bind (zt5 w.heap.size)) c.size) c.size none):=by
 have hb:=(yaf.1 h).1
 unfold nG;rw[iO,if_pos (by omega),if_neg (by omega),show 256+b-256=b by omega,h]
 rfl
theorem at_old{b off n:Nat}{c:Array Value}{t:TypeId}{fr:Nat × Nat}{cs:List Value}(h:w.heap[b]?=some (.cells c t fr))(hl:cs.length=n)(hc:∀j,j<n->c[off+j]?=cs[j]?)(hs:Has w.heap.size cs) :
  At (nG w) (256+b) off (cs.map (av w.heap.size)):=by
 refine⟨_,_,_,zrs h,fun j a ha=>?_⟩
 rw[yav]at ha
 cases hj:cs[j]? with
 | none=>rw[hj]at ha;cases ha
 | some v=>
  rw[hj]at ha;have hlt:j<n:=by rw[<- hl];exact(yad.1 hj).1
  have h1:=hc j hlt
  rw[hj]at h1;have hsz:off+j<c.size:=(yaf.1 h1).1
  rw[iO,if_pos hsz,h1];have ha:av w.heap.size v=a:=by simpa using ha
  rw[<- ha];exact hs v (ybw hj)
theorem zcr{cs:List Value}:∀ {fs:List Field} {off:Nat},zsb P off fs cs.length=true->(fs.map fun f=>(cs.drop f.offset).take (P.cellsOf f.type)).flatten=cs.drop off
 | [],off,h=>by simp[zsb]at h;subst h;simp
 | f::fs,off,h=>by
  rw[zsb,yac]at h;obtain⟨h1,h2⟩:=h
  have h1:f.offset=off:=by simpa using h1
  rw[ybn,List.flatten_cons,zcr h2,h1,<- List.drop_drop,List.take_append_drop]
theorem z04{α β:Type}{R:α->β->Prop}:∀ {l:List α} {m:List β},m.length=l.length->(∀(i:Nat) a b,l[i]?=some a->m[i]?=some b->R a b)->sC R l m
 | [],[],_,_=>.nil
 | [],_::_,h,_=>by simp at h
 | _::_,[],h,_=>by simp at h
 | a::l,b::m,h,k=>.cons (k 0 a b (by simp) (by simp)) (z04 (by simpa using h) fun i a b h1 h2=>k (i+1) a b (by simpa using h1) (by simpa using h2))
theorem zwm{S:TypeId->Prop}(hP:Plain P S)(h0:∃c n lo,(nG w).get 0=some (.cells c n lo)) :
  ∀(fuel:Nat) (t:TypeId) (cs:List Value) (x:DataW H × List MemPlace),S t->DataW.trod enc P w 0 (fun _=>true) true fuel t cs=some x->(DataW.weights P t x.1).all (· <= reachBytes)=true →
   Has w.heap.size cs/\∃d,RD (nG w) d (cs.map (av w.heap.size))/\nF P fuel t d:=by
 intro fuel;induction fuel with
 | zero=>intro t cs x _ h;simp[DataW.trod]at h
 | succ n ih=>
  intro t cs x hS h hw;have hp:=hP.part t hS
  have one:∀ {v:Value} {a:zA},zt5 w.heap.size v=some a->Has w.heap.size [v]/\av w.heap.size v=a:=by
   intro v a hv;have:av w.heap.size v=a:=by unfold av;rw[hv];rfl
   refine⟨fun u hu=>?_,this⟩
   simp at hu;subst hu;rw[hv,this]
  cases hu:P.underlying t with
  | none=>rw[hu]at hp;exact hp.elim
  | some dt=>
  cases dt with
  | bool=>
   obtain⟨b,rfl,rfl⟩:=DataW.trod_bool hu h
   obtain⟨h1,h2⟩:=one (v:=.bool b) (a:=.bool b) rfl
   exact⟨h1,.bool b,by rw[uR];simp[h2],by unfold nF;rw[hu];exact⟨b,rfl⟩⟩
  | int k=>
   obtain⟨m,rfl,rfl,hwf⟩:=DataW.trod_int hu h
   obtain⟨h1,h2⟩:=one (v:=.int k m) (a:=.int k m) rfl
   exact⟨h1,.int k m,by rw[uM];simp[h2],by unfold nF;rw[hu];exact⟨m,rfl,hwf⟩⟩
  | string=>
   obtain⟨s,rfl,rfl,_⟩:=DataW.trod_string hu h
   obtain⟨h1,h2⟩:=one (v:=.string s) (a:=.str (xE s)) rfl
   refine⟨h1,.str (xE s),by rw[zeu];simp[h2],?_⟩
   unfold nF;rw[hu];simp only[DataW.weights,ybh,ybl,Bool.and_true,decide_eq_true_eq]at hw;refine⟨_,rfl,by unfold xE;simpa using hw,fun c hc=>?_⟩
   unfold xE at hc;simp only[List.mem_map]at hc;obtain⟨u,_,rfl⟩:=hc
   exact UInt8.toNat_lt u
  | slice e=>
   rw[hu]at hp;obtain⟨hSe,hpos⟩:=hp
   rcases DataW.trod_slice hu h with⟨rfl,rfl⟩ | ⟨a,len,cap,yJ,rest,m,hm,rfl,rfl,_,hlc,_,hel,hE,hR,_⟩
   ·obtain⟨h1,h2⟩:=one (v:=.slice none 0 0) (a:=.nilslice) rfl
    refine⟨h1,.sl (P.cellsOf e) [],by rw[fK];exact⟨_,by simp[h2],[],.inl ⟨rfl,rfl⟩,by rw[lC]⟩,?_⟩
    unfold nF;rw[hu];exact⟨[],rfl,by simp,fun y hy=>by simp at hy⟩
   ·obtain rfl:n=m:=by omega
    simp only[DataW.weights,hu,ybh,yac,ycj,decide_eq_true_eq,yag]at hw;obtain⟨hsz,hwe,hwr⟩:=hw
    by_cases hcap:cap=0
    ·subst hcap
     obtain rfl:len=0:=by omega
     obtain⟨h1,h2⟩:=one (v:=.slice (some a) 0 0) (a:=.slice 0 0 0 0) (by cases a;rfl)
     refine⟨h1,.sl (P.cellsOf e) [],?_,?_⟩
     ·rw[fK,ybn,List.map_nil,h2]
      refine⟨_,rfl,[],.inr ⟨0,0,0,rfl,yal _,?_,fun i cs hi=>by simp at hi⟩,by rw[lC]⟩
      obtain⟨c,k,lo,hc⟩:=h0
      have:=hc
      unfold nG at this;rw[iO]at this;split at this
      case isFalse=>cases this
      rw[if_pos (by omega)]at this
      cases ho:w.heap[0]? with
      | none=>rw[ho]at this;cases this
      | some o=>
       rw[ho]at this
       cases o with
       | cells c' t' fr'=>
        simp only[Option.bind_some,absB]at this
        cases this
        exact⟨_,_,_,hc,.inl rfl⟩
       | _=>cases this
     ·unfold nF
      rw[hu];exact⟨[],rfl,by simp,fun y hy=>by simp at hy⟩
    ·have hr:=(hR rfl).1
     have hRr:=(hR rfl).2
     have hel1:∀i,i<len->∃p:List Value × D,w.cells? 0 (a.add (i*P.cellsOf e)) (P.cellsOf e)=some p.1/\Has w.heap.size p.1/\RD (nG w) p.2 (p.1.map (av w.heap.size))/\nF P n e p.2:=by
      intro i hi;have:=hE i hi
      obtain⟨y,hy⟩:∃y,yJ[i]?=some y:=⟨yJ[i]'(by omega),yae (by omega)⟩
      rw[hy]at this;simp only[Option.bind_eq_some_iff]at this;obtain⟨c1,hc1,hy1⟩:=this
      obtain⟨g1,d,g2,g3⟩:=ih e c1 y hSe hy1 (zZ hwe (i:=i) (by simp[hy]))
      exact⟨(c1,d),hc1,g1,g2,g3⟩
     obtain⟨l,hl,hq⟩:=zei len hel1
     have hfirst:∃c1,w.cells? 0 a (P.cellsOf e)=some c1:=by
      by_cases hlen:len=0
      ·have:=hRr 0 (by omega)
       obtain⟨y,hy⟩:∃y,rest[0]?=some y:=⟨rest[0]'(by omega),yae (by omega)⟩
       rw[hy]at this;simp only[Option.bind_eq_some_iff]at this;obtain⟨c1,hc1,_⟩:=this
       exact⟨c1,by simpa[hlen,Addr.add]using hc1⟩
      ·obtain⟨p,hp,_⟩:=hel1 0 (by omega)
       exact⟨p.1,by simpa[Addr.add]using hp⟩
     obtain⟨c1,hc1⟩:=hfirst
     obtain⟨hspot,c,ct,fr,hblk,_⟩:=(zrl hc1).2 hpos
     have hb:a.block<w.heap.size:=(yaf.1 hblk).1
     have hav:zt5 w.heap.size (.slice (some a) len cap)=some (.slice (256+a.block) a.off len cap):=by
      obtain⟨bb,oo,ss⟩:=a
      simp only at hspot hb
      subst hspot
      cases cap with
      | zero=>exact absurd rfl hcap
      | succ cap=>unfold zt5;simp only[];rw[if_pos hb]
     obtain⟨h1,h2⟩:=one hav
     refine⟨h1,.sl (P.cellsOf e) (l.map (·.2)),?_,?_⟩
     ·rw[fK]
      refine⟨_,by rw[ybn,List.map_nil,h2],l.map (fun p=>p.1.map (av w.heap.size)),.inr ⟨256+a.block,a.off,cap,by rw[yag,hl],by rw[yag,hl];exact hlc,⟨_,_,_,zrs hblk,.inl rfl⟩,fun i cs hi=>?_⟩,?_⟩
      ·rw[yav]at hi
       cases hli:l[i]? with
       | none=>rw[hli]at hi;cases hi
       | some p=>
        rw[hli]at hi;obtain rfl:p.1.map (av w.heap.size)=cs:=by simpa using hi
        obtain⟨k1,k2,k3,k4⟩:=hq i p hli
        obtain⟨m1,m2⟩:=zrl k1
        obtain⟨_,c',ct',fr',hb',hcc⟩:=m2 hpos
        have eb:(a.add (i*P.cellsOf e)).block=a.block:=by unfold Addr.add;split<;>rfl
        have eo:(a.add (i*P.cellsOf e)).off=a.off+i*P.cellsOf e:=by unfold Addr.add;split<;>simp_all
        rw[eb]at hb'
        rw[hblk]at hb'
        cases hb'
        rw[eo]at hcc;exact⟨by rw[yag];exact m1,at_old hblk m1 hcc k2⟩
      ·refine lC.mk (by simp) fun i d cs' h1 h2=>?_
       rw[yav]at h1 h2
       cases hli:l[i]? with
       | none=>rw[hli]at h1;cases h1
       | some p=>
        rw[hli]at h1 h2;obtain rfl:p.2=d:=by simpa using h1
        obtain rfl:p.1.map (av w.heap.size)=cs':=by simpa using h2
        exact(hq i p hli).2.2.1
     ·unfold nF
      rw[hu];refine⟨_,rfl,?_,fun y hy=>?_⟩
      ·rw[yag,hl,<- hel]
       exact Nat.le_trans (yaj _ (Nat.le_add_right _ _)) hsz
      ·obtain⟨p,hp,rfl⟩:=List.mem_map.1 hy
       obtain⟨i,hi⟩:=List.mem_iff_getElem?.1 hp
       exact(hq i p hi).2.2.2
  | struct fs=>
   rw[hu]at hp;obtain⟨hf,ht⟩:=hp
   obtain⟨xs,m,hm,rfl,hlen,hxs,hel⟩:=DataW.trod_struct hu h
   obtain rfl:n=m:=by omega
   simp only[DataW.weights,hu]at hw;have hel1:∀i,i<fs.toList.length->∃p:D,∀f,fs.toList[i]?=some f->Has w.heap.size ((cs.drop f.offset).take (P.cellsOf f.type))/\RD (nG w) p (((cs.drop f.offset).take (P.cellsOf f.type)).map (av w.heap.size))/\nF P n f.type p:=by
    intro i hi;have hi':i<fs.size:=by simpa using hi
    obtain⟨f,hfi⟩:∃f,fs.toList[i]?=some f:=⟨fs.toList[i],yae hi⟩
    have:=hel i f (by simpa using hfi)
    obtain⟨y,hy⟩:∃y,xs[i]?=some y:=⟨xs[i]'(by omega),yae (by omega)⟩
    rw[hy]at this;obtain⟨g1,d,g2,g3⟩:=ih f.type _ y (hf f (ybw hfi)) this (iZ hw (i:=i) (by rw[yav,hfi];rfl) (by rw[yav,hy];rfl))
    refine⟨d,fun f' hf'=>?_⟩
    rw[hfi]at hf'
    cases hf'
    exact⟨g1,g2,g3⟩
   obtain⟨l,hl,hq⟩:=zei fs.toList.length hel1
   have hfl:=zcr (cs:=cs) (P:=P) (fs:=fs.toList) (off:=0) (by rw[hlen];exact ht)
   rw[ybs]at hfl;refine⟨fun v hv=>?_,.st l,?_,?_⟩
   ·rw[<- hfl]at hv
    obtain⟨part,hpart,hv⟩:=List.mem_flatten.1 hv
    obtain⟨f,hfm,rfl⟩:=List.mem_map.1 hpart
    obtain⟨i,hi⟩:=List.mem_iff_getElem?.1 hfm
    have hi':i<fs.toList.length:=(yad.1 hi).1
    exact(hq i (l[i]'(by omega)) (yae (by omega)) f hi).1 v hv
   ·rw[wI]
    refine⟨fs.toList.map (fun f=>((cs.drop f.offset).take (P.cellsOf f.type)).map (av w.heap.size)),?_,lC.mk (by simp[hl]) fun i d cs' h1 h2=>?_⟩
    ·conv=>lhs;rw[<- hfl]
     rw[List.map_flatten,List.map_map];rfl
    ·rw[yav]at h2
     cases hfi:fs.toList[i]? with
     | none=>rw[hfi]at h2;cases h2
     | some f=>
      rw[hfi]at h2;obtain rfl:=ybj h2
      exact(hq i d h1 f hfi).2.1
   ·unfold nF
    rw[hu];exact⟨l,rfl,z04 hl fun i f d h1 h2=>(hq i d h2 f h1).2.2⟩
  | _=>rw[hu]at hp;exact hp.elim
end
end Go.Am
namespace Go.Am
open Go Go.RowKit
structure zrv (P:Program) where
 (b i u8 u16 s limbs whole frac val expr exprs row rows table tables dfn dfns clause clauses plan:TypeId)
 hb:P.underlying b=some .bool
 hi:P.underlying i=some (.int .i64)
 hu8:P.underlying u8=some (.int .u8)
 hu16:P.underlying u16=some (.int .u16)
 hs:P.underlying s=some .string
 hlimbs:P.underlying limbs=some (.slice u16)
 hexprs:P.underlying exprs=some (.slice expr)
 hrows:P.underlying rows=some (.slice row)
 htables:P.underlying tables=some (.slice table)
 hdfns:P.underlying dfns=some (.slice dfn)
 hclauses:P.underlying clauses=some (.slice clause)
 hwhole:∃fs,P.underlying whole=some (.struct fs)/\fs.toList.map (·.type)=[b,limbs]
 hfrac:∃fs,P.underlying frac=some (.struct fs)/\fs.toList.map (·.type)=[whole,whole]
 hval:∃fs,P.underlying val=some (.struct fs)/\fs.toList.map (·.type)=[u8,frac,i]
 hexpr:∃fs,P.underlying expr=some (.struct fs)/\fs.toList.map (·.type)=[u8,s,val,exprs]
 hrow:∃fs,P.underlying row=some (.struct fs)/\fs.toList.map (·.type)=[i,i,i,frac]
 htable:∃fs,P.underlying table=some (.struct fs)/\fs.toList.map (·.type)=[s,b,rows]
 hdfn:∃fs,P.underlying dfn=some (.struct fs)/\fs.toList.map (·.type)=[s,u8,b]
 hclause:∃fs,P.underlying clause=some (.struct fs)/\fs.toList.map (·.type)=[s,s,i,i,i,b,expr,expr]
 hplan:∃fs,P.underlying plan=some (.struct fs)/\fs.toList.map (·.type)=[s,dfns,tables,clauses]
 cu16:P.cellsOf u16=1
 cexpr:P.cellsOf expr=9
 crow:P.cellsOf row=7
 ctable:P.cellsOf table=3
 cdfn:P.cellsOf dfn=3
 cclause:P.cellsOf clause=24
 bytes:1<=P.bytesOf u16/\1<=P.bytesOf expr/\1<=P.bytesOf row/\1<=P.bytesOf table/\1<=P.bytesOf dfn/\1<=P.bytesOf clause
section
variable {P:Program}{f:Nat}{t:TypeId}{x:D}
theorem iV(h:nF P f t x):∃g,f=g+1:=by
 cases f with
 | zero=>exact h.elim
 | succ g=>exact⟨g,rfl⟩
theorem vX(ht:P.underlying t=some .bool)(h:nF P f t x):∃b,x=.bool b:=by
 obtain⟨g,rfl⟩:=iV h
 unfold nF at h;rw[ht]at h;exact h
theorem zcp{k:IntKind}(ht:P.underlying t=some (.int k))(h:nF P f t x):∃n,x=.int k n/\(Lit.int k n).wf=true:=by
 obtain⟨g,rfl⟩:=iV h
 unfold nF at h;rw[ht]at h;exact h
theorem dS(ht:P.underlying t=some (.int .i64))(h:nF P f t x):∃n,x=.int .i64 n/\i64 n:=by
 obtain⟨n,rfl,hn⟩:=zcp ht h
 simp only[Lit.wf,yac,decide_eq_true_eq]at hn;have h1:IntKind.i64.min = -9223372036854775808:=rfl
 have h2:IntKind.i64.max=9223372036854775807:=rfl
 rw[h1,h2]at hn;exact⟨n,rfl,hn.1,by omega⟩
theorem zg8(ht:P.underlying t=some (.int .u8))(h:nF P f t x):∃n:Nat,x=.int .u8 (n:Int)/\n<256:=by
 obtain⟨n,rfl,hn⟩:=zcp ht h
 simp only[Lit.wf,yac,decide_eq_true_eq]at hn;have h1:IntKind.u8.min=0:=rfl
 have h2:IntKind.u8.max=255:=rfl
 rw[h1,h2]at hn;exact⟨n.toNat,by rw[show((n.toNat:Nat):Int)=n by omega],by omega⟩
theorem zu2(ht:P.underlying t=some (.int .u16))(h:nF P f t x):∃n:Nat,x=.int .u16 (n:Int)/\n<65536:=by
 obtain⟨n,rfl,hn⟩:=zcp ht h
 simp only[Lit.wf,yac,decide_eq_true_eq]at hn;have h1:IntKind.u16.min=0:=rfl
 have h2:IntKind.u16.max=65535:=rfl
 rw[h1,h2]at hn;exact⟨n.toNat,by rw[show((n.toNat:Nat):Int)=n by omega],by omega⟩
theorem wU(ht:P.underlying t=some .string)(h:nF P f t x):∃l:List Nat,x=.str l/\l.length<iD/\∀c∈l,c<256:=by
 obtain⟨g,rfl⟩:=iV h
 unfold nF at h;rw[ht]at h;obtain⟨l,h1,h2,h3⟩:=h
 unfold reachBytes at h2;exact⟨l,h1,by unfold iD;omega,h3⟩
theorem vU{e:TypeId}{sz:Nat}(ht:P.underlying t=some (.slice e))(hc:P.cellsOf e=sz)(hb:1<=P.bytesOf e)(h:nF P f t x):∃(l:List D) (g:Nat),f=g+1/\x=.sl sz l/\l.length<iD/\∀y∈l,nF P g e y:=by
 obtain⟨g,rfl⟩:=iV h
 unfold nF at h;rw[ht]at h;obtain⟨l,h1,h2,h3⟩:=h
 have:l.length<=l.length*P.bytesOf e:=Nat.le_mul_of_pos_right _ hb
 unfold reachBytes at h2;exact⟨l,g,rfl,by rw[<- hc];exact h1,by unfold iD;omega,h3⟩
theorem sC.ofMap{α β γ:Type}{k:α->γ}{R:γ->β->Prop}:∀ {l:List α} {m:List β},sC (fun a b=>R (k a) b) l m->sC R (l.map k) m
 | [],_,.nil=>.nil
 | _::_,_::_,.cons h r=>.cons h (sC.ofMap r)
theorem sQ{ts:List TypeId}(ht:∃fs,P.underlying t=some (.struct fs)/\fs.toList.map (·.type)=ts)(h:nF P f t x):∃(l:List D) (g:Nat),f=g+1/\x=.st l/\sC (fun t y=>nF P g t y) ts l:=by
 obtain⟨fs,ht,rfl⟩:=ht
 obtain⟨g,rfl⟩:=iV h
 unfold nF at h;rw[ht]at h;obtain⟨l,h1,h2⟩:=h
 exact⟨l,g,rfl,h1,sC.ofMap h2⟩
theorem sC.cons_inv{α β:Type}{R:α->β->Prop}{a:α}{l:List α}{m:List β}(h:sC R (a::l) m):∃b r,m=b::r/\R a b/\sC R l r:=by
 cases h with
 | cons h1 h2=>exact⟨_,_,rfl,h1,h2⟩
theorem sC.nil_inv{α β:Type}{R:α->β->Prop}{m:List β}(h:sC R ([]:List α) m):m=[]:=by
 cases h;rfl
theorem uT{α β:Type}{g:α->β}{Q:α->Prop}:∀ {l:List β},(∀y∈l,∃a,y=g a/\Q a)->∃m:List α,l=m.map g/\∀a∈m,Q a
 | [],_=>⟨[],rfl,fun _ h=>by cases h⟩
 | y::l,h=>by
  obtain⟨a,h1,h2⟩:=h y (by simp)
  obtain⟨m,h3,h4⟩:=uT (l:=l) fun z hz=>h z (yas _ hz)
  exact⟨a::m,by simp[h1,h3],fun b hb=>by
   rcases yat.1 hb with rfl | hb
   ·exact h2
   ·exact h4 b hb⟩
end
namespace zrv
section
variable {P:Program}(A:zrv P){f:Nat}{x:D}
theorem dWhole(h:nF P f A.whole x):∃w:uH,x=w.d/\w.limbs.length<iD/\tB 65536 w.limbs:=by
 obtain⟨l,g,rfl,rfl,k⟩:=sQ A.hwhole h
 obtain⟨d1,r,rfl,h1,k⟩:=k.cons_inv
 obtain⟨d2,r,rfl,h2,k⟩:=k.cons_inv
 obtain rfl:=k.nil_inv
 obtain⟨b,rfl⟩:=vX A.hb h1
 obtain⟨l,g,rfl,rfl,hl,hm⟩:=vU A.hlimbs A.cu16 A.bytes.1 h2
 obtain⟨m,rfl,hq⟩:=uT (g:=fun n:Nat=>D.int .u16 (n:Int)) (Q:=fun n=>n<65536) fun y hy=>zu2 A.hu16 (hm y hy)
 exact⟨⟨b,m⟩,rfl,by simpa using hl,hq⟩
theorem dFrac(h:nF P f A.frac x):∃w:uE,x=w.dd/\w.fit:=by
 obtain⟨l,g,rfl,rfl,k⟩:=sQ A.hfrac h
 obtain⟨d1,r,rfl,h1,k⟩:=k.cons_inv
 obtain⟨d2,r,rfl,h2,k⟩:=k.cons_inv
 obtain rfl:=k.nil_inv
 obtain⟨a,rfl,a1,a2⟩:=A.dWhole h1
 obtain⟨b,rfl,b1,b2⟩:=A.dWhole h2
 exact⟨⟨a,b⟩,rfl,⟨a1,b1⟩,a2,b2⟩
theorem dVal(h:nF P f A.val x):∃w:gF,x=w.d/\w.fit:=by
 obtain⟨l,g,rfl,rfl,k⟩:=sQ A.hval h
 obtain⟨d1,r,rfl,h1,k⟩:=k.cons_inv
 obtain⟨d2,r,rfl,h2,k⟩:=k.cons_inv
 obtain⟨d3,r,rfl,h3,k⟩:=k.cons_inv
 obtain rfl:=k.nil_inv
 obtain⟨kk,rfl,hk⟩:=zg8 A.hu8 h1
 obtain⟨q,rfl,hq⟩:=A.dFrac h2
 obtain⟨n,rfl,hn⟩:=dS A.hi h3
 exact⟨⟨kk,q,n⟩,rfl,hk,hq,hn.1,hn.2⟩
theorem zzd:∀ {l:List mA},(∀x∈l,x.fit)->mA.fits l
 | [],_=>by unfold mA.fits;trivial
 | x::l,h=>by unfold mA.fits;exact⟨h x (by simp),zzd fun y hy=>h y (yas _ hy)⟩
theorem dExpr:∀(f:Nat) (x:D),nF P f A.expr x->∃w:mA,x=w.d/\w.fit:=by
 intro f;induction f using Nat.strongRecOn with
 | _ f ih=>
 intro x h;obtain⟨l,g,rfl,rfl,k⟩:=sQ A.hexpr h
 obtain⟨d1,r,rfl,h1,k⟩:=k.cons_inv
 obtain⟨d2,r,rfl,h2,k⟩:=k.cons_inv
 obtain⟨d3,r,rfl,h3,k⟩:=k.cons_inv
 obtain⟨d4,r,rfl,h4,k⟩:=k.cons_inv
 obtain rfl:=k.nil_inv
 obtain⟨kk,rfl,hk⟩:=zg8 A.hu8 h1
 obtain⟨n,rfl,hn,hn'⟩:=wU A.hs h2
 obtain⟨v,rfl,hv⟩:=A.dVal h3
 obtain⟨l,g',rfl,rfl,hl,hm⟩:=vU A.hexprs A.cexpr A.bytes.2.1 h4
 obtain⟨m,rfl,hq⟩:=uT (g:=mA.d) (Q:=mA.fit) fun y hy=>ih g' (by omega) y (hm y hy)
 refine⟨.mk kk n v m,?_,?_⟩
 ·rw[mA.d,mA.ds_eq]
 ·unfold mA.fit
  exact⟨hk,hn,hn',hv,by simpa using hl,zzd hq⟩
theorem dRow(h:nF P f A.row x):∃w:zl9,x=w.d/\w.fit:=by
 obtain⟨l,g,rfl,rfl,k⟩:=sQ A.hrow h
 obtain⟨d1,r,rfl,h1,k⟩:=k.cons_inv
 obtain⟨d2,r,rfl,h2,k⟩:=k.cons_inv
 obtain⟨d3,r,rfl,h3,k⟩:=k.cons_inv
 obtain⟨d4,r,rfl,h4,k⟩:=k.cons_inv
 obtain rfl:=k.nil_inv
 obtain⟨a,rfl,ha⟩:=dS A.hi h1
 obtain⟨b,rfl,hb⟩:=dS A.hi h2
 obtain⟨c,rfl,hc⟩:=dS A.hi h3
 obtain⟨q,rfl,hq⟩:=A.dFrac h4
 exact⟨⟨a,b,c,q⟩,rfl,ha,hb,hc,hq⟩
theorem dTable(h:nF P f A.table x):∃w:aG,x=w.d/\w.fit:=by
 obtain⟨l,g,rfl,rfl,k⟩:=sQ A.htable h
 obtain⟨d1,r,rfl,h1,k⟩:=k.cons_inv
 obtain⟨d2,r,rfl,h2,k⟩:=k.cons_inv
 obtain⟨d3,r,rfl,h3,k⟩:=k.cons_inv
 obtain rfl:=k.nil_inv
 obtain⟨n,rfl,hn,_⟩:=wU A.hs h1
 obtain⟨b,rfl⟩:=vX A.hb h2
 obtain⟨l,g',rfl,rfl,hl,hm⟩:=vU A.hrows A.crow A.bytes.2.2.1 h3
 obtain⟨m,rfl,hq⟩:=uT (g:=zl9.d) (Q:=zl9.fit) fun y hy=>A.dRow (hm y hy)
 exact⟨⟨n,b,m⟩,rfl,hn,by simpa using hl,hq⟩
theorem dDef(h:nF P f A.dfn x):∃w:qI,x=w.d/\w.fit:=by
 obtain⟨l,g,rfl,rfl,k⟩:=sQ A.hdfn h
 obtain⟨d1,r,rfl,h1,k⟩:=k.cons_inv
 obtain⟨d2,r,rfl,h2,k⟩:=k.cons_inv
 obtain⟨d3,r,rfl,h3,k⟩:=k.cons_inv
 obtain rfl:=k.nil_inv
 obtain⟨n,rfl,hn,_⟩:=wU A.hs h1
 obtain⟨kk,rfl,hk⟩:=zg8 A.hu8 h2
 obtain⟨b,rfl⟩:=vX A.hb h3
 exact⟨⟨n,kk,b⟩,rfl,hn,hk⟩
theorem dClause(h:nF P f A.clause x):∃w:iH,x=w.d/\w.fit:=by
 obtain⟨l,g,rfl,rfl,k⟩:=sQ A.hclause h
 obtain⟨d1,r,rfl,h1,k⟩:=k.cons_inv
 obtain⟨d2,r,rfl,h2,k⟩:=k.cons_inv
 obtain⟨d3,r,rfl,h3,k⟩:=k.cons_inv
 obtain⟨d4,r,rfl,h4,k⟩:=k.cons_inv
 obtain⟨d5,r,rfl,h5,k⟩:=k.cons_inv
 obtain⟨d6,r,rfl,h6,k⟩:=k.cons_inv
 obtain⟨d7,r,rfl,h7,k⟩:=k.cons_inv
 obtain⟨d8,r,rfl,h8,k⟩:=k.cons_inv
 obtain rfl:=k.nil_inv
 obtain⟨n,rfl,hn,_⟩:=wU A.hs h1
 obtain⟨l,rfl,hl,_⟩:=wU A.hs h2
 obtain⟨a,rfl,ha⟩:=dS A.hi h3
 obtain⟨b,rfl,hb⟩:=dS A.hi h4
 obtain⟨c,rfl,hc⟩:=dS A.hi h5
 obtain⟨o,rfl⟩:=vX A.hb h6
 obtain⟨w,rfl,hw⟩:=A.dExpr _ _ h7
 obtain⟨v,rfl,hv⟩:=A.dExpr _ _ h8
 exact⟨⟨n,l,a,b,c,o,w,v⟩,rfl,hn,hl,ha,hb,hc,hw,hv⟩
theorem dPlan(h:nF P f A.plan x):∃w:bE,x=w.d/\w.fit:=by
 obtain⟨l,g,rfl,rfl,k⟩:=sQ A.hplan h
 obtain⟨d1,r,rfl,h1,k⟩:=k.cons_inv
 obtain⟨d2,r,rfl,h2,k⟩:=k.cons_inv
 obtain⟨d3,r,rfl,h3,k⟩:=k.cons_inv
 obtain⟨d4,r,rfl,h4,k⟩:=k.cons_inv
 obtain rfl:=k.nil_inv
 obtain⟨n,rfl,hn,_⟩:=wU A.hs h1
 obtain⟨l2,g2,rfl,rfl,hl2,hm2⟩:=vU A.hdfns A.cdfn A.bytes.2.2.2.2.1 h2
 obtain⟨l3,g3,_,rfl,hl3,hm3⟩:=vU A.htables A.ctable A.bytes.2.2.2.1 h3
 obtain⟨l4,g4,_,rfl,hl4,hm4⟩:=vU A.hclauses A.cclause A.bytes.2.2.2.2.2 h4
 obtain⟨m2,rfl,hq2⟩:=uT (g:=qI.d) (Q:=qI.fit) fun y hy=>A.dDef (hm2 y hy)
 obtain⟨m3,rfl,hq3⟩:=uT (g:=aG.d) (Q:=aG.fit) fun y hy=>A.dTable (hm3 y hy)
 obtain⟨m4,rfl,hq4⟩:=uT (g:=iH.d) (Q:=iH.fit) fun y hy=>A.dClause (hm4 y hy)
 exact⟨⟨n,m2,m3,m4⟩,rfl,⟨hn,by simpa using hl2,by simpa using hl3,by simpa using hl4,hq2,hq3,hq4⟩⟩
end
end zrv
end Go.Am
namespace Go.Am
open Go Go.RowKit Go.Proofs
theorem zsn[nC](B N:Nat)(hb:B<=256+nC.n):kS Tryz.prog yA B N kF:=by
 intro f g hg args H v H' hv μ w args' hH hI hl;have hg:zww.get f=some g:=hg
 unfold zww at hg;rcases mK hg with⟨rfl,rfl⟩ | hg
 ·exact qP hv hH fun hv=>zae hI hv hl
 rcases mK hg with⟨rfl,rfl⟩ | hg
 ·exact .inr (zda hb hH hv hl)
 rcases mK hg with⟨rfl,rfl⟩ | hg
 ·exact .inr (zf2 hb hH hv hl)
 rcases mK hg with⟨rfl,rfl⟩ | hg
 ·exact qP hv hH fun hv=>zj3 hI hv hl
 rcases mK hg with⟨rfl,rfl⟩ | hg
 ·exact qP hv hH fun hv=>zj4 hI hv hl
 rcases mK hg with⟨rfl,rfl⟩ | hg
 ·exact qP hv hH fun hv=>zsp hI hv hl
 ·rw[Tr.get_leaf]at hg;cases hg
theorem sim14[nC](hN:5<=nC.n):Sim Tryz.prog yA (256+nC.n) nC.n kF:=
 ⟨zjh rfl,zgh rfl,zsn _ _ (yal _),yal _,by kernel_rfl,fun _ _ hb h=>h.below hN hb⟩
section
variable {w:World}
theorem z78{b:Nat}{y:rA}(h:(nG w).get b=some y):b<256+w.heap.size:=by
 unfold nG at h;rw[iO]at h;split at h
 ·assumption
 ·cases h
theorem zr9(hL:kF w)(f:Nat)(args:List zA)(args':Array Value)(hp:∀ [nC],yA.prims.get f=none)(hl:yB (muW w) args args'.toList)
  (h:∀ [nC],∃Q:aB,Wc yA F f args (nG w) Q/\∀v t,Q v t->v=.bool true) (hf:Nat.blt f yo=true:=by rfl) :
  Calls Tryz.prog f args' w fun e w'=>e=.returned (.bool true)/\Below w.heap.size w w':=by
 letI:nC:=⟨w.heap.size⟩
 obtain⟨Q,h1,h2⟩:=h
 refine(zoq (H:=⟨256+w.heap.size,nG w⟩) (sim14 hL.size) hL z9l hp (yal _) (fun b y hb=>z78 hb) hrelW hl h1 hf).mono fun e w' ⟨v,v',t',μ',g1,g2,g3,g4,g5⟩=>?_
 have:=h2 v t' g4
 subst this;rw[vA]at g3;exact⟨by rw[g1,g3],g5⟩
theorem z80(h:kF w):∀ [nC],mJ (nG w):=by
 intro _;obtain⟨t,h⟩:=h.lens
 have hb:=(yaf.1 h).1
 have e:(nG w).get 3=some (.cells (zhx (fun j=>((z3e znw).toArray[j]?).bind (zt5 w.heap.size)) (z3e znw).toArray.size) (z3e znw).toArray.size none):=by
  unfold nG;rw[iO,if_pos (by omega),if_pos (by omega),h]
  rfl
 refine⟨_,_,_,e,fun j a ha=>?_⟩
 rw[iO,yax];have hj:j<kR.length:=by
  have:=(yad.1 ha).1
  simpa using this
 rw[yav]at ha;have hL:kR=znw:=rfl
 rw[hL]at ha hj
 cases hbt:znw[j]? with
 | none=>rw[hbt]at ha;cases ha
 | some b=>
  rw[hbt]at ha;obtain rfl:=ybj ha
  rw[if_pos (by simp[z3e];exact hj)]
  simp only[z3e,List.getElem?_toArray,yav,hbt,Option.map_some,Option.bind_some,zt5]
theorem zif(h:kF w):∀ [nC],uN (nG w):=by
 intro _;obtain⟨t,h⟩:=h.modes
 have hb:=(yaf.1 h).1
 have e:(nG w).get 0=some (.cells (zhx (fun j=>((z1r zL).toArray[j]?).bind (zt5 w.heap.size)) (z1r zL).toArray.size) (z1r zL).toArray.size none):=by
  unfold nG;rw[iO,if_pos (by omega),if_pos (by omega),h]
  rfl
 refine⟨_,_,_,e,fun j a ha=>?_⟩
 rw[iO,yax];have hj:j<nP.length:=by
  have:=(yad.1 ha).1
  simpa using this
 rw[yav]at ha;have hL:nP=zL.map fun b=>b.map UInt8.toNat:=rfl
 rw[hL]at ha hj;rw[yav]at ha
 cases hbt:zL[j]? with
 | none=>rw[hbt]at ha;cases ha
 | some b=>
  rw[hbt]at ha;obtain rfl:=ybj ha
  rw[if_pos (by simp[z1r];simpa using hj)]
  simp only[z1r,List.getElem?_toArray,yav,hbt,Option.map_some,Option.bind_some,zt5];rfl
theorem z8x{cs:List Value}(h:Has w.heap.size cs):yB (muW w) (cs.map (av w.heap.size)) cs:=by
 induction cs with
 | nil=>exact .nil
 | cons v l ih=>exact .cons (zrr (h v (by simp))) (ih fun u hu=>h u (yas _ hu))
theorem zp6{cs:Array Value}(h:Has w.heap.size cs.toList):vA (muW w) (.agg (cs.toList.map (av w.heap.size))) (.agg cs):=by
 rw[vA];exact⟨cs,rfl,z8x h⟩
end
end Go.Am
namespace Go.Am
open Go Go.RowKit Go.ChangeShapes Go.WideShapes Go.ChangeAt
section
variable {H:Type}{enc:TypeId × Value->H}{P:Program}
theorem zaa(hl:laidOutB P=true){W W':World}(hb:Below W.heap.size W W'):∀ {ts:List TypeId} {vs:List Value} {ds:List (DataW H)} {ps:List MemPlace},(∀t∈ts,P.readableRec t=true/\t<P.types.size) →
  DataW.TrodAll enc P W 0 (fun _=>true) true ts vs ds ps->(∀x∈ps,x.block<W.heap.size)->DataW.TrodAll enc P W' 0 (fun b=>decide (b<W.heap.size)) true ts vs ds ps
 | [],[],[],_,_,h,_=>h
 | t::ts,_::_,_::_,_,ht,⟨p,q,h1,h2,e⟩,hs=>by
  subst e;exact⟨p,q,Below.trod hl (ht t (by simp)).1 (ht t (by simp)).2 h1 hb fun x hx=>hs x (ycd _ hx),
   zaa hl hb (fun t ht'=>ht t (yas _ ht')) h2 fun x hx=>hs x (ybg _ hx),rfl⟩
 | [],_::_,_,_,_,h,_=>by simp[DataW.TrodAll]at h
 | [],[],_::_,_,_,h,_=>by simp[DataW.TrodAll]at h
 | _::_,[],_,_,_,h,_=>by simp[DataW.TrodAll]at h
 | _::_,_::_,[],_,_,h,_=>by simp[DataW.TrodAll]at h
theorem law_post(hl:laidOutB P=true){f:Func}{s:ChangeSpec}{tb:TypeId}(hp:∀t∈f.params.toList,P.readableRec t=true/\t<P.types.size)(hv:s.vars=[])(hres:f.resultTypes = #[tb])(htb:P.underlying tb=some .bool)
  {W W':World} {args:Array Value} {ds gs:List (DataW H)} {before:List MemPlace} (hfn:s.fn H ds={ results:=[.lit (.bool true)],args:=ds })
  (hW:DataW.Whole enc P f.params.toList s.vars false W args.toList ds gs before) (hb:Below W.heap.size W W') :
  s.post enc P f false true false false W args (.bool true) W':=by
 have hW0:=hW
 obtain⟨p,q,hA,hV,rfl,hfz,hnd⟩:=hW
 rw[hv]at hV;obtain⟨rfl,rfl⟩:=trodVars_none hV
 refine⟨ds,[],p++[],[],p,[],hW0,?_,?_,?_,hb.frame _,fun h=>by cases h⟩
 ·rw[ybe,hfn,hres]
  exact trodAll_mk1 (shut_bool htb _)
 ·rw[ybe,hfn]
  exact zaa hl hb hp hA fun x hx=>hW0.lt x (by simpa using hx)
 ·rw[ybe,hfn,hv]
  exact rfl
theorem zpv{a:Assume}{C:Checked}{os:Os}{f:FuncId}{fn:Func}{s:ChangeSpec}{conds:List PathCond}{apart fresh handsOn again:Bool}{X:World->Array Value->Prop}
  (hX:∀(w w':World) (args:Array Value),w.heap=w'.heap->X w args->X w' args)
  (own:ownKnob C.prog.godebug=none) (started:os.Started) (noInit:C.prog.inits.idxOf? f=none) (hfn:C.prog.funcs[f]?=some fn)
  (witness:∃(w:World) (tape:Tape) (i:Input),w.os=os/\(w.forCall tape i).Shaped C.prog/\i.vars=[]/\Input.okWide C.prog (w.forCall tape i) .any w.heap.size f i ∧
   ((s.pre enc C.prog fn conds apart (w.forCall tape i).memory i.args/\X (w.forCall tape i).memory i.args)/\sizedMet enc C.prog fn (OpenSpec.ofChange s) apart (w.forCall tape i).memory i.args)/\a.holds C.prog (lone (Frame.enter C.prog f i.args .normal) [] (w.forCall tape i)))
  (contract:∀(W:World) (base:Nat) (args:Array Value) (ds gs:List (DataW H)) (before:List MemPlace),
   (∀(j:Nat) t v,fn.params[j]?=some t->args[j]?=some v->Value.okWide C.prog W .any base t v) →
   DataW.Whole enc C.prog fn.params.toList s.vars apart W args.toList ds gs before →
   (DataW.weightsEach C.prog (fn.params.toList++s.plain.varTypes C.prog) (ds++gs)).all (· <= reachBytes)=true->X W args->W.ShapedOpen C.prog →
   Calls C.prog f args W fun e W'=>∃v,e=.returned v/\s.post enc C.prog fn apart fresh handsOn again W args v W') :
  ReturnsInHanded a C os f .any (fun w args=>(s.pre enc C.prog fn conds apart w args/\X w args)/\sizedMet enc C.prog fn (OpenSpec.ofChange s) apart w args) (s.post enc C.prog fn apart fresh handsOn again):=by
 refine returnsInHanded_of_calls own started noInit witness ?_
 intro w tape i _ hsh _ hok hpre _;obtain⟨_,_,_,fn',hfn',_,_,_,_,hval⟩:=hok
 have e:fn'=fn:=ybj (hfn'.symm.trans hfn)
 subst e;obtain⟨⟨⟨ds,gs,before,hw,hc⟩,hx⟩,hz⟩:=hpre
 have hw':=DataW.Whole.of_heap (w':=w.forCall tape i) (by rfl) hw
 refine(contract (w.forCall tape i) w.heap.size i.args ds gs before hval hw' (hz.weights hw) (hX _ _ _ (by rfl) hx) hsh).mono fun e W' ⟨v,he,hp⟩=>?_
 subst he;exact ChangeSpec.post_blind hp
variable {w:World}{base:Nat}{spare:Nat->Bool}{held:Bool}{fuel:Nat}{t e:TypeId}{cs:List Value}{ps:List MemPlace}
theorem zeo{α:Type}{g:α->DataW H}{u:α->Value}{l:List α}{n:Nat}(ht:P.underlying t=some (.array n e))(hc:P.cellsOf e=1)(hn:P.cellsOf t=n)
  (h1:∀(m:Nat) (c:List Value) (x:DataW H × List MemPlace) (a:α),DataW.trod enc P w base spare held m e c=some x->x.1=g a->c=[u a])
  (h:DataW.trod enc P w base spare held fuel t cs=some (.agg (l.map g),ps)):cs=l.map u:=by
 obtain⟨xs,m,_,hx,hlen,hxs,hel⟩:=DataW.trod_array ht h
 simp only[Prod.mk.injEq,DataW.agg.injEq]at hx;have hl:l.length=n:=by have:=congrArg List.length hx.1;simp[hxs]at this;exact this
 rw[hn]at hlen;refine List.ext_getElem (by rw[hlen,yag,hl]) fun i hi1 hi2=>?_
 have hi:i<n:=by omega
 have:=hel i hi
 rw[hc]at this;have hc1:((cs.drop (i*1)).take 1)=[cs[i]]:=by
  rw[Nat.mul_one,yam hi1];rfl
 rw[hc1,yae (by omega)]at this
 have hxi:xs[i].1=g (l[i]'(by omega)):=by
  have:=congrArg (fun z=>z[i]?) hx.1
  simp only[yav]at this;rw[yae (by omega),yae (by omega)]at this
  simpa using this.symm
 have:=h1 m _ _ _ this hxi
 rw[List.getElem_map];simpa using this
theorem z1s(he:P.underlying e=some .string)(m:Nat)(c:List Value)(x:DataW H × List MemPlace)(b:List UInt8)(h:DataW.trod enc P w base spare held m e c=some x)(hx:x.1=.lit (.string b)):c=[.string ⟨b.toArray⟩]:=by
 obtain⟨s,rfl,rfl,_⟩:=DataW.trod_string he h
 simp at hx;rw[<- hx]
theorem z3f(he:P.underlying e=some (.int .i64))(m:Nat)(c:List Value)(x:DataW H × List MemPlace)(n:Int)(h:DataW.trod enc P w base spare held m e c=some x)(hx:x.1=.lit (.int .i64 n)):c=[.int .i64 n]:=by
 obtain⟨k,rfl,rfl,_⟩:=DataW.trod_int he h
 simp at hx;rw[hx]
end
theorem joined_of{P:Program}{f:FuncId}{fn:Func}{s:ChangeSpec}{c:OpenClaim}
  (A:(c.wf (OpenSpec.ofChange s)&&laidOutB P&&mapsRowed P&&fn.params.all (P.readableRec ·)&&namedTie P c.named s.vars&&(c.stops == [])&&(P.stops == [])&&(c.knobs == [])&&(P.stopKnobs == []))=true)
  (h1:(c.inPlace == P.inPlace f)=true) (h2:(c.unfollowed == P.unfollowed f)=true) (h3:(c.recurses == P.recurses f)=true) (h4:(c.named == P.varsNamed f)=true)
  (E:((c.maps == (fn.params.toList++s.plain.varTypes P).any (P.mapsRec ·))&&(c.ifaces == (fn.params.toList++s.plain.varTypes P).any (P.ifacesRec ·))&&(c.mapsOut == P.mapsAmong fn.resultTypes.toList) &&
   (c.loops == (fn.params.toList++s.plain.varTypes P).any (P.loopsFrom ·))&&(c.wideKeys == (fn.params.toList++s.plain.varTypes P++fn.resultTypes.toList).any (P.wideKeysFrom ·)) &&
   s.vars.all (P.varReadable ·)&&fn.resultTypes.all (fun t=>P.readableRec t&&decide (t<P.types.size))&&(c.ifacesOut == fn.resultTypes.toList.any (P.ifacesRec ·))&&(c.loopsOut == fn.resultTypes.toList.any (P.loopsFrom ·))&&c.shortTexts.isNone)=true)
  (h5:(c.plainKeys == P.plainKeys)=true) (h6:P.stopsHeard=true) (h7:P.mayEnter=true) (h8:(c.lifted == P.liftsFinal)=true)
  (R:((P.make == some c.make)&&(c.kinds == (if c.domain.isEmpty then []else fn.params.toList.map fun t=>match P.underlying t with | some (.int k)=>some k | _=>none))&&(c.pinned == c.pinnedBy) &&
   (c.veiled == (fn.params.toList++s.plain.varTypes P++fn.resultTypes.toList).any (P.veiledRec ·))&&c.veiledFits P fn.params.toList (fn.params.toList++s.plain.varTypes P++fn.resultTypes.toList))=true) :
  joinedFacts P f fn s c=true:=by
 unfold joinedFacts;simp only[yac]at A E R ⊢
 obtain⟨⟨⟨⟨⟨⟨⟨⟨a1,a2⟩,a3⟩,a4⟩,a5⟩,a6⟩,a7⟩,a8⟩,a9⟩:=A
 obtain⟨⟨⟨⟨⟨⟨⟨⟨⟨e1,e2⟩,e3⟩,e4⟩,e5⟩,e6⟩,e7⟩,e8⟩,e9⟩,e10⟩:=E
 obtain⟨⟨⟨⟨r1,r2⟩,r3⟩,r4⟩,r5⟩:=R
 exact⟨⟨⟨⟨⟨⟨⟨⟨⟨⟨⟨⟨⟨⟨⟨⟨⟨⟨⟨⟨⟨⟨⟨⟨⟨⟨⟨⟨⟨⟨⟨a1,a2⟩,a3⟩,a4⟩,a5⟩,a6⟩,a7⟩,a8⟩,a9⟩,h1⟩,h2⟩,h3⟩,h4⟩,e1⟩,e2⟩,e3⟩,e4⟩,e5⟩,e6⟩,e7⟩,e8⟩,e9⟩,h5⟩,e10⟩,h6⟩,h7⟩,h8⟩,r1⟩,r2⟩,r3⟩,r4⟩,r5⟩
end Go.Am
