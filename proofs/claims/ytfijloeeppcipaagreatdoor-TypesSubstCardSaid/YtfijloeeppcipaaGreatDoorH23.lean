/- format's writer comes to an end, with a text that is not empty and not much longer than a source. -/
import Derived.Carry
import Derived.ChangeArms
import Derived.HandedShaped
import Derived.JoinedOf
import Derived.LaidMore
import Derived.OpenShut
import Derived.ProofKit
import Derived.Stop.Joined
import Derived.Test.YtfijloeeppcipaaGreatDoorRows
import GoSem.ClaimJoined
import Derived.Test.YtfijloeeppcipaaGreatDoorH22
set_option linter.all false
noncomputable section
set_option maxRecDepth 100000
namespace Go.Proofs
open Go Go.Am
variable [sC]
variable {t tf:Tr rA}
def fP:List (List Nat):=[[],[100,111,119,110],[117,112],[102,108,111,111,114],[99,101,105,108],[104,97,108,102],[101,118,101,110]]
def pN(t:Tr rA):Prop:=At t 0 0 (fP.map zA.str)
def pN.mono{t':Tr rA}(h:pN t)(k:dA t t'):pN t':=At.mono k h
def zn8(hG:pN t){n:Nat}(hn:n<256):∃s,xC yA F 149 [.int .u8 (n:Int)] t=some (.str s)/\s.length<=10/\tB 256 s:=by
 by_cases h:n<7
 ·have hx:(fP.map zA.str)[n]?=some (.str (fP.getD n [])):=by
   have:n<fP.length:=h
   simp[ybd this]
  refine⟨fP.getD n [],bC.2 (w149 _ (uB (by rw[wrap_i64 (by omega) (by omega)];exact yLt (by omega)) (iA (v:=.ptr 0 n) ?_ (cC (v:=.str (fP.getD n [])) ?_ (pJ ⟨rfl,rfl⟩))))),?_,?_⟩
  ·unfold lB
   rw[ty238,uA];have e:(zA.int .u8 (n:Int)).asNat=some n:=rfl
   rw[e,uA];simp only[zA.asSlice,zA.asPtr,uA,nD.asArr];rw[ty9,uA,kB.2 h,oD];simp
  ·have:=hG.load1 ty9 rfl hx
   rw[ybw]at this;exact this
  ·have:∀k,k<7->(fP.getD k []).length<=10:=by decide
   exact this n h
  ·have:∀k,k<7->∀x∈fP.getD k [],x<256:=by decide
   exact this n h
 ·exact⟨[],bC.2 (w149 _ (yC (by rw[wrap_i64 (by omega) (by omega)];exact nLt (by omega)) ⟨rfl,rfl⟩)),by simp,fun x hx=>by cases hx⟩
def zdq{s:List Nat}(h:∀x∈s,48<=x/\x<58):tB 256 s:=fun x hx=>by have:=h x hx;omega
def zN{a b:List Nat}(ha:tB 256 a)(hb:tB 256 b):tB 256 (a++b):=fun x hx=>by
 rcases yaf.1 hx with h | h
 ·exact ha x h
 ·exact hb x h
def zob{neg:Bool}{n:Nat}:tB 256 (intN neg n)/\intN neg n≠[]:=by
 have h:=zch n
 refine⟨zN ?_ (zdq (mY n)),fun e=>?_⟩
 ·cases neg
  ·intro x hx;cases hx
  ·intro x hx;simp at hx;omega
 ·unfold intN at e
  rw[List.append_eq_nil_iff]at e;rw[e.2]at h;simp at h
def zq8{f:qE}:tB 256 (zK f)/\zK f≠[]:=by
 unfold zK zcq;refine⟨zN zob.1 ?_,fun e=>zob.2 (List.append_eq_nil_iff.1 e).1⟩
 split
 ·intro x hx;cases hx
 ·intro x hx
  rcases ybs.1 hx with rfl | hx
  ·decide
  ·exact zob.1 x hx
def zym{n:Int}:tB 256 (kJ n)/\kJ n≠[]:=by
 by_cases h:n<0
 ·obtain⟨u,rfl⟩:∃u:Nat,n = -(u:Int):=⟨n.natAbs,by omega⟩
  rw[zla (by omega)]
  refine⟨fun x hx=>?_,by simp⟩
  rcases ybs.1 hx with rfl | hx
  ·decide
  ·exact zdq (mY u) x hx
 ·obtain⟨u,rfl⟩:∃u:Nat,n=(u:Int):=⟨n.toNat,by omega⟩
  rw[zd5];exact⟨zdq (mY u),fun e=>by have:=zch u;rw[e]at this;simp at this⟩
def zks{s:List Nat}(h:tB 256 s)(hn:s≠[]):tB 256 (qK s)/\qK s≠[]:=by
 unfold qK;split
 ·exact⟨zN (by intro x hx;simp at hx;omega) fun x hx=>h x (List.mem_of_mem_drop hx),by simp⟩
 ·exact⟨h,hn⟩
def zmy{v:sF}(hv:v.fit)(hp:vO v=true):zfl (z1f v.i) v≠[]/\(zfl (z1f v.i) v).length<=20100/\tB 256 (zfl (z1f v.i) v):=by
 obtain⟨_,hff,hi1,hi2⟩:=hv
 have hil:=zih hi1 hi2
 have hsl:=nX (kJ v.i)
 have hsi:=zks (zym (n:=v.i)).1 zym.2
 have hsf:=zks (zq8 (f:=v.f)).1 zq8.2
 have hc:=zsf v.i
 have hF:∀k,(k=2\/k=3)->v.kind=k->(qK (zK v.f)).length<=20010:=by
  intro k hk e;have h1:=zed hff (zb8 hp (by omega))
  have h2:=nX (zK v.f)
  omega
 unfold zfl;split
 ·split
  ·exact⟨by simp,by simp,by intro x hx;simp at hx;omega⟩
  ·exact⟨by simp,by simp,by intro x hx;simp at hx;omega⟩
 ·split
  ·rename_i e;have:=hF 2 (.inl rfl) e;exact⟨hsf.2,by omega,hsf.1⟩
  ·split
   ·rename_i e;have:=hF 3 (.inr rfl) e
    exact⟨by simp,by simp;omega,zN (by intro x hx;simp at hx;omega) hsf.1⟩
   ·split
    ·exact⟨fun e=>by rw[e]at hc;simp at hc,by omega,hc.2⟩
    ·split
     ·exact⟨by simp,by simp;omega,zN hsi.1 (by intro x hx;simp at hx;omega)⟩
     ·split
      ·exact⟨by simp,by simp;omega,zN hsi.1 (by intro x hx;simp at hx;omega)⟩
      ·rename_i h1 h2 h3 h4 h5 h6
       exfalso
       unfold vO at hp;rw[yaa (by omega),yaa h1,yaa h4,yaa (by omega)]at hp
       cases hp
def zlg{op:Nat}(h:op<27):(tD op).word.length<=10/\∀x∈(tD op).word,x<256:=by
 have:∀k,k<27->(tD k).word.length<=10/\∀x∈(tD k).word,x<256:=by decide +kernel
 exact this op h
def za9{op:Nat}(h:op<27):((tD op).style=1->op=1)/\((tD op).style=2->(tD op).word≠[])/\((tD op).style=3->1<=(tD op).least)/\((tD op).style=4->2<=(tD op).least)/\((tD op).style=5->1<=(tD op).least/\(tD op).word≠[])/\(tD op).style<=6/\(tD op).most<=3/\(op=1->(tD op).style=1):=by
 have:∀k,k<27->((tD k).style=1->k=1)/\((tD k).style=2->(tD k).word≠[])/\((tD k).style=3->1<=(tD k).least)/\((tD k).style=4->2<=(tD k).least)/\((tD k).style=5->1<=(tD k).least/\(tD k).word≠[])/\(tD k).style<=6/\(tD k).most<=3/\(k=1->(tD k).style=1):=by decide +kernel
 exact this op h
def zq5{s:List Nat}(h:zid s=true):s.length<=24:=by
 unfold zid at h;split at h
 ·simp
 ·simp only[ybb,decide_eq_true_eq]at h
  exact h.1.1.1
def uI (h:Nat):Nat:=86000+200*h
def WOk (bf:Nat)(x:qA):Prop:=∀(d:Nat) (cs:List zA) (tf t:Tr rA) (bx:Nat) (s:List Nat) (Q:bB),x.fit->gD x d=true->jD tf bf none rN->eJ tf->pN tf->RD tf x.d cs->BX 166 [.ptr bf 0] tf t bx s->s.length<=95000 →
 (∀t' s',BX 166 [.ptr bf 0] tf t' bx s'->s'≠[]->s'.length<=max s.length (uI (25-d))->Q (.tup []) t')->Wc yA F 87 [.ptr bx 0,.agg cs] t Q
def lL{b:Nat}:sB yA 166 0 (.ptr b 0)=some (.ptr b 0):=by kernel_rfl
def z0c{b:Nat}:sB yA 166 1 (.ptr b 0)=some (.ptr b 2):=by kernel_rfl
def BX.forms{bf bx:Nat}{s:List Nat}(h:BX 166 [.ptr bf 0] tf t bx s):mA yA 132 ⟨0,t⟩ (.ptr bx 2)=some (.ptr bf 0):=by
 obtain⟨_,_,_,_,_,p,tv,_,h4,_,_⟩:=h
 exact h4.load1 (j:=2) ty132 rfl rfl
section
variable {bf bx:Nat}{s:List Nat}{Q:bB}
def zpi{y:qA}{d:Nat}{cs:List zA}{lev:Int}(hy:WOk bf y)(hfit:y.fit)(hP:gD y d=true)(hF:jD tf bf none rN)(hM:eJ tf)(hW:pN tf)(hr:RD tf y.d cs)(hB:BX 166 [.ptr bf 0] tf t bx s)(hs:s.length<=94000)(hd1:1<=d)
  (hQ:∀t' s',BX 166 [.ptr bf 0] tf t' bx s'->s'≠[]->s'.length<=max s.length (uI (25-d))+2->Q (.tup []) t'):Wc yA F 121 [.ptr bx 0,.agg cs,.int .i64 lev] t Q:=by
 obtain⟨a,b,c,rfl,ha,hb,hc⟩:=xI hr
 have hop:y.op<27:=by
  obtain⟨op,name,v,args⟩:=y
  unfold gD fO at hP;simp only[ybb,decide_eq_true_eq]at hP;exact hP.1.2.1.1.1.1
 have hbm:uI (25-d)<=91000:=by unfold uI;omega
 refine w121 _ _ _ _ _ _ _ _ _ _ _ ?_
 unfold t121;refine iA bE (iA z0c (cC hB.forms (iA bE (iA (zzv hop) (iA (kL (by decide)) (cC (z33 (hF.up hB.le) hop) (pC ?_)))))))
 by_cases hl:lev<=((tD y.op).level:Int)
 ·refine uB (yLe hl) (dC ?_)
  rw[q87];exact hy d _ tf t bx s _ hfit hP hF hM hW hr hB (by omega) fun t' s' h1 h2 h3=>hQ t' s' h1 h2 (by omega)
 ·refine yC (nLe hl) (iA bE (iA lL (dC ?_)))
  rw[ztf];refine hB.write (by simp) (by intro x hx;simp at hx;omega) (by simp;omega) fun _ t1 h1=>dC ?_
  rw[q87];refine hy d _ tf t1 bx _ _ hfit hP hF hM hW hr h1 (by simp;omega) fun t2 s2 h2 h2n h2l=>iA bE (iA lL (dC ?_))
  rw[ztf];simp only[ybg,List.length_singleton]at h2l;refine h2.write (by simp) (by intro x hx;simp at hx;omega) (by simp;omega) fun _ t3 h3=>?_
  exact hQ _ _ h3 (by simp) (by simp;omega)
def z1e{args:List qA}{d:Nat}{c:zA}(hall:∀y∈args,WOk bf y)(hfits:∀y∈args,y.fit)(hP:∀y∈args,gD y (d+1)=true)(hF:jD tf bf none rN)(hM:eJ tf)(hW:pN tf)(hc:jA tf 9 (args.map qA.d) c)(hlen:args.length<=3)(hd:d<=24)
  {c0 c2 c7:Int} {c1:List Nat} {c3 c5:Bool} {c4 c6 c8:zA} (h19c:c0=19->0<=c7/\c7<256):∀(k i:Nat) (t:Tr rA) (s:List Nat),i+k=args.length->BX 166 [.ptr bf 0] tf t bx s->s≠[]->s.length<=uI (24-d)+100+2*i →
  (∀t' s',BX 166 [.ptr bf 0] tf t' bx s'->s'≠[]->s'.length<=uI (24-d)+130->Q (.tup []) t') →
  jp 122 2 [.ptr bx 0,c,.int .i64 (args.length:Int),.int .i64 (i:Int),.int .u8 c0,.str c1,.int .u8 c2,.bool c3,c4,.bool c5,c6,.int .i64 c7,c8] t Q:=by
 have hbm:uI (24-d)<=91000:=by unfold uI;omega
 intro k;induction k with
 | zero=>
  intro i t s hi hB hn hs hQ;refine z7f _ _ _ _ _ _ _ _ _ _ _ _ _ ?_
  unfold zw2;refine yC (nLt (by omega)) ?_
  by_cases h19:c0=19
  ·refine uB (yEq h19) (iA bE (iA lL (dC ?_)))
   obtain⟨n,hn1,hn2⟩:∃n:Nat,wA .u8 c7=(n:Int)/\n<256:=⟨c7.toNat,by have:=h19c h19;rw[zhc this.1 this.2];omega,by have:=h19c h19;omega⟩
   obtain⟨w,hw1,hw2,hw3⟩:=zn8 (hW.mono hB.le) hn2
   rw[hn1,q149,hw1,tA];refine pJ (iA (sL (by simp;omega)) (pJ (dC ?_)))
   rw[ztf];refine hB.write (by simp) (zN (by intro x hx;simp at hx;omega) hw3) (by simp;omega) fun _ t1 h1=>iA bE (iA lL (dC ?_))
   rw[ztf];refine h1.write (by simp) (by intro x hx;simp at hx;omega) (by simp;omega) fun _ t2 h2=>?_
   exact hQ _ _ h2 (by simp) (by simp;omega)
  ·refine yC (zG h19) (iA bE (iA lL (dC ?_)))
   rw[ztf];refine hB.write (by simp) (by intro x hx;simp at hx;omega) (by simp;omega) fun _ t2 h2=>?_
   exact hQ _ _ h2 (by simp) (by simp;omega)
 | succ k ih=>
  intro i t s hi hB hn hs hQ;have hlt:i<args.length:=by omega
  have hm:args[i]∈args:=ycj hlt
  refine z7f _ _ _ _ _ _ _ _ _ _ _ _ _ ?_
  unfold zw2;obtain⟨b0,off0,cs,g1,g2,_,_,g5⟩:=yF.at z19 (by simp) hc (i:=i) (d:=args[i].d) (by simp[hlt])
  have ld:mA yA 36 ⟨0,t⟩ (.ptr b0 off0)=some (tX true cs):=sX (H:=⟨0,tf⟩) (HA:=⟨0,t⟩) hB.le g2
  refine uB (yLt (by omega)) (iA g1 (cC ld ?_))
  rw[oP];refine uH (dH g5 (qA.zs _)) ?_
  have hmk:=g5.mk (qA.zs args[i])
  have hcs:[zA.int .u8 ((cellsOf cs).i 0),.str ((cellsOf cs).s 1),.int .u8 ((cellsOf cs).i 2),.bool ((cellsOf cs).b 3),(cellsOf cs).v 4,.bool ((cellsOf cs).b 5),(cellsOf cs).v 6,.int .i64 ((cellsOf cs).i 7),(cellsOf cs).v 8]=cs:=hmk
  rw[hcs];refine uB g5.all ?_
  have next:∀t' s',BX 166 [.ptr bf 0] tf t' bx s'->s'≠[]->s'.length<=uI (24-d)+100+2*(i+1)->jp 122 2 [.ptr bx 0,c,.int .i64 (args.length:Int),.int .i64 (wA .i64 ((i:Int)+1)),.int .u8 c0,.str c1,.int .u8 c2,.bool c3,c4,.bool c5,c6,.int .i64 c7,c8] t' Q:=by
   intro t' s' h1 h2 h3;rw[wrap_i64 (by omega) (by omega),show(i:Int)+1=((i+1:Nat):Int) by omega]
   exact ih (i+1) t' s' (by omega) h1 h2 h3 hQ
  have e25:25-(d+1)=24-d:=by omega
  by_cases h0:0<i
  ·refine uB (yLt (by omega)) (iA bE (iA lL (dC ?_)))
   rw[ztf];refine hB.write (by simp) (by intro x hx;simp at hx;omega) (by simp;omega) fun _ t1 h1=>dC ?_
   rw[q87];refine hall _ hm (d+1) _ tf t1 bx _ _ (hfits _ hm) (hP _ hm) hF hM hW g5 h1 (by simp;omega) fun t2 s2 h2 h2n h2l=>dE ?_
   rw[e25]at h2l;simp only[ybg,ybn,ybx]at h2l;exact next t2 s2 h2 h2n (by omega)
  ·refine yC (nLt (by omega)) (dC ?_)
   rw[q87];refine hall _ hm (d+1) _ tf t bx _ _ (hfits _ hm) (hP _ hm) hF hM hW g5 hB (by omega) fun t2 s2 h2 h2n h2l=>dE ?_
   rw[e25]at h2l;exact next t2 s2 h2 h2n (by omega)
def zpb{op:Nat}{name:List Nat}{v:sF}{args:List qA}{d:Nat}{a b c:zA}(hall:∀y∈args,WOk bf y)(hfit:qA.fit (.mk op name v args))(hP:gD (.mk op name v args) d=true)(hs6:(tD op).style=6)(hF:jD tf bf none rN)(hM:eJ tf)(hW:pN tf)
  (hc:jA tf 9 (args.map qA.d) c) (hB:BX 166 [.ptr bf 0] tf t bx s) (hs:s.length<=65536)
  (hQ:∀t' s',BX 166 [.ptr bf 0] tf t' bx s'->s'≠[]->s'.length<=uI (25-d)->Q (.tup []) t') :
  Wc yA F 122 [.ptr bx 0,.agg [.int .u8 op,.str name,.int .u8 v.kind,.bool v.f.n.neg,a,.bool v.f.d.neg,b,.int .i64 v.i,c],.ptr bf (op*8)] t Q:=by
 unfold gD fO at hP;simp only[ybb,decide_eq_true_eq]at hP;obtain⟨⟨hd,⟨⟨⟨h27,_⟩,hl⟩,hm⟩,hnm⟩,hrest⟩:=hP
 obtain⟨f1,f2,f3,f4,f5,f6,f7,f8⟩:=za9 h27
 have hw:=zlg h27
 have h1:op≠1:=fun e=>by have:=f8 e;omega
 rw[yaa h1,ybb,kV,ycb]at hrest;unfold qA.fit at hfit;have hfits:=qA.fits_mem hfit.2.2.2.2.2
 have hmax:uI (25-d)=uI (24-d)+200:=by unfold uI;omega
 have h19c:(op:Int)=19->0<=v.i/\v.i<256:=by
  intro e;have hcp:=hrest.1
  unfold zly at hcp;rw[yab (by omega)]at hcp
  simp only[ybb,decide_eq_true_eq]at hcp;omega
 have go9:∀t' s',BX 166 [.ptr bf 0] tf t' bx s'->s'≠[]->s'.length<=65536+100->jp 122 9 [.ptr bx 0,.int .u8 op,.str name,.int .u8 v.kind,.bool v.f.n.neg,a,.bool v.f.d.neg,b,.int .i64 v.i,c] t' Q:=by
  intro t' s' k1 k2 k3;refine j122_9 _ _ _ _ _ _ _ _ _ _ ?_
  unfold z6l;have hlen:=hc.len
  rw[ybf]at hlen;refine iA hlen (pC (dE ?_))
  refine z1e (d:=d) hall hfits (fun y hy=>hrest.2 y hy) hF hM hW hc (by omega) hd h19c args.length 0 t' s' (by omega) k1 k2 (by unfold uI;omega) fun t2 s2 g1 g2 g3=>hQ t2 s2 g1 g2 (by omega)
 refine w122 _ _ _ _ _ _ _ _ _ _ _ ?_
 unfold t122;have hld:=zyw (hF.up hB.le) h27
 refine iA bE (iA lL (iA bE (iA (kL (by decide)) (cC hld (pJ (iA (sL (by simp;omega)) (pJ (dC ?_))))))))
 rw[ztf];refine hB.write (by simp) (zN hw.2 (by intro x hx;simp at hx;omega)) (by simp;omega) fun _ t1 h1=>?_
 refine iA bE (iA (kL (by decide)) (cC (zrf (hF.up h1.le) h27) (aG ?_)))
 cases hn:(tD op).named with
 | true=>
  rw[hn,yab rfl]at hnm;have hnl:=zq5 hnm
  refine uB rfl (iA bE (iA lL (iA (sL (by simp;omega)) (pJ (dC ?_)))))
  rw[ztf];refine h1.write (by simp) (zN hfit.2.2.1 (by intro x hx;simp at hx;omega)) (by simp;omega) fun _ t2 h2=>dE ?_
  exact go9 _ _ h2 (by simp) (by simp;omega)
 | false=>exact yC (by simp) (dE (go9 _ _ h1 (by simp) (by simp;omega)))
mutual
/-- THE WRITER COMES TO AN END -/
def zjd:∀(x:qA),WOk bf x
 | .mk op name v args=>by
  have hall:=zfk args
  intro d cs tf t bx s Q hfit hP hF hM hW hr hB hs hQ;have hP0:=hP
  have hfit0:=hfit
  obtain⟨a,b,c,rfl,ha,hb,hc⟩:=xI hr
  simp only[qA.op,qA.name,qA.v,qA.args]at ha hb hc ⊢
  unfold gD fO at hP;simp only[ybb,decide_eq_true_eq]at hP;obtain⟨⟨hd,⟨⟨⟨h27,hs0⟩,hl⟩,hm⟩,hnm⟩,hrest⟩:=hP
  simp only[ycp,decide_eq_false_iff_not]at hs0;obtain⟨f1,f2,f3,f4,f5,f6,f7,f8⟩:=za9 h27
  have hw:=zlg h27
  unfold qA.fit at hfit;have hfits:=qA.fits_mem hfit.2.2.2.2.2
  have hmax:uI (25-d)=uI (24-d)+200:=by unfold uI;omega
  have e25:25-(d+1)=24-d:=by omega
  have hmb:uI (24-d)<=91000/\86000<=uI (24-d):=by unfold uI;omega
  refine w87 _ _ _ _ _ _ _ _ _ _ ?_
  unfold t87;refine iA bE (iA lL (dC ?_))
  rw[q118,hB.len,tA];refine pC ?_
  by_cases hbig:65536<s.length
  ·refine uB (yLt (by omega)) ?_
   exact hQ t s hB (fun e=>by rw[e]at hbig;simp at hbig) (by omega)
  refine yC (nLt (by omega)) ?_
  have hFt:=hF.up hB.le
  refine iA bE (iA z0c (cC hB.forms (iA bE (iA (zzv h27) (iA bE (iA (kL (by decide)) (cC (zre hFt h27) (pC ?_))))))))
  have ldw:∀ {t'},dA tf t'->mA yA 9 ⟨0,t'⟩ (.ptr bf (op*8+1))=some (.str (tD op).word):=fun h=>zyw (hF.up h) h27
  have notc:(tD op).style≠1->iL args (d+1)=true:=by
   intro hne;have h1:op≠1:=fun e=>hne (f8 e)
   rw[yaa h1,ybb]at hrest;exact hrest.2
  have arg:∀(i:Nat) (lev:Int) (t1:Tr rA) (s1:List Nat) (K:zA->T) (Q:bB) (k:Nat),(tD op).style≠1->i<args.length->k<8->BX 166 [.ptr bf 0] tf t1 bx s1->s1.length<=94000->mA yA 3 ⟨0,t1⟩ (.ptr bf (op*8+k))=some (.int .i64 lev) →
    (∀t' s',BX 166 [.ptr bf 0] tf t' bx s'->s'≠[]->s'.length<=max s1.length (uI (24-d))+2->wp 87 (K (.tup [])) t' Q) →
    wp 87 (.opt (lB yA 34 c (.int .i64 (i:Int))) fun a36=>.light (fun m=>mA yA 36 ⟨0,m⟩ a36) fun a37=>.asG [(.int .u8 0),(.str []),(.int .u8 0),(.bool false),.nilslice,(.bool false),.nilslice,(.int .i64 0),.nilslice] a37 fun X38=>
     .opt (rC (.ptr bf (op*8))) fun a39=>.opt (sB yA 159 k a39) fun a40=>.light (fun m=>mA yA 3 ⟨0,m⟩ a40) fun a41=>.asI .i64 a41 fun n42=>.call 121 [.ptr bx 0,(.agg [(.int .u8 (X38.i 0)),(.str (X38.s 1)),(.int .u8 (X38.i 2)),(.bool (X38.b 3)),(X38.v 4),(.bool (X38.b 5)),(X38.v 6),(.int .i64 (X38.i 7)),(X38.v 8)]),(.int .i64 n42)] K) t1 Q:=by
   intro i lev t1 s1 K Q k hne hi hk h1 hs1 hldp hQ';have hm:args[i]∈args:=ycj hi
   obtain⟨b0,off0,cs,g1,g2,_,_,g5⟩:=yF.at z19 (by simp) hc (i:=i) (d:=args[i].d) (by simp[hi])
   have ld:mA yA 36 ⟨0,t1⟩ (.ptr b0 off0)=some (tX true cs):=sX (H:=⟨0,tf⟩) (HA:=⟨0,t1⟩) h1.le g2
   refine iA g1 (cC ld ?_)
   rw[oP];refine uH (dH g5 (qA.zs _)) ?_
   have hmk:=g5.mk (qA.zs args[i])
   have hcs:[zA.int .u8 ((cellsOf cs).i 0),.str ((cellsOf cs).s 1),.int .u8 ((cellsOf cs).i 2),.bool ((cellsOf cs).b 3),(cellsOf cs).v 4,.bool ((cellsOf cs).b 5),(cellsOf cs).v 6,.int .i64 ((cellsOf cs).i 7),(cellsOf cs).v 8]=cs:=hmk
   rw[hcs];refine iA bE (iA (kL hk) (cC hldp (pC (dC ?_))))
   rw[q121];have hPy:gD args[i] (d+1)=true:=by
    have:=notc hne
    rw[kV,ycb]at this;exact this _ hm
   refine zpi (d:=d+1) (hall _ hm) (hfits _ hm) hPy hF hM hW g5 h1 hs1 (by omega) fun t' s' k1 k2 k3=>?_
   rw[e25]at k3;exact hQ' t' s' k1 k2 k3
  have done:∀t' s',BX 166 [.ptr bf 0] tf t' bx s'->s'≠[]->s'.length<=uI (25-d)->wp 87 (.ret (.tup [])) t' Q:=fun t' s' k1 k2 k3=>hQ t' s' k1 k2 (by omega)
  have i0:((0:Nat):Int)=0:=rfl
  have i1:((1:Nat):Int)=1:=rfl
  have arg0:=arg 0
  have arg1:=arg 1
  rw[i0]at arg0;rw[i1]at arg1;have style:(tD op).style=1\/(tD op).style=2\/(tD op).style=3\/(tD op).style=4\/(tD op).style=5\/(tD op).style=6:=by omega
  rcases style with e | e | e | e | e | e
  ·-- a constant
   refine uB (yEq (by omega)) (iA bE (iA lL (dC ?_)))
   have hop1:=f1 e
   rw[yab hop1]at hrest;obtain⟨v1,v2,v3⟩:=zmy hfit.2.2.2.1 hrest
   have hv:=zjg (date:=z1f v.i) (ha.mono hB.le) (hb.mono hB.le) hfit.2.2.2.1 hrest (fun hk=>by
    have hp:=hrest
    unfold vO at hp;rw[yaa (by omega),yaa (by omega),yab hk]at hp
    simp only[ybb,decide_eq_true_eq]at hp;exact cal_ok (hM.mono hB.le) hp.2.1 hp.2.2)
   rw[q120,hv,tA];refine pJ (dC ?_)
   rw[ztf];refine hB.write v1 v3 (by omega) fun _ t1 h1=>done _ _ h1 (by simp[v1]) ?_
   rw[ybg];unfold uI;omega
  ·-- a word
   refine yC (zG (by omega)) (uB (yEq (by omega)) (iA bE (iA lL (iA bE (iA (kL (by decide)) (cC (ldw hB.le) (pJ (dC ?_))))))))
   rw[ztf];refine hB.write (f2 e) hw.2 (by omega) fun _ t1 h1=>done _ _ h1 (by simp[f2 e]) ?_
   rw[ybg];omega
  ·-- word,name,at
   have hnl:name.length<=24:=by
    split at hnm
    ·exact zq5 hnm
    ·have:=(rM _ _).1 hnm;rw[this];simp
   have h3:=f3 e
   refine yC (zG (by omega)) (yC (zG (by omega)) (uB (yEq (by omega)) (iA bE (iA lL (iA bE (iA (kL (by decide)) (cC (ldw hB.le) (pJ (iA (sL (by omega)) (pJ (iA (sL (by simp;omega)) (pJ (dC ?_)))))))))))))
   rw[ztf];refine hB.write (by simp) (zN (zN hw.2 hfit.2.2.1) (by intro x hx;simp at hx;omega)) (by simp;omega) fun _ t1 h1=>?_
   refine arg0 _ t1 _ _ _ 6 (by omega) (by omega) (by decide) h1 (by simp;omega) (zog (hF.up h1.le) h27) fun t2 s2 k1 k2 k3=>done _ _ k1 k2 ?_
   simp only[ybg,ybn,ybx]at k3;omega
  ·-- an operator
   have h4:=f4 e
   refine yC (zG (by omega)) (yC (zG (by omega)) (yC (zG (by omega)) (uB (yEq (by omega)) ?_)))
   refine arg0 _ t _ _ _ 6 (by omega) (by omega) (by decide) hB (by omega) (zog hFt h27) fun t1 s1 k1 k2 k3=>?_
   refine iA bE (iA lL (iA bE (iA (kL (by decide)) (cC (ldw k1.le) (pJ (iA (sL (by simp;omega)) (pJ (iA (sL (by simp;omega)) (pJ (dC ?_))))))))))
   rw[ztf];refine k1.write (by simp) (zN (zN (by intro x hx;simp at hx;omega) hw.2) (by intro x hx;simp at hx;omega)) (by simp;omega) fun _ t2 h2=>?_
   refine arg1 _ t2 _ _ _ 7 (by omega) (by omega) (by decide) h2 (by simp;omega) (z32 (hF.up h2.le) h27) fun t3 s3 m1 m2 m3=>done _ _ m1 m2 ?_
   simp only[ybg,ybn,ybx]at m3;omega
  ·-- not
   have h5:=f5 e
   refine yC (zG (by omega)) (yC (zG (by omega)) (yC (zG (by omega)) (yC (zG (by omega)) (uB (yEq (by omega)) (iA bE (iA lL (iA bE (iA (kL (by decide)) (cC (ldw hB.le) (pJ (dC ?_)))))))))))
   rw[ztf];refine hB.write h5.2 hw.2 (by omega) fun _ t1 h1=>?_
   refine arg0 _ t1 _ _ _ 6 (by omega) (by omega) (by decide) h1 (by simp;omega) (zog (hF.up h1.le) h27) fun t2 s2 k1 k2 k3=>done _ _ k1 k2 ?_
   simp only[ybg]at k3;omega
  ·-- a call
   refine yC (zG (by omega)) (yC (zG (by omega)) (yC (zG (by omega)) (yC (zG (by omega)) (yC (zG (by omega)) (uB (yEq (by omega)) (dC ?_))))))
   rw[q122];exact zpb hall hfit0 hP0 e hF hM hW hc hB (by omega) fun t' s' k1 k2 k3=>done t' s' k1 k2 k3
def zfk:∀(l:List qA),∀y∈l,WOk bf y
 | [],_,h=>by cases h
 | x::l,y,h=>by
  rcases ybs.1 h with e | h
  ·rw[e];exact zjd x
  ·exact zfk l y h
end
end
end Go.Proofs
namespace Go.Proofs
open Go Go.Am
section
variable [sC]
variable {t tf:Tr rA}
def zot{x:qA}{cs:List zA}{Q:bB}(hfit:x.fit)(hP:gD x 1=true)(hM:eJ t)(hW:pN t)(hr:RD t x.d cs)(hQ:∀t' s,dA t t'->s≠[]->Q (.str s) t'):Wc yA F 65 [.agg cs] t Q:=by
 obtain⟨a,b,c,rfl,ha,hb,hc⟩:=xI hr
 refine w65 _ _ _ _ _ _ _ _ _ ?_
 unfold t65;refine dC ?_
 rw[q83];refine zdn fun bf t1 h1 h2 h3 h4 h5=>?_
 refine uB rfl (kH fun bx hbx hbb=>?_)
 obtain⟨t2,e1,e2,e3,e4⟩:=xV hbx [.nilptr,.nilslice,.ptr bf 0] (some (.ty 166))
 have hbox:zsv yA 166 (.agg [.nilptr,.nilslice,.ptr bf 0]) ⟨bx,t1⟩=some (.ptr bx 0,⟨bx+1,t2⟩):=by
  unfold zsv;have:cI yA 166=some (.ty 166):=by kernel_rfl
  rw[this,<- e1];rfl
 refine⟨_,_,hbox,dC ?_⟩
 have hB:BX 166 [.ptr bf 0] t1 t2 bx []:=⟨hbb,hbx,e3,(by intro x hx;cases hx),rfl,.nilptr,.nilslice,.inl rfl,e2,.inl ⟨rfl,rfl⟩,zd6⟩
 rw[q87];refine zjd x 1 _ t1 t2 bx [] _ hfit hP h3 (hM.mono h4) (hW.mono h4) (hr.mono h4) hB (by simp) fun t3 s h6 h7 h8=>?_
 refine iA bE (iA lL (dC ?_))
 rw[q88];have hl:s.length<=91000:=by
  have:uI (25-1)=90800:=rfl
  rw[this]at h8;simp at h8;omega
 exact h6.string h7 (by omega) fun t4 h9=>pJ (hQ _ _ (h4.trans h9) h7)
def z41{x:qA}{cs:List zA}{Q:bB}(hfit:x.fit)(hM:eJ t)(hW:pN t)(hr:RD t x.d cs)
  (hQ:∀t' s e,dA t t'->(if gD x 1=true then(s≠[]/\e=0\/s=[]/\e=3)else s=[]/\e=2)->Q (.tup [.str s,.int .i64 e]) t'):Wc yA F 43 [.agg cs] t Q:=by
 have hr0:=hr
 obtain⟨a,b,c,rfl,ha,hb,hc⟩:=xI hr
 refine w43 _ _ _ _ _ _ _ _ _ ?_
 unfold t43;refine dC ?_
 rw[q63];refine zic fun bf t1 h1 h2 h3 h4 h5=>?_
 have e:(cellsOf [zA.ptr bf 0]).v 0=.ptr bf 0:=rfl
 refine uH (sQ rfl) (uB hr0.sameA (dC ?_))
 have he:=z0e h3 x 1 _ hfit (by omega) (hr0.mono h4)
 rw[show((1:Nat):Int)=1 from rfl]at he
 rw[q64,e,he,tA];refine aG ?_
 cases hP:gD x 1 with
 | false=>
  refine uB rfl ?_
  exact hQ _ _ _ h4 (by rw[hP,yaa (by simp)];exact⟨rfl,rfl⟩)
 | true=>
  refine yC (by simp) (dC ?_)
  rw[q65];refine zot hfit hP (hM.mono h4) (hW.mono h4) (hr0.mono h4) fun t2 s h6 h7=>pJ ?_
  by_cases hl:65536<s.length
  ·refine uB (yLt (by rw[oL];omega)) ?_
   exact hQ _ _ _ (h4.trans h6) (by rw[hP,yab rfl];exact .inr ⟨rfl,rfl⟩)
  ·refine yC (nLt (by rw[oL];omega)) ?_
   exact hQ _ _ _ (h4.trans h6) (by rw[hP,yab rfl];exact .inl ⟨h7,rfl⟩)
end
section
variable [sC]
variable {t tf:Tr rA}
def defN (l:List tI)(s:List Nat):Option tI:=l.find? fun d=>cF d.name s
def z17 (l:List wH)(s:List Nat):Option wH:=l.find? fun d=>cF d.name s
def defV:Option tI->zA
 | some d=>.tup [.agg [.str d.name,.int .u8 d.kind,.bool d.fact],.bool true]
 | none=>.tup [.agg [.str [],.int .u8 0,.bool false],.bool false]
def lK{α:Type}{l:List α}{i:Nat}(h:i<l.length):l.drop i=l[i]::l.drop (i+1):=ybl h
def z5c{l:List tI}{s:List Nat}{v:zA}(hr:jA t 3 (l.map tI.d) v)(hlen:l.length<lD):∀(k i:Nat),i+k=l.length->jp 19 2 [.str s,v,.int .i64 (l.length:Int),.int .i64 (i:Int),.str [],.int .u8 0,.bool false] t (fun x t'=>x=defV (defN (l.drop i) s)/\t'=t):=by
 unfold lD at hlen;intro k;induction k with
 | zero=>
  intro i hi;refine j19_2 _ _ _ _ _ _ _ (yC (nLt (by omega)) (uB rfl (uB rfl ?_)))
  rw[ybt (by omega)]
  exact⟨rfl,rfl⟩
 | succ k ih=>
  intro i hi;have hlt:i<l.length:=by omega
  obtain⟨b,off,cs,g1,g2,_,_,g5⟩:=yF.at sl22 (by simp) hr (i:=i) (d:=l[i].d) (by simp[hlt])
  refine j19_2 _ _ _ _ _ _ _ (uB (yLt (by omega)) (iA g1 (cC g2 ?_)))
  rw[oP];have hcs:=z6o g5
  subst hcs;refine uH (dH g5 (tI.zs _)) (uB rfl ?_)
  rw[lK hlt];unfold defN;rw[List.find?_cons]
  cases he:cF l[i].name s with
  | true=>exact uB he (uB rfl ⟨rfl,rfl⟩)
  | false=>
   refine yC (by show ¬ (cF l[i].name s=true);rw[he];simp) (dE ?_)
   rw[wrap_i64 (by omega) (by omega),show(i:Int)+1=((i+1:Nat):Int) by omega]
   exact ih (i+1) (by omega)
def def_ok{p:rE}{cs:List zA}{s:List Nat}(hp:p.fit)(hr:RD t p.d cs):xC yA F 19 [.agg cs,.str s] t=some (defV (defN p.defs s)):=by
 obtain⟨a,b,c,rfl,ha,hb,hc⟩:=fR hr
 refine bC.2 (w19 _ _ _ _ _ (iA ha.len (pC (dE ?_))))
 rw[ybf];have:=z5c (s:=s) ha hp.ndefs p.defs.length 0 (by omega)
 rw[ycr]at this;exact this
def TabV (t:Tr rA)(o:Option wH)(v:zA):Prop:=
 match o with
 | some x=>∃a,v=.tup [.agg [.str x.name,.bool x.two,a],.bool true]/\jA t 7 (x.rows.map zmr.d) a
 | none=>v=.tup [.agg [.str [],.bool false,.nilslice],.bool false]
def z2l{l:List wH}{s:List Nat}{v:zA}(hr:jA t 3 (l.map wH.d) v)(hlen:l.length<lD):∀(k i:Nat),i+k=l.length->∃r,TabV t (z17 (l.drop i) s) r/\jp 54 2 [.str s,v,.int .i64 (l.length:Int),.int .i64 (i:Int),.str [],.bool false,.nilslice] t (fun x t'=>x=r/\t'=t):=by
 unfold lD at hlen;intro k;induction k with
 | zero=>
  intro i hi;rw[ybt (by omega)]
  exact⟨_,rfl,z9e _ _ _ _ _ _ _ (yC (nLt (by omega)) (uB rfl (uB rfl ⟨rfl,rfl⟩)))⟩
 | succ k ih=>
  intro i hi;have hlt:i<l.length:=by omega
  obtain⟨b,off,cs,g1,g2,_,_,g5⟩:=yF.at sl23 (by simp) hr (i:=i) (d:=l[i].d) (by simp[hlt])
  have g50:=g5
  obtain⟨a,rfl,ha⟩:=zqm g5
  rw[lK hlt];have hone:tC zA.one [.str l[i].name,.bool l[i].two,a]=true:=g50.all
  unfold z17;rw[List.find?_cons]
  cases he:cF l[i].name s with
  | true=>
   refine⟨_,⟨a,rfl,ha⟩,z9e _ _ _ _ _ _ _ (uB (yLt (by omega)) (iA g1 (cC g2 ?_)))⟩
   rw[oP];exact uH (dH g50 (wH.zs _)) (uB hone (uB he (uB hone ⟨rfl,rfl⟩)))
  | false=>
   obtain⟨r,h1,h2⟩:=ih (i+1) (by omega)
   refine⟨r,h1,z9e _ _ _ _ _ _ _ (uB (yLt (by omega)) (iA g1 (cC g2 ?_)))⟩
   rw[oP];refine uH (dH g50 (wH.zs _)) (uB hone (yC (by show ¬ (cF l[i].name s=true);rw[he];simp) (dE ?_)))
   rw[wrap_i64 (by omega) (by omega),show(i:Int)+1=((i+1:Nat):Int) by omega]
   exact h2
def tab_ok{p:rE}{cs:List zA}(hp:p.fit)(hr:RD t p.d cs)(s:List Nat):∃r,TabV t (z17 p.tables s) r/\xC yA F 54 [.agg cs,.str s] t=some r:=by
 obtain⟨a,b,c,rfl,ha,hb,hc⟩:=fR hr
 obtain⟨r,h1,h2⟩:=z2l (s:=s) hb hp.ntables p.tables.length 0 (by omega)
 rw[ycr]at h1;refine⟨r,h1,bC.2 (w54 _ _ _ _ _ (iA hb.len (pC (dE ?_))))⟩
 rw[ybf];exact h2
def sO(p:rE)(op:Nat)(name:List Nat)(n:Nat):Nat × Bool:=
 if op=3\/op=4\/op=21\/op=22\/op=5 then
  match defN p.defs name with
  | some d=>(d.kind,bEq d.fact (!decide (op=5))&&(decide (1<=d.kind)&&decide (d.kind<=6)))
  | none=>(0,false)
 else if op=6 then
  match z17 p.tables name with
  | some x=>(0,bEq x.two (decide (n=2)))
  | none=>(0,false)
 else if op=23 then
  match z17 p.tables name with
  | some x=>(0,!x.two)
  | none=>(0,false)
 else(0,true)
def nmV (r:Nat × Bool):zA:=.tup [.int .u8 (r.1:Nat),.bool r.2]
def D66 (p0:zA)(p1_0:Int)(p1_1:List Nat):T:=
 (.opt (rC p0) fun a0=>.opt (sB yA 104 0 a0) fun a1=>.light (fun m=>mA yA 26 ⟨0,m⟩ a1) fun a2=>.asG [(.str []),.nilslice,.nilslice,.nilslice] a2 fun X3=>
 .heavy (yH yA 59) fun a4=>
 .call 19 [(.agg [(.str (X3.s 0)),(X3.v 1),(X3.v 2),(X3.v 3)]),(.str p1_1)] fun a5=>
 .opt (rB 0 a5) fun a6=>.asG [(.str []),(.int .u8 0),(.bool false)] a6 fun X7=>
 .opt (rB 1 a5) fun a8=>.asB a8 fun b9=>.heavy (eC yA 59 a4 (.agg [(.str (X7.s 0)),(.int .u8 (X7.i 1)),(.bool (X7.b 2))])) fun _=>
 .ite b9
 (.opt (sB yA 59 2 a4) fun vD=>.light (fun m=>mA yA 4 ⟨0,m⟩ vD) fun a11=>.asB a11 fun b12=>.opt (sB yA 59 1 a4) fun a13=>.light (fun m=>mA yA 5 ⟨0,m⟩ a13) fun tF=>.asI .u8 tF fun n15=>.ite (bEq b12 (!lA p1_0 5))
 (.opt (sB yA 59 1 a4) fun a16=>.light (fun m=>mA yA 5 ⟨0,m⟩ a16) fun a17=>.asI .u8 a17 fun n18=>.ite (nC 1 n18)
 (.opt (sB yA 59 1 a4) fun a19=>.light (fun m=>mA yA 5 ⟨0,m⟩ a19) fun a20=>.asI .u8 a20 fun n21=>.ret (.tup [(.int .u8 n15),(.bool (nC n21 6))]))
 (.ret (.tup [(.int .u8 n15),(.bool false)])))
 (.ret (.tup [(.int .u8 n15),(.bool false)])))
 (.opt (sB yA 59 1 a4) fun a22=>.light (fun m=>mA yA 5 ⟨0,m⟩ a22) fun a23=>.asI .u8 a23 fun n24=>.ret (.tup [(.int .u8 n24),(.bool false)])))
def T66 (p0:zA)(p1_1:List Nat)(K:zA->zA->T):T:=
 (.opt (rC p0) fun a25=>.opt (sB yA 104 0 a25) fun a26=>.light (fun m=>mA yA 26 ⟨0,m⟩ a26) fun a27=>.asG [(.str []),.nilslice,.nilslice,.nilslice] a27 fun X28=>
 .heavy (yH yA 81) fun a29=>
 .call 54 [(.agg [(.str (X28.s 0)),(X28.v 1),(X28.v 2),(X28.v 3)]),(.str p1_1)] fun a30=>
 .opt (rB 0 a30) fun a31=>.asG [(.str []),(.bool false),.nilslice] a31 fun X32=>
 .opt (rB 1 a30) fun a33=>.asB a33 fun b34=>.heavy (eC yA 81 a29 (.agg [(.str (X32.s 0)),(.bool (X32.b 1)),(X32.v 2)])) fun _=>
 .ite b34
 (.opt (sB yA 81 1 a29) fun a35=>.light (fun m=>mA yA 4 ⟨0,m⟩ a35) fun a36=>K a36 a29)
 (.ret (.tup [(.int .u8 0),(.bool false)])))
def kM(t:Tr rA)(b m:Nat)(p:rE):Prop:=∃cs,RD t p.d cs/\jD t b none (cs++[.map m])
def z0d{b:Nat}:sB yA 104 0 (.ptr b 0)=some (.ptr b 0):=by kernel_rfl
def zos{b:Nat}:sB yA 104 1 (.ptr b 0)=some (.ptr b 4):=by kernel_rfl
def kM.plan{b m:Nat}{p:rE}(h:kM t b m p):∃cs,RD t p.d cs/\cs.length=4/\mA yA 26 ⟨0,t⟩ (.ptr b 0)=some (.agg cs)/\jD t b none (cs++[.map m]):=by
 obtain⟨cs,h1,h2⟩:=h
 have hlen:cs.length=4:=by obtain⟨a,b,c,rfl,_⟩:=fR h1;rfl
 refine⟨cs,h1,hlen,?_,h2⟩
 have:=h2.at.load (C:=yA) (ty:=26) ty26 rfl (n:=4) rfl (j:=0) (by simp[hlen])
 rw[ybw]at this;rw[this];congr 2
 rw[ycr,List.take_left' hlen]
def zaq{b T n:Nat}{l m:List zA}{y:uC}(h:jD t b none l)(hb:yA.base<=b)(hT:yA.tys.get T=some y)(hy:y.size=n)(hl:l.length=n)(hm:m.length=n)(hone:tC zA.one m=true):∃t',(∀k,eC yA T (.ptr b 0) (.agg m) ⟨k,t⟩=some (pD,⟨k,t'⟩))/\jD t' b none m/\mD b t t':=by
 obtain⟨t',h1,h2,h3⟩:=h.store (C:=yA) hb (T:=T) (v:=.agg m) (j:=0) hT (by show m.length=_;rw[hm,hy]) (by show 0+m.length<=_;omega) hone
 refine⟨t',h1,?_,h3⟩
 have e:bL l 0 (zA.agg m).cells=m:=by
  show bL l 0 m=m
  unfold bL;rw[List.take_zero,yah,ybt (by omega),ycd]
 rw[e]at h2;exact h2
def zqu{p:rE}{cs:List zA}(h:RD t p.d cs):kK [.str [],.nilslice,.nilslice,.nilslice] (.agg cs)=some (cellsOf cs)/\[zA.str ((cellsOf cs).s 0),(cellsOf cs).v 1,(cellsOf cs).v 2,(cellsOf cs).v 3]=cs:=⟨dH h (rE.zs _),h.mk (rE.zs p)⟩
section
variable {b m:Nat}{p:rE}{op:Nat}{name:List Nat}{n:Nat}
def D_ok(hC:kM t b m p)(hp:p.fit)(hop:op=3\/op=4\/op=21\/op=22\/op=5):wp 66 (D66 (.ptr b 0) (op:Int) name) t (fun v t'=>v=nmV (sO p op name n)/\dA t t'):=by
 obtain⟨cs,h1,h2,h3,h4⟩:=hC.plan
 obtain⟨e1,e2⟩:=zqu h1
 unfold D66 sO;rw[yab hop];refine iA bE (iA z0d (cC h3 (uH e1 (kH fun bd hbd hbase=>?_))))
 obtain⟨t1,g1,g2,g3,g4⟩:=rU (C:=yA) ty59 hbd
 refine⟨_,_,g1,dC ?_⟩
 rw[e2,q19,def_ok hp (h1.mono g3),tA]
 have f1:sB yA 59 1 (.ptr bd 0)=some (.ptr bd 1):=by kernel_rfl
 have f2:sB yA 59 2 (.ptr bd 0)=some (.ptr bd 2):=by kernel_rfl
 have hb5:(!lA (op:Int) 5) = !decide (op=5):=by
  rw[sN];congr 2;exact propext (by omega)
 cases hd:defN p.defs name with
 | none=>
  refine iA rfl (uH (sQ rfl) (iA rfl (aG (kH fun k _ _=>?_))))
  obtain⟨t2,k1,k2,k3⟩:=zaq g2 hbase ty59 rfl rfl (m:=[.str [],.int .u8 0,.bool false]) rfl rfl
  refine⟨_,_,k1 k,yC (by simp) (iA f1 (cC (k2.load1 (j:=1) ty5 rfl rfl) (pC ⟨rfl,fun c u hc=>?_⟩)))⟩
  have:c≠bd:=fun e=>by rw[e,hbd]at hc;cases hc
  rw[k3 c this];exact g3 _ _ hc
 | some d=>
  refine iA rfl (uH (sQ rfl) (iA rfl (aG (kH fun k _ _=>?_))))
  obtain⟨t2,k1,k2,k3⟩:=zaq g2 hbase ty59 rfl rfl (m:=[.str d.name,.int .u8 d.kind,.bool d.fact]) rfl rfl
  have hle:dA t t2:=fun c u hc=>by
   have:c≠bd:=fun e=>by rw[e,hbd]at hc;cases hc
   rw[k3 c this];exact g3 _ _ hc
  have ld1:mA yA 5 ⟨0,t2⟩ (.ptr bd 1)=some (.int .u8 (d.kind:Int)):=k2.load1 (j:=1) ty5 rfl rfl
  have ld2:mA yA 4 ⟨0,t2⟩ (.ptr bd 2)=some (.bool d.fact):=k2.load1 (j:=2) ty4 rfl rfl
  refine⟨_,_,k1 k,uB rfl (iA f2 (cC ld2 (aG (iA f1 (cC ld1 (pC ?_))))))⟩
  rw[hb5];show wp 66 _ t2 _
  cases hf:bEq d.fact (!decide (op=5))with
  | false=>exact yC (by simp) ⟨by simp[nmV,hf],hle⟩
  | true=>
   refine uB rfl (iA f1 (cC ld1 (pC ?_)))
   by_cases h6:1<=d.kind
   ·refine uB (yLe (by omega)) (iA f1 (cC ld1 (pC ⟨?_,hle⟩)))
    have:nC (d.kind:Int) 6=decide (d.kind<=6):=by rw[z9r];congr 1;exact propext (by omega)
    simp[nmV,hf,h6,this]
   ·refine yC (nLe (by omega)) ⟨?_,hle⟩
    simp[nmV,hf,h6]
def T_ok{R:Bool}{K:zA->zA->T}(hC:kM t b m p)(hp:p.fit)(hK:∀x bd t',z17 p.tables name=some x->dA t t'->wp 66 (K (.bool x.two) bd) t' (fun v t'=>v=nmV (0,R)/\dA t t'))(hN:z17 p.tables name=none->R=false):wp 66 (T66 (.ptr b 0) name K) t (fun v t'=>v=nmV (0,R)/\dA t t'):=by
 obtain⟨cs,h1,h2,h3,h4⟩:=hC.plan
 obtain⟨e1,e2⟩:=zqu h1
 unfold T66;refine iA bE (iA z0d (cC h3 (uH e1 (kH fun bd hbd hbase=>?_))))
 obtain⟨t1,g1,g2,g3,g4⟩:=rU (C:=yA) ty81 hbd
 refine⟨_,_,g1,dC ?_⟩
 obtain⟨r,r1,r2⟩:=tab_ok hp (h1.mono g3) name
 rw[e2,q54,r2,tA];have f1:sB yA 81 1 (.ptr bd 0)=some (.ptr bd 1):=by kernel_rfl
 cases hd:z17 p.tables name with
 | none=>
  rw[hd]at r1;unfold TabV at r1;subst r1;refine iA rfl (uH (sQ rfl) (iA rfl (aG (kH fun k _ _=>?_))))
  obtain⟨t2,k1,k2,k3⟩:=zaq g2 hbase ty81 rfl rfl (m:=[.str [],.bool false,.nilslice]) rfl rfl
  rw[hN hd];refine⟨_,_,k1 k,yC (by simp) ⟨rfl,fun c u hc=>?_⟩⟩
  have:c≠bd:=fun e=>by rw[e,hbd]at hc;cases hc
  rw[k3 c this];exact g3 _ _ hc
 | some x=>
  rw[hd]at r1;obtain⟨a,rfl,ha⟩:=r1
  have hfz:mL [.str [],.bool false,.nilslice] [zA.str x.name,.bool x.two,a]=true:=by
   show(true&&(true&&(zve .nilslice a&&true)))=true
   rw[qV ha];rfl
  have hone:tC zA.one [zA.str x.name,.bool x.two,a]=true:=by
   rw[iG];simp only[ycg,yck,ha.one];rfl
  refine iA rfl (uH (sQ hfz) (iA rfl (aG (kH fun k _ _=>?_))))
  obtain⟨t2,k1,k2,k3⟩:=zaq g2 hbase ty81 rfl rfl (m:=[.str x.name,.bool x.two,a]) rfl hone
  have hle:dA t t2:=fun c u hc=>by
   have:c≠bd:=fun e=>by rw[e,hbd]at hc;cases hc
   rw[k3 c this];exact g3 _ _ hc
  refine⟨_,_,k1 k,uB rfl (iA f1 (cC (k2.load1 (j:=1) ty4 rfl rfl) ?_))⟩
  exact hK x _ t2 hd hle
def z3s{a c d:zA}{kd:Int}{n1 n2:Bool}{vi:Int}(hC:kM t b m p)(hp:p.fit)(hc:zC d=some (.int .i64 (n:Int))):xC yA F 66 [.ptr b 0,.agg [.int .u8 op,.str name,.int .u8 kd,.bool n1,a,.bool n2,c,.int .i64 vi,d]] t=some (nmV (sO p op name n)):=by
 refine jN ?_
 refine w66 _ _ _ _ _ _ _ _ _ _ ?_
 unfold t66;have rest:∀(Y:T),(op=3\/op=4\/op=21\/op=22\/op=5)->wp 66 (D66 (.ptr b 0) (op:Int) name) t (fun v t'=>v=nmV (sO p op name n)/\dA t t'):=fun Y h=>D_ok hC hp h
 by_cases h3:op=3
 ·exact uB (yEq (by omega)) (uB (yEq (by omega)) (D_ok hC hp (.inl h3)))
 refine yC (zG (by omega)) ?_
 by_cases h4:op=4
 ·exact uB (yEq (by omega)) (uB (yEq (by omega)) (D_ok hC hp (.inr (.inl h4))))
 refine yC (zG (by omega)) ?_
 by_cases h21:op=21
 ·exact uB (yEq (by omega)) (uB (yEq (by omega)) (D_ok hC hp (.inr (.inr (.inl h21)))))
 refine yC (zG (by omega)) ?_
 by_cases h22:op=22
 ·exact uB (yEq (by omega)) (uB (yEq (by omega)) (D_ok hC hp (.inr (.inr (.inr (.inl h22))))))
 refine yC (zG (by omega)) ?_
 by_cases h5:op=5
 ·exact uB (yEq (by omega)) (D_ok hC hp (.inr (.inr (.inr (.inr h5)))))
 refine yC (zG (by omega)) ?_
 have hno:¬ (op=3\/op=4\/op=21\/op=22\/op=5):=by omega
 by_cases h6:op=6
 ·refine uB (yEq (by omega)) ?_
  unfold sO;rw[yaa hno,yab h6]
  cases hd:z17 p.tables name with
  | none=>
   exact T_ok (R:=false) (K:=fun a36 _=>.asB a36 fun b37=>.opt (zC d) fun a38=>.asI .i64 a38 fun n39=>.ret (.tup [(.int .u8 0),(.bool (bEq b37 (lA n39 2)))])) hC hp (fun x bd t' h _=>by rw[hd]at h;cases h) (fun _=>rfl)
  | some x=>
   refine T_ok (R:=bEq x.two (decide (n=2))) (K:=fun a36 _=>.asB a36 fun b37=>.opt (zC d) fun a38=>.asI .i64 a38 fun n39=>.ret (.tup [(.int .u8 0),(.bool (bEq b37 (lA n39 2)))])) hC hp (fun y bd t' h hle=>?_) (fun h=>by rw[hd]at h;cases h)
   rw[hd]at h
   cases h;refine aG (iA hc (pC ⟨?_,hle⟩))
   have:lA (n:Int) 2=decide (n=2):=by rw[sN];congr 1;exact propext (by omega)
   rw[this];rfl
 refine yC (zG (by omega)) ?_
 by_cases h23:op=23
 ·refine uB (yEq (by omega)) ?_
  unfold sO;rw[yaa hno,yaa h6,yab h23]
  cases hd:z17 p.tables name with
  | none=>
   exact T_ok (R:=false) (K:=fun a36 _=>.asB a36 fun b52=>.ret (.tup [(.int .u8 0),(.bool (!b52))])) hC hp (fun x bd t' h _=>by rw[hd]at h;cases h) (fun _=>rfl)
  | some x=>
   refine T_ok (R := !x.two) (K:=fun a36 _=>.asB a36 fun b52=>.ret (.tup [(.int .u8 0),(.bool (!b52))])) hC hp (fun y bd t' h hle=>?_) (fun h=>by rw[hd]at h;cases h)
   rw[hd]at h
   cases h;exact aG ⟨rfl,hle⟩
 refine yC (zG (by omega)) ?_
 unfold sO;rw[yaa hno,yaa h6,yaa h23];exact⟨rfl,dA.refl _⟩
end
end
section
variable [sC]
variable {t tf:Tr rA}
structure KE where
 op:Nat
 a:Nat
 b:Nat
 c:Nat
 k:Nat
def zze:List KE:=[⟨2,0,0,0,4⟩,⟨4,4,0,0,1⟩,⟨6,2,0,0,2⟩,⟨6,2,2,0,2⟩,⟨8,4,4,0,5⟩,⟨9,2,2,0,2⟩,⟨9,3,2,0,3⟩,⟨9,2,3,0,3⟩,⟨10,2,2,0,2⟩,⟨10,3,2,0,3⟩,⟨10,3,3,0,2⟩,⟨15,1,1,0,1⟩,⟨16,1,1,0,1⟩,⟨17,1,0,0,1⟩,
 ⟨19,2,2,0,2⟩,⟨19,3,3,0,3⟩,⟨20,4,4,0,6⟩,⟨21,4,4,0,2⟩,⟨22,4,4,6,3⟩,⟨23,4,4,0,2⟩,⟨24,2,0,0,6⟩,⟨25,5,0,0,2⟩,⟨25,6,0,0,2⟩,⟨25,3,0,0,2⟩,⟨26,4,0,0,4⟩,
 ⟨7,2,2,0,2⟩,⟨7,3,3,0,3⟩,⟨7,5,5,0,5⟩,⟨7,6,6,0,6⟩,⟨7,4,5,0,4⟩,⟨7,4,6,0,4⟩,⟨8,2,2,0,2⟩,⟨8,3,3,0,3⟩,⟨8,5,5,0,5⟩,⟨8,6,6,0,6⟩,⟨8,4,5,0,4⟩,⟨8,4,6,0,4⟩,
 ⟨14,1,1,0,1⟩,⟨18,1,1,1,1⟩,⟨14,2,2,0,1⟩,⟨18,1,2,2,2⟩,⟨11,2,2,0,2⟩,⟨12,2,2,0,2⟩,⟨13,2,2,0,1⟩,⟨14,3,3,0,1⟩,⟨18,1,3,3,3⟩,⟨11,3,3,0,3⟩,⟨12,3,3,0,3⟩,⟨13,3,3,0,1⟩,
 ⟨14,4,4,0,1⟩,⟨18,1,4,4,4⟩,⟨11,4,4,0,4⟩,⟨12,4,4,0,4⟩,⟨13,4,4,0,1⟩,⟨14,5,5,0,1⟩,⟨18,1,5,5,5⟩,⟨11,5,5,0,5⟩,⟨12,5,5,0,5⟩,⟨13,5,5,0,1⟩,
 ⟨14,6,6,0,1⟩,⟨18,1,6,6,6⟩,⟨11,6,6,0,6⟩,⟨12,6,6,0,6⟩,⟨13,6,6,0,1⟩]
def z6x (op a b c:Nat):zA:=.agg [.int .u8 op,.int .u8 a,.int .u8 b,.int .u8 c]
def KE.e (x:KE):zA × zA:=(z6x x.op x.a x.b x.c,.int .u8 x.k)
def sD (n:Nat):List (zA × zA):=(zze.take n).map KE.e
def vS{w x y z:Int}:uN yA 100 (.agg [.int .u8 w,.int .u8 x,.int .u8 y,.int .u8 z])=true:=by kernel_rfl
def KI (t0:Tr rA)(b n:Nat)(t:Tr rA):Prop:=t.get b=some (.map (sD n))/\mD b t0 t
def ztz{t0:Tr rA}{b n i:Nat}{k v:zA}{K:T}{Q:bB}(hb:yA.base<=b)(hI:KI t0 b n t)(hs:cG k v (sD n)=some (sD (n+1)))(hk:uN yA 100 k=true)(next:∀t',KI t0 b (n+1) t'->wp i K t' Q):wp i (.heavy (mI yA 100 (.map b) k v) fun _=>K) t Q:=by
 refine kH fun m _ _=>?_
 refine⟨_,_,zvs hk hb hI.1 hs,next _ ⟨by show(t.set b _).get b=_;rw[Tr.get_set,yab rfl],fun c hc=>?_⟩⟩
 show(t.set b _).get c=_
 rw[Tr.get_set,yaa hc];exact hI.2 c hc
section
variable {t0:Tr rA}{b:Nat}{name:List Nat}{c1 c2 c3:zA}{Q:bB}
abbrev ag2:zA:=.agg [.int .u8 7,.int .u8 8]
abbrev ag4:zA:=.agg [.int .u8 2,.int .u8 3,.int .u8 5,.int .u8 6]
def zx8{n:Nat}{op i:Int}(hb:yA.base<=b)(hI:KI t0 b n t)
  (h1:cG (.agg [.int .u8 op,.int .u8 2,.int .u8 2,.int .u8 0]) (.int .u8 2) (sD n)=some (sD (n+1))) (h2:cG (.agg [.int .u8 op,.int .u8 3,.int .u8 3,.int .u8 0]) (.int .u8 3) (sD (n+1))=some (sD (n+1+1)))
  (h3:cG (.agg [.int .u8 op,.int .u8 5,.int .u8 5,.int .u8 0]) (.int .u8 5) (sD (n+1+1))=some (sD (n+1+1+1))) (h4:cG (.agg [.int .u8 op,.int .u8 6,.int .u8 6,.int .u8 0]) (.int .u8 6) (sD (n+1+1+1))=some (sD (n+1+1+1+1)))
  (h5:cG (.agg [.int .u8 op,.int .u8 4,.int .u8 5,.int .u8 0]) (.int .u8 4) (sD (n+1+1+1+1))=some (sD (n+1+1+1+1+1))) (h6:cG (.agg [.int .u8 op,.int .u8 4,.int .u8 6,.int .u8 0]) (.int .u8 4) (sD (n+1+1+1+1+1))=some (sD (n+1+1+1+1+1+1)))
  (hk:∀x y:Nat,x<10->y<10->uN yA 100 (.agg [.int .u8 op,.int .u8 (x:Int),.int .u8 (y:Int),.int .u8 0])=true)
  (next:∀t',KI t0 b (n+1+1+1+1+1+1) t'->jp 28 2 [.map b,ag2,.int .i64 (wA .i64 (i+1)),.str name,c1,c2,c3] t' Q) :
  jp 28 6 [.map b,.int .u8 op,ag2,.int .i64 i,ag4,.int .i64 0,.str name,c1,c2,c3] t Q:=by
 have i0:sK yA 102 ag4 (.int .i64 0)=some (.int .u8 2):=by kernel_rfl
 have i1:sK yA 102 ag4 (.int .i64 1)=some (.int .u8 3):=by kernel_rfl
 have i2:sK yA 102 ag4 (.int .i64 2)=some (.int .u8 5):=by kernel_rfl
 have i3:sK yA 102 ag4 (.int .i64 3)=some (.int .u8 6):=by kernel_rfl
 have w1:wA .i64 (0+1)=1:=rfl
 have w2:wA .i64 (1+1)=2:=rfl
 have w3:wA .i64 (2+1)=3:=rfl
 have w4:wA .i64 (3+1)=4:=rfl
 refine zzk _ _ _ _ _ _ _ _ _ _ _ _ _ _ (uB rfl (iA i0 (pC (uB rfl (ztz hb hI h1 (hk 2 2 (by omega) (by omega)) fun t' hI=>dE ?_)))))
 rw[w1];refine zzk _ _ _ _ _ _ _ _ _ _ _ _ _ _ (uB rfl (iA i1 (pC (uB rfl (ztz hb hI h2 (hk 3 3 (by omega) (by omega)) fun t' hI=>dE ?_)))))
 rw[w2];refine zzk _ _ _ _ _ _ _ _ _ _ _ _ _ _ (uB rfl (iA i2 (pC (uB rfl (ztz hb hI h3 (hk 5 5 (by omega) (by omega)) fun t' hI=>dE ?_)))))
 rw[w3];refine zzk _ _ _ _ _ _ _ _ _ _ _ _ _ _ (uB rfl (iA i3 (pC (uB rfl (ztz hb hI h4 (hk 6 6 (by omega) (by omega)) fun t' hI=>dE ?_)))))
 rw[w4];refine zzk _ _ _ _ _ _ _ _ _ _ _ _ _ _ (yC (by show ¬ (false=true);simp) (uB rfl (ztz hb hI h5 (hk 4 5 (by omega) (by omega)) fun t' hI=>uB rfl (ztz hb hI h6 (hk 4 6 (by omega) (by omega)) fun t' hI=>dE ?_))))
 exact next t' hI
def zk9{n:Nat}{k:Nat}(hk0:2<=k/\k<=6)(hb:yA.base<=b)(hI:KI t0 b n t)
  (h1:cG (.agg [.int .u8 14,.int .u8 k,.int .u8 k,.int .u8 0]) (.int .u8 1) (sD n)=some (sD (n+1))) (h2:cG (.agg [.int .u8 18,.int .u8 1,.int .u8 k,.int .u8 k]) (.int .u8 k) (sD (n+1))=some (sD (n+1+1)))
  (h3:cG (.agg [.int .u8 11,.int .u8 k,.int .u8 k,.int .u8 0]) (.int .u8 k) (sD (n+1+1))=some (sD (n+1+1+1))) (h4:cG (.agg [.int .u8 12,.int .u8 k,.int .u8 k,.int .u8 0]) (.int .u8 k) (sD (n+1+1+1))=some (sD (n+1+1+1+1)))
  (h5:cG (.agg [.int .u8 13,.int .u8 k,.int .u8 k,.int .u8 0]) (.int .u8 1) (sD (n+1+1+1+1))=some (sD (n+1+1+1+1+1)))
  (next:∀t',KI t0 b (n+1+1+1+1+1) t'->jp 28 10 [.map b,.int .u8 ((k+1:Nat):Int),.str name,c1,c2,c3] t' Q) :
  jp 28 10 [.map b,.int .u8 (k:Int),.str name,c1,c2,c3] t Q:=by
 have hk:∀w x y z:Nat,w<30->x<10->y<10->z<10->uN yA 100 (z6x w x y z)=true:=fun w x y z _ _ _ _=>vS
 refine zzl _ _ _ _ _ _ (uB (yLe (by omega)) (uB rfl (ztz hb hI h1 (hk 14 k k 0 (by omega) (by omega) (by omega) (by omega)) fun t' hI=>uB rfl (ztz hb hI h2 (hk 18 1 k k (by omega) (by omega) (by omega) (by omega)) fun t' hI=>uB ?_ (uB rfl (ztz hb hI h3 (hk 11 k k 0 (by omega) (by omega) (by omega) (by omega)) fun t' hI=>uB rfl (ztz hb hI h4 (hk 12 k k 0 (by omega) (by omega) (by omega) (by omega)) fun t' hI=>uB rfl (ztz hb hI h5 (hk 13 k k 0 (by omega) (by omega) (by omega) (by omega)) fun t' hI=>dE ?_))))))))
 ·cases hq:lA (k:Int) 1 with
  | true=>exact absurd (gH.1 hq) (by omega)
  | false=>rfl
 ·rw[zhc (by omega) (by omega),show(k:Int)+1=((k+1:Nat):Int) by omega]
  exact next t' hI
def zdo{p:rE}{cs:List zA}(hr:RD t p.d cs)(hQ:∀b m t',dA t t'->kM t' b m p->t'.get m=some (.map (sD 64))->Q (.ptr b 0) t'):Wc yA F 28 [.agg cs] t Q:=by
 have hr0:=hr
 obtain⟨u1,u2,u3,rfl,h1,h2,h3⟩:=fR hr
 refine w28 _ _ _ _ ?_
 unfold t28;repeat refine uB rfl ?_
 refine kH fun b hb hbase=>?_
 refine⟨.map b,⟨b+1,t.set b (.map [])⟩,rfl,kH fun n _ _=>?_⟩
 have hm0:(t.set b (.map [])).get b=some (.map []):=by rw[Tr.get_set,yab rfl]
 have ho0:mD b t (t.set b (.map [])):=fun c hc=>by rw[Tr.get_set,yaa hc]
 obtain⟨t1,g1,g2,g3⟩:=zt9 (C:=yA) (T:=100) (b:=b) (n:=n) (l:=sD 25) (t:=t.set b (.map [])) (fun e he=>by
  obtain⟨x,_,rfl⟩:=yaq.1 he
  exact vS) (by kernel_rfl) hbase hm0
 have g1':nP yA ((sD 25).map fun e=>Eff.upd 100 (.map b) e.1 e.2) ⟨n,t.set b (.map [])⟩=some (pD,⟨n,t1⟩):=g1
 have hI:KI t b 25 t1:=⟨g2,fun c hc=>by rw[g3 c hc,ho0 c hc]⟩
 refine⟨pD,⟨n,t1⟩,g1',uB rfl (dE ?_)⟩
 have j0:sK yA 101 ag2 (.int .i64 0)=some (.int .u8 7):=by kernel_rfl
 have j1:sK yA 101 ag2 (.int .i64 1)=some (.int .u8 8):=by kernel_rfl
 have w1:wA .i64 (0+1)=1:=rfl
 have w2:wA .i64 (1+1)=2:=rfl
 refine z9f _ _ _ _ _ _ _ _ (uB rfl (iA j0 (pC (uB rfl (dE ?_)))))
 refine zx8 hbase hI (by kernel_rfl) (by kernel_rfl) (by kernel_rfl) (by kernel_rfl) (by kernel_rfl) (by kernel_rfl) (fun x y _ _=>vS) fun t2 hI=>?_
 rw[w1];refine z9f _ _ _ _ _ _ _ _ (uB rfl (iA j1 (pC (uB rfl (dE ?_)))))
 refine zx8 hbase hI (by kernel_rfl) (by kernel_rfl) (by kernel_rfl) (by kernel_rfl) (by kernel_rfl) (by kernel_rfl) (fun x y _ _=>vS) fun t3 hI=>?_
 rw[w2];refine z9f _ _ _ _ _ _ _ _ (yC (by show ¬ (false=true);simp) (dE ?_))
 refine zzl _ _ _ _ _ _ (uB rfl (uB rfl (ztz hbase hI (by kernel_rfl) vS fun t4 hI=>uB rfl (ztz hbase hI (by kernel_rfl) vS fun t5 hI=>yC (by show ¬ (false=true);simp) (dE ?_)))))
 have uw:wA .u8 (1+1)=((2:Nat):Int):=rfl
 rw[uw];refine zk9 (by omega) hbase hI (by kernel_rfl) (by kernel_rfl) (by kernel_rfl) (by kernel_rfl) (by kernel_rfl) fun t6 hI=>?_
 refine zk9 (by omega) hbase hI (by kernel_rfl) (by kernel_rfl) (by kernel_rfl) (by kernel_rfl) (by kernel_rfl) fun t7 hI=>?_
 refine zk9 (by omega) hbase hI (by kernel_rfl) (by kernel_rfl) (by kernel_rfl) (by kernel_rfl) (by kernel_rfl) fun t8 hI=>?_
 refine zk9 (by omega) hbase hI (by kernel_rfl) (by kernel_rfl) (by kernel_rfl) (by kernel_rfl) (by kernel_rfl) fun t9 hI=>?_
 refine zk9 (by omega) hbase hI (by kernel_rfl) (by kernel_rfl) (by kernel_rfl) (by kernel_rfl) (by kernel_rfl) fun t10 hI=>?_
 refine zzl _ _ _ _ _ _ (yC (nLe (by omega)) (uB rfl (kH fun bc hbc _=>?_)))
 have hle:dA t t10:=fun c u hc=>by
  have:c≠b:=fun e=>by rw[e,hb]at hc;cases hc
  rw[hI.2 c this];exact hc
 obtain⟨t11,e1,e2,e3,e4⟩:=xV hbc [.str p.name,u1,u2,u3,.map b] none
 have hb:zpx (.agg [.str p.name,u1,u2,u3,.map b]) ⟨bc,t10⟩=some (.ptr bc 0,⟨bc+1,t11⟩):=by
  show some (zA.ptr bc 0,zE ⟨bc,t10⟩ [.str p.name,u1,u2,u3,.map b] none)=_
  rw[e1]
 refine⟨_,_,hb,hQ bc b t11 (hle.trans e3) ⟨_,hr0.mono (hle.trans e3),e2⟩ ?_⟩
 exact e3 _ _ hI.1
end
end
section
variable [sC]
variable {t tf:Tr rA}
def ztu(op a b c:Nat):Option Nat:=(zze.find? fun x=>decide (op=x.op)&&(decide (a=x.a)&&(decide (b=x.b)&&(decide (c=x.c)&&true)))).map KE.k
def zzg{op a b c op' a' b' c':Nat}:mG (z6x op a b c) (z6x op' a' b' c')=some (decide (op=op')&&(decide (a=a')&&(decide (b=b')&&(decide (c=c')&&true)))):=by
 have h:∀x y:Nat,aK (.int .u8 (x:Int)) (.int .u8 (y:Int))=some (decide (x=y)):=by
  intro x y;show cA (kEq .u8 .u8) (some (lA (x:Int) (y:Int)))=_
  rw[jI.2 rfl,oD,sN];congr 2
  exact propext (by omega)
 unfold mG z6x;simp only[zA.asAgg,uA,vN,h]
def zll{op a b c:Nat}:∀(l:List KE),fH (z6x op a b c) (l.map KE.e)=some ((l.find? fun x=>decide (op=x.op)&&(decide (a=x.a)&&(decide (b=x.b)&&(decide (c=x.c)&&true)))).map fun x=>zA.int .u8 (x.k:Int))
 | []=>rfl
 | x::l=>by
  rw[ycm,fH,show(KE.e x).1=z6x x.op x.a x.b x.c from rfl,zzg,uA,List.find?_cons]
  cases h:(decide (op=x.op)&&(decide (a=x.a)&&(decide (b=x.b)&&(decide (c=x.c)&&true))))with
  | true=>rfl
  | false=>exact zll l
def z86{m:Nat}(hm:t.get m=some (.map (sD 64)))(op a b c:Nat):yI yA 100 ⟨0,t⟩ (.map m) (z6x op a b c) true=some (match ztu op a b c with | some k=>.tup [.int .u8 (k:Int),.bool true] | none=>.tup [.int .u8 0,.bool false]):=by
 have hl:sD 64=zze.map KE.e:=rfl
 have hf:=zll (op:=op) (a:=a) (b:=b) (c:=c) zze
 rw[<- hl]at hf;unfold ztu
 cases h:zze.find? fun x=>decide (op=x.op)&&(decide (a=x.a)&&(decide (b=x.b)&&(decide (c=x.c)&&true)))with
 | some x=>
  rw[h]at hf;exact zq9 vS hm hf z75 rfl ty5 true
 | none=>
  rw[h]at hf;exact zyo vS hm hf z75 rfl ty5 true
def fitK (op nm a b c:Nat):Nat × Nat:=
 if op=3\/op=5 then(if a=4 then(nm,0)else(0,142))
 else match ztu op a b c with
  | some k=>if op=21 then(if nm=2 then(k,0)else(0,142))else if op=22 then(if nm=3 then(k,0)else(0,142))else(k,0)
  | none=>(0,142)
def opK (p:rE)(op:Nat)(name:List Nat)(vk n:Nat)(ks:List Nat):Nat × Nat:=
 if (sO p op name n).2=false then(0,141)else if op=1 then(vk,0)else fitK op (sO p op name n).1 (ks.getD 0 0) (ks.getD 1 0) (ks.getD 2 0)
def z9d(p:rE)(op:Nat)(name:List Nat)(vk n:Nat)(ks:List Nat)(r:Nat ⊕ List Nat):Nat × Nat:=
 match r with
 | .inl e=>(0,e)
 | .inr ks'=>opK p op name vk n (ks++ks')
mutual
/-- kind and error of an expression whose parts are printable -/
def gF(p:rE):qA->Nat × Nat
 | .mk op name v args=>z9d p op name v.kind args.length [] (wI p args)
def wI(p:rE):List qA->Nat ⊕ List Nat
 | []=>.inr []
 | x::l=>if (gF p x).2≠0 then .inl (gF p x).2 else match wI p l with
  | .inl e=>.inl e
  | .inr ks=>.inr ((gF p x).1::ks)
end
def kdV (r:Nat × Nat):zA:=.tup [.int .u8 (r.1:Nat),.int .i64 (r.2:Nat)]
def kC (ks:List Nat):List zA:=[.int .u8 (ks.getD 0 0:Nat),.int .u8 (ks.getD 1 0:Nat),.int .u8 (ks.getD 2 0:Nat)]
def kC_set{ks:List Nat}{k:Nat}(h:ks.length<3):(kC ks).set ks.length (.int .u8 (k:Int))=kC (ks++[k]):=by
 match ks,h with
 | [],_=>rfl
 | [x],_=>rfl
 | [x,y],_=>rfl
def zzj{ks:List Nat}{i:Nat}(h:i<3):(kC ks)[i]?=some (.int .u8 (ks.getD i 0:Nat)):=by
 have:i=0\/i=1\/i=2:=by omega
 rcases this with e | e | e<;>subst e<;>rfl
def zru{b i:Nat}(h:i<3):lB yA 137 (.ptr b 0) (.int .i64 (i:Int))=some (.ptr b i):=by
 unfold lB;rw[ty137,uA];have e:(zA.int .i64 (i:Int)).asNat=some i:=rfl
 rw[e,uA];simp only[zA.asSlice,zA.asPtr,uA,nD.asArr];rw[ty5,uA,kB.2 h,oD];simp
def z5p{x:qA}{d:Nat}(h:gD x d=true):x.args.length<=3/\(x.op=1\/∀y∈x.args,gD y (d+1)=true):=by
 obtain⟨op,name,v,args⟩:=x
 unfold gD fO at h;simp only[ybb,decide_eq_true_eq]at h;obtain⟨⟨hd,⟨⟨⟨h27,_⟩,hl⟩,hm⟩,hnm⟩,hrest⟩:=h
 obtain⟨f1,f2,f3,f4,f5,f6,f7,f8⟩:=za9 h27
 refine⟨by show args.length<=3;omega,?_⟩
 show op=1\/∀y∈args,gD y (d+1)=true
 by_cases h1:op=1
 ·exact .inl h1
 ·rw[yaa h1,ybb,kV,ycb]at hrest
  exact .inr hrest.2
def zsh{x:qA}{d:Nat}(h:gD x d=true)(h1:x.op=1):x.args=[]:=by
 obtain⟨op,name,v,args⟩:=x
 have h1:op=1:=h1
 subst h1;unfold gD fO at h;simp only[ybb,decide_eq_true_eq]at h;have:=h.1.2.1.2
 have e:(tD 1).most=0:=rfl
 rw[e]at this;exact ycc.1 (by show args.length=0;omega)
def POk (p:rE)(b m:Nat)(x:qA):Prop:=∀(d:Nat) (t:Tr rA) (cs:List zA),gD x d=true->x.fit->kM t b m p->t.get m=some (.map (sD 64))->RD t x.d cs->xC yA F 44 [.ptr b 0,.agg cs] t=some (kdV (gF p x))
section
variable {p:rE}{b m:Nat}
def kM.mono{t':Tr rA}(h:kM t b m p)(k:dA t t'):kM t' b m p:=by
 obtain⟨cs,h1,h2⟩:=h
 exact⟨cs,h1.mono k,h2.up k⟩
def kM.map(h:kM t b m p):mA yA 100 ⟨0,t⟩ (.ptr b 4)=some (.map m):=by
 obtain⟨cs,h1,h2,h3,h4⟩:=h.plan
 refine h4.load1 (j:=4) z75 rfl ?_
 rw[ybp (by omega),h2]
 rfl
def z0p{r:Bool}{k:Nat}{t0:Tr rA}(hle:dA t0 t):jp 44 59 [.bool r,.int .u8 (k:Int)] t (fun v t'=>v=kdV (if r=true then(k,0)else(0,142))/\dA t0 t'):=by
 refine j44_59 _ _ ?_
 unfold z6e
 cases r with
 | true=>exact yC (by simp) ⟨rfl,hle⟩
 | false=>exact uB rfl ⟨rfl,hle⟩
def z3g{op:Nat}{name:List Nat}{v:sF}{n:Nat}{ks:List Nat}{a c d:zA}{ak:Nat}{t0:Tr rA}(hp:p.fit)(hC:kM t b m p)(hm:t.get m=some (.map (sD 64)))(hd:zC d=some (.int .i64 (n:Int)))(hk:jD t ak none (kC ks))(hle:dA t0 t) :
  wp 44 (.call 66 [.ptr b 0,(.agg [(.int .u8 (op:Int)),(.str name),(.int .u8 (v.kind:Int)),(.bool v.f.n.neg),a,(.bool v.f.d.neg),c,(.int .i64 v.i),d])] fun a9=>
 .opt (rB 0 a9) fun vD=>.asI .u8 vD fun n11=>.opt (rB 1 a9) fun rF=>.asB rF fun b13=>.ite (!b13)
 (.ret (.tup [(.int .u8 0),(.int .i64 141)]))
 (.opt (lB yA 137 (.ptr ak 0) (.int .i64 0)) fun tF=>.light (fun m=>mA yA 5 ⟨0,m⟩ tF) fun a15=>.asI .u8 a15 fun n16=>.opt (lB yA 137 (.ptr ak 0) (.int .i64 1)) fun a17=>.light (fun m=>mA yA 5 ⟨0,m⟩ a17) fun a18=>.asI .u8 a18 fun n19=>.opt (lB yA 137 (.ptr ak 0) (.int .i64 2)) fun a20=>.light (fun m=>mA yA 5 ⟨0,m⟩ a20) fun a21=>.asI .u8 a21 fun n22=>.ite true (.ite true (.ite (lA (op:Int) 1)
 (.ret (.tup [(.int .u8 (v.kind:Int)),(.int .i64 0)]))
 (.ite (lA (op:Int) 3)
 (.ite (lA (op:Int) 3)
 (.opt (lB yA 137 (.ptr ak 0) (.int .i64 0)) fun a23=>.light (fun m=>mA yA 5 ⟨0,m⟩ a23) fun a24=>.asI .u8 a24 fun n25=>.jump 59 [(.bool (lA n25 4)),(.int .u8 n11)])
 (.ite (lA (op:Int) 21)
 (.opt (rC (.ptr b 0)) fun a26=>.opt (sB yA 104 1 a26) fun a27=>.light (fun m=>mA yA 100 ⟨0,m⟩ a27) fun a28=>.light (fun m=>yI yA 100 ⟨0,m⟩ a28 (.agg [(.int .u8 (op:Int)),(.int .u8 n16),(.int .u8 n19),(.int .u8 n22)]) true) fun a29=>.opt (rB 0 a29) fun a30=>.asI .u8 a30 fun n31=>.opt (rB 1 a29) fun a32=>.asB a32 fun b33=>.ite b33
 (.jump 59 [(.bool (lA n11 2)),(.int .u8 n31)])
 (.jump 59 [(.bool false),(.int .u8 n31)]))
 (.ite (lA (op:Int) 22)
 (.opt (rC (.ptr b 0)) fun a34=>.opt (sB yA 104 1 a34) fun a35=>.light (fun m=>mA yA 100 ⟨0,m⟩ a35) fun a36=>.light (fun m=>yI yA 100 ⟨0,m⟩ a36 (.agg [(.int .u8 (op:Int)),(.int .u8 n16),(.int .u8 n19),(.int .u8 n22)]) true) fun a37=>.opt (rB 0 a37) fun a38=>.asI .u8 a38 fun n39=>.opt (rB 1 a37) fun a40=>.asB a40 fun b41=>.ite b41
 (.jump 59 [(.bool (lA n11 3)),(.int .u8 n39)])
 (.jump 59 [(.bool false),(.int .u8 n39)]))
 (.opt (rC (.ptr b 0)) fun a42=>.opt (sB yA 104 1 a42) fun a43=>.light (fun m=>mA yA 100 ⟨0,m⟩ a43) fun a44=>.light (fun m=>yI yA 100 ⟨0,m⟩ a44 (.agg [(.int .u8 (op:Int)),(.int .u8 n16),(.int .u8 n19),(.int .u8 n22)]) true) fun a45=>.opt (rB 0 a45) fun a46=>.asI .u8 a46 fun n47=>.opt (rB 1 a45) fun a48=>.asB a48 fun b49=>.jump 59 [(.bool b49),(.int .u8 n47)]))))
 (.ite (lA (op:Int) 5)
 (.opt (lB yA 137 (.ptr ak 0) (.int .i64 0)) fun a50=>.light (fun m=>mA yA 5 ⟨0,m⟩ a50) fun a51=>.asI .u8 a51 fun n52=>.jump 59 [(.bool (lA n52 4)),(.int .u8 n11)])
 (.ite (lA (op:Int) 21)
 (.opt (rC (.ptr b 0)) fun a53=>.opt (sB yA 104 1 a53) fun a54=>.light (fun m=>mA yA 100 ⟨0,m⟩ a54) fun a55=>.light (fun m=>yI yA 100 ⟨0,m⟩ a55 (.agg [(.int .u8 (op:Int)),(.int .u8 n16),(.int .u8 n19),(.int .u8 n22)]) true) fun a56=>.opt (rB 0 a56) fun a57=>.asI .u8 a57 fun n58=>.opt (rB 1 a56) fun a59=>.asB a59 fun b60=>.ite b60
 (.jump 59 [(.bool (lA n11 2)),(.int .u8 n58)])
 (.jump 59 [(.bool false),(.int .u8 n58)]))
 (.ite (lA (op:Int) 22)
 (.opt (rC (.ptr b 0)) fun a61=>.opt (sB yA 104 1 a61) fun a62=>.light (fun m=>mA yA 100 ⟨0,m⟩ a62) fun a63=>.light (fun m=>yI yA 100 ⟨0,m⟩ a63 (.agg [(.int .u8 (op:Int)),(.int .u8 n16),(.int .u8 n19),(.int .u8 n22)]) true) fun a64=>.opt (rB 0 a64) fun a65=>.asI .u8 a65 fun n66=>.opt (rB 1 a64) fun a67=>.asB a67 fun b68=>.ite b68
 (.jump 59 [(.bool (lA n11 3)),(.int .u8 n66)])
 (.jump 59 [(.bool false),(.int .u8 n66)]))
 (.opt (rC (.ptr b 0)) fun a69=>.opt (sB yA 104 1 a69) fun a70=>.light (fun m=>mA yA 100 ⟨0,m⟩ a70) fun a71=>.light (fun m=>yI yA 100 ⟨0,m⟩ a71 (.agg [(.int .u8 (op:Int)),(.int .u8 n16),(.int .u8 n19),(.int .u8 n22)]) true) fun a72=>.opt (rB 0 a72) fun a73=>.asI .u8 a73 fun n74=>.opt (rB 1 a72) fun a75=>.asB a75 fun b76=>.jump 59 [(.bool b76),(.int .u8 n74)])))))) .fail) .fail)) t (fun x t'=>x=kdV (opK p op name v.kind n ks)/\dA t0 t'):=by
 refine dC ?_
 rw[q66,z3s hC hp hd,tA];unfold opK;generalize sO p op name n=r
 obtain⟨nm,ok⟩:=r
 refine iA rfl (pC (iA rfl (aG ?_)))
 cases ok with
 | false=>exact uB rfl ⟨rfl,hle⟩
 | true=>
  refine yC (by simp) ?_
  rw[yaa (by simp)]
  have i0:=zru (b:=ak) (i:=0) (by omega)
  have i1:=zru (b:=ak) (i:=1) (by omega)
  have i2:=zru (b:=ak) (i:=2) (by omega)
  have l0:mA yA 5 ⟨0,t⟩ (.ptr ak 0)=some (.int .u8 (ks.getD 0 0:Nat)):=hk.load1 ty5 rfl (zzj (by omega))
  have l1:mA yA 5 ⟨0,t⟩ (.ptr ak 1)=some (.int .u8 (ks.getD 1 0:Nat)):=hk.load1 ty5 rfl (zzj (by omega))
  have l2:mA yA 5 ⟨0,t⟩ (.ptr ak 2)=some (.int .u8 (ks.getD 2 0:Nat)):=hk.load1 ty5 rfl (zzj (by omega))
  refine iA i0 (cC l0 (pC (iA i1 (cC l1 (pC (iA i2 (cC l2 (pC (uB rfl (uB rfl ?_))))))))))
  by_cases h1:op=1
  ·rw[yab h1];exact uB (yEq (by omega)) ⟨rfl,hle⟩
  rw[yaa h1];refine yC (zG (by omega)) ?_
  have hlk:=z86 hm op (ks.getD 0 0) (ks.getD 1 0) (ks.getD 2 0)
  unfold fitK;have eq4:∀ {x j:Nat},lA (x:Int) (j:Int)=decide (x=j):=by intro x j;rw[sN];congr 1;exact propext (by omega)
  have aE:∀ {x j k:Nat},jp 44 59 [.bool (lA (x:Int) (j:Int)),.int .u8 (k:Int)] t (fun v t'=>v=kdV (if x=j then(k,0)else(0,142))/\dA t0 t'):=by
   intro x j k;rw[eq4];have:=z0p (r:=decide (x=j)) (k:=k) hle
   simpa using this
  by_cases h3:op=3
  ·rw[yab (.inl h3)]
   refine uB (yEq (by omega)) (uB (yEq (by omega)) (iA i0 (cC l0 (pC (dE ?_)))))
   exact aE (j:=4)
  refine yC (zG (by omega)) ?_
  by_cases h5:op=5
  ·rw[yab (.inr h5)]
   refine uB (yEq (by omega)) (iA i0 (cC l0 (pC (dE ?_))))
   exact aE (j:=4)
  rw[yaa (by omega)]
  refine yC (zG (by omega)) ?_
  by_cases h21:op=21
  ·refine uB (yEq (by omega)) (iA bE (iA zos (cC hC.map (cC hlk ?_))))
   cases hL:ztu op (ks.getD 0 0) (ks.getD 1 0) (ks.getD 2 0)with
   | some k=>
    refine iA rfl (pC (iA rfl (aG (uB rfl (dE ?_)))))
    simp only[yab h21];exact aE (j:=2)
   | none=>
    refine iA rfl (pC (iA rfl (aG (yC (by simp) (dE ?_)))))
    exact z0p (r:=false) (k:=0) hle
  refine yC (zG (by omega)) ?_
  by_cases h22:op=22
  ·refine uB (yEq (by omega)) (iA bE (iA zos (cC hC.map (cC hlk ?_))))
   cases hL:ztu op (ks.getD 0 0) (ks.getD 1 0) (ks.getD 2 0)with
   | some k=>
    refine iA rfl (pC (iA rfl (aG (uB rfl (dE ?_)))))
    simp only[yaa h21,yab h22];exact aE (j:=3)
   | none=>
    refine iA rfl (pC (iA rfl (aG (yC (by simp) (dE ?_)))))
    exact z0p (r:=false) (k:=0) hle
  refine yC (zG (by omega)) (iA bE (iA zos (cC hC.map (cC hlk ?_))))
  cases hL:ztu op (ks.getD 0 0) (ks.getD 1 0) (ks.getD 2 0)with
  | some k=>
   refine iA rfl (pC (iA rfl (aG (dE ?_))))
   simp only[yaa h21,yaa h22];exact z0p (r:=true) (k:=k) hle
  | none=>
   refine iA rfl (pC (iA rfl (aG (dE ?_))))
   exact z0p (r:=false) (k:=0) hle
def zx3{op:Nat}{name:List Nat}{v:sF}{args:List qA}{a c d:zA}{ak dd:Nat}{t0:Tr rA}(hp:p.fit)(hall:∀y∈args,POk p b m y)(hP:∀y∈args,gD y dd=true)(hfits:∀y∈args,y.fit)(hlen:args.length<=3)
  (hC:kM t0 b m p) (hm:t0.get m=some (.map (sD 64))) (hr:jA t0 9 (args.map qA.d) d) (hak:t0.get ak=none) (hbase:yA.base<=ak):∀(l:List qA) (i:Nat) (ks:List Nat) (t:Tr rA),args.drop i=l->i<=args.length->ks.length=i->dA t0 t->jD t ak none (kC ks) →
  jp 44 2 [.ptr b 0,.ptr ak 0,d,.int .i64 (args.length:Int),.int .i64 (i:Int),.int .u8 (op:Int),.str name,.int .u8 (v.kind:Int),.bool v.f.n.neg,a,.bool v.f.d.neg,c,.int .i64 v.i,d] t (fun x t'=>x=kdV (z9d p op name v.kind args.length ks (wI p l))/\dA t0 t'):=by
 intro l;induction l with
 | nil=>
  intro i ks t hl hi hk hle hc;have hi2:=yak.1 hl
  refine j44_2 _ _ _ _ _ _ _ _ _ _ _ _ _ _ ?_
  unfold z8d;refine yC (nLt (by omega)) ?_
  have:=z3g (op:=op) (name:=name) (v:=v) (n:=args.length) (a:=a) (c:=c) (d:=d) hp (hC.mono hle) (hle _ _ hm) (by rw[hr.len,ybf]) hc hle
  unfold wI;show wp 44 _ t (fun x t'=>x=kdV (opK p op name v.kind args.length (ks++[]))/\dA t0 t')
  rw[ycd];exact this
 | cons x l ih=>
  intro i ks t hl hi hk hle hc;obtain⟨h1,h2,h3⟩:=oY hl
  have hm':x∈args:=ycv h1
  refine j44_2 _ _ _ _ _ _ _ _ _ _ _ _ _ _ ?_
  unfold z8d;obtain⟨pb,po,cs,g1,g2,g3,g4,g5⟩:=yF.at z19 (by simp) (hr.mono hle) (i:=i) (d:=x.d) (by simp[h1])
  refine uB (yLt (by omega)) (iA g1 (cC g2 ?_))
  rw[oP];refine uH (dH g5 x.zs) ?_
  have hmk:=g5.mk x.zs
  have hcs:[zA.int .u8 ((cellsOf cs).i 0),.str ((cellsOf cs).s 1),.int .u8 ((cellsOf cs).i 2),.bool ((cellsOf cs).b 3),(cellsOf cs).v 4,.bool ((cellsOf cs).b 5),(cellsOf cs).v 6,.int .i64 ((cellsOf cs).i 7),(cellsOf cs).v 8]=cs:=hmk
  rw[hcs];refine uB g5.all (dC ?_)
  rw[q44,hall x hm' dd t cs (hP x hm') (hfits x hm') (hC.mono hle) (hle _ _ hm) g5,tA]
  refine iA rfl (pC (iA rfl (pC ?_)))
  unfold wI;by_cases he:(gF p x).2=0
  ·rw[yaa (by simpa using he)]
   refine yC (by rw[yEq (by omega)];simp) (iA (zru (by omega)) (kH fun n _ _=>?_))
   obtain⟨t',e1,e2,e3⟩:=hc.store1 (v:=.int .u8 ((gF p x).1:Nat)) hbase ty5 rfl rfl rfl (j:=i) (by show i<3;omega)
   refine⟨_,_,e1 n,dE ?_⟩
   rw[wrap_i64 (by omega) (by omega),show(i:Int)+1=((i+1:Nat):Int) by omega]
   rw[<- hk,kC_set (by omega)]at e2
   have hle':dA t0 t':=hle.off hak e3
   have:=ih (i+1) (ks++[(gF p x).1]) t' h2 (by omega) (by simp;omega) hle' e2
   refine Jq.mono this fun v' t2 hh=>⟨?_,hh.2⟩
   rw[hh.1]
   cases wI p l with
   | inl e=>rfl
   | inr ks'=>simp[z9d]
  ·rw[yab he]
   refine uB ?_ ⟨rfl,hle⟩
   cases hq:lA ((gF p x).2:Int) 0 with
   | true=>exact absurd (gH.1 hq) (by omega)
   | false=>rfl
mutual
def zx2(hp:p.fit):∀(x:qA),POk p b m x
 | .mk op name v args=>by
  have hall:=zqx hp args
  intro dd t cs hP hfit hC hm hr;have hP0:=hP
  obtain⟨h1,h2⟩:=z5p hP
  have hone:=zsh hP
  simp only[qA.args,qA.op]at h1 h2 hone;obtain⟨a,c,d,rfl,ha,hc,hd⟩:=xI hr
  simp only[qA.op,qA.name,qA.v,qA.args]at ha hc hd ⊢
  have hfit':=hfit
  unfold qA.fit at hfit';have hfits:=qA.fits_mem hfit'.2.2.2.2.2
  have hPs:∀y∈args,gD y (dd+1)=true:=by
   rcases h2 with e | h
   ·rw[hone e];intro y hy;cases hy
   ·exact h
  refine jN (w44 _ _ _ _ _ _ _ _ _ _ ?_)
  unfold t44;refine kH fun ak hak hbase=>?_
  obtain⟨t1,e1,e2,e3,e4⟩:=rU (C:=yA) ty137 hak
  have hlen:=hd.len
  rw[ybf]at hlen;refine⟨_,_,e1,iA hlen (pC (dE ?_))⟩
  have:=zx3 (op:=op) (name:=name) (v:=v) (a:=a) (c:=c) hp hall hPs hfits h1 hC hm hd hak hbase args 0 [] t1 rfl (by omega) rfl e3 e2
  unfold gF;exact this
def zqx(hp:p.fit):∀(l:List qA),∀y∈l,POk p b m y
 | [],_,h=>by cases h
 | x::l,y,h=>by
  rcases ybs.1 h with e | h
  ·rw[e];exact zx2 hp x
  ·exact zqx hp l y h
end
end
def rH(p:rE)(x:qA):Nat × Nat:=if gD x 1=true then gF p x else(0,140)
def zig{p:rE}{x:qA}{cp cs:List zA}(hp:p.fit)(hfit:x.fit)(hM:eJ t)(hW:pN t)(hrp:RD t p.d cp)(hr:RD t x.d cs):xC yA F 11 [.agg cp,.agg cs] t=some (kdV (rH p x)):=by
 have hrp0:=hrp
 have hr0:=hr
 obtain⟨u1,u2,u3,rfl,_⟩:=fR hrp
 obtain⟨a,c,d,rfl,_⟩:=xI hr
 refine jN (w11 _ _ _ _ _ _ _ _ _ _ _ _ _ ?_)
 unfold t11;refine dC ?_
 rw[q28];refine zdo hrp0 fun b m t1 h1 h2 h3=>uB hr0.sameA (dC ?_)
 have hk:xC yA F 29 [.ptr b 0,.agg [.int .u8 x.op,.str x.name,.int .u8 x.v.kind,.bool x.v.f.n.neg,a,.bool x.v.f.d.neg,c,.int .i64 x.v.i,d]] t1=some (kdV (rH p x)):=by
  refine jN (w29 _ _ _ _ _ _ _ _ _ _ ?_)
  unfold t29;refine dC ?_
  rw[q43];refine z41 hfit (hM.mono h1) (hW.mono h1) (hr0.mono h1) fun t2 s e h4 h5=>?_
  refine iA rfl (pJ (iA rfl (pC ?_)))
  unfold rH
  cases hP:gD x 1 with
  | false=>
   rw[hP,yaa (by simp)]at h5
   exact uB (yEq h5.2) ⟨rfl,h4⟩
  | true=>
   rw[hP,yab rfl]at h5;refine yC (zG (by omega)) (dC ?_)
   rw[q44,zx2 hp x 1 t2 _ hP hfit (h2.mono h4) (h4 _ _ h3) ((hr0.mono h1).mono h4),tA]
   exact iA rfl (pC (iA rfl (pC ⟨rfl,h4⟩)))
 rw[q29,hk,tA];exact iA rfl (pC (iA rfl (pC ⟨rfl,h1⟩)))
end
section
variable [sC]
variable {t tf:Tr rA}
abbrev z10h:List zA:=[(.int .u8 0),(.str []),(.int .u8 0),(.bool false),.nilslice,(.bool false),.nilslice,(.int .i64 0),.nilslice,(.int .u8 0)]
section
variable {p:rE}{b m:Nat}
end
end
section
variable [sC]
variable {t:Tr rA}
def pv36{f:qE}{u v:zA}(h1:jA t 1 (fD f.n.limbs) u)(h2:jA t 1 (fD f.d.limbs) v)(hf:f.ok):xC yA F 32 [.agg [.bool f.n.neg,u,.bool f.d.neg,v]] t=some (.int .i64 (uL f:Nat)):=by
 have hs:=yW hf
 refine bC.2 (w32 _ _ _ _ ?_)
 unfold uL at hs ⊢
 simp (disch:=omega) only[t32,pA,h1.len,h2.len,tA,qB,oV,wrap_i64]
 simp
mutual
def pv37:∀(x:qA) (left:Int) (cs:List zA),x.ok -> -9007199254740992<=left->left<=9007199254740992->RD t x.d cs->xC yA F 22 [.agg cs,.int .i64 left] t=some (.int .i64 (zJ x left))
 | .mk op name v args,left,cs,hx,hl1,hl2,h=>by
  obtain⟨a,b,c,rfl,ha,hb,hc⟩:=xI h
  simp only[qA.op,qA.name,qA.v,qA.args]at ha hb hc ⊢
  have hx':=hx
  unfold qA.ok at hx';have hf:=yW hx'.2.1
  have hn:=hx'.1
  unfold lD at hn;refine bC.2 (w22 _ _ _ _ _ _ _ _ _ _ ?_)
  simp (disch:=omega) only[t22,pA,q32,pv36 ha hb hx'.2.1,tA,qB,zhv,wW,if_true,oL,wrap_i64,Int.tdiv_eq_ediv_of_nonneg]
  unfold zJ;exact z6t args args left _ op name v _ _ c 0 hc rfl hx'.2.2.2 hx'.2.2.1 (by omega) hl1 hl2 (by omega)
def z6t:∀(l args:List qA) (left n:Int) (op:Nat) (name:List Nat) (v:sF) (a b c:zA) (i:Nat),jA t 9 (args.map qA.d) c->args.drop i=l->qA.oks l->args.length<lD->0<=n -> -9007199254740992<=left->left<=9007199254740992->n<=27021597764222976 →
  jp 22 2 [.int .i64 left,.int .i64 n,.int .i64 i,.int .u8 op,.str name,.int .u8 v.kind,.bool v.f.n.neg,a,.bool v.f.d.neg,b,.int .i64 v.i,c] t (fun v' t'=>v'=.int .i64 (kN l left n)/\t'=t)
 | [],args,left,n,op,name,v,a,b,c,i,hc,hd,hok,hsz,hn,hl1,hl2,hn2=>by
  have:=zem hd
  refine j22_2 _ _ _ _ _ _ _ _ _ _ _ _ ?_
  simp only[z8e,pA,hc.len,tA,qB,ybf,zD];rw[yaa (by omega)]
  unfold kN;simp
 | x::l,args,left,n,op,name,v,a,b,c,i,hc,hd,hok,hsz,hn,hl1,hl2,hn2=>by
  obtain⟨h1,h2,h3⟩:=oY hd
  unfold lD at hsz;have hok':=hok
  unfold qA.oks at hok';refine j22_2 _ _ _ _ _ _ _ _ _ _ _ _ ?_
  obtain⟨pb,po,cs,g1,g2,g3,g4,g5⟩:=yF.at z19 (by simp) hc (i:=i) (d:=x.d) (by simp[h1])
  simp only[z8e,pA,hc.len,tA,qB,ybf,zD,yG,g1,g2,oP];rw[yab (by omega)]
  unfold kN;split
  ·rename_i hle
   obtain⟨a1,b1,c1,rfl,ha1,hb1,hc1⟩:=xI g5
   have hs:=oX x (left-n) hok'.1
   rw[dH g5 x.zs];simp only[tA,cellsOf,zzt,z2u,wR,zji];simp (disch:=omega) only[q22,yaz,yba,wrap_i64]
   rw[pv37 x (left-n) _ hok'.1 (by omega) (by omega) g5]
   simp (disch:=omega) only[tA,qB,wrap_i64]
   have:=z6t l args left (n+zJ x (left-n)) op name v a b c (i+1) hc h2 hok'.2 hsz (by omega) hl1 hl2 (by omega)
   rw[show((i:Int)+1)=((i+1:Nat):Int) by omega]
   exact this
  ·simp
end
end
section
variable [sC]
variable {t tf:Tr rA}
def el34:zpr yA 34 36 9:=⟨⟨_,ty34,rfl,rfl⟩,⟨_,z2i,rfl,rfl,by decide,by decide⟩,fun y h=>by rw[z2i]at h;cases h;rfl⟩
end
end Go.Proofs
namespace Go.Am
open Go Go.RowKit
def zh6{α:Type}(f:Nat->Option α):Nat->Tr α
 | 0=>.leaf
 | n+1=>match f n with
  | some v=>(zh6 f n).set n v
  | none=>zh6 f n
def dO{α:Type}(f:Nat->Option α):∀(n a:Nat),(zh6 f n).get a=if a<n then f a else none:=by
 intro n;induction n with
 | zero=>intro a;rw[yaa (by omega)];exact Tr.get_leaf _
 | succ n ih=>
  intro a;unfold zh6
  cases hf:f n with
  | some v=>
   simp only[];rw[Tr.get_set,ih];by_cases h:a=n
   ·subst h;rw[yab rfl,yab (by omega),hf]
   ·rw[yaa h]
    by_cases h2:a<n
    ·rw[yab h2,yab (by omega)]
    ·rw[yaa h2,yaa (by omega)]
  | none=>
   simp only[];rw[ih];by_cases h:a=n
   ·subst h;rw[yaa (by omega),yab (by omega),hf]
   ·by_cases h2:a<n
    ·rw[yab h2,yab (by omega)]
    ·rw[yaa h2,yaa (by omega)]
def zu3 (N:Nat):Value->Option zA
 | .bool b=>some (.bool b)
 | .int k n=>some (.int k n)
 | .string s=>some (.str (vE s))
 | .slice none 0 0=>some .nilslice
 | .slice (some _) 0 0=>some (.slice 0 0 0 0)
 | .slice (some ⟨b,off,none⟩) len cap=>if b<N then some (.slice (256+b) off len cap)else none
 | _=>none
def absB (N:Nat):Obj->Option rA
 | .cells cs _ _=>some (.cells (zh6 (fun j=>(cs[j]?).bind (zu3 N)) cs.size) cs.size none)
 | _=>none
def pG (w:World):Tr rA:=zh6 (fun a=>if a<256 then(w.heap[a]?).bind (absB w.heap.size)else(w.heap[a-256]?).bind (absB w.heap.size)) (256+w.heap.size)
def muW (w:World):Mu:=⟨fun a=>if a<256 then some ⟨a,true,0,0,true⟩else if a<256+w.heap.size then some ⟨a-256,true,0,0,true⟩else none,fun _=>none⟩
section
variable {w:World}
def zi6{v:Value}{a:zA}(h:zu3 w.heap.size v=some a):vA (muW w) a v:=by
 unfold zu3 at h;split at h
 ·cases h;rw[vA]
 ·cases h;rw[vA]
 ·cases h;rw[vA];exact⟨_,rfl,rfl⟩
 ·cases h;rw[vA]
 ·cases h;rw[vA];exact .inr ⟨rfl,rfl,rfl,_,_,rfl,.inl ⟨rfl,rfl⟩⟩
 ·split at h
  ·rename_i hb
   cases h;rename_i b off len cap _;rw[vA];refine .inl ⟨⟨b,true,0,0,true⟩,cap,?_,rfl,ybk _,fun _=>rfl,fun h=>by cases h⟩
   show(if 256+b<256 then some (⟨256+b,true,0,0,true⟩:BI)else if 256+b<256+w.heap.size then some ⟨256+b-256,true,0,0,true⟩else none)=_
   rw[yaa (by omega),yab (by omega),show 256+b-256=b by omega]
  ·cases h
 ·cases h
def zsl{o:Obj}{x:rA}(h:absB w.heap.size o=some x)(b:Nat):vH (muW w) ⟨b,true,0,0,true⟩ x o/\x.asLoop=none/\x.asDeferred=none:=by
 cases o<;>first | (cases h;done) | skip
 rename_i cs elem fr
 cases h;refine⟨⟨cs,elem,fr,rfl,ybk _,.inl rfl,fun j v hv=>?_,rfl⟩,rfl,rfl⟩
 rw[dO]at hv;split at hv
 case isFalse=>cases hv
 rename_i hj
 cases hc:cs[j]? with
 | none=>rw[hc]at hv;cases hv
 | some u=>
  rw[hc]at hv;exact⟨hj,u,rfl,zi6 hv⟩
def hrelW:zB (256+w.heap.size) w.heap.size (muW w) ⟨256+w.heap.size,pG w⟩ w:=by
 have hget:∀a x,(pG w).get a=some x->∃b o,b<w.heap.size/\w.heap[b]?=some o/\absB w.heap.size o=some x/\a<256+w.heap.size/\b=(if a<256 then a else a-256):=by
  intro a x hx;unfold pG at hx;rw[dO]at hx;split at hx
  case isFalse=>cases hx
  rename_i hlt;split at hx
  ·rename_i h
   cases ho:w.heap[a]? with
   | none=>rw[ho]at hx;cases hx
   | some o=>rw[ho]at hx;exact⟨a,o,(ybe.1 ho).1,ho,hx,hlt,by rw[yab h]⟩
  ·rename_i h
   cases ho:w.heap[a-256]? with
   | none=>rw[ho]at hx;cases hx
   | some o=>rw[ho]at hx;exact⟨a-256,o,(ybe.1 ho).1,ho,hx,hlt,by rw[yaa h]⟩
 have hmu:∀a,(muW w) a=if a<256 then some ⟨a,true,0,0,true⟩else if a<256+w.heap.size then some ⟨a-256,true,0,0,true⟩else none:=fun _=>rfl
 have big:∀a,256+w.heap.size<=a->(muW w) a=none:=fun a h=>by rw[hmu,yaa (by omega),yaa (by omega)]
 have same:∀a x i,(pG w).get a=some x->(muW w) a=some i->∃o,w.heap[i.b]?=some o/\i.b<w.heap.size/\absB w.heap.size o=some x/\i=⟨i.b,true,0,0,true⟩:=by
  intro a x i hx hi;obtain⟨b,o,h1,h2,h3,h4,h5⟩:=hget a x hx
  rw[hmu]at hi;split at hi
  ·rename_i h
   cases hi;rw[yab h]at h5;subst h5;exact⟨o,h2,h1,h3,rfl⟩
  ·rename_i h
   rw[yaa h]at h5;have hi:=yci hi
   have hb:i.b=b:=by rw[<- hi,h5]
   refine⟨o,by rw[hb];exact h2,by rw[hb];exact h1,h3,by rw[<- hi]⟩
 refine⟨by omega,fun g hg=>by rw[hmu,yab hg],fun a x i _ hx hi=>?_,ybk _,ybk _,fun a ha=>⟨big a ha,?_⟩,fun a x i hx hi=>?_,fun a i ha hi=>?_,fun a b x y i j hx _ hi _ ha _ _=>?_,fun a x t h=>by cases h⟩
 ·obtain⟨o,_,h2,h3,_⟩:=same a x i hx hi
  exact⟨h2,(zsl h3 0).2⟩
 ·show(pG w).get a=none
  unfold pG;have ha:256+w.heap.size<=a:=ha
  rw[dO,yaa (by omega)]
 ·obtain⟨o,h1,_,h3,h4⟩:=same a x i hx hi
  exact⟨o,h1,by rw[h4];exact(zsl h3 _).1⟩
 ·rw[big a ha]at hi;cases hi
 ·rw[big a ha]at hi;cases hi
end
end Go.Am
namespace Go.Am
open Go Go.RowKit
def eF(P:Program):Nat->TypeId->D->Prop
 | 0,_,_=>False
 | f+1,t,x=>match P.underlying t with
  | some .bool=>∃b,x=.bool b
  | some (.int k)=>∃n,x=.int k n/\(Lit.int k n).wf=true
  | some .string=>∃l:List Nat,x=.str l/\l.length<=reachBytes/\∀c∈l,c<256
  | some (.slice e)=>∃l:List D,x=.sl (P.cellsOf e) l/\l.length*P.bytesOf e<=reachBytes/\∀y∈l,eF P f e y
  | some (.struct fs)=>∃l:List D,x=.st l/\oC (fun fd y=>eF P f fd.type y) fs.toList l
  | _=>False
def zs4(P:Program):Nat->List Field->Nat->Bool
 | off,[],n=>off == n
 | off,f::fs,n=>f.offset == off&&zs4 P (off+P.cellsOf f.type) fs n
structure zzaq (P:Program) (S:TypeId->Prop):Prop where
 part:∀t,S t->match P.underlying t with
  | some .bool=>True
  | some (.int _)=>True
  | some .string=>True
  | some (.slice e)=>S e/\0<P.cellsOf e
  | some (.struct fs)=>(∀f∈fs.toList,S f.type)/\zs4 P 0 fs.toList (P.cellsOf t)=true
  | _=>False
def av (N:Nat)(v:Value):zA:=(zu3 N v).getD .nilptr
def Has (N:Nat)(cs:List Value):Prop:=∀v∈cs,zu3 N v=some (av N v)
def zeq{α:Type}{Q:Nat->α->Prop}:∀(n:Nat),(∀i,i<n->∃p,Q i p)->∃l:List α,l.length=n/\∀i p,l[i]?=some p->Q i p:=by
 intro n;induction n with
 | zero=>intro _;exact⟨[],rfl,fun i p h=>by simp at h⟩
 | succ n ih=>
  intro h;obtain⟨l,hl,hq⟩:=ih fun i hi=>h i (by omega)
  obtain⟨p,hp⟩:=h n (by omega)
  refine⟨l++[p],by simp[hl],fun i q hq'=>?_⟩
  by_cases hi:i<n
  ·rw[yco (by omega)]at hq';exact hq i q hq'
  ·rw[ybp (by omega)]at hq'
   have:i-l.length=0:=by
    cases hz:i-l.length with
    | zero=>rfl
    | succ m=>rw[hz]at hq';simp at hq'
   rw[this]at hq'
   simp at hq'
   subst hq'
   have:i=n:=by omega
   subst this;exact hp
section
variable {H:Type}{enc:TypeId × Value->H}{P:Program}{w:World}
def iZ{p:Nat->Bool}:∀ {ts:List TypeId} {ds:List (DataW H)},(DataW.weightsEach P ts ds).all p=true->∀ {i:Nat} {t:TypeId} {d:DataW H},ts[i]?=some t->ds[i]?=some d->(DataW.weights P t d).all p=true
 | [],_,_,i,_,_,h1,_=>by simp at h1
 | _::_,[],_,i,_,_,_,h2=>by simp at h2
 | t::ts,d::ds,h,i,u,e,h1,h2=>by
  rw[DataW.weightsEach,ydi,ybb]at h
  cases i with
  | zero=>simp at h1 h2;subst h1 h2;exact h.1
  | succ i=>exact iZ h.2 (by simpa using h1) (by simpa using h2)
def zZ{p:Nat->Bool}{e:TypeId}:∀ {ds:List (DataW H)},(DataW.weightsAll P e ds).all p=true->∀ {i:Nat} {d:DataW H},ds[i]?=some d->(DataW.weights P e d).all p=true
 | [],_,i,_,h2=>by simp at h2
 | d::ds,h,i,x,h2=>by
  rw[DataW.weightsAll,ydi,ybb]at h
  cases i with
  | zero=>simp at h2;subst h2;exact h.1
  | succ i=>exact zZ h.2 (by simpa using h2)
def zsd{a:Addr}{n:Nat}{cs:List Value}(h:w.cells? 0 a n=some cs):cs.length=n/\(0<n->a.spot=none/\∃c t fr,w.heap[a.block]?=some (.cells c t fr)/\∀j,j<n->c[a.off+j]?=cs[j]?):=by
 unfold World.cells? at h
 rw[yab (yaw _)]at h
 have hl:=mapM_some_length h
 have hg:=mapM_some_get h
 simp only[List.length_range]at hl;refine⟨hl,fun hn=>?_⟩
 have key:∀j,j<n->w.cell? (a.add j)=cs[j]?:=fun j hj=>hg j j (by simp[hj])
 have h0:=key 0 hn
 have hs0:∃v,cs[0]?=some v:=⟨cs[0]'(by omega),ybd (by omega)⟩
 obtain⟨v0,hv0⟩:=hs0
 rw[hv0]at h0;have e0:a.add 0=a:=by simp[Addr.add]
 rw[e0]at h0;unfold World.cell? at h0
 cases hb:w.heap[a.block]? with
 | none=>rw[hb]at h0;cases h0
 | some o=>
  rw[hb]at h0
  cases o with
  | cells c t fr=>
   simp only[]at h0;split at h0
   ·cases h0
   ·rename_i hsp
    refine⟨by simpa using hsp,c,t,fr,rfl,fun j hj=>?_⟩
    have:=key j hj
    unfold World.cell? at this
    by_cases hj0:j=0
    ·subst hj0;rw[hv0,yct];exact h0
    ·have eb:(a.add j).block=a.block:=by unfold Addr.add;rw[yaa hj0]
     have eo:(a.add j).off=a.off+j:=by unfold Addr.add;rw[yaa hj0]
     have es:(a.add j).spot=none:=by unfold Addr.add;rw[yaa hj0]
     rw[eb,hb]at this;simp only[es,eo,Option.isSome_none,ybq,if_false]at this;exact this
  | _=>cases h0
def zsk{b:Nat}{c:Array Value}{t:TypeId}{fr:Nat × Nat}(h:w.heap[b]?=some (.cells c t fr)) :
  (pG w).get (256+b)=some (.cells (zh6 (fun j=>(c[j]?).bind (zu3 w.heap.size)) c.size) c.size none):=by
 have hb:=(ybe.1 h).1
 unfold pG;rw[dO,yab (by omega),yaa (by omega),show 256+b-256=b by omega,h]
 rfl
def at_old{b off n:Nat}{c:Array Value}{t:TypeId}{fr:Nat × Nat}{cs:List Value}(h:w.heap[b]?=some (.cells c t fr))(hl:cs.length=n)(hc:∀j,j<n->c[off+j]?=cs[j]?)(hs:Has w.heap.size cs) :
  At (pG w) (256+b) off (cs.map (av w.heap.size)):=by
 refine⟨_,_,_,zsk h,fun j a ha=>?_⟩
 rw[ybu]at ha
 cases hj:cs[j]? with
 | none=>rw[hj]at ha;cases ha
 | some v=>
  rw[hj]at ha;have hlt:j<n:=by rw[<- hl];exact(ybc.1 hj).1
  have h1:=hc j hlt
  rw[hj]at h1;have hsz:off+j<c.size:=(ybe.1 h1).1
  rw[dO,yab hsz,h1];have ha:av w.heap.size v=a:=by simpa using ha
  rw[<- ha];exact hs v (ycv hj)
def zcy{cs:List Value}:∀ {fs:List Field} {off:Nat},zs4 P off fs cs.length=true->(fs.map fun f=>(cs.drop f.offset).take (P.cellsOf f.type)).flatten=cs.drop off
 | [],off,h=>by simp[zs4]at h;subst h;simp
 | f::fs,off,h=>by
  rw[zs4,ybb]at h;obtain⟨h1,h2⟩:=h
  have h1:f.offset=off:=by simpa using h1
  rw[ycm,yas,zcy h2,h1,<- List.drop_drop,List.take_append_drop]
def z14{α β:Type}{R:α->β->Prop}:∀ {l:List α} {m:List β},m.length=l.length->(∀(i:Nat) a b,l[i]?=some a->m[i]?=some b->R a b)->oC R l m
 | [],[],_,_=>.nil
 | [],_::_,h,_=>by simp at h
 | _::_,[],h,_=>by simp at h
 | a::l,b::m,h,k=>.cons (k 0 a b (by simp) (by simp)) (z14 (by simpa using h) fun i a b h1 h2=>k (i+1) a b (by simpa using h1) (by simpa using h2))
def znq{S:TypeId->Prop}(hP:zzaq P S)(h0:∃c n lo,(pG w).get 0=some (.cells c n lo)) :
  ∀(fuel:Nat) (t:TypeId) (cs:List Value) (x:DataW H × List MemPlace),S t->DataW.trod enc P w 0 (fun _=>true) true fuel t cs=some x->(DataW.weights P t x.1).all (· <= reachBytes)=true →
   Has w.heap.size cs/\∃d,RD (pG w) d (cs.map (av w.heap.size))/\eF P fuel t d:=by
 intro fuel;induction fuel with
 | zero=>intro t cs x _ h;simp[DataW.trod]at h
 | succ n ih=>
  intro t cs x hS h hw;have hp:=hP.part t hS
  have one:∀ {v:Value} {a:zA},zu3 w.heap.size v=some a->Has w.heap.size [v]/\av w.heap.size v=a:=by
   intro v a hv;have:av w.heap.size v=a:=by unfold av;rw[hv];rfl
   refine⟨fun u hu=>?_,this⟩
   simp at hu;subst hu;rw[hv,this]
  cases hu:P.underlying t with
  | none=>rw[hu]at hp;exact hp.elim
  | some dt=>
  cases dt with
  | bool=>
   obtain⟨b,rfl,rfl⟩:=DataW.trod_bool hu h
   obtain⟨h1,h2⟩:=one (v:=.bool b) (a:=.bool b) rfl
   exact⟨h1,.bool b,by rw[dS];simp[h2],by unfold eF;rw[hu];exact⟨b,rfl⟩⟩
  | int k=>
   obtain⟨m,rfl,rfl,hwf⟩:=DataW.trod_int hu h
   obtain⟨h1,h2⟩:=one (v:=.int k m) (a:=.int k m) rfl
   exact⟨h1,.int k m,by rw[tP];simp[h2],by unfold eF;rw[hu];exact⟨m,rfl,hwf⟩⟩
  | string=>
   obtain⟨s,rfl,rfl,_⟩:=DataW.trod_string hu h
   obtain⟨h1,h2⟩:=one (v:=.string s) (a:=.str (vE s)) rfl
   refine⟨h1,.str (vE s),by rw[zha];simp[h2],?_⟩
   unfold eF;rw[hu];simp only[DataW.weights,ycg,yck,Bool.and_true,decide_eq_true_eq]at hw;refine⟨_,rfl,by unfold vE;simpa using hw,fun c hc=>?_⟩
   unfold vE at hc;simp only[yaq]at hc;obtain⟨u,_,rfl⟩:=hc
   exact UInt8.toNat_lt u
  | slice e=>
   rw[hu]at hp;obtain⟨hSe,hpos⟩:=hp
   rcases DataW.trod_slice hu h with⟨rfl,rfl⟩ | ⟨a,len,cap,elems,rest,m,hm,rfl,rfl,_,hlc,_,hel,hE,hR,_⟩
   ·obtain⟨h1,h2⟩:=one (v:=.slice none 0 0) (a:=.nilslice) rfl
    refine⟨h1,.sl (P.cellsOf e) [],by rw[xK];exact⟨_,by simp[h2],[],.inl ⟨rfl,rfl⟩,by rw[jC]⟩,?_⟩
    unfold eF;rw[hu];exact⟨[],rfl,by simp,fun y hy=>by simp at hy⟩
   ·obtain rfl:n=m:=by omega
    simp only[DataW.weights,hu,ycg,ybb,ydi,decide_eq_true_eq,ybf]at hw;obtain⟨hsz,hwe,hwr⟩:=hw
    by_cases hcap:cap=0
    ·subst hcap
     obtain rfl:len=0:=by omega
     obtain⟨h1,h2⟩:=one (v:=.slice (some a) 0 0) (a:=.slice 0 0 0 0) (by cases a;rfl)
     refine⟨h1,.sl (P.cellsOf e) [],?_,?_⟩
     ·rw[xK,ycm,List.map_nil,h2]
      refine⟨_,rfl,[],.inr ⟨0,0,0,rfl,ybk _,?_,fun i cs hi=>by simp at hi⟩,by rw[jC]⟩
      obtain⟨c,k,lo,hc⟩:=h0
      have:=hc
      unfold pG at this;rw[dO]at this;split at this
      case isFalse=>cases this
      rw[yab (by omega)]at this
      cases ho:w.heap[0]? with
      | none=>rw[ho]at this;cases this
      | some o=>
       rw[ho]at this
       cases o with
       | cells c' t' fr'=>
        simp only[yai,absB]at this
        cases this
        exact⟨_,_,_,hc,.inl rfl⟩
       | _=>cases this
     ·unfold eF
      rw[hu];exact⟨[],rfl,by simp,fun y hy=>by simp at hy⟩
    ·have hr:=(hR rfl).1
     have hRr:=(hR rfl).2
     have hel1:∀i,i<len->∃p:List Value × D,w.cells? 0 (a.add (i*P.cellsOf e)) (P.cellsOf e)=some p.1/\Has w.heap.size p.1/\RD (pG w) p.2 (p.1.map (av w.heap.size))/\eF P n e p.2:=by
      intro i hi;have:=hE i hi
      obtain⟨y,hy⟩:∃y,elems[i]?=some y:=⟨elems[i]'(by omega),ybd (by omega)⟩
      rw[hy]at this;simp only[Option.bind_eq_some_iff]at this;obtain⟨c1,hc1,hy1⟩:=this
      obtain⟨g1,d,g2,g3⟩:=ih e c1 y hSe hy1 (zZ hwe (i:=i) (by simp[hy]))
      exact⟨(c1,d),hc1,g1,g2,g3⟩
     obtain⟨l,hl,hq⟩:=zeq len hel1
     have hfirst:∃c1,w.cells? 0 a (P.cellsOf e)=some c1:=by
      by_cases hlen:len=0
      ·have:=hRr 0 (by omega)
       obtain⟨y,hy⟩:∃y,rest[0]?=some y:=⟨rest[0]'(by omega),ybd (by omega)⟩
       rw[hy]at this;simp only[Option.bind_eq_some_iff]at this;obtain⟨c1,hc1,_⟩:=this
       exact⟨c1,by simpa[hlen,Addr.add]using hc1⟩
      ·obtain⟨p,hp,_⟩:=hel1 0 (by omega)
       exact⟨p.1,by simpa[Addr.add]using hp⟩
     obtain⟨c1,hc1⟩:=hfirst
     obtain⟨hspot,c,ct,fr,hblk,_⟩:=(zsd hc1).2 hpos
     have hb:a.block<w.heap.size:=(ybe.1 hblk).1
     have hav:zu3 w.heap.size (.slice (some a) len cap)=some (.slice (256+a.block) a.off len cap):=by
      obtain⟨bb,oo,ss⟩:=a
      simp only at hspot hb
      subst hspot
      cases cap with
      | zero=>exact absurd rfl hcap
      | succ cap=>unfold zu3;simp only[];rw[yab hb]
     obtain⟨h1,h2⟩:=one hav
     refine⟨h1,.sl (P.cellsOf e) (l.map (·.2)),?_,?_⟩
     ·rw[xK]
      refine⟨_,by rw[ycm,List.map_nil,h2],l.map (fun p=>p.1.map (av w.heap.size)),.inr ⟨256+a.block,a.off,cap,by rw[ybf,hl],by rw[ybf,hl];exact hlc,⟨_,_,_,zsk hblk,.inl rfl⟩,fun i cs hi=>?_⟩,?_⟩
      ·rw[ybu]at hi
       cases hli:l[i]? with
       | none=>rw[hli]at hi;cases hi
       | some p=>
        rw[hli]at hi;obtain rfl:p.1.map (av w.heap.size)=cs:=by simpa using hi
        obtain⟨k1,k2,k3,k4⟩:=hq i p hli
        obtain⟨m1,m2⟩:=zsd k1
        obtain⟨_,c',ct',fr',hb',hcc⟩:=m2 hpos
        have eb:(a.add (i*P.cellsOf e)).block=a.block:=by unfold Addr.add;split<;>rfl
        have eo:(a.add (i*P.cellsOf e)).off=a.off+i*P.cellsOf e:=by unfold Addr.add;split<;>simp_all
        rw[eb]at hb'
        rw[hblk]at hb'
        cases hb'
        rw[eo]at hcc;exact⟨by rw[ybf];exact m1,at_old hblk m1 hcc k2⟩
      ·refine jC.mk (by simp) fun i d cs' h1 h2=>?_
       rw[ybu]at h1 h2
       cases hli:l[i]? with
       | none=>rw[hli]at h1;cases h1
       | some p=>
        rw[hli]at h1 h2;obtain rfl:p.2=d:=by simpa using h1
        obtain rfl:p.1.map (av w.heap.size)=cs':=by simpa using h2
        exact(hq i p hli).2.2.1
     ·unfold eF
      rw[hu];refine⟨_,rfl,?_,fun y hy=>?_⟩
      ·rw[ybf,hl,<- hel]
       exact Nat.le_trans (ybi _ (Nat.le_add_right _ _)) hsz
      ·obtain⟨p,hp,rfl⟩:=yaq.1 hy
       obtain⟨i,hi⟩:=List.mem_iff_getElem?.1 hp
       exact(hq i p hi).2.2.2
  | struct fs=>
   rw[hu]at hp;obtain⟨hf,ht⟩:=hp
   obtain⟨xs,m,hm,rfl,hlen,hxs,hel⟩:=DataW.trod_struct hu h
   obtain rfl:n=m:=by omega
   simp only[DataW.weights,hu]at hw;have hel1:∀i,i<fs.toList.length->∃p:D,∀f,fs.toList[i]?=some f->Has w.heap.size ((cs.drop f.offset).take (P.cellsOf f.type))/\RD (pG w) p (((cs.drop f.offset).take (P.cellsOf f.type)).map (av w.heap.size))/\eF P n f.type p:=by
    intro i hi;have hi':i<fs.size:=by simpa using hi
    obtain⟨f,hfi⟩:∃f,fs.toList[i]?=some f:=⟨fs.toList[i],ybd hi⟩
    have:=hel i f (by simpa using hfi)
    obtain⟨y,hy⟩:∃y,xs[i]?=some y:=⟨xs[i]'(by omega),ybd (by omega)⟩
    rw[hy]at this;obtain⟨g1,d,g2,g3⟩:=ih f.type _ y (hf f (ycv hfi)) this (iZ hw (i:=i) (by rw[ybu,hfi];rfl) (by rw[ybu,hy];rfl))
    refine⟨d,fun f' hf'=>?_⟩
    rw[hfi]at hf'
    cases hf'
    exact⟨g1,g2,g3⟩
   obtain⟨l,hl,hq⟩:=zeq fs.toList.length hel1
   have hfl:=zcy (cs:=cs) (P:=P) (fs:=fs.toList) (off:=0) (by rw[hlen];exact ht)
   rw[ycr]at hfl;refine⟨fun v hv=>?_,.st l,?_,?_⟩
   ·rw[<- hfl]at hv
    obtain⟨part,hpart,hv⟩:=List.mem_flatten.1 hv
    obtain⟨f,hfm,rfl⟩:=yaq.1 hpart
    obtain⟨i,hi⟩:=List.mem_iff_getElem?.1 hfm
    have hi':i<fs.toList.length:=(ybc.1 hi).1
    exact(hq i (l[i]'(by omega)) (ybd (by omega)) f hi).1 v hv
   ·rw[sI]
    refine⟨fs.toList.map (fun f=>((cs.drop f.offset).take (P.cellsOf f.type)).map (av w.heap.size)),?_,jC.mk (by simp[hl]) fun i d cs' h1 h2=>?_⟩
    ·conv=>lhs;rw[<- hfl]
     rw[List.map_flatten,List.map_map];rfl
    ·rw[ybu]at h2
     cases hfi:fs.toList[i]? with
     | none=>rw[hfi]at h2;cases h2
     | some f=>
      rw[hfi]at h2;obtain rfl:=yci h2
      exact(hq i d h1 f hfi).2.1
   ·unfold eF
    rw[hu];exact⟨l,rfl,z14 hl fun i f d h1 h2=>(hq i d h2 f h1).2.2⟩
  | _=>rw[hu]at hp;exact hp.elim
end
end Go.Am
namespace Go.Am
open Go Go.RowKit
structure zsn (P:Program) where
 (b i u8 u16 s limbs whole frac val expr exprs row rows table tables dfn dfns clause clauses plan:TypeId)
 hb:P.underlying b=some .bool
 hi:P.underlying i=some (.int .i64)
 hu8:P.underlying u8=some (.int .u8)
 hu16:P.underlying u16=some (.int .u16)
 hs:P.underlying s=some .string
 hlimbs:P.underlying limbs=some (.slice u16)
 hexprs:P.underlying exprs=some (.slice expr)
 hrows:P.underlying rows=some (.slice row)
 htables:P.underlying tables=some (.slice table)
 hdfns:P.underlying dfns=some (.slice dfn)
 hclauses:P.underlying clauses=some (.slice clause)
 hwhole:∃fs,P.underlying whole=some (.struct fs)/\fs.toList.map (·.type)=[b,limbs]
 hfrac:∃fs,P.underlying frac=some (.struct fs)/\fs.toList.map (·.type)=[whole,whole]
 hval:∃fs,P.underlying val=some (.struct fs)/\fs.toList.map (·.type)=[u8,frac,i]
 hexpr:∃fs,P.underlying expr=some (.struct fs)/\fs.toList.map (·.type)=[u8,s,val,exprs]
 hrow:∃fs,P.underlying row=some (.struct fs)/\fs.toList.map (·.type)=[i,i,i,frac]
 htable:∃fs,P.underlying table=some (.struct fs)/\fs.toList.map (·.type)=[s,b,rows]
 hdfn:∃fs,P.underlying dfn=some (.struct fs)/\fs.toList.map (·.type)=[s,u8,b]
 hclause:∃fs,P.underlying clause=some (.struct fs)/\fs.toList.map (·.type)=[s,s,i,i,i,b,expr,expr]
 hplan:∃fs,P.underlying plan=some (.struct fs)/\fs.toList.map (·.type)=[s,dfns,tables,clauses]
 cu16:P.cellsOf u16=1
 cexpr:P.cellsOf expr=9
 crow:P.cellsOf row=7
 ctable:P.cellsOf table=3
 cdfn:P.cellsOf dfn=3
 cclause:P.cellsOf clause=24
 bytes:1<=P.bytesOf u16/\1<=P.bytesOf expr/\1<=P.bytesOf row/\1<=P.bytesOf table/\1<=P.bytesOf dfn/\1<=P.bytesOf clause
section
variable {P:Program}{f:Nat}{t:TypeId}{x:D}
def dV(h:eF P f t x):∃g,f=g+1:=by
 cases f with
 | zero=>exact h.elim
 | succ g=>exact⟨g,rfl⟩
def rX(ht:P.underlying t=some .bool)(h:eF P f t x):∃b,x=.bool b:=by
 obtain⟨g,rfl⟩:=dV h
 unfold eF at h;rw[ht]at h;exact h
def zcw{k:IntKind}(ht:P.underlying t=some (.int k))(h:eF P f t x):∃n,x=.int k n/\(Lit.int k n).wf=true:=by
 obtain⟨g,rfl⟩:=dV h
 unfold eF at h;rw[ht]at h;exact h
def vT(ht:P.underlying t=some (.int .i64))(h:eF P f t x):∃n,x=.int .i64 n/\i64 n:=by
 obtain⟨n,rfl,hn⟩:=zcw ht h
 simp only[Lit.wf,ybb,decide_eq_true_eq]at hn;have h1:IntKind.i64.min = -9223372036854775808:=rfl
 have h2:IntKind.i64.max=9223372036854775807:=rfl
 rw[h1,h2]at hn;exact⟨n,rfl,hn.1,by omega⟩
def zb1(ht:P.underlying t=some (.int .u8))(h:eF P f t x):∃n:Nat,x=.int .u8 (n:Int)/\n<256:=by
 obtain⟨n,rfl,hn⟩:=zcw ht h
 simp only[Lit.wf,ybb,decide_eq_true_eq]at hn;have h1:IntKind.u8.min=0:=rfl
 have h2:IntKind.u8.max=255:=rfl
 rw[h1,h2]at hn;exact⟨n.toNat,by rw[show((n.toNat:Nat):Int)=n by omega],by omega⟩
def zvy(ht:P.underlying t=some (.int .u16))(h:eF P f t x):∃n:Nat,x=.int .u16 (n:Int)/\n<65536:=by
 obtain⟨n,rfl,hn⟩:=zcw ht h
 simp only[Lit.wf,ybb,decide_eq_true_eq]at hn;have h1:IntKind.u16.min=0:=rfl
 have h2:IntKind.u16.max=65535:=rfl
 rw[h1,h2]at hn;exact⟨n.toNat,by rw[show((n.toNat:Nat):Int)=n by omega],by omega⟩
def lU(ht:P.underlying t=some .string)(h:eF P f t x):∃l:List Nat,x=.str l/\l.length<lD/\∀c∈l,c<256:=by
 obtain⟨g,rfl⟩:=dV h
 unfold eF at h;rw[ht]at h;obtain⟨l,h1,h2,h3⟩:=h
 unfold reachBytes at h2;exact⟨l,h1,by unfold lD;omega,h3⟩
def wT{e:TypeId}{sz:Nat}(ht:P.underlying t=some (.slice e))(hc:P.cellsOf e=sz)(hb:1<=P.bytesOf e)(h:eF P f t x):∃(l:List D) (g:Nat),f=g+1/\x=.sl sz l/\l.length<lD/\∀y∈l,eF P g e y:=by
 obtain⟨g,rfl⟩:=dV h
 unfold eF at h;rw[ht]at h;obtain⟨l,h1,h2,h3⟩:=h
 have:l.length<=l.length*P.bytesOf e:=Nat.le_mul_of_pos_right _ hb
 unfold reachBytes at h2;exact⟨l,g,rfl,by rw[<- hc];exact h1,by unfold lD;omega,h3⟩
def oC.ofMap{α β γ:Type}{k:α->γ}{R:γ->β->Prop}:∀ {l:List α} {m:List β},oC (fun a b=>R (k a) b) l m->oC R (l.map k) m
 | [],_,.nil=>.nil
 | _::_,_::_,.cons h r=>.cons h (oC.ofMap r)
def mQ{ts:List TypeId}(ht:∃fs,P.underlying t=some (.struct fs)/\fs.toList.map (·.type)=ts)(h:eF P f t x):∃(l:List D) (g:Nat),f=g+1/\x=.st l/\oC (fun t y=>eF P g t y) ts l:=by
 obtain⟨fs,ht,rfl⟩:=ht
 obtain⟨g,rfl⟩:=dV h
 unfold eF at h;rw[ht]at h;obtain⟨l,h1,h2⟩:=h
 exact⟨l,g,rfl,h1,oC.ofMap h2⟩
def oC.cons_inv{α β:Type}{R:α->β->Prop}{a:α}{l:List α}{m:List β}(h:oC R (a::l) m):∃b r,m=b::r/\R a b/\oC R l r:=by
 cases h with
 | cons h1 h2=>exact⟨_,_,rfl,h1,h2⟩
def oC.nil_inv{α β:Type}{R:α->β->Prop}{m:List β}(h:oC R ([]:List α) m):m=[]:=by
 cases h;rfl
def dR{α β:Type}{g:α->β}{Q:α->Prop}:∀ {l:List β},(∀y∈l,∃a,y=g a/\Q a)->∃m:List α,l=m.map g/\∀a∈m,Q a
 | [],_=>⟨[],rfl,fun _ h=>by cases h⟩
 | y::l,h=>by
  obtain⟨a,h1,h2⟩:=h y (by simp)
  obtain⟨m,h3,h4⟩:=dR (l:=l) fun z hz=>h z (ybr _ hz)
  exact⟨a::m,by simp[h1,h3],fun b hb=>by
   rcases ybs.1 hb with rfl | hb
   ·exact h2
   ·exact h4 b hb⟩
end
namespace zsn
section
variable {P:Program}(A:zsn P){f:Nat}{x:D}
def dWhole(h:eF P f A.whole x):∃w:bH,x=w.d/\w.limbs.length<lD/\tB 65536 w.limbs:=by
 obtain⟨l,g,rfl,rfl,k⟩:=mQ A.hwhole h
 obtain⟨d1,r,rfl,h1,k⟩:=k.cons_inv
 obtain⟨d2,r,rfl,h2,k⟩:=k.cons_inv
 obtain rfl:=k.nil_inv
 obtain⟨b,rfl⟩:=rX A.hb h1
 obtain⟨l,g,rfl,rfl,hl,hm⟩:=wT A.hlimbs A.cu16 A.bytes.1 h2
 obtain⟨m,rfl,hq⟩:=dR (g:=fun n:Nat=>D.int .u16 (n:Int)) (Q:=fun n=>n<65536) fun y hy=>zvy A.hu16 (hm y hy)
 exact⟨⟨b,m⟩,rfl,by simpa using hl,hq⟩
def dFrac(h:eF P f A.frac x):∃w:qE,x=w.dd/\w.fit:=by
 obtain⟨l,g,rfl,rfl,k⟩:=mQ A.hfrac h
 obtain⟨d1,r,rfl,h1,k⟩:=k.cons_inv
 obtain⟨d2,r,rfl,h2,k⟩:=k.cons_inv
 obtain rfl:=k.nil_inv
 obtain⟨a,rfl,a1,a2⟩:=A.dWhole h1
 obtain⟨b,rfl,b1,b2⟩:=A.dWhole h2
 exact⟨⟨a,b⟩,rfl,⟨a1,b1⟩,a2,b2⟩
def dVal(h:eF P f A.val x):∃w:sF,x=w.d/\w.fit:=by
 obtain⟨l,g,rfl,rfl,k⟩:=mQ A.hval h
 obtain⟨d1,r,rfl,h1,k⟩:=k.cons_inv
 obtain⟨d2,r,rfl,h2,k⟩:=k.cons_inv
 obtain⟨d3,r,rfl,h3,k⟩:=k.cons_inv
 obtain rfl:=k.nil_inv
 obtain⟨kk,rfl,hk⟩:=zb1 A.hu8 h1
 obtain⟨q,rfl,hq⟩:=A.dFrac h2
 obtain⟨n,rfl,hn⟩:=vT A.hi h3
 exact⟨⟨kk,q,n⟩,rfl,hk,hq,hn.1,hn.2⟩
def z0a:∀ {l:List qA},(∀x∈l,x.fit)->qA.fits l
 | [],_=>by unfold qA.fits;trivial
 | x::l,h=>by unfold qA.fits;exact⟨h x (by simp),z0a fun y hy=>h y (ybr _ hy)⟩
def dExpr:∀(f:Nat) (x:D),eF P f A.expr x->∃w:qA,x=w.d/\w.fit:=by
 intro f;induction f using Nat.strongRecOn with
 | _ f ih=>
 intro x h;obtain⟨l,g,rfl,rfl,k⟩:=mQ A.hexpr h
 obtain⟨d1,r,rfl,h1,k⟩:=k.cons_inv
 obtain⟨d2,r,rfl,h2,k⟩:=k.cons_inv
 obtain⟨d3,r,rfl,h3,k⟩:=k.cons_inv
 obtain⟨d4,r,rfl,h4,k⟩:=k.cons_inv
 obtain rfl:=k.nil_inv
 obtain⟨kk,rfl,hk⟩:=zb1 A.hu8 h1
 obtain⟨n,rfl,hn,hn'⟩:=lU A.hs h2
 obtain⟨v,rfl,hv⟩:=A.dVal h3
 obtain⟨l,g',rfl,rfl,hl,hm⟩:=wT A.hexprs A.cexpr A.bytes.2.1 h4
 obtain⟨m,rfl,hq⟩:=dR (g:=qA.d) (Q:=qA.fit) fun y hy=>ih g' (by omega) y (hm y hy)
 refine⟨.mk kk n v m,?_,?_⟩
 ·rw[qA.d,qA.ds_eq]
 ·unfold qA.fit
  exact⟨hk,hn,hn',hv,by simpa using hl,z0a hq⟩
def dRow(h:eF P f A.row x):∃w:zmr,x=w.d/\w.fit:=by
 obtain⟨l,g,rfl,rfl,k⟩:=mQ A.hrow h
 obtain⟨d1,r,rfl,h1,k⟩:=k.cons_inv
 obtain⟨d2,r,rfl,h2,k⟩:=k.cons_inv
 obtain⟨d3,r,rfl,h3,k⟩:=k.cons_inv
 obtain⟨d4,r,rfl,h4,k⟩:=k.cons_inv
 obtain rfl:=k.nil_inv
 obtain⟨a,rfl,ha⟩:=vT A.hi h1
 obtain⟨b,rfl,hb⟩:=vT A.hi h2
 obtain⟨c,rfl,hc⟩:=vT A.hi h3
 obtain⟨q,rfl,hq⟩:=A.dFrac h4
 exact⟨⟨a,b,c,q⟩,rfl,ha,hb,hc,hq⟩
def dTable(h:eF P f A.table x):∃w:wH,x=w.d/\w.fit:=by
 obtain⟨l,g,rfl,rfl,k⟩:=mQ A.htable h
 obtain⟨d1,r,rfl,h1,k⟩:=k.cons_inv
 obtain⟨d2,r,rfl,h2,k⟩:=k.cons_inv
 obtain⟨d3,r,rfl,h3,k⟩:=k.cons_inv
 obtain rfl:=k.nil_inv
 obtain⟨n,rfl,hn,_⟩:=lU A.hs h1
 obtain⟨b,rfl⟩:=rX A.hb h2
 obtain⟨l,g',rfl,rfl,hl,hm⟩:=wT A.hrows A.crow A.bytes.2.2.1 h3
 obtain⟨m,rfl,hq⟩:=dR (g:=zmr.d) (Q:=zmr.fit) fun y hy=>A.dRow (hm y hy)
 exact⟨⟨n,b,m⟩,rfl,hn,by simpa using hl,hq⟩
def dDef(h:eF P f A.dfn x):∃w:tI,x=w.d/\w.fit:=by
 obtain⟨l,g,rfl,rfl,k⟩:=mQ A.hdfn h
 obtain⟨d1,r,rfl,h1,k⟩:=k.cons_inv
 obtain⟨d2,r,rfl,h2,k⟩:=k.cons_inv
 obtain⟨d3,r,rfl,h3,k⟩:=k.cons_inv
 obtain rfl:=k.nil_inv
 obtain⟨n,rfl,hn,_⟩:=lU A.hs h1
 obtain⟨kk,rfl,hk⟩:=zb1 A.hu8 h2
 obtain⟨b,rfl⟩:=rX A.hb h3
 exact⟨⟨n,kk,b⟩,rfl,hn,hk⟩
def dClause(h:eF P f A.clause x):∃w:aH,x=w.d/\w.fit:=by
 obtain⟨l,g,rfl,rfl,k⟩:=mQ A.hclause h
 obtain⟨d1,r,rfl,h1,k⟩:=k.cons_inv
 obtain⟨d2,r,rfl,h2,k⟩:=k.cons_inv
 obtain⟨d3,r,rfl,h3,k⟩:=k.cons_inv
 obtain⟨d4,r,rfl,h4,k⟩:=k.cons_inv
 obtain⟨d5,r,rfl,h5,k⟩:=k.cons_inv
 obtain⟨d6,r,rfl,h6,k⟩:=k.cons_inv
 obtain⟨d7,r,rfl,h7,k⟩:=k.cons_inv
 obtain⟨d8,r,rfl,h8,k⟩:=k.cons_inv
 obtain rfl:=k.nil_inv
 obtain⟨n,rfl,hn,_⟩:=lU A.hs h1
 obtain⟨l,rfl,hl,_⟩:=lU A.hs h2
 obtain⟨a,rfl,ha⟩:=vT A.hi h3
 obtain⟨b,rfl,hb⟩:=vT A.hi h4
 obtain⟨c,rfl,hc⟩:=vT A.hi h5
 obtain⟨o,rfl⟩:=rX A.hb h6
 obtain⟨w,rfl,hw⟩:=A.dExpr _ _ h7
 obtain⟨v,rfl,hv⟩:=A.dExpr _ _ h8
 exact⟨⟨n,l,a,b,c,o,w,v⟩,rfl,hn,hl,ha,hb,hc,hw,hv⟩
def dPlan(h:eF P f A.plan x):∃w:rE,x=w.d/\w.fit:=by
 obtain⟨l,g,rfl,rfl,k⟩:=mQ A.hplan h
 obtain⟨d1,r,rfl,h1,k⟩:=k.cons_inv
 obtain⟨d2,r,rfl,h2,k⟩:=k.cons_inv
 obtain⟨d3,r,rfl,h3,k⟩:=k.cons_inv
 obtain⟨d4,r,rfl,h4,k⟩:=k.cons_inv
 obtain rfl:=k.nil_inv
 obtain⟨n,rfl,hn,_⟩:=lU A.hs h1
 obtain⟨l2,g2,rfl,rfl,hl2,hm2⟩:=wT A.hdfns A.cdfn A.bytes.2.2.2.2.1 h2
 obtain⟨l3,g3,_,rfl,hl3,hm3⟩:=wT A.htables A.ctable A.bytes.2.2.2.1 h3
 obtain⟨l4,g4,_,rfl,hl4,hm4⟩:=wT A.hclauses A.cclause A.bytes.2.2.2.2.2 h4
 obtain⟨m2,rfl,hq2⟩:=dR (g:=tI.d) (Q:=tI.fit) fun y hy=>A.dDef (hm2 y hy)
 obtain⟨m3,rfl,hq3⟩:=dR (g:=wH.d) (Q:=wH.fit) fun y hy=>A.dTable (hm3 y hy)
 obtain⟨m4,rfl,hq4⟩:=dR (g:=aH.d) (Q:=aH.fit) fun y hy=>A.dClause (hm4 y hy)
 exact⟨⟨n,m2,m3,m4⟩,rfl,⟨hn,by simpa using hl2,by simpa using hl3,by simpa using hl4,hq2,hq3,hq4⟩⟩
end
end zsn
end Go.Am
namespace Go.Am
open Go Go.RowKit Go.Proofs
def ztg[sC](B N:Nat)(hb:B<=256+sC.n):cS Tryz.prog yA B N lF:=by
 intro f g hg args H v H' hv μ w args' hH hI hl;have hg:zxv.get f=some g:=hg
 unfold zxv at hg;rcases eK hg with⟨rfl,rfl⟩ | hg
 ·exact jP hv hH fun hv=>zae hI hv hl
 rcases eK hg with⟨rfl,rfl⟩ | hg
 ·exact .inr (zdh hb hH hv hl)
 rcases eK hg with⟨rfl,rfl⟩ | hg
 ·exact .inr (zf9 hb hH hv hl)
 rcases eK hg with⟨rfl,rfl⟩ | hg
 ·exact jP hv hH fun hv=>zke hI hv hl
 rcases eK hg with⟨rfl,rfl⟩ | hg
 ·exact jP hv hH fun hv=>zkf hI hv hl
 rcases eK hg with⟨rfl,rfl⟩ | hg
 ·exact jP hv hH fun hv=>zti hI hv hl
 ·rw[Tr.get_leaf]at hg;cases hg
def sim14[sC](hN:5<=sC.n):Sim Tryz.prog yA (256+sC.n) sC.n lF:=
 ⟨zjq rfl,zgp rfl,ztg _ _ (ybk _),ybk _,by kernel_rfl,fun _ _ hb h=>h.below hN hb⟩
section
variable {w:World}
def z82{b:Nat}{y:rA}(h:(pG w).get b=some y):b<256+w.heap.size:=by
 unfold pG at h;rw[dO]at h;split at h
 ·assumption
 ·cases h
def zs2(hL:lF w)(f:Nat)(args:List zA)(args':Array Value)(hp:∀ [sC],yA.prims.get f=none)(hl:yB (muW w) args args'.toList)
  (h:∀ [sC],∃Q:bB,Wc yA F f args (pG w) Q/\∀v t,Q v t->v=.bool true) (hf:Nat.blt f yo=true:=by rfl) :
  Calls Tryz.prog f args' w fun e w'=>e=.returned (.bool true)/\Below w.heap.size w w':=by
 letI:sC:=⟨w.heap.size⟩
 obtain⟨Q,h1,h2⟩:=h
 refine(zpa (H:=⟨256+w.heap.size,pG w⟩) (sim14 hL.size) hL zzaf hp (ybk _) (fun b y hb=>z82 hb) hrelW hl h1 hf).mono fun e w' ⟨v,v',t',μ',g1,g2,g3,g4,g5⟩=>?_
 have:=h2 v t' g4
 subst this;rw[vA]at g3;exact⟨by rw[g1,g3],g5⟩
def z9v(h:lF w):∀ [sC],eJ (pG w):=by
 intro _;obtain⟨t,h⟩:=h.lens
 have hb:=(ybe.1 h).1
 have e:(pG w).get 3=some (.cells (zh6 (fun j=>((z4e zof).toArray[j]?).bind (zu3 w.heap.size)) (z4e zof).toArray.size) (z4e zof).toArray.size none):=by
  unfold pG;rw[dO,yab (by omega),yab (by omega),h]
  rfl
 refine⟨_,_,_,e,fun j a ha=>?_⟩
 rw[dO,ybw];have hj:j<bR.length:=by
  have:=(ybc.1 ha).1
  simpa using this
 rw[ybu]at ha;have hL:bR=zof:=rfl
 rw[hL]at ha hj
 cases hbt:zof[j]? with
 | none=>rw[hbt]at ha;cases ha
 | some b=>
  rw[hbt]at ha;obtain rfl:=yci ha
  rw[yab (by simp[z4e];exact hj)]
  simp only[z4e,List.getElem?_toArray,ybu,hbt,Option.map_some,yai,zu3]
def zcd(h:lF w):∀ [sC],pN (pG w):=by
 intro _;obtain⟨t,h⟩:=h.modes
 have hb:=(ybe.1 h).1
 have e:(pG w).get 0=some (.cells (zh6 (fun j=>((z2s pL).toArray[j]?).bind (zu3 w.heap.size)) (z2s pL).toArray.size) (z2s pL).toArray.size none):=by
  unfold pG;rw[dO,yab (by omega),yab (by omega),h]
  rfl
 refine⟨_,_,_,e,fun j a ha=>?_⟩
 rw[dO,ybw];have hj:j<fP.length:=by
  have:=(ybc.1 ha).1
  simpa using this
 rw[ybu]at ha;have hL:fP=pL.map fun b=>b.map UInt8.toNat:=rfl
 rw[hL]at ha hj;rw[ybu]at ha
 cases hbt:pL[j]? with
 | none=>rw[hbt]at ha;cases ha
 | some b=>
  rw[hbt]at ha;obtain rfl:=yci ha
  rw[yab (by simp[z2s];simpa using hj)]
  simp only[z2s,List.getElem?_toArray,ybu,hbt,Option.map_some,yai,zu3];rfl
def z9s{cs:List Value}(h:Has w.heap.size cs):yB (muW w) (cs.map (av w.heap.size)) cs:=by
 induction cs with
 | nil=>exact .nil
 | cons v l ih=>exact .cons (zi6 (h v (by simp))) (ih fun u hu=>h u (ybr _ hu))
def zqt{cs:Array Value}(h:Has w.heap.size cs.toList):vA (muW w) (.agg (cs.toList.map (av w.heap.size))) (.agg cs):=by
 rw[vA];exact⟨cs,rfl,z9s h⟩
end
end Go.Am
namespace Go.Am
open Go Go.RowKit Go.ChangeShapes Go.WideShapes Go.ChangeAt
section
variable {H:Type}{enc:TypeId × Value->H}{P:Program}
def zaa(hl:laidOutB P=true){W W':World}(hb:Below W.heap.size W W'):∀ {ts:List TypeId} {vs:List Value} {ds:List (DataW H)} {ps:List MemPlace},(∀t∈ts,P.readableRec t=true/\t<P.types.size) →
  DataW.TrodAll enc P W 0 (fun _=>true) true ts vs ds ps->(∀x∈ps,x.block<W.heap.size)->DataW.TrodAll enc P W' 0 (fun b=>decide (b<W.heap.size)) true ts vs ds ps
 | [],[],[],_,_,h,_=>h
 | t::ts,_::_,_::_,_,ht,⟨p,q,h1,h2,e⟩,hs=>by
  subst e;exact⟨p,q,Below.trod hl (ht t (by simp)).1 (ht t (by simp)).2 h1 hb fun x hx=>hs x (ydc _ hx),
   zaa hl hb (fun t ht'=>ht t (ybr _ ht')) h2 fun x hx=>hs x (ycf _ hx),rfl⟩
 | [],_::_,_,_,_,h,_=>by simp[DataW.TrodAll]at h
 | [],[],_::_,_,_,h,_=>by simp[DataW.TrodAll]at h
 | _::_,[],_,_,_,h,_=>by simp[DataW.TrodAll]at h
 | _::_,_::_,[],_,_,h,_=>by simp[DataW.TrodAll]at h
def law_post(hl:laidOutB P=true){f:Func}{s:ChangeSpec}{tb:TypeId}(hp:∀t∈f.params.toList,P.readableRec t=true/\t<P.types.size)(hv:s.vars=[])(hres:f.resultTypes = #[tb])(htb:P.underlying tb=some .bool)
  {W W':World} {args:Array Value} {ds gs:List (DataW H)} {before:List MemPlace} (hfn:s.fn H ds={ results:=[.lit (.bool true)],args:=ds })
  (hW:DataW.Whole enc P f.params.toList s.vars false W args.toList ds gs before) (hb:Below W.heap.size W W') :
  s.post enc P f false true false false W args (.bool true) W':=by
 have hW0:=hW
 obtain⟨p,q,hA,hV,rfl,hfz,hnd⟩:=hW
 rw[hv]at hV;obtain⟨rfl,rfl⟩:=trodVars_none hV
 refine⟨ds,[],p++[],[],p,[],hW0,?_,?_,?_,hb.frame _,fun h=>by cases h⟩
 ·rw[ycd,hfn,hres]
  exact trodAll_mk1 (shut_bool htb _)
 ·rw[ycd,hfn]
  exact zaa hl hb hp hA fun x hx=>hW0.lt x (by simpa using hx)
 ·rw[ycd,hfn,hv]
  exact rfl
def zqh{a:Assume}{C:Checked}{os:Os}{f:FuncId}{fn:Func}{s:ChangeSpec}{conds:List PathCond}{apart fresh handsOn again:Bool}{X:World->Array Value->Prop}
  (hX:∀(w w':World) (args:Array Value),w.heap=w'.heap->X w args->X w' args)
  (own:ownKnob C.prog.godebug=none) (started:os.Started) (noInit:C.prog.inits.idxOf? f=none) (hfn:C.prog.funcs[f]?=some fn)
  (witness:∃(w:World) (tape:Tape) (i:Input),w.os=os/\(w.forCall tape i).Shaped C.prog/\i.vars=[]/\Input.okWide C.prog (w.forCall tape i) .any w.heap.size f i ∧
   ((s.pre enc C.prog fn conds apart (w.forCall tape i).memory i.args/\X (w.forCall tape i).memory i.args)/\sizedMet enc C.prog fn (OpenSpec.ofChange s) apart (w.forCall tape i).memory i.args)/\a.holds C.prog (lone (Frame.enter C.prog f i.args .normal) [] (w.forCall tape i)))
  (contract:∀(W:World) (base:Nat) (args:Array Value) (ds gs:List (DataW H)) (before:List MemPlace),
   (∀(j:Nat) t v,fn.params[j]?=some t->args[j]?=some v->Value.okWide C.prog W .any base t v) →
   DataW.Whole enc C.prog fn.params.toList s.vars apart W args.toList ds gs before →
   (DataW.weightsEach C.prog (fn.params.toList++s.plain.varTypes C.prog) (ds++gs)).all (· <= reachBytes)=true->X W args->W.ShapedOpen C.prog →
   Calls C.prog f args W fun e W'=>∃v,e=.returned v/\s.post enc C.prog fn apart fresh handsOn again W args v W') :
  ReturnsInHanded a C os f .any (fun w args=>(s.pre enc C.prog fn conds apart w args/\X w args)/\sizedMet enc C.prog fn (OpenSpec.ofChange s) apart w args) (s.post enc C.prog fn apart fresh handsOn again):=by
 refine returnsInHanded_of_calls own started noInit witness ?_
 intro w tape i _ hsh _ hok hpre _;obtain⟨_,_,_,fn',hfn',_,_,_,_,hval⟩:=hok
 have e:fn'=fn:=yci (hfn'.symm.trans hfn)
 subst e;obtain⟨⟨⟨ds,gs,before,hw,hc⟩,hx⟩,hz⟩:=hpre
 have hw':=DataW.Whole.of_heap (w':=w.forCall tape i) (by rfl) hw
 refine(contract (w.forCall tape i) w.heap.size i.args ds gs before hval hw' (hz.weights hw) (hX _ _ _ (by rfl) hx) hsh).mono fun e W' ⟨v,he,hp⟩=>?_
 subst he;exact ChangeSpec.post_blind hp
variable {w:World}{base:Nat}{spare:Nat->Bool}{held:Bool}{fuel:Nat}{t e:TypeId}{cs:List Value}{ps:List MemPlace}
def zew{α:Type}{g:α->DataW H}{u:α->Value}{l:List α}{n:Nat}(ht:P.underlying t=some (.array n e))(hc:P.cellsOf e=1)(hn:P.cellsOf t=n)
  (h1:∀(m:Nat) (c:List Value) (x:DataW H × List MemPlace) (a:α),DataW.trod enc P w base spare held m e c=some x->x.1=g a->c=[u a])
  (h:DataW.trod enc P w base spare held fuel t cs=some (.agg (l.map g),ps)):cs=l.map u:=by
 obtain⟨xs,m,_,hx,hlen,hxs,hel⟩:=DataW.trod_array ht h
 simp only[Prod.mk.injEq,DataW.agg.injEq]at hx;have hl:l.length=n:=by have:=congrArg List.length hx.1;simp[hxs]at this;exact this
 rw[hn]at hlen;refine List.ext_getElem (by rw[hlen,ybf,hl]) fun i hi1 hi2=>?_
 have hi:i<n:=by omega
 have:=hel i hi
 rw[hc]at this;have hc1:((cs.drop (i*1)).take 1)=[cs[i]]:=by
  rw[Nat.mul_one,ybl hi1];rfl
 rw[hc1,ybd (by omega)]at this
 have hxi:xs[i].1=g (l[i]'(by omega)):=by
  have:=congrArg (fun z=>z[i]?) hx.1
  simp only[ybu]at this;rw[ybd (by omega),ybd (by omega)]at this
  simpa using this.symm
 have:=h1 m _ _ _ this hxi
 rw[List.getElem_map];simpa using this
def z2t(he:P.underlying e=some .string)(m:Nat)(c:List Value)(x:DataW H × List MemPlace)(b:List UInt8)(h:DataW.trod enc P w base spare held m e c=some x)(hx:x.1=.lit (.string b)):c=[.string ⟨b.toArray⟩]:=by
 obtain⟨s,rfl,rfl,_⟩:=DataW.trod_string he h
 simp at hx;rw[<- hx]
def z4f(he:P.underlying e=some (.int .i64))(m:Nat)(c:List Value)(x:DataW H × List MemPlace)(n:Int)(h:DataW.trod enc P w base spare held m e c=some x)(hx:x.1=.lit (.int .i64 n)):c=[.int .i64 n]:=by
 obtain⟨k,rfl,rfl,_⟩:=DataW.trod_int he h
 simp at hx;rw[hx]
end
def joined_of{P:Program}{f:FuncId}{fn:Func}{s:ChangeSpec}{c:OpenClaim}
  (A:(c.wf (OpenSpec.ofChange s)&&laidOutB P&&mapsRowed P&&fn.params.all (P.readableRec ·)&&namedTie P c.named s.vars&&(c.stops == [])&&(P.stops == [])&&(c.knobs == [])&&(P.stopKnobs == []))=true)
  (h1:(c.inPlace == P.inPlace f)=true) (h2:(c.unfollowed == P.unfollowed f)=true) (h3:(c.recurses == P.recurses f)=true) (h4:(c.named == P.varsNamed f)=true)
  (E:((c.maps == (fn.params.toList++s.plain.varTypes P).any (P.mapsRec ·))&&(c.ifaces == (fn.params.toList++s.plain.varTypes P).any (P.ifacesRec ·))&&(c.mapsOut == P.mapsAmong fn.resultTypes.toList) &&
   (c.loops == (fn.params.toList++s.plain.varTypes P).any (P.loopsFrom ·))&&(c.wideKeys == (fn.params.toList++s.plain.varTypes P++fn.resultTypes.toList).any (P.wideKeysFrom ·)) &&
   s.vars.all (P.varReadable ·)&&fn.resultTypes.all (fun t=>P.readableRec t&&decide (t<P.types.size))&&(c.ifacesOut == fn.resultTypes.toList.any (P.ifacesRec ·))&&(c.loopsOut == fn.resultTypes.toList.any (P.loopsFrom ·))&&c.shortTexts.isNone)=true)
  (h5:(c.plainKeys == P.plainKeys)=true) (h6:P.stopsHeard=true) (h7:P.mayEnter=true) (h8:(c.lifted == P.liftsFinal)=true)
  (R:((P.make == some c.make)&&(c.kinds == (if c.domain.isEmpty then []else fn.params.toList.map fun t=>match P.underlying t with | some (.int k)=>some k | _=>none))&&(c.pinned == c.pinnedBy) &&
   (c.veiled == (fn.params.toList++s.plain.varTypes P++fn.resultTypes.toList).any (P.veiledRec ·))&&c.veiledFits P fn.params.toList (fn.params.toList++s.plain.varTypes P++fn.resultTypes.toList))=true) :
  joinedFacts P f fn s c=true:=by
 unfold joinedFacts;simp only[ybb]at A E R ⊢
 obtain⟨⟨⟨⟨⟨⟨⟨⟨a1,a2⟩,a3⟩,a4⟩,a5⟩,a6⟩,a7⟩,a8⟩,a9⟩:=A
 obtain⟨⟨⟨⟨⟨⟨⟨⟨⟨e1,e2⟩,e3⟩,e4⟩,e5⟩,e6⟩,e7⟩,e8⟩,e9⟩,e10⟩:=E
 obtain⟨⟨⟨⟨r1,r2⟩,r3⟩,r4⟩,r5⟩:=R
 exact⟨⟨⟨⟨⟨⟨⟨⟨⟨⟨⟨⟨⟨⟨⟨⟨⟨⟨⟨⟨⟨⟨⟨⟨⟨⟨⟨⟨⟨⟨⟨a1,a2⟩,a3⟩,a4⟩,a5⟩,a6⟩,a7⟩,a8⟩,a9⟩,h1⟩,h2⟩,h3⟩,h4⟩,e1⟩,e2⟩,e3⟩,e4⟩,e5⟩,e6⟩,e7⟩,e8⟩,e9⟩,h5⟩,e10⟩,h6⟩,h7⟩,h8⟩,r1⟩,r2⟩,r3⟩,r4⟩,r5⟩
end Go.Am
namespace Go.Proofs.YtfijloeeppcipaaGreatDoor
open Go Go.Am Go.RowKit Go.ChangeShapes Go.WideShapes Go.ChangeAt
def own:ownKnob Tryz.prog.godebug=none:=by kernel_rfl
def laidOut:laidOutB Tryz.prog=true:=by kernel_rfl
def gPow : Tryz.prog.globalNamed "internal/strconv.uint64pow10" = some 4 := by kernel_rfl
def gLens : Tryz.prog.globalNamed "annuitant/calendar.lengths" = some 3 := by kernel_rfl
def gModes : Tryz.prog.globalNamed "annuitant/parse.modeWords" = some 0 := by kernel_rfl
def tPow:(Tryz.prog.globals[4]?).map (·.type)=some 290:=by kernel_rfl
def tLens:(Tryz.prog.globals[3]?).map (·.type)=some 275:=by kernel_rfl
def tModes:(Tryz.prog.globals[0]?).map (·.type)=some 238:=by kernel_rfl
def laid5 : List (String × DataW Unit) := [("math/bits.deBruijn32tab", Rows.laid_math_bits_deBruijn32tab), ("math/bits.deBruijn64tab", Rows.laid_math_bits_deBruijn64tab), ("internal/strconv.uint64pow10", Rows.laid_internal_strconv_uint64pow10), ("annuitant/calendar.lengths", Rows.laid_annuitant_calendar_lengths), ("annuitant/parse.modeWords", Rows.laid_annuitant_parse_modeWords)]
def door_met(os:Os)(args:Array Value):laidMetH Tryz.prog laid5 ((World.doorLaid Tryz.prog 100 os).forCall (fun _ _=>0) ⟨#[],args,[]⟩).memory:=
 laidMetH_of_parts3 (fuel:=8) (laidMet_of_run' 8 (by kernel_rfl) (by kernel_rfl)) (by kernel_rfl) (by kernel_rfl)
def zcs{W:World}{n:String}{g:Nat}{cs:Array Value}(hg:Tryz.prog.globalNamed n=some g)(hv:W.var? Tryz.prog n=some cs)(hc:∃c t,W.heap[g]?=some (.cells c t (0,0))):∃t,W.heap[g]?=some (.cells cs t (0,0)):=by
 obtain⟨c,t,hc⟩:=hc
 unfold World.var? at hv
 rw[hg]at hv;simp only[yai,hc,Option.some.injEq]at hv;subst hv;exact⟨t,hc⟩
def znk{g n:Nat}{p q:List MemPlace}(h:0<n):MemPlace.cell g 0∈MemPlace.row ⟨g,0,none⟩ n++p++q:=
 ydc _ (ydc _ (yaq.2 ⟨0,List.mem_range.2 h,rfl⟩))
def z9b:Rows.laid_internal_strconv_uint64pow10 (H:=Unit)=.agg (z2a.map fun n=>.lit (.int .u64 n)):=by kernel_rfl
def z35:Rows.laid_annuitant_calendar_lengths (H:=Unit)=.agg (zof.map fun n=>.lit (.int .i64 n)):=by kernel_rfl
def zyx:Rows.laid_annuitant_parse_modeWords (H:=Unit)=.agg (pL.map fun b=>.lit (.string b)):=by kernel_rfl
def z2h{H:Type}{enc:TypeId × Value->H}{P:Program}{w:World}{base:Nat}{spare:Nat->Bool}{held:Bool}{e:TypeId}(he:P.underlying e=some (.int .u64))(m:Nat)(c:List Value)(x:DataW H × List MemPlace)(n:Int)(h:DataW.trod enc P w base spare held m e c=some x)(hx:x.1=.lit (.int .u64 n)):c=[.int .u64 n]:=by
 obtain⟨k,rfl,rfl,_⟩:=DataW.trod_int he h
 simp at hx;rw[hx]
def laid_of{W:World}(h:laidMetH Tryz.prog laid5 W)(hsh:W.ShapedOpen Tryz.prog):lF W:=by
 rw[MakeChecks.laidMetH_plain _ _ _ (by kernel_rfl)]at h
 obtain⟨ps,⟨_,_,_,_,_,_,_,_,_,_,⟨_,_,_,_,_,_,_,_,_,_,⟨g0,t0,cs0,f0,p0,q0,hg0,ht0,hv0,hd0,⟨g1,t1,cs1,f1,p1,q1,hg1,ht1,hv1,hd1,⟨g3,t3,cs3,f3,p3,q3,hg3,ht3,hv3,hd3,_,hp3⟩,hp1⟩,hp0⟩,hpb⟩,hpa⟩,_,hcell⟩:=h
 obtain rfl:=yci (gPow.symm.trans hg0)
 obtain rfl:=yci (gLens.symm.trans hg1)
 obtain rfl:=yci (gModes.symm.trans hg3)
 obtain rfl:=yci (tPow.symm.trans ht0)
 obtain rfl:=yci (tLens.symm.trans ht1)
 obtain rfl:=yci (tModes.symm.trans ht3)
 have c3:Tryz.prog.cellsOf 3=1:=by kernel_rfl
 have c9:Tryz.prog.cellsOf 9=1:=by kernel_rfl
 have c225:Tryz.prog.cellsOf 225=1:=by kernel_rfl
 have c290:Tryz.prog.cellsOf 290=20:=by kernel_rfl
 have c275:Tryz.prog.cellsOf 275=12:=by kernel_rfl
 have c238:Tryz.prog.cellsOf 238=7:=by kernel_rfl
 rw[z9b]at hd0;rw[z35]at hd1;rw[zyx]at hd3;have e0:cs0.toList=u64s z2a:=zew (l:=z2a) (g:=fun n=>.lit (.int .u64 n)) (u:=fun n=>.int .u64 n) Tryz.underlying290 c225 c290 (fun m c x a=>z2h Tryz.underlying225 m c x a) hd0
 have e1:cs1.toList=z4e zof:=zew (l:=zof) (g:=fun n=>.lit (.int .i64 n)) (u:=fun n=>.int .i64 n) Tryz.underlying275 c3 c275 (fun m c x a=>z4f Tryz.underlying3 m c x a) hd1
 have e3:cs3.toList=z2s pL:=zew (l:=pL) (g:=fun b=>.lit (.string b)) (u:=fun b=>.string ⟨b.toArray⟩) Tryz.underlying238 c9 c238 (fun m c x a=>z2t Tryz.underlying9 m c x a) hd3
 have s0:cs0=(u64s z2a).toArray:=by rw[<- e0]
 have s1:cs1=(z4e zof).toArray:=by rw[<- e1]
 have s3:cs3=(z2s pL).toArray:=by rw[<- e3]
 subst s0 s1 s3
 have m0:MemPlace.cell 4 0∈ps:=by
  rw[hpa,hpb,hp0];exact ycf _ (ycf _ (znk (by decide)))
 have m1:MemPlace.cell 3 0∈ps:=by
  rw[hpa,hpb,hp0,hp1];exact ycf _ (ycf _ (ycf _ (znk (by decide))))
 have m3:MemPlace.cell 0 0∈ps:=by
  rw[hpa,hpb,hp0,hp1,hp3];exact ycf _ (ycf _ (ycf _ (ycf _ (znk (by decide)))))
 exact⟨zcs hg3 hv3 (hcell 0 0 m3).1,zcs hg1 hv1 (hcell 3 0 m1).1,Tryz.laysM144.s1_3 W hsh,zcs hg0 hv0 (hcell 4 0 m0).1⟩
def stopsHeard:Tryz.prog.stopsHeard=true:=by kernel_rfl
def mayEnter:Tryz.prog.mayEnter=true:=by kernel_rfl
def bool4:Tryz.prog.underlying 4=some .bool:=Tryz.underlying4
def api14:zsn Tryz.prog:={
 b:=4,i:=3,u8:=5,u16:=202,s:=9,limbs:=27,whole:=29,frac:=31,val:=33,expr:=36,exprs:=34,row:=84,rows:=79,table:=81,tables:=23,dfn:=59,dfns:=22,clause:=56,clauses:=24,plan:=26,
 hb:=Tryz.underlying4,hi:=Tryz.underlying3,hu8:=Tryz.underlying5,hu16:=Tryz.underlying202,hs:=Tryz.underlying9,hlimbs:=Tryz.underlying27,hexprs:=Tryz.underlying34,hrows:=Tryz.underlying79,htables:=Tryz.underlying23,hdfns:=Tryz.underlying22,hclauses:=Tryz.underlying24,
 hwhole:=⟨_,Tryz.underlying29,rfl⟩,hfrac:=⟨_,Tryz.underlying31,rfl⟩,hval:=⟨_,Tryz.underlying33,rfl⟩,hexpr:=⟨_,Tryz.underlying36,rfl⟩,hrow:=⟨_,Tryz.underlying84,rfl⟩,htable:=⟨_,Tryz.underlying81,rfl⟩,hdfn:=⟨_,Tryz.underlying59,rfl⟩,hclause:=⟨_,Tryz.underlying56,rfl⟩,hplan:=⟨_,Tryz.underlying26,rfl⟩,
 cu16:=by kernel_rfl,cexpr:=by kernel_rfl,crow:=by kernel_rfl,ctable:=by kernel_rfl,cdfn:=by kernel_rfl,cclause:=by kernel_rfl,
 bytes:=⟨of_decide_eq_true (by kernel_rfl),of_decide_eq_true (by kernel_rfl),of_decide_eq_true (by kernel_rfl),of_decide_eq_true (by kernel_rfl),of_decide_eq_true (by kernel_rfl),of_decide_eq_true (by kernel_rfl)⟩ }
def zkh:List Nat:=[4,3,5,202,9,27,29,31,33,36,34,84,79,81,23,59,22,56,24,26]
def partB(t:TypeId):Bool:=match Tryz.prog.underlying t with
 | some .bool=>true
 | some (.int _)=>true
 | some .string=>true
 | some (.slice e)=>zkh.contains e&&Nat.blt 0 (Tryz.prog.cellsOf e)
 | some (.struct fs)=>fs.toList.all (fun f=>zkh.contains f.type)&&zs4 Tryz.prog 0 fs.toList (Tryz.prog.cellsOf t)
 | _=>false
def znw:zkh.all partB=true:=by kernel_rfl
def znv:zzaq Tryz.prog (fun t=>t∈zkh):=⟨fun t ht=>by
 have h:=ycb.1 znw t ht
 unfold partB at h
 cases hu:Tryz.prog.underlying t with
 | none=>rw[hu]at h;cases h
 | some d=>
  rw[hu]at h
  cases d with
  | bool=>trivial
  | int k=>trivial
  | string=>trivial
  | slice e=>
   simp only[ybb]at h;exact⟨by simpa using h.1,by simpa using h.2⟩
  | struct fs=>
   simp only[ybb]at h;exact⟨fun f hf=>by simpa using ycb.1 h.1 f hf,h.2⟩
  | _=>cases h⟩
def open_plan{H:Type}{enc:TypeId × Value->H}{W:World}{base:Nat}{v:Value}{d:DataW H}{ps:List MemPlace}(hL:lF W)(hok:Value.okWide Tryz.prog W .any base 26 v)(h:DataW.Trod enc Tryz.prog W 0 (fun _=>true) true 26 v d ps)(hw:(DataW.weights Tryz.prog 26 d).all (· <= reachBytes)=true) :
  ∃(cs:Array Value) (p:rE),v=.agg cs/\p.fit/\Has W.heap.size cs.toList/\RD (pG W) p.d (cs.toList.map (av W.heap.size)):=by
 obtain⟨cs,rfl,_,_⟩:∃cs,v=.agg cs/\cs.size=Tryz.prog.cellsOf 26/\Row.okWide Tryz.prog W .any base 26 cs:=by
  unfold Value.okWide at hok;rw[Tryz.underlying26]at hok;exact hok
 obtain⟨fuel,h⟩:=h
 obtain⟨c,n,lo,hc,_⟩:=@zcd W hL ⟨0⟩
 obtain⟨h1,x,h2,h3⟩:=znq znv ⟨c,n,lo,hc⟩ fuel 26 cs.toList (d,ps) (by decide) h hw
 obtain⟨p,rfl,hp⟩:=api14.dPlan h3
 exact⟨cs,p,rfl,hp,h1,h2⟩
end Go.Proofs.YtfijloeeppcipaaGreatDoor
