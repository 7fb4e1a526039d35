/- format's writer comes to an end, with a text that is not empty and not much longer than a source. -/
import Derived.ChangeArms
import GoSem.ClaimJoined
import Derived.Test.YtfijloeeppcipaaGreatDoorD22
set_option linter.all false
noncomputable section
set_option maxRecDepth 100000
namespace Go.Proofs
open Go Go.Am
variable [fC]
variable {t tf:Tr rA}
def fP:List (List Nat):=[[],[100,111,119,110],[117,112],[102,108,111,111,114],[99,101,105,108],[104,97,108,102],[101,118,101,110]]
def gM(t:Tr rA):Prop:=At t 0 0 (fP.map zA.str)
def gM.mono{t':Tr rA}(h:gM t)(k:zB t t'):gM t':=At.mono k h
def zoq(hG:gM t){n:Nat}(hn:n<256):∃s,lB yA F 149 [.int .u8 (n:Int)] t=some (.str s)/\s.length<=10/\qB 256 s:=by
 by_cases h:n<7
 ·have hx:(fP.map zA.str)[n]?=some (.str (fP.getD n [])):=by
   have:n<fP.length:=h
   simp[ybd this]
  refine⟨fP.getD n [],jC.2 (w149 _ (mA (by rw[wrap_i64 (by omega) (by omega)];exact zG (by omega)) (jA (v:=.ptr 0 n) ?_ (lC (v:=.str (fP.getD n [])) ?_ (kH ⟨rfl,rfl⟩))))),?_,?_⟩
  ·unfold mB
   rw[ty238,tA];have e:(zA.int .u8 (n:Int)).asNat=some n:=rfl
   rw[e,tA];simp only[zA.asSlice,zA.asPtr,tA,jD.asArr];rw[ty9,tA,xC.2 h,zE];simp
  ·have:=hG.load1 ty9 rfl hx
   rw[ybw]at this;exact this
  ·have:∀k,k<7->(fP.getD k []).length<=10:=by decide
   exact this n h
  ·have:∀k,k<7->∀x∈fP.getD k [],x<256:=by decide
   exact this n h
 ·exact⟨[],jC.2 (w149 _ (lA (by rw[wrap_i64 (by omega) (by omega)];exact dF (by omega)) ⟨rfl,rfl⟩)),by simp,fun x hx=>by cases hx⟩
def zd0{s:List Nat}(h:∀x∈s,48<=x/\x<58):qB 256 s:=fun x hx=>by have:=h x hx;omega
def sN{a b:List Nat}(ha:qB 256 a)(hb:qB 256 b):qB 256 (a++b):=fun x hx=>by
 rcases yaf.1 hx with h | h
 ·exact ha x h
 ·exact hb x h
def zos{neg:Bool}{n:Nat}:qB 256 (intN neg n)/\intN neg n≠[]:=by
 have h:=zcp n
 refine⟨sN ?_ (zd0 (qY n)),fun e=>?_⟩
 ·cases neg
  ·intro x hx;cases hx
  ·intro x hx;simp at hx;omega
 ·unfold intN at e
  rw[List.append_eq_nil_iff]at e;rw[e.2]at h;simp at h
def zrj{f:qF}:qB 256 (yK f)/\yK f≠[]:=by
 unfold yK zcy;refine⟨sN zos.1 ?_,fun e=>zos.2 (List.append_eq_nil_iff.1 e).1⟩
 split
 ·intro x hx;cases hx
 ·intro x hx
  rcases ybs.1 hx with rfl | hx
  ·decide
  ·exact zos.1 x hx
def zyu{n:Int}:qB 256 (mJ n)/\mJ n≠[]:=by
 by_cases h:n<0
 ·obtain⟨u,rfl⟩:∃u:Nat,n = -(u:Int):=⟨n.natAbs,by omega⟩
  rw[zlr (by omega)]
  refine⟨fun x hx=>?_,by simp⟩
  rcases ybs.1 hx with rfl | hx
  ·decide
  ·exact zd0 (qY u) x hx
 ·obtain⟨u,rfl⟩:∃u:Nat,n=(u:Int):=⟨n.toNat,by omega⟩
  rw[zeg];exact⟨zd0 (qY u),fun e=>by have:=zcp u;rw[e]at this;simp at this⟩
def zk9{s:List Nat}(h:qB 256 s)(hn:s≠[]):qB 256 (pK s)/\pK s≠[]:=by
 unfold pK;split
 ·exact⟨sN (by intro x hx;simp at hx;omega) fun x hx=>h x (List.mem_of_mem_drop hx),by simp⟩
 ·exact⟨h,hn⟩
def zng{v:mH}(hv:v.fit)(hp:nO v=true):zfy (z1j v.i) v≠[]/\(zfy (z1j v.i) v).length<=20100/\qB 256 (zfy (z1j v.i) v):=by
 obtain⟨_,hff,hi1,hi2⟩:=hv
 have hil:=ziz hi1 hi2
 have hsl:=pX (mJ v.i)
 have hsi:=zk9 (zyu (n:=v.i)).1 zyu.2
 have hsf:=zk9 (zrj (f:=v.f)).1 zrj.2
 have hc:=zst v.i
 have hF:∀k,(k=2\/k=3)->v.kind=k->(pK (yK v.f)).length<=20010:=by
  intro k hk e;have h1:=zeo hff (zch hp (by omega))
  have h2:=pX (yK v.f)
  omega
 unfold zfy;split
 ·split
  ·exact⟨by simp,by simp,by intro x hx;simp at hx;omega⟩
  ·exact⟨by simp,by simp,by intro x hx;simp at hx;omega⟩
 ·split
  ·rename_i e;have:=hF 2 (.inl rfl) e;exact⟨hsf.2,by omega,hsf.1⟩
  ·split
   ·rename_i e;have:=hF 3 (.inr rfl) e
    exact⟨by simp,by simp;omega,sN (by intro x hx;simp at hx;omega) hsf.1⟩
   ·split
    ·exact⟨fun e=>by rw[e]at hc;simp at hc,by omega,hc.2⟩
    ·split
     ·exact⟨by simp,by simp;omega,sN hsi.1 (by intro x hx;simp at hx;omega)⟩
     ·split
      ·exact⟨by simp,by simp;omega,sN hsi.1 (by intro x hx;simp at hx;omega)⟩
      ·rename_i h1 h2 h3 h4 h5 h6
       exfalso
       unfold nO at hp;rw[yaa (by omega),yaa h1,yaa h4,yaa (by omega)]at hp
       cases hp
def zly{op:Nat}(h:op<27):(mD op).word.length<=10/\∀x∈(mD op).word,x<256:=by
 have:∀k,k<27->(mD k).word.length<=10/\∀x∈(mD k).word,x<256:=by decide +kernel
 exact this op h
def zbj{op:Nat}(h:op<27):((mD op).style=1->op=1)/\((mD op).style=2->(mD op).word≠[])/\((mD op).style=3->1<=(mD op).least)/\((mD op).style=4->2<=(mD op).least)/\((mD op).style=5->1<=(mD op).least/\(mD op).word≠[])/\(mD op).style<=6/\(mD op).most<=3/\(op=1->(mD op).style=1):=by
 have:∀k,k<27->((mD k).style=1->k=1)/\((mD k).style=2->(mD k).word≠[])/\((mD k).style=3->1<=(mD k).least)/\((mD k).style=4->2<=(mD k).least)/\((mD k).style=5->1<=(mD k).least/\(mD k).word≠[])/\(mD k).style<=6/\(mD k).most<=3/\(k=1->(mD k).style=1):=by decide +kernel
 exact this op h
def zrh{s:List Nat}(h:zK s=true):s.length<=24:=by
 unfold zK at h;split at h
 ·simp
 ·simp only[ybb,decide_eq_true_eq]at h
  exact h.1.1.1
def yI (h:Nat):Nat:=86000+200*h
def WOk (bf:Nat)(x:dA):Prop:=∀(d:Nat) (cs:List zA) (tf t:Tr rA) (bx:Nat) (s:List Nat) (Q:uC),x.fit->rF x d=true->lD tf bf none vL->rJ tf->gM tf->RD tf x.d cs->BX 166 [.ptr bf 0] tf t bx s->s.length<=95000 →
 (∀t' s',BX 166 [.ptr bf 0] tf t' bx s'->s'≠[]->s'.length<=max s.length (yI (25-d))->Q (.tup []) t')->Wc yA F 87 [.ptr bx 0,.agg cs] t Q
def gL{b:Nat}:tB yA 166 0 (.ptr b 0)=some (.ptr b 0):=by kernel_rfl
def z0n{b:Nat}:tB yA 166 1 (.ptr b 0)=some (.ptr b 2):=by kernel_rfl
def BX.forms{bf bx:Nat}{s:List Nat}(h:BX 166 [.ptr bf 0] tf t bx s):oA yA 132 ⟨0,t⟩ (.ptr bx 2)=some (.ptr bf 0):=by
 obtain⟨_,_,_,_,_,p,tv,_,h4,_,_⟩:=h
 exact h4.load1 (j:=2) ty132 rfl rfl
section
variable {bf bx:Nat}{s:List Nat}{Q:uC}
def zpz{y:dA}{d:Nat}{cs:List zA}{lev:Int}(hy:WOk bf y)(hfit:y.fit)(hP:rF y d=true)(hF:lD tf bf none vL)(hM:rJ tf)(hW:gM tf)(hr:RD tf y.d cs)(hB:BX 166 [.ptr bf 0] tf t bx s)(hs:s.length<=94000)(hd1:1<=d)
  (hQ:∀t' s',BX 166 [.ptr bf 0] tf t' bx s'->s'≠[]->s'.length<=max s.length (yI (25-d))+2->Q (.tup []) t'):Wc yA F 121 [.ptr bx 0,.agg cs,.int .i64 lev] t Q:=by
 obtain⟨a,b,c,rfl,ha,hb,hc⟩:=cJ hr
 have hop:y.op<27:=by
  obtain⟨op,name,v,args⟩:=y
  unfold rF zlu at hP;simp only[ybb,decide_eq_true_eq]at hP;exact hP.1.2.1.1.1.1
 have hbm:yI (25-d)<=91000:=by unfold yI;omega
 refine w121 _ _ _ _ _ _ _ _ _ _ _ ?_
 unfold t121;refine jA bE (jA z0n (lC hB.forms (jA bE (jA (zz4 hop) (jA (fL (by decide)) (lC (z4d (hF.up hB.le) hop) (wC ?_)))))))
 by_cases hl:lev<=((mD y.op).level:Int)
 ·refine mA (yLe hl) (vC ?_)
  rw[q87];exact hy d _ tf t bx s _ hfit hP hF hM hW hr hB (by omega) fun t' s' h1 h2 h3=>hQ t' s' h1 h2 (by omega)
 ·refine lA (nLe hl) (jA bE (jA gL (vC ?_)))
  rw[ztv];refine hB.write (by simp) (by intro x hx;simp at hx;omega) (by simp;omega) fun _ t1 h1=>vC ?_
  rw[q87];refine hy d _ tf t1 bx _ _ hfit hP hF hM hW hr h1 (by simp;omega) fun t2 s2 h2 h2n h2l=>jA bE (jA gL (vC ?_))
  rw[ztv];simp only[ybg,List.length_singleton]at h2l;refine h2.write (by simp) (by intro x hx;simp at hx;omega) (by simp;omega) fun _ t3 h3=>?_
  exact hQ _ _ h3 (by simp) (by simp;omega)
def z1i{args:List dA}{d:Nat}{c:zA}(hall:∀y∈args,WOk bf y)(hfits:∀y∈args,y.fit)(hP:∀y∈args,rF y (d+1)=true)(hF:lD tf bf none vL)(hM:rJ tf)(hW:gM tf)(hc:cA tf 9 (args.map dA.d) c)(hlen:args.length<=3)(hd:d<=24)
  {c0 c2 c7:Int} {c1:List Nat} {c3 c5:Bool} {c4 c6 c8:zA} (h19c:c0=19->0<=c7/\c7<256):∀(k i:Nat) (t:Tr rA) (s:List Nat),i+k=args.length->BX 166 [.ptr bf 0] tf t bx s->s≠[]->s.length<=yI (24-d)+100+2*i →
  (∀t' s',BX 166 [.ptr bf 0] tf t' bx s'->s'≠[]->s'.length<=yI (24-d)+130->Q (.tup []) t') →
  jp 122 2 [.ptr bx 0,c,.int .i64 (args.length:Int),.int .i64 (i:Int),.int .u8 c0,.str c1,.int .u8 c2,.bool c3,c4,.bool c5,c6,.int .i64 c7,c8] t Q:=by
 have hbm:yI (24-d)<=91000:=by unfold yI;omega
 intro k;induction k with
 | zero=>
  intro i t s hi hB hn hs hQ;refine z7m _ _ _ _ _ _ _ _ _ _ _ _ _ ?_
  unfold zxf;refine lA (dF (by omega)) ?_
  by_cases h19:c0=19
  ·refine mA (iD h19) (jA bE (jA gL (vC ?_)))
   obtain⟨n,hn1,hn2⟩:∃n:Nat,wA .u8 c7=(n:Int)/\n<256:=⟨c7.toNat,by have:=h19c h19;rw[zhs this.1 this.2];omega,by have:=h19c h19;omega⟩
   obtain⟨w,hw1,hw2,hw3⟩:=zoq (hW.mono hB.le) hn2
   rw[hn1,q149,hw1,vA];refine kH (jA (oL (by simp;omega)) (kH (vC ?_)))
   rw[ztv];refine hB.write (by simp) (sN (by intro x hx;simp at hx;omega) hw3) (by simp;omega) fun _ t1 h1=>jA bE (jA gL (vC ?_))
   rw[ztv];refine h1.write (by simp) (by intro x hx;simp at hx;omega) (by simp;omega) fun _ t2 h2=>?_
   exact hQ _ _ h2 (by simp) (by simp;omega)
  ·refine lA (sC h19) (jA bE (jA gL (vC ?_)))
   rw[ztv];refine hB.write (by simp) (by intro x hx;simp at hx;omega) (by simp;omega) fun _ t2 h2=>?_
   exact hQ _ _ h2 (by simp) (by simp;omega)
 | succ k ih=>
  intro i t s hi hB hn hs hQ;have hlt:i<args.length:=by omega
  have hm:args[i]∈args:=ycj hlt
  refine z7m _ _ _ _ _ _ _ _ _ _ _ _ _ ?_
  unfold zxf;obtain⟨b0,off0,cs,g1,g2,_,_,g5⟩:=zF.at z8t (by simp) hc (i:=i) (d:=args[i].d) (by simp[hlt])
  have ld:oA yA 36 ⟨0,t⟩ (.ptr b0 off0)=some (tX true cs):=kV (H:=⟨0,tf⟩) (HA:=⟨0,t⟩) hB.le g2
  refine mA (zG (by omega)) (jA g1 (lC ld ?_))
  rw[sK];refine sF (lI g5 (dA.zs _)) ?_
  have hmk:=g5.mk (dA.zs args[i])
  have hcs:[zA.int .u8 ((cellsOf cs).i 0),.str ((cellsOf cs).s 1),.int .u8 ((cellsOf cs).i 2),.bool ((cellsOf cs).b 3),(cellsOf cs).v 4,.bool ((cellsOf cs).b 5),(cellsOf cs).v 6,.int .i64 ((cellsOf cs).i 7),(cellsOf cs).v 8]=cs:=hmk
  rw[hcs];refine mA g5.all ?_
  have next:∀t' s',BX 166 [.ptr bf 0] tf t' bx s'->s'≠[]->s'.length<=yI (24-d)+100+2*(i+1)->jp 122 2 [.ptr bx 0,c,.int .i64 (args.length:Int),.int .i64 (wA .i64 ((i:Int)+1)),.int .u8 c0,.str c1,.int .u8 c2,.bool c3,c4,.bool c5,c6,.int .i64 c7,c8] t' Q:=by
   intro t' s' h1 h2 h3;rw[wrap_i64 (by omega) (by omega),show(i:Int)+1=((i+1:Nat):Int) by omega]
   exact ih (i+1) t' s' (by omega) h1 h2 h3 hQ
  have e25:25-(d+1)=24-d:=by omega
  by_cases h0:0<i
  ·refine mA (zG (by omega)) (jA bE (jA gL (vC ?_)))
   rw[ztv];refine hB.write (by simp) (by intro x hx;simp at hx;omega) (by simp;omega) fun _ t1 h1=>vC ?_
   rw[q87];refine hall _ hm (d+1) _ tf t1 bx _ _ (hfits _ hm) (hP _ hm) hF hM hW g5 h1 (by simp;omega) fun t2 s2 h2 h2n h2l=>oC ?_
   rw[e25]at h2l;simp only[ybg,ybn,ybx]at h2l;exact next t2 s2 h2 h2n (by omega)
  ·refine lA (dF (by omega)) (vC ?_)
   rw[q87];refine hall _ hm (d+1) _ tf t bx _ _ (hfits _ hm) (hP _ hm) hF hM hW g5 hB (by omega) fun t2 s2 h2 h2n h2l=>oC ?_
   rw[e25]at h2l;exact next t2 s2 h2 h2n (by omega)
def zps{op:Nat}{name:List Nat}{v:mH}{args:List dA}{d:Nat}{a b c:zA}(hall:∀y∈args,WOk bf y)(hfit:dA.fit (.mk op name v args))(hP:rF (.mk op name v args) d=true)(hs6:(mD op).style=6)(hF:lD tf bf none vL)(hM:rJ tf)(hW:gM tf)
  (hc:cA tf 9 (args.map dA.d) c) (hB:BX 166 [.ptr bf 0] tf t bx s) (hs:s.length<=65536)
  (hQ:∀t' s',BX 166 [.ptr bf 0] tf t' bx s'->s'≠[]->s'.length<=yI (25-d)->Q (.tup []) t') :
  Wc yA F 122 [.ptr bx 0,.agg [.int .u8 op,.str name,.int .u8 v.kind,.bool v.f.n.neg,a,.bool v.f.d.neg,b,.int .i64 v.i,c],.ptr bf (op*8)] t Q:=by
 unfold rF zlu at hP;simp only[ybb,decide_eq_true_eq]at hP;obtain⟨⟨hd,⟨⟨⟨h27,_⟩,hl⟩,hm⟩,hnm⟩,hrest⟩:=hP
 obtain⟨f1,f2,f3,f4,f5,f6,f7,f8⟩:=zbj h27
 have hw:=zly h27
 have h1:op≠1:=fun e=>by have:=f8 e;omega
 rw[yaa h1,ybb,zau,ycb]at hrest;unfold dA.fit at hfit;have hfits:=dA.fits_mem hfit.2.2.2.2.2
 have hmax:yI (25-d)=yI (24-d)+200:=by unfold yI;omega
 have h19c:(op:Int)=19->0<=v.i/\v.i<256:=by
  intro e;have hcp:=hrest.1
  unfold zmg at hcp;rw[yab (by omega)]at hcp
  simp only[ybb,decide_eq_true_eq]at hcp;omega
 have go9:∀t' s',BX 166 [.ptr bf 0] tf t' bx s'->s'≠[]->s'.length<=65536+100->jp 122 9 [.ptr bx 0,.int .u8 op,.str name,.int .u8 v.kind,.bool v.f.n.neg,a,.bool v.f.d.neg,b,.int .i64 v.i,c] t' Q:=by
  intro t' s' k1 k2 k3;refine j122_9 _ _ _ _ _ _ _ _ _ _ ?_
  unfold z6t;have hlen:=hc.len
  rw[ybf]at hlen;refine jA hlen (wC (oC ?_))
  refine z1i (d:=d) hall hfits (fun y hy=>hrest.2 y hy) hF hM hW hc (by omega) hd h19c args.length 0 t' s' (by omega) k1 k2 (by unfold yI;omega) fun t2 s2 g1 g2 g3=>hQ t2 s2 g1 g2 (by omega)
 refine w122 _ _ _ _ _ _ _ _ _ _ _ ?_
 unfold t122;have hld:=zy4 (hF.up hB.le) h27
 refine jA bE (jA gL (jA bE (jA (fL (by decide)) (lC hld (kH (jA (oL (by simp;omega)) (kH (vC ?_))))))))
 rw[ztv];refine hB.write (by simp) (sN hw.2 (by intro x hx;simp at hx;omega)) (by simp;omega) fun _ t1 h1=>?_
 refine jA bE (jA (fL (by decide)) (lC (zrp (hF.up h1.le) h27) (xD ?_)))
 cases hn:(mD op).named with
 | true=>
  rw[hn,yab rfl]at hnm;have hnl:=zrh hnm
  refine mA rfl (jA bE (jA gL (jA (oL (by simp;omega)) (kH (vC ?_)))))
  rw[ztv];refine h1.write (by simp) (sN hfit.2.2.1 (by intro x hx;simp at hx;omega)) (by simp;omega) fun _ t2 h2=>oC ?_
  exact go9 _ _ h2 (by simp) (by simp;omega)
 | false=>exact lA (by simp) (oC (go9 _ _ h1 (by simp) (by simp;omega)))
mutual
/-- THE WRITER COMES TO AN END -/
def zjx:∀(x:dA),WOk bf x
 | .mk op name v args=>by
  have hall:=zfx args
  intro d cs tf t bx s Q hfit hP hF hM hW hr hB hs hQ;have hP0:=hP
  have hfit0:=hfit
  obtain⟨a,b,c,rfl,ha,hb,hc⟩:=cJ hr
  simp only[dA.op,dA.name,dA.v,dA.args]at ha hb hc ⊢
  unfold rF zlu at hP;simp only[ybb,decide_eq_true_eq]at hP;obtain⟨⟨hd,⟨⟨⟨h27,hs0⟩,hl⟩,hm⟩,hnm⟩,hrest⟩:=hP
  simp only[ycp,decide_eq_false_iff_not]at hs0;obtain⟨f1,f2,f3,f4,f5,f6,f7,f8⟩:=zbj h27
  have hw:=zly h27
  unfold dA.fit at hfit;have hfits:=dA.fits_mem hfit.2.2.2.2.2
  have hmax:yI (25-d)=yI (24-d)+200:=by unfold yI;omega
  have e25:25-(d+1)=24-d:=by omega
  have hmb:yI (24-d)<=91000/\86000<=yI (24-d):=by unfold yI;omega
  refine w87 _ _ _ _ _ _ _ _ _ _ ?_
  unfold t87;refine jA bE (jA gL (vC ?_))
  rw[q118,hB.len,vA];refine wC ?_
  by_cases hbig:65536<s.length
  ·refine mA (zG (by omega)) ?_
   exact hQ t s hB (fun e=>by rw[e]at hbig;simp at hbig) (by omega)
  refine lA (dF (by omega)) ?_
  have hFt:=hF.up hB.le
  refine jA bE (jA z0n (lC hB.forms (jA bE (jA (zz4 h27) (jA bE (jA (fL (by decide)) (lC (zro hFt h27) (wC ?_))))))))
  have ldw:∀ {t'},zB tf t'->oA yA 9 ⟨0,t'⟩ (.ptr bf (op*8+1))=some (.str (mD op).word):=fun h=>zy4 (hF.up h) h27
  have notc:(mD op).style≠1->zjp args (d+1)=true:=by
   intro hne;have h1:op≠1:=fun e=>hne (f8 e)
   rw[yaa h1,ybb]at hrest;exact hrest.2
  have arg:∀(i:Nat) (lev:Int) (t1:Tr rA) (s1:List Nat) (K:zA->T) (Q:uC) (k:Nat),(mD op).style≠1->i<args.length->k<8->BX 166 [.ptr bf 0] tf t1 bx s1->s1.length<=94000->oA yA 3 ⟨0,t1⟩ (.ptr bf (op*8+k))=some (.int .i64 lev) →
    (∀t' s',BX 166 [.ptr bf 0] tf t' bx s'->s'≠[]->s'.length<=max s1.length (yI (24-d))+2->wp 87 (K (.tup [])) t' Q) →
    wp 87 (.opt (mB yA 34 c (.int .i64 (i:Int))) fun a36=>.light (fun m=>oA yA 36 ⟨0,m⟩ a36) fun a37=>.asG [(.int .u8 0),(.str []),(.int .u8 0),(.bool false),.nilslice,(.bool false),.nilslice,(.int .i64 0),.nilslice] a37 fun X38=>
     .opt (iC (.ptr bf (op*8))) fun a39=>.opt (tB yA 159 k a39) fun a40=>.light (fun m=>oA yA 3 ⟨0,m⟩ a40) fun a41=>.asI .i64 a41 fun n42=>.call 121 [.ptr bx 0,(.agg [(.int .u8 (X38.i 0)),(.str (X38.s 1)),(.int .u8 (X38.i 2)),(.bool (X38.b 3)),(X38.v 4),(.bool (X38.b 5)),(X38.v 6),(.int .i64 (X38.i 7)),(X38.v 8)]),(.int .i64 n42)] K) t1 Q:=by
   intro i lev t1 s1 K Q k hne hi hk h1 hs1 hldp hQ';have hm:args[i]∈args:=ycj hi
   obtain⟨b0,off0,cs,g1,g2,_,_,g5⟩:=zF.at z8t (by simp) hc (i:=i) (d:=args[i].d) (by simp[hi])
   have ld:oA yA 36 ⟨0,t1⟩ (.ptr b0 off0)=some (tX true cs):=kV (H:=⟨0,tf⟩) (HA:=⟨0,t1⟩) h1.le g2
   refine jA g1 (lC ld ?_)
   rw[sK];refine sF (lI g5 (dA.zs _)) ?_
   have hmk:=g5.mk (dA.zs args[i])
   have hcs:[zA.int .u8 ((cellsOf cs).i 0),.str ((cellsOf cs).s 1),.int .u8 ((cellsOf cs).i 2),.bool ((cellsOf cs).b 3),(cellsOf cs).v 4,.bool ((cellsOf cs).b 5),(cellsOf cs).v 6,.int .i64 ((cellsOf cs).i 7),(cellsOf cs).v 8]=cs:=hmk
   rw[hcs];refine jA bE (jA (fL hk) (lC hldp (wC (vC ?_))))
   rw[q121];have hPy:rF args[i] (d+1)=true:=by
    have:=notc hne
    rw[zau,ycb]at this;exact this _ hm
   refine zpz (d:=d+1) (hall _ hm) (hfits _ hm) hPy hF hM hW g5 h1 hs1 (by omega) fun t' s' k1 k2 k3=>?_
   rw[e25]at k3;exact hQ' t' s' k1 k2 k3
  have done:∀t' s',BX 166 [.ptr bf 0] tf t' bx s'->s'≠[]->s'.length<=yI (25-d)->wp 87 (.ret (.tup [])) t' Q:=fun t' s' k1 k2 k3=>hQ t' s' k1 k2 (by omega)
  have i0:((0:Nat):Int)=0:=rfl
  have i1:((1:Nat):Int)=1:=rfl
  have arg0:=arg 0
  have arg1:=arg 1
  rw[i0]at arg0;rw[i1]at arg1;have style:(mD op).style=1\/(mD op).style=2\/(mD op).style=3\/(mD op).style=4\/(mD op).style=5\/(mD op).style=6:=by omega
  rcases style with e | e | e | e | e | e
  ·-- a constant
   refine mA (iD (by omega)) (jA bE (jA gL (vC ?_)))
   have hop1:=f1 e
   rw[yab hop1]at hrest;obtain⟨v1,v2,v3⟩:=zng hfit.2.2.2.1 hrest
   have hv:=zj0 (date:=z1j v.i) (ha.mono hB.le) (hb.mono hB.le) hfit.2.2.2.1 hrest (fun hk=>by
    have hp:=hrest
    unfold nO at hp;rw[yaa (by omega),yaa (by omega),yab hk]at hp
    simp only[ybb,decide_eq_true_eq]at hp;exact cal_ok (hM.mono hB.le) hp.2.1 hp.2.2)
   rw[q120,hv,vA];refine kH (vC ?_)
   rw[ztv];refine hB.write v1 v3 (by omega) fun _ t1 h1=>done _ _ h1 (by simp[v1]) ?_
   rw[ybg];unfold yI;omega
  ·-- a word
   refine lA (sC (by omega)) (mA (iD (by omega)) (jA bE (jA gL (jA bE (jA (fL (by decide)) (lC (ldw hB.le) (kH (vC ?_))))))))
   rw[ztv];refine hB.write (f2 e) hw.2 (by omega) fun _ t1 h1=>done _ _ h1 (by simp[f2 e]) ?_
   rw[ybg];omega
  ·-- word,name,at
   have hnl:name.length<=24:=by
    split at hnm
    ·exact zrh hnm
    ·have:=(jK _ _).1 hnm;rw[this];simp
   have h3:=f3 e
   refine lA (sC (by omega)) (lA (sC (by omega)) (mA (iD (by omega)) (jA bE (jA gL (jA bE (jA (fL (by decide)) (lC (ldw hB.le) (kH (jA (oL (by omega)) (kH (jA (oL (by simp;omega)) (kH (vC ?_)))))))))))))
   rw[ztv];refine hB.write (by simp) (sN (sN hw.2 hfit.2.2.1) (by intro x hx;simp at hx;omega)) (by simp;omega) fun _ t1 h1=>?_
   refine arg0 _ t1 _ _ _ 6 (by omega) (by omega) (by decide) h1 (by simp;omega) (zow (hF.up h1.le) h27) fun t2 s2 k1 k2 k3=>done _ _ k1 k2 ?_
   simp only[ybg,ybn,ybx]at k3;omega
  ·-- an operator
   have h4:=f4 e
   refine lA (sC (by omega)) (lA (sC (by omega)) (lA (sC (by omega)) (mA (iD (by omega)) ?_)))
   refine arg0 _ t _ _ _ 6 (by omega) (by omega) (by decide) hB (by omega) (zow hFt h27) fun t1 s1 k1 k2 k3=>?_
   refine jA bE (jA gL (jA bE (jA (fL (by decide)) (lC (ldw k1.le) (kH (jA (oL (by simp;omega)) (kH (jA (oL (by simp;omega)) (kH (vC ?_))))))))))
   rw[ztv];refine k1.write (by simp) (sN (sN (by intro x hx;simp at hx;omega) hw.2) (by intro x hx;simp at hx;omega)) (by simp;omega) fun _ t2 h2=>?_
   refine arg1 _ t2 _ _ _ 7 (by omega) (by omega) (by decide) h2 (by simp;omega) (z4c (hF.up h2.le) h27) fun t3 s3 m1 m2 m3=>done _ _ m1 m2 ?_
   simp only[ybg,ybn,ybx]at m3;omega
  ·-- not
   have h5:=f5 e
   refine lA (sC (by omega)) (lA (sC (by omega)) (lA (sC (by omega)) (lA (sC (by omega)) (mA (iD (by omega)) (jA bE (jA gL (jA bE (jA (fL (by decide)) (lC (ldw hB.le) (kH (vC ?_)))))))))))
   rw[ztv];refine hB.write h5.2 hw.2 (by omega) fun _ t1 h1=>?_
   refine arg0 _ t1 _ _ _ 6 (by omega) (by omega) (by decide) h1 (by simp;omega) (zow (hF.up h1.le) h27) fun t2 s2 k1 k2 k3=>done _ _ k1 k2 ?_
   simp only[ybg]at k3;omega
  ·-- a call
   refine lA (sC (by omega)) (lA (sC (by omega)) (lA (sC (by omega)) (lA (sC (by omega)) (lA (sC (by omega)) (mA (iD (by omega)) (vC ?_))))))
   rw[q122];exact zps hall hfit0 hP0 e hF hM hW hc hB (by omega) fun t' s' k1 k2 k3=>done t' s' k1 k2 k3
def zfx:∀(l:List dA),∀y∈l,WOk bf y
 | [],_,h=>by cases h
 | x::l,y,h=>by
  rcases ybs.1 h with e | h
  ·rw[e];exact zjx x
  ·exact zfx l y h
end
end
end Go.Proofs
namespace Go.Proofs
open Go Go.Am
section
variable [fC]
variable {t tf:Tr rA}
def zpa{x:dA}{cs:List zA}{Q:uC}(hfit:x.fit)(hP:rF x 1=true)(hM:rJ t)(hW:gM t)(hr:RD t x.d cs)(hQ:∀t' s,zB t t'->s≠[]->Q (.str s) t'):Wc yA F 65 [.agg cs] t Q:=by
 obtain⟨a,b,c,rfl,ha,hb,hc⟩:=cJ hr
 refine w65 _ _ _ _ _ _ _ _ _ ?_
 unfold t65;refine vC ?_
 rw[q83];refine zdy fun bf t1 h1 h2 h3 h4 h5=>?_
 refine mA rfl (yG fun bx hbx hbb=>?_)
 obtain⟨t2,e1,e2,e3,e4⟩:=zS hbx [.nilptr,.nilslice,.ptr bf 0] (some (.ty 166))
 have hbox:zs9 yA 166 (.agg [.nilptr,.nilslice,.ptr bf 0]) ⟨bx,t1⟩=some (.ptr bx 0,⟨bx+1,t2⟩):=by
  unfold zs9;have:fI yA 166=some (.ty 166):=by kernel_rfl
  rw[this,<- e1];rfl
 refine⟨_,_,hbox,vC ?_⟩
 have hB:BX 166 [.ptr bf 0] t1 t2 bx []:=⟨hbb,hbx,e3,(by intro x hx;cases hx),rfl,.nilptr,.nilslice,.inl rfl,e2,.inl ⟨rfl,rfl⟩,zeh⟩
 rw[q87];refine zjx x 1 _ t1 t2 bx [] _ hfit hP h3 (hM.mono h4) (hW.mono h4) (hr.mono h4) hB (by simp) fun t3 s h6 h7 h8=>?_
 refine jA bE (jA gL (vC ?_))
 rw[q88];have hl:s.length<=91000:=by
  have:yI (25-1)=90800:=rfl
  rw[this]at h8;simp at h8;omega
 exact h6.string h7 (by omega) fun t4 h9=>kH (hQ _ _ (h4.trans h9) h7)
def z5b{x:dA}{cs:List zA}{Q:uC}(hfit:x.fit)(hM:rJ t)(hW:gM t)(hr:RD t x.d cs)
  (hQ:∀t' s e,zB t t'->(if rF x 1=true then(s≠[]/\e=0\/s=[]/\e=3)else s=[]/\e=2)->Q (.tup [.str s,.int .i64 e]) t'):Wc yA F 43 [.agg cs] t Q:=by
 have hr0:=hr
 obtain⟨a,b,c,rfl,ha,hb,hc⟩:=cJ hr
 refine w43 _ _ _ _ _ _ _ _ _ ?_
 unfold t43;refine vC ?_
 rw[q63];refine zaj fun bf t1 h1 h2 h3 h4 h5=>?_
 have e:(cellsOf [zA.ptr bf 0]).v 0=.ptr bf 0:=rfl
 refine sF (dL rfl) (mA hr0.sameA (vC ?_))
 have he:=zjd h3 x 1 _ hfit (by omega) (hr0.mono h4)
 rw[show((1:Nat):Int)=1 from rfl]at he
 rw[q64,e,he,vA];refine xD ?_
 cases hP:rF x 1 with
 | false=>
  refine mA rfl ?_
  exact hQ _ _ _ h4 (by rw[hP,yaa (by simp)];exact⟨rfl,rfl⟩)
 | true=>
  refine lA (by simp) (vC ?_)
  rw[q65];refine zpa hfit hP (hM.mono h4) (hW.mono h4) (hr0.mono h4) fun t2 s h6 h7=>kH ?_
  by_cases hl:65536<s.length
  ·refine mA (zG (by rw[kL];omega)) ?_
   exact hQ _ _ _ (h4.trans h6) (by rw[hP,yab rfl];exact .inr ⟨rfl,rfl⟩)
  ·refine lA (dF (by rw[kL];omega)) ?_
   exact hQ _ _ _ (h4.trans h6) (by rw[hP,yab rfl];exact .inl ⟨h7,rfl⟩)
end
section
variable [fC]
variable {t tf:Tr rA}
def xK (l:List jE)(s:List Nat):Option jE:=l.find? fun d=>xF d.name s
def zI (l:List qE)(s:List Nat):Option qE:=l.find? fun d=>xF d.name s
def defV:Option jE->zA
 | some d=>.tup [.agg [.str d.name,.int .u8 d.kind,.bool d.fact],.bool true]
 | none=>.tup [.agg [.str [],.int .u8 0,.bool false],.bool false]
def zJ{α:Type}{l:List α}{i:Nat}(h:i<l.length):l.drop i=l[i]::l.drop (i+1):=ybl h
def z5l{l:List jE}{s:List Nat}{v:zA}(hr:cA t 3 (l.map jE.d) v)(hlen:l.length<cC):∀(k i:Nat),i+k=l.length->jp 19 2 [.str s,v,.int .i64 (l.length:Int),.int .i64 (i:Int),.str [],.int .u8 0,.bool false] t (fun x t'=>x=defV (xK (l.drop i) s)/\t'=t):=by
 unfold cC at hlen;intro k;induction k with
 | zero=>
  intro i hi;refine j19_2 _ _ _ _ _ _ _ (lA (dF (by omega)) (mA rfl (mA rfl ?_)))
  rw[ybt (by omega)]
  exact⟨rfl,rfl⟩
 | succ k ih=>
  intro i hi;have hlt:i<l.length:=by omega
  obtain⟨b,off,cs,g1,g2,_,_,g5⟩:=zF.at sl22 (by simp) hr (i:=i) (d:=l[i].d) (by simp[hlt])
  refine j19_2 _ _ _ _ _ _ _ (mA (zG (by omega)) (jA g1 (lC g2 ?_)))
  rw[sK];have hcs:=zkr g5
  subst hcs;refine sF (lI g5 (jE.zs _)) (mA rfl ?_)
  rw[zJ hlt];unfold xK;rw[List.find?_cons]
  cases he:xF l[i].name s with
  | true=>exact mA he (mA rfl ⟨rfl,rfl⟩)
  | false=>
   refine lA (by show ¬ (xF l[i].name s=true);rw[he];simp) (oC ?_)
   rw[wrap_i64 (by omega) (by omega),show(i:Int)+1=((i+1:Nat):Int) by omega]
   exact ih (i+1) (by omega)
def zsk{p:eC}{cs:List zA}{s:List Nat}(hp:p.fit)(hr:RD t p.d cs):lB yA F 19 [.agg cs,.str s] t=some (defV (xK p.defs s)):=by
 obtain⟨a,b,c,rfl,ha,hb,hc⟩:=xN hr
 refine jC.2 (w19 _ _ _ _ _ (jA ha.len (wC (oC ?_))))
 rw[ybf];have:=z5l (s:=s) ha hp.ndefs p.defs.length 0 (by omega)
 rw[ycr]at this;exact this
def TabV (t:Tr rA)(o:Option qE)(v:zA):Prop:=
 match o with
 | some x=>∃a,v=.tup [.agg [.str x.name,.bool x.two,a],.bool true]/\cA t 7 (x.rows.map vH.d) a
 | none=>v=.tup [.agg [.str [],.bool false,.nilslice],.bool false]
def z2r{l:List qE}{s:List Nat}{v:zA}(hr:cA t 3 (l.map qE.d) v)(hlen:l.length<cC):∀(k i:Nat),i+k=l.length->∃r,TabV t (zI (l.drop i) s) r/\jp 54 2 [.str s,v,.int .i64 (l.length:Int),.int .i64 (i:Int),.str [],.bool false,.nilslice] t (fun x t'=>x=r/\t'=t):=by
 unfold cC at hlen;intro k;induction k with
 | zero=>
  intro i hi;rw[ybt (by omega)]
  exact⟨_,rfl,z9t _ _ _ _ _ _ _ (lA (dF (by omega)) (mA rfl (mA rfl ⟨rfl,rfl⟩)))⟩
 | succ k ih=>
  intro i hi;have hlt:i<l.length:=by omega
  obtain⟨b,off,cs,g1,g2,_,_,g5⟩:=zF.at sl23 (by simp) hr (i:=i) (d:=l[i].d) (by simp[hlt])
  have g50:=g5
  obtain⟨a,rfl,ha⟩:=uW g5
  rw[zJ hlt];have hone:tC zA.one [.str l[i].name,.bool l[i].two,a]=true:=g50.all
  unfold zI;rw[List.find?_cons]
  cases he:xF l[i].name s with
  | true=>
   refine⟨_,⟨a,rfl,ha⟩,z9t _ _ _ _ _ _ _ (mA (zG (by omega)) (jA g1 (lC g2 ?_)))⟩
   rw[sK];exact sF (lI g50 (qE.zs _)) (mA hone (mA he (mA hone ⟨rfl,rfl⟩)))
  | false=>
   obtain⟨r,h1,h2⟩:=ih (i+1) (by omega)
   refine⟨r,h1,z9t _ _ _ _ _ _ _ (mA (zG (by omega)) (jA g1 (lC g2 ?_)))⟩
   rw[sK];refine sF (lI g50 (qE.zs _)) (mA hone (lA (by show ¬ (xF l[i].name s=true);rw[he];simp) (oC ?_)))
   rw[wrap_i64 (by omega) (by omega),show(i:Int)+1=((i+1:Nat):Int) by omega]
   exact h2
def z6f{p:eC}{cs:List zA}(hp:p.fit)(hr:RD t p.d cs)(s:List Nat):∃r,TabV t (zI p.tables s) r/\lB yA F 54 [.agg cs,.str s] t=some r:=by
 obtain⟨a,b,c,rfl,ha,hb,hc⟩:=xN hr
 obtain⟨r,h1,h2⟩:=z2r (s:=s) hb hp.ntables p.tables.length 0 (by omega)
 rw[ycr]at h1;refine⟨r,h1,jC.2 (w54 _ _ _ _ _ (jA hb.len (wC (oC ?_))))⟩
 rw[ybf];exact h2
def mL(p:eC)(op:Nat)(name:List Nat)(n:Nat):Nat × Bool:=
 if op=3\/op=4\/op=21\/op=22\/op=5 then
  match xK p.defs name with
  | some d=>(d.kind,cF d.fact (!decide (op=5))&&(decide (1<=d.kind)&&decide (d.kind<=6)))
  | none=>(0,false)
 else if op=6 then
  match zI p.tables name with
  | some x=>(0,cF x.two (decide (n=2)))
  | none=>(0,false)
 else if op=23 then
  match zI p.tables name with
  | some x=>(0,!x.two)
  | none=>(0,false)
 else(0,true)
def nmV (r:Nat × Bool):zA:=.tup [.int .u8 (r.1:Nat),.bool r.2]
def D66 (p0:zA)(p1_0:Int)(p1_1:List Nat):T:=
 (.opt (iC p0) fun a0=>.opt (tB yA 104 0 a0) fun a1=>.light (fun m=>oA yA 26 ⟨0,m⟩ a1) fun a2=>.asG [(.str []),.nilslice,.nilslice,.nilslice] a2 fun X3=>
 .heavy (bG yA 59) fun a4=>
 .call 19 [(.agg [(.str (X3.s 0)),(X3.v 1),(X3.v 2),(X3.v 3)]),(.str p1_1)] fun a5=>
 .opt (rB 0 a5) fun a6=>.asG [(.str []),(.int .u8 0),(.bool false)] a6 fun X7=>
 .opt (rB 1 a5) fun a8=>.asB a8 fun b9=>.heavy (wD yA 59 a4 (.agg [(.str (X7.s 0)),(.int .u8 (X7.i 1)),(.bool (X7.b 2))])) fun _=>
 .ite b9
 (.opt (tB yA 59 2 a4) fun a10=>.light (fun m=>oA yA 4 ⟨0,m⟩ a10) fun lF=>.asB lF fun b12=>.opt (tB yA 59 1 a4) fun a13=>.light (fun m=>oA yA 5 ⟨0,m⟩ a13) fun a14=>.asI .u8 a14 fun n15=>.ite (cF b12 (!iA p1_0 5))
 (.opt (tB yA 59 1 a4) fun a16=>.light (fun m=>oA yA 5 ⟨0,m⟩ a16) fun a17=>.asI .u8 a17 fun n18=>.ite (nC 1 n18)
 (.opt (tB yA 59 1 a4) fun a19=>.light (fun m=>oA yA 5 ⟨0,m⟩ a19) fun a20=>.asI .u8 a20 fun n21=>.ret (.tup [(.int .u8 n15),(.bool (nC n21 6))]))
 (.ret (.tup [(.int .u8 n15),(.bool false)])))
 (.ret (.tup [(.int .u8 n15),(.bool false)])))
 (.opt (tB yA 59 1 a4) fun a22=>.light (fun m=>oA yA 5 ⟨0,m⟩ a22) fun a23=>.asI .u8 a23 fun n24=>.ret (.tup [(.int .u8 n24),(.bool false)])))
def T66 (p0:zA)(p1_1:List Nat)(K:zA->zA->T):T:=
 (.opt (iC p0) fun a25=>.opt (tB yA 104 0 a25) fun a26=>.light (fun m=>oA yA 26 ⟨0,m⟩ a26) fun a27=>.asG [(.str []),.nilslice,.nilslice,.nilslice] a27 fun X28=>
 .heavy (bG yA 81) fun a29=>
 .call 54 [(.agg [(.str (X28.s 0)),(X28.v 1),(X28.v 2),(X28.v 3)]),(.str p1_1)] fun a30=>
 .opt (rB 0 a30) fun a31=>.asG [(.str []),(.bool false),.nilslice] a31 fun X32=>
 .opt (rB 1 a30) fun a33=>.asB a33 fun b34=>.heavy (wD yA 81 a29 (.agg [(.str (X32.s 0)),(.bool (X32.b 1)),(X32.v 2)])) fun _=>
 .ite b34
 (.opt (tB yA 81 1 a29) fun a35=>.light (fun m=>oA yA 4 ⟨0,m⟩ a35) fun a36=>K a36 a29)
 (.ret (.tup [(.int .u8 0),(.bool false)])))
def sL(t:Tr rA)(b m:Nat)(p:eC):Prop:=∃cs,RD t p.d cs/\lD t b none (cs++[.map m])
def zo9{b:Nat}:tB yA 104 0 (.ptr b 0)=some (.ptr b 0):=by kernel_rfl
def zo8{b:Nat}:tB yA 104 1 (.ptr b 0)=some (.ptr b 4):=by kernel_rfl
def sL.plan{b m:Nat}{p:eC}(h:sL t b m p):∃cs,RD t p.d cs/\cs.length=4/\oA yA 26 ⟨0,t⟩ (.ptr b 0)=some (.agg cs)/\lD t b none (cs++[.map m]):=by
 obtain⟨cs,h1,h2⟩:=h
 have hlen:cs.length=4:=by obtain⟨a,b,c,rfl,_⟩:=xN h1;rfl
 refine⟨cs,h1,hlen,?_,h2⟩
 have:=h2.at.load (C:=yA) (ty:=26) ty26 rfl (n:=4) rfl (j:=0) (by simp[hlen])
 rw[ybw]at this;rw[this];congr 2
 rw[ycr,List.take_left' hlen]
def rV{b T n:Nat}{l m:List zA}{y:pC}(h:lD t b none l)(hb:yA.base<=b)(hT:yA.tys.get T=some y)(hy:y.size=n)(hl:l.length=n)(hm:m.length=n)(hone:tC zA.one m=true):∃t',(∀k,wD yA T (.ptr b 0) (.agg m) ⟨k,t⟩=some (gD,⟨k,t'⟩))/\lD t' b none m/\cD b t t':=by
 obtain⟨t',h1,h2,h3⟩:=h.store (C:=yA) hb (T:=T) (v:=.agg m) (j:=0) hT (by show m.length=_;rw[hm,hy]) (by show 0+m.length<=_;omega) hone
 refine⟨t',h1,?_,h3⟩
 have e:cN l 0 (zA.agg m).cells=m:=by
  show cN l 0 m=m
  unfold cN;rw[List.take_zero,yah,ybt (by omega),ycd]
 rw[e]at h2;exact h2
def zik{p:eC}{cs:List zA}(h:RD t p.d cs):zm8 [.str [],.nilslice,.nilslice,.nilslice] (.agg cs)=some (cellsOf cs)/\[zA.str ((cellsOf cs).s 0),(cellsOf cs).v 1,(cellsOf cs).v 2,(cellsOf cs).v 3]=cs:=⟨lI h (eC.zs _),h.mk (eC.zs p)⟩
section
variable {b m:Nat}{p:eC}{op:Nat}{name:List Nat}{n:Nat}
def D_ok(hC:sL t b m p)(hp:p.fit)(hop:op=3\/op=4\/op=21\/op=22\/op=5):wp 66 (D66 (.ptr b 0) (op:Int) name) t (fun v t'=>v=nmV (mL p op name n)/\zB t t'):=by
 obtain⟨cs,h1,h2,h3,h4⟩:=hC.plan
 obtain⟨e1,e2⟩:=zik h1
 unfold D66 mL;rw[yab hop];refine jA bE (jA zo9 (lC h3 (sF e1 (yG fun bd hbd hbase=>?_))))
 obtain⟨t1,g1,g2,g3,g4⟩:=eS (C:=yA) z8b hbd
 refine⟨_,_,g1,vC ?_⟩
 rw[e2,q19,zsk hp (h1.mono g3),vA]
 have f1:tB yA 59 1 (.ptr bd 0)=some (.ptr bd 1):=by kernel_rfl
 have f2:tB yA 59 2 (.ptr bd 0)=some (.ptr bd 2):=by kernel_rfl
 have hb5:(!iA (op:Int) 5) = !decide (op=5):=by
  rw[jL];congr 2;exact propext (by omega)
 cases hd:xK p.defs name with
 | none=>
  refine jA rfl (sF (dL rfl) (jA rfl (xD (yG fun k _ _=>?_))))
  obtain⟨t2,k1,k2,k3⟩:=rV g2 hbase z8b rfl rfl (m:=[.str [],.int .u8 0,.bool false]) rfl rfl
  refine⟨_,_,k1 k,lA (by simp) (jA f1 (lC (k2.load1 (j:=1) ty5 rfl rfl) (wC ⟨rfl,fun c u hc=>?_⟩)))⟩
  have:c≠bd:=fun e=>by rw[e,hbd]at hc;cases hc
  rw[k3 c this];exact g3 _ _ hc
 | some d=>
  refine jA rfl (sF (dL rfl) (jA rfl (xD (yG fun k _ _=>?_))))
  obtain⟨t2,k1,k2,k3⟩:=rV g2 hbase z8b rfl rfl (m:=[.str d.name,.int .u8 d.kind,.bool d.fact]) rfl rfl
  have hle:zB t t2:=fun c u hc=>by
   have:c≠bd:=fun e=>by rw[e,hbd]at hc;cases hc
   rw[k3 c this];exact g3 _ _ hc
  have ld1:oA yA 5 ⟨0,t2⟩ (.ptr bd 1)=some (.int .u8 (d.kind:Int)):=k2.load1 (j:=1) ty5 rfl rfl
  have ld2:oA yA 4 ⟨0,t2⟩ (.ptr bd 2)=some (.bool d.fact):=k2.load1 (j:=2) ty4 rfl rfl
  refine⟨_,_,k1 k,mA rfl (jA f2 (lC ld2 (xD (jA f1 (lC ld1 (wC ?_))))))⟩
  rw[hb5];show wp 66 _ t2 _
  cases hf:cF d.fact (!decide (op=5))with
  | false=>exact lA (by simp) ⟨by simp[nmV,hf],hle⟩
  | true=>
   refine mA rfl (jA f1 (lC ld1 (wC ?_)))
   by_cases h6:1<=d.kind
   ·refine mA (yLe (by omega)) (jA f1 (lC ld1 (wC ⟨?_,hle⟩)))
    have:nC (d.kind:Int) 6=decide (d.kind<=6):=by rw[z4r];congr 1;exact propext (by omega)
    simp[nmV,hf,h6,this]
   ·refine lA (nLe (by omega)) ⟨?_,hle⟩
    simp[nmV,hf,h6]
def T_ok{R:Bool}{K:zA->zA->T}(hC:sL t b m p)(hp:p.fit)(hK:∀x bd t',zI p.tables name=some x->zB t t'->wp 66 (K (.bool x.two) bd) t' (fun v t'=>v=nmV (0,R)/\zB t t'))(hN:zI p.tables name=none->R=false):wp 66 (T66 (.ptr b 0) name K) t (fun v t'=>v=nmV (0,R)/\zB t t'):=by
 obtain⟨cs,h1,h2,h3,h4⟩:=hC.plan
 obtain⟨e1,e2⟩:=zik h1
 unfold T66;refine jA bE (jA zo9 (lC h3 (sF e1 (yG fun bd hbd hbase=>?_))))
 obtain⟨t1,g1,g2,g3,g4⟩:=eS (C:=yA) ty81 hbd
 refine⟨_,_,g1,vC ?_⟩
 obtain⟨r,r1,r2⟩:=z6f hp (h1.mono g3) name
 rw[e2,q54,r2,vA];have f1:tB yA 81 1 (.ptr bd 0)=some (.ptr bd 1):=by kernel_rfl
 cases hd:zI p.tables name with
 | none=>
  rw[hd]at r1;unfold TabV at r1;subst r1;refine jA rfl (sF (dL rfl) (jA rfl (xD (yG fun k _ _=>?_))))
  obtain⟨t2,k1,k2,k3⟩:=rV g2 hbase ty81 rfl rfl (m:=[.str [],.bool false,.nilslice]) rfl rfl
  rw[hN hd];refine⟨_,_,k1 k,lA (by simp) ⟨rfl,fun c u hc=>?_⟩⟩
  have:c≠bd:=fun e=>by rw[e,hbd]at hc;cases hc
  rw[k3 c this];exact g3 _ _ hc
 | some x=>
  rw[hd]at r1;obtain⟨a,rfl,ha⟩:=r1
  have hfz:lK [.str [],.bool false,.nilslice] [zA.str x.name,.bool x.two,a]=true:=by
   show(true&&(true&&(zsd .nilslice a&&true)))=true
   rw[uV ha];rfl
  have hone:tC zA.one [zA.str x.name,.bool x.two,a]=true:=by
   rw[lG];simp only[ycg,yck,ha.one];rfl
  refine jA rfl (sF (dL hfz) (jA rfl (xD (yG fun k _ _=>?_))))
  obtain⟨t2,k1,k2,k3⟩:=rV g2 hbase ty81 rfl rfl (m:=[.str x.name,.bool x.two,a]) rfl hone
  have hle:zB t t2:=fun c u hc=>by
   have:c≠bd:=fun e=>by rw[e,hbd]at hc;cases hc
   rw[k3 c this];exact g3 _ _ hc
  refine⟨_,_,k1 k,mA rfl (jA f1 (lC (k2.load1 (j:=1) ty4 rfl rfl) ?_))⟩
  exact hK x _ t2 hd hle
def z30{a c d:zA}{kd:Int}{n1 n2:Bool}{vi:Int}(hC:sL t b m p)(hp:p.fit)(hc:bB d=some (.int .i64 (n:Int))):lB yA F 66 [.ptr b 0,.agg [.int .u8 op,.str name,.int .u8 kd,.bool n1,a,.bool n2,c,.int .i64 vi,d]] t=some (nmV (mL p op name n)):=by
 refine nJ ?_
 refine w66 _ _ _ _ _ _ _ _ _ _ ?_
 unfold t66;have rest:∀(Y:T),(op=3\/op=4\/op=21\/op=22\/op=5)->wp 66 (D66 (.ptr b 0) (op:Int) name) t (fun v t'=>v=nmV (mL p op name n)/\zB t t'):=fun Y h=>D_ok hC hp h
 by_cases h3:op=3
 ·exact mA (iD (by omega)) (mA (iD (by omega)) (D_ok hC hp (.inl h3)))
 refine lA (sC (by omega)) ?_
 by_cases h4:op=4
 ·exact mA (iD (by omega)) (mA (iD (by omega)) (D_ok hC hp (.inr (.inl h4))))
 refine lA (sC (by omega)) ?_
 by_cases h21:op=21
 ·exact mA (iD (by omega)) (mA (iD (by omega)) (D_ok hC hp (.inr (.inr (.inl h21)))))
 refine lA (sC (by omega)) ?_
 by_cases h22:op=22
 ·exact mA (iD (by omega)) (mA (iD (by omega)) (D_ok hC hp (.inr (.inr (.inr (.inl h22))))))
 refine lA (sC (by omega)) ?_
 by_cases h5:op=5
 ·exact mA (iD (by omega)) (D_ok hC hp (.inr (.inr (.inr (.inr h5)))))
 refine lA (sC (by omega)) ?_
 have hno:¬ (op=3\/op=4\/op=21\/op=22\/op=5):=by omega
 by_cases h6:op=6
 ·refine mA (iD (by omega)) ?_
  unfold mL;rw[yaa hno,yab h6]
  cases hd:zI p.tables name with
  | none=>
   exact T_ok (R:=false) (K:=fun a36 _=>.asB a36 fun b37=>.opt (bB d) fun a38=>.asI .i64 a38 fun n39=>.ret (.tup [(.int .u8 0),(.bool (cF b37 (iA n39 2)))])) hC hp (fun x bd t' h _=>by rw[hd]at h;cases h) (fun _=>rfl)
  | some x=>
   refine T_ok (R:=cF x.two (decide (n=2))) (K:=fun a36 _=>.asB a36 fun b37=>.opt (bB d) fun a38=>.asI .i64 a38 fun n39=>.ret (.tup [(.int .u8 0),(.bool (cF b37 (iA n39 2)))])) hC hp (fun y bd t' h hle=>?_) (fun h=>by rw[hd]at h;cases h)
   rw[hd]at h
   cases h;refine xD (jA hc (wC ⟨?_,hle⟩))
   have:iA (n:Int) 2=decide (n=2):=by rw[jL];congr 1;exact propext (by omega)
   rw[this];rfl
 refine lA (sC (by omega)) ?_
 by_cases h23:op=23
 ·refine mA (iD (by omega)) ?_
  unfold mL;rw[yaa hno,yaa h6,yab h23]
  cases hd:zI p.tables name with
  | none=>
   exact T_ok (R:=false) (K:=fun a36 _=>.asB a36 fun b52=>.ret (.tup [(.int .u8 0),(.bool (!b52))])) hC hp (fun x bd t' h _=>by rw[hd]at h;cases h) (fun _=>rfl)
  | some x=>
   refine T_ok (R := !x.two) (K:=fun a36 _=>.asB a36 fun b52=>.ret (.tup [(.int .u8 0),(.bool (!b52))])) hC hp (fun y bd t' h hle=>?_) (fun h=>by rw[hd]at h;cases h)
   rw[hd]at h
   cases h;exact xD ⟨rfl,hle⟩
 refine lA (sC (by omega)) ?_
 unfold mL;rw[yaa hno,yaa h6,yaa h23];exact⟨rfl,zB.refl _⟩
end
end
section
variable [fC]
variable {t tf:Tr rA}
structure KE where
 op:Nat
 a:Nat
 b:Nat
 c:Nat
 k:Nat
def zzn:List KE:=[⟨2,0,0,0,4⟩,⟨4,4,0,0,1⟩,⟨6,2,0,0,2⟩,⟨6,2,2,0,2⟩,⟨8,4,4,0,5⟩,⟨9,2,2,0,2⟩,⟨9,3,2,0,3⟩,⟨9,2,3,0,3⟩,⟨10,2,2,0,2⟩,⟨10,3,2,0,3⟩,⟨10,3,3,0,2⟩,⟨15,1,1,0,1⟩,⟨16,1,1,0,1⟩,⟨17,1,0,0,1⟩,
 ⟨19,2,2,0,2⟩,⟨19,3,3,0,3⟩,⟨20,4,4,0,6⟩,⟨21,4,4,0,2⟩,⟨22,4,4,6,3⟩,⟨23,4,4,0,2⟩,⟨24,2,0,0,6⟩,⟨25,5,0,0,2⟩,⟨25,6,0,0,2⟩,⟨25,3,0,0,2⟩,⟨26,4,0,0,4⟩,
 ⟨7,2,2,0,2⟩,⟨7,3,3,0,3⟩,⟨7,5,5,0,5⟩,⟨7,6,6,0,6⟩,⟨7,4,5,0,4⟩,⟨7,4,6,0,4⟩,⟨8,2,2,0,2⟩,⟨8,3,3,0,3⟩,⟨8,5,5,0,5⟩,⟨8,6,6,0,6⟩,⟨8,4,5,0,4⟩,⟨8,4,6,0,4⟩,
 ⟨14,1,1,0,1⟩,⟨18,1,1,1,1⟩,⟨14,2,2,0,1⟩,⟨18,1,2,2,2⟩,⟨11,2,2,0,2⟩,⟨12,2,2,0,2⟩,⟨13,2,2,0,1⟩,⟨14,3,3,0,1⟩,⟨18,1,3,3,3⟩,⟨11,3,3,0,3⟩,⟨12,3,3,0,3⟩,⟨13,3,3,0,1⟩,
 ⟨14,4,4,0,1⟩,⟨18,1,4,4,4⟩,⟨11,4,4,0,4⟩,⟨12,4,4,0,4⟩,⟨13,4,4,0,1⟩,⟨14,5,5,0,1⟩,⟨18,1,5,5,5⟩,⟨11,5,5,0,5⟩,⟨12,5,5,0,5⟩,⟨13,5,5,0,1⟩,
 ⟨14,6,6,0,1⟩,⟨18,1,6,6,6⟩,⟨11,6,6,0,6⟩,⟨12,6,6,0,6⟩,⟨13,6,6,0,1⟩]
def z64 (op a b c:Nat):zA:=.agg [.int .u8 op,.int .u8 a,.int .u8 b,.int .u8 c]
def KE.e (x:KE):zA × zA:=(z64 x.op x.a x.b x.c,.int .u8 x.k)
def sD (n:Nat):List (zA × zA):=(zzn.take n).map KE.e
def sS{w x y z:Int}:uM yA 100 (.agg [.int .u8 w,.int .u8 x,.int .u8 y,.int .u8 z])=true:=by kernel_rfl
def KI (t0:Tr rA)(b n:Nat)(t:Tr rA):Prop:=t.get b=some (.map (sD n))/\cD b t0 t
def zug{t0:Tr rA}{b n i:Nat}{k v:zA}{K:T}{Q:uC}(hb:yA.base<=b)(hI:KI t0 b n t)(hs:nG k v (sD n)=some (sD (n+1)))(hk:uM yA 100 k=true)(next:∀t',KI t0 b (n+1) t'->wp i K t' Q):wp i (.heavy (aH yA 100 (.map b) k v) fun _=>K) t Q:=by
 refine yG fun m _ _=>?_
 refine⟨_,_,zhw hk hb hI.1 hs,next _ ⟨by show(t.set b _).get b=_;rw[Tr.get_set,yab rfl],fun c hc=>?_⟩⟩
 show(t.set b _).get c=_
 rw[Tr.get_set,yaa hc];exact hI.2 c hc
section
variable {t0:Tr rA}{b:Nat}{name:List Nat}{c1 c2 c3:zA}{Q:uC}
abbrev ag2:zA:=.agg [.int .u8 7,.int .u8 8]
abbrev ag4:zA:=.agg [.int .u8 2,.int .u8 3,.int .u8 5,.int .u8 6]
def zyf{n:Nat}{op i:Int}(hb:yA.base<=b)(hI:KI t0 b n t)
  (h1:nG (.agg [.int .u8 op,.int .u8 2,.int .u8 2,.int .u8 0]) (.int .u8 2) (sD n)=some (sD (n+1))) (h2:nG (.agg [.int .u8 op,.int .u8 3,.int .u8 3,.int .u8 0]) (.int .u8 3) (sD (n+1))=some (sD (n+1+1)))
  (h3:nG (.agg [.int .u8 op,.int .u8 5,.int .u8 5,.int .u8 0]) (.int .u8 5) (sD (n+1+1))=some (sD (n+1+1+1))) (h4:nG (.agg [.int .u8 op,.int .u8 6,.int .u8 6,.int .u8 0]) (.int .u8 6) (sD (n+1+1+1))=some (sD (n+1+1+1+1)))
  (h5:nG (.agg [.int .u8 op,.int .u8 4,.int .u8 5,.int .u8 0]) (.int .u8 4) (sD (n+1+1+1+1))=some (sD (n+1+1+1+1+1))) (h6:nG (.agg [.int .u8 op,.int .u8 4,.int .u8 6,.int .u8 0]) (.int .u8 4) (sD (n+1+1+1+1+1))=some (sD (n+1+1+1+1+1+1)))
  (hk:∀x y:Nat,x<10->y<10->uM yA 100 (.agg [.int .u8 op,.int .u8 (x:Int),.int .u8 (y:Int),.int .u8 0])=true)
  (next:∀t',KI t0 b (n+1+1+1+1+1+1) t'->jp 28 2 [.map b,ag2,.int .i64 (wA .i64 (i+1)),.str name,c1,c2,c3] t' Q) :
  jp 28 6 [.map b,.int .u8 op,ag2,.int .i64 i,ag4,.int .i64 0,.str name,c1,c2,c3] t Q:=by
 have i0:xJ yA 102 ag4 (.int .i64 0)=some (.int .u8 2):=by kernel_rfl
 have i1:xJ yA 102 ag4 (.int .i64 1)=some (.int .u8 3):=by kernel_rfl
 have i2:xJ yA 102 ag4 (.int .i64 2)=some (.int .u8 5):=by kernel_rfl
 have i3:xJ yA 102 ag4 (.int .i64 3)=some (.int .u8 6):=by kernel_rfl
 have w1:wA .i64 (0+1)=1:=rfl
 have w2:wA .i64 (1+1)=2:=rfl
 have w3:wA .i64 (2+1)=3:=rfl
 have w4:wA .i64 (3+1)=4:=rfl
 refine zzt _ _ _ _ _ _ _ _ _ _ _ _ _ _ (mA rfl (jA i0 (wC (mA rfl (zug hb hI h1 (hk 2 2 (by omega) (by omega)) fun t' hI=>oC ?_)))))
 rw[w1];refine zzt _ _ _ _ _ _ _ _ _ _ _ _ _ _ (mA rfl (jA i1 (wC (mA rfl (zug hb hI h2 (hk 3 3 (by omega) (by omega)) fun t' hI=>oC ?_)))))
 rw[w2];refine zzt _ _ _ _ _ _ _ _ _ _ _ _ _ _ (mA rfl (jA i2 (wC (mA rfl (zug hb hI h3 (hk 5 5 (by omega) (by omega)) fun t' hI=>oC ?_)))))
 rw[w3];refine zzt _ _ _ _ _ _ _ _ _ _ _ _ _ _ (mA rfl (jA i3 (wC (mA rfl (zug hb hI h4 (hk 6 6 (by omega) (by omega)) fun t' hI=>oC ?_)))))
 rw[w4];refine zzt _ _ _ _ _ _ _ _ _ _ _ _ _ _ (lA (by show ¬ (false=true);simp) (mA rfl (zug hb hI h5 (hk 4 5 (by omega) (by omega)) fun t' hI=>mA rfl (zug hb hI h6 (hk 4 6 (by omega) (by omega)) fun t' hI=>oC ?_))))
 exact next t' hI
def zlq{n:Nat}{k:Nat}(hk0:2<=k/\k<=6)(hb:yA.base<=b)(hI:KI t0 b n t)
  (h1:nG (.agg [.int .u8 14,.int .u8 k,.int .u8 k,.int .u8 0]) (.int .u8 1) (sD n)=some (sD (n+1))) (h2:nG (.agg [.int .u8 18,.int .u8 1,.int .u8 k,.int .u8 k]) (.int .u8 k) (sD (n+1))=some (sD (n+1+1)))
  (h3:nG (.agg [.int .u8 11,.int .u8 k,.int .u8 k,.int .u8 0]) (.int .u8 k) (sD (n+1+1))=some (sD (n+1+1+1))) (h4:nG (.agg [.int .u8 12,.int .u8 k,.int .u8 k,.int .u8 0]) (.int .u8 k) (sD (n+1+1+1))=some (sD (n+1+1+1+1)))
  (h5:nG (.agg [.int .u8 13,.int .u8 k,.int .u8 k,.int .u8 0]) (.int .u8 1) (sD (n+1+1+1+1))=some (sD (n+1+1+1+1+1)))
  (next:∀t',KI t0 b (n+1+1+1+1+1) t'->jp 28 10 [.map b,.int .u8 ((k+1:Nat):Int),.str name,c1,c2,c3] t' Q) :
  jp 28 10 [.map b,.int .u8 (k:Int),.str name,c1,c2,c3] t Q:=by
 have hk:∀w x y z:Nat,w<30->x<10->y<10->z<10->uM yA 100 (z64 w x y z)=true:=fun w x y z _ _ _ _=>sS
 refine zzu _ _ _ _ _ _ (mA (yLe (by omega)) (mA rfl (zug hb hI h1 (hk 14 k k 0 (by omega) (by omega) (by omega) (by omega)) fun t' hI=>mA rfl (zug hb hI h2 (hk 18 1 k k (by omega) (by omega) (by omega) (by omega)) fun t' hI=>mA ?_ (mA rfl (zug hb hI h3 (hk 11 k k 0 (by omega) (by omega) (by omega) (by omega)) fun t' hI=>mA rfl (zug hb hI h4 (hk 12 k k 0 (by omega) (by omega) (by omega) (by omega)) fun t' hI=>mA rfl (zug hb hI h5 (hk 13 k k 0 (by omega) (by omega) (by omega) (by omega)) fun t' hI=>oC ?_))))))))
 ·cases hq:iA (k:Int) 1 with
  | true=>exact absurd (rH.1 hq) (by omega)
  | false=>rfl
 ·rw[zhs (by omega) (by omega),show(k:Int)+1=((k+1:Nat):Int) by omega]
  exact next t' hI
def fZ{p:eC}{cs:List zA}(hr:RD t p.d cs)(hQ:∀b m t',zB t t'->sL t' b m p->t'.get m=some (.map (sD 64))->Q (.ptr b 0) t'):Wc yA F 28 [.agg cs] t Q:=by
 have hr0:=hr
 obtain⟨u1,u2,u3,rfl,h1,h2,h3⟩:=xN hr
 refine w28 _ _ _ _ ?_
 unfold t28;repeat refine mA rfl ?_
 refine yG fun b hb hbase=>?_
 refine⟨.map b,⟨b+1,t.set b (.map [])⟩,rfl,yG fun n _ _=>?_⟩
 have hm0:(t.set b (.map [])).get b=some (.map []):=by rw[Tr.get_set,yab rfl]
 have ho0:cD b t (t.set b (.map [])):=fun c hc=>by rw[Tr.get_set,yaa hc]
 obtain⟨t1,g1,g2,g3⟩:=zup (C:=yA) (T:=100) (b:=b) (n:=n) (l:=sD 25) (t:=t.set b (.map [])) (fun e he=>by
  obtain⟨x,_,rfl⟩:=yaq.1 he
  exact sS) (by kernel_rfl) hbase hm0
 have g1':nP yA ((sD 25).map fun e=>Eff.upd 100 (.map b) e.1 e.2) ⟨n,t.set b (.map [])⟩=some (gD,⟨n,t1⟩):=g1
 have hI:KI t b 25 t1:=⟨g2,fun c hc=>by rw[g3 c hc,ho0 c hc]⟩
 refine⟨gD,⟨n,t1⟩,g1',mA rfl (oC ?_)⟩
 have j0:xJ yA 101 ag2 (.int .i64 0)=some (.int .u8 7):=by kernel_rfl
 have j1:xJ yA 101 ag2 (.int .i64 1)=some (.int .u8 8):=by kernel_rfl
 have w1:wA .i64 (0+1)=1:=rfl
 have w2:wA .i64 (1+1)=2:=rfl
 refine z9v _ _ _ _ _ _ _ _ (mA rfl (jA j0 (wC (mA rfl (oC ?_)))))
 refine zyf hbase hI (by kernel_rfl) (by kernel_rfl) (by kernel_rfl) (by kernel_rfl) (by kernel_rfl) (by kernel_rfl) (fun x y _ _=>sS) fun t2 hI=>?_
 rw[w1];refine z9v _ _ _ _ _ _ _ _ (mA rfl (jA j1 (wC (mA rfl (oC ?_)))))
 refine zyf hbase hI (by kernel_rfl) (by kernel_rfl) (by kernel_rfl) (by kernel_rfl) (by kernel_rfl) (by kernel_rfl) (fun x y _ _=>sS) fun t3 hI=>?_
 rw[w2];refine z9v _ _ _ _ _ _ _ _ (lA (by show ¬ (false=true);simp) (oC ?_))
 refine zzu _ _ _ _ _ _ (mA rfl (mA rfl (zug hbase hI (by kernel_rfl) sS fun t4 hI=>mA rfl (zug hbase hI (by kernel_rfl) sS fun t5 hI=>lA (by show ¬ (false=true);simp) (oC ?_)))))
 have uw:wA .u8 (1+1)=((2:Nat):Int):=rfl
 rw[uw];refine zlq (by omega) hbase hI (by kernel_rfl) (by kernel_rfl) (by kernel_rfl) (by kernel_rfl) (by kernel_rfl) fun t6 hI=>?_
 refine zlq (by omega) hbase hI (by kernel_rfl) (by kernel_rfl) (by kernel_rfl) (by kernel_rfl) (by kernel_rfl) fun t7 hI=>?_
 refine zlq (by omega) hbase hI (by kernel_rfl) (by kernel_rfl) (by kernel_rfl) (by kernel_rfl) (by kernel_rfl) fun t8 hI=>?_
 refine zlq (by omega) hbase hI (by kernel_rfl) (by kernel_rfl) (by kernel_rfl) (by kernel_rfl) (by kernel_rfl) fun t9 hI=>?_
 refine zlq (by omega) hbase hI (by kernel_rfl) (by kernel_rfl) (by kernel_rfl) (by kernel_rfl) (by kernel_rfl) fun t10 hI=>?_
 refine zzu _ _ _ _ _ _ (lA (nLe (by omega)) (mA rfl (yG fun bc hbc _=>?_)))
 have hle:zB t t10:=fun c u hc=>by
  have:c≠b:=fun e=>by rw[e,hb]at hc;cases hc
  rw[hI.2 c this];exact hc
 obtain⟨t11,e1,e2,e3,e4⟩:=zS hbc [.str p.name,u1,u2,u3,.map b] none
 have hb:znk (.agg [.str p.name,u1,u2,u3,.map b]) ⟨bc,t10⟩=some (.ptr bc 0,⟨bc+1,t11⟩):=by
  show some (zA.ptr bc 0,vE ⟨bc,t10⟩ [.str p.name,u1,u2,u3,.map b] none)=_
  rw[e1]
 refine⟨_,_,hb,hQ bc b t11 (hle.trans e3) ⟨_,hr0.mono (hle.trans e3),e2⟩ ?_⟩
 exact e3 _ _ hI.1
end
end
section
variable [fC]
variable {t tf:Tr rA}
def zub(op a b c:Nat):Option Nat:=(zzn.find? fun x=>decide (op=x.op)&&(decide (a=x.a)&&(decide (b=x.b)&&(decide (c=x.c)&&true)))).map KE.k
def zzp{op a b c op' a' b' c':Nat}:wG (z64 op a b c) (z64 op' a' b' c')=some (decide (op=op')&&(decide (a=a')&&(decide (b=b')&&(decide (c=c')&&true)))):=by
 have h:∀x y:Nat,wL (.int .u8 (x:Int)) (.int .u8 (y:Int))=some (decide (x=y)):=by
  intro x y;show aA (kEq .u8 .u8) (some (iA (x:Int) (y:Int)))=_
  rw[nI.2 rfl,zE,jL];congr 2
  exact propext (by omega)
 unfold wG z64;simp only[zA.asAgg,tA,nN,h]
def zl3{op a b c:Nat}:∀(l:List KE),yH (z64 op a b c) (l.map KE.e)=some ((l.find? fun x=>decide (op=x.op)&&(decide (a=x.a)&&(decide (b=x.b)&&(decide (c=x.c)&&true)))).map fun x=>zA.int .u8 (x.k:Int))
 | []=>rfl
 | x::l=>by
  rw[ycm,yH,show(KE.e x).1=z64 x.op x.a x.b x.c from rfl,zzp,tA,List.find?_cons]
  cases h:(decide (op=x.op)&&(decide (a=x.a)&&(decide (b=x.b)&&(decide (c=x.c)&&true))))with
  | true=>rfl
  | false=>exact zl3 l
def z9k{m:Nat}(hm:t.get m=some (.map (sD 64)))(op a b c:Nat):xH yA 100 ⟨0,t⟩ (.map m) (z64 op a b c) true=some (match zub op a b c with | some k=>.tup [.int .u8 (k:Int),.bool true] | none=>.tup [.int .u8 0,.bool false]):=by
 have hl:sD 64=zzn.map KE.e:=rfl
 have hf:=zl3 (op:=op) (a:=a) (b:=b) (c:=c) zzn
 rw[<- hl]at hf;unfold zub
 cases h:zzn.find? fun x=>decide (op=x.op)&&(decide (a=x.a)&&(decide (b=x.b)&&(decide (c=x.c)&&true)))with
 | some x=>
  rw[h]at hf;exact ziw sS hm hf z8d rfl ty5 true
 | none=>
  rw[h]at hf;exact zlc sS hm hf z8d rfl ty5 true
def zzae (op nm a b c:Nat):Nat × Nat:=
 if op=3\/op=5 then(if a=4 then(nm,0)else(0,142))
 else match zub op a b c with
  | some k=>if op=21 then(if nm=2 then(k,0)else(0,142))else if op=22 then(if nm=3 then(k,0)else(0,142))else(k,0)
  | none=>(0,142)
def opK (p:eC)(op:Nat)(name:List Nat)(vk n:Nat)(ks:List Nat):Nat × Nat:=
 if (mL p op name n).2=false then(0,141)else if op=1 then(vk,0)else zzae op (mL p op name n).1 (ks.getD 0 0) (ks.getD 1 0) (ks.getD 2 0)
def z9s(p:eC)(op:Nat)(name:List Nat)(vk n:Nat)(ks:List Nat)(r:Nat ⊕ List Nat):Nat × Nat:=
 match r with
 | .inl e=>(0,e)
 | .inr ks'=>opK p op name vk n (ks++ks')
mutual
/-- kind and error of an expression whose parts are printable -/
def sH(p:eC):dA->Nat × Nat
 | .mk op name v args=>z9s p op name v.kind args.length [] (oN p args)
def oN(p:eC):List dA->Nat ⊕ List Nat
 | []=>.inr []
 | x::l=>if (sH p x).2≠0 then .inl (sH p x).2 else match oN p l with
  | .inl e=>.inl e
  | .inr ks=>.inr ((sH p x).1::ks)
end
def kdV (r:Nat × Nat):zA:=.tup [.int .u8 (r.1:Nat),.int .i64 (r.2:Nat)]
def kC (ks:List Nat):List zA:=[.int .u8 (ks.getD 0 0:Nat),.int .u8 (ks.getD 1 0:Nat),.int .u8 (ks.getD 2 0:Nat)]
def kC_set{ks:List Nat}{k:Nat}(h:ks.length<3):(kC ks).set ks.length (.int .u8 (k:Int))=kC (ks++[k]):=by
 match ks,h with
 | [],_=>rfl
 | [x],_=>rfl
 | [x,y],_=>rfl
def zzs{ks:List Nat}{i:Nat}(h:i<3):(kC ks)[i]?=some (.int .u8 (ks.getD i 0:Nat)):=by
 have:i=0\/i=1\/i=2:=by omega
 rcases this with e | e | e<;>subst e<;>rfl
def zr5{b i:Nat}(h:i<3):mB yA 137 (.ptr b 0) (.int .i64 (i:Int))=some (.ptr b i):=by
 unfold mB;rw[ty137,tA];have e:(zA.int .i64 (i:Int)).asNat=some i:=rfl
 rw[e,tA];simp only[zA.asSlice,zA.asPtr,tA,jD.asArr];rw[ty5,tA,xC.2 h,zE];simp
def zsw{x:dA}{d:Nat}(h:rF x d=true):x.args.length<=3/\(x.op=1\/∀y∈x.args,rF y (d+1)=true):=by
 obtain⟨op,name,v,args⟩:=x
 unfold rF zlu at h;simp only[ybb,decide_eq_true_eq]at h;obtain⟨⟨hd,⟨⟨⟨h27,_⟩,hl⟩,hm⟩,hnm⟩,hrest⟩:=h
 obtain⟨f1,f2,f3,f4,f5,f6,f7,f8⟩:=zbj h27
 refine⟨by show args.length<=3;omega,?_⟩
 show op=1\/∀y∈args,rF y (d+1)=true
 by_cases h1:op=1
 ·exact .inl h1
 ·rw[yaa h1,ybb,zau,ycb]at hrest
  exact .inr hrest.2
def zsv{x:dA}{d:Nat}(h:rF x d=true)(h1:x.op=1):x.args=[]:=by
 obtain⟨op,name,v,args⟩:=x
 have h1:op=1:=h1
 subst h1;unfold rF zlu at h;simp only[ybb,decide_eq_true_eq]at h;have:=h.1.2.1.2
 have e:(mD 1).most=0:=rfl
 rw[e]at this;exact ycc.1 (by show args.length=0;omega)
def POk (p:eC)(b m:Nat)(x:dA):Prop:=∀(d:Nat) (t:Tr rA) (cs:List zA),rF x d=true->x.fit->sL t b m p->t.get m=some (.map (sD 64))->RD t x.d cs->lB yA F 44 [.ptr b 0,.agg cs] t=some (kdV (sH p x))
section
variable {p:eC}{b m:Nat}
def sL.mono{t':Tr rA}(h:sL t b m p)(k:zB t t'):sL t' b m p:=by
 obtain⟨cs,h1,h2⟩:=h
 exact⟨cs,h1.mono k,h2.up k⟩
def sL.map(h:sL t b m p):oA yA 100 ⟨0,t⟩ (.ptr b 4)=some (.map m):=by
 obtain⟨cs,h1,h2,h3,h4⟩:=h.plan
 refine h4.load1 (j:=4) z8d rfl ?_
 rw[ybp (by omega),h2]
 rfl
def z0y{r:Bool}{k:Nat}{t0:Tr rA}(hle:zB t0 t):jp 44 59 [.bool r,.int .u8 (k:Int)] t (fun v t'=>v=kdV (if r=true then(k,0)else(0,142))/\zB t0 t'):=by
 refine j44_59 _ _ ?_
 unfold z6l
 cases r with
 | true=>exact lA (by simp) ⟨rfl,hle⟩
 | false=>exact mA rfl ⟨rfl,hle⟩
def z3o{op:Nat}{name:List Nat}{v:mH}{n:Nat}{ks:List Nat}{a c d:zA}{ak:Nat}{t0:Tr rA}(hp:p.fit)(hC:sL t b m p)(hm:t.get m=some (.map (sD 64)))(hd:bB d=some (.int .i64 (n:Int)))(hk:lD t ak none (kC ks))(hle:zB t0 t) :
  wp 44 (.call 66 [.ptr b 0,(.agg [(.int .u8 (op:Int)),(.str name),(.int .u8 (v.kind:Int)),(.bool v.f.n.neg),a,(.bool v.f.d.neg),c,(.int .i64 v.i),d])] fun a9=>
 .opt (rB 0 a9) fun a10=>.asI .u8 a10 fun n11=>.opt (rB 1 a9) fun a12=>.asB a12 fun b13=>.ite (!b13)
 (.ret (.tup [(.int .u8 0),(.int .i64 141)]))
 (.opt (mB yA 137 (.ptr ak 0) (.int .i64 0)) fun a14=>.light (fun m=>oA yA 5 ⟨0,m⟩ a14) fun a15=>.asI .u8 a15 fun n16=>.opt (mB yA 137 (.ptr ak 0) (.int .i64 1)) fun a17=>.light (fun m=>oA yA 5 ⟨0,m⟩ a17) fun a18=>.asI .u8 a18 fun n19=>.opt (mB yA 137 (.ptr ak 0) (.int .i64 2)) fun a20=>.light (fun m=>oA yA 5 ⟨0,m⟩ a20) fun a21=>.asI .u8 a21 fun n22=>.ite true (.ite true (.ite (iA (op:Int) 1)
 (.ret (.tup [(.int .u8 (v.kind:Int)),(.int .i64 0)]))
 (.ite (iA (op:Int) 3)
 (.ite (iA (op:Int) 3)
 (.opt (mB yA 137 (.ptr ak 0) (.int .i64 0)) fun a23=>.light (fun m=>oA yA 5 ⟨0,m⟩ a23) fun a24=>.asI .u8 a24 fun n25=>.jump 59 [(.bool (iA n25 4)),(.int .u8 n11)])
 (.ite (iA (op:Int) 21)
 (.opt (iC (.ptr b 0)) fun a26=>.opt (tB yA 104 1 a26) fun a27=>.light (fun m=>oA yA 100 ⟨0,m⟩ a27) fun a28=>.light (fun m=>xH yA 100 ⟨0,m⟩ a28 (.agg [(.int .u8 (op:Int)),(.int .u8 n16),(.int .u8 n19),(.int .u8 n22)]) true) fun a29=>.opt (rB 0 a29) fun a30=>.asI .u8 a30 fun n31=>.opt (rB 1 a29) fun a32=>.asB a32 fun b33=>.ite b33
 (.jump 59 [(.bool (iA n11 2)),(.int .u8 n31)])
 (.jump 59 [(.bool false),(.int .u8 n31)]))
 (.ite (iA (op:Int) 22)
 (.opt (iC (.ptr b 0)) fun a34=>.opt (tB yA 104 1 a34) fun a35=>.light (fun m=>oA yA 100 ⟨0,m⟩ a35) fun a36=>.light (fun m=>xH yA 100 ⟨0,m⟩ a36 (.agg [(.int .u8 (op:Int)),(.int .u8 n16),(.int .u8 n19),(.int .u8 n22)]) true) fun a37=>.opt (rB 0 a37) fun a38=>.asI .u8 a38 fun n39=>.opt (rB 1 a37) fun a40=>.asB a40 fun b41=>.ite b41
 (.jump 59 [(.bool (iA n11 3)),(.int .u8 n39)])
 (.jump 59 [(.bool false),(.int .u8 n39)]))
 (.opt (iC (.ptr b 0)) fun a42=>.opt (tB yA 104 1 a42) fun a43=>.light (fun m=>oA yA 100 ⟨0,m⟩ a43) fun a44=>.light (fun m=>xH yA 100 ⟨0,m⟩ a44 (.agg [(.int .u8 (op:Int)),(.int .u8 n16),(.int .u8 n19),(.int .u8 n22)]) true) fun a45=>.opt (rB 0 a45) fun a46=>.asI .u8 a46 fun n47=>.opt (rB 1 a45) fun a48=>.asB a48 fun b49=>.jump 59 [(.bool b49),(.int .u8 n47)]))))
 (.ite (iA (op:Int) 5)
 (.opt (mB yA 137 (.ptr ak 0) (.int .i64 0)) fun a50=>.light (fun m=>oA yA 5 ⟨0,m⟩ a50) fun a51=>.asI .u8 a51 fun n52=>.jump 59 [(.bool (iA n52 4)),(.int .u8 n11)])
 (.ite (iA (op:Int) 21)
 (.opt (iC (.ptr b 0)) fun a53=>.opt (tB yA 104 1 a53) fun a54=>.light (fun m=>oA yA 100 ⟨0,m⟩ a54) fun a55=>.light (fun m=>xH yA 100 ⟨0,m⟩ a55 (.agg [(.int .u8 (op:Int)),(.int .u8 n16),(.int .u8 n19),(.int .u8 n22)]) true) fun a56=>.opt (rB 0 a56) fun a57=>.asI .u8 a57 fun n58=>.opt (rB 1 a56) fun a59=>.asB a59 fun b60=>.ite b60
 (.jump 59 [(.bool (iA n11 2)),(.int .u8 n58)])
 (.jump 59 [(.bool false),(.int .u8 n58)]))
 (.ite (iA (op:Int) 22)
 (.opt (iC (.ptr b 0)) fun a61=>.opt (tB yA 104 1 a61) fun a62=>.light (fun m=>oA yA 100 ⟨0,m⟩ a62) fun a63=>.light (fun m=>xH yA 100 ⟨0,m⟩ a63 (.agg [(.int .u8 (op:Int)),(.int .u8 n16),(.int .u8 n19),(.int .u8 n22)]) true) fun a64=>.opt (rB 0 a64) fun a65=>.asI .u8 a65 fun n66=>.opt (rB 1 a64) fun a67=>.asB a67 fun b68=>.ite b68
 (.jump 59 [(.bool (iA n11 3)),(.int .u8 n66)])
 (.jump 59 [(.bool false),(.int .u8 n66)]))
 (.opt (iC (.ptr b 0)) fun a69=>.opt (tB yA 104 1 a69) fun a70=>.light (fun m=>oA yA 100 ⟨0,m⟩ a70) fun a71=>.light (fun m=>xH yA 100 ⟨0,m⟩ a71 (.agg [(.int .u8 (op:Int)),(.int .u8 n16),(.int .u8 n19),(.int .u8 n22)]) true) fun a72=>.opt (rB 0 a72) fun a73=>.asI .u8 a73 fun n74=>.opt (rB 1 a72) fun a75=>.asB a75 fun b76=>.jump 59 [(.bool b76),(.int .u8 n74)])))))) .fail) .fail)) t (fun x t'=>x=kdV (opK p op name v.kind n ks)/\zB t0 t'):=by
 refine vC ?_
 rw[q66,z30 hC hp hd,vA];unfold opK;generalize mL p op name n=r
 obtain⟨nm,ok⟩:=r
 refine jA rfl (wC (jA rfl (xD ?_)))
 cases ok with
 | false=>exact mA rfl ⟨rfl,hle⟩
 | true=>
  refine lA (by simp) ?_
  rw[yaa (by simp)]
  have i0:=zr5 (b:=ak) (i:=0) (by omega)
  have i1:=zr5 (b:=ak) (i:=1) (by omega)
  have i2:=zr5 (b:=ak) (i:=2) (by omega)
  have l0:oA yA 5 ⟨0,t⟩ (.ptr ak 0)=some (.int .u8 (ks.getD 0 0:Nat)):=hk.load1 ty5 rfl (zzs (by omega))
  have l1:oA yA 5 ⟨0,t⟩ (.ptr ak 1)=some (.int .u8 (ks.getD 1 0:Nat)):=hk.load1 ty5 rfl (zzs (by omega))
  have l2:oA yA 5 ⟨0,t⟩ (.ptr ak 2)=some (.int .u8 (ks.getD 2 0:Nat)):=hk.load1 ty5 rfl (zzs (by omega))
  refine jA i0 (lC l0 (wC (jA i1 (lC l1 (wC (jA i2 (lC l2 (wC (mA rfl (mA rfl ?_))))))))))
  by_cases h1:op=1
  ·rw[yab h1];exact mA (iD (by omega)) ⟨rfl,hle⟩
  rw[yaa h1];refine lA (sC (by omega)) ?_
  have hlk:=z9k hm op (ks.getD 0 0) (ks.getD 1 0) (ks.getD 2 0)
  unfold zzae;have eq4:∀ {x j:Nat},iA (x:Int) (j:Int)=decide (x=j):=by intro x j;rw[jL];congr 1;exact propext (by omega)
  have bD:∀ {x j k:Nat},jp 44 59 [.bool (iA (x:Int) (j:Int)),.int .u8 (k:Int)] t (fun v t'=>v=kdV (if x=j then(k,0)else(0,142))/\zB t0 t'):=by
   intro x j k;rw[eq4];have:=z0y (r:=decide (x=j)) (k:=k) hle
   simpa using this
  by_cases h3:op=3
  ·rw[yab (.inl h3)]
   refine mA (iD (by omega)) (mA (iD (by omega)) (jA i0 (lC l0 (wC (oC ?_)))))
   exact bD (j:=4)
  refine lA (sC (by omega)) ?_
  by_cases h5:op=5
  ·rw[yab (.inr h5)]
   refine mA (iD (by omega)) (jA i0 (lC l0 (wC (oC ?_))))
   exact bD (j:=4)
  rw[yaa (by omega)]
  refine lA (sC (by omega)) ?_
  by_cases h21:op=21
  ·refine mA (iD (by omega)) (jA bE (jA zo8 (lC hC.map (lC hlk ?_))))
   cases hL:zub op (ks.getD 0 0) (ks.getD 1 0) (ks.getD 2 0)with
   | some k=>
    refine jA rfl (wC (jA rfl (xD (mA rfl (oC ?_)))))
    simp only[yab h21];exact bD (j:=2)
   | none=>
    refine jA rfl (wC (jA rfl (xD (lA (by simp) (oC ?_)))))
    exact z0y (r:=false) (k:=0) hle
  refine lA (sC (by omega)) ?_
  by_cases h22:op=22
  ·refine mA (iD (by omega)) (jA bE (jA zo8 (lC hC.map (lC hlk ?_))))
   cases hL:zub op (ks.getD 0 0) (ks.getD 1 0) (ks.getD 2 0)with
   | some k=>
    refine jA rfl (wC (jA rfl (xD (mA rfl (oC ?_)))))
    simp only[yaa h21,yab h22];exact bD (j:=3)
   | none=>
    refine jA rfl (wC (jA rfl (xD (lA (by simp) (oC ?_)))))
    exact z0y (r:=false) (k:=0) hle
  refine lA (sC (by omega)) (jA bE (jA zo8 (lC hC.map (lC hlk ?_))))
  cases hL:zub op (ks.getD 0 0) (ks.getD 1 0) (ks.getD 2 0)with
  | some k=>
   refine jA rfl (wC (jA rfl (xD (oC ?_))))
   simp only[yaa h21,yaa h22];exact z0y (r:=true) (k:=k) hle
  | none=>
   refine jA rfl (wC (jA rfl (xD (oC ?_))))
   exact z0y (r:=false) (k:=0) hle
def zyb{op:Nat}{name:List Nat}{v:mH}{args:List dA}{a c d:zA}{ak dd:Nat}{t0:Tr rA}(hp:p.fit)(hall:∀y∈args,POk p b m y)(hP:∀y∈args,rF y dd=true)(hfits:∀y∈args,y.fit)(hlen:args.length<=3)
  (hC:sL t0 b m p) (hm:t0.get m=some (.map (sD 64))) (hr:cA t0 9 (args.map dA.d) d) (hak:t0.get ak=none) (hbase:yA.base<=ak):∀(l:List dA) (i:Nat) (ks:List Nat) (t:Tr rA),args.drop i=l->i<=args.length->ks.length=i->zB t0 t->lD t ak none (kC ks) →
  jp 44 2 [.ptr b 0,.ptr ak 0,d,.int .i64 (args.length:Int),.int .i64 (i:Int),.int .u8 (op:Int),.str name,.int .u8 (v.kind:Int),.bool v.f.n.neg,a,.bool v.f.d.neg,c,.int .i64 v.i,d] t (fun x t'=>x=kdV (z9s p op name v.kind args.length ks (oN p l))/\zB t0 t'):=by
 intro l;induction l with
 | nil=>
  intro i ks t hl hi hk hle hc;have hi2:=yak.1 hl
  refine j44_2 _ _ _ _ _ _ _ _ _ _ _ _ _ _ ?_
  unfold z8m;refine lA (dF (by omega)) ?_
  have:=z3o (op:=op) (name:=name) (v:=v) (n:=args.length) (a:=a) (c:=c) (d:=d) hp (hC.mono hle) (hle _ _ hm) (by rw[hr.len,ybf]) hc hle
  unfold oN;show wp 44 _ t (fun x t'=>x=kdV (opK p op name v.kind args.length (ks++[]))/\zB t0 t')
  rw[ycd];exact this
 | cons x l ih=>
  intro i ks t hl hi hk hle hc;obtain⟨h1,h2,h3⟩:=aW hl
  have hm':x∈args:=ycv h1
  refine j44_2 _ _ _ _ _ _ _ _ _ _ _ _ _ _ ?_
  unfold z8m;obtain⟨pb,po,cs,g1,g2,g3,g4,g5⟩:=zF.at z8t (by simp) (hr.mono hle) (i:=i) (d:=x.d) (by simp[h1])
  refine mA (zG (by omega)) (jA g1 (lC g2 ?_))
  rw[sK];refine sF (lI g5 x.zs) ?_
  have hmk:=g5.mk x.zs
  have hcs:[zA.int .u8 ((cellsOf cs).i 0),.str ((cellsOf cs).s 1),.int .u8 ((cellsOf cs).i 2),.bool ((cellsOf cs).b 3),(cellsOf cs).v 4,.bool ((cellsOf cs).b 5),(cellsOf cs).v 6,.int .i64 ((cellsOf cs).i 7),(cellsOf cs).v 8]=cs:=hmk
  rw[hcs];refine mA g5.all (vC ?_)
  rw[q44,hall x hm' dd t cs (hP x hm') (hfits x hm') (hC.mono hle) (hle _ _ hm) g5,vA]
  refine jA rfl (wC (jA rfl (wC ?_)))
  unfold oN;by_cases he:(sH p x).2=0
  ·rw[yaa (by simpa using he)]
   refine lA (by rw[iD (by omega)];simp) (jA (zr5 (by omega)) (yG fun n _ _=>?_))
   obtain⟨t',e1,e2,e3⟩:=hc.store1 (v:=.int .u8 ((sH p x).1:Nat)) hbase ty5 rfl rfl rfl (j:=i) (by show i<3;omega)
   refine⟨_,_,e1 n,oC ?_⟩
   rw[wrap_i64 (by omega) (by omega),show(i:Int)+1=((i+1:Nat):Int) by omega]
   rw[<- hk,kC_set (by omega)]at e2
   have hle':zB t0 t':=hle.off hak e3
   have:=ih (i+1) (ks++[(sH p x).1]) t' h2 (by omega) (by simp;omega) hle' e2
   refine Jq.mono this fun v' t2 hh=>⟨?_,hh.2⟩
   rw[hh.1]
   cases oN p l with
   | inl e=>rfl
   | inr ks'=>simp[z9s]
  ·rw[yab he]
   refine mA ?_ ⟨rfl,hle⟩
   cases hq:iA ((sH p x).2:Int) 0 with
   | true=>exact absurd (rH.1 hq) (by omega)
   | false=>rfl
mutual
def zof(hp:p.fit):∀(x:dA),POk p b m x
 | .mk op name v args=>by
  have hall:=zra hp args
  intro dd t cs hP hfit hC hm hr;have hP0:=hP
  obtain⟨h1,h2⟩:=zsw hP
  have hone:=zsv hP
  simp only[dA.args,dA.op]at h1 h2 hone;obtain⟨a,c,d,rfl,ha,hc,hd⟩:=cJ hr
  simp only[dA.op,dA.name,dA.v,dA.args]at ha hc hd ⊢
  have hfit':=hfit
  unfold dA.fit at hfit';have hfits:=dA.fits_mem hfit'.2.2.2.2.2
  have hPs:∀y∈args,rF y (dd+1)=true:=by
   rcases h2 with e | h
   ·rw[hone e];intro y hy;cases hy
   ·exact h
  refine nJ (w44 _ _ _ _ _ _ _ _ _ _ ?_)
  unfold t44;refine yG fun ak hak hbase=>?_
  obtain⟨t1,e1,e2,e3,e4⟩:=eS (C:=yA) ty137 hak
  have hlen:=hd.len
  rw[ybf]at hlen;refine⟨_,_,e1,jA hlen (wC (oC ?_))⟩
  have:=zyb (op:=op) (name:=name) (v:=v) (a:=a) (c:=c) hp hall hPs hfits h1 hC hm hd hak hbase args 0 [] t1 rfl (by omega) rfl e3 e2
  unfold sH;exact this
def zra(hp:p.fit):∀(l:List dA),∀y∈l,POk p b m y
 | [],_,h=>by cases h
 | x::l,y,h=>by
  rcases ybs.1 h with e | h
  ·rw[e];exact zof hp x
  ·exact zra hp l y h
end
end
def zoy(p:eC)(x:dA):Nat × Nat:=if rF x 1=true then sH p x else(0,140)
def zzl{p:eC}{x:dA}{cp cs:List zA}(hp:p.fit)(hfit:x.fit)(hM:rJ t)(hW:gM t)(hrp:RD t p.d cp)(hr:RD t x.d cs):lB yA F 11 [.agg cp,.agg cs] t=some (kdV (zoy p x)):=by
 have hrp0:=hrp
 have hr0:=hr
 obtain⟨u1,u2,u3,rfl,_⟩:=xN hrp
 obtain⟨a,c,d,rfl,_⟩:=cJ hr
 refine nJ (w11 _ _ _ _ _ _ _ _ _ _ _ _ _ ?_)
 unfold t11;refine vC ?_
 rw[q28];refine fZ hrp0 fun b m t1 h1 h2 h3=>mA hr0.sameA (vC ?_)
 have hk:lB yA F 29 [.ptr b 0,.agg [.int .u8 x.op,.str x.name,.int .u8 x.v.kind,.bool x.v.f.n.neg,a,.bool x.v.f.d.neg,c,.int .i64 x.v.i,d]] t1=some (kdV (zoy p x)):=by
  refine nJ (w29 _ _ _ _ _ _ _ _ _ _ ?_)
  unfold t29;refine vC ?_
  rw[q43];refine z5b hfit (hM.mono h1) (hW.mono h1) (hr0.mono h1) fun t2 s e h4 h5=>?_
  refine jA rfl (kH (jA rfl (wC ?_)))
  unfold zoy
  cases hP:rF x 1 with
  | false=>
   rw[hP,yaa (by simp)]at h5
   exact mA (iD h5.2) ⟨rfl,h4⟩
  | true=>
   rw[hP,yab rfl]at h5;refine lA (sC (by omega)) (vC ?_)
   rw[q44,zof hp x 1 t2 _ hP hfit (h2.mono h4) (h4 _ _ h3) ((hr0.mono h1).mono h4),vA]
   exact jA rfl (wC (jA rfl (wC ⟨rfl,h4⟩)))
 rw[q29,hk,vA];exact jA rfl (wC (jA rfl (wC ⟨rfl,h1⟩)))
end
section
variable [fC]
variable {t tf:Tr rA}
mutual
/-- the number of parts -/
def sI:dA->Nat
 | .mk _ _ _ args=>1+eQ args
def eQ:List dA->Nat
 | []=>0
 | x::l=>sI x+eQ l
end
mutual
def sW:∀(x:dA) (cs:List zA),x.fit->sI x<1000000000000000000->RD t x.d cs->lB yA F 23 [.agg cs] t=some (.int .i64 (sI x:Nat))
 | .mk op name v args,cs,hx,hn,h=>by
  obtain⟨a,b,c,rfl,ha,hb,hc⟩:=cJ h
  simp only[dA.op,dA.name,dA.v,dA.args]at ha hb hc ⊢
  have hx':=hx
  unfold dA.fit at hx';have hn':=hn
  unfold sI at hn' ⊢
  refine jC.2 (w23 _ _ _ _ _ _ _ _ _ ?_)
  unfold t23;have hlen:=hc.len
  rw[ybf]at hlen;refine jA hlen (wC (oC ?_))
  exact zbx args args 1 c 0 hc rfl hx'.2.2.2.2.2 hx'.2.2.2.2.1 hn'
def zbx:∀(l args:List dA) (n:Nat) (c:zA) (i:Nat),cA t 9 (args.map dA.d) c->args.drop i=l->dA.fits l->args.length<cC->n+eQ l<1000000000000000000->jp 23 2 [.int .i64 (n:Int),c,.int .i64 (args.length:Int),.int .i64 (i:Int)] t (fun v t'=>v=.int .i64 ((n+eQ l:Nat):Int)/\t'=t)
 | [],args,n,c,i,hc,hd,hok,hsz,hn=>by
  have:=zap hd
  refine j23_2 _ _ _ _ ?_
  unfold z8p;refine lA (dF (by omega)) ?_
  exact⟨rfl,rfl⟩
 | x::l,args,n,c,i,hc,hd,hok,hsz,hn=>by
  obtain⟨h1,h2,h3⟩:=aW hd
  unfold cC at hsz;have hok':=hok
  unfold dA.fits at hok';unfold eQ at hn ⊢
  refine j23_2 _ _ _ _ ?_
  obtain⟨pb,po,cs,g1,g2,g3,g4,g5⟩:=zF.at z8t (by simp) hc (i:=i) (d:=x.d) (by simp[h1])
  unfold z8p;refine mA (zG (by omega)) (jA g1 (lC g2 ?_))
  rw[sK];refine sF (lI g5 x.zs) ?_
  have hmk:=g5.mk x.zs
  have hcs:[zA.int .u8 ((cellsOf cs).i 0),.str ((cellsOf cs).s 1),.int .u8 ((cellsOf cs).i 2),.bool ((cellsOf cs).b 3),(cellsOf cs).v 4,.bool ((cellsOf cs).b 5),(cellsOf cs).v 6,.int .i64 ((cellsOf cs).i 7),(cellsOf cs).v 8]=cs:=hmk
  rw[hcs];refine mA g5.all (vC ?_)
  rw[q23,sW x cs hok'.1 (by omega) g5,vA]
  refine wC (oC ?_)
  rw[wrap_i64 (n:=(n:Int)+(sI x:Nat)) (by omega) (by omega),wrap_i64 (by omega) (by omega),show(i:Int)+1=((i+1:Nat):Int) by omega,show(n:Int)+(sI x:Nat)=((n+sI x:Nat):Int) by omega]
  have:=zbx l args (n+sI x) c (i+1) hc h2 hok'.2 hsz (by omega)
  rw[Nat.add_assoc]at this;exact this
end
def z9f:Nat->Nat
 | 0=>0
 | k+1=>1+3*z9f k
mutual
def zkz:∀(x:dA) (d:Nat),rF x d=true->sI x<=z9f (25-d)
 | .mk op name v args,d,h=>by
  obtain⟨h1,h2⟩:=zsw h
  have hone:=zsv h
  simp only[dA.args,dA.op]at h1 h2 hone;have hd:d<=24:=by
   unfold rF at h;simp only[ybb,decide_eq_true_eq]at h;exact h.1.1
  have e:25-d=(25-(d+1))+1:=by omega
  have hPs:∀y∈args,rF y (d+1)=true:=by
   rcases h2 with e | h
   ·rw[hone e];intro y hy;cases hy
   ·exact h
  have:=zgt args (d+1) hPs
  rw[e];unfold sI z9f;have:args.length*z9f (25-(d+1))<=3*z9f (25-(d+1)):=ybi _ h1
  omega
def zgt:∀(l:List dA) (d:Nat),(∀y∈l,rF y d=true)->eQ l<=l.length*z9f (25-d)
 | [],_,_=>by unfold eQ;omega
 | x::l,d,h=>by
  unfold eQ;have h1:=zkz x d (h x (.head _))
  have h2:=zgt l d fun y hy=>h y (.tail _ hy)
  rw[ybn,Nat.succ_mul];omega
end
def zgs{x:dA}(h:tO x=true):sI x=1:=by
 obtain⟨op,name,v,args⟩:=x
 unfold tO at h;simp only[dA.args,ybb,decide_eq_true_eq]at h;have:args=[]:=ycc.1 (of_decide_eq_true h.2.2.1)
 subst this;unfold sI eQ;rfl
def zds{x:dA}(h:rF x 1=true):sI x<1000000000000000000:=by
 have:=zkz x 1 h
 have e:z9f (25-1)=141214768240:=by decide
 omega
def mK(p:eC)(x:dA)(k:Nat):Nat:=if (sH p x).2≠0 then(sH p x).2 else if (sH p x).1≠k then 142 else 0
def vR(p:eC)(x:vF)(d:jE):Nat:=if d.fact=true then 141 else if x.off=true then 0 else if mK p x.when_ 1≠0 then mK p x.when_ 1 else mK p x.then_ d.kind
def vQ(p:eC)(x:vF):Nat:=
 if uP x=false then 140
 else if x.to<=x.from_ then 144
 else if 200<sI x.when_\/200<sI x.then_ then 5
 else match xK p.defs x.name with
  | none=>141
  | some d=>vR p x d
def el24:zza7 yA 24 56 24:=⟨⟨_,ty24,rfl,rfl⟩,⟨_,ty56,rfl,rfl,by decide,by decide⟩,fun y h=>by rw[ty56]at h;cases h;rfl⟩
def half0{c0 c1 c2 c3 c4 c5 c6 c7 c8 c9 d0 d1 d2 d3 d4 d5 d6 d7 d8 d9:zA}:xJ yA 113 (.agg [c0,c1,c2,c3,c4,c5,c6,c7,c8,c9,d0,d1,d2,d3,d4,d5,d6,d7,d8,d9]) (.int .i64 0)=some (.agg [c0,c1,c2,c3,c4,c5,c6,c7,c8,c9]):=by kernel_rfl
def half1{c0 c1 c2 c3 c4 c5 c6 c7 c8 c9 d0 d1 d2 d3 d4 d5 d6 d7 d8 d9:zA}:xJ yA 113 (.agg [c0,c1,c2,c3,c4,c5,c6,c7,c8,c9,d0,d1,d2,d3,d4,d5,d6,d7,d8,d9]) (.int .i64 1)=some (.agg [d0,d1,d2,d3,d4,d5,d6,d7,d8,d9]):=by kernel_rfl
abbrev z10h:List zA:=[(.int .u8 0),(.str []),(.int .u8 0),(.bool false),.nilslice,(.bool false),.nilslice,(.int .i64 0),.nilslice,(.int .u8 0)]
section
variable {p:eC}{b m:Nat}
def z0a{x:dA}{a c d:zA}{k:Nat}{K:T}{Q:uC}(hp:p.fit)(hP:rF x 1=true)(hfit:x.fit)(hC:sL t b m p)(hm:t.get m=some (.map (sD 64)))(hr:RD t x.d (sG x a c d))
  (hQ:mK p x k≠0->Q (.int .i64 (mK p x k:Nat)) t) (hK:mK p x k=0->wp 34 K t Q) :
  wp 34 (.asG z10h (.agg (sG x a c d++[.int .u8 (k:Int)])) fun X1=>
 .ite (tC zA.one [(.int .u8 (X1.i 0)),(.str (X1.s 1)),(.int .u8 (X1.i 2)),(.bool (X1.b 3)),(X1.v 4),(.bool (X1.b 5)),(X1.v 6),(.int .i64 (X1.i 7)),(X1.v 8),(.int .u8 (X1.i 9))]) (.call 44 [.ptr b 0,(.agg [(.int .u8 (X1.i 0)),(.str (X1.s 1)),(.int .u8 (X1.i 2)),(.bool (X1.b 3)),(X1.v 4),(.bool (X1.b 5)),(X1.v 6),(.int .i64 (X1.i 7)),(X1.v 8)])] fun a2=>
 .opt (rB 0 a2) fun a3=>.asI .u8 a3 fun n4=>.opt (rB 1 a2) fun a5=>.asI .i64 a5 fun n6=>.ite (!iA n6 0)
 (.ret (.int .i64 n6))
 (.ite (!iA n4 (X1.i 9))
 (.ret (.int .i64 142))
 K)) .fail) t Q:=by
 obtain⟨a1,b1,c1,e1,ha,hb,hc⟩:=cJ hr
 simp only[sG,List.cons.injEq,true_and,and_true]at e1;obtain⟨rfl,rfl,rfl⟩:=e1
 have hfz:lK z10h (sG x a c d++[.int .u8 (k:Int)])=true:=by
  have:=zer [(.int .u8 0),(.str []),(.int .u8 0),(.bool false),.nilslice,(.bool false),.nilslice,(.int .i64 0),.nilslice] [.int .u8 0] (sG x a c d) [.int .u8 (k:Int)] (by rw[<- x.zs];exact zeq _ _ hr) rfl
  exact this
 have hone:tC zA.one (sG x a c d++[.int .u8 (k:Int)])=true:=by
  have:=hr.all
  rw[lG]at this ⊢
  rw[ydi,this];rfl
 refine sF (dL hfz) (mA hone (vC ?_))
 have hk:=zof (m:=m) hp x 1 t _ hP hfit hC hm hr
 have hk':lB yA F 44 [.ptr b 0,.agg [.int .u8 x.op,.str x.name,.int .u8 x.v.kind,.bool x.v.f.n.neg,a,.bool x.v.f.d.neg,c,.int .i64 x.v.i,d]] t=some (kdV (sH p x)):=hk
 rw[q44];show uD (lB yA F 44 [.ptr b 0,.agg [.int .u8 x.op,.str x.name,.int .u8 x.v.kind,.bool x.v.f.n.neg,a,.bool x.v.f.d.neg,c,.int .i64 x.v.i,d]] t) _
 rw[hk',vA];refine jA rfl (wC (jA rfl (wC ?_)))
 have neq:∀ {u w:Int},u≠w->(!iA u w)=true:=by
  intro u w h
  cases hq:iA u w with
  | true=>exact absurd (rH.1 hq) h
  | false=>rfl
 by_cases h1:(sH p x).2=0
 ·refine lA (by rw[iD (by omega)];simp) ?_
  show wp 34 (.ite (!iA ((sH p x).1:Nat) (k:Int)) _ _) t Q
  by_cases h2:(sH p x).1=k
  ·refine lA (by rw[iD (by omega)];simp) (hK ?_)
   unfold mK;rw[yaa (by omega),yaa (by omega)]
  ·have e:mK p x k=142:=by unfold mK;rw[yaa (by omega),yab h2]
   rw[e]at hQ;exact mA (neq (by omega)) (hQ (by omega))
 ·have e:mK p x k=(sH p x).2:=by unfold mK;rw[yab h1]
  rw[e]at hQ;exact mA (neq (by omega)) (hQ h1)
def zu6{x:vF}{cs:List zA}(hp:p.fit)(hfit:x.fit)(hC:sL t b m p)(hm:t.get m=some (.map (sD 64)))(hr:RD t x.d cs):lB yA F 34 [.ptr b 0,.agg cs] t=some (.int .i64 (vQ p x:Nat)):=by
 obtain⟨a,b1,c,a',b',c',rfl,hw,ht⟩:=zdp hr
 refine nJ ?_
 unfold sG;refine w34 _ _ _ _ _ _ _ _ _ _ _ _ _ _ _ _ _ _ _ _ _ _ _ _ _ ?_
 unfold t34;refine yG fun n hn _=>?_
 obtain⟨t1,e1,e2,e3,e4⟩:=lit1 (C:=yA) el24 (cs:=[.str x.name,.str x.label,.int .i64 x.from_,.int .i64 x.to,.int .i64 x.known,.bool x.off]++sG x.when_ a b1 c++sG x.then_ a' b' c') rfl (by decide) hn
 refine⟨_,_,e1,mA rfl (vC ?_)⟩
 show Wq yA F uJ 46 _ t1 _
 have hr1:=hr.mono e3
 have hrp:RD t1 (eC.d ⟨[120],[],[],[x]⟩) [.str [120],.nilslice,.nilslice,.slice n 0 1 1]:=by
  unfold eC.d;rw[gJ];refine⟨[[.str [120]],[.nilslice],[.nilslice],[.slice n 0 1 1]],rfl,?_⟩
  have hnil:∀sz,RD t1 (.sl sz []) [zA.nilslice]:=fun sz=>fJ.2 ⟨_,rfl,[],.inl ⟨rfl,rfl⟩,pI.2 rfl⟩
  refine eH.2 ⟨_,_,rfl,mR.2 rfl,eH.2 ⟨_,_,rfl,hnil 3,eH.2 ⟨_,_,rfl,hnil 3,eH.2 ⟨_,_,rfl,fJ.2 ⟨_,rfl,[_],e2,eH.2 ⟨_,_,rfl,hr1,pI.2 rfl⟩⟩,pI.2 rfl⟩⟩⟩⟩
 have hpf:eC.fit ⟨[120],[],[],[x]⟩:=by
  have hb:cC=1125899906842624:=rfl
  refine⟨by rw[hb];show 1<_;omega,by rw[hb];show 0<_;omega,by rw[hb];show 0<_;omega,by rw[hb];show 1<_;omega,(fun d h=>by cases h),(fun d h=>by cases h),fun y hy=>?_⟩
  have:y=x:=ydd.1 hy
  rw[this];exact hfit
 have hpp:zod ⟨[120],[],[],[x]⟩=uP x:=by
  have hN:zK [120]=true:=by kernel_rfl
  unfold zod;simp[hN]
 rw[q46,zbw hpf hrp,hpp,vA];refine xD ?_
 unfold vQ;have bD:∀(k:Nat) (t':Tr rA),zB t t'->(fun v' t'=>v'=zA.int .i64 (k:Int)/\∀(b:Nat) (y:rA),t.get b=some y->t'.get b=some y) (zA.int .i64 (k:Int)) t':=fun k t' h=>⟨rfl,h⟩
 cases hcP:uP x with
 | false=>rw[yab rfl];exact mA rfl (bD 140 _ e3)
 | true=>
  rw[yaa (by simp)]
  refine lA (by simp) ?_
  by_cases h1:x.to<=x.from_
  ·rw[yab h1];exact mA (yLe h1) (bD 144 _ e3)
  rw[yaa h1];refine lA (nLe h1) ?_
  have hhalf:x.off=true/\tO x.when_=true/\tO x.then_=true\/x.off=false/\rF x.when_ 1=true/\rF x.then_ 1=true:=by
   unfold uP at hcP;simp only[ybb]at hcP;have:=hcP.2.2.2.2.2
   cases ho:x.off with
   | true=>rw[ho,yab rfl,ybb]at this;exact .inl ⟨rfl,this⟩
   | false=>rw[ho,yaa (by simp),ybb]at this;exact .inr ⟨rfl,this⟩
  have hpw:sI x.when_<1000000000000000000:=by
   rcases hhalf with⟨_,h,_⟩ | ⟨_,h,_⟩
   ·rw[zgs h];omega
   ·exact zds h
  have hpt:sI x.then_<1000000000000000000:=by
   rcases hhalf with⟨_,_,h⟩ | ⟨_,_,h⟩
   ·rw[zgs h];omega
   ·exact zds h
  have hfw:=hfit.2.2.2.2.2.1
  have hft:=hfit.2.2.2.2.2.2
  have pw:lB yA F 23 [.agg (sG x.when_ a b1 c)] t1=some (.int .i64 (sI x.when_:Nat)):=sW _ _ hfw hpw (hw.mono e3)
  have pt:lB yA F 23 [.agg (sG x.then_ a' b' c')] t1=some (.int .i64 (sI x.then_:Nat)):=sW _ _ hft hpt (ht.mono e3)
  refine vC ?_
  rw[q23];show uD (lB yA F 23 [.agg (sG x.when_ a b1 c)] t1) _
  rw[pw,vA];refine wC ?_
  by_cases h2:200<sI x.when_
  ·rw[yab (.inl h2)];exact mA (zG (by omega)) (bD 5 _ e3)
  refine lA (dF (by omega)) (vC ?_)
  rw[q23];show uD (lB yA F 23 [.agg (sG x.then_ a' b' c')] t1) _
  rw[pt,vA];refine wC ?_
  by_cases h3:200<sI x.then_
  ·rw[yab (.inr h3)];exact mA (zG (by omega)) (bD 5 _ e3)
  rw[yaa (by omega)]
  refine lA (dF (by omega)) ?_
  have hC1:=hC.mono e3
  obtain⟨cp,k1,k2,k3,k4⟩:=hC1.plan
  obtain⟨u1,u2⟩:=zik k1
  refine jA bE (jA zo9 (lC k3 (sF u1 (yG fun bd hbd hbase=>?_))))
  obtain⟨t2,g1,g2,g3,g4⟩:=eS (C:=yA) z8b hbd
  refine⟨_,_,g1,vC ?_⟩
  rw[u2,q19,zsk hp (k1.mono g3),vA]
  have f1:tB yA 59 1 (.ptr bd 0)=some (.ptr bd 1):=by kernel_rfl
  have f2:tB yA 59 2 (.ptr bd 0)=some (.ptr bd 2):=by kernel_rfl
  cases hd:xK p.defs x.name with
  | none=>
   refine jA rfl (sF (dL rfl) (jA rfl (xD (yG fun k _ _=>?_))))
   obtain⟨t3,m1,m2,m3⟩:=rV g2 hbase z8b rfl rfl (m:=[.str [],.int .u8 0,.bool false]) rfl rfl
   refine⟨_,_,m1 k,mA rfl (bD 141 _ fun c u hc=>?_)⟩
   have hc1:=e3 _ _ hc
   have:c≠bd:=fun e=>by rw[e,hbd]at hc1;cases hc1
   rw[m3 c this];exact g3 _ _ hc1
  | some d=>
   refine jA rfl (sF (dL rfl) (jA rfl (xD (yG fun k _ _=>?_))))
   obtain⟨t3,m1,m2,m3⟩:=rV g2 hbase z8b rfl rfl (m:=[.str d.name,.int .u8 d.kind,.bool d.fact]) rfl rfl
   have hle:zB t1 t3:=fun c u hc=>by
    have:c≠bd:=fun e=>by rw[e,hbd]at hc;cases hc
    rw[m3 c this];exact g3 _ _ hc
   have hle0:zB t t3:=e3.trans hle
   have ld1:oA yA 5 ⟨0,t3⟩ (.ptr bd 1)=some (.int .u8 (d.kind:Int)):=m2.load1 (j:=1) ty5 rfl rfl
   have ld2:oA yA 4 ⟨0,t3⟩ (.ptr bd 2)=some (.bool d.fact):=m2.load1 (j:=2) ty4 rfl rfl
   refine⟨_,_,m1 k,lA (by simp) (jA f2 (lC ld2 (xD ?_)))⟩
   show wp 34 _ t3 (fun v' t'=>v'=zA.int .i64 (vR p x d:Nat)/\∀(b:Nat) (y:rA),t.get b=some y->t'.get b=some y)
   have res:∀k:Nat,vR p x d=k->wp 34 (.ret (.int .i64 (k:Int))) t3 (fun v' t'=>v'=zA.int .i64 (vR p x d:Nat)/\∀(b:Nat) (y:rA),t.get b=some y->t'.get b=some y):=fun k h=>by rw[h];exact⟨rfl,hle0⟩
   cases hf:d.fact with
   | true=>exact mA rfl (res 141 (by unfold vR;rw[yab hf]))
   | false=>
    refine lA (by simp) ?_
    cases ho:x.off with
    | true=>exact mA rfl (res 0 (by unfold vR;rw[yaa (by rw[hf];simp),yab ho]))
    | false=>
     have eD:vR p x d=if mK p x.when_ 1≠0 then mK p x.when_ 1 else mK p x.then_ d.kind:=by unfold vR;rw[yaa (by rw[hf];simp),yaa (by rw[ho];simp)]
     rw[ho]at hhalf;simp only[ybq,false_and,false_or,true_and]at hhalf;refine lA (by simp) (mA rfl (jA f1 (lC ld1 (wC (mA rfl (mA rfl (oC ?_)))))))
     have w1:wA .i64 (0+1)=1:=rfl
     have w2:wA .i64 (1+1)=2:=rfl
     have hC3:=hC.mono hle0
     have hm3:=hle0 _ _ hm
     refine z9u _ _ _ _ _ _ _ _ _ _ _ _ _ _ _ _ _ _ _ _ _ _ (mA rfl (jA half0 ?_))
     refine z0a (k:=1) hp hhalf.1 hfw hC3 hm3 (hw.mono hle0) (fun h=>?_) fun h1=>oC ?_
     ·rw[eD,yab h];exact⟨rfl,hle0⟩
     rw[w1];refine z9u _ _ _ _ _ _ _ _ _ _ _ _ _ _ _ _ _ _ _ _ _ _ (mA rfl (jA half1 ?_))
     rw[eD,yaa (by simpa using h1)]
     refine z0a (k:=d.kind) hp hhalf.2 hft hC3 hm3 (ht.mono hle0) (fun h=>⟨rfl,hle0⟩) fun h=>oC ?_
     rw[w2];refine z9u _ _ _ _ _ _ _ _ _ _ _ _ _ _ _ _ _ _ _ _ _ _ (lA (by show ¬ (false=true);simp) ?_)
     rw[h];exact bD 0 _ hle0
end
def zlo{a b:List Nat}:wG (.str a) (.str b)=some (decide (a=b)):=by
 show some (xF a b)=_
 congr 1
 cases h:xF a b with
 | true=>rw[decide_eq_true ((jK _ _).1 h)]
 | false=>rw[decide_eq_false (fun e=>by rw[(jK _ _).2 e]at h;cases h)]
def qO(l:List (List Nat)):List (zA × zA):=l.map fun s=>(zA.str s,zA.bool true)
def zl0{k:List Nat}:∀(l:List (List Nat)),yH (.str k) (qO l)=some (if k∈l then some (.bool true)else none)
 | []=>rfl
 | x::l=>by
  show ob (wG (.str k) (.str x)) (fun r=>bif r then some (some (zA.bool true))else yH (.str k) (qO l))=_
  rw[zlo,tA];by_cases h:k=x
  ·simp[h]
  ·rw[decide_eq_false h]
   show yH (.str k) (qO l)=_
   rw[zl0 l];simp[h]
def zib{k:List Nat}:∀(l:List (List Nat)),k∉l->nG (.str k) (.bool true) (qO l)=some (qO (l++[k]))
 | [],_=>rfl
 | x::l,h=>by
  have h1:k≠x:=fun e=>h (e ▸ .head _)
  show ob (wG (.str k) (.str x)) (fun r=>bif r then some ((zA.str k,zA.bool true)::qO l)else ob (nG (.str k) (.bool true) (qO l)) fun l'=>some ((zA.str x,zA.bool true)::l'))=_
  rw[zlo,tA,decide_eq_false h1];show ob (nG (.str k) (.bool true) (qO l)) _=_
  rw[zib l fun m=>h (.tail _ m),tA]
  rfl
def cK(seen:List (List Nat)):List (List Nat)->Bool
 | []=>false
 | x::l=>if x∈seen then true else cK (seen++[x]) l
def zrw{s:List Nat}:uM yA 140 (.str s)=true:=by kernel_rfl
def zlb{mb:Nat}{seen:List (List Nat)}(hm:t.get mb=some (.map (qO seen)))(s:List Nat):xH yA 140 ⟨0,t⟩ (.map mb) (.str s) false=some (.bool (decide (s∈seen))):=by
 have hf:=zl0 (k:=s) seen
 by_cases h:s∈seen
 ·rw[yab h]at hf
  rw[decide_eq_true h];exact ziw zrw hm hf ty140 rfl ty4 false
 ·rw[yaa h]at hf
  rw[decide_eq_false h];exact zlc zrw hm hf ty140 rfl ty4 false
def zfk{l:List jE}{v:zA}{mb:Nat}{t0:Tr rA}(hr:cA t0 3 (l.map jE.d) v)(hlen:l.length<cC)(hb:yA.base<=mb)(hmb:t0.get mb=none):∀(k i:Nat) (seen:List (List Nat)) (t:Tr rA),i+k=l.length->zB t0 t->t.get mb=some (.map (qO seen)) →
  jp 47 2 [.func (.func 48) [] [],.map mb,v,.int .i64 (l.length:Int),.int .i64 (i:Int)] t (fun x t'=>x=.bool (cK seen ((l.drop i).map jE.name))/\zB t0 t'):=by
 unfold cC at hlen;intro k;induction k with
 | zero=>
  intro i seen t hi hle hm;refine j47_2 _ _ _ _ _ (lA (dF (by omega)) ?_)
  rw[ybt (by omega)]
  exact⟨rfl,hle⟩
 | succ k ih=>
  intro i seen t hi hle hm;have hlt:i<l.length:=by omega
  obtain⟨b0,off,cs,g1,g2,_,_,g5⟩:=zF.at sl22 (by simp) (hr.mono hle) (i:=i) (d:=l[i].d) (by simp[hlt])
  have hcs:=zkr g5
  subst hcs;have hcall:∀(R:uC),R (.str l[i].name) t->uD (iM (.func (.func 48) [] []) [.agg [.str l[i].name,.int .u8 l[i].kind,.bool l[i].fact]]) fun p=>Wq yA F uJ p.1 p.2 t R:=by
   intro R hR;show uD (some (48,[zA.agg [.str l[i].name,.int .u8 l[i].kind,.bool l[i].fact]])) _
   rw[vA];simp only[];have:lB yA F 48 [zA.agg [.str l[i].name,.int .u8 l[i].kind,.bool l[i].fact]] t=some (.str l[i].name):=jC.2 (w48 _ _ _ ⟨rfl,rfl⟩)
   rw[q48,this,vA];exact hR
  refine j47_2 _ _ _ _ _ (mA (zG (by omega)) (jA g1 (lC g2 ?_)))
  rw[sK];refine sF (lI g5 (jE.zs _)) (mA rfl (hcall _ (kH (lC (zlb hm _) (xD ?_)))))
  rw[zJ hlt,ycm];unfold cK;by_cases h:l[i].name∈seen
  ·rw[yab h,decide_eq_true h]
   exact mA rfl ⟨rfl,hle⟩
  ·rw[yaa h,decide_eq_false h]
   refine lA (by simp) (hcall _ (kH (yG fun n _ _=>?_)))
   refine⟨_,_,zhw zrw hb hm (zib seen h),oC ?_⟩
   rw[wrap_i64 (by omega) (by omega),show(i:Int)+1=((i+1:Nat):Int) by omega]
   refine ih (i+1) (seen++[l[i].name]) _ (by omega) (fun c u hc=>?_) (by show(t.set mb _).get mb=_;rw[Tr.get_set,yab rfl])
   have:c≠mb:=fun e=>by rw[e,hmb]at hc;cases hc
   show(t.set mb _).get c=_
   rw[Tr.get_set,yaa this];exact hle _ _ hc
def zwg{l:List jE}{v:zA}(hr:cA t 3 (l.map jE.d) v)(hlen:l.length<cC):lB yA F 47 [v,.func (.func 48) [] []] t=some (.bool (cK [] (l.map jE.name))):=by
 refine nJ (w47 _ _ ?_)
 unfold t47;refine yG fun mb hmb hb=>?_
 refine⟨.map mb,⟨mb+1,t.set mb (.map [])⟩,rfl,jA hr.len (wC (oC ?_))⟩
 rw[ybf];exact zfk hr hlen hb hmb l.length 0 [] (t.set mb (.map [])) (by omega) (vJ hmb _).1 (by rw[Tr.get_set,yab rfl];rfl)
def zfj{l:List qE}{v:zA}{mb:Nat}{t0:Tr rA}(hr:cA t0 3 (l.map qE.d) v)(hlen:l.length<cC)(hb:yA.base<=mb)(hmb:t0.get mb=none):∀(k i:Nat) (seen:List (List Nat)) (t:Tr rA),i+k=l.length->zB t0 t->t.get mb=some (.map (qO seen)) →
  jp 49 2 [.func (.func 50) [] [],.map mb,v,.int .i64 (l.length:Int),.int .i64 (i:Int)] t (fun x t'=>x=.bool (cK seen ((l.drop i).map qE.name))/\zB t0 t'):=by
 unfold cC at hlen;intro k;induction k with
 | zero=>
  intro i seen t hi hle hm;refine j49_2 _ _ _ _ _ (lA (dF (by omega)) ?_)
  rw[ybt (by omega)]
  exact⟨rfl,hle⟩
 | succ k ih=>
  intro i seen t hi hle hm;have hlt:i<l.length:=by omega
  obtain⟨b0,off,cs,g1,g2,_,_,g5⟩:=zF.at sl23 (by simp) (hr.mono hle) (i:=i) (d:=l[i].d) (by simp[hlt])
  have g50:=g5
  obtain⟨a,rfl,ha⟩:=uW g5
  have hone:tC zA.one [.str l[i].name,.bool l[i].two,a]=true:=g50.all
  have hcall:∀(R:uC),R (.str l[i].name) t->uD (iM (.func (.func 50) [] []) [.agg [.str l[i].name,.bool l[i].two,a]]) fun p=>Wq yA F uJ p.1 p.2 t R:=by
   intro R hR;show uD (some (50,[zA.agg [.str l[i].name,.bool l[i].two,a]])) _
   rw[vA];simp only[];have:lB yA F 50 [zA.agg [.str l[i].name,.bool l[i].two,a]] t=some (.str l[i].name):=jC.2 (w50 _ _ _ ⟨rfl,rfl⟩)
   rw[q50,this,vA];exact hR
  refine j49_2 _ _ _ _ _ (mA (zG (by omega)) (jA g1 (lC g2 ?_)))
  rw[sK];refine sF (lI g50 (qE.zs _)) (mA hone (hcall _ (kH (lC (zlb hm _) (xD ?_)))))
  rw[zJ hlt,ycm];unfold cK;by_cases h:l[i].name∈seen
  ·rw[yab h,decide_eq_true h]
   exact mA rfl ⟨rfl,hle⟩
  ·rw[yaa h,decide_eq_false h]
   refine lA (by simp) (hcall _ (kH (yG fun n _ _=>?_)))
   refine⟨_,_,zhw zrw hb hm (zib seen h),oC ?_⟩
   rw[wrap_i64 (by omega) (by omega),show(i:Int)+1=((i+1:Nat):Int) by omega]
   refine ih (i+1) (seen++[l[i].name]) _ (by omega) (fun c u hc=>?_) (by show(t.set mb _).get mb=_;rw[Tr.get_set,yab rfl])
   have:c≠mb:=fun e=>by rw[e,hmb]at hc;cases hc
   show(t.set mb _).get c=_
   rw[Tr.get_set,yaa this];exact hle _ _ hc
def zwf{l:List qE}{v:zA}(hr:cA t 3 (l.map qE.d) v)(hlen:l.length<cC):lB yA F 49 [v,.func (.func 50) [] []] t=some (.bool (cK [] (l.map qE.name))):=by
 refine nJ (w49 _ _ ?_)
 unfold t49;refine yG fun mb hmb hb=>?_
 refine⟨.map mb,⟨mb+1,t.set mb (.map [])⟩,rfl,jA hr.len (wC (oC ?_))⟩
 rw[ybf];exact zfj hr hlen hb hmb l.length 0 [] (t.set mb (.map [])) (by omega) (vJ hmb _).1 (by rw[Tr.get_set,yab rfl];rfl)
end
section
variable [fC]
variable {t tf:Tr rA}
def zri(p:eC):Bool:=p.tables.any fun x=>decide (400<x.rows.length)
def zua(p:eC):Bool:=decide (64<p.defs.length)||(decide (16<p.tables.length)||(decide (400<p.clauses.length)||zri p))
def lS(p:eC):Nat:=
 if zod ⟨p.name,p.defs,p.tables,[]⟩=false then 140 else if zua p=true then 5 else if cK [] (p.defs.map jE.name)=true then 143 else if cK [] (p.tables.map qE.name)=true then 143 else 0
def nilR{sz:Nat}:cA t sz [] .nilslice:=⟨[],.inl ⟨rfl,rfl⟩,pI.2 rfl⟩
def z82{p:eC}{a b c:zA}(ha:cA t 3 (p.defs.map jE.d) a)(hb:cA t 3 (p.tables.map qE.d) b)(hc:cA t 24 (p.clauses.map vF.d) c):RD t p.d [.str p.name,a,b,c]:=by
 unfold eC.d;rw[gJ];exact⟨[[.str p.name],[a],[b],[c]],rfl,eH.2 ⟨_,_,rfl,mR.2 rfl,eH.2 ⟨_,_,rfl,fJ.2 ⟨_,rfl,ha⟩,eH.2 ⟨_,_,rfl,fJ.2 ⟨_,rfl,hb⟩,eH.2 ⟨_,_,rfl,fJ.2 ⟨_,rfl,hc⟩,pI.2 rfl⟩⟩⟩⟩⟩
def zmi{p:eC}{cs:List zA}(hp:p.fit)(hr:RD t p.d cs):lB yA F 33 [.agg cs] t=some (.int .i64 (lS p:Nat)):=by
 have hr0:=hr
 obtain⟨a,b,c,rfl,ha,hb,hc⟩:=xN hr
 have hlen:=hp.ntables
 unfold cC at hlen;refine jC.2 (w33 _ _ _ _ ?_)
 unfold t33;refine mA ?_ (vC ?_)
 ·rw[lG];simp only[ycg,yck,ha.one,hb.one];rfl
 have hpf:eC.fit ⟨p.name,p.defs,p.tables,[]⟩:=⟨hp.name,hp.ndefs,hp.ntables,by show 0<cC;unfold cC;omega,hp.defs,hp.tables,fun d h=>by cases h⟩
 have hrd:RD t (eC.d ⟨p.name,p.defs,p.tables,[]⟩) [.str p.name,a,b,.nilslice]:=z82 (p:=⟨p.name,p.defs,p.tables,[]⟩) ha hb nilR
 rw[q46,zbw hpf hrd,vA];refine xD ?_
 unfold lS
 cases hP:zod ⟨p.name,p.defs,p.tables,[]⟩with
 | false=>rw[yab rfl];exact mA rfl ⟨rfl,rfl⟩
 | true=>
  rw[yaa (by simp)]
  have tl:=hb.len
  rw[ybf]at tl;have dl:=ha.len
  rw[ybf]at dl;have cl:=hc.len
  rw[ybf]at cl;have loop:∀(k i:Nat) (r:Bool),i+k=p.tables.length->zua p=(r||(p.tables.drop i).any fun x=>decide (400<x.rows.length)) →
    jp 33 2 [.bool r,b,.int .i64 (p.tables.length:Int),.int .i64 (i:Int),.str p.name,a,b,c] t (fun x t'=>x=.int .i64 ((if zua p=true then 5 else if cK [] (p.defs.map jE.name)=true then 143 else if cK [] (p.tables.map qE.name)=true then 143 else 0:Nat):Int)/\t'=t):=by
   intro k;induction k with
   | zero=>
    intro i r hi hm;rw[ybt (by omega)]at hm
    simp only[List.any_nil,Bool.or_false]at hm;refine j33_2 _ _ _ _ _ _ _ _ (lA (dF (by omega)) ?_)
    rw[hm]
    cases r with
    | true=>rw[yab rfl];exact mA rfl ⟨rfl,rfl⟩
    | false=>
     rw[yaa (by simp)]
     refine lA (by simp) (vC ?_)
     rw[q47,zwg ha hp.ndefs,vA];refine xD ?_
     cases h1:cK [] (p.defs.map jE.name)with
     | true=>rw[yab rfl];exact mA rfl ⟨rfl,rfl⟩
     | false=>
      rw[yaa (by simp)]
      refine lA (by simp) (vC ?_)
      rw[q49,zwf hb hp.ntables,vA];refine xD ?_
      cases h2:cK [] (p.tables.map qE.name)with
      | true=>rw[yab rfl];exact mA rfl ⟨rfl,rfl⟩
      | false=>rw[yaa (by simp)];exact lA (by simp) ⟨rfl,rfl⟩
   | succ k ih=>
    intro i r hi hm;have hlt:i<p.tables.length:=by omega
    obtain⟨b0,off,cs,g1,g2,_,_,g5⟩:=zF.at sl23 (by simp) hb (i:=i) (d:=p.tables[i].d) (by simp[hlt])
    have g50:=g5
    obtain⟨rv,rfl,hrv⟩:=uW g5
    have hone:tC zA.one [.str p.tables[i].name,.bool p.tables[i].two,rv]=true:=g50.all
    have rl:=hrv.len
    rw[ybf]at rl;rw[zJ hlt,List.any_cons]at hm;refine j33_2 _ _ _ _ _ _ _ _ (mA (zG (by omega)) (jA g1 (lC g2 ?_)))
    rw[sK];refine sF (lI g50 (qE.zs _)) (mA hone ?_)
    have hw:wA .i64 ((i:Int)+1)=((i+1:Nat):Int):=by rw[wrap_i64 (by omega) (by omega)];omega
    cases r with
    | true=>
     refine mA rfl (oC ?_)
     rw[hw];exact ih (i+1) true (by omega) (by rw[hm];simp)
    | false=>
     refine lA (by simp) (jA rl (wC (oC ?_)))
     rw[hw];have e:iB 400 ((p.tables[i].rows.length:Nat):Int)=decide (400<p.tables[i].rows.length):=by rw[zz6];congr 1;exact propext (by omega)
     rw[e];exact ih (i+1) _ (by omega) (by rw[hm];simp)
  refine lA (by simp) (jA dl (wC ?_))
  by_cases h1:64<p.defs.length
  ·refine mA (zG (by omega)) (jA tl (wC (oC (loop p.tables.length 0 true (by omega) ?_))))
   unfold zua;simp[h1]
  refine lA (dF (by omega)) (jA tl (wC ?_))
  by_cases h2:16<p.tables.length
  ·refine mA (zG (by omega)) (jA tl (wC (oC (loop p.tables.length 0 true (by omega) ?_))))
   unfold zua;simp[h2]
  refine lA (dF (by omega)) (jA cl (wC (jA tl (wC (oC ?_)))))
  have e:iB 400 ((p.clauses.length:Nat):Int)=decide (400<p.clauses.length):=by rw[zz6];congr 1;exact propext (by omega)
  rw[e];refine loop p.tables.length 0 _ (by omega) ?_
  unfold zua zri;simp[h1,h2]
def wR(p:eC):List vF->Nat->Nat × Nat
 | [],_=>(0,0)
 | x::l,i=>if vQ p x≠0 then(i,vQ p x)else wR p l (i+1)
def zsp(p:eC):Int × Nat:=if lS p≠0 then(-1,lS p)else((wR p p.clauses 0).1,(wR p p.clauses 0).2)
def chV (r:Int × Nat):zA:=.tup [.int .i64 r.1,.int .i64 (r.2:Nat)]
def z5q{p:eC}{cs:List zA}(hp:p.fit)(hr:RD t p.d cs):lB yA F 16 [.agg cs] t=some (chV (zsp p)):=by
 have hr0:=hr
 obtain⟨a,b,c,rfl,ha,hb,hc⟩:=xN hr
 have hlen:=hp.nclauses
 unfold cC at hlen;refine nJ (w16 _ _ _ _ ?_)
 unfold t16;refine vC ?_
 rw[q33,zmi hp hr0,vA];refine wC ?_
 unfold zsp;by_cases h:lS p=0
 ·rw[yaa (by omega)]
  refine lA (by rw[iD (by omega)];simp) (vC ?_)
  rw[q28];refine fZ hr0 fun cb m t1 h1 h2 h3=>?_
  have cl:=hc.len
  rw[ybf]at cl;refine jA cl (wC (oC ?_))
  have loop:∀(k i:Nat),i+k=p.clauses.length->jp 16 2 [.ptr cb 0,c,.int .i64 (p.clauses.length:Int),.int .i64 (i:Int)] t1 (fun x t'=>x=chV (((wR p (p.clauses.drop i) i).1:Int),(wR p (p.clauses.drop i) i).2)/\∀b y,t.get b=some y->t'.get b=some y):=by
   intro k;induction k with
   | zero=>
    intro i hi;refine j16_2 _ _ _ _ (lA (dF (by omega)) ?_)
    rw[ybt (by omega)]
    exact⟨rfl,h1⟩
   | succ k ih=>
    intro i hi;have hlt:i<p.clauses.length:=by omega
    have hmem:p.clauses[i]∈p.clauses:=ycj hlt
    obtain⟨b0,off,cs,g1,g2,_,_,g5⟩:=zF.at sl24 (by simp) (hc.mono h1) (i:=i) (d:=p.clauses[i].d) (by simp[hlt])
    refine j16_2 _ _ _ _ (mA (zG (by omega)) (jA g1 (lC g2 ?_)))
    rw[sK];refine sF (lI g5 (vF.zs _)) ?_
    have hmk:=g5.mk (vF.zs p.clauses[i])
    refine mA ?_ (vC ?_)
    ·show tC zA.one (uN [(.str []),(.str []),(.int .i64 0),(.int .i64 0),(.int .i64 0),(.bool false),(.int .u8 0),(.str []),(.int .u8 0),(.bool false),.nilslice,(.bool false),.nilslice,(.int .i64 0),.nilslice,(.int .u8 0),(.str []),(.int .u8 0),(.bool false),.nilslice,(.bool false),.nilslice,(.int .i64 0),.nilslice] (cellsOf cs) 0)=true
     rw[hmk];exact g5.all
    ·show Wq yA F uJ 34 [.ptr cb 0,.agg (uN [(.str []),(.str []),(.int .i64 0),(.int .i64 0),(.int .i64 0),(.bool false),(.int .u8 0),(.str []),(.int .u8 0),(.bool false),.nilslice,(.bool false),.nilslice,(.int .i64 0),.nilslice,(.int .u8 0),(.str []),(.int .u8 0),(.bool false),.nilslice,(.bool false),.nilslice,(.int .i64 0),.nilslice] (cellsOf cs) 0)] t1 _
     rw[hmk,q34,zu6 hp (hp.clauses _ hmem) h2 h3 g5,vA]
     refine wC ?_
     rw[zJ hlt];unfold wR;by_cases he:vQ p p.clauses[i]=0
     ·rw[yaa (by omega)]
      refine lA (by rw[iD (by omega)];simp) (oC ?_)
      rw[wrap_i64 (by omega) (by omega),show(i:Int)+1=((i+1:Nat):Int) by omega]
      exact ih (i+1) (by omega)
     ·rw[yab he]
      refine mA ?_ ⟨rfl,h1⟩
      cases hq:iA ((vQ p p.clauses[i]:Nat):Int) 0 with
      | true=>exact absurd (rH.1 hq) (by omega)
      | false=>rfl
  exact loop p.clauses.length 0 (by omega)
 ·rw[yab h]
  refine mA ?_ ⟨rfl,fun _ _ h=>h⟩
  cases hq:iA ((lS p:Nat):Int) 0 with
  | true=>exact absurd (rH.1 hq) (by omega)
  | false=>rfl
end
section
variable [fC]
variable {t:Tr rA}
def pv36{f:qF}{u v:zA}(h1:cA t 1 (lE f.n.limbs) u)(h2:cA t 1 (lE f.d.limbs) v)(hf:f.ok):lB yA F 32 [.agg [.bool f.n.neg,u,.bool f.d.neg,v]] t=some (.int .i64 (bK f:Nat)):=by
 have hs:=bV hf
 refine jC.2 (w32 _ _ _ _ ?_)
 unfold bK at hs ⊢
 simp (disch:=omega) only[t32,qA,h1.len,h2.len,vA,oB,sV,wrap_i64]
 simp
mutual
def pv37:∀(x:dA) (left:Int) (cs:List zA),x.ok -> -9007199254740992<=left->left<=9007199254740992->RD t x.d cs->lB yA F 22 [.agg cs,.int .i64 left] t=some (.int .i64 (wJ x left))
 | .mk op name v args,left,cs,hx,hl1,hl2,h=>by
  obtain⟨a,b,c,rfl,ha,hb,hc⟩:=cJ h
  simp only[dA.op,dA.name,dA.v,dA.args]at ha hb hc ⊢
  have hx':=hx
  unfold dA.ok at hx';have hf:=bV hx'.2.1
  have hn:=hx'.1
  unfold cC at hn;refine jC.2 (w22 _ _ _ _ _ _ _ _ _ _ ?_)
  simp (disch:=omega) only[t22,qA,q32,pv36 ha hb hx'.2.1,vA,oB,zie,zW,if_true,kL,wrap_i64,Int.tdiv_eq_ediv_of_nonneg]
  unfold wJ;exact z60 args args left _ op name v _ _ c 0 hc rfl hx'.2.2.2 hx'.2.2.1 (by omega) hl1 hl2 (by omega)
def z60:∀(l args:List dA) (left n:Int) (op:Nat) (name:List Nat) (v:mH) (a b c:zA) (i:Nat),cA t 9 (args.map dA.d) c->args.drop i=l->dA.oks l->args.length<cC->0<=n -> -9007199254740992<=left->left<=9007199254740992->n<=27021597764222976 →
  jp 22 2 [.int .i64 left,.int .i64 n,.int .i64 i,.int .u8 op,.str name,.int .u8 v.kind,.bool v.f.n.neg,a,.bool v.f.d.neg,b,.int .i64 v.i,c] t (fun v' t'=>v'=.int .i64 (gN l left n)/\t'=t)
 | [],args,left,n,op,name,v,a,b,c,i,hc,hd,hok,hsz,hn,hl1,hl2,hn2=>by
  have:=zap hd
  refine j22_2 _ _ _ _ _ _ _ _ _ _ _ _ ?_
  simp only[z8q,qA,hc.len,vA,oB,ybf,kD];rw[yaa (by omega)]
  unfold gN;simp
 | x::l,args,left,n,op,name,v,a,b,c,i,hc,hd,hok,hsz,hn,hl1,hl2,hn2=>by
  obtain⟨h1,h2,h3⟩:=aW hd
  unfold cC at hsz;have hok':=hok
  unfold dA.oks at hok';refine j22_2 _ _ _ _ _ _ _ _ _ _ _ _ ?_
  obtain⟨pb,po,cs,g1,g2,g3,g4,g5⟩:=zF.at z8t (by simp) hc (i:=i) (d:=x.d) (by simp[h1])
  simp only[z8q,qA,hc.len,vA,oB,ybf,kD,vG,g1,g2,sK];rw[yab (by omega)]
  unfold gN;split
  ·rename_i hle
   obtain⟨a1,b1,c1,rfl,ha1,hb1,hc1⟩:=cJ g5
   have hs:=qX x (left-n) hok'.1
   rw[lI g5 x.zs];simp only[vA,cellsOf,zz2,zxi,sP,zfh];simp (disch:=omega) only[q22,yaz,yba,wrap_i64]
   rw[pv37 x (left-n) _ hok'.1 (by omega) (by omega) g5]
   simp (disch:=omega) only[vA,oB,wrap_i64]
   have:=z60 l args left (n+wJ x (left-n)) op name v a b c (i+1) hc h2 hok'.2 hsz (by omega) hl1 hl2 (by omega)
   rw[show((i:Int)+1)=((i+1:Nat):Int) by omega]
   exact this
  ·simp
end
end
end Go.Proofs
namespace Go.Am
open Go Go.RowKit
def zio{α:Type}(f:Nat->Option α):Nat->Tr α
 | 0=>.leaf
 | n+1=>match f n with
  | some v=>(zio f n).set n v
  | none=>zio f n
def yP{α:Type}(f:Nat->Option α):∀(n a:Nat),(zio f n).get a=if a<n then f a else none:=by
 intro n;induction n with
 | zero=>intro a;rw[yaa (by omega)];exact Tr.get_leaf _
 | succ n ih=>
  intro a;unfold zio
  cases hf:f n with
  | some v=>
   simp only[];rw[Tr.get_set,ih];by_cases h:a=n
   ·subst h;rw[yab rfl,yab (by omega),hf]
   ·rw[yaa h]
    by_cases h2:a<n
    ·rw[yab h2,yab (by omega)]
    ·rw[yaa h2,yaa (by omega)]
  | none=>
   simp only[];rw[ih];by_cases h:a=n
   ·subst h;rw[yaa (by omega),yab (by omega),hf]
   ·by_cases h2:a<n
    ·rw[yab h2,yab (by omega)]
    ·rw[yaa h2,yaa (by omega)]
def zvi (N:Nat):Value->Option zA
 | .bool b=>some (.bool b)
 | .int k n=>some (.int k n)
 | .string s=>some (.str (rE s))
 | .slice none 0 0=>some .nilslice
 | .slice (some _) 0 0=>some (.slice 0 0 0 0)
 | .slice (some ⟨b,off,none⟩) len cap=>if b<N then some (.slice (256+b) off len cap)else none
 | _=>none
def absB (N:Nat):Obj->Option rA
 | .cells cs _ _=>some (.cells (zio (fun j=>(cs[j]?).bind (zvi N)) cs.size) cs.size none)
 | _=>none
def fH (w:World):Tr rA:=zio (fun a=>if a<256 then(w.heap[a]?).bind (absB w.heap.size)else(w.heap[a-256]?).bind (absB w.heap.size)) (256+w.heap.size)
def muW (w:World):Mu:=⟨fun a=>if a<256 then some ⟨a,true,0,0,true⟩else if a<256+w.heap.size then some ⟨a-256,true,0,0,true⟩else none,fun _=>none⟩
section
variable {w:World}
def zsz{v:Value}{a:zA}(h:zvi w.heap.size v=some a):uA (muW w) a v:=by
 unfold zvi at h;split at h
 ·cases h;rw[uA]
 ·cases h;rw[uA]
 ·cases h;rw[uA];exact⟨_,rfl,rfl⟩
 ·cases h;rw[uA]
 ·cases h;rw[uA];exact .inr ⟨rfl,rfl,rfl,_,_,rfl,.inl ⟨rfl,rfl⟩⟩
 ·split at h
  ·rename_i hb
   cases h;rename_i b off len cap _;rw[uA];refine .inl ⟨⟨b,true,0,0,true⟩,cap,?_,rfl,ybk _,fun _=>rfl,fun h=>by cases h⟩
   show(if 256+b<256 then some (⟨256+b,true,0,0,true⟩:BI)else if 256+b<256+w.heap.size then some ⟨256+b-256,true,0,0,true⟩else none)=_
   rw[yaa (by omega),yab (by omega),show 256+b-256=b by omega]
  ·cases h
 ·cases h
def zs1{o:Obj}{x:rA}(h:absB w.heap.size o=some x)(b:Nat):uH (muW w) ⟨b,true,0,0,true⟩ x o/\x.asLoop=none/\x.asDeferred=none:=by
 cases o<;>first | (cases h;done) | skip
 rename_i cs elem fr
 cases h;refine⟨⟨cs,elem,fr,rfl,ybk _,.inl rfl,fun j v hv=>?_,rfl⟩,rfl,rfl⟩
 rw[yP]at hv;split at hv
 case isFalse=>cases hv
 rename_i hj
 cases hc:cs[j]? with
 | none=>rw[hc]at hv;cases hv
 | some u=>
  rw[hc]at hv;exact⟨hj,u,rfl,zsz hv⟩
def hrelW:xB (256+w.heap.size) w.heap.size (muW w) ⟨256+w.heap.size,fH w⟩ w:=by
 have hget:∀a x,(fH w).get a=some x->∃b o,b<w.heap.size/\w.heap[b]?=some o/\absB w.heap.size o=some x/\a<256+w.heap.size/\b=(if a<256 then a else a-256):=by
  intro a x hx;unfold fH at hx;rw[yP]at hx;split at hx
  case isFalse=>cases hx
  rename_i hlt;split at hx
  ·rename_i h
   cases ho:w.heap[a]? with
   | none=>rw[ho]at hx;cases hx
   | some o=>rw[ho]at hx;exact⟨a,o,(ybe.1 ho).1,ho,hx,hlt,by rw[yab h]⟩
  ·rename_i h
   cases ho:w.heap[a-256]? with
   | none=>rw[ho]at hx;cases hx
   | some o=>rw[ho]at hx;exact⟨a-256,o,(ybe.1 ho).1,ho,hx,hlt,by rw[yaa h]⟩
 have hmu:∀a,(muW w) a=if a<256 then some ⟨a,true,0,0,true⟩else if a<256+w.heap.size then some ⟨a-256,true,0,0,true⟩else none:=fun _=>rfl
 have big:∀a,256+w.heap.size<=a->(muW w) a=none:=fun a h=>by rw[hmu,yaa (by omega),yaa (by omega)]
 have same:∀a x i,(fH w).get a=some x->(muW w) a=some i->∃o,w.heap[i.b]?=some o/\i.b<w.heap.size/\absB w.heap.size o=some x/\i=⟨i.b,true,0,0,true⟩:=by
  intro a x i hx hi;obtain⟨b,o,h1,h2,h3,h4,h5⟩:=hget a x hx
  rw[hmu]at hi;split at hi
  ·rename_i h
   cases hi;rw[yab h]at h5;subst h5;exact⟨o,h2,h1,h3,rfl⟩
  ·rename_i h
   rw[yaa h]at h5;have hi:=yci hi
   have hb:i.b=b:=by rw[<- hi,h5]
   refine⟨o,by rw[hb];exact h2,by rw[hb];exact h1,h3,by rw[<- hi]⟩
 refine⟨by omega,fun g hg=>by rw[hmu,yab hg],fun a x i _ hx hi=>?_,ybk _,ybk _,fun a ha=>⟨big a ha,?_⟩,fun a x i hx hi=>?_,fun a i ha hi=>?_,fun a b x y i j hx _ hi _ ha _ _=>?_,fun a x t h=>by cases h⟩
 ·obtain⟨o,_,h2,h3,_⟩:=same a x i hx hi
  exact⟨h2,(zs1 h3 0).2⟩
 ·show(fH w).get a=none
  unfold fH;have ha:256+w.heap.size<=a:=ha
  rw[yP,yaa (by omega)]
 ·obtain⟨o,h1,_,h3,h4⟩:=same a x i hx hi
  exact⟨o,h1,by rw[h4];exact(zs1 h3 _).1⟩
 ·rw[big a ha]at hi;cases hi
 ·rw[big a ha]at hi;cases hi
end
end Go.Am
namespace Go.Am
open Go Go.RowKit
def fF(P:Program):Nat->TypeId->D->Prop
 | 0,_,_=>False
 | f+1,t,x=>match P.underlying t with
  | some .bool=>∃b,x=.bool b
  | some (.int k)=>∃n,x=.int k n/\(Lit.int k n).wf=true
  | some .string=>∃l:List Nat,x=.str l/\l.length<=reachBytes/\∀c∈l,c<256
  | some (.slice e)=>∃l:List D,x=.sl (P.cellsOf e) l/\l.length*P.bytesOf e<=reachBytes/\∀y∈l,fF P f e y
  | some (.struct fs)=>∃l:List D,x=.st l/\mC (fun fd y=>fF P f fd.type y) fs.toList l
  | _=>False
def zti(P:Program):Nat->List Field->Nat->Bool
 | off,[],n=>off == n
 | off,f::fs,n=>f.offset == off&&zti P (off+P.cellsOf f.type) fs n
structure Plain (P:Program) (S:TypeId->Prop):Prop where
 part:∀t,S t->match P.underlying t with
  | some .bool=>True
  | some (.int _)=>True
  | some .string=>True
  | some (.slice e)=>S e/\0<P.cellsOf e
  | some (.struct fs)=>(∀f∈fs.toList,S f.type)/\zti P 0 fs.toList (P.cellsOf t)=true
  | _=>False
def av (N:Nat)(v:Value):zA:=(zvi N v).getD .nilptr
def Has (N:Nat)(cs:List Value):Prop:=∀v∈cs,zvi N v=some (av N v)
def zez{α:Type}{Q:Nat->α->Prop}:∀(n:Nat),(∀i,i<n->∃p,Q i p)->∃l:List α,l.length=n/\∀i p,l[i]?=some p->Q i p:=by
 intro n;induction n with
 | zero=>intro _;exact⟨[],rfl,fun i p h=>by simp at h⟩
 | succ n ih=>
  intro h;obtain⟨l,hl,hq⟩:=ih fun i hi=>h i (by omega)
  obtain⟨p,hp⟩:=h n (by omega)
  refine⟨l++[p],by simp[hl],fun i q hq'=>?_⟩
  by_cases hi:i<n
  ·rw[yco (by omega)]at hq';exact hq i q hq'
  ·rw[ybp (by omega)]at hq'
   have:i-l.length=0:=by
    cases hz:i-l.length with
    | zero=>rfl
    | succ m=>rw[hz]at hq';simp at hq'
   rw[this]at hq'
   simp at hq'
   subst hq'
   have:i=n:=by omega
   subst this;exact hp
section
variable {H:Type}{enc:TypeId × Value->H}{P:Program}{w:World}
def lZ{p:Nat->Bool}:∀ {ts:List TypeId} {ds:List (DataW H)},(DataW.weightsEach P ts ds).all p=true->∀ {i:Nat} {t:TypeId} {d:DataW H},ts[i]?=some t->ds[i]?=some d->(DataW.weights P t d).all p=true
 | [],_,_,i,_,_,h1,_=>by simp at h1
 | _::_,[],_,i,_,_,_,h2=>by simp at h2
 | t::ts,d::ds,h,i,u,e,h1,h2=>by
  rw[DataW.weightsEach,ydi,ybb]at h
  cases i with
  | zero=>simp at h1 h2;subst h1 h2;exact h.1
  | succ i=>exact lZ h.2 (by simpa using h1) (by simpa using h2)
def kZ{p:Nat->Bool}{e:TypeId}:∀ {ds:List (DataW H)},(DataW.weightsAll P e ds).all p=true->∀ {i:Nat} {d:DataW H},ds[i]?=some d->(DataW.weights P e d).all p=true
 | [],_,i,_,h2=>by simp at h2
 | d::ds,h,i,x,h2=>by
  rw[DataW.weightsAll,ydi,ybb]at h
  cases i with
  | zero=>simp at h2;subst h2;exact h.1
  | succ i=>exact kZ h.2 (by simpa using h2)
def zsq{a:Addr}{n:Nat}{cs:List Value}(h:w.cells? 0 a n=some cs):cs.length=n/\(0<n->a.spot=none/\∃c t fr,w.heap[a.block]?=some (.cells c t fr)/\∀j,j<n->c[a.off+j]?=cs[j]?):=by
 unfold World.cells? at h
 rw[yab (yaw _)]at h
 have hl:=mapM_some_length h
 have hg:=mapM_some_get h
 simp only[List.length_range]at hl;refine⟨hl,fun hn=>?_⟩
 have key:∀j,j<n->w.cell? (a.add j)=cs[j]?:=fun j hj=>hg j j (by simp[hj])
 have h0:=key 0 hn
 have hs0:∃v,cs[0]?=some v:=⟨cs[0]'(by omega),ybd (by omega)⟩
 obtain⟨v0,hv0⟩:=hs0
 rw[hv0]at h0;have e0:a.add 0=a:=by simp[Addr.add]
 rw[e0]at h0;unfold World.cell? at h0
 cases hb:w.heap[a.block]? with
 | none=>rw[hb]at h0;cases h0
 | some o=>
  rw[hb]at h0
  cases o with
  | cells c t fr=>
   simp only[]at h0;split at h0
   ·cases h0
   ·rename_i hsp
    refine⟨by simpa using hsp,c,t,fr,rfl,fun j hj=>?_⟩
    have:=key j hj
    unfold World.cell? at this
    by_cases hj0:j=0
    ·subst hj0;rw[hv0,yct];exact h0
    ·have eb:(a.add j).block=a.block:=by unfold Addr.add;rw[yaa hj0]
     have eo:(a.add j).off=a.off+j:=by unfold Addr.add;rw[yaa hj0]
     have es:(a.add j).spot=none:=by unfold Addr.add;rw[yaa hj0]
     rw[eb,hb]at this;simp only[es,eo,Option.isSome_none,ybq,if_false]at this;exact this
  | _=>cases h0
def zs0{b:Nat}{c:Array Value}{t:TypeId}{fr:Nat × Nat}(h:w.heap[b]?=some (.cells c t fr)) :
  (fH w).get (256+b)=some (.cells (zio (fun j=>(c[j]?).bind (zvi w.heap.size)) c.size) c.size none):=by
 have hb:=(ybe.1 h).1
 unfold fH;rw[yP,yab (by omega),yaa (by omega),show 256+b-256=b by omega,h]
 rfl
def at_old{b off n:Nat}{c:Array Value}{t:TypeId}{fr:Nat × Nat}{cs:List Value}(h:w.heap[b]?=some (.cells c t fr))(hl:cs.length=n)(hc:∀j,j<n->c[off+j]?=cs[j]?)(hs:Has w.heap.size cs) :
  At (fH w) (256+b) off (cs.map (av w.heap.size)):=by
 refine⟨_,_,_,zs0 h,fun j a ha=>?_⟩
 rw[ybu]at ha
 cases hj:cs[j]? with
 | none=>rw[hj]at ha;cases ha
 | some v=>
  rw[hj]at ha;have hlt:j<n:=by rw[<- hl];exact(ybc.1 hj).1
  have h1:=hc j hlt
  rw[hj]at h1;have hsz:off+j<c.size:=(ybe.1 h1).1
  rw[yP,yab hsz,h1];have ha:av w.heap.size v=a:=by simpa using ha
  rw[<- ha];exact hs v (ycv hj)
def zc6{cs:List Value}:∀ {fs:List Field} {off:Nat},zti P off fs cs.length=true->(fs.map fun f=>(cs.drop f.offset).take (P.cellsOf f.type)).flatten=cs.drop off
 | [],off,h=>by simp[zti]at h;subst h;simp
 | f::fs,off,h=>by
  rw[zti,ybb]at h;obtain⟨h1,h2⟩:=h
  have h1:f.offset=off:=by simpa using h1
  rw[ycm,yas,zc6 h2,h1,<- List.drop_drop,List.take_append_drop]
def z18{α β:Type}{R:α->β->Prop}:∀ {l:List α} {m:List β},m.length=l.length->(∀(i:Nat) a b,l[i]?=some a->m[i]?=some b->R a b)->mC R l m
 | [],[],_,_=>.nil
 | [],_::_,h,_=>by simp at h
 | _::_,[],h,_=>by simp at h
 | a::l,b::m,h,k=>.cons (k 0 a b (by simp) (by simp)) (z18 (by simpa using h) fun i a b h1 h2=>k (i+1) a b (by simpa using h1) (by simpa using h2))
def z8z{S:TypeId->Prop}(hP:Plain P S)(h0:∃c n lo,(fH w).get 0=some (.cells c n lo)) :
  ∀(fuel:Nat) (t:TypeId) (cs:List Value) (x:DataW H × List MemPlace),S t->DataW.trod enc P w 0 (fun _=>true) true fuel t cs=some x->(DataW.weights P t x.1).all (· <= reachBytes)=true →
   Has w.heap.size cs/\∃d,RD (fH w) d (cs.map (av w.heap.size))/\fF P fuel t d:=by
 intro fuel;induction fuel with
 | zero=>intro t cs x _ h;simp[DataW.trod]at h
 | succ n ih=>
  intro t cs x hS h hw;have hp:=hP.part t hS
  have one:∀ {v:Value} {a:zA},zvi w.heap.size v=some a->Has w.heap.size [v]/\av w.heap.size v=a:=by
   intro v a hv;have:av w.heap.size v=a:=by unfold av;rw[hv];rfl
   refine⟨fun u hu=>?_,this⟩
   simp at hu;subst hu;rw[hv,this]
  cases hu:P.underlying t with
  | none=>rw[hu]at hp;exact hp.elim
  | some dt=>
  cases dt with
  | bool=>
   obtain⟨b,rfl,rfl⟩:=DataW.trod_bool hu h
   obtain⟨h1,h2⟩:=one (v:=.bool b) (a:=.bool b) rfl
   exact⟨h1,.bool b,by rw[kR];simp[h2],by unfold fF;rw[hu];exact⟨b,rfl⟩⟩
  | int k=>
   obtain⟨m,rfl,rfl,hwf⟩:=DataW.trod_int hu h
   obtain⟨h1,h2⟩:=one (v:=.int k m) (a:=.int k m) rfl
   exact⟨h1,.int k m,by rw[lR];simp[h2],by unfold fF;rw[hu];exact⟨m,rfl,hwf⟩⟩
  | string=>
   obtain⟨s,rfl,rfl,_⟩:=DataW.trod_string hu h
   obtain⟨h1,h2⟩:=one (v:=.string s) (a:=.str (rE s)) rfl
   refine⟨h1,.str (rE s),by rw[mR];simp[h2],?_⟩
   unfold fF;rw[hu];simp only[DataW.weights,ycg,yck,Bool.and_true,decide_eq_true_eq]at hw;refine⟨_,rfl,by unfold rE;simpa using hw,fun c hc=>?_⟩
   unfold rE at hc;simp only[yaq]at hc;obtain⟨u,_,rfl⟩:=hc
   exact UInt8.toNat_lt u
  | slice e=>
   rw[hu]at hp;obtain⟨hSe,hpos⟩:=hp
   rcases DataW.trod_slice hu h with⟨rfl,rfl⟩ | ⟨a,len,cap,iK,rest,m,hm,rfl,rfl,_,hlc,_,hel,hE,hR,_⟩
   ·obtain⟨h1,h2⟩:=one (v:=.slice none 0 0) (a:=.nilslice) rfl
    refine⟨h1,.sl (P.cellsOf e) [],by rw[fJ];exact⟨_,by simp[h2],[],.inl ⟨rfl,rfl⟩,by rw[aC]⟩,?_⟩
    unfold fF;rw[hu];exact⟨[],rfl,by simp,fun y hy=>by simp at hy⟩
   ·obtain rfl:n=m:=by omega
    simp only[DataW.weights,hu,ycg,ybb,ydi,decide_eq_true_eq,ybf]at hw;obtain⟨hsz,hwe,hwr⟩:=hw
    by_cases hcap:cap=0
    ·subst hcap
     obtain rfl:len=0:=by omega
     obtain⟨h1,h2⟩:=one (v:=.slice (some a) 0 0) (a:=.slice 0 0 0 0) (by cases a;rfl)
     refine⟨h1,.sl (P.cellsOf e) [],?_,?_⟩
     ·rw[fJ,ycm,List.map_nil,h2]
      refine⟨_,rfl,[],.inr ⟨0,0,0,rfl,ybk _,?_,fun i cs hi=>by simp at hi⟩,by rw[aC]⟩
      obtain⟨c,k,lo,hc⟩:=h0
      have:=hc
      unfold fH at this;rw[yP]at this;split at this
      case isFalse=>cases this
      rw[yab (by omega)]at this
      cases ho:w.heap[0]? with
      | none=>rw[ho]at this;cases this
      | some o=>
       rw[ho]at this
       cases o with
       | cells c' t' fr'=>
        simp only[yai,absB]at this
        cases this
        exact⟨_,_,_,hc,.inl rfl⟩
       | _=>cases this
     ·unfold fF
      rw[hu];exact⟨[],rfl,by simp,fun y hy=>by simp at hy⟩
    ·have hr:=(hR rfl).1
     have hRr:=(hR rfl).2
     have hel1:∀i,i<len->∃p:List Value × D,w.cells? 0 (a.add (i*P.cellsOf e)) (P.cellsOf e)=some p.1/\Has w.heap.size p.1/\RD (fH w) p.2 (p.1.map (av w.heap.size))/\fF P n e p.2:=by
      intro i hi;have:=hE i hi
      obtain⟨y,hy⟩:∃y,iK[i]?=some y:=⟨iK[i]'(by omega),ybd (by omega)⟩
      rw[hy]at this;simp only[Option.bind_eq_some_iff]at this;obtain⟨c1,hc1,hy1⟩:=this
      obtain⟨g1,d,g2,g3⟩:=ih e c1 y hSe hy1 (kZ hwe (i:=i) (by simp[hy]))
      exact⟨(c1,d),hc1,g1,g2,g3⟩
     obtain⟨l,hl,hq⟩:=zez len hel1
     have hfirst:∃c1,w.cells? 0 a (P.cellsOf e)=some c1:=by
      by_cases hlen:len=0
      ·have:=hRr 0 (by omega)
       obtain⟨y,hy⟩:∃y,rest[0]?=some y:=⟨rest[0]'(by omega),ybd (by omega)⟩
       rw[hy]at this;simp only[Option.bind_eq_some_iff]at this;obtain⟨c1,hc1,_⟩:=this
       exact⟨c1,by simpa[hlen,Addr.add]using hc1⟩
      ·obtain⟨p,hp,_⟩:=hel1 0 (by omega)
       exact⟨p.1,by simpa[Addr.add]using hp⟩
     obtain⟨c1,hc1⟩:=hfirst
     obtain⟨hspot,c,ct,fr,hblk,_⟩:=(zsq hc1).2 hpos
     have hb:a.block<w.heap.size:=(ybe.1 hblk).1
     have hav:zvi w.heap.size (.slice (some a) len cap)=some (.slice (256+a.block) a.off len cap):=by
      obtain⟨bb,oo,ss⟩:=a
      simp only at hspot hb
      subst hspot
      cases cap with
      | zero=>exact absurd rfl hcap
      | succ cap=>unfold zvi;simp only[];rw[yab hb]
     obtain⟨h1,h2⟩:=one hav
     refine⟨h1,.sl (P.cellsOf e) (l.map (·.2)),?_,?_⟩
     ·rw[fJ]
      refine⟨_,by rw[ycm,List.map_nil,h2],l.map (fun p=>p.1.map (av w.heap.size)),.inr ⟨256+a.block,a.off,cap,by rw[ybf,hl],by rw[ybf,hl];exact hlc,⟨_,_,_,zs0 hblk,.inl rfl⟩,fun i cs hi=>?_⟩,?_⟩
      ·rw[ybu]at hi
       cases hli:l[i]? with
       | none=>rw[hli]at hi;cases hi
       | some p=>
        rw[hli]at hi;obtain rfl:p.1.map (av w.heap.size)=cs:=by simpa using hi
        obtain⟨k1,k2,k3,k4⟩:=hq i p hli
        obtain⟨m1,m2⟩:=zsq k1
        obtain⟨_,c',ct',fr',hb',hcc⟩:=m2 hpos
        have eb:(a.add (i*P.cellsOf e)).block=a.block:=by unfold Addr.add;split<;>rfl
        have eo:(a.add (i*P.cellsOf e)).off=a.off+i*P.cellsOf e:=by unfold Addr.add;split<;>simp_all
        rw[eb]at hb'
        rw[hblk]at hb'
        cases hb'
        rw[eo]at hcc;exact⟨by rw[ybf];exact m1,at_old hblk m1 hcc k2⟩
      ·refine aC.mk (by simp) fun i d cs' h1 h2=>?_
       rw[ybu]at h1 h2
       cases hli:l[i]? with
       | none=>rw[hli]at h1;cases h1
       | some p=>
        rw[hli]at h1 h2;obtain rfl:p.2=d:=by simpa using h1
        obtain rfl:p.1.map (av w.heap.size)=cs':=by simpa using h2
        exact(hq i p hli).2.2.1
     ·unfold fF
      rw[hu];refine⟨_,rfl,?_,fun y hy=>?_⟩
      ·rw[ybf,hl,<- hel]
       exact Nat.le_trans (ybi _ (Nat.le_add_right _ _)) hsz
      ·obtain⟨p,hp,rfl⟩:=yaq.1 hy
       obtain⟨i,hi⟩:=List.mem_iff_getElem?.1 hp
       exact(hq i p hi).2.2.2
  | struct fs=>
   rw[hu]at hp;obtain⟨hf,ht⟩:=hp
   obtain⟨xs,m,hm,rfl,hlen,hxs,hel⟩:=DataW.trod_struct hu h
   obtain rfl:n=m:=by omega
   simp only[DataW.weights,hu]at hw;have hel1:∀i,i<fs.toList.length->∃p:D,∀f,fs.toList[i]?=some f->Has w.heap.size ((cs.drop f.offset).take (P.cellsOf f.type))/\RD (fH w) p (((cs.drop f.offset).take (P.cellsOf f.type)).map (av w.heap.size))/\fF P n f.type p:=by
    intro i hi;have hi':i<fs.size:=by simpa using hi
    obtain⟨f,hfi⟩:∃f,fs.toList[i]?=some f:=⟨fs.toList[i],ybd hi⟩
    have:=hel i f (by simpa using hfi)
    obtain⟨y,hy⟩:∃y,xs[i]?=some y:=⟨xs[i]'(by omega),ybd (by omega)⟩
    rw[hy]at this;obtain⟨g1,d,g2,g3⟩:=ih f.type _ y (hf f (ycv hfi)) this (lZ hw (i:=i) (by rw[ybu,hfi];rfl) (by rw[ybu,hy];rfl))
    refine⟨d,fun f' hf'=>?_⟩
    rw[hfi]at hf'
    cases hf'
    exact⟨g1,g2,g3⟩
   obtain⟨l,hl,hq⟩:=zez fs.toList.length hel1
   have hfl:=zc6 (cs:=cs) (P:=P) (fs:=fs.toList) (off:=0) (by rw[hlen];exact ht)
   rw[ycr]at hfl;refine⟨fun v hv=>?_,.st l,?_,?_⟩
   ·rw[<- hfl]at hv
    obtain⟨part,hpart,hv⟩:=List.mem_flatten.1 hv
    obtain⟨f,hfm,rfl⟩:=yaq.1 hpart
    obtain⟨i,hi⟩:=List.mem_iff_getElem?.1 hfm
    have hi':i<fs.toList.length:=(ybc.1 hi).1
    exact(hq i (l[i]'(by omega)) (ybd (by omega)) f hi).1 v hv
   ·rw[gJ]
    refine⟨fs.toList.map (fun f=>((cs.drop f.offset).take (P.cellsOf f.type)).map (av w.heap.size)),?_,aC.mk (by simp[hl]) fun i d cs' h1 h2=>?_⟩
    ·conv=>lhs;rw[<- hfl]
     rw[List.map_flatten,List.map_map];rfl
    ·rw[ybu]at h2
     cases hfi:fs.toList[i]? with
     | none=>rw[hfi]at h2;cases h2
     | some f=>
      rw[hfi]at h2;obtain rfl:=yci h2
      exact(hq i d h1 f hfi).2.1
   ·unfold fF
    rw[hu];exact⟨l,rfl,z18 hl fun i f d h1 h2=>(hq i d h2 f h1).2.2⟩
  | _=>rw[hu]at hp;exact hp.elim
end
end Go.Am
