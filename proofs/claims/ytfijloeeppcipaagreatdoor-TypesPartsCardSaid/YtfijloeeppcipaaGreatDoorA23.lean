/- format's writer comes to an end, with a text that is not empty and not much longer than a source. -/
import Derived.Test.YtfijloeeppcipaaGreatDoorA22
set_option linter.all false
noncomputable section
set_option maxRecDepth 100000
namespace Go.Proofs
open Go Go.Am
variable [fC]
variable {t tf:Tr rA}
def kP:List (List Nat):=[[],[100,111,119,110],[117,112],[102,108,111,111,114],[99,101,105,108],[104,97,108,102],[101,118,101,110]]
def nM(t:Tr rA):Prop:=At t 0 0 (kP.map zA.str)
theorem nM.mono{t':Tr rA}(h:nM t)(k:vB t t'):nM t':=At.mono k h
theorem zns(hG:nM t){n:Nat}(hn:n<256):∃s,lB yA F 149 [.int .u8 (n:Int)] t=some (.str s)/\s.length<=10/\sB 256 s:=by
 by_cases h:n<7
 ·have hx:(kP.map zA.str)[n]?=some (.str (kP.getD n [])):=by
   have:n<kP.length:=h
   simp[yae this]
  refine⟨kP.getD n [],oC.2 (w149 _ (iA (by rw[wrap_i64 (by omega) (by omega)];exact yLt (by omega)) (lA (v:=.ptr 0 n) ?_ (lC (v:=.str (kP.getD n [])) ?_ (cH ⟨rfl,rfl⟩))))),?_,?_⟩
  ·unfold jB
   rw[ty238,uA];have e:(zA.int .u8 (n:Int)).asNat=some n:=rfl
   rw[e,uA];simp only[zA.asSlice,zA.asPtr,uA,qD.asArr];rw[ty9,uA,xC.2 h,gD];simp
  ·have:=hG.load1 ty9 rfl hx
   rw[yax]at this;exact this
  ·have:∀k,k<7->(kP.getD k []).length<=10:=by decide
   exact this n h
  ·have:∀k,k<7->∀x∈kP.getD k [],x<256:=by decide
   exact this n h
 ·exact⟨[],oC.2 (w149 _ (uB (by rw[wrap_i64 (by omega) (by omega)];exact nLt (by omega)) ⟨rfl,rfl⟩)),by simp,fun x hx=>by cases hx⟩
theorem zdg{s:List Nat}(h:∀x∈s,48<=x/\x<58):sB 256 s:=fun x hx=>by have:=h x hx;omega
theorem aM{a b:List Nat}(ha:sB 256 a)(hb:sB 256 b):sB 256 (a++b):=fun x hx=>by
 rcases List.mem_append.1 hx with h | h
 ·exact ha x h
 ·exact hb x h
theorem znv{neg:Bool}{n:Nat}:sB 256 (intN neg n)/\intN neg n≠[]:=by
 have h:=zb5 n
 refine⟨aM ?_ (zdg (tY n)),fun e=>?_⟩
 ·cases neg
  ·intro x hx;cases hx
  ·intro x hx;simp at hx;omega
 ·unfold intN at e
  rw[List.append_eq_nil_iff]at e;rw[e.2]at h;simp at h
theorem zqh{f:wF}:sB 256 (gJ f)/\gJ f≠[]:=by
 unfold gJ zce;refine⟨aM znv.1 ?_,fun e=>znv.2 (List.append_eq_nil_iff.1 e).1⟩
 split
 ·intro x hx;cases hx
 ·intro x hx
  rcases yat.1 hx with rfl | hx
  ·decide
  ·exact znv.1 x hx
theorem zxo{n:Int}:sB 256 (tJ n)/\tJ n≠[]:=by
 by_cases h:n<0
 ·obtain⟨u,rfl⟩:∃u:Nat,n = -(u:Int):=⟨n.natAbs,by omega⟩
  rw[zk4 (by omega)]
  refine⟨fun x hx=>?_,by simp⟩
  rcases yat.1 hx with rfl | hx
  ·decide
  ·exact zdg (tY u) x hx
 ·obtain⟨u,rfl⟩:∃u:Nat,n=(u:Int):=⟨n.toNat,by omega⟩
  rw[zdw];exact⟨zdg (tY u),fun e=>by have:=zb5 u;rw[e]at this;simp at this⟩
theorem zkk{s:List Nat}(h:sB 256 s)(hn:s≠[]):sB 256 (aJ s)/\aJ s≠[]:=by
 unfold aJ;split
 ·exact⟨aM (by intro x hx;simp at hx;omega) fun x hx=>h x (List.mem_of_mem_drop hx),by simp⟩
 ·exact⟨h,hn⟩
theorem zmk{v:xH}(hv:v.fit)(hp:tO v=true):zfe (z0a v.i) v≠[]/\(zfe (z0a v.i) v).length<=20100/\sB 256 (zfe (z0a v.i) v):=by
 obtain⟨_,hff,hi1,hi2⟩:=hv
 have hil:=zic hi1 hi2
 have hsl:=xX (tJ v.i)
 have hsi:=zkk (zxo (n:=v.i)).1 zxo.2
 have hsf:=zkk (zqh (f:=v.f)).1 zqh.2
 have hc:=zrn v.i
 have hF:∀k,(k=2\/k=3)->v.kind=k->(aJ (gJ v.f)).length<=20010:=by
  intro k hk e;have h1:=zd4 hff (zbx hp (by omega))
  have h2:=xX (gJ v.f)
  omega
 unfold zfe;split
 ·split
  ·exact⟨by simp,by simp,by intro x hx;simp at hx;omega⟩
  ·exact⟨by simp,by simp,by intro x hx;simp at hx;omega⟩
 ·split
  ·rename_i e;have:=hF 2 (.inl rfl) e;exact⟨hsf.2,by omega,hsf.1⟩
  ·split
   ·rename_i e;have:=hF 3 (.inr rfl) e
    exact⟨by simp,by simp;omega,aM (by intro x hx;simp at hx;omega) hsf.1⟩
   ·split
    ·exact⟨fun e=>by rw[e]at hc;simp at hc,by omega,hc.2⟩
    ·split
     ·exact⟨by simp,by simp;omega,aM hsi.1 (by intro x hx;simp at hx;omega)⟩
     ·split
      ·exact⟨by simp,by simp;omega,aM hsi.1 (by intro x hx;simp at hx;omega)⟩
      ·rename_i h1 h2 h3 h4 h5 h6
       exfalso
       unfold tO at hp;rw[if_neg (by omega),if_neg h1,if_neg h4,if_neg (by omega)]at hp
       cases hp
theorem zlb{op:Nat}(h:op<27):(rD op).word.length<=10/\∀x∈(rD op).word,x<256:=by
 have:∀k,k<27->(rD k).word.length<=10/\∀x∈(rD k).word,x<256:=by decide +kernel
 exact this op h
theorem za1{op:Nat}(h:op<27):((rD op).style=1->op=1)/\((rD op).style=2->(rD op).word≠[])/\((rD op).style=3->1<=(rD op).least)/\((rD op).style=4->2<=(rD op).least)/\((rD op).style=5->1<=(rD op).least/\(rD op).word≠[])/\(rD op).style<=6/\(rD op).most<=3/\(op=1->(rD op).style=1):=by
 have:∀k,k<27->((rD k).style=1->k=1)/\((rD k).style=2->(rD k).word≠[])/\((rD k).style=3->1<=(rD k).least)/\((rD k).style=4->2<=(rD k).least)/\((rD k).style=5->1<=(rD k).least/\(rD k).word≠[])/\(rD k).style<=6/\(rD k).most<=3/\(k=1->(rD k).style=1):=by decide +kernel
 exact this op h
theorem zqg{s:List Nat}(h:tI s=true):s.length<=24:=by
 unfold tI at h;split at h
 ·simp
 ·simp only[yac,decide_eq_true_eq]at h
  exact h.1.1.1
def bH (h:Nat):Nat:=86000+200*h
def WOk (bf:Nat)(x:jA):Prop:=∀(d:Nat) (cs:List zA) (tf t:Tr rA) (bx:Nat) (s:List Nat) (Q:vC),x.fit->bE x d=true->mD tf bf none eK->zJ tf->nM tf->RD tf x.d cs->BX 166 [.ptr bf 0] tf t bx s->s.length<=95000 →
 (∀t' s',BX 166 [.ptr bf 0] tf t' bx s'->s'≠[]->s'.length<=max s.length (bH (25-d))->Q (.tup []) t')->Wc yA F 87 [.ptr bx 0,.agg cs] t Q
theorem nL{b:Nat}:qB yA 166 0 (.ptr b 0)=some (.ptr b 0):=by kernel_rfl
theorem zze{b:Nat}:qB yA 166 1 (.ptr b 0)=some (.ptr b 2):=by kernel_rfl
theorem BX.forms{bf bx:Nat}{s:List Nat}(h:BX 166 [.ptr bf 0] tf t bx s):oA yA 132 ⟨0,t⟩ (.ptr bx 2)=some (.ptr bf 0):=by
 obtain⟨_,_,_,_,_,p,tv,_,h4,_,_⟩:=h
 exact h4.load1 (j:=2) ty132 rfl rfl
section
variable {bf bx:Nat}{s:List Nat}{Q:vC}
theorem zoy{y:jA}{d:Nat}{cs:List zA}{lev:Int}(hy:WOk bf y)(hfit:y.fit)(hP:bE y d=true)(hF:mD tf bf none eK)(hM:zJ tf)(hW:nM tf)(hr:RD tf y.d cs)(hB:BX 166 [.ptr bf 0] tf t bx s)(hs:s.length<=94000)(hd1:1<=d)
  (hQ:∀t' s',BX 166 [.ptr bf 0] tf t' bx s'->s'≠[]->s'.length<=max s.length (bH (25-d))+2->Q (.tup []) t'):Wc yA F 121 [.ptr bx 0,.agg cs,.int .i64 lev] t Q:=by
 obtain⟨a,b,c,rfl,ha,hb,hc⟩:=lK hr
 have hop:y.op<27:=by
  obtain⟨op,name,v,args⟩:=y
  unfold bE zk7 at hP;simp only[yac,decide_eq_true_eq]at hP;exact hP.1.2.1.1.1.1
 have hbm:bH (25-d)<=91000:=by unfold bH;omega
 refine w121 _ _ _ _ _ _ _ _ _ _ _ ?_
 unfold t121;refine lA dE (lA zze (lC hB.forms (lA dE (lA (zyv hop) (lA (mL (by decide)) (lC (z2z (hF.up hB.le) hop) (uC ?_)))))))
 by_cases hl:lev<=((rD y.op).level:Int)
 ·refine iA (yLe hl) (sC ?_)
  rw[q87];exact hy d _ tf t bx s _ hfit hP hF hM hW hr hB (by omega) fun t' s' h1 h2 h3=>hQ t' s' h1 h2 (by omega)
 ·refine uB (nLe hl) (lA dE (lA nL (sC ?_)))
  rw[zsq];refine hB.write (by simp) (by intro x hx;simp at hx;omega) (by simp;omega) fun _ t1 h1=>sC ?_
  rw[q87];refine hy d _ tf t1 bx _ _ hfit hP hF hM hW hr h1 (by simp;omega) fun t2 s2 h2 h2n h2l=>lA dE (lA nL (sC ?_))
  rw[zsq];simp only[yah,List.length_singleton]at h2l;refine h2.write (by simp) (by intro x hx;simp at hx;omega) (by simp;omega) fun _ t3 h3=>?_
  exact hQ _ _ h3 (by simp) (by simp;omega)
theorem zz9{args:List jA}{d:Nat}{c:zA}(hall:∀y∈args,WOk bf y)(hfits:∀y∈args,y.fit)(hP:∀y∈args,bE y (d+1)=true)(hF:mD tf bf none eK)(hM:zJ tf)(hW:nM tf)(hc:dA tf 9 (args.map jA.d) c)(hlen:args.length<=3)(hd:d<=24)
  {c0 c2 c7:Int} {c1:List Nat} {c3 c5:Bool} {c4 c6 c8:zA} (h19c:c0=19->0<=c7/\c7<256):∀(k i:Nat) (t:Tr rA) (s:List Nat),i+k=args.length->BX 166 [.ptr bf 0] tf t bx s->s≠[]->s.length<=bH (24-d)+100+2*i →
  (∀t' s',BX 166 [.ptr bf 0] tf t' bx s'->s'≠[]->s'.length<=bH (24-d)+130->Q (.tup []) t') →
  jp 122 2 [.ptr bx 0,c,.int .i64 (args.length:Int),.int .i64 (i:Int),.int .u8 c0,.str c1,.int .u8 c2,.bool c3,c4,.bool c5,c6,.int .i64 c7,c8] t Q:=by
 have hbm:bH (24-d)<=91000:=by unfold bH;omega
 intro k;induction k with
 | zero=>
  intro i t s hi hB hn hs hQ;refine z56 _ _ _ _ _ _ _ _ _ _ _ _ _ ?_
  unfold zv9;refine uB (nLt (by omega)) ?_
  by_cases h19:c0=19
  ·refine iA (aD h19) (lA dE (lA nL (sC ?_)))
   obtain⟨n,hn1,hn2⟩:∃n:Nat,vA .u8 c7=(n:Int)/\n<256:=⟨c7.toNat,by have:=h19c h19;rw[zg5 this.1 this.2];omega,by have:=h19c h19;omega⟩
   obtain⟨w,hw1,hw2,hw3⟩:=zns (hW.mono hB.le) hn2
   rw[hn1,q149,hw1,sA];refine cH (lA (sL (by simp;omega)) (cH (sC ?_)))
   rw[zsq];refine hB.write (by simp) (aM (by intro x hx;simp at hx;omega) hw3) (by simp;omega) fun _ t1 h1=>lA dE (lA nL (sC ?_))
   rw[zsq];refine h1.write (by simp) (by intro x hx;simp at hx;omega) (by simp;omega) fun _ t2 h2=>?_
   exact hQ _ _ h2 (by simp) (by simp;omega)
  ·refine uB (tF h19) (lA dE (lA nL (sC ?_)))
   rw[zsq];refine hB.write (by simp) (by intro x hx;simp at hx;omega) (by simp;omega) fun _ t2 h2=>?_
   exact hQ _ _ h2 (by simp) (by simp;omega)
 | succ k ih=>
  intro i t s hi hB hn hs hQ;have hlt:i<args.length:=by omega
  have hm:args[i]∈args:=ybk hlt
  refine z56 _ _ _ _ _ _ _ _ _ _ _ _ _ ?_
  unfold zv9;obtain⟨b0,off0,cs,g1,g2,_,_,g5⟩:=gF.at z68 (by simp) hc (i:=i) (d:=args[i].d) (by simp[hlt])
  have ld:oA yA 36 ⟨0,t⟩ (.ptr b0 off0)=some (cW true cs):=bW (H:=⟨0,tf⟩) (HA:=⟨0,t⟩) hB.le g2
  refine iA (yLt (by omega)) (lA g1 (lC ld ?_))
  rw[pK];refine oG (uK g5 (jA.zs _)) ?_
  have hmk:=g5.mk (jA.zs args[i])
  have hcs:[zA.int .u8 ((cellsOf cs).i 0),.str ((cellsOf cs).s 1),.int .u8 ((cellsOf cs).i 2),.bool ((cellsOf cs).b 3),(cellsOf cs).v 4,.bool ((cellsOf cs).b 5),(cellsOf cs).v 6,.int .i64 ((cellsOf cs).i 7),(cellsOf cs).v 8]=cs:=hmk
  rw[hcs];refine iA g5.all ?_
  have next:∀t' s',BX 166 [.ptr bf 0] tf t' bx s'->s'≠[]->s'.length<=bH (24-d)+100+2*(i+1)->jp 122 2 [.ptr bx 0,c,.int .i64 (args.length:Int),.int .i64 (vA .i64 ((i:Int)+1)),.int .u8 c0,.str c1,.int .u8 c2,.bool c3,c4,.bool c5,c6,.int .i64 c7,c8] t' Q:=by
   intro t' s' h1 h2 h3;rw[wrap_i64 (by omega) (by omega),show(i:Int)+1=((i+1:Nat):Int) by omega]
   exact ih (i+1) t' s' (by omega) h1 h2 h3 hQ
  have e25:25-(d+1)=24-d:=by omega
  by_cases h0:0<i
  ·refine iA (yLt (by omega)) (lA dE (lA nL (sC ?_)))
   rw[zsq];refine hB.write (by simp) (by intro x hx;simp at hx;omega) (by simp;omega) fun _ t1 h1=>sC ?_
   rw[q87];refine hall _ hm (d+1) _ tf t1 bx _ _ (hfits _ hm) (hP _ hm) hF hM hW g5 h1 (by simp;omega) fun t2 s2 h2 h2n h2l=>vD ?_
   rw[e25]at h2l;simp only[yah,yao,yay]at h2l;exact next t2 s2 h2 h2n (by omega)
  ·refine uB (nLt (by omega)) (sC ?_)
   rw[q87];refine hall _ hm (d+1) _ tf t bx _ _ (hfits _ hm) (hP _ hm) hF hM hW g5 hB (by omega) fun t2 s2 h2 h2n h2l=>vD ?_
   rw[e25]at h2l;exact next t2 s2 h2 h2n (by omega)
theorem zor{op:Nat}{name:List Nat}{v:xH}{args:List jA}{d:Nat}{a b c:zA}(hall:∀y∈args,WOk bf y)(hfit:jA.fit (.mk op name v args))(hP:bE (.mk op name v args) d=true)(hs6:(rD op).style=6)(hF:mD tf bf none eK)(hM:zJ tf)(hW:nM tf)
  (hc:dA tf 9 (args.map jA.d) c) (hB:BX 166 [.ptr bf 0] tf t bx s) (hs:s.length<=65536)
  (hQ:∀t' s',BX 166 [.ptr bf 0] tf t' bx s'->s'≠[]->s'.length<=bH (25-d)->Q (.tup []) t') :
  Wc yA F 122 [.ptr bx 0,.agg [.int .u8 op,.str name,.int .u8 v.kind,.bool v.f.n.neg,a,.bool v.f.d.neg,b,.int .i64 v.i,c],.ptr bf (op*8)] t Q:=by
 unfold bE zk7 at hP;simp only[yac,decide_eq_true_eq]at hP;obtain⟨⟨hd,⟨⟨⟨h27,_⟩,hl⟩,hm⟩,hnm⟩,hrest⟩:=hP
 obtain⟨f1,f2,f3,f4,f5,f6,f7,f8⟩:=za1 h27
 have hw:=zlb h27
 have h1:op≠1:=fun e=>by have:=f8 e;omega
 rw[if_neg h1,yac,fY,ybc]at hrest;unfold jA.fit at hfit;have hfits:=jA.fits_mem hfit.2.2.2.2.2
 have hmax:bH (25-d)=bH (24-d)+200:=by unfold bH;omega
 have h19c:(op:Int)=19->0<=v.i/\v.i<256:=by
  intro e;have hcp:=hrest.1
  unfold zlq at hcp;rw[if_pos (by omega)]at hcp
  simp only[yac,decide_eq_true_eq]at hcp;omega
 have go9:∀t' s',BX 166 [.ptr bf 0] tf t' bx s'->s'≠[]->s'.length<=65536+100->jp 122 9 [.ptr bx 0,.int .u8 op,.str name,.int .u8 v.kind,.bool v.f.n.neg,a,.bool v.f.d.neg,b,.int .i64 v.i,c] t' Q:=by
  intro t' s' k1 k2 k3;refine j122_9 _ _ _ _ _ _ _ _ _ _ ?_
  unfold z5d;have hlen:=hc.len
  rw[yag]at hlen;refine lA hlen (uC (vD ?_))
  refine zz9 (d:=d) hall hfits (fun y hy=>hrest.2 y hy) hF hM hW hc (by omega) hd h19c args.length 0 t' s' (by omega) k1 k2 (by unfold bH;omega) fun t2 s2 g1 g2 g3=>hQ t2 s2 g1 g2 (by omega)
 refine w122 _ _ _ _ _ _ _ _ _ _ _ ?_
 unfold t122;have hld:=zxy (hF.up hB.le) h27
 refine lA dE (lA nL (lA dE (lA (mL (by decide)) (lC hld (cH (lA (sL (by simp;omega)) (cH (sC ?_))))))))
 rw[zsq];refine hB.write (by simp) (aM hw.2 (by intro x hx;simp at hx;omega)) (by simp;omega) fun _ t1 h1=>?_
 refine lA dE (lA (mL (by decide)) (lC (zqn (hF.up h1.le) h27) (pD ?_)))
 cases hn:(rD op).named with
 | true=>
  rw[hn,if_pos rfl]at hnm;have hnl:=zqg hnm
  refine iA rfl (lA dE (lA nL (lA (sL (by simp;omega)) (cH (sC ?_)))))
  rw[zsq];refine h1.write (by simp) (aM hfit.2.2.1 (by intro x hx;simp at hx;omega)) (by simp;omega) fun _ t2 h2=>vD ?_
  exact go9 _ _ h2 (by simp) (by simp;omega)
 | false=>exact uB (by simp) (vD (go9 _ _ h1 (by simp) (by simp;omega)))
mutual
/-- THE WRITER COMES TO AN END -/
theorem zi8:∀(x:jA),WOk bf x
 | .mk op name v args=>by
  have hall:=zfd args
  intro d cs tf t bx s Q hfit hP hF hM hW hr hB hs hQ;have hP0:=hP
  have hfit0:=hfit
  obtain⟨a,b,c,rfl,ha,hb,hc⟩:=lK hr
  simp only[jA.op,jA.name,jA.v,jA.args]at ha hb hc ⊢
  unfold bE zk7 at hP;simp only[yac,decide_eq_true_eq]at hP;obtain⟨⟨hd,⟨⟨⟨h27,hs0⟩,hl⟩,hm⟩,hnm⟩,hrest⟩:=hP
  simp only[ybq,decide_eq_false_iff_not]at hs0;obtain⟨f1,f2,f3,f4,f5,f6,f7,f8⟩:=za1 h27
  have hw:=zlb h27
  unfold jA.fit at hfit;have hfits:=jA.fits_mem hfit.2.2.2.2.2
  have hmax:bH (25-d)=bH (24-d)+200:=by unfold bH;omega
  have e25:25-(d+1)=24-d:=by omega
  have hmb:bH (24-d)<=91000/\86000<=bH (24-d):=by unfold bH;omega
  refine w87 _ _ _ _ _ _ _ _ _ _ ?_
  unfold t87;refine lA dE (lA nL (sC ?_))
  rw[q118,hB.len,sA];refine uC ?_
  by_cases hbig:65536<s.length
  ·refine iA (yLt (by omega)) ?_
   exact hQ t s hB (fun e=>by rw[e]at hbig;simp at hbig) (by omega)
  refine uB (nLt (by omega)) ?_
  have hFt:=hF.up hB.le
  refine lA dE (lA zze (lC hB.forms (lA dE (lA (zyv h27) (lA dE (lA (mL (by decide)) (lC (zqm hFt h27) (uC ?_))))))))
  have ldw:∀ {t'},vB tf t'->oA yA 9 ⟨0,t'⟩ (.ptr bf (op*8+1))=some (.str (rD op).word):=fun h=>zxy (hF.up h) h27
  have notc:(rD op).style≠1->zi0 args (d+1)=true:=by
   intro hne;have h1:op≠1:=fun e=>hne (f8 e)
   rw[if_neg h1,yac]at hrest;exact hrest.2
  have arg:∀(i:Nat) (lev:Int) (t1:Tr rA) (s1:List Nat) (K:zA->T) (Q:vC) (k:Nat),(rD op).style≠1->i<args.length->k<8->BX 166 [.ptr bf 0] tf t1 bx s1->s1.length<=94000->oA yA 3 ⟨0,t1⟩ (.ptr bf (op*8+k))=some (.int .i64 lev) →
    (∀t' s',BX 166 [.ptr bf 0] tf t' bx s'->s'≠[]->s'.length<=max s1.length (bH (24-d))+2->wp 87 (K (.tup [])) t' Q) →
    wp 87 (.opt (jB yA 34 c (.int .i64 (i:Int))) fun a36=>.light (fun m=>oA yA 36 ⟨0,m⟩ a36) fun a37=>.asG [(.int .u8 0),(.str []),(.int .u8 0),(.bool false),.nilslice,(.bool false),.nilslice,(.int .i64 0),.nilslice] a37 fun X38=>
     .opt (nC (.ptr bf (op*8))) fun a39=>.opt (qB yA 159 k a39) fun a40=>.light (fun m=>oA yA 3 ⟨0,m⟩ a40) fun a41=>.asI .i64 a41 fun n42=>.call 121 [.ptr bx 0,(.agg [(.int .u8 (X38.i 0)),(.str (X38.s 1)),(.int .u8 (X38.i 2)),(.bool (X38.b 3)),(X38.v 4),(.bool (X38.b 5)),(X38.v 6),(.int .i64 (X38.i 7)),(X38.v 8)]),(.int .i64 n42)] K) t1 Q:=by
   intro i lev t1 s1 K Q k hne hi hk h1 hs1 hldp hQ';have hm:args[i]∈args:=ybk hi
   obtain⟨b0,off0,cs,g1,g2,_,_,g5⟩:=gF.at z68 (by simp) hc (i:=i) (d:=args[i].d) (by simp[hi])
   have ld:oA yA 36 ⟨0,t1⟩ (.ptr b0 off0)=some (cW true cs):=bW (H:=⟨0,tf⟩) (HA:=⟨0,t1⟩) h1.le g2
   refine lA g1 (lC ld ?_)
   rw[pK];refine oG (uK g5 (jA.zs _)) ?_
   have hmk:=g5.mk (jA.zs args[i])
   have hcs:[zA.int .u8 ((cellsOf cs).i 0),.str ((cellsOf cs).s 1),.int .u8 ((cellsOf cs).i 2),.bool ((cellsOf cs).b 3),(cellsOf cs).v 4,.bool ((cellsOf cs).b 5),(cellsOf cs).v 6,.int .i64 ((cellsOf cs).i 7),(cellsOf cs).v 8]=cs:=hmk
   rw[hcs];refine lA dE (lA (mL hk) (lC hldp (uC (sC ?_))))
   rw[q121];have hPy:bE args[i] (d+1)=true:=by
    have:=notc hne
    rw[fY,ybc]at this;exact this _ hm
   refine zoy (d:=d+1) (hall _ hm) (hfits _ hm) hPy hF hM hW g5 h1 hs1 (by omega) fun t' s' k1 k2 k3=>?_
   rw[e25]at k3;exact hQ' t' s' k1 k2 k3
  have done:∀t' s',BX 166 [.ptr bf 0] tf t' bx s'->s'≠[]->s'.length<=bH (25-d)->wp 87 (.ret (.tup [])) t' Q:=fun t' s' k1 k2 k3=>hQ t' s' k1 k2 (by omega)
  have i0:((0:Nat):Int)=0:=rfl
  have i1:((1:Nat):Int)=1:=rfl
  have arg0:=arg 0
  have arg1:=arg 1
  rw[i0]at arg0;rw[i1]at arg1;have style:(rD op).style=1\/(rD op).style=2\/(rD op).style=3\/(rD op).style=4\/(rD op).style=5\/(rD op).style=6:=by omega
  rcases style with e | e | e | e | e | e
  ·-- a constant
   refine iA (aD (by omega)) (lA dE (lA nL (sC ?_)))
   have hop1:=f1 e
   rw[if_pos hop1]at hrest;obtain⟨v1,v2,v3⟩:=zmk hfit.2.2.2.1 hrest
   have hv:=zjb (date:=z0a v.i) (ha.mono hB.le) (hb.mono hB.le) hfit.2.2.2.1 hrest (fun hk=>by
    have hp:=hrest
    unfold tO at hp;rw[if_neg (by omega),if_neg (by omega),if_pos hk]at hp
    simp only[yac,decide_eq_true_eq]at hp;exact cal_ok (hM.mono hB.le) hp.2.1 hp.2.2)
   rw[q120,hv,sA];refine cH (sC ?_)
   rw[zsq];refine hB.write v1 v3 (by omega) fun _ t1 h1=>done _ _ h1 (by simp[v1]) ?_
   rw[yah];unfold bH;omega
  ·-- a word
   refine uB (tF (by omega)) (iA (aD (by omega)) (lA dE (lA nL (lA dE (lA (mL (by decide)) (lC (ldw hB.le) (cH (sC ?_))))))))
   rw[zsq];refine hB.write (f2 e) hw.2 (by omega) fun _ t1 h1=>done _ _ h1 (by simp[f2 e]) ?_
   rw[yah];omega
  ·-- word,name,at
   have hnl:name.length<=24:=by
    split at hnm
    ·exact zqg hnm
    ·have:=(dK _ _).1 hnm;rw[this];simp
   have h3:=f3 e
   refine uB (tF (by omega)) (uB (tF (by omega)) (iA (aD (by omega)) (lA dE (lA nL (lA dE (lA (mL (by decide)) (lC (ldw hB.le) (cH (lA (sL (by omega)) (cH (lA (sL (by simp;omega)) (cH (sC ?_)))))))))))))
   rw[zsq];refine hB.write (by simp) (aM (aM hw.2 hfit.2.2.1) (by intro x hx;simp at hx;omega)) (by simp;omega) fun _ t1 h1=>?_
   refine arg0 _ t1 _ _ _ 6 (by omega) (by omega) (by decide) h1 (by simp;omega) (znz (hF.up h1.le) h27) fun t2 s2 k1 k2 k3=>done _ _ k1 k2 ?_
   simp only[yah,yao,yay]at k3;omega
  ·-- an operator
   have h4:=f4 e
   refine uB (tF (by omega)) (uB (tF (by omega)) (uB (tF (by omega)) (iA (aD (by omega)) ?_)))
   refine arg0 _ t _ _ _ 6 (by omega) (by omega) (by decide) hB (by omega) (znz hFt h27) fun t1 s1 k1 k2 k3=>?_
   refine lA dE (lA nL (lA dE (lA (mL (by decide)) (lC (ldw k1.le) (cH (lA (sL (by simp;omega)) (cH (lA (sL (by simp;omega)) (cH (sC ?_))))))))))
   rw[zsq];refine k1.write (by simp) (aM (aM (by intro x hx;simp at hx;omega) hw.2) (by intro x hx;simp at hx;omega)) (by simp;omega) fun _ t2 h2=>?_
   refine arg1 _ t2 _ _ _ 7 (by omega) (by omega) (by decide) h2 (by simp;omega) (z2y (hF.up h2.le) h27) fun t3 s3 m1 m2 m3=>done _ _ m1 m2 ?_
   simp only[yah,yao,yay]at m3;omega
  ·-- not
   have h5:=f5 e
   refine uB (tF (by omega)) (uB (tF (by omega)) (uB (tF (by omega)) (uB (tF (by omega)) (iA (aD (by omega)) (lA dE (lA nL (lA dE (lA (mL (by decide)) (lC (ldw hB.le) (cH (sC ?_)))))))))))
   rw[zsq];refine hB.write h5.2 hw.2 (by omega) fun _ t1 h1=>?_
   refine arg0 _ t1 _ _ _ 6 (by omega) (by omega) (by decide) h1 (by simp;omega) (znz (hF.up h1.le) h27) fun t2 s2 k1 k2 k3=>done _ _ k1 k2 ?_
   simp only[yah]at k3;omega
  ·-- a call
   refine uB (tF (by omega)) (uB (tF (by omega)) (uB (tF (by omega)) (uB (tF (by omega)) (uB (tF (by omega)) (iA (aD (by omega)) (sC ?_))))))
   rw[q122];exact zor hall hfit0 hP0 e hF hM hW hc hB (by omega) fun t' s' k1 k2 k3=>done t' s' k1 k2 k3
theorem zfd:∀(l:List jA),∀y∈l,WOk bf y
 | [],_,h=>by cases h
 | x::l,y,h=>by
  rcases yat.1 h with e | h
  ·rw[e];exact zi8 x
  ·exact zfd l y h
end
end
end Go.Proofs
namespace Go.Proofs
open Go Go.Am
variable [fC]
variable {t tf:Tr rA}
theorem zob{x:jA}{cs:List zA}{Q:vC}(hfit:x.fit)(hP:bE x 1=true)(hM:zJ t)(hW:nM t)(hr:RD t x.d cs)(hQ:∀t' s,vB t t'->s≠[]->Q (.str s) t'):Wc yA F 65 [.agg cs] t Q:=by
 obtain⟨a,b,c,rfl,ha,hb,hc⟩:=lK hr
 refine w65 _ _ _ _ _ _ _ _ _ ?_
 unfold t65;refine sC ?_
 rw[q83];refine zde fun bf t1 h1 h2 h3 h4 h5=>?_
 refine iA rfl (dF fun bx hbx hbb=>?_)
 obtain⟨t2,e1,e2,e3,e4⟩:=wT hbx [.nilptr,.nilslice,.ptr bf 0] (some (.ty 166))
 have hbox:zr5 yA 166 (.agg [.nilptr,.nilslice,.ptr bf 0]) ⟨bx,t1⟩=some (.ptr bx 0,⟨bx+1,t2⟩):=by
  unfold zr5;have:lI yA 166=some (.ty 166):=by kernel_rfl
  rw[this,<- e1];rfl
 refine⟨_,_,hbox,sC ?_⟩
 have hB:BX 166 [.ptr bf 0] t1 t2 bx []:=⟨hbb,hbx,e3,(by intro x hx;cases hx),rfl,.nilptr,.nilslice,.inl rfl,e2,.inl ⟨rfl,rfl⟩,zdx⟩
 rw[q87];refine zi8 x 1 _ t1 t2 bx [] _ hfit hP h3 (hM.mono h4) (hW.mono h4) (hr.mono h4) hB (by simp) fun t3 s h6 h7 h8=>?_
 refine lA dE (lA nL (sC ?_))
 rw[q88];have hl:s.length<=91000:=by
  have:bH (25-1)=90800:=rfl
  rw[this]at h8;simp at h8;omega
 exact h6.string h7 (by omega) fun t4 h9=>cH (hQ _ _ (h4.trans h9) h7)
theorem z3x{x:jA}{cs:List zA}{Q:vC}(hfit:x.fit)(hM:zJ t)(hW:nM t)(hr:RD t x.d cs)
  (hQ:∀t' s e,vB t t'->(if bE x 1=true then(s≠[]/\e=0\/s=[]/\e=3)else s=[]/\e=2)->Q (.tup [.str s,.int .i64 e]) t'):Wc yA F 43 [.agg cs] t Q:=by
 have hr0:=hr
 obtain⟨a,b,c,rfl,ha,hb,hc⟩:=lK hr
 refine w43 _ _ _ _ _ _ _ _ _ ?_
 unfold t43;refine sC ?_
 rw[q63];refine zah fun bf t1 h1 h2 h3 h4 h5=>?_
 have e:(cellsOf [zA.ptr bf 0]).v 0=.ptr bf 0:=rfl
 refine oG (qN rfl) (iA hr0.sameA (sC ?_))
 have he:=zio h3 x 1 _ hfit (by omega) (hr0.mono h4)
 rw[show((1:Nat):Int)=1 from rfl]at he
 rw[q64,e,he,sA];refine pD ?_
 cases hP:bE x 1 with
 | false=>
  refine iA rfl ?_
  exact hQ _ _ _ h4 (by rw[hP,if_neg (by simp)];exact⟨rfl,rfl⟩)
 | true=>
  refine uB (by simp) (sC ?_)
  rw[q65];refine zob hfit hP (hM.mono h4) (hW.mono h4) (hr0.mono h4) fun t2 s h6 h7=>cH ?_
  by_cases hl:65536<s.length
  ·refine iA (yLt (by rw[oO];omega)) ?_
   exact hQ _ _ _ (h4.trans h6) (by rw[hP,if_pos rfl];exact .inr ⟨rfl,rfl⟩)
  ·refine uB (nLt (by rw[oO];omega)) ?_
   exact hQ _ _ _ (h4.trans h6) (by rw[hP,if_pos rfl];exact .inl ⟨h7,rfl⟩)
end Go.Proofs
namespace Go.Proofs
open Go Go.Am
variable [fC]
variable {t tf:Tr rA}
def z87 (l:List iF)(s:List Nat):Option iF:=l.find? fun d=>zF d.name s
def z03 (l:List aF)(s:List Nat):Option aF:=l.find? fun d=>zF d.name s
def defV:Option iF->zA
 | some d=>.tup [.agg [.str d.name,.int .u8 d.kind,.bool d.fact],.bool true]
 | none=>.tup [.agg [.str [],.int .u8 0,.bool false],.bool false]
theorem eI{α:Type}{l:List α}{i:Nat}(h:i<l.length):l.drop i=l[i]::l.drop (i+1):=yam h
theorem z36{l:List iF}{s:List Nat}{v:zA}(hr:dA t 3 (l.map iF.d) v)(hlen:l.length<dC):∀(k i:Nat),i+k=l.length->jp 19 2 [.str s,v,.int .i64 (l.length:Int),.int .i64 (i:Int),.str [],.int .u8 0,.bool false] t (fun x t'=>x=defV (z87 (l.drop i) s)/\t'=t):=by
 unfold dC at hlen;intro k;induction k with
 | zero=>
  intro i hi;refine j19_2 _ _ _ _ _ _ _ (uB (nLt (by omega)) (iA rfl (iA rfl ?_)))
  rw[yau (by omega)]
  exact⟨rfl,rfl⟩
 | succ k ih=>
  intro i hi;have hlt:i<l.length:=by omega
  obtain⟨b,off,cs,g1,g2,_,_,g5⟩:=gF.at sl22 (by simp) hr (i:=i) (d:=l[i].d) (by simp[hlt])
  refine j19_2 _ _ _ _ _ _ _ (iA (yLt (by omega)) (lA g1 (lC g2 ?_)))
  rw[pK];have hcs:=zwo g5
  subst hcs;refine oG (uK g5 (iF.zs _)) (iA rfl ?_)
  rw[eI hlt];unfold z87;rw[List.find?_cons]
  cases he:zF l[i].name s with
  | true=>exact iA he (iA rfl ⟨rfl,rfl⟩)
  | false=>
   refine uB (by show ¬ (zF l[i].name s=true);rw[he];simp) (vD ?_)
   rw[wrap_i64 (by omega) (by omega),show(i:Int)+1=((i+1:Nat):Int) by omega]
   exact ih (i+1) (by omega)
theorem z6d{p:fD}{cs:List zA}{s:List Nat}(hp:p.fit)(hr:RD t p.d cs):lB yA F 19 [.agg cs,.str s] t=some (defV (z87 p.defs s)):=by
 obtain⟨a,b,c,rfl,ha,hb,hc⟩:=nQ hr
 refine oC.2 (w19 _ _ _ _ _ (lA ha.len (uC (vD ?_))))
 rw[yag];have:=z36 (s:=s) ha hp.ndefs p.defs.length 0 (by omega)
 rw[ybs]at this;exact this
def TabV (t:Tr rA)(o:Option aF)(v:zA):Prop:=
 match o with
 | some x=>∃a,v=.tup [.agg [.str x.name,.bool x.two,a],.bool true]/\dA t 7 (x.rows.map aK.d) a
 | none=>v=.tup [.agg [.str [],.bool false,.nilslice],.bool false]
theorem z1h{l:List aF}{s:List Nat}{v:zA}(hr:dA t 3 (l.map aF.d) v)(hlen:l.length<dC):∀(k i:Nat),i+k=l.length->∃r,TabV t (z03 (l.drop i) s) r/\jp 54 2 [.str s,v,.int .i64 (l.length:Int),.int .i64 (i:Int),.str [],.bool false,.nilslice] t (fun x t'=>x=r/\t'=t):=by
 unfold dC at hlen;intro k;induction k with
 | zero=>
  intro i hi;rw[yau (by omega)]
  exact⟨_,rfl,z79 _ _ _ _ _ _ _ (uB (nLt (by omega)) (iA rfl (iA rfl ⟨rfl,rfl⟩)))⟩
 | succ k ih=>
  intro i hi;have hlt:i<l.length:=by omega
  obtain⟨b,off,cs,g1,g2,_,_,g5⟩:=gF.at sl23 (by simp) hr (i:=i) (d:=l[i].d) (by simp[hlt])
  have g50:=g5
  obtain⟨a,rfl,ha⟩:=zbw g5
  rw[eI hlt];have hone:tC zA.one [.str l[i].name,.bool l[i].two,a]=true:=g50.all
  unfold z03;rw[List.find?_cons]
  cases he:zF l[i].name s with
  | true=>
   refine⟨_,⟨a,rfl,ha⟩,z79 _ _ _ _ _ _ _ (iA (yLt (by omega)) (lA g1 (lC g2 ?_)))⟩
   rw[pK];exact oG (uK g50 (aF.zs _)) (iA hone (iA he (iA hone ⟨rfl,rfl⟩)))
  | false=>
   obtain⟨r,h1,h2⟩:=ih (i+1) (by omega)
   refine⟨r,h1,z79 _ _ _ _ _ _ _ (iA (yLt (by omega)) (lA g1 (lC g2 ?_)))⟩
   rw[pK];refine oG (uK g50 (aF.zs _)) (iA hone (uB (by show ¬ (zF l[i].name s=true);rw[he];simp) (vD ?_)))
   rw[wrap_i64 (by omega) (by omega),show(i:Int)+1=((i+1:Nat):Int) by omega]
   exact h2
theorem tab_ok{p:fD}{cs:List zA}(hp:p.fit)(hr:RD t p.d cs)(s:List Nat):∃r,TabV t (z03 p.tables s) r/\lB yA F 54 [.agg cs,.str s] t=some r:=by
 obtain⟨a,b,c,rfl,ha,hb,hc⟩:=nQ hr
 obtain⟨r,h1,h2⟩:=z1h (s:=s) hb hp.ntables p.tables.length 0 (by omega)
 rw[ybs]at h1;refine⟨r,h1,oC.2 (w54 _ _ _ _ _ (lA hb.len (uC (vD ?_))))⟩
 rw[yag];exact h2
def qL(p:fD)(op:Nat)(name:List Nat)(n:Nat):Nat × Bool:=
 if op=3\/op=4\/op=21\/op=22\/op=5 then
  match z87 p.defs name with
  | some d=>(d.kind,bEq d.fact (!decide (op=5))&&(decide (1<=d.kind)&&decide (d.kind<=6)))
  | none=>(0,false)
 else if op=6 then
  match z03 p.tables name with
  | some x=>(0,bEq x.two (decide (n=2)))
  | none=>(0,false)
 else if op=23 then
  match z03 p.tables name with
  | some x=>(0,!x.two)
  | none=>(0,false)
 else(0,true)
def nmV (r:Nat × Bool):zA:=.tup [.int .u8 (r.1:Nat),.bool r.2]
def D66 (p0:zA)(p1_0:Int)(p1_1:List Nat):T:=
 (.opt (nC p0) fun a0=>.opt (qB yA 104 0 a0) fun a1=>.light (fun m=>oA yA 26 ⟨0,m⟩ a1) fun a2=>.asG [(.str []),.nilslice,.nilslice,.nilslice] a2 fun X3=>
 .heavy (fG yA 59) fun a4=>
 .call 19 [(.agg [(.str (X3.s 0)),(X3.v 1),(X3.v 2),(X3.v 3)]),(.str p1_1)] fun a5=>
 .opt (rB 0 a5) fun a6=>.asG [(.str []),(.int .u8 0),(.bool false)] a6 fun X7=>
 .opt (rB 1 a5) fun a8=>.asB a8 fun b9=>.heavy (cC yA 59 a4 (.agg [(.str (X7.s 0)),(.int .u8 (X7.i 1)),(.bool (X7.b 2))])) fun _=>
 .ite b9
 (.opt (qB yA 59 2 a4) fun a10=>.light (fun m=>oA yA 4 ⟨0,m⟩ a10) fun oF=>.asB oF fun b12=>.opt (qB yA 59 1 a4) fun a13=>.light (fun m=>oA yA 5 ⟨0,m⟩ a13) fun a14=>.asI .u8 a14 fun n15=>.ite (bEq b12 (!mA p1_0 5))
 (.opt (qB yA 59 1 a4) fun a16=>.light (fun m=>oA yA 5 ⟨0,m⟩ a16) fun a17=>.asI .u8 a17 fun n18=>.ite (jC 1 n18)
 (.opt (qB yA 59 1 a4) fun a19=>.light (fun m=>oA yA 5 ⟨0,m⟩ a19) fun a20=>.asI .u8 a20 fun n21=>.ret (.tup [(.int .u8 n15),(.bool (jC n21 6))]))
 (.ret (.tup [(.int .u8 n15),(.bool false)])))
 (.ret (.tup [(.int .u8 n15),(.bool false)])))
 (.opt (qB yA 59 1 a4) fun a22=>.light (fun m=>oA yA 5 ⟨0,m⟩ a22) fun a23=>.asI .u8 a23 fun n24=>.ret (.tup [(.int .u8 n24),(.bool false)])))
def T66 (p0:zA)(p1_1:List Nat)(K:zA->zA->T):T:=
 (.opt (nC p0) fun a25=>.opt (qB yA 104 0 a25) fun a26=>.light (fun m=>oA yA 26 ⟨0,m⟩ a26) fun a27=>.asG [(.str []),.nilslice,.nilslice,.nilslice] a27 fun X28=>
 .heavy (fG yA 81) fun a29=>
 .call 54 [(.agg [(.str (X28.s 0)),(X28.v 1),(X28.v 2),(X28.v 3)]),(.str p1_1)] fun a30=>
 .opt (rB 0 a30) fun a31=>.asG [(.str []),(.bool false),.nilslice] a31 fun X32=>
 .opt (rB 1 a30) fun a33=>.asB a33 fun b34=>.heavy (cC yA 81 a29 (.agg [(.str (X32.s 0)),(.bool (X32.b 1)),(X32.v 2)])) fun _=>
 .ite b34
 (.opt (qB yA 81 1 a29) fun a35=>.light (fun m=>oA yA 4 ⟨0,m⟩ a35) fun a36=>K a36 a29)
 (.ret (.tup [(.int .u8 0),(.bool false)])))
def yL(t:Tr rA)(b m:Nat)(p:fD):Prop:=∃cs,RD t p.d cs/\mD t b none (cs++[.map m])
theorem zoa{b:Nat}:qB yA 104 0 (.ptr b 0)=some (.ptr b 0):=by kernel_rfl
theorem zn9{b:Nat}:qB yA 104 1 (.ptr b 0)=some (.ptr b 4):=by kernel_rfl
theorem yL.plan{b m:Nat}{p:fD}(h:yL t b m p):∃cs,RD t p.d cs/\cs.length=4/\oA yA 26 ⟨0,t⟩ (.ptr b 0)=some (.agg cs)/\mD t b none (cs++[.map m]):=by
 obtain⟨cs,h1,h2⟩:=h
 have hlen:cs.length=4:=by obtain⟨a,b,c,rfl,_⟩:=nQ h1;rfl
 refine⟨cs,h1,hlen,?_,h2⟩
 have:=h2.at.load (C:=yA) (ty:=26) ty26 rfl (n:=4) rfl (j:=0) (by simp[hlen])
 rw[yax]at this;rw[this];congr 2
 rw[ybs,List.take_left' hlen]
theorem yV{b T n:Nat}{l m:List zA}{y:qC}(h:mD t b none l)(hb:yA.base<=b)(hT:yA.tys.get T=some y)(hy:y.size=n)(hl:l.length=n)(hm:m.length=n)(hone:tC zA.one m=true):∃t',(∀k,cC yA T (.ptr b 0) (.agg m) ⟨k,t⟩=some (oD,⟨k,t'⟩))/\mD t' b none m/\bD b t t':=by
 obtain⟨t',h1,h2,h3⟩:=h.store (C:=yA) hb (T:=T) (v:=.agg m) (j:=0) hT (by show m.length=_;rw[hm,hy]) (by show 0+m.length<=_;omega) hone
 refine⟨t',h1,?_,h3⟩
 have e:jN l 0 (zA.agg m).cells=m:=by
  show jN l 0 m=m
  unfold jN;rw[List.take_zero,List.nil_append,yau (by omega),ybe]
 rw[e]at h2;exact h2
theorem zhw{p:fD}{cs:List zA}(h:RD t p.d cs):zrs [.str [],.nilslice,.nilslice,.nilslice] (.agg cs)=some (cellsOf cs)/\[zA.str ((cellsOf cs).s 0),(cellsOf cs).v 1,(cellsOf cs).v 2,(cellsOf cs).v 3]=cs:=⟨uK h (fD.zs _),h.mk (fD.zs p)⟩
section
variable {b m:Nat}{p:fD}{op:Nat}{name:List Nat}{n:Nat}
theorem D_ok(hC:yL t b m p)(hp:p.fit)(hop:op=3\/op=4\/op=21\/op=22\/op=5):wp 66 (D66 (.ptr b 0) (op:Int) name) t (fun v t'=>v=nmV (qL p op name n)/\vB t t'):=by
 obtain⟨cs,h1,h2,h3,h4⟩:=hC.plan
 obtain⟨e1,e2⟩:=zhw h1
 unfold D66 qL;rw[if_pos hop];refine lA dE (lA zoa (lC h3 (oG e1 (dF fun bd hbd hbase=>?_))))
 obtain⟨t1,g1,g2,g3,g4⟩:=qS (C:=yA) z1d hbd
 refine⟨_,_,g1,sC ?_⟩
 rw[e2,q19,z6d hp (h1.mono g3),sA]
 have f1:qB yA 59 1 (.ptr bd 0)=some (.ptr bd 1):=by kernel_rfl
 have f2:qB yA 59 2 (.ptr bd 0)=some (.ptr bd 2):=by kernel_rfl
 have hb5:(!mA (op:Int) 5) = !decide (op=5):=by
  rw[tN];congr 2;exact propext (by omega)
 cases hd:z87 p.defs name with
 | none=>
  refine lA rfl (oG (qN rfl) (lA rfl (pD (dF fun k _ _=>?_))))
  obtain⟨t2,k1,k2,k3⟩:=yV g2 hbase z1d rfl rfl (m:=[.str [],.int .u8 0,.bool false]) rfl rfl
  refine⟨_,_,k1 k,uB (by simp) (lA f1 (lC (k2.load1 (j:=1) ty5 rfl rfl) (uC ⟨rfl,fun c u hc=>?_⟩)))⟩
  have:c≠bd:=fun e=>by rw[e,hbd]at hc;cases hc
  rw[k3 c this];exact g3 _ _ hc
 | some d=>
  refine lA rfl (oG (qN rfl) (lA rfl (pD (dF fun k _ _=>?_))))
  obtain⟨t2,k1,k2,k3⟩:=yV g2 hbase z1d rfl rfl (m:=[.str d.name,.int .u8 d.kind,.bool d.fact]) rfl rfl
  have hle:vB t t2:=fun c u hc=>by
   have:c≠bd:=fun e=>by rw[e,hbd]at hc;cases hc
   rw[k3 c this];exact g3 _ _ hc
  have ld1:oA yA 5 ⟨0,t2⟩ (.ptr bd 1)=some (.int .u8 (d.kind:Int)):=k2.load1 (j:=1) ty5 rfl rfl
  have ld2:oA yA 4 ⟨0,t2⟩ (.ptr bd 2)=some (.bool d.fact):=k2.load1 (j:=2) ty4 rfl rfl
  refine⟨_,_,k1 k,iA rfl (lA f2 (lC ld2 (pD (lA f1 (lC ld1 (uC ?_))))))⟩
  rw[hb5];show wp 66 _ t2 _
  cases hf:bEq d.fact (!decide (op=5))with
  | false=>exact uB (by simp) ⟨by simp[nmV,hf],hle⟩
  | true=>
   refine iA rfl (lA f1 (lC ld1 (uC ?_)))
   by_cases h6:1<=d.kind
   ·refine iA (yLe (by omega)) (lA f1 (lC ld1 (uC ⟨?_,hle⟩)))
    have:jC (d.kind:Int) 6=decide (d.kind<=6):=by rw[z3f];congr 1;exact propext (by omega)
    simp[nmV,hf,h6,this]
   ·refine uB (nLe (by omega)) ⟨?_,hle⟩
    simp[nmV,hf,h6]
theorem T_ok{R:Bool}{K:zA->zA->T}(hC:yL t b m p)(hp:p.fit)(hK:∀x bd t',z03 p.tables name=some x->vB t t'->wp 66 (K (.bool x.two) bd) t' (fun v t'=>v=nmV (0,R)/\vB t t'))(hN:z03 p.tables name=none->R=false):wp 66 (T66 (.ptr b 0) name K) t (fun v t'=>v=nmV (0,R)/\vB t t'):=by
 obtain⟨cs,h1,h2,h3,h4⟩:=hC.plan
 obtain⟨e1,e2⟩:=zhw h1
 unfold T66;refine lA dE (lA zoa (lC h3 (oG e1 (dF fun bd hbd hbase=>?_))))
 obtain⟨t1,g1,g2,g3,g4⟩:=qS (C:=yA) ty81 hbd
 refine⟨_,_,g1,sC ?_⟩
 obtain⟨r,r1,r2⟩:=tab_ok hp (h1.mono g3) name
 rw[e2,q54,r2,sA];have f1:qB yA 81 1 (.ptr bd 0)=some (.ptr bd 1):=by kernel_rfl
 cases hd:z03 p.tables name with
 | none=>
  rw[hd]at r1;unfold TabV at r1;subst r1;refine lA rfl (oG (qN rfl) (lA rfl (pD (dF fun k _ _=>?_))))
  obtain⟨t2,k1,k2,k3⟩:=yV g2 hbase ty81 rfl rfl (m:=[.str [],.bool false,.nilslice]) rfl rfl
  rw[hN hd];refine⟨_,_,k1 k,uB (by simp) ⟨rfl,fun c u hc=>?_⟩⟩
  have:c≠bd:=fun e=>by rw[e,hbd]at hc;cases hc
  rw[k3 c this];exact g3 _ _ hc
 | some x=>
  rw[hd]at r1;obtain⟨a,rfl,ha⟩:=r1
  have hfz:xK [.str [],.bool false,.nilslice] [zA.str x.name,.bool x.two,a]=true:=by
   show(true&&(true&&(z06 .nilslice a&&true)))=true
   rw[xY ha];rfl
  have hone:tC zA.one [zA.str x.name,.bool x.two,a]=true:=by
   rw[aG];simp only[ybh,ybl,ha.one];rfl
  refine lA rfl (oG (qN hfz) (lA rfl (pD (dF fun k _ _=>?_))))
  obtain⟨t2,k1,k2,k3⟩:=yV g2 hbase ty81 rfl rfl (m:=[.str x.name,.bool x.two,a]) rfl hone
  have hle:vB t t2:=fun c u hc=>by
   have:c≠bd:=fun e=>by rw[e,hbd]at hc;cases hc
   rw[k3 c this];exact g3 _ _ hc
  refine⟨_,_,k1 k,iA rfl (lA f1 (lC (k2.load1 (j:=1) ty4 rfl rfl) ?_))⟩
  exact hK x _ t2 hd hle
theorem z2n{a c d:zA}{kd:Int}{n1 n2:Bool}{vi:Int}(hC:yL t b m p)(hp:p.fit)(hc:yC d=some (.int .i64 (n:Int))):lB yA F 66 [.ptr b 0,.agg [.int .u8 op,.str name,.int .u8 kd,.bool n1,a,.bool n2,c,.int .i64 vi,d]] t=some (nmV (qL p op name n)):=by
 refine kJ ?_
 refine w66 _ _ _ _ _ _ _ _ _ _ ?_
 unfold t66;have rest:∀(Y:T),(op=3\/op=4\/op=21\/op=22\/op=5)->wp 66 (D66 (.ptr b 0) (op:Int) name) t (fun v t'=>v=nmV (qL p op name n)/\vB t t'):=fun Y h=>D_ok hC hp h
 by_cases h3:op=3
 ·exact iA (aD (by omega)) (iA (aD (by omega)) (D_ok hC hp (.inl h3)))
 refine uB (tF (by omega)) ?_
 by_cases h4:op=4
 ·exact iA (aD (by omega)) (iA (aD (by omega)) (D_ok hC hp (.inr (.inl h4))))
 refine uB (tF (by omega)) ?_
 by_cases h21:op=21
 ·exact iA (aD (by omega)) (iA (aD (by omega)) (D_ok hC hp (.inr (.inr (.inl h21)))))
 refine uB (tF (by omega)) ?_
 by_cases h22:op=22
 ·exact iA (aD (by omega)) (iA (aD (by omega)) (D_ok hC hp (.inr (.inr (.inr (.inl h22))))))
 refine uB (tF (by omega)) ?_
 by_cases h5:op=5
 ·exact iA (aD (by omega)) (D_ok hC hp (.inr (.inr (.inr (.inr h5)))))
 refine uB (tF (by omega)) ?_
 have hno:¬ (op=3\/op=4\/op=21\/op=22\/op=5):=by omega
 by_cases h6:op=6
 ·refine iA (aD (by omega)) ?_
  unfold qL;rw[if_neg hno,if_pos h6]
  cases hd:z03 p.tables name with
  | none=>
   exact T_ok (R:=false) (K:=fun a36 _=>.asB a36 fun b37=>.opt (yC d) fun a38=>.asI .i64 a38 fun n39=>.ret (.tup [(.int .u8 0),(.bool (bEq b37 (mA n39 2)))])) hC hp (fun x bd t' h _=>by rw[hd]at h;cases h) (fun _=>rfl)
  | some x=>
   refine T_ok (R:=bEq x.two (decide (n=2))) (K:=fun a36 _=>.asB a36 fun b37=>.opt (yC d) fun a38=>.asI .i64 a38 fun n39=>.ret (.tup [(.int .u8 0),(.bool (bEq b37 (mA n39 2)))])) hC hp (fun y bd t' h hle=>?_) (fun h=>by rw[hd]at h;cases h)
   rw[hd]at h
   cases h;refine pD (lA hc (uC ⟨?_,hle⟩))
   have:mA (n:Int) 2=decide (n=2):=by rw[tN];congr 1;exact propext (by omega)
   rw[this];rfl
 refine uB (tF (by omega)) ?_
 by_cases h23:op=23
 ·refine iA (aD (by omega)) ?_
  unfold qL;rw[if_neg hno,if_neg h6,if_pos h23]
  cases hd:z03 p.tables name with
  | none=>
   exact T_ok (R:=false) (K:=fun a36 _=>.asB a36 fun b52=>.ret (.tup [(.int .u8 0),(.bool (!b52))])) hC hp (fun x bd t' h _=>by rw[hd]at h;cases h) (fun _=>rfl)
  | some x=>
   refine T_ok (R := !x.two) (K:=fun a36 _=>.asB a36 fun b52=>.ret (.tup [(.int .u8 0),(.bool (!b52))])) hC hp (fun y bd t' h hle=>?_) (fun h=>by rw[hd]at h;cases h)
   rw[hd]at h
   cases h;exact pD ⟨rfl,hle⟩
 refine uB (tF (by omega)) ?_
 unfold qL;rw[if_neg hno,if_neg h6,if_neg h23];exact⟨rfl,vB.refl _⟩
end
end Go.Proofs
namespace Go.Proofs
open Go Go.Am
variable [fC]
variable {t tf:Tr rA}
structure KE where
 op:Nat
 a:Nat
 b:Nat
 c:Nat
 k:Nat
def zkz:List KE:=[⟨2,0,0,0,4⟩,⟨4,4,0,0,1⟩,⟨6,2,0,0,2⟩,⟨6,2,2,0,2⟩,⟨8,4,4,0,5⟩,⟨9,2,2,0,2⟩,⟨9,3,2,0,3⟩,⟨9,2,3,0,3⟩,⟨10,2,2,0,2⟩,⟨10,3,2,0,3⟩,⟨10,3,3,0,2⟩,⟨15,1,1,0,1⟩,⟨16,1,1,0,1⟩,⟨17,1,0,0,1⟩,
 ⟨19,2,2,0,2⟩,⟨19,3,3,0,3⟩,⟨20,4,4,0,6⟩,⟨21,4,4,0,2⟩,⟨22,4,4,6,3⟩,⟨23,4,4,0,2⟩,⟨24,2,0,0,6⟩,⟨25,5,0,0,2⟩,⟨25,6,0,0,2⟩,⟨25,3,0,0,2⟩,⟨26,4,0,0,4⟩,
 ⟨7,2,2,0,2⟩,⟨7,3,3,0,3⟩,⟨7,5,5,0,5⟩,⟨7,6,6,0,6⟩,⟨7,4,5,0,4⟩,⟨7,4,6,0,4⟩,⟨8,2,2,0,2⟩,⟨8,3,3,0,3⟩,⟨8,5,5,0,5⟩,⟨8,6,6,0,6⟩,⟨8,4,5,0,4⟩,⟨8,4,6,0,4⟩,
 ⟨14,1,1,0,1⟩,⟨18,1,1,1,1⟩,⟨14,2,2,0,1⟩,⟨18,1,2,2,2⟩,⟨11,2,2,0,2⟩,⟨12,2,2,0,2⟩,⟨13,2,2,0,1⟩,⟨14,3,3,0,1⟩,⟨18,1,3,3,3⟩,⟨11,3,3,0,3⟩,⟨12,3,3,0,3⟩,⟨13,3,3,0,1⟩,
 ⟨14,4,4,0,1⟩,⟨18,1,4,4,4⟩,⟨11,4,4,0,4⟩,⟨12,4,4,0,4⟩,⟨13,4,4,0,1⟩,⟨14,5,5,0,1⟩,⟨18,1,5,5,5⟩,⟨11,5,5,0,5⟩,⟨12,5,5,0,5⟩,⟨13,5,5,0,1⟩,
 ⟨14,6,6,0,1⟩,⟨18,1,6,6,6⟩,⟨11,6,6,0,6⟩,⟨12,6,6,0,6⟩,⟨13,6,6,0,1⟩]
def z5o (op a b c:Nat):zA:=.agg [.int .u8 op,.int .u8 a,.int .u8 b,.int .u8 c]
def KE.e (x:KE):zA × zA:=(z5o x.op x.a x.b x.c,.int .u8 x.k)
def zD (n:Nat):List (zA × zA):=(zkz.take n).map KE.e
theorem dR{w x y z:Int}:zM yA 100 (.agg [.int .u8 w,.int .u8 x,.int .u8 y,.int .u8 z])=true:=by kernel_rfl
def KI (t0:Tr rA)(b n:Nat)(t:Tr rA):Prop:=t.get b=some (.map (zD n))/\bD b t0 t
theorem zs9{t0:Tr rA}{b n i:Nat}{k v:zA}{K:T}{Q:vC}(hb:yA.base<=b)(hI:KI t0 b n t)(hs:tG k v (zD n)=some (zD (n+1)))(hk:zM yA 100 k=true)(next:∀t',KI t0 b (n+1) t'->wp i K t' Q):wp i (.heavy (eH yA 100 (.map b) k v) fun _=>K) t Q:=by
 refine dF fun m _ _=>?_
 refine⟨_,_,zg9 hk hb hI.1 hs,next _ ⟨by show(t.set b _).get b=_;rw[Tr.get_set,if_pos rfl],fun c hc=>?_⟩⟩
 show(t.set b _).get c=_
 rw[Tr.get_set,if_neg hc];exact hI.2 c hc
section
variable {t0:Tr rA}{b:Nat}{name:List Nat}{c1 c2 c3:zA}{Q:vC}
abbrev ag2:zA:=.agg [.int .u8 7,.int .u8 8]
abbrev ag4:zA:=.agg [.int .u8 2,.int .u8 3,.int .u8 5,.int .u8 6]
theorem zw9{n:Nat}{op i:Int}(hb:yA.base<=b)(hI:KI t0 b n t)
  (h1:tG (.agg [.int .u8 op,.int .u8 2,.int .u8 2,.int .u8 0]) (.int .u8 2) (zD n)=some (zD (n+1))) (h2:tG (.agg [.int .u8 op,.int .u8 3,.int .u8 3,.int .u8 0]) (.int .u8 3) (zD (n+1))=some (zD (n+1+1)))
  (h3:tG (.agg [.int .u8 op,.int .u8 5,.int .u8 5,.int .u8 0]) (.int .u8 5) (zD (n+1+1))=some (zD (n+1+1+1))) (h4:tG (.agg [.int .u8 op,.int .u8 6,.int .u8 6,.int .u8 0]) (.int .u8 6) (zD (n+1+1+1))=some (zD (n+1+1+1+1)))
  (h5:tG (.agg [.int .u8 op,.int .u8 4,.int .u8 5,.int .u8 0]) (.int .u8 4) (zD (n+1+1+1+1))=some (zD (n+1+1+1+1+1))) (h6:tG (.agg [.int .u8 op,.int .u8 4,.int .u8 6,.int .u8 0]) (.int .u8 4) (zD (n+1+1+1+1+1))=some (zD (n+1+1+1+1+1+1)))
  (hk:∀x y:Nat,x<10->y<10->zM yA 100 (.agg [.int .u8 op,.int .u8 (x:Int),.int .u8 (y:Int),.int .u8 0])=true)
  (next:∀t',KI t0 b (n+1+1+1+1+1+1) t'->jp 28 2 [.map b,ag2,.int .i64 (vA .i64 (i+1)),.str name,c1,c2,c3] t' Q) :
  jp 28 6 [.map b,.int .u8 op,ag2,.int .i64 i,ag4,.int .i64 0,.str name,c1,c2,c3] t Q:=by
 have i0:cI yA 102 ag4 (.int .i64 0)=some (.int .u8 2):=by kernel_rfl
 have i1:cI yA 102 ag4 (.int .i64 1)=some (.int .u8 3):=by kernel_rfl
 have i2:cI yA 102 ag4 (.int .i64 2)=some (.int .u8 5):=by kernel_rfl
 have i3:cI yA 102 ag4 (.int .i64 3)=some (.int .u8 6):=by kernel_rfl
 have w1:vA .i64 (0+1)=1:=rfl
 have w2:vA .i64 (1+1)=2:=rfl
 have w3:vA .i64 (2+1)=3:=rfl
 have w4:vA .i64 (3+1)=4:=rfl
 refine zyk _ _ _ _ _ _ _ _ _ _ _ _ _ _ (iA rfl (lA i0 (uC (iA rfl (zs9 hb hI h1 (hk 2 2 (by omega) (by omega)) fun t' hI=>vD ?_)))))
 rw[w1];refine zyk _ _ _ _ _ _ _ _ _ _ _ _ _ _ (iA rfl (lA i1 (uC (iA rfl (zs9 hb hI h2 (hk 3 3 (by omega) (by omega)) fun t' hI=>vD ?_)))))
 rw[w2];refine zyk _ _ _ _ _ _ _ _ _ _ _ _ _ _ (iA rfl (lA i2 (uC (iA rfl (zs9 hb hI h3 (hk 5 5 (by omega) (by omega)) fun t' hI=>vD ?_)))))
 rw[w3];refine zyk _ _ _ _ _ _ _ _ _ _ _ _ _ _ (iA rfl (lA i3 (uC (iA rfl (zs9 hb hI h4 (hk 6 6 (by omega) (by omega)) fun t' hI=>vD ?_)))))
 rw[w4];refine zyk _ _ _ _ _ _ _ _ _ _ _ _ _ _ (uB (by show ¬ (false=true);simp) (iA rfl (zs9 hb hI h5 (hk 4 5 (by omega) (by omega)) fun t' hI=>iA rfl (zs9 hb hI h6 (hk 4 6 (by omega) (by omega)) fun t' hI=>vD ?_))))
 exact next t' hI
theorem zk2{n:Nat}{k:Nat}(hk0:2<=k/\k<=6)(hb:yA.base<=b)(hI:KI t0 b n t)
  (h1:tG (.agg [.int .u8 14,.int .u8 k,.int .u8 k,.int .u8 0]) (.int .u8 1) (zD n)=some (zD (n+1))) (h2:tG (.agg [.int .u8 18,.int .u8 1,.int .u8 k,.int .u8 k]) (.int .u8 k) (zD (n+1))=some (zD (n+1+1)))
  (h3:tG (.agg [.int .u8 11,.int .u8 k,.int .u8 k,.int .u8 0]) (.int .u8 k) (zD (n+1+1))=some (zD (n+1+1+1))) (h4:tG (.agg [.int .u8 12,.int .u8 k,.int .u8 k,.int .u8 0]) (.int .u8 k) (zD (n+1+1+1))=some (zD (n+1+1+1+1)))
  (h5:tG (.agg [.int .u8 13,.int .u8 k,.int .u8 k,.int .u8 0]) (.int .u8 1) (zD (n+1+1+1+1))=some (zD (n+1+1+1+1+1)))
  (next:∀t',KI t0 b (n+1+1+1+1+1) t'->jp 28 10 [.map b,.int .u8 ((k+1:Nat):Int),.str name,c1,c2,c3] t' Q) :
  jp 28 10 [.map b,.int .u8 (k:Int),.str name,c1,c2,c3] t Q:=by
 have hk:∀w x y z:Nat,w<30->x<10->y<10->z<10->zM yA 100 (z5o w x y z)=true:=fun w x y z _ _ _ _=>dR
 refine zyl _ _ _ _ _ _ (iA (yLe (by omega)) (iA rfl (zs9 hb hI h1 (hk 14 k k 0 (by omega) (by omega) (by omega) (by omega)) fun t' hI=>iA rfl (zs9 hb hI h2 (hk 18 1 k k (by omega) (by omega) (by omega) (by omega)) fun t' hI=>iA ?_ (iA rfl (zs9 hb hI h3 (hk 11 k k 0 (by omega) (by omega) (by omega) (by omega)) fun t' hI=>iA rfl (zs9 hb hI h4 (hk 12 k k 0 (by omega) (by omega) (by omega) (by omega)) fun t' hI=>iA rfl (zs9 hb hI h5 (hk 13 k k 0 (by omega) (by omega) (by omega) (by omega)) fun t' hI=>vD ?_))))))))
 ·cases hq:mA (k:Int) 1 with
  | true=>exact absurd (zH.1 hq) (by omega)
  | false=>rfl
 ·rw[zg5 (by omega) (by omega),show(k:Int)+1=((k+1:Nat):Int) by omega]
  exact next t' hI
theorem fZ{p:fD}{cs:List zA}(hr:RD t p.d cs)(hQ:∀b m t',vB t t'->yL t' b m p->t'.get m=some (.map (zD 64))->Q (.ptr b 0) t'):Wc yA F 28 [.agg cs] t Q:=by
 have hr0:=hr
 obtain⟨u1,u2,u3,rfl,h1,h2,h3⟩:=nQ hr
 refine w28 _ _ _ _ ?_
 unfold t28;repeat refine iA rfl ?_
 refine dF fun b hb hbase=>?_
 refine⟨.map b,⟨b+1,t.set b (.map [])⟩,rfl,dF fun n _ _=>?_⟩
 have hm0:(t.set b (.map [])).get b=some (.map []):=by rw[Tr.get_set,if_pos rfl]
 have ho0:bD b t (t.set b (.map [])):=fun c hc=>by rw[Tr.get_set,if_neg hc]
 obtain⟨t1,g1,g2,g3⟩:=zti (C:=yA) (T:=100) (b:=b) (n:=n) (l:=zD 25) (t:=t.set b (.map [])) (fun e he=>by
  obtain⟨x,_,rfl⟩:=List.mem_map.1 he
  exact dR) (by kernel_rfl) hbase hm0
 have g1':rP yA ((zD 25).map fun e=>Eff.upd 100 (.map b) e.1 e.2) ⟨n,t.set b (.map [])⟩=some (oD,⟨n,t1⟩):=g1
 have hI:KI t b 25 t1:=⟨g2,fun c hc=>by rw[g3 c hc,ho0 c hc]⟩
 refine⟨oD,⟨n,t1⟩,g1',iA rfl (vD ?_)⟩
 have j0:cI yA 101 ag2 (.int .i64 0)=some (.int .u8 7):=by kernel_rfl
 have j1:cI yA 101 ag2 (.int .i64 1)=some (.int .u8 8):=by kernel_rfl
 have w1:vA .i64 (0+1)=1:=rfl
 have w2:vA .i64 (1+1)=2:=rfl
 refine z8b _ _ _ _ _ _ _ _ (iA rfl (lA j0 (uC (iA rfl (vD ?_)))))
 refine zw9 hbase hI (by kernel_rfl) (by kernel_rfl) (by kernel_rfl) (by kernel_rfl) (by kernel_rfl) (by kernel_rfl) (fun x y _ _=>dR) fun t2 hI=>?_
 rw[w1];refine z8b _ _ _ _ _ _ _ _ (iA rfl (lA j1 (uC (iA rfl (vD ?_)))))
 refine zw9 hbase hI (by kernel_rfl) (by kernel_rfl) (by kernel_rfl) (by kernel_rfl) (by kernel_rfl) (by kernel_rfl) (fun x y _ _=>dR) fun t3 hI=>?_
 rw[w2];refine z8b _ _ _ _ _ _ _ _ (uB (by show ¬ (false=true);simp) (vD ?_))
 refine zyl _ _ _ _ _ _ (iA rfl (iA rfl (zs9 hbase hI (by kernel_rfl) dR fun t4 hI=>iA rfl (zs9 hbase hI (by kernel_rfl) dR fun t5 hI=>uB (by show ¬ (false=true);simp) (vD ?_)))))
 have uw:vA .u8 (1+1)=((2:Nat):Int):=rfl
 rw[uw];refine zk2 (by omega) hbase hI (by kernel_rfl) (by kernel_rfl) (by kernel_rfl) (by kernel_rfl) (by kernel_rfl) fun t6 hI=>?_
 refine zk2 (by omega) hbase hI (by kernel_rfl) (by kernel_rfl) (by kernel_rfl) (by kernel_rfl) (by kernel_rfl) fun t7 hI=>?_
 refine zk2 (by omega) hbase hI (by kernel_rfl) (by kernel_rfl) (by kernel_rfl) (by kernel_rfl) (by kernel_rfl) fun t8 hI=>?_
 refine zk2 (by omega) hbase hI (by kernel_rfl) (by kernel_rfl) (by kernel_rfl) (by kernel_rfl) (by kernel_rfl) fun t9 hI=>?_
 refine zk2 (by omega) hbase hI (by kernel_rfl) (by kernel_rfl) (by kernel_rfl) (by kernel_rfl) (by kernel_rfl) fun t10 hI=>?_
 refine zyl _ _ _ _ _ _ (uB (nLe (by omega)) (iA rfl (dF fun bc hbc _=>?_)))
 have hle:vB t t10:=fun c u hc=>by
  have:c≠b:=fun e=>by rw[e,hb]at hc;cases hc
  rw[hI.2 c this];exact hc
 obtain⟨t11,e1,e2,e3,e4⟩:=wT hbc [.str p.name,u1,u2,u3,.map b] none
 have hb:zmo (.agg [.str p.name,u1,u2,u3,.map b]) ⟨bc,t10⟩=some (.ptr bc 0,⟨bc+1,t11⟩):=by
  show some (zA.ptr bc 0,zE ⟨bc,t10⟩ [.str p.name,u1,u2,u3,.map b] none)=_
  rw[e1]
 refine⟨_,_,hb,hQ bc b t11 (hle.trans e3) ⟨_,hr0.mono (hle.trans e3),e2⟩ ?_⟩
 exact e3 _ _ hI.1
end
end Go.Proofs
namespace Go.Proofs
open Go Go.Am
variable [fC]
variable {t tf:Tr rA}
def zh8(op a b c:Nat):Option Nat:=(zkz.find? fun x=>decide (op=x.op)&&(decide (a=x.a)&&(decide (b=x.b)&&(decide (c=x.c)&&true)))).map KE.k
theorem zyg{op a b c op' a' b' c':Nat}:bF (z5o op a b c) (z5o op' a' b' c')=some (decide (op=op')&&(decide (a=a')&&(decide (b=b')&&(decide (c=c')&&true)))):=by
 have h:∀x y:Nat,fK (.int .u8 (x:Int)) (.int .u8 (y:Int))=some (decide (x=y)):=by
  intro x y;show cA (kEq .u8 .u8) (some (mA (x:Int) (y:Int)))=_
  rw[sI.2 rfl,gD,tN];congr 2
  exact propext (by omega)
 unfold bF z5o;simp only[zA.asAgg,uA,vN,h]
theorem zlg{op a b c:Nat}:∀(l:List KE),cG (z5o op a b c) (l.map KE.e)=some ((l.find? fun x=>decide (op=x.op)&&(decide (a=x.a)&&(decide (b=x.b)&&(decide (c=x.c)&&true)))).map fun x=>zA.int .u8 (x.k:Int))
 | []=>rfl
 | x::l=>by
  rw[ybn,cG,show(KE.e x).1=z5o x.op x.a x.b x.c from rfl,zyg,uA,List.find?_cons]
  cases h:(decide (op=x.op)&&(decide (a=x.a)&&(decide (b=x.b)&&(decide (c=x.c)&&true))))with
  | true=>rfl
  | false=>exact zlg l
theorem z7y{m:Nat}(hm:t.get m=some (.map (zD 64)))(op a b c:Nat):bG yA 100 ⟨0,t⟩ (.map m) (z5o op a b c) true=some (match zh8 op a b c with | some k=>.tup [.int .u8 (k:Int),.bool true] | none=>.tup [.int .u8 0,.bool false]):=by
 have hl:zD 64=zkz.map KE.e:=rfl
 have hf:=zlg (op:=op) (a:=a) (b:=b) (c:=c) zkz
 rw[<- hl]at hf;unfold zh8
 cases h:zkz.find? fun x=>decide (op=x.op)&&(decide (a=x.a)&&(decide (b=x.b)&&(decide (c=x.c)&&true)))with
 | some x=>
  rw[h]at hf;exact zh7 dR hm hf z6w rfl ty5 true
 | none=>
  rw[h]at hf;exact zkn dR hm hf z6w rfl ty5 true
def fitK (op nm a b c:Nat):Nat × Nat:=
 if op=3\/op=5 then(if a=4 then(nm,0)else(0,142))
 else match zh8 op a b c with
  | some k=>if op=21 then(if nm=2 then(k,0)else(0,142))else if op=22 then(if nm=3 then(k,0)else(0,142))else(k,0)
  | none=>(0,142)
def opK (p:fD)(op:Nat)(name:List Nat)(vk n:Nat)(ks:List Nat):Nat × Nat:=
 if (qL p op name n).2=false then(0,141)else if op=1 then(vk,0)else fitK op (qL p op name n).1 (ks.getD 0 0) (ks.getD 1 0) (ks.getD 2 0)
def zk3(p:fD)(op:Nat)(name:List Nat)(vk n:Nat)(ks:List Nat)(r:Nat ⊕ List Nat):Nat × Nat:=
 match r with
 | .inl e=>(0,e)
 | .inr ks'=>opK p op name vk n (ks++ks')
mutual
/-- kind and error of an expression whose parts are printable -/
def mG(p:fD):jA->Nat × Nat
 | .mk op name v args=>zk3 p op name v.kind args.length [] (wN p args)
def wN(p:fD):List jA->Nat ⊕ List Nat
 | []=>.inr []
 | x::l=>if (mG p x).2≠0 then .inl (mG p x).2 else match wN p l with
  | .inl e=>.inl e
  | .inr ks=>.inr ((mG p x).1::ks)
end
def kdV (r:Nat × Nat):zA:=.tup [.int .u8 (r.1:Nat),.int .i64 (r.2:Nat)]
def kC (ks:List Nat):List zA:=[.int .u8 (ks.getD 0 0:Nat),.int .u8 (ks.getD 1 0:Nat),.int .u8 (ks.getD 2 0:Nat)]
theorem kC_set{ks:List Nat}{k:Nat}(h:ks.length<3):(kC ks).set ks.length (.int .u8 (k:Int))=kC (ks++[k]):=by
 match ks,h with
 | [],_=>rfl
 | [x],_=>rfl
 | [x,y],_=>rfl
theorem zyj{ks:List Nat}{i:Nat}(h:i<3):(kC ks)[i]?=some (.int .u8 (ks.getD i 0:Nat)):=by
 have:i=0\/i=1\/i=2:=by omega
 rcases this with e | e | e<;>subst e<;>rfl
theorem zq3{b i:Nat}(h:i<3):jB yA 137 (.ptr b 0) (.int .i64 (i:Int))=some (.ptr b i):=by
 unfold jB;rw[ty137,uA];have e:(zA.int .i64 (i:Int)).asNat=some i:=rfl
 rw[e,uA];simp only[zA.asSlice,zA.asPtr,uA,qD.asArr];rw[ty5,uA,xC.2 h,gD];simp
theorem zrq{x:jA}{d:Nat}(h:bE x d=true):x.args.length<=3/\(x.op=1\/∀y∈x.args,bE y (d+1)=true):=by
 obtain⟨op,name,v,args⟩:=x
 unfold bE zk7 at h;simp only[yac,decide_eq_true_eq]at h;obtain⟨⟨hd,⟨⟨⟨h27,_⟩,hl⟩,hm⟩,hnm⟩,hrest⟩:=h
 obtain⟨f1,f2,f3,f4,f5,f6,f7,f8⟩:=za1 h27
 refine⟨by show args.length<=3;omega,?_⟩
 show op=1\/∀y∈args,bE y (d+1)=true
 by_cases h1:op=1
 ·exact .inl h1
 ·rw[if_neg h1,yac,fY,ybc]at hrest
  exact .inr hrest.2
theorem zrp{x:jA}{d:Nat}(h:bE x d=true)(h1:x.op=1):x.args=[]:=by
 obtain⟨op,name,v,args⟩:=x
 have h1:op=1:=h1
 subst h1;unfold bE zk7 at h;simp only[yac,decide_eq_true_eq]at h;have:=h.1.2.1.2
 have e:(rD 1).most=0:=rfl
 rw[e]at this;exact ybd.1 (by show args.length=0;omega)
def POk (p:fD)(b m:Nat)(x:jA):Prop:=∀(d:Nat) (t:Tr rA) (cs:List zA),bE x d=true->x.fit->yL t b m p->t.get m=some (.map (zD 64))->RD t x.d cs->lB yA F 44 [.ptr b 0,.agg cs] t=some (kdV (mG p x))
section
variable {p:fD}{b m:Nat}
theorem yL.mono{t':Tr rA}(h:yL t b m p)(k:vB t t'):yL t' b m p:=by
 obtain⟨cs,h1,h2⟩:=h
 exact⟨cs,h1.mono k,h2.up k⟩
theorem yL.map(h:yL t b m p):oA yA 100 ⟨0,t⟩ (.ptr b 4)=some (.map m):=by
 obtain⟨cs,h1,h2,h3,h4⟩:=h.plan
 refine h4.load1 (j:=4) z6w rfl ?_
 rw[yaq (by omega),h2]
 rfl
theorem zzp{r:Bool}{k:Nat}{t0:Tr rA}(hle:vB t0 t):jp 44 59 [.bool r,.int .u8 (k:Int)] t (fun v t'=>v=kdV (if r=true then(k,0)else(0,142))/\vB t0 t'):=by
 refine j44_59 _ _ ?_
 unfold z45
 cases r with
 | true=>exact uB (by simp) ⟨rfl,hle⟩
 | false=>exact iA rfl ⟨rfl,hle⟩
theorem z2b{op:Nat}{name:List Nat}{v:xH}{n:Nat}{ks:List Nat}{a c d:zA}{ak:Nat}{t0:Tr rA}(hp:p.fit)(hC:yL t b m p)(hm:t.get m=some (.map (zD 64)))(hd:yC d=some (.int .i64 (n:Int)))(hk:mD t ak none (kC ks))(hle:vB t0 t) :
  wp 44 (.call 66 [.ptr b 0,(.agg [(.int .u8 (op:Int)),(.str name),(.int .u8 (v.kind:Int)),(.bool v.f.n.neg),a,(.bool v.f.d.neg),c,(.int .i64 v.i),d])] fun a9=>
 .opt (rB 0 a9) fun a10=>.asI .u8 a10 fun n11=>.opt (rB 1 a9) fun a12=>.asB a12 fun b13=>.ite (!b13)
 (.ret (.tup [(.int .u8 0),(.int .i64 141)]))
 (.opt (jB yA 137 (.ptr ak 0) (.int .i64 0)) fun a14=>.light (fun m=>oA yA 5 ⟨0,m⟩ a14) fun a15=>.asI .u8 a15 fun n16=>.opt (jB yA 137 (.ptr ak 0) (.int .i64 1)) fun a17=>.light (fun m=>oA yA 5 ⟨0,m⟩ a17) fun a18=>.asI .u8 a18 fun n19=>.opt (jB yA 137 (.ptr ak 0) (.int .i64 2)) fun a20=>.light (fun m=>oA yA 5 ⟨0,m⟩ a20) fun a21=>.asI .u8 a21 fun n22=>.ite true (.ite true (.ite (mA (op:Int) 1)
 (.ret (.tup [(.int .u8 (v.kind:Int)),(.int .i64 0)]))
 (.ite (mA (op:Int) 3)
 (.ite (mA (op:Int) 3)
 (.opt (jB yA 137 (.ptr ak 0) (.int .i64 0)) fun a23=>.light (fun m=>oA yA 5 ⟨0,m⟩ a23) fun a24=>.asI .u8 a24 fun n25=>.jump 59 [(.bool (mA n25 4)),(.int .u8 n11)])
 (.ite (mA (op:Int) 21)
 (.opt (nC (.ptr b 0)) fun a26=>.opt (qB yA 104 1 a26) fun a27=>.light (fun m=>oA yA 100 ⟨0,m⟩ a27) fun a28=>.light (fun m=>bG yA 100 ⟨0,m⟩ a28 (.agg [(.int .u8 (op:Int)),(.int .u8 n16),(.int .u8 n19),(.int .u8 n22)]) true) fun a29=>.opt (rB 0 a29) fun a30=>.asI .u8 a30 fun n31=>.opt (rB 1 a29) fun a32=>.asB a32 fun b33=>.ite b33
 (.jump 59 [(.bool (mA n11 2)),(.int .u8 n31)])
 (.jump 59 [(.bool false),(.int .u8 n31)]))
 (.ite (mA (op:Int) 22)
 (.opt (nC (.ptr b 0)) fun a34=>.opt (qB yA 104 1 a34) fun a35=>.light (fun m=>oA yA 100 ⟨0,m⟩ a35) fun a36=>.light (fun m=>bG yA 100 ⟨0,m⟩ a36 (.agg [(.int .u8 (op:Int)),(.int .u8 n16),(.int .u8 n19),(.int .u8 n22)]) true) fun a37=>.opt (rB 0 a37) fun a38=>.asI .u8 a38 fun n39=>.opt (rB 1 a37) fun a40=>.asB a40 fun b41=>.ite b41
 (.jump 59 [(.bool (mA n11 3)),(.int .u8 n39)])
 (.jump 59 [(.bool false),(.int .u8 n39)]))
 (.opt (nC (.ptr b 0)) fun a42=>.opt (qB yA 104 1 a42) fun a43=>.light (fun m=>oA yA 100 ⟨0,m⟩ a43) fun a44=>.light (fun m=>bG yA 100 ⟨0,m⟩ a44 (.agg [(.int .u8 (op:Int)),(.int .u8 n16),(.int .u8 n19),(.int .u8 n22)]) true) fun a45=>.opt (rB 0 a45) fun a46=>.asI .u8 a46 fun n47=>.opt (rB 1 a45) fun a48=>.asB a48 fun b49=>.jump 59 [(.bool b49),(.int .u8 n47)]))))
 (.ite (mA (op:Int) 5)
 (.opt (jB yA 137 (.ptr ak 0) (.int .i64 0)) fun a50=>.light (fun m=>oA yA 5 ⟨0,m⟩ a50) fun a51=>.asI .u8 a51 fun n52=>.jump 59 [(.bool (mA n52 4)),(.int .u8 n11)])
 (.ite (mA (op:Int) 21)
 (.opt (nC (.ptr b 0)) fun a53=>.opt (qB yA 104 1 a53) fun a54=>.light (fun m=>oA yA 100 ⟨0,m⟩ a54) fun a55=>.light (fun m=>bG yA 100 ⟨0,m⟩ a55 (.agg [(.int .u8 (op:Int)),(.int .u8 n16),(.int .u8 n19),(.int .u8 n22)]) true) fun a56=>.opt (rB 0 a56) fun a57=>.asI .u8 a57 fun n58=>.opt (rB 1 a56) fun a59=>.asB a59 fun b60=>.ite b60
 (.jump 59 [(.bool (mA n11 2)),(.int .u8 n58)])
 (.jump 59 [(.bool false),(.int .u8 n58)]))
 (.ite (mA (op:Int) 22)
 (.opt (nC (.ptr b 0)) fun a61=>.opt (qB yA 104 1 a61) fun a62=>.light (fun m=>oA yA 100 ⟨0,m⟩ a62) fun a63=>.light (fun m=>bG yA 100 ⟨0,m⟩ a63 (.agg [(.int .u8 (op:Int)),(.int .u8 n16),(.int .u8 n19),(.int .u8 n22)]) true) fun a64=>.opt (rB 0 a64) fun a65=>.asI .u8 a65 fun n66=>.opt (rB 1 a64) fun a67=>.asB a67 fun b68=>.ite b68
 (.jump 59 [(.bool (mA n11 3)),(.int .u8 n66)])
 (.jump 59 [(.bool false),(.int .u8 n66)]))
 (.opt (nC (.ptr b 0)) fun a69=>.opt (qB yA 104 1 a69) fun a70=>.light (fun m=>oA yA 100 ⟨0,m⟩ a70) fun a71=>.light (fun m=>bG yA 100 ⟨0,m⟩ a71 (.agg [(.int .u8 (op:Int)),(.int .u8 n16),(.int .u8 n19),(.int .u8 n22)]) true) fun a72=>.opt (rB 0 a72) fun a73=>.asI .u8 a73 fun n74=>.opt (rB 1 a72) fun a75=>.asB a75 fun b76=>.jump 59 [(.bool b76),(.int .u8 n74)])))))) .fail) .fail)) t (fun x t'=>x=kdV (opK p op name v.kind n ks)/\vB t0 t'):=by
 refine sC ?_
 rw[q66,z2n hC hp hd,sA];unfold opK;generalize qL p op name n=r
 obtain⟨nm,ok⟩:=r
 refine lA rfl (uC (lA rfl (pD ?_)))
 cases ok with
 | false=>exact iA rfl ⟨rfl,hle⟩
 | true=>
  refine uB (by simp) ?_
  rw[if_neg (by simp)]
  have i0:=zq3 (b:=ak) (i:=0) (by omega)
  have i1:=zq3 (b:=ak) (i:=1) (by omega)
  have i2:=zq3 (b:=ak) (i:=2) (by omega)
  have l0:oA yA 5 ⟨0,t⟩ (.ptr ak 0)=some (.int .u8 (ks.getD 0 0:Nat)):=hk.load1 ty5 rfl (zyj (by omega))
  have l1:oA yA 5 ⟨0,t⟩ (.ptr ak 1)=some (.int .u8 (ks.getD 1 0:Nat)):=hk.load1 ty5 rfl (zyj (by omega))
  have l2:oA yA 5 ⟨0,t⟩ (.ptr ak 2)=some (.int .u8 (ks.getD 2 0:Nat)):=hk.load1 ty5 rfl (zyj (by omega))
  refine lA i0 (lC l0 (uC (lA i1 (lC l1 (uC (lA i2 (lC l2 (uC (iA rfl (iA rfl ?_))))))))))
  by_cases h1:op=1
  ·rw[if_pos h1];exact iA (aD (by omega)) ⟨rfl,hle⟩
  rw[if_neg h1];refine uB (tF (by omega)) ?_
  have hlk:=z7y hm op (ks.getD 0 0) (ks.getD 1 0) (ks.getD 2 0)
  unfold fitK;have eq4:∀ {x j:Nat},mA (x:Int) (j:Int)=decide (x=j):=by intro x j;rw[tN];congr 1;exact propext (by omega)
  have vE:∀ {x j k:Nat},jp 44 59 [.bool (mA (x:Int) (j:Int)),.int .u8 (k:Int)] t (fun v t'=>v=kdV (if x=j then(k,0)else(0,142))/\vB t0 t'):=by
   intro x j k;rw[eq4];have:=zzp (r:=decide (x=j)) (k:=k) hle
   simpa using this
  by_cases h3:op=3
  ·rw[if_pos (.inl h3)]
   refine iA (aD (by omega)) (iA (aD (by omega)) (lA i0 (lC l0 (uC (vD ?_)))))
   exact vE (j:=4)
  refine uB (tF (by omega)) ?_
  by_cases h5:op=5
  ·rw[if_pos (.inr h5)]
   refine iA (aD (by omega)) (lA i0 (lC l0 (uC (vD ?_))))
   exact vE (j:=4)
  rw[if_neg (by omega)]
  refine uB (tF (by omega)) ?_
  by_cases h21:op=21
  ·refine iA (aD (by omega)) (lA dE (lA zn9 (lC hC.map (lC hlk ?_))))
   cases hL:zh8 op (ks.getD 0 0) (ks.getD 1 0) (ks.getD 2 0)with
   | some k=>
    refine lA rfl (uC (lA rfl (pD (iA rfl (vD ?_)))))
    simp only[if_pos h21];exact vE (j:=2)
   | none=>
    refine lA rfl (uC (lA rfl (pD (uB (by simp) (vD ?_)))))
    exact zzp (r:=false) (k:=0) hle
  refine uB (tF (by omega)) ?_
  by_cases h22:op=22
  ·refine iA (aD (by omega)) (lA dE (lA zn9 (lC hC.map (lC hlk ?_))))
   cases hL:zh8 op (ks.getD 0 0) (ks.getD 1 0) (ks.getD 2 0)with
   | some k=>
    refine lA rfl (uC (lA rfl (pD (iA rfl (vD ?_)))))
    simp only[if_neg h21,if_pos h22];exact vE (j:=3)
   | none=>
    refine lA rfl (uC (lA rfl (pD (uB (by simp) (vD ?_)))))
    exact zzp (r:=false) (k:=0) hle
  refine uB (tF (by omega)) (lA dE (lA zn9 (lC hC.map (lC hlk ?_))))
  cases hL:zh8 op (ks.getD 0 0) (ks.getD 1 0) (ks.getD 2 0)with
  | some k=>
   refine lA rfl (uC (lA rfl (pD (vD ?_))))
   simp only[if_neg h21,if_neg h22];exact zzp (r:=true) (k:=k) hle
  | none=>
   refine lA rfl (uC (lA rfl (pD (vD ?_))))
   exact zzp (r:=false) (k:=0) hle
theorem zw4{op:Nat}{name:List Nat}{v:xH}{args:List jA}{a c d:zA}{ak dd:Nat}{t0:Tr rA}(hp:p.fit)(hall:∀y∈args,POk p b m y)(hP:∀y∈args,bE y dd=true)(hfits:∀y∈args,y.fit)(hlen:args.length<=3)
  (hC:yL t0 b m p) (hm:t0.get m=some (.map (zD 64))) (hr:dA t0 9 (args.map jA.d) d) (hak:t0.get ak=none) (hbase:yA.base<=ak):∀(l:List jA) (i:Nat) (ks:List Nat) (t:Tr rA),args.drop i=l->i<=args.length->ks.length=i->vB t0 t->mD t ak none (kC ks) →
  jp 44 2 [.ptr b 0,.ptr ak 0,d,.int .i64 (args.length:Int),.int .i64 (i:Int),.int .u8 (op:Int),.str name,.int .u8 (v.kind:Int),.bool v.f.n.neg,a,.bool v.f.d.neg,c,.int .i64 v.i,d] t (fun x t'=>x=kdV (zk3 p op name v.kind args.length ks (wN p l))/\vB t0 t'):=by
 intro l;induction l with
 | nil=>
  intro i ks t hl hi hk hle hc;have hi2:=List.drop_eq_nil_iff.1 hl
  refine j44_2 _ _ _ _ _ _ _ _ _ _ _ _ _ _ ?_
  unfold z64;refine uB (nLt (by omega)) ?_
  have:=z2b (op:=op) (name:=name) (v:=v) (n:=args.length) (a:=a) (c:=c) (d:=d) hp (hC.mono hle) (hle _ _ hm) (by rw[hr.len,yag]) hc hle
  unfold wN;show wp 44 _ t (fun x t'=>x=kdV (opK p op name v.kind args.length (ks++[]))/\vB t0 t')
  rw[ybe];exact this
 | cons x l ih=>
  intro i ks t hl hi hk hle hc;obtain⟨h1,h2,h3⟩:=mW hl
  have hm':x∈args:=ybw h1
  refine j44_2 _ _ _ _ _ _ _ _ _ _ _ _ _ _ ?_
  unfold z64;obtain⟨pb,po,cs,g1,g2,g3,g4,g5⟩:=gF.at z68 (by simp) (hr.mono hle) (i:=i) (d:=x.d) (by simp[h1])
  refine iA (yLt (by omega)) (lA g1 (lC g2 ?_))
  rw[pK];refine oG (uK g5 x.zs) ?_
  have hmk:=g5.mk x.zs
  have hcs:[zA.int .u8 ((cellsOf cs).i 0),.str ((cellsOf cs).s 1),.int .u8 ((cellsOf cs).i 2),.bool ((cellsOf cs).b 3),(cellsOf cs).v 4,.bool ((cellsOf cs).b 5),(cellsOf cs).v 6,.int .i64 ((cellsOf cs).i 7),(cellsOf cs).v 8]=cs:=hmk
  rw[hcs];refine iA g5.all (sC ?_)
  rw[q44,hall x hm' dd t cs (hP x hm') (hfits x hm') (hC.mono hle) (hle _ _ hm) g5,sA]
  refine lA rfl (uC (lA rfl (uC ?_)))
  unfold wN;by_cases he:(mG p x).2=0
  ·rw[if_neg (by simpa using he)]
   refine uB (by rw[aD (by omega)];simp) (lA (zq3 (by omega)) (dF fun n _ _=>?_))
   obtain⟨t',e1,e2,e3⟩:=hc.store1 (v:=.int .u8 ((mG p x).1:Nat)) hbase ty5 rfl rfl rfl (j:=i) (by show i<3;omega)
   refine⟨_,_,e1 n,vD ?_⟩
   rw[wrap_i64 (by omega) (by omega),show(i:Int)+1=((i+1:Nat):Int) by omega]
   rw[<- hk,kC_set (by omega)]at e2
   have hle':vB t0 t':=hle.off hak e3
   have:=ih (i+1) (ks++[(mG p x).1]) t' h2 (by omega) (by simp;omega) hle' e2
   refine Jq.mono this fun v' t2 hh=>⟨?_,hh.2⟩
   rw[hh.1]
   cases wN p l with
   | inl e=>rfl
   | inr ks'=>simp[zk3]
  ·rw[if_pos he]
   refine iA ?_ ⟨rfl,hle⟩
   cases hq:mA ((mG p x).2:Int) 0 with
   | true=>exact absurd (zH.1 hq) (by omega)
   | false=>rfl
mutual
theorem znh(hp:p.fit):∀(x:jA),POk p b m x
 | .mk op name v args=>by
  have hall:=zp8 hp args
  intro dd t cs hP hfit hC hm hr;have hP0:=hP
  obtain⟨h1,h2⟩:=zrq hP
  have hone:=zrp hP
  simp only[jA.args,jA.op]at h1 h2 hone;obtain⟨a,c,d,rfl,ha,hc,hd⟩:=lK hr
  simp only[jA.op,jA.name,jA.v,jA.args]at ha hc hd ⊢
  have hfit':=hfit
  unfold jA.fit at hfit';have hfits:=jA.fits_mem hfit'.2.2.2.2.2
  have hPs:∀y∈args,bE y (dd+1)=true:=by
   rcases h2 with e | h
   ·rw[hone e];intro y hy;cases hy
   ·exact h
  refine kJ (w44 _ _ _ _ _ _ _ _ _ _ ?_)
  unfold t44;refine dF fun ak hak hbase=>?_
  obtain⟨t1,e1,e2,e3,e4⟩:=qS (C:=yA) ty137 hak
  have hlen:=hd.len
  rw[yag]at hlen;refine⟨_,_,e1,lA hlen (uC (vD ?_))⟩
  have:=zw4 (op:=op) (name:=name) (v:=v) (a:=a) (c:=c) hp hall hPs hfits h1 hC hm hd hak hbase args 0 [] t1 rfl (by omega) rfl e3 e2
  unfold mG;exact this
theorem zp8(hp:p.fit):∀(l:List jA),∀y∈l,POk p b m y
 | [],_,h=>by cases h
 | x::l,y,h=>by
  rcases yat.1 h with e | h
  ·rw[e];exact znh hp x
  ·exact zp8 hp l y h
end
end
def zib(p:fD)(x:jA):Nat × Nat:=if bE x 1=true then mG p x else(0,140)
theorem z77{p:fD}{x:jA}{cp cs:List zA}(hp:p.fit)(hfit:x.fit)(hM:zJ t)(hW:nM t)(hrp:RD t p.d cp)(hr:RD t x.d cs):lB yA F 11 [.agg cp,.agg cs] t=some (kdV (zib p x)):=by
 have hrp0:=hrp
 have hr0:=hr
 obtain⟨u1,u2,u3,rfl,_⟩:=nQ hrp
 obtain⟨a,c,d,rfl,_⟩:=lK hr
 refine kJ (w11 _ _ _ _ _ _ _ _ _ _ _ _ _ ?_)
 unfold t11;refine sC ?_
 rw[q28];refine fZ hrp0 fun b m t1 h1 h2 h3=>iA hr0.sameA (sC ?_)
 have hk:lB yA F 29 [.ptr b 0,.agg [.int .u8 x.op,.str x.name,.int .u8 x.v.kind,.bool x.v.f.n.neg,a,.bool x.v.f.d.neg,c,.int .i64 x.v.i,d]] t1=some (kdV (zib p x)):=by
  refine kJ (w29 _ _ _ _ _ _ _ _ _ _ ?_)
  unfold t29;refine sC ?_
  rw[q43];refine z3x hfit (hM.mono h1) (hW.mono h1) (hr0.mono h1) fun t2 s e h4 h5=>?_
  refine lA rfl (cH (lA rfl (uC ?_)))
  unfold zib
  cases hP:bE x 1 with
  | false=>
   rw[hP,if_neg (by simp)]at h5
   exact iA (aD h5.2) ⟨rfl,h4⟩
  | true=>
   rw[hP,if_pos rfl]at h5;refine uB (tF (by omega)) (sC ?_)
   rw[q44,znh hp x 1 t2 _ hP hfit (h2.mono h4) (h4 _ _ h3) ((hr0.mono h1).mono h4),sA]
   exact lA rfl (uC (lA rfl (uC ⟨rfl,h4⟩)))
 rw[q29,hk,sA];exact lA rfl (uC (lA rfl (uC ⟨rfl,h1⟩)))
end Go.Proofs
namespace Go.Proofs
open Go Go.Am
variable [fC]
variable {t tf:Tr rA}
mutual
/-- the number of parts -/
def iE:jA->Nat
 | .mk _ _ _ args=>1+kK args
def kK:List jA->Nat
 | []=>0
 | x::l=>iE x+kK l
end
mutual
theorem qU:∀(x:jA) (cs:List zA),x.fit->iE x<1000000000000000000->RD t x.d cs->lB yA F 23 [.agg cs] t=some (.int .i64 (iE x:Nat))
 | .mk op name v args,cs,hx,hn,h=>by
  obtain⟨a,b,c,rfl,ha,hb,hc⟩:=lK h
  simp only[jA.op,jA.name,jA.v,jA.args]at ha hb hc ⊢
  have hx':=hx
  unfold jA.fit at hx';have hn':=hn
  unfold iE at hn' ⊢
  refine oC.2 (w23 _ _ _ _ _ _ _ _ _ ?_)
  unfold t23;have hlen:=hc.len
  rw[yag]at hlen;refine lA hlen (uC (vD ?_))
  exact zbb args args 1 c 0 hc rfl hx'.2.2.2.2.2 hx'.2.2.2.2.1 hn'
theorem zbb:∀(l args:List jA) (n:Nat) (c:zA) (i:Nat),dA t 9 (args.map jA.d) c->args.drop i=l->jA.fits l->args.length<dC->n+kK l<1000000000000000000->jp 23 2 [.int .i64 (n:Int),c,.int .i64 (args.length:Int),.int .i64 (i:Int)] t (fun v t'=>v=.int .i64 ((n+kK l:Nat):Int)/\t'=t)
 | [],args,n,c,i,hc,hd,hok,hsz,hn=>by
  have:=zed hd
  refine j23_2 _ _ _ _ ?_
  unfold z65;refine uB (nLt (by omega)) ?_
  exact⟨rfl,rfl⟩
 | x::l,args,n,c,i,hc,hd,hok,hsz,hn=>by
  obtain⟨h1,h2,h3⟩:=mW hd
  unfold dC at hsz;have hok':=hok
  unfold jA.fits at hok';unfold kK at hn ⊢
  refine j23_2 _ _ _ _ ?_
  obtain⟨pb,po,cs,g1,g2,g3,g4,g5⟩:=gF.at z68 (by simp) hc (i:=i) (d:=x.d) (by simp[h1])
  unfold z65;refine iA (yLt (by omega)) (lA g1 (lC g2 ?_))
  rw[pK];refine oG (uK g5 x.zs) ?_
  have hmk:=g5.mk x.zs
  have hcs:[zA.int .u8 ((cellsOf cs).i 0),.str ((cellsOf cs).s 1),.int .u8 ((cellsOf cs).i 2),.bool ((cellsOf cs).b 3),(cellsOf cs).v 4,.bool ((cellsOf cs).b 5),(cellsOf cs).v 6,.int .i64 ((cellsOf cs).i 7),(cellsOf cs).v 8]=cs:=hmk
  rw[hcs];refine iA g5.all (sC ?_)
  rw[q23,qU x cs hok'.1 (by omega) g5,sA]
  refine uC (vD ?_)
  rw[wrap_i64 (n:=(n:Int)+(iE x:Nat)) (by omega) (by omega),wrap_i64 (by omega) (by omega),show(i:Int)+1=((i+1:Nat):Int) by omega,show(n:Int)+(iE x:Nat)=((n+iE x:Nat):Int) by omega]
  have:=zbb l args (n+iE x) c (i+1) hc h2 hok'.2 hsz (by omega)
  rw[Nat.add_assoc]at this;exact this
end
def z7t:Nat->Nat
 | 0=>0
 | k+1=>1+3*z7t k
mutual
theorem zka:∀(x:jA) (d:Nat),bE x d=true->iE x<=z7t (25-d)
 | .mk op name v args,d,h=>by
  obtain⟨h1,h2⟩:=zrq h
  have hone:=zrp h
  simp only[jA.args,jA.op]at h1 h2 hone;have hd:d<=24:=by
   unfold bE at h;simp only[yac,decide_eq_true_eq]at h;exact h.1.1
  have e:25-d=(25-(d+1))+1:=by omega
  have hPs:∀y∈args,bE y (d+1)=true:=by
   rcases h2 with e | h
   ·rw[hone e];intro y hy;cases hy
   ·exact h
  have:=zf8 args (d+1) hPs
  rw[e];unfold iE z7t;have:args.length*z7t (25-(d+1))<=3*z7t (25-(d+1)):=yaj _ h1
  omega
theorem zf8:∀(l:List jA) (d:Nat),(∀y∈l,bE y d=true)->kK l<=l.length*z7t (25-d)
 | [],_,_=>by unfold kK;omega
 | x::l,d,h=>by
  unfold kK;have h1:=zka x d (h x (.head _))
  have h2:=zf8 l d fun y hy=>h y (.tail _ hy)
  rw[yao,Nat.succ_mul];omega
end
theorem zf7{x:jA}(h:yO x=true):iE x=1:=by
 obtain⟨op,name,v,args⟩:=x
 unfold yO at h;simp only[jA.args,yac,decide_eq_true_eq]at h;have:args=[]:=ybd.1 (of_decide_eq_true h.2.2.1)
 subst this;unfold iE kK;rfl
theorem zc8{x:jA}(h:bE x 1=true):iE x<1000000000000000000:=by
 have:=zka x 1 h
 have e:z7t (25-1)=141214768240:=by decide
 omega
def sJ(p:fD)(x:jA)(k:Nat):Nat:=if (mG p x).2≠0 then(mG p x).2 else if (mG p x).1≠k then 142 else 0
def zP(p:fD)(x:wH)(d:iF):Nat:=if d.fact=true then 141 else if x.off=true then 0 else if sJ p x.when_ 1≠0 then sJ p x.when_ 1 else sJ p x.then_ d.kind
def kL(p:fD)(x:wH):Nat:=
 if aO x=false then 140
 else if x.to<=x.from_ then 144
 else if 200<iE x.when_\/200<iE x.then_ then 5
 else match z87 p.defs x.name with
  | none=>141
  | some d=>zP p x d
theorem el24:ElTy yA 24 56 24:=⟨⟨_,ty24,rfl,rfl⟩,⟨_,ty56,rfl,rfl,by decide,by decide⟩,fun y h=>by rw[ty56]at h;cases h;rfl⟩
theorem half0{c0 c1 c2 c3 c4 c5 c6 c7 c8 c9 d0 d1 d2 d3 d4 d5 d6 d7 d8 d9:zA}:cI yA 113 (.agg [c0,c1,c2,c3,c4,c5,c6,c7,c8,c9,d0,d1,d2,d3,d4,d5,d6,d7,d8,d9]) (.int .i64 0)=some (.agg [c0,c1,c2,c3,c4,c5,c6,c7,c8,c9]):=by kernel_rfl
theorem half1{c0 c1 c2 c3 c4 c5 c6 c7 c8 c9 d0 d1 d2 d3 d4 d5 d6 d7 d8 d9:zA}:cI yA 113 (.agg [c0,c1,c2,c3,c4,c5,c6,c7,c8,c9,d0,d1,d2,d3,d4,d5,d6,d7,d8,d9]) (.int .i64 1)=some (.agg [d0,d1,d2,d3,d4,d5,d6,d7,d8,d9]):=by kernel_rfl
abbrev z10h:List zA:=[(.int .u8 0),(.str []),(.int .u8 0),(.bool false),.nilslice,(.bool false),.nilslice,(.int .i64 0),.nilslice,(.int .u8 0)]
section
variable {p:fD}{b m:Nat}
theorem zy1{x:jA}{a c d:zA}{k:Nat}{K:T}{Q:vC}(hp:p.fit)(hP:bE x 1=true)(hfit:x.fit)(hC:yL t b m p)(hm:t.get m=some (.map (zD 64)))(hr:RD t x.d (oH x a c d))
  (hQ:sJ p x k≠0->Q (.int .i64 (sJ p x k:Nat)) t) (hK:sJ p x k=0->wp 34 K t Q) :
  wp 34 (.asG z10h (.agg (oH x a c d++[.int .u8 (k:Int)])) fun X1=>
 .ite (tC zA.one [(.int .u8 (X1.i 0)),(.str (X1.s 1)),(.int .u8 (X1.i 2)),(.bool (X1.b 3)),(X1.v 4),(.bool (X1.b 5)),(X1.v 6),(.int .i64 (X1.i 7)),(X1.v 8),(.int .u8 (X1.i 9))]) (.call 44 [.ptr b 0,(.agg [(.int .u8 (X1.i 0)),(.str (X1.s 1)),(.int .u8 (X1.i 2)),(.bool (X1.b 3)),(X1.v 4),(.bool (X1.b 5)),(X1.v 6),(.int .i64 (X1.i 7)),(X1.v 8)])] fun a2=>
 .opt (rB 0 a2) fun a3=>.asI .u8 a3 fun n4=>.opt (rB 1 a2) fun a5=>.asI .i64 a5 fun n6=>.ite (!mA n6 0)
 (.ret (.int .i64 n6))
 (.ite (!mA n4 (X1.i 9))
 (.ret (.int .i64 142))
 K)) .fail) t Q:=by
 obtain⟨a1,b1,c1,e1,ha,hb,hc⟩:=lK hr
 simp only[oH,List.cons.injEq,true_and,and_true]at e1;obtain⟨rfl,rfl,rfl⟩:=e1
 have hfz:xK z10h (oH x a c d++[.int .u8 (k:Int)])=true:=by
  have:=zd7 [(.int .u8 0),(.str []),(.int .u8 0),(.bool false),.nilslice,(.bool false),.nilslice,(.int .i64 0),.nilslice] [.int .u8 0] (oH x a c d) [.int .u8 (k:Int)] (by rw[<- x.zs];exact zd6 _ _ hr) rfl
  exact this
 have hone:tC zA.one (oH x a c d++[.int .u8 (k:Int)])=true:=by
  have:=hr.all
  rw[aG]at this ⊢
  rw[ycj,this];rfl
 refine oG (qN hfz) (iA hone (sC ?_))
 have hk:=znh (m:=m) hp x 1 t _ hP hfit hC hm hr
 have hk':lB yA F 44 [.ptr b 0,.agg [.int .u8 x.op,.str x.name,.int .u8 x.v.kind,.bool x.v.f.n.neg,a,.bool x.v.f.d.neg,c,.int .i64 x.v.i,d]] t=some (kdV (mG p x)):=hk
 rw[q44];show nD (lB yA F 44 [.ptr b 0,.agg [.int .u8 x.op,.str x.name,.int .u8 x.v.kind,.bool x.v.f.n.neg,a,.bool x.v.f.d.neg,c,.int .i64 x.v.i,d]] t) _
 rw[hk',sA];refine lA rfl (uC (lA rfl (uC ?_)))
 have neq:∀ {u w:Int},u≠w->(!mA u w)=true:=by
  intro u w h
  cases hq:mA u w with
  | true=>exact absurd (zH.1 hq) h
  | false=>rfl
 by_cases h1:(mG p x).2=0
 ·refine uB (by rw[aD (by omega)];simp) ?_
  show wp 34 (.ite (!mA ((mG p x).1:Nat) (k:Int)) _ _) t Q
  by_cases h2:(mG p x).1=k
  ·refine uB (by rw[aD (by omega)];simp) (hK ?_)
   unfold sJ;rw[if_neg (by omega),if_neg (by omega)]
  ·have e:sJ p x k=142:=by unfold sJ;rw[if_neg (by omega),if_pos h2]
   rw[e]at hQ;exact iA (neq (by omega)) (hQ (by omega))
 ·have e:sJ p x k=(mG p x).2:=by unfold sJ;rw[if_pos h1]
  rw[e]at hQ;exact iA (neq (by omega)) (hQ h1)
theorem ztz{x:wH}{cs:List zA}(hp:p.fit)(hfit:x.fit)(hC:yL t b m p)(hm:t.get m=some (.map (zD 64)))(hr:RD t x.d cs):lB yA F 34 [.ptr b 0,.agg cs] t=some (.int .i64 (kL p x:Nat)):=by
 obtain⟨a,b1,c,a',b',c',rfl,hw,ht⟩:=zj1 hr
 refine kJ ?_
 unfold oH;refine w34 _ _ _ _ _ _ _ _ _ _ _ _ _ _ _ _ _ _ _ _ _ _ _ _ _ ?_
 unfold t34;refine dF fun n hn _=>?_
 obtain⟨t1,e1,e2,e3,e4⟩:=lit1 (C:=yA) el24 (cs:=[.str x.name,.str x.label,.int .i64 x.from_,.int .i64 x.to,.int .i64 x.known,.bool x.off]++oH x.when_ a b1 c++oH x.then_ a' b' c') rfl (by decide) hn
 refine⟨_,_,e1,iA rfl (sC ?_)⟩
 show Wq yA F uJ 46 _ t1 _
 have hr1:=hr.mono e3
 have hrp:RD t1 (fD.d ⟨[120],[],[],[x]⟩) [.str [120],.nilslice,.nilslice,.slice n 0 1 1]:=by
  unfold fD.d;rw[wI];refine⟨[[.str [120]],[.nilslice],[.nilslice],[.slice n 0 1 1]],rfl,?_⟩
  have hnil:∀sz,RD t1 (.sl sz []) [zA.nilslice]:=fun sz=>nJ.2 ⟨_,rfl,[],.inl ⟨rfl,rfl⟩,gG.2 rfl⟩
  refine rE.2 ⟨_,_,rfl,aN.2 rfl,rE.2 ⟨_,_,rfl,hnil 3,rE.2 ⟨_,_,rfl,hnil 3,rE.2 ⟨_,_,rfl,nJ.2 ⟨_,rfl,[_],e2,rE.2 ⟨_,_,rfl,hr1,gG.2 rfl⟩⟩,gG.2 rfl⟩⟩⟩⟩
 have hpf:fD.fit ⟨[120],[],[],[x]⟩:=by
  have hb:dC=1125899906842624:=rfl
  refine⟨by rw[hb];show 1<_;omega,by rw[hb];show 0<_;omega,by rw[hb];show 0<_;omega,by rw[hb];show 1<_;omega,(fun d h=>by cases h),(fun d h=>by cases h),fun y hy=>?_⟩
  have:y=x:=yce.1 hy
  rw[this];exact hfit
 have hpp:ze4 ⟨[120],[],[],[x]⟩=aO x:=by
  have hN:tI [120]=true:=by kernel_rfl
  unfold ze4;simp[hN]
 rw[q46,zba hpf hrp,hpp,sA];refine pD ?_
 unfold kL;have vE:∀(k:Nat) (t':Tr rA),vB t t'->(fun v' t'=>v'=zA.int .i64 (k:Int)/\∀(b:Nat) (y:rA),t.get b=some y->t'.get b=some y) (zA.int .i64 (k:Int)) t':=fun k t' h=>⟨rfl,h⟩
 cases hcP:aO x with
 | false=>rw[if_pos rfl];exact iA rfl (vE 140 _ e3)
 | true=>
  rw[if_neg (by simp)]
  refine uB (by simp) ?_
  by_cases h1:x.to<=x.from_
  ·rw[if_pos h1];exact iA (yLe h1) (vE 144 _ e3)
  rw[if_neg h1];refine uB (nLe h1) ?_
  have hhalf:x.off=true/\yO x.when_=true/\yO x.then_=true\/x.off=false/\bE x.when_ 1=true/\bE x.then_ 1=true:=by
   unfold aO at hcP;simp only[yac]at hcP;have:=hcP.2.2.2.2.2
   cases ho:x.off with
   | true=>rw[ho,if_pos rfl,yac]at this;exact .inl ⟨rfl,this⟩
   | false=>rw[ho,if_neg (by simp),yac]at this;exact .inr ⟨rfl,this⟩
  have hpw:iE x.when_<1000000000000000000:=by
   rcases hhalf with⟨_,h,_⟩ | ⟨_,h,_⟩
   ·rw[zf7 h];omega
   ·exact zc8 h
  have hpt:iE x.then_<1000000000000000000:=by
   rcases hhalf with⟨_,_,h⟩ | ⟨_,_,h⟩
   ·rw[zf7 h];omega
   ·exact zc8 h
  have hfw:=hfit.2.2.2.2.2.1
  have hft:=hfit.2.2.2.2.2.2
  have pw:lB yA F 23 [.agg (oH x.when_ a b1 c)] t1=some (.int .i64 (iE x.when_:Nat)):=qU _ _ hfw hpw (hw.mono e3)
  have pt:lB yA F 23 [.agg (oH x.then_ a' b' c')] t1=some (.int .i64 (iE x.then_:Nat)):=qU _ _ hft hpt (ht.mono e3)
  refine sC ?_
  rw[q23];show nD (lB yA F 23 [.agg (oH x.when_ a b1 c)] t1) _
  rw[pw,sA];refine uC ?_
  by_cases h2:200<iE x.when_
  ·rw[if_pos (.inl h2)];exact iA (yLt (by omega)) (vE 5 _ e3)
  refine uB (nLt (by omega)) (sC ?_)
  rw[q23];show nD (lB yA F 23 [.agg (oH x.then_ a' b' c')] t1) _
  rw[pt,sA];refine uC ?_
  by_cases h3:200<iE x.then_
  ·rw[if_pos (.inr h3)];exact iA (yLt (by omega)) (vE 5 _ e3)
  rw[if_neg (by omega)]
  refine uB (nLt (by omega)) ?_
  have hC1:=hC.mono e3
  obtain⟨cp,k1,k2,k3,k4⟩:=hC1.plan
  obtain⟨u1,u2⟩:=zhw k1
  refine lA dE (lA zoa (lC k3 (oG u1 (dF fun bd hbd hbase=>?_))))
  obtain⟨t2,g1,g2,g3,g4⟩:=qS (C:=yA) z1d hbd
  refine⟨_,_,g1,sC ?_⟩
  rw[u2,q19,z6d hp (k1.mono g3),sA]
  have f1:qB yA 59 1 (.ptr bd 0)=some (.ptr bd 1):=by kernel_rfl
  have f2:qB yA 59 2 (.ptr bd 0)=some (.ptr bd 2):=by kernel_rfl
  cases hd:z87 p.defs x.name with
  | none=>
   refine lA rfl (oG (qN rfl) (lA rfl (pD (dF fun k _ _=>?_))))
   obtain⟨t3,m1,m2,m3⟩:=yV g2 hbase z1d rfl rfl (m:=[.str [],.int .u8 0,.bool false]) rfl rfl
   refine⟨_,_,m1 k,iA rfl (vE 141 _ fun c u hc=>?_)⟩
   have hc1:=e3 _ _ hc
   have:c≠bd:=fun e=>by rw[e,hbd]at hc1;cases hc1
   rw[m3 c this];exact g3 _ _ hc1
  | some d=>
   refine lA rfl (oG (qN rfl) (lA rfl (pD (dF fun k _ _=>?_))))
   obtain⟨t3,m1,m2,m3⟩:=yV g2 hbase z1d rfl rfl (m:=[.str d.name,.int .u8 d.kind,.bool d.fact]) rfl rfl
   have hle:vB t1 t3:=fun c u hc=>by
    have:c≠bd:=fun e=>by rw[e,hbd]at hc;cases hc
    rw[m3 c this];exact g3 _ _ hc
   have hle0:vB t t3:=e3.trans hle
   have ld1:oA yA 5 ⟨0,t3⟩ (.ptr bd 1)=some (.int .u8 (d.kind:Int)):=m2.load1 (j:=1) ty5 rfl rfl
   have ld2:oA yA 4 ⟨0,t3⟩ (.ptr bd 2)=some (.bool d.fact):=m2.load1 (j:=2) ty4 rfl rfl
   refine⟨_,_,m1 k,uB (by simp) (lA f2 (lC ld2 (pD ?_)))⟩
   show wp 34 _ t3 (fun v' t'=>v'=zA.int .i64 (zP p x d:Nat)/\∀(b:Nat) (y:rA),t.get b=some y->t'.get b=some y)
   have res:∀k:Nat,zP p x d=k->wp 34 (.ret (.int .i64 (k:Int))) t3 (fun v' t'=>v'=zA.int .i64 (zP p x d:Nat)/\∀(b:Nat) (y:rA),t.get b=some y->t'.get b=some y):=fun k h=>by rw[h];exact⟨rfl,hle0⟩
   cases hf:d.fact with
   | true=>exact iA rfl (res 141 (by unfold zP;rw[if_pos hf]))
   | false=>
    refine uB (by simp) ?_
    cases ho:x.off with
    | true=>exact iA rfl (res 0 (by unfold zP;rw[if_neg (by rw[hf];simp),if_pos ho]))
    | false=>
     have eD:zP p x d=if sJ p x.when_ 1≠0 then sJ p x.when_ 1 else sJ p x.then_ d.kind:=by unfold zP;rw[if_neg (by rw[hf];simp),if_neg (by rw[ho];simp)]
     rw[ho]at hhalf;simp only[yar,false_and,false_or,true_and]at hhalf;refine uB (by simp) (iA rfl (lA f1 (lC ld1 (uC (iA rfl (iA rfl (vD ?_)))))))
     have w1:vA .i64 (0+1)=1:=rfl
     have w2:vA .i64 (1+1)=2:=rfl
     have hC3:=hC.mono hle0
     have hm3:=hle0 _ _ hm
     refine z8a _ _ _ _ _ _ _ _ _ _ _ _ _ _ _ _ _ _ _ _ _ _ (iA rfl (lA half0 ?_))
     refine zy1 (k:=1) hp hhalf.1 hfw hC3 hm3 (hw.mono hle0) (fun h=>?_) fun h1=>vD ?_
     ·rw[eD,if_pos h];exact⟨rfl,hle0⟩
     rw[w1];refine z8a _ _ _ _ _ _ _ _ _ _ _ _ _ _ _ _ _ _ _ _ _ _ (iA rfl (lA half1 ?_))
     rw[eD,if_neg (by simpa using h1)]
     refine zy1 (k:=d.kind) hp hhalf.2 hft hC3 hm3 (ht.mono hle0) (fun h=>⟨rfl,hle0⟩) fun h=>vD ?_
     rw[w2];refine z8a _ _ _ _ _ _ _ _ _ _ _ _ _ _ _ _ _ _ _ _ _ _ (uB (by show ¬ (false=true);simp) ?_)
     rw[h];exact vE 0 _ hle0
end
theorem zk0{a b:List Nat}:bF (.str a) (.str b)=some (decide (a=b)):=by
 show some (zF a b)=_
 congr 1
 cases h:zF a b with
 | true=>rw[decide_eq_true ((dK _ _).1 h)]
 | false=>rw[decide_eq_false (fun e=>by rw[(dK _ _).2 e]at h;cases h)]
def wO(l:List (List Nat)):List (zA × zA):=l.map fun s=>(zA.str s,zA.bool true)
theorem zld{k:List Nat}:∀(l:List (List Nat)),cG (.str k) (wO l)=some (if k∈l then some (.bool true)else none)
 | []=>rfl
 | x::l=>by
  show ob (bF (.str k) (.str x)) (fun r=>bif r then some (some (zA.bool true))else cG (.str k) (wO l))=_
  rw[zk0,uA];by_cases h:k=x
  ·simp[h]
  ·rw[decide_eq_false h]
   show cG (.str k) (wO l)=_
   rw[zld l];simp[h]
theorem zhn{k:List Nat}:∀(l:List (List Nat)),k∉l->tG (.str k) (.bool true) (wO l)=some (wO (l++[k]))
 | [],_=>rfl
 | x::l,h=>by
  have h1:k≠x:=fun e=>h (e ▸ .head _)
  show ob (bF (.str k) (.str x)) (fun r=>bif r then some ((zA.str k,zA.bool true)::wO l)else ob (tG (.str k) (.bool true) (wO l)) fun l'=>some ((zA.str x,zA.bool true)::l'))=_
  rw[zk0,uA,decide_eq_false h1];show ob (tG (.str k) (.bool true) (wO l)) _=_
  rw[zhn l fun m=>h (.tail _ m),uA]
  rfl
def wL(seen:List (List Nat)):List (List Nat)->Bool
 | []=>false
 | x::l=>if x∈seen then true else wL (seen++[x]) l
theorem zqu{s:List Nat}:zM yA 140 (.str s)=true:=by kernel_rfl
theorem zkm{mb:Nat}{seen:List (List Nat)}(hm:t.get mb=some (.map (wO seen)))(s:List Nat):bG yA 140 ⟨0,t⟩ (.map mb) (.str s) false=some (.bool (decide (s∈seen))):=by
 have hf:=zld (k:=s) seen
 by_cases h:s∈seen
 ·rw[if_pos h]at hf
  rw[decide_eq_true h];exact zh7 zqu hm hf ty140 rfl ty4 false
 ·rw[if_neg h]at hf
  rw[decide_eq_false h];exact zkn zqu hm hf ty140 rfl ty4 false
theorem zez{l:List iF}{v:zA}{mb:Nat}{t0:Tr rA}(hr:dA t0 3 (l.map iF.d) v)(hlen:l.length<dC)(hb:yA.base<=mb)(hmb:t0.get mb=none):∀(k i:Nat) (seen:List (List Nat)) (t:Tr rA),i+k=l.length->vB t0 t->t.get mb=some (.map (wO seen)) →
  jp 47 2 [.func (.func 48) [] [],.map mb,v,.int .i64 (l.length:Int),.int .i64 (i:Int)] t (fun x t'=>x=.bool (wL seen ((l.drop i).map iF.name))/\vB t0 t'):=by
 unfold dC at hlen;intro k;induction k with
 | zero=>
  intro i seen t hi hle hm;refine j47_2 _ _ _ _ _ (uB (nLt (by omega)) ?_)
  rw[yau (by omega)]
  exact⟨rfl,hle⟩
 | succ k ih=>
  intro i seen t hi hle hm;have hlt:i<l.length:=by omega
  obtain⟨b0,off,cs,g1,g2,_,_,g5⟩:=gF.at sl22 (by simp) (hr.mono hle) (i:=i) (d:=l[i].d) (by simp[hlt])
  have hcs:=zwo g5
  subst hcs;have hcall:∀(R:vC),R (.str l[i].name) t->nD (oM (.func (.func 48) [] []) [.agg [.str l[i].name,.int .u8 l[i].kind,.bool l[i].fact]]) fun p=>Wq yA F uJ p.1 p.2 t R:=by
   intro R hR;show nD (some (48,[zA.agg [.str l[i].name,.int .u8 l[i].kind,.bool l[i].fact]])) _
   rw[sA];simp only[];have:lB yA F 48 [zA.agg [.str l[i].name,.int .u8 l[i].kind,.bool l[i].fact]] t=some (.str l[i].name):=oC.2 (w48 _ _ _ ⟨rfl,rfl⟩)
   rw[q48,this,sA];exact hR
  refine j47_2 _ _ _ _ _ (iA (yLt (by omega)) (lA g1 (lC g2 ?_)))
  rw[pK];refine oG (uK g5 (iF.zs _)) (iA rfl (hcall _ (cH (lC (zkm hm _) (pD ?_)))))
  rw[eI hlt,ybn];unfold wL;by_cases h:l[i].name∈seen
  ·rw[if_pos h,decide_eq_true h]
   exact iA rfl ⟨rfl,hle⟩
  ·rw[if_neg h,decide_eq_false h]
   refine uB (by simp) (hcall _ (cH (dF fun n _ _=>?_)))
   refine⟨_,_,zg9 zqu hb hm (zhn seen h),vD ?_⟩
   rw[wrap_i64 (by omega) (by omega),show(i:Int)+1=((i+1:Nat):Int) by omega]
   refine ih (i+1) (seen++[l[i].name]) _ (by omega) (fun c u hc=>?_) (by show(t.set mb _).get mb=_;rw[Tr.get_set,if_pos rfl])
   have:c≠mb:=fun e=>by rw[e,hmb]at hc;cases hc
   show(t.set mb _).get c=_
   rw[Tr.get_set,if_neg this];exact hle _ _ hc
theorem zvb{l:List iF}{v:zA}(hr:dA t 3 (l.map iF.d) v)(hlen:l.length<dC):lB yA F 47 [v,.func (.func 48) [] []] t=some (.bool (wL [] (l.map iF.name))):=by
 refine kJ (w47 _ _ ?_)
 unfold t47;refine dF fun mb hmb hb=>?_
 refine⟨.map mb,⟨mb+1,t.set mb (.map [])⟩,rfl,lA hr.len (uC (vD ?_))⟩
 rw[yag];exact zez hr hlen hb hmb l.length 0 [] (t.set mb (.map [])) (by omega) (uL hmb _).1 (by rw[Tr.get_set,if_pos rfl];rfl)
theorem zey{l:List aF}{v:zA}{mb:Nat}{t0:Tr rA}(hr:dA t0 3 (l.map aF.d) v)(hlen:l.length<dC)(hb:yA.base<=mb)(hmb:t0.get mb=none):∀(k i:Nat) (seen:List (List Nat)) (t:Tr rA),i+k=l.length->vB t0 t->t.get mb=some (.map (wO seen)) →
  jp 49 2 [.func (.func 50) [] [],.map mb,v,.int .i64 (l.length:Int),.int .i64 (i:Int)] t (fun x t'=>x=.bool (wL seen ((l.drop i).map aF.name))/\vB t0 t'):=by
 unfold dC at hlen;intro k;induction k with
 | zero=>
  intro i seen t hi hle hm;refine j49_2 _ _ _ _ _ (uB (nLt (by omega)) ?_)
  rw[yau (by omega)]
  exact⟨rfl,hle⟩
 | succ k ih=>
  intro i seen t hi hle hm;have hlt:i<l.length:=by omega
  obtain⟨b0,off,cs,g1,g2,_,_,g5⟩:=gF.at sl23 (by simp) (hr.mono hle) (i:=i) (d:=l[i].d) (by simp[hlt])
  have g50:=g5
  obtain⟨a,rfl,ha⟩:=zbw g5
  have hone:tC zA.one [.str l[i].name,.bool l[i].two,a]=true:=g50.all
  have hcall:∀(R:vC),R (.str l[i].name) t->nD (oM (.func (.func 50) [] []) [.agg [.str l[i].name,.bool l[i].two,a]]) fun p=>Wq yA F uJ p.1 p.2 t R:=by
   intro R hR;show nD (some (50,[zA.agg [.str l[i].name,.bool l[i].two,a]])) _
   rw[sA];simp only[];have:lB yA F 50 [zA.agg [.str l[i].name,.bool l[i].two,a]] t=some (.str l[i].name):=oC.2 (w50 _ _ _ ⟨rfl,rfl⟩)
   rw[q50,this,sA];exact hR
  refine j49_2 _ _ _ _ _ (iA (yLt (by omega)) (lA g1 (lC g2 ?_)))
  rw[pK];refine oG (uK g50 (aF.zs _)) (iA hone (hcall _ (cH (lC (zkm hm _) (pD ?_)))))
  rw[eI hlt,ybn];unfold wL;by_cases h:l[i].name∈seen
  ·rw[if_pos h,decide_eq_true h]
   exact iA rfl ⟨rfl,hle⟩
  ·rw[if_neg h,decide_eq_false h]
   refine uB (by simp) (hcall _ (cH (dF fun n _ _=>?_)))
   refine⟨_,_,zg9 zqu hb hm (zhn seen h),vD ?_⟩
   rw[wrap_i64 (by omega) (by omega),show(i:Int)+1=((i+1:Nat):Int) by omega]
   refine ih (i+1) (seen++[l[i].name]) _ (by omega) (fun c u hc=>?_) (by show(t.set mb _).get mb=_;rw[Tr.get_set,if_pos rfl])
   have:c≠mb:=fun e=>by rw[e,hmb]at hc;cases hc
   show(t.set mb _).get c=_
   rw[Tr.get_set,if_neg this];exact hle _ _ hc
theorem zva{l:List aF}{v:zA}(hr:dA t 3 (l.map aF.d) v)(hlen:l.length<dC):lB yA F 49 [v,.func (.func 50) [] []] t=some (.bool (wL [] (l.map aF.name))):=by
 refine kJ (w49 _ _ ?_)
 unfold t49;refine dF fun mb hmb hb=>?_
 refine⟨.map mb,⟨mb+1,t.set mb (.map [])⟩,rfl,lA hr.len (uC (vD ?_))⟩
 rw[yag];exact zey hr hlen hb hmb l.length 0 [] (t.set mb (.map [])) (by omega) (uL hmb _).1 (by rw[Tr.get_set,if_pos rfl];rfl)
end Go.Proofs
namespace Go.Proofs
open Go Go.Am
variable [fC]
variable {t tf:Tr rA}
def zh6(p:fD):Bool:=p.tables.any fun x=>decide (400<x.rows.length)
def znu(p:fD):Bool:=decide (64<p.defs.length)||(decide (16<p.tables.length)||(decide (400<p.clauses.length)||zh6 p))
def vS(p:fD):Nat:=
 if ze4 ⟨p.name,p.defs,p.tables,[]⟩=false then 140 else if znu p=true then 5 else if wL [] (p.defs.map iF.name)=true then 143 else if wL [] (p.tables.map aF.name)=true then 143 else 0
theorem nilR{sz:Nat}:dA t sz [] .nilslice:=⟨[],.inl ⟨rfl,rfl⟩,gG.2 rfl⟩
theorem znf{p:fD}{a b c:zA}(ha:dA t 3 (p.defs.map iF.d) a)(hb:dA t 3 (p.tables.map aF.d) b)(hc:dA t 24 (p.clauses.map wH.d) c):RD t p.d [.str p.name,a,b,c]:=by
 unfold fD.d;rw[wI];exact⟨[[.str p.name],[a],[b],[c]],rfl,rE.2 ⟨_,_,rfl,aN.2 rfl,rE.2 ⟨_,_,rfl,nJ.2 ⟨_,rfl,ha⟩,rE.2 ⟨_,_,rfl,nJ.2 ⟨_,rfl,hb⟩,rE.2 ⟨_,_,rfl,nJ.2 ⟨_,rfl,hc⟩,gG.2 rfl⟩⟩⟩⟩⟩
theorem zls{p:fD}{cs:List zA}(hp:p.fit)(hr:RD t p.d cs):lB yA F 33 [.agg cs] t=some (.int .i64 (vS p:Nat)):=by
 have hr0:=hr
 obtain⟨a,b,c,rfl,ha,hb,hc⟩:=nQ hr
 have hlen:=hp.ntables
 unfold dC at hlen;refine oC.2 (w33 _ _ _ _ ?_)
 unfold t33;refine iA ?_ (sC ?_)
 ·rw[aG];simp only[ybh,ybl,ha.one,hb.one];rfl
 have hpf:fD.fit ⟨p.name,p.defs,p.tables,[]⟩:=⟨hp.name,hp.ndefs,hp.ntables,by show 0<dC;unfold dC;omega,hp.defs,hp.tables,fun d h=>by cases h⟩
 have hrd:RD t (fD.d ⟨p.name,p.defs,p.tables,[]⟩) [.str p.name,a,b,.nilslice]:=znf (p:=⟨p.name,p.defs,p.tables,[]⟩) ha hb nilR
 rw[q46,zba hpf hrd,sA];refine pD ?_
 unfold vS
 cases hP:ze4 ⟨p.name,p.defs,p.tables,[]⟩with
 | false=>rw[if_pos rfl];exact iA rfl ⟨rfl,rfl⟩
 | true=>
  rw[if_neg (by simp)]
  have tl:=hb.len
  rw[yag]at tl;have dl:=ha.len
  rw[yag]at dl;have cl:=hc.len
  rw[yag]at cl;have loop:∀(k i:Nat) (r:Bool),i+k=p.tables.length->znu p=(r||(p.tables.drop i).any fun x=>decide (400<x.rows.length)) →
    jp 33 2 [.bool r,b,.int .i64 (p.tables.length:Int),.int .i64 (i:Int),.str p.name,a,b,c] t (fun x t'=>x=.int .i64 ((if znu p=true then 5 else if wL [] (p.defs.map iF.name)=true then 143 else if wL [] (p.tables.map aF.name)=true then 143 else 0:Nat):Int)/\t'=t):=by
   intro k;induction k with
   | zero=>
    intro i r hi hm;rw[yau (by omega)]at hm
    simp only[List.any_nil,Bool.or_false]at hm;refine j33_2 _ _ _ _ _ _ _ _ (uB (nLt (by omega)) ?_)
    rw[hm]
    cases r with
    | true=>rw[if_pos rfl];exact iA rfl ⟨rfl,rfl⟩
    | false=>
     rw[if_neg (by simp)]
     refine uB (by simp) (sC ?_)
     rw[q47,zvb ha hp.ndefs,sA];refine pD ?_
     cases h1:wL [] (p.defs.map iF.name)with
     | true=>rw[if_pos rfl];exact iA rfl ⟨rfl,rfl⟩
     | false=>
      rw[if_neg (by simp)]
      refine uB (by simp) (sC ?_)
      rw[q49,zva hb hp.ntables,sA];refine pD ?_
      cases h2:wL [] (p.tables.map aF.name)with
      | true=>rw[if_pos rfl];exact iA rfl ⟨rfl,rfl⟩
      | false=>rw[if_neg (by simp)];exact uB (by simp) ⟨rfl,rfl⟩
   | succ k ih=>
    intro i r hi hm;have hlt:i<p.tables.length:=by omega
    obtain⟨b0,off,cs,g1,g2,_,_,g5⟩:=gF.at sl23 (by simp) hb (i:=i) (d:=p.tables[i].d) (by simp[hlt])
    have g50:=g5
    obtain⟨rv,rfl,hrv⟩:=zbw g5
    have hone:tC zA.one [.str p.tables[i].name,.bool p.tables[i].two,rv]=true:=g50.all
    have rl:=hrv.len
    rw[yag]at rl;rw[eI hlt,List.any_cons]at hm;refine j33_2 _ _ _ _ _ _ _ _ (iA (yLt (by omega)) (lA g1 (lC g2 ?_)))
    rw[pK];refine oG (uK g50 (aF.zs _)) (iA hone ?_)
    have hw:vA .i64 ((i:Int)+1)=((i+1:Nat):Int):=by rw[wrap_i64 (by omega) (by omega)];omega
    cases r with
    | true=>
     refine iA rfl (vD ?_)
     rw[hw];exact ih (i+1) true (by omega) (by rw[hm];simp)
    | false=>
     refine uB (by simp) (lA rl (uC (vD ?_)))
     rw[hw];have e:dB 400 ((p.tables[i].rows.length:Nat):Int)=decide (400<p.tables[i].rows.length):=by rw[zyx];congr 1;exact propext (by omega)
     rw[e];exact ih (i+1) _ (by omega) (by rw[hm];simp)
  refine uB (by simp) (lA dl (uC ?_))
  by_cases h1:64<p.defs.length
  ·refine iA (yLt (by omega)) (lA tl (uC (vD (loop p.tables.length 0 true (by omega) ?_))))
   unfold znu;simp[h1]
  refine uB (nLt (by omega)) (lA tl (uC ?_))
  by_cases h2:16<p.tables.length
  ·refine iA (yLt (by omega)) (lA tl (uC (vD (loop p.tables.length 0 true (by omega) ?_))))
   unfold znu;simp[h2]
  refine uB (nLt (by omega)) (lA cl (uC (lA tl (uC (vD ?_)))))
  have e:dB 400 ((p.clauses.length:Nat):Int)=decide (400<p.clauses.length):=by rw[zyx];congr 1;exact propext (by omega)
  rw[e];refine loop p.tables.length 0 _ (by omega) ?_
  unfold znu zh6;simp[h1,h2]
def sN(p:fD):List wH->Nat->Nat × Nat
 | [],_=>(0,0)
 | x::l,i=>if kL p x≠0 then(i,kL p x)else sN p l (i+1)
def zrk(p:fD):Int × Nat:=if vS p≠0 then(-1,vS p)else((sN p p.clauses 0).1,(sN p p.clauses 0).2)
def chV (r:Int × Nat):zA:=.tup [.int .i64 r.1,.int .i64 (r.2:Nat)]
theorem z4d{p:fD}{cs:List zA}(hp:p.fit)(hr:RD t p.d cs):lB yA F 16 [.agg cs] t=some (chV (zrk p)):=by
 have hr0:=hr
 obtain⟨a,b,c,rfl,ha,hb,hc⟩:=nQ hr
 have hlen:=hp.nclauses
 unfold dC at hlen;refine kJ (w16 _ _ _ _ ?_)
 unfold t16;refine sC ?_
 rw[q33,zls hp hr0,sA];refine uC ?_
 unfold zrk;by_cases h:vS p=0
 ·rw[if_neg (by omega)]
  refine uB (by rw[aD (by omega)];simp) (sC ?_)
  rw[q28];refine fZ hr0 fun cb m t1 h1 h2 h3=>?_
  have cl:=hc.len
  rw[yag]at cl;refine lA cl (uC (vD ?_))
  have loop:∀(k i:Nat),i+k=p.clauses.length->jp 16 2 [.ptr cb 0,c,.int .i64 (p.clauses.length:Int),.int .i64 (i:Int)] t1 (fun x t'=>x=chV (((sN p (p.clauses.drop i) i).1:Int),(sN p (p.clauses.drop i) i).2)/\∀b y,t.get b=some y->t'.get b=some y):=by
   intro k;induction k with
   | zero=>
    intro i hi;refine j16_2 _ _ _ _ (uB (nLt (by omega)) ?_)
    rw[yau (by omega)]
    exact⟨rfl,h1⟩
   | succ k ih=>
    intro i hi;have hlt:i<p.clauses.length:=by omega
    have hmem:p.clauses[i]∈p.clauses:=ybk hlt
    obtain⟨b0,off,cs,g1,g2,_,_,g5⟩:=gF.at sl24 (by simp) (hc.mono h1) (i:=i) (d:=p.clauses[i].d) (by simp[hlt])
    refine j16_2 _ _ _ _ (iA (yLt (by omega)) (lA g1 (lC g2 ?_)))
    rw[pK];refine oG (uK g5 (wH.zs _)) ?_
    have hmk:=g5.mk (wH.zs p.clauses[i])
    refine iA ?_ (sC ?_)
    ·show tC zA.one (cM [(.str []),(.str []),(.int .i64 0),(.int .i64 0),(.int .i64 0),(.bool false),(.int .u8 0),(.str []),(.int .u8 0),(.bool false),.nilslice,(.bool false),.nilslice,(.int .i64 0),.nilslice,(.int .u8 0),(.str []),(.int .u8 0),(.bool false),.nilslice,(.bool false),.nilslice,(.int .i64 0),.nilslice] (cellsOf cs) 0)=true
     rw[hmk];exact g5.all
    ·show Wq yA F uJ 34 [.ptr cb 0,.agg (cM [(.str []),(.str []),(.int .i64 0),(.int .i64 0),(.int .i64 0),(.bool false),(.int .u8 0),(.str []),(.int .u8 0),(.bool false),.nilslice,(.bool false),.nilslice,(.int .i64 0),.nilslice,(.int .u8 0),(.str []),(.int .u8 0),(.bool false),.nilslice,(.bool false),.nilslice,(.int .i64 0),.nilslice] (cellsOf cs) 0)] t1 _
     rw[hmk,q34,ztz hp (hp.clauses _ hmem) h2 h3 g5,sA]
     refine uC ?_
     rw[eI hlt];unfold sN;by_cases he:kL p p.clauses[i]=0
     ·rw[if_neg (by omega)]
      refine uB (by rw[aD (by omega)];simp) (vD ?_)
      rw[wrap_i64 (by omega) (by omega),show(i:Int)+1=((i+1:Nat):Int) by omega]
      exact ih (i+1) (by omega)
     ·rw[if_pos he]
      refine iA ?_ ⟨rfl,h1⟩
      cases hq:mA ((kL p p.clauses[i]:Nat):Int) 0 with
      | true=>exact absurd (zH.1 hq) (by omega)
      | false=>rfl
  exact loop p.clauses.length 0 (by omega)
 ·rw[if_pos h]
  refine iA ?_ ⟨rfl,fun _ _ h=>h⟩
  cases hq:mA ((vS p:Nat):Int) 0 with
  | true=>exact absurd (zH.1 hq) (by omega)
  | false=>rfl
end Go.Proofs
namespace Go.Proofs
open Go Go.Am
variable [fC]
variable {t:Tr rA}
theorem pv36{f:wF}{u v:zA}(h1:dA t 1 (kE f.n.limbs) u)(h2:dA t 1 (kE f.d.limbs) v)(hf:f.ok):lB yA F 32 [.agg [.bool f.n.neg,u,.bool f.d.neg,v]] t=some (.int .i64 (oR f:Nat)):=by
 have hs:=zZ hf
 refine oC.2 (w32 _ _ _ _ ?_)
 unfold oR at hs ⊢
 simp (disch:=omega) only[t32,pA,h1.len,h2.len,sA,oB,lW,wrap_i64]
 simp
mutual
theorem pv37:∀(x:jA) (left:Int) (cs:List zA),x.ok -> -9007199254740992<=left->left<=9007199254740992->RD t x.d cs->lB yA F 22 [.agg cs,.int .i64 left] t=some (.int .i64 (gL x left))
 | .mk op name v args,left,cs,hx,hl1,hl2,h=>by
  obtain⟨a,b,c,rfl,ha,hb,hc⟩:=lK h
  simp only[jA.op,jA.name,jA.v,jA.args]at ha hb hc ⊢
  have hx':=hx
  unfold jA.ok at hx';have hf:=zZ hx'.2.1
  have hn:=hx'.1
  unfold dC at hn;refine oC.2 (w22 _ _ _ _ _ _ _ _ _ _ ?_)
  simp (disch:=omega) only[t22,pA,q32,pv36 ha hb hx'.2.1,sA,oB,zps,zbv,if_true,oO,wrap_i64,Int.tdiv_eq_ediv_of_nonneg]
  unfold gL;exact z5k args args left _ op name v _ _ c 0 hc rfl hx'.2.2.2 hx'.2.2.1 (by omega) hl1 hl2 (by omega)
theorem z5k:∀(l args:List jA) (left n:Int) (op:Nat) (name:List Nat) (v:xH) (a b c:zA) (i:Nat),dA t 9 (args.map jA.d) c->args.drop i=l->jA.oks l->args.length<dC->0<=n -> -9007199254740992<=left->left<=9007199254740992->n<=27021597764222976 →
  jp 22 2 [.int .i64 left,.int .i64 n,.int .i64 i,.int .u8 op,.str name,.int .u8 v.kind,.bool v.f.n.neg,a,.bool v.f.d.neg,b,.int .i64 v.i,c] t (fun v' t'=>v'=.int .i64 (fM l left n)/\t'=t)
 | [],args,left,n,op,name,v,a,b,c,i,hc,hd,hok,hsz,hn,hl1,hl2,hn2=>by
  have:=zed hd
  refine j22_2 _ _ _ _ _ _ _ _ _ _ _ _ ?_
  simp only[z66,pA,hc.len,sA,oB,yag,cD];rw[if_neg (by omega)]
  unfold fM;simp
 | x::l,args,left,n,op,name,v,a,b,c,i,hc,hd,hok,hsz,hn,hl1,hl2,hn2=>by
  obtain⟨h1,h2,h3⟩:=mW hd
  unfold dC at hsz;have hok':=hok
  unfold jA.oks at hok';refine j22_2 _ _ _ _ _ _ _ _ _ _ _ _ ?_
  obtain⟨pb,po,cs,g1,g2,g3,g4,g5⟩:=gF.at z68 (by simp) hc (i:=i) (d:=x.d) (by simp[h1])
  simp only[z66,pA,hc.len,sA,oB,yag,cD,iG,g1,g2,pK];rw[if_pos (by omega)]
  unfold fM;split
  ·rename_i hle
   obtain⟨a1,b1,c1,rfl,ha1,hb1,hc1⟩:=lK g5
   have hs:=yZ x (left-n) hok'.1
   rw[uK g5 x.zs];simp only[sA,cellsOf,z3b,z67,zej,zr3];simp (disch:=omega) only[q22,yaa,yab,wrap_i64]
   rw[pv37 x (left-n) _ hok'.1 (by omega) (by omega) g5]
   simp (disch:=omega) only[sA,oB,wrap_i64]
   have:=z5k l args left (n+gL x (left-n)) op name v a b c (i+1) hc h2 hok'.2 hsz (by omega) hl1 hl2 (by omega)
   rw[show((i:Int)+1)=((i+1:Nat):Int) by omega]
   exact this
  ·simp
end
end Go.Proofs
namespace Go.Proofs
open Go Go.Am
variable [fC]
variable {t tf:Tr rA}
theorem zkh{p q:fD}(h1:p.defs=q.defs)(h2:p.tables=q.tables){op:Nat}{name:List Nat}{n:Nat}:qL p op name n=qL q op name n:=by unfold qL;rw[h1,h2]
mutual
/-- the kind hangs on the declarations alone -/
theorem zdn{p q:fD}(h1:p.defs=q.defs)(h2:p.tables=q.tables):∀(x:jA),mG p x=mG q x
 | .mk op name v args=>by
  unfold mG;rw[zbf h1 h2 args];unfold zk3 opK;simp only[zkh h1 h2]
theorem zbf{p q:fD}(h1:p.defs=q.defs)(h2:p.tables=q.tables):∀(l:List jA),wN p l=wN q l
 | []=>by unfold wN;rfl
 | x::l=>by
  unfold wN;rw[zdn h1 h2 x,zbf h1 h2 l]
end
def z6m:xH:=⟨0,⟨⟨false,[]⟩,⟨false,[]⟩⟩,0⟩
def notX (x:jA):jA:=.mk 17 [] z6m [x]
theorem z2p{op a b c k:Nat}(h:zh8 op a b c=some k):∃e∈zkz,e.op=op/\e.a=a/\e.b=b/\e.c=c/\e.k=k:=by
 unfold zh8 at h
 cases hf:zkz.find? fun x=>decide (op=x.op)&&(decide (a=x.a)&&(decide (b=x.b)&&(decide (c=x.c)&&true)))with
 | none=>rw[hf]at h;cases h
 | some e=>
  rw[hf]at h
  cases h;have:=List.find?_some hf
  simp only[yac,decide_eq_true_eq]at this;exact⟨e,List.mem_of_find?_eq_some hf,this.1.symm,this.2.1.symm,this.2.2.1.symm,this.2.2.2.1.symm,rfl⟩
theorem zqf{p:fD}{x:jA}(h:(mG p (notX x)).2=0):(mG p (notX x)).1=1:=by
 have key:∀r:Nat ⊕ List Nat,(zk3 p 17 [] 0 1 [] r).2=0->(∀e,r=.inl e->e≠0)->(zk3 p 17 [] 0 1 [] r).1=1:=by
  intro r h hr
  cases r with
  | inl e=>exact absurd h (hr e rfl)
  | inr ks=>
   have hn:qL p 17 [] 1=(0,true):=by
    unfold qL;rw[if_neg (by omega),if_neg (by omega),if_neg (by omega)]
   unfold zk3 opK at h ⊢
   simp only[hn]at h ⊢
   rw[if_neg (by simp),if_neg (by omega)]at h ⊢
   unfold fitK at h ⊢
   rw[if_neg (by omega)]at h ⊢
   cases hl:zh8 17 (([]++ks).getD 0 0) (([]++ks).getD 1 0) (([]++ks).getD 2 0)with
   | none=>rw[hl]at h;simp at h
   | some k=>
    simp only[if_neg (show ¬ (17:Nat)=21 by omega),if_neg (show ¬ (17:Nat)=22 by omega)]
    obtain⟨e,h1,h2,_,_,_,h6⟩:=z2p hl
    have:∀e∈zkz,e.op=17->e.k=1:=by decide
    show k=1
    rw[<- h6];exact this e h1 h2
 have hk:mG p (notX x)=zk3 p 17 [] 0 1 [] (wN p [x]):=by
  unfold notX mG;rfl
 rw[hk]at h ⊢
 refine key _ h fun e he=>?_
 unfold wN at he;by_cases h1:(mG p x).2=0
 ·rw[if_neg (by omega)]at he
  unfold wN at he
  cases he
 ·rw[if_pos h1]at he
  cases he;exact h1
def z38:iF:=⟨[97],1,false⟩
def yF (y:jA):wH:=⟨[97],[98],0,1,0,false,y,y⟩
def qF(l:List wH):fD:=⟨[112],[z38],[],l⟩
theorem checkA(y:jA):zrk (qF [yF y])=(0,kL (qF [yF y]) (yF y)):=by
 have h1:ze4 ⟨[112],[z38],[],[]⟩=true:=by
  have a1:tI [112]=true:=by kernel_rfl
  have a2:tI [97]=true:=by kernel_rfl
  unfold ze4 z86;simp[a1,z38,a2]
 have h2:vS (qF [yF y])=0:=by
  unfold vS;rw[if_neg (by show ¬ ze4 ⟨[112],[z38],[],[]⟩=false;rw[h1];simp),if_neg ?_,if_neg (by show ¬ (wL [] [[97]]=true);decide),if_neg (by show ¬ (wL [] []=true);decide)]
  unfold znu zh6 qF;simp
 unfold zrk;rw[if_neg (by omega)]
 by_cases h:kL (qF [yF y]) (yF y)=0
 ·have e:sN (qF [yF y]) (qF [yF y]).clauses 0=(0,0):=by
   show sN (qF [yF y]) [yF y] 0=_
   unfold sN;rw[if_neg (by omega)]
   unfold sN;rfl
  rw[e,h];rfl
 ·have e:sN (qF [yF y]) (qF [yF y]).clauses 0=(0,kL (qF [yF y]) (yF y)):=by
   show sN (qF [yF y]) [yF y] 0=_
   unfold sN;rw[if_pos h]
  rw[e];rfl
theorem zlr(y:jA):aO (yF y)=bE y 1:=by
 have a1:tI [97]=true:=by kernel_rfl
 have a2:tI [98]=true:=by kernel_rfl
 unfold aO yF zzw;simp[a1,a2]
theorem zw1{x:jA}:let y:=notX x;let f:=kL (qF [yF y]) (yF y);let k:=zib (qF []) y;
  (200<iE y->f=5\/f=140/\k.2=f)/\(iE y<=200->f=k.2/\(k.2≠0\/k.1=1)):=by
 intro y f k;have hk:∀l,mG (qF l) y=mG (qF []) y:=fun l=>zdn (p:=qF l) (q:=qF []) rfl rfl y
 cases hP:bE y 1 with
 | false=>
  have hf:f=140:=by
   show kL (qF [yF y]) (yF y)=140
   unfold kL;rw[if_pos (by rw[zlr,hP])]
  have hk:k=(0,140):=by
   show zib (qF []) y=_
   unfold zib;rw[hP,if_neg (by simp)]
  rw[hf,hk];exact⟨fun _=>.inr ⟨rfl,rfl⟩,fun _=>⟨rfl,.inl (by simp)⟩⟩
 | true=>
  have hf:f=(if 200<iE y\/200<iE y then 5 else zP (qF [yF y]) (yF y) z38):=by
   show kL (qF [yF y]) (yF y)=_
   unfold kL;rw[if_neg (by rw[zlr,hP];simp),if_neg (by show ¬ (1:Int)<=0;omega)]
   rfl
  have hkk:k=mG (qF []) y:=by
   show zib (qF []) y=_
   unfold zib;rw[hP,if_pos rfl]
  refine⟨fun h=>.inl (by rw[hf,if_pos (.inl h)]),fun h=>?_⟩
  rw[if_neg (by omega)]at hf
  have hD:zP (qF [yF y]) (yF y) z38=if sJ (qF [yF y]) y 1≠0 then sJ (qF [yF y]) y 1 else sJ (qF [yF y]) y 1:=by
   unfold zP;rw[if_neg (by show ¬ (false=true);simp),if_neg (by show ¬ (false=true);simp)]
   rfl
  have hH:sJ (qF [yF y]) y 1=k.2:=by
   unfold sJ;rw[hk,hkk];by_cases h0:(mG (qF []) y).2=0
   ·have:=zqf h0
    rw[if_neg (by omega),if_neg (by have:(mG (qF []) y).1=1:=this;omega),h0]
   ·rw[if_pos h0]
  rw[hf,hD,hH];refine⟨by split<;>rfl,?_⟩
  by_cases h0:k.2=0
  ·right
   rw[hkk]at h0 ⊢
   exact zqf h0
  ·exact .inl h0
mutual
theorem zfp:∀(x:jA) (left:Int),x.ok->gL x left<=left->(iE x:Int)<=gL x left
 | .mk op name v args,left,hok,h=>by
  unfold jA.ok at hok;unfold gL at h ⊢
  unfold iE;have h1:(1:Int)<=(oR v.f:Int):=by unfold oR;omega
  have h2:(0:Int)<=(name.length:Int) / 30:=Int.ediv_nonneg (by omega) (by omega)
  have:=zcv args left _ hok.2.2.2 (by omega) h
  omega
theorem zcv:∀(l:List jA) (left n:Int),jA.oks l->0<=n->fM l left n<=left->n+(kK l:Int)<=fM l left n
 | [],left,n,_,_,_=>by unfold fM kK;omega
 | x::l,left,n,hok,hn,h=>by
  unfold jA.oks at hok;unfold fM at h ⊢
  unfold kK;split at h
  ·rename_i hle
   rw[if_pos hle];have h1:=yZ x (left-n) hok.1
   have h2:=xZ l left (n+gL x (left-n)) hok.2 (by omega)
   have h3:=zcv l left (n+gL x (left-n)) hok.2 (by omega) h
   have h4:=zfp x (left-n) hok.1 (by omega)
   omega
  ·omega
end
theorem el34:ElTy yA 34 36 9:=⟨⟨_,ty34,rfl,rfl⟩,⟨_,ty36,rfl,rfl,by decide,by decide⟩,fun y h=>by rw[ty36]at h;cases h;rfl⟩
theorem el22d:ElTy yA 22 59 3:=⟨⟨_,ty22,rfl,rfl⟩,⟨_,z1d,rfl,rfl,by decide,by decide⟩,fun y h=>by rw[z1d]at h;cases h;rfl⟩
theorem zul:z6m.fit:=⟨by decide,⟨⟨by decide,by decide⟩,(fun x h=>by cases h),(fun x h=>by cases h)⟩,by decide,by decide⟩
theorem z7f{x:jA}{v:zA}(h:dA t 9 [x.d] v):RD t (notX x).d [.int .u8 17,.str [],.int .u8 0,.bool false,.nilslice,.bool false,.nilslice,.int .i64 0,v]:=by
 unfold notX jA.d;rw[jA.ds_eq,wI];have hw:RD t (pI.d ⟨false,[]⟩) [.bool false,.nilslice]:=by
  unfold pI.d;rw[wI];exact⟨[[.bool false],[.nilslice]],rfl,rE.2 ⟨_,_,rfl,tQ.2 rfl,rE.2 ⟨_,_,rfl,nJ.2 ⟨_,rfl,nilR⟩,gG.2 rfl⟩⟩⟩
 have hf:RD t (wF.dd ⟨⟨false,[]⟩,⟨false,[]⟩⟩) [.bool false,.nilslice,.bool false,.nilslice]:=by
  unfold wF.dd;rw[wI];exact⟨[[.bool false,.nilslice],[.bool false,.nilslice]],rfl,rE.2 ⟨_,_,rfl,hw,rE.2 ⟨_,_,rfl,hw,gG.2 rfl⟩⟩⟩
 have hv:RD t z6m.d [.int .u8 0,.bool false,.nilslice,.bool false,.nilslice,.int .i64 0]:=by
  unfold xH.d;rw[wI];exact⟨[[.int .u8 0],[.bool false,.nilslice,.bool false,.nilslice],[.int .i64 0]],rfl,rE.2 ⟨_,_,rfl,zL.2 rfl,rE.2 ⟨_,_,rfl,hf,rE.2 ⟨_,_,rfl,zL.2 rfl,gG.2 rfl⟩⟩⟩⟩
 exact⟨[[.int .u8 17],[.str []],[.int .u8 0,.bool false,.nilslice,.bool false,.nilslice,.int .i64 0],[v]],rfl,rE.2 ⟨_,_,rfl,zL.2 rfl,rE.2 ⟨_,_,rfl,aN.2 rfl,rE.2 ⟨_,_,rfl,hv,rE.2 ⟨_,_,rfl,nJ.2 ⟨_,rfl,h⟩,gG.2 rfl⟩⟩⟩⟩⟩
theorem z2l{x:jA}(h:x.fit):(notX x).fit:=by
 unfold notX jA.fit;exact⟨by omega,by unfold dC;simp,by simp,zul,by unfold dC;simp,by unfold jA.fits;exact⟨h,by unfold jA.fits;trivial⟩⟩
theorem rd_clA{y:jA}{cy:List zA}(h:RD t y.d cy):RD t (yF y).d ([.str [97],.str [98],.int .i64 0,.int .i64 1,.int .i64 0,.bool false]++cy++cy):=by
 unfold yF wH.d;rw[wI];refine⟨[[.str [97]],[.str [98]],[.int .i64 0],[.int .i64 1],[.int .i64 0],[.bool false],cy,cy],?_,rE.2 ⟨_,_,rfl,aN.2 rfl,rE.2 ⟨_,_,rfl,aN.2 rfl,rE.2 ⟨_,_,rfl,zL.2 rfl,rE.2 ⟨_,_,rfl,zL.2 rfl,rE.2 ⟨_,_,rfl,zL.2 rfl,rE.2 ⟨_,_,rfl,tQ.2 rfl,rE.2 ⟨_,_,rfl,h,rE.2 ⟨_,_,rfl,h,gG.2 rfl⟩⟩⟩⟩⟩⟩⟩⟩⟩
 simp
theorem zj8{l:List wH}(h:∀c∈l,c.fit)(hl:l.length<10):(qF l).fit:=by
 have hb:dC=1125899906842624:=rfl
 refine⟨by rw[hb];show 1<_;omega,by rw[hb];show 1<_;omega,by rw[hb];show 0<_;omega,by rw[hb];show l.length<_;omega,fun d hd=>?_,(fun d h=>by cases h),h⟩
 have:d=z38:=yce.1 hd
 rw[this];exact⟨by rw[hb];show 1<_;omega,by decide⟩
theorem z9c{y:jA}(h:y.fit):(yF y).fit:=by
 have hb:dC=1125899906842624:=rfl
 exact⟨by rw[hb];show 1<_;omega,by rw[hb];show 1<_;omega,⟨by show(-9223372036854775808:Int)<=0;omega,by show(0:Int)<9223372036854775808;omega⟩,⟨by show(-9223372036854775808:Int)<=1;omega,by show(1:Int)<9223372036854775808;omega⟩,⟨by show(-9223372036854775808:Int)<=0;omega,by show(0:Int)<9223372036854775808;omega⟩,h,h⟩
theorem zw2{x:jA}{a b c:zA}(hfit:x.fit)(hM:zJ t)(hW:nM t)(hsz:iE x<=400)(hr:RD t x.d (oH x a b c))(hc:dA t 9 (x.args.map jA.d) c) :
  jp 7 2 [.int .i64 (iE x:Nat),.int .i64 (x.args.length:Int),.int .u8 x.op,.str x.name,.int .u8 x.v.kind,.bool x.v.f.n.neg,a,.bool x.v.f.d.neg,b,.int .i64 x.v.i,c] t (fun v _=>v=.bool true):=by
 have hcl:=hc.len
 rw[yag]at hcl;refine j7_2 _ _ _ _ _ _ _ _ _ _ _ ?_
 unfold t7_2;refine lA hcl (uC (uB (nLt (by omega)) (dF fun n1 hn1 _=>?_)))
 obtain⟨t1,e1,e2,e3,e4⟩:=lit1 (C:=yA) el34 (cs:=oH x a b c) rfl (by decide) hn1
 refine⟨_,_,e1,iA rfl (iA rfl (sC ?_))⟩
 have p1:lB yA F 23 [.agg (oH x a b c)] t1=some (.int .i64 (iE x:Nat)):=qU x _ hfit (by omega) (hr.mono e3)
 rw[q23];show nD (lB yA F 23 [.agg (oH x a b c)] t1) _
 rw[p1,sA];have hy:RD t1 (notX x).d [.int .u8 17,.str [],.int .u8 0,.bool false,.nilslice,.bool false,.nilslice,.int .i64 0,.slice n1 0 1 1]:=z7f ⟨[_],e2,rE.2 ⟨_,_,rfl,hr.mono e3,gG.2 rfl⟩⟩
 have hyf:=z2l hfit
 have hyp:iE (notX x)=iE x+1:=by
  show 1+(iE x+0)=iE x+1
  omega
 refine uC (uB (by rw[aD rfl];simp) (sC ?_))
 rw[q23,qU (notX x) _ hyf (by omega) hy,sA,hyp]
 rw[wrap_i64 (n:=((iE x:Nat):Int)+1) (by omega) (by omega)]
 refine uC (uB (by rw[aD (by omega)];simp) (iA rfl (dF fun n2 hn2 _=>?_)))
 obtain⟨t2,f1,f2,f3,f4⟩:=lit1 (C:=yA) el22d (cs:=[.str [97],.int .u8 1,.bool false]) rfl (by decide) hn2
 have hda:dA t2 3 ([z38].map iF.d) (.slice n2 0 1 1):=by
  refine⟨[_],f2,rE.2 ⟨_,_,rfl,?_,gG.2 rfl⟩⟩
  unfold z38 iF.d;rw[wI];exact⟨[[.str [97]],[.int .u8 1],[.bool false]],rfl,rE.2 ⟨_,_,rfl,aN.2 rfl,rE.2 ⟨_,_,rfl,zL.2 rfl,rE.2 ⟨_,_,rfl,tQ.2 rfl,gG.2 rfl⟩⟩⟩⟩
 have hp0:RD t2 (qF []).d [.str [112],.slice n2 0 1 1,.nilslice,.nilslice]:=znf (p:=qF []) hda nilR nilR
 have hy2:=hy.mono f3
 have hk:=z77 (zj8 (l:=[]) (fun c h=>by cases h) (by simp)) hyf (hM.mono (e3.trans f3)) (hW.mono (e3.trans f3)) hp0 hy2
 refine⟨_,_,f1,iA rfl (iA rfl (sC ?_))⟩
 rw[q11,hk,sA];refine lA rfl (uC (lA rfl (uC (iA rfl (dF fun n3 hn3 _=>?_)))))
 obtain⟨t3,g1,g2,g3,g4⟩:=lit1 (C:=yA) el24 (cs:=[.str [97],.str [98],.int .i64 0,.int .i64 1,.int .i64 0,.bool false]++[.int .u8 17,.str [],.int .u8 0,.bool false,.nilslice,.bool false,.nilslice,.int .i64 0,.slice n1 0 1 1]++[.int .u8 17,.str [],.int .u8 0,.bool false,.nilslice,.bool false,.nilslice,.int .i64 0,.slice n1 0 1 1]) rfl (by decide) hn3
 have hcl':dA t3 24 ([yF (notX x)].map wH.d) (.slice n3 0 1 1):=⟨[_],g2,rE.2 ⟨_,_,rfl,rd_clA (hy2.mono g3),gG.2 rfl⟩⟩
 have hp1:RD t3 (qF [yF (notX x)]).d [.str [112],.slice n2 0 1 1,.nilslice,.slice n3 0 1 1]:=znf (p:=qF [yF (notX x)]) (hda.mono g3) nilR hcl'
 have hch:=z4d (zj8 (l:=[yF (notX x)]) (fun c h=>by rw[yce.1 h];exact z9c hyf) (by simp)) hp1
 refine⟨_,_,g1,iA rfl (sC ?_)⟩
 rw[q16,hch,sA,checkA];have law:=zw1 (x:=x)
 simp only[hyp]at law;generalize kL (qF [yF (notX x)]) (yF (notX x))=f at law
 generalize zib (qF []) (notX x)=k at law
 refine lA rfl (uC (lA rfl (uC (uB (by rw[aD rfl];simp) ?_))))
 show wp 7 (.ite (dB 200 (((iE x:Nat):Int)+1)) _ _) t3 _
 by_cases hbig:200<iE x+1
 ·refine iA (yLt (by omega)) ?_
  rcases law.1 hbig with h | ⟨h1,h2⟩
  ·exact iA (aD (by omega)) rfl
  ·refine uB (tF (by omega)) (iA (aD (by omega)) ?_)
   show zA.bool (mA (k.2:Int) (f:Int))=zA.bool true
   rw[aD (by omega)]
 ·obtain⟨h1,h2⟩:=law.2 (by omega)
  refine uB (nLt (by omega)) (iA (aD (by omega)) ?_)
  by_cases h0:k.2=0
  ·refine uB (by rw[aD (by omega)];simp) ?_
   show zA.bool (mA (k.1:Int) 1)=zA.bool true
   rw[aD (by omega)]
  ·refine iA ?_ rfl
   cases hq:mA (k.2:Int) 0 with
   | true=>exact absurd (zH.1 hq) (by omega)
   | false=>rfl
theorem zve{x:jA}{cs:List zA}(hfit:x.fit)(hM:zJ t)(hW:nM t)(hr:RD t x.d cs):Wc yA F 7 [.agg cs] t (fun v _=>v=.bool true):=by
 have hr0:=hr
 obtain⟨a,b,c,rfl,ha,hb,hc⟩:=lK hr
 have h9:lB yA F 9 [] t=some (.bool true):=zhs (g:=z2d) (by kernel_rfl) fun H=>rfl
 refine w7 _ _ _ _ _ _ _ _ _ ?_
 unfold t7;refine sC ?_
 rw[q9,h9,sA];refine pD (uB (by simp) (sC ?_))
 rw[q22,pv37 x 400 _ (jA.fit_ok hfit) (by omega) (by omega) hr0,sA]
 refine uC ?_
 by_cases hsz:400<gL x 400
 ·exact iA (yLt hsz) rfl
 have hp:=zfp x 400 (jA.fit_ok hfit) (by omega)
 refine uB (nLt hsz) (vD ?_)
 have hfs:jA.fits x.args:=by obtain⟨op,name,v,args⟩:=x;unfold jA.fit at hfit;exact hfit.2.2.2.2.2
 have hsum:∀l i,x.args.drop i=l->∀n:Nat,n+kK l=iE x->i<=x.args.length->jp 7 2 [.int .i64 (n:Int),.int .i64 (i:Int),.int .u8 x.op,.str x.name,.int .u8 x.v.kind,.bool x.v.f.n.neg,a,.bool x.v.f.d.neg,b,.int .i64 x.v.i,c] t (fun v _=>v=.bool true):=by
  intro l;induction l with
  | nil=>
   intro i hi n hn hle;have:=List.drop_eq_nil_iff.1 hi
   have e:i=x.args.length:=by omega
   subst e;unfold kK at hn;have e2:n=iE x:=by omega
   subst e2;exact zw2 hfit hM hW (by omega) hr0 hc
  | cons y l ih=>
   intro i hi n hn hle;obtain⟨h1,h2,h3⟩:=mW hi
   unfold kK at hn;have hm:y∈x.args:=ybw h1
   have hcl:=hc.len
   rw[yag]at hcl;have hal:x.args.length<dC:=by obtain⟨op,name,v,args⟩:=x;unfold jA.fit at hfit;exact hfit.2.2.2.2.1
   unfold dC at hal;refine j7_2 _ _ _ _ _ _ _ _ _ _ _ ?_
   unfold t7_2;obtain⟨pb,po,cs,g1,g2,g3,g4,g5⟩:=gF.at z68 (by simp) hc (i:=i) (d:=y.d) (by simp[h1])
   refine lA hcl (uC (iA (yLt (by omega)) (lA g1 (lC g2 ?_))))
   rw[pK];refine oG (uK g5 y.zs) ?_
   have hmk:=g5.mk y.zs
   have hcs:[zA.int .u8 ((cellsOf cs).i 0),.str ((cellsOf cs).s 1),.int .u8 ((cellsOf cs).i 2),.bool ((cellsOf cs).b 3),(cellsOf cs).v 4,.bool ((cellsOf cs).b 5),(cellsOf cs).v 6,.int .i64 ((cellsOf cs).i 7),(cellsOf cs).v 8]=cs:=hmk
   rw[hcs];refine sC ?_
   rw[q23,qU y cs (jA.fits_mem hfs y hm) (by omega) g5,sA]
   refine uC (vD ?_)
   rw[wrap_i64 (n:=(n:Int)+(iE y:Nat)) (by omega) (by omega),wrap_i64 (by omega) (by omega),show(i:Int)+1=((i+1:Nat):Int) by omega,show(n:Int)+(iE y:Nat)=((n+iE y:Nat):Int) by omega]
   exact ih (i+1) h2 (n+iE y) (by omega) (by omega)
 have h1:1+kK x.args=iE x:=by obtain⟨op,name,v,args⟩:=x;rfl
 exact hsum x.args 0 rfl 1 h1 (by omega)
end Go.Proofs
namespace Go.Am
open Go Go.RowKit
def zh0{α:Type}(f:Nat->Option α):Nat->Tr α
 | 0=>.leaf
 | n+1=>match f n with
  | some v=>(zh0 f n).set n v
  | none=>zh0 f n
theorem eO{α:Type}(f:Nat->Option α):∀(n a:Nat),(zh0 f n).get a=if a<n then f a else none:=by
 intro n;induction n with
 | zero=>intro a;rw[if_neg (by omega)];exact Tr.get_leaf _
 | succ n ih=>
  intro a;unfold zh0
  cases hf:f n with
  | some v=>
   simp only[];rw[Tr.get_set,ih];by_cases h:a=n
   ·subst h;rw[if_pos rfl,if_pos (by omega),hf]
   ·rw[if_neg h]
    by_cases h2:a<n
    ·rw[if_pos h2,if_pos (by omega)]
    ·rw[if_neg h2,if_neg (by omega)]
  | none=>
   simp only[];rw[ih];by_cases h:a=n
   ·subst h;rw[if_neg (by omega),if_pos (by omega),hf]
   ·by_cases h2:a<n
    ·rw[if_pos h2,if_pos (by omega)]
    ·rw[if_neg h2,if_neg (by omega)]
def zub (N:Nat):Value->Option zA
 | .bool b=>some (.bool b)
 | .int k n=>some (.int k n)
 | .string s=>some (.str (uE s))
 | .slice none 0 0=>some .nilslice
 | .slice (some _) 0 0=>some (.slice 0 0 0 0)
 | .slice (some ⟨b,off,none⟩) len cap=>if b<N then some (.slice (256+b) off len cap)else none
 | _=>none
def absB (N:Nat):Obj->Option rA
 | .cells cs _ _=>some (.cells (zh0 (fun j=>(cs[j]?).bind (zub N)) cs.size) cs.size none)
 | _=>none
def jH (w:World):Tr rA:=zh0 (fun a=>if a<256 then(w.heap[a]?).bind (absB w.heap.size)else(w.heap[a-256]?).bind (absB w.heap.size)) (256+w.heap.size)
def muW (w:World):Mu:=⟨fun a=>if a<256 then some ⟨a,true,0,0,true⟩else if a<256+w.heap.size then some ⟨a-256,true,0,0,true⟩else none,fun _=>none⟩
section
variable {w:World}
theorem zru{v:Value}{a:zA}(h:zub w.heap.size v=some a):wA (muW w) a v:=by
 unfold zub at h;split at h
 ·cases h;rw[wA]
 ·cases h;rw[wA]
 ·cases h;rw[wA];exact⟨_,rfl,rfl⟩
 ·cases h;rw[wA]
 ·cases h;rw[wA];exact .inr ⟨rfl,rfl,rfl,_,_,rfl,.inl ⟨rfl,rfl⟩⟩
 ·split at h
  ·rename_i hb
   cases h;rename_i b off len cap _;rw[wA];refine .inl ⟨⟨b,true,0,0,true⟩,cap,?_,rfl,yal _,fun _=>rfl,fun h=>by cases h⟩
   show(if 256+b<256 then some (⟨256+b,true,0,0,true⟩:BI)else if 256+b<256+w.heap.size then some ⟨256+b-256,true,0,0,true⟩else none)=_
   rw[if_neg (by omega),if_pos (by omega),show 256+b-256=b by omega]
  ·cases h
 ·cases h
theorem zrw{o:Obj}{x:rA}(h:absB w.heap.size o=some x)(b:Nat):vH (muW w) ⟨b,true,0,0,true⟩ x o/\x.asLoop=none/\x.asDeferred=none:=by
 cases o<;>first | (cases h;done) | skip
 rename_i cs elem fr
 cases h;refine⟨⟨cs,elem,fr,rfl,yal _,.inl rfl,fun j v hv=>?_,rfl⟩,rfl,rfl⟩
 rw[eO]at hv;split at hv
 case isFalse=>cases hv
 rename_i hj
 cases hc:cs[j]? with
 | none=>rw[hc]at hv;cases hv
 | some u=>
  rw[hc]at hv;exact⟨hj,u,rfl,zru hv⟩
theorem hrelW:aA (256+w.heap.size) w.heap.size (muW w) ⟨256+w.heap.size,jH w⟩ w:=by
 have hget:∀a x,(jH w).get a=some x->∃b o,b<w.heap.size/\w.heap[b]?=some o/\absB w.heap.size o=some x/\a<256+w.heap.size/\b=(if a<256 then a else a-256):=by
  intro a x hx;unfold jH at hx;rw[eO]at hx;split at hx
  case isFalse=>cases hx
  rename_i hlt;split at hx
  ·rename_i h
   cases ho:w.heap[a]? with
   | none=>rw[ho]at hx;cases hx
   | some o=>rw[ho]at hx;exact⟨a,o,(yaf.1 ho).1,ho,hx,hlt,by rw[if_pos h]⟩
  ·rename_i h
   cases ho:w.heap[a-256]? with
   | none=>rw[ho]at hx;cases hx
   | some o=>rw[ho]at hx;exact⟨a-256,o,(yaf.1 ho).1,ho,hx,hlt,by rw[if_neg h]⟩
 have hmu:∀a,(muW w) a=if a<256 then some ⟨a,true,0,0,true⟩else if a<256+w.heap.size then some ⟨a-256,true,0,0,true⟩else none:=fun _=>rfl
 have big:∀a,256+w.heap.size<=a->(muW w) a=none:=fun a h=>by rw[hmu,if_neg (by omega),if_neg (by omega)]
 have same:∀a x i,(jH w).get a=some x->(muW w) a=some i->∃o,w.heap[i.b]?=some o/\i.b<w.heap.size/\absB w.heap.size o=some x/\i=⟨i.b,true,0,0,true⟩:=by
  intro a x i hx hi;obtain⟨b,o,h1,h2,h3,h4,h5⟩:=hget a x hx
  rw[hmu]at hi;split at hi
  ·rename_i h
   cases hi;rw[if_pos h]at h5;subst h5;exact⟨o,h2,h1,h3,rfl⟩
  ·rename_i h
   rw[if_neg h]at h5;have hi:=ybj hi
   have hb:i.b=b:=by rw[<- hi,h5]
   refine⟨o,by rw[hb];exact h2,by rw[hb];exact h1,h3,by rw[<- hi]⟩
 refine⟨by omega,fun g hg=>by rw[hmu,if_pos hg],fun a x i _ hx hi=>?_,yal _,yal _,fun a ha=>⟨big a ha,?_⟩,fun a x i hx hi=>?_,fun a i ha hi=>?_,fun a b x y i j hx _ hi _ ha _ _=>?_,fun a x t h=>by cases h⟩
 ·obtain⟨o,_,h2,h3,_⟩:=same a x i hx hi
  exact⟨h2,(zrw h3 0).2⟩
 ·show(jH w).get a=none
  unfold jH;have ha:256+w.heap.size<=a:=ha
  rw[eO,if_neg (by omega)]
 ·obtain⟨o,h1,_,h3,h4⟩:=same a x i hx hi
  exact⟨o,h1,by rw[h4];exact(zrw h3 _).1⟩
 ·rw[big a ha]at hi;cases hi
 ·rw[big a ha]at hi;cases hi
end
end Go.Am
