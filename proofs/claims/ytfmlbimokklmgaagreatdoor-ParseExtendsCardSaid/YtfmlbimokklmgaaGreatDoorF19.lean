/- The parser: definitions, keys, rows, clauses. -/
import Derived.Test.YtfmlbimokklmgaaGreatDoorF18
set_option linter.all false
noncomputable section
set_option maxRecDepth 100000
namespace Go.Proofs
open Go Go.Am
variable [eC]
def rdDef(tf:Tr vA)(x:bF)(v:zA):Prop:=∃cs,v=.agg cs/\RD tf x.d cs
def rdRow(tf:Tr vA)(x:lG)(v:zA):Prop:=∃cs,v=.agg cs/\RD tf x.d cs
def rdCl (tf:Tr vA)(x:lE)(v:zA):Prop:=∃cs,v=.agg cs/\RD tf x.d cs
def def_rd{t:Tr vA}(x:bF):RD t x.d [.str x.name,.int .u8 (x.kind:Int),.bool x.fact]:=
 oI.2 ⟨[[.str x.name],[.int .u8 (x.kind:Int)],[.bool x.fact]],rfl,dC.2 ⟨_,_,rfl,pK.2 rfl,dC.2 ⟨_,_,rfl,aJ.2 rfl,dC.2 ⟨_,_,rfl,dU.2 rfl,wF.2 rfl⟩⟩⟩⟩
def zen{t:Tr vA}{a b k:Int}{f:vH}{cs:List zA}(h:RD t f.dd cs):RD t (lG.d ⟨a,b,k,f⟩) ([.int .i64 a,.int .i64 b,.int .i64 k]++cs):=
 oI.2 ⟨[[.int .i64 a],[.int .i64 b],[.int .i64 k],cs],by simp,dC.2 ⟨_,_,rfl,aJ.2 rfl,dC.2 ⟨_,_,rfl,aJ.2 rfl,dC.2 ⟨_,_,rfl,aJ.2 rfl,dC.2 ⟨_,_,rfl,h,wF.2 rfl⟩⟩⟩⟩⟩
def MC{t:Tr vA}{a b:List Nat}{f u k:Int}{o:Bool}{x y:fA}{cx cy:List zA}(hx:RD t x.d cx)(hy:RD t y.d cy):RD t (lE.d ⟨a,b,f,u,k,o,x,y⟩) ([.str a,.str b,.int .i64 f,.int .i64 u,.int .i64 k,.bool o]++(cx++cy)):=
 oI.2 ⟨[[.str a],[.str b],[.int .i64 f],[.int .i64 u],[.int .i64 k],[.bool o],cx,cy],by simp,dC.2 ⟨_,_,rfl,pK.2 rfl,dC.2 ⟨_,_,rfl,pK.2 rfl,dC.2 ⟨_,_,rfl,aJ.2 rfl,dC.2 ⟨_,_,rfl,aJ.2 rfl,dC.2 ⟨_,_,rfl,aJ.2 rfl,dC.2 ⟨_,_,rfl,dU.2 rfl,dC.2 ⟨_,_,rfl,hx,dC.2 ⟨_,_,rfl,hy,wF.2 rfl⟩⟩⟩⟩⟩⟩⟩⟩⟩
def BJ{t:Tr vA}:RD t wX.d zE:=Ek (op:=0) (name:=[]) (v:=nM) (args:=[]) pP pP pP
section
variable {P:cI}{tf t:Tr vA}{n d:Nat}{Q E:sB}{J:kE}{o:PM fA}
def def_ok{fact:Bool}(h:St P tf t n d)(hk:Ok P rdDef d tf (rT P.tk fact n) Q E):fJ yA F E 89 [.ptr P.bp 0,.bool fact] t Q:=by
 refine w89 _ _ ?_
 unfold t89;refine yB ?_
 rw[pE 58];unfold rT at hk;refine Eh h (hk.bind fun w n1 tf1 t1 v hr hle hst hrd hk1=>?_)
 cases hrd;refine dF (yB ?_)
 rw[pE 110];refine MD (f:=Et) (g:=111) (most:=6) (fun t hg i hi=>zid hg hi) (by kernel_rfl) (by kernel_rfl) (by omega) hst (hk1.bind fun k n2 tf2 t2 v2 hr2 hle2 hst2 hrd2 hk2=>?_)
 cases hrd2;exact pB (rA rfl (rA rfl (Ok.now hk2 hst2 ⟨_,rfl,def_rd ⟨w,k,fact⟩⟩)))
def zew(h:St P tf t n d)(hk:Ok P rdInt d tf (sU P.tk n) Q E):fJ yA F E 112 [.ptr P.bp 0] t Q:=by
 refine w112 _ ?_
 unfold t112;refine yB ?_
 rw[pW 72];refine Cq h fun t1 h1=>cD (yB ?_)
 unfold sU at hk;generalize acc P.tk bI n=neg at hk h1
 change St P tf t1 (if neg=true then n+1 else n) d at h1
 generalize (if neg=true then n+1 else n)=m at hk h1
 rw[pQ 71,Hd h1,sA];refine aC (qS _) (rA rfl ?_)
 have hkd:zD P.tk 2 m=decide ((tG P m).kind=2):=Lv (by omega)
 have htx:fE P.tk m=(tG P m).text:=Uj
 dsimp only at hk
 cases h2:decide ((tG P m).kind=2)with
 | false=>
  have h2':¬ (tG P m).kind=2:=of_decide_eq_false h2
  rw[hkd,h2]at hk;simp only[ycl,Bool.true_or,if_true]at hk;refine rA ?_ (yB (Ok.fail h1 hk))
  show(!tC ((tG P m).kind:Int) 2)=true
  rw[sF,decide_eq_false (by omega)];rfl
 | true=>
  have h2':(tG P m).kind=2:=of_decide_eq_true h2
  have hnum:lR (tG P m).text:=by
   have:=h1.num (n:=m) (by rw[hkd,h2])
   rwa [htx]at this
  refine qB ?_ ?_
  ·show ¬ (!tC ((tG P m).kind:Int) 2)=true
   rw[sF,decide_eq_true (by omega)];simp
  refine yB ?_
  show dE yA F vC tF E 66 [.str (tG P m).text,.str [47]] t1 _
  rw[pQ 66,AK (by have:=hnum.1;omega),sA,LP]
  refine cD ?_
  rw[hkd,htx,h2]at hk;simp only[Bool.not_true,Bool.false_or]at hk
  cases hs:oH (tG P m).text with
  | true=>
   rw[hs,yab rfl]at hk;exact rA rfl (yB (Ok.fail h1 hk))
  | false=>
   rw[hs,yaa (by simp)]at hk
   refine qB (by simp) (jC (zio _ _ _ _ _ _ ?_))
   unfold DB;obtain⟨i,hi,hj⟩:=Bu.int (s:=(tG P m).text) (neg:=neg) (lo := -2147483648) (hi:=2147483647) (t:=t1) hnum hs (by omega) (by omega)
   refine yB ?_
   show dE yA F vC tF E 102 [.str (tG P m).text,.bool neg,.int .i64 (-2147483648),.int .i64 2147483647] t1 _
   rw[pQ 102,hi,sA];refine iA rfl (pB (iA rfl (cD ?_)))
   cases hv:kL (tG P m).text neg (-2147483648) 2147483647 with
   | none=>
    rw[hv]at hk;exact rA rfl (yB (Ok.fail h1 hk))
   | some j=>
    rw[hv]at hk;have:=hj j hv
    subst this;refine qB (by simp) (jC (zin _ _ ?_))
    unfold DA;have hlt:m<P.tk.length:=by
     rw[<- hkd]at h2;unfold zD at h2
     cases hx:P.tk[m]? with
     | none=>rw[hx]at h2;cases h2
     | some x=>exact(ybc.1 hx).1
    have hlen:=h1.len
    refine iA nl (iA f1 (sC h1.l1 (pB (iA nl (iA f1 (lC fun b _ _=>?_))))))
    obtain⟨t3,k1,k2⟩:=h1.set1 (n':=m+1) (by omega)
    have e:cA .i64 ((m:Int)+1)=((m+1:Nat):Int):=by rw[iC (by omega) (by omega)];rfl
    rw[e];exact⟨_,_,k1 b,Ok.now hk k2 rfl⟩
def row_ok{two:Bool}(h:St P tf t n d)(hk:Ok P rdRow d tf (kX P.tk two n) Q E):fJ yA F E 90 [.ptr P.bp 0,.bool two] t Q:=by
 refine w90 _ _ ?_
 unfold t90;refine yB ?_
 rw[pE 112];unfold kX at hk;have tail:∀(a b:Int) (z0 z1 z2:Int) (n2:Nat) (tf2 t2:Tr vA),St P tf2 t2 n2 d->Ok P rdRow d tf2 ((rE P.tk Nw n2).bind fun _ n3=>(bO P.tk n3).bind fun d n4=>(rE P.tk wIs n4).bind fun _ n5=>
   (fun(neg:Bool)=>(tE P.tk 2 (if neg then n5+1 else n5)).bind fun s n6=>.ok ⟨a,b,d,vI s neg⟩ n6) (acc P.tk bI n5)) Q E →
   pH E 90 11 [.ptr P.bp 0,.int .i64 z0,.int .i64 z1,.int .i64 z2,.bool false,.nilslice,.bool false,.nilslice,.int .i64 a,.int .i64 b,.int .i64 0,.bool false,.nilslice,.bool false,.nilslice] t2 Q:=by
  intro a b z0 z1 z2 n2 tf2 t2 h2 hk2;refine j90_11 _ _ _ _ _ _ _ _ _ _ _ _ _ _ _ ?_
  unfold zd2;refine Aa h2 hk2 fun n3 tf3 t3 hle3 hst3 hk3=>?_
  refine yB ?_
  rw[pE 73];refine Mt Bu hst3 (hk3.bind fun dd n4 tf4 t4 v4 hr4 hle4 hst4 hrd4 hk4=>?_)
  cases hrd4;refine pB (rA rfl (Aa hst4 hk4 fun n5 tf5 t5 hle5 hst5 hk5=>?_))
  refine yB ?_
  rw[pW 72];refine Cq hst5 fun t6 h6=>cD (yB ?_)
  dsimp only at hk5
  generalize acc P.tk bI n5=neg at hk5 h6
  change St P tf5 t6 (if neg=true then n5+1 else n5) d at h6
  rw[pE 59];refine Dl (k:=2) (by omega) h6 (hk5.bind fun s n7 tf7 t7 v7 hr7 hle7 hst7 hrd7 hk7=>?_)
  obtain⟨x,_,e,rfl⟩:=hrd7
  obtain⟨g1,g2,_⟩:=Oi hr7
  have hn:=h6.num g1
  rw[<- g2]at hn;subst e;refine aC (qS _) (Zh Bu hst7 hn fun tf8 t8 cs k1 k2 k3=>?_)
  obtain⟨u,v,rfl,hz,_⟩:=Zi k3
  refine aC hz (rA k3.all (rA (zen (a:=a) (b:=b) (k:=dd) k3).all ?_))
  exact Ok.now (Ok.mono hk7 k1) k2 ⟨_,rfl,zen k3⟩
 refine zew h (hk.bind fun a n1 tf1 t1 v hr hle hst hrd hk1=>?_)
 cases hrd;refine pB (rA rfl ?_)
 cases two with
 | true=>
  rw[yab rfl]at hk1;refine rA rfl (yB ?_)
  rw[pE 112];refine zew hst (hk1.bind fun b n2 tf2 t2 v2 hr2 hle2 hst2 hrd2 hk2=>?_)
  cases hrd2;exact pB (rA rfl (jC (tail a b 0 0 0 n2 tf2 t2 hst2 hk2)))
 | false=>
  rw[yaa (by simp)]at hk1
  exact qB (by simp) (jC (tail a 0 0 0 0 n1 tf1 t1 hst hk1))
def YM(h:St P tf t n 0)(hk:Ok P rdCl 0 tf (nT P.tk n) Q E):fJ yA F E 91 [.ptr P.bp 0] t Q:=by
 refine w91 _ ?_
 unfold t91;refine rA rfl (rA rfl (yB ?_))
 rw[pE 58];unfold nT at hk;refine Eh h (hk.bind fun a n1 tf1 t1 v1 hr1 hle1 hst1 hrd1 hk1=>?_)
 cases hrd1;refine dF (rA rfl (yB ?_))
 rw[pE 58];refine Eh hst1 (hk1.bind fun b n2 tf2 t2 v2 hr2 hle2 hst2 hrd2 hk2=>?_)
 cases hrd2;refine dF (rA rfl (Aa hst2 hk2 fun n3 tf3 t3 hle3 hst3 hk3=>yB ?_))
 rw[pE 73];refine Mt Bu hst3 (hk3.bind fun f n4 tf4 t4 v4 hr4 hle4 hst4 hrd4 hk4=>?_)
 cases hrd4;refine pB (rA rfl (Aa hst4 hk4 fun n5 tf5 t5 hle5 hst5 hk5=>yB ?_))
 rw[pW 72];have tail:∀(u:Int) (n6:Nat) (tf6 t6:Tr vA),St P tf6 t6 n6 0->Ok P rdCl 0 tf6 ((rE P.tk Nw n6).bind fun _ n7=>(bO P.tk n7).bind fun k n8=>
   if acc P.tk wOff n8 then .ok ⟨a,b,f,u,k,true,wX,wX⟩ (n8+1)else
   (rE P.tk wWhen n8).bind fun _ n9=>(oW P.tk n9).bind fun x n10=>(rE P.tk zgc n10).bind fun _ n11=>(oW P.tk n11).bind fun y n12=>.ok ⟨a,b,f,u,k,false,x,y⟩ n12) Q E →
   pH E 91 19 ([.ptr P.bp 0]++([.str [],.str [],.int .i64 0,.int .i64 0,.int .i64 0,.bool false]++(zE++zE))++([.str a,.str b,.int .i64 f,.int .i64 u,.int .i64 0,.bool false]++(zE++zE))) t6 Q:=by
  intro u n6 tf6 t6 h6 hk6;refine j91_19 _ _ _ _ _ _ _ _ _ _ _ _ _ _ _ _ _ _ _ _ _ _ _ _ _ _ _ _ _ _ _ _ _ _ _ _ _ _ _ _ _ _ _ _ _ _ _ _ _ ?_
  unfold zd1;refine Aa h6 hk6 fun n7 tf7 t7 hle7 hst7 hk7=>yB ?_
  rw[pE 73];refine Mt Bu hst7 (hk7.bind fun k n8 tf8 t8 v8 hr8 hle8 hst8 hrd8 hk8=>?_)
  cases hrd8;refine pB (rA rfl (aO hst8 (fun ha t9 h9=>?_) fun ha t9 h9=>?_))
  ·rw[ha,yab rfl]at hk8
   have hrd:=MC (t:=tf8) (a:=a) (b:=b) (f:=f) (u:=u) (k:=k) (o:=true) (BJ (t:=tf8)) (BJ (t:=tf8))
   exact rA rfl (rA hrd.all (Ok.now hk8 h9 ⟨_,rfl,hrd⟩))
  ·rw[ha,yaa (by simp)]at hk8
   refine Aa h9 hk8 fun n9 tf9 t9' hle9 hst9 hk9=>yB ?_
   rw[pE 42];refine KN Bu _ _ _ _ _ hst9 (hk9.bind fun x n10 tf10 t10 v10 hr10 hle10 hst10 hrd10 hk10=>?_)
   obtain⟨cx,rfl,hx⟩:=hrd10
   refine aC (agE hx) ?_
   have ex:[zA.int .u8 ((cellsOf cx).i 0),.str ((cellsOf cx).s 1),.int .u8 ((cellsOf cx).i 2),.bool ((cellsOf cx).b 3),(cellsOf cx).v 4,.bool ((cellsOf cx).b 5),(cellsOf cx).v 6,.int .i64 ((cellsOf cx).i 7),(cellsOf cx).v 8]=cx:=cE_eq hx
   refine rA (by rw[ex];obtain⟨a,b,c,rfl,_⟩:=uK hx;exact hx.all) ?_
   refine Aa hst10 hk10 fun n11 tf11 t11 hle11 hst11 hk11=>yB ?_
   rw[pE 42];refine KN Bu _ _ _ _ _ hst11 (hk11.bind fun y n12 tf12 t12 v12 hr12 hle12 hst12 hrd12 hk12=>?_)
   obtain⟨cy,rfl,hy⟩:=hrd12
   refine aC (agE hy) ?_
   have ey:[zA.int .u8 ((cellsOf cy).i 0),.str ((cellsOf cy).s 1),.int .u8 ((cellsOf cy).i 2),.bool ((cellsOf cy).b 3),(cellsOf cy).v 4,.bool ((cellsOf cy).b 5),(cellsOf cy).v 6,.int .i64 ((cellsOf cy).i 7),(cellsOf cy).v 8]=cy:=cE_eq hy
   refine rA (by rw[ey];obtain⟨a,b,c,rfl,_⟩:=uK hy;exact hy.all) ?_
   have hrd:=MC (t:=tf12) (a:=a) (b:=b) (f:=f) (u:=u) (k:=k) (o:=false) (hx.mono (hle11.trans hle12)) hy
   have exy:[zA.str a,.str b,.int .i64 f,.int .i64 u,.int .i64 k,.bool false,.int .u8 ((cellsOf cx).i 0),.str ((cellsOf cx).s 1),.int .u8 ((cellsOf cx).i 2),.bool ((cellsOf cx).b 3),(cellsOf cx).v 4,.bool ((cellsOf cx).b 5),(cellsOf cx).v 6,.int .i64 ((cellsOf cx).i 7),(cellsOf cx).v 8,.int .u8 ((cellsOf cy).i 0),.str ((cellsOf cy).s 1),.int .u8 ((cellsOf cy).i 2),.bool ((cellsOf cy).b 3),(cellsOf cy).v 4,.bool ((cellsOf cy).b 5),(cellsOf cy).v 6,.int .i64 ((cellsOf cy).i 7),(cellsOf cy).v 8]=[.str a,.str b,.int .i64 f,.int .i64 u,.int .i64 k,.bool false]++(cx++cy):=by
    rw[<- ex,<- ey];rfl
   rw[exy];exact rA hrd.all (Ok.now hk12 hst12 ⟨_,rfl,hrd⟩)
 refine Cq hst5 fun t6 h6=>cD ?_
 cases ha:acc P.tk wEnd n5 with
 | true=>
  rw[ha,yab rfl]at hk5;rw[ha,yab rfl]at h6;exact qB (by simp) (jC (tail 65536 (n5+1) tf5 t6 h6 hk5))
 | false=>
  rw[ha,yaa (by simp)]at hk5
  rw[ha,yaa (by simp)]at h6
  refine rA rfl (yB ?_)
  rw[pE 73];refine Mt Bu h6 (hk5.bind fun u n6 tf6 t7 v6 hr6 hle6 hst6 hrd6 hk6=>?_)
  cases hrd6;exact pB (rA rfl (jC (tail u n6 tf6 t7 hst6 hk6)))
end
end Go.Proofs
namespace Go.Am
open Go Go.RowKit
variable {sz:Nat}{cl:List (List zA)}{v:zA}{cd:Lo}
section
variable {t tf:Tr vA}{C:oA}{base:Nat}
def LK (cd:Lo)(base:Nat)(t:Tr vA)(sz:Nat)(cl:List (List zA))(v:zA):Prop:=
 (v=.nilslice/\cl=[])\/∃b c,v=.slice b 0 cl.length cl.length/\base<=b/\t.get b=some (.cells c (cl.length*sz) (some cd)) ∧
  ∀(i:Nat) cs,cl[i]?=some cs->cs.length=sz/\∀(j:Nat) a,cs[j]?=some a->c.get (i*sz+j)=some a
def ZR{T el:Nat}(hT:eJ C T el sz){cm:List (List zA)}{x:zA}(hv:LK (.sz sz) C.base t sz cl v)(hx:sM t sz x cm)(hone:∀a∈cm.flatten,zA.one a=true)(hpos:0<cm.length)(hl:cl.length+cm.length<400000){n:Nat}(hn:t.get n=none)(hbase:C.base<=n) :
  ∃t',gE C T T v x ⟨n,t⟩=some (.slice n 0 (cl.length+cm.length) (cl.length+cm.length),⟨n+1,t'⟩)/\LK (.sz sz) C.base t' sz (cl++cm) (.slice n 0 (cl.length+cm.length) (cl.length+cm.length))/\(∀c,c≠n->¬ iQ v c->t'.get c=t.get c):=by
 obtain⟨⟨y,hy1,hy2,hy3⟩,⟨z,hz1,hz2,hz3,hz4,hz5⟩,hnb⟩:=hT
 have hcode:dM el z=.sz sz:=by rw[NB.code hnb hz1,hz2]
 have hall:=hx.len
 obtain⟨hf,hlen⟩:=hx.first (n:=n)
 have hflat:=aX hall
 have hfl:zB cm.flatten=cm.length*sz:=by rw[oD];exact hflat
 have base:gE C T T v x ⟨n,t⟩=(match v.asSlice with
  | some s=>bif Nat.ble (s.2.2.1+cm.length) s.2.2.2 then rW C ⟨n,t⟩ z cm.length cm.flatten s else qW C ⟨n,t⟩ el z cm.length cm.flatten s
  | none=>xB (Nat.beq v.tag 5) (gQ ⟨n,t⟩ el z cm.length cm.flatten)):=by
  unfold gE sS;rw[hy1,qA,qA,hy3];simp only[ycl,yE];rw[hy2,qA,hz1,qA,hlen,qA,hz2,hf,qA];rfl
 have ok:aR z cl.length cl.length cm.length cm.flatten=true:=by
  unfold aR;have h1:Nat.blt (cl.length+cm.length+cl.length) 1000000000=true:=qC.2 (by omega)
  have h2:Nat.blt ((cl.length+cm.length+cl.length)*z.bytes) 1000000000=true:=qC.2 (by
   have:=ydb (show cl.length+cm.length+cl.length<=800000 by omega) hz4
   omega)
  have h3:Nat.blt z.bytes 1000000000=true:=qC.2 (by omega)
  have h4:(!Nat.beq z.size 0)=true:=by
   cases hq:Nat.beq z.size 0 with
   | true=>have:=mC.1 hq;omega
   | false=>rfl
  have h5:Nat.beq (zB cm.flatten) (cm.length*z.size)=true:=by rw[hfl,hz2];exact mC.2 rfl
  have h6:Nat.beq (zB z.zero) z.size=true:=by rw[hz3,hz2];exact mC.2 rfl
  rw[h1,h2,h3,h4,h5,h6];rfl
 rcases hv with⟨rfl,rfl⟩ | ⟨b,c,rfl,hb0,hb2,hb3⟩
 ·refine⟨t.set n (.cells (Tr.ofList cm.flatten) (zB cm.flatten) (some (.sz sz))),?_,.inr ⟨n,Tr.ofList cm.flatten,by simp,hbase,?_,fun i cs hi=>⟨hall i cs hi,fun j a hj=>?_⟩⟩,fun c hc _=>(qL hn _).2 c hc⟩
  ·rw[base]
   simp only[zA.asSlice];show xB true (gQ ⟨n,t⟩ el z cm.length cm.flatten)=_
   rw[yE];unfold gQ;have:Nat.beq cm.length 0=false:=by
    cases hq:Nat.beq cm.length 0 with
    | true=>have:=mC.1 hq;omega
    | false=>rfl
   have ok:aR z 0 0 cm.length cm.flatten=true:=ok
   rw[this,cond_false,ok,yE,hcode];simp only[ybx,ybw];rfl
  ·rw[Tr.get_set,yab rfl,hfl];simp
  ·rw[Tr.get_ofList];exact kU hall i j cs a hi hj
 ·have hbn:b≠n:=by intro e;rw[e,hn]at hb2;cases hb2
  refine⟨(t.del b).set n (.cells (c.setMany cm.flatten (cl.length*z.size)) ((cl.length+cm.length)*z.size) (some (.sz sz))),?_,.inr ⟨n,c.setMany cm.flatten (cl.length*z.size),by simp,hbase,?_,fun i cs hi=>?_⟩,fun k hk1 hk2=>?_⟩
  ·rw[base]
   simp only[zA.asSlice];have:Nat.ble (cl.length+cm.length) cl.length=false:=by
    cases hq:Nat.ble (cl.length+cm.length) cl.length with
    | true=>have:=oE.1 hq;omega
    | false=>rfl
   rw[this,cond_false];unfold qW;simp only[];rw[show ∀x,(!(Nat.beq 0 1&&x))=true from fun _=>rfl,yE,ok,yE]
   unfold qE;rw[hb2,qA];simp only[vA.asCells,qA];unfold Fa;simp only[];have g1:loEq (.sz sz) (dM el z)=true:=by rw[hcode];exact Yc.2 rfl
   have g2:Nat.ble (cl.length*z.size) (cl.length*sz)=true:=oE.2 (by rw[hz2];exact ybk _)
   have g3:Nat.ble (cl.length*sz) ((cl.length+cm.length)*z.size)=true:=oE.2 (by rw[hz2];exact ybi _ (by omega))
   have g4:fB zA.one cm.flatten=true:=by rw[jH];exact ycb.2 hone
   have g5:(!Nat.blt b C.base)=true:=by
    cases hq:Nat.blt b C.base with
    | true=>have:=qC.1 hq;omega
    | false=>rfl
   rw[g1,g2,g3,g4,g5];simp only[hz2];rfl
  ·rw[Tr.get_set,yab rfl,hz2,ybg]
  ·rw[List.getElem?_append]at hi
   split at hi
   ·rename_i hlt
    obtain⟨k1,k2⟩:=hb3 i cs hi
    refine⟨k1,fun j a hj=>?_⟩
    have hjl:j<sz:=by rw[<- k1];exact(ybc.1 hj).1
    have:i*sz+j<cl.length*sz:=by
     have:=ybi sz (show i+1<=cl.length by omega)
     rw[ybo]at this;omega
    rw[Tr.get_setMany,hz2,yaa (by omega)]
    exact k2 j a hj
   ·rename_i hge
    have k1:=hall _ cs hi
    refine⟨k1,fun j a hj=>?_⟩
    have hf1:=kU hall _ j cs a hi hj
    have hlt:=(ybc.1 hf1).1
    have e:i*sz=cl.length*sz+(i-cl.length)*sz:=by rw[<- ybo];congr 1;omega
    rw[Tr.get_setMany,hz2,yab (by omega),show i*sz+j-cl.length*sz=(i-cl.length)*sz+j by omega]
    exact hf1
  ·rw[Tr.get_set,yaa hk1,Tr.get_del,yaa (fun e=>hk2 (Mc.2 e))]
theorem LK.off    (h:LK cd base t sz cl v){t':Tr vA}(hk:∀k∈aG v,t'.get k=t.get k):LK cd base t' sz cl v:=by
 rcases h with h | ⟨b,c,rfl,h1,h2,h3⟩
 ·exact .inl h
 ·exact .inr ⟨b,c,rfl,h1,by rw[hk b (by simp[aG])];exact h2,h3⟩
theorem LK.live    (h:LK cd base t sz cl v):∀k∈aG v,∃y,t.get k=some y:=by
 intro k hk;rcases h with⟨rfl,_⟩ | ⟨b,c,rfl,h1,h2,h3⟩
 ·cases hk
 ·have:k=b:=by simpa[aG]using hk
  subst this;exact⟨_,h2⟩
end
end Go.Am
namespace Go.Proofs
open Go Go.Am
variable {b el j sz:Nat}{cl:List (List zA)}{cs:List zA}{v:zA}
variable [eC]
def wI (base sz:Nat)(cl:List (List zA))(v:zA):kD where
 blks:=aG v
 ok:=fun _ t=>LK (.sz sz) base t sz cl v
 keep:=fun h _ k=>h.off fun b hb=>(k b hb).1
 live:=fun h k hk=>h.live k hk
section
variable {base:Nat}{tf t:Tr vA}{C:oA}{A B:List kD}
theorem lA.appendK{T n:Nat}  {x:zA}(hT:eJ C T el sz)(h:lA C.base tf t (A++wI C.base sz cl v::B))(hx:sM t sz x [cs])(hone:∀a∈cs,zA.one a=true)(hl:cl.length+1<400000)(hn:t.get n=none)(hbase:C.base<=n) :
  ∃t' v',gE C T T v x ⟨n,t⟩=some (v',⟨n+1,t'⟩)/\lA C.base tf t' (A++wI C.base sz (cl++[cs]) v'::B)/\zA.one v'=true/\v'.cells=[v']:=by
 have hv:LK (.sz sz) C.base t sz cl v:=h.ok (wI C.base sz cl v) (by simp)
 obtain⟨t',k1,k2,k3⟩:=ZR hT hv hx (by simpa using hone) (by simp) (by simpa using hl) hn hbase
 refine⟨t',_,k1,lA.upd (o:=wI C.base sz cl v) h (fun k h1 h2=>k3 k ?_ (fun e=>h1 (sZ.2 e))) (fun k hk=>?_) k2 (by simp[wI,aG]) (fun k u hu=>?_),rfl,rfl⟩
 ·grind [wI,aG]
 ·grind [wI,aG]
 ·have hvk:∀k∈aG v,tf.get k=none:=fun k hk=>(h.low k (by simp[wI,hk])).2
  have e1:k≠n:=fun e=>by rw[e,h.tfn hn]at hu;cases hu
  have e2:¬ iQ v k:=fun e=>by rw[hvk k (sZ.2 e)]at hu;cases hu
  rw[k3 k e1 e2];exact h.tle _ _ hu
def LK.idx{T i:Nat}{agg:Bool}   (hT:zH C T el sz agg)(h:LK (.sz sz) base t sz cl v)(hi:cl[i]?=some cs) :
  ∃b,v=.slice b 0 cl.length cl.length/\xC C T v (.int .i64 (i:Int))=some (.ptr b (i*sz))/\At t b (i*sz) cs:=by
 rcases h with⟨rfl,rfl⟩ | ⟨b,c,rfl,h1,h2,h3⟩
 ·simp at hi
 ·have:=Aw (off:=0) (n:=cl.length) (cap:=cl.length) (b:=b) hT (ybc.1 hi).1
  rw[ybw]at this;exact⟨b,rfl,this,_,_,_,h2,(h3 i cs hi).2⟩
theorem lA.cellsK{n:Nat} (h:lA base tf t (A++wI base sz cl (.slice b 0 n n)::B)) :
  n=cl.length/\(∀(i:Nat) cs,cl[i]?=some cs->cs.length=sz)/\lA base tf t (A++jB b (some (.sz sz)) cl.flatten::B):=by
 have hv:LK (.sz sz) base t sz cl (.slice b 0 n n):=h.ok (wI base sz cl (.slice b 0 n n)) (by simp)
 rcases hv with⟨hv,_⟩ | ⟨b',c,hv,h1,h2,h3⟩
 ·cases hv
 ·cases hv
  have hall:∀(i:Nat) cs,cl[i]?=some cs->cs.length=sz:=fun i cs hi=>(h3 i cs hi).1
  refine⟨rfl,hall,lA.upd (o:=wI base sz cl (.slice b 0 cl.length cl.length)) (o':=jB b (some (.sz sz)) cl.flatten) h (fun _ _ _=>rfl) (fun k hk=>.inl ?_) ?_ (by simp[jB]) h.tle⟩
  ·grind [jB,wI,aG]
  ·refine⟨c,by rw[h2,aX hall],fun j a hj=>?_⟩
   have hf:=aX hall
   have hj':=(ybc.1 hj).1
   have hsz:0<sz:=by
    rcases yav sz with e | e
    ·subst e;simp at hf;simp[hf]at hj'
    ·exact e
   have hi:j / sz<cl.length:=by rw[Nat.div_lt_iff_lt_mul hsz];omega
   obtain⟨k1,k2⟩:=h3 (j / sz) cl[j / sz] (ybd hi)
   have hm:=ycy j hsz
   have hg:=kU hall (j / sz) (j%sz) cl[j / sz] cl[j / sz][j%sz] (ybd hi) (ybd (by omega))
   have e:j / sz*sz+j%sz=j:=by rw[ybh];exact ych j sz
   rw[e]at hg;rw[hg]at hj
   cases hj;have:=k2 (j%sz) _ (ybd (by omega))
   rwa [e]at this
theorem lA.listK  (hall:∀(i:Nat) cs,cl[i]?=some cs->cs.length=sz)(h:lA base tf t (A++jB b (some (.sz sz)) cl.flatten::B)) :
  lA base tf t (A++wI base sz cl (.slice b 0 cl.length cl.length)::B):=by
 obtain⟨c,h2,h3⟩:yD t b (some (.sz sz)) cl.flatten:=h.ok (jB b (some (.sz sz)) cl.flatten) (by simp)
 have hlow:=h.low b (by simp[jB])
 refine lA.upd (o:=jB b (some (.sz sz)) cl.flatten) (o':=wI base sz cl (.slice b 0 cl.length cl.length)) h (fun _ _ _=>rfl) (fun k hk=>.inl ?_) (.inr ⟨b,c,rfl,hlow.1,by rw[h2,aX hall],fun i cs hi=>⟨hall i cs hi,fun j a hj=>h3 _ _ (kU hall i j cs a hi hj)⟩⟩) (by simp[wI,aG]) h.tle
 grind [jB,wI,aG]
end
def el23:eJ yA 23 77 3:=⟨⟨_,ty23,rfl,rfl⟩,⟨_,ty77,rfl,rfl,by decide,by decide⟩,fun y h=>by rw[ty77]at h;cases h;rfl⟩
def el24:eJ yA 24 130 3:=⟨⟨_,Gk,rfl,rfl⟩,⟨_,zgm,rfl,rfl,by decide,by decide⟩,fun y h=>by rw[zgm]at h;cases h;rfl⟩
def el25:eJ yA 25 72 24:=⟨⟨_,ty25,rfl,rfl⟩,⟨_,ty72,rfl,rfl,by decide,by decide⟩,fun y h=>by rw[ty72]at h;cases h;rfl⟩
def el128:eJ yA 128 155 7:=⟨⟨_,Jx,rfl,rfl⟩,⟨_,zgk,rfl,rfl,by decide,by decide⟩,fun y h=>by rw[zgk]at h;cases h;rfl⟩
section
variable {P:cI}{tf t:Tr vA}{n d:Nat}{Q E:sB}{J W:kE}
def St.dropL:∀ {X:List kD},St (P.wL (X++P.L)) tf t n d->St P tf t n d:=by
 intro X h;refine⟨h.ts,?_,h.len,h.le,h.good,h.glob⟩
 have:=h.ob
 change lA yA.base tf t (nG P n d::(X++P.L))at this
 clear h
 induction X with
 | nil=>exact this
 | cons x X ih=>exact ih (lA.drop (A:=[nG P n d]) (o:=x) this)
def Hb(S:Nat)(pv:zA)(g:zA->Option zA)(ad v:zA)(cs:List zA):T:=
 .heavy (cC yA S 1 [(0,.agg cs)]) fun a13=>.light (fun m=>mA yA S ⟨0,m⟩ ad) fun a14=>.ite (same 10 a14 v) (.heavy (gE yA S S v a13) fun a15=>
  .opt (zG pv) fun a16=>.opt (g a16) fun a17=>.heavy (zC yA S a17 a15) fun _=>.ret (.tup [])) .fail
def FU   (h:j<cs.length):pJ cs j [v]=cs.set j v:=by
 refine List.ext_getElem? fun k=>?_
 rw[Ed (by show j+1<=cs.length;omega),ycw]
 show(if j<=k/\k<j+1 then [v][k-j]? else _)=_
 split
 ·have:k=j:=by omega
  subst this;simp[h]
 ·rw[yaa (by omega)]
def FY{T:Nat} {t:Tr vA}(hT:eJ yA T el sz)(hcs:cs.length=sz)(hs:sz<1000)(hb:t.get b=none):∃t',cC yA T 1 [(0,.agg cs)] ⟨b,t⟩=some (.slice b 0 1 1,⟨b+1,t'⟩)/\sM t' sz (.slice b 0 1 1) [cs]/\aA t t'/\fF b t t':=by
 obtain⟨⟨y,hy1,hy2,_⟩,⟨z,hz1,hz2,hz3,_⟩,_⟩:=hT
 exact Ep (n:=1) hy1 hy2 hz1 hz2 hz3 (by omega) ((Hx (sz:=sz) (z:=z.zero) (v:=.agg cs) (by rw[<- oD,hz3]) hcs).trans (by show some cs=_;simp)) (Ee hcs) rfl hb
theorem FD{T pb:Nat}{y:lD}{A0 A B:List kD}{l:List D}{dd:D}{pc:List zA}{pv:zA}{g:zA->Option zA}{lo:Option Lo}(hT:eJ yA T el sz)(hy:yA.tys.get T=some y)(ha:y.desc.isAgg=false)(hs1:y.size=1)(hcs:cs.length=sz)(hs:sz<1000)
  (hpv:zG pv=some pv) (hg:g pv=some (.ptr pb j))
  (h:lA yA.base tf t (A0++jB pb lo pc::(A++bB yA.base sz l v::B))) (hj:pc[j]?=some v) (hrd:RD tf dd cs) (hl:l.length+1<400000)
  (hQ:∀t' v',lA yA.base tf t' (A0++jB pb lo (pc.set j v')::(A++bB yA.base sz (l++[dd]) v'::B))->Q (.tup []) t') :
  pA yA.base W J (Hb T pv g (.ptr pb j) v cs) t Q:=by
 refine lC fun b hb hbase=>?_
 obtain⟨t1,h1,h2,h3,h4⟩:=FY hT hcs hs hb
 have o1:=h.junk hb h4
 have hc:yD t1 pb lo pc:=o1.cel
 have e:∀(o o':kD),A0++o::(A++o'::B)=(A0++o::A)++o'::B:=fun o o'=>by simp
 rw[e]at o1;have hv:eL yA.base tf t1 sz l v:=o1.ok (bB yA.base sz l v) (by simp)
 refine⟨_,_,h1,sC (hc.load1 hy ha hj) (rA hv.same (lC fun b2 hb2 hbase2=>?_))⟩
 obtain⟨t2,k1,k2,k3,k4⟩:=Td hT (m:=[dd]) hv h2 (dC.2 ⟨cs,[],rfl,hrd,wF.2 rfl⟩) (by
  have:=hrd.all
  rw[jH,ycb]at this;simpa using this) (by simp) (by simpa using hl) hb2 hbase2 o1.tle
 refine⟨_,_,k1,iA hpv (iA hg (lC fun b3 _ _=>?_))⟩
 have o2:lA yA.base tf t2 ((A0++jB pb lo pc::A)++bB yA.base sz (l++[dd]) (.slice b2 0 (l.length+[dd].length) (l.length+[dd].length))::B):=by
  refine lA.upd (o:=bB yA.base sz l v) o1 (fun k h1 h2=>k4 k ?_ (fun e=>h1 (sZ.2 e))) (fun k hk=>?_) k2 (by simp[bB,aG]) k3
  all_goals grind [bB,aG]
 rw[<- e]at o2;have hjl:=(ybc.1 hj).1
 obtain⟨t3,m1,m2⟩:=lA.setCel (j:=j) (v:=.slice b2 0 (l.length+[dd].length) (l.length+[dd].length)) o2 hy (by rw[hs1];rfl) (by
  show j+1<=pc.length
  omega) rfl
 refine⟨_,_,m1 b3,?_⟩
 have e2:pJ pc j (zA.cells (.slice b2 0 (l.length+[dd].length) (l.length+[dd].length)))=pc.set j (.slice b2 0 (l.length+[dd].length) (l.length+[dd].length)):=FU hjl
 rw[e2]at m2;exact hQ t3 _ m2
end
end Go.Proofs
namespace Go.Proofs
open Go Go.Am
section
variable {tf':Tr vA}{tcl:List (List zA)}{R:List D}{rv:zA}{X:List kD}{α:Type}{w:List Nat}{K:zA->T}{Q':sB}{b:Nat}
variable [eC]
section
variable {tk:List uC}
def SW:∀k,Up (nR tk k):=by
 intro k;induction k with
 | zero=>intro n a n' h;cases h
 | succ k ih=>exact JK ih
def KM:Up (oW tk):=KO (SW 101)
def Ms{f:Bool}:Up (rT tk f):=xF Ei fun _=>xF (ME _ _) fun _=>nL
def IU:Up (sU tk):=by
 intro n a n' h;unfold sU at h;have key:∀m,n<=m->(if (!zD tk 2 m||oH (fE tk m))=true then(.er 120 m:PR Int)else match kL (fE tk m) (acc tk bI n) (-2147483648) 2147483647 with | none=>.er 121 m | some i=>.ok i (m+1))=.ok a n'->n<=n':=by
  intro m hm h;split at h
  ·cases h
  ·split at h<;>cases h
   omega
 refine key _ ?_ h
 split<;>omega
def Wl{two:Bool}:Up (kX tk two):=by
 have hr:∀a b d,Up (fun n5=>(fun(neg:Bool)=>(tE tk 2 (if neg then n5+1 else n5)).bind fun s n6=>(.ok (⟨a,b,d,vI s neg⟩:lG) n6:PR lG)) (acc tk bI n5)):=by
  intro a b d n x n' h;obtain⟨s,n1,e1,e2⟩:=PR.bind_ok h
  have:=Oh _ _ _ e1
  cases e2
  split at this<;>omega
 refine xF IU fun a=>?_
 cases two with
 | true=>exact xF IU fun b=>xF bN fun _=>xF Ig fun d=>xF bN fun _=>hr a b d
 | false=>exact xF nL fun b=>xF bN fun _=>xF Ig fun d=>xF bN fun _=>hr a b d
def AL:Up (nT tk):=by
 refine xF Ei fun a=>xF Ei fun b=>xF bN fun _=>xF Ig fun f=>xF bN fun _=>?_
 have h1:Up (fun n5=>(if acc tk wEnd n5 then .ok 65536 (n5+1)else bO tk n5:PR Int)):=by
  intro n a n' h;dsimp only at h
  split at h
  ·cases h;omega
  ·exact Ig _ _ _ h
 refine xF h1 fun u=>xF bN fun _=>xF Ig fun k=>?_
 intro n x n' h;dsimp only at h
 split at h
 ·cases h;omega
 ·exact xF bN (fun _=>xF KM fun x=>xF bN fun _=>xF KM fun y=>nL (a:=(⟨a,b,f,u,k,false,x,y⟩:lE))) _ _ _ h
def PG:Up (Dm tk):=by
 refine xF Ei fun w n a n' h=>?_
 split at h
 ·cases h;omega
 ·exact xF bN (fun _=>nL (a:=(⟨w,false,[]⟩:pG))) _ _ _ h
end
def Fx(tf:Tr vA)(T:List pG)(tcl:List (List zA))(R:List D)(rv:zA):Prop:=
 (T=[]/\tcl=[]/\R=[]/\rv=.nilslice)\/∃A x clA,T=A++[x]/\tcl=clA++[[.str x.name,.bool x.two,rv]]/\wD tf (A.map pG.d) clA/\R=x.rows.map lG.d
theorem Fx.mono{tf:Tr vA}{T:List pG}   (h:Fx tf T tcl R rv)(hl:aA tf tf'):Fx tf' T tcl R rv:=by
 rcases h with h | ⟨A,x,clA,h1,h2,h3,h4⟩
 ·exact .inl h
 ·exact .inr ⟨A,x,clA,h1,h2,wD.mono hl _ _ h3,h4⟩
theorem Fx.len{tf:Tr vA}{T:List pG}   (h:Fx tf T tcl R rv):tcl.length=T.length:=by
 rcases h with⟨rfl,rfl,_⟩ | ⟨A,x,clA,rfl,rfl,h3,h4⟩
 ·rfl
 ·have:=h3.length
  simp_all
def xM(pb:Nat)(nm dv tv rv cv:zA)(D:List D)(tcl:List (List zA))(R C:List Am.D):List kD:=
 [jB pb none [nm,dv,tv,cv],bB yA.base 3 D dv,wI yA.base 3 tcl tv,bB yA.base 7 R rv,bB yA.base 24 C cv]
def bW(P:cI)(pb:Nat)(p:pD)(tf t:Tr vA)(n:Nat):Prop:=
 ∃dv tv rv cv tcl R,Fx tf p.tables tcl R rv/\St (P.wL (xM pb (.str p.name) dv tv rv cv (p.defs.map bF.d) tcl R (p.clauses.map lE.d)++P.L)) tf t n 0/\p.defs.length<=n/\p.tables.length<=n/\R.length<=n/\p.clauses.length<=n
def sL (P:cI)(pb:Nat)(tf:Tr vA)(r:PR pD)(Q E:sB):Prop:=
 match r with
 | .ok p n=>∀tf' t',aA tf tf'->bW P pb p tf' t' n->Q (.tup []) t'
 | .er e i=>∀tf' t' n' d',aA tf tf'->St P tf' t' n' d'->E (Sb P e i) t'
section
variable {P:cI}{tf t:Tr vA}{n d pb:Nat}{Q E:sB}{J W:kE}
theorem sL.mono{r:PR pD}(h:sL P pb tf r Q E) (hl:aA tf tf'):sL P pb tf' r Q E:=by
 cases r with
 | ok a n=>exact fun tf2 t' k1 k2=>h tf2 t' (hl.trans k1) k2
 | er e i=>exact fun tf2 t' n' d' k1 k2=>h tf2 t' n' d' (hl.trans k1) k2
def sL.bind  {rd1:Tr vA->α->zA->Prop}{r:PR α}{f:α->Nat->PR pD}{Q1:sB}(h:sL P pb tf (r.bind f) Q E)
  (k:∀a n1 tf1 t1 v,r=.ok a n1->aA tf tf1->St (P.wL (X++P.L)) tf1 t1 n1 0->rd1 tf1 a v->sL P pb tf1 (f a n1) Q E->Q1 v t1):Ok (P.wL (X++P.L)) rd1 0 tf r Q1 E:=by
 cases r with
 | ok a n=>exact fun tf' t' v h1 h2 h3=>k a n tf' t' v rfl h1 h2 h3 (sL.mono h h1)
 | er e i=>exact fun tf' t' n' d' h1 h2=>h tf' t' n' d' h1 h2.dropL
def sL.exp   {f:Unit->Nat->PR pD} (hst:St (P.wL (X++P.L)) tf t n 0)(h:sL P pb tf ((rE P.tk w n).bind f) Q' E)
  (k:∀n1 tf1 t1,n<=n1->aA tf tf1->St (P.wL (X++P.L)) tf1 t1 n1 0->sL P pb tf1 (f () n1) Q' E->pA yA.base (dE yA F vC tF E) J (K (.tup [])) t1 Q) :
  pA yA.base (dE yA F vC tF E) J (.heavy (cC yA 93 1 [(0,.str w)]) fun a=>.call 57 [.ptr P.bp 0,a] K) t Q:=by
 refine Fe (P:=P.wL (X++P.L)) hst ?_
 refine h.bind fun a n1 tf1 t1 v hr hle hst1 hrd hk=>?_
 cases hrd;exact k n1 tf1 t1 (bN _ _ _ hr) hle hst1 hk
def Nf  {Y Z:T}(h:St (P.wL (X++P.L)) tf t n d)(k1:acc P.tk w n=true->∀t',St (P.wL (X++P.L)) tf t' (n+1) d->pA yA.base (dE yA F vC tF E) J Y t' Q)(k2:acc P.tk w n=false->∀t',St (P.wL (X++P.L)) tf t' n d->pA yA.base (dE yA F vC tF E) J Z t' Q) :
  pA yA.base (dE yA F vC tF E) J (.call 72 [.ptr P.bp 0,.str w] fun a=>.asB a fun b=>.ite b Y Z) t Q:=aO (P:=P.wL (X++P.L)) h k1 k2
def sL.name  {f:List Nat->Nat->PR pD} (hst:St (P.wL (X++P.L)) tf t n 0)(h:sL P pb tf ((rI P.tk n).bind f) Q' E)
  (k:∀w n1 tf1 t1,n<=n1->aA tf tf1->St (P.wL (X++P.L)) tf1 t1 n1 0->sL P pb tf1 (f w n1) Q' E->pA yA.base (dE yA F vC tF E) J (K (.str w)) t1 Q) :
  pA yA.base (dE yA F vC tF E) J (.call 58 [.ptr P.bp 0] K) t Q:=by
 refine yB ?_
 rw[pE 58];refine Eh (P:=P.wL (X++P.L)) hst (h.bind fun a n1 tf1 t1 v hr hle hst1 hrd hk=>?_)
 cases hrd;exact k a n1 tf1 t1 (Ei _ _ _ hr) hle hst1 hk
def gF(k:Nat)(hk:k=0\/k=1\/k=2\/k=3)  : kC yA 27 k (.ptr b 0)=some (.ptr b k):=by
 rcases hk with rfl | rfl | rfl | rfl<;>kernel_rfl
def gT(k:Nat)(hk:k=1\/k=2){o:Nat}:kC yA 130 k (.ptr b o)=some (.ptr b (o+k)):=by
 rcases hk with rfl | rfl<;>kernel_rfl
def FE{T el sz j g:Nat}{y:lD}{A B:List kD}{l:List D}{pc zs:List zA}{v:zA} {rd:Tr vA->α->zA->Prop}{r:PR α}{k:α->Nat->PR pD}{dd:α->D}{fc:kG->List zA}{args:List zA}
  (hT:eJ yA T el sz) (hy:yA.tys.get T=some y) (ha:y.desc.isAgg=false) (hs1:y.size=1) (hs:sz<1000) (hjj:j=0\/j=1\/j=2\/j=3)
  (hrd:∀tf a w,rd tf a w->∃cs,w=.agg cs/\RD tf (dd a) cs/\jJ zs (.agg cs)=some (cellsOf cs)/\fc (cellsOf cs)=cs/\cs.length=sz)
  (hst:St (P.wL ((jB pb none pc::(A++bB yA.base sz l v::B))++P.L)) tf t n 0) (hj:pc[j]?=some v) (hl:l.length+1<400000)
  (hW:∀a m R,dE yA F vC tF E g a m R=fJ yA F E g a m R)
  (hcall:∀Q',Ok (P.wL ((jB pb none pc::(A++bB yA.base sz l v::B))++P.L)) rd 0 tf r Q' E->fJ yA F E g args t Q')
  (hk:sL P pb tf (r.bind k) Q E)
  (hQ:∀a n1 tf' t' v',r=.ok a n1->aA tf tf'->St (P.wL ((jB pb none (pc.set j v')::(A++bB yA.base sz (l++[dd a]) v'::B))++P.L)) tf' t' n1 0->sL P pb tf' (k a n1) Q E->Q (.tup []) t') :
  pA yA.base (dE yA F vC tF E) J (.opt (zG (.ptr pb 0)) fun a7=>.opt (kC yA 27 j a7) fun a8=>.light (fun m=>mA yA T ⟨0,m⟩ a8) fun a9=>.call g args fun a10=>.asG zs a10 fun X=>
   .light (fun m=>mA yA T ⟨0,m⟩ a8) fun a12=>.ite (same 10 a12 a9) (Hb T (.ptr pb 0) (kC yA 27 j) a8 a9 (fc X)) .fail) t Q:=by
 have hc:yD t pb none pc:=hst.ob.cel (A:=[nG P n 0])
 refine iA nl (iA (gF j hjj) (sC (hc.load1 hy ha hj) (yB ?_)))
 rw[hW];refine hcall _ (hk.bind fun a n1 tf1 t1 w hr hle hst1 hrd1 hk1=>?_)
 obtain⟨cs,rfl,c1,c2,c3,c4⟩:=hrd _ _ _ hrd1
 have hc1:yD t1 pb none pc:=hst1.ob.cel (A:=[nG P n1 0])
 have o1:lA yA.base tf1 t1 ([nG P n1 0]++jB pb none pc::(A++bB yA.base sz l v::(B++P.L))):=by
  have:=hst1.ob
  change lA yA.base tf1 t1 (nG P n1 0::((jB pb none pc::(A++bB yA.base sz l v::B))++P.L))at this
  simpa using this
 have hv:eL yA.base tf1 t1 sz l v:=o1.ok (bB yA.base sz l v) (by simp)
 refine aC c2 (sC (hc1.load1 hy ha hj) (rA hv.same ?_))
 rw[c3];refine FD hT hy ha hs1 c4 hs nl (gF j hjj) o1 hj c1 hl fun t2 v' o2=>?_
 refine hQ a n1 tf1 t2 v' hr hle ⟨hst1.ts,?_,hst1.len,hst1.le,hst1.good,hst1.glob⟩ hk1
 show lA yA.base tf1 t2 (nG P n1 0::((jB pb none (pc.set j v')::(A++bB yA.base sz (l++[dd a]) v'::B))++P.L))
 simpa using o2
end
end
section
variable {p:pD}{x:pG}{rv:zA}
variable [eC]
section
variable {P:cI}{tf t:Tr vA}{n d pb:Nat}{Q E:sB}{J W:kE}
def LC{fact:Bool} (hp:bW P pb p tf t n)(h0:∀a n1,rT P.tk fact n=.ok a n1->p.defs.length+1<=n1)
  (hk:sL P pb tf ((rT P.tk fact n).bind fun d n1=>.ok ⟨p.name,p.defs++[d],p.tables,p.clauses⟩ n1) Q E) :
  pA yA.base (dE yA F vC tF E) J (.opt (zG (.ptr pb 0)) fun a7=>.opt (kC yA 27 1 a7) fun a8=>.light (fun m=>mA yA 23 ⟨0,m⟩ a8) fun a9=>.call 89 [.ptr P.bp 0,.bool fact] fun a10=>.asG [.str [],.int .u8 0,.bool false] a10 fun X=>
   .light (fun m=>mA yA 23 ⟨0,m⟩ a8) fun a12=>.ite (same 10 a12 a9) (Hb 23 (.ptr pb 0) (kC yA 27 1) a8 a9 [.str (X.s 0),.int .u8 (X.i 1),.bool (X.b 2)]) .fail) t Q:=by
 obtain⟨dv,tv,rv,cv,tcl,R,hT,hst,b1,b2,b3,b4⟩:=hp
 have hl:=hst.len
 have hle:=hst.le
 refine FE (A:=[]) (fc:=fun X=>[.str (X.s 0),.int .u8 (X.i 1),.bool (X.b 2)]) el23 ty23 rfl rfl (by omega) (by omega) (dd:=bF.d) (rd:=rdDef) ?_ hst rfl (by rw[ybf];have:(P.wL (xM pb (.str p.name) dv tv rv cv (p.defs.map bF.d) tcl R (p.clauses.map lE.d)++P.L)).tk=P.tk:=rfl;rw[this]at hl hle;omega) (fun _ _ _=>by rw[pE 89]) (fun Q' hQ'=>def_ok (P:=P.wL (xM pb (.str p.name) dv tv rv cv (p.defs.map bF.d) tcl R (p.clauses.map lE.d)++P.L)) hst hQ') hk ?_
 ·rintro tf a w ⟨cs,rfl,h⟩
  have:=Ww h
  exact⟨cs,rfl,h,vL h rfl,by rw[this];rfl,by rw[this];rfl⟩
 ·intro a n1 tf' t' v' hr hle' hst' hk'
  have hd:=Ms _ _ _ hr
  refine hk' tf' t' (aA.refl _) ⟨v',tv,rv,cv,tcl,R,hT.mono hle',?_,by simpa using h0 _ _ hr,Nat.le_trans b2 hd,Nat.le_trans b3 hd,Nat.le_trans b4 hd⟩
  simpa[xM]using hst'
def zjt (hp:bW P pb p tf t n)(h0:∀a n1,nT P.tk n=.ok a n1->p.clauses.length+1<=n1)
  (hk:sL P pb tf ((nT P.tk n).bind fun c n1=>.ok ⟨p.name,p.defs,p.tables,p.clauses++[c]⟩ n1) Q E) :
  pA yA.base (dE yA F vC tF E) J (.opt (zG (.ptr pb 0)) fun a7=>.opt (kC yA 27 3 a7) fun a8=>.light (fun m=>mA yA 25 ⟨0,m⟩ a8) fun a9=>.call 91 [.ptr P.bp 0] fun a10=>.asG [(.str []),(.str []),(.int .i64 0),(.int .i64 0),(.int .i64 0),(.bool false),(.int .u8 0),(.str []),(.int .u8 0),(.bool false),.nilslice,(.bool false),.nilslice,(.int .i64 0),.nilslice,(.int .u8 0),(.str []),(.int .u8 0),(.bool false),.nilslice,(.bool false),.nilslice,(.int .i64 0),.nilslice] a10 fun X=>
   .light (fun m=>mA yA 25 ⟨0,m⟩ a8) fun a12=>.ite (same 10 a12 a9) (Hb 25 (.ptr pb 0) (kC yA 27 3) a8 a9 [(.str (X.s 0)),(.str (X.s 1)),(.int .i64 (X.i 2)),(.int .i64 (X.i 3)),(.int .i64 (X.i 4)),(.bool (X.b 5)),(.int .u8 (X.i 6)),(.str (X.s 7)),(.int .u8 (X.i 8)),(.bool (X.b 9)),(X.v 10),(.bool (X.b 11)),(X.v 12),(.int .i64 (X.i 13)),(X.v 14),(.int .u8 (X.i 15)),(.str (X.s 16)),(.int .u8 (X.i 17)),(.bool (X.b 18)),(X.v 19),(.bool (X.b 20)),(X.v 21),(.int .i64 (X.i 22)),(X.v 23)]) .fail) t Q:=by
 obtain⟨dv,tv,rv,cv,tcl,R,hT,hst,b1,b2,b3,b4⟩:=hp
 have hl:=hst.len
 have hle:=hst.le
 refine FE (A:=[bB yA.base 3 (p.defs.map bF.d) dv,wI yA.base 3 tcl tv,bB yA.base 7 R rv]) (B:=[]) (fc:=fun X=>[(.str (X.s 0)),(.str (X.s 1)),(.int .i64 (X.i 2)),(.int .i64 (X.i 3)),(.int .i64 (X.i 4)),(.bool (X.b 5)),(.int .u8 (X.i 6)),(.str (X.s 7)),(.int .u8 (X.i 8)),(.bool (X.b 9)),(X.v 10),(.bool (X.b 11)),(X.v 12),(.int .i64 (X.i 13)),(X.v 14),(.int .u8 (X.i 15)),(.str (X.s 16)),(.int .u8 (X.i 17)),(.bool (X.b 18)),(X.v 19),(.bool (X.b 20)),(X.v 21),(.int .i64 (X.i 22)),(X.v 23)]) el25 ty25 rfl rfl (by omega) (by omega) (dd:=lE.d) (rd:=rdCl) ?_ hst rfl (by rw[ybf];have:(P.wL (xM pb (.str p.name) dv tv rv cv (p.defs.map bF.d) tcl R (p.clauses.map lE.d)++P.L)).tk=P.tk:=rfl;rw[this]at hl hle;omega) (fun _ _ _=>by rw[pE 91]) (fun Q' hQ'=>YM (P:=P.wL (xM pb (.str p.name) dv tv rv cv (p.defs.map bF.d) tcl R (p.clauses.map lE.d)++P.L)) hst hQ') hk ?_
 ·rintro tf a w ⟨cs,rfl,h⟩
  obtain⟨a1,a2,a3,a4,a5,a6,rfl,_⟩:=Pq h
  exact⟨_,rfl,h,vL h (lE.zs _),rfl,rfl⟩
 ·intro a n1 tf' t' v' hr hle' hst' hk'
  have hd:=AL _ _ _ hr
  refine hk' tf' t' (aA.refl _) ⟨dv,tv,rv,v',tcl,R,hT.mono hle',?_,Nat.le_trans b1 hd,Nat.le_trans b2 hd,Nat.le_trans b3 hd,by simpa using h0 _ _ hr⟩
  simpa[xM]using hst'
def zbq {A:List pG} {n4:Int}(hp:bW P pb p tf t n)(hA:p.tables=A++[x])(hn4:n4=((A.length+1:Nat):Int))(h0:∀a n1,kX P.tk x.two n=.ok a n1->x.rows.length+1<=n1)
  (hk:sL P pb tf ((kX P.tk x.two n).bind fun r n1=>.ok ⟨p.name,p.defs,fP p.tables r,p.clauses⟩ n1) Q E) :
  pA yA.base (dE yA F vC tF E) J (.opt (zG (.ptr pb 0)) fun a41=>.opt (kC yA 27 2 a41) fun a42=>.light (fun m=>mA yA 24 ⟨0,m⟩ a42) fun a43=>.opt (xC yA 24 a43 (.int .i64 (cA .i64 (n4-1)))) fun a44=>.opt (zG a44) fun a45=>.opt (kC yA 130 2 a45) fun a46=>.light (fun m=>mA yA 128 ⟨0,m⟩ a46) fun a47=>.opt (zG a44) fun a48=>.opt (kC yA 130 1 a48) fun a49=>.light (fun m=>mA yA 4 ⟨0,m⟩ a49) fun a50=>.asB a50 fun b51=>.call 90 [.ptr P.bp 0,.bool b51] fun a52=>
   .asG [(.int .i64 0),(.int .i64 0),(.int .i64 0),(.bool false),.nilslice,(.bool false),.nilslice] a52 fun X53=>
   .light (fun m=>mA yA 128 ⟨0,m⟩ a46) fun a54=>.ite (same 10 a54 a47) (Hb 128 a44 (kC yA 130 2) a46 a47 [(.int .i64 (X53.i 0)),(.int .i64 (X53.i 1)),(.int .i64 (X53.i 2)),(.bool (X53.b 3)),(X53.v 4),(.bool (X53.b 5)),(X53.v 6)]) .fail) t Q:=by
 obtain⟨dv,tv,rv,cv,tcl,R,hT,hst,b1,b2,b3,b4⟩:=hp
 rcases hT with⟨hT,_⟩ | ⟨A',x',clA,hT,htcl,hrA,hR⟩
 ·rw[hT]at hA;simp at hA
 obtain⟨rfl,e⟩:=List.append_inj' (hA.symm.trans hT) rfl
 cases e
 have hl:=hst.len
 have hle:=hst.le
 have hlA:clA.length=A.length:=by simpa using hrA.length
 have hLK:LK (.sz 3) yA.base t 3 tcl tv:=hst.ob.ok (wI yA.base 3 tcl tv) (by simp[xM,cI.wL])
 have hi:tcl[A.length]?=some [.str x.name,.bool x.two,rv]:=by rw[htcl,<- hlA];simp
 obtain⟨b,etv,hidx,hat⟩:=LK.idx sl24 hLK hi
 subst etv;have hlA2:A.length<100000000:=by
  have:A.length<p.tables.length:=by rw[hA];simp
  change n<=P.tk.length at hle
  change P.tk.length<300000 at hl
  omega
 have hc:yD t pb none [.str p.name,dv,.slice b 0 tcl.length tcl.length,cv]:=hst.ob.cel (A:=[nG P n 0])
 obtain⟨_,hall,hob2⟩:=lA.cellsK (A:=[nG P n 0,jB pb none [.str p.name,dv,.slice b 0 tcl.length tcl.length,cv],bB yA.base 3 (p.defs.map bF.d) dv]) hst.ob
 have hst2:St (P.wL ([jB pb none [.str p.name,dv,.slice b 0 tcl.length tcl.length,cv],bB yA.base 3 (p.defs.map bF.d) dv,jB b (some (.sz 3)) tcl.flatten,bB yA.base 7 R rv,bB yA.base 24 (p.clauses.map lE.d) cv]++P.L)) tf t n 0:=⟨hst.ts,hob2,hst.len,hst.le,hst.good,hst.glob⟩
 have hc2:yD t b (some (.sz 3)) tcl.flatten:=hob2.cel
 have g1:=kU hall A.length 1 _ (.bool x.two) hi rfl
 have g2:=kU hall A.length 2 _ rv hi rfl
 have e4:cA .i64 (n4-1)=(A.length:Int):=by rw[hn4,iC (by omega) (by omega)];omega
 refine iA nl (iA (gF 2 (by omega)) (sC (hc.load1 Gk rfl rfl) (iA (by rw[e4];exact hidx) (iA nl (iA (gT 2 (by omega)) (sC (hc2.load1 Jx rfl g2) (iA nl (iA (gT 1 (by omega)) (sC (hc2.load1 ty4 rfl g1) (cD (yB ?_)))))))))))
 rw[pE 90];refine row_ok (P:=P.wL ([jB pb none [.str p.name,dv,.slice b 0 tcl.length tcl.length,cv],bB yA.base 3 (p.defs.map bF.d) dv,jB b (some (.sz 3)) tcl.flatten,bB yA.base 7 R rv,bB yA.base 24 (p.clauses.map lE.d) cv]++P.L)) hst2 (hk.bind fun r n1 tf1 t1 w hr hle1 hst1 hrd1 hk1=>?_)
 obtain⟨cs,rfl,hrd⟩:=hrd1
 obtain⟨u,v,rfl,_⟩:=Pp hrd
 have o1:lA yA.base tf1 t1 ([nG P n1 0,jB pb none [.str p.name,dv,.slice b 0 tcl.length tcl.length,cv],bB yA.base 3 (p.defs.map bF.d) dv]++jB b (some (.sz 3)) tcl.flatten::([]++bB yA.base 7 R rv::(bB yA.base 24 (p.clauses.map lE.d) cv::P.L))):=hst1.ob
 have hc3:yD t1 b (some (.sz 3)) tcl.flatten:=o1.cel
 have hv:eL yA.base tf1 t1 7 R rv:=o1.ok (bB yA.base 7 R rv) (by simp)
 refine aC (vL hrd (lG.zs _)) (sC (hc3.load1 Jx rfl g2) (rA hv.same ?_))
 have hRl:R.length=x.rows.length:=by rw[hR,ybf]
 refine FD el128 Jx rfl rfl rfl (by omega) nl (gT 2 (by omega)) o1 g2 hrd (by
  change n<=P.tk.length at hle
  change P.tk.length<300000 at hl
  omega) fun t2 v' o2=>?_
 have ef:tcl.flatten.set (A.length*3+2) v'=(clA++[[.str x.name,.bool x.two,v']]).flatten:=by
  have hj:=(ybc.1 g2).1
  rw[<- FU hj,zcv hall hi (by show 2+1<=3;omega)]
  congr 1
  rw[htcl,DY hlA];rfl
 rw[ef]at o2;have hall2:∀(i:Nat) cs,(clA++[[.str x.name,.bool x.two,v']])[i]?=some cs->cs.length=3:=by
  intro i cs hi;rw[List.getElem?_append]at hi;split at hi
  ·rename_i hlt
   exact hall i cs (by rw[htcl,yco hlt];exact hi)
  ·exact Ee (sz:=3) rfl _ _ hi
 have o3:=lA.listK hall2 o2
 have elen:(clA++[[zA.str x.name,.bool x.two,v']]).length=tcl.length:=by rw[htcl];simp
 rw[elen]at o3;have hd:=Wl _ _ _ hr
 refine hk1 tf1 t2 (aA.refl _) ⟨dv,_,v',cv,clA++[[.str x.name,.bool x.two,v']],R++[r.d],.inr ⟨A,⟨x.name,x.two,x.rows++[r]⟩,clA,?_,rfl,wD.mono hle1 _ _ hrA,by rw[hR];simp⟩,⟨hst1.ts,o3,hst1.len,hst1.le,hst1.good,hst1.glob⟩,Nat.le_trans b1 hd,?_,by have:=h0 _ _ hr;simpa[hRl]using this,Nat.le_trans b4 hd⟩
 ·show fP p.tables r=_
  rw[hA];simp[fP]
 ·show(fP p.tables r).length<=n1
  rw[hA];simp[fP]
  rw[hA]at b2;simp at b2;omega
def za7{t:Tr vA}  (h:bA t 7 (x.rows.map lG.d) rv):RD t x.d [.str x.name,.bool x.two,rv]:=
 oI.2 ⟨[[.str x.name],[.bool x.two],[rv]],rfl,dC.2 ⟨_,_,rfl,pK.2 rfl,dC.2 ⟨_,_,rfl,dU.2 rfl,dC.2 ⟨_,_,rfl,pM.2 ⟨_,rfl,h⟩,wF.2 rfl⟩⟩⟩⟩
def CM{T:List pG}{tcl:List (List zA)}{R:List D} {tf':Tr vA}(h:Fx tf T tcl R rv)(hle:aA tf tf')(hr:bA tf' 7 R rv):wD tf' (T.map pG.d) tcl:=by
 rcases h with⟨rfl,rfl,_⟩ | ⟨A,x,clA,rfl,rfl,h3,rfl⟩
 ·exact wF.2 rfl
 ·rw[List.map_append]
  exact wD.app (wD.mono hle _ _ h3) (dC.2 ⟨_,_,rfl,za7 hr,wF.2 rfl⟩)
def CN {w:List Nat}{two:Bool}(hp:bW P pb p tf t n)(h0:p.tables.length+1<=n)
  (hk:sL P pb tf (.ok ⟨p.name,p.defs,p.tables++[⟨w,two,[]⟩],p.clauses⟩ n) Q E):pH E 60 23 [.ptr pb 0,.str w,.bool two] t Q:=by
 obtain⟨dv,tv,rv,cv,tcl,R,hT,hst,b1,b2,b3,b4⟩:=hp
 refine j60_23 _ _ _ ?_
 unfold zd6;have hl:=hst.len
 have hle:=hst.le
 change n<=P.tk.length at hle
 change P.tk.length<300000 at hl
 have hc:yD t pb none [.str p.name,dv,tv,cv]:=hst.ob.cel (A:=[nG P n 0])
 obtain⟨tf',hle1,o1,hrs⟩:=lA.freezeL (A:=[nG P n 0,jB pb none [.str p.name,dv,tv,cv],bB yA.base 3 (p.defs.map bF.d) dv,wI yA.base 3 tcl tv]) (B:=bB yA.base 24 (p.clauses.map lE.d) cv::P.L) hst.ob
 refine iA nl (iA (gF 2 (by omega)) (sC (hc.load1 Gk rfl rfl) (rA rfl (lC fun b hb hbase=>?_))))
 obtain⟨t1,h1,h2,h3,h4⟩:=FY (cs:=[.str w,.bool two,.nilslice]) el24 rfl (by omega) hb
 refine⟨_,_,h1,lC fun b2 hb2 hbase2=>?_⟩
 have o2:=o1.junk hb h4
 obtain⟨t2,v',k1,k2,k3,c1⟩:=lA.appendK (A:=[nG P n 0,jB pb none [.str p.name,dv,tv,cv],bB yA.base 3 (p.defs.map bF.d) dv]) (B:=bB yA.base 24 (p.clauses.map lE.d) cv::P.L) el24 o2 h2 (by intro a ha;simp at ha;rcases ha with rfl | rfl | rfl<;>rfl) (by rw[hT.len];omega) hb2 hbase2
 refine⟨_,_,k1,iA nl (iA (gF 2 (by omega)) (lC fun b3 _ _=>?_))⟩
 obtain⟨t3,m1,m2⟩:=lA.setCel (A:=[nG P n 0]) (j:=2) (v:=v') k2 Gk (by rw[c1];rfl) (by rw[c1];show 2+1<=4;omega) (by rw[c1];simpa[fB]using k3)
 rw[c1]at m2;refine⟨_,_,m1 b3,?_⟩
 have o4:=lA.add (A:=[nG P n 0,jB pb none [.str p.name,dv,v',cv],bB yA.base 3 (p.defs.map bF.d) dv,wI yA.base 3 (tcl++[[.str w,.bool two,.nilslice]]) v']) (B:=bB yA.base 24 (p.clauses.map lE.d) cv::P.L) (o':=bB yA.base 7 [] .nilslice) m2 (fun k _=>rfl) (fun k hk=>by cases hk) (.inl ⟨rfl,rfl⟩) (by simp[bB,aG]) m2.tle
 refine hk tf' t3 hle1 ⟨dv,v',.nilslice,cv,tcl++[[.str w,.bool two,.nilslice]],[],.inr ⟨p.tables,⟨w,two,[]⟩,tcl,rfl,rfl,CM hT hle1 hrs,rfl⟩,?_,b1,by simpa using h0,by simp,b4⟩
 exact⟨hst.ts.mono hle1,o4,hst.len,hst.le,hst.good,hst.glob.mono hle1⟩
def zh5 (hp:bW P pb p tf t n)(hk:sL P pb tf (jO P.tk p n) Q E):fJ yA F E 60 [.ptr P.bp 0,.ptr pb 0] t Q:=by
 have hp0:=hp
 obtain⟨dv,tv,rv,cv,tcl,R,hT,hst,b1,b2,b3,b4⟩:=hp
 refine w60 _ _ ?_
 unfold t60;have hc:yD t pb none [.str p.name,dv,tv,cv]:=hst.ob.cel (A:=[nG P n 0])
 have hLK:LK (.sz 3) yA.base t 3 tcl tv:=hst.ob.ok (wI yA.base 3 tcl tv) (by simp[xM,cI.wL])
 have hlen:pC tv=some (.int .i64 (p.tables.length:Int)):=by
  rw[<- hT.len];rcases hLK with⟨rfl,rfl⟩ | ⟨b,c,rfl,_⟩<;>rfl
 unfold jO at hk;have at1:∀(a:Nat) (t1:Tr vA),n<=a->St (P.wL (xM pb (.str p.name) dv tv rv cv (p.defs.map bF.d) tcl R (p.clauses.map lE.d)++P.L)) tf t1 a 0->bW P pb p tf t1 a:=fun a t1 ha h=>⟨dv,tv,rv,cv,tcl,R,hT,h,by omega,by omega,by omega,by omega⟩
 refine iA nl (iA (gF 2 (by omega)) (sC (hc.load1 Gk rfl rfl) (iA hlen (pB ?_))))
 refine Nf hst (fun ha t1 h1=>?_) (fun ha t1 h1=>?_)
 ·rw[yab ha]at hk
  exact LC (at1 _ _ (by omega) h1) (fun a n1 hr=>by have:=Ms _ _ _ hr;omega) hk
 rw[ha,yaa (by simp)]at hk
 refine Nf h1 (fun ha t2 h2=>?_) (fun ha t2 h2=>?_)
 ·rw[yab ha]at hk
  exact LC (at1 _ _ (by omega) h2) (fun a n1 hr=>by have:=Ms _ _ _ hr;omega) hk
 rw[ha,yaa (by simp)]at hk
 refine Nf h2 (fun ha t3 h3=>?_) (fun ha t3 h3=>?_)
 ·rw[yab ha]at hk
  unfold Dm at hk;rw[PR.bind_assoc]at hk;refine sL.name h3 hk fun w n1 tf1 t4 hup hle hst4 hk4=>?_
  have at2:∀(a:Nat) (tf2 t1:Tr vA),aA tf tf2->n<=a->St (P.wL (xM pb (.str p.name) dv tv rv cv (p.defs.map bF.d) tcl R (p.clauses.map lE.d)++P.L)) tf2 t1 a 0->bW P pb p tf2 t1 a:=fun a tf2 t1 hl ha h=>⟨dv,tv,rv,cv,tcl,R,hT.mono hl,h,by omega,by omega,by omega,by omega⟩
  refine dF (yB ?_)
  rw[pW 72];refine Cq (P:=P.wL (xM pb (.str p.name) dv tv rv cv (p.defs.map bF.d) tcl R (p.clauses.map lE.d)++P.L)) hst4 fun t5 h5=>cD ?_
  change St _ tf1 t5 (if acc P.tk Gf n1=true then n1+1 else n1) 0 at h5
  change pA _ _ _ (.ite (!acc P.tk Gf n1) _ (.jump 23 [.ptr pb 0,.str w,.bool (acc P.tk Gf n1)])) _ _
  cases h2:acc P.tk Gf n1 with
  | true=>
   rw[h2,yab rfl]at h5;rw[h2,yab rfl]at hk4;exact qB (by simp) (jC (CN (at2 _ _ _ hle (by omega) h5) (by omega) hk4))
  | false=>
   rw[h2,yaa (by simp)]at h5
   rw[h2,yaa (by simp),PR.bind_assoc]at hk4
   exact rA rfl (sL.exp h5 hk4 fun n6 tf6 t6 hup6 hle6 hst6 hk6=>jC (by
    have e2:pH E 60 23 [.ptr pb 0,.str w,.bool false] t6 Q:=CN (at2 _ _ _ (hle.trans hle6) (by omega) hst6) (by omega) hk6
    rw[<- h2]at e2;exact e2))
 rw[ha,yaa (by simp)]at hk
 have last:∀t4,St (P.wL (xM pb (.str p.name) dv tv rv cv (p.defs.map bF.d) tcl R (p.clauses.map lE.d)++P.L)) tf t4 n 0->sL P pb tf (if acc P.tk Jn n=true then(nT P.tk (n+1)).bind fun c n1=>.ok ⟨p.name,p.defs,p.tables,p.clauses++[c]⟩ n1 else .er 120 n) Q E →
   pA yA.base (dE yA F vC tF E) (JqE yA F E 60) (.call 72 [.ptr P.bp 0,.str Jn] fun a74=>.asB a74 fun b75=>.ite b75 (.opt (zG (.ptr pb 0)) fun a7=>.opt (kC yA 27 3 a7) fun a8=>.light (fun m=>mA yA 25 ⟨0,m⟩ a8) fun a9=>.call 91 [.ptr P.bp 0] fun a10=>.asG [(.str []),(.str []),(.int .i64 0),(.int .i64 0),(.int .i64 0),(.bool false),(.int .u8 0),(.str []),(.int .u8 0),(.bool false),.nilslice,(.bool false),.nilslice,(.int .i64 0),.nilslice,(.int .u8 0),(.str []),(.int .u8 0),(.bool false),.nilslice,(.bool false),.nilslice,(.int .i64 0),.nilslice] a10 fun X=>
   .light (fun m=>mA yA 25 ⟨0,m⟩ a8) fun a12=>.ite (same 10 a12 a9) (Hb 25 (.ptr pb 0) (kC yA 27 3) a8 a9 [(.str (X.s 0)),(.str (X.s 1)),(.int .i64 (X.i 2)),(.int .i64 (X.i 3)),(.int .i64 (X.i 4)),(.bool (X.b 5)),(.int .u8 (X.i 6)),(.str (X.s 7)),(.int .u8 (X.i 8)),(.bool (X.b 9)),(X.v 10),(.bool (X.b 11)),(X.v 12),(.int .i64 (X.i 13)),(X.v 14),(.int .u8 (X.i 15)),(.str (X.s 16)),(.int .u8 (X.i 17)),(.bool (X.b 18)),(X.v 19),(.bool (X.b 20)),(X.v 21),(.int .i64 (X.i 22)),(X.v 23)]) .fail)
   (.call 48 [.ptr P.bp 0,.int .i64 120] fun _=>.ret (.tup []))) t4 Q:=by
  intro t4 h4 hk;refine Nf h4 (fun ha t5 h5=>?_) (fun ha t5 h5=>?_)
  ·rw[yab ha]at hk
   exact zjt (at1 _ _ (by omega) h5) (fun a n1 hr=>by have:=AL _ _ _ hr;omega) hk
  ·rw[ha,yaa (by simp)]at hk
   refine yB ?_
   rw[pE 48];exact KL (P:=P.wL (xM pb (.str p.name) dv tv rv cv (p.defs.map bF.d) tcl R (p.clauses.map lE.d)++P.L)) h5 (hk tf t5 n 0 (aA.refl _) h5.dropL)
 by_cases h0:p.tables=[]
 ·rw[h0]at hk
  refine qB (by rw[h0];simp[fC]) (last t3 h3 ?_)
  rw[h0];simpa using hk
 ·obtain⟨A,x,hA⟩:∃A x,p.tables=A++[x]:=⟨p.tables.dropLast,p.tables.getLast h0,(List.dropLast_concat_getLast h0).symm⟩
  refine rA (by rw[hA];simp[fC]) (Nf h3 (fun ha t4 h4=>?_) (fun ha t4 h4=>last t4 h4 ?_))
  ·have hx:Bv p.tables=x.two:=by rw[hA];simp[Bv]
   rw[yab (by rw[ha,hA];simp),hx]at hk
   have hxr:x.rows.length<=n:=by
    rcases hT with⟨hT,_⟩ | ⟨A',x',clA,hT,htcl,hrA,hR⟩
    ·rw[hT]at hA;simp at hA
    obtain⟨rfl,e⟩:=List.append_inj' (hA.symm.trans hT) rfl
    cases e
    rw[hR,ybf]at b3;exact b3
   exact zbq (at1 _ _ (by omega) h4) hA (by rw[hA];simp) (fun a n1 hr=>by have:=Wl _ _ _ hr;omega) hk
  ·rw[ha]at hk
   simpa using hk
end
end
section
variable {p x:pD}{cs:List zA}
variable [eC]
def Ks(tf:Tr vA)(x:pD)(v:zA):Prop:=∃cs,v=.agg cs/\RD tf x.d cs
section
variable {P:cI}{tf t:Tr vA}{n d pb:Nat}{Q E:sB}{J W:kE}
theorem bW.fin (hp:bW P pb p tf t n):∃tf' cs,aA tf tf'/\St P tf' t n 0/\mA yA 27 ⟨0,t⟩ (.ptr pb 0)=some (.agg cs)/\RD tf' p.d cs:=by
 obtain⟨dv,tv,rv,cv,tcl,R,hT,hst,b1,b2,b3,b4⟩:=hp
 have hc:yD t pb none [.str p.name,dv,tv,cv]:=hst.ob.cel (A:=[nG P n 0])
 obtain⟨tf1,l1,o1,r1⟩:=lA.freezeL (A:=[nG P n 0,jB pb none [.str p.name,dv,tv,cv],bB yA.base 3 (p.defs.map bF.d) dv,wI yA.base 3 tcl tv]) (B:=bB yA.base 24 (p.clauses.map lE.d) cv::P.L) hst.ob
 obtain⟨tf2,l2,o2,r2⟩:=lA.freezeL (A:=[nG P n 0,jB pb none [.str p.name,dv,tv,cv],bB yA.base 3 (p.defs.map bF.d) dv,wI yA.base 3 tcl tv]) (B:=P.L) o1
 obtain⟨tf3,l3,o3,r3⟩:=lA.freezeL (A:=[nG P n 0,jB pb none [.str p.name,dv,tv,cv]]) (B:=wI yA.base 3 tcl tv::P.L) o2
 have hLK:LK (.sz 3) yA.base t 3 tcl tv:=o3.ok (wI yA.base 3 tcl tv) (by simp)
 have hrd:=CM hT l1 r1
 obtain⟨tf4,l4,o4,r4⟩:∃tf4,aA tf3 tf4/\lA yA.base tf4 t ([nG P n 0,jB pb none [.str p.name,dv,tv,cv]]++P.L)/\bA tf4 3 (p.tables.map pG.d) tv:=by
  have od:=lA.drop (A:=[nG P n 0,jB pb none [.str p.name,dv,tv,cv]]) o3
  rcases hLK with⟨rfl,rfl⟩ | ⟨b,c,rfl,h1,h2,h3⟩
  ·exact⟨tf3,aA.refl _,od,[],.inl ⟨rfl,rfl⟩,wD.mono (l2.trans l3) _ _ hrd⟩
  ·have hni:=o3.notin (A:=[nG P n 0,jB pb none [.str p.name,dv,_,cv]]) (o:=wI yA.base 3 tcl (.slice b 0 tcl.length tcl.length)) (k:=b) (by simp[wI,aG])
   obtain⟨m1,m2⟩:=od.froze hni h2 (o3.low b (by simp[wI,aG])).2
   exact⟨_,m2,m1,tcl,.inr ⟨b,0,tcl.length,rfl,ybk _,⟨_,_,_,by rw[Tr.get_set,yab rfl],.inr ⟨_,rfl,rfl⟩⟩,fun i cs hi=>⟨(h3 i cs hi).1,_,_,_,by rw[Tr.get_set,yab rfl],fun j a hj=>by rw[ybw];exact(h3 i cs hi).2 j a hj⟩⟩,wD.mono ((l2.trans l3).trans m2) _ _ hrd⟩
 have l:=((l1.trans l2).trans l3).trans l4
 refine⟨tf4,[.str p.name,dv,tv,cv],l,⟨hst.ts.mono l,lA.drop (A:=[nG P n 0]) o4,hst.len,hst.le,hst.good,hst.glob.mono l⟩,?_,?_⟩
 ·have:=hc.at.load (j:=0) (n:=4) ty27 rfl rfl (by simp)
  simpa using this
 ·exact oI.2 ⟨[[.str p.name],[dv],[tv],[cv]],rfl,dC.2 ⟨_,_,rfl,pK.2 rfl,dC.2 ⟨_,_,rfl,pM.2 ⟨_,rfl,r3.mono l4⟩,dC.2 ⟨_,_,rfl,pM.2 ⟨_,rfl,r4⟩,dC.2 ⟨_,_,rfl,pM.2 ⟨_,rfl,r2.mono (l3.trans l4)⟩,wF.2 rfl⟩⟩⟩⟩⟩
def agP  (h:RD tf x.d cs):jJ [.str [],.nilslice,.nilslice,.nilslice] (.agg cs)=some (cellsOf cs):=vL h (pD.zs _)
def Fo  (h:RD tf x.d cs):[zA.str ((cellsOf cs).s 0),(cellsOf cs).v 1,(cellsOf cs).v 2,(cellsOf cs).v 3]=cs:=by
 obtain⟨a,b,c,rfl,_⟩:=bY h
 rfl
def zcc{tk:List uC}  : Up (jO tk p):=by
 intro n a n' h;unfold jO at h;split at h
 ·have:=xF Ms (fun d=>nL (a:=(⟨p.name,p.defs++[d],p.tables,p.clauses⟩:pD))) _ _ _ h;omega
 split at h
 ·have:=xF Ms (fun d=>nL (a:=(⟨p.name,p.defs++[d],p.tables,p.clauses⟩:pD))) _ _ _ h;omega
 split at h
 ·have:=xF PG (fun d=>nL (a:=(⟨p.name,p.defs,p.tables++[d],p.clauses⟩:pD))) _ _ _ h;omega
 split at h
 ·have:=xF Wl (fun d=>nL (a:=(⟨p.name,p.defs,fP p.tables d,p.clauses⟩:pD))) _ _ _ h;omega
 split at h
 ·have:=xF AL (fun d=>nL (a:=(⟨p.name,p.defs,p.tables,p.clauses++[d]⟩:pD))) _ _ _ h;omega
 ·cases h
def Ok.bindX{X:List kD}{α β:Type}{rd1:Tr vA->α->zA->Prop}{rd:Tr vA->β->zA->Prop}{r:PR α}{f:α->Nat->PR β}{Q1:sB}(h:Ok P rd d tf (r.bind f) Q E)
  (k:∀a n1 tf1 t1 v,r=.ok a n1->aA tf tf1->St (P.wL (X++P.L)) tf1 t1 n1 d->rd1 tf1 a v->Ok P rd d tf1 (f a n1) Q E->Q1 v t1):Ok (P.wL (X++P.L)) rd1 d tf r Q1 E:=by
 cases r with
 | ok a n=>exact fun tf' t' v h1 h2 h3=>k a n tf' t' v rfl h1 h2 h3 (Ok.mono h h1)
 | er e i=>exact fun tf' t' n' d' h1 h2=>h tf' t' n' d' h1 h2.dropL
def zca:∀(m:Nat) (p:pD) (n:Nat) (tf t:Tr vA) (a b c:zA) (s:List Nat),P.tk.length<=n+m->bW P pb p tf t n->Ok P Ks 0 tf (oJ P.tk m p n) Q E->pH E 29 2 [.ptr P.bp 0,.ptr pb 0,.str s,a,b,c] t Q:=by
 intro m;induction m with
 | zero=>
  intro p n tf t a b c s hm hp hk;refine zie _ _ _ _ _ _ ?_
  unfold Ow;have hp0:=hp
  obtain⟨dv,tv,rv,cv,tcl,R,hT,hst,b1,b2,b3,b4⟩:=hp
  obtain⟨tf',cs,k1,k2,k3,k4⟩:=hp0.fin
  refine iA nl (iA f1 (sC hst.l1 (pB (iA nl (iA f0 (sC hst.l0 (iA hst.len' (pB (qB ?_ (sC k3 (aC (agP k4) ?_)))))))))))
  ·rw[fC]
   change ¬ decide ((n:Int)<(P.tk.length:Int))=true
   simp;omega
  ·have e:=Fo k4
   have hone:=k4.all
   rw[<- e]at hone;refine rA hone ?_
   show Q (.agg _) t
   rw[e];exact hk tf' t _ k1 k2 ⟨cs,rfl,k4⟩
 | succ m ih=>
  intro p n tf t a b c s hm hp hk;by_cases hn:n<P.tk.length
  ·refine zie _ _ _ _ _ _ ?_
   unfold Ow;unfold oJ at hk;rw[yab hn]at hk;have hp0:=hp
   obtain⟨dv,tv,rv,cv,tcl,R,hT,hst,b1,b2,b3,b4⟩:=hp
   refine iA nl (iA f1 (sC hst.l1 (pB (iA nl (iA f0 (sC hst.l0 (iA hst.len' (pB (rA ?_ (yB ?_))))))))))
   ·rw[fC]
    change decide ((n:Int)<(P.tk.length:Int))=true
    simp;omega
   rw[pE 60];refine zh5 hp0 ?_
   cases hr:jO P.tk p n with
   | er e i=>rw[hr]at hk;exact hk
   | ok p1 n1=>
    rw[hr]at hk;change Ok P Ks 0 tf ((tE P.tk 5 n1).bind fun _ n2=>oJ P.tk m p1 n2) Q E at hk
    have hup:=zcc _ _ _ hr
    intro tf1 t1 hle hp1;obtain⟨dv1,tv1,rv1,cv1,tcl1,R1,hT1,hst1,c1,c2,c3,c4⟩:=hp1
    refine yB ?_
    rw[pE 59];refine Dl (k:=5) (P:=P.wL (xM pb (.str p1.name) dv1 tv1 rv1 cv1 (p1.defs.map bF.d) tcl1 R1 (p1.clauses.map lE.d)++P.L)) (by omega) hst1 ((hk.mono hle).bindX fun w n2 tf2 t2 v hr2 hle2 hst2 hrd2 hk2=>?_)
    obtain⟨x,_,_,rfl⟩:=hrd2
    have hup2:n1+1=n2:=by
     change tE P.tk 5 n1=_ at hr2
     unfold tE at hr2;split at hr2<;>cases hr2
     rfl
    exact aC (qS _) (jC (ih p1 n2 tf2 t2 _ _ _ _ (by omega) ⟨dv1,tv1,rv1,cv1,tcl1,R1,hT1.mono hle2,hst2,by omega,by omega,by omega,by omega⟩ hk2))
  ·have hk0:Ok P Ks 0 tf (oJ P.tk 0 p n) Q E:=by
    unfold oJ at hk;rw[yaa hn]at hk;exact hk
   clear ih hk
   refine zie _ _ _ _ _ _ ?_
   unfold Ow;have hp0:=hp
   obtain⟨dv,tv,rv,cv,tcl,R,hT,hst,b1,b2,b3,b4⟩:=hp
   obtain⟨tf',cs,k1,k2,k3,k4⟩:=hp0.fin
   refine iA nl (iA f1 (sC hst.l1 (pB (iA nl (iA f0 (sC hst.l0 (iA hst.len' (pB (qB ?_ (sC k3 (aC (agP k4) ?_)))))))))))
   ·rw[fC]
    change ¬ decide ((n:Int)<(P.tk.length:Int))=true
    simp;omega
   ·have e:=Fo k4
    have hone:=k4.all
    rw[<- e]at hone;refine rA hone ?_
    show Q (.agg _) t
    rw[e];exact hk0 tf' t _ k1 k2 ⟨cs,rfl,k4⟩
def zhk(h:St P tf t 0 0)(hk:Ok P Ks 0 tf (pF P.tk) Q E):fJ yA F E 29 [.ptr P.bp 0] t Q:=by
 refine w29 _ ?_
 unfold t29;refine lC fun pb hb hbase=>?_
 obtain⟨t1,h1,h2,h3,h4⟩:=rS (C:=yA) (b:=pb) ty27 hb
 refine⟨_,_,h1,?_⟩
 have o1:lA yA.base tf t1 (nG P 0 0::(xM pb (.str []) .nilslice .nilslice .nilslice .nilslice [] [] [] []++P.L)):=by
  have a1:=lA.newCel (A:=[nG P 0 0]) (B:=P.L) h.ob hb hbase h2 h3 h4
  have a2:=lA.add (A:=[nG P 0 0,jB pb none [.str [],.nilslice,.nilslice,.nilslice]]) (B:=P.L) (o':=bB yA.base 24 [] .nilslice) a1 (fun k _=>rfl) (fun k hk=>by cases hk) (.inl ⟨rfl,rfl⟩) (by simp[bB,aG]) a1.tle
  have a3:=lA.add (A:=[nG P 0 0,jB pb none [.str [],.nilslice,.nilslice,.nilslice]]) (B:=bB yA.base 24 [] .nilslice::P.L) (o':=bB yA.base 7 [] .nilslice) a2 (fun k _=>rfl) (fun k hk=>by cases hk) (.inl ⟨rfl,rfl⟩) (by simp[bB,aG]) a1.tle
  have a4:=lA.add (A:=[nG P 0 0,jB pb none [.str [],.nilslice,.nilslice,.nilslice]]) (B:=bB yA.base 7 [] .nilslice::bB yA.base 24 [] .nilslice::P.L) (o':=wI yA.base 3 [] .nilslice) a3 (fun k _=>rfl) (fun k hk=>by cases hk) (.inl ⟨rfl,rfl⟩) (by simp[wI,aG]) a1.tle
  exact lA.add (A:=[nG P 0 0,jB pb none [.str [],.nilslice,.nilslice,.nilslice]]) (B:=wI yA.base 3 [] .nilslice::bB yA.base 7 [] .nilslice::bB yA.base 24 [] .nilslice::P.L) (o':=bB yA.base 3 [] .nilslice) a4 (fun k _=>rfl) (fun k hk=>by cases hk) (.inl ⟨rfl,rfl⟩) (by simp[bB,aG]) a1.tle
 have hst:St (P.wL (xM pb (.str []) .nilslice .nilslice .nilslice .nilslice [] [] [] []++P.L)) tf t1 0 0:=⟨h.ts,o1,h.len,h.le,h.good,h.glob⟩
 unfold pF at hk;refine Fe (P:=P.wL (xM pb (.str []) .nilslice .nilslice .nilslice .nilslice [] [] [] []++P.L)) hst (hk.bindX fun u n1 tf1 t2 v hr1 hle1 hst1 hrd1 hk1=>yB ?_)
 rw[pE 58];refine Eh (P:=P.wL (xM pb (.str []) .nilslice .nilslice .nilslice .nilslice [] [] [] []++P.L)) hst1 (hk1.bindX fun w n2 tf2 t3 v hr2 hle2 hst2 hrd2 hk2=>?_)
 cases hrd2;refine dF (iA (gF 0 (by omega)) (lC fun b2 _ _=>?_))
 obtain⟨t4,m1,m2⟩:=lA.setCel (A:=[nG P n2 0]) (j:=0) (v:=.str w) hst2.ob sP rfl (by show 0+1<=4;omega) rfl
 refine⟨_,_,m1 b2,yB ?_⟩
 have hst4:St (P.wL (xM pb (.str w) .nilslice .nilslice .nilslice .nilslice [] [] [] []++P.L)) tf2 t4 n2 0:=⟨hst2.ts,m2,hst2.len,hst2.le,hst2.good,hst2.glob⟩
 rw[pE 59];refine Dl (k:=5) (P:=P.wL (xM pb (.str w) .nilslice .nilslice .nilslice .nilslice [] [] [] []++P.L)) (by omega) hst4 (hk2.bindX fun w5 n3 tf3 t5 v hr3 hle3 hst3 hrd3 hk3=>?_)
 obtain⟨x,_,_,rfl⟩:=hrd3
 exact aC (qS _) (jC (zca _ _ _ _ _ _ _ _ _ (by omega) ⟨.nilslice,.nilslice,.nilslice,.nilslice,[],[],.inl ⟨rfl,rfl,rfl,rfl⟩,hst3,by simp,by simp,by simp,by simp⟩ hk3))
end
end
section
variable [eC]
abbrev zP:List zA:=[.str [],.nilslice,.nilslice,.nilslice]
abbrev cP(X:kG):List zA:=[.str (X.s 0),X.v 1,X.v 2,X.v 3]
def t28_eq(s:List Nat)(p1:zA):t28 s p1=tRun 27 zP cP s p1:=rfl
def PH(v1 v4 v5 v6 v8:zA):Uq v1 v4 v5 v6 v8=tR13 27 zP cP v1 v4 v5 v6 v8:=rfl
def zba(v0 v1 v2 v3:zA):Ou v0 v1 v2 v3=tR3 27 zP v0 v1 v2 v3:=rfl
def zbb(v4 v5 v6:zA):Ox v4 v5 v6=tRe 27 v4 v5 v6:=rfl
def rt27:RT 27 zP cP:=⟨⟨_,ty27,rfl,rfl,rfl⟩,rfl,cQ rfl,rfl⟩
section
variable {t:Tr vA}{Q:sB}{s:List Nat}
def run28(hg:rL t)(hby:∀b∈s,b<256)(hQ:match mI pF s with
  | .ok x=>∀t' cs,aA t t'->RD t' x.d cs->Q (.tup [.agg cs,.agg [.int .i64 0,.int .i64 0],.int .i64 0]) t'
  | .er e a b=>∀t',aA t t'->Q (.tup [.agg zP,.agg [.int .i64 (a:Int),.int .i64 (b:Int)],.int .i64 (e:Int)]) t'):Wc yA F 28 [.str s,.func (.func 29) [] []] t Q:=by
 refine w28 _ _ ?_
 rw[t28_eq];refine zhd rt27 hg hby (fun m hm=>Lm hm) (fun e a b h=>⟨HC h,?_⟩) (fun m hm tf1 t1 P b0 b1 b2 e1 e2 e3 e4 hle hst=>⟨rfl,tl28 _ _ _ _ _ ?_⟩)
 ·rw[Wj h]at hQ;exact hQ
 ·rw[PH]
  simp only[zba,zbb];refine tail13 (rd:=Ks) (good:=fun tf' x cs=>RD tf' x.d cs) (r:=pF P.tk) rt27 e4 hst ?_ (fun Q E hk=>by rw[pE 29];exact zhk hst hk) (by kernel_rfl) (fun tf' x v ⟨cs,h1,h2⟩=>⟨cs,h1,by obtain⟨a,b,c,rfl,_⟩:=bY h2;rfl,agP h2,Fo h2,by obtain⟨a,b,c,rfl,_⟩:=bY h2;exact h2.all,h2⟩)
  rw[Pl hm]at hQ;rw[e1]
  cases hr:pF m with
  | ok x n=>
   rw[hr]at hQ;exact fun tf' t' cs k1 k2 k3=>hQ t' cs (hle.trans (k1.trans k2)) (k3.mono k2)
  | er e i=>
   rw[hr]at hQ;have ht:tG P i=Gl m s i:=by unfold tG Gl;rw[e1,e2,e3]
   intro t' k1;rw[ht];exact hQ t' (hle.trans k1)
def zhm(hg:rL t)(hby:∀b∈s,b<256)(hQ:match mI pF s with
  | .ok x=>∀t' cs,aA t t'->RD t' x.d cs->Q (.tup [.agg cs,.agg [.int .i64 0,.int .i64 0],.int .i64 0]) t'
  | .er e a b=>∀t',aA t t'->Q (.tup [.agg zP,.agg [.int .i64 (a:Int),.int .i64 (b:Int)],.int .i64 (e:Int)]) t'):Wc yA F 10 [.str s] t Q:=by
 refine w10 ?_
 unfold t10;refine yB ?_
 rw[q28];refine run28 hg hby ?_
 cases hr:mI pF s with
 | ok x=>
  rw[hr]at hQ;intro t' cs k1 k2;refine iA (v:=.agg cs) rfl (aC (agP k2) (iA (v:=.agg [.int .i64 0,.int .i64 0]) rfl (aC ag2 (iA (v:=.int .i64 0) rfl (pB ?_)))))
  show pA _ _ _ (.ite (fB zA.one (cP (cellsOf cs))) (.ite true (.ret (.tup [.agg (cP (cellsOf cs)),_,_])) .fail) .fail) _ _
  have hc:cP (cellsOf cs)=cs:=Fo k2
  rw[hc];refine rA (by obtain⟨a,b,c,rfl,_⟩:=bY k2;exact k2.all) (rA rfl (hQ t' cs k1 k2))
 | er e a b=>
  rw[hr]at hQ;intro t' k1;exact iA (v:=.agg zP) rfl (aC rt27.ag (iA (v:=.agg [.int .i64 (a:Int),.int .i64 (b:Int)]) rfl (aC ag2 (iA (v:=.int .i64 (e:Int)) rfl (pB (rA rfl (rA rfl (hQ t' k1))))))))
end
end
end Go.Proofs
namespace Go.Am
open Go Go.RowKit
section
variable {t:Tr vA}{C:oA}{W J:kE}{S el sz p:Nat}{Q:sB}{zs:List zA}
abbrev Cmp:=List zA->List zA->(zA->T)->T
def cmpC (g:Nat):Cmp:=fun a b K=>.call g [.agg a,.agg b] K
def zha(C:oA)(S el p:Nat)(g:Cmp)(zs:List zA)(ne:Bool->Bool)(v0 v1:zA)(i:Int):T:=
 .opt (pC v0) fun a0=>.asI .i64 a0 fun n1=>.ite (iB i n1)
  (.opt (xC C S v0 (.int .i64 i)) fun a2=>.light (fun m=>mA C el ⟨0,m⟩ a2) fun a3=>.asG zs a3 fun X4=>
   .opt (xC C S v1 (.int .i64 i)) fun a5=>.light (fun m=>mA C el ⟨0,m⟩ a5) fun a6=>.asG zs a6 fun X7=>
   g (kM zs X4 0) (kM zs X7 0) fun a8=>.asB a8 fun b9=>.ite (ne b9) (.ret (.bool false)) (.jump p [v0,v1,.int .i64 (cA .i64 (i+1))]))
  (.ret (.bool true))
theorem Kl{g:Cmp}{ne:Bool->Bool}{ok:Bool}{ds:List D}{v0 v1:zA}(hS:zH C S el sz true)(hz:∀d∈ds,d.zs=zs)(hne:ne ok=false)
  (hg:∀d∈ds,∀cs cs' K,RD t d cs->RD t d cs'->pA C.base W J (K (.bool ok)) t Q->pA C.base W J (g cs cs' K) t Q) (hlen:ds.length<300000)
  (hj:∀i,pA C.base W J (zha C S el p g zs ne v0 v1 i) t Q->J p [v0,v1,.int .i64 i] t Q) (h0:bA t sz ds v0) (h1:bA t sz ds v1) (hQ:Q (.bool true) t) :
  ∀(k i:Nat),i+k=ds.length->J p [v0,v1,.int .i64 (i:Int)] t Q:=by
 intro k;induction k with
 | zero=>
  intro i hi;refine hj _ ?_
  unfold zha;exact iA h0.len (pB (qB (fun e=>by grind [jF]) hQ))
 | succ k ih=>
  intro i hi;have hlt:i<ds.length:=by omega
  have hd:ds[i]?=some ds[i]:=ybd hlt
  have hm:ds[i]∈ds:=ycj hlt
  obtain⟨b,off,cs,g1,g2,g3,g4,g5⟩:=zH.at hS (by simp) h0 hd
  obtain⟨b',off',cs',f1,f2,f3,f4,f5⟩:=zH.at hS (by simp) h1 hd
  have hzz:=hz _ hm
  refine hj _ ?_
  unfold zha;refine iA h0.len (pB (rA (jF.2 (by omega)) (iA g1 (sC g2 (aC (vL g5 hzz) (iA f1 (sC f2 (aC (vL f5 hzz) ?_))))))))
  rw[g5.mk hzz,f5.mk hzz];refine hg _ hm _ _ _ g5 f5 (cD (qB (by simp_all) (jC ?_)))
  rw[iC (by omega) (by omega)]
  exact ih (i+1) (by omega)
end
end Go.Am
namespace Go.Proofs
open Go Go.Am
mutual
def fA.cpy:fA->Prop
 | .mk _ _ v args=>(v.f.n.limbs.length<300000/\v.f.d.limbs.length<300000)/\args.length<300000/\fA.cpys args
def fA.cpys:List fA->Prop
 | []=>True
 | x::l=>fA.cpy x/\fA.cpys l
end
structure pD.cpy (p:pD):Prop where
 defs:p.defs.length<300000
 tables:p.tables.length<300000
 clauses:p.clauses.length<300000
 rows:∀x∈p.tables,x.rows.length<300000/\∀r∈x.rows,r.f.n.limbs.length<300000/\r.f.d.limbs.length<300000
 exprs:∀x∈p.clauses,fA.cpy x.when_/\fA.cpy x.then_
def vH.cpy(f:vH):Prop:=f.n.limbs.length<300000/\f.d.limbs.length<300000
def NE (tk:List uC)(a b:Nat):Prop:=∀j,a<=j->j<b->zD tk 5 j=false
theorem NE.nil{tk:List uC}{a:Nat}:NE tk a a:=fun j h1 h2=>by omega
def NE.join{tk:List uC}{a b c:Nat}(h:NE tk a b)(k:NE tk b c):NE tk a c:=fun j h1 h2=>by
 by_cases hj:j<b
 ·exact h j h1 hj
 ·exact k j (by omega) h2
theorem NE.one{tk:List uC}{a:Nat}(h:zD tk 5 a=false):NE tk a (a+1):=fun j h1 h2=>by
 have:j=a:=by omega
 subst this;exact h
def Rg{tk:List uC}{n q:Nat}(h:zD tk q n=true)(hq:q≠5):zD tk 5 n=false:=by
 unfold zD at *
 cases hx:tk[n]? with
 | none=>rfl
 | some t=>
  rw[hx]at h;have:=of_decide_eq_true h
  exact decide_eq_false (by omega)
def Cr{tk:List uC}{n:Nat}{w:List Nat}(h:acc tk w n=true):zD tk 5 n=false:=by
 unfold acc at h;unfold zD
 cases hx:tk[n]? with
 | none=>rfl
 | some t=>
  rw[hx]at h;simp only[ybb,ycq,decide_eq_true_eq]at h;exact decide_eq_false (by omega)
structure VP where
 tk:List uC
 tk2:List uC
 d:Nat
 k:Nat
 full:Prop
 dp:Prop
 lo:Nat:=0
abbrev dT:List (List Nat):=[[41],zgc]
structure VW (S:VP):Prop where
 acc:∀i,S.lo<=i->i<S.k->∀w,Proofs.acc S.tk2 w (i+S.d)=Proofs.acc S.tk w i
 kind:∀i,S.lo<=i->i<S.k->∀q,zD S.tk2 q (i+S.d)=zD S.tk q i
 text:∀i,S.lo<=i->i<S.k->fE S.tk2 (i+S.d)=fE S.tk i
 qacc:∀w,w∉dT->Proofs.acc S.tk2 w (S.k+S.d)=false
 qkind:∀q,q=2\/q=3->zD S.tk2 q (S.k+S.d)=false
 qname:sK S.tk2 (S.k+S.d)=false
 full:S.full->¬ S.dp/\(∀w,Proofs.acc S.tk2 w (S.k+S.d)=false)/\∀q,q≠5->zD S.tk2 q (S.k+S.d)=false
 good:∀x∈S.tk,rP x
def yP {α:Type}(j:Nat)(r:PR α):Prop:=match r with | .ok _ n=>n=j | .er e i=>i=j/\(e=120\/e=122)
def MO {α:Type}(S:VP)(V:α->Prop)(n:Nat)(r:PR α):Prop:=
 match r with | .ok a n'=>n<=n'/\NE S.tk n n'/\V a | .er e i=>n<=i/\NE S.tk n i/\(e=120\/e=121\/e=122)
structure RA {α:Type} (S:VP) (V:α->Prop) (n:Nat) (r r2:PR α):Prop where
 mo:MO S V n r
 ok:n<=S.k->∀a n',r=.ok a n'->n'<=S.k->r2=.ok a (n'+S.d)\/(S.dp/\∃i,r2=.er 122 i)
 er:n<=S.k->S.full->∀e,r=.er e S.k->yP (S.k+S.d) r2
structure rB {α:Type} (S:VP) (H:Prop) (V:α->Prop) (f f2:PM α):Prop where
 ra:H->∀n,S.lo<=n->RA S V n (f n) (f2 (n+S.d))
 rr:S.full->yP (S.k+S.d) (f2 (S.k+S.d))
section
variable {S:VP}{H:Prop}{α β:Type}{V:α->Prop}{W:β->Prop}{n:Nat}
def RA.right{r r2 r2':PR α}(h:RA S V n r r2')(e:n<=S.k->r2=r2'):RA S V n r r2:=
 ⟨h.mo,fun hn=>by rw[e hn];exact h.ok hn,fun hn=>by rw[e hn];exact h.er hn⟩
theorem RA.step{r r2 r2':PR α}(hn:zD S.tk 5 n=false)(h:RA S V (n+1) r r2')(e:n<S.k->r2=r2'):RA S V n r r2:=by
 have hm:=h.mo
 refine⟨?_,fun hk a n' hr hn'=>?_,fun hk hf e' hr=>?_⟩
 ·unfold MO at hm ⊢
  cases r with
  | ok a n'=>exact⟨by omega,(NE.one hn).join hm.2.1,hm.2.2⟩
  | er e i=>exact⟨by omega,(NE.one hn).join hm.2.1,hm.2.2⟩
 ·subst hr
  have:=hm.1
  rw[e (by omega)]
  exact h.ok (by omega) a n' rfl hn'
 ·subst hr
  have:=hm.1
  rw[e (by omega)]
  exact h.er (by omega) hf e' rfl
def RA.bind(hv:VW S){r r2:PR α}{g g2:α->PM β}(hf:RA S V n r r2)(hg:∀a n1,r=.ok a n1->n<=n1->V a->RA S W n1 (g a n1) (g2 a (n1+S.d)))(hz:S.full->∀a,yP (S.k+S.d) (g2 a (S.k+S.d))):RA S W n (r.bind g) (r2.bind g2):=by
 have hm:=hf.mo
 cases r with
 | er e i=>
  refine⟨hm,fun _ a n' h=>(by cases h),fun hn hfu e' hr=>?_⟩
  have:=hf.er hn hfu e' (by cases hr;rfl)
  cases r2 with
  | ok a m=>unfold yP at this;subst this;exact hz hfu a
  | er e i=>exact this
 | ok a n1=>
  obtain⟨h1,h2,h3⟩:=hm
  have hg1:=hg a n1 rfl h1 h3
  have hgm:=hg1.mo
  refine⟨?_,fun hn b n' hr hn'=>?_,fun hn hfu e' hr=>?_⟩
  ·show MO S W n (g a n1)
   unfold MO at hgm ⊢
   cases hq:g a n1 with
   | ok b n'=>rw[hq]at hgm;exact⟨by omega,h2.join hgm.2.1,hgm.2.2⟩
   | er e i=>rw[hq]at hgm;exact⟨by omega,h2.join hgm.2.1,hgm.2.2⟩
  ·change g a n1=_ at hr
   rw[hr]at hgm;have:=hgm.1
   rcases hf.ok hn a n1 rfl (by omega)with e | ⟨e1,i,e2⟩
   ·rw[e];exact hg1.ok (by omega) b n' hr hn'
   ·rw[e2];exact .inr ⟨e1,i,rfl⟩
  ·change g a n1=_ at hr
   rw[hr]at hgm;have:=hgm.1
   rcases hf.ok hn a n1 rfl (by omega)with e | ⟨e1,i,e2⟩
   ·rw[e];exact hg1.er (by omega) hfu e' hr
   ·exact absurd e1 (hv.full hfu).1
def yP.bind{j:Nat}{r:PR α}{g:α->PM β}(h:yP j r)(hg:∀a,yP j (g a j)):yP j (r.bind g):=by
 cases r with
 | ok a n=>unfold yP at h;subst h;exact hg a
 | er e i=>exact h
def rB.bind(hv:VW S){f f2:PM α}{g g2:α->PM β}(hf:rB S H V f f2)(hg:∀a,rB S (H/\V a) W (g a) (g2 a)):rB S H W (fun n=>(f n).bind g) (fun n=>(f2 n).bind g2):=
 ⟨fun hH n hlo=>RA.bind hv (hf.ra hH n hlo) (fun a n1 _ hle hV=>(hg a).ra ⟨hH,hV⟩ n1 (Nat.le_trans hlo hle)) fun hfu a=>(hg a).rr hfu,fun hfu=>yP.bind (hf.rr hfu) fun a=>(hg a).rr hfu⟩
def RA.ret{a:α}(h:V a):RA S V n (.ok a n) (.ok a (n+S.d)):=⟨⟨ybk _,NE.nil,h⟩,fun _ b m e _=>by cases e;exact .inl rfl,fun _ _ e h=>by cases h⟩
def rB.ret{a:α}(h:H->V a):rB S H V (fun n=>.ok a n) (fun n=>.ok a n):=⟨fun hH n _=>RA.ret (h hH),fun _=>rfl⟩
def RA.fail{e:Nat}(he:e=120\/e=122):RA S V n (.er e n) (.er e (n+S.d)):=
 ⟨⟨ybk _,NE.nil,by omega⟩,fun _ b m e _=>(by cases e),fun _ _ e' h=>by cases h;exact⟨rfl,he⟩⟩
def rB.fail{e:Nat}(he:e=120\/e=122):rB S H V (fun n=>.er e n) (fun n=>.er e n):=⟨fun _ n _=>RA.fail he,fun _=>⟨rfl,he⟩⟩
theorem rB.mono{H':Prop}{V':α->Prop}{f f2:PM α}(h:rB S H V f f2)(h1:H'->H)(h2:∀a,V a->V' a):rB S H' V' f f2:=
 ⟨fun hH n hlo=>⟨by
  have:=(h.ra (h1 hH) n hlo).mo
  unfold MO at this ⊢
  cases hq:f n with
  | ok a n'=>rw[hq]at this;exact⟨this.1,this.2.1,h2 _ this.2.2⟩
  | er e i=>rw[hq]at this;exact this,(h.ra (h1 hH) n hlo).ok,(h.ra (h1 hH) n hlo).er⟩,h.rr⟩
def rB.ite{p p2:Nat->Bool}{A A2 B B2:PM α}(hp:∀i,S.lo<=i->i<S.k->p2 (i+S.d)=p i)(hq:p2 (S.k+S.d)=false)(hA:rB S H V A A2)(hs:∀n a n',S.lo<=n->p n=true->A n=.ok a n'->n<n')(hB:rB S H V B B2) :
  rB S H V (fun n=>if p n=true then A n else B n) (fun n=>if p2 n=true then A2 n else B2 n):=by
 refine⟨fun hH n hlo=>?_,fun hfu=>by show yP _ (if p2 (S.k+S.d)=true then _ else _);rw[hq,yaa (by simp)];exact hB.rr hfu⟩
 show RA S V n (if p n=true then _ else _) (if p2 (n+S.d)=true then _ else _)
 have hq':∀x y:PR α,n=S.k->(if p2 (n+S.d)=true then x else y)=y:=fun x y e=>by rw[e,hq,yaa (by simp)]
 cases h:p n with
 | true=>
  rw[yab rfl];have hr:=hA.ra hH n hlo
  refine⟨hr.mo,fun hn a n' hr' hn'=>?_,fun hn hfu e hr'=>?_⟩
  ·have:=hs n a n' hlo h hr'
   rw[hp n hlo (by omega),h,yab rfl]
   exact hr.ok hn a n' hr' hn'
  ·by_cases hk:n<S.k
   ·rw[hp n hlo hk,h,yab rfl]
    exact hr.er hn hfu e hr'
   ·have:n=S.k:=by omega
    rw[hq' _ _ this,this];exact hB.rr hfu
 | false=>
  rw[yaa (by simp)]
  refine(hB.ra hH n hlo).right fun hn=>?_
  by_cases hk:n<S.k
  ·rw[hp n hlo hk,h,yaa (by simp)]
  ·exact hq' _ _ (by omega)
def rB.acc(hv:VW S){w:List Nat}{A A2 B B2:PM α}(hw:w∉dT)(hA:rB S H V A A2)(hB:rB S H V B B2) :
  rB S H V (fun n=>if Proofs.acc S.tk w n=true then A (n+1)else B n) (fun n=>if Proofs.acc S.tk2 w n=true then A2 (n+1)else B2 n):=by
 have hq:=hv.qacc w hw
 refine⟨fun hH n hlo=>?_,fun hfu=>by show yP _ (if Proofs.acc S.tk2 w (S.k+S.d)=true then _ else _);rw[hq,yaa (by simp)];exact hB.rr hfu⟩
 show RA S V n (if Proofs.acc S.tk w n=true then _ else _) (if Proofs.acc S.tk2 w (n+S.d)=true then _ else _)
 cases h:Proofs.acc S.tk w n with
 | true=>
  rw[yab rfl];refine RA.step (Cr h) (hA.ra hH (n+1) (by omega)) fun hn=>?_
  rw[hv.acc n hlo hn,h,yab rfl];congr 1;omega
 | false=>
  rw[yaa (by simp)]
  refine(hB.ra hH n hlo).right fun hn=>?_
  by_cases hk:n<S.k
  ·rw[hv.acc n hlo hk,h,yaa (by simp)]
  ·have:n=S.k:=by omega
   rw[this,hq,yaa (by simp)]
def rB.cases(b:Bool){A A2 B B2:PM α}(hA:b=true->rB S H V A A2)(hB:b=false->rB S H V B B2):rB S H V (fun n=>if b=true then A n else B n) (fun n=>if b=true then A2 n else B2 n):=by
 cases b with
 | true=>exact hA rfl
 | false=>exact hB rfl
end
section
variable {S:VP}{H:Prop}{n:Nat}
def IP{tk:List uC}{q n:Nat}(hg:∀x∈tk,rP x)(h:zD tk q n=true):q=2->lR (fE tk n):=by
 rintro rfl
 unfold zD at h;unfold fE
 cases hx:tk[n]? with
 | none=>rw[hx]at h;cases h
 | some t=>rw[hx]at h;exact(hg t (ycv hx)).1 (of_decide_eq_true h)
def Ul(hv:VW S){q:Nat}(hq:q≠5):rB S H (fun s=>q=2->lR s) (tE S.tk q) (tE S.tk2 q):=by
 refine⟨fun _ n hlo=>?_,fun hfu=>?_⟩
 ·unfold tE
  cases h:zD S.tk q n with
  | true=>
   rw[yab rfl];refine⟨⟨by omega,NE.one (Rg h hq),IP hv.good h⟩,fun hn a n' hr hn'=>?_,fun _ _ e hr=>by cases hr⟩
   cases hr;rw[hv.kind n hlo (by omega),h,yab rfl,hv.text n hlo (by omega)]
   left;congr 1;omega
  | false=>
   rw[yaa (by simp)]
   refine⟨⟨by omega,NE.nil,by omega⟩,fun _ a n' hr=>(by cases hr),fun hn hfu e hr=>?_⟩
   cases hr;rw[(hv.full hfu).2.2 q hq,yaa (by simp)]
   exact⟨rfl,.inl rfl⟩
 ·unfold tE
  rw[(hv.full hfu).2.2 q hq,yaa (by simp)]
  exact⟨rfl,.inl rfl⟩
def kP(hv:VW S){w:List Nat}:rB S H (fun _=>True) (rE S.tk w) (rE S.tk2 w):=by
 refine⟨fun _ n hlo=>?_,fun hfu=>?_⟩
 ·unfold rE
  cases h:acc S.tk w n with
  | true=>
   rw[yab rfl];refine⟨⟨by omega,NE.one (Cr h),trivial⟩,fun hn a n' hr hn'=>?_,fun _ _ e hr=>by cases hr⟩
   cases hr;rw[hv.acc n hlo (by omega),h,yab rfl]
   left;congr 1;omega
  | false=>
   rw[yaa (by simp)]
   refine⟨⟨by omega,NE.nil,by omega⟩,fun _ a n' hr=>(by cases hr),fun hn hfu e hr=>?_⟩
   cases hr;rw[(hv.full hfu).2.1 w,yaa (by simp)]
   exact⟨rfl,.inl rfl⟩
 ·unfold rE
  rw[(hv.full hfu).2.1 w,yaa (by simp)]
  exact⟨rfl,.inl rfl⟩
def GQ(hv:VW S){i:Nat}(hl:S.lo<=i)(h:i<S.k):sK S.tk2 (i+S.d)=sK S.tk i:=by
 unfold sK;rw[hv.kind i hl h,hv.text i hl h]
def TV{tk:List uC}{n:Nat}(h:sK tk n=true):zD tk 1 n=true:=by
 unfold sK at h;simp only[ybb]at h;exact h.1
def Br(hv:VW S):rB S H (fun _=>True) (rI S.tk) (rI S.tk2):=by
 refine⟨fun _ n hlo=>?_,fun hfu=>?_⟩
 ·unfold rI
  cases h:sK S.tk n with
  | true=>
   rw[yab rfl];refine⟨⟨by omega,NE.one (Rg (TV h) (by omega)),trivial⟩,fun hn a n' hr hn'=>?_,fun _ _ e hr=>by cases hr⟩
   cases hr;rw[GQ hv hlo (by omega),h,yab rfl,hv.text n hlo (by omega)]
   left;congr 1;omega
  | false=>
   rw[yaa (by simp)]
   refine⟨⟨by omega,NE.nil,by omega⟩,fun _ a n' hr=>(by cases hr),fun hn hfu e hr=>?_⟩
   cases hr;rw[hv.qname,yaa (by simp)]
   exact⟨rfl,.inl rfl⟩
 ·unfold rI
  rw[hv.qname,yaa (by simp)]
  exact⟨rfl,.inl rfl⟩
def Mv(hv:VW S):rB S H (fun _=>True) (bO S.tk) (bO S.tk2):=(Ul hv (q:=3) (by omega)).bind hv fun a=>rB.ret fun _=>trivial
def MF(hv:VW S){f:Nat->List Nat}{m:Nat}(hf:∀i,f i∉dT):∀(k i:Nat),rB S H (fun _=>True) (iL S.tk f m k i) (iL S.tk2 f m k i):=by
 intro k;induction k with
 | zero=>intro i;exact rB.fail (.inl rfl)
 | succ k ih=>
  intro i;by_cases h:m<i
  ·have e:∀tk,iL tk f m (k+1) i=fun n=>.er 120 n:=fun tk=>by funext n;unfold iL;rw[yab h]
   rw[e,e];exact rB.fail (.inl rfl)
  ·have e:∀tk,iL tk f m (k+1) i=fun n=>if acc tk (f i) n=true then .ok i (n+1)else iL tk f m k (i+1) n:=fun tk=>by funext n;rw[iL,yaa h]
   rw[e,e];exact rB.acc hv (A:=fun n=>.ok i n) (A2:=fun n=>.ok i n) (hf i) (rB.ret fun _=>trivial) (ih (i+1))
end
end Go.Proofs
namespace Go.Proofs
open Go Go.Am
variable [eC]
variable {t tf:Tr vA}
def nLt{a b:Int}(h:¬ a<b):iB a b≠true:=fun e=>h (jF.1 e)
def yLt{a b:Int}(h:a<b):iB a b=true:=jF.2 h
def sam203{l:List Nat}{u v:zA}(hu:bA t 1 (eD l) u)(hv:bA t 1 (eD l) v)(hl:l.length<300000):wC yA F 26 [u,v] t=some (.bool true):=by
 have hn:pC u=some (.int .i64 (l.length:Int)):=by rw[hu.len,qT]
 have hn':pC v=some (.int .i64 (l.length:Int)):=by rw[hv.len,qT]
 refine bD.2 (w26 ?_)
 unfold t26 uI oC uZ;refine iA hn (pB (iA hn' (pB (qB (fun e=>absurd rfl (qQ.1 e)) (jC ?_)))))
 have loop:∀(m i:Nat),i+m=l.length->jp 26 2 [u,v,.int .i64 (i:Int)] t (fun v' t'=>v'=.bool true/\t'=t):=by
  intro m;induction m with
  | zero=>
   intro i hi;refine j26_2 ?_
   unfold zg8 uI uH tD oC gI uZ;exact iA hn (pB (qB (nLt (by omega)) ⟨rfl,rfl⟩))
  | succ m ih=>
   intro i hi;obtain⟨x,hx⟩:=getElem?_of_lt (show i<l.length by omega)
   obtain⟨p,o,g1,g2⟩:=bA.idx (C:=yA) iY hu hx
   obtain⟨p',o',g3,g4⟩:=bA.idx (C:=yA) iY hv hx
   refine j26_2 ?_
   unfold zg8 uI uH tD oC gI uZ;refine iA hn (pB (rA (yLt (by omega)) (iA g1 (sC g2 (pB (iA g3 (sC g4 (pB (qB (fun e=>absurd rfl (qQ.1 e)) (jC ?_))))))))))
   rw[iC (by omega) (by omega)]
   exact ih (i+1) (by omega)
 exact loop l.length 0 (by omega)
def zel{w:tJ}{cs ds:List zA}(hl:w.limbs.length<300000)(h:RD t w.d cs)(k:RD t w.d ds):wC yA F 83 [.agg cs,.agg ds] t=some (.bool true):=by
 obtain⟨u,rfl,hu⟩:=Dy h
 obtain⟨v,rfl,hv⟩:=Dy k
 refine bD.2 (w83 ?_)
 unfold t83 uB oC;refine rA (by rw[fU];simp) (yB ?_)
 rw[q26,sam203 hu hv hl,sA];exact cD ⟨rfl,rfl⟩
def zem{f:vH}{cs ds:List zA}(hl:f.n.limbs.length<300000/\f.d.limbs.length<300000)(h:RD t f.dd cs)(k:RD t f.dd ds):wC yA F 53 [.agg cs,.agg ds] t=some (.bool true):=by
 obtain⟨a,b,rfl,ha,hb⟩:=rd_frac h
 obtain⟨a',b',rfl,ha',hb'⟩:=rd_frac k
 refine bD.2 (w53 ?_)
 unfold t53 uB oC;refine yB ?_
 rw[q83,zel hl.1 (lV (w:=f.n) ha) (lV (w:=f.n) ha'),sA]
 refine cD (rA rfl (yB ?_))
 rw[q83,zel hl.2 (lV (w:=f.d) hb) (lV (w:=f.d) hb'),sA]
 exact cD ⟨rfl,rfl⟩
def sam94{x:oG}{cs ds:List zA}(hl:x.f.n.limbs.length<300000/\x.f.d.limbs.length<300000)(h:RD t x.d cs)(k:RD t x.d ds):wC yA F 24 [.agg cs,.agg ds] t=some (.bool true):=by
 obtain⟨a,b,rfl,ha,hb⟩:=Dz h
 obtain⟨a',b',rfl,ha',hb'⟩:=Dz k
 refine bD.2 (w24 ?_)
 unfold t24 uB oC;refine rA (nJ.2 rfl) (yB ?_)
 rw[q53,zem hl (wU (f:=x.f) ha hb) (wU (f:=x.f) ha' hb'),sA]
 refine cD (rA rfl ?_)
 rw[nJ.2 rfl];exact⟨rfl,rfl⟩
def sam102{x:lG}{cs ds:List zA}(hl:x.f.n.limbs.length<300000/\x.f.d.limbs.length<300000)(h:RD t x.d cs)(k:RD t x.d ds):wC yA F 116 [.agg cs,.agg ds] t=some (.bool true):=by
 obtain⟨a,b,rfl,ha,hb⟩:=Pp h
 obtain⟨a',b',rfl,ha',hb'⟩:=Pp k
 refine bD.2 (w116 ?_)
 unfold t116 uB oC;refine rA (nJ.2 rfl) (rA (nJ.2 rfl) (rA (nJ.2 rfl) (yB ?_)))
 rw[q53,zem hl (wU (f:=x.f) ha hb) (wU (f:=x.f) ha' hb'),sA]
 exact cD ⟨rfl,rfl⟩
theorem sam58{l:List lG}{u v:zA}(hn:l.length<300000)(hl:∀x∈l,x.f.n.limbs.length<300000/\x.f.d.limbs.length<300000)(hu:bA t 7 (l.map lG.d) u)(hv:bA t 7 (l.map lG.d) v):wC yA F 94 [u,v] t=some (.bool true):=by
 refine bD.2 (w94 ?_)
 unfold t94 uI oC uZ;refine iA hu.len (pB (iA hv.len (pB (qB (fun e=>absurd rfl (qQ.1 e)) (jC ?_)))))
 refine Kl (C:=yA) (W:=Wq yA F vC) (J:=Jq yA F 94) (g:=cmpC 116) (ne:=not) (ok:=true) (ds:=l.map lG.d) sl128 (fun d hd=>?_) rfl (fun d hd cs cs' K h1 h2 hK=>?_) (by simp_all) (fun i hw=>j94_2 hw) hu hv ⟨rfl,rfl⟩ l.length 0 (by simp)
 ·obtain⟨x,_,rfl⟩:=yaq.1 hd
  exact x.zs
 ·obtain⟨x,hx,rfl⟩:=yaq.1 hd
  refine yB ?_
  rw[q116,sam102 (hl x hx) h1 h2,sA]
  exact hK
def sam31{x:pG}{cs ds:List zA}(hn:x.rows.length<300000)(hl:∀r∈x.rows,r.f.n.limbs.length<300000/\r.f.d.limbs.length<300000)(h:RD t x.d cs)(k:RD t x.d ds):wC yA F 63 [.agg cs,.agg ds] t=some (.bool true):=by
 obtain⟨a,rfl,ha⟩:=Wv h
 obtain⟨b,rfl,hb⟩:=Wv k
 refine bD.2 (w63 ?_)
 unfold t63 uB oC;refine rA ((uM _ _).2 rfl) (rA (by rw[fU];simp) (yB ?_))
 rw[q94,sam58 hn hl ha hb,sA];exact cD ⟨rfl,rfl⟩
theorem sam89{l:List pG}{u v:zA}(hn:l.length<300000)(hl:∀x∈l,x.rows.length<300000/\∀r∈x.rows,r.f.n.limbs.length<300000/\r.f.d.limbs.length<300000)(hu:bA t 3 (l.map pG.d) u)(hv:bA t 3 (l.map pG.d) v):wC yA F 34 [u,v] t=some (.bool true):=by
 refine bD.2 (w34 ?_)
 unfold t34 uI oC uZ;refine iA hu.len (pB (iA hv.len (pB (qB (fun e=>absurd rfl (qQ.1 e)) (jC ?_)))))
 refine Kl (C:=yA) (W:=Wq yA F vC) (J:=Jq yA F 34) (g:=cmpC 63) (ne:=not) (ok:=true) (ds:=l.map pG.d) sl24 (fun d hd=>?_) rfl (fun d hd cs cs' K h1 h2 hK=>?_) (by simp_all) (fun i hw=>j34_2 hw) hu hv ⟨rfl,rfl⟩ l.length 0 (by simp)
 ·obtain⟨x,_,rfl⟩:=yaq.1 hd
  exact x.zs
 ·obtain⟨x,hx,rfl⟩:=yaq.1 hd
  refine yB ?_
  rw[q63,sam31 (hl x hx).1 (hl x hx).2 h1 h2,sA]
  exact hK
theorem zjf{x y:Operand}{s:List Nat}{k:Int}{b:Bool}:(gP .neq).f yA 77 x y (.agg [.str s,.int .u8 k,.bool b]) (.agg [.str s,.int .u8 k,.bool b])=some (.bool false):=by
 have e:(gP .neq).f yA 77 x y (.agg [.str s,.int .u8 k,.bool b]) (.agg [.str s,.int .u8 k,.bool b])=ob (bif qG s s then(bif tC k k then(bif bEq b b then some true else some false)else some false)else some false) fun r=>some (.bool (!r)):=by kernel_rfl
 rw[e,(uM s s).2 rfl,nJ.2 rfl]
 cases b<;>rfl
theorem sam88{l:List bF}{u v:zA}(hn:l.length<300000)(hu:bA t 3 (l.map bF.d) u)(hv:bA t 3 (l.map bF.d) v):wC yA F 33 [u,v] t=some (.bool true):=by
 refine bD.2 (w33 ?_)
 unfold t33 uI oC uZ;refine iA hu.len (pB (iA hv.len (pB (qB (fun e=>absurd rfl (qQ.1 e)) (jC ?_)))))
 refine Kl (C:=yA) (W:=Wq yA F vC) (J:=Jq yA F 33) (g:=fun a b K=>.opt ((gP .neq).f yA 77 (.tmp 20) (.tmp 24) (.agg a) (.agg b)) K) (ne:=fun b=>b) (ok:=false) (ds:=l.map bF.d) sl23 (fun d hd=>?_) rfl (fun d hd cs cs' K h1 h2 hK=>?_) (by simp_all) (fun i hw=>j33_2 hw) hu hv ⟨rfl,rfl⟩ l.length 0 (by simp)
 ·obtain⟨x,_,rfl⟩:=yaq.1 hd
  exact x.zs
 ·obtain⟨x,hx,rfl⟩:=yaq.1 hd
  have e1:=Ww h1
  grind [Ww,iA,zjf]
mutual
theorem zhc:∀(x:fA),fA.cpy x->∀cs ds,RD t x.d cs->RD t x.d ds->wC yA F 16 [.agg cs,.agg ds] t=some (.bool true)
 | .mk op name v args,h,cs,ds,hc,hd=>by
  obtain⟨a,b,c,rfl,ha,hb,he⟩:=uK hc
  obtain⟨a',b',c',rfl,ha',hb',he'⟩:=uK hd
  simp only[fA.op,fA.name,fA.v,fA.args]at ha hb he ha' hb' he' ⊢
  unfold fA.cpy at h;refine bD.2 (w16 ?_)
  unfold t16 uB oC uZ uY;refine rA (nJ.2 rfl) (rA ((uM _ _).2 rfl) (yB ?_))
  rw[q24,sam94 h.1 (Ej (x:=v) ha hb) (Ej (x:=v) ha' hb'),sA]
  refine cD (rA rfl (yB ?_))
  have:=sam95 args h.2.2
  have e95:wC yA F 44 [c,c'] t=some (.bool true):=by
   refine bD.2 (w44 ?_)
   unfold t44 uI oC uZ;refine iA he.len (pB (iA he'.len (pB (qB (fun e=>absurd rfl (qQ.1 e)) (jC ?_)))))
   refine Kl (C:=yA) (W:=Wq yA F vC) (J:=Jq yA F 44) (g:=cmpC 16) (ne:=not) (ok:=true) (ds:=args.map fA.d) sl48 (fun d hd=>?_) rfl (fun d hd cs cs' K h1 h2 hK=>?_) (by simp_all) (fun i hw=>j44_2 hw) he he' ⟨rfl,rfl⟩ args.length 0 (by simp)
   ·obtain⟨x,_,rfl⟩:=yaq.1 hd
    exact x.zs
   ·obtain⟨x,hx,rfl⟩:=yaq.1 hd
    refine yB ?_
    rw[q16,this x hx cs cs' h1 h2,sA];exact hK
  rw[q44,e95,sA];exact cD ⟨rfl,rfl⟩
theorem sam95:∀(l:List fA),fA.cpys l->∀x∈l,∀cs ds,RD t x.d cs->RD t x.d ds->wC yA F 16 [.agg cs,.agg ds] t=some (.bool true)
 | [],_,x,hx=>by cases hx
 | y::l,h,x,hx=>by
  unfold fA.cpys at h;rcases ybs.1 hx with e | hx
  ·rw[e];exact zhc y h.1
  ·exact sam95 l h.2 x hx
end
def sam93{x:lE}{cs ds:List zA}(hw:fA.cpy x.when_)(ht:fA.cpy x.then_)(h:RD t x.d cs)(k:RD t x.d ds):wC yA F 64 [.agg cs,.agg ds] t=some (.bool true):=by
 obtain⟨a,b,c,d,e,f,rfl,h1,h2⟩:=Pq h
 obtain⟨a',b',c',d',e',f',rfl,k1,k2⟩:=Pq k
 refine bD.2 (w64 ?_)
 unfold t64 uB oC uZ uY;refine rA ((uM _ _).2 rfl) (rA ((uM _ _).2 rfl) (rA (nJ.2 rfl) (rA (nJ.2 rfl) (rA (nJ.2 rfl) (rA (by rw[fU];simp) (yB ?_))))))
 have e1:=zhc x.when_ hw _ _ h1 k1
 have e2:=zhc x.then_ ht _ _ h2 k2
 unfold Fp at e1 e2;rw[q16,e1,sA];refine cD (rA rfl (yB ?_))
 rw[q16,e2,sA];exact cD ⟨rfl,rfl⟩
theorem sam90{l:List lE}{u v:zA}(hn:l.length<300000)(hl:∀x∈l,fA.cpy x.when_/\fA.cpy x.then_)(hu:bA t 24 (l.map lE.d) u)(hv:bA t 24 (l.map lE.d) v):wC yA F 35 [u,v] t=some (.bool true):=by
 refine bD.2 (w35 ?_)
 unfold t35 uI oC uZ;refine iA hu.len (pB (iA hv.len (pB (qB (fun e=>absurd rfl (qQ.1 e)) (jC ?_)))))
 refine Kl (C:=yA) (W:=Wq yA F vC) (J:=Jq yA F 35) (g:=cmpC 64) (ne:=not) (ok:=true) (ds:=l.map lE.d) sl25 (fun d hd=>?_) rfl (fun d hd cs cs' K h1 h2 hK=>?_) (by simp_all) (fun i hw=>j35_2 hw) hu hv ⟨rfl,rfl⟩ l.length 0 (by simp)
 ·obtain⟨x,_,rfl⟩:=yaq.1 hd
  exact x.zs
 ·obtain⟨x,hx,rfl⟩:=yaq.1 hd
  refine yB ?_
  rw[q64,sam93 (hl x hx).1 (hl x hx).2 h1 h2,sA]
  exact hK
def sam47{p:pD}{cs ds:List zA}(hp:pD.cpy p)(h:RD t p.d cs)(k:RD t p.d ds):wC yA F 12 [.agg cs,.agg ds] t=some (.bool true):=by
 obtain⟨a,b,c,rfl,ha,hb,hc⟩:=bY h
 obtain⟨a',b',c',rfl,ha',hb',hc'⟩:=bY k
 refine bD.2 (w12 ?_)
 unfold t12 uB oC;refine rA ((uM _ _).2 rfl) (yB ?_)
 rw[q33,sam88 hp.defs ha ha',sA];refine cD (rA rfl (yB ?_))
 rw[q34,sam89 hp.tables hp.rows hb hb',sA];refine cD (rA rfl (yB ?_))
 rw[q35,sam90 hp.clauses hp.exprs hc hc',sA];exact cD ⟨rfl,rfl⟩
end Go.Proofs
namespace Go.Am
open Go Go.RowKit
end Go.Am
namespace Go.Proofs
open Go Go.Am
variable [eC]
variable {t tf:Tr vA}{bx T:Nat}{s m:List Nat}{ex:List zA}
def BX (T:Nat)(ex:List zA)(tf t:Tr vA)(bx:Nat)(s:List Nat):Prop:=
 yA.base<=bx/\tf.get bx=none/\aA tf t/\mB 256 s/\Lk Qp T (ex.length+2)=true/\∃p tv,(p=zA.nilptr\/p=.ptr bx 0)/\yD t bx (some (.ty T)) (p::tv::ex)/\bM (.ty 5) yA.base tf t 1 (rC .u8 s) tv/\(¬ iQ tv bx/\(s=[]->tv=.nilslice))
theorem BX.out{n:Nat}{y:vA}(hn:tf.get n=none)(h:BX T ex (tf.set n y) t bx s):BX T ex tf (t.del n) bx s:=by
 obtain⟨h1,h2,h3,ha,hM,p,tv,hp,h4,h5,h6⟩:=h
 have hbx:bx≠n:=by grind [Tr.get_set]
 have hle:aA tf (tf.set n y):=(qL hn y).1
 rw[Tr.get_set,yaa hbx]at h2;refine⟨h1,h2,fun c u hc=>?_,ha,hM,p,tv,hp,h4.off (by rw[Tr.get_del,yaa hbx]),?_,h6⟩
 ·have:c≠n:=fun e=>by simp_all
  rw[Tr.get_del,yaa this];exact h3 _ _ (hle _ _ hc)
 ·rcases h5 with⟨rfl,h5⟩ | ⟨b,cl,c,rfl,k0,k1,k2,k3,k4⟩
  ·exact .inl ⟨rfl,h5⟩
  ·have hbn:b≠n:=by grind [Tr.get_set]
   refine .inr ⟨b,cl,c,rfl,k0,by grind [Tr.get_set],by grind [Tr.get_del],k3,?_⟩
   grind [BE]
end Go.Proofs
namespace Go.Proofs
open Go Go.Am
section
variable {b:Nat}{s:List Nat}
section
variable {k ln cl:Nat}{op:Option (Nat × Nat)}{r:List Nat}
def let_ne (h:gM b=true):b≠10/\b≠32/\b≠9/\b≠35/\b≠45/\b≠47/\nD b=false/\b≠0:=by
 unfold gM at h;unfold nD;simp only[ycq,ybb,decide_eq_true_eq]at h;refine⟨by omega,by omega,by omega,by omega,by omega,by omega,?_,by omega⟩
 simp only[Bool.and_eq_false_iff,decide_eq_false_iff_not];omega
def AB (h:nD b=true):b≠10/\b≠32/\b≠9/\b≠35/\b≠45/\b≠47/\gM b=false:=by
 unfold nD at h;unfold gM;simp only[ybb,decide_eq_true_eq]at h;refine⟨by omega,by omega,by omega,by omega,by omega,by omega,?_⟩
 simp only[yal,Bool.and_eq_false_iff,decide_eq_false_iff_not];omega
def GH {i:Nat}(hi:i<10)(h:jK i (s.getD i 0)=false):wH s=false:=by
 cases hd:wH s with
 | false=>rfl
 | true=>
  unfold wH at hd;simp only[ybb]at hd;rw[ycb.1 hd.2 i (List.mem_range.2 hi)]at h
  cases h
def GN (h:∀b∈s,b≠45):wH s=false:=by
 refine GH (i:=4) (by omega) ?_
 unfold jK;rw[yab (.inl rfl),decide_eq_false_iff_not,List.getD_eq_getElem?_getD]
 cases hx:s[4]? with
 | none=>simp
 | some b=>exact h b (ycv hx)
end
end
section
variable {l:List (List Nat × Nat)}{tk:List uC}{op:Nat}{s w:List Nat}{x:fA}{c:PM fA}{neg:Bool}
section
variable {S:VP}{H:Prop}{n:Nat}{o o2:PM fA}
def Pz(hv:VW S) {i:Nat}(hl:S.lo<=i)(h:i<S.k):dJ S.tk2 l (i+S.d)=dJ S.tk l i:=by
 unfold dJ;congr 2
 funext o
 exact hv.acc i hl h o.1
def Xj(hv:VW S) (hl:∀o∈l,o.1∉dT):dJ S.tk2 l (S.k+S.d)=none:=by
 unfold dJ;rw[List.find?_eq_none.2 fun o ho=>by rw[hv.qacc _ (hl o ho)];simp]
 rfl
def Qa  {n:Nat}(h:dJ tk l n=some op):∃w,acc tk w n=true:=by
 unfold dJ at h
 cases hx:l.find? fun o=>acc tk o.1 n with
 | none=>rw[hx]at h;cases h
 | some o=>exact⟨o.1,by simpa using List.find?_some hx⟩
def Tg  {n:Nat}(h:acc tk w n=true):n<tk.length:=by
 unfold acc at h
 cases hx:tk[n]? with
 | none=>rw[hx]at h;cases h
 | some x=>exact(ybc.1 hx).1
def Sp(hv:VW S) (hl:∀o∈l,o.1∉dT):∀(m:Nat) (x:fA),iP S.tk2 o2 l m x (S.k+S.d)=.ok x (S.k+S.d):=by
 intro m x
 cases m with
 | zero=>rfl
 | succ m=>rw[iP,Xj hv hl]
def MX {y:fA}(hx:fA.cpy x)(hy:fA.cpy y):fA.cpy (gW op x y):=by
 unfold gW fA.cpy;exact⟨⟨by simp[nM,rH],by simp[nM,rH]⟩,by simp,hx,hy,trivial⟩
def zds   (hx:fA.cpy x):fA.cpy (unX op w x):=by
 unfold unX fA.cpy;exact⟨⟨by simp[nM,rH],by simp[nM,rH]⟩,by simp,hx,trivial⟩
def YR(hv:VW S)(hH:H)(ho:rB S H fA.cpy o o2) (hl:∀o∈l,o.1∉dT):∀(m m2 n:Nat) (x:fA),S.lo<=n->fA.cpy x->S.tk.length<=n+m->S.tk2.length<=n+S.d+m2->RA S fA.cpy n (iP S.tk o l m x n) (iP S.tk2 o2 l m2 x (n+S.d)):=by
 intro m;have none:∀(m2 n:Nat) (x:fA),S.lo<=n->dJ S.tk l n=none->n<=S.k->iP S.tk2 o2 l m2 x (n+S.d)=.ok x (n+S.d):=by
  intro m2 n x hlo h hn;by_cases hk:n<S.k
  ·cases m2 with
   | zero=>rfl
   | succ m2=>rw[iP,Pz hv hlo hk,h]
  ·have:n=S.k:=by omega
   subst this;exact Sp hv hl m2 x
 induction m with
 | zero=>
  intro m2 n x hlo hx h1 _;have:dJ S.tk l n=Option.none:=by
   cases h:dJ S.tk l n with
   | none=>rfl
   | some op=>
    obtain⟨w,hw⟩:=Qa h
    have:=Tg hw
    omega
  exact(RA.ret (a:=x) hx).right fun hn=>none m2 n x hlo this hn
 | succ m ih=>
  intro m2 n x hlo hx h1 h2
  cases h:dJ S.tk l n with
  | none=>
   rw[iP,h];exact(RA.ret (a:=x) hx).right fun hn=>none m2 n x hlo h hn
  | some op=>
   rw[iP,h];obtain⟨w,hw⟩:=Qa h
   refine RA.step (r2':=(o2 (n+1+S.d)).bind fun y n'=>iP S.tk2 o2 l (m2-1) (gW op x y) n') (Cr hw) ?_ fun hn=>?_
   ·refine RA.bind hv (ho.ra hH (n+1) (by omega)) (fun y n1 hr hle hy=>?_) (fun hfu y=>by rw[Sp hv hl];exact rfl)
    have:=hle
    exact ih (m2-1) n1 _ (by omega) (MX hx hy) (by omega) (by omega)
   ·have h3:=Pz hv (l:=l) hlo hn
    rw[h]at h3;obtain⟨w2,hw2⟩:=Qa h3
    have:=Tg hw2
    obtain⟨m3,rfl⟩:∃m3,m2=m3+1:=⟨m2-1,by omega⟩
    rw[iP,h3];have e:n+S.d+1=n+1+S.d:=by omega
    rw[e];rfl
def So(hv:VW S)(ho:rB S H fA.cpy o o2) (hl:∀o∈l,o.1∉dT):rB S H fA.cpy (gU S.tk o l) (gU S.tk2 o2 l):=by
 refine⟨fun hH n hlo=>?_,fun hfu=>yP.bind (ho.rr hfu) fun x=>by rw[Sp hv hl];exact rfl⟩
 exact RA.bind hv (ho.ra hH n hlo) (fun x n1 _ hle hx=>YR hv hH ho hl _ _ n1 x (by omega) hx (by omega) (by omega)) fun hfu x=>by rw[Sp hv hl];exact rfl
def SG(hv:VW S)(ho:rB S H fA.cpy o o2):rB S H fA.cpy (Ps S.tk o) (Ps S.tk2 o2):=So hv ho (by decide)
def zbc(hv:VW S)(ho:rB S H fA.cpy o o2):rB S H fA.cpy (Be S.tk o) (Be S.tk2 o2):=So hv (SG hv ho) (by decide)
def YH(hv:VW S)(ho:rB S H fA.cpy o o2):rB S H fA.cpy (Ih S.tk o) (Ih S.tk2 o2):=by
 have hs:=zbc (S:=S) (H:=H) hv ho
 have hl:∀o∈[(([60]:List Nat),13),([61],14)],o.1∉dT:=by decide
 have hz:∀x,yP (S.k+S.d) (match dJ S.tk2 [([60],13),([61],14)] (S.k+S.d)with | none=>.ok x (S.k+S.d) | some op=>(Be S.tk2 o2 (S.k+S.d+1)).bind fun y n2=>.ok (gW op x y) n2):=by
  intro x;rw[Xj hv hl];exact rfl
 refine⟨fun hH n hlo=>?_,fun hfu=>yP.bind (hs.rr hfu) hz⟩
 refine RA.bind hv (hs.ra hH n hlo) (fun x n1 _ hle hx=>?_) fun _=>hz
 cases h:dJ S.tk [([60],13),([61],14)] n1 with
 | none=>
  refine(RA.ret (a:=x) hx).right fun hn=>?_
  by_cases hk:n1<S.k
  ·rw[Pz hv (by omega) hk,h]
  ·have:n1=S.k:=by omega
   subst this;rw[Xj hv hl]
 | some op=>
  obtain⟨w,hw⟩:=Qa h
  refine RA.step (r2':=(Be S.tk2 o2 (n1+1+S.d)).bind fun y n2=>.ok (gW op x y) n2) (Cr hw) ?_ fun hn=>?_
  ·exact RA.bind hv (hs.ra hH (n1+1) (by omega)) (fun y n2 _ _ hy=>RA.ret (MX hx hy)) fun _ _=>rfl
  ·rw[Pz hv (by omega) hn,h]
   have e:n1+S.d+1=n1+1+S.d:=by omega
   rw[e]
def zau:∀(k:Nat) (x:fA),nY (k+1) x=unX 17 [] (nY k x):=by
 intro k;induction k with
 | zero=>intro x;rfl
 | succ k ih=>intro x;rw[nY,ih];rfl
def dS (tk:List uC)(c:PM fA):Nat->PM fA
 | 0,n=>c n
 | m+1,n=>if acc tk Au n=true then(dS tk c m (n+1)).bind fun x n'=>.ok (unX 17 [] x) n' else c n
def Xx   : ∀(m n:Nat),dS tk c m n=(c (n+dN tk m n)).bind fun x n'=>.ok (nY (dN tk m n) x) n':=by
 have id:∀r:PR fA,r=r.bind fun x n'=>.ok (nY 0 x) n':=fun r=>by cases r<;>rfl
 intro m;induction m with
 | zero=>intro n;exact id _
 | succ m ih=>
  intro n;rw[dS,dN];split
  ·rw[ih,show n+(dN tk m (n+1)+1)=n+1+dN tk m (n+1) by omega]
   cases c (n+1+dN tk m (n+1))with
   | ok x n'=>show PR.ok _ _=PR.ok _ _;rw[zau]
   | er e i=>rfl
  ·exact id _
def zb2(hv:VW S){c2:PM fA}(hc:rB S H fA.cpy c c2):∀(m m2 n:Nat),S.lo<=n->S.tk.length<=n+m->S.tk2.length<=n+S.d+m2->H->RA S fA.cpy n (dS S.tk c m n) (dS S.tk2 c2 m2 (n+S.d)):=by
 have hw:Au∉dT:=by decide
 have stop:∀(m2 n:Nat),S.lo<=n->acc S.tk Au n=false->n<=S.k->dS S.tk2 c2 m2 (n+S.d)=c2 (n+S.d):=by
  intro m2 n hlo h hn
  cases m2 with
  | zero=>rfl
  | succ m2=>
   rw[dS];by_cases hk:n<S.k
   ·rw[hv.acc n hlo hk,h,yaa (by simp)]
   ·have:n=S.k:=by omega
    subst this;rw[hv.qacc _ hw,yaa (by simp)]
 intro m;induction m with
 | zero=>
  intro m2 n hlo h1 _ hH;have:acc S.tk Au n=false:=by
   cases h:acc S.tk Au n with
   | false=>rfl
   | true=>have:=Tg h;omega
  exact(hc.ra hH n hlo).right fun hn=>stop m2 n hlo this hn
 | succ m ih=>
  intro m2 n hlo h1 h2 hH;rw[dS]
  cases h:acc S.tk Au n with
  | false=>rw[yaa (by simp)];exact(hc.ra hH n hlo).right fun hn=>stop m2 n hlo h hn
  | true=>
   rw[yab rfl];have hz:∀m3,S.full->yP (S.k+S.d) (dS S.tk2 c2 m3 (S.k+S.d)):=by
    intro m3 hfu
    cases m3 with
    | zero=>exact hc.rr hfu
    | succ m3=>rw[dS,hv.qacc _ hw,yaa (by simp)];exact hc.rr hfu
   refine RA.step (r2':=(dS S.tk2 c2 (m2-1) (n+1+S.d)).bind fun x n'=>.ok (unX 17 [] x) n') (Cr h) ?_ fun hn=>?_
   ·exact RA.bind hv (ih (m2-1) (n+1) (by omega) (by omega) (by omega) hH) (fun x n1 _ _ hx=>RA.ret (zds hx)) fun _ _=>rfl
   ·have h3:=hv.acc n hlo hn Au
    rw[h]at h3;have:=Tg h3
    obtain⟨m3,rfl⟩:∃m3,m2=m3+1:=⟨m2-1,by omega⟩
    rw[dS,h3,yab rfl];have e:n+S.d+1=n+1+S.d:=by omega
    rw[e];rfl
def TT(hv:VW S)(ho:rB S H fA.cpy o o2):rB S H fA.cpy (Eg S.tk o) (Eg S.tk2 o2):=by
 have hc:=YH (S:=S) (H:=H) hv ho
 refine⟨fun hH n hlo=>?_,fun hfu=>?_⟩
 ·unfold Eg
  rw[<- Xx,<- Xx];exact zb2 hv hc _ _ n hlo (by omega) (by omega) hH
 ·unfold Eg
  rw[<- Xx]
  cases S.tk2.length with
  | zero=>exact hc.rr hfu
  | succ m=>rw[dS,hv.qacc _ (by decide),yaa (by simp)];exact hc.rr hfu
def YG(hv:VW S)(ho:rB S H fA.cpy o o2):rB S H fA.cpy (Mx S.tk o) (Mx S.tk2 o2):=So hv (TT hv ho) (by decide)
def KP(hv:VW S)(ho:rB S H fA.cpy o o2):rB S H fA.cpy (xS S.tk o) (xS S.tk2 o2):=So hv (YG hv ho) (by decide)
def AT(hv:VW S)(ho:rB S H fA.cpy o o2)  : rB S H fA.cpy (atP S.tk o op) (atP S.tk2 o2 op):=
 (Br hv).bind hv fun w=>(kP hv).bind hv fun _=>(ho.mono (fun h=>h.1.1) fun _ h=>h).bind hv fun x=>rB.ret fun h=>zds h.2
def oG.cpy(v:oG):Prop:=v.f.n.limbs.length<300000/\v.f.d.limbs.length<300000
def TK (h:lR s):rD (qN s)<65536^200/\(oH s=true->rD (zO s)<65536^200):=by
 have h10:∀l:List Nat,l.length<=200->(∀b∈l,nD b=true)->rD l<65536^200:=by
  intro l hl hd;have h1:=Fi hd
  have h2:10^l.length<=10^200:=yao (by omega) hl
  have h3:10^200<=65536^200:=Nat.pow_le_pow_left (by decide) 200
  exact Nat.lt_of_lt_of_le h1 (Nat.le_trans h2 h3)
 obtain⟨h1,h2,_,_,h5⟩:=h
 have hA:(qN s).length<=s.length:=by
  unfold qN uD;exact List.takeWhile_sublist _ |>.length_le
 refine⟨h10 _ (by omega) h2,fun hs=>h10 _ ?_ (h5 hs).2.1⟩
 unfold zO;rw[ydj];omega
def Zj  (h:lR s):(vI s neg).n.limbs.length<300000/\(vI s neg).d.limbs.length<300000:=by
 obtain⟨h1,h2⟩:=TK h
 have hd:(if oH s=true then rD (zO s)else 1)<65536^200:=by
  split
  ·exact h2 (by assumption)
  ·exact Nat.one_lt_pow (by omega) (by omega)
 have k:∀a g:Nat,a<65536^200->(aB (a / g)).length<300000:=fun a g h=>by
  have:=Yq (n:=a / g) (k:=200) (yam (Nat.div_le_self _ _) h)
  omega
 exact⟨k _ _ h1,k _ _ hd⟩
def SE(hv:VW S)  : rB S H oG.cpy (cK S.tk neg) (cK S.tk2 neg):=by
 have hz:∀x:Bool,cK S.tk2 x (S.k+S.d)=.er 120 (S.k+S.d):=fun x=>by
  unfold cK tE;rw[hv.qkind 2 (.inl rfl),yaa (by simp)];rfl
 refine⟨fun _ n hlo=>?_,fun _=>by rw[hz];exact⟨rfl,.inl rfl⟩⟩
 have two:∀m,S.lo<=m->m<S.k->(acc S.tk2 xV (m+S.d)||acc S.tk2 mY (m+S.d))=(acc S.tk xV m||acc S.tk mY m):=fun m hl hm=>by rw[hv.acc m hl hm,hv.acc m hl hm]
 have tq:(acc S.tk2 xV (S.k+S.d)||acc S.tk2 mY (S.k+S.d))=false:=by rw[hv.qacc _ (by decide),hv.qacc _ (by decide)];rfl
 cases h:zD S.tk 2 n with
 | false=>
  have e:cK S.tk neg n=.er 120 n:=by unfold cK tE;rw[h,yaa (by simp)];rfl
  rw[e];refine(RA.fail (.inl rfl)).right fun hn=>?_
  by_cases hk:n<S.k
  ·unfold cK tE;rw[hv.kind n hlo hk,h,yaa (by simp)];rfl
  ·have:n=S.k:=by omega
   subst this;exact hz neg
 | true=>
  have hn:=IP hv.good h rfl
  have e5:=Rg h (by omega)
  have e:cK S.tk neg n=(if (acc S.tk xV (n+1)||acc S.tk mY (n+1))=true then(if oH (fE S.tk n)=true then .er 120 (n+1)else match kL (fE S.tk n) neg (-1048576) 1048576 with | none=>.er 121 n | some i=>.ok ⟨if acc S.tk xV (n+1)=true then 5 else 6,rH,i⟩ (n+1+1))else .ok ⟨2,vI (fE S.tk n) neg,0⟩ (n+1)):=by
   unfold cK tE;rw[h,yab rfl];rfl
  have e2:n<S.k->cK S.tk2 neg (n+S.d)=(if (acc S.tk2 xV (n+1+S.d)||acc S.tk2 mY (n+1+S.d))=true then(if oH (fE S.tk n)=true then .er 120 (n+1+S.d)else match kL (fE S.tk n) neg (-1048576) 1048576 with | none=>.er 121 (n+S.d) | some i=>.ok ⟨if acc S.tk2 xV (n+1+S.d)=true then 5 else 6,rH,i⟩ (n+1+1+S.d))else .ok ⟨2,vI (fE S.tk n) neg,0⟩ (n+1+S.d)):=by
   intro hk;unfold cK tE;rw[hv.kind n hlo hk,h,yab rfl,hv.text n hlo hk];have a1:n+S.d+1=n+1+S.d:=by omega
   have a2:n+1+S.d+1=n+1+1+S.d:=by omega
   rw[a1,<- a2];rfl
  rw[e]
  cases hd:(acc S.tk xV (n+1)||acc S.tk mY (n+1))with
  | false=>
   rw[yaa (by simp)]
   refine⟨⟨by omega,NE.one e5,Zj hn⟩,fun hn1 a n' hr hn'=>?_,fun _ _ e hr=>by cases hr⟩
   cases hr;have:(acc S.tk2 xV (n+1+S.d)||acc S.tk2 mY (n+1+S.d))=false:=by
    by_cases hk:n+1<S.k
    ·rw[two _ (by omega) hk,hd]
    ·have:n+1=S.k:=by omega
     rw[this];exact tq
   rw[e2 (by omega),this,yaa (by simp)]
   exact .inl rfl
  | true=>
   have e6:zD S.tk 5 (n+1)=false:=by
    simp only[ycq]at hd;rcases hd with hd | hd<;>exact Cr hd
   have ne:NE S.tk n (n+1+1):=(NE.one e5).join (NE.one e6)
   have q1:n+1<=S.k->¬ n+1<S.k->cK S.tk2 neg (n+S.d)=.ok ⟨2,vI (fE S.tk n) neg,0⟩ (n+1+S.d):=fun h1 h2=>by
    have:n+1=S.k:=by omega
    rw[e2 (by omega),this,tq,yaa (by simp)]
   rw[yab rfl]
   cases hs:oH (fE S.tk n)with
   | true=>
    rw[yab rfl];refine⟨⟨by omega,NE.one e5,by omega⟩,fun _ a n' hr=>(by cases hr),fun hn1 hfu e' hr=>?_⟩
    injection hr with _ hr
    rw[q1 (by omega) (by omega)]
    exact show n+1+S.d=_ by omega
   | false=>
    rw[yaa (by simp)]
    cases hi:kL (fE S.tk n) neg (-1048576) 1048576 with
    | none=>
     refine⟨⟨by omega,NE.nil,by omega⟩,fun _ a n' hr=>(by cases hr),fun hn1 hfu e' hr=>?_⟩
     cases hr;rw[hz];exact⟨rfl,.inl rfl⟩
    | some i=>
     refine⟨⟨by omega,ne,by simp[oG.cpy,rH]⟩,fun hn1 a n' hr hn'=>?_,fun _ _ e hr=>by cases hr⟩
     cases hr;rw[e2 (by omega),two _ (by omega) (by omega),hd,yab rfl,hs,yaa (by simp),hi,hv.acc _ (by omega) (by omega)]
     exact .inl rfl
end
end
end Go.Proofs
