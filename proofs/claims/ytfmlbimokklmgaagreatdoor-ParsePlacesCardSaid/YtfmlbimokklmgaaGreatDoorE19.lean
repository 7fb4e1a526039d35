/- The parser: definitions, keys, rows, clauses. -/
import Derived.Test.YtfmlbimokklmgaaGreatDoorE18
set_option linter.all false
noncomputable section
set_option maxRecDepth 100000
namespace Go.Proofs
open Go Go.Am
variable [gC]
def rdDef(tf:Tr vA)(x:oG)(v:zA):Prop:=∃cs,v=.agg cs/\RD tf x.d cs
def rdRow(tf:Tr vA)(x:nH)(v:zA):Prop:=∃cs,v=.agg cs/\RD tf x.d cs
def rdCl (tf:Tr vA)(x:dF)(v:zA):Prop:=∃cs,v=.agg cs/\RD tf x.d cs
def def_rd{t:Tr vA}(x:oG):RD t x.d [.str x.name,.int .u8 (x.kind:Int),.bool x.fact]:=
 kJ.2 ⟨[[.str x.name],[.int .u8 (x.kind:Int)],[.bool x.fact]],rfl,yD.2 ⟨_,_,rfl,mK.2 rfl,yD.2 ⟨_,_,rfl,lK.2 rfl,yD.2 ⟨_,_,rfl,tY.2 rfl,sF.2 rfl⟩⟩⟩⟩
def zej{t:Tr vA}{a b k:Int}{f:gH}{cs:List zA}(h:RD t f.dd cs):RD t (nH.d ⟨a,b,k,f⟩) ([.int .i64 a,.int .i64 b,.int .i64 k]++cs):=
 kJ.2 ⟨[[.int .i64 a],[.int .i64 b],[.int .i64 k],cs],by simp,yD.2 ⟨_,_,rfl,lK.2 rfl,yD.2 ⟨_,_,rfl,lK.2 rfl,yD.2 ⟨_,_,rfl,lK.2 rfl,yD.2 ⟨_,_,rfl,h,sF.2 rfl⟩⟩⟩⟩⟩
def LU{t:Tr vA}{a b:List Nat}{f u k:Int}{o:Bool}{x y:cA}{cx cy:List zA}(hx:RD t x.d cx)(hy:RD t y.d cy):RD t (dF.d ⟨a,b,f,u,k,o,x,y⟩) ([.str a,.str b,.int .i64 f,.int .i64 u,.int .i64 k,.bool o]++(cx++cy)):=
 kJ.2 ⟨[[.str a],[.str b],[.int .i64 f],[.int .i64 u],[.int .i64 k],[.bool o],cx,cy],by simp,yD.2 ⟨_,_,rfl,mK.2 rfl,yD.2 ⟨_,_,rfl,mK.2 rfl,yD.2 ⟨_,_,rfl,lK.2 rfl,yD.2 ⟨_,_,rfl,lK.2 rfl,yD.2 ⟨_,_,rfl,lK.2 rfl,yD.2 ⟨_,_,rfl,tY.2 rfl,yD.2 ⟨_,_,rfl,hx,yD.2 ⟨_,_,rfl,hy,sF.2 rfl⟩⟩⟩⟩⟩⟩⟩⟩⟩
def AR{t:Tr vA}:RD t yX.d zE:=Hc (op:=0) (name:=[]) (v:=qM) (args:=[]) pP pP pP
section
variable {P:cI}{tf t:Tr vA}{n d:Nat}{Q E:pB}{J:eE}{o:PM cA}
def def_ok{fact:Bool}(h:St P tf t n d)(hk:Ok P rdDef d tf (uT P.tk fact n) Q E):lJ yA F E 89 [.ptr P.bp 0,.bool fact] t Q:=by
 refine w89 _ _ ?_
 unfold t89;refine yB ?_
 rw[pE 58];unfold uT at hk;refine Eg h (hk.bind fun w n1 tf1 t1 v hr hle hst hrd hk1=>?_)
 cases hrd;refine lF (yB ?_)
 rw[pE 110];refine LW (f:=Eo) (g:=111) (most:=6) (fun t hg i hi=>zie hg hi) (by kernel_rfl) (by kernel_rfl) (by omega) hst (hk1.bind fun k n2 tf2 t2 v2 hr2 hle2 hst2 hrd2 hk2=>?_)
 cases hrd2;exact sB (sA rfl (sA rfl (Ok.now hk2 hst2 ⟨_,rfl,def_rd ⟨w,k,fact⟩⟩)))
def zeu(h:St P tf t n d)(hk:Ok P rdInt d tf (sU P.tk n) Q E):lJ yA F E 112 [.ptr P.bp 0] t Q:=by
 refine w112 _ ?_
 unfold t112;refine yB ?_
 rw[pW 72];refine Cq h fun t1 h1=>pD (yB ?_)
 unfold sU at hk;generalize acc P.tk bI n=neg at hk h1
 change St P tf t1 (if neg=true then n+1 else n) d at h1
 generalize (if neg=true then n+1 else n)=m at hk h1
 rw[pQ 71,Gx h1,qA];refine fC (bQ _) (sA rfl ?_)
 have hkd:bC P.tk 2 m=decide ((yG P m).kind=2):=Lr (by omega)
 have htx:lE P.tk m=(yG P m).text:=Tq
 dsimp only at hk
 cases h2:decide ((yG P m).kind=2)with
 | false=>
  have h2':¬ (yG P m).kind=2:=of_decide_eq_false h2
  rw[hkd,h2]at hk;simp only[ycl,Bool.true_or,if_true]at hk;refine sA ?_ (yB (Ok.fail h1 hk))
  show(!oB ((yG P m).kind:Int) 2)=true
  rw[aE,decide_eq_false (by omega)];rfl
 | true=>
  have h2':(yG P m).kind=2:=of_decide_eq_true h2
  have hnum:kR (yG P m).text:=by
   have:=h1.num (n:=m) (by rw[hkd,h2])
   rwa [htx]at this
  refine tB ?_ ?_
  ·show ¬ (!oB ((yG P m).kind:Int) 2)=true
   rw[aE,decide_eq_true (by omega)];simp
  refine yB ?_
  show jE yA F qC vF E 66 [.str (yG P m).text,.str [47]] t1 _
  rw[pQ 66,Zv (by have:=hnum.1;omega),qA,LH]
  refine pD ?_
  rw[hkd,htx,h2]at hk;simp only[Bool.not_true,Bool.false_or]at hk
  cases hs:rH (yG P m).text with
  | true=>
   rw[hs,yab rfl]at hk;exact sA rfl (yB (Ok.fail h1 hk))
  | false=>
   rw[hs,yaa (by simp)]at hk
   refine tB (by simp) (kC (ziq _ _ _ _ _ _ ?_))
   unfold CL;obtain⟨i,hi,hj⟩:=Bu.int (s:=(yG P m).text) (neg:=neg) (lo := -2147483648) (hi:=2147483647) (t:=t1) hnum hs (by omega) (by omega)
   refine yB ?_
   show jE yA F qC vF E 102 [.str (yG P m).text,.bool neg,.int .i64 (-2147483648),.int .i64 2147483647] t1 _
   rw[pQ 102,hi,qA];refine oA rfl (sB (oA rfl (pD ?_)))
   cases hv:mL (yG P m).text neg (-2147483648) 2147483647 with
   | none=>
    rw[hv]at hk;exact sA rfl (yB (Ok.fail h1 hk))
   | some j=>
    rw[hv]at hk;have:=hj j hv
    subst this;refine tB (by simp) (kC (zio _ _ ?_))
    unfold CK;have hlt:m<P.tk.length:=by
     rw[<- hkd]at h2;unfold bC at h2
     cases hx:P.tk[m]? with
     | none=>rw[hx]at h2;cases h2
     | some x=>exact(ybc.1 hx).1
    have hlen:=h1.len
    refine oA nl (oA f1 (vC h1.l1 (sB (oA nl (oA f1 (jC fun b _ _=>?_))))))
    obtain⟨t3,k1,k2⟩:=h1.set1 (n':=m+1) (by omega)
    have e:iA .i64 ((m:Int)+1)=((m+1:Nat):Int):=by rw[iC (by omega) (by omega)];rfl
    rw[e];exact⟨_,_,k1 b,Ok.now hk k2 rfl⟩
def row_ok{two:Bool}(h:St P tf t n d)(hk:Ok P rdRow d tf (nX P.tk two n) Q E):lJ yA F E 90 [.ptr P.bp 0,.bool two] t Q:=by
 refine w90 _ _ ?_
 unfold t90;refine yB ?_
 rw[pE 112];unfold nX at hk;have tail:∀(a b:Int) (z0 z1 z2:Int) (n2:Nat) (tf2 t2:Tr vA),St P tf2 t2 n2 d->Ok P rdRow d tf2 ((aD P.tk Ns n2).bind fun _ n3=>(aO P.tk n3).bind fun d n4=>(aD P.tk wIs n4).bind fun _ n5=>
   (fun(neg:Bool)=>(aC P.tk 2 (if neg then n5+1 else n5)).bind fun s n6=>.ok ⟨a,b,d,tI s neg⟩ n6) (acc P.tk bI n5)) Q E →
   sH E 90 11 [.ptr P.bp 0,.int .i64 z0,.int .i64 z1,.int .i64 z2,.bool false,.nilslice,.bool false,.nilslice,.int .i64 a,.int .i64 b,.int .i64 0,.bool false,.nilslice,.bool false,.nilslice] t2 Q:=by
  intro a b z0 z1 z2 n2 tf2 t2 h2 hk2;refine j90_11 _ _ _ _ _ _ _ _ _ _ _ _ _ _ _ ?_
  unfold zdy;refine aZ h2 hk2 fun n3 tf3 t3 hle3 hst3 hk3=>?_
  refine yB ?_
  rw[pE 73];refine Mo Bu hst3 (hk3.bind fun dd n4 tf4 t4 v4 hr4 hle4 hst4 hrd4 hk4=>?_)
  cases hrd4;refine sB (sA rfl (aZ hst4 hk4 fun n5 tf5 t5 hle5 hst5 hk5=>?_))
  refine yB ?_
  rw[pW 72];refine Cq hst5 fun t6 h6=>pD (yB ?_)
  dsimp only at hk5
  generalize acc P.tk bI n5=neg at hk5 h6
  change St P tf5 t6 (if neg=true then n5+1 else n5) d at h6
  rw[pE 59];refine Dm (k:=2) (by omega) h6 (hk5.bind fun s n7 tf7 t7 v7 hr7 hle7 hst7 hrd7 hk7=>?_)
  obtain⟨x,_,e,rfl⟩:=hrd7
  obtain⟨g1,g2,_⟩:=Od hr7
  have hn:=h6.num g1
  rw[<- g2]at hn;subst e;refine fC (bQ _) (Yq Bu hst7 hn fun tf8 t8 cs k1 k2 k3=>?_)
  obtain⟨u,v,rfl,hz,_⟩:=Yr k3
  refine fC hz (sA k3.all (sA (zej (a:=a) (b:=b) (k:=dd) k3).all ?_))
  exact Ok.now (Ok.mono hk7 k1) k2 ⟨_,rfl,zej k3⟩
 refine zeu h (hk.bind fun a n1 tf1 t1 v hr hle hst hrd hk1=>?_)
 cases hrd;refine sB (sA rfl ?_)
 cases two with
 | true=>
  rw[yab rfl]at hk1;refine sA rfl (yB ?_)
  rw[pE 112];refine zeu hst (hk1.bind fun b n2 tf2 t2 v2 hr2 hle2 hst2 hrd2 hk2=>?_)
  cases hrd2;exact sB (sA rfl (kC (tail a b 0 0 0 n2 tf2 t2 hst2 hk2)))
 | false=>
  rw[yaa (by simp)]at hk1
  exact tB (by simp) (kC (tail a 0 0 0 0 n1 tf1 t1 hst hk1))
def YE(h:St P tf t n 0)(hk:Ok P rdCl 0 tf (qT P.tk n) Q E):lJ yA F E 91 [.ptr P.bp 0] t Q:=by
 refine w91 _ ?_
 unfold t91;refine sA rfl (sA rfl (yB ?_))
 rw[pE 58];unfold qT at hk;refine Eg h (hk.bind fun a n1 tf1 t1 v1 hr1 hle1 hst1 hrd1 hk1=>?_)
 cases hrd1;refine lF (sA rfl (yB ?_))
 rw[pE 58];refine Eg hst1 (hk1.bind fun b n2 tf2 t2 v2 hr2 hle2 hst2 hrd2 hk2=>?_)
 cases hrd2;refine lF (sA rfl (aZ hst2 hk2 fun n3 tf3 t3 hle3 hst3 hk3=>yB ?_))
 rw[pE 73];refine Mo Bu hst3 (hk3.bind fun f n4 tf4 t4 v4 hr4 hle4 hst4 hrd4 hk4=>?_)
 cases hrd4;refine sB (sA rfl (aZ hst4 hk4 fun n5 tf5 t5 hle5 hst5 hk5=>yB ?_))
 rw[pW 72];have tail:∀(u:Int) (n6:Nat) (tf6 t6:Tr vA),St P tf6 t6 n6 0->Ok P rdCl 0 tf6 ((aD P.tk Ns n6).bind fun _ n7=>(aO P.tk n7).bind fun k n8=>
   if acc P.tk wOff n8 then .ok ⟨a,b,f,u,k,true,yX,yX⟩ (n8+1)else
   (aD P.tk wWhen n8).bind fun _ n9=>(rW P.tk n9).bind fun x n10=>(aD P.tk zgc n10).bind fun _ n11=>(rW P.tk n11).bind fun y n12=>.ok ⟨a,b,f,u,k,false,x,y⟩ n12) Q E →
   sH E 91 19 ([.ptr P.bp 0]++([.str [],.str [],.int .i64 0,.int .i64 0,.int .i64 0,.bool false]++(zE++zE))++([.str a,.str b,.int .i64 f,.int .i64 u,.int .i64 0,.bool false]++(zE++zE))) t6 Q:=by
  intro u n6 tf6 t6 h6 hk6;refine j91_19 _ _ _ _ _ _ _ _ _ _ _ _ _ _ _ _ _ _ _ _ _ _ _ _ _ _ _ _ _ _ _ _ _ _ _ _ _ _ _ _ _ _ _ _ _ _ _ _ _ ?_
  unfold zdx;refine aZ h6 hk6 fun n7 tf7 t7 hle7 hst7 hk7=>yB ?_
  rw[pE 73];refine Mo Bu hst7 (hk7.bind fun k n8 tf8 t8 v8 hr8 hle8 hst8 hrd8 hk8=>?_)
  cases hrd8;refine sB (sA rfl (yP hst8 (fun ha t9 h9=>?_) fun ha t9 h9=>?_))
  ·rw[ha,yab rfl]at hk8
   have hrd:=LU (t:=tf8) (a:=a) (b:=b) (f:=f) (u:=u) (k:=k) (o:=true) (AR (t:=tf8)) (AR (t:=tf8))
   exact sA rfl (sA hrd.all (Ok.now hk8 h9 ⟨_,rfl,hrd⟩))
  ·rw[ha,yaa (by simp)]at hk8
   refine aZ h9 hk8 fun n9 tf9 t9' hle9 hst9 hk9=>yB ?_
   rw[pE 42];refine KL Bu _ _ _ _ _ hst9 (hk9.bind fun x n10 tf10 t10 v10 hr10 hle10 hst10 hrd10 hk10=>?_)
   obtain⟨cx,rfl,hx⟩:=hrd10
   refine fC (agE hx) ?_
   have ex:[zA.int .u8 ((cellsOf cx).i 0),.str ((cellsOf cx).s 1),.int .u8 ((cellsOf cx).i 2),.bool ((cellsOf cx).b 3),(cellsOf cx).v 4,.bool ((cellsOf cx).b 5),(cellsOf cx).v 6,.int .i64 ((cellsOf cx).i 7),(cellsOf cx).v 8]=cx:=cE_eq hx
   refine sA (by rw[ex];obtain⟨a,b,c,rfl,_⟩:=rL hx;exact hx.all) ?_
   refine aZ hst10 hk10 fun n11 tf11 t11 hle11 hst11 hk11=>yB ?_
   rw[pE 42];refine KL Bu _ _ _ _ _ hst11 (hk11.bind fun y n12 tf12 t12 v12 hr12 hle12 hst12 hrd12 hk12=>?_)
   obtain⟨cy,rfl,hy⟩:=hrd12
   refine fC (agE hy) ?_
   have ey:[zA.int .u8 ((cellsOf cy).i 0),.str ((cellsOf cy).s 1),.int .u8 ((cellsOf cy).i 2),.bool ((cellsOf cy).b 3),(cellsOf cy).v 4,.bool ((cellsOf cy).b 5),(cellsOf cy).v 6,.int .i64 ((cellsOf cy).i 7),(cellsOf cy).v 8]=cy:=cE_eq hy
   refine sA (by rw[ey];obtain⟨a,b,c,rfl,_⟩:=rL hy;exact hy.all) ?_
   have hrd:=LU (t:=tf12) (a:=a) (b:=b) (f:=f) (u:=u) (k:=k) (o:=false) (hx.mono (hle11.trans hle12)) hy
   have exy:[zA.str a,.str b,.int .i64 f,.int .i64 u,.int .i64 k,.bool false,.int .u8 ((cellsOf cx).i 0),.str ((cellsOf cx).s 1),.int .u8 ((cellsOf cx).i 2),.bool ((cellsOf cx).b 3),(cellsOf cx).v 4,.bool ((cellsOf cx).b 5),(cellsOf cx).v 6,.int .i64 ((cellsOf cx).i 7),(cellsOf cx).v 8,.int .u8 ((cellsOf cy).i 0),.str ((cellsOf cy).s 1),.int .u8 ((cellsOf cy).i 2),.bool ((cellsOf cy).b 3),(cellsOf cy).v 4,.bool ((cellsOf cy).b 5),(cellsOf cy).v 6,.int .i64 ((cellsOf cy).i 7),(cellsOf cy).v 8]=[.str a,.str b,.int .i64 f,.int .i64 u,.int .i64 k,.bool false]++(cx++cy):=by
    rw[<- ex,<- ey];rfl
   rw[exy];exact sA hrd.all (Ok.now hk12 hst12 ⟨_,rfl,hrd⟩)
 refine Cq hst5 fun t6 h6=>pD ?_
 cases ha:acc P.tk wEnd n5 with
 | true=>
  rw[ha,yab rfl]at hk5;rw[ha,yab rfl]at h6;exact tB (by simp) (kC (tail 65536 (n5+1) tf5 t6 h6 hk5))
 | false=>
  rw[ha,yaa (by simp)]at hk5
  rw[ha,yaa (by simp)]at h6
  refine sA rfl (yB ?_)
  rw[pE 73];refine Mo Bu h6 (hk5.bind fun u n6 tf6 t7 v6 hr6 hle6 hst6 hrd6 hk6=>?_)
  cases hrd6;exact sB (sA rfl (kC (tail u n6 tf6 t7 hst6 hk6)))
end
end Go.Proofs
namespace Go.Am
open Go Go.RowKit
variable {sz:Nat}{cl:List (List zA)}{v:zA}{cd:Lo}
section
variable {t tf:Tr vA}{C:mA}{base:Nat}
def LK (cd:Lo)(base:Nat)(t:Tr vA)(sz:Nat)(cl:List (List zA))(v:zA):Prop:=
 (v=.nilslice/\cl=[])\/∃b c,v=.slice b 0 cl.length cl.length/\base<=b/\t.get b=some (.cells c (cl.length*sz) (some cd)) ∧
  ∀(i:Nat) cs,cl[i]?=some cs->cs.length=sz/\∀(j:Nat) a,cs[j]?=some a->c.get (i*sz+j)=some a
def ZR{T el:Nat}(hT:aP C T el sz){cm:List (List zA)}{x:zA}(hv:LK (.sz sz) C.base t sz cl v)(hx:vN t sz x cm)(hone:∀a∈cm.flatten,zA.one a=true)(hpos:0<cm.length)(hl:cl.length+cm.length<400000){n:Nat}(hn:t.get n=none)(hbase:C.base<=n) :
  ∃t',cG C T T v x ⟨n,t⟩=some (.slice n 0 (cl.length+cm.length) (cl.length+cm.length),⟨n+1,t'⟩)/\LK (.sz sz) C.base t' sz (cl++cm) (.slice n 0 (cl.length+cm.length) (cl.length+cm.length))/\(∀c,c≠n->¬ lM v c->t'.get c=t.get c):=by
 obtain⟨⟨y,hy1,hy2,hy3⟩,⟨z,hz1,hz2,hz3,hz4,hz5⟩,hnb⟩:=hT
 have hcode:iM el z=.sz sz:=by rw[NB.code hnb hz1,hz2]
 have hall:=hx.len
 obtain⟨hf,hlen⟩:=hx.first (n:=n)
 have hflat:=fZ hall
 have hfl:zB cm.flatten=cm.length*sz:=by rw[oD];exact hflat
 have base:cG C T T v x ⟨n,t⟩=(match v.asSlice with
  | some s=>bif Nat.ble (s.2.2.1+cm.length) s.2.2.2 then dX C ⟨n,t⟩ z cm.length cm.flatten s else tW C ⟨n,t⟩ el z cm.length cm.flatten s
  | none=>xB (Nat.beq v.tag 5) (zT ⟨n,t⟩ el z cm.length cm.flatten)):=by
  unfold cG fW;rw[hy1,rA,rA,hy3];simp only[ycl,sE];rw[hy2,rA,hz1,rA,hlen,rA,hz2,hf,rA];rfl
 have ok:kU z cl.length cl.length cm.length cm.flatten=true:=by
  unfold kU;have h1:Nat.blt (cl.length+cm.length+cl.length) 1000000000=true:=pC.2 (by omega)
  have h2:Nat.blt ((cl.length+cm.length+cl.length)*z.bytes) 1000000000=true:=pC.2 (by
   have:=ydb (show cl.length+cm.length+cl.length<=800000 by omega) hz4
   omega)
  have h3:Nat.blt z.bytes 1000000000=true:=pC.2 (by omega)
  have h4:(!Nat.beq z.size 0)=true:=by
   cases hq:Nat.beq z.size 0 with
   | true=>have:=lC.1 hq;omega
   | false=>rfl
  have h5:Nat.beq (zB cm.flatten) (cm.length*z.size)=true:=by rw[hfl,hz2];exact lC.2 rfl
  have h6:Nat.beq (zB z.zero) z.size=true:=by rw[hz3,hz2];exact lC.2 rfl
  rw[h1,h2,h3,h4,h5,h6];rfl
 rcases hv with⟨rfl,rfl⟩ | ⟨b,c,rfl,hb0,hb2,hb3⟩
 ·refine⟨t.set n (.cells (Tr.ofList cm.flatten) (zB cm.flatten) (some (.sz sz))),?_,.inr ⟨n,Tr.ofList cm.flatten,by simp,hbase,?_,fun i cs hi=>⟨hall i cs hi,fun j a hj=>?_⟩⟩,fun c hc _=>(gN hn _).2 c hc⟩
  ·rw[base]
   simp only[zA.asSlice];show xB true (zT ⟨n,t⟩ el z cm.length cm.flatten)=_
   rw[sE];unfold zT;have:Nat.beq cm.length 0=false:=by
    cases hq:Nat.beq cm.length 0 with
    | true=>have:=lC.1 hq;omega
    | false=>rfl
   have ok:kU z 0 0 cm.length cm.flatten=true:=ok
   rw[this,cond_false,ok,sE,hcode];simp only[ybx,ybw];rfl
  ·rw[Tr.get_set,yab rfl,hfl];simp
  ·rw[Tr.get_ofList];exact jU hall i j cs a hi hj
 ·have hbn:b≠n:=by intro e;rw[e,hn]at hb2;cases hb2
  refine⟨(t.del b).set n (.cells (c.setMany cm.flatten (cl.length*z.size)) ((cl.length+cm.length)*z.size) (some (.sz sz))),?_,.inr ⟨n,c.setMany cm.flatten (cl.length*z.size),by simp,hbase,?_,fun i cs hi=>?_⟩,fun k hk1 hk2=>?_⟩
  ·rw[base]
   simp only[zA.asSlice];have:Nat.ble (cl.length+cm.length) cl.length=false:=by
    cases hq:Nat.ble (cl.length+cm.length) cl.length with
    | true=>have:=qE.1 hq;omega
    | false=>rfl
   rw[this,cond_false];unfold tW;simp only[];rw[show ∀x,(!(Nat.beq 0 1&&x))=true from fun _=>rfl,sE,ok,sE]
   unfold kD;rw[hb2,rA];simp only[vA.asCells,rA];unfold Eu;simp only[];have g1:loEq (.sz sz) (iM el z)=true:=by rw[hcode];exact Xl.2 rfl
   have g2:Nat.ble (cl.length*z.size) (cl.length*sz)=true:=qE.2 (by rw[hz2];exact ybk _)
   have g3:Nat.ble (cl.length*sz) ((cl.length+cm.length)*z.size)=true:=qE.2 (by rw[hz2];exact ybi _ (by omega))
   have g4:aB zA.one cm.flatten=true:=by rw[mI];exact ycb.2 hone
   have g5:(!Nat.blt b C.base)=true:=by
    cases hq:Nat.blt b C.base with
    | true=>have:=pC.1 hq;omega
    | false=>rfl
   rw[g1,g2,g3,g4,g5];simp only[hz2];rfl
  ·rw[Tr.get_set,yab rfl,hz2,ybg]
  ·rw[List.getElem?_append]at hi
   split at hi
   ·rename_i hlt
    obtain⟨k1,k2⟩:=hb3 i cs hi
    refine⟨k1,fun j a hj=>?_⟩
    have hjl:j<sz:=by rw[<- k1];exact(ybc.1 hj).1
    have:i*sz+j<cl.length*sz:=by
     have:=ybi sz (show i+1<=cl.length by omega)
     rw[ybo]at this;omega
    rw[Tr.get_setMany,hz2,yaa (by omega)]
    exact k2 j a hj
   ·rename_i hge
    have k1:=hall _ cs hi
    refine⟨k1,fun j a hj=>?_⟩
    have hf1:=jU hall _ j cs a hi hj
    have hlt:=(ybc.1 hf1).1
    have e:i*sz=cl.length*sz+(i-cl.length)*sz:=by rw[<- ybo];congr 1;omega
    rw[Tr.get_setMany,hz2,yab (by omega),show i*sz+j-cl.length*sz=(i-cl.length)*sz+j by omega]
    exact hf1
  ·rw[Tr.get_set,yaa hk1,Tr.get_del,yaa (fun e=>hk2 (Cb.2 e))]
theorem LK.off    (h:LK cd base t sz cl v){t':Tr vA}(hk:∀k∈jI v,t'.get k=t.get k):LK cd base t' sz cl v:=by
 rcases h with h | ⟨b,c,rfl,h1,h2,h3⟩
 ·exact .inl h
 ·exact .inr ⟨b,c,rfl,h1,by rw[hk b (by simp[jI])];exact h2,h3⟩
theorem LK.live    (h:LK cd base t sz cl v):∀k∈jI v,∃y,t.get k=some y:=by
 intro k hk;rcases h with⟨rfl,_⟩ | ⟨b,c,rfl,h1,h2,h3⟩
 ·cases hk
 ·have:k=b:=by simpa[jI]using hk
  subst this;exact⟨_,h2⟩
end
end Go.Am
namespace Go.Proofs
open Go Go.Am
variable {b el j sz:Nat}{cl:List (List zA)}{cs:List zA}{v:zA}
variable [gC]
def vI (base sz:Nat)(cl:List (List zA))(v:zA):iE where
 blks:=jI v
 ok:=fun _ t=>LK (.sz sz) base t sz cl v
 keep:=fun h _ k=>h.off fun b hb=>(k b hb).1
 live:=fun h k hk=>h.live k hk
section
variable {base:Nat}{tf t:Tr vA}{C:mA}{A B:List iE}
theorem fA.appendK{T n:Nat}  {x:zA}(hT:aP C T el sz)(h:fA C.base tf t (A++vI C.base sz cl v::B))(hx:vN t sz x [cs])(hone:∀a∈cs,zA.one a=true)(hl:cl.length+1<400000)(hn:t.get n=none)(hbase:C.base<=n) :
  ∃t' v',cG C T T v x ⟨n,t⟩=some (v',⟨n+1,t'⟩)/\fA C.base tf t' (A++vI C.base sz (cl++[cs]) v'::B)/\zA.one v'=true/\v'.cells=[v']:=by
 have hv:LK (.sz sz) C.base t sz cl v:=h.ok (vI C.base sz cl v) (by simp)
 obtain⟨t',k1,k2,k3⟩:=ZR hT hv hx (by simpa using hone) (by simp) (by simpa using hl) hn hbase
 refine⟨t',_,k1,fA.upd (o:=vI C.base sz cl v) h (fun k h1 h2=>k3 k ?_ (fun e=>h1 (Ej.2 e))) (fun k hk=>?_) k2 (by simp[vI,jI]) (fun k u hu=>?_),rfl,rfl⟩
 ·grind [vI,jI]
 ·grind [vI,jI]
 ·have hvk:∀k∈jI v,tf.get k=none:=fun k hk=>(h.low k (by simp[vI,hk])).2
  have e1:k≠n:=fun e=>by rw[e,h.tfn hn]at hu;cases hu
  have e2:¬ lM v k:=fun e=>by rw[hvk k (Ej.2 e)]at hu;cases hu
  rw[k3 k e1 e2];exact h.tle _ _ hu
def LK.idx{T i:Nat}{agg:Bool}   (hT:gI C T el sz agg)(h:LK (.sz sz) base t sz cl v)(hi:cl[i]?=some cs) :
  ∃b,v=.slice b 0 cl.length cl.length/\wC C T v (.int .i64 (i:Int))=some (.ptr b (i*sz))/\At t b (i*sz) cs:=by
 rcases h with⟨rfl,rfl⟩ | ⟨b,c,rfl,h1,h2,h3⟩
 ·simp at hi
 ·have:=Av (off:=0) (n:=cl.length) (cap:=cl.length) (b:=b) hT (ybc.1 hi).1
  rw[ybw]at this;exact⟨b,rfl,this,_,_,_,h2,(h3 i cs hi).2⟩
theorem fA.cellsK{n:Nat} (h:fA base tf t (A++vI base sz cl (.slice b 0 n n)::B)) :
  n=cl.length/\(∀(i:Nat) cs,cl[i]?=some cs->cs.length=sz)/\fA base tf t (A++fB b (some (.sz sz)) cl.flatten::B):=by
 have hv:LK (.sz sz) base t sz cl (.slice b 0 n n):=h.ok (vI base sz cl (.slice b 0 n n)) (by simp)
 rcases hv with⟨hv,_⟩ | ⟨b',c,hv,h1,h2,h3⟩
 ·cases hv
 ·cases hv
  have hall:∀(i:Nat) cs,cl[i]?=some cs->cs.length=sz:=fun i cs hi=>(h3 i cs hi).1
  refine⟨rfl,hall,fA.upd (o:=vI base sz cl (.slice b 0 cl.length cl.length)) (o':=fB b (some (.sz sz)) cl.flatten) h (fun _ _ _=>rfl) (fun k hk=>.inl ?_) ?_ (by simp[fB]) h.tle⟩
  ·grind [fB,vI,jI]
  ·refine⟨c,by rw[h2,fZ hall],fun j a hj=>?_⟩
   have hf:=fZ hall
   have hj':=(ybc.1 hj).1
   have hsz:0<sz:=by
    rcases yav sz with e | e
    ·subst e;simp at hf;simp[hf]at hj'
    ·exact e
   have hi:j / sz<cl.length:=by rw[Nat.div_lt_iff_lt_mul hsz];omega
   obtain⟨k1,k2⟩:=h3 (j / sz) cl[j / sz] (ybd hi)
   have hm:=ycy j hsz
   have hg:=jU hall (j / sz) (j%sz) cl[j / sz] cl[j / sz][j%sz] (ybd hi) (ybd (by omega))
   have e:j / sz*sz+j%sz=j:=by rw[ybh];exact ych j sz
   rw[e]at hg;rw[hg]at hj
   cases hj;have:=k2 (j%sz) _ (ybd (by omega))
   rwa [e]at this
theorem fA.listK  (hall:∀(i:Nat) cs,cl[i]?=some cs->cs.length=sz)(h:fA base tf t (A++fB b (some (.sz sz)) cl.flatten::B)) :
  fA base tf t (A++vI base sz cl (.slice b 0 cl.length cl.length)::B):=by
 obtain⟨c,h2,h3⟩:dC t b (some (.sz sz)) cl.flatten:=h.ok (fB b (some (.sz sz)) cl.flatten) (by simp)
 have hlow:=h.low b (by simp[fB])
 refine fA.upd (o:=fB b (some (.sz sz)) cl.flatten) (o':=vI base sz cl (.slice b 0 cl.length cl.length)) h (fun _ _ _=>rfl) (fun k hk=>.inl ?_) (.inr ⟨b,c,rfl,hlow.1,by rw[h2,fZ hall],fun i cs hi=>⟨hall i cs hi,fun j a hj=>h3 _ _ (jU hall i j cs a hi hj)⟩⟩) (by simp[vI,jI]) h.tle
 grind [fB,vI,jI]
end
def el23:aP yA 23 77 3:=⟨⟨_,ty23,rfl,rfl⟩,⟨_,ty77,rfl,rfl,by decide,by decide⟩,fun y h=>by rw[ty77]at h;cases h;rfl⟩
def el24:aP yA 24 130 3:=⟨⟨_,Gd,rfl,rfl⟩,⟨_,zgm,rfl,rfl,by decide,by decide⟩,fun y h=>by rw[zgm]at h;cases h;rfl⟩
def el25:aP yA 25 72 24:=⟨⟨_,ty25,rfl,rfl⟩,⟨_,ty72,rfl,rfl,by decide,by decide⟩,fun y h=>by rw[ty72]at h;cases h;rfl⟩
def el128:aP yA 128 155 7:=⟨⟨_,Js,rfl,rfl⟩,⟨_,zgk,rfl,rfl,by decide,by decide⟩,fun y h=>by rw[zgk]at h;cases h;rfl⟩
section
variable {P:cI}{tf t:Tr vA}{n d:Nat}{Q E:pB}{J W:eE}
def St.dropL:∀ {X:List iE},St (P.wL (X++P.L)) tf t n d->St P tf t n d:=by
 intro X h;refine⟨h.ts,?_,h.len,h.le,h.good,h.glob⟩
 have:=h.ob
 change fA yA.base tf t (tG P n d::(X++P.L))at this
 clear h
 induction X with
 | nil=>exact this
 | cons x X ih=>exact ih (fA.drop (A:=[tG P n d]) (o:=x) this)
def Gu(S:Nat)(pv:zA)(g:zA->Option zA)(ad v:zA)(cs:List zA):T:=
 .heavy (eC yA S 1 [(0,.agg cs)]) fun a13=>.light (fun m=>lA yA S ⟨0,m⟩ ad) fun a14=>.ite (same 10 a14 v) (.heavy (cG yA S S v a13) fun a15=>
  .opt (iF pv) fun a16=>.opt (g a16) fun a17=>.heavy (zC yA S a17 a15) fun _=>.ret (.tup [])) .fail
def FI   (h:j<cs.length):rJ cs j [v]=cs.set j v:=by
 refine List.ext_getElem? fun k=>?_
 rw[Ec (by show j+1<=cs.length;omega),ycw]
 show(if j<=k/\k<j+1 then [v][k-j]? else _)=_
 split
 ·have:k=j:=by omega
  subst this;simp[h]
 ·rw[yaa (by omega)]
def FN{T:Nat} {t:Tr vA}(hT:aP yA T el sz)(hcs:cs.length=sz)(hs:sz<1000)(hb:t.get b=none):∃t',eC yA T 1 [(0,.agg cs)] ⟨b,t⟩=some (.slice b 0 1 1,⟨b+1,t'⟩)/\vN t' sz (.slice b 0 1 1) [cs]/\aA t t'/\bF b t t':=by
 obtain⟨⟨y,hy1,hy2,_⟩,⟨z,hz1,hz2,hz3,_⟩,_⟩:=hT
 exact Em (n:=1) hy1 hy2 hz1 hz2 hz3 (by omega) ((Ez (sz:=sz) (z:=z.zero) (v:=.agg cs) (by rw[<- oD,hz3]) hcs).trans (by show some cs=_;simp)) (Ed hcs) rfl hb
theorem ET{T pb:Nat}{y:lD}{A0 A B:List iE}{l:List D}{dd:D}{pc:List zA}{pv:zA}{g:zA->Option zA}{lo:Option Lo}(hT:aP yA T el sz)(hy:yA.tys.get T=some y)(ha:y.desc.isAgg=false)(hs1:y.size=1)(hcs:cs.length=sz)(hs:sz<1000)
  (hpv:iF pv=some pv) (hg:g pv=some (.ptr pb j))
  (h:fA yA.base tf t (A0++fB pb lo pc::(A++uD yA.base sz l v::B))) (hj:pc[j]?=some v) (hrd:RD tf dd cs) (hl:l.length+1<400000)
  (hQ:∀t' v',fA yA.base tf t' (A0++fB pb lo (pc.set j v')::(A++uD yA.base sz (l++[dd]) v'::B))->Q (.tup []) t') :
  pA yA.base W J (Gu T pv g (.ptr pb j) v cs) t Q:=by
 refine jC fun b hb hbase=>?_
 obtain⟨t1,h1,h2,h3,h4⟩:=FN hT hcs hs hb
 have o1:=h.junk hb h4
 have hc:dC t1 pb lo pc:=o1.cel
 have e:∀(o o':iE),A0++o::(A++o'::B)=(A0++o::A)++o'::B:=fun o o'=>by simp
 rw[e]at o1;have hv:zR yA.base tf t1 sz l v:=o1.ok (uD yA.base sz l v) (by simp)
 refine⟨_,_,h1,vC (hc.load1 hy ha hj) (sA hv.same (jC fun b2 hb2 hbase2=>?_))⟩
 obtain⟨t2,k1,k2,k3,k4⟩:=MY hT (m:=[dd]) hv h2 (yD.2 ⟨cs,[],rfl,hrd,sF.2 rfl⟩) (by
  have:=hrd.all
  rw[mI,ycb]at this;simpa using this) (by simp) (by simpa using hl) hb2 hbase2 o1.tle
 refine⟨_,_,k1,oA hpv (oA hg (jC fun b3 _ _=>?_))⟩
 have o2:fA yA.base tf t2 ((A0++fB pb lo pc::A)++uD yA.base sz (l++[dd]) (.slice b2 0 (l.length+[dd].length) (l.length+[dd].length))::B):=by
  refine fA.upd (o:=uD yA.base sz l v) o1 (fun k h1 h2=>k4 k ?_ (fun e=>h1 (Ej.2 e))) (fun k hk=>?_) k2 (by simp[uD,jI]) k3
  all_goals grind [uD,jI]
 rw[<- e]at o2;have hjl:=(ybc.1 hj).1
 obtain⟨t3,m1,m2⟩:=fA.setCel (j:=j) (v:=.slice b2 0 (l.length+[dd].length) (l.length+[dd].length)) o2 hy (by rw[hs1];rfl) (by
  show j+1<=pc.length
  omega) rfl
 refine⟨_,_,m1 b3,?_⟩
 have e2:rJ pc j (zA.cells (.slice b2 0 (l.length+[dd].length) (l.length+[dd].length)))=pc.set j (.slice b2 0 (l.length+[dd].length) (l.length+[dd].length)):=FI hjl
 rw[e2]at m2;exact hQ t3 _ m2
end
end Go.Proofs
namespace Go.Proofs
open Go Go.Am
section
variable {tf':Tr vA}{tcl:List (List zA)}{R:List D}{rv:zA}{X:List iE}{α:Type}{w:List Nat}{K:zA->T}{Q':pB}{b:Nat}
variable [gC]
section
variable {tk:List lB}
def SS:∀k,Up (mR tk k):=by
 intro k;induction k with
 | zero=>intro n a n' h;cases h
 | succ k ih=>exact JH ih
def KK:Up (rW tk):=KM (SS 101)
def Mn{f:Bool}:Up (uT tk f):=zF Eh fun _=>zF (LX _ _) fun _=>qL
def IM:Up (sU tk):=by
 intro n a n' h;unfold sU at h;have key:∀m,n<=m->(if (!bC tk 2 m||rH (lE tk m))=true then(.er 120 m:PR Int)else match mL (lE tk m) (acc tk bI n) (-2147483648) 2147483647 with | none=>.er 121 m | some i=>.ok i (m+1))=.ok a n'->n<=n':=by
  intro m hm h;split at h
  ·cases h
  ·split at h<;>cases h
   omega
 refine key _ ?_ h
 split<;>omega
def Vt{two:Bool}:Up (nX tk two):=by
 have hr:∀a b d,Up (fun n5=>(fun(neg:Bool)=>(aC tk 2 (if neg then n5+1 else n5)).bind fun s n6=>(.ok (⟨a,b,d,tI s neg⟩:nH) n6:PR nH)) (acc tk bI n5)):=by
  intro a b d n x n' h;obtain⟨s,n1,e1,e2⟩:=PR.bind_ok h
  have:=Oc _ _ _ e1
  cases e2
  split at this<;>omega
 refine zF IM fun a=>?_
 cases two with
 | true=>exact zF IM fun b=>zF bN fun _=>zF Hx fun d=>zF bN fun _=>hr a b d
 | false=>exact zF qL fun b=>zF bN fun _=>zF Hx fun d=>zF bN fun _=>hr a b d
def Zw:Up (qT tk):=by
 refine zF Eh fun a=>zF Eh fun b=>zF bN fun _=>zF Hx fun f=>zF bN fun _=>?_
 have h1:Up (fun n5=>(if acc tk wEnd n5 then .ok 65536 (n5+1)else aO tk n5:PR Int)):=by
  intro n a n' h;dsimp only at h
  split at h
  ·cases h;omega
  ·exact Hx _ _ _ h
 refine zF h1 fun u=>zF bN fun _=>zF Hx fun k=>?_
 intro n x n' h;dsimp only at h
 split at h
 ·cases h;omega
 ·exact zF bN (fun _=>zF KK fun x=>zF bN fun _=>zF KK fun y=>qL (a:=(⟨a,b,f,u,k,false,x,y⟩:dF))) _ _ _ h
def PA:Up (Dn tk):=by
 refine zF Eh fun w n a n' h=>?_
 split at h
 ·cases h;omega
 ·exact zF bN (fun _=>qL (a:=(⟨w,false,[]⟩:zI))) _ _ _ h
end
def Ft(tf:Tr vA)(T:List zI)(tcl:List (List zA))(R:List D)(rv:zA):Prop:=
 (T=[]/\tcl=[]/\R=[]/\rv=.nilslice)\/∃A x clA,T=A++[x]/\tcl=clA++[[.str x.name,.bool x.two,rv]]/\xD tf (A.map zI.d) clA/\R=x.rows.map nH.d
theorem Ft.mono{tf:Tr vA}{T:List zI}   (h:Ft tf T tcl R rv)(hl:aA tf tf'):Ft tf' T tcl R rv:=by
 rcases h with h | ⟨A,x,clA,h1,h2,h3,h4⟩
 ·exact .inl h
 ·exact .inr ⟨A,x,clA,h1,h2,xD.mono hl _ _ h3,h4⟩
theorem Ft.len{tf:Tr vA}{T:List zI}   (h:Ft tf T tcl R rv):tcl.length=T.length:=by
 rcases h with⟨rfl,rfl,_⟩ | ⟨A,x,clA,rfl,rfl,h3,h4⟩
 ·rfl
 ·have:=h3.length
  simp_all
def yM(pb:Nat)(nm dv tv rv cv:zA)(D:List D)(tcl:List (List zA))(R C:List Am.D):List iE:=
 [fB pb none [nm,dv,tv,cv],uD yA.base 3 D dv,vI yA.base 3 tcl tv,uD yA.base 7 R rv,uD yA.base 24 C cv]
def cW(P:cI)(pb:Nat)(p:wE)(tf t:Tr vA)(n:Nat):Prop:=
 ∃dv tv rv cv tcl R,Ft tf p.tables tcl R rv/\St (P.wL (yM pb (.str p.name) dv tv rv cv (p.defs.map oG.d) tcl R (p.clauses.map dF.d)++P.L)) tf t n 0/\p.defs.length<=n/\p.tables.length<=n/\R.length<=n/\p.clauses.length<=n
def vL (P:cI)(pb:Nat)(tf:Tr vA)(r:PR wE)(Q E:pB):Prop:=
 match r with
 | .ok p n=>∀tf' t',aA tf tf'->cW P pb p tf' t' n->Q (.tup []) t'
 | .er e i=>∀tf' t' n' d',aA tf tf'->St P tf' t' n' d'->E (Ro P e i) t'
section
variable {P:cI}{tf t:Tr vA}{n d pb:Nat}{Q E:pB}{J W:eE}
theorem vL.mono{r:PR wE}(h:vL P pb tf r Q E) (hl:aA tf tf'):vL P pb tf' r Q E:=by
 cases r with
 | ok a n=>exact fun tf2 t' k1 k2=>h tf2 t' (hl.trans k1) k2
 | er e i=>exact fun tf2 t' n' d' k1 k2=>h tf2 t' n' d' (hl.trans k1) k2
def vL.bind  {rd1:Tr vA->α->zA->Prop}{r:PR α}{f:α->Nat->PR wE}{Q1:pB}(h:vL P pb tf (r.bind f) Q E)
  (k:∀a n1 tf1 t1 v,r=.ok a n1->aA tf tf1->St (P.wL (X++P.L)) tf1 t1 n1 0->rd1 tf1 a v->vL P pb tf1 (f a n1) Q E->Q1 v t1):Ok (P.wL (X++P.L)) rd1 0 tf r Q1 E:=by
 cases r with
 | ok a n=>exact fun tf' t' v h1 h2 h3=>k a n tf' t' v rfl h1 h2 h3 (vL.mono h h1)
 | er e i=>exact fun tf' t' n' d' h1 h2=>h tf' t' n' d' h1 h2.dropL
def vL.exp   {f:Unit->Nat->PR wE} (hst:St (P.wL (X++P.L)) tf t n 0)(h:vL P pb tf ((aD P.tk w n).bind f) Q' E)
  (k:∀n1 tf1 t1,n<=n1->aA tf tf1->St (P.wL (X++P.L)) tf1 t1 n1 0->vL P pb tf1 (f () n1) Q' E->pA yA.base (jE yA F qC vF E) J (K (.tup [])) t1 Q) :
  pA yA.base (jE yA F qC vF E) J (.heavy (eC yA 93 1 [(0,.str w)]) fun a=>.call 57 [.ptr P.bp 0,a] K) t Q:=by
 refine Fa (P:=P.wL (X++P.L)) hst ?_
 refine h.bind fun a n1 tf1 t1 v hr hle hst1 hrd hk=>?_
 cases hrd;exact k n1 tf1 t1 (bN _ _ _ hr) hle hst1 hk
def Mz  {Y Z:T}(h:St (P.wL (X++P.L)) tf t n d)(k1:acc P.tk w n=true->∀t',St (P.wL (X++P.L)) tf t' (n+1) d->pA yA.base (jE yA F qC vF E) J Y t' Q)(k2:acc P.tk w n=false->∀t',St (P.wL (X++P.L)) tf t' n d->pA yA.base (jE yA F qC vF E) J Z t' Q) :
  pA yA.base (jE yA F qC vF E) J (.call 72 [.ptr P.bp 0,.str w] fun a=>.asB a fun b=>.ite b Y Z) t Q:=yP (P:=P.wL (X++P.L)) h k1 k2
def vL.name  {f:List Nat->Nat->PR wE} (hst:St (P.wL (X++P.L)) tf t n 0)(h:vL P pb tf ((kH P.tk n).bind f) Q' E)
  (k:∀w n1 tf1 t1,n<=n1->aA tf tf1->St (P.wL (X++P.L)) tf1 t1 n1 0->vL P pb tf1 (f w n1) Q' E->pA yA.base (jE yA F qC vF E) J (K (.str w)) t1 Q) :
  pA yA.base (jE yA F qC vF E) J (.call 58 [.ptr P.bp 0] K) t Q:=by
 refine yB ?_
 rw[pE 58];refine Eg (P:=P.wL (X++P.L)) hst (h.bind fun a n1 tf1 t1 v hr hle hst1 hrd hk=>?_)
 cases hrd;exact k a n1 tf1 t1 (Eh _ _ _ hr) hle hst1 hk
def gF(k:Nat)(hk:k=0\/k=1\/k=2\/k=3)  : nC yA 27 k (.ptr b 0)=some (.ptr b k):=by
 rcases hk with rfl | rfl | rfl | rfl<;>kernel_rfl
def gT(k:Nat)(hk:k=1\/k=2){o:Nat}:nC yA 130 k (.ptr b o)=some (.ptr b (o+k)):=by
 rcases hk with rfl | rfl<;>kernel_rfl
def EU{T el sz j g:Nat}{y:lD}{A B:List iE}{l:List D}{pc zs:List zA}{v:zA} {rd:Tr vA->α->zA->Prop}{r:PR α}{k:α->Nat->PR wE}{dd:α->D}{fc:jG->List zA}{args:List zA}
  (hT:aP yA T el sz) (hy:yA.tys.get T=some y) (ha:y.desc.isAgg=false) (hs1:y.size=1) (hs:sz<1000) (hjj:j=0\/j=1\/j=2\/j=3)
  (hrd:∀tf a w,rd tf a w->∃cs,w=.agg cs/\RD tf (dd a) cs/\xK zs (.agg cs)=some (cellsOf cs)/\fc (cellsOf cs)=cs/\cs.length=sz)
  (hst:St (P.wL ((fB pb none pc::(A++uD yA.base sz l v::B))++P.L)) tf t n 0) (hj:pc[j]?=some v) (hl:l.length+1<400000)
  (hW:∀a m R,jE yA F qC vF E g a m R=lJ yA F E g a m R)
  (hcall:∀Q',Ok (P.wL ((fB pb none pc::(A++uD yA.base sz l v::B))++P.L)) rd 0 tf r Q' E->lJ yA F E g args t Q')
  (hk:vL P pb tf (r.bind k) Q E)
  (hQ:∀a n1 tf' t' v',r=.ok a n1->aA tf tf'->St (P.wL ((fB pb none (pc.set j v')::(A++uD yA.base sz (l++[dd a]) v'::B))++P.L)) tf' t' n1 0->vL P pb tf' (k a n1) Q E->Q (.tup []) t') :
  pA yA.base (jE yA F qC vF E) J (.opt (iF (.ptr pb 0)) fun a7=>.opt (nC yA 27 j a7) fun a8=>.light (fun m=>lA yA T ⟨0,m⟩ a8) fun a9=>.call g args fun a10=>.asG zs a10 fun X=>
   .light (fun m=>lA yA T ⟨0,m⟩ a8) fun a12=>.ite (same 10 a12 a9) (Gu T (.ptr pb 0) (nC yA 27 j) a8 a9 (fc X)) .fail) t Q:=by
 have hc:dC t pb none pc:=hst.ob.cel (A:=[tG P n 0])
 refine oA nl (oA (gF j hjj) (vC (hc.load1 hy ha hj) (yB ?_)))
 rw[hW];refine hcall _ (hk.bind fun a n1 tf1 t1 w hr hle hst1 hrd1 hk1=>?_)
 obtain⟨cs,rfl,c1,c2,c3,c4⟩:=hrd _ _ _ hrd1
 have hc1:dC t1 pb none pc:=hst1.ob.cel (A:=[tG P n1 0])
 have o1:fA yA.base tf1 t1 ([tG P n1 0]++fB pb none pc::(A++uD yA.base sz l v::(B++P.L))):=by
  have:=hst1.ob
  change fA yA.base tf1 t1 (tG P n1 0::((fB pb none pc::(A++uD yA.base sz l v::B))++P.L))at this
  simpa using this
 have hv:zR yA.base tf1 t1 sz l v:=o1.ok (uD yA.base sz l v) (by simp)
 refine fC c2 (vC (hc1.load1 hy ha hj) (sA hv.same ?_))
 rw[c3];refine ET hT hy ha hs1 c4 hs nl (gF j hjj) o1 hj c1 hl fun t2 v' o2=>?_
 refine hQ a n1 tf1 t2 v' hr hle ⟨hst1.ts,?_,hst1.len,hst1.le,hst1.good,hst1.glob⟩ hk1
 show fA yA.base tf1 t2 (tG P n1 0::((fB pb none (pc.set j v')::(A++uD yA.base sz (l++[dd a]) v'::B))++P.L))
 simpa using o2
end
end
section
variable {p:wE}{x:zI}{rv:zA}
variable [gC]
section
variable {P:cI}{tf t:Tr vA}{n d pb:Nat}{Q E:pB}{J W:eE}
def KZ{fact:Bool} (hp:cW P pb p tf t n)(h0:∀a n1,uT P.tk fact n=.ok a n1->p.defs.length+1<=n1)
  (hk:vL P pb tf ((uT P.tk fact n).bind fun d n1=>.ok ⟨p.name,p.defs++[d],p.tables,p.clauses⟩ n1) Q E) :
  pA yA.base (jE yA F qC vF E) J (.opt (iF (.ptr pb 0)) fun a7=>.opt (nC yA 27 1 a7) fun a8=>.light (fun m=>lA yA 23 ⟨0,m⟩ a8) fun a9=>.call 89 [.ptr P.bp 0,.bool fact] fun a10=>.asG [.str [],.int .u8 0,.bool false] a10 fun X=>
   .light (fun m=>lA yA 23 ⟨0,m⟩ a8) fun a12=>.ite (same 10 a12 a9) (Gu 23 (.ptr pb 0) (nC yA 27 1) a8 a9 [.str (X.s 0),.int .u8 (X.i 1),.bool (X.b 2)]) .fail) t Q:=by
 obtain⟨dv,tv,rv,cv,tcl,R,hT,hst,b1,b2,b3,b4⟩:=hp
 have hl:=hst.len
 have hle:=hst.le
 refine EU (A:=[]) (fc:=fun X=>[.str (X.s 0),.int .u8 (X.i 1),.bool (X.b 2)]) el23 ty23 rfl rfl (by omega) (by omega) (dd:=oG.d) (rd:=rdDef) ?_ hst rfl (by rw[ybf];have:(P.wL (yM pb (.str p.name) dv tv rv cv (p.defs.map oG.d) tcl R (p.clauses.map dF.d)++P.L)).tk=P.tk:=rfl;rw[this]at hl hle;omega) (fun _ _ _=>by rw[pE 89]) (fun Q' hQ'=>def_ok (P:=P.wL (yM pb (.str p.name) dv tv rv cv (p.defs.map oG.d) tcl R (p.clauses.map dF.d)++P.L)) hst hQ') hk ?_
 ·rintro tf a w ⟨cs,rfl,h⟩
  have:=We h
  exact⟨cs,rfl,h,bU h rfl,by rw[this];rfl,by rw[this];rfl⟩
 ·intro a n1 tf' t' v' hr hle' hst' hk'
  have hd:=Mn _ _ _ hr
  refine hk' tf' t' (aA.refl _) ⟨v',tv,rv,cv,tcl,R,hT.mono hle',?_,by simpa using h0 _ _ hr,Nat.le_trans b2 hd,Nat.le_trans b3 hd,Nat.le_trans b4 hd⟩
  simpa[yM]using hst'
def zjp (hp:cW P pb p tf t n)(h0:∀a n1,qT P.tk n=.ok a n1->p.clauses.length+1<=n1)
  (hk:vL P pb tf ((qT P.tk n).bind fun c n1=>.ok ⟨p.name,p.defs,p.tables,p.clauses++[c]⟩ n1) Q E) :
  pA yA.base (jE yA F qC vF E) J (.opt (iF (.ptr pb 0)) fun a7=>.opt (nC yA 27 3 a7) fun a8=>.light (fun m=>lA yA 25 ⟨0,m⟩ a8) fun a9=>.call 91 [.ptr P.bp 0] fun a10=>.asG [(.str []),(.str []),(.int .i64 0),(.int .i64 0),(.int .i64 0),(.bool false),(.int .u8 0),(.str []),(.int .u8 0),(.bool false),.nilslice,(.bool false),.nilslice,(.int .i64 0),.nilslice,(.int .u8 0),(.str []),(.int .u8 0),(.bool false),.nilslice,(.bool false),.nilslice,(.int .i64 0),.nilslice] a10 fun X=>
   .light (fun m=>lA yA 25 ⟨0,m⟩ a8) fun a12=>.ite (same 10 a12 a9) (Gu 25 (.ptr pb 0) (nC yA 27 3) a8 a9 [(.str (X.s 0)),(.str (X.s 1)),(.int .i64 (X.i 2)),(.int .i64 (X.i 3)),(.int .i64 (X.i 4)),(.bool (X.b 5)),(.int .u8 (X.i 6)),(.str (X.s 7)),(.int .u8 (X.i 8)),(.bool (X.b 9)),(X.v 10),(.bool (X.b 11)),(X.v 12),(.int .i64 (X.i 13)),(X.v 14),(.int .u8 (X.i 15)),(.str (X.s 16)),(.int .u8 (X.i 17)),(.bool (X.b 18)),(X.v 19),(.bool (X.b 20)),(X.v 21),(.int .i64 (X.i 22)),(X.v 23)]) .fail) t Q:=by
 obtain⟨dv,tv,rv,cv,tcl,R,hT,hst,b1,b2,b3,b4⟩:=hp
 have hl:=hst.len
 have hle:=hst.le
 refine EU (A:=[uD yA.base 3 (p.defs.map oG.d) dv,vI yA.base 3 tcl tv,uD yA.base 7 R rv]) (B:=[]) (fc:=fun X=>[(.str (X.s 0)),(.str (X.s 1)),(.int .i64 (X.i 2)),(.int .i64 (X.i 3)),(.int .i64 (X.i 4)),(.bool (X.b 5)),(.int .u8 (X.i 6)),(.str (X.s 7)),(.int .u8 (X.i 8)),(.bool (X.b 9)),(X.v 10),(.bool (X.b 11)),(X.v 12),(.int .i64 (X.i 13)),(X.v 14),(.int .u8 (X.i 15)),(.str (X.s 16)),(.int .u8 (X.i 17)),(.bool (X.b 18)),(X.v 19),(.bool (X.b 20)),(X.v 21),(.int .i64 (X.i 22)),(X.v 23)]) el25 ty25 rfl rfl (by omega) (by omega) (dd:=dF.d) (rd:=rdCl) ?_ hst rfl (by rw[ybf];have:(P.wL (yM pb (.str p.name) dv tv rv cv (p.defs.map oG.d) tcl R (p.clauses.map dF.d)++P.L)).tk=P.tk:=rfl;rw[this]at hl hle;omega) (fun _ _ _=>by rw[pE 91]) (fun Q' hQ'=>YE (P:=P.wL (yM pb (.str p.name) dv tv rv cv (p.defs.map oG.d) tcl R (p.clauses.map dF.d)++P.L)) hst hQ') hk ?_
 ·rintro tf a w ⟨cs,rfl,h⟩
  obtain⟨a1,a2,a3,a4,a5,a6,rfl,_⟩:=Wg h
  exact⟨_,rfl,h,bU h (dF.zs _),rfl,rfl⟩
 ·intro a n1 tf' t' v' hr hle' hst' hk'
  have hd:=Zw _ _ _ hr
  refine hk' tf' t' (aA.refl _) ⟨dv,tv,rv,v',tcl,R,hT.mono hle',?_,Nat.le_trans b1 hd,Nat.le_trans b2 hd,Nat.le_trans b3 hd,by simpa using h0 _ _ hr⟩
  simpa[yM]using hst'
def zbg {A:List zI} {n4:Int}(hp:cW P pb p tf t n)(hA:p.tables=A++[x])(hn4:n4=((A.length+1:Nat):Int))(h0:∀a n1,nX P.tk x.two n=.ok a n1->x.rows.length+1<=n1)
  (hk:vL P pb tf ((nX P.tk x.two n).bind fun r n1=>.ok ⟨p.name,p.defs,nT p.tables r,p.clauses⟩ n1) Q E) :
  pA yA.base (jE yA F qC vF E) J (.opt (iF (.ptr pb 0)) fun a41=>.opt (nC yA 27 2 a41) fun a42=>.light (fun m=>lA yA 24 ⟨0,m⟩ a42) fun a43=>.opt (wC yA 24 a43 (.int .i64 (iA .i64 (n4-1)))) fun a44=>.opt (iF a44) fun a45=>.opt (nC yA 130 2 a45) fun a46=>.light (fun m=>lA yA 128 ⟨0,m⟩ a46) fun a47=>.opt (iF a44) fun a48=>.opt (nC yA 130 1 a48) fun a49=>.light (fun m=>lA yA 4 ⟨0,m⟩ a49) fun a50=>.asB a50 fun b51=>.call 90 [.ptr P.bp 0,.bool b51] fun a52=>
   .asG [(.int .i64 0),(.int .i64 0),(.int .i64 0),(.bool false),.nilslice,(.bool false),.nilslice] a52 fun X53=>
   .light (fun m=>lA yA 128 ⟨0,m⟩ a46) fun a54=>.ite (same 10 a54 a47) (Gu 128 a44 (nC yA 130 2) a46 a47 [(.int .i64 (X53.i 0)),(.int .i64 (X53.i 1)),(.int .i64 (X53.i 2)),(.bool (X53.b 3)),(X53.v 4),(.bool (X53.b 5)),(X53.v 6)]) .fail) t Q:=by
 obtain⟨dv,tv,rv,cv,tcl,R,hT,hst,b1,b2,b3,b4⟩:=hp
 rcases hT with⟨hT,_⟩ | ⟨A',x',clA,hT,htcl,hrA,hR⟩
 ·rw[hT]at hA;simp at hA
 obtain⟨rfl,e⟩:=List.append_inj' (hA.symm.trans hT) rfl
 cases e
 have hl:=hst.len
 have hle:=hst.le
 have hlA:clA.length=A.length:=by simpa using hrA.length
 have hLK:LK (.sz 3) yA.base t 3 tcl tv:=hst.ob.ok (vI yA.base 3 tcl tv) (by simp[yM,cI.wL])
 have hi:tcl[A.length]?=some [.str x.name,.bool x.two,rv]:=by rw[htcl,<- hlA];simp
 obtain⟨b,etv,hidx,hat⟩:=LK.idx sl24 hLK hi
 subst etv;have hlA2:A.length<100000000:=by
  have:A.length<p.tables.length:=by rw[hA];simp
  change n<=P.tk.length at hle
  change P.tk.length<300000 at hl
  omega
 have hc:dC t pb none [.str p.name,dv,.slice b 0 tcl.length tcl.length,cv]:=hst.ob.cel (A:=[tG P n 0])
 obtain⟨_,hall,hob2⟩:=fA.cellsK (A:=[tG P n 0,fB pb none [.str p.name,dv,.slice b 0 tcl.length tcl.length,cv],uD yA.base 3 (p.defs.map oG.d) dv]) hst.ob
 have hst2:St (P.wL ([fB pb none [.str p.name,dv,.slice b 0 tcl.length tcl.length,cv],uD yA.base 3 (p.defs.map oG.d) dv,fB b (some (.sz 3)) tcl.flatten,uD yA.base 7 R rv,uD yA.base 24 (p.clauses.map dF.d) cv]++P.L)) tf t n 0:=⟨hst.ts,hob2,hst.len,hst.le,hst.good,hst.glob⟩
 have hc2:dC t b (some (.sz 3)) tcl.flatten:=hob2.cel
 have g1:=jU hall A.length 1 _ (.bool x.two) hi rfl
 have g2:=jU hall A.length 2 _ rv hi rfl
 have e4:iA .i64 (n4-1)=(A.length:Int):=by rw[hn4,iC (by omega) (by omega)];omega
 refine oA nl (oA (gF 2 (by omega)) (vC (hc.load1 Gd rfl rfl) (oA (by rw[e4];exact hidx) (oA nl (oA (gT 2 (by omega)) (vC (hc2.load1 Js rfl g2) (oA nl (oA (gT 1 (by omega)) (vC (hc2.load1 ty4 rfl g1) (pD (yB ?_)))))))))))
 rw[pE 90];refine row_ok (P:=P.wL ([fB pb none [.str p.name,dv,.slice b 0 tcl.length tcl.length,cv],uD yA.base 3 (p.defs.map oG.d) dv,fB b (some (.sz 3)) tcl.flatten,uD yA.base 7 R rv,uD yA.base 24 (p.clauses.map dF.d) cv]++P.L)) hst2 (hk.bind fun r n1 tf1 t1 w hr hle1 hst1 hrd1 hk1=>?_)
 obtain⟨cs,rfl,hrd⟩:=hrd1
 obtain⟨u,v,rfl,_⟩:=Wd hrd
 have o1:fA yA.base tf1 t1 ([tG P n1 0,fB pb none [.str p.name,dv,.slice b 0 tcl.length tcl.length,cv],uD yA.base 3 (p.defs.map oG.d) dv]++fB b (some (.sz 3)) tcl.flatten::([]++uD yA.base 7 R rv::(uD yA.base 24 (p.clauses.map dF.d) cv::P.L))):=hst1.ob
 have hc3:dC t1 b (some (.sz 3)) tcl.flatten:=o1.cel
 have hv:zR yA.base tf1 t1 7 R rv:=o1.ok (uD yA.base 7 R rv) (by simp)
 refine fC (bU hrd (nH.zs _)) (vC (hc3.load1 Js rfl g2) (sA hv.same ?_))
 have hRl:R.length=x.rows.length:=by rw[hR,ybf]
 refine ET el128 Js rfl rfl rfl (by omega) nl (gT 2 (by omega)) o1 g2 hrd (by
  change n<=P.tk.length at hle
  change P.tk.length<300000 at hl
  omega) fun t2 v' o2=>?_
 have ef:tcl.flatten.set (A.length*3+2) v'=(clA++[[.str x.name,.bool x.two,v']]).flatten:=by
  have hj:=(ybc.1 g2).1
  rw[<- FI hj,zcp hall hi (by show 2+1<=3;omega)]
  congr 1
  rw[htcl,DH hlA];rfl
 rw[ef]at o2;have hall2:∀(i:Nat) cs,(clA++[[.str x.name,.bool x.two,v']])[i]?=some cs->cs.length=3:=by
  intro i cs hi;rw[List.getElem?_append]at hi;split at hi
  ·rename_i hlt
   exact hall i cs (by rw[htcl,yco hlt];exact hi)
  ·exact Ed (sz:=3) rfl _ _ hi
 have o3:=fA.listK hall2 o2
 have elen:(clA++[[zA.str x.name,.bool x.two,v']]).length=tcl.length:=by rw[htcl];simp
 rw[elen]at o3;have hd:=Vt _ _ _ hr
 refine hk1 tf1 t2 (aA.refl _) ⟨dv,_,v',cv,clA++[[.str x.name,.bool x.two,v']],R++[r.d],.inr ⟨A,⟨x.name,x.two,x.rows++[r]⟩,clA,?_,rfl,xD.mono hle1 _ _ hrA,by rw[hR];simp⟩,⟨hst1.ts,o3,hst1.len,hst1.le,hst1.good,hst1.glob⟩,Nat.le_trans b1 hd,?_,by have:=h0 _ _ hr;simpa[hRl]using this,Nat.le_trans b4 hd⟩
 ·show nT p.tables r=_
  rw[hA];simp[nT]
 ·show(nT p.tables r).length<=n1
  rw[hA];simp[nT]
  rw[hA]at b2;simp at b2;omega
def zaz{t:Tr vA}  (h:bA t 7 (x.rows.map nH.d) rv):RD t x.d [.str x.name,.bool x.two,rv]:=
 kJ.2 ⟨[[.str x.name],[.bool x.two],[rv]],rfl,yD.2 ⟨_,_,rfl,mK.2 rfl,yD.2 ⟨_,_,rfl,tY.2 rfl,yD.2 ⟨_,_,rfl,xP.2 ⟨_,rfl,h⟩,sF.2 rfl⟩⟩⟩⟩
def BS{T:List zI}{tcl:List (List zA)}{R:List D} {tf':Tr vA}(h:Ft tf T tcl R rv)(hle:aA tf tf')(hr:bA tf' 7 R rv):xD tf' (T.map zI.d) tcl:=by
 rcases h with⟨rfl,rfl,_⟩ | ⟨A,x,clA,rfl,rfl,h3,rfl⟩
 ·exact sF.2 rfl
 ·rw[List.map_append]
  exact xD.app (xD.mono hle _ _ h3) (yD.2 ⟨_,_,rfl,zaz hr,sF.2 rfl⟩)
def BT {w:List Nat}{two:Bool}(hp:cW P pb p tf t n)(h0:p.tables.length+1<=n)
  (hk:vL P pb tf (.ok ⟨p.name,p.defs,p.tables++[⟨w,two,[]⟩],p.clauses⟩ n) Q E):sH E 60 23 [.ptr pb 0,.str w,.bool two] t Q:=by
 obtain⟨dv,tv,rv,cv,tcl,R,hT,hst,b1,b2,b3,b4⟩:=hp
 refine j60_23 _ _ _ ?_
 unfold zd2;have hl:=hst.len
 have hle:=hst.le
 change n<=P.tk.length at hle
 change P.tk.length<300000 at hl
 have hc:dC t pb none [.str p.name,dv,tv,cv]:=hst.ob.cel (A:=[tG P n 0])
 obtain⟨tf',hle1,o1,hrs⟩:=fA.freezeL (A:=[tG P n 0,fB pb none [.str p.name,dv,tv,cv],uD yA.base 3 (p.defs.map oG.d) dv,vI yA.base 3 tcl tv]) (B:=uD yA.base 24 (p.clauses.map dF.d) cv::P.L) hst.ob
 refine oA nl (oA (gF 2 (by omega)) (vC (hc.load1 Gd rfl rfl) (sA rfl (jC fun b hb hbase=>?_))))
 obtain⟨t1,h1,h2,h3,h4⟩:=FN (cs:=[.str w,.bool two,.nilslice]) el24 rfl (by omega) hb
 refine⟨_,_,h1,jC fun b2 hb2 hbase2=>?_⟩
 have o2:=o1.junk hb h4
 obtain⟨t2,v',k1,k2,k3,c1⟩:=fA.appendK (A:=[tG P n 0,fB pb none [.str p.name,dv,tv,cv],uD yA.base 3 (p.defs.map oG.d) dv]) (B:=uD yA.base 24 (p.clauses.map dF.d) cv::P.L) el24 o2 h2 (by intro a ha;simp at ha;rcases ha with rfl | rfl | rfl<;>rfl) (by rw[hT.len];omega) hb2 hbase2
 refine⟨_,_,k1,oA nl (oA (gF 2 (by omega)) (jC fun b3 _ _=>?_))⟩
 obtain⟨t3,m1,m2⟩:=fA.setCel (A:=[tG P n 0]) (j:=2) (v:=v') k2 Gd (by rw[c1];rfl) (by rw[c1];show 2+1<=4;omega) (by rw[c1];simpa[aB]using k3)
 rw[c1]at m2;refine⟨_,_,m1 b3,?_⟩
 have o4:=fA.add (A:=[tG P n 0,fB pb none [.str p.name,dv,v',cv],uD yA.base 3 (p.defs.map oG.d) dv,vI yA.base 3 (tcl++[[.str w,.bool two,.nilslice]]) v']) (B:=uD yA.base 24 (p.clauses.map dF.d) cv::P.L) (o':=uD yA.base 7 [] .nilslice) m2 (fun k _=>rfl) (fun k hk=>by cases hk) (.inl ⟨rfl,rfl⟩) (by simp[uD,jI]) m2.tle
 refine hk tf' t3 hle1 ⟨dv,v',.nilslice,cv,tcl++[[.str w,.bool two,.nilslice]],[],.inr ⟨p.tables,⟨w,two,[]⟩,tcl,rfl,rfl,BS hT hle1 hrs,rfl⟩,?_,b1,by simpa using h0,by simp,b4⟩
 exact⟨hst.ts.mono hle1,o4,hst.len,hst.le,hst.good,hst.glob.mono hle1⟩
def zh6 (hp:cW P pb p tf t n)(hk:vL P pb tf (jP P.tk p n) Q E):lJ yA F E 60 [.ptr P.bp 0,.ptr pb 0] t Q:=by
 have hp0:=hp
 obtain⟨dv,tv,rv,cv,tcl,R,hT,hst,b1,b2,b3,b4⟩:=hp
 refine w60 _ _ ?_
 unfold t60;have hc:dC t pb none [.str p.name,dv,tv,cv]:=hst.ob.cel (A:=[tG P n 0])
 have hLK:LK (.sz 3) yA.base t 3 tcl tv:=hst.ob.ok (vI yA.base 3 tcl tv) (by simp[yM,cI.wL])
 have hlen:uC tv=some (.int .i64 (p.tables.length:Int)):=by
  rw[<- hT.len];rcases hLK with⟨rfl,rfl⟩ | ⟨b,c,rfl,_⟩<;>rfl
 unfold jP at hk;have at1:∀(a:Nat) (t1:Tr vA),n<=a->St (P.wL (yM pb (.str p.name) dv tv rv cv (p.defs.map oG.d) tcl R (p.clauses.map dF.d)++P.L)) tf t1 a 0->cW P pb p tf t1 a:=fun a t1 ha h=>⟨dv,tv,rv,cv,tcl,R,hT,h,by omega,by omega,by omega,by omega⟩
 refine oA nl (oA (gF 2 (by omega)) (vC (hc.load1 Gd rfl rfl) (oA hlen (sB ?_))))
 refine Mz hst (fun ha t1 h1=>?_) (fun ha t1 h1=>?_)
 ·rw[yab ha]at hk
  exact KZ (at1 _ _ (by omega) h1) (fun a n1 hr=>by have:=Mn _ _ _ hr;omega) hk
 rw[ha,yaa (by simp)]at hk
 refine Mz h1 (fun ha t2 h2=>?_) (fun ha t2 h2=>?_)
 ·rw[yab ha]at hk
  exact KZ (at1 _ _ (by omega) h2) (fun a n1 hr=>by have:=Mn _ _ _ hr;omega) hk
 rw[ha,yaa (by simp)]at hk
 refine Mz h2 (fun ha t3 h3=>?_) (fun ha t3 h3=>?_)
 ·rw[yab ha]at hk
  unfold Dn at hk;rw[PR.bind_assoc]at hk;refine vL.name h3 hk fun w n1 tf1 t4 hup hle hst4 hk4=>?_
  have at2:∀(a:Nat) (tf2 t1:Tr vA),aA tf tf2->n<=a->St (P.wL (yM pb (.str p.name) dv tv rv cv (p.defs.map oG.d) tcl R (p.clauses.map dF.d)++P.L)) tf2 t1 a 0->cW P pb p tf2 t1 a:=fun a tf2 t1 hl ha h=>⟨dv,tv,rv,cv,tcl,R,hT.mono hl,h,by omega,by omega,by omega,by omega⟩
  refine lF (yB ?_)
  rw[pW 72];refine Cq (P:=P.wL (yM pb (.str p.name) dv tv rv cv (p.defs.map oG.d) tcl R (p.clauses.map dF.d)++P.L)) hst4 fun t5 h5=>pD ?_
  change St _ tf1 t5 (if acc P.tk Fz n1=true then n1+1 else n1) 0 at h5
  change pA _ _ _ (.ite (!acc P.tk Fz n1) _ (.jump 23 [.ptr pb 0,.str w,.bool (acc P.tk Fz n1)])) _ _
  cases h2:acc P.tk Fz n1 with
  | true=>
   rw[h2,yab rfl]at h5;rw[h2,yab rfl]at hk4;exact tB (by simp) (kC (BT (at2 _ _ _ hle (by omega) h5) (by omega) hk4))
  | false=>
   rw[h2,yaa (by simp)]at h5
   rw[h2,yaa (by simp),PR.bind_assoc]at hk4
   exact sA rfl (vL.exp h5 hk4 fun n6 tf6 t6 hup6 hle6 hst6 hk6=>kC (by
    have e2:sH E 60 23 [.ptr pb 0,.str w,.bool false] t6 Q:=BT (at2 _ _ _ (hle.trans hle6) (by omega) hst6) (by omega) hk6
    rw[<- h2]at e2;exact e2))
 rw[ha,yaa (by simp)]at hk
 have last:∀t4,St (P.wL (yM pb (.str p.name) dv tv rv cv (p.defs.map oG.d) tcl R (p.clauses.map dF.d)++P.L)) tf t4 n 0->vL P pb tf (if acc P.tk Ji n=true then(qT P.tk (n+1)).bind fun c n1=>.ok ⟨p.name,p.defs,p.tables,p.clauses++[c]⟩ n1 else .er 120 n) Q E →
   pA yA.base (jE yA F qC vF E) (JqE yA F E 60) (.call 72 [.ptr P.bp 0,.str Ji] fun a74=>.asB a74 fun b75=>.ite b75 (.opt (iF (.ptr pb 0)) fun a7=>.opt (nC yA 27 3 a7) fun a8=>.light (fun m=>lA yA 25 ⟨0,m⟩ a8) fun a9=>.call 91 [.ptr P.bp 0] fun a10=>.asG [(.str []),(.str []),(.int .i64 0),(.int .i64 0),(.int .i64 0),(.bool false),(.int .u8 0),(.str []),(.int .u8 0),(.bool false),.nilslice,(.bool false),.nilslice,(.int .i64 0),.nilslice,(.int .u8 0),(.str []),(.int .u8 0),(.bool false),.nilslice,(.bool false),.nilslice,(.int .i64 0),.nilslice] a10 fun X=>
   .light (fun m=>lA yA 25 ⟨0,m⟩ a8) fun a12=>.ite (same 10 a12 a9) (Gu 25 (.ptr pb 0) (nC yA 27 3) a8 a9 [(.str (X.s 0)),(.str (X.s 1)),(.int .i64 (X.i 2)),(.int .i64 (X.i 3)),(.int .i64 (X.i 4)),(.bool (X.b 5)),(.int .u8 (X.i 6)),(.str (X.s 7)),(.int .u8 (X.i 8)),(.bool (X.b 9)),(X.v 10),(.bool (X.b 11)),(X.v 12),(.int .i64 (X.i 13)),(X.v 14),(.int .u8 (X.i 15)),(.str (X.s 16)),(.int .u8 (X.i 17)),(.bool (X.b 18)),(X.v 19),(.bool (X.b 20)),(X.v 21),(.int .i64 (X.i 22)),(X.v 23)]) .fail)
   (.call 48 [.ptr P.bp 0,.int .i64 120] fun _=>.ret (.tup []))) t4 Q:=by
  intro t4 h4 hk;refine Mz h4 (fun ha t5 h5=>?_) (fun ha t5 h5=>?_)
  ·rw[yab ha]at hk
   exact zjp (at1 _ _ (by omega) h5) (fun a n1 hr=>by have:=Zw _ _ _ hr;omega) hk
  ·rw[ha,yaa (by simp)]at hk
   refine yB ?_
   rw[pE 48];exact KJ (P:=P.wL (yM pb (.str p.name) dv tv rv cv (p.defs.map oG.d) tcl R (p.clauses.map dF.d)++P.L)) h5 (hk tf t5 n 0 (aA.refl _) h5.dropL)
 by_cases h0:p.tables=[]
 ·rw[h0]at hk
  refine tB (by rw[h0];simp[mC]) (last t3 h3 ?_)
  rw[h0];simpa using hk
 ·obtain⟨A,x,hA⟩:∃A x,p.tables=A++[x]:=⟨p.tables.dropLast,p.tables.getLast h0,(List.dropLast_concat_getLast h0).symm⟩
  refine sA (by rw[hA];simp[mC]) (Mz h3 (fun ha t4 h4=>?_) (fun ha t4 h4=>last t4 h4 ?_))
  ·have hx:Ll p.tables=x.two:=by rw[hA];simp[Ll]
   rw[yab (by rw[ha,hA];simp),hx]at hk
   have hxr:x.rows.length<=n:=by
    rcases hT with⟨hT,_⟩ | ⟨A',x',clA,hT,htcl,hrA,hR⟩
    ·rw[hT]at hA;simp at hA
    obtain⟨rfl,e⟩:=List.append_inj' (hA.symm.trans hT) rfl
    cases e
    rw[hR,ybf]at b3;exact b3
   exact zbg (at1 _ _ (by omega) h4) hA (by rw[hA];simp) (fun a n1 hr=>by have:=Vt _ _ _ hr;omega) hk
  ·rw[ha]at hk
   simpa using hk
end
end
section
variable {p x:wE}{cs:List zA}
variable [gC]
def Km(tf:Tr vA)(x:wE)(v:zA):Prop:=∃cs,v=.agg cs/\RD tf x.d cs
section
variable {P:cI}{tf t:Tr vA}{n d pb:Nat}{Q E:pB}{J W:eE}
theorem cW.fin (hp:cW P pb p tf t n):∃tf' cs,aA tf tf'/\St P tf' t n 0/\lA yA 27 ⟨0,t⟩ (.ptr pb 0)=some (.agg cs)/\RD tf' p.d cs:=by
 obtain⟨dv,tv,rv,cv,tcl,R,hT,hst,b1,b2,b3,b4⟩:=hp
 have hc:dC t pb none [.str p.name,dv,tv,cv]:=hst.ob.cel (A:=[tG P n 0])
 obtain⟨tf1,l1,o1,r1⟩:=fA.freezeL (A:=[tG P n 0,fB pb none [.str p.name,dv,tv,cv],uD yA.base 3 (p.defs.map oG.d) dv,vI yA.base 3 tcl tv]) (B:=uD yA.base 24 (p.clauses.map dF.d) cv::P.L) hst.ob
 obtain⟨tf2,l2,o2,r2⟩:=fA.freezeL (A:=[tG P n 0,fB pb none [.str p.name,dv,tv,cv],uD yA.base 3 (p.defs.map oG.d) dv,vI yA.base 3 tcl tv]) (B:=P.L) o1
 obtain⟨tf3,l3,o3,r3⟩:=fA.freezeL (A:=[tG P n 0,fB pb none [.str p.name,dv,tv,cv]]) (B:=vI yA.base 3 tcl tv::P.L) o2
 have hLK:LK (.sz 3) yA.base t 3 tcl tv:=o3.ok (vI yA.base 3 tcl tv) (by simp)
 have hrd:=BS hT l1 r1
 obtain⟨tf4,l4,o4,r4⟩:∃tf4,aA tf3 tf4/\fA yA.base tf4 t ([tG P n 0,fB pb none [.str p.name,dv,tv,cv]]++P.L)/\bA tf4 3 (p.tables.map zI.d) tv:=by
  have od:=fA.drop (A:=[tG P n 0,fB pb none [.str p.name,dv,tv,cv]]) o3
  rcases hLK with⟨rfl,rfl⟩ | ⟨b,c,rfl,h1,h2,h3⟩
  ·exact⟨tf3,aA.refl _,od,[],.inl ⟨rfl,rfl⟩,xD.mono (l2.trans l3) _ _ hrd⟩
  ·have hni:=o3.notin (A:=[tG P n 0,fB pb none [.str p.name,dv,_,cv]]) (o:=vI yA.base 3 tcl (.slice b 0 tcl.length tcl.length)) (k:=b) (by simp[vI,jI])
   obtain⟨m1,m2⟩:=od.froze hni h2 (o3.low b (by simp[vI,jI])).2
   exact⟨_,m2,m1,tcl,.inr ⟨b,0,tcl.length,rfl,ybk _,⟨_,_,_,by rw[Tr.get_set,yab rfl],.inr ⟨_,rfl,rfl⟩⟩,fun i cs hi=>⟨(h3 i cs hi).1,_,_,_,by rw[Tr.get_set,yab rfl],fun j a hj=>by rw[ybw];exact(h3 i cs hi).2 j a hj⟩⟩,xD.mono ((l2.trans l3).trans m2) _ _ hrd⟩
 have l:=((l1.trans l2).trans l3).trans l4
 refine⟨tf4,[.str p.name,dv,tv,cv],l,⟨hst.ts.mono l,fA.drop (A:=[tG P n 0]) o4,hst.len,hst.le,hst.good,hst.glob.mono l⟩,?_,?_⟩
 ·have:=hc.at.load (j:=0) (n:=4) ty27 rfl rfl (by simp)
  simpa using this
 ·exact kJ.2 ⟨[[.str p.name],[dv],[tv],[cv]],rfl,yD.2 ⟨_,_,rfl,mK.2 rfl,yD.2 ⟨_,_,rfl,xP.2 ⟨_,rfl,r3.mono l4⟩,yD.2 ⟨_,_,rfl,xP.2 ⟨_,rfl,r4⟩,yD.2 ⟨_,_,rfl,xP.2 ⟨_,rfl,r2.mono (l3.trans l4)⟩,sF.2 rfl⟩⟩⟩⟩⟩
def agP  (h:RD tf x.d cs):xK [.str [],.nilslice,.nilslice,.nilslice] (.agg cs)=some (cellsOf cs):=bU h (wE.zs _)
def Fj  (h:RD tf x.d cs):[zA.str ((cellsOf cs).s 0),(cellsOf cs).v 1,(cellsOf cs).v 2,(cellsOf cs).v 3]=cs:=by
 obtain⟨a,b,c,rfl,_⟩:=Dy h
 rfl
def zb3{tk:List lB}  : Up (jP tk p):=by
 intro n a n' h;unfold jP at h;split at h
 ·have:=zF Mn (fun d=>qL (a:=(⟨p.name,p.defs++[d],p.tables,p.clauses⟩:wE))) _ _ _ h;omega
 split at h
 ·have:=zF Mn (fun d=>qL (a:=(⟨p.name,p.defs++[d],p.tables,p.clauses⟩:wE))) _ _ _ h;omega
 split at h
 ·have:=zF PA (fun d=>qL (a:=(⟨p.name,p.defs,p.tables++[d],p.clauses⟩:wE))) _ _ _ h;omega
 split at h
 ·have:=zF Vt (fun d=>qL (a:=(⟨p.name,p.defs,nT p.tables d,p.clauses⟩:wE))) _ _ _ h;omega
 split at h
 ·have:=zF Zw (fun d=>qL (a:=(⟨p.name,p.defs,p.tables,p.clauses++[d]⟩:wE))) _ _ _ h;omega
 ·cases h
def Ok.bindX{X:List iE}{α β:Type}{rd1:Tr vA->α->zA->Prop}{rd:Tr vA->β->zA->Prop}{r:PR α}{f:α->Nat->PR β}{Q1:pB}(h:Ok P rd d tf (r.bind f) Q E)
  (k:∀a n1 tf1 t1 v,r=.ok a n1->aA tf tf1->St (P.wL (X++P.L)) tf1 t1 n1 d->rd1 tf1 a v->Ok P rd d tf1 (f a n1) Q E->Q1 v t1):Ok (P.wL (X++P.L)) rd1 d tf r Q1 E:=by
 cases r with
 | ok a n=>exact fun tf' t' v h1 h2 h3=>k a n tf' t' v rfl h1 h2 h3 (Ok.mono h h1)
 | er e i=>exact fun tf' t' n' d' h1 h2=>h tf' t' n' d' h1 h2.dropL
def zb2:∀(m:Nat) (p:wE) (n:Nat) (tf t:Tr vA) (a b c:zA) (s:List Nat),P.tk.length<=n+m->cW P pb p tf t n->Ok P Km 0 tf (eK P.tk m p n) Q E->sH E 29 2 [.ptr P.bp 0,.ptr pb 0,.str s,a,b,c] t Q:=by
 intro m;induction m with
 | zero=>
  intro p n tf t a b c s hm hp hk;refine zif _ _ _ _ _ _ ?_
  unfold Ol;have hp0:=hp
  obtain⟨dv,tv,rv,cv,tcl,R,hT,hst,b1,b2,b3,b4⟩:=hp
  obtain⟨tf',cs,k1,k2,k3,k4⟩:=hp0.fin
  refine oA nl (oA f1 (vC hst.l1 (sB (oA nl (oA f0 (vC hst.l0 (oA hst.len' (sB (tB ?_ (vC k3 (fC (agP k4) ?_)))))))))))
  ·rw[mC]
   change ¬ decide ((n:Int)<(P.tk.length:Int))=true
   simp;omega
  ·have e:=Fj k4
   have hone:=k4.all
   rw[<- e]at hone;refine sA hone ?_
   show Q (.agg _) t
   rw[e];exact hk tf' t _ k1 k2 ⟨cs,rfl,k4⟩
 | succ m ih=>
  intro p n tf t a b c s hm hp hk;by_cases hn:n<P.tk.length
  ·refine zif _ _ _ _ _ _ ?_
   unfold Ol;unfold eK at hk;rw[yab hn]at hk;have hp0:=hp
   obtain⟨dv,tv,rv,cv,tcl,R,hT,hst,b1,b2,b3,b4⟩:=hp
   refine oA nl (oA f1 (vC hst.l1 (sB (oA nl (oA f0 (vC hst.l0 (oA hst.len' (sB (sA ?_ (yB ?_))))))))))
   ·rw[mC]
    change decide ((n:Int)<(P.tk.length:Int))=true
    simp;omega
   rw[pE 60];refine zh6 hp0 ?_
   cases hr:jP P.tk p n with
   | er e i=>rw[hr]at hk;exact hk
   | ok p1 n1=>
    rw[hr]at hk;change Ok P Km 0 tf ((aC P.tk 5 n1).bind fun _ n2=>eK P.tk m p1 n2) Q E at hk
    have hup:=zb3 _ _ _ hr
    intro tf1 t1 hle hp1;obtain⟨dv1,tv1,rv1,cv1,tcl1,R1,hT1,hst1,c1,c2,c3,c4⟩:=hp1
    refine yB ?_
    rw[pE 59];refine Dm (k:=5) (P:=P.wL (yM pb (.str p1.name) dv1 tv1 rv1 cv1 (p1.defs.map oG.d) tcl1 R1 (p1.clauses.map dF.d)++P.L)) (by omega) hst1 ((hk.mono hle).bindX fun w n2 tf2 t2 v hr2 hle2 hst2 hrd2 hk2=>?_)
    obtain⟨x,_,_,rfl⟩:=hrd2
    have hup2:n1+1=n2:=by
     change aC P.tk 5 n1=_ at hr2
     unfold aC at hr2;split at hr2<;>cases hr2
     rfl
    exact fC (bQ _) (kC (ih p1 n2 tf2 t2 _ _ _ _ (by omega) ⟨dv1,tv1,rv1,cv1,tcl1,R1,hT1.mono hle2,hst2,by omega,by omega,by omega,by omega⟩ hk2))
  ·have hk0:Ok P Km 0 tf (eK P.tk 0 p n) Q E:=by
    unfold eK at hk;rw[yaa hn]at hk;exact hk
   clear ih hk
   refine zif _ _ _ _ _ _ ?_
   unfold Ol;have hp0:=hp
   obtain⟨dv,tv,rv,cv,tcl,R,hT,hst,b1,b2,b3,b4⟩:=hp
   obtain⟨tf',cs,k1,k2,k3,k4⟩:=hp0.fin
   refine oA nl (oA f1 (vC hst.l1 (sB (oA nl (oA f0 (vC hst.l0 (oA hst.len' (sB (tB ?_ (vC k3 (fC (agP k4) ?_)))))))))))
   ·rw[mC]
    change ¬ decide ((n:Int)<(P.tk.length:Int))=true
    simp;omega
   ·have e:=Fj k4
    have hone:=k4.all
    rw[<- e]at hone;refine sA hone ?_
    show Q (.agg _) t
    rw[e];exact hk0 tf' t _ k1 k2 ⟨cs,rfl,k4⟩
def zhm(h:St P tf t 0 0)(hk:Ok P Km 0 tf (rG P.tk) Q E):lJ yA F E 29 [.ptr P.bp 0] t Q:=by
 refine w29 _ ?_
 unfold t29;refine jC fun pb hb hbase=>?_
 obtain⟨t1,h1,h2,h3,h4⟩:=rS (C:=yA) (b:=pb) ty27 hb
 refine⟨_,_,h1,?_⟩
 have o1:fA yA.base tf t1 (tG P 0 0::(yM pb (.str []) .nilslice .nilslice .nilslice .nilslice [] [] [] []++P.L)):=by
  have a1:=fA.newCel (A:=[tG P 0 0]) (B:=P.L) h.ob hb hbase h2 h3 h4
  have a2:=fA.add (A:=[tG P 0 0,fB pb none [.str [],.nilslice,.nilslice,.nilslice]]) (B:=P.L) (o':=uD yA.base 24 [] .nilslice) a1 (fun k _=>rfl) (fun k hk=>by cases hk) (.inl ⟨rfl,rfl⟩) (by simp[uD,jI]) a1.tle
  have a3:=fA.add (A:=[tG P 0 0,fB pb none [.str [],.nilslice,.nilslice,.nilslice]]) (B:=uD yA.base 24 [] .nilslice::P.L) (o':=uD yA.base 7 [] .nilslice) a2 (fun k _=>rfl) (fun k hk=>by cases hk) (.inl ⟨rfl,rfl⟩) (by simp[uD,jI]) a1.tle
  have a4:=fA.add (A:=[tG P 0 0,fB pb none [.str [],.nilslice,.nilslice,.nilslice]]) (B:=uD yA.base 7 [] .nilslice::uD yA.base 24 [] .nilslice::P.L) (o':=vI yA.base 3 [] .nilslice) a3 (fun k _=>rfl) (fun k hk=>by cases hk) (.inl ⟨rfl,rfl⟩) (by simp[vI,jI]) a1.tle
  exact fA.add (A:=[tG P 0 0,fB pb none [.str [],.nilslice,.nilslice,.nilslice]]) (B:=vI yA.base 3 [] .nilslice::uD yA.base 7 [] .nilslice::uD yA.base 24 [] .nilslice::P.L) (o':=uD yA.base 3 [] .nilslice) a4 (fun k _=>rfl) (fun k hk=>by cases hk) (.inl ⟨rfl,rfl⟩) (by simp[uD,jI]) a1.tle
 have hst:St (P.wL (yM pb (.str []) .nilslice .nilslice .nilslice .nilslice [] [] [] []++P.L)) tf t1 0 0:=⟨h.ts,o1,h.len,h.le,h.good,h.glob⟩
 unfold rG at hk;refine Fa (P:=P.wL (yM pb (.str []) .nilslice .nilslice .nilslice .nilslice [] [] [] []++P.L)) hst (hk.bindX fun u n1 tf1 t2 v hr1 hle1 hst1 hrd1 hk1=>yB ?_)
 rw[pE 58];refine Eg (P:=P.wL (yM pb (.str []) .nilslice .nilslice .nilslice .nilslice [] [] [] []++P.L)) hst1 (hk1.bindX fun w n2 tf2 t3 v hr2 hle2 hst2 hrd2 hk2=>?_)
 cases hrd2;refine lF (oA (gF 0 (by omega)) (jC fun b2 _ _=>?_))
 obtain⟨t4,m1,m2⟩:=fA.setCel (A:=[tG P n2 0]) (j:=0) (v:=.str w) hst2.ob kN rfl (by show 0+1<=4;omega) rfl
 refine⟨_,_,m1 b2,yB ?_⟩
 have hst4:St (P.wL (yM pb (.str w) .nilslice .nilslice .nilslice .nilslice [] [] [] []++P.L)) tf2 t4 n2 0:=⟨hst2.ts,m2,hst2.len,hst2.le,hst2.good,hst2.glob⟩
 rw[pE 59];refine Dm (k:=5) (P:=P.wL (yM pb (.str w) .nilslice .nilslice .nilslice .nilslice [] [] [] []++P.L)) (by omega) hst4 (hk2.bindX fun w5 n3 tf3 t5 v hr3 hle3 hst3 hrd3 hk3=>?_)
 obtain⟨x,_,_,rfl⟩:=hrd3
 exact fC (bQ _) (kC (zb2 _ _ _ _ _ _ _ _ _ (by omega) ⟨.nilslice,.nilslice,.nilslice,.nilslice,[],[],.inl ⟨rfl,rfl,rfl,rfl⟩,hst3,by simp,by simp,by simp,by simp⟩ hk3))
end
end
section
variable [gC]
abbrev zP:List zA:=[.str [],.nilslice,.nilslice,.nilslice]
abbrev cP(X:jG):List zA:=[.str (X.s 0),X.v 1,X.v 2,X.v 3]
def t28_eq(s:List Nat)(p1:zA):t28 s p1=tRun 27 zP cP s p1:=rfl
def PC(v1 v4 v5 v6 v8:zA):Tx v1 v4 v5 v6 v8=tR13 27 zP cP v1 v4 v5 v6 v8:=rfl
def za2(v0 v1 v2 v3:zA):Oj v0 v1 v2 v3=tR3 27 zP v0 v1 v2 v3:=rfl
def za3(v4 v5 v6:zA):Om v4 v5 v6=tRe 27 v4 v5 v6:=rfl
def rt27:RT 27 zP cP:=⟨⟨_,ty27,rfl,rfl,rfl⟩,rfl,cQ rfl,rfl⟩
section
variable {t:Tr vA}{Q:pB}{s:List Nat}
def run28(hg:kK t)(hby:∀b∈s,b<256)(hQ:match bL rG s with
  | .ok x=>∀t' cs,aA t t'->RD t' x.d cs->Q (.tup [.agg cs,.agg [.int .i64 0,.int .i64 0],.int .i64 0]) t'
  | .er e a b=>∀t',aA t t'->Q (.tup [.agg zP,.agg [.int .i64 (a:Int),.int .i64 (b:Int)],.int .i64 (e:Int)]) t'):Wc yA F 28 [.str s,.func (.func 29) [] []] t Q:=by
 refine w28 _ _ ?_
 rw[t28_eq];refine zhf rt27 hg hby (fun m hm=>Qp hm) (fun e a b h=>⟨GP h,?_⟩) (fun m hm tf1 t1 P b0 b1 b2 e1 e2 e3 e4 hle hst=>⟨rfl,tl28 _ _ _ _ _ ?_⟩)
 ·rw[Vr h]at hQ;exact hQ
 ·rw[PC]
  simp only[za2,za3];refine tail13 (rd:=Km) (good:=fun tf' x cs=>RD tf' x.d cs) (r:=rG P.tk) rt27 e4 hst ?_ (fun Q E hk=>by rw[pE 29];exact zhm hst hk) (by kernel_rfl) (fun tf' x v ⟨cs,h1,h2⟩=>⟨cs,h1,by obtain⟨a,b,c,rfl,_⟩:=Dy h2;rfl,agP h2,Fj h2,by obtain⟨a,b,c,rfl,_⟩:=Dy h2;exact h2.all,h2⟩)
  rw[Pd hm]at hQ;rw[e1]
  cases hr:rG m with
  | ok x n=>
   rw[hr]at hQ;exact fun tf' t' cs k1 k2 k3=>hQ t' cs (hle.trans (k1.trans k2)) (k3.mono k2)
  | er e i=>
   rw[hr]at hQ;have ht:yG P i=rP m s i:=by unfold yG rP;rw[e1,e2,e3]
   intro t' k1;rw[ht];exact hQ t' (hle.trans k1)
def zho(hg:kK t)(hby:∀b∈s,b<256)(hQ:match bL rG s with
  | .ok x=>∀t' cs,aA t t'->RD t' x.d cs->Q (.tup [.agg cs,.agg [.int .i64 0,.int .i64 0],.int .i64 0]) t'
  | .er e a b=>∀t',aA t t'->Q (.tup [.agg zP,.agg [.int .i64 (a:Int),.int .i64 (b:Int)],.int .i64 (e:Int)]) t'):Wc yA F 10 [.str s] t Q:=by
 refine w10 ?_
 unfold t10;refine yB ?_
 rw[q28];refine run28 hg hby ?_
 cases hr:bL rG s with
 | ok x=>
  rw[hr]at hQ;intro t' cs k1 k2;refine oA (v:=.agg cs) rfl (fC (agP k2) (oA (v:=.agg [.int .i64 0,.int .i64 0]) rfl (fC ag2 (oA (v:=.int .i64 0) rfl (sB ?_)))))
  show pA _ _ _ (.ite (aB zA.one (cP (cellsOf cs))) (.ite true (.ret (.tup [.agg (cP (cellsOf cs)),_,_])) .fail) .fail) _ _
  have hc:cP (cellsOf cs)=cs:=Fj k2
  rw[hc];refine sA (by obtain⟨a,b,c,rfl,_⟩:=Dy k2;exact k2.all) (sA rfl (hQ t' cs k1 k2))
 | er e a b=>
  rw[hr]at hQ;intro t' k1;exact oA (v:=.agg zP) rfl (fC rt27.ag (oA (v:=.agg [.int .i64 (a:Int),.int .i64 (b:Int)]) rfl (fC ag2 (oA (v:=.int .i64 (e:Int)) rfl (sB (sA rfl (sA rfl (hQ t' k1))))))))
end
end
end Go.Proofs
namespace Go.Am
open Go Go.RowKit
section
variable {t:Tr vA}{C:mA}{W J:eE}{S el sz p:Nat}{Q:pB}{zs:List zA}
abbrev Cmp:=List zA->List zA->(zA->T)->T
def cmpC (g:Nat):Cmp:=fun a b K=>.call g [.agg a,.agg b] K
def zhd(C:mA)(S el p:Nat)(g:Cmp)(zs:List zA)(ne:Bool->Bool)(v0 v1:zA)(i:Int):T:=
 .opt (uC v0) fun a0=>.asI .i64 a0 fun n1=>.ite (cB i n1)
  (.opt (wC C S v0 (.int .i64 i)) fun a2=>.light (fun m=>lA C el ⟨0,m⟩ a2) fun a3=>.asG zs a3 fun X4=>
   .opt (wC C S v1 (.int .i64 i)) fun a5=>.light (fun m=>lA C el ⟨0,m⟩ a5) fun a6=>.asG zs a6 fun X7=>
   g (vZ zs X4 0) (vZ zs X7 0) fun a8=>.asB a8 fun b9=>.ite (ne b9) (.ret (.bool false)) (.jump p [v0,v1,.int .i64 (iA .i64 (i+1))]))
  (.ret (.bool true))
theorem Ke{g:Cmp}{ne:Bool->Bool}{ok:Bool}{ds:List D}{v0 v1:zA}(hS:gI C S el sz true)(hz:∀d∈ds,d.zs=zs)(hne:ne ok=false)
  (hg:∀d∈ds,∀cs cs' K,RD t d cs->RD t d cs'->pA C.base W J (K (.bool ok)) t Q->pA C.base W J (g cs cs' K) t Q) (hlen:ds.length<300000)
  (hj:∀i,pA C.base W J (zhd C S el p g zs ne v0 v1 i) t Q->J p [v0,v1,.int .i64 i] t Q) (h0:bA t sz ds v0) (h1:bA t sz ds v1) (hQ:Q (.bool true) t) :
  ∀(k i:Nat),i+k=ds.length->J p [v0,v1,.int .i64 (i:Int)] t Q:=by
 intro k;induction k with
 | zero=>
  intro i hi;refine hj _ ?_
  unfold zhd;exact oA h0.len (sB (tB (fun e=>by grind [vG]) hQ))
 | succ k ih=>
  intro i hi;have hlt:i<ds.length:=by omega
  have hd:ds[i]?=some ds[i]:=ybd hlt
  have hm:ds[i]∈ds:=ycj hlt
  obtain⟨b,off,cs,g1,g2,g3,g4,g5⟩:=gI.at hS (by simp) h0 hd
  obtain⟨b',off',cs',f1,f2,f3,f4,f5⟩:=gI.at hS (by simp) h1 hd
  have hzz:=hz _ hm
  refine hj _ ?_
  unfold zhd;refine oA h0.len (sB (sA (vG.2 (by omega)) (oA g1 (vC g2 (fC (bU g5 hzz) (oA f1 (vC f2 (fC (bU f5 hzz) ?_))))))))
  rw[g5.mk hzz,f5.mk hzz];refine hg _ hm _ _ _ g5 f5 (pD (tB (by simp_all) (kC ?_)))
  rw[iC (by omega) (by omega)]
  exact ih (i+1) (by omega)
end
end Go.Am
namespace Go.Proofs
open Go Go.Am
mutual
def cA.cpy:cA->Prop
 | .mk _ _ v args=>(v.f.n.limbs.length<300000/\v.f.d.limbs.length<300000)/\args.length<300000/\cA.cpys args
def cA.cpys:List cA->Prop
 | []=>True
 | x::l=>cA.cpy x/\cA.cpys l
end
structure wE.cpy (p:wE):Prop where
 defs:p.defs.length<300000
 tables:p.tables.length<300000
 clauses:p.clauses.length<300000
 rows:∀x∈p.tables,x.rows.length<300000/\∀r∈x.rows,r.f.n.limbs.length<300000/\r.f.d.limbs.length<300000
 exprs:∀x∈p.clauses,cA.cpy x.when_/\cA.cpy x.then_
def gH.cpy(f:gH):Prop:=f.n.limbs.length<300000/\f.d.limbs.length<300000
def NE (tk:List lB)(a b:Nat):Prop:=∀j,a<=j->j<b->bC tk 5 j=false
theorem NE.nil{tk:List lB}{a:Nat}:NE tk a a:=fun j h1 h2=>by omega
def NE.join{tk:List lB}{a b c:Nat}(h:NE tk a b)(k:NE tk b c):NE tk a c:=fun j h1 h2=>by
 by_cases hj:j<b
 ·exact h j h1 hj
 ·exact k j (by omega) h2
theorem NE.one{tk:List lB}{a:Nat}(h:bC tk 5 a=false):NE tk a (a+1):=fun j h1 h2=>by
 have:j=a:=by omega
 subst this;exact h
def Ls{tk:List lB}{n q:Nat}(h:bC tk q n=true)(hq:q≠5):bC tk 5 n=false:=by
 unfold bC at *
 cases hx:tk[n]? with
 | none=>rfl
 | some t=>
  rw[hx]at h;have:=of_decide_eq_true h
  exact decide_eq_false (by omega)
def Cr{tk:List lB}{n:Nat}{w:List Nat}(h:acc tk w n=true):bC tk 5 n=false:=by
 unfold acc at h;unfold bC
 cases hx:tk[n]? with
 | none=>rfl
 | some t=>
  rw[hx]at h;simp only[ybb,ycq,decide_eq_true_eq]at h;exact decide_eq_false (by omega)
structure VP where
 tk:List lB
 tk2:List lB
 d:Nat
 k:Nat
 full:Prop
 dp:Prop
 lo:Nat:=0
abbrev cT:List (List Nat):=[[41],zgc]
structure VW (S:VP):Prop where
 acc:∀i,S.lo<=i->i<S.k->∀w,Proofs.acc S.tk2 w (i+S.d)=Proofs.acc S.tk w i
 kind:∀i,S.lo<=i->i<S.k->∀q,bC S.tk2 q (i+S.d)=bC S.tk q i
 text:∀i,S.lo<=i->i<S.k->lE S.tk2 (i+S.d)=lE S.tk i
 qacc:∀w,w∉cT->Proofs.acc S.tk2 w (S.k+S.d)=false
 qkind:∀q,q=2\/q=3->bC S.tk2 q (S.k+S.d)=false
 qname:bK S.tk2 (S.k+S.d)=false
 full:S.full->¬ S.dp/\(∀w,Proofs.acc S.tk2 w (S.k+S.d)=false)/\∀q,q≠5->bC S.tk2 q (S.k+S.d)=false
 good:∀x∈S.tk,dT x
def vO {α:Type}(j:Nat)(r:PR α):Prop:=match r with | .ok _ n=>n=j | .er e i=>i=j/\(e=120\/e=122)
def MO {α:Type}(S:VP)(V:α->Prop)(n:Nat)(r:PR α):Prop:=
 match r with | .ok a n'=>n<=n'/\NE S.tk n n'/\V a | .er e i=>n<=i/\NE S.tk n i/\(e=120\/e=121\/e=122)
structure RA {α:Type} (S:VP) (V:α->Prop) (n:Nat) (r r2:PR α):Prop where
 mo:MO S V n r
 ok:n<=S.k->∀a n',r=.ok a n'->n'<=S.k->r2=.ok a (n'+S.d)\/(S.dp/\∃i,r2=.er 122 i)
 er:n<=S.k->S.full->∀e,r=.er e S.k->vO (S.k+S.d) r2
structure qB {α:Type} (S:VP) (H:Prop) (V:α->Prop) (f f2:PM α):Prop where
 ra:H->∀n,S.lo<=n->RA S V n (f n) (f2 (n+S.d))
 rr:S.full->vO (S.k+S.d) (f2 (S.k+S.d))
section
variable {S:VP}{H:Prop}{α β:Type}{V:α->Prop}{W:β->Prop}{n:Nat}
def RA.right{r r2 r2':PR α}(h:RA S V n r r2')(e:n<=S.k->r2=r2'):RA S V n r r2:=
 ⟨h.mo,fun hn=>by rw[e hn];exact h.ok hn,fun hn=>by rw[e hn];exact h.er hn⟩
theorem RA.step{r r2 r2':PR α}(hn:bC S.tk 5 n=false)(h:RA S V (n+1) r r2')(e:n<S.k->r2=r2'):RA S V n r r2:=by
 have hm:=h.mo
 refine⟨?_,fun hk a n' hr hn'=>?_,fun hk hf e' hr=>?_⟩
 ·unfold MO at hm ⊢
  cases r with
  | ok a n'=>exact⟨by omega,(NE.one hn).join hm.2.1,hm.2.2⟩
  | er e i=>exact⟨by omega,(NE.one hn).join hm.2.1,hm.2.2⟩
 ·subst hr
  have:=hm.1
  rw[e (by omega)]
  exact h.ok (by omega) a n' rfl hn'
 ·subst hr
  have:=hm.1
  rw[e (by omega)]
  exact h.er (by omega) hf e' rfl
def RA.bind(hv:VW S){r r2:PR α}{g g2:α->PM β}(hf:RA S V n r r2)(hg:∀a n1,r=.ok a n1->n<=n1->V a->RA S W n1 (g a n1) (g2 a (n1+S.d)))(hz:S.full->∀a,vO (S.k+S.d) (g2 a (S.k+S.d))):RA S W n (r.bind g) (r2.bind g2):=by
 have hm:=hf.mo
 cases r with
 | er e i=>
  refine⟨hm,fun _ a n' h=>(by cases h),fun hn hfu e' hr=>?_⟩
  have:=hf.er hn hfu e' (by cases hr;rfl)
  cases r2 with
  | ok a m=>unfold vO at this;subst this;exact hz hfu a
  | er e i=>exact this
 | ok a n1=>
  obtain⟨h1,h2,h3⟩:=hm
  have hg1:=hg a n1 rfl h1 h3
  have hgm:=hg1.mo
  refine⟨?_,fun hn b n' hr hn'=>?_,fun hn hfu e' hr=>?_⟩
  ·show MO S W n (g a n1)
   unfold MO at hgm ⊢
   cases hq:g a n1 with
   | ok b n'=>rw[hq]at hgm;exact⟨by omega,h2.join hgm.2.1,hgm.2.2⟩
   | er e i=>rw[hq]at hgm;exact⟨by omega,h2.join hgm.2.1,hgm.2.2⟩
  ·change g a n1=_ at hr
   rw[hr]at hgm;have:=hgm.1
   rcases hf.ok hn a n1 rfl (by omega)with e | ⟨e1,i,e2⟩
   ·rw[e];exact hg1.ok (by omega) b n' hr hn'
   ·rw[e2];exact .inr ⟨e1,i,rfl⟩
  ·change g a n1=_ at hr
   rw[hr]at hgm;have:=hgm.1
   rcases hf.ok hn a n1 rfl (by omega)with e | ⟨e1,i,e2⟩
   ·rw[e];exact hg1.er (by omega) hfu e' hr
   ·exact absurd e1 (hv.full hfu).1
def vO.bind{j:Nat}{r:PR α}{g:α->PM β}(h:vO j r)(hg:∀a,vO j (g a j)):vO j (r.bind g):=by
 cases r with
 | ok a n=>unfold vO at h;subst h;exact hg a
 | er e i=>exact h
def qB.bind(hv:VW S){f f2:PM α}{g g2:α->PM β}(hf:qB S H V f f2)(hg:∀a,qB S (H/\V a) W (g a) (g2 a)):qB S H W (fun n=>(f n).bind g) (fun n=>(f2 n).bind g2):=
 ⟨fun hH n hlo=>RA.bind hv (hf.ra hH n hlo) (fun a n1 _ hle hV=>(hg a).ra ⟨hH,hV⟩ n1 (Nat.le_trans hlo hle)) fun hfu a=>(hg a).rr hfu,fun hfu=>vO.bind (hf.rr hfu) fun a=>(hg a).rr hfu⟩
def RA.ret{a:α}(h:V a):RA S V n (.ok a n) (.ok a (n+S.d)):=⟨⟨ybk _,NE.nil,h⟩,fun _ b m e _=>by cases e;exact .inl rfl,fun _ _ e h=>by cases h⟩
def qB.ret{a:α}(h:H->V a):qB S H V (fun n=>.ok a n) (fun n=>.ok a n):=⟨fun hH n _=>RA.ret (h hH),fun _=>rfl⟩
def RA.fail{e:Nat}(he:e=120\/e=122):RA S V n (.er e n) (.er e (n+S.d)):=
 ⟨⟨ybk _,NE.nil,by omega⟩,fun _ b m e _=>(by cases e),fun _ _ e' h=>by cases h;exact⟨rfl,he⟩⟩
def qB.fail{e:Nat}(he:e=120\/e=122):qB S H V (fun n=>.er e n) (fun n=>.er e n):=⟨fun _ n _=>RA.fail he,fun _=>⟨rfl,he⟩⟩
theorem qB.mono{H':Prop}{V':α->Prop}{f f2:PM α}(h:qB S H V f f2)(h1:H'->H)(h2:∀a,V a->V' a):qB S H' V' f f2:=
 ⟨fun hH n hlo=>⟨by
  have:=(h.ra (h1 hH) n hlo).mo
  unfold MO at this ⊢
  cases hq:f n with
  | ok a n'=>rw[hq]at this;exact⟨this.1,this.2.1,h2 _ this.2.2⟩
  | er e i=>rw[hq]at this;exact this,(h.ra (h1 hH) n hlo).ok,(h.ra (h1 hH) n hlo).er⟩,h.rr⟩
def qB.ite{p p2:Nat->Bool}{A A2 B B2:PM α}(hp:∀i,S.lo<=i->i<S.k->p2 (i+S.d)=p i)(hq:p2 (S.k+S.d)=false)(hA:qB S H V A A2)(hs:∀n a n',S.lo<=n->p n=true->A n=.ok a n'->n<n')(hB:qB S H V B B2) :
  qB S H V (fun n=>if p n=true then A n else B n) (fun n=>if p2 n=true then A2 n else B2 n):=by
 refine⟨fun hH n hlo=>?_,fun hfu=>by show vO _ (if p2 (S.k+S.d)=true then _ else _);rw[hq,yaa (by simp)];exact hB.rr hfu⟩
 show RA S V n (if p n=true then _ else _) (if p2 (n+S.d)=true then _ else _)
 have hq':∀x y:PR α,n=S.k->(if p2 (n+S.d)=true then x else y)=y:=fun x y e=>by rw[e,hq,yaa (by simp)]
 cases h:p n with
 | true=>
  rw[yab rfl];have hr:=hA.ra hH n hlo
  refine⟨hr.mo,fun hn a n' hr' hn'=>?_,fun hn hfu e hr'=>?_⟩
  ·have:=hs n a n' hlo h hr'
   rw[hp n hlo (by omega),h,yab rfl]
   exact hr.ok hn a n' hr' hn'
  ·by_cases hk:n<S.k
   ·rw[hp n hlo hk,h,yab rfl]
    exact hr.er hn hfu e hr'
   ·have:n=S.k:=by omega
    rw[hq' _ _ this,this];exact hB.rr hfu
 | false=>
  rw[yaa (by simp)]
  refine(hB.ra hH n hlo).right fun hn=>?_
  by_cases hk:n<S.k
  ·rw[hp n hlo hk,h,yaa (by simp)]
  ·exact hq' _ _ (by omega)
def qB.acc(hv:VW S){w:List Nat}{A A2 B B2:PM α}(hw:w∉cT)(hA:qB S H V A A2)(hB:qB S H V B B2) :
  qB S H V (fun n=>if Proofs.acc S.tk w n=true then A (n+1)else B n) (fun n=>if Proofs.acc S.tk2 w n=true then A2 (n+1)else B2 n):=by
 have hq:=hv.qacc w hw
 refine⟨fun hH n hlo=>?_,fun hfu=>by show vO _ (if Proofs.acc S.tk2 w (S.k+S.d)=true then _ else _);rw[hq,yaa (by simp)];exact hB.rr hfu⟩
 show RA S V n (if Proofs.acc S.tk w n=true then _ else _) (if Proofs.acc S.tk2 w (n+S.d)=true then _ else _)
 cases h:Proofs.acc S.tk w n with
 | true=>
  rw[yab rfl];refine RA.step (Cr h) (hA.ra hH (n+1) (by omega)) fun hn=>?_
  rw[hv.acc n hlo hn,h,yab rfl];congr 1;omega
 | false=>
  rw[yaa (by simp)]
  refine(hB.ra hH n hlo).right fun hn=>?_
  by_cases hk:n<S.k
  ·rw[hv.acc n hlo hk,h,yaa (by simp)]
  ·have:n=S.k:=by omega
   rw[this,hq,yaa (by simp)]
def qB.cases(b:Bool){A A2 B B2:PM α}(hA:b=true->qB S H V A A2)(hB:b=false->qB S H V B B2):qB S H V (fun n=>if b=true then A n else B n) (fun n=>if b=true then A2 n else B2 n):=by
 cases b with
 | true=>exact hA rfl
 | false=>exact hB rfl
end
section
variable {S:VP}{H:Prop}{n:Nat}
def IH{tk:List lB}{q n:Nat}(hg:∀x∈tk,dT x)(h:bC tk q n=true):q=2->kR (lE tk n):=by
 rintro rfl
 unfold bC at h;unfold lE
 cases hx:tk[n]? with
 | none=>rw[hx]at h;cases h
 | some t=>rw[hx]at h;exact(hg t (ycv hx)).1 (of_decide_eq_true h)
def Tt(hv:VW S){q:Nat}(hq:q≠5):qB S H (fun s=>q=2->kR s) (aC S.tk q) (aC S.tk2 q):=by
 refine⟨fun _ n hlo=>?_,fun hfu=>?_⟩
 ·unfold aC
  cases h:bC S.tk q n with
  | true=>
   rw[yab rfl];refine⟨⟨by omega,NE.one (Ls h hq),IH hv.good h⟩,fun hn a n' hr hn'=>?_,fun _ _ e hr=>by cases hr⟩
   cases hr;rw[hv.kind n hlo (by omega),h,yab rfl,hv.text n hlo (by omega)]
   left;congr 1;omega
  | false=>
   rw[yaa (by simp)]
   refine⟨⟨by omega,NE.nil,by omega⟩,fun _ a n' hr=>(by cases hr),fun hn hfu e hr=>?_⟩
   cases hr;rw[(hv.full hfu).2.2 q hq,yaa (by simp)]
   exact⟨rfl,.inl rfl⟩
 ·unfold aC
  rw[(hv.full hfu).2.2 q hq,yaa (by simp)]
  exact⟨rfl,.inl rfl⟩
def gP(hv:VW S){w:List Nat}:qB S H (fun _=>True) (aD S.tk w) (aD S.tk2 w):=by
 refine⟨fun _ n hlo=>?_,fun hfu=>?_⟩
 ·unfold aD
  cases h:acc S.tk w n with
  | true=>
   rw[yab rfl];refine⟨⟨by omega,NE.one (Cr h),trivial⟩,fun hn a n' hr hn'=>?_,fun _ _ e hr=>by cases hr⟩
   cases hr;rw[hv.acc n hlo (by omega),h,yab rfl]
   left;congr 1;omega
  | false=>
   rw[yaa (by simp)]
   refine⟨⟨by omega,NE.nil,by omega⟩,fun _ a n' hr=>(by cases hr),fun hn hfu e hr=>?_⟩
   cases hr;rw[(hv.full hfu).2.1 w,yaa (by simp)]
   exact⟨rfl,.inl rfl⟩
 ·unfold aD
  rw[(hv.full hfu).2.1 w,yaa (by simp)]
  exact⟨rfl,.inl rfl⟩
def Xg(hv:VW S){i:Nat}(hl:S.lo<=i)(h:i<S.k):bK S.tk2 (i+S.d)=bK S.tk i:=by
 unfold bK;rw[hv.kind i hl h,hv.text i hl h]
def GG{tk:List lB}{n:Nat}(h:bK tk n=true):bC tk 1 n=true:=by
 unfold bK at h;simp only[ybb]at h;exact h.1
def Bp(hv:VW S):qB S H (fun _=>True) (kH S.tk) (kH S.tk2):=by
 refine⟨fun _ n hlo=>?_,fun hfu=>?_⟩
 ·unfold kH
  cases h:bK S.tk n with
  | true=>
   rw[yab rfl];refine⟨⟨by omega,NE.one (Ls (GG h) (by omega)),trivial⟩,fun hn a n' hr hn'=>?_,fun _ _ e hr=>by cases hr⟩
   cases hr;rw[Xg hv hlo (by omega),h,yab rfl,hv.text n hlo (by omega)]
   left;congr 1;omega
  | false=>
   rw[yaa (by simp)]
   refine⟨⟨by omega,NE.nil,by omega⟩,fun _ a n' hr=>(by cases hr),fun hn hfu e hr=>?_⟩
   cases hr;rw[hv.qname,yaa (by simp)]
   exact⟨rfl,.inl rfl⟩
 ·unfold kH
  rw[hv.qname,yaa (by simp)]
  exact⟨rfl,.inl rfl⟩
def Mp(hv:VW S):qB S H (fun _=>True) (aO S.tk) (aO S.tk2):=(Tt hv (q:=3) (by omega)).bind hv fun a=>qB.ret fun _=>trivial
def LY(hv:VW S){f:Nat->List Nat}{m:Nat}(hf:∀i,f i∉cT):∀(k i:Nat),qB S H (fun _=>True) (jL S.tk f m k i) (jL S.tk2 f m k i):=by
 intro k;induction k with
 | zero=>intro i;exact qB.fail (.inl rfl)
 | succ k ih=>
  intro i;by_cases h:m<i
  ·have e:∀tk,jL tk f m (k+1) i=fun n=>.er 120 n:=fun tk=>by funext n;unfold jL;rw[yab h]
   rw[e,e];exact qB.fail (.inl rfl)
  ·have e:∀tk,jL tk f m (k+1) i=fun n=>if acc tk (f i) n=true then .ok i (n+1)else jL tk f m k (i+1) n:=fun tk=>by funext n;rw[jL,yaa h]
   rw[e,e];exact qB.acc hv (A:=fun n=>.ok i n) (A2:=fun n=>.ok i n) (hf i) (qB.ret fun _=>trivial) (ih (i+1))
end
end Go.Proofs
namespace Go.Proofs
open Go Go.Am
variable [gC]
variable {t tf:Tr vA}
def nLt{a b:Int}(h:¬ a<b):cB a b≠true:=fun e=>h (vG.1 e)
def yLt{a b:Int}(h:a<b):cB a b=true:=vG.2 h
def sam203{l:List Nat}{u v:zA}(hu:bA t 1 (xE l) u)(hv:bA t 1 (xE l) v)(hl:l.length<300000):sC yA F 26 [u,v] t=some (.bool true):=by
 have hn:uC u=some (.int .i64 (l.length:Int)):=by rw[hu.len,fU]
 have hn':uC v=some (.int .i64 (l.length:Int)):=by rw[hv.len,fU]
 refine dD.2 (w26 ?_)
 unfold t26 uI tC uZ;refine oA hn (sB (oA hn' (sB (tB (fun e=>absurd rfl (iR.1 e)) (kC ?_)))))
 have loop:∀(m i:Nat),i+m=l.length->jp 26 2 [u,v,.int .i64 (i:Int)] t (fun v' t'=>v'=.bool true/\t'=t):=by
  intro m;induction m with
  | zero=>
   intro i hi;refine j26_2 ?_
   unfold zg9 uI uH wD tC sI uZ;exact oA hn (sB (tB (nLt (by omega)) ⟨rfl,rfl⟩))
  | succ m ih=>
   intro i hi;obtain⟨x,hx⟩:=getElem?_of_lt (show i<l.length by omega)
   obtain⟨p,o,g1,g2⟩:=bA.idx (C:=yA) iY hu hx
   obtain⟨p',o',g3,g4⟩:=bA.idx (C:=yA) iY hv hx
   refine j26_2 ?_
   unfold zg9 uI uH wD tC sI uZ;refine oA hn (sB (sA (yLt (by omega)) (oA g1 (vC g2 (sB (oA g3 (vC g4 (sB (tB (fun e=>absurd rfl (iR.1 e)) (kC ?_))))))))))
   rw[iC (by omega) (by omega)]
   exact ih (i+1) (by omega)
 exact loop l.length 0 (by omega)
def zeh{w:wK}{cs ds:List zA}(hl:w.limbs.length<300000)(h:RD t w.d cs)(k:RD t w.d ds):sC yA F 83 [.agg cs,.agg ds] t=some (.bool true):=by
 obtain⟨u,rfl,hu⟩:=Pg h
 obtain⟨v,rfl,hv⟩:=Pg k
 refine dD.2 (w83 ?_)
 unfold t83 uB tC;refine sA (by rw[cU];simp) (yB ?_)
 rw[q26,sam203 hu hv hl,qA];exact pD ⟨rfl,rfl⟩
def zei{f:gH}{cs ds:List zA}(hl:f.n.limbs.length<300000/\f.d.limbs.length<300000)(h:RD t f.dd cs)(k:RD t f.dd ds):sC yA F 53 [.agg cs,.agg ds] t=some (.bool true):=by
 obtain⟨a,b,rfl,ha,hb⟩:=rd_frac h
 obtain⟨a',b',rfl,ha',hb'⟩:=rd_frac k
 refine dD.2 (w53 ?_)
 unfold t53 uB tC;refine yB ?_
 rw[q83,zeh hl.1 (Br (w:=f.n) ha) (Br (w:=f.n) ha'),qA]
 refine pD (sA rfl (yB ?_))
 rw[q83,zeh hl.2 (Br (w:=f.d) hb) (Br (w:=f.d) hb'),qA]
 exact pD ⟨rfl,rfl⟩
def sam94{x:pG}{cs ds:List zA}(hl:x.f.n.limbs.length<300000/\x.f.d.limbs.length<300000)(h:RD t x.d cs)(k:RD t x.d ds):sC yA F 24 [.agg cs,.agg ds] t=some (.bool true):=by
 obtain⟨a,b,rfl,ha,hb⟩:=Kl h
 obtain⟨a',b',rfl,ha',hb'⟩:=Kl k
 refine dD.2 (w24 ?_)
 unfold t24 uB tC;refine sA (mG.2 rfl) (yB ?_)
 rw[q53,zei hl (Bs (f:=x.f) ha hb) (Bs (f:=x.f) ha' hb'),qA]
 refine pD (sA rfl ?_)
 rw[mG.2 rfl];exact⟨rfl,rfl⟩
def sam102{x:nH}{cs ds:List zA}(hl:x.f.n.limbs.length<300000/\x.f.d.limbs.length<300000)(h:RD t x.d cs)(k:RD t x.d ds):sC yA F 116 [.agg cs,.agg ds] t=some (.bool true):=by
 obtain⟨a,b,rfl,ha,hb⟩:=Wd h
 obtain⟨a',b',rfl,ha',hb'⟩:=Wd k
 refine dD.2 (w116 ?_)
 unfold t116 uB tC;refine sA (mG.2 rfl) (sA (mG.2 rfl) (sA (mG.2 rfl) (yB ?_)))
 rw[q53,zei hl (Bs (f:=x.f) ha hb) (Bs (f:=x.f) ha' hb'),qA]
 exact pD ⟨rfl,rfl⟩
theorem sam58{l:List nH}{u v:zA}(hn:l.length<300000)(hl:∀x∈l,x.f.n.limbs.length<300000/\x.f.d.limbs.length<300000)(hu:bA t 7 (l.map nH.d) u)(hv:bA t 7 (l.map nH.d) v):sC yA F 94 [u,v] t=some (.bool true):=by
 refine dD.2 (w94 ?_)
 unfold t94 uI tC uZ;refine oA hu.len (sB (oA hv.len (sB (tB (fun e=>absurd rfl (iR.1 e)) (kC ?_)))))
 refine Ke (C:=yA) (W:=Wq yA F qC) (J:=Jq yA F 94) (g:=cmpC 116) (ne:=not) (ok:=true) (ds:=l.map nH.d) sl128 (fun d hd=>?_) rfl (fun d hd cs cs' K h1 h2 hK=>?_) (by simp_all) (fun i hw=>j94_2 hw) hu hv ⟨rfl,rfl⟩ l.length 0 (by simp)
 ·obtain⟨x,_,rfl⟩:=yaq.1 hd
  exact x.zs
 ·obtain⟨x,hx,rfl⟩:=yaq.1 hd
  refine yB ?_
  rw[q116,sam102 (hl x hx) h1 h2,qA]
  exact hK
def sam31{x:zI}{cs ds:List zA}(hn:x.rows.length<300000)(hl:∀r∈x.rows,r.f.n.limbs.length<300000/\r.f.d.limbs.length<300000)(h:RD t x.d cs)(k:RD t x.d ds):sC yA F 63 [.agg cs,.agg ds] t=some (.bool true):=by
 obtain⟨a,rfl,ha⟩:=EK h
 obtain⟨b,rfl,hb⟩:=EK k
 refine dD.2 (w63 ?_)
 unfold t63 uB tC;refine sA ((wN _ _).2 rfl) (sA (by rw[cU];simp) (yB ?_))
 rw[q94,sam58 hn hl ha hb,qA];exact pD ⟨rfl,rfl⟩
theorem sam89{l:List zI}{u v:zA}(hn:l.length<300000)(hl:∀x∈l,x.rows.length<300000/\∀r∈x.rows,r.f.n.limbs.length<300000/\r.f.d.limbs.length<300000)(hu:bA t 3 (l.map zI.d) u)(hv:bA t 3 (l.map zI.d) v):sC yA F 34 [u,v] t=some (.bool true):=by
 refine dD.2 (w34 ?_)
 unfold t34 uI tC uZ;refine oA hu.len (sB (oA hv.len (sB (tB (fun e=>absurd rfl (iR.1 e)) (kC ?_)))))
 refine Ke (C:=yA) (W:=Wq yA F qC) (J:=Jq yA F 34) (g:=cmpC 63) (ne:=not) (ok:=true) (ds:=l.map zI.d) sl24 (fun d hd=>?_) rfl (fun d hd cs cs' K h1 h2 hK=>?_) (by simp_all) (fun i hw=>j34_2 hw) hu hv ⟨rfl,rfl⟩ l.length 0 (by simp)
 ·obtain⟨x,_,rfl⟩:=yaq.1 hd
  exact x.zs
 ·obtain⟨x,hx,rfl⟩:=yaq.1 hd
  refine yB ?_
  rw[q63,sam31 (hl x hx).1 (hl x hx).2 h1 h2,qA]
  exact hK
theorem zjg{x y:Operand}{s:List Nat}{k:Int}{b:Bool}:(nJ .neq).f yA 77 x y (.agg [.str s,.int .u8 k,.bool b]) (.agg [.str s,.int .u8 k,.bool b])=some (.bool false):=by
 have e:(nJ .neq).f yA 77 x y (.agg [.str s,.int .u8 k,.bool b]) (.agg [.str s,.int .u8 k,.bool b])=ob (bif qG s s then(bif oB k k then(bif bEq b b then some true else some false)else some false)else some false) fun r=>some (.bool (!r)):=by kernel_rfl
 rw[e,(wN s s).2 rfl,mG.2 rfl]
 cases b<;>rfl
theorem sam88{l:List oG}{u v:zA}(hn:l.length<300000)(hu:bA t 3 (l.map oG.d) u)(hv:bA t 3 (l.map oG.d) v):sC yA F 33 [u,v] t=some (.bool true):=by
 refine dD.2 (w33 ?_)
 unfold t33 uI tC uZ;refine oA hu.len (sB (oA hv.len (sB (tB (fun e=>absurd rfl (iR.1 e)) (kC ?_)))))
 refine Ke (C:=yA) (W:=Wq yA F qC) (J:=Jq yA F 33) (g:=fun a b K=>.opt ((nJ .neq).f yA 77 (.tmp 20) (.tmp 24) (.agg a) (.agg b)) K) (ne:=fun b=>b) (ok:=false) (ds:=l.map oG.d) sl23 (fun d hd=>?_) rfl (fun d hd cs cs' K h1 h2 hK=>?_) (by simp_all) (fun i hw=>j33_2 hw) hu hv ⟨rfl,rfl⟩ l.length 0 (by simp)
 ·obtain⟨x,_,rfl⟩:=yaq.1 hd
  exact x.zs
 ·obtain⟨x,hx,rfl⟩:=yaq.1 hd
  have e1:=We h1
  grind [We,oA,zjg]
mutual
theorem zhe:∀(x:cA),cA.cpy x->∀cs ds,RD t x.d cs->RD t x.d ds->sC yA F 16 [.agg cs,.agg ds] t=some (.bool true)
 | .mk op name v args,h,cs,ds,hc,hd=>by
  obtain⟨a,b,c,rfl,ha,hb,he⟩:=rL hc
  obtain⟨a',b',c',rfl,ha',hb',he'⟩:=rL hd
  simp only[cA.op,cA.name,cA.v,cA.args]at ha hb he ha' hb' he' ⊢
  unfold cA.cpy at h;refine dD.2 (w16 ?_)
  unfold t16 uB tC uZ uY;refine sA (mG.2 rfl) (sA ((wN _ _).2 rfl) (yB ?_))
  rw[q24,sam94 h.1 (Ld (x:=v) ha hb) (Ld (x:=v) ha' hb'),qA]
  refine pD (sA rfl (yB ?_))
  have:=sam95 args h.2.2
  have e95:sC yA F 44 [c,c'] t=some (.bool true):=by
   refine dD.2 (w44 ?_)
   unfold t44 uI tC uZ;refine oA he.len (sB (oA he'.len (sB (tB (fun e=>absurd rfl (iR.1 e)) (kC ?_)))))
   refine Ke (C:=yA) (W:=Wq yA F qC) (J:=Jq yA F 44) (g:=cmpC 16) (ne:=not) (ok:=true) (ds:=args.map cA.d) sl48 (fun d hd=>?_) rfl (fun d hd cs cs' K h1 h2 hK=>?_) (by simp_all) (fun i hw=>j44_2 hw) he he' ⟨rfl,rfl⟩ args.length 0 (by simp)
   ·obtain⟨x,_,rfl⟩:=yaq.1 hd
    exact x.zs
   ·obtain⟨x,hx,rfl⟩:=yaq.1 hd
    refine yB ?_
    rw[q16,this x hx cs cs' h1 h2,qA];exact hK
  rw[q44,e95,qA];exact pD ⟨rfl,rfl⟩
theorem sam95:∀(l:List cA),cA.cpys l->∀x∈l,∀cs ds,RD t x.d cs->RD t x.d ds->sC yA F 16 [.agg cs,.agg ds] t=some (.bool true)
 | [],_,x,hx=>by cases hx
 | y::l,h,x,hx=>by
  unfold cA.cpys at h;rcases ybs.1 hx with e | hx
  ·rw[e];exact zhe y h.1
  ·exact sam95 l h.2 x hx
end
def sam93{x:dF}{cs ds:List zA}(hw:cA.cpy x.when_)(ht:cA.cpy x.then_)(h:RD t x.d cs)(k:RD t x.d ds):sC yA F 64 [.agg cs,.agg ds] t=some (.bool true):=by
 obtain⟨a,b,c,d,e,f,rfl,h1,h2⟩:=Wg h
 obtain⟨a',b',c',d',e',f',rfl,k1,k2⟩:=Wg k
 refine dD.2 (w64 ?_)
 unfold t64 uB tC uZ uY;refine sA ((wN _ _).2 rfl) (sA ((wN _ _).2 rfl) (sA (mG.2 rfl) (sA (mG.2 rfl) (sA (mG.2 rfl) (sA (by rw[cU];simp) (yB ?_))))))
 have e1:=zhe x.when_ hw _ _ h1 k1
 have e2:=zhe x.then_ ht _ _ h2 k2
 unfold Fk at e1 e2;rw[q16,e1,qA];refine pD (sA rfl (yB ?_))
 rw[q16,e2,qA];exact pD ⟨rfl,rfl⟩
theorem sam90{l:List dF}{u v:zA}(hn:l.length<300000)(hl:∀x∈l,cA.cpy x.when_/\cA.cpy x.then_)(hu:bA t 24 (l.map dF.d) u)(hv:bA t 24 (l.map dF.d) v):sC yA F 35 [u,v] t=some (.bool true):=by
 refine dD.2 (w35 ?_)
 unfold t35 uI tC uZ;refine oA hu.len (sB (oA hv.len (sB (tB (fun e=>absurd rfl (iR.1 e)) (kC ?_)))))
 refine Ke (C:=yA) (W:=Wq yA F qC) (J:=Jq yA F 35) (g:=cmpC 64) (ne:=not) (ok:=true) (ds:=l.map dF.d) sl25 (fun d hd=>?_) rfl (fun d hd cs cs' K h1 h2 hK=>?_) (by simp_all) (fun i hw=>j35_2 hw) hu hv ⟨rfl,rfl⟩ l.length 0 (by simp)
 ·obtain⟨x,_,rfl⟩:=yaq.1 hd
  exact x.zs
 ·obtain⟨x,hx,rfl⟩:=yaq.1 hd
  refine yB ?_
  rw[q64,sam93 (hl x hx).1 (hl x hx).2 h1 h2,qA]
  exact hK
def sam47{p:wE}{cs ds:List zA}(hp:wE.cpy p)(h:RD t p.d cs)(k:RD t p.d ds):sC yA F 12 [.agg cs,.agg ds] t=some (.bool true):=by
 obtain⟨a,b,c,rfl,ha,hb,hc⟩:=Dy h
 obtain⟨a',b',c',rfl,ha',hb',hc'⟩:=Dy k
 refine dD.2 (w12 ?_)
 unfold t12 uB tC;refine sA ((wN _ _).2 rfl) (yB ?_)
 rw[q33,sam88 hp.defs ha ha',qA];refine pD (sA rfl (yB ?_))
 rw[q34,sam89 hp.tables hp.rows hb hb',qA];refine pD (sA rfl (yB ?_))
 rw[q35,sam90 hp.clauses hp.exprs hc hc',qA];exact pD ⟨rfl,rfl⟩
end Go.Proofs
namespace Go.Am
open Go Go.RowKit
def AN{C:mA}{F:Tr bD}{f:Nat}{args:List zA}{t:Tr vA}{Q:pB}{g:List zA->xA->Option (zA × xA)}(hg:C.prims.get f=some g)(h:∀X HA,Ov C.base t X HA->∃v t' HA',g args HA=some (v,HA')/\Ov C.base t' X HA'/\Q v t')(hf:Nat.blt f yo=true:=by rfl):Wc C F f args t Q:=by
 intro X HA ho;rw[Fi hf,hg];obtain⟨v,t',HA',h1,h2,h3⟩:=h X HA ho
 exact⟨⟨v,false⟩,t',HA',X,by show ob (g args HA) _=_;rw[h1];rfl,h2,iI.refl _,h3⟩
end Go.Am
namespace Go.Proofs
open Go Go.Am
variable [gC]
variable {t tf:Tr vA}{bx T:Nat}{s m:List Nat}{ex:List zA}
def el95:It yA 95 5 1:=⟨⟨_,ty95,rfl,rfl⟩,⟨_,ty5,rfl,rfl,by decide,by decide⟩⟩
def co5:∀z,yA.tys.get 5=some z->iM 5 z=.ty 5:=fun z h=>by rw[ty5]at h;cases h;rfl
theorem JD{cd:Lo}{base sz:Nat}{l:List D}{v:zA}{b:Nat}(h:vK cd base tf t sz l v)(hb:lM v b)(hn:t.get b=none):False:=by
 obtain⟨_,_,y,hy⟩:=h.none hb
 simp_all
def AZ{b o:Nat}:iF (.ptr b o)=some (.ptr b o):=rfl
def BX (T:Nat)(ex:List zA)(tf t:Tr vA)(bx:Nat)(s:List Nat):Prop:=
 yA.base<=bx/\tf.get bx=none/\aA tf t/\kB 256 s/\Lf Qf T (ex.length+2)=true/\∃p tv,(p=zA.nilptr\/p=.ptr bx 0)/\dC t bx (some (.ty T)) (p::tv::ex)/\vK (.ty 5) yA.base tf t 1 (xC .u8 s) tv/\(¬ lM tv bx/\(s=[]->tv=.nilslice))
def BX.le(h:BX T ex tf t bx s):aA tf t:=h.2.2.1
theorem BX.both(h:BX T ex tf t bx s){n:Nat}(hn:t.get n=none)(y:vA):BX T ex (tf.set n y) (t.set n y) bx s:=by
 obtain⟨h1,h2,h3,ha,hM,p,tv,hp,h4,h5,h6⟩:=h
 have hbx:bx≠n:=by intro e;obtain⟨c,h,_⟩:=h4;simp_all
 refine⟨h1,by grind [Tr.get_set],DJ hn h3,ha,hM,p,tv,hp,h4.off (by rw[Tr.get_set,yaa hbx]),?_,h6⟩
 have hb:∀b,lM tv b->b≠n:=fun b hb e=>JD h5 hb (e ▸ hn)
 rcases h5 with⟨rfl,h5⟩ | ⟨b,cl,c,rfl,k0,k1,k2,k3,k4⟩
 ·exact .inl ⟨rfl,h5⟩
 ·have hbn:=hb b (Cb.2 rfl)
  exact .inr ⟨b,cl,c,rfl,k0,by grind [Tr.get_set],by grind [Tr.get_set],k3,xD.mono (fun c u hc=>by
   grind [Hb,Tr.get_set]) _ _ k4⟩
theorem BX.out{n:Nat}{y:vA}(hn:tf.get n=none)(h:BX T ex (tf.set n y) t bx s):BX T ex tf (t.del n) bx s:=by
 obtain⟨h1,h2,h3,ha,hM,p,tv,hp,h4,h5,h6⟩:=h
 have hbx:bx≠n:=by grind [Tr.get_set]
 have hle:aA tf (tf.set n y):=(gN hn y).1
 rw[Tr.get_set,yaa hbx]at h2;refine⟨h1,h2,fun c u hc=>?_,ha,hM,p,tv,hp,h4.off (by rw[Tr.get_del,yaa hbx]),?_,h6⟩
 ·have:c≠n:=fun e=>by simp_all
  rw[Tr.get_del,yaa this];exact h3 _ _ (hle _ _ hc)
 ·rcases h5 with⟨rfl,h5⟩ | ⟨b,cl,c,rfl,k0,k1,k2,k3,k4⟩
  ·exact .inl ⟨rfl,h5⟩
  ·have hbn:b≠n:=by grind [Tr.get_set]
   refine .inr ⟨b,cl,c,rfl,k0,by grind [Tr.get_set],by grind [Tr.get_del],k3,?_⟩
   grind [Im]
theorem BX.less{tf0:Tr vA}(hle:aA tf0 tf)(h:BX T ex tf t bx s):BX T ex tf0 t bx s:=by
 obtain⟨h1,h2,h3,ha,hM,p,tv,hp,h4,h5,h6⟩:=h
 have no:∀b,tf.get b=none->tf0.get b=none:=fun b hb=>by
  cases hq:tf0.get b with
  | none=>rfl
  | some u=>rw[hle _ _ hq]at hb;cases hb
 refine⟨h1,no _ h2,hle.trans h3,ha,hM,p,tv,hp,h4,?_,h6⟩
 rcases h5 with⟨rfl,h5⟩ | ⟨b,cl,c,rfl,k0,k1,k2,k3,k4⟩
 ·exact .inl ⟨rfl,h5⟩
 ·exact .inr ⟨b,cl,c,rfl,k0,no _ k1,k2,k3,by grind [Im]⟩
theorem BX.keep(h:BX T ex tf t bx s){t':Tr vA}(hle:aA tf t')(hk:∀b,b=bx\/(∃p tv,dC t bx (some (.ty T)) (p::tv::ex)/\lM tv b)->t'.get b=t.get b):BX T ex tf t' bx s:=by
 obtain⟨h1,h2,h3,ha,hM,p,tv,hp,h4,h5,h6⟩:=h
 exact⟨h1,h2,hle,ha,hM,p,tv,hp,h4.off (hk _ (.inl rfl)),h5.keep' fun b hb=>hk b (.inr ⟨p,tv,h4,hb⟩),h6⟩
theorem BX.junk(h:BX T ex tf t bx s){n:Nat}{t':Tr vA}(hn:t.get n=none)(ho:bF n t t'):BX T ex tf t' bx s:=by
 obtain⟨h1,h2,h3,ha,hM,p,tv,hp,h4,h5,h6⟩:=h
 have hbx:bx≠n:=by intro e;obtain⟨c,h,_⟩:=h4;simp_all
 refine⟨h1,h2,h3.off (Hb h3 hn) ho,ha,hM,p,tv,hp,h4.off (ho bx hbx),h5.keep' fun b hb=>ho b fun e=>JD h5 hb (e ▸ hn),h6⟩
theorem BX.check{Q:pB}(h:BX T ex tf t bx s)(hQ:∀t',BX T ex tf t' bx s->Q (.tup []) t'):Wc yA F 82 [.ptr bx 0] t Q:=by
 have h0:=h
 obtain⟨h1,h2,h3,ha,hM,p,tv,hp,⟨c,h4,h4'⟩,h5,h6⟩:=h
 have hg:yA.prims.get 82=some pChk:=by kernel_rfl
 refine AN hg fun X HA ho=>?_
 have hk:kD HA bx=some (c,(p::tv::ex).length,some (.ty T)):=by unfold kD;rw[ho.up h4];rfl
 have hc0:c.get 0=some p:=h4' 0 p rfl
 rcases hp with rfl | rfl
 ·refine⟨.tup [],t.set bx (.cells (c.set 0 (.ptr bx 0)) (zA.nilptr::tv::ex).length (some (.ty T))),setBlk HA bx (.cells (c.set 0 (.ptr bx 0)) (zA.nilptr::tv::ex).length (some (.ty T))),?_,ho.setBlk h4 _,hQ _ ?_⟩
  ·unfold pChk Ha
   simp only[];rw[hk,rA,hc0,rA];simp only[];have e1:(!Nat.blt bx (256+gC.n))=true:=by
    cases hq:Nat.blt bx (256+gC.n)with
    | true=>
     have h3:=pC.1 hq
     have h1':256+gC.n<=bx:=h1
     omega
    | false=>rfl
   simp_all
  ·refine⟨h1,h2,fun b u hb=>?_,ha,hM,.ptr bx 0,tv,.inr rfl,⟨_,by rw[Tr.get_set,yab rfl];rfl,fun j a hj=>?_⟩,h5.keep' fun b hb=>?_,h6⟩
   ·have:b≠bx:=fun e=>by simp_all
    rw[Tr.get_set,yaa this];exact h3 _ _ hb
   all_goals grind [Tr.get_set]
 ·refine⟨.tup [],t,HA,?_,ho,hQ _ h0⟩
  simp_all [pChk,Ha]
def fa77{b:Nat}:nC yA 110 1 (.ptr b 0)=some (.ptr b 1):=by kernel_rfl
theorem BX.write{Q:pB}(h:BX T ex tf t bx s)(hm:m≠[])(hlt:kB 256 m)(hl:s.length+m.length<400000)(hQ:∀v t',BX T ex tf t' bx (s++m)->Q v t'):Wc yA F 51 [.ptr bx 0,.str m] t Q:=by
 refine w51 ?_
 unfold t51 yI uZ;refine yB ?_
 rw[q82];refine h.check fun t' h'=>?_
 obtain⟨h1,h2,h3,ha,hM,p,tv,hp,h4,h5,h6⟩:=h'
 refine oA AZ (oA fa77 (vC (h4.load1 (j:=1) ty95 rfl rfl) (jC fun n hn hbase=>?_)))
 have hbn:n≠bx:=by intro e;obtain⟨c,hh,_⟩:=h4;simp_all
 obtain⟨t1,g1,g2,g3,g4⟩:=ZO el95 ⟨_,kN,rfl⟩ co5 h5 hm hl hn hbase h3
 refine⟨_,_,g1,oA AZ (oA fa77 (jC fun n2 _ _=>?_))⟩
 have h4':dC t1 bx (some (.ty T)) (p::tv::ex):=h4.off (g4 bx hbn.symm h6.1)
 obtain⟨t2,e1,e2,e3⟩:=h4'.store1 (v:=.slice n 0 (s.length+m.length) (s.length+m.length)) h1 ty95 rfl rfl rfl (j:=1) (by simp)
 refine⟨_,_,e1 n2,hQ _ _ ⟨h1,h2,g3.off h2 e3,fun x hx=>?_,hM,p,_,hp,e2,g2.keep' fun b hb=>e3 b fun e=>?_,fun e=>?_,fun e=>absurd (List.append_eq_nil_iff.1 e).2 hm⟩⟩
 ·rcases yaf.1 hx with hx | hx
  ·exact ha x hx
  ·exact hlt x hx
 all_goals grind [Cb]
def GN:∀ {l:List Nat},kB 256 l->vH Go.Am.byteOf (l.map fun(n:Nat)=>zA.int .u8 (n:Int))=some l
 | [],_=>rfl
 | x::l,h=>by
  have hx:Go.Am.byteOf (.int .u8 (x:Int))=some x:=by
   show xB (Nat.blt x 256) (some x)=_
   rw[pC.2 (h x (.head _))];rfl
  rw[ycm,lP,hx,rA,GN fun y hy=>h y (.tail _ hy)]
  rfl
theorem BX.string{Q:pB}(h:BX T ex tf t bx s)(hl:s.length<400000)(hQ:∀t',aA tf t'->Q (.str s) t'):Wc yA F 52 [.ptr bx 0] t Q:=by
 obtain⟨h1,h2,h3,ha,hM,p,tv,hp,⟨c,h4,h4'⟩,h5,h6⟩:=h
 have hg:yA.prims.get 52=some pStr:=by kernel_rfl
 rcases h5 with⟨rfl,h5⟩ | ⟨b,cl,d,rfl,k0,k1,k2,k3,k4⟩
 ·refine AN hg fun X HA ho=>?_
  have hk:kD HA bx=some (c,(p::zA.nilslice::ex).length,some (.ty T)):=by unfold kD;rw[ho.up h4];rfl
  have hc1:=h4' 1 _ rfl
  have hs:s=[]:=by grind [iH]
  subst hs;refine⟨.str [],t,HA,?_,ho,hQ _ h3⟩
  unfold pStr Gy;simp only[];rw[hk,rA,hc1,rA]
 have hs:s≠[]:=fun e=>by have:=h6.2 e;cases this
 have hpos:0<s.length:=List.length_pos_iff.2 hs
 rw[iH,Nat.mul_one]at k2;rw[Im]at k4;subst k4;have hbytes:∀j a,(s.map fun(n:Nat)=>zA.int .u8 (n:Int))[j]?=some a->d.get j=some a:=by
  intro j a hj;have hj':(cellsK .u8 s)[j]?=some [a]:=by
   grind [cellsK]
  have:=(k3 j _ hj').2 0 a rfl
  simp_all
 refine AN hg fun X HA ho=>?_
 have hk:kD HA bx=some (c,(p::zA.slice b 0 (xC .u8 s).length (xC .u8 s).length::ex).length,some (.ty T)):=by unfold kD;rw[ho.up h4];rfl
 have hk2:kD HA b=some (d,s.length,some (.ty 5)):=by unfold kD;rw[ho.up k2];rfl
 have hc1:=h4' 1 _ rfl
 refine⟨.str s,t.del b,⟨HA.next,HA.t.del b⟩,?_,ho.delBlk k2,hQ _ fun e u he=>?_⟩
 ·unfold pStr Gy
  simp only[];rw[hk,rA,hc1,rA];unfold Po;simp only[];rw[hk,rA,hc1,rA];simp only[zA.asSlice,rA,iH];rw[hk2,rA];simp only[];have hm:=GI hbytes s.length 0 (by simp)
  rw[ycr,yca (by simp)]at hm
  rw[hm,rA,GN ha,rA];have e1:(!Nat.blt b (256+gC.n))=true:=by
   cases hq:Nat.blt b (256+gC.n)with
   | true=>
    have h3:=pC.1 hq
    have h1':256+gC.n<=b:=k0
    omega
   | false=>rfl
  rw[e1,lC.2 rfl,pC.2 hpos,qE.2 (ybk _),pC.2 (show s.length<1000000000 by omega),lC.2 rfl]
  rfl
 ·have:e≠b:=fun h=>by simp_all
  rw[Tr.get_del,yaa this];exact h3 _ _ he
end Go.Proofs
namespace Go.Proofs
open Go Go.Am
section
variable {b:Nat}{s:List Nat}
section
variable {k ln cl:Nat}{op:Option (Nat × Nat)}{r:List Nat}
def let_ne (h:mM b=true):b≠10/\b≠32/\b≠9/\b≠35/\b≠45/\b≠47/\nD b=false/\b≠0:=by
 unfold mM at h;unfold nD;simp only[ycq,ybb,decide_eq_true_eq]at h;refine⟨by omega,by omega,by omega,by omega,by omega,by omega,?_,by omega⟩
 simp only[Bool.and_eq_false_iff,decide_eq_false_iff_not];omega
def Zn (h:nD b=true):b≠10/\b≠32/\b≠9/\b≠35/\b≠45/\b≠47/\mM b=false:=by
 unfold nD at h;unfold mM;simp only[ybb,decide_eq_true_eq]at h;refine⟨by omega,by omega,by omega,by omega,by omega,by omega,?_⟩
 simp only[yal,Bool.and_eq_false_iff,decide_eq_false_iff_not];omega
def zct(a b:List Nat):(a++b).drop a.length=b:=by simp
def FV {i:Nat}(hi:i<10)(h:pK i (s.getD i 0)=false):zH s=false:=by
 cases hd:zH s with
 | false=>rfl
 | true=>
  unfold zH at hd;simp only[ybb]at hd;rw[ycb.1 hd.2 i (List.mem_range.2 hi)]at h
  cases h
def GC (h:∀b∈s,b≠45):zH s=false:=by
 refine FV (i:=4) (by omega) ?_
 unfold pK;rw[yab (.inl rfl),decide_eq_false_iff_not,List.getD_eq_getElem?_getD]
 cases hx:s[4]? with
 | none=>simp
 | some b=>exact h b (ycv hx)
end
end
section
def aH:Bool->List lB->List Nat
 | _,[]=>[]
 | o,t::l=>if t.kind=5 then 10::aH false l else(if o=true then 32::t.text else t.text)++aH true l
def nP(l:List lB)(i:Nat):Bool:=decide (0<i) && !bC l 5 (i-1)
def IV:∀(l:List lB) (o:Bool) (t:lB),aH o (l++[t])=aH o l++(if t.kind=5 then [10]else(if (if l=[]then o else nP l l.length)=true then 32::t.text else t.text)):=by
 intro l;induction l with
 | nil=>
  intro o t;simp only[aH,yah];split<;>simp[aH]
 | cons x l ih=>
  intro o t;have ho:∀o',(if l=[]then o' else nP l l.length)=true ↔ (if l=[]then o'=true else nP l l.length=true):=fun o'=>by split<;>simp
  have hk:nP (x::l) (x::l).length=(if l=[]then !decide (x.kind=5)else nP l l.length):=by
   unfold nP bC
   cases l with
   | nil=>simp
   | cons y l=>simp
  rw[yaa (show ¬ x::l=[] by simp),hk,List.cons_append]
  simp only[aH];by_cases h5:x.kind=5
  ·rw[yab h5,yab h5,ih]
   simp only[h5,decide_true,Bool.not_true,List.cons_append]
  ·rw[yaa h5,yaa h5,ih]
   simp only[h5,decide_false,ycl,ybz]
end
section
variable {ts:List (List Nat)}{v:zA}
variable [gC]
section
variable {t tf:Tr vA}{bx:Nat}{s:List Nat}{Q:pB}
def zf9  (hts:∀m∈ts,m≠[]/\kB 256 m)(h:BX 110 [] tf t bx s)(hv:bA tf 1 (ts.map D.str) v)(hl:s.length+ts.flatten.length<400000)(hn:ts.length<1000)(hQ:∀t',BX 110 [] tf t' bx (s++ts.flatten)->Q (.tup []) t'):Wc yA F 50 [v,.ptr bx 0] t Q:=by
 have loop:∀(k i:Nat) (s':List Nat) (t:Tr vA),i+k=ts.length->BX 110 [] tf t bx s'->s'++(ts.drop i).flatten=s++ts.flatten->jp 50 2 [.ptr bx 0,v,.int .i64 (ts.length:Int),.int .i64 (i:Int)] t Q:=by
  intro k;induction k with
  | zero=>
   intro i s' t hi h he;refine j50_2 ?_
   unfold zg7;have:ts.drop i=[]:=ybt (by omega)
   rw[this]at he;simp only[List.flatten_nil,ycd]at he;rw[he]at h;exact tB (by rw[mC];simp;omega) (hQ t h)
  | succ k ih=>
   intro i s' t hi h he;refine j50_2 ?_
   unfold zg7;have hlt:i<ts.length:=by omega
   have hd:(ts.map D.str)[i]?=some (D.str ts[i]):=by rw[ybu,ybd hlt];rfl
   obtain⟨b,o,cs,h1,h2,_,_,h3⟩:=sl93.at (fun _=>rfl) (hv.mono h.le) hd
   have e:cs=[.str ts[i]]:=mK.1 h3
   subst e;obtain⟨a1,a2⟩:=hts ts[i] (ycj hlt)
   have ed:ts.drop i=ts[i]::ts.drop (i+1):=ybl hlt
   rw[ed,yas,<- ybz]at he;have hle:s'.length+ts[i].length<=(s++ts.flatten).length:=by rw[<- he];simp
   refine sA (by rw[mC];simp;omega) (oA h1 (vC h2 (lF (yB ?_))))
   rw[q51];refine h.write a1 a2 (by rw[ybg]at hle;omega) fun v t' h'=>kC ?_
   have ew:iA .i64 ((i:Int)+1)=((i+1:Nat):Int):=by rw[iC (by omega) (by omega)];rfl
   show jp 50 2 [_,_,_,.int .i64 (iA .i64 ((i:Int)+1))] t' Q
   rw[ew];exact ih (i+1) _ t' (by omega) h' he
 refine w50 ?_
 unfold t50;refine oA (hv.mono h.le).len (sB (kC ?_))
 rw[ybf];exact loop ts.length 0 s t (by omega) h (by simp)
def UD{W J:eE}{p:Nat} {ps:List (Nat × zA)}{K:zA->T}(hW:∀a m R,W 50 a m R=Wc yA F 50 a m R)(hp:ps=(List.range ts.length).zip (ts.map zA.str))(hts:∀m∈ts,m≠[]/\kB 256 m)(h2:ts.length=1\/ts.length=2)(h:BX 110 [] tf t bx s)(hl:s.length+ts.flatten.length<400000)(hQ:∀t',BX 110 [] tf t' bx (s++ts.flatten)->pA yA.base W J (K (.tup [])) t' Q) :
  pA yA.base W J (.heavy (eC yA 93 ts.length ps) fun a=>.callv (.func (.func 50) [] [.ptr bx 0]) [a] K) t Q:=by
 refine jC fun b hb hbase=>?_
 have key:∃t',eC yA 93 ts.length ps ⟨b,t⟩=some (.slice b 0 ts.length ts.length,⟨b+1,t'⟩)/\vN t' 1 (.slice b 0 ts.length ts.length) (ts.map fun m=>[zA.str m])/\aA t t'/\bF b t t':=by
  refine Em (n:=ts.length) ty93 rfl kN rfl rfl (by show ts.length*1<1000000;omega) ?_ (fun i cs hi=>?_) (by simp) hb
  ·rcases h2 with h2 | h2
   ·obtain⟨m,rfl⟩:∃m,ts=[m]:=by match ts,h2 with | [m],_=>exact⟨m,rfl⟩
    subst hp;exact Ez (sz:=1) (z:=[.str []]) (v:=.str m) rfl rfl
   ·obtain⟨m,m',rfl⟩:∃m m',ts=[m,m']:=by match ts,h2 with | [m,m'],_=>exact⟨m,m',rfl⟩
    subst hp;rfl
  ·rw[ybu]at hi
   cases hq:ts[i]? with
   | none=>rw[hq]at hi;cases hi
   | some m=>rw[hq]at hi;cases hi;rfl
 obtain⟨t',k1,k2,k3,k4⟩:=key
 refine⟨_,_,k1,aT (g:=50) (a:=[.slice b 0 ts.length ts.length,.ptr bx 0]) rfl ?_⟩
 rw[hW];have hbn:=h.junk hb k4
 obtain⟨y,hy⟩:∃y,t'.get b=some y:=by
  rcases k2 with⟨e,_⟩ | ⟨b',o,cap,e,_,⟨c,n,lo,hg,_⟩,_⟩
  ·cases e
  ·injection e with e1 _ _ _;subst e1;exact⟨_,hg⟩
 have hfn:tf.get b=none:=by
  cases hq:tf.get b with
  | none=>rfl
  | some u=>rw[h.le _ _ hq]at hb;cases hb
 have hbx:BX 110 [] (tf.set b y) t' bx s:=by
  have h5:=h.both hb y
  refine h5.keep (fun c u hc=>?_) fun c hc=>?_
  ·rw[Tr.get_set]at hc
   split at hc
   ·rename_i e;cases hc;rw[e];exact hy
   ·exact k3 _ _ (h.le _ _ hc)
  ·rw[Tr.get_set]
   split
   ·rename_i e;rw[e];exact hy
   ·rename_i e;exact k4 c e
 have hel:bA (tf.set b y) 1 (ts.map D.str) (.slice b 0 ts.length ts.length):=by
  refine⟨ts.map fun m=>[zA.str m],?_,?_⟩
  ·rcases k2 with⟨e,_⟩ | ⟨b',o,cap,e,e2,⟨c,n,lo,hg,e3⟩,e4⟩
   ·cases e
   ·simp only[ybf]at e e2
    injection e with e5 e6 _ e7
    subst e5 e6 e7
    refine .inr ⟨b,0,ts.length,by simp,by simp,⟨c,n,lo,?_,e3⟩,fun i cs hi=>⟨(e4 i cs hi).1,?_⟩⟩
    ·rw[Tr.get_set,yab rfl,<- hy,hg]
    ·obtain⟨c1,n1,lo1,f1,f2⟩:=(e4 i cs hi).2
     exact⟨c1,n1,lo1,by rw[Tr.get_set,yab rfl,<- hy,f1],f2⟩
  ·clear k1 hp hl hQ h2 hts k2
   induction ts with
   | nil=>exact sF.2 rfl
   | cons m ts ih=>exact yD.2 ⟨_,_,rfl,mK.2 rfl,ih⟩
 exact zf9 hts hbx hel hl (by omega) fun t2 h2=>hQ t2 (h2.less (gN hfn y).1)
def zew{l:List lB} (hv:bA t 4 (l.map lB.d) v)(hg:∀x∈l,x.kind≠5->x.text≠[]/\kB 256 x.text)(hl:(aH false l).length<399999)(hn:l.length<300000)(hQ:∀t',aA t t'->Q (.str (aH false l)) t'):Wc yA F 23 [v] t Q:=by
 refine w23 ?_
 unfold t23;refine jC fun bx hb hbase=>?_
 have hal:∃t',Dh yA 110 ⟨bx,t⟩=some (.ptr bx 0,⟨bx+1,t'⟩)/\dC t' bx (some (.ty 110)) [.nilptr,.nilslice]/\aA t t'/\bF bx t t':=by
  obtain⟨t',a1,a2,a3,a4⟩:=Qa (t:=t) hb [.nilptr,.nilslice] (some (.ty 110))
  refine⟨t',?_,a2,a3,a4⟩
  unfold Dh;rw[ty110,rA];have e:sK yA 110=some (.ty 110):=by kernel_rfl
  rw[e];show some (zA.ptr bx 0,fF ⟨bx,t⟩ [.nilptr,.nilslice] (some (.ty 110)))=_
  rw[a1]
 obtain⟨t1,h1,h2,h3,h4⟩:=hal
 have hlen:uC v=some (.int .i64 (l.length:Int)):=by have:=(hv.mono h3).len;rwa [ybf]at this
 refine⟨_,_,h1,oA hlen (sB (kC ?_))⟩
 have hbx:BX 110 [] t t1 bx []:=⟨hbase,hb,h3,(fun x hx=>by cases hx),by kernel_rfl,.nilptr,.nilslice,.inl rfl,h2,.inl ⟨rfl,rfl⟩,⟨JE,fun _=>rfl⟩⟩
 have loop:∀(k i:Nat) (t':Tr vA),i+k=l.length->BX 110 [] t t' bx (aH false (l.take i))->jp 23 2 [v,.ptr bx 0,.func (.func 50) [] [.ptr bx 0],v,.int .i64 (l.length:Int),.int .i64 (i:Int)] t' Q:=by
  intro k;induction k with
  | zero=>
   intro i t' hi h;refine j23_2 ?_
   unfold zha;rw[yca (by omega)]at h
   refine tB (by rw[mC];simp;omega) (yB ?_)
   rw[q52];exact h.string (by omega) fun t2 k1=>lF (hQ t2 k1)
  | succ k ih=>
   intro i t' hi h;refine j23_2 ?_
   unfold zha;have hlt:i<l.length:=by omega
   have hx:l[i]?=some l[i]:=ybd hlt
   have hd:(l.map lB.d)[i]?=some l[i].d:=by rw[ybu,hx];rfl
   obtain⟨b,o,cs,g1,g2,_,_,g3⟩:=sl66.at (fun h=>by cases h) (hv.mono h.le) hd
   have e:=Ph g3
   subst e;have ew:iA .i64 ((i:Int)+1)=((i+1:Nat):Int):=by rw[iC (by omega) (by omega)];rfl
   have etake:l.take (i+1)=l.take i++[l[i]]:=by rw[List.take_succ,hx];rfl
   have hjl:∀j,(aH false (l.take j)).length<=(aH false l).length:=by
    intro j;have hs:∀(m:List lB) (o:Bool) (m':List lB),(aH o m).length<=(aH o (m++m')).length:=by
     intro m;induction m with
     | nil=>intro o m';simp[aH]
     | cons x m ih=>
      intro o m';simp only[aH,List.cons_append];split
      ·have:=ih false m';simp;exact this
      ·have:=ih true m';simp;exact this
    have:=hs (l.take j) false (l.drop j)
    rwa [List.take_append_drop]at this
   have hj1:=hjl (i+1)
   rw[etake,IV]at hj1;have next:∀(ts:List (List Nat)) (t2:Tr vA),ts.flatten=(if l[i].kind=5 then [10]else(if (if l.take i=[]then false else nP (l.take i) (l.take i).length)=true then 32::l[i].text else l[i].text))->BX 110 [] t t2 bx (aH false (l.take i)++ts.flatten) →
     jp 23 2 [v,.ptr bx 0,.func (.func 50) [] [.ptr bx 0],v,.int .i64 (l.length:Int),.int .i64 (iA .i64 ((i:Int)+1))] t2 Q:=by
    intro ts t2 hts h2;rw[ew];refine ih (i+1) t2 (by omega) ?_
    rw[etake,IV,<- hts];exact h2
   have hop:(if l.take i=[]then false else nP (l.take i) (l.take i).length)=nP l i:=by
    have htl:(l.take i).length=i:=by rw[yda];omega
    by_cases h0:i=0
    ·subst h0;simp[nP]
    ·rw[yaa (by rw[List.take_eq_nil_iff];rintro(h | h);exact h0 h;subst h;simp at hlt),htl]
     unfold nP bC;rw[List.getElem?_take_of_lt (by omega)]
   rw[hop]at next hj1;have hgi:=hg l[i] (ycj hlt)
   refine sA (by rw[mC];simp;omega) (oA g1 (vC g2 (fC (bQ _) (sA rfl ?_))))
   rw[cT0,cT1];have bnd:∀ts:List (List Nat),ts.flatten=(if l[i].kind=5 then [10]else(if nP l i=true then 32::l[i].text else l[i].text))->(aH false (l.take i)).length+ts.flatten.length<400000:=fun ts hts=>by
    rw[hts];rw[ybg]at hj1;omega
   have write:∀(ts:List (List Nat)) (n:Nat) (ps:List (Nat × zA)),n=ts.length->ps=(List.range ts.length).zip (ts.map zA.str)->(∀m∈ts,m≠[]/\kB 256 m)->(ts.length=1\/ts.length=2)->ts.flatten=(if l[i].kind=5 then [10]else(if nP l i=true then 32::l[i].text else l[i].text)) →
     pA yA.base (Wq yA F qC) (Jq yA F 23) (.heavy (eC yA 93 n ps) fun a=>.callv (.func (.func 50) [] [.ptr bx 0]) [a] fun _=>.jump 2 [v,.ptr bx 0,.func (.func 50) [] [.ptr bx 0],v,.int .i64 (l.length:Int),.int .i64 (iA .i64 ((i:Int)+1))]) t' Q:=by
    rintro ts n ps rfl hp hts h2 he
    exact UD (p:=0) (fun a m R=>by rw[q50]) hp hts h2 h (bnd ts he) fun t2 h2=>kC (next ts t2 he h2)
   by_cases h5:l[i].kind=5
   ·refine sA (by rw[mG];omega) ?_
    refine write [[10]] 1 _ rfl rfl (fun m hm=>?_) (.inl rfl) (by rw[yab h5];rfl)
    simp at hm;subst hm;exact⟨by simp,fun x hx=>by simp at hx;omega⟩
   ·obtain⟨a1,a2⟩:=hgi h5
    refine tB (fun e=>h5 (by have:=mG.1 e;omega)) ?_
    have one:nP l i=false->pA yA.base (Wq yA F qC) (Jq yA F 23) (.heavy (eC yA 93 1 [(0,.str l[i].text)]) fun a=>.callv (.func (.func 50) [] [.ptr bx 0]) [a] fun _=>.jump 2 [v,.ptr bx 0,.func (.func 50) [] [.ptr bx 0],v,.int .i64 (l.length:Int),.int .i64 (iA .i64 ((i:Int)+1))]) t' Q:=by
     intro ho;refine write [l[i].text] 1 _ rfl rfl (fun m hm=>?_) (.inl rfl) (by rw[yaa h5,ho];simp)
     simp at hm;subst hm;exact⟨a1,a2⟩
    by_cases h0:0<i
    ·have hx2:l[i-1]?=some (l[i-1]'(by omega)):=ybd (by omega)
     have hd2:(l.map lB.d)[i-1]?=some (l[i-1]'(by omega)).d:=by rw[ybu,hx2];rfl
     obtain⟨b2,o2,cs2,k1,k2,k0,k4,k3⟩:=sl66.at (fun h=>by cases h) (hv.mono h.le) hd2
     have e2:=Ph k3
     subst e2;have ew2:iA .i64 ((i:Int)-1)=((i-1:Nat):Int):=by rw[iC (by omega) (by omega)];omega
     have ho:nP l i = !decide ((l[i-1]'(by omega)).kind=5):=by unfold nP bC;rw[hx2];simp[h0]
     have fld:nC yA 75 0 (.ptr b2 o2)=some (.ptr b2 o2):=by kernel_rfl
     have ld:lA yA 5 ⟨0,t'⟩ (.ptr b2 o2)=some (.int .u8 ((l[i-1]'(by omega)).kind:Int)):=by
      have:=k0.load1 (C:=yA) (j:=0) (ty:=5) ty5 rfl rfl
      rwa [yct]at this
     refine sA (by rw[mC];simp;omega) (oA (v:=.ptr b2 o2) (by show wC yA 66 v (.int .i64 (iA .i64 ((i:Int)-1)))=_;rw[ew2];exact k1) (oA fld (vC ld (sB ?_))))
     by_cases hp:(l[i-1]'(by omega)).kind=5
     ·refine tB ?_ (one (by rw[ho,hp];rfl))
      intro e;exact iR.1 e (by omega)
     ·refine sA (iR.2 (by omega)) ?_
      refine write [[32],l[i].text] 2 _ rfl rfl (fun m hm=>?_) (.inr rfl) (by rw[yaa h5,ho];simp[hp])
      simp at hm;rcases hm with rfl | rfl
      ·exact⟨by simp,fun x hx=>by simp at hx;omega⟩
      ·exact⟨a1,a2⟩
    ·refine tB (by rw[mC];simp;omega) (one ?_)
     have:i=0:=by omega
     subst this;rfl
 have:=loop l.length 0 t1 (by omega) (by simpa[aH]using hbx)
 exact this
end
end
end Go.Proofs
