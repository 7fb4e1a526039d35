/- The parser: definitions, keys, rows, clauses. -/
import Derived.Test.YtfmlbimokklmgaaGreatDoorD18
set_option linter.all false
noncomputable section
set_option maxRecDepth 100000
namespace Go.Proofs
open Go Go.Am
variable [yD]
def rdDef(tf:Tr uA)(x:aH)(v:zA):Prop:=∃cs,v=.agg cs/\RD tf x.d cs
def rdRow(tf:Tr uA)(x:zO)(v:zA):Prop:=∃cs,v=.agg cs/\RD tf x.d cs
def rdCl (tf:Tr uA)(x:dG)(v:zA):Prop:=∃cs,v=.agg cs/\RD tf x.d cs
def def_rd{t:Tr uA}(x:aH):RD t x.d [.str x.name,.int .u8 (x.kind:Int),.bool x.fact]:=
 vK.2 ⟨[[.str x.name],[.int .u8 (x.kind:Int)],[.bool x.fact]],rfl,rD.2 ⟨_,_,rfl,eL.2 rfl,rD.2 ⟨_,_,rfl,sL.2 rfl,rD.2 ⟨_,_,rfl,Bj.2 rfl,cF.2 rfl⟩⟩⟩⟩
def zfs{t:Tr uA}{a b k:Int}{f:mI}{cs:List zA}(h:RD t f.dd cs):RD t (zO.d ⟨a,b,k,f⟩) ([.int .i64 a,.int .i64 b,.int .i64 k]++cs):=
 vK.2 ⟨[[.int .i64 a],[.int .i64 b],[.int .i64 k],cs],by simp,rD.2 ⟨_,_,rfl,sL.2 rfl,rD.2 ⟨_,_,rfl,sL.2 rfl,rD.2 ⟨_,_,rfl,sL.2 rfl,rD.2 ⟨_,_,rfl,h,cF.2 rfl⟩⟩⟩⟩⟩
def NH{t:Tr uA}{a b:List Nat}{f u k:Int}{o:Bool}{x y:aA}{cx cy:List zA}(hx:RD t x.d cx)(hy:RD t y.d cy):RD t (dG.d ⟨a,b,f,u,k,o,x,y⟩) ([.str a,.str b,.int .i64 f,.int .i64 u,.int .i64 k,.bool o]++(cx++cy)):=
 vK.2 ⟨[[.str a],[.str b],[.int .i64 f],[.int .i64 u],[.int .i64 k],[.bool o],cx,cy],by simp,rD.2 ⟨_,_,rfl,eL.2 rfl,rD.2 ⟨_,_,rfl,eL.2 rfl,rD.2 ⟨_,_,rfl,sL.2 rfl,rD.2 ⟨_,_,rfl,sL.2 rfl,rD.2 ⟨_,_,rfl,sL.2 rfl,rD.2 ⟨_,_,rfl,Bj.2 rfl,rD.2 ⟨_,_,rfl,hx,rD.2 ⟨_,_,rfl,hy,cF.2 rfl⟩⟩⟩⟩⟩⟩⟩⟩⟩
def Tz{t:Tr uA}:RD t Bl.d zE:=Ic (op:=0) (name:=[]) (v:=tO) (args:=[]) yQ yQ yQ
section
variable {P:aI}{tf t:Tr uA}{n d:Nat}{Q E:jB}{J:qF}{o:PM aA}
def def_ok{fact:Bool}(h:St P tf t n d)(hk:Ok P rdDef d tf (Fv P.tk fact n) Q E):rJ yA F E 89 [.ptr P.bp 0,.bool fact] t Q:=by
 refine w89 _ _ ?_
 unfold t89;refine tB ?_
 rw[pE 58];unfold Fv at hk;refine Ez h (hk.bind fun w n1 tf1 t1 v hr hle hst hrd hk1=>?_)
 cases hrd;refine vF (tB ?_)
 rw[pE 110];refine NI (f:=Mo) (g:=111) (most:=6) (fun t hg i hi=>zjl hg hi) (by kernel_rfl) (by kernel_rfl) (by omega) hst (hk1.bind fun k n2 tf2 t2 v2 hr2 hle2 hst2 hrd2 hk2=>?_)
 cases hrd2;exact kB (rA rfl (rA rfl (Ok.now hk2 hst2 ⟨_,rfl,def_rd ⟨w,k,fact⟩⟩)))
def zf2(h:St P tf t n d)(hk:Ok P rdInt d tf (Ij P.tk n) Q E):rJ yA F E 112 [.ptr P.bp 0] t Q:=by
 refine w112 _ ?_
 unfold t112;refine tB ?_
 rw[pW 72];refine Dl h fun t1 h1=>vE (tB ?_)
 unfold Ij at hk;generalize acc P.tk cL n=neg at hk h1
 change St P tf t1 (if neg=true then n+1 else n) d at h1
 generalize (if neg=true then n+1 else n)=m at hk h1
 rw[pQ 71,Hv h1,iA];refine dC (mQ _) (rA rfl ?_)
 have hkd:iE P.tk 2 m=decide ((yG P m).kind=2):=Mn (by omega)
 have htx:iH P.tk m=(yG P m).text:=Ut
 dsimp only at hk
 cases h2:decide ((yG P m).kind=2)with
 | false=>
  have h2':¬ (yG P m).kind=2:=of_decide_eq_false h2
  rw[hkd,h2]at hk;simp only[ycl,Bool.true_or,if_true]at hk;refine rA ?_ (tB (Ok.fail h1 hk))
  show(!wC ((yG P m).kind:Int) 2)=true
  rw[oF,decide_eq_false (by omega)];rfl
 | true=>
  have h2':(yG P m).kind=2:=of_decide_eq_true h2
  have hnum:nS (yG P m).text:=by
   have:=h1.num (n:=m) (by rw[hkd,h2])
   rwa [htx]at this
  refine oB ?_ ?_
  ·show ¬ (!wC ((yG P m).kind:Int) 2)=true
   rw[oF,decide_eq_true (by omega)];simp
  refine tB ?_
  show gE yA F rC zF E 66 [.str (yG P m).text,.str [47]] t1 _
  rw[pQ 66,AX (by have:=hnum.1;omega),iA,MS]
  refine vE ?_
  rw[hkd,htx,h2]at hk;simp only[Bool.not_true,Bool.false_or]at hk
  cases hs:eJ (yG P m).text with
  | true=>
   rw[hs,yab rfl]at hk;exact rA rfl (tB (Ok.fail h1 hk))
  | false=>
   rw[hs,yaa (by simp)]at hk
   refine oB (by simp) (zD (zjw _ _ _ _ _ _ ?_))
   unfold DM;obtain⟨i,hi,hj⟩:=Aa.int (s:=(yG P m).text) (neg:=neg) (lo := -2147483648) (hi:=2147483647) (t:=t1) hnum hs (by omega) (by omega)
   refine tB ?_
   show gE yA F rC zF E 102 [.str (yG P m).text,.bool neg,.int .i64 (-2147483648),.int .i64 2147483647] t1 _
   rw[pQ 102,hi,iA];refine mA rfl (kB (mA rfl (vE ?_)))
   cases hv:lP (yG P m).text neg (-2147483648) 2147483647 with
   | none=>
    rw[hv]at hk;exact rA rfl (tB (Ok.fail h1 hk))
   | some j=>
    rw[hv]at hk;have:=hj j hv
    subst this;refine oB (by simp) (zD (zjv _ _ ?_))
    unfold DL;have hlt:m<P.tk.length:=by
     rw[<- hkd]at h2;unfold iE at h2
     cases hx:P.tk[m]? with
     | none=>rw[hx]at h2;cases h2
     | some x=>exact(ybc.1 hx).1
    have hlen:=h1.len
    refine mA nl (mA f1 (vC h1.l1 (kB (mA nl (mA f1 (bC fun b _ _=>?_))))))
    obtain⟨t3,k1,k2⟩:=h1.set1 (n':=m+1) (by omega)
    have e:bA .i64 ((m:Int)+1)=((m+1:Nat):Int):=by rw[aC (by omega) (by omega)];rfl
    rw[e];exact⟨_,_,k1 b,Ok.now hk k2 rfl⟩
def row_ok{two:Bool}(h:St P tf t n d)(hk:Ok P rdRow d tf (Hg P.tk two n) Q E):rJ yA F E 90 [.ptr P.bp 0,.bool two] t Q:=by
 refine w90 _ _ ?_
 unfold t90;refine tB ?_
 rw[pE 112];unfold Hg at hk;have tail:∀(a b:Int) (z0 z1 z2:Int) (n2:Nat) (tf2 t2:Tr uA),St P tf2 t2 n2 d->Ok P rdRow d tf2 ((xE P.tk Gt n2).bind fun _ n3=>(rN P.tk n3).bind fun d n4=>(xE P.tk wIs n4).bind fun _ n5=>
   (fun(neg:Bool)=>(tG P.tk 2 (if neg then n5+1 else n5)).bind fun s n6=>.ok ⟨a,b,d,tJ s neg⟩ n6) (acc P.tk cL n5)) Q E →
   lH E 90 11 [.ptr P.bp 0,.int .i64 z0,.int .i64 z1,.int .i64 z2,.bool false,.nilslice,.bool false,.nilslice,.int .i64 a,.int .i64 b,.int .i64 0,.bool false,.nilslice,.bool false,.nilslice] t2 Q:=by
  intro a b z0 z1 z2 n2 tf2 t2 h2 hk2;refine j90_11 _ _ _ _ _ _ _ _ _ _ _ _ _ _ _ ?_
  unfold ze8;refine Av h2 hk2 fun n3 tf3 t3 hle3 hst3 hk3=>?_
  refine tB ?_
  rw[pE 73];refine Nn Aa hst3 (hk3.bind fun dd n4 tf4 t4 v4 hr4 hle4 hst4 hrd4 hk4=>?_)
  cases hrd4;refine kB (rA rfl (Av hst4 hk4 fun n5 tf5 t5 hle5 hst5 hk5=>?_))
  refine tB ?_
  rw[pW 72];refine Dl hst5 fun t6 h6=>vE (tB ?_)
  dsimp only at hk5
  generalize acc P.tk cL n5=neg at hk5 h6
  change St P tf5 t6 (if neg=true then n5+1 else n5) d at h6
  rw[pE 59];refine Bw (k:=2) (by omega) h6 (hk5.bind fun s n7 tf7 t7 v7 hr7 hle7 hst7 hrd7 hk7=>?_)
  obtain⟨x,_,e,rfl⟩:=hrd7
  obtain⟨g1,g2,_⟩:=Pl hr7
  have hn:=h6.num g1
  rw[<- g2]at hn;subst e;refine dC (mQ _) (Zr Aa hst7 hn fun tf8 t8 cs k1 k2 k3=>?_)
  obtain⟨u,v,rfl,hz,_⟩:=Zs k3
  refine dC hz (rA k3.all (rA (zfs (a:=a) (b:=b) (k:=dd) k3).all ?_))
  exact Ok.now (Ok.mono hk7 k1) k2 ⟨_,rfl,zfs k3⟩
 refine zf2 h (hk.bind fun a n1 tf1 t1 v hr hle hst hrd hk1=>?_)
 cases hrd;refine kB (rA rfl ?_)
 cases two with
 | true=>
  rw[yab rfl]at hk1;refine rA rfl (tB ?_)
  rw[pE 112];refine zf2 hst (hk1.bind fun b n2 tf2 t2 v2 hr2 hle2 hst2 hrd2 hk2=>?_)
  cases hrd2;exact kB (rA rfl (zD (tail a b 0 0 0 n2 tf2 t2 hst2 hk2)))
 | false=>
  rw[yaa (by simp)]at hk1
  exact oB (by simp) (zD (tail a 0 0 0 0 n1 tf1 t1 hst hk1))
def za5(h:St P tf t n 0)(hk:Ok P rdCl 0 tf (jY P.tk n) Q E):rJ yA F E 91 [.ptr P.bp 0] t Q:=by
 refine w91 _ ?_
 unfold t91;refine rA rfl (rA rfl (tB ?_))
 rw[pE 58];unfold jY at hk;refine Ez h (hk.bind fun a n1 tf1 t1 v1 hr1 hle1 hst1 hrd1 hk1=>?_)
 cases hrd1;refine vF (rA rfl (tB ?_))
 rw[pE 58];refine Ez hst1 (hk1.bind fun b n2 tf2 t2 v2 hr2 hle2 hst2 hrd2 hk2=>?_)
 cases hrd2;refine vF (rA rfl (Av hst2 hk2 fun n3 tf3 t3 hle3 hst3 hk3=>tB ?_))
 rw[pE 73];refine Nn Aa hst3 (hk3.bind fun f n4 tf4 t4 v4 hr4 hle4 hst4 hrd4 hk4=>?_)
 cases hrd4;refine kB (rA rfl (Av hst4 hk4 fun n5 tf5 t5 hle5 hst5 hk5=>tB ?_))
 rw[pW 72];have tail:∀(u:Int) (n6:Nat) (tf6 t6:Tr uA),St P tf6 t6 n6 0->Ok P rdCl 0 tf6 ((xE P.tk Gt n6).bind fun _ n7=>(rN P.tk n7).bind fun k n8=>
   if acc P.tk wOff n8 then .ok ⟨a,b,f,u,k,true,Bl,Bl⟩ (n8+1)else
   (xE P.tk zhk n8).bind fun _ n9=>(tN P.tk n9).bind fun x n10=>(xE P.tk iK n10).bind fun _ n11=>(tN P.tk n11).bind fun y n12=>.ok ⟨a,b,f,u,k,false,x,y⟩ n12) Q E →
   lH E 91 19 ([.ptr P.bp 0]++([.str [],.str [],.int .i64 0,.int .i64 0,.int .i64 0,.bool false]++(zE++zE))++([.str a,.str b,.int .i64 f,.int .i64 u,.int .i64 0,.bool false]++(zE++zE))) t6 Q:=by
  intro u n6 tf6 t6 h6 hk6;refine j91_19 _ _ _ _ _ _ _ _ _ _ _ _ _ _ _ _ _ _ _ _ _ _ _ _ _ _ _ _ _ _ _ _ _ _ _ _ _ _ _ _ _ _ _ _ _ _ _ _ _ ?_
  unfold ze7;refine Av h6 hk6 fun n7 tf7 t7 hle7 hst7 hk7=>tB ?_
  rw[pE 73];refine Nn Aa hst7 (hk7.bind fun k n8 tf8 t8 v8 hr8 hle8 hst8 hrd8 hk8=>?_)
  cases hrd8;refine kB (rA rfl (gP hst8 (fun ha t9 h9=>?_) fun ha t9 h9=>?_))
  ·rw[ha,yab rfl]at hk8
   have hrd:=NH (t:=tf8) (a:=a) (b:=b) (f:=f) (u:=u) (k:=k) (o:=true) (Tz (t:=tf8)) (Tz (t:=tf8))
   exact rA rfl (rA hrd.all (Ok.now hk8 h9 ⟨_,rfl,hrd⟩))
  ·rw[ha,yaa (by simp)]at hk8
   refine Av h9 hk8 fun n9 tf9 t9' hle9 hst9 hk9=>tB ?_
   rw[pE 42];refine AD Aa _ _ _ _ _ hst9 (hk9.bind fun x n10 tf10 t10 v10 hr10 hle10 hst10 hrd10 hk10=>?_)
   obtain⟨cx,rfl,hx⟩:=hrd10
   refine dC (oN hx) ?_
   have ex:[zA.int .u8 ((cellsOf cx).i 0),.str ((cellsOf cx).s 1),.int .u8 ((cellsOf cx).i 2),.bool ((cellsOf cx).b 3),(cellsOf cx).v 4,.bool ((cellsOf cx).b 5),(cellsOf cx).v 6,.int .i64 ((cellsOf cx).i 7),(cellsOf cx).v 8]=cx:=Gb hx
   refine rA (by rw[ex];obtain⟨a,b,c,rfl,_⟩:=wJ hx;exact hx.all) ?_
   refine Av hst10 hk10 fun n11 tf11 t11 hle11 hst11 hk11=>tB ?_
   rw[pE 42];refine AD Aa _ _ _ _ _ hst11 (hk11.bind fun y n12 tf12 t12 v12 hr12 hle12 hst12 hrd12 hk12=>?_)
   obtain⟨cy,rfl,hy⟩:=hrd12
   refine dC (oN hy) ?_
   have ey:[zA.int .u8 ((cellsOf cy).i 0),.str ((cellsOf cy).s 1),.int .u8 ((cellsOf cy).i 2),.bool ((cellsOf cy).b 3),(cellsOf cy).v 4,.bool ((cellsOf cy).b 5),(cellsOf cy).v 6,.int .i64 ((cellsOf cy).i 7),(cellsOf cy).v 8]=cy:=Gb hy
   refine rA (by rw[ey];obtain⟨a,b,c,rfl,_⟩:=wJ hy;exact hy.all) ?_
   have hrd:=NH (t:=tf12) (a:=a) (b:=b) (f:=f) (u:=u) (k:=k) (o:=false) (hx.mono (hle11.trans hle12)) hy
   have exy:[zA.str a,.str b,.int .i64 f,.int .i64 u,.int .i64 k,.bool false,.int .u8 ((cellsOf cx).i 0),.str ((cellsOf cx).s 1),.int .u8 ((cellsOf cx).i 2),.bool ((cellsOf cx).b 3),(cellsOf cx).v 4,.bool ((cellsOf cx).b 5),(cellsOf cx).v 6,.int .i64 ((cellsOf cx).i 7),(cellsOf cx).v 8,.int .u8 ((cellsOf cy).i 0),.str ((cellsOf cy).s 1),.int .u8 ((cellsOf cy).i 2),.bool ((cellsOf cy).b 3),(cellsOf cy).v 4,.bool ((cellsOf cy).b 5),(cellsOf cy).v 6,.int .i64 ((cellsOf cy).i 7),(cellsOf cy).v 8]=[.str a,.str b,.int .i64 f,.int .i64 u,.int .i64 k,.bool false]++(cx++cy):=by
    rw[<- ex,<- ey];rfl
   rw[exy];exact rA hrd.all (Ok.now hk12 hst12 ⟨_,rfl,hrd⟩)
 refine Dl hst5 fun t6 h6=>vE ?_
 cases ha:acc P.tk wEnd n5 with
 | true=>
  rw[ha,yab rfl]at hk5;rw[ha,yab rfl]at h6;exact oB (by simp) (zD (tail 65536 (n5+1) tf5 t6 h6 hk5))
 | false=>
  rw[ha,yaa (by simp)]at hk5
  rw[ha,yaa (by simp)]at h6
  refine rA rfl (tB ?_)
  rw[pE 73];refine Nn Aa h6 (hk5.bind fun u n6 tf6 t7 v6 hr6 hle6 hst6 hrd6 hk6=>?_)
  cases hrd6;exact kB (rA rfl (zD (tail u n6 tf6 t7 hst6 hk6)))
end
end Go.Proofs
namespace Go.Am
open Go Go.RowKit
variable {sz:Nat}{cl:List (List zA)}{v:zA}{cd:Lo}
section
variable {t tf:Tr uA}{C:cA}{base:Nat}
def LK (cd:Lo)(base:Nat)(t:Tr uA)(sz:Nat)(cl:List (List zA))(v:zA):Prop:=
 (v=.nilslice/\cl=[])\/∃b c,v=.slice b 0 cl.length cl.length/\base<=b/\t.get b=some (.cells c (cl.length*sz) (some cd)) ∧
  ∀(i:Nat) cs,cl[i]?=some cs->cs.length=sz/\∀(j:Nat) a,cs[j]?=some a->c.get (i*sz+j)=some a
def ZR{T el:Nat}(hT:gQ C T el sz){cm:List (List zA)}{x:zA}(hv:LK (.sz sz) C.base t sz cl v)(hx:eN t sz x cm)(hone:∀a∈cm.flatten,zA.one a=true)(hpos:0<cm.length)(hl:cl.length+cm.length<400000){n:Nat}(hn:t.get n=none)(hbase:C.base<=n) :
  ∃t',vH C T T v x ⟨n,t⟩=some (.slice n 0 (cl.length+cm.length) (cl.length+cm.length),⟨n+1,t'⟩)/\LK (.sz sz) C.base t' sz (cl++cm) (.slice n 0 (cl.length+cm.length) (cl.length+cm.length))/\(∀c,c≠n->¬ wN v c->t'.get c=t.get c):=by
 obtain⟨⟨y,hy1,hy2,hy3⟩,⟨z,hz1,hz2,hz3,hz4,hz5⟩,hnb⟩:=hT
 have hcode:qN el z=.sz sz:=by rw[NB.code hnb hz1,hz2]
 have hall:=hx.len
 obtain⟨hf,hlen⟩:=hx.first (n:=n)
 have hflat:=Ao hall
 have hfl:wB cm.flatten=cm.length*sz:=by rw[jD];exact hflat
 have base:vH C T T v x ⟨n,t⟩=(match v.asSlice with
  | some s=>bif Nat.ble (s.2.2.1+cm.length) s.2.2.2 then mY C ⟨n,t⟩ z cm.length cm.flatten s else yX C ⟨n,t⟩ el z cm.length cm.flatten s
  | none=>sB (Nat.beq v.tag 5) (cT ⟨n,t⟩ el z cm.length cm.flatten)):=by
  unfold vH lX;rw[hy1,oA,oA,hy3];simp only[ycl,lE];rw[hy2,oA,hz1,oA,hlen,oA,hz2,hf,oA];rfl
 have ok:uV z cl.length cl.length cm.length cm.flatten=true:=by
  unfold uV;have h1:Nat.blt (cl.length+cm.length+cl.length) 1000000000=true:=kC.2 (by omega)
  have h2:Nat.blt ((cl.length+cm.length+cl.length)*z.bytes) 1000000000=true:=kC.2 (by
   have:=ydb (show cl.length+cm.length+cl.length<=800000 by omega) hz4
   omega)
  have h3:Nat.blt z.bytes 1000000000=true:=kC.2 (by omega)
  have h4:(!Nat.beq z.size 0)=true:=by
   cases hq:Nat.beq z.size 0 with
   | true=>have:=eC.1 hq;omega
   | false=>rfl
  have h5:Nat.beq (wB cm.flatten) (cm.length*z.size)=true:=by rw[hfl,hz2];exact eC.2 rfl
  have h6:Nat.beq (wB z.zero) z.size=true:=by rw[hz3,hz2];exact eC.2 rfl
  rw[h1,h2,h3,h4,h5,h6];rfl
 rcases hv with⟨rfl,rfl⟩ | ⟨b,c,rfl,hb0,hb2,hb3⟩
 ·refine⟨t.set n (.cells (Tr.ofList cm.flatten) (wB cm.flatten) (some (.sz sz))),?_,.inr ⟨n,Tr.ofList cm.flatten,by simp,hbase,?_,fun i cs hi=>⟨hall i cs hi,fun j a hj=>?_⟩⟩,fun c hc _=>(oO hn _).2 c hc⟩
  ·rw[base]
   simp only[zA.asSlice];show sB true (cT ⟨n,t⟩ el z cm.length cm.flatten)=_
   rw[lE];unfold cT;have:Nat.beq cm.length 0=false:=by
    cases hq:Nat.beq cm.length 0 with
    | true=>have:=eC.1 hq;omega
    | false=>rfl
   have ok:uV z 0 0 cm.length cm.flatten=true:=ok
   rw[this,cond_false,ok,lE,hcode];simp only[ybx,ybw];rfl
  ·rw[Tr.get_set,yab rfl,hfl];simp
  ·rw[Tr.get_ofList];exact tV hall i j cs a hi hj
 ·have hbn:b≠n:=by intro e;rw[e,hn]at hb2;cases hb2
  refine⟨(t.del b).set n (.cells (c.setMany cm.flatten (cl.length*z.size)) ((cl.length+cm.length)*z.size) (some (.sz sz))),?_,.inr ⟨n,c.setMany cm.flatten (cl.length*z.size),by simp,hbase,?_,fun i cs hi=>?_⟩,fun k hk1 hk2=>?_⟩
  ·rw[base]
   simp only[zA.asSlice];have:Nat.ble (cl.length+cm.length) cl.length=false:=by
    cases hq:Nat.ble (cl.length+cm.length) cl.length with
    | true=>have:=kE.1 hq;omega
    | false=>rfl
   rw[this,cond_false];unfold yX;simp only[];rw[show ∀x,(!(Nat.beq 0 1&&x))=true from fun _=>rfl,lE,ok,lE]
   unfold dD;rw[hb2,oA];simp only[uA.asCells,oA];unfold Fl;simp only[];have g1:loEq (.sz sz) (qN el z)=true:=by rw[hcode];exact Yi.2 rfl
   have g2:Nat.ble (cl.length*z.size) (cl.length*sz)=true:=kE.2 (by rw[hz2];exact ybk _)
   have g3:Nat.ble (cl.length*sz) ((cl.length+cm.length)*z.size)=true:=kE.2 (by rw[hz2];exact ybi _ (by omega))
   have g4:zC zA.one cm.flatten=true:=by rw[fI];exact ycb.2 hone
   have g5:(!Nat.blt b C.base)=true:=by
    cases hq:Nat.blt b C.base with
    | true=>have:=kC.1 hq;omega
    | false=>rfl
   rw[g1,g2,g3,g4,g5];simp only[hz2];rfl
  ·rw[Tr.get_set,yab rfl,hz2,ybg]
  ·rw[List.getElem?_append]at hi
   split at hi
   ·rename_i hlt
    obtain⟨k1,k2⟩:=hb3 i cs hi
    refine⟨k1,fun j a hj=>?_⟩
    have hjl:j<sz:=by rw[<- k1];exact(ybc.1 hj).1
    have:i*sz+j<cl.length*sz:=by
     have:=ybi sz (show i+1<=cl.length by omega)
     rw[ybo]at this;omega
    rw[Tr.get_setMany,hz2,yaa (by omega)]
    exact k2 j a hj
   ·rename_i hge
    have k1:=hall _ cs hi
    refine⟨k1,fun j a hj=>?_⟩
    have hf1:=tV hall _ j cs a hi hj
    have hlt:=(ybc.1 hf1).1
    have e:i*sz=cl.length*sz+(i-cl.length)*sz:=by rw[<- ybo];congr 1;omega
    rw[Tr.get_setMany,hz2,yab (by omega),show i*sz+j-cl.length*sz=(i-cl.length)*sz+j by omega]
    exact hf1
  ·rw[Tr.get_set,yaa hk1,Tr.get_del,yaa (fun e=>hk2 (Cv.2 e))]
theorem LK.off    (h:LK cd base t sz cl v){t':Tr uA}(hk:∀k∈cI v,t'.get k=t.get k):LK cd base t' sz cl v:=by
 rcases h with h | ⟨b,c,rfl,h1,h2,h3⟩
 ·exact .inl h
 ·exact .inr ⟨b,c,rfl,h1,by rw[hk b (by simp[cI])];exact h2,h3⟩
theorem LK.live    (h:LK cd base t sz cl v):∀k∈cI v,∃y,t.get k=some y:=by
 intro k hk;rcases h with⟨rfl,_⟩ | ⟨b,c,rfl,h1,h2,h3⟩
 ·cases hk
 ·have:k=b:=by simpa[cI]using hk
  subst this;exact⟨_,h2⟩
end
end Go.Am
namespace Go.Proofs
open Go Go.Am
variable {b el j sz:Nat}{cl:List (List zA)}{cs:List zA}{v:zA}
variable [yD]
def oI (base sz:Nat)(cl:List (List zA))(v:zA):aE where
 blks:=cI v
 ok:=fun _ t=>LK (.sz sz) base t sz cl v
 keep:=fun h _ k=>h.off fun b hb=>(k b hb).1
 live:=fun h k hk=>h.live k hk
section
variable {base:Nat}{tf t:Tr uA}{C:cA}{A B:List aE}
theorem zB.appendK{T n:Nat}  {x:zA}(hT:gQ C T el sz)(h:zB C.base tf t (A++oI C.base sz cl v::B))(hx:eN t sz x [cs])(hone:∀a∈cs,zA.one a=true)(hl:cl.length+1<400000)(hn:t.get n=none)(hbase:C.base<=n) :
  ∃t' v',vH C T T v x ⟨n,t⟩=some (v',⟨n+1,t'⟩)/\zB C.base tf t' (A++oI C.base sz (cl++[cs]) v'::B)/\zA.one v'=true/\v'.cells=[v']:=by
 have hv:LK (.sz sz) C.base t sz cl v:=h.ok (oI C.base sz cl v) (by simp)
 obtain⟨t',k1,k2,k3⟩:=ZR hT hv hx (by simpa using hone) (by simp) (by simpa using hl) hn hbase
 refine⟨t',_,k1,zB.upd (o:=oI C.base sz cl v) h (fun k h1 h2=>k3 k ?_ (fun e=>h1 (Fc.2 e))) (fun k hk=>?_) k2 (by simp[oI,cI]) (fun k u hu=>?_),rfl,rfl⟩
 ·grind [oI,cI]
 ·grind [oI,cI]
 ·have hvk:∀k∈cI v,tf.get k=none:=fun k hk=>(h.low k (by simp[oI,hk])).2
  have e1:k≠n:=fun e=>by rw[e,h.tfn hn]at hu;cases hu
  have e2:¬ wN v k:=fun e=>by rw[hvk k (Fc.2 e)]at hu;cases hu
  rw[k3 k e1 e2];exact h.tle _ _ hu
def LK.idx{T i:Nat}{agg:Bool}   (hT:nJ C T el sz agg)(h:LK (.sz sz) base t sz cl v)(hi:cl[i]?=some cs) :
  ∃b,v=.slice b 0 cl.length cl.length/\mC C T v (.int .i64 (i:Int))=some (.ptr b (i*sz))/\At t b (i*sz) cs:=by
 rcases h with⟨rfl,rfl⟩ | ⟨b,c,rfl,h1,h2,h3⟩
 ·simp at hi
 ·have:=Bn (off:=0) (n:=cl.length) (cap:=cl.length) (b:=b) hT (ybc.1 hi).1
  rw[ybw]at this;exact⟨b,rfl,this,_,_,_,h2,(h3 i cs hi).2⟩
theorem zB.cellsK{n:Nat} (h:zB base tf t (A++oI base sz cl (.slice b 0 n n)::B)) :
  n=cl.length/\(∀(i:Nat) cs,cl[i]?=some cs->cs.length=sz)/\zB base tf t (A++xC b (some (.sz sz)) cl.flatten::B):=by
 have hv:LK (.sz sz) base t sz cl (.slice b 0 n n):=h.ok (oI base sz cl (.slice b 0 n n)) (by simp)
 rcases hv with⟨hv,_⟩ | ⟨b',c,hv,h1,h2,h3⟩
 ·cases hv
 ·cases hv
  have hall:∀(i:Nat) cs,cl[i]?=some cs->cs.length=sz:=fun i cs hi=>(h3 i cs hi).1
  refine⟨rfl,hall,zB.upd (o:=oI base sz cl (.slice b 0 cl.length cl.length)) (o':=xC b (some (.sz sz)) cl.flatten) h (fun _ _ _=>rfl) (fun k hk=>.inl ?_) ?_ (by simp[xC]) h.tle⟩
  ·grind [xC,oI,cI]
  ·refine⟨c,by rw[h2,Ao hall],fun j a hj=>?_⟩
   have hf:=Ao hall
   have hj':=(ybc.1 hj).1
   have hsz:0<sz:=by
    rcases yav sz with e | e
    ·subst e;simp at hf;simp[hf]at hj'
    ·exact e
   have hi:j / sz<cl.length:=by rw[Nat.div_lt_iff_lt_mul hsz];omega
   obtain⟨k1,k2⟩:=h3 (j / sz) cl[j / sz] (ybd hi)
   have hm:=ycy j hsz
   have hg:=tV hall (j / sz) (j%sz) cl[j / sz] cl[j / sz][j%sz] (ybd hi) (ybd (by omega))
   have e:j / sz*sz+j%sz=j:=by rw[ybh];exact ych j sz
   rw[e]at hg;rw[hg]at hj
   cases hj;have:=k2 (j%sz) _ (ybd (by omega))
   rwa [e]at this
theorem zB.listK  (hall:∀(i:Nat) cs,cl[i]?=some cs->cs.length=sz)(h:zB base tf t (A++xC b (some (.sz sz)) cl.flatten::B)) :
  zB base tf t (A++oI base sz cl (.slice b 0 cl.length cl.length)::B):=by
 obtain⟨c,h2,h3⟩:vD t b (some (.sz sz)) cl.flatten:=h.ok (xC b (some (.sz sz)) cl.flatten) (by simp)
 have hlow:=h.low b (by simp[xC])
 refine zB.upd (o:=xC b (some (.sz sz)) cl.flatten) (o':=oI base sz cl (.slice b 0 cl.length cl.length)) h (fun _ _ _=>rfl) (fun k hk=>.inl ?_) (.inr ⟨b,c,rfl,hlow.1,by rw[h2,Ao hall],fun i cs hi=>⟨hall i cs hi,fun j a hj=>h3 _ _ (tV hall i j cs a hi hj)⟩⟩) (by simp[oI,cI]) h.tle
 grind [xC,oI,cI]
end
def el23:gQ yA 23 77 3:=⟨⟨_,ty23,rfl,rfl⟩,⟨_,ty77,rfl,rfl,by decide,by decide⟩,fun y h=>by rw[ty77]at h;cases h;rfl⟩
def el24:gQ yA 24 130 3:=⟨⟨_,Gx,rfl,rfl⟩,⟨_,zhu,rfl,rfl,by decide,by decide⟩,fun y h=>by rw[zhu]at h;cases h;rfl⟩
def el25:gQ yA 25 72 24:=⟨⟨_,ty25,rfl,rfl⟩,⟨_,ty72,rfl,rfl,by decide,by decide⟩,fun y h=>by rw[ty72]at h;cases h;rfl⟩
def el128:gQ yA 128 155 7:=⟨⟨_,Pd,rfl,rfl⟩,⟨_,ty155,rfl,rfl,by decide,by decide⟩,fun y h=>by rw[ty155]at h;cases h;rfl⟩
section
variable {P:aI}{tf t:Tr uA}{n d:Nat}{Q E:jB}{J W:qF}
def St.dropL:∀ {X:List aE},St (P.wL (X++P.L)) tf t n d->St P tf t n d:=by
 intro X h;refine⟨h.ts,?_,h.len,h.le,h.good,h.glob⟩
 have:=h.ob
 change zB yA.base tf t (jG P n d::(X++P.L))at this
 clear h
 induction X with
 | nil=>exact this
 | cons x X ih=>exact ih (zB.drop (A:=[jG P n d]) (o:=x) this)
def Ht(S:Nat)(pv:zA)(g:zA->Option zA)(ad v:zA)(cs:List zA):T:=
 .heavy (xD yA S 1 [(0,.agg cs)]) fun a13=>.light (fun m=>fA yA S ⟨0,m⟩ ad) fun a14=>.ite (same 10 a14 v) (.heavy (vH yA S S v a13) fun a15=>
  .opt (kF pv) fun a16=>.opt (g a16) fun a17=>.heavy (bB yA S a17 a15) fun _=>.ret (.tup [])) .fail
def GM   (h:j<cs.length):fJ cs j [v]=cs.set j v:=by
 refine List.ext_getElem? fun k=>?_
 rw[Ev (by show j+1<=cs.length;omega),ycw]
 show(if j<=k/\k<j+1 then [v][k-j]? else _)=_
 split
 ·have:k=j:=by omega
  subst this;simp[h]
 ·rw[yaa (by omega)]
def GS{T:Nat} {t:Tr uA}(hT:gQ yA T el sz)(hcs:cs.length=sz)(hs:sz<1000)(hb:t.get b=none):∃t',xD yA T 1 [(0,.agg cs)] ⟨b,t⟩=some (.slice b 0 1 1,⟨b+1,t'⟩)/\eN t' sz (.slice b 0 1 1) [cs]/\yB t t'/\rG b t t':=by
 obtain⟨⟨y,hy1,hy2,_⟩,⟨z,hz1,hz2,hz3,_⟩,_⟩:=hT
 exact Ff (n:=1) hy1 hy2 hz1 hz2 hz3 (by omega) ((Fq (sz:=sz) (z:=z.zero) (v:=.agg cs) (by rw[<- jD,hz3]) hcs).trans (by show some cs=_;simp)) (Ew hcs) rfl hb
theorem FU{T pb:Nat}{y:eD}{A0 A B:List aE}{l:List D}{dd:D}{pc:List zA}{pv:zA}{g:zA->Option zA}{lo:Option Lo}(hT:gQ yA T el sz)(hy:yA.tys.get T=some y)(ha:y.desc.isAgg=false)(hs1:y.size=1)(hcs:cs.length=sz)(hs:sz<1000)
  (hpv:kF pv=some pv) (hg:g pv=some (.ptr pb j))
  (h:zB yA.base tf t (A0++xC pb lo pc::(A++pD yA.base sz l v::B))) (hj:pc[j]?=some v) (hrd:RD tf dd cs) (hl:l.length+1<400000)
  (hQ:∀t' v',zB yA.base tf t' (A0++xC pb lo (pc.set j v')::(A++pD yA.base sz (l++[dd]) v'::B))->Q (.tup []) t') :
  qA yA.base W J (Ht T pv g (.ptr pb j) v cs) t Q:=by
 refine bC fun b hb hbase=>?_
 obtain⟨t1,h1,h2,h3,h4⟩:=GS hT hcs hs hb
 have o1:=h.junk hb h4
 have hc:vD t1 pb lo pc:=o1.cel
 have e:∀(o o':aE),A0++o::(A++o'::B)=(A0++o::A)++o'::B:=fun o o'=>by simp
 rw[e]at o1;have hv:fR yA.base tf t1 sz l v:=o1.ok (pD yA.base sz l v) (by simp)
 refine⟨_,_,h1,vC (hc.load1 hy ha hj) (rA hv.same (bC fun b2 hb2 hbase2=>?_))⟩
 obtain⟨t2,k1,k2,k3,k4⟩:=OI hT (m:=[dd]) hv h2 (rD.2 ⟨cs,[],rfl,hrd,cF.2 rfl⟩) (by
  have:=hrd.all
  rw[fI,ycb]at this;simpa using this) (by simp) (by simpa using hl) hb2 hbase2 o1.tle
 refine⟨_,_,k1,mA hpv (mA hg (bC fun b3 _ _=>?_))⟩
 have o2:zB yA.base tf t2 ((A0++xC pb lo pc::A)++pD yA.base sz (l++[dd]) (.slice b2 0 (l.length+[dd].length) (l.length+[dd].length))::B):=by
  refine zB.upd (o:=pD yA.base sz l v) o1 (fun k h1 h2=>k4 k ?_ (fun e=>h1 (Fc.2 e))) (fun k hk=>?_) k2 (by simp[pD,cI]) k3
  all_goals grind [pD,cI]
 rw[<- e]at o2;have hjl:=(ybc.1 hj).1
 obtain⟨t3,m1,m2⟩:=zB.setCel (j:=j) (v:=.slice b2 0 (l.length+[dd].length) (l.length+[dd].length)) o2 hy (by rw[hs1];rfl) (by
  show j+1<=pc.length
  omega) rfl
 refine⟨_,_,m1 b3,?_⟩
 have e2:fJ pc j (zA.cells (.slice b2 0 (l.length+[dd].length) (l.length+[dd].length)))=pc.set j (.slice b2 0 (l.length+[dd].length) (l.length+[dd].length)):=GM hjl
 rw[e2]at m2;exact hQ t3 _ m2
end
end Go.Proofs
namespace Go.Proofs
open Go Go.Am
section
variable {tf':Tr uA}{tcl:List (List zA)}{R:List D}{rv:zA}{X:List aE}{α:Type}{w:List Nat}{K:zA->T}{Q':jB}{b:Nat}
variable [yD]
section
variable {tk:List cB}
def UL:∀k,Up (nH tk k):=by
 intro k;induction k with
 | zero=>intro n a n' h;cases h
 | succ k ih=>exact KL ih
def LV:Up (tN tk):=LW (UL 101)
def Nm{f:Bool}:Up (Fv tk f):=sF Fa fun _=>sF (NJ _ _) fun _=>yM
def JQ:Up (Ij tk):=by
 intro n a n' h;unfold Ij at h;have key:∀m,n<=m->(if (!iE tk 2 m||eJ (iH tk m))=true then(.er 120 m:PR Int)else match lP (iH tk m) (acc tk cL n) (-2147483648) 2147483647 with | none=>.er 121 m | some i=>.ok i (m+1))=.ok a n'->n<=n':=by
  intro m hm h;split at h
  ·cases h
  ·split at h<;>cases h
   omega
 refine key _ ?_ h
 split<;>omega
def Ww{two:Bool}:Up (Hg tk two):=by
 have hr:∀a b d,Up (fun n5=>(fun(neg:Bool)=>(tG tk 2 (if neg then n5+1 else n5)).bind fun s n6=>(.ok (⟨a,b,d,tJ s neg⟩:zO) n6:PR zO)) (acc tk cL n5)):=by
  intro a b d n x n' h;obtain⟨s,n1,e1,e2⟩:=PR.bind_ok h
  have:=Pk _ _ _ e1
  cases e2
  split at this<;>omega
 refine sF JQ fun a=>?_
 cases two with
 | true=>exact sF JQ fun b=>sF kO fun _=>sF Iy fun d=>sF kO fun _=>hr a b d
 | false=>exact sF yM fun b=>sF kO fun _=>sF Iy fun d=>sF kO fun _=>hr a b d
def AY:Up (jY tk):=by
 refine sF Fa fun a=>sF Fa fun b=>sF kO fun _=>sF Iy fun f=>sF kO fun _=>?_
 have h1:Up (fun n5=>(if acc tk wEnd n5 then .ok 65536 (n5+1)else rN tk n5:PR Int)):=by
  intro n a n' h;dsimp only at h
  split at h
  ·cases h;omega
  ·exact Iy _ _ _ h
 refine sF h1 fun u=>sF kO fun _=>sF Iy fun k=>?_
 intro n x n' h;dsimp only at h
 split at h
 ·cases h;omega
 ·exact sF kO (fun _=>sF LV fun x=>sF kO fun _=>sF LV fun y=>yM (a:=(⟨a,b,f,u,k,false,x,y⟩:dG))) _ _ _ h
def QO:Up (Uv tk):=by
 refine sF Fa fun w n a n' h=>?_
 split at h
 ·cases h;omega
 ·exact sF kO (fun _=>yM (a:=(⟨w,false,[]⟩:oM))) _ _ _ h
end
def Gn(tf:Tr uA)(T:List oM)(tcl:List (List zA))(R:List D)(rv:zA):Prop:=
 (T=[]/\tcl=[]/\R=[]/\rv=.nilslice)\/∃A x clA,T=A++[x]/\tcl=clA++[[.str x.name,.bool x.two,rv]]/\sD tf (A.map oM.d) clA/\R=x.rows.map zO.d
theorem Gn.mono{tf:Tr uA}{T:List oM}   (h:Gn tf T tcl R rv)(hl:yB tf tf'):Gn tf' T tcl R rv:=by
 rcases h with h | ⟨A,x,clA,h1,h2,h3,h4⟩
 ·exact .inl h
 ·exact .inr ⟨A,x,clA,h1,h2,sD.mono hl _ _ h3,h4⟩
theorem Gn.len{tf:Tr uA}{T:List oM}   (h:Gn tf T tcl R rv):tcl.length=T.length:=by
 rcases h with⟨rfl,rfl,_⟩ | ⟨A,x,clA,rfl,rfl,h3,h4⟩
 ·rfl
 ·have:=h3.length
  simp_all
def jM(pb:Nat)(nm dv tv rv cv:zA)(D:List D)(tcl:List (List zA))(R C:List Am.D):List aE:=
 [xC pb none [nm,dv,tv,cv],pD yA.base 3 D dv,oI yA.base 3 tcl tv,pD yA.base 7 R rv,pD yA.base 24 C cv]
def iX(P:aI)(pb:Nat)(p:fH)(tf t:Tr uA)(n:Nat):Prop:=
 ∃dv tv rv cv tcl R,Gn tf p.tables tcl R rv/\St (P.wL (jM pb (.str p.name) dv tv rv cv (p.defs.map aH.d) tcl R (p.clauses.map dG.d)++P.L)) tf t n 0/\p.defs.length<=n/\p.tables.length<=n/\R.length<=n/\p.clauses.length<=n
def dL (P:aI)(pb:Nat)(tf:Tr uA)(r:PR fH)(Q E:jB):Prop:=
 match r with
 | .ok p n=>∀tf' t',yB tf tf'->iX P pb p tf' t' n->Q (.tup []) t'
 | .er e i=>∀tf' t' n' d',yB tf tf'->St P tf' t' n' d'->E (Sn P e i) t'
section
variable {P:aI}{tf t:Tr uA}{n d pb:Nat}{Q E:jB}{J W:qF}
theorem dL.mono{r:PR fH}(h:dL P pb tf r Q E) (hl:yB tf tf'):dL P pb tf' r Q E:=by
 cases r with
 | ok a n=>exact fun tf2 t' k1 k2=>h tf2 t' (hl.trans k1) k2
 | er e i=>exact fun tf2 t' n' d' k1 k2=>h tf2 t' n' d' (hl.trans k1) k2
def dL.bind  {rd1:Tr uA->α->zA->Prop}{r:PR α}{f:α->Nat->PR fH}{Q1:jB}(h:dL P pb tf (r.bind f) Q E)
  (k:∀a n1 tf1 t1 v,r=.ok a n1->yB tf tf1->St (P.wL (X++P.L)) tf1 t1 n1 0->rd1 tf1 a v->dL P pb tf1 (f a n1) Q E->Q1 v t1):Ok (P.wL (X++P.L)) rd1 0 tf r Q1 E:=by
 cases r with
 | ok a n=>exact fun tf' t' v h1 h2 h3=>k a n tf' t' v rfl h1 h2 h3 (dL.mono h h1)
 | er e i=>exact fun tf' t' n' d' h1 h2=>h tf' t' n' d' h1 h2.dropL
def dL.exp   {f:Unit->Nat->PR fH} (hst:St (P.wL (X++P.L)) tf t n 0)(h:dL P pb tf ((xE P.tk w n).bind f) Q' E)
  (k:∀n1 tf1 t1,n<=n1->yB tf tf1->St (P.wL (X++P.L)) tf1 t1 n1 0->dL P pb tf1 (f () n1) Q' E->qA yA.base (gE yA F rC zF E) J (K (.tup [])) t1 Q) :
  qA yA.base (gE yA F rC zF E) J (.heavy (xD yA 93 1 [(0,.str w)]) fun a=>.call 57 [.ptr P.bp 0,a] K) t Q:=by
 refine Fs (P:=P.wL (X++P.L)) hst ?_
 refine h.bind fun a n1 tf1 t1 v hr hle hst1 hrd hk=>?_
 cases hrd;exact k n1 tf1 t1 (kO _ _ _ hr) hle hst1 hk
def Oa  {Y Z:T}(h:St (P.wL (X++P.L)) tf t n d)(k1:acc P.tk w n=true->∀t',St (P.wL (X++P.L)) tf t' (n+1) d->qA yA.base (gE yA F rC zF E) J Y t' Q)(k2:acc P.tk w n=false->∀t',St (P.wL (X++P.L)) tf t' n d->qA yA.base (gE yA F rC zF E) J Z t' Q) :
  qA yA.base (gE yA F rC zF E) J (.call 72 [.ptr P.bp 0,.str w] fun a=>.asB a fun b=>.ite b Y Z) t Q:=gP (P:=P.wL (X++P.L)) h k1 k2
def dL.name  {f:List Nat->Nat->PR fH} (hst:St (P.wL (X++P.L)) tf t n 0)(h:dL P pb tf ((vJ P.tk n).bind f) Q' E)
  (k:∀w n1 tf1 t1,n<=n1->yB tf tf1->St (P.wL (X++P.L)) tf1 t1 n1 0->dL P pb tf1 (f w n1) Q' E->qA yA.base (gE yA F rC zF E) J (K (.str w)) t1 Q) :
  qA yA.base (gE yA F rC zF E) J (.call 58 [.ptr P.bp 0] K) t Q:=by
 refine tB ?_
 rw[pE 58];refine Ez (P:=P.wL (X++P.L)) hst (h.bind fun a n1 tf1 t1 v hr hle hst1 hrd hk=>?_)
 cases hrd;exact k a n1 tf1 t1 (Fa _ _ _ hr) hle hst1 hk
def gF(k:Nat)(hk:k=0\/k=1\/k=2\/k=3)  : jC yA 27 k (.ptr b 0)=some (.ptr b k):=by
 rcases hk with rfl | rfl | rfl | rfl<;>kernel_rfl
def gT(k:Nat)(hk:k=1\/k=2){o:Nat}:jC yA 130 k (.ptr b o)=some (.ptr b (o+k)):=by
 rcases hk with rfl | rfl<;>kernel_rfl
def FV{T el sz j g:Nat}{y:eD}{A B:List aE}{l:List D}{pc zs:List zA}{v:zA} {rd:Tr uA->α->zA->Prop}{r:PR α}{k:α->Nat->PR fH}{dd:α->D}{fc:jI->List zA}{args:List zA}
  (hT:gQ yA T el sz) (hy:yA.tys.get T=some y) (ha:y.desc.isAgg=false) (hs1:y.size=1) (hs:sz<1000) (hjj:j=0\/j=1\/j=2\/j=3)
  (hrd:∀tf a w,rd tf a w->∃cs,w=.agg cs/\RD tf (dd a) cs/\mK zs (.agg cs)=some (cellsOf cs)/\fc (cellsOf cs)=cs/\cs.length=sz)
  (hst:St (P.wL ((xC pb none pc::(A++pD yA.base sz l v::B))++P.L)) tf t n 0) (hj:pc[j]?=some v) (hl:l.length+1<400000)
  (hW:∀a m R,gE yA F rC zF E g a m R=rJ yA F E g a m R)
  (hcall:∀Q',Ok (P.wL ((xC pb none pc::(A++pD yA.base sz l v::B))++P.L)) rd 0 tf r Q' E->rJ yA F E g args t Q')
  (hk:dL P pb tf (r.bind k) Q E)
  (hQ:∀a n1 tf' t' v',r=.ok a n1->yB tf tf'->St (P.wL ((xC pb none (pc.set j v')::(A++pD yA.base sz (l++[dd a]) v'::B))++P.L)) tf' t' n1 0->dL P pb tf' (k a n1) Q E->Q (.tup []) t') :
  qA yA.base (gE yA F rC zF E) J (.opt (kF (.ptr pb 0)) fun a7=>.opt (jC yA 27 j a7) fun a8=>.light (fun m=>fA yA T ⟨0,m⟩ a8) fun a9=>.call g args fun a10=>.asG zs a10 fun X=>
   .light (fun m=>fA yA T ⟨0,m⟩ a8) fun a12=>.ite (same 10 a12 a9) (Ht T (.ptr pb 0) (jC yA 27 j) a8 a9 (fc X)) .fail) t Q:=by
 have hc:vD t pb none pc:=hst.ob.cel (A:=[jG P n 0])
 refine mA nl (mA (gF j hjj) (vC (hc.load1 hy ha hj) (tB ?_)))
 rw[hW];refine hcall _ (hk.bind fun a n1 tf1 t1 w hr hle hst1 hrd1 hk1=>?_)
 obtain⟨cs,rfl,c1,c2,c3,c4⟩:=hrd _ _ _ hrd1
 have hc1:vD t1 pb none pc:=hst1.ob.cel (A:=[jG P n1 0])
 have o1:zB yA.base tf1 t1 ([jG P n1 0]++xC pb none pc::(A++pD yA.base sz l v::(B++P.L))):=by
  have:=hst1.ob
  change zB yA.base tf1 t1 (jG P n1 0::((xC pb none pc::(A++pD yA.base sz l v::B))++P.L))at this
  simpa using this
 have hv:fR yA.base tf1 t1 sz l v:=o1.ok (pD yA.base sz l v) (by simp)
 refine dC c2 (vC (hc1.load1 hy ha hj) (rA hv.same ?_))
 rw[c3];refine FU hT hy ha hs1 c4 hs nl (gF j hjj) o1 hj c1 hl fun t2 v' o2=>?_
 refine hQ a n1 tf1 t2 v' hr hle ⟨hst1.ts,?_,hst1.len,hst1.le,hst1.good,hst1.glob⟩ hk1
 show zB yA.base tf1 t2 (jG P n1 0::((xC pb none (pc.set j v')::(A++pD yA.base sz (l++[dd a]) v'::B))++P.L))
 simpa using o2
end
end
section
variable {p:fH}{x:oM}{rv:zA}
variable [yD]
section
variable {P:aI}{tf t:Tr uA}{n d pb:Nat}{Q E:jB}{J W:qF}
def MJ{fact:Bool} (hp:iX P pb p tf t n)(h0:∀a n1,Fv P.tk fact n=.ok a n1->p.defs.length+1<=n1)
  (hk:dL P pb tf ((Fv P.tk fact n).bind fun d n1=>.ok ⟨p.name,p.defs++[d],p.tables,p.clauses⟩ n1) Q E) :
  qA yA.base (gE yA F rC zF E) J (.opt (kF (.ptr pb 0)) fun a7=>.opt (jC yA 27 1 a7) fun a8=>.light (fun m=>fA yA 23 ⟨0,m⟩ a8) fun a9=>.call 89 [.ptr P.bp 0,.bool fact] fun a10=>.asG [.str [],.int .u8 0,.bool false] a10 fun X=>
   .light (fun m=>fA yA 23 ⟨0,m⟩ a8) fun a12=>.ite (same 10 a12 a9) (Ht 23 (.ptr pb 0) (jC yA 27 1) a8 a9 [.str (X.s 0),.int .u8 (X.i 1),.bool (X.b 2)]) .fail) t Q:=by
 obtain⟨dv,tv,rv,cv,tcl,R,hT,hst,b1,b2,b3,b4⟩:=hp
 have hl:=hst.len
 have hle:=hst.le
 refine FV (A:=[]) (fc:=fun X=>[.str (X.s 0),.int .u8 (X.i 1),.bool (X.b 2)]) el23 ty23 rfl rfl (by omega) (by omega) (dd:=aH.d) (rd:=rdDef) ?_ hst rfl (by rw[ybf];have:(P.wL (jM pb (.str p.name) dv tv rv cv (p.defs.map aH.d) tcl R (p.clauses.map dG.d)++P.L)).tk=P.tk:=rfl;rw[this]at hl hle;omega) (fun _ _ _=>by rw[pE 89]) (fun Q' hQ'=>def_ok (P:=P.wL (jM pb (.str p.name) dv tv rv cv (p.defs.map aH.d) tcl R (p.clauses.map dG.d)++P.L)) hst hQ') hk ?_
 ·rintro tf a w ⟨cs,rfl,h⟩
  have:=rd_def h
  exact⟨cs,rfl,h,nV h rfl,by rw[this];rfl,by rw[this];rfl⟩
 ·intro a n1 tf' t' v' hr hle' hst' hk'
  have hd:=Nm _ _ _ hr
  refine hk' tf' t' (yB.refl _) ⟨v',tv,rv,cv,tcl,R,hT.mono hle',?_,by simpa using h0 _ _ hr,Nat.le_trans b2 hd,Nat.le_trans b3 hd,Nat.le_trans b4 hd⟩
  simpa[jM]using hst'
def zkt (hp:iX P pb p tf t n)(h0:∀a n1,jY P.tk n=.ok a n1->p.clauses.length+1<=n1)
  (hk:dL P pb tf ((jY P.tk n).bind fun c n1=>.ok ⟨p.name,p.defs,p.tables,p.clauses++[c]⟩ n1) Q E) :
  qA yA.base (gE yA F rC zF E) J (.opt (kF (.ptr pb 0)) fun a7=>.opt (jC yA 27 3 a7) fun a8=>.light (fun m=>fA yA 25 ⟨0,m⟩ a8) fun a9=>.call 91 [.ptr P.bp 0] fun a10=>.asG [(.str []),(.str []),(.int .i64 0),(.int .i64 0),(.int .i64 0),(.bool false),(.int .u8 0),(.str []),(.int .u8 0),(.bool false),.nilslice,(.bool false),.nilslice,(.int .i64 0),.nilslice,(.int .u8 0),(.str []),(.int .u8 0),(.bool false),.nilslice,(.bool false),.nilslice,(.int .i64 0),.nilslice] a10 fun X=>
   .light (fun m=>fA yA 25 ⟨0,m⟩ a8) fun a12=>.ite (same 10 a12 a9) (Ht 25 (.ptr pb 0) (jC yA 27 3) a8 a9 [(.str (X.s 0)),(.str (X.s 1)),(.int .i64 (X.i 2)),(.int .i64 (X.i 3)),(.int .i64 (X.i 4)),(.bool (X.b 5)),(.int .u8 (X.i 6)),(.str (X.s 7)),(.int .u8 (X.i 8)),(.bool (X.b 9)),(X.v 10),(.bool (X.b 11)),(X.v 12),(.int .i64 (X.i 13)),(X.v 14),(.int .u8 (X.i 15)),(.str (X.s 16)),(.int .u8 (X.i 17)),(.bool (X.b 18)),(X.v 19),(.bool (X.b 20)),(X.v 21),(.int .i64 (X.i 22)),(X.v 23)]) .fail) t Q:=by
 obtain⟨dv,tv,rv,cv,tcl,R,hT,hst,b1,b2,b3,b4⟩:=hp
 have hl:=hst.len
 have hle:=hst.le
 refine FV (A:=[pD yA.base 3 (p.defs.map aH.d) dv,oI yA.base 3 tcl tv,pD yA.base 7 R rv]) (B:=[]) (fc:=fun X=>[(.str (X.s 0)),(.str (X.s 1)),(.int .i64 (X.i 2)),(.int .i64 (X.i 3)),(.int .i64 (X.i 4)),(.bool (X.b 5)),(.int .u8 (X.i 6)),(.str (X.s 7)),(.int .u8 (X.i 8)),(.bool (X.b 9)),(X.v 10),(.bool (X.b 11)),(X.v 12),(.int .i64 (X.i 13)),(X.v 14),(.int .u8 (X.i 15)),(.str (X.s 16)),(.int .u8 (X.i 17)),(.bool (X.b 18)),(X.v 19),(.bool (X.b 20)),(X.v 21),(.int .i64 (X.i 22)),(X.v 23)]) el25 ty25 rfl rfl (by omega) (by omega) (dd:=dG.d) (rd:=rdCl) ?_ hst rfl (by rw[ybf];have:(P.wL (jM pb (.str p.name) dv tv rv cv (p.defs.map aH.d) tcl R (p.clauses.map dG.d)++P.L)).tk=P.tk:=rfl;rw[this]at hl hle;omega) (fun _ _ _=>by rw[pE 91]) (fun Q' hQ'=>za5 (P:=P.wL (jM pb (.str p.name) dv tv rv cv (p.defs.map aH.d) tcl R (p.clauses.map dG.d)++P.L)) hst hQ') hk ?_
 ·rintro tf a w ⟨cs,rfl,h⟩
  obtain⟨a1,a2,a3,a4,a5,a6,rfl,_⟩:=FI h
  exact⟨_,rfl,h,nV h (dG.zs _),rfl,rfl⟩
 ·intro a n1 tf' t' v' hr hle' hst' hk'
  have hd:=AY _ _ _ hr
  refine hk' tf' t' (yB.refl _) ⟨dv,tv,rv,v',tcl,R,hT.mono hle',?_,Nat.le_trans b1 hd,Nat.le_trans b2 hd,Nat.le_trans b3 hd,by simpa using h0 _ _ hr⟩
  simpa[jM]using hst'
def zcp {A:List oM} {n4:Int}(hp:iX P pb p tf t n)(hA:p.tables=A++[x])(hn4:n4=((A.length+1:Nat):Int))(h0:∀a n1,Hg P.tk x.two n=.ok a n1->x.rows.length+1<=n1)
  (hk:dL P pb tf ((Hg P.tk x.two n).bind fun r n1=>.ok ⟨p.name,p.defs,Gj p.tables r,p.clauses⟩ n1) Q E) :
  qA yA.base (gE yA F rC zF E) J (.opt (kF (.ptr pb 0)) fun a41=>.opt (jC yA 27 2 a41) fun a42=>.light (fun m=>fA yA 24 ⟨0,m⟩ a42) fun a43=>.opt (mC yA 24 a43 (.int .i64 (bA .i64 (n4-1)))) fun a44=>.opt (kF a44) fun a45=>.opt (jC yA 130 2 a45) fun a46=>.light (fun m=>fA yA 128 ⟨0,m⟩ a46) fun a47=>.opt (kF a44) fun a48=>.opt (jC yA 130 1 a48) fun a49=>.light (fun m=>fA yA 4 ⟨0,m⟩ a49) fun a50=>.asB a50 fun b51=>.call 90 [.ptr P.bp 0,.bool b51] fun a52=>
   .asG [(.int .i64 0),(.int .i64 0),(.int .i64 0),(.bool false),.nilslice,(.bool false),.nilslice] a52 fun X53=>
   .light (fun m=>fA yA 128 ⟨0,m⟩ a46) fun a54=>.ite (same 10 a54 a47) (Ht 128 a44 (jC yA 130 2) a46 a47 [(.int .i64 (X53.i 0)),(.int .i64 (X53.i 1)),(.int .i64 (X53.i 2)),(.bool (X53.b 3)),(X53.v 4),(.bool (X53.b 5)),(X53.v 6)]) .fail) t Q:=by
 obtain⟨dv,tv,rv,cv,tcl,R,hT,hst,b1,b2,b3,b4⟩:=hp
 rcases hT with⟨hT,_⟩ | ⟨A',x',clA,hT,htcl,hrA,hR⟩
 ·rw[hT]at hA;simp at hA
 obtain⟨rfl,e⟩:=List.append_inj' (hA.symm.trans hT) rfl
 cases e
 have hl:=hst.len
 have hle:=hst.le
 have hlA:clA.length=A.length:=by simpa using hrA.length
 have hLK:LK (.sz 3) yA.base t 3 tcl tv:=hst.ob.ok (oI yA.base 3 tcl tv) (by simp[jM,aI.wL])
 have hi:tcl[A.length]?=some [.str x.name,.bool x.two,rv]:=by rw[htcl,<- hlA];simp
 obtain⟨b,etv,hidx,hat⟩:=LK.idx sl24 hLK hi
 subst etv;have hlA2:A.length<100000000:=by
  have:A.length<p.tables.length:=by rw[hA];simp
  change n<=P.tk.length at hle
  change P.tk.length<300000 at hl
  omega
 have hc:vD t pb none [.str p.name,dv,.slice b 0 tcl.length tcl.length,cv]:=hst.ob.cel (A:=[jG P n 0])
 obtain⟨_,hall,hob2⟩:=zB.cellsK (A:=[jG P n 0,xC pb none [.str p.name,dv,.slice b 0 tcl.length tcl.length,cv],pD yA.base 3 (p.defs.map aH.d) dv]) hst.ob
 have hst2:St (P.wL ([xC pb none [.str p.name,dv,.slice b 0 tcl.length tcl.length,cv],pD yA.base 3 (p.defs.map aH.d) dv,xC b (some (.sz 3)) tcl.flatten,pD yA.base 7 R rv,pD yA.base 24 (p.clauses.map dG.d) cv]++P.L)) tf t n 0:=⟨hst.ts,hob2,hst.len,hst.le,hst.good,hst.glob⟩
 have hc2:vD t b (some (.sz 3)) tcl.flatten:=hob2.cel
 have g1:=tV hall A.length 1 _ (.bool x.two) hi rfl
 have g2:=tV hall A.length 2 _ rv hi rfl
 have e4:bA .i64 (n4-1)=(A.length:Int):=by rw[hn4,aC (by omega) (by omega)];omega
 refine mA nl (mA (gF 2 (by omega)) (vC (hc.load1 Gx rfl rfl) (mA (by rw[e4];exact hidx) (mA nl (mA (gT 2 (by omega)) (vC (hc2.load1 Pd rfl g2) (mA nl (mA (gT 1 (by omega)) (vC (hc2.load1 ty4 rfl g1) (vE (tB ?_)))))))))))
 rw[pE 90];refine row_ok (P:=P.wL ([xC pb none [.str p.name,dv,.slice b 0 tcl.length tcl.length,cv],pD yA.base 3 (p.defs.map aH.d) dv,xC b (some (.sz 3)) tcl.flatten,pD yA.base 7 R rv,pD yA.base 24 (p.clauses.map dG.d) cv]++P.L)) hst2 (hk.bind fun r n1 tf1 t1 w hr hle1 hst1 hrd1 hk1=>?_)
 obtain⟨cs,rfl,hrd⟩:=hrd1
 obtain⟨u,v,rfl,_⟩:=rd_row hrd
 have o1:zB yA.base tf1 t1 ([jG P n1 0,xC pb none [.str p.name,dv,.slice b 0 tcl.length tcl.length,cv],pD yA.base 3 (p.defs.map aH.d) dv]++xC b (some (.sz 3)) tcl.flatten::([]++pD yA.base 7 R rv::(pD yA.base 24 (p.clauses.map dG.d) cv::P.L))):=hst1.ob
 have hc3:vD t1 b (some (.sz 3)) tcl.flatten:=o1.cel
 have hv:fR yA.base tf1 t1 7 R rv:=o1.ok (pD yA.base 7 R rv) (by simp)
 refine dC (nV hrd (zO.zs _)) (vC (hc3.load1 Pd rfl g2) (rA hv.same ?_))
 have hRl:R.length=x.rows.length:=by rw[hR,ybf]
 refine FU el128 Pd rfl rfl rfl (by omega) nl (gT 2 (by omega)) o1 g2 hrd (by
  change n<=P.tk.length at hle
  change P.tk.length<300000 at hl
  omega) fun t2 v' o2=>?_
 have ef:tcl.flatten.set (A.length*3+2) v'=(clA++[[.str x.name,.bool x.two,v']]).flatten:=by
  have hj:=(ybc.1 g2).1
  rw[<- GM hj,zd1 hall hi (by show 2+1<=3;omega)]
  congr 1
  rw[htcl,EJ hlA];rfl
 rw[ef]at o2;have hall2:∀(i:Nat) cs,(clA++[[.str x.name,.bool x.two,v']])[i]?=some cs->cs.length=3:=by
  intro i cs hi;rw[List.getElem?_append]at hi;split at hi
  ·rename_i hlt
   exact hall i cs (by rw[htcl,yco hlt];exact hi)
  ·exact Ew (sz:=3) rfl _ _ hi
 have o3:=zB.listK hall2 o2
 have elen:(clA++[[zA.str x.name,.bool x.two,v']]).length=tcl.length:=by rw[htcl];simp
 rw[elen]at o3;have hd:=Ww _ _ _ hr
 refine hk1 tf1 t2 (yB.refl _) ⟨dv,_,v',cv,clA++[[.str x.name,.bool x.two,v']],R++[r.d],.inr ⟨A,⟨x.name,x.two,x.rows++[r]⟩,clA,?_,rfl,sD.mono hle1 _ _ hrA,by rw[hR];simp⟩,⟨hst1.ts,o3,hst1.len,hst1.le,hst1.good,hst1.glob⟩,Nat.le_trans b1 hd,?_,by have:=h0 _ _ hr;simpa[hRl]using this,Nat.le_trans b4 hd⟩
 ·show Gj p.tables r=_
  rw[hA];simp[Gj]
 ·show(Gj p.tables r).length<=n1
  rw[hA];simp[Gj]
  rw[hA]at b2;simp at b2;omega
def zb6{t:Tr uA}  (h:xB t 7 (x.rows.map zO.d) rv):RD t x.d [.str x.name,.bool x.two,rv]:=
 vK.2 ⟨[[.str x.name],[.bool x.two],[rv]],rfl,rD.2 ⟨_,_,rfl,eL.2 rfl,rD.2 ⟨_,_,rfl,Bj.2 rfl,rD.2 ⟨_,_,rfl,jQ.2 ⟨_,rfl,h⟩,cF.2 rfl⟩⟩⟩⟩
def CW{T:List oM}{tcl:List (List zA)}{R:List D} {tf':Tr uA}(h:Gn tf T tcl R rv)(hle:yB tf tf')(hr:xB tf' 7 R rv):sD tf' (T.map oM.d) tcl:=by
 rcases h with⟨rfl,rfl,_⟩ | ⟨A,x,clA,rfl,rfl,h3,rfl⟩
 ·exact cF.2 rfl
 ·rw[List.map_append]
  exact sD.app (sD.mono hle _ _ h3) (rD.2 ⟨_,_,rfl,zb6 hr,cF.2 rfl⟩)
def CX {w:List Nat}{two:Bool}(hp:iX P pb p tf t n)(h0:p.tables.length+1<=n)
  (hk:dL P pb tf (.ok ⟨p.name,p.defs,p.tables++[⟨w,two,[]⟩],p.clauses⟩ n) Q E):lH E 60 23 [.ptr pb 0,.str w,.bool two] t Q:=by
 obtain⟨dv,tv,rv,cv,tcl,R,hT,hst,b1,b2,b3,b4⟩:=hp
 refine j60_23 _ _ _ ?_
 unfold zfc;have hl:=hst.len
 have hle:=hst.le
 change n<=P.tk.length at hle
 change P.tk.length<300000 at hl
 have hc:vD t pb none [.str p.name,dv,tv,cv]:=hst.ob.cel (A:=[jG P n 0])
 obtain⟨tf',hle1,o1,hrs⟩:=zB.freezeL (A:=[jG P n 0,xC pb none [.str p.name,dv,tv,cv],pD yA.base 3 (p.defs.map aH.d) dv,oI yA.base 3 tcl tv]) (B:=pD yA.base 24 (p.clauses.map dG.d) cv::P.L) hst.ob
 refine mA nl (mA (gF 2 (by omega)) (vC (hc.load1 Gx rfl rfl) (rA rfl (bC fun b hb hbase=>?_))))
 obtain⟨t1,h1,h2,h3,h4⟩:=GS (cs:=[.str w,.bool two,.nilslice]) el24 rfl (by omega) hb
 refine⟨_,_,h1,bC fun b2 hb2 hbase2=>?_⟩
 have o2:=o1.junk hb h4
 obtain⟨t2,v',k1,k2,k3,c1⟩:=zB.appendK (A:=[jG P n 0,xC pb none [.str p.name,dv,tv,cv],pD yA.base 3 (p.defs.map aH.d) dv]) (B:=pD yA.base 24 (p.clauses.map dG.d) cv::P.L) el24 o2 h2 (by intro a ha;simp at ha;rcases ha with rfl | rfl | rfl<;>rfl) (by rw[hT.len];omega) hb2 hbase2
 refine⟨_,_,k1,mA nl (mA (gF 2 (by omega)) (bC fun b3 _ _=>?_))⟩
 obtain⟨t3,m1,m2⟩:=zB.setCel (A:=[jG P n 0]) (j:=2) (v:=v') k2 Gx (by rw[c1];rfl) (by rw[c1];show 2+1<=4;omega) (by rw[c1];simpa[zC]using k3)
 rw[c1]at m2;refine⟨_,_,m1 b3,?_⟩
 have o4:=zB.add (A:=[jG P n 0,xC pb none [.str p.name,dv,v',cv],pD yA.base 3 (p.defs.map aH.d) dv,oI yA.base 3 (tcl++[[.str w,.bool two,.nilslice]]) v']) (B:=pD yA.base 24 (p.clauses.map dG.d) cv::P.L) (o':=pD yA.base 7 [] .nilslice) m2 (fun k _=>rfl) (fun k hk=>by cases hk) (.inl ⟨rfl,rfl⟩) (by simp[pD,cI]) m2.tle
 refine hk tf' t3 hle1 ⟨dv,v',.nilslice,cv,tcl++[[.str w,.bool two,.nilslice]],[],.inr ⟨p.tables,⟨w,two,[]⟩,tcl,rfl,rfl,CW hT hle1 hrs,rfl⟩,?_,b1,by simpa using h0,by simp,b4⟩
 exact⟨hst.ts.mono hle1,o4,hst.len,hst.le,hst.good,hst.glob.mono hle1⟩
def zjd (hp:iX P pb p tf t n)(hk:dL P pb tf (Cq P.tk p n) Q E):rJ yA F E 60 [.ptr P.bp 0,.ptr pb 0] t Q:=by
 have hp0:=hp
 obtain⟨dv,tv,rv,cv,tcl,R,hT,hst,b1,b2,b3,b4⟩:=hp
 refine w60 _ _ ?_
 unfold t60;have hc:vD t pb none [.str p.name,dv,tv,cv]:=hst.ob.cel (A:=[jG P n 0])
 have hLK:LK (.sz 3) yA.base t 3 tcl tv:=hst.ob.ok (oI yA.base 3 tcl tv) (by simp[jM,aI.wL])
 have hlen:cC tv=some (.int .i64 (p.tables.length:Int)):=by
  rw[<- hT.len];rcases hLK with⟨rfl,rfl⟩ | ⟨b,c,rfl,_⟩<;>rfl
 unfold Cq at hk;have at1:∀(a:Nat) (t1:Tr uA),n<=a->St (P.wL (jM pb (.str p.name) dv tv rv cv (p.defs.map aH.d) tcl R (p.clauses.map dG.d)++P.L)) tf t1 a 0->iX P pb p tf t1 a:=fun a t1 ha h=>⟨dv,tv,rv,cv,tcl,R,hT,h,by omega,by omega,by omega,by omega⟩
 refine mA nl (mA (gF 2 (by omega)) (vC (hc.load1 Gx rfl rfl) (mA hlen (kB ?_))))
 refine Oa hst (fun ha t1 h1=>?_) (fun ha t1 h1=>?_)
 ·rw[yab ha]at hk
  exact MJ (at1 _ _ (by omega) h1) (fun a n1 hr=>by have:=Nm _ _ _ hr;omega) hk
 rw[ha,yaa (by simp)]at hk
 refine Oa h1 (fun ha t2 h2=>?_) (fun ha t2 h2=>?_)
 ·rw[yab ha]at hk
  exact MJ (at1 _ _ (by omega) h2) (fun a n1 hr=>by have:=Nm _ _ _ hr;omega) hk
 rw[ha,yaa (by simp)]at hk
 refine Oa h2 (fun ha t3 h3=>?_) (fun ha t3 h3=>?_)
 ·rw[yab ha]at hk
  unfold Uv at hk;rw[PR.bind_assoc]at hk;refine dL.name h3 hk fun w n1 tf1 t4 hup hle hst4 hk4=>?_
  have at2:∀(a:Nat) (tf2 t1:Tr uA),yB tf tf2->n<=a->St (P.wL (jM pb (.str p.name) dv tv rv cv (p.defs.map aH.d) tcl R (p.clauses.map dG.d)++P.L)) tf2 t1 a 0->iX P pb p tf2 t1 a:=fun a tf2 t1 hl ha h=>⟨dv,tv,rv,cv,tcl,R,hT.mono hl,h,by omega,by omega,by omega,by omega⟩
  refine vF (tB ?_)
  rw[pW 72];refine Dl (P:=P.wL (jM pb (.str p.name) dv tv rv cv (p.defs.map aH.d) tcl R (p.clauses.map dG.d)++P.L)) hst4 fun t5 h5=>vE ?_
  change St _ tf1 t5 (if acc P.tk wTwo n1=true then n1+1 else n1) 0 at h5
  change qA _ _ _ (.ite (!acc P.tk wTwo n1) _ (.jump 23 [.ptr pb 0,.str w,.bool (acc P.tk wTwo n1)])) _ _
  cases h2:acc P.tk wTwo n1 with
  | true=>
   rw[h2,yab rfl]at h5;rw[h2,yab rfl]at hk4;exact oB (by simp) (zD (CX (at2 _ _ _ hle (by omega) h5) (by omega) hk4))
  | false=>
   rw[h2,yaa (by simp)]at h5
   rw[h2,yaa (by simp),PR.bind_assoc]at hk4
   exact rA rfl (dL.exp h5 hk4 fun n6 tf6 t6 hup6 hle6 hst6 hk6=>zD (by
    have e2:lH E 60 23 [.ptr pb 0,.str w,.bool false] t6 Q:=CX (at2 _ _ _ (hle.trans hle6) (by omega) hst6) (by omega) hk6
    rw[<- h2]at e2;exact e2))
 rw[ha,yaa (by simp)]at hk
 have last:∀t4,St (P.wL (jM pb (.str p.name) dv tv rv cv (p.defs.map aH.d) tcl R (p.clauses.map dG.d)++P.L)) tf t4 n 0->dL P pb tf (if acc P.tk Oy n=true then(jY P.tk (n+1)).bind fun c n1=>.ok ⟨p.name,p.defs,p.tables,p.clauses++[c]⟩ n1 else .er 120 n) Q E →
   qA yA.base (gE yA F rC zF E) (JqE yA F E 60) (.call 72 [.ptr P.bp 0,.str Oy] fun a74=>.asB a74 fun b75=>.ite b75 (.opt (kF (.ptr pb 0)) fun a7=>.opt (jC yA 27 3 a7) fun a8=>.light (fun m=>fA yA 25 ⟨0,m⟩ a8) fun a9=>.call 91 [.ptr P.bp 0] fun a10=>.asG [(.str []),(.str []),(.int .i64 0),(.int .i64 0),(.int .i64 0),(.bool false),(.int .u8 0),(.str []),(.int .u8 0),(.bool false),.nilslice,(.bool false),.nilslice,(.int .i64 0),.nilslice,(.int .u8 0),(.str []),(.int .u8 0),(.bool false),.nilslice,(.bool false),.nilslice,(.int .i64 0),.nilslice] a10 fun X=>
   .light (fun m=>fA yA 25 ⟨0,m⟩ a8) fun a12=>.ite (same 10 a12 a9) (Ht 25 (.ptr pb 0) (jC yA 27 3) a8 a9 [(.str (X.s 0)),(.str (X.s 1)),(.int .i64 (X.i 2)),(.int .i64 (X.i 3)),(.int .i64 (X.i 4)),(.bool (X.b 5)),(.int .u8 (X.i 6)),(.str (X.s 7)),(.int .u8 (X.i 8)),(.bool (X.b 9)),(X.v 10),(.bool (X.b 11)),(X.v 12),(.int .i64 (X.i 13)),(X.v 14),(.int .u8 (X.i 15)),(.str (X.s 16)),(.int .u8 (X.i 17)),(.bool (X.b 18)),(X.v 19),(.bool (X.b 20)),(X.v 21),(.int .i64 (X.i 22)),(X.v 23)]) .fail)
   (.call 48 [.ptr P.bp 0,.int .i64 120] fun _=>.ret (.tup []))) t4 Q:=by
  intro t4 h4 hk;refine Oa h4 (fun ha t5 h5=>?_) (fun ha t5 h5=>?_)
  ·rw[yab ha]at hk
   exact zkt (at1 _ _ (by omega) h5) (fun a n1 hr=>by have:=AY _ _ _ hr;omega) hk
  ·rw[ha,yaa (by simp)]at hk
   refine tB ?_
   rw[pE 48];exact LS (P:=P.wL (jM pb (.str p.name) dv tv rv cv (p.defs.map aH.d) tcl R (p.clauses.map dG.d)++P.L)) h5 (hk tf t5 n 0 (yB.refl _) h5.dropL)
 by_cases h0:p.tables=[]
 ·rw[h0]at hk
  refine oB (by rw[h0];simp[fC]) (last t3 h3 ?_)
  rw[h0];simpa using hk
 ·obtain⟨A,x,hA⟩:∃A x,p.tables=A++[x]:=⟨p.tables.dropLast,p.tables.getLast h0,(List.dropLast_concat_getLast h0).symm⟩
  refine rA (by rw[hA];simp[fC]) (Oa h3 (fun ha t4 h4=>?_) (fun ha t4 h4=>last t4 h4 ?_))
  ·have hx:Yt p.tables=x.two:=by rw[hA];simp[Yt]
   rw[yab (by rw[ha,hA];simp),hx]at hk
   have hxr:x.rows.length<=n:=by
    rcases hT with⟨hT,_⟩ | ⟨A',x',clA,hT,htcl,hrA,hR⟩
    ·rw[hT]at hA;simp at hA
    obtain⟨rfl,e⟩:=List.append_inj' (hA.symm.trans hT) rfl
    cases e
    rw[hR,ybf]at b3;exact b3
   exact zcp (at1 _ _ (by omega) h4) hA (by rw[hA];simp) (fun a n1 hr=>by have:=Ww _ _ _ hr;omega) hk
  ·rw[ha]at hk
   simpa using hk
end
end
section
variable {p x:fH}{cs:List zA}
variable [yD]
def Ll(tf:Tr uA)(x:fH)(v:zA):Prop:=∃cs,v=.agg cs/\RD tf x.d cs
section
variable {P:aI}{tf t:Tr uA}{n d pb:Nat}{Q E:jB}{J W:qF}
theorem iX.fin (hp:iX P pb p tf t n):∃tf' cs,yB tf tf'/\St P tf' t n 0/\fA yA 27 ⟨0,t⟩ (.ptr pb 0)=some (.agg cs)/\RD tf' p.d cs:=by
 obtain⟨dv,tv,rv,cv,tcl,R,hT,hst,b1,b2,b3,b4⟩:=hp
 have hc:vD t pb none [.str p.name,dv,tv,cv]:=hst.ob.cel (A:=[jG P n 0])
 obtain⟨tf1,l1,o1,r1⟩:=zB.freezeL (A:=[jG P n 0,xC pb none [.str p.name,dv,tv,cv],pD yA.base 3 (p.defs.map aH.d) dv,oI yA.base 3 tcl tv]) (B:=pD yA.base 24 (p.clauses.map dG.d) cv::P.L) hst.ob
 obtain⟨tf2,l2,o2,r2⟩:=zB.freezeL (A:=[jG P n 0,xC pb none [.str p.name,dv,tv,cv],pD yA.base 3 (p.defs.map aH.d) dv,oI yA.base 3 tcl tv]) (B:=P.L) o1
 obtain⟨tf3,l3,o3,r3⟩:=zB.freezeL (A:=[jG P n 0,xC pb none [.str p.name,dv,tv,cv]]) (B:=oI yA.base 3 tcl tv::P.L) o2
 have hLK:LK (.sz 3) yA.base t 3 tcl tv:=o3.ok (oI yA.base 3 tcl tv) (by simp)
 have hrd:=CW hT l1 r1
 obtain⟨tf4,l4,o4,r4⟩:∃tf4,yB tf3 tf4/\zB yA.base tf4 t ([jG P n 0,xC pb none [.str p.name,dv,tv,cv]]++P.L)/\xB tf4 3 (p.tables.map oM.d) tv:=by
  have od:=zB.drop (A:=[jG P n 0,xC pb none [.str p.name,dv,tv,cv]]) o3
  rcases hLK with⟨rfl,rfl⟩ | ⟨b,c,rfl,h1,h2,h3⟩
  ·exact⟨tf3,yB.refl _,od,[],.inl ⟨rfl,rfl⟩,sD.mono (l2.trans l3) _ _ hrd⟩
  ·have hni:=o3.notin (A:=[jG P n 0,xC pb none [.str p.name,dv,_,cv]]) (o:=oI yA.base 3 tcl (.slice b 0 tcl.length tcl.length)) (k:=b) (by simp[oI,cI])
   obtain⟨m1,m2⟩:=od.froze hni h2 (o3.low b (by simp[oI,cI])).2
   exact⟨_,m2,m1,tcl,.inr ⟨b,0,tcl.length,rfl,ybk _,⟨_,_,_,by rw[Tr.get_set,yab rfl],.inr ⟨_,rfl,rfl⟩⟩,fun i cs hi=>⟨(h3 i cs hi).1,_,_,_,by rw[Tr.get_set,yab rfl],fun j a hj=>by rw[ybw];exact(h3 i cs hi).2 j a hj⟩⟩,sD.mono ((l2.trans l3).trans m2) _ _ hrd⟩
 have l:=((l1.trans l2).trans l3).trans l4
 refine⟨tf4,[.str p.name,dv,tv,cv],l,⟨hst.ts.mono l,zB.drop (A:=[jG P n 0]) o4,hst.len,hst.le,hst.good,hst.glob.mono l⟩,?_,?_⟩
 ·have:=hc.at.load (j:=0) (n:=4) ty27 rfl rfl (by simp)
  simpa using this
 ·exact vK.2 ⟨[[.str p.name],[dv],[tv],[cv]],rfl,rD.2 ⟨_,_,rfl,eL.2 rfl,rD.2 ⟨_,_,rfl,jQ.2 ⟨_,rfl,r3.mono l4⟩,rD.2 ⟨_,_,rfl,jQ.2 ⟨_,rfl,r4⟩,rD.2 ⟨_,_,rfl,jQ.2 ⟨_,rfl,r2.mono (l3.trans l4)⟩,cF.2 rfl⟩⟩⟩⟩⟩
def agP  (h:RD tf x.d cs):mK [.str [],.nilslice,.nilslice,.nilslice] (.agg cs)=some (cellsOf cs):=nV h (fH.zs _)
def Nu  (h:RD tf x.d cs):[zA.str ((cellsOf cs).s 0),(cellsOf cs).v 1,(cellsOf cs).v 2,(cellsOf cs).v 3]=cs:=by
 obtain⟨a,b,c,rfl,_⟩:=Hm h
 rfl
def zdb{tk:List cB}  : Up (Cq tk p):=by
 intro n a n' h;unfold Cq at h;split at h
 ·have:=sF Nm (fun d=>yM (a:=(⟨p.name,p.defs++[d],p.tables,p.clauses⟩:fH))) _ _ _ h;omega
 split at h
 ·have:=sF Nm (fun d=>yM (a:=(⟨p.name,p.defs++[d],p.tables,p.clauses⟩:fH))) _ _ _ h;omega
 split at h
 ·have:=sF QO (fun d=>yM (a:=(⟨p.name,p.defs,p.tables++[d],p.clauses⟩:fH))) _ _ _ h;omega
 split at h
 ·have:=sF Ww (fun d=>yM (a:=(⟨p.name,p.defs,Gj p.tables d,p.clauses⟩:fH))) _ _ _ h;omega
 split at h
 ·have:=sF AY (fun d=>yM (a:=(⟨p.name,p.defs,p.tables,p.clauses++[d]⟩:fH))) _ _ _ h;omega
 ·cases h
def Ok.bindX{X:List aE}{α β:Type}{rd1:Tr uA->α->zA->Prop}{rd:Tr uA->β->zA->Prop}{r:PR α}{f:α->Nat->PR β}{Q1:jB}(h:Ok P rd d tf (r.bind f) Q E)
  (k:∀a n1 tf1 t1 v,r=.ok a n1->yB tf tf1->St (P.wL (X++P.L)) tf1 t1 n1 d->rd1 tf1 a v->Ok P rd d tf1 (f a n1) Q E->Q1 v t1):Ok (P.wL (X++P.L)) rd1 d tf r Q1 E:=by
 cases r with
 | ok a n=>exact fun tf' t' v h1 h2 h3=>k a n tf' t' v rfl h1 h2 h3 (Ok.mono h h1)
 | er e i=>exact fun tf' t' n' d' h1 h2=>h tf' t' n' d' h1 h2.dropL
def zda:∀(m:Nat) (p:fH) (n:Nat) (tf t:Tr uA) (a b c:zA) (s:List Nat),P.tk.length<=n+m->iX P pb p tf t n->Ok P Ll 0 tf (gU P.tk m p n) Q E->lH E 29 2 [.ptr P.bp 0,.ptr pb 0,.str s,a,b,c] t Q:=by
 intro m;induction m with
 | zero=>
  intro p n tf t a b c s hm hp hk;refine zjm _ _ _ _ _ _ ?_
  unfold Pu;have hp0:=hp
  obtain⟨dv,tv,rv,cv,tcl,R,hT,hst,b1,b2,b3,b4⟩:=hp
  obtain⟨tf',cs,k1,k2,k3,k4⟩:=hp0.fin
  refine mA nl (mA f1 (vC hst.l1 (kB (mA nl (mA f0 (vC hst.l0 (mA hst.len' (kB (oB ?_ (vC k3 (dC (agP k4) ?_)))))))))))
  ·rw[fC]
   change ¬ decide ((n:Int)<(P.tk.length:Int))=true
   simp;omega
  ·have e:=Nu k4
   have hone:=k4.all
   rw[<- e]at hone;refine rA hone ?_
   show Q (.agg _) t
   rw[e];exact hk tf' t _ k1 k2 ⟨cs,rfl,k4⟩
 | succ m ih=>
  intro p n tf t a b c s hm hp hk;by_cases hn:n<P.tk.length
  ·refine zjm _ _ _ _ _ _ ?_
   unfold Pu;unfold gU at hk;rw[yab hn]at hk;have hp0:=hp
   obtain⟨dv,tv,rv,cv,tcl,R,hT,hst,b1,b2,b3,b4⟩:=hp
   refine mA nl (mA f1 (vC hst.l1 (kB (mA nl (mA f0 (vC hst.l0 (mA hst.len' (kB (rA ?_ (tB ?_))))))))))
   ·rw[fC]
    change decide ((n:Int)<(P.tk.length:Int))=true
    simp;omega
   rw[pE 60];refine zjd hp0 ?_
   cases hr:Cq P.tk p n with
   | er e i=>rw[hr]at hk;exact hk
   | ok p1 n1=>
    rw[hr]at hk;change Ok P Ll 0 tf ((tG P.tk 5 n1).bind fun _ n2=>gU P.tk m p1 n2) Q E at hk
    have hup:=zdb _ _ _ hr
    intro tf1 t1 hle hp1;obtain⟨dv1,tv1,rv1,cv1,tcl1,R1,hT1,hst1,c1,c2,c3,c4⟩:=hp1
    refine tB ?_
    rw[pE 59];refine Bw (k:=5) (P:=P.wL (jM pb (.str p1.name) dv1 tv1 rv1 cv1 (p1.defs.map aH.d) tcl1 R1 (p1.clauses.map dG.d)++P.L)) (by omega) hst1 ((hk.mono hle).bindX fun w n2 tf2 t2 v hr2 hle2 hst2 hrd2 hk2=>?_)
    obtain⟨x,_,_,rfl⟩:=hrd2
    have hup2:n1+1=n2:=by
     change tG P.tk 5 n1=_ at hr2
     unfold tG at hr2;split at hr2<;>cases hr2
     rfl
    exact dC (mQ _) (zD (ih p1 n2 tf2 t2 _ _ _ _ (by omega) ⟨dv1,tv1,rv1,cv1,tcl1,R1,hT1.mono hle2,hst2,by omega,by omega,by omega,by omega⟩ hk2))
  ·have hk0:Ok P Ll 0 tf (gU P.tk 0 p n) Q E:=by
    unfold gU at hk;rw[yaa hn]at hk;exact hk
   clear ih hk
   refine zjm _ _ _ _ _ _ ?_
   unfold Pu;have hp0:=hp
   obtain⟨dv,tv,rv,cv,tcl,R,hT,hst,b1,b2,b3,b4⟩:=hp
   obtain⟨tf',cs,k1,k2,k3,k4⟩:=hp0.fin
   refine mA nl (mA f1 (vC hst.l1 (kB (mA nl (mA f0 (vC hst.l0 (mA hst.len' (kB (oB ?_ (vC k3 (dC (agP k4) ?_)))))))))))
   ·rw[fC]
    change ¬ decide ((n:Int)<(P.tk.length:Int))=true
    simp;omega
   ·have e:=Nu k4
    have hone:=k4.all
    rw[<- e]at hone;refine rA hone ?_
    show Q (.agg _) t
    rw[e];exact hk0 tf' t _ k1 k2 ⟨cs,rfl,k4⟩
def zit(h:St P tf t 0 0)(hk:Ok P Ll 0 tf (gK P.tk) Q E):rJ yA F E 29 [.ptr P.bp 0] t Q:=by
 refine w29 _ ?_
 unfold t29;refine bC fun pb hb hbase=>?_
 obtain⟨t1,h1,h2,h3,h4⟩:=aS (C:=yA) (b:=pb) ty27 hb
 refine⟨_,_,h1,?_⟩
 have o1:zB yA.base tf t1 (jG P 0 0::(jM pb (.str []) .nilslice .nilslice .nilslice .nilslice [] [] [] []++P.L)):=by
  have a1:=zB.newCel (A:=[jG P 0 0]) (B:=P.L) h.ob hb hbase h2 h3 h4
  have a2:=zB.add (A:=[jG P 0 0,xC pb none [.str [],.nilslice,.nilslice,.nilslice]]) (B:=P.L) (o':=pD yA.base 24 [] .nilslice) a1 (fun k _=>rfl) (fun k hk=>by cases hk) (.inl ⟨rfl,rfl⟩) (by simp[pD,cI]) a1.tle
  have a3:=zB.add (A:=[jG P 0 0,xC pb none [.str [],.nilslice,.nilslice,.nilslice]]) (B:=pD yA.base 24 [] .nilslice::P.L) (o':=pD yA.base 7 [] .nilslice) a2 (fun k _=>rfl) (fun k hk=>by cases hk) (.inl ⟨rfl,rfl⟩) (by simp[pD,cI]) a1.tle
  have a4:=zB.add (A:=[jG P 0 0,xC pb none [.str [],.nilslice,.nilslice,.nilslice]]) (B:=pD yA.base 7 [] .nilslice::pD yA.base 24 [] .nilslice::P.L) (o':=oI yA.base 3 [] .nilslice) a3 (fun k _=>rfl) (fun k hk=>by cases hk) (.inl ⟨rfl,rfl⟩) (by simp[oI,cI]) a1.tle
  exact zB.add (A:=[jG P 0 0,xC pb none [.str [],.nilslice,.nilslice,.nilslice]]) (B:=oI yA.base 3 [] .nilslice::pD yA.base 7 [] .nilslice::pD yA.base 24 [] .nilslice::P.L) (o':=pD yA.base 3 [] .nilslice) a4 (fun k _=>rfl) (fun k hk=>by cases hk) (.inl ⟨rfl,rfl⟩) (by simp[pD,cI]) a1.tle
 have hst:St (P.wL (jM pb (.str []) .nilslice .nilslice .nilslice .nilslice [] [] [] []++P.L)) tf t1 0 0:=⟨h.ts,o1,h.len,h.le,h.good,h.glob⟩
 unfold gK at hk;refine Fs (P:=P.wL (jM pb (.str []) .nilslice .nilslice .nilslice .nilslice [] [] [] []++P.L)) hst (hk.bindX fun u n1 tf1 t2 v hr1 hle1 hst1 hrd1 hk1=>tB ?_)
 rw[pE 58];refine Ez (P:=P.wL (jM pb (.str []) .nilslice .nilslice .nilslice .nilslice [] [] [] []++P.L)) hst1 (hk1.bindX fun w n2 tf2 t3 v hr2 hle2 hst2 hrd2 hk2=>?_)
 cases hrd2;refine vF (mA (gF 0 (by omega)) (bC fun b2 _ _=>?_))
 obtain⟨t4,m1,m2⟩:=zB.setCel (A:=[jG P n2 0]) (j:=0) (v:=.str w) hst2.ob jN rfl (by show 0+1<=4;omega) rfl
 refine⟨_,_,m1 b2,tB ?_⟩
 have hst4:St (P.wL (jM pb (.str w) .nilslice .nilslice .nilslice .nilslice [] [] [] []++P.L)) tf2 t4 n2 0:=⟨hst2.ts,m2,hst2.len,hst2.le,hst2.good,hst2.glob⟩
 rw[pE 59];refine Bw (k:=5) (P:=P.wL (jM pb (.str w) .nilslice .nilslice .nilslice .nilslice [] [] [] []++P.L)) (by omega) hst4 (hk2.bindX fun w5 n3 tf3 t5 v hr3 hle3 hst3 hrd3 hk3=>?_)
 obtain⟨x,_,_,rfl⟩:=hrd3
 exact dC (mQ _) (zD (zda _ _ _ _ _ _ _ _ _ (by omega) ⟨.nilslice,.nilslice,.nilslice,.nilslice,[],[],.inl ⟨rfl,rfl,rfl,rfl⟩,hst3,by simp,by simp,by simp,by simp⟩ hk3))
end
end
section
variable [yD]
abbrev zP:List zA:=[.str [],.nilslice,.nilslice,.nilslice]
abbrev cP(X:jI):List zA:=[.str (X.s 0),X.v 1,X.v 2,X.v 3]
def t28_eq(s:List Nat)(p1:zA):t28 s p1=tRun 27 zP cP s p1:=rfl
def QQ(v1 v4 v5 v6 v8:zA):Uy v1 v4 v5 v6 v8=tR13 27 zP cP v1 v4 v5 v6 v8:=rfl
def zca(v0 v1 v2 v3:zA):Ps v0 v1 v2 v3=tR3 27 zP v0 v1 v2 v3:=rfl
def zcc(v4 v5 v6:zA):Pv v4 v5 v6=tRe 27 v4 v5 v6:=rfl
def rt27:RT 27 zP cP:=⟨⟨_,ty27,rfl,rfl,rfl⟩,rfl,nQ rfl,rfl⟩
section
variable {t:Tr uA}{Q:jB}{s:List Nat}
def run28(hg:aJ t)(hby:∀b∈s,b<256)(hQ:match mG gK s with
  | .ok x=>∀t' cs,yB t t'->RD t' x.d cs->Q (.tup [.agg cs,.agg [.int .i64 0,.int .i64 0],.int .i64 0]) t'
  | .er e a b=>∀t',yB t t'->Q (.tup [.agg zP,.agg [.int .i64 (a:Int),.int .i64 (b:Int)],.int .i64 (e:Int)]) t'):Wc yA F 28 [.str s,.func (.func 29) [] []] t Q:=by
 refine w28 _ _ ?_
 rw[t28_eq];refine EW rt27 hg hby (fun m hm=>Ro hm) (fun e a b h=>⟨Yn h,?_⟩) (fun m hm tf1 t1 P b0 b1 b2 e1 e2 e3 e4 hle hst=>⟨rfl,tl28 _ _ _ _ _ ?_⟩)
 ·rw[Wu h]at hQ;exact hQ
 ·rw[QQ]
  simp only[zca,zcc];refine ze1 (rd:=Ll) (good:=fun tf' x cs=>RD tf' x.d cs) (r:=gK P.tk) rt27 e4 hst ?_ (fun Q E hk=>by rw[pE 29];exact zit hst hk) (by kernel_rfl) (fun tf' x v ⟨cs,h1,h2⟩=>⟨cs,h1,by obtain⟨a,b,c,rfl,_⟩:=Hm h2;rfl,agP h2,Nu h2,by obtain⟨a,b,c,rfl,_⟩:=Hm h2;exact h2.all,h2⟩)
  rw[He hm]at hQ;rw[e1]
  cases hr:gK m with
  | ok x n=>
   rw[hr]at hQ;exact fun tf' t' cs k1 k2 k3=>hQ t' cs (hle.trans (k1.trans k2)) (k3.mono k2)
  | er e i=>
   rw[hr]at hQ;have ht:yG P i=Bu m s i:=by unfold yG Bu;rw[e1,e2,e3]
   intro t' k1;rw[ht];exact hQ t' (hle.trans k1)
def ziv(hg:aJ t)(hby:∀b∈s,b<256)(hQ:match mG gK s with
  | .ok x=>∀t' cs,yB t t'->RD t' x.d cs->Q (.tup [.agg cs,.agg [.int .i64 0,.int .i64 0],.int .i64 0]) t'
  | .er e a b=>∀t',yB t t'->Q (.tup [.agg zP,.agg [.int .i64 (a:Int),.int .i64 (b:Int)],.int .i64 (e:Int)]) t'):Wc yA F 10 [.str s] t Q:=by
 refine w10 ?_
 unfold t10;refine tB ?_
 rw[q28];refine run28 hg hby ?_
 cases hr:mG gK s with
 | ok x=>
  rw[hr]at hQ;intro t' cs k1 k2;refine mA (v:=.agg cs) rfl (dC (agP k2) (mA (v:=.agg [.int .i64 0,.int .i64 0]) rfl (dC ag2 (mA (v:=.int .i64 0) rfl (kB ?_)))))
  show qA _ _ _ (.ite (zC zA.one (cP (cellsOf cs))) (.ite true (.ret (.tup [.agg (cP (cellsOf cs)),_,_])) .fail) .fail) _ _
  have hc:cP (cellsOf cs)=cs:=Nu k2
  rw[hc];refine rA (by obtain⟨a,b,c,rfl,_⟩:=Hm k2;exact k2.all) (rA rfl (hQ t' cs k1 k2))
 | er e a b=>
  rw[hr]at hQ;intro t' k1;exact mA (v:=.agg zP) rfl (dC rt27.ag (mA (v:=.agg [.int .i64 (a:Int),.int .i64 (b:Int)]) rfl (dC ag2 (mA (v:=.int .i64 (e:Int)) rfl (kB (rA rfl (rA rfl (hQ t' k1))))))))
end
end
end Go.Proofs
namespace Go.Am
open Go Go.RowKit
section
variable {t:Tr uA}{C:cA}{W J:qF}{S el sz p:Nat}{Q:jB}{zs:List zA}
abbrev Cmp:=List zA->List zA->(zA->T)->T
def cmpC (g:Nat):Cmp:=fun a b K=>.call g [.agg a,.agg b] K
def zik(C:cA)(S el p:Nat)(g:Cmp)(zs:List zA)(ne:Bool->Bool)(v0 v1:zA)(i:Int):T:=
 .opt (cC v0) fun a0=>.asI .i64 a0 fun n1=>.ite (oC i n1)
  (.opt (mC C S v0 (.int .i64 i)) fun a2=>.light (fun m=>fA C el ⟨0,m⟩ a2) fun a3=>.asG zs a3 fun X4=>
   .opt (mC C S v1 (.int .i64 i)) fun a5=>.light (fun m=>fA C el ⟨0,m⟩ a5) fun a6=>.asG zs a6 fun X7=>
   g (eZ zs X4 0) (eZ zs X7 0) fun a8=>.asB a8 fun b9=>.ite (ne b9) (.ret (.bool false)) (.jump p [v0,v1,.int .i64 (bA .i64 (i+1))]))
  (.ret (.bool true))
theorem SG{g:Cmp}{ne:Bool->Bool}{ok:Bool}{ds:List D}{v0 v1:zA}(hS:nJ C S el sz true)(hz:∀d∈ds,d.zs=zs)(hne:ne ok=false)
  (hg:∀d∈ds,∀cs cs' K,RD t d cs->RD t d cs'->qA C.base W J (K (.bool ok)) t Q->qA C.base W J (g cs cs' K) t Q) (hlen:ds.length<300000)
  (hj:∀i,qA C.base W J (zik C S el p g zs ne v0 v1 i) t Q->J p [v0,v1,.int .i64 i] t Q) (h0:xB t sz ds v0) (h1:xB t sz ds v1) (hQ:Q (.bool true) t) :
  ∀(k i:Nat),i+k=ds.length->J p [v0,v1,.int .i64 (i:Int)] t Q:=by
 intro k;induction k with
 | zero=>
  intro i hi;refine hj _ ?_
  unfold zik;exact mA h0.len (kB (oB (fun e=>by grind [lG]) hQ))
 | succ k ih=>
  intro i hi;have hlt:i<ds.length:=by omega
  have hd:ds[i]?=some ds[i]:=ybd hlt
  have hm:ds[i]∈ds:=ycj hlt
  obtain⟨b,off,cs,g1,g2,g3,g4,g5⟩:=nJ.at hS (by simp) h0 hd
  obtain⟨b',off',cs',f1,f2,f3,f4,f5⟩:=nJ.at hS (by simp) h1 hd
  have hzz:=hz _ hm
  refine hj _ ?_
  unfold zik;refine mA h0.len (kB (rA (lG.2 (by omega)) (mA g1 (vC g2 (dC (nV g5 hzz) (mA f1 (vC f2 (dC (nV f5 hzz) ?_))))))))
  rw[g5.mk hzz,f5.mk hzz];refine hg _ hm _ _ _ g5 f5 (vE (oB (by simp_all) (zD ?_)))
  rw[aC (by omega) (by omega)]
  exact ih (i+1) (by omega)
end
end Go.Am
namespace Go.Proofs
open Go Go.Am
mutual
def aA.cpy:aA->Prop
 | .mk _ _ v args=>(v.f.n.limbs.length<300000/\v.f.d.limbs.length<300000)/\args.length<300000/\aA.cpys args
def aA.cpys:List aA->Prop
 | []=>True
 | x::l=>aA.cpy x/\aA.cpys l
end
structure fH.cpy (p:fH):Prop where
 defs:p.defs.length<300000
 tables:p.tables.length<300000
 clauses:p.clauses.length<300000
 rows:∀x∈p.tables,x.rows.length<300000/\∀r∈x.rows,r.f.n.limbs.length<300000/\r.f.d.limbs.length<300000
 exprs:∀x∈p.clauses,aA.cpy x.when_/\aA.cpy x.then_
def mI.cpy(f:mI):Prop:=f.n.limbs.length<300000/\f.d.limbs.length<300000
def NE (tk:List cB)(a b:Nat):Prop:=∀j,a<=j->j<b->iE tk 5 j=false
theorem NE.nil{tk:List cB}{a:Nat}:NE tk a a:=fun j h1 h2=>by omega
def NE.join{tk:List cB}{a b c:Nat}(h:NE tk a b)(k:NE tk b c):NE tk a c:=fun j h1 h2=>by
 by_cases hj:j<b
 ·exact h j h1 hj
 ·exact k j (by omega) h2
theorem NE.one{tk:List cB}{a:Nat}(h:iE tk 5 a=false):NE tk a (a+1):=fun j h1 h2=>by
 have:j=a:=by omega
 subst this;exact h
def Yw{tk:List cB}{n q:Nat}(h:iE tk q n=true)(hq:q≠5):iE tk 5 n=false:=by
 unfold iE at *
 cases hx:tk[n]? with
 | none=>rfl
 | some t=>
  rw[hx]at h;have:=of_decide_eq_true h
  exact decide_eq_false (by omega)
def Gk{tk:List cB}{n:Nat}{w:List Nat}(h:acc tk w n=true):iE tk 5 n=false:=by
 unfold acc at h;unfold iE
 cases hx:tk[n]? with
 | none=>rfl
 | some t=>
  rw[hx]at h;simp only[ybb,ycq,decide_eq_true_eq]at h;exact decide_eq_false (by omega)
structure VP where
 tk:List cB
 tk2:List cB
 d:Nat
 k:Nat
 full:Prop
 dp:Prop
abbrev eV:List (List Nat):=[[41],iK]
structure VW (S:VP):Prop where
 acc:∀i,i<S.k->∀w,Proofs.acc S.tk2 w (i+S.d)=Proofs.acc S.tk w i
 kind:∀i,i<S.k->∀q,iE S.tk2 q (i+S.d)=iE S.tk q i
 text:∀i,i<S.k->iH S.tk2 (i+S.d)=iH S.tk i
 qacc:∀w,w∉eV->Proofs.acc S.tk2 w (S.k+S.d)=false
 qkind:∀q,q=2\/q=3->iE S.tk2 q (S.k+S.d)=false
 qname:mL S.tk2 (S.k+S.d)=false
 full:S.full->¬ S.dp/\(∀w,Proofs.acc S.tk2 w (S.k+S.d)=false)/\∀q,q≠5->iE S.tk2 q (S.k+S.d)=false
 good:∀x∈S.tk,oU x
def kQ {α:Type}(j:Nat)(r:PR α):Prop:=match r with | .ok _ n=>n=j | .er e i=>i=j/\(e=120\/e=122)
def MO {α:Type}(S:VP)(V:α->Prop)(n:Nat)(r:PR α):Prop:=
 match r with | .ok a n'=>n<=n'/\NE S.tk n n'/\V a | .er e i=>n<=i/\NE S.tk n i/\(e=120\/e=121\/e=122)
structure RA {α:Type} (S:VP) (V:α->Prop) (n:Nat) (r r2:PR α):Prop where
 mo:MO S V n r
 ok:n<=S.k->∀a n',r=.ok a n'->n'<=S.k->r2=.ok a (n'+S.d)\/(S.dp/\∃i,r2=.er 122 i)
 er:n<=S.k->S.full->∀e,r=.er e S.k->kQ (S.k+S.d) r2
structure qC {α:Type} (S:VP) (H:Prop) (V:α->Prop) (f f2:PM α):Prop where
 ra:H->∀n,RA S V n (f n) (f2 (n+S.d))
 rr:S.full->kQ (S.k+S.d) (f2 (S.k+S.d))
section
variable {S:VP}{H:Prop}{α β:Type}{V:α->Prop}{W:β->Prop}{n:Nat}
def RA.right{r r2 r2':PR α}(h:RA S V n r r2')(e:n<=S.k->r2=r2'):RA S V n r r2:=
 ⟨h.mo,fun hn=>by rw[e hn];exact h.ok hn,fun hn=>by rw[e hn];exact h.er hn⟩
theorem RA.step{r r2 r2':PR α}(hn:iE S.tk 5 n=false)(h:RA S V (n+1) r r2')(e:n<S.k->r2=r2'):RA S V n r r2:=by
 have hm:=h.mo
 refine⟨?_,fun hk a n' hr hn'=>?_,fun hk hf e' hr=>?_⟩
 ·unfold MO at hm ⊢
  cases r with
  | ok a n'=>exact⟨by omega,(NE.one hn).join hm.2.1,hm.2.2⟩
  | er e i=>exact⟨by omega,(NE.one hn).join hm.2.1,hm.2.2⟩
 ·subst hr
  have:=hm.1
  rw[e (by omega)]
  exact h.ok (by omega) a n' rfl hn'
 ·subst hr
  have:=hm.1
  rw[e (by omega)]
  exact h.er (by omega) hf e' rfl
def RA.bind(hv:VW S){r r2:PR α}{g g2:α->PM β}(hf:RA S V n r r2)(hg:∀a n1,r=.ok a n1->V a->RA S W n1 (g a n1) (g2 a (n1+S.d)))(hz:S.full->∀a,kQ (S.k+S.d) (g2 a (S.k+S.d))):RA S W n (r.bind g) (r2.bind g2):=by
 have hm:=hf.mo
 cases r with
 | er e i=>
  refine⟨hm,fun _ a n' h=>(by cases h),fun hn hfu e' hr=>?_⟩
  have:=hf.er hn hfu e' (by cases hr;rfl)
  cases r2 with
  | ok a m=>unfold kQ at this;subst this;exact hz hfu a
  | er e i=>exact this
 | ok a n1=>
  obtain⟨h1,h2,h3⟩:=hm
  have hg1:=hg a n1 rfl h3
  have hgm:=hg1.mo
  refine⟨?_,fun hn b n' hr hn'=>?_,fun hn hfu e' hr=>?_⟩
  ·show MO S W n (g a n1)
   unfold MO at hgm ⊢
   cases hq:g a n1 with
   | ok b n'=>rw[hq]at hgm;exact⟨by omega,h2.join hgm.2.1,hgm.2.2⟩
   | er e i=>rw[hq]at hgm;exact⟨by omega,h2.join hgm.2.1,hgm.2.2⟩
  ·change g a n1=_ at hr
   rw[hr]at hgm;have:=hgm.1
   rcases hf.ok hn a n1 rfl (by omega)with e | ⟨e1,i,e2⟩
   ·rw[e];exact hg1.ok (by omega) b n' hr hn'
   ·rw[e2];exact .inr ⟨e1,i,rfl⟩
  ·change g a n1=_ at hr
   rw[hr]at hgm;have:=hgm.1
   rcases hf.ok hn a n1 rfl (by omega)with e | ⟨e1,i,e2⟩
   ·rw[e];exact hg1.er (by omega) hfu e' hr
   ·exact absurd e1 (hv.full hfu).1
def kQ.bind{j:Nat}{r:PR α}{g:α->PM β}(h:kQ j r)(hg:∀a,kQ j (g a j)):kQ j (r.bind g):=by
 cases r with
 | ok a n=>unfold kQ at h;subst h;exact hg a
 | er e i=>exact h
def qC.bind(hv:VW S){f f2:PM α}{g g2:α->PM β}(hf:qC S H V f f2)(hg:∀a,qC S (H/\V a) W (g a) (g2 a)):qC S H W (fun n=>(f n).bind g) (fun n=>(f2 n).bind g2):=
 ⟨fun hH n=>RA.bind hv (hf.ra hH n) (fun a n1 _ hV=>(hg a).ra ⟨hH,hV⟩ n1) fun hfu a=>(hg a).rr hfu,fun hfu=>kQ.bind (hf.rr hfu) fun a=>(hg a).rr hfu⟩
def RA.ret{a:α}(h:V a):RA S V n (.ok a n) (.ok a (n+S.d)):=⟨⟨ybk _,NE.nil,h⟩,fun _ b m e _=>by cases e;exact .inl rfl,fun _ _ e h=>by cases h⟩
def qC.ret{a:α}(h:H->V a):qC S H V (fun n=>.ok a n) (fun n=>.ok a n):=⟨fun hH n=>RA.ret (h hH),fun _=>rfl⟩
def RA.fail{e:Nat}(he:e=120\/e=122):RA S V n (.er e n) (.er e (n+S.d)):=
 ⟨⟨ybk _,NE.nil,by omega⟩,fun _ b m e _=>(by cases e),fun _ _ e' h=>by cases h;exact⟨rfl,he⟩⟩
def qC.fail{e:Nat}(he:e=120\/e=122):qC S H V (fun n=>.er e n) (fun n=>.er e n):=⟨fun _ n=>RA.fail he,fun _=>⟨rfl,he⟩⟩
theorem qC.mono{H':Prop}{V':α->Prop}{f f2:PM α}(h:qC S H V f f2)(h1:H'->H)(h2:∀a,V a->V' a):qC S H' V' f f2:=
 ⟨fun hH n=>⟨by
  have:=(h.ra (h1 hH) n).mo
  unfold MO at this ⊢
  cases hq:f n with
  | ok a n'=>rw[hq]at this;exact⟨this.1,this.2.1,h2 _ this.2.2⟩
  | er e i=>rw[hq]at this;exact this,(h.ra (h1 hH) n).ok,(h.ra (h1 hH) n).er⟩,h.rr⟩
def qC.ite{p p2:Nat->Bool}{A A2 B B2:PM α}(hp:∀i,i<S.k->p2 (i+S.d)=p i)(hq:p2 (S.k+S.d)=false)(hA:qC S H V A A2)(hs:∀n a n',p n=true->A n=.ok a n'->n<n')(hB:qC S H V B B2) :
  qC S H V (fun n=>if p n=true then A n else B n) (fun n=>if p2 n=true then A2 n else B2 n):=by
 refine⟨fun hH n=>?_,fun hfu=>by show kQ _ (if p2 (S.k+S.d)=true then _ else _);rw[hq,yaa (by simp)];exact hB.rr hfu⟩
 show RA S V n (if p n=true then _ else _) (if p2 (n+S.d)=true then _ else _)
 have hq':∀x y:PR α,n=S.k->(if p2 (n+S.d)=true then x else y)=y:=fun x y e=>by rw[e,hq,yaa (by simp)]
 cases h:p n with
 | true=>
  rw[yab rfl];have hr:=hA.ra hH n
  refine⟨hr.mo,fun hn a n' hr' hn'=>?_,fun hn hfu e hr'=>?_⟩
  ·have:=hs n a n' h hr'
   rw[hp n (by omega),h,yab rfl]
   exact hr.ok hn a n' hr' hn'
  ·by_cases hk:n<S.k
   ·rw[hp n hk,h,yab rfl]
    exact hr.er hn hfu e hr'
   ·have:n=S.k:=by omega
    rw[hq' _ _ this,this];exact hB.rr hfu
 | false=>
  rw[yaa (by simp)]
  refine(hB.ra hH n).right fun hn=>?_
  by_cases hk:n<S.k
  ·rw[hp n hk,h,yaa (by simp)]
  ·exact hq' _ _ (by omega)
def qC.acc(hv:VW S){w:List Nat}{A A2 B B2:PM α}(hw:w∉eV)(hA:qC S H V A A2)(hB:qC S H V B B2) :
  qC S H V (fun n=>if Proofs.acc S.tk w n=true then A (n+1)else B n) (fun n=>if Proofs.acc S.tk2 w n=true then A2 (n+1)else B2 n):=by
 have hq:=hv.qacc w hw
 refine⟨fun hH n=>?_,fun hfu=>by show kQ _ (if Proofs.acc S.tk2 w (S.k+S.d)=true then _ else _);rw[hq,yaa (by simp)];exact hB.rr hfu⟩
 show RA S V n (if Proofs.acc S.tk w n=true then _ else _) (if Proofs.acc S.tk2 w (n+S.d)=true then _ else _)
 cases h:Proofs.acc S.tk w n with
 | true=>
  rw[yab rfl];refine RA.step (Gk h) (hA.ra hH (n+1)) fun hn=>?_
  rw[hv.acc n hn,h,yab rfl];congr 1;omega
 | false=>
  rw[yaa (by simp)]
  refine(hB.ra hH n).right fun hn=>?_
  by_cases hk:n<S.k
  ·rw[hv.acc n hk,h,yaa (by simp)]
  ·have:n=S.k:=by omega
   rw[this,hq,yaa (by simp)]
def qC.cases(b:Bool){A A2 B B2:PM α}(hA:b=true->qC S H V A A2)(hB:b=false->qC S H V B B2):qC S H V (fun n=>if b=true then A n else B n) (fun n=>if b=true then A2 n else B2 n):=by
 cases b with
 | true=>exact hA rfl
 | false=>exact hB rfl
end
section
variable {S:VP}{H:Prop}{n:Nat}
def JL{tk:List cB}{q n:Nat}(hg:∀x∈tk,oU x)(h:iE tk q n=true):q=2->nS (iH tk n):=by
 rintro rfl
 unfold iE at h;unfold iH
 cases hx:tk[n]? with
 | none=>rw[hx]at h;cases h
 | some t=>rw[hx]at h;exact(hg t (ycv hx)).1 (of_decide_eq_true h)
def CS(hv:VW S){q:Nat}(hq:q≠5):qC S H (fun s=>q=2->nS s) (tG S.tk q) (tG S.tk2 q):=by
 refine⟨fun _ n=>?_,fun hfu=>?_⟩
 ·unfold tG
  cases h:iE S.tk q n with
  | true=>
   rw[yab rfl];refine⟨⟨by omega,NE.one (Yw h hq),JL hv.good h⟩,fun hn a n' hr hn'=>?_,fun _ _ e hr=>by cases hr⟩
   cases hr;rw[hv.kind n (by omega),h,yab rfl,hv.text n (by omega)]
   left;congr 1;omega
  | false=>
   rw[yaa (by simp)]
   refine⟨⟨by omega,NE.nil,by omega⟩,fun _ a n' hr=>(by cases hr),fun hn hfu e hr=>?_⟩
   cases hr;rw[(hv.full hfu).2.2 q hq,yaa (by simp)]
   exact⟨rfl,.inl rfl⟩
 ·unfold tG
  rw[(hv.full hfu).2.2 q hq,yaa (by simp)]
  exact⟨rfl,.inl rfl⟩
def Dc(hv:VW S){w:List Nat}:qC S H (fun _=>True) (xE S.tk w) (xE S.tk2 w):=by
 refine⟨fun _ n=>?_,fun hfu=>?_⟩
 ·unfold xE
  cases h:acc S.tk w n with
  | true=>
   rw[yab rfl];refine⟨⟨by omega,NE.one (Gk h),trivial⟩,fun hn a n' hr hn'=>?_,fun _ _ e hr=>by cases hr⟩
   cases hr;rw[hv.acc n (by omega),h,yab rfl]
   left;congr 1;omega
  | false=>
   rw[yaa (by simp)]
   refine⟨⟨by omega,NE.nil,by omega⟩,fun _ a n' hr=>(by cases hr),fun hn hfu e hr=>?_⟩
   cases hr;rw[(hv.full hfu).2.1 w,yaa (by simp)]
   exact⟨rfl,.inl rfl⟩
 ·unfold xE
  rw[(hv.full hfu).2.1 w,yaa (by simp)]
  exact⟨rfl,.inl rfl⟩
def HL(hv:VW S){i:Nat}(h:i<S.k):mL S.tk2 (i+S.d)=mL S.tk i:=by
 unfold mL;rw[hv.kind i h,hv.text i h]
def VI{tk:List cB}{n:Nat}(h:mL tk n=true):iE tk 1 n=true:=by
 unfold mL at h;simp only[ybb]at h;exact h.1
def HN(hv:VW S):qC S H (fun _=>True) (vJ S.tk) (vJ S.tk2):=by
 refine⟨fun _ n=>?_,fun hfu=>?_⟩
 ·unfold vJ
  cases h:mL S.tk n with
  | true=>
   rw[yab rfl];refine⟨⟨by omega,NE.one (Yw (VI h) (by omega)),trivial⟩,fun hn a n' hr hn'=>?_,fun _ _ e hr=>by cases hr⟩
   cases hr;rw[HL hv (by omega),h,yab rfl,hv.text n (by omega)]
   left;congr 1;omega
  | false=>
   rw[yaa (by simp)]
   refine⟨⟨by omega,NE.nil,by omega⟩,fun _ a n' hr=>(by cases hr),fun hn hfu e hr=>?_⟩
   cases hr;rw[hv.qname,yaa (by simp)]
   exact⟨rfl,.inl rfl⟩
 ·unfold vJ
  rw[hv.qname,yaa (by simp)]
  exact⟨rfl,.inl rfl⟩
def zay(hv:VW S):qC S H (fun _=>True) (rN S.tk) (rN S.tk2):=(CS hv (q:=3) (by omega)).bind hv fun a=>qC.ret fun _=>trivial
def YN(hv:VW S){f:Nat->List Nat}{m:Nat}(hf:∀i,f i∉eV):∀(k i:Nat),qC S H (fun _=>True) (sM S.tk f m k i) (sM S.tk2 f m k i):=by
 intro k;induction k with
 | zero=>intro i;exact qC.fail (.inl rfl)
 | succ k ih=>
  intro i;by_cases h:m<i
  ·have e:∀tk,sM tk f m (k+1) i=fun n=>.er 120 n:=fun tk=>by funext n;unfold sM;rw[yab h]
   rw[e,e];exact qC.fail (.inl rfl)
  ·have e:∀tk,sM tk f m (k+1) i=fun n=>if acc tk (f i) n=true then .ok i (n+1)else sM tk f m k (i+1) n:=fun tk=>by funext n;rw[sM,yaa h]
   rw[e,e];exact qC.acc hv (A:=fun n=>.ok i n) (A2:=fun n=>.ok i n) (hf i) (qC.ret fun _=>trivial) (ih (i+1))
end
end Go.Proofs
namespace Go.Proofs
open Go Go.Am
variable [yD]
variable {t tf:Tr uA}
def nLt{a b:Int}(h:¬ a<b):oC a b≠true:=fun e=>h (lG.1 e)
def yLt{a b:Int}(h:a<b):oC a b=true:=lG.2 h
def sam203{l:List Nat}{u v:zA}(hu:xB t 1 (rE l) u)(hv:xB t 1 (rE l) v)(hl:l.length<300000):iC yA F 26 [u,v] t=some (.bool true):=by
 have hn:cC u=some (.int .i64 (l.length:Int)):=by rw[hu.len,qV]
 have hn':cC v=some (.int .i64 (l.length:Int)):=by rw[hv.len,qV]
 refine bE.2 (w26 ?_)
 unfold t26 uI uD uZ;refine mA hn (kB (mA hn' (kB (oB (fun e=>absurd rfl (sW.1 e)) (zD ?_)))))
 have loop:∀(m i:Nat),i+m=l.length->jp 26 2 [u,v,.int .i64 (i:Int)] t (fun v' t'=>v'=.bool true/\t'=t):=by
  intro m;induction m with
  | zero=>
   intro i hi;refine j26_2 ?_
   unfold zih uI uH kD uD qL uZ;exact mA hn (kB (oB (nLt (by omega)) ⟨rfl,rfl⟩))
  | succ m ih=>
   intro i hi;obtain⟨x,hx⟩:=getElem?_of_lt (show i<l.length by omega)
   obtain⟨p,o,g1,g2⟩:=xB.idx (C:=yA) pZ hu hx
   obtain⟨p',o',g3,g4⟩:=xB.idx (C:=yA) pZ hv hx
   refine j26_2 ?_
   unfold zih uI uH kD uD qL uZ;refine mA hn (kB (rA (yLt (by omega)) (mA g1 (vC g2 (kB (mA g3 (vC g4 (kB (oB (fun e=>absurd rfl (sW.1 e)) (zD ?_))))))))))
   rw[aC (by omega) (by omega)]
   exact ih (i+1) (by omega)
 exact loop l.length 0 (by omega)
def zfr{w:lK}{cs ds:List zA}(hl:w.limbs.length<300000)(h:RD t w.d cs)(k:RD t w.d ds):iC yA F 83 [.agg cs,.agg ds] t=some (.bool true):=by
 obtain⟨u,rfl,hu⟩:=Qk h
 obtain⟨v,rfl,hv⟩:=Qk k
 refine bE.2 (w83 ?_)
 unfold t83 uB uD;refine rA (by rw[dY];simp) (tB ?_)
 rw[q26,sam203 hu hv hl,iA];exact vE ⟨rfl,rfl⟩
def sam132{f:mI}{cs ds:List zA}(hl:f.n.limbs.length<300000/\f.d.limbs.length<300000)(h:RD t f.dd cs)(k:RD t f.dd ds):iC yA F 53 [.agg cs,.agg ds] t=some (.bool true):=by
 obtain⟨a,b,rfl,ha,hb⟩:=rd_frac h
 obtain⟨a',b',rfl,ha',hb'⟩:=rd_frac k
 refine bE.2 (w53 ?_)
 unfold t53 uB uD;refine tB ?_
 rw[q83,zfr hl.1 (Cn (w:=f.n) ha) (Cn (w:=f.n) ha'),iA]
 refine vE (rA rfl (tB ?_))
 rw[q83,zfr hl.2 (Cn (w:=f.d) hb) (Cn (w:=f.d) hb'),iA]
 exact vE ⟨rfl,rfl⟩
def sam94{x:fG}{cs ds:List zA}(hl:x.f.n.limbs.length<300000/\x.f.d.limbs.length<300000)(h:RD t x.d cs)(k:RD t x.d ds):iC yA F 24 [.agg cs,.agg ds] t=some (.bool true):=by
 obtain⟨a,b,rfl,ha,hb⟩:=Lk h
 obtain⟨a',b',rfl,ha',hb'⟩:=Lk k
 refine bE.2 (w24 ?_)
 unfold t24 uB uD;refine rA (kL.2 rfl) (tB ?_)
 rw[q53,sam132 hl (Ib (f:=x.f) ha hb) (Ib (f:=x.f) ha' hb'),iA]
 refine vE (rA rfl ?_)
 rw[kL.2 rfl];exact⟨rfl,rfl⟩
mutual
theorem sam51:∀(x:aA),aA.cpy x->∀cs ds,RD t x.d cs->RD t x.d ds->iC yA F 16 [.agg cs,.agg ds] t=some (.bool true)
 | .mk op name v args,h,cs,ds,hc,hd=>by
  obtain⟨a,b,c,rfl,ha,hb,he⟩:=wJ hc
  obtain⟨a',b',c',rfl,ha',hb',he'⟩:=wJ hd
  simp only[aA.op,aA.name,aA.v,aA.args]at ha hb he ha' hb' he' ⊢
  unfold aA.cpy at h;refine bE.2 (w16 ?_)
  unfold t16 uB uD uZ uY;refine rA (kL.2 rfl) (rA ((sN _ _).2 rfl) (tB ?_))
  rw[q24,sam94 h.1 (Md (x:=v) ha hb) (Md (x:=v) ha' hb'),iA]
  refine vE (rA rfl (tB ?_))
  have:=sam95 args h.2.2
  have e95:iC yA F 44 [c,c'] t=some (.bool true):=by
   refine bE.2 (w44 ?_)
   unfold t44 uI uD uZ;refine mA he.len (kB (mA he'.len (kB (oB (fun e=>absurd rfl (sW.1 e)) (zD ?_)))))
   refine SG (C:=yA) (W:=Wq yA F rC) (J:=Jq yA F 44) (g:=cmpC 16) (ne:=not) (ok:=true) (ds:=args.map aA.d) sl48 (fun d hd=>?_) rfl (fun d hd cs cs' K h1 h2 hK=>?_) (by simp_all) (fun i hw=>j44_2 hw) he he' ⟨rfl,rfl⟩ args.length 0 (by simp)
   ·obtain⟨x,_,rfl⟩:=yaq.1 hd
    exact x.zs
   ·obtain⟨x,hx,rfl⟩:=yaq.1 hd
    refine tB ?_
    rw[q16,this x hx cs cs' h1 h2,iA];exact hK
  rw[q44,e95,iA];exact vE ⟨rfl,rfl⟩
theorem sam95:∀(l:List aA),aA.cpys l->∀x∈l,∀cs ds,RD t x.d cs->RD t x.d ds->iC yA F 16 [.agg cs,.agg ds] t=some (.bool true)
 | [],_,x,hx=>by cases hx
 | y::l,h,x,hx=>by
  unfold aA.cpys at h;rcases ybs.1 hx with e | hx
  ·rw[e];exact sam51 y h.1
  ·exact sam95 l h.2 x hx
end
end Go.Proofs
namespace Go.Am
open Go Go.RowKit
def BS{C:cA}{F:Tr tE}{f:Nat}{args:List zA}{t:Tr uA}{Q:jB}{g:List zA->xA->Option (zA × xA)}(hg:C.prims.get f=some g)(h:∀X HA,Ov C.base t X HA->∃v t' HA',g args HA=some (v,HA')/\Ov C.base t' X HA'/\Q v t')(hf:Nat.blt f yo=true:=by rfl):Wc C F f args t Q:=by
 intro X HA ho;rw[Ga hf,hg];obtain⟨v,t',HA',h1,h2,h3⟩:=h X HA ho
 exact⟨⟨v,false⟩,t',HA',X,by show ob (g args HA) _=_;rw[h1];rfl,h2,bI.refl _,h3⟩
end Go.Am
namespace Go.Proofs
open Go Go.Am
variable [yD]
variable {t tf:Tr uA}{bx T:Nat}{s m:List Nat}{ex:List zA}
def el95:Jr yA 95 5 1:=⟨⟨_,ty95,rfl,rfl⟩,⟨_,ty5,rfl,rfl,by decide,by decide⟩⟩
def co5:∀z,yA.tys.get 5=some z->qN 5 z=.ty 5:=fun z h=>by rw[ty5]at h;cases h;rfl
theorem KH{cd:Lo}{base sz:Nat}{l:List D}{v:zA}{b:Nat}(h:kK cd base tf t sz l v)(hb:wN v b)(hn:t.get b=none):False:=by
 obtain⟨_,_,y,hy⟩:=h.none hb
 simp_all
def CD{b o:Nat}:kF (.ptr b o)=some (.ptr b o):=rfl
def BX (T:Nat)(ex:List zA)(tf t:Tr uA)(bx:Nat)(s:List Nat):Prop:=
 yA.base<=bx/\tf.get bx=none/\yB tf t/\fB 256 s/\Mf Re T (ex.length+2)=true/\∃p tv,(p=zA.nilptr\/p=.ptr bx 0)/\vD t bx (some (.ty T)) (p::tv::ex)/\kK (.ty 5) yA.base tf t 1 (sC .u8 s) tv/\(¬ wN tv bx/\(s=[]->tv=.nilslice))
def BX.le(h:BX T ex tf t bx s):yB tf t:=h.2.2.1
theorem BX.both(h:BX T ex tf t bx s){n:Nat}(hn:t.get n=none)(y:uA):BX T ex (tf.set n y) (t.set n y) bx s:=by
 obtain⟨h1,h2,h3,ha,hM,p,tv,hp,h4,h5,h6⟩:=h
 have hbx:bx≠n:=by intro e;obtain⟨c,h,_⟩:=h4;simp_all
 refine⟨h1,by grind [Tr.get_set],EL hn h3,ha,hM,p,tv,hp,h4.off (by rw[Tr.get_set,yaa hbx]),?_,h6⟩
 have hb:∀b,wN tv b->b≠n:=fun b hb e=>KH h5 hb (e ▸ hn)
 rcases h5 with⟨rfl,h5⟩ | ⟨b,cl,c,rfl,k0,k1,k2,k3,k4⟩
 ·exact .inl ⟨rfl,h5⟩
 ·have hbn:=hb b (Cv.2 rfl)
  exact .inr ⟨b,cl,c,rfl,k0,by grind [Tr.get_set],by grind [Tr.get_set],k3,sD.mono (fun c u hc=>by
   grind [Hz,Tr.get_set]) _ _ k4⟩
theorem BX.out{n:Nat}{y:uA}(hn:tf.get n=none)(h:BX T ex (tf.set n y) t bx s):BX T ex tf (t.del n) bx s:=by
 obtain⟨h1,h2,h3,ha,hM,p,tv,hp,h4,h5,h6⟩:=h
 have hbx:bx≠n:=by grind [Tr.get_set]
 have hle:yB tf (tf.set n y):=(oO hn y).1
 rw[Tr.get_set,yaa hbx]at h2;refine⟨h1,h2,fun c u hc=>?_,ha,hM,p,tv,hp,h4.off (by rw[Tr.get_del,yaa hbx]),?_,h6⟩
 ·have:c≠n:=fun e=>by simp_all
  rw[Tr.get_del,yaa this];exact h3 _ _ (hle _ _ hc)
 ·rcases h5 with⟨rfl,h5⟩ | ⟨b,cl,c,rfl,k0,k1,k2,k3,k4⟩
  ·exact .inl ⟨rfl,h5⟩
  ·have hbn:b≠n:=by grind [Tr.get_set]
   refine .inr ⟨b,cl,c,rfl,k0,by grind [Tr.get_set],by grind [Tr.get_del],k3,?_⟩
   grind [Jl]
theorem BX.less{tf0:Tr uA}(hle:yB tf0 tf)(h:BX T ex tf t bx s):BX T ex tf0 t bx s:=by
 obtain⟨h1,h2,h3,ha,hM,p,tv,hp,h4,h5,h6⟩:=h
 have no:∀b,tf.get b=none->tf0.get b=none:=fun b hb=>by
  cases hq:tf0.get b with
  | none=>rfl
  | some u=>rw[hle _ _ hq]at hb;cases hb
 refine⟨h1,no _ h2,hle.trans h3,ha,hM,p,tv,hp,h4,?_,h6⟩
 rcases h5 with⟨rfl,h5⟩ | ⟨b,cl,c,rfl,k0,k1,k2,k3,k4⟩
 ·exact .inl ⟨rfl,h5⟩
 ·exact .inr ⟨b,cl,c,rfl,k0,no _ k1,k2,k3,by grind [Jl]⟩
theorem BX.keep(h:BX T ex tf t bx s){t':Tr uA}(hle:yB tf t')(hk:∀b,b=bx\/(∃p tv,vD t bx (some (.ty T)) (p::tv::ex)/\wN tv b)->t'.get b=t.get b):BX T ex tf t' bx s:=by
 obtain⟨h1,h2,h3,ha,hM,p,tv,hp,h4,h5,h6⟩:=h
 exact⟨h1,h2,hle,ha,hM,p,tv,hp,h4.off (hk _ (.inl rfl)),h5.keep' fun b hb=>hk b (.inr ⟨p,tv,h4,hb⟩),h6⟩
theorem BX.junk(h:BX T ex tf t bx s){n:Nat}{t':Tr uA}(hn:t.get n=none)(ho:rG n t t'):BX T ex tf t' bx s:=by
 obtain⟨h1,h2,h3,ha,hM,p,tv,hp,h4,h5,h6⟩:=h
 have hbx:bx≠n:=by intro e;obtain⟨c,h,_⟩:=h4;simp_all
 refine⟨h1,h2,h3.off (Hz h3 hn) ho,ha,hM,p,tv,hp,h4.off (ho bx hbx),h5.keep' fun b hb=>ho b fun e=>KH h5 hb (e ▸ hn),h6⟩
theorem BX.check{Q:jB}(h:BX T ex tf t bx s)(hQ:∀t',BX T ex tf t' bx s->Q (.tup []) t'):Wc yA F 82 [.ptr bx 0] t Q:=by
 have h0:=h
 obtain⟨h1,h2,h3,ha,hM,p,tv,hp,⟨c,h4,h4'⟩,h5,h6⟩:=h
 have hg:yA.prims.get 82=some pChk:=by kernel_rfl
 refine BS hg fun X HA ho=>?_
 have hk:dD HA bx=some (c,(p::tv::ex).length,some (.ty T)):=by unfold dD;rw[ho.up h4];rfl
 have hc0:c.get 0=some p:=h4' 0 p rfl
 rcases hp with rfl | rfl
 ·refine⟨.tup [],t.set bx (.cells (c.set 0 (.ptr bx 0)) (zA.nilptr::tv::ex).length (some (.ty T))),setBlk HA bx (.cells (c.set 0 (.ptr bx 0)) (zA.nilptr::tv::ex).length (some (.ty T))),?_,ho.setBlk h4 _,hQ _ ?_⟩
  ·unfold pChk Hy
   simp only[];rw[hk,oA,hc0,oA];simp only[];have e1:(!Nat.blt bx (256+yD.n))=true:=by
    cases hq:Nat.blt bx (256+yD.n)with
    | true=>
     have h3:=kC.1 hq
     have h1':256+yD.n<=bx:=h1
     omega
    | false=>rfl
   simp_all
  ·refine⟨h1,h2,fun b u hb=>?_,ha,hM,.ptr bx 0,tv,.inr rfl,⟨_,by rw[Tr.get_set,yab rfl];rfl,fun j a hj=>?_⟩,h5.keep' fun b hb=>?_,h6⟩
   ·have:b≠bx:=fun e=>by simp_all
    rw[Tr.get_set,yaa this];exact h3 _ _ hb
   all_goals grind [Tr.get_set]
 ·refine⟨.tup [],t,HA,?_,ho,hQ _ h0⟩
  simp_all [pChk,Hy]
def fa77{b:Nat}:jC yA 110 1 (.ptr b 0)=some (.ptr b 1):=by kernel_rfl
theorem BX.write{Q:jB}(h:BX T ex tf t bx s)(hm:m≠[])(hlt:fB 256 m)(hl:s.length+m.length<400000)(hQ:∀v t',BX T ex tf t' bx (s++m)->Q v t'):Wc yA F 51 [.ptr bx 0,.str m] t Q:=by
 refine w51 ?_
 unfold t51 sI uZ;refine tB ?_
 rw[q82];refine h.check fun t' h'=>?_
 obtain⟨h1,h2,h3,ha,hM,p,tv,hp,h4,h5,h6⟩:=h'
 refine mA CD (mA fa77 (vC (h4.load1 (j:=1) ty95 rfl rfl) (bC fun n hn hbase=>?_)))
 have hbn:n≠bx:=by intro e;obtain⟨c,hh,_⟩:=h4;simp_all
 obtain⟨t1,g1,g2,g3,g4⟩:=ZO el95 ⟨_,jN,rfl⟩ co5 h5 hm hl hn hbase h3
 refine⟨_,_,g1,mA CD (mA fa77 (bC fun n2 _ _=>?_))⟩
 have h4':vD t1 bx (some (.ty T)) (p::tv::ex):=h4.off (g4 bx hbn.symm h6.1)
 obtain⟨t2,e1,e2,e3⟩:=h4'.store1 (v:=.slice n 0 (s.length+m.length) (s.length+m.length)) h1 ty95 rfl rfl rfl (j:=1) (by simp)
 refine⟨_,_,e1 n2,hQ _ _ ⟨h1,h2,g3.off h2 e3,fun x hx=>?_,hM,p,_,hp,e2,g2.keep' fun b hb=>e3 b fun e=>?_,fun e=>?_,fun e=>absurd (List.append_eq_nil_iff.1 e).2 hm⟩⟩
 ·rcases yaf.1 hx with hx | hx
  ·exact ha x hx
  ·exact hlt x hx
 all_goals grind [Cv]
def HU:∀ {l:List Nat},fB 256 l->mH Go.Am.byteOf (l.map fun(n:Nat)=>zA.int .u8 (n:Int))=some l
 | [],_=>rfl
 | x::l,h=>by
  have hx:Go.Am.byteOf (.int .u8 (x:Int))=some x:=by
   show sB (Nat.blt x 256) (some x)=_
   rw[kC.2 (h x (.head _))];rfl
  rw[ycm,tQ,hx,oA,HU fun y hy=>h y (.tail _ hy)]
  rfl
theorem BX.string{Q:jB}(h:BX T ex tf t bx s)(hl:s.length<400000)(hQ:∀t',yB tf t'->Q (.str s) t'):Wc yA F 52 [.ptr bx 0] t Q:=by
 obtain⟨h1,h2,h3,ha,hM,p,tv,hp,⟨c,h4,h4'⟩,h5,h6⟩:=h
 have hg:yA.prims.get 52=some pStr:=by kernel_rfl
 rcases h5 with⟨rfl,h5⟩ | ⟨b,cl,d,rfl,k0,k1,k2,k3,k4⟩
 ·refine BS hg fun X HA ho=>?_
  have hk:dD HA bx=some (c,(p::zA.nilslice::ex).length,some (.ty T)):=by unfold dD;rw[ho.up h4];rfl
  have hc1:=h4' 1 _ rfl
  have hs:s=[]:=by grind [bH]
  subst hs;refine⟨.str [],t,HA,?_,ho,hQ _ h3⟩
  unfold pStr Hw;simp only[];rw[hk,oA,hc1,oA]
 have hs:s≠[]:=fun e=>by have:=h6.2 e;cases this
 have hpos:0<s.length:=List.length_pos_iff.2 hs
 rw[bH,Nat.mul_one]at k2;rw[Jl]at k4;subst k4;have hbytes:∀j a,(s.map fun(n:Nat)=>zA.int .u8 (n:Int))[j]?=some a->d.get j=some a:=by
  intro j a hj;have hj':(cellsK .u8 s)[j]?=some [a]:=by
   grind [cellsK]
  have:=(k3 j _ hj').2 0 a rfl
  simp_all
 refine BS hg fun X HA ho=>?_
 have hk:dD HA bx=some (c,(p::zA.slice b 0 (sC .u8 s).length (sC .u8 s).length::ex).length,some (.ty T)):=by unfold dD;rw[ho.up h4];rfl
 have hk2:dD HA b=some (d,s.length,some (.ty 5)):=by unfold dD;rw[ho.up k2];rfl
 have hc1:=h4' 1 _ rfl
 refine⟨.str s,t.del b,⟨HA.next,HA.t.del b⟩,?_,ho.delBlk k2,hQ _ fun e u he=>?_⟩
 ·unfold pStr Hw
  simp only[];rw[hk,oA,hc1,oA];unfold Qq;simp only[];rw[hk,oA,hc1,oA];simp only[zA.asSlice,oA,bH];rw[hk2,oA];simp only[];have hm:=HP hbytes s.length 0 (by simp)
  rw[ycr,yca (by simp)]at hm
  rw[hm,oA,HU ha,oA];have e1:(!Nat.blt b (256+yD.n))=true:=by
   cases hq:Nat.blt b (256+yD.n)with
   | true=>
    have h3:=kC.1 hq
    have h1':256+yD.n<=b:=k0
    omega
   | false=>rfl
  rw[e1,eC.2 rfl,kC.2 hpos,kE.2 (ybk _),kC.2 (show s.length<1000000000 by omega),eC.2 rfl]
  rfl
 ·have:e≠b:=fun h=>by simp_all
  rw[Tr.get_del,yaa this];exact h3 _ _ he
end Go.Proofs
namespace Go.Proofs
open Go Go.Am
section
variable {b:Nat}{s:List Nat}
section
variable {k ln cl:Nat}{op:Option (Nat × Nat)}{r:List Nat}
def let_ne (h:xN b=true):b≠10/\b≠32/\b≠9/\b≠35/\b≠45/\b≠47/\iD b=false/\b≠0:=by
 unfold xN at h;unfold iD;simp only[ycq,ybb,decide_eq_true_eq]at h;refine⟨by omega,by omega,by omega,by omega,by omega,by omega,?_,by omega⟩
 simp only[Bool.and_eq_false_iff,decide_eq_false_iff_not];omega
def AP (h:iD b=true):b≠10/\b≠32/\b≠9/\b≠35/\b≠45/\b≠47/\xN b=false:=by
 unfold iD at h;unfold xN;simp only[ybb,decide_eq_true_eq]at h;refine⟨by omega,by omega,by omega,by omega,by omega,by omega,?_⟩
 simp only[yal,Bool.and_eq_false_iff,decide_eq_false_iff_not];omega
def zd5(a b:List Nat):(a++b).drop a.length=b:=by simp
def HC {i:Nat}(hi:i<10)(h:yL i (s.getD i 0)=false):qH s=false:=by
 cases hd:qH s with
 | false=>rfl
 | true=>
  unfold qH at hd;simp only[ybb]at hd;rw[ycb.1 hd.2 i (List.mem_range.2 hi)]at h
  cases h
def HI (h:∀b∈s,b≠45):qH s=false:=by
 refine HC (i:=4) (by omega) ?_
 unfold yL;rw[yab (.inl rfl),decide_eq_false_iff_not,List.getD_eq_getElem?_getD]
 cases hx:s[4]? with
 | none=>simp
 | some b=>exact h b (ycv hx)
end
end
section
def wK:Bool->List cB->List Nat
 | _,[]=>[]
 | o,t::l=>if t.kind=5 then 10::wK false l else(if o=true then 32::t.text else t.text)++wK true l
def vQ(l:List cB)(i:Nat):Bool:=decide (0<i) && !iE l 5 (i-1)
def JY:∀(l:List cB) (o:Bool) (t:cB),wK o (l++[t])=wK o l++(if t.kind=5 then [10]else(if (if l=[]then o else vQ l l.length)=true then 32::t.text else t.text)):=by
 intro l;induction l with
 | nil=>
  intro o t;simp only[wK,yah];split<;>simp[wK]
 | cons x l ih=>
  intro o t;have ho:∀o',(if l=[]then o' else vQ l l.length)=true ↔ (if l=[]then o'=true else vQ l l.length=true):=fun o'=>by split<;>simp
  have hk:vQ (x::l) (x::l).length=(if l=[]then !decide (x.kind=5)else vQ l l.length):=by
   unfold vQ iE
   cases l with
   | nil=>simp
   | cons y l=>simp
  rw[yaa (show ¬ x::l=[] by simp),hk,List.cons_append]
  simp only[wK];by_cases h5:x.kind=5
  ·rw[yab h5,yab h5,ih]
   simp only[h5,decide_true,Bool.not_true,List.cons_append]
  ·rw[yaa h5,yaa h5,ih]
   simp only[h5,decide_false,ycl,ybz]
end
section
variable {ts:List (List Nat)}{v:zA}
variable [yD]
section
variable {t tf:Tr uA}{bx:Nat}{s:List Nat}{Q:jB}
def zhh  (hts:∀m∈ts,m≠[]/\fB 256 m)(h:BX 110 [] tf t bx s)(hv:xB tf 1 (ts.map D.str) v)(hl:s.length+ts.flatten.length<400000)(hn:ts.length<1000)(hQ:∀t',BX 110 [] tf t' bx (s++ts.flatten)->Q (.tup []) t'):Wc yA F 50 [v,.ptr bx 0] t Q:=by
 have loop:∀(k i:Nat) (s':List Nat) (t:Tr uA),i+k=ts.length->BX 110 [] tf t bx s'->s'++(ts.drop i).flatten=s++ts.flatten->jp 50 2 [.ptr bx 0,v,.int .i64 (ts.length:Int),.int .i64 (i:Int)] t Q:=by
  intro k;induction k with
  | zero=>
   intro i s' t hi h he;refine j50_2 ?_
   unfold zif;have:ts.drop i=[]:=ybt (by omega)
   rw[this]at he;simp only[List.flatten_nil,ycd]at he;rw[he]at h;exact oB (by rw[fC];simp;omega) (hQ t h)
  | succ k ih=>
   intro i s' t hi h he;refine j50_2 ?_
   unfold zif;have hlt:i<ts.length:=by omega
   have hd:(ts.map D.str)[i]?=some (D.str ts[i]):=by rw[ybu,ybd hlt];rfl
   obtain⟨b,o,cs,h1,h2,_,_,h3⟩:=sl93.at (fun _=>rfl) (hv.mono h.le) hd
   have e:cs=[.str ts[i]]:=eL.1 h3
   subst e;obtain⟨a1,a2⟩:=hts ts[i] (ycj hlt)
   have ed:ts.drop i=ts[i]::ts.drop (i+1):=ybl hlt
   rw[ed,yas,<- ybz]at he;have hle:s'.length+ts[i].length<=(s++ts.flatten).length:=by rw[<- he];simp
   refine rA (by rw[fC];simp;omega) (mA h1 (vC h2 (vF (tB ?_))))
   rw[q51];refine h.write a1 a2 (by rw[ybg]at hle;omega) fun v t' h'=>zD ?_
   have ew:bA .i64 ((i:Int)+1)=((i+1:Nat):Int):=by rw[aC (by omega) (by omega)];rfl
   show jp 50 2 [_,_,_,.int .i64 (bA .i64 ((i:Int)+1))] t' Q
   rw[ew];exact ih (i+1) _ t' (by omega) h' he
 refine w50 ?_
 unfold t50;refine mA (hv.mono h.le).len (kB (zD ?_))
 rw[ybf];exact loop ts.length 0 s t (by omega) h (by simp)
def VY{W J:qF}{p:Nat} {ps:List (Nat × zA)}{K:zA->T}(hW:∀a m R,W 50 a m R=Wc yA F 50 a m R)(hp:ps=(List.range ts.length).zip (ts.map zA.str))(hts:∀m∈ts,m≠[]/\fB 256 m)(h2:ts.length=1\/ts.length=2)(h:BX 110 [] tf t bx s)(hl:s.length+ts.flatten.length<400000)(hQ:∀t',BX 110 [] tf t' bx (s++ts.flatten)->qA yA.base W J (K (.tup [])) t' Q) :
  qA yA.base W J (.heavy (xD yA 93 ts.length ps) fun a=>.callv (.func (.func 50) [] [.ptr bx 0]) [a] K) t Q:=by
 refine bC fun b hb hbase=>?_
 have key:∃t',xD yA 93 ts.length ps ⟨b,t⟩=some (.slice b 0 ts.length ts.length,⟨b+1,t'⟩)/\eN t' 1 (.slice b 0 ts.length ts.length) (ts.map fun m=>[zA.str m])/\yB t t'/\rG b t t':=by
  refine Ff (n:=ts.length) ty93 rfl jN rfl rfl (by show ts.length*1<1000000;omega) ?_ (fun i cs hi=>?_) (by simp) hb
  ·rcases h2 with h2 | h2
   ·obtain⟨m,rfl⟩:∃m,ts=[m]:=by match ts,h2 with | [m],_=>exact⟨m,rfl⟩
    subst hp;exact Fq (sz:=1) (z:=[.str []]) (v:=.str m) rfl rfl
   ·obtain⟨m,m',rfl⟩:∃m m',ts=[m,m']:=by match ts,h2 with | [m,m'],_=>exact⟨m,m',rfl⟩
    subst hp;rfl
  ·rw[ybu]at hi
   cases hq:ts[i]? with
   | none=>rw[hq]at hi;cases hi
   | some m=>rw[hq]at hi;cases hi;rfl
 obtain⟨t',k1,k2,k3,k4⟩:=key
 refine⟨_,_,k1,mU (g:=50) (a:=[.slice b 0 ts.length ts.length,.ptr bx 0]) rfl ?_⟩
 rw[hW];have hbn:=h.junk hb k4
 obtain⟨y,hy⟩:∃y,t'.get b=some y:=by
  rcases k2 with⟨e,_⟩ | ⟨b',o,cap,e,_,⟨c,n,lo,hg,_⟩,_⟩
  ·cases e
  ·injection e with e1 _ _ _;subst e1;exact⟨_,hg⟩
 have hfn:tf.get b=none:=by
  cases hq:tf.get b with
  | none=>rfl
  | some u=>rw[h.le _ _ hq]at hb;cases hb
 have hbx:BX 110 [] (tf.set b y) t' bx s:=by
  have h5:=h.both hb y
  refine h5.keep (fun c u hc=>?_) fun c hc=>?_
  ·rw[Tr.get_set]at hc
   split at hc
   ·rename_i e;cases hc;rw[e];exact hy
   ·exact k3 _ _ (h.le _ _ hc)
  ·rw[Tr.get_set]
   split
   ·rename_i e;rw[e];exact hy
   ·rename_i e;exact k4 c e
 have hel:xB (tf.set b y) 1 (ts.map D.str) (.slice b 0 ts.length ts.length):=by
  refine⟨ts.map fun m=>[zA.str m],?_,?_⟩
  ·rcases k2 with⟨e,_⟩ | ⟨b',o,cap,e,e2,⟨c,n,lo,hg,e3⟩,e4⟩
   ·cases e
   ·simp only[ybf]at e e2
    injection e with e5 e6 _ e7
    subst e5 e6 e7
    refine .inr ⟨b,0,ts.length,by simp,by simp,⟨c,n,lo,?_,e3⟩,fun i cs hi=>⟨(e4 i cs hi).1,?_⟩⟩
    ·rw[Tr.get_set,yab rfl,<- hy,hg]
    ·obtain⟨c1,n1,lo1,f1,f2⟩:=(e4 i cs hi).2
     exact⟨c1,n1,lo1,by rw[Tr.get_set,yab rfl,<- hy,f1],f2⟩
  ·clear k1 hp hl hQ h2 hts k2
   induction ts with
   | nil=>exact cF.2 rfl
   | cons m ts ih=>exact rD.2 ⟨_,_,rfl,eL.2 rfl,ih⟩
 exact zhh hts hbx hel hl (by omega) fun t2 h2=>hQ t2 (h2.less (oO hfn y).1)
def join23{l:List cB} (hv:xB t 4 (l.map cB.d) v)(hg:∀x∈l,x.kind≠5->x.text≠[]/\fB 256 x.text)(hl:(wK false l).length<399999)(hn:l.length<300000)(hQ:∀t',yB t t'->Q (.str (wK false l)) t'):Wc yA F 23 [v] t Q:=by
 refine w23 ?_
 unfold t23;refine bC fun bx hb hbase=>?_
 have hal:∃t',Ed yA 110 ⟨bx,t⟩=some (.ptr bx 0,⟨bx+1,t'⟩)/\vD t' bx (some (.ty 110)) [.nilptr,.nilslice]/\yB t t'/\rG bx t t':=by
  obtain⟨t',a1,a2,a3,a4⟩:=Rc (t:=t) hb [.nilptr,.nilslice] (some (.ty 110))
  refine⟨t',?_,a2,a3,a4⟩
  unfold Ed;rw[ty110,oA];have e:eK yA 110=some (.ty 110):=by kernel_rfl
  rw[e];show some (zA.ptr bx 0,xG ⟨bx,t⟩ [.nilptr,.nilslice] (some (.ty 110)))=_
  rw[a1]
 obtain⟨t1,h1,h2,h3,h4⟩:=hal
 have hlen:cC v=some (.int .i64 (l.length:Int)):=by have:=(hv.mono h3).len;rwa [ybf]at this
 refine⟨_,_,h1,mA hlen (kB (zD ?_))⟩
 have hbx:BX 110 [] t t1 bx []:=⟨hbase,hb,h3,(fun x hx=>by cases hx),by kernel_rfl,.nilptr,.nilslice,.inl rfl,h2,.inl ⟨rfl,rfl⟩,⟨KI,fun _=>rfl⟩⟩
 have loop:∀(k i:Nat) (t':Tr uA),i+k=l.length->BX 110 [] t t' bx (wK false (l.take i))->jp 23 2 [v,.ptr bx 0,.func (.func 50) [] [.ptr bx 0],v,.int .i64 (l.length:Int),.int .i64 (i:Int)] t' Q:=by
  intro k;induction k with
  | zero=>
   intro i t' hi h;refine j23_2 ?_
   unfold zii;rw[yca (by omega)]at h
   refine oB (by rw[fC];simp;omega) (tB ?_)
   rw[q52];exact h.string (by omega) fun t2 k1=>vF (hQ t2 k1)
  | succ k ih=>
   intro i t' hi h;refine j23_2 ?_
   unfold zii;have hlt:i<l.length:=by omega
   have hx:l[i]?=some l[i]:=ybd hlt
   have hd:(l.map cB.d)[i]?=some l[i].d:=by rw[ybu,hx];rfl
   obtain⟨b,o,cs,g1,g2,_,_,g3⟩:=sl66.at (fun h=>by cases h) (hv.mono h.le) hd
   have e:=Xf g3
   subst e;have ew:bA .i64 ((i:Int)+1)=((i+1:Nat):Int):=by rw[aC (by omega) (by omega)];rfl
   have etake:l.take (i+1)=l.take i++[l[i]]:=by rw[List.take_succ,hx];rfl
   have hjl:∀j,(wK false (l.take j)).length<=(wK false l).length:=by
    intro j;have hs:∀(m:List cB) (o:Bool) (m':List cB),(wK o m).length<=(wK o (m++m')).length:=by
     intro m;induction m with
     | nil=>intro o m';simp[wK]
     | cons x m ih=>
      intro o m';simp only[wK,List.cons_append];split
      ·have:=ih false m';simp;exact this
      ·have:=ih true m';simp;exact this
    have:=hs (l.take j) false (l.drop j)
    rwa [List.take_append_drop]at this
   have hj1:=hjl (i+1)
   rw[etake,JY]at hj1;have next:∀(ts:List (List Nat)) (t2:Tr uA),ts.flatten=(if l[i].kind=5 then [10]else(if (if l.take i=[]then false else vQ (l.take i) (l.take i).length)=true then 32::l[i].text else l[i].text))->BX 110 [] t t2 bx (wK false (l.take i)++ts.flatten) →
     jp 23 2 [v,.ptr bx 0,.func (.func 50) [] [.ptr bx 0],v,.int .i64 (l.length:Int),.int .i64 (bA .i64 ((i:Int)+1))] t2 Q:=by
    intro ts t2 hts h2;rw[ew];refine ih (i+1) t2 (by omega) ?_
    rw[etake,JY,<- hts];exact h2
   have hop:(if l.take i=[]then false else vQ (l.take i) (l.take i).length)=vQ l i:=by
    have htl:(l.take i).length=i:=by rw[yda];omega
    by_cases h0:i=0
    ·subst h0;simp[vQ]
    ·rw[yaa (by rw[List.take_eq_nil_iff];rintro(h | h);exact h0 h;subst h;simp at hlt),htl]
     unfold vQ iE;rw[List.getElem?_take_of_lt (by omega)]
   rw[hop]at next hj1;have hgi:=hg l[i] (ycj hlt)
   refine rA (by rw[fC];simp;omega) (mA g1 (vC g2 (dC (mQ _) (rA rfl ?_))))
   rw[cT0,cT1];have bnd:∀ts:List (List Nat),ts.flatten=(if l[i].kind=5 then [10]else(if vQ l i=true then 32::l[i].text else l[i].text))->(wK false (l.take i)).length+ts.flatten.length<400000:=fun ts hts=>by
    rw[hts];rw[ybg]at hj1;omega
   have write:∀(ts:List (List Nat)) (n:Nat) (ps:List (Nat × zA)),n=ts.length->ps=(List.range ts.length).zip (ts.map zA.str)->(∀m∈ts,m≠[]/\fB 256 m)->(ts.length=1\/ts.length=2)->ts.flatten=(if l[i].kind=5 then [10]else(if vQ l i=true then 32::l[i].text else l[i].text)) →
     qA yA.base (Wq yA F rC) (Jq yA F 23) (.heavy (xD yA 93 n ps) fun a=>.callv (.func (.func 50) [] [.ptr bx 0]) [a] fun _=>.jump 2 [v,.ptr bx 0,.func (.func 50) [] [.ptr bx 0],v,.int .i64 (l.length:Int),.int .i64 (bA .i64 ((i:Int)+1))]) t' Q:=by
    rintro ts n ps rfl hp hts h2 he
    exact VY (p:=0) (fun a m R=>by rw[q50]) hp hts h2 h (bnd ts he) fun t2 h2=>zD (next ts t2 he h2)
   by_cases h5:l[i].kind=5
   ·refine rA (by rw[kL];omega) ?_
    refine write [[10]] 1 _ rfl rfl (fun m hm=>?_) (.inl rfl) (by rw[yab h5];rfl)
    simp at hm;subst hm;exact⟨by simp,fun x hx=>by simp at hx;omega⟩
   ·obtain⟨a1,a2⟩:=hgi h5
    refine oB (fun e=>h5 (by have:=kL.1 e;omega)) ?_
    have one:vQ l i=false->qA yA.base (Wq yA F rC) (Jq yA F 23) (.heavy (xD yA 93 1 [(0,.str l[i].text)]) fun a=>.callv (.func (.func 50) [] [.ptr bx 0]) [a] fun _=>.jump 2 [v,.ptr bx 0,.func (.func 50) [] [.ptr bx 0],v,.int .i64 (l.length:Int),.int .i64 (bA .i64 ((i:Int)+1))]) t' Q:=by
     intro ho;refine write [l[i].text] 1 _ rfl rfl (fun m hm=>?_) (.inl rfl) (by rw[yaa h5,ho];simp)
     simp at hm;subst hm;exact⟨a1,a2⟩
    by_cases h0:0<i
    ·have hx2:l[i-1]?=some (l[i-1]'(by omega)):=ybd (by omega)
     have hd2:(l.map cB.d)[i-1]?=some (l[i-1]'(by omega)).d:=by rw[ybu,hx2];rfl
     obtain⟨b2,o2,cs2,k1,k2,k0,k4,k3⟩:=sl66.at (fun h=>by cases h) (hv.mono h.le) hd2
     have e2:=Xf k3
     subst e2;have ew2:bA .i64 ((i:Int)-1)=((i-1:Nat):Int):=by rw[aC (by omega) (by omega)];omega
     have ho:vQ l i = !decide ((l[i-1]'(by omega)).kind=5):=by unfold vQ iE;rw[hx2];simp[h0]
     have fld:jC yA 75 0 (.ptr b2 o2)=some (.ptr b2 o2):=by kernel_rfl
     have ld:fA yA 5 ⟨0,t'⟩ (.ptr b2 o2)=some (.int .u8 ((l[i-1]'(by omega)).kind:Int)):=by
      have:=k0.load1 (C:=yA) (j:=0) (ty:=5) ty5 rfl rfl
      rwa [yct]at this
     refine rA (by rw[fC];simp;omega) (mA (v:=.ptr b2 o2) (by show mC yA 66 v (.int .i64 (bA .i64 ((i:Int)-1)))=_;rw[ew2];exact k1) (mA fld (vC ld (kB ?_))))
     by_cases hp:(l[i-1]'(by omega)).kind=5
     ·refine oB ?_ (one (by rw[ho,hp];rfl))
      intro e;exact sW.1 e (by omega)
     ·refine rA (sW.2 (by omega)) ?_
      refine write [[32],l[i].text] 2 _ rfl rfl (fun m hm=>?_) (.inr rfl) (by rw[yaa h5,ho];simp[hp])
      simp at hm;rcases hm with rfl | rfl
      ·exact⟨by simp,fun x hx=>by simp at hx;omega⟩
      ·exact⟨a1,a2⟩
    ·refine oB (by rw[fC];simp;omega) (one ?_)
     have:i=0:=by omega
     subst this;rfl
 have:=loop l.length 0 t1 (by omega) (by simpa[wK]using hbx)
 exact this
end
end
section
variable {l:List (List Nat × Nat)}{tk:List cB}{op:Nat}{s w:List Nat}{x:aA}{c:PM aA}{neg:Bool}
section
variable {S:VP}{H:Prop}{n:Nat}{o o2:PM aA}
def Qr(hv:VW S) {i:Nat}(h:i<S.k):wI S.tk2 l (i+S.d)=wI S.tk l i:=by
 unfold wI;congr 2
 funext o
 exact hv.acc i h o.1
def Xq(hv:VW S) (hl:∀o∈l,o.1∉eV):wI S.tk2 l (S.k+S.d)=none:=by
 unfold wI;rw[List.find?_eq_none.2 fun o ho=>by rw[hv.qacc _ (hl o ho)];simp]
 rfl
def Qs  {n:Nat}(h:wI tk l n=some op):∃w,acc tk w n=true:=by
 unfold wI at h
 cases hx:l.find? fun o=>acc tk o.1 n with
 | none=>rw[hx]at h;cases h
 | some o=>exact⟨o.1,by simpa using List.find?_some hx⟩
def Tt  {n:Nat}(h:acc tk w n=true):n<tk.length:=by
 unfold acc at h
 cases hx:tk[n]? with
 | none=>rw[hx]at h;cases h
 | some x=>exact(ybc.1 hx).1
def Tb(hv:VW S) (hl:∀o∈l,o.1∉eV):∀(m:Nat) (x:aA),rM S.tk2 o2 l m x (S.k+S.d)=.ok x (S.k+S.d):=by
 intro m x
 cases m with
 | zero=>rfl
 | succ m=>rw[rM,Xq hv hl]
def NZ {y:aA}(hx:aA.cpy x)(hy:aA.cpy y):aA.cpy (oX op x y):=by
 unfold oX aA.cpy;exact⟨⟨by simp[tO,wH],by simp[tO,wH]⟩,by simp,hx,hy,trivial⟩
def zex   (hx:aA.cpy x):aA.cpy (unX op w x):=by
 unfold unX aA.cpy;exact⟨⟨by simp[tO,wH],by simp[tO,wH]⟩,by simp,hx,trivial⟩
def YR(hv:VW S)(hH:H)(ho:qC S H aA.cpy o o2) (hl:∀o∈l,o.1∉eV):∀(m m2 n:Nat) (x:aA),aA.cpy x->S.tk.length<=n+m->S.tk2.length<=n+S.d+m2->RA S aA.cpy n (rM S.tk o l m x n) (rM S.tk2 o2 l m2 x (n+S.d)):=by
 intro m;have none:∀(m2 n:Nat) (x:aA),wI S.tk l n=none->n<=S.k->rM S.tk2 o2 l m2 x (n+S.d)=.ok x (n+S.d):=by
  intro m2 n x h hn;by_cases hk:n<S.k
  ·cases m2 with
   | zero=>rfl
   | succ m2=>rw[rM,Qr hv hk,h]
  ·have:n=S.k:=by omega
   subst this;exact Tb hv hl m2 x
 induction m with
 | zero=>
  intro m2 n x hx h1 _;have:wI S.tk l n=Option.none:=by
   cases h:wI S.tk l n with
   | none=>rfl
   | some op=>
    obtain⟨w,hw⟩:=Qs h
    have:=Tt hw
    omega
  exact(RA.ret (a:=x) hx).right fun hn=>none m2 n x this hn
 | succ m ih=>
  intro m2 n x hx h1 h2
  cases h:wI S.tk l n with
  | none=>
   rw[rM,h];exact(RA.ret (a:=x) hx).right fun hn=>none m2 n x h hn
  | some op=>
   rw[rM,h];obtain⟨w,hw⟩:=Qs h
   refine RA.step (r2':=(o2 (n+1+S.d)).bind fun y n'=>rM S.tk2 o2 l (m2-1) (oX op x y) n') (Gk hw) ?_ fun hn=>?_
   ·refine RA.bind hv (ho.ra hH (n+1)) (fun y n1 hr hy=>?_) (fun hfu y=>by rw[Tb hv hl];exact rfl)
    have:=(ho.ra hH (n+1)).mo
    rw[hr]at this;have:=this.1
    exact ih (m2-1) n1 _ (NZ hx hy) (by omega) (by omega)
   ·have h3:=Qr hv (l:=l) hn
    rw[h]at h3;obtain⟨w2,hw2⟩:=Qs h3
    have:=Tt hw2
    obtain⟨m3,rfl⟩:∃m3,m2=m3+1:=⟨m2-1,by omega⟩
    rw[rM,h3];have e:n+S.d+1=n+1+S.d:=by omega
    rw[e];rfl
def Ta(hv:VW S)(ho:qC S H aA.cpy o o2) (hl:∀o∈l,o.1∉eV):qC S H aA.cpy (iP S.tk o l) (iP S.tk2 o2 l):=by
 refine⟨fun hH n=>?_,fun hfu=>kQ.bind (ho.rr hfu) fun x=>by rw[Tb hv hl];exact rfl⟩
 exact RA.bind hv (ho.ra hH n) (fun x n1 _ hx=>YR hv hH ho hl _ _ n1 x hx (by omega) (by omega)) fun hfu x=>by rw[Tb hv hl];exact rfl
def TS(hv:VW S)(ho:qC S H aA.cpy o o2):qC S H aA.cpy (vW S.tk o) (vW S.tk2 o2):=Ta hv ho (by decide)
def zcd(hv:VW S)(ho:qC S H aA.cpy o o2):qC S H aA.cpy (nT S.tk o) (nT S.tk2 o2):=Ta hv (TS hv ho) (by decide)
def za4(hv:VW S)(ho:qC S H aA.cpy o o2):qC S H aA.cpy (kY S.tk o) (kY S.tk2 o2):=by
 have hs:=zcd (S:=S) (H:=H) hv ho
 have hl:∀o∈[(([60]:List Nat),13),([61],14)],o.1∉eV:=by decide
 have hz:∀x,kQ (S.k+S.d) (match wI S.tk2 [([60],13),([61],14)] (S.k+S.d)with | none=>.ok x (S.k+S.d) | some op=>(nT S.tk2 o2 (S.k+S.d+1)).bind fun y n2=>.ok (oX op x y) n2):=by
  intro x;rw[Xq hv hl];exact rfl
 refine⟨fun hH n=>?_,fun hfu=>kQ.bind (hs.rr hfu) hz⟩
 refine RA.bind hv (hs.ra hH n) (fun x n1 _ hx=>?_) fun _=>hz
 cases h:wI S.tk [([60],13),([61],14)] n1 with
 | none=>
  refine(RA.ret (a:=x) hx).right fun hn=>?_
  by_cases hk:n1<S.k
  ·rw[Qr hv hk,h]
  ·have:n1=S.k:=by omega
   subst this;rw[Xq hv hl]
 | some op=>
  obtain⟨w,hw⟩:=Qs h
  refine RA.step (r2':=(nT S.tk2 o2 (n1+1+S.d)).bind fun y n2=>.ok (oX op x y) n2) (Gk hw) ?_ fun hn=>?_
  ·exact RA.bind hv (hs.ra hH (n1+1)) (fun y n2 _ hy=>RA.ret (NZ hx hy)) fun _ _=>rfl
  ·rw[Qr hv hn,h]
   have e:n1+S.d+1=n1+1+S.d:=by omega
   rw[e]
def zbr:∀(k:Nat) (x:aA),wZ (k+1) x=unX 17 [] (wZ k x):=by
 intro k;induction k with
 | zero=>intro x;rfl
 | succ k ih=>intro x;rw[wZ,ih];rfl
def kT (tk:List cB)(c:PM aA):Nat->PM aA
 | 0,n=>c n
 | m+1,n=>if acc tk vT n=true then(kT tk c m (n+1)).bind fun x n'=>.ok (unX 17 [] x) n' else c n
def Yc   : ∀(m n:Nat),kT tk c m n=(c (n+xM tk m n)).bind fun x n'=>.ok (wZ (xM tk m n) x) n':=by
 have id:∀r:PR aA,r=r.bind fun x n'=>.ok (wZ 0 x) n':=fun r=>by cases r<;>rfl
 intro m;induction m with
 | zero=>intro n;exact id _
 | succ m ih=>
  intro n;rw[kT,xM];split
  ·rw[ih,show n+(xM tk m (n+1)+1)=n+1+xM tk m (n+1) by omega]
   cases c (n+1+xM tk m (n+1))with
   | ok x n'=>show PR.ok _ _=PR.ok _ _;rw[zbr]
   | er e i=>rfl
  ·exact id _
def zc3(hv:VW S){c2:PM aA}(hc:qC S H aA.cpy c c2):∀(m m2 n:Nat),S.tk.length<=n+m->S.tk2.length<=n+S.d+m2->H->RA S aA.cpy n (kT S.tk c m n) (kT S.tk2 c2 m2 (n+S.d)):=by
 have hw:vT∉eV:=by decide
 have stop:∀(m2 n:Nat),acc S.tk vT n=false->n<=S.k->kT S.tk2 c2 m2 (n+S.d)=c2 (n+S.d):=by
  intro m2 n h hn
  cases m2 with
  | zero=>rfl
  | succ m2=>
   rw[kT];by_cases hk:n<S.k
   ·rw[hv.acc n hk,h,yaa (by simp)]
   ·have:n=S.k:=by omega
    subst this;rw[hv.qacc _ hw,yaa (by simp)]
 intro m;induction m with
 | zero=>
  intro m2 n h1 _ hH;have:acc S.tk vT n=false:=by
   cases h:acc S.tk vT n with
   | false=>rfl
   | true=>have:=Tt h;omega
  exact(hc.ra hH n).right fun hn=>stop m2 n this hn
 | succ m ih=>
  intro m2 n h1 h2 hH;rw[kT]
  cases h:acc S.tk vT n with
  | false=>rw[yaa (by simp)];exact(hc.ra hH n).right fun hn=>stop m2 n h hn
  | true=>
   rw[yab rfl];have hz:∀m3,S.full->kQ (S.k+S.d) (kT S.tk2 c2 m3 (S.k+S.d)):=by
    intro m3 hfu
    cases m3 with
    | zero=>exact hc.rr hfu
    | succ m3=>rw[kT,hv.qacc _ hw,yaa (by simp)];exact hc.rr hfu
   refine RA.step (r2':=(kT S.tk2 c2 (m2-1) (n+1+S.d)).bind fun x n'=>.ok (unX 17 [] x) n') (Gk h) ?_ fun hn=>?_
   ·exact RA.bind hv (ih (m2-1) (n+1) (by omega) (by omega) hH) (fun x n1 _ hx=>RA.ret (zex hx)) fun _ _=>rfl
   ·have h3:=hv.acc n hn vT
    rw[h]at h3;have:=Tt h3
    obtain⟨m3,rfl⟩:∃m3,m2=m3+1:=⟨m2-1,by omega⟩
    rw[kT,h3,yab rfl];have e:n+S.d+1=n+1+S.d:=by omega
    rw[e];rfl
def VG(hv:VW S)(ho:qC S H aA.cpy o o2):qC S H aA.cpy (qW S.tk o) (qW S.tk2 o2):=by
 have hc:=za4 (S:=S) (H:=H) hv ho
 refine⟨fun hH n=>?_,fun hfu=>?_⟩
 ·unfold qW
  rw[<- Yc,<- Yc];exact zc3 hv hc _ _ n (by omega) (by omega) hH
 ·unfold qW
  rw[<- Yc]
  cases S.tk2.length with
  | zero=>exact hc.rr hfu
  | succ m=>rw[kT,hv.qacc _ (by decide),yaa (by simp)];exact hc.rr hfu
def za3(hv:VW S)(ho:qC S H aA.cpy o o2):qC S H aA.cpy (Nq S.tk o) (Nq S.tk2 o2):=Ta hv (VG hv ho) (by decide)
def AF(hv:VW S)(ho:qC S H aA.cpy o o2):qC S H aA.cpy (nI S.tk o) (nI S.tk2 o2):=Ta hv (za3 hv ho) (by decide)
def BH(hv:VW S)(ho:qC S H aA.cpy o o2)  : qC S H aA.cpy (atP S.tk o op) (atP S.tk2 o2 op):=
 (HN hv).bind hv fun w=>(Dc hv).bind hv fun _=>(ho.mono (fun h=>h.1.1) fun _ h=>h).bind hv fun x=>qC.ret fun h=>zex h.2
def fG.cpy(v:fG):Prop:=v.f.n.limbs.length<300000/\v.f.d.limbs.length<300000
def UY (h:nS s):mD (cN s)<65536^200/\(eJ s=true->mD (iO s)<65536^200):=by
 have h10:∀l:List Nat,l.length<=200->(∀b∈l,iD b=true)->mD l<65536^200:=by
  intro l hl hd;have h1:=Fx hd
  have h2:10^l.length<=10^200:=yao (by omega) hl
  have h3:10^200<=65536^200:=Nat.pow_le_pow_left (by decide) 200
  exact Nat.lt_of_lt_of_le h1 (Nat.le_trans h2 h3)
 obtain⟨h1,h2,_,_,h5⟩:=h
 have hA:(cN s).length<=s.length:=by
  unfold cN nD;exact List.takeWhile_sublist _ |>.length_le
 refine⟨h10 _ (by omega) h2,fun hs=>h10 _ ?_ (h5 hs).2.1⟩
 unfold iO;rw[ydj];omega
def KZ  (h:nS s):(tJ s neg).n.limbs.length<300000/\(tJ s neg).d.limbs.length<300000:=by
 obtain⟨h1,h2⟩:=UY h
 have hd:(if eJ s=true then mD (iO s)else 1)<65536^200:=by
  split
  ·exact h2 (by assumption)
  ·exact Nat.one_lt_pow (by omega) (by omega)
 have k:∀a g:Nat,a<65536^200->(tC (a / g)).length<300000:=fun a g h=>by
  have:=Yv (n:=a / g) (k:=200) (yam (Nat.div_le_self _ _) h)
  omega
 exact⟨k _ _ h1,k _ _ hd⟩
def TP(hv:VW S)  : qC S H fG.cpy (pK S.tk neg) (pK S.tk2 neg):=by
 have hz:∀x:Bool,pK S.tk2 x (S.k+S.d)=.er 120 (S.k+S.d):=fun x=>by
  unfold pK tG;rw[hv.qkind 2 (.inl rfl),yaa (by simp)];rfl
 refine⟨fun _ n=>?_,fun _=>by rw[hz];exact⟨rfl,.inl rfl⟩⟩
 have two:∀m,m<S.k->(acc S.tk2 qU (m+S.d)||acc S.tk2 yY (m+S.d))=(acc S.tk qU m||acc S.tk yY m):=fun m hm=>by rw[hv.acc m hm,hv.acc m hm]
 have tq:(acc S.tk2 qU (S.k+S.d)||acc S.tk2 yY (S.k+S.d))=false:=by rw[hv.qacc _ (by decide),hv.qacc _ (by decide)];rfl
 cases h:iE S.tk 2 n with
 | false=>
  have e:pK S.tk neg n=.er 120 n:=by unfold pK tG;rw[h,yaa (by simp)];rfl
  rw[e];refine(RA.fail (.inl rfl)).right fun hn=>?_
  by_cases hk:n<S.k
  ·unfold pK tG;rw[hv.kind n hk,h,yaa (by simp)];rfl
  ·have:n=S.k:=by omega
   subst this;exact hz neg
 | true=>
  have hn:=JL hv.good h rfl
  have e5:=Yw h (by omega)
  have e:pK S.tk neg n=(if (acc S.tk qU (n+1)||acc S.tk yY (n+1))=true then(if eJ (iH S.tk n)=true then .er 120 (n+1)else match lP (iH S.tk n) neg (-1048576) 1048576 with | none=>.er 121 n | some i=>.ok ⟨if acc S.tk qU (n+1)=true then 5 else 6,wH,i⟩ (n+1+1))else .ok ⟨2,tJ (iH S.tk n) neg,0⟩ (n+1)):=by
   unfold pK tG;rw[h,yab rfl];rfl
  have e2:n<S.k->pK S.tk2 neg (n+S.d)=(if (acc S.tk2 qU (n+1+S.d)||acc S.tk2 yY (n+1+S.d))=true then(if eJ (iH S.tk n)=true then .er 120 (n+1+S.d)else match lP (iH S.tk n) neg (-1048576) 1048576 with | none=>.er 121 (n+S.d) | some i=>.ok ⟨if acc S.tk2 qU (n+1+S.d)=true then 5 else 6,wH,i⟩ (n+1+1+S.d))else .ok ⟨2,tJ (iH S.tk n) neg,0⟩ (n+1+S.d)):=by
   intro hk;unfold pK tG;rw[hv.kind n hk,h,yab rfl,hv.text n hk];have a1:n+S.d+1=n+1+S.d:=by omega
   have a2:n+1+S.d+1=n+1+1+S.d:=by omega
   rw[a1,<- a2];rfl
  rw[e]
  cases hd:(acc S.tk qU (n+1)||acc S.tk yY (n+1))with
  | false=>
   rw[yaa (by simp)]
   refine⟨⟨by omega,NE.one e5,KZ hn⟩,fun hn1 a n' hr hn'=>?_,fun _ _ e hr=>by cases hr⟩
   cases hr;have:(acc S.tk2 qU (n+1+S.d)||acc S.tk2 yY (n+1+S.d))=false:=by
    by_cases hk:n+1<S.k
    ·rw[two _ hk,hd]
    ·have:n+1=S.k:=by omega
     rw[this];exact tq
   rw[e2 (by omega),this,yaa (by simp)]
   exact .inl rfl
  | true=>
   have e6:iE S.tk 5 (n+1)=false:=by
    simp only[ycq]at hd;rcases hd with hd | hd<;>exact Gk hd
   have ne:NE S.tk n (n+1+1):=(NE.one e5).join (NE.one e6)
   have q1:n+1<=S.k->¬ n+1<S.k->pK S.tk2 neg (n+S.d)=.ok ⟨2,tJ (iH S.tk n) neg,0⟩ (n+1+S.d):=fun h1 h2=>by
    have:n+1=S.k:=by omega
    rw[e2 (by omega),this,tq,yaa (by simp)]
   rw[yab rfl]
   cases hs:eJ (iH S.tk n)with
   | true=>
    rw[yab rfl];refine⟨⟨by omega,NE.one e5,by omega⟩,fun _ a n' hr=>(by cases hr),fun hn1 hfu e' hr=>?_⟩
    injection hr with _ hr
    rw[q1 (by omega) (by omega)]
    exact show n+1+S.d=_ by omega
   | false=>
    rw[yaa (by simp)]
    cases hi:lP (iH S.tk n) neg (-1048576) 1048576 with
    | none=>
     refine⟨⟨by omega,NE.nil,by omega⟩,fun _ a n' hr=>(by cases hr),fun hn1 hfu e' hr=>?_⟩
     cases hr;rw[hz];exact⟨rfl,.inl rfl⟩
    | some i=>
     refine⟨⟨by omega,ne,by simp[fG.cpy,wH]⟩,fun hn1 a n' hr hn'=>?_,fun _ _ e hr=>by cases hr⟩
     cases hr;rw[e2 (by omega),two _ (by omega),hd,yab rfl,hs,yaa (by simp),hi,hv.acc _ (by omega)]
     exact .inl rfl
end
end
end Go.Proofs
