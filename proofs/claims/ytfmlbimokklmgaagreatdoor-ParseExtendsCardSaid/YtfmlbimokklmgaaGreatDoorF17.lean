/- Whole numbers out of texts: times a word. -/
import Derived.Test.YtfmlbimokklmgaaGreatDoorF16
set_option linter.all false
noncomputable section
set_option maxRecDepth 100000
namespace Go.Proofs
open Go Go.Am
variable {a3 b cap k:Nat}{l row:List Nat}
variable [eC]
def el189:Tl yA 189 56 1:=⟨⟨_,mM,rfl,rfl⟩,⟨_,dH,rfl,rfl,by decide,by decide⟩⟩
def tP (l:List Nat):List zA:=l.map fun(n:Nat)=>zA.int .u32 (n:Int)
def BY(l:List Nat):(tP l).length=l.length:=by simp[tP]
theorem yD.words{t:Tr vA}{n:Nat} (h:yD t b none (tP l))(hn:n<=l.length)(hc:n<=cap):bA t 1 (rC .u32 (l.take n)) (.slice b 0 n cap):=by
 obtain⟨c,h1,h2⟩:=h
 refine⟨(l.take n).map fun(x:Nat)=>[zA.int .u32 (x:Int)],.inr ⟨b,0,cap,?_,by simp;omega,⟨c,_,_,h1,.inl rfl⟩,fun i cs hi=>?_⟩,?_⟩
 ·simp;omega
 ·rw[ybu]at hi
  cases hx:(l.take n)[i]? with
  | none=>rw[hx]at hi;cases hi
  | some x=>
   rw[hx]at hi;cases hi;refine⟨rfl,c,_,_,h1,fun j a hj=>?_⟩
   match j,hj with
   | 0,hj=>
    cases hj;rw[show 0+i*1+0=i by omega];refine h2 i _ ?_
    have:=(ybc.1 hx).1
    rw[ydf]at hx;unfold tP;rw[ybu];grind
 ·induction l.take n with
  | nil=>exact wF.2 rfl
  | cons x r ih=>exact dC.2 ⟨_,_,rfl,aJ.2 rfl,ih⟩
def yD.le{tf t:Tr vA} {lo:Option Lo}{cs:List zA}(h:yD tf b lo cs)(hl:aA tf t):yD t b lo cs:=by
 obtain⟨c,h1,h2⟩:=h
 exact⟨c,hl _ _ h1,h2⟩
def tV{base:Nat}{W J:kE}{t:Tr vA}{Q:sB}{f:zA}{args:List zA}{K:zA->T}{g:Nat}{a:List zA}(h:gL f args=some (g,a))(k:W g a t (fun v t'=>pA base W J (K v) t' Q)):pA base W J (.callv f args K) t Q:=by
 show vE (gL f args) _
 rw[h];exact k
section
variable {t t0:Tr vA}{Q:sB}
abbrev Ck(a3 b a1 a0:Nat)(row:List Nat)(k cap:Nat)(c:Nat):List kD:=[jB a3 none [.slice b 0 k cap],jB b none (tP row),jB a1 none [.int .u64 (c:Int)],jB a0 none [.ptr a3 0]]
def zft{a1 a0 c s:Nat} (h:lA yA.base t0 t (Ck a3 b a1 a0 row k cap c))(hk:k<cap)(hcap:cap=row.length)(hs:s+c<18446744073709551616)
  (hQ:∀t',lA yA.base t0 t' (Ck a3 b a1 a0 (row.set k ((s+c)%4294967296)) (k+1) cap ((s+c) / 4294967296))->Q (.tup []) t'):Wc yA F 154 [.int .u64 (s:Int),.ptr a1 0,.ptr a0 0] t Q:=by
 have l1:∀ {t},lA yA.base t0 t (Ck a3 b a1 a0 row k cap c)->mA yA 207 ⟨0,t⟩ (.ptr a1 0)=some (.int .u64 (c:Int)):=fun h=>(lA.cel (A:=[_,_]) h).load1 yQ rfl rfl
 have l2:∀ {t},lA yA.base t0 t (Ck a3 b a1 a0 row k cap c)->mA yA 206 ⟨0,t⟩ (.ptr a0 0)=some (.ptr a3 0):=fun h=>(lA.cel (A:=[_,_,_]) h).load1 ty206 rfl rfl
 have l3:∀ {t},lA yA.base t0 t (Ck a3 b a1 a0 row k cap c)->mA yA 189 ⟨0,t⟩ (.ptr a3 0)=some (.slice b 0 k cap):=fun h=>(lA.cel (A:=[]) h).load1 mM rfl rfl
 have nl:∀b o,zG (.ptr b o)=some (.ptr b o):=fun _ _=>rfl
 refine w154 ?_
 unfold t154 uE;have e1:cA .u64 ((s:Int)+(c:Int))=((s+c:Nat):Int):=by rw[eF (by omega) (by omega)];omega
 have e2:cA .u32 ((s+c:Nat):Int)=(((s+c)%4294967296:Nat):Int):=by rw[jT];omega
 have e3:Int.fdiv ((s+c:Nat):Int) 4294967296=(((s+c) / 4294967296:Nat):Int):=by rw[Int.fdiv_eq_ediv_of_nonneg _ (by omega)];omega
 refine sC (l1 h) (pB ?_)
 rw[e1,e2,e3];refine sC (l2 h) (sC (l2 h) (iA (nl _ _) (sC (l3 h) (lC fun n hn hnb=>?_))))
 obtain⟨t1,g1,g2,g3,g4⟩:=Ep (C:=yA) (T:=189) (ps:=[(0,.int .u32 (((s+c)%4294967296:Nat):Int))]) (cl:=[[.int .u32 (((s+c)%4294967296:Nat):Int)]]) (n:=1) (sz:=1) mM rfl dH rfl rfl (by omega) (by
   have e:tI [zA.int .u32 0] 1=[.int .u32 0]:=rfl
   show kK _ _ (tI [zA.int .u32 0] 1)=_
   rw[e];rfl) (by intro i cs hi;match i,hi with | 0,hi=>cases hi;rfl) rfl hn
 have h1:=h.junk hn g4
 have sm:∀b o,same 10 (.ptr b o) (.ptr b o)=true:=fun b o=>by simp[same,Nat.beq_refl]
 refine⟨_,_,g1,sC (l2 h1) (rA (sm _ _) (sC (l2 h1) (rA (sm _ _) (sC (l3 h1) (rA EH (lC fun n2 _ _=>?_))))))⟩
 have hlow:=h1.low b (by simp[jB])
 obtain⟨t2,k1,k2,k3⟩:=ZM (C:=yA) (n:=n2) (k:=k) (m:=1) (cap:=cap) el189 (lA.cel (A:=[_]) h1) hlow.1 g2 rfl (by omega) (by omega) (by rw[BY];omega) (by intro a ha;simp at ha;subst ha;rfl)
 have e4:pJ (tP row) k [[zA.int .u32 (((s+c)%4294967296:Nat):Int)]].flatten=tP (row.set k ((s+c)%4294967296)):=by
  apply List.ext_getElem?
  intro i;have q1:(tP (row.set k ((s+c)%4294967296)))[i]?=((row.set k ((s+c)%4294967296))[i]?).map fun(n:Nat)=>zA.int .u32 (n:Int):=ybu
  have q2:(tP row)[i]?=(row[i]?).map fun(n:Nat)=>zA.int .u32 (n:Int):=ybu
  rw[Ed (by rw[BY];show k+1<=_;omega),q1,q2,ycw]
  show(if k<=i/\i<k+1 then [zA.int .u32 (((s+c)%4294967296:Nat):Int)][i-k]? else _)=_
  by_cases hi:i=k
  ·subst hi
   rw[yab ⟨ybk _,by omega⟩,yab rfl,yab (by omega),Nat.sub_self];rfl
  ·rw[yaa (by omega),yaa (fun e=>hi e.symm)]
 rw[e4]at k2;have h2:lA yA.base t0 t2 (Ck a3 b a1 a0 (row.set k ((s+c)%4294967296)) k cap c):=lA.upd (A:=[_]) (o:=jB b none (tP row)) h1 (fun q hq _=>k3 q (fun e=>hq (by simp[jB,e]))) (fun q hq=>.inl hq) k2 (by simp[jB]) (h1.tle.off hlow.2 k3)
 refine⟨_,_,k1,?_⟩
 have l2':mA yA 206 ⟨0,t2⟩ (.ptr a0 0)=some (.ptr a3 0):=(lA.cel (A:=[_,_,_]) h2).load1 ty206 rfl rfl
 refine sC l2' (rA (sm _ _) (iA (nl _ _) (lC fun n3 _ _=>?_)))
 obtain⟨t3,m1,m2⟩:=lA.setCel (A:=[]) (j:=0) (v:=.slice b 0 (k+1) cap) h2 mM rfl (by show 0+1<=1;omega) rfl
 refine⟨_,_,m1 n3,lC fun n4 _ _=>?_⟩
 obtain⟨t4,p1,p2⟩:=lA.setCel (A:=[_,_]) (j:=0) (v:=.int .u64 (((s+c) / 4294967296:Nat):Int)) m2 yQ rfl (by show 0+1<=1;omega) rfl
 exact⟨_,_,p1 n4,hQ t4 p2⟩
def YI  (h:lA yA.base t0 t [jB a3 none [.slice b 0 k cap],jB b none (tP row)])(hQ:∀t' a1 a0,lA yA.base t0 t' (Ck a3 b a1 a0 row k cap 0)->Q (.func (.func 154) [] [.ptr a1 0,.ptr a0 0]) t'):Wc yA F 139 [.ptr a3 0] t Q:=by
 refine w139 ?_
 unfold t139;refine lC fun a0 h0 hb0=>?_
 obtain⟨t1,e1,e2,e3,e4⟩:=Su (v:=.ptr a3 0) h0
 have o1:=lA.newCel (A:=[_,_]) (B:=[]) h h0 hb0 e2 e3 e4
 refine⟨_,_,e1,lC fun a1 h1 hb1=>?_⟩
 obtain⟨t2,f1,f2,f3,f4⟩:=rS (C:=yA) yQ h1
 have o2:=lA.newCel (A:=[_,_]) (B:=[_]) o1 h1 hb1 f2 f3 f4
 refine⟨_,_,f1,lC fun n _ _=>?_⟩
 obtain⟨t3,m1,m2⟩:=lA.setCel (A:=[_,_]) (j:=0) (v:=.int .u64 0) o2 yQ rfl (by show 0+1<=1;omega) rfl
 exact⟨_,_,m1 n,hQ t3 a1 a0 m2⟩
theorem za5 {v:zA}{f p:Nat}(hv:bA t 1 (rC .u32 l) v)(hl:l.length<100000)(hlt:mB 4294967296 l)(hf:f<4294967296)(hp:p<4294967296)
  (hQ:∀t' r rv,aA t t'->bA t' 1 (rC .u32 r) rv->mB 4294967296 r->norm r->val 4294967296 r=val 4294967296 l*f+p->r.length<=l.length+1->Q rv t'):Wc yA F 121 [v,.int .u32 (f:Int),.int .u32 (p:Int)] t Q:=by
 have hlen:=hv.len
 rw[uJ]at hlen;have ho:lA yA.base t t []:=⟨aA.refl _,by simp,by simp,by simp⟩
 refine w121 ?_
 unfold t121 uI;have e0:tD (l.length:Int)=.int .i64 ((l.length+1:Nat):Int):=by
  show zA.int .i64 (cA .i64 ((l.length:Int)+1))=_
  rw[iC (by omega) (by omega)];rfl
 refine iA hlen (pB (lC fun b hb hbb=>?_))
 rw[e0];obtain⟨t1,g1,g2,g3,g4⟩:=UE (C:=yA) (T:=189) (el:=56) (k:=.u32) (cap:=l.length+1) mM rfl dH rfl rfl (by decide) (by omega) hb
 have hrow:List.replicate (l.length+1) (zA.int .u32 0)=tP (List.replicate (l.length+1) 0):=by
  unfold tP;rw[List.map_replicate];rfl
 rw[hrow]at g2;have o1:=lA.newCel (A:=[]) (B:=[]) ho hb hbb g2 g3 g4
 refine⟨_,_,g1,lC fun a3 h3 hb3=>?_⟩
 obtain⟨t2,f1,f2,f3,f4⟩:=rS (C:=yA) mM h3
 have o2:=lA.newCel (A:=[]) (B:=[_]) o1 h3 hb3 f2 f3 f4
 refine⟨_,_,f1,lC fun n _ _=>?_⟩
 obtain⟨t3,m1,m2⟩:=lA.setCel (A:=[]) (j:=0) (v:=.slice b 0 0 (l.length+1)) o2 mM rfl (by show 0+1<=1;omega) rfl
 refine⟨_,_,m1 n,yB ?_⟩
 rw[q139];refine YI m2 fun t4 a1 a0 o4=>?_
 have e5:cA .u64 (p:Int)=(p:Int):=eF (by omega) (by omega)
 refine iA hlen (pB (jC ?_))
 rw[e5];have hfn:∀s:Int,gL (.func (.func 154) [] [.ptr a1 0,.ptr a0 0]) [.int .u64 s]=some (154,[.int .u64 s,.ptr a1 0,.ptr a0 0]):=fun s=>rfl
 have loop:∀(k i x c:Nat) (row:List Nat) (t5:Tr vA),i+k=l.length->row.length=l.length+1->mB 4294967296 (row.take i)->x+c<4294967296->val 4294967296 (row.take i)+4294967296^i*(x+c)=val 4294967296 (l.take i)*f+p →
   lA yA.base t t5 (Ck a3 b a1 a0 row i (l.length+1) c)->jp 121 2 [.int .u32 (f:Int),.ptr a3 0,.func (.func 154) [] [.ptr a1 0,.ptr a0 0],.int .u64 (x:Int),v,.int .i64 (l.length:Int),.int .i64 (i:Int)] t5 Q:=by
  intro k;induction k with
  | zero=>
   intro i x c row t5 hi hrl hra hxc hval o5;have hi:i=l.length:=by omega
   subst hi;refine zfg ?_
   unfold Vm;refine qB (by simp[fC]) (tV (hfn _) ?_)
   rw[q154];refine zft o5 (by omega) hrl.symm (by omega) fun t6 o6=>?_
   have hd0:(x+c) / 4294967296=0:=Nat.div_eq_of_lt hxc
   have hm0:(x+c)%4294967296=x+c:=Nat.mod_eq_of_lt hxc
   rw[hm0]at o6;have lv:mA yA 189 ⟨0,t6⟩ (.ptr a3 0)=some (.slice b 0 (l.length+1) (l.length+1)):=(lA.cel (A:=[]) o6).load1 mM rfl rfl
   refine sC lv (yB ?_)
   obtain⟨c0,y1,y2⟩:=lA.cel (A:=[_]) o6
   have od:=lA.drop (A:=[_]) o6
   have hni:=lA.notin (A:=[_]) (o:=jB b none (tP (row.set l.length (x+c)))) o6 (k:=b) (by simp[jB])
   obtain⟨r1,r2⟩:=od.froze hni y1 (o6.low b (by simp[jB])).2
   have hw:yD (t.set b (.cells c0 (tP (row.set l.length (x+c))).length none)) b none (tP (row.set l.length (x+c))):=⟨c0,by rw[Tr.get_set,yab rfl],y2⟩
   have hR:=yD.words (yD.le hw r1.tle) (n:=l.length+1) (cap:=l.length+1) (by simp[hrl]) (ybk _)
   have hrow:(row.set l.length (x+c)).take (l.length+1)=row.take l.length++[x+c]:=by
    rw[xQ (x:=x+c) (by rw[ycw];simp[hrl])]
    rw[List.take_set_of_le (ybk _)]
   rw[hrow]at hR;obtain⟨v',h1,h2⟩:=Bb (by simp;omega) hR
   rw[Eb,h1,sA];have hlen2:(row.take l.length).length=l.length:=by rw[yda];omega
   refine hQ t6 _ _ (r2.trans r1.tle) h2 (mT (sY hra hxc)) (mV _) ?_ ?_
   ·rw[wV,jN,hlen2,hval,List.take_length]
   ·have:=Ke (row.take l.length++[x+c])
    rw[ybg,hlen2]at this;simpa using this
  | succ k ih=>
   intro i x c row t5 hi hrl hra hxc hval o5;have hx:l[i]?=some l[i]:=ybd (by omega)
   refine zfg ?_
   unfold Vm uL;obtain⟨b',o',cs,h1,h2,_,_,h3⟩:=dG.at (fun _=>rfl) (hv.mono o5.tle) (LG hx)
   have e:=aJ.1 h3
   subst e;have hw:l[i]<4294967296:=hlt _ (ycj _)
   have hm:l[i]*f<=4294967295*4294967295:=ydb (by omega) (by omega)
   have e1:cA .u64 (cA .u64 (cA .u64 (l[i]:Int)*cA .u64 (f:Int))+(x:Int))=((l[i]*f+x:Nat):Int):=by
    rw[eF (n:=(l[i]:Int)) (by omega) (by omega),eF (n:=(f:Int)) (by omega) (by omega),<- Int.natCast_mul,eF (n:=((l[i]*f:Nat):Int)) (by omega) (by omega),eF (by omega) (by omega)]
    omega
   refine rA (by rw[fC];exact decide_eq_true (by omega)) (iA h1 (sC h2 (pB ?_)))
   rw[e1];refine tV (hfn _) ?_
   rw[q154];refine zft o5 (by omega) hrl.symm (by omega) fun t6 o6=>?_
   have e2:tD (i:Int)=.int .i64 ((i+1:Nat):Int):=by
    show zA.int .i64 (cA .i64 ((i:Int)+1))=_
    rw[iC (by omega) (by omega)];rfl
   refine jC ?_
   rw[e2];have hrow:(row.set i ((l[i]*f+x+c)%4294967296)).take (i+1)=row.take i++[(l[i]*f+x+c)%4294967296]:=by
    rw[xQ (x:=(l[i]*f+x+c)%4294967296) (by rw[ycw];simp;omega)]
    rw[List.take_set_of_le (ybk _)]
   have hlen2:(row.take i).length=i:=by rw[yda];omega
   refine ih (i+1) 0 ((l[i]*f+x+c) / 4294967296) _ t6 (by omega) (by simp[hrl]) ?_ (by omega) ?_ o6
   ·rw[hrow];exact sY hra (by omega)
   ·rw[hrow,jN,hlen2,xQ hx,jN,yda,Nat.min_eq_left (by omega),ybo,yag,ybw]
    have key:4294967296*((l[i]*f+x+c) / 4294967296)+(l[i]*f+x+c)%4294967296=l[i]*f+x+c:=ych _ _
    calc val 4294967296 (row.take i)+4294967296^i*((l[i]*f+x+c)%4294967296)+4294967296^i*4294967296*((l[i]*f+x+c) / 4294967296)
      = val 4294967296 (row.take i)+4294967296^i*(4294967296*((l[i]*f+x+c) / 4294967296)+(l[i]*f+x+c)%4294967296):=by grind
     _=(val 4294967296 (row.take i)+4294967296^i*(x+c))+4294967296^i*(l[i]*f):=by rw[key];grind
     _=_:=by rw[hval];grind
 refine loop l.length 0 p 0 _ t4 (by omega) (by simp) (fun x hx=>by simp at hx) (by omega) (by simp[val]) o4
end
end Go.Proofs
namespace Go.Am
open Go Go.RowKit
inductive E where
 | pl (d:D)
 | sl (sz:Nat) (l:List E) (m:List D)
 | st (l:List E)
section
variable {t t' tf:Tr vA}{C:oA}
end
end Go.Am
namespace Go.Am
open Go Go.RowKit
variable {u v:zA}
def limbMs:List D:=(List.range 12).map fun i=>D.int .u16 (((8000024+i)%65536:Nat):Int)
def tJ.e(w:tJ):E:=.st [.pl (.bool w.neg),.sl 1 ((eD w.limbs).map E.pl) limbMs]
section
variable {t:Tr vA}
theorem lV{w:tJ} (hu:bA t 1 (eD w.limbs) u):RD t w.d [.bool w.neg,u]:=by
 unfold tJ.d;rw[oI];refine⟨[[.bool w.neg],[u]],rfl,?_⟩
 grind [dC,wF,dU,pM]
theorem wU{f:vH} (hu:bA t 1 (eD f.n.limbs) u)(hv:bA t 1 (eD f.d.limbs) v):RD t f.dd [.bool f.n.neg,u,.bool f.d.neg,v]:=by
 unfold vH.dd;rw[oI];refine⟨[[.bool f.n.neg,u],[.bool f.d.neg,v]],rfl,?_⟩
 grind [dC,lV,wF]
theorem Ej{x:oG} (hu:bA t 1 (eD x.f.n.limbs) u)(hv:bA t 1 (eD x.f.d.limbs) v):RD t x.d [.int .u8 x.kind,.bool x.f.n.neg,u,.bool x.f.d.neg,v,.int .i64 x.i]:=by
 unfold oG.d;rw[oI];refine⟨[[.int .u8 x.kind],[.bool x.f.n.neg,u,.bool x.f.d.neg,v],[.int .i64 x.i]],rfl,?_⟩
 grind [dC,aJ,wU,wF]
theorem mk_row{x:lG} (hu:bA t 1 (eD x.f.n.limbs) u)(hv:bA t 1 (eD x.f.d.limbs) v):RD t x.d [.int .i64 x.a,.int .i64 x.b,.int .i64 x.known,.bool x.f.n.neg,u,.bool x.f.d.neg,v]:=by
 unfold lG.d;rw[oI];refine⟨[[.int .i64 x.a],[.int .i64 x.b],[.int .i64 x.known],[.bool x.f.n.neg,u,.bool x.f.d.neg,v]],rfl,?_⟩
 grind [dC,wF,aJ,wU]
theorem zb5{x:pG} (hv:bA t 7 (x.rows.map lG.d) v):RD t x.d [.str x.name,.bool x.two,v]:=by
 unfold pG.d;rw[oI];refine⟨[[.str x.name],[.bool x.two],[v]],rfl,?_⟩
 grind [dC,wF,pK,dU,pM]
theorem Ek{op:Nat}{name:List Nat}{v:oG}{args:List fA}{a b c:zA}(ha:bA t 1 (eD v.f.n.limbs) a)(hb:bA t 1 (eD v.f.d.limbs) b)(hc:bA t 9 (args.map fA.d) c):RD t (fA.mk op name v args).d (Fp (.mk op name v args) a b c):=by
 unfold fA.d Fp;rw[oI,fA.ds_eq];refine⟨[[.int .u8 op],[.str name],[.int .u8 v.kind,.bool v.f.n.neg,a,.bool v.f.d.neg,b,.int .i64 v.i],[c]],rfl,?_⟩
 rw[dC];refine⟨_,_,rfl,rfl,?_⟩
 rw[dC];refine⟨_,_,rfl,rfl,?_⟩
 grind [dC,Ej,pM,wF]
theorem TZ{x:lE}{cs ds:List zA}(h1:RD t x.when_.d cs)(h2:RD t x.then_.d ds):RD t x.d ([.str x.name,.str x.label,.int .i64 x.from_,.int .i64 x.to,.int .i64 x.known,.bool x.off]++(cs++ds)):=by
 unfold lE.d;rw[oI];refine⟨[[.str x.name],[.str x.label],[.int .i64 x.from_],[.int .i64 x.to],[.int .i64 x.known],[.bool x.off],cs,ds],by simp,?_⟩
 simp only[dC,wF,pK,aJ,dU];grind
def pP{sz:Nat}:bA t sz [] .nilslice:=⟨[],.inl ⟨rfl,rfl⟩,wF.2 rfl⟩
end
end Go.Am
namespace Go.Proofs
open Go Go.Am
variable {b el g op sz:Nat}{y z:lD}{v:zA}{ps:List (Nat × zA)}{cl:List (List zA)}{ds:List D}{x:fA}{c cs cx:List zA}{w:List Nat}{l:List (List Nat × Nat)}
variable [eC]
section
variable {tf t:Tr vA}{C:oA}
theorem Hx {z:List zA} (hz:z.length=sz)(hv:v.cells.length=sz):kK (fun i=>some (i*sz,sz)) [(0,v)] (tI z 1)=some v.cells:=by
 have e:tI z 1=z:=by
  show fD z []=_;rw[iG,ycd]
 rw[e];have o1:yT z (0*sz) sz v=some v.cells:=by
  unfold yT;simp only[oD,hv,Nat.zero_mul,ybw,iR,mP,iG,List.take_zero,yah];rw[mC.2 rfl,oE.2 (by omega)]
  simp only[Bool.and_self,yE];rw[<- hz,List.drop_length,ycd]
 grind [kK,qA]
def litN{T n:Nat}{L:List kD}    (hT:C.tys.get T=some y)(hel:y.desc.asSlice=some el)(hz:C.tys.get el=some z)(hs:z.size=sz)(h0:zB z.zero=sz)(hn:n*sz<1000000)
  (hfill:kK (fun i=>some (i*sz,sz)) ps (tI z.zero n)=some cl.flatten) (hcl:∀(i:Nat) cs,cl[i]?=some cs->cs.length=sz) (hlen:cl.length=n) (hr:wD tf ds cl) (ho:lA C.base tf t L) (hb:t.get b=none) :
  ∃tf' t',cC C T n ps ⟨b,t⟩=some (.slice b 0 n n,⟨b+1,t'⟩)/\aA tf tf'/\lA C.base tf' t' L/\bA tf' sz ds (.slice b 0 n n):=by
 obtain⟨t',h1,h2,h3,h4⟩:=Ep hT hel hz hs h0 hn hfill hcl hlen hb
 have ho':=ho.junk hb h4
 have hfb:=ho.tfn hb
 have hg:t'.get b=some (.cells (Tr.ofList cl.flatten) (zB cl.flatten) none):=by
  have:=h1
  unfold cC at this;rw[hT,qA,hel,qA,hz,qA]at this;rw[wB,hs,hfill,qA]at this;obtain⟨_,h5⟩:=this
  have h5:=(Prod.mk.inj (yci h5)).2
  have h6:t.set b (.cells (Tr.ofList cl.flatten) (zB cl.flatten) none)=t':=(xA.mk.inj h5).2
  rw[<- h6,Tr.get_set,yab rfl]
 obtain⟨k1,k2⟩:=ho'.froze (fun hm=>ho.fresh hb hm) hg hfb
 refine⟨_,t',h1,k2,k1,cl,KY hcl (by rw[Tr.get_set,yab rfl]) (.inl rfl) hlen,wD.mono k2 _ _ hr⟩
end
def oS (x:List Nat × Nat):D:=.st [.str x.1,.int .u8 (x.2:Int)]
theorem rd_op{t:Tr vA}{x:List Nat × Nat} (h:RD t (oS x) cs):cs=[.str x.1,.int .u8 (x.2:Int)]:=by
 grind [oS,oI,dC,wF,pK,aJ]
def zho{t:Tr vA}(x:List Nat × Nat):RD t (oS x) [.str x.1,.int .u8 (x.2:Int)]:=by
 unfold oS;exact oI.2 ⟨[[.str x.1],[.int .u8 (x.2:Int)]],rfl,dC.2 ⟨_,_,rfl,pK.2 rfl,dC.2 ⟨_,_,rfl,aJ.2 rfl,wF.2 rfl⟩⟩⟩
def lM (tf:Tr vA)(x:fA)(v:zA):Prop:=∃cs,v=.agg cs/\RD tf x.d cs
def rdXV (tf:Tr vA)(x:oG)(v:zA):Prop:=∃cs,v=.agg cs/\RD tf x.d cs
abbrev zE:List zA:=[.int .u8 0,.str [],.int .u8 0,.bool false,.nilslice,.bool false,.nilslice,.int .i64 0,.nilslice]
abbrev zV:List zA:=[.int .u8 0,.bool false,.nilslice,.bool false,.nilslice,.int .i64 0]
abbrev cE(X:kG):List zA:=[.int .u8 (X.i 0),.str (X.s 1),.int .u8 (X.i 2),.bool (X.b 3),X.v 4,.bool (X.b 5),X.v 6,.int .i64 (X.i 7),X.v 8]
abbrev cV(X:kG):List zA:=[.int .u8 (X.i 0),.bool (X.b 1),X.v 2,.bool (X.b 3),X.v 4,.int .i64 (X.i 5)]
def cE_eq{tf:Tr vA}  (h:RD tf x.d cs):cE (cellsOf cs)=cs:=by
 obtain⟨a,b,c,rfl,_⟩:=uK h
 rfl
def agE{tf:Tr vA}  (h:RD tf x.d cs):jJ zE (.agg cs)=some (cellsOf cs):=vL h (fA.zs _)
def agV{tf:Tr vA}{x:oG} (h:RD tf x.d cs):jJ zV (.agg cs)=some (cellsOf cs):=vL h (oG.zs _)
def Hy{tf:Tr vA}  (h:RD tf x.d cs):cs.length=9:=by
 obtain⟨a,b,c,rfl,_⟩:=uK h
 rfl
section
variable {P:cI}{tf t:Tr vA}{n d:Nat}{Q E:sB}{J:kE}
def St.lit{T k:Nat}    (h:St P tf t n d)(hT:yA.tys.get T=some y)(hel:y.desc.asSlice=some el)(hz:yA.tys.get el=some z)(hs:z.size=sz)(h0:zB z.zero=sz)(hn:k*sz<1000000)
  (hfill:kK (fun i=>some (i*sz,sz)) ps (tI z.zero k)=some cl.flatten) (hcl:∀(i:Nat) cs,cl[i]?=some cs->cs.length=sz) (hlen:cl.length=k) (hr:wD tf ds cl) (hb:t.get b=none) :
  ∃tf' t',cC yA T k ps ⟨b,t⟩=some (.slice b 0 k k,⟨b+1,t'⟩)/\aA tf tf'/\St P tf' t' n d/\bA tf' sz ds (.slice b 0 k k):=by
 obtain⟨tf',t',h1,h2,h3,h4⟩:=litN hT hel hz hs h0 hn hfill hcl hlen hr h.ob hb
 exact⟨tf',t',h1,h2,⟨h.ts.mono h2,h3,h.len,h.le,h.good,h.glob.mono h2⟩,h4⟩
theorem Ee  (h:c.length=sz):∀(i:Nat) cs,[c][i]?=some cs->cs.length=sz:=by
 intro i cs hi;match i,hi with
 | 0,hi=>simp_all
theorem zdv {c':List zA}(h:c.length=sz)(h':c'.length=sz):∀(i:Nat) cs,[c,c'][i]?=some cs->cs.length=sz:=by
 intro i cs hi;match i,hi with
 | 0,hi=>simp_all
 | 1,hi=>simp_all
def aO {X Y:T}(h:St P tf t n d)(k1:acc P.tk w n=true->∀t',St P tf t' (n+1) d->pA yA.base (dE yA F vC tF E) J X t' Q)(k2:acc P.tk w n=false->∀t',St P tf t' n d->pA yA.base (dE yA F vC tF E) J Y t' Q) :
  pA yA.base (dE yA F vC tF E) J (.call 72 [.ptr P.bp 0,.str w] fun a=>.asB a fun b=>.ite b X Y) t Q:=by
 refine yB ?_
 rw[pW 72];refine Cq h fun t' h'=>cD ?_
 cases ha:acc P.tk w n with
 | true=>rw[ha]at h';exact rA rfl (k1 ha t' h')
 | false=>rw[ha]at h';exact qB (by simp) (k2 ha t' h')
def KQ  (hv:bA tf 1 [D.str w] v)(h:St P tf t n d)(hk:Ok P rdU d tf (rE P.tk w n) Q E):fJ yA F E 57 [.ptr P.bp 0,v] t Q:=by
 refine w57 _ _ ?_
 unfold t57;refine iA hv.len (pB (jC (j57_2 _ _ _ _ ?_)))
 unfold zg6;obtain⟨b,o,cs,h1,h2,_,_,h3⟩:=sl93.at (fun _=>rfl) (hv.mono h.ob.tle) (i:=0) rfl
 have e:cs=[.str w]:=pK.1 h3
 subst e;refine rA (by simp[fC]) (iA h1 (sC h2 (dF (yB ?_))))
 rw[pW 72];refine Cq h fun t' h'=>cD ?_
 unfold rE at hk
 cases ha:acc P.tk w n with
 | true=>
  rw[ha]at h' hk
  refine qB (by simp) (jC (j57_2 _ _ _ _ ?_))
  unfold zg6;have:(cA .i64 (0+1))=1:=by decide
  rw[this];exact qB (by simp[fC]) (Ok.now hk h' rfl)
 | false=>
  rw[ha]at h' hk
  exact rA rfl (yB (Ok.fail h' hk))
def Aa{α:Type}{rd:Tr vA->α->zA->Prop} {f:Unit->Nat->PR α}{K:zA->T}{Q':sB}(h:St P tf t n d)(hk:Ok P rd d tf ((rE P.tk w n).bind f) Q' E)
  (k:∀n1 tf1 t1,aA tf tf1->St P tf1 t1 n1 d->Ok P rd d tf1 (f () n1) Q' E->pA yA.base (dE yA F vC tF E) J (K (.tup [])) t1 Q) :
  pA yA.base (dE yA F vC tF E) J (.heavy (cC yA 93 1 [(0,.str w)]) fun a=>.call 57 [.ptr P.bp 0,a] K) t Q:=by
 refine lC fun b hb _=>?_
 obtain⟨tf1,t1,h1,h2,h3,h4⟩:=h.lit (k:=1) (sz:=1) (ds:=[D.str w]) (cl:=[[.str w]]) ty93 rfl sP rfl rfl (by omega) (Hx (sz:=1) (z:=[.str []]) (v:=.str w) rfl rfl) (Ee rfl) rfl (dC.2 ⟨_,_,rfl,pK.2 rfl,wF.2 rfl⟩) hb
 refine⟨_,_,h1,yB ?_⟩
 rw[pE 57];exact KQ h4 h3 ((hk.mono h2).bind fun a n1 tf2 t2 v hr hl hst hrd hk1=>by cases hrd;exact k n1 tf2 t2 (h2.trans hl) hst hk1)
def Xk  (hv:bA tf 2 (l.map oS) v)(hl:l.length<1000)(h:St P tf t n d)
  (hQ:∀t',match dJ P.tk l n with | none=>St P tf t' n d->Q (.tup [.int .u8 0,.bool false]) t' | some op=>St P tf t' (n+1) d->Q (.tup [.int .u8 (op:Int),.bool true]) t'):Wc yA F 95 [.ptr P.bp 0,v] t Q:=by
 have loop:∀(k i:Nat) (t:Tr vA),i+k=l.length->St P tf t n d->(∀t',match dJ P.tk (l.drop i) n with | none=>St P tf t' n d->Q (.tup [.int .u8 0,.bool false]) t' | some op=>St P tf t' (n+1) d->Q (.tup [.int .u8 (op:Int),.bool true]) t') →
   jp 95 2 [.ptr P.bp 0,v,.int .i64 (l.length:Int),.int .i64 (i:Int)] t Q:=by
  intro k;induction k with
  | zero=>
   intro i t hi h hQ;refine j95_2 ?_
   unfold zg3;have e:l.drop i=[]:=ybt (by omega)
   rw[e]at hQ;exact qB (by simp[fC];omega) (hQ t h)
  | succ k ih=>
   intro i t hi h hQ;refine j95_2 ?_
   unfold zg3 uG uB;have hx:l[i]?=some l[i]:=ybd (by omega)
   have hd:(l.map oS)[i]?=some (oS l[i]):=by rw[ybu,hx];rfl
   obtain⟨b,o,cs,h1,h2,_,_,h3⟩:=sl161.at (fun h=>by cases h) (hv.mono h.ob.tle) hd
   have e:=rd_op h3
   subst e;rw[ybl (by omega:i<l.length)]at hQ
   unfold dJ at hQ;rw[List.find?_cons]at hQ;refine rA (by simp[fC];omega) (iA h1 (sC h2 (aC (X:=cellsOf [.str l[i].1,.int .u8 (l[i].2:Int)]) (cQ rfl) (rA rfl ?_))))
   refine yB ?_
   rw[q72];refine Cq h fun t' h'=>cD ?_
   have e1:(cellsOf [.str l[i].1,.int .u8 (l[i].2:Int)]).s 0=l[i].1:=rfl
   have e2:(cellsOf [.str l[i].1,.int .u8 (l[i].2:Int)]).i 1=(l[i].2:Int):=rfl
   rw[e1]at h' ⊢
   cases ha:acc P.tk l[i].1 n with
   | true=>
    rw[ha]at h' hQ
    refine rA rfl ?_
    rw[e2];exact hQ t' h'
   | false=>
    rw[ha]at h' hQ
    refine qB (by simp) (jC ?_)
    have:tD (i:Int)=.int .i64 ((i+1:Nat):Int):=by
     show zA.int .i64 (cA .i64 ((i:Int)+1))=_
     rw[iC (by omega) (by omega)];rfl
    rw[this];exact ih (i+1) t' (by omega) h' hQ
 refine w95 ?_
 unfold t95;have hlen:=hv.len
 rw[ybf]at hlen;exact iA hlen (pB (jC (loop l.length 0 t (by omega) h (by simpa using hQ))))
def jI(P:cI)(d:Nat)(o:PM fA)(g:Nat):Prop:=∀(tf t:Tr vA) (n:Nat) (Q E:sB),St P tf t n d->Ok P lM d tf (o n) Q E->fJ yA F E g [.ptr P.bp 0] t Q
def Up {α:Type}(o:PM α):Prop:=∀n a n',o n=.ok a n'->n<=n'
def zhn  (h:dJ P.tk l n=some op):n<P.tk.length:=by
 unfold dJ at h
 cases hx:l.find? fun o=>acc P.tk o.1 n with
 | none=>rw[hx]at h;cases h
 | some x=>exact Ng (List.find?_some (p:=fun o:List Nat × Nat=>acc P.tk o.1 n) hx)
def Sy{tf:Tr vA} {y:fA} (h:bA tf 9 [x.d,y.d] v):RD tf (gW op x y).d [.int .u8 (op:Int),.str [],.int .u8 0,.bool false,.nilslice,.bool false,.nilslice,.int .i64 0,v]:=by
 unfold gW;exact Ek (v:=nM) pP pP h
def un_rd{tf:Tr vA}    (h:bA tf 9 [x.d] v):RD tf (unX op w x).d [.int .u8 (op:Int),.str w,.int .u8 0,.bool false,.nilslice,.bool false,.nilslice,.int .i64 0,v]:=by
 unfold unX;exact Ek (v:=nM) pP pP h
def zhp (h:zA.one v=true){a:zA}(ha:zA.one a=true):fB zA.one [a,v]=true:=by
 rw[jH];simp[h,ha]
def St.pair {y:fA}{cy:List zA}(h:St P tf t n d)(hx:RD tf x.d cx)(hy:RD tf y.d cy)(hb:t.get b=none) :
  ∃tf' t',cC yA 48 2 [(0,.agg cx),(1,.agg cy)] ⟨b,t⟩=some (.slice b 0 2 2,⟨b+1,t'⟩)/\aA tf tf'/\St P tf' t' n d/\bA tf' 9 [x.d,y.d] (.slice b 0 2 2):=
 h.lit (ds:=[x.d,y.d]) (cl:=[cx,cy]) ty48 rfl ty50 rfl rfl (by omega) (KJ rfl (Hy hx) (Hy hy)) (zdv (Hy hx) (Hy hy)) rfl (dC.2 ⟨_,_,rfl,hx,dC.2 ⟨_,_,rfl,hy,wF.2 rfl⟩⟩) hb
def St.sole   (h:St P tf t n d)(hx:RD tf x.d cx)(hb:t.get b=none) :
  ∃tf' t',cC yA 48 1 [(0,.agg cx)] ⟨b,t⟩=some (.slice b 0 1 1,⟨b+1,t'⟩)/\aA tf tf'/\St P tf' t' n d/\bA tf' 9 [x.d] (.slice b 0 1 1):=by
 have hf:kK (fun i=>some (i*9,9)) [(0,.agg cx)] (tI zE 1)=some [cx].flatten:=by
  rw[Hx (sz:=9) (z:=zE) (v:=.agg cx) rfl (Hy hx)];show some cx=_;simp
 exact h.lit (k:=1) (sz:=9) (ds:=[x.d]) (cl:=[cx]) (ps:=[(0,.agg cx)]) ty48 rfl ty50 rfl rfl (by omega) hf (Ee (Hy hx)) rfl (dC.2 ⟨_,_,rfl,hx,wF.2 rfl⟩) hb
def MM (hg:Nat.blt g pn=true)  : gL (.func (.func g) [v] []) []=some (g,[v]):=by
 unfold gL;simp only[zA.asFunc,qA,hg,yE];rfl
def YQ{o:PM fA}   (ho:jI P d o g)(hup:Up o)(hg:Nat.blt g pn=true)(hp1:(vC g&&Nat.blt g yo)=false)(hp2:Nat.beq g pn=false)(hp3:(tF g&&Nat.blt g pn)=true)(hl:l.length<1000) :
  ∀(m n:Nat) (x:fA) (cs:List zA) (tf t:Tr vA) (Q E:sB),P.tk.length-n<=m->St P tf t n d->bA tf 2 (l.map oS) v->RD tf x.d cs->Ok P lM d tf (iP P.tk o l m x n) Q E->pH E 68 2 ([.ptr P.bp 0,.func (.func g) [.ptr P.bp 0] [],v]++zE++cs) t Q:=by
 intro m;induction m with
 | zero=>
  intro n x cs tf t Q E hm h hv hx hk;obtain⟨a,b,c,rfl,_⟩:=uK hx
  refine j68_2 _ _ _ _ _ _ _ _ _ _ _ _ _ _ _ _ _ _ _ _ _ ?_
  unfold zg5;refine yB ?_
  rw[pW 95];have hn:dJ P.tk l n=none:=by
   cases hx:dJ P.tk l n with
   | none=>rfl
   | some op=>have:=zhn hx;omega
  refine Xk hv hl h fun t'=>?_
  rw[hn];intro h';refine iA rfl (pB (iA rfl (cD (rA rfl (rA hx.all ?_)))))
  exact Ok.now hk h' ⟨_,rfl,hx⟩
 | succ m ih=>
  intro n x cs tf t Q E hm h hv hx hk;obtain⟨a,b,c,rfl,_⟩:=uK hx
  refine j68_2 _ _ _ _ _ _ _ _ _ _ _ _ _ _ _ _ _ _ _ _ _ ?_
  unfold zg5;refine yB ?_
  rw[pW 95];refine Xk hv hl h fun t'=>?_
  unfold iP at hk
  cases hop:dJ P.tk l n with
  | none=>
   rw[hop]at hk;intro h';refine iA rfl (pB (iA rfl (cD (rA rfl (rA hx.all ?_)))))
   exact Ok.now hk h' ⟨_,rfl,hx⟩
  | some op=>
   rw[hop]at hk;intro h';refine iA rfl (pB (iA rfl (cD (qB (by simp) (tV (MM hg) ?_)))))
   have e:∀a R,dE yA F vC tF E g a t' R=fJ yA F E g a t' R:=fun a R=>by unfold dE;rw[hp1,hp2,hp3];simp
   rw[e];refine ho _ _ _ _ _ h' (hk.bind fun y n1 tf1 t1 vy hr hle hst hrd hk1=>?_)
   obtain⟨cy,rfl,hy⟩:=hrd
   have hn1:=hup _ _ _ hr
   obtain⟨a',b',c',rfl,_⟩:=uK hy
   refine aC (agE hy) (rA hy.all (lC fun b hb _=>?_))
   have hx1:=RD.mono hle _ _ hx
   obtain⟨tf2,t2,k1,k2,k3,k4⟩:=hst.pair hx1 hy hb
   refine⟨_,_,k1,?_⟩
   refine rA (zhp rfl rfl) (rA (Sy k4).all (jC ?_))
   exact ih n1 (gW op x y) _ tf2 t2 Q E (by omega) k3 (hv.mono (hle.trans k2)) (Sy k4) (hk1.mono k2)
end
end Go.Proofs
namespace Go.Proofs
open Go Go.Am
section
variable {l:List (List Nat × Nat)}{v:zA}{b op op':Nat}{w w':List Nat}
variable [eC]
def PR.bind_ok{α β:Type}{r:PR α}{f:α->Nat->PR β}{b:β}{n:Nat}(h:r.bind f=.ok b n):∃a n1,r=.ok a n1/\f a n1=.ok b n:=by
 cases r with
 | ok a n1=>exact⟨a,n1,rfl,h⟩
 | er e i=>cases h
section
variable {tk:List uC}{o:PM fA}
def zaa(h:Up o)  : ∀(m:Nat) (x:fA) (n:Nat) (y:fA) (n':Nat),iP tk o l m x n=.ok y n'->n<=n':=by
 intro m;induction m with
 | zero=>intro x n y n' hh;cases hh;exact ybk _
 | succ m ih=>
  intro x n y n' hh;unfold iP at hh
  cases hop:dJ tk l n with
  | none=>rw[hop]at hh;cases hh;exact ybk _
  | some op=>
   rw[hop]at hh;obtain⟨a,n1,h1,h2⟩:=PR.bind_ok hh
   have:=h _ _ _ h1
   have:=ih _ _ _ _ h2
   omega
def My(h:Up o)  : Up (gU tk o l):=by
 intro n a n' hh;obtain⟨x,n1,h1,h2⟩:=PR.bind_ok hh
 have:=h _ _ _ h1
 have:=zaa h _ _ _ _ _ h2
 omega
def zda(h:Up o):Up (Ih tk o):=by
 intro n a n' hh;obtain⟨x,n1,h1,h2⟩:=PR.bind_ok hh
 have hs:Up (Be tk o):=My (My h)
 have:=hs _ _ _ h1
 cases hop:dJ tk [([60],13),([61],14)] n1 with
 | none=>rw[hop]at h2;cases h2;assumption
 | some op=>
  rw[hop]at h2;obtain⟨y,n2,h3,h4⟩:=PR.bind_ok h2
  have:=hs _ _ _ h3
  cases h4;omega
def GP(h:Up o):Up (Eg tk o):=by
 intro n a n' hh;obtain⟨x,n1,h1,h2⟩:=PR.bind_ok hh
 have:=zda h _ _ _ h1
 cases h2;omega
def LV(h:Up o):Up (Mx tk o):=My (GP h)
def KO(h:Up o):Up (xS tk o):=My (LV h)
end
section
variable {P:cI}{tf t:Tr vA}{n d:Nat}{Q E:sB}{J:kE}{o:PM fA}{g:Nat}
def Wo{W:kE}{x:fA} (hrd:lM tf x v)(k:Q v t):pA yA.base W J (.asG zE v fun X=>.ite (fB zA.one (cE X)) (.ret (.agg (cE X))) .fail) t Q:=by
 obtain⟨cs,rfl,hx⟩:=hrd
 obtain⟨a,b,c,rfl,_⟩:=uK hx
 exact aC (agE hx) (rA hx.all k)
def MI  (ho:jI P d o g)(hup:Up o)(hl:l.length<1000)(h:St P tf t n d)(hv:bA tf 2 (l.map oS) v)(hk:Ok P lM d tf (gU P.tk o l n) Q E)
  (hg:Nat.blt g pn=true:=by kernel_rfl) (hp1:(vC g&&Nat.blt g yo)=false:=by kernel_rfl) (hp2:Nat.beq g pn=false:=by kernel_rfl) (hp3:(tF g&&Nat.blt g pn)=true:=by kernel_rfl):fJ yA F E 68 [.ptr P.bp 0,.func (.func g) [.ptr P.bp 0] [],v] t Q:=by
 refine w68 _ _ _ ?_
 unfold t68;refine tV (MM hg) ?_
 have e:∀a R,dE yA F vC tF E g a t R=fJ yA F E g a t R:=fun a R=>by unfold dE;rw[hp1,hp2,hp3];simp
 rw[e];refine ho _ _ _ _ _ h (hk.bind fun x n1 tf1 t1 vy hr hle hst hrd hk1=>?_)
 obtain⟨cs,rfl,hx⟩:=hrd
 have hx':=hx
 obtain⟨a,b,c,rfl,_⟩:=uK hx
 refine aC (agE hx) (rA hx.all (jC ?_))
 exact YQ ho hup hg hp1 hp2 hp3 hl P.tk.length n1 x _ tf1 t1 Q E (Nat.sub_le _ _) hst (hv.mono hle) hx' hk1
def St.ops1   (h:St P tf t n d)(hb:t.get b=none) :
  ∃tf' t',cC yA 161 1 [(0,.agg [.str w,.int .u8 (op:Int)])] ⟨b,t⟩=some (.slice b 0 1 1,⟨b+1,t'⟩)/\aA tf tf'/\St P tf' t' n d/\bA tf' 2 ([(w,op)].map oS) (.slice b 0 1 1):=by
 have hf:kK (fun i=>some (i*2,2)) [(0,.agg [.str w,.int .u8 (op:Int)])] (tI [.str [],.int .u8 0] 1)=some [[zA.str w,.int .u8 (op:Int)]].flatten:=by
  rw[Hx (sz:=2) (z:=[.str [],.int .u8 0]) (v:=.agg [.str w,.int .u8 (op:Int)]) rfl rfl];rfl
 exact h.lit (k:=1) (sz:=2) (ds:=[oS (w,op)]) (cl:=[[.str w,.int .u8 (op:Int)]]) zgj rfl zgl rfl rfl (by omega) hf (Ee rfl) rfl (dC.2 ⟨_,_,rfl,zho (w,op),wF.2 rfl⟩) hb
def St.ops2   (h:St P tf t n d)(hb:t.get b=none) :
  ∃tf' t',cC yA 161 2 [(0,.agg [.str w,.int .u8 (op:Int)]),(1,.agg [.str w',.int .u8 (op':Int)])] ⟨b,t⟩=some (.slice b 0 2 2,⟨b+1,t'⟩)/\aA tf tf'/\St P tf' t' n d/\bA tf' 2 ([(w,op),(w',op')].map oS) (.slice b 0 2 2):=
 h.lit (k:=2) (sz:=2) (ds:=[oS (w,op),oS (w',op')]) (cl:=[[.str w,.int .u8 (op:Int)],[.str w',.int .u8 (op':Int)]]) zgj rfl zgl rfl rfl (by omega) (KJ rfl rfl rfl) (zdv rfl rfl) rfl (dC.2 ⟨_,_,rfl,zho (w,op),dC.2 ⟨_,_,rfl,zho (w',op'),wF.2 rfl⟩⟩) hb
def zfv  (ho:jI P d o g)(hup:Up o)(h:St P tf t n d)(hk:Ok P lM d tf (gU P.tk o [(w,op),(w',op')] n) Q E)
  (hg:Nat.blt g pn=true:=by kernel_rfl) (hp1:(vC g&&Nat.blt g yo)=false:=by kernel_rfl) (hp2:Nat.beq g pn=false:=by kernel_rfl) (hp3:(tF g&&Nat.blt g pn)=true:=by kernel_rfl) :
  pA yA.base (dE yA F vC tF E) J (.heavy (cC yA 161 2 [(0,.agg [.str w,.int .u8 (op:Int)]),(1,.agg [.str w',.int .u8 (op':Int)])]) fun a=>.call 68 [.ptr P.bp 0,.func (.func g) [.ptr P.bp 0] [],a] fun v=>.asG zE v fun X=>.ite (fB zA.one (cE X)) (.ret (.agg (cE X))) .fail) t Q:=by
 refine lC fun b hb _=>?_
 obtain⟨tf1,t1,h1,h2,h3,h4⟩:=h.ops2 (w:=w) (w':=w') (op:=op) (op':=op') hb
 refine⟨_,_,h1,yB ?_⟩
 rw[pE 68];refine MI ho hup (by simp) h3 h4 ?_ hg hp1 hp2 hp3
 have hk:=hk.mono h2
 revert hk
 generalize gU P.tk o [(w,op),(w',op')] n=r
 intro hk
 cases r with
 | ok x n1=>exact fun tf2 t2 v k1 k2 k3=>Wo k3 (hk tf2 t2 v k1 k2 k3)
 | er e i=>exact hk
def zfw  (ho:jI P d o g)(hup:Up o)(h:St P tf t n d)(hk:Ok P lM d tf (gU P.tk o [(w,op)] n) Q E)
  (hg:Nat.blt g pn=true:=by kernel_rfl) (hp1:(vC g&&Nat.blt g yo)=false:=by kernel_rfl) (hp2:Nat.beq g pn=false:=by kernel_rfl) (hp3:(tF g&&Nat.blt g pn)=true:=by kernel_rfl) :
  pA yA.base (dE yA F vC tF E) J (.heavy (cC yA 161 1 [(0,.agg [.str w,.int .u8 (op:Int)])]) fun a=>.call 68 [.ptr P.bp 0,.func (.func g) [.ptr P.bp 0] [],a] fun v=>.asG zE v fun X=>.ite (fB zA.one (cE X)) (.ret (.agg (cE X))) .fail) t Q:=by
 refine lC fun b hb _=>?_
 obtain⟨tf1,t1,h1,h2,h3,h4⟩:=h.ops1 (w:=w) (op:=op) hb
 refine⟨_,_,h1,yB ?_⟩
 rw[pE 68];refine MI ho hup (by simp) h3 h4 ?_ hg hp1 hp2 hp3
 have hk:=hk.mono h2
 revert hk
 generalize gU P.tk o [(w,op)] n=r
 intro hk
 cases r with
 | ok x n1=>exact fun tf2 t2 v k1 k2 k3=>Wo k3 (hk tf2 t2 v k1 k2 k3)
 | er e i=>exact hk
def zhj(ho:jI P d o 161)(hup:Up o):jI P d (Ps P.tk o) 151:=fun tf t n Q E h hk=>by
 refine w151 _ ?_
 unfold t151;exact rA rfl (rA rfl (zfv ho hup h hk))
def zeh(ho:jI P d o 161)(hup:Up o):jI P d (Be P.tk o) 135:=fun tf t n Q E h hk=>by
 refine w135 _ ?_
 unfold t135;exact rA rfl (rA rfl (zfv (zhj ho hup) (My hup) h hk))
def zjp(ho:jI P d o 161)(hup:Up o):jI P d (Ih P.tk o) 117:=fun tf t n Q E h hk=>by
 refine w117 _ ?_
 unfold t117;refine yB ?_
 rw[pE 135];refine zeh ho hup _ _ _ _ _ h (hk.bind fun x n1 tf1 t1 v hr hle hst hrd hk1=>?_)
 obtain⟨cs,rfl,hx⟩:=hrd
 obtain⟨a,b,c,rfl,_⟩:=uK hx
 refine aC (agE hx) (rA hx.all (rA rfl (rA rfl (lC fun b hb _=>?_))))
 obtain⟨tf2,t2,k1,k2,k3,k4⟩:=hst.ops2 (w:=[60]) (op:=13) (w':=[61]) (op':=14) hb
 refine⟨_,_,k1,yB ?_⟩
 rw[pW 95];refine Xk k4 (by simp) k3 fun t3=>?_
 cases hop:dJ P.tk [([60],13),([61],14)] n1 with
 | none=>
  rw[hop]at hk1;intro h';have hx2:=RD.mono k2 _ _ hx
  exact iA rfl (pB (iA rfl (cD (rA rfl (rA hx.all (Ok.now (hk1.mono k2) h' ⟨_,rfl,hx2⟩))))))
 | some op=>
  rw[hop]at hk1;intro h';refine iA rfl (pB (iA rfl (cD (qB (by simp) (yB ?_)))))
  rw[pE 135];refine zeh ho hup _ _ _ _ _ h' ((hk1.mono k2).bind fun y n2 tf3 t4 v hr2 hle2 hst2 hrd2 hk2=>?_)
  obtain⟨cs2,rfl,hy⟩:=hrd2
  obtain⟨a',b',c',rfl,_⟩:=uK hy
  refine aC (agE hy) (rA hy.all (lC fun b hb _=>?_))
  obtain⟨tf4,t5,m1,m2,m3,m4⟩:=hst2.pair (RD.mono (k2.trans hle2) _ _ hx) hy hb
  exact⟨_,_,m1,rA (zhp rfl rfl) (rA (Sy m4).all (Ok.now (hk2.mono m2) m3 ⟨_,rfl,Sy m4⟩))⟩
def NR{k:Nat}{Q:sB}{P:cI}{n d:Nat}:∀(k:Nat) (x:fA) (cs:List zA) (tf t:Tr vA),k<1000000000->St P tf t n d->RD tf x.d cs->Ok P lM d tf (.ok (nY k x) n) Q E->pH E 96 6 ([.int .i64 (k:Int)]++zE++cs) t Q:=by
 intro k;induction k with
 | zero=>
  intro x cs tf t _ h hx hk;obtain⟨a,b,c,rfl,_⟩:=uK hx
  refine j96_6 _ _ _ _ _ _ _ _ _ _ _ _ _ _ _ _ _ _ _ ?_
  unfold zg1;exact qB (by simp[fC]) (rA hx.all (Ok.now hk h ⟨_,rfl,hx⟩))
 | succ k ih=>
  intro x cs tf t hkl h hx hk;obtain⟨a,b,c,rfl,_⟩:=uK hx
  refine j96_6 _ _ _ _ _ _ _ _ _ _ _ _ _ _ _ _ _ _ _ ?_
  unfold zg1;refine rA (by rw[fC];exact decide_eq_true (by omega)) (lC fun b hb _=>?_)
  obtain⟨tf1,t1,h1,h2,h3,h4⟩:=h.sole hx hb
  have hu:=un_rd (op:=17) (w:=[]) h4
  refine⟨_,_,h1,rA (zhp rfl rfl) (rA hu.all (jC ?_))⟩
  have e:cA .i64 (((k+1:Nat):Int)-1)=(k:Int):=by rw[iC (by omega) (by omega)];omega
  rw[e];exact ih (unX 17 [] x) _ tf1 t1 (by omega) h3 hu (hk.mono h2)
def Xq{tk:List uC}:∀(m m' n:Nat),tk.length<=n+m->tk.length<=n+m'->dN tk m n=dN tk m' n:=by
 have z:∀m n,tk.length<=n->dN tk m n=0:=by
  intro m n h
  cases m with
  | zero=>rfl
  | succ m=>
   unfold dN;rw[yaa];intro ha;have:=Ng (P:=⟨tk,0,.nilptr,0,0,[]⟩) ha
   have:n<tk.length:=this
   omega
 intro m;induction m with
 | zero=>intro m' n h1 h2;rw[z 0 n (by omega),z m' n (by omega)]
 | succ m ih=>
  intro m' n h1 h2
  cases m' with
  | zero=>rw[z (m+1) n (by omega),z 0 n (by omega)]
  | succ m'=>
   unfold dN;split
   ·rw[ih m' (n+1) (by omega) (by omega)]
   ·rfl
def zht(ho:jI P d o 161)(hup:Up o):jI P d (Eg P.tk o) 96:=fun tf t n Q E h hk=>by
 refine w96 _ ?_
 unfold t96;refine jC ?_
 have loop:∀(m i n:Nat) (t:Tr vA),dN P.tk P.tk.length n=m->i<=n->St P tf t n d->Ok P lM d tf ((Ih P.tk o (n+m)).bind fun x n'=>.ok (nY (i+m) x) n') Q E->pH E 96 2 ([.ptr P.bp 0,.int .i64 (i:Int)]++zE) t Q:=by
  intro m;induction m with
  | zero=>
   intro i n t hm hi h hk;refine j96_2 _ _ _ _ _ _ _ _ _ _ _ ?_
   unfold zg2;have hl:=h.len
   refine aO h (fun ha t' h'=>?_) fun ha t' h'=>?_
   ·have:n<P.tk.length:=Ng ha
    rw[Xq _ (P.tk.length+1) _ (by omega) (by omega)]at hm
    unfold dN at hm;rw[yab ha]at hm
    cases hm
   ·refine yB ?_
    rw[pE 117];refine zjp ho hup _ _ _ _ _ h' (hk.bind fun x n1 tf1 t1 v hr hle hst hrd hk1=>?_)
    obtain⟨cs,rfl,hx⟩:=hrd
    have hx':=hx
    obtain⟨a,b,c,rfl,_⟩:=uK hx
    refine aC (agE hx) (rA hx.all (jC ?_))
    exact NR (k:=0) i x _ tf1 t1 (by have:=h.le;omega) hst hx' hk1
  | succ m ih=>
   intro i n t hm hi h hk;refine j96_2 _ _ _ _ _ _ _ _ _ _ _ ?_
   unfold zg2;have hl:=h.len
   refine aO h (fun ha t' h'=>?_) fun ha t' h'=>?_
   ·have hlt:n<P.tk.length:=Ng ha
    rw[Xq _ (P.tk.length+1) _ (by omega) (by omega)]at hm
    unfold dN at hm;rw[yab ha]at hm;have e:cA .i64 ((i:Int)+1)=((i+1:Nat):Int):=by rw[iC (by omega) (by omega)];rfl
    refine jC ?_
    rw[e];exact ih (i+1) (n+1) t' (by omega) (by omega) h' (by rwa [show n+1+m=n+(m+1) by omega,show i+1+m=i+(m+1) by omega])
   ·rw[Xq _ (P.tk.length+1) _ (by omega) (by omega)]at hm
    unfold dN at hm;rw[yaa (by simp[ha])]at hm
    cases hm
 exact loop _ 0 n t rfl (by omega) h (by rw[ybw];exact hk)
def zjn(ho:jI P d o 161)(hup:Up o):jI P d (Mx P.tk o) 69:=fun tf t n Q E h hk=>by
 refine w69 _ ?_
 unfold t69;exact rA rfl (zfw (zht ho hup) (GP hup) h hk)
def Zt(ho:jI P d o 161)(hup:Up o):jI P d (xS P.tk o) 42:=fun tf t n Q E h hk=>by
 refine w42 _ ?_
 unfold t42;exact rA rfl (zfw (zjn ho hup) (LV hup) h hk)
end
end
section
variable {i:Nat}{f:Nat->List Nat}
variable [eC]
structure Cv:Prop where
 frac:∀ {s:List Nat} {neg:Bool} {tf t:Tr vA} {L:List kD} {Q:sB},lR s->lA yA.base tf t L->(∀tf' t' cs,aA tf tf'->lA yA.base tf' t' L->RD tf' (vI s neg).dd cs->Q (.agg cs) t')->Wc yA F 74 [.str s,.bool neg] t Q
 int:∀ {s:List Nat} {neg:Bool} {lo hi:Int} {t:Tr vA},lR s->oH s=false -> -4294967296<=lo->hi<=4294967296->∃i:Int,wC yA F 102 [.str s,.bool neg,.int .i64 lo,.int .i64 hi] t=some (.tup [.int .i64 i,.bool (kL s neg lo hi).isSome])/\∀j,kL s neg lo hi=some j->i=j
 date:∀ {s:List Nat} {t:Tr vA},rL t->Sl s->wC yA F 97 [.str s] t=some (.tup [.int .i64 (((Ae s).getD 0:Nat):Int),.int .i64 0])
def LP:∀s:List Nat,Ag [47] s=oH s:=by
 intro s;unfold oH;induction s with
 | nil=>rfl
 | cons b s ih=>
  unfold Ag;rw[ih,List.contains_cons];have e:rU [47] (b::s)=(47 == b):=by
   show(bif Nat.beq 47 b then rU [] s else false)=_
   have:rU [] s=true:=by cases s<;>rfl
   rw[this]
   cases h:Nat.beq 47 b with
   | true=>rw[mC.1 h];simp
   | false=>
    have:¬ 47=b:=fun e=>by rw[e,Nat.beq_refl]at h;cases h
    simp[this]
  rw[e]
  cases (47 == b)<;>rfl
def Oi{tk:List uC}{k n n1:Nat}{a:List Nat}(h:tE tk k n=.ok a n1):zD tk k n=true/\a=fE tk n/\n1=n+1:=by
 unfold tE at h;split at h
 ·cases h;exact⟨by assumption,rfl,rfl⟩
 ·cases h
section
variable {P:cI}{tf t:Tr vA}{n d:Nat}{Q E:sB}{J:kE}{o:PM fA}
theorem St.at(h:St P tf t n d){k i:Nat}(hk:zD P.tk k i=true):∃x∈P.tk,x.kind=k/\x.text=fE P.tk i:=by
 unfold zD at hk;unfold fE
 cases hx:P.tk[i]? with
 | none=>rw[hx]at hk;cases hk
 | some x=>rw[hx]at hk;exact⟨x,ycv hx,of_decide_eq_true hk,rfl⟩
def St.num(h:St P tf t n d) (hk:zD P.tk 2 i=true):lR (fE P.tk i):=by
 obtain⟨x,h1,h2,h3⟩:=h.at hk
 rw[<- h3];exact(h.good x h1).1 h2
def St.date(h:St P tf t n d) (hk:zD P.tk 3 i=true):Sl (fE P.tk i):=by
 obtain⟨x,h1,h2,h3⟩:=h.at hk
 rw[<- h3];exact(h.good x h1).2 h2
def Mt(hL:Cv)(h:St P tf t n d)(hk:Ok P rdInt d tf (bO P.tk n) Q E):fJ yA F E 73 [.ptr P.bp 0] t Q:=by
 refine w73 _ ?_
 unfold t73;refine yB ?_
 rw[pE 59];refine Dl (k:=3) (by omega) h (hk.bind fun a n1 tf1 t1 v hr hle hst hrd hk1=>?_)
 obtain⟨x,_,e,rfl⟩:=hrd
 obtain⟨h1,h2,_⟩:=Oi hr
 have hd:=h.date h1
 rw[<- h2]at hd;refine aC (qS _) (yB ?_)
 rw[pQ 97,cT1,e,hL.date (hst.glob.mono hst.ob.tle) hd,sA]
 exact iA rfl (pB (iA rfl (pB (Ok.now hk1 hst rfl))))
def BN{ty b:Nat} (hT:yA.tys.get ty=some ⟨.arr 7 9,7,112,[.str [],.str [],.str [],.str [],.str [],.str [],.str []],true⟩)(h:At t b 0 ((List.range 7).map fun i=>.str (f i))) (hi:i<7) :
  xC yA ty (.ptr b 0) (.int .u8 (i:Int))=some (.ptr b (0+i))/\mA yA 9 ⟨0,t⟩ (.ptr b (0+i))=some (.str (f i)):=by
 refine⟨?_,h.load1 sP rfl ?_⟩
 ·unfold xC
  rw[hT,qA];have e:(zA.int .u8 (i:Int)).asNat=some i:=rfl
  rw[e,qA];simp only[zA.asSlice];simp only[zA.asPtr,jE.asArr,qA];rw[sP,qA,qC.2 hi,yE,Nat.mul_one]
 ·rw[ybu,List.getElem?_range hi];rfl
def zhv(hg:rL t) (hi:i<256):wC yA F 188 [.int .u8 (i:Int)] t=some (.str (cS i)):=by
 refine bD.2 (w188 ?_)
 unfold t188 uS;have hw:cA .i64 (i:Int)=(i:Int):=iC (by omega) (by omega)
 by_cases h7:i<7
 ·obtain⟨h1,h2⟩:=BN ty201 hg.2.1 h7
  exact rA (by rw[fC];unfold uW;rw[hw];exact decide_eq_true (by omega)) (iA h1 (sC h2 (dF ⟨rfl,rfl⟩)))
 ·refine qB (by rw[fC];unfold uW;rw[hw];simp;omega) ⟨?_,rfl⟩
  have:cS i=[]:=by
   match i,h7 with
   | i+7,_=>rfl
  rw[this]
def zid(hg:rL t) (hi:i<256):wC yA F 111 [.int .u8 (i:Int)] t=some (.str (Et i)):=by
 refine bD.2 (w111 ?_)
 unfold t111 uS;have hw:cA .i64 (i:Int)=(i:Int):=iC (by omega) (by omega)
 by_cases h7:i<7
 ·obtain⟨h1,h2⟩:=BN ty201 hg.1 h7
  exact rA (by rw[fC];unfold uW;rw[hw];exact decide_eq_true (by omega)) (iA h1 (sC h2 (dF ⟨rfl,rfl⟩)))
 ·refine qB (by rw[fC];unfold uW;rw[hw];simp;omega) ⟨?_,rfl⟩
  have:Et i=[]:=by
   match i,h7 with
   | i+7,_=>rfl
  rw[this]
def MD {g most:Nat}(hf:∀(t:Tr vA),rL t->∀i:Nat,i<256->wC yA F g [.int .u8 (i:Int)] t=some (.str (f i)))(hg:Nat.blt g pn=true)(hp:(vC g&&Nat.blt g yo)=true)(hm:most<200)(h:St P tf t n d)(hk:Ok P rdU8 d tf (iL P.tk f most most 1 n) Q E):fJ yA F E 110 [.ptr P.bp 0,.int .u8 1,.int .u8 (most:Int),.func (.func g) [] []] t Q:=by
 refine w110 _ _ _ _ ?_
 unfold t110;refine jC ?_
 have loop:∀(k i:Nat) (t:Tr vA),i+k=most+1->St P tf t n d->Ok P rdU8 d tf (iL P.tk f most k i n) Q E->pH E 110 2 [.ptr P.bp 0,.int .u8 (most:Int),.func (.func g) [] [],.int .u8 (i:Int)] t Q:=by
  intro k;induction k with
  | zero=>
   intro i t hi h hk;refine zfj _ _ _ _ ?_
   unfold Vp;exact qB (by rw[bR];simp;omega) (yB (Ok.fail h hk))
  | succ k ih=>
   intro i t hi h hk;refine zfj _ _ _ _ ?_
   unfold Vp;unfold iL at hk;rw[yaa (by omega)]at hk
   have e:gL (.func (.func g) [] []) [.int .u8 (i:Int)]=some (g,[.int .u8 (i:Int)]):=by
    unfold gL;simp only[zA.asFunc,qA,hg,yE];rfl
   refine rA (by rw[bR];exact decide_eq_true (by omega)) (tV e ?_)
   unfold dE;rw[yab hp,hf t (h.glob.mono h.ob.tle) i (by omega),sA]
   refine dF (aO h (fun ha t' h'=>?_) fun ha t' h'=>?_)
   ·rw[ha]at hk
    exact Ok.now hk h' rfl
   ·rw[ha]at hk
    have e:cA .u8 ((i:Int)+1)=((i+1:Nat):Int):=by
     rw[Nv (by omega) (by omega)];rfl
    rw[e];exact jC (ih (i+1) t' (by omega) h' hk)
 exact loop most 1 t (by omega) h hk
end
end
section
variable {neg:Bool}
variable [eC]
def Jr{t:Tr vA}{k:Nat}{i:Int}:RD t (oG.d ⟨k,rH,i⟩) [.int .u8 (k:Int),.bool false,.nilslice,.bool false,.nilslice,.int .i64 i]:=Ej (x:=⟨k,rH,i⟩) pP pP
def Zi{t:Tr vA}{f:vH}{cs:List zA}(h:RD t f.dd cs):∃u v,cs=[.bool f.n.neg,u,.bool f.d.neg,v]/\jJ [.bool false,.nilslice,.bool false,.nilslice] (.agg cs)=some (cellsOf cs)/\∀(k:Nat) (i:Int),RD t (oG.d ⟨k,f,i⟩) [.int .u8 (k:Int),.bool f.n.neg,u,.bool f.d.neg,v,.int .i64 i]:=by
 obtain⟨u,v,rfl,h1,h2⟩:=Go.Am.rd_frac h
 exact⟨u,v,rfl,vL h (vH.zs _),fun k i=>Ej (x:=⟨k,f,i⟩) h1 h2⟩
section
variable {P:cI}{tf t:Tr vA}{n d:Nat}{Q E:sB}{J:kE}{o:PM fA}
def Zh{K:zA->T}{s:List Nat} (hL:Cv)(h:St P tf t n d)(hs:lR s)(k:∀tf' t' cs,aA tf tf'->St P tf' t' n d->RD tf' (vI s neg).dd cs->pA yA.base (dE yA F vC tF E) J (K (.agg cs)) t' Q) :
  pA yA.base (dE yA F vC tF E) J (.call 74 [.str s,.bool neg] K) t Q:=by
 refine yB ?_
 rw[pW 74];exact hL.frac hs h.ob fun tf' t' cs k1 k2 k3=>k tf' t' cs k1 ⟨h.ts.mono k1,k2,h.len,h.le,h.good,h.glob.mono k1⟩ k3
def zby(hL:Cv) (h:St P tf t n d)(hk:Ok P rdXV d tf (cK P.tk neg n) Q E):fJ yA F E 75 [.ptr P.bp 0,.bool neg] t Q:=by
 refine w75 _ _ ?_
 unfold t75;refine iA nl (iA f1 (sC h.l1 (pB (yB ?_))))
 rw[pE 59];unfold cK at hk;refine Dl (k:=2) (by omega) h (hk.bind fun a n1 tf1 t1 v hr hle hst hrd hk1=>?_)
 obtain⟨x,_,e,rfl⟩:=hrd
 obtain⟨g1,g2,g3⟩:=Oi hr
 have hn:=h.num g1
 rw[<- g2]at hn;have hnl:=h.le
 subst e;refine aC (qS _) (rA rfl (iA nl (iA f1 (sC hst.l1 (pB ?_)))))
 have tail:∀(k:Nat) (t2:Tr vA),St P tf1 t2 (n1+1) d->Ok P rdXV d tf1 (if oH x.text then .er 120 n1 else match kL x.text neg (-1048576) 1048576 with
   | none=>.er 121 n
   | some i=>.ok ⟨k,rH,i⟩ (n1+1)) Q E->pH E 75 21 [.ptr P.bp 0,.bool neg,.int .i64 (n:Int),.int .u8 (k:Int),.int .i64 (n1:Int),.int .u8 0,.bool false,.nilslice,.bool false,.nilslice,.int .i64 0,.int .u8 (x.kind:Int),.str x.text,.int .i64 (x.line:Int),.int .i64 (x.col:Int)] t2 Q:=by
  intro k t2 h2 hk2;refine j75_21 _ _ _ _ _ _ _ _ _ _ _ _ _ _ _ ?_
  unfold zd5;refine yB ?_
  rw[pQ 66,AK (by have:=hn.1;omega),sA,LP]
  refine cD ?_
  cases hs:oH x.text with
  | true=>
   rw[hs,yab rfl]at hk2;refine rA rfl (iA nl (iA f1 (lC fun b _ _=>?_)))
   obtain⟨t3,k1,k2⟩:=h2.set1 (n':=n1) (by have:=h2.le;omega)
   exact⟨_,_,k1 b,yB (Ok.fail k2 hk2)⟩
  | false=>
   rw[hs,yaa (by simp)]at hk2
   refine qB (by simp) (jC (j75_27 _ _ _ _ _ _ _ _ _ _ _ _ _ _ ?_))
   unfold zd4;obtain⟨i,hi,hj⟩:=hL.int (s:=x.text) (neg:=neg) (lo := -1048576) (hi:=1048576) (t:=t2) hn hs (by omega) (by omega)
   refine yB ?_
   rw[pQ 102,hi,sA];refine iA rfl (pB (iA rfl (cD ?_)))
   cases hv:kL x.text neg (-1048576) 1048576 with
   | none=>
    rw[hv]at hk2;refine rA rfl (iA nl (iA f1 (lC fun b _ _=>?_)))
    obtain⟨t3,k1,k2⟩:=h2.set1 (n':=n) (by omega)
    exact⟨_,_,k1 b,yB (Ok.fail k2 hk2)⟩
   | some j=>
    rw[hv]at hk2;have:=hj j hv
    subst this;exact qB (by simp) (rA rfl (rA rfl (Ok.now hk2 h2 ⟨_,rfl,Jr⟩)))
 refine aO hst (fun ha t2 h2=>?_) fun ha t2 h2=>?_
 ·refine jC (tail 5 t2 h2 ?_)
  rw[ha]at hk1;simp only[Bool.true_or,if_true]at hk1;exact hk1
 ·refine aO h2 (fun hb t3 h3=>?_) fun hb t3 h3=>?_
  ·refine jC (tail 6 t3 h3 ?_)
   rw[ha,hb]at hk1;simp only[Bool.or_true,if_true,ybq,if_false]at hk1;exact hk1
  ·rw[ha,hb]at hk1
   refine Zh hL h3 hn fun tf4 t4 cs k1 k2 k3=>?_
   obtain⟨u,v,rfl,hz,hd⟩:=Zi k3
   refine aC hz (rA rfl (rA (hd 2 0).all ?_))
   exact Ok.now (Ok.mono hk1 k1) k2 ⟨_,rfl,hd 2 0⟩
def rdOV (tf:Tr vA)(x:Option oG)(v:zA):Prop:=match x with
 | some x=>∃cs,v=.tup [.agg cs,.bool true]/\RD tf x.d cs
 | none=>v=.tup [.agg zV,.bool false]
def zc9(hL:Cv)(h:St P tf t n d)(hk:Ok P rdOV d tf (Fk P.tk n) Q E):fJ yA F E 47 [.ptr P.bp 0] t Q:=by
 refine w47 _ ?_
 unfold t47;refine yB ?_
 rw[pQ 71,Hd h,sA];unfold Fk at hk;rw[Lv (by omega),Lv (by omega)]at hk
 refine aC (qS _) (rA rfl (aO h (fun ha t1 h1=>?_) fun ha t1 h1=>?_))
 ·rw[ha,yab rfl]at hk
  exact rA rfl (rA rfl (Ok.now hk h1 ⟨_,rfl,Jr⟩))
 rw[ha,yaa (by simp)]at hk
 refine aO h1 (fun ha t2 h2=>?_) fun ha t2 h2=>?_
 ·rw[ha,yab rfl]at hk
  exact rA rfl (rA rfl (Ok.now hk h2 ⟨_,rfl,Jr⟩))
 rw[ha,yaa (by simp)]at hk
 by_cases hd:(tG P n).kind=3
 ·rw[decide_eq_true hd,yab rfl]at hk
  refine rA (by rw[cT0,hd];rfl) (yB ?_)
  rw[pE 73];refine Mt hL h2 (hk.bind fun a n1 tf3 t3 v hr hle hst hrd hk1=>?_)
  subst hrd;exact pB (rA rfl (rA rfl (Ok.now hk1 hst ⟨_,rfl,Jr⟩)))
 rw[decide_eq_false hd,yaa (by simp)]at hk
 refine qB (by rw[cT0];simp[sF];omega) (aO h2 (fun ha t3 h3=>?_) fun ha t3 h3=>?_)
 ·rw[ha,yab rfl]at hk
  refine yB ?_
  rw[pW 72];refine Cq h3 fun t4 h4=>cD (yB ?_)
  rw[pE 59];have e:(if acc P.tk bI (n+1)then n+2 else n+1)=(if acc P.tk bI (n+1)then n+1+1 else n+1):=by split<;>rfl
  simp only[e]at hk;refine Dl (k:=2) (by omega) h4 (hk.bind fun a n1 tf5 t5 v hr hle hst hrd hk1=>?_)
  obtain⟨x,_,e,rfl⟩:=hrd
  obtain⟨g1,g2,g3⟩:=Oi hr
  have hn:=h.num g1
  rw[<- g2,<- e]at hn;subst e;refine aC (qS _) (Zh hL hst hn fun tf6 t6 cs k1 k2 k3=>?_)
  obtain⟨u,v,rfl,hz,hd⟩:=Zi k3
  refine aC hz (rA rfl (rA (hd 3 0).all ?_))
  exact Ok.now (Ok.mono hk1 k1) k2 ⟨_,rfl,hd 3 0⟩
 rw[ha,yaa (by simp)]at hk
 have quant:∀(neg:Bool) (m:Nat) (t4:Tr vA),St P tf t4 m d->Ok P rdOV d tf ((cK P.tk neg m).bind fun v n1=>.ok (some v) n1) Q E →
   pA yA.base (dE yA F vC tF E) (JqE yA F E 47) (.call 75 [.ptr P.bp 0,.bool neg] fun a=>.asG zV a fun X=>.ite (fB zA.one (cV X)) (.ret (.tup [.agg (cV X),.bool true])) .fail) t4 Q:=by
  intro neg m t4 h4 hk4;refine yB ?_
  rw[pE 75];refine zby hL h4 (hk4.bind fun a n1 tf5 t5 v hr hle hst hrd hk1=>?_)
  obtain⟨cs,rfl,hx⟩:=hrd
  have hx':=hx
  obtain⟨u,w,rfl,_⟩:=Dz hx
  exact aC (agV hx) (rA hx.all (Ok.now hk1 hst ⟨_,rfl,hx'⟩))
 refine aO h3 (fun ha t4 h4=>?_) fun ha t4 h4=>?_
 ·rw[ha,yab rfl]at hk
  exact quant true _ t4 h4 hk
 rw[ha,yaa (by simp)]at hk
 by_cases hd:(tG P n).kind=2
 ·rw[decide_eq_true hd,yab rfl]at hk
  exact rA (by rw[cT0,hd];rfl) (quant false _ t4 h4 hk)
 rw[decide_eq_false hd,yaa (by simp)]at hk
 exact qB (by rw[cT0];simp[sF];omega) (rA rfl (rA rfl (Ok.now hk h4 rfl)))
def zjx(ho:jI P d o 161){op:Nat}(h:St P tf t n d)(hk:Ok P lM d tf (atP P.tk o op n) Q E):fJ yA F E 180 [.ptr P.bp 0,.int .u8 (op:Int)] t Q:=by
 refine w180 _ _ ?_
 unfold t180;refine yB ?_
 rw[pE 58];refine Eh h (hk.bind fun w n1 tf1 t1 v hr hle hst hrd hk1=>?_)
 subst hrd;refine dF (Aa hst hk1 fun n2 tf2 t2 hle2 hst2 hk2=>?_)
 refine yB ?_
 rw[pE 161];refine ho _ _ _ _ _ hst2 (hk2.bind fun x n3 tf3 t3 v hr3 hle3 hst3 hrd3 hk3=>?_)
 obtain⟨cs,rfl,hx⟩:=hrd3
 have hx':=hx
 obtain⟨a,b,c,rfl,_⟩:=uK hx
 refine aC (agE hx) (lC fun b hb _=>?_)
 obtain⟨tf4,t4,k1,k2,k3,k4⟩:=hst3.sole hx' hb
 have hu:=un_rd (op:=op) (w:=w) k4
 exact⟨_,_,k1,rA (by rw[jH];rfl) (rA hu.all (Ok.now (hk3.mono k2) k3 ⟨_,rfl,hu⟩))⟩
def Ok.ret{W:kE}{r:PR fA}(hk:Ok P lM d tf r Q E):Ok P lM d tf r (fun v t'=>pA yA.base W J (.asG zE v fun X=>.ite (fB zA.one (cE X)) (.ret (.agg (cE X))) .fail) t' Q) E:=by
 cases r with
 | ok x n1=>exact fun tf2 t2 v k1 k2 k3=>Wo k3 (hk tf2 t2 v k1 k2 k3)
 | er e i=>exact hk
def zcm(hL:Cv)(ho:jI P d o 161)(hup:Up o)(hc:jI P d (lW P.tk (xS P.tk o)) 181):jI P d (tW P.tk o) 168:=fun tf t n Q E h hk=>by
 refine w168 _ ?_
 unfold t168;refine yB ?_
 rw[pE 47];unfold tW at hk;refine zc9 hL h (hk.bind fun v n1 tf1 t1 u hr hle h0 hrd hk1=>?_)
 cases v with
 | some v=>
  obtain⟨cs,rfl,hx⟩:=hrd
  have hx':=hx
  obtain⟨a,b,rfl,ha,hb⟩:=Dz hx
  have hc:RD tf1 (Sm v).d [.int .u8 1,.str [],.int .u8 v.kind,.bool v.f.n.neg,a,.bool v.f.d.neg,b,.int .i64 v.i,.nilslice]:=Ek (op:=1) (name:=[]) (v:=v) (args:=[]) ha hb pP
  exact iA rfl (aC (agV hx) (iA rfl (cD (rA hx.all (rA rfl (rA rfl (rA hc.all (Ok.now hk1 h0 ⟨_,rfl,hc⟩))))))))
 | none=>
  have hrd:u=.tup [.agg zV,.bool false]:=hrd
  subst hrd;refine iA rfl (aC (agV (x:=nM) (Jr (t:=tf1))) (iA rfl (cD (rA rfl (qB (by simp) ?_)))))
  have hk1:Ok P lM d tf1 (if acc P.tk [40] n1 then(xS P.tk o (n1+1)).bind fun x n1=>(rE P.tk [41] n1).bind fun _ n2=>.ok x n2
   else if acc P.tk Tu n1 then .ok (.mk 2 [] nM []) (n1+1)
   else if acc P.tk Jm n1 then atP P.tk o 3 (n1+1)
   else if acc P.tk wHas n1 then atP P.tk o 4 (n1+1)
   else if sK P.tk n1 then atP P.tk o 5 n1
   else lW P.tk (xS P.tk o) n1) Q E:=hk1
  refine aO h0 (fun ha t2 h2=>?_) fun ha t2 h2=>?_
  ·rw[ha,yab rfl]at hk1
   refine yB ?_
   rw[pE 42];refine Zt ho hup _ _ _ _ _ h2 (hk1.bind fun x n2 tf3 t3 v hr hle hst hrd hk2=>?_)
   obtain⟨cs,rfl,hx⟩:=hrd
   have hx':=hx
   obtain⟨a,b,c,rfl,_⟩:=uK hx
   refine aC (agE hx) (rA hx.all (Aa hst hk2 fun n3 tf4 t4 hle4 hst4 hk4=>?_))
   have hx4:=RD.mono hle4 _ _ hx'
   exact rA hx.all (Ok.now hk4 hst4 ⟨_,rfl,hx4⟩)
  rw[ha,yaa (by simp)]at hk1
  refine aO h2 (fun ha t2 h2=>?_) fun ha t2 h2=>?_
  ·rw[ha,yab rfl]at hk1
   exact rA rfl (rA rfl (Ok.now hk1 h2 ⟨_,rfl,Ek (op:=2) (name:=[]) (v:=nM) (args:=[]) pP pP pP⟩))
  rw[ha,yaa (by simp)]at hk1
  refine aO h2 (fun ha t2 h2=>?_) fun ha t2 h2=>?_
  ·rw[ha,yab rfl]at hk1
   refine yB ?_
   rw[pE 180];exact zjx ho (op:=3) h2 hk1.ret
  rw[ha,yaa (by simp)]at hk1
  refine aO h2 (fun ha t2 h2=>?_) fun ha t2 h2=>?_
  ·rw[ha,yab rfl]at hk1
   refine yB ?_
   rw[pE 180];exact zjx ho (op:=4) h2 hk1.ret
  rw[ha,yaa (by simp)]at hk1
  refine yB ?_
  rw[pQ 88,JE h2,sA];refine cD ?_
  cases hb:sK P.tk n1 with
  | true=>
   rw[hb,yab rfl]at hk1;refine rA rfl (yB ?_)
   rw[pE 180];exact zjx ho (op:=5) h2 hk1.ret
  | false=>
   rw[hb,yaa (by simp)]at hk1
   refine qB (by simp) (yB ?_)
   rw[pE 181];exact hc _ _ _ _ _ h2 hk1.ret
end
end
section
variable {l:List fA}{v:zA}{b:Nat}{L:List kD}
variable [eC]
section
variable {base:Nat}{tf t:Tr vA}{C:oA}{A B:List kD}
theorem lA.append1{T el sz n:Nat}{l:List D}{dd:D}{x:zA}{cs:List zA}(hT:eJ C T el sz)(h:lA C.base tf t (A++bB C.base sz l v::B))(hx:bA tf sz [dd] x)(hl:l.length+1<400000)(hn:t.get n=none)(hbase:C.base<=n) :
  ∃t' v',gE C T T v x ⟨n,t⟩=some (v',⟨n+1,t'⟩)/\lA C.base tf t' (A++bB C.base sz (l++[dd]) v'::B)/\zA.one v'=true:=by
 obtain⟨cl,h1,h2⟩:=hx
 have hv:eL C.base tf t sz l v:=h.ok (bB C.base sz l v) (by simp)
 obtain⟨c,r,rfl,h3,h4⟩:=dC.1 h2
 rw[wF]at h4;subst h4;obtain⟨t',k1,k2,k3,k4⟩:=Td hT (m:=[dd]) hv (h1.mono h.tle) h2 (by
  have:=h3.all
  rw[jH,ycb]at this;simpa using this) (by simp) (by simpa using hl) hn hbase h.tle
 refine⟨t',_,k1,?_,rfl⟩
 refine lA.upd (o:=bB C.base sz l v) h (fun k h1 h2=>k4 k ?_ (fun e=>h1 (sZ.2 e))) (fun k hk=>?_) k2 (by simp[bB,aG]) k3
 all_goals grind [bB,aG]
end
def el48:eJ yA 48 50 9:=⟨⟨_,ty48,rfl,rfl⟩,⟨_,ty50,rfl,rfl,by decide,by decide⟩,fun y h=>by rw[ty50]at h;cases h;rfl⟩
def cI.wL(P:cI)(L:List kD):cI:=⟨P.tk,P.bp,P.ts,P.el,P.ec,L⟩
def CF.cs(f:CF):List zA:=[.str f.word,.int .u8 (f.op:Int),.bool f.named,.int .i64 (f.least:Int),.int .i64 (f.most:Int)]
abbrev Mh:List zA:=[.str [108,111,111,107],.int .u8 6,.bool true,.int .i64 1,.int .i64 2,.str [109,105,110],.int .u8 11,.bool false,.int .i64 2,.int .i64 2,.str [109,97,120],.int .u8 12,.bool false,.int .i64 2,.int .i64 2,.str [98,101,116,119,101,101,110],.int .u8 20,.bool false,.int .i64 2,.int .i64 2,.str [105,102],.int .u8 18,.bool false,.int .i64 3,.int .i64 3,.str [114,111,117,110,100],.int .u8 19,.bool false,.int .i64 2,.int .i64 2,.str [115,101,114,118,105,99,101],.int .u8 21,.bool true,.int .i64 2,.int .i64 2,.str [103,114,111,119],.int .u8 23,.bool true,.int .i64 2,.int .i64 2,.str [98,101,115,116],.int .u8 22,.bool true,.int .i64 3,.int .i64 3,.str [109,111,110,116,104,115],.int .u8 24,.bool false,.int .i64 1,.int .i64 1,.str [110,117,109,98,101,114],.int .u8 25,.bool false,.int .i64 1,.int .i64 1,.str [115,116,97,114,116],.int .u8 26,.bool false,.int .i64 1,.int .i64 1]
section
variable {P:cI}{tf t:Tr vA}{n d:Nat}{Q E:sB}{J:kE}{o:PM fA}
def St.box  (h:St P tf t n d)(hb:t.get b=none):∃tf' t',wN v ⟨b,t⟩=some (.ptr b 0,⟨b+1,t'⟩)/\aA tf tf'/\St P tf' t' n d/\yD tf' b none v.cells:=by
 obtain⟨t',h1,⟨c,h2,h2'⟩,h3,h4⟩:=Su (v:=v) hb
 have ho:=h.ob.junk hb h4
 have hfb:=h.ob.tfn hb
 obtain⟨k1,k2⟩:=ho.froze (fun hm=>h.ob.fresh hb hm) h2 hfb
 exact⟨_,t',h1,k2,⟨h.ts.mono k2,k1,h.len,h.le,h.good,h.glob.mono k2⟩,c,by rw[Tr.get_set,yab rfl],h2'⟩
def St.fixed{T:Nat}{y:lD} (h:St P tf t n d)(hT:yA.tys.get T=some y)(hz:v.cells.length=y.size)(hz2:y.zero.length=y.size)(hone:fB zA.one v.cells=true)(hb:t.get b=none)(hbase:yA.base<=b) :
  ∃t1,nK yA T ⟨b,t⟩=some (.ptr b 0,⟨b+1,t1⟩)/\∃tf' t2,(∀q,zC yA T (.ptr b 0) v ⟨q,t1⟩=some (dD,⟨q,t2⟩))/\aA tf tf'/\St P tf' t2 n d/\yD tf' b none v.cells:=by
 obtain⟨t1,h1,h2,h3,h4⟩:=rS (C:=yA) hT hb
 refine⟨t1,h1,?_⟩
 have o1:=lA.newCel (A:=[nG P n d]) (B:=P.L) h.ob hb hbase h2 h3 h4
 obtain⟨t2,k1,k2⟩:=lA.setCel (A:=[nG P n d]) (j:=0) (v:=v) o1 hT hz (by omega) hone
 have hov:pJ y.zero 0 v.cells=v.cells:=by
  unfold pJ;rw[List.take_zero,yah,ybt (by omega),ycd]
 rw[hov]at k2;obtain⟨c,g1,g2⟩:=k2.cel
 have hni:=k2.notin (o:=jB b none v.cells) (k:=b) (by simp[jB])
 obtain⟨m1,m2⟩:=(lA.drop k2).froze hni g1 (k2.low b (by simp[jB])).2
 exact⟨_,t2,k1,m2,⟨h.ts.mono m2,m1,h.len,h.le,h.good,h.glob.mono m2⟩,c,by rw[Tr.get_set,yab rfl],g2⟩
def iV{a:Nat}{w:Nat}(h:yD tf a none [.ptr w 0])(hst:St P tf t n d):mA yA 84 ⟨0,t⟩ (.ptr a 0)=some (.ptr w 0):=(yD.le h hst.ob.tle).load1 ty84 rfl rfl
def zi0:∀i:Nat,i<12->∃f,eQ[i]?=some f/\nI yA 250 (.agg Mh) (.int .i64 (i:Int))=some (.agg f.cs):=by
 intro i hi;have:i=0\/i=1\/i=2\/i=3\/i=4\/i=5\/i=6\/i=7\/i=8\/i=9\/i=10\/i=11:=by omega
 rcases this with rfl | rfl | rfl | rfl | rfl | rfl | rfl | rfl | rfl | rfl | rfl | rfl<;>exact⟨_,rfl,by kernel_rfl⟩
def zi2(tk:List uC):PM CF:=fun n=>match eQ.find? fun f=>acc tk f.word n with
 | none=>.er 120 n
 | some f=>.ok f (n+1)
def rdCF (_:Tr vA)(f:CF)(v:zA):Prop:=f∈eQ/\v=.agg f.cs
def zi1{a1 a0:Nat}(h1:yD tf a1 none Mh)(h0:yD tf a0 none [.ptr P.bp 0])(h:St P tf t n d)(hk:Ok P rdCF d tf (zi2 P.tk n) Q E):fJ yA F E 187 [.ptr a1 0,.ptr a0 0] t Q:=by
 refine w187 _ _ ?_
 unfold t187;have hl1:mA yA 250 ⟨0,t⟩ (.ptr a1 0)=some (.agg Mh):=by
  have:=(yD.le h1 h.ob.tle).at.load (j:=0) (n:=60) ty250 rfl rfl (by decide)
  simpa using this
 refine sC hl1 (jC ?_)
 have loop:∀(k i:Nat) (t:Tr vA),i+k=12->St P tf t n d->Ok P rdCF d tf (match (eQ.drop i).find? fun f=>acc P.tk f.word n with | none=>.er 120 n | some f=>.ok f (n+1)) Q E →
   pH E 187 2 [.ptr a0 0,.agg Mh,.int .i64 (i:Int),.str [],.int .u8 0,.bool false,.int .i64 0,.int .i64 0] t Q:=by
  intro k;induction k with
  | zero=>
   intro i t hi h hk;refine zez _ _ _ _ _ _ _ _ ?_
   unfold Us;have e:eQ.drop i=[]:=ybt (by show 12<=i;omega)
   rw[e]at hk;exact qB (by rw[fC];simp;omega) (sC (iV h0 h) (yB (Ok.fail h hk)))
  | succ k ih=>
   intro i t hi h hk;refine zez _ _ _ _ _ _ _ _ ?_
   unfold Us;obtain⟨f,hf,hv⟩:=zi0 i (by omega)
   obtain⟨hlt,hfe⟩:=ybc.1 hf
   rw[ybl hlt,hfe,List.find?_cons]at hk;refine rA (by rw[fC];exact decide_eq_true (by omega)) (iA hv (aC (X:=cellsOf f.cs) (cQ rfl) (rA rfl (sC (iV h0 h) (aO h (fun ha t' h'=>?_) fun ha t' h'=>?_)))))
   ·have ha:acc P.tk f.word n=true:=ha
    rw[ha]at hk;exact rA rfl (Ok.now hk h' ⟨ycv hf,rfl⟩)
   ·have ha:acc P.tk f.word n=false:=ha
    rw[ha]at hk;have e:cA .i64 ((i:Int)+1)=((i+1:Nat):Int):=by rw[iC (by omega) (by omega)];rfl
    rw[e];exact jC (ih (i+1) t' (by omega) h' hk)
 exact loop 12 0 t rfl h hk
abbrev eN(l:List fA)(v:zA):kD:=bB yA.base 9 (l.map fA.d) v
def St.args   (h:St (P.wL (eN l v::L)) tf t n d):eL yA.base tf t 9 (l.map fA.d) v:=h.ob.ok (eN l v) (by simp[cI.wL])
def St.more {x:fA} {cx:List zA} (h:St (P.wL (eN l v::L)) tf t n d)(hx:RD tf x.d cx)(hl:l.length<1000) (hb:t.get b=none) :
  ∃t1 w,cC yA 48 1 [(0,.agg cx)] ⟨b,t⟩=some (w,⟨b+1,t1⟩)/\∀c,t1.get c=none->yA.base<=c->∃tf2 t2 v2,gE yA 48 48 v w ⟨c,t1⟩=some (v2,⟨c+1,t2⟩)/\aA tf tf2/\St (P.wL (eN (l++[x]) v2::L)) tf2 t2 n d/\fB zA.one [v2]=true:=by
 obtain⟨tf1,t1,h1,h2,h3,h4⟩:=h.sole hx hb
 refine⟨t1,_,h1,fun c hc hcb=>?_⟩
 have ho:=h3.ob
 obtain⟨t2,v2,k1,k2,k3⟩:=lA.append1 (A:=[nG P n d]) (B:=L) (cs:=[]) el48 ho h4 (by simp;omega) hc hcb
 refine⟨tf1,t2,v2,k1,h2,⟨h3.ts,?_,h3.len,h3.le,h3.good,h3.glob⟩,by rw[jH];simp[k3]⟩
 show lA yA.base tf1 t2 ([nG P n d]++bB yA.base 9 ((l++[x]).map fA.d) v2::L)
 rw[List.map_append];exact k2
end
end
section
variable {α β:Type}{w:List Nat}{f:CF}{a0 m:Nat}{e:PM fA}{K:zA->T}{l:List fA}{v:zA}
variable [eC]
def PR.bind_assoc{γ:Type}(r:PR α)(f:α->Nat->PR β)(g:β->Nat->PR γ):(r.bind f).bind g=r.bind fun a n=>(f a n).bind g:=by cases r<;>rfl
section
variable {tk:List uC}{o:PM fA}
def bN  : Up (rE tk w):=by
 intro n a n' h;unfold rE at h;split at h<;>cases h;omega
def Ei:Up (rI tk):=by
 intro n a n' h;unfold rI at h;split at h<;>cases h;omega
def Oh{k:Nat}:Up (tE tk k):=by
 intro n a n' h;unfold tE at h;split at h<;>cases h;omega
def xF {r:PM α}{f:α->PM β}(h1:Up r)(h2:∀a,Up (f a)):Up fun n=>(r n).bind f:=by
 intro n b n' h;obtain⟨a,n1,e1,e2⟩:=PR.bind_ok h
 have:=h1 _ _ _ e1
 have:=h2 _ _ _ _ e2
 omega
def nL {a:α}:Up (fun n=>(.ok a n:PR α)):=by intro n b n' h;cases h;omega
def Ig:Up (bO tk):=xF Oh fun _=>nL
def ME{f:Nat->List Nat}  : ∀(k i:Nat),Up (iL tk f m k i):=by
 intro k;induction k with
 | zero=>intro i n a n' h;cases h
 | succ k ih=>
  intro i n a n' h;unfold iL at h;split at h
  ·cases h
  ·split at h
   ·cases h;omega
   ·exact ih _ _ _ _ h
def FC{neg:Bool}:Up (cK tk neg):=by
 intro n b n' h;unfold cK at h;obtain⟨a,n1,e1,e2⟩:=PR.bind_ok h
 have:=Oh _ _ _ e1
 split at e2
 ·split at e2
  ·cases e2
  ·split at e2<;>cases e2;omega
 ·cases e2;omega
def YE:Up (Fk tk):=by
 intro n b n' h;unfold Fk at h;split at h
 ·cases h;omega
 split at h
 ·cases h;omega
 split at h
 ·exact xF Ig (fun _=>nL) _ _ _ h
 split at h
 ·obtain⟨a,n1,e1,e2⟩:=PR.bind_ok h
  have:=Oh _ _ _ e1
  cases e2
  split at this<;>omega
 split at h
 ·have:=xF FC (fun _=>nL) _ _ _ h
  omega
 split at h
 ·exact xF FC (fun _=>nL) _ _ _ h
 cases h;omega
def zb4 (he:Up e):∀(k:Nat) (l:List fA),Up (Bs tk e k l):=by
 intro k;induction k with
 | zero=>intro l;exact nL
 | succ k ih=>intro l;exact xF bN fun _=>xF he fun x=>ih (l++[x])
def zbk (he:Up e):∀(k:Nat) (l:List fA),Up (qV tk e k l):=by
 intro k;induction k with
 | zero=>intro l;exact nL
 | succ k ih=>
  intro l n b n' h;unfold qV at h;split at h
  ·have:=xF he (fun x=>ih (l++[x])) _ _ _ h
   omega
  ·cases h;omega
def AS(ho:Up o){op:Nat}:Up (atP tk o op):=xF Ei fun _=>xF bN fun _=>xF ho fun _=>nL
def zde (he:Up e):Up (lW tk e):=by
 intro n b n' h;unfold lW at h;split at h
 ·cases h
 ·rename_i f _
  have hw:Up (fun n1=>(if f.named then(rI tk n1).bind fun w n2=>(rE tk [44] n2).bind fun _ n3=>.ok w n3 else .ok [] n1:PR (List Nat))):=by
   cases f.named with
   | true=>exact xF Ei fun _=>xF bN fun _=>nL
   | false=>exact nL
  have hm:Up (fun n5=>(if f.op=19 then(rE tk [44] n5).bind fun _ n6=>iL tk cS 6 6 1 n6 else .ok 0 n5:PR Nat)):=by
   by_cases h19:f.op=19
   ·simp only[yab h19];exact xF bN fun _=>ME _ _
   ·simp only[yaa h19];exact nL
  have:=xF bN (fun _=>xF hw fun w=>xF he fun x=>xF (zb4 he (f.least-1) [x]) fun l=>xF (zbk he (f.most-f.least) l) fun l=>xF hm fun m=>xF bN fun _=>nL (a:=fA.mk f.op w ⟨0,rH,m⟩ l)) _ _ _ h
  omega
def JK(ho:Up o):Up (tW tk o):=by
 have he:=KO (tk:=tk) ho
 refine xF YE fun v=>?_
 cases v with
 | some v=>exact nL
 | none=>
  intro n b n' h;simp only at h
  split at h
  ·have:=xF he (fun x=>xF bN fun _=>nL (a:=x)) _ _ _ h
   omega
  split at h
  ·cases h;omega
  split at h
  ·have:=AS ho _ _ _ h;omega
  split at h
  ·have:=AS ho _ _ _ h;omega
  split at h
  ·exact AS ho _ _ _ h
  ·exact zde he _ _ _ h
end
section
variable {P:cI}{tf t:Tr vA}{n d:Nat}{Q E:sB}{J:kE}{o:PM fA}{ob:kD}
def St.drop1(h:St (P.wL (ob::P.L)) tf t n d):St P tf t n d:=⟨h.ts,lA.drop (A:=[nG P n d]) (o:=ob) h.ob,h.len,h.le,h.good,h.glob⟩
def Ok.bindL {rd1:Tr vA->α->zA->Prop}{rd:Tr vA->β->zA->Prop}{r:PR α}{f:α->Nat->PR β}{Q1:sB}(h:Ok P rd d tf (r.bind f) Q E)
  (k:∀a n1 tf1 t1 v,r=.ok a n1->aA tf tf1->St (P.wL (ob::P.L)) tf1 t1 n1 d->rd1 tf1 a v->Ok P rd d tf1 (f a n1) Q E->Q1 v t1):Ok (P.wL (ob::P.L)) rd1 d tf r Q1 E:=by
 cases r with
 | ok a n=>exact fun tf' t' v h1 h2 h3=>k a n tf' t' v rfl h1 h2 h3 (Ok.mono h h1)
 | er e i=>exact fun tf' t' n' d' h1 h2=>h tf' t' n' d' h1 h2.drop1
def Fe  (h:St P tf t n d)(hk:Ok P rdU d tf (rE P.tk w n) (fun v t'=>pA yA.base (dE yA F vC tF E) J (K v) t' Q) E) :
  pA yA.base (dE yA F vC tF E) J (.heavy (cC yA 93 1 [(0,.str w)]) fun a=>.call 57 [.ptr P.bp 0,a] K) t Q:=by
 refine lC fun b hb _=>?_
 obtain⟨tf1,t1,h1,h2,h3,h4⟩:=h.lit (k:=1) (sz:=1) (ds:=[D.str w]) (cl:=[[.str w]]) ty93 rfl sP rfl rfl (by omega) (Hx (sz:=1) (z:=[.str []]) (v:=.str w) rfl rfl) (Ee rfl) rfl (dC.2 ⟨_,_,rfl,pK.2 rfl,wF.2 rfl⟩) hb
 refine⟨_,_,h1,yB ?_⟩
 rw[pE 57];exact KQ h4 h3 (hk.mono h2)
def Un(tk:List uC)(f:CF)(w:List Nat)(l:List fA)(m:Nat):PM fA:=fun n=>(rE tk [41] n).bind fun _ n7=>.ok (.mk f.op w ⟨0,rH,m⟩ l) n7
def zgt(tk:List uC)(f:CF)(w:List Nat)(l:List fA):PM fA:=fun n5=>(if f.op=19 then(rE tk [44] n5).bind fun _ n6=>iL tk cS 6 6 1 n6 else .ok 0 n5:PR Nat).bind fun m n6=>Un tk f w l m n6
def zgu(tk:List uC)(e:PM fA)(f:CF)(w:List Nat)(k:Nat)(l:List fA):PM fA:=fun n=>(qV tk e k l n).bind fun l n5=>zgt tk f w l n5
def Ol(tk:List uC)(e:PM fA)(f:CF)(w:List Nat)(k:Nat)(l:List fA):PM fA:=fun n=>(Bs tk e k l n).bind fun l n4=>zgu tk e f w (f.most-f.least) l n4
def zdf{tk:List uC}  : lW tk e n=(zi2 tk n).bind fun f n1=>(rE tk [40] n1).bind fun _ n1=>
  (if f.named then(rI tk n1).bind fun w n2=>(rE tk [44] n2).bind fun _ n3=>.ok w n3 else .ok [] n1:PR (List Nat)).bind fun w n2=>(e n2).bind fun x n3=>Ol tk e f w (f.least-1) [x] n3:=by
 unfold lW zi2
 cases eQ.find? fun f=>acc tk f.word n with
 | none=>rfl
 | some f=>rfl
abbrev c6(f:CF)(w:List Nat)(m:Nat)(v:zA):List zA:=[.int .u8 (f.op:Int),.str w,.int .u8 0,.bool false,.nilslice,.bool false,.nilslice,.int .i64 (m:Int),v]
def zd7     (h0:yD tf a0 none [.ptr P.bp 0])(h:St (P.wL (eN l v::P.L)) tf t n d)(hk:Ok P lM d tf (Un P.tk f w l m n) Q E):pH E 181 37 ([.ptr a0 0]++zE++c6 f w m v) t Q:=by
 refine zig _ _ _ _ _ _ _ _ _ _ _ _ _ _ _ _ _ _ _ ?_
 unfold CT;unfold Un at hk;refine sC (iV h0 h) (Fe (P:=P.wL (eN l v::P.L)) h (hk.bindL fun _ n1 tf1 t1 u hr hle hst hrd hk1=>?_))
 obtain⟨tf2,k1,k2,k3⟩:=lA.freezeL (A:=[nG P n1 d]) (B:=P.L) hst.ob
 have hd:RD tf2 (fA.mk f.op w ⟨0,rH,m⟩ l).d (c6 f w m v):=Ek (v:=⟨0,rH,m⟩) pP pP k3
 refine rA hd.all (Ok.now (Ok.mono hk1 k1) (t:=t1) ⟨hst.ts.mono k1,k2,hst.len,hst.le,hst.good,hst.glob.mono k1⟩ ⟨_,rfl,hd⟩)
def tM_ok     (hop:f.op<256)(h0:yD tf a0 none [.ptr P.bp 0])(h:St (P.wL (eN l v::P.L)) tf t n d)(hk:Ok P lM d tf (zgt P.tk f w l n) Q E) :
  pA yA.base (dE yA F vC tF E) (JqE yA F E 181) (.ite (tC (f.op:Int) 19)
 (.light (fun m=>mA yA 84 ⟨0,m⟩ (.ptr a0 0)) fun a10=>.heavy (cC yA 93 1 [(0,(.str [44]))]) fun a11=>
 .call 57 [a10,a11] fun a12=>
 .light (fun m=>mA yA 84 ⟨0,m⟩ (.ptr a0 0)) fun a13=>.call 110 [a13,(.int .u8 1),(.int .u8 6),(.func (.func 188) [] [])] fun a14=>
 .asI .u8 a14 fun n15=>.ite true (.jump 37 ([.ptr a0 0]++zE++[.int .u8 (f.op:Int),.str w,.int .u8 0,.bool false,.nilslice,.bool false,.nilslice,.int .i64 (cA .i64 n15),v])) .fail)
 (.jump 37 ([.ptr a0 0]++zE++c6 f w 0 v))) t Q:=by
 unfold zgt at hk;by_cases h19:f.op=19
 ·rw[yab h19,PR.bind_assoc]at hk
  refine rA (by rw[h19];rfl) (sC (iV h0 h) (Fe (P:=P.wL (eN l v::P.L)) h (hk.bindL fun _ n1 tf1 t1 u hr hle hst hrd hk1=>?_)))
  refine sC (iV (yD.le h0 hle) hst) (yB ?_)
  rw[pE 110];refine MD (P:=P.wL (eN l v::P.L)) (f:=cS) (most:=6) (fun t hg i hi=>zhv hg hi) (by kernel_rfl) (by kernel_rfl) (by omega) hst (hk1.bindL fun m n2 tf2 t2 u hr2 hle2 hst2 hrd2 hk2=>?_)
  subst hrd2;refine pB (rA rfl (jC ?_))
  have hm:m<256:=by
   have:∀(k i:Nat),i<=7->iL P.tk cS 6 k i n1=.ok m n2->m<256:=by
    intro k;induction k with
    | zero=>intro i _ h;cases h
    | succ k ih=>
     intro i hi h;unfold iL at h;split at h
     ·cases h
     ·split at h
      ·cases h;omega
      ·exact ih (i+1) (by omega) h
   exact this 6 1 (by omega) hr2
  have hw:cA .i64 (m:Int)=(m:Int):=iC (by omega) (by omega)
  rw[hw];exact zd7 (yD.le h0 (hle.trans hle2)) hst2 hk2
 ·rw[yaa h19]at hk
  refine qB (by rw[sF];simp;omega) (jC ?_)
  exact zd7 h0 h hk
def Xy    {f:fA->Nat->PR fA} (he:∀L,jI (P.wL L) d e 42)(h0:yD tf a0 none [.ptr P.bp 0])(hl:l.length<1000)(h:St (P.wL (eN l v::P.L)) tf t n d)(hk:Ok P lM d tf ((e n).bind f) Q E)
  (k:∀x n1 tf1 t1 v',aA tf tf1->St (P.wL (eN (l++[x]) v'::P.L)) tf1 t1 n1 d->Ok P lM d tf1 (f x n1) Q E->pA yA.base (dE yA F vC tF E) J (K v') t1 Q) :
  pA yA.base (dE yA F vC tF E) J (.light (fun m=>mA yA 84 ⟨0,m⟩ (.ptr a0 0)) fun a=>.call 42 [a] fun a6=>.asG zE a6 fun X=>.ite (same 10 v v) (.heavy (cC yA 48 1 [(0,.agg (cE X))]) fun a8=>.ite (same 10 v v) (.heavy (gE yA 48 48 v a8) fun a9=>.ite (fB zA.one [a9]) (K a9) .fail) .fail) .fail) t Q:=by
 refine sC (iV h0 h) (yB ?_)
 rw[pE 42];refine he (eN l v::P.L) _ _ _ _ _ h (hk.bindL fun x n1 tf1 t1 u hr hle hst hrd hk1=>?_)
 obtain⟨cs,rfl,hx⟩:=hrd
 have hx':=hx
 obtain⟨a,b,c,rfl,_⟩:=uK hx
 have hs:same 10 v v=true:=hst.args.same
 refine aC (agE hx) (rA hs (lC fun b hb _=>?_))
 obtain⟨t2,w,k1,k2⟩:=hst.more hx' hl hb
 refine⟨_,_,k1,rA hs (lC fun c hc hcb=>?_)⟩
 obtain⟨tf3,t3,v3,m1,m2,m3,m4⟩:=k2 c hc hcb
 exact⟨_,_,m1,rA m4 (k x n1 tf3 t3 v3 (hle.trans m2) m3 (Ok.mono hk1 m2))⟩
def t6_ok    (he:∀L,jI (P.wL L) d e 42)(hop:f.op<256)(hmost:f.most<900):∀(k:Nat) (l:List fA) (v:zA) (n:Nat) (tf t:Tr vA),l.length+k=f.most->yD tf a0 none [.ptr P.bp 0]->St (P.wL (eN l v::P.L)) tf t n d->Ok P lM d tf (zgu P.tk e f w k l n) Q E →
  pH E 181 6 ([.ptr a0 0]++zE++f.cs++c6 f w 0 v) t Q:=by
 intro k;induction k with
 | zero=>
  intro l v n tf t hlen h0 h hk;refine ze1 _ _ _ _ _ _ _ _ _ _ _ _ _ _ _ _ _ _ _ _ _ _ _ _ ?_
  unfold Uu;have hv:=h.args.len
  rw[ybf]at hv;exact iA hv (pB (qB (by rw[fC];simp;omega) (tM_ok hop h0 h hk)))
 | succ k ih=>
  intro l v n tf t hlen h0 h hk;refine ze1 _ _ _ _ _ _ _ _ _ _ _ _ _ _ _ _ _ _ _ _ _ _ _ _ ?_
  unfold Uu;have hv:=h.args.len
  rw[ybf]at hv;unfold zgu qV at hk;refine iA hv (pB (rA (by rw[fC];exact decide_eq_true (by omega)) (sC (iV h0 h) (aO (P:=P.wL (eN l v::P.L)) h (fun ha t2 h2=>?_) fun ha t2 h2=>?_))))
  ·have ha:acc P.tk [44] n=true:=ha
   rw[ha,yab rfl,PR.bind_assoc]at hk;exact Xy he h0 (by omega) h2 hk fun x n1 tf3 t3 v3 k1 k2 k3=>jC (ih (l++[x]) v3 n1 tf3 t3 (by simp;omega) (yD.le h0 k1) k2 k3)
  ·have ha:acc P.tk [44] n=false:=ha
   rw[ha,yaa (by simp)]at hk
   exact tM_ok hop h0 h2 hk
def t2_ok    (he:∀L,jI (P.wL L) d e 42)(hop:f.op<256)(hmost:f.most<900)(hle:f.least<=f.most):∀(k:Nat) (l:List fA) (v:zA) (n:Nat) (tf t:Tr vA),l.length+k=f.least->yD tf a0 none [.ptr P.bp 0]->St (P.wL (eN l v::P.L)) tf t n d->Ok P lM d tf (Ol P.tk e f w k l n) Q E →
  pH E 181 2 ([.ptr a0 0]++zE++f.cs++c6 f w 0 v) t Q:=by
 intro k;induction k with
 | zero=>
  intro l v n tf t hlen h0 h hk;refine ze2 _ _ _ _ _ _ _ _ _ _ _ _ _ _ _ _ _ _ _ _ _ _ _ _ ?_
  unfold Uv;have hv:=h.args.len
  rw[ybf]at hv;exact iA hv (pB (qB (by rw[fC];simp;omega) (jC (t6_ok he hop hmost _ l v n tf t (by omega) h0 h hk))))
 | succ k ih=>
  intro l v n tf t hlen h0 h hk;refine ze2 _ _ _ _ _ _ _ _ _ _ _ _ _ _ _ _ _ _ _ _ _ _ _ _ ?_
  unfold Uv;have hv:=h.args.len
  rw[ybf]at hv;unfold Ol Bs at hk;rw[PR.bind_assoc]at hk;refine iA hv (pB (rA (by rw[fC];exact decide_eq_true (by omega)) (sC (iV h0 h) (Fe (P:=P.wL (eN l v::P.L)) h (hk.bindL fun _ n1 tf1 t1 u hr hle1 hst hrd hk1=>?_)))))
  rw[PR.bind_assoc]at hk1;exact Xy he (yD.le h0 hle1) (by omega) hst hk1 fun x n2 tf3 t3 v3 k1 k2 k3=>jC (ih (l++[x]) v3 n2 tf3 t3 (by simp;omega) (yD.le h0 (hle1.trans k1)) k2 k3)
def zd8    (he:∀L,jI (P.wL L) d e 42)(hop:f.op<256)(hmost:f.most<900)(hle:f.least<=f.most)(h1:1<=f.least)(h0:yD tf a0 none [.ptr P.bp 0])(h:St P tf t n d)(hk:Ok P lM d tf ((e n).bind fun x n3=>Ol P.tk e f w (f.least-1) [x] n3) Q E) :
  pH E 181 19 ([.ptr a0 0]++zE++f.cs++c6 f w 0 .nilslice) t Q:=by
 refine zih _ _ _ _ _ _ _ _ _ _ _ _ _ _ _ _ _ _ _ _ _ _ _ _ ?_
 unfold CU;have h':St (P.wL (eN [] .nilslice::P.L)) tf t n d:=⟨h.ts,lA.add (A:=[nG P n d]) (B:=P.L) (o':=eN [] .nilslice) h.ob (fun _ _=>rfl) (fun k hk=>by simp[bB,aG]at hk) (.inl ⟨rfl,rfl⟩) (by simp[bB,aG]) h.ob.tle,h.len,h.le,h.good,h.glob⟩
 exact Xy he h0 (by simp) h' hk fun x n1 tf1 t1 v1 k1 k2 k3=>jC (t2_ok he hop hmost hle (f.least-1) [x] v1 n1 tf1 t1 (by simp;omega) (yD.le h0 k1) k2 k3)
def zct:∀f∈eQ,f.op<256/\f.most<900/\f.least<=f.most/\1<=f.least:=by decide
def AN (he:∀L,jI (P.wL L) d e 42):jI P d (lW P.tk e) 181:=fun tf t n Q E h hk=>by
 rw[zdf]at hk;refine w181 _ ?_
 unfold t181;refine lC fun a0 ha0 _=>?_
 obtain⟨tf1,t1,h1,h2,h3,h4⟩:=h.box (v:=.ptr P.bp 0) ha0
 refine⟨_,_,h1,?_⟩
 refine rA rfl (rA rfl (rA rfl (rA rfl (rA rfl (rA rfl (rA rfl (rA rfl (rA rfl (rA rfl (rA rfl (rA rfl (rA rfl (lC fun a1 ha1 hb1=>?_)))))))))))))
 obtain⟨t2,k1,tf3,t3,k2,k3,k4,k5⟩:=h3.fixed (v:=.agg Mh) ty250 rfl rfl rfl ha1 hb1
 refine⟨_,_,k1,lC fun c _ _=>⟨_,_,k2 c,?_⟩⟩
 have g0:yD tf3 a0 none [.ptr P.bp 0]:=yD.le h4 k3
 refine tV (g:=187) (a:=[.ptr a1 0,.ptr a0 0]) rfl ?_
 rw[pE 187];refine zi1 k5 g0 k4 ((hk.mono (h2.trans k3)).bind fun f n1 tf4 t4 u hr hle hst hrd hk1=>?_)
 obtain⟨hf,rfl⟩:=hrd
 obtain⟨f1,f2,f3,f4⟩:=zct f hf
 have g4:=yD.le g0 hle
 refine aC (X:=cellsOf f.cs) (cQ rfl) (rA rfl (rA rfl (rA rfl (sC (iV g4 hst) (Fe hst (hk1.bind fun _ n2 tf5 t5 u2 hr2 hle2 hst2 hrd2 hk2=>?_))))))
 have g5:=yD.le g4 hle2
 cases hn:f.named with
 | true=>
  rw[hn,yab rfl,PR.bind_assoc]at hk2;refine rA hn (sC (iV g5 hst2) (yB ?_))
  rw[pE 58];refine Eh hst2 (hk2.bind fun w n3 tf6 t6 u3 hr3 hle3 hst3 hrd3 hk3=>?_)
  subst hrd3;rw[PR.bind_assoc]at hk3;have g6:=yD.le g5 hle3
  refine dF (rA rfl (sC (iV g6 hst3) (Fe hst3 (hk3.bind fun _ n4 tf7 t7 u4 hr4 hle4 hst4 hrd4 hk4=>?_))))
  exact jC (zd8 he f1 f2 f3 f4 (yD.le g6 hle4) hst4 hk4)
 | false=>
  rw[hn,yaa (by simp)]at hk2
  refine qB (by rw[show(cellsOf f.cs).b 2=f.named from rfl,hn];simp) (jC ?_)
  exact zd8 he f1 f2 f3 f4 g5 hst2 hk2
def FW(hL:Cv){tk:List uC}:∀(k d:Nat),d+k=101->∀P:cI,P.tk=tk->Up (nR tk k)/\jI P d (nR tk k) 161:=by
 intro k;induction k with
 | zero=>
  intro d hd P hP;refine⟨fun n a n' h=>(by cases h),fun tf t n Q E h hk=>?_⟩
  refine w161 _ ?_
  unfold t161;exact iA nl (iA f2 (sC h.l2 (pB (rA (by rw[fC];exact decide_eq_true (by omega)) (yB (Ok.fail h hk))))))
 | succ k ih=>
  intro d hd P hP;have hup:Up (nR tk k):=(ih (d+1) (by omega) P hP).1
  have hi:∀L,jI (P.wL L) (d+1) (nR tk k) 161:=fun L=>(ih (d+1) (by omega) (P.wL L) hP).2
  subst hP;have hin:jI P (d+1) (tW P.tk (nR P.tk k)) 168:=zcm hL (hi P.L) hup (AN fun L=>Zt (hi L) hup)
  refine⟨?_,fun tf t n Q E h hk=>?_⟩
  ·exact JK hup
  ·refine w161 _ ?_
   unfold t161;refine iA nl (iA f2 (sC h.l2 (pB (qB (by rw[fC];simp;omega) (jC (j161_7 _ _ _ _ _ _ _ _ _ _ ?_))))))
   unfold zee;refine iA nl (iA f2 (sC h.l2 (pB (iA nl (iA f2 (lC fun b _ _=>?_))))))
   obtain⟨t1,h1,h2⟩:=h.set2 (d':=d+1)
   have e:cA .i64 ((d:Int)+1)=((d+1:Nat):Int):=by rw[iC (by omega) (by omega)];rfl
   rw[e];refine⟨_,_,h1 b,yB ?_⟩
   rw[pE 168];refine hin _ _ _ _ _ h2 ?_
   have hk:Ok P lM d tf (tW P.tk (nR P.tk k) n) Q E:=hk
   revert hk
   generalize tW P.tk (nR P.tk k) n=r
   intro hk
   cases r with
   | er e i=>exact hk
   | ok x n1=>
    intro tf2 t2 v k1 k2 ⟨cs,hv,hx⟩
    subst hv;have hx':=hx
    obtain⟨a,b,c,rfl,_⟩:=uK hx
    refine aC (agE hx) (rA hx.all (iA nl (iA f2 (sC k2.l2 (pB (iA nl (iA f2 (lC fun b _ _=>?_))))))))
    obtain⟨t3,m1,m2⟩:=k2.set2 (d':=d)
    have e:cA .i64 (((d+1:Nat):Int)-1)=(d:Int):=by rw[iC (by omega) (by omega)];omega
    rw[e];exact⟨_,_,m1 b,rA hx.all (hk tf2 t3 _ k1 m2 ⟨_,rfl,hx'⟩)⟩
def KN(hL:Cv):jI P 0 (oW P.tk) 42:=Zt (FW hL 101 0 rfl P rfl).2 (FW hL 101 0 rfl P rfl).1
end
end
section
variable {n:Nat}
def zjg(n:Nat):∀s:List Nat,s.foldl (fun n b=>n*10+(b-48)) n=n*10^s.length+rD s:=by
 intro s;induction s generalizing n with
 | nil=>simp[rD]
 | cons b s ih=>
  show s.foldl _ (n*10+(b-48))=_+s.foldl _ (0*10+(b-48))
  rw[ih,ih,ybn,yag];grind
def Sk(a b:List Nat):rD (a++b)=rD a*10^b.length+rD b:=by
 unfold rD;rw[List.foldl_append,zjg];rfl
def AF(a:List Nat)(x:Nat):rD (a++[x])=rD a*10+(x-48):=by
 rw[Sk];simp[rD]
def Fi:∀ {s:List Nat},(∀b∈s,nD b=true)->rD s<10^s.length:=by
 intro s;induction s with
 | nil=>intro _;simp[rD]
 | cons b s ih=>
  intro h;have h1:=h b (by simp)
  have h2:=ih fun c hc=>h c (by simp[hc])
  have:rD (b::s)=(b-48)*10^s.length+rD s:=by
   have:=Sk [b] s
   simpa[rD]using this
  rw[this,ybn,yag];unfold nD at h1;simp only[ybb,decide_eq_true_eq]at h1;have:(b-48)*10^s.length<=9*10^s.length:=ybi _ (by omega)
  omega
def zc4{s:List Nat}(hd:∀b∈s,nD b=true)(h0:s≠[])(hp:s.head?≠some 48):0<rD s:=by
 cases s with
 | nil=>exact absurd rfl h0
 | cons b s=>
  have h1:=hd b (by simp)
  unfold nD at h1;simp only[ybb,decide_eq_true_eq]at h1;have:rD (b::s)=(b-48)*10^s.length+rD s:=by
   have:=Sk [b] s
   simpa[rD]using this
  rw[this];have hb:b≠48:=fun e=>hp (by simp[e])
  have:1*10^s.length<=(b-48)*10^s.length:=ybi _ (by omega)
  have:0<10^s.length:=Nat.pow_pos (by omega)
  omega
def qX(n:Nat):val 65536 (aB n)=n:=by
 induction n using Nat.strongRecOn with
 | ind n ih=>
  unfold aB;split
  ·rename_i h;simp[val,h]
  ·show n%65536+65536*val 65536 (aB (n / 65536))=n
   rw[ih _ (by omega)]
   omega
def dW(n:Nat):mB 65536 (aB n):=by
 induction n using Nat.strongRecOn with
 | ind n ih=>
  unfold aB;split
  ·intro x hx;cases hx
  ·intro x hx
   rcases ybs.1 hx with rfl | hx
   ·omega
   ·exact ih _ (by omega) x hx
def Lh(n:Nat):norm (aB n):=by
 induction n using Nat.strongRecOn with
 | ind n ih=>
  unfold aB;split
  ·intro h;exact absurd rfl h
  ·intro h
   have h2:=ih (n / 65536) (by omega)
   by_cases h3:aB (n / 65536)=[]
   ·simp only[h3,List.getLast_singleton]
    have h4:=qX (n / 65536)
    rw[h3]at h4;have:n / 65536=0:=h4.symm
    omega
   ·rw[List.getLast_cons h3]
    exact h2 h3
def Yp{l:List Nat} (h1:mB 65536 l)(h2:norm l)(h3:val 65536 l=n):l=aB n:=
 GK (B:=65536) (by omega) h1 (dW n) h2 (Lh n) (by rw[qX,h3])
def Es  : aB n=[] ↔ n=0:=by
 constructor
 ·intro h
  have:=qX n
  rw[h]at this;exact this.symm
 ·intro h;subst h;unfold aB;rfl
def Yq{k:Nat}(h:n<65536^k):(aB n).length<=k:=by
 induction k generalizing n with
 | zero=>
  have:n=0:=by simpa using h
  rw[Es.2 this];simp
 | succ k ih=>
  unfold aB;split
  ·simp
  ·have:n / 65536<65536^k:=by
    rw[yag]at h;exact ycu (by rw[ybh];exact h)
   have:=ih this
   simp;omega
end
section
variable {b:Bool}{v:zA}{l:List Nat}
variable [eC]
section
variable {t:Tr vA}{Q:sB}
def cL  (h:zA.one v=true):fB zA.one [.bool b,v]=true:=by
 show(bif zA.one (.bool b)then(bif zA.one v then true else false)else false)=true
 rw[h];rfl
def yO   (h:bA t 1 (eD l) v):jJ [.bool false,.nilslice] (.agg [.bool b,v])=some (cellsOf [.bool b,v]):=vL (lV (w:=⟨b,l⟩) h) (tJ.zs _)
def RF  {neg:Bool}(hv:bA t 1 (rC .u32 l) v)(hl:l.length<=500)(hlt:mB 4294967296 l)
  (hQ:∀t' u,aA t t'->bA t' 1 (eD (aB (val 4294967296 l))) u->Q (.tup [.agg [.bool (if eE l=[]then false else neg),u],.int .i64 0]) t'):Wc yA F 122 [.bool neg,v] t Q:=by
 refine w122 ?_
 unfold t122 uG;refine yB ?_
 rw[q141];refine Uc hv (by omega) hlt fun t' u hle hu=>?_
 have hlt2:mB 65536 (eE (mH (eE l))):=mT (Tf (mT hlt))
 have hval:val 65536 (eE (mH (eE l)))=val 4294967296 l:=by rw[wV,Ny,wV]
 have e:eE (mH (eE l))=aB (val 4294967296 l):=Yp hlt2 (mV _) hval
 rw[e]at hu;have hlen:(aB (val 4294967296 l)).length<=1000:=by
  rw[<- e];have:=Ke (mH (eE l))
  rw[Jv]at this;have:=Ke l
  omega
 have hul:=bA.len (l:=eD (aB (val 4294967296 l))) hu
 rw[qT]at hul;refine aC (yO hu) (rA (cL hu.one) (iA hul (pB (qB (by rw[fC];simp;omega) (rA (cL hu.one) ?_)))))
 exact hQ t' u hle hu
theorem Xe{s:List Nat}(hs:∀b∈s,nD b=true)(h0:s≠[])(hp:oR s=false)(hl:s.length<=200)(hQ:∀t' u,aA t t'->bA t' 1 (eD (aB (rD s))) u->Q (.tup [.agg [.bool false,u],.int .i64 0]) t'):Wc yA F 99 [.str s] t Q:=by
 have dig:∀b∈s,48<=b/\b<=57:=fun b hb=>by have:=hs b hb;unfold nD at this;simpa using this
 have hlen:0<s.length:=List.length_pos_iff.2 h0
 obtain⟨x,hx⟩:∃x,s[0]?=some x:=⟨s[0],ybd hlen⟩
 have hxd:=dig x (ycv hx)
 have hx0:=fM hx
 rw[show((0:Nat):Int)=0 from rfl]at hx0
 have ll:∀s:List Nat,(Int.ofNat (zB s))=(s.length:Int):=fun s=>by rw[oD];rfl
 have words:∀(n:Nat) (r w:List Nat) (v:zA) (t1:Tr vA),r.length<=n->(∀b∈r,nD b=true)->r.length<=200->w.length+r.length<=300->aA t t1->bA t1 1 (rC .u32 w) v->mB 4294967296 w->val 4294967296 w*10^r.length+rD r=rD s →
   jp 99 6 [.str r,.bool false,v,.bool false,.nilslice] t1 Q:=by
  intro n;induction n with
  | zero=>
   intro r w v t1 hr hd hr2 hw hle hv hlt hval;have:r=[]:=ycc.1 (by omega)
   subst this;refine j99_6 ?_
   unfold zgz uG uI;rw[ll];refine qB (by simp[fC]) (yB ?_)
   rw[q122];refine RF hv (by omega) hlt fun t2 u k1 k2=>?_
   have:(if eE w=[]then false else false)=false:=by split<;>rfl
   rw[this];have hval:val 4294967296 w=rD s:=by simpa[rD]using hval
   rw[hval]at k2;exact iA rfl (aC (yO k2) (iA rfl (pB (rA (cL k2.one) (hQ t2 u (hle.trans k1) k2)))))
  | succ n ih=>
   intro r w v t1 hr hd hr2 hw hle hv hlt hval;by_cases hz:r.length=0
   ·exact ih r w v t1 (by omega) hd hr2 hw hle hv hlt hval
   refine j99_6 ?_
   unfold zgz uG uI;have hc:(bif iB (Int.ofNat (zB r)) 9 then(Int.ofNat (zB r))else 9)=((min 9 r.length:Nat):Int):=by
    rw[ll,fC];by_cases h9:r.length<9
    ·rw[decide_eq_true (by omega)];show(r.length:Int)=_;omega
    ·rw[decide_eq_false (by omega)];show(9:Int)=_;omega
   rw[hc,ll];refine rA (by rw[fC];exact decide_eq_true (by omega)) (jC ?_)
   have hcl:min 9 r.length<=r.length:=Nat.min_le_right _ _
   generalize hcd:min 9 r.length=c at *
   have hc9:c<=9:=by omega
   have hpc:∀i,i<=c->10^i<=1000000000:=fun i hi=>by
    have:10^i<=10^9:=yao (by omega) (by omega)
    simpa using this
   have hdt:∀i,rD (r.take i)<10^i\/r.length<i:=fun i=>by
    by_cases hi:i<=r.length
    ·have:=Fi (s:=r.take i) fun b hb=>hd b (List.mem_of_mem_take hb)
     rw[yda,Nat.min_eq_left hi]at this;exact .inl this
    ·exact .inr (by omega)
   have inner:∀(k i:Nat),i+k=c->jp 99 10 [.str r,.bool false,v,.int .i64 (c:Int),.int .u32 ((10^i:Nat):Int),.int .u32 ((rD (r.take i):Nat):Int),.int .i64 (c:Int),.int .i64 (i:Int),.bool false,.nilslice] t1 Q:=by
    intro k;induction k with
    | zero=>
     intro i hi;have hi:i=c:=by omega
     subst hi;refine zex ?_
     unfold Uo;refine qB (by simp[fC]) (yB ?_)
     rw[q121];have hp1:=hpc i (ybk _)
     have hp2:rD (r.take i)<10^i:=(hdt i).resolve_right (by omega)
     refine za5 hv (by omega) hlt (by omega) (by omega) fun t2 w2 v2 k1 k2 k3 k4 k5 k6=>?_
     refine iA (Oz (by omega)) (dF (jC ?_))
     refine ih (r.drop i) w2 v2 t2 (by rw[ydj];omega) (fun b hb=>hd b (List.mem_of_mem_drop hb)) (by rw[ydj];omega) (by rw[ydj];omega) (hle.trans k1) k2 k3 ?_
     have hsp:rD r=rD (r.take i)*10^(r.drop i).length+rD (r.drop i):=by rw[<- Sk,List.take_append_drop]
     have hlr:r.length=i+(r.drop i).length:=by rw[ydj];omega
     rw[k5,<- hval,hsp,hlr,Nat.pow_add];grind
    | succ k ih2=>
     intro i hi;have hri:r[i]?=some r[i]:=ybd (by omega)
     have hrd:48<=r[i]/\r[i]<=57:=by have:=hd r[i] (ycj _);unfold nD at this;simpa using this
     refine zex ?_
     unfold Uo uU;have hp1:=hpc (i+1) (by omega)
     have hp2:rD (r.take (i+1))<10^(i+1):=(hdt (i+1)).resolve_right (by omega)
     rw[xQ hri,AF]at hp2;refine rA (by rw[fC];exact decide_eq_true (by omega)) (iA (fM hri) (pB (jC ?_)))
     rw[yag]at hp1 hp2;have e1:cA .u32 (((10^i:Nat):Int)*10)=((10^(i+1):Nat):Int):=by rw[iT (by omega) (by omega),yag];omega
     have e2:cA .u32 (cA .u32 (((rD (r.take i):Nat):Int)*10)+cA .u32 (cA .u8 ((r[i]:Int)-48)))=((rD (r.take (i+1)):Nat):Int):=by
      rw[Nv (by omega) (by omega),iT (n:=((rD (r.take i):Nat):Int)*10) (by omega) (by omega),iT (n:=(r[i]:Int)-48) (by omega) (by omega),iT (by omega) (by omega),xQ hri,AF]
      omega
     have e3:tD (i:Int)=.int .i64 ((i+1:Nat):Int):=by
      show zA.int .i64 (cA .i64 ((i:Int)+1))=_
      rw[iC (by omega) (by omega)];rfl
     rw[e1,e2,e3];exact ih2 (i+1) (by omega)
   exact inner c 0 (by omega)
 have check:∀(k i:Nat),i+k=s.length->jp 99 2 [.str s,.bool false,.int .i64 (s.length:Int),.int .i64 (i:Int),.bool false,.nilslice] t Q:=by
  intro k;induction k with
  | zero=>
   intro i hi;refine j99_2 ?_
   unfold zg0;rw[ll];refine qB (by rw[fC];simp;omega) (qB (by rw[fC];simp;omega) (jC ?_))
   exact words s.length s [] .nilslice t (ybk _) hs hl (by simp;omega) (aA.refl _) pP (fun x hx=>by cases hx) (by simp[val])
  | succ k ih=>
   intro i hi;have hsi:s[i]?=some s[i]:=ybd (by omega)
   have hsd:=dig s[i] (ycj _)
   refine j99_2 ?_
   unfold zg0 uU;have e3:tD (i:Int)=.int .i64 ((i+1:Nat):Int):=by
    show zA.int .i64 (cA .i64 ((i:Int)+1))=_
    rw[iC (by omega) (by omega)];rfl
   refine rA (by rw[fC];exact decide_eq_true (by omega)) (iA (fM hsi) (pB (qB (by rw[fC];simp;omega) (iA (fM hsi) (pB (qB (by rw[fC];simp;omega) (jC ?_)))))))
   rw[e3];exact ih (i+1) (by omega)
 refine w99 ?_
 unfold t99 uU;rw[ll];refine rA (by rw[fC];exact decide_eq_true (by omega)) (iA hx0 (pB (qB (by rw[sF];simp;omega) (jC ?_))))
 have e45:tC (x:Int) 45=false:=by rw[sF];simp;omega
 rw[e45];refine j99_11 ?_
 unfold zd0 uU;rw[ll];refine qB (by rw[sF];simp;omega) (iA hx0 (pB ?_))
 by_cases h48:x=48
 ·have hl1:s.length=1:=by
   unfold oR at hp;have:s.head?=some 48:=by
    cases s with
    | nil=>cases hx
    | cons a r=>cases hx;simp[h48]
   rw[this]at hp;simp at hp;omega
  refine rA (by rw[sF];simp;omega) (qB (by simp) (qB (by rw[fC];simp;omega) (jC ?_)))
  exact check s.length 0 (by omega)
 ·refine qB (by rw[sF];simp;omega) (jC ?_)
  exact check s.length 0 (by omega)
end
end
section
variable {a b:Nat}{u v:zA}{l:List Nat}
variable [eC]
def De{n:Nat}(h:(aB n).length<=1024):zQ false (aB n)=true:=by
 unfold zQ;split
 ·rfl
 ·rename_i hne
  have hn:=Lh n hne
  have:(aB n).getLast?≠some 0:=by
   rw[List.getLast?_eq_some_getLast hne];intro e;exact hn (yci e)
  simp[h,this]
def el41:eJ yA 41 79 1:=⟨⟨_,ty41,rfl,rfl⟩,⟨_,Az,rfl,rfl,by decide,by decide⟩,fun y h=>by rw[Az]at h;cases h;rfl⟩
section
variable {t:Tr vA}{Q:sB}
def sameA{b:Bool}  (h:bA t 1 (eD l) v):same 10 (.agg [.bool b,v]) (.agg [.bool b,v])=true:=by
 have h1:=bA.same (d:=9) h
 have h2:same 9 (.bool b) (.bool b)=true:=QT
 show(same 9 (.bool b) (.bool b)&&(same 9 v v&&true))=true
 rw[h1,h2];rfl
def BU  (hv:bA t 1 (rC .u32 l) v)(hl:l.length<400000)(hlt:mB 4294967296 l)(hQ:∀t' u,aA t t'->bA t' 1 (eD (aB (val 4294967296 l))) u->Q (.agg [.bool false,u]) t'):Wc yA F 141 [.bool false,v] t Q:=by
 refine Uc hv hl hlt fun t' u hle hu=>?_
 have hlt2:mB 65536 (eE (mH (eE l))):=mT (Tf (mT hlt))
 have hval:val 65536 (eE (mH (eE l)))=val 4294967296 l:=by rw[wV,Ny,wV]
 rw[Yp hlt2 (mV _) hval]at hu
 have:(if eE l=[]then false else false)=false:=by split<;>rfl
 rw[this];exact hQ t' u hle hu
def XM  (hu:bA t 1 (eD (aB a)) u)(hv:bA t 1 (eD (aB b)) v)(ha:(aB a).length<=1000)(hb:(aB b).length<=1000)(hb0:0<b)
  (hQ:∀t' q r,aA t t'->bA t' 1 (eD (aB (a / b))) q->bA t' 1 (eD (aB (a%b))) r->Q (.tup [.agg [.bool false,q],.agg [.bool false,r],.int .i64 0]) t'):Wc yA F 156 [.agg [.bool false,u],.agg [.bool false,v]] t Q:=by
 have hBB:=tO
 refine w156 ?_
 unfold t156 uB uI;refine lC fun bb hbb hbase=>?_
 obtain⟨t1,g1,g2,g3,g4⟩:=Ep (C:=yA) (T:=229) (el:=43) (sz:=2) (n:=2) (cl:=[[.bool false,u],[.bool false,v]]) (ps:=[(0,.agg [.bool false,u]),(1,.agg [.bool false,v])]) zgi rfl ty43 rfl rfl (by decide) rfl (fun i cs hi=>by
  match i,hi with
  | 0,hi=>cases hi;rfl
  | 1,hi=>cases hi;rfl) rfl hbb
 refine⟨_,_,g1,yB ?_⟩
 have hw:bA t1 2 ([(⟨false,aB a⟩:tJ),⟨false,aB b⟩].map tJ.d) (.slice bb 0 2 2):=⟨_,g2,dC.2 ⟨_,_,rfl,lV (w:=⟨false,aB a⟩) (hu.mono g3),dC.2 ⟨_,_,rfl,lV (w:=⟨false,aB b⟩) (hv.mono g3),wF.2 rfl⟩⟩⟩
 have hall:=NK hw (fun w hw=>by
  rcases ybs.1 hw with rfl | hw
  ·show(aB a).length<_;omega
  ·rcases ybs.1 hw with rfl | hw
   ·show(aB b).length<_;omega
   ·cases hw) (by simp)
 have hva:=De (n:=a) (by omega)
 have hvb:=De (n:=b) (by omega)
 rw[q162,hall,sA];refine cD (qB (by simp[hva,hvb]) ?_)
 have hvl:=bA.len (l:=eD (aB b)) hv
 rw[qT]at hvl;have hbne:aB b≠[]:=fun e=>by have:=Es.1 e;omega
 have hbl:0<(aB b).length:=List.length_pos_iff.2 hbne
 refine iA hvl (pB (qB (by rw[sF];simp;omega) (yB ?_)))
 rw[q164];refine Pv (hv.mono g3) (by omega) (dW b) fun t2 v2 k1 k2=>yB ?_
 rw[q164];refine Pv ((hu.mono g3).mono k1) (by omega) (dW a) fun t3 v3 m1 m2=>yB ?_
 rw[q165];have an:=Nc (dW a)
 have ab:=Nc (dW b)
 have vn:∀n,val BB (qH (aB n))=n:=fun n=>by rw[hBB,Tx,qX]
 refine AA m2 (k2.mono m1) (by rw[eS];omega) (by rw[hBB];exact an) (by rw[hBB];exact ab) (Lg (Lh a)) (Lg (Lh b)) (fun e=>?_) fun t4 q r qv rv p1 p2 p3 p4 p5 p6 p7 p8 p9=>?_
 ·have:=vn b
  rw[e]at this;have:(0:Nat)=b:=this
  omega
 rw[vn,vn]at p8;rw[vn]at p9;have hq:val BB q=a / b/\val BB r=a%b:=by
  have h1:a=b*val BB q+val BB r:=p8
  have h2:val BB r<b:=p9
  constructor
  ·rw[h1,Nat.mul_add_div hb0,Nat.div_eq_of_lt h2,yct]
  ·rw[h1,Nat.mul_add_mod,Nat.mod_eq_of_lt h2]
 have hB1:1<BB:=by omega
 have lenq:q.length<=1000:=by
  have h1:val BB q<=val BB (qH (aB a)):=by rw[vn,hq.1];exact Nat.div_le_self _ _
  have:=jR hB1 (by rw[hBB];exact an) p6 h1
  rw[eS]at this;omega
 have lenr:r.length<=1000:=by
  have h1:val BB r<=val BB (qH (aB b)):=by rw[vn];omega
  have:=jR hB1 (by rw[hBB];exact ab) p7 h1
  rw[eS]at this;omega
 refine iA rfl (iA rfl (qB (by decide) (jC ?_)))
 refine zim ?_
 unfold CZ uG;refine yB ?_
 rw[q141];show Wc yA F 141 [.bool false,qv] t4 _
 refine BU p2 (by omega) (by rw[<- hBB];exact p4) fun t5 u5 s1 s2=>?_
 rw[<- hBB,hq.1]at s2;refine aC (yO s2) (rA rfl (yB ?_))
 rw[q141];refine BU (p3.mono s1) (by omega) (by rw[<- hBB];exact p5) fun t6 u6 s3 s4=>?_
 rw[<- hBB,hq.2]at s4;refine aC (yO s4) (rA (cL s2.one) (rA (cL s4.one) ?_))
 exact hQ t6 u5 u6 (g3.trans (k1.trans (m1.trans (p1.trans (s1.trans s3))))) (s2.mono s3) s4
def zfr  (hu:bA t 1 (eD (aB a)) u)(hv:bA t 1 (eD (aB b)) v)(ha:(aB a).length<=1000)(hb:(aB b).length<=1000)(hb0:0<b)
  (hQ:∀t' q r,aA t t'->bA t' 1 (eD (aB (a / b))) q->bA t' 1 (eD (aB (a%b))) r->Q (.tup [.agg [.bool false,q],.agg [.bool false,r]]) t'):Wc yA F 143 [.agg [.bool false,u],.agg [.bool false,v]] t Q:=by
 refine w143 ?_
 unfold t143 uG uI;refine yB ?_
 rw[q156];refine XM hu hv ha hb hb0 fun t' q r h1 h2 h3=>?_
 refine iA rfl (aC (yO h2) (iA rfl (aC (yO h3) (iA rfl (pB (rA (cL h2.one) (rA (cL h3.one) (rA (cL h2.one) (rA (sameA h3) (rA (cL h3.one) ?_))))))))))
 exact hQ t' q r h1 h2 h3
def agF{f:vH} (hu:bA t 1 (eD f.n.limbs) u)(hv:bA t 1 (eD f.d.limbs) v):jJ [.bool false,.nilslice,.bool false,.nilslice] (.agg [.bool f.n.neg,u,.bool f.d.neg,v])=some (cellsOf [.bool f.n.neg,u,.bool f.d.neg,v]):=vL (wU hu hv) (vH.zs _)
def Lu (h:a<=b):(aB a).length<=(aB b).length:=
 jR (B:=65536) (by omega) (dW b) (Lh a) (by rw[qX,qX];exact h)
def zhx  (hu:bA t 1 (eD (aB a)) u)(hv:bA t 1 (eD (aB b)) v)(ha:(aB a).length<=200)(hb:(aB b).length<=200)(hb0:0<b)
  (hQ:∀t' cs,aA t t'->RD t' (eM false a b).dd cs->Q (.tup [.agg cs,.int .i64 0]) t'):Wc yA F 100 [.agg [.bool false,u],.agg [.bool false,v]] t Q:=by
 have hva:=De (n:=a) (by omega)
 have hvb:=De (n:=b) (by omega)
 have hvl:=bA.len (l:=eD (aB b)) hv
 rw[qT]at hvl;have hbne:aB b≠[]:=fun e=>by have:=Es.1 e;omega
 have hbl:0<(aB b).length:=List.length_pos_iff.2 hbne
 refine w100 ?_
 unfold t100 uB uI uG;refine yB ?_
 rw[q123,Gi (by omega) hu,sA,hva]
 refine cD (qB (by simp) (yB ?_))
 rw[q123,Gi (by omega) hv,sA,hvb]
 refine cD (qB (by simp) (iA hvl (pB (qB (by rw[sF];simp;omega) (yB ?_)))))
 rw[q124];refine w124 ?_
 unfold t124;refine qB (by simp) (jC (j124_7 ?_))
 unfold zeg uG;refine yB ?_
 rw[q142];refine w142 ?_
 unfold t142 uG uI;refine yB ?_
 rw[q155];refine zfo (n:=⟨false,aB a⟩) (d:=⟨false,aB b⟩) hu hv (by show(aB a).length<_;omega) (by show(aB b).length<_;omega) (dW a) (dW b) hva hvb fun t1 g gv h1 h2 h3 h4 h5=>?_
 have h5:val 65536 g=Nat.gcd a b:=by rw[h5,qX,qX]
 have hg:=Yp h3 h4 h5
 subst hg;have hgb:Nat.gcd a b<=b:=Nat.gcd_le_right _ hb0
 have hgl:=Lu hgb
 have hg0:0<Nat.gcd a b:=Nat.gcd_pos_of_pos_right _ hb0
 refine iA rfl (aC (yO h2) (iA rfl (pB (rA (cL h2.one) (rA (cL h2.one) ?_)))))
 refine aC (yO h2) (rA (cL h2.one) (yB ?_))
 rw[q143];refine zfr (hu.mono h1) h2 (by omega) (by omega) hg0 fun t2 q r k1 k2 k3=>?_
 refine iA rfl (aC (yO k2) (iA rfl (aC (yO k3) (rA (cL k2.one) (yB ?_)))))
 rw[q143];refine zfr ((hv.mono h1).mono k1) (h2.mono k1) (by omega) (by omega) hg0 fun t3 q2 r2 m1 m2 m3=>?_
 have kq:=k2.mono m1
 have hf:=wU (f:=⟨⟨false,aB (a / Nat.gcd a b)⟩,⟨false,aB (b / Nat.gcd a b)⟩⟩) kq m2
 refine iA rfl (aC (yO m2) (iA rfl (aC (yO m3) (rA (cL m2.one) (rA rfl (rA rfl (rA hf.all ?_)))))))
 refine aC (agF (f:=⟨⟨false,aB (a / Nat.gcd a b)⟩,⟨false,aB (b / Nat.gcd a b)⟩⟩) kq m2) (yB ?_)
 have ql:=bA.len (l:=eD (aB (a / Nat.gcd a b))) kq
 rw[qT]at ql;have ql2:=bA.len (l:=eD (aB (b / Nat.gcd a b))) m2
 rw[qT]at ql2;have la:=Lu (Nat.div_le_self a (Nat.gcd a b))
 have lb:=Lu (Nat.div_le_self b (Nat.gcd a b))
 have long:wC yA F 144 [.agg [.bool false,q,.bool false,q2]] t3=some (.bool false):=by
  refine bD.2 (w144 ?_)
  unfold t144 uI gI;refine iA ql (pB (qB (by rw[fC];simp;omega) (iA ql2 (pB ⟨?_,rfl⟩))))
  rw[fC,decide_eq_false (by omega)]
 have res:wC yA F 125 [.agg [.bool false,q,.bool false,q2]] t3=some (.tup [.agg [.bool false,q,.bool false,q2],.int .i64 0]):=by
  refine bD.2 (w125 ?_)
  unfold t125 uB;refine yB ?_
  rw[q144,long,sA];exact cD (qB (by simp) (rA hf.all ⟨rfl,rfl⟩))
 rw[q125];show vE (wC yA F 125 [.agg [.bool false,q,.bool false,q2]] t3) _
 rw[res,sA];refine iA rfl (aC (agF (f:=⟨⟨false,aB (a / Nat.gcd a b)⟩,⟨false,aB (b / Nat.gcd a b)⟩⟩) kq m2) (iA rfl (pB (rA hf.all ?_))))
 refine hQ t3 _ (h1.trans (k1.trans m1)) ?_
 unfold eM;exact hf
theorem MB  (hv:bA t 1 (eD l) v)(hl:l.length<1000000)(hQ:∀t' v',aA t t'->bA t' 1 (eD l) v'->Q v' t'):Wc yA F 146 [v] t Q:=by
 refine w146 ?_
 have e:(gP .eql).f yA 41 (.tmp 3) (.const (.slice none 0 0)) v .nilslice=some (.bool (Nat.beq v.tag 5)):=by
  obtain⟨cl,h1,_⟩:=hv
  rcases h1 with⟨rfl,_⟩ | ⟨b,off,cap,rfl,_⟩
  ·kernel_rfl
  ·kernel_rfl
 simp only[uB,t146,pA,e,sA,Cn];split
 ·grind [uV,mC,aA.refl]
 ·intro b hb hbase
  obtain⟨H1,g1,⟨c,g2⟩,g3⟩:=lit0 (t:=t) ty41 rfl Az rfl hb
  rw[g1];simp only[sA];intro n hn _;obtain⟨u,H',g4,g5,g6,_⟩:=NH el41 (hv.mono g3) (by grind [qT]) hn (.inr ⟨b,c,0,rfl,g2⟩)
  rw[g4];simp only[sA];exact hQ _ _ (g3.trans g6) g5
def Xi {neg:Bool} (hv:bA t 1 (eD l) v)(hl:l.length<1000000)(hQ:∀t' v',aA t t'->bA t' 1 (eD l) v'->Q (.agg [.bool (!neg&&decide (0<l.length)),v']) t'):Wc yA F 127 [.agg [.bool neg,v]] t Q:=by
 have hvl:=bA.len (l:=eD l) hv
 rw[qT]at hvl;refine w127 ?_
 unfold t127 uI
 cases neg with
 | false=>
  refine rA rfl (iA hvl (pB (yB ?_)))
  rw[q146];refine MB hv hl fun t1 v1 h1 h2=>?_
  have e:iB 0 (l.length:Int)=decide (0<l.length):=by rw[fC];congr 1;simp
  rw[e];have hs:same 10 (.int .i64 (l.length:Int)) (uZ (l.length:Int))=true:=by
   show same 10 (.int .i64 (l.length:Int)) (.int .i64 (l.length:Int))=true
   exact Pd
  refine rA hv.same (iA hvl (rA hs (rA (cL h2.one) (rA (cL h2.one) ?_))))
  have:=hQ t1 v1 h1 h2
  rw[ycl,ycn]at this;exact this
 | true=>
  refine qB (by simp) (yB ?_)
  rw[q146];refine MB hv hl fun t1 v1 h1 h2=>?_
  refine rA (cL h2.one) (rA (cL h2.one) ?_)
  exact hQ t1 v1 h1 h2
def neg_ok {cs:List zA}(hd:RD t (eM false a b).dd cs)(ha:(aB a).length<=200)(hb:(aB b).length<=200)(hb0:0<b)
  (hQ:∀t' cs,aA t t'->RD t' (eM true a b).dd cs->Q (.tup [.agg cs,.int .i64 0]) t'):Wc yA F 101 [.agg cs] t Q:=by
 have hg0:0<Nat.gcd a b:=Nat.gcd_pos_of_pos_right _ hb0
 have la:=Lu (Nat.div_le_self a (Nat.gcd a b))
 have lb:=Lu (Nat.div_le_self b (Nat.gcd a b))
 obtain⟨u,v,rfl,hu,hv⟩:=rd_frac hd
 have hu:bA t 1 (eD (aB (a / Nat.gcd a b))) u:=hu
 have hv:bA t 1 (eD (aB (b / Nat.gcd a b))) v:=hv
 have hd0:0<b / Nat.gcd a b:=Nat.div_pos (Nat.gcd_le_right _ hb0) hg0
 have hvalid:Jo (eM false a b)=true:=by
  unfold Jo;have e1:(eM false a b).n=⟨false,aB (a / Nat.gcd a b)⟩:=rfl
  have e2:(eM false a b).d=⟨false,aB (b / Nat.gcd a b)⟩:=rfl
  rw[e1,e2];simp only[De (n:=a / Nat.gcd a b) (by omega),De (n:=b / Nat.gcd a b) (by omega),qX]
  have hco:Nat.gcd (a / Nat.gcd a b) (b / Nat.gcd a b)=1:=by
   rw[Nat.gcd_div (Nat.gcd_dvd_left a b) (Nat.gcd_dvd_right a b),Nat.div_self hg0]
  have hne:aB (b / Nat.gcd a b)≠[]:=fun e=>by have:=Es.1 e;omega
  simp[hne,hco]
  omega
 have hfit:vH.fit (eM false a b):=⟨⟨by show(aB _).length<_;unfold rM;omega,by show(aB _).length<_;unfold rM;omega⟩,dW _,dW _⟩
 refine w101 ?_
 unfold t101 uB uG;refine yB ?_
 rw[q126];have:=NV (f:=eM false a b) hu hv hfit
 show vE (wC yA F 126 [.agg [.bool (eM false a b).n.neg,u,.bool (eM false a b).d.neg,v]] t) _
 rw[this,sA,hvalid];refine cD (qB (by simp) (yB ?_))
 rw[q127];refine Xi (neg:=false) hu (by omega) fun t1 u1 h1 h2=>?_
 have hv1:=hv.mono h1
 refine aC (yO h2) (rA (sameA hv1) (yB ?_))
 rw[q127];refine Xi (neg:=false) hv1 (by omega) fun t2 v2 k1 k2=>?_
 refine aC (yO k2) (yB ?_)
 rw[q127];refine Xi (neg:=(!false&&decide (0<(aB (b / Nat.gcd a b)).length))) k2 (by omega) fun t3 v3 m1 m2=>?_
 refine aC (yO m2) (rA rfl ?_)
 have hne:0<(aB (b / Nat.gcd a b)).length:=List.length_pos_iff.2 fun e=>by have:=Es.1 e;omega
 have hn:(eM true a b).n=⟨!false&&decide (0<(aB (a / Nat.gcd a b)).length),aB (a / Nat.gcd a b)⟩:=by
  unfold eM;congr 1
  by_cases h0:a=0
  ·subst h0
   have:aB (0 / Nat.gcd 0 b)=[]:=Es.2 (by simp)
   rw[this];rfl
  ·have h1:0<a / Nat.gcd a b:=Nat.div_pos (Nat.gcd_le_left _ (by omega)) hg0
   have:0<(aB (a / Nat.gcd a b)).length:=List.length_pos_iff.2 fun e=>by have:=Es.1 e;omega
   simp[this];omega
 have hdd:(eM true a b).d=⟨!(!false&&decide (0<(aB (b / Nat.gcd a b)).length))&&decide (0<(aB (b / Nat.gcd a b)).length),aB (b / Nat.gcd a b)⟩:=by
  unfold eM;congr 1;simp[hne]
 have hf:=wU (f:=⟨⟨!false&&decide (0<(aB (a / Nat.gcd a b)).length),aB (a / Nat.gcd a b)⟩,⟨!(!false&&decide (0<(aB (b / Nat.gcd a b)).length))&&decide (0<(aB (b / Nat.gcd a b)).length),aB (b / Nat.gcd a b)⟩⟩) ((h2.mono k1).mono m1) m2
 refine rA hf.all ?_
 refine hQ t3 _ (h1.trans (k1.trans m1)) ?_
 have:eM true a b=⟨(eM true a b).n,(eM true a b).d⟩:=rfl
 rw[this,hn,hdd];exact hf
end
end
section
variable {l s:List Nat}{v y:zA}{box x:Nat}{Q:sB}{I:Nat->Tr vA->Prop}{neg:Bool}
variable [eC]
section
variable {t tf:Tr vA}
theorem XK      (hl:l.length<1000000)
  (hr:∀k t,I k t->mA yA 41 ⟨0,t⟩ (.ptr box 0)=some v/\bA t 1 (rC .u16 l) v)
  (hy:∀k x t,l[k]?=some x->I (k+1) t->∀R:sB,(∀t',I k t'->R (.bool true) t')->vE (gL y [.int .u16 (x:Nat)]) fun p=>Wq yA F vC p.1 p.2 t R)
  (hQ:∀t,I 0 t->Q (.tup []) t):∀(k:Nat) (t:Tr vA),k<=l.length->I k t->jp 159 2 [y,.ptr box 0,.int .i64 ((k:Int)-1)] t Q:=by
 intro k;induction k with
 | zero=>
  intro t _ h;refine zfd ?_
  simp only[uH,uB,uZ,uW,Vj,pA,aK];simp_all
 | succ k ih=>
  intro t hk h;obtain⟨g0,hv⟩:=hr _ _ h
  obtain⟨x,hx⟩:=getElem?_of_lt (l:=l) (i:=k) (by omega)
  obtain⟨c,off,g1,g2⟩:=hv.idx iY hx
  have e1:((k+1:Nat):Int)-1=(k:Int):=by omega
  rw[e1];refine zfd ?_
  simp (disch:=omega) only[uH,uB,uZ,uW,Vj,pA,aK,g0,g1,g2,sA,yC,iC]
  rw[yab (by omega)]
  refine hy k x t hx h _ fun t' ht'=>?_
  grind [zA.asBool,sA]
def XJ     {t:Tr vA} (hl:l.length<1000000)
  (hr:∀k t,I k t->mA yA 41 ⟨0,t⟩ (.ptr box 0)=some v/\bA t 1 (rC .u16 l) v)
  (hy:∀k x t,l[k]?=some x->I (k+1) t->∀R:sB,(∀t',I k t'->R (.bool true) t')->vE (gL y [.int .u16 (x:Nat)]) fun p=>Wq yA F vC p.1 p.2 t R)
  (hQ:∀t,I 0 t->Q (.tup []) t) (h:I l.length t):Wc yA F 159 [y,.ptr box 0] t Q:=by
 obtain⟨g0,hv⟩:=hr _ _ h
 refine w159 ?_
 simp (disch:=omega) only[uI,uZ,uW,t159,pA,g0,hv.len,uJ,sA,yC,iC]
 exact XK hl hr hy hQ l.length t (ybk _) h
theorem RV{f i:Nat}{v8 v4:zA}{K R:T}{ps:List Nat} {S:Nat->Tr vA->Tr vA->Prop}(hS:∀k,BH (S k))(hp:bA tf 1 (rC .u16 ps) v4)(hl:ps.length<30000)(h:S ps.length tf t)
  (body:∀(k x:Nat) (tf t:Tr vA) (Q1:sB),ps[k]?=some x->S (k+1) tf t->(∀t',S k tf t'->Q1 (.bool true) t')->Jq yA F f i [v8,.int .u16 (x:Int)] t Q1)
  (fin:∀tf' t',aA tf tf'->S 0 tf' t'->pA yA.base (Wq yA F vC) (Jq yA F f) K t' Q) :
  pA yA.base (Wq yA F vC) (Jq yA F f) (.call 147 [v4] fun a0=>.range (kR yA) a0 i 1 [v8] K R) t Q:=by
 simp only[pA];rw[q147];refine w147 ?_
 simp only[t147,pA];intro bb hbb hbase;have hc4:v4.cells=[v4]:=by
  obtain⟨cl,h1,_⟩:=hp
  rcases h1 with⟨rfl,_⟩ | ⟨_,_,_,rfl,_⟩<;>rfl
 have hone:wN v4 ⟨bb,t⟩=some (.ptr bb 0,⟨bb+1,t.set bb (.cells (Tr.ofList [v4]) 1 none)⟩):=by
  unfold wN;rw[hc4];rfl
 rw[hone,sA];simp only[];have h1:=(hS _).both h hbb (.cells (Tr.ofList [v4]) 1 none)
 have hfb:=Ql ((hS _).le h) hbb
 have htf1:aA tf (tf.set bb (.cells (Tr.ofList [v4]) 1 none)):=(qL hfb _).1
 generalize htf:tf.set bb (.cells (Tr.ofList [v4]) 1 none)=tf1 at h1 htf1
 have hg1:tf1.get bb=some (.cells (Tr.ofList [v4]) 1 none):=by rw[<- htf,Tr.get_set,yab rfl]
 generalize t.set bb (.cells (Tr.ofList [v4]) 1 none)=t1 at h1
 refine⟨Nat.le_add_right _ _,fun l r hl0 hlb hr1 hr2 hy=>?_⟩
 have hra:Bj (kR yA) (.func (.func 159) [] [.ptr bb 0]) l=some (159,[.func (.yld l) [] [],.ptr bb 0]):=by
  unfold Bj;simp only[zA.asFunc,qA];have:kR yA 159=true:=by kernel_rfl
  rw[this];rfl
 rw[hra,sA];have h2:=(hS _).both h1 hl0 (.loop r)
 have hfl:=Ql ((hS _).le h1) hl0
 have hlr:eO true r=r:=by
  obtain⟨a,b,c,d,e,f,g,h,i⟩:=r
  have hr1:a=.ready:=hr1
  have hr2:b=none:=hr2
  subst hr1;subst hr2;rfl
 have hle2:aA tf1 (tf1.set l (.loop r)):=(qL hfl _).1
 rw[show Wq yA F vC 159=Wc yA F 159 by funext a m R;rw[q159]]
 refine XJ (l:=ps) (v:=v4) (I:=fun k t'=>S k (tf1.set l (.loop r)) t') (by omega) ?_ ?_ ?_ h2
 ·intro k t' hI
  have hle:=(hS _).le hI
  have hg:t'.get bb=some (.cells (Tr.ofList [v4]) 1 none):=hle _ _ (hle2 _ _ hg1)
  refine⟨?_,hp.mono (htf1.trans (hle2.trans hle))⟩
  exact(yD.load1 (cs:=[v4]) (lo:=none) ⟨Tr.ofList [v4],hg,fun j a hj=>by grind [Tr.get_ofList]⟩ ty41 rfl (j:=0) rfl)
 ·intro k x t' hx hI R hR
  show vE (some (yo+l,[zA.int .u16 (x:Int)])) _
  rw[sA];refine hy [.int .u16 (x:Int)] t' R rfl ((hS _).le hI _ _ (by rw[Tr.get_set,yab rfl])) ?_
  refine body k x tf1 _ _ hx ((hS _).out hfl hI) fun t2 h3 hn2=>⟨true,rfl,?_⟩
  rw[hlr];exact hR _ ((hS _).both h3 hn2 (.loop r))
 ·intro t' hI
  exact .inl ⟨(hS _).le hI _ _ (by rw[Tr.get_set,yab rfl]),fin tf1 _ htf1 ((hS _).out hfl hI)⟩
def or16{y:Nat}(hx:x<281474976710656)(hy:y<65536):kI Nat.lor .u64 ((x*65536:Nat):Int) (y:Int)=some (.int .u64 ((x*65536+y:Nat):Int)):=by
 have h:=Dr (a:=x) (b:=y) (n:=16) hy
 have e:(2:Nat)^16=65536:=by decide
 rw[e]at h;rw[mU (k:=.u64) (show x*65536<cG .u64 by show _<18446744073709551616;omega) (show y<cG .u64 by show _<18446744073709551616;omega),h]
def zcl{bx y:Nat}{Q1:sB}(h:bU bx (.int .u64 (y:Int)) tf t)(hy:y<281474976710656)(hx:x<65536)(hQ:∀t',bU bx (.int .u64 ((y*65536+x:Nat):Int)) tf t'->Q1 (.bool true) t'):jp 128 2 [.ptr bx 0,.int .u16 (x:Int)] t Q1:=by
 obtain⟨i1,i2,i3,i4⟩:=h
 have e5:(y:Int)*65536=((y*65536:Nat):Int):=by omega
 have e6:kI Nat.lor .u64 (cA .u64 ((y:Int)*65536)) (cA .u64 (x:Int))=some (.int .u64 ((y*65536+x:Nat):Int)):=by
  rw[e5,eF (by omega) (by omega),eF (by omega) (by omega),or16 hy hx]
 refine j128_2 ?_
 unfold zef uE;refine sC (i4.load1 yQ rfl (j:=0) rfl) (pB ?_)
 refine iA e6 (pB (lC fun b3 _ _=>?_))
 obtain⟨t3,k1,k2,k3⟩:=i4.store1 (v:=.int .u64 ((y*65536+x:Nat):Int)) i1 yQ rfl rfl rfl (j:=0) (by simp)
 exact⟨_,_,k1 b3,hQ _ ⟨i1,i2,i3.off i2 k3,k2⟩⟩
def int128{n:Nat} (hv:bA t 1 (eD (aB n)) v)(hl:(aB n).length<=1000):wC yA F 128 [.agg [.bool false,v]] t=some (.tup [.int .i64 (if n<9223372036854775808 then(n:Int)else 0),.int .i64 (if n<9223372036854775808 then 0 else 3)]):=by
 have hvl:=bA.len (l:=eD (aB n)) hv
 rw[qT]at hvl;have hlt:=dW n
 have hval:=qX n
 refine Bk (w128 ?_)
 unfold t128 uB uI;refine yB ?_
 rw[q123,Gi (by omega) hv,sA,De (by omega)]
 refine cD (qB (by simp) (iA hvl (pB ?_)))
 by_cases h4:4<(aB n).length
 ·have hbig:¬ n<9223372036854775808:=fun h=>by
   have:=Yq (n:=n) (k:=4) (by rw[show(65536:Nat)^4=18446744073709551616 by decide];omega)
   omega
  refine rA (by rw[fC];exact decide_eq_true (by omega)) ⟨?_,aA.refl _⟩
  rw[yaa hbig,yaa hbig]
 ·have hn64:n<18446744073709551616:=by
   have:=vP (B:=65536) (by omega) hlt
   rw[hval]at this;have h2:65536^(aB n).length<=65536^4:=yao (by omega) (by omega)
   rw[show(65536:Nat)^4=18446744073709551616 by decide]at h2
   omega
  refine qB (by rw[fC];simp;omega) (lC fun bx hbx hbase=>?_)
  obtain⟨t1,e1,e2,e3,e4⟩:=rS (C:=yA) yQ hbx
  refine⟨_,_,e1,lC fun b2 _ _=>?_⟩
  obtain⟨t2,g1,g2,g3⟩:=e2.store1 (v:=.int .u64 0) hbase yQ rfl rfl rfl (j:=0) (by simp)
  refine⟨_,_,g1 b2,?_⟩
  have hS0:bU bx (.int .u64 ((val 65536 ((aB n).drop (aB n).length):Nat):Int)) t t2:=by
   rw[List.drop_length];exact⟨hbase,hbx,(aA.refl t).off hbx e4 |>.off hbx g3,g2⟩
  refine RV (S:=fun k tf t=>bU bx (.int .u64 ((val 65536 ((aB n).drop k):Nat):Int)) tf t) (fun k=>bU.framed) hv (by omega) hS0 (fun k x tf t Q1 hx hI hR=>?_) (fun tf' t' hle hI=>?_)
  ·have hk:=(ybc.1 hx).1
   have hdrop:(aB n).drop k=x::(aB n).drop (k+1):=fQ hx
   have hd1:val 65536 ((aB n).drop (k+1))<281474976710656:=by
    have h1:=vP (B:=65536) (by omega) (AX hlt (k+1))
    have h2:65536^((aB n).drop (k+1)).length<=65536^3:=yao (by omega) (by rw[ydj];omega)
    rw[show(65536:Nat)^3=281474976710656 by decide]at h2
    omega
   have hx16:x<65536:=hlt x (ycv hx)
   refine zcl hI hd1 hx16 fun t' h'=>hR t' ?_
   have:val 65536 ((aB n).drop k)=val 65536 ((aB n).drop (k+1))*65536+x:=by rw[hdrop,val];omega
   rw[this];exact h'
  ·obtain⟨i1,i2,i3,i4⟩:=hI
   rw[ycr,hval]at i4;unfold uE;refine qB (by simp) (sC (i4.load1 yQ rfl (j:=0) rfl) (pB ?_))
   by_cases h63:n<9223372036854775808
   ·rw[yab h63,yab h63]
    refine qB (by rw[bR];simp;omega) (sC (i4.load1 yQ rfl (j:=0) rfl) (pB ⟨?_,hle.trans i3⟩))
    have:uW (n:Int)=(n:Int):=iC (by omega) (by omega)
    rw[this]
   ·rw[yaa h63,yaa h63]
    exact rA (by rw[bR];exact decide_eq_true (by omega)) ⟨rfl,hle.trans i3⟩
def GO (h:oH s=false):qN s=s:=by
 unfold oH at h;unfold qN uD;induction s with
 | nil=>rfl
 | cons b s ih=>
  rw[List.contains_cons]at h;simp only[yal,beq_eq_false_iff_ne]at h;have hd:decide (b≠47)=true:=decide_eq_true fun e:b=47=>h.1 e.symm
  rw[List.takeWhile_cons,hd,yab rfl,ih h.2]
def XZ:∀s:List Nat,Af [47] s=if oH s=true then some (qN s,zO s)else none:=by
 intro s;induction s with
 | nil=>rfl
 | cons b s ih=>
  have e:rU [47] (b::s)=Nat.beq 47 b:=by
   show(bif Nat.beq 47 b then rU [] s else false)=_
   have:rU [] s=true:=by cases s<;>rfl
   rw[this]
   cases Nat.beq 47 b<;>rfl
  unfold Af;rw[e,ih];unfold oH zO qN uD;rw[List.contains_cons]
  cases hb:Nat.beq 47 b with
  | true=>
   have:=mC.1 hb
   subst this;rw[cond_true,List.takeWhile_cons];simp[mP,oD]
  | false=>
   have hne:¬ 47=b:=fun e=>by rw[e,Nat.beq_refl]at hb;cases hb
   have hd:decide (b≠47)=true:=decide_eq_true fun e:b=47=>hne e.symm
   rw[cond_false,List.takeWhile_cons,hd,yab rfl];have:(47 == b)=false:=by simp[hne]
   rw[this,Bool.false_or];split
   ·simp
   ·rfl
def AE (h:∀b∈s,nD b=true)(hl:s.length<=200):(aB (rD s)).length<=200:=by
 have h1:=Fi h
 have h2:10^s.length<=65536^s.length:=Nat.pow_le_pow_left (by omega) _
 have:=Yq (n:=rD s) (k:=s.length) (by omega)
 omega
def intPv  {lo hi:Int}(h:lR s)(hs:oH s=false)(hlo : -4294967296<=lo)(hhi:hi<=4294967296):∃i:Int,wC yA F 102 [.str s,.bool neg,.int .i64 lo,.int .i64 hi] t=some (.tup [.int .i64 i,.bool (kL s neg lo hi).isSome])/\∀j,kL s neg lo hi=some j->i=j:=by
 obtain⟨h1,h2,h3,h4,_⟩:=h
 rw[GO hs]at h2 h3 h4;have hlen:=AE h2 h1
 generalize hn:rD s=n at hlen
 have core:∀R:sB,(∀t',aA t t'->n<9223372036854775808->jp 102 15 [.int .i64 lo,.int .i64 hi,.int .i64 (if neg then -(n:Int)else n)] t' R)->(∀t',aA t t'->¬ n<9223372036854775808->R (.tup [.int .i64 0,.bool false]) t')->Wc yA F 102 [.str s,.bool neg,.int .i64 lo,.int .i64 hi] t R:=by
  intro R k1 k2;refine w102 ?_
  unfold t102 uG uI;refine yB ?_
  rw[q99];refine Xe h2 h3 h4 h1 fun t' u hle hu=>?_
  rw[hn]at hu;refine iA rfl (aC (yO hu) (iA rfl (pB (rA (cL hu.one) (yB ?_)))))
  rw[q128];show vE (wC yA F 128 [.agg [.bool false,u]] t') _
  rw[int128 hu (by omega),sA]
  refine iA rfl (pB (iA rfl (pB ?_)))
  by_cases h63:n<9223372036854775808
  ·rw[yab h63,yab h63]
   refine qB (by decide) ?_
   have:=k1 t' hle h63
   cases neg with
   | true=>
    refine rA rfl (jC ?_)
    have e:uW (0-(n:Int)) = -(n:Int):=by
     show cA .i64 (0-(n:Int))=_
     rw[iC (by omega) (by omega)];omega
    rw[e];exact this
   | false=>exact qB (by simp) (jC this)
  ·rw[yaa h63,yaa h63]
   exact rA (by decide) (k2 t' hle h63)
 by_cases h63:n<9223372036854775808
 ·refine⟨if neg then -(n:Int)else n,Bk (core _ (fun t' hle _=>?_) fun t' _ hh=>absurd h63 hh),fun j hj=>?_⟩
  ·refine zis ?_
   unfold DE;unfold kL;rw[hn];generalize (if neg then -(n:Int)else n)=m
   show wp 102 _ t' _
   by_cases hl:lo<=m
   ·refine rA (by rw[bR];exact decide_eq_true hl) ⟨?_,hle⟩
    by_cases hh:m<=hi
    ·simp[hl,hh,bR]
    ·simp[hl,hh,bR]
   ·refine qB (by rw[bR];simp;omega) ⟨?_,hle⟩
    simp[hl]
  ·unfold kL at hj
   rw[hn]at hj;generalize (if neg=true then -(n:Int)else(n:Int))=m at hj ⊢
   have hj:(if lo<=m/\m<=hi then some m else none)=some j:=hj
   split at hj
   ·exact yci hj
   ·cases hj
 ·have hno:kL s neg lo hi=none:=by
   unfold kL;rw[hn];simp only
   rw[yaa]
   cases neg with
   | true=>simp only[if_true];omega
   | false=>simp only[ybq,if_false];omega
  rw[hno];exact⟨0,Bk (core _ (fun t' _ hh=>absurd hh h63) fun t' hle _=>⟨rfl,hle⟩),fun j hj=>by cases hj⟩
def fracPv   (h:lR s)(hQ:∀t' cs,aA t t'->RD t' (vI s neg).dd cs->Q (.agg cs) t'):Wc yA F 74 [.str s,.bool neg] t Q:=by
 obtain⟨h1,h2,h3,h4,h5⟩:=h
 have la:(qN s).length<=s.length:=by unfold qN uD;exact(List.takeWhile_sublist _).length_le
 have main:∀b:List Nat,(∀x∈b,nD x=true)->b≠[]->oR b=false->b.length<=200->0<rD b->vI s neg=eM neg (rD (qN s)) (rD b)->jp 74 9 [.bool neg,.str (qN s),.str b,.bool false,.nilslice,.bool false,.nilslice] t Q:=by
  intro b b1 b2 b3 b4 b5 hf;refine j74_9 ?_
  unfold t74_9 uG uI;refine yB ?_
  rw[q99];refine Xe h2 h3 h4 (by omega) fun t1 u k1 k2=>?_
  refine iA rfl (aC (yO k2) (iA rfl (pB (rA (cL k2.one) (yB ?_)))))
  rw[q99];refine Xe b1 b2 b3 b4 fun t2 v m1 m2=>?_
  refine iA rfl (aC (yO m2) (iA rfl (pB (rA (cL m2.one) (yB ?_)))))
  rw[q100];have l1:=AE h2 (by omega)
  have l2:=AE b1 b4
  refine zhx (k2.mono m1) m2 l1 l2 b5 fun t3 cs p1 p2=>?_
  obtain⟨u3,v3,rfl,hu3,hv3⟩:=rd_frac p2
  refine iA rfl (aC (agF hu3 hv3) (iA rfl (pB (rA p2.all ?_))))
  cases neg with
  | true=>
   refine rA rfl (yB ?_)
   rw[q101];refine neg_ok p2 l1 l2 b5 fun t4 cs4 r1 r2=>?_
   obtain⟨u4,v4,rfl,hu4,hv4⟩:=rd_frac r2
   refine iA rfl (aC (agF hu4 hv4) (iA rfl (pB (rA r2.all (rA r2.all ?_)))))
   refine hQ t4 _ (k1.trans (m1.trans (p1.trans r1))) ?_
   rw[hf];exact r2
  | false=>
   refine qB (by simp) (rA p2.all ?_)
   refine hQ t3 _ (k1.trans (m1.trans p1)) ?_
   rw[hf];exact p2
 refine w74 ?_
 unfold t74 uS uB;refine yB ?_
 have hg:yA.prims.get 98=some (lO pCut):=by kernel_rfl
 have hcut:wC yA F 98 [.str s,.str [47]] t=some (.tup [.str (if oH s=true then qN s else s),.str (if oH s=true then zO s else []),.bool (oH s)]):=by
  refine Kx hg fun H=>?_
  show xB (Nat.blt (zB s) 4294967281) _=_
  rw[oD,qC.2 (by omega),yE,XZ]
  cases oH s<;>rfl
 rw[q98,hcut,sA];refine iA rfl (dF (iA rfl (dF (iA rfl (cD ?_)))))
 cases hs:oH s with
 | true=>
  obtain⟨c1,c2,c3,c4⟩:=h5 hs
  refine qB (by simp) (jC ?_)
  simp only[if_true];have lb:(zO s).length<=s.length:=by unfold zO;rw[ydj];omega
  refine main (zO s) c2 c1 c3 (by omega) (zc4 c2 c1 fun e=>?_) (by unfold vI;rw[hs];rfl)
  unfold oR at c3;rw[e]at c3;simp at c3;have:(zO s).length=1:=by have:=List.length_pos_iff.2 c1;omega
  match hb:zO s with
  | []=>exact c1 hb
  | [x]=>rw[hb]at e;cases e;exact c4 hb
  | x::y::r=>rw[hb]at this;simp at this
 | false=>
  refine rA rfl (jC ?_)
  simp only[ybq,if_false];have:=main [49] (by decide) (by simp) (by decide) (by simp) (by decide) (by unfold vI;rw[hs];rfl)
  rwa [GO hs]at this
end
end
end Go.Proofs
