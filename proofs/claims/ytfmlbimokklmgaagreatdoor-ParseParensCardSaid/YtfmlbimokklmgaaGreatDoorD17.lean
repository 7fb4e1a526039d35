/- Whole numbers out of texts: times a word. -/
import Derived.Test.YtfmlbimokklmgaaGreatDoorD16
set_option linter.all false
noncomputable section
set_option maxRecDepth 100000
namespace Go.Proofs
open Go Go.Am
variable {a3 b cap k:Nat}{l row:List Nat}
variable [yD]
def el189:Jr yA 189 56 1:=⟨⟨_,aM,rfl,rfl⟩,⟨_,yI,rfl,rfl,by decide,by decide⟩⟩
def zQ (l:List Nat):List zA:=l.map fun(n:Nat)=>zA.int .u32 (n:Int)
def CL(l:List Nat):(zQ l).length=l.length:=by simp[zQ]
theorem vD.words{t:Tr uA}{n:Nat} (h:vD t b none (zQ l))(hn:n<=l.length)(hc:n<=cap):xB t 1 (sC .u32 (l.take n)) (.slice b 0 n cap):=by
 obtain⟨c,h1,h2⟩:=h
 refine⟨(l.take n).map fun(x:Nat)=>[zA.int .u32 (x:Int)],.inr ⟨b,0,cap,?_,by simp;omega,⟨c,_,_,h1,.inl rfl⟩,fun i cs hi=>?_⟩,?_⟩
 ·simp;omega
 ·rw[ybu]at hi
  cases hx:(l.take n)[i]? with
  | none=>rw[hx]at hi;cases hi
  | some x=>
   rw[hx]at hi;cases hi;refine⟨rfl,c,_,_,h1,fun j a hj=>?_⟩
   match j,hj with
   | 0,hj=>
    cases hj;rw[show 0+i*1+0=i by omega];refine h2 i _ ?_
    have:=(ybc.1 hx).1
    rw[ydf]at hx;unfold zQ;rw[ybu];grind
 ·induction l.take n with
  | nil=>exact cF.2 rfl
  | cons x r ih=>exact rD.2 ⟨_,_,rfl,sL.2 rfl,ih⟩
def vD.le{tf t:Tr uA} {lo:Option Lo}{cs:List zA}(h:vD tf b lo cs)(hl:yB tf t):vD t b lo cs:=by
 obtain⟨c,h1,h2⟩:=h
 exact⟨c,hl _ _ h1,h2⟩
def mU{base:Nat}{W J:qF}{t:Tr uA}{Q:jB}{f:zA}{args:List zA}{K:zA->T}{g:Nat}{a:List zA}(h:qM f args=some (g,a))(k:W g a t (fun v t'=>qA base W J (K v) t' Q)):qA base W J (.callv f args K) t Q:=by
 show qE (qM f args) _
 rw[h];exact k
section
variable {t t0:Tr uA}{Q:jB}
abbrev De(a3 b a1 a0:Nat)(row:List Nat)(k cap:Nat)(c:Nat):List aE:=[xC a3 none [.slice b 0 k cap],xC b none (zQ row),xC a1 none [.int .u64 (c:Int)],xC a0 none [.ptr a3 0]]
def zgy{a1 a0 c s:Nat} (h:zB yA.base t0 t (De a3 b a1 a0 row k cap c))(hk:k<cap)(hcap:cap=row.length)(hs:s+c<18446744073709551616)
  (hQ:∀t',zB yA.base t0 t' (De a3 b a1 a0 (row.set k ((s+c)%4294967296)) (k+1) cap ((s+c) / 4294967296))->Q (.tup []) t'):Wc yA F 154 [.int .u64 (s:Int),.ptr a1 0,.ptr a0 0] t Q:=by
 have l1:∀ {t},zB yA.base t0 t (De a3 b a1 a0 row k cap c)->fA yA 207 ⟨0,t⟩ (.ptr a1 0)=some (.int .u64 (c:Int)):=fun h=>(zB.cel (A:=[_,_]) h).load1 cQ rfl rfl
 have l2:∀ {t},zB yA.base t0 t (De a3 b a1 a0 row k cap c)->fA yA 206 ⟨0,t⟩ (.ptr a0 0)=some (.ptr a3 0):=fun h=>(zB.cel (A:=[_,_,_]) h).load1 ty206 rfl rfl
 have l3:∀ {t},zB yA.base t0 t (De a3 b a1 a0 row k cap c)->fA yA 189 ⟨0,t⟩ (.ptr a3 0)=some (.slice b 0 k cap):=fun h=>(zB.cel (A:=[]) h).load1 aM rfl rfl
 have nl:∀b o,kF (.ptr b o)=some (.ptr b o):=fun _ _=>rfl
 refine w154 ?_
 unfold t154 uE;have e1:bA .u64 ((s:Int)+(c:Int))=((s+c:Nat):Int):=by rw[zG (by omega) (by omega)];omega
 have e2:bA .u32 ((s+c:Nat):Int)=(((s+c)%4294967296:Nat):Int):=by rw[sU];omega
 have e3:Int.fdiv ((s+c:Nat):Int) 4294967296=(((s+c) / 4294967296:Nat):Int):=by rw[Int.fdiv_eq_ediv_of_nonneg _ (by omega)];omega
 refine vC (l1 h) (kB ?_)
 rw[e1,e2,e3];refine vC (l2 h) (vC (l2 h) (mA (nl _ _) (vC (l3 h) (bC fun n hn hnb=>?_))))
 obtain⟨t1,g1,g2,g3,g4⟩:=Ff (C:=yA) (T:=189) (ps:=[(0,.int .u32 (((s+c)%4294967296:Nat):Int))]) (cl:=[[.int .u32 (((s+c)%4294967296:Nat):Int)]]) (n:=1) (sz:=1) aM rfl yI rfl rfl (by omega) (by
   have e:gI [zA.int .u32 0] 1=[.int .u32 0]:=rfl
   show tM _ _ (gI [zA.int .u32 0] 1)=_
   rw[e];rfl) (by intro i cs hi;match i,hi with | 0,hi=>cases hi;rfl) rfl hn
 have h1:=h.junk hn g4
 have sm:∀b o,same 10 (.ptr b o) (.ptr b o)=true:=fun b o=>by simp[same,Nat.beq_refl]
 refine⟨_,_,g1,vC (l2 h1) (rA (sm _ _) (vC (l2 h1) (rA (sm _ _) (vC (l3 h1) (rA ES (bC fun n2 _ _=>?_))))))⟩
 have hlow:=h1.low b (by simp[xC])
 obtain⟨t2,k1,k2,k3⟩:=ZP (C:=yA) (n:=n2) (k:=k) (m:=1) (cap:=cap) el189 (zB.cel (A:=[_]) h1) hlow.1 g2 rfl (by omega) (by omega) (by rw[CL];omega) (by intro a ha;simp at ha;subst ha;rfl)
 have e4:fJ (zQ row) k [[zA.int .u32 (((s+c)%4294967296:Nat):Int)]].flatten=zQ (row.set k ((s+c)%4294967296)):=by
  apply List.ext_getElem?
  intro i;have q1:(zQ (row.set k ((s+c)%4294967296)))[i]?=((row.set k ((s+c)%4294967296))[i]?).map fun(n:Nat)=>zA.int .u32 (n:Int):=ybu
  have q2:(zQ row)[i]?=(row[i]?).map fun(n:Nat)=>zA.int .u32 (n:Int):=ybu
  rw[Ev (by rw[CL];show k+1<=_;omega),q1,q2,ycw]
  show(if k<=i/\i<k+1 then [zA.int .u32 (((s+c)%4294967296:Nat):Int)][i-k]? else _)=_
  by_cases hi:i=k
  ·subst hi
   rw[yab ⟨ybk _,by omega⟩,yab rfl,yab (by omega),Nat.sub_self];rfl
  ·rw[yaa (by omega),yaa (fun e=>hi e.symm)]
 rw[e4]at k2;have h2:zB yA.base t0 t2 (De a3 b a1 a0 (row.set k ((s+c)%4294967296)) k cap c):=zB.upd (A:=[_]) (o:=xC b none (zQ row)) h1 (fun q hq _=>k3 q (fun e=>hq (by simp[xC,e]))) (fun q hq=>.inl hq) k2 (by simp[xC]) (h1.tle.off hlow.2 k3)
 refine⟨_,_,k1,?_⟩
 have l2':fA yA 206 ⟨0,t2⟩ (.ptr a0 0)=some (.ptr a3 0):=(zB.cel (A:=[_,_,_]) h2).load1 ty206 rfl rfl
 refine vC l2' (rA (sm _ _) (mA (nl _ _) (bC fun n3 _ _=>?_)))
 obtain⟨t3,m1,m2⟩:=zB.setCel (A:=[]) (j:=0) (v:=.slice b 0 (k+1) cap) h2 aM rfl (by show 0+1<=1;omega) rfl
 refine⟨_,_,m1 n3,bC fun n4 _ _=>?_⟩
 obtain⟨t4,p1,p2⟩:=zB.setCel (A:=[_,_]) (j:=0) (v:=.int .u64 (((s+c) / 4294967296:Nat):Int)) m2 cQ rfl (by show 0+1<=1;omega) rfl
 exact⟨_,_,p1 n4,hQ t4 p2⟩
def YH  (h:zB yA.base t0 t [xC a3 none [.slice b 0 k cap],xC b none (zQ row)])(hQ:∀t' a1 a0,zB yA.base t0 t' (De a3 b a1 a0 row k cap 0)->Q (.func (.func 154) [] [.ptr a1 0,.ptr a0 0]) t'):Wc yA F 139 [.ptr a3 0] t Q:=by
 refine w139 ?_
 unfold t139;refine bC fun a0 h0 hb0=>?_
 obtain⟨t1,e1,e2,e3,e4⟩:=Tf (v:=.ptr a3 0) h0
 have o1:=zB.newCel (A:=[_,_]) (B:=[]) h h0 hb0 e2 e3 e4
 refine⟨_,_,e1,bC fun a1 h1 hb1=>?_⟩
 obtain⟨t2,f1,f2,f3,f4⟩:=aS (C:=yA) cQ h1
 have o2:=zB.newCel (A:=[_,_]) (B:=[_]) o1 h1 hb1 f2 f3 f4
 refine⟨_,_,f1,bC fun n _ _=>?_⟩
 obtain⟨t3,m1,m2⟩:=zB.setCel (A:=[_,_]) (j:=0) (v:=.int .u64 0) o2 cQ rfl (by show 0+1<=1;omega) rfl
 exact⟨_,_,m1 n,hQ t3 a1 a0 m2⟩
theorem zb3 {v:zA}{f p:Nat}(hv:xB t 1 (sC .u32 l) v)(hl:l.length<100000)(hlt:fB 4294967296 l)(hf:f<4294967296)(hp:p<4294967296)
  (hQ:∀t' r rv,yB t t'->xB t' 1 (sC .u32 r) rv->fB 4294967296 r->norm r->val 4294967296 r=val 4294967296 l*f+p->r.length<=l.length+1->Q rv t'):Wc yA F 121 [v,.int .u32 (f:Int),.int .u32 (p:Int)] t Q:=by
 have hlen:=hv.len
 rw[bH]at hlen;have ho:zB yA.base t t []:=⟨yB.refl _,by simp,by simp,by simp⟩
 refine w121 ?_
 unfold t121 uI;have e0:kD (l.length:Int)=.int .i64 ((l.length+1:Nat):Int):=by
  show zA.int .i64 (bA .i64 ((l.length:Int)+1))=_
  rw[aC (by omega) (by omega)];rfl
 refine mA hlen (kB (bC fun b hb hbb=>?_))
 rw[e0];obtain⟨t1,g1,g2,g3,g4⟩:=VS (C:=yA) (T:=189) (el:=56) (k:=.u32) (cap:=l.length+1) aM rfl yI rfl rfl (by decide) (by omega) hb
 have hrow:List.replicate (l.length+1) (zA.int .u32 0)=zQ (List.replicate (l.length+1) 0):=by
  unfold zQ;rw[List.map_replicate];rfl
 rw[hrow]at g2;have o1:=zB.newCel (A:=[]) (B:=[]) ho hb hbb g2 g3 g4
 refine⟨_,_,g1,bC fun a3 h3 hb3=>?_⟩
 obtain⟨t2,f1,f2,f3,f4⟩:=aS (C:=yA) aM h3
 have o2:=zB.newCel (A:=[]) (B:=[_]) o1 h3 hb3 f2 f3 f4
 refine⟨_,_,f1,bC fun n _ _=>?_⟩
 obtain⟨t3,m1,m2⟩:=zB.setCel (A:=[]) (j:=0) (v:=.slice b 0 0 (l.length+1)) o2 aM rfl (by show 0+1<=1;omega) rfl
 refine⟨_,_,m1 n,tB ?_⟩
 rw[q139];refine YH m2 fun t4 a1 a0 o4=>?_
 have e5:bA .u64 (p:Int)=(p:Int):=zG (by omega) (by omega)
 refine mA hlen (kB (zD ?_))
 rw[e5];have hfn:∀s:Int,qM (.func (.func 154) [] [.ptr a1 0,.ptr a0 0]) [.int .u64 s]=some (154,[.int .u64 s,.ptr a1 0,.ptr a0 0]):=fun s=>rfl
 have loop:∀(k i x c:Nat) (row:List Nat) (t5:Tr uA),i+k=l.length->row.length=l.length+1->fB 4294967296 (row.take i)->x+c<4294967296->val 4294967296 (row.take i)+4294967296^i*(x+c)=val 4294967296 (l.take i)*f+p →
   zB yA.base t t5 (De a3 b a1 a0 row i (l.length+1) c)->jp 121 2 [.int .u32 (f:Int),.ptr a3 0,.func (.func 154) [] [.ptr a1 0,.ptr a0 0],.int .u64 (x:Int),v,.int .i64 (l.length:Int),.int .i64 (i:Int)] t5 Q:=by
  intro k;induction k with
  | zero=>
   intro i x c row t5 hi hrl hra hxc hval o5;have hi:i=l.length:=by omega
   subst hi;refine zgm ?_
   unfold Vu;refine oB (by simp[fC]) (mU (hfn _) ?_)
   rw[q154];refine zgy o5 (by omega) hrl.symm (by omega) fun t6 o6=>?_
   have hd0:(x+c) / 4294967296=0:=Nat.div_eq_of_lt hxc
   have hm0:(x+c)%4294967296=x+c:=Nat.mod_eq_of_lt hxc
   rw[hm0]at o6;have lv:fA yA 189 ⟨0,t6⟩ (.ptr a3 0)=some (.slice b 0 (l.length+1) (l.length+1)):=(zB.cel (A:=[]) o6).load1 aM rfl rfl
   refine vC lv (tB ?_)
   obtain⟨c0,y1,y2⟩:=zB.cel (A:=[_]) o6
   have od:=zB.drop (A:=[_]) o6
   have hni:=zB.notin (A:=[_]) (o:=xC b none (zQ (row.set l.length (x+c)))) o6 (k:=b) (by simp[xC])
   obtain⟨r1,r2⟩:=od.froze hni y1 (o6.low b (by simp[xC])).2
   have hw:vD (t.set b (.cells c0 (zQ (row.set l.length (x+c))).length none)) b none (zQ (row.set l.length (x+c))):=⟨c0,by rw[Tr.get_set,yab rfl],y2⟩
   have hR:=vD.words (vD.le hw r1.tle) (n:=l.length+1) (cap:=l.length+1) (by simp[hrl]) (ybk _)
   have hrow:(row.set l.length (x+c)).take (l.length+1)=row.take l.length++[x+c]:=by
    rw[bQ (x:=x+c) (by rw[ycw];simp[hrl])]
    rw[List.take_set_of_le (ybk _)]
   rw[hrow]at hR;obtain⟨v',h1,h2⟩:=Bs (by simp;omega) hR
   rw[Et,h1,iA];have hlen2:(row.take l.length).length=l.length:=by rw[yda];omega
   refine hQ t6 _ _ (r2.trans r1.tle) h2 (xU (bY hra hxc)) (rW _) ?_ ?_
   ·rw[iV,sO,hlen2,hval,List.take_length]
   ·have:=Kw (row.take l.length++[x+c])
    rw[ybg,hlen2]at this;simpa using this
  | succ k ih=>
   intro i x c row t5 hi hrl hra hxc hval o5;have hx:l[i]?=some l[i]:=ybd (by omega)
   refine zgm ?_
   unfold Vu uL;obtain⟨b',o',cs,h1,h2,_,_,h3⟩:=zH.at (fun _=>rfl) (hv.mono o5.tle) (MP hx)
   have e:=sL.1 h3
   subst e;have hw:l[i]<4294967296:=hlt _ (ycj _)
   have hm:l[i]*f<=4294967295*4294967295:=ydb (by omega) (by omega)
   have e1:bA .u64 (bA .u64 (bA .u64 (l[i]:Int)*bA .u64 (f:Int))+(x:Int))=((l[i]*f+x:Nat):Int):=by
    rw[zG (n:=(l[i]:Int)) (by omega) (by omega),zG (n:=(f:Int)) (by omega) (by omega),<- Int.natCast_mul,zG (n:=((l[i]*f:Nat):Int)) (by omega) (by omega),zG (by omega) (by omega)]
    omega
   refine rA (by rw[fC];exact decide_eq_true (by omega)) (mA h1 (vC h2 (kB ?_)))
   rw[e1];refine mU (hfn _) ?_
   rw[q154];refine zgy o5 (by omega) hrl.symm (by omega) fun t6 o6=>?_
   have e2:kD (i:Int)=.int .i64 ((i+1:Nat):Int):=by
    show zA.int .i64 (bA .i64 ((i:Int)+1))=_
    rw[aC (by omega) (by omega)];rfl
   refine zD ?_
   rw[e2];have hrow:(row.set i ((l[i]*f+x+c)%4294967296)).take (i+1)=row.take i++[(l[i]*f+x+c)%4294967296]:=by
    rw[bQ (x:=(l[i]*f+x+c)%4294967296) (by rw[ycw];simp;omega)]
    rw[List.take_set_of_le (ybk _)]
   have hlen2:(row.take i).length=i:=by rw[yda];omega
   refine ih (i+1) 0 ((l[i]*f+x+c) / 4294967296) _ t6 (by omega) (by simp[hrl]) ?_ (by omega) ?_ o6
   ·rw[hrow];exact bY hra (by omega)
   ·rw[hrow,sO,hlen2,bQ hx,sO,yda,Nat.min_eq_left (by omega),ybo,yag,ybw]
    have key:4294967296*((l[i]*f+x+c) / 4294967296)+(l[i]*f+x+c)%4294967296=l[i]*f+x+c:=ych _ _
    calc val 4294967296 (row.take i)+4294967296^i*((l[i]*f+x+c)%4294967296)+4294967296^i*4294967296*((l[i]*f+x+c) / 4294967296)
      = val 4294967296 (row.take i)+4294967296^i*(4294967296*((l[i]*f+x+c) / 4294967296)+(l[i]*f+x+c)%4294967296):=by grind
     _=(val 4294967296 (row.take i)+4294967296^i*(x+c))+4294967296^i*(l[i]*f):=by rw[key];grind
     _=_:=by rw[hval];grind
 refine loop l.length 0 p 0 _ t4 (by omega) (by simp) (fun x hx=>by simp at hx) (by omega) (by simp[val]) o4
end
end Go.Proofs
namespace Go.Am
open Go Go.RowKit
inductive E where
 | pl (d:D)
 | sl (sz:Nat) (l:List E) (m:List D)
 | st (l:List E)
section
variable {t t' tf:Tr uA}{C:cA}
end
end Go.Am
namespace Go.Am
open Go Go.RowKit
variable {u v:zA}
def limbMs:List D:=(List.range 12).map fun i=>D.int .u16 (((8000024+i)%65536:Nat):Int)
def lK.e(w:lK):E:=.st [.pl (.bool w.neg),.sl 1 ((rE w.limbs).map E.pl) limbMs]
section
variable {t:Tr uA}
theorem Cn{w:lK} (hu:xB t 1 (rE w.limbs) u):RD t w.d [.bool w.neg,u]:=by
 unfold lK.d;rw[vK];refine⟨[[.bool w.neg],[u]],rfl,?_⟩
 grind [rD,cF,Bj,jQ]
theorem Ib{f:mI} (hu:xB t 1 (rE f.n.limbs) u)(hv:xB t 1 (rE f.d.limbs) v):RD t f.dd [.bool f.n.neg,u,.bool f.d.neg,v]:=by
 unfold mI.dd;rw[vK];refine⟨[[.bool f.n.neg,u],[.bool f.d.neg,v]],rfl,?_⟩
 grind [rD,Cn,cF]
theorem Md{x:fG} (hu:xB t 1 (rE x.f.n.limbs) u)(hv:xB t 1 (rE x.f.d.limbs) v):RD t x.d [.int .u8 x.kind,.bool x.f.n.neg,u,.bool x.f.d.neg,v,.int .i64 x.i]:=by
 unfold fG.d;rw[vK];refine⟨[[.int .u8 x.kind],[.bool x.f.n.neg,u,.bool x.f.d.neg,v],[.int .i64 x.i]],rfl,?_⟩
 grind [rD,sL,Ib,cF]
theorem Ic{op:Nat}{name:List Nat}{v:fG}{args:List aA}{a b c:zA}(ha:xB t 1 (rE v.f.n.limbs) a)(hb:xB t 1 (rE v.f.d.limbs) b)(hc:xB t 9 (args.map aA.d) c):RD t (aA.mk op name v args).d (Df (.mk op name v args) a b c):=by
 unfold aA.d Df;rw[vK,aA.ds_eq];refine⟨[[.int .u8 op],[.str name],[.int .u8 v.kind,.bool v.f.n.neg,a,.bool v.f.d.neg,b,.int .i64 v.i],[c]],rfl,?_⟩
 rw[rD];refine⟨_,_,rfl,rfl,?_⟩
 rw[rD];refine⟨_,_,rfl,rfl,?_⟩
 grind [rD,Md,jQ,cF]
def yQ{sz:Nat}:xB t sz [] .nilslice:=⟨[],.inl ⟨rfl,rfl⟩,cF.2 rfl⟩
end
end Go.Am
namespace Go.Proofs
open Go Go.Am
variable {b el g op sz:Nat}{y z:eD}{v:zA}{ps:List (Nat × zA)}{cl:List (List zA)}{ds:List D}{x:aA}{c cs cx:List zA}{w:List Nat}{l:List (List Nat × Nat)}
variable [yD]
section
variable {tf t:Tr uA}{C:cA}
theorem Fq {z:List zA} (hz:z.length=sz)(hv:v.cells.length=sz):tM (fun i=>some (i*sz,sz)) [(0,v)] (gI z 1)=some v.cells:=by
 have e:gI z 1=z:=by
  show yE z []=_;rw[rH,ycd]
 rw[e];have o1:sV z (0*sz) sz v=some v.cells:=by
  unfold sV;simp only[jD,hv,Nat.zero_mul,ybw,kS,rR,rH,List.take_zero,yah];rw[eC.2 rfl,kE.2 (by omega)]
  simp only[Bool.and_self,lE];rw[<- hz,List.drop_length,ycd]
 grind [tM,oA]
def litN{T n:Nat}{L:List aE}    (hT:C.tys.get T=some y)(hel:y.desc.asSlice=some el)(hz:C.tys.get el=some z)(hs:z.size=sz)(h0:wB z.zero=sz)(hn:n*sz<1000000)
  (hfill:tM (fun i=>some (i*sz,sz)) ps (gI z.zero n)=some cl.flatten) (hcl:∀(i:Nat) cs,cl[i]?=some cs->cs.length=sz) (hlen:cl.length=n) (hr:sD tf ds cl) (ho:zB C.base tf t L) (hb:t.get b=none) :
  ∃tf' t',xD C T n ps ⟨b,t⟩=some (.slice b 0 n n,⟨b+1,t'⟩)/\yB tf tf'/\zB C.base tf' t' L/\xB tf' sz ds (.slice b 0 n n):=by
 obtain⟨t',h1,h2,h3,h4⟩:=Ff hT hel hz hs h0 hn hfill hcl hlen hb
 have ho':=ho.junk hb h4
 have hfb:=ho.tfn hb
 have hg:t'.get b=some (.cells (Tr.ofList cl.flatten) (wB cl.flatten) none):=by
  have:=h1
  unfold xD at this;rw[hT,oA,hel,oA,hz,oA]at this;rw[rB,hs,hfill,oA]at this;obtain⟨_,h5⟩:=this
  have h5:=(Prod.mk.inj (yci h5)).2
  have h6:t.set b (.cells (Tr.ofList cl.flatten) (wB cl.flatten) none)=t':=(xA.mk.inj h5).2
  rw[<- h6,Tr.get_set,yab rfl]
 obtain⟨k1,k2⟩:=ho'.froze (fun hm=>ho.fresh hb hm) hg hfb
 refine⟨_,t',h1,k2,k1,cl,MG hcl (by rw[Tr.get_set,yab rfl]) (.inl rfl) hlen,sD.mono k2 _ _ hr⟩
end
def zT (x:List Nat × Nat):D:=.st [.str x.1,.int .u8 (x.2:Int)]
theorem rd_op{t:Tr uA}{x:List Nat × Nat} (h:RD t (zT x) cs):cs=[.str x.1,.int .u8 (x.2:Int)]:=by
 grind [zT,vK,rD,cF,eL,sL]
def zix{t:Tr uA}(x:List Nat × Nat):RD t (zT x) [.str x.1,.int .u8 (x.2:Int)]:=by
 unfold zT;exact vK.2 ⟨[[.str x.1],[.int .u8 (x.2:Int)]],rfl,rD.2 ⟨_,_,rfl,eL.2 rfl,rD.2 ⟨_,_,rfl,sL.2 rfl,cF.2 rfl⟩⟩⟩
def zM (tf:Tr uA)(x:aA)(v:zA):Prop:=∃cs,v=.agg cs/\RD tf x.d cs
def rdXV (tf:Tr uA)(x:fG)(v:zA):Prop:=∃cs,v=.agg cs/\RD tf x.d cs
abbrev zE:List zA:=[.int .u8 0,.str [],.int .u8 0,.bool false,.nilslice,.bool false,.nilslice,.int .i64 0,.nilslice]
abbrev zV:List zA:=[.int .u8 0,.bool false,.nilslice,.bool false,.nilslice,.int .i64 0]
abbrev cE(X:jI):List zA:=[.int .u8 (X.i 0),.str (X.s 1),.int .u8 (X.i 2),.bool (X.b 3),X.v 4,.bool (X.b 5),X.v 6,.int .i64 (X.i 7),X.v 8]
abbrev cV(X:jI):List zA:=[.int .u8 (X.i 0),.bool (X.b 1),X.v 2,.bool (X.b 3),X.v 4,.int .i64 (X.i 5)]
def Gb{tf:Tr uA}  (h:RD tf x.d cs):cE (cellsOf cs)=cs:=by
 obtain⟨a,b,c,rfl,_⟩:=wJ h
 rfl
def oN{tf:Tr uA}  (h:RD tf x.d cs):mK zE (.agg cs)=some (cellsOf cs):=nV h (aA.zs _)
def agV{tf:Tr uA}{x:fG} (h:RD tf x.d cs):mK zV (.agg cs)=some (cellsOf cs):=nV h (fG.zs _)
def Fr{tf:Tr uA}  (h:RD tf x.d cs):cs.length=9:=by
 obtain⟨a,b,c,rfl,_⟩:=wJ h
 rfl
section
variable {P:aI}{tf t:Tr uA}{n d:Nat}{Q E:jB}{J:qF}
def St.lit{T k:Nat}    (h:St P tf t n d)(hT:yA.tys.get T=some y)(hel:y.desc.asSlice=some el)(hz:yA.tys.get el=some z)(hs:z.size=sz)(h0:wB z.zero=sz)(hn:k*sz<1000000)
  (hfill:tM (fun i=>some (i*sz,sz)) ps (gI z.zero k)=some cl.flatten) (hcl:∀(i:Nat) cs,cl[i]?=some cs->cs.length=sz) (hlen:cl.length=k) (hr:sD tf ds cl) (hb:t.get b=none) :
  ∃tf' t',xD yA T k ps ⟨b,t⟩=some (.slice b 0 k k,⟨b+1,t'⟩)/\yB tf tf'/\St P tf' t' n d/\xB tf' sz ds (.slice b 0 k k):=by
 obtain⟨tf',t',h1,h2,h3,h4⟩:=litN hT hel hz hs h0 hn hfill hcl hlen hr h.ob hb
 exact⟨tf',t',h1,h2,⟨h.ts.mono h2,h3,h.len,h.le,h.good,h.glob.mono h2⟩,h4⟩
theorem Ew  (h:c.length=sz):∀(i:Nat) cs,[c][i]?=some cs->cs.length=sz:=by
 intro i cs hi;match i,hi with
 | 0,hi=>simp_all
theorem ze0 {c':List zA}(h:c.length=sz)(h':c'.length=sz):∀(i:Nat) cs,[c,c'][i]?=some cs->cs.length=sz:=by
 intro i cs hi;match i,hi with
 | 0,hi=>simp_all
 | 1,hi=>simp_all
def gP {X Y:T}(h:St P tf t n d)(k1:acc P.tk w n=true->∀t',St P tf t' (n+1) d->qA yA.base (gE yA F rC zF E) J X t' Q)(k2:acc P.tk w n=false->∀t',St P tf t' n d->qA yA.base (gE yA F rC zF E) J Y t' Q) :
  qA yA.base (gE yA F rC zF E) J (.call 72 [.ptr P.bp 0,.str w] fun a=>.asB a fun b=>.ite b X Y) t Q:=by
 refine tB ?_
 rw[pW 72];refine Dl h fun t' h'=>vE ?_
 cases ha:acc P.tk w n with
 | true=>rw[ha]at h';exact rA rfl (k1 ha t' h')
 | false=>rw[ha]at h';exact oB (by simp) (k2 ha t' h')
def LX  (hv:xB tf 1 [D.str w] v)(h:St P tf t n d)(hk:Ok P rdU d tf (xE P.tk w n) Q E):rJ yA F E 57 [.ptr P.bp 0,v] t Q:=by
 refine w57 _ _ ?_
 unfold t57;refine mA hv.len (kB (zD (j57_2 _ _ _ _ ?_)))
 unfold zie;obtain⟨b,o,cs,h1,h2,_,_,h3⟩:=sl93.at (fun _=>rfl) (hv.mono h.ob.tle) (i:=0) rfl
 have e:cs=[.str w]:=eL.1 h3
 subst e;refine rA (by simp[fC]) (mA h1 (vC h2 (vF (tB ?_))))
 rw[pW 72];refine Dl h fun t' h'=>vE ?_
 unfold xE at hk
 cases ha:acc P.tk w n with
 | true=>
  rw[ha]at h' hk
  refine oB (by simp) (zD (j57_2 _ _ _ _ ?_))
  unfold zie;have:(bA .i64 (0+1))=1:=by decide
  rw[this];exact oB (by simp[fC]) (Ok.now hk h' rfl)
 | false=>
  rw[ha]at h' hk
  exact rA rfl (tB (Ok.fail h' hk))
def Av{α:Type}{rd:Tr uA->α->zA->Prop} {f:Unit->Nat->PR α}{K:zA->T}{Q':jB}(h:St P tf t n d)(hk:Ok P rd d tf ((xE P.tk w n).bind f) Q' E)
  (k:∀n1 tf1 t1,yB tf tf1->St P tf1 t1 n1 d->Ok P rd d tf1 (f () n1) Q' E->qA yA.base (gE yA F rC zF E) J (K (.tup [])) t1 Q) :
  qA yA.base (gE yA F rC zF E) J (.heavy (xD yA 93 1 [(0,.str w)]) fun a=>.call 57 [.ptr P.bp 0,a] K) t Q:=by
 refine bC fun b hb _=>?_
 obtain⟨tf1,t1,h1,h2,h3,h4⟩:=h.lit (k:=1) (sz:=1) (ds:=[D.str w]) (cl:=[[.str w]]) ty93 rfl jN rfl rfl (by omega) (Fq (sz:=1) (z:=[.str []]) (v:=.str w) rfl rfl) (Ew rfl) rfl (rD.2 ⟨_,_,rfl,eL.2 rfl,cF.2 rfl⟩) hb
 refine⟨_,_,h1,tB ?_⟩
 rw[pE 57];exact LX h4 h3 ((hk.mono h2).bind fun a n1 tf2 t2 v hr hl hst hrd hk1=>by cases hrd;exact k n1 tf2 t2 (h2.trans hl) hst hk1)
def Xr  (hv:xB tf 2 (l.map zT) v)(hl:l.length<1000)(h:St P tf t n d)
  (hQ:∀t',match wI P.tk l n with | none=>St P tf t' n d->Q (.tup [.int .u8 0,.bool false]) t' | some op=>St P tf t' (n+1) d->Q (.tup [.int .u8 (op:Int),.bool true]) t'):Wc yA F 95 [.ptr P.bp 0,v] t Q:=by
 have loop:∀(k i:Nat) (t:Tr uA),i+k=l.length->St P tf t n d->(∀t',match wI P.tk (l.drop i) n with | none=>St P tf t' n d->Q (.tup [.int .u8 0,.bool false]) t' | some op=>St P tf t' (n+1) d->Q (.tup [.int .u8 (op:Int),.bool true]) t') →
   jp 95 2 [.ptr P.bp 0,v,.int .i64 (l.length:Int),.int .i64 (i:Int)] t Q:=by
  intro k;induction k with
  | zero=>
   intro i t hi h hQ;refine j95_2 ?_
   unfold zib;have e:l.drop i=[]:=ybt (by omega)
   rw[e]at hQ;exact oB (by simp[fC];omega) (hQ t h)
  | succ k ih=>
   intro i t hi h hQ;refine j95_2 ?_
   unfold zib uG uB;have hx:l[i]?=some l[i]:=ybd (by omega)
   have hd:(l.map zT)[i]?=some (zT l[i]):=by rw[ybu,hx];rfl
   obtain⟨b,o,cs,h1,h2,_,_,h3⟩:=sl161.at (fun h=>by cases h) (hv.mono h.ob.tle) hd
   have e:=rd_op h3
   subst e;rw[ybl (by omega:i<l.length)]at hQ
   unfold wI at hQ;rw[List.find?_cons]at hQ;refine rA (by simp[fC];omega) (mA h1 (vC h2 (dC (X:=cellsOf [.str l[i].1,.int .u8 (l[i].2:Int)]) (nQ rfl) (rA rfl ?_))))
   refine tB ?_
   rw[q72];refine Dl h fun t' h'=>vE ?_
   have e1:(cellsOf [.str l[i].1,.int .u8 (l[i].2:Int)]).s 0=l[i].1:=rfl
   have e2:(cellsOf [.str l[i].1,.int .u8 (l[i].2:Int)]).i 1=(l[i].2:Int):=rfl
   rw[e1]at h' ⊢
   cases ha:acc P.tk l[i].1 n with
   | true=>
    rw[ha]at h' hQ
    refine rA rfl ?_
    rw[e2];exact hQ t' h'
   | false=>
    rw[ha]at h' hQ
    refine oB (by simp) (zD ?_)
    have:kD (i:Int)=.int .i64 ((i+1:Nat):Int):=by
     show zA.int .i64 (bA .i64 ((i:Int)+1))=_
     rw[aC (by omega) (by omega)];rfl
    rw[this];exact ih (i+1) t' (by omega) h' hQ
 refine w95 ?_
 unfold t95;have hlen:=hv.len
 rw[ybf]at hlen;exact mA hlen (kB (zD (loop l.length 0 t (by omega) h (by simpa using hQ))))
def yJ(P:aI)(d:Nat)(o:PM aA)(g:Nat):Prop:=∀(tf t:Tr uA) (n:Nat) (Q E:jB),St P tf t n d->Ok P zM d tf (o n) Q E->rJ yA F E g [.ptr P.bp 0] t Q
def Up {α:Type}(o:PM α):Prop:=∀n a n',o n=.ok a n'->n<=n'
def ziw  (h:wI P.tk l n=some op):n<P.tk.length:=by
 unfold wI at h
 cases hx:l.find? fun o=>acc P.tk o.1 n with
 | none=>rw[hx]at h;cases h
 | some x=>exact Ob (List.find?_some (p:=fun o:List Nat × Nat=>acc P.tk o.1 n) hx)
def Tj{tf:Tr uA} {y:aA} (h:xB tf 9 [x.d,y.d] v):RD tf (oX op x y).d [.int .u8 (op:Int),.str [],.int .u8 0,.bool false,.nilslice,.bool false,.nilslice,.int .i64 0,v]:=by
 unfold oX;exact Ic (v:=tO) yQ yQ h
def un_rd{tf:Tr uA}    (h:xB tf 9 [x.d] v):RD tf (unX op w x).d [.int .u8 (op:Int),.str w,.int .u8 0,.bool false,.nilslice,.bool false,.nilslice,.int .i64 0,v]:=by
 unfold unX;exact Ic (v:=tO) yQ yQ h
def ziz (h:zA.one v=true){a:zA}(ha:zA.one a=true):zC zA.one [a,v]=true:=by
 rw[fI];simp[h,ha]
def St.pair {y:aA}{cy:List zA}(h:St P tf t n d)(hx:RD tf x.d cx)(hy:RD tf y.d cy)(hb:t.get b=none) :
  ∃tf' t',xD yA 48 2 [(0,.agg cx),(1,.agg cy)] ⟨b,t⟩=some (.slice b 0 2 2,⟨b+1,t'⟩)/\yB tf tf'/\St P tf' t' n d/\xB tf' 9 [x.d,y.d] (.slice b 0 2 2):=
 h.lit (ds:=[x.d,y.d]) (cl:=[cx,cy]) ty48 rfl Bq rfl rfl (by omega) (LP rfl (Fr hx) (Fr hy)) (ze0 (Fr hx) (Fr hy)) rfl (rD.2 ⟨_,_,rfl,hx,rD.2 ⟨_,_,rfl,hy,cF.2 rfl⟩⟩) hb
def St.sole   (h:St P tf t n d)(hx:RD tf x.d cx)(hb:t.get b=none) :
  ∃tf' t',xD yA 48 1 [(0,.agg cx)] ⟨b,t⟩=some (.slice b 0 1 1,⟨b+1,t'⟩)/\yB tf tf'/\St P tf' t' n d/\xB tf' 9 [x.d] (.slice b 0 1 1):=by
 have hf:tM (fun i=>some (i*9,9)) [(0,.agg cx)] (gI zE 1)=some [cx].flatten:=by
  rw[Fq (sz:=9) (z:=zE) (v:=.agg cx) rfl (Fr hx)];show some cx=_;simp
 exact h.lit (k:=1) (sz:=9) (ds:=[x.d]) (cl:=[cx]) (ps:=[(0,.agg cx)]) ty48 rfl Bq rfl rfl (by omega) hf (Ew (Fr hx)) rfl (rD.2 ⟨_,_,rfl,hx,cF.2 rfl⟩) hb
def NQ (hg:Nat.blt g pn=true)  : qM (.func (.func g) [v] []) []=some (g,[v]):=by
 unfold qM;simp only[zA.asFunc,oA,hg,lE];rfl
def YQ{o:PM aA}   (ho:yJ P d o g)(hup:Up o)(hg:Nat.blt g pn=true)(hp1:(rC g&&Nat.blt g yo)=false)(hp2:Nat.beq g pn=false)(hp3:(zF g&&Nat.blt g pn)=true)(hl:l.length<1000) :
  ∀(m n:Nat) (x:aA) (cs:List zA) (tf t:Tr uA) (Q E:jB),P.tk.length-n<=m->St P tf t n d->xB tf 2 (l.map zT) v->RD tf x.d cs->Ok P zM d tf (rM P.tk o l m x n) Q E->lH E 68 2 ([.ptr P.bp 0,.func (.func g) [.ptr P.bp 0] [],v]++zE++cs) t Q:=by
 intro m;induction m with
 | zero=>
  intro n x cs tf t Q E hm h hv hx hk;obtain⟨a,b,c,rfl,_⟩:=wJ hx
  refine j68_2 _ _ _ _ _ _ _ _ _ _ _ _ _ _ _ _ _ _ _ _ _ ?_
  unfold zid;refine tB ?_
  rw[pW 95];have hn:wI P.tk l n=none:=by
   cases hx:wI P.tk l n with
   | none=>rfl
   | some op=>have:=ziw hx;omega
  refine Xr hv hl h fun t'=>?_
  rw[hn];intro h';refine mA rfl (kB (mA rfl (vE (rA rfl (rA hx.all ?_)))))
  exact Ok.now hk h' ⟨_,rfl,hx⟩
 | succ m ih=>
  intro n x cs tf t Q E hm h hv hx hk;obtain⟨a,b,c,rfl,_⟩:=wJ hx
  refine j68_2 _ _ _ _ _ _ _ _ _ _ _ _ _ _ _ _ _ _ _ _ _ ?_
  unfold zid;refine tB ?_
  rw[pW 95];refine Xr hv hl h fun t'=>?_
  unfold rM at hk
  cases hop:wI P.tk l n with
  | none=>
   rw[hop]at hk;intro h';refine mA rfl (kB (mA rfl (vE (rA rfl (rA hx.all ?_)))))
   exact Ok.now hk h' ⟨_,rfl,hx⟩
  | some op=>
   rw[hop]at hk;intro h';refine mA rfl (kB (mA rfl (vE (oB (by simp) (mU (NQ hg) ?_)))))
   have e:∀a R,gE yA F rC zF E g a t' R=rJ yA F E g a t' R:=fun a R=>by unfold gE;rw[hp1,hp2,hp3];simp
   rw[e];refine ho _ _ _ _ _ h' (hk.bind fun y n1 tf1 t1 vy hr hle hst hrd hk1=>?_)
   obtain⟨cy,rfl,hy⟩:=hrd
   have hn1:=hup _ _ _ hr
   obtain⟨a',b',c',rfl,_⟩:=wJ hy
   refine dC (oN hy) (rA hy.all (bC fun b hb _=>?_))
   have hx1:=RD.mono hle _ _ hx
   obtain⟨tf2,t2,k1,k2,k3,k4⟩:=hst.pair hx1 hy hb
   refine⟨_,_,k1,?_⟩
   refine rA (ziz rfl rfl) (rA (Tj k4).all (zD ?_))
   exact ih n1 (oX op x y) _ tf2 t2 Q E (by omega) k3 (hv.mono (hle.trans k2)) (Tj k4) (hk1.mono k2)
end
end Go.Proofs
namespace Go.Proofs
open Go Go.Am
section
variable {l:List (List Nat × Nat)}{v:zA}{b op op':Nat}{w w':List Nat}
variable [yD]
def PR.bind_ok{α β:Type}{r:PR α}{f:α->Nat->PR β}{b:β}{n:Nat}(h:r.bind f=.ok b n):∃a n1,r=.ok a n1/\f a n1=.ok b n:=by
 cases r with
 | ok a n1=>exact⟨a,n1,rfl,h⟩
 | er e i=>cases h
section
variable {tk:List cB}{o:PM aA}
def za8(h:Up o)  : ∀(m:Nat) (x:aA) (n:Nat) (y:aA) (n':Nat),rM tk o l m x n=.ok y n'->n<=n':=by
 intro m;induction m with
 | zero=>intro x n y n' hh;cases hh;exact ybk _
 | succ m ih=>
  intro x n y n' hh;unfold rM at hh
  cases hop:wI tk l n with
  | none=>rw[hop]at hh;cases hh;exact ybk _
  | some op=>
   rw[hop]at hh;obtain⟨a,n1,h1,h2⟩:=PR.bind_ok hh
   have:=h _ _ _ h1
   have:=ih _ _ _ _ h2
   omega
def Ns(h:Up o)  : Up (iP tk o l):=by
 intro n a n' hh;obtain⟨x,n1,h1,h2⟩:=PR.bind_ok hh
 have:=h _ _ _ h1
 have:=za8 h _ _ _ _ _ h2
 omega
def zeg(h:Up o):Up (kY tk o):=by
 intro n a n' hh;obtain⟨x,n1,h1,h2⟩:=PR.bind_ok hh
 have hs:Up (nT tk o):=Ns (Ns h)
 have:=hs _ _ _ h1
 cases hop:wI tk [([60],13),([61],14)] n1 with
 | none=>rw[hop]at h2;cases h2;assumption
 | some op=>
  rw[hop]at h2;obtain⟨y,n2,h3,h4⟩:=PR.bind_ok h2
  have:=hs _ _ _ h3
  cases h4;omega
def HK(h:Up o):Up (qW tk o):=by
 intro n a n' hh;obtain⟨x,n1,h1,h2⟩:=PR.bind_ok hh
 have:=zeg h _ _ _ h1
 cases h2;omega
def MX(h:Up o):Up (Nq tk o):=Ns (HK h)
def LW(h:Up o):Up (nI tk o):=Ns (MX h)
end
section
variable {P:aI}{tf t:Tr uA}{n d:Nat}{Q E:jB}{J:qF}{o:PM aA}{g:Nat}
def Wz{W:qF}{x:aA} (hrd:zM tf x v)(k:Q v t):qA yA.base W J (.asG zE v fun X=>.ite (zC zA.one (cE X)) (.ret (.agg (cE X))) .fail) t Q:=by
 obtain⟨cs,rfl,hx⟩:=hrd
 obtain⟨a,b,c,rfl,_⟩:=wJ hx
 exact dC (oN hx) (rA hx.all k)
def NM  (ho:yJ P d o g)(hup:Up o)(hl:l.length<1000)(h:St P tf t n d)(hv:xB tf 2 (l.map zT) v)(hk:Ok P zM d tf (iP P.tk o l n) Q E)
  (hg:Nat.blt g pn=true:=by kernel_rfl) (hp1:(rC g&&Nat.blt g yo)=false:=by kernel_rfl) (hp2:Nat.beq g pn=false:=by kernel_rfl) (hp3:(zF g&&Nat.blt g pn)=true:=by kernel_rfl):rJ yA F E 68 [.ptr P.bp 0,.func (.func g) [.ptr P.bp 0] [],v] t Q:=by
 refine w68 _ _ _ ?_
 unfold t68;refine mU (NQ hg) ?_
 have e:∀a R,gE yA F rC zF E g a t R=rJ yA F E g a t R:=fun a R=>by unfold gE;rw[hp1,hp2,hp3];simp
 rw[e];refine ho _ _ _ _ _ h (hk.bind fun x n1 tf1 t1 vy hr hle hst hrd hk1=>?_)
 obtain⟨cs,rfl,hx⟩:=hrd
 have hx':=hx
 obtain⟨a,b,c,rfl,_⟩:=wJ hx
 refine dC (oN hx) (rA hx.all (zD ?_))
 exact YQ ho hup hg hp1 hp2 hp3 hl P.tk.length n1 x _ tf1 t1 Q E (Nat.sub_le _ _) hst (hv.mono hle) hx' hk1
def St.ops1   (h:St P tf t n d)(hb:t.get b=none) :
  ∃tf' t',xD yA 161 1 [(0,.agg [.str w,.int .u8 (op:Int)])] ⟨b,t⟩=some (.slice b 0 1 1,⟨b+1,t'⟩)/\yB tf tf'/\St P tf' t' n d/\xB tf' 2 ([(w,op)].map zT) (.slice b 0 1 1):=by
 have hf:tM (fun i=>some (i*2,2)) [(0,.agg [.str w,.int .u8 (op:Int)])] (gI [.str [],.int .u8 0] 1)=some [[zA.str w,.int .u8 (op:Int)]].flatten:=by
  rw[Fq (sz:=2) (z:=[.str [],.int .u8 0]) (v:=.agg [.str w,.int .u8 (op:Int)]) rfl rfl];rfl
 exact h.lit (k:=1) (sz:=2) (ds:=[zT (w,op)]) (cl:=[[.str w,.int .u8 (op:Int)]]) zhs rfl zht rfl rfl (by omega) hf (Ew rfl) rfl (rD.2 ⟨_,_,rfl,zix (w,op),cF.2 rfl⟩) hb
def St.ops2   (h:St P tf t n d)(hb:t.get b=none) :
  ∃tf' t',xD yA 161 2 [(0,.agg [.str w,.int .u8 (op:Int)]),(1,.agg [.str w',.int .u8 (op':Int)])] ⟨b,t⟩=some (.slice b 0 2 2,⟨b+1,t'⟩)/\yB tf tf'/\St P tf' t' n d/\xB tf' 2 ([(w,op),(w',op')].map zT) (.slice b 0 2 2):=
 h.lit (k:=2) (sz:=2) (ds:=[zT (w,op),zT (w',op')]) (cl:=[[.str w,.int .u8 (op:Int)],[.str w',.int .u8 (op':Int)]]) zhs rfl zht rfl rfl (by omega) (LP rfl rfl rfl) (ze0 rfl rfl) rfl (rD.2 ⟨_,_,rfl,zix (w,op),rD.2 ⟨_,_,rfl,zix (w',op'),cF.2 rfl⟩⟩) hb
def zg0  (ho:yJ P d o g)(hup:Up o)(h:St P tf t n d)(hk:Ok P zM d tf (iP P.tk o [(w,op),(w',op')] n) Q E)
  (hg:Nat.blt g pn=true:=by kernel_rfl) (hp1:(rC g&&Nat.blt g yo)=false:=by kernel_rfl) (hp2:Nat.beq g pn=false:=by kernel_rfl) (hp3:(zF g&&Nat.blt g pn)=true:=by kernel_rfl) :
  qA yA.base (gE yA F rC zF E) J (.heavy (xD yA 161 2 [(0,.agg [.str w,.int .u8 (op:Int)]),(1,.agg [.str w',.int .u8 (op':Int)])]) fun a=>.call 68 [.ptr P.bp 0,.func (.func g) [.ptr P.bp 0] [],a] fun v=>.asG zE v fun X=>.ite (zC zA.one (cE X)) (.ret (.agg (cE X))) .fail) t Q:=by
 refine bC fun b hb _=>?_
 obtain⟨tf1,t1,h1,h2,h3,h4⟩:=h.ops2 (w:=w) (w':=w') (op:=op) (op':=op') hb
 refine⟨_,_,h1,tB ?_⟩
 rw[pE 68];refine NM ho hup (by simp) h3 h4 ?_ hg hp1 hp2 hp3
 have hk:=hk.mono h2
 revert hk
 generalize iP P.tk o [(w,op),(w',op')] n=r
 intro hk
 cases r with
 | ok x n1=>exact fun tf2 t2 v k1 k2 k3=>Wz k3 (hk tf2 t2 v k1 k2 k3)
 | er e i=>exact hk
def zg1  (ho:yJ P d o g)(hup:Up o)(h:St P tf t n d)(hk:Ok P zM d tf (iP P.tk o [(w,op)] n) Q E)
  (hg:Nat.blt g pn=true:=by kernel_rfl) (hp1:(rC g&&Nat.blt g yo)=false:=by kernel_rfl) (hp2:Nat.beq g pn=false:=by kernel_rfl) (hp3:(zF g&&Nat.blt g pn)=true:=by kernel_rfl) :
  qA yA.base (gE yA F rC zF E) J (.heavy (xD yA 161 1 [(0,.agg [.str w,.int .u8 (op:Int)])]) fun a=>.call 68 [.ptr P.bp 0,.func (.func g) [.ptr P.bp 0] [],a] fun v=>.asG zE v fun X=>.ite (zC zA.one (cE X)) (.ret (.agg (cE X))) .fail) t Q:=by
 refine bC fun b hb _=>?_
 obtain⟨tf1,t1,h1,h2,h3,h4⟩:=h.ops1 (w:=w) (op:=op) hb
 refine⟨_,_,h1,tB ?_⟩
 rw[pE 68];refine NM ho hup (by simp) h3 h4 ?_ hg hp1 hp2 hp3
 have hk:=hk.mono h2
 revert hk
 generalize iP P.tk o [(w,op)] n=r
 intro hk
 cases r with
 | ok x n1=>exact fun tf2 t2 v k1 k2 k3=>Wz k3 (hk tf2 t2 v k1 k2 k3)
 | er e i=>exact hk
def zir(ho:yJ P d o 161)(hup:Up o):yJ P d (vW P.tk o) 151:=fun tf t n Q E h hk=>by
 refine w151 _ ?_
 unfold t151;exact rA rfl (rA rfl (zg0 ho hup h hk))
def zfn(ho:yJ P d o 161)(hup:Up o):yJ P d (nT P.tk o) 135:=fun tf t n Q E h hk=>by
 refine w135 _ ?_
 unfold t135;exact rA rfl (rA rfl (zg0 (zir ho hup) (Ns hup) h hk))
def zkq(ho:yJ P d o 161)(hup:Up o):yJ P d (kY P.tk o) 117:=fun tf t n Q E h hk=>by
 refine w117 _ ?_
 unfold t117;refine tB ?_
 rw[pE 135];refine zfn ho hup _ _ _ _ _ h (hk.bind fun x n1 tf1 t1 v hr hle hst hrd hk1=>?_)
 obtain⟨cs,rfl,hx⟩:=hrd
 obtain⟨a,b,c,rfl,_⟩:=wJ hx
 refine dC (oN hx) (rA hx.all (rA rfl (rA rfl (bC fun b hb _=>?_))))
 obtain⟨tf2,t2,k1,k2,k3,k4⟩:=hst.ops2 (w:=[60]) (op:=13) (w':=[61]) (op':=14) hb
 refine⟨_,_,k1,tB ?_⟩
 rw[pW 95];refine Xr k4 (by simp) k3 fun t3=>?_
 cases hop:wI P.tk [([60],13),([61],14)] n1 with
 | none=>
  rw[hop]at hk1;intro h';have hx2:=RD.mono k2 _ _ hx
  exact mA rfl (kB (mA rfl (vE (rA rfl (rA hx.all (Ok.now (hk1.mono k2) h' ⟨_,rfl,hx2⟩))))))
 | some op=>
  rw[hop]at hk1;intro h';refine mA rfl (kB (mA rfl (vE (oB (by simp) (tB ?_)))))
  rw[pE 135];refine zfn ho hup _ _ _ _ _ h' ((hk1.mono k2).bind fun y n2 tf3 t4 v hr2 hle2 hst2 hrd2 hk2=>?_)
  obtain⟨cs2,rfl,hy⟩:=hrd2
  obtain⟨a',b',c',rfl,_⟩:=wJ hy
  refine dC (oN hy) (rA hy.all (bC fun b hb _=>?_))
  obtain⟨tf4,t5,m1,m2,m3,m4⟩:=hst2.pair (RD.mono (k2.trans hle2) _ _ hx) hy hb
  exact⟨_,_,m1,rA (ziz rfl rfl) (rA (Tj m4).all (Ok.now (hk2.mono m2) m3 ⟨_,rfl,Tj m4⟩))⟩
def OU{k:Nat}{Q:jB}{P:aI}{n d:Nat}:∀(k:Nat) (x:aA) (cs:List zA) (tf t:Tr uA),k<1000000000->St P tf t n d->RD tf x.d cs->Ok P zM d tf (.ok (wZ k x) n) Q E->lH E 96 6 ([.int .i64 (k:Int)]++zE++cs) t Q:=by
 intro k;induction k with
 | zero=>
  intro x cs tf t _ h hx hk;obtain⟨a,b,c,rfl,_⟩:=wJ hx
  refine j96_6 _ _ _ _ _ _ _ _ _ _ _ _ _ _ _ _ _ _ _ ?_
  unfold zh9;exact oB (by simp[fC]) (rA hx.all (Ok.now hk h ⟨_,rfl,hx⟩))
 | succ k ih=>
  intro x cs tf t hkl h hx hk;obtain⟨a,b,c,rfl,_⟩:=wJ hx
  refine j96_6 _ _ _ _ _ _ _ _ _ _ _ _ _ _ _ _ _ _ _ ?_
  unfold zh9;refine rA (by rw[fC];exact decide_eq_true (by omega)) (bC fun b hb _=>?_)
  obtain⟨tf1,t1,h1,h2,h3,h4⟩:=h.sole hx hb
  have hu:=un_rd (op:=17) (w:=[]) h4
  refine⟨_,_,h1,rA (ziz rfl rfl) (rA hu.all (zD ?_))⟩
  have e:bA .i64 (((k+1:Nat):Int)-1)=(k:Int):=by rw[aC (by omega) (by omega)];omega
  rw[e];exact ih (unX 17 [] x) _ tf1 t1 (by omega) h3 hu (hk.mono h2)
def Xy{tk:List cB}:∀(m m' n:Nat),tk.length<=n+m->tk.length<=n+m'->xM tk m n=xM tk m' n:=by
 have z:∀m n,tk.length<=n->xM tk m n=0:=by
  intro m n h
  cases m with
  | zero=>rfl
  | succ m=>
   unfold xM;rw[yaa];intro ha;have:=Ob (P:=⟨tk,0,.nilptr,0,0,[]⟩) ha
   have:n<tk.length:=this
   omega
 intro m;induction m with
 | zero=>intro m' n h1 h2;rw[z 0 n (by omega),z m' n (by omega)]
 | succ m ih=>
  intro m' n h1 h2
  cases m' with
  | zero=>rw[z (m+1) n (by omega),z 0 n (by omega)]
  | succ m'=>
   unfold xM;split
   ·rw[ih m' (n+1) (by omega) (by omega)]
   ·rfl
def zi3(ho:yJ P d o 161)(hup:Up o):yJ P d (qW P.tk o) 96:=fun tf t n Q E h hk=>by
 refine w96 _ ?_
 unfold t96;refine zD ?_
 have loop:∀(m i n:Nat) (t:Tr uA),xM P.tk P.tk.length n=m->i<=n->St P tf t n d->Ok P zM d tf ((kY P.tk o (n+m)).bind fun x n'=>.ok (wZ (i+m) x) n') Q E->lH E 96 2 ([.ptr P.bp 0,.int .i64 (i:Int)]++zE) t Q:=by
  intro m;induction m with
  | zero=>
   intro i n t hm hi h hk;refine j96_2 _ _ _ _ _ _ _ _ _ _ _ ?_
   unfold zia;have hl:=h.len
   refine gP h (fun ha t' h'=>?_) fun ha t' h'=>?_
   ·have:n<P.tk.length:=Ob ha
    rw[Xy _ (P.tk.length+1) _ (by omega) (by omega)]at hm
    unfold xM at hm;rw[yab ha]at hm
    cases hm
   ·refine tB ?_
    rw[pE 117];refine zkq ho hup _ _ _ _ _ h' (hk.bind fun x n1 tf1 t1 v hr hle hst hrd hk1=>?_)
    obtain⟨cs,rfl,hx⟩:=hrd
    have hx':=hx
    obtain⟨a,b,c,rfl,_⟩:=wJ hx
    refine dC (oN hx) (rA hx.all (zD ?_))
    exact OU (k:=0) i x _ tf1 t1 (by have:=h.le;omega) hst hx' hk1
  | succ m ih=>
   intro i n t hm hi h hk;refine j96_2 _ _ _ _ _ _ _ _ _ _ _ ?_
   unfold zia;have hl:=h.len
   refine gP h (fun ha t' h'=>?_) fun ha t' h'=>?_
   ·have hlt:n<P.tk.length:=Ob ha
    rw[Xy _ (P.tk.length+1) _ (by omega) (by omega)]at hm
    unfold xM at hm;rw[yab ha]at hm;have e:bA .i64 ((i:Int)+1)=((i+1:Nat):Int):=by rw[aC (by omega) (by omega)];rfl
    refine zD ?_
    rw[e];exact ih (i+1) (n+1) t' (by omega) (by omega) h' (by rwa [show n+1+m=n+(m+1) by omega,show i+1+m=i+(m+1) by omega])
   ·rw[Xy _ (P.tk.length+1) _ (by omega) (by omega)]at hm
    unfold xM at hm;rw[yaa (by simp[ha])]at hm
    cases hm
 exact loop _ 0 n t rfl (by omega) h (by rw[ybw];exact hk)
def zko(ho:yJ P d o 161)(hup:Up o):yJ P d (Nq P.tk o) 69:=fun tf t n Q E h hk=>by
 refine w69 _ ?_
 unfold t69;exact rA rfl (zg1 (zi3 ho hup) (HK hup) h hk)
def AC(ho:yJ P d o 161)(hup:Up o):yJ P d (nI P.tk o) 42:=fun tf t n Q E h hk=>by
 refine w42 _ ?_
 unfold t42;exact rA rfl (zg1 (zko ho hup) (MX hup) h hk)
end
end
section
variable {i:Nat}{f:Nat->List Nat}
variable [yD]
structure Dq:Prop where
 frac:∀ {s:List Nat} {neg:Bool} {tf t:Tr uA} {L:List aE} {Q:jB},nS s->zB yA.base tf t L->(∀tf' t' cs,yB tf tf'->zB yA.base tf' t' L->RD tf' (tJ s neg).dd cs->Q (.agg cs) t')->Wc yA F 74 [.str s,.bool neg] t Q
 int:∀ {s:List Nat} {neg:Bool} {lo hi:Int} {t:Tr uA},nS s->eJ s=false -> -4294967296<=lo->hi<=4294967296->∃i:Int,iC yA F 102 [.str s,.bool neg,.int .i64 lo,.int .i64 hi] t=some (.tup [.int .i64 i,.bool (lP s neg lo hi).isSome])/\∀j,lP s neg lo hi=some j->i=j
 date:∀ {s:List Nat} {t:Tr uA},aJ t->Sy s->iC yA F 97 [.str s] t=some (.tup [.int .i64 (((tX s).getD 0:Nat):Int),.int .i64 0])
def MS:∀s:List Nat,Az [47] s=eJ s:=by
 intro s;unfold eJ;induction s with
 | nil=>rfl
 | cons b s ih=>
  unfold Az;rw[ih,List.contains_cons];have e:cU [47] (b::s)=(47 == b):=by
   show(bif Nat.beq 47 b then cU [] s else false)=_
   have:cU [] s=true:=by cases s<;>rfl
   rw[this]
   cases h:Nat.beq 47 b with
   | true=>rw[eC.1 h];simp
   | false=>
    have:¬ 47=b:=fun e=>by rw[e,Nat.beq_refl]at h;cases h
    simp[this]
  rw[e]
  cases (47 == b)<;>rfl
def Pl{tk:List cB}{k n n1:Nat}{a:List Nat}(h:tG tk k n=.ok a n1):iE tk k n=true/\a=iH tk n/\n1=n+1:=by
 unfold tG at h;split at h
 ·cases h;exact⟨by assumption,rfl,rfl⟩
 ·cases h
section
variable {P:aI}{tf t:Tr uA}{n d:Nat}{Q E:jB}{J:qF}{o:PM aA}
theorem St.at(h:St P tf t n d){k i:Nat}(hk:iE P.tk k i=true):∃x∈P.tk,x.kind=k/\x.text=iH P.tk i:=by
 unfold iE at hk;unfold iH
 cases hx:P.tk[i]? with
 | none=>rw[hx]at hk;cases hk
 | some x=>rw[hx]at hk;exact⟨x,ycv hx,of_decide_eq_true hk,rfl⟩
def St.num(h:St P tf t n d) (hk:iE P.tk 2 i=true):nS (iH P.tk i):=by
 obtain⟨x,h1,h2,h3⟩:=h.at hk
 rw[<- h3];exact(h.good x h1).1 h2
def St.date(h:St P tf t n d) (hk:iE P.tk 3 i=true):Sy (iH P.tk i):=by
 obtain⟨x,h1,h2,h3⟩:=h.at hk
 rw[<- h3];exact(h.good x h1).2 h2
def Nn(hL:Dq)(h:St P tf t n d)(hk:Ok P rdInt d tf (rN P.tk n) Q E):rJ yA F E 73 [.ptr P.bp 0] t Q:=by
 refine w73 _ ?_
 unfold t73;refine tB ?_
 rw[pE 59];refine Bw (k:=3) (by omega) h (hk.bind fun a n1 tf1 t1 v hr hle hst hrd hk1=>?_)
 obtain⟨x,_,e,rfl⟩:=hrd
 obtain⟨h1,h2,_⟩:=Pl hr
 have hd:=h.date h1
 rw[<- h2]at hd;refine dC (mQ _) (tB ?_)
 rw[pQ 97,cT1,e,hL.date (hst.glob.mono hst.ob.tle) hd,iA]
 exact mA rfl (kB (mA rfl (kB (Ok.now hk1 hst rfl))))
def BY{ty b:Nat} (hT:yA.tys.get ty=some ⟨.arr 7 9,7,112,[.str [],.str [],.str [],.str [],.str [],.str [],.str []],true⟩)(h:At t b 0 ((List.range 7).map fun i=>.str (f i))) (hi:i<7) :
  mC yA ty (.ptr b 0) (.int .u8 (i:Int))=some (.ptr b (0+i))/\fA yA 9 ⟨0,t⟩ (.ptr b (0+i))=some (.str (f i)):=by
 refine⟨?_,h.load1 jN rfl ?_⟩
 ·unfold mC
  rw[hT,oA];have e:(zA.int .u8 (i:Int)).asNat=some i:=rfl
  rw[e,oA];simp only[zA.asSlice];simp only[zA.asPtr,fE.asArr,oA];rw[jN,oA,kC.2 hi,lE,Nat.mul_one]
 ·rw[ybu,List.getElem?_range hi];rfl
def zi5(hg:aJ t) (hi:i<256):iC yA F 188 [.int .u8 (i:Int)] t=some (.str (jT i)):=by
 refine bE.2 (w188 ?_)
 unfold t188 uS;have hw:bA .i64 (i:Int)=(i:Int):=aC (by omega) (by omega)
 by_cases h7:i<7
 ·obtain⟨h1,h2⟩:=BY ty201 hg.2.1 h7
  exact rA (by rw[fC];unfold uW;rw[hw];exact decide_eq_true (by omega)) (mA h1 (vC h2 (vF ⟨rfl,rfl⟩)))
 ·refine oB (by rw[fC];unfold uW;rw[hw];simp;omega) ⟨?_,rfl⟩
  have:jT i=[]:=by
   match i,h7 with
   | i+7,_=>rfl
  rw[this]
def zjl(hg:aJ t) (hi:i<256):iC yA F 111 [.int .u8 (i:Int)] t=some (.str (Mo i)):=by
 refine bE.2 (w111 ?_)
 unfold t111 uS;have hw:bA .i64 (i:Int)=(i:Int):=aC (by omega) (by omega)
 by_cases h7:i<7
 ·obtain⟨h1,h2⟩:=BY ty201 hg.1 h7
  exact rA (by rw[fC];unfold uW;rw[hw];exact decide_eq_true (by omega)) (mA h1 (vC h2 (vF ⟨rfl,rfl⟩)))
 ·refine oB (by rw[fC];unfold uW;rw[hw];simp;omega) ⟨?_,rfl⟩
  have:Mo i=[]:=by
   match i,h7 with
   | i+7,_=>rfl
  rw[this]
def NI {g most:Nat}(hf:∀(t:Tr uA),aJ t->∀i:Nat,i<256->iC yA F g [.int .u8 (i:Int)] t=some (.str (f i)))(hg:Nat.blt g pn=true)(hp:(rC g&&Nat.blt g yo)=true)(hm:most<200)(h:St P tf t n d)(hk:Ok P rdU8 d tf (sM P.tk f most most 1 n) Q E):rJ yA F E 110 [.ptr P.bp 0,.int .u8 1,.int .u8 (most:Int),.func (.func g) [] []] t Q:=by
 refine w110 _ _ _ _ ?_
 unfold t110;refine zD ?_
 have loop:∀(k i:Nat) (t:Tr uA),i+k=most+1->St P tf t n d->Ok P rdU8 d tf (sM P.tk f most k i n) Q E->lH E 110 2 [.ptr P.bp 0,.int .u8 (most:Int),.func (.func g) [] [],.int .u8 (i:Int)] t Q:=by
  intro k;induction k with
  | zero=>
   intro i t hi h hk;refine zgp _ _ _ _ ?_
   unfold Vx;exact oB (by rw[fS];simp;omega) (tB (Ok.fail h hk))
  | succ k ih=>
   intro i t hi h hk;refine zgp _ _ _ _ ?_
   unfold Vx;unfold sM at hk;rw[yaa (by omega)]at hk
   have e:qM (.func (.func g) [] []) [.int .u8 (i:Int)]=some (g,[.int .u8 (i:Int)]):=by
    unfold qM;simp only[zA.asFunc,oA,hg,lE];rfl
   refine rA (by rw[fS];exact decide_eq_true (by omega)) (mU e ?_)
   unfold gE;rw[yab hp,hf t (h.glob.mono h.ob.tle) i (by omega),iA]
   refine vF (gP h (fun ha t' h'=>?_) fun ha t' h'=>?_)
   ·rw[ha]at hk
    exact Ok.now hk h' rfl
   ·rw[ha]at hk
    have e:bA .u8 ((i:Int)+1)=((i+1:Nat):Int):=by
     rw[Ow (by omega) (by omega)];rfl
    rw[e];exact zD (ih (i+1) t' (by omega) h' hk)
 exact loop most 1 t (by omega) h hk
end
end
section
variable {neg:Bool}
variable [yD]
def Kl{t:Tr uA}{k:Nat}{i:Int}:RD t (fG.d ⟨k,wH,i⟩) [.int .u8 (k:Int),.bool false,.nilslice,.bool false,.nilslice,.int .i64 i]:=Md (x:=⟨k,wH,i⟩) yQ yQ
def Zs{t:Tr uA}{f:mI}{cs:List zA}(h:RD t f.dd cs):∃u v,cs=[.bool f.n.neg,u,.bool f.d.neg,v]/\mK [.bool false,.nilslice,.bool false,.nilslice] (.agg cs)=some (cellsOf cs)/\∀(k:Nat) (i:Int),RD t (fG.d ⟨k,f,i⟩) [.int .u8 (k:Int),.bool f.n.neg,u,.bool f.d.neg,v,.int .i64 i]:=by
 obtain⟨u,v,rfl,h1,h2⟩:=Go.Am.rd_frac h
 exact⟨u,v,rfl,nV h (mI.zs _),fun k i=>Md (x:=⟨k,f,i⟩) h1 h2⟩
section
variable {P:aI}{tf t:Tr uA}{n d:Nat}{Q E:jB}{J:qF}{o:PM aA}
def Zr{K:zA->T}{s:List Nat} (hL:Dq)(h:St P tf t n d)(hs:nS s)(k:∀tf' t' cs,yB tf tf'->St P tf' t' n d->RD tf' (tJ s neg).dd cs->qA yA.base (gE yA F rC zF E) J (K (.agg cs)) t' Q) :
  qA yA.base (gE yA F rC zF E) J (.call 74 [.str s,.bool neg] K) t Q:=by
 refine tB ?_
 rw[pW 74];exact hL.frac hs h.ob fun tf' t' cs k1 k2 k3=>k tf' t' cs k1 ⟨h.ts.mono k1,k2,h.len,h.le,h.good,h.glob.mono k1⟩ k3
def zcx(hL:Dq) (h:St P tf t n d)(hk:Ok P rdXV d tf (pK P.tk neg n) Q E):rJ yA F E 75 [.ptr P.bp 0,.bool neg] t Q:=by
 refine w75 _ _ ?_
 unfold t75;refine mA nl (mA f1 (vC h.l1 (kB (tB ?_))))
 rw[pE 59];unfold pK at hk;refine Bw (k:=2) (by omega) h (hk.bind fun a n1 tf1 t1 v hr hle hst hrd hk1=>?_)
 obtain⟨x,_,e,rfl⟩:=hrd
 obtain⟨g1,g2,g3⟩:=Pl hr
 have hn:=h.num g1
 rw[<- g2]at hn;have hnl:=h.le
 subst e;refine dC (mQ _) (rA rfl (mA nl (mA f1 (vC hst.l1 (kB ?_)))))
 have tail:∀(k:Nat) (t2:Tr uA),St P tf1 t2 (n1+1) d->Ok P rdXV d tf1 (if eJ x.text then .er 120 n1 else match lP x.text neg (-1048576) 1048576 with
   | none=>.er 121 n
   | some i=>.ok ⟨k,wH,i⟩ (n1+1)) Q E->lH E 75 21 [.ptr P.bp 0,.bool neg,.int .i64 (n:Int),.int .u8 (k:Int),.int .i64 (n1:Int),.int .u8 0,.bool false,.nilslice,.bool false,.nilslice,.int .i64 0,.int .u8 (x.kind:Int),.str x.text,.int .i64 (x.line:Int),.int .i64 (x.col:Int)] t2 Q:=by
  intro k t2 h2 hk2;refine j75_21 _ _ _ _ _ _ _ _ _ _ _ _ _ _ _ ?_
  unfold zfb;refine tB ?_
  rw[pQ 66,AX (by have:=hn.1;omega),iA,MS]
  refine vE ?_
  cases hs:eJ x.text with
  | true=>
   rw[hs,yab rfl]at hk2;refine rA rfl (mA nl (mA f1 (bC fun b _ _=>?_)))
   obtain⟨t3,k1,k2⟩:=h2.set1 (n':=n1) (by have:=h2.le;omega)
   exact⟨_,_,k1 b,tB (Ok.fail k2 hk2)⟩
  | false=>
   rw[hs,yaa (by simp)]at hk2
   refine oB (by simp) (zD (j75_27 _ _ _ _ _ _ _ _ _ _ _ _ _ _ ?_))
   unfold zfa;obtain⟨i,hi,hj⟩:=hL.int (s:=x.text) (neg:=neg) (lo := -1048576) (hi:=1048576) (t:=t2) hn hs (by omega) (by omega)
   refine tB ?_
   rw[pQ 102,hi,iA];refine mA rfl (kB (mA rfl (vE ?_)))
   cases hv:lP x.text neg (-1048576) 1048576 with
   | none=>
    rw[hv]at hk2;refine rA rfl (mA nl (mA f1 (bC fun b _ _=>?_)))
    obtain⟨t3,k1,k2⟩:=h2.set1 (n':=n) (by omega)
    exact⟨_,_,k1 b,tB (Ok.fail k2 hk2)⟩
   | some j=>
    rw[hv]at hk2;have:=hj j hv
    subst this;exact oB (by simp) (rA rfl (rA rfl (Ok.now hk2 h2 ⟨_,rfl,Kl⟩)))
 refine gP hst (fun ha t2 h2=>?_) fun ha t2 h2=>?_
 ·refine zD (tail 5 t2 h2 ?_)
  rw[ha]at hk1;simp only[Bool.true_or,if_true]at hk1;exact hk1
 ·refine gP h2 (fun hb t3 h3=>?_) fun hb t3 h3=>?_
  ·refine zD (tail 6 t3 h3 ?_)
   rw[ha,hb]at hk1;simp only[Bool.or_true,if_true,ybq,if_false]at hk1;exact hk1
  ·rw[ha,hb]at hk1
   refine Zr hL h3 hn fun tf4 t4 cs k1 k2 k3=>?_
   obtain⟨u,v,rfl,hz,hd⟩:=Zs k3
   refine dC hz (rA rfl (rA (hd 2 0).all ?_))
   exact Ok.now (Ok.mono hk1 k1) k2 ⟨_,rfl,hd 2 0⟩
def rdOV (tf:Tr uA)(x:Option fG)(v:zA):Prop:=match x with
 | some x=>∃cs,v=.tup [.agg cs,.bool true]/\RD tf x.d cs
 | none=>v=.tup [.agg zV,.bool false]
def zef(hL:Dq)(h:St P tf t n d)(hk:Ok P rdOV d tf (sX P.tk n) Q E):rJ yA F E 47 [.ptr P.bp 0] t Q:=by
 refine w47 _ ?_
 unfold t47;refine tB ?_
 rw[pQ 71,Hv h,iA];unfold sX at hk;rw[Mn (by omega),Mn (by omega)]at hk
 refine dC (mQ _) (rA rfl (gP h (fun ha t1 h1=>?_) fun ha t1 h1=>?_))
 ·rw[ha,yab rfl]at hk
  exact rA rfl (rA rfl (Ok.now hk h1 ⟨_,rfl,Kl⟩))
 rw[ha,yaa (by simp)]at hk
 refine gP h1 (fun ha t2 h2=>?_) fun ha t2 h2=>?_
 ·rw[ha,yab rfl]at hk
  exact rA rfl (rA rfl (Ok.now hk h2 ⟨_,rfl,Kl⟩))
 rw[ha,yaa (by simp)]at hk
 by_cases hd:(yG P n).kind=3
 ·rw[decide_eq_true hd,yab rfl]at hk
  refine rA (by rw[cT0,hd];rfl) (tB ?_)
  rw[pE 73];refine Nn hL h2 (hk.bind fun a n1 tf3 t3 v hr hle hst hrd hk1=>?_)
  subst hrd;exact kB (rA rfl (rA rfl (Ok.now hk1 hst ⟨_,rfl,Kl⟩)))
 rw[decide_eq_false hd,yaa (by simp)]at hk
 refine oB (by rw[cT0];simp[oF];omega) (gP h2 (fun ha t3 h3=>?_) fun ha t3 h3=>?_)
 ·rw[ha,yab rfl]at hk
  refine tB ?_
  rw[pW 72];refine Dl h3 fun t4 h4=>vE (tB ?_)
  rw[pE 59];have e:(if acc P.tk cL (n+1)then n+2 else n+1)=(if acc P.tk cL (n+1)then n+1+1 else n+1):=by split<;>rfl
  simp only[e]at hk;refine Bw (k:=2) (by omega) h4 (hk.bind fun a n1 tf5 t5 v hr hle hst hrd hk1=>?_)
  obtain⟨x,_,e,rfl⟩:=hrd
  obtain⟨g1,g2,g3⟩:=Pl hr
  have hn:=h.num g1
  rw[<- g2,<- e]at hn;subst e;refine dC (mQ _) (Zr hL hst hn fun tf6 t6 cs k1 k2 k3=>?_)
  obtain⟨u,v,rfl,hz,hd⟩:=Zs k3
  refine dC hz (rA rfl (rA (hd 3 0).all ?_))
  exact Ok.now (Ok.mono hk1 k1) k2 ⟨_,rfl,hd 3 0⟩
 rw[ha,yaa (by simp)]at hk
 have quant:∀(neg:Bool) (m:Nat) (t4:Tr uA),St P tf t4 m d->Ok P rdOV d tf ((pK P.tk neg m).bind fun v n1=>.ok (some v) n1) Q E →
   qA yA.base (gE yA F rC zF E) (JqE yA F E 47) (.call 75 [.ptr P.bp 0,.bool neg] fun a=>.asG zV a fun X=>.ite (zC zA.one (cV X)) (.ret (.tup [.agg (cV X),.bool true])) .fail) t4 Q:=by
  intro neg m t4 h4 hk4;refine tB ?_
  rw[pE 75];refine zcx hL h4 (hk4.bind fun a n1 tf5 t5 v hr hle hst hrd hk1=>?_)
  obtain⟨cs,rfl,hx⟩:=hrd
  have hx':=hx
  obtain⟨u,w,rfl,_⟩:=Lk hx
  exact dC (agV hx) (rA hx.all (Ok.now hk1 hst ⟨_,rfl,hx'⟩))
 refine gP h3 (fun ha t4 h4=>?_) fun ha t4 h4=>?_
 ·rw[ha,yab rfl]at hk
  exact quant true _ t4 h4 hk
 rw[ha,yaa (by simp)]at hk
 by_cases hd:(yG P n).kind=2
 ·rw[decide_eq_true hd,yab rfl]at hk
  exact rA (by rw[cT0,hd];rfl) (quant false _ t4 h4 hk)
 rw[decide_eq_false hd,yaa (by simp)]at hk
 exact oB (by rw[cT0];simp[oF];omega) (rA rfl (rA rfl (Ok.now hk h4 rfl)))
def zkx(ho:yJ P d o 161){op:Nat}(h:St P tf t n d)(hk:Ok P zM d tf (atP P.tk o op n) Q E):rJ yA F E 180 [.ptr P.bp 0,.int .u8 (op:Int)] t Q:=by
 refine w180 _ _ ?_
 unfold t180;refine tB ?_
 rw[pE 58];refine Ez h (hk.bind fun w n1 tf1 t1 v hr hle hst hrd hk1=>?_)
 subst hrd;refine vF (Av hst hk1 fun n2 tf2 t2 hle2 hst2 hk2=>?_)
 refine tB ?_
 rw[pE 161];refine ho _ _ _ _ _ hst2 (hk2.bind fun x n3 tf3 t3 v hr3 hle3 hst3 hrd3 hk3=>?_)
 obtain⟨cs,rfl,hx⟩:=hrd3
 have hx':=hx
 obtain⟨a,b,c,rfl,_⟩:=wJ hx
 refine dC (oN hx) (bC fun b hb _=>?_)
 obtain⟨tf4,t4,k1,k2,k3,k4⟩:=hst3.sole hx' hb
 have hu:=un_rd (op:=op) (w:=w) k4
 exact⟨_,_,k1,rA (by rw[fI];rfl) (rA hu.all (Ok.now (hk3.mono k2) k3 ⟨_,rfl,hu⟩))⟩
def Ok.ret{W:qF}{r:PR aA}(hk:Ok P zM d tf r Q E):Ok P zM d tf r (fun v t'=>qA yA.base W J (.asG zE v fun X=>.ite (zC zA.one (cE X)) (.ret (.agg (cE X))) .fail) t' Q) E:=by
 cases r with
 | ok x n1=>exact fun tf2 t2 v k1 k2 k3=>Wz k3 (hk tf2 t2 v k1 k2 k3)
 | er e i=>exact hk
def zdo(hL:Dq)(ho:yJ P d o 161)(hup:Up o)(hc:yJ P d (yU P.tk (nI P.tk o)) 181):yJ P d (kP P.tk o) 168:=fun tf t n Q E h hk=>by
 refine w168 _ ?_
 unfold t168;refine tB ?_
 rw[pE 47];unfold kP at hk;refine zef hL h (hk.bind fun v n1 tf1 t1 u hr hle h0 hrd hk1=>?_)
 cases v with
 | some v=>
  obtain⟨cs,rfl,hx⟩:=hrd
  have hx':=hx
  obtain⟨a,b,rfl,ha,hb⟩:=Lk hx
  have hc:RD tf1 (Iz v).d [.int .u8 1,.str [],.int .u8 v.kind,.bool v.f.n.neg,a,.bool v.f.d.neg,b,.int .i64 v.i,.nilslice]:=Ic (op:=1) (name:=[]) (v:=v) (args:=[]) ha hb yQ
  exact mA rfl (dC (agV hx) (mA rfl (vE (rA hx.all (rA rfl (rA rfl (rA hc.all (Ok.now hk1 h0 ⟨_,rfl,hc⟩))))))))
 | none=>
  have hrd:u=.tup [.agg zV,.bool false]:=hrd
  subst hrd;refine mA rfl (dC (agV (x:=tO) (Kl (t:=tf1))) (mA rfl (vE (rA rfl (oB (by simp) ?_)))))
  have hk1:Ok P zM d tf1 (if acc P.tk [40] n1 then(nI P.tk o (n1+1)).bind fun x n1=>(xE P.tk [41] n1).bind fun _ n2=>.ok x n2
   else if acc P.tk Ud n1 then .ok (.mk 2 [] tO []) (n1+1)
   else if acc P.tk Ox n1 then atP P.tk o 3 (n1+1)
   else if acc P.tk wHas n1 then atP P.tk o 4 (n1+1)
   else if mL P.tk n1 then atP P.tk o 5 n1
   else yU P.tk (nI P.tk o) n1) Q E:=hk1
  refine gP h0 (fun ha t2 h2=>?_) fun ha t2 h2=>?_
  ·rw[ha,yab rfl]at hk1
   refine tB ?_
   rw[pE 42];refine AC ho hup _ _ _ _ _ h2 (hk1.bind fun x n2 tf3 t3 v hr hle hst hrd hk2=>?_)
   obtain⟨cs,rfl,hx⟩:=hrd
   have hx':=hx
   obtain⟨a,b,c,rfl,_⟩:=wJ hx
   refine dC (oN hx) (rA hx.all (Av hst hk2 fun n3 tf4 t4 hle4 hst4 hk4=>?_))
   have hx4:=RD.mono hle4 _ _ hx'
   exact rA hx.all (Ok.now hk4 hst4 ⟨_,rfl,hx4⟩)
  rw[ha,yaa (by simp)]at hk1
  refine gP h2 (fun ha t2 h2=>?_) fun ha t2 h2=>?_
  ·rw[ha,yab rfl]at hk1
   exact rA rfl (rA rfl (Ok.now hk1 h2 ⟨_,rfl,Ic (op:=2) (name:=[]) (v:=tO) (args:=[]) yQ yQ yQ⟩))
  rw[ha,yaa (by simp)]at hk1
  refine gP h2 (fun ha t2 h2=>?_) fun ha t2 h2=>?_
  ·rw[ha,yab rfl]at hk1
   refine tB ?_
   rw[pE 180];exact zkx ho (op:=3) h2 hk1.ret
  rw[ha,yaa (by simp)]at hk1
  refine gP h2 (fun ha t2 h2=>?_) fun ha t2 h2=>?_
  ·rw[ha,yab rfl]at hk1
   refine tB ?_
   rw[pE 180];exact zkx ho (op:=4) h2 hk1.ret
  rw[ha,yaa (by simp)]at hk1
  refine tB ?_
  rw[pQ 88,KD h2,iA];refine vE ?_
  cases hb:mL P.tk n1 with
  | true=>
   rw[hb,yab rfl]at hk1;refine rA rfl (tB ?_)
   rw[pE 180];exact zkx ho (op:=5) h2 hk1.ret
  | false=>
   rw[hb,yaa (by simp)]at hk1
   refine oB (by simp) (tB ?_)
   rw[pE 181];exact hc _ _ _ _ _ h2 hk1.ret
end
end
section
variable {l:List aA}{v:zA}{b:Nat}{L:List aE}
variable [yD]
section
variable {base:Nat}{tf t:Tr uA}{C:cA}{A B:List aE}
theorem zB.append1{T el sz n:Nat}{l:List D}{dd:D}{x:zA}{cs:List zA}(hT:gQ C T el sz)(h:zB C.base tf t (A++pD C.base sz l v::B))(hx:xB tf sz [dd] x)(hl:l.length+1<400000)(hn:t.get n=none)(hbase:C.base<=n) :
  ∃t' v',vH C T T v x ⟨n,t⟩=some (v',⟨n+1,t'⟩)/\zB C.base tf t' (A++pD C.base sz (l++[dd]) v'::B)/\zA.one v'=true:=by
 obtain⟨cl,h1,h2⟩:=hx
 have hv:fR C.base tf t sz l v:=h.ok (pD C.base sz l v) (by simp)
 obtain⟨c,r,rfl,h3,h4⟩:=rD.1 h2
 rw[cF]at h4;subst h4;obtain⟨t',k1,k2,k3,k4⟩:=OI hT (m:=[dd]) hv (h1.mono h.tle) h2 (by
  have:=h3.all
  rw[fI,ycb]at this;simpa using this) (by simp) (by simpa using hl) hn hbase h.tle
 refine⟨t',_,k1,?_,rfl⟩
 refine zB.upd (o:=pD C.base sz l v) h (fun k h1 h2=>k4 k ?_ (fun e=>h1 (Fc.2 e))) (fun k hk=>?_) k2 (by simp[pD,cI]) k3
 all_goals grind [pD,cI]
end
def el48:gQ yA 48 50 9:=⟨⟨_,ty48,rfl,rfl⟩,⟨_,Bq,rfl,rfl,by decide,by decide⟩,fun y h=>by rw[Bq]at h;cases h;rfl⟩
def aI.wL(P:aI)(L:List aE):aI:=⟨P.tk,P.bp,P.ts,P.el,P.ec,L⟩
def CF.cs(f:CF):List zA:=[.str f.word,.int .u8 (f.op:Int),.bool f.named,.int .i64 (f.least:Int),.int .i64 (f.most:Int)]
abbrev Nb:List zA:=[.str [108,111,111,107],.int .u8 6,.bool true,.int .i64 1,.int .i64 2,.str [109,105,110],.int .u8 11,.bool false,.int .i64 2,.int .i64 2,.str [109,97,120],.int .u8 12,.bool false,.int .i64 2,.int .i64 2,.str [98,101,116,119,101,101,110],.int .u8 20,.bool false,.int .i64 2,.int .i64 2,.str [105,102],.int .u8 18,.bool false,.int .i64 3,.int .i64 3,.str [114,111,117,110,100],.int .u8 19,.bool false,.int .i64 2,.int .i64 2,.str [115,101,114,118,105,99,101],.int .u8 21,.bool true,.int .i64 2,.int .i64 2,.str [103,114,111,119],.int .u8 23,.bool true,.int .i64 2,.int .i64 2,.str [98,101,115,116],.int .u8 22,.bool true,.int .i64 3,.int .i64 3,.str [109,111,110,116,104,115],.int .u8 24,.bool false,.int .i64 1,.int .i64 1,.str [110,117,109,98,101,114],.int .u8 25,.bool false,.int .i64 1,.int .i64 1,.str [115,116,97,114,116],.int .u8 26,.bool false,.int .i64 1,.int .i64 1]
section
variable {P:aI}{tf t:Tr uA}{n d:Nat}{Q E:jB}{J:qF}{o:PM aA}
def St.box  (h:St P tf t n d)(hb:t.get b=none):∃tf' t',bM v ⟨b,t⟩=some (.ptr b 0,⟨b+1,t'⟩)/\yB tf tf'/\St P tf' t' n d/\vD tf' b none v.cells:=by
 obtain⟨t',h1,⟨c,h2,h2'⟩,h3,h4⟩:=Tf (v:=v) hb
 have ho:=h.ob.junk hb h4
 have hfb:=h.ob.tfn hb
 obtain⟨k1,k2⟩:=ho.froze (fun hm=>h.ob.fresh hb hm) h2 hfb
 exact⟨_,t',h1,k2,⟨h.ts.mono k2,k1,h.len,h.le,h.good,h.glob.mono k2⟩,c,by rw[Tr.get_set,yab rfl],h2'⟩
def St.fixed{T:Nat}{y:eD} (h:St P tf t n d)(hT:yA.tys.get T=some y)(hz:v.cells.length=y.size)(hz2:y.zero.length=y.size)(hone:zC zA.one v.cells=true)(hb:t.get b=none)(hbase:yA.base<=b) :
  ∃t1,kJ yA T ⟨b,t⟩=some (.ptr b 0,⟨b+1,t1⟩)/\∃tf' t2,(∀q,bB yA T (.ptr b 0) v ⟨q,t1⟩=some (aD,⟨q,t2⟩))/\yB tf tf'/\St P tf' t2 n d/\vD tf' b none v.cells:=by
 obtain⟨t1,h1,h2,h3,h4⟩:=aS (C:=yA) hT hb
 refine⟨t1,h1,?_⟩
 have o1:=zB.newCel (A:=[jG P n d]) (B:=P.L) h.ob hb hbase h2 h3 h4
 obtain⟨t2,k1,k2⟩:=zB.setCel (A:=[jG P n d]) (j:=0) (v:=v) o1 hT hz (by omega) hone
 have hov:fJ y.zero 0 v.cells=v.cells:=by
  unfold fJ;rw[List.take_zero,yah,ybt (by omega),ycd]
 rw[hov]at k2;obtain⟨c,g1,g2⟩:=k2.cel
 have hni:=k2.notin (o:=xC b none v.cells) (k:=b) (by simp[xC])
 obtain⟨m1,m2⟩:=(zB.drop k2).froze hni g1 (k2.low b (by simp[xC])).2
 exact⟨_,t2,k1,m2,⟨h.ts.mono m2,m1,h.len,h.le,h.good,h.glob.mono m2⟩,c,by rw[Tr.get_set,yab rfl],g2⟩
def nW{a:Nat}{w:Nat}(h:vD tf a none [.ptr w 0])(hst:St P tf t n d):fA yA 84 ⟨0,t⟩ (.ptr a 0)=some (.ptr w 0):=(vD.le h hst.ob.tle).load1 ty84 rfl rfl
def zj7:∀i:Nat,i<12->∃f,oQ[i]?=some f/\iI yA 250 (.agg Nb) (.int .i64 (i:Int))=some (.agg f.cs):=by
 intro i hi;have:i=0\/i=1\/i=2\/i=3\/i=4\/i=5\/i=6\/i=7\/i=8\/i=9\/i=10\/i=11:=by omega
 rcases this with rfl | rfl | rfl | rfl | rfl | rfl | rfl | rfl | rfl | rfl | rfl | rfl<;>exact⟨_,rfl,by kernel_rfl⟩
def zj9(tk:List cB):PM CF:=fun n=>match oQ.find? fun f=>acc tk f.word n with
 | none=>.er 120 n
 | some f=>.ok f (n+1)
def rdCF (_:Tr uA)(f:CF)(v:zA):Prop:=f∈oQ/\v=.agg f.cs
def zj8{a1 a0:Nat}(h1:vD tf a1 none Nb)(h0:vD tf a0 none [.ptr P.bp 0])(h:St P tf t n d)(hk:Ok P rdCF d tf (zj9 P.tk n) Q E):rJ yA F E 187 [.ptr a1 0,.ptr a0 0] t Q:=by
 refine w187 _ _ ?_
 unfold t187;have hl1:fA yA 250 ⟨0,t⟩ (.ptr a1 0)=some (.agg Nb):=by
  have:=(vD.le h1 h.ob.tle).at.load (j:=0) (n:=60) ty250 rfl rfl (by decide)
  simpa using this
 refine vC hl1 (zD ?_)
 have loop:∀(k i:Nat) (t:Tr uA),i+k=12->St P tf t n d->Ok P rdCF d tf (match (oQ.drop i).find? fun f=>acc P.tk f.word n with | none=>.er 120 n | some f=>.ok f (n+1)) Q E →
   lH E 187 2 [.ptr a0 0,.agg Nb,.int .i64 (i:Int),.str [],.int .u8 0,.bool false,.int .i64 0,.int .i64 0] t Q:=by
  intro k;induction k with
  | zero=>
   intro i t hi h hk;refine zf5 _ _ _ _ _ _ _ _ ?_
   unfold Vc;have e:oQ.drop i=[]:=ybt (by show 12<=i;omega)
   rw[e]at hk;exact oB (by rw[fC];simp;omega) (vC (nW h0 h) (tB (Ok.fail h hk)))
  | succ k ih=>
   intro i t hi h hk;refine zf5 _ _ _ _ _ _ _ _ ?_
   unfold Vc;obtain⟨f,hf,hv⟩:=zj7 i (by omega)
   obtain⟨hlt,hfe⟩:=ybc.1 hf
   rw[ybl hlt,hfe,List.find?_cons]at hk;refine rA (by rw[fC];exact decide_eq_true (by omega)) (mA hv (dC (X:=cellsOf f.cs) (nQ rfl) (rA rfl (vC (nW h0 h) (gP h (fun ha t' h'=>?_) fun ha t' h'=>?_)))))
   ·have ha:acc P.tk f.word n=true:=ha
    rw[ha]at hk;exact rA rfl (Ok.now hk h' ⟨ycv hf,rfl⟩)
   ·have ha:acc P.tk f.word n=false:=ha
    rw[ha]at hk;have e:bA .i64 ((i:Int)+1)=((i+1:Nat):Int):=by rw[aC (by omega) (by omega)];rfl
    rw[e];exact zD (ih (i+1) t' (by omega) h' hk)
 exact loop 12 0 t rfl h hk
abbrev mO(l:List aA)(v:zA):aE:=pD yA.base 9 (l.map aA.d) v
def St.args   (h:St (P.wL (mO l v::L)) tf t n d):fR yA.base tf t 9 (l.map aA.d) v:=h.ob.ok (mO l v) (by simp[aI.wL])
def St.more {x:aA} {cx:List zA} (h:St (P.wL (mO l v::L)) tf t n d)(hx:RD tf x.d cx)(hl:l.length<1000) (hb:t.get b=none) :
  ∃t1 w,xD yA 48 1 [(0,.agg cx)] ⟨b,t⟩=some (w,⟨b+1,t1⟩)/\∀c,t1.get c=none->yA.base<=c->∃tf2 t2 v2,vH yA 48 48 v w ⟨c,t1⟩=some (v2,⟨c+1,t2⟩)/\yB tf tf2/\St (P.wL (mO (l++[x]) v2::L)) tf2 t2 n d/\zC zA.one [v2]=true:=by
 obtain⟨tf1,t1,h1,h2,h3,h4⟩:=h.sole hx hb
 refine⟨t1,_,h1,fun c hc hcb=>?_⟩
 have ho:=h3.ob
 obtain⟨t2,v2,k1,k2,k3⟩:=zB.append1 (A:=[jG P n d]) (B:=L) (cs:=[]) el48 ho h4 (by simp;omega) hc hcb
 refine⟨tf1,t2,v2,k1,h2,⟨h3.ts,?_,h3.len,h3.le,h3.good,h3.glob⟩,by rw[fI];simp[k3]⟩
 show zB yA.base tf1 t2 ([jG P n d]++pD yA.base 9 ((l++[x]).map aA.d) v2::L)
 rw[List.map_append];exact k2
end
end
section
variable {α β:Type}{w:List Nat}{f:CF}{a0 m:Nat}{e:PM aA}{K:zA->T}{l:List aA}{v:zA}
variable [yD]
def PR.bind_assoc{γ:Type}(r:PR α)(f:α->Nat->PR β)(g:β->Nat->PR γ):(r.bind f).bind g=r.bind fun a n=>(f a n).bind g:=by cases r<;>rfl
section
variable {tk:List cB}{o:PM aA}
def kO  : Up (xE tk w):=by
 intro n a n' h;unfold xE at h;split at h<;>cases h;omega
def Fa:Up (vJ tk):=by
 intro n a n' h;unfold vJ at h;split at h<;>cases h;omega
def Pk{k:Nat}:Up (tG tk k):=by
 intro n a n' h;unfold tG at h;split at h<;>cases h;omega
def sF {r:PM α}{f:α->PM β}(h1:Up r)(h2:∀a,Up (f a)):Up fun n=>(r n).bind f:=by
 intro n b n' h;obtain⟨a,n1,e1,e2⟩:=PR.bind_ok h
 have:=h1 _ _ _ e1
 have:=h2 _ _ _ _ e2
 omega
def yM {a:α}:Up (fun n=>(.ok a n:PR α)):=by intro n b n' h;cases h;omega
def Iy:Up (rN tk):=sF Pk fun _=>yM
def NJ{f:Nat->List Nat}  : ∀(k i:Nat),Up (sM tk f m k i):=by
 intro k;induction k with
 | zero=>intro i n a n' h;cases h
 | succ k ih=>
  intro i n a n' h;unfold sM at h;split at h
  ·cases h
  ·split at h
   ·cases h;omega
   ·exact ih _ _ _ _ h
def FT{neg:Bool}:Up (pK tk neg):=by
 intro n b n' h;unfold pK at h;obtain⟨a,n1,e1,e2⟩:=PR.bind_ok h
 have:=Pk _ _ _ e1
 split at e2
 ·split at e2
  ·cases e2
  ·split at e2<;>cases e2;omega
 ·cases e2;omega
def za2:Up (sX tk):=by
 intro n b n' h;unfold sX at h;split at h
 ·cases h;omega
 split at h
 ·cases h;omega
 split at h
 ·exact sF Iy (fun _=>yM) _ _ _ h
 split at h
 ·obtain⟨a,n1,e1,e2⟩:=PR.bind_ok h
  have:=Pk _ _ _ e1
  cases e2
  split at this<;>omega
 split at h
 ·have:=sF FT (fun _=>yM) _ _ _ h
  omega
 split at h
 ·exact sF FT (fun _=>yM) _ _ _ h
 cases h;omega
def zc5 (he:Up e):∀(k:Nat) (l:List aA),Up (Cm tk e k l):=by
 intro k;induction k with
 | zero=>intro l;exact yM
 | succ k ih=>intro l;exact sF kO fun _=>sF he fun x=>ih (l++[x])
def zcl (he:Up e):∀(k:Nat) (l:List aA),Up (aV tk e k l):=by
 intro k;induction k with
 | zero=>intro l;exact yM
 | succ k ih=>
  intro l n b n' h;unfold aV at h;split at h
  ·have:=sF he (fun x=>ih (l++[x])) _ _ _ h
   omega
  ·cases h;omega
def BG(ho:Up o){op:Nat}:Up (atP tk o op):=sF Fa fun _=>sF kO fun _=>sF ho fun _=>yM
def zek (he:Up e):Up (yU tk e):=by
 intro n b n' h;unfold yU at h;split at h
 ·cases h
 ·rename_i f _
  have hw:Up (fun n1=>(if f.named then(vJ tk n1).bind fun w n2=>(xE tk [44] n2).bind fun _ n3=>.ok w n3 else .ok [] n1:PR (List Nat))):=by
   cases f.named with
   | true=>exact sF Fa fun _=>sF kO fun _=>yM
   | false=>exact yM
  have hm:Up (fun n5=>(if f.op=19 then(xE tk [44] n5).bind fun _ n6=>sM tk jT 6 6 1 n6 else .ok 0 n5:PR Nat)):=by
   by_cases h19:f.op=19
   ·simp only[yab h19];exact sF kO fun _=>NJ _ _
   ·simp only[yaa h19];exact yM
  have:=sF kO (fun _=>sF hw fun w=>sF he fun x=>sF (zc5 he (f.least-1) [x]) fun l=>sF (zcl he (f.most-f.least) l) fun l=>sF hm fun m=>sF kO fun _=>yM (a:=aA.mk f.op w ⟨0,wH,m⟩ l)) _ _ _ h
  omega
def KL(ho:Up o):Up (kP tk o):=by
 have he:=LW (tk:=tk) ho
 refine sF za2 fun v=>?_
 cases v with
 | some v=>exact yM
 | none=>
  intro n b n' h;simp only at h
  split at h
  ·have:=sF he (fun x=>sF kO fun _=>yM (a:=x)) _ _ _ h
   omega
  split at h
  ·cases h;omega
  split at h
  ·have:=BG ho _ _ _ h;omega
  split at h
  ·have:=BG ho _ _ _ h;omega
  split at h
  ·exact BG ho _ _ _ h
  ·exact zek he _ _ _ h
end
section
variable {P:aI}{tf t:Tr uA}{n d:Nat}{Q E:jB}{J:qF}{o:PM aA}{ob:aE}
def St.drop1(h:St (P.wL (ob::P.L)) tf t n d):St P tf t n d:=⟨h.ts,zB.drop (A:=[jG P n d]) (o:=ob) h.ob,h.len,h.le,h.good,h.glob⟩
def Ok.bindL {rd1:Tr uA->α->zA->Prop}{rd:Tr uA->β->zA->Prop}{r:PR α}{f:α->Nat->PR β}{Q1:jB}(h:Ok P rd d tf (r.bind f) Q E)
  (k:∀a n1 tf1 t1 v,r=.ok a n1->yB tf tf1->St (P.wL (ob::P.L)) tf1 t1 n1 d->rd1 tf1 a v->Ok P rd d tf1 (f a n1) Q E->Q1 v t1):Ok (P.wL (ob::P.L)) rd1 d tf r Q1 E:=by
 cases r with
 | ok a n=>exact fun tf' t' v h1 h2 h3=>k a n tf' t' v rfl h1 h2 h3 (Ok.mono h h1)
 | er e i=>exact fun tf' t' n' d' h1 h2=>h tf' t' n' d' h1 h2.drop1
def Fs  (h:St P tf t n d)(hk:Ok P rdU d tf (xE P.tk w n) (fun v t'=>qA yA.base (gE yA F rC zF E) J (K v) t' Q) E) :
  qA yA.base (gE yA F rC zF E) J (.heavy (xD yA 93 1 [(0,.str w)]) fun a=>.call 57 [.ptr P.bp 0,a] K) t Q:=by
 refine bC fun b hb _=>?_
 obtain⟨tf1,t1,h1,h2,h3,h4⟩:=h.lit (k:=1) (sz:=1) (ds:=[D.str w]) (cl:=[[.str w]]) ty93 rfl jN rfl rfl (by omega) (Fq (sz:=1) (z:=[.str []]) (v:=.str w) rfl rfl) (Ew rfl) rfl (rD.2 ⟨_,_,rfl,eL.2 rfl,cF.2 rfl⟩) hb
 refine⟨_,_,h1,tB ?_⟩
 rw[pE 57];exact LX h4 h3 (hk.mono h2)
def Uu(tk:List cB)(f:CF)(w:List Nat)(l:List aA)(m:Nat):PM aA:=fun n=>(xE tk [41] n).bind fun _ n7=>.ok (.mk f.op w ⟨0,wH,m⟩ l) n7
def zh1(tk:List cB)(f:CF)(w:List Nat)(l:List aA):PM aA:=fun n5=>(if f.op=19 then(xE tk [44] n5).bind fun _ n6=>sM tk jT 6 6 1 n6 else .ok 0 n5:PR Nat).bind fun m n6=>Uu tk f w l m n6
def zh2(tk:List cB)(e:PM aA)(f:CF)(w:List Nat)(k:Nat)(l:List aA):PM aA:=fun n=>(aV tk e k l n).bind fun l n5=>zh1 tk f w l n5
def Pn(tk:List cB)(e:PM aA)(f:CF)(w:List Nat)(k:Nat)(l:List aA):PM aA:=fun n=>(Cm tk e k l n).bind fun l n4=>zh2 tk e f w (f.most-f.least) l n4
def zel{tk:List cB}  : yU tk e n=(zj9 tk n).bind fun f n1=>(xE tk [40] n1).bind fun _ n1=>
  (if f.named then(vJ tk n1).bind fun w n2=>(xE tk [44] n2).bind fun _ n3=>.ok w n3 else .ok [] n1:PR (List Nat)).bind fun w n2=>(e n2).bind fun x n3=>Pn tk e f w (f.least-1) [x] n3:=by
 unfold yU zj9
 cases oQ.find? fun f=>acc tk f.word n with
 | none=>rfl
 | some f=>rfl
abbrev c6(f:CF)(w:List Nat)(m:Nat)(v:zA):List zA:=[.int .u8 (f.op:Int),.str w,.int .u8 0,.bool false,.nilslice,.bool false,.nilslice,.int .i64 (m:Int),v]
def zfd     (h0:vD tf a0 none [.ptr P.bp 0])(h:St (P.wL (mO l v::P.L)) tf t n d)(hk:Ok P zM d tf (Uu P.tk f w l m n) Q E):lH E 181 37 ([.ptr a0 0]++zE++c6 f w m v) t Q:=by
 refine zjo _ _ _ _ _ _ _ _ _ _ _ _ _ _ _ _ _ _ _ ?_
 unfold DD;unfold Uu at hk;refine vC (nW h0 h) (Fs (P:=P.wL (mO l v::P.L)) h (hk.bindL fun _ n1 tf1 t1 u hr hle hst hrd hk1=>?_))
 obtain⟨tf2,k1,k2,k3⟩:=zB.freezeL (A:=[jG P n1 d]) (B:=P.L) hst.ob
 have hd:RD tf2 (aA.mk f.op w ⟨0,wH,m⟩ l).d (c6 f w m v):=Ic (v:=⟨0,wH,m⟩) yQ yQ k3
 refine rA hd.all (Ok.now (Ok.mono hk1 k1) (t:=t1) ⟨hst.ts.mono k1,k2,hst.len,hst.le,hst.good,hst.glob.mono k1⟩ ⟨_,rfl,hd⟩)
def tM_ok     (hop:f.op<256)(h0:vD tf a0 none [.ptr P.bp 0])(h:St (P.wL (mO l v::P.L)) tf t n d)(hk:Ok P zM d tf (zh1 P.tk f w l n) Q E) :
  qA yA.base (gE yA F rC zF E) (JqE yA F E 181) (.ite (wC (f.op:Int) 19)
 (.light (fun m=>fA yA 84 ⟨0,m⟩ (.ptr a0 0)) fun a10=>.heavy (xD yA 93 1 [(0,(.str [44]))]) fun a11=>
 .call 57 [a10,a11] fun a12=>
 .light (fun m=>fA yA 84 ⟨0,m⟩ (.ptr a0 0)) fun a13=>.call 110 [a13,(.int .u8 1),(.int .u8 6),(.func (.func 188) [] [])] fun a14=>
 .asI .u8 a14 fun n15=>.ite true (.jump 37 ([.ptr a0 0]++zE++[.int .u8 (f.op:Int),.str w,.int .u8 0,.bool false,.nilslice,.bool false,.nilslice,.int .i64 (bA .i64 n15),v])) .fail)
 (.jump 37 ([.ptr a0 0]++zE++c6 f w 0 v))) t Q:=by
 unfold zh1 at hk;by_cases h19:f.op=19
 ·rw[yab h19,PR.bind_assoc]at hk
  refine rA (by rw[h19];rfl) (vC (nW h0 h) (Fs (P:=P.wL (mO l v::P.L)) h (hk.bindL fun _ n1 tf1 t1 u hr hle hst hrd hk1=>?_)))
  refine vC (nW (vD.le h0 hle) hst) (tB ?_)
  rw[pE 110];refine NI (P:=P.wL (mO l v::P.L)) (f:=jT) (most:=6) (fun t hg i hi=>zi5 hg hi) (by kernel_rfl) (by kernel_rfl) (by omega) hst (hk1.bindL fun m n2 tf2 t2 u hr2 hle2 hst2 hrd2 hk2=>?_)
  subst hrd2;refine kB (rA rfl (zD ?_))
  have hm:m<256:=by
   have:∀(k i:Nat),i<=7->sM P.tk jT 6 k i n1=.ok m n2->m<256:=by
    intro k;induction k with
    | zero=>intro i _ h;cases h
    | succ k ih=>
     intro i hi h;unfold sM at h;split at h
     ·cases h
     ·split at h
      ·cases h;omega
      ·exact ih (i+1) (by omega) h
   exact this 6 1 (by omega) hr2
  have hw:bA .i64 (m:Int)=(m:Int):=aC (by omega) (by omega)
  rw[hw];exact zfd (vD.le h0 (hle.trans hle2)) hst2 hk2
 ·rw[yaa h19]at hk
  refine oB (by rw[oF];simp;omega) (zD ?_)
  exact zfd h0 h hk
def Ye    {f:aA->Nat->PR aA} (he:∀L,yJ (P.wL L) d e 42)(h0:vD tf a0 none [.ptr P.bp 0])(hl:l.length<1000)(h:St (P.wL (mO l v::P.L)) tf t n d)(hk:Ok P zM d tf ((e n).bind f) Q E)
  (k:∀x n1 tf1 t1 v',yB tf tf1->St (P.wL (mO (l++[x]) v'::P.L)) tf1 t1 n1 d->Ok P zM d tf1 (f x n1) Q E->qA yA.base (gE yA F rC zF E) J (K v') t1 Q) :
  qA yA.base (gE yA F rC zF E) J (.light (fun m=>fA yA 84 ⟨0,m⟩ (.ptr a0 0)) fun a=>.call 42 [a] fun a6=>.asG zE a6 fun X=>.ite (same 10 v v) (.heavy (xD yA 48 1 [(0,.agg (cE X))]) fun a8=>.ite (same 10 v v) (.heavy (vH yA 48 48 v a8) fun a9=>.ite (zC zA.one [a9]) (K a9) .fail) .fail) .fail) t Q:=by
 refine vC (nW h0 h) (tB ?_)
 rw[pE 42];refine he (mO l v::P.L) _ _ _ _ _ h (hk.bindL fun x n1 tf1 t1 u hr hle hst hrd hk1=>?_)
 obtain⟨cs,rfl,hx⟩:=hrd
 have hx':=hx
 obtain⟨a,b,c,rfl,_⟩:=wJ hx
 have hs:same 10 v v=true:=hst.args.same
 refine dC (oN hx) (rA hs (bC fun b hb _=>?_))
 obtain⟨t2,w,k1,k2⟩:=hst.more hx' hl hb
 refine⟨_,_,k1,rA hs (bC fun c hc hcb=>?_)⟩
 obtain⟨tf3,t3,v3,m1,m2,m3,m4⟩:=k2 c hc hcb
 exact⟨_,_,m1,rA m4 (k x n1 tf3 t3 v3 (hle.trans m2) m3 (Ok.mono hk1 m2))⟩
def t6_ok    (he:∀L,yJ (P.wL L) d e 42)(hop:f.op<256)(hmost:f.most<900):∀(k:Nat) (l:List aA) (v:zA) (n:Nat) (tf t:Tr uA),l.length+k=f.most->vD tf a0 none [.ptr P.bp 0]->St (P.wL (mO l v::P.L)) tf t n d->Ok P zM d tf (zh2 P.tk e f w k l n) Q E →
  lH E 181 6 ([.ptr a0 0]++zE++f.cs++c6 f w 0 v) t Q:=by
 intro k;induction k with
 | zero=>
  intro l v n tf t hlen h0 h hk;refine zf7 _ _ _ _ _ _ _ _ _ _ _ _ _ _ _ _ _ _ _ _ _ _ _ _ ?_
  unfold Ve;have hv:=h.args.len
  rw[ybf]at hv;exact mA hv (kB (oB (by rw[fC];simp;omega) (tM_ok hop h0 h hk)))
 | succ k ih=>
  intro l v n tf t hlen h0 h hk;refine zf7 _ _ _ _ _ _ _ _ _ _ _ _ _ _ _ _ _ _ _ _ _ _ _ _ ?_
  unfold Ve;have hv:=h.args.len
  rw[ybf]at hv;unfold zh2 aV at hk;refine mA hv (kB (rA (by rw[fC];exact decide_eq_true (by omega)) (vC (nW h0 h) (gP (P:=P.wL (mO l v::P.L)) h (fun ha t2 h2=>?_) fun ha t2 h2=>?_))))
  ·have ha:acc P.tk [44] n=true:=ha
   rw[ha,yab rfl,PR.bind_assoc]at hk;exact Ye he h0 (by omega) h2 hk fun x n1 tf3 t3 v3 k1 k2 k3=>zD (ih (l++[x]) v3 n1 tf3 t3 (by simp;omega) (vD.le h0 k1) k2 k3)
  ·have ha:acc P.tk [44] n=false:=ha
   rw[ha,yaa (by simp)]at hk
   exact tM_ok hop h0 h2 hk
def t2_ok    (he:∀L,yJ (P.wL L) d e 42)(hop:f.op<256)(hmost:f.most<900)(hle:f.least<=f.most):∀(k:Nat) (l:List aA) (v:zA) (n:Nat) (tf t:Tr uA),l.length+k=f.least->vD tf a0 none [.ptr P.bp 0]->St (P.wL (mO l v::P.L)) tf t n d->Ok P zM d tf (Pn P.tk e f w k l n) Q E →
  lH E 181 2 ([.ptr a0 0]++zE++f.cs++c6 f w 0 v) t Q:=by
 intro k;induction k with
 | zero=>
  intro l v n tf t hlen h0 h hk;refine zf8 _ _ _ _ _ _ _ _ _ _ _ _ _ _ _ _ _ _ _ _ _ _ _ _ ?_
  unfold Vf;have hv:=h.args.len
  rw[ybf]at hv;exact mA hv (kB (oB (by rw[fC];simp;omega) (zD (t6_ok he hop hmost _ l v n tf t (by omega) h0 h hk))))
 | succ k ih=>
  intro l v n tf t hlen h0 h hk;refine zf8 _ _ _ _ _ _ _ _ _ _ _ _ _ _ _ _ _ _ _ _ _ _ _ _ ?_
  unfold Vf;have hv:=h.args.len
  rw[ybf]at hv;unfold Pn Cm at hk;rw[PR.bind_assoc]at hk;refine mA hv (kB (rA (by rw[fC];exact decide_eq_true (by omega)) (vC (nW h0 h) (Fs (P:=P.wL (mO l v::P.L)) h (hk.bindL fun _ n1 tf1 t1 u hr hle1 hst hrd hk1=>?_)))))
  rw[PR.bind_assoc]at hk1;exact Ye he (vD.le h0 hle1) (by omega) hst hk1 fun x n2 tf3 t3 v3 k1 k2 k3=>zD (ih (l++[x]) v3 n2 tf3 t3 (by simp;omega) (vD.le h0 (hle1.trans k1)) k2 k3)
def zfe    (he:∀L,yJ (P.wL L) d e 42)(hop:f.op<256)(hmost:f.most<900)(hle:f.least<=f.most)(h1:1<=f.least)(h0:vD tf a0 none [.ptr P.bp 0])(h:St P tf t n d)(hk:Ok P zM d tf ((e n).bind fun x n3=>Pn P.tk e f w (f.least-1) [x] n3) Q E) :
  lH E 181 19 ([.ptr a0 0]++zE++f.cs++c6 f w 0 .nilslice) t Q:=by
 refine zjp _ _ _ _ _ _ _ _ _ _ _ _ _ _ _ _ _ _ _ _ _ _ _ _ ?_
 unfold DE;have h':St (P.wL (mO [] .nilslice::P.L)) tf t n d:=⟨h.ts,zB.add (A:=[jG P n d]) (B:=P.L) (o':=mO [] .nilslice) h.ob (fun _ _=>rfl) (fun k hk=>by simp[pD,cI]at hk) (.inl ⟨rfl,rfl⟩) (by simp[pD,cI]) h.ob.tle,h.len,h.le,h.good,h.glob⟩
 exact Ye he h0 (by simp) h' hk fun x n1 tf1 t1 v1 k1 k2 k3=>zD (t2_ok he hop hmost hle (f.least-1) [x] v1 n1 tf1 t1 (by simp;omega) (vD.le h0 k1) k2 k3)
def zdz:∀f∈oQ,f.op<256/\f.most<900/\f.least<=f.most/\1<=f.least:=by decide
def BC (he:∀L,yJ (P.wL L) d e 42):yJ P d (yU P.tk e) 181:=fun tf t n Q E h hk=>by
 rw[zel]at hk;refine w181 _ ?_
 unfold t181;refine bC fun a0 ha0 _=>?_
 obtain⟨tf1,t1,h1,h2,h3,h4⟩:=h.box (v:=.ptr P.bp 0) ha0
 refine⟨_,_,h1,?_⟩
 refine rA rfl (rA rfl (rA rfl (rA rfl (rA rfl (rA rfl (rA rfl (rA rfl (rA rfl (rA rfl (rA rfl (rA rfl (rA rfl (bC fun a1 ha1 hb1=>?_)))))))))))))
 obtain⟨t2,k1,tf3,t3,k2,k3,k4,k5⟩:=h3.fixed (v:=.agg Nb) ty250 rfl rfl rfl ha1 hb1
 refine⟨_,_,k1,bC fun c _ _=>⟨_,_,k2 c,?_⟩⟩
 have g0:vD tf3 a0 none [.ptr P.bp 0]:=vD.le h4 k3
 refine mU (g:=187) (a:=[.ptr a1 0,.ptr a0 0]) rfl ?_
 rw[pE 187];refine zj8 k5 g0 k4 ((hk.mono (h2.trans k3)).bind fun f n1 tf4 t4 u hr hle hst hrd hk1=>?_)
 obtain⟨hf,rfl⟩:=hrd
 obtain⟨f1,f2,f3,f4⟩:=zdz f hf
 have g4:=vD.le g0 hle
 refine dC (X:=cellsOf f.cs) (nQ rfl) (rA rfl (rA rfl (rA rfl (vC (nW g4 hst) (Fs hst (hk1.bind fun _ n2 tf5 t5 u2 hr2 hle2 hst2 hrd2 hk2=>?_))))))
 have g5:=vD.le g4 hle2
 cases hn:f.named with
 | true=>
  rw[hn,yab rfl,PR.bind_assoc]at hk2;refine rA hn (vC (nW g5 hst2) (tB ?_))
  rw[pE 58];refine Ez hst2 (hk2.bind fun w n3 tf6 t6 u3 hr3 hle3 hst3 hrd3 hk3=>?_)
  subst hrd3;rw[PR.bind_assoc]at hk3;have g6:=vD.le g5 hle3
  refine vF (rA rfl (vC (nW g6 hst3) (Fs hst3 (hk3.bind fun _ n4 tf7 t7 u4 hr4 hle4 hst4 hrd4 hk4=>?_))))
  exact zD (zfe he f1 f2 f3 f4 (vD.le g6 hle4) hst4 hk4)
 | false=>
  rw[hn,yaa (by simp)]at hk2
  refine oB (by rw[show(cellsOf f.cs).b 2=f.named from rfl,hn];simp) (zD ?_)
  exact zfe he f1 f2 f3 f4 g5 hst2 hk2
def GO(hL:Dq){tk:List cB}:∀(k d:Nat),d+k=101->∀P:aI,P.tk=tk->Up (nH tk k)/\yJ P d (nH tk k) 161:=by
 intro k;induction k with
 | zero=>
  intro d hd P hP;refine⟨fun n a n' h=>(by cases h),fun tf t n Q E h hk=>?_⟩
  refine w161 _ ?_
  unfold t161;exact mA nl (mA f2 (vC h.l2 (kB (rA (by rw[fC];exact decide_eq_true (by omega)) (tB (Ok.fail h hk))))))
 | succ k ih=>
  intro d hd P hP;have hup:Up (nH tk k):=(ih (d+1) (by omega) P hP).1
  have hi:∀L,yJ (P.wL L) (d+1) (nH tk k) 161:=fun L=>(ih (d+1) (by omega) (P.wL L) hP).2
  subst hP;have hin:yJ P (d+1) (kP P.tk (nH P.tk k)) 168:=zdo hL (hi P.L) hup (BC fun L=>AC (hi L) hup)
  refine⟨?_,fun tf t n Q E h hk=>?_⟩
  ·exact KL hup
  ·refine w161 _ ?_
   unfold t161;refine mA nl (mA f2 (vC h.l2 (kB (oB (by rw[fC];simp;omega) (zD (j161_7 _ _ _ _ _ _ _ _ _ _ ?_))))))
   unfold zfk;refine mA nl (mA f2 (vC h.l2 (kB (mA nl (mA f2 (bC fun b _ _=>?_))))))
   obtain⟨t1,h1,h2⟩:=h.set2 (d':=d+1)
   have e:bA .i64 ((d:Int)+1)=((d+1:Nat):Int):=by rw[aC (by omega) (by omega)];rfl
   rw[e];refine⟨_,_,h1 b,tB ?_⟩
   rw[pE 168];refine hin _ _ _ _ _ h2 ?_
   have hk:Ok P zM d tf (kP P.tk (nH P.tk k) n) Q E:=hk
   revert hk
   generalize kP P.tk (nH P.tk k) n=r
   intro hk
   cases r with
   | er e i=>exact hk
   | ok x n1=>
    intro tf2 t2 v k1 k2 ⟨cs,hv,hx⟩
    subst hv;have hx':=hx
    obtain⟨a,b,c,rfl,_⟩:=wJ hx
    refine dC (oN hx) (rA hx.all (mA nl (mA f2 (vC k2.l2 (kB (mA nl (mA f2 (bC fun b _ _=>?_))))))))
    obtain⟨t3,m1,m2⟩:=k2.set2 (d':=d)
    have e:bA .i64 (((d+1:Nat):Int)-1)=(d:Int):=by rw[aC (by omega) (by omega)];omega
    rw[e];exact⟨_,_,m1 b,rA hx.all (hk tf2 t3 _ k1 m2 ⟨_,rfl,hx'⟩)⟩
def AD(hL:Dq):yJ P 0 (tN P.tk) 42:=AC (GO hL 101 0 rfl P rfl).2 (GO hL 101 0 rfl P rfl).1
end
end
section
variable {n:Nat}
def zkm(n:Nat):∀s:List Nat,s.foldl (fun n b=>n*10+(b-48)) n=n*10^s.length+mD s:=by
 intro s;induction s generalizing n with
 | nil=>simp[mD]
 | cons b s ih=>
  show s.foldl _ (n*10+(b-48))=_+s.foldl _ (0*10+(b-48))
  rw[ih,ih,ybn,yag];grind
def Sx(a b:List Nat):mD (a++b)=mD a*10^b.length+mD b:=by
 unfold mD;rw[List.foldl_append,zkm];rfl
def AT(a:List Nat)(x:Nat):mD (a++[x])=mD a*10+(x-48):=by
 rw[Sx];simp[mD]
def Fx:∀ {s:List Nat},(∀b∈s,iD b=true)->mD s<10^s.length:=by
 intro s;induction s with
 | nil=>intro _;simp[mD]
 | cons b s ih=>
  intro h;have h1:=h b (by simp)
  have h2:=ih fun c hc=>h c (by simp[hc])
  have:mD (b::s)=(b-48)*10^s.length+mD s:=by
   have:=Sx [b] s
   simpa[mD]using this
  rw[this,ybn,yag];unfold iD at h1;simp only[ybb,decide_eq_true_eq]at h1;have:(b-48)*10^s.length<=9*10^s.length:=ybi _ (by omega)
  omega
def zeb{s:List Nat}(hd:∀b∈s,iD b=true)(h0:s≠[])(hp:s.head?≠some 48):0<mD s:=by
 cases s with
 | nil=>exact absurd rfl h0
 | cons b s=>
  have h1:=hd b (by simp)
  unfold iD at h1;simp only[ybb,decide_eq_true_eq]at h1;have:mD (b::s)=(b-48)*10^s.length+mD s:=by
   have:=Sx [b] s
   simpa[mD]using this
  rw[this];have hb:b≠48:=fun e=>hp (by simp[e])
  have:1*10^s.length<=(b-48)*10^s.length:=ybi _ (by omega)
  have:0<10^s.length:=Nat.pow_pos (by omega)
  omega
def xY(n:Nat):val 65536 (tC n)=n:=by
 induction n using Nat.strongRecOn with
 | ind n ih=>
  unfold tC;split
  ·rename_i h;simp[val,h]
  ·show n%65536+65536*val 65536 (tC (n / 65536))=n
   rw[ih _ (by omega)]
   omega
def kX(n:Nat):fB 65536 (tC n):=by
 induction n using Nat.strongRecOn with
 | ind n ih=>
  unfold tC;split
  ·intro x hx;cases hx
  ·intro x hx
   rcases ybs.1 hx with rfl | hx
   ·omega
   ·exact ih _ (by omega) x hx
def Mb(n:Nat):norm (tC n):=by
 induction n using Nat.strongRecOn with
 | ind n ih=>
  unfold tC;split
  ·intro h;exact absurd rfl h
  ·intro h
   have h2:=ih (n / 65536) (by omega)
   by_cases h3:tC (n / 65536)=[]
   ·simp only[h3,List.getLast_singleton]
    have h4:=xY (n / 65536)
    rw[h3]at h4;have:n / 65536=0:=h4.symm
    omega
   ·rw[List.getLast_cons h3]
    exact h2 h3
def Yu{l:List Nat} (h1:fB 65536 l)(h2:norm l)(h3:val 65536 l=n):l=tC n:=
 HF (B:=65536) (by omega) h1 (kX n) h2 (Mb n) (by rw[xY,h3])
def Fg  : tC n=[] ↔ n=0:=by
 constructor
 ·intro h
  have:=xY n
  rw[h]at this;exact this.symm
 ·intro h;subst h;unfold tC;rfl
def Yv{k:Nat}(h:n<65536^k):(tC n).length<=k:=by
 induction k generalizing n with
 | zero=>
  have:n=0:=by simpa using h
  rw[Fg.2 this];simp
 | succ k ih=>
  unfold tC;split
  ·simp
  ·have:n / 65536<65536^k:=by
    rw[yag]at h;exact ycu (by rw[ybh];exact h)
   have:=ih this
   simp;omega
end
section
variable {b:Bool}{v:zA}{l:List Nat}
variable [yD]
section
variable {t:Tr uA}{Q:jB}
def lM  (h:zA.one v=true):zC zA.one [.bool b,v]=true:=by
 show(bif zA.one (.bool b)then(bif zA.one v then true else false)else false)=true
 rw[h];rfl
def hO   (h:xB t 1 (rE l) v):mK [.bool false,.nilslice] (.agg [.bool b,v])=some (cellsOf [.bool b,v]):=nV (Cn (w:=⟨b,l⟩) h) (lK.zs _)
def SR  {neg:Bool}(hv:xB t 1 (sC .u32 l) v)(hl:l.length<=500)(hlt:fB 4294967296 l)
  (hQ:∀t' u,yB t t'->xB t' 1 (rE (tC (val 4294967296 l))) u->Q (.tup [.agg [.bool (if dE l=[]then false else neg),u],.int .i64 0]) t'):Wc yA F 122 [.bool neg,v] t Q:=by
 refine w122 ?_
 unfold t122 uG;refine tB ?_
 rw[q141];refine Uk hv (by omega) hlt fun t' u hle hu=>?_
 have hlt2:fB 65536 (dE (jH (dE l))):=xU (Tq (xU hlt))
 have hval:val 65536 (dE (jH (dE l)))=val 4294967296 l:=by rw[iV,Pa,iV]
 have e:dE (jH (dE l))=tC (val 4294967296 l):=Yu hlt2 (rW _) hval
 rw[e]at hu;have hlen:(tC (val 4294967296 l)).length<=1000:=by
  rw[<- e];have:=Kw (jH (dE l))
  rw[Kp]at this;have:=Kw l
  omega
 have hul:=xB.len (l:=rE (tC (val 4294967296 l))) hu
 rw[qV]at hul;refine dC (hO hu) (rA (lM hu.one) (mA hul (kB (oB (by rw[fC];simp;omega) (rA (lM hu.one) ?_)))))
 exact hQ t' u hle hu
theorem Xm{s:List Nat}(hs:∀b∈s,iD b=true)(h0:s≠[])(hp:qS s=false)(hl:s.length<=200)(hQ:∀t' u,yB t t'->xB t' 1 (rE (tC (mD s))) u->Q (.tup [.agg [.bool false,u],.int .i64 0]) t'):Wc yA F 99 [.str s] t Q:=by
 have dig:∀b∈s,48<=b/\b<=57:=fun b hb=>by have:=hs b hb;unfold iD at this;simpa using this
 have hlen:0<s.length:=List.length_pos_iff.2 h0
 obtain⟨x,hx⟩:∃x,s[0]?=some x:=⟨s[0],ybd hlen⟩
 have hxd:=dig x (ycv hx)
 have hx0:=vN hx
 rw[show((0:Nat):Int)=0 from rfl]at hx0
 have ll:∀s:List Nat,(Int.ofNat (wB s))=(s.length:Int):=fun s=>by rw[jD];rfl
 have words:∀(n:Nat) (r w:List Nat) (v:zA) (t1:Tr uA),r.length<=n->(∀b∈r,iD b=true)->r.length<=200->w.length+r.length<=300->yB t t1->xB t1 1 (sC .u32 w) v->fB 4294967296 w->val 4294967296 w*10^r.length+mD r=mD s →
   jp 99 6 [.str r,.bool false,v,.bool false,.nilslice] t1 Q:=by
  intro n;induction n with
  | zero=>
   intro r w v t1 hr hd hr2 hw hle hv hlt hval;have:r=[]:=ycc.1 (by omega)
   subst this;refine j99_6 ?_
   unfold zh7 uG uI;rw[ll];refine oB (by simp[fC]) (tB ?_)
   rw[q122];refine SR hv (by omega) hlt fun t2 u k1 k2=>?_
   have:(if dE w=[]then false else false)=false:=by split<;>rfl
   rw[this];have hval:val 4294967296 w=mD s:=by simpa[mD]using hval
   rw[hval]at k2;exact mA rfl (dC (hO k2) (mA rfl (kB (rA (lM k2.one) (hQ t2 u (hle.trans k1) k2)))))
  | succ n ih=>
   intro r w v t1 hr hd hr2 hw hle hv hlt hval;by_cases hz:r.length=0
   ·exact ih r w v t1 (by omega) hd hr2 hw hle hv hlt hval
   refine j99_6 ?_
   unfold zh7 uG uI;have hc:(bif oC (Int.ofNat (wB r)) 9 then(Int.ofNat (wB r))else 9)=((min 9 r.length:Nat):Int):=by
    rw[ll,fC];by_cases h9:r.length<9
    ·rw[decide_eq_true (by omega)];show(r.length:Int)=_;omega
    ·rw[decide_eq_false (by omega)];show(9:Int)=_;omega
   rw[hc,ll];refine rA (by rw[fC];exact decide_eq_true (by omega)) (zD ?_)
   have hcl:min 9 r.length<=r.length:=Nat.min_le_right _ _
   generalize hcd:min 9 r.length=c at *
   have hc9:c<=9:=by omega
   have hpc:∀i,i<=c->10^i<=1000000000:=fun i hi=>by
    have:10^i<=10^9:=yao (by omega) (by omega)
    simpa using this
   have hdt:∀i,mD (r.take i)<10^i\/r.length<i:=fun i=>by
    by_cases hi:i<=r.length
    ·have:=Fx (s:=r.take i) fun b hb=>hd b (List.mem_of_mem_take hb)
     rw[yda,Nat.min_eq_left hi]at this;exact .inl this
    ·exact .inr (by omega)
   have inner:∀(k i:Nat),i+k=c->jp 99 10 [.str r,.bool false,v,.int .i64 (c:Int),.int .u32 ((10^i:Nat):Int),.int .u32 ((mD (r.take i):Nat):Int),.int .i64 (c:Int),.int .i64 (i:Int),.bool false,.nilslice] t1 Q:=by
    intro k;induction k with
    | zero=>
     intro i hi;have hi:i=c:=by omega
     subst hi;refine zf3 ?_
     unfold Uw;refine oB (by simp[fC]) (tB ?_)
     rw[q121];have hp1:=hpc i (ybk _)
     have hp2:mD (r.take i)<10^i:=(hdt i).resolve_right (by omega)
     refine zb3 hv (by omega) hlt (by omega) (by omega) fun t2 w2 v2 k1 k2 k3 k4 k5 k6=>?_
     refine mA (Px (by omega)) (vF (zD ?_))
     refine ih (r.drop i) w2 v2 t2 (by rw[ydj];omega) (fun b hb=>hd b (List.mem_of_mem_drop hb)) (by rw[ydj];omega) (by rw[ydj];omega) (hle.trans k1) k2 k3 ?_
     have hsp:mD r=mD (r.take i)*10^(r.drop i).length+mD (r.drop i):=by rw[<- Sx,List.take_append_drop]
     have hlr:r.length=i+(r.drop i).length:=by rw[ydj];omega
     rw[k5,<- hval,hsp,hlr,Nat.pow_add];grind
    | succ k ih2=>
     intro i hi;have hri:r[i]?=some r[i]:=ybd (by omega)
     have hrd:48<=r[i]/\r[i]<=57:=by have:=hd r[i] (ycj _);unfold iD at this;simpa using this
     refine zf3 ?_
     unfold Uw uU;have hp1:=hpc (i+1) (by omega)
     have hp2:mD (r.take (i+1))<10^(i+1):=(hdt (i+1)).resolve_right (by omega)
     rw[bQ hri,AT]at hp2;refine rA (by rw[fC];exact decide_eq_true (by omega)) (mA (vN hri) (kB (zD ?_)))
     rw[yag]at hp1 hp2;have e1:bA .u32 (((10^i:Nat):Int)*10)=((10^(i+1):Nat):Int):=by rw[rU (by omega) (by omega),yag];omega
     have e2:bA .u32 (bA .u32 (((mD (r.take i):Nat):Int)*10)+bA .u32 (bA .u8 ((r[i]:Int)-48)))=((mD (r.take (i+1)):Nat):Int):=by
      rw[Ow (by omega) (by omega),rU (n:=((mD (r.take i):Nat):Int)*10) (by omega) (by omega),rU (n:=(r[i]:Int)-48) (by omega) (by omega),rU (by omega) (by omega),bQ hri,AT]
      omega
     have e3:kD (i:Int)=.int .i64 ((i+1:Nat):Int):=by
      show zA.int .i64 (bA .i64 ((i:Int)+1))=_
      rw[aC (by omega) (by omega)];rfl
     rw[e1,e2,e3];exact ih2 (i+1) (by omega)
   exact inner c 0 (by omega)
 have check:∀(k i:Nat),i+k=s.length->jp 99 2 [.str s,.bool false,.int .i64 (s.length:Int),.int .i64 (i:Int),.bool false,.nilslice] t Q:=by
  intro k;induction k with
  | zero=>
   intro i hi;refine j99_2 ?_
   unfold zh8;rw[ll];refine oB (by rw[fC];simp;omega) (oB (by rw[fC];simp;omega) (zD ?_))
   exact words s.length s [] .nilslice t (ybk _) hs hl (by simp;omega) (yB.refl _) yQ (fun x hx=>by cases hx) (by simp[val])
  | succ k ih=>
   intro i hi;have hsi:s[i]?=some s[i]:=ybd (by omega)
   have hsd:=dig s[i] (ycj _)
   refine j99_2 ?_
   unfold zh8 uU;have e3:kD (i:Int)=.int .i64 ((i+1:Nat):Int):=by
    show zA.int .i64 (bA .i64 ((i:Int)+1))=_
    rw[aC (by omega) (by omega)];rfl
   refine rA (by rw[fC];exact decide_eq_true (by omega)) (mA (vN hsi) (kB (oB (by rw[fC];simp;omega) (mA (vN hsi) (kB (oB (by rw[fC];simp;omega) (zD ?_)))))))
   rw[e3];exact ih (i+1) (by omega)
 refine w99 ?_
 unfold t99 uU;rw[ll];refine rA (by rw[fC];exact decide_eq_true (by omega)) (mA hx0 (kB (oB (by rw[oF];simp;omega) (zD ?_))))
 have e45:wC (x:Int) 45=false:=by rw[oF];simp;omega
 rw[e45];refine j99_11 ?_
 unfold ze6 uU;rw[ll];refine oB (by rw[oF];simp;omega) (mA hx0 (kB ?_))
 by_cases h48:x=48
 ·have hl1:s.length=1:=by
   unfold qS at hp;have:s.head?=some 48:=by
    cases s with
    | nil=>cases hx
    | cons a r=>cases hx;simp[h48]
   rw[this]at hp;simp at hp;omega
  refine rA (by rw[oF];simp;omega) (oB (by simp) (oB (by rw[fC];simp;omega) (zD ?_)))
  exact check s.length 0 (by omega)
 ·refine oB (by rw[oF];simp;omega) (zD ?_)
  exact check s.length 0 (by omega)
end
end
section
variable {a b:Nat}{u v:zA}{l:List Nat}
variable [yD]
def Ea{n:Nat}(h:(tC n).length<=1024):dQ false (tC n)=true:=by
 unfold dQ;split
 ·rfl
 ·rename_i hne
  have hn:=Mb n hne
  have:(tC n).getLast?≠some 0:=by
   rw[List.getLast?_eq_some_getLast hne];intro e;exact hn (yci e)
  simp[h,this]
def el41:gQ yA 41 79 1:=⟨⟨_,ty41,rfl,rfl⟩,⟨_,Bp,rfl,rfl,by decide,by decide⟩,fun y h=>by rw[Bp]at h;cases h;rfl⟩
section
variable {t:Tr uA}{Q:jB}
def sameA{b:Bool}  (h:xB t 1 (rE l) v):same 10 (.agg [.bool b,v]) (.agg [.bool b,v])=true:=by
 have h1:=xB.same (d:=9) h
 have h2:same 9 (.bool b) (.bool b)=true:=SH
 show(same 9 (.bool b) (.bool b)&&(same 9 v v&&true))=true
 rw[h1,h2];rfl
def CH  (hv:xB t 1 (sC .u32 l) v)(hl:l.length<400000)(hlt:fB 4294967296 l)(hQ:∀t' u,yB t t'->xB t' 1 (rE (tC (val 4294967296 l))) u->Q (.agg [.bool false,u]) t'):Wc yA F 141 [.bool false,v] t Q:=by
 refine Uk hv hl hlt fun t' u hle hu=>?_
 have hlt2:fB 65536 (dE (jH (dE l))):=xU (Tq (xU hlt))
 have hval:val 65536 (dE (jH (dE l)))=val 4294967296 l:=by rw[iV,Pa,iV]
 rw[Yu hlt2 (rW _) hval]at hu
 have:(if dE l=[]then false else false)=false:=by split<;>rfl
 rw[this];exact hQ t' u hle hu
def zas  (hu:xB t 1 (rE (tC a)) u)(hv:xB t 1 (rE (tC b)) v)(ha:(tC a).length<=1000)(hb:(tC b).length<=1000)(hb0:0<b)
  (hQ:∀t' q r,yB t t'->xB t' 1 (rE (tC (a / b))) q->xB t' 1 (rE (tC (a%b))) r->Q (.tup [.agg [.bool false,q],.agg [.bool false,r],.int .i64 0]) t'):Wc yA F 156 [.agg [.bool false,u],.agg [.bool false,v]] t Q:=by
 have hBB:=aO
 refine w156 ?_
 unfold t156 uB uI;refine bC fun bb hbb hbase=>?_
 obtain⟨t1,g1,g2,g3,g4⟩:=Ff (C:=yA) (T:=229) (el:=43) (sz:=2) (n:=2) (cl:=[[.bool false,u],[.bool false,v]]) (ps:=[(0,.agg [.bool false,u]),(1,.agg [.bool false,v])]) zhr rfl ty43 rfl rfl (by decide) rfl (fun i cs hi=>by
  match i,hi with
  | 0,hi=>cases hi;rfl
  | 1,hi=>cases hi;rfl) rfl hbb
 refine⟨_,_,g1,tB ?_⟩
 have hw:xB t1 2 ([(⟨false,tC a⟩:lK),⟨false,tC b⟩].map lK.d) (.slice bb 0 2 2):=⟨_,g2,rD.2 ⟨_,_,rfl,Cn (w:=⟨false,tC a⟩) (hu.mono g3),rD.2 ⟨_,_,rfl,Cn (w:=⟨false,tC b⟩) (hv.mono g3),cF.2 rfl⟩⟩⟩
 have hall:=ON hw (fun w hw=>by
  rcases ybs.1 hw with rfl | hw
  ·show(tC a).length<_;omega
  ·rcases ybs.1 hw with rfl | hw
   ·show(tC b).length<_;omega
   ·cases hw) (by simp)
 have hva:=Ea (n:=a) (by omega)
 have hvb:=Ea (n:=b) (by omega)
 rw[q162,hall,iA];refine vE (oB (by simp[hva,hvb]) ?_)
 have hvl:=xB.len (l:=rE (tC b)) hv
 rw[qV]at hvl;have hbne:tC b≠[]:=fun e=>by have:=Fg.1 e;omega
 have hbl:0<(tC b).length:=List.length_pos_iff.2 hbne
 refine mA hvl (kB (oB (by rw[oF];simp;omega) (tB ?_)))
 rw[q164];refine Qo (hv.mono g3) (by omega) (kX b) fun t2 v2 k1 k2=>tB ?_
 rw[q164];refine Qo ((hu.mono g3).mono k1) (by omega) (kX a) fun t3 v3 m1 m2=>tB ?_
 rw[q165];have an:=Nx (kX a)
 have ab:=Nx (kX b)
 have vn:∀n,val BB (oH (tC n))=n:=fun n=>by rw[hBB,Ug,xY]
 refine AO m2 (k2.mono m1) (by rw[lT];omega) (by rw[hBB];exact an) (by rw[hBB];exact ab) (Ma (Mb a)) (Ma (Mb b)) (fun e=>?_) fun t4 q r qv rv p1 p2 p3 p4 p5 p6 p7 p8 p9=>?_
 ·have:=vn b
  rw[e]at this;have:(0:Nat)=b:=this
  omega
 rw[vn,vn]at p8;rw[vn]at p9;have hq:val BB q=a / b/\val BB r=a%b:=by
  have h1:a=b*val BB q+val BB r:=p8
  have h2:val BB r<b:=p9
  constructor
  ·rw[h1,Nat.mul_add_div hb0,Nat.div_eq_of_lt h2,yct]
  ·rw[h1,Nat.mul_add_mod,Nat.mod_eq_of_lt h2]
 have hB1:1<BB:=by omega
 have lenq:q.length<=1000:=by
  have h1:val BB q<=val BB (oH (tC a)):=by rw[vn,hq.1];exact Nat.div_le_self _ _
  have:=lS hB1 (by rw[hBB];exact an) p6 h1
  rw[lT]at this;omega
 have lenr:r.length<=1000:=by
  have h1:val BB r<=val BB (oH (tC b)):=by rw[vn];omega
  have:=lS hB1 (by rw[hBB];exact ab) p7 h1
  rw[lT]at this;omega
 refine mA rfl (mA rfl (oB (by decide) (zD ?_)))
 refine zju ?_
 unfold DJ uG;refine tB ?_
 rw[q141];show Wc yA F 141 [.bool false,qv] t4 _
 refine CH p2 (by omega) (by rw[<- hBB];exact p4) fun t5 u5 s1 s2=>?_
 rw[<- hBB,hq.1]at s2;refine dC (hO s2) (rA rfl (tB ?_))
 rw[q141];refine CH (p3.mono s1) (by omega) (by rw[<- hBB];exact p5) fun t6 u6 s3 s4=>?_
 rw[<- hBB,hq.2]at s4;refine dC (hO s4) (rA (lM s2.one) (rA (lM s4.one) ?_))
 exact hQ t6 u5 u6 (g3.trans (k1.trans (m1.trans (p1.trans (s1.trans s3))))) (s2.mono s3) s4
def zgw  (hu:xB t 1 (rE (tC a)) u)(hv:xB t 1 (rE (tC b)) v)(ha:(tC a).length<=1000)(hb:(tC b).length<=1000)(hb0:0<b)
  (hQ:∀t' q r,yB t t'->xB t' 1 (rE (tC (a / b))) q->xB t' 1 (rE (tC (a%b))) r->Q (.tup [.agg [.bool false,q],.agg [.bool false,r]]) t'):Wc yA F 143 [.agg [.bool false,u],.agg [.bool false,v]] t Q:=by
 refine w143 ?_
 unfold t143 uG uI;refine tB ?_
 rw[q156];refine zas hu hv ha hb hb0 fun t' q r h1 h2 h3=>?_
 refine mA rfl (dC (hO h2) (mA rfl (dC (hO h3) (mA rfl (kB (rA (lM h2.one) (rA (lM h3.one) (rA (lM h2.one) (rA (sameA h3) (rA (lM h3.one) ?_))))))))))
 exact hQ t' q r h1 h2 h3
def agF{f:mI} (hu:xB t 1 (rE f.n.limbs) u)(hv:xB t 1 (rE f.d.limbs) v):mK [.bool false,.nilslice,.bool false,.nilslice] (.agg [.bool f.n.neg,u,.bool f.d.neg,v])=some (cellsOf [.bool f.n.neg,u,.bool f.d.neg,v]):=nV (Ib hu hv) (mI.zs _)
def Mm (h:a<=b):(tC a).length<=(tC b).length:=
 lS (B:=65536) (by omega) (kX b) (Mb a) (by rw[xY,xY];exact h)
def zi6  (hu:xB t 1 (rE (tC a)) u)(hv:xB t 1 (rE (tC b)) v)(ha:(tC a).length<=200)(hb:(tC b).length<=200)(hb0:0<b)
  (hQ:∀t' cs,yB t t'->RD t' (uN false a b).dd cs->Q (.tup [.agg cs,.int .i64 0]) t'):Wc yA F 100 [.agg [.bool false,u],.agg [.bool false,v]] t Q:=by
 have hva:=Ea (n:=a) (by omega)
 have hvb:=Ea (n:=b) (by omega)
 have hvl:=xB.len (l:=rE (tC b)) hv
 rw[qV]at hvl;have hbne:tC b≠[]:=fun e=>by have:=Fg.1 e;omega
 have hbl:0<(tC b).length:=List.length_pos_iff.2 hbne
 refine w100 ?_
 unfold t100 uB uI uG;refine tB ?_
 rw[q123,Gv (by omega) hu,iA,hva]
 refine vE (oB (by simp) (tB ?_))
 rw[q123,Gv (by omega) hv,iA,hvb]
 refine vE (oB (by simp) (mA hvl (kB (oB (by rw[oF];simp;omega) (tB ?_)))))
 rw[q124];refine w124 ?_
 unfold t124;refine oB (by simp) (zD (j124_7 ?_))
 unfold zfm uG;refine tB ?_
 rw[q142];refine w142 ?_
 unfold t142 uG uI;refine tB ?_
 rw[q155];refine zgu (n:=⟨false,tC a⟩) (d:=⟨false,tC b⟩) hu hv (by show(tC a).length<_;omega) (by show(tC b).length<_;omega) (kX a) (kX b) hva hvb fun t1 g gv h1 h2 h3 h4 h5=>?_
 have h5:val 65536 g=Nat.gcd a b:=by rw[h5,xY,xY]
 have hg:=Yu h3 h4 h5
 subst hg;have hgb:Nat.gcd a b<=b:=Nat.gcd_le_right _ hb0
 have hgl:=Mm hgb
 have hg0:0<Nat.gcd a b:=Nat.gcd_pos_of_pos_right _ hb0
 refine mA rfl (dC (hO h2) (mA rfl (kB (rA (lM h2.one) (rA (lM h2.one) ?_)))))
 refine dC (hO h2) (rA (lM h2.one) (tB ?_))
 rw[q143];refine zgw (hu.mono h1) h2 (by omega) (by omega) hg0 fun t2 q r k1 k2 k3=>?_
 refine mA rfl (dC (hO k2) (mA rfl (dC (hO k3) (rA (lM k2.one) (tB ?_)))))
 rw[q143];refine zgw ((hv.mono h1).mono k1) (h2.mono k1) (by omega) (by omega) hg0 fun t3 q2 r2 m1 m2 m3=>?_
 have kq:=k2.mono m1
 have hf:=Ib (f:=⟨⟨false,tC (a / Nat.gcd a b)⟩,⟨false,tC (b / Nat.gcd a b)⟩⟩) kq m2
 refine mA rfl (dC (hO m2) (mA rfl (dC (hO m3) (rA (lM m2.one) (rA rfl (rA rfl (rA hf.all ?_)))))))
 refine dC (agF (f:=⟨⟨false,tC (a / Nat.gcd a b)⟩,⟨false,tC (b / Nat.gcd a b)⟩⟩) kq m2) (tB ?_)
 have ql:=xB.len (l:=rE (tC (a / Nat.gcd a b))) kq
 rw[qV]at ql;have ql2:=xB.len (l:=rE (tC (b / Nat.gcd a b))) m2
 rw[qV]at ql2;have la:=Mm (Nat.div_le_self a (Nat.gcd a b))
 have lb:=Mm (Nat.div_le_self b (Nat.gcd a b))
 have long:iC yA F 144 [.agg [.bool false,q,.bool false,q2]] t3=some (.bool false):=by
  refine bE.2 (w144 ?_)
  unfold t144 uI qL;refine mA ql (kB (oB (by rw[fC];simp;omega) (mA ql2 (kB ⟨?_,rfl⟩))))
  rw[fC,decide_eq_false (by omega)]
 have res:iC yA F 125 [.agg [.bool false,q,.bool false,q2]] t3=some (.tup [.agg [.bool false,q,.bool false,q2],.int .i64 0]):=by
  refine bE.2 (w125 ?_)
  unfold t125 uB;refine tB ?_
  rw[q144,long,iA];exact vE (oB (by simp) (rA hf.all ⟨rfl,rfl⟩))
 rw[q125];show qE (iC yA F 125 [.agg [.bool false,q,.bool false,q2]] t3) _
 rw[res,iA];refine mA rfl (dC (agF (f:=⟨⟨false,tC (a / Nat.gcd a b)⟩,⟨false,tC (b / Nat.gcd a b)⟩⟩) kq m2) (mA rfl (kB (rA hf.all ?_))))
 refine hQ t3 _ (h1.trans (k1.trans m1)) ?_
 unfold uN;exact hf
theorem NG  (hv:xB t 1 (rE l) v)(hl:l.length<1000000)(hQ:∀t' v',yB t t'->xB t' 1 (rE l) v'->Q v' t'):Wc yA F 146 [v] t Q:=by
 refine w146 ?_
 have e:(oV .eql).f yA 41 (.tmp 3) (.const (.slice none 0 0)) v .nilslice=some (.bool (Nat.beq v.tag 5)):=by
  obtain⟨cl,h1,_⟩:=hv
  rcases h1 with⟨rfl,_⟩ | ⟨b,off,cap,rfl,_⟩
  ·kernel_rfl
  ·kernel_rfl
 simp only[uB,t146,qA,e,iA,Di];split
 ·grind [fV,eC,yB.refl]
 ·intro b hb hbase
  obtain⟨H1,g1,⟨c,g2⟩,g3⟩:=lit0 (t:=t) ty41 rfl Bp rfl hb
  rw[g1];simp only[iA];intro n hn _;obtain⟨u,H',g4,g5,g6,_⟩:=OJ el41 (hv.mono g3) (by grind [qV]) hn (.inr ⟨b,c,0,rfl,g2⟩)
  rw[g4];simp only[iA];exact hQ _ _ (g3.trans g6) g5
def Xp {neg:Bool} (hv:xB t 1 (rE l) v)(hl:l.length<1000000)(hQ:∀t' v',yB t t'->xB t' 1 (rE l) v'->Q (.agg [.bool (!neg&&decide (0<l.length)),v']) t'):Wc yA F 127 [.agg [.bool neg,v]] t Q:=by
 have hvl:=xB.len (l:=rE l) hv
 rw[qV]at hvl;refine w127 ?_
 unfold t127 uI
 cases neg with
 | false=>
  refine rA rfl (mA hvl (kB (tB ?_)))
  rw[q146];refine NG hv hl fun t1 v1 h1 h2=>?_
  have e:oC 0 (l.length:Int)=decide (0<l.length):=by rw[fC];congr 1;simp
  rw[e];have hs:same 10 (.int .i64 (l.length:Int)) (uZ (l.length:Int))=true:=by
   show same 10 (.int .i64 (l.length:Int)) (.int .i64 (l.length:Int))=true
   exact Qb
  refine rA hv.same (mA hvl (rA hs (rA (lM h2.one) (rA (lM h2.one) ?_))))
  have:=hQ t1 v1 h1 h2
  rw[ycl,ycn]at this;exact this
 | true=>
  refine oB (by simp) (tB ?_)
  rw[q146];refine NG hv hl fun t1 v1 h1 h2=>?_
  refine rA (lM h2.one) (rA (lM h2.one) ?_)
  exact hQ t1 v1 h1 h2
def neg_ok {cs:List zA}(hd:RD t (uN false a b).dd cs)(ha:(tC a).length<=200)(hb:(tC b).length<=200)(hb0:0<b)
  (hQ:∀t' cs,yB t t'->RD t' (uN true a b).dd cs->Q (.tup [.agg cs,.int .i64 0]) t'):Wc yA F 101 [.agg cs] t Q:=by
 have hg0:0<Nat.gcd a b:=Nat.gcd_pos_of_pos_right _ hb0
 have la:=Mm (Nat.div_le_self a (Nat.gcd a b))
 have lb:=Mm (Nat.div_le_self b (Nat.gcd a b))
 obtain⟨u,v,rfl,hu,hv⟩:=rd_frac hd
 have hu:xB t 1 (rE (tC (a / Nat.gcd a b))) u:=hu
 have hv:xB t 1 (rE (tC (b / Nat.gcd a b))) v:=hv
 have hd0:0<b / Nat.gcd a b:=Nat.div_pos (Nat.gcd_le_right _ hb0) hg0
 have hvalid:Kj (uN false a b)=true:=by
  unfold Kj;have e1:(uN false a b).n=⟨false,tC (a / Nat.gcd a b)⟩:=rfl
  have e2:(uN false a b).d=⟨false,tC (b / Nat.gcd a b)⟩:=rfl
  rw[e1,e2];simp only[Ea (n:=a / Nat.gcd a b) (by omega),Ea (n:=b / Nat.gcd a b) (by omega),xY]
  have hco:Nat.gcd (a / Nat.gcd a b) (b / Nat.gcd a b)=1:=by
   rw[Nat.gcd_div (Nat.gcd_dvd_left a b) (Nat.gcd_dvd_right a b),Nat.div_self hg0]
  have hne:tC (b / Nat.gcd a b)≠[]:=fun e=>by have:=Fg.1 e;omega
  simp[hne,hco]
  omega
 have hfit:mI.fit (uN false a b):=⟨⟨by show(tC _).length<_;unfold eM;omega,by show(tC _).length<_;unfold eM;omega⟩,kX _,kX _⟩
 refine w101 ?_
 unfold t101 uB uG;refine tB ?_
 rw[q126];have:=OY (f:=uN false a b) hu hv hfit
 show qE (iC yA F 126 [.agg [.bool (uN false a b).n.neg,u,.bool (uN false a b).d.neg,v]] t) _
 rw[this,iA,hvalid];refine vE (oB (by simp) (tB ?_))
 rw[q127];refine Xp (neg:=false) hu (by omega) fun t1 u1 h1 h2=>?_
 have hv1:=hv.mono h1
 refine dC (hO h2) (rA (sameA hv1) (tB ?_))
 rw[q127];refine Xp (neg:=false) hv1 (by omega) fun t2 v2 k1 k2=>?_
 refine dC (hO k2) (tB ?_)
 rw[q127];refine Xp (neg:=(!false&&decide (0<(tC (b / Nat.gcd a b)).length))) k2 (by omega) fun t3 v3 m1 m2=>?_
 refine dC (hO m2) (rA rfl ?_)
 have hne:0<(tC (b / Nat.gcd a b)).length:=List.length_pos_iff.2 fun e=>by have:=Fg.1 e;omega
 have hn:(uN true a b).n=⟨!false&&decide (0<(tC (a / Nat.gcd a b)).length),tC (a / Nat.gcd a b)⟩:=by
  unfold uN;congr 1
  by_cases h0:a=0
  ·subst h0
   have:tC (0 / Nat.gcd 0 b)=[]:=Fg.2 (by simp)
   rw[this];rfl
  ·have h1:0<a / Nat.gcd a b:=Nat.div_pos (Nat.gcd_le_left _ (by omega)) hg0
   have:0<(tC (a / Nat.gcd a b)).length:=List.length_pos_iff.2 fun e=>by have:=Fg.1 e;omega
   simp[this];omega
 have hdd:(uN true a b).d=⟨!(!false&&decide (0<(tC (b / Nat.gcd a b)).length))&&decide (0<(tC (b / Nat.gcd a b)).length),tC (b / Nat.gcd a b)⟩:=by
  unfold uN;congr 1;simp[hne]
 have hf:=Ib (f:=⟨⟨!false&&decide (0<(tC (a / Nat.gcd a b)).length),tC (a / Nat.gcd a b)⟩,⟨!(!false&&decide (0<(tC (b / Nat.gcd a b)).length))&&decide (0<(tC (b / Nat.gcd a b)).length),tC (b / Nat.gcd a b)⟩⟩) ((h2.mono k1).mono m1) m2
 refine rA hf.all ?_
 refine hQ t3 _ (h1.trans (k1.trans m1)) ?_
 have:uN true a b=⟨(uN true a b).n,(uN true a b).d⟩:=rfl
 rw[this,hn,hdd];exact hf
end
end
section
variable {l s:List Nat}{v y:zA}{box x:Nat}{Q:jB}{I:Nat->Tr uA->Prop}{neg:Bool}
variable [yD]
section
variable {t tf:Tr uA}
theorem XX      (hl:l.length<1000000)
  (hr:∀k t,I k t->fA yA 41 ⟨0,t⟩ (.ptr box 0)=some v/\xB t 1 (sC .u16 l) v)
  (hy:∀k x t,l[k]?=some x->I (k+1) t->∀R:jB,(∀t',I k t'->R (.bool true) t')->qE (qM y [.int .u16 (x:Nat)]) fun p=>Wq yA F rC p.1 p.2 t R)
  (hQ:∀t,I 0 t->Q (.tup []) t):∀(k:Nat) (t:Tr uA),k<=l.length->I k t->jp 159 2 [y,.ptr box 0,.int .i64 ((k:Int)-1)] t Q:=by
 intro k;induction k with
 | zero=>
  intro t _ h;refine zgj ?_
  simp only[uH,uB,uZ,uW,Vr,qA,lL];simp_all
 | succ k ih=>
  intro t hk h;obtain⟨g0,hv⟩:=hr _ _ h
  obtain⟨x,hx⟩:=getElem?_of_lt (l:=l) (i:=k) (by omega)
  obtain⟨c,off,g1,g2⟩:=hv.idx pZ hx
  have e1:((k+1:Nat):Int)-1=(k:Int):=by omega
  rw[e1];refine zgj ?_
  simp (disch:=omega) only[uH,uB,uZ,uW,Vr,qA,lL,g0,g1,g2,iA,nC,aC]
  rw[yab (by omega)]
  refine hy k x t hx h _ fun t' ht'=>?_
  grind [zA.asBool,iA]
def zaq     {t:Tr uA} (hl:l.length<1000000)
  (hr:∀k t,I k t->fA yA 41 ⟨0,t⟩ (.ptr box 0)=some v/\xB t 1 (sC .u16 l) v)
  (hy:∀k x t,l[k]?=some x->I (k+1) t->∀R:jB,(∀t',I k t'->R (.bool true) t')->qE (qM y [.int .u16 (x:Nat)]) fun p=>Wq yA F rC p.1 p.2 t R)
  (hQ:∀t,I 0 t->Q (.tup []) t) (h:I l.length t):Wc yA F 159 [y,.ptr box 0] t Q:=by
 obtain⟨g0,hv⟩:=hr _ _ h
 refine w159 ?_
 simp (disch:=omega) only[uI,uZ,uW,t159,qA,g0,hv.len,bH,iA,nC,aC]
 exact XX hl hr hy hQ l.length t (ybk _) h
theorem TH{f i:Nat}{v8 v4:zA}{K R:T}{ps:List Nat} {S:Nat->Tr uA->Tr uA->Prop}(hS:∀k,BV (S k))(hp:xB tf 1 (sC .u16 ps) v4)(hl:ps.length<30000)(h:S ps.length tf t)
  (body:∀(k x:Nat) (tf t:Tr uA) (Q1:jB),ps[k]?=some x->S (k+1) tf t->(∀t',S k tf t'->Q1 (.bool true) t')->Jq yA F f i [v8,.int .u16 (x:Int)] t Q1)
  (fin:∀tf' t',yB tf tf'->S 0 tf' t'->qA yA.base (Wq yA F rC) (Jq yA F f) K t' Q) :
  qA yA.base (Wq yA F rC) (Jq yA F f) (.call 147 [v4] fun a0=>.range (mS yA) a0 i 1 [v8] K R) t Q:=by
 simp only[qA];rw[q147];refine w147 ?_
 simp only[t147,qA];intro bb hbb hbase;have hc4:v4.cells=[v4]:=by
  obtain⟨cl,h1,_⟩:=hp
  rcases h1 with⟨rfl,_⟩ | ⟨_,_,_,rfl,_⟩<;>rfl
 have hone:bM v4 ⟨bb,t⟩=some (.ptr bb 0,⟨bb+1,t.set bb (.cells (Tr.ofList [v4]) 1 none)⟩):=by
  unfold bM;rw[hc4];rfl
 rw[hone,iA];simp only[];have h1:=(hS _).both h hbb (.cells (Tr.ofList [v4]) 1 none)
 have hfb:=Hz ((hS _).le h) hbb
 have htf1:yB tf (tf.set bb (.cells (Tr.ofList [v4]) 1 none)):=(oO hfb _).1
 generalize htf:tf.set bb (.cells (Tr.ofList [v4]) 1 none)=tf1 at h1 htf1
 have hg1:tf1.get bb=some (.cells (Tr.ofList [v4]) 1 none):=by rw[<- htf,Tr.get_set,yab rfl]
 generalize t.set bb (.cells (Tr.ofList [v4]) 1 none)=t1 at h1
 refine⟨Nat.le_add_right _ _,fun l r hl0 hlb hr1 hr2 hy=>?_⟩
 have hra:Cd (mS yA) (.func (.func 159) [] [.ptr bb 0]) l=some (159,[.func (.yld l) [] [],.ptr bb 0]):=by
  unfold Cd;simp only[zA.asFunc,oA];have:mS yA 159=true:=by kernel_rfl
  rw[this];rfl
 rw[hra,iA];have h2:=(hS _).both h1 hl0 (.loop r)
 have hfl:=Hz ((hS _).le h1) hl0
 have hlr:nP true r=r:=by
  obtain⟨a,b,c,d,e,f,g,h,i⟩:=r
  have hr1:a=.ready:=hr1
  have hr2:b=none:=hr2
  subst hr1;subst hr2;rfl
 have hle2:yB tf1 (tf1.set l (.loop r)):=(oO hfl _).1
 rw[show Wq yA F rC 159=Wc yA F 159 by funext a m R;rw[q159]]
 refine zaq (l:=ps) (v:=v4) (I:=fun k t'=>S k (tf1.set l (.loop r)) t') (by omega) ?_ ?_ ?_ h2
 ·intro k t' hI
  have hle:=(hS _).le hI
  have hg:t'.get bb=some (.cells (Tr.ofList [v4]) 1 none):=hle _ _ (hle2 _ _ hg1)
  refine⟨?_,hp.mono (htf1.trans (hle2.trans hle))⟩
  exact(vD.load1 (cs:=[v4]) (lo:=none) ⟨Tr.ofList [v4],hg,fun j a hj=>by grind [Tr.get_ofList]⟩ ty41 rfl (j:=0) rfl)
 ·intro k x t' hx hI R hR
  show qE (some (yo+l,[zA.int .u16 (x:Int)])) _
  rw[iA];refine hy [.int .u16 (x:Int)] t' R rfl ((hS _).le hI _ _ (by rw[Tr.get_set,yab rfl])) ?_
  refine body k x tf1 _ _ hx ((hS _).out hfl hI) fun t2 h3 hn2=>⟨true,rfl,?_⟩
  rw[hlr];exact hR _ ((hS _).both h3 hn2 (.loop r))
 ·intro t' hI
  exact .inl ⟨(hS _).le hI _ _ (by rw[Tr.get_set,yab rfl]),fin tf1 _ htf1 ((hS _).out hfl hI)⟩
def or16{y:Nat}(hx:x<281474976710656)(hy:y<65536):dI Nat.lor .u64 ((x*65536:Nat):Int) (y:Int)=some (.int .u64 ((x*65536+y:Nat):Int)):=by
 have h:=El (a:=x) (b:=y) (n:=16) hy
 have e:(2:Nat)^16=65536:=by decide
 rw[e]at h;rw[wV (k:=.u64) (show x*65536<yH .u64 by show _<18446744073709551616;omega) (show y<yH .u64 by show _<18446744073709551616;omega),h]
def zdn{bx y:Nat}{Q1:jB}(h:lV bx (.int .u64 (y:Int)) tf t)(hy:y<281474976710656)(hx:x<65536)(hQ:∀t',lV bx (.int .u64 ((y*65536+x:Nat):Int)) tf t'->Q1 (.bool true) t'):jp 128 2 [.ptr bx 0,.int .u16 (x:Int)] t Q1:=by
 obtain⟨i1,i2,i3,i4⟩:=h
 have e5:(y:Int)*65536=((y*65536:Nat):Int):=by omega
 have e6:dI Nat.lor .u64 (bA .u64 ((y:Int)*65536)) (bA .u64 (x:Int))=some (.int .u64 ((y*65536+x:Nat):Int)):=by
  rw[e5,zG (by omega) (by omega),zG (by omega) (by omega),or16 hy hx]
 refine j128_2 ?_
 unfold zfl uE;refine vC (i4.load1 cQ rfl (j:=0) rfl) (kB ?_)
 refine mA e6 (kB (bC fun b3 _ _=>?_))
 obtain⟨t3,k1,k2,k3⟩:=i4.store1 (v:=.int .u64 ((y*65536+x:Nat):Int)) i1 cQ rfl rfl rfl (j:=0) (by simp)
 exact⟨_,_,k1 b3,hQ _ ⟨i1,i2,i3.off i2 k3,k2⟩⟩
def int128{n:Nat} (hv:xB t 1 (rE (tC n)) v)(hl:(tC n).length<=1000):iC yA F 128 [.agg [.bool false,v]] t=some (.tup [.int .i64 (if n<9223372036854775808 then(n:Int)else 0),.int .i64 (if n<9223372036854775808 then 0 else 3)]):=by
 have hvl:=xB.len (l:=rE (tC n)) hv
 rw[qV]at hvl;have hlt:=kX n
 have hval:=xY n
 refine Ce (w128 ?_)
 unfold t128 uB uI;refine tB ?_
 rw[q123,Gv (by omega) hv,iA,Ea (by omega)]
 refine vE (oB (by simp) (mA hvl (kB ?_)))
 by_cases h4:4<(tC n).length
 ·have hbig:¬ n<9223372036854775808:=fun h=>by
   have:=Yv (n:=n) (k:=4) (by rw[show(65536:Nat)^4=18446744073709551616 by decide];omega)
   omega
  refine rA (by rw[fC];exact decide_eq_true (by omega)) ⟨?_,yB.refl _⟩
  rw[yaa hbig,yaa hbig]
 ·have hn64:n<18446744073709551616:=by
   have:=bP (B:=65536) (by omega) hlt
   rw[hval]at this;have h2:65536^(tC n).length<=65536^4:=yao (by omega) (by omega)
   rw[show(65536:Nat)^4=18446744073709551616 by decide]at h2
   omega
  refine oB (by rw[fC];simp;omega) (bC fun bx hbx hbase=>?_)
  obtain⟨t1,e1,e2,e3,e4⟩:=aS (C:=yA) cQ hbx
  refine⟨_,_,e1,bC fun b2 _ _=>?_⟩
  obtain⟨t2,g1,g2,g3⟩:=e2.store1 (v:=.int .u64 0) hbase cQ rfl rfl rfl (j:=0) (by simp)
  refine⟨_,_,g1 b2,?_⟩
  have hS0:lV bx (.int .u64 ((val 65536 ((tC n).drop (tC n).length):Nat):Int)) t t2:=by
   rw[List.drop_length];exact⟨hbase,hbx,(yB.refl t).off hbx e4 |>.off hbx g3,g2⟩
  refine TH (S:=fun k tf t=>lV bx (.int .u64 ((val 65536 ((tC n).drop k):Nat):Int)) tf t) (fun k=>lV.framed) hv (by omega) hS0 (fun k x tf t Q1 hx hI hR=>?_) (fun tf' t' hle hI=>?_)
  ·have hk:=(ybc.1 hx).1
   have hdrop:(tC n).drop k=x::(tC n).drop (k+1):=mR hx
   have hd1:val 65536 ((tC n).drop (k+1))<281474976710656:=by
    have h1:=bP (B:=65536) (by omega) (BN hlt (k+1))
    have h2:65536^((tC n).drop (k+1)).length<=65536^3:=yao (by omega) (by rw[ydj];omega)
    rw[show(65536:Nat)^3=281474976710656 by decide]at h2
    omega
   have hx16:x<65536:=hlt x (ycv hx)
   refine zdn hI hd1 hx16 fun t' h'=>hR t' ?_
   have:val 65536 ((tC n).drop k)=val 65536 ((tC n).drop (k+1))*65536+x:=by rw[hdrop,val];omega
   rw[this];exact h'
  ·obtain⟨i1,i2,i3,i4⟩:=hI
   rw[ycr,hval]at i4;unfold uE;refine oB (by simp) (vC (i4.load1 cQ rfl (j:=0) rfl) (kB ?_))
   by_cases h63:n<9223372036854775808
   ·rw[yab h63,yab h63]
    refine oB (by rw[fS];simp;omega) (vC (i4.load1 cQ rfl (j:=0) rfl) (kB ⟨?_,hle.trans i3⟩))
    have:uW (n:Int)=(n:Int):=aC (by omega) (by omega)
    rw[this]
   ·rw[yaa h63,yaa h63]
    exact rA (by rw[fS];exact decide_eq_true (by omega)) ⟨rfl,hle.trans i3⟩
def HJ (h:eJ s=false):cN s=s:=by
 unfold eJ at h;unfold cN nD;induction s with
 | nil=>rfl
 | cons b s ih=>
  rw[List.contains_cons]at h;simp only[yal,beq_eq_false_iff_ne]at h;have hd:decide (b≠47)=true:=decide_eq_true fun e:b=47=>h.1 e.symm
  rw[List.takeWhile_cons,hd,yab rfl,ih h.2]
def za0:∀s:List Nat,Ay [47] s=if eJ s=true then some (cN s,iO s)else none:=by
 intro s;induction s with
 | nil=>rfl
 | cons b s ih=>
  have e:cU [47] (b::s)=Nat.beq 47 b:=by
   show(bif Nat.beq 47 b then cU [] s else false)=_
   have:cU [] s=true:=by cases s<;>rfl
   rw[this]
   cases Nat.beq 47 b<;>rfl
  unfold Ay;rw[e,ih];unfold eJ iO cN nD;rw[List.contains_cons]
  cases hb:Nat.beq 47 b with
  | true=>
   have:=eC.1 hb
   subst this;rw[cond_true,List.takeWhile_cons];simp[rR,jD]
  | false=>
   have hne:¬ 47=b:=fun e=>by rw[e,Nat.beq_refl]at hb;cases hb
   have hd:decide (b≠47)=true:=decide_eq_true fun e:b=47=>hne e.symm
   rw[cond_false,List.takeWhile_cons,hd,yab rfl];have:(47 == b)=false:=by simp[hne]
   rw[this,Bool.false_or];split
   ·simp
   ·rfl
def AS (h:∀b∈s,iD b=true)(hl:s.length<=200):(tC (mD s)).length<=200:=by
 have h1:=Fx h
 have h2:10^s.length<=65536^s.length:=Nat.pow_le_pow_left (by omega) _
 have:=Yv (n:=mD s) (k:=s.length) (by omega)
 omega
def intPv  {lo hi:Int}(h:nS s)(hs:eJ s=false)(hlo : -4294967296<=lo)(hhi:hi<=4294967296):∃i:Int,iC yA F 102 [.str s,.bool neg,.int .i64 lo,.int .i64 hi] t=some (.tup [.int .i64 i,.bool (lP s neg lo hi).isSome])/\∀j,lP s neg lo hi=some j->i=j:=by
 obtain⟨h1,h2,h3,h4,_⟩:=h
 rw[HJ hs]at h2 h3 h4;have hlen:=AS h2 h1
 generalize hn:mD s=n at hlen
 have core:∀R:jB,(∀t',yB t t'->n<9223372036854775808->jp 102 15 [.int .i64 lo,.int .i64 hi,.int .i64 (if neg then -(n:Int)else n)] t' R)->(∀t',yB t t'->¬ n<9223372036854775808->R (.tup [.int .i64 0,.bool false]) t')->Wc yA F 102 [.str s,.bool neg,.int .i64 lo,.int .i64 hi] t R:=by
  intro R k1 k2;refine w102 ?_
  unfold t102 uG uI;refine tB ?_
  rw[q99];refine Xm h2 h3 h4 h1 fun t' u hle hu=>?_
  rw[hn]at hu;refine mA rfl (dC (hO hu) (mA rfl (kB (rA (lM hu.one) (tB ?_)))))
  rw[q128];show qE (iC yA F 128 [.agg [.bool false,u]] t') _
  rw[int128 hu (by omega),iA]
  refine mA rfl (kB (mA rfl (kB ?_)))
  by_cases h63:n<9223372036854775808
  ·rw[yab h63,yab h63]
   refine oB (by decide) ?_
   have:=k1 t' hle h63
   cases neg with
   | true=>
    refine rA rfl (zD ?_)
    have e:uW (0-(n:Int)) = -(n:Int):=by
     show bA .i64 (0-(n:Int))=_
     rw[aC (by omega) (by omega)];omega
    rw[e];exact this
   | false=>exact oB (by simp) (zD this)
  ·rw[yaa h63,yaa h63]
   exact rA (by decide) (k2 t' hle h63)
 by_cases h63:n<9223372036854775808
 ·refine⟨if neg then -(n:Int)else n,Ce (core _ (fun t' hle _=>?_) fun t' _ hh=>absurd h63 hh),fun j hj=>?_⟩
  ·refine zjz ?_
   unfold DP;unfold lP;rw[hn];generalize (if neg then -(n:Int)else n)=m
   show wp 102 _ t' _
   by_cases hl:lo<=m
   ·refine rA (by rw[fS];exact decide_eq_true hl) ⟨?_,hle⟩
    by_cases hh:m<=hi
    ·simp[hl,hh,fS]
    ·simp[hl,hh,fS]
   ·refine oB (by rw[fS];simp;omega) ⟨?_,hle⟩
    simp[hl]
  ·unfold lP at hj
   rw[hn]at hj;generalize (if neg=true then -(n:Int)else(n:Int))=m at hj ⊢
   have hj:(if lo<=m/\m<=hi then some m else none)=some j:=hj
   split at hj
   ·exact yci hj
   ·cases hj
 ·have hno:lP s neg lo hi=none:=by
   unfold lP;rw[hn];simp only
   rw[yaa]
   cases neg with
   | true=>simp only[if_true];omega
   | false=>simp only[ybq,if_false];omega
  rw[hno];exact⟨0,Ce (core _ (fun t' _ hh=>absurd hh h63) fun t' hle _=>⟨rfl,hle⟩),fun j hj=>by cases hj⟩
def fracPv   (h:nS s)(hQ:∀t' cs,yB t t'->RD t' (tJ s neg).dd cs->Q (.agg cs) t'):Wc yA F 74 [.str s,.bool neg] t Q:=by
 obtain⟨h1,h2,h3,h4,h5⟩:=h
 have la:(cN s).length<=s.length:=by unfold cN nD;exact(List.takeWhile_sublist _).length_le
 have main:∀b:List Nat,(∀x∈b,iD x=true)->b≠[]->qS b=false->b.length<=200->0<mD b->tJ s neg=uN neg (mD (cN s)) (mD b)->jp 74 9 [.bool neg,.str (cN s),.str b,.bool false,.nilslice,.bool false,.nilslice] t Q:=by
  intro b b1 b2 b3 b4 b5 hf;refine j74_9 ?_
  unfold t74_9 uG uI;refine tB ?_
  rw[q99];refine Xm h2 h3 h4 (by omega) fun t1 u k1 k2=>?_
  refine mA rfl (dC (hO k2) (mA rfl (kB (rA (lM k2.one) (tB ?_)))))
  rw[q99];refine Xm b1 b2 b3 b4 fun t2 v m1 m2=>?_
  refine mA rfl (dC (hO m2) (mA rfl (kB (rA (lM m2.one) (tB ?_)))))
  rw[q100];have l1:=AS h2 (by omega)
  have l2:=AS b1 b4
  refine zi6 (k2.mono m1) m2 l1 l2 b5 fun t3 cs p1 p2=>?_
  obtain⟨u3,v3,rfl,hu3,hv3⟩:=rd_frac p2
  refine mA rfl (dC (agF hu3 hv3) (mA rfl (kB (rA p2.all ?_))))
  cases neg with
  | true=>
   refine rA rfl (tB ?_)
   rw[q101];refine neg_ok p2 l1 l2 b5 fun t4 cs4 r1 r2=>?_
   obtain⟨u4,v4,rfl,hu4,hv4⟩:=rd_frac r2
   refine mA rfl (dC (agF hu4 hv4) (mA rfl (kB (rA r2.all (rA r2.all ?_)))))
   refine hQ t4 _ (k1.trans (m1.trans (p1.trans r1))) ?_
   rw[hf];exact r2
  | false=>
   refine oB (by simp) (rA p2.all ?_)
   refine hQ t3 _ (k1.trans (m1.trans p1)) ?_
   rw[hf];exact p2
 refine w74 ?_
 unfold t74 uS uB;refine tB ?_
 have hg:yA.prims.get 98=some (sP pCut):=by kernel_rfl
 have hcut:iC yA F 98 [.str s,.str [47]] t=some (.tup [.str (if eJ s=true then cN s else s),.str (if eJ s=true then iO s else []),.bool (eJ s)]):=by
  refine Lr hg fun H=>?_
  show sB (Nat.blt (wB s) 4294967281) _=_
  rw[jD,kC.2 (by omega),lE,za0]
  cases eJ s<;>rfl
 rw[q98,hcut,iA];refine mA rfl (vF (mA rfl (vF (mA rfl (vE ?_)))))
 cases hs:eJ s with
 | true=>
  obtain⟨c1,c2,c3,c4⟩:=h5 hs
  refine oB (by simp) (zD ?_)
  simp only[if_true];have lb:(iO s).length<=s.length:=by unfold iO;rw[ydj];omega
  refine main (iO s) c2 c1 c3 (by omega) (zeb c2 c1 fun e=>?_) (by unfold tJ;rw[hs];rfl)
  unfold qS at c3;rw[e]at c3;simp at c3;have:(iO s).length=1:=by have:=List.length_pos_iff.2 c1;omega
  match hb:iO s with
  | []=>exact c1 hb
  | [x]=>rw[hb]at e;cases e;exact c4 hb
  | x::y::r=>rw[hb]at this;simp at this
 | false=>
  refine rA rfl (zD ?_)
  simp only[ybq,if_false];have:=main [49] (by decide) (by simp) (by decide) (by simp) (by decide) (by unfold tJ;rw[hs];rfl)
  rwa [HJ hs]at this
end
end
end Go.Proofs
