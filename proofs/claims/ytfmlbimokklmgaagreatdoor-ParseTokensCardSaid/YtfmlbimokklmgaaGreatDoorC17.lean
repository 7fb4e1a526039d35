/- Whole numbers out of texts: times a word. -/
import Derived.Test.YtfmlbimokklmgaaGreatDoorC16
set_option linter.all false
noncomputable section
set_option maxRecDepth 100000
namespace Go.Proofs
open Go Go.Am
variable {a3 b cap k:Nat}{l row:List Nat}
variable [fC]
def el189:Jo yA 189 56 1:=⟨⟨_,kM,rfl,rfl⟩,⟨_,gH,rfl,rfl,by decide,by decide⟩⟩
def nP (l:List Nat):List zA:=l.map fun(n:Nat)=>zA.int .u32 (n:Int)
def BY(l:List Nat):(nP l).length=l.length:=by simp[nP]
theorem cC.words{t:Tr vA}{n:Nat} (h:cC t b none (nP l))(hn:n<=l.length)(hc:n<=cap):aA t 1 (xC .u32 (l.take n)) (.slice b 0 n cap):=by
 obtain⟨c,h1,h2⟩:=h
 refine⟨(l.take n).map fun(x:Nat)=>[zA.int .u32 (x:Int)],.inr ⟨b,0,cap,?_,by simp;omega,⟨c,_,_,h1,.inl rfl⟩,fun i cs hi=>?_⟩,?_⟩
 ·simp;omega
 ·rw[ybu]at hi
  cases hx:(l.take n)[i]? with
  | none=>rw[hx]at hi;cases hi
  | some x=>
   rw[hx]at hi;cases hi;refine⟨rfl,c,_,_,h1,fun j a hj=>?_⟩
   match j,hj with
   | 0,hj=>
    cases hj;rw[show 0+i*1+0=i by omega];refine h2 i _ ?_
    have:=(ybc.1 hx).1
    rw[ydf]at hx;unfold nP;rw[ybu];grind
 ·induction l.take n with
  | nil=>exact sF.2 rfl
  | cons x r ih=>exact aC.2 ⟨_,_,rfl,bK.2 rfl,ih⟩
def cC.le{tf t:Tr vA} {lo:Option Lo}{cs:List zA}(h:cC tf b lo cs)(hl:bA tf t):cC t b lo cs:=by
 obtain⟨c,h1,h2⟩:=h
 exact⟨c,hl _ _ h1,h2⟩
def wU{base:Nat}{W J:wF}{t:Tr vA}{Q:qB}{f:zA}{args:List zA}{K:zA->T}{g:Nat}{a:List zA}(h:cL f args=some (g,a))(k:W g a t (fun v t'=>rA base W J (K v) t' Q)):rA base W J (.callv f args K) t Q:=by
 show sE (cL f args) _
 rw[h];exact k
section
variable {t t0:Tr vA}{Q:qB}
abbrev Cw(a3 b a1 a0:Nat)(row:List Nat)(k cap:Nat)(c:Nat):List jE:=[cB a3 none [.slice b 0 k cap],cB b none (nP row),cB a1 none [.int .u64 (c:Int)],cB a0 none [.ptr a3 0]]
def zgq{a1 a0 c s:Nat} (h:cA yA.base t0 t (Cw a3 b a1 a0 row k cap c))(hk:k<cap)(hcap:cap=row.length)(hs:s+c<18446744073709551616)
  (hQ:∀t',cA yA.base t0 t' (Cw a3 b a1 a0 (row.set k ((s+c)%4294967296)) (k+1) cap ((s+c) / 4294967296))->Q (.tup []) t'):Wc yA F 154 [.int .u64 (s:Int),.ptr a1 0,.ptr a0 0] t Q:=by
 have l1:∀ {t},cA yA.base t0 t (Cw a3 b a1 a0 row k cap c)->mA yA 207 ⟨0,t⟩ (.ptr a1 0)=some (.int .u64 (c:Int)):=fun h=>(cA.cel (A:=[_,_]) h).load1 rQ rfl rfl
 have l2:∀ {t},cA yA.base t0 t (Cw a3 b a1 a0 row k cap c)->mA yA 206 ⟨0,t⟩ (.ptr a0 0)=some (.ptr a3 0):=fun h=>(cA.cel (A:=[_,_,_]) h).load1 ty206 rfl rfl
 have l3:∀ {t},cA yA.base t0 t (Cw a3 b a1 a0 row k cap c)->mA yA 189 ⟨0,t⟩ (.ptr a3 0)=some (.slice b 0 k cap):=fun h=>(cA.cel (A:=[]) h).load1 kM rfl rfl
 have nl:∀b o,rF (.ptr b o)=some (.ptr b o):=fun _ _=>rfl
 refine w154 ?_
 unfold t154 uE;have e1:iA .u64 ((s:Int)+(c:Int))=((s+c:Nat):Int):=by rw[jF (by omega) (by omega)];omega
 have e2:iA .u32 ((s+c:Nat):Int)=(((s+c)%4294967296:Nat):Int):=by rw[bT];omega
 have e3:Int.fdiv ((s+c:Nat):Int) 4294967296=(((s+c) / 4294967296:Nat):Int):=by rw[Int.fdiv_eq_ediv_of_nonneg _ (by omega)];omega
 refine vC (l1 h) (tB ?_)
 rw[e1,e2,e3];refine vC (l2 h) (vC (l2 h) (qA (nl _ _) (vC (l3 h) (iC fun n hn hnb=>?_))))
 obtain⟨t1,g1,g2,g3,g4⟩:=Fc (C:=yA) (T:=189) (ps:=[(0,.int .u32 (((s+c)%4294967296:Nat):Int))]) (cl:=[[.int .u32 (((s+c)%4294967296:Nat):Int)]]) (n:=1) (sz:=1) kM rfl gH rfl rfl (by omega) (by
   have e:pI [zA.int .u32 0] 1=[.int .u32 0]:=rfl
   show dL _ _ (pI [zA.int .u32 0] 1)=_
   rw[e];rfl) (by intro i cs hi;match i,hi with | 0,hi=>cases hi;rfl) rfl hn
 have h1:=h.junk hn g4
 have sm:∀b o,same 10 (.ptr b o) (.ptr b o)=true:=fun b o=>by simp[same,Nat.beq_refl]
 refine⟨_,_,g1,vC (l2 h1) (sA (sm _ _) (vC (l2 h1) (sA (sm _ _) (vC (l3 h1) (sA EG (iC fun n2 _ _=>?_))))))⟩
 have hlow:=h1.low b (by simp[cB])
 obtain⟨t2,k1,k2,k3⟩:=ZP (C:=yA) (n:=n2) (k:=k) (m:=1) (cap:=cap) el189 (cA.cel (A:=[_]) h1) hlow.1 g2 rfl (by omega) (by omega) (by rw[BY];omega) (by intro a ha;simp at ha;subst ha;rfl)
 have e4:jJ (nP row) k [[zA.int .u32 (((s+c)%4294967296:Nat):Int)]].flatten=nP (row.set k ((s+c)%4294967296)):=by
  apply List.ext_getElem?
  intro i;have q1:(nP (row.set k ((s+c)%4294967296)))[i]?=((row.set k ((s+c)%4294967296))[i]?).map fun(n:Nat)=>zA.int .u32 (n:Int):=ybu
  have q2:(nP row)[i]?=(row[i]?).map fun(n:Nat)=>zA.int .u32 (n:Int):=ybu
  rw[Es (by rw[BY];show k+1<=_;omega),q1,q2,ycw]
  show(if k<=i/\i<k+1 then [zA.int .u32 (((s+c)%4294967296:Nat):Int)][i-k]? else _)=_
  by_cases hi:i=k
  ·subst hi
   rw[yab ⟨ybk _,by omega⟩,yab rfl,yab (by omega),Nat.sub_self];rfl
  ·rw[yaa (by omega),yaa (fun e=>hi e.symm)]
 rw[e4]at k2;have h2:cA yA.base t0 t2 (Cw a3 b a1 a0 (row.set k ((s+c)%4294967296)) k cap c):=cA.upd (A:=[_]) (o:=cB b none (nP row)) h1 (fun q hq _=>k3 q (fun e=>hq (by simp[cB,e]))) (fun q hq=>.inl hq) k2 (by simp[cB]) (h1.tle.off hlow.2 k3)
 refine⟨_,_,k1,?_⟩
 have l2':mA yA 206 ⟨0,t2⟩ (.ptr a0 0)=some (.ptr a3 0):=(cA.cel (A:=[_,_,_]) h2).load1 ty206 rfl rfl
 refine vC l2' (sA (sm _ _) (qA (nl _ _) (iC fun n3 _ _=>?_)))
 obtain⟨t3,m1,m2⟩:=cA.setCel (A:=[]) (j:=0) (v:=.slice b 0 (k+1) cap) h2 kM rfl (by show 0+1<=1;omega) rfl
 refine⟨_,_,m1 n3,iC fun n4 _ _=>?_⟩
 obtain⟨t4,p1,p2⟩:=cA.setCel (A:=[_,_]) (j:=0) (v:=.int .u64 (((s+c) / 4294967296:Nat):Int)) m2 rQ rfl (by show 0+1<=1;omega) rfl
 exact⟨_,_,p1 n4,hQ t4 p2⟩
def YJ  (h:cA yA.base t0 t [cB a3 none [.slice b 0 k cap],cB b none (nP row)])(hQ:∀t' a1 a0,cA yA.base t0 t' (Cw a3 b a1 a0 row k cap 0)->Q (.func (.func 154) [] [.ptr a1 0,.ptr a0 0]) t'):Wc yA F 139 [.ptr a3 0] t Q:=by
 refine w139 ?_
 unfold t139;refine iC fun a0 h0 hb0=>?_
 obtain⟨t1,e1,e2,e3,e4⟩:=Su (v:=.ptr a3 0) h0
 have o1:=cA.newCel (A:=[_,_]) (B:=[]) h h0 hb0 e2 e3 e4
 refine⟨_,_,e1,iC fun a1 h1 hb1=>?_⟩
 obtain⟨t2,f1,f2,f3,f4⟩:=iS (C:=yA) rQ h1
 have o2:=cA.newCel (A:=[_,_]) (B:=[_]) o1 h1 hb1 f2 f3 f4
 refine⟨_,_,f1,iC fun n _ _=>?_⟩
 obtain⟨t3,m1,m2⟩:=cA.setCel (A:=[_,_]) (j:=0) (v:=.int .u64 0) o2 rQ rfl (by show 0+1<=1;omega) rfl
 exact⟨_,_,m1 n,hQ t3 a1 a0 m2⟩
theorem zbp {v:zA}{f p:Nat}(hv:aA t 1 (xC .u32 l) v)(hl:l.length<100000)(hlt:jB 4294967296 l)(hf:f<4294967296)(hp:p<4294967296)
  (hQ:∀t' r rv,bA t t'->aA t' 1 (xC .u32 r) rv->jB 4294967296 r->norm r->val 4294967296 r=val 4294967296 l*f+p->r.length<=l.length+1->Q rv t'):Wc yA F 121 [v,.int .u32 (f:Int),.int .u32 (p:Int)] t Q:=by
 have hlen:=hv.len
 rw[kH]at hlen;have ho:cA yA.base t t []:=⟨bA.refl _,by simp,by simp,by simp⟩
 refine w121 ?_
 unfold t121 uI;have e0:xD (l.length:Int)=.int .i64 ((l.length+1:Nat):Int):=by
  show zA.int .i64 (iA .i64 ((l.length:Int)+1))=_
  rw[gC (by omega) (by omega)];rfl
 refine qA hlen (tB (iC fun b hb hbb=>?_))
 rw[e0];obtain⟨t1,g1,g2,g3,g4⟩:=VA (C:=yA) (T:=189) (el:=56) (k:=.u32) (cap:=l.length+1) kM rfl gH rfl rfl (by decide) (by omega) hb
 have hrow:List.replicate (l.length+1) (zA.int .u32 0)=nP (List.replicate (l.length+1) 0):=by
  unfold nP;rw[List.map_replicate];rfl
 rw[hrow]at g2;have o1:=cA.newCel (A:=[]) (B:=[]) ho hb hbb g2 g3 g4
 refine⟨_,_,g1,iC fun a3 h3 hb3=>?_⟩
 obtain⟨t2,f1,f2,f3,f4⟩:=iS (C:=yA) kM h3
 have o2:=cA.newCel (A:=[]) (B:=[_]) o1 h3 hb3 f2 f3 f4
 refine⟨_,_,f1,iC fun n _ _=>?_⟩
 obtain⟨t3,m1,m2⟩:=cA.setCel (A:=[]) (j:=0) (v:=.slice b 0 0 (l.length+1)) o2 kM rfl (by show 0+1<=1;omega) rfl
 refine⟨_,_,m1 n,yB ?_⟩
 rw[q139];refine YJ m2 fun t4 a1 a0 o4=>?_
 have e5:iA .u64 (p:Int)=(p:Int):=jF (by omega) (by omega)
 refine qA hlen (tB (jC ?_))
 rw[e5];have hfn:∀s:Int,cL (.func (.func 154) [] [.ptr a1 0,.ptr a0 0]) [.int .u64 s]=some (154,[.int .u64 s,.ptr a1 0,.ptr a0 0]):=fun s=>rfl
 have loop:∀(k i x c:Nat) (row:List Nat) (t5:Tr vA),i+k=l.length->row.length=l.length+1->jB 4294967296 (row.take i)->x+c<4294967296->val 4294967296 (row.take i)+4294967296^i*(x+c)=val 4294967296 (l.take i)*f+p →
   cA yA.base t t5 (Cw a3 b a1 a0 row i (l.length+1) c)->jp 121 2 [.int .u32 (f:Int),.ptr a3 0,.func (.func 154) [] [.ptr a1 0,.ptr a0 0],.int .u64 (x:Int),v,.int .i64 (l.length:Int),.int .i64 (i:Int)] t5 Q:=by
  intro k;induction k with
  | zero=>
   intro i x c row t5 hi hrl hra hxc hval o5;have hi:i=l.length:=by omega
   subst hi;refine zgd ?_
   unfold Vk;refine sB (by simp[lC]) (wU (hfn _) ?_)
   rw[q154];refine zgq o5 (by omega) hrl.symm (by omega) fun t6 o6=>?_
   have hd0:(x+c) / 4294967296=0:=Nat.div_eq_of_lt hxc
   have hm0:(x+c)%4294967296=x+c:=Nat.mod_eq_of_lt hxc
   rw[hm0]at o6;have lv:mA yA 189 ⟨0,t6⟩ (.ptr a3 0)=some (.slice b 0 (l.length+1) (l.length+1)):=(cA.cel (A:=[]) o6).load1 kM rfl rfl
   refine vC lv (yB ?_)
   obtain⟨c0,y1,y2⟩:=cA.cel (A:=[_]) o6
   have od:=cA.drop (A:=[_]) o6
   have hni:=cA.notin (A:=[_]) (o:=cB b none (nP (row.set l.length (x+c)))) o6 (k:=b) (by simp[cB])
   obtain⟨r1,r2⟩:=od.froze hni y1 (o6.low b (by simp[cB])).2
   have hw:cC (t.set b (.cells c0 (nP (row.set l.length (x+c))).length none)) b none (nP (row.set l.length (x+c))):=⟨c0,by rw[Tr.get_set,yab rfl],y2⟩
   have hR:=cC.words (cC.le hw r1.tle) (n:=l.length+1) (cap:=l.length+1) (by simp[hrl]) (ybk _)
   have hrow:(row.set l.length (x+c)).take (l.length+1)=row.take l.length++[x+c]:=by
    rw[qQ (x:=x+c) (by rw[ycw];simp[hrl])]
    rw[List.take_set_of_le (ybk _)]
   rw[hrow]at hR;obtain⟨v',h1,h2⟩:=Bm (by simp;omega) hR
   rw[Ep,h1,pA];have hlen2:(row.take l.length).length=l.length:=by rw[yda];omega
   refine hQ t6 _ _ (r2.trans r1.tle) h2 (eT (jY hra hxc)) (yW _) ?_ ?_
   ·rw[mV,gN,hlen2,hval,List.take_length]
   ·have:=Kq (row.take l.length++[x+c])
    rw[ybg,hlen2]at this;simpa using this
  | succ k ih=>
   intro i x c row t5 hi hrl hra hxc hval o5;have hx:l[i]?=some l[i]:=ybd (by omega)
   refine zgd ?_
   unfold Vk uL;obtain⟨b',o',cs,h1,h2,_,_,h3⟩:=jG.at (fun _=>rfl) (hv.mono o5.tle) (MA hx)
   have e:=bK.1 h3
   subst e;have hw:l[i]<4294967296:=hlt _ (ycj _)
   have hm:l[i]*f<=4294967295*4294967295:=ydb (by omega) (by omega)
   have e1:iA .u64 (iA .u64 (iA .u64 (l[i]:Int)*iA .u64 (f:Int))+(x:Int))=((l[i]*f+x:Nat):Int):=by
    rw[jF (n:=(l[i]:Int)) (by omega) (by omega),jF (n:=(f:Int)) (by omega) (by omega),<- Int.natCast_mul,jF (n:=((l[i]*f:Nat):Int)) (by omega) (by omega),jF (by omega) (by omega)]
    omega
   refine sA (by rw[lC];exact decide_eq_true (by omega)) (qA h1 (vC h2 (tB ?_)))
   rw[e1];refine wU (hfn _) ?_
   rw[q154];refine zgq o5 (by omega) hrl.symm (by omega) fun t6 o6=>?_
   have e2:xD (i:Int)=.int .i64 ((i+1:Nat):Int):=by
    show zA.int .i64 (iA .i64 ((i:Int)+1))=_
    rw[gC (by omega) (by omega)];rfl
   refine jC ?_
   rw[e2];have hrow:(row.set i ((l[i]*f+x+c)%4294967296)).take (i+1)=row.take i++[(l[i]*f+x+c)%4294967296]:=by
    rw[qQ (x:=(l[i]*f+x+c)%4294967296) (by rw[ycw];simp;omega)]
    rw[List.take_set_of_le (ybk _)]
   have hlen2:(row.take i).length=i:=by rw[yda];omega
   refine ih (i+1) 0 ((l[i]*f+x+c) / 4294967296) _ t6 (by omega) (by simp[hrl]) ?_ (by omega) ?_ o6
   ·rw[hrow];exact jY hra (by omega)
   ·rw[hrow,gN,hlen2,qQ hx,gN,yda,Nat.min_eq_left (by omega),ybo,yag,ybw]
    have key:4294967296*((l[i]*f+x+c) / 4294967296)+(l[i]*f+x+c)%4294967296=l[i]*f+x+c:=ych _ _
    calc val 4294967296 (row.take i)+4294967296^i*((l[i]*f+x+c)%4294967296)+4294967296^i*4294967296*((l[i]*f+x+c) / 4294967296)
      = val 4294967296 (row.take i)+4294967296^i*(4294967296*((l[i]*f+x+c) / 4294967296)+(l[i]*f+x+c)%4294967296):=by grind
     _=(val 4294967296 (row.take i)+4294967296^i*(x+c))+4294967296^i*(l[i]*f):=by rw[key];grind
     _=_:=by rw[hval];grind
 refine loop l.length 0 p 0 _ t4 (by omega) (by simp) (fun x hx=>by simp at hx) (by omega) (by simp[val]) o4
end
end Go.Proofs
namespace Go.Am
open Go Go.RowKit
inductive E where
 | pl (d:D)
 | sl (sz:Nat) (l:List E) (m:List D)
 | st (l:List E)
section
variable {t t' tf:Tr vA}{C:lA}
end
end Go.Am
namespace Go.Am
open Go Go.RowKit
variable {u v:zA}
def limbMs:List D:=(List.range 12).map fun i=>D.int .u16 (((8000024+i)%65536:Nat):Int)
def mK.e(w:mK):E:=.st [.pl (.bool w.neg),.sl 1 ((aD w.limbs).map E.pl) limbMs]
section
variable {t:Tr vA}
theorem Cf{w:mK} (hu:aA t 1 (aD w.limbs) u):RD t w.d [.bool w.neg,u]:=by
 unfold mK.d;rw[dJ];refine⟨[[.bool w.neg],[u]],rfl,?_⟩
 grind [aC,sF,eY,tP]
theorem Ch{f:jH} (hu:aA t 1 (aD f.n.limbs) u)(hv:aA t 1 (aD f.d.limbs) v):RD t f.dd [.bool f.n.neg,u,.bool f.d.neg,v]:=by
 unfold jH.dd;rw[dJ];refine⟨[[.bool f.n.neg,u],[.bool f.d.neg,v]],rfl,?_⟩
 grind [aC,Cf,sF]
theorem Hv{x:mF} (hu:aA t 1 (aD x.f.n.limbs) u)(hv:aA t 1 (aD x.f.d.limbs) v):RD t x.d [.int .u8 x.kind,.bool x.f.n.neg,u,.bool x.f.d.neg,v,.int .i64 x.i]:=by
 unfold mF.d;rw[dJ];refine⟨[[.int .u8 x.kind],[.bool x.f.n.neg,u,.bool x.f.d.neg,v],[.int .i64 x.i]],rfl,?_⟩
 grind [aC,bK,Ch,sF]
theorem Hw{op:Nat}{name:List Nat}{v:mF}{args:List fA}{a b c:zA}(ha:aA t 1 (aD v.f.n.limbs) a)(hb:aA t 1 (aD v.f.d.limbs) b)(hc:aA t 9 (args.map fA.d) c):RD t (fA.mk op name v args).d (Fz (.mk op name v args) a b c):=by
 unfold fA.d Fz;rw[dJ,fA.ds_eq];refine⟨[[.int .u8 op],[.str name],[.int .u8 v.kind,.bool v.f.n.neg,a,.bool v.f.d.neg,b,.int .i64 v.i],[c]],rfl,?_⟩
 rw[aC];refine⟨_,_,rfl,rfl,?_⟩
 rw[aC];refine⟨_,_,rfl,rfl,?_⟩
 grind [aC,Hv,tP,sF]
def mP{sz:Nat}:aA t sz [] .nilslice:=⟨[],.inl ⟨rfl,rfl⟩,sF.2 rfl⟩
end
end Go.Am
namespace Go.Proofs
open Go Go.Am
variable {b el g op sz:Nat}{y z:nD}{v:zA}{ps:List (Nat × zA)}{cl:List (List zA)}{ds:List D}{x:fA}{c cs cx:List zA}{w:List Nat}{l:List (List Nat × Nat)}
variable [fC]
section
variable {tf t:Tr vA}{C:lA}
theorem Fo {z:List zA} (hz:z.length=sz)(hv:v.cells.length=sz):dL (fun i=>some (i*sz,sz)) [(0,v)] (pI z 1)=some v.cells:=by
 have e:pI z 1=z:=by
  show iD z []=_;rw[cG,ycd]
 rw[e];have o1:bU z (0*sz) sz v=some v.cells:=by
  unfold bU;simp only[qD,hv,Nat.zero_mul,ybw,xS,eQ,cG,List.take_zero,yah];rw[kC.2 rfl,qE.2 (by omega)]
  simp only[Bool.and_self,rE];rw[<- hz,List.drop_length,ycd]
 grind [dL,oA]
def litN{T n:Nat}{L:List jE}    (hT:C.tys.get T=some y)(hel:y.desc.asSlice=some el)(hz:C.tys.get el=some z)(hs:z.size=sz)(h0:zB z.zero=sz)(hn:n*sz<1000000)
  (hfill:dL (fun i=>some (i*sz,sz)) ps (pI z.zero n)=some cl.flatten) (hcl:∀(i:Nat) cs,cl[i]?=some cs->cs.length=sz) (hlen:cl.length=n) (hr:zD tf ds cl) (ho:cA C.base tf t L) (hb:t.get b=none) :
  ∃tf' t',eC C T n ps ⟨b,t⟩=some (.slice b 0 n n,⟨b+1,t'⟩)/\bA tf tf'/\cA C.base tf' t' L/\aA tf' sz ds (.slice b 0 n n):=by
 obtain⟨t',h1,h2,h3,h4⟩:=Fc hT hel hz hs h0 hn hfill hcl hlen hb
 have ho':=ho.junk hb h4
 have hfb:=ho.tfn hb
 have hg:t'.get b=some (.cells (Tr.ofList cl.flatten) (zB cl.flatten) none):=by
  have:=h1
  unfold eC at this;rw[hT,oA,hel,oA,hz,oA]at this;rw[wB,hs,hfill,oA]at this;obtain⟨_,h5⟩:=this
  have h5:=(Prod.mk.inj (yci h5)).2
  have h6:t.set b (.cells (Tr.ofList cl.flatten) (zB cl.flatten) none)=t':=(xA.mk.inj h5).2
  rw[<- h6,Tr.get_set,yab rfl]
 obtain⟨k1,k2⟩:=ho'.froze (fun hm=>ho.fresh hb hm) hg hfb
 refine⟨_,t',h1,k2,k1,cl,LS hcl (by rw[Tr.get_set,yab rfl]) (.inl rfl) hlen,zD.mono k2 _ _ hr⟩
end
def gS (x:List Nat × Nat):D:=.st [.str x.1,.int .u8 (x.2:Int)]
theorem rd_op{t:Tr vA}{x:List Nat × Nat} (h:RD t (gS x) cs):cs=[.str x.1,.int .u8 (x.2:Int)]:=by
 grind [gS,dJ,aC,sF,cK,bK]
def zir{t:Tr vA}(x:List Nat × Nat):RD t (gS x) [.str x.1,.int .u8 (x.2:Int)]:=by
 unfold gS;exact dJ.2 ⟨[[.str x.1],[.int .u8 (x.2:Int)]],rfl,aC.2 ⟨_,_,rfl,cK.2 rfl,aC.2 ⟨_,_,rfl,bK.2 rfl,sF.2 rfl⟩⟩⟩
def lL (tf:Tr vA)(x:fA)(v:zA):Prop:=∃cs,v=.agg cs/\RD tf x.d cs
def rdXV (tf:Tr vA)(x:mF)(v:zA):Prop:=∃cs,v=.agg cs/\RD tf x.d cs
abbrev zE:List zA:=[.int .u8 0,.str [],.int .u8 0,.bool false,.nilslice,.bool false,.nilslice,.int .i64 0,.nilslice]
abbrev zV:List zA:=[.int .u8 0,.bool false,.nilslice,.bool false,.nilslice,.int .i64 0]
abbrev cE(X:zH):List zA:=[.int .u8 (X.i 0),.str (X.s 1),.int .u8 (X.i 2),.bool (X.b 3),X.v 4,.bool (X.b 5),X.v 6,.int .i64 (X.i 7),X.v 8]
abbrev cV(X:zH):List zA:=[.int .u8 (X.i 0),.bool (X.b 1),X.v 2,.bool (X.b 3),X.v 4,.int .i64 (X.i 5)]
def Cy{tf:Tr vA}  (h:RD tf x.d cs):cE (cellsOf cs)=cs:=by
 obtain⟨a,b,c,rfl,_⟩:=aJ h
 rfl
def Iy{tf:Tr vA}{x:mF} (h:RD tf x.d cs):cV (cellsOf cs)=cs:=by
 obtain⟨a,b,rfl,_⟩:=bV h
 rfl
def yQ{tf:Tr vA}  (h:RD tf x.d cs):nK zE (.agg cs)=some (cellsOf cs):=tV h (fA.zs _)
def agV{tf:Tr vA}{x:mF} (h:RD tf x.d cs):nK zV (.agg cs)=some (cellsOf cs):=tV h (mF.zs _)
def Fp{tf:Tr vA}  (h:RD tf x.d cs):cs.length=9:=by
 obtain⟨a,b,c,rfl,_⟩:=aJ h
 rfl
section
variable {P:eI}{tf t:Tr vA}{n d:Nat}{Q E:qB}{J:wF}
def St.lit{T k:Nat}    (h:St P tf t n d)(hT:yA.tys.get T=some y)(hel:y.desc.asSlice=some el)(hz:yA.tys.get el=some z)(hs:z.size=sz)(h0:zB z.zero=sz)(hn:k*sz<1000000)
  (hfill:dL (fun i=>some (i*sz,sz)) ps (pI z.zero k)=some cl.flatten) (hcl:∀(i:Nat) cs,cl[i]?=some cs->cs.length=sz) (hlen:cl.length=k) (hr:zD tf ds cl) (hb:t.get b=none) :
  ∃tf' t',eC yA T k ps ⟨b,t⟩=some (.slice b 0 k k,⟨b+1,t'⟩)/\bA tf tf'/\St P tf' t' n d/\aA tf' sz ds (.slice b 0 k k):=by
 obtain⟨tf',t',h1,h2,h3,h4⟩:=litN hT hel hz hs h0 hn hfill hcl hlen hr h.ob hb
 exact⟨tf',t',h1,h2,⟨h.ts.mono h2,h3,h.len,h.le,h.good,h.glob.mono h2⟩,h4⟩
theorem Eu  (h:c.length=sz):∀(i:Nat) cs,[c][i]?=some cs->cs.length=sz:=by
 intro i cs hi;match i,hi with
 | 0,hi=>simp_all
theorem zer {c':List zA}(h:c.length=sz)(h':c'.length=sz):∀(i:Nat) cs,[c,c'][i]?=some cs->cs.length=sz:=by
 intro i cs hi;match i,hi with
 | 0,hi=>simp_all
 | 1,hi=>simp_all
def vP {X Y:T}(h:St P tf t n d)(k1:acc P.tk w n=true->∀t',St P tf t' (n+1) d->rA yA.base (oE yA F mB vE E) J X t' Q)(k2:acc P.tk w n=false->∀t',St P tf t' n d->rA yA.base (oE yA F mB vE E) J Y t' Q) :
  rA yA.base (oE yA F mB vE E) J (.call 72 [.ptr P.bp 0,.str w] fun a=>.asB a fun b=>.ite b X Y) t Q:=by
 refine yB ?_
 rw[pW 72];refine De h fun t' h'=>rD ?_
 cases ha:acc P.tk w n with
 | true=>rw[ha]at h';exact sA rfl (k1 ha t' h')
 | false=>rw[ha]at h';exact sB (by simp) (k2 ha t' h')
def LI  (hv:aA tf 1 [D.str w] v)(h:St P tf t n d)(hk:Ok P rdU d tf (iE P.tk w n) Q E):gI yA F E 57 [.ptr P.bp 0,v] t Q:=by
 refine w57 _ _ ?_
 unfold t57;refine qA hv.len (tB (jC (j57_2 _ _ _ _ ?_)))
 unfold zh6;obtain⟨b,o,cs,h1,h2,_,_,h3⟩:=sl93.at (fun _=>rfl) (hv.mono h.ob.tle) (i:=0) rfl
 have e:cs=[.str w]:=cK.1 h3
 subst e;refine sA (by simp[lC]) (qA h1 (vC h2 (iF (yB ?_))))
 rw[pW 72];refine De h fun t' h'=>rD ?_
 unfold iE at hk
 cases ha:acc P.tk w n with
 | true=>
  rw[ha]at h' hk
  refine sB (by simp) (jC (j57_2 _ _ _ _ ?_))
  unfold zh6;have:(iA .i64 (0+1))=1:=by decide
  rw[this];exact sB (by simp[lC]) (Ok.now hk h' rfl)
 | false=>
  rw[ha]at h' hk
  exact sA rfl (yB (Ok.fail h' hk))
def Al{α:Type}{rd:Tr vA->α->zA->Prop} {f:Unit->Nat->PR α}{K:zA->T}{Q':qB}(h:St P tf t n d)(hk:Ok P rd d tf ((iE P.tk w n).bind f) Q' E)
  (k:∀n1 tf1 t1,bA tf tf1->St P tf1 t1 n1 d->Ok P rd d tf1 (f () n1) Q' E->rA yA.base (oE yA F mB vE E) J (K (.tup [])) t1 Q) :
  rA yA.base (oE yA F mB vE E) J (.heavy (eC yA 93 1 [(0,.str w)]) fun a=>.call 57 [.ptr P.bp 0,a] K) t Q:=by
 refine iC fun b hb _=>?_
 obtain⟨tf1,t1,h1,h2,h3,h4⟩:=h.lit (k:=1) (sz:=1) (ds:=[D.str w]) (cl:=[[.str w]]) ty93 rfl fN rfl rfl (by omega) (Fo (sz:=1) (z:=[.str []]) (v:=.str w) rfl rfl) (Eu rfl) rfl (aC.2 ⟨_,_,rfl,cK.2 rfl,sF.2 rfl⟩) hb
 refine⟨_,_,h1,yB ?_⟩
 rw[pE 57];exact LI h4 h3 ((hk.mono h2).bind fun a n1 tf2 t2 v hr hl hst hrd hk1=>by cases hrd;exact k n1 tf2 t2 (h2.trans hl) hst hk1)
def Xl  (hv:aA tf 2 (l.map gS) v)(hl:l.length<1000)(h:St P tf t n d)
  (hQ:∀t',match aI P.tk l n with | none=>St P tf t' n d->Q (.tup [.int .u8 0,.bool false]) t' | some op=>St P tf t' (n+1) d->Q (.tup [.int .u8 (op:Int),.bool true]) t'):Wc yA F 95 [.ptr P.bp 0,v] t Q:=by
 have loop:∀(k i:Nat) (t:Tr vA),i+k=l.length->St P tf t n d->(∀t',match aI P.tk (l.drop i) n with | none=>St P tf t' n d->Q (.tup [.int .u8 0,.bool false]) t' | some op=>St P tf t' (n+1) d->Q (.tup [.int .u8 (op:Int),.bool true]) t') →
   jp 95 2 [.ptr P.bp 0,v,.int .i64 (l.length:Int),.int .i64 (i:Int)] t Q:=by
  intro k;induction k with
  | zero=>
   intro i t hi h hQ;refine j95_2 ?_
   unfold zh3;have e:l.drop i=[]:=ybt (by omega)
   rw[e]at hQ;exact sB (by simp[lC];omega) (hQ t h)
  | succ k ih=>
   intro i t hi h hQ;refine j95_2 ?_
   unfold zh3 uG uB;have hx:l[i]?=some l[i]:=ybd (by omega)
   have hd:(l.map gS)[i]?=some (gS l[i]):=by rw[ybu,hx];rfl
   obtain⟨b,o,cs,h1,h2,_,_,h3⟩:=sl161.at (fun h=>by cases h) (hv.mono h.ob.tle) hd
   have e:=rd_op h3
   subst e;rw[ybl (by omega:i<l.length)]at hQ
   unfold aI at hQ;rw[List.find?_cons]at hQ;refine sA (by simp[lC];omega) (qA h1 (vC h2 (nC (X:=cellsOf [.str l[i].1,.int .u8 (l[i].2:Int)]) (uO rfl) (sA rfl ?_))))
   refine yB ?_
   rw[q72];refine De h fun t' h'=>rD ?_
   have e1:(cellsOf [.str l[i].1,.int .u8 (l[i].2:Int)]).s 0=l[i].1:=rfl
   have e2:(cellsOf [.str l[i].1,.int .u8 (l[i].2:Int)]).i 1=(l[i].2:Int):=rfl
   rw[e1]at h' ⊢
   cases ha:acc P.tk l[i].1 n with
   | true=>
    rw[ha]at h' hQ
    refine sA rfl ?_
    rw[e2];exact hQ t' h'
   | false=>
    rw[ha]at h' hQ
    refine sB (by simp) (jC ?_)
    have:xD (i:Int)=.int .i64 ((i+1:Nat):Int):=by
     show zA.int .i64 (iA .i64 ((i:Int)+1))=_
     rw[gC (by omega) (by omega)];rfl
    rw[this];exact ih (i+1) t' (by omega) h' hQ
 refine w95 ?_
 unfold t95;have hlen:=hv.len
 rw[ybf]at hlen;exact qA hlen (tB (jC (loop l.length 0 t (by omega) h (by simpa using hQ))))
def dI(P:eI)(d:Nat)(o:PM fA)(g:Nat):Prop:=∀(tf t:Tr vA) (n:Nat) (Q E:qB),St P tf t n d->Ok P lL d tf (o n) Q E->gI yA F E g [.ptr P.bp 0] t Q
def Up {α:Type}(o:PM α):Prop:=∀n a n',o n=.ok a n'->n<=n'
def ziq  (h:aI P.tk l n=some op):n<P.tk.length:=by
 unfold aI at h
 cases hx:l.find? fun o=>acc P.tk o.1 n with
 | none=>rw[hx]at h;cases h
 | some x=>exact Nr (List.find?_some (p:=fun o:List Nat × Nat=>acc P.tk o.1 n) hx)
def Sy{tf:Tr vA} {y:fA} (h:aA tf 9 [x.d,y.d] v):RD tf (mY op x y).d [.int .u8 (op:Int),.str [],.int .u8 0,.bool false,.nilslice,.bool false,.nilslice,.int .i64 0,v]:=by
 unfold mY;exact Hw (v:=cJ) mP mP h
def un_rd{tf:Tr vA}    (h:aA tf 9 [x.d] v):RD tf (unX op w x).d [.int .u8 (op:Int),.str w,.int .u8 0,.bool false,.nilslice,.bool false,.nilslice,.int .i64 0,v]:=by
 unfold unX;exact Hw (v:=cJ) mP mP h
def zis (h:zA.one v=true){a:zA}(ha:zA.one a=true):kB zA.one [a,v]=true:=by
 rw[nI];simp[h,ha]
def St.pair {y:fA}{cy:List zA}(h:St P tf t n d)(hx:RD tf x.d cx)(hy:RD tf y.d cy)(hb:t.get b=none) :
  ∃tf' t',eC yA 48 2 [(0,.agg cx),(1,.agg cy)] ⟨b,t⟩=some (.slice b 0 2 2,⟨b+1,t'⟩)/\bA tf tf'/\St P tf' t' n d/\aA tf' 9 [x.d,y.d] (.slice b 0 2 2):=
 h.lit (ds:=[x.d,y.d]) (cl:=[cx,cy]) ty48 rfl Gt rfl rfl (by omega) (KW rfl (Fp hx) (Fp hy)) (zer (Fp hx) (Fp hy)) rfl (aC.2 ⟨_,_,rfl,hx,aC.2 ⟨_,_,rfl,hy,sF.2 rfl⟩⟩) hb
def St.sole   (h:St P tf t n d)(hx:RD tf x.d cx)(hb:t.get b=none) :
  ∃tf' t',eC yA 48 1 [(0,.agg cx)] ⟨b,t⟩=some (.slice b 0 1 1,⟨b+1,t'⟩)/\bA tf tf'/\St P tf' t' n d/\aA tf' 9 [x.d] (.slice b 0 1 1):=by
 have hf:dL (fun i=>some (i*9,9)) [(0,.agg cx)] (pI zE 1)=some [cx].flatten:=by
  rw[Fo (sz:=9) (z:=zE) (v:=.agg cx) rfl (Fp hx)];show some cx=_;simp
 exact h.lit (k:=1) (sz:=9) (ds:=[x.d]) (cl:=[cx]) (ps:=[(0,.agg cx)]) ty48 rfl Gt rfl rfl (by omega) hf (Eu (Fp hx)) rfl (aC.2 ⟨_,_,rfl,hx,sF.2 rfl⟩) hb
def NF (hg:Nat.blt g pn=true)  : cL (.func (.func g) [v] []) []=some (g,[v]):=by
 unfold cL;simp only[zA.asFunc,oA,hg,rE];rfl
def YQ{o:PM fA}   (ho:dI P d o g)(hup:Up o)(hg:Nat.blt g pn=true)(hp1:(mB g&&Nat.blt g yo)=false)(hp2:Nat.beq g pn=false)(hp3:(vE g&&Nat.blt g pn)=true)(hl:l.length<1000) :
  ∀(m n:Nat) (x:fA) (cs:List zA) (tf t:Tr vA) (Q E:qB),P.tk.length-n<=m->St P tf t n d->aA tf 2 (l.map gS) v->RD tf x.d cs->Ok P lL d tf (aM P.tk o l m x n) Q E->wH E 68 2 ([.ptr P.bp 0,.func (.func g) [.ptr P.bp 0] [],v]++zE++cs) t Q:=by
 intro m;induction m with
 | zero=>
  intro n x cs tf t Q E hm h hv hx hk;obtain⟨a,b,c,rfl,_⟩:=aJ hx
  refine j68_2 _ _ _ _ _ _ _ _ _ _ _ _ _ _ _ _ _ _ _ _ _ ?_
  unfold zh5;refine yB ?_
  rw[pW 95];have hn:aI P.tk l n=none:=by
   cases hx:aI P.tk l n with
   | none=>rfl
   | some op=>have:=ziq hx;omega
  refine Xl hv hl h fun t'=>?_
  rw[hn];intro h';refine qA rfl (tB (qA rfl (rD (sA rfl (sA hx.all ?_)))))
  exact Ok.now hk h' ⟨_,rfl,hx⟩
 | succ m ih=>
  intro n x cs tf t Q E hm h hv hx hk;obtain⟨a,b,c,rfl,_⟩:=aJ hx
  refine j68_2 _ _ _ _ _ _ _ _ _ _ _ _ _ _ _ _ _ _ _ _ _ ?_
  unfold zh5;refine yB ?_
  rw[pW 95];refine Xl hv hl h fun t'=>?_
  unfold aM at hk
  cases hop:aI P.tk l n with
  | none=>
   rw[hop]at hk;intro h';refine qA rfl (tB (qA rfl (rD (sA rfl (sA hx.all ?_)))))
   exact Ok.now hk h' ⟨_,rfl,hx⟩
  | some op=>
   rw[hop]at hk;intro h';refine qA rfl (tB (qA rfl (rD (sB (by simp) (wU (NF hg) ?_)))))
   have e:∀a R,oE yA F mB vE E g a t' R=gI yA F E g a t' R:=fun a R=>by unfold oE;rw[hp1,hp2,hp3];simp
   rw[e];refine ho _ _ _ _ _ h' (hk.bind fun y n1 tf1 t1 vy hr hle hst hrd hk1=>?_)
   obtain⟨cy,rfl,hy⟩:=hrd
   have hn1:=hup _ _ _ hr
   obtain⟨a',b',c',rfl,_⟩:=aJ hy
   refine nC (yQ hy) (sA hy.all (iC fun b hb _=>?_))
   have hx1:=RD.mono hle _ _ hx
   obtain⟨tf2,t2,k1,k2,k3,k4⟩:=hst.pair hx1 hy hb
   refine⟨_,_,k1,?_⟩
   refine sA (zis rfl rfl) (sA (Sy k4).all (jC ?_))
   exact ih n1 (mY op x y) _ tf2 t2 Q E (by omega) k3 (hv.mono (hle.trans k2)) (Sy k4) (hk1.mono k2)
end
end Go.Proofs
namespace Go.Proofs
open Go Go.Am
section
variable {l:List (List Nat × Nat)}{v:zA}{b op op':Nat}{w w':List Nat}
variable [fC]
def PR.bind_ok{α β:Type}{r:PR α}{f:α->Nat->PR β}{b:β}{n:Nat}(h:r.bind f=.ok b n):∃a n1,r=.ok a n1/\f a n1=.ok b n:=by
 cases r with
 | ok a n1=>exact⟨a,n1,rfl,h⟩
 | er e i=>cases h
section
variable {tk:List wC}{o:PM fA}
def zar(h:Up o)  : ∀(m:Nat) (x:fA) (n:Nat) (y:fA) (n':Nat),aM tk o l m x n=.ok y n'->n<=n':=by
 intro m;induction m with
 | zero=>intro x n y n' hh;cases hh;exact ybk _
 | succ m ih=>
  intro x n y n' hh;unfold aM at hh
  cases hop:aI tk l n with
  | none=>rw[hop]at hh;cases hh;exact ybk _
  | some op=>
   rw[hop]at hh;obtain⟨a,n1,h1,h2⟩:=PR.bind_ok hh
   have:=h _ _ _ h1
   have:=ih _ _ _ _ h2
   omega
def Nj(h:Up o)  : Up (xR tk o l):=by
 intro n a n' hh;obtain⟨x,n1,h1,h2⟩:=PR.bind_ok hh
 have:=h _ _ _ h1
 have:=zar h _ _ _ _ _ h2
 omega
def zd5(h:Up o):Up (Au tk o):=by
 intro n a n' hh;obtain⟨x,n1,h1,h2⟩:=PR.bind_ok hh
 have hs:Up (jV tk o):=Nj (Nj h)
 have:=hs _ _ _ h1
 cases hop:aI tk [([60],13),([61],14)] n1 with
 | none=>rw[hop]at h2;cases h2;assumption
 | some op=>
  rw[hop]at h2;obtain⟨y,n2,h3,h4⟩:=PR.bind_ok h2
  have:=hs _ _ _ h3
  cases h4;omega
def GW(h:Up o):Up (yY tk o):=by
 intro n a n' hh;obtain⟨x,n1,h1,h2⟩:=PR.bind_ok hh
 have:=zd5 h _ _ _ h1
 cases h2;omega
def MK(h:Up o):Up (Iu tk o):=Nj (GW h)
def LF(h:Up o):Up (wP tk o):=Nj (MK h)
end
section
variable {P:eI}{tf t:Tr vA}{n d:Nat}{Q E:qB}{J:wF}{o:PM fA}{g:Nat}
def Wo{W:wF}{x:fA} (hrd:lL tf x v)(k:Q v t):rA yA.base W J (.asG zE v fun X=>.ite (kB zA.one (cE X)) (.ret (.agg (cE X))) .fail) t Q:=by
 obtain⟨cs,rfl,hx⟩:=hrd
 obtain⟨a,b,c,rfl,_⟩:=aJ hx
 exact nC (yQ hx) (sA hx.all k)
def MZ  (ho:dI P d o g)(hup:Up o)(hl:l.length<1000)(h:St P tf t n d)(hv:aA tf 2 (l.map gS) v)(hk:Ok P lL d tf (xR P.tk o l n) Q E)
  (hg:Nat.blt g pn=true:=by kernel_rfl) (hp1:(mB g&&Nat.blt g yo)=false:=by kernel_rfl) (hp2:Nat.beq g pn=false:=by kernel_rfl) (hp3:(vE g&&Nat.blt g pn)=true:=by kernel_rfl):gI yA F E 68 [.ptr P.bp 0,.func (.func g) [.ptr P.bp 0] [],v] t Q:=by
 refine w68 _ _ _ ?_
 unfold t68;refine wU (NF hg) ?_
 have e:∀a R,oE yA F mB vE E g a t R=gI yA F E g a t R:=fun a R=>by unfold oE;rw[hp1,hp2,hp3];simp
 rw[e];refine ho _ _ _ _ _ h (hk.bind fun x n1 tf1 t1 vy hr hle hst hrd hk1=>?_)
 obtain⟨cs,rfl,hx⟩:=hrd
 have hx':=hx
 obtain⟨a,b,c,rfl,_⟩:=aJ hx
 refine nC (yQ hx) (sA hx.all (jC ?_))
 exact YQ ho hup hg hp1 hp2 hp3 hl P.tk.length n1 x _ tf1 t1 Q E (Nat.sub_le _ _) hst (hv.mono hle) hx' hk1
def St.ops1   (h:St P tf t n d)(hb:t.get b=none) :
  ∃tf' t',eC yA 161 1 [(0,.agg [.str w,.int .u8 (op:Int)])] ⟨b,t⟩=some (.slice b 0 1 1,⟨b+1,t'⟩)/\bA tf tf'/\St P tf' t' n d/\aA tf' 2 ([(w,op)].map gS) (.slice b 0 1 1):=by
 have hf:dL (fun i=>some (i*2,2)) [(0,.agg [.str w,.int .u8 (op:Int)])] (pI [.str [],.int .u8 0] 1)=some [[zA.str w,.int .u8 (op:Int)]].flatten:=by
  rw[Fo (sz:=2) (z:=[.str [],.int .u8 0]) (v:=.agg [.str w,.int .u8 (op:Int)]) rfl rfl];rfl
 exact h.lit (k:=1) (sz:=2) (ds:=[gS (w,op)]) (cl:=[[.str w,.int .u8 (op:Int)]]) zhi rfl zhk rfl rfl (by omega) hf (Eu rfl) rfl (aC.2 ⟨_,_,rfl,zir (w,op),sF.2 rfl⟩) hb
def St.ops2   (h:St P tf t n d)(hb:t.get b=none) :
  ∃tf' t',eC yA 161 2 [(0,.agg [.str w,.int .u8 (op:Int)]),(1,.agg [.str w',.int .u8 (op':Int)])] ⟨b,t⟩=some (.slice b 0 2 2,⟨b+1,t'⟩)/\bA tf tf'/\St P tf' t' n d/\aA tf' 2 ([(w,op),(w',op')].map gS) (.slice b 0 2 2):=
 h.lit (k:=2) (sz:=2) (ds:=[gS (w,op),gS (w',op')]) (cl:=[[.str w,.int .u8 (op:Int)],[.str w',.int .u8 (op':Int)]]) zhi rfl zhk rfl rfl (by omega) (KW rfl rfl rfl) (zer rfl rfl) rfl (aC.2 ⟨_,_,rfl,zir (w,op),aC.2 ⟨_,_,rfl,zir (w',op'),sF.2 rfl⟩⟩) hb
def zgs  (ho:dI P d o g)(hup:Up o)(h:St P tf t n d)(hk:Ok P lL d tf (xR P.tk o [(w,op),(w',op')] n) Q E)
  (hg:Nat.blt g pn=true:=by kernel_rfl) (hp1:(mB g&&Nat.blt g yo)=false:=by kernel_rfl) (hp2:Nat.beq g pn=false:=by kernel_rfl) (hp3:(vE g&&Nat.blt g pn)=true:=by kernel_rfl) :
  rA yA.base (oE yA F mB vE E) J (.heavy (eC yA 161 2 [(0,.agg [.str w,.int .u8 (op:Int)]),(1,.agg [.str w',.int .u8 (op':Int)])]) fun a=>.call 68 [.ptr P.bp 0,.func (.func g) [.ptr P.bp 0] [],a] fun v=>.asG zE v fun X=>.ite (kB zA.one (cE X)) (.ret (.agg (cE X))) .fail) t Q:=by
 refine iC fun b hb _=>?_
 obtain⟨tf1,t1,h1,h2,h3,h4⟩:=h.ops2 (w:=w) (w':=w') (op:=op) (op':=op') hb
 refine⟨_,_,h1,yB ?_⟩
 rw[pE 68];refine MZ ho hup (by simp) h3 h4 ?_ hg hp1 hp2 hp3
 have hk:=hk.mono h2
 revert hk
 generalize xR P.tk o [(w,op),(w',op')] n=r
 intro hk
 cases r with
 | ok x n1=>exact fun tf2 t2 v k1 k2 k3=>Wo k3 (hk tf2 t2 v k1 k2 k3)
 | er e i=>exact hk
def zgt  (ho:dI P d o g)(hup:Up o)(h:St P tf t n d)(hk:Ok P lL d tf (xR P.tk o [(w,op)] n) Q E)
  (hg:Nat.blt g pn=true:=by kernel_rfl) (hp1:(mB g&&Nat.blt g yo)=false:=by kernel_rfl) (hp2:Nat.beq g pn=false:=by kernel_rfl) (hp3:(vE g&&Nat.blt g pn)=true:=by kernel_rfl) :
  rA yA.base (oE yA F mB vE E) J (.heavy (eC yA 161 1 [(0,.agg [.str w,.int .u8 (op:Int)])]) fun a=>.call 68 [.ptr P.bp 0,.func (.func g) [.ptr P.bp 0] [],a] fun v=>.asG zE v fun X=>.ite (kB zA.one (cE X)) (.ret (.agg (cE X))) .fail) t Q:=by
 refine iC fun b hb _=>?_
 obtain⟨tf1,t1,h1,h2,h3,h4⟩:=h.ops1 (w:=w) (op:=op) hb
 refine⟨_,_,h1,yB ?_⟩
 rw[pE 68];refine MZ ho hup (by simp) h3 h4 ?_ hg hp1 hp2 hp3
 have hk:=hk.mono h2
 revert hk
 generalize xR P.tk o [(w,op)] n=r
 intro hk
 cases r with
 | ok x n1=>exact fun tf2 t2 v k1 k2 k3=>Wo k3 (hk tf2 t2 v k1 k2 k3)
 | er e i=>exact hk
def zil(ho:dI P d o 161)(hup:Up o):dI P d (Lk P.tk o) 151:=fun tf t n Q E h hk=>by
 refine w151 _ ?_
 unfold t151;exact sA rfl (sA rfl (zgs ho hup h hk))
def zfd(ho:dI P d o 161)(hup:Up o):dI P d (jV P.tk o) 135:=fun tf t n Q E h hk=>by
 refine w135 _ ?_
 unfold t135;exact sA rfl (sA rfl (zgs (zil ho hup) (Nj hup) h hk))
def zkp(ho:dI P d o 161)(hup:Up o):dI P d (Au P.tk o) 117:=fun tf t n Q E h hk=>by
 refine w117 _ ?_
 unfold t117;refine yB ?_
 rw[pE 135];refine zfd ho hup _ _ _ _ _ h (hk.bind fun x n1 tf1 t1 v hr hle hst hrd hk1=>?_)
 obtain⟨cs,rfl,hx⟩:=hrd
 obtain⟨a,b,c,rfl,_⟩:=aJ hx
 refine nC (yQ hx) (sA hx.all (sA rfl (sA rfl (iC fun b hb _=>?_))))
 obtain⟨tf2,t2,k1,k2,k3,k4⟩:=hst.ops2 (w:=[60]) (op:=13) (w':=[61]) (op':=14) hb
 refine⟨_,_,k1,yB ?_⟩
 rw[pW 95];refine Xl k4 (by simp) k3 fun t3=>?_
 cases hop:aI P.tk [([60],13),([61],14)] n1 with
 | none=>
  rw[hop]at hk1;intro h';have hx2:=RD.mono k2 _ _ hx
  exact qA rfl (tB (qA rfl (rD (sA rfl (sA hx.all (Ok.now (hk1.mono k2) h' ⟨_,rfl,hx2⟩))))))
 | some op=>
  rw[hop]at hk1;intro h';refine qA rfl (tB (qA rfl (rD (sB (by simp) (yB ?_)))))
  rw[pE 135];refine zfd ho hup _ _ _ _ _ h' ((hk1.mono k2).bind fun y n2 tf3 t4 v hr2 hle2 hst2 hrd2 hk2=>?_)
  obtain⟨cs2,rfl,hy⟩:=hrd2
  obtain⟨a',b',c',rfl,_⟩:=aJ hy
  refine nC (yQ hy) (sA hy.all (iC fun b hb _=>?_))
  obtain⟨tf4,t5,m1,m2,m3,m4⟩:=hst2.pair (RD.mono (k2.trans hle2) _ _ hx) hy hb
  exact⟨_,_,m1,sA (zis rfl rfl) (sA (Sy m4).all (Ok.now (hk2.mono m2) m3 ⟨_,rfl,Sy m4⟩))⟩
def OI{k:Nat}{Q:qB}{P:eI}{n d:Nat}:∀(k:Nat) (x:fA) (cs:List zA) (tf t:Tr vA),k<1000000000->St P tf t n d->RD tf x.d cs->Ok P lL d tf (.ok (bY k x) n) Q E->wH E 96 6 ([.int .i64 (k:Int)]++zE++cs) t Q:=by
 intro k;induction k with
 | zero=>
  intro x cs tf t _ h hx hk;obtain⟨a,b,c,rfl,_⟩:=aJ hx
  refine j96_6 _ _ _ _ _ _ _ _ _ _ _ _ _ _ _ _ _ _ _ ?_
  unfold zh1;exact sB (by simp[lC]) (sA hx.all (Ok.now hk h ⟨_,rfl,hx⟩))
 | succ k ih=>
  intro x cs tf t hkl h hx hk;obtain⟨a,b,c,rfl,_⟩:=aJ hx
  refine j96_6 _ _ _ _ _ _ _ _ _ _ _ _ _ _ _ _ _ _ _ ?_
  unfold zh1;refine sA (by rw[lC];exact decide_eq_true (by omega)) (iC fun b hb _=>?_)
  obtain⟨tf1,t1,h1,h2,h3,h4⟩:=h.sole hx hb
  have hu:=un_rd (op:=17) (w:=[]) h4
  refine⟨_,_,h1,sA (zis rfl rfl) (sA hu.all (jC ?_))⟩
  have e:iA .i64 (((k+1:Nat):Int)-1)=(k:Int):=by rw[gC (by omega) (by omega)];omega
  rw[e];exact ih (unX 17 [] x) _ tf1 t1 (by omega) h3 hu (hk.mono h2)
def Xr{tk:List wC}:∀(m m' n:Nat),tk.length<=n+m->tk.length<=n+m'->jL tk m n=jL tk m' n:=by
 have z:∀m n,tk.length<=n->jL tk m n=0:=by
  intro m n h
  cases m with
  | zero=>rfl
  | succ m=>
   unfold jL;rw[yaa];intro ha;have:=Nr (P:=⟨tk,0,.nilptr,0,0,[]⟩) ha
   have:n<tk.length:=this
   omega
 intro m;induction m with
 | zero=>intro m' n h1 h2;rw[z 0 n (by omega),z m' n (by omega)]
 | succ m ih=>
  intro m' n h1 h2
  cases m' with
  | zero=>rw[z (m+1) n (by omega),z 0 n (by omega)]
  | succ m'=>
   unfold jL;split
   ·rw[ih m' (n+1) (by omega) (by omega)]
   ·rfl
def zix(ho:dI P d o 161)(hup:Up o):dI P d (yY P.tk o) 96:=fun tf t n Q E h hk=>by
 refine w96 _ ?_
 unfold t96;refine jC ?_
 have loop:∀(m i n:Nat) (t:Tr vA),jL P.tk P.tk.length n=m->i<=n->St P tf t n d->Ok P lL d tf ((Au P.tk o (n+m)).bind fun x n'=>.ok (bY (i+m) x) n') Q E->wH E 96 2 ([.ptr P.bp 0,.int .i64 (i:Int)]++zE) t Q:=by
  intro m;induction m with
  | zero=>
   intro i n t hm hi h hk;refine j96_2 _ _ _ _ _ _ _ _ _ _ _ ?_
   unfold zh2;have hl:=h.len
   refine vP h (fun ha t' h'=>?_) fun ha t' h'=>?_
   ·have:n<P.tk.length:=Nr ha
    rw[Xr _ (P.tk.length+1) _ (by omega) (by omega)]at hm
    unfold jL at hm;rw[yab ha]at hm
    cases hm
   ·refine yB ?_
    rw[pE 117];refine zkp ho hup _ _ _ _ _ h' (hk.bind fun x n1 tf1 t1 v hr hle hst hrd hk1=>?_)
    obtain⟨cs,rfl,hx⟩:=hrd
    have hx':=hx
    obtain⟨a,b,c,rfl,_⟩:=aJ hx
    refine nC (yQ hx) (sA hx.all (jC ?_))
    exact OI (k:=0) i x _ tf1 t1 (by have:=h.le;omega) hst hx' hk1
  | succ m ih=>
   intro i n t hm hi h hk;refine j96_2 _ _ _ _ _ _ _ _ _ _ _ ?_
   unfold zh2;have hl:=h.len
   refine vP h (fun ha t' h'=>?_) fun ha t' h'=>?_
   ·have hlt:n<P.tk.length:=Nr ha
    rw[Xr _ (P.tk.length+1) _ (by omega) (by omega)]at hm
    unfold jL at hm;rw[yab ha]at hm;have e:iA .i64 ((i:Int)+1)=((i+1:Nat):Int):=by rw[gC (by omega) (by omega)];rfl
    refine jC ?_
    rw[e];exact ih (i+1) (n+1) t' (by omega) (by omega) h' (by rwa [show n+1+m=n+(m+1) by omega,show i+1+m=i+(m+1) by omega])
   ·rw[Xr _ (P.tk.length+1) _ (by omega) (by omega)]at hm
    unfold jL at hm;rw[yaa (by simp[ha])]at hm
    cases hm
 exact loop _ 0 n t rfl (by omega) h (by rw[ybw];exact hk)
def zkn(ho:dI P d o 161)(hup:Up o):dI P d (Iu P.tk o) 69:=fun tf t n Q E h hk=>by
 refine w69 _ ?_
 unfold t69;exact sA rfl (zgt (zix ho hup) (GW hup) h hk)
def Zp(ho:dI P d o 161)(hup:Up o):dI P d (wP P.tk o) 42:=fun tf t n Q E h hk=>by
 refine w42 _ ?_
 unfold t42;exact sA rfl (zgt (zkn ho hup) (MK hup) h hk)
end
end
section
variable {i:Nat}{f:Nat->List Nat}
variable [fC]
structure Di:Prop where
 frac:∀ {s:List Nat} {neg:Bool} {tf t:Tr vA} {L:List jE} {Q:qB},bR s->cA yA.base tf t L->(∀tf' t' cs,bA tf tf'->cA yA.base tf' t' L->RD tf' (tI s neg).dd cs->Q (.agg cs) t')->Wc yA F 74 [.str s,.bool neg] t Q
 int:∀ {s:List Nat} {neg:Bool} {lo hi:Int} {t:Tr vA},bR s->vH s=false -> -4294967296<=lo->hi<=4294967296->∃i:Int,uC yA F 102 [.str s,.bool neg,.int .i64 lo,.int .i64 hi] t=some (.tup [.int .i64 i,.bool (fL s neg lo hi).isSome])/\∀j,fL s neg lo hi=some j->i=j
 date:∀ {s:List Nat} {t:Tr vA},bI t->Sm s->uC yA F 97 [.str s] t=some (.tup [.int .i64 (((Aq s).getD 0:Nat):Int),.int .i64 0])
def MD:∀s:List Nat,As [47] s=vH s:=by
 intro s;unfold vH;induction s with
 | nil=>rfl
 | cons b s ih=>
  unfold As;rw[ih,List.contains_cons];have e:lU [47] (b::s)=(47 == b):=by
   show(bif Nat.beq 47 b then lU [] s else false)=_
   have:lU [] s=true:=by cases s<;>rfl
   rw[this]
   cases h:Nat.beq 47 b with
   | true=>rw[kC.1 h];simp
   | false=>
    have:¬ 47=b:=fun e=>by rw[e,Nat.beq_refl]at h;cases h
    simp[this]
  rw[e]
  cases (47 == b)<;>rfl
def Oy{tk:List wC}{k n n1:Nat}{a:List Nat}(h:uF tk k n=.ok a n1):wE tk k n=true/\a=aF tk n/\n1=n+1:=by
 unfold uF at h;split at h
 ·cases h;exact⟨by assumption,rfl,rfl⟩
 ·cases h
section
variable {P:eI}{tf t:Tr vA}{n d:Nat}{Q E:qB}{J:wF}{o:PM fA}
theorem St.at(h:St P tf t n d){k i:Nat}(hk:wE P.tk k i=true):∃x∈P.tk,x.kind=k/\x.text=aF P.tk i:=by
 unfold wE at hk;unfold aF
 cases hx:P.tk[i]? with
 | none=>rw[hx]at hk;cases hk
 | some x=>rw[hx]at hk;exact⟨x,ycv hx,of_decide_eq_true hk,rfl⟩
def St.num(h:St P tf t n d) (hk:wE P.tk 2 i=true):bR (aF P.tk i):=by
 obtain⟨x,h1,h2,h3⟩:=h.at hk
 rw[<- h3];exact(h.good x h1).1 h2
def St.date(h:St P tf t n d) (hk:wE P.tk 3 i=true):Sm (aF P.tk i):=by
 obtain⟨x,h1,h2,h3⟩:=h.at hk
 rw[<- h3];exact(h.good x h1).2 h2
def Ng(hL:Di)(h:St P tf t n d)(hk:Ok P rdInt d tf (cM P.tk n) Q E):gI yA F E 73 [.ptr P.bp 0] t Q:=by
 refine w73 _ ?_
 unfold t73;refine yB ?_
 rw[pE 59];refine Bp (k:=3) (by omega) h (hk.bind fun a n1 tf1 t1 v hr hle hst hrd hk1=>?_)
 obtain⟨x,_,e,rfl⟩:=hrd
 obtain⟨h1,h2,_⟩:=Oy hr
 have hd:=h.date h1
 rw[<- h2]at hd;refine nC (zQ _) (yB ?_)
 rw[pQ 97,cT1,e,hL.date (hst.glob.mono hst.ob.tle) hd,pA]
 exact qA rfl (tB (qA rfl (tB (Ok.now hk1 hst rfl))))
def BK{ty b:Nat} (hT:yA.tys.get ty=some ⟨.arr 7 9,7,112,[.str [],.str [],.str [],.str [],.str [],.str [],.str []],true⟩)(h:At t b 0 ((List.range 7).map fun i=>.str (f i))) (hi:i<7) :
  sC yA ty (.ptr b 0) (.int .u8 (i:Int))=some (.ptr b (0+i))/\mA yA 9 ⟨0,t⟩ (.ptr b (0+i))=some (.str (f i)):=by
 refine⟨?_,h.load1 fN rfl ?_⟩
 ·unfold sC
  rw[hT,oA];have e:(zA.int .u8 (i:Int)).asNat=some i:=rfl
  rw[e,oA];simp only[zA.asSlice];simp only[zA.asPtr,mE.asArr,oA];rw[fN,oA,qC.2 hi,rE,Nat.mul_one]
 ·rw[ybu,List.getElem?_range hi];rfl
def zi0(hg:bI t) (hi:i<256):uC yA F 188 [.int .u8 (i:Int)] t=some (.str (vT i)):=by
 refine fD.2 (w188 ?_)
 unfold t188 uS;have hw:iA .i64 (i:Int)=(i:Int):=gC (by omega) (by omega)
 by_cases h7:i<7
 ·obtain⟨h1,h2⟩:=BK ty201 hg.2.1 h7
  exact sA (by rw[lC];unfold uW;rw[hw];exact decide_eq_true (by omega)) (qA h1 (vC h2 (iF ⟨rfl,rfl⟩)))
 ·refine sB (by rw[lC];unfold uW;rw[hw];simp;omega) ⟨?_,rfl⟩
  have:vT i=[]:=by
   match i,h7 with
   | i+7,_=>rfl
  rw[this]
def zjk(hg:bI t) (hi:i<256):uC yA F 111 [.int .u8 (i:Int)] t=some (.str (Fe i)):=by
 refine fD.2 (w111 ?_)
 unfold t111 uS;have hw:iA .i64 (i:Int)=(i:Int):=gC (by omega) (by omega)
 by_cases h7:i<7
 ·obtain⟨h1,h2⟩:=BK ty201 hg.1 h7
  exact sA (by rw[lC];unfold uW;rw[hw];exact decide_eq_true (by omega)) (qA h1 (vC h2 (iF ⟨rfl,rfl⟩)))
 ·refine sB (by rw[lC];unfold uW;rw[hw];simp;omega) ⟨?_,rfl⟩
  have:Fe i=[]:=by
   match i,h7 with
   | i+7,_=>rfl
  rw[this]
def MT {g most:Nat}(hf:∀(t:Tr vA),bI t->∀i:Nat,i<256->uC yA F g [.int .u8 (i:Int)] t=some (.str (f i)))(hg:Nat.blt g pn=true)(hp:(mB g&&Nat.blt g yo)=true)(hm:most<200)(h:St P tf t n d)(hk:Ok P rdU8 d tf (wK P.tk f most most 1 n) Q E):gI yA F E 110 [.ptr P.bp 0,.int .u8 1,.int .u8 (most:Int),.func (.func g) [] []] t Q:=by
 refine w110 _ _ _ _ ?_
 unfold t110;refine jC ?_
 have loop:∀(k i:Nat) (t:Tr vA),i+k=most+1->St P tf t n d->Ok P rdU8 d tf (wK P.tk f most k i n) Q E->wH E 110 2 [.ptr P.bp 0,.int .u8 (most:Int),.func (.func g) [] [],.int .u8 (i:Int)] t Q:=by
  intro k;induction k with
  | zero=>
   intro i t hi h hk;refine zgg _ _ _ _ ?_
   unfold Vn;exact sB (by rw[rS];simp;omega) (yB (Ok.fail h hk))
  | succ k ih=>
   intro i t hi h hk;refine zgg _ _ _ _ ?_
   unfold Vn;unfold wK at hk;rw[yaa (by omega)]at hk
   have e:cL (.func (.func g) [] []) [.int .u8 (i:Int)]=some (g,[.int .u8 (i:Int)]):=by
    unfold cL;simp only[zA.asFunc,oA,hg,rE];rfl
   refine sA (by rw[rS];exact decide_eq_true (by omega)) (wU e ?_)
   unfold oE;rw[yab hp,hf t (h.glob.mono h.ob.tle) i (by omega),pA]
   refine iF (vP h (fun ha t' h'=>?_) fun ha t' h'=>?_)
   ·rw[ha]at hk
    exact Ok.now hk h' rfl
   ·rw[ha]at hk
    have e:iA .u8 ((i:Int)+1)=((i+1:Nat):Int):=by
     rw[Of (by omega) (by omega)];rfl
    rw[e];exact jC (ih (i+1) t' (by omega) h' hk)
 exact loop most 1 t (by omega) h hk
end
end
section
variable {neg:Bool}
variable [fC]
def Kg{t:Tr vA}{k:Nat}{i:Int}:RD t (mF.d ⟨k,rH,i⟩) [.int .u8 (k:Int),.bool false,.nilslice,.bool false,.nilslice,.int .i64 i]:=Hv (x:=⟨k,rH,i⟩) mP mP
def Ze{t:Tr vA}{f:jH}{cs:List zA}(h:RD t f.dd cs):∃u v,cs=[.bool f.n.neg,u,.bool f.d.neg,v]/\nK [.bool false,.nilslice,.bool false,.nilslice] (.agg cs)=some (cellsOf cs)/\∀(k:Nat) (i:Int),RD t (mF.d ⟨k,f,i⟩) [.int .u8 (k:Int),.bool f.n.neg,u,.bool f.d.neg,v,.int .i64 i]:=by
 obtain⟨u,v,rfl,h1,h2⟩:=Go.Am.rd_frac h
 exact⟨u,v,rfl,tV h (jH.zs _),fun k i=>Hv (x:=⟨k,f,i⟩) h1 h2⟩
section
variable {P:eI}{tf t:Tr vA}{n d:Nat}{Q E:qB}{J:wF}{o:PM fA}
def Zd{K:zA->T}{s:List Nat} (hL:Di)(h:St P tf t n d)(hs:bR s)(k:∀tf' t' cs,bA tf tf'->St P tf' t' n d->RD tf' (tI s neg).dd cs->rA yA.base (oE yA F mB vE E) J (K (.agg cs)) t' Q) :
  rA yA.base (oE yA F mB vE E) J (.call 74 [.str s,.bool neg] K) t Q:=by
 refine yB ?_
 rw[pW 74];exact hL.frac hs h.ob fun tf' t' cs k1 k2 k3=>k tf' t' cs k1 ⟨h.ts.mono k1,k2,h.len,h.le,h.good,h.glob.mono k1⟩ k3
def zco(hL:Di) (h:St P tf t n d)(hk:Ok P rdXV d tf (zK P.tk neg n) Q E):gI yA F E 75 [.ptr P.bp 0,.bool neg] t Q:=by
 refine w75 _ _ ?_
 unfold t75;refine qA nl (qA f1 (vC h.l1 (tB (yB ?_))))
 rw[pE 59];unfold zK at hk;refine Bp (k:=2) (by omega) h (hk.bind fun a n1 tf1 t1 v hr hle hst hrd hk1=>?_)
 obtain⟨x,_,e,rfl⟩:=hrd
 obtain⟨g1,g2,g3⟩:=Oy hr
 have hn:=h.num g1
 rw[<- g2]at hn;have hnl:=h.le
 subst e;refine nC (zQ _) (sA rfl (qA nl (qA f1 (vC hst.l1 (tB ?_)))))
 have tail:∀(k:Nat) (t2:Tr vA),St P tf1 t2 (n1+1) d->Ok P rdXV d tf1 (if vH x.text then .er 120 n1 else match fL x.text neg (-1048576) 1048576 with
   | none=>.er 121 n
   | some i=>.ok ⟨k,rH,i⟩ (n1+1)) Q E->wH E 75 21 [.ptr P.bp 0,.bool neg,.int .i64 (n:Int),.int .u8 (k:Int),.int .i64 (n1:Int),.int .u8 0,.bool false,.nilslice,.bool false,.nilslice,.int .i64 0,.int .u8 (x.kind:Int),.str x.text,.int .i64 (x.line:Int),.int .i64 (x.col:Int)] t2 Q:=by
  intro k t2 h2 hk2;refine j75_21 _ _ _ _ _ _ _ _ _ _ _ _ _ _ _ ?_
  unfold ze1;refine yB ?_
  rw[pQ 66,AI (by have:=hn.1;omega),pA,MD]
  refine rD ?_
  cases hs:vH x.text with
  | true=>
   rw[hs,yab rfl]at hk2;refine sA rfl (qA nl (qA f1 (iC fun b _ _=>?_)))
   obtain⟨t3,k1,k2⟩:=h2.set1 (n':=n1) (by have:=h2.le;omega)
   exact⟨_,_,k1 b,yB (Ok.fail k2 hk2)⟩
  | false=>
   rw[hs,yaa (by simp)]at hk2
   refine sB (by simp) (jC (j75_27 _ _ _ _ _ _ _ _ _ _ _ _ _ _ ?_))
   unfold ze0;obtain⟨i,hi,hj⟩:=hL.int (s:=x.text) (neg:=neg) (lo := -1048576) (hi:=1048576) (t:=t2) hn hs (by omega) (by omega)
   refine yB ?_
   rw[pQ 102,hi,pA];refine qA rfl (tB (qA rfl (rD ?_)))
   cases hv:fL x.text neg (-1048576) 1048576 with
   | none=>
    rw[hv]at hk2;refine sA rfl (qA nl (qA f1 (iC fun b _ _=>?_)))
    obtain⟨t3,k1,k2⟩:=h2.set1 (n':=n) (by omega)
    exact⟨_,_,k1 b,yB (Ok.fail k2 hk2)⟩
   | some j=>
    rw[hv]at hk2;have:=hj j hv
    subst this;exact sB (by simp) (sA rfl (sA rfl (Ok.now hk2 h2 ⟨_,rfl,Kg⟩)))
 refine vP hst (fun ha t2 h2=>?_) fun ha t2 h2=>?_
 ·refine jC (tail 5 t2 h2 ?_)
  rw[ha]at hk1;simp only[Bool.true_or,if_true]at hk1;exact hk1
 ·refine vP h2 (fun hb t3 h3=>?_) fun hb t3 h3=>?_
  ·refine jC (tail 6 t3 h3 ?_)
   rw[ha,hb]at hk1;simp only[Bool.or_true,if_true,ybq,if_false]at hk1;exact hk1
  ·rw[ha,hb]at hk1
   refine Zd hL h3 hn fun tf4 t4 cs k1 k2 k3=>?_
   obtain⟨u,v,rfl,hz,hd⟩:=Ze k3
   refine nC hz (sA rfl (sA (hd 2 0).all ?_))
   exact Ok.now (Ok.mono hk1 k1) k2 ⟨_,rfl,hd 2 0⟩
def rdOV (tf:Tr vA)(x:Option mF)(v:zA):Prop:=match x with
 | some x=>∃cs,v=.tup [.agg cs,.bool true]/\RD tf x.d cs
 | none=>v=.tup [.agg zV,.bool false]
def MF(hL:Di)(h:St P tf t n d)(hk:Ok P rdOV d tf (bW P.tk n) Q E):gI yA F E 47 [.ptr P.bp 0] t Q:=by
 refine w47 _ ?_
 unfold t47;refine yB ?_
 rw[pQ 71,Hm h,pA];unfold bW at hk;rw[Mi (by omega),Mi (by omega)]at hk
 refine nC (zQ _) (sA rfl (vP h (fun ha t1 h1=>?_) fun ha t1 h1=>?_))
 ·rw[ha,yab rfl]at hk
  exact sA rfl (sA rfl (Ok.now hk h1 ⟨_,rfl,Kg⟩))
 rw[ha,yaa (by simp)]at hk
 refine vP h1 (fun ha t2 h2=>?_) fun ha t2 h2=>?_
 ·rw[ha,yab rfl]at hk
  exact sA rfl (sA rfl (Ok.now hk h2 ⟨_,rfl,Kg⟩))
 rw[ha,yaa (by simp)]at hk
 by_cases hd:(qF P n).kind=3
 ·rw[decide_eq_true hd,yab rfl]at hk
  refine sA (by rw[cT0,hd];rfl) (yB ?_)
  rw[pE 73];refine Ng hL h2 (hk.bind fun a n1 tf3 t3 v hr hle hst hrd hk1=>?_)
  subst hrd;exact tB (sA rfl (sA rfl (Ok.now hk1 hst ⟨_,rfl,Kg⟩)))
 rw[decide_eq_false hd,yaa (by simp)]at hk
 refine sB (by rw[cT0];simp[tF];omega) (vP h2 (fun ha t3 h3=>?_) fun ha t3 h3=>?_)
 ·rw[ha,yab rfl]at hk
  refine yB ?_
  rw[pW 72];refine De h3 fun t4 h4=>rD (yB ?_)
  rw[pE 59];have e:(if acc P.tk xJ (n+1)then n+2 else n+1)=(if acc P.tk xJ (n+1)then n+1+1 else n+1):=by split<;>rfl
  simp only[e]at hk;refine Bp (k:=2) (by omega) h4 (hk.bind fun a n1 tf5 t5 v hr hle hst hrd hk1=>?_)
  obtain⟨x,_,e,rfl⟩:=hrd
  obtain⟨g1,g2,g3⟩:=Oy hr
  have hn:=h.num g1
  rw[<- g2,<- e]at hn;subst e;refine nC (zQ _) (Zd hL hst hn fun tf6 t6 cs k1 k2 k3=>?_)
  obtain⟨u,v,rfl,hz,hd⟩:=Ze k3
  refine nC hz (sA rfl (sA (hd 3 0).all ?_))
  exact Ok.now (Ok.mono hk1 k1) k2 ⟨_,rfl,hd 3 0⟩
 rw[ha,yaa (by simp)]at hk
 have quant:∀(neg:Bool) (m:Nat) (t4:Tr vA),St P tf t4 m d->Ok P rdOV d tf ((zK P.tk neg m).bind fun v n1=>.ok (some v) n1) Q E →
   rA yA.base (oE yA F mB vE E) (JqE yA F E 47) (.call 75 [.ptr P.bp 0,.bool neg] fun a=>.asG zV a fun X=>.ite (kB zA.one (cV X)) (.ret (.tup [.agg (cV X),.bool true])) .fail) t4 Q:=by
  intro neg m t4 h4 hk4;refine yB ?_
  rw[pE 75];refine zco hL h4 (hk4.bind fun a n1 tf5 t5 v hr hle hst hrd hk1=>?_)
  obtain⟨cs,rfl,hx⟩:=hrd
  have hx':=hx
  obtain⟨u,w,rfl,_⟩:=bV hx
  exact nC (agV hx) (sA hx.all (Ok.now hk1 hst ⟨_,rfl,hx'⟩))
 refine vP h3 (fun ha t4 h4=>?_) fun ha t4 h4=>?_
 ·rw[ha,yab rfl]at hk
  exact quant true _ t4 h4 hk
 rw[ha,yaa (by simp)]at hk
 by_cases hd:(qF P n).kind=2
 ·rw[decide_eq_true hd,yab rfl]at hk
  exact sA (by rw[cT0,hd];rfl) (quant false _ t4 h4 hk)
 rw[decide_eq_false hd,yaa (by simp)]at hk
 exact sB (by rw[cT0];simp[tF];omega) (sA rfl (sA rfl (Ok.now hk h4 rfl)))
def zky(ho:dI P d o 161){op:Nat}(h:St P tf t n d)(hk:Ok P lL d tf (jS P.tk o op n) Q E):gI yA F E 180 [.ptr P.bp 0,.int .u8 (op:Int)] t Q:=by
 refine w180 _ _ ?_
 unfold t180;refine yB ?_
 rw[pE 58];refine Ew h (hk.bind fun w n1 tf1 t1 v hr hle hst hrd hk1=>?_)
 subst hrd;refine iF (Al hst hk1 fun n2 tf2 t2 hle2 hst2 hk2=>?_)
 refine yB ?_
 rw[pE 161];refine ho _ _ _ _ _ hst2 (hk2.bind fun x n3 tf3 t3 v hr3 hle3 hst3 hrd3 hk3=>?_)
 obtain⟨cs,rfl,hx⟩:=hrd3
 have hx':=hx
 obtain⟨a,b,c,rfl,_⟩:=aJ hx
 refine nC (yQ hx) (iC fun b hb _=>?_)
 obtain⟨tf4,t4,k1,k2,k3,k4⟩:=hst3.sole hx' hb
 have hu:=un_rd (op:=op) (w:=w) k4
 exact⟨_,_,k1,sA (by rw[nI];rfl) (sA hu.all (Ok.now (hk3.mono k2) k3 ⟨_,rfl,hu⟩))⟩
def Ok.ret{W:wF}{r:PR fA}(hk:Ok P lL d tf r Q E):Ok P lL d tf r (fun v t'=>rA yA.base W J (.asG zE v fun X=>.ite (kB zA.one (cE X)) (.ret (.agg (cE X))) .fail) t' Q) E:=by
 cases r with
 | ok x n1=>exact fun tf2 t2 v k1 k2 k3=>Wo k3 (hk tf2 t2 v k1 k2 k3)
 | er e i=>exact hk
def zdh(hL:Di)(ho:dI P d o 161)(hup:Up o)(hc:dI P d (lS P.tk (wP P.tk o)) 181):dI P d (sS P.tk o) 168:=fun tf t n Q E h hk=>by
 refine w168 _ ?_
 unfold t168;refine yB ?_
 rw[pE 47];unfold sS at hk;refine MF hL h (hk.bind fun v n1 tf1 t1 u hr hle h0 hrd hk1=>?_)
 cases v with
 | some v=>
  obtain⟨cs,rfl,hx⟩:=hrd
  have hx':=hx
  obtain⟨a,b,rfl,ha,hb⟩:=bV hx
  have hc:RD tf1 (AJ v).d [.int .u8 1,.str [],.int .u8 v.kind,.bool v.f.n.neg,a,.bool v.f.d.neg,b,.int .i64 v.i,.nilslice]:=Hw (op:=1) (name:=[]) (v:=v) (args:=[]) ha hb mP
  exact qA rfl (nC (agV hx) (qA rfl (rD (sA hx.all (sA rfl (sA rfl (sA hc.all (Ok.now hk1 h0 ⟨_,rfl,hc⟩))))))))
 | none=>
  have hrd:u=.tup [.agg zV,.bool false]:=hrd
  subst hrd;refine qA rfl (nC (agV (x:=cJ) (Kg (t:=tf1))) (qA rfl (rD (sA rfl (sB (by simp) ?_)))))
  have hk1:Ok P lL d tf1 (if acc P.tk [40] n1 then(wP P.tk o (n1+1)).bind fun x n1=>(iE P.tk [41] n1).bind fun _ n2=>.ok x n2
   else if acc P.tk To n1 then .ok (.mk 2 [] cJ []) (n1+1)
   else if acc P.tk Oh n1 then jS P.tk o 3 (n1+1)
   else if acc P.tk wHas n1 then jS P.tk o 4 (n1+1)
   else if qM P.tk n1 then jS P.tk o 5 n1
   else lS P.tk (wP P.tk o) n1) Q E:=hk1
  refine vP h0 (fun ha t2 h2=>?_) fun ha t2 h2=>?_
  ·rw[ha,yab rfl]at hk1
   refine yB ?_
   rw[pE 42];refine Zp ho hup _ _ _ _ _ h2 (hk1.bind fun x n2 tf3 t3 v hr hle hst hrd hk2=>?_)
   obtain⟨cs,rfl,hx⟩:=hrd
   have hx':=hx
   obtain⟨a,b,c,rfl,_⟩:=aJ hx
   refine nC (yQ hx) (sA hx.all (Al hst hk2 fun n3 tf4 t4 hle4 hst4 hk4=>?_))
   have hx4:=RD.mono hle4 _ _ hx'
   exact sA hx.all (Ok.now hk4 hst4 ⟨_,rfl,hx4⟩)
  rw[ha,yaa (by simp)]at hk1
  refine vP h2 (fun ha t2 h2=>?_) fun ha t2 h2=>?_
  ·rw[ha,yab rfl]at hk1
   exact sA rfl (sA rfl (Ok.now hk1 h2 ⟨_,rfl,Hw (op:=2) (name:=[]) (v:=cJ) (args:=[]) mP mP mP⟩))
  rw[ha,yaa (by simp)]at hk1
  refine vP h2 (fun ha t2 h2=>?_) fun ha t2 h2=>?_
  ·rw[ha,yab rfl]at hk1
   refine yB ?_
   rw[pE 180];exact zky ho (op:=3) h2 hk1.ret
  rw[ha,yaa (by simp)]at hk1
  refine vP h2 (fun ha t2 h2=>?_) fun ha t2 h2=>?_
  ·rw[ha,yab rfl]at hk1
   refine yB ?_
   rw[pE 180];exact zky ho (op:=4) h2 hk1.ret
  rw[ha,yaa (by simp)]at hk1
  refine yB ?_
  rw[pQ 88,JN h2,pA];refine rD ?_
  cases hb:qM P.tk n1 with
  | true=>
   rw[hb,yab rfl]at hk1;refine sA rfl (yB ?_)
   rw[pE 180];exact zky ho (op:=5) h2 hk1.ret
  | false=>
   rw[hb,yaa (by simp)]at hk1
   refine sB (by simp) (yB ?_)
   rw[pE 181];exact hc _ _ _ _ _ h2 hk1.ret
end
end
section
variable {l:List fA}{v:zA}{b:Nat}{L:List jE}
variable [fC]
section
variable {base:Nat}{tf t:Tr vA}{C:lA}{A B:List jE}
theorem cA.append1{T el sz n:Nat}{l:List D}{dd:D}{x:zA}{cs:List zA}(hT:vQ C T el sz)(h:cA C.base tf t (A++wD C.base sz l v::B))(hx:aA tf sz [dd] x)(hl:l.length+1<400000)(hn:t.get n=none)(hbase:C.base<=n) :
  ∃t' v',fG C T T v x ⟨n,t⟩=some (v',⟨n+1,t'⟩)/\cA C.base tf t' (A++wD C.base sz (l++[dd]) v'::B)/\zA.one v'=true:=by
 obtain⟨cl,h1,h2⟩:=hx
 have hv:tR C.base tf t sz l v:=h.ok (wD C.base sz l v) (by simp)
 obtain⟨c,r,rfl,h3,h4⟩:=aC.1 h2
 rw[sF]at h4;subst h4;obtain⟨t',k1,k2,k3,k4⟩:=NX hT (m:=[dd]) hv (h1.mono h.tle) h2 (by
  have:=h3.all
  rw[nI,ycb]at this;simpa using this) (by simp) (by simpa using hl) hn hbase h.tle
 refine⟨t',_,k1,?_,rfl⟩
 refine cA.upd (o:=wD C.base sz l v) h (fun k h1 h2=>k4 k ?_ (fun e=>h1 (Ez.2 e))) (fun k hk=>?_) k2 (by simp[wD,kI]) k3
 all_goals grind [wD,kI]
end
def el48:vQ yA 48 50 9:=⟨⟨_,ty48,rfl,rfl⟩,⟨_,Gt,rfl,rfl,by decide,by decide⟩,fun y h=>by rw[Gt]at h;cases h;rfl⟩
def eI.wL(P:eI)(L:List jE):eI:=⟨P.tk,P.bp,P.ts,P.el,P.ec,L⟩
def CF.cs(f:CF):List zA:=[.str f.word,.int .u8 (f.op:Int),.bool f.named,.int .i64 (f.least:Int),.int .i64 (f.most:Int)]
abbrev Mt:List zA:=[.str [108,111,111,107],.int .u8 6,.bool true,.int .i64 1,.int .i64 2,.str [109,105,110],.int .u8 11,.bool false,.int .i64 2,.int .i64 2,.str [109,97,120],.int .u8 12,.bool false,.int .i64 2,.int .i64 2,.str [98,101,116,119,101,101,110],.int .u8 20,.bool false,.int .i64 2,.int .i64 2,.str [105,102],.int .u8 18,.bool false,.int .i64 3,.int .i64 3,.str [114,111,117,110,100],.int .u8 19,.bool false,.int .i64 2,.int .i64 2,.str [115,101,114,118,105,99,101],.int .u8 21,.bool true,.int .i64 2,.int .i64 2,.str [103,114,111,119],.int .u8 23,.bool true,.int .i64 2,.int .i64 2,.str [98,101,115,116],.int .u8 22,.bool true,.int .i64 3,.int .i64 3,.str [109,111,110,116,104,115],.int .u8 24,.bool false,.int .i64 1,.int .i64 1,.str [110,117,109,98,101,114],.int .u8 25,.bool false,.int .i64 1,.int .i64 1,.str [115,116,97,114,116],.int .u8 26,.bool false,.int .i64 1,.int .i64 1]
section
variable {P:eI}{tf t:Tr vA}{n d:Nat}{Q E:qB}{J:wF}{o:PM fA}
def St.box  (h:St P tf t n d)(hb:t.get b=none):∃tf' t',xM v ⟨b,t⟩=some (.ptr b 0,⟨b+1,t'⟩)/\bA tf tf'/\St P tf' t' n d/\cC tf' b none v.cells:=by
 obtain⟨t',h1,⟨c,h2,h2'⟩,h3,h4⟩:=Su (v:=v) hb
 have ho:=h.ob.junk hb h4
 have hfb:=h.ob.tfn hb
 obtain⟨k1,k2⟩:=ho.froze (fun hm=>h.ob.fresh hb hm) h2 hfb
 exact⟨_,t',h1,k2,⟨h.ts.mono k2,k1,h.len,h.le,h.good,h.glob.mono k2⟩,c,by rw[Tr.get_set,yab rfl],h2'⟩
def St.fixed{T:Nat}{y:nD} (h:St P tf t n d)(hT:yA.tys.get T=some y)(hz:v.cells.length=y.size)(hz2:y.zero.length=y.size)(hone:kB zA.one v.cells=true)(hb:t.get b=none)(hbase:yA.base<=b) :
  ∃t1,rI yA T ⟨b,t⟩=some (.ptr b 0,⟨b+1,t1⟩)/\∃tf' t2,(∀q,lB yA T (.ptr b 0) v ⟨q,t1⟩=some (jD,⟨q,t2⟩))/\bA tf tf'/\St P tf' t2 n d/\cC tf' b none v.cells:=by
 obtain⟨t1,h1,h2,h3,h4⟩:=iS (C:=yA) hT hb
 refine⟨t1,h1,?_⟩
 have o1:=cA.newCel (A:=[qG P n d]) (B:=P.L) h.ob hb hbase h2 h3 h4
 obtain⟨t2,k1,k2⟩:=cA.setCel (A:=[qG P n d]) (j:=0) (v:=v) o1 hT hz (by omega) hone
 have hov:jJ y.zero 0 v.cells=v.cells:=by
  unfold jJ;rw[List.take_zero,yah,ybt (by omega),ycd]
 rw[hov]at k2;obtain⟨c,g1,g2⟩:=k2.cel
 have hni:=k2.notin (o:=cB b none v.cells) (k:=b) (by simp[cB])
 obtain⟨m1,m2⟩:=(cA.drop k2).froze hni g1 (k2.low b (by simp[cB])).2
 exact⟨_,t2,k1,m2,⟨h.ts.mono m2,m1,h.len,h.le,h.good,h.glob.mono m2⟩,c,by rw[Tr.get_set,yab rfl],g2⟩
def vW{a:Nat}{w:Nat}(h:cC tf a none [.ptr w 0])(hst:St P tf t n d):mA yA 84 ⟨0,t⟩ (.ptr a 0)=some (.ptr w 0):=(cC.le h hst.ob.tle).load1 ty84 rfl rfl
def zj6:∀i:Nat,i<12->∃f,wR[i]?=some f/\sI yA 250 (.agg Mt) (.int .i64 (i:Int))=some (.agg f.cs):=by
 intro i hi;have:i=0\/i=1\/i=2\/i=3\/i=4\/i=5\/i=6\/i=7\/i=8\/i=9\/i=10\/i=11:=by omega
 rcases this with rfl | rfl | rfl | rfl | rfl | rfl | rfl | rfl | rfl | rfl | rfl | rfl<;>exact⟨_,rfl,by kernel_rfl⟩
def zj8(tk:List wC):PM CF:=fun n=>match wR.find? fun f=>acc tk f.word n with
 | none=>.er 120 n
 | some f=>.ok f (n+1)
def rdCF (_:Tr vA)(f:CF)(v:zA):Prop:=f∈wR/\v=.agg f.cs
def zj7{a1 a0:Nat}(h1:cC tf a1 none Mt)(h0:cC tf a0 none [.ptr P.bp 0])(h:St P tf t n d)(hk:Ok P rdCF d tf (zj8 P.tk n) Q E):gI yA F E 187 [.ptr a1 0,.ptr a0 0] t Q:=by
 refine w187 _ _ ?_
 unfold t187;have hl1:mA yA 250 ⟨0,t⟩ (.ptr a1 0)=some (.agg Mt):=by
  have:=(cC.le h1 h.ob.tle).at.load (j:=0) (n:=60) ty250 rfl rfl (by decide)
  simpa using this
 refine vC hl1 (jC ?_)
 have loop:∀(k i:Nat) (t:Tr vA),i+k=12->St P tf t n d->Ok P rdCF d tf (match (wR.drop i).find? fun f=>acc P.tk f.word n with | none=>.er 120 n | some f=>.ok f (n+1)) Q E →
   wH E 187 2 [.ptr a0 0,.agg Mt,.int .i64 (i:Int),.str [],.int .u8 0,.bool false,.int .i64 0,.int .i64 0] t Q:=by
  intro k;induction k with
  | zero=>
   intro i t hi h hk;refine zfw _ _ _ _ _ _ _ _ ?_
   unfold Uq;have e:wR.drop i=[]:=ybt (by show 12<=i;omega)
   rw[e]at hk;exact sB (by rw[lC];simp;omega) (vC (vW h0 h) (yB (Ok.fail h hk)))
  | succ k ih=>
   intro i t hi h hk;refine zfw _ _ _ _ _ _ _ _ ?_
   unfold Uq;obtain⟨f,hf,hv⟩:=zj6 i (by omega)
   obtain⟨hlt,hfe⟩:=ybc.1 hf
   rw[ybl hlt,hfe,List.find?_cons]at hk;refine sA (by rw[lC];exact decide_eq_true (by omega)) (qA hv (nC (X:=cellsOf f.cs) (uO rfl) (sA rfl (vC (vW h0 h) (vP h (fun ha t' h'=>?_) fun ha t' h'=>?_)))))
   ·have ha:acc P.tk f.word n=true:=ha
    rw[ha]at hk;exact sA rfl (Ok.now hk h' ⟨ycv hf,rfl⟩)
   ·have ha:acc P.tk f.word n=false:=ha
    rw[ha]at hk;have e:iA .i64 ((i:Int)+1)=((i+1:Nat):Int):=by rw[gC (by omega) (by omega)];rfl
    rw[e];exact jC (ih (i+1) t' (by omega) h' hk)
 exact loop 12 0 t rfl h hk
abbrev zO(l:List fA)(v:zA):jE:=wD yA.base 9 (l.map fA.d) v
def St.args   (h:St (P.wL (zO l v::L)) tf t n d):tR yA.base tf t 9 (l.map fA.d) v:=h.ob.ok (zO l v) (by simp[eI.wL])
def St.more {x:fA} {cx:List zA} (h:St (P.wL (zO l v::L)) tf t n d)(hx:RD tf x.d cx)(hl:l.length<1000) (hb:t.get b=none) :
  ∃t1 w,eC yA 48 1 [(0,.agg cx)] ⟨b,t⟩=some (w,⟨b+1,t1⟩)/\∀c,t1.get c=none->yA.base<=c->∃tf2 t2 v2,fG yA 48 48 v w ⟨c,t1⟩=some (v2,⟨c+1,t2⟩)/\bA tf tf2/\St (P.wL (zO (l++[x]) v2::L)) tf2 t2 n d/\kB zA.one [v2]=true:=by
 obtain⟨tf1,t1,h1,h2,h3,h4⟩:=h.sole hx hb
 refine⟨t1,_,h1,fun c hc hcb=>?_⟩
 have ho:=h3.ob
 obtain⟨t2,v2,k1,k2,k3⟩:=cA.append1 (A:=[qG P n d]) (B:=L) (cs:=[]) el48 ho h4 (by simp;omega) hc hcb
 refine⟨tf1,t2,v2,k1,h2,⟨h3.ts,?_,h3.len,h3.le,h3.good,h3.glob⟩,by rw[nI];simp[k3]⟩
 show cA yA.base tf1 t2 ([qG P n d]++wD yA.base 9 ((l++[x]).map fA.d) v2::L)
 rw[List.map_append];exact k2
end
end
section
variable {α β:Type}{w:List Nat}{f:CF}{a0 m:Nat}{e:PM fA}{K:zA->T}{l:List fA}{v:zA}
variable [fC]
def PR.bind_assoc{γ:Type}(r:PR α)(f:α->Nat->PR β)(g:β->Nat->PR γ):(r.bind f).bind g=r.bind fun a n=>(f a n).bind g:=by cases r<;>rfl
section
variable {tk:List wC}{o:PM fA}
def xO  : Up (iE tk w):=by
 intro n a n' h;unfold iE at h;split at h<;>cases h;omega
def Ex:Up (uJ tk):=by
 intro n a n' h;unfold uJ at h;split at h<;>cases h;omega
def Ox{k:Nat}:Up (uF tk k):=by
 intro n a n' h;unfold uF at h;split at h<;>cases h;omega
def bE {r:PM α}{f:α->PM β}(h1:Up r)(h2:∀a,Up (f a)):Up fun n=>(r n).bind f:=by
 intro n b n' h;obtain⟨a,n1,e1,e2⟩:=PR.bind_ok h
 have:=h1 _ _ _ e1
 have:=h2 _ _ _ _ e2
 omega
def kL {a:α}:Up (fun n=>(.ok a n:PR α)):=by intro n b n' h;cases h;omega
def It:Up (cM tk):=bE Ox fun _=>kL
def MU{f:Nat->List Nat}  : ∀(k i:Nat),Up (wK tk f m k i):=by
 intro k;induction k with
 | zero=>intro i n a n' h;cases h
 | succ k ih=>
  intro i n a n' h;unfold wK at h;split at h
  ·cases h
  ·split at h
   ·cases h;omega
   ·exact ih _ _ _ _ h
def FF{neg:Bool}:Up (zK tk neg):=by
 intro n b n' h;unfold zK at h;obtain⟨a,n1,e1,e2⟩:=PR.bind_ok h
 have:=Ox _ _ _ e1
 split at e2
 ·split at e2
  ·cases e2
  ·split at e2<;>cases e2;omega
 ·cases e2;omega
def zal:Up (bW tk):=by
 intro n b n' h;unfold bW at h;split at h
 ·cases h;omega
 split at h
 ·cases h;omega
 split at h
 ·exact bE It (fun _=>kL) _ _ _ h
 split at h
 ·obtain⟨a,n1,e1,e2⟩:=PR.bind_ok h
  have:=Ox _ _ _ e1
  cases e2
  split at this<;>omega
 split at h
 ·have:=bE FF (fun _=>kL) _ _ _ h
  omega
 split at h
 ·exact bE FF (fun _=>kL) _ _ _ h
 cases h;omega
def zcw (he:Up e):∀(k:Nat) (l:List fA),Up (pU tk e k l):=by
 intro k;induction k with
 | zero=>intro l;exact kL
 | succ k ih=>intro l;exact bE xO fun _=>bE he fun x=>ih (l++[x])
def zb9 (he:Up e):∀(k:Nat) (l:List fA),Up (mQ tk e k l):=by
 intro k;induction k with
 | zero=>intro l;exact kL
 | succ k ih=>
  intro l n b n' h;unfold mQ at h;split at h
  ·have:=bE he (fun x=>ih (l++[x])) _ _ _ h
   omega
  ·cases h;omega
def AS(ho:Up o){op:Nat}:Up (jS tk o op):=bE Ex fun _=>bE xO fun _=>bE ho fun _=>kL
def zea (he:Up e):Up (lS tk e):=by
 intro n b n' h;unfold lS at h;split at h
 ·cases h
 ·rename_i f _
  have hw:Up (fun n1=>(if f.named then(uJ tk n1).bind fun w n2=>(iE tk [44] n2).bind fun _ n3=>.ok w n3 else .ok [] n1:PR (List Nat))):=by
   cases f.named with
   | true=>exact bE Ex fun _=>bE xO fun _=>kL
   | false=>exact kL
  have hm:Up (fun n5=>(if f.op=19 then(iE tk [44] n5).bind fun _ n6=>wK tk vT 6 6 1 n6 else .ok 0 n5:PR Nat)):=by
   by_cases h19:f.op=19
   ·simp only[yab h19];exact bE xO fun _=>MU _ _
   ·simp only[yaa h19];exact kL
  have:=bE xO (fun _=>bE hw fun w=>bE he fun x=>bE (zcw he (f.least-1) [x]) fun l=>bE (zb9 he (f.most-f.least) l) fun l=>bE hm fun m=>bE xO fun _=>kL (a:=fA.mk f.op w ⟨0,rH,m⟩ l)) _ _ _ h
  omega
def JW(ho:Up o):Up (sS tk o):=by
 have he:=LF (tk:=tk) ho
 refine bE zal fun v=>?_
 cases v with
 | some v=>exact kL
 | none=>
  intro n b n' h;simp only at h
  split at h
  ·have:=bE he (fun x=>bE xO fun _=>kL (a:=x)) _ _ _ h
   omega
  split at h
  ·cases h;omega
  split at h
  ·have:=AS ho _ _ _ h;omega
  split at h
  ·have:=AS ho _ _ _ h;omega
  split at h
  ·exact AS ho _ _ _ h
  ·exact zea he _ _ _ h
end
section
variable {P:eI}{tf t:Tr vA}{n d:Nat}{Q E:qB}{J:wF}{o:PM fA}{ob:jE}
def St.drop1(h:St (P.wL (ob::P.L)) tf t n d):St P tf t n d:=⟨h.ts,cA.drop (A:=[qG P n d]) (o:=ob) h.ob,h.len,h.le,h.good,h.glob⟩
def Ok.bindL {rd1:Tr vA->α->zA->Prop}{rd:Tr vA->β->zA->Prop}{r:PR α}{f:α->Nat->PR β}{Q1:qB}(h:Ok P rd d tf (r.bind f) Q E)
  (k:∀a n1 tf1 t1 v,r=.ok a n1->bA tf tf1->St (P.wL (ob::P.L)) tf1 t1 n1 d->rd1 tf1 a v->Ok P rd d tf1 (f a n1) Q E->Q1 v t1):Ok (P.wL (ob::P.L)) rd1 d tf r Q1 E:=by
 cases r with
 | ok a n=>exact fun tf' t' v h1 h2 h3=>k a n tf' t' v rfl h1 h2 h3 (Ok.mono h h1)
 | er e i=>exact fun tf' t' n' d' h1 h2=>h tf' t' n' d' h1 h2.drop1
def Fq  (h:St P tf t n d)(hk:Ok P rdU d tf (iE P.tk w n) (fun v t'=>rA yA.base (oE yA F mB vE E) J (K v) t' Q) E) :
  rA yA.base (oE yA F mB vE E) J (.heavy (eC yA 93 1 [(0,.str w)]) fun a=>.call 57 [.ptr P.bp 0,a] K) t Q:=by
 refine iC fun b hb _=>?_
 obtain⟨tf1,t1,h1,h2,h3,h4⟩:=h.lit (k:=1) (sz:=1) (ds:=[D.str w]) (cl:=[[.str w]]) ty93 rfl fN rfl rfl (by omega) (Fo (sz:=1) (z:=[.str []]) (v:=.str w) rfl rfl) (Eu rfl) rfl (aC.2 ⟨_,_,rfl,cK.2 rfl,sF.2 rfl⟩) hb
 refine⟨_,_,h1,yB ?_⟩
 rw[pE 57];exact LI h4 h3 (hk.mono h2)
def Ui(tk:List wC)(f:CF)(w:List Nat)(l:List fA)(m:Nat):PM fA:=fun n=>(iE tk [41] n).bind fun _ n7=>.ok (.mk f.op w ⟨0,rH,m⟩ l) n7
def zht(tk:List wC)(f:CF)(w:List Nat)(l:List fA):PM fA:=fun n5=>(if f.op=19 then(iE tk [44] n5).bind fun _ n6=>wK tk vT 6 6 1 n6 else .ok 0 n5:PR Nat).bind fun m n6=>Ui tk f w l m n6
def zhu(tk:List wC)(e:PM fA)(f:CF)(w:List Nat)(k:Nat)(l:List fA):PM fA:=fun n=>(mQ tk e k l n).bind fun l n5=>zht tk f w l n5
def Pa(tk:List wC)(e:PM fA)(f:CF)(w:List Nat)(k:Nat)(l:List fA):PM fA:=fun n=>(pU tk e k l n).bind fun l n4=>zhu tk e f w (f.most-f.least) l n4
def zeb{tk:List wC}  : lS tk e n=(zj8 tk n).bind fun f n1=>(iE tk [40] n1).bind fun _ n1=>
  (if f.named then(uJ tk n1).bind fun w n2=>(iE tk [44] n2).bind fun _ n3=>.ok w n3 else .ok [] n1:PR (List Nat)).bind fun w n2=>(e n2).bind fun x n3=>Pa tk e f w (f.least-1) [x] n3:=by
 unfold lS zj8
 cases wR.find? fun f=>acc tk f.word n with
 | none=>rfl
 | some f=>rfl
abbrev c6(f:CF)(w:List Nat)(m:Nat)(v:zA):List zA:=[.int .u8 (f.op:Int),.str w,.int .u8 0,.bool false,.nilslice,.bool false,.nilslice,.int .i64 (m:Int),v]
def ze3     (h0:cC tf a0 none [.ptr P.bp 0])(h:St (P.wL (zO l v::P.L)) tf t n d)(hk:Ok P lL d tf (Ui P.tk f w l m n) Q E):wH E 181 37 ([.ptr a0 0]++zE++c6 f w m v) t Q:=by
 refine zjn _ _ _ _ _ _ _ _ _ _ _ _ _ _ _ _ _ _ _ ?_
 unfold CR;unfold Ui at hk;refine vC (vW h0 h) (Fq (P:=P.wL (zO l v::P.L)) h (hk.bindL fun _ n1 tf1 t1 u hr hle hst hrd hk1=>?_))
 obtain⟨tf2,k1,k2,k3⟩:=cA.freezeL (A:=[qG P n1 d]) (B:=P.L) hst.ob
 have hd:RD tf2 (fA.mk f.op w ⟨0,rH,m⟩ l).d (c6 f w m v):=Hw (v:=⟨0,rH,m⟩) mP mP k3
 refine sA hd.all (Ok.now (Ok.mono hk1 k1) (t:=t1) ⟨hst.ts.mono k1,k2,hst.len,hst.le,hst.good,hst.glob.mono k1⟩ ⟨_,rfl,hd⟩)
def tM_ok     (hop:f.op<256)(h0:cC tf a0 none [.ptr P.bp 0])(h:St (P.wL (zO l v::P.L)) tf t n d)(hk:Ok P lL d tf (zht P.tk f w l n) Q E) :
  rA yA.base (oE yA F mB vE E) (JqE yA F E 181) (.ite (aB (f.op:Int) 19)
 (.light (fun m=>mA yA 84 ⟨0,m⟩ (.ptr a0 0)) fun a10=>.heavy (eC yA 93 1 [(0,(.str [44]))]) fun a11=>
 .call 57 [a10,a11] fun a12=>
 .light (fun m=>mA yA 84 ⟨0,m⟩ (.ptr a0 0)) fun a13=>.call 110 [a13,(.int .u8 1),(.int .u8 6),(.func (.func 188) [] [])] fun a14=>
 .asI .u8 a14 fun n15=>.ite true (.jump 37 ([.ptr a0 0]++zE++[.int .u8 (f.op:Int),.str w,.int .u8 0,.bool false,.nilslice,.bool false,.nilslice,.int .i64 (iA .i64 n15),v])) .fail)
 (.jump 37 ([.ptr a0 0]++zE++c6 f w 0 v))) t Q:=by
 unfold zht at hk;by_cases h19:f.op=19
 ·rw[yab h19,PR.bind_assoc]at hk
  refine sA (by rw[h19];rfl) (vC (vW h0 h) (Fq (P:=P.wL (zO l v::P.L)) h (hk.bindL fun _ n1 tf1 t1 u hr hle hst hrd hk1=>?_)))
  refine vC (vW (cC.le h0 hle) hst) (yB ?_)
  rw[pE 110];refine MT (P:=P.wL (zO l v::P.L)) (f:=vT) (most:=6) (fun t hg i hi=>zi0 hg hi) (by kernel_rfl) (by kernel_rfl) (by omega) hst (hk1.bindL fun m n2 tf2 t2 u hr2 hle2 hst2 hrd2 hk2=>?_)
  subst hrd2;refine tB (sA rfl (jC ?_))
  have hm:m<256:=by
   have:∀(k i:Nat),i<=7->wK P.tk vT 6 k i n1=.ok m n2->m<256:=by
    intro k;induction k with
    | zero=>intro i _ h;cases h
    | succ k ih=>
     intro i hi h;unfold wK at h;split at h
     ·cases h
     ·split at h
      ·cases h;omega
      ·exact ih (i+1) (by omega) h
   exact this 6 1 (by omega) hr2
  have hw:iA .i64 (m:Int)=(m:Int):=gC (by omega) (by omega)
  rw[hw];exact ze3 (cC.le h0 (hle.trans hle2)) hst2 hk2
 ·rw[yaa h19]at hk
  refine sB (by rw[tF];simp;omega) (jC ?_)
  exact ze3 h0 h hk
def Xw    {f:fA->Nat->PR fA} (he:∀L,dI (P.wL L) d e 42)(h0:cC tf a0 none [.ptr P.bp 0])(hl:l.length<1000)(h:St (P.wL (zO l v::P.L)) tf t n d)(hk:Ok P lL d tf ((e n).bind f) Q E)
  (k:∀x n1 tf1 t1 v',bA tf tf1->St (P.wL (zO (l++[x]) v'::P.L)) tf1 t1 n1 d->Ok P lL d tf1 (f x n1) Q E->rA yA.base (oE yA F mB vE E) J (K v') t1 Q) :
  rA yA.base (oE yA F mB vE E) J (.light (fun m=>mA yA 84 ⟨0,m⟩ (.ptr a0 0)) fun a=>.call 42 [a] fun a6=>.asG zE a6 fun X=>.ite (same 10 v v) (.heavy (eC yA 48 1 [(0,.agg (cE X))]) fun a8=>.ite (same 10 v v) (.heavy (fG yA 48 48 v a8) fun a9=>.ite (kB zA.one [a9]) (K a9) .fail) .fail) .fail) t Q:=by
 refine vC (vW h0 h) (yB ?_)
 rw[pE 42];refine he (zO l v::P.L) _ _ _ _ _ h (hk.bindL fun x n1 tf1 t1 u hr hle hst hrd hk1=>?_)
 obtain⟨cs,rfl,hx⟩:=hrd
 have hx':=hx
 obtain⟨a,b,c,rfl,_⟩:=aJ hx
 have hs:same 10 v v=true:=hst.args.same
 refine nC (yQ hx) (sA hs (iC fun b hb _=>?_))
 obtain⟨t2,w,k1,k2⟩:=hst.more hx' hl hb
 refine⟨_,_,k1,sA hs (iC fun c hc hcb=>?_)⟩
 obtain⟨tf3,t3,v3,m1,m2,m3,m4⟩:=k2 c hc hcb
 exact⟨_,_,m1,sA m4 (k x n1 tf3 t3 v3 (hle.trans m2) m3 (Ok.mono hk1 m2))⟩
def t6_ok    (he:∀L,dI (P.wL L) d e 42)(hop:f.op<256)(hmost:f.most<900):∀(k:Nat) (l:List fA) (v:zA) (n:Nat) (tf t:Tr vA),l.length+k=f.most->cC tf a0 none [.ptr P.bp 0]->St (P.wL (zO l v::P.L)) tf t n d->Ok P lL d tf (zhu P.tk e f w k l n) Q E →
  wH E 181 6 ([.ptr a0 0]++zE++f.cs++c6 f w 0 v) t Q:=by
 intro k;induction k with
 | zero=>
  intro l v n tf t hlen h0 h hk;refine zfy _ _ _ _ _ _ _ _ _ _ _ _ _ _ _ _ _ _ _ _ _ _ _ _ ?_
  unfold Us;have hv:=h.args.len
  rw[ybf]at hv;exact qA hv (tB (sB (by rw[lC];simp;omega) (tM_ok hop h0 h hk)))
 | succ k ih=>
  intro l v n tf t hlen h0 h hk;refine zfy _ _ _ _ _ _ _ _ _ _ _ _ _ _ _ _ _ _ _ _ _ _ _ _ ?_
  unfold Us;have hv:=h.args.len
  rw[ybf]at hv;unfold zhu mQ at hk;refine qA hv (tB (sA (by rw[lC];exact decide_eq_true (by omega)) (vC (vW h0 h) (vP (P:=P.wL (zO l v::P.L)) h (fun ha t2 h2=>?_) fun ha t2 h2=>?_))))
  ·have ha:acc P.tk [44] n=true:=ha
   rw[ha,yab rfl,PR.bind_assoc]at hk;exact Xw he h0 (by omega) h2 hk fun x n1 tf3 t3 v3 k1 k2 k3=>jC (ih (l++[x]) v3 n1 tf3 t3 (by simp;omega) (cC.le h0 k1) k2 k3)
  ·have ha:acc P.tk [44] n=false:=ha
   rw[ha,yaa (by simp)]at hk
   exact tM_ok hop h0 h2 hk
def t2_ok    (he:∀L,dI (P.wL L) d e 42)(hop:f.op<256)(hmost:f.most<900)(hle:f.least<=f.most):∀(k:Nat) (l:List fA) (v:zA) (n:Nat) (tf t:Tr vA),l.length+k=f.least->cC tf a0 none [.ptr P.bp 0]->St (P.wL (zO l v::P.L)) tf t n d->Ok P lL d tf (Pa P.tk e f w k l n) Q E →
  wH E 181 2 ([.ptr a0 0]++zE++f.cs++c6 f w 0 v) t Q:=by
 intro k;induction k with
 | zero=>
  intro l v n tf t hlen h0 h hk;refine zfz _ _ _ _ _ _ _ _ _ _ _ _ _ _ _ _ _ _ _ _ _ _ _ _ ?_
  unfold Ut;have hv:=h.args.len
  rw[ybf]at hv;exact qA hv (tB (sB (by rw[lC];simp;omega) (jC (t6_ok he hop hmost _ l v n tf t (by omega) h0 h hk))))
 | succ k ih=>
  intro l v n tf t hlen h0 h hk;refine zfz _ _ _ _ _ _ _ _ _ _ _ _ _ _ _ _ _ _ _ _ _ _ _ _ ?_
  unfold Ut;have hv:=h.args.len
  rw[ybf]at hv;unfold Pa pU at hk;rw[PR.bind_assoc]at hk;refine qA hv (tB (sA (by rw[lC];exact decide_eq_true (by omega)) (vC (vW h0 h) (Fq (P:=P.wL (zO l v::P.L)) h (hk.bindL fun _ n1 tf1 t1 u hr hle1 hst hrd hk1=>?_)))))
  rw[PR.bind_assoc]at hk1;exact Xw he (cC.le h0 hle1) (by omega) hst hk1 fun x n2 tf3 t3 v3 k1 k2 k3=>jC (ih (l++[x]) v3 n2 tf3 t3 (by simp;omega) (cC.le h0 (hle1.trans k1)) k2 k3)
def ze4    (he:∀L,dI (P.wL L) d e 42)(hop:f.op<256)(hmost:f.most<900)(hle:f.least<=f.most)(h1:1<=f.least)(h0:cC tf a0 none [.ptr P.bp 0])(h:St P tf t n d)(hk:Ok P lL d tf ((e n).bind fun x n3=>Pa P.tk e f w (f.least-1) [x] n3) Q E) :
  wH E 181 19 ([.ptr a0 0]++zE++f.cs++c6 f w 0 .nilslice) t Q:=by
 refine zjo _ _ _ _ _ _ _ _ _ _ _ _ _ _ _ _ _ _ _ _ _ _ _ _ ?_
 unfold CS;have h':St (P.wL (zO [] .nilslice::P.L)) tf t n d:=⟨h.ts,cA.add (A:=[qG P n d]) (B:=P.L) (o':=zO [] .nilslice) h.ob (fun _ _=>rfl) (fun k hk=>by simp[wD,kI]at hk) (.inl ⟨rfl,rfl⟩) (by simp[wD,kI]) h.ob.tle,h.len,h.le,h.good,h.glob⟩
 exact Xw he h0 (by simp) h' hk fun x n1 tf1 t1 v1 k1 k2 k3=>jC (t2_ok he hop hmost hle (f.least-1) [x] v1 n1 tf1 t1 (by simp;omega) (cC.le h0 k1) k2 k3)
def zdp:∀f∈wR,f.op<256/\f.most<900/\f.least<=f.most/\1<=f.least:=by decide
def AO (he:∀L,dI (P.wL L) d e 42):dI P d (lS P.tk e) 181:=fun tf t n Q E h hk=>by
 rw[zeb]at hk;refine w181 _ ?_
 unfold t181;refine iC fun a0 ha0 _=>?_
 obtain⟨tf1,t1,h1,h2,h3,h4⟩:=h.box (v:=.ptr P.bp 0) ha0
 refine⟨_,_,h1,?_⟩
 refine sA rfl (sA rfl (sA rfl (sA rfl (sA rfl (sA rfl (sA rfl (sA rfl (sA rfl (sA rfl (sA rfl (sA rfl (sA rfl (iC fun a1 ha1 hb1=>?_)))))))))))))
 obtain⟨t2,k1,tf3,t3,k2,k3,k4,k5⟩:=h3.fixed (v:=.agg Mt) ty250 rfl rfl rfl ha1 hb1
 refine⟨_,_,k1,iC fun c _ _=>⟨_,_,k2 c,?_⟩⟩
 have g0:cC tf3 a0 none [.ptr P.bp 0]:=cC.le h4 k3
 refine wU (g:=187) (a:=[.ptr a1 0,.ptr a0 0]) rfl ?_
 rw[pE 187];refine zj7 k5 g0 k4 ((hk.mono (h2.trans k3)).bind fun f n1 tf4 t4 u hr hle hst hrd hk1=>?_)
 obtain⟨hf,rfl⟩:=hrd
 obtain⟨f1,f2,f3,f4⟩:=zdp f hf
 have g4:=cC.le g0 hle
 refine nC (X:=cellsOf f.cs) (uO rfl) (sA rfl (sA rfl (sA rfl (vC (vW g4 hst) (Fq hst (hk1.bind fun _ n2 tf5 t5 u2 hr2 hle2 hst2 hrd2 hk2=>?_))))))
 have g5:=cC.le g4 hle2
 cases hn:f.named with
 | true=>
  rw[hn,yab rfl,PR.bind_assoc]at hk2;refine sA hn (vC (vW g5 hst2) (yB ?_))
  rw[pE 58];refine Ew hst2 (hk2.bind fun w n3 tf6 t6 u3 hr3 hle3 hst3 hrd3 hk3=>?_)
  subst hrd3;rw[PR.bind_assoc]at hk3;have g6:=cC.le g5 hle3
  refine iF (sA rfl (vC (vW g6 hst3) (Fq hst3 (hk3.bind fun _ n4 tf7 t7 u4 hr4 hle4 hst4 hrd4 hk4=>?_))))
  exact jC (ze4 he f1 f2 f3 f4 (cC.le g6 hle4) hst4 hk4)
 | false=>
  rw[hn,yaa (by simp)]at hk2
  refine sB (by rw[show(cellsOf f.cs).b 2=f.named from rfl,hn];simp) (jC ?_)
  exact ze4 he f1 f2 f3 f4 g5 hst2 hk2
def FZ(hL:Di){tk:List wC}:∀(k d:Nat),d+k=101->∀P:eI,P.tk=tk->Up (aN tk k)/\dI P d (aN tk k) 161:=by
 intro k;induction k with
 | zero=>
  intro d hd P hP;refine⟨fun n a n' h=>(by cases h),fun tf t n Q E h hk=>?_⟩
  refine w161 _ ?_
  unfold t161;exact qA nl (qA f2 (vC h.l2 (tB (sA (by rw[lC];exact decide_eq_true (by omega)) (yB (Ok.fail h hk))))))
 | succ k ih=>
  intro d hd P hP;have hup:Up (aN tk k):=(ih (d+1) (by omega) P hP).1
  have hi:∀L,dI (P.wL L) (d+1) (aN tk k) 161:=fun L=>(ih (d+1) (by omega) (P.wL L) hP).2
  subst hP;have hin:dI P (d+1) (sS P.tk (aN P.tk k)) 168:=zdh hL (hi P.L) hup (AO fun L=>Zp (hi L) hup)
  refine⟨?_,fun tf t n Q E h hk=>?_⟩
  ·exact JW hup
  ·refine w161 _ ?_
   unfold t161;refine qA nl (qA f2 (vC h.l2 (tB (sB (by rw[lC];simp;omega) (jC (j161_7 _ _ _ _ _ _ _ _ _ _ ?_))))))
   unfold zfa;refine qA nl (qA f2 (vC h.l2 (tB (qA nl (qA f2 (iC fun b _ _=>?_))))))
   obtain⟨t1,h1,h2⟩:=h.set2 (d':=d+1)
   have e:iA .i64 ((d:Int)+1)=((d+1:Nat):Int):=by rw[gC (by omega) (by omega)];rfl
   rw[e];refine⟨_,_,h1 b,yB ?_⟩
   rw[pE 168];refine hin _ _ _ _ _ h2 ?_
   have hk:Ok P lL d tf (sS P.tk (aN P.tk k) n) Q E:=hk
   revert hk
   generalize sS P.tk (aN P.tk k) n=r
   intro hk
   cases r with
   | er e i=>exact hk
   | ok x n1=>
    intro tf2 t2 v k1 k2 ⟨cs,hv,hx⟩
    subst hv;have hx':=hx
    obtain⟨a,b,c,rfl,_⟩:=aJ hx
    refine nC (yQ hx) (sA hx.all (qA nl (qA f2 (vC k2.l2 (tB (qA nl (qA f2 (iC fun b _ _=>?_))))))))
    obtain⟨t3,m1,m2⟩:=k2.set2 (d':=d)
    have e:iA .i64 (((d+1:Nat):Int)-1)=(d:Int):=by rw[gC (by omega) (by omega)];omega
    rw[e];exact⟨_,_,m1 b,sA hx.all (hk tf2 t3 _ k1 m2 ⟨_,rfl,hx'⟩)⟩
def Zq(hL:Di):dI P 0 (nS P.tk) 42:=Zp (FZ hL 101 0 rfl P rfl).2 (FZ hL 101 0 rfl P rfl).1
end
end
section
variable {n:Nat}
def zkl(n:Nat):∀s:List Nat,s.foldl (fun n b=>n*10+(b-48)) n=n*10^s.length+tD s:=by
 intro s;induction s generalizing n with
 | nil=>simp[tD]
 | cons b s ih=>
  show s.foldl _ (n*10+(b-48))=_+s.foldl _ (0*10+(b-48))
  rw[ih,ih,ybn,yag];grind
def Sl(a b:List Nat):tD (a++b)=tD a*10^b.length+tD b:=by
 unfold tD;rw[List.foldl_append,zkl];rfl
def AD(a:List Nat)(x:Nat):tD (a++[x])=tD a*10+(x-48):=by
 rw[Sl];simp[tD]
def Fv:∀ {s:List Nat},(∀b∈s,pD b=true)->tD s<10^s.length:=by
 intro s;induction s with
 | nil=>intro _;simp[tD]
 | cons b s ih=>
  intro h;have h1:=h b (by simp)
  have h2:=ih fun c hc=>h c (by simp[hc])
  have:tD (b::s)=(b-48)*10^s.length+tD s:=by
   have:=Sl [b] s
   simpa[tD]using this
  rw[this,ybn,yag];unfold pD at h1;simp only[ybb,decide_eq_true_eq]at h1;have:(b-48)*10^s.length<=9*10^s.length:=ybi _ (by omega)
  omega
def zd1{s:List Nat}(hd:∀b∈s,pD b=true)(h0:s≠[])(hp:s.head?≠some 48):0<tD s:=by
 cases s with
 | nil=>exact absurd rfl h0
 | cons b s=>
  have h1:=hd b (by simp)
  unfold pD at h1;simp only[ybb,decide_eq_true_eq]at h1;have:tD (b::s)=(b-48)*10^s.length+tD s:=by
   have:=Sl [b] s
   simpa[tD]using this
  rw[this];have hb:b≠48:=fun e=>hp (by simp[e])
  have:1*10^s.length<=(b-48)*10^s.length:=ybi _ (by omega)
  have:0<10^s.length:=Nat.pow_pos (by omega)
  omega
def iX(n:Nat):val 65536 (yC n)=n:=by
 induction n using Nat.strongRecOn with
 | ind n ih=>
  unfold yC;split
  ·rename_i h;simp[val,h]
  ·show n%65536+65536*val 65536 (yC (n / 65536))=n
   rw[ih _ (by omega)]
   omega
def vX(n:Nat):jB 65536 (yC n):=by
 induction n using Nat.strongRecOn with
 | ind n ih=>
  unfold yC;split
  ·intro x hx;cases hx
  ·intro x hx
   rcases ybs.1 hx with rfl | hx
   ·omega
   ·exact ih _ (by omega) x hx
def Lw(n:Nat):norm (yC n):=by
 induction n using Nat.strongRecOn with
 | ind n ih=>
  unfold yC;split
  ·intro h;exact absurd rfl h
  ·intro h
   have h2:=ih (n / 65536) (by omega)
   by_cases h3:yC (n / 65536)=[]
   ·simp only[h3,List.getLast_singleton]
    have h4:=iX (n / 65536)
    rw[h3]at h4;have:n / 65536=0:=h4.symm
    omega
   ·rw[List.getLast_cons h3]
    exact h2 h3
def Yj{l:List Nat} (h1:jB 65536 l)(h2:norm l)(h3:val 65536 l=n):l=yC n:=
 GQ (B:=65536) (by omega) h1 (vX n) h2 (Lw n) (by rw[iX,h3])
def Fdzx  : yC n=[] ↔ n=0:=by
 constructor
 ·intro h
  have:=iX n
  rw[h]at this;exact this.symm
 ·intro h;subst h;unfold yC;rfl
def Yk{k:Nat}(h:n<65536^k):(yC n).length<=k:=by
 induction k generalizing n with
 | zero=>
  have:n=0:=by simpa using h
  rw[Fdzx.2 this];simp
 | succ k ih=>
  unfold yC;split
  ·simp
  ·have:n / 65536<65536^k:=by
    rw[yag]at h;exact ycu (by rw[ybh];exact h)
   have:=ih this
   simp;omega
end
section
variable {b:Bool}{v:zA}{l:List Nat}
variable [fC]
section
variable {t:Tr vA}{Q:qB}
def yM  (h:zA.one v=true):kB zA.one [.bool b,v]=true:=by
 show(bif zA.one (.bool b)then(bif zA.one v then true else false)else false)=true
 rw[h];rfl
def tO   (h:aA t 1 (aD l) v):nK [.bool false,.nilslice] (.agg [.bool b,v])=some (cellsOf [.bool b,v]):=tV (Cf (w:=⟨b,l⟩) h) (mK.zs _)
def SF  {neg:Bool}(hv:aA t 1 (xC .u32 l) v)(hl:l.length<=500)(hlt:jB 4294967296 l)
  (hQ:∀t' u,bA t t'->aA t' 1 (aD (yC (val 4294967296 l))) u->Q (.tup [.agg [.bool (if kE l=[]then false else neg),u],.int .i64 0]) t'):Wc yA F 122 [.bool neg,v] t Q:=by
 refine w122 ?_
 unfold t122 uG;refine yB ?_
 rw[q141];refine Tz hv (by omega) hlt fun t' u hle hu=>?_
 have hlt2:jB 65536 (kE (qH (kE l))):=eT (Te (eT hlt))
 have hval:val 65536 (kE (qH (kE l)))=val 4294967296 l:=by rw[mV,Oj,mV]
 have e:kE (qH (kE l))=yC (val 4294967296 l):=Yj hlt2 (yW _) hval
 rw[e]at hu;have hlen:(yC (val 4294967296 l)).length<=1000:=by
  rw[<- e];have:=Kq (qH (kE l))
  rw[Kk]at this;have:=Kq l
  omega
 have hul:=aA.len (l:=aD (yC (val 4294967296 l))) hu
 rw[xV]at hul;refine nC (tO hu) (sA (yM hu.one) (qA hul (tB (sB (by rw[lC];simp;omega) (sA (yM hu.one) ?_)))))
 exact hQ t' u hle hu
theorem Xg{s:List Nat}(hs:∀b∈s,pD b=true)(h0:s≠[])(hp:eR s=false)(hl:s.length<=200)(hQ:∀t' u,bA t t'->aA t' 1 (aD (yC (tD s))) u->Q (.tup [.agg [.bool false,u],.int .i64 0]) t'):Wc yA F 99 [.str s] t Q:=by
 have dig:∀b∈s,48<=b/\b<=57:=fun b hb=>by have:=hs b hb;unfold pD at this;simpa using this
 have hlen:0<s.length:=List.length_pos_iff.2 h0
 obtain⟨x,hx⟩:∃x,s[0]?=some x:=⟨s[0],ybd hlen⟩
 have hxd:=dig x (ycv hx)
 have hx0:=eM hx
 rw[show((0:Nat):Int)=0 from rfl]at hx0
 have ll:∀s:List Nat,(Int.ofNat (zB s))=(s.length:Int):=fun s=>by rw[qD];rfl
 have words:∀(n:Nat) (r w:List Nat) (v:zA) (t1:Tr vA),r.length<=n->(∀b∈r,pD b=true)->r.length<=200->w.length+r.length<=300->bA t t1->aA t1 1 (xC .u32 w) v->jB 4294967296 w->val 4294967296 w*10^r.length+tD r=tD s →
   jp 99 6 [.str r,.bool false,v,.bool false,.nilslice] t1 Q:=by
  intro n;induction n with
  | zero=>
   intro r w v t1 hr hd hr2 hw hle hv hlt hval;have:r=[]:=ycc.1 (by omega)
   subst this;refine j99_6 ?_
   unfold zhz uG uI;rw[ll];refine sB (by simp[lC]) (yB ?_)
   rw[q122];refine SF hv (by omega) hlt fun t2 u k1 k2=>?_
   have:(if kE w=[]then false else false)=false:=by split<;>rfl
   rw[this];have hval:val 4294967296 w=tD s:=by simpa[tD]using hval
   rw[hval]at k2;exact qA rfl (nC (tO k2) (qA rfl (tB (sA (yM k2.one) (hQ t2 u (hle.trans k1) k2)))))
  | succ n ih=>
   intro r w v t1 hr hd hr2 hw hle hv hlt hval;by_cases hz:r.length=0
   ·exact ih r w v t1 (by omega) hd hr2 hw hle hv hlt hval
   refine j99_6 ?_
   unfold zhz uG uI;have hc:(bif bB (Int.ofNat (zB r)) 9 then(Int.ofNat (zB r))else 9)=((min 9 r.length:Nat):Int):=by
    rw[ll,lC];by_cases h9:r.length<9
    ·rw[decide_eq_true (by omega)];show(r.length:Int)=_;omega
    ·rw[decide_eq_false (by omega)];show(9:Int)=_;omega
   rw[hc,ll];refine sA (by rw[lC];exact decide_eq_true (by omega)) (jC ?_)
   have hcl:min 9 r.length<=r.length:=Nat.min_le_right _ _
   generalize hcd:min 9 r.length=c at *
   have hc9:c<=9:=by omega
   have hpc:∀i,i<=c->10^i<=1000000000:=fun i hi=>by
    have:10^i<=10^9:=yao (by omega) (by omega)
    simpa using this
   have hdt:∀i,tD (r.take i)<10^i\/r.length<i:=fun i=>by
    by_cases hi:i<=r.length
    ·have:=Fv (s:=r.take i) fun b hb=>hd b (List.mem_of_mem_take hb)
     rw[yda,Nat.min_eq_left hi]at this;exact .inl this
    ·exact .inr (by omega)
   have inner:∀(k i:Nat),i+k=c->jp 99 10 [.str r,.bool false,v,.int .i64 (c:Int),.int .u32 ((10^i:Nat):Int),.int .u32 ((tD (r.take i):Nat):Int),.int .i64 (c:Int),.int .i64 (i:Int),.bool false,.nilslice] t1 Q:=by
    intro k;induction k with
    | zero=>
     intro i hi;have hi:i=c:=by omega
     subst hi;refine zfu ?_
     unfold Uk;refine sB (by simp[lC]) (yB ?_)
     rw[q121];have hp1:=hpc i (ybk _)
     have hp2:tD (r.take i)<10^i:=(hdt i).resolve_right (by omega)
     refine zbp hv (by omega) hlt (by omega) (by omega) fun t2 w2 v2 k1 k2 k3 k4 k5 k6=>?_
     refine qA (Pm (by omega)) (iF (jC ?_))
     refine ih (r.drop i) w2 v2 t2 (by rw[ydj];omega) (fun b hb=>hd b (List.mem_of_mem_drop hb)) (by rw[ydj];omega) (by rw[ydj];omega) (hle.trans k1) k2 k3 ?_
     have hsp:tD r=tD (r.take i)*10^(r.drop i).length+tD (r.drop i):=by rw[<- Sl,List.take_append_drop]
     have hlr:r.length=i+(r.drop i).length:=by rw[ydj];omega
     rw[k5,<- hval,hsp,hlr,Nat.pow_add];grind
    | succ k ih2=>
     intro i hi;have hri:r[i]?=some r[i]:=ybd (by omega)
     have hrd:48<=r[i]/\r[i]<=57:=by have:=hd r[i] (ycj _);unfold pD at this;simpa using this
     refine zfu ?_
     unfold Uk uU;have hp1:=hpc (i+1) (by omega)
     have hp2:tD (r.take (i+1))<10^(i+1):=(hdt (i+1)).resolve_right (by omega)
     rw[qQ hri,AD]at hp2;refine sA (by rw[lC];exact decide_eq_true (by omega)) (qA (eM hri) (tB (jC ?_)))
     rw[yag]at hp1 hp2;have e1:iA .u32 (((10^i:Nat):Int)*10)=((10^(i+1):Nat):Int):=by rw[aT (by omega) (by omega),yag];omega
     have e2:iA .u32 (iA .u32 (((tD (r.take i):Nat):Int)*10)+iA .u32 (iA .u8 ((r[i]:Int)-48)))=((tD (r.take (i+1)):Nat):Int):=by
      rw[Of (by omega) (by omega),aT (n:=((tD (r.take i):Nat):Int)*10) (by omega) (by omega),aT (n:=(r[i]:Int)-48) (by omega) (by omega),aT (by omega) (by omega),qQ hri,AD]
      omega
     have e3:xD (i:Int)=.int .i64 ((i+1:Nat):Int):=by
      show zA.int .i64 (iA .i64 ((i:Int)+1))=_
      rw[gC (by omega) (by omega)];rfl
     rw[e1,e2,e3];exact ih2 (i+1) (by omega)
   exact inner c 0 (by omega)
 have check:∀(k i:Nat),i+k=s.length->jp 99 2 [.str s,.bool false,.int .i64 (s.length:Int),.int .i64 (i:Int),.bool false,.nilslice] t Q:=by
  intro k;induction k with
  | zero=>
   intro i hi;refine j99_2 ?_
   unfold zh0;rw[ll];refine sB (by rw[lC];simp;omega) (sB (by rw[lC];simp;omega) (jC ?_))
   exact words s.length s [] .nilslice t (ybk _) hs hl (by simp;omega) (bA.refl _) mP (fun x hx=>by cases hx) (by simp[val])
  | succ k ih=>
   intro i hi;have hsi:s[i]?=some s[i]:=ybd (by omega)
   have hsd:=dig s[i] (ycj _)
   refine j99_2 ?_
   unfold zh0 uU;have e3:xD (i:Int)=.int .i64 ((i+1:Nat):Int):=by
    show zA.int .i64 (iA .i64 ((i:Int)+1))=_
    rw[gC (by omega) (by omega)];rfl
   refine sA (by rw[lC];exact decide_eq_true (by omega)) (qA (eM hsi) (tB (sB (by rw[lC];simp;omega) (qA (eM hsi) (tB (sB (by rw[lC];simp;omega) (jC ?_)))))))
   rw[e3];exact ih (i+1) (by omega)
 refine w99 ?_
 unfold t99 uU;rw[ll];refine sA (by rw[lC];exact decide_eq_true (by omega)) (qA hx0 (tB (sB (by rw[tF];simp;omega) (jC ?_))))
 have e45:aB (x:Int) 45=false:=by rw[tF];simp;omega
 rw[e45];refine j99_11 ?_
 unfold zew uU;rw[ll];refine sB (by rw[tF];simp;omega) (qA hx0 (tB ?_))
 by_cases h48:x=48
 ·have hl1:s.length=1:=by
   unfold eR at hp;have:s.head?=some 48:=by
    cases s with
    | nil=>cases hx
    | cons a r=>cases hx;simp[h48]
   rw[this]at hp;simp at hp;omega
  refine sA (by rw[tF];simp;omega) (sB (by simp) (sB (by rw[lC];simp;omega) (jC ?_)))
  exact check s.length 0 (by omega)
 ·refine sB (by rw[tF];simp;omega) (jC ?_)
  exact check s.length 0 (by omega)
end
end
section
variable {a b:Nat}{u v:zA}{l:List Nat}
variable [fC]
def Du{n:Nat}(h:(yC n).length<=1024):sQ false (yC n)=true:=by
 unfold sQ;split
 ·rfl
 ·rename_i hne
  have hn:=Lw n hne
  have:(yC n).getLast?≠some 0:=by
   rw[List.getLast?_eq_some_getLast hne];intro e;exact hn (yci e)
  simp[h,this]
def el41:vQ yA 41 79 1:=⟨⟨_,ty41,rfl,rfl⟩,⟨_,Bk,rfl,rfl,by decide,by decide⟩,fun y h=>by rw[Bk]at h;cases h;rfl⟩
section
variable {t:Tr vA}{Q:qB}
def sameA{b:Bool}  (h:aA t 1 (aD l) v):same 10 (.agg [.bool b,v]) (.agg [.bool b,v])=true:=by
 have h1:=aA.same (d:=9) h
 have h2:same 9 (.bool b) (.bool b)=true:=RV
 show(same 9 (.bool b) (.bool b)&&(same 9 v v&&true))=true
 rw[h1,h2];rfl
def BU  (hv:aA t 1 (xC .u32 l) v)(hl:l.length<400000)(hlt:jB 4294967296 l)(hQ:∀t' u,bA t t'->aA t' 1 (aD (yC (val 4294967296 l))) u->Q (.agg [.bool false,u]) t'):Wc yA F 141 [.bool false,v] t Q:=by
 refine Tz hv hl hlt fun t' u hle hu=>?_
 have hlt2:jB 65536 (kE (qH (kE l))):=eT (Te (eT hlt))
 have hval:val 65536 (kE (qH (kE l)))=val 4294967296 l:=by rw[mV,Oj,mV]
 rw[Yj hlt2 (yW _) hval]at hu
 have:(if kE l=[]then false else false)=false:=by split<;>rfl
 rw[this];exact hQ t' u hle hu
def zac  (hu:aA t 1 (aD (yC a)) u)(hv:aA t 1 (aD (yC b)) v)(ha:(yC a).length<=1000)(hb:(yC b).length<=1000)(hb0:0<b)
  (hQ:∀t' q r,bA t t'->aA t' 1 (aD (yC (a / b))) q->aA t' 1 (aD (yC (a%b))) r->Q (.tup [.agg [.bool false,q],.agg [.bool false,r],.int .i64 0]) t'):Wc yA F 156 [.agg [.bool false,u],.agg [.bool false,v]] t Q:=by
 have hBB:=nO
 refine w156 ?_
 unfold t156 uB uI;refine iC fun bb hbb hbase=>?_
 obtain⟨t1,g1,g2,g3,g4⟩:=Fc (C:=yA) (T:=229) (el:=43) (sz:=2) (n:=2) (cl:=[[.bool false,u],[.bool false,v]]) (ps:=[(0,.agg [.bool false,u]),(1,.agg [.bool false,v])]) zhh rfl ty43 rfl rfl (by decide) rfl (fun i cs hi=>by
  match i,hi with
  | 0,hi=>cases hi;rfl
  | 1,hi=>cases hi;rfl) rfl hbb
 refine⟨_,_,g1,yB ?_⟩
 have hw:aA t1 2 ([(⟨false,yC a⟩:mK),⟨false,yC b⟩].map mK.d) (.slice bb 0 2 2):=⟨_,g2,aC.2 ⟨_,_,rfl,Cf (w:=⟨false,yC a⟩) (hu.mono g3),aC.2 ⟨_,_,rfl,Cf (w:=⟨false,yC b⟩) (hv.mono g3),sF.2 rfl⟩⟩⟩
 have hall:=OB hw (fun w hw=>by
  rcases ybs.1 hw with rfl | hw
  ·show(yC a).length<_;omega
  ·rcases ybs.1 hw with rfl | hw
   ·show(yC b).length<_;omega
   ·cases hw) (by simp)
 have hva:=Du (n:=a) (by omega)
 have hvb:=Du (n:=b) (by omega)
 rw[q162,hall,pA];refine rD (sB (by simp[hva,hvb]) ?_)
 have hvl:=aA.len (l:=aD (yC b)) hv
 rw[xV]at hvl;have hbne:yC b≠[]:=fun e=>by have:=Fdzx.1 e;omega
 have hbl:0<(yC b).length:=List.length_pos_iff.2 hbne
 refine qA hvl (tB (sB (by rw[tF];simp;omega) (yB ?_)))
 rw[q164];refine Qe (hv.mono g3) (by omega) (vX b) fun t2 v2 k1 k2=>yB ?_
 rw[q164];refine Qe ((hu.mono g3).mono k1) (by omega) (vX a) fun t3 v3 m1 m2=>yB ?_
 rw[q165];have an:=Nn (vX a)
 have ab:=Nn (vX b)
 have vn:∀n,val BB (yH (yC n))=n:=fun n=>by rw[hBB,Tu,iX]
 refine Zy m2 (k2.mono m1) (by rw[xT];omega) (by rw[hBB];exact an) (by rw[hBB];exact ab) (Lv (Lw a)) (Lv (Lw b)) (fun e=>?_) fun t4 q r qv rv p1 p2 p3 p4 p5 p6 p7 p8 p9=>?_
 ·have:=vn b
  rw[e]at this;have:(0:Nat)=b:=this
  omega
 rw[vn,vn]at p8;rw[vn]at p9;have hq:val BB q=a / b/\val BB r=a%b:=by
  have h1:a=b*val BB q+val BB r:=p8
  have h2:val BB r<b:=p9
  constructor
  ·rw[h1,Nat.mul_add_div hb0,Nat.div_eq_of_lt h2,yct]
  ·rw[h1,Nat.mul_add_mod,Nat.mod_eq_of_lt h2]
 have hB1:1<BB:=by omega
 have lenq:q.length<=1000:=by
  have h1:val BB q<=val BB (yH (yC a)):=by rw[vn,hq.1];exact Nat.div_le_self _ _
  have:=yS hB1 (by rw[hBB];exact an) p6 h1
  rw[xT]at this;omega
 have lenr:r.length<=1000:=by
  have h1:val BB r<=val BB (yH (yC b)):=by rw[vn];omega
  have:=yS hB1 (by rw[hBB];exact ab) p7 h1
  rw[xT]at this;omega
 refine qA rfl (qA rfl (sB (by decide) (jC ?_)))
 refine zjt ?_
 unfold CX uG;refine yB ?_
 rw[q141];show Wc yA F 141 [.bool false,qv] t4 _
 refine BU p2 (by omega) (by rw[<- hBB];exact p4) fun t5 u5 s1 s2=>?_
 rw[<- hBB,hq.1]at s2;refine nC (tO s2) (sA rfl (yB ?_))
 rw[q141];refine BU (p3.mono s1) (by omega) (by rw[<- hBB];exact p5) fun t6 u6 s3 s4=>?_
 rw[<- hBB,hq.2]at s4;refine nC (tO s4) (sA (yM s2.one) (sA (yM s4.one) ?_))
 exact hQ t6 u5 u6 (g3.trans (k1.trans (m1.trans (p1.trans (s1.trans s3))))) (s2.mono s3) s4
def zgn  (hu:aA t 1 (aD (yC a)) u)(hv:aA t 1 (aD (yC b)) v)(ha:(yC a).length<=1000)(hb:(yC b).length<=1000)(hb0:0<b)
  (hQ:∀t' q r,bA t t'->aA t' 1 (aD (yC (a / b))) q->aA t' 1 (aD (yC (a%b))) r->Q (.tup [.agg [.bool false,q],.agg [.bool false,r]]) t'):Wc yA F 143 [.agg [.bool false,u],.agg [.bool false,v]] t Q:=by
 refine w143 ?_
 unfold t143 uG uI;refine yB ?_
 rw[q156];refine zac hu hv ha hb hb0 fun t' q r h1 h2 h3=>?_
 refine qA rfl (nC (tO h2) (qA rfl (nC (tO h3) (qA rfl (tB (sA (yM h2.one) (sA (yM h3.one) (sA (yM h2.one) (sA (sameA h3) (sA (yM h3.one) ?_))))))))))
 exact hQ t' q r h1 h2 h3
def agF{f:jH} (hu:aA t 1 (aD f.n.limbs) u)(hv:aA t 1 (aD f.d.limbs) v):nK [.bool false,.nilslice,.bool false,.nilslice] (.agg [.bool f.n.neg,u,.bool f.d.neg,v])=some (cellsOf [.bool f.n.neg,u,.bool f.d.neg,v]):=tV (Ch hu hv) (jH.zs _)
def Mh (h:a<=b):(yC a).length<=(yC b).length:=
 yS (B:=65536) (by omega) (vX b) (Lw a) (by rw[iX,iX];exact h)
def zi1  (hu:aA t 1 (aD (yC a)) u)(hv:aA t 1 (aD (yC b)) v)(ha:(yC a).length<=200)(hb:(yC b).length<=200)(hb0:0<b)
  (hQ:∀t' cs,bA t t'->RD t' (dM false a b).dd cs->Q (.tup [.agg cs,.int .i64 0]) t'):Wc yA F 100 [.agg [.bool false,u],.agg [.bool false,v]] t Q:=by
 have hva:=Du (n:=a) (by omega)
 have hvb:=Du (n:=b) (by omega)
 have hvl:=aA.len (l:=aD (yC b)) hv
 rw[xV]at hvl;have hbne:yC b≠[]:=fun e=>by have:=Fdzx.1 e;omega
 have hbl:0<(yC b).length:=List.length_pos_iff.2 hbne
 refine w100 ?_
 unfold t100 uB uI uG;refine yB ?_
 rw[q123,Gr (by omega) hu,pA,hva]
 refine rD (sB (by simp) (yB ?_))
 rw[q123,Gr (by omega) hv,pA,hvb]
 refine rD (sB (by simp) (qA hvl (tB (sB (by rw[tF];simp;omega) (yB ?_)))))
 rw[q124];refine w124 ?_
 unfold t124;refine sB (by simp) (jC (j124_7 ?_))
 unfold zfc uG;refine yB ?_
 rw[q142];refine w142 ?_
 unfold t142 uG uI;refine yB ?_
 rw[q155];refine zgl (n:=⟨false,yC a⟩) (d:=⟨false,yC b⟩) hu hv (by show(yC a).length<_;omega) (by show(yC b).length<_;omega) (vX a) (vX b) hva hvb fun t1 g gv h1 h2 h3 h4 h5=>?_
 have h5:val 65536 g=Nat.gcd a b:=by rw[h5,iX,iX]
 have hg:=Yj h3 h4 h5
 subst hg;have hgb:Nat.gcd a b<=b:=Nat.gcd_le_right _ hb0
 have hgl:=Mh hgb
 have hg0:0<Nat.gcd a b:=Nat.gcd_pos_of_pos_right _ hb0
 refine qA rfl (nC (tO h2) (qA rfl (tB (sA (yM h2.one) (sA (yM h2.one) ?_)))))
 refine nC (tO h2) (sA (yM h2.one) (yB ?_))
 rw[q143];refine zgn (hu.mono h1) h2 (by omega) (by omega) hg0 fun t2 q r k1 k2 k3=>?_
 refine qA rfl (nC (tO k2) (qA rfl (nC (tO k3) (sA (yM k2.one) (yB ?_)))))
 rw[q143];refine zgn ((hv.mono h1).mono k1) (h2.mono k1) (by omega) (by omega) hg0 fun t3 q2 r2 m1 m2 m3=>?_
 have kq:=k2.mono m1
 have hf:=Ch (f:=⟨⟨false,yC (a / Nat.gcd a b)⟩,⟨false,yC (b / Nat.gcd a b)⟩⟩) kq m2
 refine qA rfl (nC (tO m2) (qA rfl (nC (tO m3) (sA (yM m2.one) (sA rfl (sA rfl (sA hf.all ?_)))))))
 refine nC (agF (f:=⟨⟨false,yC (a / Nat.gcd a b)⟩,⟨false,yC (b / Nat.gcd a b)⟩⟩) kq m2) (yB ?_)
 have ql:=aA.len (l:=aD (yC (a / Nat.gcd a b))) kq
 rw[xV]at ql;have ql2:=aA.len (l:=aD (yC (b / Nat.gcd a b))) m2
 rw[xV]at ql2;have la:=Mh (Nat.div_le_self a (Nat.gcd a b))
 have lb:=Mh (Nat.div_le_self b (Nat.gcd a b))
 have long:uC yA F 144 [.agg [.bool false,q,.bool false,q2]] t3=some (.bool false):=by
  refine fD.2 (w144 ?_)
  unfold t144 uI bJ;refine qA ql (tB (sB (by rw[lC];simp;omega) (qA ql2 (tB ⟨?_,rfl⟩))))
  rw[lC,decide_eq_false (by omega)]
 have res:uC yA F 125 [.agg [.bool false,q,.bool false,q2]] t3=some (.tup [.agg [.bool false,q,.bool false,q2],.int .i64 0]):=by
  refine fD.2 (w125 ?_)
  unfold t125 uB;refine yB ?_
  rw[q144,long,pA];exact rD (sB (by simp) (sA hf.all ⟨rfl,rfl⟩))
 rw[q125];show sE (uC yA F 125 [.agg [.bool false,q,.bool false,q2]] t3) _
 rw[res,pA];refine qA rfl (nC (agF (f:=⟨⟨false,yC (a / Nat.gcd a b)⟩,⟨false,yC (b / Nat.gcd a b)⟩⟩) kq m2) (qA rfl (tB (sA hf.all ?_))))
 refine hQ t3 _ (h1.trans (k1.trans m1)) ?_
 unfold dM;exact hf
theorem MR  (hv:aA t 1 (aD l) v)(hl:l.length<1000000)(hQ:∀t' v',bA t t'->aA t' 1 (aD l) v'->Q v' t'):Wc yA F 146 [v] t Q:=by
 refine w146 ?_
 have e:(aP .eql).f yA 41 (.tmp 3) (.const (.slice none 0 0)) v .nilslice=some (.bool (Nat.beq v.tag 5)):=by
  obtain⟨cl,h1,_⟩:=hv
  rcases h1 with⟨rfl,_⟩ | ⟨b,off,cap,rfl,_⟩
  ·kernel_rfl
  ·kernel_rfl
 simp only[uB,t146,rA,e,pA,Db];split
 ·grind [kV,kC,bA.refl]
 ·intro b hb hbase
  obtain⟨H1,g1,⟨c,g2⟩,g3⟩:=lit0 (t:=t) ty41 rfl Bk rfl hb
  rw[g1];simp only[pA];intro n hn _;obtain⟨u,H',g4,g5,g6,_⟩:=NY el41 (hv.mono g3) (by grind [xV]) hn (.inr ⟨b,c,0,rfl,g2⟩)
  rw[g4];simp only[pA];exact hQ _ _ (g3.trans g6) g5
def Xj {neg:Bool} (hv:aA t 1 (aD l) v)(hl:l.length<1000000)(hQ:∀t' v',bA t t'->aA t' 1 (aD l) v'->Q (.agg [.bool (!neg&&decide (0<l.length)),v']) t'):Wc yA F 127 [.agg [.bool neg,v]] t Q:=by
 have hvl:=aA.len (l:=aD l) hv
 rw[xV]at hvl;refine w127 ?_
 unfold t127 uI
 cases neg with
 | false=>
  refine sA rfl (qA hvl (tB (yB ?_)))
  rw[q146];refine MR hv hl fun t1 v1 h1 h2=>?_
  have e:bB 0 (l.length:Int)=decide (0<l.length):=by rw[lC];congr 1;simp
  rw[e];have hs:same 10 (.int .i64 (l.length:Int)) (uZ (l.length:Int))=true:=by
   show same 10 (.int .i64 (l.length:Int)) (.int .i64 (l.length:Int))=true
   exact Pq
  refine sA hv.same (qA hvl (sA hs (sA (yM h2.one) (sA (yM h2.one) ?_))))
  have:=hQ t1 v1 h1 h2
  rw[ycl,ycn]at this;exact this
 | true=>
  refine sB (by simp) (yB ?_)
  rw[q146];refine MR hv hl fun t1 v1 h1 h2=>?_
  refine sA (yM h2.one) (sA (yM h2.one) ?_)
  exact hQ t1 v1 h1 h2
def neg_ok {cs:List zA}(hd:RD t (dM false a b).dd cs)(ha:(yC a).length<=200)(hb:(yC b).length<=200)(hb0:0<b)
  (hQ:∀t' cs,bA t t'->RD t' (dM true a b).dd cs->Q (.tup [.agg cs,.int .i64 0]) t'):Wc yA F 101 [.agg cs] t Q:=by
 have hg0:0<Nat.gcd a b:=Nat.gcd_pos_of_pos_right _ hb0
 have la:=Mh (Nat.div_le_self a (Nat.gcd a b))
 have lb:=Mh (Nat.div_le_self b (Nat.gcd a b))
 obtain⟨u,v,rfl,hu,hv⟩:=rd_frac hd
 have hu:aA t 1 (aD (yC (a / Nat.gcd a b))) u:=hu
 have hv:aA t 1 (aD (yC (b / Nat.gcd a b))) v:=hv
 have hd0:0<b / Nat.gcd a b:=Nat.div_pos (Nat.gcd_le_right _ hb0) hg0
 have hvalid:Ke (dM false a b)=true:=by
  unfold Ke;have e1:(dM false a b).n=⟨false,yC (a / Nat.gcd a b)⟩:=rfl
  have e2:(dM false a b).d=⟨false,yC (b / Nat.gcd a b)⟩:=rfl
  rw[e1,e2];simp only[Du (n:=a / Nat.gcd a b) (by omega),Du (n:=b / Nat.gcd a b) (by omega),iX]
  have hco:Nat.gcd (a / Nat.gcd a b) (b / Nat.gcd a b)=1:=by
   rw[Nat.gcd_div (Nat.gcd_dvd_left a b) (Nat.gcd_dvd_right a b),Nat.div_self hg0]
  have hne:yC (b / Nat.gcd a b)≠[]:=fun e=>by have:=Fdzx.1 e;omega
  simp[hne,hco]
  omega
 have hfit:jH.fit (dM false a b):=⟨⟨by show(yC _).length<_;unfold nM;omega,by show(yC _).length<_;unfold nM;omega⟩,vX _,vX _⟩
 refine w101 ?_
 unfold t101 uB uG;refine yB ?_
 rw[q126];have:=ON (f:=dM false a b) hu hv hfit
 show sE (uC yA F 126 [.agg [.bool (dM false a b).n.neg,u,.bool (dM false a b).d.neg,v]] t) _
 rw[this,pA,hvalid];refine rD (sB (by simp) (yB ?_))
 rw[q127];refine Xj (neg:=false) hu (by omega) fun t1 u1 h1 h2=>?_
 have hv1:=hv.mono h1
 refine nC (tO h2) (sA (sameA hv1) (yB ?_))
 rw[q127];refine Xj (neg:=false) hv1 (by omega) fun t2 v2 k1 k2=>?_
 refine nC (tO k2) (yB ?_)
 rw[q127];refine Xj (neg:=(!false&&decide (0<(yC (b / Nat.gcd a b)).length))) k2 (by omega) fun t3 v3 m1 m2=>?_
 refine nC (tO m2) (sA rfl ?_)
 have hne:0<(yC (b / Nat.gcd a b)).length:=List.length_pos_iff.2 fun e=>by have:=Fdzx.1 e;omega
 have hn:(dM true a b).n=⟨!false&&decide (0<(yC (a / Nat.gcd a b)).length),yC (a / Nat.gcd a b)⟩:=by
  unfold dM;congr 1
  by_cases h0:a=0
  ·subst h0
   have:yC (0 / Nat.gcd 0 b)=[]:=Fdzx.2 (by simp)
   rw[this];rfl
  ·have h1:0<a / Nat.gcd a b:=Nat.div_pos (Nat.gcd_le_left _ (by omega)) hg0
   have:0<(yC (a / Nat.gcd a b)).length:=List.length_pos_iff.2 fun e=>by have:=Fdzx.1 e;omega
   simp[this];omega
 have hdd:(dM true a b).d=⟨!(!false&&decide (0<(yC (b / Nat.gcd a b)).length))&&decide (0<(yC (b / Nat.gcd a b)).length),yC (b / Nat.gcd a b)⟩:=by
  unfold dM;congr 1;simp[hne]
 have hf:=Ch (f:=⟨⟨!false&&decide (0<(yC (a / Nat.gcd a b)).length),yC (a / Nat.gcd a b)⟩,⟨!(!false&&decide (0<(yC (b / Nat.gcd a b)).length))&&decide (0<(yC (b / Nat.gcd a b)).length),yC (b / Nat.gcd a b)⟩⟩) ((h2.mono k1).mono m1) m2
 refine sA hf.all ?_
 refine hQ t3 _ (h1.trans (k1.trans m1)) ?_
 have:dM true a b=⟨(dM true a b).n,(dM true a b).d⟩:=rfl
 rw[this,hn,hdd];exact hf
end
end
section
variable {l s:List Nat}{v y:zA}{box x:Nat}{Q:qB}{I:Nat->Tr vA->Prop}{neg:Bool}
variable [fC]
section
variable {t tf:Tr vA}
theorem YA      (hl:l.length<1000000)
  (hr:∀k t,I k t->mA yA 41 ⟨0,t⟩ (.ptr box 0)=some v/\aA t 1 (xC .u16 l) v)
  (hy:∀k x t,l[k]?=some x->I (k+1) t->∀R:qB,(∀t',I k t'->R (.bool true) t')->sE (cL y [.int .u16 (x:Nat)]) fun p=>Wq yA F mB p.1 p.2 t R)
  (hQ:∀t,I 0 t->Q (.tup []) t):∀(k:Nat) (t:Tr vA),k<=l.length->I k t->jp 159 2 [y,.ptr box 0,.int .i64 ((k:Int)-1)] t Q:=by
 intro k;induction k with
 | zero=>
  intro t _ h;refine zga ?_
  simp only[uH,uB,uZ,uW,Vh,rA,vL];simp_all
 | succ k ih=>
  intro t hk h;obtain⟨g0,hv⟩:=hr _ _ h
  obtain⟨x,hx⟩:=getElem?_of_lt (l:=l) (i:=k) (by omega)
  obtain⟨c,off,g1,g2⟩:=hv.idx vZ hx
  have e1:((k+1:Nat):Int)-1=(k:Int):=by omega
  rw[e1];refine zga ?_
  simp (disch:=omega) only[uH,uB,uZ,uW,Vh,rA,vL,g0,g1,g2,pA,tC,gC]
  rw[yab (by omega)]
  refine hy k x t hx h _ fun t' ht'=>?_
  grind [zA.asBool,pA]
def zaa     {t:Tr vA} (hl:l.length<1000000)
  (hr:∀k t,I k t->mA yA 41 ⟨0,t⟩ (.ptr box 0)=some v/\aA t 1 (xC .u16 l) v)
  (hy:∀k x t,l[k]?=some x->I (k+1) t->∀R:qB,(∀t',I k t'->R (.bool true) t')->sE (cL y [.int .u16 (x:Nat)]) fun p=>Wq yA F mB p.1 p.2 t R)
  (hQ:∀t,I 0 t->Q (.tup []) t) (h:I l.length t):Wc yA F 159 [y,.ptr box 0] t Q:=by
 obtain⟨g0,hv⟩:=hr _ _ h
 refine w159 ?_
 simp (disch:=omega) only[uI,uZ,uW,t159,rA,g0,hv.len,kH,pA,tC,gC]
 exact YA hl hr hy hQ l.length t (ybk _) h
theorem STzx{f i:Nat}{v8 v4:zA}{K R:T}{ps:List Nat} {S:Nat->Tr vA->Tr vA->Prop}(hS:∀k,BH (S k))(hp:aA tf 1 (xC .u16 ps) v4)(hl:ps.length<30000)(h:S ps.length tf t)
  (body:∀(k x:Nat) (tf t:Tr vA) (Q1:qB),ps[k]?=some x->S (k+1) tf t->(∀t',S k tf t'->Q1 (.bool true) t')->Jq yA F f i [v8,.int .u16 (x:Int)] t Q1)
  (fin:∀tf' t',bA tf tf'->S 0 tf' t'->rA yA.base (Wq yA F mB) (Jq yA F f) K t' Q) :
  rA yA.base (Wq yA F mB) (Jq yA F f) (.call 147 [v4] fun a0=>.range (aR yA) a0 i 1 [v8] K R) t Q:=by
 simp only[rA];rw[q147];refine w147 ?_
 simp only[t147,rA];intro bb hbb hbase;have hc4:v4.cells=[v4]:=by
  obtain⟨cl,h1,_⟩:=hp
  rcases h1 with⟨rfl,_⟩ | ⟨_,_,_,rfl,_⟩<;>rfl
 have hone:xM v4 ⟨bb,t⟩=some (.ptr bb 0,⟨bb+1,t.set bb (.cells (Tr.ofList [v4]) 1 none)⟩):=by
  unfold xM;rw[hc4];rfl
 rw[hone,pA];simp only[];have h1:=(hS _).both h hbb (.cells (Tr.ofList [v4]) 1 none)
 have hfb:=Hr ((hS _).le h) hbb
 have htf1:bA tf (tf.set bb (.cells (Tr.ofList [v4]) 1 none)):=(cN hfb _).1
 generalize htf:tf.set bb (.cells (Tr.ofList [v4]) 1 none)=tf1 at h1 htf1
 have hg1:tf1.get bb=some (.cells (Tr.ofList [v4]) 1 none):=by rw[<- htf,Tr.get_set,yab rfl]
 generalize t.set bb (.cells (Tr.ofList [v4]) 1 none)=t1 at h1
 refine⟨Nat.le_add_right _ _,fun l r hl0 hlb hr1 hr2 hy=>?_⟩
 have hra:Bw (aR yA) (.func (.func 159) [] [.ptr bb 0]) l=some (159,[.func (.yld l) [] [],.ptr bb 0]):=by
  unfold Bw;simp only[zA.asFunc,oA];have:aR yA 159=true:=by kernel_rfl
  rw[this];rfl
 rw[hra,pA];have h2:=(hS _).both h1 hl0 (.loop r)
 have hfl:=Hr ((hS _).le h1) hl0
 have hlr:aO true r=r:=by
  obtain⟨a,b,c,d,e,f,g,h,i⟩:=r
  have hr1:a=.ready:=hr1
  have hr2:b=none:=hr2
  subst hr1;subst hr2;rfl
 have hle2:bA tf1 (tf1.set l (.loop r)):=(cN hfl _).1
 rw[show Wq yA F mB 159=Wc yA F 159 by funext a m R;rw[q159]]
 refine zaa (l:=ps) (v:=v4) (I:=fun k t'=>S k (tf1.set l (.loop r)) t') (by omega) ?_ ?_ ?_ h2
 ·intro k t' hI
  have hle:=(hS _).le hI
  have hg:t'.get bb=some (.cells (Tr.ofList [v4]) 1 none):=hle _ _ (hle2 _ _ hg1)
  refine⟨?_,hp.mono (htf1.trans (hle2.trans hle))⟩
  exact(cC.load1 (cs:=[v4]) (lo:=none) ⟨Tr.ofList [v4],hg,fun j a hj=>by grind [Tr.get_ofList]⟩ ty41 rfl (j:=0) rfl)
 ·intro k x t' hx hI R hR
  show sE (some (yo+l,[zA.int .u16 (x:Int)])) _
  rw[pA];refine hy [.int .u16 (x:Int)] t' R rfl ((hS _).le hI _ _ (by rw[Tr.get_set,yab rfl])) ?_
  refine body k x tf1 _ _ hx ((hS _).out hfl hI) fun t2 h3 hn2=>⟨true,rfl,?_⟩
  rw[hlr];exact hR _ ((hS _).both h3 hn2 (.loop r))
 ·intro t' hI
  exact .inl ⟨(hS _).le hI _ _ (by rw[Tr.get_set,yab rfl]),fin tf1 _ htf1 ((hS _).out hfl hI)⟩
def or16{y:Nat}(hx:x<281474976710656)(hy:y<65536):lI Nat.lor .u64 ((x*65536:Nat):Int) (y:Int)=some (.int .u64 ((x*65536+y:Nat):Int)):=by
 have h:=Eg (a:=x) (b:=y) (n:=16) hy
 have e:(2:Nat)^16=65536:=by decide
 rw[e]at h;rw[fU (k:=.u64) (show x*65536<iG .u64 by show _<18446744073709551616;omega) (show y<iG .u64 by show _<18446744073709551616;omega),h]
def zdg{bx y:Nat}{Q1:qB}(h:qV bx (.int .u64 (y:Int)) tf t)(hy:y<281474976710656)(hx:x<65536)(hQ:∀t',qV bx (.int .u64 ((y*65536+x:Nat):Int)) tf t'->Q1 (.bool true) t'):jp 128 2 [.ptr bx 0,.int .u16 (x:Int)] t Q1:=by
 obtain⟨i1,i2,i3,i4⟩:=h
 have e5:(y:Int)*65536=((y*65536:Nat):Int):=by omega
 have e6:lI Nat.lor .u64 (iA .u64 ((y:Int)*65536)) (iA .u64 (x:Int))=some (.int .u64 ((y*65536+x:Nat):Int)):=by
  rw[e5,jF (by omega) (by omega),jF (by omega) (by omega),or16 hy hx]
 refine j128_2 ?_
 unfold zfb uE;refine vC (i4.load1 rQ rfl (j:=0) rfl) (tB ?_)
 refine qA e6 (tB (iC fun b3 _ _=>?_))
 obtain⟨t3,k1,k2,k3⟩:=i4.store1 (v:=.int .u64 ((y*65536+x:Nat):Int)) i1 rQ rfl rfl rfl (j:=0) (by simp)
 exact⟨_,_,k1 b3,hQ _ ⟨i1,i2,i3.off i2 k3,k2⟩⟩
def int128{n:Nat} (hv:aA t 1 (aD (yC n)) v)(hl:(yC n).length<=1000):uC yA F 128 [.agg [.bool false,v]] t=some (.tup [.int .i64 (if n<9223372036854775808 then(n:Int)else 0),.int .i64 (if n<9223372036854775808 then 0 else 3)]):=by
 have hvl:=aA.len (l:=aD (yC n)) hv
 rw[xV]at hvl;have hlt:=vX n
 have hval:=iX n
 refine Bx (w128 ?_)
 unfold t128 uB uI;refine yB ?_
 rw[q123,Gr (by omega) hv,pA,Du (by omega)]
 refine rD (sB (by simp) (qA hvl (tB ?_)))
 by_cases h4:4<(yC n).length
 ·have hbig:¬ n<9223372036854775808:=fun h=>by
   have:=Yk (n:=n) (k:=4) (by rw[show(65536:Nat)^4=18446744073709551616 by decide];omega)
   omega
  refine sA (by rw[lC];exact decide_eq_true (by omega)) ⟨?_,bA.refl _⟩
  rw[yaa hbig,yaa hbig]
 ·have hn64:n<18446744073709551616:=by
   have:=pP (B:=65536) (by omega) hlt
   rw[hval]at this;have h2:65536^(yC n).length<=65536^4:=yao (by omega) (by omega)
   rw[show(65536:Nat)^4=18446744073709551616 by decide]at h2
   omega
  refine sB (by rw[lC];simp;omega) (iC fun bx hbx hbase=>?_)
  obtain⟨t1,e1,e2,e3,e4⟩:=iS (C:=yA) rQ hbx
  refine⟨_,_,e1,iC fun b2 _ _=>?_⟩
  obtain⟨t2,g1,g2,g3⟩:=e2.store1 (v:=.int .u64 0) hbase rQ rfl rfl rfl (j:=0) (by simp)
  refine⟨_,_,g1 b2,?_⟩
  have hS0:qV bx (.int .u64 ((val 65536 ((yC n).drop (yC n).length):Nat):Int)) t t2:=by
   rw[List.drop_length];exact⟨hbase,hbx,(bA.refl t).off hbx e4 |>.off hbx g3,g2⟩
  refine STzx (S:=fun k tf t=>qV bx (.int .u64 ((val 65536 ((yC n).drop k):Nat):Int)) tf t) (fun k=>qV.framed) hv (by omega) hS0 (fun k x tf t Q1 hx hI hR=>?_) (fun tf' t' hle hI=>?_)
  ·have hk:=(ybc.1 hx).1
   have hdrop:(yC n).drop k=x::(yC n).drop (k+1):=yR hx
   have hd1:val 65536 ((yC n).drop (k+1))<281474976710656:=by
    have h1:=pP (B:=65536) (by omega) (AX hlt (k+1))
    have h2:65536^((yC n).drop (k+1)).length<=65536^3:=yao (by omega) (by rw[ydj];omega)
    rw[show(65536:Nat)^3=281474976710656 by decide]at h2
    omega
   have hx16:x<65536:=hlt x (ycv hx)
   refine zdg hI hd1 hx16 fun t' h'=>hR t' ?_
   have:val 65536 ((yC n).drop k)=val 65536 ((yC n).drop (k+1))*65536+x:=by rw[hdrop,val];omega
   rw[this];exact h'
  ·obtain⟨i1,i2,i3,i4⟩:=hI
   rw[ycr,hval]at i4;unfold uE;refine sB (by simp) (vC (i4.load1 rQ rfl (j:=0) rfl) (tB ?_))
   by_cases h63:n<9223372036854775808
   ·rw[yab h63,yab h63]
    refine sB (by rw[rS];simp;omega) (vC (i4.load1 rQ rfl (j:=0) rfl) (tB ⟨?_,hle.trans i3⟩))
    have:uW (n:Int)=(n:Int):=gC (by omega) (by omega)
    rw[this]
   ·rw[yaa h63,yaa h63]
    exact sA (by rw[rS];exact decide_eq_true (by omega)) ⟨rfl,hle.trans i3⟩
def GV (h:vH s=false):oN s=s:=by
 unfold vH at h;unfold oN uD;induction s with
 | nil=>rfl
 | cons b s ih=>
  rw[List.contains_cons]at h;simp only[yal,beq_eq_false_iff_ne]at h;have hd:decide (b≠47)=true:=decide_eq_true fun e:b=47=>h.1 e.symm
  rw[List.takeWhile_cons,hd,yab rfl,ih h.2]
def zaj:∀s:List Nat,Ar [47] s=if vH s=true then some (oN s,vO s)else none:=by
 intro s;induction s with
 | nil=>rfl
 | cons b s ih=>
  have e:lU [47] (b::s)=Nat.beq 47 b:=by
   show(bif Nat.beq 47 b then lU [] s else false)=_
   have:lU [] s=true:=by cases s<;>rfl
   rw[this]
   cases Nat.beq 47 b<;>rfl
  unfold Ar;rw[e,ih];unfold vH vO oN uD;rw[List.contains_cons]
  cases hb:Nat.beq 47 b with
  | true=>
   have:=kC.1 hb
   subst this;rw[cond_true,List.takeWhile_cons];simp[eQ,qD]
  | false=>
   have hne:¬ 47=b:=fun e=>by rw[e,Nat.beq_refl]at hb;cases hb
   have hd:decide (b≠47)=true:=decide_eq_true fun e:b=47=>hne e.symm
   rw[cond_false,List.takeWhile_cons,hd,yab rfl];have:(47 == b)=false:=by simp[hne]
   rw[this,Bool.false_or];split
   ·simp
   ·rfl
def AC (h:∀b∈s,pD b=true)(hl:s.length<=200):(yC (tD s)).length<=200:=by
 have h1:=Fv h
 have h2:10^s.length<=65536^s.length:=Nat.pow_le_pow_left (by omega) _
 have:=Yk (n:=tD s) (k:=s.length) (by omega)
 omega
def intPv  {lo hi:Int}(h:bR s)(hs:vH s=false)(hlo : -4294967296<=lo)(hhi:hi<=4294967296):∃i:Int,uC yA F 102 [.str s,.bool neg,.int .i64 lo,.int .i64 hi] t=some (.tup [.int .i64 i,.bool (fL s neg lo hi).isSome])/\∀j,fL s neg lo hi=some j->i=j:=by
 obtain⟨h1,h2,h3,h4,_⟩:=h
 rw[GV hs]at h2 h3 h4;have hlen:=AC h2 h1
 generalize hn:tD s=n at hlen
 have core:∀R:qB,(∀t',bA t t'->n<9223372036854775808->jp 102 15 [.int .i64 lo,.int .i64 hi,.int .i64 (if neg then -(n:Int)else n)] t' R)->(∀t',bA t t'->¬ n<9223372036854775808->R (.tup [.int .i64 0,.bool false]) t')->Wc yA F 102 [.str s,.bool neg,.int .i64 lo,.int .i64 hi] t R:=by
  intro R k1 k2;refine w102 ?_
  unfold t102 uG uI;refine yB ?_
  rw[q99];refine Xg h2 h3 h4 h1 fun t' u hle hu=>?_
  rw[hn]at hu;refine qA rfl (nC (tO hu) (qA rfl (tB (sA (yM hu.one) (yB ?_)))))
  rw[q128];show sE (uC yA F 128 [.agg [.bool false,u]] t') _
  rw[int128 hu (by omega),pA]
  refine qA rfl (tB (qA rfl (tB ?_)))
  by_cases h63:n<9223372036854775808
  ·rw[yab h63,yab h63]
   refine sB (by decide) ?_
   have:=k1 t' hle h63
   cases neg with
   | true=>
    refine sA rfl (jC ?_)
    have e:uW (0-(n:Int)) = -(n:Int):=by
     show iA .i64 (0-(n:Int))=_
     rw[gC (by omega) (by omega)];omega
    rw[e];exact this
   | false=>exact sB (by simp) (jC this)
  ·rw[yaa h63,yaa h63]
   exact sA (by decide) (k2 t' hle h63)
 by_cases h63:n<9223372036854775808
 ·refine⟨if neg then -(n:Int)else n,Bx (core _ (fun t' hle _=>?_) fun t' _ hh=>absurd h63 hh),fun j hj=>?_⟩
  ·refine zjy ?_
   unfold DC;unfold fL;rw[hn];generalize (if neg then -(n:Int)else n)=m
   show wp 102 _ t' _
   by_cases hl:lo<=m
   ·refine sA (by rw[rS];exact decide_eq_true hl) ⟨?_,hle⟩
    by_cases hh:m<=hi
    ·simp[hl,hh,rS]
    ·simp[hl,hh,rS]
   ·refine sB (by rw[rS];simp;omega) ⟨?_,hle⟩
    simp[hl]
  ·unfold fL at hj
   rw[hn]at hj;generalize (if neg=true then -(n:Int)else(n:Int))=m at hj ⊢
   have hj:(if lo<=m/\m<=hi then some m else none)=some j:=hj
   split at hj
   ·exact yci hj
   ·cases hj
 ·have hno:fL s neg lo hi=none:=by
   unfold fL;rw[hn];simp only
   rw[yaa]
   cases neg with
   | true=>simp only[if_true];omega
   | false=>simp only[ybq,if_false];omega
  rw[hno];exact⟨0,Bx (core _ (fun t' _ hh=>absurd hh h63) fun t' hle _=>⟨rfl,hle⟩),fun j hj=>by cases hj⟩
def fracPv   (h:bR s)(hQ:∀t' cs,bA t t'->RD t' (tI s neg).dd cs->Q (.agg cs) t'):Wc yA F 74 [.str s,.bool neg] t Q:=by
 obtain⟨h1,h2,h3,h4,h5⟩:=h
 have la:(oN s).length<=s.length:=by unfold oN uD;exact(List.takeWhile_sublist _).length_le
 have main:∀b:List Nat,(∀x∈b,pD x=true)->b≠[]->eR b=false->b.length<=200->0<tD b->tI s neg=dM neg (tD (oN s)) (tD b)->jp 74 9 [.bool neg,.str (oN s),.str b,.bool false,.nilslice,.bool false,.nilslice] t Q:=by
  intro b b1 b2 b3 b4 b5 hf;refine j74_9 ?_
  unfold t74_9 uG uI;refine yB ?_
  rw[q99];refine Xg h2 h3 h4 (by omega) fun t1 u k1 k2=>?_
  refine qA rfl (nC (tO k2) (qA rfl (tB (sA (yM k2.one) (yB ?_)))))
  rw[q99];refine Xg b1 b2 b3 b4 fun t2 v m1 m2=>?_
  refine qA rfl (nC (tO m2) (qA rfl (tB (sA (yM m2.one) (yB ?_)))))
  rw[q100];have l1:=AC h2 (by omega)
  have l2:=AC b1 b4
  refine zi1 (k2.mono m1) m2 l1 l2 b5 fun t3 cs p1 p2=>?_
  obtain⟨u3,v3,rfl,hu3,hv3⟩:=rd_frac p2
  refine qA rfl (nC (agF hu3 hv3) (qA rfl (tB (sA p2.all ?_))))
  cases neg with
  | true=>
   refine sA rfl (yB ?_)
   rw[q101];refine neg_ok p2 l1 l2 b5 fun t4 cs4 r1 r2=>?_
   obtain⟨u4,v4,rfl,hu4,hv4⟩:=rd_frac r2
   refine qA rfl (nC (agF hu4 hv4) (qA rfl (tB (sA r2.all (sA r2.all ?_)))))
   refine hQ t4 _ (k1.trans (m1.trans (p1.trans r1))) ?_
   rw[hf];exact r2
  | false=>
   refine sB (by simp) (sA p2.all ?_)
   refine hQ t3 _ (k1.trans (m1.trans p1)) ?_
   rw[hf];exact p2
 refine w74 ?_
 unfold t74 uS uB;refine yB ?_
 have hg:yA.prims.get 98=some (eO pCut):=by kernel_rfl
 have hcut:uC yA F 98 [.str s,.str [47]] t=some (.tup [.str (if vH s=true then oN s else s),.str (if vH s=true then vO s else []),.bool (vH s)]):=by
  refine Lj hg fun H=>?_
  show xB (Nat.blt (zB s) 4294967281) _=_
  rw[qD,qC.2 (by omega),rE,zaj]
  cases vH s<;>rfl
 rw[q98,hcut,pA];refine qA rfl (iF (qA rfl (iF (qA rfl (rD ?_)))))
 cases hs:vH s with
 | true=>
  obtain⟨c1,c2,c3,c4⟩:=h5 hs
  refine sB (by simp) (jC ?_)
  simp only[if_true];have lb:(vO s).length<=s.length:=by unfold vO;rw[ydj];omega
  refine main (vO s) c2 c1 c3 (by omega) (zd1 c2 c1 fun e=>?_) (by unfold tI;rw[hs];rfl)
  unfold eR at c3;rw[e]at c3;simp at c3;have:(vO s).length=1:=by have:=List.length_pos_iff.2 c1;omega
  match hb:vO s with
  | []=>exact c1 hb
  | [x]=>rw[hb]at e;cases e;exact c4 hb
  | x::y::r=>rw[hb]at this;simp at this
 | false=>
  refine sA rfl (jC ?_)
  simp only[ybq,if_false];have:=main [49] (by decide) (by simp) (by decide) (by simp) (by decide) (by unfold tI;rw[hs];rfl)
  rwa [GV hs]at this
end
end
end Go.Proofs
