/- Ranges over whole.downwards; whole.long. -/
import Derived.Test.YtfmlbimokklmgaaGreatDoorF14
set_option linter.all false
noncomputable section
set_option maxRecDepth 100000
namespace Go.Proofs
open Go Go.Am
variable {bx n x:Nat}{v:zA}{l:List Nat}
variable [eC]
variable {t tf:Tr vA}
theorem zbm {y:vA}(hn:t.get n=none)(h:aA tf t):aA (tf.set n y) (t.set n y):=by
 intro c u hc;rw[Tr.get_set]at hc ⊢
 split at hc
 ·simp_all
 ·rename_i e;rw[yaa e];exact h _ _ hc
theorem Ql(h:aA tf t) (hn:t.get n=none):tf.get n=none:=by
 cases hx:tf.get n with
 | none=>rfl
 | some y=>rw[h _ _ hx]at hn;cases hn
structure BH (S:Tr vA->Tr vA->Prop):Prop where
 le:∀ {tf t:Tr vA},S tf t->aA tf t
 both:∀ {tf t:Tr vA} {n:Nat},S tf t->t.get n=none->∀y,S (tf.set n y) (t.set n y)
 out:∀ {tf t:Tr vA} {n:Nat} {y:vA},tf.get n=none->S (tf.set n y) t->S tf (t.del n)
theorem RW{f i:Nat}{v8 v4:zA}{K R:T}{ps:List Nat}{Q:sB}{S:Nat->Tr vA->Tr vA->Prop}(hS:∀k,BH (S k))(hp:bA tf 1 (rC .u32 ps) v4)(hl:ps.length<30000)(h:S ps.length tf t)
  (body:∀(k x:Nat) (tf t:Tr vA) (Q1:sB),ps[k]?=some x->S (k+1) tf t->(∀t',S k tf t'->Q1 (.bool true) t')->Jq yA F f i [v8,.int .u32 (x:Int)] t Q1)
  (fin:∀tf' t',aA tf tf'->S 0 tf' t'->pA yA.base (Wq yA F vC) (Jq yA F f) K t' Q) :
  pA yA.base (Wq yA F vC) (Jq yA F f) (.call 183 [v4] fun a0=>.range (kR yA) a0 i 1 [v8] K R) t Q:=by
 simp only[pA];rw[q183];refine w183 ?_
 simp only[t183,pA];intro bb hbb hbase;have hc4:v4.cells=[v4]:=by
  obtain⟨cl,h1,_⟩:=hp
  rcases h1 with⟨rfl,_⟩ | ⟨_,_,_,rfl,_⟩<;>rfl
 have hone:wN v4 ⟨bb,t⟩=some (.ptr bb 0,⟨bb+1,t.set bb (.cells (Tr.ofList [v4]) 1 none)⟩):=by
  unfold wN;rw[hc4];rfl
 rw[hone,sA];simp only[];have h1:=(hS _).both h hbb (.cells (Tr.ofList [v4]) 1 none)
 have hfb:=Ql ((hS _).le h) hbb
 have htf1:aA tf (tf.set bb (.cells (Tr.ofList [v4]) 1 none)):=(qL hfb _).1
 generalize htf:tf.set bb (.cells (Tr.ofList [v4]) 1 none)=tf1 at h1 htf1
 have hg1:tf1.get bb=some (.cells (Tr.ofList [v4]) 1 none):=by rw[<- htf,Tr.get_set,yab rfl]
 generalize t.set bb (.cells (Tr.ofList [v4]) 1 none)=t1 at h1
 refine⟨Nat.le_add_right _ _,fun l r hl0 hlb hr1 hr2 hy=>?_⟩
 have hra:Bj (kR yA) (.func (.func 190) [] [.ptr bb 0]) l=some (190,[.func (.yld l) [] [],.ptr bb 0]):=by
  unfold Bj;simp only[zA.asFunc,qA];have:kR yA 190=true:=by kernel_rfl
  rw[this];rfl
 rw[hra,sA];have h2:=(hS _).both h1 hl0 (.loop r)
 have hfl:=Ql ((hS _).le h1) hl0
 have hlr:eO true r=r:=by
  obtain⟨a,b,c,d,e,f,g,h,i⟩:=r
  have hr1:a=.ready:=hr1
  have hr2:b=none:=hr2
  subst hr1;subst hr2;rfl
 have hle2:aA tf1 (tf1.set l (.loop r)):=(qL hfl _).1
 rw[show Wq yA F vC 190=Wc yA F 190 by funext a m R;rw[q190]]
 refine zje (l:=ps) (v:=v4) (I:=fun k t'=>S k (tf1.set l (.loop r)) t') (by omega) ?_ ?_ ?_ h2
 ·intro k t' hI
  have hle:=(hS _).le hI
  have hg:t'.get bb=some (.cells (Tr.ofList [v4]) 1 none):=hle _ _ (hle2 _ _ hg1)
  refine⟨?_,hp.mono (htf1.trans (hle2.trans hle))⟩
  exact(yD.load1 (cs:=[v4]) (lo:=none) ⟨Tr.ofList [v4],hg,fun j a hj=>by grind [Tr.get_ofList]⟩ mM rfl (j:=0) rfl)
 ·intro k x t' hx hI R hR
  show vE (some (yo+l,[zA.int .u32 (x:Int)])) _
  rw[sA];refine hy [.int .u32 (x:Int)] t' R rfl ((hS _).le hI _ _ (by rw[Tr.get_set,yab rfl])) ?_
  refine body k x tf1 _ _ hx ((hS _).out hfl hI) fun t2 h3 hn2=>⟨true,rfl,?_⟩
  rw[hlr];exact hR _ ((hS _).both h3 hn2 (.loop r))
 ·intro t' hI
  exact .inl ⟨(hS _).le hI _ _ (by rw[Tr.get_set,yab rfl]),fin tf1 _ htf1 ((hS _).out hfl hI)⟩
def bU (bx:Nat)(v:zA)(tf t:Tr vA):Prop:=yA.base<=bx/\tf.get bx=none/\aA tf t/\yD t bx none [v]
theorem bU.framed   : BH (bU bx v) where
 le:=fun h=>h.2.2.1
 both:=fun {tf t n} h hn y=>by
  obtain⟨h1,h2,h3,h4⟩:=h
  have hbx:bx≠n:=by intro e;obtain⟨c,h,_⟩:=h4;simp_all
  exact⟨h1,by grind [Tr.get_set],zbm hn h3,h4.off (by rw[Tr.get_set,yaa hbx])⟩
 out:=fun {tf t n y} hn h=>by
  obtain⟨h1,h2,h3,h4⟩:=h
  have hbx:bx≠n:=by grind [Tr.get_set]
  have hle:aA tf (tf.set n y):=(qL hn y).1
  rw[Tr.get_set,yaa hbx]at h2;refine⟨h1,h2,fun c u hc=>?_,h4.off (by rw[Tr.get_del,yaa hbx])⟩
  have:c≠n:=fun e=>by simp_all
  rw[Tr.get_del,yaa this];exact h3 _ _ (hle _ _ hc)
theorem UH{y:Nat}{Q1:sB}(h:bU bx (.int .u64 (y:Int)) tf t)(hy:y<4294967296)(hx:x<4294967296)(hQ:∀t',bU bx (.int .u64 ((y*4294967296+x:Nat):Int)) tf t'->Q1 (.bool true) t'):jp 172 2 [.ptr bx 0,.int .u32 (x:Int)] t Q1:=by
 obtain⟨i1,i2,i3,i4⟩:=h
 have e5:(y:Int)*4294967296=((y*4294967296:Nat):Int):=by omega
 have e6:kI Nat.lor .u64 (cA .u64 ((y:Int)*4294967296)) (cA .u64 (x:Int))=some (.int .u64 ((y*4294967296+x:Nat):Int)):=by
  rw[e5,eF (by omega) (by omega),eF (by omega) (by omega),or32 hy hx]
 generalize y*4294967296+x=z at e6 hQ
 refine j172_2 ?_
 simp only[uE,zea,pA];rw[i4.load1 yQ rfl (j:=0) rfl,sA,yC,sA,e6,sA,yC,sA]
 intro b3 _ _;obtain⟨t3,k1,k2,k3⟩:=i4.store1 (v:=.int .u64 (z:Int)) i1 yQ rfl rfl rfl (j:=0) (by simp)
 rw[k1,sA];exact hQ _ ⟨i1,i2,i3.off i2 k3,k2⟩
theorem UG {k:Nat}(hl:l.length<=2)(hlt:mB 4294967296 l)(hx:l[k]?=some x):x<4294967296/\val 4294967296 (l.drop (k+1))<4294967296/\val 4294967296 (l.drop k)=val 4294967296 (l.drop (k+1))*4294967296+x:=by
 have hk:k<l.length:=(ybc.1 hx).1
 have hdrop:l.drop k=x::l.drop (k+1):=by
  grind [List.drop_eq_getElem_cons]
 refine⟨hlt x (ycv hx),?_,?_⟩
 ·have h1:=AX hlt (k+1)
  have h2:(l.drop (k+1)).length<=1:=by grind
  generalize l.drop (k+1)=m at h1 h2 ⊢
  match m,h1,h2 with
  | [],_,_=>exact Nat.zero_lt_succ _
  | [a],h1,_=>rw[val,val,yat,yct];exact h1 a (.head _)
 grind [val]
theorem zh2  (hv:bA t 1 (rC .u32 l) v)(hl:l.length<=2)(hlt:mB 4294967296 l):wC yA F 172 [v] t=some (.int .u64 ((val 4294967296 l:Nat):Int)):=by
 refine Bk (w172 ?_)
 have hlen0:l.length<30000:=by omega
 have hst:∀k x,l[k]?=some x->_:=fun k x=>UG (k:=k) (x:=x) hl hlt
 have h0:val 4294967296 (l.drop l.length)=0:=by rw[List.drop_length,val]
 generalize hg:(fun k=>val 4294967296 (l.drop k))=g
 have hst':∀k x,l[k]?=some x->x<4294967296/\g (k+1)<4294967296/\g k=g (k+1)*4294967296+x:=fun k x hx=>by grind
 have h0':g l.length=0:=by grind
 have hend:val 4294967296 l=g 0:=by grind
 rw[hend];clear hg hst h0 hend
 unfold t172 uE;show ∀b,t.get b=none->yA.base<=b->vE (nK yA 207 ⟨b,t⟩) _
 intro bx hbx hbase;obtain⟨t1,e1,e2,e3,e4⟩:=rS (C:=yA) yQ hbx
 rw[e1,sA];show ∀b,t1.get b=none->yA.base<=b->vE (zC yA 207 (.ptr bx 0) (.int .u64 0) ⟨b,t1⟩) _
 intro b2 _ _;obtain⟨t2,g1,g2,g3⟩:=e2.store1 (v:=.int .u64 0) hbase yQ rfl rfl rfl (j:=0) (by simp)
 rw[g1,sA];have hS0:bU bx (.int .u64 ((g l.length:Nat):Int)) t t2:=by
  rw[h0'];exact⟨hbase,hbx,(aA.refl t).off hbx e4 |>.off hbx g3,g2⟩
 refine RW (S:=fun k tf t=>bU bx (.int .u64 ((g k:Nat):Int)) tf t) (fun k=>bU.framed) hv hlen0 hS0 ?_ ?_
 ·grind [UH]
 ·intro tf' t' hle hI
  obtain⟨i1,i2,i3,i4⟩:=hI
  simp only[pA];rw[i4.load1 yQ rfl (j:=0) rfl,sA]
  simp only[yC,sA];exact⟨trivial,hle.trans i3⟩
end Go.Proofs
namespace Go.Proofs
open Go Go.Am
variable [eC]
variable {t:Tr vA}
def zcy{A lu lv Z:List Nat}{v:zA}{b cap m:Nat}{t0 t':Tr vA}{Q:sB}(hv:bA t0 1 (rC .u32 lv) v)(hl:lv.length=m+2)(hm:m<800000)(hlv:mB BB lv)(hbase:yA.base<=b)(hb:t0.get b=none)(hlul:lu.length=m+3)(hlu:mB BB lu)(hcap:m+3<=cap)
  (htop:∀top,lv[m+1]?=some top->2147483648<=top) (hlt:val BB lu<BB*val BB lv) (ht:aA t0 t') (hoff:fF b t t') (ho:rG t' b .u32 (A++lu++Z))
  (hQ:∀t2 r,aA t0 t2->fF b t t2->rG t2 b .u32 (A++(r++[0])++Z)->r.length=m+2->mB BB r->val BB r=val BB lu%val BB lv->val BB lu / val BB lv<BB->Q (.int .u32 ((val BB lu / val BB lv:Nat):Int)) t2) :
  Wc yA F 178 [.slice b A.length (m+3) cap,v] t' Q:=by
 obtain⟨top,h1⟩:=getElem?_of_lt (l:=lv) (i:=m+1) (by omega)
 obtain⟨v2,h2⟩:=getElem?_of_lt (l:=lv) (i:=m) (by omega)
 obtain⟨un,h3⟩:=getElem?_of_lt (l:=lu) (i:=m+2) (by omega)
 obtain⟨u1,h4⟩:=getElem?_of_lt (l:=lu) (i:=m+1) (by omega)
 obtain⟨u2,h5⟩:=getElem?_of_lt (l:=lu) (i:=m) (by omega)
 have b1:top<BB:=xL hlv h1
 have b2:v2<BB:=xL hlv h2
 have b3:un<BB:=xL hlu h3
 have b4:u1<BB:=xL hlu h4
 have b5:u2<BB:=xL hlu h5
 have hBB:=tO
 have c1:top<4294967296:=by omega
 have c3:un<4294967296:=by omega
 have c4:u1<4294967296:=by omega
 have htop2:=htop top h1
 obtain⟨hV,hvr⟩:=top2 (B:=BB) rJ hlv hl h1 h2
 obtain⟨hU,hur⟩:=top3 (B:=BB) rJ hlu hlul h3 h4 h5
 have hVpos:0<val BB lv:=by
  have:0<(top*BB+v2)*BB^m:=Nat.mul_pos (by have:0<top*BB:=Nat.mul_pos (by omega) rJ;omega) (Nat.pow_pos rJ)
  omega
 have hq:val BB lu / val BB lv<BB:=ycu (by rw[ybh];exact hlt)
 have hread:bA t' 1 (rC .u32 lu) (.slice b A.length (m+3) cap):=by
  have:=ho.slice (off:=A.length) (n:=m+3) (cap:=cap) (by simp;omega) hcap
  rw[ybz,List.drop_left,List.take_left' hlul]at this;exact this
 have hv':=hv.mono ht
 obtain⟨d1,o1,g1,g1'⟩:=hread.idx dG h3
 obtain⟨d2,o2,g2,g2'⟩:=hread.idx dG h4
 obtain⟨d3,o3,g3,g3'⟩:=hv'.idx dG h1
 have hun:un<=top:=by
  rcases yau top un with g | g
  ·exfalso
   have e1:(un*BB)*BB*BB^m<=val BB lu:=by rw[hU,ybo,ybo,ybo];omega
   have e2:val BB lv<(top+1)*BB*BB^m:=by
    have h:top*BB+v2+1<=(top+1)*BB:=by rw[ybo];omega
    have:=ybi (BB^m) h
    rw[ybo (top*BB+v2) 1,Nat.one_mul]at this
    omega
   have e3:BB*val BB lv<BB*((top+1)*BB*BB^m):=Nat.mul_lt_mul_of_pos_left e2 rJ
   have e4:BB*((top+1)*BB*BB^m)<=un*BB*BB*BB^m:=by
    have:(top+1)*BB*BB^m<=un*BB*BB^m:=ybi _ (ybi _ g)
    have:=ybv BB this
    calc BB*((top+1)*BB*BB^m)<=BB*(un*BB*BB^m):=this
     _=un*BB*BB*BB^m:=by rw[<- ybj,ybh BB (un*BB)]
   omega
  ·exact g
 have hh:un*BB+u1<=top*BB+(BB-1):=by
  have:=ybi BB hun
  omega
 have hge:val BB lu / val BB lv<=(un*BB+u1) / top:=kn_ge hU hur b5 hV (by omega)
 have hdle:(un*BB+u1) / top<=BB+1:=by
  have:un*BB+u1<(BB+2)*top:=by
   rw[ybo,ybh BB top];generalize top*BB=P at hh ⊢
   generalize un*BB=R at hh ⊢
   omega
  have:=ycu (show un*BB+u1<top*(BB+2) by rw[ybh top];exact this)
  omega
 have hrest:(un*BB+u1)%top<BB:=Nat.lt_trans (ycy _ (by omega)) b1
 refine w178 ?_
 have e1:((lv.length:Nat):Int)=((m+2:Nat):Int):=by rw[hl]
 have e2:((m+2:Nat):Int)-1=((m+1:Nat):Int):=by omega
 have e3:(un:Int)*4294967296=((un*4294967296:Nat):Int):=by omega
 simp (disch:=omega) only[uI,uL,uE,uZ,uW,t178,pA,hv'.len,sA,yC,uJ,e1,g1,g1',e2,iC,g2,g2',g3,g3',eF,e3]
 have e4:kI Nat.lor .u64 ((un*4294967296:Nat):Int) (u1:Int)=some (.int .u64 ((un*4294967296+u1:Nat):Int)):=by
  rw[mU (k:=.u64) (show un*4294967296<cG .u64 by show _<18446744073709551616;omega) (show u1<cG .u64 by show _<18446744073709551616;omega)]
  have:=Dr (a:=un) (b:=u1) (n:=32) c4
  rw[show un*4294967296=un*2^32 by rfl,this]
 rw[e4];simp only[sA,yC];have e5:hZ .u64 ((un*4294967296+u1:Nat):Int) (top:Int)=some (.int .u64 (((un*4294967296+u1) / top:Nat):Int)):=Ze (by omega) (by
  have h:(un*4294967296+u1) / top<=4294967296+1:=by rw[hBB]at hdle;exact hdle
  generalize (un*4294967296+u1) / top=z at h ⊢
  exact eF (by omega) (by omega))
 rw[e5];simp only[sA,yC];rw[Rm (by omega)]
 simp only[sA,yC];refine VQ hread hv' (by omega) h5 h2 b5 b2 (by omega) b1 hU hur hV hvr hq hh (fun d q1 q2 q3=>?_) _ _ ?_ (by rw[hBB]at hge ⊢;exact hge) (by rw[hBB]at hdle ⊢;exact hdle) (by rw[hBB]at hrest ⊢;exact hrest)
 ·refine zii ?_
  simp only[uI,uZ,CV,pA,hv'.len,sA,yC,uJ,e1];have hms:=TW (t:=t) (A:=A) (Z:=Z) (lu:=lu) (lv:=lv) (v:=v) (b:=b) (cap:=cap) (d:=d) (t0:=t0) (Q:=Q) hv (by omega) hlv hbase hb q3 (by omega) hlu (by omega) ?_ lv.length 0 0 0 t' [] (by omega) ht hoff (by simpa using ho) rfl (fun x hx=>by cases hx) (by first | omega | decide) (by first | omega | decide) (by simp[val])
  ·rw[hl]at hms
   exact hms
  ·intro t2 W last bo k1 k2 k3 k4 k5 k6 k7 k8
   have hWall:val BB (W++[last])<BB^(lv.length+1):=by
    have:=vP (B:=BB) rJ (sY k5 k6)
    simp only[ybg,ybn,ybx,k4]at this;exact this
   have hVlt:val BB lv<BB^lv.length:=vP rJ hlv
   have hdm:=ych (val BB lu) (val BB lv)
   have hmod:val BB lu%val BB lv<val BB lv:=ycy _ hVpos
   have hWs:val BB (W++[last])=val BB W+BB^lv.length*last:=by rw[jN,k4]
   split
   ·rename_i hz
    subst hz;rw[yat,yct]at k8;have hd:d=val BB lu / val BB lv:=by
     refine Nat.le_antisymm ?_ q1
     rw[Nat.le_div_iff_mul_le hVpos];omega
    have hr:val BB (W++[last])=val BB lu%val BB lv:=by
     rw[hd,ybh]at k8;omega
    have hlast:last=0:=by
     rcases yav last with g | g
     ·exact g
     ·exfalso
      have:=ybv (BB^lv.length) g
      rw[Nat.mul_one]at this;omega
    subst hlast;rw[hd];exact hQ t2 W k1 k2 k3 (by omega) k5 (by rw[<- hr,hWs];simp) hq
   ·rename_i hz
    have hbo:bo=1:=by omega
    subst hbo;rw[Nat.mul_one]at k8;have hd:d=val BB lu / val BB lv+1:=by
     refine Nat.le_antisymm q2 ?_
     rcases yau (val BB lu / val BB lv) d with g | g
     ·exact g
     ·exfalso
      have:d*val BB lv<=val BB lu:=Nat.le_trans (ybi _ g) (Nat.div_mul_le_self _ _)
      omega
    have hk9:val BB (W++[last])+val BB lv=val BB lu%val BB lv+BB^(lv.length+1):=by
     rw[hd,ybo,Nat.one_mul,ybh (val BB lu / val BB lv)]at k8
     omega
    refine ZX (t:=t) (A:=A) (Z:=Z) (t0:=t0) hv (by omega) hlv hbase hb (by rw[hd];exact Nat.succ_pos _) (by omega) W k4 k5 last k6 (by omega) (fun t3 r up n1 n2 n3 n4 n5 n6=>?_) lv.length 0 0 t2 [] (by omega) k1 k2 (by simpa using k3) rfl (fun x hx=>by cases hx) (by first | omega | decide) (by simp[val])
    have hrlt:val BB r<BB^lv.length:=by
     have:=vP (B:=BB) rJ n4;rw[n3]at this;exact this
    rw[hWs,yag]at hk9;have hfin:val BB r+BB^lv.length*(up+last)=val BB lu%val BB lv+BB^lv.length*BB:=by
     rw[ybm];omega
    have hsplit:up+last=BB/\val BB r=val BB lu%val BB lv:=by
     have hmlt:val BB lu%val BB lv<BB^lv.length:=by omega
     have hB:0<BB^lv.length:=by omega
     have e1:(val BB r+BB^lv.length*(up+last)) / BB^lv.length=up+last:=by rw[Nat.add_mul_div_left _ _ hB,Nat.div_eq_of_lt hrlt];simp
     have e2:(val BB lu%val BB lv+BB^lv.length*BB) / BB^lv.length=BB:=by rw[Nat.add_mul_div_left _ _ hB,Nat.div_eq_of_lt hmlt];simp
     rw[hfin,e2]at e1;refine⟨e1.symm,?_⟩
     rw[<- e1]at hfin;omega
    have hl0:(last+up)%BB=0:=by rw[yap,hsplit.1];exact Nat.mod_self _
    rw[hl0]at n2;have hd1:d-1=val BB lu / val BB lv:=by rw[hd];exact Nat.add_sub_cancel _ _
    rw[hd1];exact hQ t3 r (k1.off hb (fun c hc=>by
     rw[n1 c hc,<- k2 c hc])) n1 n2 (by omega) n4 hsplit.2 hq
 ·rw[ybh,hBB];exact ych _ _
end Go.Proofs
namespace Go.Am
def ON{B p K:Nat}(hB:B=p*K)(hp:0<p)(hK:0<K){x y:Nat}{l:List Nat}(hx:x<B) :
  val B (x::y::l) / p=(y*B+x) / p%B+B*(val B (y::l) / p):=by
 have e1:val B (x::y::l)=x+p*(K*val B (y::l)):=by
  show x+B*val B (y::l)=_
  rw[hB,ybj]
 have e2:y*B+x=x+p*(K*y):=by rw[hB,yap,ybh y,ybj]
 have e3:val B (y::l)%p=y%p:=by
  show(y+B*val B l)%p=_
  rw[hB,ybj,Nat.add_mul_mod_self_left]
 have e4:K*y=K*(y%p)+B*(y / p):=by
  grind [Nat.div_add_mod]
 have e5:K*val B (y::l)=K*(y%p)+B*(val B (y::l) / p):=by
  grind [Nat.div_add_mod]
 have e6:x / p<K:=ycu (by omega)
 have e7:x / p+K*(y%p)<B:=by
  have h1:y%p<p:=ycy _ hp
  have h2:K*(y%p+1)<=K*p:=ybv _ h1
  grind
 rw[e1,Nat.add_mul_div_left _ _ hp,e2,Nat.add_mul_div_left _ _ hp,e4,<- Nat.add_assoc,Nat.add_mul_mod_self_left,Nat.mod_eq_of_lt e7,e5,<- Nat.add_assoc]
end Go.Am
namespace Go.Proofs
open Go Go.Am
variable [eC]
variable {t:Tr vA}
theorem QF{l:List Nat}{b L lo hi:Nat}(ho:rG t b .u32 l)(h1:lo<=hi)(h2:hi<=L)(h3:lo<L) :
  vG yA 189 ⟨0,t⟩ (.slice b 0 L L) (some (.int .i64 (lo:Int))) (some (.int .i64 (hi:Int)))=some (.slice b lo (hi-lo) (L-lo)):=by
 obtain⟨c,hg,_⟩:=ho
 obtain⟨⟨y,hy1,hy2⟩,⟨z,hz1,hz2,hz3⟩⟩:=dG
 unfold vG;rw[hy1,qA];have hb:∀y (k:Nat),jW y (.int .i64 (k:Int))=xB (Nat.ble k y) (some k):=fun y k=>rfl
 unfold gN;simp only[zA.asStr,zA.asSlice];rw[hy2,qA];unfold uQ;rw[hz1,qA];unfold dQ Aj;simp only[hb];rw[show Nat.ble hi L=true from oE.2 h2];simp only[yE,qA]
 rw[show Nat.ble lo hi=true from oE.2 h1];simp only[yE,qA];have he2:iN ⟨0,t⟩ b z.size L lo false=false:=by
  unfold iN qE;rw[hg,qA];rfl
 rw[he2,yay,cond_false];have hf:mO ⟨0,t⟩ b z.size L lo false=true:=by
  unfold mO qE;rw[hg,qA];rfl
 rw[show Nat.ble hi L=true from oE.2 h2,hf];simp only[Bool.and_self,yE];have hq:Nat.beq L lo=false:=by
  grind [mC]
 rw[hq,cond_false,hz2,Nat.mul_one,ybw]
theorem OO{qv:zA}{Z c:List Nat}{b n s L cn:Nat}{Q:sB}(hn:n<900000)(hc:c.length=n+1)(hcl:mB BB c)(hcn:c[n]?=some cn)(hbase:yA.base<=b)(hs:s<32)(hL:n+1<=L)
  (hexit:∀t' W,fF b t t'->rG t' b .u32 (W++[cn]++Z)->W.length=n->mB BB W->val BB W+BB^n*(cn / 2^s)=val BB c / 2^s->jp 165 6 [.int .i64 (n:Int),.int .i64 (s:Int),.slice b 0 L L,qv,.int .i64 (n:Int),.int .i64 (n:Int)] t' Q) :
  ∀(k i:Nat) (t':Tr vA) (W:List Nat),i+k=n->fF b t t'->rG t' b .u32 (W++c.drop i++Z)->W.length=i->mB BB W->val BB W+BB^i*(val BB (c.drop i) / 2^s)=val BB c / 2^s →
  jp 165 6 [.int .i64 (n:Int),.int .i64 (s:Int),.slice b 0 L L,qv,.int .i64 (n:Int),.int .i64 (i:Int)] t' Q:=by
 intro k;induction k with
 | zero=>
  intro i t' W hi hoff ho hW hWl hval;have hi':i=n:=by omega
  subst hi'
  have hd:c.drop i=[cn]:=by
   rw[fQ hcn,ybt (by omega)]
  grind [val]
 | succ k ih=>
  intro i t' W hi hoff ho hW hWl hval;have hBB:=tO
  obtain⟨x,hx⟩:=getElem?_of_lt (l:=c) (i:=i) (by omega)
  obtain⟨y,hy⟩:=getElem?_of_lt (l:=c) (i:=i+1) (by omega)
  have hx32:x<4294967296:=by have:=xL hcl hx;omega
  have hy32:y<4294967296:=by have:=xL hcl hy;omega
  have hd1:c.drop (i+1)=y::c.drop (i+2):=fQ hy
  have hd0:c.drop i=x::y::c.drop (i+2):=by rw[fQ hx,hd1]
  have m0:=Hg (A:=W) (w:=c.drop i) (Z:=Z) (j:=0) (x:=x) (by grind)
  have m1:=Hg (A:=W) (w:=c.drop i) (Z:=Z) (j:=1) (x:=y) (by grind)
  rw[hW]at m0 m1;rw[yct]at m0;have g0:=Ew dG (b:=b) (n:=L) (cap:=L) (j:=i) (by omega)
  have g1:=Ew dG (b:=b) (n:=L) (cap:=L) (j:=i+1) (by omega)
  have l0:=ho.load (C:=yA) m0 dH rfl
  have l1:=ho.load (C:=yA) m1 dH rfl
  have ei:(i:Int)+1=((i+1:Nat):Int):=by omega
  have e2:(y:Int)*4294967296=((y*4294967296:Nat):Int):=by omega
  obtain⟨t1,s1,s2,s3⟩:=ho.store (C:=yA) hbase (j:=i) (by grind) ((y*4294967296+x) / 2^s%4294967296) dH rfl
  have hset:=Lj (A:=W) (w:=c.drop i) (Z:=Z) (j:=0) (x:=(y*4294967296+x) / 2^s%4294967296) (by grind)
  rw[yct,hW]at hset;rw[hset]at s2;refine ze9 ?_
  simp only[uL,uE,tD,uZ,Vf,pA,jF];rw[yab (by omega)]
  simp (disch:=omega) only[ei,iC,g0,g1,sA,l0,l1,yC]
  rw[eF (n:=(y:Int)) (by omega) (by omega),e2,eF (n:=((y*4294967296:Nat):Int)) (by omega) (by omega),eF (n:=(x:Int)) (by omega) (by omega),or32 hy32 hx32,sA,yC,sA,JN (by omega),sA,yC,sA]
  have e3:cA .u32 (((y*4294967296+x) / 2^s:Nat):Int)=(((y*4294967296+x) / 2^s%4294967296:Nat):Int):=by
   grind [jT]
  rw[e3];intro _ _ _;rw[s1,sA];have hw:(y*4294967296+x) / 2^s%4294967296<BB:=by omega
  refine ih (i+1) t1 (W++[(y*4294967296+x) / 2^s%4294967296]) (by omega) (hoff.trans s3) ?_ (by simp[hW]) (sY hWl hw) ?_
  ·grind
  ·have hst:=ON (B:=BB) (p:=2^s) (K:=2^(32-s)) (by rw[<- Nat.pow_add,show s+(32-s)=32 by omega,hBB]) (Nat.pow_pos (by decide)) (Nat.pow_pos (by decide)) (x:=x) (y:=y) (l:=c.drop (i+2)) (by omega)
   rw[<- hval,hd0,hst,jN,hW,hd1,yag,ybm,hBB];grind
end Go.Proofs
namespace Go.Proofs
open Go Go.Am
variable [eC]
variable {t:Tr vA}
theorem XP{lv:List Nat}{v:zA}{b bq m s L Lq U:Nat}{t0:Tr vA}{Q:sB}(hv:bA t0 1 (rC .u32 lv) v)(hl:lv.length=m+2)(hm:m<800000)(hlv:mB BB lv)(hbase:yA.base<=b)(hbaseq:yA.base<=bq)(hb:t0.get b=none)(hbq:t0.get bq=none)(hne:b≠bq)(hL:L<1000000)
  (htop:∀top,lv[m+1]?=some top->2147483648<=top) (hVpos:0<val BB lv)
  (hexit:∀t' q r Z,aA t0 t'->rG t' b .u32 (r++[0]++Z)->rG t' bq .u32 q->r.length=m+2->mB BB r->mB BB q->q.length=Lq->m+3+Z.length=L->val BB r<val BB lv->U=val BB lv*val BB q+val BB r->jp 165 6 [.int .i64 ((m+2:Nat):Int),.int .i64 (s:Int),.slice b 0 L L,.slice bq 0 Lq Lq,.int .i64 ((m+2:Nat):Int),.int .i64 0] t' Q) :
  ∀(j:Nat) (A c Z Qd:List Nat) (t':Tr vA),A.length=j->c.length=m+3->mB BB A->mB BB c->mB BB Qd->A.length+(m+3)+Z.length=L->j+1+Qd.length=Lq->val BB c<BB*val BB lv->aA t0 t'->rG t' b .u32 (A++c++Z)->rG t' bq .u32 (List.replicate (j+1) 0++Qd)->U=val BB lv*(BB^(j+1)*val BB Qd)+val BB (A++c) →
  jp 165 2 [.int .i64 ((m+2:Nat):Int),.int .i64 (s:Int),v,.slice b 0 L L,.slice bq 0 Lq Lq,.int .i64 (j:Int)] t' Q:=by
 intro j;induction j using Nat.strongRecOn with
 | ind j ih=>
  intro A c Z Qd t' hA hc hAl hcl hQl hLen hLq hlt ht ho hoq hU;have gs:=QF (b:=b) (L:=L) (lo:=j) (hi:=j+(m+2)+1) ho (by omega) (by omega) (by omega)
  rw[show j+(m+2)+1-j=m+3 by omega]at gs
  have e1:(j:Int)+((m+2:Nat):Int)=((j+(m+2):Nat):Int):=by omega
  have e2:((j+(m+2):Nat):Int)+1=((j+(m+2)+1:Nat):Int):=by omega
  refine zfa ?_
  simp only[uL,uZ,uW,Vg,pA,aK];rw[yab (by omega)]
  simp (disch:=omega) only[e1,iC,e2,gs,sA,q178]
  subst hA;refine zcy (A:=A) (Z:=Z) (t:=t') (t0:=t0) hv hl hm hlv hbase hb hc hcl (by omega) htop hlt ht (fF.refl _ _) ho (fun t2 r k1 k2 k3 k4 k5 k6 k7=>?_)
  have hoq2:=hoq.off (fun e=>hne e.symm) k2
  have g1:=Ew dG (b:=bq) (n:=Lq) (cap:=Lq) (j:=A.length) (by omega)
  obtain⟨t3,s1,s2,s3⟩:=hoq2.store (C:=yA) hbaseq (j:=A.length) (by grind) (val BB c / val BB lv) dH rfl
  have hset:(List.replicate (A.length+1) 0++Qd).set A.length (val BB c / val BB lv)=List.replicate A.length 0++((val BB c / val BB lv)::Qd):=by
   simp_all [List.replicate_succ']
  rw[hset]at s2;rw[yC,sA,g1,sA];intro _ _ _;rw[s1,sA];have ho3:=k3.off hne s3
  have ht3:=k1.off hbq s3
  have hr:val BB r<val BB lv:=by grind [Nat.mod_lt]
  have hdm:=ych (val BB c) (val BB lv)
  have hU2:U=val BB lv*(BB^A.length*val BB ((val BB c / val BB lv)::Qd))+val BB (A++r):=by
   grind [Js,val]
  rcases hA:A.length with _ | j'
  ·have hnil:A=[]:=List.eq_nil_of_length_eq_zero hA
   subst hnil;refine zfa ?_
   have e3:((0:Nat):Int)-1 = -1:=by omega
   rw[e3];simp only[uL,uZ,uW,Vg,pA,aK];rw[yaa (by omega)]
   refine hexit t3 _ r Z ht3 (by simp_all) (by omega) k4 k5 (fun x hx=>?_) (by grind) (by omega) hr (by simp_all)
   rcases ybs.1 hx with rfl | hx
   ·exact k7
   ·exact hQl x hx
  ·obtain⟨x,hx⟩:=getElem?_of_lt (l:=A) (i:=j') (by omega)
   have hAx:A=A.take j'++[x]:=by
    rw[<- xQ hx,yca (by omega)]
   have hxB:x<BB:=xL hAl hx
   have e3:((j'+1:Nat):Int)-1=(j':Int):=by omega
   rw[e3];have hvx:val BB (x::r)=x+BB*val BB r:=rfl
   refine ih j' (by omega) (A.take j') (x::r) (0::Z) ((val BB c / val BB lv)::Qd) t3 (by grind) (by simp[k4]) (Co hAl _) (fun y hy=>?_) (fun y hy=>?_) (by grind) (by grind) ?_ ht3 ?_ ?_ ?_
   ·rcases ybs.1 hy with rfl | hy
    ·exact hxB
    ·exact k5 y hy
   ·rcases ybs.1 hy with rfl | hy
    ·exact k7
    ·exact hQl y hy
   ·rw[hvx]
    have:=ybv BB hr
    rw[Nat.mul_succ]at this;omega
   ·have:A.take j'++x::r++0::Z=A++(r++[0])++Z:=by
     conv=>rhs;rw[hAx]
     simp
    grind
   ·grind
   ·rw[hU2,hA]
    have:A++r=A.take j'++x::r:=by
     grind
    rw[this]
end Go.Proofs
namespace Go.Am
def XO{a b q R p:Nat}(hp:0<p)(h:a*p=b*p*q+R)(hR:R<b*p):a=b*q+R / p/\R / p<b:=by
 have h1:p ∣ R:=(Nat.dvd_add_right (⟨b*q,by rw[ybh b p,ybj]⟩:p ∣ b*p*q)).1 (h ▸ ⟨a,ybh a p⟩)
 obtain⟨R',rfl⟩:=h1
 rw[Nat.mul_div_cancel_left _ hp];refine⟨Nat.eq_of_mul_eq_mul_left hp ?_,Nat.lt_of_mul_lt_mul_left (a:=p) ?_⟩
 all_goals grind
def div_v{B p K n top:Nat}{b rb:List Nat}(hB:B=p*K)(hp:0<p)(hlt:mB B b)(hl:b.length=n+1)(htop:b[n]?=some top)(ht:top*p<B)(hbig:B<=2*(top*p))(hrl:mB B rb)(hrb:rb.length=n+2)(hv:val B rb=val B b*p) :
  val B (rb.take (n+1))=val B b*p/\∀x,(rb.take (n+1))[n]?=some x->B<=2*x:=by
 have hB0:0<B:=by omega
 have hbv:val B b=val B (b.take n)+B^n*top:=by
  have:=Df B b n
  simp_all [fQ,ybt,val]
 have hlow:val B (b.take n)<B^n:=by
  have:=vP hB0 (Co hlt n)
  simp_all
 have hK:top<K:=by
  simp_all [ybh]
 have hup:val B b*p<B^(n+1):=by
  have h1:val B b<B^n*(top+1):=by grind
  have h2:B^n*(top+1)<=B^n*K:=ybv _ hK
  have h3:val B b*p<B^n*K*p:=Nat.mul_lt_mul_of_pos_right (by omega) hp
  grind
 have hsplit:=Df B rb (n+1)
 have htl:(rb.take (n+1)).length=n+1:=by grind
 rw[htl]at hsplit;have hz:val B (rb.drop (n+1))=0:=by
  rcases yav (val B (rb.drop (n+1)))with h | h
  ·exact h
  ·exfalso
   have:=ybv (B^(n+1)) h
   omega
 have hval:val B (rb.take (n+1))=val B b*p:=by simp_all
 refine⟨hval,fun x hx=>?_⟩
 have h1:val B (rb.take (n+1))=val B ((rb.take (n+1)).take n)+B^n*x:=by
  have:=Df B (rb.take (n+1)) n
  simp_all [fQ,ybt,val]
 have h2:val B ((rb.take (n+1)).take n)<B^n:=by
  grind [vP,Co]
 have h3:B^n*(top*p)<=val B b*p:=by
  grind [Nat.add_mul]
 have h4:B^n*(top*p)<B^n*(x+1):=by grind
 have h5:top*p<x+1:=Nat.lt_of_mul_lt_mul_left h4
 omega
def div_u{B p n j:Nat}{a b ru:List Nat}(hB0:0<B)(hal:mB B a)(hb:B^n<=val B b)(hj:a.length=j+(n+1))(hru:ru.length=a.length+1)(hp:0<p)(hv:val B ru=val B a*p):val B (ru.drop j)<B*(val B b*p):=by
 have h1:=Df B ru j
 have htl:(ru.take j).length=j:=by grind
 rw[htl]at h1;have h2:val B a<B^(j+(n+1)):=by grind [vP]
 have h3:val B a*p<B^(j+(n+1))*p:=Nat.mul_lt_mul_of_pos_right h2 hp
 have h4:B^(j+(n+1))*p=B^j*(B*(B^n*p)):=by
  rw[Nat.pow_add,yag,ybh (B^n) B,ybj,ybj]
 have h5:B^j*val B (ru.drop j)<B^j*(B*(B^n*p)):=by omega
 have h6:=Nat.lt_of_mul_lt_mul_left h5
 have h7:B*(B^n*p)<=B*(val B b*p):=ybv _ (ybi _ hb)
 omega
end Go.Am
namespace Go.Proofs
open Go Go.Am
variable [eC]
variable {t:Tr vA}
theorem DR{l:List Nat}{b L hi:Nat}(ho:rG t b .u32 l)(h2:hi<=L)(h3:0<L) :
  vG yA 189 ⟨0,t⟩ (.slice b 0 L L) none (some (.int .i64 (hi:Int)))=some (.slice b 0 hi L):=by
 obtain⟨c,hg,_⟩:=ho
 obtain⟨⟨y,hy1,hy2⟩,⟨z,hz1,hz2,hz3⟩⟩:=dG
 unfold vG;rw[hy1,qA];have hb:∀y (k:Nat),jW y (.int .i64 (k:Int))=xB (Nat.ble k y) (some k):=fun y k=>rfl
 unfold gN;simp only[zA.asStr,zA.asSlice];rw[hy2,qA];unfold uQ;rw[hz1,qA];unfold dQ Aj;simp only[hb];rw[show Nat.ble hi L=true from oE.2 h2];simp only[yE,qA]
 have he2:iN ⟨0,t⟩ b z.size L 0 false=false:=by
  unfold iN qE;rw[hg,qA];rfl
 rw[he2,yay,cond_false];have hf:mO ⟨0,t⟩ b z.size L 0 false=true:=by
  unfold mO qE;rw[hg,qA];rfl
 grind [oE,yE]
theorem EH{b o n c:Nat}:same 10 (.slice b o n c) (.slice b o n c)=true:=by
 simp[same]
theorem XN{q W Z:List Nat}{b bq n s L Lq:Nat}{Q:sB}(ho:rG t b .u32 (W++[0]++Z))(hoq:rG t bq .u32 q)(hW:W.length=n)(hn:n<1000000)(hL:n+1+Z.length=L)(hq:q.length=Lq)(hLq:Lq<1000000)
  (hQ:∀qv rv,bA t 1 (rC .u32 (eE q)) qv->bA t 1 (rC .u32 (eE W)) rv->Q (.tup [qv,rv]) t) :
  jp 165 6 [.int .i64 (n:Int),.int .i64 (s:Int),.slice b 0 L L,.slice bq 0 Lq Lq,.int .i64 (n:Int),.int .i64 (n:Int)] t Q:=by
 have e1:=DR (L:=L) (hi:=n) ho (by omega) (by omega)
 have e2:bA t 1 (rC .u32 W) (.slice b 0 n L):=by
  have:=ho.slice (off:=0) (n:=n) (cap:=L) (by grind) (by omega)
  simp_all
 have e3:bA t 1 (rC .u32 q) (.slice bq 0 Lq Lq):=by
  have:=hoq.all (cap:=Lq) (by omega)
  simp_all
 obtain⟨qv,f1,f2⟩:=Bb (by omega) e3
 obtain⟨rv,f3,f4⟩:=Bb (by omega) e2
 refine ze9 ?_
 simp only[uL,uE,tD,uZ,Vf,pA,jF];rw[yaa (by omega)]
 simp only[e1,sA,Eb,f1,f3];grind [EH]
theorem AA{a b:List Nat}{u v:zA}{Q:sB}(hu:bA t 1 (rC .u32 a) u)(hv:bA t 1 (rC .u32 b) v)(ha:a.length<700000)(hal:mB BB a)(hbl:mB BB b)(han:norm a)(hbn:norm b)(hb0:b≠[])
  (hQ:∀t' q r qv rv,aA t t'->bA t' 1 (rC .u32 q) qv->bA t' 1 (rC .u32 r) rv->mB BB q->mB BB r->norm q->norm r->val BB a=val BB b*val BB q+val BB r->val BB r<val BB b->Q (.tup [qv,rv]) t') :
  Wc yA F 165 [u,v] t Q:=by
 have hBB:=tO
 have hB1:1<BB:=by omega
 have hlt:=LY hB1 hal hbl han hbn
 refine w165 ?_
 simp only[uI,uL,uX,uZ,uW,t165,pA,q169,zfu (by omega) hu hv,sA,yC,jF]
 by_cases hc:pN a b<0
 ·rw[yab hc]
  simp only[q174];refine zdd hu (by omega) fun t' v' h1 h2=>?_
  exact hQ t' [] a _ _ h1 ⟨[],.inl ⟨rfl,rfl⟩,by simp[rC,wD]⟩ h2 (fun x hx=>by cases hx) hal (fun h=>absurd rfl h) han (by simp[val]) (hlt.1 hc)
 ·rw[yaa hc]
  have hge:val BB b<=val BB a:=Nat.le_of_not_lt fun h=>hc (hlt.2 h)
  have hlen:b.length<=a.length:=jR hB1 hal hbn hge
  simp only[hv.len,sA,yC,uJ,nJ];by_cases h1:b.length=1
  ·rw[yab (by omega)]
   obtain⟨d,rfl⟩:∃d,b=[d]:=by
    match b,h1 with
    | [d],_=>simp_all
   have hd:d<4294967296:=by have:=hbl d (by simp);omega
   have hd0:0<d:=by have:=hbn (by simp);grind
   obtain⟨c,off,g1,g2⟩:=hv.idx dG (i:=0) (x:=d) rfl
   have g1':xC yA 189 v (.int .i64 0)=some (.ptr c off):=g1
   simp only[g1',g2,sA,yC,q175];refine XG hu (by omega) (by simp_all) hd hd0 fun t' v' q r k1 k2 k3 k4 k5 k6=>?_
   simp only[yH,zA.asTup,qA,xH,yaz,yba,sA,yC];intro b' hb' _;obtain⟨H',m1,m2,m3⟩:=zh3 (k:=.u32) mM rfl dH rfl rfl r trivial hb'
   have hR:=m2.all (cap:=1) (by simp)
   obtain⟨rv,f1,f2⟩:=Bb (by simp) hR
   have f1':wC yA F 140 [.slice b' 0 1 1] H'.t=some rv:=f1
   rw[m1];simp only[sA,Eb,f1'];rw[<- hBB]at k3 k6;have hrl:mB BB [r]:=fun x hx=>by grind
   refine hQ H'.t (eE q) (eE [r]) v' rv (k1.trans m3) (k2.mono m3) f2 (mT k3) (mT hrl) (mV _) (mV _) ?_ ?_
   all_goals grind [wV,val]
  ·rw[yaa (by omega)]
   have hbpos:0<b.length:=List.length_pos_iff.2 hb0
   obtain⟨m,hm⟩:∃m,b.length=m+2:=⟨b.length-2,by omega⟩
   obtain⟨j,hj⟩:∃j,a.length=j+(m+2):=⟨a.length-(m+2),by omega⟩
   obtain⟨top,htop⟩:=getElem?_of_lt (l:=b) (i:=m+1) (by omega)
   have htlt:top<4294967296:=by have:=xL hbl htop;omega
   have ht0:0<top:=by
    have:=hbn hb0
    grind
   obtain⟨s,hs,hs1,hs2,hs3⟩:=GS (t:=t) htlt ht0
   obtain⟨c,off,g1,g2⟩:=hv.idx dG htop
   have eb:((m+2:Nat):Int)-1=((m+1:Nat):Int):=by omega
   simp (disch:=omega) only[hm,eb,iC,g1,g2,sA,yC,q176,hs3,q177]
   refine DV hv (by omega) (by simp_all) hs fun t1 b1 rb k1 k2 k3 k4 k5 k6 k7=>?_
   rw[<- hBB]at k6 k7;rw[hm]at k5 ⊢
   have hK:BB=2^s*2^(32-s):=by rw[<- Nat.pow_add,show s+(32-s)=32 by omega,hBB]
   have hp:0<2^s:=Nat.pow_pos (by decide)
   obtain⟨w1,w2⟩:=div_v (n:=m+1) hK hp hbl hm htop (by omega) (by omega) k6 k5 k7
   have e1:=DR (L:=m+2+1) (hi:=m+2) k4 (by omega) (by omega)
   have hv1:bA t1 1 (rC .u32 (rb.take (m+2))) (.slice b1 0 (m+2) (m+2+1)):=by
    have:=k4.slice (off:=0) (n:=m+2) (cap:=m+2+1) (by omega) (by omega)
    simp_all
   simp only[e1,sA];refine DV (hu.mono k1) (by omega) (by simp_all) hs fun t2 b2 ra n1 n2 n3 n4 n5 n6 n7=>?_
   rw[<- hBB]at n6 n7;rw[hj]at n5 ⊢
   have ea:((j+(m+2):Nat):Int)-((m+2:Nat):Int)=(j:Int):=by omega
   have ea2:(j:Int)+1=((j+1:Nat):Int):=by omega
   simp (disch:=omega) only[hu.len,uJ,hj,sA,yC,ea,ea2,iC]
   intro bq hbq hbaseq;obtain⟨t3,p1,p2,p3,p4⟩:=En (C:=yA) (k:=.u32) mM rfl dH rfl rfl (by decide) (n:=j+1) (by omega) hbq
   rw[p1];have el:pC (.slice bq 0 (j+1) (j+1))=some (.int .i64 ((j+1:Nat):Int)):=rfl
   have el2:((j+1:Nat):Int)-1=(j:Int):=by omega
   simp (disch:=omega) only[sA,el,yC,el2,iC]
   have hne:b2≠bq:=by
    intro e;obtain⟨c,hc1,_⟩:=n4
    simp_all
   have hbq1:t1.get bq=none:=by
    cases hg:t1.get bq with
    | none=>rfl
    | some x=>rw[n1 _ _ hg]at hbq;cases hbq
   have hVpos:0<val BB (rb.take (m+2)):=by
    rw[w1];refine Nat.mul_pos ?_ hp
    have:=Tz (B:=BB) hbn hb0
    grind
   have hbge:BB^(m+1)<=val BB b:=by
    have:=Tz (B:=BB) hbn hb0
    simp_all
   have hcl:=div_u (n:=m+1) (j:=j) (p:=2^s) rJ hal hbge (by omega) (by omega) hp n7
   have hta:ra.take j++ra.drop j=ra:=List.take_append_drop _ _
   refine XP (U:=val BB ra) hv1 (by grind) (by omega) (Co k6 _) n3 hbaseq n2 hbq1 hne (by omega) (fun x hx=>by grind) hVpos (fun t4 q r Z z1 z2 z3 z4 z5 z6 z7 z8 z9 z10=>?_) j (ra.take j) (ra.drop j) [] [] t3 (by grind) (by grind) (Co n6 _) (AX n6 _) (fun x hx=>by cases hx) (by grind) (by simp) ?_ (n1.trans p3) ?_ (by simp_all) ?_
   ·have hcl2:mB BB (r++[0]):=sY z5 rJ
    refine OO (t:=t4) (Z:=Z) (c:=r++[0]) (cn:=0) (by omega) (by simp[z4]) hcl2 (by simp_all) n3 hs (by omega) (fun t5 W y1 y2 y3 y4 y5=>?_) (m+2) 0 t4 [] (by omega) (fF.refl _ _) (by simp_all) rfl (fun x hx=>by cases hx) (by rw[ycr,Nat.pow_zero,Nat.one_mul];exact ybw _)
    have y6:val BB W=val BB r / 2^s:=by
     grind [jN,Nat.zero_div]
    rw[w1]at z9 z10;rw[n7]at z10;obtain⟨x1,x2⟩:=XO hp z10 z9
    refine XN y2 (z3.off (fun e=>hne e.symm) y1) y3 (by omega) (by omega) z7 (by omega) fun qv rv x3 x4=>?_
    have ht5:aA t t5:=k1.trans (z1.off n2 y1)
    grind [mT,mV,wV]
   ·simp_all
   ·rw[hta,ycd];exact n4.tle p3
   simp_all [val]
end Go.Proofs
namespace Go.Am
variable {B P W u x:Nat}
def wd (l:List Nat)(i:Nat):Nat:=(l[i]?).getD 0
def Dc (hB:0<B){l:List Nat}(h:mB B l)(i:Nat):wd l i<B:=by
 unfold wd
 cases hx:l[i]? with
 | none=>exact hB
 | some x=>exact xL h hx
def Jp(B:Nat)(l:List Nat)(i:Nat):val B (l.take (i+1))=val B (l.take i)+B^i*wd l i:=by
 unfold wd
 cases hx:l[i]? with
 | none=>
  grind [List.take_of_length_le]
 | some x=>
  have hi:=(ybc.1 hx).1
  rw[xQ hx,jN];grind
def XR{v Va Vb w y bo ai bi x' y' lx ly bo':Nat}(h:W+P*x+v*Vb=u*Va+P*(y+bo))(hx:B*x'+lx=x+u*ai)(hy:B*y'+ly=y+v*bi)(hw:lx+B*bo'=w+ly+bo) :
  (W+P*w)+P*B*x'+v*(Vb+P*bi)=u*(Va+P*ai)+P*B*(y'+bo'):=by
 grind
theorem zc1{z X Y:Nat}(h:W+P*x+Y=X+P*z)(hW:W<P)(hX:X<P)(hle:Y<=X):W=X-Y:=by
 rcases Nat.lt_trichotomy x z with g | g | g
 ·have:=ybv P g
  grind
 ·grind
 ·have:=ybv P g
  grind
def ML{a:Nat}(hx:x<=u)(ha:a<B):(x+u*a) / B<=u:=by
 have h:x+u*a<=u*B:=by
  have:=ybv u (Nat.succ_le_of_lt ha)
  grind
 simp_all [Nat.div_le_of_le_mul,ybh]
end Go.Am
namespace Go.Proofs
open Go Go.Am
variable [eC]
variable {t:Tr vA}
theorem FF{x u a:Nat}(hx:x<=u)(hu:u<4294967296)(ha:a<4294967296):cA .u64 ((x:Int)+cA .u64 ((u:Int)*cA .u64 (a:Int)))=((x+u*a:Nat):Int):=by
 have h:u*a<=4294967295*4294967295:=ydb (by omega) (by omega)
 grind [eF]
theorem XQ{la lb:List Nat}{pa pb w:zA}{u v x y bo n i:Nat}{Q:sB}(ha:bA t 1 (rC .u32 la) pa)(hb:bA t 1 (rC .u32 lb) pb)(hal:mB BB la)(hbl:mB BB lb)(hu:u<4294967296)(hv:v<4294967296)(hx:x<=u)(hy:y<=v)(hi:i<n)
  (h:jp 171 21 [.int .u64 (u:Int),pa,.int .u64 (v:Int),pb,w,.int .u64 ((x+u*wd la i:Nat):Int),.int .u64 ((y+v*wd lb i:Nat):Int),.int .u32 (bo:Int),.int .i64 (i:Int),.int .i64 (n:Int),.int .i64 (i:Int)] t Q) :
  jp 171 2 [.int .u64 (u:Int),pa,.int .u64 (v:Int),pb,w,.int .u64 (x:Int),.int .u64 (y:Int),.int .u32 (bo:Int),.int .i64 (n:Int),.int .i64 (i:Int)] t Q:=by
 have hBB:=tO
 have second:jp 171 17 [.int .u64 (u:Int),pa,.int .u64 (v:Int),pb,w,.int .u64 ((x+u*wd la i:Nat):Int),.int .u64 (y:Int),.int .u32 (bo:Int),.int .i64 (i:Int),.int .i64 (n:Int),.int .i64 (i:Int)] t Q:=by
  refine zik ?_
  simp only[uI,uL,uZ,CX,pA,hb.len,sA,yC,uJ,jF];by_cases hlen:i<lb.length
  ·obtain⟨z,hz⟩:=getElem?_of_lt hlen
   have hz32:z<4294967296:=by have:=xL hbl hz;omega
   obtain⟨c,off,g1,g2⟩:=hb.idx dG hz
   grind [sA,yC,FF,wd]
  grind [wd]
 refine ze7 ?_
 simp only[uI,uL,uZ,Vd,pA,jF];rw[yab (by omega)]
 simp only[ha.len,sA,yC,uJ];by_cases hlen:i<la.length
 ·obtain⟨z,hz⟩:=getElem?_of_lt hlen
  have hz32:z<4294967296:=by have:=xL hal hz;omega
  obtain⟨c,off,g1,g2⟩:=ha.idx dG hz
  grind [sA,yC,FF,wd]
 grind [wd]
end Go.Proofs
namespace Go.Proofs
open Go Go.Am
section
variable {la lb:List Nat}{pa pb:zA}{u v:Nat}{Q:sB}
variable [eC]
variable {t:Tr vA}
theorem XS  {b n:Nat}{t0:Tr vA} (ha:bA t0 1 (rC .u32 la) pa)(hb:bA t0 1 (rC .u32 lb) pb)(hal:mB BB la)(hbl:mB BB lb)(hu:u<4294967296)(hv:v<4294967296)(hn:n<1000000)(hbase:yA.base<=b)(hb0:t0.get b=none)
  (hQ:∀t' W rv x z,aA t0 t'->bA t' 1 (rC .u32 (eE W)) rv->W.length=n->mB BB W->val BB W+BB^n*x+v*val BB (lb.take n)=u*val BB (la.take n)+BB^n*z->Q rv t') :
  ∀(k i x y bo:Nat) (t':Tr vA) (W:List Nat),i+k=n->aA t0 t'->rG t' b .u32 (W++List.replicate k 0)->W.length=i->mB BB W->x<=u->y<=v->bo<2->val BB W+BB^i*x+v*val BB (lb.take i)=u*val BB (la.take i)+BB^i*(y+bo) →
  jp 171 2 [.int .u64 (u:Int),pa,.int .u64 (v:Int),pb,.slice b 0 n n,.int .u64 (x:Int),.int .u64 (y:Int),.int .u32 (bo:Int),.int .i64 (n:Int),.int .i64 (i:Int)] t' Q:=by
 intro k;have hBB:=tO
 induction k with
 | zero=>
  intro i x y bo t' W hi ht ho hW hWl hx hy hbo hval;have hi':i=n:=by omega
  subst hi'
  have e3:bA t' 1 (rC .u32 W) (.slice b 0 i i):=by
   rw[List.replicate_zero,ycd]at ho;have:=ho.all (cap:=i) (by omega)
   simp_all
  obtain⟨rv,f1,f2⟩:=Bb (by omega) e3
  refine ze7 ?_
  simp only[uI,uL,uZ,Vd,pA,jF];rw[yaa (by omega)]
  simp only[Eb,f1,sA];grind
 | succ k ih=>
  intro i x y bo t' W hi ht ho hW hWl hx hy hbo hval;refine XQ (ha.mono ht) (hb.mono ht) hal hbl hu hv hx hy (by omega) ?_
  have wa:=Dc rJ hal i
  have wb:=Dc rJ hbl i
  have cx:=ML hx wa
  have cy:=ML hy wb
  have va:=Jp BB la i
  have vb:=Jp BB lb i
  generalize wd la i=ai at *
  generalize wd lb i=bi at *
  generalize hX:x+u*ai=X at *
  generalize hY:y+v*bi=Y at *
  have ex:cA .u32 (X:Int)=((X%4294967296:Nat):Int):=by rw[jT];omega
  have ey:cA .u32 (Y:Int)=((Y%4294967296:Nat):Int):=by rw[jT];omega
  have fx:Int.fdiv (X:Int) 4294967296=((X / 4294967296:Nat):Int):=Cf X 4294967296
  have fy:Int.fdiv (Y:Int) 4294967296=((Y / 4294967296:Nat):Int):=Cf Y 4294967296
  have hs:=zbd (t:=t') (x:=X%4294967296) (y:=Y%4294967296) (b:=bo) (ycy _ (by decide)) (ycy _ (by decide)) hbo
  obtain⟨w,hw⟩:∃w,w=(X%4294967296+8589934592-Y%4294967296-bo)%4294967296:=⟨_,rfl⟩
  obtain⟨bo',hbo'⟩:∃bo':Nat,bo'=if X%4294967296<Y%4294967296+bo then 1 else 0:=⟨_,rfl⟩
  rw[<- hw,<- hbo']at hs;have hwlt:w<BB:=by omega
  have hb2:bo'<2:=by rw[hbo'];split<;>omega
  have hsum:X%4294967296+4294967296*bo'=w+Y%4294967296+bo:=by
   rw[hw,hbo'];split<;>omega
  have g1:=Ew dG (b:=b) (n:=n) (cap:=n) (j:=i) (by omega)
  obtain⟨t1,s1,s2,s3⟩:=ho.store (C:=yA) hbase (j:=i) (by grind) w dH rfl
  have hset:=Pb (p:=W) (n:=k) (x:=w)
  rw[hW]at hset;rw[hset]at s2;have ei:(i:Int)+1=((i+1:Nat):Int):=by omega
  refine zij ?_
  simp only[uL,tD,uX,uZ,CW,pA,ex,ey,q179,hs,sA,yH,zA.asTup,qA,xH,yaz,yba,yC,g1,fx,fy,ei];intro _ _ _;rw[s1,sA,iC (by omega) (by omega)]
  rw[hBB]at cx cy;refine ih (i+1) (X / 4294967296) (Y / 4294967296) bo' t1 (W++[w]) (by omega) (ht.off hb0 s3) s2 (by simp[hW]) (sY hWl hwlt) cx cy hb2 ?_
  have hst:=XR (B:=BB) (P:=BB^i) (ai:=ai) (bi:=bi) (x':=X / 4294967296) (y':=Y / 4294967296) (lx:=X%4294967296) (ly:=Y%4294967296) (w:=w) (bo':=bo') hval (by grind) (by grind) (by simp_all)
  grind [jN]
theorem Sg    (ha:bA t 1 (rC .u32 la) pa)(hb:bA t 1 (rC .u32 lb) pb)(hal:mB BB la)(hbl:mB BB lb)(hu:u<4294967296)(hv:v<4294967296)(hla:la.length<700000)(hlb:lb.length<700000)(hge:v*val BB lb<=u*val BB la)
  (hQ:∀t' r rv,aA t t'->bA t' 1 (rC .u32 r) rv->mB BB r->norm r->val BB r=u*val BB la-v*val BB lb->Q rv t') :
  Wc yA F 171 [.int .u64 (u:Int),pa,.int .u64 (v:Int),pb] t Q:=by
 have hBB:=tO
 refine w171 ?_
 simp only[uI,uZ,uW,t171,pA,ha.len,hb.len,sA,yC,uJ];obtain⟨n,hn1,hn2,hn3,hn4⟩:∃n:Nat,(bif iB (la.length:Int) (lb.length:Int)then(lb.length:Int)else(la.length:Int))+1=(n:Int)/\la.length<n/\lb.length<n/\n<700002:=by
  cases hc:iB (la.length:Int) (lb.length:Int)with
  | true=>have:=jF.1 hc;exact⟨lb.length+1,by simp,by omega,by omega,by omega⟩
  | false=>
   have:¬ ((la.length:Int)<(lb.length:Int)):=fun h=>by grind [jF]
   exact⟨la.length+1,by simp,by omega,by omega,by omega⟩
 rw[hn1,iC (by omega) (by omega)]
 intro b hb0 hbase;obtain⟨t',g1,g2,g3,g4⟩:=En (C:=yA) (k:=.u32) mM rfl dH rfl rfl (by decide) (n:=n) (by omega) hb0
 rw[g1];have el:pC (.slice b 0 n n)=some (.int .i64 (n:Int)):=rfl
 simp only[sA,el,yC];refine XS ha hb hal hbl hu hv (by omega) hbase hb0 (fun t2 W rv x z k1 k2 k3 k4 k5=>?_) n 0 0 0 0 t' [] (by omega) g3 (by simp_all) rfl (fun x hx=>by cases hx) (by omega) (by omega) (by omega) (by simp[val])
 rw[yca (by omega),yca (by omega)]at k5
 have hP:u*val BB la<BB^n:=by
  have h1:=vP rJ hal
  have h2:BB^(la.length+1)<=BB^n:=yao rJ (by omega)
  have h3:u*val BB la<=u*BB^la.length:=ybv _ (Nat.le_of_lt h1)
  have h4:u*BB^la.length<BB*BB^la.length:=Nat.mul_lt_mul_of_pos_right (by omega) (Nat.pow_pos rJ)
  grind
 grind [vP,zc1,mT,mV,wV]
end
section
variable {v:zA}{l:List Nat}{b:Nat}
variable [eC]
variable {t:Tr vA}
theorem zjv   (hv:bA t 1 (rC .u32 l) v)(hb:t.get b=none) :
  ∃H',wN v ⟨b,t⟩=some (.ptr b 0,H')/\aA t H'.t/\mA yA 189 ⟨0,H'.t⟩ (.ptr b 0)=some v:=by
 have hc:v.cells=[v]:=by
  obtain⟨cl,h1,_⟩:=hv
  rcases h1 with⟨rfl,_⟩ | ⟨_,_,_,rfl,_⟩<;>rfl
 refine⟨yG ⟨b,t⟩ [v] none,by unfold wN;rw[hc],?_,?_⟩
 ·intro c u hg
  show(t.set b _).get c=_
  grind [Tr.get_set]
 ·have hg:(yG ⟨b,t⟩ [v] none).t.get b=some (.cells (Tr.ofList [v]) 1 none):=by
   show(t.set b _).get b=_
   rw[Tr.get_set,yab rfl];rfl
  unfold mA;simp only[zA.asPtr,qA];rw[mM,qA];unfold qE;rw[hg,qA];simp only[vA.asCells,qA];unfold fR;first
   | rfl
   | (rw[cond_false,Tr.get_ofList];rfl)
theorem Tt  {i:Nat}(hv:bA t 1 (rC .u32 l) v)(hl:mB BB l)(hload:mA yA 189 ⟨0,t⟩ (.ptr b 0)=some v):wC yA F 189 [.int .i64 (i:Int),.ptr b 0] t=some (.int .u64 ((wd l i:Nat):Int)):=by
 have hBB:=tO
 refine bD.2 (w189 ?_)
 simp only[uI,uL,uZ,t189,pA,hload,sA,hv.len,yC,uJ,aK];by_cases h:i<l.length
 ·obtain⟨x,hx⟩:=getElem?_of_lt h
  have hx32:x<4294967296:=by have:=xL hl hx;omega
  obtain⟨c,off,g1,g2⟩:=hv.idx dG hx
  grind [sA,yC,eF,wd]
 grind [wd]
def JS  {n s:Nat}(hv:bA t 1 (rC .u32 l) v)(hl:mB BB l)(hn:3<=n)(hn2:n<1000000)(hs:s<32)(hb:(wd l (n-1)*4294967296+wd l (n-2))*2^s<18446744073709551616) :
  wC yA F 182 [v,.int .i64 (n:Int),.int .i64 (s:Int)] t=some (.int .u64 (((wd l (n-1)*4294967296+wd l (n-2))*2^s+wd l (n-3) / 2^(32-s):Nat):Int)):=by
 have hBB:=tO
 refine Bk (w182 ?_)
 simp only[uE,uZ,uW,t182,pA];intro b hb0 _;obtain⟨H',g1,g2,g3⟩:=zjv hv hb0
 rw[g1,sA];have w1:=Dc rJ hl (n-1)
 have w2:=Dc rJ hl (n-2)
 have w3:=Dc rJ hl (n-3)
 have c1:=Tt (i:=n-1) (hv.mono g2) hl g3
 have c2:=Tt (i:=n-2) (hv.mono g2) hl g3
 have c3:=Tt (i:=n-3) (hv.mono g2) hl g3
 generalize wd l (n-1)=x1 at *
 generalize wd l (n-2)=x2 at *
 generalize wd l (n-3)=x3 at *
 have e1:(n:Int)-1=((n-1:Nat):Int):=by omega
 have e2:(n:Int)-2=((n-2:Nat):Int):=by omega
 have e3:(n:Int)-3=((n-3:Nat):Int):=by omega
 have e4:(32:Int)-(s:Int)=((32-s:Nat):Int):=by omega
 have f:∀a,gL (.func (.func 189) [] [.ptr b 0]) [a]=some (189,[a,.ptr b 0]):=fun _=>rfl
 have e5:(x1:Int)*4294967296=((x1*4294967296:Nat):Int):=by omega
 rw[f,sA,e1,iC (by omega) (by omega),q189,c1,sA,yC,sA,f,sA,e2,iC (by omega) (by omega),q189,c2,sA,yC,sA,e5,eF (by omega) (by omega),or32 (by omega) (by omega),sA,yC,sA,JO (by omega) hb,sA,yC,sA,f,sA,e3,iC (by omega) (by omega),q189,c3,sA,yC,sA,e4,iC (by omega) (by omega),JN (by omega),sA,yC,sA]
 have hz:x3 / 2^(32-s)<2^s:=ycu (by rw[<- Nat.pow_add,show 32-s+s=32 by omega];omega)
 have hz2:(2:Nat)^s<=2^31:=yao (by decide) (by omega)
 generalize x3 / 2^(32-s)=z at hz ⊢
 have ho:=Dr (a:=x1*4294967296+x2) (b:=z) (n:=s) hz
 generalize (x1*4294967296+x2)*2^s=h at hb ho ⊢
 have hz3:z<18446744073709551616:=by omega
 rw[mU (k:=.u64) (show h<cG .u64 from hb) (show z<cG .u64 from hz3),ho,sA,yC,sA]
 exact⟨rfl,g2⟩
end
section
variable [eC]
variable {t:Tr vA}
theorem QI{A1 B1:Nat}{P:Nat->Nat->Nat->Nat->Nat->Nat->Nat->Nat->Bool->Prop}{Q:sB}(hA:A1<18446744073709551616)(hB:B1<18446744073709551616)
  (hstep:∀x y u0 u1 u2 v0 v1 v2 ev,P x y u0 u1 u2 v0 v1 v2 ev->0<y->v2<=y->v1+v2<=x-y->P y (x%y) u1 u2 (u1+x / y*u2) v1 v2 (v1+x / y*v2) (!ev))
  (hQ:∀x y u0 u1 u2 v0 v1 v2 ev,P x y u0 u1 u2 v0 v1 v2 ev->Q (.agg [.int .u64 (u0:Int),.int .u64 (u1:Int),.int .u64 (v0:Int),.int .u64 (v1:Int),.bool ev]) t) :
  ∀(y x u0 u1 u2 v0 v1 v2:Nat) (ev:Bool) (c0 c1 c2 c3:Int) (c4:Bool),P x y u0 u1 u2 v0 v1 v2 ev->A1=v2*x+v1*y->B1=u2*x+u1*y->y<=x->1<=v2->v1<=v2 →
  jp 170 2 [.int .u64 (x:Int),.int .u64 (y:Int),.int .u64 (u2:Int),.int .u64 (v2:Int),.int .u64 c0,.int .u64 c1,.int .u64 c2,.int .u64 c3,.bool c4,.int .u64 (u0:Int),.int .u64 (u1:Int),.int .u64 (v0:Int),.int .u64 (v1:Int),.bool ev] t Q:=by
 intro y;induction y using Nat.strongRecOn with
 | ind y ih=>
  intro x u0 u1 u2 v0 v1 v2 ev c0 c1 c2 c3 c4 hP hx hy hle h1 h12;refine j170_2 ?_
  simp only[uE,zeb,pA,aK];by_cases g1:v2<=y
  ·rw[yab (by omega)]
   have hy0:0<y:=by omega
   have b1:v2*x<=A1:=by omega
   have b2:x<=A1:=Nat.le_trans (yan x (by omega)) b1
   have b3:v2<4294967296:=by
    rcases yau v2 4294967296 with h | h
    ·exact h
    ·exfalso
     have:4294967296*4294967296<=v2*x:=ydb h (by omega)
     omega
   have e1:cA .u64 ((v1:Int)+(v2:Int))=((v1+v2:Nat):Int):=by grind [eF]
   have e2:cA .u64 ((x:Int)-(y:Int))=((x-y:Nat):Int):=by grind [eF]
   rw[e1,e2];by_cases g2:v1+v2<=x-y
   ·rw[yab (by omega)]
    have hdm:=ych x y
    have hmod:x%y<y:=ycy _ hy0
    have hq1:1<=x / y:=by
     grind
    have hxq:x / y<=x:=Nat.div_le_self _ _
    have e3:hZ .u64 (x:Int) (y:Int)=some (.int .u64 ((x / y:Nat):Int)):=Ze hy0 (by
     grind [eF])
    have e4:iZ .u64 (x:Int) (y:Int)=some (.int .u64 ((x%y:Nat):Int)):=Rm hy0
    have hst:=hstep x y u0 u1 u2 v0 v1 v2 ev hP hy0 g1 g2
    generalize x / y=q at *
    generalize x%y=r at *
    have nA:A1=(v1+q*v2)*y+v2*r:=by
     grind
    have nB:B1=(u1+q*u2)*y+u2*r:=by
     grind
    have bv:v1+q*v2<=A1:=Nat.le_trans (Nat.le_mul_of_pos_right _ hy0) (by omega)
    have bu:u1+q*u2<=B1:=Nat.le_trans (Nat.le_mul_of_pos_right _ hy0) (by omega)
    have bq:v2<=q*v2:=yan _ hq1
    have e5:cA .u64 ((v1:Int)+cA .u64 ((q:Int)*(v2:Int)))=((v1+q*v2:Nat):Int):=by
     grind [eF]
    have e6:cA .u64 ((u1:Int)+cA .u64 ((q:Int)*(u2:Int)))=((u1+q*u2:Nat):Int):=by
     grind [eF]
    rw[e3,sA,yC,sA,e4,sA,yC,sA,e5,e6];grind
   grind
  grind
end
end Go.Proofs
namespace Go.Am
def Lrel (a b x y u1 u2 v1 v2:Nat)(ev:Bool):Prop:=
 match ev with
 | false=>u1*v2=u2*v1+1/\x+v1*b=u1*a/\y+u2*a=v2*b
 | true=>u2*v1=u1*v2+1/\x+u1*a=v1*b/\y+v2*b=u2*a
def Lst (u1 u2 v1 v2:Nat):Prop:=(u1=1/\v1=0/\u2=0)\/(u1<=v1/\u2<=v2/\1<=u2/\1<=v1)
def Tk(a b u0 u1 v0 v1:Nat)(ev:Bool):Prop:=∃x y,Lrel a b x y u0 u1 v0 v1 (!ev)/\v1<=y/\v0+v1<=x-y/\u0<=v0/\u1<=v1/\1<=u1/\1<=v0/\v0<=v1
def Lsim (a b x y u0 u1 u2 v0 v1 v2:Nat)(ev:Bool):Prop:=Lrel a b x y u1 u2 v1 v2 ev/\1<=v2/\v1<=v2/\Lst u1 u2 v1 v2/\(v0=0\/Tk a b u0 u1 v0 v1 ev)
def zar(a b:Nat):Lsim a b a b 0 1 0 0 0 1 false:=⟨⟨by simp,by simp,by simp⟩,ybk _,by omega,.inl ⟨rfl,rfl,rfl⟩,.inl rfl⟩
def zaq{a b x y u0 u1 u2 v0 v1 v2:Nat}{ev:Bool}(h:Lsim a b x y u0 u1 u2 v0 v1 v2 ev)(hy:0<y)(h1:v2<=y)(h2:v1+v2<=x-y) :
  Lsim a b y (x%y) u1 u2 (u1+x / y*u2) v1 v2 (v1+x / y*v2) (!ev):=by
 obtain⟨k1,k2,k5,k3,k4⟩:=h
 have hq:1<=x / y:=by rw[Nat.le_div_iff_mul_le hy];omega
 have hdm:=ych x y
 generalize x / y=q at *
 generalize x%y=r at *
 have hv2:v2<=q*v2:=yan _ hq
 have hu2:u2<=q*u2:=yan _ hq
 refine⟨?_,by omega,by omega,?_,?_⟩
 ·cases ev with
  | false=>
   obtain⟨m1,m2,m3⟩:=k1
   refine⟨?_,m3,?_⟩
   all_goals grind
  | true=>
   obtain⟨m1,m2,m3⟩:=k1
   refine⟨?_,m3,?_⟩
   all_goals grind
 ·right
  rcases k3 with⟨e1,e2,e3⟩ | ⟨g1,g2,g3,g4⟩
  ·grind
  ·have:=ybv q g2
   omega
 ·rcases k3 with⟨e1,e2,e3⟩ | ⟨g1,g2,g3,g4⟩
  ·omega
  ·right
   exact⟨x,y,by simp_all,h1,h2,g1,g2,g3,g4,k5⟩
end Go.Am
namespace Go.Am
variable {A B W a b p q r s u0 u1 v0 v1 α β:Nat}{ev:Bool}
def HJ{X Y:Nat}(hdet:p*s=q*r+1)(hX:X+r*B=p*A)(hY:Y+q*A=s*B):A=s*X+r*Y/\B=q*X+p*Y:=by
 have a1:s*(X+r*B)=s*(p*A):=by rw[hX]
 have a2:r*(Y+q*A)=r*(s*B):=by rw[hY]
 have a3:q*(X+r*B)=q*(p*A):=by rw[hX]
 have a4:p*(Y+q*A)=p*(s*B):=by rw[hY]
 have d1:p*s*A=q*r*A+A:=by rw[hdet,ybo,Nat.one_mul]
 have d2:p*s*B=q*r*B+B:=by rw[hdet,ybo,Nat.one_mul]
 have e1:s*(p*A)=p*s*A:=by rw[<- ybj,ybh s p]
 have e2:r*(q*A)=q*r*A:=by rw[<- ybj,ybh r q]
 have e3:s*(r*B)=r*(s*B):=Nat.mul_left_comm _ _ _
 have e4:q*(p*A)=p*(q*A):=Nat.mul_left_comm _ _ _
 have e5:q*(r*B)=q*r*B:=(ybj _ _ _).symm
 have e6:p*(s*B)=p*s*B:=(ybj _ _ _).symm
 rw[ybm]at a1 a2 a3 a4;constructor<;>omega
def HI{x y:Nat}(hx:x+r*b=p*a)(hy:y+q*a=s*b)(hA:A=W*a+α)(hB:B=W*b+β)(ha:α<W)(hb:β<W)(hrs:r+s<=x-y)(h1:1<=r+s)(hq:q<=y) :
  ∃X Y,X+r*B=p*A/\Y+q*A=s*B/\Y<X:=by
 obtain⟨D,hD⟩:∃D,x=y+D:=⟨x-y,by omega⟩
 have w1:p*A=W*x+r*(W*b)+p*α:=by
  rw[hA,ybm,Nat.mul_left_comm p W,<- hx,ybm,Nat.mul_left_comm W r]
 have w2:r*B=r*(W*b)+r*β:=by rw[hB,ybm]
 have w3:s*B=W*y+q*(W*a)+s*β:=by
  rw[hB,ybm,Nat.mul_left_comm s W,<- hy,ybm,Nat.mul_left_comm W q]
 have w4:q*A=q*(W*a)+q*α:=by rw[hA,ybm]
 have i1:r*β<=W*D:=by
  rw[ybh W D];exact ydb (by omega) (by omega)
 have i2:q*α<=W*y:=by
  rw[ybh W y];exact ydb hq (by omega)
 have i3:(r+s)*β<W*D:=by
  have h2:(r+s)*β<(r+s)*W:=Nat.mul_lt_mul_of_pos_left hb (by omega)
  have h3:(r+s)*W<=D*W:=ybi _ (by omega)
  grind
 have w5:W*x=W*y+W*D:=by rw[hD,ybm]
 rw[ybo]at i3;exact⟨p*A-r*B,s*B-q*A,by omega,by omega,by omega⟩
def lehmer  (hA:A=W*a+α)(hB:B=W*b+β)(ha:α<W)(hb:β<W)(h:Tk a b u0 u1 v0 v1 ev) :
  ∃X Y,(ev=true->X+v0*B=u0*A/\Y+u1*A=v1*B)/\(ev=false->X+u0*A=v0*B/\Y+v1*B=u1*A)/\Y<X/\A=v1*X+v0*Y/\B=u1*X+u0*Y/\X+Y<A+B:=by
 obtain⟨x,y,k1,k2,k3,k4,k5,k6,k7,_⟩:=h
 have fin:∀X Y:Nat,Y<X->A=v1*X+v0*Y->B=u1*X+u0*Y->X+Y<A+B:=by
  intro X Y g1 g2 g3;have j1:X<=v1*X:=yan _ (by omega)
  have j2:X<=u1*X:=yan _ (by omega)
  omega
 cases ev with
 | true=>
  obtain⟨m1,m2,m3⟩:=k1
  obtain⟨X,Y,g1,g2,g3⟩:=HI m2 m3 hA hB ha hb k3 (by omega) (by omega)
  obtain⟨d1,d2⟩:=HJ m1 g1 g2
  exact⟨X,Y,fun _=>⟨g1,g2⟩,(fun h=>absurd h (by decide)),g3,d1,d2,fin X Y g3 d1 d2⟩
 | false=>
  obtain⟨m1,m2,m3⟩:=k1
  obtain⟨X,Y,g1,g2,g3⟩:=HI m2 m3 hB hA hb ha (by omega) (by omega) k2
  have m1':v0*u1=v1*u0+1:=by grind
  obtain⟨d1,d2⟩:=HJ m1' g1 g2
  exact⟨X,Y,(fun h=>absurd h (by decide)),fun _=>⟨g1,g2⟩,g3,d2,d1,fin X Y g3 d2 d1⟩
def ZY  (ha:a<18446744073709551616)(hb:b<18446744073709551616)(h:Tk a b u0 u1 v0 v1 ev):u0<4294967296/\u1<4294967296/\v0<4294967296/\v1<4294967296:=by
 obtain⟨x,y,k1,k2,k3,k4,k5,k6,k7,k8⟩:=h
 have key:a=v1*x+v0*y:=by
  cases ev with
  | true=>
   obtain⟨m1,m2,m3⟩:=k1
   grind
  | false=>
   obtain⟨m1,m2,m3⟩:=k1
   grind
 have:v1<4294967296:=by
  rcases yau v1 4294967296 with g | g
  ·exact g
  ·exfalso
   have:4294967296*4294967296<=v1*x:=ydb g (by omega)
   omega
 omega
end Go.Am
namespace Go.Am
variable {B m:Nat}{l:List Nat}
def zaz   (hl:l.length<=m+3):val B l=val B (l.take m)+B^m*(wd l m+B*(wd l (m+1)+B*wd l (m+2))):=by
 have h0:=Jp B l m
 have h1:val B (l.take (m+2))=val B (l.take (m+1))+B^(m+1)*wd l (m+1):=Jp B l (m+1)
 have h2:val B (l.take (m+3))=val B (l.take (m+2))+B^(m+2)*wd l (m+2):=Jp B l (m+2)
 grind [List.take_of_length_le]
def JR{p K:Nat} (hB:B=p*K)(hp:0<p)(hB0:0<B)(hlt:mB B l)(hl:l.length<=m+3) :
  (wd l (m+2)*B+wd l (m+1))*K+wd l m / p=val B l / (B^m*p):=by
 have h1:=zaz (B:=B) hl
 have h2:val B (l.take m)<B^m:=by
  have h:=vP hB0 (Co hlt m)
  grind [Nat.lt_of_lt_of_le,Nat.pow_le_pow_right]
 have h3:val B l / B^m=wd l m+B*(wd l (m+1)+B*wd l (m+2)):=by
  rw[h1,Nat.add_mul_div_left _ _ (Nat.pow_pos hB0),Nat.div_eq_of_lt h2,ybw]
 rw[<- Nat.div_div_eq_div_mul,h3];generalize wd l m=x
 have e:B*(wd l (m+1)+B*wd l (m+2))=p*(K*(wd l (m+2)*B+wd l (m+1))):=by
  rw[<- ybj p,<- hB,ybh (wd l (m+2)),yap]
 rw[e,Nat.add_mul_div_left _ _ hp,ybh K,yap]
end Go.Am
namespace Go.Proofs
open Go Go.Am
variable [eC]
variable {t:Tr vA}
theorem QH{la lb:List Nat}{pa pb:zA}{m top:Nat}{Q:sB}(ha:bA t 1 (rC .u32 la) pa)(hb:bA t 1 (rC .u32 lb) pb)(hal:mB BB la)(hbl:mB BB lb)(hla:la.length=m+3)(hm:m<700000)(hlb:lb.length<=m+3)(htop:la[m+2]?=some top)(ht0:0<top)(hle:val BB lb<=val BB la)
  (hQ:∀u0 u1 v0 v1 ev W,0<W->val BB la / W<18446744073709551616->val BB lb / W<18446744073709551616->(v0=0\/Tk (val BB la / W) (val BB lb / W) u0 u1 v0 v1 ev)->Q (.agg [.int .u64 (u0:Int),.int .u64 (u1:Int),.int .u64 (v0:Int),.int .u64 (v1:Int),.bool ev]) t) :
  Wc yA F 170 [pa,pb] t Q:=by
 have hBB:=tO
 have htlt:top<4294967296:=by have:=xL hal htop;omega
 obtain⟨s,hs,hs1,hs2,hs3⟩:=GS (t:=t) htlt ht0
 obtain⟨c,off,g1,g2⟩:=ha.idx dG htop
 have hK:BB=2^(32-s)*2^s:=by rw[<- Nat.pow_add,show 32-s+s=32 by omega,hBB]
 have hp:0<2^(32-s):=Nat.pow_pos (by decide)
 have va:=JR hK hp rJ hal (m:=m) (by omega)
 have vb:=JR hK hp rJ hbl hlb
 have hW:0<BB^m*2^(32-s):=Nat.mul_pos (Nat.pow_pos rJ) hp
 have hdiv:val BB lb / (BB^m*2^(32-s))<=val BB la / (BB^m*2^(32-s)):=Nat.div_le_div_right hle
 have hwt:wd la (m+2)=top:=by grind [wd]
 have wa1:=Dc rJ hal (m+1)
 have wa0:=Dc rJ hal m
 have hz:wd la m / 2^(32-s)<2^s:=ycu (by omega)
 rw[hBB]at va vb;have bigA:(wd la (m+2)*4294967296+wd la (m+1))*2^s+wd la m / 2^(32-s)<18446744073709551616:=by
  rw[hwt];have q1:top+1<=2^(32-s):=by
   have:top*2^s<2^(32-s)*2^s:=by omega
   exact Nat.lt_of_mul_lt_mul_right this
  have q2:(top*4294967296+wd la (m+1))+1<=2^(32-s)*4294967296:=by
   omega
  have q3:=ybi (2^s) q2
  grind
 have hBB':∀l,val 4294967296 l=val BB l:=fun l=>by rw[hBB]
 have hPP:(4294967296:Nat)^m=BB^m:=by rw[hBB]
 rw[hBB',hPP]at va vb;have rM:(wd lb (m+2)*4294967296+wd lb (m+1))*2^s+wd lb m / 2^(32-s)<18446744073709551616:=by
  grind
 have h1:=JS (n:=m+3) (s:=s) ha hal (by omega) (by omega) hs (yam (Nat.le_add_right _ _) bigA)
 have h2:=JS (n:=m+3) (s:=s) hb hbl (by omega) (by omega) hs (yam (Nat.le_add_right _ _) rM)
 rw[show m+3-1=m+2 by omega,show m+3-2=m+1 by omega,show m+3-3=m by omega]at h1 h2;rw[va]at h1 bigA;rw[vb]at h2 rM;generalize hw:BB^m*2^(32-s)=W at *
 have e1:((m+3:Nat):Int)-1=((m+2:Nat):Int):=by omega
 refine w170 ?_
 simp only[uI,uL,uE,uZ,uW,t170,pA,ha.len,sA,yC,uJ,hla,e1];rw[iC (by omega) (by omega),g1,sA,g2,sA,yC,sA,q176,hs3,sA,yC,sA,q182,h1,sA,yC,sA,q182,h2,sA,yC,sA]
 simp only[if_true];exact QI (P:=Lsim (val BB la / W) (val BB lb / W)) bigA rM (fun x y u0 u1 u2 v0 v1 v2 ev hP hy k1 k2=>zaq hP hy k1 k2) (fun x y u0 u1 u2 v0 v1 v2 ev hP=>hQ u0 u1 v0 v1 ev W hW bigA rM hP.2.2.2.2) _ _ 0 1 0 0 0 1 false 0 0 0 0 false (zar _ _) (by omega) (by omega) hdiv (by omega) (by omega)
end Go.Proofs
namespace Go.Am
def VU{A B X Y u0 u1 v0 v1:Nat}{ev:Bool}(h1:ev=true->X+v0*B=u0*A/\Y+u1*A=v1*B)(h2:ev=false->X+u0*A=v0*B/\Y+v1*B=u1*A)(hA:A=v1*X+v0*Y)(hB:B=u1*X+u0*Y):Nat.gcd X Y=Nat.gcd A B:=by
 have gX:=Nat.gcd_dvd_left X Y
 have gY:=Nat.gcd_dvd_right X Y
 have gA:=Nat.gcd_dvd_left A B
 have gB:=Nat.gcd_dvd_right A B
 refine Nat.dvd_antisymm (Nat.dvd_gcd ?_ ?_) (Nat.dvd_gcd ?_ ?_)
 ·grind [Nat.dvd_add]
 ·grind [Nat.dvd_add]
 ·generalize Nat.gcd A B=g at *
  cases ev with
  | true=>
   grind [Nat.dvd_add_left]
  | false=>
   grind [Nat.dvd_add_left]
 ·generalize Nat.gcd A B=g at *
  cases ev with
  | true=>
   grind [Nat.dvd_add_left]
  | false=>
   grind [Nat.dvd_add_left]
theorem gcd_div{a b q r:Nat}(h:a=b*q+r):Nat.gcd b r=Nat.gcd a b:=by
 grind [Nat.mul_comm,Nat.gcd_mul_right_add_left]
theorem ziz{x y:Nat}:Nat.gcd y (x%y)=Nat.gcd x y:=by
 rw[Nat.gcd_comm y (x%y),<- Nat.gcd_rec,Nat.gcd_comm]
def BZ{B:Nat}{l:List Nat}(hB:0<B)(h:mB B l)(hl:l.length<=2):val B l<B*B:=by
 have h1:=vP hB h
 have h2:B^l.length<=B^2:=yao hB hl
 grind
end Go.Am
namespace Go.Proofs
open Go Go.Am
variable {P c:Prop}{Q:sB}{la lb:List Nat}{pa pb:zA}
variable [eC]
variable {t:Tr vA}
theorem tN {d:Decidable c}{Q:Prop}(h:c)(k:P):@ite Prop c d P Q:=by simp_all
theorem ite_no {d:Decidable c}{Q:Prop}(h:¬ c)(k:Q):@ite Prop c d P Q:=by simp_all
theorem WO  : ∀(y x:Nat),x<18446744073709551616->y<18446744073709551616->(∀t' r rv,aA t t'->bA t' 1 (rC .u32 r) rv->mB BB r->norm r->val BB r=Nat.gcd x y->Q rv t')->jp 163 6 [.int .u64 (x:Int),.int .u64 (y:Int)] t Q:=by
 have hBB:=tO
 intro y;induction y using Nat.strongRecOn with
 | ind y ih=>
  intro x hx hy hQ;refine j163_6 ?_
  simp only[uE,zec,pA,qQ];by_cases h0:y=0
  ·subst h0
   rw[yaa (by simp)]
   simp only[q173];grind [zbl,ZU,NW,TN]
  ·rw[yab (by omega),Rm (by omega),sA,yC,sA]
   have hm:=ycy x (show 0<y by omega)
   grind [ziz]
theorem GV{l:List Nat}{v:zA}(hv:bA t 1 (rC .u32 l) v)(hl:l.length<=2)(hlt:mB BB l):wC yA F 172 [v] t=some (.int .u64 ((val BB l:Nat):Int)):=by
 have hBB:=tO
 grind [zh2]
theorem MJ   (ha:bA t 1 (rC .u32 la) pa)(hb:bA t 1 (rC .u32 lb) pb)(hal:mB BB la)(hbl:mB BB lb)(hla:la.length<=2)(hlb:lb.length<=2)
  (hQ:∀t' r rv,aA t t'->bA t' 1 (rC .u32 r) rv->mB BB r->norm r->val BB r=Nat.gcd (val BB la) (val BB lb)->Q rv t'):jp 163 33 [pa,pb] t Q:=by
 have hBB:=tO
 have b1:=BZ rJ hal hla
 have b2:=BZ rJ hbl hlb
 refine zil ?_
 simp only[uE,CY,pA,q172,GV ha hla hal,GV hb hlb hbl,sA,yC];grind [WO]
theorem MK {t0:Tr vA}{G:Nat}(hQ:∀t' r rv,aA t0 t'->bA t' 1 (rC .u32 r) rv->mB BB r->norm r->val BB r=G->Q rv t'):∀(n:Nat) (la lb:List Nat) (pa pb:zA) (t:Tr vA),val BB la+val BB lb=n->aA t0 t->bA t 1 (rC .u32 la) pa->bA t 1 (rC .u32 lb) pb->mB BB la->mB BB lb->norm la->norm lb->val BB lb<=val BB la->la.length<700000->Nat.gcd (val BB la) (val BB lb)=G->jp 163 2 [pa,pb] t Q:=by
 have hBB:=tO
 have hB1:1<BB:=by omega
 intro n;induction n using Nat.strongRecOn with
 | ind n ih=>
  intro la lb pa pb t hn ht ha hb hal hbl han hbn hle hlen hg;have hlb:lb.length<=la.length:=jR hB1 hal hbn hle
  refine j163_2 ?_
  simp only[uI,uG,uX,zed,pA,hb.len,sA,yC,uJ,jF];by_cases h2:2<lb.length
  ·rw[yab (by omega)]
   have hb0:lb≠[]:=by grind
   have hbpos:0<val BB lb:=by
    rcases yav (val BB lb)with h | h
    ·exact absurd (TO rJ hbn h) hb0
    ·exact h
   obtain⟨m,hm⟩:∃m,la.length=m+3:=⟨la.length-3,by omega⟩
   obtain⟨top,htop⟩:=getElem?_of_lt (l:=la) (i:=m+2) (by omega)
   have ha0:la≠[]:=by grind
   have ht0:0<top:=by
    have:=han ha0
    grind
   rw[q170];refine QH ha hb hal hbl hm (by omega) (by omega) htop ht0 hle fun u0 u1 v0 v1 ev W hW hA hB hL=>?_
   have eG:jJ [(.int .u64 0),(.int .u64 0),(.int .u64 0),(.int .u64 0),(.bool false)] (.agg [.int .u64 (u0:Int),.int .u64 (u1:Int),.int .u64 (v0:Int),.int .u64 (v1:Int),.bool ev])=some (cellsOf [.int .u64 (u0:Int),.int .u64 (u1:Int),.int .u64 (v0:Int),.int .u64 (v1:Int),.bool ev]):=cQ rfl
   rw[eG];simp only[sA,cellsOf,ziv,Im,yaz,yba,if_true,Pd];by_cases hv0:v0=0
   ·refine tN (nJ.2 (by omega)) ?_
    rw[q165];refine AA ha hb hlen hal hbl han hbn hb0 fun t' q r qv rv k1 k2 k3 k4 k5 k6 k7 k8 k9=>?_
    simp only[yH,zA.asTup,qA,xH,yaz,yba,sA];refine ih (val BB lb+val BB r) (by omega) lb r pb rv t' rfl (ht.trans k1) (hb.mono k1) k3 hbl k5 hbn k7 (by omega) (by omega) ?_
    grind [gcd_div]
   ·refine ite_no (fun e=>absurd (nJ.1 e) (by omega)) ?_
    rcases hL with h | hL
    ·omega
    obtain⟨s1,s2,s3,s4⟩:=ZY hA hB hL
    have eA:val BB la=W*(val BB la / W)+val BB la%W:=(ych _ _).symm
    have eB:val BB lb=W*(val BB lb / W)+val BB lb%W:=(ych _ _).symm
    obtain⟨X,Y,l1,l2,l3,l4,l5,l6⟩:=lehmer eA eB (ycy _ hW) (ycy _ hW) hL
    have hgg:=VU l1 l2 l4 l5
    have hXA:X<=val BB la:=by
     have:X<=v1*X:=yan _ (by
      obtain⟨x,y,_,_,_,_,_,_,w2,w3⟩:=hL;omega)
     omega
    cases ev with
    | true=>
     obtain⟨m1,m2⟩:=l1 rfl
     simp only[if_true];rw[q171];refine Sg ha hb hal hbl s1 s3 hlen (by omega) (by omega) fun t1 r1 rv1 k1 k2 k3 k4 k5=>?_
     rw[q171];refine Sg (hb.mono k1) (ha.mono k1) hbl hal s4 s2 (by omega) hlen (by omega) fun t2 r2 rv2 j1 j2 j3 j4 j5=>?_
     have e1:val BB r1=X:=by omega
     have e2:val BB r2=Y:=by omega
     refine ih (val BB r1+val BB r2) (by omega) r1 r2 rv1 rv2 t2 rfl (ht.trans (k1.trans j1)) (k2.mono j1) j2 k3 j3 k4 j4 (by omega) ?_ (by grind)
     have:=jR hB1 hal k4 (by omega)
     omega
    | false=>
     obtain⟨m1,m2⟩:=l2 rfl
     simp only[if_true,ybq,if_false];rw[q171];refine Sg hb ha hbl hal s3 s1 (by omega) hlen (by omega) fun t1 r1 rv1 k1 k2 k3 k4 k5=>?_
     rw[q171];refine Sg (ha.mono k1) (hb.mono k1) hal hbl s2 s4 hlen (by omega) (by omega) fun t2 r2 rv2 j1 j2 j3 j4 j5=>?_
     have e1:val BB r1=X:=by omega
     have e2:val BB r2=Y:=by omega
     refine ih (val BB r1+val BB r2) (by omega) r1 r2 rv1 rv2 t2 rfl (ht.trans (k1.trans j1)) (k2.mono j1) j2 k3 j3 k4 j4 (by omega) ?_ (by grind)
     have:=jR hB1 hal k4 (by omega)
     omega
  ·rw[yaa (by omega)]
   simp only[nJ];by_cases h0:lb.length=0
   ·rw[yab (by omega)]
    have:lb=[]:=ycc.1 h0
    subst this;refine hQ t la pa ht ha hal han ?_
    rw[<- hg];simp only[val];rw[Nat.gcd_zero_right]
   ·rw[yaa (by omega)]
    simp only[ha.len,sA,yC,uJ,jF];have hb0:lb≠[]:=by simp_all
    by_cases h3:2<la.length
    ·rw[yab (by omega),q165]
     refine AA ha hb hlen hal hbl han hbn hb0 fun t' q r qv rv k1 k2 k3 k4 k5 k6 k7 k8 k9=>?_
     simp only[yH,zA.asTup,qA,xH,yaz,yba,sA];have:=jR hB1 hbl k7 (Nat.le_of_lt k9)
     refine MJ (hb.mono k1) k3 hbl k5 (by omega) (by omega) fun t2 r2 rv2 j1 j2 j3 j4 j5=>?_
     exact hQ t2 r2 rv2 (ht.trans (k1.trans j1)) j2 j3 j4 (by grind [gcd_div])
    ·rw[yaa (by omega)]
     refine MJ ha hb hal hbl (by omega) (by omega) fun t2 r2 rv2 j1 j2 j3 j4 j5=>?_
     exact hQ t2 r2 rv2 (ht.trans j1) j2 j3 j4 (by omega)
def cd_ok   (ha:bA t 1 (rC .u32 la) pa)(hb:bA t 1 (rC .u32 lb) pb)(hal:mB BB la)(hbl:mB BB lb)(han:norm la)(hbn:norm lb)(hla:la.length<700000)(hlb:lb.length<700000)
  (hQ:∀t' r rv,aA t t'->bA t' 1 (rC .u32 r) rv->mB BB r->norm r->val BB r=Nat.gcd (val BB la) (val BB lb)->Q rv t'):Wc yA F 163 [pa,pb] t Q:=by
 have hBB:=tO
 have hB1:1<BB:=by omega
 have hlt:=LY hB1 hal hbl han hbn
 refine w163 ?_
 simp only[uI,t163,pA,q169,zfu (by omega) ha hb,sA,yC,jF]
 by_cases hc:pN la lb<0
 ·rw[yab hc]
  have:=hlt.1 hc
  exact MK hQ _ lb la pb pa t rfl (aA.refl _) hb ha hbl hal hbn han (by omega) hlb (Nat.gcd_comm _ _)
 ·rw[yaa hc]
  have:val BB lb<=val BB la:=Nat.le_of_not_lt fun h=>hc (hlt.2 h)
  exact MK hQ _ la lb pa pb t rfl (aA.refl _) ha hb hal hbl han hbn this hla rfl
end Go.Proofs
namespace Go.Proofs
open Go Go.Am
variable {l:List tJ}{v:zA}
variable [eC]
variable {t:Tr vA}
theorem GJ{neg:Bool}{l:List Nat}(h:zQ neg l=true):norm l:=by
 intro hne;grind [zQ]
theorem ZT  (hv:bA t 2 (l.map tJ.d) v)(hb:∀w∈l,w.limbs.length<1125899906842624)(hn:l.length<1125899906842624):∀(k i:Nat),i+k=l.length->jp 162 2 [v,.int .i64 (l.length:Int),.int .i64 (i:Int)] t (fun r m=>r=.bool ((l.drop i).all fun w=>zQ w.neg w.limbs)/\m=t):=by
 intro k;induction k with
 | zero=>
  intro i hi;refine zfc ?_
  simp only[uB,uG,gC,tD,oC,gI,uZ,aI,eK,Vi,pA,jF];simp_all
 | succ k ih=>
  intro i hi;have hlt:i<l.length:=by omega
  have hx:l[i]?=some l[i]:=ybd hlt
  obtain⟨b,off,cs,g1,g2,_,_,g5⟩:=zH.at sl229 (by simp) hv (i:=i) (d:=l[i].d) (by simp[hx])
  obtain⟨u,rfl,hu⟩:=Dy g5
  have hv1:=Gi (neg:=l[i].neg) (hb _ (ycj hlt)) hu
  refine zfc ?_
  simp only[uB,uG,gC,tD,oC,gI,uZ,aI,eK,Vi,pA,jF];rw[yab (by omega),g1,sA,g2,zge,sA,vL g5 (tJ.zs _)]
  simp only[sA,cellsOf,Im,Jt,yaz,yba];have hone:fB zA.one [.bool l[i].neg,u]=true:=by
   show(bif zA.one (.bool l[i].neg)then(bif zA.one u then true else false)else false)=true
   rw[hu.one];rfl
  refine tN hone ?_
  rw[q123,hv1];simp only[sA,Cn,Xr];rw[ybl hlt,ycg]
  cases hq:zQ l[i].neg l[i].limbs with
  | false=>simp
  | true=>
   simp only[ycn,Bool.true_eq_false,if_false];rw[iC (by omega) (by omega)]
   exact ih (i+1) (by omega)
theorem NK  (hv:bA t 2 (l.map tJ.d) v)(hb:∀w∈l,w.limbs.length<1125899906842624)(hn:l.length<1125899906842624):wC yA F 162 [v] t=some (.bool (l.all fun w=>zQ w.neg w.limbs)):=by
 refine bD.2 (w162 ?_)
 simp only[uI,uZ,t162,pA,hv.len,sA,yC,ybf];have:=ZT hv hb hn l.length 0 (by omega)
 simp_all
theorem zfo{n d:tJ}{u:zA}{Q:sB}(hu:bA t 1 (eD n.limbs) u)(hv:bA t 1 (eD d.limbs) v)(hn:n.limbs.length<700000)(hd:d.limbs.length<700000)(hnl:mB 65536 n.limbs)(hdl:mB 65536 d.limbs)(hnv:zQ n.neg n.limbs=true)(hdv:zQ d.neg d.limbs=true)
  (hQ:∀t' g rv,aA t t'->bA t' 1 (eD g) rv->mB 65536 g->norm g->val 65536 g=Nat.gcd (val 65536 n.limbs) (val 65536 d.limbs)->Q (.tup [.agg [.bool false,rv],.int .i64 0]) t'):Wc yA F 155 [.agg [.bool n.neg,u],.agg [.bool d.neg,v]] t Q:=by
 have hBB:=tO
 refine w155 ?_
 simp only[uB,uG,gC,uZ,aI,eK,t155,pA];intro b hb hbase;obtain⟨t1,g1,g2,g3,g4⟩:=Ep (C:=yA) (T:=229) (el:=43) (sz:=2) (n:=2) (cl:=[[.bool n.neg,u],[.bool d.neg,v]]) (ps:=[(0,.agg [.bool n.neg,u]),(1,.agg [.bool d.neg,v])]) zgi rfl ty43 rfl rfl (by decide) rfl (fun i cs hi=>by
  grind) rfl hb
 rw[g1,sA];have hw:bA t1 2 ([n,d].map tJ.d) (.slice b 0 2 2):=⟨_,g2,by
  simp only[ycm,List.map_nil,dC,wF];refine⟨_,_,rfl,?_,_,_,rfl,?_,rfl⟩
  ·unfold tJ.d
   rw[oI];refine⟨[[.bool n.neg],[u]],rfl,?_⟩
   simp only[dC,wF,dU,pM];exact⟨_,_,rfl,rfl,_,_,rfl,⟨u,rfl,hu.mono g3⟩,rfl⟩
  ·unfold tJ.d
   rw[oI];refine⟨[[.bool d.neg],[v]],rfl,?_⟩
   simp only[dC,wF,dU,pM];exact⟨_,_,rfl,rfl,_,_,rfl,⟨v,rfl,hv.mono g3⟩,rfl⟩⟩
 have hall:=NK hw (fun w hw=>by
  grind) (by simp)
 rw[q162,hall];simp only[sA,Cn,Xr,ycg,yck,hnv,hdv,Bool.and_self,Bool.true_eq_false,if_false];rw[q164];refine Pv (hu.mono g3) (by omega) hnl fun t2 v2 k1 k2=>?_
 rw[yab hv.same,q164];refine Pv ((hv.mono g3).mono k1) (by omega) hdl fun t3 v3 m1 m2=>?_
 have an:=Nc hnl
 have ad:=Nc hdl
 rw[<- hBB]at an ad;rw[q163];refine cd_ok (k2.mono m1) m2 an ad (Lg (GJ hnv)) (Lg (GJ hdv)) (by rw[eS];omega) (by rw[eS];omega) fun t4 r rv p1 p2 p3 p4 p5=>?_
 rw[hBB]at p3;have vn:∀l,val BB (qH l)=val 65536 l:=fun l=>by grind [Tx]
 rw[vn,vn]at p5;have hrl:r.length<400000:=by
  have hB1:1<BB:=by omega
  rcases yav (val 65536 n.limbs)with h0 | h0
  ·rw[h0,Nat.gcd_zero_left,<- vn]at p5
   have:=jR hB1 ad p4 (Nat.le_of_eq p5)
   grind [eS]
  ·have h1:=Nat.gcd_le_left (val 65536 d.limbs) h0
   rw[<- p5,<- vn]at h1;have:=jR hB1 an p4 h1
   grind [eS]
 rw[q141];refine Uc p2 hrl p3 fun t5 v5 s1 s2=>?_
 rw[Kc p4]at s2 ⊢
 have eG:jJ [(.bool false),.nilslice] (.agg [.bool (if r=[]then false else false),v5])=some (cellsOf [.bool (if r=[]then false else false),v5]):=cQ (by
  show(true&&(cZ .nilslice v5&&true))=true
  rw[Zo s2];rfl)
 rw[eG];have hone:fB zA.one [.bool false,v5]=true:=by
  show(bif zA.one (.bool false)then(bif zA.one v5 then true else false)else false)=true
  rw[s2.one];rfl
 simp only[sA,cellsOf,Im,Jt,yaz,yba,ite_self,hone,if_true];refine hQ t5 (eE (mH r)) v5 (g3.trans (k1.trans (m1.trans (p1.trans s1)))) s2 (mT (Tf p3)) (mV _) ?_
 rw[wV,<- p5,Ny,hBB]
end Go.Proofs
namespace Go.Am
def vH.fit(f:vH):Prop:=f.ok/\mB 65536 f.n.limbs/\mB 65536 f.d.limbs
def oG.fit(v:oG):Prop:=v.kind<256/\v.f.fit /\ -9223372036854775808<=v.i/\v.i<9223372036854775808
mutual
def fA.fit:fA->Prop
 | .mk op name v args=>op<256/\name.length<rM/\(∀c∈name,c<256)/\v.fit/\args.length<rM/\fA.fits args
def fA.fits:List fA->Prop
 | []=>True
 | x::l=>x.fit/\fA.fits l
end
def i64 (n:Int):Prop := -9223372036854775808<=n/\n<9223372036854775808
def lG.fit(r:lG):Prop:=i64 r.a/\i64 r.b/\i64 r.known/\r.f.fit
def pG.fit(x:pG):Prop:=x.name.length<rM/\x.rows.length<rM/\∀r∈x.rows,r.fit
def bF.fit(x:bF):Prop:=x.name.length<rM/\x.kind<256
def lE.fit(x:lE):Prop:=x.name.length<rM/\x.label.length<rM/\i64 x.from_/\i64 x.to/\i64 x.known/\x.when_.fit/\x.then_.fit
structure pD.fit (p:pD):Prop where
 name:p.name.length<rM
 ndefs:p.defs.length<rM
 ntables:p.tables.length<rM
 nclauses:p.clauses.length<rM
 defs:∀d∈p.defs,d.fit
 tables:∀d∈p.tables,d.fit
 clauses:∀d∈p.clauses,d.fit
end Go.Am
namespace Go.Proofs
open Go Go.Am
variable {a b:Int}{f:vH}{u v:zA}
variable [eC]
variable {t:Tr vA}
def Za(w:tJ):Bool := !w.neg&&decide (w.limbs=[1])
def Jo(f:vH):Bool:=decide (f.n.limbs.length<=256)&&decide (f.d.limbs.length<=256)&&zQ f.n.neg f.n.limbs&&zQ f.d.neg f.d.limbs && !f.d.neg&&decide (f.d.limbs≠[])&&(Za f.d||decide (Nat.gcd (val 65536 f.n.limbs) (val 65536 f.d.limbs)=1))
theorem fC  : iB a b=decide (a<b):=by
 grind [jF]
theorem bR  : bG a b=decide (a<=b):=by
 grind [aK]
theorem sF  : tC a b=decide (a=b):=by
 grind [nJ]
theorem OZ  (hu:bA t 1 (eD f.n.limbs) u)(hv:bA t 1 (eD f.d.limbs) v)(hf:vH.fit f):wC yA F 145 [.agg [.bool f.n.neg,u,.bool f.d.neg,v]] t=some (.bool (Jo f)):=by
 obtain⟨h1,h2,h3⟩:=hf
 unfold vH.ok rM at h1;have c1:wC yA F 144 [.agg [.bool f.n.neg,u,.bool f.d.neg,v]] t=some (.bool (!(decide (f.n.limbs.length<=256)&&decide (f.d.limbs.length<=256)))):=by
  refine bD.2 (w144 ?_)
  simp only[uI,gI,t144,pA,hu.len,hv.len,sA,yC,qT];grind [jF]
 have c2:=Gi (neg:=f.n.neg) (by omega) hu
 have c3:=Gi (neg:=f.d.neg) (by omega) hv
 have c4:wC yA F 157 [.agg [.bool f.n.neg,u,.bool f.d.neg,v]] t=some (.bool (Za f.d)):=by
  refine bD.2 (w157 ?_)
  simp only[uB,t157,pA,q158,JD hv,sA,Cn]; (first | exact⟨rfl,rfl⟩ | exact⟨rfl,trivial⟩ | trivial)
 refine Bk (w145 ?_)
 simp only[uI,uB,uG,oC,gI,eK,t145,pA,q144,c1,q123,c2,c3,q157,c4,sA,Cn,hv.len,yC,qT,nJ,Xr];unfold Jo;by_cases g1:f.n.limbs.length<=256
 ·by_cases g2:f.d.limbs.length<=256
  ·simp only[g1,g2,decide_true,ycn,Bool.not_true,ybq,if_false]
   cases hn:zQ f.n.neg f.n.limbs with
   | false=>simp
   | true=>
    cases hd:zQ f.d.neg f.d.limbs with
    | false=>simp
    | true=>
     simp only[Bool.true_eq_false,if_false,ycn]
     cases hg:f.d.neg with
     | true=>simp
     | false=>
      simp only[ybq,if_false,ycl,ycn];by_cases h0:f.d.limbs=[]
      ·simp_all
      ·have:f.d.limbs.length≠0:=fun e=>h0 (ycc.1 e)
       rw[yaa (by omega)]
       simp only[h0,ne_eq,not_false_eq_true,decide_true,ycn]
       cases ho:Za f.d with
       | true=>simp
       | false=>
        simp only[ybq,if_false,Bool.false_or];rw[q142];refine w142 ?_
        simp only[uI,uG,gC,uX,aI,eK,t142,pA,q155];have hn':=hn
        have hd':=hd
        rw[hg]at hd'
        refine zfo (n:=f.n) (d:=⟨false,f.d.limbs⟩) hu hv (by omega) (by grind) h2 h3 hn' hd' fun t' g rv k1 k2 k3 k4 k5=>?_
        have eG:jJ [(.bool false),.nilslice] (.agg [.bool false,rv])=some (cellsOf [.bool false,rv]):=cQ (by
         show(true&&(cZ .nilslice rv&&true))=true
         rw[Zo k2];rfl)
        have hone:fB zA.one [.bool false,rv]=true:=by
         show(bif zA.one (.bool false)then(bif zA.one rv then true else false)else false)=true
         rw[k2.one];rfl
        simp only[yH,zA.asTup,qA,xH,yaz,yba,sA,yC,eG,cellsOf,Im,Jt,hone,if_true];rw[q158,JD k2];simp only[sA,Cn,ycl,ycn]
        refine⟨?_,k1⟩
        congr 1
        rw[decide_eq_decide,<- k5];constructor
        ·intro e;subst e;rfl
        ·intro e
         exact GK (B:=65536) (by decide) k3 (fun x hx=>by grind) k4 (fun _=>by simp) (by rw[e];rfl)
  grind
 grind
theorem NV  (hu:bA t 1 (eD f.n.limbs) u)(hv:bA t 1 (eD f.d.limbs) v)(hf:vH.fit f):wC yA F 126 [.agg [.bool f.n.neg,u,.bool f.d.neg,v]] t=some (.bool (Jo f)):=by
 refine bD.2 (w126 ?_)
 simp only[uB,t126,pA,q145,OZ hu hv hf,sA,Cn,if_true];simp_all
end Go.Proofs
namespace Go.Proofs
open Go Go.Am
variable {s:List Nat}{k:Nat}
variable [eC]
variable {t:Tr vA}
def Wh{a b:List Nat}(h:a.length+b.length<4611686018427387904):mX a b=some (.str (a++b)):=by
 unfold mX;rw[oD,oD,qC.2 h,iG];rfl
theorem Oz  (h:k<=s.length):vG yA 9 yN (.str s) (some (.int .i64 (k:Int))) none=some (.str (s.drop k)):=by
 unfold vG gN;rw[sP,qA];simp only[zA.asStr];rw[show jE.isString .string=true from rfl,yE];unfold Kg dQ Aj jW;grind [vN,qA,zA.asNat,zA.asInt,oD,oE,yE,iR,mP,List.take_length]
theorem Dq  (h:k<=s.length):vG yA 9 yN (.str s) none (some (.int .i64 (k:Int)))=some (.str (s.take k)):=by
 unfold vG gN;rw[sP,qA];simp only[zA.asStr];rw[show jE.isString .string=true from rfl,yE];unfold Kg dQ Aj jW;have e:vN (k:Int)=some k:=rfl
 simp only[qA,zA.asNat,zA.asInt,e,oD,oE.2 h,oE.2 (yaw _),yE,iR,mP,ycr]
end Go.Proofs
namespace Go.Am
open Go Go.RowKit
section
variable {t tf:Tr vA}{C:oA}
theorem lA.pushL{T el sz n:Nat}(hT:eJ C T el sz){A B:List kD}{l:List D}{d:D}{cs:List zA}{v x:zA}(h:lA C.base tf t (A++bB C.base sz l v::B))(hx:sM t sz x [cs])(hd:RD tf d cs)(hone:∀a∈cs,zA.one a=true)(hl:l.length<300000)(hn:t.get n=none)(hbase:C.base<=n) :
  ∃v2 k t2,gE C T T v x ⟨n,t⟩=some (v2,⟨k,t2⟩)/\lA C.base tf t2 (A++bB C.base sz (l++[d]) v2::B):=by
 have hv:eL C.base tf t sz l v:=h.ok (bB C.base sz l v) (by simp)
 obtain⟨t2,c1,c2,c3,c4⟩:=Td hT (m:=[d]) hv hx (dC.2 ⟨cs,[],rfl,hd,wF.2 rfl⟩) (by simp_all) (by simp) (by grind) hn hbase h.tle
 grind [lA.upd,bB,sZ,aG]
end
end Go.Am
namespace Go.Am
open Go Go.RowKit
section
section
variable {t tf tf0:Tr vA}{C:oA}
mutual
theorem RD.ones:∀(d:D) (cs:List zA),RD t d cs->∀a∈cs,zA.one a=true
 | .int _ _,cs,h,a,ha=>by rw[RD]at h;subst h;simp at ha;subst ha;rfl
 | .bool _,cs,h,a,ha=>by rw[RD]at h;subst h;simp at ha;subst ha;rfl
 | .str _,cs,h,a,ha=>by rw[RD]at h;subst h;simp at ha;subst ha;rfl
 | .sl sz l,cs,h,a,ha=>by
  rw[pM]at h;obtain⟨v,rfl,h⟩:=h
  simp at ha;subst ha;exact h.one
 | .st l,cs,h,a,ha=>by
  rw[oI]at h;obtain⟨cl,rfl,h⟩:=h
  exact wD.ones l cl h a ha
theorem wD.ones:∀(l:List D) (cl:List (List zA)),wD t l cl->∀a∈cl.flatten,zA.one a=true
 | [],cl,h,a,ha=>by grind [wD]
 | d::l,cl,h,a,ha=>by
  rw[wD]at h;obtain⟨c,r,rfl,h1,h2⟩:=h
  rw[yas,yaf]at ha;rcases ha with ha | ha
  ·exact RD.ones d c h1 a ha
  ·exact wD.ones l r h2 a ha
end
theorem RD.all{d:D}{cs:List zA}(h:RD t d cs):fB zA.one cs=true:=by
 grind [jH,RD.ones]
theorem RD.mk{d:D}{cs zs:List zA}(h:RD t d cs)(hz:d.zs=zs):kM zs (cellsOf cs) 0=cs:=by
 have:=KC zs cs [] (by grind [Zn])
 simp_all
theorem lit1{S el sz b:Nat}{cs:List zA}(hT:eJ C S el sz)(hc:cs.length=sz)(hs:sz<1000000)(hb:t.get b=none) :
  ∃t',cC C S 1 [(0,.agg cs)] ⟨b,t⟩=some (.slice b 0 1 1,⟨b+1,t'⟩)/\sM t' sz (.slice b 0 1 1) [cs]/\aA t t'/\fF b t t':=by
 obtain⟨⟨y,hy1,hy2,_⟩,⟨z,hz1,hz2,hz3,_,_⟩⟩:=hT
 refine Ep (n:=1) (cl:=[cs]) hy1 hy2 hz1 hz2 hz3 (by omega) ?_ (fun i q hq=>?_) rfl hb
 ·have e:tI z.zero 1=z.zero:=by show fD z.zero []=z.zero;rw[iG,ycd]
  rw[e];unfold kK yT;have e1:(zA.agg cs).cells=cs:=rfl
  grind [oD,qA,iR,mP,iG,mC,oE,yE,kK]
 grind
def Cj(C:oA)(S el g p:Nat)(zs:List zA)(v0 v:zA)(i:Int):T:=
 .opt (pC v0) fun a0=>.asI .i64 a0 fun n1=>.ite (iB i n1)
  (.opt (xC C S v0 (.int .i64 i)) fun a2=>.light (fun m=>mA C el ⟨0,m⟩ a2) fun a3=>.asG zs a3 fun X=>
   .call g [.agg (kM zs X 0)] fun a5=>.asG zs a5 fun Y=>
   .ite (fB zA.one (kM zs Y 0)) (.heavy (cC C S 1 [(0,.agg (kM zs Y 0))]) fun a7=>.heavy (gE C S S v a7) fun a8=>.jump p [v0,a8,.int .i64 (cA .i64 (i+1))]) .fail)
  (.ret v)
def cU(base:Nat)(W:kE)(g:Nat)(d:D):Prop:=∀ ⦃L:List kD⦄ ⦃tf t:Tr vA⦄ ⦃cs:List zA⦄ ⦃Q:sB⦄,lA base tf t L->RD tf d cs->(∀tf' t' cs',aA tf tf'->lA base tf' t' L->RD tf' d cs'->Q (.agg cs') t')->W g [.agg cs] t Q
def Tn(base:Nat)(tf:Tr vA)(L:List kD)(sz:Nat)(l:List D)(Q:sB):Prop:=∀tf' t' v,aA tf tf'->lA base tf' t' L->bA tf' sz l v->Q v t'
theorem YC{W J:kE}{S el sz g p:Nat}(hT:eJ C S el sz)(hS:zH C S el sz true)(hsz:sz<1000000){zs:List zA}{L:List kD}{ds:List D}{v0:zA}{Q:sB}
  (hz:∀d∈ds,d.zs=zs) (hg:∀d∈ds,cU C.base W g d) (hlen:ds.length<300000)
  (hj:∀v i t,pA C.base W J (Cj C S el g p zs v0 v i) t Q->J p [v0,v,.int .i64 i] t Q) (hQ:Tn C.base tf0 L sz ds Q) (h0:bA tf0 sz ds v0) :
  ∀(m i:Nat) (tf t:Tr vA) (v:zA),i+m=ds.length->aA tf0 tf->lA C.base tf t (bB C.base sz (ds.take i) v::L)->J p [v0,v,.int .i64 (i:Int)] t Q:=by
 intro m;induction m with
 | zero=>
  intro i tf t v hi hf ho;refine hj _ _ _ ?_
  simp only[Cj,pA];rw[h0.len,sA,yC,sA,yaa (fun e=>by grind [jF])]
  rw[yca (by omega)]at ho
  obtain⟨tf',k1,k2,k3⟩:=lA.freezeL (A:=[]) ho
  exact hQ tf' t v (hf.trans k1) k2 k3
 | succ m ih=>
  intro i tf t v hi hf ho;have hlt:i<ds.length:=by omega
  have hd:ds[i]?=some ds[i]:=ybd hlt
  have hm:ds[i]∈ds:=ycj hlt
  obtain⟨b,off,cs,g1,g2,g3,g4,g5⟩:=zH.at (t:=tf) hS (by simp) (h0.mono hf) hd
  have g1':=g1
  obtain⟨b',off',cs',f1,f2,f3,f4,f5⟩:=zH.at (t:=t) hS (by simp) (h0.mono (hf.trans ho.tle)) hd
  rw[g1]at f1;cases f1
  have ecs:cs'=cs:=by
   obtain⟨c,n,lo,q1,q2⟩:=g3
   obtain⟨c',n',lo',q3,q4⟩:=f3
   rw[ho.tle _ _ q1]at q3
   cases q3
   refine List.ext_getElem? fun j=>?_
   grind
  subst ecs;refine hj _ _ _ ?_
  simp only[Cj,pA];rw[h0.len,sA,yC,sA,yab (jF.2 (by omega)),g1,sA,f2,sA]
  have hzz:=hz _ hm
  show vE (jJ zs (.agg cs')) _
  rw[vL g5 hzz,sA,g5.mk hzz];refine hg _ hm ho g5 fun tf' t' cs2 k1 k2 k3=>?_
  rw[vL k3 hzz,sA,k3.mk hzz,yab k3.all];intro n hn _;have hl2:cs2.length=sz:=by
   have e1:=g5.mk hzz
   have e2:=k3.mk hzz
   have key:∀(zs:List zA) (X Y:kG) (j:Nat),(kM zs X j).length=(kM zs Y j).length:=by
    intro zs;induction zs with
    | nil=>intro X Y j;rfl
    | cons z zs ih=>
     intro X Y j;show(El z X j::kM zs X (j+1)).length=(El z Y j::kM zs Y (j+1)).length
     rw[ybn,ybn,ih X Y (j+1)]
   grind
  obtain⟨t1,a1,a2,a3,a4⟩:=lit1 (C:=C) hT hl2 hsz hn
  rw[a1,sA];intro n2 hn2 hb2;obtain⟨v2,k,t2,c1,c2⟩:=lA.pushL (A:=[]) (n:=n2) hT (k2.junk hn a4) a2 k3 (RD.ones _ _ k3) (by grind) hn2 hb2
  rw[c1,sA,iC (by omega) (by omega)]
  have e:ds.take i++[ds[i]]=ds.take (i+1):=by simp_all
  rw[e]at c2;exact ih (i+1) tf' t2 v2 (by omega) (hf.trans k1) c2
def LM{W J:kE}{S el sz g p:Nat}(hT:eJ C S el sz)(hS:zH C S el sz true)(hsz:sz<1000000){zs:List zA}{L:List kD}{ds:List D}{v0:zA}{Q:sB}
  (hz:∀d∈ds,d.zs=zs) (hg:∀d∈ds,cU C.base W g d) (hlen:ds.length<300000)
  (hj:∀v i t,pA C.base W J (Cj C S el g p zs v0 v i) t Q->J p [v0,v,.int .i64 i] t Q) (hQ:Tn C.base tf L sz ds Q) (h0:bA tf sz ds v0) (ho:lA C.base tf t L):J p [v0,.nilslice,.int .i64 0] t Q:=by
 refine YC hT hS hsz hz hg hlen hj hQ h0 ds.length 0 tf t .nilslice (by omega) (aA.refl _) ?_
 rw[List.take_zero];exact lA.add (A:=[]) (o':=bB C.base sz ([]:List D) .nilslice) ho (fun _ _=>rfl) (fun k hk=>by simp[bB,aG]at hk) (.inl ⟨rfl,rfl⟩) (by simp[bB,aG]) ho.tle
theorem zc7{W J:kE}{S el sz:Nat}(hT:eJ C S el sz){L:List kD}{l:List D}{x:zA}{Q:sB}(hx:bA tf sz l x)(ho:lA C.base tf t L)(hl:l.length<1000000)(hQ:Tn C.base tf L sz l Q) :
  pA C.base W J (.heavy (gE C S S .nilslice x) fun a0=>.ret a0) t Q:=by
 simp only[pA];intro n hn _;obtain⟨v,k,t',tf',a1,a2,a3,a4,a5,a6,a7⟩:=ZQ hT hx ho.tle hl hn
 rw[a1,sA];refine hQ tf' t' v a3 (ho.keep a3 a4 fun k hk=>?_) a2
 have hne:k≠n:=fun e=>by
  obtain⟨y,hy⟩:=ho.live hk
  simp_all
 exact⟨a6 k hne,by rw[a7 k hne];exact(ho.low k hk).2⟩
end
end
section
variable {k v:zA}{b n:Nat}{l:List (zA × zA)}
section
variable {C:oA}{t:Tr vA}
def Hl(C:oA)(T:Nat)(k:zA):Bool:=
 match ob (C.tys.get T) fun ty=>ob ty.desc.asMap fun ke=>ob (C.tys.get ke.1) fun kty=>xB (qU C kty&&dR C kty k) (some ())with | some _=>true | none=>false
theorem IW{T:Nat} (h:Hl C T k=true):∃ty ke kty,C.tys.get T=some ty/\ty.desc.asMap=some ke/\C.tys.get ke.1=some kty/\qU C kty=true/\dR C kty k=true:=by
 grind [Hl,tA,wB]
theorem zgh{T:Nat} {l':List (zA × zA)}(hk:Hl C T k=true)(hb:C.base<=b)(hm:t.get b=some (.map l))(hs:fN k v l=some l') :
  kS C T (.map b) k v ⟨n,t⟩=some (dD,⟨n,t.set b (.map l')⟩):=by
 obtain⟨ty,ke,kty,h1,h2,h3,h4,h5⟩:=IW hk
 have e2:(!Nat.blt b C.base)=true:=by
  grind [qC]
 have e3:yL ⟨n,t⟩ b=some l:=by unfold yL;rw[hm];rfl
 unfold kS;rw[h1,qA,h2,qA,h3,qA,h4,yE];simp only[zA.asMap,qA];rw[e2,yE,e3,qA,h5,yE,hs];rfl
theorem zb7{T:Nat}  (hk:Hl C T k=true)(hm:t.get b=some (.map l))(hs:zL k l=some (some v)){ty:lD}(hT:C.tys.get T=some ty){ke:Nat × Nat}(hd:ty.desc.asMap=some ke){ety:lD}(he:C.tys.get ke.2=some ety)(ok:Bool) :
  oX C T ⟨n,t⟩ (.map b) k ok=some (bif ok then .tup [v,.bool true]else v):=by
 obtain⟨ty,ke,kty,h1,h2,h3,h4,h5⟩:=IW hk
 rw[hT]at h1;cases h1;rw[hd]at h2;cases h2;have e3:yL ⟨n,t⟩ b=some l:=by unfold yL;rw[hm];rfl
 unfold oX;rw[hT,qA,hd,qA,h3,qA,h4,yE,he,qA];have e4:kV ⟨n,t⟩ (.map b)=some l:=by grind [kV,zA.asMap]
 rw[e4,qA,h5,yE,hs,qA]
end
end
end Go.Am
namespace Go.Proofs
open Go Go.Am
def gM(n:Nat):Bool:=(decide (65<=n)&&decide (n<=90))||(decide (97<=n)&&decide (n<=122))
def nD(n:Nat):Bool:=decide (48<=n)&&decide (n<=57)
def eI(n:Nat):Bool:=gM n||nD n||decide (n=95)
def uD (p:Nat->Bool)(s:List Nat):List Nat:=s.takeWhile p
def resW:Nat->List Nat
 | 2=>[32,116,111,32,105,115,32,97,116,32,105,102,32,111,114,32,117,112,32]
 | 3=>[32,100,101,102,32,114,111,119,32,111,110,101,32,116,119,111,32,101,110,100,32,111,102,102,32,104,97,115,32,109,105,110,32,109,97,120,32,97,110,100,32,110,111,116,32]
 | 4=>[32,112,108,97,110,32,102,97,99,116,32,102,114,111,109,32,119,104,101,110,32,116,104,101,110,32,100,97,116,101,32,100,97,121,115,32,116,114,117,101,32,108,111,111,107,32,98,101,115,116,32,103,114,111,119,32,100,111,119,110,32,99,101,105,108,32,104,97,108,102,32,101,118,101,110,32]
 | 5=>[32,116,97,98,108,101,32,107,110,111,119,110,32,116,114,117,116,104,32,109,111,110,101,121,32,102,97,108,115,101,32,109,105,110,117,115,32,116,111,100,97,121,32,114,111,117,110,100,32,115,116,97,114,116,32,102,108,111,111,114,32]
 | 6=>[32,99,108,97,117,115,101,32,110,117,109,98,101,114,32,109,111,110,116,104,115,32]
 | 7=>[32,98,101,116,119,101,101,110,32,115,101,114,118,105,99,101,32]
 | _=>[]
def Wr(s:List Nat):Bool:=decide (2<=s.length)&&decide (s.length<=7)&&qG (uD gM s) s&&Ag ([32]++s++[32]) (resW s.length)
def Qn(s:List Nat):Bool:=match s with
 | []=>false
 | x::r=>decide ((x::r).length<=24)&&gM x&&qG (uD eI (x::r)) (x::r) && !Wr (x::r)
structure uC where
 kind:Nat
 text:List Nat
 line:Nat
 col:Nat
def rD (s:List Nat):Nat:=s.foldl (fun n b=>n*10+(b-48)) 0
def jK(i b:Nat):Bool:=if i=4\/i=7 then decide (b=45)else nD b
def wH(s:List Nat):Bool:=decide (10<=s.length)&&(List.range 10).all fun i=>jK i (s.getD i 0)
def Lr(y:Nat):Bool:=decide (y%4=0)&&(decide (y%100≠0)||decide (y%400=0))
def Ln:List Nat:=[31,28,31,30,31,30,31,31,30,31,30,31]
def hO(y m:Nat):Nat:=if m<1\/12<m then 0 else if m=2/\Lr y=true then 29 else Ln.getD (m-1) 0
def mQ(y:Nat):Nat:=y / 4-y / 100+y / 400
def Gp(y:Nat):Nat->Nat
 | 0=>0
 | k+1=>Gp y k+hO y (k+1)
def vQ(m:Nat):Nat:=365*(m / 12)+mQ (1899+m / 12)-mQ 1899+Gp (1900+m / 12) (m%12)
def Fj (y m d:Nat):Option Nat:=if y<1900\/2079<y\/d<1\/hO y m<d then none else if vQ (12*(y-1900)+m-1)+d-1<65536 then some (vQ (12*(y-1900)+m-1)+d-1)else none
def Ae (s:List Nat):Option Nat:=Fj (rD (s.take 4)) (rD ((s.take 7).drop 5)) (rD (s.drop 8))
def oR(s:List Nat):Bool:=decide (1<s.length)&&decide (s.head?=some 48)
def Ly(b:Nat):Bool:=[40,41,44,43,45,42,47,60,61].contains b
inductive TR where
 | bad (e:Nat)
 | tok (kind:Nat) (text:List Nat)
def xD(s:List Nat):List Nat:=uD nD s
def zF(s:List Nat):List Nat:=if s[(xD s).length]?=some 47 then uD nD (s.drop ((xD s).length+1))else []
def yF(s:List Nat):Nat:=if zF s=[]then(xD s).length else(xD s).length+1+(zF s).length
def cO(s:List Nat)(n:Nat):Bool:=match s[n]? with | some b=>eI b | none=>false
def sI(s:List Nat):Bool:=decide (200<yF s)||cO s (yF s)||oR (xD s)||oR (zF s)||decide (zF s=[48])
def rN(s:List Nat):Bool:=(decide (10<s.length)&&cO s 10)||decide (Ae (s.take 10)=none)
def kF(s:List Nat):TR:=
 match s with
 | []=>.bad 110
 | b::_=>
  if gM b then(if 24<(uD eI s).length then .bad 111 else .tok 1 (uD eI s))
  else if nD b&&wH s then(if rN s then .bad 113 else .tok 3 (s.take 10))
  else if nD b then(if sI s then .bad 112 else .tok 2 (s.take (yF s)))
  else if Ly b then .tok 4 [b]else .bad 110
inductive LR where
 | ok (l:List uC)
 | er (e line col:Nat)
def LR.cons(t:uC):LR->LR
 | .ok l=>.ok (t::l)
 | .er e a b=>.er e a b
def endT (p:Nat × Nat):uC:=⟨5,[],p.1,p.2⟩
def LR.close(op:Option (Nat × Nat))(r:LR):LR:=match op with | some p=>r.cons (endT p) | none=>r
def iM:Nat->List Nat->Nat->Nat->Option (Nat × Nat)->LR
 | 0,_,_,_,_=>.ok []
 | _+1,[],_,_,op=>LR.close op (.ok [])
 | k+1,b::r,ln,cl,op=>
  if b=10 then LR.close op (iM k r (ln+1) 1 none)
  else if b=32\/b=9 then iM k r ln (cl+1) op
  else if b=35 then iM k ((b::r).drop (uD (fun x=>decide (x≠10)) (b::r)).length) ln (cl+(uD (fun x=>decide (x≠10)) (b::r)).length) op
  else match kF (b::r)with
   | .bad e=>.er e ln cl
   | .tok kd w=>LR.cons ⟨kd,w,ln,cl⟩ (iM k ((b::r).drop w.length) ln (cl+w.length) (some (ln,cl+w.length)))
def jV (s:List Nat):LR:=iM (s.length+1) s 1 1 none
end Go.Proofs
namespace Go.Proofs
open Go Go.Am
section
abbrev Gg:List Nat:=[112,108,97,110]
abbrev Jm:List Nat:=[102,97,99,116]
abbrev wDef:List Nat:=[100,101,102]
abbrev zdp:List Nat:=[116,97,98,108,101]
abbrev Gf:List Nat:=[116,119,111]
abbrev wOne:List Nat:=[111,110,101]
abbrev wRow:List Nat:=[114,111,119]
abbrev Jn:List Nat:=[99,108,97,117,115,101]
abbrev wAt:List Nat:=[97,116]
abbrev Tu:List Nat:=[116,111,100,97,121]
abbrev wHas:List Nat:=[104,97,115]
abbrev wTrue:List Nat:=[116,114,117,101]
abbrev zdr:List Nat:=[102,97,108,115,101]
abbrev zdq:List Nat:=[109,111,110,101,121]
abbrev bI:List Nat:=[109,105,110,117,115]
abbrev xV:List Nat:=[100,97,121,115]
abbrev mY:List Nat:=[109,111,110,116,104,115]
abbrev wLook:List Nat:=[108,111,111,107]
abbrev wMin:List Nat:=[109,105,110]
abbrev wMax:List Nat:=[109,97,120]
abbrev zay:List Nat:=[98,101,116,119,101,101,110]
abbrev wIf:List Nat:=[105,102]
abbrev wRound:List Nat:=[114,111,117,110,100]
abbrev zax:List Nat:=[115,101,114,118,105,99,101]
abbrev wGrow:List Nat:=[103,114,111,119]
abbrev wBest:List Nat:=[98,101,115,116]
abbrev zgd:List Nat:=[110,117,109,98,101,114]
abbrev wStart:List Nat:=[115,116,97,114,116]
abbrev Nw:List Nat:=[107,110,111,119,110]
abbrev wIs:List Nat:=[105,115]
abbrev wFrom:List Nat:=[102,114,111,109]
abbrev wTo:List Nat:=[116,111]
abbrev wEnd:List Nat:=[101,110,100]
abbrev wOff:List Nat:=[111,102,102]
abbrev wWhen:List Nat:=[119,104,101,110]
abbrev zgc:List Nat:=[116,104,101,110]
abbrev Au:List Nat:=[110,111,116]
abbrev wAnd:List Nat:=[97,110,100]
abbrev wOr:List Nat:=[111,114]
def aB (n:Nat):List Nat:=if n=0 then []else n%65536::aB (n / 65536)
decreasing_by omega
def qN (s:List Nat):List Nat:=uD (fun b=>decide (b≠47)) s
def zO (s:List Nat):List Nat:=s.drop ((qN s).length+1)
def oH(s:List Nat):Bool:=s.contains 47
def eM(neg:Bool)(n d:Nat):vH:=⟨⟨neg&&decide (0<n),aB (n / Nat.gcd n d)⟩,⟨false,aB (d / Nat.gcd n d)⟩⟩
def vI(s:List Nat)(neg:Bool):vH:=eM neg (rD (qN s)) (if oH s then rD (zO s)else 1)
def rH:vH:=⟨⟨false,[]⟩,⟨false,[]⟩⟩
def nM:oG:=⟨0,rH,0⟩
def kL (s:List Nat)(neg:Bool)(lo hi:Int):Option Int:=(fun n:Int=>if lo<=n/\n<=hi then some n else none) (if neg then -(rD s:Int)else rD s)
def lR(s:List Nat):Prop:=s.length<=200/\(∀b∈qN s,nD b=true)/\qN s≠[]/\oR (qN s)=false/\(oH s=true->zO s≠[]/\(∀b∈zO s,nD b=true)/\oR (zO s)=false/\zO s≠[48])
def Sl(s:List Nat):Prop:=s.length=10/\wH s=true/\∃n,Ae s=some n
def rP(t:uC):Prop:=(t.kind=2->lR t.text)/\(t.kind=3->Sl t.text)
inductive PR (α:Type) where
 | ok (a:α) (n:Nat)
 | er (e:Nat) (i:Nat)
def PR.bind{α β:Type}:PR α->(α->Nat->PR β)->PR β
 | .ok a n,f=>f a n
 | .er e i,_=>.er e i
abbrev PM(α:Type):=Nat->PR α
section
variable (tk:List uC)
def acc (w:List Nat)(n:Nat):Bool:=match tk[n]? with | some t=>(decide (t.kind=1)||decide (t.kind=4))&&qG t.text w | none=>false
def zD(k n:Nat):Bool:=match tk[n]? with | some t=>decide (t.kind=k) | none=>false
def fE(n:Nat):List Nat:=match tk[n]? with | some t=>t.text | none=>[]
def tE(k:Nat):PM (List Nat):=fun n=>if zD tk k n then .ok (fE tk n) (n+1)else .er 120 n
def rE (w:List Nat):PM Unit:=fun n=>if acc tk w n then .ok () (n+1)else .er 120 n
def sK(n:Nat):Bool:=zD tk 1 n&&Qn (fE tk n)
def rI:PM (List Nat):=fun n=>if sK tk n then .ok (fE tk n) (n+1)else .er 120 n
def bO:PM Int:=fun n=>(tE tk 3 n).bind fun t n=>.ok ((Ae t).getD 0:Nat) n
def iL(word:Nat->List Nat)(most:Nat):Nat->Nat->PM Nat
 | 0,_,n=>.er 120 n
 | k+1,i,n=>if most<i then .er 120 n else if acc tk (word i) n then .ok i (n+1)else iL word most k (i+1) n
def dJ(l:List (List Nat × Nat))(n:Nat):Option Nat:=(l.find? fun o=>acc tk o.1 n).map Prod.snd
def gW (op:Nat)(x y:fA):fA:=.mk op [] nM [x,y]
def unX (op:Nat)(w:List Nat)(x:fA):fA:=.mk op w nM [x]
def Sm(v:oG):fA:=.mk 1 [] v []
def iP(o:PM fA)(l:List (List Nat × Nat)):Nat->fA->PM fA
 | 0,x,n=>.ok x n
 | m+1,x,n=>match dJ tk l n with
  | none=>.ok x n
  | some op=>(o (n+1)).bind fun y n'=>iP o l m (gW op x y) n'
def gU(o:PM fA)(l:List (List Nat × Nat)):PM fA:=fun n=>(o n).bind fun x n'=>iP tk o l tk.length x n'
def Ps(o:PM fA):PM fA:=gU tk o [([42],9),([47],10)]
def Be (o:PM fA):PM fA:=gU tk (Ps tk o) [([43],7),([45],8)]
def Ih(o:PM fA):PM fA:=fun n=>(Be tk o n).bind fun x n1=>match dJ tk [([60],13),([61],14)] n1 with
 | none=>.ok x n1
 | some op=>(Be tk o (n1+1)).bind fun y n2=>.ok (gW op x y) n2
def dN:Nat->Nat->Nat
 | 0,_=>0
 | m+1,n=>if acc tk Au n then dN m (n+1)+1 else 0
def nY:Nat->fA->fA
 | 0,x=>x
 | k+1,x=>nY k (unX 17 [] x)
def Eg(o:PM fA):PM fA:=fun n=>(Ih tk o (n+dN tk tk.length n)).bind fun x n'=>.ok (nY (dN tk tk.length n) x) n'
def Mx(o:PM fA):PM fA:=gU tk (Eg tk o) [(wAnd,15)]
def xS(o:PM fA):PM fA:=gU tk (Mx tk o) [(wOr,16)]
def atP (o:PM fA)(op:Nat):PM fA:=fun n=>(rI tk n).bind fun w n1=>(rE tk wAt n1).bind fun _ n2=>(o n2).bind fun x n3=>.ok (unX op w x) n3
def cK(neg:Bool):PM oG:=fun n=>(tE tk 2 n).bind fun s n1=>
 if acc tk xV n1||acc tk mY n1 then
  (if oH s then .er 120 n1 else match kL s neg (-1048576) 1048576 with
   | none=>.er 121 n
   | some i=>.ok ⟨if acc tk xV n1 then 5 else 6,rH,i⟩ (n1+1))
 else .ok ⟨2,vI s neg,0⟩ n1
def Fk:PM (Option oG):=fun n=>
 if acc tk wTrue n then .ok (some ⟨1,rH,1⟩) (n+1)
 else if acc tk zdr n then .ok (some ⟨1,rH,0⟩) (n+1)
 else if zD tk 3 n then(bO tk n).bind fun d n1=>.ok (some ⟨4,rH,d⟩) n1
 else if acc tk zdq n then(fun(neg:Bool)=>(tE tk 2 (if neg then n+2 else n+1)).bind fun s n1=>.ok (some ⟨3,vI s neg,0⟩) n1) (acc tk bI (n+1))
 else if acc tk bI n then(cK tk true (n+1)).bind fun v n1=>.ok (some v) n1
 else if zD tk 2 n then(cK tk false n).bind fun v n1=>.ok (some v) n1
 else .ok none n
structure CF where
 word:List Nat
 op:Nat
 named:Bool
 least:Nat
 most:Nat
abbrev eQ:List CF:=[⟨wLook,6,true,1,2⟩,⟨wMin,11,false,2,2⟩,⟨wMax,12,false,2,2⟩,⟨zay,20,false,2,2⟩,⟨wIf,18,false,3,3⟩,⟨wRound,19,false,2,2⟩,⟨zax,21,true,2,2⟩,⟨wGrow,23,true,2,2⟩,⟨wBest,22,true,3,3⟩,⟨mY,24,false,1,1⟩,⟨zgd,25,false,1,1⟩,⟨wStart,26,false,1,1⟩]
def Bs(e:PM fA):Nat->List fA->PM (List fA)
 | 0,l,n=>.ok l n
 | k+1,l,n=>(rE tk [44] n).bind fun _ n1=>(e n1).bind fun x n2=>Bs e k (l++[x]) n2
def qV(e:PM fA):Nat->List fA->PM (List fA)
 | 0,l,n=>.ok l n
 | k+1,l,n=>if acc tk [44] n then(e (n+1)).bind fun x n2=>qV e k (l++[x]) n2 else .ok l n
def cS:Nat->List Nat
 | 1=>[100,111,119,110]
 | 2=>[117,112]
 | 3=>[102,108,111,111,114]
 | 4=>[99,101,105,108]
 | 5=>[104,97,108,102]
 | 6=>[101,118,101,110]
 | _=>[]
def Et:Nat->List Nat
 | 1=>[116,114,117,116,104]
 | 2=>[110,117,109,98,101,114]
 | 3=>[109,111,110,101,121]
 | 4=>[100,97,116,101]
 | 5=>[100,97,121,115]
 | 6=>[109,111,110,116,104,115]
 | _=>[]
def lW(e:PM fA):PM fA:=fun n=>match eQ.find? fun f=>acc tk f.word n with
 | none=>.er 120 n
 | some f=>(rE tk [40] (n+1)).bind fun _ n1=>
  (if f.named then(rI tk n1).bind fun w n2=>(rE tk [44] n2).bind fun _ n3=>.ok w n3 else .ok [] n1:PR (List Nat)).bind fun w n2=>
  (e n2).bind fun x n3=>(Bs tk e (f.least-1) [x] n3).bind fun l n4=>(qV tk e (f.most-f.least) l n4).bind fun l n5=>
  (if f.op=19 then(rE tk [44] n5).bind fun _ n6=>iL tk cS 6 6 1 n6 else .ok 0 n5:PR Nat).bind fun m n6=>
  (rE tk [41] n6).bind fun _ n7=>.ok (.mk f.op w ⟨0,rH,m⟩ l) n7
def tW(o:PM fA):PM fA:=fun n=>(Fk tk n).bind fun v n'=>match v with
 | some v=>.ok (Sm v) n'
 | none=>
  if acc tk [40] n' then(xS tk o (n'+1)).bind fun x n1=>(rE tk [41] n1).bind fun _ n2=>.ok x n2
  else if acc tk Tu n' then .ok (.mk 2 [] nM []) (n'+1)
  else if acc tk Jm n' then atP tk o 3 (n'+1)
  else if acc tk wHas n' then atP tk o 4 (n'+1)
  else if sK tk n' then atP tk o 5 n'
  else lW tk (xS tk o) n'
def nR:Nat->PM fA
 | 0,n=>.er 122 n
 | k+1,n=>tW tk (nR k) n
def oW:PM fA:=xS tk (nR tk 101)
def rT (fact:Bool):PM bF:=fun n=>(rI tk n).bind fun w n1=>(iL tk Et 6 6 1 n1).bind fun k n2=>.ok ⟨w,k,fact⟩ n2
def sU:PM Int:=fun n=>(fun(neg:Bool) (m:Nat)=>
 if !zD tk 2 m||oH (fE tk m)then .er 120 m else match kL (fE tk m) neg (-2147483648) 2147483647 with
  | none=>.er 121 m
  | some i=>.ok i (m+1)) (acc tk bI n) (if acc tk bI n then n+1 else n)
def kX (two:Bool):PM lG:=fun n=>(sU tk n).bind fun a n1=>
 (if two then sU tk n1 else .ok 0 n1:PR Int).bind fun b n2=>(rE tk Nw n2).bind fun _ n3=>(bO tk n3).bind fun d n4=>(rE tk wIs n4).bind fun _ n5=>
 (fun(neg:Bool)=>(tE tk 2 (if neg then n5+1 else n5)).bind fun s n6=>.ok ⟨a,b,d,vI s neg⟩ n6) (acc tk bI n5)
def wX:fA:=.mk 0 [] nM []
def nT:PM lE:=fun n=>(rI tk n).bind fun a n1=>(rI tk n1).bind fun b n2=>(rE tk wFrom n2).bind fun _ n3=>(bO tk n3).bind fun f n4=>(rE tk wTo n4).bind fun _ n5=>
 (if acc tk wEnd n5 then .ok 65536 (n5+1)else bO tk n5:PR Int).bind fun t n6=>(rE tk Nw n6).bind fun _ n7=>(bO tk n7).bind fun k n8=>
 if acc tk wOff n8 then .ok ⟨a,b,f,t,k,true,wX,wX⟩ (n8+1)else
 (rE tk wWhen n8).bind fun _ n9=>(oW tk n9).bind fun x n10=>(rE tk zgc n10).bind fun _ n11=>(oW tk n11).bind fun y n12=>.ok ⟨a,b,f,t,k,false,x,y⟩ n12
def Dm:PM pG:=fun n=>(rI tk n).bind fun w n1=>if acc tk Gf n1 then .ok ⟨w,true,[]⟩ (n1+1)else(rE tk wOne n1).bind fun _ n2=>.ok ⟨w,false,[]⟩ n2
def fP(l:List pG)(r:lG):List pG:=l.dropLast++(l.getLast?.map fun t=>(⟨t.name,t.two,t.rows++[r]⟩:pG)).toList
def Bv(l:List pG):Bool:=match l.getLast? with | some t=>t.two | none=>false
def jO(p:pD):PM pD:=fun n=>
 if acc tk Jm n then(rT tk true (n+1)).bind fun d n1=>.ok ⟨p.name,p.defs++[d],p.tables,p.clauses⟩ n1
 else if acc tk wDef n then(rT tk false (n+1)).bind fun d n1=>.ok ⟨p.name,p.defs++[d],p.tables,p.clauses⟩ n1
 else if acc tk zdp n then(Dm tk (n+1)).bind fun t n1=>.ok ⟨p.name,p.defs,p.tables++[t],p.clauses⟩ n1
 else if !p.tables.isEmpty&&acc tk wRow n then(kX tk (Bv p.tables) (n+1)).bind fun r n1=>.ok ⟨p.name,p.defs,fP p.tables r,p.clauses⟩ n1
 else if acc tk Jn n then(nT tk (n+1)).bind fun c n1=>.ok ⟨p.name,p.defs,p.tables,p.clauses++[c]⟩ n1
 else .er 120 n
def oJ:Nat->pD->PM pD
 | 0,p,n=>.ok p n
 | m+1,p,n=>if n<tk.length then(jO tk p n).bind fun p n1=>(tE tk 5 n1).bind fun _ n2=>oJ m p n2 else .ok p n
def pF:PR pD:=(rE tk Gg 0).bind fun _ n1=>(rI tk n1).bind fun w n2=>(tE tk 5 n2).bind fun _ n3=>oJ tk tk.length ⟨w,[],[],[]⟩ n3
end
end
section
variable {n:Nat}{s:List Nat}
variable [eC]
variable {t:Tr vA}
theorem iLe_d{a b:Int}:bG a b=decide (a<=b):=by
 grind [aK]
theorem Ri  : wC yA F 36 [.int .u8 (n:Int)] t=some (.bool (gM n)):=by
 refine bD.2 (w36 ?_)
 simp only[oC,gI,t36,pA,iLe_d,decide_eq_true_eq];grind [gM]
theorem Ma  : wC yA F 65 [.int .u8 (n:Int)] t=some (.bool (nD n)):=by
 refine bD.2 (w65 ?_)
 simp only[oC,t65,pA,iLe_d,decide_eq_true_eq];grind [nD]
theorem Zd  : wC yA F 38 [.int .u8 (n:Int)] t=some (.bool (eI n)):=by
 refine bD.2 (w38 ?_)
 simp only[uB,gI,uY,t38,pA,q36,Ri,sA,zA.asBool];unfold eI
 cases h:gM n with
 | true=>simp
 | false=>
  simp only[ybq,if_false,q65,Ma,sA,zA.asBool];grind [sF,decide]
def fM {i x:Nat}(h:s[i]?=some x):nI yA 9 (.str s) (.int .i64 (i:Int))=some (.int .u8 (x:Int)):=by
 unfold nI;rw[sP,qA];simp only[zA.asNat,zA.asInt,zA.asStr];have e:ob (some (i:Int)) vN=some i:=rfl
 rw[e,qA,show jE.isString .string=true from rfl,yE,xH,h,qA];rfl
theorem Pg{p:Nat->Bool}{g:Nat}(hg:∀n:Nat,wC yA F g [.int .u8 (n:Int)] t=some (.bool (p n)))(hq:∀ {a:List zA} {m:Tr vA} {R:sB},Wq yA F vC g a m R=vE (wC yA F g a m) (fun v=>R v m))(hy:Nat.blt g pn=true) (hs:s.length<4000000000000000000) :
  ∀(k i:Nat),i+k=s.length->(∀j x,j<i->s[j]?=some x->p x=true)->jp 37 2 [.str s,.func (.func g) [] [],.int .i64 (i:Int)] t (fun v t'=>v=.str (uD p s)/\t'=t):=by
 have key:∀i,i<=s.length->(∀j x,j<i->s[j]?=some x->p x=true)->(∀x,s[i]?=some x->p x=false)->uD p s=s.take i:=by
  intro i hi h1 h2;unfold uD;induction s generalizing i with
  | nil=>simp
  | cons a s ih=>
   cases i with
   | zero=>simp_all
   | succ i=>
    rw[List.takeWhile_cons,h1 0 a (by omega) rfl,yab rfl,List.take_succ_cons]
    rw[ih (by grind) i (by simp_all) (fun j x hj hx=>h1 (j+1) x (by omega) (by simp_all)) (fun x hx=>h2 x (by simp_all))]
 intro k;induction k with
 | zero=>
  intro i hi hp;refine j37_2 ?_
  simp only[uU,uB,uS,tD,uZ,uY,zg7,pA,jF,Qr];grind [Dq,sA,zA.asStr]
 | succ k ih=>
  intro i hi hp;have hx:s[i]?=some s[i]:=ybd (by omega)
  refine j37_2 ?_
  simp only[uU,uB,uS,tD,uZ,uY,zg7,pA,jF,Qr];rw[yab (by omega),fM hx,sA,yC,sA]
  have e:gL (.func (.func g) [] []) [.int .u8 (s[i]:Int)]=some (g,[.int .u8 (s[i]:Int)]):=by
   unfold gL;simp only[zA.asFunc,qA,hy,yE];rfl
  rw[e,sA];simp only[];rw[hq,hg,sA];simp only[zA.asBool,sA]
  cases hb:p s[i]with
  | true=>
   rw[yab rfl,iC (by omega) (by omega),show(i:Int)+1=((i+1:Nat):Int) by omega]
   refine ih (i+1) (by omega) fun j x hj hjx=>?_
   grind
  | false=>
   rw[yaa (by simp),Dq (by omega),sA]
   simp only[zA.asStr,sA];rw[key i (by omega) hp (fun x hx'=>by simp_all)]
   simp_all
def EJ (hs:s.length<4000000000000000000):wC yA F 37 [.str s,.func (.func 38) [] []] t=some (.str (uD eI s)):=by
 refine bD.2 (w37 ?_)
 simp only[uZ,t37,pA];exact Pg (fun n=>Zd) (fun {a m R}=>by rw[q38]) rfl hs s.length 0 (by omega) (fun j x hj=>by omega)
def zhe (hs:s.length<4000000000000000000):wC yA F 37 [.str s,.func (.func 36) [] []] t=some (.str (uD gM s)):=by
 refine bD.2 (w37 ?_)
 simp only[uZ,t37,pA];exact Pg (fun n=>Ri) (fun {a m R}=>by rw[q36]) rfl hs s.length 0 (by omega) (fun j x hj=>by omega)
def kJ (n:Nat):zA × zA:=(.int .i64 (n:Int),.str (resW n))
def AK{a b:List Nat}(h:a.length<4294967281):wC yA F 66 [.str a,.str b] t=some (.bool (Ag b a)):=by
 have hg:yA.prims.get 66=some (lO He):=by kernel_rfl
 refine Kx hg fun H=>?_
 unfold He;simp only[];rw[oD,qC.2 h];rfl
theorem RH (hs:s.length<4000000000000000000):wC yA F 39 [.str s] t=some (.bool (Wr s)):=by
 refine Bk (w39 ?_)
 simp only[uB,uS,oC,uZ,t39,pA,jF,Qr];unfold Wr;by_cases h1:2<=s.length
 ·rw[yaa (by omega)]
  by_cases h2:s.length<=7
  ·rw[yaa (by omega)]
   simp only[q37,zhe hs,sA,zA.asStr]
   cases h3:qG (uD gM s) s with
   | false=>simp
   | true=>
    simp only[Bool.not_true,ybq,if_false];intro b hb hbase;have hmk:Nz ⟨b,t⟩=some (.map b,⟨b+1,t.set b (.map [])⟩):=rfl
    rw[hmk,sA];simp only[];have h0:(t.set b (.map [])).get b=some (.map []):=by rw[Tr.get_set,yab rfl]
    have ho:fF b t (t.set b (.map [])):=fun c hc=>by rw[Tr.get_set,yaa hc]
    generalize t.set b (.map [])=t1 at h0 ho
    have hstep:∀(l:List (zA × zA)) (k:Nat) (s':List Nat) (l':List (zA × zA)) (Q:(zA × xA)->Prop) (t1:Tr vA),t1.get b=some (.map l)->fF b t t1->fN (.int .i64 (k:Int)) (.str s') l=some l'->Hl yA 135 (.int .i64 (k:Int))=true →
      (∀n t2,t2.get b=some (.map l')->fF b t t2->Q (dD,⟨n,t2⟩))->∀n,t1.get n=none->yA.base<=n->vE (kS yA 135 (.map b) (.int .i64 (k:Int)) (.str s') ⟨n,t1⟩) Q:=by
     intro l k s' l' Q t1 g1 g2 h1 h2 h3 n _ _;rw[zgh h2 hbase g1 h1,sA];exact h3 n _ (by rw[Tr.get_set,yab rfl]) fun c hc=>by rw[Tr.get_set,yaa hc];exact g2 c hc
    refine hstep [] 2 _ [kJ 2] _ t1 h0 ho rfl (by kernel_rfl) fun n t2 g o=>?_
    refine hstep _ 3 _ [kJ 2,kJ 3] _ t2 g o rfl (by kernel_rfl) fun n t2 g o=>?_
    refine hstep _ 4 _ [kJ 2,kJ 3,kJ 4] _ t2 g o rfl (by kernel_rfl) fun n t2 g o=>?_
    refine hstep _ 5 _ [kJ 2,kJ 3,kJ 4,kJ 5] _ t2 g o rfl (by kernel_rfl) fun n t2 g o=>?_
    refine hstep _ 6 _ [kJ 2,kJ 3,kJ 4,kJ 5,kJ 6] _ t2 g o rfl (by kernel_rfl) fun n t2 g o=>?_
    refine hstep _ 7 _ [kJ 2,kJ 3,kJ 4,kJ 5,kJ 6,kJ 7] _ t2 g o rfl (by kernel_rfl) fun n t2 g o=>?_
    have hle:aA t t2:=fun c u hc=>by
     have:c≠b:=fun e=>by simp_all
     rw[o c this];exact hc
    have hl:oX yA 135 ⟨0,t2⟩ (.map b) (.int .i64 (s.length:Int)) false=some (.str (resW s.length)):=by
     have hk:Hl yA 135 (.int .i64 (s.length:Int))=true/\zL (.int .i64 (s.length:Int)) [kJ 2,kJ 3,kJ 4,kJ 5,kJ 6,kJ 7]=some (some (.str (resW s.length))):=by
      have:s.length=2\/s.length=3\/s.length=4\/s.length=5\/s.length=6\/s.length=7:=by omega
      rcases this with e | e | e | e | e | e<;>rw[e]<;>exact⟨by kernel_rfl,rfl⟩
     exact zb7 hk.1 g hk.2 ty135 rfl sP false
    rw[hl,sA];simp only[zA.asStr,sA];rw[Wh (by grind),sA]
    simp only[zA.asStr,sA];rw[Wh (by grind),sA]
    simp only[zA.asStr,sA];have hr:(resW s.length).length<4294967281:=by
     have:s.length=2\/s.length=3\/s.length=4\/s.length=5\/s.length=6\/s.length=7:=by omega
     rcases this with e | e | e | e | e | e<;>rw[e]<;>decide
    rw[q66,AK hr,sA];simp only[zA.asBool,sA];refine⟨?_,hle⟩
    grind
  grind
 grind
theorem zhu  : wC yA F 13 [.str s] t=some (.bool (Qn s)):=by
 refine bD.2 (w13 ?_)
 simp only[uU,uB,uS,oC,uZ,uY,t13,pA,jF,Qr]
 cases s with
 | nil=>simp[Qn,uM]
 | cons x r=>
  have h0:qG (x::r) []=false:=by
   grind [uM]
  rw[h0];simp only[ybq,if_false];unfold Qn;by_cases h1:(x::r).length<=24
  ·rw[yaa (by omega)]
   have hx:=fM (s:=x::r) (i:=0) (x:=x) rfl
   rw[show((0:Nat):Int)=0 from rfl]at hx
   rw[hx,sA,yC,sA,q36,Ri,sA];simp only[zA.asBool,sA]
   cases h2:gM x with
   | false=>simp
   | true=>
    simp only[Bool.not_true,ybq,if_false];rw[q37,EJ (by omega),sA]
    simp only[zA.asStr,sA]
    cases h3:qG (uD eI (x::r)) (x::r)with
    | false=>simp
    | true=>
     simp only[if_true,q39,RH (s:=x::r) (by omega),sA,zA.asBool]
     simp_all
  grind
end
end Go.Proofs
