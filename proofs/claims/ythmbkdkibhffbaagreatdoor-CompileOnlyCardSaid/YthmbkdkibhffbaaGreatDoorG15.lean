/- The translator: add, and setting a target. -/
import Derived.Lib.ItoaLen
import Derived.Test.YthmbkdkibhffbaaGreatDoorG14
set_option linter.all false
noncomputable section
set_option maxRecDepth 100000
namespace Go.Proofs
open Go Go.Am
variable [dC]
variable {t tf:Tr jA}{key:aA->List Nat}{r:TR}{s:kE}
theorem el37:zK yA 37 54 3:=⟨⟨_,zrw,rfl,rfl⟩,⟨_,z2c,rfl,rfl,by decide,by decide⟩⟩
theorem z52{n:Nat}{i:XIns}(hn:t.get n=none):∃t',oF yA 37 1 [(0,.agg [.int .u8 i.op,.int .i64 i.a,.int .i64 i.b])] ⟨n,t⟩=some (.slice n 0 1 1,⟨n+1,t'⟩)/\sH t' 3 (.slice n 0 1 1) [i.cells]/\cA t t'/\kD n t t':=
 vP (C:=yA) (T:=37) (el:=54) (sz:=3) (n:=1) (cl:=[i.cells]) zrw rfl z2c rfl rfl (by decide) rfl (fun k cs hk=>by
  cases k with
  | zero=>simp at hk;subst hk;rfl
  | succ k=>simp at hk) rfl hn
def Tgt (tf:Tr jA)(b:Nat)(v:zA)(i:Nat):Prop:=∃n m,v=.func (.func 232) [] [.ptr n 0,.ptr m 0]/\xD tf n none [.ptr b 0]/\xD tf m none [.int .i64 (i:Int)]
theorem Tgt.mono{tf':Tr jA}{b i:Nat}{v:zA}(h:Tgt tf b v i)(hf:cA tf tf'):Tgt tf' b v i:=by
 obtain⟨n,m,rfl,⟨c,h1,h2⟩,⟨d,h3,h4⟩⟩:=h
 exact⟨n,m,rfl,⟨c,hf _ _ h1,h2⟩,⟨d,hf _ _ h3,h4⟩⟩
theorem qT{i:XIns}{Q:cB}(h:TS key tf t r s)(hl:s.code.length<300000)
  (hQ:∀tf' t' r' v,cA tf tf'->r'.b=r.b->r'.kp=r.kp->TS key tf' t' r' ⟨s.names,s.consts,s.ws,s.ts,s.code++[i]⟩->Tgt tf' r.b v s.code.length->Q v t'):Wc yA F 168 [.ptr r.b 0,.int .u8 i.op,.int .i64 i.a,.int .i64 i.b] t Q:=by
 refine w168 _ _ _ _ ?_
 simp only[t168,pA];intro n0 hn0 hb0;obtain⟨t1,a1,a2,a3,a4⟩:=zx3 (v:=.ptr r.b 0) hn0
 have h1:=h.junk hn0 a4
 have a2:xD t1 n0 none [.ptr r.b 0]:=a2
 have l0:∀t',t'.get n0=t1.get n0->mA yA 106 ⟨0,t'⟩ (.ptr n0 0)=some (.ptr r.b 0):=fun t' e=>(a2.off e).load1 ty106 rfl rfl
 rw[a1,xA,l0 t1 rfl,xA,xJ,xA,za3,xA,h1.ldK,xA,h1.lk.len,xA,yag,yB,xA];intro n1 hn1 hb1;obtain⟨t2,b1,b2,b3,b4⟩:=uT (C:=yA) ty3 hn1
 have h2:=h1.junk hn1 b4
 have ne01:n0≠n1:=by
  intro e;subst e;obtain⟨c,hc,_⟩:=a2
  rw[hc]at hn1;cases hn1
 rw[b1,xA];intro m2 _ _;obtain⟨t3,c1,c2,c3⟩:=b2.store1 (C:=yA) hb1 (j:=0) (v:=.int .i64 (s.code.length:Int)) ty3 rfl rfl rfl (by decide)
 have c2:xD t3 n1 none [.int .i64 (s.code.length:Int)]:=c2
 have h3:TS key tf t3 r s:=h2.other (h1.fresh hn1) (h1.os.tfn hn1) c3
 have e03:t3.get n0=t1.get n0:=by rw[c3 n0 ne01,b4 n0 ne01]
 rw[c1,xA,l0 t3 e03,xA];simp only[l0 t3 e03,xA,xJ,za3,h3.ldK,if_true];intro n3 hn3 hb3;obtain⟨t4,d1,d2,d3,d4⟩:=z52 (i:=i) hn3
 have h4:=h3.junk hn3 d4
 have ne03:n0≠n3:=by
  intro e;subst e;obtain⟨c,hc,_⟩:=a2
  rw[e03,hc]at hn3;cases hn3
 have ne13:n1≠n3:=by
  intro e;subst e;obtain⟨c,hc,_⟩:=c2
  rw[hc]at hn3;cases hn3
 have e04:t4.get n0=t1.get n0:=by rw[d4 n0 ne03,e03]
 rw[d1,xA];simp only[l0 t4 e04,xA,zn1,if_true,h4.ldK,h4.lk.same];intro n4 hn4 hb4;obtain⟨t5,f1,f2,f3,f4⟩:=fU (C:=yA) el37 (m:=[i.d]) h4.lk d2 (by
  rw[zE];exact⟨_,_,rfl,zoe.2 rfl,oE.2 rfl⟩) (by
  intro a ha;simp only[XIns.cells,List.flatten_cons,List.flatten_nil,ybe,yat,List.not_mem_nil,or_false]at ha;rcases ha with rfl | rfl | rfl<;>rfl) (by simp) (by simp;omega) hn4 hb4 h4.os.tle
 have ne04:n0≠n4:=by
  intro e;subst e;obtain⟨c,hc,_⟩:=a2
  rw[e04,hc]at hn4;cases hn4
 have c24:xD t4 n1 none [.int .i64 (s.code.length:Int)]:=c2.off (d4 n1 ne13)
 have ne14:n1≠n4:=by
  intro e;subst e;obtain⟨c,hc,_⟩:=c24
  rw[hc]at hn4;cases hn4
 have nin0:=h.fresh hn0
 have nin1:=h1.fresh hn1
 have inK:∀k,nJ r.vk k->k∈(tsL key r s).flatMap lD.blks:=fun k hk=>by
  have:=pL.2 hk
  simp[tsL,dD,wE,aB,this]
 have e05:t5.get n0=t1.get n0:=by rw[f4 n0 ne04 (fun e=>nin0 (inK _ e)),e04]
 have e15:t5.get n1=t3.get n1:=by rw[f4 n1 ne14 (fun e=>nin1 (inK _ e)),d4 n1 ne13]
 rw[f1,xA];dsimp only
 rw[l0 t5 e05,xA,if_pos zn1];intro m6 _ _;have ec:(s.code.map XIns.d).length+[i.d].length=(s.code++[i]).length:=by simp
 have hd:s.code.map XIns.d++[i.d]=(s.code++[i]).map XIns.d:=by simp
 rw[ec,hd]at f2;have o5:Objs yA.base tf t5 ([dD r.b none r.cells,wE r.m1 (uE 0 s.names),wE r.m2 (uE 0 (s.consts.map key)),aB yA.base 1 (s.names.map D.str) r.vn,aB yA.base 6 (s.consts.map aA.d) r.vc,aB yA.base 1 s.ws r.vw,aB yA.base 1 s.ts r.vt]++aB yA.base 3 ((s.code++[i]).map XIns.d) (.slice n4 0 (s.code++[i]).length (s.code++[i]).length)::[]):=by
  refine Objs.upd (o:=aB yA.base 3 (s.code.map XIns.d) r.vk) h4.os (fun k k1 k2=>f4 k ?_ (fun e=>k1 (pL.2 e))) (fun k hk=>?_) f2 (by simp[aB,lE]) f3
  ·intro e;subst e;exact k2 (by simp[aB,lE])
  ·have:k=n4:=by simpa[aB,lE]using hk
   subst this;exact .inr ⟨hn4,hb4⟩
 have cel5:xD t5 r.b none r.cells:=o5.ok (dD r.b none r.cells) (by simp)
 have hlen:r.cells.length=11:=by simp[TR.cells,h.pl]
 obtain⟨t6,g1,g2,g3⟩:=cel5.store1 (C:=yA) h.baseB.1 (j:=10) (v:=.slice n4 0 (s.code++[i]).length (s.code++[i]).length) zrw rfl rfl rfl (by omega)
 rw[ec,g1,xA];have es:r.cells.set 10 (.slice n4 0 (s.code++[i]).length (s.code++[i]).length)=TR.cells ⟨r.b,r.pl,r.vn,r.vc,r.vw,r.vt,.slice n4 0 (s.code++[i]).length (s.code++[i]).length,r.m1,r.m2⟩:=lS (k:=6) h.pl
 rw[es]at g2;have o6:Objs yA.base tf t6 (tsL key ⟨r.b,r.pl,r.vn,r.vc,r.vw,r.vt,.slice n4 0 (s.code++[i]).length (s.code++[i]).length,r.m1,r.m2⟩ ⟨s.names,s.consts,s.ws,s.ts,s.code++[i]⟩):=by
  refine Objs.upd (A:=[]) (o:=dD r.b none r.cells) o5 (fun k k1 _=>g3 k (fun e=>k1 (by simp[dD,e]))) (fun k hk=>.inl hk) g2 (by simp[dD]) (f3.off h.baseB.2 g3)
 have h6:TS key tf t6 ⟨r.b,r.pl,r.vn,r.vc,r.vw,r.vt,.slice n4 0 (s.code++[i]).length (s.code++[i]).length,r.m1,r.m2⟩ ⟨s.names,s.consts,s.ws,s.ts,s.code++[i]⟩:=⟨h.pl,o6⟩
 have nr0:n0≠r.b:=fun e=>nin0 (e ▸ TS.inB)
 have nr1:n1≠r.b:=fun e=>nin1 (e ▸ TS.inB)
 have e06:t6.get n0=t1.get n0:=by rw[g3 n0 nr0,e05]
 have e16:t6.get n1=t3.get n1:=by rw[g3 n1 nr1,e15]
 have notin:∀n,n∉(tsL key r s).flatMap lD.blks->n≠n4->n∉(tsL key ⟨r.b,r.pl,r.vn,r.vc,r.vw,r.vt,.slice n4 0 (s.code++[i]).length (s.code++[i]).length,r.m1,r.m2⟩ ⟨s.names,s.consts,s.ws,s.ts,s.code++[i]⟩).flatMap lD.blks:=by
  intro n h1 h2 h3;simp only[tsL,dD,wE,aB,List.flatMap_cons,List.flatMap_nil,List.mem_append,yce,ybe,not_or]at h1 h3;simp only[lE,yce]at h3;simp only[lE]at h1;obtain⟨k1,k2,k3,k4,k5,k6,k7,k8⟩:=h1
  rcases h3 with h | h | h | h | h | h | h | h
  ·exact k1 h
  ·exact k2 h
  ·exact k3 h
  ·exact k4 h
  ·exact k5 h
  ·exact k6 h
  ·exact k7 h
  ·exact h2 h
 have tn1:t.get n1=none:=by rw[<- a4 n1 (Ne.symm ne01)];exact hn1
 obtain⟨x0,hx0,hx0'⟩:=a2
 obtain⟨x1,hx1,hx1'⟩:=c2
 obtain⟨h7,q7⟩:=h6.froze (n:=n0) (notin n0 nin0 ne04) (by rw[e06];exact hx0) (h.os.tfn hn0)
 obtain⟨h8,q8⟩:=h7.froze (n:=n1) (notin n1 nin1 ne14) (by rw[e16];exact hx1) (by rw[Tr.get_set,if_neg (Ne.symm ne01)];exact h.os.tfn tn1)
 refine hQ _ t6 ⟨r.b,r.pl,r.vn,r.vc,r.vw,r.vt,.slice n4 0 (s.code++[i]).length (s.code++[i]).length,r.m1,r.m2⟩ _ (q7.trans q8) rfl rfl h8 ⟨n0,n1,rfl,⟨x0,?_,hx0'⟩,⟨x1,?_,hx1'⟩⟩
 ·rw[Tr.get_set,if_neg ne01,Tr.get_set,if_pos rfl]
 ·rw[Tr.get_set,if_pos rfl]
theorem _root_.Go.Am.Loose.own{base sz:Nat}{l:List D}{b n k:Nat}(h:Loose base tf t sz l (.slice b 0 n k)):OwnD base tf t sz l b (some sz):=by
 rcases h with⟨e1,_⟩ | ⟨b',cl,c,e1,k0,k1,k2,k3,k4⟩
 ·cases e1
 ·cases e1
  have hcl:=k4.length
  have hcl3:∀(j:Nat) cs,cl[j]?=some cs->cs.length=sz:=fun j cs hj=>(k3 j cs hj).1
  have hfl:=mQ hcl3
  refine⟨k0,k1,cl,⟨c,by rw[hfl,hcl];exact k2,fun j a hj=>?_⟩,hcl3,k4⟩
  have hj2:j<cl.length*sz:=by rw[<- hfl];exact(yad.1 hj).1
  have hpos:0<sz:=by
   rcases Nat.eq_zero_or_pos sz with e | e
   ·subst e;simp at hj2
   ·exact e
  have q1:j / sz<cl.length:=ybv (by rw[yai];exact hj2)
  have hq:cl[j / sz]?=some cl[j / sz]:=yae q1
  have hql:=hcl3 _ _ hq
  obtain⟨a',hx⟩:∃a',cl[j / sz][j%sz]?=some a':=⟨_,yae (l:=cl[j / sz]) (i:=j%sz) (by rw[hql];exact ybz _ hpos)⟩
  have e:=lQ hcl3 _ _ _ _ hq hx
  have ej:j / sz*sz+j%sz=j:=by rw[yai];exact ybi j sz
  rw[ej,hj]at e;have:=(k3 _ _ hq).2 _ _ hx
  rw[ej]at this;rw[this,<- ybj e]
theorem _root_.Go.Am.OwnD.loose{base sz:Nat}{l:List D}{b n:Nat}(h:OwnD base tf t sz l b (some sz))(hn:l.length=n):Loose base tf t sz l (.slice b 0 n n):=by
 obtain⟨h1,h2,cl,⟨c,h3,h4⟩,h5,h6⟩:=h
 subst hn;have:=h6.length
 refine .inr ⟨b,cl,c,rfl,h1,h2,by rw[h3,mQ h5,this],fun i cs hi=>⟨h5 i cs hi,fun j a hj=>h4 _ _ (lQ h5 i j cs a hi hj)⟩,h6⟩
theorem eX{i:Nat}{v:zA}{Q:cB}{x:XIns}(h:TS key tf t r s)(hv:Tgt tf r.b v i)(hi:s.code[i]?=some x)(hl:s.code.length<300000)
  (hQ:∀t',TS key tf t' r ⟨s.names,s.consts,s.ws,s.ts,s.code.set i ⟨x.op,s.code.length,x.b⟩⟩->Q (.tup []) t'):iG (wM v []) fun p=>Wq yA F pI p.1 p.2 t Q:=by
 obtain⟨n,m,rfl,h1,h2⟩:=hv
 have ef:wM (.func (.func 232) [] [.ptr n 0,.ptr m 0]) []=some (232,[.ptr n 0,.ptr m 0]):=rfl
 rw[ef,xA,q232];have htle:=h.os.tle
 have l0:mA yA 106 ⟨0,t⟩ (.ptr n 0)=some (.ptr r.b 0):=wN (H:=⟨0,tf⟩) (fun _ _ k=>htle _ _ k) (h1.load1 ty106 rfl rfl)
 have l1:mA yA 3 ⟨0,t⟩ (.ptr m 0)=some (.int .i64 (i:Int)):=wN (H:=⟨0,tf⟩) (fun _ _ k=>htle _ _ k) (h2.load1 ty3 rfl rfl)
 have hlt:i<s.code.length:=(yad.1 hi).1
 refine w232 _ _ ?_
 simp only[t232,pA];obtain⟨b,e1⟩:∃b,r.vk=.slice b 0 s.code.length s.code.length:=by
  rcases h.lk with⟨_,e2⟩ | ⟨b,cl,c,e1,_⟩
  ·have:s.code=[]:=List.map_eq_nil_iff.1 e2
   rw[this]at hlt;simp at hlt
  ·rw[yag]at e1;exact⟨b,e1⟩
 have ldk:=h.ldK
 have hlk:=h.lk
 rw[e1]at ldk hlk;have ia:zB yA 37 (.slice b 0 s.code.length s.code.length) (.int .i64 (i:Int))=some (.ptr b (0+i*3)):=dL sl37 hlt
 have fa:pB yA 54 1 (.ptr b (0+i*3))=some (.ptr b (0+i*3+1)):=by
  unfold pB sS;rw[z2c,sA];rfl
 have lv:uB (.slice b 0 s.code.length s.code.length)=some (.int .i64 (s.code.length:Int)):=rfl
 rw[l0,xA,xJ,xA,za3,xA,ldk,xA,l1,xA,yB,xA];simp only[xA,xJ,za3,ldk,lv,yB,ia,fa];intro mm _ _;obtain⟨t',g1,g2,g3⟩:=OwnD.store (C:=yA) hlk.own (i:=i) (o:=1) (T:=3) (d:=x.d) (d':=XIns.d ⟨x.op,s.code.length,x.b⟩) (v:=.int .i64 (s.code.length:Int)) (by simp[hi]) ty3 rfl (by exact(by decide:1+1<=3)) rfl (fun cs h3 hrd=>by
  rw[zoe]at hrd ⊢
  subst hrd;rfl)
 have e3:0+i*3+1=i*3+1:=by omega
 rw[e3,g1,xA];have hmap:(s.code.map XIns.d).set i (XIns.d ⟨x.op,s.code.length,x.b⟩)=(s.code.set i ⟨x.op,s.code.length,x.b⟩).map XIns.d:=by rw[List.map_set]
 rw[hmap]at g2;refine hQ t' ⟨h.pl,?_⟩
 have hos:=h.os
 refine Objs.upd (A:=[dD r.b none r.cells,wE r.m1 (uE 0 s.names),wE r.m2 (uE 0 (s.consts.map key)),aB yA.base 1 (s.names.map D.str) r.vn,aB yA.base 6 (s.consts.map aA.d) r.vc,aB yA.base 1 s.ws r.vw,aB yA.base 1 s.ts r.vt]) (B:=[]) (o:=aB yA.base 3 (s.code.map XIns.d) r.vk) hos (fun k k1 _=>g3 k (fun e=>k1 ?_)) (fun k hk=>.inl hk) ?_ ?_ (htle.off ?_ g3)
 ·subst e;rw[e1];simp[aB,lE]
 ·rw[e1];exact g2.loose (by simp)
 ·rw[e1];simp[aB,lE]
 ·exact(hlk.none (lN.2 rfl)).1
end Go.Proofs
namespace Go.Proofs
open Go Go.Am
variable [dC]
variable {t:Tr jA}
theorem pv36{f:gF}{u v:zA}(h1:oA t 1 (jC f.n.limbs) u)(h2:oA t 1 (jC f.d.limbs) v)(hf:f.ok):rD yA F 36 [.agg [.bool f.n.neg,u,.bool f.d.neg,v]] t=some (.int .i64 (nK f:Nat)):=by
 have hs:=aT hf
 refine mF.2 (w36 _ _ _ _ ?_)
 unfold nK at hs ⊢
 simp (disch:=omega) only[t36,pA,h1.len,h2.len,xA,yB,gQ,fB]
 simp
mutual
theorem pv37:∀(x:uA) (left:Int) (cs:List zA),x.ok -> -9007199254740992<=left->left<=9007199254740992->RD t x.d cs->rD yA F 37 [.agg cs,.int .i64 left] t=some (.int .i64 (lJ x left))
 | .mk op name v args,left,cs,hx,hl1,hl2,h=>by
  obtain⟨a,b,c,rfl,ha,hb,hc⟩:=cK h
  simp only[uA.op,uA.name,uA.v,uA.args]at ha hb hc ⊢
  have hx':=hx
  unfold uA.ok at hx';have hf:=aT hx'.2.1
  have hn:=hx'.1
  unfold qC at hn;refine mF.2 (w37 _ _ _ _ _ _ _ _ _ _ ?_)
  simp (disch:=omega) only[t37,pA,q36,pv36 ha hb hx'.2.1,xA,yB,zbq,aL,if_true,mR,fB,Int.tdiv_eq_ediv_of_nonneg]
  unfold lJ;exact z25 args args left _ op name v _ _ c 0 hc rfl hx'.2.2.2 hx'.2.2.1 (by omega) hl1 hl2 (by omega)
theorem z25:∀(l args:List uA) (left n:Int) (op:Nat) (name:List Nat) (v:aA) (a b c:zA) (i:Nat),oA t 9 (args.map uA.d) c->args.drop i=l->uA.oks l->args.length<qC->0<=n -> -9007199254740992<=left->left<=9007199254740992->n<=27021597764222976 →
  jp 37 2 [.int .i64 left,.int .i64 n,.int .i64 i,.int .u8 op,.str name,.int .u8 v.kind,.bool v.f.n.neg,a,.bool v.f.d.neg,b,.int .i64 v.i,c] t (fun v' t'=>v'=.int .i64 (xO l left n)/\t'=t)
 | [],args,left,n,op,name,v,a,b,c,i,hc,hd,hok,hsz,hn,hl1,hl2,hn2=>by
  have:=lU hd
  refine j37_2 _ _ _ _ _ _ _ _ _ _ _ _ ?_
  simp only[z4x,pA,hc.len,xA,yB,yag,mB];rw[if_neg (by omega)]
  unfold xO;simp
 | x::l,args,left,n,op,name,v,a,b,c,i,hc,hd,hok,hsz,hn,hl1,hl2,hn2=>by
  obtain⟨h1,h2,h3⟩:=kU hd
  unfold qC at hsz;have hok':=hok
  unfold uA.oks at hok';refine j37_2 _ _ _ _ _ _ _ _ _ _ _ _ ?_
  obtain⟨pb,po,cs,g1,g2,g3,g4,g5⟩:=jE.at z2q (by simp) hc (i:=i) (d:=x.d) (by simp[h1])
  simp only[z4x,pA,hc.len,xA,yB,yag,mB,xF,g1,g2,zkz];rw[if_pos (by omega)]
  unfold xO;split
  ·rename_i hle
   obtain⟨a1,b1,c1,rfl,ha1,hb1,hc1⟩:=cK g5
   have hs:=uV x (left-n) hok'.1
   rw[jL g5 x.zs];simp only[xA,cellsOf,yG,dG,lF,sF];simp (disch:=omega) only[q37,yaa,yab,fB]
   rw[pv37 x (left-n) _ hok'.1 (by omega) (by omega) g5]
   simp (disch:=omega) only[xA,yB,fB]
   have:=z25 l args left (n+lJ x (left-n)) op name v a b c (i+1) hc h2 hok'.2 hsz (by omega) hl1 hl2 (by omega)
   rw[show((i:Int)+1)=((i+1:Nat):Int) by omega]
   exact this
  ·simp
end
end Go.Proofs
namespace Go.Proofs
open Go Go.Am
variable [dC]
variable {t:Tr jA}
def cO:List dJ->Int->Int
 | [],n=>n
 | d::l,n=>if n<=2000 then cO l (n+(d.name.length:Int) / 30)else n
def sN:List uF->Int->Int
 | [],n=>n
 | r::l,n=>if n<=2000 then sN l (n+(nK r.f:Nat))else n
def tN:List vF->Int->Int
 | [],n=>n
 | x::l,n=>if n<=2000 then tN l (sN x.rows (n+(x.name.length:Int) / 30))else n
def tJ(c:jD)(n:Int):Int:=n+((c.name.length:Int) / 30+(c.label.length:Int) / 30+lJ c.when_ (2000-n))
def bL:List jD->Int->Int
 | [],n=>n
 | c::l,n=>if n<=2000 then(if tJ c n<=2000 then bL l (tJ c n+lJ c.then_ (2000-tJ c n))else bL l (tJ c n))else n
def dO(p:cH):Int:=bL p.clauses (tN p.tables (cO p.defs (1+(p.name.length:Int) / 30+p.defs.length+p.tables.length+p.clauses.length)))
theorem zxm(n:Nat):Int.tdiv (n:Int) 30=(n:Int) / 30:=Int.tdiv_eq_ediv_of_nonneg (by omega)
section
variable {p:cH}{a b c:zA}
theorem zis{l:List jD}(hc:oA t 24 (l.map jD.d) c)(hn:l.length<1125899906842624)(hf:∀x∈l,x.fit):∀(m i:Nat) (n:Int),i+m=l.length->0<=n->n<1152921504606846976->jp 13 14 [.int .i64 2000,.int .i64 n,.int .i64 (i:Int),.str p.name,a,b,c] t (fun v s=>v=.int .i64 (bL (l.drop i) n)/\s=t):=by
 intro m;induction m with
 | zero=>
  intro i n hi h0 h1;refine z3s _ _ _ _ _ _ _ ?_
  simp only[zts,pA,hc.len,xA,yB,yag,mB];rw[if_neg (by omega),yau (by omega)]
  (first | exact⟨rfl,rfl⟩ | exact⟨rfl,trivial⟩ | trivial)
 | succ m ih=>
  intro i n hi h0 h1;have hlt:i<l.length:=by omega
  obtain⟨q,off,u1,u2,u3,w1,w2,w3,g1,g2,g3,g4,g5,g6⟩:=zd0 hc (yae hlt)
  have hfit:=hf _ (ybk hlt)
  obtain⟨f1,f2,_,_,_,f6,f7⟩:=hfit
  unfold qC at f1 f2;have ok1:=uA.fit_ok f6
  have ok2:=uA.fit_ok f7
  refine z3s _ _ _ _ _ _ _ ?_
  simp only[zts,pA,hc.len,xA,yB,yag,mB,xF];rw[if_pos (by omega),yam hlt]
  unfold bL;by_cases h2:n<=2000
  ·rw[if_pos h2,if_pos h2]
   unfold zf9 at g3;rw[g1,xA,g2,xA,g3,xA];unfold gN at g6;simp only[gN,cellsOf,yG,dG,lF,sF,yaa,yab];have s1:=uV l[i].when_ (2000-n) ok1
   have e1:=pv37 l[i].when_ (2000-n) _ ok1 (by omega) (by omega) g4
   unfold mC at e1;have ew:tJ l[i] n=n+((l[i].name.length:Int) / 30+(l[i].label.length:Int) / 30+lJ l[i].when_ (2000-n)):=rfl
   have eN:vA .i64 (n+vA .i64 (vA .i64 (vA .i64 ((l[i].name.length:Int) / 30)+vA .i64 ((l[i].label.length:Int) / 30))+lJ l[i].when_ (2000-n)))=tJ l[i] n:=by
    rw[fB (n:=(l[i].name.length:Int) / 30) (by omega) (by omega),fB (n:=(l[i].label.length:Int) / 30) (by omega) (by omega),fB (n:=(l[i].name.length:Int) / 30+(l[i].label.length:Int) / 30) (by omega) (by omega),
     fB (n:=(l[i].name.length:Int) / 30+(l[i].label.length:Int) / 30+lJ l[i].when_ (2000-n)) (by omega) (by omega),fB (by omega) (by omega)]
    rfl
   have bw:0<=tJ l[i] n/\tJ l[i] n<1152921504606846976:=by rw[ew];omega
   refine xB g6 ?_
   rw[fB (n:=2000-n) (by omega) (by omega),q37,e1,xA,yB,xA]
   simp only[zbq,aL,if_true,mR,zxm,eN,xF];have ei:vA .i64 ((i:Int)+1)=((i+1:Nat):Int):=by rw[fB (by omega) (by omega)];omega
   generalize tJ l[i] n=k at *
   by_cases h3:k<=2000
   ·rw[if_pos h3,if_pos h3]
    have s2:=uV l[i].then_ (2000-k) ok2
    have e2:=pv37 l[i].then_ (2000-k) _ ok2 (by omega) (by omega) g5
    unfold mC at e2;rw[fB (n:=2000-k) (by omega) (by omega),q37,e2,xA,yB,xA,ei,fB (by omega) (by omega)]
    exact ih (i+1) _ (by omega) (by omega) (by omega)
   ·rw[if_neg h3,if_neg h3,ei]
    exact ih (i+1) _ (by omega) bw.1 bw.2
  ·rw[if_neg h2,if_neg h2]
   (first | exact⟨rfl,rfl⟩ | exact⟨rfl,trivial⟩ | trivial)
theorem wZ:∀(l:List uF) (n:Int),(∀r∈l,r.fit)->0<=n->0<=sN l n/\sN l n<=max n 4503599627372496
 | [],n,_,h=>by unfold sN;omega
 | r::l,n,hf,h=>by
  unfold sN;split
  ·have:=aT (hf r (by simp)).2.2.2.1
   have:=wZ l (n+(nK r.f:Nat)) (fun x hx=>hf x (by simp[hx])) (by omega)
   omega
  ·omega
theorem zdu{l:List vF}(hb:oA t 3 (l.map vF.d) b){i:Nat}(hi:i<l.length):∃p o v,zB yA 23 b (.int .i64 (i:Int))=some (.ptr p o)/\pB yA 82 0 (.ptr p o)=some (.ptr p (o+0))/\pB yA 82 2 (.ptr p o)=some (.ptr p (o+2))/\mA yA 9 ⟨0,t⟩ (.ptr p (o+0))=some (.str l[i].name)/\mA yA 80 ⟨0,t⟩ (.ptr p (o+2))=some v/\oA t 7 (l[i].rows.map uF.d) v:=by
 obtain⟨p,o,cs,g1,g2,g3,_,g5⟩:=jE.at sl23 (by simp) hb (i:=i) (d:=l[i].d) (by simp[yae hi])
 obtain⟨v,rfl,hv⟩:=zbr g5
 exact⟨p,o,v,g1,by kernel_rfl,by kernel_rfl,g3.load1 ty9 rfl rfl,g3.load1 ty80 rfl rfl,hv⟩
theorem zt9{l:List vF}(hb:oA t 3 (l.map vF.d) b)(hf:∀x∈l,x.fit){i:Nat}(hi:i<l.length)(hil:i<1125899906842624){Q:cB}:∀(m j:Nat) (n:Int),j+m=l[i].rows.length->0<=n->n<1152921504606846976 →
  jp 13 6 [.int .i64 2000,.int .i64 (sN (l[i].rows.drop j) n),.int .i64 ((i+1:Nat):Int),.str p.name,a,b,c] t Q->jp 13 10 [.int .i64 2000,.int .i64 n,.int .i64 (i:Int),.int .i64 (j:Int),.str p.name,a,b,c] t Q:=by
 obtain⟨q,o,v,g1,g2,g3,g4,g5,g6⟩:=zdu hb hi
 have hfit:=hf _ (ybk hi)
 obtain⟨f1,f2,f3⟩:=hfit
 unfold qC at f1 f2;have ei:vA .i64 ((i:Int)+1)=((i+1:Nat):Int):=by rw[fB (by omega) (by omega)];omega
 intro m;induction m with
 | zero=>
  intro j n hj h0 h1 hQ;rw[yau (by omega)]at hQ
  refine z3t _ _ _ _ _ _ _ _ ?_
  simp only[ztt,pA];rw[g1,xA,g3,xA,g5,xA,g6.len,xA,yag,yB,xA];simp only[mB];rw[if_neg (by omega),ei]
  exact hQ
 | succ m ih=>
  intro j n hj h0 h1 hQ;have hlt:j<l[i].rows.length:=by omega
  rw[yam hlt]at hQ;unfold sN at hQ;refine z3t _ _ _ _ _ _ _ _ ?_
  simp only[ztt,pA];rw[g1,xA,g3,xA,g5,xA,g6.len,xA,yag,yB,xA];simp only[mB,xF];rw[if_pos (by omega)]
  by_cases h2:n<=2000
  ·rw[if_pos h2]at hQ ⊢
   obtain⟨q',o',cs,k1,k2,k3,_,k5⟩:=jE.at sl80 (by simp) g6 (i:=j) (d:=l[i].rows[j].d) (by simp[yae hlt])
   obtain⟨x,y,rfl,hx,hy⟩:=zod k5
   have fa:pB yA 85 3 (.ptr q' o')=some (.ptr q' (o'+3)):=by kernel_rfl
   have ld:mA yA 45 ⟨0,t⟩ (.ptr q' (o'+3))=some (.agg [.bool l[i].rows[j].f.n.neg,x,.bool l[i].rows[j].f.d.neg,y]):=k3.load (j:=3) ty45 rfl rfl (by exact(by decide:3+4<=7))
   have fr:(l[i].rows[j]).fit:=f3 _ (ybk hlt)
   have hz:qG [(.bool false),.nilslice,(.bool false),.nilslice] (.agg [.bool l[i].rows[j].f.n.neg,x,.bool l[i].rows[j].f.d.neg,y])=some (cellsOf [.bool l[i].rows[j].f.n.neg,x,.bool l[i].rows[j].f.d.neg,y]):=iL (by
    show(true&&(gG .nilslice x&&(true&&(gG .nilslice y&&true))))=true
    rw[yI hx,yI hy];rfl)
   have e1:=pv36 hx hy fr.2.2.2.1
   have hs:=aT fr.2.2.2.1
   have ej:vA .i64 ((j:Int)+1)=((j+1:Nat):Int):=by rw[fB (by omega) (by omega)];omega
   simp only[xA,g3,g5];rw[k1,xA,fa,xA,ld,xA,hz,xA];simp only[cellsOf,lF,sF,yaa,yab];rw[q36,e1,xA,yB,xA,ej,fB (by omega) (by omega)]
   exact ih (j+1) _ (by omega) (by omega) (by omega) hQ
  ·rw[if_neg h2]at hQ ⊢
   rw[ei];exact hQ
theorem zlj(hb:oA t 3 (p.tables.map vF.d) b)(hc:oA t 24 (p.clauses.map jD.d) c)(hp:p.fit):∀(m i:Nat) (n:Int),i+m=p.tables.length->0<=n->n<1152921504606846976->jp 13 6 [.int .i64 2000,.int .i64 n,.int .i64 (i:Int),.str p.name,a,b,c] t (fun v s=>v=.int .i64 (bL p.clauses (tN (p.tables.drop i) n))/\s=t):=by
 have hnt:=hp.ntables
 have hnc:=hp.nclauses
 unfold qC at hnt hnc;have aC:∀n:Int,0<=n->n<1152921504606846976->jp 13 14 [.int .i64 2000,.int .i64 n,.int .i64 0,.str p.name,a,b,c] t (fun v s=>v=.int .i64 (bL p.clauses n)/\s=t):=by
  intro n h0 h1;have:=zis (p:=p) (a:=a) (b:=b) hc hnc hp.clauses p.clauses.length 0 n (by omega) h0 h1
  rw[ybs]at this;exact this
 intro m;induction m with
 | zero=>
  intro i n hi h0 h1;refine j13_6 _ _ _ _ _ _ _ ?_
  simp only[z44,pA,hb.len,xA,yB,yag,mB];rw[if_neg (by omega),yau (by omega)]
  exact aC n h0 h1
 | succ m ih=>
  intro i n hi h0 h1;have hlt:i<p.tables.length:=by omega
  obtain⟨q,o,v,g1,g2,g3,g4,g5,g6⟩:=zdu hb hlt
  have hfit:=hp.tables _ (ybk hlt)
  obtain⟨f1,f2,f3⟩:=hfit
  unfold qC at f1;refine j13_6 _ _ _ _ _ _ _ ?_
  simp only[z44,pA,hb.len,xA,yB,yag,mB,xF];rw[if_pos (by omega),yam hlt]
  unfold tN;by_cases h2:n<=2000
  ·rw[if_pos h2,if_pos h2,g1,xA,g2,xA,g4,xA,lI,xA,mR,zxm,fB (n:=(p.tables[i].name.length:Int) / 30) (by omega) (by omega),fB (by omega) (by omega)]
   have hr:=wZ p.tables[i].rows (n+(p.tables[i].name.length:Int) / 30) f3 (by omega)
   refine zt9 (p:=p) (a:=a) (c:=c) hb hp.tables hlt (by omega) p.tables[i].rows.length 0 _ (by omega) (by omega) (by omega) ?_
   rw[ybs];exact ih (i+1) _ (by omega) (by omega) (by omega)
  ·rw[if_neg h2,if_neg h2]
   exact aC n h0 h1
theorem zua(ha:oA t 3 (p.defs.map dJ.d) a)(hb:oA t 3 (p.tables.map vF.d) b)(hc:oA t 24 (p.clauses.map jD.d) c)(hp:p.fit):∀(m i:Nat) (n:Int),i+m=p.defs.length->0<=n->n<1152921504606846976->jp 13 2 [.int .i64 2000,.int .i64 n,.int .i64 (i:Int),.str p.name,a,b,c] t (fun v s=>v=.int .i64 (bL p.clauses (tN p.tables (cO (p.defs.drop i) n)))/\s=t):=by
 have hnd:=hp.ndefs
 unfold qC at hnd;have aC:∀n:Int,0<=n->n<1152921504606846976->jp 13 6 [.int .i64 2000,.int .i64 n,.int .i64 0,.str p.name,a,b,c] t (fun v s=>v=.int .i64 (bL p.clauses (tN p.tables n))/\s=t):=by
  intro n h0 h1;have:=zlj (a:=a) hb hc hp p.tables.length 0 n (by omega) h0 h1
  rw[ybs]at this;exact this
 intro m;induction m with
 | zero=>
  intro i n hi h0 h1;refine j13_2 _ _ _ _ _ _ _ ?_
  simp only[z45,pA,ha.len,xA,yB,yag,mB];rw[if_neg (by omega),yau (by omega)]
  exact aC n h0 h1
 | succ m ih=>
  intro i n hi h0 h1;have hlt:i<p.defs.length:=by omega
  obtain⟨q,o,cs,g1,g2,g3,_,g5⟩:=jE.at sl22 (by simp) ha (i:=i) (d:=p.defs[i].d) (by simp[yae hlt])
  have g5:=rd_def g5
  subst g5;have fa:pB yA 79 0 (.ptr q o)=some (.ptr q (o+0)):=by kernel_rfl
  have ld:mA yA 9 ⟨0,t⟩ (.ptr q (o+0))=some (.str p.defs[i].name):=g3.load1 ty9 rfl rfl
  have hfit:=hp.defs _ (ybk hlt)
  have f1:=hfit.1
  unfold qC at f1;have ei:vA .i64 ((i:Int)+1)=((i+1:Nat):Int):=by rw[fB (by omega) (by omega)];omega
  refine j13_2 _ _ _ _ _ _ _ ?_
  simp only[z45,pA,ha.len,xA,yB,yag,mB,xF];rw[if_pos (by omega),yam hlt]
  unfold cO;by_cases h2:n<=2000
  ·rw[if_pos h2,if_pos h2,g1,xA,fa,xA,ld,xA,lI,xA,mR,zxm,ei,fB (n:=(p.defs[i].name.length:Int) / 30) (by omega) (by omega),fB (by omega) (by omega)]
   exact ih (i+1) _ (by omega) (by omega) (by omega)
  ·rw[if_neg h2,if_neg h2]
   exact aC n h0 h1
theorem zzo{cs:List zA}(hp:p.fit)(h:RD t p.d cs):rD yA F 13 [.agg cs,.int .i64 2000] t=some (.int .i64 (dO p)):=by
 obtain⟨a,b,c,rfl,ha,hb,hc⟩:=oV h
 have p1:=hp.name
 have p2:=hp.ndefs
 have p3:=hp.ntables
 have p4:=hp.nclauses
 unfold qC at p1 p2 p3 p4;refine mF.2 (w13 _ _ _ _ _ ?_)
 simp only[t13,pA,ha.len,hb.len,hc.len,xA,yB,yag,mR,zxm];rw[fB (n:=(p.name.length:Int) / 30) (by omega) (by omega),fB (n:=1+(p.name.length:Int) / 30) (by omega) (by omega),fB (n:=1+(p.name.length:Int) / 30+(p.defs.length:Int)) (by omega) (by omega),fB (n:=1+(p.name.length:Int) / 30+(p.defs.length:Int)+(p.tables.length:Int)) (by omega) (by omega),fB (by omega) (by omega)]
 have:=zua ha hb hc hp p.defs.length 0 (1+(p.name.length:Int) / 30+p.defs.length+p.tables.length+p.clauses.length) (by omega) (by omega) (by omega)
 rw[ybs]at this;exact this
end
end Go.Proofs
namespace Go.Proofs
open Go Go.Am
variable [dC]
variable {t:Tr jA}
def wT:List (List Nat):=[[],[],[],[52],[52],[],[50,32,50,50],[50,50,32,51,51,32,53,53,32,54,54,32,52,53,32,52,54],[50,50,32,51,51,32,53,53,32,54,54,32,52,52,32,52,53,32,52,54],[50,50,32,51,50,32,50,51],[50,50,32,51,51,32,51,50],[50,50,32,51,51,32,52,52,32,53,53,32,54,54],[50,50,32,51,51,32,52,52,32,53,53,32,54,54],[50,50,32,51,51,32,52,52,32,53,53,32,54,54],[49,49,32,50,50,32,51,51,32,52,52,32,53,53,32,54,54],[],[],[49],[],[50,50,32,51,51],[52,52],[52,52],[52,52,54],[52,52],[50],[50,32,51,32,53,32,54],[52]]
def sK (t:Tr jA):Prop:=At t 0 0 (wT.map zA.str)
theorem sK.mono{t':Tr jA}(h:sK t)(k:cA t t'):sK t':=At.mono k h
def fstW (s:List Nat):List Nat:=match z1o [32] s with | some p=>p.1 | none=>s
def argT (s:List Nat):Int × Int:=if s=[]then(1,0)else((fstW s).length,(fstW s).length)
def zcn(op:Nat):Bool:=op == 1||op == 2||op == 5||op == 6||op == 15||op == 16||op == 18
theorem zkl:∀s∈wT,s.length<100:=by decide
theorem zyd:∀k,k<27->zcn k=false->∀s,wT[k]?=some s->argT s=nG k:=by
 have h:((List.range 27).all fun k=>zcn k||(match wT[k]? with | some s=>decide (argT s=nG k) | none=>true))=true:=by kernel_rfl
 intro k hk hs s he;have:=ybc.1 h k (List.mem_range.2 hk)
 rw[hs,he,Bool.false_or]at this;exact of_decide_eq_true this
theorem cut_pv{s:List Nat}(hs:s.length<100):∃a b,rD yA F 238 [.str s,.str [32]] t=some (.tup [.str (fstW s),.str a,.bool b]):=by
 have hg:yA.prims.get 238=some pCut:=by kernel_rfl
 have hb:Nat.blt (wB s) 4294967281=true:=by rw[bD];exact lC.2 (by omega)
 unfold fstW
 cases hc:z1o [32] s with
 | none=>exact⟨[],false,zgw hg fun H=>by unfold pCut;simp only[];rw[hb,hc];rfl⟩
 | some p=>exact⟨p.2,true,zgw hg fun H=>by unfold pCut;simp only[];rw[hb,hc];rfl⟩
theorem zyb{op:Nat}(hop:op<256)(hg:sK t):rD yA F 181 [.int .u8 (op:Int)] t=some (.tup [.int .i64 (nG op).1,.int .i64 (nG op).2]):=by
 have w:vA .i64 (op:Int)=(op:Int):=fB (by omega) (by omega)
 have tab:27<=op\/zcn op=false->wp 181 (.ite (sC 27 (vA .i64 (op:Int)))
 (.ret (.tup [(.int .i64 1),(.int .i64 0)]))
 (.opt (zB yA 273 (.ptr 0 0) (.int .u8 (op:Int))) fun fE=>.light (fun m=>mA yA 9 ⟨0,m⟩ fE) fun a14=>.asS a14 fun s15=>.ite (eI s15 [])
 (.ret (.tup [(.int .i64 1),(.int .i64 0)]))
 (.opt (zB yA 273 (.ptr 0 0) (.int .u8 (op:Int))) fun mG=>.light (fun m=>mA yA 9 ⟨0,m⟩ mG) fun a17=>.asS a17 fun s18=>.call 238 [(.str s18),(.str [32])] fun a19=>
 .opt (vC 0 a19) fun a20=>.asS a20 fun s21=>.opt (vC 1 a19) fun a22=>.asS a22 fun s23=>.opt (vC 2 a19) fun a24=>.asB a24 fun b25=>.ret (.tup [(.int .i64 (Int.ofNat (wB s21))),(.int .i64 (Int.ofNat (wB s21)))])))) t (fun v' t'=>v'=.tup [.int .i64 (nG op).1,.int .i64 (nG op).2]/\t'=t):=by
  intro h;simp only[pA,w,xF];by_cases h27:27<=op
  ·rw[if_pos (by omega)]
   have e:nG op=(1,0):=by unfold nG;repeat rw[if_neg (by omega)]
   rw[e]; (first | exact⟨rfl,rfl⟩ | exact⟨rfl,trivial⟩ | trivial)
  ·rw[if_neg (by omega)]
   have hsp:zcn op=false:=h.resolve_left h27
   obtain⟨s,hs⟩:∃s,wT[op]?=some s:=⟨_,yae (l:=wT) (i:=op) (by show op<27;omega)⟩
   have hN:=zyd op (by omega) hsp s hs
   have hsm:=zkl s (ybw hs)
   have ia:zB yA 273 (.ptr 0 0) (.int .u8 (op:Int))=some (.ptr 0 (0+op*1)):=by
    unfold zB;have e1:(zA.int .u8 (op:Int)).asNat=some op:=rfl
    rw[ty273,sA,e1,sA];simp only[zA.asSlice,zA.asPtr,sA,nE.asArr];rw[ty9,sA,lC.2 (by omega)]
    rfl
   have ld:mA yA 9 ⟨0,t⟩ (.ptr 0 (0+op*1))=some (.str s):=by
    have:=At.load1 (C:=yA) (j:=op) (a:=.str s) hg ty9 rfl (by rw[yav,hs];rfl)
    rw[show 0+op*1=0+op by omega];exact this
   obtain⟨a,b,hc⟩:=cut_pv (t:=t) hsm
   rw[ia,xA,ld,xA,lI,xA];unfold argT at hN;by_cases h0:s=[]
   ·rw[if_pos ((lO _ _).2 h0)]
    rw[if_pos h0]at hN;rw[<- hN]; (first | exact⟨rfl,rfl⟩ | exact⟨rfl,trivial⟩ | trivial)
   ·rw[if_neg (fun e=>h0 ((lO _ _).1 e))]
    rw[if_neg h0]at hN;simp only[xA,ld,lI];rw[q238,hc];simp only[xA,vC,zA.asTup,sA,vE,yaa,yab,lI,mD,mR];rw[<- hN]; (first | exact⟨rfl,rfl⟩ | exact⟨rfl,trivial⟩ | trivial)
 refine mF.2 (w181 _ ?_)
 have pos:∀ {k:Nat} {x y:T} {Q:cB},op=k->wp 181 x t Q->wp 181 (.ite (wA (op:Int) (k:Int)) x y) t Q:=fun h hx=>xB (cD.2 (by omega)) hx
 have neg:∀ {k:Nat} {x y:T} {Q:cB},op≠k->wp 181 y t Q->wp 181 (.ite (wA (op:Int) (k:Int)) x y) t Q:=fun h hy=>pC (fun e=>absurd (cD.1 e) (by omega)) hy
 unfold t181;by_cases h1:op=1
 ·refine pos h1 (pos h1 ?_);subst h1;exact⟨rfl,rfl⟩
 ·refine neg h1 ?_
  by_cases h2:op=2
  ·refine pos h2 ?_;subst h2;exact⟨rfl,rfl⟩
  ·refine neg h2 ?_
   by_cases h5:op=5
   ·refine pos h5 ?_;subst h5;exact⟨rfl,rfl⟩
   ·refine neg h5 ?_
    by_cases h6:op=6
    ·refine pos h6 ?_;subst h6;exact⟨rfl,rfl⟩
    ·refine neg h6 ?_
     by_cases h15:op=15
     ·refine pos h15 (pos h15 ?_);subst h15;exact⟨rfl,rfl⟩
     ·refine neg h15 ?_
      by_cases h16:op=16
      ·refine pos h16 ?_;subst h16;exact⟨rfl,rfl⟩
      ·refine neg h16 ?_
       by_cases h18:op=18
       ·refine pos h18 ?_;subst h18;exact⟨rfl,rfl⟩
       ·refine neg h18 ?_
        exact tab (.inr (by simp[zcn,h1,h2,h5,h6,h15,h16,h18]))
theorem zw5{x:uA}{a b c:zA}(hx:x.fit)(hg:sK t)(ha:oA t 1 (jC x.v.f.n.limbs) a)(hb:oA t 1 (jC x.v.f.d.limbs) b)(hc:oA t 9 (x.args.map uA.d) c):rD yA F 167 [.agg (mC x a b c)] t=some (.bool (fI rB x.op x.v x.args.length)):=by
 obtain⟨op,name,v,args⟩:=x
 simp only[uA.op,uA.name,uA.v,uA.args]at ha hb hc ⊢
 unfold uA.fit at hx;obtain⟨h1,h2,_,h3,h4,_⟩:=hx
 unfold qC at h4;have c1:=zh6 ha hb h3.2.1
 have c2:=zyb (t:=t) h1 hg
 refine mF.2 (w167 _ _ _ _ _ _ _ _ _ ?_)
 simp only[t167,pA,uA.op,uA.name,uA.v,uA.args,q25,q181,c1,c2,xA,mD,vC,zA.asTup,sA,vE,yaa,yab,yB,hc.len,yag,cD,zbu,zhd,decide_eq_true_eq]
 unfold fI;by_cases h0:op=1
 ·rw[if_pos (by omega)]
  cases hv:rB v with
  | false=>simp[h0]
  | true=>
   simp only[Bool.true_eq_false,if_false];by_cases h5:(nG op).1<=(args.length:Int)
   ·rw[if_pos h5];simp[h5]
   ·rw[if_neg h5];simp[h5]
 ·rw[if_neg (by omega)]
  by_cases h5:(nG op).1<=(args.length:Int)
  ·rw[if_pos h5];simp[h5,h0]
  ·rw[if_neg h5];simp[h5]
end Go.Proofs
namespace Go.Am
open Go Go.RowKit
section
variable {t tf:Tr jA}{C:iA}
theorem zbk{T el sz:Nat}(hT:zK C T el sz){l:List D}{x:zA}(hx:oA tf sz l x)(ht:cA tf t)(hl:l.length<1000000){n:Nat}(hn:t.get n=none) :
  ∃v k t' tf',eE C T T .nilslice x ⟨n,t⟩=some (v,⟨k,t'⟩)/\oA tf' sz l v/\cA tf tf'/\cA tf' t'/\cA t t'/\kD n t t'/\kD n tf tf':=by
 obtain⟨⟨y,hy1,hy2,hy3⟩,⟨z,hz1,hz2,hz3,hz4,hz5⟩⟩:=hT
 obtain⟨cl,he,hd⟩:=hx
 have hcl:=hd.length
 obtain⟨hf,hlen⟩:=(he.mono ht).first (n:=n)
 have hall:=he.len
 have base:eE C T T .nilslice x ⟨n,t⟩=kM ⟨n,t⟩ z cl.length cl.flatten:=by
  unfold eE bM;rw[hy1,sA,sA,hy3];simp only[ybm,qF];rw[hy2,sA,hz1,sA,hlen,sA,hz2,hf,sA];rfl
 have hfl:wB cl.flatten=cl.length*sz:=by rw[bD];exact mQ hall
 have ok:kN z 0 0 cl.length cl.flatten=true:=by
  unfold kN;have h1:Nat.blt (0+cl.length+0) 1000000000=true:=lC.2 (by omega)
  have h2:Nat.blt ((0+cl.length+0)*z.bytes) 1000000000=true:=lC.2 (by
   have:=ycc (show 0+cl.length+0<=1000000 by omega) hz4
   omega)
  have h3:Nat.blt z.bytes 1000000000=true:=lC.2 (by omega)
  have h4:(!Nat.beq z.size 0)=true:=by
   cases hq:Nat.beq z.size 0 with
   | true=>have:=zC.1 hq;omega
   | false=>rfl
  have h5:Nat.beq (wB cl.flatten) (cl.length*z.size)=true:=by rw[hfl,hz2];exact zC.2 rfl
  have h6:Nat.beq (wB z.zero) z.size=true:=by rw[hz3,hz2];exact zC.2 rfl
  rw[h1,h2,h3,h4,h5,h6];rfl
 have hfn:tf.get n=none:=by
  cases hq:tf.get n with
  | none=>rfl
  | some u=>rw[ht _ _ hq]at hn;cases hn
 by_cases h0:cl.length=0
 ·have:cl=[]:=ybd.1 h0
  subst this;refine⟨.nilslice,n,t,tf,?_,⟨[],.inl ⟨rfl,rfl⟩,hd⟩,cA.refl _,ht,cA.refl _,kD.refl _ _,kD.refl _ _⟩
  rw[base];rfl
 ·have hb:Nat.beq cl.length 0=false:=by
   cases hq:Nat.beq cl.length 0 with
   | true=>exact absurd (zC.1 hq) h0
   | false=>rfl
  refine⟨.slice n 0 cl.length cl.length,n+1,t.set n (.cells (Tr.ofList cl.flatten) (wB cl.flatten) (some z.size)),tf.set n (.cells (Tr.ofList cl.flatten) (wB cl.flatten) (some z.size)),?_,⟨cl,zai hall (by rw[Tr.get_set,if_pos rfl]) (.inr (by rw[hz2])),kC.mono (sJ hfn _).1 _ _ hd⟩,(sJ hfn _).1,fun k u hk=>?_,(sJ hn _).1,(sJ hn _).2,(sJ hfn _).2⟩
  ·rw[base]
   unfold kM;rw[hb,cond_false,ok];rfl
  ·rw[Tr.get_set]at hk ⊢
   split at hk
   ·rename_i e;rw[if_pos e];exact hk
   ·rename_i e;rw[if_neg e];exact ht _ _ hk
theorem zm4{T el b k m cap n:Nat}{cs:List zA}{lo:Option Nat}{x:zA}{cm:List (List zA)}(hT:zK C T el 1)(hc:xD t b lo cs)(hb:C.base<=b)(hx:sH t 1 x cm)(hm:cm.length=m)(h0:0<m)(hk:k+m<=cap)(hcap:cap<=cs.length)(hone:∀a∈cm.flatten,zA.one a=true) :
  ∃t',eE C T T (.slice b 0 k cap) x ⟨n,t⟩=some (.slice b 0 (k+m) cap,⟨n,t'⟩)/\xD t' b lo (zJ cs k cm.flatten)/\kD b t t':=by
 obtain⟨⟨y,hy1,hy2,hy3⟩,⟨z,hz1,hz2,hz3,hz4,hz5⟩⟩:=hT
 obtain⟨hf,hlen⟩:=hx.first (n:=n)
 have hfl:=mQ hx.len
 rw[Nat.mul_one,hm]at hfl;obtain⟨c,h1,h2⟩:=hc
 have hne:cm.flatten≠[]:=by intro e;rw[e]at hfl;simp at hfl;omega
 refine⟨t.set b (.cells (c.setMany cm.flatten k) cs.length lo),?_,⟨c.setMany cm.flatten k,by rw[Tr.get_set,if_pos rfl,pY (by omega)],fun j a hj=>?_⟩,fun d hd=>by rw[Tr.get_set,if_neg hd]⟩
 ·unfold eE bM
  rw[hy1,sA,sA,hy3];simp only[ybm,qF];rw[hy2,sA,hz1,sA,hlen,sA,hz2,hf,sA];simp only[zA.asSlice,hm];rw[cE.2 hk,cond_true];unfold oP
  cases hq:cm.flatten with
  | nil=>exact absurd hq hne
  | cons a r=>
   simp only[hz2,Nat.mul_one,yax];rw[<- hq];unfold fK nD;have e2:(!Nat.blt b C.base)=true:=by
    cases hq:Nat.blt b C.base with
    | true=>have:=lC.1 hq;omega
    | false=>rfl
   rw[e2,qF,h1,sA];simp only[jA.asCells,sA];have e3:Nat.ble (k+wB cm.flatten) cs.length=true:=by rw[bD];exact cE.2 (by omega)
   have e4:bB zA.one cm.flatten=true:=by rw[oG];exact ybc.2 hone
   rw[e3,e4];rfl
 ·rw[kW (by omega)]at hj
  rw[Tr.get_setMany];split
  ·rename_i e;rw[if_pos e]at hj;exact hj
  ·rename_i e;rw[if_neg e]at hj;exact h2 j a hj
def lL(l:List Nat):List zA:=l.map fun(n:Nat)=>zA.int .u8 (n:Int)
theorem zrh{S Dt b k cap el:Nat}{cs:List zA}{lo:Option Nat}{l:List Nat}{yS yD yE:vD}(hS:C.tys.get S=some yS)(hD:C.tys.get Dt=some yD)(h1:yD.desc.asInt=none)(h2:yD.desc.isString=true)(h3:yS.desc.asSlice=some el)(h4:C.tys.get el=some yE)(h5:yE.desc.asInt=some .u8)
  (hc:xD t b lo cs) (hk:l.length=k) (hl:∀(j:Nat) x,l[j]?=some x->cs[j]?=some (.int .u8 (x:Int))) (hlt:dB 256 l):tM C S Dt ⟨0,t⟩ (.slice b 0 k cap)=some (.str l):=by
 obtain⟨c,g1,g2⟩:=hc
 unfold tM iN;rw[hS,sA,hD,sA,h1];simp only[];rw[h2,qF];have e1:Nat.beq (zA.slice b 0 k cap).tag 2=false:=rfl
 rw[e1,cond_false,h3,sA,h4,sA,h5,sA,iJ.2 rfl,qF];unfold cV;simp only[zA.asSlice];unfold nD;rw[g1,sA];simp only[jA.asCells,sA]
 have hm:∀(l:List Nat) (off:Nat),(∀(j:Nat) x,l[j]?=some x->c.get (off+j)=some (.int .u8 (x:Int)))->c.many l.length off=some (lL l):=by
  intro l;induction l with
  | nil=>intro off _;rfl
  | cons x l ih=>
   intro off h;rw[yao,Tr.many_succ];have:=h 0 x rfl
   rw[ybu]at this;rw[this,sA,ih (off+1) (fun j y hj=>by rw[show off+1+j=off+(j+1) by omega];exact h (j+1) y (by simpa using hj)),sA]
   rfl
 subst hk;rw[hm l 0 (fun j x hj=>by rw[yax];exact g2 _ _ (hl j x hj)),sA]
 have hb:∀(l:List Nat),dB 256 l->oI bS (lL l)=some l:=by
  intro l;induction l with
  | nil=>intro _;rfl
  | cons x l ih=>
   intro h;have e:bS (.int .u8 (x:Int))=some x:=by
    unfold bS;have e1:aK (x:Int)=some x:=rfl
    simp only[zA.asIntK,sA];rw[iJ.2 rfl,qF,e1,sA,lC.2 (h x (by simp))];rfl
   show oI bS (.int .u8 (x:Int)::lL l)=_
   rw[wP,e,sA,ih fun y hy=>h y (by simp[hy]),sA]
 rw[hb l hlt,sA]
theorem zvj{T el cap:Nat}{y z:vD}{k:IntKind}(hT:C.tys.get T=some y)(hel:y.desc.asSlice=some el)(hz:C.tys.get el=some z)(hzero:z.zero=[.int k 0])(hs:z.size=1)(hby:z.bytes<=8)(hn:cap<1000000){b:Nat}(hb:t.get b=none) :
  ∃t',sL C T (.int .i64 0) (.int .i64 (cap:Int)) ⟨b,t⟩=some (.slice b 0 0 cap,⟨b+1,t'⟩)/\xD t' b none (List.replicate cap (.int k 0))/\cA t t'/\kD b t t':=by
 have hrep:∀n,rJ [zA.int k 0] n=List.replicate n (.int k 0):=by
  intro n;induction n with
  | zero=>rfl
  | succ n ih=>unfold rJ;rw[ih,eH,List.replicate_succ];rfl
 obtain⟨t',h1,h2,h3,h4⟩:=zdc hb (List.replicate cap (.int k 0)) none
 refine⟨t',?_,h2,h3,h4⟩
 unfold sL;rw[hT,sA,hel,sA,hz,sA];have e1:(zA.int .i64 (cap:Int)).asNat=some cap:=rfl
 have e0:(zA.int .i64 0).asNat=some 0:=rfl
 rw[e1,e0,sA,sA];have e2:(Nat.ble 0 cap&&Nat.blt cap 1000000&&Nat.blt (cap*z.bytes) 1000000000&&Nat.beq (wB z.zero) z.size)=true:=by
  rw[hzero,hs,show Nat.ble 0 cap=true from cE.2 (Nat.zero_le _),lC.2 hn]
  have:cap*z.bytes<1000000000:=by
   have:=ycc (Nat.le_of_lt hn) hby
   omega
  rw[lC.2 this];rfl
 rw[e2,qF,hzero,hrep,h1]
end
end Go.Am
namespace Go.Proofs
open Go Go.Am
variable [dC]
variable {t:Tr jA}
def fM(b:Bool):List Nat:=if b then [116,114,117,101]else [102,97,108,115,101]
def cI:List Nat->List Nat
 | []=>[]
 | x::l=>x / 256::x%256::cI l
def jJ (w:dH):List Nat:=44::fM w.neg++gJ ((2*w.limbs.length:Nat):Int)++[44]++cI w.limbs
def dA (v:aA):List Nat:=gJ (v.kind:Int)++[44]++gJ v.i++jJ v.f.n++jJ v.f.d
theorem pX:∀l,(cI l).length=2*l.length
 | []=>rfl
 | x::l=>by simp[cI,pX l];omega
theorem zf7:∀(l:List Nat) (x:Nat),cI (l++[x])=cI l++[x / 256,x%256]
 | [],x=>rfl
 | y::l,x=>by simp[cI,zf7 l x]
theorem zke:∀ {l:List Nat},dB 65536 l->dB 256 (cI l)
 | [],_=>fun x hx=>(by cases hx)
 | y::l,h=>fun x hx=>by
  have hy:=h y (by simp)
  simp only[cI,yat]at hx;rcases hx with rfl | rfl | hx
  ·omega
  ·omega
  ·exact zke (l:=l) (fun z hz=>h z (by simp[hz])) x hx
theorem zbx{n:Int}(h0 : -9223372036854775808<=n)(h1:n<9223372036854775808):(gJ n).length<=21:=by
 unfold gJ;rw[yag];exact Lib.itoa_length_le n h0 (by omega)
theorem zl7{n:Int}(h0 : -9223372036854775808<=n)(h1:n<9223372036854775808):rD yA F 291 [.int .i64 n] t=some (.str (gJ n)):=by
 have hg:yA.prims.get 291=some zu6:=by kernel_rfl
 refine zgw hg fun H=>?_
 unfold zu6;simp only[];rw[xF.2 h0,mB.2 h1];rfl
theorem z1g{b:Bool}:rD yA F 246 [.bool b] t=some (.str (fM b)):=by
 refine mF.2 (w246 _ ?_)
 simp only[t246,pA,q287];refine w287 _ ?_
 cases b<;>simp only[t287,pA,if_true,yar,if_false,lI,xA] <;> (first | exact⟨rfl,rfl⟩ | exact⟨rfl,trivial⟩ | trivial)
theorem zU{a b:List Nat}(h:a.length+b.length<4611686018427387904):zug a b=some (.str (a++b)):=by
 unfold zug;rw[bD,bD,lC.2 h,eH];rfl
theorem el188:zK yA 188 5 1:=⟨⟨_,zy4,rfl,rfl⟩,⟨_,ty5,rfl,rfl,by decide,by decide⟩⟩
theorem zwj{s:List Nat}{f:gF}{fa fb:zA}{j:Nat}{w:dH}{u:zA}{b:Nat}{t0:Tr jA}{Q:cB}(hu:oA t0 1 (jC w.limbs) u)(hl:w.limbs.length<400)(hlt:dB 65536 w.limbs)(hs:s.length<4000)(hbase:yA.base<=b)(hb:t0.get b=none)
  (hQ:∀t',cA t0 t'->jp 276 2 [.str (s++jJ w),.agg [.bool f.n.neg,fa,.bool f.d.neg,fb],.int .i64 (vA .i64 ((j:Int)+1))] t' Q) :
  ∀(m i:Nat) (t':Tr jA),i+m=w.limbs.length->cA t0 t'->xD t' b none (lL (cI (w.limbs.take i))++List.replicate (2*m+1) (.int .u8 0)) →
  jp 276 6 [.str s,.slice b 0 (2*i) (2*w.limbs.length+1),.agg [.bool f.n.neg,fa,.bool f.d.neg,fb],.int .i64 (j:Int),u,.int .i64 (w.limbs.length:Int),.int .i64 (i:Int),.bool w.neg,u] t' Q:=by
 intro m;induction m with
 | zero=>
  intro i t' hi ht hc;refine z3m _ _ _ _ _ _ _ _ _ _ _ _ ?_
  rw[ybb (by omega)]at hc
  have lv:uB (.slice b 0 (2*i) (2*w.limbs.length+1))=some (.int .i64 ((2*w.limbs.length:Nat):Int)):=by
   have:i=w.limbs.length:=by omega
   subst this;rfl
  have cv:tM yA 188 9 ⟨0,t'⟩ (.slice b 0 (2*i) (2*w.limbs.length+1))=some (.str (cI w.limbs)):=by
   refine zrh zy4 ty9 rfl rfl rfl ty5 rfl hc (by rw[pX];omega) (fun k x hk=>?_) (zke hlt)
   rw[ybp (by simp[lL,(yad.1 hk).1])]
   simp[lL,hk]
  have hlb:=pX w.limbs
  have hli:=zbx (n:=((2*w.limbs.length:Nat):Int)) (by omega) (by omega)
  have hbt:(fM w.neg).length<=5:=by unfold fM;split<;>simp
  simp only[ztm,pA,mB];rw[if_neg (by omega)]
  simp only[lv,cv,xA,yB,lI,aL,zbq,if_true,q246,z1g];rw[zU (a:=[44]) (b:=fM w.neg) (by simp;omega)]
  simp only[xA,lI,q291];rw[zl7 (by omega) (by omega)]
  simp only[xA,lI,cv,zbq,if_true];rw[zU (by simp only[yah,yao,yay];omega)]
  simp only[xA,lI];rw[zU (by simp only[yah,yao,yay];omega)]
  simp only[xA,lI];rw[zU (by simp only[yah,yao,yay];omega)]
  simp only[xA,lI];rw[zU (by simp only[yah,yao,yay];omega)]
  simp only[xA,lI];exact hQ t' ht
 | succ m ih=>
  intro i t' hi ht hc;have hlt1:i<w.limbs.length:=by omega
  obtain⟨x,hx⟩:=getElem?_of_lt hlt1
  have hx16:x<65536:=bI hlt hx
  obtain⟨p,off,g1,g2⟩:=oA.idx (C:=yA) zt7 (hu.mono ht) hx
  refine z3m _ _ _ _ _ _ _ _ _ _ _ _ ?_
  simp only[ztm,pA,mB];have e1:vA .u8 (Int.fdiv (x:Int) 256)=((x / 256:Nat):Int):=by
   rw[show Int.fdiv (x:Int) 256=((x / 256:Nat):Int) from oO _ 256,zr8 (by omega) (by omega)]
  have e2:vA .u8 (x:Int)=((x%256:Nat):Int):=by
   have:vA .u8 (x:Int)=(x:Int)%256:=by rw[qK];simp only[IntKind.wrap,IntKind.bits,IntKind.signed];simp
   rw[this];omega
  rw[if_pos (by omega),g1,xA,g2,xA,yB,xA,e1,e2]
  intro n hn _;obtain⟨t1,a1,a2,a3,a4⟩:=vP (C:=yA) (T:=188) (el:=5) (sz:=1) (n:=2) (cl:=[[.int .u8 ((x / 256:Nat):Int)],[.int .u8 ((x%256:Nat):Int)]]) (ps:=[(0,.int .u8 ((x / 256:Nat):Int)),(1,.int .u8 ((x%256:Nat):Int))]) zy4 rfl ty5 rfl rfl (by decide) rfl (fun i cs hi=>by
   rcases i with _ | _ | i
   ·simp at hi;subst hi;rfl
   ·simp at hi;subst hi;rfl
   ·simp at hi) rfl hn
  have hbn:b≠n:=by
   intro e;subst e;obtain⟨c,hc1,_⟩:=hc
   rw[hc1]at hn;cases hn
  rw[a1,xA];intro k _ _;have htl:(w.limbs.take i).length=i:=by simp;omega
  have hbl:(lL (cI (w.limbs.take i))).length=2*i:=by simp[lL,pX,htl]
  obtain⟨t2,b1,b2,b3⟩:=zm4 (C:=yA) (n:=k) (k:=2*i) (m:=2) (cap:=2*w.limbs.length+1) el188 (hc.off (a4 b hbn)) hbase a2 rfl (by decide) (by omega) (by simp[hbl];omega) (by
   intro a ha;simp only[List.flatten_cons,List.flatten_nil,ybe,List.singleton_append,yat,List.not_mem_nil,or_false]at ha;rcases ha with rfl | rfl<;>rfl)
  have b1':eE yA 188 188 (.slice b 0 (2*i) (2*w.limbs.length+1)) (.slice n 0 2 2) ⟨k,t1⟩=some (.slice b 0 (2*i+2) (2*w.limbs.length+1),⟨k,t2⟩):=b1
  rw[b1',xA,fB (by omega) (by omega)]
  have hcells:zJ (lL (cI (w.limbs.take i))++List.replicate (2*(m+1)+1) (.int .u8 0)) (2*i) [.int .u8 ((x / 256:Nat):Int),.int .u8 ((x%256:Nat):Int)]=lL (cI (w.limbs.take (i+1)))++List.replicate (2*m+1) (.int .u8 0):=by
   have hdr:(lL (cI (w.limbs.take i))++List.replicate (2*(m+1)+1) (zA.int .u8 0)).drop (2*i+2)=List.replicate (2*m+1) (.int .u8 0):=by
    rw[List.drop_append,List.drop_of_length_le (by omega),hbl,List.nil_append,List.drop_replicate];congr 1;omega
   unfold zJ;rw[List.take_left' hbl];show lL (cI (w.limbs.take i))++([.int .u8 ((x / 256:Nat):Int),.int .u8 ((x%256:Nat):Int)]++(lL (cI (w.limbs.take i))++List.replicate (2*(m+1)+1) (zA.int .u8 0)).drop (2*i+2))=_
   rw[hdr,vR hx,zf7];unfold lL;rw[List.map_append,yba];rfl
  have b2':xD t2 b none (lL (cI (w.limbs.take (i+1)))++List.replicate (2*m+1) (.int .u8 0)):=by rw[<- hcells];exact b2
  have:=ih (i+1) t2 (by omega) ((ht.trans a3).off hb b3) b2'
  rw[show 2*(i+1)=2*i+2 by omega,show((i+1:Nat):Int)=(i:Int)+1 by omega]at this
  exact this
theorem zjr{s:List Nat}{f:gF}{fa fb:zA}{j:Nat}{w:dH}{u:zA}{Q:cB}(hj:j<2)(hv:aN yA 325 (.agg [.bool f.n.neg,fa,.bool f.d.neg,fb]) (.int .i64 (j:Int))=some (.agg [.bool w.neg,u]))(hu:oA t 1 (jC w.limbs) u)(hl:w.limbs.length<400)(hlt:dB 65536 w.limbs)(hs:s.length<4000)
  (hQ:∀t',cA t t'->jp 276 2 [.str (s++jJ w),.agg [.bool f.n.neg,fa,.bool f.d.neg,fb],.int .i64 ((j+1:Nat):Int)] t' Q):jp 276 2 [.str s,.agg [.bool f.n.neg,fa,.bool f.d.neg,fb],.int .i64 (j:Int)] t Q:=by
 refine z3n _ _ _ _ _ _ ?_
 simp only[ztn,pA,mB];have hz:qG [(.bool false),.nilslice] (.agg [.bool w.neg,u])=some (cellsOf [.bool w.neg,u]):=iL (by
  show(true&&(gG .nilslice u&&true))=true
  rw[yI hu];rfl)
 have hone:bB zA.one [.bool w.neg,u]=true:=by rw[oG];simp only[ybh,ybl,hu.one];rfl
 rw[if_pos (by omega),hv,xA,hz,xA]
 simp only[cellsOf,lF,sF,yaa,yab];refine xB hone ?_
 rw[hu.len,gQ,xA,yB,xA];have e1:vA .i64 (vA .i64 (2*(w.limbs.length:Int))+1)=((2*w.limbs.length+1:Nat):Int):=by
  rw[fB (n:=2*(w.limbs.length:Int)) (by omega) (by omega),fB (by omega) (by omega)];omega
 rw[e1];intro b hb hbase;obtain⟨t',g1,g2,g3,_⟩:=zvj (C:=yA) (k:=.u8) (cap:=2*w.limbs.length+1) zy4 rfl ty5 rfl rfl (by decide) (by omega) hb
 rw[g1,xA,xA,yB,xA];have ej:vA .i64 ((j:Int)+1)=((j+1:Nat):Int):=by rw[fB (by omega) (by omega)];omega
 exact zwj (f:=f) (j:=j) hu hl hlt hs hbase hb (fun t2 h2=>by rw[ej];exact hQ t2 h2) w.limbs.length 0 t' (by omega) g3 (by simpa[cI,lL]using g2)
def aA.short(v:aA):Prop:=v.f.n.limbs.length<400/\v.f.d.limbs.length<400
def aA.mid(v:aA):Prop:=v.f.n.limbs.length<100000/\v.f.d.limbs.length<100000
theorem zit{v:aA}(h:aA.short v):aA.mid v:=⟨Nat.lt_trans h.1 (by decide),Nat.lt_trans h.2 (by decide)⟩
theorem key_ok{v:aA}{a b:zA}(hv:v.fit)(hs:aA.short v)(ha:oA t 1 (jC v.f.n.limbs) a)(hb:oA t 1 (jC v.f.d.limbs) b):rD yA F 276 [.agg [.int .u8 v.kind,.bool v.f.n.neg,a,.bool v.f.d.neg,b,.int .i64 v.i]] t=some (.str (dA v)):=by
 obtain⟨h1,h2,h3,h4⟩:=hv
 obtain⟨_,hn,hd⟩:=h2
 have l1:=zbx (n:=(v.kind:Int)) (by omega) (by omega)
 have l2:=zbx h3 h4
 have hk:vA .i64 (v.kind:Int)=(v.kind:Int):=fB (by omega) (by omega)
 have v0:aN yA 325 (.agg [.bool v.f.n.neg,a,.bool v.f.d.neg,b]) (.int .i64 ((0:Nat):Int))=some (.agg [.bool v.f.n.neg,a]):=by kernel_rfl
 have v1:aN yA 325 (.agg [.bool v.f.n.neg,a,.bool v.f.d.neg,b]) (.int .i64 ((0+1:Nat):Int))=some (.agg [.bool v.f.d.neg,b]):=by kernel_rfl
 have lk:(jJ v.f.n).length<1000:=by
  have hbt:(fM v.f.n.neg).length<=5:=by unfold fM;split<;>simp
  have hli:=zbx (n:=((2*v.f.n.limbs.length:Nat):Int)) (by omega) (by have:=hs.1;omega)
  have:=hs.1
  unfold jJ;simp[pX]
  simp at hli;omega
 refine zi3 (w276 _ _ _ _ _ _ ?_)
 simp only[t276,pA,hk];rw[q291,zl7 (by omega) (by omega),xA,lI,xA,if_pos aL,zU (by simp only[yah,yao,yay];omega),xA,lI,xA,q291,zl7 h3 h4,xA,lI,xA,zU (by simp only[yah,yao,yay];omega),xA,lI,xA]
 simp only[if_true];refine zjr (f:=v.f) (j:=0) (w:=v.f.n) (by omega) v0 ha hs.1 hn (by simp;omega) fun t1 k1=>?_
 refine zjr (f:=v.f) (j:=0+1) (w:=v.f.d) (by omega) v1 (hb.mono k1) hs.2 hd (by simp;omega) fun t2 k2=>?_
 refine z3n _ _ _ _ _ _ ?_
 simp only[ztn,pA,mB];rw[if_neg (by omega)]
 exact⟨by unfold dA;rfl,k1.trans k2⟩
end Go.Proofs
namespace Go.Proofs
open Go Go.Am
variable [dC]
variable {t tf:Tr jA}{key:aA->List Nat}{r:TR}{s:kE}
theorem _root_.Go.Am.Objs.copy{base:Nat}{L:List lD}(h:Objs base tf t L){n:Nat}{t' tf':Tr jA}(hn:t.get n=none)(h1:cA tf tf')(h2:cA tf' t')(h3:kD n t t')(h4:kD n tf tf'):Objs base tf' t' L:=
 h.keep h1 h2 fun k hk=>by
  have:k≠n:=fun e=>h.fresh hn (e ▸ hk)
  exact⟨h3 k this,by rw[h4 k this];exact(h.low k hk).2⟩
theorem zoq{w:dH}{u:zA}(hu:oA t 1 (jC w.limbs) u):RD t w.d [.bool w.neg,u]:=by
 unfold dH.d;rw[kI];refine⟨[[.bool w.neg],[u]],rfl,?_⟩
 simp only[zE,oE,cQ,aJ];exact⟨_,_,rfl,rfl,_,_,rfl,⟨u,rfl,hu⟩,rfl⟩
theorem zl3{f:gF}{u v:zA}(hu:oA t 1 (jC f.n.limbs) u)(hv:oA t 1 (jC f.d.limbs) v):RD t f.dd [.bool f.n.neg,u,.bool f.d.neg,v]:=by
 unfold gF.dd;rw[kI];refine⟨[[.bool f.n.neg,u],[.bool f.d.neg,v]],rfl,?_⟩
 rw[zE];refine⟨_,_,rfl,zoq hu,?_⟩
 rw[zE];exact⟨_,_,rfl,zoq hv,oE.2 rfl⟩
theorem zfm{x:aA}{u v:zA}(hu:oA t 1 (jC x.f.n.limbs) u)(hv:oA t 1 (jC x.f.d.limbs) v):RD t x.d [.int .u8 x.kind,.bool x.f.n.neg,u,.bool x.f.d.neg,v,.int .i64 x.i]:=by
 unfold aA.d;rw[kI];refine⟨[[.int .u8 x.kind],[.bool x.f.n.neg,u,.bool x.f.d.neg,v],[.int .i64 x.i]],rfl,?_⟩
 rw[zE];refine⟨_,_,rfl,gL.2 rfl,?_⟩
 rw[zE];refine⟨_,_,rfl,zl3 hu hv,?_⟩
 rw[zE];exact⟨_,_,rfl,gL.2 rfl,oE.2 rfl⟩
theorem el41:zK yA 41 227 1:=⟨⟨_,ty41,rfl,rfl⟩,⟨_,zp3,rfl,rfl,by decide,by decide⟩⟩
theorem zmt{L:List lD}{v:aA}{a b:zA}{Q:cB}(h:Objs yA.base tf t L)(hs:aA.mid v)(ha:oA tf 1 (jC v.f.n.limbs) a)(hb:oA tf 1 (jC v.f.d.limbs) b)
  (hQ:∀tf' t' a' b',cA tf tf'->Objs yA.base tf' t' L->oA tf' 1 (jC v.f.n.limbs) a'->oA tf' 1 (jC v.f.d.limbs) b'->Q (.agg [.int .u8 v.kind,.bool v.f.n.neg,a',.bool v.f.d.neg,b',.int .i64 v.i]) t') :
  Wc yA F 102 [.agg [.int .u8 v.kind,.bool v.f.n.neg,a,.bool v.f.d.neg,b,.int .i64 v.i]] t Q:=by
 refine w102 _ _ _ _ _ _ ?_
 simp only[t102,pA];intro n hn _;obtain⟨a',k,t1,tf1,g1,g2,g3,g4,_,g6,g7⟩:=zbk (C:=yA) el41 ha h.tle (by rw[gQ];have:=hs.1;omega) hn
 have h1:=h.copy hn g3 g4 g6 g7
 have o1:bB zA.one [a']=true:=by rw[oG];simp only[ybh,ybl,g2.one];rfl
 rw[g1,xA,if_pos o1];intro m hm _;obtain⟨b',k',t2,tf2,m1,m2,m3,m4,_,m6,m7⟩:=zbk (C:=yA) el41 (hb.mono g3) h1.tle (by rw[gQ];have:=hs.2;omega) hm
 have h2:=h1.copy hm m3 m4 m6 m7
 have o2:bB zA.one [b']=true:=by rw[oG];simp only[ybh,ybl,m2.one];rfl
 have o3:bB zA.one [.int .u8 v.kind,.bool v.f.n.neg,a',.bool v.f.d.neg,b',.int .i64 v.i]=true:=by rw[oG];simp only[ybh,ybl,g2.one,m2.one];rfl
 rw[m1,xA,if_pos o2,if_pos o3];exact hQ tf2 t2 a' b' (g3.trans m3) h2 (g2.mono m3) m2
theorem zdh{m:Nat}{l:List (List Nat)}{k:List Nat}(h:t.get m=some (.map (uE 0 l))):cP yA 107 ⟨0,t⟩ (.map m) (.str k) true=some (if k∈l then .tup [.int .i64 ((gI k l:Nat):Int),.bool true]else .tup [.int .i64 0,.bool false]):=by
 unfold cP;rw[zy5,sA];simp only[nE.asMap,sA];rw[ty9,sA,ty3];simp only[sA];unfold zeo kL;simp only[zA.asMap];rw[h,sA];simp only[jA.asMap,sA]
 rw[zf0,yax];by_cases hk:k∈l
 ·rw[if_pos hk,if_pos hk];rfl
 ·rw[if_neg hk,if_neg hk];rfl
theorem zcd{m:Nat}{l:List (List Nat)}{k:List Nat}(h:t.get m=some (.map (uE 0 l)))(hb:yA.base<=m)(hk:k∉l) :
  ∃t',(∀n,tS yA 107 (.map m) (.str k) (.int .i64 (l.length:Int)) ⟨n,t⟩=some (rE,⟨n,t'⟩))/\t'.get m=some (.map (uE 0 (l++[k])))/\kD m t t':=by
 refine⟨t.set m (.map (uE 0 (l++[k]))),fun n=>?_,by rw[Tr.get_set,if_pos rfl],fun c hc=>by rw[Tr.get_set,if_neg hc]⟩
 unfold tS;rw[zy5,sA];simp only[nE.asMap,sA];rw[ty9,sA];simp only[zA.asMap,sA];have e2:(!Nat.blt m yA.base)=true:=by
  cases hq:Nat.blt m yA.base with
  | true=>have:=lC.1 hq;omega
  | false=>rfl
 have:=zbc l 0 hk
 rw[yax]at this;unfold kL;rw[e2,qF,h,sA];simp only[jA.asMap,sA];rw[this,sA];rfl
theorem el30:zK yA 30 9 1:=⟨⟨_,z4l,rfl,rfl⟩,⟨_,ty9,rfl,rfl,by decide,by decide⟩⟩
theorem el31:zK yA 31 47 6:=⟨⟨_,z2e,rfl,rfl⟩,⟨_,ty47,rfl,rfl,by decide,by decide⟩⟩
theorem el32:zK yA 32 37 1:=⟨⟨_,z4k,rfl,rfl⟩,⟨_,zrw,rfl,rfl,by decide,by decide⟩⟩
def addN (l:List (List Nat))(n:List Nat):List (List Nat):=if n∈l then l else l++[n]
def addC (key:aA->List Nat)(l:List aA)(v:aA):List aA:=if key v∈l.map key then l else l++[v]
theorem zl1{n:List Nat}{Q:cB}(h:TS key tf t r s)(hl:s.names.length<300000)
  (hQ:∀t' r',r'.b=r.b->r'.kp=r.kp->TS key tf t' r' ⟨addN s.names n,s.consts,s.ws,s.ts,s.code⟩->Q (.int .i64 ((gI n s.names:Nat):Int)) t'):Wc yA F 234 [.ptr r.b 0,.str n] t Q:=by
 refine w234 _ _ ?_
 simp only[t234,pA];rw[xJ,xA,nO,xA,zdw,xA,h.ldN,xA];simp only[xJ,xA,nO,z6y,zdw,h.ldM1];rw[q277];refine w277 _ _ _ _ ?_
 simp only[t277,pA];rw[zdh h.map1,xA];have hlen:r.cells.length=11:=by simp[TR.cells,h.pl]
 unfold addN at hQ;by_cases hk:n∈s.names
 ·rw[if_pos hk]at hQ ⊢
  simp only[vC,zA.asTup,sA,vE,yaa,yab,xA,yB,mD,Bool.not_true,yar,if_false];intro m _ _;obtain⟨t1,g1,g2,g3⟩:=h.cel.store1 (C:=yA) h.baseB.1 (j:=4) (v:=r.vn) z4l rfl (by
   rcases h.ln with⟨e,_⟩ | ⟨b,cl,c,e,_⟩<;>rw[e]<;>rfl) h.ln.one (by omega)
  have es:r.cells.set 4 r.vn=r.cells:=by
   have:=lS (p:=r.pl) h.pl (l:=[r.vn,r.vc,r.vw,r.vt,.map r.m1,.map r.m2,r.vk]) (k:=0) (v:=r.vn)
   exact this
  rw[es]at g2;rw[g1,xA];refine hQ t1 r rfl rfl ⟨h.pl,?_⟩
  exact Objs.upd (A:=[]) (o:=dD r.b none r.cells) h.os (fun k k1 _=>g3 k (fun e=>k1 (by simp[dD,e]))) (fun k hk=>.inl hk) g2 (by simp[dD]) (h.os.tle.off h.baseB.2 g3)
 ·rw[if_neg hk]at hQ ⊢
  simp only[vC,zA.asTup,sA,vE,yaa,yab,xA,yB,mD,ybm,if_true,h.ln.len,yag];intro m0 _ _;have lowM:yA.base<=r.m1/\tf.get r.m1=none:=h.os.low r.m1 (by simp[tsL,dD,wE])
  obtain⟨t1,a1,a2,a3⟩:=zcd h.map1 lowM.1 hk
  have o1:Objs yA.base tf t1 ([dD r.b none r.cells]++wE r.m1 (uE 0 (s.names++[n]))::[wE r.m2 (uE 0 (s.consts.map key)),aB yA.base 1 (s.names.map D.str) r.vn,aB yA.base 6 (s.consts.map aA.d) r.vc,aB yA.base 1 s.ws r.vw,aB yA.base 1 s.ts r.vt,aB yA.base 3 (s.code.map XIns.d) r.vk]):=
   Objs.upd (o:=wE r.m1 (uE 0 s.names)) h.os (fun k k1 _=>a3 k (fun e=>k1 (by simp[wE,e]))) (fun k hk=>.inl hk) a2 (by simp[wE]) (h.os.tle.off lowM.2 a3)
  rw[a1,xA];intro n2 hn2 _;obtain⟨t2,b1,b2,b3,b4⟩:=vP (C:=yA) (T:=30) (el:=9) (sz:=1) (n:=1) (cl:=[[.str n]]) (ps:=[(0,.str n)]) z4l rfl ty9 rfl rfl (by decide) rfl (fun i cs hi=>by
   cases i with
   | zero=>simp at hi;subst hi;rfl
   | succ i=>simp at hi) rfl hn2
  have o2:=o1.junk hn2 b4
  rw[b1,xA];intro n3 hn3 hb3;have ln2:Loose yA.base tf t2 1 (s.names.map D.str) r.vn:=o2.ok (aB yA.base 1 (s.names.map D.str) r.vn) (by simp)
  obtain⟨t3,c1,c2,c3,c4⟩:=fU (C:=yA) el30 (m:=[.str n]) ln2 b2 (by simp[zE,oE,zN]) (by intro a ha;simp at ha;subst ha;rfl) (by simp) (by simp;omega) hn3 hb3 o2.tle
  have ec:(s.names.map D.str).length+[D.str n].length=(s.names++[n]).length:=by simp
  have hd:s.names.map D.str++[D.str n]=(s.names++[n]).map D.str:=by simp
  rw[ec,hd]at c2;have o3:Objs yA.base tf t3 ([dD r.b none r.cells,wE r.m1 (uE 0 (s.names++[n])),wE r.m2 (uE 0 (s.consts.map key))]++aB yA.base 1 ((s.names++[n]).map D.str) (.slice n3 0 (s.names++[n]).length (s.names++[n]).length)::[aB yA.base 6 (s.consts.map aA.d) r.vc,aB yA.base 1 s.ws r.vw,aB yA.base 1 s.ts r.vt,aB yA.base 3 (s.code.map XIns.d) r.vk]):=by
   refine Objs.upd (o:=aB yA.base 1 (s.names.map D.str) r.vn) o2 (fun k k1 k2=>c4 k ?_ (fun e=>k1 (pL.2 e))) (fun k hk=>?_) c2 (by simp[aB,lE]) c3
   ·intro e;subst e;exact k2 (by simp[aB,lE])
   ·have:k=n3:=by simpa[aB,lE]using hk
    subst this;exact .inr ⟨hn3,hb3⟩
  rw[c1,xA,ec];simp only[vC,zA.asTup,sA,vE,yaa,yab,xA,yB];intro m4 _ _;have cel3:xD t3 r.b none r.cells:=o3.ok (dD r.b none r.cells) (by simp)
  obtain⟨t4,g1,g2,g3⟩:=cel3.store1 (C:=yA) h.baseB.1 (j:=4) (v:=.slice n3 0 (s.names++[n]).length (s.names++[n]).length) z4l rfl rfl rfl (by omega)
  have es:r.cells.set 4 (.slice n3 0 (s.names++[n]).length (s.names++[n]).length)=TR.cells ⟨r.b,r.pl,.slice n3 0 (s.names++[n]).length (s.names++[n]).length,r.vc,r.vw,r.vt,r.vk,r.m1,r.m2⟩:=lS (k:=0) h.pl
  rw[es]at g2;rw[g1,xA,<- tU hk];refine hQ t4 ⟨r.b,r.pl,.slice n3 0 (s.names++[n]).length (s.names++[n]).length,r.vc,r.vw,r.vt,r.vk,r.m1,r.m2⟩ rfl rfl ⟨h.pl,?_⟩
  exact Objs.upd (A:=[]) (o:=dD r.b none r.cells) o3 (fun k k1 _=>g3 k (fun e=>k1 (by simp[dD,e]))) (fun k hk=>.inl hk) g2 (by simp[dD]) (c3.off h.baseB.2 g3)
theorem zdz{v:aA}{a b:zA}{Q:cB}(h:TS dA tf t r s)(hl:s.consts.length<300000)(hv:v.fit)(hs:aA.short v)(ha:oA tf 1 (jC v.f.n.limbs) a)(hb:oA tf 1 (jC v.f.d.limbs) b)
  (hQ:∀tf' t' r',cA tf tf'->r'.b=r.b->r'.kp=r.kp->TS dA tf' t' r' ⟨s.names,addC dA s.consts v,s.ws,s.ts,s.code⟩->Q (.int .i64 ((gI (dA v) (s.consts.map dA):Nat):Int)) t'):Wc yA F 233 [.ptr r.b 0,.agg [.int .u8 v.kind,.bool v.f.n.neg,a,.bool v.f.d.neg,b,.int .i64 v.i]] t Q:=by
 have hk0:=key_ok hv hs (ha.mono h.os.tle) (hb.mono h.os.tle)
 have hsame:same 10 (.agg [.int .u8 v.kind,.bool v.f.n.neg,a,.bool v.f.d.neg,b,.int .i64 v.i]) (.agg [.int .u8 v.kind,.bool v.f.n.neg,a,.bool v.f.d.neg,b,.int .i64 v.i])=true:=by
  show Am.same.sames 9 [.int .u8 v.kind,.bool v.f.n.neg,a,.bool v.f.d.neg,b,.int .i64 v.i] [.int .u8 v.kind,.bool v.f.n.neg,a,.bool v.f.d.neg,b,.int .i64 v.i]=true
  simp only[Am.same.sames,aL,zue,ha.same,hb.same,Bool.and_self]
 have sm:∀m d,same d (.map m) (.map m)=true:=fun m d=>by
  have e:∀n,Nat.beq n n=true:=Nat.beq_refl
  cases d <;> (unfold Am.same;simp only[e,Bool.and_self])
 refine w233 _ _ _ _ _ _ _ ?_
 simp only[t233,pA];rw[xJ,xA,nO,xA,zdv,xA,h.ldC,xA];simp only[xJ,xA,nO,z6x,zdv,h.ldM2];rw[q276,hk0,xA,lI,xA]
 simp only[xA,h.ldC,h.ldM2,h.lc.same,sm,hsame,if_true];rw[q102];refine zmt h.os (zit hs) ha hb fun tf1 t1 a' b' q1 q2 q3 q4=>?_
 have h1:TS dA tf1 t1 r s:=⟨h.pl,q2⟩
 have hz:qG [(.int .u8 0),(.bool false),.nilslice,(.bool false),.nilslice,(.int .i64 0)] (.agg [.int .u8 v.kind,.bool v.f.n.neg,a',.bool v.f.d.neg,b',.int .i64 v.i])=some (cellsOf [.int .u8 v.kind,.bool v.f.n.neg,a',.bool v.f.d.neg,b',.int .i64 v.i]):=iL (by
  show(true&&(true&&(gG .nilslice a'&&(true&&(gG .nilslice b'&&true)))))=true
  rw[yI q3,yI q4];rfl)
 rw[hz,xA];simp only[xA,h1.ldC,h1.ldM2,h1.lc.same,sm,if_true,cellsOf,lF,sF,yG,yaa,yab];rw[q275];refine w275 _ _ _ _ _ _ _ _ _ ?_
 simp only[t275,pA];rw[zdh h1.map2,xA];have hlen:r.cells.length=11:=by simp[TR.cells,h.pl]
 unfold addC at hQ;by_cases hk:dA v∈s.consts.map dA
 ·rw[if_pos hk]at hQ ⊢
  simp only[vC,zA.asTup,sA,vE,yaa,yab,xA,yB,mD,Bool.not_true,yar,if_false,xJ,nO,zdv];intro m _ _;obtain⟨t2,g1,g2,g3⟩:=h1.cel.store1 (C:=yA) h.baseB.1 (j:=5) (v:=r.vc) z2e rfl (by
   rcases h.lc with⟨e,_⟩ | ⟨b,cl,c,e,_⟩<;>rw[e]<;>rfl) h.lc.one (by omega)
  have es:r.cells.set 5 r.vc=r.cells:=by
   have:=lS (p:=r.pl) h.pl (l:=[r.vn,r.vc,r.vw,r.vt,.map r.m1,.map r.m2,r.vk]) (k:=1) (v:=r.vc)
   exact this
  rw[es]at g2;rw[g1,xA];refine hQ tf1 t2 r q1 rfl rfl ⟨h.pl,?_⟩
  exact Objs.upd (A:=[]) (o:=dD r.b none r.cells) h1.os (fun k k1 _=>g3 k (fun e=>k1 (by simp[dD,e]))) (fun k hk=>.inl hk) g2 (by simp[dD]) (h1.os.tle.off h1.baseB.2 g3)
 ·rw[if_neg hk]at hQ ⊢
  simp only[vC,zA.asTup,sA,vE,yaa,yab,xA,yB,mD,ybm,if_true,h1.lc.len,yag,xJ,nO,zdv];intro m0 _ _;have lowM:yA.base<=r.m2/\tf1.get r.m2=none:=h1.os.low r.m2 (by simp[tsL,dD,wE])
  obtain⟨t2,a1,a2,a3⟩:=zcd h1.map2 lowM.1 hk
  rw[yag]at a1;have em:s.consts.map dA++[dA v]=(s.consts++[v]).map dA:=by simp
  rw[em]at a2;have o1:Objs yA.base tf1 t2 ([dD r.b none r.cells,wE r.m1 (uE 0 s.names)]++wE r.m2 (uE 0 ((s.consts++[v]).map dA))::[aB yA.base 1 (s.names.map D.str) r.vn,aB yA.base 6 (s.consts.map aA.d) r.vc,aB yA.base 1 s.ws r.vw,aB yA.base 1 s.ts r.vt,aB yA.base 3 (s.code.map XIns.d) r.vk]):=
   Objs.upd (o:=wE r.m2 (uE 0 (s.consts.map dA))) h1.os (fun k k1 _=>a3 k (fun e=>k1 (by simp[wE,e]))) (fun k hk=>.inl hk) a2 (by simp[wE]) (h1.os.tle.off lowM.2 a3)
  rw[a1,xA];intro n2 hn2 _;obtain⟨t3,b1,b2,b3,b4⟩:=vP (C:=yA) (T:=31) (el:=47) (sz:=6) (n:=1) (cl:=[[.int .u8 v.kind,.bool v.f.n.neg,a',.bool v.f.d.neg,b',.int .i64 v.i]]) (ps:=[(0,.agg [.int .u8 v.kind,.bool v.f.n.neg,a',.bool v.f.d.neg,b',.int .i64 v.i])]) z2e rfl ty47 rfl rfl (by decide) rfl (fun i cs hi=>by
   cases i with
   | zero=>simp at hi;subst hi;rfl
   | succ i=>simp at hi) rfl hn2
  have o2:=o1.junk hn2 b4
  rw[b1,xA];intro n3 hn3 hb3;have ln2:Loose yA.base tf1 t3 6 (s.consts.map aA.d) r.vc:=o2.ok (aB yA.base 6 (s.consts.map aA.d) r.vc) (by simp)
  have hrd:RD tf1 v.d [.int .u8 v.kind,.bool v.f.n.neg,a',.bool v.f.d.neg,b',.int .i64 v.i]:=zfm q3 q4
  obtain⟨t4,c1,c2,c3,c4⟩:=fU (C:=yA) el31 (m:=[v.d]) ln2 b2 (by rw[zE];exact⟨_,_,rfl,hrd,oE.2 rfl⟩) (by
   intro x hx;simp only[List.flatten_cons,List.flatten_nil,ybe,yat,List.not_mem_nil,or_false]at hx;rcases hx with rfl | rfl | rfl | rfl | rfl | rfl
   ·rfl
   ·rfl
   ·exact q3.one
   ·rfl
   ·exact q4.one
   ·rfl) (by simp) (by simp;omega) hn3 hb3 o2.tle
  have ec:(s.consts.map aA.d).length+[v.d].length=(s.consts++[v]).length:=by simp
  have hd:s.consts.map aA.d++[v.d]=(s.consts++[v]).map aA.d:=by simp
  rw[ec,hd]at c2;have o3:Objs yA.base tf1 t4 ([dD r.b none r.cells,wE r.m1 (uE 0 s.names),wE r.m2 (uE 0 ((s.consts++[v]).map dA)),aB yA.base 1 (s.names.map D.str) r.vn]++aB yA.base 6 ((s.consts++[v]).map aA.d) (.slice n3 0 (s.consts++[v]).length (s.consts++[v]).length)::[aB yA.base 1 s.ws r.vw,aB yA.base 1 s.ts r.vt,aB yA.base 3 (s.code.map XIns.d) r.vk]):=by
   refine Objs.upd (o:=aB yA.base 6 (s.consts.map aA.d) r.vc) o2 (fun k k1 k2=>c4 k ?_ (fun e=>k1 (pL.2 e))) (fun k hk=>?_) c2 (by simp[aB,lE]) c3
   ·intro e;subst e;exact k2 (by simp[aB,lE])
   ·have:k=n3:=by simpa[aB,lE]using hk
    subst this;exact .inr ⟨hn3,hb3⟩
  rw[c1,xA,ec];simp only[vC,zA.asTup,sA,vE,yaa,yab,xA,yB,xJ,nO,zdv];intro m4 _ _;have cel3:xD t4 r.b none r.cells:=o3.ok (dD r.b none r.cells) (by simp)
  obtain⟨t5,g1,g2,g3⟩:=cel3.store1 (C:=yA) h.baseB.1 (j:=5) (v:=.slice n3 0 (s.consts++[v]).length (s.consts++[v]).length) z2e rfl rfl rfl (by omega)
  have es:r.cells.set 5 (.slice n3 0 (s.consts++[v]).length (s.consts++[v]).length)=TR.cells ⟨r.b,r.pl,r.vn,.slice n3 0 (s.consts++[v]).length (s.consts++[v]).length,r.vw,r.vt,r.vk,r.m1,r.m2⟩:=lS (k:=1) h.pl
  rw[es]at g2;have ek:((gI (dA v) (s.consts.map dA):Nat):Int)=(s.consts.length:Int):=by rw[tU hk,yag]
  rw[g1,xA,<- ek];refine hQ tf1 t5 ⟨r.b,r.pl,r.vn,.slice n3 0 (s.consts++[v]).length (s.consts++[v]).length,r.vw,r.vt,r.vk,r.m1,r.m2⟩ q1 rfl rfl ⟨h.pl,?_⟩
  exact Objs.upd (A:=[]) (o:=dD r.b none r.cells) o3 (fun k k1 _=>g3 k (fun e=>k1 (by simp[dD,e]))) (fun k hk=>.inl hk) g2 (by simp[dD]) (c3.off h1.baseB.2 g3)
end Go.Proofs
namespace Go.Proofs
open Go Go.Am
variable [dC]
variable {t tf:Tr jA}{r:TR}{s:kE}
def kE.nt(s:kE):Nt:=⟨s.names,s.consts⟩
def kE.put(s:kE)(n:Nt)(l:List XIns):kE:=⟨n.names,n.consts,s.ws,s.ts,s.code++l⟩
theorem z5q(s:kE)(n:List Nat):s.nt.name n=⟨addN s.names n,s.consts⟩:=by
 unfold Nt.name addN kE.nt;split<;>rfl
theorem zoo(s:kE)(v:aA):s.nt.const dA v=⟨s.names,addC dA s.consts v⟩:=by
 unfold Nt.const addC kE.nt;split<;>rfl
theorem zi9{x:uA}{a b c:zA}{Q:cB}(h:TS dA tf t r s)(hx:x.fit)(hsh:x.op=1->aA.short x.v)(hn:s.names.length<300000)(hc:s.consts.length<300000)(hk:s.code.length<300000)
  (ha:oA tf 1 (jC x.v.f.n.limbs) a) (hb:oA tf 1 (jC x.v.f.d.limbs) b) (hcc:oA tf 9 (x.args.map uA.d) c)
  (hQ:∀tf' t' r',cA tf tf'->r'.b=r.b->r'.kp=r.kp->TS dA tf' t' r' (s.put (dE dA x.op x.name x.v x.args.length s.nt).1 [(dE dA x.op x.name x.v x.args.length s.nt).2])->Q (.tup []) t') :
  Wc yA F 170 [.ptr r.b 0,.agg (mC x a b c)] t Q:=by
 obtain⟨op,name,v,args⟩:=x
 simp only[uA.op,uA.name,uA.v,uA.args]at ha hb hcc hQ hsh;unfold uA.fit at hx;obtain⟨h1,h2,_,h3,h4,_⟩:=hx
 unfold qC at h4;have w:vA .i64 (op:Int)=(op:Int):=fB (by omega) (by omega)
 have aC:∀ {tf1 t1:Tr jA} {r1:TR} {s1:kE} {i:XIns} {Q':cB},TS dA tf1 t1 r1 s1->r1.b=r.b->s1.code.length<300000->(∀tf' t' r',cA tf1 tf'->r'.b=r1.b->r'.kp=r1.kp->TS dA tf' t' r' (s1.put s1.nt [i])->Q' (.tup []) t') →
   Wq yA F pI 168 [.ptr r.b 0,.int .u8 i.op,.int .i64 i.a,.int .i64 i.b] t1 fun _ t'=>Q' (.tup []) t':=by
  intro tf1 t1 r1 s1 i Q' k1 k2 k3 k4;rw[z2x,<- k2];exact qT k1 k3 fun tf' t' r' v p1 p2 p3 p4 _=>k4 tf' t' r' p1 p2 p3 p4
 have nm:∀ {K:Int->Prop} {Q':cB} {o:Nat} {y:Int},(dE dA op name v args.length s.nt)=(s.nt.name name,⟨o,s.nt.nameI name,y⟩) →
   Wq yA F pI 234 [.ptr r.b 0,.str name] t fun u t'=>iG (zyu .i64 u) fun n=>Wq yA F pI 168 [.ptr r.b 0,.int .u8 o,.int .i64 n,.int .i64 y] t' fun _ t'=>Q (.tup []) t':=by
  intro K Q' o y he;rw[q234];refine zl1 h hn fun t1 r1 k1 k2 k3=>?_
  rw[yB,xA];refine aC (i:=⟨o,_,y⟩) (Q':=Q) k3 k1 hk fun tf' t' r' p1 p2 p3 p4=>hQ tf' t' r' p1 (p2.trans k1) (p3.trans k2) ?_
  rw[he,z5q];exact p4
 refine w170 _ _ _ _ _ _ _ _ _ _ ?_
 have pos:∀ {k:Nat} {x y:T} {Q:cB},op=k->wp 170 x t Q->wp 170 (.ite (wA (op:Int) (k:Int)) x y) t Q:=fun h hx=>xB (cD.2 (by omega)) hx
 have neg:∀ {k:Nat} {x y:T} {Q:cB},op≠k->wp 170 y t Q->wp 170 (.ite (wA (op:Int) (k:Int)) x y) t Q:=fun h hy=>pC (fun e=>absurd (cD.1 e) (by omega)) hy
 unfold t170;by_cases c1:op=1
 ·refine pos c1 ?_
  have he:dE dA op name v args.length s.nt=(s.nt.const dA v,⟨1,s.nt.constI dA v,0⟩):=by unfold dE;rw[if_pos c1]
  simp only[pA];rw[q233];refine zdz h hc h3 (hsh c1) ha hb fun tf1 t1 r1 k0 k1 k2 k3=>?_
  rw[yB,xA];refine aC (i:=⟨1,_,0⟩) (Q':=Q) k3 k1 hk fun tf' t' r' p1 p2 p3 p4=>hQ tf' t' r' (k0.trans p1) (p2.trans k1) (p3.trans k2) ?_
  rw[he,zoo];exact p4
 ·refine neg c1 ?_
  by_cases c2:op=2
  ·refine pos c2 ?_
   have he:dE dA op name v args.length s.nt=(s.nt,⟨2,0,0⟩):=by unfold dE;rw[if_neg c1,if_pos c2]
   simp only[pA];refine aC (i:=⟨2,0,0⟩) (Q':=Q) h rfl hk fun tf' t' r' p1 p2 p3 p4=>hQ tf' t' r' p1 p2 p3 ?_
   rw[he];exact p4
  ·refine neg c2 ?_
   have h345:∀(o:Nat),op=o->(o=3\/o=4\/o=5)->dE dA op name v args.length s.nt=(s.nt.name name,⟨o,s.nt.nameI name,0⟩):=by
    intro o e1 e2;unfold dE;rw[if_neg c1,if_neg c2,if_pos (by omega),e1]
   by_cases c3:op=3
   ·refine pos c3 ?_
    simp only[pA];exact nm (K:=fun _=>True) (Q':=Q) (h345 3 c3 (by omega))
   ·refine neg c3 ?_
    by_cases c4:op=4
    ·refine pos c4 ?_
     simp only[pA];exact nm (K:=fun _=>True) (Q':=Q) (h345 4 c4 (by omega))
    ·refine neg c4 ?_
     by_cases c5:op=5
     ·refine pos c5 ?_
      simp only[pA];exact nm (K:=fun _=>True) (Q':=Q) (h345 5 c5 (by omega))
     ·refine neg c5 ?_
      by_cases c6:op=6
      ·refine pos c6 ?_
       have he:dE dA op name v args.length s.nt=(s.nt.name name,⟨6,s.nt.nameI name,args.length⟩):=by unfold dE;rw[if_neg c1,if_neg c2,if_neg (by omega),if_pos c6]
       simp only[pA];rw[hcc.len,xA,yag,yB,xA];simp only[xA,hcc.same,aL,if_true];exact nm (K:=fun _=>True) (Q':=Q) he
      ·refine neg c6 ?_
       have h8:(op=21\/op=22\/op=23)->dE dA op name v args.length s.nt=(s.nt.name name,⟨8,s.nt.nameI name,op⟩):=by
        intro e;unfold dE;rw[if_neg c1,if_neg c2,if_neg (by omega),if_neg c6,if_pos e]
       by_cases c21:op=21
       ·refine pos c21 (pos c21 ?_)
        simp only[pA,uA.op,uA.name,uA.v,uA.args,w,aL,if_true];exact nm (K:=fun _=>True) (Q':=Q) (h8 (by omega))
       ·refine neg c21 ?_
        by_cases c23:op=23
        ·refine pos c23 (pos c23 ?_)
         simp only[pA,uA.op,uA.name,uA.v,uA.args,w,aL,if_true];exact nm (K:=fun _=>True) (Q':=Q) (h8 (by omega))
        ·refine neg c23 ?_
         by_cases c22:op=22
         ·refine pos c22 ?_
          simp only[pA,uA.op,uA.name,uA.v,uA.args,w,aL,if_true];exact nm (K:=fun _=>True) (Q':=Q) (h8 (by omega))
         ·refine neg c22 ?_
          by_cases c19:op=19
          ·refine pos c19 ?_
           have he:dE dA op name v args.length s.nt=(s.nt,⟨7,19,v.i⟩):=by unfold dE;rw[if_neg c1,if_neg c2,if_neg (by omega),if_neg c6,if_neg (by omega),if_pos c19]
           simp only[pA,uA.op,uA.name,uA.v,uA.args,w];refine aC (i:=⟨7,(op:Int),v.i⟩) (Q':=Q) h rfl hk fun tf' t' r' p1 p2 p3 p4=>hQ tf' t' r' p1 p2 p3 ?_
           rw[he];subst c19;exact p4
          ·refine neg c19 ?_
           have he:dE dA op name v args.length s.nt=(s.nt,⟨7,op,0⟩):=by unfold dE;rw[if_neg c1,if_neg c2,if_neg (by omega),if_neg c6,if_neg (by omega),if_neg c19]
           simp only[pA,uA.op,uA.name,uA.v,uA.args,w];refine aC (i:=⟨7,(op:Int),0⟩) (Q':=Q) h rfl hk fun tf' t' r' p1 p2 p3 p4=>hQ tf' t' r' p1 p2 p3 ?_
           rw[he];exact p4
end Go.Proofs
namespace Go.Am
mutual
def cC:uA->Nat
 | .mk _ _ _ args=>1+wG args
def wG:List uA->Nat
 | []=>0
 | x::l=>cC x+wG l
end
section
variable {key:aA->List Nat}{valid:aA->Bool}
def kP(f:Tr1)(n:Nat):Prop:=∀s p,(f s p).2.length<=4*n/\(f s p).1.names.length<=s.names.length+n/\(f s p).1.consts.length<=s.consts.length+n
theorem z0h(s:Nt)(n:List Nat):(s.name n).names.length<=s.names.length+1/\(s.name n).consts=s.consts:=by
 unfold Nt.name;split<;>simp
theorem zj7(s:Nt)(v:aA):(s.const key v).consts.length<=s.consts.length+1/\(s.const key v).names=s.names:=by
 unfold Nt.const;split<;>simp
theorem zu7(op:Nat)(name:List Nat)(v:aA)(n:Nat)(s:Nt):(dE key op name v n s).1.names.length<=s.names.length+1/\(dE key op name v n s).1.consts.length<=s.consts.length+1:=by
 have h1:=z0h s name
 have h2:=zj7 (key:=key) s v
 unfold dE;split
 ·simp only[h2.2];omega
 ·split
  ·simp
  ·split
   ·simp only[h1.2];omega
   ·split
    ·simp only[h1.2];omega
    ·split
     ·simp only[h1.2];omega
     ·split<;>simp
theorem ze6{f g:Tr1}{n m:Nat}{skip:Nat}{truth:Int}(hf:kP f n)(hg:kP g m):kP (kK key f g skip truth) (1+(n+m)):=by
 intro s p;have h1:=hf s p
 have h2:=hg (f s p).1 (p+(f s p).2.length+1)
 have h3:=zj7 (key:=key) (g (f s p).1 (p+(f s p).2.length+1)).1 (rF truth)
 unfold kK;simp only[yah,yao,yay,h3.2];omega
theorem zzn{f g h:Tr1}{n m k:Nat}(hf:kP f n)(hg:kP g m)(hh:kP h k):kP (ifT f g h) (1+(n+(m+k))):=by
 intro s p;have h1:=hf s p
 have h2:=hg (f s p).1 (p+(f s p).2.length+1)
 have h3:=hh (g (f s p).1 (p+(f s p).2.length+1)).1 (p+(f s p).2.length+1+(g (f s p).1 (p+(f s p).2.length+1)).2.length+1)
 unfold ifT;simp only[yah,yao];omega
theorem zco:∀(l:List uA),(∀x∈l,kP (vB key valid x) (cC x))->kP (uD (eC key valid l)) (wG l)
 | [],_=>by intro s p;simp[eC,uD,wG]
 | x::l,h=>by
  intro s p;have h1:=h x (by simp) s p
  have h2:=zco l (fun y hy=>h y (by simp[hy])) (vB key valid x s p).1 (p+(vB key valid x s p).2.length)
  simp only[eC,uD,wG,yah];omega
mutual
theorem aP:∀(x:uA),kP (vB key valid x) (cC x)
 | .mk op name v args=>by
  have ih:=zif args
  intro s p;unfold vB cC mI;by_cases h0:fI valid op v (eC key valid args).length=false
  ·simp only[if_pos h0,yao,yay];omega
  ·simp only[if_neg h0]
   have h0:fI valid op v (eC key valid args).length=true:=by simpa using h0
   rw[zgi]at h0;have hn:=h0
   unfold fI at hn;simp only[yac,decide_eq_true_eq]at hn;by_cases h15:op=15
   ·simp only[if_pos h15]
    subst h15;have:args.length=2:=by have h1:=hn.1.2;have h2:=hn.2;simp[nG]at h1 h2;omega
    match args,this,ih with
    | [a,b],_,ih=>
     have:=ze6 (key:=key) (skip:=10) (truth:=0) (ih a (by simp)) (ih b (by simp)) s p
     simp only[eC,wG];simpa using this
   ·simp only[if_neg h15]
    by_cases h16:op=16
    ·simp only[if_pos h16]
     subst h16;have:args.length=2:=by have h1:=hn.1.2;have h2:=hn.2;simp[nG]at h1 h2;omega
     match args,this,ih with
     | [a,b],_,ih=>
      have:=ze6 (key:=key) (skip:=11) (truth:=1) (ih a (by simp)) (ih b (by simp)) s p
      simp only[eC,wG];simpa using this
    ·simp only[if_neg h16]
     by_cases h18:op=18
     ·simp only[if_pos h18]
      subst h18;have:args.length=3:=by have h1:=hn.1.2;have h2:=hn.2;simp[nG]at h1 h2;omega
      match args,this,ih with
      | [a,b,c],_,ih=>
       have:=zzn (ih a (by simp)) (ih b (by simp)) (ih c (by simp)) s p
       simp only[eC,wG];simpa using this
     ·simp only[if_neg h18]
      have h1:=zco args ih s p
      have h2:=zu7 (key:=key) op name v (eC key valid args).length (uD (eC key valid args) s p).1
      simp only[yah,yao,yay];omega
theorem zif:∀(l:List uA),∀x∈l,kP (vB key valid x) (cC x)
 | [],x,h=>by cases h
 | y::l,x,h=>by
  rcases yat.1 h with e | h
  ·rw[e];exact aP y
  ·exact zif l x h
end
end
end Go.Am
namespace Go.Proofs
open Go Go.Am
variable [dC]
variable {t tf:Tr jA}{r:TR}{s:kE}
mutual
theorem xZ:∀(x:uA) (deep c:Nat),(eK x deep c).1=true->(eK x deep c).2=c+cC x
 | .mk op name v args,deep,c,h=>by
  unfold eK at h ⊢
  unfold cC;split at h
  ·cases h
  ·rename_i h1
   rw[if_neg h1];split at h
   ·cases h
   ·rename_i h2
    rw[if_neg h2,zbb args _ _ h];omega
theorem zbb:∀(l:List uA) (deep c:Nat),(oK l deep c).1=true->(oK l deep c).2=c+wG l
 | [],deep,c,h=>by unfold oK wG;rfl
 | x::l,deep,c,h=>by
  unfold oK at h ⊢
  unfold wG;split at h
  ·rename_i h1
   rw[if_pos h1,zbb l _ _ h,xZ x _ _ h1];omega
  ·cases h
end
theorem aX{x:uA}(h:eO x=true):cC x<=200:=by
 have h1:=xZ x 1 0 h
 have h2:=(zcr x 1 0 (by omega)).2 h
 omega
theorem fV{l:List uA}{v:zA}(hv:oA tf 9 (l.map uA.d) v)(ht:cA tf t){i:Nat}{x:uA}(hx:l[i]?=some x) :
  ∃b off a c d,zB yA 48 v (.int .i64 (i:Int))=some (.ptr b off)/\mA yA 50 ⟨0,t⟩ (.ptr b off)=some (.agg (mC x a c d))/\RD tf x.d (mC x a c d)/\qG [(.int .u8 0),(.str []),(.int .u8 0),(.bool false),.nilslice,(.bool false),.nilslice,(.int .i64 0),.nilslice] (.agg (mC x a c d))=some (cellsOf (mC x a c d)) ∧
   oA tf 1 (jC x.v.f.n.limbs) a/\oA tf 1 (jC x.v.f.d.limbs) c/\oA tf 9 (x.args.map uA.d) d:=by
 obtain⟨b,off,a,c,d,g1,g2,g3,g4,g5,g6,g7⟩:=mU hv hx
 exact⟨b,off,a,c,d,g1,wN (H:=⟨0,tf⟩) (fun _ _ h=>ht _ _ h) g2,g3,g4,g5,g6,g7⟩
theorem zky{v:aA}(h:rB v=true):aA.short v:=by
 have z:iO v.f=true->aA.short v:=by
  intro h;unfold iO zln ziy at h;simp only[yac,decide_eq_true_eq]at h;unfold aA.short;rw[h.1.2,h.2.2];simp
 have f:yR v.f=true->aA.short v:=by
  intro h;unfold yR at h;simp only[yac,decide_eq_true_eq]at h;have h1:=h.1.1.1.1.1.1
  have h2:=h.1.1.1.1.1.2
  exact⟨by omega,by omega⟩
 unfold rB at h;split at h
 ·simp only[yac]at h;exact f h.2
 ·split at h
  ·simp only[yac]at h;exact z h.1
  ·split at h
   ·simp only[yac]at h;exact z h.1
   ·split at h
    ·simp only[yac]at h;exact z h.1
    ·cases h
theorem zcw{α:Type}{A B:List α}{x y:α}{n:Nat}(h:A.length=n):(A++x::B).set n y=A++y::B:=by
 subst h;rw[List.set_append_right _ _ (yal _),Nat.sub_self];rfl
theorem zhi{α:Type}{A B:List α}{x:α}{n:Nat}(h:A.length=n):(A++x::B)[n]?=some x:=by
 subst h;rw[yaq (yal _),Nat.sub_self];rfl
def bQ(x:uA):Prop:=∀(cs:List zA) (t tf:Tr jA) (r:TR) (s:kE) (Q:cB),x.fit->sK tf->RD tf x.d cs->TS dA tf t r s->s.code.length+4*cC x<300000->s.names.length+cC x<300000->s.consts.length+cC x<300000 →
 (∀tf' t' r',cA tf tf'->r'.b=r.b->r'.kp=r.kp->TS dA tf' t' r' (s.put (vB dA rB x s.nt s.code.length).1 (vB dA rB x s.nt s.code.length).2)->Q (.tup []) t')->Wc yA F 104 [.ptr r.b 0,.agg cs] t Q
theorem zM{sz:Nat}:oA t sz [] .nilslice:=⟨[],.inl ⟨rfl,rfl⟩,oE.2 rfl⟩
theorem zak{a b:uA}{cs:List zA}{args:List uA}{op:Nat}{name:List Nat}{v:aA}{u1 u2 u3:zA}{skip:Nat}{truth:Int}{Q:cB}(hA:bQ a)(hB:bQ b)(hcs:cs=mC (.mk op name v args) u1 u2 u3)(hargs:args=[a,b])(hfa:a.fit)(hfb:b.fit)(hg:sK tf)(hu:oA tf 9 (args.map uA.d) u3)(h:TS dA tf t r s)
  (htr : -9223372036854775808<=truth/\truth<9223372036854775808) (b1:s.code.length+4*(1+(cC a+cC b))<300000) (b2:s.names.length+(1+(cC a+cC b))<300000) (b3:s.consts.length+(1+(cC a+cC b))<300000)
  (hQ:∀tf' t' r',cA tf tf'->r'.b=r.b->r'.kp=r.kp->TS dA tf' t' r' (s.put (kK dA (vB dA rB a) (vB dA rB b) skip truth s.nt s.code.length).1 (kK dA (vB dA rB a) (vB dA rB b) skip truth s.nt s.code.length).2)->Q (.tup []) t') :
  Wc yA F 169 [.ptr r.b 0,.agg cs,.int .u8 (skip:Int),.agg [.int .u8 1,.bool false,.nilslice,.bool false,.nilslice,.int .i64 truth]] t Q:=by
 subst hcs;refine w169 _ _ _ _ _ _ _ _ _ _ _ _ _ _ _ _ _ ?_
 simp only[t169,pA,uA.op,uA.name,uA.v,uA.args];obtain⟨p,o,x1,x2,x3,g1,g2,g3,g4,_,_,_⟩:=fV hu h.os.tle (i:=0) (x:=a) (by rw[hargs];rfl)
 have g1:zB yA 48 u3 (.int .i64 0)=some (.ptr p o):=g1
 rw[g1,xA,g2,xA,g4,xA];simp only[mC,cellsOf,yG,dG,lF,sF,yaa,yab];rw[z5d];have sa:=aP (key:=dA) (valid:=rB) a s.nt s.code.length
 refine hA _ t tf r s _ hfa hg g3 h (by omega) (by omega) (by omega) fun tf1 t1 r1 k1 k2 k3 k4=>?_
 generalize eR:vB dA rB a s.nt s.code.length=R at *
 have sa1:R.1.names.length<=s.names.length+cC a:=sa.2.1
 have sa2:R.1.consts.length<=s.consts.length+cC a:=sa.2.2
 rw[z2x,<- k2];refine qT (i:=⟨skip,0,0⟩) k4 (by show(s.code++R.2).length<_;rw[yah];omega) fun tf2 t2 r2 v2 m1 m2 m3 m4 m5=>?_
 obtain⟨p',o',y1,y2,y3,f1,f2,f3,f4,_,_,_⟩:=fV hu ((k1.trans m1).trans m4.os.tle) (i:=1) (x:=b) (by rw[hargs];rfl)
 have f1:zB yA 48 u3 (.int .i64 1)=some (.ptr p' o'):=f1
 rw[f1,xA,f2,xA,f4,xA];simp only[mC,cellsOf,yG,dG,lF,sF,yaa,yab];rw[z5d,<- m2];have e2:(s.code++R.2++[(⟨skip,0,0⟩:XIns)]).length=s.code.length+R.2.length+1:=by simp only[yah,yao,yay]
 have sb:=aP (key:=dA) (valid:=rB) b R.1 (s.code.length+R.2.length+1)
 refine hB _ t2 tf2 r2 _ _ hfb ((hg.mono k1).mono m1) (RD.mono (k1.trans m1) _ _ f3) m4 (by show(s.code++R.2++[_]).length+_<_;rw[e2];omega) (by show R.1.names.length+_<_;omega) (by show R.1.consts.length+_<_;omega) fun tf3 t3 r3 n1 n2 n3 n4=>?_
 have n4:TS dA tf3 t3 r3 (kE.put ⟨R.1.names,R.1.consts,s.ws,s.ts,s.code++R.2++[(⟨skip,0,0⟩:XIns)]⟩ (vB dA rB b R.1 (s.code++R.2++[(⟨skip,0,0⟩:XIns)]).length).1 (vB dA rB b R.1 (s.code++R.2++[(⟨skip,0,0⟩:XIns)]).length).2):=n4
 rw[e2]at n4;generalize eG:vB dA rB b R.1 (s.code.length+R.2.length+1)=G at *
 unfold kE.put at n4;simp only at n4
 have lg:G.2.length<=4*cC b:=sb.1
 have lr:R.2.length<=4*cC a:=sa.1
 have ln:G.1.names.length<=R.1.names.length+cC b:=sb.2.1
 have lc:G.1.consts.length<=R.1.consts.length+cC b:=sb.2.2
 rw[z2x,<- n2];refine qT (i:=⟨12,0,0⟩) n4 (by show(s.code++R.2++[_]++G.2).length<_;rw[yah,e2];omega) fun tf4 t4 r4 v4 p1 p2 p3 p4 _=>?_
 have e4:(s.code++R.2++[(⟨skip,0,0⟩:XIns)]++G.2++[(⟨12,0,0⟩:XIns)]).length=s.code.length+R.2.length+1+G.2.length+1:=by simp;omega
 rw[z2x,<- p2];refine qT (i:=⟨9,0,0⟩) p4 (by show(s.code++R.2++[_]++G.2++[_]).length<_;rw[e4];omega) fun tf5 t5 r5 v5 c1 c2 c3 c4 c5=>?_
 have ecode:s.code++R.2++[(⟨skip,0,0⟩:XIns)]++G.2++[(⟨12,0,0⟩:XIns)]++[(⟨9,0,0⟩:XIns)]=(s.code++R.2)++⟨skip,0,0⟩::(G.2++[⟨12,0,0⟩,⟨9,0,0⟩]):=by simp
 have e5:(s.code++R.2++[(⟨skip,0,0⟩:XIns)]++G.2++[(⟨12,0,0⟩:XIns)]++[(⟨9,0,0⟩:XIns)]).length=s.code.length+R.2.length+1+G.2.length+2:=by simp;omega
 have hb5:r5.b=r1.b:=by rw[c2,p2,n2,m2]
 have m5':Tgt tf5 r5.b v2 (s.code++R.2).length:=by
  rw[hb5];exact m5.mono (n1.trans (p1.trans c1))
 have tg1:=eX (i:=(s.code++R.2).length) (x:=⟨skip,0,0⟩) (v:=v2) (Q:=fun u t'=>Wq yA F pI 233 [.ptr r4.b 0,.agg [.int .u8 1,.bool false,.nilslice,.bool false,.nilslice,.int .i64 truth]] t' fun a' t'=>iG (zyu .i64 a') fun n=>Wq yA F pI 168 [.ptr r4.b 0,.int .u8 1,.int .i64 n,.int .i64 0] t' fun _ t'=>iG (wM v5 []) fun q=>Wq yA F pI q.1 q.2 t' fun _ t'=>Q (.tup []) t') c4 m5' (by show(s.code++R.2++[_]++G.2++[_]++[_])[_]?=_;rw[ecode];exact zhi rfl) (by show(s.code++R.2++[_]++G.2++[_]++[_]).length<_;rw[e5];omega) (fun t6 h6=>?_)
 ·exact tg1
 ·have h6:TS dA tf5 t6 r5 ⟨G.1.names,G.1.consts,s.ws,s.ts,(s.code++R.2++[(⟨skip,0,0⟩:XIns)]++G.2++[(⟨12,0,0⟩:XIns)]++[(⟨9,0,0⟩:XIns)]).set (s.code++R.2).length ⟨skip,((s.code++R.2++[(⟨skip,0,0⟩:XIns)]++G.2++[(⟨12,0,0⟩:XIns)]++[(⟨9,0,0⟩:XIns)]).length:Nat),0⟩⟩:=h6
  rw[e5,ecode,zcw rfl]at h6;rw[q233,<- c2];have hfit:(rF truth).fit:=⟨(by show 1<256;decide),⟨⟨(by show 0<qC;decide),(by show 0<qC;decide)⟩,(fun x hx=>by cases hx),(fun x hx=>by cases hx)⟩,htr.1,htr.2⟩
  refine zdz (v:=rF truth) h6 (by show G.1.consts.length<_;omega) hfit ⟨(by show 0<400;decide),(by show 0<400;decide)⟩ zM zM fun tf7 t7 r7 d1 d2 d3 d4=>?_
  rw[yB,xA,z2x,<- d2];have e7:((s.code++R.2)++⟨skip,((s.code.length+R.2.length+1+G.2.length+2:Nat):Int),0⟩::(G.2++[(⟨12,0,0⟩:XIns),⟨9,0,0⟩])).length=s.code.length+R.2.length+1+G.2.length+2:=by simp;omega
  refine qT (i:=⟨1,((gI (dA (rF truth)) (G.1.consts.map dA):Nat):Int),0⟩) d4 (by show(_++_::_).length<_;rw[e7];omega) fun tf8 t8 r8 v8 z1 z2 z3 z4 _=>?_
  have ecode2:((s.code++R.2)++⟨skip,((s.code.length+R.2.length+1+G.2.length+2:Nat):Int),0⟩::(G.2++[(⟨12,0,0⟩:XIns),⟨9,0,0⟩]))++[(⟨1,((gI (dA (rF truth)) (G.1.consts.map dA):Nat):Int),0⟩:XIns)] =
   ((s.code++R.2)++⟨skip,((s.code.length+R.2.length+1+G.2.length+2:Nat):Int),0⟩::(G.2++[(⟨12,0,0⟩:XIns)]))++⟨9,0,0⟩::[⟨1,((gI (dA (rF truth)) (G.1.consts.map dA):Nat):Int),0⟩]:=by simp
  have e8:((s.code++R.2)++⟨skip,((s.code.length+R.2.length+1+G.2.length+2:Nat):Int),0⟩::(G.2++[(⟨12,0,0⟩:XIns)])).length=(s.code++R.2++[(⟨skip,0,0⟩:XIns)]++G.2++[(⟨12,0,0⟩:XIns)]).length:=by simp
  have e9:(((s.code++R.2)++⟨skip,((s.code.length+R.2.length+1+G.2.length+2:Nat):Int),0⟩::(G.2++[(⟨12,0,0⟩:XIns),⟨9,0,0⟩]))++[(⟨1,((gI (dA (rF truth)) (G.1.consts.map dA):Nat):Int),0⟩:XIns)]).length=s.code.length+R.2.length+1+G.2.length+3:=by simp;omega
  have hb8:r8.b=r4.b:=by rw[z2,d2,c2]
  have c5':Tgt tf8 r8.b v5 (s.code++R.2++[(⟨skip,0,0⟩:XIns)]++G.2++[(⟨12,0,0⟩:XIns)]).length:=by
   rw[hb8];exact c5.mono (d1.trans z1)
  refine eX (x:=⟨9,0,0⟩) z4 c5' (by show(_++[_])[_]?=_;rw[ecode2];exact zhi e8) (by show(_++[_]).length<_;rw[e9];omega) fun t9 h9=>?_
  refine hQ tf8 t9 r8 (k1.trans (m1.trans (n1.trans (p1.trans (c1.trans (d1.trans z1)))))) (by rw[hb8,p2,n2,m2,k2]) (by rw[z3,d3,c3,p3,n3,m3,k3]) ?_
  have h9:TS dA tf8 t9 r8 ⟨G.1.names,addC dA G.1.consts (rF truth),s.ws,s.ts,(((s.code++R.2)++⟨skip,((s.code.length+R.2.length+1+G.2.length+2:Nat):Int),0⟩::(G.2++[(⟨12,0,0⟩:XIns),⟨9,0,0⟩]))++[(⟨1,((gI (dA (rF truth)) (G.1.consts.map dA):Nat):Int),0⟩:XIns)]).set (s.code++R.2++[(⟨skip,0,0⟩:XIns)]++G.2++[(⟨12,0,0⟩:XIns)]).length ⟨9,((((s.code++R.2)++⟨skip,((s.code.length+R.2.length+1+G.2.length+2:Nat):Int),0⟩::(G.2++[(⟨12,0,0⟩:XIns),⟨9,0,0⟩]))++[(⟨1,((gI (dA (rF truth)) (G.1.consts.map dA):Nat):Int),0⟩:XIns)]).length:Nat),0⟩⟩:=h9
  rw[e9,ecode2,zcw e8]at h9;unfold kE.put kK;rw[eR,eG];have en:G.1.const dA (rF truth)=⟨G.1.names,addC dA G.1.consts (rF truth)⟩:=zoo ⟨G.1.names,G.1.consts,[],[],[]⟩ (rF truth)
  rw[en];have el:s.code++(R.2++⟨skip,((s.code.length+R.2.length+1+G.2.length+2:Nat):Int),0⟩::(G.2++[(⟨12,0,0⟩:XIns),⟨9,((s.code.length+R.2.length+1+G.2.length+3:Nat):Int),0⟩,⟨1,((G.1.constI dA (rF truth):Nat):Int),0⟩])) =
   ((s.code++R.2)++⟨skip,((s.code.length+R.2.length+1+G.2.length+2:Nat):Int),0⟩::(G.2++[(⟨12,0,0⟩:XIns)]))++⟨9,((s.code.length+R.2.length+1+G.2.length+3:Nat):Int),0⟩::[⟨1,((gI (dA (rF truth)) (G.1.consts.map dA):Nat):Int),0⟩]:=by
   simp[Nt.constI]
  rw[el];exact h9
end Go.Proofs
namespace Go.Proofs
open Go Go.Am
variable [dC]
variable {t tf:Tr jA}{r:TR}{s:kE}
theorem if_ok{a b d:uA}{args:List uA}{u3:zA}{Q:cB}(hA:bQ a)(hB:bQ b)(hD:bQ d)(hargs:args=[a,b,d])(hfa:a.fit)(hfb:b.fit)(hfd:d.fit)(hg:sK tf)(hu:oA tf 9 (args.map uA.d) u3)(h:TS dA tf t r s)
  (b1:s.code.length+4*(1+(cC a+(cC b+cC d)))<300000) (b2:s.names.length+(1+(cC a+(cC b+cC d)))<300000) (b3:s.consts.length+(1+(cC a+(cC b+cC d)))<300000)
  (hQ:∀tf' t' r',cA tf tf'->r'.b=r.b->r'.kp=r.kp->TS dA tf' t' r' (s.put (ifT (vB dA rB a) (vB dA rB b) (vB dA rB d) s.nt s.code.length).1 (ifT (vB dA rB a) (vB dA rB b) (vB dA rB d) s.nt s.code.length).2)->Q (.tup []) t') :
  wp 104 (.opt (zB yA 48 u3 (.int .i64 0)) fun a5=>.light (fun m=>mA yA 50 ⟨0,m⟩ a5) fun a6=>.asG [(.int .u8 0),(.str []),(.int .u8 0),(.bool false),.nilslice,(.bool false),.nilslice,(.int .i64 0),.nilslice] a6 fun X7=>
 .call 104 [.ptr r.b 0,(.agg [(.int .u8 (X7.i 0)),(.str (X7.s 1)),(.int .u8 (X7.i 2)),(.bool (X7.b 3)),(X7.v 4),(.bool (X7.b 5)),(X7.v 6),(.int .i64 (X7.i 7)),(X7.v 8)])] fun a8=>
 .call 168 [.ptr r.b 0,(.int .u8 10),(.int .i64 0),(.int .i64 0)] fun a9=>
 .opt (zB yA 48 u3 (.int .i64 1)) fun a10=>.light (fun m=>mA yA 50 ⟨0,m⟩ a10) fun bC=>.asG [(.int .u8 0),(.str []),(.int .u8 0),(.bool false),.nilslice,(.bool false),.nilslice,(.int .i64 0),.nilslice] bC fun X12=>
 .call 104 [.ptr r.b 0,(.agg [(.int .u8 (X12.i 0)),(.str (X12.s 1)),(.int .u8 (X12.i 2)),(.bool (X12.b 3)),(X12.v 4),(.bool (X12.b 5)),(X12.v 6),(.int .i64 (X12.i 7)),(X12.v 8)])] fun fE=>
 .call 168 [.ptr r.b 0,(.int .u8 9),(.int .i64 0),(.int .i64 0)] fun a14=>
 .callv a9 [] fun a15=>
 .opt (zB yA 48 u3 (.int .i64 2)) fun mG=>.light (fun m=>mA yA 50 ⟨0,m⟩ mG) fun a17=>.asG [(.int .u8 0),(.str []),(.int .u8 0),(.bool false),.nilslice,(.bool false),.nilslice,(.int .i64 0),.nilslice] a17 fun X18=>
 .call 104 [.ptr r.b 0,(.agg [(.int .u8 (X18.i 0)),(.str (X18.s 1)),(.int .u8 (X18.i 2)),(.bool (X18.b 3)),(X18.v 4),(.bool (X18.b 5)),(X18.v 6),(.int .i64 (X18.i 7)),(X18.v 8)])] fun a19=>
 .callv a14 [] fun a20=>
 .ret (.tup [])) t Q:=by
 simp only[pA];obtain⟨p,o,x1,x2,x3,g1,g2,g3,g4,_,_,_⟩:=fV hu h.os.tle (i:=0) (x:=a) (by rw[hargs];rfl)
 have g1:zB yA 48 u3 (.int .i64 0)=some (.ptr p o):=g1
 rw[g1,xA,g2,xA,g4,xA];simp only[mC,cellsOf,yG,dG,lF,sF,yaa,yab];rw[z5d];have sa:=aP (key:=dA) (valid:=rB) a s.nt s.code.length
 refine hA _ t tf r s _ hfa hg g3 h (by omega) (by omega) (by omega) fun tf1 t1 r1 k1 k2 k3 k4=>?_
 generalize eR:vB dA rB a s.nt s.code.length=R at *
 have sa1:R.1.names.length<=s.names.length+cC a:=sa.2.1
 have sa2:R.1.consts.length<=s.consts.length+cC a:=sa.2.2
 rw[z2x,<- k2];refine qT (i:=⟨10,0,0⟩) k4 (by show(s.code++R.2).length<_;rw[yah];omega) fun tf2 t2 r2 v2 m1 m2 m3 m4 m5=>?_
 obtain⟨p',o',y1,y2,y3,f1,f2,f3,f4,_,_,_⟩:=fV hu ((k1.trans m1).trans m4.os.tle) (i:=1) (x:=b) (by rw[hargs];rfl)
 have f1:zB yA 48 u3 (.int .i64 1)=some (.ptr p' o'):=f1
 rw[f1,xA,f2,xA,f4,xA];simp only[mC,cellsOf,yG,dG,lF,sF,yaa,yab];rw[z5d,<- m2];have e2:(s.code++R.2++[(⟨10,0,0⟩:XIns)]).length=s.code.length+R.2.length+1:=by simp only[yah,yao,yay]
 have sb:=aP (key:=dA) (valid:=rB) b R.1 (s.code.length+R.2.length+1)
 refine hB _ t2 tf2 r2 _ _ hfb ((hg.mono k1).mono m1) (RD.mono (k1.trans m1) _ _ f3) m4 (by show(s.code++R.2++[_]).length+_<_;rw[e2];omega) (by show R.1.names.length+_<_;omega) (by show R.1.consts.length+_<_;omega) fun tf3 t3 r3 n1 n2 n3 n4=>?_
 have n4:TS dA tf3 t3 r3 (kE.put ⟨R.1.names,R.1.consts,s.ws,s.ts,s.code++R.2++[(⟨10,0,0⟩:XIns)]⟩ (vB dA rB b R.1 (s.code++R.2++[(⟨10,0,0⟩:XIns)]).length).1 (vB dA rB b R.1 (s.code++R.2++[(⟨10,0,0⟩:XIns)]).length).2):=n4
 rw[e2]at n4;generalize eG:vB dA rB b R.1 (s.code.length+R.2.length+1)=G at *
 unfold kE.put at n4;simp only at n4
 have lg:G.2.length<=4*cC b:=sb.1
 have lr:R.2.length<=4*cC a:=sa.1
 have ln:G.1.names.length<=R.1.names.length+cC b:=sb.2.1
 have lc:G.1.consts.length<=R.1.consts.length+cC b:=sb.2.2
 rw[z2x,<- n2];have e3:(s.code++R.2++[(⟨10,0,0⟩:XIns)]++G.2).length=s.code.length+R.2.length+1+G.2.length:=by simp only[yah,yao,yay]
 refine qT (i:=⟨9,0,0⟩) n4 (by show(s.code++R.2++[_]++G.2).length<_;rw[e3];omega) fun tf5 t5 r5 v5 c1 c2 c3 c4 c5=>?_
 have ecode:s.code++R.2++[(⟨10,0,0⟩:XIns)]++G.2++[(⟨9,0,0⟩:XIns)]=(s.code++R.2)++⟨10,0,0⟩::(G.2++[⟨9,0,0⟩]):=by simp
 have e5:(s.code++R.2++[(⟨10,0,0⟩:XIns)]++G.2++[(⟨9,0,0⟩:XIns)]).length=s.code.length+R.2.length+1+G.2.length+1:=by simp only[yah,yao,yay]
 have hb5:r5.b=r1.b:=by rw[c2,n2,m2]
 have m5':Tgt tf5 r5.b v2 (s.code++R.2).length:=by
  rw[hb5];exact m5.mono (n1.trans c1)
 refine eX (i:=(s.code++R.2).length) (x:=⟨10,0,0⟩) (v:=v2) c4 m5' (by show(s.code++R.2++[_]++G.2++[_])[_]?=_;rw[ecode];exact zhi rfl) (by show(s.code++R.2++[_]++G.2++[_]).length<_;rw[e5];omega) (fun t6 h6=>?_)
 have h6:TS dA tf5 t6 r5 ⟨G.1.names,G.1.consts,s.ws,s.ts,(s.code++R.2++[(⟨10,0,0⟩:XIns)]++G.2++[(⟨9,0,0⟩:XIns)]).set (s.code++R.2).length ⟨10,((s.code++R.2++[(⟨10,0,0⟩:XIns)]++G.2++[(⟨9,0,0⟩:XIns)]).length:Nat),0⟩⟩:=h6
 rw[e5,ecode,zcw rfl]at h6;obtain⟨p6,o6,w1,w2,w3,l1,l2,l3,l4,_,_,_⟩:=fV hu ((((k1.trans m1).trans n1).trans c1).trans h6.os.tle) (i:=2) (x:=d) (by rw[hargs];rfl)
 have l1:zB yA 48 u3 (.int .i64 2)=some (.ptr p6 o6):=l1
 rw[l1,xA,l2,xA,l4,xA];simp only[mC,cellsOf,yG,dG,lF,sF,yaa,yab];have e6:((s.code++R.2)++⟨10,((s.code.length+R.2.length+1+G.2.length+1:Nat):Int),0⟩::(G.2++[(⟨9,0,0⟩:XIns)])).length=s.code.length+R.2.length+1+G.2.length+1:=by simp only[yah,yao,yay];omega
 have sd:=aP (key:=dA) (valid:=rB) d G.1 (s.code.length+R.2.length+1+G.2.length+1)
 rw[z5d,<- c2];refine hD _ t6 tf5 r5 _ _ hfd (((hg.mono k1).mono m1).mono (n1.trans c1)) (RD.mono ((k1.trans m1).trans (n1.trans c1)) _ _ l3) h6 (by show((s.code++R.2)++_::_).length+_<_;rw[e6];omega) (by show G.1.names.length+_<_;omega) (by show G.1.consts.length+_<_;omega) fun tf7 t7 r7 d1 d2 d3 d4=>?_
 have d4:TS dA tf7 t7 r7 (kE.put ⟨G.1.names,G.1.consts,s.ws,s.ts,(s.code++R.2)++⟨10,((s.code.length+R.2.length+1+G.2.length+1:Nat):Int),0⟩::(G.2++[(⟨9,0,0⟩:XIns)])⟩ (vB dA rB d G.1 ((s.code++R.2)++⟨10,((s.code.length+R.2.length+1+G.2.length+1:Nat):Int),0⟩::(G.2++[(⟨9,0,0⟩:XIns)])).length).1 (vB dA rB d G.1 ((s.code++R.2)++⟨10,((s.code.length+R.2.length+1+G.2.length+1:Nat):Int),0⟩::(G.2++[(⟨9,0,0⟩:XIns)])).length).2):=d4
 rw[e6]at d4;generalize eW:vB dA rB d G.1 (s.code.length+R.2.length+1+G.2.length+1)=W at *
 unfold kE.put at d4;simp only at d4
 have lw:W.2.length<=4*cC d:=sd.1
 have hb7:r7.b=r3.b:=by rw[d2,c2]
 have c5':Tgt tf7 r7.b v5 (s.code++R.2++[(⟨10,0,0⟩:XIns)]++G.2).length:=by
  rw[hb7];exact c5.mono d1
 have ecode2:((s.code++R.2)++⟨10,((s.code.length+R.2.length+1+G.2.length+1:Nat):Int),0⟩::(G.2++[(⟨9,0,0⟩:XIns)]))++W.2=((s.code++R.2)++⟨10,((s.code.length+R.2.length+1+G.2.length+1:Nat):Int),0⟩::G.2)++⟨9,0,0⟩::W.2:=by simp
 have e8:((s.code++R.2)++⟨10,((s.code.length+R.2.length+1+G.2.length+1:Nat):Int),0⟩::G.2).length=(s.code++R.2++[(⟨10,0,0⟩:XIns)]++G.2).length:=by simp
 have e9:(((s.code++R.2)++⟨10,((s.code.length+R.2.length+1+G.2.length+1:Nat):Int),0⟩::(G.2++[(⟨9,0,0⟩:XIns)]))++W.2).length=s.code.length+R.2.length+1+G.2.length+1+W.2.length:=by simp only[yah,yao,yay];omega
 refine eX (x:=⟨9,0,0⟩) d4 c5' (by show(_++W.2)[_]?=_;rw[ecode2];exact zhi e8) (by show(_++W.2).length<_;rw[e9];omega) fun t9 h9=>?_
 refine hQ tf7 t9 r7 (k1.trans (m1.trans (n1.trans (c1.trans d1)))) (by rw[hb7,n2,m2,k2]) (by rw[d3,c3,n3,m3,k3]) ?_
 have h9:TS dA tf7 t9 r7 ⟨W.1.names,W.1.consts,s.ws,s.ts,(((s.code++R.2)++⟨10,((s.code.length+R.2.length+1+G.2.length+1:Nat):Int),0⟩::(G.2++[(⟨9,0,0⟩:XIns)]))++W.2).set (s.code++R.2++[(⟨10,0,0⟩:XIns)]++G.2).length ⟨9,((((s.code++R.2)++⟨10,((s.code.length+R.2.length+1+G.2.length+1:Nat):Int),0⟩::(G.2++[(⟨9,0,0⟩:XIns)]))++W.2).length:Nat),0⟩⟩:=h9
 rw[e9,ecode2,zcw e8]at h9;unfold kE.put ifT;rw[eR,eG,eW];have el:s.code++(R.2++⟨10,((s.code.length+R.2.length+1+G.2.length+1:Nat):Int),0⟩::(G.2++⟨9,((s.code.length+R.2.length+1+G.2.length+1+W.2.length:Nat):Int),0⟩::W.2)) =
  ((s.code++R.2)++⟨10,((s.code.length+R.2.length+1+G.2.length+1:Nat):Int),0⟩::G.2)++⟨9,((s.code.length+R.2.length+1+G.2.length+1+W.2.length:Nat):Int),0⟩::W.2:=by simp
 rw[el];exact h9
theorem zyc{op:Nat}{name:List Nat}{v:aA}{args:List uA}{a b c:zA}{Q:cB}(ih:∀x∈args,bQ x)(hfit:∀x∈args,x.fit)(hlen:args.length<qC):∀(l:List uA) (i:Nat) (t tf:Tr jA) (r:TR) (s:kE),args.drop i=l->sK tf->oA tf 9 (args.map uA.d) c->TS dA tf t r s->s.code.length+4*wG l<300000->s.names.length+wG l<300000->s.consts.length+wG l<300000 →
  (∀tf' t' r',cA tf tf'->r'.b=r.b->r'.kp=r.kp->TS dA tf' t' r' (s.put (uD (eC dA rB l) s.nt s.code.length).1 (uD (eC dA rB l) s.nt s.code.length).2)->Wc yA F 170 [.ptr r.b 0,.agg (mC (.mk op name v args) a b c)] t' fun _ t''=>Q (.tup []) t'') →
  jp 104 4 [.ptr r.b 0,c,.int .i64 (args.length:Int),.int .i64 (i:Int),.int .u8 (op:Int),.str name,.int .u8 (v.kind:Int),.bool v.f.n.neg,a,.bool v.f.d.neg,b,.int .i64 v.i,c] t Q:=by
 unfold qC at hlen;intro l;induction l with
 | nil=>
  intro i t tf r s hl hg hc h _ _ _ hQ;have:=lU hl
  refine z3w _ _ _ _ _ _ _ _ _ _ _ _ _ ?_
  simp only[ztz,pA,mB];rw[if_neg (by omega),q170]
  refine hQ tf t r (cA.refl _) rfl rfl ?_
  have:s.put (uD (eC dA rB []) s.nt s.code.length).1 (uD (eC dA rB []) s.nt s.code.length).2=s:=by
   simp[eC,uD,kE.put,kE.nt]
  rw[this];exact h
 | cons x l ihl=>
  intro i t tf r s hl hg hc h b1 b2 b3 hQ;obtain⟨h1,h2,h3⟩:=kU hl
  have hx:=ybw h1
  obtain⟨p,o,x1,x2,x3,g1,g2,g3,g4,g5,g6,g7⟩:=fV hc h.os.tle h1
  refine z3w _ _ _ _ _ _ _ _ _ _ _ _ _ ?_
  simp only[ztz,pA,mB];rw[if_pos (by omega),g1,xA,g2,xA,g4,xA]
  simp only[mC,cellsOf,yG,dG,lF,sF,yaa,yab];refine xB (zbt g5.one g6.one g7.one) ?_
  unfold wG at b1 b2 b3;have sx:=aP (key:=dA) (valid:=rB) x s.nt s.code.length
  rw[z5d];refine ih x hx _ t tf r s _ (hfit x hx) hg g3 h (by omega) (by omega) (by omega) fun tf1 t1 r1 k1 k2 k3 k4=>?_
  rw[fB (by omega) (by omega),show(i:Int)+1=((i+1:Nat):Int) by omega,<- k2]
  have sx1:(vB dA rB x s.nt s.code.length).1.names.length<=s.names.length+cC x:=sx.2.1
  have sx2:(vB dA rB x s.nt s.code.length).1.consts.length<=s.consts.length+cC x:=sx.2.2
  have sx3:=sx.1
  refine ihl (i+1) t1 tf1 r1 _ h2 (hg.mono k1) (hc.mono k1) k4 (by show(s.code++_).length+_<_;rw[yah];omega) (by show(vB dA rB x s.nt s.code.length).1.names.length+_<_;omega) (by show(vB dA rB x s.nt s.code.length).1.consts.length+_<_;omega) fun tf2 t2 r2 m1 m2 m3 m4=>?_
  rw[k2];refine hQ tf2 t2 r2 (k1.trans m1) (m2.trans k2) (m3.trans k3) ?_
  have e:s.put (uD (eC dA rB (x::l)) s.nt s.code.length).1 (uD (eC dA rB (x::l)) s.nt s.code.length).2 =
    (s.put (vB dA rB x s.nt s.code.length).1 (vB dA rB x s.nt s.code.length).2).put (uD (eC dA rB l) (s.put (vB dA rB x s.nt s.code.length).1 (vB dA rB x s.nt s.code.length).2).nt (s.put (vB dA rB x s.nt s.code.length).1 (vB dA rB x s.nt s.code.length).2).code.length).1
     (uD (eC dA rB l) (s.put (vB dA rB x s.nt s.code.length).1 (vB dA rB x s.nt s.code.length).2).nt (s.put (vB dA rB x s.nt s.code.length).1 (vB dA rB x s.nt s.code.length).2).code.length).2:=by
   simp[eC,uD,kE.put,kE.nt]
  rw[e];exact m4
theorem z6z{op:Nat}{name:List Nat}{v:aA}{args:List uA}(ih:∀x∈args,bQ x):bQ (.mk op name v args):=by
 intro cs t tf r s Q hfit hg hrd h b1 b2 b3 hQ;obtain⟨a,b,c,rfl,ha,hb,hc⟩:=cK hrd
 simp only[uA.op,uA.name,uA.v,uA.args]at ha hb hc;have hfit':=hfit
 unfold uA.fit at hfit';obtain⟨f1,f2,_,f3,f4,f5⟩:=hfit'
 have ffit:=uA.fits_mem f5
 have hform:=zw5 hfit (hg.mono h.os.tle) (ha.mono h.os.tle) (hb.mono h.os.tle) (hc.mono h.os.tle)
 unfold cC at b1 b2 b3;have etr:vB dA rB (.mk op name v args) s.nt s.code.length=mI dA rB op name v (eC dA rB args) s.nt s.code.length:=by rw[vB]
 rw[etr]at hQ;unfold mI at hQ;rw[zgi]at hQ;refine w104 _ _ _ _ _ _ _ _ _ _ ?_
 have hform':rD yA F 167 [.agg [.int .u8 (op:Int),.str name,.int .u8 (v.kind:Int),.bool v.f.n.neg,a,.bool v.f.d.neg,b,.int .i64 v.i,c]] t=some (.bool (fI rB op v args.length)):=hform
 have pos:∀ {k:Nat} {x y:T} {Q:cB},op=k->wp 104 x t Q->wp 104 (.ite (wA (op:Int) (k:Int)) x y) t Q:=fun h hx=>xB (cD.2 (by omega)) hx
 have neg:∀ {k:Nat} {x y:T} {Q:cB},op≠k->wp 104 y t Q->wp 104 (.ite (wA (op:Int) (k:Int)) x y) t Q:=fun h hy=>pC (fun e=>absurd (cD.1 e) (by omega)) hy
 unfold t104;simp only[uA.op,uA.name,uA.v,uA.args];show Wq yA F pI 167 _ t _
 rw[q167,hform',xA];show iG (zA.asBool (.bool (fI rB op v args.length))) _
 rw[mD,xA]
 cases hf:fI rB op v args.length with
 | false=>
  rw[if_pos hf]at hQ;refine xB rfl ?_
  show Wq yA F pI 168 _ t _
  rw[z2x];exact qT (i:=⟨13,0,0⟩) h (by omega) fun tf' t' r' v' k1 k2 k3 k4 _=>hQ tf' t' r' k1 k2 k3 k4
 | true=>
  rw[if_neg (by rw[hf];simp)]at hQ
  refine pC (by simp) ?_
  have hn:=hf
  unfold fI at hn;simp only[yac,decide_eq_true_eq]at hn;by_cases c15:op=15
  ·refine pos c15 ?_
   rw[if_pos c15]at hQ;subst c15;have h2:args.length=2:=by have h1:=hn.1.2;have h2:=hn.2;simp[nG]at h1 h2;omega
   match args,h2 with
   | [x,y],_=>
    simp only[wG]at b1 b2 b3;refine xB rfl ?_
    show Wq yA F pI 169 _ t _
    rw[q169];exact zak (skip:=10) (truth:=0) (op:=15) (name:=name) (v:=v) (ih x (by simp)) (ih y (by simp)) rfl rfl (ffit x (by simp)) (ffit y (by simp)) hg hc h ⟨by decide,by decide⟩ (by omega) (by omega) (by omega) hQ
  ·refine neg c15 ?_
   rw[if_neg c15]at hQ;by_cases c16:op=16
   ·refine pos c16 ?_
    rw[if_pos c16]at hQ;subst c16;have h2:args.length=2:=by have h1:=hn.1.2;have h2:=hn.2;simp[nG]at h1 h2;omega
    match args,h2 with
    | [x,y],_=>
     simp only[wG]at b1 b2 b3;refine xB rfl ?_
     show Wq yA F pI 169 _ t _
     rw[q169];exact zak (skip:=11) (truth:=1) (op:=16) (name:=name) (v:=v) (ih x (by simp)) (ih y (by simp)) rfl rfl (ffit x (by simp)) (ffit y (by simp)) hg hc h ⟨by decide,by decide⟩ (by omega) (by omega) (by omega) hQ
   ·refine neg c16 ?_
    rw[if_neg c16]at hQ;by_cases c18:op=18
    ·refine pos c18 ?_
     rw[if_pos c18]at hQ;subst c18;have h2:args.length=3:=by have h1:=hn.1.2;have h2:=hn.2;simp[nG]at h1 h2;omega
     match args,h2 with
     | [x,y,z],_=>
      simp only[wG]at b1 b2 b3;exact if_ok (ih x (by simp)) (ih y (by simp)) (ih z (by simp)) rfl (ffit x (by simp)) (ffit y (by simp)) (ffit z (by simp)) hg hc h (by omega) (by omega) (by omega) hQ
    ·refine neg c18 ?_
     rw[if_neg c18]at hQ;have hl:uB c=some (.int .i64 (args.length:Int)):=by rw[hc.len,yag]
     show iG (uB c) _
     rw[hl,xA];show iG (zyu .i64 (.int .i64 (args.length:Int))) _
     rw[yB,xA];refine zyc (op:=op) (name:=name) (v:=v) (a:=a) (b:=b) ih ffit f4 args 0 t tf r s (ybs) hg hc h (by omega) (by omega) (by omega) fun tf1 t1 r1 k1 k2 k3 k4=>?_
     have sq:=zco (key:=dA) (valid:=rB) args (fun x _=>aP x) s.nt s.code.length
     have sq1:(uD (eC dA rB args) s.nt s.code.length).1.names.length<=s.names.length+wG args:=sq.2.1
     have sq2:(uD (eC dA rB args) s.nt s.code.length).1.consts.length<=s.consts.length+wG args:=sq.2.2
     rw[<- k2];refine zi9 (x:=.mk op name v args) k4 hfit (fun e=>?_) (by show(uD (eC dA rB args) s.nt s.code.length).1.names.length<_;omega) (by show(uD (eC dA rB args) s.nt s.code.length).1.consts.length<_;omega) (by show(s.code++_).length<_;rw[yah];have:=sq.1;omega) (ha.mono k1) (hb.mono k1) (hc.mono k1) fun tf2 t2 r2 m1 m2 m3 m4=>?_
     ·have e:op=1:=e
      have:=hn.1.1
      rw[e]at this;simp at this;exact zky this
     ·refine hQ tf2 t2 r2 (k1.trans m1) (m2.trans k2) (m3.trans k3) ?_
      have e:s.put (dE dA op name v args.length (uD (eC dA rB args) s.nt s.code.length).1).1 ((uD (eC dA rB args) s.nt s.code.length).2++[(dE dA op name v args.length (uD (eC dA rB args) s.nt s.code.length).1).2]) =
        (s.put (uD (eC dA rB args) s.nt s.code.length).1 (uD (eC dA rB args) s.nt s.code.length).2).put (dE dA op name v args.length (s.put (uD (eC dA rB args) s.nt s.code.length).1 (uD (eC dA rB args) s.nt s.code.length).2).nt).1 [(dE dA op name v args.length (s.put (uD (eC dA rB args) s.nt s.code.length).1 (uD (eC dA rB args) s.nt s.code.length).2).nt).2]:=by
       simp[kE.put,kE.nt]
      show TS dA tf2 t2 r2 (s.put _ _)
      rw[e];exact m4
mutual
theorem zpc:∀x:uA,bQ x
 | .mk _ _ _ args=>z6z (zj2 args)
theorem zj2:∀l:List uA,∀x∈l,bQ x
 | [],x,h=>by cases h
 | y::l,x,h=>by
  rcases yat.1 h with e | h
  ·rw[e];exact zpc y
  ·exact zj2 l x h
end
end Go.Proofs
namespace Go.Am
open Go Go.RowKit
section
variable {t tf:Tr jA}{C:iA}{base:Nat}
def oS (base sz:Nat)(l:List D)(v:zA):lD where
 blks:=if l=[]then []else lE v
 ok:=fun tf t=>if l=[]then oA tf sz [] v else ∃n,v=.slice n 0 l.length l.length/\OwnD base tf t sz l n (some sz)
 keep:=fun {tf t tf' t'} h hf k=>by
  by_cases hl:l=[]
  ·rw[if_pos hl]at h ⊢;exact h.mono hf
  ·rw[if_neg hl]at h k ⊢
   obtain⟨n,rfl,h⟩:=h
   have:=k n (by simp[lE])
   exact⟨n,rfl,h.grow hf this.2 this.1⟩
 live:=fun {tf t} h k hk=>by
  by_cases hl:l=[]
  ·rw[if_pos hl]at hk;cases hk
  ·rw[if_neg hl]at h hk
   obtain⟨n,rfl,_,_,_,⟨c,hc,_⟩,_⟩:=h
   have:k=n:=by simpa[lE]using hk
   subst this;exact⟨_,hc⟩
theorem z21{sz:Nat}{v:zA}(h:oA tf sz [] v):(oS base sz [] v).ok tf t:=h
theorem zvf{sz n:Nat}{l:List D}(hl:l≠[])(h:OwnD base tf t sz l n (some sz)):(oS base sz l (.slice n 0 l.length l.length)).ok tf t:=by
 have e:(oS base sz l (.slice n 0 l.length l.length)).ok tf t=∃m,zA.slice n 0 l.length l.length=.slice m 0 l.length l.length/\OwnD base tf t sz l m (some sz):=if_neg hl
 rw[e];exact⟨n,rfl,h⟩
theorem zjb{sz:Nat}{l:List D}{v:zA}(hl:l≠[])(h:(oS base sz l v).ok tf t):∃n,v=.slice n 0 l.length l.length/\OwnD base tf t sz l n (some sz):=by
 have e:(oS base sz l v).ok tf t=∃m,v=.slice m 0 l.length l.length/\OwnD base tf t sz l m (some sz):=if_neg hl
 rw[e]at h;exact h
theorem z22{sz:Nat}{v:zA}(h:(oS base sz [] v).ok tf t):oA tf sz [] v:=h
theorem z5p{sz:Nat}{l:List D}{v:zA}(h:(oS base sz l v).ok tf t)(ht:cA tf t):oA t sz l v:=by
 by_cases hl:l=[]
 ·subst hl;exact(z22 h).mono ht
 ·obtain⟨n,hv,ho⟩:=zjb hl h
  subst hv;exact ho.read (.inr rfl) ht rfl (yal _)
theorem Objs.freezeS{A B:List lD}{sz:Nat}{l:List D}{v:zA}(h:Objs base tf t (A++oS base sz l v::B)):∃tf',cA tf tf'/\Objs base tf' t (A++B)/\oA tf' sz l v:=by
 have ho:(oS base sz l v).ok tf t:=h.ok (oS base sz l v) (by simp)
 by_cases hl:l=[]
 ·subst hl
  exact⟨tf,cA.refl _,h.drop,z22 ho⟩
 ·obtain⟨n,rfl,h1,h2,cl,⟨c,h3,h4⟩,h5,h6⟩:=zjb hl ho
  have hn:n∉(A++B).flatMap lD.blks:=h.notin (o:=oS base sz l _) (by simp[oS,hl,lE])
  obtain⟨k1,k2⟩:=h.drop.froze hn h3 h2
  refine⟨_,k2,k1,?_⟩
  have hlen:=h6.length
  have:=(⟨h1,h2,cl,⟨c,h3,h4⟩,h5,h6⟩:OwnD base tf t sz l n (some sz))
  refine⟨cl,.inr ⟨n,0,l.length,by rw[hlen],by omega,⟨c,_,_,by rw[Tr.get_set,if_pos rfl],.inr rfl⟩,fun i cs hi=>⟨h5 i cs hi,c,_,_,(by rw[Tr.get_set,if_pos rfl]),fun j a hj=>?_⟩⟩,kC.mono k2 _ _ h6⟩
  rw[yax];exact h4 _ _ (lQ h5 i j cs a hi hj)
theorem Objs.storeS{A B:List lD}{sz:Nat}{l:List D}{v w:zA}(h:Objs C.base tf t (A++oS C.base sz l v::B)){i o S T el:Nat}{agg:Bool}{d d':D}{y:vD}(hi:l[i]?=some d)(hT:jE C T el sz agg)(hS:C.tys.get S=some y)(hl:w.cells.length=y.size)(ho:o+w.cells.length<=sz)(hone:bB zA.one w.cells=true)
  (hd:∀cs,cs.length=sz->RD tf d cs->RD tf d' (zJ cs o w.cells)) :
  ∃p,zB C T v (.int .i64 (i:Int))=some (.ptr p (0+i*sz))/\∃t',(∀n,xE C S (.ptr p (0+i*sz+o)) w ⟨n,t⟩=some (rE,⟨n,t'⟩))/\Objs C.base tf t' (A++oS C.base sz (l.set i d') v::B):=by
 have hlt:i<l.length:=(yad.1 hi).1
 have hne:l≠[]:=by intro e;subst e;simp at hlt
 have hne':l.set i d'≠[]:=by intro e;have:=congrArg List.length e;rw[yci]at this;simp at this;exact hne (ybd.1 (by simpa using this))
 obtain⟨n,rfl,ho'⟩:=zjb hne (h.ok (oS C.base sz l v) (by simp))
 refine⟨n,dL hT hlt,?_⟩
 obtain⟨t',g1,g2,g3⟩:=ho'.store hi hS hl ho hone hd
 rw[yax];refine⟨t',g1,?_⟩
 refine Objs.upd (o:=oS C.base sz l (.slice n 0 l.length l.length)) h (fun k k1 _=>g3 k (fun e=>k1 (by simp[oS,hne,lE,e]))) (fun k hk=>.inl ?_) ?_ ?_ (h.tle.off ho'.2.1 g3)
 ·have:k=n:=by simpa[oS,hne',lE]using hk
  subst this;simp[oS,hne,lE]
 ·have:=zvf hne' g2
  rw[yci]at this;exact this
 ·simp[oS,hne',lE]
theorem fY{T el sz:Nat}(hT:zK C T el sz){L:List lD}{l:List D}{x:zA}{W J:yJ}{Q:cB}(heq:(wL .eql).f C T (.tmp 3) (.const (.slice none 0 0)) x .nilslice=some (.bool (Nat.beq x.tag 5)))(hx:oA tf sz l x)(h:Objs C.base tf t L)(hl:l.length<1000000)
  (hQ:∀tf' t' v,cA tf tf'->Objs C.base tf' t' (oS C.base sz l v::L)->Q v t') :
  pA C.base W J (.opt ((wL .eql).f C T (.tmp 3) (.const (.slice none 0 0)) x .nilslice) fun a0=>.asB a0 fun b1=>.ite b1 (.ret .nilslice) (.heavy (oF C T 0 []) fun a2=>.heavy (eE C T T a2 x) fun a3=>.ret a3)) t Q:=by
 obtain⟨⟨y,hy1,hy2,hy3⟩,⟨z,hz1,hz2,hz3,hz4,hz5⟩⟩:=hT
 obtain⟨cl,he,hd⟩:=hx
 have hcl:=hd.length
 simp only[pA,heq,xA,mD];rcases he with⟨rfl,rfl⟩ | ⟨bx,off,cap,rfl,hcap,hblk,he'⟩
 ·have:l=[]:=ybd.1 hcl.symm
  subst this;have e:(Nat.beq zA.nilslice.tag 5)=true:=rfl
  rw[if_pos e];refine hQ tf t .nilslice (cA.refl _) ?_
  exact Objs.add (A:=[]) (o':=oS C.base sz [] .nilslice) h (fun _ _=>rfl) (fun k hk=>by simp[oS]at hk) (z21 ⟨[],.inl ⟨rfl,rfl⟩,oE.2 rfl⟩) (by simp[oS]) h.tle
 ·have e:(Nat.beq (zA.slice bx off cl.length cap).tag 5)=false:=rfl
  rw[e,if_neg (by simp)]
  intro b hb hbb;have g1:oF C T 0 [] ⟨b,t⟩=some (.slice b 0 0 0,jF ⟨b,t⟩ [] none):=by
   unfold oF;rw[hy1,sA,hy2,sA,hz1,sA];have:(Nat.blt (0*z.size) 1000000&&Nat.beq (wB z.zero) z.size)=true:=by rw[Nat.zero_mul,hz3,hz2,zC.2 rfl];rfl
   rw[this];rfl
  obtain⟨t1,k1,k2,k3,k4⟩:=zdc hb ([]:List zA) none
  rw[k1]at g1;have h1:=h.junk hb k4
  rw[g1,xA];intro n hn hnb;have he1:sH t1 sz (.slice bx off cl.length cap) cl:=(sH.mono (h.tle.trans k3) (.inr ⟨bx,off,cap,rfl,hcap,hblk,he'⟩))
  obtain⟨hf,hlen⟩:=he1.first (n:=n)
  have hall:=he1.len
  have hfl:wB cl.flatten=cl.length*sz:=by rw[bD];exact mQ hall
  have base1:eE C T T (.slice b 0 0 0) (.slice bx off cl.length cap) ⟨n,t1⟩=(bif Nat.ble (0+cl.length) 0 then oP C ⟨n,t1⟩ z cl.length cl.flatten (b,0,0,0)else nP C ⟨n,t1⟩ z cl.length cl.flatten (b,0,0,0)):=by
   unfold eE bM;rw[hy1,sA,sA,hy3];simp only[ybm,qF];rw[hy2,sA,hz1,sA,hlen,sA,hz2,hf,sA];rfl
  have ok:kN z 0 0 cl.length cl.flatten=true:=by
   unfold kN;have h1:Nat.blt (0+cl.length+0) 1000000000=true:=lC.2 (by omega)
   have h2:Nat.blt ((0+cl.length+0)*z.bytes) 1000000000=true:=lC.2 (by
    have:=ycc (show 0+cl.length+0<=1000000 by omega) hz4
    omega)
   have h3:Nat.blt z.bytes 1000000000=true:=lC.2 (by omega)
   have h4:(!Nat.beq z.size 0)=true:=by
    cases hq:Nat.beq z.size 0 with
    | true=>have:=zC.1 hq;omega
    | false=>rfl
   have h5:Nat.beq (wB cl.flatten) (cl.length*z.size)=true:=by rw[hfl,hz2];exact zC.2 rfl
   have h6:Nat.beq (wB z.zero) z.size=true:=by rw[hz3,hz2];exact zC.2 rfl
   rw[h1,h2,h3,h4,h5,h6];rfl
  obtain⟨cb,hcb,_⟩:=k2
  by_cases h0:cl.length=0
  ·have:cl=[]:=ybd.1 h0
   subst this;have:l=[]:=ybd.1 hcl.symm
   subst this;have e2:eE C T T (.slice b 0 0 0) (.slice bx off 0 cap) ⟨n,t1⟩=some (.slice b 0 0 0,⟨n,t1⟩):=by
    have:=base1
    simp only[yay]at this;rw[this];rfl
   have e3:eE C T T (.slice b 0 0 0) (.slice bx off ([]:List (List zA)).length cap) ⟨n,t1⟩=some (.slice b 0 0 0,⟨n,t1⟩):=e2
   rw[e3,xA];obtain⟨m1,m2⟩:=h1.froze (h.fresh hb) hcb (h.tfn hb)
   refine hQ _ t1 (.slice b 0 0 0) m2 ?_
   refine Objs.add (A:=[]) (o':=oS C.base sz [] (.slice b 0 0 0)) m1 (fun _ _=>rfl) (fun k hk=>by simp[oS]at hk) ?_ (by simp[oS]) m1.tle
   exact z21 ⟨[],.inr ⟨b,0,0,rfl,yal _,⟨cb,0,none,by rw[Tr.get_set,if_pos rfl];rfl,.inl rfl⟩,fun i cs hi=>by simp at hi⟩,oE.2 rfl⟩
  ·have hl0:l≠[]:=by intro e;subst e;simp at hcl;exact h0 (by rw[hcl];rfl)
   have ebl:Nat.ble (0+cl.length) 0=false:=by
    cases hq:Nat.ble (0+cl.length) 0 with
    | true=>have:=cE.1 hq;omega
    | false=>rfl
   have e2:eE C T T (.slice b 0 0 0) (.slice bx off cl.length cap) ⟨n,t1⟩=some (.slice n 0 l.length l.length,jF ⟨n,t1⟩ cl.flatten (some sz)):=by
    rw[base1,ebl,cond_false];unfold nP;simp only[];rw[show ∀x,(!(Nat.beq 0 1&&x))=true from fun _=>rfl,qF,ok,qF]
    unfold nD;rw[hcb,sA];simp only[jA.asCells,sA];unfold rU;simp only[Nat.zero_mul];show ob (cb.many 0 0) _=_
    rw[show cb.many 0 0=some [] from rfl,sA,eH,List.nil_append,yax,hz2,hcl]
   obtain⟨t2,m1,m2,m3,m4⟩:=zdc hn cl.flatten (some sz)
   rw[m1]at e2;rw[e2,xA];refine hQ tf t2 _ (cA.refl _) ?_
   refine Objs.add (A:=[]) (o':=oS C.base sz l (.slice n 0 l.length l.length)) h1 (fun k hk=>m4 k (fun e=>hk (by simp[oS,hl0,lE,e]))) (fun k hk=>?_) ?_ (by simp[oS,hl0,lE]) (h1.tle.off (h1.tfn hn) m4)
   ·have:k=n:=by simpa[oS,hl0,lE]using hk
    subst this;exact⟨hn,hnb⟩
   ·exact zvf hl0 ⟨hnb,h1.tfn hn,cl,m2,hall,hd⟩
end
end Go.Am
