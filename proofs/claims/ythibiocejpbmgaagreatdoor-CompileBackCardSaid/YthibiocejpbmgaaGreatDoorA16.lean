/- The translator's state; an instruction is added, a target is set. -/
import Derived.Lib.ItoaLen
import Derived.Test.YthibiocejpbmgaaGreatDoorA15
set_option linter.all false
noncomputable section
set_option maxRecDepth 100000
namespace Go.Proofs
open Go Go.Am
variable {b k n o:Nat}{t':Tr qA}{l p:List zA}
variable [tC]
variable {t tf:Tr qA}
def _root_.Go.Am.XIns.d(i:XIns):D:=.st [.int .u8 i.op,.int .i64 i.a,.int .i64 i.b]
def _root_.Go.Am.XIns.cells(i:XIns):List zA:=[.int .u8 i.op,.int .i64 i.a,.int .i64 i.b]
theorem Wb{i:XIns}{cs:List zA}:RD t i.d cs ↔ cs=i.cells:=by
 simp_all [XIns.d,XIns.cells,yJ,uF,bE]
def mE:Nat->List (List Nat)->List (zA × zA)
 | _,[]=>[]
 | i,k::l=>(.str k,.int .i64 (i:Int))::mE (i+1) l
theorem IY{a b:List Nat}:oI (.str a) (.str b)=some (decide (a=b)):=by
 show some (wH a b)=_
 grind [wL]
def KV{k:List Nat}:∀(l:List (List Nat)) (i:Nat),gJ (.str k) (mE i l)=some (if k∈l then some (.int .i64 ((i+dK k l:Nat):Int))else none)
 | [],i=>by simp[mE,gJ]
 | x::l,i=>by
  unfold mE gJ dK;rw[IY,uA];by_cases h:k=x
  ·simp[h]
  ·simp only[h,decide_false,cond_false,if_false,ybs,false_or];rw[KV l (i+1)];rw[show i+1+dK k l=i+(dK k l+1) by omega]
def DR{k:List Nat}:∀(l:List (List Nat)) (i:Nat),k∉l->jL (.str k) (.int .i64 ((i+l.length:Nat):Int)) (mE i l)=some (mE i (l++[k]))
 | [],i,_=>by simp[mE,jL]
 | x::l,i,h=>by
  simp only[List.cons_append,mE];unfold jL;rw[IY,uA];have h1:k≠x:=fun e=>h (e ▸ yby);have:=DR l (i+1) (fun m=>h (ybr _ m));simp only[h1,decide_false,cond_false];rw[ybn,show i+(l.length+1)=i+1+l.length by omega,this,uA]
structure TR where
 b:Nat
 pl:List zA
 vn:zA
 vc:zA
 vw:zA
 vt:zA
 vk:zA
 m1:Nat
 m2:Nat
def TR.kp(r:TR):List zA × zA × zA:=(r.pl,r.vw,r.vt)
structure oF where
 names:List (List Nat)
 consts:List yB
 ws:List D
 ts:List D
 code:List XIns
abbrev bs:Nat:=yA.base
def TR.cells(r:TR):List zA:=r.pl++[r.vn,r.vc,r.vw,r.vt,.map r.m1,.map r.m2,r.vk]
def dJ (key:yB->List Nat)(r:TR)(s:oF):List xD:=
 [wD r.b none r.cells,jE r.m1 (mE 0 s.names),jE r.m2 (mE 0 (s.consts.map key)),bB yA.base 1 (s.names.map D.str) r.vn,bB yA.base 6 (s.consts.map yB.d) r.vc,bB yA.base 1 s.ws r.vw,bB yA.base 1 s.ts r.vt,bB yA.base 3 (s.code.map XIns.d) r.vk]
structure TS (key:yB->List Nat) (tf t:Tr qA) (r:TR) (s:oF):Prop where
 pl:r.pl.length=4
 os:Objs yA.base tf t (dJ key r s)
section
variable {key:yB->List Nat}{r:TR}{s:oF}
def TS.cel(h:TS key tf t r s):kC t r.b none r.cells:=h.os.ok (wD r.b none r.cells) (by simp[dJ])
def TS.map1(h:TS key tf t r s):t.get r.m1=some (.map (mE 0 s.names)):=h.os.ok (jE r.m1 (mE 0 s.names)) (by simp[dJ])
def TS.map2(h:TS key tf t r s):t.get r.m2=some (.map (mE 0 (s.consts.map key))):=h.os.ok (jE r.m2 (mE 0 (s.consts.map key))) (by simp[dJ])
def TS.ln(h:TS key tf t r s):Loose yA.base tf t 1 (s.names.map D.str) r.vn:=h.os.ok (bB yA.base 1 (s.names.map D.str) r.vn) (by simp[dJ])
def TS.lc(h:TS key tf t r s):Loose yA.base tf t 6 (s.consts.map yB.d) r.vc:=h.os.ok (bB yA.base 6 (s.consts.map yB.d) r.vc) (by simp[dJ])
def TS.lk(h:TS key tf t r s):Loose yA.base tf t 3 (s.code.map XIns.d) r.vk:=h.os.ok (bB yA.base 3 (s.code.map XIns.d) r.vk) (by simp[dJ])
def TS.baseB(h:TS key tf t r s):yA.base<=r.b/\tf.get r.b=none:=h.os.low r.b (by simp[dJ,wD])
def TS.inB{key:yB->List Nat}{r:TR}{s:oF}:r.b∈(dJ key r s).flatMap xD.blks:=by simp[dJ,wD]
theorem TS.junk(h:TS key tf t r s)  (hn:t.get n=none)(ho:aC n t t'):TS key tf t' r s:=⟨h.pl,h.os.junk hn ho⟩
def TS.other(h:TS key tf t r s)  (hn:n∉(dJ key r s).flatMap xD.blks)(hf:tf.get n=none)(ho:aC n t t'):TS key tf t' r s:=⟨h.pl,h.os.other hn hf ho⟩
theorem TS.fresh(h:TS key tf t r s) (hn:t.get n=none):n∉(dJ key r s).flatMap xD.blks:=h.os.fresh hn
theorem TS.froze(h:TS key tf t r s) {y:qA}(hn:n∉(dJ key r s).flatMap xD.blks)(hy:t.get n=some y)(hf:tf.get n=none):TS key (tf.set n y) t r s/\iA tf (tf.set n y):=⟨⟨h.pl,(h.os.froze hn hy hf).1⟩,(h.os.froze hn hy hf).2⟩
theorem Dl (h:p.length=4)   : (p++l)[4+k]?=l[k]?:=by
 grind
theorem Al (h:p.length=4)  {v:zA}:(p++l).set (4+k) v=p++l.set k v:=by
 simp_all
def TS.ldN(h:TS key tf t r s):mA yA 29 ⟨0,t⟩ (.ptr r.b 4)=some r.vn:=h.cel.load1 Cq rfl (Dl (k:=0) h.pl)
def TS.ldC(h:TS key tf t r s):mA yA 30 ⟨0,t⟩ (.ptr r.b 5)=some r.vc:=h.cel.load1 Ab rfl (Dl (k:=1) h.pl)
def TS.ldM1(h:TS key tf t r s):mA yA 74 ⟨0,t⟩ (.ptr r.b 8)=some (.map r.m1):=h.cel.load1 ty74 rfl (Dl (k:=4) h.pl)
def TS.ldM2(h:TS key tf t r s):mA yA 74 ⟨0,t⟩ (.ptr r.b 9)=some (.map r.m2):=h.cel.load1 ty74 rfl (Dl (k:=5) h.pl)
def TS.ldK(h:TS key tf t r s):mA yA 51 ⟨0,t⟩ (.ptr r.b 10)=some r.vk:=h.cel.load1 iR rfl (Dl (k:=6) h.pl)
end
def Hy  : qB yA 76 3 (.ptr b 0)=some (.ptr b 10):=by kernel_rfl
def bT  : qB yA 76 0 (.ptr b 0)=some (.ptr b 0):=by kernel_rfl
def ziz  : qB yA 76 1 (.ptr b 0)=some (.ptr b 8):=by kernel_rfl
def ziy  : qB yA 76 2 (.ptr b 0)=some (.ptr b 9):=by kernel_rfl
def Eo  : qB yA 33 1 (.ptr b 0)=some (.ptr b 4):=by kernel_rfl
def En  : qB yA 33 2 (.ptr b 0)=some (.ptr b 5):=by kernel_rfl
def zgd  : qB yA 33 3 (.ptr b 0)=some (.ptr b 6):=by kernel_rfl
def Yv  : qB yA 33 4 (.ptr b 0)=some (.ptr b 7):=by kernel_rfl
def bK  : Cl (.ptr b o)=some (.ptr b o):=by kernel_rfl
theorem DV{d:Nat}:same d (.ptr b o) (.ptr b o)=true:=by
 have e:∀n,Nat.beq n n=true:=Nat.beq_refl;cases d <;> (grind [Am.same])
end Go.Proofs
namespace Go.Proofs
open Go Go.Am
section
variable {b base n sz:Nat}{i:XIns}{v:zA}{Q:xC}{l:List D}
variable [tC]
variable {t tf:Tr qA}{key:yB->List Nat}{r:TR}{s:oF}
def el51:mK yA 51 61 3:=⟨⟨_,iR,rfl,rfl⟩,⟨_,ty61,rfl,rfl,by decide,by decide⟩,fun y h=>by rw[ty61]at h;cases h;rfl⟩
def zh8  (hn:t.get n=none):∃t',aE yA 51 1 [(0,.agg [.int .u8 i.op,.int .i64 i.a,.int .i64 i.b])] ⟨n,t⟩=some (.slice n 0 1 1,⟨n+1,t'⟩)/\iH t' 3 (.slice n 0 1 1) [i.cells]/\iA t t'/\aC n t t':=
 gU (C:=yA) (T:=51) (el:=61) (sz:=3) (n:=1) (cl:=[i.cells]) iR rfl ty61 rfl rfl (by decide) rfl (fun k cs hk=>by
  cases k with
  | zero=>simp at hk;subst hk;rfl
  | succ k=>simp at hk) rfl hn
def Tgt (tf:Tr qA)(b:Nat)(v:zA)(i:Nat):Prop:=∃n m,v=.func (.func 126) [] [.ptr n 0,.ptr m 0]/\kC tf n none [.ptr b 0]/\kC tf m none [.int .i64 (i:Int)]
theorem Tgt.mono{tf':Tr qA}{i:Nat} (h:Tgt tf b v i)(hf:iA tf tf'):Tgt tf' b v i:=by
 obtain⟨n,m,rfl,⟨c,h1,h2⟩,⟨d,h3,h4⟩⟩:=h;exact⟨n,m,rfl,⟨c,hf _ _ h1,h2⟩,⟨d,hf _ _ h3,h4⟩⟩
theorem Bo  (h:TS key tf t r s)(hl:s.code.length<300000)
  (hQ:∀tf' t' r' v,iA tf tf'->r'.b=r.b->r'.kp=r.kp->TS key tf' t' r' ⟨s.names,s.consts,s.ws,s.ts,s.code++[i]⟩->Tgt tf' r.b v s.code.length->Q v t'):Wc yA F 86 [.ptr r.b 0,.int .u8 i.op,.int .i64 i.a,.int .i64 i.b] t Q:=by
 refine w86 ?_;simp only[uI,jC,uZ,uY,t86,tA];intro n0 hn0 hb0;obtain⟨t1,a1,a2,a3,a4⟩:=NL (v:=.ptr r.b 0) hn0;have h1:=h.junk hn0 a4;have a2:kC t1 n0 none [.ptr r.b 0]:=a2;have l0:∀t',t'.get n0=t1.get n0->mA yA 73 ⟨0,t'⟩ (.ptr n0 0)=some (.ptr r.b 0):=fun t' e=>(a2.off e).load1 ty73 rfl rfl;rw[a1,xA,l0 t1 rfl,xA,bK,xA,Hy,xA,h1.ldK,xA,h1.lk.len,xA,ybf,zB,xA];intro n1 hn1 hb1;obtain⟨t2,b1,b2,b3,b4⟩:=sX (C:=yA) zI hn1
 have h2:=h1.junk hn1 b4;have ne01:n0≠n1:=by
  intro e;subst e;obtain⟨c,hc,_⟩:=a2
  simp_all
 rw[b1,xA];intro m2 _ _;obtain⟨t3,c1,c2,c3⟩:=b2.store1 (C:=yA) hb1 (j:=0) (v:=.int .i64 (s.code.length:Int)) zI rfl rfl rfl (by decide);have c2:kC t3 n1 none [.int .i64 (s.code.length:Int)]:=c2;have h3:TS key tf t3 r s:=h2.other (h1.fresh hn1) (h1.os.tfn hn1) c3;have e03:t3.get n0=t1.get n0:=by rw[c3 n0 ne01,b4 n0 ne01]
 rw[c1,xA,l0 t3 e03,xA];simp only[uI,uB,uG,fB,bA,tF,uX,uZ,uW,uM8,l0 t3 e03,xA,bK,Hy,h3.ldK,if_true];intro n3 hn3 hb3;obtain⟨t4,d1,d2,d3,d4⟩:=zh8 (i:=i) hn3;have h4:=h3.junk hn3 d4;have ne03:n0≠n3:=by
  intro e;subst e;obtain⟨c,hc,_⟩:=a2
  simp_all
 have ne13:n1≠n3:=by
  intro e;subst e;obtain⟨c,hc,_⟩:=c2
  simp_all
 have e04:t4.get n0=t1.get n0:=by rw[d4 n0 ne03,e03]
 rw[d1,xA];simp only[l0 t4 e04,xA,DV,if_true,h4.ldK,h4.lk.same];intro n4 hn4 hb4;obtain⟨t5,f1,f2,f3,f4⟩:=Bk (C:=yA) el51 (m:=[i.d]) h4.lk d2 (by
  grind [uF,Wb,bE]) (by
  intro a ha;simp only[XIns.cells,yas,List.flatten_nil,ycd,ybs,List.not_mem_nil,or_false]at ha;rcases ha with rfl | rfl | rfl<;>rfl) (by simp) (by grind) hn4 hb4 h4.os.tle
 have ne04:n0≠n4:=by
  intro e;subst e;obtain⟨c,hc,_⟩:=a2
  simp_all
 have c24:kC t4 n1 none [.int .i64 (s.code.length:Int)]:=c2.off (d4 n1 ne13);have ne14:n1≠n4:=by
  intro e;subst e;obtain⟨c,hc,_⟩:=c24
  simp_all
 have nin0:=h.fresh hn0;have nin1:=h1.fresh hn1;have inK:∀k,xI r.vk k->k∈(dJ key r s).flatMap xD.blks:=fun k hk=>by
  simp_all [uO,dJ,bB]
 have e05:t5.get n0=t1.get n0:=by rw[f4 n0 ne04 (fun e=>nin0 (inK _ e)),e04]
 have e15:t5.get n1=t3.get n1:=by rw[f4 n1 ne14 (fun e=>nin1 (inK _ e)),d4 n1 ne13]
 rw[f1,xA];dsimp only;rw[l0 t5 e05,xA,yab DV];intro m6 _ _;have ec:(s.code.map XIns.d).length+[i.d].length=(s.code++[i]).length:=by simp
 have hd:s.code.map XIns.d++[i.d]=(s.code++[i]).map XIns.d:=by simp
 rw[ec,hd]at f2;have o5:Objs yA.base tf t5 ([wD r.b none r.cells,jE r.m1 (mE 0 s.names),jE r.m2 (mE 0 (s.consts.map key)),bB yA.base 1 (s.names.map D.str) r.vn,bB yA.base 6 (s.consts.map yB.d) r.vc,bB yA.base 1 s.ws r.vw,bB yA.base 1 s.ts r.vt]++bB yA.base 3 ((s.code++[i]).map XIns.d) (.slice n4 0 (s.code++[i]).length (s.code++[i]).length)::[]):=by
  refine Objs.upd (o:=bB yA.base 3 (s.code.map XIns.d) r.vk) h4.os (fun k k1 k2=>f4 k ?_ (fun e=>k1 (uO.2 e))) (fun k hk=>?_) f2 (by simp[bB,pF]) f3
  all_goals grind [bB,pF]
 have cel5:kC t5 r.b none r.cells:=o5.ok (wD r.b none r.cells) (by simp);have hlen:r.cells.length=11:=by simp[TR.cells,h.pl]
 obtain⟨t6,g1,g2,g3⟩:=cel5.store1 (C:=yA) h.baseB.1 (j:=10) (v:=.slice n4 0 (s.code++[i]).length (s.code++[i]).length) iR rfl rfl rfl (by omega);rw[ec,g1,xA];have es:r.cells.set 10 (.slice n4 0 (s.code++[i]).length (s.code++[i]).length)=TR.cells ⟨r.b,r.pl,r.vn,r.vc,r.vw,r.vt,.slice n4 0 (s.code++[i]).length (s.code++[i]).length,r.m1,r.m2⟩:=Al (k:=6) h.pl;rw[es]at g2;have o6:Objs yA.base tf t6 (dJ key ⟨r.b,r.pl,r.vn,r.vc,r.vw,r.vt,.slice n4 0 (s.code++[i]).length (s.code++[i]).length,r.m1,r.m2⟩ ⟨s.names,s.consts,s.ws,s.ts,s.code++[i]⟩):=by
  refine Objs.upd (A:=[]) (o:=wD r.b none r.cells) o5 (fun k k1 _=>g3 k (fun e=>k1 (by simp[wD,e]))) (fun k hk=>.inl hk) g2 (by simp[wD]) (f3.off h.baseB.2 g3)
 have h6:TS key tf t6 ⟨r.b,r.pl,r.vn,r.vc,r.vw,r.vt,.slice n4 0 (s.code++[i]).length (s.code++[i]).length,r.m1,r.m2⟩ ⟨s.names,s.consts,s.ws,s.ts,s.code++[i]⟩:=⟨h.pl,o6⟩;have nr0:n0≠r.b:=fun e=>nin0 (e ▸ TS.inB);have nr1:n1≠r.b:=fun e=>nin1 (e ▸ TS.inB);have e06:t6.get n0=t1.get n0:=by rw[g3 n0 nr0,e05]
 have e16:t6.get n1=t3.get n1:=by rw[g3 n1 nr1,e15]
 have notin:∀n,n∉(dJ key r s).flatMap xD.blks->n≠n4->n∉(dJ key ⟨r.b,r.pl,r.vn,r.vc,r.vw,r.vt,.slice n4 0 (s.code++[i]).length (s.code++[i]).length,r.m1,r.m2⟩ ⟨s.names,s.consts,s.ws,s.ts,s.code++[i]⟩).flatMap xD.blks:=by
  intro n h1 h2 h3;simp only[dJ,wD,jE,bB,List.flatMap_cons,List.flatMap_nil,yaf,ydd,ycd,not_or]at h1 h3;grind [pF]
 have tn1:t.get n1=none:=by rw[<- a4 n1 (Ne.symm ne01)];exact hn1
 obtain⟨x0,hx0,hx0'⟩:=a2;obtain⟨x1,hx1,hx1'⟩:=c2;obtain⟨h7,q7⟩:=h6.froze (n:=n0) (notin n0 nin0 ne04) (by rw[e06];exact hx0) (h.os.tfn hn0);obtain⟨h8,q8⟩:=h7.froze (n:=n1) (notin n1 nin1 ne14) (by rw[e16];exact hx1) (by rw[Tr.get_set,yaa (Ne.symm ne01)];exact h.os.tfn tn1);refine hQ _ t6 ⟨r.b,r.pl,r.vn,r.vc,r.vw,r.vt,.slice n4 0 (s.code++[i]).length (s.code++[i]).length,r.m1,r.m2⟩ _ (q7.trans q8) rfl rfl h8 ⟨n0,n1,rfl,⟨x0,?_,hx0'⟩,⟨x1,?_,hx1'⟩⟩
 all_goals grind [Tr.get_set]
theorem _root_.Go.Am.Loose.own  {k:Nat}(h:Loose base tf t sz l (.slice b 0 n k)):OwnD base tf t sz l b (some (.sz sz)):=by
 rcases h with⟨e1,_⟩ | ⟨b',cl,c,e1,k0,k1,k2,k3,k4⟩
 ·cases e1
 ·cases e1;have hcl:=k4.length;have hcl3:∀(j:Nat) cs,cl[j]?=some cs->cs.length=sz:=fun j cs hj=>(k3 j cs hj).1;have hfl:=pV hcl3;refine⟨k0,k1,cl,⟨c,by simp_all,fun j a hj=>?_⟩,hcl3,k4⟩;have hj2:j<cl.length*sz:=by grind
  have hpos:0<sz:=by
   grind
  have q1:j / sz<cl.length:=ycu (by grind);have hq:cl[j / sz]?=some cl[j / sz]:=ybd q1;have hql:=hcl3 _ _ hq;obtain⟨a',hx⟩:∃a',cl[j / sz][j%sz]?=some a':=⟨_,ybd (l:=cl[j / sz]) (i:=j%sz) (by simp_all [ycy])⟩;have e:=kS hcl3 _ _ _ _ hq hx;have ej:j / sz*sz+j%sz=j:=by grind [Nat.div_add_mod]
  rw[ej,hj]at e;have:=(k3 _ _ hq).2 _ _ hx;rw[ej]at this;rw[this,<- yci e]
def _root_.Go.Am.OwnD.loose   (h:OwnD base tf t sz l b (some (.sz sz)))(hn:l.length=n):Loose base tf t sz l (.slice b 0 n n):=by
 obtain⟨h1,h2,cl,⟨c,h3,h4⟩,h5,h6⟩:=h;subst hn;have:=h6.length;refine .inr ⟨b,cl,c,rfl,h1,h2,by rw[h3,pV h5,this],fun i cs hi=>⟨h5 i cs hi,fun j a hj=>h4 _ _ (kS h5 i j cs a hi hj)⟩,h6⟩
theorem Oh{i:Nat}  {x:XIns}(h:TS key tf t r s)(hv:Tgt tf r.b v i)(hi:s.code[i]?=some x)(hl:s.code.length<300000)
  (hQ:∀t',TS key tf t' r ⟨s.names,s.consts,s.ws,s.ts,s.code.set i ⟨x.op,s.code.length,x.b⟩⟩->Q (.tup []) t'):nE (oM v []) fun p=>Wq yA F iG p.1 p.2 t Q:=by
 obtain⟨n,m,rfl,h1,h2⟩:=hv;have ef:oM (.func (.func 126) [] [.ptr n 0,.ptr m 0]) []=some (126,[.ptr n 0,.ptr m 0]):=rfl;rw[ef,xA,q126];have htle:=h.os.tle;have l0:mA yA 73 ⟨0,t⟩ (.ptr n 0)=some (.ptr r.b 0):=tQ (H:=⟨0,tf⟩) (fun _ _ k=>htle _ _ k) (h1.load1 ty73 rfl rfl);have l1:mA yA 3 ⟨0,t⟩ (.ptr m 0)=some (.int .i64 (i:Int)):=tQ (H:=⟨0,tf⟩) (fun _ _ k=>htle _ _ k) (h2.load1 zI rfl rfl)
 have hlt:i<s.code.length:=(ybc.1 hi).1;refine w126 ?_;simp only[uI,jC,uZ,t126,tA];obtain⟨b,e1⟩:∃b,r.vk=.slice b 0 s.code.length s.code.length:=by
  rcases h.lk with⟨_,e2⟩ | ⟨b,cl,c,e1,_⟩
  all_goals simp_all
 have ldk:=h.ldK;have hlk:=h.lk;rw[e1]at ldk hlk;have ia:aA yA 51 (.slice b 0 s.code.length s.code.length) (.int .i64 (i:Int))=some (.ptr b (0+i*3)):=rP sl51 hlt;have fa:qB yA 61 1 (.ptr b (0+i*3))=some (.ptr b (0+i*3+1)):=by
  unfold qB aS;rw[ty61,uA];rfl
 have lv:tB (.slice b 0 s.code.length s.code.length)=some (.int .i64 (s.code.length:Int)):=rfl;rw[l0,xA,bK,xA,Hy,xA,ldk,xA,l1,xA,zB,xA];simp only[xA,bK,Hy,ldk,lv,zB,ia,fa];intro mm _ _;obtain⟨t',g1,g2,g3⟩:=OwnD.store (C:=yA) hlk.own (i:=i) (o:=1) (T:=3) (d:=x.d) (d':=XIns.d ⟨x.op,s.code.length,x.b⟩) (v:=.int .i64 (s.code.length:Int)) (by simp[hi]) zI rfl (by exact(by decide:1+1<=3)) rfl (fun cs h3 hrd=>by
  rw[Wb]at hrd ⊢;subst hrd;rfl)
 have e3:0+i*3+1=i*3+1:=by omega
 rw[e3,g1,xA];have hmap:(s.code.map XIns.d).set i (XIns.d ⟨x.op,s.code.length,x.b⟩)=(s.code.set i ⟨x.op,s.code.length,x.b⟩).map XIns.d:=by rw[List.map_set]
 rw[hmap]at g2;refine hQ t' ⟨h.pl,?_⟩;have hos:=h.os;refine Objs.upd (A:=[wD r.b none r.cells,jE r.m1 (mE 0 s.names),jE r.m2 (mE 0 (s.consts.map key)),bB yA.base 1 (s.names.map D.str) r.vn,bB yA.base 6 (s.consts.map yB.d) r.vc,bB yA.base 1 s.ws r.vw,bB yA.base 1 s.ts r.vt]) (B:=[]) (o:=bB yA.base 3 (s.code.map XIns.d) r.vk) hos (fun k k1 _=>g3 k (fun e=>k1 ?_)) (fun k hk=>.inl hk) ?_ ?_ (htle.off ?_ g3)
 ·grind [bB,pF]
 ·rw[e1];exact g2.loose (by simp)
 ·grind [bB,pF]
 ·exact(hlk.none (tO.2 rfl)).1
end
section
variable [tC]
variable {t:Tr qA}
def pv36{f:rE}{u v:zA}(h1:sA t 1 (wC f.n.limbs) u)(h2:sA t 1 (wC f.d.limbs) v)(hf:f.ok):iB yA F 16 [.agg [.bool f.n.neg,u,.bool f.d.neg,v]] t=some (.int .i64 (iO f:Nat)):=by
 have hs:=Ki hf;refine pC.2 (w16 ?_);unfold iO at hs   ⊢;simp (disch:=omega) only[uI,uZ,uW,t16,tA,h1.len,h2.len,xA,zB,aT,wrap_i64];simp
mutual
theorem pv37:∀(x:vA) (left:Int) (cs:List zA),x.ok -> -9007199254740992<=left->left<=9007199254740992->RD t x.d cs->iB yA F 17 [.agg cs,.int .i64 left] t=some (.int .i64 (vM x left))
 | .mk op name v args,left,cs,hx,hl1,hl2,h=>by
  obtain⟨a,b,c,rfl,ha,hb,hc⟩:=iK h;simp only[vA.op,vA.name,vA.v,vA.args]at ha hb hc ⊢;have hx':=hx;unfold vA.ok at hx';have hf:=Ki hx'.2.1;have hn:=hx'.1;unfold sE at hn;refine pC.2 (w17 ?_);simp (disch:=omega) only[uI,uZ,uY,uW,t17,tA,q16,pv36 ha hb hx'.2.1,xA,zB,Kn,xS,if_true,mN,wrap_i64,Int.tdiv_eq_ediv_of_nonneg];unfold vM;exact zfj args args left _ op name v _ _ c 0 hc rfl hx'.2.2.2 hx'.2.2.1 (by omega) hl1 hl2 (by omega)
theorem zfj:∀(l args:List vA) (left n:Int) (op:Nat) (name:List Nat) (v:yB) (a b c:zA) (i:Nat),sA t 9 (args.map vA.d) c->args.drop i=l->vA.oks l->args.length<sE->0<=n -> -9007199254740992<=left->left<=9007199254740992->n<=27021597764222976 →
  jp 17 2 [.int .i64 left,.int .i64 n,.int .i64 i,.int .u8 op,.str name,.int .u8 v.kind,.bool v.f.n.neg,a,.bool v.f.d.neg,b,.int .i64 v.i,c] t (fun v' t'=>v'=.int .i64 (yT l left n)/\t'=t)
 | [],args,left,n,op,name,v,a,b,c,i,hc,hd,hok,hsz,hn,hl1,hl2,hn2=>by
  have:=Mn hd;refine j17_2 ?_;simp only[uI,uG,kB,uZ,uY,uW,cD,zhi,tA,hc.len,xA,zB,ybf,aB];grind [yT]
 | x::l,args,left,n,op,name,v,a,b,c,i,hc,hd,hok,hsz,hn,hl1,hl2,hn2=>by
  obtain⟨h1,h2,h3⟩:=Mo hd;unfold sE at hsz;have hok':=hok;unfold vA.oks at hok';refine j17_2 ?_;obtain⟨pb,po,cs,g1,g2,g3,g4,g5⟩:=eD.at bR (by simp) hc (i:=i) (d:=x.d) (by simp[h1]);simp only[uI,uG,kB,uZ,uY,uW,cD,zhi,tA,hc.len,xA,zB,ybf,aB,vG,g1,g2,Fv];rw[yab (by omega)];unfold yT;split
  ·rename_i hle;obtain⟨a1,b1,c1,rfl,ha1,hb1,hc1⟩:=iK g5;have hs:=Pa x (left-n) hok'.1;rw[tI g5 x.zs];simp only[xA,cellsOf,mG,gH,tG,zG];simp (disch:=omega) only[q17,yaz,yba,wrap_i64];rw[pv37 x (left-n) _ hok'.1 (by omega) (by omega) g5];simp (disch:=omega) only[xA,zB,wrap_i64];have:=zfj l args left (n+vM x (left-n)) op name v a b c (i+1) hc h2 hok'.2 hsz (by omega) hl1 hl2 (by omega)
   simp_all
  ·simp
end
end
section
variable {l:List oE}{i:Nat}
variable [tC]
variable {t:Tr qA}
def bX:List eI->Int->Int
 | [],n=>n
 | d::l,n=>if n<=2000 then bX l (n+(d.name.length:Int) / 30)else n
def aR:List vF->Int->Int
 | [],n=>n
 | r::l,n=>if n<=2000 then aR l (n+(iO r.f:Nat))else n
def qU:List oE->Int->Int
 | [],n=>n
 | x::l,n=>if n<=2000 then qU l (aR x.rows (n+(x.name.length:Int) / 30))else n
def yO(c:fC)(n:Int):Int:=n+((c.name.length:Int) / 30+(c.label.length:Int) / 30+vM c.when_ (2000-n))
def zS:List fC->Int->Int
 | [],n=>n
 | c::l,n=>if n<=2000 then(if yO c n<=2000 then zS l (yO c n+vM c.then_ (2000-yO c n))else zS l (yO c n))else n
def Oz(p:rG):Int:=zS p.clauses (qU p.tables (bX p.defs (1+(p.name.length:Int) / 30+p.defs.length+p.tables.length+p.clauses.length)))
def Ry(n:Nat):Int.tdiv (n:Int) 30=(n:Int) / 30:=Int.tdiv_eq_ediv_of_nonneg (by omega)
section
variable {p:rG}{a b c:zA}
theorem RY{l:List fC}(hc:sA t 24 (l.map fC.d) c)(hn:l.length<1125899906842624)(hf:∀x∈l,x.fit):∀(m i:Nat) (n:Int),i+m=l.length->0<=n->n<1152921504606846976->jp 5 14 [.int .i64 2000,.int .i64 n,.int .i64 (i:Int),.str p.name,a,b,c] t (fun v s=>v=.int .i64 (zS (l.drop i) n)/\s=t):=by
 intro m;induction m with
 | zero=>
  intro i n hi h0 h1;refine j5_14 ?_;simp only[uI,uG,fB,kB,uZ,uY,uW,uM3,zg8,tA,hc.len,xA,zB,ybf,aB];rw[yaa (by omega),ybt (by omega)]
  (first | exact⟨rfl,rfl⟩ | exact⟨rfl,trivial⟩ | trivial)
 | succ m ih=>
  intro i n hi h0 h1;have hlt:i<l.length:=by omega
  obtain⟨q,off,u1,u2,u3,w1,w2,w3,g1,g2,g3,g4,g5,g6⟩:=Zk hc (ybd hlt);have hfit:=hf _ (ycj hlt);obtain⟨f1,f2,_,_,_,f6,f7⟩:=hfit;unfold sE at f1 f2;have ok1:=vA.fit_ok f6;have ok2:=vA.fit_ok f7;refine j5_14 ?_;simp only[uI,uG,fB,kB,uZ,uY,uW,uM3,zg8,tA,hc.len,xA,zB,ybf,aB,vG];rw[yab (by omega),ybl hlt];unfold zS;by_cases h2:n<=2000
  ·rw[yab h2,yab h2];unfold Nj at g3;rw[g1,xA,g2,xA,g3,xA];unfold gS at g6;simp only[gS,cellsOf,mG,gH,tG,zG,yaz,yba];have s1:=Pa l[i].when_ (2000-n) ok1;have e1:=pv37 l[i].when_ (2000-n) _ ok1 (by omega) (by omega) g4;unfold oC at e1;have ew:yO l[i] n=n+((l[i].name.length:Int) / 30+(l[i].label.length:Int) / 30+vM l[i].when_ (2000-n)):=rfl
   have eN:dA .i64 (n+dA .i64 (dA .i64 (dA .i64 ((l[i].name.length:Int) / 30)+dA .i64 ((l[i].label.length:Int) / 30))+vM l[i].when_ (2000-n)))=yO l[i] n:=by
    rw[wrap_i64 (n:=(l[i].name.length:Int) / 30) (by omega) (by omega),wrap_i64 (n:=(l[i].label.length:Int) / 30) (by omega) (by omega),wrap_i64 (n:=(l[i].name.length:Int) / 30+(l[i].label.length:Int) / 30) (by omega) (by omega),
     wrap_i64 (n:=(l[i].name.length:Int) / 30+(l[i].label.length:Int) / 30+vM l[i].when_ (2000-n)) (by omega) (by omega),wrap_i64 (by omega) (by omega)]
    rfl
   have bw:0<=yO l[i] n/\yO l[i] n<1152921504606846976:=by omega
   refine sB g6 ?_;rw[wrap_i64 (n:=2000-n) (by omega) (by omega),q17,e1,xA,zB,xA];simp only[Kn,xS,if_true,mN,Ry,eN,vG];have ei:dA .i64 ((i:Int)+1)=((i+1:Nat):Int):=by grind [wrap_i64]
   generalize yO l[i] n=k at *;by_cases h3:k<=2000
   ·rw[yab h3,yab h3];have s2:=Pa l[i].then_ (2000-k) ok2;have e2:=pv37 l[i].then_ (2000-k) _ ok2 (by omega) (by omega) g5;unfold oC at e2;rw[wrap_i64 (n:=2000-k) (by omega) (by omega),q17,e2,xA,zB,xA,ei,wrap_i64 (by omega) (by omega)];exact ih (i+1) _ (by omega) (by omega) (by omega)
   ·rw[yaa h3,yaa h3,ei];exact ih (i+1) _ (by omega) bw.1 bw.2
  grind
theorem DG:∀(l:List vF) (n:Int),(∀r∈l,r.fit)->0<=n->0<=aR l n/\aR l n<=max n 4503599627372496
 | [],n,_,h=>by grind [aR]
 | r::l,n,hf,h=>by
  unfold aR;split
  ·have:=Ki (hf r (by simp)).2.2.2.1;have:=DG l (n+(iO r.f:Nat)) (fun x hx=>hf x (by simp[hx])) (by omega);omega
  ·omega
theorem KY (hb:sA t 3 (l.map oE.d) b) (hi:i<l.length):∃p o v,aA yA 23 b (.int .i64 (i:Int))=some (.ptr p o)/\qB yA 68 0 (.ptr p o)=some (.ptr p (o+0))/\qB yA 68 2 (.ptr p o)=some (.ptr p (o+2))/\mA yA 9 ⟨0,t⟩ (.ptr p (o+0))=some (.str l[i].name)/\mA yA 66 ⟨0,t⟩ (.ptr p (o+2))=some v/\sA t 7 (l[i].rows.map vF.d) v:=by
 obtain⟨p,o,cs,g1,g2,g3,_,g5⟩:=eD.at Gl (by simp) hb (i:=i) (d:=l[i].d) (by simp_all);obtain⟨v,rfl,hv⟩:=Df g5;exact⟨p,o,v,g1,by kernel_rfl,by kernel_rfl,g3.load1 yK rfl rfl,g3.load1 ty66 rfl rfl,hv⟩
theorem RW (hb:sA t 3 (l.map oE.d) b)(hf:∀x∈l,x.fit) (hi:i<l.length)(hil:i<1125899906842624){Q:xC}:∀(m j:Nat) (n:Int),j+m=l[i].rows.length->0<=n->n<1152921504606846976 →
  jp 5 6 [.int .i64 2000,.int .i64 (aR (l[i].rows.drop j) n),.int .i64 ((i+1:Nat):Int),.str p.name,a,b,c] t Q->jp 5 10 [.int .i64 2000,.int .i64 n,.int .i64 (i:Int),.int .i64 (j:Int),.str p.name,a,b,c] t Q:=by
 obtain⟨q,o,v,g1,g2,g3,g4,g5,g6⟩:=KY hb hi;have hfit:=hf _ (ycj hi);obtain⟨f1,f2,f3⟩:=hfit;unfold sE at f1 f2;have ei:dA .i64 ((i:Int)+1)=((i+1:Nat):Int):=by grind [wrap_i64]
 intro m;induction m with
 | zero=>
  intro j n hj h0 h1 hQ;rw[ybt (by omega)]at hQ;refine j5_10 ?_;simp only[uI,uG,kB,uZ,uW,uA9,zg9,tA];rw[g1,xA,g3,xA,g5,xA,g6.len,xA,ybf,zB,xA];simp only[aB];rw[yaa (by omega),ei];exact hQ
 | succ m ih=>
  intro j n hj h0 h1 hQ;have hlt:j<l[i].rows.length:=by omega
  rw[ybl hlt]at hQ;unfold aR at hQ;refine j5_10 ?_;simp only[uI,uG,kB,uZ,uW,uA9,zg9,tA];rw[g1,xA,g3,xA,g5,xA,g6.len,xA,ybf,zB,xA];simp only[aB,vG];rw[yab (by omega)];by_cases h2:n<=2000
  ·rw[yab h2]at hQ ⊢;obtain⟨q',o',cs,k1,k2,k3,_,k5⟩:=eD.at Gk (by simp) g6 (i:=j) (d:=l[i].rows[j].d) (by simp_all);obtain⟨x,y,rfl,hx,hy⟩:=Dg k5;have fa:qB yA 71 3 (.ptr q' o')=some (.ptr q' (o'+3)):=by kernel_rfl
   have ld:mA yA 43 ⟨0,t⟩ (.ptr q' (o'+3))=some (.agg [.bool l[i].rows[j].f.n.neg,x,.bool l[i].rows[j].f.d.neg,y]):=k3.load (j:=3) ty43 rfl rfl (by simp_all);have fr:(l[i].rows[j]).fit:=f3 _ (ycj hlt);have hz:gG [(.bool false),.nilslice,(.bool false),.nilslice] (.agg [.bool l[i].rows[j].f.n.neg,x,.bool l[i].rows[j].f.d.neg,y])=some (cellsOf [.bool l[i].rows[j].f.n.neg,x,.bool l[i].rows[j].f.d.neg,y]):=kN (by
    show(true&&(mH .nilslice x&&(true&&(mH .nilslice y&&true))))=true
    grind [cM])
   have e1:=pv36 hx hy fr.2.2.2.1;have hs:=Ki fr.2.2.2.1;have ej:dA .i64 ((j:Int)+1)=((j+1:Nat):Int):=by grind [wrap_i64]
   simp only[xA,g3,g5];rw[k1,xA,fa,xA,ld,xA,hz,xA];simp only[cellsOf,tG,zG,yaz,yba];rw[q16,e1,xA,zB,xA,ej,wrap_i64 (by omega) (by omega)]
   grind
  grind
theorem RV(hb:sA t 3 (p.tables.map oE.d) b)(hc:sA t 24 (p.clauses.map fC.d) c)(hp:p.fit):∀(m i:Nat) (n:Int),i+m=p.tables.length->0<=n->n<1152921504606846976->jp 5 6 [.int .i64 2000,.int .i64 n,.int .i64 (i:Int),.str p.name,a,b,c] t (fun v s=>v=.int .i64 (zS p.clauses (qU (p.tables.drop i) n))/\s=t):=by
 have hnt:=hp.ntables;have hnc:=hp.nclauses;unfold sE at hnt hnc;have bD:∀n:Int,0<=n->n<1152921504606846976->jp 5 14 [.int .i64 2000,.int .i64 n,.int .i64 0,.str p.name,a,b,c] t (fun v s=>v=.int .i64 (zS p.clauses n)/\s=t):=by
  intro n h0 h1;have:=RY (p:=p) (a:=a) (b:=b) hc hnc hp.clauses p.clauses.length 0 n (by omega) h0 h1
  simp_all
 intro m;induction m with
 | zero=>
  intro i n hi h0 h1;refine j5_6 ?_;simp only[uI,uS,uZ,uW,t5_6,tA,hb.len,xA,zB,ybf,aB];rw[yaa (by omega),ybt (by omega)];exact bD n h0 h1
 | succ m ih=>
  intro i n hi h0 h1;have hlt:i<p.tables.length:=by omega
  obtain⟨q,o,v,g1,g2,g3,g4,g5,g6⟩:=KY hb hlt;have hfit:=hp.tables _ (ycj hlt);obtain⟨f1,f2,f3⟩:=hfit;unfold sE at f1;refine j5_6 ?_;simp only[uI,uS,uZ,uW,t5_6,tA,hb.len,xA,zB,ybf,aB,vG];rw[yab (by omega),ybl hlt];unfold qU;by_cases h2:n<=2000
  ·rw[yab h2,yab h2,g1,xA,g2,xA,g4,xA,rK,xA,mN,Ry,wrap_i64 (n:=(p.tables[i].name.length:Int) / 30) (by omega) (by omega),wrap_i64 (by omega) (by omega)];have hr:=DG p.tables[i].rows (n+(p.tables[i].name.length:Int) / 30) f3 (by omega);refine RW (p:=p) (a:=a) (c:=c) hb hp.tables hlt (by omega) p.tables[i].rows.length 0 _ (by omega) (by omega) (by omega) ?_
   rw[ycr];exact ih (i+1) _ (by omega) (by omega) (by omega)
  simp_all [yaa]
def RX(ha:sA t 3 (p.defs.map eI.d) a)(hb:sA t 3 (p.tables.map oE.d) b)(hc:sA t 24 (p.clauses.map fC.d) c)(hp:p.fit):∀(m i:Nat) (n:Int),i+m=p.defs.length->0<=n->n<1152921504606846976->jp 5 2 [.int .i64 2000,.int .i64 n,.int .i64 (i:Int),.str p.name,a,b,c] t (fun v s=>v=.int .i64 (zS p.clauses (qU p.tables (bX (p.defs.drop i) n)))/\s=t):=by
 have hnd:=hp.ndefs;unfold sE at hnd;have bD:∀n:Int,0<=n->n<1152921504606846976->jp 5 6 [.int .i64 2000,.int .i64 n,.int .i64 0,.str p.name,a,b,c] t (fun v s=>v=.int .i64 (zS p.clauses (qU p.tables n))/\s=t):=by
  intro n h0 h1;have:=RV (a:=a) hb hc hp p.tables.length 0 n (by omega) h0 h1;rw[ycr]at this;exact this
 intro m;induction m with
 | zero=>
  intro i n hi h0 h1;refine j5_2 ?_;simp only[uI,uS,kB,uZ,uW,t5_2,tA,ha.len,xA,zB,ybf,aB];rw[yaa (by omega),ybt (by omega)];exact bD n h0 h1
 | succ m ih=>
  intro i n hi h0 h1;have hlt:i<p.defs.length:=by omega
  obtain⟨q,o,cs,g1,g2,g3,_,g5⟩:=eD.at sl22 (by simp) ha (i:=i) (d:=p.defs[i].d) (by simp[ybd hlt]);have g5:=Wd g5;subst g5;have fa:qB yA 65 0 (.ptr q o)=some (.ptr q (o+0)):=by kernel_rfl
  have ld:mA yA 9 ⟨0,t⟩ (.ptr q (o+0))=some (.str p.defs[i].name):=g3.load1 yK rfl rfl;have hfit:=hp.defs _ (ycj hlt);have f1:=hfit.1;unfold sE at f1;have ei:dA .i64 ((i:Int)+1)=((i+1:Nat):Int):=by rw[wrap_i64 (by omega) (by omega)];omega
  refine j5_2 ?_;simp only[uI,uS,kB,uZ,uW,t5_2,tA,ha.len,xA,zB,ybf,aB,vG];rw[yab (by omega),ybl hlt];unfold bX;by_cases h2:n<=2000
  ·rw[yab h2,yab h2,g1,xA,fa,xA,ld,xA,rK,xA,mN,Ry,ei,wrap_i64 (n:=(p.defs[i].name.length:Int) / 30) (by omega) (by omega),wrap_i64 (by omega) (by omega)];exact ih (i+1) _ (by omega) (by omega) (by omega)
  ·rw[yaa h2,yaa h2];exact bD n h0 h1
def zb8{cs:List zA}(hp:p.fit)(h:RD t p.d cs):iB yA F 5 [.agg cs,.int .i64 2000] t=some (.int .i64 (Oz p)):=by
 obtain⟨a,b,c,rfl,ha,hb,hc⟩:=Aj h;have p1:=hp.name;have p2:=hp.ndefs;have p3:=hp.ntables;have p4:=hp.nclauses;unfold sE at p1 p2 p3 p4;refine pC.2 (w5 ?_);simp only[uI,uZ,uW,t5,tA,ha.len,hb.len,hc.len,xA,zB,ybf,mN,Ry];rw[wrap_i64 (n:=(p.name.length:Int) / 30) (by omega) (by omega),wrap_i64 (n:=1+(p.name.length:Int) / 30) (by omega) (by omega),wrap_i64 (n:=1+(p.name.length:Int) / 30+(p.defs.length:Int)) (by omega) (by omega),wrap_i64 (n:=1+(p.name.length:Int) / 30+(p.defs.length:Int)+(p.tables.length:Int)) (by omega) (by omega),wrap_i64 (by omega) (by omega)]
 have:=RX ha hb hc hp p.defs.length 0 (1+(p.name.length:Int) / 30+p.defs.length+p.tables.length+p.clauses.length) (by omega) (by omega) (by omega);rw[ycr]at this;exact this
end
end
section
variable [tC]
variable {t:Tr qA}
def Bj:List (List Nat):=[[],[],[],[52],[52],[],[50,32,50,50],[50,50,32,51,51,32,53,53,32,54,54,32,52,53,32,52,54],[50,50,32,51,51,32,53,53,32,54,54,32,52,52,32,52,53,32,52,54],[50,50,32,51,50,32,50,51],[50,50,32,51,51,32,51,50],[50,50,32,51,51,32,52,52,32,53,53,32,54,54],[50,50,32,51,51,32,52,52,32,53,53,32,54,54],[50,50,32,51,51,32,52,52,32,53,53,32,54,54],[49,49,32,50,50,32,51,51,32,52,52,32,53,53,32,54,54],[],[],[49],[],[50,50,32,51,51],[52,52],[52,52],[52,52,54],[52,52],[50],[50,32,51,32,53,32,54],[52]]
def kM (t:Tr qA):Prop:=At t 0 0 (Bj.map zA.str)
theorem kM.mono{t':Tr qA}(h:kM t)(k:iA t t'):kM t':=At.mono k h
def fstW (s:List Nat):List Nat:=match oZ [32] s with | some p=>p.1 | none=>s
def argT (s:List Nat):Int × Int:=if s=[]then(1,0)else((fstW s).length,(fstW s).length)
def Ke(op:Nat):Bool:=op == 1||op == 2||op == 5||op == 6||op == 15||op == 16||op == 18
def ZJ:∀s∈Bj,s.length<100:=by decide
theorem zbf:∀k,k<27->Ke k=false->∀s,Bj[k]?=some s->argT s=gF k:=by
 have h:((List.range 27).all fun k=>Ke k||(match Bj[k]? with | some s=>decide (argT s=gF k) | none=>true))=true:=by kernel_rfl
 grind
theorem cut_pv{s:List Nat}(hs:s.length<100):∃a b,iB yA F 133 [.str s,.str [32]] t=some (.tup [.str (fstW s),.str a,.bool b]):=by
 have hg:yA.prims.get 133=some (hO Hc):=by kernel_rfl
 have hb:Nat.blt (wB s) 4294967281=true:=by grind [oD,sC]
 unfold fstW
 cases hc:oZ [32] s with
 | none=>exact⟨[],false,Dj hg fun H=>by unfold Hc;simp only[];rw[hb,hc];rfl⟩
 | some p=>exact⟨p.2,true,Dj hg fun H=>by unfold Hc;simp only[];rw[hb,hc];rfl⟩
theorem NX{op:Nat}(hop:op<256)(hg:kM t):iB yA F 96 [.int .u8 (op:Int)] t=some (.tup [.int .i64 (gF op).1,.int .i64 (gF op).2]):=by
 have w:dA .i64 (op:Int)=(op:Int):=wrap_i64 (by omega) (by omega);have tab:27<=op\/Ke op=false->wp 96 (.ite (eC 27 (dA .i64 (op:Int)))
 (.ret (.tup [(.int .i64 1),(.int .i64 0)]))
 (.opt (aA yA 198 (.ptr 0 0) (.int .u8 (op:Int))) fun a13=>.light (fun m=>mA yA 9 ⟨0,m⟩ a13) fun a14=>.asS a14 fun s15=>.ite (wH s15 [])
 (.ret (.tup [(.int .i64 1),(.int .i64 0)]))
 (.opt (aA yA 198 (.ptr 0 0) (.int .u8 (op:Int))) fun a16=>.light (fun m=>mA yA 9 ⟨0,m⟩ a16) fun a17=>.asS a17 fun s18=>.call 133 [(.str s18),(.str [32])] fun a19=>
 .opt (gE 0 a19) fun a20=>.asS a20 fun s21=>.opt (gE 1 a19) fun a22=>.asS a22 fun s23=>.opt (gE 2 a19) fun a24=>.asB a24 fun b25=>.ret (.tup [(.int .i64 (Int.ofNat (wB s21))),(.int .i64 (Int.ofNat (wB s21)))])))) t (fun v' t'=>v'=.tup [.int .i64 (gF op).1,.int .i64 (gF op).2]/\t'=t):=by
  intro h;simp only[tA,w,vG];by_cases h27:27<=op
  ·rw[yab (by omega)];have e:gF op=(1,0):=by unfold gF;repeat rw[yaa (by omega)]
   simp_all
  ·rw[yaa (by omega)];have hsp:Ke op=false:=h.resolve_left h27;obtain⟨s,hs⟩:∃s,Bj[op]?=some s:=⟨_,ybd (l:=Bj) (i:=op) (by show op<27;omega)⟩;have hN:=zbf op (by omega) hsp s hs;have hsm:=ZJ s (ycv hs);have ia:aA yA 198 (.ptr 0 0) (.int .u8 (op:Int))=some (.ptr 0 (0+op*1)):=by
    unfold aA;have e1:(zA.int .u8 (op:Int)).asNat=some op:=rfl;rw[ty198,uA,e1,uA];simp only[zA.asSlice,zA.asPtr,uA,fD.asArr];rw[yK,uA,sC.2 (by omega)];rfl
   have ld:mA yA 9 ⟨0,t⟩ (.ptr 0 (0+op*1))=some (.str s):=by
    have:=At.load1 (C:=yA) (j:=op) (a:=.str s) hg yK rfl (by simp_all)
    simp_all
   obtain⟨a,b,hc⟩:=cut_pv (t:=t) hsm;rw[ia,xA,ld,xA,rK,xA];unfold argT at hN;by_cases h0:s=[]
   ·grind [wL]
   ·rw[yaa (fun e=>h0 ((wL _ _).1 e))];rw[yaa h0]at hN;simp only[xA,ld,rK];rw[q133,hc];simp only[xA,gE,zA.asTup,uA,vE,yaz,yba,rK,lE,mN];grind
 refine pC.2 (w96 ?_);have pos:∀ {k:Nat} {x y:T} {Q:xC},op=k->wp 96 x t Q->wp 96 (.ite (cA (op:Int) (k:Int)) x y) t Q:=fun h hx=>sB (qE.2 (by omega)) hx;have neg:∀ {k:Nat} {x y:T} {Q:xC},op≠k->wp 96 y t Q->wp 96 (.ite (cA (op:Int) (k:Int)) x y) t Q:=fun h hy=>sD (fun e=>absurd (qE.1 e) (by omega)) hy;unfold t96 uB uS uX uZ uY uW;by_cases h1:op=1
 ·refine pos h1 (pos h1 ?_);subst h1;exact⟨rfl,rfl⟩
 ·refine neg h1 ?_;by_cases h2:op=2
  ·refine pos h2 ?_;subst h2;exact⟨rfl,rfl⟩
  ·refine neg h2 ?_;by_cases h5:op=5
   ·refine pos h5 ?_;subst h5;exact⟨rfl,rfl⟩
   ·refine neg h5 ?_;by_cases h6:op=6
    ·refine pos h6 ?_;subst h6;exact⟨rfl,rfl⟩
    ·refine neg h6 ?_;by_cases h15:op=15
     ·refine pos h15 (pos h15 ?_);subst h15;exact⟨rfl,rfl⟩
     ·refine neg h15 ?_;by_cases h16:op=16
      ·refine pos h16 ?_;subst h16;exact⟨rfl,rfl⟩
      ·refine neg h16 ?_;by_cases h18:op=18
       ·refine pos h18 ?_;subst h18;exact⟨rfl,rfl⟩
       grind [Ke]
theorem zal{x:vA}{a b c:zA}(hx:x.fit)(hg:kM t)(ha:sA t 1 (wC x.v.f.n.limbs) a)(hb:sA t 1 (wC x.v.f.d.limbs) b)(hc:sA t 9 (x.args.map vA.d) c):iB yA F 85 [.agg (oC x a b c)] t=some (.bool (gI yC x.op x.v x.args.length)):=by
 obtain⟨op,name,v,args⟩:=x;simp only[vA.op,vA.name,vA.v,vA.args]at ha hb hc ⊢;unfold vA.fit at hx;obtain⟨h1,h2,_,h3,h4,_⟩:=hx;unfold sE at h4;have c1:=AM ha hb h3.2.1;have c2:=NX (t:=t) h1 hg;refine pC.2 (w85 ?_);simp only[uI,uB,bA,uX,uZ,uY,t85,tA,vA.op,vA.name,vA.v,vA.args,q26,q96,c1,c2,xA,lE,gE,zA.asTup,uA,vE,yaz,yba,zB,hc.len,ybf,qE,Qi,yZ,decide_eq_true_eq]
 grind [gI]
end
end Go.Proofs
namespace Go.Am
open Go Go.RowKit
variable {T el sz:Nat}{v:zA}{l:List D}{A B:List xD}
section
variable {t tf:Tr qA}{C:fA}{base:Nat}
def oS (base sz:Nat)(l:List D)(v:zA):xD where
 blks:=if l=[]then []else pF v
 ok:=fun tf t=>if l=[]then sA tf sz [] v else ∃n,v=.slice n 0 l.length l.length/\OwnD base tf t sz l n (some (.sz sz))
 keep:=fun {tf t tf' t'} h hf k=>by
  by_cases hl:l=[]
  ·rw[yab hl]at h ⊢;exact h.mono hf
  ·rw[yaa hl]at h k ⊢;obtain⟨n,rfl,h⟩:=h;have:=k n (by simp[pF]);exact⟨n,rfl,h.grow hf this.2 this.1⟩
 live:=fun {tf t} h k hk=>by
  by_cases hl:l=[]
  ·simp_all
  ·rw[yaa hl]at h hk;obtain⟨n,rfl,_,_,_,⟨c,hc,_⟩,_⟩:=h
   grind [pF]
def zff  (h:sA tf sz [] v):(oS base sz [] v).ok tf t:=h
theorem FY{n:Nat} (hl:l≠[])(h:OwnD base tf t sz l n (some (.sz sz))):(oS base sz l (.slice n 0 l.length l.length)).ok tf t:=by
 grind [oS]
theorem Lh   (hl:l≠[])(h:(oS base sz l v).ok tf t):∃n,v=.slice n 0 l.length l.length/\OwnD base tf t sz l n (some (.sz sz)):=by
 grind [oS]
def zfg  (h:(oS base sz [] v).ok tf t):sA tf sz [] v:=h
def zhx   (h:(oS base sz l v).ok tf t)(ht:iA tf t):sA t sz l v:=by
 by_cases hl:l=[]
 ·subst hl;exact(zfg h).mono ht
 ·obtain⟨n,hv,ho⟩:=Lh hl h;subst hv;exact ho.read (.inr ⟨_,rfl,rfl⟩) ht rfl (ybk _)
theorem Objs.freezeS    (h:Objs base tf t (A++oS base sz l v::B)):∃tf',iA tf tf'/\Objs base tf' t (A++B)/\sA tf' sz l v:=by
 have ho:(oS base sz l v).ok tf t:=h.ok (oS base sz l v) (by simp);by_cases hl:l=[]
 ·subst hl;exact⟨tf,iA.refl _,h.drop,zfg ho⟩
 ·obtain⟨n,rfl,h1,h2,cl,⟨c,h3,h4⟩,h5,h6⟩:=Lh hl ho;have hn:n∉(A++B).flatMap xD.blks:=h.notin (o:=oS base sz l _) (by simp[oS,hl,pF]);obtain⟨k1,k2⟩:=h.drop.froze hn h3 h2;refine⟨_,k2,k1,?_⟩;have hlen:=h6.length;have:=(⟨h1,h2,cl,⟨c,h3,h4⟩,h5,h6⟩:OwnD base tf t sz l n (some (.sz sz)));refine⟨cl,.inr ⟨n,0,l.length,by rw[hlen],by omega,⟨c,_,_,by rw[Tr.get_set,yab rfl],.inr ⟨_,rfl,rfl⟩⟩,fun i cs hi=>⟨h5 i cs hi,c,_,_,(by rw[Tr.get_set,yab rfl]),fun j a hj=>?_⟩⟩,qC.mono k2 _ _ h6⟩
  grind [kS]
theorem Objs.storeS   {w:zA}(h:Objs C.base tf t (A++oS C.base sz l v::B)){i o S:Nat}{agg:Bool}{d d':D}{y:lD}(hi:l[i]?=some d)(hT:eD C T el sz agg)(hS:C.tys.get S=some y)(hl:w.cells.length=y.size)(ho:o+w.cells.length<=sz)(hone:zD zA.one w.cells=true)
  (hd:∀cs,cs.length=sz->RD tf d cs->RD tf d' (gK cs o w.cells)) :
  ∃p,aA C T v (.int .i64 (i:Int))=some (.ptr p (0+i*sz))/\∃t',(∀n,cC C S (.ptr p (0+i*sz+o)) w ⟨n,t⟩=some (kD,⟨n,t'⟩))/\Objs C.base tf t' (A++oS C.base sz (l.set i d') v::B):=by
 have hlt:i<l.length:=(ybc.1 hi).1;have hne:l≠[]:=by grind
 have hne':l.set i d'≠[]:=by simp_all
 obtain⟨n,rfl,ho'⟩:=Lh hne (h.ok (oS C.base sz l v) (by simp));refine⟨n,rP hT hlt,?_⟩;obtain⟨t',g1,g2,g3⟩:=ho'.store hi hS hl ho hone hd;rw[ybw];refine⟨t',g1,?_⟩;refine Objs.upd (o:=oS C.base sz l (.slice n 0 l.length l.length)) h (fun k k1 _=>g3 k (fun e=>k1 (by grind [oS,pF]))) (fun k hk=>.inl ?_) ?_ ?_ (h.tle.off ho'.2.1 g3)
 all_goals grind [oS,pF]
theorem Sg (hT:mK C T el sz){L:List xD} {x:zA}{W J:cI}{Q:xC}(heq:(zN .eql).f C T (.tmp 3) (.const (.slice none 0 0)) x .nilslice=some (.bool (Nat.beq x.tag 5)))(hx:sA tf sz l x)(h:Objs C.base tf t L)(hl:l.length<1000000)
  (hQ:∀tf' t' v,iA tf tf'->Objs C.base tf' t' (oS C.base sz l v::L)->Q v t') :
  tA C.base W J (.opt ((zN .eql).f C T (.tmp 3) (.const (.slice none 0 0)) x .nilslice) fun a0=>.asB a0 fun b1=>.ite b1 (.ret .nilslice) (.heavy (aE C T 0 []) fun a2=>.heavy (qD C T T a2 x) fun a3=>.ret a3)) t Q:=by
 obtain⟨⟨y,hy1,hy2,hy3⟩,⟨z,hz1,hz2,hz3,hz4,hz5⟩,hnb⟩:=hT;have hcode:=NB.code hnb hz1;obtain⟨cl,he,hd⟩:=hx;have hcl:=hd.length;simp only[tA,heq,xA,lE];rcases he with⟨rfl,rfl⟩ | ⟨bx,off,cap,rfl,hcap,hblk,he'⟩
 ·have:l=[]:=ycc.1 hcl.symm;subst this;have e:(Nat.beq zA.nilslice.tag 5)=true:=rfl;rw[yab e];refine hQ tf t .nilslice (iA.refl _) ?_;exact Objs.add (A:=[]) (o':=oS C.base sz [] .nilslice) h (fun _ _=>rfl) (fun k hk=>by simp[oS]at hk) (zff ⟨[],.inl ⟨rfl,rfl⟩,bE.2 rfl⟩) (by simp[oS]) h.tle
 ·have e:(Nat.beq (zA.slice bx off cl.length cap).tag 5)=false:=rfl;rw[e,yaa (by simp)];intro b hb hbb;have g1:aE C T 0 [] ⟨b,t⟩=some (.slice b 0 0 0,lF ⟨b,t⟩ [] none):=by
   unfold aE;rw[hy1,uA,hy2,uA,hz1,uA];have:(Nat.blt (0*z.size) 1000000&&Nat.beq (wB z.zero) z.size)=true:=by simp_all
   rw[this];rfl
  obtain⟨t1,k1,k2,k3,k4⟩:=nY hb ([]:List zA) none;rw[k1]at g1;have h1:=h.junk hb k4;rw[g1,xA];intro n hn hnb;have he1:iH t1 sz (.slice bx off cl.length cap) cl:=(iH.mono (h.tle.trans k3) (.inr ⟨bx,off,cap,rfl,hcap,hblk,he'⟩));obtain⟨hf,hlen⟩:=he1.first (n:=n);have hall:=he1.len;have hfl:wB cl.flatten=cl.length*sz:=by grind [oD,pV]
  have base1:qD C T T (.slice b 0 0 0) (.slice bx off cl.length cap) ⟨n,t1⟩=(bif Nat.ble (0+cl.length) 0 then sV C ⟨n,t1⟩ z cl.length cl.flatten (b,0,0,0)else rV C ⟨n,t1⟩ el z cl.length cl.flatten (b,0,0,0)):=by
   unfold qD pR;rw[hy1,uA,uA,hy3];simp only[ycl,mD];rw[hy2,uA,hz1,uA,hlen,uA,hz2,hf,uA];rfl
  have ok:mS z 0 0 cl.length cl.flatten=true:=by
   unfold mS;have h1:Nat.blt (0+cl.length+0) 1000000000=true:=sC.2 (by omega);have h2:Nat.blt ((0+cl.length+0)*z.bytes) 1000000000=true:=sC.2 (by
    have:=ydb (show 0+cl.length+0<=1000000 by omega) hz4;omega)
   grind [sC,gC]
  obtain⟨cb,hcb,_⟩:=k2;by_cases h0:cl.length=0
  ·have:cl=[]:=ycc.1 h0;subst this;have:l=[]:=ycc.1 hcl.symm;subst this;have e2:qD C T T (.slice b 0 0 0) (.slice bx off 0 cap) ⟨n,t1⟩=some (.slice b 0 0 0,⟨n,t1⟩):=by
    have:=base1;simp only[ybx]at this;rw[this];rfl
   have e3:qD C T T (.slice b 0 0 0) (.slice bx off ([]:List (List zA)).length cap) ⟨n,t1⟩=some (.slice b 0 0 0,⟨n,t1⟩):=e2;rw[e3,xA];obtain⟨m1,m2⟩:=h1.froze (h.fresh hb) hcb (h.tfn hb);refine hQ _ t1 (.slice b 0 0 0) m2 ?_;refine Objs.add (A:=[]) (o':=oS C.base sz [] (.slice b 0 0 0)) m1 (fun _ _=>rfl) (fun k hk=>by simp[oS]at hk) ?_ (by simp[oS]) m1.tle;exact zff ⟨[],.inr ⟨b,0,0,rfl,ybk _,⟨cb,0,none,by grind [Tr.get_set],.inl rfl⟩,fun i cs hi=>by simp at hi⟩,bE.2 rfl⟩
  ·have hl0:l≠[]:=by simp_all
   have ebl:Nat.ble (0+cl.length) 0=false:=by
    grind [pE]
   have e2:qD C T T (.slice b 0 0 0) (.slice bx off cl.length cap) ⟨n,t1⟩=some (.slice n 0 l.length l.length,lF ⟨n,t1⟩ cl.flatten (some (.sz sz))):=by
    rw[base1,ebl,cond_false];unfold rV;simp only[];rw[show ∀x,(!(Nat.beq 0 1&&x))=true from fun _=>rfl,mD,ok,mD];unfold rD;rw[hcb,uA];simp only[qA.asCells,uA];unfold Ei;simp only[Nat.zero_mul];show ob (cb.many 0 0) _=_;rw[show cb.many 0 0=some [] from rfl,uA,fH,yah,ybw,hcode,hz2,hcl]
   obtain⟨t2,m1,m2,m3,m4⟩:=nY hn cl.flatten (some (.sz sz));rw[m1]at e2;rw[e2,xA];refine hQ tf t2 _ (iA.refl _) ?_;refine Objs.add (A:=[]) (o':=oS C.base sz l (.slice n 0 l.length l.length)) h1 (fun k hk=>m4 k (fun e=>hk (by grind [oS,pF]))) (fun k hk=>?_) ?_ (by simp[oS,hl0,pF]) (h1.tle.off (h1.tfn hn) m4)
   ·grind [oS,pF]
   ·exact FY hl0 ⟨hnb,h1.tfn hn,cl,m2,hall,hd⟩
end
end Go.Am
namespace Go.Am
open Go Go.RowKit
section
section
variable {base:Nat}{t t0:Tr qA}{X X0:Xt}{HA:pA}{n:Nat}{y:qA}{C:fA}{F:Tr oG}{Q:xC}
def Xt.put(X:Xt)(n:Nat)(y:qA):Xt:=fun b=>if b=n then some y else X b
theorem Xt.put_self{X:Xt}:X.put n y n=some y:=yab rfl
theorem Xt.put_ne{X:Xt}{b:Nat}(h:b≠n):X.put n y b=X b:=yaa h
theorem Ov.hide(h:Ov base t X HA)(hy:t.get n=some y)(h0:t0.get n=none)(ho:aC n t0 t):Ov base t0 (X.put n y) HA:=by
 refine⟨h.base,fun b hb=>?_,fun b z hb=>?_,fun b z hb=>?_⟩
 ·by_cases e:b=n
  ·grind [Xt.put_self]
  ·rw[Xt.put_ne e]at hb;rw[h.same b hb,ho b e]
 ·by_cases e:b=n
  ·subst e;rw[Xt.put_self]at hb;cases hb;exact⟨h.up hy,h0,h.lt _ _ hy⟩
  ·rw[Xt.put_ne e]at hb;obtain⟨h1,h2,h3⟩:=h.ext b z hb;exact⟨h1,by rw[<- ho b e];exact h2,h3⟩
 ·by_cases e:b=n
  ·simp_all
  ·exact h.lt b z (by rw[ho b e];exact hb)
theorem mC.unhide{Q:xC}{d:dB}(hX:X.put n y=X0)(hn:X n=none)(h:mC base X0 Q d):mC base X (fun v t'=>∃t0',Q v t0'/\t0'.get n=none/\t'.get n=some y/\aC n t0' t') d:=by
 obtain⟨v,t',HA',X',h1,h2,h3,h4⟩:=h;subst hX;have hy:X' n=some y:=h3 n y Xt.put_self;obtain⟨e1,e2,e3⟩:=h2.ext n y hy;obtain⟨_,ho⟩:=jJ (t:=t') e2 y;have hs:(t'.set n y).get n=some y:=by rw[Tr.get_set,yab rfl]
 refine⟨v,t'.set n y,HA',fun b=>if b=n then none else X' b,h1,⟨h2.base,fun b hb=>?_,fun b z hb=>?_,fun b z hb=>?_⟩,fun b z hb=>?_,t',h4,e2,hs,ho⟩
 ·by_cases e:b=n
  ·subst e;rw[e1,hs]
  ·have hb:(if b=n then none else X' b)=none:=hb;rw[yaa e]at hb;rw[h2.same b hb,ho b e]
 ·by_cases e:b=n
  ·simp_all
  ·have hb:(if b=n then none else X' b)=some z:=hb;rw[yaa e]at hb;obtain⟨k1,k2,k3⟩:=h2.ext b z hb;exact⟨k1,by rw[ho b e];exact k2,k3⟩
 ·by_cases e:b=n
  ·omega
  ·rw[ho b e]at hb;exact h2.lt b z hb
 ·show(if b=n then none else X' b)=some z;have e:b≠n:=fun e=>by simp_all
  rw[yaa e];exact h3 b z (by grind [Xt.put_ne])
theorem Wc.frame{f:Nat}{args:List zA}(h:Wc C F f args t0 Q)(hy:t.get n=some y)(h0:t0.get n=none)(ho:aC n t0 t) :
  Wc C F f args t (fun v t'=>∃t0',Q v t0'/\t0'.get n=none/\t'.get n=some y/\aC n t0' t'):=
 fun X HA hv=>(h _ HA (hv.hide hy h0 ho)).unhide rfl (hv.notX hy)
end
theorem Tr.without(t:Tr qA):∀n:Nat,∃t0:Tr qA,t0.get n=none/\aC n t0 t:=by
 induction t with
 | leaf=>exact fun n=>⟨.leaf,Tr.get_leaf n,fun _ _=>rfl⟩
 | node l v r ihl ihr=>
  intro n;by_cases h0:n=0
  ·subst h0;refine⟨.node l none r,by rw[Tr.get_node];rfl,fun k hk=>?_⟩;rw[Tr.get_node,Tr.get_node,yaa hk,yaa hk]
  ·by_cases h1:n%2=1
   ·obtain⟨l0,g1,g2⟩:=ihl (n / 2);refine⟨.node l0 v r,by grind [Tr.get_node],fun k hk=>?_⟩;rw[Tr.get_node,Tr.get_node];split
    ·rfl
    ·split
     ·exact g2 _ (by omega)
     ·rfl
   ·obtain⟨r0,g1,g2⟩:=ihr (n / 2-1);refine⟨.node l v r0,by grind [Tr.get_node],fun k hk=>?_⟩;rw[Tr.get_node,Tr.get_node];split
    ·rfl
    ·split
     ·rfl
     ·exact g2 _ (by omega)
end
section
section
variable {t tf:Tr qA}{C:fA}
theorem Objs.pushL{T el sz n:Nat}(hT:mK C T el sz){A B:List xD}{l:List D}{d:D}{cs:List zA}{v x:zA}(h:Objs C.base tf t (A++bB C.base sz l v::B))(hx:iH t sz x [cs])(hd:RD tf d cs)(hone:∀a∈cs,zA.one a=true)(hl:l.length<300000)(hn:t.get n=none)(hbase:C.base<=n) :
  ∃v2 k t2,qD C T T v x ⟨n,t⟩=some (v2,⟨k,t2⟩)/\Objs C.base tf t2 (A++bB C.base sz (l++[d]) v2::B):=by
 have hv:Loose C.base tf t sz l v:=h.ok (bB C.base sz l v) (by simp);obtain⟨t2,c1,c2,c3,c4⟩:=Bk hT (m:=[d]) hv hx (uF.2 ⟨cs,[],rfl,hd,bE.2 rfl⟩) (by simp_all) (by simp) (by grind) hn hbase h.tle
 grind [Objs.upd,bB,uO,pF]
end
end
section
section
variable {t tf tf0:Tr qA}{C:fA}
mutual
theorem RD.ones:∀(d:D) (cs:List zA),RD t d cs->∀a∈cs,zA.one a=true
 | .int _ _,cs,h,a,ha=>by rw[RD]at h;subst h;simp at ha;subst ha;rfl
 | .bool _,cs,h,a,ha=>by rw[RD]at h;subst h;simp at ha;subst ha;rfl
 | .str _,cs,h,a,ha=>by rw[RD]at h;subst h;simp at ha;subst ha;rfl
 | .sl sz l,cs,h,a,ha=>by
  rw[cL]at h;obtain⟨v,rfl,h⟩:=h;simp at ha;subst ha;exact h.one
 | .st l,cs,h,a,ha=>by
  rw[yJ]at h;obtain⟨cl,rfl,h⟩:=h;exact qC.ones l cl h a ha
theorem qC.ones:∀(l:List D) (cl:List (List zA)),qC t l cl->∀a∈cl.flatten,zA.one a=true
 | [],cl,h,a,ha=>by grind [qC]
 | d::l,cl,h,a,ha=>by
  rw[qC]at h;obtain⟨c,r,rfl,h1,h2⟩:=h;rw[yas,yaf]at ha;rcases ha with ha | ha
  ·exact RD.ones d c h1 a ha
  ·exact qC.ones l r h2 a ha
end
theorem RD.all{d:D}{cs:List zA}(h:RD t d cs):zD zA.one cs=true:=by
 grind [cE,RD.ones]
theorem RD.mk{d:D}{cs zs:List zA}(h:RD t d cs)(hz:d.zs=zs):qM zs (cellsOf cs) 0=cs:=by
 have:=KO zs cs [] (by grind [Yq])
 simp_all
theorem lit1{S el sz b:Nat}{cs:List zA}(hT:mK C S el sz)(hc:cs.length=sz)(hs:sz<1000000)(hb:t.get b=none) :
  ∃t',aE C S 1 [(0,.agg cs)] ⟨b,t⟩=some (.slice b 0 1 1,⟨b+1,t'⟩)/\iH t' sz (.slice b 0 1 1) [cs]/\iA t t'/\aC b t t':=by
 obtain⟨⟨y,hy1,hy2,_⟩,⟨z,hz1,hz2,hz3,_,_⟩⟩:=hT;refine gU (n:=1) (cl:=[cs]) hy1 hy2 hz1 hz2 hz3 (by omega) ?_ (fun i q hq=>?_) rfl hb
 ·have e:uM z.zero 1=z.zero:=by show tE z.zero []=z.zero;rw[fH,ycd]
  rw[e];unfold xR Em;have e1:(zA.agg cs).cells=cs:=rfl
  grind [oD,uA,iU,fU,fH,gC,pE,mD,xR]
 grind
def Bf(C:fA)(S el g p:Nat)(zs:List zA)(v0 v:zA)(i:Int):T:=
 .opt (tB v0) fun a0=>.asI .i64 a0 fun n1=>.ite (jB i n1)
  (.opt (aA C S v0 (.int .i64 i)) fun a2=>.light (fun m=>mA C el ⟨0,m⟩ a2) fun a3=>.asG zs a3 fun X=>
   .call g [.agg (qM zs X 0)] fun a5=>.asG zs a5 fun Y=>
   .ite (zD zA.one (qM zs Y 0)) (.heavy (aE C S 1 [(0,.agg (qM zs Y 0))]) fun a7=>.heavy (qD C S S v a7) fun a8=>.jump p [v0,a8,.int .i64 (dA .i64 (i+1))]) .fail)
  (.ret v)
def vU(base:Nat)(W:cI)(g:Nat)(d:D):Prop:=∀ ⦃L:List xD⦄ ⦃tf t:Tr qA⦄ ⦃cs:List zA⦄ ⦃Q:xC⦄,Objs base tf t L->RD tf d cs->(∀tf' t' cs',iA tf tf'->Objs base tf' t' L->RD tf' d cs'->Q (.agg cs') t')->W g [.agg cs] t Q
def Tc(base:Nat)(tf:Tr qA)(L:List xD)(sz:Nat)(l:List D)(Q:xC):Prop:=∀tf' t' v,iA tf tf'->Objs base tf' t' L->sA tf' sz l v->Q v t'
theorem za4{W J:cI}{S el sz g p:Nat}(hT:mK C S el sz)(hS:eD C S el sz true)(hsz:sz<1000000){zs:List zA}{L:List xD}{ds:List D}{v0:zA}{Q:xC}
  (hz:∀d∈ds,d.zs=zs) (hg:∀d∈ds,vU C.base W g d) (hlen:ds.length<300000)
  (hj:∀v i t,tA C.base W J (Bf C S el g p zs v0 v i) t Q->J p [v0,v,.int .i64 i] t Q) (hQ:Tc C.base tf0 L sz ds Q) (h0:sA tf0 sz ds v0) :
  ∀(m i:Nat) (tf t:Tr qA) (v:zA),i+m=ds.length->iA tf0 tf->Objs C.base tf t (bB C.base sz (ds.take i) v::L)->J p [v0,v,.int .i64 (i:Int)] t Q:=by
 intro m;induction m with
 | zero=>
  intro i tf t v hi hf ho;refine hj _ _ _ ?_;simp only[Bf,tA];rw[h0.len,xA,zB,xA,yaa (fun e=>by grind [aB])];rw[yca (by omega)]at ho;obtain⟨tf',k1,k2,k3⟩:=Objs.freezeL (A:=[]) ho;exact hQ tf' t v (hf.trans k1) k2 k3
 | succ m ih=>
  intro i tf t v hi hf ho;have hlt:i<ds.length:=by omega
  have hd:ds[i]?=some ds[i]:=ybd hlt;have hm:ds[i]∈ds:=ycj hlt;obtain⟨b,off,cs,g1,g2,g3,g4,g5⟩:=eD.at (t:=tf) hS (by simp) (h0.mono hf) hd;have g1':=g1;obtain⟨b',off',cs',f1,f2,f3,f4,f5⟩:=eD.at (t:=t) hS (by simp) (h0.mono (hf.trans ho.tle)) hd;rw[g1]at f1;cases f1;have ecs:cs'=cs:=by
   obtain⟨c,n,lo,q1,q2⟩:=g3;obtain⟨c',n',lo',q3,q4⟩:=f3;rw[ho.tle _ _ q1]at q3;cases q3;refine List.ext_getElem? fun j=>?_
   grind
  subst ecs;refine hj _ _ _ ?_;simp only[Bf,tA];rw[h0.len,xA,zB,xA,yab (aB.2 (by omega)),g1,xA,f2,xA];have hzz:=hz _ hm;show nE (gG zs (.agg cs')) _;rw[tI g5 hzz,xA,g5.mk hzz];refine hg _ hm ho g5 fun tf' t' cs2 k1 k2 k3=>?_;rw[tI k3 hzz,xA,k3.mk hzz,yab k3.all];intro n hn _;have hl2:cs2.length=sz:=by
   have e1:=g5.mk hzz;have e2:=k3.mk hzz;have key:∀(zs:List zA) (X Y:sI) (j:Nat),(qM zs X j).length=(qM zs Y j).length:=by
    intro zs;induction zs with
    | nil=>intro X Y j;rfl
    | cons z zs ih=>
     intro X Y j;show(Du z X j::qM zs X (j+1)).length=(Du z Y j::qM zs Y (j+1)).length;rw[ybn,ybn,ih X Y (j+1)]
   grind
  obtain⟨t1,a1,a2,a3,a4⟩:=lit1 (C:=C) hT hl2 hsz hn;rw[a1,xA];intro n2 hn2 hb2;obtain⟨v2,k,t2,c1,c2⟩:=Objs.pushL (A:=[]) (n:=n2) hT (k2.junk hn a4) a2 k3 (RD.ones _ _ k3) (by grind) hn2 hb2;rw[c1,xA,wrap_i64 (by omega) (by omega)];have e:ds.take i++[ds[i]]=ds.take (i+1):=by simp_all
  rw[e]at c2;exact ih (i+1) tf' t2 v2 (by omega) (hf.trans k1) c2
def Zf{W J:cI}{S el sz g p:Nat}(hT:mK C S el sz)(hS:eD C S el sz true)(hsz:sz<1000000){zs:List zA}{L:List xD}{ds:List D}{v0:zA}{Q:xC}
  (hz:∀d∈ds,d.zs=zs) (hg:∀d∈ds,vU C.base W g d) (hlen:ds.length<300000)
  (hj:∀v i t,tA C.base W J (Bf C S el g p zs v0 v i) t Q->J p [v0,v,.int .i64 i] t Q) (hQ:Tc C.base tf L sz ds Q) (h0:sA tf sz ds v0) (ho:Objs C.base tf t L):J p [v0,.nilslice,.int .i64 0] t Q:=by
 refine za4 hT hS hsz hz hg hlen hj hQ h0 ds.length 0 tf t .nilslice (by omega) (iA.refl _) ?_;rw[List.take_zero];exact Objs.add (A:=[]) (o':=bB C.base sz ([]:List D) .nilslice) ho (fun _ _=>rfl) (fun k hk=>by simp[bB,pF]at hk) (.inl ⟨rfl,rfl⟩) (by simp[bB,pF]) ho.tle
theorem LY{W J:cI}{S el sz:Nat}(hT:mK C S el sz){L:List xD}{l:List D}{x:zA}{Q:xC}(hx:sA tf sz l x)(ho:Objs C.base tf t L)(hl:l.length<1000000)(hQ:Tc C.base tf L sz l Q) :
  tA C.base W J (.heavy (qD C S S .nilslice x) fun a0=>.ret a0) t Q:=by
 simp only[tA];intro n hn _;obtain⟨v,k,t',tf',a1,a2,a3,a4,a5,a6,a7⟩:=Zs hT hx ho.tle hl hn;rw[a1,xA];refine hQ tf' t' v a3 (ho.keep a3 a4 fun k hk=>?_) a2;have hne:k≠n:=fun e=>by
  obtain⟨y,hy⟩:=ho.live hk
  simp_all
 exact⟨a6 k hne,by rw[a7 k hne];exact(ho.low k hk).2⟩
end
end
section
variable {b:Bool}{x y:T}{K:zA->T}{v:zA}{a:List zA}
section
variable {base:Nat}{W J:cI}{t:Tr qA}{Q:xC}
theorem iC  (h:b=true)(k:tA base W J x t Q):tA base W J (.ite b x y) t Q:=by
 show if b=true then _ else _;simp_all
theorem bC  (h:b≠true)(k:tA base W J y t Q):tA base W J (.ite b x y) t Q:=by
 show if b=true then _ else _;simp_all
theorem lB{x:Option zA}  (h:x=some v)(k:tA base W J (K v) t Q):tA base W J (.opt x K) t Q:=by
 show nE x _;simp_all
theorem mF{x:Tr qA->Option zA}  (h:x t=some v)(k:tA base W J (K v) t Q):tA base W J (.light x K) t Q:=by
 show nE (x t) _;simp_all
def uD{f:Nat}  (k:W f a t (fun v t'=>tA base W J (K v) t' Q)):tA base W J (.call f a K) t Q:=k
theorem xE{n:Int}{i:IntKind}{K:Int->T}(k:tA base W J (K n) t Q):tA base W J (.asI i (.int i n) K) t Q:=by
 show nE (Ax i (.int i n)) _;rw[zB];exact k
theorem mI {K:Bool->T}(k:tA base W J (K b) t Q):tA base W J (.asB (.bool b) K) t Q:=k
def wM{s:List Nat}{K:List Nat->T}(k:tA base W J (K s) t Q):tA base W J (.asS (.str s) K) t Q:=k
theorem gM{zs:List zA}{a:zA}{K:sI->T}{X:sI}(h:gG zs a=some X)(k:tA base W J (K X) t Q):tA base W J (.asG zs a K) t Q:=by
 show nE (gG zs a) _;simp_all
theorem oQ{x:pA->Option (zA × pA)} (k:∀b,t.get b=none->base<=b->∃v H,x ⟨b,t⟩=some (v,H)/\tA base W J (K v) H.t Q):tA base W J (.heavy x K) t Q:=by
 intro b h1 h2;obtain⟨v,H,h3,h4⟩:=k b h1 h2
 simp_all
theorem sJ{i:Nat} (k:J i a t Q):tA base W J (.jump i a) t Q:=k
end
section
variable {t:Tr qA}{C:fA}
theorem eD.mid{T el sz:Nat}{agg:Bool}(h:eD C T el sz agg){l:List D} (hr:sA t sz l v){k:Nat}{d:D}(hk:l[k]?=some d) :
  ∃v',nF C T ⟨0,t⟩ v (some (.int .i64 (k:Int))) (some (.int .i64 ((k+1:Nat):Int)))=some v'/\sA t sz [d] v':=by
 obtain⟨⟨y,hy1,hy2⟩,⟨z,hz1,hz2,hz3⟩⟩:=h;obtain⟨cl,he,hd⟩:=hr;have hlen:=hd.length;have hlt:=(ybc.1 hk).1;obtain⟨cs,hc,hrd⟩:=hd.get hk;unfold nF;rw[hy1,uA];have hb:∀(y n:Nat),xU y (.int .i64 (n:Int))=vB (Nat.ble n y) (some n):=fun y n=>rfl;rcases he with⟨rfl,rfl⟩ | ⟨b,off,cap,rfl,hcap,⟨c,n,lo,hg,hlo⟩,he⟩
 ·grind
 ·refine⟨.slice b (off+k*sz) 1 (cap-k),?_,[cs],.inr ⟨b,off+k*sz,cap-k,rfl,by grind,⟨c,n,lo,hg,hlo⟩,fun i q hi=>?_⟩,uF.2 ⟨cs,[],rfl,hrd,bE.2 rfl⟩⟩
  ·unfold aK;simp only[zA.asStr,zA.asSlice];rw[hy2,uA];unfold qN;rw[hz1,uA];unfold qO wX;simp only[hb];rw[pE.2 (show k+1<=cap by omega)];simp only[mD,uA];rw[pE.2 (show k<=k+1 by omega)];simp only[mD,uA];have hne:Nat.beq cap k=false:=by
    grind [gC]
   have he2:kJ ⟨0,t⟩ b z.size cap k false=false:=by
    grind [kJ]
   rw[he2,yay,cond_false];have hf:jK ⟨0,t⟩ b z.size cap k false=true:=by
    unfold jK rD;rw[hg,uA];simp only[qA.asCells];rcases hlo with rfl | ⟨x,rfl,hx⟩
    all_goals simp_all
   rw[pE.2 (show k+1<=cap by omega),hf,hne,hz2];simp only[Bool.and_self,mD,cond_false];rw[show k+1-k=1 by omega]
  grind
end
end
end Go.Am
namespace Go.Proofs
open Go Go.Am
variable {n:Int}{s:List Nat}{f:rE}{fa fb u:zA}{j:Nat}{w:eH}{Q:xC}{v:yB}
variable [tC]
variable {t:Tr qA}
def zQ(b:Bool):List Nat:=if b then [116,114,117,101]else [102,97,108,115,101]
def sL:List Nat->List Nat
 | []=>[]
 | x::l=>x / 256::x%256::sL l
def pM (w:eH):List Nat:=44::zQ w.neg++aG ((2*w.limbs.length:Nat):Int)++[44]++sL w.limbs
def xB (v:yB):List Nat:=aG (v.kind:Int)++[44]++aG v.i++pM v.f.n++pM v.f.d
theorem Ms:∀l,(sL l).length=2*l.length
 | []=>rfl
 | x::l=>by simp[sL,Ms l];omega
def NI:∀(l:List Nat) (x:Nat),sL (l++[x])=sL l++[x / 256,x%256]
 | [],x=>rfl
 | y::l,x=>by simp[sL,NI l x]
def NH:∀ {l:List Nat},mB 65536 l->mB 256 (sL l)
 | [],_=>fun x hx=>(by cases hx)
 | y::l,h=>fun x hx=>by
  have hy:=h y (by simp);simp only[sL,ybs]at hx;rcases hx with rfl | rfl | hx
  ·omega
  ·omega
  ·exact NH (l:=l) (fun z hz=>h z (by simp[hz])) x hx
theorem Rd (h0 : -9223372036854775808<=n)(h1:n<9223372036854775808):(aG n).length<=21:=by
 grind [aG,Lib.itoa_length_le]
def Xx (h0 : -9223372036854775808<=n)(h1:n<9223372036854775808):iB yA F 179 [.int .i64 n] t=some (.str (aG n)):=by
 have hg:yA.prims.get 179=some (hO Dn):=by kernel_rfl
 refine Dj hg fun H=>?_;unfold Dn;simp only[];rw[vG.2 h0,aB.2 h1];rfl
def zdx{b:Bool}:iB yA F 145 [.bool b] t=some (.str (zQ b)):=by
 have e:iB yA F 175 [.bool b] t=some (.str (zQ b)):=pC.2 (w175 (by
  unfold t175;cases b
  ·exact bC (by simp) ⟨rfl,rfl⟩
  ·exact iC rfl ⟨rfl,rfl⟩))
 refine pC.2 (w145 ?_);unfold t145 uS;refine uD ?_;rw[q175,e,xA];exact wM ⟨rfl,rfl⟩
def Da{a b:List Nat}(h:a.length+b.length<4611686018427387904):bI a b=some (.str (a++b)):=by
 unfold bI;rw[oD,oD,sC.2 h,fH];rfl
def el142:Bu yA 142 5 1:=⟨⟨_,oP,rfl,rfl⟩,⟨_,pP,rfl,rfl,by decide,by decide⟩⟩
theorem zaa      {b:Nat}{t0:Tr qA} (hu:sA t0 1 (wC w.limbs) u)(hl:w.limbs.length<400)(hlt:mB 65536 w.limbs)(hs:s.length<4000)(hbase:yA.base<=b)(hb:t0.get b=none)
  (hQ:∀t',iA t0 t'->jp 166 2 [.str (s++pM w),.agg [.bool f.n.neg,fa,.bool f.d.neg,fb],.int .i64 (dA .i64 ((j:Int)+1))] t' Q) :
  ∀(m i:Nat) (t':Tr qA),i+m=w.limbs.length->iA t0 t'->kC t' b none (yP (sL (w.limbs.take i))++List.replicate (2*m+1) (.int .u8 0)) →
  jp 166 6 [.str s,.slice b 0 (2*i) (2*w.limbs.length+1),.agg [.bool f.n.neg,fa,.bool f.d.neg,fb],.int .i64 (j:Int),u,.int .i64 (w.limbs.length:Int),.int .i64 (i:Int),.bool w.neg,u] t' Q:=by
 intro m;induction m with
 | zero=>
  intro i t' hi ht hc;refine zf2 ?_;rw[yca (by omega)]at hc;have lv:tB (.slice b 0 (2*i) (2*w.limbs.length+1))=some (.int .i64 ((2*w.limbs.length:Nat):Int)):=by
   have:i=w.limbs.length:=by omega
   subst this;rfl
  have cv:yM yA 142 9 ⟨0,t'⟩ (.slice b 0 (2*i) (2*w.limbs.length+1))=some (.str (sL w.limbs)):=by
   refine MB oP yK rfl rfl rfl pP rfl hc (by rw[Ms];omega) (fun k x hk=>?_) (NH hlt)
   grind [yP]
  have hlb:=Ms w.limbs;have hli:=Rd (n:=((2*w.limbs.length:Nat):Int)) (by omega) (by omega);have hbt:(zQ w.neg).length<=5:=by unfold zQ;split<;>simp
  simp only[uI,uH,uS,kB,uZ,uY,Us,tA,aB];rw[yaa (by omega)];simp only[lv,cv,xA,zB,rK,xS,Kn,if_true,q145,zdx];rw[Da (a:=[44]) (b:=zQ w.neg) (by grind)];simp only[xA,rK,q179];rw[Xx (by omega) (by omega)];simp only[xA,rK,cv,Kn,if_true];rw[Da (by grind)];simp only[xA,rK];rw[Da (by grind)]
  simp only[xA,rK];rw[Da (by grind)];simp only[xA,rK];rw[Da (by grind)];simp only[xA,rK];exact hQ t' ht
 | succ m ih=>
  intro i t' hi ht hc;have hlt1:i<w.limbs.length:=by omega
  obtain⟨x,hx⟩:=getElem?_of_lt hlt1;have hx16:x<65536:=qK hlt hx;obtain⟨p,off,g1,g2⟩:=sA.idx (C:=yA) rU (hu.mono ht) hx;refine zf2 ?_;simp only[uI,uH,uS,kB,uZ,uY,Us,tA,aB];have e1:dA .u8 (Int.fdiv (x:Int) 256)=((x / 256:Nat):Int):=by
   rw[show Int.fdiv (x:Int) 256=((x / 256:Nat):Int) from qZ _ 256,Nq (by omega) (by omega)]
  have e2:dA .u8 (x:Int)=((x%256:Nat):Int):=by
   grind [sN,IntKind.wrap,IntKind.bits,IntKind.signed]
  rw[yab (by omega),g1,xA,g2,xA,zB,xA,e1,e2];intro n hn _;obtain⟨t1,a1,a2,a3,a4⟩:=gU (C:=yA) (T:=142) (el:=5) (sz:=1) (n:=2) (cl:=[[.int .u8 ((x / 256:Nat):Int)],[.int .u8 ((x%256:Nat):Int)]]) (ps:=[(0,.int .u8 ((x / 256:Nat):Int)),(1,.int .u8 ((x%256:Nat):Int))]) oP rfl pP rfl rfl (by decide) rfl (fun i cs hi=>by
   grind) rfl hn
  have hbn:b≠n:=by
   intro e;subst e;obtain⟨c,hc1,_⟩:=hc
   simp_all
  rw[a1,xA];intro k _ _;have htl:(w.limbs.take i).length=i:=by grind
  have hbl:(yP (sL (w.limbs.take i))).length=2*i:=by simp[yP,Ms,htl]
  obtain⟨t2,b1,b2,b3⟩:=ZM (C:=yA) (n:=k) (k:=2*i) (m:=2) (cap:=2*w.limbs.length+1) el142 (hc.off (a4 b hbn)) hbase a2 rfl (by decide) (by omega) (by grind) (by
   intro a ha;simp only[yas,List.flatten_nil,ycd,List.singleton_append,ybs,List.not_mem_nil,or_false]at ha;rcases ha with rfl | rfl<;>rfl)
  have b1':qD yA 142 142 (.slice b 0 (2*i) (2*w.limbs.length+1)) (.slice n 0 2 2) ⟨k,t1⟩=some (.slice b 0 (2*i+2) (2*w.limbs.length+1),⟨k,t2⟩):=b1;rw[b1',xA,wrap_i64 (by omega) (by omega)];have hcells:gK (yP (sL (w.limbs.take i))++List.replicate (2*(m+1)+1) (.int .u8 0)) (2*i) [.int .u8 ((x / 256:Nat):Int),.int .u8 ((x%256:Nat):Int)]=yP (sL (w.limbs.take (i+1)))++List.replicate (2*m+1) (.int .u8 0):=by
   have hdr:(yP (sL (w.limbs.take i))++List.replicate (2*(m+1)+1) (zA.int .u8 0)).drop (2*i+2)=List.replicate (2*m+1) (.int .u8 0):=by
    rw[List.drop_append,List.drop_of_length_le (by omega),hbl,yah,List.drop_replicate];grind
   simp_all [gK,yP,dX,NI]
  have b2':kC t2 b none (yP (sL (w.limbs.take (i+1)))++List.replicate (2*m+1) (.int .u8 0)):=by simp_all
  have:=ih (i+1) t2 (by omega) ((ht.trans a3).off hb b3) b2'
  grind
theorem IT       (hj:j<2)(hv:lO yA 249 (.agg [.bool f.n.neg,fa,.bool f.d.neg,fb]) (.int .i64 (j:Int))=some (.agg [.bool w.neg,u]))(hu:sA t 1 (wC w.limbs) u)(hl:w.limbs.length<400)(hlt:mB 65536 w.limbs)(hs:s.length<4000)
  (hQ:∀t',iA t t'->jp 166 2 [.str (s++pM w),.agg [.bool f.n.neg,fa,.bool f.d.neg,fb],.int .i64 ((j+1:Nat):Int)] t' Q):jp 166 2 [.str s,.agg [.bool f.n.neg,fa,.bool f.d.neg,fb],.int .i64 (j:Int)] t Q:=by
 refine zf3 ?_;simp only[uI,uG,fB,uZ,uW,sQ,Ut,tA,aB];have hz:gG [(.bool false),.nilslice] (.agg [.bool w.neg,u])=some (cellsOf [.bool w.neg,u]):=kN (by
  show(true&&(mH .nilslice u&&true))=true;rw[cM hu];rfl)
 have hone:zD zA.one [.bool w.neg,u]=true:=by rw[cE];simp only[ycg,yck,hu.one];rfl
 rw[yab (by omega),hv,xA,hz,xA];simp only[cellsOf,tG,zG,yaz,yba];refine sB hone ?_;rw[hu.len,aT,xA,zB,xA];have e1:dA .i64 (dA .i64 (2*(w.limbs.length:Int))+1)=((2*w.limbs.length+1:Nat):Int):=by
  grind [wrap_i64]
 rw[e1];intro b hb hbase;obtain⟨t',g1,g2,g3,_⟩:=VM (C:=yA) (k:=.u8) (cap:=2*w.limbs.length+1) oP rfl pP rfl rfl (by decide) (by omega) hb;rw[g1,xA,xA,zB,xA];have ej:dA .i64 ((j:Int)+1)=((j+1:Nat):Int):=by grind [wrap_i64]
 exact zaa (f:=f) (j:=j) hu hl hlt hs hbase hb (fun t2 h2=>by simp_all) w.limbs.length 0 t' (by omega) g3 (by grind [sL,yP])
def yB.short(v:yB):Prop:=v.f.n.limbs.length<400/\v.f.d.limbs.length<400
def yB.mid(v:yB):Prop:=v.f.n.limbs.length<100000/\v.f.d.limbs.length<100000
def Vq (h:yB.short v):yB.mid v:=⟨Nat.lt_trans h.1 (by decide),Nat.lt_trans h.2 (by decide)⟩
theorem key_ok {a b:zA}(hv:v.fit)(hs:yB.short v)(ha:sA t 1 (wC v.f.n.limbs) a)(hb:sA t 1 (wC v.f.d.limbs) b):iB yA F 166 [.agg [.int .u8 v.kind,.bool v.f.n.neg,a,.bool v.f.d.neg,b,.int .i64 v.i]] t=some (.str (xB v)):=by
 obtain⟨h1,h2,h3,h4⟩:=hv;obtain⟨_,hn,hd⟩:=h2;have l1:=Rd (n:=(v.kind:Int)) (by omega) (by omega);have l2:=Rd h3 h4;have hk:dA .i64 (v.kind:Int)=(v.kind:Int):=wrap_i64 (by omega) (by omega);have v0:lO yA 249 (.agg [.bool v.f.n.neg,a,.bool v.f.d.neg,b]) (.int .i64 ((0:Nat):Int))=some (.agg [.bool v.f.n.neg,a]):=by kernel_rfl
 have v1:lO yA 249 (.agg [.bool v.f.n.neg,a,.bool v.f.d.neg,b]) (.int .i64 ((0+1:Nat):Int))=some (.agg [.bool v.f.d.neg,b]):=by kernel_rfl
 have lk:(pM v.f.n).length<1000:=by
  have hbt:(zQ v.f.n.neg).length<=5:=by unfold zQ;split<;>simp
  have hli:=Rd (n:=((2*v.f.n.limbs.length:Nat):Int)) (by omega) (by have:=hs.1;omega);have:=hs.1
  grind [pM,Ms]
 refine jQ (w166 ?_);simp only[uS,uZ,uW,t166,tA,hk];rw[q179,Xx (by omega) (by omega),xA,rK,xA,yab xS,Da (by grind),xA,rK,xA,q179,Xx h3 h4,xA,rK,xA,Da (by grind),xA,rK,xA];simp only[if_true];refine IT (f:=v.f) (j:=0) (w:=v.f.n) (by omega) v0 ha hs.1 hn (by grind) fun t1 k1=>?_;refine IT (f:=v.f) (j:=0+1) (w:=v.f.d) (by omega) v1 (hb.mono k1) hs.2 hd (by grind) fun t2 k2=>?_
 refine zf3 ?_;simp only[uI,uG,fB,uZ,uW,sQ,Ut,tA,aB];rw[yaa (by omega)];exact⟨by unfold xB;rfl,k1.trans k2⟩
end Go.Proofs
namespace Go.Proofs
open Go Go.Am
section
variable {L:List xD}{a b u v:zA}{Q:xC}{m:Nat}{l:List (List Nat)}{k:List Nat}
variable [tC]
variable {t tf:Tr qA}{key:yB->List Nat}{r:TR}{s:oF}
def _root_.Go.Am.Objs.copy{base:Nat} (h:Objs base tf t L){n:Nat}{t' tf':Tr qA}(hn:t.get n=none)(h1:iA tf tf')(h2:iA tf' t')(h3:aC n t t')(h4:aC n tf tf'):Objs base tf' t' L:=
 h.keep h1 h2 fun k hk=>by
  have:k≠n:=fun e=>h.fresh hn (e ▸ hk);exact⟨h3 k this,by rw[h4 k this];exact(h.low k hk).2⟩
theorem lW{w:eH} (hu:sA t 1 (wC w.limbs) u):RD t w.d [.bool w.neg,u]:=by
 unfold eH.d;rw[yJ];refine⟨[[.bool w.neg],[u]],rfl,?_⟩
 grind [uF,bE,oX,cL]
theorem jU{f:rE} (hu:sA t 1 (wC f.n.limbs) u)(hv:sA t 1 (wC f.d.limbs) v):RD t f.dd [.bool f.n.neg,u,.bool f.d.neg,v]:=by
 unfold rE.dd;rw[yJ];refine⟨[[.bool f.n.neg,u],[.bool f.d.neg,v]],rfl,?_⟩
 grind [uF,lW,bE]
theorem mY{x:yB} (hu:sA t 1 (wC x.f.n.limbs) u)(hv:sA t 1 (wC x.f.d.limbs) v):RD t x.d [.int .u8 x.kind,.bool x.f.n.neg,u,.bool x.f.d.neg,v,.int .i64 x.i]:=by
 unfold yB.d;rw[yJ];refine⟨[[.int .u8 x.kind],[.bool x.f.n.neg,u,.bool x.f.d.neg,v],[.int .i64 x.i]],rfl,?_⟩
 grind [uF,yQ,jU,bE]
def el39:mK yA 39 204 1:=⟨⟨_,ty39,rfl,rfl⟩,⟨_,Cr,rfl,rfl,by decide,by decide⟩,fun y h=>by rw[Cr]at h;cases h;rfl⟩
def Ze {v:yB}  (h:Objs yA.base tf t L)(hs:yB.mid v)(ha:sA tf 1 (wC v.f.n.limbs) a)(hb:sA tf 1 (wC v.f.d.limbs) b)
  (hQ:∀tf' t' a' b',iA tf tf'->Objs yA.base tf' t' L->sA tf' 1 (wC v.f.n.limbs) a'->sA tf' 1 (wC v.f.d.limbs) b'->Q (.agg [.int .u8 v.kind,.bool v.f.n.neg,a',.bool v.f.d.neg,b',.int .i64 v.i]) t') :
  Wc yA F 46 [.agg [.int .u8 v.kind,.bool v.f.n.neg,a,.bool v.f.d.neg,b,.int .i64 v.i]] t Q:=by
 refine w46 ?_;simp only[fB,uZ,uY,t46,tA];intro n hn _;obtain⟨a',k,t1,tf1,g1,g2,g3,g4,_,g6,g7⟩:=Zs (C:=yA) el39 ha h.tle (by rw[aT];have:=hs.1;omega) hn;have h1:=h.copy hn g3 g4 g6 g7;have o1:zD zA.one [a']=true:=by rw[cE];simp only[ycg,yck,g2.one];rfl
 rw[g1,xA,yab o1];intro m hm _;obtain⟨b',k',t2,tf2,m1,m2,m3,m4,_,m6,m7⟩:=Zs (C:=yA) el39 (hb.mono g3) h1.tle (by rw[aT];have:=hs.2;omega) hm;have h2:=h1.copy hm m3 m4 m6 m7;have o2:zD zA.one [b']=true:=by rw[cE];simp only[ycg,yck,m2.one];rfl
 have o3:zD zA.one [.int .u8 v.kind,.bool v.f.n.neg,a',.bool v.f.d.neg,b',.int .i64 v.i]=true:=by rw[cE];simp only[ycg,yck,g2.one,m2.one];rfl
 rw[m1,xA,yab o2,yab o3];exact hQ tf2 t2 a' b' (g3.trans m3) h2 (g2.mono m3) m2
def GU   (h:t.get m=some (.map (mE 0 l))):uQ yA 74 ⟨0,t⟩ (.map m) (.str k) true=some (if k∈l then .tup [.int .i64 ((dK k l:Nat):Int),.bool true]else .tup [.int .i64 0,.bool false]):=by
 unfold uQ;rw[ty74,uA];simp only[fD.asMap,uA];rw[yK,uA,zI];simp only[uA];unfold oT cJ;simp only[zA.asMap];rw[h,uA];simp only[qA.asMap,uA];rw[KV,ybw];by_cases hk:k∈l
 ·rw[yab hk,yab hk];rfl
 ·rw[yaa hk,yaa hk];rfl
theorem AU   (h:t.get m=some (.map (mE 0 l)))(hb:yA.base<=m)(hk:k∉l) :
  ∃t',(∀n,cN yA 74 (.map m) (.str k) (.int .i64 (l.length:Int)) ⟨n,t⟩=some (kD,⟨n,t'⟩))/\t'.get m=some (.map (mE 0 (l++[k])))/\aC m t t':=by
 refine⟨t.set m (.map (mE 0 (l++[k]))),fun n=>?_,by rw[Tr.get_set,yab rfl],fun c hc=>by rw[Tr.get_set,yaa hc]⟩;unfold cN;rw[ty74,uA];simp only[fD.asMap,uA];rw[yK,uA];simp only[zA.asMap,uA];have e2:(!Nat.blt m yA.base)=true:=by
  grind [sC]
 have:=DR l 0 hk;rw[ybw]at this;unfold cJ;rw[e2,mD,h,uA];simp only[qA.asMap,uA];rw[this,uA];rfl
def el29:mK yA 29 9 1:=⟨⟨_,Cq,rfl,rfl⟩,⟨_,yK,rfl,rfl,by decide,by decide⟩,fun y h=>by rw[yK]at h;cases h;rfl⟩
def el30:mK yA 30 45 6:=⟨⟨_,Ab,rfl,rfl⟩,⟨_,ty45,rfl,rfl,by decide,by decide⟩,fun y h=>by rw[ty45]at h;cases h;rfl⟩
def el31:mK yA 31 51 1:=⟨⟨_,Cp,rfl,rfl⟩,⟨_,iR,rfl,rfl,by decide,by decide⟩,fun y h=>by rw[iR]at h;cases h;rfl⟩
def addN (l:List (List Nat))(n:List Nat):List (List Nat):=if n∈l then l else l++[n]
def addC (key:yB->List Nat)(l:List yB)(v:yB):List yB:=if key v∈l.map key then l else l++[v]
theorem VD{n:List Nat} (h:TS key tf t r s)(hl:s.names.length<300000)
  (hQ:∀t' r',r'.b=r.b->r'.kp=r.kp->TS key tf t' r' ⟨addN s.names n,s.consts,s.ws,s.ts,s.code⟩->Q (.int .i64 ((dK n s.names:Nat):Int)) t'):Wc yA F 128 [.ptr r.b 0,.str n] t Q:=by
 refine w128 ?_;simp only[uI,jC,uX,uZ,t128,tA];rw[bK,xA,bT,xA,Eo,xA,h.ldN,xA];simp only[bK,xA,bT,ziz,Eo,h.ldM1];rw[q167];refine w167 ?_;simp only[uI,uB,uX,uZ,t167,tA];rw[GU h.map1,xA];have hlen:r.cells.length=11:=by simp[TR.cells,h.pl]
 unfold addN at hQ;by_cases hk:n∈s.names
 ·rw[yab hk]at hQ ⊢;simp only[gE,zA.asTup,uA,vE,yaz,yba,xA,zB,lE,Bool.not_true,ybq,if_false];intro m _ _;obtain⟨t1,g1,g2,g3⟩:=h.cel.store1 (C:=yA) h.baseB.1 (j:=4) (v:=r.vn) Cq rfl (by
   rcases h.ln with⟨e,_⟩ | ⟨b,cl,c,e,_⟩<;>rw[e]<;>rfl) h.ln.one (by omega)
  have es:r.cells.set 4 r.vn=r.cells:=by
   have:=Al (p:=r.pl) h.pl (l:=[r.vn,r.vc,r.vw,r.vt,.map r.m1,.map r.m2,r.vk]) (k:=0) (v:=r.vn);exact this
  rw[es]at g2;rw[g1,xA];refine hQ t1 r rfl rfl ⟨h.pl,?_⟩;exact Objs.upd (A:=[]) (o:=wD r.b none r.cells) h.os (fun k k1 _=>g3 k (fun e=>k1 (by simp[wD,e]))) (fun k hk=>.inl hk) g2 (by simp[wD]) (h.os.tle.off h.baseB.2 g3)
 ·rw[yaa hk]at hQ ⊢;simp only[gE,zA.asTup,uA,vE,yaz,yba,xA,zB,lE,ycl,if_true,h.ln.len,ybf];intro m0 _ _;have lowM:yA.base<=r.m1/\tf.get r.m1=none:=h.os.low r.m1 (by simp[dJ,wD,jE]);obtain⟨t1,a1,a2,a3⟩:=AU h.map1 lowM.1 hk;have o1:Objs yA.base tf t1 ([wD r.b none r.cells]++jE r.m1 (mE 0 (s.names++[n]))::[jE r.m2 (mE 0 (s.consts.map key)),bB yA.base 1 (s.names.map D.str) r.vn,bB yA.base 6 (s.consts.map yB.d) r.vc,bB yA.base 1 s.ws r.vw,bB yA.base 1 s.ts r.vt,bB yA.base 3 (s.code.map XIns.d) r.vk]):=
   Objs.upd (o:=jE r.m1 (mE 0 s.names)) h.os (fun k k1 _=>a3 k (fun e=>k1 (by simp[jE,e]))) (fun k hk=>.inl hk) a2 (by simp[jE]) (h.os.tle.off lowM.2 a3)
  rw[a1,xA];intro n2 hn2 _;obtain⟨t2,b1,b2,b3,b4⟩:=gU (C:=yA) (T:=29) (el:=9) (sz:=1) (n:=1) (cl:=[[.str n]]) (ps:=[(0,.str n)]) Cq rfl yK rfl rfl (by decide) rfl (fun i cs hi=>by
   grind) rfl hn2
  have o2:=o1.junk hn2 b4;rw[b1,xA];intro n3 hn3 hb3;have ln2:Loose yA.base tf t2 1 (s.names.map D.str) r.vn:=o2.ok (bB yA.base 1 (s.names.map D.str) r.vn) (by simp);obtain⟨t3,c1,c2,c3,c4⟩:=Bk (C:=yA) el29 (m:=[.str n]) ln2 b2 (by simp[uF,bE,gV]) (by intro a ha;simp at ha;subst ha;rfl) (by simp) (by grind) hn3 hb3 o2.tle;have ec:(s.names.map D.str).length+[D.str n].length=(s.names++[n]).length:=by simp
  have hd:s.names.map D.str++[D.str n]=(s.names++[n]).map D.str:=by simp
  rw[ec,hd]at c2;have o3:Objs yA.base tf t3 ([wD r.b none r.cells,jE r.m1 (mE 0 (s.names++[n])),jE r.m2 (mE 0 (s.consts.map key))]++bB yA.base 1 ((s.names++[n]).map D.str) (.slice n3 0 (s.names++[n]).length (s.names++[n]).length)::[bB yA.base 6 (s.consts.map yB.d) r.vc,bB yA.base 1 s.ws r.vw,bB yA.base 1 s.ts r.vt,bB yA.base 3 (s.code.map XIns.d) r.vk]):=by
   refine Objs.upd (o:=bB yA.base 1 (s.names.map D.str) r.vn) o2 (fun k k1 k2=>c4 k ?_ (fun e=>k1 (uO.2 e))) (fun k hk=>?_) c2 (by simp[bB,pF]) c3
   all_goals grind [bB,pF]
  rw[c1,xA,ec];simp only[gE,zA.asTup,uA,vE,yaz,yba,xA,zB];intro m4 _ _;have cel3:kC t3 r.b none r.cells:=o3.ok (wD r.b none r.cells) (by simp);obtain⟨t4,g1,g2,g3⟩:=cel3.store1 (C:=yA) h.baseB.1 (j:=4) (v:=.slice n3 0 (s.names++[n]).length (s.names++[n]).length) Cq rfl rfl rfl (by omega);have es:r.cells.set 4 (.slice n3 0 (s.names++[n]).length (s.names++[n]).length)=TR.cells ⟨r.b,r.pl,.slice n3 0 (s.names++[n]).length (s.names++[n]).length,r.vc,r.vw,r.vt,r.vk,r.m1,r.m2⟩:=Al (k:=0) h.pl
  rw[es]at g2;rw[g1,xA,<- Ea hk];refine hQ t4 ⟨r.b,r.pl,.slice n3 0 (s.names++[n]).length (s.names++[n]).length,r.vc,r.vw,r.vt,r.vk,r.m1,r.m2⟩ rfl rfl ⟨h.pl,?_⟩;exact Objs.upd (A:=[]) (o:=wD r.b none r.cells) o3 (fun k k1 _=>g3 k (fun e=>k1 (by simp[wD,e]))) (fun k hk=>.inl hk) g2 (by simp[wD]) (c3.off h.baseB.2 g3)
theorem MD{v:yB}  (h:TS xB tf t r s)(hl:s.consts.length<300000)(hv:v.fit)(hs:yB.short v)(ha:sA tf 1 (wC v.f.n.limbs) a)(hb:sA tf 1 (wC v.f.d.limbs) b)
  (hQ:∀tf' t' r',iA tf tf'->r'.b=r.b->r'.kp=r.kp->TS xB tf' t' r' ⟨s.names,addC xB s.consts v,s.ws,s.ts,s.code⟩->Q (.int .i64 ((dK (xB v) (s.consts.map xB):Nat):Int)) t'):Wc yA F 127 [.ptr r.b 0,.agg [.int .u8 v.kind,.bool v.f.n.neg,a,.bool v.f.d.neg,b,.int .i64 v.i]] t Q:=by
 have hk0:=key_ok hv hs (ha.mono h.os.tle) (hb.mono h.os.tle);have hsame:same 10 (.agg [.int .u8 v.kind,.bool v.f.n.neg,a,.bool v.f.d.neg,b,.int .i64 v.i]) (.agg [.int .u8 v.kind,.bool v.f.n.neg,a,.bool v.f.d.neg,b,.int .i64 v.i])=true:=by
  show Am.same.sames 9 [.int .u8 v.kind,.bool v.f.n.neg,a,.bool v.f.d.neg,b,.int .i64 v.i] [.int .u8 v.kind,.bool v.f.n.neg,a,.bool v.f.d.neg,b,.int .i64 v.i]=true;simp only[Am.same.sames,xS,DW,ha.same,hb.same,Bool.and_self]
 have sm:∀m d,same d (.map m) (.map m)=true:=fun m d=>by
  have e:∀n,Nat.beq n n=true:=Nat.beq_refl;cases d <;> (grind [Am.same])
 refine w127 ?_;simp only[uI,uS,uG,jC,uX,uZ,uY,uA6,t127,tA];rw[bK,xA,bT,xA,En,xA,h.ldC,xA];simp only[bK,xA,bT,ziy,En,h.ldM2];rw[q166,hk0,xA,rK,xA];simp only[xA,h.ldC,h.ldM2,h.lc.same,sm,hsame,if_true];rw[q46];refine Ze h.os (Vq hs) ha hb fun tf1 t1 a' b' q1 q2 q3 q4=>?_;have h1:TS xB tf1 t1 r s:=⟨h.pl,q2⟩
 have hz:gG [(.int .u8 0),(.bool false),.nilslice,(.bool false),.nilslice,(.int .i64 0)] (.agg [.int .u8 v.kind,.bool v.f.n.neg,a',.bool v.f.d.neg,b',.int .i64 v.i])=some (cellsOf [.int .u8 v.kind,.bool v.f.n.neg,a',.bool v.f.d.neg,b',.int .i64 v.i]):=kN (by
  show(true&&(true&&(mH .nilslice a'&&(true&&(mH .nilslice b'&&true)))))=true
  grind [cM])
 rw[hz,xA];simp only[xA,h1.ldC,h1.ldM2,h1.lc.same,sm,if_true,cellsOf,tG,zG,mG,yaz,yba];rw[q165];refine w165 ?_;simp only[uI,uB,uX,uZ,uY,t165,tA];rw[GU h1.map2,xA];have hlen:r.cells.length=11:=by simp[TR.cells,h.pl]
 unfold addC at hQ;by_cases hk:xB v∈s.consts.map xB
 ·rw[yab hk]at hQ ⊢;simp only[gE,zA.asTup,uA,vE,yaz,yba,xA,zB,lE,Bool.not_true,ybq,if_false,bK,bT,En];intro m _ _;obtain⟨t2,g1,g2,g3⟩:=h1.cel.store1 (C:=yA) h.baseB.1 (j:=5) (v:=r.vc) Ab rfl (by
   rcases h.lc with⟨e,_⟩ | ⟨b,cl,c,e,_⟩<;>rw[e]<;>rfl) h.lc.one (by omega)
  have es:r.cells.set 5 r.vc=r.cells:=by
   have:=Al (p:=r.pl) h.pl (l:=[r.vn,r.vc,r.vw,r.vt,.map r.m1,.map r.m2,r.vk]) (k:=1) (v:=r.vc);exact this
  rw[es]at g2;rw[g1,xA];refine hQ tf1 t2 r q1 rfl rfl ⟨h.pl,?_⟩;exact Objs.upd (A:=[]) (o:=wD r.b none r.cells) h1.os (fun k k1 _=>g3 k (fun e=>k1 (by simp[wD,e]))) (fun k hk=>.inl hk) g2 (by simp[wD]) (h1.os.tle.off h1.baseB.2 g3)
 ·rw[yaa hk]at hQ ⊢;simp only[gE,zA.asTup,uA,vE,yaz,yba,xA,zB,lE,ycl,if_true,h1.lc.len,ybf,bK,bT,En];intro m0 _ _;have lowM:yA.base<=r.m2/\tf1.get r.m2=none:=h1.os.low r.m2 (by simp[dJ,wD,jE]);obtain⟨t2,a1,a2,a3⟩:=AU h1.map2 lowM.1 hk;rw[ybf]at a1;have em:s.consts.map xB++[xB v]=(s.consts++[v]).map xB:=by simp
  rw[em]at a2;have o1:Objs yA.base tf1 t2 ([wD r.b none r.cells,jE r.m1 (mE 0 s.names)]++jE r.m2 (mE 0 ((s.consts++[v]).map xB))::[bB yA.base 1 (s.names.map D.str) r.vn,bB yA.base 6 (s.consts.map yB.d) r.vc,bB yA.base 1 s.ws r.vw,bB yA.base 1 s.ts r.vt,bB yA.base 3 (s.code.map XIns.d) r.vk]):=
   Objs.upd (o:=jE r.m2 (mE 0 (s.consts.map xB))) h1.os (fun k k1 _=>a3 k (fun e=>k1 (by simp[jE,e]))) (fun k hk=>.inl hk) a2 (by simp[jE]) (h1.os.tle.off lowM.2 a3)
  rw[a1,xA];intro n2 hn2 _;obtain⟨t3,b1,b2,b3,b4⟩:=gU (C:=yA) (T:=30) (el:=45) (sz:=6) (n:=1) (cl:=[[.int .u8 v.kind,.bool v.f.n.neg,a',.bool v.f.d.neg,b',.int .i64 v.i]]) (ps:=[(0,.agg [.int .u8 v.kind,.bool v.f.n.neg,a',.bool v.f.d.neg,b',.int .i64 v.i])]) Ab rfl ty45 rfl rfl (by decide) rfl (fun i cs hi=>by
   grind) rfl hn2
  have o2:=o1.junk hn2 b4;rw[b1,xA];intro n3 hn3 hb3;have ln2:Loose yA.base tf1 t3 6 (s.consts.map yB.d) r.vc:=o2.ok (bB yA.base 6 (s.consts.map yB.d) r.vc) (by simp);have hrd:RD tf1 v.d [.int .u8 v.kind,.bool v.f.n.neg,a',.bool v.f.d.neg,b',.int .i64 v.i]:=mY q3 q4;obtain⟨t4,c1,c2,c3,c4⟩:=Bk (C:=yA) el30 (m:=[v.d]) ln2 b2 (by grind [uF,bE]) (by
   intro x hx;simp only[yas,List.flatten_nil,ycd,ybs,List.not_mem_nil,or_false]at hx;rcases hx with rfl | rfl | rfl | rfl | rfl | rfl
   ·rfl
   ·rfl
   ·exact q3.one
   ·rfl
   ·exact q4.one
   ·rfl) (by simp) (by grind) hn3 hb3 o2.tle
  have ec:(s.consts.map yB.d).length+[v.d].length=(s.consts++[v]).length:=by simp
  have hd:s.consts.map yB.d++[v.d]=(s.consts++[v]).map yB.d:=by simp
  rw[ec,hd]at c2;have o3:Objs yA.base tf1 t4 ([wD r.b none r.cells,jE r.m1 (mE 0 s.names),jE r.m2 (mE 0 ((s.consts++[v]).map xB)),bB yA.base 1 (s.names.map D.str) r.vn]++bB yA.base 6 ((s.consts++[v]).map yB.d) (.slice n3 0 (s.consts++[v]).length (s.consts++[v]).length)::[bB yA.base 1 s.ws r.vw,bB yA.base 1 s.ts r.vt,bB yA.base 3 (s.code.map XIns.d) r.vk]):=by
   refine Objs.upd (o:=bB yA.base 6 (s.consts.map yB.d) r.vc) o2 (fun k k1 k2=>c4 k ?_ (fun e=>k1 (uO.2 e))) (fun k hk=>?_) c2 (by simp[bB,pF]) c3
   all_goals grind [bB,pF]
  rw[c1,xA,ec];simp only[gE,zA.asTup,uA,vE,yaz,yba,xA,zB,bK,bT,En];intro m4 _ _;have cel3:kC t4 r.b none r.cells:=o3.ok (wD r.b none r.cells) (by simp);obtain⟨t5,g1,g2,g3⟩:=cel3.store1 (C:=yA) h.baseB.1 (j:=5) (v:=.slice n3 0 (s.consts++[v]).length (s.consts++[v]).length) Ab rfl rfl rfl (by omega);have es:r.cells.set 5 (.slice n3 0 (s.consts++[v]).length (s.consts++[v]).length)=TR.cells ⟨r.b,r.pl,r.vn,.slice n3 0 (s.consts++[v]).length (s.consts++[v]).length,r.vw,r.vt,r.vk,r.m1,r.m2⟩:=Al (k:=1) h.pl
  rw[es]at g2;have ek:((dK (xB v) (s.consts.map xB):Nat):Int)=(s.consts.length:Int):=by rw[Ea hk,ybf]
  rw[g1,xA,<- ek];refine hQ tf1 t5 ⟨r.b,r.pl,r.vn,.slice n3 0 (s.consts++[v]).length (s.consts++[v]).length,r.vw,r.vt,r.vk,r.m1,r.m2⟩ q1 rfl rfl ⟨h.pl,?_⟩;exact Objs.upd (A:=[]) (o:=wD r.b none r.cells) o3 (fun k k1 _=>g3 k (fun e=>k1 (by simp[wD,e]))) (fun k hk=>.inl hk) g2 (by simp[wD]) (c3.off h1.baseB.2 g3)
end
section
variable [tC]
variable {t tf:Tr qA}{r:TR}{s:oF}
def oF.nt(s:oF):Nt:=⟨s.names,s.consts⟩
def oF.put(s:oF)(n:Nt)(l:List XIns):oF:=⟨n.names,n.consts,s.ws,s.ts,s.code++l⟩
def zhy(s:oF)(n:List Nat):s.nt.name n=⟨addN s.names n,s.consts⟩:=by
 unfold Nt.name addN oF.nt;split<;>rfl
def GC(s:oF)(v:yB):s.nt.const xB v=⟨s.names,addC xB s.consts v⟩:=by
 unfold Nt.const addC oF.nt;split<;>rfl
theorem UK{x:vA}{a b c:zA}{Q:xC}(h:TS xB tf t r s)(hx:x.fit)(hsh:x.op=1->yB.short x.v)(hn:s.names.length<300000)(hc:s.consts.length<300000)(hk:s.code.length<300000)
  (ha:sA tf 1 (wC x.v.f.n.limbs) a) (hb:sA tf 1 (wC x.v.f.d.limbs) b) (hcc:sA tf 9 (x.args.map vA.d) c)
  (hQ:∀tf' t' r',iA tf tf'->r'.b=r.b->r'.kp=r.kp->TS xB tf' t' r' (s.put (wE xB x.op x.name x.v x.args.length s.nt).1 [(wE xB x.op x.name x.v x.args.length s.nt).2])->Q (.tup []) t') :
  Wc yA F 88 [.ptr r.b 0,.agg (oC x a b c)] t Q:=by
 obtain⟨op,name,v,args⟩:=x;simp only[vA.op,vA.name,vA.v,vA.args]at ha hb hcc hQ hsh;unfold vA.fit at hx;obtain⟨h1,h2,_,h3,h4,_⟩:=hx;unfold sE at h4;have w:dA .i64 (op:Int)=(op:Int):=wrap_i64 (by omega) (by omega);have bD:∀ {tf1 t1:Tr qA} {r1:TR} {s1:oF} {i:XIns} {Q':xC},TS xB tf1 t1 r1 s1->r1.b=r.b->s1.code.length<300000->(∀tf' t' r',iA tf1 tf'->r'.b=r1.b->r'.kp=r1.kp->TS xB tf' t' r' (s1.put s1.nt [i])->Q' (.tup []) t') →
   Wq yA F iG 86 [.ptr r.b 0,.int .u8 i.op,.int .i64 i.a,.int .i64 i.b] t1 fun _ t'=>Q' (.tup []) t':=by
  intro tf1 t1 r1 s1 i Q' k1 k2 k3 k4;rw[q86,<- k2];exact Bo k1 k3 fun tf' t' r' v p1 p2 p3 p4 _=>k4 tf' t' r' p1 p2 p3 p4
 have nm:∀ {K:Int->Prop} {Q':xC} {o:Nat} {y:Int},(wE xB op name v args.length s.nt)=(s.nt.name name,⟨o,s.nt.nameI name,y⟩) →
   Wq yA F iG 128 [.ptr r.b 0,.str name] t fun u t'=>nE (Ax .i64 u) fun n=>Wq yA F iG 86 [.ptr r.b 0,.int .u8 o,.int .i64 n,.int .i64 y] t' fun _ t'=>Q (.tup []) t':=by
  intro K Q' o y he;rw[q128];refine VD h hn fun t1 r1 k1 k2 k3=>?_;rw[zB,xA];refine bD (i:=⟨o,_,y⟩) (Q':=Q) k3 k1 hk fun tf' t' r' p1 p2 p3 p4=>hQ tf' t' r' p1 (p2.trans k1) (p3.trans k2) ?_;rw[he,zhy];exact p4
 refine w88 ?_;have pos:∀ {k:Nat} {x y:T} {Q:xC},op=k->wp 88 x t Q->wp 88 (.ite (cA (op:Int) (k:Int)) x y) t Q:=fun h hx=>sB (qE.2 (by omega)) hx;have neg:∀ {k:Nat} {x y:T} {Q:xC},op≠k->wp 88 y t Q->wp 88 (.ite (cA (op:Int) (k:Int)) x y) t Q:=fun h hy=>sD (fun e=>absurd (qE.1 e) (by omega)) hy;unfold t88 uQ10 uQ11 uI uZ uY uW;by_cases c1:op=1
 ·refine pos c1 ?_;have he:wE xB op name v args.length s.nt=(s.nt.const xB v,⟨1,s.nt.constI xB v,0⟩):=by unfold wE;rw[yab c1]
  simp only[tA];rw[q127];refine MD h hc h3 (hsh c1) ha hb fun tf1 t1 r1 k0 k1 k2 k3=>?_;rw[zB,xA];refine bD (i:=⟨1,_,0⟩) (Q':=Q) k3 k1 hk fun tf' t' r' p1 p2 p3 p4=>hQ tf' t' r' (k0.trans p1) (p2.trans k1) (p3.trans k2) ?_;rw[he,GC];exact p4
 ·refine neg c1 ?_;by_cases c2:op=2
  ·refine pos c2 ?_;have he:wE xB op name v args.length s.nt=(s.nt,⟨2,0,0⟩):=by unfold wE;rw[yaa c1,yab c2]
   simp only[tA];refine bD (i:=⟨2,0,0⟩) (Q':=Q) h rfl hk fun tf' t' r' p1 p2 p3 p4=>hQ tf' t' r' p1 p2 p3 ?_
   simp_all
  ·refine neg c2 ?_;have h345:∀(o:Nat),op=o->(o=3\/o=4\/o=5)->wE xB op name v args.length s.nt=(s.nt.name name,⟨o,s.nt.nameI name,0⟩):=by
    intro o e1 e2;unfold wE;rw[yaa c1,yaa c2,yab (by omega),e1]
   by_cases c3:op=3
   ·refine pos c3 ?_;simp only[tA];exact nm (K:=fun _=>True) (Q':=Q) (h345 3 c3 (by omega))
   ·refine neg c3 ?_;by_cases c4:op=4
    ·refine pos c4 ?_;simp only[tA];exact nm (K:=fun _=>True) (Q':=Q) (h345 4 c4 (by omega))
    ·refine neg c4 ?_;by_cases c5:op=5
     ·refine pos c5 ?_;simp only[tA];exact nm (K:=fun _=>True) (Q':=Q) (h345 5 c5 (by omega))
     ·refine neg c5 ?_;by_cases c6:op=6
      ·refine pos c6 ?_;have he:wE xB op name v args.length s.nt=(s.nt.name name,⟨6,s.nt.nameI name,args.length⟩):=by unfold wE;rw[yaa c1,yaa c2,yaa (by omega),yab c6]
       simp only[tA];rw[hcc.len,xA,ybf,zB,xA];simp only[xA,hcc.same,xS,if_true];exact nm (K:=fun _=>True) (Q':=Q) he
      ·refine neg c6 ?_;have h8:(op=21\/op=22\/op=23)->wE xB op name v args.length s.nt=(s.nt.name name,⟨8,s.nt.nameI name,op⟩):=by
        intro e;unfold wE;rw[yaa c1,yaa c2,yaa (by omega),yaa c6,yab e]
       by_cases c21:op=21
       ·refine pos c21 (pos c21 ?_)
        simp_all [tA,vA.op,vA.name,xS]
       ·refine neg c21 ?_;by_cases c23:op=23
        ·refine pos c23 (pos c23 ?_)
         simp_all [tA,vA.op,vA.name,xS]
        ·refine neg c23 ?_;by_cases c22:op=22
         ·refine pos c22 ?_
          simp_all [tA,vA.op,vA.name,xS]
         ·refine neg c22 ?_;by_cases c19:op=19
          ·refine pos c19 ?_;have he:wE xB op name v args.length s.nt=(s.nt,⟨7,19,v.i⟩):=by unfold wE;rw[yaa c1,yaa c2,yaa (by omega),yaa c6,yaa (by omega),yab c19]
           simp only[tA,vA.op,vA.name,vA.v,vA.args,w];refine bD (i:=⟨7,(op:Int),v.i⟩) (Q':=Q) h rfl hk fun tf' t' r' p1 p2 p3 p4=>hQ tf' t' r' p1 p2 p3 ?_
           simp_all
          ·refine neg c19 ?_;have he:wE xB op name v args.length s.nt=(s.nt,⟨7,op,0⟩):=by unfold wE;rw[yaa c1,yaa c2,yaa (by omega),yaa c6,yaa (by omega),yaa c19]
           simp only[tA,vA.op,vA.name,vA.v,vA.args,w];refine bD (i:=⟨7,(op:Int),0⟩) (Q':=Q) h rfl hk fun tf' t' r' p1 p2 p3 p4=>hQ tf' t' r' p1 p2 p3 ?_
           grind
end
end Go.Proofs
namespace Go.Am
mutual
def dE:vA->Nat
 | .mk _ _ _ args=>1+tM args
def tM:List vA->Nat
 | []=>0
 | x::l=>dE x+tM l
end
section
variable {key:yB->List Nat}{valid:yB->Bool}
def jV(f:sH)(n:Nat):Prop:=∀s p,(f s p).2.length<=4*n/\(f s p).1.names.length<=s.names.length+n/\(f s p).1.consts.length<=s.consts.length+n
theorem Qo(s:Nt)(n:List Nat):(s.name n).names.length<=s.names.length+1/\(s.name n).consts=s.consts:=by
 unfold Nt.name;split<;>simp
def MF(s:Nt)(v:yB):(s.const key v).consts.length<=s.consts.length+1/\(s.const key v).names=s.names:=by
 unfold Nt.const;split<;>simp
def UL(op:Nat)(name:List Nat)(v:yB)(n:Nat)(s:Nt):(wE key op name v n s).1.names.length<=s.names.length+1/\(wE key op name v n s).1.consts.length<=s.consts.length+1:=by
 have h1:=Qo s name;have h2:=MF (key:=key) s v;unfold wE;split
 ·simp only[h2.2];omega
 ·split
  ·simp
  ·split
   ·simp only[h1.2];omega
   ·split
    ·simp only[h1.2];omega
    ·split
     ·simp only[h1.2];omega
     ·split<;>simp
def CW{f g:sH}{n m:Nat}{skip:Nat}{truth:Int}(hf:jV f n)(hg:jV g m):jV (tK key f g skip truth) (1+(n+m)):=by
 intro s p;have h1:=hf s p;have h2:=hg (f s p).1 (p+(f s p).2.length+1);have h3:=MF (key:=key) (g (f s p).1 (p+(f s p).2.length+1)).1 (eE truth);unfold tK;simp only[ybg,ybn,ybx,h3.2];omega
def zb7{f g h:sH}{n m k:Nat}(hf:jV f n)(hg:jV g m)(hh:jV h k):jV (eM f g h) (1+(n+(m+k))):=by
 intro s p;have h1:=hf s p;have h2:=hg (f s p).1 (p+(f s p).2.length+1);have h3:=hh (g (f s p).1 (p+(f s p).2.length+1)).1 (p+(f s p).2.length+1+(g (f s p).1 (p+(f s p).2.length+1)).2.length+1);unfold eM;simp only[ybg,ybn];omega
def Vj:∀(l:List vA),(∀x∈l,jV (vC key valid x) (dE x))->jV (pD (zE key valid l)) (tM l)
 | [],_=>by intro s p;simp[zE,pD,tM]
 | x::l,h=>by
  intro s p;have h1:=h x (by simp) s p;have h2:=Vj l (fun y hy=>h y (by simp[hy])) (vC key valid x s p).1 (p+(vC key valid x s p).2.length);simp only[zE,pD,tM,ybg];omega
mutual
def zT:∀(x:vA),jV (vC key valid x) (dE x)
 | .mk op name v args=>by
  have ih:=BF args;intro s p;unfold vC dE lH;by_cases h0:gI valid op v (zE key valid args).length=false
  ·simp only[yab h0,ybn,ybx];omega
  ·simp only[yaa h0];have h0:gI valid op v (zE key valid args).length=true:=by simpa using h0
   rw[Jw]at h0;have hn:=h0;unfold gI at hn;simp only[ybb,decide_eq_true_eq]at hn;by_cases h15:op=15
   ·simp only[yab h15];subst h15;have:args.length=2:=by have h1:=hn.1.2;have h2:=hn.2;simp[gF]at h1 h2;omega
    match args,this,ih with
    | [a,b],_,ih=>
     have:=CW (key:=key) (skip:=10) (truth:=0) (ih a (by simp)) (ih b (by simp)) s p;simp only[zE,tM];simpa using this
   ·simp only[yaa h15];by_cases h16:op=16
    ·simp only[yab h16];subst h16;have:args.length=2:=by have h1:=hn.1.2;have h2:=hn.2;simp[gF]at h1 h2;omega
     match args,this,ih with
     | [a,b],_,ih=>
      have:=CW (key:=key) (skip:=11) (truth:=1) (ih a (by simp)) (ih b (by simp)) s p;simp only[zE,tM];simpa using this
    ·simp only[yaa h16];by_cases h18:op=18
     ·simp only[yab h18];subst h18;have:args.length=3:=by have h1:=hn.1.2;have h2:=hn.2;simp[gF]at h1 h2;omega
      match args,this,ih with
      | [a,b,c],_,ih=>
       have:=zb7 (ih a (by simp)) (ih b (by simp)) (ih c (by simp)) s p;simp only[zE,tM];simpa using this
     ·simp only[yaa h18];have h1:=Vj args ih s p;have h2:=UL (key:=key) op name v (zE key valid args).length (pD (zE key valid args) s p).1;simp only[ybg,ybn,ybx];omega
def BF:∀(l:List vA),∀x∈l,jV (vC key valid x) (dE x)
 | [],x,h=>by cases h
 | y::l,x,h=>by
  rcases ybs.1 h with e | h
  ·rw[e];exact zT y
  ·exact BF l x h
end
end
end Go.Am
namespace Go.Proofs
open Go Go.Am
variable [tC]
variable {t tf:Tr qA}{r:TR}{s:oF}
mutual
def DD:∀(x:vA) (deep c:Nat),(aN x deep c).1=true->(aN x deep c).2=c+dE x
 | .mk op name v args,deep,c,h=>by
  unfold aN at h ⊢;unfold dE;split at h
  ·cases h
  ·rename_i h1;rw[yaa h1];split at h
   ·cases h
   ·rename_i h2;rw[yaa h2,DE args _ _ h];omega
def DE:∀(l:List vA) (deep c:Nat),(zO l deep c).1=true->(zO l deep c).2=c+tM l
 | [],deep,c,h=>by unfold zO tM;rfl
 | x::l,deep,c,h=>by
  unfold zO at h ⊢;unfold tM;split at h
  ·rename_i h1;rw[yab h1,DE l _ _ h,DD x _ _ h1];omega
  ·cases h
end
def Gm{x:vA}(h:Af x=true):dE x<=200:=by
 have h1:=DD x 1 0 h;have h2:=(Vn x 1 0 (by omega)).2 h;omega
def Hz{l:List vA}{v:zA}(hv:sA tf 9 (l.map vA.d) v)(ht:iA tf t){i:Nat}{x:vA}(hx:l[i]?=some x) :
  ∃b off a c d,aA yA 46 v (.int .i64 (i:Int))=some (.ptr b off)/\mA yA 48 ⟨0,t⟩ (.ptr b off)=some (.agg (oC x a c d))/\RD tf x.d (oC x a c d)/\gG [(.int .u8 0),(.str []),(.int .u8 0),(.bool false),.nilslice,(.bool false),.nilslice,(.int .i64 0),.nilslice] (.agg (oC x a c d))=some (cellsOf (oC x a c d)) ∧
   sA tf 1 (wC x.v.f.n.limbs) a/\sA tf 1 (wC x.v.f.d.limbs) c/\sA tf 9 (x.args.map vA.d) d:=by
 obtain⟨b,off,a,c,d,g1,g2,g3,g4,g5,g6,g7⟩:=Yw hv hx;exact⟨b,off,a,c,d,g1,tQ (H:=⟨0,tf⟩) (fun _ _ h=>ht _ _ h) g2,g3,g4,g5,g6,g7⟩
theorem AL{v:yB}(h:yC v=true):yB.short v:=by
 grind [cZ,yB.short,Gr,Cz,dN,yC]
theorem Gp{α:Type}{A B:List α}{x y:α}{n:Nat}(h:A.length=n):(A++x::B).set n y=A++y::B:=by
 simp_all
theorem JY{α:Type}{A B:List α}{x:α}{n:Nat}(h:A.length=n):(A++x::B)[n]?=some x:=by
 simp_all
def mX(x:vA):Prop:=∀(cs:List zA) (t tf:Tr qA) (r:TR) (s:oF) (Q:xC),x.fit->kM tf->RD tf x.d cs->TS xB tf t r s->s.code.length+4*dE x<300000->s.names.length+dE x<300000->s.consts.length+dE x<300000 →
 (∀tf' t' r',iA tf tf'->r'.b=r.b->r'.kp=r.kp->TS xB tf' t' r' (s.put (vC xB yC x s.nt s.code.length).1 (vC xB yC x s.nt s.code.length).2)->Q (.tup []) t')->Wc yA F 48 [.ptr r.b 0,.agg cs] t Q
theorem kP{sz:Nat}:sA t sz [] .nilslice:=⟨[],.inl ⟨rfl,rfl⟩,bE.2 rfl⟩
theorem MI{a b:vA}{cs:List zA}{args:List vA}{op:Nat}{name:List Nat}{v:yB}{u1 u2 u3:zA}{skip:Nat}{truth:Int}{Q:xC}(hA:mX a)(hB:mX b)(hcs:cs=oC (.mk op name v args) u1 u2 u3)(hargs:args=[a,b])(hfa:a.fit)(hfb:b.fit)(hg:kM tf)(hu:sA tf 9 (args.map vA.d) u3)(h:TS xB tf t r s)
  (htr : -9223372036854775808<=truth/\truth<9223372036854775808) (b1:s.code.length+4*(1+(dE a+dE b))<300000) (b2:s.names.length+(1+(dE a+dE b))<300000) (b3:s.consts.length+(1+(dE a+dE b))<300000)
  (hQ:∀tf' t' r',iA tf tf'->r'.b=r.b->r'.kp=r.kp->TS xB tf' t' r' (s.put (tK xB (vC xB yC a) (vC xB yC b) skip truth s.nt s.code.length).1 (tK xB (vC xB yC a) (vC xB yC b) skip truth s.nt s.code.length).2)->Q (.tup []) t') :
  Wc yA F 87 [.ptr r.b 0,.agg cs,.int .u8 (skip:Int),.agg [.int .u8 1,.bool false,.nilslice,.bool false,.nilslice,.int .i64 truth]] t Q:=by
 subst hcs;refine w87 ?_;simp only[uI,uG,uZ,uY,cD,t87,tA,vA.op,vA.name,vA.v,vA.args];obtain⟨p,o,x1,x2,x3,g1,g2,g3,g4,_,_,_⟩:=Hz hu h.os.tle (i:=0) (x:=a) (by simp_all);have g1:aA yA 46 u3 (.int .i64 0)=some (.ptr p o):=g1;rw[g1,xA,g2,xA,g4,xA];simp only[oC,cellsOf,mG,gH,tG,zG,yaz,yba];rw[q48];have sa:=zT (key:=xB) (valid:=yC) a s.nt s.code.length
 refine hA _ t tf r s _ hfa hg g3 h (by omega) (by omega) (by omega) fun tf1 t1 r1 k1 k2 k3 k4=>?_;generalize eR:vC xB yC a s.nt s.code.length=R at *;have sa1:R.1.names.length<=s.names.length+dE a:=sa.2.1;have sa2:R.1.consts.length<=s.consts.length+dE a:=sa.2.2;rw[q86,<- k2];refine Bo (i:=⟨skip,0,0⟩) k4 (by show(s.code++R.2).length<_;grind) fun tf2 t2 r2 v2 m1 m2 m3 m4 m5=>?_;obtain⟨p',o',y1,y2,y3,f1,f2,f3,f4,_,_,_⟩:=Hz hu ((k1.trans m1).trans m4.os.tle) (i:=1) (x:=b) (by simp_all)
 have f1:aA yA 46 u3 (.int .i64 1)=some (.ptr p' o'):=f1;rw[f1,xA,f2,xA,f4,xA];simp only[oC,cellsOf,mG,gH,tG,zG,yaz,yba];rw[q48,<- m2];have e2:(s.code++R.2++[(⟨skip,0,0⟩:XIns)]).length=s.code.length+R.2.length+1:=by grind
 have sb:=zT (key:=xB) (valid:=yC) b R.1 (s.code.length+R.2.length+1);refine hB _ t2 tf2 r2 _ _ hfb ((hg.mono k1).mono m1) (RD.mono (k1.trans m1) _ _ f3) m4 (by show(s.code++R.2++[_]).length+_<_;omega) (by show R.1.names.length+_<_;omega) (by show R.1.consts.length+_<_;omega) fun tf3 t3 r3 n1 n2 n3 n4=>?_;have n4:TS xB tf3 t3 r3 (oF.put ⟨R.1.names,R.1.consts,s.ws,s.ts,s.code++R.2++[(⟨skip,0,0⟩:XIns)]⟩ (vC xB yC b R.1 (s.code++R.2++[(⟨skip,0,0⟩:XIns)]).length).1 (vC xB yC b R.1 (s.code++R.2++[(⟨skip,0,0⟩:XIns)]).length).2):=n4
 rw[e2]at n4;generalize eG:vC xB yC b R.1 (s.code.length+R.2.length+1)=G at *;unfold oF.put at n4;simp only at n4;have lg:G.2.length<=4*dE b:=sb.1;have lr:R.2.length<=4*dE a:=sa.1;have ln:G.1.names.length<=R.1.names.length+dE b:=sb.2.1;have lc:G.1.consts.length<=R.1.consts.length+dE b:=sb.2.2;rw[q86,<- n2];refine Bo (i:=⟨12,0,0⟩) n4 (by grind) fun tf4 t4 r4 v4 p1 p2 p3 p4 _=>?_
 have e4:(s.code++R.2++[(⟨skip,0,0⟩:XIns)]++G.2++[(⟨12,0,0⟩:XIns)]).length=s.code.length+R.2.length+1+G.2.length+1:=by grind
 rw[q86,<- p2];refine Bo (i:=⟨9,0,0⟩) p4 (by grind) fun tf5 t5 r5 v5 c1 c2 c3 c4 c5=>?_;have ecode:s.code++R.2++[(⟨skip,0,0⟩:XIns)]++G.2++[(⟨12,0,0⟩:XIns)]++[(⟨9,0,0⟩:XIns)]=(s.code++R.2)++⟨skip,0,0⟩::(G.2++[⟨12,0,0⟩,⟨9,0,0⟩]):=by simp
 have e5:(s.code++R.2++[(⟨skip,0,0⟩:XIns)]++G.2++[(⟨12,0,0⟩:XIns)]++[(⟨9,0,0⟩:XIns)]).length=s.code.length+R.2.length+1+G.2.length+2:=by grind
 have hb5:r5.b=r1.b:=by rw[c2,p2,n2,m2]
 have m5':Tgt tf5 r5.b v2 (s.code++R.2).length:=by
  rw[hb5];exact m5.mono (n1.trans (p1.trans c1))
 have tg1:=Oh (i:=(s.code++R.2).length) (x:=⟨skip,0,0⟩) (v:=v2) (Q:=fun u t'=>Wq yA F iG 127 [.ptr r4.b 0,.agg [.int .u8 1,.bool false,.nilslice,.bool false,.nilslice,.int .i64 truth]] t' fun a' t'=>nE (Ax .i64 a') fun n=>Wq yA F iG 86 [.ptr r4.b 0,.int .u8 1,.int .i64 n,.int .i64 0] t' fun _ t'=>nE (oM v5 []) fun q=>Wq yA F iG q.1 q.2 t' fun _ t'=>Q (.tup []) t') c4 m5' (by grind) (by grind) (fun t6 h6=>?_)
 ·exact tg1
 ·have h6:TS xB tf5 t6 r5 ⟨G.1.names,G.1.consts,s.ws,s.ts,(s.code++R.2++[(⟨skip,0,0⟩:XIns)]++G.2++[(⟨12,0,0⟩:XIns)]++[(⟨9,0,0⟩:XIns)]).set (s.code++R.2).length ⟨skip,((s.code++R.2++[(⟨skip,0,0⟩:XIns)]++G.2++[(⟨12,0,0⟩:XIns)]++[(⟨9,0,0⟩:XIns)]).length:Nat),0⟩⟩:=h6;rw[e5,ecode,Gp rfl]at h6;rw[q127,<- c2];have hfit:(eE truth).fit:=⟨(by show 1<256;decide),⟨⟨(by show 0<sE;decide),(by show 0<sE;decide)⟩,(fun x hx=>by cases hx),(fun x hx=>by cases hx)⟩,htr.1,htr.2⟩
  refine MD (v:=eE truth) h6 (by grind) hfit ⟨(by show 0<400;decide),(by show 0<400;decide)⟩ kP kP fun tf7 t7 r7 d1 d2 d3 d4=>?_;rw[zB,xA,q86,<- d2];have e7:((s.code++R.2)++⟨skip,((s.code.length+R.2.length+1+G.2.length+2:Nat):Int),0⟩::(G.2++[(⟨12,0,0⟩:XIns),⟨9,0,0⟩])).length=s.code.length+R.2.length+1+G.2.length+2:=by grind
  refine Bo (i:=⟨1,((dK (xB (eE truth)) (G.1.consts.map xB):Nat):Int),0⟩) d4 (by grind) fun tf8 t8 r8 v8 z1 z2 z3 z4 _=>?_;have ecode2:((s.code++R.2)++⟨skip,((s.code.length+R.2.length+1+G.2.length+2:Nat):Int),0⟩::(G.2++[(⟨12,0,0⟩:XIns),⟨9,0,0⟩]))++[(⟨1,((dK (xB (eE truth)) (G.1.consts.map xB):Nat):Int),0⟩:XIns)] =
   ((s.code++R.2)++⟨skip,((s.code.length+R.2.length+1+G.2.length+2:Nat):Int),0⟩::(G.2++[(⟨12,0,0⟩:XIns)]))++⟨9,0,0⟩::[⟨1,((dK (xB (eE truth)) (G.1.consts.map xB):Nat):Int),0⟩]:=by simp
  have e8:((s.code++R.2)++⟨skip,((s.code.length+R.2.length+1+G.2.length+2:Nat):Int),0⟩::(G.2++[(⟨12,0,0⟩:XIns)])).length=(s.code++R.2++[(⟨skip,0,0⟩:XIns)]++G.2++[(⟨12,0,0⟩:XIns)]).length:=by simp
  have e9:(((s.code++R.2)++⟨skip,((s.code.length+R.2.length+1+G.2.length+2:Nat):Int),0⟩::(G.2++[(⟨12,0,0⟩:XIns),⟨9,0,0⟩]))++[(⟨1,((dK (xB (eE truth)) (G.1.consts.map xB):Nat):Int),0⟩:XIns)]).length=s.code.length+R.2.length+1+G.2.length+3:=by grind
  have hb8:r8.b=r4.b:=by rw[z2,d2,c2]
  have c5':Tgt tf8 r8.b v5 (s.code++R.2++[(⟨skip,0,0⟩:XIns)]++G.2++[(⟨12,0,0⟩:XIns)]).length:=by
   rw[hb8];exact c5.mono (d1.trans z1)
  refine Oh (x:=⟨9,0,0⟩) z4 c5' (by grind [JY]) (by grind) fun t9 h9=>?_;refine hQ tf8 t9 r8 (k1.trans (m1.trans (n1.trans (p1.trans (c1.trans (d1.trans z1)))))) (by rw[hb8,p2,n2,m2,k2]) (by rw[z3,d3,c3,p3,n3,m3,k3]) ?_;have h9:TS xB tf8 t9 r8 ⟨G.1.names,addC xB G.1.consts (eE truth),s.ws,s.ts,(((s.code++R.2)++⟨skip,((s.code.length+R.2.length+1+G.2.length+2:Nat):Int),0⟩::(G.2++[(⟨12,0,0⟩:XIns),⟨9,0,0⟩]))++[(⟨1,((dK (xB (eE truth)) (G.1.consts.map xB):Nat):Int),0⟩:XIns)]).set (s.code++R.2++[(⟨skip,0,0⟩:XIns)]++G.2++[(⟨12,0,0⟩:XIns)]).length ⟨9,((((s.code++R.2)++⟨skip,((s.code.length+R.2.length+1+G.2.length+2:Nat):Int),0⟩::(G.2++[(⟨12,0,0⟩:XIns),⟨9,0,0⟩]))++[(⟨1,((dK (xB (eE truth)) (G.1.consts.map xB):Nat):Int),0⟩:XIns)]).length:Nat),0⟩⟩:=h9
  rw[e9,ecode2,Gp e8]at h9;unfold oF.put tK;rw[eR,eG];have en:G.1.const xB (eE truth)=⟨G.1.names,addC xB G.1.consts (eE truth)⟩:=GC ⟨G.1.names,G.1.consts,[],[],[]⟩ (eE truth)
  grind [Nt.constI]
end Go.Proofs
namespace Go.Proofs
open Go Go.Am
variable [tC]
variable {t tf:Tr qA}{r:TR}{s:oF}
theorem if_ok{a b d:vA}{args:List vA}{u3:zA}{Q:xC}(hA:mX a)(hB:mX b)(hD:mX d)(hargs:args=[a,b,d])(hfa:a.fit)(hfb:b.fit)(hfd:d.fit)(hg:kM tf)(hu:sA tf 9 (args.map vA.d) u3)(h:TS xB tf t r s)
  (b1:s.code.length+4*(1+(dE a+(dE b+dE d)))<300000) (b2:s.names.length+(1+(dE a+(dE b+dE d)))<300000) (b3:s.consts.length+(1+(dE a+(dE b+dE d)))<300000)
  (hQ:∀tf' t' r',iA tf tf'->r'.b=r.b->r'.kp=r.kp->TS xB tf' t' r' (s.put (eM (vC xB yC a) (vC xB yC b) (vC xB yC d) s.nt s.code.length).1 (eM (vC xB yC a) (vC xB yC b) (vC xB yC d) s.nt s.code.length).2)->Q (.tup []) t') :
  wp 48 (.opt (aA yA 46 u3 (.int .i64 0)) fun a5=>.light (fun m=>mA yA 48 ⟨0,m⟩ a5) fun a6=>.asG [(.int .u8 0),(.str []),(.int .u8 0),(.bool false),.nilslice,(.bool false),.nilslice,(.int .i64 0),.nilslice] a6 fun X7=>
 .call 48 [.ptr r.b 0,(.agg [(.int .u8 (X7.i 0)),(.str (X7.s 1)),(.int .u8 (X7.i 2)),(.bool (X7.b 3)),(X7.v 4),(.bool (X7.b 5)),(X7.v 6),(.int .i64 (X7.i 7)),(X7.v 8)])] fun a8=>
 .call 86 [.ptr r.b 0,(.int .u8 10),(.int .i64 0),(.int .i64 0)] fun a9=>
 .opt (aA yA 46 u3 (.int .i64 1)) fun a10=>.light (fun m=>mA yA 48 ⟨0,m⟩ a10) fun a11=>.asG [(.int .u8 0),(.str []),(.int .u8 0),(.bool false),.nilslice,(.bool false),.nilslice,(.int .i64 0),.nilslice] a11 fun X12=>
 .call 48 [.ptr r.b 0,(.agg [(.int .u8 (X12.i 0)),(.str (X12.s 1)),(.int .u8 (X12.i 2)),(.bool (X12.b 3)),(X12.v 4),(.bool (X12.b 5)),(X12.v 6),(.int .i64 (X12.i 7)),(X12.v 8)])] fun a13=>
 .call 86 [.ptr r.b 0,(.int .u8 9),(.int .i64 0),(.int .i64 0)] fun a14=>
 .callv a9 [] fun a15=>
 .opt (aA yA 46 u3 (.int .i64 2)) fun a16=>.light (fun m=>mA yA 48 ⟨0,m⟩ a16) fun a17=>.asG [(.int .u8 0),(.str []),(.int .u8 0),(.bool false),.nilslice,(.bool false),.nilslice,(.int .i64 0),.nilslice] a17 fun X18=>
 .call 48 [.ptr r.b 0,(.agg [(.int .u8 (X18.i 0)),(.str (X18.s 1)),(.int .u8 (X18.i 2)),(.bool (X18.b 3)),(X18.v 4),(.bool (X18.b 5)),(X18.v 6),(.int .i64 (X18.i 7)),(X18.v 8)])] fun a19=>
 .callv a14 [] fun a20=>
 .ret (.tup [])) t Q:=by
 simp only[tA];obtain⟨p,o,x1,x2,x3,g1,g2,g3,g4,_,_,_⟩:=Hz hu h.os.tle (i:=0) (x:=a) (by simp_all);have g1:aA yA 46 u3 (.int .i64 0)=some (.ptr p o):=g1;rw[g1,xA,g2,xA,g4,xA];simp only[oC,cellsOf,mG,gH,tG,zG,yaz,yba];rw[q48];have sa:=zT (key:=xB) (valid:=yC) a s.nt s.code.length;refine hA _ t tf r s _ hfa hg g3 h (by omega) (by omega) (by omega) fun tf1 t1 r1 k1 k2 k3 k4=>?_
 generalize eR:vC xB yC a s.nt s.code.length=R at *;have sa1:R.1.names.length<=s.names.length+dE a:=sa.2.1;have sa2:R.1.consts.length<=s.consts.length+dE a:=sa.2.2;rw[q86,<- k2];refine Bo (i:=⟨10,0,0⟩) k4 (by show(s.code++R.2).length<_;grind) fun tf2 t2 r2 v2 m1 m2 m3 m4 m5=>?_;obtain⟨p',o',y1,y2,y3,f1,f2,f3,f4,_,_,_⟩:=Hz hu ((k1.trans m1).trans m4.os.tle) (i:=1) (x:=b) (by simp_all)
 have f1:aA yA 46 u3 (.int .i64 1)=some (.ptr p' o'):=f1;rw[f1,xA,f2,xA,f4,xA];simp only[oC,cellsOf,mG,gH,tG,zG,yaz,yba];rw[q48,<- m2];have e2:(s.code++R.2++[(⟨10,0,0⟩:XIns)]).length=s.code.length+R.2.length+1:=by grind
 have sb:=zT (key:=xB) (valid:=yC) b R.1 (s.code.length+R.2.length+1);refine hB _ t2 tf2 r2 _ _ hfb ((hg.mono k1).mono m1) (RD.mono (k1.trans m1) _ _ f3) m4 (by show(s.code++R.2++[_]).length+_<_;omega) (by show R.1.names.length+_<_;omega) (by show R.1.consts.length+_<_;omega) fun tf3 t3 r3 n1 n2 n3 n4=>?_;have n4:TS xB tf3 t3 r3 (oF.put ⟨R.1.names,R.1.consts,s.ws,s.ts,s.code++R.2++[(⟨10,0,0⟩:XIns)]⟩ (vC xB yC b R.1 (s.code++R.2++[(⟨10,0,0⟩:XIns)]).length).1 (vC xB yC b R.1 (s.code++R.2++[(⟨10,0,0⟩:XIns)]).length).2):=n4
 rw[e2]at n4;generalize eG:vC xB yC b R.1 (s.code.length+R.2.length+1)=G at *;unfold oF.put at n4;simp only at n4;have lg:G.2.length<=4*dE b:=sb.1;have lr:R.2.length<=4*dE a:=sa.1;have ln:G.1.names.length<=R.1.names.length+dE b:=sb.2.1;have lc:G.1.consts.length<=R.1.consts.length+dE b:=sb.2.2;rw[q86,<- n2];have e3:(s.code++R.2++[(⟨10,0,0⟩:XIns)]++G.2).length=s.code.length+R.2.length+1+G.2.length:=by grind
 refine Bo (i:=⟨9,0,0⟩) n4 (by grind) fun tf5 t5 r5 v5 c1 c2 c3 c4 c5=>?_;have ecode:s.code++R.2++[(⟨10,0,0⟩:XIns)]++G.2++[(⟨9,0,0⟩:XIns)]=(s.code++R.2)++⟨10,0,0⟩::(G.2++[⟨9,0,0⟩]):=by simp
 have e5:(s.code++R.2++[(⟨10,0,0⟩:XIns)]++G.2++[(⟨9,0,0⟩:XIns)]).length=s.code.length+R.2.length+1+G.2.length+1:=by grind
 have hb5:r5.b=r1.b:=by rw[c2,n2,m2]
 have m5':Tgt tf5 r5.b v2 (s.code++R.2).length:=by
  rw[hb5];exact m5.mono (n1.trans c1)
 refine Oh (i:=(s.code++R.2).length) (x:=⟨10,0,0⟩) (v:=v2) c4 m5' (by grind) (by grind) (fun t6 h6=>?_);have h6:TS xB tf5 t6 r5 ⟨G.1.names,G.1.consts,s.ws,s.ts,(s.code++R.2++[(⟨10,0,0⟩:XIns)]++G.2++[(⟨9,0,0⟩:XIns)]).set (s.code++R.2).length ⟨10,((s.code++R.2++[(⟨10,0,0⟩:XIns)]++G.2++[(⟨9,0,0⟩:XIns)]).length:Nat),0⟩⟩:=h6;rw[e5,ecode,Gp rfl]at h6;obtain⟨p6,o6,w1,w2,w3,l1,l2,l3,l4,_,_,_⟩:=Hz hu ((((k1.trans m1).trans n1).trans c1).trans h6.os.tle) (i:=2) (x:=d) (by simp_all)
 have l1:aA yA 46 u3 (.int .i64 2)=some (.ptr p6 o6):=l1;rw[l1,xA,l2,xA,l4,xA];simp only[oC,cellsOf,mG,gH,tG,zG,yaz,yba];have e6:((s.code++R.2)++⟨10,((s.code.length+R.2.length+1+G.2.length+1:Nat):Int),0⟩::(G.2++[(⟨9,0,0⟩:XIns)])).length=s.code.length+R.2.length+1+G.2.length+1:=by simp_all
 have sd:=zT (key:=xB) (valid:=yC) d G.1 (s.code.length+R.2.length+1+G.2.length+1);rw[q48,<- c2];refine hD _ t6 tf5 r5 _ _ hfd (((hg.mono k1).mono m1).mono (n1.trans c1)) (RD.mono ((k1.trans m1).trans (n1.trans c1)) _ _ l3) h6 (by grind) (by grind) (by grind) fun tf7 t7 r7 d1 d2 d3 d4=>?_;have d4:TS xB tf7 t7 r7 (oF.put ⟨G.1.names,G.1.consts,s.ws,s.ts,(s.code++R.2)++⟨10,((s.code.length+R.2.length+1+G.2.length+1:Nat):Int),0⟩::(G.2++[(⟨9,0,0⟩:XIns)])⟩ (vC xB yC d G.1 ((s.code++R.2)++⟨10,((s.code.length+R.2.length+1+G.2.length+1:Nat):Int),0⟩::(G.2++[(⟨9,0,0⟩:XIns)])).length).1 (vC xB yC d G.1 ((s.code++R.2)++⟨10,((s.code.length+R.2.length+1+G.2.length+1:Nat):Int),0⟩::(G.2++[(⟨9,0,0⟩:XIns)])).length).2):=d4
 rw[e6]at d4;generalize eW:vC xB yC d G.1 (s.code.length+R.2.length+1+G.2.length+1)=W at *;unfold oF.put at d4;simp only at d4;have lw:W.2.length<=4*dE d:=sd.1;have hb7:r7.b=r3.b:=by rw[d2,c2]
 have c5':Tgt tf7 r7.b v5 (s.code++R.2++[(⟨10,0,0⟩:XIns)]++G.2).length:=by
  rw[hb7];exact c5.mono d1
 have ecode2:((s.code++R.2)++⟨10,((s.code.length+R.2.length+1+G.2.length+1:Nat):Int),0⟩::(G.2++[(⟨9,0,0⟩:XIns)]))++W.2=((s.code++R.2)++⟨10,((s.code.length+R.2.length+1+G.2.length+1:Nat):Int),0⟩::G.2)++⟨9,0,0⟩::W.2:=by simp
 have e8:((s.code++R.2)++⟨10,((s.code.length+R.2.length+1+G.2.length+1:Nat):Int),0⟩::G.2).length=(s.code++R.2++[(⟨10,0,0⟩:XIns)]++G.2).length:=by simp
 have e9:(((s.code++R.2)++⟨10,((s.code.length+R.2.length+1+G.2.length+1:Nat):Int),0⟩::(G.2++[(⟨9,0,0⟩:XIns)]))++W.2).length=s.code.length+R.2.length+1+G.2.length+1+W.2.length:=by grind
 refine Oh (x:=⟨9,0,0⟩) d4 c5' (by grind [JY]) (by grind) fun t9 h9=>?_;refine hQ tf7 t9 r7 (k1.trans (m1.trans (n1.trans (c1.trans d1)))) (by rw[hb7,n2,m2,k2]) (by rw[d3,c3,n3,m3,k3]) ?_;have h9:TS xB tf7 t9 r7 ⟨W.1.names,W.1.consts,s.ws,s.ts,(((s.code++R.2)++⟨10,((s.code.length+R.2.length+1+G.2.length+1:Nat):Int),0⟩::(G.2++[(⟨9,0,0⟩:XIns)]))++W.2).set (s.code++R.2++[(⟨10,0,0⟩:XIns)]++G.2).length ⟨9,((((s.code++R.2)++⟨10,((s.code.length+R.2.length+1+G.2.length+1:Nat):Int),0⟩::(G.2++[(⟨9,0,0⟩:XIns)]))++W.2).length:Nat),0⟩⟩:=h9
 rw[e9,ecode2,Gp e8]at h9;grind [oF.put,eM]
theorem zbe{op:Nat}{name:List Nat}{v:yB}{args:List vA}{a b c:zA}{Q:xC}(ih:∀x∈args,mX x)(hfit:∀x∈args,x.fit)(hlen:args.length<sE):∀(l:List vA) (i:Nat) (t tf:Tr qA) (r:TR) (s:oF),args.drop i=l->kM tf->sA tf 9 (args.map vA.d) c->TS xB tf t r s->s.code.length+4*tM l<300000->s.names.length+tM l<300000->s.consts.length+tM l<300000 →
  (∀tf' t' r',iA tf tf'->r'.b=r.b->r'.kp=r.kp->TS xB tf' t' r' (s.put (pD (zE xB yC l) s.nt s.code.length).1 (pD (zE xB yC l) s.nt s.code.length).2)->Wc yA F 88 [.ptr r.b 0,.agg (oC (.mk op name v args) a b c)] t' fun _ t''=>Q (.tup []) t'') →
  jp 48 4 [.ptr r.b 0,c,.int .i64 (args.length:Int),.int .i64 (i:Int),.int .u8 (op:Int),.str name,.int .u8 (v.kind:Int),.bool v.f.n.neg,a,.bool v.f.d.neg,b,.int .i64 v.i,c] t Q:=by
 unfold sE at hlen;intro l;induction l with
 | nil=>
  intro i t tf r s hl hg hc h _ _ _ hQ;have:=Mn hl;refine j48_4 ?_;simp only[uG,fB,kB,uZ,uY,pH,cD,zhc,tA,aB];rw[yaa (by omega),q88];refine hQ tf t r (iA.refl _) rfl rfl ?_
  simp_all [pD,zE,oF.put,oF.nt]
 | cons x l ihl=>
  intro i t tf r s hl hg hc h b1 b2 b3 hQ;obtain⟨h1,h2,h3⟩:=Mo hl;have hx:=ycv h1;obtain⟨p,o,x1,x2,x3,g1,g2,g3,g4,g5,g6,g7⟩:=Hz hc h.os.tle h1;refine j48_4 ?_;simp only[uG,fB,kB,uZ,uY,pH,cD,zhc,tA,aB];rw[yab (by omega),g1,xA,g2,xA,g4,xA];simp only[oC,cellsOf,mG,gH,tG,zG,yaz,yba];refine sB (FT g5.one g6.one g7.one) ?_;unfold tM at b1 b2 b3;have sx:=zT (key:=xB) (valid:=yC) x s.nt s.code.length
  rw[q48];refine ih x hx _ t tf r s _ (hfit x hx) hg g3 h (by omega) (by omega) (by omega) fun tf1 t1 r1 k1 k2 k3 k4=>?_;rw[wrap_i64 (by omega) (by omega),show(i:Int)+1=((i+1:Nat):Int) by omega,<- k2];have sx1:(vC xB yC x s.nt s.code.length).1.names.length<=s.names.length+dE x:=sx.2.1;have sx2:(vC xB yC x s.nt s.code.length).1.consts.length<=s.consts.length+dE x:=sx.2.2;have sx3:=sx.1
  refine ihl (i+1) t1 tf1 r1 _ h2 (hg.mono k1) (hc.mono k1) k4 (by show(s.code++_).length+_<_;grind) (by show(vC xB yC x s.nt s.code.length).1.names.length+_<_;omega) (by show(vC xB yC x s.nt s.code.length).1.consts.length+_<_;omega) fun tf2 t2 r2 m1 m2 m3 m4=>?_;rw[k2];refine hQ tf2 t2 r2 (k1.trans m1) (m2.trans k2) (m3.trans k3) ?_
  simp_all [pD,zE,oF.put,oF.nt]
theorem zi0{op:Nat}{name:List Nat}{v:yB}{args:List vA}(ih:∀x∈args,mX x):mX (.mk op name v args):=by
 intro cs t tf r s Q hfit hg hrd h b1 b2 b3 hQ;obtain⟨a,b,c,rfl,ha,hb,hc⟩:=iK hrd;simp only[vA.op,vA.name,vA.v,vA.args]at ha hb hc;have hfit':=hfit;unfold vA.fit at hfit';obtain⟨f1,f2,_,f3,f4,f5⟩:=hfit';have ffit:=vA.fits_mem f5;have hform:=zal hfit (hg.mono h.os.tle) (ha.mono h.os.tle) (hb.mono h.os.tle) (hc.mono h.os.tle);unfold dE at b1 b2 b3;have etr:vC xB yC (.mk op name v args) s.nt s.code.length=lH xB yC op name v (zE xB yC args) s.nt s.code.length:=by rw[vC]
 rw[etr]at hQ;unfold lH at hQ;rw[Jw]at hQ;refine w48 ?_;have hform':iB yA F 85 [.agg [.int .u8 (op:Int),.str name,.int .u8 (v.kind:Int),.bool v.f.n.neg,a,.bool v.f.d.neg,b,.int .i64 v.i,c]] t=some (.bool (gI yC op v args.length)):=hform;have pos:∀ {k:Nat} {x y:T} {Q:xC},op=k->wp 48 x t Q->wp 48 (.ite (cA (op:Int) (k:Int)) x y) t Q:=fun h hx=>sB (qE.2 (by omega)) hx;have neg:∀ {k:Nat} {x y:T} {Q:xC},op≠k->wp 48 y t Q->wp 48 (.ite (cA (op:Int) (k:Int)) x y) t Q:=fun h hy=>sD (fun e=>absurd (qE.1 e) (by omega)) hy
 unfold t48 uI uB uG uZ uY cD;simp only[vA.op,vA.name,vA.v,vA.args];show Wq yA F iG 85 _ t _;rw[q85,hform',xA];show nE (zA.asBool (.bool (gI yC op v args.length))) _;rw[lE,xA]
 cases hf:gI yC op v args.length with
 | false=>
  rw[yab hf]at hQ;refine sB rfl ?_;show Wq yA F iG 86 _ t _;rw[q86];exact Bo (i:=⟨13,0,0⟩) h (by omega) fun tf' t' r' v' k1 k2 k3 k4 _=>hQ tf' t' r' k1 k2 k3 k4
 | true=>
  rw[yaa (by grind)]at hQ;refine sD (by simp) ?_;have hn:=hf;unfold gI at hn;simp only[ybb,decide_eq_true_eq]at hn;by_cases c15:op=15
  ·refine pos c15 ?_;rw[yab c15]at hQ;subst c15;have h2:args.length=2:=by grind [gF]
   match args,h2 with
   | [x,y],_=>
    simp only[tM]at b1 b2 b3;refine sB rfl ?_;show Wq yA F iG 87 _ t _;rw[q87];exact MI (skip:=10) (truth:=0) (op:=15) (name:=name) (v:=v) (ih x (by simp)) (ih y (by simp)) rfl rfl (ffit x (by simp)) (ffit y (by simp)) hg hc h ⟨by decide,by decide⟩ (by omega) (by omega) (by omega) hQ
  ·refine neg c15 ?_;rw[yaa c15]at hQ;by_cases c16:op=16
   ·refine pos c16 ?_;rw[yab c16]at hQ;subst c16;have h2:args.length=2:=by grind [gF]
    match args,h2 with
    | [x,y],_=>
     simp only[tM]at b1 b2 b3;refine sB rfl ?_;show Wq yA F iG 87 _ t _;rw[q87];exact MI (skip:=11) (truth:=1) (op:=16) (name:=name) (v:=v) (ih x (by simp)) (ih y (by simp)) rfl rfl (ffit x (by simp)) (ffit y (by simp)) hg hc h ⟨by decide,by decide⟩ (by omega) (by omega) (by omega) hQ
   ·refine neg c16 ?_;rw[yaa c16]at hQ;by_cases c18:op=18
    ·refine pos c18 ?_;rw[yab c18]at hQ;subst c18;have h2:args.length=3:=by grind [gF]
     match args,h2 with
     | [x,y,z],_=>
      simp only[tM]at b1 b2 b3;exact if_ok (ih x (by simp)) (ih y (by simp)) (ih z (by simp)) rfl (ffit x (by simp)) (ffit y (by simp)) (ffit z (by simp)) hg hc h (by omega) (by omega) (by omega) hQ
    ·refine neg c18 ?_;rw[yaa c18]at hQ;have hl:tB c=some (.int .i64 (args.length:Int)):=by rw[hc.len,ybf]
     show nE (tB c) _;rw[hl,xA];show nE (Ax .i64 (.int .i64 (args.length:Int))) _;rw[zB,xA];refine zbe (op:=op) (name:=name) (v:=v) (a:=a) (b:=b) ih ffit f4 args 0 t tf r s (ycr) hg hc h (by omega) (by omega) (by omega) fun tf1 t1 r1 k1 k2 k3 k4=>?_;have sq:=Vj (key:=xB) (valid:=yC) args (fun x _=>zT x) s.nt s.code.length;have sq1:(pD (zE xB yC args) s.nt s.code.length).1.names.length<=s.names.length+tM args:=sq.2.1
     have sq2:(pD (zE xB yC args) s.nt s.code.length).1.consts.length<=s.consts.length+tM args:=sq.2.2;rw[<- k2];refine UK (x:=.mk op name v args) k4 hfit (fun e=>?_) (by show(pD (zE xB yC args) s.nt s.code.length).1.names.length<_;omega) (by show(pD (zE xB yC args) s.nt s.code.length).1.consts.length<_;omega) (by show(s.code++_).length<_;grind) (ha.mono k1) (hb.mono k1) (hc.mono k1) fun tf2 t2 r2 m1 m2 m3 m4=>?_
     ·have e:op=1:=e;have:=hn.1.1;rw[e]at this;simp at this;exact AL this
     ·refine hQ tf2 t2 r2 (k1.trans m1) (m2.trans k2) (m3.trans k3) ?_;have e:s.put (wE xB op name v args.length (pD (zE xB yC args) s.nt s.code.length).1).1 ((pD (zE xB yC args) s.nt s.code.length).2++[(wE xB op name v args.length (pD (zE xB yC args) s.nt s.code.length).1).2]) =
        (s.put (pD (zE xB yC args) s.nt s.code.length).1 (pD (zE xB yC args) s.nt s.code.length).2).put (wE xB op name v args.length (s.put (pD (zE xB yC args) s.nt s.code.length).1 (pD (zE xB yC args) s.nt s.code.length).2).nt).1 [(wE xB op name v args.length (s.put (pD (zE xB yC args) s.nt s.code.length).1 (pD (zE xB yC args) s.nt s.code.length).2).nt).2]:=by
       simp[oF.put,oF.nt]
      show TS xB tf2 t2 r2 (s.put _ _);rw[e];exact m4
mutual
def LD:∀x:vA,mX x
 | .mk _ _ _ args=>zi0 (LA args)
def LA:∀l:List vA,∀x∈l,mX x
 | [],x,h=>by cases h
 | y::l,x,h=>by
  rcases ybs.1 h with e | h
  ·rw[e];exact LD y
  ·exact LA l x h
end
end Go.Proofs
