/- CompileBack. -/
import Derived.Carry
import Derived.ChangeArms
import Derived.HandedShaped
import Derived.JoinedOf
import Derived.LaidMore
import Derived.OpenShut
import Derived.ProofKit
import Derived.Stop.Joined
import Derived.Test.YthibiocejpbmgaaGreatDoorRows
import GoSem.ClaimJoined
import Derived.Test.YthibiocejpbmgaaGreatDoorA19
set_option linter.all false
noncomputable section
set_option maxRecDepth 100000
namespace Go.Proofs
open Go Go.Am
variable {base i k sz:Nat}{l:List D}{v:zA}{L:List xD}{cs:List zA}
variable [tC]
variable {t tf:Tr qA}
theorem KK{sz:Nat}:∀ {cl:List (List zA)},(∀(i:Nat) cs,cl[i]?=some cs->cs.length=sz)->∀ {j:Nat} {a:zA},cl.flatten[j]?=some a->∃i cs j',cl[i]?=some cs/\cs[j']?=some a/\j=i*sz+j'
 | [],_,j,a,h=>by simp at h
 | c::cl,hl,j,a,h=>by
  have hc:=hl 0 c rfl;rw[yas]at h;by_cases hj:j<c.length
  ·rw[yco hj]at h;exact⟨0,c,j,rfl,h,by omega⟩
  ·rw[ybp (by omega)]at h;obtain⟨i,cs,j',h1,h2,h3⟩:=KK (fun i cs h=>hl (i+1) cs h) h;refine⟨i+1,cs,j',h1,h2,?_⟩
   grind
theorem zcz   (hl:l≠[])(h:Loose base tf t sz l v):(oS base sz l v).ok tf t:=by
 rcases h with⟨_,rfl⟩ | ⟨b,cl,c,rfl,h1,h2,h3,h4,h5⟩
 ·simp_all
 ·have hlen:=h5.length;have hall:∀(i:Nat) cs,cl[i]?=some cs->cs.length=sz:=fun i cs hi=>(h4 i cs hi).1;refine FY hl ⟨h1,h2,cl,⟨c,?_,fun j a hj=>?_⟩,hall,h5⟩
  ·rw[h3,pV hall,hlen]
  ·obtain⟨i,cs,j',g1,g2,rfl⟩:=KK hall hj
   simp_all
def Objs.toS {A B:List xD}  (hl:l≠[])(h:Objs base tf t (A++bB base sz l v::B)):Objs base tf t (A++oS base sz l v::B):=by
 have ho:Loose base tf t sz l v:=h.ok (bB base sz l v) (by simp);have e:(oS base sz l v).blks=pF v:=yaa hl;refine Objs.upd (o:=bB base sz l v) h (fun _ _ _=>rfl) (fun k hk=>.inl (by rw[e]at hk;exact hk)) (zcz hl ho) ?_ h.tle;rw[e];unfold pF;split<;>simp
theorem Hf{o:Option zA} {R:zA->Prop}(h:o=some v)(k:R v):nE o R:=by simp_all
def zhv {l:List xD}{t':Tr qA}(h:Objs base tf t l)(hle:iA t t'):Objs base tf t' l:=
 h.keep (iA.refl _) (h.tle.trans hle) fun k hk=>⟨by obtain⟨y,hy⟩:=h.live hk;rw[hy,hle _ _ hy],(h.low k hk).2⟩
theorem zap(x:vA):∃s n,Mi x=.tup [.str s,.int .i64 n]/\(n=0->uK x 1=true):=by
 unfold Mi;split
 ·rename_i h;split
  all_goals simp_all
 grind
theorem Tf:vA.cpy kI:=by
 grind [kI,vA.cpy,vA.cpys]
def NR{p:rG}(h:rG.cpy p):rG.cpy (Fg p):=
 ⟨h.defs,h.tables,by show(p.clauses.map fI).length<_;rw[ybf];exact h.clauses,h.rows,fun x hx=>by
  obtain⟨c,_,rfl⟩:=yaq.1 (show x∈p.clauses.map fI from hx);exact⟨Tf,Tf⟩⟩
section
variable {p:rG}{ca cb cc a b c vn vc vw vt a2 b2 c2:zA}
structure Fo (p:rG) (tf:Tr qA) (ca cb cc a b c vn vc vw vt a2 b2:zA):Prop where
 fit:p.fit
 bound:fS p=true
 cpy:rG.cpy p
 m:wN tf
 w:dS tf
 g:kM tf
 z:∃c n,tf.get 0=some (.cells c n none)
 cl:sA tf 24 (p.clauses.map fC.d) cc
 ga:sA tf 3 (p.defs.map eI.d) a
 gb:sA tf 3 (p.tables.map oE.d) b
 gc:sA tf 24 ((p.clauses.map fI).map fC.d) c
 n:sA tf 1 ((yF p).1.names.map D.str) vn
 k:sA tf 6 ((yF p).1.consts.map yB.d) vc
 vw:sA tf 1 ((yF p).2.map fun q=>kF q.1) vw
 vt:sA tf 1 ((yF p).2.map fun q=>kF q.2) vt
 ha:sA tf 3 (p.defs.map eI.d) a2
 hb:sA tf 3 (p.tables.map oE.d) b2
theorem Fo.mono{tf':Tr qA}(h:Fo p tf ca cb cc a b c vn vc vw vt a2 b2)(k:iA tf tf'):Fo p tf' ca cb cc a b c vn vc vw vt a2 b2:=
 ⟨h.fit,h.bound,h.cpy,h.m.mono k,h.w.mono k,h.g.mono k,by obtain⟨c,n,e⟩:=h.z;exact⟨c,n,k _ _ e⟩,h.cl.mono k,h.ga.mono k,h.gb.mono k,h.gc.mono k,h.n.mono k,h.k.mono k,h.vw.mono k,h.vt.mono k,h.ha.mono k,h.hb.mono k⟩
theorem NT {n:Nat}{x:vA} {code:List XIns}{v1:zA}(h:Fo p tf ca cb cc a b c vn vc vw vt a2 b2)(ho:Objs yA.base tf t (wD n none cs::L))(hx:x.fit)(hxc:vA.cpy x)(hr:RD tf x.d cs)
  (hv:sA tf 3 (code.map XIns.d) v1) (hl:code.length<=1000) (hback:uK x 1=true->Er (yF p).1.names (yF p).1.consts code=some x) (hk:k<2)
  (hQ:∀tf' t',iA tf tf'->Objs yA.base tf' t' L->jp 3 6 [.int .i64 (i:Int),.int .i64 ((k+1:Nat):Int),.str p.name,ca,cb,cc,.str p.name,a,b,c,vn,vc,vw,vt,.str p.name,a2,b2,c2] t' (fun v _=>v=.bool true)) :
  jp 3 43 [.int .i64 (i:Int),.int .i64 (k:Int),.ptr n 0,v1,.str p.name,ca,cb,cc,.str p.name,a,b,c,vn,vc,vw,vt,.str p.name,a2,b2,c2] t (fun v _=>v=.bool true):=by
 have hk1:=za5 h.fit;have hP:=prg_of h.ga h.gb h.gc h.n h.k h.vw h.vt;refine j3_43 ?_;unfold t3_43 uI uS uB uG fB bA uX;refine uD ?_;rw[q9];have bD:∀ {tf' t':Tr qA} {y:vA} {ds:List zA} {e:Int},iA tf tf'->Objs yA.base tf' t' (wD n none cs::L)->RD tf' y.d ds->(uK x 1=true->y=x/\e=0)->(e=0\/e=190/\y=kI) →
   wp 3 (.opt (gE 0 (.tup [.agg ds,.int .i64 e])) fun a'=>.asG qH a' fun X2=>.opt (gE 1 (.tup [.agg ds,.int .i64 e])) fun a'=>.asI .i64 a' fun n4=>.ite (zD zA.one (pH X2)) (.light (fun m=>mA yA 48 ⟨0,m⟩ (.ptr n 0)) fun a'=>.asG qH a' fun X=>.call 10 [cD X] fun a'=>.opt (gE 0 a') fun a''=>.asS a'' fun s=>.opt (gE 1 a') fun a''=>.asI .i64 a'' fun n'=>.ite (cA n' 0) (.ite (!cA n4 0) (.ret (.bool false)) (.light (fun m=>mA yA 48 ⟨0,m⟩ (.ptr n 0)) fun a'=>.asG qH a' fun X=>.call 11 [cD X,cD X2] fun a'=>.asB a' fun b'=>.ite (!b') (.ret (.bool false)) (Fy n4 X2 i k p.name ca cb cc p.name a b c vn vc vw vt p.name a2 b2 c2))) (Fy n4 X2 i k p.name ca cb cc p.name a b c vn vc vw vt p.name a2 b2 c2)) .fail) t' (fun v _=>v=.bool true):=by
  intro tf' t' y ds e k1 k2 k3 k4 k5;have h':=h.mono k1;have hc:=k2.ok (wD n none cs) (by simp);have hr':=hr.mono k1;have rx:=hr'.mono k2.tle;have ry:=k3.mono k2.tle;have load:∀ {s:Tr qA},iA t' s->mA yA 48 ⟨0,s⟩ (.ptr n 0)=some (.agg cs):=fun {s} hs=>by
   obtain⟨u1,u2,u3,e3,_⟩:=iK rx;have hcs:kC s n none cs:=kC.up hc hs;have:=hcs.at.load (C:=yA) (j:=0) (n:=9) jO rfl rfl (by simp_all)
   simp_all
  have m2:pH (cellsOf ds)=ds:=k3.mk (vA.zs y);have A2:cD (cellsOf ds)=.agg ds:=congrArg zA.agg m2;have m1:pH (cellsOf cs)=cs:=hr.mk (vA.zs x);have A1:cD (cellsOf cs)=.agg cs:=congrArg zA.agg m1;have nxt:∀ {s:Tr qA},iA t' s->wp 3 (Fy e (cellsOf ds) i k p.name ca cb cc p.name a b c vn vc vw vt p.name a2 b2 c2) s (fun v _=>v=.bool true):=fun {s} hs=>by
   have goN:wp 3 (.jump 6 [.int .i64 (i:Int),.int .i64 (dA .i64 ((k:Int)+1)),.str p.name,ca,cb,cc,.str p.name,a,b,c,vn,vc,vw,vt,.str p.name,a2,b2,c2]) s (fun v _=>v=.bool true):=by
    rw[wrap_i64 (by omega) (by omega),show(k:Int)+1=((k+1:Nat):Int) by omega];exact sJ (hQ tf' s k1 (Objs.drop (A:=[]) (zhv k2 hs)))
   unfold Fy uB bA kB uZ uY;rcases k5 with rfl | ⟨rfl,rfl⟩
   ·grind [bC,qE]
   ·refine iC (by rfl) (bC (by simp[qE]) (iC rfl (uD ?_)));rw[A2,q11];exact Hf (Kp kI Tf _ _ (ry.mono hs) sS) (mI (bC (by simp) goN))
  refine lB rfl (gM (tI k3 (vA.zs y)) (lB rfl (xE (iC (by rw[m2];exact k3.all) (mF (load (iA.refl _)) (gM (tI hr (vA.zs x)) (uD ?_)))))));rw[A1,q10];refine zdw hx (h'.m.mono k2.tle) (h'.w.mono k2.tle) rx fun t2 hl2=>?_;obtain⟨s,n',e2,hn'⟩:=zap x;rw[e2];refine lB rfl (wM (lB rfl (xE ?_)));by_cases h0:n'=0
  ·obtain⟨rfl,rfl⟩:=k4 (hn' h0);refine iC (tP h0) (bC (by simp[qE]) (mF (load hl2) (gM (tI hr (vA.zs y)) (uD ?_))));rw[A1,A2,q11];exact Hf (Kp y hxc _ _ (rx.mono hl2) (ry.mono hl2)) (mI (bC (by simp) (nxt hl2)))
  grind [bC,yL]
 refine zaq (L:=wD n none cs::L) ho hP.n hP.k hv (by omega) hk1.1 hk1.2 h.g h.z hP.a hP.b hP.c hP.w.one hP.t.one ⟨fun y tf' t' ds e k1 k2 k3=>?_,fun e tf' t' k1 k2=>?_⟩
 ·grind
 ·exact bD k1 k2 sS (fun hp=>by simp_all) (.inr ⟨rfl,rfl⟩)
theorem zeh  {x:fC}(hi:p.clauses[i]?=some x) :
  ∀(m k:Nat) (t tf:Tr qA),k+m=2->Fo p tf ca cb cc a b c vn vc vw vt a2 b2->Objs yA.base tf t L →
  (∀tf' t',iA tf tf'->Objs yA.base tf' t' L->jp 3 2 [.int .i64 ((i+1:Nat):Int),.str p.name,ca,cb,cc,.str p.name,a,b,c,vn,vc,vw,vt,.str p.name,a2,b2,c2] t' (fun v _=>v=.bool true)) →
  jp 3 6 [.int .i64 (i:Int),.int .i64 (k:Int),.str p.name,ca,cb,cc,.str p.name,a,b,c,vn,vc,vw,vt,.str p.name,a2,b2,c2] t (fun v _=>v=.bool true):=by
 intro m;induction m with
 | zero=>
  intro k t tf hk h ho hQ;have hlt:=(ybc.1 hi).1;have hcl:=h.cpy.clauses;refine j3_6 ?_;unfold t3_6 kB uZ;grind [bC,rM,sJ,wrap_i64,iA.refl]
 | succ m ih=>
  intro k t tf hk h ho hQ;have hlt:=(ybc.1 hi).1;have hxm:=ycv hi;have hxf:=h.fit.clauses _ hxm;have hxc:=h.cpy.exprs _ hxm;obtain⟨q,hq,l1,l2,bw,bt⟩:=YJ h.fit h.bound hi;obtain⟨bb,off,cs,f1,f2,f3,_,f5⟩:=eD.at Ae (by simp) h.cl (i:=i) (d:=x.d) (by simp[hi]);obtain⟨u1,u2,u3,w1,w2,w3,rfl,hw,ht⟩:=vY f5;have one6:qB yA 50 6 (.ptr bb off)=some (.ptr bb (off+6)):=by kernel_rfl
  have one7:qB yA 50 7 (.ptr bb off)=some (.ptr bb (off+15)):=by kernel_rfl
  have ld6:∀ {s:Tr qA},iA tf s->mA yA 48 ⟨0,s⟩ (.ptr bb (off+6))=some (.agg (oC x.when_ u1 u2 u3)):=fun {s} hs=>by
   have:=(At.mono hs f3).load (C:=yA) (j:=6) (n:=9) jO rfl rfl (by omega);rw[this];rfl
  have ld7:∀ {s:Tr qA},iA tf s->mA yA 48 ⟨0,s⟩ (.ptr bb (off+15))=some (.agg (oC x.then_ w1 w2 w3)):=fun {s} hs=>by
   have:=(At.mono hs f3).load (C:=yA) (j:=15) (n:=9) jO rfl rfl (by omega);rw[this];rfl
  have hvw:sA tf 1 (((yF p).2.map Prod.fst).map kF) vw:=by rw[List.map_map];exact h.vw
  have hvt:sA tf 1 (((yF p).2.map Prod.snd).map kF) vt:=by rw[List.map_map];exact h.vt
  obtain⟨p1,o1,v1,y1,y2,y3,_⟩:=ML (t:=tf) hvw (iA.refl _) (i:=i) (x:=q.1) (by simp_all);obtain⟨p2,o2,v2,y5,y6,y7,_⟩:=ML (t:=tf) hvt (iA.refl _) (i:=i) (x:=q.2) (by simp_all);have ylw:∀ {s:Tr qA},iA tf s->mA yA 51 ⟨0,s⟩ (.ptr p1 o1)=some v1:=fun {s} hs=>tQ (H:=⟨0,tf⟩) (HA:=⟨0,s⟩) hs y2;have ylt:∀ {s:Tr qA},iA tf s->mA yA 51 ⟨0,s⟩ (.ptr p2 o2)=some v2:=fun {s} hs=>tQ (H:=⟨0,tf⟩) (HA:=⟨0,s⟩) hs y6
  have mw:pH (cellsOf (oC x.when_ u1 u2 u3))=oC x.when_ u1 u2 u3:=hw.mk (vA.zs x.when_);have Aw:cD (cellsOf (oC x.when_ u1 u2 u3))=.agg (oC x.when_ u1 u2 u3):=congrArg zA.agg mw;have mt:pH (cellsOf (oC x.then_ w1 w2 w3))=oC x.then_ w1 w2 w3:=ht.mk (vA.zs x.then_);have At':cD (cellsOf (oC x.then_ w1 w2 w3))=.agg (oC x.then_ w1 w2 w3):=congrArg zA.agg mt;refine j3_6 ?_
  unfold t3_6 uG uZ;refine iC (jM (by omega)) (lB f1 (lB one6 (mF (ld6 ho.tle) (gM (tI hw (vA.zs _)) (lB y1 (mF (ylw ho.tle) (oQ fun n hn hnb=>?_)))))));obtain⟨t1,e1,e2,e3,e4⟩:=sX (C:=yA) jO hn;have oA:Objs yA.base tf t1 ([]++wD n none zH::L):=
   Objs.add (A:=[]) (o':=wD n none zH) ho (fun k hk=>e4 k (fun e=>hk (by simp[wD,e]))) (fun k hk=>by
    grind [wD]) e2 (by simp[wD]) (ho.tle.trans e3)
  have put:∀ {s:Tr qA} {old:List zA} {z:vA} {z1 z2 z3:zA},old.length=9->RD tf z.d (oC z z1 z2 z3)->Objs yA.base tf s (wD n none old::L)->∃s',(∀m,cC yA 48 (.ptr n 0) (.agg (oC z z1 z2 z3)) ⟨m,s⟩=some (kD,⟨m,s'⟩))/\Objs yA.base tf s' (wD n none (oC z z1 z2 z3)::L):=by
   intro s old z z1 z2 z3 hold hz os;have hcel:kC s n none old:=os.ok (wD n none old) (by simp);obtain⟨s',s1,s2,s3⟩:=hcel.store (C:=yA) hnb (j:=0) (v:=.agg (oC z z1 z2 z3)) jO rfl (by rw[hold];show 0+9<=9;decide) hz.all;have e:gK old 0 (zA.agg (oC z z1 z2 z3)).cells=oC z z1 z2 z3:=by
    match old,hold with
    | [_,_,_,_,_,_,_,_,_],_=>rfl
   rw[e]at s2;exact⟨s',s1,Objs.upd (A:=[]) (o:=wD n none old) (o':=wD n none (oC z z1 z2 z3)) os (fun k h1 _=>s3 k (fun e=>h1 (by simp[wD,e]))) (fun k hk=>.inl hk) s2 (by simp[wD]) (os.tle.off (os.low n (by simp[wD])).2 s3)⟩
  obtain⟨t2,s1,s2⟩:=put (old:=zH) rfl hw oA;have k2:k<2:=by omega
  have hcs:=(h.cl.mono oA.tle).same (d:=10);refine⟨_,_,e1,iC hcs (mF (ld6 oA.tle) (iC (by rw[Aw];exact hw.sameA) (iC hvw.same (mF (ylw oA.tle) (iC y3.same (oQ fun mm _ _=>⟨_,_,by rw[Aw];exact s1 mm,iC hvw.same (mF (ylw s2.tle) (iC y3.same ?_))⟩))))))⟩;by_cases hk1:k=1
  ·subst hk1;obtain⟨t3,r1,r2⟩:=put (old:=oC x.when_ u1 u2 u3) rfl ht s2;refine iC (tP rfl) (lB f1 (lB one7 (mF (ld7 s2.tle) (gM (tI ht (vA.zs _)) (lB y5 (mF (ylt s2.tle) (oQ fun mm _ _=>⟨_,_,by rw[At'];exact r1 mm,iC hvt.same (mF (ylt r2.tle) (iC y7.same (sJ ?_)))⟩)))))));exact NT (k:=1) h r2 hxf.2.2.2.2.2.2 hxc.2 ht y7 l2 bt k2 fun tf' t' z1 z2=>ih 2 t' tf' (by omega) (h.mono z1) z2 fun tf2 t2' z3 z4=>hQ tf2 t2' (z1.trans z3) z4
  ·refine bC (yL (by omega)) (sJ ?_);exact NT (k:=k) h s2 hxf.2.2.2.2.2.1 hxc.1 hw y3 l1 bw k2 fun tf' t' z1 z2=>ih (k+1) t' tf' (by omega) (h.mono z1) z2 fun tf2 t2' z3 z4=>hQ tf2 t2' (z1.trans z3) z4
theorem zei:∀(m i:Nat) (t tf:Tr qA),i+m=p.clauses.length->Fo p tf ca cb cc a b c vn vc vw vt a2 b2->Objs yA.base tf t [oS yA.base 24 (((p.clauses.take i).map fI++p.clauses.drop i).map fC.d) c2] →
  jp 3 2 [.int .i64 (i:Int),.str p.name,ca,cb,cc,.str p.name,a,b,c,vn,vc,vw,vt,.str p.name,a2,b2,c2] t (fun v _=>v=.bool true):=by
 intro m;induction m with
 | zero=>
  intro i t tf hi h ho;have hsl:sA t 24 _ c2:=qY (A:=[]) ho;rw[yca (by omega),ybt (by omega),ycd]at hsl;have hlen:=(h.cl.mono ho.tle).len;rw[ybf]at hlen;refine j3_2 ?_;unfold t3_2 uI uB uZ uY;refine lB hlen (xE (bC (rM (by omega)) (uD ?_)));rw[q12];refine Hf (sam47 (p:=Fg p) (NR h.cpy) (Lk (p:=Fg p) (h.ga.mono ho.tle) (h.gb.mono ho.tle) (h.gc.mono ho.tle)) (Lk (p:=Fg p) (h.ha.mono ho.tle) (h.hb.mono ho.tle) hsl)) (mI rfl)
 | succ m ih=>
  intro i t tf hi h ho;have hcl:=h.cpy.clauses;have hlt:i<p.clauses.length:=by omega
  have hx:p.clauses[i]?=some p.clauses[i]:=ybd hlt;have hlen0:((p.clauses.take i).map fI).length=i:=by grind
  have hget:((((p.clauses.take i).map fI)++p.clauses.drop i).map fC.d)[i]?=some p.clauses[i].d:=by
   grind
  have hsl:sA t 24 _ c2:=qY (A:=[]) ho;have hlen:=(h.cl.mono ho.tle).len;rw[ybf]at hlen;obtain⟨q,g1,t1,g2,g3⟩:=Objs.storeS (A:=[]) (w:=.agg zH) (o:=6) (S:=48) ho hget Ae (d':=(⟨p.clauses[i].name,p.clauses[i].label,p.clauses[i].from_,p.clauses[i].to,p.clauses[i].known,p.clauses[i].off,kI,p.clauses[i].then_⟩:fC).d) jO rfl (by show 6+9<=24;decide) rfl (fun cs hc hrd=>by
   obtain⟨u1,u2,u3,w1,w2,w3,rfl,h1,h2⟩:=vY hrd;exact Lm (x:=⟨p.clauses[i].name,p.clauses[i].label,p.clauses[i].from_,p.clauses[i].to,p.clauses[i].known,p.clauses[i].off,kI,p.clauses[i].then_⟩) sS h2)
  have fa:qB yA 50 6 (.ptr q (0+i*24))=some (.ptr q (0+i*24+6)):=by
   unfold qB aS;rw[Co,uA];rfl
  have hget2:(((((p.clauses.take i).map fI)++p.clauses.drop i).map fC.d).set i (⟨p.clauses[i].name,p.clauses[i].label,p.clauses[i].from_,p.clauses[i].to,p.clauses[i].known,p.clauses[i].off,kI,p.clauses[i].then_⟩:fC).d)[i]?=some (⟨p.clauses[i].name,p.clauses[i].label,p.clauses[i].from_,p.clauses[i].to,p.clauses[i].known,p.clauses[i].off,kI,p.clauses[i].then_⟩:fC).d:=by
   rw[ycw,yab rfl,yab (by grind)]
  obtain⟨q2,f1,t2,f2,f3⟩:=Objs.storeS (A:=[]) (w:=.agg zH) (o:=15) (S:=48) g3 hget2 Ae (d':=(fI p.clauses[i]).d) jO rfl (by show 15+9<=24;decide) rfl (fun cs hc hrd=>by
   obtain⟨u1,u2,u3,w1,w2,w3,rfl,h1,h2⟩:=vY hrd;exact Lm (x:=fI p.clauses[i]) h1 sS)
  rw[List.set_set]at f3;have fb:qB yA 50 7 (.ptr q2 (0+i*24))=some (.ptr q2 (0+i*24+15)):=by
   unfold qB aS;rw[Co,uA];rfl
  have hset:((((p.clauses.take i).map fI)++p.clauses.drop i).map fC.d).set i (fI p.clauses[i]).d=(((p.clauses.take (i+1)).map fI)++p.clauses.drop (i+1)).map fC.d:=by
   grind [List.drop_eq_getElem_cons,Gp]
  rw[hset]at f3;refine j3_2 ?_;unfold t3_2 uI uB uZ uY;refine lB hlen (xE (iC (jM (by omega)) (iC rfl (iC rfl (lB g1 (lB fa (oQ fun mm _ _=>⟨_,_,g2 mm,iC hsl.same (lB f1 (lB fb (oQ fun mm2 _ _=>⟨_,_,f2 mm2,sJ ?_⟩)))⟩)))))));exact zeh hx 2 0 t2 tf (by omega) h f3 fun tf' t' z1 z2=>ih (i+1) t' tf' (by omega) (h.mono z1) z2
end
def zjs:iB yA F 4 [] t=some (.bool true):=Dj (g:=Pv) (by kernel_rfl) fun _=>rfl
def ZY{p:rG} (hp:p.fit)(hM:wN t)(hW:dS t)(hg:kM t)(hz0:∃c n,t.get 0=some (.cells c n none))(hrd:RD t p.d cs):Wc yA F 3 [.agg cs] t (fun v _=>v=.bool true):=by
 have hs:=zb8 hp hrd;obtain⟨ca,cb,cc,rfl,ha,hbb,hc⟩:=Aj hrd;have hlc:tB cc=some (.int .i64 (p.clauses.length:Int)):=by rw[hc.len,ybf]
 refine w3 ?_;unfold t3 uB uI uG fB bA tF uX uZ;refine uD ?_;rw[q4,zjs,xA];refine mI (bC (by simp) (uD ?_));rw[q5];refine Hf hs (xE ?_);by_cases h2:(2000:Int)<Oz p
 ·exact iC (jM h2) rfl
 obtain⟨hcp,hcl⟩:=zcr hp (by omega);refine bC (rM h2) (uD ?_);rw[q6];have hzP:gG [(.str []),.nilslice,.nilslice,.nilslice,.nilslice,.nilslice,.nilslice,.nilslice] (.agg Ni)=some (cellsOf Ni):=kN rfl;refine YD hp (iA.refl t) hg hrd (fun hbp=>?_) (fun hbp tf2 t2 a b d vn vc vw vt m1 m2 m3 m4 m5 m6 m7 m8 m9=>?_)
 ·refine lB (v:=.agg Ni) rfl (gM hzP (lB (v:=.int .i64 2) rfl (xE (iC rfl (iC rfl (iC rfl (uD ?_)))))));rw[q7];refine Hf (NM hp hrd) (mI ?_);rw[hbp];refine iC rfl (lB (v:=.int .i64 0) rfl (xE (lB (v:=.int .i64 0) rfl (xE (lB (v:=.int .i64 0) rfl (xE (lB (v:=.int .i64 0) rfl (xE ?_))))))));rfl
 obtain⟨e1,e2⟩:=zjw m3 m4 m5 m6 m7 m8 m9 (nm:=p.name);have T2:iA t t2:=m1.trans m2;have lq:(yF p).2.length=p.clauses.length:=MJ _ _;have lw:tB vw=some (.int .i64 (p.clauses.length:Int)):=by rw[m8.len,ybf,lq]
 have lt:tB vt=some (.int .i64 (p.clauses.length:Int)):=by rw[m9.len,ybf,lq]
 have hn:(!cA (p.clauses.length:Int) (p.clauses.length:Int))≠true:=by rw[tP rfl];decide
 refine lB rfl (gM e1 (lB (v:=.int .i64 0) rfl (xE (iC e2 (bC (by decide) (lB lw (xE (lB hlc (xE (bC hn (lB lt (xE (lB hlc (xE (bC hn (uD ?_))))))))))))))));have hrd2:RD tf2 p.d [.str p.name,ca,cb,cc]:=RD.mono m1 _ _ hrd;rw[q8];refine zjd hcp (FX m2) hrd2 fun tf3 t3 a2 b2 c2 n1 n2 n3 n4=>?_;have T3:iA t tf3:=m1.trans n1;have hc2:sA t3 24 (p.clauses.map fC.d) c2:=Loose.read (n2.ok (bB yA.base 24 (p.clauses.map fC.d) c2) (by simp)) n2.tle
 have R:Fo p tf3 ca cb cc a b d vn vc vw vt a2 b2:=⟨hp,hbp,hcp,hM.mono T3,hW.mono T3,hg.mono T3,by obtain⟨c,n,e⟩:=hz0;exact⟨c,n,T3 _ _ e⟩,hc.mono T3,m3.mono n1,m4.mono n1,m5.mono n1,m6.mono n1,m7.mono n1,m8.mono n1,m9.mono n1,n3,n4⟩;have hpl:RD t3 p.d [.str p.name,a2,b2,c2]:=Lk (n3.mono n2.tle) (n4.mono n2.tle) hc2;refine gM (tI hpl (rG.zs p)) (iC hpl.all (sJ ?_));by_cases hne:p.clauses=[]
 ·obtain⟨tf4,z1,z2,z3⟩:=Objs.freezeL (A:=[]) n2;have hl0:=(R.cl.mono n2.tle).len;rw[ybf,hne]at hl0;refine j3_2 ?_;unfold t3_2 uI uB uZ uY;refine lB hl0 (xE (bC (rM (by simp)) (uD ?_)));have e:p.clauses.map fC.d=(p.clauses.map fI).map fC.d:=by rw[hne];rfl
  rw[q12];rw[e]at hc2;exact Hf (sam47 (p:=Fg p) (NR hcp) (Lk (p:=Fg p) (R.ga.mono n2.tle) (R.gb.mono n2.tle) (R.gc.mono n2.tle)) (Lk (p:=Fg p) (R.ha.mono n2.tle) (R.hb.mono n2.tle) hc2)) (mI rfl)
 ·have hS:=Objs.toS (A:=[]) (by simpa using hne) n2;exact zei (c2:=c2) p.clauses.length 0 t3 tf3 (by omega) R (by simpa using hS)
end Go.Proofs
namespace Go.Am
open Go Go.RowKit
def lU{α:Type}(f:Nat->Option α):Nat->Tr α
 | 0=>.leaf
 | n+1=>match f n with
  | some v=>(lU f n).set n v
  | none=>lU f n
theorem zR{α:Type}(f:Nat->Option α):∀(n a:Nat),(lU f n).get a=if a<n then f a else none:=by
 intro n;induction n with
 | zero=>intro a;rw[yaa (by omega)];exact Tr.get_leaf _
 | succ n ih=>
  grind [lU,Tr.get_set]
def xP (N:Nat):Value->Option zA
 | .bool b=>some (.bool b)
 | .int k n=>some (.int k n)
 | .string s=>some (.str (qF s))
 | .slice none 0 0=>some .nilslice
 | .slice (some _) 0 0=>some (.slice 0 0 0 0)
 | .slice (some ⟨b,off,none⟩) len cap=>if b<N then some (.slice (256+b) off len cap)else none
 | _=>none
def absB (N:Nat):Obj->Option qA
 | .cells cs _ _=>some (.cells (lU (fun j=>(cs[j]?).bind (xP N)) cs.size) cs.size none)
 | _=>none
def nI (w:World):Tr qA:=lU (fun a=>if a<256 then(w.heap[a]?).bind (absB w.heap.size)else(w.heap[a-256]?).bind (absB w.heap.size)) (256+w.heap.size)
def muW (w:World):Mu:=⟨fun a=>if a<256 then some ⟨a,true,0,0,true⟩else if a<256+w.heap.size then some ⟨a-256,true,0,0,true⟩else none,fun _=>none⟩
section
variable {w:World}
theorem OP{v:Value}{a:zA}(h:xP w.heap.size v=some a):rA (muW w) a v:=by
 unfold xP at h;split at h
 ·cases h;rw[rA]
 ·cases h;rw[rA]
 ·grind [rA]
 ·cases h;rw[rA]
 ·grind [rA]
 ·split at h
  ·rename_i hb;cases h;rename_i b off len cap _;rw[rA];refine .inl ⟨⟨b,true,0,0,true⟩,cap,?_,rfl,ybk _,fun _=>rfl,fun h=>by cases h⟩;show(if 256+b<256 then some (⟨256+b,true,0,0,true⟩:BI)else if 256+b<256+w.heap.size then some ⟨256+b-256,true,0,0,true⟩else none)=_;rw[yaa (by omega),yab (by omega),show 256+b-256=b by omega]
  ·cases h
 ·cases h
theorem OR{o:Obj}{x:qA}(h:absB w.heap.size o=some x)(b:Nat):vJ (muW w) ⟨b,true,0,0,true⟩ x o/\x.asLoop=none/\x.asDeferred=none:=by
 cases o<;>first | (cases h;done) | skip
 rename_i cs elem fr;cases h;refine⟨⟨cs,elem,fr,rfl,ybk _,.inl rfl,fun j v hv=>?_,rfl⟩,rfl,rfl⟩
 grind [zR,OP]
theorem hrelW:rB (256+w.heap.size) w.heap.size (muW w) ⟨256+w.heap.size,nI w⟩ w:=by
 have hget:∀a x,(nI w).get a=some x->∃b o,b<w.heap.size/\w.heap[b]?=some o/\absB w.heap.size o=some x/\a<256+w.heap.size/\b=(if a<256 then a else a-256):=by
  grind [nI,zR]
 have hmu:∀a,(muW w) a=if a<256 then some ⟨a,true,0,0,true⟩else if a<256+w.heap.size then some ⟨a-256,true,0,0,true⟩else none:=fun _=>rfl;have big:∀a,256+w.heap.size<=a->(muW w) a=none:=fun a h=>by rw[hmu,yaa (by omega),yaa (by omega)]
 have same:∀a x i,(nI w).get a=some x->(muW w) a=some i->∃o,w.heap[i.b]?=some o/\i.b<w.heap.size/\absB w.heap.size o=some x/\i=⟨i.b,true,0,0,true⟩:=by
  grind
 refine⟨by omega,fun g hg=>by rw[hmu,yab hg],fun a x i _ hx hi=>?_,ybk _,ybk _,fun a ha=>⟨big a ha,?_⟩,fun a x i hx hi=>?_,fun a i ha hi=>?_,fun a b x y i j hx _ hi _ ha _ _=>?_,fun a x t h=>by cases h⟩
 ·obtain⟨o,_,h2,h3,_⟩:=same a x i hx hi;exact⟨h2,(OR h3 0).2⟩
 all_goals grind [nI,zR,OR]
end
end Go.Am
namespace Go.Am
open Go Go.RowKit
variable {b n:Nat}{cs:List Value}{c:Array Value}{t:TypeId}{fr:Nat × Nat}
def vH(P:Program):Nat->TypeId->D->Prop
 | 0,_,_=>False
 | f+1,t,x=>match P.underlying t with
  | some .bool=>∃b,x=.bool b
  | some (.int k)=>∃n,x=.int k n/\(Lit.int k n).wf=true
  | some .string=>∃l:List Nat,x=.str l/\l.length<=reachBytes/\∀c∈l,c<256
  | some (.slice e)=>∃l:List D,x=.sl (P.cellsOf e) l/\l.length*P.bytesOf e<=reachBytes/\∀y∈l,vH P f e y
  | some (.struct fs)=>∃l:List D,x=.st l/\dC (fun fd y=>vH P f fd.type y) fs.toList l
  | _=>False
def Gd(P:Program):Nat->List Field->Nat->Bool
 | off,[],n=>off == n
 | off,f::fs,n=>f.offset == off&&Gd P (off+P.cellsOf f.type) fs n
structure Plain (P:Program) (S:TypeId->Prop):Prop where
 part:∀t,S t->match P.underlying t with
  | some .bool=>True
  | some (.int _)=>True
  | some .string=>True
  | some (.slice e)=>S e/\0<P.cellsOf e
  | some (.struct fs)=>(∀f∈fs.toList,S f.type)/\Gd P 0 fs.toList (P.cellsOf t)=true
  | _=>False
def av (N:Nat)(v:Value):zA:=(xP N v).getD .nilptr
def Has (N:Nat)(cs:List Value):Prop:=∀v∈cs,xP N v=some (av N v)
theorem MP{α:Type}{Q:Nat->α->Prop}:∀(n:Nat),(∀i,i<n->∃p,Q i p)->∃l:List α,l.length=n/\∀i p,l[i]?=some p->Q i p:=by
 intro n;induction n with
 | zero=>simp_all
 | succ n ih=>
  intro h;obtain⟨l,hl,hq⟩:=ih fun i hi=>h i (by omega);obtain⟨p,hp⟩:=h n (by omega);refine⟨l++[p],by simp[hl],fun i q hq'=>?_⟩
  grind
section
variable {H:Type}{enc:TypeId × Value->H}{P:Program}{w:World}
theorem AG{p:Nat->Bool}:∀ {ts:List TypeId} {ds:List (DataW H)},(DataW.weightsEach P ts ds).all p=true->∀ {i:Nat} {t:TypeId} {d:DataW H},ts[i]?=some t->ds[i]?=some d->(DataW.weights P t d).all p=true
 | [],_,_,i,_,_,h1,_=>by simp at h1
 | _::_,[],_,i,_,_,_,h2=>by simp at h2
 | t::ts,d::ds,h,i,u,e,h1,h2=>by
  rw[DataW.weightsEach,ydi,ybb]at h
  cases i with
  | zero=>simp_all
  | succ i=>exact AG h.2 (by simpa using h1) (by simp_all)
theorem AH{p:Nat->Bool}{e:TypeId}:∀ {ds:List (DataW H)},(DataW.weightsAll P e ds).all p=true->∀ {i:Nat} {d:DataW H},ds[i]?=some d->(DataW.weights P e d).all p=true
 | [],_,i,_,h2=>by simp at h2
 | d::ds,h,i,x,h2=>by
  rw[DataW.weightsAll,ydi,ybb]at h
  cases i with
  | zero=>simp_all
  | succ i=>exact AH h.2 (by simpa using h2)
theorem MS{a:Addr}  (h:w.cells? 0 a n=some cs):cs.length=n/\(0<n->a.spot=none/\∃c t fr,w.heap[a.block]?=some (.cells c t fr)/\∀j,j<n->c[a.off+j]?=cs[j]?):=by
 unfold World.cells? at h;rw[yab (yaw _)]at h;have hl:=mapM_some_length h;have hg:=mapM_some_get h;simp only[List.length_range]at hl;refine⟨hl,fun hn=>?_⟩;have key:∀j,j<n->w.cell? (a.add j)=cs[j]?:=fun j hj=>hg j j (by simp[hj]);have h0:=key 0 hn;have hs0:∃v,cs[0]?=some v:=⟨cs[0]'(by omega),ybd (by omega)⟩;obtain⟨v0,hv0⟩:=hs0;rw[hv0]at h0;have e0:a.add 0=a:=by simp[Addr.add]
 rw[e0]at h0;unfold World.cell? at h0
 cases hb:w.heap[a.block]? with
 | none=>simp_all
 | some o=>
  rw[hb]at h0
  cases o with
  | cells c t fr=>
   simp only[]at h0;split at h0
   ·cases h0
   ·rename_i hsp;refine⟨by simp_all,c,t,fr,rfl,fun j hj=>?_⟩
    grind [World.cell?,Addr.add]
  | _=>cases h0
def OQ    (h:w.heap[b]?=some (.cells c t fr)) :
  (nI w).get (256+b)=some (.cells (lU (fun j=>(c[j]?).bind (xP w.heap.size)) c.size) c.size none):=by
 have hb:=(ybe.1 h).1;unfold nI;rw[zR,yab (by omega),yaa (by omega),show 256+b-256=b by omega,h];rfl
theorem at_old{off:Nat}    (h:w.heap[b]?=some (.cells c t fr))(hl:cs.length=n)(hc:∀j,j<n->c[off+j]?=cs[j]?)(hs:Has w.heap.size cs) :
  At (nI w) (256+b) off (cs.map (av w.heap.size)):=by
 refine⟨_,_,_,OQ h,fun j a ha=>?_⟩;rw[ybu]at ha
 cases hj:cs[j]? with
 | none=>simp_all
 | some v=>
  rw[hj]at ha;have hlt:j<n:=by grind
  have h1:=hc j hlt;rw[hj]at h1;have hsz:off+j<c.size:=(ybe.1 h1).1;rw[zR,yab hsz,h1];have ha:av w.heap.size v=a:=by simp_all
  rw[<- ha];exact hs v (ycv hj)
theorem BM{cs:List Value}:∀ {fs:List Field} {off:Nat},Gd P off fs cs.length=true->(fs.map fun f=>(cs.drop f.offset).take (P.cellsOf f.type)).flatten=cs.drop off
 | [],off,h=>by grind [Gd]
 | f::fs,off,h=>by
  rw[Gd,ybb]at h;obtain⟨h1,h2⟩:=h;have h1:f.offset=off:=by simp_all
  rw[ycm,yas,BM h2,h1,<- List.drop_drop,List.take_append_drop]
theorem OU{α β:Type}{R:α->β->Prop}:∀ {l:List α} {m:List β},m.length=l.length->(∀(i:Nat) a b,l[i]?=some a->m[i]?=some b->R a b)->dC R l m
 | [],[],_,_=>.nil
 | [],_::_,h,_=>by simp at h
 | _::_,[],h,_=>by simp at h
 | a::l,b::m,h,k=>.cons (k 0 a b (by simp) (by simp)) (OU (by grind) fun i a b h1 h2=>k (i+1) a b (by simp_all) (by simp_all))
theorem zhp{S:TypeId->Prop}(hP:Plain P S)(h0:∃c n lo,(nI w).get 0=some (.cells c n lo)) :
  ∀(fuel:Nat) (t:TypeId) (cs:List Value) (x:DataW H × List MemPlace),S t->DataW.trod enc P w 0 (fun _=>true) true fuel t cs=some x->(DataW.weights P t x.1).all (· <= reachBytes)=true →
   Has w.heap.size cs/\∃d,RD (nI w) d (cs.map (av w.heap.size))/\vH P fuel t d:=by
 intro fuel;induction fuel with
 | zero=>simp_all [DataW.trod]
 | succ n ih=>
  intro t cs x hS h hw;have hp:=hP.part t hS;have one:∀ {v:Value} {a:zA},xP w.heap.size v=some a->Has w.heap.size [v]/\av w.heap.size v=a:=by
   intro v a hv;have:av w.heap.size v=a:=by grind [av]
   refine⟨fun u hu=>?_,this⟩;simp at hu;subst hu;rw[hv,this]
  cases hu:P.underlying t with
  | none=>simp_all
  | some dt=>
  cases dt with
  | bool=>
   obtain⟨b,rfl,rfl⟩:=DataW.trod_bool hu h;obtain⟨h1,h2⟩:=one (v:=.bool b) (a:=.bool b) rfl;exact⟨h1,.bool b,by simp_all,by grind [vH]⟩
  | int k=>
   obtain⟨m,rfl,rfl,hwf⟩:=DataW.trod_int hu h;obtain⟨h1,h2⟩:=one (v:=.int k m) (a:=.int k m) rfl;exact⟨h1,.int k m,by simp_all,by grind [vH]⟩
  | string=>
   obtain⟨s,rfl,rfl,_⟩:=DataW.trod_string hu h;obtain⟨h1,h2⟩:=one (v:=.string s) (a:=.str (qF s)) rfl;refine⟨h1,.str (qF s),by simp_all,?_⟩
   grind [vH,DataW.weights,qF,UInt8.toNat_lt]
  | slice e=>
   rw[hu]at hp;obtain⟨hSe,hpos⟩:=hp;rcases DataW.trod_slice hu h with⟨rfl,rfl⟩ | ⟨a,len,cap,iH,rest,m,hm,rfl,rfl,_,hlc,_,hel,hE,hR,_⟩
   ·obtain⟨h1,h2⟩:=one (v:=.slice none 0 0) (a:=.nilslice) rfl;refine⟨h1,.sl (P.cellsOf e) [],by rw[cL];exact⟨_,by simp[h2],[],.inl ⟨rfl,rfl⟩,by rw[qC]⟩,?_⟩
    grind [vH]
   ·obtain rfl:n=m:=by omega
    simp only[DataW.weights,hu,ycg,ybb,ydi,decide_eq_true_eq,ybf]at hw;obtain⟨hsz,hwe,hwr⟩:=hw;by_cases hcap:cap=0
    ·subst hcap;obtain rfl:len=0:=by omega
     obtain⟨h1,h2⟩:=one (v:=.slice (some a) 0 0) (a:=.slice 0 0 0 0) (by cases a;rfl);refine⟨h1,.sl (P.cellsOf e) [],?_,?_⟩
     ·rw[cL,ycm,List.map_nil,h2];refine⟨_,rfl,[],.inr ⟨0,0,0,rfl,ybk _,?_,fun i cs hi=>by simp at hi⟩,by rw[qC]⟩;obtain⟨c,k,lo,hc⟩:=h0;have:=hc;unfold nI at this;rw[zR]at this;split at this
      case isFalse=>cases this
      rw[yab (by omega)]at this
      cases ho:w.heap[0]? with
      | none=>simp_all
      | some o=>
       rw[ho]at this
       cases o with
       | cells c' t' fr'=>
        grind [absB]
       | _=>cases this
     grind [vH]
    ·have hr:=(hR rfl).1;have hRr:=(hR rfl).2;have hel1:∀i,i<len->∃p:List Value × D,w.cells? 0 (a.add (i*P.cellsOf e)) (P.cellsOf e)=some p.1/\Has w.heap.size p.1/\RD (nI w) p.2 (p.1.map (av w.heap.size))/\vH P n e p.2:=by
      intro i hi;have:=hE i hi;obtain⟨y,hy⟩:∃y,iH[i]?=some y:=⟨iH[i]'(by omega),ybd (by omega)⟩;rw[hy]at this;simp only[Option.bind_eq_some_iff]at this;obtain⟨c1,hc1,hy1⟩:=this;obtain⟨g1,d,g2,g3⟩:=ih e c1 y hSe hy1 (AH hwe (i:=i) (by simp[hy]));exact⟨(c1,d),hc1,g1,g2,g3⟩
     obtain⟨l,hl,hq⟩:=MP len hel1;have hfirst:∃c1,w.cells? 0 a (P.cellsOf e)=some c1:=by
      by_cases hlen:len=0
      ·have:=hRr 0 (by omega)
       grind [Option.bind_eq_some_iff,Addr.add]
      ·obtain⟨p,hp,_⟩:=hel1 0 (by omega)
       grind [Addr.add]
     obtain⟨c1,hc1⟩:=hfirst;obtain⟨hspot,c,ct,fr,hblk,_⟩:=(MS hc1).2 hpos;have hb:a.block<w.heap.size:=(ybe.1 hblk).1;have hav:xP w.heap.size (.slice (some a) len cap)=some (.slice (256+a.block) a.off len cap):=by
      obtain⟨bb,oo,ss⟩:=a
      grind [xP]
     obtain⟨h1,h2⟩:=one hav;refine⟨h1,.sl (P.cellsOf e) (l.map (·.2)),?_,?_⟩
     ·rw[cL];refine⟨_,by rw[ycm,List.map_nil,h2],l.map (fun p=>p.1.map (av w.heap.size)),.inr ⟨256+a.block,a.off,cap,by rw[ybf,hl],by simp_all,⟨_,_,_,OQ hblk,.inl rfl⟩,fun i cs hi=>?_⟩,?_⟩
      ·rw[ybu]at hi
       cases hli:l[i]? with
       | none=>simp_all
       | some p=>
        rw[hli]at hi;obtain rfl:p.1.map (av w.heap.size)=cs:=by simp_all
        obtain⟨k1,k2,k3,k4⟩:=hq i p hli;obtain⟨m1,m2⟩:=MS k1;obtain⟨_,c',ct',fr',hb',hcc⟩:=m2 hpos;have eb:(a.add (i*P.cellsOf e)).block=a.block:=by unfold Addr.add;split<;>rfl
        have eo:(a.add (i*P.cellsOf e)).off=a.off+i*P.cellsOf e:=by unfold Addr.add;split<;>simp_all
        rw[eb]at hb';rw[hblk]at hb';cases hb';rw[eo]at hcc;exact⟨by simp_all,at_old hblk m1 hcc k2⟩
      grind [qC.mk]
     grind [vH,List.mem_iff_getElem?]
  | struct fs=>
   rw[hu]at hp;obtain⟨hf,ht⟩:=hp;obtain⟨xs,m,hm,rfl,hlen,hxs,hel⟩:=DataW.trod_struct hu h;obtain rfl:n=m:=by omega
   simp only[DataW.weights,hu]at hw;have hel1:∀i,i<fs.toList.length->∃p:D,∀f,fs.toList[i]?=some f->Has w.heap.size ((cs.drop f.offset).take (P.cellsOf f.type))/\RD (nI w) p (((cs.drop f.offset).take (P.cellsOf f.type)).map (av w.heap.size))/\vH P n f.type p:=by
    intro i hi;have hi':i<fs.size:=by omega
    obtain⟨f,hfi⟩:∃f,fs.toList[i]?=some f:=⟨fs.toList[i],ybd hi⟩;have:=hel i f (by simp_all);obtain⟨y,hy⟩:∃y,xs[i]?=some y:=⟨xs[i]'(by omega),ybd (by omega)⟩;rw[hy]at this;obtain⟨g1,d,g2,g3⟩:=ih f.type _ y (hf f (ycv hfi)) this (AG hw (i:=i) (by simp_all) (by simp_all));refine⟨d,fun f' hf'=>?_⟩
    simp_all
   obtain⟨l,hl,hq⟩:=MP fs.toList.length hel1;have hfl:=BM (cs:=cs) (P:=P) (fs:=fs.toList) (off:=0) (by simp_all);rw[ycr]at hfl;refine⟨fun v hv=>?_,.st l,?_,?_⟩
   ·rw[<- hfl]at hv;obtain⟨part,hpart,hv⟩:=List.mem_flatten.1 hv;obtain⟨f,hfm,rfl⟩:=yaq.1 hpart;obtain⟨i,hi⟩:=List.mem_iff_getElem?.1 hfm;have hi':i<fs.toList.length:=(ybc.1 hi).1;exact(hq i (l[i]'(by omega)) (ybd (by omega)) f hi).1 v hv
   all_goals grind [yJ,qC.mk,vH,OU]
  | _=>rw[hu]at hp;exact hp.elim
end
end Go.Am
namespace Go.Am
open Go Go.RowKit
structure Te (P:Program) where
 (b i u8 u16 s limbs whole frac val expr exprs row rows table tables dfn dfns clause clauses plan:TypeId)
 hb:P.underlying b=some .bool
 hi:P.underlying i=some (.int .i64)
 hu8:P.underlying u8=some (.int .u8)
 hu16:P.underlying u16=some (.int .u16)
 hs:P.underlying s=some .string
 hlimbs:P.underlying limbs=some (.slice u16)
 hexprs:P.underlying exprs=some (.slice expr)
 hrows:P.underlying rows=some (.slice row)
 htables:P.underlying tables=some (.slice table)
 hdfns:P.underlying dfns=some (.slice dfn)
 hclauses:P.underlying clauses=some (.slice clause)
 hwhole:∃fs,P.underlying whole=some (.struct fs)/\fs.toList.map (·.type)=[b,limbs]
 hfrac:∃fs,P.underlying frac=some (.struct fs)/\fs.toList.map (·.type)=[whole,whole]
 hval:∃fs,P.underlying val=some (.struct fs)/\fs.toList.map (·.type)=[u8,frac,i]
 hexpr:∃fs,P.underlying expr=some (.struct fs)/\fs.toList.map (·.type)=[u8,s,val,exprs]
 hrow:∃fs,P.underlying row=some (.struct fs)/\fs.toList.map (·.type)=[i,i,i,frac]
 htable:∃fs,P.underlying table=some (.struct fs)/\fs.toList.map (·.type)=[s,b,rows]
 hdfn:∃fs,P.underlying dfn=some (.struct fs)/\fs.toList.map (·.type)=[s,u8,b]
 hclause:∃fs,P.underlying clause=some (.struct fs)/\fs.toList.map (·.type)=[s,s,i,i,i,b,expr,expr]
 hplan:∃fs,P.underlying plan=some (.struct fs)/\fs.toList.map (·.type)=[s,dfns,tables,clauses]
 cu16:P.cellsOf u16=1
 cexpr:P.cellsOf expr=9
 crow:P.cellsOf row=7
 ctable:P.cellsOf table=3
 cdfn:P.cellsOf dfn=3
 cclause:P.cellsOf clause=24
 bytes:1<=P.bytesOf u16/\1<=P.bytesOf expr/\1<=P.bytesOf row/\1<=P.bytesOf table/\1<=P.bytesOf dfn/\1<=P.bytesOf clause
section
variable {P:Program}{f:Nat}{t:TypeId}{x:D}
theorem Jr(h:vH P f t x):∃g,f=g+1:=by
 cases f with
 | zero=>exact h.elim
 | succ g=>simp_all
theorem Oc(ht:P.underlying t=some .bool)(h:vH P f t x):∃b,x=.bool b:=by
 grind [Jr,vH]
theorem Tp{k:IntKind}(ht:P.underlying t=some (.int k))(h:vH P f t x):∃n,x=.int k n/\(Lit.int k n).wf=true:=by
 grind [Jr,vH]
def Cn(ht:P.underlying t=some (.int .i64))(h:vH P f t x):∃n,x=.int .i64 n/\i64 n:=by
 obtain⟨n,rfl,hn⟩:=Tp ht h;simp only[Lit.wf,ybb,decide_eq_true_eq]at hn;have h1:IntKind.i64.min = -9223372036854775808:=rfl;have h2:IntKind.i64.max=9223372036854775807:=rfl;rw[h1,h2]at hn;exact⟨n,rfl,hn.1,by omega⟩
def To(ht:P.underlying t=some (.int .u8))(h:vH P f t x):∃n:Nat,x=.int .u8 (n:Int)/\n<256:=by
 obtain⟨n,rfl,hn⟩:=Tp ht h;simp only[Lit.wf,ybb,decide_eq_true_eq]at hn;have h1:IntKind.u8.min=0:=rfl;have h2:IntKind.u8.max=255:=rfl;rw[h1,h2]at hn;exact⟨n.toNat,by rw[show((n.toNat:Nat):Int)=n by omega],by omega⟩
def QH(ht:P.underlying t=some (.int .u16))(h:vH P f t x):∃n:Nat,x=.int .u16 (n:Int)/\n<65536:=by
 obtain⟨n,rfl,hn⟩:=Tp ht h;simp only[Lit.wf,ybb,decide_eq_true_eq]at hn;have h1:IntKind.u16.min=0:=rfl;have h2:IntKind.u16.max=65535:=rfl;rw[h1,h2]at hn;exact⟨n.toNat,by rw[show((n.toNat:Nat):Int)=n by omega],by omega⟩
theorem Fz(ht:P.underlying t=some .string)(h:vH P f t x):∃l:List Nat,x=.str l/\l.length<sE/\∀c∈l,c<256:=by
 grind [Jr,vH,reachBytes,sE]
theorem Ga{e:TypeId}{sz:Nat}(ht:P.underlying t=some (.slice e))(hc:P.cellsOf e=sz)(hb:1<=P.bytesOf e)(h:vH P f t x):∃(l:List D) (g:Nat),f=g+1/\x=.sl sz l/\l.length<sE/\∀y∈l,vH P g e y:=by
 obtain⟨g,rfl⟩:=Jr h;unfold vH at h;rw[ht]at h;obtain⟨l,h1,h2,h3⟩:=h;have:l.length<=l.length*P.bytesOf e:=Nat.le_mul_of_pos_right _ hb
 grind [reachBytes,sE]
theorem dC.ofMap{α β γ:Type}{k:α->γ}{R:γ->β->Prop}:∀ {l:List α} {m:List β},dC (fun a b=>R (k a) b) l m->dC R (l.map k) m
 | [],_,.nil=>.nil
 | _::_,_::_,.cons h r=>.cons h (dC.ofMap r)
theorem fX{ts:List TypeId}(ht:∃fs,P.underlying t=some (.struct fs)/\fs.toList.map (·.type)=ts)(h:vH P f t x):∃(l:List D) (g:Nat),f=g+1/\x=.st l/\dC (fun t y=>vH P g t y) ts l:=by
 obtain⟨fs,ht,rfl⟩:=ht;obtain⟨g,rfl⟩:=Jr h
 grind [vH,dC.ofMap]
theorem dC.cons_inv{α β:Type}{R:α->β->Prop}{a:α}{l:List α}{m:List β}(h:dC R (a::l) m):∃b r,m=b::r/\R a b/\dC R l r:=by
 cases h with
 | cons h1 h2=>grind
def dC.nil_inv{α β:Type}{R:α->β->Prop}{m:List β}(h:dC R ([]:List α) m):m=[]:=by
 cases h;rfl
theorem Dw{α β:Type}{g:α->β}{Q:α->Prop}:∀ {l:List β},(∀y∈l,∃a,y=g a/\Q a)->∃m:List α,l=m.map g/\∀a∈m,Q a
 | [],_=>⟨[],rfl,fun _ h=>by cases h⟩
 | y::l,h=>by
  obtain⟨a,h1,h2⟩:=h y (by simp);obtain⟨m,h3,h4⟩:=Dw (l:=l) fun z hz=>h z (ybr _ hz);exact⟨a::m,by grind,fun b hb=>by
   grind⟩
end
namespace Te
section
variable {P:Program}(A:Te P){f:Nat}{x:D}
theorem dWhole(h:vH P f A.whole x):∃w:eH,x=w.d/\w.limbs.length<sE/\mB 65536 w.limbs:=by
 obtain⟨l,g,rfl,rfl,k⟩:=fX A.hwhole h;obtain⟨d1,r,rfl,h1,k⟩:=k.cons_inv;obtain⟨d2,r,rfl,h2,k⟩:=k.cons_inv;obtain rfl:=k.nil_inv;obtain⟨b,rfl⟩:=Oc A.hb h1;obtain⟨l,g,rfl,rfl,hl,hm⟩:=Ga A.hlimbs A.cu16 A.bytes.1 h2;obtain⟨m,rfl,hq⟩:=Dw (g:=fun n:Nat=>D.int .u16 (n:Int)) (Q:=fun n=>n<65536) fun y hy=>QH A.hu16 (hm y hy);exact⟨⟨b,m⟩,rfl,by simp_all,hq⟩
def dFrac(h:vH P f A.frac x):∃w:rE,x=w.dd/\w.fit:=by
 obtain⟨l,g,rfl,rfl,k⟩:=fX A.hfrac h;obtain⟨d1,r,rfl,h1,k⟩:=k.cons_inv;obtain⟨d2,r,rfl,h2,k⟩:=k.cons_inv;obtain rfl:=k.nil_inv;obtain⟨a,rfl,a1,a2⟩:=A.dWhole h1;obtain⟨b,rfl,b1,b2⟩:=A.dWhole h2;exact⟨⟨a,b⟩,rfl,⟨a1,b1⟩,a2,b2⟩
def dVal(h:vH P f A.val x):∃w:yB,x=w.d/\w.fit:=by
 obtain⟨l,g,rfl,rfl,k⟩:=fX A.hval h;obtain⟨d1,r,rfl,h1,k⟩:=k.cons_inv;obtain⟨d2,r,rfl,h2,k⟩:=k.cons_inv;obtain⟨d3,r,rfl,h3,k⟩:=k.cons_inv;obtain rfl:=k.nil_inv;obtain⟨kk,rfl,hk⟩:=To A.hu8 h1;obtain⟨q,rfl,hq⟩:=A.dFrac h2;obtain⟨n,rfl,hn⟩:=Cn A.hi h3;exact⟨⟨kk,q,n⟩,rfl,hk,hq,hn.1,hn.2⟩
theorem KN:∀ {l:List vA},(∀x∈l,x.fit)->vA.fits l
 | [],_=>by grind [vA.fits]
 | x::l,h=>by unfold vA.fits;exact⟨h x (by simp),KN fun y hy=>h y (ybr _ hy)⟩
theorem dExpr:∀(f:Nat) (x:D),vH P f A.expr x->∃w:vA,x=w.d/\w.fit:=by
 intro f;induction f using Nat.strongRecOn with
 | _ f ih=>
 intro x h;obtain⟨l,g,rfl,rfl,k⟩:=fX A.hexpr h;obtain⟨d1,r,rfl,h1,k⟩:=k.cons_inv;obtain⟨d2,r,rfl,h2,k⟩:=k.cons_inv;obtain⟨d3,r,rfl,h3,k⟩:=k.cons_inv;obtain⟨d4,r,rfl,h4,k⟩:=k.cons_inv;obtain rfl:=k.nil_inv;obtain⟨kk,rfl,hk⟩:=To A.hu8 h1;obtain⟨n,rfl,hn,hn'⟩:=Fz A.hs h2;obtain⟨v,rfl,hv⟩:=A.dVal h3;obtain⟨l,g',rfl,rfl,hl,hm⟩:=Ga A.hexprs A.cexpr A.bytes.2.1 h4;obtain⟨m,rfl,hq⟩:=Dw (g:=vA.d) (Q:=vA.fit) fun y hy=>ih g' (by omega) y (hm y hy)
 refine⟨.mk kk n v m,?_,?_⟩
 all_goals grind [vA.d,vA.ds_eq,vA.fit,KN]
def dRow(h:vH P f A.row x):∃w:vF,x=w.d/\w.fit:=by
 obtain⟨l,g,rfl,rfl,k⟩:=fX A.hrow h;obtain⟨d1,r,rfl,h1,k⟩:=k.cons_inv;obtain⟨d2,r,rfl,h2,k⟩:=k.cons_inv;obtain⟨d3,r,rfl,h3,k⟩:=k.cons_inv;obtain⟨d4,r,rfl,h4,k⟩:=k.cons_inv;obtain rfl:=k.nil_inv;obtain⟨a,rfl,ha⟩:=Cn A.hi h1;obtain⟨b,rfl,hb⟩:=Cn A.hi h2;obtain⟨c,rfl,hc⟩:=Cn A.hi h3;obtain⟨q,rfl,hq⟩:=A.dFrac h4;exact⟨⟨a,b,c,q⟩,rfl,ha,hb,hc,hq⟩
theorem dTable(h:vH P f A.table x):∃w:oE,x=w.d/\w.fit:=by
 obtain⟨l,g,rfl,rfl,k⟩:=fX A.htable h;obtain⟨d1,r,rfl,h1,k⟩:=k.cons_inv;obtain⟨d2,r,rfl,h2,k⟩:=k.cons_inv;obtain⟨d3,r,rfl,h3,k⟩:=k.cons_inv;obtain rfl:=k.nil_inv;obtain⟨n,rfl,hn,_⟩:=Fz A.hs h1;obtain⟨b,rfl⟩:=Oc A.hb h2;obtain⟨l,g',rfl,rfl,hl,hm⟩:=Ga A.hrows A.crow A.bytes.2.2.1 h3;obtain⟨m,rfl,hq⟩:=Dw (g:=vF.d) (Q:=vF.fit) fun y hy=>A.dRow (hm y hy);exact⟨⟨n,b,m⟩,rfl,hn,by simp_all,hq⟩
def dDef(h:vH P f A.dfn x):∃w:eI,x=w.d/\w.fit:=by
 obtain⟨l,g,rfl,rfl,k⟩:=fX A.hdfn h;obtain⟨d1,r,rfl,h1,k⟩:=k.cons_inv;obtain⟨d2,r,rfl,h2,k⟩:=k.cons_inv;obtain⟨d3,r,rfl,h3,k⟩:=k.cons_inv;obtain rfl:=k.nil_inv;obtain⟨n,rfl,hn,_⟩:=Fz A.hs h1;obtain⟨kk,rfl,hk⟩:=To A.hu8 h2;obtain⟨b,rfl⟩:=Oc A.hb h3;exact⟨⟨n,kk,b⟩,rfl,hn,hk⟩
def dClause(h:vH P f A.clause x):∃w:fC,x=w.d/\w.fit:=by
 obtain⟨l,g,rfl,rfl,k⟩:=fX A.hclause h;obtain⟨d1,r,rfl,h1,k⟩:=k.cons_inv;obtain⟨d2,r,rfl,h2,k⟩:=k.cons_inv;obtain⟨d3,r,rfl,h3,k⟩:=k.cons_inv;obtain⟨d4,r,rfl,h4,k⟩:=k.cons_inv;obtain⟨d5,r,rfl,h5,k⟩:=k.cons_inv;obtain⟨d6,r,rfl,h6,k⟩:=k.cons_inv;obtain⟨d7,r,rfl,h7,k⟩:=k.cons_inv;obtain⟨d8,r,rfl,h8,k⟩:=k.cons_inv;obtain rfl:=k.nil_inv;obtain⟨n,rfl,hn,_⟩:=Fz A.hs h1;obtain⟨l,rfl,hl,_⟩:=Fz A.hs h2
 obtain⟨a,rfl,ha⟩:=Cn A.hi h3;obtain⟨b,rfl,hb⟩:=Cn A.hi h4;obtain⟨c,rfl,hc⟩:=Cn A.hi h5;obtain⟨o,rfl⟩:=Oc A.hb h6;obtain⟨w,rfl,hw⟩:=A.dExpr _ _ h7;obtain⟨v,rfl,hv⟩:=A.dExpr _ _ h8;exact⟨⟨n,l,a,b,c,o,w,v⟩,rfl,hn,hl,ha,hb,hc,hw,hv⟩
theorem dPlan(h:vH P f A.plan x):∃w:rG,x=w.d/\w.fit:=by
 obtain⟨l,g,rfl,rfl,k⟩:=fX A.hplan h;obtain⟨d1,r,rfl,h1,k⟩:=k.cons_inv;obtain⟨d2,r,rfl,h2,k⟩:=k.cons_inv;obtain⟨d3,r,rfl,h3,k⟩:=k.cons_inv;obtain⟨d4,r,rfl,h4,k⟩:=k.cons_inv;obtain rfl:=k.nil_inv;obtain⟨n,rfl,hn,_⟩:=Fz A.hs h1;obtain⟨l2,g2,rfl,rfl,hl2,hm2⟩:=Ga A.hdfns A.cdfn A.bytes.2.2.2.2.1 h2;obtain⟨l3,g3,_,rfl,hl3,hm3⟩:=Ga A.htables A.ctable A.bytes.2.2.2.1 h3
 obtain⟨l4,g4,_,rfl,hl4,hm4⟩:=Ga A.hclauses A.cclause A.bytes.2.2.2.2.2 h4;obtain⟨m2,rfl,hq2⟩:=Dw (g:=eI.d) (Q:=eI.fit) fun y hy=>A.dDef (hm2 y hy);obtain⟨m3,rfl,hq3⟩:=Dw (g:=oE.d) (Q:=oE.fit) fun y hy=>A.dTable (hm3 y hy);obtain⟨m4,rfl,hq4⟩:=Dw (g:=fC.d) (Q:=fC.fit) fun y hy=>A.dClause (hm4 y hy);exact⟨⟨n,m2,m3,m4⟩,rfl,⟨hn,by simp_all,by simp_all,by simp_all,hq2,hq3,hq4⟩⟩
end
end Te
end Go.Am
namespace Go.Am
open Go Go.RowKit Go.Proofs
theorem TQ[tC](B N:Nat)(hb:B<=256+tC.n):Nb Tryz.prog yA B N wJ:=by
 intro f g hg args H v H' hv μ w args' hH hI hl;have hg:Wk.get f=some g:=hg;unfold Wk at hg;rcases aX hg with⟨rfl,rfl⟩ | hg
 ·exact Dk hv hH fun hv=>zcp hI hv hl
 rcases aX hg with⟨rfl,rfl⟩ | hg
 ·grind [Dk,FC]
 rcases aX hg with⟨rfl,rfl⟩ | hg
 ·exact .inr (TU hb hH hv hl)
 rcases aX hg with⟨rfl,rfl⟩ | hg
 ·exact .inr (TZ hb hH hv hl)
 rcases aX hg with⟨rfl,rfl⟩ | hg
 ·grind [Dk,TT]
 rcases aX hg with⟨rfl,rfl⟩ | hg
 ·grind [Dk,TV]
 rcases aX hg with⟨rfl,rfl⟩ | hg
 all_goals grind [Dk,UA,Tr.get_leaf]
def sim26[tC](hN:6<=tC.n):pK Tryz.prog yA (256+tC.n) tC.n wJ:=
 ⟨zeq rfl,Yp rfl,TQ _ _ (ybk _),ybk _,by kernel_rfl,fun _ _ hb h=>h.below hN hb⟩
section
variable {w:World}
theorem zh3{b:Nat}{y:qA}(h:(nI w).get b=some y):b<256+w.heap.size:=by
 grind [nI,zR]
def QL(hL:wJ w)(f:Nat)(args:List zA)(args':Array Value)(hp:∀ [tC],yA.prims.get f=none)(hl:pB (muW w) args args'.toList)
  (h:∀ [tC],∃Q:xC,Wc yA F f args (nI w) Q/\∀v t,Q v t->v=.bool true) (hf:Nat.blt f yo=true:=by rfl) :
  Calls Tryz.prog f args' w fun e w'=>e=.returned (.bool true)/\Below w.heap.size w w':=by
 letI:tC:=⟨w.heap.size⟩
 obtain⟨Q,h1,h2⟩:=h;refine(YQ (H:=⟨256+w.heap.size,nI w⟩) (sim26 hL.size) hL zji hp (ybk _) (fun b y hb=>zh3 hb) hrelW hl h1 hf).mono fun e w' ⟨v,v',t',μ',g1,g2,g3,g4,g5⟩=>?_;have:=h2 v t' g4;subst this;rw[rA]at g3;exact⟨by rw[g1,g3],g5⟩
theorem zis(h:wJ w):∀ [tC],wN (nI w):=by
 intro _;obtain⟨t,h⟩:=h.lens;have hb:=(ybe.1 h).1;have e:(nI w).get 4=some (.cells (lU (fun j=>((Av dQ).toArray[j]?).bind (xP w.heap.size)) (Av dQ).toArray.size) (Av dQ).toArray.size none):=by
  unfold nI;rw[zR,yab (by omega),yab (by omega),h];rfl
 refine⟨_,_,_,e,fun j a ha=>?_⟩
 grind [zR,Dz,dQ,Av,xP]
theorem zdo(h:wJ w):∀ [tC],dS (nI w):=by
 intro _;obtain⟨t,h⟩:=h.modes;have hb:=(ybe.1 h).1;have e:(nI w).get 1=some (.cells (lU (fun j=>((xM gP).toArray[j]?).bind (xP w.heap.size)) (xM gP).toArray.size) (xM gP).toArray.size none):=by
  unfold nI;rw[zR,yab (by omega),yab (by omega),h];rfl
 refine⟨_,_,_,e,fun j a ha=>?_⟩;rw[zR,ybw];have hj:j<mW.length:=by
  grind
 rw[ybu]at ha;have hL:mW=gP.map fun b=>b.map UInt8.toNat:=rfl;rw[hL]at ha hj;rw[ybu]at ha
 cases hbt:gP[j]? with
 | none=>simp_all
 | some b=>
  rw[hbt]at ha;obtain rfl:=yci ha;rw[yab (by grind [xM])];simp only[xM,List.getElem?_toArray,ybu,hbt,Option.map_some,yai,xP];rfl
theorem JX(h:wJ w):∀ [tC],kM (nI w):=by
 intro _;obtain⟨t,h⟩:=h.kinds;have hb:=(ybe.1 h).1;have e:(nI w).get 0=some (.cells (lU (fun j=>((xM lN).toArray[j]?).bind (xP w.heap.size)) (xM lN).toArray.size) (xM lN).toArray.size none):=by
  unfold nI;rw[zR,yab (by omega),yab (by omega),h];rfl
 refine⟨_,_,_,e,fun j a ha=>?_⟩;rw[zR,ybw];have hj:j<Bj.length:=by
  grind
 rw[ybu]at ha;have hL:Bj=lN.map fun b=>b.map UInt8.toNat:=rfl;rw[hL]at ha hj;rw[ybu]at ha
 cases hbt:lN[j]? with
 | none=>simp_all
 | some b=>
  rw[hbt]at ha;obtain rfl:=yci ha;rw[yab (by grind [xM])];simp only[xM,List.getElem?_toArray,ybu,hbt,Option.map_some,yai,xP];rfl
def zdp(h:wJ w):∀ [tC],∃c n,(nI w).get 0=some (.cells c n none):=by
 intro _;obtain⟨t,h⟩:=h.kinds;have hb:=(ybe.1 h).1;have e:(nI w).get 0=some (.cells (lU (fun j=>((xM lN).toArray[j]?).bind (xP w.heap.size)) (xM lN).toArray.size) (xM lN).toArray.size none):=by
  unfold nI;rw[zR,yab (by omega),yab (by omega),h];rfl
 exact⟨_,_,e⟩
theorem zio{cs:List Value}(h:Has w.heap.size cs):pB (muW w) (cs.map (av w.heap.size)) cs:=by
 induction cs with
 | nil=>exact .nil
 | cons v l ih=>exact .cons (OP (h v (by simp))) (ih fun u hu=>h u (ybr _ hu))
theorem zcq{cs:Array Value}(h:Has w.heap.size cs.toList):rA (muW w) (.agg (cs.toList.map (av w.heap.size))) (.agg cs):=by
 grind [rA,zio]
end
end Go.Am
namespace Go.Am
open Go Go.RowKit Go.ChangeShapes Go.WideShapes Go.ChangeAt
variable {f:FuncId}{s:ChangeSpec}{fn:Func}
section
variable {H:Type}{enc:TypeId × Value->H}{P:Program}
def AZ(hl:laidOutB P=true){W W':World}(hb:Below W.heap.size W W'):∀ {ts:List TypeId} {vs:List Value} {ds:List (DataW H)} {ps:List MemPlace},(∀t∈ts,P.readableRec t=true/\t<P.types.size) →
  DataW.TrodAll enc P W 0 (fun _=>true) true ts vs ds ps->(∀x∈ps,x.block<W.heap.size)->DataW.TrodAll enc P W' 0 (fun b=>decide (b<W.heap.size)) true ts vs ds ps
 | [],[],[],_,_,h,_=>h
 | t::ts,_::_,_::_,_,ht,⟨p,q,h1,h2,e⟩,hs=>by
  subst e;exact⟨p,q,Below.trod hl (ht t (by simp)).1 (ht t (by simp)).2 h1 hb fun x hx=>hs x (ydc _ hx),
   AZ hl hb (fun t ht'=>ht t (ybr _ ht')) h2 fun x hx=>hs x (ycf _ hx),rfl⟩
 | [],_::_,_,_,_,h,_=>by simp[DataW.TrodAll]at h
 | [],[],_::_,_,_,h,_=>by simp[DataW.TrodAll]at h
 | _::_,[],_,_,_,h,_=>by simp[DataW.TrodAll]at h
 | _::_,_::_,[],_,_,h,_=>by simp[DataW.TrodAll]at h
theorem law_post(hl:laidOutB P=true){f:Func} {tb:TypeId}(hp:∀t∈f.params.toList,P.readableRec t=true/\t<P.types.size)(hv:s.vars=[])(hres:f.resultTypes = #[tb])(htb:P.underlying tb=some .bool)
  {W W':World} {args:Array Value} {ds gs:List (DataW H)} {before:List MemPlace} (hfn:s.fn H ds={ results:=[.lit (.bool true)],args:=ds })
  (hW:DataW.Whole enc P f.params.toList s.vars false W args.toList ds gs before) (hb:Below W.heap.size W W') :
  s.post enc P f false true false false W args (.bool true) W':=by
 have hW0:=hW;obtain⟨p,q,hA,hV,rfl,hfz,hnd⟩:=hW;rw[hv]at hV;obtain⟨rfl,rfl⟩:=trodVars_none hV;refine⟨ds,[],p++[],[],p,[],hW0,?_,?_,?_,hb.frame _,fun h=>by cases h⟩
 ·rw[ycd,hfn,hres];exact trodAll_mk1 (shut_bool htb _)
 ·rw[ycd,hfn];exact AZ hl hb hp hA fun x hx=>hW0.lt x (by simp_all)
 ·rw[ycd,hfn,hv];exact rfl
theorem ZZ{a:Assume}{C:Checked}{os:Os}   {conds:List PathCond}{apart fresh handsOn again:Bool}{X:World->Array Value->Prop}
  (hX:∀(w w':World) (args:Array Value),w.heap=w'.heap->X w args->X w' args)
  (own:ownKnob C.prog.godebug=none) (started:os.Started) (noInit:C.prog.inits.idxOf? f=none) (hfn:C.prog.funcs[f]?=some fn)
  (witness:∃(w:World) (tape:Tape) (i:Input),w.os=os/\(w.forCall tape i).Shaped C.prog/\i.vars=[]/\Input.okWide C.prog (w.forCall tape i) .any w.heap.size f i ∧
   ((s.pre enc C.prog fn conds apart (w.forCall tape i).memory i.args/\X (w.forCall tape i).memory i.args)/\sizedMet enc C.prog fn (OpenSpec.ofChange s) apart (w.forCall tape i).memory i.args)/\a.holds C.prog (lone (Frame.enter C.prog f i.args .normal) [] (w.forCall tape i)))
  (contract:∀(W:World) (base:Nat) (args:Array Value) (ds gs:List (DataW H)) (before:List MemPlace),
   (∀(j:Nat) t v,fn.params[j]?=some t->args[j]?=some v->Value.okWide C.prog W .any base t v) →
   DataW.Whole enc C.prog fn.params.toList s.vars apart W args.toList ds gs before →
   (DataW.weightsEach C.prog (fn.params.toList++s.plain.varTypes C.prog) (ds++gs)).all (· <= reachBytes)=true->X W args->W.ShapedOpen C.prog →
   Calls C.prog f args W fun e W'=>∃v,e=.returned v/\s.post enc C.prog fn apart fresh handsOn again W args v W') :
  ReturnsInHanded a C os f .any (fun w args=>(s.pre enc C.prog fn conds apart w args/\X w args)/\sizedMet enc C.prog fn (OpenSpec.ofChange s) apart w args) (s.post enc C.prog fn apart fresh handsOn again):=by
 refine returnsInHanded_of_calls own started noInit witness ?_;intro w tape i _ hsh _ hok hpre _;obtain⟨_,_,_,fn',hfn',_,_,_,_,hval⟩:=hok;have e:fn'=fn:=yci (hfn'.symm.trans hfn);subst e;obtain⟨⟨⟨ds,gs,before,hw,hc⟩,hx⟩,hz⟩:=hpre;have hw':=DataW.Whole.of_heap (w':=w.forCall tape i) (by rfl) hw;refine(contract (w.forCall tape i) w.heap.size i.args ds gs before hval hw' (hz.weights hw) (hX _ _ _ (by rfl) hx) hsh).mono fun e W' ⟨v,he,hp⟩=>?_
 grind [ChangeSpec.post_blind]
variable {w:World}{base:Nat}{spare:Nat->Bool}{held:Bool}{fuel:Nat}{t e:TypeId}{cs:List Value}{ps:List MemPlace}
theorem Su{α:Type}{g:α->DataW H}{u:α->Value}{l:List α}{n:Nat}(ht:P.underlying t=some (.array n e))(hc:P.cellsOf e=1)(hn:P.cellsOf t=n)
  (h1:∀(m:Nat) (c:List Value) (x:DataW H × List MemPlace) (a:α),DataW.trod enc P w base spare held m e c=some x->x.1=g a->c=[u a])
  (h:DataW.trod enc P w base spare held fuel t cs=some (.agg (l.map g),ps)):cs=l.map u:=by
 obtain⟨xs,m,_,hx,hlen,hxs,hel⟩:=DataW.trod_array ht h;simp only[Prod.mk.injEq,DataW.agg.injEq]at hx;have hl:l.length=n:=by have:=congrArg List.length hx.1;grind
 rw[hn]at hlen;refine List.ext_getElem (by rw[hlen,ybf,hl]) fun i hi1 hi2=>?_;have hi:i<n:=by omega
 have:=hel i hi;rw[hc]at this;have hc1:((cs.drop (i*1)).take 1)=[cs[i]]:=by
  grind [List.drop_eq_getElem_cons]
 rw[hc1,ybd (by omega)]at this;have hxi:xs[i].1=g (l[i]'(by omega)):=by
  have:=congrArg (fun z=>z[i]?) hx.1
  grind
 grind
def CG(he:P.underlying e=some .string)(m:Nat)(c:List Value)(x:DataW H × List MemPlace)(b:List UInt8)(h:DataW.trod enc P w base spare held m e c=some x)(hx:x.1=.lit (.string b)):c=[.string ⟨b.toArray⟩]:=by
 obtain⟨s,rfl,rfl,_⟩:=DataW.trod_string he h;simp at hx;rw[<- hx]
def zdh(he:P.underlying e=some (.int .i64))(m:Nat)(c:List Value)(x:DataW H × List MemPlace)(n:Int)(h:DataW.trod enc P w base spare held m e c=some x)(hx:x.1=.lit (.int .i64 n)):c=[.int .i64 n]:=by
 obtain⟨k,rfl,rfl,_⟩:=DataW.trod_int he h;simp at hx;rw[hx]
end
theorem joined_of{P:Program}   {c:OpenClaim}
  (A:(c.wf (OpenSpec.ofChange s)&&laidOutB P&&mapsRowed P&&fn.params.all (P.readableRec ·)&&namedTie P c.named s.vars&&(c.stops == [])&&(P.stops == [])&&(c.knobs == [])&&(P.stopKnobs == []))=true)
  (h1:(c.inPlace == P.inPlace f)=true) (h2:(c.unfollowed == P.unfollowed f)=true) (h3:(c.recurses == P.recurses f)=true) (h4:(c.named == P.varsNamed f)=true)
  (E:((c.maps == (fn.params.toList++s.plain.varTypes P).any (P.mapsRec ·))&&(c.ifaces == (fn.params.toList++s.plain.varTypes P).any (P.ifacesRec ·))&&(c.mapsOut == P.mapsAmong fn.resultTypes.toList) &&
   (c.loops == (fn.params.toList++s.plain.varTypes P).any (P.loopsFrom ·))&&(c.wideKeys == (fn.params.toList++s.plain.varTypes P++fn.resultTypes.toList).any (P.wideKeysFrom ·)) &&
   s.vars.all (P.varReadable ·)&&fn.resultTypes.all (fun t=>P.readableRec t&&decide (t<P.types.size))&&(c.ifacesOut == fn.resultTypes.toList.any (P.ifacesRec ·))&&(c.loopsOut == fn.resultTypes.toList.any (P.loopsFrom ·))&&c.shortTexts.isNone)=true)
  (h5:(c.plainKeys == P.plainKeys)=true) (h6:P.stopsHeard=true) (h7:P.mayEnter=true) (h8:(c.lifted == P.liftsFinal)=true)
  (R:((P.make == some c.make)&&(c.kinds == (if c.domain.isEmpty then []else fn.params.toList.map fun t=>match P.underlying t with | some (.int k)=>some k | _=>none))&&(c.pinned == c.pinnedBy) &&
   (c.veiled == (fn.params.toList++s.plain.varTypes P++fn.resultTypes.toList).any (P.veiledRec ·))&&c.veiledFits P fn.params.toList (fn.params.toList++s.plain.varTypes P++fn.resultTypes.toList))=true) :
  joinedFacts P f fn s c=true:=by
 unfold joinedFacts;simp only[ybb]at A E R ⊢
 grind
end Go.Am
namespace Go.Proofs.YthibiocejpbmgaaGreatDoor
open Go Go.Am Go.RowKit Go.ChangeShapes Go.WideShapes Go.ChangeAt
variable {W:World}{base g:Nat}{H:Type}{enc:TypeId × Value->H}
theorem own:ownKnob Tryz.prog.godebug=none:=by kernel_rfl
def laidOut:laidOutB Tryz.prog=true:=by kernel_rfl
def gPow : Tryz.prog.globalNamed "internal/strconv.uint64pow10" = some 5 := by kernel_rfl
def gLens : Tryz.prog.globalNamed "annuitant/calendar.lengths" = some 4 := by kernel_rfl
def gKinds : Tryz.prog.globalNamed "annuitant/operation.argumentKinds" = some 0 := by kernel_rfl
def gModes : Tryz.prog.globalNamed "annuitant/parse.modeWords" = some 1 := by kernel_rfl
def tPow:(Tryz.prog.globals[5]?).map (·.type)=some 301:=by kernel_rfl
def tLens:(Tryz.prog.globals[4]?).map (·.type)=some 298:=by kernel_rfl
def tKinds:(Tryz.prog.globals[0]?).map (·.type)=some 198:=by kernel_rfl
def tModes:(Tryz.prog.globals[1]?).map (·.type)=some 239:=by kernel_rfl
def laid6 : List (String × DataW Unit) := [("math/bits.deBruijn32tab", Rows.laid_math_bits_deBruijn32tab), ("math/bits.deBruijn64tab", Rows.laid_math_bits_deBruijn64tab), ("internal/strconv.uint64pow10", Rows.laid_internal_strconv_uint64pow10), ("annuitant/calendar.lengths", Rows.laid_annuitant_calendar_lengths), ("annuitant/parse.modeWords", Rows.laid_annuitant_parse_modeWords), ("annuitant/operation.argumentKinds", Rows.laid_annuitant_operation_argumentKinds)]
def door_met(os:Os)(args:Array Value):laidMetH Tryz.prog laid6 ((World.doorLaid Tryz.prog 100 os).forCall (fun _ _=>0) ⟨#[],args,[]⟩).memory:=
 laidMetH_of_parts3 (fuel:=8) (laidMet_of_run' 8 (by kernel_rfl) (by kernel_rfl)) (by kernel_rfl) (by kernel_rfl)
def Nu {n:String} {cs:Array Value}(hg:Tryz.prog.globalNamed n=some g)(hv:W.var? Tryz.prog n=some cs)(hc:∃c t,W.heap[g]?=some (.cells c t (0,0))):∃t,W.heap[g]?=some (.cells cs t (0,0)):=by
 obtain⟨c,t,hc⟩:=hc;unfold World.var? at hv;rw[hg]at hv;simp only[yai,hc,Option.some.injEq]at hv;subst hv;exact⟨t,hc⟩
def Ph{n:Nat}{p q:List MemPlace}(h:0<n):MemPlace.cell g 0∈MemPlace.row ⟨g,0,none⟩ n++p++q:=
 ydc _ (ydc _ (yaq.2 ⟨0,List.mem_range.2 h,rfl⟩))
def zib:Rows.laid_internal_strconv_uint64pow10 (H:=Unit)=.agg (pW.map fun n=>.lit (.int .u64 n)):=by kernel_rfl
def zc9:Rows.laid_annuitant_calendar_lengths (H:=Unit)=.agg (dQ.map fun n=>.lit (.int .i64 n)):=by kernel_rfl
def WA:Rows.laid_annuitant_operation_argumentKinds (H:=Unit)=.agg (lN.map fun b=>.lit (.string b)):=by kernel_rfl
def VZ:Rows.laid_annuitant_parse_modeWords (H:=Unit)=.agg (gP.map fun b=>.lit (.string b)):=by kernel_rfl
def zbv  {P:Program}{w:World} {spare:Nat->Bool}{held:Bool}{e:TypeId}(he:P.underlying e=some (.int .u64))(m:Nat)(c:List Value)(x:DataW H × List MemPlace)(n:Int)(h:DataW.trod enc P w base spare held m e c=some x)(hx:x.1=.lit (.int .u64 n)):c=[.int .u64 n]:=by
 obtain⟨k,rfl,rfl,_⟩:=DataW.trod_int he h;simp at hx;rw[hx]
def laid_of (h:laidMetH Tryz.prog laid6 W)(hsh:W.ShapedOpen Tryz.prog):wJ W:=by
 rw[MakeChecks.laidMetH_plain _ _ _ (by kernel_rfl)]at h;obtain⟨ps,⟨_,_,_,_,_,_,_,_,_,_,⟨_,_,_,_,_,_,_,_,_,_,⟨g0,t0,cs0,f0,p0,q0,hg0,ht0,hv0,hd0,⟨g1,t1,cs1,f1,p1,q1,hg1,ht1,hv1,hd1,⟨g2,t2,cs2,f2,p2,q2,hg2,ht2,hv2,hd2,⟨g3,t3,cs3,f3,p3,q3,hg3,ht3,hv3,hd3,_,hp3⟩,hp2⟩,hp1⟩,hp0⟩,hpb⟩,hpa⟩,_,hcell⟩:=h;obtain rfl:=yci (gPow.symm.trans hg0);obtain rfl:=yci (gLens.symm.trans hg1);obtain rfl:=yci (gModes.symm.trans hg2)
 obtain rfl:=yci (gKinds.symm.trans hg3);obtain rfl:=yci (tPow.symm.trans ht0);obtain rfl:=yci (tLens.symm.trans ht1);obtain rfl:=yci (tModes.symm.trans ht2);obtain rfl:=yci (tKinds.symm.trans ht3);have c3:Tryz.prog.cellsOf 3=1:=by kernel_rfl
 have c9:Tryz.prog.cellsOf 9=1:=by kernel_rfl
 have c245:Tryz.prog.cellsOf 245=1:=by kernel_rfl
 have c301:Tryz.prog.cellsOf 301=20:=by kernel_rfl
 have c298:Tryz.prog.cellsOf 298=12:=by kernel_rfl
 have c239:Tryz.prog.cellsOf 239=7:=by kernel_rfl
 have c198:Tryz.prog.cellsOf 198=27:=by kernel_rfl
 rw[zib]at hd0;rw[zc9]at hd1;rw[VZ]at hd2;rw[WA]at hd3;have e0:cs0.toList=u64s pW:=Su (l:=pW) (g:=fun n=>.lit (.int .u64 n)) (u:=fun n=>.int .u64 n) Tryz.underlying301 c245 c301 (fun m c x a=>zbv Tryz.underlying245 m c x a) hd0;have e1:cs1.toList=Av dQ:=Su (l:=dQ) (g:=fun n=>.lit (.int .i64 n)) (u:=fun n=>.int .i64 n) Tryz.underlying298 c3 c298 (fun m c x a=>zdh Tryz.underlying3 m c x a) hd1
 have e2:cs2.toList=xM gP:=Su (l:=gP) (g:=fun b=>.lit (.string b)) (u:=fun b=>.string ⟨b.toArray⟩) Tryz.underlying239 c9 c239 (fun m c x a=>CG Tryz.underlying9 m c x a) hd2;have e3:cs3.toList=xM lN:=Su (l:=lN) (g:=fun b=>.lit (.string b)) (u:=fun b=>.string ⟨b.toArray⟩) Tryz.underlying198 c9 c198 (fun m c x a=>CG Tryz.underlying9 m c x a) hd3;have s0:cs0=(u64s pW).toArray:=by rw[<- e0]
 have s1:cs1=(Av dQ).toArray:=by rw[<- e1]
 have s2:cs2=(xM gP).toArray:=by rw[<- e2]
 have s3:cs3=(xM lN).toArray:=by rw[<- e3]
 subst s0 s1 s2 s3;have m0:MemPlace.cell 5 0∈ps:=by
  rw[hpa,hpb,hp0];exact ycf _ (ycf _ (Ph (by decide)))
 have m1:MemPlace.cell 4 0∈ps:=by
  rw[hpa,hpb,hp0,hp1];exact ycf _ (ycf _ (ycf _ (Ph (by decide))))
 have m2:MemPlace.cell 1 0∈ps:=by
  rw[hpa,hpb,hp0,hp1,hp2];exact ycf _ (ycf _ (ycf _ (ycf _ (Ph (by decide)))))
 have m3:MemPlace.cell 0 0∈ps:=by
  rw[hpa,hpb,hp0,hp1,hp2,hp3];exact ycf _ (ycf _ (ycf _ (ycf _ (ycf _ (Ph (by decide))))))
 exact⟨Nu hg3 hv3 (hcell 0 0 m3).1,Nu hg2 hv2 (hcell 1 0 m2).1,Nu hg1 hv1 (hcell 4 0 m1).1,Tryz.laysM144.s1_3 W hsh,Nu hg0 hv0 (hcell 5 0 m0).1⟩
def stopsHeard:Tryz.prog.stopsHeard=true:=by kernel_rfl
def mayEnter:Tryz.prog.mayEnter=true:=by kernel_rfl
def bool4:Tryz.prog.underlying 4=some .bool:=Tryz.underlying4
def api26:Te Tryz.prog:={
 b:=4,i:=3,u8:=5,u16:=204,s:=9,limbs:=39,whole:=41,frac:=43,val:=45,expr:=48,exprs:=46,row:=71,rows:=66,table:=68,tables:=23,dfn:=65,dfns:=22,clause:=50,clauses:=24,plan:=26,
 hb:=Tryz.underlying4,hi:=Tryz.underlying3,hu8:=Tryz.underlying5,hu16:=Tryz.underlying204,hs:=Tryz.underlying9,hlimbs:=Tryz.underlying39,hexprs:=Tryz.underlying46,hrows:=Tryz.underlying66,htables:=Tryz.underlying23,hdfns:=Tryz.underlying22,hclauses:=Tryz.underlying24,
 hwhole:=⟨_,Tryz.underlying41,rfl⟩,hfrac:=⟨_,Tryz.underlying43,rfl⟩,hval:=⟨_,Tryz.underlying45,rfl⟩,hexpr:=⟨_,Tryz.underlying48,rfl⟩,hrow:=⟨_,Tryz.underlying71,rfl⟩,htable:=⟨_,Tryz.underlying68,rfl⟩,hdfn:=⟨_,Tryz.underlying65,rfl⟩,hclause:=⟨_,Tryz.underlying50,rfl⟩,hplan:=⟨_,Tryz.underlying26,rfl⟩,
 cu16:=by kernel_rfl,cexpr:=by kernel_rfl,crow:=by kernel_rfl,ctable:=by kernel_rfl,cdfn:=by kernel_rfl,cclause:=by kernel_rfl,
 bytes:=⟨of_decide_eq_true (by kernel_rfl),of_decide_eq_true (by kernel_rfl),of_decide_eq_true (by kernel_rfl),of_decide_eq_true (by kernel_rfl),of_decide_eq_true (by kernel_rfl),of_decide_eq_true (by kernel_rfl)⟩ }
def Ps:List Nat:=[4,3,5,204,9,39,41,43,45,48,46,71,66,68,23,65,22,50,24,26]
def partB(t:TypeId):Bool:=match Tryz.prog.underlying t with
 | some .bool=>true
 | some (.int _)=>true
 | some .string=>true
 | some (.slice e)=>Ps.contains e&&Nat.blt 0 (Tryz.prog.cellsOf e)
 | some (.struct fs)=>fs.toList.all (fun f=>Ps.contains f.type)&&Gd Tryz.prog 0 fs.toList (Tryz.prog.cellsOf t)
 | _=>false
def UF:Ps.all partB=true:=by kernel_rfl
def zhr:Plain Tryz.prog (fun t=>t∈Ps):=⟨fun t ht=>by
 have h:=ycb.1 UF t ht;unfold partB at h
 cases hu:Tryz.prog.underlying t with
 | none=>simp_all
 | some d=>
  rw[hu]at h
  cases d with
  | bool=>trivial
  | int k=>trivial
  | string=>trivial
  | slice e=>
   simp_all
  | struct fs=>
   grind
  | _=>cases h⟩
def open_plan    {v:Value}{d:DataW H}{ps:List MemPlace}(hL:wJ W)(hok:Value.okWide Tryz.prog W .any base 26 v)(h:DataW.Trod enc Tryz.prog W 0 (fun _=>true) true 26 v d ps)(hw:(DataW.weights Tryz.prog 26 d).all (· <= reachBytes)=true) :
  ∃(cs:Array Value) (p:rG),v=.agg cs/\p.fit/\Has W.heap.size cs.toList/\RD (nI W) p.d (cs.toList.map (av W.heap.size)):=by
 obtain⟨cs,rfl,_,_⟩:∃cs,v=.agg cs/\cs.size=Tryz.prog.cellsOf 26/\Row.okWide Tryz.prog W .any base 26 cs:=by
  grind [Value.okWide,Tryz.underlying26]
 obtain⟨fuel,h⟩:=h;obtain⟨c,n,lo,hc,_⟩:=@JX W hL ⟨0⟩;obtain⟨h1,x,h2,h3⟩:=zhp zhr ⟨c,n,lo,hc⟩ fuel 26 cs.toList (d,ps) (by decide) h hw;obtain⟨p,rfl,hp⟩:=api26.dPlan h3
 grind
end Go.Proofs.YthibiocejpbmgaaGreatDoor
namespace Go.Am
open Go Go.RowKit Go.Proofs
def back3{w:World}(hL:wJ w){ds:Array Value}{p:rG}(hp:p.fit)
  (hk:Has w.heap.size ds.toList) (hr:RD (nI w) p.d (ds.toList.map (av w.heap.size))) :
  Calls Tryz.prog 3 #[.agg ds] w fun e w'=>e=.returned (.bool true)/\Below w.heap.size w w':=
 QL hL 3 [.agg (ds.toList.map (av w.heap.size))] _ (by intro _;kernel_rfl) (.single (zcq hk)) ⟨_,ZY hp (zis hL) (zdo hL) (JX hL) (zdp hL) hr,fun v t h=>h⟩
end Go.Am
