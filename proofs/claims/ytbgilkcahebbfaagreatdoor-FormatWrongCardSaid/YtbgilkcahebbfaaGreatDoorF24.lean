/- FormatWrong: the plain law. -/
import Derived.Test.YtbgilkcahebbfaaGreatDoorF23
set_option linter.all false
noncomputable section
set_option maxRecDepth 100000
namespace Go.Proofs
open Go Go.Am
variable [jC]
def z2y{x:rA}{d:Nat}(h:gD x d=true)(h1:x.op=1):x.args=[]:=by
 obtain⟨op,name,v,args⟩:=x
 have h1:op=1:=h1
 subst h1;unfold gD gM at h;simp only[ybb,decide_eq_true_eq]at h;have:=h.1.2.1.2
 have e:(pC 1).most=0:=rfl
 rw[e]at this;exact ycc.1 (by show args.length=0;omega)
def gU{op:Nat}{name:List Nat}{v:dE}{args:List rA}{d:Nat}(h:gD (.mk op name v args) d=true):gM op name args.length=true/\(op=1/\args=[]\/op≠1/\zew args (d+1)=true):=by
 have h0:=h
 rw[gD]at h;simp only[ybb]at h;refine⟨h.1.2,?_⟩
 by_cases ho:op=1
 ·exact .inl ⟨ho,z2y h0 ho⟩
 ·have h2:=h.2
  rw[yaa ho,ybb]at h2;exact .inr ⟨ho,h2.2⟩
def zgg{op:Nat}{name:List Nat}{v:dE}{args:List rA}{d i:Nat}{y:rA}(h:gD (.mk op name v args) d=true)(hi:args[i]?=some y):op≠1/\gD y (d+1)=true:=by
 have hm:=ycv hi
 rcases(gU h).2 with⟨_,e⟩ | ⟨e,k⟩
 ·rw[e]at hm;cases hm
 ·rw[iY]at k
  exact⟨e,ycb.1 k y hm⟩
def z3r:∀(ws:List Nat) (x:rA) (d:Nat),gD x d=true->∃e,gD (zz5 ws x) e=true
 | [],x,d,h=>⟨d,h⟩
 | w::ws,x,d,h=>by
  unfold zz5
  cases hi:x.args[w%x.args.length]? with
  | none=>exact⟨d,h⟩
  | some y=>
   obtain⟨op,name,v,args⟩:=x
   exact z3r ws y (d+1) (zgg h hi).2
def zje{y:rA}(hy:∀e,gD y e=false):∀(ws:List Nat) (x:rA) (d:Nat),gD (zo0 y ws x) d=false
 | [],x,d=>hy d
 | w::ws,x,d=>by
  unfold zo0
  cases hi:x.args[w%x.args.length]? with
  | none=>exact hy d
  | some z=>
   obtain⟨op,name,v,args⟩:=x
   have hlt:w%args.length<args.length:=(ybc.1 hi).1
   show gD (.mk op name v (args.set (w%args.length) (zo0 y ws z))) d=false
   cases hq:gD (.mk op name v (args.set (w%args.length) (zo0 y ws z))) d with
   | false=>rfl
   | true=>
    have h1:(args.set (w%args.length) (zo0 y ws z))[w%args.length]?=some (zo0 y ws z):=by rw[ycw,yab rfl,yab hlt]
    have:=(zgg hq h1).2
    rw[zje hy ws z (d+1)]at this
    cases this
def mH:rA:=.mk 2 [] ⟨0,⟨⟨false,[]⟩,⟨false,[]⟩⟩,0⟩ []
def zqb (k:Nat):rA->rA
 | .mk op name v args=>match k with
  | 0=>.mk op name v (args++(if op=6/\args.length=1 then [mH,mH]else [mH]))
  | 1=>.mk (if op=1\/op=2 then 17 else op) name v []
  | 2=>.mk op (name++[46]) v args
  | 3=>.mk op name ⟨(v.kind+7)%256,v.f,v.i⟩ args
  | 4=>.mk ((op+26)%256) name v args
  | _=>.mk op name ⟨v.kind,v.f,v.i+4194304⟩ args
def zm6:((List.range 27).all fun op=>decide ((pC op).style=0)||((decide (op=6)||decide ((pC op).least=(pC op).most))&&((!decide (op=6)||decide ((pC op).most=2))&&(decide (op=1)||(decide (op=2)||decide (0<(pC op).least))))))=true:=by kernel_rfl
def mQ{op n:Nat}{name:List Nat}(h:gM op name n=true):op<27/\op≠0/\(pC op).least<=n/\n<=(pC op).most/\(op=6\/(pC op).least=(pC op).most)/\(op≠6\/(pC op).most=2)/\(op=1\/op=2\/0<(pC op).least)/\(name=[]\/yI name=true):=by
 unfold gM at h;simp only[ybb,decide_eq_true_eq,ycp,decide_eq_false_iff_not]at h;obtain⟨⟨⟨⟨h1,h2⟩,h3⟩,h4⟩,h5⟩:=h
 have hc:=ycb.1 zm6 op (List.mem_range.2 h1)
 simp only[ycq,ybb,decide_eq_true_eq,ycp,decide_eq_false_iff_not]at hc;refine⟨h1,fun e=>h2 (by rw[e];rfl),h3,h4,?_,?_,?_,?_⟩
 ·rcases hc with hc | hc
  ·exact absurd hc h2
  ·exact hc.1
 ·rcases hc with hc | hc
  ·exact absurd hc h2
  ·exact hc.2.1
 ·rcases hc with hc | hc
  ·exact absurd hc h2
  ·exact hc.2.2
 ·split at h5
  ·exact .inr h5
  ·exact .inl ((mK _ _).1 h5)
def z03(s:List Nat):yI (s++[46])=false:=by
 cases hq:yI (s++[46])with
 | false=>rfl
 | true=>
  exfalso
  cases s with
  | nil=>revert hq;unfold yI;simp[pP]
  | cons x r=>
   have e:x::r++[46]=x::(r++[46]):=rfl
   rw[e]at hq;unfold yI at hq;simp only[ybb]at hq;have h1:=(mK _ _).1 hq.1.2
   unfold zzm at h1;have h2:nP 46=true:=by
    have h3:∀y∈(x::(r++[46])).takeWhile nP,nP y=true:=fun y hy=>by
     have h4:∀(l:List Nat),y∈l.takeWhile nP->nP y=true:=by
      intro l;induction l with
      | nil=>intro h;cases h
      | cons z l ih=>
       intro h;rw[List.takeWhile_cons]at h;split at h
       ·rename_i hz
        rcases ybs.1 h with e | h
        ·rw[e];exact hz
        ·exact ih h
       ·cases h
     exact h4 _ hy
    exact h3 46 (by rw[h1];simp)
   revert h2
   decide
def z1t{op n:Nat}{name:List Nat}{v:dE}{args:List rA}{e:Nat}(h:gM op name args.length=false):gD (.mk op name v args) e=false:=by
 rw[gD,h];simp
def zQ{v:dE}(h:zgn v=true):v.kind=0/\v.i=0:=by
 unfold zgn at h;simp only[ybb,decide_eq_true_eq]at h;exact h.1
def zyh{z:rA}{d:Nat}(h:gD z d=true)(k:Nat)(e:Nat):gD (zqb k z) e=false:=by
 obtain⟨op,name,v,args⟩:=z
 obtain⟨h1,h2⟩:=gU h
 obtain⟨f1,f2,f3,f4,f5,f6,f7,f8⟩:=mQ h1
 have hh:∀ {op':Nat} {name':List Nat} {v':dE} {args':List rA},(gM op' name' args'.length=true->False)->gD (.mk op' name' v' args') e=false:=fun {op' name' v' args'} hf=>z1t (n:=0) (by
  cases hq:gM op' name' args'.length with
  | false=>rfl
  | true=>exact(hf hq).elim)
 have hv:∀ {v':dE} (_:op=1->eJ v'=false) (_:op≠1->eM op v'=false),gD (.mk op name v' args) e=false:=fun {v'} g1 g2=>by
  rw[gD];by_cases ho:op=1
  ·rw[yab ho,g1 ho];simp
  ·rw[yaa ho,g2 ho];simp
 have hc0:op≠1->v.kind=0/\(op=19/\1<=v.i/\v.i<=6\/op≠19/\v.i=0):=fun ho=>by
  rw[gD]at h;rw[yaa ho]at h;simp only[ybb]at h;have h3:=h.2.1
  unfold eM at h3;split at h3
  ·rename_i h19
   simp only[ybb,decide_eq_true_eq]at h3;exact⟨(zQ h3.2).1,.inl ⟨h19,h3.1.1,h3.1.2⟩⟩
  ·rename_i h19
   exact⟨(zQ h3).1,.inr ⟨h19,(zQ h3).2⟩⟩
 have hp0:op=1->eJ v=true:=fun ho=>by
  rw[gD,yab ho]at h;simp only[ybb]at h;exact h.2
 unfold zqb;match k with
 | 0=>
  refine hh fun hq=>?_
  have:=(mQ hq).2.2.2.1
  rw[ybg]at this;split at this
  ·rename_i h6
   have e2:[mH,mH].length=2:=rfl
   rw[e2]at this;rcases f6 with f6 | f6
   ·exact f6 h6.1
   ·omega
  ·rename_i h6
   have e2:[mH].length=1:=rfl
   rw[e2]at this;rcases f5 with f5 | f5
   ·rcases f6 with f6 | f6
    ·exact f6 f5
    ·have:args.length≠1:=fun e=>h6 ⟨f5,e⟩
     have e3:(pC 6).least=1:=rfl
     rw[f5]at f3;omega
   ·omega
 | 1=>
  refine hh fun hq=>?_
  have hf:=mQ hq
  have e0:([]:List rA).length=0:=rfl
  rw[e0]at hf;by_cases ho:op=1\/op=2
  ·rw[yab ho]at hf
   have:=hf.2.2.1
   have e3:(pC 17).least=1:=rfl
   omega
  ·rw[yaa ho]at hf
   have:=hf.2.2.1
   rcases f7 with f7 | f7 | f7<;>omega
 | 2=>
  refine hh fun hq=>?_
  rcases(mQ hq).2.2.2.2.2.2.2 with hn | hn
  ·simp at hn
  ·rw[z03]at hn;cases hn
 | 3=>
  refine hv (fun ho=>?_) (fun ho=>?_)
  ·have hp:=hp0 ho
   unfold eJ at hp ⊢
   simp only at hp ⊢
   split at hp
   ·rw[yaa (by omega),yaa (by omega),yaa (by omega),yaa (by omega)]
   ·split at hp
    ·rw[yaa (by omega),yaa (by omega),yaa (by omega),yaa (by omega)]
    ·split at hp
     ·rw[yaa (by omega),yaa (by omega),yaa (by omega),yaa (by omega)]
     ·split at hp
      ·rw[yaa (by omega),yaa (by omega),yaa (by omega),yaa (by omega)]
      ·cases hp
  ·have hk:=(hc0 ho).1
   cases hq:eM op ⟨(v.kind+7)%256,v.f,v.i⟩with
   | false=>rfl
   | true=>
    unfold eM at hq;split at hq
    ·simp only[ybb]at hq
     have:=(zQ hq.2).1
     simp only at this
     omega
    ·have:=(zQ hq).1
     simp only at this
     omega
 | 4=>
  refine hh fun hq=>?_
  have:=(mQ hq).1
  omega
 | k+5=>
  refine hv (fun ho=>?_) (fun ho=>?_)
  ·have hp:=hp0 ho
   unfold eJ at hp ⊢
   simp only at hp ⊢
   split at hp
   ·rename_i hk
    rw[yab hk];simp only[ybb,decide_eq_true_eq]at hp;rw[decide_eq_false (by omega)];rfl
   ·rename_i hk
    rw[yaa hk];split at hp
    ·rename_i hk1
     rw[yab hk1];simp only[ybb,ycq,decide_eq_true_eq]at hp;rw[decide_eq_false (by omega),decide_eq_false (by omega)];simp
    ·rename_i hk1
     rw[yaa hk1];split at hp
     ·rename_i hk2
      rw[yab hk2];simp only[ybb,decide_eq_true_eq]at hp;rw[decide_eq_false (show ¬ v.i+4194304<65536 by omega)];simp
     ·rename_i hk2
      rw[yaa hk2];split at hp
      ·rename_i hk3
       rw[yab hk3];simp only[ybb,decide_eq_true_eq]at hp;rw[decide_eq_false (show ¬ v.i+4194304<=1048576 by omega)];simp
      ·cases hp
  ·have hk:=(hc0 ho).2
   cases hq:eM op ⟨v.kind,v.f,v.i+4194304⟩with
   | false=>rfl
   | true=>
    unfold eM at hq;split at hq
    ·simp only[ybb,decide_eq_true_eq]at hq
     have:=hq.1.2
     omega
    ·have:=(zQ hq).2
     simp only at this
     omega
def badP (y:rA):lN:=⟨[112],[],[],[⟨[97],[98],0,1,0,false,y,y⟩]⟩
def z2u{y:rA}(h:gD y 1=false):zrq (badP y)=false:=by
 unfold zrq badP;have:qT ⟨[97],[98],0,1,0,false,y,y⟩=false:=by
  unfold qT;simp[h]
 simp[this]
def zzq:dE.fit ⟨0,⟨⟨false,[]⟩,⟨false,[]⟩⟩,0⟩:=by
 refine⟨by decide,⟨?_,?_,?_⟩,by decide,by decide⟩
 ·exact⟨by decide,by decide⟩
 ·intro x hx;cases hx
 ·intro x hx;cases hx
def zu4{z:rA}{d:Nat}(h:gD z d=true) : -1048576<=z.v.i/\z.v.i<=1048576:=by
 obtain⟨op,name,v,args⟩:=z
 show -1048576<=v.i/\v.i<=1048576
 rw[gD]at h;simp only[ybb]at h;have h2:=h.2
 split at h2
 ·unfold eJ at h2
  split at h2
  ·simp only[ybb,decide_eq_true_eq]at h2;omega
  ·split at h2
   ·simp only[ybb,ycq,decide_eq_true_eq]at h2;omega
   ·split at h2
    ·simp only[ybb,decide_eq_true_eq]at h2;omega
    ·split at h2
     ·simp only[ybb,decide_eq_true_eq]at h2;omega
     ·cases h2
 ·simp only[ybb]at h2
  have h3:=h2.1
  unfold eM at h3;split at h3
  ·simp only[ybb,decide_eq_true_eq]at h3;omega
  ·have:=(zQ h3).2;omega
def zrf{z:rA}{d:Nat}(h:gD z d=true):z.v.kind<=6:=by
 obtain⟨op,name,v,args⟩:=z
 show v.kind<=6
 rw[gD]at h;simp only[ybb]at h;have h2:=h.2
 split at h2
 ·unfold eJ at h2
  split at h2
  ·omega
  ·split at h2
   ·omega
   ·split at h2
    ·omega
    ·split at h2
     ·omega
     ·cases h2
 ·simp only[ybb]at h2
  have h3:=h2.1
  unfold eM at h3;split at h3
  ·simp only[ybb,decide_eq_true_eq]at h3
   have:=(zQ h3.2).1
   simp only at this
   omega
  ·have:=(zQ h3).1;omega
def z61{z:rA}{d k:Nat}(h:z.fit)(hP:gD z d=true):(zqb k z).fit:=by
 obtain⟨op,name,v,args⟩:=z
 have hh:=(mQ (gU hP).1).1
 unfold rA.fit at h;obtain⟨h1,h2,h3,h4,h5,h6⟩:=h
 have ht:mH.fit:=by
  unfold mH rA.fit;refine⟨by omega,by unfold mD;simp,by simp,?_,by unfold mD;simp,by unfold rA.fits;trivial⟩
  exact zzq
 unfold zqb;match k with
 | 0=>
  show(rA.mk op name v (args++(if op=6/\args.length=1 then [mH,mH]else [mH]))).fit
  have happ:∀(l m:List rA),rA.fits l->rA.fits m->rA.fits (l++m):=by
   intro l;induction l with
   | nil=>intro m _ hm;exact hm
   | cons x l ih=>
    intro m hl hm;unfold rA.fits at hl;show rA.fits (x::(l++m))
    unfold rA.fits;exact⟨hl.1,ih m hl.2 hm⟩
  have hfew:args.length<=3:=by
   have hm:=(mQ (gU hP).1).2.2.2.1
   have h27:((List.range 27).all fun op=>decide ((pC op).most<=3))=true:=by kernel_rfl
   have:=ycb.1 h27 op (List.mem_range.2 hh)
   simp only[decide_eq_true_eq]at this;omega
  unfold rA.fit;refine⟨h1,h2,h3,h4,?_,happ _ _ h6 ?_⟩
  ·rw[ybg]
   unfold mD;split
   ·show args.length+2<_;omega
   ·show args.length+1<_;omega
  ·split
   ·unfold rA.fits;refine⟨ht,?_⟩;unfold rA.fits;refine⟨ht,?_⟩;unfold rA.fits;trivial
   ·unfold rA.fits;refine⟨ht,?_⟩;unfold rA.fits;trivial
 | 1=>
  show(rA.mk (if op=1\/op=2 then 17 else op) name v []).fit
  unfold rA.fit;exact⟨by split<;>omega,h2,h3,h4,by unfold mD;simp,by unfold rA.fits;trivial⟩
 | 2=>
  show(rA.mk op (name++[46]) v args).fit
  have hn:name.length<=24:=by
   rcases(mQ (gU hP).1).2.2.2.2.2.2.2 with e | e
   ·rw[e];simp
   ·exact zbr e
  unfold rA.fit;refine⟨h1,by rw[ybg];unfold mD;show name.length+1<_;omega,fun c hc=>?_,h4,h5,h6⟩
  rcases yaf.1 hc with hc | hc
  ·exact h3 c hc
  ·simp at hc;omega
 | 3=>
  show(rA.mk op name ⟨(v.kind+7)%256,v.f,v.i⟩ args).fit
  unfold rA.fit;exact⟨h1,h2,h3,⟨ycy _ (by omega),h4.2⟩,h5,h6⟩
 | 4=>
  show(rA.mk ((op+26)%256) name v args).fit
  unfold rA.fit;exact⟨ycy _ (by omega),h2,h3,h4,h5,h6⟩
 | k+5=>
  show(rA.mk op name ⟨v.kind,v.f,v.i+4194304⟩ args).fit
  have hi:=zu4 hP
  simp only[rA.v]at hi;unfold rA.fit;exact⟨h1,h2,h3,⟨h4.1,h4.2.1,by show _<=v.i+4194304;omega,by show v.i+4194304<_;omega⟩,h5,h6⟩
def zp2:∀ {l:List rA} {i:Nat} {z:rA},rA.fits l->z.fit->rA.fits (l.set i z)
 | [],i,z,h,_=>h
 | x::l,0,z,h,hz=>by
  unfold rA.fits at h;rw[List.set_cons_zero];unfold rA.fits;exact⟨hz,h.2⟩
 | x::l,i+1,z,h,hz=>by
  unfold rA.fits at h;rw[List.set_cons_succ];unfold rA.fits;exact⟨h.1,zp2 h.2 hz⟩
def zvo{y:rA}(hy:y.fit):∀(ws:List Nat) (x:rA),x.fit->(zo0 y ws x).fit
 | [],x,_=>hy
 | w::ws,x,h=>by
  unfold zo0
  cases hi:x.args[w%x.args.length]? with
  | none=>exact hy
  | some z=>
   obtain⟨op,name,v,args⟩:=x
   unfold rA.fit at h;have hz:=zvo hy ws z (rA.fits_mem h.2.2.2.2.2 z (ycv hi))
   show(rA.mk op name v (args.set (w%args.length) (zo0 y ws z))).fit
   unfold rA.fit;exact⟨h.1,h.2.1,h.2.2.1,h.2.2.2.1,by rw[ydh];exact h.2.2.2.2.1,zp2 h.2.2.2.2.2 hz⟩
def zlt:∀(ws:List Nat) (x:rA),x.fit->(zz5 ws x).fit
 | [],x,h=>h
 | w::ws,x,h=>by
  unfold zz5
  cases hi:x.args[w%x.args.length]? with
  | none=>exact h
  | some z=>
   obtain⟨op,name,v,args⟩:=x
   unfold rA.fit at h;exact zlt ws z (rA.fits_mem h.2.2.2.2.2 z (ycv hi))
end Go.Proofs
namespace Go.Proofs
open Go Go.Am
section
variable [jC]
variable {t tf t0:Tr qA}
def defT (v2:Int)(v9 v10:zA):T:=
 (.ite (uB (Int.tmod v2 6) 0)
 (.opt (oB v10) fun a90=>.opt (vB yA 31 0 a90) fun a91=>.light (fun m=>mA yA 5 ⟨0,m⟩ a91) fun a92=>.asI .u8 a92 fun n93=>.ite (uB n93 6)
 (.opt (oB v10) fun a94=>.opt (vB yA 31 3 a94) fun a95=>.light (fun m=>mA yA 29 ⟨0,m⟩ a95) fun a96=>.opt (yC a96) fun a97=>.asI .i64 a97 fun n98=>.ite (uB n98 1)
 (.opt (oB v10) fun a99=>.opt (vB yA 31 3 a99) fun a100=>.light (fun m=>mA yA 29 ⟨0,m⟩ a100) fun a101=>.ite true (.opt (yC a101) fun a102=>.asI .i64 a102 fun n103=>.heavy (dG yA 29 1 [(0,(.agg [(.int .u8 0),(.str []),(.int .u8 0),(.bool false),.nilslice,(.bool false),.nilslice,(.int .i64 0),.nilslice]))]) fun a104=>
 .light (fun m=>mA yA 29 ⟨0,m⟩ a100) fun a105=>.ite (same 10 a105 a101) (.opt (yC a101) fun a106=>.ite (same 10 a106 (.int .i64 n103)) (.heavy (bE yA 29 29 a101 a104) fun a107=>
 .opt (zC yA 29 a107 (.int .i64 n103)) fun a108=>.opt (oB v10) fun a109=>.opt (vB yA 31 3 a109) fun a110=>.heavy (vM yA [.store 31 a108 (.agg [(.int .u8 2),(.str []),(.int .u8 0),(.bool false),.nilslice,(.bool false),.nilslice,(.int .i64 0),.nilslice]),.store 29 a110 a107]) fun _=>
 .jump 39 [v9,v10]) .fail) .fail) .fail)
 (.jump 39 [v9,v10]))
 (.jump 39 [v9,v10]))
 (.ite (uB (Int.tmod v2 6) 1)
 (.opt (oB v10) fun a111=>.opt (vB yA 31 0 a111) fun a112=>.light (fun m=>mA yA 5 ⟨0,m⟩ a112) fun a113=>.asI .u8 a113 fun n114=>.ite (uB n114 1)
 (.opt (oB v10) fun a115=>.opt (vB yA 31 0 a115) fun a116=>.heavy (sC yA 5 a116 (.int .u8 17)) fun _=>
 .opt (oB v10) fun a117=>.opt (vB yA 31 3 a117) fun a118=>.heavy (sC yA 29 a118 .nilslice) fun _=>
 .jump 61 [v9])
 (.opt (oB v10) fun a119=>.opt (vB yA 31 0 a119) fun a120=>.light (fun m=>mA yA 5 ⟨0,m⟩ a120) fun a121=>.asI .u8 a121 fun n122=>.ite (uB n122 2)
 (.opt (oB v10) fun a123=>.opt (vB yA 31 0 a123) fun a124=>.heavy (sC yA 5 a124 (.int .u8 17)) fun _=>
 .opt (oB v10) fun a125=>.opt (vB yA 31 3 a125) fun a126=>.heavy (sC yA 29 a126 .nilslice) fun _=>
 .jump 61 [v9])
 (.opt (oB v10) fun a127=>.opt (vB yA 31 3 a127) fun a128=>.heavy (sC yA 29 a128 .nilslice) fun _=>
 .jump 61 [v9])))
 (.ite (uB (Int.tmod v2 6) 2)
 (.opt (oB v10) fun a129=>.opt (vB yA 31 1 a129) fun a130=>.light (fun m=>mA yA 9 ⟨0,m⟩ a130) fun a131=>.asS a131 fun s132=>.opt (zI s132 [46]) fun a133=>.asS a133 fun s134=>.opt (oB v10) fun a135=>.opt (vB yA 31 1 a135) fun a136=>.heavy (sC yA 9 a136 (.str s134)) fun _=>
 .jump 61 [v9])
 (.ite (uB (Int.tmod v2 6) 3)
 (.opt (oB v10) fun a137=>.opt (vB yA 31 2 a137) fun a138=>.opt (vB yA 28 0 a138) fun a139=>.light (fun m=>mA yA 5 ⟨0,m⟩ a139) fun a140=>.asI .u8 a140 fun n141=>.opt (oB v10) fun a142=>.opt (vB yA 31 2 a142) fun a143=>.opt (vB yA 28 0 a143) fun a144=>.heavy (sC yA 5 a144 (.int .u8 (tA .u8 (n141+7)))) fun _=>
 .jump 61 [v9])
 (.ite (uB (Int.tmod v2 6) 4)
 (.opt (oB v10) fun a145=>.opt (vB yA 31 0 a145) fun a146=>.light (fun m=>mA yA 5 ⟨0,m⟩ a146) fun a147=>.asI .u8 a147 fun n148=>.opt (oB v10) fun a149=>.opt (vB yA 31 0 a149) fun a150=>.heavy (sC yA 5 a150 (.int .u8 (tA .u8 (n148+26)))) fun _=>
 .jump 61 [v9])
 (.opt (oB v10) fun a151=>.opt (vB yA 31 2 a151) fun a152=>.opt (vB yA 28 2 a152) fun a153=>.light (fun m=>mA yA 3 ⟨0,m⟩ a153) fun a154=>.asI .i64 a154 fun n155=>.opt (oB v10) fun a156=>.opt (vB yA 31 2 a156) fun a157=>.opt (vB yA 28 2 a157) fun a158=>.heavy (sC yA 3 a158 (.int .i64 (tA .i64 (n155+4194304)))) fun _=>
 .jump 61 [v9]))))))
def zeu{q o:Nat}:vB yA 31 3 (.ptr q o)=some (.ptr q (o+8)):=by
 unfold vB gN;rw[zoe,vA];rfl
def zsl{q o:Nat}:vB yA 31 0 (.ptr q o)=some (.ptr q (o+0)):=by
 unfold vB gN;rw[zoe,vA];rfl
def f31_1{q o:Nat}:vB yA 31 1 (.ptr q o)=some (.ptr q (o+1)):=by
 unfold vB gN;rw[zoe,vA];rfl
def z2b{q o:Nat}:vB yA 31 2 (.ptr q o)=some (.ptr q (o+2)):=by
 unfold vB gN;rw[zoe,vA];rfl
def f28_0{q o:Nat}:vB yA 28 0 (.ptr q (o+2))=some (.ptr q (o+2)):=by
 unfold vB gN;rw[ty28,vA];rfl
def f28_2{q o:Nat}:vB yA 28 2 (.ptr q (o+2))=some (.ptr q (o+7)):=by
 unfold vB gN;rw[ty28,vA];rfl
def el42:ztd yA 42 41 24:=⟨⟨_,ty42,rfl,rfl⟩,⟨_,ty41,rfl,rfl,by decide,by decide⟩,fun y h=>by rw[ty41]at h;cases h;rfl⟩
def zzs{way:List Nat}{vw v9:zA}{k:Int}(hw:lA t 1 (sB .u8 way) vw)(hb8:∀w∈way,w<256)(hwl:way.length<mD){b' off':Nat}{Q:bB}(hQ:wp 3 (defT k v9 (.ptr b' off')) t Q):∀(ws:List Nat) (i:Nat) (x:rA) (b off:Nat) (cs:List zA),way.drop i=ws->x.fit->At t b off cs->RD t x.d cs->LocX t b' off' ws x b off →
  jp 3 2 [vw,.int .u8 k,v9,.ptr b off,.int .i64 (i:Int)] t Q:=by
 unfold mD at hwl;have hlen:yC vw=some (.int .i64 (way.length:Int)):=by rw[hw.len,iE]
 intro ws;induction ws with
 | nil=>
  intro i x b off cs hd hx ha hr hl;obtain⟨rfl,rfl⟩:=hl
  have hi:way.length<=i:=yak.1 hd
  refine j3_2 _ _ _ _ _ ?_
  unfold t3_2;exact iA hlen (eD (jB (nLt (by omega)) hQ))
 | cons w ws ih=>
  intro i x b off cs hd hx ha hr hl;have hi:way[i]?=some w:=by
   have:=congrArg (fun l=>l[0]?) hd
   simpa[yde]using this
  have hlt:=(ybc.1 hi).1
  have hd2:way.drop (i+1)=ws:=by
   have:=congrArg List.tail hd
   simpa[List.tail_drop]using this
  have hw8:=hb8 w (ycv hi)
  obtain⟨op,name,v,args⟩:=x
  obtain⟨a0,b0,c,rfl,_,_,hc⟩:=fJ hr
  simp only[rA.args]at hc;have hx':=hx
  unfold rA.fit at hx';have hbig:=hx'.2.2.2.2.1
  unfold mD at hbig;have hclen:yC c=some (.int .i64 (args.length:Int)):=by rw[hc.len,ybf]
  have hld:mA yA 29 ⟨0,t⟩ (.ptr b (off+8))=some c:=ha.load1 (j:=8) z3c rfl rfl
  refine j3_2 _ _ _ _ _ ?_
  unfold t3_2;refine iA hlen (eD (mB (yLt (by omega)) (iA rfl (iA zeu (uD hld (iA hclen (eD ?_)))))))
  unfold LocX at hl;simp only[rA.args]at hl;by_cases h0:args.length=0
  ·have e:args=[]:=ycc.1 h0
   rw[e]at hl;simp only[List.getElem?_nil]at hl;obtain⟨rfl,rfl⟩:=hl
   exact jB (nLt (by omega)) hQ
  have hk:w%args.length<args.length:=ycy _ (by omega)
  have hy:args[w%args.length]?=some args[w%args.length]:=ybd hk
  rw[hy]at hl;obtain⟨n,hn1,hn2⟩:=hl
  have hcn:c=.slice n 0 args.length args.length:=by
   obtain⟨c1,n1,lo1,k1,k2⟩:=hn1
   obtain⟨c2,n2,lo2,k3,k4⟩:=ha
   rw[k1]at k3
   cases k3
   have e1:=k2 0 _ rfl
   have e2:=k4 8 c rfl
   rw[yct]at e1;rw[e1]at e2;exact(yci e2).symm
  have hyd:(args.map rA.d)[w%args.length]?=some args[w%args.length].d:=by rw[ybu,hy];rfl
  obtain⟨pb,po,csy,g1,g2,g3,g4,g5⟩:=wG.at z0d (by simp) hc hyd
  have g6:zC yA 29 c (.int .i64 ((w%args.length:Nat):Int))=some (.ptr n (0+w%args.length*9)):=by
   rw[hcn];exact mS z0d hk
  rw[g1]at g6
  cases g6
  obtain⟨qb,qo,q1,q2⟩:=lA.idx (C:=yA) sl32 hw (i:=i) (x:=w) hi
  refine mB (yLt (by omega)) (iA rfl (iA zeu (uD hld (iA q1 (uD q2 (eD (iA rfl (iA zeu (uD hld (iA hclen (eD ?_)))))))))))
  rw[wrap_i64 (by omega) (by omega)]
  refine iA (tW (by omega)) (eD (iA g1 (rG ?_)))
  rw[wrap_i64 (by omega) (by omega),show(i:Int)+1=((i+1:Nat):Int) by omega]
  exact ih (i+1) args[w%args.length] n (0+w%args.length*9) csy hd2 (rA.fits_mem hx'.2.2.2.2.2 _ (ycj hk)) g3 g5 hn2
def z12{p:lN}{cs:List zA}{Q:bB}(hp:p.fit)(hP:zrq p=false)(hr:RD t p.d cs)(hQ:∀t',dA t t'->Q (.tup [.str [],.int .i64 2]) t'):Wc yA F 10 [.agg cs] t Q:=by
 have hr':=hr
 obtain⟨a,b,c,rfl,ha,hb,hc⟩:=zma hr
 refine w10 _ _ _ _ ?_
 unfold t10;refine qG fun p0 hp0 hb0=>?_
 obtain⟨t1,e1,c1,l1,o1⟩:=iT (C:=yA) ty9 hp0
 refine⟨_,_,e1,qG fun p1 hp1 hb1=>?_⟩
 obtain⟨t2,e2,c2,l2,o2⟩:=iT (C:=yA) ty35 hp1
 refine⟨_,_,e2,mC ?_⟩
 have n01:p0≠p1:=by intro e;obtain⟨c,h,_⟩:=c1;rw[e,hp1]at h;cases h
 have l02:dA t t2:=l1.trans l2
 rw[q11,za4 hp (RD.mono l02 _ _ hr'),hP,sA]
 have c1':vD t2 p0 none [.str []]:=c1.off (o2 p0 n01)
 refine rF (mB rfl (qG fun q _ _=>?_))
 obtain⟨t3,d1,d2,d3⟩:=c1'.store1 (v:=.str []) hb0 ty9 rfl rfl rfl (j:=0) (by simp)
 refine⟨_,_,d1 q,qG fun q2 _ _=>?_⟩
 have c2':vD t3 p1 none [.int .i64 0]:=vD.off c2 (d3 p1 (fun e=>n01 e.symm))
 obtain⟨t4,f1,f2,f3⟩:=c2'.store1 (v:=.int .i64 2) hb1 ty35 rfl rfl rfl (j:=0) (by simp)
 have d2':vD t4 p0 none [.str []]:=vD.off d2 (f3 p0 n01)
 refine⟨_,_,f1 q2,uD (d2'.load1 (j:=0) ty9 rfl rfl) (uD (f2.load1 (j:=0) ty35 rfl rfl) ?_)⟩
 refine hQ t4 fun b y hb=>?_
 have h0:b≠p0:=fun e=>by rw[e,hp0]at hb;cases hb
 have h1:b≠p1:=fun e=>by
  have:=l1 _ _ hb
  rw[e,hp1]at this;cases this
 rw[f3 b h1,d3 b h0];exact l02 _ _ hb
def i64_0:i64 0:=⟨by decide,by decide⟩
def i64_1:i64 1:=⟨by decide,by decide⟩
def end61{y:rA}{n:Nat}{cr:List zA}(hat:At t n 0 cr)(hr:RD t y.d cr)(hfit:y.fit)(hne:∀e,gD y e=false)(hM:vJ t)(hW:dM t):jp 3 61 [.ptr n 0] t (fun v _=>v=.bool true):=by
 have hr0:=hr
 obtain⟨a,b,c,rfl,_⟩:=fJ hr
 refine j3_61 _ ?_
 unfold t3_61;refine uD (hat.whole zoe rfl rfl) (jJ (kK hr0 (rA.zs _)) (mC ?_))
 rw[q8];refine zp4 hfit hM hW hr0 fun t1 s e h1 h2=>?_
 rw[hne 1,yaa (by simp)]at h2
 obtain⟨rfl,rfl⟩:=h2
 have hat1:=hat.mono h1
 have hr1:RD t1 y.d (eF y a b c):=RD.mono h1 _ _ hr0
 refine iA rfl (iH (iA rfl (eD (uD (hat1.whole zoe rfl rfl) (jJ (kK hr1 (rA.zs _)) (uD (hat1.whole zoe rfl rfl) (jJ (kK hr1 (rA.zs _)) (mB rfl (qG fun m hm hbm=>?_)))))))))
 obtain⟨t2,e1,e2,e3,e4⟩:=lit1 (C:=yA) el42 (cs:=[.str [97],.str [98],.int .i64 0,.int .i64 1,.int .i64 0,.bool false]++(eF y a b c++eF y a b c)) rfl (by decide) hm
 refine⟨_,_,e1,mB rfl (mB rfl (mC ?_))⟩
 have hr2:RD t2 y.d (eF y a b c):=RD.mono e3 _ _ hr1
 have hcl:RD t2 (yJ.d ⟨[97],[98],0,1,0,false,y,y⟩) ([.str [97],.str [98],.int .i64 0,.int .i64 1,.int .i64 0,.bool false]++(eF y a b c++eF y a b c)):=zv8 (x:=⟨[97],[98],0,1,0,false,y,y⟩) hr2 hr2
 have hpl:RD t2 (badP y).d [.str [112],.nilslice,.nilslice,.slice m 0 1 1]:=by
  unfold badP lN.d;rw[kH];refine⟨[[.str [112]],[.nilslice],[.nilslice],[.slice m 0 1 1]],rfl,?_⟩
  have hnil:∀sz,RD t2 (.sl sz []) [zA.nilslice]:=fun sz=>wJ.2 ⟨_,rfl,[],.inl ⟨rfl,rfl⟩,dF.2 rfl⟩
  refine lE.2 ⟨_,_,rfl,sS.2 rfl,lE.2 ⟨_,_,rfl,hnil 3,lE.2 ⟨_,_,rfl,hnil 3,lE.2 ⟨_,_,rfl,wJ.2 ⟨_,rfl,_,e2,lE.2 ⟨_,_,rfl,hcl,dF.2 rfl⟩⟩,dF.2 rfl⟩⟩⟩⟩
 have hb:mD=1125899906842624:=rfl
 have hpf:(badP y).fit:=⟨by rw[hb];show 1<_;omega,by rw[hb];show 0<_;omega,by rw[hb];show 0<_;omega,by rw[hb];show 1<_;omega,(fun d h=>by cases h),(fun d h=>by cases h),fun x hx=>by
  have:x=⟨[97],[98],0,1,0,false,y,y⟩:=ydd.1 hx
  subst this;exact⟨by rw[hb];show 1<_;omega,by rw[hb];show 1<_;omega,i64_0,i64_1,i64_0,hfit,hfit⟩⟩
 have hpn:=z2u (hne 1)
 rw[q10];refine z12 hpf hpn hpl fun t3 h3=>?_
 refine iA rfl (iH (iA rfl (eD (mB rfl (mB (yEq rfl) (mB rfl (mB (yEq rfl) (mC ?_))))))))
 rw[q11,za4 hpf (RD.mono h3 _ _ hpl),hpn,sA]
 exact rF rfl
def tmod6(k:Nat):Int.tmod (k:Int) 6=((k%6:Nat):Int):=by
 rw[Int.tmod_eq_emod_of_nonneg (by omega)];omega
end
section
variable [jC]
variable {t tf t0:Tr qA}
def zw4{t':Tr qA}{args:List rA}{cl:List (List zA)}{bs:List Nat}{v:zA}(hle:dA tf t')(hk:nD yA.base tf t args cl bs)(hs:∀k∈bs,t'.get k=t.get k)(n:Nat)(hv:LK (.sz 9) yA.base t' 9 (cl++List.replicate n wQ) v):lA t' 9 ((args++List.replicate n mH).map rA.d) v:=by
 refine⟨_,hv.elems rfl,?_⟩
 have h1:oC t' (args.map rA.d) cl:=nD.rd hle args cl bs (nD.keep (dA.refl _) args cl bs hk hs)
 have hnil:lA t' 1 (pD []) .nilslice:=⟨[],.inl ⟨rfl,rfl⟩,dF.2 rfl⟩
 have hnil9:lA t' 9 (([]:List rA).map rA.d) .nilslice:=⟨[],.inl ⟨rfl,rfl⟩,dF.2 rfl⟩
 have hz:RD t' mH.d wQ:=tP (op:=2) (name:=[]) (v:=⟨0,⟨⟨false,[]⟩,⟨false,[]⟩⟩,0⟩) (args:=[]) hnil hnil hnil9
 have h2:∀n,oC t' ((List.replicate n mH).map rA.d) (List.replicate n wQ):=by
  intro n;induction n with
  | zero=>exact dF.2 rfl
  | succ n ih=>exact lE.2 ⟨_,_,rfl,hz,ih⟩
 have h3:∀(l:List rA) (cl:List (List zA)),oC t' (l.map rA.d) cl->oC t' ((l++List.replicate n mH).map rA.d) (cl++List.replicate n wQ):=by
  intro l;induction l with
  | nil=>
   intro cl h;have:=dF.1 h
   subst this;exact h2 n
  | cons x l ih=>
   intro cl h;obtain⟨c,r,rfl,q1,q2⟩:=lE.1 h
   exact lE.2 ⟨c,_,rfl,q1,ih r q2⟩
 exact h3 args cl h1
def defX0y{op:Nat}{name:List Nat}{v:dE}{args:List rA}(h:op=6/\args.length=1):zqb 0 (.mk op name v args)=.mk op name v (args++[mH,mH]):=by
 show rA.mk op name v (args++(if op=6/\args.length=1 then [mH,mH]else [mH]))=_
 rw[yab h]
def z4o{op:Nat}{name:List Nat}{v:dE}{args:List rA}(h:¬ (op=6/\args.length=1)):zqb 0 (.mk op name v args)=.mk op name v (args++[mH]):=by
 show rA.mk op name v (args++(if op=6/\args.length=1 then [mH,mH]else [mH]))=_
 rw[yaa h]
def defX1y{op:Nat}{name:List Nat}{v:dE}{args:List rA}(h:op=1\/op=2):zqb 1 (.mk op name v args)=.mk 17 name v []:=by
 show rA.mk (if op=1\/op=2 then 17 else op) name v []=_
 rw[yab h]
def defX1n{op:Nat}{name:List Nat}{v:dE}{args:List rA}(h:¬ (op=1\/op=2)):zqb 1 (.mk op name v args)=.mk op name v []:=by
 show rA.mk (if op=1\/op=2 then 17 else op) name v []=_
 rw[yaa h]
def z2k{k:Nat}{z:rA}{cs:List zA}{bs:List Nat}{b off n d:Nat}{c0:Tr zA}{lo:Option Lo}{v9:zA}{Q:bB}(hz:z.fit)(hP:gD z d=true)(hle:dA tf t)(own:jF yA.base tf t z cs bs)(hat:At t b off cs)(h0:t.get b=some (.cells c0 n lo))(hroom:off+9<=n)(hb:yA.base<=b)(hnin:b∉bs)(hnd:bs.Nodup)(hfree:∀k,k=b\/k∈bs->tf.get k=none)
  (K:∀t' csn,(∀k y,t.get k=some y->k≠b->k∉bs->t'.get k=some y)->bM t t' b off csn->RD t' (zqb (k%6) z).d csn->jp 3 61 [v9] t' Q) :
  wp 3 (defT (k:Int) v9 (.ptr b off)) t Q:=by
 obtain⟨op,name,v,args⟩:=z
 have hh:=mQ (gU hP).1
 have own0:=own
 unfold jF at own;obtain⟨a1,a2,c,cl,bss,rfl,ha1,ha2,hlk,hks,rfl⟩:=own
 have hcl:=hks.length
 have hbut:bM t t b off (eF (.mk op name v args) a1 a2 c):=zyv hat
 have hfit:=hz
 unfold rA.fit at hfit;have hbc:b∉mF c:=fun e=>hnin (ydc _ e)
 have one:∀t' csn,lD b t t'->bM t t' b off csn->(dA tf t'->RD t' (zqb (k%6) (.mk op name v args)).d csn)->jp 3 61 [v9] t' Q:=fun t' csn ho hc hr=>by
  refine K t' csn (fun q y hy hq _=>by rw[ho q hq];exact hy) hc (hr ?_)
  exact hle.off (hfree b (.inl rfl)) ho
 have kargs:∀t',dA tf t'->lD b t t'->lA t' 9 (args.map rA.d) c:=fun t' h1 h2=>by
  have e:∀k∈mF c++bss,t'.get k=t.get k:=fun k hk=>h2 k fun e=>hnin (e ▸ hk)
  have:=zw4 (t:=t) h1 hks (fun k hk=>e k (ycf _ hk)) 0 (v:=c) (by
   rw[List.replicate_zero,ycd];exact hlk.off fun k hk=>e k (ydc _ hk))
  rwa [List.replicate_zero,ycd]at this
 have l0:mA yA 5 ⟨0,t⟩ (.ptr b (off+0))=some (.int .u8 op):=hat.load1 (j:=0) ty5 rfl rfl
 have l1:mA yA 9 ⟨0,t⟩ (.ptr b (off+1))=some (.str name):=hat.load1 (j:=1) ty9 rfl rfl
 have l2:mA yA 5 ⟨0,t⟩ (.ptr b (off+2))=some (.int .u8 v.kind):=hat.load1 (j:=2) ty5 rfl rfl
 have l7:mA yA 3 ⟨0,t⟩ (.ptr b (off+7))=some (.int .i64 v.i):=hat.load1 (j:=7) ty3 rfl rfl
 have l8:mA yA 29 ⟨0,t⟩ (.ptr b (off+8))=some c:=hat.load1 (j:=8) z3c rfl rfl
 have lc:yC c=some (.int .i64 (args.length:Int)):=by rw[hlk.len,hcl]
 have l9:(eF (.mk op name v args) a1 a2 c).length=9:=rfl
 unfold defT;simp only[tmod6];have hk6:k%6<6:=ycy _ (by omega)
 generalize hkk:k%6=kk at *
 match kk,hk6 with
 | 0,_=>
  refine mB (yEq rfl) (iA rfl (iA zsl (uD l0 (eD ?_))))
  have uE:∀(t1:Tr qA) (cur:List zA) (c1:zA) (j:Nat),j<=1->(zqb 0 (.mk op name v args))=.mk op name v (args++List.replicate (j+1) mH)->bM t t1 b off cur->cur=(eF (.mk op name v args) a1 a2 c1)->LK (.sz 9) yA.base t1 9 (cl++List.replicate j wQ) c1->b∉mF c1 →
    (∀q y,t.get q=some y->q≠b->q∉mF c->t1.get q=some y)->(∀q∈mF c1,q∈mF c\/t.get q=none)->jp 3 39 [v9,.ptr b off] t1 Q:=by
   intro t1 cur c1 j hj hdef h1 hcur h2 h3 h4 h5;subst hcur;refine j3_39 _ _ ?_
   unfold t3_39;refine iA rfl (iA zeu ?_)
   have hlen:(cl++List.replicate j wQ).length<300000:=by
    have:=hh.2.2.2.1
    have h27:((List.range 27).all fun op=>decide ((pC op).most<=3))=true:=by kernel_rfl
    have:=ycb.1 h27 op (List.mem_range.2 hh.1)
    simp only[decide_eq_true_eq]at this;rw[ybg,List.length_replicate,hcl];omega
   refine zxp (t0:=t) (c:=c1) (lo:=lo) (n:=n) (c0:=c0) (yS:=_) (yE:=_) el29 z0d z3c rfl rfl zoe rfl zeu h1 h0 hroom rfl rfl hb h2 h3 hlen fun t' m hm hbm hmb g1 g2 g3=>rG ?_
   have hbig:∀q y,t.get q=some y->q≠b->q∉mF c->t'.get q=some y:=fun q y hy hq1 hq2=>g3 q y (h4 q y hy hq1 hq2) hq1 fun e=>by
    rcases h5 q e with e | e
    ·exact hq2 e
    ·rw[e]at hy;cases hy
   have hle':dA tf t':=fun q y hy=>hbig q y (hle q y hy) (fun e=>by rw[e,hfree b (.inl rfl)]at hy;cases hy) (fun e=>by rw[hfree q (.inr (ydc _ e))]at hy;cases hy)
   refine K t' _ (fun q y hy hq1 hq2=>hbig q y hy hq1 fun e=>hq2 (ydc _ e)) g1 ?_
   rw[hdef];refine tP (ha1.mono hle') (ha2.mono hle') ?_
   refine zw4 (t:=t) hle' hks (fun q hq=>?_) (j+1) (v:=.slice m 0 _ _) (by rw[List.replicate_succ',<- ybz];exact g2)
   obtain⟨y,hy⟩:=nD.live args cl bss hks q hq
   rw[hy];refine hbig q y hy (fun e=>hnin (e ▸ ycf _ hq)) fun e=>?_
   rw[List.nodup_append]at hnd;exact hnd.2.2 q e q hq rfl
  by_cases h6:op=6
  ·refine mB (yEq (by omega)) (iA rfl (iA zeu (uD l8 (iA lc (eD ?_)))))
   by_cases hl:args.length=1
   ·refine mB (yEq (by omega)) (iA rfl (iA zeu ?_))
    refine zxp (t0:=t) (c:=c) (lo:=lo) (n:=n) (c0:=c0) (yS:=_) (yE:=_) (cl:=cl) el29 z0d z3c rfl rfl zoe rfl zeu hbut h0 hroom rfl rfl hb hlk hbc (by omega) fun t' m hm hbm hmb g1 g2 g3=>rG ?_
    refine uE t' _ _ 1 (by omega) (defX0y ⟨h6,hl⟩) g1 rfl g2 ?_ g3 fun q hq=>.inr ?_
    ·simpa[mF]using fun e:b=m=>hmb e.symm
    ·have:q=m:=by simpa[mF]using hq
     rw[this];exact hm
   ·refine jB (oE (by omega)) (rG ?_)
    exact uE t _ c 0 (by omega) (z4o fun e=>hl e.2) hbut rfl (by rw[List.replicate_zero,ycd];exact hlk) hbc (fun q y hy _ _=>hy) fun q hq=>.inl hq
  ·refine jB (oE (by omega)) (rG ?_)
   exact uE t _ c 0 (by omega) (z4o fun e=>h6 e.1) hbut rfl (by rw[List.replicate_zero,ycd];exact hlk) hbc (fun q y hy _ _=>hy) fun q hq=>.inl hq
 | 1,_=>
  have hnil9:∀t',lA t' 9 (([]:List rA).map rA.d) .nilslice:=fun t'=>⟨[],.inl ⟨rfl,rfl⟩,dF.2 rfl⟩
  have two:(op=1\/op=2)->wp 3 (.opt (oB (.ptr b off)) fun a46=>.opt (vB yA 31 0 a46) fun a47=>.heavy (sC yA 5 a47 (.int .u8 17)) fun _=>
    .opt (oB (.ptr b off)) fun a48=>.opt (vB yA 31 3 a48) fun a49=>.heavy (sC yA 29 a49 .nilslice) fun _=>.jump 61 [v9]) t Q:=fun ho=>by
   refine iA rfl (iA zsl (qG fun q _ _=>?_))
   obtain⟨t1,e1,e2,e3⟩:=nT (C:=yA) (j:=0) (v:=.int .u8 17) hbut h0 hroom (by rw[l9];omega) hb ty5 rfl rfl rfl
   refine⟨_,_,e1 q,iA rfl (iA zeu (qG fun q _ _=>?_))⟩
   obtain⟨t2,g1,g2,g3⟩:=nT (C:=yA) (j:=8) (v:=.nilslice) e2 h0 (by rw[ydh];exact hroom) (by rw[ydh,l9];omega) hb z3c rfl rfl rfl
   refine⟨_,_,g1 q,rG (one t2 _ (fun d hd=>by rw[g3 d hd,e3 d hd]) g2 fun hle'=>?_)⟩
   have:zqb 1 (.mk op name v args)=.mk 17 name v []:=defX1y ho
   rw[this];exact tP (ha1.mono hle') (ha2.mono hle') (hnil9 t2)
  refine jB (oE (by omega)) (mB (yEq rfl) (iA rfl (iA zsl (uD l0 (eD ?_)))))
  by_cases h1:op=1
  ·exact mB (yEq (by omega)) (two (.inl h1))
  refine jB (oE (by omega)) (iA rfl (iA zsl (uD l0 (eD ?_))))
  by_cases h2:op=2
  ·exact mB (yEq (by omega)) (two (.inr h2))
  refine jB (oE (by omega)) (iA rfl (iA zeu (qG fun q _ _=>?_)))
  obtain⟨t2,g1,g2,g3⟩:=nT (C:=yA) (j:=8) (v:=.nilslice) hbut h0 hroom (by rw[l9];omega) hb z3c rfl rfl rfl
  refine⟨_,_,g1 q,rG (one t2 _ g3 g2 fun hle'=>?_)⟩
  have:zqb 1 (.mk op name v args)=.mk op name v []:=defX1n (by omega)
  rw[this];exact tP (ha1.mono hle') (ha2.mono hle') (hnil9 t2)
 | 2,_=>
  have hn:name.length<=24:=by
   rcases hh.2.2.2.2.2.2.2 with e | e
   ·rw[e];simp
   ·exact zbr e
  refine jB (oE (by omega)) (jB (oE (by omega)) (mB (yEq rfl) (iA rfl (iA f31_1 (uD l1 (iH (iA (vK (by simp;omega)) (iH (iA rfl (iA f31_1 (qG fun q _ _=>?_)))))))))))
  obtain⟨t2,g1,g2,g3⟩:=nT (C:=yA) (j:=1) (v:=.str (name++[46])) hbut h0 hroom (by rw[l9];omega) hb ty9 rfl rfl rfl
  refine⟨_,_,g1 q,rG (one t2 _ g3 g2 fun hle'=>?_)⟩
  exact tP (op:=op) (name:=name++[46]) (v:=v) (args:=args) (ha1.mono hle') (ha2.mono hle') (kargs t2 hle' g3)
 | 3,_=>
  have hkd:=zrf hP
  simp only[rA.v]at hkd;refine jB (oE (by omega)) (jB (oE (by omega)) (jB (oE (by omega)) (mB (yEq rfl) (iA rfl (iA z2b (iA f28_0 (uD l2 (eD (iA rfl (iA z2b (iA f28_0 (qG fun q _ _=>?_))))))))))))
  obtain⟨t2,g1,g2,g3⟩:=nT (C:=yA) (j:=2) (v:=.int .u8 (tA .u8 ((v.kind:Int)+7))) hbut h0 hroom (by rw[l9];omega) hb ty5 rfl rfl rfl
  refine⟨_,_,g1 q,rG (one t2 _ g3 g2 fun hle'=>?_)⟩
  have e:tA .u8 ((v.kind:Int)+7)=(((v.kind+7)%256:Nat):Int):=by rw[zb6 (by omega) (by omega)];omega
  rw[e];exact tP (op:=op) (name:=name) (v:=⟨(v.kind+7)%256,v.f,v.i⟩) (args:=args) (ha1.mono hle') (ha2.mono hle') (kargs t2 hle' g3)
 | 4,_=>
  have hop:=hh.1
  refine jB (oE (by omega)) (jB (oE (by omega)) (jB (oE (by omega)) (jB (oE (by omega)) (mB (yEq rfl) (iA rfl (iA zsl (uD l0 (eD (iA rfl (iA zsl (qG fun q _ _=>?_)))))))))))
  obtain⟨t2,g1,g2,g3⟩:=nT (C:=yA) (j:=0) (v:=.int .u8 (tA .u8 ((op:Int)+26))) hbut h0 hroom (by rw[l9];omega) hb ty5 rfl rfl rfl
  refine⟨_,_,g1 q,rG (one t2 _ g3 g2 fun hle'=>?_)⟩
  have e:tA .u8 ((op:Int)+26)=(((op+26)%256:Nat):Int):=by rw[zb6 (by omega) (by omega)];omega
  rw[e];exact tP (op:=(op+26)%256) (name:=name) (v:=v) (args:=args) (ha1.mono hle') (ha2.mono hle') (kargs t2 hle' g3)
 | 5,_=>
  have hi:=zu4 hP
  simp only[rA.v]at hi;refine jB (oE (by omega)) (jB (oE (by omega)) (jB (oE (by omega)) (jB (oE (by omega)) (jB (oE (by omega)) (iA rfl (iA z2b (iA f28_2 (uD l7 (eD (iA rfl (iA z2b (iA f28_2 (qG fun q _ _=>?_)))))))))))))
  obtain⟨t2,g1,g2,g3⟩:=nT (C:=yA) (j:=7) (v:=.int .i64 (tA .i64 (v.i+4194304))) hbut h0 hroom (by rw[l9];omega) hb ty3 rfl rfl rfl
  refine⟨_,_,g1 q,rG (one t2 _ g3 g2 fun hle'=>?_)⟩
  rw[wrap_i64 (by omega) (by omega)]
  exact tP (op:=op) (name:=name) (v:=⟨v.kind,v.f,v.i+4194304⟩) (args:=args) (ha1.mono hle') (ha2.mono hle') (kargs t2 hle' g3)
def zxv{x:rA}{way:List Nat}{cx:List zA}{vw:zA}{k:Nat}(hx:x.fit)(hM:vJ t)(hW:dM t)(hrx:RD t x.d cx)
  (hw:lA t 1 (sB .u8 way) vw) (hb8:∀w∈way,w<256) (hwl:way.length<mD) :
  Wc yA F 3 [.agg cx,vw,.int .u8 (k:Int)] t (fun v _=>v=.bool true):=by
 have hrx0:=hrx
 obtain⟨a,b,c,rfl,_⟩:=fJ hrx
 have h6:wC yA F 6 [] t=some (.bool true):=zha (g:=z0t) (by kernel_rfl) fun H=>rfl
 have s7:wC yA F 7 [.agg (eF x a b c),.int .i64 400] t=some (.int .i64 (eK x 400)):=pv37 (t:=t) x 400 _ (rA.fit_ok hx) (by omega) (by omega) hrx0
 refine w3 _ _ _ _ _ _ _ _ _ _ _ ?_
 unfold t3;refine mC ?_
 rw[q6,h6,sA];refine rF (jB (by simp) (mC ?_))
 have hx0:[zA.int .u8 x.op,.str x.name,.int .u8 x.v.kind,.bool x.v.f.n.neg,a,.bool x.v.f.d.neg,b,.int .i64 x.v.i,c]=eF x a b c:=rfl
 rw[q7,hx0,s7,sA];refine eD ?_
 by_cases g0:eK x 400<=400
 case neg=>exact mB (yLt (by omega)) rfl
 refine jB (nLt (by omega)) (mC ?_)
 have hcx:rA.cpy x:=zqd x 400 (rA.fit_ok hx) g0 (by omega)
 rw[q8];refine zp4 hx hM hW hrx0 fun t1 s e h1 h2=>?_
 refine iA rfl (iH (iA rfl (eD ?_)))
 by_cases he:e=0
 case neg=>exact mB (by rw[Bool.eq_false_iff.2 (oE he)];rfl) rfl
 subst he;have px:gD x 1=true:=by
  cases hp:gD x 1 with
  | true=>rfl
  | false=>
   rw[hp,yaa (by simp)]at h2
   exact absurd h2.2 (by decide)
 refine jB (by rw[yEq rfl];simp) (mC ?_)
 have ho:wD yA.base t1 t1 []:=⟨dA.refl _,by simp,(fun o h=>by cases h),(fun k h=>by simp at h)⟩
 rw[q9];refine tree9 x hcx ho (RD.mono h1 _ _ hrx0) fun tf1 t2 cs1 bs m1 m2=>?_
 have r1:RD t2 x.d cs1:=jF.rd m2.tle _ _ _ (m2.ok _ (yby ..))
 refine jJ (kK r1 (rA.zs _)) (qG fun n hn hbn=>?_)
 have r1':=r1
 obtain⟨x1,x2,x3,rfl,_⟩:=fJ r1'
 obtain⟨t3,f1,f2,f3,f4⟩:=iT (C:=yA) zoe hn
 have o2:=wD.newCel (A:=[]) m2 hn hbn f2 f3 f4
 refine⟨_,_,f1,qG fun q _ _=>?_⟩
 obtain⟨t4,s3,o3⟩:=wD.setCel (A:=[]) (n:=n) (j:=0) (v:=.agg (eF x x1 x2 x3)) o2 zoe rfl (by show 0+9<=9;decide) r1.all
 refine⟨_,_,s3 q,rG ?_⟩
 have o3:wD yA.base tf1 t4 [dJ n none (eF x x1 x2 x3),rK yA.base x (eF x x1 x2 x3) bs]:=o3
 have hown:jF yA.base tf1 t4 x (eF x x1 x2 x3) bs:=o3.ok (rK yA.base x (eF x x1 x2 x3) bs) (by simp)
 have hcel:vD t4 n none (eF x x1 x2 x3):=wD.cel (A:=[]) o3
 have hnd:=o3.nodup
 simp only[List.flatMap_cons,dJ,rK,List.flatMap_nil,ycd]at hnd;rw[List.singleton_append,List.nodup_cons]at hnd;have hroom:Room t4 n 0:=by
  obtain⟨c0,q0,_⟩:=hcel
  exact⟨c0,_,none,q0,by show 0+9<=9;decide⟩
 obtain⟨bb,oo,cs',bs',⟨c5,n5,lo5,hb1,hb2⟩,hloc,hsub,hat,hwh,hin,hnin,hnd',close⟩:=zo5 way x _ bs n 0 hown hcel.at hnd.1 hnd.2 hroom
 have t04:dA t t4:=h1.trans (m1.trans o3.tle)
 have hbm:bb∈n::bs:=by
  rcases hwh with e | e
  ·rw[e.1];exact yby ..
  ·exact ybr _ e
 have hlow:∀k∈n::bs,yA.base<=k/\tf1.get k=none:=fun k hk=>o3.low k (by simpa[dJ,rK]using hk)
 have hlive:∀k∈n::bs,∃y,t4.get k=some y:=fun k hk=>by
  rcases ybs.1 hk with e | hk
  ·subst e
   obtain⟨c0,q0,_⟩:=hcel
   exact⟨_,q0⟩
  ·exact jF.live _ _ _ hown k hk
 obtain⟨e5,hsp⟩:=z3r way x 1 px
 refine zzs (hw.mono t04) hb8 hwl ?_ way 0 x n 0 _ rfl hx hcel.at (jF.rd o3.tle _ _ _ hown) hloc
 refine z2k (tf:=tf1) (zlt way x hx) hsp o3.tle hsub hat hb1 hb2 (hlow bb hbm).1 hnin hnd' (fun k hk=>?_) fun t5 csn w1 w2 w3=>?_
 ·rcases hk with e | e
  ·rw[e];exact(hlow bb hbm).2
  ·exact(hlow k (ybr _ (hin k e))).2
 have t15:dA tf1 t5:=fun k y hy=>w1 k y (o3.tle _ _ hy) (fun e=>by rw[e,(hlow bb hbm).2]at hy;cases hy) (fun e=>by rw[(hlow k (ybr _ (hin k e))).2]at hy;cases hy)
 obtain⟨cr,v1,v2⟩:=close t5 (zqb (k%6) (zz5 way x)) csn t15 (fun q hq hne hni=>by
  have hq':q∈n::bs:=by
   rcases hq with e | e
   ·rw[e];exact yby ..
   ·exact ybr _ e
  obtain⟨y,hy⟩:=hlive q hq'
  rw[hy];exact w1 q y hy hne hni) w2 w3
 have hdf:=z61 (k:=k%6) (zlt way x hx) hsp
 have t05:dA t t5:=h1.trans (m1.trans t15)
 exact end61 v1 v2 (zvo hdf way x hx) (fun e=>zje (fun e=>zyh hsp (k%6) e) way x e) (hM.mono t05) (hW.mono t05)
end
end Go.Proofs
namespace Go.Am
open Go Go.RowKit Go.Proofs
def z1z{w:World}(h:iG w):∀ [jC],dM (nG w):=by
 intro _;obtain⟨t,h⟩:=h.modes
 have hb:=(ybe.1 h).1
 have e:(nG w).get 1=some (.cells (zer (fun j=>((zlu cK).toArray[j]?).bind (zqk w.heap.size)) (zlu cK).toArray.size) (zlu cK).toArray.size none):=by
  unfold nG;rw[pN,yab (by omega),yab (by omega),h]
  rfl
 refine⟨_,_,_,e,fun j a ha=>?_⟩
 rw[pN,ybw];have hj:j<uP.length:=by
  have:=(ybc.1 ha).1
  simpa using this
 rw[ybu]at ha;have hL:uP=cK.map fun b=>b.map UInt8.toNat:=rfl
 rw[hL]at ha hj;rw[ybu]at ha
 cases hbt:cK[j]? with
 | none=>rw[hbt]at ha;cases ha
 | some b=>
  rw[hbt]at ha;obtain rfl:=yci ha
  rw[yab (by simp[zlu];simpa using hj)]
  simp only[zlu,List.getElem?_toArray,ybu,hbt,Option.map_some,yai,zqk];rfl
def glob0{w:World}(h:iG w):∃c n lo,(nG w).get 0=some (.cells c n lo):=by
 obtain⟨t,h⟩:=h.kinds
 have hb:=(ybe.1 h).1
 have e:(nG w).get 0=some (.cells (zer (fun j=>((zlu jM).toArray[j]?).bind (zqk w.heap.size)) (zlu jM).toArray.size) (zlu jM).toArray.size none):=by
  unfold nG;rw[pN,yab (by omega),yab (by omega),h]
  rfl
 exact⟨_,_,_,e⟩
def z6k{w:World}{cs:List Value}(h:Has w.heap.size cs):yB (muW w) (cs.map (av w.heap.size)) cs:=by
 induction cs with
 | nil=>exact .nil
 | cons v l ih=>exact .cons (zic (h v (by simp))) (ih fun u hu=>h u (ybr _ hu))
def z0r{w:World}{cs:Array Value}(h:Has w.heap.size cs.toList):wA (muW w) (.agg (cs.toList.map (av w.heap.size))) (.agg cs):=by
 rw[wA];exact⟨cs,rfl,z6k h⟩
def fwrong3{w:World}(hL:iG w){cs:Array Value}{u:Value}{x:rA}{l:List Nat}{vw:zA}{k:Nat}(hx:x.fit)(hh:Has w.heap.size cs.toList)(hrd:RD (nG w) x.d (cs.toList.map (av w.heap.size)))
  (hl:l.length<mD) (h8:∀c∈l,c<256) (hv:wA (muW w) vw u) (hr:lA (nG w) 1 (sB .u8 l) vw) :
  Calls Tryz.prog 3 #[.agg cs,u,.int .u8 (k:Int)] w fun e w'=>e=.returned (.bool true)/\Below w.heap.size w w':=
 zq8 hL 3 [.agg (cs.toList.map (av w.heap.size)),vw,.int .u8 (k:Int)] _ (by intro _;kernel_rfl) (.cons (z0r hh) (.cons hv (.single (by rw[wA])))) ⟨_,zxv hx (z6n hL) (z1z hL) hrd hr h8 hl,fun v t h=>h⟩
end Go.Am
namespace Go.Proofs.YtbgilkcahebbfaaGreatDoor
open Go Go.Am Go.RowKit Go.ChangeShapes Go.WideShapes Go.ChangeAt
def api13:zqp Tryz.prog:={
 b:=4,i:=3,u8:=5,u16:=50,s:=9,limbs:=22,whole:=24,frac:=26,val:=28,expr:=31,exprs:=29,row:=55,rows:=51,table:=53,tables:=44,dfn:=114,dfns:=43,clause:=41,clauses:=42,plan:=46,
 hb:=Tryz.underlying4,hi:=Tryz.underlying3,hu8:=Tryz.underlying5,hu16:=Tryz.underlying50,hs:=Tryz.underlying9,hlimbs:=Tryz.underlying22,hexprs:=Tryz.underlying29,hrows:=Tryz.underlying51,htables:=Tryz.underlying44,hdfns:=Tryz.underlying43,hclauses:=Tryz.underlying42,
 hwhole:=⟨_,Tryz.underlying24,rfl⟩,hfrac:=⟨_,Tryz.underlying26,rfl⟩,hval:=⟨_,Tryz.underlying28,rfl⟩,hexpr:=⟨_,Tryz.underlying31,rfl⟩,hrow:=⟨_,Tryz.underlying55,rfl⟩,htable:=⟨_,Tryz.underlying53,rfl⟩,hdfn:=⟨_,Tryz.underlying114,rfl⟩,hclause:=⟨_,Tryz.underlying41,rfl⟩,hplan:=⟨_,Tryz.underlying46,rfl⟩,
 cu16:=by kernel_rfl,cexpr:=by kernel_rfl,crow:=by kernel_rfl,ctable:=by kernel_rfl,cdfn:=by kernel_rfl,cclause:=by kernel_rfl,
 bytes:=⟨of_decide_eq_true (by kernel_rfl),of_decide_eq_true (by kernel_rfl),of_decide_eq_true (by kernel_rfl),of_decide_eq_true (by kernel_rfl),of_decide_eq_true (by kernel_rfl),of_decide_eq_true (by kernel_rfl)⟩ }
def zji:List Nat:=[4,3,5,50,9,22,24,26,28,31,29,55,51,53,44,114,43,41,42,46]
def partB(t:TypeId):Bool:=match Tryz.prog.underlying t with
 | some .bool=>true
 | some (.int _)=>true
 | some .string=>true
 | some (.slice e)=>zji.contains e&&Nat.blt 0 (Tryz.prog.cellsOf e)
 | some (.struct fs)=>fs.toList.all (fun f=>zji.contains f.type)&&zra Tryz.prog 0 fs.toList (Tryz.prog.cellsOf t)
 | _=>false
def zme:zji.all partB=true:=by kernel_rfl
def zvs:z7j Tryz.prog (fun t=>t∈zji):=⟨fun t ht=>by
 have h:=ycb.1 zme t ht
 unfold partB at h
 cases hu:Tryz.prog.underlying t with
 | none=>rw[hu]at h;cases h
 | some d=>
  rw[hu]at h
  cases d with
  | bool=>trivial
  | int k=>trivial
  | string=>trivial
  | slice e=>
   simp only[ybb]at h;exact⟨by simpa using h.1,by simpa using h.2⟩
  | struct fs=>
   simp only[ybb]at h;exact⟨fun f hf=>by simpa using ycb.1 h.1 f hf,h.2⟩
  | _=>cases h⟩
def open_expr{H:Type}{enc:TypeId × Value->H}{W:World}{base:Nat}{v:Value}{d:DataW H}{ps:List MemPlace}(hL:iG W)(hok:Value.okWide Tryz.prog W .any base 31 v)(h:DataW.Trod enc Tryz.prog W 0 (fun _=>true) true 31 v d ps)(hw:(DataW.weights Tryz.prog 31 d).all (· <= reachBytes)=true) :
  ∃(cs:Array Value) (p:rA),v=.agg cs/\p.fit/\Has W.heap.size cs.toList/\RD (nG W) p.d (cs.toList.map (av W.heap.size)):=by
 obtain⟨cs,rfl,_,_⟩:∃cs,v=.agg cs/\cs.size=Tryz.prog.cellsOf 31/\Row.okWide Tryz.prog W .any base 31 cs:=by
  unfold Value.okWide at hok;rw[Tryz.underlying31]at hok;exact hok
 obtain⟨fuel,h⟩:=h
 obtain⟨c,n,lo,hc⟩:=glob0 hL
 obtain⟨h1,x,h2,h3⟩:=zvd zvs ⟨c,n,lo,hc⟩ fuel 31 cs.toList (d,ps) (by decide) h hw
 obtain⟨p,rfl,hp⟩:=api13.dExpr _ _ h3
 exact⟨cs,p,rfl,hp,h1,h2⟩
def plainB:z7j Tryz.prog (fun t=>t=32\/t∈zji):=⟨fun t ht=>by
 rcases ht with rfl | ht
 ·rw[Tryz.underlying32]
  exact⟨.inr (by decide),of_decide_eq_true (by kernel_rfl)⟩
 ·have h:=zvs.part t ht
  revert h
  cases Tryz.prog.underlying t with
  | none=>exact id
  | some d=>
   cases d with
   | slice e=>exact fun⟨a,b⟩=>⟨.inr a,b⟩
   | struct fs=>exact fun⟨a,b⟩=>⟨fun f hf=>.inr (a f hf),b⟩
   | _=>exact id⟩
def open_bytes{H:Type}{enc:TypeId × Value->H}{W:World}{base:Nat}{v:Value}{d:DataW H}{ps:List MemPlace}(hL:iG W)(hok:Value.okWide Tryz.prog W .any base 32 v)(h:DataW.Trod enc Tryz.prog W 0 (fun _=>true) true 32 v d ps)(hw:(DataW.weights Tryz.prog 32 d).all (· <= reachBytes)=true) :
  ∃(l:List Nat) (a:zA),l.length<mD/\(∀c∈l,c<256)/\wA (muW W) a v/\lA (nG W) 1 (sB .u8 l) a:=by
 have hv:v.cells.toList=[v]:=by
  cases v with
  | agg cs=>
   unfold Value.okWide at hok;rw[Tryz.underlying32]at hok;have hok:Cell.okWide Tryz.prog W .any base 32 (.agg cs):=hok
   unfold Cell.okWide at hok;rw[Tryz.underlying32]at hok;have hok:Cell.ok Tryz.prog W .any base 32 (.agg cs):=hok
   unfold Cell.ok at hok;rw[Tryz.underlying32]at hok;exact hok.elim
  | _=>rfl
 obtain⟨fuel,h⟩:=h
 obtain⟨c,n,lo,hc⟩:=glob0 hL
 rw[hv]at h;obtain⟨h1,x,h2,h3⟩:=zvd plainB ⟨c,n,lo,hc⟩ fuel 32 [v] (d,ps) (.inl rfl) h hw
 obtain⟨l,g,rfl,rfl,hl,hm⟩:=fY (sz:=1) Tryz.underlying32 (by kernel_rfl) (of_decide_eq_true (by kernel_rfl)) h3
 obtain⟨m,rfl,hq⟩:=mX (g:=fun(n:Nat)=>D.int .u8 (n:Int)) (Q:=fun n=>n<256) fun y hy=>by
  obtain⟨o,rfl,ho⟩:=zgr Tryz.underlying5 (hm y hy)
  exact⟨o,rfl,ho⟩
 obtain⟨a,e,hr⟩:=wJ.1 h2
 have e:av W.heap.size v=a:=by simpa using e
 refine⟨m,a,by simpa using hl,hq,?_,hr⟩
 rw[<- e];exact zic (h1 v (by simp))
end Go.Proofs.YtbgilkcahebbfaaGreatDoor
