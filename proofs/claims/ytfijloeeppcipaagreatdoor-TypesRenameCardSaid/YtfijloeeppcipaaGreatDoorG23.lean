/- The kind of an expression: types.Kind. -/
import Derived.Carry
import Derived.ChangeArms
import Derived.HandedShaped
import Derived.JoinedOf
import Derived.LaidMore
import Derived.OpenShut
import Derived.ProofKit
import Derived.Stop.Joined
import Derived.Test.YtfijloeeppcipaaGreatDoorRows
import GoSem.ClaimJoined
import Derived.Test.YtfijloeeppcipaaGreatDoorG22
set_option linter.all false
noncomputable section
set_option maxRecDepth 100000
namespace Go.Proofs
open Go Go.Am
variable [lC]
variable {t tf:Tr rA}
def zt7(op a b c:Nat):Option Nat:=(zzr.find? fun x=>decide (op=x.op)&&(decide (a=x.a)&&(decide (b=x.b)&&(decide (c=x.c)&&true)))).map KE.k
def zzt{op a b c op' a' b' c':Nat}:xG (z7p op a b c) (z7p op' a' b' c')=some (decide (op=op')&&(decide (a=a')&&(decide (b=b')&&(decide (c=c')&&true)))):=by
 have h:∀x y:Nat,sL (.int .u8 (x:Int)) (.int .u8 (y:Int))=some (decide (x=y)):=by
  intro x y;show cA (kEq .u8 .u8) (some (jA (x:Int) (y:Int)))=_
  rw[oJ.2 rfl,lE,zfs];congr 2
  exact propext (by omega)
 unfold xG z7p;simp only[zA.asAgg,sA,tN,h]
def zmf{op a b c:Nat}:∀(l:List KE),pH (z7p op a b c) (l.map KE.e)=some ((l.find? fun x=>decide (op=x.op)&&(decide (a=x.a)&&(decide (b=x.b)&&(decide (c=x.c)&&true)))).map fun x=>zA.int .u8 (x.k:Int))
 | []=>rfl
 | x::l=>by
  rw[ycm,pH,show(KE.e x).1=z7p x.op x.a x.b x.c from rfl,zzt,sA,List.find?_cons]
  cases h:(decide (op=x.op)&&(decide (a=x.a)&&(decide (b=x.b)&&(decide (c=x.c)&&true))))with
  | true=>rfl
  | false=>exact zmf l
def z95{m:Nat}(hm:t.get m=some (.map (vD 64)))(op a b c:Nat):oH yA 100 ⟨0,t⟩ (.map m) (z7p op a b c) true=some (match zt7 op a b c with | some k=>.tup [.int .u8 (k:Int),.bool true] | none=>.tup [.int .u8 0,.bool false]):=by
 have hl:vD 64=zzr.map KE.e:=rfl
 have hf:=zmf (op:=op) (a:=a) (b:=b) (c:=c) zzr
 rw[<- hl]at hf;unfold zt7
 cases h:zzr.find? fun x=>decide (op=x.op)&&(decide (a=x.a)&&(decide (b=x.b)&&(decide (c=x.c)&&true)))with
 | some x=>
  rw[h]at hf;exact zi7 jS hm hf z8y rfl ty5 true
 | none=>
  rw[h]at hf;exact zlo jS hm hf z8y rfl ty5 true
def fitK (op nm a b c:Nat):Nat × Nat:=
 if op=3\/op=5 then(if a=4 then(nm,0)else(0,142))
 else match zt7 op a b c with
  | some k=>if op=21 then(if nm=2 then(k,0)else(0,142))else if op=22 then(if nm=3 then(k,0)else(0,142))else(k,0)
  | none=>(0,142)
def opK (p:fC)(op:Nat)(name:List Nat)(vk n:Nat)(ks:List Nat):Nat × Nat:=
 if (lI p op name n).2=false then(0,141)else if op=1 then(vk,0)else fitK op (lI p op name n).1 (ks.getD 0 0) (ks.getD 1 0) (ks.getD 2 0)
def zzac(p:fC)(op:Nat)(name:List Nat)(vk n:Nat)(ks:List Nat)(r:Nat ⊕ List Nat):Nat × Nat:=
 match r with
 | .inl e=>(0,e)
 | .inr ks'=>opK p op name vk n (ks++ks')
mutual
/-- kind and error of an expression whose parts are printable -/
def xF(p:fC):pA->Nat × Nat
 | .mk op name v args=>zzac p op name v.kind args.length [] (iH p args)
def iH(p:fC):List pA->Nat ⊕ List Nat
 | []=>.inr []
 | x::l=>if (xF p x).2≠0 then .inl (xF p x).2 else match iH p l with
  | .inl e=>.inl e
  | .inr ks=>.inr ((xF p x).1::ks)
end
def kdV (r:Nat × Nat):zA:=.tup [.int .u8 (r.1:Nat),.int .i64 (r.2:Nat)]
def kC (ks:List Nat):List zA:=[.int .u8 (ks.getD 0 0:Nat),.int .u8 (ks.getD 1 0:Nat),.int .u8 (ks.getD 2 0:Nat)]
def kC_set{ks:List Nat}{k:Nat}(h:ks.length<3):(kC ks).set ks.length (.int .u8 (k:Int))=kC (ks++[k]):=by
 match ks,h with
 | [],_=>rfl
 | [x],_=>rfl
 | [x,y],_=>rfl
def zzw{ks:List Nat}{i:Nat}(h:i<3):(kC ks)[i]?=some (.int .u8 (ks.getD i 0:Nat)):=by
 have:i=0\/i=1\/i=2:=by omega
 rcases this with e | e | e<;>subst e<;>rfl
def zsb{b i:Nat}(h:i<3):qB yA 137 (.ptr b 0) (.int .i64 (i:Int))=some (.ptr b i):=by
 unfold qB;rw[ty137,sA];have e:(zA.int .i64 (i:Int)).asNat=some i:=rfl
 rw[e,sA];simp only[zA.asSlice,zA.asPtr,sA,bD.asArr];rw[ty5,sA,vC.2 h,lE];simp
def zsz{x:pA}{d:Nat}(h:kF x d=true):x.args.length<=3/\(x.op=1\/∀y∈x.args,kF y (d+1)=true):=by
 obtain⟨op,name,v,args⟩:=x
 unfold kF uP at h;simp only[ybb,decide_eq_true_eq]at h;obtain⟨⟨hd,⟨⟨⟨h27,_⟩,hl⟩,hm⟩,hnm⟩,hrest⟩:=h
 obtain⟨f1,f2,f3,f4,f5,f6,f7,f8⟩:=zum h27
 refine⟨by show args.length<=3;omega,?_⟩
 show op=1\/∀y∈args,kF y (d+1)=true
 by_cases h1:op=1
 ·exact .inl h1
 ·rw[yaa h1,ybb,zm2,ycb]at hrest
  exact .inr hrest.2
def zjz{x:pA}{d:Nat}(h:kF x d=true)(h1:x.op=1):x.args=[]:=by
 obtain⟨op,name,v,args⟩:=x
 have h1:op=1:=h1
 subst h1;unfold kF uP at h;simp only[ybb,decide_eq_true_eq]at h;have:=h.1.2.1.2
 have e:(zF 1).most=0:=rfl
 rw[e]at this;exact ycc.1 (by show args.length=0;omega)
def POk (p:fC)(b m:Nat)(x:pA):Prop:=∀(d:Nat) (t:Tr rA) (cs:List zA),kF x d=true->x.fit->qL t b m p->t.get m=some (.map (vD 64))->RD t x.d cs->uC yA F 44 [.ptr b 0,.agg cs] t=some (kdV (xF p x))
section
variable {p:fC}{b m:Nat}
def qL.mono{t':Tr rA}(h:qL t b m p)(k:dA t t'):qL t' b m p:=by
 obtain⟨cs,h1,h2⟩:=h
 exact⟨cs,h1.mono k,h2.up k⟩
def qL.map(h:qL t b m p):mA yA 100 ⟨0,t⟩ (.ptr b 4)=some (.map m):=by
 obtain⟨cs,h1,h2,h3,h4⟩:=h.plan
 refine h4.load1 (j:=4) z8y rfl ?_
 rw[ybp (by omega),h2]
 rfl
def z02{r:Bool}{k:Nat}{t0:Tr rA}(hle:dA t0 t):jp 44 59 [.bool r,.int .u8 (k:Int)] t (fun v t'=>v=kdV (if r=true then(k,0)else(0,142))/\dA t0 t'):=by
 refine j44_59 _ _ ?_
 unfold z62
 cases r with
 | true=>exact lB (by simp) ⟨rfl,hle⟩
 | false=>exact iA rfl ⟨rfl,hle⟩
def z39{op:Nat}{name:List Nat}{v:lG}{n:Nat}{ks:List Nat}{a c d:zA}{ak:Nat}{t0:Tr rA}(hp:p.fit)(hC:qL t b m p)(hm:t.get m=some (.map (vD 64)))(hd:oB d=some (.int .i64 (n:Int)))(hk:gD t ak none (kC ks))(hle:dA t0 t) :
  wp 44 (.call 66 [.ptr b 0,(.agg [(.int .u8 (op:Int)),(.str name),(.int .u8 (v.kind:Int)),(.bool v.f.n.neg),a,(.bool v.f.d.neg),c,(.int .i64 v.i),d])] fun a9=>
 .opt (mB 0 a9) fun a10=>.asI .u8 a10 fun n11=>.opt (mB 1 a9) fun jD=>.asB jD fun b13=>.ite (!b13)
 (.ret (.tup [(.int .u8 0),(.int .i64 141)]))
 (.opt (qB yA 137 (.ptr ak 0) (.int .i64 0)) fun a14=>.light (fun m=>mA yA 5 ⟨0,m⟩ a14) fun a15=>.asI .u8 a15 fun n16=>.opt (qB yA 137 (.ptr ak 0) (.int .i64 1)) fun a17=>.light (fun m=>mA yA 5 ⟨0,m⟩ a17) fun a18=>.asI .u8 a18 fun n19=>.opt (qB yA 137 (.ptr ak 0) (.int .i64 2)) fun a20=>.light (fun m=>mA yA 5 ⟨0,m⟩ a20) fun a21=>.asI .u8 a21 fun n22=>.ite true (.ite true (.ite (jA (op:Int) 1)
 (.ret (.tup [(.int .u8 (v.kind:Int)),(.int .i64 0)]))
 (.ite (jA (op:Int) 3)
 (.ite (jA (op:Int) 3)
 (.opt (qB yA 137 (.ptr ak 0) (.int .i64 0)) fun a23=>.light (fun m=>mA yA 5 ⟨0,m⟩ a23) fun a24=>.asI .u8 a24 fun n25=>.jump 59 [(.bool (jA n25 4)),(.int .u8 n11)])
 (.ite (jA (op:Int) 21)
 (.opt (cC (.ptr b 0)) fun a26=>.opt (tB yA 104 1 a26) fun a27=>.light (fun m=>mA yA 100 ⟨0,m⟩ a27) fun a28=>.light (fun m=>oH yA 100 ⟨0,m⟩ a28 (.agg [(.int .u8 (op:Int)),(.int .u8 n16),(.int .u8 n19),(.int .u8 n22)]) true) fun a29=>.opt (mB 0 a29) fun a30=>.asI .u8 a30 fun n31=>.opt (mB 1 a29) fun a32=>.asB a32 fun b33=>.ite b33
 (.jump 59 [(.bool (jA n11 2)),(.int .u8 n31)])
 (.jump 59 [(.bool false),(.int .u8 n31)]))
 (.ite (jA (op:Int) 22)
 (.opt (cC (.ptr b 0)) fun a34=>.opt (tB yA 104 1 a34) fun a35=>.light (fun m=>mA yA 100 ⟨0,m⟩ a35) fun a36=>.light (fun m=>oH yA 100 ⟨0,m⟩ a36 (.agg [(.int .u8 (op:Int)),(.int .u8 n16),(.int .u8 n19),(.int .u8 n22)]) true) fun a37=>.opt (mB 0 a37) fun a38=>.asI .u8 a38 fun n39=>.opt (mB 1 a37) fun a40=>.asB a40 fun b41=>.ite b41
 (.jump 59 [(.bool (jA n11 3)),(.int .u8 n39)])
 (.jump 59 [(.bool false),(.int .u8 n39)]))
 (.opt (cC (.ptr b 0)) fun a42=>.opt (tB yA 104 1 a42) fun a43=>.light (fun m=>mA yA 100 ⟨0,m⟩ a43) fun a44=>.light (fun m=>oH yA 100 ⟨0,m⟩ a44 (.agg [(.int .u8 (op:Int)),(.int .u8 n16),(.int .u8 n19),(.int .u8 n22)]) true) fun a45=>.opt (mB 0 a45) fun a46=>.asI .u8 a46 fun n47=>.opt (mB 1 a45) fun a48=>.asB a48 fun b49=>.jump 59 [(.bool b49),(.int .u8 n47)]))))
 (.ite (jA (op:Int) 5)
 (.opt (qB yA 137 (.ptr ak 0) (.int .i64 0)) fun a50=>.light (fun m=>mA yA 5 ⟨0,m⟩ a50) fun a51=>.asI .u8 a51 fun n52=>.jump 59 [(.bool (jA n52 4)),(.int .u8 n11)])
 (.ite (jA (op:Int) 21)
 (.opt (cC (.ptr b 0)) fun a53=>.opt (tB yA 104 1 a53) fun a54=>.light (fun m=>mA yA 100 ⟨0,m⟩ a54) fun a55=>.light (fun m=>oH yA 100 ⟨0,m⟩ a55 (.agg [(.int .u8 (op:Int)),(.int .u8 n16),(.int .u8 n19),(.int .u8 n22)]) true) fun a56=>.opt (mB 0 a56) fun a57=>.asI .u8 a57 fun n58=>.opt (mB 1 a56) fun a59=>.asB a59 fun b60=>.ite b60
 (.jump 59 [(.bool (jA n11 2)),(.int .u8 n58)])
 (.jump 59 [(.bool false),(.int .u8 n58)]))
 (.ite (jA (op:Int) 22)
 (.opt (cC (.ptr b 0)) fun a61=>.opt (tB yA 104 1 a61) fun a62=>.light (fun m=>mA yA 100 ⟨0,m⟩ a62) fun a63=>.light (fun m=>oH yA 100 ⟨0,m⟩ a63 (.agg [(.int .u8 (op:Int)),(.int .u8 n16),(.int .u8 n19),(.int .u8 n22)]) true) fun a64=>.opt (mB 0 a64) fun a65=>.asI .u8 a65 fun n66=>.opt (mB 1 a64) fun a67=>.asB a67 fun b68=>.ite b68
 (.jump 59 [(.bool (jA n11 3)),(.int .u8 n66)])
 (.jump 59 [(.bool false),(.int .u8 n66)]))
 (.opt (cC (.ptr b 0)) fun a69=>.opt (tB yA 104 1 a69) fun a70=>.light (fun m=>mA yA 100 ⟨0,m⟩ a70) fun a71=>.light (fun m=>oH yA 100 ⟨0,m⟩ a71 (.agg [(.int .u8 (op:Int)),(.int .u8 n16),(.int .u8 n19),(.int .u8 n22)]) true) fun a72=>.opt (mB 0 a72) fun a73=>.asI .u8 a73 fun n74=>.opt (mB 1 a72) fun a75=>.asB a75 fun b76=>.jump 59 [(.bool b76),(.int .u8 n74)])))))) .fail) .fail)) t (fun x t'=>x=kdV (opK p op name v.kind n ks)/\dA t0 t'):=by
 refine kD ?_
 rw[q66,z4m hC hp hd,wA];unfold opK;generalize lI p op name n=r
 obtain⟨nm,ok⟩:=r
 refine xB rfl (pC (xB rfl (pD ?_)))
 cases ok with
 | false=>exact iA rfl ⟨rfl,hle⟩
 | true=>
  refine lB (by simp) ?_
  rw[yaa (by simp)]
  have i0:=zsb (b:=ak) (i:=0) (by omega)
  have i1:=zsb (b:=ak) (i:=1) (by omega)
  have i2:=zsb (b:=ak) (i:=2) (by omega)
  have l0:mA yA 5 ⟨0,t⟩ (.ptr ak 0)=some (.int .u8 (ks.getD 0 0:Nat)):=hk.load1 ty5 rfl (zzw (by omega))
  have l1:mA yA 5 ⟨0,t⟩ (.ptr ak 1)=some (.int .u8 (ks.getD 1 0:Nat)):=hk.load1 ty5 rfl (zzw (by omega))
  have l2:mA yA 5 ⟨0,t⟩ (.ptr ak 2)=some (.int .u8 (ks.getD 2 0:Nat)):=hk.load1 ty5 rfl (zzw (by omega))
  refine xB i0 (uD l0 (pC (xB i1 (uD l1 (pC (xB i2 (uD l2 (pC (iA rfl (iA rfl ?_))))))))))
  by_cases h1:op=1
  ·rw[yab h1];exact iA (yEq (by omega)) ⟨rfl,hle⟩
  rw[yaa h1];refine lB (nEq (by omega)) ?_
  have hlk:=z95 hm op (ks.getD 0 0) (ks.getD 1 0) (ks.getD 2 0)
  unfold fitK;have eq4:∀ {x j:Nat},jA (x:Int) (j:Int)=decide (x=j):=by intro x j;rw[zfs];congr 1;exact propext (by omega)
  have aC:∀ {x j k:Nat},jp 44 59 [.bool (jA (x:Int) (j:Int)),.int .u8 (k:Int)] t (fun v t'=>v=kdV (if x=j then(k,0)else(0,142))/\dA t0 t'):=by
   intro x j k;rw[eq4];have:=z02 (r:=decide (x=j)) (k:=k) hle
   simpa using this
  by_cases h3:op=3
  ·rw[yab (.inl h3)]
   refine iA (yEq (by omega)) (iA (yEq (by omega)) (xB i0 (uD l0 (pC (lD ?_)))))
   exact aC (j:=4)
  refine lB (nEq (by omega)) ?_
  by_cases h5:op=5
  ·rw[yab (.inr h5)]
   refine iA (yEq (by omega)) (xB i0 (uD l0 (pC (lD ?_))))
   exact aC (j:=4)
  rw[yaa (by omega)]
  refine lB (nEq (by omega)) ?_
  by_cases h21:op=21
  ·refine iA (yEq (by omega)) (xB gM (xB zpd (uD hC.map (uD hlk ?_))))
   cases hL:zt7 op (ks.getD 0 0) (ks.getD 1 0) (ks.getD 2 0)with
   | some k=>
    refine xB rfl (pC (xB rfl (pD (iA rfl (lD ?_)))))
    simp only[yab h21];exact aC (j:=2)
   | none=>
    refine xB rfl (pC (xB rfl (pD (lB (by simp) (lD ?_)))))
    exact z02 (r:=false) (k:=0) hle
  refine lB (nEq (by omega)) ?_
  by_cases h22:op=22
  ·refine iA (yEq (by omega)) (xB gM (xB zpd (uD hC.map (uD hlk ?_))))
   cases hL:zt7 op (ks.getD 0 0) (ks.getD 1 0) (ks.getD 2 0)with
   | some k=>
    refine xB rfl (pC (xB rfl (pD (iA rfl (lD ?_)))))
    simp only[yaa h21,yab h22];exact aC (j:=3)
   | none=>
    refine xB rfl (pC (xB rfl (pD (lB (by simp) (lD ?_)))))
    exact z02 (r:=false) (k:=0) hle
  refine lB (nEq (by omega)) (xB gM (xB zpd (uD hC.map (uD hlk ?_))))
  cases hL:zt7 op (ks.getD 0 0) (ks.getD 1 0) (ks.getD 2 0)with
  | some k=>
   refine xB rfl (pC (xB rfl (pD (lD ?_))))
   simp only[yaa h21,yaa h22];exact z02 (r:=true) (k:=k) hle
  | none=>
   refine xB rfl (pC (xB rfl (pD (lD ?_))))
   exact z02 (r:=false) (k:=0) hle
def zyf{op:Nat}{name:List Nat}{v:lG}{args:List pA}{a c d:zA}{ak dd:Nat}{t0:Tr rA}(hp:p.fit)(hall:∀y∈args,POk p b m y)(hP:∀y∈args,kF y dd=true)(hfits:∀y∈args,y.fit)(hlen:args.length<=3)
  (hC:qL t0 b m p) (hm:t0.get m=some (.map (vD 64))) (hr:lA t0 9 (args.map pA.d) d) (hak:t0.get ak=none) (hbase:yA.base<=ak):∀(l:List pA) (i:Nat) (ks:List Nat) (t:Tr rA),args.drop i=l->i<=args.length->ks.length=i->dA t0 t->gD t ak none (kC ks) →
  jp 44 2 [.ptr b 0,.ptr ak 0,d,.int .i64 (args.length:Int),.int .i64 (i:Int),.int .u8 (op:Int),.str name,.int .u8 (v.kind:Int),.bool v.f.n.neg,a,.bool v.f.d.neg,c,.int .i64 v.i,d] t (fun x t'=>x=kdV (zzac p op name v.kind args.length ks (iH p l))/\dA t0 t'):=by
 intro l;induction l with
 | nil=>
  intro i ks t hl hi hk hle hc;have hi2:=yak.1 hl
  refine j44_2 _ _ _ _ _ _ _ _ _ _ _ _ _ _ ?_
  unfold z88;refine lB (nLt (by omega)) ?_
  have:=z39 (op:=op) (name:=name) (v:=v) (n:=args.length) (a:=a) (c:=c) (d:=d) hp (hC.mono hle) (hle _ _ hm) (by rw[hr.len,ybf]) hc hle
  unfold iH;show wp 44 _ t (fun x t'=>x=kdV (opK p op name v.kind args.length (ks++[]))/\dA t0 t')
  rw[ycd];exact this
 | cons x l ih=>
  intro i ks t hl hi hk hle hc;obtain⟨h1,h2,h3⟩:=zX hl
  have hm':x∈args:=ycv h1
  refine j44_2 _ _ _ _ _ _ _ _ _ _ _ _ _ _ ?_
  unfold z88;obtain⟨pb,po,cs,g1,g2,g3,g4,g5⟩:=oE.at z3l (by simp) (hr.mono hle) (i:=i) (d:=x.d) (by simp[h1])
  refine iA (yLt (by omega)) (xB g1 (uD g2 ?_))
  rw[iM];refine oF (vF g5 x.zs) ?_
  have hmk:=g5.mk x.zs
  have hcs:[zA.int .u8 ((cellsOf cs).i 0),.str ((cellsOf cs).s 1),.int .u8 ((cellsOf cs).i 2),.bool ((cellsOf cs).b 3),(cellsOf cs).v 4,.bool ((cellsOf cs).b 5),(cellsOf cs).v 6,.int .i64 ((cellsOf cs).i 7),(cellsOf cs).v 8]=cs:=hmk
  rw[hcs];refine iA g5.all (kD ?_)
  rw[q44,hall x hm' dd t cs (hP x hm') (hfits x hm') (hC.mono hle) (hle _ _ hm) g5,wA]
  refine xB rfl (pC (xB rfl (pC ?_)))
  unfold iH;by_cases he:(xF p x).2=0
  ·rw[yaa (by simpa using he)]
   refine lB (by rw[yEq (by omega)];simp) (xB (zsb (by omega)) (oG fun n _ _=>?_))
   obtain⟨t',e1,e2,e3⟩:=hc.store1 (v:=.int .u8 ((xF p x).1:Nat)) hbase ty5 rfl rfl rfl (j:=i) (by show i<3;omega)
   refine⟨_,_,e1 n,lD ?_⟩
   rw[wrap_i64 (by omega) (by omega),show(i:Int)+1=((i+1:Nat):Int) by omega]
   rw[<- hk,kC_set (by omega)]at e2
   have hle':dA t0 t':=hle.off hak e3
   have:=ih (i+1) (ks++[(xF p x).1]) t' h2 (by omega) (by simp;omega) hle' e2
   refine Jq.mono this fun v' t2 hh=>⟨?_,hh.2⟩
   rw[hh.1]
   cases iH p l with
   | inl e=>rfl
   | inr ks'=>simp[zzac]
  ·rw[yab he]
   refine iA ?_ ⟨rfl,hle⟩
   cases hq:jA ((xF p x).2:Int) 0 with
   | true=>exact absurd (mG.1 hq) (by omega)
   | false=>rfl
mutual
def zye(hp:p.fit):∀(x:pA),POk p b m x
 | .mk op name v args=>by
  have hall:=zri hp args
  intro dd t cs hP hfit hC hm hr;have hP0:=hP
  obtain⟨h1,h2⟩:=zsz hP
  have hone:=zjz hP
  simp only[pA.args,pA.op]at h1 h2 hone;obtain⟨a,c,d,rfl,ha,hc,hd⟩:=kH hr
  simp only[pA.op,pA.name,pA.v,pA.args]at ha hc hd ⊢
  have hfit':=hfit
  unfold pA.fit at hfit';have hfits:=pA.fits_mem hfit'.2.2.2.2.2
  have hPs:∀y∈args,kF y (dd+1)=true:=by
   rcases h2 with e | h
   ·rw[hone e];intro y hy;cases hy
   ·exact h
  refine zN (w44 _ _ _ _ _ _ _ _ _ _ ?_)
  unfold t44;refine oG fun ak hak hbase=>?_
  obtain⟨t1,e1,e2,e3,e4⟩:=bR (C:=yA) ty137 hak
  have hlen:=hd.len
  rw[ybf]at hlen;refine⟨_,_,e1,xB hlen (pC (lD ?_))⟩
  have:=zyf (op:=op) (name:=name) (v:=v) (a:=a) (c:=c) hp hall hPs hfits h1 hC hm hd hak hbase args 0 [] t1 rfl (by omega) rfl e3 e2
  unfold xF;exact this
def zri(hp:p.fit):∀(l:List pA),∀y∈l,POk p b m y
 | [],_,h=>by cases h
 | x::l,y,h=>by
  rcases ybs.1 h with e | h
  ·rw[e];exact zye hp x
  ·exact zri hp l y h
end
end
end Go.Proofs
namespace Go.Proofs
open Go Go.Am
section
variable [lC]
variable {t tf:Tr rA}
mutual
/-- the number of parts -/
def rH:pA->Nat
 | .mk _ _ _ args=>1+yN args
def yN:List pA->Nat
 | []=>0
 | x::l=>rH x+yN l
end
mutual
def za8:∀(x:pA) (cs:List zA),x.fit->rH x<1000000000000000000->RD t x.d cs->uC yA F 23 [.agg cs] t=some (.int .i64 (rH x:Nat))
 | .mk op name v args,cs,hx,hn,h=>by
  obtain⟨a,b,c,rfl,ha,hb,hc⟩:=kH h
  simp only[pA.op,pA.name,pA.v,pA.args]at ha hb hc ⊢
  have hx':=hx
  unfold pA.fit at hx';have hn':=hn
  unfold rH at hn' ⊢
  refine mD.2 (w23 _ _ _ _ _ _ _ _ _ ?_)
  unfold t23;have hlen:=hc.len
  rw[ybf]at hlen;refine xB hlen (pC (lD ?_))
  exact zb1 args args 1 c 0 hc rfl hx'.2.2.2.2.2 hx'.2.2.2.2.1 hn'
def zb1:∀(l args:List pA) (n:Nat) (c:zA) (i:Nat),lA t 9 (args.map pA.d) c->args.drop i=l->pA.fits l->args.length<mC->n+yN l<1000000000000000000->jp 23 2 [.int .i64 (n:Int),c,.int .i64 (args.length:Int),.int .i64 (i:Int)] t (fun v t'=>v=.int .i64 ((n+yN l:Nat):Int)/\t'=t)
 | [],args,n,c,i,hc,hd,hok,hsz,hn=>by
  have:=zat hd
  refine j23_2 _ _ _ _ ?_
  unfold z9a;refine lB (nLt (by omega)) ?_
  exact⟨rfl,rfl⟩
 | x::l,args,n,c,i,hc,hd,hok,hsz,hn=>by
  obtain⟨h1,h2,h3⟩:=zX hd
  unfold mC at hsz;have hok':=hok
  unfold pA.fits at hok';unfold yN at hn ⊢
  refine j23_2 _ _ _ _ ?_
  obtain⟨pb,po,cs,g1,g2,g3,g4,g5⟩:=oE.at z3l (by simp) hc (i:=i) (d:=x.d) (by simp[h1])
  unfold z9a;refine iA (yLt (by omega)) (xB g1 (uD g2 ?_))
  rw[iM];refine oF (vF g5 x.zs) ?_
  have hmk:=g5.mk x.zs
  have hcs:[zA.int .u8 ((cellsOf cs).i 0),.str ((cellsOf cs).s 1),.int .u8 ((cellsOf cs).i 2),.bool ((cellsOf cs).b 3),(cellsOf cs).v 4,.bool ((cellsOf cs).b 5),(cellsOf cs).v 6,.int .i64 ((cellsOf cs).i 7),(cellsOf cs).v 8]=cs:=hmk
  rw[hcs];refine iA g5.all (kD ?_)
  rw[q23,za8 x cs hok'.1 (by omega) g5,wA]
  refine pC (lD ?_)
  rw[wrap_i64 (n:=(n:Int)+(rH x:Nat)) (by omega) (by omega),wrap_i64 (by omega) (by omega),show(i:Int)+1=((i+1:Nat):Int) by omega,show(n:Int)+(rH x:Nat)=((n+rH x:Nat):Int) by omega]
  have:=zb1 l args (n+rH x) c (i+1) hc h2 hok'.2 hsz (by omega)
  rw[Nat.add_assoc]at this;exact this
end
def z9z:Nat->Nat
 | 0=>0
 | k+1=>1+3*z9z k
mutual
def zk8:∀(x:pA) (d:Nat),kF x d=true->rH x<=z9z (25-d)
 | .mk op name v args,d,h=>by
  obtain⟨h1,h2⟩:=zsz h
  have hone:=zjz h
  simp only[pA.args,pA.op]at h1 h2 hone;have hd:d<=24:=by
   unfold kF at h;simp only[ybb,decide_eq_true_eq]at h;exact h.1.1
  have e:25-d=(25-(d+1))+1:=by omega
  have hPs:∀y∈args,kF y (d+1)=true:=by
   rcases h2 with e | h
   ·rw[hone e];intro y hy;cases hy
   ·exact h
  have:=zgw args (d+1) hPs
  rw[e];unfold rH z9z;have:args.length*z9z (25-(d+1))<=3*z9z (25-(d+1)):=ybi _ h1
  omega
def zgw:∀(l:List pA) (d:Nat),(∀y∈l,kF y d=true)->yN l<=l.length*z9z (25-d)
 | [],_,_=>by unfold yN;omega
 | x::l,d,h=>by
  unfold yN;have h1:=zk8 x d (h x (.head _))
  have h2:=zgw l d fun y hy=>h y (.tail _ hy)
  rw[ybn,Nat.succ_mul];omega
end
def zgv{x:pA}(h:jK x=true):rH x=1:=by
 obtain⟨op,name,v,args⟩:=x
 unfold jK at h;simp only[pA.args,ybb,decide_eq_true_eq]at h;have:args=[]:=ycc.1 (of_decide_eq_true h.2.2.1)
 subst this;unfold rH yN;rfl
def zdt{x:pA}(h:kF x 1=true):rH x<1000000000000000000:=by
 have:=zk8 x 1 h
 have e:z9z (25-1)=141214768240:=by decide
 omega
def iI(p:fC)(x:pA)(k:Nat):Nat:=if (xF p x).2≠0 then(xF p x).2 else if (xF p x).1≠k then 142 else 0
def mN(p:fC)(x:nC)(d:oC):Nat:=if d.fact=true then 141 else if x.off=true then 0 else if iI p x.when_ 1≠0 then iI p x.when_ 1 else iI p x.then_ d.kind
def aJ(p:fC)(x:nC):Nat:=
 if jL x=false then 140
 else if x.to<=x.from_ then 144
 else if 200<rH x.when_\/200<rH x.then_ then 5
 else match wH p.defs x.name with
  | none=>141
  | some d=>mN p x d
def el24:wK yA 24 56 24:=⟨⟨_,ty24,rfl,rfl⟩,⟨_,ty56,rfl,rfl,by decide,by decide⟩,fun y h=>by rw[ty56]at h;cases h;rfl⟩
def half0{c0 c1 c2 c3 c4 c5 c6 c7 c8 c9 d0 d1 d2 d3 d4 d5 d6 d7 d8 d9:zA}:sJ yA 113 (.agg [c0,c1,c2,c3,c4,c5,c6,c7,c8,c9,d0,d1,d2,d3,d4,d5,d6,d7,d8,d9]) (.int .i64 0)=some (.agg [c0,c1,c2,c3,c4,c5,c6,c7,c8,c9]):=by kernel_rfl
def half1{c0 c1 c2 c3 c4 c5 c6 c7 c8 c9 d0 d1 d2 d3 d4 d5 d6 d7 d8 d9:zA}:sJ yA 113 (.agg [c0,c1,c2,c3,c4,c5,c6,c7,c8,c9,d0,d1,d2,d3,d4,d5,d6,d7,d8,d9]) (.int .i64 1)=some (.agg [d0,d1,d2,d3,d4,d5,d6,d7,d8,d9]):=by kernel_rfl
abbrev z10h:List zA:=[(.int .u8 0),(.str []),(.int .u8 0),(.bool false),.nilslice,(.bool false),.nilslice,(.int .i64 0),.nilslice,(.int .u8 0)]
section
variable {p:fC}{b m:Nat}
def z0d{x:pA}{a c d:zA}{k:Nat}{K:T}{Q:cB}(hp:p.fit)(hP:kF x 1=true)(hfit:x.fit)(hC:qL t b m p)(hm:t.get m=some (.map (vD 64)))(hr:RD t x.d (xE x a c d))
  (hQ:iI p x k≠0->Q (.int .i64 (iI p x k:Nat)) t) (hK:iI p x k=0->wp 34 K t Q) :
  wp 34 (.asG z10h (.agg (xE x a c d++[.int .u8 (k:Int)])) fun X1=>
 .ite (kB zA.one [(.int .u8 (X1.i 0)),(.str (X1.s 1)),(.int .u8 (X1.i 2)),(.bool (X1.b 3)),(X1.v 4),(.bool (X1.b 5)),(X1.v 6),(.int .i64 (X1.i 7)),(X1.v 8),(.int .u8 (X1.i 9))]) (.call 44 [.ptr b 0,(.agg [(.int .u8 (X1.i 0)),(.str (X1.s 1)),(.int .u8 (X1.i 2)),(.bool (X1.b 3)),(X1.v 4),(.bool (X1.b 5)),(X1.v 6),(.int .i64 (X1.i 7)),(X1.v 8)])] fun a2=>
 .opt (mB 0 a2) fun a3=>.asI .u8 a3 fun n4=>.opt (mB 1 a2) fun a5=>.asI .i64 a5 fun n6=>.ite (!jA n6 0)
 (.ret (.int .i64 n6))
 (.ite (!jA n4 (X1.i 9))
 (.ret (.int .i64 142))
 K)) .fail) t Q:=by
 obtain⟨a1,b1,c1,e1,ha,hb,hc⟩:=kH hr
 simp only[xE,List.cons.injEq,true_and,and_true]at e1;obtain⟨rfl,rfl,rfl⟩:=e1
 have hfz:fK z10h (xE x a c d++[.int .u8 (k:Int)])=true:=by
  have:=zer [(.int .u8 0),(.str []),(.int .u8 0),(.bool false),.nilslice,(.bool false),.nilslice,(.int .i64 0),.nilslice] [.int .u8 0] (xE x a c d) [.int .u8 (k:Int)] (by rw[<- x.zs];exact zeq _ _ hr) rfl
  exact this
 have hone:kB zA.one (xE x a c d++[.int .u8 (k:Int)])=true:=by
  have:=hr.all
  rw[yG]at this ⊢
  rw[ydi,this];rfl
 refine oF (jN hfz) (iA hone (kD ?_))
 have hk:=zye (m:=m) hp x 1 t _ hP hfit hC hm hr
 have hk':uC yA F 44 [.ptr b 0,.agg [.int .u8 x.op,.str x.name,.int .u8 x.v.kind,.bool x.v.f.n.neg,a,.bool x.v.f.d.neg,c,.int .i64 x.v.i,d]] t=some (kdV (xF p x)):=hk
 rw[q44];show dD (uC yA F 44 [.ptr b 0,.agg [.int .u8 x.op,.str x.name,.int .u8 x.v.kind,.bool x.v.f.n.neg,a,.bool x.v.f.d.neg,c,.int .i64 x.v.i,d]] t) _
 rw[hk',wA];refine xB rfl (pC (xB rfl (pC ?_)))
 have neq:∀ {u w:Int},u≠w->(!jA u w)=true:=by
  intro u w h
  cases hq:jA u w with
  | true=>exact absurd (mG.1 hq) h
  | false=>rfl
 by_cases h1:(xF p x).2=0
 ·refine lB (by rw[yEq (by omega)];simp) ?_
  show wp 34 (.ite (!jA ((xF p x).1:Nat) (k:Int)) _ _) t Q
  by_cases h2:(xF p x).1=k
  ·refine lB (by rw[yEq (by omega)];simp) (hK ?_)
   unfold iI;rw[yaa (by omega),yaa (by omega)]
  ·have e:iI p x k=142:=by unfold iI;rw[yaa (by omega),yab h2]
   rw[e]at hQ;exact iA (neq (by omega)) (hQ (by omega))
 ·have e:iI p x k=(xF p x).2:=by unfold iI;rw[yab h1]
  rw[e]at hQ;exact iA (neq (by omega)) (hQ h1)
def zu7{x:nC}{cs:List zA}(hp:p.fit)(hfit:x.fit)(hC:qL t b m p)(hm:t.get m=some (.map (vD 64)))(hr:RD t x.d cs):uC yA F 34 [.ptr b 0,.agg cs] t=some (.int .i64 (aJ p x:Nat)):=by
 obtain⟨a,b1,c,a',b',c',rfl,hw,ht⟩:=xR hr
 refine zN ?_
 unfold xE;refine w34 _ _ _ _ _ _ _ _ _ _ _ _ _ _ _ _ _ _ _ _ _ _ _ _ _ ?_
 unfold t34;refine oG fun n hn _=>?_
 obtain⟨t1,e1,e2,e3,e4⟩:=lit1 (C:=yA) el24 (cs:=[.str x.name,.str x.label,.int .i64 x.from_,.int .i64 x.to,.int .i64 x.known,.bool x.off]++xE x.when_ a b1 c++xE x.then_ a' b' c') rfl (by decide) hn
 refine⟨_,_,e1,iA rfl (kD ?_)⟩
 show Wq yA F aH 46 _ t1 _
 have hr1:=hr.mono e3
 have hrp:RD t1 (fC.d ⟨[120],[],[],[x]⟩) [.str [120],.nilslice,.nilslice,.slice n 0 1 1]:=by
  unfold fC.d;rw[tI];refine⟨[[.str [120]],[.nilslice],[.nilslice],[.slice n 0 1 1]],rfl,?_⟩
  have hnil:∀sz,RD t1 (.sl sz []) [zA.nilslice]:=fun sz=>kJ.2 ⟨_,rfl,[],.inl ⟨rfl,rfl⟩,kG.2 rfl⟩
  refine uF.2 ⟨_,_,rfl,iP.2 rfl,uF.2 ⟨_,_,rfl,hnil 3,uF.2 ⟨_,_,rfl,hnil 3,uF.2 ⟨_,_,rfl,kJ.2 ⟨_,rfl,[_],e2,uF.2 ⟨_,_,rfl,hr1,kG.2 rfl⟩⟩,kG.2 rfl⟩⟩⟩⟩
 have hpf:fC.fit ⟨[120],[],[],[x]⟩:=by
  have hb:mC=1125899906842624:=rfl
  refine⟨by rw[hb];show 1<_;omega,by rw[hb];show 0<_;omega,by rw[hb];show 0<_;omega,by rw[hb];show 1<_;omega,(fun d h=>by cases h),(fun d h=>by cases h),fun y hy=>?_⟩
  have:y=x:=ydd.1 hy
  rw[this];exact hfit
 have hpp:aN ⟨[120],[],[],[x]⟩=jL x:=by
  have hN:kI [120]=true:=by kernel_rfl
  unfold aN;simp[hN]
 rw[q46,zb0 hpf hrp,hpp,wA];refine pD ?_
 unfold aJ;have aC:∀(k:Nat) (t':Tr rA),dA t t'->(fun v' t'=>v'=zA.int .i64 (k:Int)/\∀(b:Nat) (y:rA),t.get b=some y->t'.get b=some y) (zA.int .i64 (k:Int)) t':=fun k t' h=>⟨rfl,h⟩
 cases hcP:jL x with
 | false=>rw[yab rfl];exact iA rfl (aC 140 _ e3)
 | true=>
  rw[yaa (by simp)]
  refine lB (by simp) ?_
  by_cases h1:x.to<=x.from_
  ·rw[yab h1];exact iA (yLe h1) (aC 144 _ e3)
  rw[yaa h1];refine lB (nLe h1) ?_
  have hhalf:x.off=true/\jK x.when_=true/\jK x.then_=true\/x.off=false/\kF x.when_ 1=true/\kF x.then_ 1=true:=by
   unfold jL at hcP;simp only[ybb]at hcP;have:=hcP.2.2.2.2.2
   cases ho:x.off with
   | true=>rw[ho,yab rfl,ybb]at this;exact .inl ⟨rfl,this⟩
   | false=>rw[ho,yaa (by simp),ybb]at this;exact .inr ⟨rfl,this⟩
  have hpw:rH x.when_<1000000000000000000:=by
   rcases hhalf with⟨_,h,_⟩ | ⟨_,h,_⟩
   ·rw[zgv h];omega
   ·exact zdt h
  have hpt:rH x.then_<1000000000000000000:=by
   rcases hhalf with⟨_,_,h⟩ | ⟨_,_,h⟩
   ·rw[zgv h];omega
   ·exact zdt h
  have hfw:=hfit.2.2.2.2.2.1
  have hft:=hfit.2.2.2.2.2.2
  have pw:uC yA F 23 [.agg (xE x.when_ a b1 c)] t1=some (.int .i64 (rH x.when_:Nat)):=za8 _ _ hfw hpw (hw.mono e3)
  have pt:uC yA F 23 [.agg (xE x.then_ a' b' c')] t1=some (.int .i64 (rH x.then_:Nat)):=za8 _ _ hft hpt (ht.mono e3)
  refine kD ?_
  rw[q23];show dD (uC yA F 23 [.agg (xE x.when_ a b1 c)] t1) _
  rw[pw,wA];refine pC ?_
  by_cases h2:200<rH x.when_
  ·rw[yab (.inl h2)];exact iA (yLt (by omega)) (aC 5 _ e3)
  refine lB (nLt (by omega)) (kD ?_)
  rw[q23];show dD (uC yA F 23 [.agg (xE x.then_ a' b' c')] t1) _
  rw[pt,wA];refine pC ?_
  by_cases h3:200<rH x.then_
  ·rw[yab (.inr h3)];exact iA (yLt (by omega)) (aC 5 _ e3)
  rw[yaa (by omega)]
  refine lB (nLt (by omega)) ?_
  have hC1:=hC.mono e3
  obtain⟨cp,k1,k2,k3,k4⟩:=hC1.plan
  obtain⟨u1,u2⟩:=zir k1
  refine xB gM (xB zpe (uD k3 (oF u1 (oG fun bd hbd hbase=>?_))))
  obtain⟨t2,g1,g2,g3,g4⟩:=bR (C:=yA) z2n hbd
  refine⟨_,_,g1,kD ?_⟩
  rw[u2,q19,z09 hp (k1.mono g3),wA]
  have f1:tB yA 59 1 (.ptr bd 0)=some (.ptr bd 1):=by kernel_rfl
  have f2:tB yA 59 2 (.ptr bd 0)=some (.ptr bd 2):=by kernel_rfl
  cases hd:wH p.defs x.name with
  | none=>
   refine xB rfl (oF (jN rfl) (xB rfl (pD (oG fun k _ _=>?_))))
   obtain⟨t3,m1,m2,m3⟩:=lV g2 hbase z2n rfl rfl (m:=[.str [],.int .u8 0,.bool false]) rfl rfl
   refine⟨_,_,m1 k,iA rfl (aC 141 _ fun c u hc=>?_)⟩
   have hc1:=e3 _ _ hc
   have:c≠bd:=fun e=>by rw[e,hbd]at hc1;cases hc1
   rw[m3 c this];exact g3 _ _ hc1
  | some d=>
   refine xB rfl (oF (jN rfl) (xB rfl (pD (oG fun k _ _=>?_))))
   obtain⟨t3,m1,m2,m3⟩:=lV g2 hbase z2n rfl rfl (m:=[.str d.name,.int .u8 d.kind,.bool d.fact]) rfl rfl
   have hle:dA t1 t3:=fun c u hc=>by
    have:c≠bd:=fun e=>by rw[e,hbd]at hc;cases hc
    rw[m3 c this];exact g3 _ _ hc
   have hle0:dA t t3:=e3.trans hle
   have ld1:mA yA 5 ⟨0,t3⟩ (.ptr bd 1)=some (.int .u8 (d.kind:Int)):=m2.load1 (j:=1) ty5 rfl rfl
   have ld2:mA yA 4 ⟨0,t3⟩ (.ptr bd 2)=some (.bool d.fact):=m2.load1 (j:=2) ty4 rfl rfl
   refine⟨_,_,m1 k,lB (by simp) (xB f2 (uD ld2 (pD ?_)))⟩
   show wp 34 _ t3 (fun v' t'=>v'=zA.int .i64 (mN p x d:Nat)/\∀(b:Nat) (y:rA),t.get b=some y->t'.get b=some y)
   have res:∀k:Nat,mN p x d=k->wp 34 (.ret (.int .i64 (k:Int))) t3 (fun v' t'=>v'=zA.int .i64 (mN p x d:Nat)/\∀(b:Nat) (y:rA),t.get b=some y->t'.get b=some y):=fun k h=>by rw[h];exact⟨rfl,hle0⟩
   cases hf:d.fact with
   | true=>exact iA rfl (res 141 (by unfold mN;rw[yab hf]))
   | false=>
    refine lB (by simp) ?_
    cases ho:x.off with
    | true=>exact iA rfl (res 0 (by unfold mN;rw[yaa (by rw[hf];simp),yab ho]))
    | false=>
     have eD:mN p x d=if iI p x.when_ 1≠0 then iI p x.when_ 1 else iI p x.then_ d.kind:=by unfold mN;rw[yaa (by rw[hf];simp),yaa (by rw[ho];simp)]
     rw[ho]at hhalf;simp only[ybq,false_and,false_or,true_and]at hhalf;refine lB (by simp) (iA rfl (xB f1 (uD ld1 (pC (iA rfl (iA rfl (lD ?_)))))))
     have w1:tA .i64 (0+1)=1:=rfl
     have w2:tA .i64 (1+1)=2:=rfl
     have hC3:=hC.mono hle0
     have hm3:=hle0 _ _ hm
     refine zzae _ _ _ _ _ _ _ _ _ _ _ _ _ _ _ _ _ _ _ _ _ _ (iA rfl (xB half0 ?_))
     refine z0d (k:=1) hp hhalf.1 hfw hC3 hm3 (hw.mono hle0) (fun h=>?_) fun h1=>lD ?_
     ·rw[eD,yab h];exact⟨rfl,hle0⟩
     rw[w1];refine zzae _ _ _ _ _ _ _ _ _ _ _ _ _ _ _ _ _ _ _ _ _ _ (iA rfl (xB half1 ?_))
     rw[eD,yaa (by simpa using h1)]
     refine z0d (k:=d.kind) hp hhalf.2 hft hC3 hm3 (ht.mono hle0) (fun h=>⟨rfl,hle0⟩) fun h=>lD ?_
     rw[w2];refine zzae _ _ _ _ _ _ _ _ _ _ _ _ _ _ _ _ _ _ _ _ _ _ (lB (by show ¬ (false=true);simp) ?_)
     rw[h];exact aC 0 _ hle0
end
def zl1{a b:List Nat}:xG (.str a) (.str b)=some (decide (a=b)):=by
 show some (wE a b)=_
 congr 1
 cases h:wE a b with
 | true=>rw[decide_eq_true ((dJ _ _).1 h)]
 | false=>rw[decide_eq_false (fun e=>by rw[(dJ _ _).2 e]at h;cases h)]
def lO(l:List (List Nat)):List (zA × zA):=l.map fun s=>(zA.str s,zA.bool true)
def zmc{k:List Nat}:∀(l:List (List Nat)),pH (.str k) (lO l)=some (if k∈l then some (.bool true)else none)
 | []=>rfl
 | x::l=>by
  show ob (xG (.str k) (.str x)) (fun r=>bif r then some (some (zA.bool true))else pH (.str k) (lO l))=_
  rw[zl1,sA];by_cases h:k=x
  ·simp[h]
  ·rw[decide_eq_false h]
   show pH (.str k) (lO l)=_
   rw[zmc l];simp[h]
def zig{k:List Nat}:∀(l:List (List Nat)),k∉l->nG (.str k) (.bool true) (lO l)=some (lO (l++[k]))
 | [],_=>rfl
 | x::l,h=>by
  have h1:k≠x:=fun e=>h (e ▸ .head _)
  show ob (xG (.str k) (.str x)) (fun r=>bif r then some ((zA.str k,zA.bool true)::lO l)else ob (nG (.str k) (.bool true) (lO l)) fun l'=>some ((zA.str x,zA.bool true)::l'))=_
  rw[zl1,sA,decide_eq_false h1];show ob (nG (.str k) (.bool true) (lO l)) _=_
  rw[zig l fun m=>h (.tail _ m),sA]
  rfl
def tK(seen:List (List Nat)):List (List Nat)->Bool
 | []=>false
 | x::l=>if x∈seen then true else tK (seen++[x]) l
def zr1{s:List Nat}:wM yA 140 (.str s)=true:=by kernel_rfl
def zln{mb:Nat}{seen:List (List Nat)}(hm:t.get mb=some (.map (lO seen)))(s:List Nat):oH yA 140 ⟨0,t⟩ (.map mb) (.str s) false=some (.bool (decide (s∈seen))):=by
 have hf:=zmc (k:=s) seen
 by_cases h:s∈seen
 ·rw[yab h]at hf
  rw[decide_eq_true h];exact zi7 zr1 hm hf ty140 rfl ty4 false
 ·rw[yaa h]at hf
  rw[decide_eq_false h];exact zlo zr1 hm hf ty140 rfl ty4 false
def zfj{l:List oC}{v:zA}{mb:Nat}{t0:Tr rA}(hr:lA t0 3 (l.map oC.d) v)(hlen:l.length<mC)(hb:yA.base<=mb)(hmb:t0.get mb=none):∀(k i:Nat) (seen:List (List Nat)) (t:Tr rA),i+k=l.length->dA t0 t->t.get mb=some (.map (lO seen)) →
  jp 47 2 [.func (.func 48) [] [],.map mb,v,.int .i64 (l.length:Int),.int .i64 (i:Int)] t (fun x t'=>x=.bool (tK seen ((l.drop i).map oC.name))/\dA t0 t'):=by
 unfold mC at hlen;intro k;induction k with
 | zero=>
  intro i seen t hi hle hm;refine j47_2 _ _ _ _ _ (lB (nLt (by omega)) ?_)
  rw[ybt (by omega)]
  exact⟨rfl,hle⟩
 | succ k ih=>
  intro i seen t hi hle hm;have hlt:i<l.length:=by omega
  obtain⟨b0,off,cs,g1,g2,_,_,g5⟩:=oE.at sl22 (by simp) (hr.mono hle) (i:=i) (d:=l[i].d) (by simp[hlt])
  have hcs:=zgm g5
  subst hcs;have hcall:∀(R:cB),R (.str l[i].name) t->dD (kN (.func (.func 48) [] []) [.agg [.str l[i].name,.int .u8 l[i].kind,.bool l[i].fact]]) fun p=>Wq yA F aH p.1 p.2 t R:=by
   intro R hR;show dD (some (48,[zA.agg [.str l[i].name,.int .u8 l[i].kind,.bool l[i].fact]])) _
   rw[wA];simp only[];have:uC yA F 48 [zA.agg [.str l[i].name,.int .u8 l[i].kind,.bool l[i].fact]] t=some (.str l[i].name):=mD.2 (w48 _ _ _ ⟨rfl,rfl⟩)
   rw[q48,this,wA];exact hR
  refine j47_2 _ _ _ _ _ (iA (yLt (by omega)) (xB g1 (uD g2 ?_)))
  rw[iM];refine oF (vF g5 (oC.zs _)) (iA rfl (hcall _ (sS (uD (zln hm _) (pD ?_)))))
  rw[uJ hlt,ycm];unfold tK;by_cases h:l[i].name∈seen
  ·rw[yab h,decide_eq_true h]
   exact iA rfl ⟨rfl,hle⟩
  ·rw[yaa h,decide_eq_false h]
   refine lB (by simp) (hcall _ (sS (oG fun n _ _=>?_)))
   refine⟨_,_,zh1 zr1 hb hm (zig seen h),lD ?_⟩
   rw[wrap_i64 (by omega) (by omega),show(i:Int)+1=((i+1:Nat):Int) by omega]
   refine ih (i+1) (seen++[l[i].name]) _ (by omega) (fun c u hc=>?_) (by show(t.set mb _).get mb=_;rw[Tr.get_set,yab rfl])
   have:c≠mb:=fun e=>by rw[e,hmb]at hc;cases hc
   show(t.set mb _).get c=_
   rw[Tr.get_set,yaa this];exact hle _ _ hc
def zwj{l:List oC}{v:zA}(hr:lA t 3 (l.map oC.d) v)(hlen:l.length<mC):uC yA F 47 [v,.func (.func 48) [] []] t=some (.bool (tK [] (l.map oC.name))):=by
 refine zN (w47 _ _ ?_)
 unfold t47;refine oG fun mb hmb hb=>?_
 refine⟨.map mb,⟨mb+1,t.set mb (.map [])⟩,rfl,xB hr.len (pC (lD ?_))⟩
 rw[ybf];exact zfj hr hlen hb hmb l.length 0 [] (t.set mb (.map [])) (by omega) (yJ hmb _).1 (by rw[Tr.get_set,yab rfl];rfl)
def zfi{l:List uE}{v:zA}{mb:Nat}{t0:Tr rA}(hr:lA t0 3 (l.map uE.d) v)(hlen:l.length<mC)(hb:yA.base<=mb)(hmb:t0.get mb=none):∀(k i:Nat) (seen:List (List Nat)) (t:Tr rA),i+k=l.length->dA t0 t->t.get mb=some (.map (lO seen)) →
  jp 49 2 [.func (.func 50) [] [],.map mb,v,.int .i64 (l.length:Int),.int .i64 (i:Int)] t (fun x t'=>x=.bool (tK seen ((l.drop i).map uE.name))/\dA t0 t'):=by
 unfold mC at hlen;intro k;induction k with
 | zero=>
  intro i seen t hi hle hm;refine j49_2 _ _ _ _ _ (lB (nLt (by omega)) ?_)
  rw[ybt (by omega)]
  exact⟨rfl,hle⟩
 | succ k ih=>
  intro i seen t hi hle hm;have hlt:i<l.length:=by omega
  obtain⟨b0,off,cs,g1,g2,_,_,g5⟩:=oE.at sl23 (by simp) (hr.mono hle) (i:=i) (d:=l[i].d) (by simp[hlt])
  have g50:=g5
  obtain⟨a,rfl,ha⟩:=wV g5
  have hone:kB zA.one [.str l[i].name,.bool l[i].two,a]=true:=g50.all
  have hcall:∀(R:cB),R (.str l[i].name) t->dD (kN (.func (.func 50) [] []) [.agg [.str l[i].name,.bool l[i].two,a]]) fun p=>Wq yA F aH p.1 p.2 t R:=by
   intro R hR;show dD (some (50,[zA.agg [.str l[i].name,.bool l[i].two,a]])) _
   rw[wA];simp only[];have:uC yA F 50 [zA.agg [.str l[i].name,.bool l[i].two,a]] t=some (.str l[i].name):=mD.2 (w50 _ _ _ ⟨rfl,rfl⟩)
   rw[q50,this,wA];exact hR
  refine j49_2 _ _ _ _ _ (iA (yLt (by omega)) (xB g1 (uD g2 ?_)))
  rw[iM];refine oF (vF g50 (uE.zs _)) (iA hone (hcall _ (sS (uD (zln hm _) (pD ?_)))))
  rw[uJ hlt,ycm];unfold tK;by_cases h:l[i].name∈seen
  ·rw[yab h,decide_eq_true h]
   exact iA rfl ⟨rfl,hle⟩
  ·rw[yaa h,decide_eq_false h]
   refine lB (by simp) (hcall _ (sS (oG fun n _ _=>?_)))
   refine⟨_,_,zh1 zr1 hb hm (zig seen h),lD ?_⟩
   rw[wrap_i64 (by omega) (by omega),show(i:Int)+1=((i+1:Nat):Int) by omega]
   refine ih (i+1) (seen++[l[i].name]) _ (by omega) (fun c u hc=>?_) (by show(t.set mb _).get mb=_;rw[Tr.get_set,yab rfl])
   have:c≠mb:=fun e=>by rw[e,hmb]at hc;cases hc
   show(t.set mb _).get c=_
   rw[Tr.get_set,yaa this];exact hle _ _ hc
def zwi{l:List uE}{v:zA}(hr:lA t 3 (l.map uE.d) v)(hlen:l.length<mC):uC yA F 49 [v,.func (.func 50) [] []] t=some (.bool (tK [] (l.map uE.name))):=by
 refine zN (w49 _ _ ?_)
 unfold t49;refine oG fun mb hmb hb=>?_
 refine⟨.map mb,⟨mb+1,t.set mb (.map [])⟩,rfl,xB hr.len (pC (lD ?_))⟩
 rw[ybf];exact zfi hr hlen hb hmb l.length 0 [] (t.set mb (.map [])) (by omega) (yJ hmb _).1 (by rw[Tr.get_set,yab rfl];rfl)
end
section
variable [lC]
variable {t tf:Tr rA}
def zi5(p:fC):Bool:=p.tables.any fun x=>decide (400<x.rows.length)
def zi6(p:fC):Bool:=decide (64<p.defs.length)||(decide (16<p.tables.length)||(decide (400<p.clauses.length)||zi5 p))
def rO(p:fC):Nat:=
 if aN ⟨p.name,p.defs,p.tables,[]⟩=false then 140 else if zi6 p=true then 5 else if tK [] (p.defs.map oC.name)=true then 143 else if tK [] (p.tables.map uE.name)=true then 143 else 0
def nilR{sz:Nat}:lA t sz [] .nilslice:=⟨[],.inl ⟨rfl,rfl⟩,kG.2 rfl⟩
def zon{p:fC}{a b c:zA}(ha:lA t 3 (p.defs.map oC.d) a)(hb:lA t 3 (p.tables.map uE.d) b)(hc:lA t 24 (p.clauses.map nC.d) c):RD t p.d [.str p.name,a,b,c]:=by
 unfold fC.d;rw[tI];exact⟨[[.str p.name],[a],[b],[c]],rfl,uF.2 ⟨_,_,rfl,iP.2 rfl,uF.2 ⟨_,_,rfl,kJ.2 ⟨_,rfl,ha⟩,uF.2 ⟨_,_,rfl,kJ.2 ⟨_,rfl,hb⟩,uF.2 ⟨_,_,rfl,kJ.2 ⟨_,rfl,hc⟩,kG.2 rfl⟩⟩⟩⟩⟩
def zmq{p:fC}{cs:List zA}(hp:p.fit)(hr:RD t p.d cs):uC yA F 33 [.agg cs] t=some (.int .i64 (rO p:Nat)):=by
 have hr0:=hr
 obtain⟨a,b,c,rfl,ha,hb,hc⟩:=iO hr
 have hlen:=hp.ntables
 unfold mC at hlen;refine mD.2 (w33 _ _ _ _ ?_)
 unfold t33;refine iA ?_ (kD ?_)
 ·rw[yG];simp only[ycg,yck,ha.one,hb.one];rfl
 have hpf:fC.fit ⟨p.name,p.defs,p.tables,[]⟩:=⟨hp.name,hp.ndefs,hp.ntables,by show 0<mC;unfold mC;omega,hp.defs,hp.tables,fun d h=>by cases h⟩
 have hrd:RD t (fC.d ⟨p.name,p.defs,p.tables,[]⟩) [.str p.name,a,b,.nilslice]:=zon (p:=⟨p.name,p.defs,p.tables,[]⟩) ha hb nilR
 rw[q46,zb0 hpf hrd,wA];refine pD ?_
 unfold rO
 cases hP:aN ⟨p.name,p.defs,p.tables,[]⟩with
 | false=>rw[yab rfl];exact iA rfl ⟨rfl,rfl⟩
 | true=>
  rw[yaa (by simp)]
  have tl:=hb.len
  rw[ybf]at tl;have dl:=ha.len
  rw[ybf]at dl;have cl:=hc.len
  rw[ybf]at cl;have loop:∀(k i:Nat) (r:Bool),i+k=p.tables.length->zi6 p=(r||(p.tables.drop i).any fun x=>decide (400<x.rows.length)) →
    jp 33 2 [.bool r,b,.int .i64 (p.tables.length:Int),.int .i64 (i:Int),.str p.name,a,b,c] t (fun x t'=>x=.int .i64 ((if zi6 p=true then 5 else if tK [] (p.defs.map oC.name)=true then 143 else if tK [] (p.tables.map uE.name)=true then 143 else 0:Nat):Int)/\t'=t):=by
   intro k;induction k with
   | zero=>
    intro i r hi hm;rw[ybt (by omega)]at hm
    simp only[List.any_nil,Bool.or_false]at hm;refine j33_2 _ _ _ _ _ _ _ _ (lB (nLt (by omega)) ?_)
    rw[hm]
    cases r with
    | true=>rw[yab rfl];exact iA rfl ⟨rfl,rfl⟩
    | false=>
     rw[yaa (by simp)]
     refine lB (by simp) (kD ?_)
     rw[q47,zwj ha hp.ndefs,wA];refine pD ?_
     cases h1:tK [] (p.defs.map oC.name)with
     | true=>rw[yab rfl];exact iA rfl ⟨rfl,rfl⟩
     | false=>
      rw[yaa (by simp)]
      refine lB (by simp) (kD ?_)
      rw[q49,zwi hb hp.ntables,wA];refine pD ?_
      cases h2:tK [] (p.tables.map uE.name)with
      | true=>rw[yab rfl];exact iA rfl ⟨rfl,rfl⟩
      | false=>rw[yaa (by simp)];exact lB (by simp) ⟨rfl,rfl⟩
   | succ k ih=>
    intro i r hi hm;have hlt:i<p.tables.length:=by omega
    obtain⟨b0,off,cs,g1,g2,_,_,g5⟩:=oE.at sl23 (by simp) hb (i:=i) (d:=p.tables[i].d) (by simp[hlt])
    have g50:=g5
    obtain⟨rv,rfl,hrv⟩:=wV g5
    have hone:kB zA.one [.str p.tables[i].name,.bool p.tables[i].two,rv]=true:=g50.all
    have rl:=hrv.len
    rw[ybf]at rl;rw[uJ hlt,List.any_cons]at hm;refine j33_2 _ _ _ _ _ _ _ _ (iA (yLt (by omega)) (xB g1 (uD g2 ?_)))
    rw[iM];refine oF (vF g50 (uE.zs _)) (iA hone ?_)
    have hw:tA .i64 ((i:Int)+1)=((i+1:Nat):Int):=by rw[wrap_i64 (by omega) (by omega)];omega
    cases r with
    | true=>
     refine iA rfl (lD ?_)
     rw[hw];exact ih (i+1) true (by omega) (by rw[hm];simp)
    | false=>
     refine lB (by simp) (xB rl (pC (lD ?_)))
     rw[hw];have e:bB 400 ((p.tables[i].rows.length:Nat):Int)=decide (400<p.tables[i].rows.length):=by rw[zz9];congr 1;exact propext (by omega)
     rw[e];exact ih (i+1) _ (by omega) (by rw[hm];simp)
  refine lB (by simp) (xB dl (pC ?_))
  by_cases h1:64<p.defs.length
  ·refine iA (yLt (by omega)) (xB tl (pC (lD (loop p.tables.length 0 true (by omega) ?_))))
   unfold zi6;simp[h1]
  refine lB (nLt (by omega)) (xB tl (pC ?_))
  by_cases h2:16<p.tables.length
  ·refine iA (yLt (by omega)) (xB tl (pC (lD (loop p.tables.length 0 true (by omega) ?_))))
   unfold zi6;simp[h2]
  refine lB (nLt (by omega)) (xB cl (pC (xB tl (pC (lD ?_)))))
  have e:bB 400 ((p.clauses.length:Nat):Int)=decide (400<p.clauses.length):=by rw[zz9];congr 1;exact propext (by omega)
  rw[e];refine loop p.tables.length 0 _ (by omega) ?_
  unfold zi6 zi5;simp[h1,h2]
def qN(p:fC):List nC->Nat->Nat × Nat
 | [],_=>(0,0)
 | x::l,i=>if aJ p x≠0 then(i,aJ p x)else qN p l (i+1)
def qK(p:fC):Int × Nat:=if rO p≠0 then(-1,rO p)else((qN p p.clauses 0).1,(qN p p.clauses 0).2)
def chV (r:Int × Nat):zA:=.tup [.int .i64 r.1,.int .i64 (r.2:Nat)]
def zju{p:fC}{cs:List zA}(hp:p.fit)(hr:RD t p.d cs):uC yA F 16 [.agg cs] t=some (chV (qK p)):=by
 have hr0:=hr
 obtain⟨a,b,c,rfl,ha,hb,hc⟩:=iO hr
 have hlen:=hp.nclauses
 unfold mC at hlen;refine zN (w16 _ _ _ _ ?_)
 unfold t16;refine kD ?_
 rw[q33,zmq hp hr0,wA];refine pC ?_
 unfold qK;by_cases h:rO p=0
 ·rw[yaa (by omega)]
  refine lB (by rw[yEq (by omega)];simp) (kD ?_)
  rw[q28];refine zd1 hr0 fun cb m t1 h1 h2 h3=>?_
  have cl:=hc.len
  rw[ybf]at cl;refine xB cl (pC (lD ?_))
  have loop:∀(k i:Nat),i+k=p.clauses.length->jp 16 2 [.ptr cb 0,c,.int .i64 (p.clauses.length:Int),.int .i64 (i:Int)] t1 (fun x t'=>x=chV (((qN p (p.clauses.drop i) i).1:Int),(qN p (p.clauses.drop i) i).2)/\∀b y,t.get b=some y->t'.get b=some y):=by
   intro k;induction k with
   | zero=>
    intro i hi;refine j16_2 _ _ _ _ (lB (nLt (by omega)) ?_)
    rw[ybt (by omega)]
    exact⟨rfl,h1⟩
   | succ k ih=>
    intro i hi;have hlt:i<p.clauses.length:=by omega
    have hmem:p.clauses[i]∈p.clauses:=ycj hlt
    obtain⟨b0,off,cs,g1,g2,_,_,g5⟩:=oE.at z3m (by simp) (hc.mono h1) (i:=i) (d:=p.clauses[i].d) (by simp[hlt])
    refine j16_2 _ _ _ _ (iA (yLt (by omega)) (xB g1 (uD g2 ?_)))
    rw[iM];refine oF (vF g5 (nC.zs _)) ?_
    have hmk:=g5.mk (nC.zs p.clauses[i])
    refine iA ?_ (kD ?_)
    ·show kB zA.one (pI [(.str []),(.str []),(.int .i64 0),(.int .i64 0),(.int .i64 0),(.bool false),(.int .u8 0),(.str []),(.int .u8 0),(.bool false),.nilslice,(.bool false),.nilslice,(.int .i64 0),.nilslice,(.int .u8 0),(.str []),(.int .u8 0),(.bool false),.nilslice,(.bool false),.nilslice,(.int .i64 0),.nilslice] (cellsOf cs) 0)=true
     rw[hmk];exact g5.all
    ·show Wq yA F aH 34 [.ptr cb 0,.agg (pI [(.str []),(.str []),(.int .i64 0),(.int .i64 0),(.int .i64 0),(.bool false),(.int .u8 0),(.str []),(.int .u8 0),(.bool false),.nilslice,(.bool false),.nilslice,(.int .i64 0),.nilslice,(.int .u8 0),(.str []),(.int .u8 0),(.bool false),.nilslice,(.bool false),.nilslice,(.int .i64 0),.nilslice] (cellsOf cs) 0)] t1 _
     rw[hmk,q34,zu7 hp (hp.clauses _ hmem) h2 h3 g5,wA]
     refine pC ?_
     rw[uJ hlt];unfold qN;by_cases he:aJ p p.clauses[i]=0
     ·rw[yaa (by omega)]
      refine lB (by rw[yEq (by omega)];simp) (lD ?_)
      rw[wrap_i64 (by omega) (by omega),show(i:Int)+1=((i+1:Nat):Int) by omega]
      exact ih (i+1) (by omega)
     ·rw[yab he]
      refine iA ?_ ⟨rfl,h1⟩
      cases hq:jA ((aJ p p.clauses[i]:Nat):Int) 0 with
      | true=>exact absurd (mG.1 hq) (by omega)
      | false=>rfl
  exact loop p.clauses.length 0 (by omega)
 ·rw[yab h]
  refine iA ?_ ⟨rfl,fun _ _ h=>h⟩
  cases hq:jA ((rO p:Nat):Int) 0 with
  | true=>exact absurd (mG.1 hq) (by omega)
  | false=>rfl
end
section
variable [lC]
variable {t:Tr rA}
def pv36{f:yF}{u v:zA}(h1:lA t 1 (oD f.n.limbs) u)(h2:lA t 1 (oD f.d.limbs) v)(hf:f.ok):uC yA F 32 [.agg [.bool f.n.neg,u,.bool f.d.neg,v]] t=some (.int .i64 (zL f:Nat)):=by
 have hs:=yW hf
 refine mD.2 (w32 _ _ _ _ ?_)
 unfold zL at hs ⊢
 simp (disch:=omega) only[t32,qA,h1.len,h2.len,wA,sB,mR,wrap_i64]
 simp
mutual
def pv37:∀(x:pA) (left:Int) (cs:List zA),x.ok -> -9007199254740992<=left->left<=9007199254740992->RD t x.d cs->uC yA F 22 [.agg cs,.int .i64 left] t=some (.int .i64 (pJ x left))
 | .mk op name v args,left,cs,hx,hl1,hl2,h=>by
  obtain⟨a,b,c,rfl,ha,hb,hc⟩:=kH h
  simp only[pA.op,pA.name,pA.v,pA.args]at ha hb hc ⊢
  have hx':=hx
  unfold pA.ok at hx';have hf:=yW hx'.2.1
  have hn:=hx'.1
  unfold mC at hn;refine mD.2 (w22 _ _ _ _ _ _ _ _ _ _ ?_)
  simp (disch:=omega) only[t22,qA,q32,pv36 ha hb hx'.2.1,wA,sB,zij,zck,if_true,xO,wrap_i64,Int.tdiv_eq_ediv_of_nonneg]
  unfold pJ;exact z7l args args left _ op name v _ _ c 0 hc rfl hx'.2.2.2 hx'.2.2.1 (by omega) hl1 hl2 (by omega)
def z7l:∀(l args:List pA) (left n:Int) (op:Nat) (name:List Nat) (v:lG) (a b c:zA) (i:Nat),lA t 9 (args.map pA.d) c->args.drop i=l->pA.oks l->args.length<mC->0<=n -> -9007199254740992<=left->left<=9007199254740992->n<=27021597764222976 →
  jp 22 2 [.int .i64 left,.int .i64 n,.int .i64 i,.int .u8 op,.str name,.int .u8 v.kind,.bool v.f.n.neg,a,.bool v.f.d.neg,b,.int .i64 v.i,c] t (fun v' t'=>v'=.int .i64 (cN l left n)/\t'=t)
 | [],args,left,n,op,name,v,a,b,c,i,hc,hd,hok,hsz,hn,hl1,hl2,hn2=>by
  have:=zat hd
  refine j22_2 _ _ _ _ _ _ _ _ _ _ _ _ ?_
  simp only[z9b,qA,hc.len,wA,sB,ybf,zD];rw[yaa (by omega)]
  unfold cN;simp
 | x::l,args,left,n,op,name,v,a,b,c,i,hc,hd,hok,hsz,hn,hl1,hl2,hn2=>by
  obtain⟨h1,h2,h3⟩:=zX hd
  unfold mC at hsz;have hok':=hok
  unfold pA.oks at hok';refine j22_2 _ _ _ _ _ _ _ _ _ _ _ _ ?_
  obtain⟨pb,po,cs,g1,g2,g3,g4,g5⟩:=oE.at z3l (by simp) hc (i:=i) (d:=x.d) (by simp[h1])
  simp only[z9b,qA,hc.len,wA,sB,ybf,zD,tG,g1,g2,iM];rw[yab (by omega)]
  unfold cN;split
  ·rename_i hle
   obtain⟨a1,b1,c1,rfl,ha1,hb1,hc1⟩:=kH g5
   have hs:=oX x (left-n) hok'.1
   rw[vF g5 x.zs];simp only[wA,cellsOf,zz6,zxk,jR,zhx];simp (disch:=omega) only[q22,yaz,yba,wrap_i64]
   rw[pv37 x (left-n) _ hok'.1 (by omega) (by omega) g5]
   simp (disch:=omega) only[wA,sB,wrap_i64]
   have:=z7l l args left (n+pJ x (left-n)) op name v a b c (i+1) hc h2 hok'.2 hsz (by omega) hl1 hl2 (by omega)
   rw[show((i:Int)+1)=((i+1:Nat):Int) by omega]
   exact this
  ·simp
end
end
section
variable [lC]
variable {t tf:Tr rA}
def el34:wK yA 34 36 9:=⟨⟨_,ty34,rfl,rfl⟩,⟨_,zqn,rfl,rfl,by decide,by decide⟩,fun y h=>by rw[zqn]at h;cases h;rfl⟩
end
end Go.Proofs
namespace Go.Am
open Go Go.RowKit
def zlf{α:Type}(f:Nat->Option α):Nat->Tr α
 | 0=>.leaf
 | n+1=>match f n with
  | some v=>(zlf f n).set n v
  | none=>zlf f n
def qR{α:Type}(f:Nat->Option α):∀(n a:Nat),(zlf f n).get a=if a<n then f a else none:=by
 intro n;induction n with
 | zero=>intro a;rw[yaa (by omega)];exact Tr.get_leaf _
 | succ n ih=>
  intro a;unfold zlf
  cases hf:f n with
  | some v=>
   simp only[];rw[Tr.get_set,ih];by_cases h:a=n
   ·subst h;rw[yab rfl,yab (by omega),hf]
   ·rw[yaa h]
    by_cases h2:a<n
    ·rw[yab h2,yab (by omega)]
    ·rw[yaa h2,yaa (by omega)]
  | none=>
   simp only[];rw[ih];by_cases h:a=n
   ·subst h;rw[yaa (by omega),yab (by omega),hf]
   ·by_cases h2:a<n
    ·rw[yab h2,yab (by omega)]
    ·rw[yaa h2,yaa (by omega)]
def z2b (N:Nat):Value->Option zA
 | .bool b=>some (.bool b)
 | .int k n=>some (.int k n)
 | .string s=>some (.str (qE s))
 | .slice none 0 0=>some .nilslice
 | .slice (some _) 0 0=>some (.slice 0 0 0 0)
 | .slice (some ⟨b,off,none⟩) len cap=>if b<N then some (.slice (256+b) off len cap)else none
 | _=>none
def absB (N:Nat):Obj->Option rA
 | .cells cs _ _=>some (.cells (zlf (fun j=>(cs[j]?).bind (z2b N)) cs.size) cs.size none)
 | _=>none
def fI (w:World):Tr rA:=zlf (fun a=>if a<256 then(w.heap[a]?).bind (absB w.heap.size)else(w.heap[a-256]?).bind (absB w.heap.size)) (256+w.heap.size)
def muW (w:World):Mu:=⟨fun a=>if a<256 then some ⟨a,true,0,0,true⟩else if a<256+w.heap.size then some ⟨a-256,true,0,0,true⟩else none,fun _=>none⟩
section
variable {w:World}
def zs2{v:Value}{a:zA}(h:z2b w.heap.size v=some a):vA (muW w) a v:=by
 unfold z2b at h;split at h
 ·cases h;rw[vA]
 ·cases h;rw[vA]
 ·cases h;rw[vA];exact⟨_,rfl,rfl⟩
 ·cases h;rw[vA]
 ·cases h;rw[vA];exact .inr ⟨rfl,rfl,rfl,_,_,rfl,.inl ⟨rfl,rfl⟩⟩
 ·split at h
  ·rename_i hb
   cases h;rename_i b off len cap _;rw[vA];refine .inl ⟨⟨b,true,0,0,true⟩,cap,?_,rfl,ybk _,fun _=>rfl,fun h=>by cases h⟩
   show(if 256+b<256 then some (⟨256+b,true,0,0,true⟩:BI)else if 256+b<256+w.heap.size then some ⟨256+b-256,true,0,0,true⟩else none)=_
   rw[yaa (by omega),yab (by omega),show 256+b-256=b by omega]
  ·cases h
 ·cases h
def zs4{o:Obj}{x:rA}(h:absB w.heap.size o=some x)(b:Nat):lH (muW w) ⟨b,true,0,0,true⟩ x o/\x.asLoop=none/\x.asDeferred=none:=by
 cases o<;>first | (cases h;done) | skip
 rename_i cs elem fr
 cases h;refine⟨⟨cs,elem,fr,rfl,ybk _,.inl rfl,fun j v hv=>?_,rfl⟩,rfl,rfl⟩
 rw[qR]at hv;split at hv
 case isFalse=>cases hv
 rename_i hj
 cases hc:cs[j]? with
 | none=>rw[hc]at hv;cases hv
 | some u=>
  rw[hc]at hv;exact⟨hj,u,rfl,zs2 hv⟩
def hrelW:aA (256+w.heap.size) w.heap.size (muW w) ⟨256+w.heap.size,fI w⟩ w:=by
 have hget:∀a x,(fI w).get a=some x->∃b o,b<w.heap.size/\w.heap[b]?=some o/\absB w.heap.size o=some x/\a<256+w.heap.size/\b=(if a<256 then a else a-256):=by
  intro a x hx;unfold fI at hx;rw[qR]at hx;split at hx
  case isFalse=>cases hx
  rename_i hlt;split at hx
  ·rename_i h
   cases ho:w.heap[a]? with
   | none=>rw[ho]at hx;cases hx
   | some o=>rw[ho]at hx;exact⟨a,o,(ybe.1 ho).1,ho,hx,hlt,by rw[yab h]⟩
  ·rename_i h
   cases ho:w.heap[a-256]? with
   | none=>rw[ho]at hx;cases hx
   | some o=>rw[ho]at hx;exact⟨a-256,o,(ybe.1 ho).1,ho,hx,hlt,by rw[yaa h]⟩
 have hmu:∀a,(muW w) a=if a<256 then some ⟨a,true,0,0,true⟩else if a<256+w.heap.size then some ⟨a-256,true,0,0,true⟩else none:=fun _=>rfl
 have big:∀a,256+w.heap.size<=a->(muW w) a=none:=fun a h=>by rw[hmu,yaa (by omega),yaa (by omega)]
 have same:∀a x i,(fI w).get a=some x->(muW w) a=some i->∃o,w.heap[i.b]?=some o/\i.b<w.heap.size/\absB w.heap.size o=some x/\i=⟨i.b,true,0,0,true⟩:=by
  intro a x i hx hi;obtain⟨b,o,h1,h2,h3,h4,h5⟩:=hget a x hx
  rw[hmu]at hi;split at hi
  ·rename_i h
   cases hi;rw[yab h]at h5;subst h5;exact⟨o,h2,h1,h3,rfl⟩
  ·rename_i h
   rw[yaa h]at h5;have hi:=yci hi
   have hb:i.b=b:=by rw[<- hi,h5]
   refine⟨o,by rw[hb];exact h2,by rw[hb];exact h1,h3,by rw[<- hi]⟩
 refine⟨by omega,fun g hg=>by rw[hmu,yab hg],fun a x i _ hx hi=>?_,ybk _,ybk _,fun a ha=>⟨big a ha,?_⟩,fun a x i hx hi=>?_,fun a i ha hi=>?_,fun a b x y i j hx _ hi _ ha _ _=>?_,fun a x t h=>by cases h⟩
 ·obtain⟨o,_,h2,h3,_⟩:=same a x i hx hi
  exact⟨h2,(zs4 h3 0).2⟩
 ·show(fI w).get a=none
  unfold fI;have ha:256+w.heap.size<=a:=ha
  rw[qR,yaa (by omega)]
 ·obtain⟨o,h1,_,h3,h4⟩:=same a x i hx hi
  exact⟨o,h1,by rw[h4];exact(zs4 h3 _).1⟩
 ·rw[big a ha]at hi;cases hi
 ·rw[big a ha]at hi;cases hi
end
end Go.Am
namespace Go.Am
open Go Go.RowKit
def cF(P:Program):Nat->TypeId->D->Prop
 | 0,_,_=>False
 | f+1,t,x=>match P.underlying t with
  | some .bool=>∃b,x=.bool b
  | some (.int k)=>∃n,x=.int k n/\(Lit.int k n).wf=true
  | some .string=>∃l:List Nat,x=.str l/\l.length<=reachBytes/\∀c∈l,c<256
  | some (.slice e)=>∃l:List D,x=.sl (P.cellsOf e) l/\l.length*P.bytesOf e<=reachBytes/\∀y∈l,cF P f e y
  | some (.struct fs)=>∃l:List D,x=.st l/\qC (fun fd y=>cF P f fd.type y) fs.toList l
  | _=>False
def ztl(P:Program):Nat->List Field->Nat->Bool
 | off,[],n=>off == n
 | off,f::fs,n=>f.offset == off&&ztl P (off+P.cellsOf f.type) fs n
structure Plain (P:Program) (S:TypeId->Prop):Prop where
 part:∀t,S t->match P.underlying t with
  | some .bool=>True
  | some (.int _)=>True
  | some .string=>True
  | some (.slice e)=>S e/\0<P.cellsOf e
  | some (.struct fs)=>(∀f∈fs.toList,S f.type)/\ztl P 0 fs.toList (P.cellsOf t)=true
  | _=>False
def av (N:Nat)(v:Value):zA:=(z2b N v).getD .nilptr
def Has (N:Nat)(cs:List Value):Prop:=∀v∈cs,z2b N v=some (av N v)
def ze0{α:Type}{Q:Nat->α->Prop}:∀(n:Nat),(∀i,i<n->∃p,Q i p)->∃l:List α,l.length=n/\∀i p,l[i]?=some p->Q i p:=by
 intro n;induction n with
 | zero=>intro _;exact⟨[],rfl,fun i p h=>by simp at h⟩
 | succ n ih=>
  intro h;obtain⟨l,hl,hq⟩:=ih fun i hi=>h i (by omega)
  obtain⟨p,hp⟩:=h n (by omega)
  refine⟨l++[p],by simp[hl],fun i q hq'=>?_⟩
  by_cases hi:i<n
  ·rw[yco (by omega)]at hq';exact hq i q hq'
  ·rw[ybp (by omega)]at hq'
   have:i-l.length=0:=by
    cases hz:i-l.length with
    | zero=>rfl
    | succ m=>rw[hz]at hq';simp at hq'
   rw[this]at hq'
   simp at hq'
   subst hq'
   have:i=n:=by omega
   subst this;exact hp
section
variable {H:Type}{enc:TypeId × Value->H}{P:Program}{w:World}
def kZ{p:Nat->Bool}:∀ {ts:List TypeId} {ds:List (DataW H)},(DataW.weightsEach P ts ds).all p=true->∀ {i:Nat} {t:TypeId} {d:DataW H},ts[i]?=some t->ds[i]?=some d->(DataW.weights P t d).all p=true
 | [],_,_,i,_,_,h1,_=>by simp at h1
 | _::_,[],_,i,_,_,_,h2=>by simp at h2
 | t::ts,d::ds,h,i,u,e,h1,h2=>by
  rw[DataW.weightsEach,ydi,ybb]at h
  cases i with
  | zero=>simp at h1 h2;subst h1 h2;exact h.1
  | succ i=>exact kZ h.2 (by simpa using h1) (by simpa using h2)
def jZ{p:Nat->Bool}{e:TypeId}:∀ {ds:List (DataW H)},(DataW.weightsAll P e ds).all p=true->∀ {i:Nat} {d:DataW H},ds[i]?=some d->(DataW.weights P e d).all p=true
 | [],_,i,_,h2=>by simp at h2
 | d::ds,h,i,x,h2=>by
  rw[DataW.weightsAll,ydi,ybb]at h
  cases i with
  | zero=>simp at h2;subst h2;exact h.1
  | succ i=>exact jZ h.2 (by simpa using h2)
def zsw{a:Addr}{n:Nat}{cs:List Value}(h:w.cells? 0 a n=some cs):cs.length=n/\(0<n->a.spot=none/\∃c t fr,w.heap[a.block]?=some (.cells c t fr)/\∀j,j<n->c[a.off+j]?=cs[j]?):=by
 unfold World.cells? at h
 rw[yab (yaw _)]at h
 have hl:=mapM_some_length h
 have hg:=mapM_some_get h
 simp only[List.length_range]at hl;refine⟨hl,fun hn=>?_⟩
 have key:∀j,j<n->w.cell? (a.add j)=cs[j]?:=fun j hj=>hg j j (by simp[hj])
 have h0:=key 0 hn
 have hs0:∃v,cs[0]?=some v:=⟨cs[0]'(by omega),ybd (by omega)⟩
 obtain⟨v0,hv0⟩:=hs0
 rw[hv0]at h0;have e0:a.add 0=a:=by simp[Addr.add]
 rw[e0]at h0;unfold World.cell? at h0
 cases hb:w.heap[a.block]? with
 | none=>rw[hb]at h0;cases h0
 | some o=>
  rw[hb]at h0
  cases o with
  | cells c t fr=>
   simp only[]at h0;split at h0
   ·cases h0
   ·rename_i hsp
    refine⟨by simpa using hsp,c,t,fr,rfl,fun j hj=>?_⟩
    have:=key j hj
    unfold World.cell? at this
    by_cases hj0:j=0
    ·subst hj0;rw[hv0,yct];exact h0
    ·have eb:(a.add j).block=a.block:=by unfold Addr.add;rw[yaa hj0]
     have eo:(a.add j).off=a.off+j:=by unfold Addr.add;rw[yaa hj0]
     have es:(a.add j).spot=none:=by unfold Addr.add;rw[yaa hj0]
     rw[eb,hb]at this;simp only[es,eo,Option.isSome_none,ybq,if_false]at this;exact this
  | _=>cases h0
def zs3{b:Nat}{c:Array Value}{t:TypeId}{fr:Nat × Nat}(h:w.heap[b]?=some (.cells c t fr)) :
  (fI w).get (256+b)=some (.cells (zlf (fun j=>(c[j]?).bind (z2b w.heap.size)) c.size) c.size none):=by
 have hb:=(ybe.1 h).1
 unfold fI;rw[qR,yab (by omega),yaa (by omega),show 256+b-256=b by omega,h]
 rfl
def at_old{b off n:Nat}{c:Array Value}{t:TypeId}{fr:Nat × Nat}{cs:List Value}(h:w.heap[b]?=some (.cells c t fr))(hl:cs.length=n)(hc:∀j,j<n->c[off+j]?=cs[j]?)(hs:Has w.heap.size cs) :
  At (fI w) (256+b) off (cs.map (av w.heap.size)):=by
 refine⟨_,_,_,zs3 h,fun j a ha=>?_⟩
 rw[ybu]at ha
 cases hj:cs[j]? with
 | none=>rw[hj]at ha;cases ha
 | some v=>
  rw[hj]at ha;have hlt:j<n:=by rw[<- hl];exact(ybc.1 hj).1
  have h1:=hc j hlt
  rw[hj]at h1;have hsz:off+j<c.size:=(ybe.1 h1).1
  rw[qR,yab hsz,h1];have ha:av w.heap.size v=a:=by simpa using ha
  rw[<- ha];exact hs v (ycv hj)
def zc8{cs:List Value}:∀ {fs:List Field} {off:Nat},ztl P off fs cs.length=true->(fs.map fun f=>(cs.drop f.offset).take (P.cellsOf f.type)).flatten=cs.drop off
 | [],off,h=>by simp[ztl]at h;subst h;simp
 | f::fs,off,h=>by
  rw[ztl,ybb]at h;obtain⟨h1,h2⟩:=h
  have h1:f.offset=off:=by simpa using h1
  rw[ycm,yas,zc8 h2,h1,<- List.drop_drop,List.take_append_drop]
def z2l{α β:Type}{R:α->β->Prop}:∀ {l:List α} {m:List β},m.length=l.length->(∀(i:Nat) a b,l[i]?=some a->m[i]?=some b->R a b)->qC R l m
 | [],[],_,_=>.nil
 | [],_::_,h,_=>by simp at h
 | _::_,[],h,_=>by simp at h
 | a::l,b::m,h,k=>.cons (k 0 a b (by simp) (by simp)) (z2l (by simpa using h) fun i a b h1 h2=>k (i+1) a b (by simpa using h1) (by simpa using h2))
def z9k{S:TypeId->Prop}(hP:Plain P S)(h0:∃c n lo,(fI w).get 0=some (.cells c n lo)) :
  ∀(fuel:Nat) (t:TypeId) (cs:List Value) (x:DataW H × List MemPlace),S t->DataW.trod enc P w 0 (fun _=>true) true fuel t cs=some x->(DataW.weights P t x.1).all (· <= reachBytes)=true →
   Has w.heap.size cs/\∃d,RD (fI w) d (cs.map (av w.heap.size))/\cF P fuel t d:=by
 intro fuel;induction fuel with
 | zero=>intro t cs x _ h;simp[DataW.trod]at h
 | succ n ih=>
  intro t cs x hS h hw;have hp:=hP.part t hS
  have one:∀ {v:Value} {a:zA},z2b w.heap.size v=some a->Has w.heap.size [v]/\av w.heap.size v=a:=by
   intro v a hv;have:av w.heap.size v=a:=by unfold av;rw[hv];rfl
   refine⟨fun u hu=>?_,this⟩
   simp at hu;subst hu;rw[hv,this]
  cases hu:P.underlying t with
  | none=>rw[hu]at hp;exact hp.elim
  | some dt=>
  cases dt with
  | bool=>
   obtain⟨b,rfl,rfl⟩:=DataW.trod_bool hu h
   obtain⟨h1,h2⟩:=one (v:=.bool b) (a:=.bool b) rfl
   exact⟨h1,.bool b,by rw[gP];simp[h2],by unfold cF;rw[hu];exact⟨b,rfl⟩⟩
  | int k=>
   obtain⟨m,rfl,rfl,hwf⟩:=DataW.trod_int hu h
   obtain⟨h1,h2⟩:=one (v:=.int k m) (a:=.int k m) rfl
   exact⟨h1,.int k m,by rw[oM];simp[h2],by unfold cF;rw[hu];exact⟨m,rfl,hwf⟩⟩
  | string=>
   obtain⟨s,rfl,rfl,_⟩:=DataW.trod_string hu h
   obtain⟨h1,h2⟩:=one (v:=.string s) (a:=.str (qE s)) rfl
   refine⟨h1,.str (qE s),by rw[iP];simp[h2],?_⟩
   unfold cF;rw[hu];simp only[DataW.weights,ycg,yck,Bool.and_true,decide_eq_true_eq]at hw;refine⟨_,rfl,by unfold qE;simpa using hw,fun c hc=>?_⟩
   unfold qE at hc;simp only[yaq]at hc;obtain⟨u,_,rfl⟩:=hc
   exact UInt8.toNat_lt u
  | slice e=>
   rw[hu]at hp;obtain⟨hSe,hpos⟩:=hp
   rcases DataW.trod_slice hu h with⟨rfl,rfl⟩ | ⟨a,len,cap,mJ,rest,m,hm,rfl,rfl,_,hlc,_,hel,hE,hR,_⟩
   ·obtain⟨h1,h2⟩:=one (v:=.slice none 0 0) (a:=.nilslice) rfl
    refine⟨h1,.sl (P.cellsOf e) [],by rw[kJ];exact⟨_,by simp[h2],[],.inl ⟨rfl,rfl⟩,by rw[sC]⟩,?_⟩
    unfold cF;rw[hu];exact⟨[],rfl,by simp,fun y hy=>by simp at hy⟩
   ·obtain rfl:n=m:=by omega
    simp only[DataW.weights,hu,ycg,ybb,ydi,decide_eq_true_eq,ybf]at hw;obtain⟨hsz,hwe,hwr⟩:=hw
    by_cases hcap:cap=0
    ·subst hcap
     obtain rfl:len=0:=by omega
     obtain⟨h1,h2⟩:=one (v:=.slice (some a) 0 0) (a:=.slice 0 0 0 0) (by cases a;rfl)
     refine⟨h1,.sl (P.cellsOf e) [],?_,?_⟩
     ·rw[kJ,ycm,List.map_nil,h2]
      refine⟨_,rfl,[],.inr ⟨0,0,0,rfl,ybk _,?_,fun i cs hi=>by simp at hi⟩,by rw[sC]⟩
      obtain⟨c,k,lo,hc⟩:=h0
      have:=hc
      unfold fI at this;rw[qR]at this;split at this
      case isFalse=>cases this
      rw[yab (by omega)]at this
      cases ho:w.heap[0]? with
      | none=>rw[ho]at this;cases this
      | some o=>
       rw[ho]at this
       cases o with
       | cells c' t' fr'=>
        simp only[yai,absB]at this
        cases this
        exact⟨_,_,_,hc,.inl rfl⟩
       | _=>cases this
     ·unfold cF
      rw[hu];exact⟨[],rfl,by simp,fun y hy=>by simp at hy⟩
    ·have hr:=(hR rfl).1
     have hRr:=(hR rfl).2
     have hel1:∀i,i<len->∃p:List Value × D,w.cells? 0 (a.add (i*P.cellsOf e)) (P.cellsOf e)=some p.1/\Has w.heap.size p.1/\RD (fI w) p.2 (p.1.map (av w.heap.size))/\cF P n e p.2:=by
      intro i hi;have:=hE i hi
      obtain⟨y,hy⟩:∃y,mJ[i]?=some y:=⟨mJ[i]'(by omega),ybd (by omega)⟩
      rw[hy]at this;simp only[Option.bind_eq_some_iff]at this;obtain⟨c1,hc1,hy1⟩:=this
      obtain⟨g1,d,g2,g3⟩:=ih e c1 y hSe hy1 (jZ hwe (i:=i) (by simp[hy]))
      exact⟨(c1,d),hc1,g1,g2,g3⟩
     obtain⟨l,hl,hq⟩:=ze0 len hel1
     have hfirst:∃c1,w.cells? 0 a (P.cellsOf e)=some c1:=by
      by_cases hlen:len=0
      ·have:=hRr 0 (by omega)
       obtain⟨y,hy⟩:∃y,rest[0]?=some y:=⟨rest[0]'(by omega),ybd (by omega)⟩
       rw[hy]at this;simp only[Option.bind_eq_some_iff]at this;obtain⟨c1,hc1,_⟩:=this
       exact⟨c1,by simpa[hlen,Addr.add]using hc1⟩
      ·obtain⟨p,hp,_⟩:=hel1 0 (by omega)
       exact⟨p.1,by simpa[Addr.add]using hp⟩
     obtain⟨c1,hc1⟩:=hfirst
     obtain⟨hspot,c,ct,fr,hblk,_⟩:=(zsw hc1).2 hpos
     have hb:a.block<w.heap.size:=(ybe.1 hblk).1
     have hav:z2b w.heap.size (.slice (some a) len cap)=some (.slice (256+a.block) a.off len cap):=by
      obtain⟨bb,oo,ss⟩:=a
      simp only at hspot hb
      subst hspot
      cases cap with
      | zero=>exact absurd rfl hcap
      | succ cap=>unfold z2b;simp only[];rw[yab hb]
     obtain⟨h1,h2⟩:=one hav
     refine⟨h1,.sl (P.cellsOf e) (l.map (·.2)),?_,?_⟩
     ·rw[kJ]
      refine⟨_,by rw[ycm,List.map_nil,h2],l.map (fun p=>p.1.map (av w.heap.size)),.inr ⟨256+a.block,a.off,cap,by rw[ybf,hl],by rw[ybf,hl];exact hlc,⟨_,_,_,zs3 hblk,.inl rfl⟩,fun i cs hi=>?_⟩,?_⟩
      ·rw[ybu]at hi
       cases hli:l[i]? with
       | none=>rw[hli]at hi;cases hi
       | some p=>
        rw[hli]at hi;obtain rfl:p.1.map (av w.heap.size)=cs:=by simpa using hi
        obtain⟨k1,k2,k3,k4⟩:=hq i p hli
        obtain⟨m1,m2⟩:=zsw k1
        obtain⟨_,c',ct',fr',hb',hcc⟩:=m2 hpos
        have eb:(a.add (i*P.cellsOf e)).block=a.block:=by unfold Addr.add;split<;>rfl
        have eo:(a.add (i*P.cellsOf e)).off=a.off+i*P.cellsOf e:=by unfold Addr.add;split<;>simp_all
        rw[eb]at hb'
        rw[hblk]at hb'
        cases hb'
        rw[eo]at hcc;exact⟨by rw[ybf];exact m1,at_old hblk m1 hcc k2⟩
      ·refine sC.mk (by simp) fun i d cs' h1 h2=>?_
       rw[ybu]at h1 h2
       cases hli:l[i]? with
       | none=>rw[hli]at h1;cases h1
       | some p=>
        rw[hli]at h1 h2;obtain rfl:p.2=d:=by simpa using h1
        obtain rfl:p.1.map (av w.heap.size)=cs':=by simpa using h2
        exact(hq i p hli).2.2.1
     ·unfold cF
      rw[hu];refine⟨_,rfl,?_,fun y hy=>?_⟩
      ·rw[ybf,hl,<- hel]
       exact Nat.le_trans (ybi _ (Nat.le_add_right _ _)) hsz
      ·obtain⟨p,hp,rfl⟩:=yaq.1 hy
       obtain⟨i,hi⟩:=List.mem_iff_getElem?.1 hp
       exact(hq i p hi).2.2.2
  | struct fs=>
   rw[hu]at hp;obtain⟨hf,ht⟩:=hp
   obtain⟨xs,m,hm,rfl,hlen,hxs,hel⟩:=DataW.trod_struct hu h
   obtain rfl:n=m:=by omega
   simp only[DataW.weights,hu]at hw;have hel1:∀i,i<fs.toList.length->∃p:D,∀f,fs.toList[i]?=some f->Has w.heap.size ((cs.drop f.offset).take (P.cellsOf f.type))/\RD (fI w) p (((cs.drop f.offset).take (P.cellsOf f.type)).map (av w.heap.size))/\cF P n f.type p:=by
    intro i hi;have hi':i<fs.size:=by simpa using hi
    obtain⟨f,hfi⟩:∃f,fs.toList[i]?=some f:=⟨fs.toList[i],ybd hi⟩
    have:=hel i f (by simpa using hfi)
    obtain⟨y,hy⟩:∃y,xs[i]?=some y:=⟨xs[i]'(by omega),ybd (by omega)⟩
    rw[hy]at this;obtain⟨g1,d,g2,g3⟩:=ih f.type _ y (hf f (ycv hfi)) this (kZ hw (i:=i) (by rw[ybu,hfi];rfl) (by rw[ybu,hy];rfl))
    refine⟨d,fun f' hf'=>?_⟩
    rw[hfi]at hf'
    cases hf'
    exact⟨g1,g2,g3⟩
   obtain⟨l,hl,hq⟩:=ze0 fs.toList.length hel1
   have hfl:=zc8 (cs:=cs) (P:=P) (fs:=fs.toList) (off:=0) (by rw[hlen];exact ht)
   rw[ycr]at hfl;refine⟨fun v hv=>?_,.st l,?_,?_⟩
   ·rw[<- hfl]at hv
    obtain⟨part,hpart,hv⟩:=List.mem_flatten.1 hv
    obtain⟨f,hfm,rfl⟩:=yaq.1 hpart
    obtain⟨i,hi⟩:=List.mem_iff_getElem?.1 hfm
    have hi':i<fs.toList.length:=(ybc.1 hi).1
    exact(hq i (l[i]'(by omega)) (ybd (by omega)) f hi).1 v hv
   ·rw[tI]
    refine⟨fs.toList.map (fun f=>((cs.drop f.offset).take (P.cellsOf f.type)).map (av w.heap.size)),?_,sC.mk (by simp[hl]) fun i d cs' h1 h2=>?_⟩
    ·conv=>lhs;rw[<- hfl]
     rw[List.map_flatten,List.map_map];rfl
    ·rw[ybu]at h2
     cases hfi:fs.toList[i]? with
     | none=>rw[hfi]at h2;cases h2
     | some f=>
      rw[hfi]at h2;obtain rfl:=yci h2
      exact(hq i d h1 f hfi).2.1
   ·unfold cF
    rw[hu];exact⟨l,rfl,z2l hl fun i f d h1 h2=>(hq i d h2 f h1).2.2⟩
  | _=>rw[hu]at hp;exact hp.elim
end
end Go.Am
namespace Go.Am
open Go Go.RowKit
structure zs6 (P:Program) where
 (b i u8 u16 s limbs whole frac val expr exprs row rows table tables dfn dfns clause clauses plan:TypeId)
 hb:P.underlying b=some .bool
 hi:P.underlying i=some (.int .i64)
 hu8:P.underlying u8=some (.int .u8)
 hu16:P.underlying u16=some (.int .u16)
 hs:P.underlying s=some .string
 hlimbs:P.underlying limbs=some (.slice u16)
 hexprs:P.underlying exprs=some (.slice expr)
 hrows:P.underlying rows=some (.slice row)
 htables:P.underlying tables=some (.slice table)
 hdfns:P.underlying dfns=some (.slice dfn)
 hclauses:P.underlying clauses=some (.slice clause)
 hwhole:∃fs,P.underlying whole=some (.struct fs)/\fs.toList.map (·.type)=[b,limbs]
 hfrac:∃fs,P.underlying frac=some (.struct fs)/\fs.toList.map (·.type)=[whole,whole]
 hval:∃fs,P.underlying val=some (.struct fs)/\fs.toList.map (·.type)=[u8,frac,i]
 hexpr:∃fs,P.underlying expr=some (.struct fs)/\fs.toList.map (·.type)=[u8,s,val,exprs]
 hrow:∃fs,P.underlying row=some (.struct fs)/\fs.toList.map (·.type)=[i,i,i,frac]
 htable:∃fs,P.underlying table=some (.struct fs)/\fs.toList.map (·.type)=[s,b,rows]
 hdfn:∃fs,P.underlying dfn=some (.struct fs)/\fs.toList.map (·.type)=[s,u8,b]
 hclause:∃fs,P.underlying clause=some (.struct fs)/\fs.toList.map (·.type)=[s,s,i,i,i,b,expr,expr]
 hplan:∃fs,P.underlying plan=some (.struct fs)/\fs.toList.map (·.type)=[s,dfns,tables,clauses]
 cu16:P.cellsOf u16=1
 cexpr:P.cellsOf expr=9
 crow:P.cellsOf row=7
 ctable:P.cellsOf table=3
 cdfn:P.cellsOf dfn=3
 cclause:P.cellsOf clause=24
 bytes:1<=P.bytesOf u16/\1<=P.bytesOf expr/\1<=P.bytesOf row/\1<=P.bytesOf table/\1<=P.bytesOf dfn/\1<=P.bytesOf clause
section
variable {P:Program}{f:Nat}{t:TypeId}{x:D}
def dV(h:cF P f t x):∃g,f=g+1:=by
 cases f with
 | zero=>exact h.elim
 | succ g=>exact⟨g,rfl⟩
def qX(ht:P.underlying t=some .bool)(h:cF P f t x):∃b,x=.bool b:=by
 obtain⟨g,rfl⟩:=dV h
 unfold cF at h;rw[ht]at h;exact h
def zc7{k:IntKind}(ht:P.underlying t=some (.int k))(h:cF P f t x):∃n,x=.int k n/\(Lit.int k n).wf=true:=by
 obtain⟨g,rfl⟩:=dV h
 unfold cF at h;rw[ht]at h;exact h
def kT(ht:P.underlying t=some (.int .i64))(h:cF P f t x):∃n,x=.int .i64 n/\i64 n:=by
 obtain⟨n,rfl,hn⟩:=zc7 ht h
 simp only[Lit.wf,ybb,decide_eq_true_eq]at hn;have h1:IntKind.i64.min = -9223372036854775808:=rfl
 have h2:IntKind.i64.max=9223372036854775807:=rfl
 rw[h1,h2]at hn;exact⟨n,rfl,hn.1,by omega⟩
def zh3(ht:P.underlying t=some (.int .u8))(h:cF P f t x):∃n:Nat,x=.int .u8 (n:Int)/\n<256:=by
 obtain⟨n,rfl,hn⟩:=zc7 ht h
 simp only[Lit.wf,ybb,decide_eq_true_eq]at hn;have h1:IntKind.u8.min=0:=rfl
 have h2:IntKind.u8.max=255:=rfl
 rw[h1,h2]at hn;exact⟨n.toNat,by rw[show((n.toNat:Nat):Int)=n by omega],by omega⟩
def zwg(ht:P.underlying t=some (.int .u16))(h:cF P f t x):∃n:Nat,x=.int .u16 (n:Int)/\n<65536:=by
 obtain⟨n,rfl,hn⟩:=zc7 ht h
 simp only[Lit.wf,ybb,decide_eq_true_eq]at hn;have h1:IntKind.u16.min=0:=rfl
 have h2:IntKind.u16.max=65535:=rfl
 rw[h1,h2]at hn;exact⟨n.toNat,by rw[show((n.toNat:Nat):Int)=n by omega],by omega⟩
def eU(ht:P.underlying t=some .string)(h:cF P f t x):∃l:List Nat,x=.str l/\l.length<mC/\∀c∈l,c<256:=by
 obtain⟨g,rfl⟩:=dV h
 unfold cF at h;rw[ht]at h;obtain⟨l,h1,h2,h3⟩:=h
 unfold reachBytes at h2;exact⟨l,h1,by unfold mC;omega,h3⟩
def dU{e:TypeId}{sz:Nat}(ht:P.underlying t=some (.slice e))(hc:P.cellsOf e=sz)(hb:1<=P.bytesOf e)(h:cF P f t x):∃(l:List D) (g:Nat),f=g+1/\x=.sl sz l/\l.length<mC/\∀y∈l,cF P g e y:=by
 obtain⟨g,rfl⟩:=dV h
 unfold cF at h;rw[ht]at h;obtain⟨l,h1,h2,h3⟩:=h
 have:l.length<=l.length*P.bytesOf e:=Nat.le_mul_of_pos_right _ hb
 unfold reachBytes at h2;exact⟨l,g,rfl,by rw[<- hc];exact h1,by unfold mC;omega,h3⟩
def qC.ofMap{α β γ:Type}{k:α->γ}{R:γ->β->Prop}:∀ {l:List α} {m:List β},qC (fun a b=>R (k a) b) l m->qC R (l.map k) m
 | [],_,.nil=>.nil
 | _::_,_::_,.cons h r=>.cons h (qC.ofMap r)
def cQ{ts:List TypeId}(ht:∃fs,P.underlying t=some (.struct fs)/\fs.toList.map (·.type)=ts)(h:cF P f t x):∃(l:List D) (g:Nat),f=g+1/\x=.st l/\qC (fun t y=>cF P g t y) ts l:=by
 obtain⟨fs,ht,rfl⟩:=ht
 obtain⟨g,rfl⟩:=dV h
 unfold cF at h;rw[ht]at h;obtain⟨l,h1,h2⟩:=h
 exact⟨l,g,rfl,h1,qC.ofMap h2⟩
def qC.cons_inv{α β:Type}{R:α->β->Prop}{a:α}{l:List α}{m:List β}(h:qC R (a::l) m):∃b r,m=b::r/\R a b/\qC R l r:=by
 cases h with
 | cons h1 h2=>exact⟨_,_,rfl,h1,h2⟩
def qC.nil_inv{α β:Type}{R:α->β->Prop}{m:List β}(h:qC R ([]:List α) m):m=[]:=by
 cases h;rfl
def zU{α β:Type}{g:α->β}{Q:α->Prop}:∀ {l:List β},(∀y∈l,∃a,y=g a/\Q a)->∃m:List α,l=m.map g/\∀a∈m,Q a
 | [],_=>⟨[],rfl,fun _ h=>by cases h⟩
 | y::l,h=>by
  obtain⟨a,h1,h2⟩:=h y (by simp)
  obtain⟨m,h3,h4⟩:=zU (l:=l) fun z hz=>h z (ybr _ hz)
  exact⟨a::m,by simp[h1,h3],fun b hb=>by
   rcases ybs.1 hb with rfl | hb
   ·exact h2
   ·exact h4 b hb⟩
end
namespace zs6
section
variable {P:Program}(A:zs6 P){f:Nat}{x:D}
def dWhole(h:cF P f A.whole x):∃w:uI,x=w.d/\w.limbs.length<mC/\jB 65536 w.limbs:=by
 obtain⟨l,g,rfl,rfl,k⟩:=cQ A.hwhole h
 obtain⟨d1,r,rfl,h1,k⟩:=k.cons_inv
 obtain⟨d2,r,rfl,h2,k⟩:=k.cons_inv
 obtain rfl:=k.nil_inv
 obtain⟨b,rfl⟩:=qX A.hb h1
 obtain⟨l,g,rfl,rfl,hl,hm⟩:=dU A.hlimbs A.cu16 A.bytes.1 h2
 obtain⟨m,rfl,hq⟩:=zU (g:=fun n:Nat=>D.int .u16 (n:Int)) (Q:=fun n=>n<65536) fun y hy=>zwg A.hu16 (hm y hy)
 exact⟨⟨b,m⟩,rfl,by simpa using hl,hq⟩
def dFrac(h:cF P f A.frac x):∃w:yF,x=w.dd/\w.fit:=by
 obtain⟨l,g,rfl,rfl,k⟩:=cQ A.hfrac h
 obtain⟨d1,r,rfl,h1,k⟩:=k.cons_inv
 obtain⟨d2,r,rfl,h2,k⟩:=k.cons_inv
 obtain rfl:=k.nil_inv
 obtain⟨a,rfl,a1,a2⟩:=A.dWhole h1
 obtain⟨b,rfl,b1,b2⟩:=A.dWhole h2
 exact⟨⟨a,b⟩,rfl,⟨a1,b1⟩,a2,b2⟩
def dVal(h:cF P f A.val x):∃w:lG,x=w.d/\w.fit:=by
 obtain⟨l,g,rfl,rfl,k⟩:=cQ A.hval h
 obtain⟨d1,r,rfl,h1,k⟩:=k.cons_inv
 obtain⟨d2,r,rfl,h2,k⟩:=k.cons_inv
 obtain⟨d3,r,rfl,h3,k⟩:=k.cons_inv
 obtain rfl:=k.nil_inv
 obtain⟨kk,rfl,hk⟩:=zh3 A.hu8 h1
 obtain⟨q,rfl,hq⟩:=A.dFrac h2
 obtain⟨n,rfl,hn⟩:=kT A.hi h3
 exact⟨⟨kk,q,n⟩,rfl,hk,hq,hn.1,hn.2⟩
def z0p:∀ {l:List pA},(∀x∈l,x.fit)->pA.fits l
 | [],_=>by unfold pA.fits;trivial
 | x::l,h=>by unfold pA.fits;exact⟨h x (by simp),z0p fun y hy=>h y (ybr _ hy)⟩
def dExpr:∀(f:Nat) (x:D),cF P f A.expr x->∃w:pA,x=w.d/\w.fit:=by
 intro f;induction f using Nat.strongRecOn with
 | _ f ih=>
 intro x h;obtain⟨l,g,rfl,rfl,k⟩:=cQ A.hexpr h
 obtain⟨d1,r,rfl,h1,k⟩:=k.cons_inv
 obtain⟨d2,r,rfl,h2,k⟩:=k.cons_inv
 obtain⟨d3,r,rfl,h3,k⟩:=k.cons_inv
 obtain⟨d4,r,rfl,h4,k⟩:=k.cons_inv
 obtain rfl:=k.nil_inv
 obtain⟨kk,rfl,hk⟩:=zh3 A.hu8 h1
 obtain⟨n,rfl,hn,hn'⟩:=eU A.hs h2
 obtain⟨v,rfl,hv⟩:=A.dVal h3
 obtain⟨l,g',rfl,rfl,hl,hm⟩:=dU A.hexprs A.cexpr A.bytes.2.1 h4
 obtain⟨m,rfl,hq⟩:=zU (g:=pA.d) (Q:=pA.fit) fun y hy=>ih g' (by omega) y (hm y hy)
 refine⟨.mk kk n v m,?_,?_⟩
 ·rw[pA.d,pA.ds_eq]
 ·unfold pA.fit
  exact⟨hk,hn,hn',hv,by simpa using hl,z0p hq⟩
def dRow(h:cF P f A.row x):∃w:mH,x=w.d/\w.fit:=by
 obtain⟨l,g,rfl,rfl,k⟩:=cQ A.hrow h
 obtain⟨d1,r,rfl,h1,k⟩:=k.cons_inv
 obtain⟨d2,r,rfl,h2,k⟩:=k.cons_inv
 obtain⟨d3,r,rfl,h3,k⟩:=k.cons_inv
 obtain⟨d4,r,rfl,h4,k⟩:=k.cons_inv
 obtain rfl:=k.nil_inv
 obtain⟨a,rfl,ha⟩:=kT A.hi h1
 obtain⟨b,rfl,hb⟩:=kT A.hi h2
 obtain⟨c,rfl,hc⟩:=kT A.hi h3
 obtain⟨q,rfl,hq⟩:=A.dFrac h4
 exact⟨⟨a,b,c,q⟩,rfl,ha,hb,hc,hq⟩
def dTable(h:cF P f A.table x):∃w:uE,x=w.d/\w.fit:=by
 obtain⟨l,g,rfl,rfl,k⟩:=cQ A.htable h
 obtain⟨d1,r,rfl,h1,k⟩:=k.cons_inv
 obtain⟨d2,r,rfl,h2,k⟩:=k.cons_inv
 obtain⟨d3,r,rfl,h3,k⟩:=k.cons_inv
 obtain rfl:=k.nil_inv
 obtain⟨n,rfl,hn,_⟩:=eU A.hs h1
 obtain⟨b,rfl⟩:=qX A.hb h2
 obtain⟨l,g',rfl,rfl,hl,hm⟩:=dU A.hrows A.crow A.bytes.2.2.1 h3
 obtain⟨m,rfl,hq⟩:=zU (g:=mH.d) (Q:=mH.fit) fun y hy=>A.dRow (hm y hy)
 exact⟨⟨n,b,m⟩,rfl,hn,by simpa using hl,hq⟩
def dDef(h:cF P f A.dfn x):∃w:oC,x=w.d/\w.fit:=by
 obtain⟨l,g,rfl,rfl,k⟩:=cQ A.hdfn h
 obtain⟨d1,r,rfl,h1,k⟩:=k.cons_inv
 obtain⟨d2,r,rfl,h2,k⟩:=k.cons_inv
 obtain⟨d3,r,rfl,h3,k⟩:=k.cons_inv
 obtain rfl:=k.nil_inv
 obtain⟨n,rfl,hn,_⟩:=eU A.hs h1
 obtain⟨kk,rfl,hk⟩:=zh3 A.hu8 h2
 obtain⟨b,rfl⟩:=qX A.hb h3
 exact⟨⟨n,kk,b⟩,rfl,hn,hk⟩
def dClause(h:cF P f A.clause x):∃w:nC,x=w.d/\w.fit:=by
 obtain⟨l,g,rfl,rfl,k⟩:=cQ A.hclause h
 obtain⟨d1,r,rfl,h1,k⟩:=k.cons_inv
 obtain⟨d2,r,rfl,h2,k⟩:=k.cons_inv
 obtain⟨d3,r,rfl,h3,k⟩:=k.cons_inv
 obtain⟨d4,r,rfl,h4,k⟩:=k.cons_inv
 obtain⟨d5,r,rfl,h5,k⟩:=k.cons_inv
 obtain⟨d6,r,rfl,h6,k⟩:=k.cons_inv
 obtain⟨d7,r,rfl,h7,k⟩:=k.cons_inv
 obtain⟨d8,r,rfl,h8,k⟩:=k.cons_inv
 obtain rfl:=k.nil_inv
 obtain⟨n,rfl,hn,_⟩:=eU A.hs h1
 obtain⟨l,rfl,hl,_⟩:=eU A.hs h2
 obtain⟨a,rfl,ha⟩:=kT A.hi h3
 obtain⟨b,rfl,hb⟩:=kT A.hi h4
 obtain⟨c,rfl,hc⟩:=kT A.hi h5
 obtain⟨o,rfl⟩:=qX A.hb h6
 obtain⟨w,rfl,hw⟩:=A.dExpr _ _ h7
 obtain⟨v,rfl,hv⟩:=A.dExpr _ _ h8
 exact⟨⟨n,l,a,b,c,o,w,v⟩,rfl,hn,hl,ha,hb,hc,hw,hv⟩
def dPlan(h:cF P f A.plan x):∃w:fC,x=w.d/\w.fit:=by
 obtain⟨l,g,rfl,rfl,k⟩:=cQ A.hplan h
 obtain⟨d1,r,rfl,h1,k⟩:=k.cons_inv
 obtain⟨d2,r,rfl,h2,k⟩:=k.cons_inv
 obtain⟨d3,r,rfl,h3,k⟩:=k.cons_inv
 obtain⟨d4,r,rfl,h4,k⟩:=k.cons_inv
 obtain rfl:=k.nil_inv
 obtain⟨n,rfl,hn,_⟩:=eU A.hs h1
 obtain⟨l2,g2,rfl,rfl,hl2,hm2⟩:=dU A.hdfns A.cdfn A.bytes.2.2.2.2.1 h2
 obtain⟨l3,g3,_,rfl,hl3,hm3⟩:=dU A.htables A.ctable A.bytes.2.2.2.1 h3
 obtain⟨l4,g4,_,rfl,hl4,hm4⟩:=dU A.hclauses A.cclause A.bytes.2.2.2.2.2 h4
 obtain⟨m2,rfl,hq2⟩:=zU (g:=oC.d) (Q:=oC.fit) fun y hy=>A.dDef (hm2 y hy)
 obtain⟨m3,rfl,hq3⟩:=zU (g:=uE.d) (Q:=uE.fit) fun y hy=>A.dTable (hm3 y hy)
 obtain⟨m4,rfl,hq4⟩:=zU (g:=nC.d) (Q:=nC.fit) fun y hy=>A.dClause (hm4 y hy)
 exact⟨⟨n,m2,m3,m4⟩,rfl,⟨hn,by simpa using hl2,by simpa using hl3,by simpa using hl4,hq2,hq3,hq4⟩⟩
end
end zs6
end Go.Am
namespace Go.Am
open Go Go.RowKit Go.Proofs
def ztv[lC](B N:Nat)(hb:B<=256+lC.n):rT Tryz.prog yA B N wG:=by
 intro f g hg args H v H' hv μ w args' hH hI hl;have hg:zx8.get f=some g:=hg
 unfold zx8 at hg;rcases yL hg with⟨rfl,rfl⟩ | hg
 ·exact zQ hv hH fun hv=>zah hI hv hl
 rcases yL hg with⟨rfl,rfl⟩ | hg
 ·exact .inr (zds hb hH hv hl)
 rcases yL hg with⟨rfl,rfl⟩ | hg
 ·exact .inr (zgs hb hH hv hl)
 rcases yL hg with⟨rfl,rfl⟩ | hg
 ·exact zQ hv hH fun hv=>zk4 hI hv hl
 rcases yL hg with⟨rfl,rfl⟩ | hg
 ·exact zQ hv hH fun hv=>zk5 hI hv hl
 rcases yL hg with⟨rfl,rfl⟩ | hg
 ·exact zQ hv hH fun hv=>ztx hI hv hl
 ·rw[Tr.get_leaf]at hg;cases hg
def sim14[lC](hN:5<=lC.n):Sim Tryz.prog yA (256+lC.n) lC.n wG:=
 ⟨zkg rfl,zhc rfl,ztv _ _ (ybk _),ybk _,by kernel_rfl,fun _ _ hb h=>h.below hN hb⟩
section
variable {w:World}
def z91{b:Nat}{y:rA}(h:(fI w).get b=some y):b<256+w.heap.size:=by
 unfold fI at h;rw[qR]at h;split at h
 ·assumption
 ·cases h
def zti(hL:wG w)(f:Nat)(args:List zA)(args':Array Value)(hp:∀ [lC],yA.prims.get f=none)(hl:zB (muW w) args args'.toList)
  (h:∀ [lC],∃Q:cB,Wc yA F f args (fI w) Q/\∀v t,Q v t->v=.bool true) (hf:Nat.blt f yo=true:=by rfl) :
  Calls Tryz.prog f args' w fun e w'=>e=.returned (.bool true)/\Below w.heap.size w w':=by
 letI:lC:=⟨w.heap.size⟩
 obtain⟨Q,h1,h2⟩:=h
 refine(zp0 (H:=⟨256+w.heap.size,fI w⟩) (sim14 hL.size) hL zzbj hp (ybk _) (fun b y hb=>z91 hb) hrelW hl h1 hf).mono fun e w' ⟨v,v',t',μ',g1,g2,g3,g4,g5⟩=>?_
 have:=h2 v t' g4
 subst this;rw[vA]at g3;exact⟨by rw[g1,g3],g5⟩
def zsg(h:wG w):∀ [lC],GlobW (fI w):=by
 intro _;obtain⟨t,h⟩:=h.modes
 have hb:=(ybe.1 h).1
 have e:(fI w).get 0=some (.cells (zlf (fun j=>((z3c nL).toArray[j]?).bind (z2b w.heap.size)) (z3c nL).toArray.size) (z3c nL).toArray.size none):=by
  unfold fI;rw[qR,yab (by omega),yab (by omega),h]
  rfl
 refine⟨_,_,_,e,fun j a ha=>?_⟩
 rw[qR,ybw];have hj:j<zyw.length:=by
  have:=(ybc.1 ha).1
  simpa using this
 rw[ybu]at ha;have hL:zyw=nL.map fun b=>b.map UInt8.toNat:=rfl
 rw[hL]at ha hj;rw[ybu]at ha
 cases hbt:nL[j]? with
 | none=>rw[hbt]at ha;cases ha
 | some b=>
  rw[hbt]at ha;obtain rfl:=yci ha
  rw[yab (by simp[z3c];simpa using hj)]
  simp only[z3c,List.getElem?_toArray,ybu,hbt,Option.map_some,yai,z2b];rfl
def zzar{cs:List Value}(h:Has w.heap.size cs):zB (muW w) (cs.map (av w.heap.size)) cs:=by
 induction cs with
 | nil=>exact .nil
 | cons v l ih=>exact .cons (zs2 (h v (by simp))) (ih fun u hu=>h u (ybr _ hu))
def z36{cs:Array Value}(h:Has w.heap.size cs.toList):vA (muW w) (.agg (cs.toList.map (av w.heap.size))) (.agg cs):=by
 rw[vA];exact⟨cs,rfl,zzar h⟩
end
end Go.Am
namespace Go.Am
open Go Go.RowKit Go.ChangeShapes Go.WideShapes Go.ChangeAt
section
variable {H:Type}{enc:TypeId × Value->H}{P:Program}
def zaa(hl:laidOutB P=true){W W':World}(hb:Below W.heap.size W W'):∀ {ts:List TypeId} {vs:List Value} {ds:List (DataW H)} {ps:List MemPlace},(∀t∈ts,P.readableRec t=true/\t<P.types.size) →
  DataW.TrodAll enc P W 0 (fun _=>true) true ts vs ds ps->(∀x∈ps,x.block<W.heap.size)->DataW.TrodAll enc P W' 0 (fun b=>decide (b<W.heap.size)) true ts vs ds ps
 | [],[],[],_,_,h,_=>h
 | t::ts,_::_,_::_,_,ht,⟨p,q,h1,h2,e⟩,hs=>by
  subst e;exact⟨p,q,Below.trod hl (ht t (by simp)).1 (ht t (by simp)).2 h1 hb fun x hx=>hs x (ydc _ hx),
   zaa hl hb (fun t ht'=>ht t (ybr _ ht')) h2 fun x hx=>hs x (ycf _ hx),rfl⟩
 | [],_::_,_,_,_,h,_=>by simp[DataW.TrodAll]at h
 | [],[],_::_,_,_,h,_=>by simp[DataW.TrodAll]at h
 | _::_,[],_,_,_,h,_=>by simp[DataW.TrodAll]at h
 | _::_,_::_,[],_,_,h,_=>by simp[DataW.TrodAll]at h
def law_post(hl:laidOutB P=true){f:Func}{s:ChangeSpec}{tb:TypeId}(hp:∀t∈f.params.toList,P.readableRec t=true/\t<P.types.size)(hv:s.vars=[])(hres:f.resultTypes = #[tb])(htb:P.underlying tb=some .bool)
  {W W':World} {args:Array Value} {ds gs:List (DataW H)} {before:List MemPlace} (hfn:s.fn H ds={ results:=[.lit (.bool true)],args:=ds })
  (hW:DataW.Whole enc P f.params.toList s.vars false W args.toList ds gs before) (hb:Below W.heap.size W W') :
  s.post enc P f false true false false W args (.bool true) W':=by
 have hW0:=hW
 obtain⟨p,q,hA,hV,rfl,hfz,hnd⟩:=hW
 rw[hv]at hV;obtain⟨rfl,rfl⟩:=trodVars_none hV
 refine⟨ds,[],p++[],[],p,[],hW0,?_,?_,?_,hb.frame _,fun h=>by cases h⟩
 ·rw[ycd,hfn,hres]
  exact trodAll_mk1 (shut_bool htb _)
 ·rw[ycd,hfn]
  exact zaa hl hb hp hA fun x hx=>hW0.lt x (by simpa using hx)
 ·rw[ycd,hfn,hv]
  exact rfl
def zq5{a:Assume}{C:Checked}{os:Os}{f:FuncId}{fn:Func}{s:ChangeSpec}{conds:List PathCond}{apart fresh handsOn again:Bool}{X:World->Array Value->Prop}
  (hX:∀(w w':World) (args:Array Value),w.heap=w'.heap->X w args->X w' args)
  (own:ownKnob C.prog.godebug=none) (started:os.Started) (noInit:C.prog.inits.idxOf? f=none) (hfn:C.prog.funcs[f]?=some fn)
  (witness:∃(w:World) (tape:Tape) (i:Input),w.os=os/\(w.forCall tape i).Shaped C.prog/\i.vars=[]/\Input.okWide C.prog (w.forCall tape i) .any w.heap.size f i ∧
   ((s.pre enc C.prog fn conds apart (w.forCall tape i).memory i.args/\X (w.forCall tape i).memory i.args)/\sizedMet enc C.prog fn (OpenSpec.ofChange s) apart (w.forCall tape i).memory i.args)/\a.holds C.prog (lone (Frame.enter C.prog f i.args .normal) [] (w.forCall tape i)))
  (contract:∀(W:World) (base:Nat) (args:Array Value) (ds gs:List (DataW H)) (before:List MemPlace),
   (∀(j:Nat) t v,fn.params[j]?=some t->args[j]?=some v->Value.okWide C.prog W .any base t v) →
   DataW.Whole enc C.prog fn.params.toList s.vars apart W args.toList ds gs before →
   (DataW.weightsEach C.prog (fn.params.toList++s.plain.varTypes C.prog) (ds++gs)).all (· <= reachBytes)=true->X W args->W.ShapedOpen C.prog →
   Calls C.prog f args W fun e W'=>∃v,e=.returned v/\s.post enc C.prog fn apart fresh handsOn again W args v W') :
  ReturnsInHanded a C os f .any (fun w args=>(s.pre enc C.prog fn conds apart w args/\X w args)/\sizedMet enc C.prog fn (OpenSpec.ofChange s) apart w args) (s.post enc C.prog fn apart fresh handsOn again):=by
 refine returnsInHanded_of_calls own started noInit witness ?_
 intro w tape i _ hsh _ hok hpre _;obtain⟨_,_,_,fn',hfn',_,_,_,_,hval⟩:=hok
 have e:fn'=fn:=yci (hfn'.symm.trans hfn)
 subst e;obtain⟨⟨⟨ds,gs,before,hw,hc⟩,hx⟩,hz⟩:=hpre
 have hw':=DataW.Whole.of_heap (w':=w.forCall tape i) (by rfl) hw
 refine(contract (w.forCall tape i) w.heap.size i.args ds gs before hval hw' (hz.weights hw) (hX _ _ _ (by rfl) hx) hsh).mono fun e W' ⟨v,he,hp⟩=>?_
 subst he;exact ChangeSpec.post_blind hp
variable {w:World}{base:Nat}{spare:Nat->Bool}{held:Bool}{fuel:Nat}{t e:TypeId}{cs:List Value}{ps:List MemPlace}
def ze6{α:Type}{g:α->DataW H}{u:α->Value}{l:List α}{n:Nat}(ht:P.underlying t=some (.array n e))(hc:P.cellsOf e=1)(hn:P.cellsOf t=n)
  (h1:∀(m:Nat) (c:List Value) (x:DataW H × List MemPlace) (a:α),DataW.trod enc P w base spare held m e c=some x->x.1=g a->c=[u a])
  (h:DataW.trod enc P w base spare held fuel t cs=some (.agg (l.map g),ps)):cs=l.map u:=by
 obtain⟨xs,m,_,hx,hlen,hxs,hel⟩:=DataW.trod_array ht h
 simp only[Prod.mk.injEq,DataW.agg.injEq]at hx;have hl:l.length=n:=by have:=congrArg List.length hx.1;simp[hxs]at this;exact this
 rw[hn]at hlen;refine List.ext_getElem (by rw[hlen,ybf,hl]) fun i hi1 hi2=>?_
 have hi:i<n:=by omega
 have:=hel i hi
 rw[hc]at this;have hc1:((cs.drop (i*1)).take 1)=[cs[i]]:=by
  rw[Nat.mul_one,ybl hi1];rfl
 rw[hc1,ybd (by omega)]at this
 have hxi:xs[i].1=g (l[i]'(by omega)):=by
  have:=congrArg (fun z=>z[i]?) hx.1
  simp only[ybu]at this;rw[ybd (by omega),ybd (by omega)]at this
  simpa using this.symm
 have:=h1 m _ _ _ this hxi
 rw[List.getElem_map];simpa using this
def z3d(he:P.underlying e=some .string)(m:Nat)(c:List Value)(x:DataW H × List MemPlace)(b:List UInt8)(h:DataW.trod enc P w base spare held m e c=some x)(hx:x.1=.lit (.string b)):c=[.string ⟨b.toArray⟩]:=by
 obtain⟨s,rfl,rfl,_⟩:=DataW.trod_string he h
 simp at hx;rw[<- hx]
def z47(he:P.underlying e=some (.int .i64))(m:Nat)(c:List Value)(x:DataW H × List MemPlace)(n:Int)(h:DataW.trod enc P w base spare held m e c=some x)(hx:x.1=.lit (.int .i64 n)):c=[.int .i64 n]:=by
 obtain⟨k,rfl,rfl,_⟩:=DataW.trod_int he h
 simp at hx;rw[hx]
end
def joined_of{P:Program}{f:FuncId}{fn:Func}{s:ChangeSpec}{c:OpenClaim}
  (A:(c.wf (OpenSpec.ofChange s)&&laidOutB P&&mapsRowed P&&fn.params.all (P.readableRec ·)&&namedTie P c.named s.vars&&(c.stops == [])&&(P.stops == [])&&(c.knobs == [])&&(P.stopKnobs == []))=true)
  (h1:(c.inPlace == P.inPlace f)=true) (h2:(c.unfollowed == P.unfollowed f)=true) (h3:(c.recurses == P.recurses f)=true) (h4:(c.named == P.varsNamed f)=true)
  (E:((c.maps == (fn.params.toList++s.plain.varTypes P).any (P.mapsRec ·))&&(c.ifaces == (fn.params.toList++s.plain.varTypes P).any (P.ifacesRec ·))&&(c.mapsOut == P.mapsAmong fn.resultTypes.toList) &&
   (c.loops == (fn.params.toList++s.plain.varTypes P).any (P.loopsFrom ·))&&(c.wideKeys == (fn.params.toList++s.plain.varTypes P++fn.resultTypes.toList).any (P.wideKeysFrom ·)) &&
   s.vars.all (P.varReadable ·)&&fn.resultTypes.all (fun t=>P.readableRec t&&decide (t<P.types.size))&&(c.ifacesOut == fn.resultTypes.toList.any (P.ifacesRec ·))&&(c.loopsOut == fn.resultTypes.toList.any (P.loopsFrom ·))&&c.shortTexts.isNone)=true)
  (h5:(c.plainKeys == P.plainKeys)=true) (h6:P.stopsHeard=true) (h7:P.mayEnter=true) (h8:(c.lifted == P.liftsFinal)=true)
  (R:((P.make == some c.make)&&(c.kinds == (if c.domain.isEmpty then []else fn.params.toList.map fun t=>match P.underlying t with | some (.int k)=>some k | _=>none))&&(c.pinned == c.pinnedBy) &&
   (c.veiled == (fn.params.toList++s.plain.varTypes P++fn.resultTypes.toList).any (P.veiledRec ·))&&c.veiledFits P fn.params.toList (fn.params.toList++s.plain.varTypes P++fn.resultTypes.toList))=true) :
  joinedFacts P f fn s c=true:=by
 unfold joinedFacts;simp only[ybb]at A E R ⊢
 obtain⟨⟨⟨⟨⟨⟨⟨⟨a1,a2⟩,a3⟩,a4⟩,a5⟩,a6⟩,a7⟩,a8⟩,a9⟩:=A
 obtain⟨⟨⟨⟨⟨⟨⟨⟨⟨e1,e2⟩,e3⟩,e4⟩,e5⟩,e6⟩,e7⟩,e8⟩,e9⟩,e10⟩:=E
 obtain⟨⟨⟨⟨r1,r2⟩,r3⟩,r4⟩,r5⟩:=R
 exact⟨⟨⟨⟨⟨⟨⟨⟨⟨⟨⟨⟨⟨⟨⟨⟨⟨⟨⟨⟨⟨⟨⟨⟨⟨⟨⟨⟨⟨⟨⟨a1,a2⟩,a3⟩,a4⟩,a5⟩,a6⟩,a7⟩,a8⟩,a9⟩,h1⟩,h2⟩,h3⟩,h4⟩,e1⟩,e2⟩,e3⟩,e4⟩,e5⟩,e6⟩,e7⟩,e8⟩,e9⟩,h5⟩,e10⟩,h6⟩,h7⟩,h8⟩,r1⟩,r2⟩,r3⟩,r4⟩,r5⟩
end Go.Am
namespace Go.Proofs.YtfijloeeppcipaaGreatDoor
open Go Go.Am Go.RowKit Go.ChangeShapes Go.WideShapes Go.ChangeAt
def own:ownKnob Tryz.prog.godebug=none:=by kernel_rfl
def laidOut:laidOutB Tryz.prog=true:=by kernel_rfl
def gPow : Tryz.prog.globalNamed "internal/strconv.uint64pow10" = some 4 := by kernel_rfl
def gLens : Tryz.prog.globalNamed "annuitant/calendar.lengths" = some 3 := by kernel_rfl
def gModes : Tryz.prog.globalNamed "annuitant/parse.modeWords" = some 0 := by kernel_rfl
def tPow:(Tryz.prog.globals[4]?).map (·.type)=some 290:=by kernel_rfl
def tLens:(Tryz.prog.globals[3]?).map (·.type)=some 275:=by kernel_rfl
def tModes:(Tryz.prog.globals[0]?).map (·.type)=some 238:=by kernel_rfl
def laid5 : List (String × DataW Unit) := [("math/bits.deBruijn32tab", Rows.laid_math_bits_deBruijn32tab), ("math/bits.deBruijn64tab", Rows.laid_math_bits_deBruijn64tab), ("internal/strconv.uint64pow10", Rows.laid_internal_strconv_uint64pow10), ("annuitant/calendar.lengths", Rows.laid_annuitant_calendar_lengths), ("annuitant/parse.modeWords", Rows.laid_annuitant_parse_modeWords)]
def door_met(os:Os)(args:Array Value):laidMetH Tryz.prog laid5 ((World.doorLaid Tryz.prog 100 os).forCall (fun _ _=>0) ⟨#[],args,[]⟩).memory:=
 laidMetH_of_parts3 (fuel:=8) (laidMet_of_run' 8 (by kernel_rfl) (by kernel_rfl)) (by kernel_rfl) (by kernel_rfl)
def zc3{W:World}{n:String}{g:Nat}{cs:Array Value}(hg:Tryz.prog.globalNamed n=some g)(hv:W.var? Tryz.prog n=some cs)(hc:∃c t,W.heap[g]?=some (.cells c t (0,0))):∃t,W.heap[g]?=some (.cells cs t (0,0)):=by
 obtain⟨c,t,hc⟩:=hc
 unfold World.var? at hv
 rw[hg]at hv;simp only[yai,hc,Option.some.injEq]at hv;subst hv;exact⟨t,hc⟩
def zob{g n:Nat}{p q:List MemPlace}(h:0<n):MemPlace.cell g 0∈MemPlace.row ⟨g,0,none⟩ n++p++q:=
 ydc _ (ydc _ (yaq.2 ⟨0,List.mem_range.2 h,rfl⟩))
def z99:Rows.laid_internal_strconv_uint64pow10 (H:=Unit)=.agg (z2r.map fun n=>.lit (.int .u64 n)):=by kernel_rfl
def z4z:Rows.laid_annuitant_calendar_lengths (H:=Unit)=.agg (z2s.map fun n=>.lit (.int .i64 n)):=by kernel_rfl
def zzb:Rows.laid_annuitant_parse_modeWords (H:=Unit)=.agg (nL.map fun b=>.lit (.string b)):=by kernel_rfl
def z2z{H:Type}{enc:TypeId × Value->H}{P:Program}{w:World}{base:Nat}{spare:Nat->Bool}{held:Bool}{e:TypeId}(he:P.underlying e=some (.int .u64))(m:Nat)(c:List Value)(x:DataW H × List MemPlace)(n:Int)(h:DataW.trod enc P w base spare held m e c=some x)(hx:x.1=.lit (.int .u64 n)):c=[.int .u64 n]:=by
 obtain⟨k,rfl,rfl,_⟩:=DataW.trod_int he h
 simp at hx;rw[hx]
def laid_of{W:World}(h:laidMetH Tryz.prog laid5 W)(hsh:W.ShapedOpen Tryz.prog):wG W:=by
 rw[MakeChecks.laidMetH_plain _ _ _ (by kernel_rfl)]at h
 obtain⟨ps,⟨_,_,_,_,_,_,_,_,_,_,⟨_,_,_,_,_,_,_,_,_,_,⟨g0,t0,cs0,f0,p0,q0,hg0,ht0,hv0,hd0,⟨g1,t1,cs1,f1,p1,q1,hg1,ht1,hv1,hd1,⟨g3,t3,cs3,f3,p3,q3,hg3,ht3,hv3,hd3,_,hp3⟩,hp1⟩,hp0⟩,hpb⟩,hpa⟩,_,hcell⟩:=h
 obtain rfl:=yci (gPow.symm.trans hg0)
 obtain rfl:=yci (gLens.symm.trans hg1)
 obtain rfl:=yci (gModes.symm.trans hg3)
 obtain rfl:=yci (tPow.symm.trans ht0)
 obtain rfl:=yci (tLens.symm.trans ht1)
 obtain rfl:=yci (tModes.symm.trans ht3)
 have c3:Tryz.prog.cellsOf 3=1:=by kernel_rfl
 have c9:Tryz.prog.cellsOf 9=1:=by kernel_rfl
 have c225:Tryz.prog.cellsOf 225=1:=by kernel_rfl
 have c290:Tryz.prog.cellsOf 290=20:=by kernel_rfl
 have c275:Tryz.prog.cellsOf 275=12:=by kernel_rfl
 have c238:Tryz.prog.cellsOf 238=7:=by kernel_rfl
 rw[z99]at hd0;rw[z4z]at hd1;rw[zzb]at hd3;have e0:cs0.toList=u64s z2r:=ze6 (l:=z2r) (g:=fun n=>.lit (.int .u64 n)) (u:=fun n=>.int .u64 n) Tryz.underlying290 c225 c290 (fun m c x a=>z2z Tryz.underlying225 m c x a) hd0
 have e1:cs1.toList=ints z2s:=ze6 (l:=z2s) (g:=fun n=>.lit (.int .i64 n)) (u:=fun n=>.int .i64 n) Tryz.underlying275 c3 c275 (fun m c x a=>z47 Tryz.underlying3 m c x a) hd1
 have e3:cs3.toList=z3c nL:=ze6 (l:=nL) (g:=fun b=>.lit (.string b)) (u:=fun b=>.string ⟨b.toArray⟩) Tryz.underlying238 c9 c238 (fun m c x a=>z3d Tryz.underlying9 m c x a) hd3
 have s0:cs0=(u64s z2r).toArray:=by rw[<- e0]
 have s1:cs1=(ints z2s).toArray:=by rw[<- e1]
 have s3:cs3=(z3c nL).toArray:=by rw[<- e3]
 subst s0 s1 s3
 have m0:MemPlace.cell 4 0∈ps:=by
  rw[hpa,hpb,hp0];exact ycf _ (ycf _ (zob (by decide)))
 have m1:MemPlace.cell 3 0∈ps:=by
  rw[hpa,hpb,hp0,hp1];exact ycf _ (ycf _ (ycf _ (zob (by decide))))
 have m3:MemPlace.cell 0 0∈ps:=by
  rw[hpa,hpb,hp0,hp1,hp3];exact ycf _ (ycf _ (ycf _ (ycf _ (zob (by decide)))))
 exact⟨zc3 hg3 hv3 (hcell 0 0 m3).1,zc3 hg1 hv1 (hcell 3 0 m1).1,Tryz.laysM144.s1_3 W hsh,zc3 hg0 hv0 (hcell 4 0 m0).1⟩
def stopsHeard:Tryz.prog.stopsHeard=true:=by kernel_rfl
def mayEnter:Tryz.prog.mayEnter=true:=by kernel_rfl
def bool4:Tryz.prog.underlying 4=some .bool:=Tryz.underlying4
def api14:zs6 Tryz.prog:={
 b:=4,i:=3,u8:=5,u16:=202,s:=9,limbs:=27,whole:=29,frac:=31,val:=33,expr:=36,exprs:=34,row:=84,rows:=79,table:=81,tables:=23,dfn:=59,dfns:=22,clause:=56,clauses:=24,plan:=26,
 hb:=Tryz.underlying4,hi:=Tryz.underlying3,hu8:=Tryz.underlying5,hu16:=Tryz.underlying202,hs:=Tryz.underlying9,hlimbs:=Tryz.underlying27,hexprs:=Tryz.underlying34,hrows:=Tryz.underlying79,htables:=Tryz.underlying23,hdfns:=Tryz.underlying22,hclauses:=Tryz.underlying24,
 hwhole:=⟨_,Tryz.underlying29,rfl⟩,hfrac:=⟨_,Tryz.underlying31,rfl⟩,hval:=⟨_,Tryz.underlying33,rfl⟩,hexpr:=⟨_,Tryz.underlying36,rfl⟩,hrow:=⟨_,Tryz.underlying84,rfl⟩,htable:=⟨_,Tryz.underlying81,rfl⟩,hdfn:=⟨_,Tryz.underlying59,rfl⟩,hclause:=⟨_,Tryz.underlying56,rfl⟩,hplan:=⟨_,Tryz.underlying26,rfl⟩,
 cu16:=by kernel_rfl,cexpr:=by kernel_rfl,crow:=by kernel_rfl,ctable:=by kernel_rfl,cdfn:=by kernel_rfl,cclause:=by kernel_rfl,
 bytes:=⟨of_decide_eq_true (by kernel_rfl),of_decide_eq_true (by kernel_rfl),of_decide_eq_true (by kernel_rfl),of_decide_eq_true (by kernel_rfl),of_decide_eq_true (by kernel_rfl),of_decide_eq_true (by kernel_rfl)⟩ }
def zrf:List Nat:=[4,3,5,202,9,27,29,31,33,36,34,84,79,81,23,59,22,56,24,26]
def partB(t:TypeId):Bool:=match Tryz.prog.underlying t with
 | some .bool=>true
 | some (.int _)=>true
 | some .string=>true
 | some (.slice e)=>zrf.contains e&&Nat.blt 0 (Tryz.prog.cellsOf e)
 | some (.struct fs)=>fs.toList.all (fun f=>zrf.contains f.type)&&ztl Tryz.prog 0 fs.toList (Tryz.prog.cellsOf t)
 | _=>false
def zoo:zrf.all partB=true:=by kernel_rfl
def z9n:Plain Tryz.prog (fun t=>t∈zrf):=⟨fun t ht=>by
 have h:=ycb.1 zoo t ht
 unfold partB at h
 cases hu:Tryz.prog.underlying t with
 | none=>rw[hu]at h;cases h
 | some d=>
  rw[hu]at h
  cases d with
  | bool=>trivial
  | int k=>trivial
  | string=>trivial
  | slice e=>
   simp only[ybb]at h;exact⟨by simpa using h.1,by simpa using h.2⟩
  | struct fs=>
   simp only[ybb]at h;exact⟨fun f hf=>by simpa using ycb.1 h.1 f hf,h.2⟩
  | _=>cases h⟩
def open_plan{H:Type}{enc:TypeId × Value->H}{W:World}{base:Nat}{v:Value}{d:DataW H}{ps:List MemPlace}(hL:wG W)(hok:Value.okWide Tryz.prog W .any base 26 v)(h:DataW.Trod enc Tryz.prog W 0 (fun _=>true) true 26 v d ps)(hw:(DataW.weights Tryz.prog 26 d).all (· <= reachBytes)=true) :
  ∃(cs:Array Value) (p:fC),v=.agg cs/\p.fit/\Has W.heap.size cs.toList/\RD (fI W) p.d (cs.toList.map (av W.heap.size)):=by
 obtain⟨cs,rfl,_,_⟩:∃cs,v=.agg cs/\cs.size=Tryz.prog.cellsOf 26/\Row.okWide Tryz.prog W .any base 26 cs:=by
  unfold Value.okWide at hok;rw[Tryz.underlying26]at hok;exact hok
 obtain⟨fuel,h⟩:=h
 obtain⟨c,n,lo,hc,_⟩:=@zsg W hL ⟨0⟩
 obtain⟨h1,x,h2,h3⟩:=z9k z9n ⟨c,n,lo,hc⟩ fuel 26 cs.toList (d,ps) (by decide) h hw
 obtain⟨p,rfl,hp⟩:=api14.dPlan h3
 exact⟨cs,p,rfl,hp,h1,h2⟩
end Go.Proofs.YtfijloeeppcipaaGreatDoor
namespace Go.Proofs
open Go Go.Am
variable [lC]
variable {t:Tr rA}
def bS(x:nC)(a b c a' b' c':zA):List zA:=[.str x.name,.str x.label,.int .i64 x.from_,.int .i64 x.to,.int .i64 x.known,.bool x.off,.int .u8 x.when_.op,.str x.when_.name,.int .u8 x.when_.v.kind,.bool x.when_.v.f.n.neg,a,.bool x.when_.v.f.d.neg,b,.int .i64 x.when_.v.i,c,.int .u8 x.then_.op,.str x.then_.name,.int .u8 x.then_.v.kind,.bool x.then_.v.f.n.neg,a',.bool x.then_.v.f.d.neg,b',.int .i64 x.then_.v.i,c']
def zvx:List zA:=[(.str []),(.str []),(.int .i64 0),(.int .i64 0),(.int .i64 0),(.bool false),(.int .u8 0),(.str []),(.int .u8 0),(.bool false),.nilslice,(.bool false),.nilslice,(.int .i64 0),.nilslice,(.int .u8 0),(.str []),(.int .u8 0),(.bool false),.nilslice,(.bool false),.nilslice,(.int .i64 0),.nilslice]
def zt2{x:nC}{a b c a' b' c':zA}(ha:zA.one a=true)(hb:zA.one b=true)(hc:zA.one c=true)(ha':zA.one a'=true)(hb':zA.one b'=true)(hc':zA.one c'=true):kB zA.one (bS x a b c a' b' c')=true:=by
 rw[yG];simp only[bS,ycg,yck,ha,hb,hc,ha',hb',hc'];rfl
def z1q{l:List nC}{v:zA}(hv:lA t 24 (l.map nC.d) v){i:Nat}{x:nC}(hx:l[i]?=some x) :
  ∃p off a b c a' b' c',qB yA 24 v (.int .i64 (i:Int))=some (.ptr p off)/\mA yA 56 ⟨0,t⟩ (.ptr p off)=some (.agg (bS x a b c a' b' c'))/\zK zvx (.agg (bS x a b c a' b' c'))=some (cellsOf (bS x a b c a' b' c')) ∧
   RD t x.when_.d (xE x.when_ a b c)/\RD t x.then_.d (xE x.then_ a' b' c')/\kB zA.one (bS x a b c a' b' c')=true:=by
 obtain⟨p,off,cs,g1,g2,_,_,g5⟩:=oE.at z3m (by simp) hv (i:=i) (d:=x.d) (by simp[hx])
 have hz:=vF g5 x.zs
 obtain⟨a,b,c,a',b',c',rfl,h1,h2⟩:=xR g5
 obtain⟨u1,u2,u3,e1,m1,m2,m3⟩:=kH h1
 obtain⟨w1,w2,w3,e2,n1,n2,n3⟩:=kH h2
 unfold xE at e1 e2
 cases e1
 cases e2
 exact⟨p,off,_,_,_,_,_,_,g1,g2,hz,h1,h2,zt2 m1.one m2.one m3.one n1.one n2.one n3.one⟩
def bQ:List oC->Int->Int
 | [],n=>n
 | d::l,n=>if n<=2000 then bQ l (n+(d.name.length:Int) / 30)else n
def cM:List mH->Int->Int
 | [],n=>n
 | r::l,n=>if n<=2000 then cM l (n+(zL r.f:Nat))else n
def mO:List uE->Int->Int
 | [],n=>n
 | x::l,n=>if n<=2000 then mO l (cM x.rows (n+(x.name.length:Int) / 30))else n
def gK(c:nC)(n:Int):Int:=n+((c.name.length:Int) / 30+(c.label.length:Int) / 30+pJ c.when_ (2000-n))
def bM:List nC->Int->Int
 | [],n=>n
 | c::l,n=>if n<=2000 then(if gK c n<=2000 then bM l (gK c n+pJ c.then_ (2000-gK c n))else bM l (gK c n))else n
def z3o(p:fC):Int:=bM p.clauses (mO p.tables (bQ p.defs (1+(p.name.length:Int) / 30+p.defs.length+p.tables.length+p.clauses.length)))
def z5v(n:Nat):Int.tdiv (n:Int) 30=(n:Int) / 30:=Int.tdiv_eq_ediv_of_nonneg (by omega)
section
variable {p:fC}{a b c:zA}
def zkl{l:List nC}(hc:lA t 24 (l.map nC.d) c)(hn:l.length<1125899906842624)(hf:∀x∈l,x.fit):∀(m i:Nat) (n:Int),i+m=l.length->0<=n->n<1152921504606846976->jp 15 14 [.int .i64 2000,.int .i64 n,.int .i64 (i:Int),.str p.name,a,b,c] t (fun v s=>v=.int .i64 (bM (l.drop i) n)/\s=t):=by
 intro m;induction m with
 | zero=>
  intro i n hi h0 h1;refine z76 _ _ _ _ _ _ _ ?_
  simp only[zxg,qA,hc.len,wA,sB,ybf,zD];rw[yaa (by omega),ybt (by omega)]
  (first | exact⟨rfl,rfl⟩ | exact⟨rfl,trivial⟩ | trivial)
 | succ m ih=>
  intro i n hi h0 h1;have hlt:i<l.length:=by omega
  obtain⟨q,off,u1,u2,u3,w1,w2,w3,g1,g2,g3,g4,g5,g6⟩:=z1q hc (ybd hlt)
  have hfit:=hf _ (ycj hlt)
  obtain⟨f1,f2,_,_,_,f6,f7⟩:=hfit
  unfold mC at f1 f2;have ok1:=pA.fit_ok f6
  have ok2:=pA.fit_ok f7
  refine z76 _ _ _ _ _ _ _ ?_
  simp only[zxg,qA,hc.len,wA,sB,ybf,zD,tG];rw[yab (by omega),ybl hlt]
  unfold bM;by_cases h2:n<=2000
  ·rw[yab h2,yab h2]
   unfold zvx at g3;rw[g1,wA,g2,wA,g3,wA];unfold bS at g6;simp only[bS,cellsOf,zz6,zxk,jR,zhx,yaz,yba];have s1:=oX l[i].when_ (2000-n) ok1
   have e1:=pv37 l[i].when_ (2000-n) _ ok1 (by omega) (by omega) g4
   unfold xE at e1;have ew:gK l[i] n=n+((l[i].name.length:Int) / 30+(l[i].label.length:Int) / 30+pJ l[i].when_ (2000-n)):=rfl
   have eN:tA .i64 (n+tA .i64 (tA .i64 (tA .i64 ((l[i].name.length:Int) / 30)+tA .i64 ((l[i].label.length:Int) / 30))+pJ l[i].when_ (2000-n)))=gK l[i] n:=by
    rw[wrap_i64 (n:=(l[i].name.length:Int) / 30) (by omega) (by omega),wrap_i64 (n:=(l[i].label.length:Int) / 30) (by omega) (by omega),wrap_i64 (n:=(l[i].name.length:Int) / 30+(l[i].label.length:Int) / 30) (by omega) (by omega),
     wrap_i64 (n:=(l[i].name.length:Int) / 30+(l[i].label.length:Int) / 30+pJ l[i].when_ (2000-n)) (by omega) (by omega),wrap_i64 (by omega) (by omega)]
    rfl
   have bw:0<=gK l[i] n/\gK l[i] n<1152921504606846976:=by rw[ew];omega
   refine cG g6 ?_
   rw[wrap_i64 (n:=2000-n) (by omega) (by omega),q22,e1,wA,sB,wA]
   simp only[zij,zck,if_true,xO,z5v,eN,tG];have ei:tA .i64 ((i:Int)+1)=((i+1:Nat):Int):=by rw[wrap_i64 (by omega) (by omega)];omega
   generalize gK l[i] n=k at *
   by_cases h3:k<=2000
   ·rw[yab h3,yab h3]
    have s2:=oX l[i].then_ (2000-k) ok2
    have e2:=pv37 l[i].then_ (2000-k) _ ok2 (by omega) (by omega) g5
    unfold xE at e2;rw[wrap_i64 (n:=2000-k) (by omega) (by omega),q22,e2,wA,sB,wA,ei,wrap_i64 (by omega) (by omega)]
    exact ih (i+1) _ (by omega) (by omega) (by omega)
   ·rw[yaa h3,yaa h3,ei]
    exact ih (i+1) _ (by omega) bw.1 bw.2
  ·rw[yaa h2,yaa h2]
   (first | exact⟨rfl,rfl⟩ | exact⟨rfl,trivial⟩ | trivial)
def zbx:∀(l:List mH) (n:Int),(∀r∈l,r.fit)->0<=n->0<=cM l n/\cM l n<=max n 4503599627372496
 | [],n,_,h=>by unfold cM;omega
 | r::l,n,hf,h=>by
  unfold cM;split
  ·have:=yW (hf r (by simp)).2.2.2.1
   have:=zbx l (n+(zL r.f:Nat)) (fun x hx=>hf x (by simp[hx])) (by omega)
   omega
  ·omega
def zev{l:List uE}(hb:lA t 3 (l.map uE.d) b){i:Nat}(hi:i<l.length):∃p o v,qB yA 23 b (.int .i64 (i:Int))=some (.ptr p o)/\tB yA 81 0 (.ptr p o)=some (.ptr p (o+0))/\tB yA 81 2 (.ptr p o)=some (.ptr p (o+2))/\mA yA 9 ⟨0,t⟩ (.ptr p (o+0))=some (.str l[i].name)/\mA yA 79 ⟨0,t⟩ (.ptr p (o+2))=some v/\lA t 7 (l[i].rows.map mH.d) v:=by
 obtain⟨p,o,cs,g1,g2,g3,_,g5⟩:=oE.at sl23 (by simp) hb (i:=i) (d:=l[i].d) (by simp[ybd hi])
 obtain⟨v,rfl,hv⟩:=wV g5
 exact⟨p,o,v,g1,by kernel_rfl,by kernel_rfl,g3.load1 ty9 rfl rfl,g3.load1 ty79 rfl rfl,hv⟩
def zxn{l:List uE}(hb:lA t 3 (l.map uE.d) b)(hf:∀x∈l,x.fit){i:Nat}(hi:i<l.length)(hil:i<1125899906842624){Q:cB}:∀(m j:Nat) (n:Int),j+m=l[i].rows.length->0<=n->n<1152921504606846976 →
  jp 15 6 [.int .i64 2000,.int .i64 (cM (l[i].rows.drop j) n),.int .i64 ((i+1:Nat):Int),.str p.name,a,b,c] t Q->jp 15 10 [.int .i64 2000,.int .i64 n,.int .i64 (i:Int),.int .i64 (j:Int),.str p.name,a,b,c] t Q:=by
 obtain⟨q,o,v,g1,g2,g3,g4,g5,g6⟩:=zev hb hi
 have hfit:=hf _ (ycj hi)
 obtain⟨f1,f2,f3⟩:=hfit
 unfold mC at f1 f2;have ei:tA .i64 ((i:Int)+1)=((i+1:Nat):Int):=by rw[wrap_i64 (by omega) (by omega)];omega
 intro m;induction m with
 | zero=>
  intro j n hj h0 h1 hQ;rw[ybt (by omega)]at hQ
  refine z77 _ _ _ _ _ _ _ _ ?_
  simp only[zxh,qA];rw[g1,wA,g3,wA,g5,wA,g6.len,wA,ybf,sB,wA];simp only[zD];rw[yaa (by omega),ei]
  exact hQ
 | succ m ih=>
  intro j n hj h0 h1 hQ;have hlt:j<l[i].rows.length:=by omega
  rw[ybl hlt]at hQ;unfold cM at hQ;refine z77 _ _ _ _ _ _ _ _ ?_
  simp only[zxh,qA];rw[g1,wA,g3,wA,g5,wA,g6.len,wA,ybf,sB,wA];simp only[zD,tG];rw[yab (by omega)]
  by_cases h2:n<=2000
  ·rw[yab h2]at hQ ⊢
   obtain⟨q',o',cs,k1,k2,k3,_,k5⟩:=oE.at sl79 (by simp) g6 (i:=j) (d:=l[i].rows[j].d) (by simp[ybd hlt])
   obtain⟨x,y,rfl,hx,hy⟩:=zx0 k5
   have fa:tB yA 84 3 (.ptr q' o')=some (.ptr q' (o'+3)):=by kernel_rfl
   have ld:mA yA 31 ⟨0,t⟩ (.ptr q' (o'+3))=some (.agg [.bool l[i].rows[j].f.n.neg,x,.bool l[i].rows[j].f.d.neg,y]):=k3.load (j:=3) ty31 rfl rfl (by exact(by decide:3+4<=7))
   have fr:(l[i].rows[j]).fit:=f3 _ (ycj hlt)
   have hz:zK [(.bool false),.nilslice,(.bool false),.nilslice] (.agg [.bool l[i].rows[j].f.n.neg,x,.bool l[i].rows[j].f.d.neg,y])=some (cellsOf [.bool l[i].rows[j].f.n.neg,x,.bool l[i].rows[j].f.d.neg,y]):=jN (by
    show(true&&(zpb .nilslice x&&(true&&(zpb .nilslice y&&true))))=true
    rw[oR hx,oR hy];rfl)
   have e1:=pv36 hx hy fr.2.2.2.1
   have hs:=yW fr.2.2.2.1
   have ej:tA .i64 ((j:Int)+1)=((j+1:Nat):Int):=by rw[wrap_i64 (by omega) (by omega)];omega
   simp only[wA,g3,g5];rw[k1,wA,fa,wA,ld,wA,hz,wA];simp only[cellsOf,jR,zhx,yaz,yba];rw[q32,e1,wA,sB,wA,ej,wrap_i64 (by omega) (by omega)]
   exact ih (j+1) _ (by omega) (by omega) (by omega) hQ
  ·rw[yaa h2]at hQ ⊢
   rw[ei];exact hQ
def zn9(hb:lA t 3 (p.tables.map uE.d) b)(hc:lA t 24 (p.clauses.map nC.d) c)(hp:p.fit):∀(m i:Nat) (n:Int),i+m=p.tables.length->0<=n->n<1152921504606846976->jp 15 6 [.int .i64 2000,.int .i64 n,.int .i64 (i:Int),.str p.name,a,b,c] t (fun v s=>v=.int .i64 (bM p.clauses (mO (p.tables.drop i) n))/\s=t):=by
 have hnt:=hp.ntables
 have hnc:=hp.nclauses
 unfold mC at hnt hnc;have aC:∀n:Int,0<=n->n<1152921504606846976->jp 15 14 [.int .i64 2000,.int .i64 n,.int .i64 0,.str p.name,a,b,c] t (fun v s=>v=.int .i64 (bM p.clauses n)/\s=t):=by
  intro n h0 h1;have:=zkl (p:=p) (a:=a) (b:=b) hc hnc hp.clauses p.clauses.length 0 n (by omega) h0 h1
  rw[ycr]at this;exact this
 intro m;induction m with
 | zero=>
  intro i n hi h0 h1;refine j15_6 _ _ _ _ _ _ _ ?_
  simp only[z9d,qA,hb.len,wA,sB,ybf,zD];rw[yaa (by omega),ybt (by omega)]
  exact aC n h0 h1
 | succ m ih=>
  intro i n hi h0 h1;have hlt:i<p.tables.length:=by omega
  obtain⟨q,o,v,g1,g2,g3,g4,g5,g6⟩:=zev hb hlt
  have hfit:=hp.tables _ (ycj hlt)
  obtain⟨f1,f2,f3⟩:=hfit
  unfold mC at f1;refine j15_6 _ _ _ _ _ _ _ ?_
  simp only[z9d,qA,hb.len,wA,sB,ybf,zD,tG];rw[yab (by omega),ybl hlt]
  unfold mO;by_cases h2:n<=2000
  ·rw[yab h2,yab h2,g1,wA,g2,wA,g4,wA,zm0,wA,xO,z5v,wrap_i64 (n:=(p.tables[i].name.length:Int) / 30) (by omega) (by omega),wrap_i64 (by omega) (by omega)]
   have hr:=zbx p.tables[i].rows (n+(p.tables[i].name.length:Int) / 30) f3 (by omega)
   refine zxn (p:=p) (a:=a) (c:=c) hb hp.tables hlt (by omega) p.tables[i].rows.length 0 _ (by omega) (by omega) (by omega) ?_
   rw[ycr];exact ih (i+1) _ (by omega) (by omega) (by omega)
  ·rw[yaa h2,yaa h2]
   exact aC n h0 h1
def zxo(ha:lA t 3 (p.defs.map oC.d) a)(hb:lA t 3 (p.tables.map uE.d) b)(hc:lA t 24 (p.clauses.map nC.d) c)(hp:p.fit):∀(m i:Nat) (n:Int),i+m=p.defs.length->0<=n->n<1152921504606846976->jp 15 2 [.int .i64 2000,.int .i64 n,.int .i64 (i:Int),.str p.name,a,b,c] t (fun v s=>v=.int .i64 (bM p.clauses (mO p.tables (bQ (p.defs.drop i) n)))/\s=t):=by
 have hnd:=hp.ndefs
 unfold mC at hnd;have aC:∀n:Int,0<=n->n<1152921504606846976->jp 15 6 [.int .i64 2000,.int .i64 n,.int .i64 0,.str p.name,a,b,c] t (fun v s=>v=.int .i64 (bM p.clauses (mO p.tables n))/\s=t):=by
  intro n h0 h1;have:=zn9 (a:=a) hb hc hp p.tables.length 0 n (by omega) h0 h1
  rw[ycr]at this;exact this
 intro m;induction m with
 | zero=>
  intro i n hi h0 h1;refine j15_2 _ _ _ _ _ _ _ ?_
  simp only[z9e,qA,ha.len,wA,sB,ybf,zD];rw[yaa (by omega),ybt (by omega)]
  exact aC n h0 h1
 | succ m ih=>
  intro i n hi h0 h1;have hlt:i<p.defs.length:=by omega
  obtain⟨q,o,cs,g1,g2,g3,_,g5⟩:=oE.at sl22 (by simp) ha (i:=i) (d:=p.defs[i].d) (by simp[ybd hlt])
  have g5:=zgm g5
  subst g5;have fa:tB yA 59 0 (.ptr q o)=some (.ptr q (o+0)):=by kernel_rfl
  have ld:mA yA 9 ⟨0,t⟩ (.ptr q (o+0))=some (.str p.defs[i].name):=g3.load1 ty9 rfl rfl
  have hfit:=hp.defs _ (ycj hlt)
  have f1:=hfit.1
  unfold mC at f1;have ei:tA .i64 ((i:Int)+1)=((i+1:Nat):Int):=by rw[wrap_i64 (by omega) (by omega)];omega
  refine j15_2 _ _ _ _ _ _ _ ?_
  simp only[z9e,qA,ha.len,wA,sB,ybf,zD,tG];rw[yab (by omega),ybl hlt]
  unfold bQ;by_cases h2:n<=2000
  ·rw[yab h2,yab h2,g1,wA,fa,wA,ld,wA,zm0,wA,xO,z5v,ei,wrap_i64 (n:=(p.defs[i].name.length:Int) / 30) (by omega) (by omega),wrap_i64 (by omega) (by omega)]
   exact ih (i+1) _ (by omega) (by omega) (by omega)
  ·rw[yaa h2,yaa h2]
   exact aC n h0 h1
def z3n{cs:List zA}(hp:p.fit)(h:RD t p.d cs):uC yA F 15 [.agg cs,.int .i64 2000] t=some (.int .i64 (z3o p)):=by
 obtain⟨a,b,c,rfl,ha,hb,hc⟩:=iO h
 have p1:=hp.name
 have p2:=hp.ndefs
 have p3:=hp.ntables
 have p4:=hp.nclauses
 unfold mC at p1 p2 p3 p4;refine mD.2 (w15 _ _ _ _ _ ?_)
 simp only[t15,qA,ha.len,hb.len,hc.len,wA,sB,ybf,xO,z5v];rw[wrap_i64 (n:=(p.name.length:Int) / 30) (by omega) (by omega),wrap_i64 (n:=1+(p.name.length:Int) / 30) (by omega) (by omega),wrap_i64 (n:=1+(p.name.length:Int) / 30+(p.defs.length:Int)) (by omega) (by omega),wrap_i64 (n:=1+(p.name.length:Int) / 30+(p.defs.length:Int)+(p.tables.length:Int)) (by omega) (by omega),wrap_i64 (by omega) (by omega)]
 have:=zxo ha hb hc hp p.defs.length 0 (1+(p.name.length:Int) / 30+p.defs.length+p.tables.length+p.clauses.length) (by omega) (by omega) (by omega)
 rw[ycr]at this;exact this
end
end Go.Proofs
