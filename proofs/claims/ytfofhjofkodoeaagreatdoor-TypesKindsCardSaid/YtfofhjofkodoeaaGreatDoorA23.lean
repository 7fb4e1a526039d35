/- The kind of an expression: types.Kind. -/
import Derived.Test.YtfofhjofkodoeaaGreatDoorA22
set_option linter.all false
noncomputable section
set_option maxRecDepth 100000
namespace Go.Proofs
open Go Go.Am
variable [lC]
variable {t tf:Tr qA}
def vX(op a b c:Nat):Option Nat:=(nZ.find? fun x=>decide (op=x.op)&&(decide (a=x.a)&&(decide (b=x.b)&&(decide (c=x.c)&&true)))).map KE.k
theorem VN{op a b c op' a' b' c':Nat}:lH (mZ op a b c) (mZ op' a' b' c')=some (decide (op=op')&&(decide (a=a')&&(decide (b=b')&&(decide (c=c')&&true)))):=by
 have h:∀x y:Nat,mN (.int .u8 (x:Int)) (.int .u8 (y:Int))=some (decide (x=y)):=by
  intro x y;show pB (cM .u8 .u8) (some (tA (x:Int) (y:Int)))=_;rw[sK.2 rfl,vE,bM];congr 2
  grind
 simp_all [lH,mZ,zA.asAgg,vR]
def KD{op a b c:Nat}:∀(l:List KE),uJ (mZ op a b c) (l.map KE.e)=some ((l.find? fun x=>decide (op=x.op)&&(decide (a=x.a)&&(decide (b=x.b)&&(decide (c=x.c)&&true)))).map fun x=>zA.int .u8 (x.k:Int))
 | []=>rfl
 | x::l=>by
  rw[ycm,uJ,show(KE.e x).1=mZ x.op x.a x.b x.c from rfl,VN,pA,List.find?_cons]
  cases h:(decide (op=x.op)&&(decide (a=x.a)&&(decide (b=x.b)&&(decide (c=x.c)&&true))))with
  | true=>rfl
  | false=>exact KD l
def zhg{m:Nat}(hm:t.get m=some (.map (eD 64)))(op a b c:Nat):uK yA 117 ⟨0,t⟩ (.map m) (mZ op a b c) true=some (match vX op a b c with | some k=>.tup [.int .u8 (k:Int),.bool true] | none=>.tup [.int .u8 0,.bool false]):=by
 have hl:eD 64=nZ.map KE.e:=rfl;have hf:=KD (op:=op) (a:=a) (b:=b) (c:=c) nZ;rw[<- hl]at hf;unfold vX
 cases h:nZ.find? fun x=>decide (op=x.op)&&(decide (a=x.a)&&(decide (b=x.b)&&(decide (c=x.c)&&true)))with
 | some x=>
  rw[h]at hf;exact GF lZ hm hf zf5 rfl xI true
 | none=>
  rw[h]at hf;exact UZ lZ hm hf zf5 rfl xI true
def lS (op nm a b c:Nat):Nat × Nat:=
 if op=3\/op=5 then(if a=4 then(nm,0)else(0,142))
 else match vX op a b c with
  | some k=>if op=21 then(if nm=2 then(k,0)else(0,142))else if op=22 then(if nm=3 then(k,0)else(0,142))else(k,0)
  | none=>(0,142)
def opK (p:qD)(op:Nat)(name:List Nat)(vk n:Nat)(ks:List Nat):Nat × Nat:=
 if (tI p op name n).2=false then(0,141)else if op=1 then(vk,0)else lS op (tI p op name n).1 (ks.getD 0 0) (ks.getD 1 0) (ks.getD 2 0)
def Cj(p:qD)(op:Nat)(name:List Nat)(vk n:Nat)(ks:List Nat)(r:Nat ⊕ List Nat):Nat × Nat:=
 match r with
 | .inl e=>(0,e)
 | .inr ks'=>opK p op name vk n (ks++ks')
mutual
/-- kind and error of an expression whose parts are printable -/
def zK(p:qD):sA->Nat × Nat
 | .mk op name v args=>Cj p op name v.kind args.length [] (eP p args)
def eP(p:qD):List sA->Nat ⊕ List Nat
 | []=>.inr []
 | x::l=>if (zK p x).2≠0 then .inl (zK p x).2 else match eP p l with
  | .inl e=>.inl e
  | .inr ks=>.inr ((zK p x).1::ks)
end
def tR (r:Nat × Nat):zA:=.tup [.int .u8 (r.1:Nat),.int .i64 (r.2:Nat)]
def kC (ks:List Nat):List zA:=[.int .u8 (ks.getD 0 0:Nat),.int .u8 (ks.getD 1 0:Nat),.int .u8 (ks.getD 2 0:Nat)]
def kC_set{ks:List Nat}{k:Nat}(h:ks.length<3):(kC ks).set ks.length (.int .u8 (k:Int))=kC (ks++[k]):=by
 match ks,h with
 | [],_=>rfl
 | [x],_=>rfl
 | [x,y],_=>rfl
def Xa{ks:List Nat}{i:Nat}(h:i<3):(kC ks)[i]?=some (.int .u8 (ks.getD i 0:Nat)):=by
 have:i=0\/i=1\/i=2:=by omega
 rcases this with e | e | e<;>subst e<;>rfl
theorem Px{b i:Nat}(h:i<3):bC yA 170 (.ptr b 0) (.int .i64 (i:Int))=some (.ptr b i):=by
 unfold bC;rw[ty170,pA];have e:(zA.int .i64 (i:Int)).asNat=some i:=rfl;rw[e,pA];grind [zA.asSlice,zA.asPtr,pA,jD.asArr,xI,pC,vE]
theorem MV{x:sA}{d:Nat}(h:pG x d=true):x.args.length<=3/\(x.op=1\/∀y∈x.args,pG y (d+1)=true):=by
 obtain⟨op,name,v,args⟩:=x;unfold pG bK at h;simp only[ybb,decide_eq_true_eq]at h;obtain⟨⟨hd,⟨⟨⟨h27,_⟩,hl⟩,hm⟩,hnm⟩,hrest⟩:=h;obtain⟨f1,f2,f3,f4,f5,f6,f7,f8⟩:=Ya h27;refine⟨by show args.length<=3;omega,?_⟩;show op=1\/∀y∈args,pG y (d+1)=true
 grind [Ro]
def MU{x:sA}{d:Nat}(h:pG x d=true)(h1:x.op=1):x.args=[]:=by
 obtain⟨op,name,v,args⟩:=x;have h1:op=1:=h1;subst h1;unfold pG bK at h;simp only[ybb,decide_eq_true_eq]at h;have:=h.1.2.1.2;have e:(iC 1).most=0:=rfl;rw[e]at this;exact ycc.1 (by show args.length=0;omega)
def POk (p:qD)(b m:Nat)(x:sA):Prop:=∀(d:Nat) (t:Tr qA) (cs:List zA),pG x d=true->x.fit->rQ t b m p->t.get m=some (.map (eD 64))->RD t x.d cs->rB yA F 68 [.ptr b 0,.agg cs] t=some (tR (zK p x))
section
variable {p:qD}{b m:Nat}
theorem rQ.mono{t':Tr qA}(h:rQ t b m p)(k:xB t t'):rQ t' b m p:=by
 obtain⟨cs,h1,h2⟩:=h;exact⟨cs,h1.mono k,h2.up k⟩
theorem rQ.map(h:rQ t b m p):vC yA 117 ⟨0,t⟩ (.ptr b 4)=some (.map m):=by
 obtain⟨cs,h1,h2,h3,h4⟩:=h.plan;refine h4.load1 (j:=4) zf5 rfl ?_
 simp_all
theorem Lc{r:Bool}{k:Nat}{t0:Tr qA}(hle:xB t0 t):jp 68 59 [.bool r,.int .u8 (k:Int)] t (fun v t'=>v=tR (if r=true then(k,0)else(0,142))/\xB t0 t'):=by
 refine j68_59 ?_;unfold zdu uZ uY
 cases r with
 | true=>exact bA (by simp) ⟨rfl,hle⟩
 | false=>exact oA rfl ⟨rfl,hle⟩
theorem zbu{op:Nat}{name:List Nat}{v:lE}{n:Nat}{ks:List Nat}{a c d:zA}{ak:Nat}{t0:Tr qA}(hp:p.fit)(hC:rQ t b m p)(hm:t.get m=some (.map (eD 64)))(hd:cA d=some (.int .i64 (n:Int)))(hk:kE t ak none (kC ks))(hle:xB t0 t) :
  wp 68 (.call 119 [.ptr b 0,(.agg [(.int .u8 (op:Int)),(.str name),(.int .u8 (v.kind:Int)),(.bool v.f.n.neg),a,(.bool v.f.d.neg),c,(.int .i64 v.i),d])] fun a9=>
 .opt (zG 0 a9) fun a10=>.asI .u8 a10 fun n11=>.opt (zG 1 a9) fun a12=>.asB a12 fun b13=>.ite (!b13)
 (.ret (.tup [(.int .u8 0),(.int .i64 141)]))
 (.opt (bC yA 170 (.ptr ak 0) (.int .i64 0)) fun a14=>.light (fun m=>vC yA 5 ⟨0,m⟩ a14) fun a15=>.asI .u8 a15 fun n16=>.opt (bC yA 170 (.ptr ak 0) (.int .i64 1)) fun a17=>.light (fun m=>vC yA 5 ⟨0,m⟩ a17) fun a18=>.asI .u8 a18 fun n19=>.opt (bC yA 170 (.ptr ak 0) (.int .i64 2)) fun a20=>.light (fun m=>vC yA 5 ⟨0,m⟩ a20) fun a21=>.asI .u8 a21 fun n22=>.ite true (.ite true (.ite (tA (op:Int) 1)
 (.ret (.tup [(.int .u8 (v.kind:Int)),(.int .i64 0)]))
 (.ite (tA (op:Int) 3)
 (.ite (tA (op:Int) 3)
 (.opt (bC yA 170 (.ptr ak 0) (.int .i64 0)) fun a23=>.light (fun m=>vC yA 5 ⟨0,m⟩ a23) fun a24=>.asI .u8 a24 fun n25=>.jump 59 [(.bool (tA n25 4)),(.int .u8 n11)])
 (.ite (tA (op:Int) 21)
 (.opt (zP (.ptr b 0)) fun a26=>.opt (aF yA 121 1 a26) fun a27=>.light (fun m=>vC yA 117 ⟨0,m⟩ a27) fun a28=>.light (fun m=>uK yA 117 ⟨0,m⟩ a28 (.agg [(.int .u8 (op:Int)),(.int .u8 n16),(.int .u8 n19),(.int .u8 n22)]) true) fun a29=>.opt (zG 0 a29) fun a30=>.asI .u8 a30 fun n31=>.opt (zG 1 a29) fun a32=>.asB a32 fun b33=>.ite b33
 (.jump 59 [(.bool (tA n11 2)),(.int .u8 n31)])
 (.jump 59 [(.bool false),(.int .u8 n31)]))
 (.ite (tA (op:Int) 22)
 (.opt (zP (.ptr b 0)) fun a34=>.opt (aF yA 121 1 a34) fun a35=>.light (fun m=>vC yA 117 ⟨0,m⟩ a35) fun a36=>.light (fun m=>uK yA 117 ⟨0,m⟩ a36 (.agg [(.int .u8 (op:Int)),(.int .u8 n16),(.int .u8 n19),(.int .u8 n22)]) true) fun a37=>.opt (zG 0 a37) fun a38=>.asI .u8 a38 fun n39=>.opt (zG 1 a37) fun a40=>.asB a40 fun b41=>.ite b41
 (.jump 59 [(.bool (tA n11 3)),(.int .u8 n39)])
 (.jump 59 [(.bool false),(.int .u8 n39)]))
 (.opt (zP (.ptr b 0)) fun a42=>.opt (aF yA 121 1 a42) fun a43=>.light (fun m=>vC yA 117 ⟨0,m⟩ a43) fun a44=>.light (fun m=>uK yA 117 ⟨0,m⟩ a44 (.agg [(.int .u8 (op:Int)),(.int .u8 n16),(.int .u8 n19),(.int .u8 n22)]) true) fun a45=>.opt (zG 0 a45) fun a46=>.asI .u8 a46 fun n47=>.opt (zG 1 a45) fun a48=>.asB a48 fun b49=>.jump 59 [(.bool b49),(.int .u8 n47)]))))
 (.ite (tA (op:Int) 5)
 (.opt (bC yA 170 (.ptr ak 0) (.int .i64 0)) fun a50=>.light (fun m=>vC yA 5 ⟨0,m⟩ a50) fun a51=>.asI .u8 a51 fun n52=>.jump 59 [(.bool (tA n52 4)),(.int .u8 n11)])
 (.ite (tA (op:Int) 21)
 (.opt (zP (.ptr b 0)) fun a53=>.opt (aF yA 121 1 a53) fun a54=>.light (fun m=>vC yA 117 ⟨0,m⟩ a54) fun a55=>.light (fun m=>uK yA 117 ⟨0,m⟩ a55 (.agg [(.int .u8 (op:Int)),(.int .u8 n16),(.int .u8 n19),(.int .u8 n22)]) true) fun a56=>.opt (zG 0 a56) fun a57=>.asI .u8 a57 fun n58=>.opt (zG 1 a56) fun a59=>.asB a59 fun b60=>.ite b60
 (.jump 59 [(.bool (tA n11 2)),(.int .u8 n58)])
 (.jump 59 [(.bool false),(.int .u8 n58)]))
 (.ite (tA (op:Int) 22)
 (.opt (zP (.ptr b 0)) fun a61=>.opt (aF yA 121 1 a61) fun a62=>.light (fun m=>vC yA 117 ⟨0,m⟩ a62) fun a63=>.light (fun m=>uK yA 117 ⟨0,m⟩ a63 (.agg [(.int .u8 (op:Int)),(.int .u8 n16),(.int .u8 n19),(.int .u8 n22)]) true) fun a64=>.opt (zG 0 a64) fun a65=>.asI .u8 a65 fun n66=>.opt (zG 1 a64) fun a67=>.asB a67 fun b68=>.ite b68
 (.jump 59 [(.bool (tA n11 3)),(.int .u8 n66)])
 (.jump 59 [(.bool false),(.int .u8 n66)]))
 (.opt (zP (.ptr b 0)) fun a69=>.opt (aF yA 121 1 a69) fun a70=>.light (fun m=>vC yA 117 ⟨0,m⟩ a70) fun a71=>.light (fun m=>uK yA 117 ⟨0,m⟩ a71 (.agg [(.int .u8 (op:Int)),(.int .u8 n16),(.int .u8 n19),(.int .u8 n22)]) true) fun a72=>.opt (zG 0 a72) fun a73=>.asI .u8 a73 fun n74=>.opt (zG 1 a72) fun a75=>.asB a75 fun b76=>.jump 59 [(.bool b76),(.int .u8 n74)])))))) .fail) .fail)) t (fun x t'=>x=tR (opK p op name v.kind n ks)/\xB t0 t'):=by
 refine yB ?_;rw[q119,zb2 hC hp hd,xA];unfold opK;generalize tI p op name n=r;obtain⟨nm,ok⟩:=r;refine uA rfl (zB (uA rfl (rC ?_)))
 cases ok with
 | false=>exact oA rfl ⟨rfl,hle⟩
 | true=>
  refine bA (by simp) ?_;rw[yaa (by simp)];have i0:=Px (b:=ak) (i:=0) (by omega);have i1:=Px (b:=ak) (i:=1) (by omega);have i2:=Px (b:=ak) (i:=2) (by omega);have l0:vC yA 5 ⟨0,t⟩ (.ptr ak 0)=some (.int .u8 (ks.getD 0 0:Nat)):=hk.load1 xI rfl (Xa (by omega));have l1:vC yA 5 ⟨0,t⟩ (.ptr ak 1)=some (.int .u8 (ks.getD 1 0:Nat)):=hk.load1 xI rfl (Xa (by omega));have l2:vC yA 5 ⟨0,t⟩ (.ptr ak 2)=some (.int .u8 (ks.getD 2 0:Nat)):=hk.load1 xI rfl (Xa (by omega))
  refine uA i0 (yC l0 (zB (uA i1 (yC l1 (zB (uA i2 (yC l2 (zB (oA rfl (oA rfl ?_))))))))));by_cases h1:op=1
  ·rw[yab h1];exact oA (bF (by omega)) ⟨rfl,hle⟩
  rw[yaa h1];refine bA (uF (by omega)) ?_;have hlk:=zhg hm op (ks.getD 0 0) (ks.getD 1 0) (ks.getD 2 0);unfold lS;have eq4:∀ {x j:Nat},tA (x:Int) (j:Int)=decide (x=j):=by grind [bM]
  have fF:∀ {x j k:Nat},jp 68 59 [.bool (tA (x:Int) (j:Int)),.int .u8 (k:Int)] t (fun v t'=>v=tR (if x=j then(k,0)else(0,142))/\xB t0 t'):=by
   grind [Lc]
  by_cases h3:op=3
  ·rw[yab (.inl h3)];refine oA (bF (by omega)) (oA (bF (by omega)) (uA i0 (yC l0 (zB (zC ?_)))));exact fF (j:=4)
  refine bA (uF (by omega)) ?_;by_cases h5:op=5
  ·rw[yab (.inr h5)];refine oA (bF (by omega)) (uA i0 (yC l0 (zB (zC ?_))));exact fF (j:=4)
  rw[yaa (by omega)];refine bA (uF (by omega)) ?_;by_cases h21:op=21
  ·refine oA (bF (by omega)) (uA yG (uA Yh (yC hC.map (yC hlk ?_))))
   cases hL:vX op (ks.getD 0 0) (ks.getD 1 0) (ks.getD 2 0)with
   | some k=>
    refine uA rfl (zB (uA rfl (rC (oA rfl (zC ?_)))))
    grind
   | none=>
    refine uA rfl (zB (uA rfl (rC (bA (by simp) (zC ?_)))))
    grind [Lc]
  refine bA (uF (by omega)) ?_;by_cases h22:op=22
  ·refine oA (bF (by omega)) (uA yG (uA Yh (yC hC.map (yC hlk ?_))))
   cases hL:vX op (ks.getD 0 0) (ks.getD 1 0) (ks.getD 2 0)with
   | some k=>
    refine uA rfl (zB (uA rfl (rC (oA rfl (zC ?_)))))
    grind
   | none=>
    refine uA rfl (zB (uA rfl (rC (bA (by simp) (zC ?_)))))
    grind [Lc]
  refine bA (uF (by omega)) (uA yG (uA Yh (yC hC.map (yC hlk ?_))))
  cases hL:vX op (ks.getD 0 0) (ks.getD 1 0) (ks.getD 2 0)with
  | some k=>
   refine uA rfl (zB (uA rfl (rC (zC ?_))))
   grind [Lc]
  | none=>
   refine uA rfl (zB (uA rfl (rC (zC ?_))))
   grind [Lc]
theorem TM{op:Nat}{name:List Nat}{v:lE}{args:List sA}{a c d:zA}{ak dd:Nat}{t0:Tr qA}(hp:p.fit)(hall:∀y∈args,POk p b m y)(hP:∀y∈args,pG y dd=true)(hfits:∀y∈args,y.fit)(hlen:args.length<=3)
  (hC:rQ t0 b m p) (hm:t0.get m=some (.map (eD 64))) (hr:lA t0 9 (args.map sA.d) d) (hak:t0.get ak=none) (hbase:yA.base<=ak):∀(l:List sA) (i:Nat) (ks:List Nat) (t:Tr qA),args.drop i=l->i<=args.length->ks.length=i->xB t0 t->kE t ak none (kC ks) →
  jp 68 2 [.ptr b 0,.ptr ak 0,d,.int .i64 (args.length:Int),.int .i64 (i:Int),.int .u8 (op:Int),.str name,.int .u8 (v.kind:Int),.bool v.f.n.neg,a,.bool v.f.d.neg,c,.int .i64 v.i,d] t (fun x t'=>x=tR (Cj p op name v.kind args.length ks (eP p l))/\xB t0 t'):=by
 intro l;induction l with
 | nil=>
  intro i ks t hl hi hk hle hc;have hi2:=yak.1 hl;refine j68_2 ?_;unfold zgg uQ49 uQ13 uI uU uB uG wB rA bB gC sB uD uX uZ uY tN gE;refine bA (jF (by omega)) ?_;have:=zbu (op:=op) (name:=name) (v:=v) (n:=args.length) (a:=a) (c:=c) (d:=d) hp (hC.mono hle) (hle _ _ hm) (by rw[hr.len,ybf]) hc hle;unfold eP;show wp 68 _ t (fun x t'=>x=tR (opK p op name v.kind args.length (ks++[]))/\xB t0 t')
  simp_all
 | cons x l ih=>
  intro i ks t hl hi hk hle hc;obtain⟨h1,h2,h3⟩:=Cs hl;have hm':x∈args:=ycv h1;refine j68_2 ?_;unfold zgg uQ49 uQ13 uI uU uB uG wB rA bB gC sB uD uX uZ uY tN gE;obtain⟨pb,po,cs,g1,g2,g3,g4,g5⟩:=lD.at sP (by simp) (hr.mono hle) (i:=i) (d:=x.d) (by simp[h1]);refine oA (pF (by omega)) (uA g1 (yC g2 ?_));rw[mQ];refine fE (rG g5 x.zs) ?_;have hmk:=g5.mk x.zs
  have hcs:[zA.int .u8 ((cellsOf cs).i 0),.str ((cellsOf cs).s 1),.int .u8 ((cellsOf cs).i 2),.bool ((cellsOf cs).b 3),(cellsOf cs).v 4,.bool ((cellsOf cs).b 5),(cellsOf cs).v 6,.int .i64 ((cellsOf cs).i 7),(cellsOf cs).v 8]=cs:=hmk;rw[hcs];refine oA g5.all (yB ?_);rw[q68,hall x hm' dd t cs (hP x hm') (hfits x hm') (hC.mono hle) (hle _ _ hm) g5,xA];refine uA rfl (zB (uA rfl (zB ?_)))
  unfold eP;by_cases he:(zK p x).2=0
  ·rw[yaa (by omega)];refine bA (by grind [bF]) (uA (Px (by omega)) (tG fun n _ _=>?_));obtain⟨t',e1,e2,e3⟩:=hc.store1 (v:=.int .u8 ((zK p x).1:Nat)) hbase xI rfl rfl rfl (j:=i) (by show i<3;omega);refine⟨_,_,e1 n,zC ?_⟩;rw[wrap_i64 (by omega) (by omega),show(i:Int)+1=((i+1:Nat):Int) by omega];rw[<- hk,kC_set (by omega)]at e2;have hle':xB t0 t':=hle.off hak e3
   grind [Cj]
  ·rw[yab he];refine oA ?_ ⟨rfl,hle⟩
   grind [wE]
mutual
theorem EZ(hp:p.fit):∀(x:sA),POk p b m x
 | .mk op name v args=>by
  have hall:=EW hp args;intro dd t cs hP hfit hC hm hr;have hP0:=hP;obtain⟨h1,h2⟩:=MV hP;have hone:=MU hP;simp only[sA.args,sA.op]at h1 h2 hone;obtain⟨a,c,d,rfl,ha,hc,hd⟩:=vI hr;simp only[sA.op,sA.name,sA.v,sA.args]at ha hc hd ⊢;have hfit':=hfit;unfold sA.fit at hfit';have hfits:=sA.fits_mem hfit'.2.2.2.2.2;have hPs:∀y∈args,pG y (dd+1)=true:=by
   grind
  refine lL (w68 ?_);unfold t68 uI uZ uY;refine tG fun ak hak hbase=>?_;obtain⟨t1,e1,e2,e3,e4⟩:=Ag (C:=yA) ty170 hak;have hlen:=hd.len;rw[ybf]at hlen;refine⟨_,_,e1,uA hlen (zB (zC ?_))⟩;have:=TM (op:=op) (name:=name) (v:=v) (a:=a) (c:=c) hp hall hPs hfits h1 hC hm hd hak hbase args 0 [] t1 rfl (by omega) rfl e3 e2;unfold zK;exact this
theorem EW(hp:p.fit):∀(l:List sA),∀y∈l,POk p b m y
 | [],_,h=>by cases h
 | x::l,y,h=>by
  rcases ybs.1 h with e | h
  ·rw[e];exact EZ hp x
  ·exact EW hp l y h
end
end
def Kf(p:qD)(x:sA):Nat × Nat:=if pG x 1=true then zK p x else(0,140)
def zhs{p:qD}{x:sA}{cp cs:List zA}(hp:p.fit)(hfit:x.fit)(hM:pL t)(hW:sQ t)(hrp:RD t p.d cp)(hr:RD t x.d cs):rB yA F 17 [.agg cp,.agg cs] t=some (tR (Kf p x)):=by
 have hrp0:=hrp;have hr0:=hr;obtain⟨u1,u2,u3,rfl,_⟩:=wO hrp;obtain⟨a,c,d,rfl,_⟩:=vI hr;refine lL (w17 ?_);unfold t17 uI uU uX uZ uY;refine yB ?_;rw[q36];refine UM hrp0 fun b m t1 h1 h2 h3=>oA hr0.sameA (yB ?_);have hk:rB yA F 37 [.ptr b 0,.agg [.int .u8 x.op,.str x.name,.int .u8 x.v.kind,.bool x.v.f.n.neg,a,.bool x.v.f.d.neg,c,.int .i64 x.v.i,d]] t1=some (tR (Kf p x)):=by
  refine lL (w37 ?_);unfold t37 uI uU uS uX uZ uY;refine yB ?_;rw[q67];refine zcx hfit (hM.mono h1) (hW.mono h1) (hr0.mono h1) fun t2 s e h4 h5=>?_;refine uA rfl (sD (uA rfl (zB ?_)));unfold Kf
  cases hP:pG x 1 with
  | false=>
   rw[hP,yaa (by simp)]at h5;exact oA (bF h5.2) ⟨rfl,h4⟩
  | true=>
   rw[hP,yab rfl]at h5;refine bA (uF (by omega)) (yB ?_);rw[q68,EZ hp x 1 t2 _ hP hfit (h2.mono h4) (h4 _ _ h3) ((hr0.mono h1).mono h4),xA];exact uA rfl (zB (uA rfl (zB ⟨rfl,h4⟩)))
 rw[q37,hk,xA];exact uA rfl (zB (uA rfl (zB ⟨rfl,h1⟩)))
end Go.Proofs
namespace Go.Proofs
open Go Go.Am
section
variable [lC]
variable {t tf:Tr qA}
mutual
/-- the number of parts -/
def qM:sA->Nat
 | .mk _ _ _ args=>1+uT args
def uT:List sA->Nat
 | []=>0
 | x::l=>qM x+uT l
end
mutual
theorem EX:∀(x:sA) (cs:List zA),x.fit->qM x<1000000000000000000->RD t x.d cs->rB yA F 22 [.agg cs] t=some (.int .i64 (qM x:Nat))
 | .mk op name v args,cs,hx,hn,h=>by
  obtain⟨a,b,c,rfl,ha,hb,hc⟩:=vI h;simp only[sA.op,sA.name,sA.v,sA.args]at ha hb hc ⊢;have hx':=hx;unfold sA.fit at hx';have hn':=hn;unfold qM at hn' ⊢;refine dB.2 (w22 ?_);unfold t22 uI uZ;have hlen:=hc.len;rw[ybf]at hlen;refine uA hlen (zB (zC ?_));exact EY args args 1 c 0 hc rfl hx'.2.2.2.2.2 hx'.2.2.2.2.1 hn'
theorem EY:∀(l args:List sA) (n:Nat) (c:zA) (i:Nat),lA t 9 (args.map sA.d) c->args.drop i=l->sA.fits l->args.length<pE->n+uT l<1000000000000000000->jp 22 2 [.int .i64 (n:Int),c,.int .i64 (args.length:Int),.int .i64 (i:Int)] t (fun v t'=>v=.int .i64 ((n+uT l:Nat):Int)/\t'=t)
 | [],args,n,c,i,hc,hd,hok,hsz,hn=>by
  have:=Ld hd;refine j22_2 ?_;unfold zgo uI uG wB rA gC sB uZ uW tN gE;refine bA (jF (by omega)) ?_;exact⟨rfl,rfl⟩
 | x::l,args,n,c,i,hc,hd,hok,hsz,hn=>by
  obtain⟨h1,h2,h3⟩:=Cs hd;unfold pE at hsz;have hok':=hok;unfold sA.fits at hok';unfold uT at hn ⊢;refine j22_2 ?_;obtain⟨pb,po,cs,g1,g2,g3,g4,g5⟩:=lD.at sP (by simp) hc (i:=i) (d:=x.d) (by simp[h1]);unfold zgo uI uG wB rA gC sB uZ uW tN gE;refine oA (pF (by omega)) (uA g1 (yC g2 ?_));rw[mQ];refine fE (rG g5 x.zs) ?_;have hmk:=g5.mk x.zs;have hcs:[zA.int .u8 ((cellsOf cs).i 0),.str ((cellsOf cs).s 1),.int .u8 ((cellsOf cs).i 2),.bool ((cellsOf cs).b 3),(cellsOf cs).v 4,.bool ((cellsOf cs).b 5),(cellsOf cs).v 6,.int .i64 ((cellsOf cs).i 7),(cellsOf cs).v 8]=cs:=hmk
  rw[hcs];refine oA g5.all (yB ?_);rw[q22,EX x cs hok'.1 (by omega) g5,xA];refine zB (zC ?_);rw[wrap_i64 (n:=(n:Int)+(qM x:Nat)) (by omega) (by omega),wrap_i64 (by omega) (by omega),show(i:Int)+1=((i+1:Nat):Int) by omega,show(n:Int)+(qM x:Nat)=((n+qM x:Nat):Int) by omega];have:=EY l args (n+qM x) c (i+1) hc h2 hok'.2 hsz (by omega)
  grind
end
def el24:cL yA 24 54 24:=⟨⟨_,ty24,rfl,rfl⟩,⟨_,ty54,rfl,rfl,by decide,by decide⟩,fun y h=>by rw[ty54]at h;cases h;rfl⟩
abbrev z10h:List zA:=[(.int .u8 0),(.str []),(.int .u8 0),(.bool false),.nilslice,(.bool false),.nilslice,(.int .i64 0),.nilslice,(.int .u8 0)]
section
variable {p:qD}{b m:Nat}
end
end
section
variable [lC]
variable {t tf:Tr qA}
def resK (op nm a b c:Nat):Nat:=bif Nat.beq (lS op nm a b c).2 0 then(lS op nm a b c).1 else 0
def c129 (a:List zA):Option zA:=aM nC nC (zY yA (fo 129) (ko 129) 129 (ao 129) a)
def c130 (a:List zA):Option zA:=aM nC nC (zY yA (fo 130) (ko 130) 130 (ao 130) a)
def c87 (f:Nat)(a:List zA):Option zA:=match a with
 | [x,y,z]=>bif Nat.beq f 129 then c129 [x,y,z]else none
 | [x,y,z,w,o]=>bif Nat.beq f 130 then c130 [x,y,z,w,o]else none
 | _=>none
def j87 (i:Nat)(a:List zA):Option zA:=bif Nat.beq i 83 then(match Fdzx (ptsT yA (fo 87) (ko 87) 87 (ao 87)) 83 a with
 | [x]=>aM c87 nC x
 | _=>none)else none
def r87 (op:Nat)(a b c o:Int):Option zA:=aM c87 j87 (zY yA (fo 87) (ko 87) 87 (ao 87) [.int .u8 op,.int .u8 a,.int .u8 b,.int .u8 c,.int .u8 o])
theorem zfq{f:Nat}{a:List zA}{v:zA}{R:aB}(h:c87 f a=some v)(hR:R v t):Wq yA F rF f a t R:=by
 unfold c87 at h;split at h
 ·rename_i x y z
  cases hf:Nat.beq f 129 with
  | false=>simp_all
  | true=>
   rw[hf,cond_true]at h;have:f=129:=oC.1 hf;subst this;have e:rB yA F 129 [x,y,z] t=some v:=dB.2 (Aj (fA 129) (by kernel_rfl) (Qn h));rw[q129,e,xA];exact hR
 ·rename_i x y z w o
  cases hf:Nat.beq f 130 with
  | false=>simp_all
  | true=>
   rw[hf,cond_true]at h;have:f=130:=oC.1 hf;subst this;have e:rB yA F 130 [x,y,z,w,o] t=some v:=dB.2 (Aj (fA 130) (by kernel_rfl) (Qn h));rw[q130,e,xA];exact hR
 ·cases h
theorem j87_ok{i:Nat}{a:List zA}{v:zA}{R:aB}(h:j87 i a=some v)(hR:R v t):Jq yA F 87 i a t R:=by
 unfold j87 at h
 cases hf:Nat.beq i 83 with
 | false=>simp_all
 | true=>
  rw[hf,cond_true]at h;have:i=83:=oC.1 hf;subst this;split at h
  ·rename_i x hx;exact zfv (fA 87) hx (Qo (fun f a u R hc hR=>zfq hc hR) (fun f a u R hc _=>by cases hc) x h hR)
  ·cases h
theorem zeb{op:Nat}{a b c o:Int}{v:zA}(h:r87 op a b c o=some v):rB yA F 87 [.int .u8 op,.int .u8 a,.int .u8 b,.int .u8 c,.int .u8 o] t=some v:=
 dB.2 (Aj (fA 87) (by kernel_rfl) (Qo (fun f a u R hc hR=>zfq hc hR) (fun f a u R hc hR=>j87_ok hc hR) _ h ⟨rfl,rfl⟩))
def s6:List Nat:=[1,2,3,4,5,6]
def tups:Nat->List (Nat × Nat × Nat)
 | 0=>[(0,0,0)]
 | 1=>s6.map fun a=>(a,0,0)
 | 2=>s6.flatMap fun a=>s6.map fun b=>(a,b,0)
 | _=>s6.flatMap fun a=>s6.flatMap fun b=>s6.map fun c=>(a,b,c)
def gI (x:Option zA):Option zA:=ob x fun v=>ob (jZ .u8 v) fun n=>some (.int .u8 n)
def resF (a b c o:Int)(op:Nat):Option zA:=match op with
 | 2=>some (.int .u8 4)
 | 3=>(bif tA a 4 then some (.int .u8 o)else some (.int .u8 0))
 | 4=>(bif tA a 4 then some (.int .u8 1)else some (.int .u8 0))
 | 5=>(bif tA a 4 then some (.int .u8 o)else some (.int .u8 0))
 | 6=>(bif tA a 2 then(bif tA b 2 then some (.int .u8 2)else(bif tA b 0 then some (.int .u8 2)else some (.int .u8 0)))else some (.int .u8 0))
 | 7=>(gI (bif tA a 4 then(bif tA b 5 then some (.int .u8 4)else(bif tA b 6 then some (.int .u8 4)else(bif tA a b then(bif !tA a 1 then(bif !tA a 4 then some (.int .u8 a)else some (.int .u8 0))else some (.int .u8 0))else some (.int .u8 0))))else(bif tA a b then(bif !tA a 1 then(bif !tA a 4 then some (.int .u8 a)else some (.int .u8 0))else some (.int .u8 0))else some (.int .u8 0))))
 | 8=>(gI (bif tA a 4 then(bif tA b 5 then some (.int .u8 4)else(bif tA b 6 then some (.int .u8 4)else(bif tA a 4 then(bif tA b 4 then some (.int .u8 5)else(bif tA a b then(bif !tA a 1 then(bif !tA a 4 then some (.int .u8 a)else some (.int .u8 0))else some (.int .u8 0))else some (.int .u8 0)))else(bif tA a b then(bif !tA a 1 then(bif !tA a 4 then some (.int .u8 a)else some (.int .u8 0))else some (.int .u8 0))else some (.int .u8 0)))))else(bif tA a 4 then(bif tA b 4 then some (.int .u8 5)else(bif tA a b then(bif !tA a 1 then(bif !tA a 4 then some (.int .u8 a)else some (.int .u8 0))else some (.int .u8 0))else some (.int .u8 0)))else(bif tA a b then(bif !tA a 1 then(bif !tA a 4 then some (.int .u8 a)else some (.int .u8 0))else some (.int .u8 0))else some (.int .u8 0)))))
 | 9=>(gI (bif tA a 2 then(bif tA b 2 then some (.int .u8 2)else(bif tA a 2 then(bif tA b 3 then some (.int .u8 3)else(bif tA a 3 then(bif tA b 2 then some (.int .u8 3)else some (.int .u8 0))else some (.int .u8 0)))else(bif tA a 3 then(bif tA b 2 then some (.int .u8 3)else some (.int .u8 0))else some (.int .u8 0))))else(bif tA a 2 then(bif tA b 3 then some (.int .u8 3)else(bif tA a 3 then(bif tA b 2 then some (.int .u8 3)else some (.int .u8 0))else some (.int .u8 0)))else(bif tA a 3 then(bif tA b 2 then some (.int .u8 3)else some (.int .u8 0))else some (.int .u8 0)))))
 | 10=>(gI (bif tA a 2 then(bif tA b 2 then some (.int .u8 2)else(bif tA a 3 then(bif tA b 3 then some (.int .u8 2)else(bif tA a 3 then(bif tA b 2 then some (.int .u8 3)else some (.int .u8 0))else some (.int .u8 0)))else(bif tA a 3 then(bif tA b 2 then some (.int .u8 3)else some (.int .u8 0))else some (.int .u8 0))))else(bif tA a 3 then(bif tA b 3 then some (.int .u8 2)else(bif tA a 3 then(bif tA b 2 then some (.int .u8 3)else some (.int .u8 0))else some (.int .u8 0)))else(bif tA a 3 then(bif tA b 2 then some (.int .u8 3)else some (.int .u8 0))else some (.int .u8 0)))))
 | 11=>(bif tA a b then(bif !tA a 1 then some (.int .u8 a)else some (.int .u8 0))else some (.int .u8 0))
 | 12=>(bif tA a b then(bif !tA a 1 then some (.int .u8 a)else some (.int .u8 0))else some (.int .u8 0))
 | 13=>(bif tA a b then(bif !tA a 1 then some (.int .u8 1)else some (.int .u8 0))else some (.int .u8 0))
 | 14=>(bif tA a b then some (.int .u8 1)else some (.int .u8 0))
 | 15=>(bif tA a 1 then(bif tA b 1 then some (.int .u8 1)else some (.int .u8 0))else some (.int .u8 0))
 | 16=>(bif tA a 1 then(bif tA b 1 then some (.int .u8 1)else some (.int .u8 0))else some (.int .u8 0))
 | 17=>(bif tA a 1 then some (.int .u8 1)else some (.int .u8 0))
 | 18=>(bif tA a 1 then(bif tA b c then some (.int .u8 b)else some (.int .u8 0))else some (.int .u8 0))
 | 19=>(gI (bif tA a b then(bif tA a 2 then some (.int .u8 a)else(bif tA a 3 then some (.int .u8 a)else some (.int .u8 0)))else some (.int .u8 0)))
 | 20=>(gI (bif tA a 4 then(bif tA b 4 then some (.int .u8 6)else some (.int .u8 0))else some (.int .u8 0)))
 | 21=>(gI (bif tA a 4 then(bif tA b 4 then(bif tA o 2 then some (.int .u8 2)else some (.int .u8 0))else some (.int .u8 0))else some (.int .u8 0)))
 | 22=>(gI (bif tA a 4 then(bif tA b 4 then(bif tA c 6 then(bif tA o 3 then some (.int .u8 3)else some (.int .u8 0))else some (.int .u8 0))else some (.int .u8 0))else some (.int .u8 0)))
 | 23=>(gI (bif tA a 4 then(bif tA b 4 then some (.int .u8 2)else some (.int .u8 0))else some (.int .u8 0)))
 | 24=>(gI (bif tA a 2 then some (.int .u8 6)else some (.int .u8 0)))
 | 25=>(gI (bif tA a 3 then some (.int .u8 2)else(bif tA a 5 then some (.int .u8 2)else(bif tA a 6 then some (.int .u8 2)else some (.int .u8 0)))))
 | 26=>(gI (bif tA a 4 then some (.int .u8 4)else some (.int .u8 0)))
 | _=>none
theorem res_f(a b c o:Int):([2,3,4,5,6,7,8,9,10,11,12,13,14,15,16,17,18,19,20,21,22,23,24,25,26].map fun op=>r87 op a b c o)=[2,3,4,5,6,7,8,9,10,11,12,13,14,15,16,17,18,19,20,21,22,23,24,25,26].map fun op=>resF a b c o op:=by kernel_rfl
def opsA:List (Nat × Nat):=[(2,0),(3,1),(4,1),(5,1),(6,1),(6,2),(7,2),(8,2),(9,2),(10,2),(11,2),(12,2),(13,2),(14,2),(15,2),(16,2),(17,1),(18,3),(19,2),(20,2),(21,2),(22,3),(23,2),(24,1),(25,1),(26,1)]
def isR (x:Option zA)(n:Nat):Bool:=match x with
 | some (.int .u8 (.ofNat m))=>Nat.beq m n
 | _=>false
theorem isR_ok{x:Option zA}{n:Nat}(h:isR x n=true):x=some (.int .u8 (n:Int)):=by
 unfold isR at h;split at h
 all_goals simp_all
def zgy:(opsA.all fun p=>(0::s6).all fun o=>(tups p.2).all fun x=>isR (resF (x.1:Nat) (x.2.1:Nat) (x.2.2:Nat) (o:Nat) p.1) (resK p.1 o x.1 x.2.1 x.2.2))=true:=by kernel_rfl
end
section
variable [lC]
variable {t tf:Tr qA}
section
variable {p:qD}{name:List Nat}{u1 u2 u3:zA}
theorem Gf{b o k:Nat}(hk:k<3):aF yA 44 k (.ptr b o)=some (.ptr b (o+k)):=by
 have:k=0\/k=1\/k=2:=by omega
 unfold aF Bf;rw[Bj,pA];rcases this with e | e | e<;>subst e<;>rfl
def fa49{b o k:Nat}(hk:k<3):aF yA 49 k (.ptr b o)=some (.ptr b (o+k)):=by
 have:k=0\/k=1\/k=2:=by omega
 unfold aF Bf;rw[Bi,pA];rcases this with e | e | e<;>subst e<;>rfl
def Ru{α:Type}(l:List α)(f:α->Bool)(r:Option α)(n:Int):Prop:=(r=none/\n = -1)\/∃(k:Nat) (d:α),l[k]?=some d/\f d=true/\r=some d/\n=(k:Int)
theorem SO{l:List nE}(hr:lA t 3 (l.map nE.d) u1)(hlen:l.length<1125899906842624):∀(k i:Nat),i+k=l.length->∃n,jp 29 2 [.str name,.int .i64 (i:Int),.str p.name,u1,u2,u3] t (fun v t'=>v=.int .i64 n/\t'=t)/\Ru l (fun d=>fC d.name name) ((l.drop i).find? fun d=>fC d.name name) n:=by
 have hl:cA u1=some (.int .i64 (l.length:Int)):=by rw[hr.len,ybf]
 intro k;induction k with
 | zero=>
  intro i hi;refine⟨-1,zh1 ?_,.inl ⟨by simp_all,rfl⟩⟩;unfold Ms uI uS wB rA bB sB uZ;exact uA hl (zB (bA (jF (by omega)) ⟨rfl,rfl⟩))
 | succ k ih=>
  intro i hi;have hlt:i<l.length:=by omega
  have hx:l[i]?=some l[i]:=ybd hlt;obtain⟨b,off,cs,g1,g2,g3,g4,g5⟩:=lD.at mW (by simp) hr (i:=i) (d:=l[i].d) (by simp[hx]);have hcs:=wT g5;subst hcs;have ld:vC yA 9 ⟨0,t⟩ (.ptr b (off+0))=some (.str l[i].name):=g3.load1 (j:=0) vL rfl rfl;rw[ybl hlt,List.find?_cons]
  cases he:fC l[i].name name with
  | true=>
   refine⟨i,zh1 ?_,.inr ⟨i,l[i],hx,he,rfl,rfl⟩⟩;unfold Ms uI uS wB rA bB sB uZ;exact uA hl (zB (oA (pF (by omega)) (uA g1 (uA (Gf (by omega)) (yC ld (sD (oA he ⟨rfl,rfl⟩)))))))
  | false=>
   obtain⟨n,h1,h2⟩:=ih (i+1) (by omega);refine⟨n,zh1 ?_,h2⟩;unfold Ms uI uS wB rA bB sB uZ;refine uA hl (zB (oA (pF (by omega)) (uA g1 (uA (Gf (by omega)) (yC ld (sD (bA (by grind) (zC ?_))))))))
   grind [wrap_i64]
def zg0{l:List nE}(hr:lA t 3 (l.map nE.d) u1)(hlen:l.length<1125899906842624):∃n,rB yA F 29 [.agg [.str p.name,u1,u2,u3],.str name] t=some (.int .i64 n)/\Ru l (fun d=>fC d.name name) (Gm l name) n:=by
 obtain⟨n,h1,h2⟩:=SO (p:=p) (name:=name) (u2:=u2) (u3:=u3) hr hlen l.length 0 (by omega);rw[ycr]at h2;refine⟨n,dB.2 (w29 ?_),h2⟩;unfold t29 uZ;exact zC h1
theorem RN{l:List wD}(hr:lA t 3 (l.map wD.d) u2)(hlen:l.length<1125899906842624):∀(k i:Nat),i+k=l.length->∃n,jp 30 2 [.str name,.int .i64 (i:Int),.str p.name,u1,u2,u3] t (fun v t'=>v=.int .i64 n/\t'=t)/\Ru l (fun d=>fC d.name name) ((l.drop i).find? fun d=>fC d.name name) n:=by
 have hl:cA u2=some (.int .i64 (l.length:Int)):=by rw[hr.len,ybf]
 intro k;induction k with
 | zero=>
  intro i hi;refine⟨-1,zh0 ?_,.inl ⟨by simp_all,rfl⟩⟩;unfold Mr uI uS wB rA bB sB uZ;exact uA hl (zB (bA (jF (by omega)) ⟨rfl,rfl⟩))
 | succ k ih=>
  intro i hi;have hlt:i<l.length:=by omega
  have hx:l[i]?=some l[i]:=ybd hlt;obtain⟨b,off,cs,g1,g2,g3,g4,g5⟩:=lD.at nW (by simp) hr (i:=i) (d:=l[i].d) (by simp[hx]);obtain⟨rows,hcs,_⟩:=yZ g5;subst hcs;have ld:vC yA 9 ⟨0,t⟩ (.ptr b (off+0))=some (.str l[i].name):=g3.load1 (j:=0) vL rfl rfl;rw[ybl hlt,List.find?_cons]
  cases he:fC l[i].name name with
  | true=>
   refine⟨i,zh0 ?_,.inr ⟨i,l[i],hx,he,rfl,rfl⟩⟩;unfold Mr uI uS wB rA bB sB uZ;exact uA hl (zB (oA (pF (by omega)) (uA g1 (uA (fa49 (by omega)) (yC ld (sD (oA he ⟨rfl,rfl⟩)))))))
  | false=>
   obtain⟨n,h1,h2⟩:=ih (i+1) (by omega);refine⟨n,zh0 ?_,h2⟩;unfold Mr uI uS wB rA bB sB uZ;refine uA hl (zB (oA (pF (by omega)) (uA g1 (uA (fa49 (by omega)) (yC ld (sD (bA (by grind) (zC ?_))))))))
   grind [wrap_i64]
def zgv{l:List wD}(hr:lA t 3 (l.map wD.d) u2)(hlen:l.length<1125899906842624):∃n,rB yA F 30 [.agg [.str p.name,u1,u2,u3],.str name] t=some (.int .i64 n)/\Ru l (fun d=>fC d.name name) (kQ l name) n:=by
 obtain⟨n,h1,h2⟩:=RN (p:=p) (name:=name) (u1:=u1) (u3:=u3) hr hlen l.length 0 (by omega);rw[ycr]at h2;refine⟨n,dB.2 (w30 ?_),h2⟩;unfold t30 uZ;exact zC h1
end
abbrev nF:T:=.ret (.tup [.int .u8 0,.bool false])
def zD (u1:zA)(n:Int):T:=
 .opt (bC yA 22 u1 (.int .i64 n)) fun a=>.opt (aF yA 44 1 a) fun a=>.light (fun m=>vC yA 5 ⟨0,m⟩ a) fun a=>.asI .u8 a fun n13=>.ite (kB n13 1) nF
 (.opt (bC yA 22 u1 (.int .i64 n)) fun a=>.opt (aF yA 44 1 a) fun a=>.light (fun m=>vC yA 5 ⟨0,m⟩ a) fun a=>.asI .u8 a fun n17=>.ite (kB 6 n17) nF
 (.opt (bC yA 22 u1 (.int .i64 n)) fun a=>.opt (aF yA 44 1 a) fun a=>.light (fun m=>vC yA 5 ⟨0,m⟩ a) fun a=>.asI .u8 a fun n21=>.ret (.tup [.int .u8 n21,.bool true])))
def fD (u1:zA)(n:Int)(K:Bool->T):T:=.opt (bC yA 22 u1 (.int .i64 n)) fun a=>.opt (aF yA 44 2 a) fun a=>.light (fun m=>vC yA 4 ⟨0,m⟩ a) fun a=>.asB a K
def nmT (x:Bool)(p0:List Nat)(u1 u2 u3:zA)(name:List Nat):T:=
 .call 29 [.agg [.str p0,u1,u2,u3],.str name] fun a=>.asI .i64 a fun n=>.ite (kB n 0) nF (fD u1 n fun b=>.ite b
  (bif x then nF else fD u1 n fun b=>.ite (!b) nF (zD u1 n))
  (fD u1 n fun b=>.ite (!b) (bif x then zD u1 n else nF) (zD u1 n)))
def tbT (u2:zA)(n:Int)(g:Bool->Bool):T:=.opt (bC yA 23 u2 (.int .i64 n)) fun a=>.opt (aF yA 49 1 a) fun a=>.light (fun m=>vC yA 4 ⟨0,m⟩ a) fun a=>.asB a fun b=>.ret (.tup [.int .u8 0,.bool (g b)])
def tmT (x:Bool)(p0:List Nat)(u1 u2 u3:zA)(name:List Nat)(c:zA):T:=
 .call 30 [.agg [.str p0,u1,u2,u3],.str name] fun a=>.asI .i64 a fun n=>.ite (kB n 0) nF
  (bif x then .opt (cA c) fun a=>.asI .i64 a fun m=>.ite (tA m 2) (tbT u2 n fun b=>b) (tbT u2 n fun b => !b)else tbT u2 n fun b => !b)
def Bd (p0:List Nat)(u1 u2 u3:zA)(op:Nat)(name:List Nat)(k:Int)(n1:Bool)(a:zA)(n2:Bool)(b:zA)(i:Int)(c:zA)(t:Tr qA)(Q:aB):Prop:=
 wp 86 (zY yA (fo 86) (ko 86) 86 (ao 86) [.agg [.str p0,u1,u2,u3],.agg [.int .u8 op,.str name,.int .u8 k,.bool n1,a,.bool n2,b,.int .i64 i,c]]) t Q
section
variable {p0:List Nat}{u1 u2 u3:zA}{name:List Nat}{k:Int}{n1:Bool}{a:zA}{n2:Bool}{b:zA}{i:Int}{c:zA}{Q:aB}
def n86_1:Bd p0 u1 u2 u3 1 name k n1 a n2 b i c t Q=Q (.tup [.int .u8 k,.bool true]) t:=by kernel_rfl
def n86_2:([2,7,8,9,10,11,12,13,14,15,16,17,18,19,20,24,25,26].map fun op=>Bd p0 u1 u2 u3 op name k n1 a n2 b i c t Q)=[2,7,8,9,10,11,12,13,14,15,16,17,18,19,20,24,25,26].map fun(_:Nat)=>Q (.tup [.int .u8 0,.bool true]) t:=by kernel_rfl
def n86_3:([3,4,21,22].map fun op=>Bd p0 u1 u2 u3 op name k n1 a n2 b i c t Q)=[3,4,21,22].map fun(_:Nat)=>wp 86 (nmT false p0 u1 u2 u3 name) t Q:=by kernel_rfl
def n86_5:Bd p0 u1 u2 u3 5 name k n1 a n2 b i c t Q=wp 86 (nmT true p0 u1 u2 u3 name) t Q:=by kernel_rfl
def n86_6:Bd p0 u1 u2 u3 6 name k n1 a n2 b i c t Q=wp 86 (tmT true p0 u1 u2 u3 name c) t Q:=by kernel_rfl
def n86_23:Bd p0 u1 u2 u3 23 name k n1 a n2 b i c t Q=wp 86 (tmT false p0 u1 u2 u3 name c) t Q:=by kernel_rfl
end
end
section
variable [lC]
variable {t tf:Tr qA}
section
variable {p:qD}{name:List Nat}{u1 u2 u3:zA}{Q:aB}
theorem zio{d:nE}{k:Nat}{K:Bool->T}(hr:lA t 3 (p.defs.map nE.d) u1)(hd:p.defs[k]?=some d)(hK:wp 86 (K d.fact) t Q):wp 86 (fD u1 (k:Nat) K) t Q:=by
 obtain⟨b,off,cs,g1,g2,g3,g4,g5⟩:=lD.at mW (by simp) hr (i:=k) (d:=d.d) (by simp[hd]);have hcs:=wT g5;subst hcs;have ld:vC yA 4 ⟨0,t⟩ (.ptr b (off+2))=some (.bool d.fact):=g3.load1 (j:=2) ty4 rfl rfl
 grind [fD,uA,Gf,yC,rC]
def zD_ok{d:nE}{k:Nat}(hr:lA t 3 (p.defs.map nE.d) u1)(hd:p.defs[k]?=some d)(hK:Q (if 1<=d.kind/\d.kind<=6 then .tup [.int .u8 (d.kind:Nat),.bool true]else .tup [.int .u8 0,.bool false]) t):wp 86 (zD u1 (k:Nat)) t Q:=by
 obtain⟨b,off,cs,g1,g2,g3,g4,g5⟩:=lD.at mW (by simp) hr (i:=k) (d:=d.d) (by simp[hd]);have hcs:=wT g5;subst hcs;have ld:vC yA 5 ⟨0,t⟩ (.ptr b (off+1))=some (.int .u8 (d.kind:Nat)):=g3.load1 (j:=1) xI rfl rfl;unfold zD;refine uA g1 (uA (Gf (by omega)) (yC ld (zB ?_)));by_cases h1:1<=d.kind
 ·refine bA (jF (by omega)) (uA g1 (uA (Gf (by omega)) (yC ld (zB ?_))));by_cases h2:d.kind<=6
  ·rw[yab ⟨h1,h2⟩]at hK;exact bA (jF (by omega)) (uA g1 (uA (Gf (by omega)) (yC ld (zB hK))))
  ·rw[yaa (fun h=>h2 h.2)]at hK;exact oA (pF (by omega)) hK
 ·rw[yaa (fun h=>h1 h.1)]at hK;exact oA (pF (by omega)) hK
def nmR (p:qD)(op:Nat)(name:List Nat)(vk n:Nat):Nat × Bool:=if op=1 then(vk,true)else bif (tI p op name n).2 then((tI p op name n).1,true)else(0,false)
def Fi (r:Nat × Bool):zA:=.tup [.int .u8 (r.1:Nat),.bool r.2]
theorem zed{x:Bool}{op vk n:Nat}(hp:p.fit)(hr:lA t 3 (p.defs.map nE.d) u1)(hop:op=3\/op=4\/op=21\/op=22\/op=5)(hx:x=decide (op=5))(hQ:Q (Fi (nmR p op name vk n)) t):wp 86 (nmT x p.name u1 u2 u3 name) t Q:=by
 have hlen:=hp.ndefs;unfold pE at hlen;obtain⟨m,h1,h2⟩:=zg0 (p:=p) (name:=name) (u2:=u2) (u3:=u3) hr hlen;have ho1:op≠1:=by omega
 unfold nmR at hQ;rw[yaa ho1]at hQ;unfold nmT;refine yB ?_;rw[q29,h1,xA];refine zB ?_;rcases h2 with⟨e1,rfl⟩ | ⟨k,d,hd,hf,e1,rfl⟩
 ·have hN:tI p op name n=(0,false):=by
   unfold tI;rw[yab hop,e1]
  rw[hN]at hQ;exact oA rfl hQ
 ·refine bA (jF (by omega)) ?_;have hN:tI p op name n=(d.kind,jH d.fact (!x)&&(decide (1<=d.kind)&&decide (d.kind<=6))):=by
   unfold tI;rw[yab hop,e1,hx]
  rw[hN]at hQ;have no:(jH d.fact (!x)&&(decide (1<=d.kind)&&decide (d.kind<=6)))=false->Q (.tup [.int .u8 0,.bool false]) t:=fun h=>by
   rw[h]at hQ;exact hQ
  have fF:jH d.fact (!x)=true->wp 86 (zD u1 (k:Nat)) t Q:=fun hfx=>zD_ok hr hd (by
   by_cases hk:1<=d.kind/\d.kind<=6
   ·rw[yab hk];rw[hfx,decide_eq_true hk.1,decide_eq_true hk.2]at hQ;exact hQ
   grind)
  refine zio hr hd ?_
  cases hfx:d.fact with
  | true=>
   refine oA rfl ?_
   cases x with
   | true=>exact no (by rw[hfx];rfl)
   | false=>
    refine zio hr hd ?_;rw[hfx];exact bA (by simp) (fF (by rw[hfx];rfl))
  | false=>
   refine bA (by simp) (zio hr hd ?_);rw[hfx];refine oA rfl ?_
   cases x with
   | true=>exact fF (by rw[hfx];rfl)
   | false=>exact no (by rw[hfx];rfl)
theorem tbT_ok{d:wD}{k:Nat}{g:Bool->Bool}(hr:lA t 3 (p.tables.map wD.d) u2)(hd:p.tables[k]?=some d)(hK:Q (.tup [.int .u8 0,.bool (g d.two)]) t):wp 86 (tbT u2 (k:Nat) g) t Q:=by
 obtain⟨b,off,cs,g1,g2,g3,g4,g5⟩:=lD.at nW (by simp) hr (i:=k) (d:=d.d) (by simp[hd]);obtain⟨rows,hcs,_⟩:=yZ g5;subst hcs;have ld:vC yA 4 ⟨0,t⟩ (.ptr b (off+1))=some (.bool d.two):=g3.load1 (j:=1) ty4 rfl rfl;unfold tbT;exact uA g1 (uA (fa49 (by omega)) (yC ld (rC hK)))
theorem zdn{x:Bool}{op vk n:Nat}{c:zA}(hp:p.fit)(hr:lA t 3 (p.tables.map wD.d) u2)(hop:op=6\/op=23)(hx:x=decide (op=6))(hc:cA c=some (.int .i64 (n:Int)))(hQ:Q (Fi (nmR p op name vk n)) t):wp 86 (tmT x p.name u1 u2 u3 name c) t Q:=by
 have hlen:=hp.ntables;unfold pE at hlen;obtain⟨m,h1,h2⟩:=zgv (p:=p) (name:=name) (u1:=u1) (u3:=u3) hr hlen;have ho1:op≠1:=by omega
 unfold nmR at hQ;rw[yaa ho1]at hQ;unfold tmT;refine yB ?_;rw[q30,h1,xA];refine zB ?_;have hN:tI p op name n=(if op=6 then(match kQ p.tables name with | some x=>(0,jH x.two (decide (n=2))) | none=>(0,false))else(match kQ p.tables name with | some x=>(0,!x.two) | none=>(0,false))):=by
  grind [tI]
 have flag:∀b:Bool,tI p op name n=(0,b)->Q (.tup [.int .u8 0,.bool b]) t:=fun b h=>by
  rw[h]at hQ;cases b<;>exact hQ
 rcases h2 with⟨e1,rfl⟩ | ⟨k,d,hd,hf,e1,rfl⟩
 ·refine oA rfl (flag false ?_);rw[hN,e1];split<;>rfl
 grind [bA,jF,uA,zB,oA,bF,tbT_ok,lR,uF]
theorem rnm_ok{op vk n:Nat}{n1 n2:Bool}{a b c:zA}{i:Int}(hp:p.fit)(hr:RD t p.d [.str p.name,u1,u2,u3])(h27:op<27)(h0:op≠0)(hc:cA c=some (.int .i64 (n:Int))) :
  rB yA F 86 [.agg [.str p.name,u1,u2,u3],.agg [.int .u8 (op:Nat),.str name,.int .u8 (vk:Nat),.bool n1,a,.bool n2,b,.int .i64 i,c]] t=some (Fi (nmR p op name vk n)):=by
 obtain⟨x1,x2,x3,e,hd,ht,_⟩:=wO hr;cases e;refine dB.2 (Aj (pure:=rF) (fA 86) (by kernel_rfl) ?_);show Bd p.name u1 u2 u3 op name (vk:Nat) n1 a n2 b i c t (fun w m=>w=Fi (nmR p op name vk n)/\m=t);by_cases h1:op=1
 ·subst h1;rw[n86_1];exact⟨rfl,rfl⟩
 by_cases h5:op=5
 ·subst h5;rw[n86_5];exact zed hp hd (by omega) rfl ⟨rfl,rfl⟩
 by_cases h3:op=3\/op=4\/op=21\/op=22
 ·rw[List.map_inj_left.1 (n86_3 (p0:=p.name) (u1:=u1) (u2:=u2) (u3:=u3) (name:=name) (k:=(vk:Nat)) (n1:=n1) (a:=a) (n2:=n2) (b:=b) (i:=i) (c:=c) (t:=t) (Q:=fun w m=>w=Fi (nmR p op name vk n)/\m=t)) op (by grind)];exact zed hp hd (by omega) (decide_eq_false h5).symm ⟨rfl,rfl⟩
 by_cases h6:op=6
 ·subst h6;rw[n86_6];exact zdn hp ht (by omega) rfl hc ⟨rfl,rfl⟩
 by_cases h23:op=23
 ·subst h23;rw[n86_23];exact zdn hp ht (by omega) rfl hc ⟨rfl,rfl⟩
 rw[List.map_inj_left.1 (n86_2 (p0:=p.name) (u1:=u1) (u2:=u2) (u3:=u3) (name:=name) (k:=(vk:Nat)) (n1:=n1) (a:=a) (n2:=n2) (b:=b) (i:=i) (c:=c) (t:=t) (Q:=fun w m=>w=Fi (nmR p op name vk n)/\m=t)) op (by simp;omega)];refine⟨?_,rfl⟩;have hN:tI p op name n=(0,true):=by
  unfold tI;rw[yaa (by omega),yaa h6,yaa h23]
 unfold nmR;rw[yaa h1,hN];rfl
end
end
section
variable [lC]
variable {t tf:Tr qA}
def Bv (ks:List Nat):List Nat:=[ks.getD 0 0,ks.getD 1 0,ks.getD 2 0]
def zbw{ks:List Nat}{k:Nat}(h:ks.length<3):(Bv ks).set ks.length k=Bv (ks++[k]):=by
 match ks,h with
 | [],_=>rfl
 | [x],_=>rfl
 | [x,y],_=>rfl
theorem lit3{b:Nat}(hb:t.get b=none):∃H',oG yA 59 3 [(0,.int .u8 0),(1,.int .u8 0),(2,.int .u8 0)] ⟨b,t⟩=some (.slice b 0 3 3,H')/\tF H'.t b .u8 (Bv [])/\xB t H'.t:=by
 refine⟨yF ⟨b,t⟩ [.int .u8 0,.int .u8 0,.int .u8 0] none,?_,⟨Tr.ofList [.int .u8 0,.int .u8 0,.int .u8 0],?_,fun j u hj=>?_⟩,?_⟩
 ·unfold oG;rw[xM,pA];simp only[jD.asSlice,pA];rw[xI,pA];rfl
 ·show(t.set b _).get b=_;rw[Tr.get_set,yab rfl];rfl
 ·rw[Tr.get_ofList];have hl:=(ybc.1 hj).1;have:j=0\/j=1\/j=2:=by grind [Bv]
  rcases this with e | e | e<;>subst e <;> (grind [Bv])
 ·intro c u hc;show(t.set b _).get c=_
  grind [Tr.get_set]
theorem zb5{op a b c k:Nat}(h:vX op a b c=some k):∃e∈nZ,e.op=op/\e.k=k:=by
 unfold vX at h
 cases hf:nZ.find? fun x=>decide (op=x.op)&&(decide (a=x.a)&&(decide (b=x.b)&&(decide (c=x.c)&&true)))with
 | none=>grind
 | some e=>
  grind
theorem zhu:∀e∈nZ,1<=e.k/\e.k<=6:=by decide
theorem look_b{op a b c k:Nat}(h:vX op a b c=some k):1<=k/\k<=6:=by
 grind [zb5,zhu]
theorem zfm{op nm a b c:Nat}(hnm:op=3\/op=5->1<=nm/\nm<=6):((lS op nm a b c).2=0->1<=(lS op nm a b c).1/\(lS op nm a b c).1<=6)/\((lS op nm a b c).2≠0->lS op nm a b c=(0,142)):=by
 grind [lS,look_b]
theorem FT{p:qD}{op:Nat}{name:List Nat}{n:Nat}(h:(tI p op name n).2=true):(tI p op name n).1<=6/\(op=3\/op=5->1<=(tI p op name n).1):=by
 grind [tI]
theorem EG{v:lE}(h:eH v=true):1<=v.kind/\v.kind<=6:=by
 grind [eH]
def zad:((List.range 27).all fun op=>(List.range 4).all fun n=>Nat.beq op 1||(Nat.beq (iC op).style 0||(!(Nat.ble (iC op).least n&&Nat.ble n (iC op).most)||opsA.any fun q=>Nat.beq q.1 op&&Nat.beq q.2 n)))=true:=by kernel_rfl
def most3:((List.range 27).all fun op=>Nat.ble (iC op).most 3)=true:=by kernel_rfl
theorem zac{op n:Nat}{name:List Nat}(h:bK op name n=true)(h1:op≠1):(op,n)∈opsA:=by
 unfold bK at h;simp only[ybb,decide_eq_true_eq,ycp,decide_eq_false_iff_not]at h;obtain⟨⟨⟨⟨h27,hs⟩,hl⟩,hm⟩,_⟩:=h;have h3:=mE.1 (ycb.1 most3 op (List.mem_range.2 h27));have:=ycb.1 (ycb.1 zad op (List.mem_range.2 h27)) n (List.mem_range.2 (by omega))
 grind [oC,mE]
theorem Cc{a:Nat}(h:1<=a/\a<=6):a∈s6:=by
 have:a=1\/a=2\/a=3\/a=4\/a=5\/a=6:=by omega
 rcases this with e | e | e | e | e | e<;>rw[e]<;>simp[s6]
def zau{ks:List Nat}(h:∀k∈ks,1<=k/\k<=6)(h3:ks.length<=3):(ks.getD 0 0,ks.getD 1 0,ks.getD 2 0)∈tups ks.length:=by
 match ks,h3 with
 | [],_=>simp[tups]
 | [a],_=>exact yaq.2 ⟨a,Cc (h a (by simp)),rfl⟩
 | [a,b],_=>exact List.mem_flatMap.2 ⟨a,Cc (h a (by simp)),yaq.2 ⟨b,Cc (h b (by simp)),rfl⟩⟩
 | [a,b,c],_=>exact List.mem_flatMap.2 ⟨a,Cc (h a (by simp)),List.mem_flatMap.2 ⟨b,Cc (h b (by simp)),yaq.2 ⟨c,Cc (h c (by simp)),rfl⟩⟩⟩
def res_1(a b c:Nat)(o:Int):r87 1 a b c o=some (.int .u8 o):=by kernel_rfl
theorem SA{op nm:Nat}{name:List Nat}{ks:List Nat}(h:bK op name ks.length=true)(h1:op≠1)(hk:∀k∈ks,1<=k/\k<=6)(h3:ks.length<=3)(hnm:nm<=6) :
  rB yA F 87 [.int .u8 (op:Nat),.int .u8 (ks.getD 0 0:Nat),.int .u8 (ks.getD 1 0:Nat),.int .u8 (ks.getD 2 0:Nat),.int .u8 (nm:Nat)] t=some (.int .u8 (resK op nm (ks.getD 0 0) (ks.getD 1 0) (ks.getD 2 0):Nat)):=by
 have hm:=zac h h1;have hop:op∈[2,3,4,5,6,7,8,9,10,11,12,13,14,15,16,17,18,19,20,21,22,23,24,25,26]:=by
  have:(opsA.all fun q=>[2,3,4,5,6,7,8,9,10,11,12,13,14,15,16,17,18,19,20,21,22,23,24,25,26].contains q.1)=true:=by decide
  grind
 have ho:nm∈(0::s6):=by
  grind [Cc]
 have ht:=ycb.1 (ycb.1 (ycb.1 zgy _ hm) _ ho) _ (zau hk h3)
 grind [zeb,List.map_inj_left,res_f,isR_ok]
theorem opK_b{p:qD}{op:Nat}{name:List Nat}{vk n:Nat}{ks:List Nat}(hv:op=1->1<=vk/\vk<=6)(h:(opK p op name vk n ks).2=0):1<=(opK p op name vk n ks).1/\(opK p op name vk n ks).1<=6:=by
 grind [opK,FT,zfm]
theorem ID{p:qD}:∀ {l:List sA} {e:Nat},eP p l=.inl e->e≠0
 | [],e,h=>by grind [eP]
 | x::l,e,h=>by
  unfold eP at h;by_cases hx:(zK p x).2≠0
  ·simp_all
  ·rw[yaa hx]at h
   cases hl:eP p l with
   | inl e'=>rw[hl]at h;cases h;exact ID hl
   | inr ks=>simp_all
theorem zht{p:qD}{x:sA}{d:Nat}(hP:pG x d=true)(h:(zK p x).2=0):1<=(zK p x).1/\(zK p x).1<=6:=by
 obtain⟨op,name,v,args⟩:=x;have hv:op=1->1<=v.kind/\v.kind<=6:=fun e=>by
  grind [pG,EG]
 unfold zK at h ⊢
 cases hk:eP p args with
 | inl e=>rw[hk]at h;exact absurd h (ID hk)
 | inr ks=>
  rw[hk]at h;exact opK_b hv h
def KOk (p:qD)(u1 u2 u3:zA)(x:sA):Prop:=∀(d:Nat) (t:Tr qA) (cs:List zA),pG x d=true->x.fit->RD t p.d [.str p.name,u1,u2,u3]->RD t x.d cs->rB yA F 46 [.agg [.str p.name,u1,u2,u3],.agg cs] t=some (tR (zK p x))
section
variable {p:qD}{u1 u2 u3:zA}
theorem kend{op:Nat}{name:List Nat}{v:lE}{ks:List Nat}{a c d:zA}{bk:Nat}{t0:Tr qA}(hp:p.fit)(hr:RD t p.d [.str p.name,u1,u2,u3])(hH:bK op name ks.length=true)(hv:op=1->1<=v.kind/\v.kind<=6)(hk:∀k∈ks,1<=k/\k<=6)(h3:ks.length<=3)(hd:cA d=some (.int .i64 (ks.length:Int)))(ho:tF t bk .u8 (Bv ks))(hle:xB t0 t) :
  wp 46 (.call 86 [.agg [.str p.name,u1,u2,u3],.agg [.int .u8 (op:Nat),.str name,.int .u8 (v.kind:Nat),.bool v.f.n.neg,a,.bool v.f.d.neg,c,.int .i64 v.i,d]] fun a11=>
 .opt (zG 0 a11) fun a12=>.asI .u8 a12 fun n13=>.opt (zG 1 a11) fun a14=>.asB a14 fun b15=>.ite (!b15)
 (.ret (.tup [(.int .u8 0),(.int .i64 141)]))
 (.opt (bC yA 59 (.slice bk 0 3 3) (.int .i64 0)) fun a16=>.light (fun m=>vC yA 5 ⟨0,m⟩ a16) fun a17=>.asI .u8 a17 fun n18=>.opt (bC yA 59 (.slice bk 0 3 3) (.int .i64 1)) fun a19=>.light (fun m=>vC yA 5 ⟨0,m⟩ a19) fun a20=>.asI .u8 a20 fun n21=>.opt (bC yA 59 (.slice bk 0 3 3) (.int .i64 2)) fun a22=>.light (fun m=>vC yA 5 ⟨0,m⟩ a22) fun a23=>.asI .u8 a23 fun n24=>.call 87 [(.int .u8 (op:Nat)),(.int .u8 n18),(.int .u8 n21),(.int .u8 n24),(.int .u8 n13)] fun a25=>
 .asI .u8 a25 fun n26=>.ite (tA n26 0)
 (.ret (.tup [(.int .u8 0),(.int .i64 142)]))
 (.ret (.tup [(.int .u8 n26),(.int .i64 0)])))) t (fun x t'=>x=tR (opK p op name v.kind ks.length ks)/\xB t0 t'):=by
 have h27:op<27/\op≠0:=by
  unfold bK at hH;simp only[ybb,decide_eq_true_eq,ycp,decide_eq_false_iff_not]at hH;refine⟨hH.1.1.1.1,fun e=>hH.1.1.1.2 ?_⟩;rw[e];rfl
 have hnm:=rnm_ok (t:=t) (vk:=v.kind) (name:=name) (n1:=v.f.n.neg) (n2:=v.f.d.neg) (a:=a) (b:=c) (i:=v.i) hp hr h27.1 h27.2 hd;have idx:∀j:Nat,j<3->bC yA 59 (.slice bk 0 3 3) (.int .i64 (j:Nat))=some (.ptr bk j):=fun j hj=>Xr ⟨⟨_,xM,rfl⟩,⟨_,xI,rfl,rfl⟩⟩ hj;have ld:∀j:Nat,j<3->vC yA 5 ⟨0,t⟩ (.ptr bk j)=some (.int .u8 (ks.getD j 0:Nat)):=fun j hj=>by
  refine ho.load (x:=ks.getD j 0) ?_ xI rfl;have:j=0\/j=1\/j=2:=by omega
  rcases this with e | e | e<;>subst e<;>rfl
 have i0:=idx 0 (by omega);have i1:=idx 1 (by omega);have i2:=idx 2 (by omega);have l0:=ld 0 (by omega);have l1:=ld 1 (by omega);have l2:=ld 2 (by omega);unfold opK;unfold nmR at hnm;by_cases ho1:op=1
 ·subst ho1;have hN:tI p 1 name ks.length=(0,true):=by
   unfold tI;rw[yaa (by omega),yaa (by omega),yaa (by omega)]
  rw[hN,yaa (by simp),yab rfl];rw[yab rfl]at hnm;have hv:=hv rfl;refine yB ?_;rw[q86,hnm,xA];refine uA rfl (zB (uA rfl (rC (bA (by simp) (uA i0 (yC l0 (zB (uA i1 (yC l1 (zB (uA i2 (yC l2 (zB (yB ?_))))))))))))));have h87:=zeb (t:=t) (res_1 (ks.getD 0 0) (ks.getD 1 0) (ks.getD 2 0) (v.kind:Nat));have h87':rB yA F 87 [.int .u8 ((1:Nat):Int),.int .u8 (ks.getD 0 0:Nat),.int .u8 (ks.getD 1 0:Nat),.int .u8 (ks.getD 2 0:Nat),.int .u8 (v.kind:Nat)] t=some (.int .u8 (v.kind:Nat)):=h87
  rw[q87,h87',xA];exact zB (bA (uF (by omega)) ⟨rfl,hle⟩)
 ·rw[yaa ho1]at hnm
  cases hq:(tI p op name ks.length).2 with
  | false=>
   rw[hq,cond_false]at hnm;rw[yab rfl];refine yB ?_;rw[q86,hnm,xA];exact uA rfl (zB (uA rfl (rC (oA rfl ⟨rfl,hle⟩))))
  | true=>
   rw[hq,cond_true]at hnm;rw[yaa (by simp),yaa ho1];obtain⟨b1,b2⟩:=FT hq;generalize (tI p op name ks.length).1=nm at *;have hres:=SA (t:=t) (nm:=nm) hH ho1 hk h3 b1;obtain⟨f1,f2⟩:=zfm (op:=op) (nm:=nm) (a:=ks.getD 0 0) (b:=ks.getD 1 0) (c:=ks.getD 2 0) (fun e=>⟨b2 e,b1⟩);refine yB ?_;rw[q86,hnm,xA];refine uA rfl (zB (uA rfl (rC (bA (by simp) (uA i0 (yC l0 (zB (uA i1 (yC l1 (zB (uA i2 (yC l2 (zB (yB ?_))))))))))))))
   rw[q87];have hres':rB yA F 87 [.int .u8 (op:Nat),.int .u8 (ks.getD 0 0:Nat),.int .u8 (ks.getD 1 0:Nat),.int .u8 (ks.getD 2 0:Nat),.int .u8 ((nm,true).1:Nat)] t=_:=hres;rw[hres',xA];refine zB ?_;unfold resK;by_cases hz:(lS op nm (ks.getD 0 0) (ks.getD 1 0) (ks.getD 2 0)).2=0
   ·have hb:=f1 hz;rw[hz,show Nat.beq 0 0=true from rfl,cond_true];refine bA (uF (by omega)) ⟨?_,hle⟩
    grind [tR]
   ·rw[show Nat.beq (lS op nm (ks.getD 0 0) (ks.getD 1 0) (ks.getD 2 0)).2 0=false from by
     grind [oC],cond_false]
    refine oA rfl ⟨?_,hle⟩;rw[f2 hz];rfl
end
end
section
variable [lC]
variable {t tf:Tr qA}
section
variable {p:qD}{u1 u2 u3:zA}
theorem kloop{op:Nat}{name:List Nat}{v:lE}{args:List sA}{a c d:zA}{bk dd:Nat}{t0:Tr qA}(hp:p.fit)(hall:∀y∈args,KOk p u1 u2 u3 y)(hP:∀y∈args,pG y dd=true)(hfits:∀y∈args,y.fit)(hlen:args.length<=3)(hH:bK op name args.length=true)(hv:op=1->1<=v.kind/\v.kind<=6)
  (hrp:RD t0 p.d [.str p.name,u1,u2,u3]) (hr:lA t0 9 (args.map sA.d) d) (hbk:t0.get bk=none) (hbase:yA.base<=bk):∀(l:List sA) (i:Nat) (ks:List Nat) (t:Tr qA),args.drop i=l->i<=args.length->ks.length=i->(∀k∈ks,1<=k/\k<=6)->xB t0 t->tF t bk .u8 (Bv ks) →
  jp 46 2 [.slice bk 0 3 3,.int .i64 (i:Int),.str p.name,u1,u2,u3,.int .u8 (op:Int),.str name,.int .u8 (v.kind:Int),.bool v.f.n.neg,a,.bool v.f.d.neg,c,.int .i64 v.i,d] t (fun x t'=>x=tR (Cj p op name v.kind args.length ks (eP p l))/\xB t0 t'):=by
 have hdl:cA d=some (.int .i64 (args.length:Int)):=by rw[hr.len,ybf]
 intro l;induction l with
 | nil=>
  intro i ks t hl hi hk hb hle ho;have hi2:=yak.1 hl;have hkl:ks.length=args.length:=by omega
  have:=kend (op:=op) (name:=name) (v:=v) (a:=a) (c:=c) (d:=d) hp (RD.mono hle _ _ hrp) (by simp_all) hv hb (by omega) (by simp_all) ho hle;rw[hkl]at this;unfold eP;have e:Cj p op name v.kind args.length ks (.inr [])=opK p op name v.kind args.length ks:=by
   show opK p op name v.kind args.length (ks++[])=_;rw[ycd]
  rw[e];refine j46_2 ?_;unfold zgh uI uU uB uG wB rA sB uX uZ uY gE;grind [uA,zB,bA,jF]
 | cons x l ih=>
  intro i ks t hl hi hk hb hle ho;obtain⟨h1,h2,h3⟩:=Cs hl;have hm':x∈args:=ycv h1;obtain⟨pb,po,cs,g1,g2,g3,g4,g5⟩:=lD.at sP (by simp) (hr.mono hle) (i:=i) (d:=x.d) (by simp[h1]);have r1:=hall x hm' dd t cs (hP x hm') (hfits x hm') (RD.mono hle _ _ hrp) g5;have pre:∀ {R:aB},wp 46 (.ite (!tA ((zK p x).2:Int) 0) (.ret (.tup [(.int .u8 0),(.int .i64 ((zK p x).2:Int))]))
 (.opt (bC yA 59 (.slice bk 0 3 3) (.int .i64 (i:Int))) fun a10=>.heavy (tD yA 5 a10 (.int .u8 ((zK p x).1:Int))) fun _=>
 .jump 2 [.slice bk 0 3 3,(.int .i64 (jA .i64 ((i:Int)+1))),(.str p.name),u1,u2,u3,(.int .u8 (op:Int)),(.str name),(.int .u8 (v.kind:Int)),(.bool v.f.n.neg),a,(.bool v.f.d.neg),c,(.int .i64 v.i),d])) t R →
    jp 46 2 [.slice bk 0 3 3,.int .i64 (i:Int),.str p.name,u1,u2,u3,.int .u8 (op:Int),.str name,.int .u8 (v.kind:Int),.bool v.f.n.neg,a,.bool v.f.d.neg,c,.int .i64 v.i,d] t R:=fun h=>by
   refine j46_2 ?_;unfold zgh uI uU uB uG wB rA sB uX uZ uY gE;refine uA hdl (zB (oA (pF (by omega)) (uA g1 (yC g2 ?_))));rw[mQ];refine fE (rG g5 x.zs) (yB ?_);have hmk:=g5.mk x.zs;have hcs:[zA.int .u8 ((cellsOf cs).i 0),.str ((cellsOf cs).s 1),.int .u8 ((cellsOf cs).i 2),.bool ((cellsOf cs).b 3),(cellsOf cs).v 4,.bool ((cellsOf cs).b 5),(cellsOf cs).v 6,.int .i64 ((cellsOf cs).i 7),(cellsOf cs).v 8]=cs:=hmk
   rw[hcs,q46,r1,xA];exact uA rfl (zB (uA rfl (zB h)))
  unfold eP;by_cases he:(zK p x).2=0
  ·rw[yaa (by omega)];obtain⟨t',e1,e2,e3⟩:=ho.store (C:=yA) hbase (j:=i) (by show i<3;omega) (zK p x).1 xI rfl;rw[<- hk,zbw (by omega)]at e2;have hle':xB t0 t':=hle.off hbk e3;have hb':∀k∈ks++[(zK p x).1],1<=k/\k<=6:=fun k hk=>by
    grind [zht]
   have k1:=ih (i+1) (ks++[(zK p x).1]) t' h2 (by omega) (by grind) hb' hle' e2;refine pre (bA (by grind [bF]) (uA (Xr ⟨⟨_,xM,rfl⟩,⟨_,xI,rfl,rfl⟩⟩ (by omega)) (tG fun n _ _=>⟨_,_,e1 n,zC ?_⟩)))
   grind [wrap_i64,Cj]
  ·rw[yab he];exact pre (oA (by grind [uF]) ⟨rfl,hle⟩)
mutual
theorem DM(hp:p.fit):∀(x:sA),KOk p u1 u2 u3 x
 | .mk op name v args=>by
  have hall:=DL hp args;intro dd t cs hP hfit hrp hr;have hP0:=hP;obtain⟨h1,h2⟩:=MV hP;have hone:=MU hP;simp only[sA.args,sA.op]at h1 h2 hone;obtain⟨a,c,d,rfl,ha,hc,hd⟩:=vI hr;simp only[sA.op,sA.name,sA.v,sA.args]at ha hc hd ⊢;have hfit':=hfit;unfold sA.fit at hfit';have hfits:=sA.fits_mem hfit'.2.2.2.2.2;have hPs:∀y∈args,pG y (dd+1)=true:=by
   grind
  have hHv:bK op name args.length=true/\(op=1->eH v=true):=by
   rw[pG]at hP0;simp only[ybb]at hP0;refine⟨hP0.1.2,fun e=>?_⟩;have:=hP0.2
   rwa [yab e]at this
  obtain⟨x1,x2,x3,e,_⟩:=wO hrp;have ek:zK p (.mk op name v args)=Cj p op name v.kind args.length [] (eP p args):=by unfold zK;rfl
  rw[ek];refine lL (w46 ?_);unfold t46 uZ uY;refine tG fun bk hbk hbase=>?_;obtain⟨H1,e1,e2,e3⟩:=lit3 hbk;refine⟨_,_,e1,zC ?_⟩;exact kloop (op:=op) (name:=name) (v:=v) (a:=a) (c:=c) hp hall hPs hfits h1 hHv.1 (fun e=>EG (hHv.2 e)) hrp hd hbk hbase args 0 [] H1.t rfl (by omega) rfl (fun k hk=>by cases hk) e3 e2
theorem DL(hp:p.fit):∀(l:List sA),∀y∈l,KOk p u1 u2 u3 y
 | [],_,h=>by cases h
 | x::l,y,h=>by
  rcases ybs.1 h with e | h
  ·rw[e];exact DM hp x
  ·exact DL hp l y h
end
end
def zbr{p:qD}{x:sA}{cp cs:List zA}(hp:p.fit)(hfit:x.fit)(hrp:RD t p.d cp)(hr:RD t x.d cs):rB yA F 21 [.agg cp,.agg cs] t=some (tR (Kf p x)):=by
 have hrp0:=hrp;have hr0:=hr;obtain⟨u1,u2,u3,rfl,_⟩:=wO hrp;obtain⟨a,c,d,rfl,_⟩:=vI hr;refine dB.2 (w21 ?_);unfold t21 uI uU uB uX uZ uY;refine yB ?_;have hs:=CL x 1 _ hfit (by omega) hr0;rw[show((25-1:Nat):Int)=24 from rfl]at hs;rw[q45,hs,xA];refine rC ?_;unfold Kf
 cases hP:pG x 1 with
 | false=>exact oA rfl ⟨rfl,rfl⟩
 | true=>
  refine bA (by simp) (yB ?_);rw[q46,DM hp x 1 t _ hP hfit hrp0 hr0,xA];exact uA rfl (zB (uA rfl (zB ⟨rfl,rfl⟩)))
mutual
theorem DD:∀(x:sA) (cs:List zA),x.fit->qM x<1000000000000000000->RD t x.d cs->rB yA F 23 [.agg cs] t=some (.int .i64 (qM x:Nat))
 | .mk op name v args,cs,hx,hn,h=>by
  obtain⟨a,b,c,rfl,ha,hb,hc⟩:=vI h;simp only[sA.op,sA.name,sA.v,sA.args]at ha hb hc ⊢;have hx':=hx;unfold sA.fit at hx';have hn':=hn;unfold qM at hn' ⊢;refine dB.2 (w23 ?_);unfold t23 uZ uY;refine zC ?_;exact DE args args 1 c 0 op name v a b hc rfl hx'.2.2.2.2.2 hx'.2.2.2.2.1 hn'
theorem DE:∀(l args:List sA) (n:Nat) (c:zA) (i op:Nat) (name:List Nat) (v:lE) (a b:zA),lA t 9 (args.map sA.d) c->args.drop i=l->sA.fits l->args.length<pE->n+uT l<1000000000000000000->jp 23 2 [.int .i64 (n:Int),.int .i64 (i:Int),.int .u8 (op:Int),.str name,.int .u8 (v.kind:Int),.bool v.f.n.neg,a,.bool v.f.d.neg,b,.int .i64 v.i,c] t (fun v' t'=>v'=.int .i64 ((n+uT l:Nat):Int)/\t'=t)
 | [],args,n,c,i,op,name,v,a,b,hc,hd,hok,hsz,hn=>by
  have:=Ld hd;refine j23_2 ?_;unfold zgn uI uG wB rA sB uZ uY uW gE;exact uA (by rw[hc.len,ybf]) (zB (bA (jF (by omega)) ⟨rfl,rfl⟩))
 | x::l,args,n,c,i,op,name,v,a,b,hc,hd,hok,hsz,hn=>by
  obtain⟨h1,h2,h3⟩:=Cs hd;unfold pE at hsz;have hok':=hok;unfold sA.fits at hok';unfold uT at hn ⊢;refine j23_2 ?_;obtain⟨pb,po,cs,g1,g2,g3,g4,g5⟩:=lD.at sP (by simp) hc (i:=i) (d:=x.d) (by simp[h1]);unfold zgn uI uG wB rA sB uZ uY uW gE;refine uA (by rw[hc.len,ybf]) (zB (oA (pF (by omega)) (uA g1 (yC g2 ?_))));rw[mQ];refine fE (rG g5 x.zs) (yB ?_)
  have hmk:=g5.mk x.zs;have hcs:[zA.int .u8 ((cellsOf cs).i 0),.str ((cellsOf cs).s 1),.int .u8 ((cellsOf cs).i 2),.bool ((cellsOf cs).b 3),(cellsOf cs).v 4,.bool ((cellsOf cs).b 5),(cellsOf cs).v 6,.int .i64 ((cellsOf cs).i 7),(cellsOf cs).v 8]=cs:=hmk;rw[hcs,q23,DD x cs hok'.1 (by omega) g5,xA];refine zB (zC ?_);rw[wrap_i64 (n:=(n:Int)+(qM x:Nat)) (by omega) (by omega),wrap_i64 (by omega) (by omega),show(i:Int)+1=((i+1:Nat):Int) by omega,show(n:Int)+(qM x:Nat)=((n+qM x:Nat):Int) by omega]
  have:=DE l args (n+qM x) c (i+1) op name v a b hc h2 hok'.2 hsz (by omega)
  grind
end
end
section
variable [lC]
variable {t:Tr qA}
def pv36{f:dC}{u v:zA}(h1:lA t 1 (cC f.n.limbs) u)(h2:lA t 1 (cC f.d.limbs) v)(hf:f.ok):rB yA F 15 [.agg [.bool f.n.neg,u,.bool f.d.neg,v]] t=some (.int .i64 (uM f:Nat)):=by
 have hs:=Ir hf;refine dB.2 (w15 ?_);unfold uM at hs ⊢;simp (disch:=omega) only[uI,uZ,uW,t15,iA,h1.len,h2.len,xA,fB,iN,wrap_i64];simp
mutual
theorem pv37:∀(x:sA) (left:Int) (cs:List zA),x.ok -> -9007199254740992<=left->left<=9007199254740992->RD t x.d cs->rB yA F 7 [.agg cs,.int .i64 left] t=some (.int .i64 (wJ x left))
 | .mk op name v args,left,cs,hx,hl1,hl2,h=>by
  obtain⟨a,b,c,rfl,ha,hb,hc⟩:=vI h;simp only[sA.op,sA.name,sA.v,sA.args]at ha hb hc ⊢;have hx':=hx;unfold sA.ok at hx';have hf:=Ir hx'.2.1;have hn:=hx'.1;unfold pE at hn;refine dB.2 (w7 ?_);simp (disch:=omega) only[uI,uZ,uY,uW,t7,iA,q15,pv36 ha hb hx'.2.1,xA,fB,Uo,El,if_true,qJ,wrap_i64,Int.tdiv_eq_ediv_of_nonneg];unfold wJ;exact zee args args left _ op name v _ _ c 0 hc rfl hx'.2.2.2 hx'.2.2.1 (by omega) hl1 hl2 (by omega)
theorem zee:∀(l args:List sA) (left n:Int) (op:Nat) (name:List Nat) (v:lE) (a b c:zA) (i:Nat),lA t 9 (args.map sA.d) c->args.drop i=l->sA.oks l->args.length<pE->0<=n -> -9007199254740992<=left->left<=9007199254740992->n<=27021597764222976 →
  jp 7 2 [.int .i64 left,.int .i64 n,.int .i64 i,.int .u8 op,.str name,.int .u8 v.kind,.bool v.f.n.neg,a,.bool v.f.d.neg,b,.int .i64 v.i,c] t (fun v' t'=>v'=.int .i64 (rN l left n)/\t'=t)
 | [],args,left,n,op,name,v,a,b,c,i,hc,hd,hok,hsz,hn,hl1,hl2,hn2=>by
  have:=Ld hd;refine j7_2 ?_;simp only[uI,uG,wB,rA,sB,uZ,uY,uW,gE,t7_2,iA,hc.len,xA,fB,ybf,wC];grind [rN]
 | x::l,args,left,n,op,name,v,a,b,c,i,hc,hd,hok,hsz,hn,hl1,hl2,hn2=>by
  obtain⟨h1,h2,h3⟩:=Cs hd;unfold pE at hsz;have hok':=hok;unfold sA.oks at hok';refine j7_2 ?_;obtain⟨pb,po,cs,g1,g2,g3,g4,g5⟩:=lD.at sP (by simp) hc (i:=i) (d:=x.d) (by simp[h1]);simp only[uI,uG,wB,rA,sB,uZ,uY,uW,gE,t7_2,iA,hc.len,xA,fB,ybf,wC,iD,g1,g2,mQ];rw[yab (by omega)];unfold rN;split
  ·rename_i hle;obtain⟨a1,b1,c1,rfl,ha1,hb1,hc1⟩:=vI g5;have hs:=It x (left-n) hok'.1;rw[rG g5 x.zs];simp only[xA,cellsOf,Kn,Mz,sY,fY];simp (disch:=omega) only[q7,yaz,yba,wrap_i64];rw[pv37 x (left-n) _ hok'.1 (by omega) (by omega) g5];simp (disch:=omega) only[xA,fB,wrap_i64];have:=zee l args left (n+wJ x (left-n)) op name v a b c (i+1) hc h2 hok'.2 hsz (by omega) hl1 hl2 (by omega)
   simp_all
  ·simp
end
end
section
variable [lC]
variable {t:Tr qA}
def Ab(x:dD)(a b c a' b' c':zA):List zA:=[.str x.name,.str x.label,.int .i64 x.from_,.int .i64 x.to,.int .i64 x.known,.bool x.off,.int .u8 x.when_.op,.str x.when_.name,.int .u8 x.when_.v.kind,.bool x.when_.v.f.n.neg,a,.bool x.when_.v.f.d.neg,b,.int .i64 x.when_.v.i,c,.int .u8 x.then_.op,.str x.then_.name,.int .u8 x.then_.v.kind,.bool x.then_.v.f.n.neg,a',.bool x.then_.v.f.d.neg,b',.int .i64 x.then_.v.i,c']
def Zs:List zA:=[(.str []),(.str []),(.int .i64 0),(.int .i64 0),(.int .i64 0),(.bool false),(.int .u8 0),(.str []),(.int .u8 0),(.bool false),.nilslice,(.bool false),.nilslice,(.int .i64 0),.nilslice,(.int .u8 0),(.str []),(.int .u8 0),(.bool false),.nilslice,(.bool false),.nilslice,(.int .i64 0),.nilslice]
def TT{x:dD}{a b c a' b' c':zA}(ha:zA.one a=true)(hb:zA.one b=true)(hc:zA.one c=true)(ha':zA.one a'=true)(hb':zA.one b'=true)(hc':zA.one c'=true):eE zA.one (Ab x a b c a' b' c')=true:=by
 rw[mI];simp only[Ab,ycg,yck,ha,hb,hc,ha',hb',hc'];rfl
def YO{l:List dD}{v:zA}(hv:lA t 24 (l.map dD.d) v){i:Nat}{x:dD}(hx:l[i]?=some x) :
  ∃p off a b c a' b' c',bC yA 24 v (.int .i64 (i:Int))=some (.ptr p off)/\vC yA 54 ⟨0,t⟩ (.ptr p off)=some (.agg (Ab x a b c a' b' c'))/\yN Zs (.agg (Ab x a b c a' b' c'))=some (cellsOf (Ab x a b c a' b' c')) ∧
   RD t x.when_.d (fL x.when_ a b c)/\RD t x.then_.d (fL x.then_ a' b' c')/\eE zA.one (Ab x a b c a' b' c')=true:=by
 obtain⟨p,off,cs,g1,g2,_,_,g5⟩:=lD.at Ei (by simp) hv (i:=i) (d:=x.d) (by simp[hx]);have hz:=rG g5 x.zs;obtain⟨a,b,c,a',b',c',rfl,h1,h2⟩:=Jf g5;obtain⟨u1,u2,u3,e1,m1,m2,m3⟩:=vI h1;obtain⟨w1,w2,w3,e2,n1,n2,n3⟩:=vI h2;unfold fL at e1 e2;cases e1;cases e2;exact⟨p,off,_,_,_,_,_,_,g1,g2,hz,h1,h2,TT m1.one m2.one m3.one n1.one n2.one n3.one⟩
def lW:List nE->Int->Int
 | [],n=>n
 | d::l,n=>if n<=2000 then lW l (n+(d.name.length:Int) / 30)else n
def iQ:List oE->Int->Int
 | [],n=>n
 | r::l,n=>if n<=2000 then iQ l (n+(uM r.f:Nat))else n
def aS:List wD->Int->Int
 | [],n=>n
 | x::l,n=>if n<=2000 then aS l (iQ x.rows (n+(x.name.length:Int) / 30))else n
def iM(c:dD)(n:Int):Int:=n+((c.name.length:Int) / 30+(c.label.length:Int) / 30+wJ c.when_ (2000-n))
def gQ:List dD->Int->Int
 | [],n=>n
 | c::l,n=>if n<=2000 then(if iM c n<=2000 then gQ l (iM c n+wJ c.then_ (2000-iM c n))else gQ l (iM c n))else n
def Ng(p:qD):Int:=gQ p.clauses (aS p.tables (lW p.defs (1+(p.name.length:Int) / 30+p.defs.length+p.tables.length+p.clauses.length)))
def Qr(n:Nat):Int.tdiv (n:Int) 30=(n:Int) / 30:=Int.tdiv_eq_ediv_of_nonneg (by omega)
section
variable {p:qD}{a b c:zA}
theorem QO{l:List dD}(hc:lA t 24 (l.map dD.d) c)(hn:l.length<1125899906842624)(hf:∀x∈l,x.fit):∀(m i:Nat) (n:Int),i+m=l.length->0<=n->n<1152921504606846976->jp 6 14 [.int .i64 2000,.int .i64 n,.int .i64 (i:Int),.str p.name,a,b,c] t (fun v s=>v=.int .i64 (gQ (l.drop i) n)/\s=t):=by
 intro m;induction m with
 | zero=>
  intro i n hi h0 h1;refine j6_14 ?_;simp only[uI,uG,wB,rA,gC,sB,uZ,uY,uW,uM2,zge,iA,hc.len,xA,fB,ybf,wC];rw[yaa (by omega),ybt (by omega)]
  (first | exact⟨rfl,rfl⟩ | exact⟨rfl,trivial⟩ | trivial)
 | succ m ih=>
  intro i n hi h0 h1;have hlt:i<l.length:=by omega
  obtain⟨q,off,u1,u2,u3,w1,w2,w3,g1,g2,g3,g4,g5,g6⟩:=YO hc (ybd hlt);have hfit:=hf _ (ycj hlt);obtain⟨f1,f2,_,_,_,f6,f7⟩:=hfit;unfold pE at f1 f2;have ok1:=sA.fit_ok f6;have ok2:=sA.fit_ok f7;refine j6_14 ?_;simp only[uI,uG,wB,rA,gC,sB,uZ,uY,uW,uM2,zge,iA,hc.len,xA,fB,ybf,wC,iD];rw[yab (by omega),ybl hlt];unfold gQ;by_cases h2:n<=2000
  ·rw[yab h2,yab h2];unfold Zs at g3;rw[g1,xA,g2,xA,g3,xA];unfold Ab at g6;simp only[Ab,cellsOf,Kn,Mz,sY,fY,yaz,yba];have s1:=It l[i].when_ (2000-n) ok1;have e1:=pv37 l[i].when_ (2000-n) _ ok1 (by omega) (by omega) g4;unfold fL at e1;have ew:iM l[i] n=n+((l[i].name.length:Int) / 30+(l[i].label.length:Int) / 30+wJ l[i].when_ (2000-n)):=rfl
   have eN:jA .i64 (n+jA .i64 (jA .i64 (jA .i64 ((l[i].name.length:Int) / 30)+jA .i64 ((l[i].label.length:Int) / 30))+wJ l[i].when_ (2000-n)))=iM l[i] n:=by
    rw[wrap_i64 (n:=(l[i].name.length:Int) / 30) (by omega) (by omega),wrap_i64 (n:=(l[i].label.length:Int) / 30) (by omega) (by omega),wrap_i64 (n:=(l[i].name.length:Int) / 30+(l[i].label.length:Int) / 30) (by omega) (by omega),
     wrap_i64 (n:=(l[i].name.length:Int) / 30+(l[i].label.length:Int) / 30+wJ l[i].when_ (2000-n)) (by omega) (by omega),wrap_i64 (by omega) (by omega)]
    rfl
   have bw:0<=iM l[i] n/\iM l[i] n<1152921504606846976:=by omega
   refine Xl g6 ?_;rw[wrap_i64 (n:=2000-n) (by omega) (by omega),q7,e1,xA,fB,xA];simp only[Uo,El,if_true,qJ,Qr,eN,iD];have ei:jA .i64 ((i:Int)+1)=((i+1:Nat):Int):=by grind [wrap_i64]
   generalize iM l[i] n=k at *;by_cases h3:k<=2000
   ·rw[yab h3,yab h3];have s2:=It l[i].then_ (2000-k) ok2;have e2:=pv37 l[i].then_ (2000-k) _ ok2 (by omega) (by omega) g5;unfold fL at e2;rw[wrap_i64 (n:=2000-k) (by omega) (by omega),q7,e2,xA,fB,xA,ei,wrap_i64 (by omega) (by omega)];exact ih (i+1) _ (by omega) (by omega) (by omega)
   ·rw[yaa h3,yaa h3,ei];exact ih (i+1) _ (by omega) bw.1 bw.2
  grind
theorem CD:∀(l:List oE) (n:Int),(∀r∈l,r.fit)->0<=n->0<=iQ l n/\iQ l n<=max n 4503599627372496
 | [],n,_,h=>by grind [iQ]
 | r::l,n,hf,h=>by
  unfold iQ;split
  ·have:=Ir (hf r (by simp)).2.2.2.1;have:=CD l (n+(uM r.f:Nat)) (fun x hx=>hf x (by simp[hx])) (by omega);omega
  ·omega
theorem KL{l:List wD}(hb:lA t 3 (l.map wD.d) b){i:Nat}(hi:i<l.length):∃p o v,bC yA 23 b (.int .i64 (i:Int))=some (.ptr p o)/\aF yA 49 0 (.ptr p o)=some (.ptr p (o+0))/\aF yA 49 2 (.ptr p o)=some (.ptr p (o+2))/\vC yA 9 ⟨0,t⟩ (.ptr p (o+0))=some (.str l[i].name)/\vC yA 47 ⟨0,t⟩ (.ptr p (o+2))=some v/\lA t 7 (l[i].rows.map oE.d) v:=by
 obtain⟨p,o,cs,g1,g2,g3,_,g5⟩:=lD.at nW (by simp) hb (i:=i) (d:=l[i].d) (by simp_all);obtain⟨v,rfl,hv⟩:=yZ g5;exact⟨p,o,v,g1,by kernel_rfl,by kernel_rfl,g3.load1 vL rfl rfl,g3.load1 ty47 rfl rfl,hv⟩
theorem QM{l:List wD}(hb:lA t 3 (l.map wD.d) b)(hf:∀x∈l,x.fit){i:Nat}(hi:i<l.length)(hil:i<1125899906842624){Q:aB}:∀(m j:Nat) (n:Int),j+m=l[i].rows.length->0<=n->n<1152921504606846976 →
  jp 6 6 [.int .i64 2000,.int .i64 (iQ (l[i].rows.drop j) n),.int .i64 ((i+1:Nat):Int),.str p.name,a,b,c] t Q->jp 6 10 [.int .i64 2000,.int .i64 n,.int .i64 (i:Int),.int .i64 (j:Int),.str p.name,a,b,c] t Q:=by
 obtain⟨q,o,v,g1,g2,g3,g4,g5,g6⟩:=KL hb hi;have hfit:=hf _ (ycj hi);obtain⟨f1,f2,f3⟩:=hfit;unfold pE at f1 f2;have ei:jA .i64 ((i:Int)+1)=((i+1:Nat):Int):=by grind [wrap_i64]
 intro m;induction m with
 | zero=>
  intro j n hj h0 h1 hQ;rw[ybt (by omega)]at hQ;refine j6_10 ?_;simp only[uI,uG,wB,rA,bB,sB,uZ,uW,uA8,zgf,iA];rw[g1,xA,g3,xA,g5,xA,g6.len,xA,ybf,fB,xA];simp only[wC];rw[yaa (by omega),ei];exact hQ
 | succ m ih=>
  intro j n hj h0 h1 hQ;have hlt:j<l[i].rows.length:=by omega
  rw[ybl hlt]at hQ;unfold iQ at hQ;refine j6_10 ?_;simp only[uI,uG,wB,rA,bB,sB,uZ,uW,uA8,zgf,iA];rw[g1,xA,g3,xA,g5,xA,g6.len,xA,ybf,fB,xA];simp only[wC,iD];rw[yab (by omega)];by_cases h2:n<=2000
  ·rw[yab h2]at hQ ⊢;obtain⟨q',o',cs,k1,k2,k3,_,k5⟩:=lD.at Eh (by simp) g6 (i:=j) (d:=l[i].rows[j].d) (by simp_all);obtain⟨x,y,rfl,hx,hy⟩:=Je k5;have fa:aF yA 52 3 (.ptr q' o')=some (.ptr q' (o'+3)):=by kernel_rfl
   have ld:vC yA 31 ⟨0,t⟩ (.ptr q' (o'+3))=some (.agg [.bool l[i].rows[j].f.n.neg,x,.bool l[i].rows[j].f.d.neg,y]):=k3.load (j:=3) ty31 rfl rfl (by simp_all);have fr:(l[i].rows[j]).fit:=f3 _ (ycj hlt);have hz:yN [(.bool false),.nilslice,(.bool false),.nilslice] (.agg [.bool l[i].rows[j].f.n.neg,x,.bool l[i].rows[j].f.d.neg,y])=some (cellsOf [.bool l[i].rows[j].f.n.neg,x,.bool l[i].rows[j].f.d.neg,y]):=zW (by
    show(true&&(mS .nilslice x&&(true&&(mS .nilslice y&&true))))=true
    grind [Kw])
   have e1:=pv36 hx hy fr.2.2.2.1;have hs:=Ir fr.2.2.2.1;have ej:jA .i64 ((j:Int)+1)=((j+1:Nat):Int):=by grind [wrap_i64]
   simp only[xA,g3,g5];rw[k1,xA,fa,xA,ld,xA,hz,xA];simp only[cellsOf,sY,fY,yaz,yba];rw[q15,e1,xA,fB,xA,ej,wrap_i64 (by omega) (by omega)]
   grind
  grind
theorem QL(hb:lA t 3 (p.tables.map wD.d) b)(hc:lA t 24 (p.clauses.map dD.d) c)(hp:p.fit):∀(m i:Nat) (n:Int),i+m=p.tables.length->0<=n->n<1152921504606846976->jp 6 6 [.int .i64 2000,.int .i64 n,.int .i64 (i:Int),.str p.name,a,b,c] t (fun v s=>v=.int .i64 (gQ p.clauses (aS (p.tables.drop i) n))/\s=t):=by
 have hnt:=hp.ntables;have hnc:=hp.nclauses;unfold pE at hnt hnc;have fF:∀n:Int,0<=n->n<1152921504606846976->jp 6 14 [.int .i64 2000,.int .i64 n,.int .i64 0,.str p.name,a,b,c] t (fun v s=>v=.int .i64 (gQ p.clauses n)/\s=t):=by
  intro n h0 h1;have:=QO (p:=p) (a:=a) (b:=b) hc hnc hp.clauses p.clauses.length 0 n (by omega) h0 h1
  simp_all
 intro m;induction m with
 | zero=>
  intro i n hi h0 h1;refine j6_6 ?_;simp only[uI,uS,wB,rA,bB,uZ,uW,t6_6,iA,hb.len,xA,fB,ybf,wC];rw[yaa (by omega),ybt (by omega)];exact fF n h0 h1
 | succ m ih=>
  intro i n hi h0 h1;have hlt:i<p.tables.length:=by omega
  obtain⟨q,o,v,g1,g2,g3,g4,g5,g6⟩:=KL hb hlt;have hfit:=hp.tables _ (ycj hlt);obtain⟨f1,f2,f3⟩:=hfit;unfold pE at f1;refine j6_6 ?_;simp only[uI,uS,wB,rA,bB,uZ,uW,t6_6,iA,hb.len,xA,fB,ybf,wC,iD];rw[yab (by omega),ybl hlt];unfold aS;by_cases h2:n<=2000
  ·rw[yab h2,yab h2,g1,xA,g2,xA,g4,xA,MR,xA,qJ,Qr,wrap_i64 (n:=(p.tables[i].name.length:Int) / 30) (by omega) (by omega),wrap_i64 (by omega) (by omega)];have hr:=CD p.tables[i].rows (n+(p.tables[i].name.length:Int) / 30) f3 (by omega);refine QM (p:=p) (a:=a) (c:=c) hb hp.tables hlt (by omega) p.tables[i].rows.length 0 _ (by omega) (by omega) (by omega) ?_
   rw[ycr];exact ih (i+1) _ (by omega) (by omega) (by omega)
  simp_all [yaa]
def QN(ha:lA t 3 (p.defs.map nE.d) a)(hb:lA t 3 (p.tables.map wD.d) b)(hc:lA t 24 (p.clauses.map dD.d) c)(hp:p.fit):∀(m i:Nat) (n:Int),i+m=p.defs.length->0<=n->n<1152921504606846976->jp 6 2 [.int .i64 2000,.int .i64 n,.int .i64 (i:Int),.str p.name,a,b,c] t (fun v s=>v=.int .i64 (gQ p.clauses (aS p.tables (lW (p.defs.drop i) n)))/\s=t):=by
 have hnd:=hp.ndefs;unfold pE at hnd;have fF:∀n:Int,0<=n->n<1152921504606846976->jp 6 6 [.int .i64 2000,.int .i64 n,.int .i64 0,.str p.name,a,b,c] t (fun v s=>v=.int .i64 (gQ p.clauses (aS p.tables n))/\s=t):=by
  intro n h0 h1;have:=QL (a:=a) hb hc hp p.tables.length 0 n (by omega) h0 h1;rw[ycr]at this;exact this
 intro m;induction m with
 | zero=>
  intro i n hi h0 h1;refine j6_2 ?_;simp only[uI,uS,wB,rA,bB,sB,uZ,uW,t6_2,iA,ha.len,xA,fB,ybf,wC];rw[yaa (by omega),ybt (by omega)];exact fF n h0 h1
 | succ m ih=>
  intro i n hi h0 h1;have hlt:i<p.defs.length:=by omega
  obtain⟨q,o,cs,g1,g2,g3,_,g5⟩:=lD.at mW (by simp) ha (i:=i) (d:=p.defs[i].d) (by simp[ybd hlt]);have g5:=wT g5;subst g5;have fa:aF yA 44 0 (.ptr q o)=some (.ptr q (o+0)):=by kernel_rfl
  have ld:vC yA 9 ⟨0,t⟩ (.ptr q (o+0))=some (.str p.defs[i].name):=g3.load1 vL rfl rfl;have hfit:=hp.defs _ (ycj hlt);have f1:=hfit.1;unfold pE at f1;have ei:jA .i64 ((i:Int)+1)=((i+1:Nat):Int):=by rw[wrap_i64 (by omega) (by omega)];omega
  refine j6_2 ?_;simp only[uI,uS,wB,rA,bB,sB,uZ,uW,t6_2,iA,ha.len,xA,fB,ybf,wC,iD];rw[yab (by omega),ybl hlt];unfold lW;by_cases h2:n<=2000
  ·rw[yab h2,yab h2,g1,xA,fa,xA,ld,xA,MR,xA,qJ,Qr,ei,wrap_i64 (n:=(p.defs[i].name.length:Int) / 30) (by omega) (by omega),wrap_i64 (by omega) (by omega)];exact ih (i+1) _ (by omega) (by omega) (by omega)
  ·rw[yaa h2,yaa h2];exact fF n h0 h1
def za7{cs:List zA}(hp:p.fit)(h:RD t p.d cs):rB yA F 6 [.agg cs,.int .i64 2000] t=some (.int .i64 (Ng p)):=by
 obtain⟨a,b,c,rfl,ha,hb,hc⟩:=wO h;have p1:=hp.name;have p2:=hp.ndefs;have p3:=hp.ntables;have p4:=hp.nclauses;unfold pE at p1 p2 p3 p4;refine dB.2 (w6 ?_);simp only[uI,uZ,uW,t6,iA,ha.len,hb.len,hc.len,xA,fB,ybf,qJ,Qr];rw[wrap_i64 (n:=(p.name.length:Int) / 30) (by omega) (by omega),wrap_i64 (n:=1+(p.name.length:Int) / 30) (by omega) (by omega),wrap_i64 (n:=1+(p.name.length:Int) / 30+(p.defs.length:Int)) (by omega) (by omega),wrap_i64 (n:=1+(p.name.length:Int) / 30+(p.defs.length:Int)+(p.tables.length:Int)) (by omega) (by omega),wrap_i64 (by omega) (by omega)]
 have:=QN ha hb hc hp p.defs.length 0 (1+(p.name.length:Int) / 30+p.defs.length+p.tables.length+p.clauses.length) (by omega) (by omega) (by omega);rw[ycr]at this;exact this
end
end
section
mutual
def sA.cpy:sA->Prop
 | .mk _ _ v args=>(v.f.n.limbs.length<300000/\v.f.d.limbs.length<300000)/\args.length<300000/\sA.cpys args
def sA.cpys:List sA->Prop
 | []=>True
 | x::l=>sA.cpy x/\sA.cpys l
end
structure qD.cpy (p:qD):Prop where
 defs:p.defs.length<300000
 tables:p.tables.length<300000
 clauses:p.clauses.length<300000
 rows:∀x∈p.tables,x.rows.length<300000/\∀r∈x.rows,r.f.n.limbs.length<300000/\r.f.d.limbs.length<300000
 exprs:∀x∈p.clauses,sA.cpy x.when_/\sA.cpy x.then_
theorem Xz(f:dC):1<=uM f/\f.n.limbs.length<uM f/\f.d.limbs.length<uM f:=by grind [uM]
def Ul:∀(x:sA) (left:Int),x.ok->1<=wJ x left
 | .mk op name v args,left,h=>by
  unfold sA.ok at h;unfold wJ;have:=Xz v.f;have:=(Ej args left (uM v.f+(name.length:Int) / 30) h.2.2.2 (by omega)).1;omega
mutual
def Qy:∀(x:sA) (left:Int),x.ok->wJ x left<=left->left<=2000->sA.cpy x
 | .mk op name v args,left,h,hs,hl=>by
  unfold sA.ok at h;unfold wJ at hs;unfold sA.cpy;have:=Xz v.f;have h1:=(Ej args left (uM v.f+(name.length:Int) / 30) h.2.2.2 (by omega)).1;obtain⟨h2,h3⟩:=LL args left (uM v.f+(name.length:Int) / 30) h.2.2.2 (by omega) hs hl
  grind
def LL:∀(l:List sA) (left n:Int),sA.oks l->0<=n->rN l left n<=left->left<=2000->n+l.length<=left/\sA.cpys l
 | [],left,n,_,_,hs,_=>by
  grind [rN,sA.cpys]
 | x::l,left,n,h,hn,hs,hl=>by
  unfold sA.oks at h;unfold rN at hs;unfold sA.cpys;by_cases hc:n<=left
  ·rw[yab hc]at hs;have h1:=Ul x (left-n) h.1;have h2:=(Ej l left (n+wJ x (left-n)) h.2 (by omega)).1;obtain⟨h3,h4⟩:=LL l left _ h.2 (by omega) hs hl;exact⟨by grind,Qy x (left-n) h.1 (by omega) (by omega),h4⟩
  omega
end
def CF:∀(l:List nE) (n:Int),n<=lW l n
 | [],n=>by grind [lW]
 | d::l,n=>by
  unfold lW;split
  ·have:=CF l (n+(d.name.length:Int) / 30);omega
  ·omega
def DG:∀(l:List oE) (n:Int),n<=iQ l n/\(iQ l n<=2000->0<=n->l.length+n<=2000/\∀r∈l,r.f.n.limbs.length<300000/\r.f.d.limbs.length<300000)
 | [],n=>by grind [iQ]
 | r::l,n=>by
  obtain⟨h1,h2⟩:=DG l (n+(uM r.f:Nat))
  grind [Xz,iQ]
def AT:∀(l:List wD) (n:Int),n<=aS l n/\(aS l n<=2000->0<=n->∀x∈l,x.rows.length<300000/\∀r∈x.rows,r.f.n.limbs.length<300000/\r.f.d.limbs.length<300000)
 | [],n=>by grind [aS]
 | x::l,n=>by
  obtain⟨r1,r2⟩:=DG x.rows (n+(x.name.length:Int) / 30);obtain⟨h1,h2⟩:=AT l (iQ x.rows (n+(x.name.length:Int) / 30))
  grind [aS]
def Yv:∀(l:List dD) (n:Int),(∀x∈l,x.fit)->0<=n->n<=gQ l n/\(gQ l n<=2000->∀x∈l,sA.cpy x.when_/\sA.cpy x.then_)
 | [],n,_,_=>by grind [gQ]
 | x::l,n,hf,hn=>by
  have hx:=hf x (by simp);have p1:=Ul x.when_ (2000-n) (sA.fit_ok hx.2.2.2.2.2.1);have p2:=Ul x.then_ (2000-iM x n) (sA.fit_ok hx.2.2.2.2.2.2);have hw:n<=iM x n/\wJ x.when_ (2000-n)<=iM x n-n:=by grind [iM]
  unfold gQ;split
  ·split
   ·obtain⟨h1,h2⟩:=Yv l (iM x n+wJ x.then_ (2000-iM x n)) (fun y hy=>hf y (by simp[hy])) (by omega);refine⟨by omega,fun h q hq=>?_⟩;rcases ybs.1 hq with rfl | hq
    ·exact⟨Qy _ (2000-n) (sA.fit_ok hx.2.2.2.2.2.1) (by omega) (by omega),Qy _ (2000-iM q n) (sA.fit_ok hx.2.2.2.2.2.2) (by omega) (by omega)⟩
    simp_all
   ·obtain⟨h1,_⟩:=Yv l (iM x n) (fun y hy=>hf y (by simp[hy])) (by omega);omega
  omega
def zbt{p:qD}(hp:p.fit)(h:Ng p<=2000):qD.cpy p/\p.clauses.length<=2000:=by
 unfold Ng at h;have h1:=CF p.defs (1+(p.name.length:Int) / 30+p.defs.length+p.tables.length+p.clauses.length);obtain⟨h2,h3⟩:=AT p.tables (lW p.defs (1+(p.name.length:Int) / 30+p.defs.length+p.tables.length+p.clauses.length));obtain⟨h4,h5⟩:=Yv p.clauses (aS p.tables (lW p.defs (1+(p.name.length:Int) / 30+p.defs.length+p.tables.length+p.clauses.length))) hp.clauses (by omega)
 exact⟨⟨by omega,by omega,by omega,h3 (by omega) (by omega),h5 h⟩,by omega⟩
end
end Go.Proofs
namespace Go.Am
open Go Go.RowKit
section
variable {t tf tf0:Tr qA}{C:dA}
def zaf{T el sz k m n b q:Nat}{x:zA}{new:List zA}(hT:cL C T el sz)(hl:rX x=some m)(hf:qR ⟨q,t⟩ sz m x=some new)(hk:k+m<=n) :
  sF C T T (.slice b 0 k n) x ⟨q,t⟩=(match (generalizing:=false) new with | []=>some (.slice b 0 (k+m) n,⟨q,t⟩) | _::_=>ob (rJ C ⟨q,t⟩ b (0+k*sz) new) fun H'=>some (.slice b 0 (k+m) n,H')):=by
 obtain⟨⟨y,hy1,hy2,hy3⟩,⟨z,hz1,hz2,hz3,hz4,hz5⟩,hnb⟩:=hT;unfold sF aV;rw[hy1,pA,pA,hy3];simp only[ycl,vE];rw[hy2,pA,hz1,pA,hl,pA,hz2,hf,pA];simp only[zA.asSlice];rw[mE.2 hk,cond_true];unfold fX;rw[hz2];cases new<;>rfl
end
end Go.Am
namespace Go.Am
open Go Go.RowKit
section
inductive E where
 | pl (d:D)
 | sl (sz:Nat) (l:List E) (m:List D)
 | st (l:List E)
mutual
def E.d:E->D
 | .pl d=>d
 | .sl sz l _=>.sl sz (E.ds l)
 | .st l=>.st (E.ds l)
def E.ds:List E->List D
 | []=>[]
 | e::l=>e.d::E.ds l
end
mutual
def LE (t:Tr qA):E->List zA->Prop
 | .pl d,cs=>RD t d cs
 | .sl sz l m,cs=>∃b cl cm,cs=[.slice b 0 cl.length (cl.length+cm.length)]/\pJ t sz (.slice b 0 (cl++cm).length (cl++cm).length) (cl++cm)/\rE t l cl/\jC t m cm
 | .st l,cs=>∃cl,cs=cl.flatten/\rE t l cl
def rE (t:Tr qA):List E->List (List zA)->Prop
 | [],cl=>cl=[]
 | e::l,cl=>∃c r,cl=c::r/\LE t e c/\rE t l r
end
section
variable {t t' tf:Tr qA}{C:dA}
def tQ{e:E}{l:List E}{cl:List (List zA)}:rE t (e::l) cl ↔ ∃c r,cl=c::r/\LE t e c/\rE t l r:=by rw[rE]
def fS{cl:List (List zA)}:rE t [] cl ↔ cl=[]:=by rw[rE]
def vW{d:D}{cs:List zA}:LE t (.pl d) cs ↔ RD t d cs:=by rw[LE]
def Aq{l:List E}{cs:List zA}:LE t (.st l) cs ↔ ∃cl,cs=cl.flatten/\rE t l cl:=by rw[LE]
theorem E.ds_map:∀(l:List E),E.ds l=l.map E.d
 | []=>rfl
 | e::l=>by rw[E.ds,E.ds_map l,ycm]
mutual
theorem LE.mono(h:xB t t'):∀(e:E) (cs:List zA),LE t e cs->LE t' e cs
 | .pl d,cs,k=>by grind [LE,RD.mono]
 | .sl sz l m,cs,k=>by
  rw[LE]at k ⊢;obtain⟨b,cl,cm,h1,h2,h3,h4⟩:=k;exact⟨b,cl,cm,h1,h2.mono h,rE.mono h l cl h3,jC.mono h _ _ h4⟩
 | .st l,cs,k=>by
  rw[LE]at k ⊢;obtain⟨cl,h1,h2⟩:=k;exact⟨cl,h1,rE.mono h l cl h2⟩
theorem rE.mono(h:xB t t'):∀(l:List E) (cl:List (List zA)),rE t l cl->rE t' l cl
 | [],cl,k=>by grind [rE]
 | e::l,cl,k=>by
  rw[rE]at k ⊢;obtain⟨c,r,h1,h2,h3⟩:=k;exact⟨c,r,h1,LE.mono h e c h2,rE.mono h l r h3⟩
end
theorem XQ{sz b:Nat}{cl cm:List (List zA)}(h:pJ t sz (.slice b 0 (cl++cm).length (cl++cm).length) (cl++cm)):pJ t sz (.slice b 0 cl.length (cl.length+cm.length)) cl:=by
 rcases h with⟨h,_⟩ | ⟨b',off,cap,h1,h2,h3,h4⟩
 ·cases h
 ·cases h1;refine .inr ⟨b,0,_,rfl,by omega,h3,fun i cs hi=>h4 i cs ?_⟩
  grind
mutual
theorem LE.rd:∀(e:E) (cs:List zA),LE t e cs->RD t e.d cs
 | .pl d,cs,k=>by rw[LE]at k;exact k
 | .sl sz l m,cs,k=>by
  rw[LE]at k;obtain⟨b,cl,cm,rfl,h2,h3,h4⟩:=k;rw[E.d,RD];exact⟨_,cl,rfl,XQ h2,rE.rd l cl h3⟩
 | .st l,cs,k=>by
  rw[LE]at k;obtain⟨cl,h1,h2⟩:=k;rw[E.d,RD];exact⟨cl,h1,rE.rd l cl h2⟩
theorem rE.rd:∀(l:List E) (cl:List (List zA)),rE t l cl->jC t (E.ds l) cl
 | [],cl,k=>by grind [rE,E.ds,jC]
 | e::l,cl,k=>by
  rw[rE]at k;obtain⟨c,r,h1,h2,h3⟩:=k;rw[E.ds,jC];exact⟨c,r,h1,LE.rd e c h2,rE.rd l r h3⟩
end
theorem rE.length:∀ {l:List E} {cl:List (List zA)},rE t l cl->cl.length=l.length:=by
 intro l cl h;have:=(rE.rd l cl h).length
 grind [E.ds_map]
theorem rE.get:∀ {l:List E} {cl:List (List zA)} {i:Nat} {e:E},rE t l cl->l[i]?=some e->∃cs,cl[i]?=some cs/\LE t e cs:=by
 intro l;induction l with
 | nil=>simp_all
 | cons x l ih=>
  grind [rE]
theorem rE.app:∀ {l m:List E} {cl cm:List (List zA)},rE t l cl->rE t m cm->rE t (l++m) (cl++cm)
 | [],m,cl,cm,h,k=>by
  grind [rE]
 | d::l,m,cl,cm,h,k=>by
  obtain⟨c,r,rfl,h1,h2⟩:=tQ.1 h;exact tQ.2 ⟨c,r++cm,rfl,h1,rE.app h2 k⟩
def rE.split:∀ {l m:List E} {cl:List (List zA)},rE t (l++m) cl->∃c1 c2,cl=c1++c2/\rE t l c1/\rE t m c2
 | [],m,cl,h=>⟨[],cl,rfl,fS.2 rfl,h⟩
 | e::l,m,cl,h=>by
  obtain⟨c,r,rfl,h1,h2⟩:=tQ.1 h;obtain⟨c1,c2,rfl,h3,h4⟩:=rE.split h2;exact⟨c::c1,c2,rfl,tQ.2 ⟨c,c1,rfl,h1,h3⟩,h4⟩
def Lv:∀ {m:List D} {cl:List (List zA)},rE t (m.map E.pl) cl ↔ jC t m cl
 | [],cl=>by rw[List.map_nil,rE,jC]
 | d::m,cl=>by
  rw[ycm,rE,jC];constructor
  ·rintro⟨c,r,h1,h2,h3⟩;exact⟨c,r,h1,vW.1 h2,Lv.1 h3⟩
  ·rintro⟨c,r,h1,h2,h3⟩;exact⟨c,r,h1,vW.2 h2,Lv.2 h3⟩
theorem rE.ones(l:List E)(cl:List (List zA))(h:rE t l cl):∀a∈cl.flatten,zA.one a=true:=jC.ones _ _ (rE.rd l cl h)
def Room (tf t:Tr qA)(b sz cap:Nat)(es:List E):Prop:=es.length<=cap/\∃cl c,t.get b=some (.cells c (cap*sz) none)/\(∀(i:Nat) cs,cl[i]?=some cs->cs.length=sz/\∀(j:Nat) a,cs[j]?=some a->c.get (i*sz+j)=some a)/\rE tf es cl
def kJ(b sz cap:Nat)(es:List E):nG where
 blks:=[b]
 ok:=fun tf t=>Room tf t b sz cap es
 keep:=fun h hf k=>by
  obtain⟨h0,cl,c,h1,h2,h3⟩:=h;exact⟨h0,cl,c,by simp_all,h2,rE.mono hf _ _ h3⟩
 live:=fun h k hk=>by
  rw[ydd]at hk;subst hk;obtain⟨_,cl,c,h1,_⟩:=h
  simp_all
theorem DT{z:List zA}:∀n,oB (lJ z n)=n*oB z
 | 0=>by show oB []=_;rw[pD];simp
 | n+1=>by
  have:=DT (z:=z) n;show oB (bD z (lJ z n))=_;rw[pD,pD]at this ⊢;rw[wH,ybg,this,ybo,Nat.one_mul,yap]
theorem RS{T el sz cap n:Nat}{L:List nG}(hT:cL C T el sz)(hcap:cap<1000000)(ho:vD C.base tf t L)(hn:t.get n=none)(hb:C.base<=n) :
  ∃t',dJ C T (.int .i64 0) (.int .i64 (cap:Int)) ⟨n,t⟩=some (.slice n 0 0 cap,⟨n+1,t'⟩)/\vD C.base tf t' (kJ n sz cap []::L):=by
 obtain⟨⟨y,hy1,hy2,hy3⟩,⟨z,hz1,hz2,hz3,hz4,hz5⟩,hnb⟩:=hT;refine⟨t.set n (.cells (Tr.ofList (lJ z.zero cap)) (oB (lJ z.zero cap)) none),?_,?_⟩
 ·unfold dJ;rw[hy1,pA,hy2,pA,hz1,pA];have e1:(zA.int .i64 (cap:Int)).asNat=some cap:=rfl;have e0:(zA.int .i64 0).asNat=some 0:=rfl;rw[e1,e0,pA,pA];have e2:(Nat.ble 0 cap&&Nat.blt cap 1000000&&Nat.blt (cap*z.bytes) 1000000000&&Nat.beq (oB z.zero) z.size)=true:=by
   rw[hz3,hz2,show Nat.ble 0 cap=true from mE.2 (yaw _),pC.2 hcap];have:cap*z.bytes<1000000000:=by
    have:=ydb (Nat.le_of_lt hcap) hz4;omega
   simp_all
  rw[e2,vE];rfl
 ·refine vD.add (A:=[]) (o':=kJ n sz cap []) ho (fun k hk=>?_) (fun k hk=>?_) ⟨yaw _,[],Tr.ofList (lJ z.zero cap),?_,fun i cs hi=>by simp at hi,fS.2 rfl⟩ (by simp[kJ]) (ho.tle.trans (tM hn _).1)
  all_goals grind [Tr.get_set,kJ,DT]
theorem Vc{T el sz b cap n:Nat}{A B:List nG}{es em:List E}{x:zA}{cm:List (List zA)}(hT:cL C T el sz)(h:vD C.base tf t (A++kJ b sz cap es::B))(hx:pJ t sz x cm)(hm:rE tf em cm)(hle:es.length+em.length<=cap) :
  ∃t',sF C T T (.slice b 0 es.length cap) x ⟨n,t⟩=some (.slice b 0 (es.length+em.length) cap,⟨n,t'⟩)/\vD C.base tf t' (A++kJ b sz cap (es++em)::B):=by
 obtain⟨h0,cl,c,h1,h2,h3⟩:Room tf t b sz cap es:=h.ok (kJ b sz cap es) (by simp);obtain⟨hlow1,hlow2⟩:=h.low b (by grind [kJ]);obtain⟨hf,hl⟩:=hx.first (n:=n);have hlen:=hm.length;have hcl:=h3.length;have hall:=hx.len;have hfl:=Yb hall;rw[zaf hT hl hf (by omega)];have hfin:∀t',t'.get b=some (.cells (c.setMany cm.flatten (0+es.length*sz)) (cap*sz) none)->sE b t t'->vD C.base tf t' (A++kJ b sz cap (es++em)::B):=by
  intro t' g1 g2;refine h.upd (o':=kJ b sz cap (es++em)) (fun k k1 _=>g2 k (by grind [kJ])) (fun k hk=>.inl (by grind [kJ])) ⟨by grind,cl++cm,_,g1,fun i cs hi=>?_,h3.app hm⟩ (by simp[kJ]) (h.tle.off hlow2 g2);rw[List.getElem?_append]at hi;split at hi
  ·rename_i hlt;obtain⟨k1,k2⟩:=h2 i cs hi;refine⟨k1,fun j a hj=>?_⟩;have hjl:j<sz:=by grind
   have:i*sz+j<es.length*sz:=by
    have:=ybi sz (show i+1<=es.length by omega)
    grind
   grind [Tr.get_setMany]
  ·rename_i hge;have k1:=hall _ cs hi;refine⟨k1,fun j a hj=>?_⟩;have hf1:=Cq hall _ j cs a hi hj;have hlt:=(ybc.1 hf1).1;have e:i*sz=es.length*sz+(i-cl.length)*sz:=by rw[<- ybo];simp_all
   grind [Tr.get_setMany]
 cases hq:cm.flatten with
 | nil=>
  refine⟨t,by rw[hlen],hfin t ?_ (sE.refl _ _)⟩;rw[hq];exact h1
 | cons a r=>
  refine⟨t.set b (.cells (c.setMany cm.flatten (0+es.length*sz)) (cap*sz) none),?_,hfin _ (by rw[Tr.get_set,yab rfl]) fun d hd=>by rw[Tr.get_set,yaa hd]⟩;show ob (rJ C ⟨n,t⟩ b (0+es.length*sz) (a::r)) _=_;rw[<- hq];unfold rJ mD;have e2:(!Nat.blt b C.base)=true:=by
   grind [pC]
  simp only[];rw[e2,vE,h1,pA];simp only[qA.asCells,pA];have hmul:=ybi sz (show es.length+cm.length<=cap by omega);rw[ybo]at hmul;have e3:Nat.ble (0+es.length*sz+oB cm.flatten) (cap*sz)=true:=by grind [pD,mE]
  have e4:eE zA.one cm.flatten=true:=by grind [mI,rE.ones]
  rw[e3,e4,hlen];rfl
theorem BY{T el sz b n cap k m:Nat}{agg:Bool}{c:Tr zA}{lo:Option Lo}(hT:lD C T el sz agg)(hg:t.get b=some (.cells c m lo))(hlo:lo=none\/∃x,lo=some x/\x.es=sz)(hk:k<=cap) :
  qE C T ⟨0,t⟩ (.slice b 0 n cap) none (some (.int .i64 (k:Int)))=some (.slice b 0 k cap):=by
 obtain⟨⟨y,hy1,hy2⟩,⟨z,hz1,hz2,hz3⟩⟩:=hT;unfold qE;rw[hy1,pA];unfold vM;simp only[zA.asStr,zA.asSlice];rw[hy2,pA];unfold sN;rw[hz1,pA];have hb:eV cap (.int .i64 (k:Int))=pB (Nat.ble k cap) (some k):=rfl;unfold iO Ac;simp only[hb];rw[mE.2 hk];simp only[vE,pA];have he2:nL ⟨0,t⟩ b z.size cap 0 false=false:=by
  unfold nL mD;rw[hg,pA];simp only[qA.asCells];rcases hlo with rfl | ⟨x,rfl,hx⟩
  ·rfl
  ·simp
 rw[he2];have hft:wM ⟨0,t⟩ b z.size cap 0 false=true:=by
  unfold wM mD;rw[hg,pA];simp only[qA.asCells];rcases hlo with rfl | ⟨x,rfl,hx⟩
  all_goals simp_all
 rw[hft,mE.2 hk];simp only[yay,Bool.and_true,cond_false,vE,Nat.zero_mul,yct,Nat.sub_zero];cases Nat.beq cap 0<;>rfl
theorem RT{T el sz b cap:Nat}{agg:Bool}{A B:List nG}{l:List E}{m:List D}(hT:lD C T el sz agg)(h:vD C.base tf t (A++kJ b sz cap (l++m.map E.pl)::B))(hc:l.length+m.length=cap) :
  qE C T ⟨0,t⟩ (.slice b 0 cap cap) none (some (.int .i64 (l.length:Int)))=some (.slice b 0 l.length cap)/\∃tf',xB tf tf'/\vD C.base tf' t (A++B)/\LE tf' (.sl sz l m) [.slice b 0 l.length cap]:=by
 obtain⟨h0,cl,c,h1,h2,h3⟩:Room tf t b sz cap (l++m.map E.pl):=h.ok (kJ b sz cap (l++m.map E.pl)) (by simp);obtain⟨hlow1,hlow2⟩:=h.low b (by grind [kJ]);refine⟨BY hT h1 (.inl rfl) (by omega),tf.set b (.cells c (cap*sz) none),(tM hlow2 _).1,?_,?_⟩
 ·exact(h.drop.froze (h.notin (o:=kJ b sz cap (l++m.map E.pl)) (by simp[kJ])) h1 hlow2).1
 ·obtain⟨c1,c2,rfl,k1,k2⟩:=h3.split;rw[Lv]at k2;have l1:=k1.length;have l2:=k2.length;rw[LE];refine⟨b,c1,c2,by rw[l1,l2,hc],.inr ⟨b,0,_,rfl,ybk _,⟨c,_,none,by rw[Tr.get_set,yab rfl],.inl rfl⟩,fun i cs hi=>?_⟩,rE.mono (tM hlow2 _).1 _ _ k1,jC.mono (tM hlow2 _).1 _ _ k2⟩;obtain⟨g1,g2⟩:=h2 i cs hi;exact⟨g1,c,_,none,by rw[Tr.get_set,yab rfl],fun j a hj=>by simp_all⟩
def Dg(base:Nat)(tf:Tr qA)(L:List nG)(sz:Nat)(l:List E)(m:List D)(Q:aB):Prop:=∀tf' t' v,xB tf tf'->vD base tf' t' L->LE tf' (.sl sz l m) [v]->Q v t'
def nU(base:Nat)(W:kI)(g:Nat)(e:E):Prop:=∀ ⦃L:List nG⦄ ⦃tf t:Tr qA⦄ ⦃cs:List zA⦄ ⦃Q:aB⦄,vD base tf t L->RD tf e.d cs->(∀tf' t' cs',xB tf tf'->vD base tf' t' L->LE tf' e cs'->Q (.agg cs') t')->W g [.agg cs] t Q
theorem LE.sl{sz:Nat}{l:List E}{m:List D}{cs:List zA}(h:LE t (.sl sz l m) cs):∃v,cs=[v]/\lA t sz (l.map E.d) v:=by
 have:=LE.rd _ _ h
 grind [E.d,oM,E.ds_map]
def zjf(C:dA)(S sz:Nat)(w:zA)(c:List zA):Prop:=∀n (t:Tr qA),t.get n=none->∃t',oG C S 1 [(0,w)] ⟨n,t⟩=some (.slice n 0 1 1,⟨n+1,t'⟩)/\pJ t' sz (.slice n 0 1 1) [c]/\sE n t t'
theorem Jn{S el sz:Nat}{cs:List zA}(hT:cL C S el sz)(hc:cs.length=sz)(hs:sz<1000000):zjf C S sz (.agg cs) cs:=fun n t hn=>by
 grind [lit1]
theorem TU{S el:Nat}{k:IntKind}{x:Int}(hT:cL C S el 1):zjf C S 1 (.int k x) [.int k x]:=fun n t hn=>by
 obtain⟨⟨y,hy1,hy2,_⟩,⟨z,hz1,hz2,hz3,_,_⟩,_⟩:=hT;obtain⟨t',h1,h2,h3,h4⟩:=Pb (t:=t) (C:=C) (n:=1) (ps:=[(0,.int k x)]) (cl:=[[.int k x]]) hy1 hy2 hz1 hz2 hz3 (by omega) (by
  have e:lJ z.zero 1=z.zero:=by show bD z.zero []=z.zero;rw[wH,ycd]
  rw[e];unfold kN eZ;have e1:(zA.int k x).cells=[.int k x]:=rfl
  grind [pD,pA,tS,oT,wH,oC,mE,vE,kN]) (fun i q hq=>by
  grind) rfl hn
 simp_all
section
variable {W J:kI}{S el sz p:Nat}{agg:Bool}{L:List nG}{l:List E}{m:List D}{v0:zA}{Q:aB}{tf0:Tr qA}
theorem Fl{w:Nat->zA}{cm:Nat->List zA}(hT:cL C S el sz)(hS:lD C S el sz agg)(hm:m.length=12)(hmr:∀i,i<12->∃d,m[i]?=some d/\∀t,RD t d (cm i))
  (hw:∀i,i<12->zjf C S sz (w i) (cm i))
  (h1:∀(i:Nat),i<12->∀v t,iA C.base W J (.heavy (oG C S 1 [(0,w i)]) fun a2=>.heavy (sF C S S v a2) fun a3=>.jump p [v0,a3,.int .i64 (jA .i64 ((i:Int)+1))]) t Q->J p [v0,v,.int .i64 (i:Int)] t Q)
  (h2:∀v t,iA C.base W J (.opt (cA v0) fun a4=>.asI .i64 a4 fun n5=>.light (fun m=>qE C S ⟨0,m⟩ v none (some (.int .i64 n5))) fun a6=>.ret a6) t Q->J p [v0,v,.int .i64 12] t Q)
  (hlen:cA v0=some (.int .i64 (l.length:Int))) (hQ:Dg C.base tf0 L sz l m Q) {b:Nat} :
  ∀(k i:Nat) (tf t:Tr qA),i+k=12->xB tf0 tf->vD C.base tf t (kJ b sz (l.length+12) (l++(m.take i).map E.pl)::L)->J p [v0,.slice b 0 (l.length+i) (l.length+12),.int .i64 (i:Int)] t Q:=by
 intro k;induction k with
 | zero=>
  intro i tf t hi hf ho;have:i=12:=by omega
  subst this;refine h2 _ _ ?_;simp only[iA];rw[hlen,xA,fB,xA];rw[yca (by omega)]at ho;obtain⟨k1,tf',k2,k3,k4⟩:=RT (A:=[]) hS ho (by omega);rw[k1,xA];exact hQ tf' t _ (hf.trans k2) k3 k4
 | succ k ih=>
  intro i tf t hi hf ho;have hlt:i<12:=by omega
  refine h1 i hlt _ _ ?_;simp only[iA];intro n hn _;obtain⟨t1,a1,a2,a3⟩:=hw i hlt n t hn;rw[a1,xA];intro n2 hn2 _;obtain⟨d,d1,d2⟩:=hmr i hlt;have hl:(l++(m.take i).map E.pl).length=l.length+i:=by grind
  obtain⟨t2,c1,c2⟩:=Vc (n:=n2) (A:=[]) (em:=[E.pl d]) hT (ho.junk hn a3) a2 (tQ.2 ⟨_,_,rfl,vW.2 (d2 _),fS.2 rfl⟩) (by grind);rw[hl]at c1;rw[c1,xA,wrap_i64 (by omega) (by omega)];have e:l++(m.take i).map E.pl++[E.pl d]=l++(m.take (i+1)).map E.pl:=by
   grind [List.take_add_one]
  grind
def zhi(C:dA)(S el g p q:Nat)(zs:List zA)(v0 v:zA)(i:Int):T:=
 .opt (cA v0) fun a0=>.asI .i64 a0 fun n1=>.ite (kB i n1)
  (.opt (bC C S v0 (.int .i64 i)) fun a2=>.light (fun m=>vC C el ⟨0,m⟩ a2) fun a3=>.asG zs a3 fun X=>
   .call g [.agg (dK zs X 0)] fun a5=>.asG zs a5 fun Y=>
   .ite (eE zA.one (dK zs Y 0)) (.heavy (oG C S 1 [(0,.agg (dK zs Y 0))]) fun a7=>.heavy (sF C S S v a7) fun a8=>.jump p [v0,a8,.int .i64 (jA .i64 (i+1))]) .fail)
  (.jump q [v0,v,.int .i64 0])
theorem Pj{g q:Nat}{zs:List zA}{b:Nat}(hT:cL C S el sz)(hS:lD C S el sz true)(hsz:sz<1000000)(hz:∀e∈l,e.d.zs=zs)(hg:∀e∈l,nU C.base W g e)(hlen:l.length<300000)
  (hj:∀v i t,iA C.base W J (zhi C S el g p q zs v0 v i) t Q->J p [v0,v,.int .i64 i] t Q)
  (hend:∀tf t,xB tf0 tf->vD C.base tf t (kJ b sz (l.length+12) l::L)->J q [v0,.slice b 0 l.length (l.length+12),.int .i64 0] t Q) (h0:lA tf0 sz (l.map E.d) v0) :
  ∀(k i:Nat) (tf t:Tr qA),i+k=l.length->xB tf0 tf->vD C.base tf t (kJ b sz (l.length+12) (l.take i)::L)->J p [v0,.slice b 0 i (l.length+12),.int .i64 (i:Int)] t Q:=by
 intro k;induction k with
 | zero=>
  intro i tf t hi hf ho;have:i=l.length:=by omega
  subst this;refine hj _ _ _ ?_;simp only[zhi,iA];rw[h0.len,xA,fB,xA,ybf,yaa (fun e=>by grind [wC])]
  grind
 | succ k ih=>
  intro i tf t hi hf ho;have hlt:i<l.length:=by omega
  have hd:l[i]?=some l[i]:=ybd hlt;have hm:l[i]∈l:=ycj hlt;have hd':(l.map E.d)[i]?=some (l[i]).d:=by simp_all
  obtain⟨pb,off,cs,g1,g2,g3,g4,g5⟩:=lD.at (t:=tf) hS (by simp) (h0.mono hf) hd';obtain⟨b',off',cs',f1,f2,f3,f4,f5⟩:=lD.at (t:=t) hS (by simp) (h0.mono (hf.trans ho.tle)) hd';rw[g1]at f1;cases f1;have ecs:cs'=cs:=by
   obtain⟨c,n,lo,q1,q2⟩:=g3;obtain⟨c',n',lo',q3,q4⟩:=f3;rw[ho.tle _ _ q1]at q3;cases q3;refine List.ext_getElem? fun j=>?_
   grind
  subst ecs;refine hj _ _ _ ?_;simp only[zhi,iA];rw[h0.len,xA,fB,xA,ybf,yab (wC.2 (by omega)),g1,xA,f2,xA];have hzz:=hz _ hm;show oF (yN zs (.agg cs')) _;rw[rG g5 hzz,xA,g5.mk hzz];refine hg _ hm ho g5 fun tf' t' cs2 k1 k2 k3=>?_;have k3d:=LE.rd _ _ k3;rw[rG k3d hzz,xA,k3d.mk hzz,yab k3d.all];intro n hn _;have hl2:cs2.length=sz:=by
   have e1:=g5.mk hzz;have e2:=k3d.mk hzz;have key:∀(zs:List zA) (X Y:xJ) (j:Nat),(dK zs X j).length=(dK zs Y j).length:=by
    intro zs;induction zs with
    | nil=>intro X Y j;rfl
    | cons z zs ih=>
     intro X Y j;show(Ju z X j::dK zs X (j+1)).length=(Ju z Y j::dK zs Y (j+1)).length;rw[ybn,ybn,ih X Y (j+1)]
   grind
  obtain⟨t1,a1,a2,a3,a4⟩:=lit1 (C:=C) hT hl2 hsz hn;rw[a1,xA];intro n2 hn2 _;have hl:(l.take i).length=i:=by grind
  obtain⟨t2,c1,c2⟩:=Vc (n:=n2) (A:=[]) (em:=[l[i]]) hT (k2.junk hn a4) a2 (tQ.2 ⟨_,_,rfl,k3,fS.2 rfl⟩) (by grind);rw[hl]at c1;rw[c1,xA,wrap_i64 (by omega) (by omega)];have e:l.take i++[l[i]]=l.take (i+1):=by simp_all
  rw[e]at c2;exact ih (i+1) tf' t2 (by omega) (hf.trans k1) c2
theorem Fm{K:zA->T}{ds:List D}(hT:cL C S el sz)(hlen:ds.length<300000)(h0:lA tf sz ds v0)(ho:vD C.base tf t L)
  (hK:∀b t',vD C.base tf t' (kJ b sz (ds.length+12) []::L)->iA C.base W J (K (.slice b 0 0 (ds.length+12))) t' Q) :
  iA C.base W J (.opt (cA v0) fun a0=>.asI .i64 a0 fun n1=>.heavy (dJ C S (.int .i64 0) (.int .i64 (jA .i64 (n1+12)))) K) t Q:=by
 simp only[iA];rw[h0.len,xA,fB,xA,wrap_i64 (by omega) (by omega),show(ds.length:Int)+12=((ds.length+12:Nat):Int) by omega];intro n hn hb;obtain⟨t',c1,c2⟩:=RS (cap:=ds.length+12) hT (by omega) ho hn hb
 simp_all
theorem GM{K:zA->T}{ds:List D}{b cap:Nat}(hT:cL C S el sz)(hlen:ds.length<=cap)(h0:lA tf sz ds v0)(ho:vD C.base tf t (kJ b sz cap []::L))
  (hK:∀t',vD C.base tf t' (kJ b sz cap (ds.map E.pl)::L)->iA C.base W J (K (.slice b 0 ds.length cap)) t' Q) :
  iA C.base W J (.heavy (sF C S S (.slice b 0 0 cap) v0) K) t Q:=by
 simp only[iA];intro n hn _;obtain⟨cl,he,hd⟩:=h0;obtain⟨t2,c1,c2⟩:=Vc (n:=n) (A:=[]) (em:=ds.map E.pl) hT ho (he.mono ho.tle) (Lv.2 hd) (by simp_all)
 simp_all
end
end
end
section
section
variable {t:Tr qA}{C:dA}{W J:kI}{S el sz p:Nat}{Q:aB}{zs:List zA}
def lD.atc{T:Nat}(h:lD C T el sz true){v:zA}{cl:List (List zA)}(he:pJ t sz v cl){i:Nat}{cs:List zA}(hc:cl[i]?=some cs) :
  ∃b off,bC C T v (.int .i64 (i:Int))=some (.ptr b off)/\vC C el ⟨0,t⟩ (.ptr b off)=some (.agg cs):=by
 obtain⟨⟨y,hy1,hy2⟩,⟨z,hz1,hz2,hz3⟩⟩:=h;rcases he with⟨rfl,rfl⟩ | ⟨b,off,cap,rfl,_,_,he⟩
 ·simp at hc
 ·obtain⟨hl,ha⟩:=he i cs hc;have hlt:i<cl.length:=(ybc.1 hc).1;refine⟨b,off+i*sz,?_,?_⟩
  ·unfold bC;rw[hy1,pA];have:(zA.int .i64 (i:Int)).asNat=some i:=rfl;rw[this,pA];simp only[zA.asSlice];rw[hy2,pA,hz1,pA,pC.2 hlt,hz2];rfl
  ·have:=ha.load (j:=0) hz1 hz3 hz2 (by omega);simp only[yct,ycr]at this;rw[this,<- hl,List.take_length]
abbrev Cmp:=List zA->List zA->(zA->T)->T
def kS (g:Nat):Cmp:=fun a b K=>.call g [.agg a,.agg b] K
def zgq(C:dA)(S el p:Nat)(g:Cmp)(zs:List zA)(ne:Bool->Bool)(v0 v1:zA)(i:Int):T:=
 .opt (cA v0) fun a0=>.asI .i64 a0 fun n1=>.ite (kB i n1)
  (.opt (bC C S v0 (.int .i64 i)) fun a2=>.light (fun m=>vC C el ⟨0,m⟩ a2) fun a3=>.asG zs a3 fun X4=>
   .opt (bC C S v1 (.int .i64 i)) fun a5=>.light (fun m=>vC C el ⟨0,m⟩ a5) fun a6=>.asG zs a6 fun X7=>
   g (dK zs X4 0) (dK zs X7 0) fun a8=>.asB a8 fun b9=>.ite (ne b9) (.ret (.bool false)) (.jump p [v0,v1,.int .i64 (jA .i64 (i+1))]))
  (.ret (.bool true))
theorem Ix{g:Cmp}{ne:Bool->Bool}{ok:Bool}{ds:List D}{v0 v1:zA}(hS:lD C S el sz true)(hz:∀d∈ds,d.zs=zs)(hne:ne ok=false)
  (hg:∀d∈ds,∀cs cs' K,RD t d cs->RD t d cs'->iA C.base W J (K (.bool ok)) t Q->iA C.base W J (g cs cs' K) t Q) (hlen:ds.length<300000)
  (hj:∀i,iA C.base W J (zgq C S el p g zs ne v0 v1 i) t Q->J p [v0,v1,.int .i64 i] t Q) (h0:lA t sz ds v0) (h1:lA t sz ds v1) (hQ:Q (.bool true) t) :
  ∀(k i:Nat),i+k=ds.length->J p [v0,v1,.int .i64 (i:Int)] t Q:=by
 intro k;induction k with
 | zero=>
  intro i hi;refine hj _ ?_;unfold zgq;exact uA h0.len (zB (bA (fun e=>by grind [wC]) hQ))
 | succ k ih=>
  intro i hi;have hlt:i<ds.length:=by omega
  have hd:ds[i]?=some ds[i]:=ybd hlt;have hm:ds[i]∈ds:=ycj hlt;obtain⟨b,off,cs,g1,g2,g3,g4,g5⟩:=lD.at hS (by simp) h0 hd;obtain⟨b',off',cs',f1,f2,f3,f4,f5⟩:=lD.at hS (by simp) h1 hd;have hzz:=hz _ hm;refine hj _ ?_;unfold zgq;refine uA h0.len (zB (oA (wC.2 (by omega)) (uA g1 (yC g2 (fE (rG g5 hzz) (uA f1 (yC f2 (fE (rG f5 hzz) ?_))))))));rw[g5.mk hzz,f5.mk hzz];refine hg _ hm _ _ _ g5 f5 (rC (bA (by simp_all) (zC ?_)))
  rw[wrap_i64 (by omega) (by omega)];exact ih (i+1) (by omega)
def Mn(C:dA)(S el mk p:Nat)(s:Cmp)(zs:List zA)(v1 v5:zA)(i:Int):T:=
 .opt (cA v1) fun a12=>.asI .i64 a12 fun n13=>.ite (xC n13 i)
  (.opt (bC C S v5 (.int .i64 i)) fun a14=>.light (fun m=>vC C el ⟨0,m⟩ a14) fun a15=>.asG zs a15 fun X16=>
   .opt (cA v1) fun a17=>.asI .i64 a17 fun n18=>.call mk [.int .i64 1,.int .i64 (jA .i64 (i-n18))] fun a19=>.asG zs a19 fun X20=>
   .light (fun m=>vC C el ⟨0,m⟩ a14) fun a21=>.ite (same 10 a21 (.agg (dK zs X16 0)))
   (s (dK zs X16 0) (dK zs X20 0) fun a22=>.asB a22 fun b23=>.ite (!b23) (.ret (.bool false)) (.jump p [v1,v5,.int .i64 (jA .i64 (i+1))])) .fail)
  (.jump p [v1,v5,.int .i64 (jA .i64 (i+1))])
def zhv(C:dA)(S el mk p:Nat)(g s:Cmp)(zs:List zA)(v1 v5:zA)(i:Int):T:=
 .opt (cA v5) fun a0=>.asI .i64 a0 fun n1=>.ite (kB i n1)
  (.opt (cA v1) fun a2=>.asI .i64 a2 fun n3=>.ite (kB i n3)
   (.opt (bC C S v5 (.int .i64 i)) fun a4=>.light (fun m=>vC C el ⟨0,m⟩ a4) fun a5=>.asG zs a5 fun X6=>
    .opt (bC C S v1 (.int .i64 i)) fun a7=>.light (fun m=>vC C el ⟨0,m⟩ a7) fun a8=>.asG zs a8 fun X9=>
    g (dK zs X6 0) (dK zs X9 0) fun a10=>.asB a10 fun b11=>.ite (!b11) (.ret (.bool false)) (Mn C S el mk p s zs v1 v5 i))
   (Mn C S el mk p s zs v1 v5 i))
  (.ret (.bool true))
theorem Ki{g s:Cmp}{mk:Nat}{l:List E}{m:List D}{cl cm:List (List zA)}{v1 v5:zA}(hS:lD C S el sz true)(hz:∀e∈l,e.d.zs=zs)(hzm:∀d∈m,d.zs=zs)
  (hg:∀e∈l,∀cs cs' K,LE t e cs->RD t e.d cs'->iA C.base W J (K (.bool true)) t Q->iA C.base W J (g cs cs' K) t Q)
  (hs:∀d∈m,∀cs cs' K,RD t d cs->RD t d cs'->iA C.base W J (K (.bool true)) t Q->iA C.base W J (s cs cs' K) t Q)
  (hmk:∀(i:Nat) d,m[i]?=some d->∃cs,RD t d cs/\∀R:aB,R (.agg cs) t->W mk [.int .i64 1,.int .i64 (i:Int)] t R)
  (hlen:l.length+m.length<400000) (hj:∀i,iA C.base W J (zhv C S el mk p g s zs v1 v5 i) t Q->J p [v1,v5,.int .i64 i] t Q)
  (h5:pJ t sz v5 (cl++cm)) (hcl:rE t l cl) (hcm:jC t m cm) (h1:lA t sz (l.map E.d) v1) (hQ:Q (.bool true) t) :
  ∀(k i:Nat),i+k=l.length+m.length->J p [v1,v5,.int .i64 (i:Int)] t Q:=by
 have l1:=hcl.length;have l2:=hcm.length;have hr5:lA t sz (E.ds l++m) v5:=⟨_,h5,by
  have app:∀ {a b:List D} {ca cb:List (List zA)},jC t a ca->jC t b cb->jC t (a++b) (ca++cb):=by
   intro a;induction a with
   | nil=>grind [jC]
   | cons d a ih=>
    grind [iH]
  grind [rE.rd]⟩
 have hn5:cA v5=some (.int .i64 ((l.length+m.length:Nat):Int)):=by
  rw[hr5.len,ybg,E.ds_map,ybf]
 have hn1:cA v1=some (.int .i64 (l.length:Int)):=by rw[h1.len,ybf]
 intro k;induction k with
 | zero=>
  intro i hi;refine hj _ ?_;unfold zhv;exact uA hn5 (zB (bA (fun e=>by grind [wC]) hQ))
 | succ k ih=>
  intro i hi;have next:iA C.base W J (.jump p [v1,v5,.int .i64 (jA .i64 ((i:Int)+1))]) t Q:=by
   refine zC ?_;rw[wrap_i64 (by omega) (by omega)];exact ih (i+1) (by omega)
  refine hj _ ?_;unfold zhv;refine uA hn5 (zB (oA (wC.2 (by omega)) (uA hn1 (zB ?_))));by_cases hlt:i<l.length
  ·have hd:l[i]?=some l[i]:=ybd hlt;have hm:l[i]∈l:=ycj hlt;have hd':(l.map E.d)[i]?=some (l[i]).d:=by simp_all
   have hzz:=hz _ hm;obtain⟨cs,g4,g5⟩:=hcl.get hd;have g5d:=LE.rd _ _ g5;obtain⟨b,off,g1,g2⟩:=lD.atc hS h5 (i:=i) (cs:=cs) (by grind);obtain⟨b',off',cs',f1,f2,f3,f4,f5⟩:=lD.at hS (by simp) h1 hd';refine oA (wC.2 (by omega)) (uA g1 (yC g2 (fE (rG g5d hzz) (uA f1 (yC f2 (fE (rG f5 hzz) ?_))))));rw[g5d.mk hzz,f5.mk hzz];grind [rC,bA,Mn,uA,zB,iD]
  ·have hlt2:i-l.length<m.length:=by omega
   have hd:m[i-l.length]?=some m[i-l.length]:=ybd hlt2;have hm:m[i-l.length]∈m:=ycj hlt2;have hzz:=hzm _ hm;obtain⟨cs,g4,g5⟩:=hcm.get hd;obtain⟨b,off,g1,g2⟩:=lD.atc hS h5 (i:=i) (cs:=cs) (by grind);obtain⟨cs',f5,f6⟩:=hmk _ _ hd;refine bA (fun e=>by grind [wC]) ?_;unfold Mn;refine uA hn1 (zB (oA (iD.2 (by omega)) (uA g1 (yC g2 (fE (rG g5 hzz) (uA hn1 (zB (yB ?_))))))))
   rw[wrap_i64 (n:=(i:Int)-(l.length:Int)) (by omega) (by omega),show(i:Int)-(l.length:Int)=((i-l.length:Nat):Int) by omega];refine f6 _ (fE (rG f5 hzz) (yC g2 ?_));rw[g5.mk hzz,f5.mk hzz];exact oA g5.sameA (hs _ hm _ _ _ g5 f5 (rC (bA (by simp) next)))
theorem Fq{agg:Bool}{l:List E}{m:List D}{v v1:zA}(hS:lD C S el sz agg)(h:LE t (.sl sz l m) [v])(hm:m.length=12)(h1:lA t sz (l.map E.d) v1)(hlen:l.length<300000)
  (hK:∀v5 cl cm,pJ t sz v5 (cl++cm)->rE t l cl->jC t m cm->J p [v1,v5,.int .i64 0] t Q) :
  iA C.base W J (.opt (cA v) fun a0=>.asI .i64 a0 fun n1=>.opt (cA v1) fun a2=>.asI .i64 a2 fun n3=>.ite (!tA n1 n3) (.ret (.bool false))
   (.opt (cA v1) fun a4=>.asI .i64 a4 fun n5=>.light (fun m=>qE C S ⟨0,m⟩ v none (some (.int .i64 (jA .i64 (n5+12))))) fun a6=>.jump p [v1,a6,.int .i64 0])) t Q:=by
 have hn1:cA v1=some (.int .i64 (l.length:Int)):=by rw[h1.len,ybf]
 rw[LE]at h;obtain⟨b,cl,cm,e,h2,h3,h4⟩:=h;have l1:=h3.length;have l2:=h4.length;cases e;have hn:cA (.slice b 0 cl.length (cl.length+cm.length))=some (.int .i64 (l.length:Int)):=by rw[<- l1];rfl
 refine uA hn (zB (uA hn1 (zB (bA (fun e=>absurd rfl (oN.1 e)) (uA hn1 (zB ?_))))));rw[wrap_i64 (by omega) (by omega),show(l.length:Int)+12=((cl.length+cm.length:Nat):Int) by omega];have h2':=h2;rcases h2' with⟨q,_⟩ | ⟨b',off,cap,q1,q2,⟨c,n,lo,q3,q4⟩,q5⟩
 ·cases q
 ·cases q1;refine yC (BY hS q3 q4 (ybk _)) (zC (hK _ cl cm ?_ h3 h4))
  simp_all
end
end
section
def zeroF:dC:=⟨⟨false,[]⟩,⟨false,[]⟩⟩
def dI(i:Nat):List Nat:=[35,1,0,0,47,i,0,0]
def sX:List D:=(List.range 12).map fun i=>D.int .u16 (((8000024+i)%65536:Nat):Int)
def Ep (i:Nat):oE:=⟨((8000024+i:Nat):Int),0,0,zeroF⟩
def Eb(i:Nat):wD:=⟨dI i,false,[]⟩
def Gy(name:List Nat):sA:=.mk 0 name ⟨0,zeroF,0⟩ []
def ziq(i:Nat):sA:=Gy (dI i)
def Gp(i:Nat):dD:=⟨[],dI i,0,0,0,false,Gy [],Gy []⟩
def defM (i:Nat):nE:=⟨dI i,0,false⟩
def cY:List D:=(List.range 12).map fun i=>(Ep i).d
def dY:List D:=(List.range 12).map fun i=>(Eb i).d
def cZ:List D:=(List.range 12).map fun i=>(ziq i).d
def Aa:List D:=(List.range 12).map fun i=>(Gp i).d
def aZ:List D:=(List.range 12).map fun i=>(defM i).d
def lF.e(w:lF):E:=.st [.pl (.bool w.neg),.sl 1 ((cC w.limbs).map E.pl) sX]
def dC.e(f:dC):E:=.st [f.n.e,f.d.e]
def lE.e(v:lE):E:=.st [.pl (.int .u8 v.kind),v.f.e,.pl (.int .i64 v.i)]
mutual
def sA.e:sA->E
 | .mk op name v args=>.st [.pl (.int .u8 op),.pl (.str name),v.e,.sl 9 (sA.es args) cZ]
def sA.es:List sA->List E
 | []=>[]
 | x::l=>x.e::sA.es l
end
def sA.es_eq(l:List sA):sA.es l=l.map sA.e:=by
 induction l with
 | nil=>rfl
 | cons x l ih=>simp[sA.es,ih]
def oE.e(r:oE):E:=.st [.pl (.int .i64 r.a),.pl (.int .i64 r.b),.pl (.int .i64 r.known),r.f.e]
def wD.e(x:wD):E:=.st [.pl (.str x.name),.pl (.bool x.two),.sl 7 (x.rows.map oE.e) cY]
def nE.e(x:nE):E:=.pl x.d
def dD.e(x:dD):E:=.st [.pl (.str x.name),.pl (.str x.label),.pl (.int .i64 x.from_),.pl (.int .i64 x.to),.pl (.int .i64 x.known),.pl (.bool x.off),x.when_.e,x.then_.e]
def qD.e(x:qD):E:=.st [.pl (.str x.name),.sl 3 (x.defs.map nE.e) aZ,.sl 3 (x.tables.map wD.e) dY,.sl 24 (x.clauses.map dD.e) Aa]
theorem Oc(l:List D):(l.map E.pl).map E.d=l:=by
 induction l with
 | nil=>rfl
 | cons d l ih=>rw[ycm,ycm,ih];rfl
theorem lF.ed(w:lF):w.e.d=w.d:=by
 unfold lF.e lF.d;simp only[E.d,E.ds,E.ds_map,Oc]
theorem dC.ed(f:dC):f.e.d=f.dd:=by
 grind [dC.e,dC.dd,E.d,E.ds,lF.ed]
theorem lE.ed(v:lE):v.e.d=v.d:=by
 simp_all [lE.e,lE.d,E.d,E.ds,dC.ed]
mutual
theorem sA.ed:∀x:sA,x.e.d=x.d
 | .mk op name v args=>by
  simp_all [sA.e,sA.d,E.d,E.ds,lE.ed,sA.eds]
theorem sA.eds:∀l:List sA,E.ds (sA.es l)=sA.ds l
 | []=>by unfold sA.es sA.ds;rfl
 | x::l=>by
  unfold sA.es sA.ds;rw[E.ds,sA.ed x,sA.eds l]
end
theorem oE.ed(r:oE):r.e.d=r.d:=by
 simp_all [oE.e,oE.d,E.d,E.ds,dC.ed]
theorem qT{α:Type}{f:α->E}{g:α->D}(h:∀x,(f x).d=g x)(l:List α):(l.map f).map E.d=l.map g:=by
 simp_all
theorem wD.ed(x:wD):x.e.d=x.d:=by
 grind [wD.e,wD.d,E.d,E.ds_map,qT,oE.ed]
theorem nE.ed(x:nE):x.e.d=x.d:=rfl
theorem dD.ed(x:dD):x.e.d=x.d:=by
 simp_all [dD.e,dD.d,E.d,E.ds,sA.ed]
theorem qD.ed(x:qD):x.e.d=x.d:=by
 grind [qD.e,qD.d,E.d,E.ds,E.ds_map,qT,nE.ed,wD.ed,dD.ed]
section
variable {t:Tr qA}
theorem yX{w:lF}{u:zA}(hu:lA t 1 (cC w.limbs) u):RD t w.d [.bool w.neg,u]:=by
 unfold lF.d;rw[nJ];refine⟨[[.bool w.neg],[u]],rfl,?_⟩
 grind [iH,rI,vQ,oM]
theorem uV{f:dC}{u v:zA}(hu:lA t 1 (cC f.n.limbs) u)(hv:lA t 1 (cC f.d.limbs) v):RD t f.dd [.bool f.n.neg,u,.bool f.d.neg,v]:=by
 unfold dC.dd;rw[nJ];refine⟨[[.bool f.n.neg,u],[.bool f.d.neg,v]],rfl,?_⟩
 grind [iH,yX,rI]
theorem Jt{x:lE}{u v:zA}(hu:lA t 1 (cC x.f.n.limbs) u)(hv:lA t 1 (cC x.f.d.limbs) v):RD t x.d [.int .u8 x.kind,.bool x.f.n.neg,u,.bool x.f.d.neg,v,.int .i64 x.i]:=by
 unfold lE.d;rw[nJ];refine⟨[[.int .u8 x.kind],[.bool x.f.n.neg,u,.bool x.f.d.neg,v],[.int .i64 x.i]],rfl,?_⟩
 grind [iH,eO,uV,rI]
theorem mk_row{x:oE}{u v:zA}(hu:lA t 1 (cC x.f.n.limbs) u)(hv:lA t 1 (cC x.f.d.limbs) v):RD t x.d [.int .i64 x.a,.int .i64 x.b,.int .i64 x.known,.bool x.f.n.neg,u,.bool x.f.d.neg,v]:=by
 unfold oE.d;rw[nJ];refine⟨[[.int .i64 x.a],[.int .i64 x.b],[.int .i64 x.known],[.bool x.f.n.neg,u,.bool x.f.d.neg,v]],rfl,?_⟩
 grind [iH,rI,eO,uV]
theorem zb3{x:wD}{v:zA}(hv:lA t 7 (x.rows.map oE.d) v):RD t x.d [.str x.name,.bool x.two,v]:=by
 unfold wD.d;rw[nJ];refine⟨[[.str x.name],[.bool x.two],[v]],rfl,?_⟩
 grind [iH,rI,jR,vQ,oM]
theorem zha{op:Nat}{name:List Nat}{v:lE}{args:List sA}{a b c:zA}(ha:lA t 1 (cC v.f.n.limbs) a)(hb:lA t 1 (cC v.f.d.limbs) b)(hc:lA t 9 (args.map sA.d) c):RD t (sA.mk op name v args).d (fL (.mk op name v args) a b c):=by
 unfold sA.d fL;rw[nJ,sA.ds_eq];refine⟨[[.int .u8 op],[.str name],[.int .u8 v.kind,.bool v.f.n.neg,a,.bool v.f.d.neg,b,.int .i64 v.i],[c]],rfl,?_⟩;rw[iH];refine⟨_,_,rfl,rfl,?_⟩;rw[iH];refine⟨_,_,rfl,rfl,?_⟩
 grind [iH,Jt,oM,rI]
theorem UT{x:dD}{cs ds:List zA}(h1:RD t x.when_.d cs)(h2:RD t x.then_.d ds):RD t x.d ([.str x.name,.str x.label,.int .i64 x.from_,.int .i64 x.to,.int .i64 x.known,.bool x.off]++(cs++ds)):=by
 unfold dD.d;rw[nJ];refine⟨[[.str x.name],[.str x.label],[.int .i64 x.from_],[.int .i64 x.to],[.int .i64 x.known],[.bool x.off],cs,ds],by simp,?_⟩;simp only[iH,rI,jR,eO,vQ];grind
theorem pX{w:lF}{cs:List zA}:LE t w.e cs ↔ ∃u,cs=[.bool w.neg,u]/\LE t (.sl 1 ((cC w.limbs).map E.pl) sX) [u]:=by
 unfold lF.e;rw[Aq];simp only[tQ,fS,vW,vQ];constructor
 ·rintro⟨cl,rfl,c,r,rfl,rfl,c',r',rfl,h,rfl⟩;obtain⟨v,rfl,_⟩:=h.sl
  simp_all
 grind
theorem Fo{f:dC}{cs:List zA}:LE t f.e cs ↔ ∃u v,cs=[.bool f.n.neg,u,.bool f.d.neg,v]/\LE t (.sl 1 ((cC f.n.limbs).map E.pl) sX) [u]/\LE t (.sl 1 ((cC f.d.limbs).map E.pl) sX) [v]:=by
 unfold dC.e;rw[Aq];simp only[tQ,fS];constructor
 ·grind [pX]
 ·rintro⟨u,v,rfl,h3,h4⟩;exact⟨[[.bool f.n.neg,u],[.bool f.d.neg,v]],rfl,_,_,rfl,pX.2 ⟨u,rfl,h3⟩,_,_,rfl,pX.2 ⟨v,rfl,h4⟩,rfl⟩
theorem Pn{x:lE}{cs:List zA}:LE t x.e cs ↔ ∃u v,cs=[.int .u8 x.kind,.bool x.f.n.neg,u,.bool x.f.d.neg,v,.int .i64 x.i]/\LE t x.f.e [.bool x.f.n.neg,u,.bool x.f.d.neg,v]:=by
 unfold lE.e;rw[Aq];simp only[tQ,fS,vW,eO];constructor
 all_goals grind [Fo]
theorem zeg{x:oE}{cs:List zA}:LE t x.e cs ↔ ∃u v,cs=[.int .i64 x.a,.int .i64 x.b,.int .i64 x.known,.bool x.f.n.neg,u,.bool x.f.d.neg,v]/\LE t x.f.e [.bool x.f.n.neg,u,.bool x.f.d.neg,v]:=by
 unfold oE.e;rw[Aq];simp only[tQ,fS,vW,eO];constructor
 ·grind [Fo]
 ·rintro⟨u,v,rfl,h⟩;exact⟨[[.int .i64 x.a],[.int .i64 x.b],[.int .i64 x.known],[.bool x.f.n.neg,u,.bool x.f.d.neg,v]],rfl,_,_,rfl,rfl,_,_,rfl,rfl,_,_,rfl,rfl,_,_,rfl,h,rfl⟩
theorem GU{x:wD}{cs:List zA}:LE t x.e cs ↔ ∃u,cs=[.str x.name,.bool x.two,u]/\LE t (.sl 7 (x.rows.map oE.e) cY) [u]:=by
 unfold wD.e;rw[Aq];simp only[tQ,fS,vW,jR,vQ];constructor
 ·rintro⟨cl,rfl,c,r,rfl,rfl,c',r',rfl,rfl,c3,r3,rfl,h,rfl⟩;obtain⟨v,rfl,_⟩:=h.sl
  simp_all
 grind
def GV{op:Nat}{name:List Nat}{v:lE}{args:List sA}{cs:List zA}:LE t (sA.mk op name v args).e cs ↔ ∃a b c,cs=fL (.mk op name v args) a b c/\LE t v.e [.int .u8 v.kind,.bool v.f.n.neg,a,.bool v.f.d.neg,b,.int .i64 v.i]/\LE t (.sl 9 (args.map sA.e) cZ) [c]:=by
 unfold sA.e;rw[Aq,sA.es_eq];simp only[tQ,fS,vW,jR,eO];constructor
 ·rintro⟨cl,rfl,c,r,rfl,rfl,c',r',rfl,rfl,c3,r3,rfl,h,c4,r4,rfl,h4,rfl⟩;have h':=h;obtain⟨a,b,rfl,_⟩:=Pn.1 h;obtain⟨w,rfl,_⟩:=h4.sl;exact⟨a,b,w,rfl,h',h4⟩
 ·rintro⟨a,b,c,rfl,h,h4⟩;exact⟨[[.int .u8 op],[.str name],[.int .u8 v.kind,.bool v.f.n.neg,a,.bool v.f.d.neg,b,.int .i64 v.i],[c]],rfl,_,_,rfl,rfl,_,_,rfl,rfl,_,_,rfl,h,_,_,rfl,h4,rfl⟩
def GW{x:dD}{cs:List zA}:LE t x.e cs ↔ ∃c1 c2,cs=[.str x.name,.str x.label,.int .i64 x.from_,.int .i64 x.to,.int .i64 x.known,.bool x.off]++(c1++c2)/\LE t x.when_.e c1/\LE t x.then_.e c2:=by
 unfold dD.e;rw[Aq];simp only[tQ,fS,vW,jR,eO,vQ];constructor
 ·rintro⟨cl,rfl,c,r,rfl,rfl,c',r',rfl,rfl,c3,r3,rfl,rfl,c4,r4,rfl,rfl,c5,r5,rfl,rfl,c6,r6,rfl,rfl,c7,r7,rfl,h1,c8,r8,rfl,h2,rfl⟩;exact⟨c7,c8,by simp,h1,h2⟩
 ·rintro⟨c1,c2,rfl,h1,h2⟩;exact⟨[[.str x.name],[.str x.label],[.int .i64 x.from_],[.int .i64 x.to],[.int .i64 x.known],[.bool x.off],c1,c2],by simp,_,_,rfl,rfl,_,_,rfl,rfl,_,_,rfl,rfl,_,_,rfl,rfl,_,_,rfl,rfl,_,_,rfl,rfl,_,_,rfl,h1,_,_,rfl,h2,rfl⟩
theorem Wt{x:qD}{cs:List zA}:LE t x.e cs ↔ ∃a b c,cs=[.str x.name,a,b,c]/\LE t (.sl 3 (x.defs.map nE.e) aZ) [a]/\LE t (.sl 3 (x.tables.map wD.e) dY) [b]/\LE t (.sl 24 (x.clauses.map dD.e) Aa) [c]:=by
 unfold qD.e;rw[Aq];simp only[tQ,fS,vW,jR];constructor
 ·rintro⟨cl,rfl,c,r,rfl,rfl,c',r',rfl,h1,c3,r3,rfl,h2,c4,r4,rfl,h3,rfl⟩;obtain⟨a,rfl,_⟩:=h1.sl;obtain⟨b,rfl,_⟩:=h2.sl;obtain⟨d,rfl,_⟩:=h3.sl
  grind
 ·rintro⟨a,b,c,rfl,h1,h2,h3⟩;exact⟨[[.str x.name],[a],[b],[c]],rfl,_,_,rfl,rfl,_,_,rfl,h1,_,_,rfl,h2,_,_,rfl,h3,rfl⟩
theorem Jg{f:Nat->D}{i:Nat}{d:D}(h:((List.range 12).map f)[i]?=some d):i<12/\d=f i:=by
 grind
def Ev{sz:Nat}:lA t sz [] .nilslice:=⟨[],.inl ⟨rfl,rfl⟩,rI.2 rfl⟩
def Ux(i:Nat):RD t (Ep i).d [.int .i64 ((8000024+i:Nat):Int),.int .i64 0,.int .i64 0,.bool false,.nilslice,.bool false,.nilslice]:=mk_row (x:=Ep i) Ev Ev
def So(i:Nat):RD t (Eb i).d [.str (dI i),.bool false,.nilslice]:=zb3 (x:=Eb i) Ev
def Li(s:List Nat):RD t (Gy s).d [.int .u8 0,.str s,.int .u8 0,.bool false,.nilslice,.bool false,.nilslice,.int .i64 0,.nilslice]:=zha Ev Ev Ev
def Yw(i:Nat):RD t (Gp i).d ([.str [],.str (dI i),.int .i64 0,.int .i64 0,.int .i64 0,.bool false]++([.int .u8 0,.str [],.int .u8 0,.bool false,.nilslice,.bool false,.nilslice,.int .i64 0,.nilslice]++[.int .u8 0,.str [],.int .u8 0,.bool false,.nilslice,.bool false,.nilslice,.int .i64 0,.nilslice])):=UT (x:=Gp i) (Li []) (Li [])
def Ys(i:Nat):RD t (defM i).d [.str (dI i),.int .u8 0,.bool false]:=by
 unfold nE.d;rw[nJ];exact⟨[[_],[_],[_]],rfl,iH.2 ⟨_,_,rfl,rfl,iH.2 ⟨_,_,rfl,rfl,iH.2 ⟨_,_,rfl,rfl,rI.2 rfl⟩⟩⟩⟩
end
end
end Go.Am
