/- Code read back: branches. -/
import Derived.Lib.ItoaMem
import Derived.Test.YthibiocejpbmgaaGreatDoorA17
set_option linter.all false
noncomputable section
set_option maxRecDepth 100000
namespace Go.Proofs
open Go Go.Am
variable {n:Nat}{x y:vA}{a a' b b' c c':zA}
variable [tC]
variable {t tf:Tr qA}
def el46:mK yA 46 48 9:=⟨⟨_,ty46,rfl,rfl⟩,⟨_,jO,rfl,rfl,by decide,by decide⟩,fun y h=>by rw[jO]at h;cases h;rfl⟩
def VU   (hn:t.get n=none):∃t',aE yA 46 1 [(0,.agg (oC x a b c))] ⟨n,t⟩=some (.slice n 0 1 1,⟨n+1,t'⟩)/\iH t' 9 (.slice n 0 1 1) [oC x a b c]/\iA t t'/\aC n t t':=
 gU (C:=yA) (T:=46) (el:=48) (sz:=9) (n:=1) (cl:=[oC x a b c]) ty46 rfl jO rfl rfl (by decide) rfl (fun k cs hk=>by
  match k,hk with
  | 0,hk=>simp at hk;subst hk;rfl
  | k+1,hk=>simp at hk) rfl hn
def VT   (hn:t.get n=none):∃t',aE yA 46 2 [(0,.agg (oC x a b c)),(1,.agg (oC y a' b' c'))] ⟨n,t⟩=some (.slice n 0 2 2,⟨n+1,t'⟩)/\iH t' 9 (.slice n 0 2 2) [oC x a b c,oC y a' b' c']/\iA t t'/\aC n t t':=
 gU (C:=yA) (T:=46) (el:=48) (sz:=9) (n:=2) (cl:=[oC x a b c,oC y a' b' c']) ty46 rfl jO rfl rfl (by decide) rfl (fun k cs hk=>by
  match k,hk with
  | 0,hk=>simp at hk;subst hk;rfl
  | 1,hk=>simp at hk;subst hk;rfl
  | k+2,hk=>simp at hk) rfl hn
def VS {z:vA}{a'' b'' c'':zA}(hn:t.get n=none):∃t',aE yA 46 3 [(0,.agg (oC x a b c)),(1,.agg (oC y a' b' c')),(2,.agg (oC z a'' b'' c''))] ⟨n,t⟩=some (.slice n 0 3 3,⟨n+1,t'⟩)/\iH t' 9 (.slice n 0 3 3) [oC x a b c,oC y a' b' c',oC z a'' b'' c'']/\iA t t'/\aC n t t':=
 gU (C:=yA) (T:=46) (el:=48) (sz:=9) (n:=3) (cl:=[oC x a b c,oC y a' b' c',oC z a'' b'' c'']) ty46 rfl jO rfl rfl (by decide) rfl (fun k cs hk=>by
  match k,hk with
  | 0,hk=>simp at hk;subst hk;rfl
  | 1,hk=>simp at hk;subst hk;rfl
  | 2,hk=>simp at hk;subst hk;rfl
  | k+3,hk=>simp at hk) rfl hn
theorem KC{L:List xD}{k:Nat}{t':Tr qA}{l:List vA}{cl:List (List zA)}(ho:Objs yA.base tf t L)(hn:t.get n=none)(he:iH t' 9 (.slice n 0 k k) cl)(hof:aC n t t')(hd:qC tf (l.map vA.d) cl) :
  ∃tf',iA tf tf'/\Objs yA.base tf' t' L/\sA tf' 9 (l.map vA.d) (.slice n 0 k k):=by
 have h1:=ho.junk hn hof;obtain⟨y,hy⟩:∃y,t'.get n=some y:=by
  rcases he with⟨e,_⟩ | ⟨b,off,cap,e,_,⟨c,m,lo,h2,_⟩,_⟩
  all_goals simp_all
 obtain⟨k1,k2⟩:=h1.froze (ho.fresh hn) hy (ho.tfn hn);exact⟨_,k2,k1,_,XP he hy,qC.mono k2 _ _ hd⟩
section
variable {rb:Nat}{names:List (List Nat)}{consts:List yB}{code:List XIns}{L:List xD}{Q:xC}
def Nh(L:List xD)(tf:Tr qA)(r:Option vA)(Q:xC):Prop:=
 (∀x tf' t' cs,r=some x->iA tf tf'->Objs yA.base tf' t' L->RD tf' x.d cs->Q (.tup [.agg cs,.bool true]) t') ∧
 (r=none->∀tf' t',iA tf tf'->Objs yA.base tf' t' L->Q (.tup [.agg zH,.bool false]) t')
theorem Nh.mono{r:Option vA}{tf':Tr qA}(h:Nh L tf r Q)(ht:iA tf tf'):Nh L tf' r Q:=
 ⟨fun x a b cs e k1 k2 k3=>h.1 x a b cs e (ht.trans k1) k2 k3,fun e a b k1 k2=>h.2 e a b (ht.trans k1) k2⟩
def zjz(L:List xD)(tf:Tr qA)(r:Option (vA × Nat))(Q:xC):Prop:=
 (∀x (n:Nat) tf' t' cs,r=some (x,n)->iA tf tf'->Objs yA.base tf' t' L->RD tf' x.d cs->Q (.tup [.agg cs,.int .i64 (n:Int),.bool true]) t') ∧
 (r=none->∀x (n:Int) tf' t' cs,iA tf tf'->Objs yA.base tf' t' L->RD tf' (vA.d x) cs->Q (.tup [.agg cs,.int .i64 n,.bool false]) t')
def AA(rb:Nat)(names:List (List Nat))(consts:List yB)(code:List XIns)(f:Nat):Prop:=
 ∀(L:List xD) (tf t:Tr qA) (i to:Nat) (Q:xC),Rdr tf rb names consts code->Objs yA.base tf t L->to<=code.length->to-i<f->Nh L tf (rT (iI names consts code lP f i to [])) Q->Wc yA F 27 [.ptr rb 0,.int .i64 (i:Int),.int .i64 (to:Int)] t Q
def aO {cs:List zA}(h:RD t x.d cs):∃a b c,cs=oC x a b c/\gG zH (.agg cs)=some (cellsOf cs)/\zD zA.one cs=true:=by
 have ha:=h.all;have hz:=tI h (vA.zs x);obtain⟨a,b,c,rfl,_⟩:=iK h;exact⟨a,b,c,rfl,hz,ha⟩
theorem zgh{f:Nat}(hP:AA rb names consts code f)(hr:Rdr tf rb names consts code)(ho:Objs yA.base tf t L){x0:vA}{a0 b0 c0:zA}(hx0:RD tf x0.d (oC x0 a0 b0 c0)){at_ T to opn:Nat}{E tr:Int}{last:XIns}(hT:code[T]?=some last)(hT2:at_+2<=T)(hTt:T<to)(hto:to<=code.length)(hf:to-at_<f+1)(htr:tr=0\/tr=1)
  (hE0:0<=E)
  (hQ:zjz L tf (match rT (iI names consts code lP f (at_+1) (T-2) [])with
   | none=>none
   | some y=>if E=(T:Int)+1/\last.op=1/\lP (consts.getD last.a.toNat jH) (eE tr)=true then some (.mk opn [] jH [x0,y],E.toNat)else none) Q) :
  jp 63 29 [.ptr rb 0,.int .i64 (at_:Int),.int .i64 (T:Int),.int .i64 E,.int .u8 (opn:Int),.int .u8 x0.op,.str x0.name,.int .u8 x0.v.kind,.bool x0.v.f.n.neg,a0,.bool x0.v.f.d.neg,b0,.int .i64 x0.v.i,c0,
   .int .u8 0,.str [],.int .u8 0,.bool false,.nilslice,.bool false,.nilslice,.int .i64 0,.nilslice,.int .u8 1,.bool false,.nilslice,.bool false,.nilslice,.int .i64 tr] t Q:=by
 obtain⟨nm,a,b,c,vn,vc,vw,vt,v1,h1,h2,h3,h4⟩:=hr.box;have hTl:T<code.length:=(ybc.1 hT).1;have hlen:=hr.len;have h1t:=kC.mono h1 ho.tle;have ld1:mA yA 51 ⟨0,t⟩ (.ptr rb 8)=some v1:=h1t.load1 iR rfl rfl;obtain⟨p,off,g1,g2,_⟩:=Ed (h4.mono ho.tle) hT;have hz:gG [(.int .u8 0),(.int .i64 0),(.int .i64 0)] (.agg last.cells)=some (cellsOf last.cells):=kN rfl;refine j63_29 ?_;simp only[uQ7,uB,uG,fB,kB,jC,uX,uZ,uY,uW,pH,cD,uA6,zey,tA];rw[bK,xA,Ru,xA,ld1,xA,g1,xA,g2,xA,hz,xA];simp only[XIns.cells,cellsOf,mG,yaz,yba]
 refine sB (by trivial) ?_;rw[wrap_i64 (n:=(at_:Int)+1) (by omega) (by omega),wrap_i64 (n:=(T:Int)-2) (by omega) (by omega),show(at_:Int)+1=((at_+1:Nat):Int) by omega,show(T:Int)-2=((T-2:Nat):Int) by omega,q27];have bD:∀ {tf1 t1:Tr qA} {y:vA} {a1 b1 c1:zA} {ok:Bool},iA tf tf1->Objs yA.base tf1 t1 L->RD tf1 y.d (oC y a1 b1 c1) →
   (∀tf' t' v,iA tf tf'->Objs yA.base tf' t' L->RD tf' (vA.mk opn [] jH [x0,y]).d [.int .u8 opn,.str [],.int .u8 0,.bool false,.nilslice,.bool false,.nilslice,.int .i64 0,v]->Q (.tup [.agg [.int .u8 opn,.str [],.int .u8 0,.bool false,.nilslice,.bool false,.nilslice,.int .i64 0,v],.int .i64 E,.bool ok]) t') →
   ∀n,t1.get n=none->yA.base<=n->nE (aE yA 46 2 [(0,.agg [.int .u8 x0.op,.str x0.name,.int .u8 x0.v.kind,.bool x0.v.f.n.neg,a0,.bool x0.v.f.d.neg,b0,.int .i64 x0.v.i,c0]),(1,.agg [.int .u8 y.op,.str y.name,.int .u8 y.v.kind,.bool y.v.f.n.neg,a1,.bool y.v.f.d.neg,b1,.int .i64 y.v.i,c1])] ⟨n,t1⟩) fun p=>if zD zA.one [.int .u8 opn,p.1]=true then(if zD zA.one [.int .u8 opn,.str [],.int .u8 0,.bool false,.nilslice,.bool false,.nilslice,.int .i64 0,p.1]=true then Q (.tup [.agg [.int .u8 opn,.str [],.int .u8 0,.bool false,.nilslice,.bool false,.nilslice,.int .i64 0,p.1],.int .i64 E,.bool ok]) p.2.t else False)else False:=by
  intro tf1 t1 y a1 b1 c1 ok k1 k2 k3 kQ n hn hnb;obtain⟨t2,m1,m2,m3,m4⟩:=VT (x:=x0) (y:=y) (a:=a0) (b:=b0) (c:=c0) (a':=a1) (b':=b1) (c':=c1) hn;unfold oC at m1;rw[m1,xA];refine sB rfl (sB rfl ?_);obtain⟨tf2,w1,w2,w3⟩:=KC (l:=[x0,y]) k2 hn m2 m4 (by
   grind [uF,RD.mono,bE])
  exact kQ tf2 t2 _ (k1.trans w1) w2 (Ll (v:=jH) kP kP w3)
 refine hP L tf t (at_+1) (T-2) _ hr ho (by omega) (by omega) ⟨fun y tf1 t1 cs e k1 k2 k3=>?_,fun e tf1 t1 k1 k2=>?_⟩
 ·rw[e]at hQ;obtain⟨a1,b1,c1,rfl,hz1,hone1⟩:=aO k3;simp only[gE,zA.asTup,uA,vE,yaz,yba,xA,lE];unfold zH at hz1;rw[hz1,xA];simp only[oC,cellsOf,mG,tG,zG,gH,yaz,yba];refine sB hone1 (sB (by trivial) ?_);have bad:(¬ (E=(T:Int)+1/\last.op=1/\lP (consts.getD last.a.toNat jH) (eE tr)=true))->∀tf' t' v,iA tf tf'->Objs yA.base tf' t' L->RD tf' (vA.mk opn [] jH [x0,y]).d [.int .u8 opn,.str [],.int .u8 0,.bool false,.nilslice,.bool false,.nilslice,.int .i64 0,v]->Q (.tup [.agg [.int .u8 opn,.str [],.int .u8 0,.bool false,.nilslice,.bool false,.nilslice,.int .i64 0,v],.int .i64 E,.bool false]) t':=by
   intro hb tf' t' v w1 w2 w3;exact hQ.2 (by simp only[];rw[yaa hb]) _ _ tf' t' _ w1 w2 w3
  rw[wrap_i64 (n:=(T:Int)+1) (by omega) (by omega)];by_cases hEE:E=(T:Int)+1
  ·refine sB (qE.2 hEE) ?_;by_cases hl1:last.op=1
   ·refine sB (qE.2 (by omega)) ?_;have hs:=hr.sound T last hT;unfold wF at hs;rw[yab hl1]at hs;simp only[ybb,decide_eq_true_eq]at hs;obtain⟨j,hj⟩:∃j:Nat,last.a=(j:Int):=⟨last.a.toNat,by omega⟩;have hjl:j<consts.length:=by omega
    have hcj:consts[j]?=some consts[j]:=ybd hjl;have ld5:mA yA 30 ⟨0,t1⟩ (.ptr rb 5)=some vc:=(kC.mono h1 (k1.trans k2.tle)).load1 Ab rfl rfl;obtain⟨q,o,u,w,d1,d2,d3,d4,d5⟩:=Nx (h3.mono (k1.trans k2.tle)) hcj;have hz2:sA t1 1 (wC (eE tr).f.n.limbs) .nilslice:=kP;have hok:rE.ok consts[j].f:=by
     have:=hr.short _ (ycj hjl)
     grind [yB.mid,rE.ok,sE]
    have hsv:=zce (b:=eE tr) d4 d5 hz2 hz2 hok;rw[hj]at hQ bad ⊢;rw[Ep,xA,En,xA,ld5,xA,d1,xA,d2,xA,d3,xA];simp only[cellsOf,mG,tG,zG,gH,yaz,yba];have hsv':iB yA F 84 [.agg [.int .u8 consts[j].kind,.bool consts[j].f.n.neg,u,.bool consts[j].f.d.neg,w,.int .i64 consts[j].i],.agg [.int .u8 1,.bool false,.nilslice,.bool false,.nilslice,.int .i64 tr]] t1=some (.bool (lP consts[j] (eE tr))):=hsv
    rw[q84,hsv',xA,lE,xA];have hget:consts.getD ((j:Nat):Int).toNat jH=consts[j]:=by simp_all
    rw[hget]at hQ bad;refine bD k1 k2 k3 fun tf' t' v w1 w2 w3=>?_
    cases hsame:lP consts[j] (eE tr)with
    | true=>
     have:=hQ.1 (.mk opn [] jH [x0,y]) E.toNat tf' t' _ (by simp only[];rw[yab ⟨hEE,hl1,hsame⟩]) w1 w2 w3
     simp_all
    | false=>grind
   ·refine sD (lG (by omega)) ?_;exact bD k1 k2 k3 (bad fun h=>hl1 h.2.1)
  ·refine sD (lG hEE) ?_;exact bD k1 k2 k3 (bad fun h=>hEE h.1)
 ·rw[e]at hQ;simp only[gE,zA.asTup,uA,vE,yaz,yba,xA,lE];have k3:RD tf1 kI.d (oC kI .nilslice .nilslice .nilslice):=sS;obtain⟨a1,b1,c1,e1,hz1,hone1⟩:=aO k3;have hz1:gG [(.int .u8 0),(.str []),(.int .u8 0),(.bool false),.nilslice,(.bool false),.nilslice,(.int .i64 0),.nilslice] (.agg zH)=some (cellsOf zH):=hz1;rw[hz1,xA];unfold zH;simp only[cellsOf,mG,tG,zG,gH,yaz,yba];refine sB rfl (sD (by simp) ?_)
  exact bD (y:=kI) (a1:=.nilslice) (b1:=.nilslice) (c1:=.nilslice) k1 k2 k3 fun tf' t' v w1 w2 w3=>hQ.2 rfl _ _ tf' t' _ w1 w2 w3
end
end Go.Proofs
namespace Go.Proofs
open Go Go.Am
section
variable [tC]
variable {t tf:Tr qA}
section
variable {rb:Nat}{names:List (List Nat)}{consts:List yB}{code:List XIns}{L:List xD}{Q:xC}
theorem za9{f:Nat}(hP:AA rb names consts code f)(hr:Rdr tf rb names consts code)(ho:Objs yA.base tf t L){x0:vA}{cs0:List zA}(hx0:RD tf x0.d cs0){at_ to:Nat}{x:XIns}(hx:code[at_]?=some x)(hj:x.op=9\/x.op=10\/x.op=11)(hlt:at_<to)(hto:to<=code.length)(hf:to-at_<f+1)
  (hQ:zjz L tf (yX consts code lP (fun a b=>rT (iI names consts code lP f a b [])) x0 at_ to) Q) :
  Wc yA F 63 [.ptr rb 0,.agg cs0,.int .i64 (at_:Int),.int .i64 (to:Int)] t Q:=by
 obtain⟨nm,a,b,c,vn,vc,vw,vt,v1,h1,h2,h3,h4⟩:=hr.box;obtain⟨a0,b0,c0,rfl⟩:∃a b c,cs0=oC x0 a b c:=by obtain⟨a,b,c,h,_⟩:=aO hx0;grind
 have hlen:=hr.len;have h1t:=kC.mono h1 ho.tle;have h4t:=h4.mono ho.tle;have ld1:mA yA 51 ⟨0,t⟩ (.ptr rb 8)=some v1:=h1t.load1 iR rfl rfl;obtain⟨p,off,g1,g2,_⟩:=Ed h4t hx;have hz:gG [(.int .u8 0),(.int .i64 0),(.int .i64 0)] (.agg x.cells)=some (cellsOf x.cells):=kN rfl;have hs:=hr.sound at_ x hx;obtain⟨hs1,hs2⟩:=Ow hs hj;obtain⟨T,hT⟩:∃T:Nat,x.a=(T:Int):=⟨x.a.toNat,by omega⟩
 have hTn:x.a.toNat=T:=by omega
 unfold yX at hQ;rw[hx]at hQ;simp only[]at hQ;refine w63 ?_;simp only[uQ2,uI,uU,uB,uG,fB,kB,jC,uX,uZ,uY,uW,pH,cD,t63,tA];rw[bK,xA,Ru,xA,ld1,xA,g1,xA,g2,xA,hz,xA];simp only[XIns.cells,cellsOf,mG,yaz,yba];refine sB (by trivial) ?_;have none':∀ {R:Option (vA × Nat)},R=none->zjz L tf R Q->Q (.tup [.agg [(.int .u8 0),(.str []),(.int .u8 0),(.bool false),.nilslice,(.bool false),.nilslice,(.int .i64 0),.nilslice],.int .i64 0,.bool false]) t:=fun e h=>h.2 e kI 0 tf t zH (iA.refl _) ho sS
 by_cases h9:x.op=9
 ·grind [qE]
 rw[yaa h9]at hQ;refine sD (lG (by omega)) ?_;rw[wrap_i64 (n:=(at_:Int)+2) (by omega) (by omega)];by_cases ha:x.a<(at_:Int)+2
 ·grind [aB]
 rw[yaa ha]at hQ;refine sD (fun e=>ha (aB.1 e)) ?_;by_cases hb:(to:Int)<=x.a
 ·grind [vG]
 rw[yaa hb]at hQ;refine sD (fun e=>hb (vG.1 e)) ?_;have hT1:T-1<code.length:=by omega
 have hT2:T-2<code.length:=by omega
 have hT0:T<code.length:=by omega
 have e1:code[T-1]?=some code[T-1]:=ybd hT1;have e2:code[T-2]?=some code[T-2]:=ybd hT2;have e0:code[T]?=some code[T]:=ybd hT0;rw[hTn,e1,e2,e0]at hQ;simp only[]at hQ;obtain⟨q1,o1,r1,_,r3,r4,_,r6,r7,_⟩:=Ed h4t e1;obtain⟨q2,o2,u1,_,u3,_,_,u6,_,_⟩:=Ed h4t e2;rw[hT]at hQ ⊢;rw[wrap_i64 (n:=(T:Int)-1) (by omega) (by omega),show(T:Int)-1=((T-1:Nat):Int) by omega,wrap_i64 (n:=(T:Int)-2) (by omega) (by omega),show(T:Int)-2=((T-2:Nat):Int) by omega]
 simp only[bK,Ru,ld1,r1,r3,r6,r4,r7,u1,u3,u6,xA,zB,if_true];by_cases hj9:code[T-1].op=9
 case neg=>
  grind [zL]
 rw[yaa (by simp[hj9])]at hQ;refine sD (fun e=>absurd (show((code[T-1].op:Nat):Int)=9 by omega) (zL.1 e)) ?_;by_cases hE:(to:Int)<code[T-1].a
 ·grind [aB]
 rw[yaa hE]at hQ;refine sD (fun e=>hE (aB.1 e)) ?_;have hsE:=Ow (hr.sound (T-1) _ e1) (.inl hj9);obtain⟨E,hEn⟩:∃E:Nat,code[T-1].a=(E:Int):=⟨code[T-1].a.toNat,by omega⟩;have hEt:code[T-1].a.toNat=E:=by omega
 rw[hEt,hEn]at hQ;rw[hEn];by_cases h12:code[T-2].op=12
 ·rw[yab h12]at hQ;refine sB (qE.2 (by omega)) ?_;by_cases h11:x.op=11
  ·simp only[yab h11]at hQ;refine sB (qE.2 (by omega)) ?_;refine zgh hP hr ho hx0 (at_:=at_) (T:=T) (to:=to) (opn:=16) (E:=(E:Int)) (tr:=1) e0 (by omega) (by omega) hto hf (.inr rfl) (by omega) ?_
   grind
  ·simp only[yaa h11]at hQ;refine sD (lG (by omega)) ?_;refine zgh hP hr ho hx0 (at_:=at_) (T:=T) (to:=to) (opn:=15) (E:=(E:Int)) (tr:=0) e0 (by omega) (by omega) hto hf (.inl rfl) (by omega) ?_
   grind
 rw[yaa h12]at hQ;refine sD (lG (by omega)) ?_;rw[wrap_i64 (n:=(at_:Int)+1) (by omega) (by omega),show(at_:Int)+1=((at_+1:Nat):Int) by omega,q27];refine hP L tf t (at_+1) (T-1) _ hr ho (by omega) (by omega) ⟨fun y tf1 t1 cs e k1 k2 k3=>?_,fun e tf1 t1 k1 k2=>?_⟩
 ·rw[e]at hQ;simp only[]at hQ;obtain⟨a1,b1,c1,rfl,hz1,hone1⟩:=aO k3;simp only[gE,zA.asTup,uA,vE,yaz,yba,xA,lE];unfold zH at hz1;rw[hz1,xA];simp only[oC,cellsOf,mG,tG,zG,gH,yaz,yba];refine sB hone1 (sD (by simp) ?_);by_cases h10:x.op=10
  case neg=>
   rw[yab h10]at hQ;exact sB (zL.2 (by omega)) (hQ.2 rfl kI 0 tf1 t1 zH k1 k2 sS)
  rw[yaa (by simp[h10])]at hQ;refine sD (fun e=>absurd (show(x.op:Int)=10 by omega) (zL.1 e)) ?_;rw[q27];have bD:∀ {tf2 t2:Tr qA} {z:vA} {a2 b2 c2:zA} {ok:Bool},iA tf1 tf2->Objs yA.base tf2 t2 L->RD tf2 z.d (oC z a2 b2 c2) →
    (∀tf' t' v,iA tf tf'->Objs yA.base tf' t' L->RD tf' (vA.mk 18 [] jH [x0,y,z]).d [.int .u8 18,.str [],.int .u8 0,.bool false,.nilslice,.bool false,.nilslice,.int .i64 0,v]->Q (.tup [.agg [.int .u8 18,.str [],.int .u8 0,.bool false,.nilslice,.bool false,.nilslice,.int .i64 0,v],.int .i64 (E:Int),.bool ok]) t') →
    ∀n,t2.get n=none->yA.base<=n->nE (aE yA 46 3 [(0,.agg [.int .u8 x0.op,.str x0.name,.int .u8 x0.v.kind,.bool x0.v.f.n.neg,a0,.bool x0.v.f.d.neg,b0,.int .i64 x0.v.i,c0]),(1,.agg [.int .u8 y.op,.str y.name,.int .u8 y.v.kind,.bool y.v.f.n.neg,a1,.bool y.v.f.d.neg,b1,.int .i64 y.v.i,c1]),(2,.agg [.int .u8 z.op,.str z.name,.int .u8 z.v.kind,.bool z.v.f.n.neg,a2,.bool z.v.f.d.neg,b2,.int .i64 z.v.i,c2])] ⟨n,t2⟩) fun p=>if zD zA.one [.int .u8 18,p.1]=true then(if zD zA.one [.int .u8 18,.str [],.int .u8 0,.bool false,.nilslice,.bool false,.nilslice,.int .i64 0,p.1]=true then Q (.tup [.agg [.int .u8 18,.str [],.int .u8 0,.bool false,.nilslice,.bool false,.nilslice,.int .i64 0,p.1],.int .i64 (E:Int),.bool ok]) p.2.t else False)else False:=by
   intro tf2 t2 z a2 b2 c2 ok w1 w2 w3 kQ n hn hnb;obtain⟨t3,m1,m2,m3,m4⟩:=VS (x:=x0) (y:=y) (z:=z) (a:=a0) (b:=b0) (c:=c0) (a':=a1) (b':=b1) (c':=c1) (a'':=a2) (b'':=b2) (c'':=c2) hn;unfold oC at m1;rw[m1,xA];refine sB rfl (sB rfl ?_);obtain⟨tf3,d1,d2,d3⟩:=KC (l:=[x0,y,z]) w2 hn m2 m4 (by
    grind [uF,RD.mono,bE])
   exact kQ tf3 t3 _ (k1.trans (w1.trans d1)) d2 (Ll (v:=jH) kP kP d3)
  refine hP L tf1 t1 T E _ (hr.mono k1) k2 (by omega) (by omega) ⟨fun z tf2 t2 cs e w1 w2 w3=>?_,fun e tf2 t2 w1 w2=>?_⟩
  ·rw[e]at hQ;simp only[]at hQ;obtain⟨a2,b2,c2,rfl,hz2,hone2⟩:=aO w3;simp only[gE,zA.asTup,uA,vE,yaz,yba,xA,lE];unfold zH at hz2;rw[hz2,xA];simp only[oC,cellsOf,mG,tG,zG,gH,yaz,yba];refine sB hone2 ?_;exact bD w1 w2 w3 fun tf' t' v d1 d2 d3=>hQ.1 _ E tf' t' _ rfl d1 d2 d3
  ·rw[e]at hQ;simp only[]at hQ;simp only[gE,zA.asTup,uA,vE,yaz,yba,xA,lE];have k3':RD tf2 kI.d (oC kI .nilslice .nilslice .nilslice):=sS;obtain⟨a2,b2,c2,e1,hz2,hone2⟩:=aO k3';have hz2:gG [(.int .u8 0),(.str []),(.int .u8 0),(.bool false),.nilslice,(.bool false),.nilslice,(.int .i64 0),.nilslice] (.agg zH)=some (cellsOf zH):=hz2;rw[hz2,xA];unfold zH;simp only[cellsOf,mG,tG,zG,gH,yaz,yba];refine sB rfl ?_
   exact bD (z:=kI) (a2:=.nilslice) (b2:=.nilslice) (c2:=.nilslice) w1 w2 k3' fun tf' t' v d1 d2 d3=>hQ.2 rfl _ _ tf' t' _ d1 d2 d3
 ·rw[e]at hQ;simp only[]at hQ;simp only[gE,zA.asTup,uA,vE,yaz,yba,xA,lE];have k3':RD tf1 kI.d (oC kI .nilslice .nilslice .nilslice):=sS;obtain⟨a2,b2,c2,e1,hz2,hone2⟩:=aO k3';have hz2:gG [(.int .u8 0),(.str []),(.int .u8 0),(.bool false),.nilslice,(.bool false),.nilslice,(.int .i64 0),.nilslice] (.agg zH)=some (cellsOf zH):=hz2;rw[hz2,xA];unfold zH;simp only[cellsOf,mG,tG,zG,gH,yaz,yba];exact sB rfl (sB (by trivial) (hQ.2 rfl kI 0 tf1 t1 zH k1 k2 sS))
end
end
section
variable [tC]
variable {t tf:Tr qA}
section
variable {rb:Nat}{names:List (List Nat)}{consts:List yB}{code:List XIns}
def Ta(rb:Nat)(names:List (List Nat))(consts:List yB)(code:List XIns)(f:Nat):Prop:=
 ∀(L:List xD) (tf t:Tr qA) (i to:Nat) (st:List vA) (v8:zA) (Q:xC),Rdr tf rb names consts code->Objs yA.base tf t (wK yA.base 9 (st.map vA.d) v8::L)->to<=code.length->to-i<f->st.length<=i->i<=code.length →
  Nh L tf (rT (iI names consts code lP f i to st)) Q →
  jp 27 2 [.ptr rb 0,.int .i64 (to:Int),v8,.int .i64 (i:Int),.int .u8 0,.str [],.int .u8 0,.bool false,.nilslice,.bool false,.nilslice,.int .i64 0,.nilslice] t Q
def MZ{f:Nat}(h:Ta rb names consts code f):AA rb names consts code f:=by
 intro L tf t i to Q hr ho hto hf hQ;refine w27 ?_;simp only[uZ,uY,t27,tA];by_cases hi:i<=code.length
 ·exact h L tf t i to [] .nilslice Q hr (Objs.add (A:=[]) (B:=L) (o':=wK yA.base 9 ([]:List D) .nilslice) ho (fun _ _=>rfl) (fun k hk=>by simp[wK,pF]at hk) (.inl ⟨rfl,rfl⟩) (by simp[wK,pF]) ho.tle) hto hf (yaw _) hi hQ
 ·refine j27_2 ?_;simp only[uQ5,uI,uB,uG,fB,kB,jC,uX,uZ,uY,uW,pH,cD,uA7,zhe,tA];have hr0:iI names consts code lP f i to []=some []:=by
   cases f with
   | zero=>omega
   | succ f=>unfold iI;rw[yab (by omega)]
  rw[hr0]at hQ;refine sD (fun e=>absurd (aB.1 e) (by omega)) ?_;rw[show tB .nilslice=some (.int .i64 0) from rfl,xA,zB,xA];exact sB (by decide) (sB (by trivial) (sB (by trivial) (hQ.2 rfl tf t (iA.refl _) ho)))
theorem YZ{f:Nat->Nat->Option vA}{x0 y:vA}{at_ to n:Nat}(hs:∀i x,code[i]?=some x->wF names.length consts.length x i code.length=true)(h:yX consts code lP f x0 at_ to=some (y,n)):at_<n/\n<=to:=by
 unfold yX at h;split at h
 ·cases h
 ·rename_i x hx;split at h
  ·cases h
  ·split at h
   ·cases h
   ·split at h
    ·cases h
    ·rename_i h9 ha hb;split at h
     ·rename_i j k last e1 e2 e3;split at h
      ·cases h
      ·rename_i hj9;have hj9:j.op=9:=by omega
       have hsj:=Ow (hs _ _ e1) (.inl hj9)
       grind
     ·cases h
theorem Vp{x:XIns}{args:List vA}:iF names consts x args=.mk (iF names consts x []).op (iF names consts x []).name (iF names consts x []).v args:=by
 unfold iF;repeat' split
 all_goals rfl
theorem Ld{l:List vA}{cl:List (List zA)}(h:qC tf (l.map vA.d) cl):∀a∈cl.flatten,zA.one a=true:=by
 induction l generalizing cl with
 | nil=>grind [bE]
 | cons x l ih=>
  rw[ycm,uF]at h;obtain⟨c,r,rfl,h1,h2⟩:=h;obtain⟨_,_,_,_,_,ho⟩:=aO h1
  grind [cE]
theorem zcc{α:Type}{l:List α}{y:α}(h:l≠[]):l.set (l.length-1) y=l.dropLast++[y]:=by
 induction l with
 | nil=>simp_all
 | cons a l ih=>
  cases l with
  | nil=>rfl
  | cons b l=>
   simp_all
theorem VO{f:Nat}(hL:Ta rb names consts code f):Ta rb names consts code (f+1):=by
 have hP:=MZ hL;intro L tf t i to st v8 Q hr ho hto hf hst hil hQ;have hbuf:mJ yA.base tf t 9 (st.map vA.d) v8:=ho.ok (wK yA.base 9 (st.map vA.d) v8) (by simp);have hod:Objs yA.base tf t L:=Objs.drop (A:=[]) ho;have hrd:=hbuf.read ho.tle;have hlenv:tB v8=some (.int .i64 (st.length:Int)):=by rw[hrd.len,ybf]
 have hclen:=hr.len;refine j27_2 ?_;simp only[uQ5,uI,uB,uG,fB,kB,jC,uX,uZ,uY,uW,pH,cD,uA7,zhe,tA];by_cases hi:i<to
 case neg=>
  have hr0:iI names consts code lP (f+1) i to st=some st:=by unfold iI;rw[yab (by omega)]
  rw[hr0]at hQ;refine sD (fun e=>absurd (aB.1 e) (by omega)) ?_;rw[hlenv,xA,zB,xA];by_cases h1:st.length=1
  ·refine sD (fun e=>absurd (show((st.length:Nat):Int)=1 by omega) (zL.1 e)) ?_;obtain⟨x,rfl⟩:∃x,st=[x]:=by
    match st,h1 with
    | [x],_=>simp_all
   obtain⟨p,o,cs,g1,g2,g3,_⟩:=hbuf.elem bR (i:=0) (d:=x.d) (by simp);obtain⟨a,b,c,rfl,hz,hone⟩:=aO g3;have g1:aA yA 46 v8 (.int .i64 0)=some (.ptr p o):=g1;unfold zH at hz;rw[g1,xA,g2,xA,hz,xA];simp only[oC,cellsOf,mG,tG,zG,gH,yaz,yba];exact sB hone (hQ.1 x tf t _ rfl (iA.refl _) hod g3)
  ·refine sB (zL.2 (by omega)) (sB (by trivial) (sB (by trivial) (hQ.2 ?_ tf t (iA.refl _) hod)))
   match st,h1 with
   | [],_=>rfl
   | _::_::_,_=>rfl
 have hxl:i<code.length:=by omega
 have hx:code[i]?=some code[i]:=ybd hxl;generalize code[i]=x at hx;obtain⟨nm,a,b,c,vn,vc,vw,vt,v1,h1,h2,h3,h4⟩:=hr.box;have h1t:=kC.mono h1 ho.tle;have ld1:mA yA 51 ⟨0,t⟩ (.ptr rb 8)=some v1:=h1t.load1 iR rfl rfl;obtain⟨p,off,g1,g2,_⟩:=Ed (h4.mono ho.tle) hx;have hz:gG [(.int .u8 0),(.int .i64 0),(.int .i64 0)] (.agg x.cells)=some (cellsOf x.cells):=kN rfl;have hs:=hr.sound i x hx
 unfold iI at hQ;rw[yaa (by omega),hx]at hQ;simp only[]at hQ;refine sB (aB.2 (by omega)) ?_;rw[bK,xA,Ru,xA,ld1,xA,g1,xA,g2,xA,hz,xA];simp only[XIns.cells,cellsOf,mG,yaz,yba];refine sB (by trivial) ?_;rw[q60,Hm,xA,lE,xA];by_cases hj:x.op=9\/x.op=10\/x.op=11
 ·rw[yab hj]at hQ;rw[decide_eq_true hj];refine sB (by trivial) ?_;rw[hlenv,xA,zB,xA];by_cases he:st=[]
  ·subst he;exact sB (by decide) (sB (by trivial) (sB (by trivial) (hQ.2 rfl tf t (iA.refl _) hod)))
  have hpos:0<st.length:=List.length_pos_iff.2 he;refine sD (lG (by omega)) ?_;have htop:st.getLast?=some st[st.length-1]:=by
   rw[List.getLast?_eq_getElem?,ybd (by omega)]
  rw[htop]at hQ;simp only[]at hQ;obtain⟨q,o,cs,k1,k2,k3,_⟩:=hbuf.elem bR (i:=st.length-1) (d:=st[st.length-1].d) (by grind);obtain⟨a1,b1,c1,rfl,hz1,hone1⟩:=aO k3;unfold zH at hz1;rw[xA,zB,xA,wrap_i64 (n:=(st.length:Int)-1) (by omega) (by omega),show(st.length:Int)-1=((st.length-1:Nat):Int) by omega,k1,xA,k2,xA,hz1,xA];simp only[oC,cellsOf,mG,tG,zG,gH,yaz,yba];rw[q63];refine za9 hP hr ho k3 hx hj hi hto hf ⟨fun y n tf1 t1 ds e m1 m2 m3=>?_,fun e y n tf1 t1 ds m1 m2 m3=>?_⟩
  ·obtain⟨hn1,hn2⟩:=YZ hr.sound e;rw[e]at hQ;simp only[]at hQ;obtain⟨a2,b2,c2,rfl,hz2,hone2⟩:=aO m3;simp only[gE,zA.asTup,uA,vE,yaz,yba,xA,zB,lE];unfold zH at hz2;rw[hz2,xA];simp only[oC,cellsOf,mG,tG,zG,gH,yaz,yba];refine sB hone2 (sD (by simp) ?_);have hbuf1:mJ yA.base tf1 t1 9 (st.map vA.d) v8:=m2.ok (wK yA.base 9 (st.map vA.d) v8) (by simp)
   obtain⟨q2,o2,t2,d1,d2,d3,d4,d5⟩:=hbuf1.set bR (S:=48) jO (i:=st.length-1) (by grind) (w:=.agg (oC y a2 b2 c2)) (d:=y.d) rfl rfl hone2 m3 m2.tle;rw[d1]at k1;cases k1;intro n2 _ _;have d2:=d2 n2;unfold oC at d2;rw[d2,xA];have hset:(st.map vA.d).set (st.length-1) y.d=(st.dropLast++[y]).map vA.d:=by
    rw[<- zcc he,List.map_set]
   rw[hset]at d3;have o2':Objs yA.base tf1 t2 (wK yA.base 9 ((st.dropLast++[y]).map vA.d) v8::L):=
    Objs.upd (A:=[]) (o:=wK yA.base 9 (st.map vA.d) v8) (o':=wK yA.base 9 ((st.dropLast++[y]).map vA.d) v8) m2 (fun k k1 _=>d5 k (fun e=>k1 (uO.2 e))) (fun k hk=>.inl hk) d3 (by cases v8<;>simp[wK,pF]) d4
   exact hL L tf1 t2 n to (st.dropLast++[y]) v8 Q (hr.mono m1) o2' hto (by omega) (by grind) (by omega) (hQ.mono m1)
  ·rw[e]at hQ;obtain⟨a2,b2,c2,rfl,hz2,hone2⟩:=aO m3;simp only[gE,zA.asTup,uA,vE,yaz,yba,xA,zB,lE];unfold zH at hz2;rw[hz2,xA];simp only[oC,cellsOf,mG,tG,zG,gH,yaz,yba];exact sB hone2 (sB (by trivial) (sB (by trivial) (sB (by trivial) (hQ.2 rfl tf1 t1 m1 (Objs.drop (A:=[]) m2)))))
 rw[yaa hj]at hQ;rw[decide_eq_false hj];refine sD (by simp) ?_;obtain⟨hp1,hp2⟩:=FE hs;rw[q59,CQ (hr.glob.mono ho.tle) (CS hs),xA];simp only[gE,zA.asTup,uA,vE,yaz,yba,xA,zB];by_cases h12:x.op=12
 ·rw[yab (.inl h12)]at hQ;exact sB (qE.2 (by omega)) (sB (by trivial) (sB (by trivial) (hQ.2 rfl tf t (iA.refl _) hod)))
 refine sD (lG (by omega)) ?_;rw[hlenv,xA,zB,xA];by_cases hfew:(st.length:Int)<cF x
 ·rw[yab (.inr hfew)]at hQ;exact sB (aB.2 hfew) (sB (by trivial) (sB (by trivial) (hQ.2 rfl tf t (iA.refl _) hod)))
 rw[yaa (fun h=>h.elim h12 hfew)]at hQ;refine sD (fun e=>hfew (aB.1 e)) ?_;rw[xA,zB,xA,q64];obtain⟨k,hk⟩:∃k,k=st.length-(cF x).toNat:=⟨_,rfl⟩;have hkl:k<=st.length:=by omega
 rw[<- hk]at hQ;have hw:dA .i64 ((st.length:Int)-cF x)=(k:Int):=by grind [wrap_i64]
 refine RZ hr ho hx hj h12 fun tf1 t1 a1 b1 m1 m2 m3 m4=>?_;have hr1:=hr.mono m1;have hy0:RD tf1 (iF names consts x []).d (oC (iF names consts x []) a1 b1 .nilslice):=by
  grind [Vp,Ll,kP]
 obtain⟨_,_,_,_,hz1,hone1⟩:=aO hy0;unfold zH at hz1;rw[hz1,xA];simp only[oC,cellsOf,mG,tG,zG,gH,yaz,yba];refine sB hone1 ?_;rw[hw];have hbuf1:mJ yA.base tf1 t1 9 (st.map vA.d) v8:=m2.ok (wK yA.base 9 (st.map vA.d) v8) (by simp);obtain⟨va,ca,s1,s2,s3⟩:=hbuf1.back bR (k:=k) (by obtain⟨cz,nz,hz⟩:=hr1.zero;exact⟨cz,nz,m2.tle _ _ hz⟩) (by simp_all);rw[<- List.map_drop]at s3;rw[s1,xA];intro n1 hn1 hb1;have hargs:∃va' t2 tf2 n',qD yA 46 46 .nilslice va ⟨n1,t1⟩=some (va',⟨n',t2⟩)/\iA tf1 tf2/\Objs yA.base tf2 t2 (wK yA.base 9 (st.map vA.d) v8::L)/\sA tf2 9 ((st.drop k).map vA.d) va'/\iA t1 t2:=by
  by_cases hd0:st.drop k=[]
  ·have:ca=[]:=by grind [bE]
   subst this;exact⟨.nilslice,t1,tf1,n1,ZN el46 s2,iA.refl _,m2,by grind [kP],iA.refl _⟩
  ·obtain⟨t2,g1,g2,g3,g4⟩:=Bk (C:=yA) el46 (l:=[]) (m:=(st.drop k).map vA.d) (v:=.nilslice) (.inl ⟨rfl,rfl⟩) s2 s3 (Ld s3) (by grind) (by grind) hn1 hb1 m2.tle;simp only[ybx,ybw,yah]at g1 g2;have hoff:aC n1 t1 t2:=fun c hc=>g4 c hc Mc;have o1:=m2.junk hn1 hoff;have o2:Objs yA.base tf1 t2 ([]++bB yA.base 9 ((st.drop k).map vA.d) (.slice n1 0 ((st.drop k).map vA.d).length ((st.drop k).map vA.d).length)::(wK yA.base 9 (st.map vA.d) v8::L)):=by
    refine Objs.add (A:=[]) (o':=bB yA.base 9 ((st.drop k).map vA.d) _) m2 (fun c hc=>hoff c (fun e=>hc (by simp[bB,pF,e]))) (fun c hc=>?_) ?_ (by simp[bB,pF]) g3
    all_goals grind [bB,pF]
   obtain⟨tf2,z1,z2,z3⟩:=Objs.freezeL (A:=[]) o2;refine⟨_,t2,tf2,_,g1,z1,z2,z3,fun c y hc=>?_⟩;rw[hoff c (by grind)];exact hc
 obtain⟨va',t2,tf2,n',e1,e2,e3,e4,e5⟩:=hargs;rw[e1,xA];have honea:zD zA.one [va']=true:=by rw[cE];simp only[ycg,yck,e4.one];rfl
 refine sB honea ?_;have hbuf2:mJ yA.base tf2 t2 9 (st.map vA.d) v8:=e3.ok (wK yA.base 9 (st.map vA.d) v8) (by simp);obtain⟨vf,f1,f2,f3⟩:=hbuf2.front bR (k:=k) (by simp_all);rw[f1,xA];intro n2 hn2 hb2;have hy1:RD tf2 (iF names consts x (st.drop k)).d (oC (iF names consts x (st.drop k)) a1 b1 va'):=by
  rw[Vp];exact Ll (m3.mono e2) (m4.mono e2) e4
 have ec:oC (iF names consts x (st.drop k)) a1 b1 va'=[.int .u8 (iF names consts x []).op,.str (iF names consts x []).name,.int .u8 (iF names consts x []).v.kind,.bool (iF names consts x []).v.f.n.neg,a1,.bool (iF names consts x []).v.f.d.neg,b1,.int .i64 (iF names consts x []).v.i,va']:=by
  rw[Vp];rfl
 obtain⟨t3,u1,u2,u3,u4⟩:=VU (x:=iF names consts x (st.drop k)) (a:=a1) (b:=b1) (c:=va') hn2;rw[ec]at u1;rw[u1,xA];have f1':nF yA 46 ⟨0,t3⟩ v8 none (some (.int .i64 (k:Int)))=some vf:=AS (H:=⟨0,t2⟩) (HA:=⟨0,t3⟩) (fun _ _ h=>u3 _ _ h) f1;rw[f1',xA];have o3:Objs yA.base tf2 t3 (wK yA.base 9 (st.map vA.d) v8::L):=e3.junk hn2 u4;have hbuf3:mJ yA.base tf2 t3 9 (st.map vA.d) v8:=o3.ok (wK yA.base 9 (st.map vA.d) v8) (by simp)
 obtain⟨vf',f1'',f2',f3'⟩:=hbuf3.front bR (k:=k) (by simp_all);rw[f1'']at f1';cases f1';refine sB (f2'.read o3.tle).same ?_;have o4:Objs yA.base tf2 t3 (wK yA.base 9 ((st.map vA.d).take k) vf::L):=
  Objs.upd (A:=[]) (o:=wK yA.base 9 (st.map vA.d) v8) (o':=wK yA.base 9 ((st.map vA.d).take k) vf) o3 (fun _ _ _=>rfl) (fun c hc=>.inl (by
   have:c∈pF vf:=hc;rw[f3']at this;exact this)) f2' (by cases vf<;>simp[wK,pF]) o3.tle
 intro n3 hn3 hb3;obtain⟨_,_,_,_,_,honey⟩:=aO hy1;rw[cE]at honey;obtain⟨v9,t4,n4,p1,p2,p3,p4,p5⟩:=f2'.push el46 u2 hy1 (fun a ha=>ycb.1 honey a ha) (by grind) hn3 hb3 o3.tle;rw[p1,xA];have hmap:(st.map vA.d).take k++[(iF names consts x (st.drop k)).d]=(st.take k++[iF names consts x (st.drop k)]).map vA.d:=by
  simp_all
 rw[hmap]at p2;have o5:Objs yA.base tf2 t4 (wK yA.base 9 ((st.take k++[iF names consts x (st.drop k)]).map vA.d) v9::L):=
  Objs.upd (A:=[]) (o:=wK yA.base 9 ((st.map vA.d).take k) vf) (o':=wK yA.base 9 ((st.take k++[iF names consts x (st.drop k)]).map vA.d) v9) o4 (fun c h1 h2=>p4 c (fun e=>h1 (uO.2 e)) (fun e=>h2 (uO.2 e))) (fun c hc=>by
   rcases p5 c (uO.1 hc)with h | rfl
   ·exact .inl (uO.2 h)
   simp_all) p2 (by cases v9<;>simp[wK,pF]) p3
 rw[wrap_i64 (n:=(i:Int)+1) (by omega) (by omega),show(i:Int)+1=((i+1:Nat):Int) by omega];exact hL L tf2 t4 (i+1) to _ v9 Q (hr1.mono e2) o5 hto (by omega) (by grind) (by omega) (hQ.mono (m1.trans e2))
def zc0:∀f,Ta rb names consts code f:=by
 intro f;induction f with
 | zero=>intro L tf t i to st v8 Q _ _ _ hf;omega
 | succ f ih=>exact VO ih
end
end
section
variable [tC]
variable {t tf:Tr qA}
section
variable {names:List (List Nat)}{consts:List yB}{code:List XIns}{L:List xD}{Q:xC}
def nV (consts:List yB)(x:XIns):Bool:=decide (x.op=13)||(decide (x.op=1) && !yC (consts.getD x.a.toNat jH))
def Er(names:List (List Nat))(consts:List yB)(code:List XIns):Option vA:=
 if cX names.length consts.length code=false then none
 else if code.any (nV consts)=true then none
 else rT (iI names consts code lP (code.length+1) 0 code.length [])
def ExpQ (L:List xD)(tf:Tr qA)(r:Option vA)(Q:xC):Prop:=
 (∀x tf' t' cs,r=some x->iA tf tf'->Objs yA.base tf' t' L->RD tf' (vA.d x) cs->Q (.tup [.agg cs,.int .i64 0]) t') ∧
 (r=none->∀tf' t',iA tf tf'->Objs yA.base tf' t' L->Q (.tup [.agg zH,.int .i64 190]) t')
theorem CR{nN nC len:Nat}:∀ {l:List XIns} {i:Nat} {d d':List Nat},xK nN nC len l i d=some d'->∀(k:Nat) x,l[k]?=some x->wF nN nC x (i+k) len=true
 | [],_,_,_,_,k,x,h=>by simp at h
 | y::l,i,d,d',h,k,x,hx=>by
  have h:(rI nN nC len y i d).bind (xK nN nC len l (i+1))=some d':=h;rw[Option.bind_eq_some_iff]at h;obtain⟨d1,h1,h2⟩:=h
  cases k with
  | zero=>
   grind [rI]
  | succ k=>
   have:=CR h2 k x (by simp_all)
   grind
theorem CT{nN nC:Nat}(h:cX nN nC code=true):code.length<=1000/\∀i x,code[i]?=some x->wF nN nC x i code.length=true:=by
 unfold cX at h;rw[ybb,decide_eq_true_eq]at h;refine⟨h.1,fun i x hx=>?_⟩
 cases hl:xK nN nC code.length code 0 (1::List.replicate code.length 0)with
 | none=>simp_all
 | some d=>
  have:=CR hl i x hx
  rwa [ybw]at this
theorem zaq{nm:List Nat}{a b c vn vc vw vt v1:zA}(ho:Objs yA.base tf t L)(hn:sA tf 1 (names.map D.str) vn)(hc:sA tf 6 (consts.map yB.d) vc)(hv:sA tf 3 (code.map XIns.d) v1)(hsz:code.length<1125899906842624)
  (hsh:∀v∈consts,yB.mid v) (hfit:∀v∈consts,rE.fit v.f) (hg:kM tf) (hz0:∃c n,tf.get 0=some (.cells c n none)) (h1a:zA.one a=true) (h1b:zA.one b=true) (h1c:zA.one c=true) (h1w:zA.one vw=true) (h1t:zA.one vt=true)
  (hQ:ExpQ L tf (Er names consts code) Q):Wc yA F 9 [.agg [.str nm,a,b,c,vn,vc,vw,vt],v1] t Q:=by
 have hvt:=hv.mono ho.tle;have hct:=hc.mono ho.tle;have hlen:tB v1=some (.int .i64 (code.length:Int)):=by rw[hvt.len,ybf]
 have hso:=RQ (nm:=nm) (a:=a) (b:=b) (c:=c) (vw:=vw) (vt:=vt) hvt (hn.mono ho.tle) hct (hg.mono ho.tle) hsz;refine w9 ?_;simp only[uQ9,uI,uB,uZ,uY,t9,tA];rw[q25,hso,xA,lE,xA];unfold Er at hQ
 cases hs:cX names.length consts.length code with
 | false=>
  rw[hs,yab rfl]at hQ;exact sB (by simp) (sB (by trivial) (sB (by trivial) (hQ.2 rfl tf t (iA.refl _) ho)))
 | true=>
  rw[hs,yaa (by simp)]at hQ;refine sD (by simp) ?_;rw[hlen,xA,zB,xA];obtain⟨hl1,hall⟩:=CT hs;have loop:∀(m i:Nat),i+m=code.length->(code.take i).any (nV consts)=false->jp 9 2 [v1,v1,.int .i64 (code.length:Int),.int .i64 (i:Int),.str nm,a,b,c,vn,vc,vw,vt,.int .u8 0,.str [],.int .u8 0,.bool false,.nilslice,.bool false,.nilslice,.int .i64 0,.nilslice] t Q:=by
   intro m;induction m with
   | zero=>
    intro i hi hb;have hb:code.any (nV consts)=false:=by simp_all
    rw[hb,yaa (by simp)]at hQ;refine j9_2 ?_;simp only[uQ9,uI,uB,uG,fB,kB,uX,uZ,uY,pH,cD,uA6,t9_2,tA];refine sD (fun e=>absurd (aB.1 e) (by omega)) ?_;have hone1:zD zA.one [v1]=true:=by rw[cE];simp only[ycg,yck,hv.one];rfl
    refine sB hone1 ?_;intro n hn1 hnb;obtain⟨t1,a1,a2,a3,a4⟩:=sX (C:=yA) ty86 hn1;rw[a1,xA];intro n2 _ _;obtain⟨t2,b1,b2,b3⟩:=a2.store (C:=yA) hnb (j:=0) (v:=.agg [.str nm,a,b,c,vn,vc,vw,vt,v1]) ty86 rfl (by show 0+9<=9;decide) (by
     rw[cE];simp only[zA.cells,zA.asAgg,ycg,yck,h1a,h1b,h1c,h1w,h1t,hn.one,hc.one,hv.one];rfl)
    have b1:=b1 n2;have b2:kC t2 n none [.str nm,a,b,c,vn,vc,vw,vt,v1]:=b2;rw[b1,xA,hlen,xA,zB,xA,q27];have o1:=ho.junk hn1 (a4.trans b3);obtain⟨cb,hcb,hcb2⟩:=b2;obtain⟨o2,z1⟩:=o1.froze (ho.fresh hn1) hcb (ho.tfn hn1);have hrd:Rdr (tf.set n (.cells cb [.str nm,a,b,c,vn,vc,vw,vt,v1].length none)) n names consts code:=by
     obtain⟨cz,nz,hz⟩:=hz0;exact⟨⟨nm,a,b,c,vn,vc,vw,vt,v1,⟨cb,by rw[Tr.get_set,yab rfl],hcb2⟩,hn.mono z1,hc.mono z1,hv.mono z1⟩,hsh,hall,hl1,hg.mono z1,⟨cz,nz,z1 _ _ hz⟩⟩
    refine MZ (zc0 (code.length+1)) L _ t2 0 code.length _ hrd o2 (ybk _) (by omega) ⟨fun x tf' t' cs e k1 k2 k3=>?_,fun e tf' t' k1 k2=>?_⟩
    ·obtain⟨a5,b5,c5,rfl,hz5,hone5⟩:=aO k3;simp only[gE,zA.asTup,uA,vE,yaz,yba,xA,lE];unfold zH at hz5;rw[hz5,xA];simp only[oC,cellsOf,mG,tG,zG,gH,yaz,yba];exact sB hone5 (sD (by simp) (sB hone5 (hQ.1 x tf' t' _ e (z1.trans k1) k2 k3)))
    ·have k3':RD tf' kI.d (oC kI .nilslice .nilslice .nilslice):=sS;obtain⟨_,_,_,_,hz5,_⟩:=aO k3';have hz5:gG [(.int .u8 0),(.str []),(.int .u8 0),(.bool false),.nilslice,(.bool false),.nilslice,(.int .i64 0),.nilslice] (.agg zH)=some (cellsOf zH):=hz5;simp only[gE,zA.asTup,uA,vE,yaz,yba,xA,lE];rw[hz5,xA];unfold zH;simp only[cellsOf,mG,tG,zG,gH,yaz,yba];exact sB rfl (sB (by trivial) (sB (by trivial) (sB (by trivial) (hQ.2 e tf' t' (z1.trans k1) k2))))
   | succ m ih=>
    intro i hi hb;have hxl:i<code.length:=by omega
    have hx:code[i]?=some code[i]:=ybd hxl;obtain⟨p,off,g1,g2,_⟩:=Ed hvt hx;have hz:gG [(.int .u8 0),(.int .i64 0),(.int .i64 0)] (.agg code[i].cells)=some (cellsOf code[i].cells):=kN rfl;have htake:code.take (i+1)=code.take i++[code[i]]:=by simp_all
    have hany:nV consts code[i]=true->code.any (nV consts)=true:=fun h=>List.any_eq_true.2 ⟨_,ycj hxl,h⟩;have next:nV consts code[i]=false->jp 9 2 [v1,v1,.int .i64 (code.length:Int),.int .i64 ((i+1:Nat):Int),.str nm,a,b,c,vn,vc,vw,vt,.int .u8 0,.str [],.int .u8 0,.bool false,.nilslice,.bool false,.nilslice,.int .i64 0,.nilslice] t Q:=fun h=>
     ih (i+1) (by omega) (by grind)
    refine j9_2 ?_;simp only[uQ9,uI,uB,uG,fB,kB,uX,uZ,uY,pH,cD,uA6,t9_2,tA];refine sB (aB.2 (by omega)) ?_;rw[g1,xA,g2,xA,hz,xA];simp only[XIns.cells,cellsOf,mG,yaz,yba];refine sB (by trivial) ?_;rw[wrap_i64 (n:=(i:Int)+1) (by omega) (by omega),show(i:Int)+1=((i+1:Nat):Int) by omega];by_cases h13:code[i].op=13
    ·rw[hany (by grind [nV]),yab rfl]at hQ;exact sB (qE.2 (by omega)) (sB (by trivial) (sB (by trivial) (hQ.2 rfl tf t (iA.refl _) ho)))
    refine sD (lG (by omega)) ?_;by_cases h1:code[i].op=1
    ·refine sB (qE.2 (by omega)) ?_;have hsi:=hall i _ hx;unfold wF at hsi;rw[yab h1]at hsi;simp only[ybb,decide_eq_true_eq]at hsi;obtain⟨j,hj⟩:∃j:Nat,code[i].a=(j:Int):=⟨code[i].a.toNat,by omega⟩;have hjl:j<consts.length:=by omega
     have hcj:consts[j]?=some consts[j]:=ybd hjl;obtain⟨q,o,u,w,d1,d2,d3,d4,d5⟩:=Nx hct hcj;rw[hj,d1,xA,d2,xA,d3,xA];simp only[cellsOf,mG,tG,zG,gH,yaz,yba];rw[q26,AM d4 d5 (hfit _ (ycj hjl)),xA,lE,xA];have hbad:nV consts code[i] = !yC consts[j]:=by
      simp_all [nV]
     cases hval:yC consts[j]with
     | false=>
      rw[hval]at hbad;rw[hany hbad,yab rfl]at hQ;exact sB (by simp) (sB (by trivial) (sB (by trivial) (hQ.2 rfl tf t (iA.refl _) ho)))
     | true=>
      simp_all
    grind [lG,nV]
  exact loop code.length 0 (by omega) rfl
end
end
section
variable [tC]
variable {t tf:Tr qA}
variable {N:List (List Nat)}{K:List yB}{code:List XIns}{same:yB->yB->Bool}
structure PrgR (tf:Tr qA) (names:List (List Nat)) (consts:List yB) (whens thens:List (List XIns)) (a b c vn vc vw vt:zA):Prop where
 a:zA.one a=true
 b:zA.one b=true
 c:zA.one c=true
 n:sA tf 1 (names.map D.str) vn
 k:sA tf 6 (consts.map yB.d) vc
 w:sA tf 1 (whens.map kF) vw
 t:sA tf 1 (thens.map kF) vt
def zen(consts:List yB):Prop:=(∀v∈consts,yB.mid v)/\∀v∈consts,rE.fit v.f
end
end Go.Proofs
namespace Go.Am
structure InsR (N N':List (List Nat)) (K K':List yB) (i j:XIns):Prop where
 op:j.op=i.op
 b:j.b=i.b
 a:i.op≠1->¬ rJ i.op->j.a=i.a
 const:i.op=1->∃(k k':Nat) (v:yB),i.a=(k:Int)/\j.a=(k':Int)/\K[k]?=some v/\K'[k']?=some v
 name:rJ i.op->∃(k k':Nat) (n:List Nat),i.a=(k:Int)/\j.a=(k':Int)/\N[k]?=some n/\N'[k']?=some n
inductive Td (N N':List (List Nat)) (K K':List yB):List XIns->List XIns->Prop
 | nil:Td N N' K K' [] []
 | cons {i j:XIns} {l m:List XIns}:InsR N N' K K' i j->Td N N' K K' l m->Td N N' K K' (i::l) (j::m)
structure Ext (s r:Nt):Prop where
 names:∃u,r.names=s.names++u
 consts:∃u,r.consts=s.consts++u
section
variable {key:yB->List Nat}{valid:yB->Bool}{P:yB->Prop}
structure TrR (key:yB->List Nat) (P:yB->Prop) (f:sH):Prop where
 ext:∀s p,Ext s (f s p).1
 rel:∀s s' p,aJ key P s->aJ key P s'->∀r r',Ext (f s p).1 r->Ext (f s' p).1 r'->Td r.names r'.names r.consts r'.consts (f s p).2 (f s' p).2
end
end Go.Am
namespace Go.Am
variable {n:Int}
def Ck (l:List Nat):Nat:=l.foldl (fun a c=>a*10+(c-48)) 0
def PG(l:List Nat)(c:Nat):Ck (l++[c])=Ck l*10+(c-48):=by unfold Ck;rw[List.foldl_append];rfl
def LO(n:Nat)(h:n<10):(UInt8.ofNat (48+n)).toNat=48+n:=by
 rw[UInt8.toNat_ofNat'];omega
def Ex(u:Nat):Ck ((Lib.decDigits u).map UInt8.toNat)=u/\∀c∈(Lib.decDigits u).map UInt8.toNat,48<=c/\c<58:=by
 induction u using Nat.strongRecOn with
 | _ u ih=>
  by_cases h:u<10
  ·rw[Lib.decDigits,dif_pos h];simp only[ycm,List.map_nil,LO u h];exact⟨by unfold Ck;simp,by simp;omega⟩
  ·rw[Lib.decDigits,dif_neg h];obtain⟨h1,h2⟩:=ih (u / 10) (by omega);simp only[List.map_append,ycm,List.map_nil,LO (u%10) (by omega)];refine⟨by rw[PG,h1];omega,fun c hc=>?_⟩;rcases yaf.1 hc with hc | hc
   ·exact h2 c hc
   ·simp at hc;omega
def WG  : ∀c∈aG n,c=45\/48<=c/\c<58:=by
 intro c hc;unfold aG Lib.itoa at hc;split at hc
 ·simp only[ycm,ybs]at hc;rcases hc with rfl | hc
  ·exact .inl rfl
  ·exact .inr ((Ex _).2 c hc)
 ·exact .inr ((Ex _).2 c hc)
def Ya{m:Int}(h:aG m=aG n):m=n:=by
 have ne:∀ {a b:Nat},(Lib.decDigits a).map UInt8.toNat≠45::(Lib.decDigits b).map UInt8.toNat:=fun {a b} e=>by
  have:=(Ex a).2 45 (by rw[e];simp);omega
 unfold aG Lib.itoa at h;split at h<;>split at h
 ·simp only[ycm,List.cons.injEq]at h;have:=congrArg Ck h.2;rw[(Ex _).1,(Ex _).1]at this;omega
 ·exact absurd h.symm ne
 ·exact absurd h ne
 ·have:=congrArg Ck h;rw[(Ex _).1,(Ex _).1]at this;omega
def Zi{a b r s:List Nat}(ha:∀c∈a,c≠44)(hb:∀c∈b,c≠44)(h:a++44::r=b++44::s):a=b/\r=s:=by
 induction a generalizing b with
 | nil=>
  cases b with
  | nil=>simp at h;exact⟨rfl,h⟩
  | cons y b=>
   simp only[yah,List.cons_append,List.cons.injEq]at h;exact absurd h.1.symm (hb y (by simp))
 | cons x a ih=>
  cases b with
  | nil=>
   simp only[yah,List.cons_append,List.cons.injEq]at h;exact absurd h.1 (ha x (by simp))
  | cons y b=>
   simp only[List.cons_append,List.cons.injEq]at h;obtain⟨h1,h2⟩:=ih (fun c hc=>ha c (by simp[hc])) (fun c hc=>hb c (by simp[hc])) h.2;exact⟨by rw[h.1,h1],h2⟩
def Ly  : ∀c∈aG n,c≠44:=fun c hc=>by
 have:=WG c hc;omega
end Go.Am
namespace Go.Proofs
open Go Go.Am
variable {b:Bool}{r s:List Nat}
variable [tC]
def NE:∀ {l m:List Nat} {r s:List Nat},mB 65536 l->mB 65536 m->l.length=m.length->sL l++r=sL m++s->l=m/\r=s
 | [],[],r,s,_,_,_,h=>⟨rfl,h⟩
 | [],_::_,_,_,_,_,h,_=>by simp at h
 | _::_,[],_,_,_,_,h,_=>by simp at h
 | x::l,y::m,r,s,hl,hm,hn,h=>by
  simp only[sL,List.cons_append,List.cons.injEq]at h;obtain⟨h1,h2,h3⟩:=h;obtain⟨h4,h5⟩:=NE (fun z hz=>hl z (by simp[hz])) (fun z hz=>hm z (by simp[hz])) (by simpa using hn) h3;have hx:=hl x (by simp);have hy:=hm y (by simp);exact⟨by rw[h4,show x=y by omega],h5⟩
def ZB  : ∀c∈zQ b,c≠44:=by cases b<;>decide
def ZC{b':Bool} (h:zQ b++r=zQ b'++s):b=b'/\r=s:=by
 cases b<;>cases b'<;>simp[zQ]at h ⊢<;>exact h
def IU{w w':eH} (hw:mB 65536 w.limbs)(hw':mB 65536 w'.limbs)(h:pM w++r=pM w'++s):w=w'/\r=s:=by
 obtain⟨neg,l⟩:=w;obtain⟨neg',l'⟩:=w';unfold pM at h;simp only[List.cons_append,List.cons.injEq,ybz,true_and,yah]at h;have h:(zQ neg++aG ((2*l.length:Nat):Int))++44::(sL l++r)=(zQ neg'++aG ((2*l'.length:Nat):Int))++44::(sL l'++s):=by
  simpa[ybz]using h
 have nc:∀(b:Bool) (n:Int),∀c∈zQ b++aG n,c≠44:=fun b n c hc=>by
  rcases yaf.1 hc with hc | hc
  ·exact ZB c hc
  ·exact Ly c hc
 obtain⟨h1,h2⟩:=Zi (nc _ _) (nc _ _) h;obtain⟨h3,h4⟩:=ZC h1;have h5:=Ya h4;obtain⟨h6,h7⟩:=NE (l:=l) (m:=l') hw hw' (by omega) h2;exact⟨by subst h3 h6;rfl,h7⟩
def zdd{v w:yB}(hv:v.fit)(hw:w.fit)(h:xB v=xB w):v=w:=by
 obtain⟨k,⟨n,d⟩,i⟩:=v;obtain⟨k',⟨n',d'⟩,i'⟩:=w;unfold xB at h;have h:aG (k:Int)++44::(aG i++(pM n++pM d))=aG (k':Int)++44::(aG i'++(pM n'++pM d')):=by simpa[ybz]using h
 obtain⟨h1,h2⟩:=Zi Ly Ly h;have e:∀(w:eH) (s:List Nat),pM w++s=44::((pM w++s).drop 1):=fun w s=>by unfold pM;simp
 rw[e n,e n']at h2;obtain⟨h3,h4⟩:=Zi Ly Ly h2;have h4:pM n++pM d=pM n'++pM d':=by rw[e n,e n',h4]
 obtain⟨h5,h6⟩:=IU hv.2.1.2.1 hw.2.1.2.1 h4;obtain⟨h7,_⟩:=IU (r:=[]) (s:=[]) hv.2.1.2.2 hw.2.1.2.2 (by simpa using h6);have:=Ya h1;have:=Ya h3;subst h5 h7;simp only[yB.mk.injEq];exact⟨by omega,trivial,by omega⟩
def zdn(u v:yB)(hu:qV u)(hv:qV v)(h:xB u=xB v):u=v:=zdd hu.2 hv.2 h
end Go.Proofs
namespace Go.Proofs
open Go Go.Am
section
variable [tC]
variable {t tf:Tr qA}
def zjk{l:List (List XIns)}{v:zA}(hv:sA tf 1 (l.map kF) v)(ht:iA tf t){i:Nat}{x:List XIns}(hx:l[i]?=some x) :
  ∃b off u,aA yA 31 v (.int .i64 (i:Int))=some (.ptr b off)/\mA yA 51 ⟨0,t⟩ (.ptr b off)=some u/\sA tf 3 (x.map XIns.d) u:=by
 obtain⟨b,off,cs,g1,g2,g3,_,g5⟩:=eD.at sl31 (fun _=>rfl) hv (i:=i) (d:=kF x) (by simp[hx]);unfold kF at g5;rw[cL]at g5;obtain⟨u,rfl,hu⟩:=g5;exact⟨b,off,u,g1,tQ (H:=⟨0,tf⟩) (fun _ _ k=>ht _ _ k) g2,hu⟩
end
section
variable [tC]
variable {t tf:Tr qA}
def Lk{p:rG}{a b c:zA}(ha:sA t 3 (p.defs.map eI.d) a)(hb:sA t 3 (p.tables.map oE.d) b)(hc:sA t 24 (p.clauses.map fC.d) c):RD t p.d [.str p.name,a,b,c]:=by
 unfold rG.d;simp only[yJ,uF,bE,gV,cL];exact⟨[[.str p.name],[a],[b],[c]],rfl,_,_,rfl,rfl,_,_,rfl,⟨a,rfl,ha⟩,_,_,rfl,⟨b,rfl,hb⟩,_,_,rfl,⟨c,rfl,hc⟩,rfl⟩
end
section
variable {p:rG}{a b c vc vn vt vw:zA}
variable [tC]
variable {t tf:Tr qA}
def za5 (hp:p.fit):zen (yF p).1.consts:=by
 have l1:=(HD hp).1;exact⟨fun v hv=>Vq (AL (l1.all v hv).1),fun v hv=>(l1.all v hv).2.2.1⟩
def prg_of  (h1:sA tf 3 (p.defs.map eI.d) a)(h2:sA tf 3 (p.tables.map oE.d) b)(h3:sA tf 24 ((p.clauses.map fI).map fC.d) c)(h4:sA tf 1 ((yF p).1.names.map D.str) vn)(h5:sA tf 6 ((yF p).1.consts.map yB.d) vc)
  (h6:sA tf 1 ((yF p).2.map fun q=>kF q.1) vw) (h7:sA tf 1 ((yF p).2.map fun q=>kF q.2) vt):PrgR tf (yF p).1.names (yF p).1.consts ((yF p).2.map Prod.fst) ((yF p).2.map Prod.snd) a b c vn vc vw vt:=
 ⟨h1.one,h2.one,h3.one,h4,h5,by rw[List.map_map];exact h6,by rw[List.map_map];exact h7⟩
def zjw  (h1:sA tf 3 (p.defs.map eI.d) a)(h2:sA tf 3 (p.tables.map oE.d) b)(h3:sA tf 24 ((p.clauses.map fI).map fC.d) c)(h4:sA tf 1 ((yF p).1.names.map D.str) vn)(h5:sA tf 6 ((yF p).1.consts.map yB.d) vc)
  (h6:sA tf 1 ((yF p).2.map fun q=>kF q.1) vw) (h7:sA tf 1 ((yF p).2.map fun q=>kF q.2) vt) {nm:List Nat}:gG [(.str []),.nilslice,.nilslice,.nilslice,.nilslice,.nilslice,.nilslice,.nilslice] (.agg [.str nm,a,b,c,vn,vc,vw,vt])=some (cellsOf [.str nm,a,b,c,vn,vc,vw,vt]) ∧
   zD zA.one [.str nm,a,b,c,vn,vc,vw,vt]=true:=by
 refine⟨kN ?_,?_⟩
 ·show(true&&(mH .nilslice a&&(mH .nilslice b&&(mH .nilslice c&&(mH .nilslice vn&&(mH .nilslice vc&&(mH .nilslice vw&&(mH .nilslice vt&&true))))))))=true;rw[cM h1,cM h2,cM h3,cM h4,cM h5,cM h6,cM h7];rfl
 ·rw[cE];simp only[ycg,yck,h1.one,h2.one,h3.one,h4.one,h5.one,h6.one,h7.one];rfl
def ML{l:List (List XIns)}{v:zA}(hv:sA tf 1 (l.map kF) v)(ht:iA tf t){i:Nat}{x:List XIns}(hx:l[i]?=some x) :
  ∃b off u,aA yA 31 v (.int .i64 (i:Int))=some (.ptr b off)/\mA yA 51 ⟨0,t⟩ (.ptr b off)=some u/\sA tf 3 (x.map XIns.d) u/\tB u=some (.int .i64 (x.length:Int)):=by
 obtain⟨b,off,u,h1,h2,h3⟩:=zjk hv ht hx;exact⟨b,off,u,h1,h2,h3,by rw[h3.len,ybf]⟩
end
section
variable [tC]
variable {t tf:Tr qA}
mutual
def Vm:∀(x:vA) (deep c:Nat),(aN x deep c).1=true->Eu x+deep<=25
 | .mk op name v args,deep,c,h=>by
  unfold aN at h;unfold Eu;split at h
  ·cases h
  ·split at h
   ·cases h
   ·have:=DC args (deep+1) (c+1) h;omega
def DC:∀(l:List vA) (deep c:Nat),(zO l deep c).1=true->Ev l+deep<=25\/Ev l=0
 | [],deep,c,h=>.inr rfl
 | x::l,deep,c,h=>by
  unfold zO at h;unfold Ev;split at h
  ·rename_i e;have h1:=Vm x deep c e;rcases DC l deep _ h with h2 | h2
   ·left;omega
   ·left;omega
  ·cases h
end
end
end Go.Proofs
namespace Go.Am
open Go
variable {k u:Nat}
def vI (u:Nat):List Nat:=(Lib.decDigits u).map UInt8.toNat
theorem Rz (h:u<10):vI u=[48+u]:=by
 grind [vI,Lib.decDigits_one,UInt8.toNat_ofNat']
theorem Sc (h:¬ u<10):vI u=vI (u / 10)++[48+u%10]:=by
 grind [vI,Lib.decDigits,UInt8.toNat_ofNat']
def Xz(u:Nat):aG (u:Int)=vI u:=by
 grind [aG,Lib.itoa,vI]
def JE (h:0<u):aG (-(u:Int))=45::vI u:=by
 grind [aG,Lib.itoa,vI]
def zd3(u:Nat):(vI u).length=Lib.nDigits u:=by unfold vI;rw[ybf,Lib.decDigits_length]
theorem Sb(u:Nat):0<(vI u).length:=by rw[zd3];exact Lib.nDigits_pos u
def Sa(u:Nat):∀x∈vI u,48<=x/\x<58:=by
 induction u using Nat.strongRecOn with
 | _ u ih=>
  grind [Rz,Sc]
def Mp (hk:0<k)(h:u<10^k):(vI u).length<=k:=by
 induction k generalizing u with
 | zero=>omega
 | succ k ih=>
  grind [Rz,Sc]
def iQ:Nat->Nat->List Nat
 | 0,_=>[]
 | k+1,r=>iQ k (r / 10)++[48+r%10]
theorem Wm:∀(k r:Nat),(iQ k r).length=k
 | 0,_=>rfl
 | k+1,r=>by rw[iQ,ybg,Wm k];rfl
theorem FK:∀k,iQ k 0=List.replicate k 48
 | 0=>rfl
 | k+1=>by rw[iQ,FK k,List.replicate_succ']
theorem zht{r:Nat}(hk:0<k)(h:r<10^k):iQ k r=List.replicate (k-(vI r).length) 48++vI r:=by
 induction k generalizing r with
 | zero=>omega
 | succ k ih=>
  rw[iQ];by_cases h10:r<10
  ·grind [Rz,FK]
  ·have h1:r / 10<10^k:=by omega
   have hk0:0<k:=by
    grind
   simp_all [Sc]
def zd2{q:Nat}(hq:0<q):∀ {k r:Nat},r<10^k->vI (q*10^k+r)=vI q++iQ k r:=by
 intro k;induction k with
 | zero=>grind [iQ]
 | succ k ih=>
  intro r h;have hp:0<10^k:=Nat.pow_pos (by decide);have hb:¬ q*10^(k+1)+r<10:=by
   have:10^(k+1)=10^k*10:=yag ..;have h2:10<=q*10^(k+1):=by
    rw[this];calc 10=1*(1*10):=by omega
     _<=q*(10^k*10):=ydb hq (ydb hp (ybk _))
   omega
  have e1:(q*10^(k+1)+r) / 10=q*10^k+r / 10:=by
   rw[yag,<- ybj,yap,Nat.add_mul_div_right _ _ (by decide),yap]
  have e2:(q*10^(k+1)+r)%10=r%10:=by
   rw[yag,<- ybj,yap,Nat.add_mul_mod_self_right]
  rw[Sc hb,e1,e2,ih (by omega),iQ,ybz]
def FN:∀(k r:Nat),∀x∈iQ k r,48<=x/\x<58
 | 0,_,x,hx=>by cases hx
 | k+1,r,x,hx=>by
  rw[iQ]at hx;rcases yaf.1 hx with hx | hx
  ·exact FN k _ x hx
  grind
def kK:List Nat->List Nat
 | []=>[]
 | [p]=>vI p
 | p::q::l=>kK (q::l)++iQ 9 p
def BP:∀ {l:List Nat},l≠[]->(∀x∈l,x<1000000000)->l.getLast?≠some 0->kK l=vI (val 1000000000 l)/\0<val 1000000000 l
 | [],h,_,_=>absurd rfl h
 | [p],_,_,h=>by
  grind [kK,val]
 | p::q::l,_,h1,h2=>by
  obtain⟨g1,g2⟩:=BP (l:=q::l) (by simp) (fun x hx=>h1 x (.tail _ hx)) (by simp_all);have hp:=h1 p (.head _);have e:val 1000000000 (p::q::l)=val 1000000000 (q::l)*10^9+p:=by
   rw[val];omega
  rw[e,zd2 g2 (by omega),kK,g1]
  grind
def Ua:∀(l:List Nat),∀x∈kK l,48<=x/\x<58
 | [],x,hx=>by cases hx
 | [p],x,hx=>Sa p x hx
 | p::q::l,x,hx=>by
  rw[kK]at hx;rcases yaf.1 hx with hx | hx
  ·exact Ua _ x hx
  ·exact FN _ _ x hx
def intN (neg:Bool)(n:Nat):List Nat:=(if neg then [45]else [])++vI n
end Go.Am
namespace Go.Proofs
open Go Go.Am
variable {cd:Lo}{base sz:Nat}{l:List D}{v:zA}
variable [tC]
variable {t tf:Tr qA}
theorem jG.call    (h:jG cd base tf t sz l v)(ht:iA tf t):∃t0,iA tf t0/\∀ {f:Nat} {args:List zA} {Q:xC},Wc yA F f args t0 Q->Wc yA F f args t (fun u t'=>∃t1,Q u t1/\(iA tf t1->iA t1 t'/\jG cd base t1 t' sz l v)):=by
 rcases h with⟨rfl,rfl⟩ | ⟨b,cl,c,rfl,h0,h1,h2,h3,h4⟩
 ·exact⟨t,ht,fun h=>h.mono fun u t' hq=>⟨t',hq,fun _=>⟨iA.refl _,.inl ⟨rfl,rfl⟩⟩⟩⟩
 ·obtain⟨t0,g1,g2⟩:=Tr.without t b;refine⟨t0,fun k u hk=>?_,fun h=>(h.frame h2 g1 g2).mono fun u t' ⟨t1,k1,k2,k3,k4⟩=>⟨t1,k1,fun hle=>⟨fun k u hk=>?_,.inr ⟨b,cl,c,rfl,h0,k2,k3,h3,qC.mono hle _ _ h4⟩⟩⟩⟩
  ·have hkb:k≠b:=by grind
   rw[<- g2 k hkb];exact ht _ _ hk
  ·have hkb:k≠b:=by grind
   rw[k4 k hkb];exact hk
def el120:Bu yA 253 256 1:=⟨⟨_,rQ,rfl,rfl⟩,⟨_,cH,rfl,rfl,by decide,by decide⟩⟩
def el44:Bu yA 142 5 1:=⟨⟨_,oP,rfl,rfl⟩,⟨_,pP,rfl,rfl,by decide,by decide⟩⟩
def co202:∀z,yA.tys.get 256=some z->vL 256 z=.sz 1:=fun z h=>by rw[cH]at h;cases h;rfl
def co5:∀z,yA.tys.get 5=some z->vL 5 z=.ty 5:=fun z h=>by rw[pP]at h;cases h;rfl
theorem WI    {b:Nat}(h:jG cd base tf t sz l v)(hb:xI v b)(hn:t.get b=none):False:=by
 obtain⟨_,_,y,hy⟩:=h.none hb
 simp_all
theorem UE{v2:List Nat}{v3:Int}{neg:Bool}{c1:zA}{N M:Nat}{Q:xC}{t0:Tr qA}(hM:M<400000)
  (hR:∀(tf t':Tr qA) (ps:List Nat) (v4 v5:zA),iA t0 tf->iA tf t'->jG (.sz 1) yA.base tf t' 1 (zC .u32 ps) v4->sA tf 1 (zC .u32 []) v5->mB 1000000000 ps->ps≠[]->ps.getLast?≠some 0->val 1000000000 ps=N->ps.length<=M->jp 172 2 [.str v2,.int .i64 v3,v4,v5,.bool neg,c1] t' Q) :
  ∀(k:Nat) (l ps:List Nat) (v4 v5:zA) (tf t':Tr qA),val 4294967296 l<1000000000^k->k+ps.length<=M->norm l->mB 4294967296 l->l.length<900000->mB 1000000000 ps->(l=[]->ps≠[]/\ps.getLast?≠some 0) →
   val 4294967296 l*1000000000^ps.length+val 1000000000 ps=N->iA t0 tf->iA tf t'->jG (.sz 1) yA.base tf t' 1 (zC .u32 ps) v4->sA tf 1 (zC .u32 l) v5->jp 172 2 [.str v2,.int .i64 v3,v4,v5,.bool neg,c1] t' Q:=by
 intro k;induction k with
 | zero=>
  intro l ps v4 v5 tf t' h1 h2 h3 h4 h5 h6 h7 h8 h9 h10 h11 h12;have hl:l=[]:=Qk (B:=4294967296) (by decide) h3 (by omega)
  grind
 | succ k ih=>
  intro l ps v4 v5 tf t' h1 h2 h3 h4 h5 h6 h7 h8 h9 h10 h11 h12;by_cases hl:l=[]
  ·grind [val]
  have hpos:0<l.length:=List.length_pos_iff.2 hl;have hv0:0<val 4294967296 l:=by
   rcases yav (val 4294967296 l)with e | e
   ·exact absurd (Qk (B:=4294967296) (by decide) h3 e) hl
   ·exact e
  refine zf1 ?_;simp only[uI,uL,uX,uZ,uY,Uq,tA,(h12.mono h10).len,xA,zB,kG,aB];rw[yab (by omega),q201];obtain⟨t1,g1,g2⟩:=jG.call h11 h10;refine(g2 (LM (h12.mono g1) h5 h4 (d:=1000000000) (by decide) (by decide) (Q:=fun u t'=>∃v' q r,u=.tup [v',.int .u32 (r:Nat)]/\iA t1 t'/\sA t' 1 (zC .u32 (wG q)) v'/\mB 4294967296 q/\q.length=l.length/\r<1000000000/\val 4294967296 l=val 4294967296 q*1000000000+r) fun t' v' q r a b c d e f=>⟨v',q,r,rfl,a,b,c,d,e,f⟩)).mono ?_
  rintro u t2 ⟨tf2,⟨v',q,r,rfl,a1,a2,a3,a4,a5,a6⟩,hk⟩;obtain⟨b1,b2⟩:=hk (g1.trans a1);have x0:gE 0 (.tup [v',.int .u32 (r:Nat)])=some v':=rfl;have x1:gE 1 (.tup [v',.int .u32 (r:Nat)])=some (.int .u32 (r:Nat)):=rfl;simp only[x0,x1,xA,zB];intro n hn hbase;obtain⟨H1,c1',c2,c3⟩:=Xg (k:=.u32) rQ rfl cH rfl rfl r trivial hn;rw[c1',xA];intro n2 hn2 hbase2;have b3:jG (.sz 1) yA.base tf2 H1.t 1 (zC .u32 ps) v4:=b2.keep' fun b hb=>by
   obtain⟨_,_,y,hy⟩:=b2.none hb;rw[c3 _ _ hy,hy]
  obtain⟨t4,d1,d2,d3,d4⟩:=OF el120 co202 b3 (c2.all (cap:=1) (ybk _)) (by simp) (by grind) hn2 hbase2 (b1.trans c3);simp only[List.length_singleton]at d1 d2;simp only[];rw[d1,xA];refine ih (wG q) (ps++[r]) _ _ tf2 t4 ?_ ?_ (pY _) (iZ a3) ?_ ?_ ?_ ?_ (h9.trans (g1.trans a1)) d3 ?_ a2
  ·grind [iX]
  ·grind
  ·grind [Vc]
  ·exact OM h6 fun x hx=>by simp_all
  ·intro hs;refine⟨by simp,?_⟩;have hq:val 4294967296 q=0:=by rw[<- iX,hs];rfl
   grind
  ·rw[iX,Fu,ybg];simp only[val,ybn,ybx,ybw,yat,yct];grind
  omega
end Go.Proofs
namespace Go.Proofs
open Go Go.Am
section
variable {n:Nat}{Q:xC}
variable [tC]
variable {t tf:Tr qA}{bx:Nat}{s m:List Nat}
def TX (tf t:Tr qA)(bx:Nat)(s:List Nat):Prop:=yA.base<=bx/\tf.get bx=none/\iA tf t/\∃tv,kC t bx none [tv]/\jG (.ty 5) yA.base tf t 1 (zC .u8 s) tv/\¬ xI tv bx
theorem TX.both(h:TX tf t bx s) (hn:t.get n=none)(y:qA):TX (tf.set n y) (t.set n y) bx s:=by
 obtain⟨h1,h2,h3,tv,h4,h5,h6⟩:=h;have hbx:bx≠n:=by intro e;obtain⟨c,h,_⟩:=h4;simp_all
 refine⟨h1,by grind [Tr.get_set],DN hn h3,tv,h4.off (by rw[Tr.get_set,yaa hbx]),?_,h6⟩;have hb:∀b,xI tv b->b≠n:=fun b hb e=>WI h5 hb (e ▸ hn);rcases h5 with⟨rfl,h5⟩ | ⟨b,cl,c,rfl,k0,k1,k2,k3,k4⟩
 ·exact .inl ⟨rfl,h5⟩
 ·have hbn:=hb b (tO.2 rfl);exact .inr ⟨b,cl,c,rfl,k0,by grind [Tr.get_set],by grind [Tr.get_set],k3,qC.mono (fun c u hc=>by
   grind [Ql,Tr.get_set]) _ _ k4⟩
theorem TX.out {y:qA}(hn:tf.get n=none)(h:TX (tf.set n y) t bx s):TX tf (t.del n) bx s:=by
 obtain⟨h1,h2,h3,tv,h4,h5,h6⟩:=h;have hbx:bx≠n:=by grind [Tr.get_set]
 have hle:iA tf (tf.set n y):=(jJ hn y).1;rw[Tr.get_set,yaa hbx]at h2;refine⟨h1,h2,fun c u hc=>?_,tv,h4.off (by rw[Tr.get_del,yaa hbx]),?_,h6⟩
 ·have:c≠n:=fun e=>by simp_all
  rw[Tr.get_del,yaa this];exact h3 _ _ (hle _ _ hc)
 ·rcases h5 with⟨rfl,h5⟩ | ⟨b,cl,c,rfl,k0,k1,k2,k3,k4⟩
  ·exact .inl ⟨rfl,h5⟩
  ·have hbn:b≠n:=by grind [Tr.get_set]
   refine .inr ⟨b,cl,c,rfl,k0,by grind [Tr.get_set],by grind [Tr.get_del],k3,?_⟩
   grind [Bq]
theorem TX.load(h:TX tf t bx s):∃tv,mA yA 142 ⟨0,t⟩ (.ptr bx 0)=some tv/\kC t bx none [tv]/\jG (.ty 5) yA.base tf t 1 (zC .u8 s) tv/\¬ xI tv bx:=by
 obtain⟨h1,h2,h3,tv,h4,h5,h6⟩:=h;exact⟨tv,h4.load1 oP rfl rfl,h4,h5,h6⟩
theorem TX.put{t1:Tr qA}{k:Nat}{tv:zA}(hb:yA.base<=bx)(hf:tf.get bx=none)(hc:kC t1 bx none [tv])(hl:jG (.ty 5) yA.base tf t1 1 (zC .u8 s) (.slice n 0 k k))(hle:iA tf t1)(hn:n≠bx) :
  ∃t2,(∀n',cC yA 142 (.ptr bx 0) (.slice n 0 k k) ⟨n',t1⟩=some (kD,⟨n',t2⟩))/\TX tf t2 bx s:=by
 obtain⟨t2,g1,g2,g3⟩:=hc.store1 (v:=.slice n 0 k k) hb oP rfl rfl rfl (j:=0) (by simp);refine⟨t2,g1,hb,hf,hle.off hf g3,_,g2,hl.keep' fun b hb'=>g3 b fun e=>?_,fun e=>?_⟩
 all_goals grind [tO]
theorem TX.add(h:TX tf t bx s)(hm:m≠[])(hl:s.length+m.length<400000):∃tv,mA yA 142 ⟨0,t⟩ (.ptr bx 0)=some tv/\∀n,t.get n=none->yA.base<=n →
  ∃w t1 t2,qD yA 142 9 tv (.str m) ⟨n,t⟩=some (w,⟨n+1,t1⟩)/\(∀n',cC yA 142 (.ptr bx 0) w ⟨n',t1⟩=some (kD,⟨n',t2⟩))/\TX tf t2 bx (s++m):=by
 obtain⟨tv,h1,h2,h3,h4⟩:=h.load;refine⟨tv,h1,fun n hn hbase=>?_⟩;have hbn:n≠bx:=by intro e;obtain⟨c,hh,_⟩:=h2;simp_all
 obtain⟨t1,g1,g2,g3,g4⟩:=OC el44 ⟨_,yK,rfl⟩ co5 h3 hm hl hn hbase h.2.2.1;obtain⟨t2,g5,g6⟩:=TX.put h.1 h.2.1 (h2.off (g4 bx hbn.symm h4)) g2 g3 hbn
 grind
theorem TX.byte(h:TX tf t bx s)(x:Nat)(hl:s.length+1<400000):∃tv,mA yA 142 ⟨0,t⟩ (.ptr bx 0)=some tv/\∀n,t.get n=none->yA.base<=n →
  ∃H1,aE yA 142 1 [(0,.int .u8 (x:Int))] ⟨n,t⟩=some (.slice n 0 1 1,H1)/\∀n2,H1.t.get n2=none->yA.base<=n2 →
   ∃w t1 t2,qD yA 142 142 tv (.slice n 0 1 1) ⟨n2,H1.t⟩=some (w,⟨n2+1,t1⟩)/\(∀n',cC yA 142 (.ptr bx 0) w ⟨n',t1⟩=some (kD,⟨n',t2⟩))/\TX tf t2 bx (s++[x]):=by
 obtain⟨tv,h1,h2,h3,h4⟩:=h.load;refine⟨tv,h1,fun n hn hbase=>?_⟩;obtain⟨H1,c1,c2,c3⟩:=Xg (k:=.u8) oP rfl pP rfl rfl x trivial hn;refine⟨H1,c1,fun n2 hn2 hbase2=>?_⟩;have hcel:kC H1.t bx none [tv]:=h2.off (by
  obtain⟨c,hh,_⟩:=h2;rw[c3 _ _ hh,hh])
 have hbn:n2≠bx:=by intro e;obtain⟨c,hh,_⟩:=hcel;simp_all
 have h3':jG (.ty 5) yA.base tf H1.t 1 (zC .u8 s) tv:=h3.keep' fun b hb=>by
  obtain⟨_,_,y,hy⟩:=h3.none hb;rw[c3 _ _ hy,hy]
 obtain⟨t1,g1,g2,g3,g4⟩:=OF el44 co5 h3' (c2.all (cap:=1) (ybk _)) (by simp) (by omega) hn2 hbase2 (h.2.2.1.trans c3);simp only[List.length_singleton]at g1 g2;obtain⟨t2,g5,g6⟩:=TX.put h.1 h.2.1 (hcel.off (g4 bx hbn.symm h4)) g2 g3 hbn
 grind
theorem zcs {c:Nat}(hm:m≠[])(hc:c<100)(hml:m.length<100):∀(k i:Nat) (s:List Nat) (t:Tr qA),i+k=c->s.length+k+m.length<400000->TX tf t bx s->(∀t',TX tf t' bx (s++(List.replicate k 48++m))->Q (.bool true) t') →
  jp 172 10 [.ptr bx 0,.str m,.int .i64 (c:Int),.int .i64 (i:Int)] t Q:=by
 intro k;induction k with
 | zero=>
  intro i s t hi hl h hQ;refine JD ?_;simp only[kB,uZ,uY,Ur,tA,aB];rw[yaa (by omega)];obtain⟨tv,g1,g2⟩:=h.add hm (by omega)
  grind [xA]
 | succ k ih=>
  intro i s t hi hl h hQ;refine JD ?_;simp only[kB,uZ,uY,Ur,tA,aB];rw[yab (by omega)];obtain⟨tv,g1,g2⟩:=h.byte 48 (by omega);rw[g1,xA];intro n hn hbase;obtain⟨H1,g3,g4⟩:=g2 n hn hbase;rw[show((48:Nat):Int)=48 from rfl]at g3;rw[g3,xA];intro n2 hn2 hbase2;obtain⟨w,t1,t2,g5,g6,g7⟩:=g4 n2 hn2 hbase2;simp only[];rw[g5,xA];intro n3 _ _;rw[g6,xA];rw[wrap_i64 (by omega) (by omega),show(i:Int)+1=((i+1:Nat):Int) by omega]
  refine ih (i+1) (s++[48]) t2 (by omega) (by grind) g7 fun t' h'=>hQ t' ?_
  grind
def zgv{u:Nat}(h:u<18446744073709551616):iB yA F 203 [.int .u64 (u:Int),.int .i64 10] t=some (.str (vI u)):=by
 have hg:yA.prims.get 203=some (hO Pu):=by kernel_rfl
 refine Dj hg fun H=>?_;show vB (eC 0 (u:Int)&&jB (u:Int) 18446744073709551616&&cA 10 10) (some (zA.str (aG (u:Int))))=_;rw[Xz,vG.2 (by omega),aB.2 (by omega)];rfl
def My(s:List Nat)(x:Nat):List Nat:=if s=[]\/s=[45]then s++vI x else s++iQ 9 x
theorem zjp {x:Nat}(h:TX tf t bx s)(hx:x<1000000000)(hs:s.length<300000)(hlt:mB 256 s)(hQ:∀t',TX tf t' bx (My s x)->Q (.bool true) t'):jp 172 6 [.ptr bx 0,.int .u32 (x:Int)] t Q:=by
 have hd:=Sb x;have hd9:(vI x).length<=9:=Mp (by decide) (by omega);have hne:vI x≠[]:=fun e=>by simp_all
 have hpad:s≠[]->s≠[45]->jp 172 10 [.ptr bx 0,.str (vI x),.int .i64 (dA .i64 (9-Int.ofNat (wB (vI x)))),.int .i64 0] t Q:=by
  intro h1 h2;have e:dA .i64 (9-Int.ofNat (wB (vI x)))=((9-(vI x).length:Nat):Int):=by
   grind [oD,wrap_i64]
  rw[e];refine zcs hne (by omega) (by omega) _ 0 s t (ybw _) (by omega) h fun t' h'=>hQ t' ?_
  grind [My,zht]
 have hadd:s=[]\/s=[45]->∃tv,mA yA 142 ⟨0,t⟩ (.ptr bx 0)=some tv/\∀b,t.get b=none->yA.base<=b->nE (qD yA 142 9 tv (.str (vI x)) ⟨b,t⟩) fun p=>∀b,p.2.t.get b=none->yA.base<=b->nE (cC yA 142 (.ptr bx 0) p.1 ⟨b,p.2.t⟩) fun p=>Q (.bool true) p.2.t:=by
  intro hs';obtain⟨tv,g1,g2⟩:=h.add hne (by omega)
  grind [xA,My]
 obtain⟨tv,l1,l2,l3,l4⟩:=h.load;refine j172_6 ?_;simp only[uQ17,uI,uU,uS,uZ,uW,ze7,tA,q203];rw[nG (by omega) (by omega),zgv (by omega),xA];simp only[zA.asStr,xA,l1,l3.len,zB,kG,aB,qE];by_cases h1:1<s.length
 ·rw[yab (by omega)];exact hpad (by grind) (by grind)
 ·rw[yaa (by omega)];by_cases h2:s.length=1
  ·rw[yab (by omega)];obtain⟨y,rfl⟩:=List.length_eq_one_iff.1 h2;have hr:=l3.read (by rfl) h.2.2.1;obtain⟨b,off,k1,k2⟩:=hr.idx sl142 (i:=0) (x:=y) rfl
   grind [xA,zB,xZ]
  grind [List.length_eq_zero_iff]
end
section
variable {l sg:List Nat}
variable [tC]
variable {t tf:Tr qA}{bx:Nat}{s m:List Nat}
theorem ZW (hsg:sg=[]\/sg=[45]){x:Nat}  : My (sg++kK l) x=sg++kK (x::l):=by
 unfold My
 cases l with
 | nil=>
  grind [kK]
 | cons p l=>
  have hne:kK (p::l)≠[]:=by
   cases l with
   | nil=>grind [Sb,kK]
   | cons q l=>
    grind [kK,List.length_append,Wm]
  rw[yaa,kK,ybz];rintro(h | h)
  ·simp_all
  ·rcases hsg with rfl | rfl
   ·rw[yah]at h;have:=Ua (p::l) 45 (by simp_all);omega
   simp_all
theorem BO:∀(l:List Nat),(∀x∈l,x<1000000000)->(kK l).length<=9*l.length
 | [],_=>by simp[kK]
 | [p],h=>by
  simp_all [Mp,kK]
 | p::q::l,h=>by
  have:=BO (q::l) fun x hx=>h x (.tail _ hx)
  grind [kK,Wm]
theorem OJ (hsg:sg=[]\/sg=[45]):mB 256 (sg++kK l):=by
 intro x hx;rcases yaf.1 hx with hx | hx
 ·grind
 ·have:=Ua _ x hx;omega
theorem TX.framed{bx:Nat}{s:List Nat}:Zz (fun tf t=>TX tf t bx s) where
 le:=fun h=>h.2.2.1
 both:=fun h hn y=>h.both hn y
 out:=fun hn h=>TX.out hn h
theorem zes{Q:xC}{t0:Tr qA}{ps:List Nat}{v4:zA} (hsg:sg=[]\/sg=[45])(h0:iA t0 tf)(hp:sA tf 1 (zC .u32 ps) v4)(hlt:mB 1000000000 ps)(hl:ps.length<30000)(h:TX tf t bx sg)
  (hQ:∀t',iA t0 t'->Q (.tup [.str (sg++kK ps),.int .i64 0]) t'):jp 172 29 [.str [],.int .i64 0,v4,.ptr bx 0] t Q:=by
 refine zik ?_;unfold CD uS uZ;refine EU (S:=fun k tf t=>TX tf t bx (sg++kK (ps.drop k))) (fun k=>TX.framed) hp hl (by grind [kK]) ?_ ?_
 ·intro k x tf t' Q1 hx hI hQ1;have hk:k<ps.length:=(ybc.1 hx).1;have hxl:x<1000000000:=hlt x (ycv hx);have hdrop:ps.drop k=x::ps.drop (k+1):=by
   grind [List.drop_eq_getElem_cons]
  have hlen:(sg++kK (ps.drop (k+1))).length<300000:=by
   have:=BO (ps.drop (k+1)) fun y hy=>hlt y (List.mem_of_mem_drop hy)
   grind
  grind [zjp,OJ,ZW]
 ·intro tf' t' hle h3;rw[ycr]at h3;obtain⟨tv,g1,_,g3,_⟩:=h3.load;show nE (mA yA 142 ⟨0,t'⟩ (.ptr bx 0)) _;rw[g1,xA];show nE (yM yA 142 9 ⟨0,t'⟩ tv) _;rw[zd7 oP yK rfl rfl rfl pP rfl (g3.read (by rfl) h3.2.2.1) (OJ hsg),xA];exact hQ _ (h0.trans (hle.trans h3.2.2.1))
def Cg(neg:Bool)(l:List Nat):List Nat:=intN neg (val 65536 l)
set_option exponentiation.threshold 2000 in
theorem BN{neg:Bool} {v:zA}(hv:sA t 1 (zC .u16 l) v)(hlt:mB 65536 l)(hval:iM neg l=true):iB yA F 172 [.agg [.bool neg,v]] t=some (.tup [.str (Cg neg l),.int .i64 0]):=by
 have hlen:l.length<=1024:=by
  grind [iM]
 refine jQ (w172 ?_);simp only[uI,uB,uZ,t172,tA,q135];rw[Nv (by omega) hv,hval];simp only[zA.asBool,xA,Bool.not_true,ybq,if_false,hv.len,kG,zB,qE];by_cases h0:l=[]
 ·grind [iM,Cg,intN,val,Rz]
 ·have hpos:0<l.length:=List.length_pos_iff.2 h0;rw[yaa (by omega),q200];refine Wn hv (by omega) hlt fun t1 v1 hle hv1=>?_;have hlast:l.getLast?≠some 0:=by
   grind [iM]
  have hnorm:norm l:=fun hne e2=>hlast (by rw[List.getLast?_eq_some_getLast hne,e2]);have hN:val 4294967296 (bG l)=val 65536 l:=Tj l;have hvpos:0<val 65536 l:=by
   rcases yav (val 65536 l)with e | e
   ·exfalso;exact h0 (Qk (B:=65536) (by decide) hnorm e)
   ·exact e
  have hple:(bG l).length<=512:=by rw[uT];omega
  have hbnd:val 4294967296 (bG l)<1000000000^1100:=by
   have g1:=nO (B:=4294967296) (by decide) (Mw hlt);have g2:4294967296^(bG l).length<=4294967296^512:=yao (by decide) hple;omega
  refine UE (t0:=t1) (N:=val 65536 l) (M:=1100) (by decide) ?_ 1100 (bG l) [] .nilslice v1 t1 t1 hbnd (by simp) (Qj hnorm) (Mw hlt) (by omega) (fun x hx=>by cases hx) ?_ (by simp[val,hN]) (iA.refl _) (iA.refl _) GR hv1
  ·intro tf t' ps v4 v5 k1 k2 k3 k4 k5 k6 k7 k8 k9;refine zf1 ?_;simp only[uI,uL,uX,uZ,uY,Uq,tA,(k4.mono k2).len,xA,zB,kG,aB,ybx];rw[yaa (by simp)];obtain⟨tf',f1,f2,f3,f4⟩:=k3.freeze rfl k2;have hpl:ps.length<30000:=by omega
   intro bx hbx hbase;obtain⟨t2,e1,e2,e3,e4⟩:=sX (C:=yA) oP hbx;rw[e1,xA];have hTX:TX tf' t2 bx []:=⟨hbase,Ql f2 hbx,f2.trans e3,.nilslice,e2,GR,Mc⟩;have ht:iA t tf':=hle.trans (k1.trans f1);have htext:kK ps=vI (val 65536 l):=by rw[<- k8];exact(BP k6 k5 k7).1
   cases neg with
   | false=>
    simp only[ybq,if_false];refine zes (.inl rfl) ht f3 k5 hpl hTX fun t' ht'=>⟨?_,ht'⟩;rw[htext];rfl
   | true=>
    simp only[if_true];obtain⟨tv,g1,g2⟩:=hTX.byte 45 (by simp);rw[g1,xA];intro n hn hbn;obtain⟨H1,g3,g4⟩:=g2 n hn hbn;rw[show((45:Nat):Int)=45 from rfl]at g3;rw[g3,xA];intro n2 hn2 hbn2;obtain⟨w,t3,t4,g5,g6,g7⟩:=g4 n2 hn2 hbn2;simp only[];rw[g5,xA];intro n3 _ _;rw[g6,xA];refine zes (.inr rfl) ht f3 k5 hpl g7 fun t' ht'=>⟨?_,ht'⟩;rw[htext];rfl
  grind [uT]
end
section
variable {a b s:List Nat}{k:Nat}{n:Int}{u v:zA}{f:rE}
variable [tC]
variable {t:Tr qA}
theorem nQ (h:a.length+b.length<4611686018427387904):bI a b=some (.str (a++b)):=by
 unfold bI;rw[oD,oD,sC.2 h,fH];rfl
theorem CY  (h:k<=s.length):nF yA 9 H0A (.str s) (some (.int .i64 (k:Int))) none=some (.str (s.drop k)):=by
 unfold nF aK;rw[yK,uA];simp only[zA.asStr];rw[show fD.isString .string=true from rfl,mD];unfold Ox qO wX xU;grind [sM,uA,zA.asNat,zA.asInt,oD,pE,mD,iU,fU,List.take_length]
theorem Vk  (h:k<=s.length):nF yA 9 H0A (.str s) none (some (.int .i64 (k:Int)))=some (.str (s.take k)):=by
 unfold nF aK;rw[yK,uA];simp only[zA.asStr];rw[show fD.isString .string=true from rfl,mD];unfold Ox qO wX xU;have e:sM (k:Int)=some k:=rfl;simp only[uA,zA.asNat,zA.asInt,e,oD,pE.2 h,pE.2 (yaw _),mD,iU,fU,ycr]
def gT (a b:List Nat):Bool:=decide (b.length<=a.length)&&wH (a.take b.length) b
theorem JT  : iB yA F 204 [.str a,.str b] t=some (.bool (gT a b)):=by
 refine pC.2 (w204 ?_);simp only[uS,bA,uZ,t204,tA,mN,vG];grind [gT,Vk,xA,zA.asStr]
theorem QN  : iB yA F 143 [.str a,.str b] t=some (.str (if gT a b then a.drop b.length else a)):=by
 have h:iB yA F 173 [.str a,.str b] t=some (.str (if gT a b then a.drop b.length else a)):=by
  refine pC.2 (w173 ?_);simp only[uB,uS,uZ,t173,tA,q204,JT,xA,zA.asBool,mN];grind [gT,CY,xA,zA.asStr]
 refine pC.2 (w143 ?_);simp only[uS,t143,tA,q173,h,xA,zA.asStr];simp_all
theorem XY  : iB yA F 205 [.str a,.str b] t=some (.tup [.str (if gT a b then a.drop b.length else a),.bool (gT a b)]):=by
 have h:iB yA F 234 [.str a,.str b] t=some (.tup [.str (if gT a b then a.drop b.length else a),.bool (gT a b)]):=by
  refine pC.2 (w234 ?_);simp only[uB,uS,uZ,t234,tA,q204,JT,xA,zA.asBool,mN];grind [gT,CY,xA,zA.asStr]
 refine pC.2 (w205 ?_);have x0:∀u v,gE 0 (.tup [u,v])=some u:=fun _ _=>rfl;have x1:∀u v,gE 1 (.tup [u,v])=some v:=fun _ _=>rfl;simp only[uB,uS,uX,t205,tA,q234,h,xA,x0,x1,zA.asStr,zA.asBool];simp_all
def xO(s:List Nat):List Nat:=if gT s [45]then [109,105,110,117,115,32]++s.drop 1 else s
theorem DI (h:s.length<4000000000000000000):iB yA F 176 [.str s] t=some (.str (xO s)):=by
 refine pC.2 (w176 ?_);have x0:∀u v,gE 0 (.tup [u,v])=some u:=fun _ _=>rfl;have x1:∀u v,gE 1 (.tup [u,v])=some v:=fun _ _=>rfl;simp only[uB,uS,uX,t176,tA,q205,XY,xA,x0,x1,zA.asStr,zA.asBool];grind [xO,nQ,xA]
def zil (h0 : -9223372036854775808<=n)(h1:n<9223372036854775808):iB yA F 179 [.int .i64 n] t=some (.str (aG n)):=by
 have hg:yA.prims.get 179=some (hO Dn):=by kernel_rfl
 refine Dj hg fun H=>?_;unfold Dn;simp only[];rw[vG.2 h0,aB.2 h1];rfl
theorem Xy (h0 : -9223372036854775808<=n)(h1:n<9223372036854775808):(aG n).length<=21:=by
 by_cases h:n<0
 ·obtain⟨u,rfl⟩:∃u:Nat,n = -(u:Int):=⟨n.natAbs,by omega⟩;rw[JE (by omega)];have:=Mp (u:=u) (k:=20) (by decide) (by omega)
  grind
 ·obtain⟨u,rfl⟩:∃u:Nat,n=(u:Int):=⟨n.toNat,by omega⟩;rw[Xz];have:=Mp (u:=u) (k:=20) (by decide) (by omega);omega
theorem JK (h0 : -9223372036854775808<=n)(h1:n<9223372036854775808):iB yA F 148 [.int .i64 n] t=some (.str (xO (aG n))):=by
 have:=Xy h0 h1;refine pC.2 (w148 ?_);simp only[uS,uZ,t148,tA,q179,zil h0 h1,xA,zA.asStr,q176,DI (s:=aG n) (by omega)]
 simp_all
def rO(f:rE):List Nat:=Cg f.n.neg f.n.limbs++(if Hr f.d then []else 47::Cg f.d.neg f.d.limbs)
def XV{u:Nat}:∀ {k:Nat},u<10^k->(vI u).length<=k+1:=by
 intro k h;have:=Mp (u:=u) (k:=k+1) (by omega) (by omega);exact this
theorem Nr{neg:Bool}{l:List Nat}(hlt:mB 65536 l)(hl:l.length<=1024):(Cg neg l).length<=10000:=by
 unfold Cg intN;have h1:=nO (B:=65536) (by decide) hlt;have h2:(65536:Nat)^l.length<=10^(5*l.length):=by
  simp_all [Nat.pow_mul,Nat.pow_le_pow_left]
 have:=XV (u:=val 65536 l) (k:=5*l.length) (by omega)
 grind
theorem AO (h:dN f=true):iM f.n.neg f.n.limbs=true/\iM f.d.neg f.d.limbs=true/\f.n.limbs.length<=1024/\f.d.limbs.length<=1024:=by
 grind [dN]
theorem Yo (hf:f.fit)(h:dN f=true):(rO f).length<=20001:=by
 obtain⟨_,_,h3,h4⟩:=AO h;have a:=Nr (neg:=f.n.neg) hf.2.1 h3;have b:=Nr (neg:=f.d.neg) hf.2.2 h4
 grind [rO]
theorem KD  (hu:sA t 1 (wC f.n.limbs) u)(hv:sA t 1 (wC f.d.limbs) v)(hf:rE.fit f):iB yA F 142 [.agg [.bool f.n.neg,u,.bool f.d.neg,v]] t=some (if dN f then .tup [.str (rO f),.int .i64 0]else .tup [.str [],.int .i64 2]):=by
 refine pC.2 (w142 ?_);have x0:∀u v,gE 0 (.tup [u,v])=some u:=fun _ _=>rfl;have x1:∀u v,gE 1 (.tup [u,v])=some v:=fun _ _=>rfl;simp only[uI,uB,uS,uX,uZ,t142,tA,q61,Nw hu hv hf,xA,zA.asBool]
 cases hval:dN f with
 | false=>simp
 | true=>
  obtain⟨h1,h2,h3,h4⟩:=AO hval;have a:=Nr (neg:=f.n.neg) hf.2.1 h3;have b:=Nr (neg:=f.d.neg) hf.2.2 h4;have c1:iB yA F 136 [.agg [.bool f.n.neg,u,.bool f.d.neg,v]] t=some (.bool (Hr f.d)):=by
   refine pC.2 (w136 ?_);simp only[uB,t136,tA,q137,Yd hv,xA,zA.asBool];first | exact⟨rfl,rfl⟩ | exact⟨trivial,trivial⟩ | exact⟨rfl,trivial⟩
  simp only[Bool.not_true,ybq,if_false,q172,BN hu hf.2.1 h1,xA,x0,x1,zA.asStr,zB,if_true,q136,c1,zA.asBool];unfold rO
  cases hone:Hr f.d with
  | true=>simp
  | false=>
   simp only[ycl,if_true,BN hv hf.2.2 h2,xA,x0,x1,zA.asStr,zB];grind [nQ,xA]
theorem KE  (hu:sA t 1 (wC f.n.limbs) u)(hv:sA t 1 (wC f.d.limbs) v)(hf:rE.fit f)(hval:dN f=true):iB yA F 146 [.agg [.bool f.n.neg,u,.bool f.d.neg,v]] t=some (.str (xO (rO f))):=by
 have:=Yo hf hval;refine pC.2 (w146 ?_);have x0:∀u v,gE 0 (.tup [u,v])=some u:=fun _ _=>rfl;have x1:∀u v,gE 1 (.tup [u,v])=some v:=fun _ _=>rfl;simp only[uI,uS,uX,t146,tA,q142,KD hu hv hf,hval,if_true,xA,x0,x1,zA.asStr,zB,q176,DI (s:=rO f) (by omega)]
 simp_all
def Kx(f:rE):Bool:=decide (f.n.limbs.length<=42)&&decide (f.d.limbs.length<=42)&&dN f&&decide ((if gT (rO f) [45]then(rO f).drop 1 else rO f).length<=200)
theorem TM  (hu:sA t 1 (wC f.n.limbs) u)(hv:sA t 1 (wC f.d.limbs) v)(hf:rE.fit f):iB yA F 106 [.agg [.bool f.n.neg,u,.bool f.d.neg,v]] t=some (.bool (Kx f)):=by
 refine pC.2 (w106 ?_);have x0:∀u v,gE 0 (.tup [u,v])=some u:=fun _ _=>rfl;have x1:∀u v,gE 1 (.tup [u,v])=some v:=fun _ _=>rfl;simp only[uI,uB,uS,bA,uX,t106,tA,hu.len,hv.len,aT,xA,zB,aB];unfold Kx;by_cases h1:f.n.limbs.length<=42
 ·rw[yaa (by omega)];by_cases h2:f.d.limbs.length<=42
  ·rw[yaa (by omega)];simp only[q61,Nw hu hv hf,xA,zA.asBool]
   cases hval:dN f with
   | false=>simp
   | true=>
    simp only[Bool.not_true,ybq,if_false,q142,KD hu hv hf,hval,if_true,xA,x0,x1,zA.asStr,zB,qE,q143,QN,mN];simp[h1,h2,yZ];constructor<;>intro h<;>omega
  grind
 grind
def jX(f:rE):Bool := !f.n.neg && !f.d.neg&&decide (f.n.limbs.length+f.d.limbs.length=0)
theorem AC  (hu:sA t 1 (wC f.n.limbs) u)(hv:sA t 1 (wC f.d.limbs) v)(hf:f.ok):iB yA F 107 [.agg [.bool f.n.neg,u,.bool f.d.neg,v]] t=some (.bool (jX f)):=by
 unfold rE.ok sE at hf;refine pC.2 (w107 ?_);simp only[uI,bA,uW,t107,tA,hu.len,hv.len,aT,xA,zB];unfold jX;rw[wrap_i64 (by omega) (by omega),sO];have e:decide ((f.n.limbs.length:Int)+(f.d.limbs.length:Int)=0)=decide (f.n.limbs.length+f.d.limbs.length=0):=by
  grind
 rw[e];cases f.n.neg<;>cases f.d.neg<;>simp
theorem zdg  : iB yA F 108 [.int .i64 n] t=some (.bool (decide (0<=n)&&decide (n<65536))):=by
 refine pC.2 (w108 ?_);simp only[bA,t108,tA,vG];grind [zin]
def vS(v:yB):Bool:=
 if v.kind=2\/v.kind=3 then decide (v.i=0)&&Kx v.f
 else if v.kind=1 then jX v.f&&(decide (v.i=0)||decide (v.i=1))
 else if v.kind=4 then jX v.f&&(decide (0<=v.i)&&decide (v.i<65536))
 else if v.kind=5\/v.kind=6 then jX v.f&&(decide (-1048576<=v.i)&&decide (v.i<=1048576))
 else false
theorem TL{a:yB} (hu:sA t 1 (wC a.f.n.limbs) u)(hv:sA t 1 (wC a.f.d.limbs) v)(hf:rE.fit a.f):iB yA F 67 [.agg [.int .u8 a.kind,.bool a.f.n.neg,u,.bool a.f.d.neg,v,.int .i64 a.i]] t=some (.bool (vS a)):=by
 refine pC.2 (w67 ?_);simp only[uQ8,uQ15,uB,bA,tF,uZ,t67,tA,q106,TM hu hv hf,q107,AC hu hv hf.1,q108,zdg,xA,zA.asBool];unfold vS;have kk:∀j:Int,cA (a.kind:Int) j=decide ((a.kind:Int)=j):=fun j=>sO;simp only[kk];by_cases k2:a.kind=2
 ·have e:(a.kind:Int)=2:=by omega
  by_cases h0:a.i=0<;>simp[e,k2,h0,sO]
 by_cases k3:a.kind=3
 all_goals grind [sO,yZ]
end
end Go.Proofs
namespace Go.Am
open Go Go.RowKit
section
variable {C:fA}{t:Tr qA}
def Hj(C:fA)(T:Nat)(k:zA):Bool:=
 match ob (C.tys.get T) fun ty=>ob ty.desc.asMap fun ke=>ob (C.tys.get ke.1) fun kty=>vB (lT C kty&&bQ C kty k) (some ())with | some _=>true | none=>false
theorem IV{T:Nat}{k:zA}(h:Hj C T k=true):∃ty ke kty,C.tys.get T=some ty/\ty.desc.asMap=some ke/\C.tys.get ke.1=some kty/\lT C kty=true/\bQ C kty k=true:=by
 grind [Hj,lA,oB]
theorem zgu{T b n:Nat}{k v:zA}{l l':List (zA × zA)}(hk:Hj C T k=true)(hb:C.base<=b)(hm:t.get b=some (.map l))(hs:jL k v l=some l') :
  cN C T (.map b) k v ⟨n,t⟩=some (kD,⟨n,t.set b (.map l')⟩):=by
 obtain⟨ty,ke,kty,h1,h2,h3,h4,h5⟩:=IV hk;have e2:(!Nat.blt b C.base)=true:=by
  grind [sC]
 have e3:cJ ⟨n,t⟩ b=some l:=by unfold cJ;rw[hm];rfl
 unfold cN;rw[h1,uA,h2,uA,h3,uA,h4,mD];simp only[zA.asMap,uA];rw[e2,mD,e3,uA,h5,mD,hs];rfl
theorem zc1{T b n:Nat}{k v:zA}{l:List (zA × zA)}(hk:Hj C T k=true)(hm:t.get b=some (.map l))(hs:gJ k l=some (some v)){ty:lD}(hT:C.tys.get T=some ty){ke:Nat × Nat}(hd:ty.desc.asMap=some ke){ety:lD}(he:C.tys.get ke.2=some ety)(ok:Bool) :
  uQ C T ⟨n,t⟩ (.map b) k ok=some (bif ok then .tup [v,.bool true]else v):=by
 obtain⟨ty,ke,kty,h1,h2,h3,h4,h5⟩:=IV hk;rw[hT]at h1;cases h1;rw[hd]at h2;cases h2;have e3:cJ ⟨n,t⟩ b=some l:=by unfold cJ;rw[hm];rfl
 unfold uQ;rw[hT,uA,hd,uA,h3,uA,h4,mD,he,uA];have e4:oT ⟨n,t⟩ (.map b)=some l:=by grind [oT,zA.asMap]
 rw[e4,uA,h5,mD,hs,uA]
mutual
theorem RD.sames1:∀(d:D) (cs:List zA),RD t d cs->∀a∈cs,∀k,Am.same k a a=true
 | .int _ _,cs,h,a,ha,k=>by grind [RD,xS]
 | .bool _,cs,h,a,ha,k=>by grind [RD,DW]
 | .str _,cs,h,a,ha,k=>by grind [RD,Kn]
 | .sl sz l,cs,h,a,ha,k=>by
  rw[cL]at h;obtain⟨v,rfl,h⟩:=h;simp at ha;subst ha;exact h.same
 | .st l,cs,h,a,ha,k=>by
  rw[yJ]at h;obtain⟨cl,rfl,h⟩:=h;exact qC.sames1 l cl h a ha k
theorem qC.sames1:∀(l:List D) (cl:List (List zA)),qC t l cl->∀a∈cl.flatten,∀k,Am.same k a a=true
 | [],cl,h,a,ha,k=>by grind [qC]
 | d::l,cl,h,a,ha,k=>by
  rw[qC]at h;obtain⟨c,r,rfl,h1,h2⟩:=h;rw[yas,yaf]at ha;rcases ha with ha | ha
  ·exact RD.sames1 d c h1 a ha k
  ·exact qC.sames1 l r h2 a ha k
end
def DU:∀ {l:List zA} {k:Nat},(∀a∈l,∀k,Am.same k a a=true)->Am.same.sames k l l=true
 | [],_,_=>rfl
 | a::l,k,h=>by
  rw[Am.same.sames,h a (.head _) k,DU fun b hb=>h b (.tail _ hb)];rfl
def RD.sameA{d:D}{cs:List zA}(h:RD t d cs){k:Nat}:Am.same (k+1) (.agg cs) (.agg cs)=true:=DU (RD.sames1 d cs h)
theorem kC.up{t':Tr qA}{b:Nat}{lo:Option Lo}{cs:List zA}(h:kC t b lo cs)(k:iA t t'):kC t' b lo cs:=by
 obtain⟨c,h1,h2⟩:=h;exact⟨c,k _ _ h1,h2⟩
end
end Go.Am
namespace Go.Proofs
open Go Go.Am
variable {n:Nat}{s:List Nat}
variable [tC]
variable {t:Tr qA}
def cY(n:Nat):Bool:=(decide (65<=n)&&decide (n<=90))||(decide (97<=n)&&decide (n<=122))
def Yg(n:Nat):Bool:=decide (48<=n)&&decide (n<=57)
def Md(n:Nat):Bool:=cY n||Yg n||decide (n=95)
theorem iLe_d{a b:Int}:eC a b=decide (a<=b):=by
 grind [vG]
theorem Ye  : iB yA F 102 [.int .u8 (n:Int)] t=some (.bool (cY n)):=by
 refine pC.2 (w102 ?_);simp only[bA,tF,t102,tA,iLe_d,decide_eq_true_eq];grind [cY]
theorem WH  : iB yA F 140 [.int .u8 (n:Int)] t=some (.bool (Yg n)):=by
 refine pC.2 (w140 ?_);simp only[bA,t140,tA,iLe_d,decide_eq_true_eq];grind [Yg]
theorem zae  : iB yA F 104 [.int .u8 (n:Int)] t=some (.bool (Md n)):=by
 refine pC.2 (w104 ?_);simp only[uB,tF,uY,t104,tA,q102,Ye,xA,zA.asBool];unfold Md
 cases h:cY n with
 | true=>simp
 | false=>
  simp only[ybq,if_false,q140,WH,xA,zA.asBool];grind [sO,decide]
def JL {i x:Nat}(h:s[i]?=some x):lO yA 9 (.str s) (.int .i64 (i:Int))=some (.int .u8 (x:Int)):=by
 unfold lO;rw[yK,uA];simp only[zA.asNat,zA.asInt,zA.asStr];have e:ob (some (i:Int)) sM=some i:=rfl;rw[e,uA,show fD.isString .string=true from rfl,mD,vE,h,uA];rfl
def xY (p:Nat->Bool)(s:List Nat):List Nat:=s.takeWhile p
theorem EC{p:Nat->Bool}{g:Nat}(hg:∀n:Nat,iB yA F g [.int .u8 (n:Int)] t=some (.bool (p n)))(hq:∀ {a:List zA} {m:Tr qA} {R:xC},Wq yA F iG g a m R=nE (iB yA F g a m) (fun v=>R v m))(hy:Nat.blt g yo=true) (hs:s.length<4000000000000000000) :
  ∀(k i:Nat),i+k=s.length->(∀j x,j<i->s[j]?=some x->p x=true)->jp 103 2 [.str s,.func (.func g) [] [],.int .i64 (i:Int)] t (fun v t'=>v=.str (xY p s)/\t'=t):=by
 have key:∀i,i<=s.length->(∀j x,j<i->s[j]?=some x->p x=true)->(∀x,s[i]?=some x->p x=false)->xY p s=s.take i:=by
  intro i hi h1 h2;unfold xY;induction s generalizing i with
  | nil=>simp
  | cons a s ih=>
   cases i with
   | zero=>simp_all
   | succ i=>
    rw[List.takeWhile_cons,h1 0 a (by omega) rfl,yab rfl,List.take_succ_cons];rw[ih (by grind) i (by simp_all) (fun j x hj hx=>h1 (j+1) x (by omega) (by simp_all)) (fun x hx=>h2 x (by simp_all))]
 intro k;induction k with
 | zero=>
  intro i hi hp;refine zf7 ?_;simp only[uU,uB,uS,kB,uZ,uY,Ux,tA,aB,mN];grind [Vk,xA,zA.asStr]
 | succ k ih=>
  intro i hi hp;have hx:s[i]?=some s[i]:=ybd (by omega);refine zf7 ?_;simp only[uU,uB,uS,kB,uZ,uY,Ux,tA,aB,mN];rw[yab (by omega),JL hx,xA,zB,xA];have e:oM (.func (.func g) [] []) [.int .u8 (s[i]:Int)]=some (g,[.int .u8 (s[i]:Int)]):=by
   unfold oM;simp only[zA.asFunc,uA,hy,mD];rfl
  rw[e,xA];simp only[];rw[hq,hg,xA];simp only[zA.asBool,xA]
  cases hb:p s[i]with
  | true=>
   rw[yab rfl,wrap_i64 (by omega) (by omega),show(i:Int)+1=((i+1:Nat):Int) by omega];refine ih (i+1) (by omega) fun j x hj hjx=>?_
   grind
  | false=>
   rw[yaa (by simp),Vk (by omega),xA];simp only[zA.asStr,xA];rw[key i (by omega) hp (fun x hx'=>by simp_all)]
   simp_all
def zcf (hs:s.length<4000000000000000000):iB yA F 103 [.str s,.func (.func 104) [] []] t=some (.str (xY Md s)):=by
 refine pC.2 (w103 ?_);simp only[uZ,t103,tA];exact EC (fun n=>zae) (fun {a m R}=>by rw[q104]) rfl hs s.length 0 (by omega) (fun j x hj=>by omega)
def zhl (hs:s.length<4000000000000000000):iB yA F 103 [.str s,.func (.func 102) [] []] t=some (.str (xY cY s)):=by
 refine pC.2 (w103 ?_);simp only[uZ,t103,tA];exact EC (fun n=>Ye) (fun {a m R}=>by rw[q102]) rfl hs s.length 0 (by omega) (fun j x hj=>by omega)
def resW:Nat->List Nat
 | 2=>[32,116,111,32,105,115,32,97,116,32,105,102,32,111,114,32,117,112,32]
 | 3=>[32,100,101,102,32,114,111,119,32,111,110,101,32,116,119,111,32,101,110,100,32,111,102,102,32,104,97,115,32,109,105,110,32,109,97,120,32,97,110,100,32,110,111,116,32]
 | 4=>[32,112,108,97,110,32,102,97,99,116,32,102,114,111,109,32,119,104,101,110,32,116,104,101,110,32,100,97,116,101,32,100,97,121,115,32,116,114,117,101,32,108,111,111,107,32,98,101,115,116,32,103,114,111,119,32,100,111,119,110,32,99,101,105,108,32,104,97,108,102,32,101,118,101,110,32]
 | 5=>[32,116,97,98,108,101,32,107,110,111,119,110,32,116,114,117,116,104,32,109,111,110,101,121,32,102,97,108,115,101,32,109,105,110,117,115,32,116,111,100,97,121,32,114,111,117,110,100,32,115,116,97,114,116,32,102,108,111,111,114,32]
 | 6=>[32,99,108,97,117,115,101,32,110,117,109,98,101,114,32,109,111,110,116,104,115,32]
 | 7=>[32,98,101,116,119,101,101,110,32,115,101,114,118,105,99,101,32]
 | _=>[]
def Vz(s:List Nat):Bool:=decide (2<=s.length)&&decide (s.length<=7)&&wH (xY cY s) s&&Ez ([32]++s++[32]) (resW s.length)
def nJ (n:Nat):zA × zA:=(.int .i64 (n:Int),.str (resW n))
def YC{a b:List Nat}(h:a.length<4294967281):iB yA F 141 [.str a,.str b] t=some (.bool (Ez b a)):=by
 have hg:yA.prims.get 141=some (hO Hd):=by kernel_rfl
 refine Dj hg fun H=>?_;unfold Hd;simp only[];rw[oD,sC.2 h];rfl
theorem SW (hs:s.length<4000000000000000000):iB yA F 105 [.str s] t=some (.bool (Vz s)):=by
 refine jQ (w105 ?_);simp only[uB,uS,bA,uZ,t105,tA,aB,mN];unfold Vz;by_cases h1:2<=s.length
 ·rw[yaa (by omega)];by_cases h2:s.length<=7
  ·rw[yaa (by omega)];simp only[q103,zhl hs,xA,zA.asStr]
   cases h3:wH (xY cY s) s with
   | false=>simp
   | true=>
    simp only[Bool.not_true,ybq,if_false];intro b hb hbase;have hmk:Aa ⟨b,t⟩=some (.map b,⟨b+1,t.set b (.map [])⟩):=rfl;rw[hmk,xA];simp only[];have h0:(t.set b (.map [])).get b=some (.map []):=by rw[Tr.get_set,yab rfl]
    have ho:aC b t (t.set b (.map [])):=fun c hc=>by rw[Tr.get_set,yaa hc]
    generalize t.set b (.map [])=t1 at h0 ho;have hstep:∀(l:List (zA × zA)) (k:Nat) (s':List Nat) (l':List (zA × zA)) (Q:(zA × pA)->Prop) (t1:Tr qA),t1.get b=some (.map l)->aC b t t1->jL (.int .i64 (k:Int)) (.str s') l=some l'->Hj yA 205 (.int .i64 (k:Int))=true →
      (∀n t2,t2.get b=some (.map l')->aC b t t2->Q (kD,⟨n,t2⟩))->∀n,t1.get n=none->yA.base<=n->nE (cN yA 205 (.map b) (.int .i64 (k:Int)) (.str s') ⟨n,t1⟩) Q:=by
     intro l k s' l' Q t1 g1 g2 h1 h2 h3 n _ _;rw[zgu h2 hbase g1 h1,xA];exact h3 n _ (by rw[Tr.get_set,yab rfl]) fun c hc=>by rw[Tr.get_set,yaa hc];exact g2 c hc
    refine hstep [] 2 _ [nJ 2] _ t1 h0 ho rfl (by kernel_rfl) fun n t2 g o=>?_;refine hstep _ 3 _ [nJ 2,nJ 3] _ t2 g o rfl (by kernel_rfl) fun n t2 g o=>?_;refine hstep _ 4 _ [nJ 2,nJ 3,nJ 4] _ t2 g o rfl (by kernel_rfl) fun n t2 g o=>?_;refine hstep _ 5 _ [nJ 2,nJ 3,nJ 4,nJ 5] _ t2 g o rfl (by kernel_rfl) fun n t2 g o=>?_;refine hstep _ 6 _ [nJ 2,nJ 3,nJ 4,nJ 5,nJ 6] _ t2 g o rfl (by kernel_rfl) fun n t2 g o=>?_
    refine hstep _ 7 _ [nJ 2,nJ 3,nJ 4,nJ 5,nJ 6,nJ 7] _ t2 g o rfl (by kernel_rfl) fun n t2 g o=>?_;have hle:iA t t2:=fun c u hc=>by
     have:c≠b:=fun e=>by simp_all
     rw[o c this];exact hc
    have hl:uQ yA 205 ⟨0,t2⟩ (.map b) (.int .i64 (s.length:Int)) false=some (.str (resW s.length)):=by
     have hk:Hj yA 205 (.int .i64 (s.length:Int))=true/\gJ (.int .i64 (s.length:Int)) [nJ 2,nJ 3,nJ 4,nJ 5,nJ 6,nJ 7]=some (some (.str (resW s.length))):=by
      have:s.length=2\/s.length=3\/s.length=4\/s.length=5\/s.length=6\/s.length=7:=by omega
      rcases this with e | e | e | e | e | e<;>rw[e]<;>exact⟨by kernel_rfl,rfl⟩
     exact zc1 hk.1 g hk.2 ty205 rfl yK false
    rw[hl,xA];simp only[zA.asStr,xA];rw[nQ (by grind),xA];simp only[zA.asStr,xA];rw[nQ (by grind),xA];simp only[zA.asStr,xA];have hr:(resW s.length).length<4294967281:=by
     have:s.length=2\/s.length=3\/s.length=4\/s.length=5\/s.length=6\/s.length=7:=by omega
     rcases this with e | e | e | e | e | e<;>rw[e]<;>decide
    rw[q141,YC hr,xA];simp only[zA.asBool,xA];refine⟨?_,hle⟩
    grind
  grind
 grind
def Dr(s:List Nat):Bool:=match s with
 | []=>false
 | x::r=>decide ((x::r).length<=24)&&cY x&&wH (xY Md (x::r)) (x::r) && !Vz (x::r)
theorem Qn  : iB yA F 66 [.str s] t=some (.bool (Dr s)):=by
 refine pC.2 (w66 ?_);simp only[uU,uB,uS,bA,uZ,uY,t66,tA,aB,mN]
 cases s with
 | nil=>simp[Dr,wL]
 | cons x r=>
  have h0:wH (x::r) []=false:=by
   grind [wL]
  rw[h0];simp only[ybq,if_false];unfold Dr;by_cases h1:(x::r).length<=24
  ·rw[yaa (by omega)];have hx:=JL (s:=x::r) (i:=0) (x:=x) rfl;rw[show((0:Nat):Int)=0 from rfl]at hx;rw[hx,xA,zB,xA,q102,Ye,xA];simp only[zA.asBool,xA]
   cases h2:cY x with
   | false=>simp
   | true=>
    simp only[Bool.not_true,ybq,if_false];rw[q103,zcf (by omega),xA];simp only[zA.asStr,xA]
    cases h3:wH (xY Md (x::r)) (x::r)with
    | false=>simp
    | true=>
     simp only[if_true,q105,SW (s:=x::r) (by omega),xA,zA.asBool]
     simp_all
  grind
end Go.Proofs
namespace Go.Proofs
open Go Go.Am
section
variable {a b:Nat}{w:List Nat}{K:sI->T}{Q:xC}
variable [tC]
variable {t:Tr qA}
def Cb(v:yB):Bool:=decide (v.kind=0)&&decide (v.i=0)&&jX v.f
theorem OV{a:yB}{u v:zA}(hu:sA t 1 (wC a.f.n.limbs) u)(hv:sA t 1 (wC a.f.d.limbs) v)(hf:a.f.ok):iB yA F 68 [.agg [.int .u8 a.kind,.bool a.f.n.neg,u,.bool a.f.d.neg,v,.int .i64 a.i]] t=some (.bool (Cb a)):=by
 refine pC.2 (w68 ?_);simp only[uB,bA,t68,tA,qE];unfold Cb;by_cases h1:a.kind=0
 ·rw[yab (by omega)];by_cases h2:a.i=0
  ·rw[yab h2,q107,AC hu hv hf,xA]
   grind [zA.asBool,xA]
  simp_all
 simp_all
structure FM where
 style:Nat
 word:List Nat
 named:Bool
 least:Nat
 most:Nat
 level:Nat
 left:Nat
 right:Nat
def FM.cs(f:FM):List zA:=[.int .u8 f.style,.str f.word,.bool f.named,.int .i64 f.least,.int .i64 f.most,.int .i64 f.level,.int .i64 f.left,.int .i64 f.right]
def atF (w:List Nat):FM:=⟨3,w,true,1,1,7,7,7⟩
def rR(w:List Nat)(n:Bool)(a b:Nat):FM:=⟨6,w,n,a,b,7,1,1⟩
def oW(w:List Nat)(a b c:Nat):FM:=⟨4,w,false,2,2,a,b,c⟩
def ziu:List FM:=[⟨0,[],false,0,0,0,0,0⟩,⟨1,[],false,0,0,7,0,0⟩,⟨2,[116,111,100,97,121],false,0,0,7,0,0⟩,atF [102,97,99,116,32],atF [104,97,115,32],atF [],rR [108,111,111,107] true 1 2,oW [43] 5 5 6,oW [45] 5 5 6,oW [42] 6 6 7,oW [47] 6 6 7,
 rR [109,105,110] false 2 2,rR [109,97,120] false 2 2,oW [60] 4 5 5,oW [61] 4 5 5,oW [97,110,100] 2 2 3,oW [111,114] 1 1 2,⟨5,[110,111,116,32],false,1,1,3,3,3⟩,rR [105,102] false 3 3,rR [114,111,117,110,100] false 2 2,rR [98,101,116,119,101,101,110] false 2 2,
 rR [115,101,114,118,105,99,101] true 2 2,rR [98,101,115,116] true 3 3,rR [103,114,111,119] true 2 2,rR [109,111,110,116,104,115] false 1 1,rR [110,117,109,98,101,114] false 1 1,rR [115,116,97,114,116] false 1 1]
def lS:List zA:=(ziu.map FM.cs).flatten
abbrev z8:List zA:=[.int .u8 0,.str [],.bool false,.int .i64 0,.int .i64 0,.int .i64 0,.int .i64 0,.int .i64 0]
def cv76 {n:Bool}   (h:wp 65 (K (cellsOf (rR w n a b).cs)) t Q):wp 65 (.callv (.func (.func 99) [] []) [.str w,.bool n,.int .i64 (a:Int),.int .i64 (b:Int)] fun a=>.asG z8 a K) t Q:=by
 have e:iB yA F 99 [.str w,.bool n,.int .i64 (a:Int),.int .i64 (b:Int)] t=some (.agg (rR w n a b).cs):=by
  refine pC.2 (w99 ?_);simp only[uZ,uY,t99,tA,if_true];constructor<;>trivial
 show nE (some (99,[zA.str w,.bool n,.int .i64 (a:Int),.int .i64 (b:Int)])) _;rw[xA];simp only[];rw[q99,e,xA];exact h
def cv77   (h:wp 65 (K (cellsOf (atF w).cs)) t Q):wp 65 (.callv (.func (.func 100) [] []) [.str w] fun a=>.asG z8 a K) t Q:=by
 have e:iB yA F 100 [.str w] t=some (.agg (atF w).cs):=by
  refine pC.2 (w100 ?_);simp only[uZ,uY,t100,tA,if_true];constructor<;>trivial
 show nE (some (100,[zA.str w])) _;rw[xA];simp only[];rw[q100,e,xA];exact h
def cv78 {c:Nat}  (h:wp 65 (K (cellsOf (oW w a b c).cs)) t Q):wp 65 (.callv (.func (.func 101) [] []) [.str w,.int .i64 (a:Int),.int .i64 (b:Int),.int .i64 (c:Int)] fun a=>.asG z8 a K) t Q:=by
 have e:iB yA F 101 [.str w,.int .i64 (a:Int),.int .i64 (b:Int),.int .i64 (c:Int)] t=some (.agg (oW w a b c).cs):=by
  refine pC.2 (w101 ?_);simp only[uZ,uY,t101,tA,if_true];constructor<;>trivial
 show nE (some (101,[zA.str w,.int .i64 (a:Int),.int .i64 (b:Int),.int .i64 (c:Int)])) _;rw[xA];simp only[];rw[q101,e,xA];exact h
def GJ (h:∀b t',t.get b=none->yA.base<=b->kC t' b none lS->iA t t'->aC b t t'->Q (.ptr b 0) t'):Wc yA F 65 [] t Q:=by
 refine w65 ?_;unfold t65 uG uZ uY;repeat (first | refine cv76 ?_ | refine cv77 ?_ | refine cv78 ?_ | refine iC rfl ?_)
 intro b hb hbase;obtain⟨t',h1,h2,h3,h4⟩:=nY hb lS none;have e:∀l:List zA,l=lS->rN (.agg l) ⟨b,t⟩=some (.ptr b 0,⟨b+1,t'⟩):=by
  intro l hl;show some (zA.ptr b 0,lF ⟨b,t⟩ l none)=_;rw[hl,h1]
 rw[e _ (by rfl),xA];exact h b t' hb hbase h2 h3 h4
def VB (h:∀b t',t.get b=none->yA.base<=b->kC t' b none lS->iA t t'->aC b t t'->Q (.agg [.ptr b 0]) t'):Wc yA F 28 [] t Q:=by
 refine w28 ?_;unfold t28 fB;refine uD ?_;rw[q65];refine GJ fun b t' h1 h2 h3 h4 h5=>?_;refine iC rfl (iC rfl ?_);exact h b t' h1 h2 h3 h4 h5
end
section
variable [tC]
variable {t:Tr qA}
def rC(op:Nat):FM:=ziu.getD op ⟨0,[],false,0,0,0,0,0⟩
theorem kS{f:FM->List zA}(hf:∀x,(f x).length=8):∀(l:List FM) (i k:Nat),i<l.length->k<8->(l.map f).flatten[i*8+k]?=(f (l.getD i ⟨0,[],false,0,0,0,0,0⟩))[k]?
 | [],i,k,h,_=>by simp at h
 | x::l,0,k,h,hk=>by
  grind
 | x::l,i+1,k,h,hk=>by
  rw[ycm,yas,ybp (by grind),hf,show(i+1)*8+k-8=i*8+k by omega];rw[kS hf l i k (by grind) hk];simp
def Bc{op k:Nat}(h:op<27)(hk:k<8):lS[op*8+k]?=(rC op).cs[k]?:=kS (f:=FM.cs) (fun _=>rfl) ziu op k h hk
theorem Yi{b op:Nat}(h:op<27):aA yA 176 (.ptr b 0) (.int .u8 (op:Int))=some (.ptr b (op*8)):=by
 have hA:ob (yA.tys.get 176) (fun y=>y.desc.asArr)=some (27,138):=by kernel_rfl
 rw[lA]at hA;obtain⟨y,hy,hd⟩:=hA;unfold aA;rw[hy,uA];have e:(zA.int .u8 (op:Int)).asNat=some op:=rfl
 grind [uA,zA.asSlice,zA.asPtr,ty138,sC,mD]
def bP{b o k:Nat}(hk:k<8):qB yA 138 k (.ptr b o)=some (.ptr b (o+k)):=by
 have h:aS yA 138 k=some k:=by
  unfold aS;rw[ty138,uA];simp only[fD.asStruct,uA];have:k=0\/k=1\/k=2\/k=3\/k=4\/k=5\/k=6\/k=7:=by omega
  rcases this with e | e | e | e | e | e | e | e<;>rw[e]<;>rfl
 unfold qB;rw[h];rfl
section
variable {b op:Nat}(hF:kC t b none lS)(h:op<27)
include hF h
def HK:mA yA 5 ⟨0,t⟩ (.ptr b (op*8+0))=some (.int .u8 (rC op).style):=hF.load1 pP rfl (by rw[Bc h (by decide)];rfl)
def HJ:mA yA 9 ⟨0,t⟩ (.ptr b (op*8+1))=some (.str (rC op).word):=hF.load1 yK rfl (by rw[Bc h (by decide)];rfl)
def HL:mA yA 4 ⟨0,t⟩ (.ptr b (op*8+2))=some (.bool (rC op).named):=hF.load1 ty4 rfl (by rw[Bc h (by decide)];rfl)
def zc8:mA yA 3 ⟨0,t⟩ (.ptr b (op*8+3))=some (.int .i64 (rC op).least):=hF.load1 zI rfl (by rw[Bc h (by decide)];rfl)
def zia:mA yA 3 ⟨0,t⟩ (.ptr b (op*8+4))=some (.int .i64 (rC op).most):=hF.load1 zI rfl (by rw[Bc h (by decide)];rfl)
def zc7:mA yA 3 ⟨0,t⟩ (.ptr b (op*8+5))=some (.int .i64 (rC op).level):=hF.load1 zI rfl (by rw[Bc h (by decide)];rfl)
def Xn:mA yA 3 ⟨0,t⟩ (.ptr b (op*8+6))=some (.int .i64 (rC op).left):=hF.load1 zI rfl (by rw[Bc h (by decide)];rfl)
def zc6:mA yA 3 ⟨0,t⟩ (.ptr b (op*8+7))=some (.int .i64 (rC op).right):=hF.load1 zI rfl (by rw[Bc h (by decide)];rfl)
end
theorem yL{a b:Int}(h:a≠b):cA a b≠true:=fun e=>h (qE.1 e)
theorem rM{a b:Int}(h:¬ a<b):jB a b≠true:=fun e=>h (aB.1 e)
theorem nLe{a b:Int}(h:¬ a<=b):eC a b≠true:=fun e=>h (vG.1 e)
theorem tP{a b:Int}(h:a=b):cA a b=true:=qE.2 h
theorem jM{a b:Int}(h:a<b):jB a b=true:=aB.2 h
theorem yLe{a b:Int}(h:a<=b):eC a b=true:=vG.2 h
def yH{b o:Nat}:Cl (.ptr b o)=some (.ptr b o):=rfl
def Eg(op:Nat)(name:List Nat)(n:Nat):Bool:=
 decide (op<27) && !decide ((rC op).style=0)&&decide ((rC op).least<=n)&&decide (n<=(rC op).most)&&(if (rC op).named=true then Dr name else wH name [])
def Ig(op:Nat)(v:yB):Bool:=if op=19 then decide (1<=v.i)&&decide (v.i<=6)&&Cb { v with i:=0 } else Cb v
mutual
/-- is an expression printable at a depth? -/
def uK:vA->Nat->Bool
 | .mk op name v args,d=>decide (d<=24)&&Eg op name args.length&&(if op=1 then vS v else Ig op v&&kV args (d+1))
def kV:List vA->Nat->Bool
 | [],_=>true
 | x::l,d=>uK x d&&kV l d
end
theorem Zr:∀ {l:List vA} {d:Nat},kV l d=l.all fun x=>uK x d
 | [],d=>by rw[kV];rfl
 | x::l,d=>by rw[kV,Zr];rfl
def zet(p0_0:zA)(p1_0:Int)(p1_1:List Nat)(p1_2:Int)(p1_3:Bool)(p1_4:zA)(p1_5:Bool)(p1_6:zA)(p1_7:Int)(p1_8:zA)(p2:Int):T:=
 .ite (zD zA.one [(.int .u8 p1_2),(.bool p1_3),p1_4,(.bool p1_5),p1_6,(.int .i64 p1_7)]) (.ite (cA p1_0 1)
 (.call 67 [(.agg [(.int .u8 p1_2),(.bool p1_3),p1_4,(.bool p1_5),p1_6,(.int .i64 p1_7)])] fun a28=>
 .asB a28 fun b29=>.ret (.bool b29))
 (.ite (cA p1_0 19)
 (.ite (jB p1_7 1)
 (.ret (.bool false))
 (.ite (jB 6 p1_7)
 (.ret (.bool false))
 (.ite true (.jump 33 [(.int .i64 p2),p0_0,(.int .u8 p1_0),(.str p1_1),(.int .u8 p1_2),(.bool p1_3),p1_4,(.bool p1_5),p1_6,(.int .i64 p1_7),p1_8,(.int .u8 p1_2),(.bool p1_3),p1_4,(.bool p1_5),p1_6,(.int .i64 0)]) .fail)))
 (.jump 33 [(.int .i64 p2),p0_0,(.int .u8 p1_0),(.str p1_1),(.int .u8 p1_2),(.bool p1_3),p1_4,(.bool p1_5),p1_6,(.int .i64 p1_7),p1_8,(.int .u8 p1_2),(.bool p1_3),p1_4,(.bool p1_5),p1_6,(.int .i64 p1_7)]))) .fail
section
variable {op:Nat}{name:List Nat}{v:yB}{a b c:zA}{bf d:Nat}
theorem Fa{v2:Int}{v':yB}{R:Bool}{n:Nat}{c3:zA}(ha:sA t 1 (wC v'.f.n.limbs) a)(hb:sA t 1 (wC v'.f.d.limbs) b)(hf:v'.f.ok)(hc:tB c=some (.int .i64 (n:Int)))
  (hargs:jp 29 4 [.int .i64 v2,c,.int .i64 (n:Int),.int .i64 0,c3] t (fun x t'=>x=.bool R/\t'=t)) (p3:Bool) (p5:Bool) (p2 p7:Int) (p4 p6:zA) :
  jp 29 33 [.int .i64 v2,c3,.int .u8 (op:Int),.str name,.int .u8 p2,.bool p3,p4,.bool p5,p6,.int .i64 p7,c,.int .u8 v'.kind,.bool v'.f.n.neg,a,.bool v'.f.d.neg,b,.int .i64 v'.i] t (fun x t'=>x=.bool (Cb v'&&R)/\t'=t):=by
 refine j29_33 ?_;simp only[uI,uB,bA,uZ,uY,ze1,tA,q68,OV ha hb hf,xA,zA.asBool];grind [xA,zB]
theorem zg0{n:Nat}{R:Bool}(ha:sA t 1 (wC v.f.n.limbs) a)(hb:sA t 1 (wC v.f.d.limbs) b)(hf:rE.fit v.f)(hc:tB c=some (.int .i64 (n:Int)))
  (hargs:jp 29 4 [.int .i64 (d:Int),c,.int .i64 (n:Int),.int .i64 0,.ptr bf 0] t (fun x t'=>x=.bool R/\t'=t)) :
  wp 29 (zet (.ptr bf 0) (op:Int) name (v.kind:Int) v.f.n.neg a v.f.d.neg b v.i c (d:Int)) t (fun x t'=>x=.bool (if op=1 then vS v else Ig op v&&R)/\t'=t):=by
 unfold zet;refine iC ?_ ?_
 ·rw[cE];simp only[ycg,yck,ha.one,hb.one];rfl
 by_cases h1:op=1
 ·refine iC (tP (by omega)) ?_;simp only[tA,q67,TL ha hb hf,xA,zA.asBool,yab h1];constructor<;>trivial
 ·refine bC (yL (by omega)) ?_;simp only[yaa h1];unfold Ig;by_cases h2:op=19
  ·refine iC (tP (by omega)) ?_;simp only[yab h2];by_cases h3:1<=v.i
   ·refine bC (rM (by omega)) ?_;by_cases h4:v.i<=6
    ·refine bC (rM (by omega)) (iC rfl ?_);have:=Fa (op:=op) (name:=name) (v':={ v with i:=0 }) ha hb hf.1 hc hargs v.f.n.neg v.f.d.neg v.kind v.i a b;simp only[decide_eq_true h3,decide_eq_true h4,ycn];exact this
    grind [jM,tA]
   grind [jM,tA]
  ·refine bC (yL (by omega)) ?_;simp only[yaa h2];exact Fa (op:=op) (name:=name) (v':=v) ha hb hf.1 hc hargs v.f.n.neg v.f.d.neg v.kind v.i a b
theorem zdj{n:Nat}{R:Bool}(hF:kC t bf none lS)(hop:op<256)(hn:n<sE)(hnl:name.length<sE)(ha:sA t 1 (wC v.f.n.limbs) a)(hb:sA t 1 (wC v.f.d.limbs) b)(hf:rE.fit v.f)(hc:tB c=some (.int .i64 (n:Int)))
  (hargs:d<=24->jp 29 4 [.int .i64 (d:Int),c,.int .i64 (n:Int),.int .i64 0,.ptr bf 0] t (fun x t'=>x=.bool R/\t'=t)) :
  iB yA F 29 [.agg [.ptr bf 0],.agg [.int .u8 op,.str name,.int .u8 v.kind,.bool v.f.n.neg,a,.bool v.f.d.neg,b,.int .i64 v.i,c],.int .i64 (d:Int)] t=some (.bool (decide (d<=24)&&Eg op name n&&(if op=1 then vS v else Ig op v&&R))):=by
 refine pC.2 (w29 ?_);unfold t29 Eg uQ1 uI uU uB fB bA jC uZ uY uW;by_cases hd:d<=24
 case neg=>
  grind [jM,tA]
 refine bC (rM (by omega)) ?_;have htail:=zg0 (op:=op) (name:=name) (d:=d) (bf:=bf) ha hb hf hc (hargs hd);by_cases h27:op<27
 case neg=>
  grind [wrap_i64,yLe,tA]
 refine bC (by grind [wrap_i64,nLe]) ?_;refine lB yH (lB (Yi h27) (lB yH (lB (bP (by decide)) (mF (HK hF h27) (xE ?_)))));by_cases hs:(rC op).style=0
 ·grind [tP,tA]
 refine bC (yL (by omega)) ?_;refine lB hc (xE (lB yH (lB (bP (by decide)) (mF (zc8 hF h27) (xE ?_)))));by_cases hl:(rC op).least<=n
 case neg=>
  grind [jM,tA]
 refine bC (rM (by omega)) ?_;refine lB hc (xE (lB yH (lB (bP (by decide)) (mF (zia hF h27) (xE ?_)))));by_cases hm:n<=(rC op).most
 case neg=>
  grind [jM,tA]
 refine bC (rM (by omega)) ?_;have hld:=HL hF h27;refine lB yH (lB (bP (by decide)) (mF hld (mI ?_)));simp only[decide_eq_true hd,decide_eq_true h27,decide_eq_false hs,decide_eq_true hl,decide_eq_true hm,ycn,ycl]
 cases hnm:(rC op).named with
 | true=>
  rw[hnm]at hld;simp only[if_true];refine iC rfl (uD ?_);rw[q66,Qn,xA];refine mI ?_
  cases hN:Dr name with
  | false=>
   grind [tA]
  | true=>
   refine bC (by simp) (lB yH (lB (bP (by decide)) (mF hld (mI (bC (by simp) ?_)))));simp only[ycn];exact htail
 | false=>
  rw[hnm]at hld;simp only[ybq,if_false];refine bC (by simp) (lB yH (lB (bP (by decide)) (mF hld (mI (iC rfl ?_)))))
  cases hN:wH name []with
  | false=>
   grind [tA]
  | true=>
   refine bC (by simp) ?_;simp only[ycn];exact htail
end
mutual
theorem LC{bf:Nat}(hF:kC t bf none lS):∀(x:vA) (d:Nat) (cs:List zA),x.fit->d<1000->RD t x.d cs->iB yA F 29 [.agg [.ptr bf 0],.agg cs,.int .i64 (d:Int)] t=some (.bool (uK x d))
 | .mk op name v args,d,cs,hx,hd,h=>by
  obtain⟨a,b,c,rfl,ha,hb,hc⟩:=iK h;simp only[vA.op,vA.name,vA.v,vA.args]at ha hb hc ⊢;have hx':=hx;unfold vA.fit at hx';unfold uK;refine zdj hF hx'.1 (n:=args.length) hx'.2.2.2.2.1 hx'.2.1 ha hb hx'.2.2.2.1.2.1 (by rw[hc.len,ybf]) fun hd'=>?_;have:=NY hF args args d c 0 hc rfl hx'.2.2.2.2.2 hx'.2.2.2.2.1 hd';exact this
theorem NY{bf:Nat}(hF:kC t bf none lS):∀(l args:List vA) (d:Nat) (c:zA) (i:Nat),sA t 9 (args.map vA.d) c->args.drop i=l->vA.fits l->args.length<sE->d<=24 →
  jp 29 4 [.int .i64 (d:Int),c,.int .i64 (args.length:Int),.int .i64 (i:Int),.ptr bf 0] t (fun x t'=>x=.bool (kV l (d+1))/\t'=t)
 | [],args,d,c,i,hc,hl,hok,hsz,hd=>by
  have:=Mn hl;refine j29_4 ?_;unfold zhd uB uG fB kB bA tF uZ pH cD;grind [rM,kV,tA]
 | x::l,args,d,c,i,hc,hl,hok,hsz,hd=>by
  obtain⟨h1,h2,h3⟩:=Mo hl;unfold sE at hsz;have hok':=hok;unfold vA.fits at hok';refine j29_4 ?_;obtain⟨pb,po,cs,g1,g2,g3,g4,g5⟩:=eD.at bR (by simp) hc (i:=i) (d:=x.d) (by simp[h1]);unfold zhd uB uG fB kB bA tF uZ pH cD;refine iC (jM (by omega)) (lB g1 (mF g2 ?_));rw[Fv];refine gM (tI g5 x.zs) ?_;have hmk:=g5.mk x.zs;have hcs:[zA.int .u8 ((cellsOf cs).i 0),.str ((cellsOf cs).s 1),.int .u8 ((cellsOf cs).i 2),.bool ((cellsOf cs).b 3),(cellsOf cs).v 4,.bool ((cellsOf cs).b 5),(cellsOf cs).v 6,.int .i64 ((cellsOf cs).i 7),(cellsOf cs).v 8]=cs:=hmk
  rw[hcs];refine iC g5.all (uD ?_);rw[wrap_i64 (by omega) (by omega),show(d:Int)+1=((d+1:Nat):Int) by omega,q29,LC hF x (d+1) cs hok'.1 (by omega) g5,xA];refine mI ?_;unfold kV
  cases hE:uK x (d+1)with
  | false=>
   grind [tA]
  | true=>
   refine bC (by simp) (sJ ?_);rw[wrap_i64 (by omega) (by omega),show(i:Int)+1=((i+1:Nat):Int) by omega];have:=NY hF l args d c (i+1) hc h2 hok'.2 hsz hd
   simp_all
end
end
end Go.Proofs
