/- Marks; lists and values compared. -/
import Derived.Test.YtfofhjofkodoeaaGreatDoorA23
set_option linter.all false
noncomputable section
set_option maxRecDepth 100000
namespace Go.Proofs
open Go Go.Am
variable [lC]
variable {t tf:Tr qA}
def zg1{i:Nat}(h:i<12):rB yA F 137 [.int .i64 1,.int .i64 (i:Int)] t=some (.int .i64 ((8000024+i:Nat):Int)):=by
 refine dB.2 (w137 ?_);unfold t137 uZ uW;have e1:jA .i64 (1000003*(jA .i64 ((1:Int)+7)))=8000024:=by kernel_rfl
 rw[e1,wrap_i64 (by omega) (by omega)];exact⟨rfl,rfl⟩
def lit8{b:Nat}{x0 x1 x2 x3 x4 x5 x6 x7:Int}:oG yA 59 8 [(0,.int .u8 x0),(1,.int .u8 x1),(2,.int .u8 x2),(3,.int .u8 x3),(4,.int .u8 x4),(5,.int .u8 x5),(6,.int .u8 x6),(7,.int .u8 x7)] ⟨b,t⟩=some (.slice b 0 8 8,yF ⟨b,t⟩ [.int .u8 x0,.int .u8 x1,.int .u8 x2,.int .u8 x3,.int .u8 x4,.int .u8 x5,.int .u8 x6,.int .u8 x7] none):=by
 unfold oG;rw[xM,pA];simp only[jD.asSlice,pA];rw[xI,pA];rfl
theorem Nv{i:Nat}(h:i<12):rB yA F 121 [.int .i64 1,.int .i64 (i:Int)] t=some (.str (dI i)):=by
 refine lL (w121 ?_);unfold t121 uS uY;have e1:jA .u8 (1:Int)=1:=by kernel_rfl
 have e2:jA .u8 (Int.fdiv 1 256)=0:=by kernel_rfl
 have e3:jA .u8 (Int.fdiv 1 65536)=0:=by kernel_rfl
 have f1:Int.fdiv (i:Int) 256=0:=by grind
 have f2:Int.fdiv (i:Int) 65536=0:=by grind
 have f0:jA .u8 (0:Int)=0:=by kernel_rfl
 rw[e1,e2,e3,f1,f2,f0,Dk (by omega) (by omega)];refine tG fun b hb _=>?_;obtain⟨t',g1,g2,g3,g4⟩:=vZ hb [.int .u8 35,.int .u8 1,.int .u8 0,.int .u8 0,.int .u8 47,.int .u8 (i:Int),.int .u8 0,.int .u8 0] none;refine⟨_,_,lit8,?_⟩;rw[g1];refine yC (LN (l:=dI i) xM vL rfl rfl rfl xI rfl g2 rfl (fun j x hj=>?_) (fun x hx=>?_)) (sD ⟨rfl,g3⟩)
 ·have:[zA.int .u8 35,.int .u8 1,.int .u8 0,.int .u8 0,.int .u8 47,.int .u8 (i:Int),.int .u8 0,.int .u8 0]=(dI i).map fun(x:Nat)=>zA.int .u8 (x:Int):=rfl
  simp_all
 ·unfold dI at hx;simp at hx;omega
def pv104{i:Nat}(h:i<12):rB yA F 104 [.int .i64 1,.int .i64 (i:Int)] t=some (.agg [.int .i64 ((8000024+i:Nat):Int),.int .i64 0,.int .i64 0,.bool false,.nilslice,.bool false,.nilslice]):=by
 refine dB.2 (w104 ?_);unfold t104 uI uZ;refine yB ?_;rw[q137,zg1 h,xA];exact zB (oA rfl (oA rfl ⟨rfl,rfl⟩))
def pv76{i:Nat}(h:i<12):rB yA F 76 [.int .i64 1,.int .i64 (i:Int)] t=some (.agg [.str (dI i),.bool false,.nilslice]):=by
 refine dB.2 (w76 ?_);unfold t76 uS uZ;refine yB ?_;rw[q121,Nv h,xA];exact sD (oA rfl (oA rfl ⟨rfl,rfl⟩))
def pv74{i:Nat}(h:i<12):rB yA F 74 [.int .i64 1,.int .i64 (i:Int)] t=some (.agg [.str (dI i),.int .u8 0,.bool false]):=by
 refine dB.2 (w74 ?_);unfold t74 uS uZ uY;refine yB ?_;rw[q121,Nv h,xA];exact sD (oA rfl (oA rfl ⟨rfl,rfl⟩))
def pv80{i:Nat}(h:i<12):rB yA F 80 [.int .i64 1,.int .i64 (i:Int)] t=some (.agg [.int .u8 0,.str (dI i),.int .u8 0,.bool false,.nilslice,.bool false,.nilslice,.int .i64 0,.nilslice]):=by
 refine dB.2 (w80 ?_);unfold t80 uS uZ uY;refine yB ?_;rw[q121,Nv h,xA];exact sD (oA rfl (oA rfl ⟨rfl,rfl⟩))
def pv78{i:Nat}(h:i<12):rB yA F 78 [.int .i64 1,.int .i64 (i:Int)] t=some (.agg ([.str [],.str (dI i),.int .i64 0,.int .i64 0,.int .i64 0,.bool false]++([.int .u8 0,.str [],.int .u8 0,.bool false,.nilslice,.bool false,.nilslice,.int .i64 0,.nilslice]++[.int .u8 0,.str [],.int .u8 0,.bool false,.nilslice,.bool false,.nilslice,.int .i64 0,.nilslice]))):=by
 refine dB.2 (w78 ?_);unfold t78 uS uZ uY;refine yB ?_;rw[q121,Nv h,xA];exact sD (oA rfl (oA rfl ⟨rfl,rfl⟩))
def sam203{l:List Nat}{u v:zA}(hu:lA t 1 (cC l) u)(hv:lA t 1 (cC l) v)(hl:l.length<300000):rB yA F 203 [u,v] t=some (.bool true):=by
 have hn:cA u=some (.int .i64 (l.length:Int)):=by rw[hu.len,iN]
 have hn':cA v=some (.int .i64 (l.length:Int)):=by rw[hv.len,iN]
 refine dB.2 (w203 ?_);unfold t203 uI aA uZ;refine uA hn (zB (uA hn' (zB (bA (fun e=>absurd rfl (oN.1 e)) (zC ?_)))));have loop:∀(m i:Nat),i+m=l.length->jp 203 2 [u,v,.int .i64 (i:Int)] t (fun v' t'=>v'=.bool true/\t'=t):=by
  intro m;induction m with
  | zero=>
   intro i hi;refine ze7 ?_;unfold Tp uI uH wB rA sB aA zF;exact uA hn (zB (bA (jF (by omega)) ⟨rfl,rfl⟩))
  | succ m ih=>
   intro i hi;obtain⟨x,hx⟩:=getElem?_of_lt (show i<l.length by omega);obtain⟨p,o,g1,g2⟩:=lA.idx (C:=yA) wI hu hx;obtain⟨p',o',g3,g4⟩:=lA.idx (C:=yA) wI hv hx;refine ze7 ?_;unfold Tp uI uH wB rA sB aA zF;refine uA hn (zB (oA (pF (by omega)) (uA g1 (yC g2 (zB (uA g3 (yC g4 (zB (bA (fun e=>absurd rfl (oN.1 e)) (zC ?_))))))))));rw[wrap_i64 (by omega) (by omega)]
   exact ih (i+1) (by omega)
 exact loop l.length 0 (by omega)
def Up{w:lF}{cs ds:List zA}(hl:w.limbs.length<300000)(h:RD t w.d cs)(k:RD t w.d ds):rB yA F 165 [.agg cs,.agg ds] t=some (.bool true):=by
 obtain⟨u,rfl,hu⟩:=Eu h;obtain⟨v,rfl,hv⟩:=Eu k;refine dB.2 (w165 ?_);unfold t165 uB aA;refine oA (by rw[lR];simp) (yB ?_);rw[q203,sam203 hu hv hl,xA];exact rC ⟨rfl,rfl⟩
def Uq{f:dC}{cs ds:List zA}(hl:f.n.limbs.length<300000/\f.d.limbs.length<300000)(h:RD t f.dd cs)(k:RD t f.dd ds):rB yA F 132 [.agg cs,.agg ds] t=some (.bool true):=by
 obtain⟨a,b,rfl,ha,hb⟩:=Ew h;obtain⟨a',b',rfl,ha',hb'⟩:=Ew k;refine dB.2 (w132 ?_);unfold t132 uB aA;refine yB ?_;rw[q165,Up hl.1 (yX (w:=f.n) ha) (yX (w:=f.n) ha'),xA];refine rC (oA rfl (yB ?_));rw[q165,Up hl.2 (yX (w:=f.d) hb) (yX (w:=f.d) hb'),xA];exact rC ⟨rfl,rfl⟩
def sam94{x:lE}{cs ds:List zA}(hl:x.f.n.limbs.length<300000/\x.f.d.limbs.length<300000)(h:RD t x.d cs)(k:RD t x.d ds):rB yA F 94 [.agg cs,.agg ds] t=some (.bool true):=by
 obtain⟨a,b,rfl,ha,hb⟩:=Jd h;obtain⟨a',b',rfl,ha',hb'⟩:=Jd k;refine dB.2 (w94 ?_);unfold t94 uB aA;refine oA (wE.2 rfl) (yB ?_);rw[q132,Uq hl (uV (f:=x.f) ha hb) (uV (f:=x.f) ha' hb'),xA];refine rC (oA rfl ?_);rw[wE.2 rfl];exact⟨rfl,rfl⟩
def Ur{x:oE}{cs ds:List zA}(hl:x.f.n.limbs.length<300000/\x.f.d.limbs.length<300000)(h:RD t x.d cs)(k:RD t x.d ds):rB yA F 102 [.agg cs,.agg ds] t=some (.bool true):=by
 obtain⟨a,b,rfl,ha,hb⟩:=Je h;obtain⟨a',b',rfl,ha',hb'⟩:=Je k;refine dB.2 (w102 ?_);unfold t102 uB aA;refine oA (wE.2 rfl) (oA (wE.2 rfl) (oA (wE.2 rfl) (yB ?_)));rw[q132,Uq hl (uV (f:=x.f) ha hb) (uV (f:=x.f) ha' hb'),xA];exact rC ⟨rfl,rfl⟩
theorem sam58{l:List oE}{u v:zA}(hn:l.length<300000)(hl:∀x∈l,x.f.n.limbs.length<300000/\x.f.d.limbs.length<300000)(hu:lA t 7 (l.map oE.d) u)(hv:lA t 7 (l.map oE.d) v):rB yA F 58 [u,v] t=some (.bool true):=by
 refine dB.2 (w58 ?_);unfold t58 uI aA uZ;refine uA hu.len (zB (uA hv.len (zB (bA (fun e=>absurd rfl (oN.1 e)) (zC ?_)))));refine Ix (C:=yA) (W:=Wq yA F rF) (J:=Jq yA F 58) (g:=kS 102) (ne:=not) (ok:=true) (ds:=l.map oE.d) Eh (fun d hd=>?_) rfl (fun d hd cs cs' K h1 h2 hK=>?_) (by simp_all) (fun i hw=>j58_2 hw) hu hv ⟨rfl,rfl⟩ l.length 0 (by simp)
 ·obtain⟨x,_,rfl⟩:=yaq.1 hd;exact x.zs
 ·obtain⟨x,hx,rfl⟩:=yaq.1 hd;refine yB ?_;rw[q102,Ur (hl x hx) h1 h2,xA];exact hK
def zgs{x:wD}{cs ds:List zA}(hn:x.rows.length<300000)(hl:∀r∈x.rows,r.f.n.limbs.length<300000/\r.f.d.limbs.length<300000)(h:RD t x.d cs)(k:RD t x.d ds):rB yA F 31 [.agg cs,.agg ds] t=some (.bool true):=by
 obtain⟨a,rfl,ha⟩:=yZ h;obtain⟨b,rfl,hb⟩:=yZ k;refine dB.2 (w31 ?_);unfold t31 uB aA;refine oA ((aI _ _).2 rfl) (oA (by rw[lR];simp) (yB ?_));rw[q58,sam58 hn hl ha hb,xA];exact rC ⟨rfl,rfl⟩
theorem sam89{l:List wD}{u v:zA}(hn:l.length<300000)(hl:∀x∈l,x.rows.length<300000/\∀r∈x.rows,r.f.n.limbs.length<300000/\r.f.d.limbs.length<300000)(hu:lA t 3 (l.map wD.d) u)(hv:lA t 3 (l.map wD.d) v):rB yA F 89 [u,v] t=some (.bool true):=by
 refine dB.2 (w89 ?_);unfold t89 uI aA uZ;refine uA hu.len (zB (uA hv.len (zB (bA (fun e=>absurd rfl (oN.1 e)) (zC ?_)))));refine Ix (C:=yA) (W:=Wq yA F rF) (J:=Jq yA F 89) (g:=kS 31) (ne:=not) (ok:=true) (ds:=l.map wD.d) nW (fun d hd=>?_) rfl (fun d hd cs cs' K h1 h2 hK=>?_) (by simp_all) (fun i hw=>j89_2 hw) hu hv ⟨rfl,rfl⟩ l.length 0 (by simp)
 ·obtain⟨x,_,rfl⟩:=yaq.1 hd;exact x.zs
 ·obtain⟨x,hx,rfl⟩:=yaq.1 hd;refine yB ?_;rw[q31,zgs (hl x hx).1 (hl x hx).2 h1 h2,xA];exact hK
theorem LI{x y:Operand}{s:List Nat}{k:Int}{b:Bool}:(zN .eql).f yA 44 x y (.agg [.str s,.int .u8 k,.bool b]) (.agg [.str s,.int .u8 k,.bool b])=some (.bool true):=by
 have e:(zN .eql).f yA 44 x y (.agg [.str s,.int .u8 k,.bool b]) (.agg [.str s,.int .u8 k,.bool b])=ob (bif fC s s then(bif tA k k then(bif jH b b then some true else some false)else some false)else some false) fun r=>some (.bool r):=by kernel_rfl
 rw[e,(aI s s).2 rfl,wE.2 rfl];cases b<;>rfl
theorem zi0{x y:Operand}{s:List Nat}{k:Int}{b:Bool}:(zN .neq).f yA 44 x y (.agg [.str s,.int .u8 k,.bool b]) (.agg [.str s,.int .u8 k,.bool b])=some (.bool false):=by
 have e:(zN .neq).f yA 44 x y (.agg [.str s,.int .u8 k,.bool b]) (.agg [.str s,.int .u8 k,.bool b])=ob (bif fC s s then(bif tA k k then(bif jH b b then some true else some false)else some false)else some false) fun r=>some (.bool (!r)):=by kernel_rfl
 rw[e,(aI s s).2 rfl,wE.2 rfl];cases b<;>rfl
theorem sam88{l:List nE}{u v:zA}(hn:l.length<300000)(hu:lA t 3 (l.map nE.d) u)(hv:lA t 3 (l.map nE.d) v):rB yA F 88 [u,v] t=some (.bool true):=by
 refine dB.2 (w88 ?_);unfold t88 uI aA uZ;refine uA hu.len (zB (uA hv.len (zB (bA (fun e=>absurd rfl (oN.1 e)) (zC ?_)))));refine Ix (C:=yA) (W:=Wq yA F rF) (J:=Jq yA F 88) (g:=fun a b K=>.opt ((zN .neq).f yA 44 (.tmp 20) (.tmp 24) (.agg a) (.agg b)) K) (ne:=fun b=>b) (ok:=false) (ds:=l.map nE.d) mW (fun d hd=>?_) rfl (fun d hd cs cs' K h1 h2 hK=>?_) (by simp_all) (fun i hw=>j88_2 hw) hu hv ⟨rfl,rfl⟩ l.length 0 (by simp)
 ·obtain⟨x,_,rfl⟩:=yaq.1 hd;exact x.zs
 ·obtain⟨x,hx,rfl⟩:=yaq.1 hd;have e1:=wT h1
  grind [wT,uA,zi0]
mutual
theorem Iy:∀(x:sA),sA.cpy x->∀cs ds,RD t x.d cs->RD t x.d ds->rB yA F 51 [.agg cs,.agg ds] t=some (.bool true)
 | .mk op name v args,h,cs,ds,hc,hd=>by
  obtain⟨a,b,c,rfl,ha,hb,he⟩:=vI hc;obtain⟨a',b',c',rfl,ha',hb',he'⟩:=vI hd;simp only[sA.op,sA.name,sA.v,sA.args]at ha hb he ha' hb' he' ⊢;unfold sA.cpy at h;refine dB.2 (w51 ?_);unfold t51 uB aA uZ uY;refine oA (wE.2 rfl) (oA ((aI _ _).2 rfl) (yB ?_));rw[q94,sam94 h.1 (Jt (x:=v) ha hb) (Jt (x:=v) ha' hb'),xA];refine rC (oA rfl (yB ?_))
  have:=sam95 args h.2.2;have e95:rB yA F 95 [c,c'] t=some (.bool true):=by
   refine dB.2 (w95 ?_);unfold t95 uI aA uZ;refine uA he.len (zB (uA he'.len (zB (bA (fun e=>absurd rfl (oN.1 e)) (zC ?_)))));refine Ix (C:=yA) (W:=Wq yA F rF) (J:=Jq yA F 95) (g:=kS 51) (ne:=not) (ok:=true) (ds:=args.map sA.d) sP (fun d hd=>?_) rfl (fun d hd cs cs' K h1 h2 hK=>?_) (by simp_all) (fun i hw=>j95_2 hw) he he' ⟨rfl,rfl⟩ args.length 0 (by simp)
   ·obtain⟨x,_,rfl⟩:=yaq.1 hd;exact x.zs
   ·obtain⟨x,hx,rfl⟩:=yaq.1 hd;refine yB ?_;rw[q51,this x hx cs cs' h1 h2,xA];exact hK
  rw[q95,e95,xA];exact rC ⟨rfl,rfl⟩
theorem sam95:∀(l:List sA),sA.cpys l->∀x∈l,∀cs ds,RD t x.d cs->RD t x.d ds->rB yA F 51 [.agg cs,.agg ds] t=some (.bool true)
 | [],_,x,hx=>by cases hx
 | y::l,h,x,hx=>by
  unfold sA.cpys at h;rcases ybs.1 hx with e | hx
  ·rw[e];exact Iy y h.1
  ·exact sam95 l h.2 x hx
end
def zgr{x:dD}{cs ds:List zA}(hw:sA.cpy x.when_)(ht:sA.cpy x.then_)(h:RD t x.d cs)(k:RD t x.d ds):rB yA F 93 [.agg cs,.agg ds] t=some (.bool true):=by
 obtain⟨a,b,c,d,e,f,rfl,h1,h2⟩:=Jf h;obtain⟨a',b',c',d',e',f',rfl,k1,k2⟩:=Jf k;refine dB.2 (w93 ?_);unfold t93 uB aA uZ uY;refine oA ((aI _ _).2 rfl) (oA ((aI _ _).2 rfl) (oA (wE.2 rfl) (oA (wE.2 rfl) (oA (wE.2 rfl) (oA (by rw[lR];simp) (yB ?_))))));have e1:=Iy x.when_ hw _ _ h1 k1;have e2:=Iy x.then_ ht _ _ h2 k2;unfold fL at e1 e2;rw[q51,e1,xA];refine rC (oA rfl (yB ?_))
 rw[q51,e2,xA];exact rC ⟨rfl,rfl⟩
theorem sam90{l:List dD}{u v:zA}(hn:l.length<300000)(hl:∀x∈l,sA.cpy x.when_/\sA.cpy x.then_)(hu:lA t 24 (l.map dD.d) u)(hv:lA t 24 (l.map dD.d) v):rB yA F 90 [u,v] t=some (.bool true):=by
 refine dB.2 (w90 ?_);unfold t90 uI aA uZ;refine uA hu.len (zB (uA hv.len (zB (bA (fun e=>absurd rfl (oN.1 e)) (zC ?_)))));refine Ix (C:=yA) (W:=Wq yA F rF) (J:=Jq yA F 90) (g:=kS 93) (ne:=not) (ok:=true) (ds:=l.map dD.d) Ei (fun d hd=>?_) rfl (fun d hd cs cs' K h1 h2 hK=>?_) (by simp_all) (fun i hw=>j90_2 hw) hu hv ⟨rfl,rfl⟩ l.length 0 (by simp)
 ·obtain⟨x,_,rfl⟩:=yaq.1 hd;exact x.zs
 ·obtain⟨x,hx,rfl⟩:=yaq.1 hd;refine yB ?_;rw[q93,zgr (hl x hx).1 (hl x hx).2 h1 h2,xA];exact hK
def sam47{p:qD}{cs ds:List zA}(hp:qD.cpy p)(h:RD t p.d cs)(k:RD t p.d ds):rB yA F 47 [.agg cs,.agg ds] t=some (.bool true):=by
 obtain⟨a,b,c,rfl,ha,hb,hc⟩:=wO h;obtain⟨a',b',c',rfl,ha',hb',hc'⟩:=wO k;refine dB.2 (w47 ?_);unfold t47 uB aA;refine oA ((aI _ _).2 rfl) (yB ?_);rw[q88,sam88 hp.defs ha ha',xA];refine rC (oA rfl (yB ?_));rw[q89,sam89 hp.tables hp.rows hb hb',xA];refine rC (oA rfl (yB ?_));rw[q90,sam90 hp.clauses hp.exprs hc hc',xA];exact rC ⟨rfl,rfl⟩
end Go.Proofs
namespace Go.Proofs
open Go Go.Am
section
variable [lC]
variable {t tf:Tr qA}
def el27:cL yA 27 240 1:=⟨⟨_,gU,rfl,rfl⟩,⟨_,jM,rfl,rfl,by decide,by decide⟩,fun y h=>by rw[jM]at h;cases h;rfl⟩
def el22:cL yA 22 44 3:=⟨⟨_,ty22,rfl,rfl⟩,⟨_,Bj,rfl,rfl,by decide,by decide⟩,fun y h=>by rw[Bj]at h;cases h;rfl⟩
def el23:cL yA 23 49 3:=⟨⟨_,ty23,rfl,rfl⟩,⟨_,Bi,rfl,rfl,by decide,by decide⟩,fun y h=>by rw[Bi]at h;cases h;rfl⟩
def el47:cL yA 47 52 7:=⟨⟨_,ty47,rfl,rfl⟩,⟨_,ty52,rfl,rfl,by decide,by decide⟩,fun y h=>by rw[ty52]at h;cases h;rfl⟩
def el34:cL yA 34 36 9:=⟨⟨_,ty34,rfl,rfl⟩,⟨_,Dz,rfl,rfl,by decide,by decide⟩,fun y h=>by rw[Dz]at h;cases h;rfl⟩
theorem zdl{i:Nat}(h:i<12):jA .u16 ((8000024+i:Nat):Int)=(((8000024+i)%65536:Nat):Int):=by
 have:(List.range 12).all (fun i=>tA (jA .u16 ((8000024+i:Nat):Int)) (((8000024+i)%65536:Nat):Int))=true:=by kernel_rfl
 grind [wE]
theorem Ex{f:Nat->D}{i:Nat}(h:i<12):((List.range 12).map f)[i]?=some (f i):=by
 simp_all
theorem zhj{l:List Nat}{x:zA}{L:List nG}{Q:aB}(hx:lA tf 1 (cC l) x)(ho:vD yA.base tf t L)(hl:l.length<300000)(hQ:Dg yA.base tf L 1 ((cC l).map E.pl) sX Q):Wc yA F 157 [x] t Q:=by
 refine w157 ?_;unfold t157 uI uZ uW;refine Fm el27 (by grind [iN]) hx ho fun b t1 ho1=>?_;refine GM el27 (by omega) hx ho1 fun t2 ho2=>zC ?_;have:=Fl (W:=Wq yA F rF) (J:=Jq yA F 157) (p:=2) (v0:=x) (Q:=Q) (l:=(cC l).map E.pl) (m:=sX) (tf0:=tf) (L:=L) (w:=fun i=>.int .u16 (((8000024+i)%65536:Nat):Int)) (cm:=fun i=>[.int .u16 (((8000024+i)%65536:Nat):Int)]) el27 wI rfl (fun i hi=>⟨_,Ex hi,fun t=>rfl⟩) (fun i hi=>TU el27)
  (fun i hi v t hw=>zfd (by
   unfold Tx uI sB iG uZ;refine oA (pF (by omega)) (yB ?_);rw[q137,zg1 hi,xA];grind [zB,zdl]))
  (fun v t hw=>zfd (i0:=12) (by unfold Tx uI sB iG uZ;grind [bA,jF])) (by rw[hx.len,ybf]) hQ (b:=b) 12 0 tf t2 (by omega) (xB.refl _)
 simp_all
def GN{w:lF}(hl:w.limbs.length<300000):nU yA.base (Wq yA F rF) 123 w.e:=by
 intro L tf t cs Q ho hd hQ;rw[lF.ed]at hd;obtain⟨u,rfl,hu⟩:=Eu hd;rw[q123];refine w123 ?_;unfold t123 uQ38 gC;refine yB ?_;rw[q157];refine zhj hu ho hl fun tf' t' v k1 k2 k3=>?_;have hr:=pX.2 ⟨v,rfl,k3⟩;exact oA (LE.rd _ _ k3).all (oA (LE.rd _ _ hr).all (hQ tf' t' _ k1 k2 hr))
theorem zef{f:dC}(hl:f.n.limbs.length<300000/\f.d.limbs.length<300000):nU yA.base (Wq yA F rF) 79 f.e:=by
 intro L tf t cs Q ho hd hQ;rw[dC.ed]at hd;obtain⟨u,v,rfl,hu,hv⟩:=Ew hd;rw[q79];refine w79 ?_;unfold t79 uG gC xP;refine yB (GN hl.1 ho (by grind [lF.ed,yX]) fun tf1 t1 c1 k1 k2 k3=>?_);have r1:=LE.rd _ _ k3;have hz1:=rG r1 ((congrArg D.zs (lF.ed _)).trans (lF.zs _));have a1:=r1.all;obtain⟨u1,rfl,hu1⟩:=pX.1 k3;refine fE hz1 (oA a1 (yB (GN hl.2 k2 (by rw[lF.ed];exact yX (w:=f.d) (hv.mono k1)) fun tf2 t2 c2 m1 m2 m3=>?_)))
 have r2:=LE.rd _ _ m3;have hz2:=rG r2 ((congrArg D.zs (lF.ed _)).trans (lF.zs _));have a2:=r2.all;obtain⟨v1,rfl,hv1⟩:=pX.1 m3;have hr:=Fo.2 ⟨u1,v1,rfl,LE.mono m1 _ _ hu1,hv1⟩;exact fE hz2 (oA a2 (oA (LE.rd _ _ hr).all (hQ tf2 t2 _ (k1.trans m1) m2 hr)))
theorem lent43{x:lE}(hl:x.f.n.limbs.length<300000/\x.f.d.limbs.length<300000):nU yA.base (Wq yA F rF) 43 x.e:=by
 intro L tf t cs Q ho hd hQ;rw[lE.ed]at hd;obtain⟨u,v,rfl,hu,hv⟩:=Jd hd;rw[q43];refine w43 ?_;unfold t43 uG gC uZ uY uM8;refine yB (zef hl ho (by grind [dC.ed,uV]) fun tf1 t1 c1 k1 k2 k3=>?_);have r1:=LE.rd _ _ k3;have hz1:=rG r1 ((congrArg D.zs (dC.ed _)).trans (dC.zs _));have a1:=r1.all;have k3':=k3;obtain⟨u1,v1,rfl,_,_⟩:=Fo.1 k3';have hr:=Pn.2 ⟨u1,v1,rfl,k3⟩
 exact fE hz1 (oA a1 (oA (LE.rd _ _ hr).all (hQ tf1 t1 _ k1 k2 hr)))
theorem zhk{r:oE}(hl:r.f.n.limbs.length<300000/\r.f.d.limbs.length<300000):nU yA.base (Wq yA F rF) 156 r.e:=by
 intro L tf t cs Q ho hd hQ;rw[oE.ed]at hd;obtain⟨u,v,rfl,hu,hv⟩:=Je hd;rw[q156];refine w156 ?_;unfold t156 uG gC uZ uM8;refine yB (zef hl ho (by grind [dC.ed,uV]) fun tf1 t1 c1 k1 k2 k3=>?_);have r1:=LE.rd _ _ k3;have hz1:=rG r1 ((congrArg D.zs (dC.ed _)).trans (dC.zs _));have a1:=r1.all;have k3':=k3;obtain⟨u1,v1,rfl,_,_⟩:=Fo.1 k3';have hr:=zeg.2 ⟨u1,v1,rfl,k3⟩
 exact fE hz1 (oA a1 (oA (LE.rd _ _ hr).all (hQ tf1 t1 _ k1 k2 hr)))
theorem zhl{l:List oE}{x:zA}{L:List nG}{Q:aB}(hx:lA tf 7 (l.map oE.d) x)(ho:vD yA.base tf t L)(hn:l.length<300000)(hl:∀r∈l,r.f.n.limbs.length<300000/\r.f.d.limbs.length<300000)(hQ:Dg yA.base tf L 7 (l.map oE.e) cY Q):Wc yA F 122 [x] t Q:=by
 refine w122 ?_;unfold t122 uI uZ uW;refine Fm el47 (by simp_all) hx ho fun b t1 ho1=>zC ?_;have:=Pj (W:=Wq yA F rF) (J:=Jq yA F 122) (p:=2) (q:=6) (g:=156) (v0:=x) (Q:=Q) (l:=l.map oE.e) (b:=b) (tf0:=tf) (L:=L) el47 Eh (by decide) (fun e he=>by
   obtain⟨r,_,rfl⟩:=yaq.1 he;rw[oE.ed];exact r.zs) (fun e he=>by
   grind [zhk]) (by simp_all) (fun v i t hw=>j122_2 hw) (fun tf1 t1 hf ho1=>by
   have:=Fl (W:=Wq yA F rF) (J:=Jq yA F 122) (p:=6) (v0:=x) (Q:=Q) (l:=l.map oE.e) (m:=cY) (tf0:=tf) (L:=L) (w:=fun i=>.agg [.int .i64 ((8000024+i:Nat):Int),.int .i64 0,.int .i64 0,.bool false,.nilslice,.bool false,.nilslice]) (cm:=fun i=>[.int .i64 ((8000024+i:Nat):Int),.int .i64 0,.int .i64 0,.bool false,.nilslice,.bool false,.nilslice]) el47 Eh rfl (fun i hi=>⟨_,Ex hi,fun t=>Ux i⟩) (fun i hi=>Jn el47 rfl (by decide))
    (fun i hi v t hw=>zfg (by
     unfold Ub uI uG sB iG uZ aN;refine oA (pF (by omega)) (yB ?_);rw[q104,pv104 hi,xA];exact fE (rG (Ux (t:=t) i) (Ep i).zs) hw))
    (fun v t hw=>zfg (i0:=12) (by unfold Ub uI uG sB iG uZ aN;grind [bA,jF])) (by rw[hx.len,ybf,ybf]) hQ (b:=b) 12 0 tf1 t1 (by omega) hf
   simp_all) (by grind [qT,oE.ed]) l.length 0 tf t1 (by simp) (xB.refl _)
 simp_all
theorem lent75{x:wD}(hn:x.rows.length<300000)(hl:∀r∈x.rows,r.f.n.limbs.length<300000/\r.f.d.limbs.length<300000):nU yA.base (Wq yA F rF) 75 x.e:=by
 intro L tf t cs Q ho hd hQ;rw[wD.ed]at hd;obtain⟨a,rfl,ha⟩:=yZ hd;rw[q75];refine w75 ?_;unfold t75 gC;refine yB ?_;rw[q122];refine zhl ha ho hn hl fun tf' t' v k1 k2 k3=>?_;have hr:=GU.2 ⟨v,rfl,k3⟩;exact oA (LE.rd _ _ k3).all (oA (LE.rd _ _ hr).all (hQ tf' t' _ k1 k2 hr))
theorem lent44{l:List sA}{x:zA}{L:List nG}{Q:aB}(hx:lA tf 9 (l.map sA.d) x)(ho:vD yA.base tf t L)(hn:l.length<300000)(hl:∀y∈l,nU yA.base (Wq yA F rF) 20 y.e)(hQ:Dg yA.base tf L 9 (l.map sA.e) cZ Q):Wc yA F 44 [x] t Q:=by
 refine w44 ?_;unfold t44 uI uZ uW;refine Fm el34 (by simp_all) hx ho fun b t1 ho1=>zC ?_;have:=Pj (W:=Wq yA F rF) (J:=Jq yA F 44) (p:=2) (q:=6) (g:=20) (v0:=x) (Q:=Q) (l:=l.map sA.e) (b:=b) (tf0:=tf) (L:=L) el34 sP (by decide) (fun e he=>by
   obtain⟨r,_,rfl⟩:=yaq.1 he;rw[sA.ed];exact r.zs) (fun e he=>by
   grind) (by simp_all) (fun v i t hw=>j44_2 hw) (fun tf1 t1 hf ho1=>by
   have:=Fl (W:=Wq yA F rF) (J:=Jq yA F 44) (p:=6) (v0:=x) (Q:=Q) (l:=l.map sA.e) (m:=cZ) (tf0:=tf) (L:=L) (w:=fun i=>.agg [.int .u8 0,.str (dI i),.int .u8 0,.bool false,.nilslice,.bool false,.nilslice,.int .i64 0,.nilslice]) (cm:=fun i=>[.int .u8 0,.str (dI i),.int .u8 0,.bool false,.nilslice,.bool false,.nilslice,.int .i64 0,.nilslice]) el34 sP rfl (fun i hi=>⟨_,Ex hi,fun t=>Li (dI i)⟩) (fun i hi=>Jn el34 rfl (by decide))
    (fun i hi v t hw=>j44_6 (by
     unfold zgj uI uG sB iG uZ gE;refine oA (pF (by omega)) (yB ?_);rw[q80,pv80 hi,xA];exact fE (rG (Li (t:=t) (dI i)) (Gy (dI i)).zs) hw))
    (fun v t hw=>j44_6 (i0:=12) (by unfold zgj uI uG sB iG uZ gE;grind [bA,jF])) (by rw[hx.len,ybf,ybf]) hQ (b:=b) 12 0 tf1 t1 (by omega) hf
   simp_all) (by grind [qT,sA.ed]) l.length 0 tf t1 (by simp) (xB.refl _)
 simp_all
mutual
theorem Pk:∀(x:sA),sA.cpy x->nU yA.base (Wq yA F rF) 20 x.e
 | .mk op name v args,h=>by
  intro L tf t cs Q ho hd hQ;rw[sA.ed]at hd;obtain⟨a,b,c,rfl,ha,hb,hc⟩:=vI hd;simp only[sA.op,sA.name,sA.v,sA.args]at ha hb hc ⊢;unfold sA.cpy at h;rw[q20];refine w20 ?_;unfold t20 uG gC uZ uY;refine yB (lent43 h.1 ho (by grind [lE.ed,Jt]) fun tf1 t1 c1 k1 k2 k3=>?_);have r1:=LE.rd _ _ k3;have hz1:=rG r1 ((congrArg D.zs (lE.ed _)).trans (lE.zs _));have a1:=r1.all
  have k3':=k3;obtain⟨u1,v1,rfl,_⟩:=Pn.1 k3';refine fE hz1 (oA a1 (yB ?_));rw[q44];refine lent44 (hc.mono k1) k2 h.2.1 (GL args h.2.2) fun tf2 t2 v2 m1 m2 m3=>?_;have hr:=(GV (op:=op) (name:=name)).2 ⟨u1,v1,v2,rfl,LE.mono m1 _ _ k3,m3⟩;exact oA (LE.rd _ _ m3).all (oA (LE.rd _ _ hr).all (hQ tf2 t2 _ (k1.trans m1) m2 hr))
theorem GL:∀(l:List sA),sA.cpys l->∀x∈l,nU yA.base (Wq yA F rF) 20 x.e
 | [],_,x,hx=>by cases hx
 | y::l,h,x,hx=>by
  unfold sA.cpys at h;rcases ybs.1 hx with e | hx
  ·rw[e];exact Pk y h.1
  ·exact GL l h.2 x hx
end
theorem lent77{x:dD}(h1:sA.cpy x.when_)(h2:sA.cpy x.then_):nU yA.base (Wq yA F rF) 77 x.e:=by
 intro L tf t cs Q ho hd hQ;rw[dD.ed]at hd;obtain⟨a,b,c,a',b',c',rfl,hw,ht⟩:=Jf hd;rw[q77];refine w77 ?_;unfold t77 uG gC uZ uY tN;refine yB (Pk _ h1 ho (by rw[sA.ed];exact hw) fun tf1 t1 c1 k1 k2 k3=>?_);have r1:=LE.rd _ _ k3;have hz1:=rG r1 ((congrArg D.zs (sA.ed _)).trans (sA.zs _));have a1:=r1.all;have r1':=r1;rw[sA.ed]at r1';obtain⟨u1,u2,u3,rfl,_⟩:=vI r1'
 refine fE hz1 (oA a1 (yB (Pk _ h2 k2 (by rw[sA.ed];exact RD.mono k1 _ _ ht) fun tf2 t2 c2 m1 m2 m3=>?_)));have r2:=LE.rd _ _ m3;have hz2:=rG r2 ((congrArg D.zs (sA.ed _)).trans (sA.zs _));have a2:=r2.all;have r2':=r2;rw[sA.ed]at r2';obtain⟨v1,v2,v3,rfl,_⟩:=vI r2';have hr:=GW.2 ⟨_,_,rfl,LE.mono m1 _ _ k3,m3⟩;exact fE hz2 (oA a2 (oA (LE.rd _ _ hr).all (hQ tf2 t2 _ (k1.trans m1) m2 hr)))
theorem lent42{l:List dD}{x:zA}{L:List nG}{Q:aB}(hx:lA tf 24 (l.map dD.d) x)(ho:vD yA.base tf t L)(hn:l.length<300000)(hl:∀y∈l,sA.cpy y.when_/\sA.cpy y.then_)(hQ:Dg yA.base tf L 24 (l.map dD.e) Aa Q):Wc yA F 42 [x] t Q:=by
 refine w42 ?_;unfold t42 uI uZ uW;refine Fm el24 (by simp_all) hx ho fun b t1 ho1=>zC ?_;have:=Pj (W:=Wq yA F rF) (J:=Jq yA F 42) (p:=2) (q:=6) (g:=77) (v0:=x) (Q:=Q) (l:=l.map dD.e) (b:=b) (tf0:=tf) (L:=L) el24 Ei (by decide) (fun e he=>by
   obtain⟨r,_,rfl⟩:=yaq.1 he;rw[dD.ed];exact r.zs) (fun e he=>by
   grind [lent77]) (by simp_all) (fun v i t hw=>j42_2 hw) (fun tf1 t1 hf ho1=>by
   have:=Fl (W:=Wq yA F rF) (J:=Jq yA F 42) (p:=6) (v0:=x) (Q:=Q) (l:=l.map dD.e) (m:=Aa) (tf0:=tf) (L:=L) (w:=fun i=>.agg ([.str [],.str (dI i),.int .i64 0,.int .i64 0,.int .i64 0,.bool false]++([.int .u8 0,.str [],.int .u8 0,.bool false,.nilslice,.bool false,.nilslice,.int .i64 0,.nilslice]++[.int .u8 0,.str [],.int .u8 0,.bool false,.nilslice,.bool false,.nilslice,.int .i64 0,.nilslice]))) (cm:=fun i=>([.str [],.str (dI i),.int .i64 0,.int .i64 0,.int .i64 0,.bool false]++([.int .u8 0,.str [],.int .u8 0,.bool false,.nilslice,.bool false,.nilslice,.int .i64 0,.nilslice]++[.int .u8 0,.str [],.int .u8 0,.bool false,.nilslice,.bool false,.nilslice,.int .i64 0,.nilslice]))) el24 Ei rfl (fun i hi=>⟨_,Ex hi,fun t=>Yw i⟩) (fun i hi=>Jn el24 rfl (by decide))
    (fun i hi v t hw=>j42_6 (by
     unfold zgk uI uG sB iG uZ zO;refine oA (pF (by omega)) (yB ?_);rw[q78,pv78 hi,xA];exact fE (rG (Yw (t:=t) i) (Gp i).zs) hw))
    (fun v t hw=>j42_6 (i0:=12) (by unfold zgk uI uG sB iG uZ zO;grind [bA,jF])) (by rw[hx.len,ybf,ybf]) hQ (b:=b) 12 0 tf1 t1 (by omega) hf
   simp_all) (by grind [qT,dD.ed]) l.length 0 tf t1 (by simp) (xB.refl _)
 simp_all
theorem lent41{l:List wD}{x:zA}{L:List nG}{Q:aB}(hx:lA tf 3 (l.map wD.d) x)(ho:vD yA.base tf t L)(hn:l.length<300000)(hl:∀y∈l,y.rows.length<300000/\∀r∈y.rows,r.f.n.limbs.length<300000/\r.f.d.limbs.length<300000)(hQ:Dg yA.base tf L 3 (l.map wD.e) dY Q):Wc yA F 41 [x] t Q:=by
 refine w41 ?_;unfold t41 uI uZ uW;refine Fm el23 (by simp_all) hx ho fun b t1 ho1=>zC ?_;have:=Pj (W:=Wq yA F rF) (J:=Jq yA F 41) (p:=2) (q:=6) (g:=75) (v0:=x) (Q:=Q) (l:=l.map wD.e) (b:=b) (tf0:=tf) (L:=L) el23 nW (by decide) (fun e he=>by
   obtain⟨r,_,rfl⟩:=yaq.1 he;rw[wD.ed];exact r.zs) (fun e he=>by
   grind [lent75]) (by simp_all) (fun v i t hw=>j41_2 hw) (fun tf1 t1 hf ho1=>by
   have:=Fl (W:=Wq yA F rF) (J:=Jq yA F 41) (p:=6) (v0:=x) (Q:=Q) (l:=l.map wD.e) (m:=dY) (tf0:=tf) (L:=L) (w:=fun i=>.agg [.str (dI i),.bool false,.nilslice]) (cm:=fun i=>[.str (dI i),.bool false,.nilslice]) el23 nW rfl (fun i hi=>⟨_,Ex hi,fun t=>So i⟩) (fun i hi=>Jn el23 rfl (by decide))
    (fun i hi v t hw=>j41_6 (by
     unfold zgl uI uG sB iG uZ fI;refine oA (pF (by omega)) (yB ?_);rw[q76,pv76 hi,xA];exact fE (rG (So (t:=t) i) (Eb i).zs) hw))
    (fun v t hw=>j41_6 (i0:=12) (by unfold zgl uI uG sB iG uZ fI;grind [bA,jF])) (by rw[hx.len,ybf,ybf]) hQ (b:=b) 12 0 tf1 t1 (by omega) hf
   simp_all) (by grind [qT,wD.ed]) l.length 0 tf t1 (by simp) (xB.refl _)
 simp_all
theorem lent40{l:List nE}{x:zA}{L:List nG}{Q:aB}(hx:lA tf 3 (l.map nE.d) x)(ho:vD yA.base tf t L)(hn:l.length<300000)(hQ:Dg yA.base tf L 3 (l.map nE.e) aZ Q):Wc yA F 40 [x] t Q:=by
 refine w40 ?_;unfold t40 uI uZ uW;refine Fm el22 (by simp_all) hx ho fun b t1 ho1=>?_;refine GM el22 (by omega) hx ho1 fun t2 ho2=>zC ?_;have:=Fl (W:=Wq yA F rF) (J:=Jq yA F 40) (p:=2) (v0:=x) (Q:=Q) (l:=l.map nE.e) (m:=aZ) (tf0:=tf) (L:=L) (w:=fun i=>.agg [.str (dI i),.int .u8 0,.bool false]) (cm:=fun i=>[.str (dI i),.int .u8 0,.bool false]) el22 mW rfl (fun i hi=>⟨_,Ex hi,fun t=>Ys i⟩) (fun i hi=>Jn el22 rfl (by decide))
  (fun i hi v t hw=>j40_2 (by
   unfold zgm uI uG sB iG uZ wL;refine oA (pF (by omega)) (yB ?_);rw[q74,pv74 hi,xA];exact fE (rG (Ys (t:=t) i) (defM i).zs) hw))
  (fun v t hw=>j40_2 (i0:=12) (by unfold zgm uI uG sB iG uZ wL;grind [bA,jF])) (by rw[hx.len,ybf,ybf]) hQ (b:=b) 12 0 tf t2 (by omega) (xB.refl _)
 simp only[ybf,List.take_zero,List.map_nil,ycd,yct,List.map_map]at this ho2 ⊢;exact this ho2
def lent19{p:qD}(hp:qD.cpy p):nU yA.base (Wq yA F rF) 19 p.e:=by
 intro L tf t cs Q ho hd hQ;rw[qD.ed]at hd;obtain⟨a,b,c,rfl,ha,hb,hc⟩:=wO hd;rw[q19];refine w19 ?_;unfold t19 gC;refine yB ?_;rw[q40];refine lent40 ha ho hp.defs fun tf1 t1 a1 k1 k2 k3=>oA (LE.rd _ _ k3).all (yB ?_);rw[q41];refine lent41 (hb.mono k1) k2 hp.tables hp.rows fun tf2 t2 b1 m1 m2 m3=>oA (LE.rd _ _ m3).all (yB ?_);rw[q42];refine lent42 (hc.mono (k1.trans m1)) m2 hp.clauses hp.exprs fun tf3 t3 c1 n1 n2 n3=>oA (LE.rd _ _ n3).all ?_
 have hr:=Wt.2 ⟨a1,b1,c1,rfl,LE.mono (m1.trans n1) _ _ k3,LE.mono n1 _ _ m3,n3⟩;exact oA (LE.rd _ _ hr).all (hQ tf3 t3 _ (k1.trans (m1.trans n1)) n2 hr)
end
section
variable [lC]
variable {t tf:Tr qA}
def Pd:List Nat:=(List.range 12).map fun i=>(8000024+i)%65536
theorem kep166{l:List Nat}{u v:zA}(hn:l.length<300000)(hu:LE t (.sl 1 ((cC l).map E.pl) sX) [u])(hv:lA t 1 (cC l) v):rB yA F 166 [u,v] t=some (.bool true):=by
 refine dB.2 (w166 ?_);unfold t166 uI aA uZ uW;refine Fq wI hu rfl (by grind [Oc]) (by grind [iN]) fun v5 cl cm h5 h6 h7=>?_;have hm:sX=cC Pd:=rfl;have h8:lA t 1 (cC (l++Pd)) v5:=by
  refine⟨_,h5,?_⟩;have e:cC (l++Pd)=E.ds ((cC l).map E.pl++sX.map E.pl):=by
   rw[E.ds_map,List.map_append,Oc,Oc,hm];unfold cC;rw[List.map_append]
  rw[e];exact rE.rd _ _ (h6.app (Lv.2 h7))
 have hn5:cA v5=some (.int .i64 ((l.length+12:Nat):Int)):=by
  rw[h8.len,iN,ybg];rfl
 have hn1:cA v=some (.int .i64 (l.length:Int)):=by rw[hv.len,iN]
 have loop:∀(k i:Nat),i+k=l.length+12->jp 166 2 [v,v5,.int .i64 (i:Int)] t (fun v' t'=>v'=.bool true/\t'=t):=by
  intro k;induction k with
  | zero=>
   intro i hi;refine zfa ?_;unfold Tu uI uH wB rA sB aA zF uZ uW;exact uA hn5 (zB (bA (jF (by omega)) ⟨rfl,rfl⟩))
  | succ k ih=>
   intro i hi;have next:wp 166 (.jump 2 [v,v5,.int .i64 (jA .i64 ((i:Int)+1))]) t (fun v' t'=>v'=.bool true/\t'=t):=by
    refine zC ?_;rw[wrap_i64 (by omega) (by omega)];exact ih (i+1) (by omega)
   refine zfa ?_;unfold Tu uI uH wB rA sB aA zF uZ uW;refine uA hn5 (zB (oA (pF (by omega)) (uA hn1 (zB ?_))));by_cases hlt:i<l.length
   ·obtain⟨x,hx⟩:=getElem?_of_lt hlt;obtain⟨p,o,g1,g2⟩:=lA.idx (C:=yA) wI h8 (i:=i) (x:=x) (by grind);obtain⟨p',o',g3,g4⟩:=lA.idx (C:=yA) wI hv hx
    grind [oA,uA,yC,zB,bA,oN,nLe]
   ·have hi2:i-l.length<12:=by omega
    obtain⟨p,o,g1,g2⟩:=lA.idx (C:=yA) wI h8 (i:=i) (x:=(8000024+(i-l.length))%65536) (by
     simp_all [ybp,Pd])
    refine bA (jF (by omega)) (uA hn1 (zB (oA (yLe (by omega)) (uA g1 (yC g2 (zB (uA hn1 (zB (yB ?_)))))))));rw[wrap_i64 (n:=(i:Int)-(l.length:Int)) (by omega) (by omega),show(i:Int)-(l.length:Int)=((i-l.length:Nat):Int) by omega,q137,zg1 hi2,xA]
    grind [zB,yC,oA,El,bA,zdl,oN]
 exact loop (l.length+12) 0 (by omega)
def rO{w:E}{d:D}{cs:List zA}(h:LE t w cs)(e:w.d=d):RD t d cs:=e ▸ LE.rd _ _ h
def zek{w:lF}{cs ds:List zA}(hl:w.limbs.length<300000)(h:LE t w.e cs)(k:RD t w.d ds):rB yA F 133 [.agg cs,.agg ds] t=some (.bool true):=by
 have h':=rO h w.ed;have k':=k;obtain⟨u,rfl,hu⟩:=pX.1 h;obtain⟨v,rfl,hv⟩:=Eu k;refine dB.2 (w133 ?_);unfold t133 uB aA;refine yB ?_;rw[q165,Up hl h' k',xA];refine rC (oA rfl (yB ?_));rw[q166,kep166 hl hu hv,xA];exact rC ⟨rfl,rfl⟩
def kep96{f:dC}{cs ds:List zA}(hl:f.n.limbs.length<300000/\f.d.limbs.length<300000)(h:LE t f.e cs)(k:RD t f.dd ds):rB yA F 96 [.agg cs,.agg ds] t=some (.bool true):=by
 have h':=rO h f.ed;have k':=k;obtain⟨a,b,rfl,ha,hb⟩:=Fo.1 h;obtain⟨a',b',rfl,ha',hb'⟩:=Ew k;refine dB.2 (w96 ?_);unfold t96 uB aA;refine yB ?_;rw[q132,Uq hl h' k',xA];refine rC (oA rfl (yB ?_));rw[q133,zek hl.1 (pX.2 ⟨a,rfl,ha⟩) (yX (w:=f.n) ha'),xA];refine rC (oA rfl (yB ?_));rw[q133,zek hl.2 (pX.2 ⟨b,rfl,hb⟩) (yX (w:=f.d) hb'),xA]
 exact rC ⟨rfl,rfl⟩
def kep52{x:lE}{cs ds:List zA}(hl:x.f.n.limbs.length<300000/\x.f.d.limbs.length<300000)(h:LE t x.e cs)(k:RD t x.d ds):rB yA F 52 [.agg cs,.agg ds] t=some (.bool true):=by
 have h':=rO h x.ed;have k':=k;obtain⟨a,b,rfl,hf⟩:=Pn.1 h;obtain⟨a',b',rfl,ha',hb'⟩:=Jd k;refine dB.2 (w52 ?_);unfold t52 uB aA uZ uY;refine yB ?_;rw[q94,sam94 hl h' k',xA];refine rC (oA rfl (yB ?_));rw[q96,kep96 hl hf (uV (f:=x.f) ha' hb'),xA];exact rC ⟨rfl,rfl⟩
def kep164{x:oE}{cs ds:List zA}(hl:x.f.n.limbs.length<300000/\x.f.d.limbs.length<300000)(h:LE t x.e cs)(k:RD t x.d ds):rB yA F 164 [.agg cs,.agg ds] t=some (.bool true):=by
 have h':=rO h x.ed;have k':=k;obtain⟨a,b,rfl,hf⟩:=zeg.1 h;obtain⟨a',b',rfl,ha',hb'⟩:=Je k;refine dB.2 (w164 ?_);unfold t164 uB aA uZ;refine yB ?_;rw[q102,Ur hl h' k',xA];refine rC (oA rfl (yB ?_));rw[q96,kep96 hl hf (uV (f:=x.f) ha' hb'),xA];exact rC ⟨rfl,rfl⟩
theorem tV{f:Nat->D}{d:D}(h:d∈(List.range 12).map f):∃i,d=f i:=by
 grind
theorem kep131{l:List oE}{u v:zA}(hn:l.length<300000)(hl:∀x∈l,x.f.n.limbs.length<300000/\x.f.d.limbs.length<300000)(hu:LE t (.sl 7 (l.map oE.e) cY) [u])(hv:lA t 7 (l.map oE.d) v):rB yA F 131 [u,v] t=some (.bool true):=by
 refine dB.2 (w131 ?_);unfold t131 uI aA uZ uW;have hv':lA t 7 ((l.map oE.e).map E.d) v:=by grind [qT,oE.ed]
 refine Fq Eh hu rfl hv' (by simp_all) fun v5 cl cm h5 h6 h7=>?_;refine Ki (C:=yA) (W:=Wq yA F rF) (J:=Jq yA F 131) (g:=kS 164) (s:=kS 102) (mk:=104) (l:=l.map oE.e) (m:=cY) Eh (fun e he=>?_) (fun d hd=>?_) (fun e he cs cs' K h1 h2 hK=>?_) (fun d hd cs cs' K h1 h2 hK=>?_) (fun i d hd=>?_) (by rw[ybf,show cY.length=12 from rfl];omega) (fun i hw=>j131_2 hw) h5 h6 h7 hv' ⟨rfl,rfl⟩ (l.length+12) 0 (by rw[ybf,show cY.length=12 from rfl];omega)
 ·obtain⟨x,_,rfl⟩:=yaq.1 he;exact(congrArg D.zs x.ed).trans x.zs
 ·obtain⟨i,rfl⟩:=tV hd;exact(Ep i).zs
 ·obtain⟨x,hx,rfl⟩:=yaq.1 he;refine yB ?_;rw[q164,kep164 (hl x hx) h1 (x.ed ▸ h2),xA];exact hK
 ·obtain⟨i,rfl⟩:=tV hd;refine yB ?_;rw[q102,Ur (x:=Ep i) ⟨by show 0<300000;omega,by show 0<300000;omega⟩ h1 h2,xA];exact hK
 ·obtain⟨hi,rfl⟩:=Jg hd;exact⟨_,Ux i,fun R hR=>by rw[q104,pv104 hi,xA];exact hR⟩
def kep91{x:wD}{cs ds:List zA}(hn:x.rows.length<300000)(hl:∀r∈x.rows,r.f.n.limbs.length<300000/\r.f.d.limbs.length<300000)(h:LE t x.e cs)(k:RD t x.d ds):rB yA F 91 [.agg cs,.agg ds] t=some (.bool true):=by
 have h':=rO h x.ed;have k':=k;obtain⟨a,rfl,ha⟩:=GU.1 h;obtain⟨b,rfl,hb⟩:=yZ k;refine dB.2 (w91 ?_);unfold t91 uB aA;refine yB ?_;rw[q31,zgs hn hl h' k',xA];refine rC (oA rfl (yB ?_));rw[q131,kep131 hn hl ha hb,xA];exact rC ⟨rfl,rfl⟩
theorem kep49{l:List wD}{u v:zA}(hn:l.length<300000)(hl:∀x∈l,x.rows.length<300000/\∀r∈x.rows,r.f.n.limbs.length<300000/\r.f.d.limbs.length<300000)(hu:LE t (.sl 3 (l.map wD.e) dY) [u])(hv:lA t 3 (l.map wD.d) v):rB yA F 49 [u,v] t=some (.bool true):=by
 refine dB.2 (w49 ?_);unfold t49 uI aA uZ uW;have hv':lA t 3 ((l.map wD.e).map E.d) v:=by grind [qT,wD.ed]
 refine Fq nW hu rfl hv' (by simp_all) fun v5 cl cm h5 h6 h7=>?_;refine Ki (C:=yA) (W:=Wq yA F rF) (J:=Jq yA F 49) (g:=kS 91) (s:=kS 31) (mk:=76) (l:=l.map wD.e) (m:=dY) nW (fun e he=>?_) (fun d hd=>?_) (fun e he cs cs' K h1 h2 hK=>?_) (fun d hd cs cs' K h1 h2 hK=>?_) (fun i d hd=>?_) (by rw[ybf,show dY.length=12 from rfl];omega) (fun i hw=>j49_2 hw) h5 h6 h7 hv' ⟨rfl,rfl⟩ (l.length+12) 0 (by rw[ybf,show dY.length=12 from rfl];omega)
 ·obtain⟨x,_,rfl⟩:=yaq.1 he;exact(congrArg D.zs x.ed).trans x.zs
 ·obtain⟨i,rfl⟩:=tV hd;exact(Eb i).zs
 ·obtain⟨x,hx,rfl⟩:=yaq.1 he;refine yB ?_;rw[q91,kep91 (hl x hx).1 (hl x hx).2 h1 (x.ed ▸ h2),xA];exact hK
 ·obtain⟨i,rfl⟩:=tV hd;refine yB ?_;rw[q31,zgs (x:=Eb i) (by show 0<300000;omega) (fun r hr=>by cases hr) h1 h2,xA];exact hK
 ·obtain⟨hi,rfl⟩:=Jg hd;exact⟨_,So i,fun R hR=>by rw[q76,pv76 hi,xA];exact hR⟩
theorem kep48{l:List nE}{u v:zA}(hn:l.length<300000)(hu:LE t (.sl 3 (l.map nE.e) aZ) [u])(hv:lA t 3 (l.map nE.d) v):rB yA F 48 [u,v] t=some (.bool true):=by
 refine dB.2 (w48 ?_);unfold t48 uI aA uZ uW;have hv':lA t 3 ((l.map nE.e).map E.d) v:=by grind [qT,nE.ed]
 refine Fq mW hu rfl hv' (by simp_all) fun v5 cl cm h5 h6 h7=>?_;refine Ki (C:=yA) (W:=Wq yA F rF) (J:=Jq yA F 48) (g:=fun a b K=>.opt ((zN .eql).f yA 44 (.tmp 31) (.tmp 35) (.agg a) (.agg b)) K) (s:=fun a b K=>.opt ((zN .eql).f yA 44 (.tmp 48) (.tmp 53) (.agg a) (.agg b)) K) (mk:=74) (l:=l.map nE.e) (m:=aZ) mW (fun e he=>?_) (fun d hd=>?_) (fun e he cs cs' K h1 h2 hK=>?_) (fun d hd cs cs' K h1 h2 hK=>?_) (fun i d hd=>?_) (by rw[ybf,show aZ.length=12 from rfl];omega) (fun i hw=>j48_2 hw) h5 h6 h7 hv' ⟨rfl,rfl⟩ (l.length+12) 0 (by rw[ybf,show aZ.length=12 from rfl];omega)
 ·obtain⟨x,_,rfl⟩:=yaq.1 he;exact(congrArg D.zs x.ed).trans x.zs
 ·obtain⟨i,rfl⟩:=tV hd;exact(defM i).zs
 ·obtain⟨x,hx,rfl⟩:=yaq.1 he;have e1:=wT (rO h1 x.ed);have e2:=wT (x:=x) h2
  grind [uA,LI]
 ·obtain⟨i,rfl⟩:=tV hd;have e1:=wT h1
  grind [wT,uA,LI]
 ·obtain⟨hi,rfl⟩:=Jg hd;exact⟨_,Ys i,fun R hR=>by rw[q74,pv74 hi,xA];exact hR⟩
def Ze(s:List Nat):sA.cpy (Gy s):=⟨⟨by decide,by decide⟩,by decide,trivial⟩
theorem kep53{l:List sA}{u v:zA}(hn:l.length<300000)(hl:∀x∈l,∀cs ds,LE t x.e cs->RD t x.d ds->rB yA F 25 [.agg cs,.agg ds] t=some (.bool true))(hu:LE t (.sl 9 (l.map sA.e) cZ) [u])(hv:lA t 9 (l.map sA.d) v):rB yA F 53 [u,v] t=some (.bool true):=by
 refine dB.2 (w53 ?_);unfold t53 uI aA uZ uW;have hv':lA t 9 ((l.map sA.e).map E.d) v:=by grind [qT,sA.ed]
 refine Fq sP hu rfl hv' (by simp_all) fun v5 cl cm h5 h6 h7=>?_;refine Ki (C:=yA) (W:=Wq yA F rF) (J:=Jq yA F 53) (g:=kS 25) (s:=kS 51) (mk:=80) (l:=l.map sA.e) (m:=cZ) sP (fun e he=>?_) (fun d hd=>?_) (fun e he cs cs' K h1 h2 hK=>?_) (fun d hd cs cs' K h1 h2 hK=>?_) (fun i d hd=>?_) (by rw[ybf,show cZ.length=12 from rfl];omega) (fun i hw=>j53_2 hw) h5 h6 h7 hv' ⟨rfl,rfl⟩ (l.length+12) 0 (by rw[ybf,show cZ.length=12 from rfl];omega)
 ·obtain⟨x,_,rfl⟩:=yaq.1 he;exact(congrArg D.zs x.ed).trans x.zs
 ·obtain⟨i,rfl⟩:=tV hd;exact(ziq i).zs
 ·obtain⟨x,hx,rfl⟩:=yaq.1 he;refine yB ?_;rw[q25,hl x hx _ _ h1 (x.ed ▸ h2),xA];exact hK
 ·obtain⟨i,rfl⟩:=tV hd;refine yB ?_;rw[q51,Iy (ziq i) (Ze _) _ _ h1 h2,xA];exact hK
 ·obtain⟨hi,rfl⟩:=Jg hd;exact⟨_,Li (dI i),fun R hR=>by rw[q80,pv80 hi,xA];exact hR⟩
mutual
def Ps:∀(x:sA),sA.cpy x->∀cs ds,LE t x.e cs->RD t x.d ds->rB yA F 25 [.agg cs,.agg ds] t=some (.bool true)
 | .mk op name v args,h0,cs,ds,h,k=>by
  have h':=rO h (sA.ed _);have k':=k;obtain⟨a,b,c,rfl,hv,hc⟩:=GV.1 h;obtain⟨a',b',c',rfl,ha',hb',hc'⟩:=vI k;have e51:=Iy _ h0 _ _ h' k';unfold fL at e51 ⊢;simp only[sA.op,sA.name,sA.v,sA.args]at ha' hb' hc' e51 ⊢;unfold sA.cpy at h0;refine dB.2 (w25 ?_);unfold t25 uB aA uZ uY;refine yB ?_;rw[q51,e51,xA];refine rC (oA rfl (yB ?_));rw[q52,kep52 h0.1 hv (Jt (x:=v) ha' hb'),xA]
  refine rC (oA rfl (yB ?_));rw[q53,kep53 h0.2.1 (zej args h0.2.2) hc hc',xA];exact rC ⟨rfl,rfl⟩
def zej:∀(l:List sA),sA.cpys l->∀x∈l,∀cs ds,LE t x.e cs->RD t x.d ds->rB yA F 25 [.agg cs,.agg ds] t=some (.bool true)
 | [],_,x,hx=>by cases hx
 | y::l,h,x,hx=>by
  unfold sA.cpys at h;rcases ybs.1 hx with e | hx
  ·rw[e];exact Ps y h.1
  ·exact zej l h.2 x hx
end
def kep92{x:dD}{cs ds:List zA}(hw:sA.cpy x.when_)(ht:sA.cpy x.then_)(h:LE t x.e cs)(k:RD t x.d ds):rB yA F 92 [.agg cs,.agg ds] t=some (.bool true):=by
 have h':=rO h x.ed;have k':=k;obtain⟨c1,c2,rfl,h1,h2⟩:=GW.1 h;have r1:=rO h1 (sA.ed _);have r2:=rO h2 (sA.ed _);obtain⟨u1,u2,u3,rfl,_⟩:=vI r1;obtain⟨w1,w2,w3,rfl,_⟩:=vI r2;obtain⟨a',b',c',d',e',f',rfl,k1,k2⟩:=Jf k;have e0:=zgr hw ht h' k';have e1:=Ps x.when_ hw _ _ h1 k1;have e2:=Ps x.then_ ht _ _ h2 k2;unfold fL at e0 e1 e2;refine dB.2 (w92 ?_);unfold t92 uB aA uZ uY;refine yB ?_
 simp only[List.cons_append,yah]at e0;rw[q93,e0,xA];refine rC (oA rfl (yB ?_));rw[q25,e1,xA];refine rC (oA rfl (yB ?_));rw[q25,e2,xA];exact rC ⟨rfl,rfl⟩
theorem kep50{l:List dD}{u v:zA}(hn:l.length<300000)(hl:∀x∈l,sA.cpy x.when_/\sA.cpy x.then_)(hu:LE t (.sl 24 (l.map dD.e) Aa) [u])(hv:lA t 24 (l.map dD.d) v):rB yA F 50 [u,v] t=some (.bool true):=by
 refine dB.2 (w50 ?_);unfold t50 uI aA uZ uW;have hv':lA t 24 ((l.map dD.e).map E.d) v:=by grind [qT,dD.ed]
 refine Fq Ei hu rfl hv' (by simp_all) fun v5 cl cm h5 h6 h7=>?_;refine Ki (C:=yA) (W:=Wq yA F rF) (J:=Jq yA F 50) (g:=kS 92) (s:=kS 93) (mk:=78) (l:=l.map dD.e) (m:=Aa) Ei (fun e he=>?_) (fun d hd=>?_) (fun e he cs cs' K h1 h2 hK=>?_) (fun d hd cs cs' K h1 h2 hK=>?_) (fun i d hd=>?_) (by rw[ybf,show Aa.length=12 from rfl];omega) (fun i hw=>j50_2 hw) h5 h6 h7 hv' ⟨rfl,rfl⟩ (l.length+12) 0 (by rw[ybf,show Aa.length=12 from rfl];omega)
 ·obtain⟨x,_,rfl⟩:=yaq.1 he;exact(congrArg D.zs x.ed).trans x.zs
 ·obtain⟨i,rfl⟩:=tV hd;exact(Gp i).zs
 ·obtain⟨x,hx,rfl⟩:=yaq.1 he;refine yB ?_;rw[q92,kep92 (hl x hx).1 (hl x hx).2 h1 (x.ed ▸ h2),xA];exact hK
 ·obtain⟨i,rfl⟩:=tV hd;refine yB ?_;rw[q93,zgr (x:=Gp i) (Ze _) (Ze _) h1 h2,xA];exact hK
 ·obtain⟨hi,rfl⟩:=Jg hd;exact⟨_,Yw i,fun R hR=>by rw[q78,pv78 hi,xA];exact hR⟩
def kep24{p:qD}{cs ds:List zA}(hp:qD.cpy p)(h:LE t p.e cs)(k:RD t p.d ds):rB yA F 24 [.agg cs,.agg ds] t=some (.bool true):=by
 have h':=rO h p.ed;have k':=k;obtain⟨a,b,c,rfl,ha,hb,hc⟩:=Wt.1 h;obtain⟨a',b',c',rfl,ha',hb',hc'⟩:=wO k;refine dB.2 (w24 ?_);unfold t24 uB aA;refine yB ?_;rw[q47,sam47 hp h' k',xA];refine rC (oA rfl (yB ?_));rw[q48,kep48 hp.defs ha ha',xA];refine rC (oA rfl (yB ?_));rw[q49,kep49 hp.tables hp.rows hb hb',xA];refine rC (oA rfl (yB ?_))
 rw[q50,kep50 hp.clauses hp.exprs hc hc',xA];exact rC ⟨rfl,rfl⟩
end
end Go.Proofs
namespace Go.Am
open Go Go.RowKit
section
variable {t tf:Tr qA}{C:dA}{base:Nat}
theorem At.whole{b off:Nat}{cs:List zA}{ty:Nat}{y:mC}(h:At t b off cs)(hy:C.tys.get ty=some y)(ha:y.desc.isAgg=true)(hn:y.size=cs.length):vC C ty ⟨0,t⟩ (.ptr b off)=some (.agg cs):=by
 have:=At.load (j:=0) h hy ha hn (by omega)
 simp_all
theorem vD.newCel{A B:List nG}{n:Nat}{t':Tr qA}{lo:Option Lo}{cs:List zA}(h:vD base tf t (A++B))(hn:t.get n=none)(hb:base<=n)(hc:kE t' n lo cs)(ht:xB t t')(ho:sE n t t'):vD base tf t' (A++gK n lo cs::B):=
 vD.add (o':=gK n lo cs) h (fun k hk=>ho k (fun e=>hk (by simp[gK,e]))) (fun k hk=>by
  grind [gK]) hc (by simp[gK]) (h.tle.trans ht)
def vD.cel{A B:List nG}{n:Nat}{lo:Option Lo}{cs:List zA}(h:vD base tf t (A++gK n lo cs::B)):kE t n lo cs:=h.ok (gK n lo cs) (by simp)
def vD.setCel{A B:List nG}{n j T:Nat}{lo:Option Lo}{cs:List zA}{y:mC}{v:zA}(h:vD C.base tf t (A++gK n lo cs::B))(hT:C.tys.get T=some y)(hl:v.cells.length=y.size)(hj:j+v.cells.length<=cs.length)(hone:eE zA.one v.cells=true) :
  ∃t',(∀q,tD C T (.ptr n j) v ⟨q,t⟩=some (xE,⟨q,t'⟩))/\vD C.base tf t' (A++gK n lo (lP cs j v.cells)::B):=by
 have hlow:=h.low n (by simp[gK]);obtain⟨t',s1,s2,s3⟩:=h.cel.store (C:=C) hlow.1 (j:=j) (v:=v) hT hl hj hone;exact⟨t',s1,vD.upd (o:=gK n lo cs) (o':=gK n lo (lP cs j v.cells)) h (fun k h1 _=>s3 k (fun e=>h1 (by simp[gK,e]))) (fun k hk=>.inl hk) s2 (by simp[gK]) (h.tle.off hlow.2 s3)⟩
end
end Go.Am
namespace Go.Proofs
open Go Go.Am
variable [lC]
variable {t tf:Tr qA}
mutual
theorem CE:∀(x:sA) (left:Int),x.ok->wJ x left<=left->(qM x:Int)<=wJ x left
 | .mk op name v args,left,hok,h=>by
  unfold sA.ok at hok;unfold wJ at h ⊢;unfold qM;have h1:(1:Int)<=(uM v.f:Int):=by grind [uM]
  have h2:(0:Int)<=(name.length:Int) / 30:=Int.ediv_nonneg (by omega) (by omega);have:=CC args left _ hok.2.2.2 (by omega) h;omega
theorem CC:∀(l:List sA) (left n:Int),sA.oks l->0<=n->rN l left n<=left->n+(uT l:Int)<=rN l left n
 | [],left,n,_,_,_=>by unfold rN uT;omega
 | x::l,left,n,hok,hn,h=>by
  unfold sA.oks at hok;unfold rN at h ⊢;unfold uT;split at h
  ·rename_i hle;rw[yab hle];have h1:=It x (left-n) hok.1;have h2:=Ej l left (n+wJ x (left-n)) hok.2 (by omega);have h3:=CC l left (n+wJ x (left-n)) hok.2 (by omega) h;have h4:=CE x (left-n) hok.1 (by omega);omega
  ·omega
end
theorem Bx{o:Option zA}{v:zA}{R:zA->Prop}(h:o=some v)(k:R v):oF o R:=by simp_all
theorem zci{p:qD}{x:sA}{cp cs:List zA}(hp:p.fit)(hx:x.fit)(hM:pL t)(hW:sQ t)(hcp:qD.cpy p)(hcx:sA.cpy x)(hn:qM x<1000000000000000000)(hrp:RD t p.d cp)(hr:RD t x.d cs):Wc yA F 9 [.agg cp,.agg cs] t (fun v _=>v=.bool true):=by
 have hrp0:=hrp;have hr0:=hr;obtain⟨u1,u2,u3,rfl,_⟩:=wO hrp;obtain⟨a,b,c,rfl,_⟩:=vI hr;refine w9 ?_;unfold t9 uI uU uB uG rA aA uX uZ uY gE xL;have o0:vD yA.base t t ([]++[]):=⟨xB.refl _,by simp,(fun o ho=>by cases ho),(fun k hk=>by cases hk)⟩;refine tG fun n0 h0 hb0=>?_;obtain⟨t1,e1,e2,e3,e4⟩:=Ag (C:=yA) ty26 h0;have o1:vD yA.base t t1 ([]++[gK n0 none [.str [],.nilslice,.nilslice,.nilslice]]):=vD.newCel (A:=[]) (B:=[]) o0 h0 hb0 e2 e3 e4
 refine⟨_,_,e1,tG fun n1 h1 hb1=>?_⟩;obtain⟨t2,f1,f2,f3,f4⟩:=Ag (C:=yA) Dz h1;have o2:vD yA.base t t2 [gK n1 none [(.int .u8 0),(.str []),(.int .u8 0),(.bool false),.nilslice,(.bool false),.nilslice,(.int .i64 0),.nilslice],gK n0 none [.str [],.nilslice,.nilslice,.nilslice]]:=vD.newCel (A:=[]) o1 h1 hb1 f2 f3 f4;refine⟨_,_,f1,yB ?_⟩;refine lent19 hcp o2 (by grind [qD.ed]) fun tf1 t3 c1 k1 k2 k3=>?_
 have r1:=rO k3 p.ed;refine fE (rG r1 p.zs) (oA hr0.sameA (yB ?_));refine Pk x hcx k2 (by grind [sA.ed,RD.mono]) fun tf2 t4 c2 m1 m2 m3=>?_;have r2:=rO m3 x.ed;refine fE (rG r2 x.zs) ?_;have k3':=k3;obtain⟨a1,b1,d1,rfl,_⟩:=Wt.1 k3';have r2':=r2;obtain⟨y1,y2,y3,rfl,_⟩:=vI r2';obtain⟨t5,s1,s2⟩:=vD.setCel (A:=[gK n1 none _]) (n:=n0) (j:=0) (v:=.agg [.str p.name,a1,b1,d1]) m2 ty26 rfl (by show 0+4<=4;decide) r1.all
 refine tG fun q _ _=>⟨_,_,s1 q,?_⟩;obtain⟨t6,s3,s4⟩:=vD.setCel (A:=[]) (n:=n1) (j:=0) (v:=.agg (fL x y1 y2 y3)) s2 Dz rfl (by show 0+9<=9;decide) r2.all;refine tG fun q _ _=>⟨_,_,s3 q,?_⟩;have o3:vD yA.base tf2 t6 ([gK n1 none (fL x y1 y2 y3)]++gK n0 none [.str p.name,a1,b1,d1]::[]):=s4;have g0:vC yA 26 ⟨0,t6⟩ (.ptr n0 0)=some (.agg [.str p.name,a1,b1,d1]):=(vD.cel (A:=[gK n1 none _]) o3).at.whole ty26 rfl rfl
 have g1:vC yA 36 ⟨0,t6⟩ (.ptr n1 0)=some (.agg (fL x y1 y2 y3)):=(vD.cel (A:=[]) o3).at.whole Dz rfl rfl;have hle:xB t t6:=(k1.trans m1).trans o3.tle;have L1:LE t6 p.e [.str p.name,a1,b1,d1]:=LE.mono (m1.trans o3.tle) _ _ k3;have L2:LE t6 x.e (fL x y1 y2 y3):=LE.mono o3.tle _ _ m3;have D1:=rO L1 p.ed;have D2:=rO L2 x.ed;have P1:=RD.mono hle _ _ hrp0;have P2:=RD.mono hle _ _ hr0;have A1:=rG D1 p.zs
 have A2:=rG D2 x.zs;refine yC g0 (fE A1 (yC g1 (fE A2 (yB ?_))));rw[q17];refine Bx (zhs hp hx (hM.mono hle) (hW.mono hle) D1 D2) (uA rfl (zB (uA rfl (zB (yB ?_)))));rw[q21];refine Bx (zbr hp hx P1 P2) (uA rfl (zB (uA rfl (zB (oA (wE.2 rfl) (oA (wE.2 rfl) ?_))))));refine yC g1 (fE A2 (yB ?_))
 rw[q22];refine Bx (EX x _ hx hn D2) (zB (oA P2.sameA (yB ?_)));rw[q23];refine Bx (DD x _ hx hn P2) (zB (oA (wE.2 rfl) (yC g0 (fE A1 (yB ?_)))));rw[q24];refine Bx (kep24 hcp L1 P1) (rC (oA rfl (yC g1 (fE A2 (yB ?_)))));rw[q25];exact Bx (Ps x hcx _ _ L2 P2) (rC rfl)
def PO{p:qD}{x:sA}{cp cs:List zA}(hp:p.fit)(hx:x.fit)(hM:pL t)(hW:sQ t)(hrp:RD t p.d cp)(hr:RD t x.d cs):Wc yA F 3 [.agg cp,.agg cs] t (fun v _=>v=.bool true):=by
 have hrp0:=hrp;have hr0:=hr;obtain⟨u1,u2,u3,rfl,_⟩:=wO hrp;obtain⟨a,b,c,rfl,_⟩:=vI hr;have h8:∀t,rB yA F 8 [] t=some (.bool true):=fun t=>Nu (g:=Oe) (by kernel_rfl) fun H=>rfl;refine w3 ?_;unfold t3 uI uB aA uZ uY;refine yB ?_;rw[q6,za7 hp hrp0,xA];refine zB ?_;by_cases h1:2000<Ng p
 ·refine oA (pF h1) (yB ?_);rw[q8,h8,xA];exact rC rfl
 refine bA (jF h1) (yB ?_);rw[q7];refine Bx (pv37 x 400 _ (sA.fit_ok hx) (by omega) (by omega) hr0) (zB ?_);by_cases h2:400<wJ x 400
 ·refine oA (pF h2) (yB ?_);rw[q8,h8,xA];exact rC rfl
 refine bA (jF h2) (yB ?_);have hpn:=CE x 400 (sA.fit_ok hx) (by omega);have hk:=zci hp hx hM hW (zbt hp (by omega)).1 (Qy x 400 (sA.fit_ok hx) (by omega) (by omega)) (by omega) hrp0 hr0;rw[q9];refine Wc.mono hk fun v t' hv=>?_;subst hv;refine rC (oA rfl (yB ?_));rw[q8,h8,xA];exact rC rfl
end Go.Proofs
namespace Go.Am
open Go Go.RowKit Go.Proofs
def tkinds3{w:World}(hL:aG w){cs ds:Array Value}{p:qD}{x:sA}(hp:p.fit)(hx:x.fit)(hh:Has w.heap.size cs.toList)(hrd:RD (yJ w) p.d (cs.toList.map (av w.heap.size)))
  (hk:Has w.heap.size ds.toList) (hr:RD (yJ w) x.d (ds.toList.map (av w.heap.size))) :
  Calls Tryz.prog 3 #[.agg cs,.agg ds] w fun e w'=>e=.returned (.bool true)/\Below w.heap.size w w':=
 PH hL 3 [.agg (cs.toList.map (av w.heap.size)),.agg (ds.toList.map (av w.heap.size))] _ (by intro _;kernel_rfl) (.cons (EQ hh) (.single (EQ hk))) ⟨_,PO hp hx (zih hL) (Xy hL) hrd hr,fun v t h=>h⟩
end Go.Am
