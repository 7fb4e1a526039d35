/- A closed call that returns data: run on its own, its value laid into another memory. -/
import Derived.Test.YtfofhjofkodoeaaGreatDoorA06
set_option linter.all false
noncomputable section
namespace Go.Am
open Go Go.RowKit
structure pK where
 v:zA
 bl:List Nat
 cs:List (List zA × Option Lo)
def eqLo:Option Lo->Option Lo->Bool
 | none,none=>true
 | some (.sz a),some (.sz b)=>Nat.beq a b
 | some (.ty a),some (.ty b)=>Nat.beq a b
 | _,_=>false
theorem ziu:∀ {a b:Option Lo},eqLo a b=true->a=b
 | none,none,_=>rfl
 | some (.sz a),some (.sz b),h=>by rw[oC.1 h]
 | some (.ty a),some (.ty b),h=>by rw[oC.1 h]
 | none,some _,h=>by cases h
 | some (.sz _),none,h=>by cases h
 | some (.ty _),none,h=>by cases h
 | some (.sz _),some (.ty _),h=>by cases h
 | some (.ty _),some (.sz _),h=>by cases h
def okS (bl:List Nat):Nat->zA->Bool
 | _,.bool _=>true
 | _,.int _ _=>true
 | _,.str _=>true
 | _,.nilslice=>true
 | _,.slice b _ _ _=>sH b bl
 | d+1,.agg l=>l.all (okS bl d)
 | d+1,.tup l=>l.all (okS bl d)
 | _,_=>false
def shV (f:Nat->Nat):Nat->zA->zA
 | _,.slice b o n c=>.slice (f b) o n c
 | d+1,.agg l=>.agg (l.map (shV f d))
 | d+1,.tup l=>.tup (l.map (shV f d))
 | _,v=>v
def idxN (b:Nat):List Nat->Nat
 | []=>0
 | x::l=>bif Nat.beq x b then 0 else idxN b l+1
def gN (H:wA):List qA->wA
 | []=>H
 | x::l=>gN (newBlk H x) l
def newS (n:Nat)(bl:List Nat)(b:Nat):Nat:=n+idxN b bl
def nO(n:Nat)(g:pK):List qA:=g.cs.map fun c=>.cells (Tr.ofList (c.1.map (shV (newS n g.bl) 9))) (oB c.1) c.2
def Kv(g:pK)(H:wA):zA × wA:=(shV (newS H.next g.bl) 9 g.v,gN H (nO H.next g))
def Ri(H:wA)(b:Nat)(c:List zA × Option Lo):Bool:=
 match H.t.get b with
 | some (.cells t n lo)=>Nat.beq n (oB c.1)&&(eqLo lo c.2&&(match t.many n 0 with | some l=>same 9 (.agg l) (.agg c.1) | none=>false))
 | _=>false
def Rh(H:wA):List Nat->List (List zA × Option Lo)->Bool
 | [],[]=>true
 | b::bl,c::cs=>Ri H b c&&Rh H bl cs
 | _,_=>false
def Qs:List Nat->Bool
 | []=>true
 | x::l => !sH x l&&Qs l
def Lb(g:pK):aE->Bool
 | .done v H=>same 9 v g.v&&(Rh H g.bl g.cs&&(Qs g.bl&&(g.bl.all (fun b=>Nat.ble 256 b)&&(okS g.bl 9 g.v&&g.cs.all fun c=>c.1.all (okS g.bl 9)))))
 | _=>false
theorem FV{b:Nat}:∀ {l:List Nat},sH b l=true ↔ b∈l:=by
 intro l;induction l with
 | nil=>simp[sH]
 | cons x l ih=>
  grind [sH,oC]
theorem JA{b:Nat}:∀ {l:List Nat},b∈l->idxN b l<l.length/\l[idxN b l]?=some b
 | [],h=>by cases h
 | x::l,h=>by
  unfold idxN
  cases hq:Nat.beq x b with
  | true=>simp_all
  | false=>
   have hx:b≠x:=fun e=>by simp_all
   obtain⟨h1,h2⟩:=JA ((ybs.1 h).resolve_left hx)
   simp_all
theorem Zl:∀(l:List qA) (H:wA),(gN H l).next=H.next+l.length
 | [],_=>rfl
 | x::l,H=>by
  rw[gN,Zl l];show H.next+1+l.length=_
  grind
theorem NM:∀(l:List qA) (H:wA) (a:Nat),(gN H l).t.get a=if H.next<=a/\a<H.next+l.length then l[a-H.next]? else H.t.get a
 | [],H,a=>by rw[yaa (by simp)];rfl
 | x::l,H,a=>by
  rw[gN,NM l];show(if H.next+1<=a/\a<H.next+1+l.length then l[a-(H.next+1)]? else(H.t.set H.next x).get a)=_
  grind [Tr.get_set]
section
variable {P:Program}{B N:Nat}{μ μ1 μ2:Mu}{H H1:wA}{w w':World}
theorem CN{bl:List Nat}{f:Nat->Nat}(hbl:∀b∈bl,256<=b)(hf:∀b i,b∈bl->μ1 b=some i->μ2 (f b)=some i):∀(d:Nat) (v:zA) (x:Value),okS bl d v=true->vA μ1 v x->vA μ2 (shV f d v) x:=by
 have hsl:∀ {b o n c:Nat} {x:Value},sH b bl=true->vA μ1 (.slice b o n c) x->vA μ2 (.slice (f b) o n c) x:=by
  grind [vA,FV]
 have hlist:∀(d:Nat),(∀(v:zA) (x:Value),okS bl d v=true->vA μ1 v x->vA μ2 (shV f d v) x)->∀(l:List zA) (m:List Value),l.all (okS bl d)=true->lB μ1 l m->lB μ2 (l.map (shV f d)) m:=by
  intro d ih l;induction l with
  | nil=>intro m _ h;rw[lB]at h;subst h;rw[List.map_nil,lB]
  | cons a l ihl=>
   grind [lB]
 intro d;induction d with
 | zero=>
  intro v x ho h
  cases v with
  | bool b=>exact h
  | int k n=>exact h
  | str s=>exact h
  | nilslice=>exact h
  | slice b o n c=>exact hsl ho h
  | _=>cases ho
 | succ d ih=>
  intro v x ho h
  cases v with
  | bool b=>exact h
  | int k n=>exact h
  | str s=>exact h
  | nilslice=>exact h
  | slice b o n c=>exact hsl ho h
  | agg l=>
   rw[vA]at h;obtain⟨cs,rfl,h⟩:=h;show vA μ2 (.agg (l.map (shV f d))) _;rw[vA];exact⟨cs,rfl,hlist d ih l _ ho h⟩
  | tup l=>
   rw[vA]at h;obtain⟨cs,rfl,h⟩:=h;show vA μ2 (.tup (l.map (shV f d))) _;rw[vA];exact⟨cs,rfl,hlist d ih l _ ho h⟩
  | _=>cases ho
theorem MM:∀ {bl:List Nat} {cs:List (List zA × Option Lo)},Rh H bl cs=true->bl.length=cs.length/\∀(k b:Nat) (c:List zA × Option Lo),bl[k]?=some b->cs[k]?=some c->Ri H b c=true
 | [],[],_=>⟨rfl,fun k b c h=>by simp at h⟩
 | [],_::_,h=>by cases h
 | _::_,[],h=>by cases h
 | b::bl,c::cs,h=>by
  unfold Rh at h;rw[ybb]at h;obtain⟨h1,h2⟩:=MM h.2
  grind
theorem KZ:∀ {l:List Nat},Qs l=true->∀(i j b:Nat),l[i]?=some b->l[j]?=some b->i=j
 | [],_,i,j,b,h,_=>by simp at h
 | x::l,h,i,j,b,hi,hj=>by
  unfold Qs at h;rw[ybb,ycp]at h;have hx:∀k,l[k]?≠some x:=fun k e=>by
   have:=FV.2 (ycv e)
   simp_all
  cases i with
  | zero=>
   grind
  | succ i=>
   cases j with
   | zero=>simp_all
   | succ j=>simp at hi hj;rw[KZ h.2 i j b hi hj]
theorem ZH{b:Nat}{c:List zA × Option Lo}(h:Ri H b c=true):∃t,H.t.get b=some (.cells t c.1.length c.2)/\∀(j:Nat) a,c.1[j]?=some a->t.get j=some a:=by
 grind [Ri,ziu,Em,Tr.many_some]
theorem zcr{g:pK}{v:zA}{x:Value}(hH:mB B N μ H w)(hb:Below w.heap.size w w')(h1:mB 256 w.heap.size μ1 H1 w')(hv:vA μ1 v x)(hend:Lb g (.done v H1)=true) :
  ∃ μ',μ.le μ'/\mB B N μ' (Kv g H).2 w'/\vA μ' (Kv g H).1 x:=by
 unfold Lb at hend;simp only[ybb]at hend;obtain⟨e1,e2,e3,e4,e5,e6⟩:=hend;have e1:=Em _ _ _ e1;subst e1;obtain⟨hlen,hget⟩:=MM e2;have hbl:∀b∈g.bl,256<=b:=fun b hb=>mE.1 (ycb.1 e4 b hb);have hH':=hH.below hb
 let μ':Mu:=⟨fun a=>if H.next<=a/\a<H.next+g.bl.length then(match g.bl[a-H.next]? with | some b=>μ1 b | none=>none)else μ a,μ.pd⟩
 have hle:μ.le μ':=⟨fun a i hi=>by
  have hlt:=hH.lt hi
  grind,rfl⟩
 have hnew:∀b i,b∈g.bl->μ1 b=some i->μ' (newS H.next g.bl b)=some i:=by
  intro b i hm hi;obtain⟨k1,k2⟩:=JA hm
  grind [newS]
 have hnb:(nO H.next g).length=g.bl.length:=by unfold nO;rw[ybf,hlen]
 have hgetN:∀a,(gN H (nO H.next g)).t.get a=if H.next<=a/\a<H.next+g.bl.length then(nO H.next g)[a-H.next]? else H.t.get a:=by
  intro a;rw[NM,hnb]
 have hinfo:∀a x i,H.next<=a/\a<H.next+g.bl.length->(gN H (nO H.next g)).t.get a=some x->μ' a=some i →
   ∃b c t,g.bl[a-H.next]?=some b/\g.cs[a-H.next]?=some c/\μ1 b=some i/\256<=b/\H1.t.get b=some (.cells t c.1.length c.2)/\(∀(j:Nat) a,c.1[j]?=some a->t.get j=some a)/\x=.cells (Tr.ofList (c.1.map (shV (newS H.next g.bl) 9))) (oB c.1) c.2:=by
  intro a x i ha hx hi;have hk:a-H.next<g.bl.length:=by omega
  have hb0:g.bl[a-H.next]?=some g.bl[a-H.next]:=ybd hk;have hc0:g.cs[a-H.next]?=some g.cs[a-H.next]:=ybd (by omega);have hi':(if H.next<=a/\a<H.next+g.bl.length then(match g.bl[a-H.next]? with | some b=>μ1 b | none=>none)else μ a)=some i:=hi
  rw[yab ha,hb0]at hi';obtain⟨t,t1,t2⟩:=ZH (hget _ _ _ hb0 hc0);refine⟨_,_,t,hb0,hc0,hi',hbl _ (ycv hb0),t1,t2,?_⟩
  grind [nO]
 refine⟨μ',hle,⟨hH.base,fun q hq=>?_,fun a x i ha hx hi=>?_,?_,Nat.le_trans hH.size hb.size,fun a ha=>?_,fun a x i hx hi=>?_,fun a i ha hi=>?_,fun a b x y i j hx hy hi hj ha hb' hij=>?_,fun a x t ht=>?_⟩,CN hbl hnew 9 _ _ e5 hv⟩
 ·exact hle _ _ (hH.glob q hq)
 ·have hnx:=hH.next;have hx':H.t.get a=some x:=by
   have hx:(gN H (nO H.next g)).t.get a=some x:=hx
   grind
  have hi':(if H.next<=a/\a<H.next+g.bl.length then(match g.bl[a-H.next]? with | some b=>μ1 b | none=>none)else μ a)=some i:=hi
  rw[yaa (by omega)]at hi';exact hH.low a x i ha hx' hi'
 ·show B<=(gN H (nO H.next g)).next;rw[Zl];have:=hH.next;omega
 ·have ha:H.next+g.bl.length<=a:=by
   have ha:(gN H (nO H.next g)).next<=a:=ha
   grind [Zl]
  obtain⟨f1,f2⟩:=hH.fresh a (by omega);refine⟨?_,?_⟩
  ·grind
  ·show(gN H (nO H.next g)).t.get a=none
   grind
 ·have hx:(gN H (nO H.next g)).t.get a=some x:=hx;by_cases ha:H.next<=a/\a<H.next+g.bl.length
  ·obtain⟨b,c,t,k1,k2,k3,k4,k5,k6,rfl⟩:=hinfo a x i ha hx hi;obtain⟨o,o1,o2⟩:=h1.blk b _ i k5 k3;refine⟨o,o1,?_⟩;obtain⟨cs,elem,fr,q1,q2,q3,q4,q5⟩:=o2;refine⟨cs,elem,fr,q1,by grind [pD],q3,fun j u hj=>?_,q5⟩;rw[Tr.get_ofList,ybu]at hj
   cases hcj:c.1[j]? with
   | none=>simp_all
   | some u0=>
    rw[hcj]at hj;obtain⟨p1,v',p2,p3⟩:=q4 j u0 (k6 j u0 hcj);refine⟨by grind [pD],v',p2,?_⟩;have hok:okS g.bl 9 u0=true:=by
     grind
    grind [CN]
  ·rw[hgetN,yaa ha]at hx;have hi':(if H.next<=a/\a<H.next+g.bl.length then(match g.bl[a-H.next]? with | some b=>μ1 b | none=>none)else μ a)=some i:=hi
   rw[yaa ha]at hi';obtain⟨o,o1,o2⟩:=hH'.blk a x i hx hi';exact⟨o,o1,o2.mono hle⟩
 ·have hi':(if H.next<=a/\a<H.next+g.bl.length then(match g.bl[a-H.next]? with | some b=>μ1 b | none=>none)else μ a)=some i:=hi
  by_cases hc:H.next<=a/\a<H.next+g.bl.length
  ·rw[yab hc]at hi';have hk:a-H.next<g.bl.length:=by omega
   have hb0:g.bl[a-H.next]?=some g.bl[a-H.next]:=ybd hk;rw[hb0]at hi';obtain⟨p1,p2,p3⟩:=h1.own _ i (hbl _ (ycv hb0)) hi';have:=hH.size
   grind
  ·rw[yaa hc]at hi';obtain⟨p1,p2,p3⟩:=hH.own a i ha hi';exact⟨p1,Nat.lt_of_lt_of_le p2 hb.size,p3⟩
 ·have hx:(gN H (nO H.next g)).t.get a=some x:=hx;have hy:(gN H (nO H.next g)).t.get b=some y:=hy;have hi':(if H.next<=a/\a<H.next+g.bl.length then(match g.bl[a-H.next]? with | some b=>μ1 b | none=>none)else μ a)=some i:=hi
  have hj':(if H.next<=b/\b<H.next+g.bl.length then(match g.bl[b-H.next]? with | some b=>μ1 b | none=>none)else μ b)=some j:=hj
  by_cases hca:H.next<=a/\a<H.next+g.bl.length
  ·obtain⟨b1,c1,t1,k1,k2,k3,k4,k5,_⟩:=hinfo a x i hca hx hi;by_cases hcb:H.next<=b/\b<H.next+g.bl.length
   ·obtain⟨b2,c2,t2,l1,l2,l3,l4,l5,_⟩:=hinfo b y j hcb hy hj;have:=h1.inj b1 b2 _ _ i j k5 l5 k3 l3 k4 l4 hij
    grind [KZ]
   ·rw[yaa hcb]at hj';have q1:=(hH.own b j hb' hj').2.1;have q2:=(h1.own b1 i k4 k3).1;omega
  ·rw[yaa hca]at hi';rw[hgetN,yaa hca]at hx;by_cases hcb:H.next<=b/\b<H.next+g.bl.length
   ·obtain⟨b2,c2,t2,l1,l2,l3,l4,l5,_⟩:=hinfo b y j hcb hy hj;have q1:=(hH.own a i ha hi').2.1;have q2:=(h1.own b2 j l4 l3).1;omega
   ·rw[yaa hcb]at hj';rw[hgetN,yaa hcb]at hy;exact hH.inj a b x y i j hx hy hi' hj' ha hb' hij
 ·obtain⟨p1,p2,p3⟩:=hH.pnd a x t ht;have hlt:a<H.next:=by
   rcases yau a H.next with h | h
   ·exact h
   ·have:=(hH.fresh a h).2;simp_all
  refine⟨?_,?_,p3⟩
  ·grind
  ·show(gN H (nO H.next g)).t.get a=some x
   grind
end
end Go.Am
