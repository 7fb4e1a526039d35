/- A closed call that returns data: run on its own, its value laid into another memory. -/
import Derived.Test.YtfijloeeppcipaaGreatDoorG07
set_option linter.all false
noncomputable section
namespace Go.Am
open Go Go.RowKit
structure cI where
 v:zA
 bl:List Nat
 cs:List (List zA × Option Lo)
def eqLo:Option Lo->Option Lo->Bool
 | none,none=>true
 | some (.sz a),some (.sz b)=>Nat.beq a b
 | some (.ty a),some (.ty b)=>Nat.beq a b
 | _,_=>false
def zza5:∀ {a b:Option Lo},eqLo a b=true->a=b
 | none,none,_=>rfl
 | some (.sz a),some (.sz b),h=>by rw[fB.1 h]
 | some (.ty a),some (.ty b),h=>by rw[fB.1 h]
 | none,some _,h=>by cases h
 | some (.sz _),none,h=>by cases h
 | some (.ty _),none,h=>by cases h
 | some (.sz _),some (.ty _),h=>by cases h
 | some (.ty _),some (.sz _),h=>by cases h
def okS (bl:List Nat):Nat->zA->Bool
 | _,.bool _=>true
 | _,.int _ _=>true
 | _,.str _=>true
 | _,.nilslice=>true
 | _,.slice b _ _ _=>aE b bl
 | d+1,.agg l=>l.all (okS bl d)
 | d+1,.tup l=>l.all (okS bl d)
 | _,_=>false
def shV (f:Nat->Nat):Nat->zA->zA
 | _,.slice b o n c=>.slice (f b) o n c
 | d+1,.agg l=>.agg (l.map (shV f d))
 | d+1,.tup l=>.tup (l.map (shV f d))
 | _,v=>v
def zzao (b:Nat):List Nat->Nat
 | []=>0
 | x::l=>bif Nat.beq x b then 0 else zzao b l+1
def znh (H:xA):List rA->xA
 | []=>H
 | x::l=>znh (newBlk H x) l
def newS (n:Nat)(bl:List Nat)(b:Nat):Nat:=n+zzao b bl
def lL(n:Nat)(g:cI):List rA:=g.cs.map fun c=>.cells (Tr.ofList (c.1.map (shV (newS n g.bl) 9))) (yB c.1) c.2
def zeo(g:cI)(H:xA):zA × xA:=(shV (newS H.next g.bl) 9 g.v,znh H (lL H.next g))
def z6d(H:xA)(b:Nat)(c:List zA × Option Lo):Bool:=
 match H.t.get b with
 | some (.cells t n lo)=>Nat.beq n (yB c.1)&&(eqLo lo c.2&&(match t.many n 0 with | some l=>same 9 (.agg l) (.agg c.1) | none=>false))
 | _=>false
def zsy(H:xA):List Nat->List (List zA × Option Lo)->Bool
 | [],[]=>true
 | b::bl,c::cs=>z6d H b c&&zsy H bl cs
 | _,_=>false
def zav:List Nat->Bool
 | []=>true
 | x::l => !aE x l&&zav l
def z01(g:cI):rE->Bool
 | .done v H=>same 9 v g.v&&(zsy H g.bl g.cs&&(zav g.bl&&(g.bl.all (fun b=>Nat.ble 256 b)&&(okS g.bl 9 g.v&&g.cs.all fun c=>c.1.all (okS g.bl 9)))))
 | _=>false
def zg0{b:Nat}:∀ {l:List Nat},aE b l=true ↔ b∈l:=by
 intro l;induction l with
 | nil=>simp[aE]
 | cons x l ih=>
  unfold aE at ih ⊢
  simp only[ybs];rw[<- ih];constructor
  ·intro h
   by_cases e:b=x
   ·exact .inl e
   ·right
    have:Nat.beq b x=false:=by
     cases hq:Nat.beq b x with
     | true=>exact absurd (fB.1 hq) e
     | false=>rfl
    simp only[this]at h;exact h
  ·rintro(rfl | h)
   ·simp only[fB.2 rfl,cond_true]
   ·cases Nat.beq b x with
    | true=>rfl
    | false=>exact h
def zsa{b:Nat}:∀ {l:List Nat},b∈l->zzao b l<l.length/\l[zzao b l]?=some b
 | [],h=>by cases h
 | x::l,h=>by
  unfold zzao
  cases hq:Nat.beq x b with
  | true=>exact⟨by simp,by simp[fB.1 hq]⟩
  | false=>
   have hx:b≠x:=fun e=>by rw[e,fB.2 rfl]at hq;cases hq
   obtain⟨h1,h2⟩:=zsa ((ybs.1 h).resolve_left hx)
   exact⟨by simpa using h1,by simpa using h2⟩
def zfb:∀(l:List rA) (H:xA),(znh H l).next=H.next+l.length
 | [],_=>rfl
 | x::l,H=>by
  rw[znh,zfb l];show H.next+1+l.length=_
  rw[ybn];omega
def zs1:∀(l:List rA) (H:xA) (a:Nat),(znh H l).t.get a=if H.next<=a/\a<H.next+l.length then l[a-H.next]? else H.t.get a
 | [],H,a=>by rw[yaa (by simp)];rfl
 | x::l,H,a=>by
  rw[znh,zs1 l];show(if H.next+1<=a/\a<H.next+1+l.length then l[a-(H.next+1)]? else(H.t.set H.next x).get a)=_
  rw[Tr.get_set];by_cases h1:a=H.next
  ·subst h1
   rw[yaa (by omega),yab rfl,yab (by simp),Nat.sub_self]
   rfl
  ·by_cases h2:H.next+1<=a/\a<H.next+1+l.length
   ·rw[yab h2,yab (by simp;omega)]
    rw[show a-H.next=(a-(H.next+1))+1 by omega]
    rfl
   ·rw[yaa h2,yaa h1,yaa (by simp;omega)]
section
variable {P:Program}{B N:Nat}{μ μ1 μ2:Mu}{H H1:xA}{w w':World}
def zxp{bl:List Nat}{f:Nat->Nat}(hbl:∀b∈bl,256<=b)(hf:∀b i,b∈bl->μ1 b=some i->μ2 (f b)=some i):∀(d:Nat) (v:zA) (x:Value),okS bl d v=true->vA μ1 v x->vA μ2 (shV f d v) x:=by
 have hsl:∀ {b o n c:Nat} {x:Value},aE b bl=true->vA μ1 (.slice b o n c) x->vA μ2 (.slice (f b) o n c) x:=by
  intro b o n c x hm h;rw[vA]at h ⊢
  have hb:=zg0.1 hm
  rcases h with⟨i,cap',h1,h2⟩ | ⟨h1,_⟩
  ·exact .inl ⟨i,cap',hf b i hb h1,h2⟩
  ·have:=hbl b hb;omega
 have hlist:∀(d:Nat),(∀(v:zA) (x:Value),okS bl d v=true->vA μ1 v x->vA μ2 (shV f d v) x)->∀(l:List zA) (m:List Value),l.all (okS bl d)=true->zB μ1 l m->zB μ2 (l.map (shV f d)) m:=by
  intro d ih l;induction l with
  | nil=>intro m _ h;rw[zB]at h;subst h;rw[List.map_nil,zB]
  | cons a l ihl=>
   intro m ha h;rw[zB]at h;obtain⟨x,r,rfl,h1,h2⟩:=h
   rw[ycg,ybb]at ha;rw[ycm,zB];exact⟨x,r,rfl,ih a x ha.1 h1,ihl r ha.2 h2⟩
 intro d;induction d with
 | zero=>
  intro v x ho h
  cases v with
  | bool b=>exact h
  | int k n=>exact h
  | str s=>exact h
  | nilslice=>exact h
  | slice b o n c=>exact hsl ho h
  | _=>cases ho
 | succ d ih=>
  intro v x ho h
  cases v with
  | bool b=>exact h
  | int k n=>exact h
  | str s=>exact h
  | nilslice=>exact h
  | slice b o n c=>exact hsl ho h
  | agg l=>
   rw[vA]at h;obtain⟨cs,rfl,h⟩:=h
   show vA μ2 (.agg (l.map (shV f d))) _
   rw[vA];exact⟨cs,rfl,hlist d ih l _ ho h⟩
  | tup l=>
   rw[vA]at h;obtain⟨cs,rfl,h⟩:=h
   show vA μ2 (.tup (l.map (shV f d))) _
   rw[vA];exact⟨cs,rfl,hlist d ih l _ ho h⟩
  | _=>cases ho
def zhp:∀ {bl:List Nat} {cs:List (List zA × Option Lo)},zsy H bl cs=true->bl.length=cs.length/\∀(k b:Nat) (c:List zA × Option Lo),bl[k]?=some b->cs[k]?=some c->z6d H b c=true
 | [],[],_=>⟨rfl,fun k b c h=>by simp at h⟩
 | [],_::_,h=>by cases h
 | _::_,[],h=>by cases h
 | b::bl,c::cs,h=>by
  unfold zsy at h;rw[ybb]at h;obtain⟨h1,h2⟩:=zhp h.2
  refine⟨by simp[h1],fun k b' c' hb hc=>?_⟩
  cases k with
  | zero=>simp at hb hc;rw[<- hb,<- hc];exact h.1
  | succ k=>simp at hb hc;exact h2 k b' c' hb hc
def zau:∀ {l:List Nat},zav l=true->∀(i j b:Nat),l[i]?=some b->l[j]?=some b->i=j
 | [],_,i,j,b,h,_=>by simp at h
 | x::l,h,i,j,b,hi,hj=>by
  unfold zav at h;rw[ybb,ycp]at h;have hx:∀k,l[k]?≠some x:=fun k e=>by
   have:=zg0.2 (ycv e)
   rw[h.1]at this;cases this
  cases i with
  | zero=>
   cases j with
   | zero=>rfl
   | succ j=>simp at hi hj;subst hi;exact absurd hj (hx j)
  | succ i=>
   cases j with
   | zero=>simp at hi hj;subst hj;exact absurd hi (hx i)
   | succ j=>simp at hi hj;rw[zau h.2 i j b hi hj]
def zvc{b:Nat}{c:List zA × Option Lo}(h:z6d H b c=true):∃t,H.t.get b=some (.cells t c.1.length c.2)/\∀(j:Nat) a,c.1[j]?=some a->t.get j=some a:=by
 unfold z6d at h;split at h
 case h_2=>cases h
 rename_i t n lo hg;simp only[ybb]at h;obtain⟨h1,h2,h3⟩:=h
 have h1:=fB.1 h1
 rw[bC]at h1;have h2:=zza5 h2
 subst h2;split at h3
 case h_2=>cases h3
 rename_i l hm;have e:l=c.1:=by have:=za4 _ _ _ h3;cases this;rfl
 subst h1;obtain⟨m1,m2⟩:=Tr.many_some t _ 0 l hm
 refine⟨t,hg,fun j a hj=>?_⟩
 have hlt:j<c.1.length:=(ybc.1 hj).1
 have:=m2 j hlt
 rw[ybw,e]at this;rw[this];exact hj
def z5h{g:cI}{v:zA}{x:Value}(hH:aA B N μ H w)(hb:Below w.heap.size w w')(h1:aA 256 w.heap.size μ1 H1 w')(hv:vA μ1 v x)(hend:z01 g (.done v H1)=true) :
  ∃ μ',μ.le μ'/\aA B N μ' (zeo g H).2 w'/\vA μ' (zeo g H).1 x:=by
 unfold z01 at hend;simp only[ybb]at hend;obtain⟨e1,e2,e3,e4,e5,e6⟩:=hend
 have e1:=za4 _ _ _ e1
 subst e1;obtain⟨hlen,hget⟩:=zhp e2
 have hbl:∀b∈g.bl,256<=b:=fun b hb=>kE.1 (ycb.1 e4 b hb)
 have hH':=hH.below hb
 let μ':Mu:=⟨fun a=>if H.next<=a/\a<H.next+g.bl.length then(match g.bl[a-H.next]? with | some b=>μ1 b | none=>none)else μ a,μ.pd⟩
 have hle:μ.le μ':=⟨fun a i hi=>by
  have hlt:=hH.lt hi
  show(if _ then _ else _)=_
  rw[yaa (by omega)];exact hi,rfl⟩
 have hnew:∀b i,b∈g.bl->μ1 b=some i->μ' (newS H.next g.bl b)=some i:=by
  intro b i hm hi;obtain⟨k1,k2⟩:=zsa hm
  show(if _ then _ else _)=_
  unfold newS;rw[yab ⟨by omega,by omega⟩,show H.next+zzao b g.bl-H.next=zzao b g.bl by omega,k2];exact hi
 have hnb:(lL H.next g).length=g.bl.length:=by unfold lL;rw[ybf,hlen]
 have hgetN:∀a,(znh H (lL H.next g)).t.get a=if H.next<=a/\a<H.next+g.bl.length then(lL H.next g)[a-H.next]? else H.t.get a:=by
  intro a;rw[zs1,hnb]
 have hinfo:∀a x i,H.next<=a/\a<H.next+g.bl.length->(znh H (lL H.next g)).t.get a=some x->μ' a=some i →
   ∃b c t,g.bl[a-H.next]?=some b/\g.cs[a-H.next]?=some c/\μ1 b=some i/\256<=b/\H1.t.get b=some (.cells t c.1.length c.2)/\(∀(j:Nat) a,c.1[j]?=some a->t.get j=some a)/\x=.cells (Tr.ofList (c.1.map (shV (newS H.next g.bl) 9))) (yB c.1) c.2:=by
  intro a x i ha hx hi;have hk:a-H.next<g.bl.length:=by omega
  have hb0:g.bl[a-H.next]?=some g.bl[a-H.next]:=ybd hk
  have hc0:g.cs[a-H.next]?=some g.cs[a-H.next]:=ybd (by omega)
  have hi':(if H.next<=a/\a<H.next+g.bl.length then(match g.bl[a-H.next]? with | some b=>μ1 b | none=>none)else μ a)=some i:=hi
  rw[yab ha,hb0]at hi'
  obtain⟨t,t1,t2⟩:=zvc (hget _ _ _ hb0 hc0)
  refine⟨_,_,t,hb0,hc0,hi',hbl _ (ycv hb0),t1,t2,?_⟩
  rw[hgetN,yab ha]at hx;unfold lL at hx;rw[ybu,hc0]at hx;exact(yci hx).symm
 refine⟨μ',hle,⟨hH.base,fun q hq=>?_,fun a x i ha hx hi=>?_,?_,Nat.le_trans hH.size hb.size,fun a ha=>?_,fun a x i hx hi=>?_,fun a i ha hi=>?_,fun a b x y i j hx hy hi hj ha hb' hij=>?_,fun a x t ht=>?_⟩,zxp hbl hnew 9 _ _ e5 hv⟩
 ·exact hle _ _ (hH.glob q hq)
 ·have hnx:=hH.next
  have hx':H.t.get a=some x:=by
   have hx:(znh H (lL H.next g)).t.get a=some x:=hx
   rw[hgetN,yaa (by omega)]at hx;exact hx
  have hi':(if H.next<=a/\a<H.next+g.bl.length then(match g.bl[a-H.next]? with | some b=>μ1 b | none=>none)else μ a)=some i:=hi
  rw[yaa (by omega)]at hi'
  exact hH.low a x i ha hx' hi'
 ·show B<=(znh H (lL H.next g)).next
  rw[zfb];have:=hH.next
  omega
 ·have ha:H.next+g.bl.length<=a:=by
   have ha:(znh H (lL H.next g)).next<=a:=ha
   rw[zfb,hnb]at ha;exact ha
  obtain⟨f1,f2⟩:=hH.fresh a (by omega)
  refine⟨?_,?_⟩
  ·show(if _ then _ else _)=_
   rw[yaa (by omega)];exact f1
  ·show(znh H (lL H.next g)).t.get a=none
   rw[hgetN,yaa (by omega)];exact f2
 ·have hx:(znh H (lL H.next g)).t.get a=some x:=hx
  by_cases ha:H.next<=a/\a<H.next+g.bl.length
  ·obtain⟨b,c,t,k1,k2,k3,k4,k5,k6,rfl⟩:=hinfo a x i ha hx hi
   obtain⟨o,o1,o2⟩:=h1.blk b _ i k5 k3
   refine⟨o,o1,?_⟩
   obtain⟨cs,elem,fr,q1,q2,q3,q4,q5⟩:=o2
   refine⟨cs,elem,fr,q1,by rw[bC];exact q2,q3,fun j u hj=>?_,q5⟩
   rw[Tr.get_ofList,ybu]at hj
   cases hcj:c.1[j]? with
   | none=>rw[hcj]at hj;cases hj
   | some u0=>
    rw[hcj]at hj;obtain⟨p1,v',p2,p3⟩:=q4 j u0 (k6 j u0 hcj)
    refine⟨by rw[bC];exact p1,v',p2,?_⟩
    have hok:okS g.bl 9 u0=true:=by
     have:=ycb.1 e6 c (ycv k2)
     exact ycb.1 this u0 (ycv hcj)
    have:=zxp hbl hnew 9 u0 v' hok p3
    cases hj;exact this
  ·rw[hgetN,yaa ha]at hx
   have hi':(if H.next<=a/\a<H.next+g.bl.length then(match g.bl[a-H.next]? with | some b=>μ1 b | none=>none)else μ a)=some i:=hi
   rw[yaa ha]at hi'
   obtain⟨o,o1,o2⟩:=hH'.blk a x i hx hi'
   exact⟨o,o1,o2.mono hle⟩
 ·have hi':(if H.next<=a/\a<H.next+g.bl.length then(match g.bl[a-H.next]? with | some b=>μ1 b | none=>none)else μ a)=some i:=hi
  by_cases hc:H.next<=a/\a<H.next+g.bl.length
  ·rw[yab hc]at hi'
   have hk:a-H.next<g.bl.length:=by omega
   have hb0:g.bl[a-H.next]?=some g.bl[a-H.next]:=ybd hk
   rw[hb0]at hi'
   obtain⟨p1,p2,p3⟩:=h1.own _ i (hbl _ (ycv hb0)) hi'
   have:=hH.size
   exact⟨by omega,p2,p3⟩
  ·rw[yaa hc]at hi'
   obtain⟨p1,p2,p3⟩:=hH.own a i ha hi'
   exact⟨p1,Nat.lt_of_lt_of_le p2 hb.size,p3⟩
 ·have hx:(znh H (lL H.next g)).t.get a=some x:=hx
  have hy:(znh H (lL H.next g)).t.get b=some y:=hy
  have hi':(if H.next<=a/\a<H.next+g.bl.length then(match g.bl[a-H.next]? with | some b=>μ1 b | none=>none)else μ a)=some i:=hi
  have hj':(if H.next<=b/\b<H.next+g.bl.length then(match g.bl[b-H.next]? with | some b=>μ1 b | none=>none)else μ b)=some j:=hj
  by_cases hca:H.next<=a/\a<H.next+g.bl.length
  ·obtain⟨b1,c1,t1,k1,k2,k3,k4,k5,_⟩:=hinfo a x i hca hx hi
   by_cases hcb:H.next<=b/\b<H.next+g.bl.length
   ·obtain⟨b2,c2,t2,l1,l2,l3,l4,l5,_⟩:=hinfo b y j hcb hy hj
    have:=h1.inj b1 b2 _ _ i j k5 l5 k3 l3 k4 l4 hij
    subst this;have:=zau e3 _ _ _ k1 l1
    omega
   ·rw[yaa hcb]at hj'
    have q1:=(hH.own b j hb' hj').2.1
    have q2:=(h1.own b1 i k4 k3).1
    omega
  ·rw[yaa hca]at hi'
   rw[hgetN,yaa hca]at hx;by_cases hcb:H.next<=b/\b<H.next+g.bl.length
   ·obtain⟨b2,c2,t2,l1,l2,l3,l4,l5,_⟩:=hinfo b y j hcb hy hj
    have q1:=(hH.own a i ha hi').2.1
    have q2:=(h1.own b2 j l4 l3).1
    omega
   ·rw[yaa hcb]at hj'
    rw[hgetN,yaa hcb]at hy;exact hH.inj a b x y i j hx hy hi' hj' ha hb' hij
 ·obtain⟨p1,p2,p3⟩:=hH.pnd a x t ht
  have hlt:a<H.next:=by
   rcases yau a H.next with h | h
   ·exact h
   ·have:=(hH.fresh a h).2;rw[p2]at this;cases this
  refine⟨?_,?_,p3⟩
  ·show(if _ then _ else _)=_
   rw[yaa (by omega)];exact p1
  ·show(znh H (lL H.next g)).t.get a=some x
   rw[hgetN,yaa (by omega)];exact p2
end
end Go.Am
