/- Codes that say the same over different lists: they are sound alike, and are read back alike; an expression's translations over different lists say the same. -/
import Derived.Lib.ItoaMem
import Derived.Test.YthmbkdkibhffbaaGreatDoorE17
set_option linter.all false
noncomputable section
namespace Go.Am
structure zrw (N N':List (List Nat)) (K K':List zB) (i j:XIns):Prop where
 op:j.op=i.op
 b:j.b=i.b
 a:i.op≠1->¬ dD i.op->j.a=i.a
 const:i.op=1->∃(k k':Nat) (v:zB),i.a=(k:Int)/\j.a=(k':Int)/\K[k]?=some v/\K'[k']?=some v
 name:dD i.op->∃(k k':Nat) (n:List Nat),i.a=(k:Int)/\j.a=(k':Int)/\N[k]?=some n/\N'[k']?=some n
inductive cJ (N N':List (List Nat)) (K K':List zB):List XIns->List XIns->Prop
 | nil:cJ N N' K K' [] []
 | cons {i j:XIns} {l m:List XIns}:zrw N N' K K' i j->cJ N N' K K' l m->cJ N N' K K' (i::l) (j::m)
section
variable {N N':List (List Nat)}{K K':List zB}{l m:List XIns}
theorem cJ.length(h:cJ N N' K K' l m):m.length=l.length:=by
 induction h with
 | nil=>rfl
 | cons _ _ ih=>simp[ih]
theorem cJ.append{l' m':List XIns}(h:cJ N N' K K' l m)(k:cJ N N' K K' l' m'):cJ N N' K K' (l++l') (m++m'):=by
 induction h with
 | nil=>exact k
 | cons a _ ih=>exact .cons a ih
theorem cJ.get(h:cJ N N' K K' l m):∀(k:Nat),(l[k]?=none/\m[k]?=none)\/∃i j,l[k]?=some i/\m[k]?=some j/\zrw N N' K K' i j:=by
 induction h with
 | nil=>exact fun k=>.inl ⟨rfl,rfl⟩
 | cons a _ ih=>
  intro k
  cases k with
  | zero=>exact .inr ⟨_,_,rfl,rfl,a⟩
  | succ k=>exact ih k
theorem qR{α:Type}{l:List α}{k:Nat}{a d:α}(h:l[k]?=some a):l.getD k d=a:=by simp[List.getD,h]
theorem zil{i j:XIns}(h:zrw N N' K K' i j):oH j=oH i:=by
 unfold oH;rw[h.op,h.b];by_cases h7:i.op=7
 ·rw[h.a (by omega) (by unfold dD;omega)]
 ·simp only[h7,if_false]
theorem zux{i j:XIns}(h:zrw N N' K K' i j):pL j=pL i:=by unfold pL;rw[h.op]
theorem zp3{i j:XIns}(h:zrw N N' K K' i j){p len:Nat}:tG N'.length K'.length j p len=tG N.length K.length i p len:=by
 unfold tG;rw[h.op,h.b];by_cases h1:i.op=1
 ·obtain⟨k,k',v,e1,e2,e3,e4⟩:=h.const h1
  have l1:=(yad.1 e3).1
  have l2:=(yad.1 e4).1
  rw[if_pos h1,if_pos h1,e1,e2,decide_eq_true (by omega:(0:Int)<=(k:Int)),decide_eq_true (by omega:(0:Int)<=(k':Int)),decide_eq_true (by omega:(k:Int)<(K.length:Int)),decide_eq_true (by omega:(k':Int)<(K'.length:Int))]
 ·rw[if_neg h1,if_neg h1]
  by_cases hr:dD i.op
  ·obtain⟨k,k',v,e1,e2,e3,e4⟩:=h.name hr
   have l1:=(yad.1 e3).1
   have l2:=(yad.1 e4).1
   unfold dD at hr;rw[e1,e2,decide_eq_true (by omega:(0:Int)<=(k:Int)),decide_eq_true (by omega:(0:Int)<=(k':Int)),decide_eq_true (by omega:(k:Int)<(N.length:Int)),decide_eq_true (by omega:(k':Int)<(N'.length:Int))]
   have h7:i.op≠7:=by omega
   have h9:¬ (i.op=9\/i.op=10\/i.op=11):=by omega
   have h2:¬ (i.op=2\/i.op=12\/i.op=13):=by omega
   simp only[h7,h9,h2,if_false]
  ·rw[h.a h1 hr]
   unfold dD at hr;have c1:¬ (i.op=3\/i.op=4\/i.op=5):=by omega
   have c2:i.op≠6:=by omega
   have c3:i.op≠8:=by omega
   simp only[c1,c2,c3,if_false]
theorem zt3{i j:XIns}(h:zrw N N' K K' i j){p len:Nat}{d:List Nat}:aJ N'.length K'.length len j p d=aJ N.length K.length len i p d:=by
 unfold aJ;rw[zp3 h,zil h,zux h,h.op];by_cases hj:i.op=9\/i.op=10\/i.op=11
 ·rw[h.a (by omega) (by unfold dD;omega)]
 ·simp only[hj,if_false]
theorem zp2(h:cJ N N' K K' l m){len:Nat}:∀(p:Nat) (d:List Nat),sM N'.length K'.length len m p d=sM N.length K.length len l p d:=by
 induction h with
 | nil=>exact fun _ _=>rfl
 | cons a _ ih=>
  intro p d;show(aJ N'.length K'.length len _ p d).bind _=(aJ N.length K.length len _ p d).bind _
  rw[zt3 a];congr 1
  funext d'
  exact ih _ _
theorem zp4(h:cJ N N' K K' l m):cP N'.length K'.length m=cP N.length K.length l:=by
 unfold cP;rw[h.length,zp2 h]
theorem z7k(h:cJ N N' K K' l m){f f':XIns->Bool}(hf:∀i j,zrw N N' K K' i j->f' j=f i):m.any f'=l.any f:=by
 induction h with
 | nil=>rfl
 | cons a _ ih=>rw[List.any_cons,List.any_cons,hf _ _ a,ih]
theorem zk7{i j:XIns}(h:zrw N N' K K' i j)(args:List uA):dF N' K' j args=dF N K i args:=by
 unfold dF;rw[h.op,h.b];by_cases h1:i.op=1
 ·obtain⟨k,k',v,e1,e2,e3,e4⟩:=h.const h1
  rw[if_pos h1,if_pos h1,e1,e2,show((k:Int)).toNat=k by omega,show((k':Int)).toNat=k' by omega,qR e3,qR e4]
 ·rw[if_neg h1,if_neg h1]
  by_cases hr:dD i.op
  ·obtain⟨k,k',v,e1,e2,e3,e4⟩:=h.name hr
   rw[e1,e2,show((k:Int)).toNat=k by omega,show((k':Int)).toNat=k' by omega,qR e3,qR e4]
   unfold dD at hr;have h7:i.op≠7:=by omega
   simp only[h7,if_false]
  ·rw[h.a h1 hr]
   unfold dD at hr;have c1:¬ (i.op=3\/i.op=4\/i.op=5\/i.op=6):=by omega
   have c3:i.op≠8:=by omega
   simp only[c1,c3,if_false]
theorem zmm(h:cJ N N' K K' l m){same:zB->zB->Bool}{rd:Nat->Nat->Option uA}{first:uA}{p to:Nat}{x:XIns}(hx:l[p]?=some x)(hj:x.op=9\/x.op=10\/x.op=11) :
  rO K' m same rd first p to=rO K l same rd first p to:=by
 rcases h.get p with⟨h1,_⟩ | ⟨i,j,h1,h2,h3⟩
 ·rw[hx]at h1;cases h1
 rw[hx]at h1;cases h1;have ha:=h3.a (by omega) (by unfold dD;omega)
 unfold rO;rw[hx,h2];simp only[];rw[h3.op,ha];by_cases c9:x.op=9
 ·rw[if_pos c9,if_pos c9]
 rw[if_neg c9,if_neg c9];by_cases c2:x.a<(p:Int)+2
 ·rw[if_pos c2,if_pos c2]
 rw[if_neg c2,if_neg c2];by_cases c3:(to:Int)<=x.a
 ·rw[if_pos c3,if_pos c3]
 rw[if_neg c3,if_neg c3];rcases h.get (x.a.toNat-1)with⟨g1,g2⟩ | ⟨a1,b1,g1,g2,g3⟩
 ·rw[g1,g2]
 rcases h.get (x.a.toNat-2)with⟨g4,g5⟩ | ⟨a2,b2,g4,g5,g6⟩
 ·rw[g1,g2,g4,g5]
 rcases h.get x.a.toNat with⟨g7,g8⟩ | ⟨a3,b3,g7,g8,g9⟩
 ·rw[g1,g2,g4,g5,g7,g8]
 rw[g1,g2,g4,g5,g7,g8];simp only[];rw[g3.op,g6.op];by_cases d1:a1.op≠9
 ·rw[if_pos d1,if_pos d1]
 rw[if_neg d1,if_neg d1];have d1:a1.op=9:=by omega
 rw[g3.a (by omega) (by unfold dD;omega),g9.op]
 by_cases l1:a3.op=1
 ·obtain⟨k,k',v,e1,e2,e3,e4⟩:=g9.const l1
  rw[e1,e2,show((k:Int)).toNat=k by omega,show((k':Int)).toNat=k' by omega,qR e3,qR e4]
 ·simp only[l1,false_and,and_false,if_false]
theorem wY(h:cJ N N' K K' l m){same:zB->zB->Bool}:∀(f i to:Nat) (st:List uA),nI N' K' m same f i to st=nI N K l same f i to st
 | 0,_,_,_=>rfl
 | f+1,i,to,st=>by
  unfold nI;by_cases c:to<=i
  ·rw[if_pos c,if_pos c]
  rw[if_neg c,if_neg c];rcases h.get i with⟨h1,h2⟩ | ⟨x,y,h1,h2,h3⟩
  ·rw[h1,h2]
  rw[h1,h2];simp only[];rw[h3.op];by_cases hj:x.op=9\/x.op=10\/x.op=11
  ·rw[if_pos hj,if_pos hj]
   have e:(fun a b=>zqk (nI N' K' m same f a b []))=fun a b=>zqk (nI N K l same f a b []):=by
    funext a b
    rw[wY h f a b []]
   cases st.getLast? with
   | none=>rfl
   | some top=>
    simp only[];rw[e,zmm h h1 hj]
    cases rO K l same (fun a b=>zqk (nI N K l same f a b [])) top i to with
    | none=>rfl
    | some q=>exact wY h f _ _ _
  ·rw[if_neg hj,if_neg hj,zil h3]
   by_cases hp:x.op=12\/(st.length:Int)<oH x
   ·rw[if_pos hp,if_pos hp]
   ·rw[if_neg hp,if_neg hp,zk7 h3]
    exact wY h f _ _ _
end
structure Ext (s r:Nt):Prop where
 names:∃u,r.names=s.names++u
 consts:∃u,r.consts=s.consts++u
theorem Ext.refl(s:Nt):Ext s s:=⟨⟨[],by simp⟩,⟨[],by simp⟩⟩
theorem Ext.trans{a b c:Nt}(h:Ext a b)(k:Ext b c):Ext a c:=by
 obtain⟨⟨u,h1⟩,⟨v,h2⟩⟩:=h
 obtain⟨⟨u',k1⟩,⟨v',k2⟩⟩:=k
 exact⟨⟨u++u',by rw[k1,h1,yba]⟩,⟨v++v',by rw[k2,h2,yba]⟩⟩
theorem Ext.nameAt{s r:Nt}(h:Ext s r){k:Nat}{n:List Nat}(hk:s.names[k]?=some n):r.names[k]?=some n:=by
 obtain⟨⟨u,e⟩,_⟩:=h
 rw[e,ybp (yad.1 hk).1];exact hk
theorem Ext.constAt{s r:Nt}(h:Ext s r){k:Nat}{v:zB}(hk:s.consts[k]?=some v):r.consts[k]?=some v:=by
 obtain⟨_,⟨u,e⟩⟩:=h
 rw[e,ybp (yad.1 hk).1];exact hk
section
variable {key:zB->List Nat}{valid:zB->Bool}{P:zB->Prop}
theorem zg7(s:Nt)(n:List Nat):Ext s (s.name n):=by
 unfold Nt.name;split
 ·exact .refl s
 ·exact⟨⟨[n],rfl⟩,⟨[],by simp⟩⟩
theorem nY(s:Nt)(v:zB):Ext s (s.const key v):=by
 unfold Nt.const;split
 ·exact .refl s
 ·exact⟨⟨[],by simp⟩,⟨[v],rfl⟩⟩
theorem zvi(s:Nt)(n:List Nat):(s.name n).names[s.nameI n]?=some n:=by
 unfold Nt.name Nt.nameI;by_cases h:n∈s.names
 ·rw[if_pos h];exact zbg h
 ·rw[if_neg h,aT h];simp
theorem zpb(hinj:∀u v,P u->P v->key u=key v->u=v){s:Nt}{v:zB}(hs:nJ key P s)(hv:P v):(s.const key v).consts[s.constI key v]?=some v:=by
 unfold Nt.const Nt.constI;by_cases h:key v∈s.consts.map key
 ·rw[if_pos h]
  have:=zbg h
  rw[yav]at this
  cases hc:s.consts[kI (key v) (s.consts.map key)]? with
  | none=>rw[hc]at this;cases this
  | some u=>
   rw[hc]at this;rw[hinj u v (hs.all u (ybw hc)) hv (ybj this)]
 ·rw[if_neg h,aT h];simp
structure TrR (key:zB->List Nat) (P:zB->Prop) (f:dG):Prop where
 ext:∀s p,Ext s (f s p).1
 rel:∀s s' p,nJ key P s->nJ key P s'->∀r r',Ext (f s p).1 r->Ext (f s' p).1 r'->cJ r.names r'.names r.consts r'.consts (f s p).2 (f s' p).2
theorem rR{N N':List (List Nat)}{K K':List zB}{op:Nat}{a b:Int}(h1:op≠1)(h2:¬ dD op):zrw N N' K K' ⟨op,a,b⟩ ⟨op,a,b⟩:=
 ⟨rfl,rfl,fun _ _=>rfl,fun h=>absurd h h1,fun h=>absurd h h2⟩
theorem zjd(hinj:∀u v,P u->P v->key u=key v->u=v){s s' r r':Nt}{v:zB}{b:Int}(hs:nJ key P s)(hs':nJ key P s')(hv:P v)(h:Ext (s.const key v) r)(h':Ext (s'.const key v) r') :
  zrw r.names r'.names r.consts r'.consts ⟨1,s.constI key v,b⟩ ⟨1,s'.constI key v,b⟩:=
 ⟨rfl,rfl,fun h=>absurd rfl h,fun _=>⟨_,_,v,rfl,rfl,h.constAt (zpb hinj hs hv),h'.constAt (zpb hinj hs' hv)⟩,fun h=>absurd h (by show ¬ dD 1;unfold dD;omega)⟩
theorem zgt{s s' r r':Nt}{n:List Nat}{op:Nat}{b:Int}(hop:dD op)(h:Ext (s.name n) r)(h':Ext (s'.name n) r') :
  zrw r.names r'.names r.consts r'.consts ⟨op,s.nameI n,b⟩ ⟨op,s'.nameI n,b⟩:=
 ⟨rfl,rfl,fun _ hn=>absurd hop hn,fun h=>absurd hop (by show ¬ dD op;have h:op=1:=h;unfold dD;omega),fun _=>⟨_,_,n,rfl,rfl,h.nameAt (zvi s n),h'.nameAt (zvi s' n)⟩⟩
section
variable (hinj:∀u v,P u->P v->key u=key v->u=v)
include hinj
theorem znz{f g:dG}{skip:Nat}{truth:Int}(of:vK key P f)(og:vK key P g)(hf:TrR key P f)(hg:TrR key P g)(hs:skip=10\/skip=11)(hv:P (yG truth)):TrR key P (nK key f g skip truth):=by
 refine⟨fun s p=>((hf.ext s p).trans (hg.ext _ _)).trans (nY _ _),fun s s' p h h' r r' e e'=>?_⟩
 have n1:=(of s p h).1
 have n1':=(of s' p h').1
 have n2:=(og _ (p+(f s p).2.length+1) n1).1
 have x1:=(nY (key:=key) (g (f s p).1 (p+(f s p).2.length+1)).1 (yG truth)).trans e
 have x2:=(hg.ext (f s p).1 (p+(f s p).2.length+1)).trans x1
 unfold nK at e';have y1:=(nY (key:=key) (g (f s' p).1 (p+(f s' p).2.length+1)).1 (yG truth)).trans e'
 have y2:=(hg.ext (f s' p).1 (p+(f s' p).2.length+1)).trans y1
 have c1:=hf.rel s s' p h h' r r' x2 y2
 have l1:=c1.length
 have n2':=(og _ (p+(f s' p).2.length+1) n1').1
 unfold nK;simp only[];rw[l1]at y1 e' n2' ⊢
 have c2:=hg.rel _ _ _ n1 n1' r r' x1 y1
 rw[c2.length];exact c1.append (.cons (rR (by omega) (by unfold dD;omega)) (c2.append (.cons (rR (by decide) (by unfold dD;decide)) (.cons (rR (by decide) (by unfold dD;decide)) (.cons (zjd hinj n2 n2' hv e e') .nil)))))
omit hinj in
theorem rel_if{f g h:dG}(of:vK key P f)(og:vK key P g)(hf:TrR key P f)(hg:TrR key P g)(hh:TrR key P h):TrR key P (ifT f g h):=by
 refine⟨fun s p=>((hf.ext s p).trans (hg.ext _ _)).trans (hh.ext _ _),fun s s' p k k' r r' e e'=>?_⟩
 have n1:=(of s p k).1
 have n1':=(of s' p k').1
 unfold ifT at e e' ⊢
 simp only[]at e e' ⊢
 have x1:=(hh.ext _ _).trans e
 have x2:=(hg.ext _ _).trans x1
 have y2:=((hg.ext _ _).trans (hh.ext _ _)).trans e'
 have c1:=hf.rel s s' p k k' r r' x2 y2
 rw[c1.length]at e' ⊢
 have y1:=(hh.ext _ _).trans e'
 have c2:=hg.rel _ _ _ n1 n1' r r' x1 y1
 rw[c2.length]at e' ⊢
 have c3:=hh.rel _ _ _ (og _ _ n1).1 (og _ _ n1').1 r r' e e'
 rw[c3.length];exact c1.append (.cons (rR (by decide) (by unfold dD;decide)) (c2.append (.cons (rR (by decide) (by unfold dD;decide)) c3)))
omit hinj in
theorem zum:∀ {fs:List dG},(∀f∈fs,vK key P f)->(∀f∈fs,TrR key P f)->TrR key P (kE fs)
 | [],_,_=>⟨fun s _=>.refl s,fun _ _ _ _ _ _ _ _ _=>.nil⟩
 | f::l,ho,hf=>by
  have hr:=zum (fs:=l) (fun g hg=>ho g (by simp[hg])) (fun g hg=>hf g (by simp[hg]))
  refine⟨fun s p=>((hf f (by simp)).ext s p).trans (hr.ext _ _),fun s s' p k k' r r' e e'=>?_⟩
  simp only[kE]at e e' ⊢
  have c1:=(hf f (by simp)).rel s s' p k k' r r' ((hr.ext _ _).trans e) ((hr.ext _ _).trans e')
  rw[c1.length]at e' ⊢
  exact c1.append (hr.rel _ _ _ (ho f (by simp) s p k).1 (ho f (by simp) s' p k').1 r r' e e')
omit hinj in
theorem zxc(op n:Nat)(name:List Nat)(v:zB)(s:Nt):Ext s (yF key op name v n s).1:=by
 unfold yF;split
 ·exact nY _ _
 ·split
  ·exact .refl _
  ·split
   ·exact zg7 _ _
   ·split
    ·exact zg7 _ _
    ·split
     ·exact zg7 _ _
     ·split<;>exact .refl _
theorem rel_op{op n:Nat}{name:List Nat}{v:zB}{s s' r r':Nt}(k:nJ key P s)(k':nJ key P s')(hv:op=1->P v)(e:Ext (yF key op name v n s).1 r)(e':Ext (yF key op name v n s').1 r') :
  zrw r.names r'.names r.consts r'.consts (yF key op name v n s).2 (yF key op name v n s').2:=by
 unfold yF at e e' ⊢
 by_cases h1:op=1
 ·simp only[if_pos h1]at e e' ⊢
  exact zjd hinj k k' (hv h1) e e'
 simp only[if_neg h1]at e e' ⊢
 by_cases h2:op=2
 ·simp only[if_pos h2]
  exact rR (by decide) (by unfold dD;decide)
 simp only[if_neg h2]at e e' ⊢
 by_cases h3:op=3\/op=4\/op=5
 ·simp only[if_pos h3]at e e' ⊢
  exact zgt (by unfold dD;omega) e e'
 simp only[if_neg h3]at e e' ⊢
 by_cases h6:op=6
 ·simp only[if_pos h6]at e e' ⊢
  exact zgt (by unfold dD;decide) e e'
 simp only[if_neg h6]at e e' ⊢
 by_cases h8:op=21\/op=22\/op=23
 ·simp only[if_pos h8]at e e' ⊢
  exact zgt (by unfold dD;decide) e e'
 simp only[if_neg h8]at e e' ⊢
 by_cases h9:op=19
 ·simp only[if_pos h9]
  exact rR (by decide) (by unfold dD;decide)
 simp only[if_neg h9];exact rR (by decide) (by unfold dD;decide)
variable (h0:P (yG 0))(h1:P (yG 1))(hP:∀v:zB,v.fit->valid v=true->P v)
include h0 h1 hP
theorem zun{op:Nat}{name:List Nat}{v:zB}{fs:List dG}(hv:v.fit)(ho:∀f∈fs,vK key P f)(hf:∀f∈fs,TrR key P f):TrR key P (cH key valid op name v fs):=by
 by_cases hb:sI valid op v fs.length=false
 ·have e:cH key valid op name v fs=fun s _=>(s,[⟨13,0,0⟩]):=by funext s p;unfold cH;rw[if_pos hb]
  rw[e];exact⟨fun s _=>.refl s,fun _ _ _ _ _ _ _ _ _=>.cons (rR (by decide) (by unfold dD;decide)) .nil⟩
 have nil:∀ {g:dG},(g=fun s _=>(s,[]))->TrR key P g:=fun e=>by
  rw[e];exact⟨fun s _=>.refl s,fun _ _ _ _ _ _ _ _ _=>.nil⟩
 by_cases h15:op=15
 ·match fs,hf,ho,hb with
  | [],_,_,hb=>exact nil (by funext s p;unfold cH;rw[if_neg hb,if_pos h15])
  | [_],_,_,hb=>exact nil (by funext s p;unfold cH;rw[if_neg hb,if_pos h15])
  | f::g::l,hf,ho,hb=>
   have e:cH key valid op name v (f::g::l)=nK key f g 10 0:=by funext s p;unfold cH;rw[if_neg hb,if_pos h15]
   rw[e];exact znz hinj (ho f (by simp)) (ho g (by simp)) (hf f (by simp)) (hf g (by simp)) (.inl rfl) h0
 by_cases h16:op=16
 ·match fs,hf,ho,hb with
  | [],_,_,hb=>exact nil (by funext s p;unfold cH;rw[if_neg hb,if_neg h15,if_pos h16])
  | [_],_,_,hb=>exact nil (by funext s p;unfold cH;rw[if_neg hb,if_neg h15,if_pos h16])
  | f::g::l,hf,ho,hb=>
   have e:cH key valid op name v (f::g::l)=nK key f g 11 1:=by funext s p;unfold cH;rw[if_neg hb,if_neg h15,if_pos h16]
   rw[e];exact znz hinj (ho f (by simp)) (ho g (by simp)) (hf f (by simp)) (hf g (by simp)) (.inr rfl) h1
 by_cases h18:op=18
 ·match fs,hf,ho,hb with
  | [],_,_,hb=>exact nil (by funext s p;unfold cH;rw[if_neg hb,if_neg h15,if_neg h16,if_pos h18])
  | [_],_,_,hb=>exact nil (by funext s p;unfold cH;rw[if_neg hb,if_neg h15,if_neg h16,if_pos h18])
  | [_,_],_,_,hb=>exact nil (by funext s p;unfold cH;rw[if_neg hb,if_neg h15,if_neg h16,if_pos h18])
  | f::g::k::l,hf,ho,hb=>
   have e:cH key valid op name v (f::g::k::l)=ifT f g k:=by funext s p;unfold cH;rw[if_neg hb,if_neg h15,if_neg h16,if_pos h18]
   rw[e];exact rel_if (ho f (by simp)) (ho g (by simp)) (hf f (by simp)) (hf g (by simp)) (hf k (by simp))
 have e:cH key valid op name v fs=fun s p=>((yF key op name v fs.length (kE fs s p).1).1,(kE fs s p).2++[(yF key op name v fs.length (kE fs s p).1).2]):=by
  funext s p;unfold cH;rw[if_neg hb,if_neg h15,if_neg h16,if_neg h18]
 rw[e];have hr:=zum ho hf
 have os:=zvn ho
 have hvP:op=1->P v:=fun e=>hP v hv (by
  have hb:sI valid op v fs.length=true:=by simpa using hb
  unfold sI at hb;simp only[yac,decide_eq_true_eq]at hb;have:=hb.1.1
  rw[e]at this;simpa using this)
 refine⟨fun s p=>(hr.ext s p).trans (zxc _ _ _ _ _),fun s s' p k k' r r' e e'=>?_⟩
 exact(hr.rel s s' p k k' r r' ((zxc _ _ _ _ _).trans e) ((zxc _ _ _ _ _).trans e')).append (.cons (rel_op hinj (os s p k).1 (os s' p k').1 hvP e e') .nil)
mutual
theorem zb0:∀(x:uA),x.fit->TrR key P (yC key valid x)
 | .mk op name v args,h=>by
  unfold uA.fit at h;unfold yC;exact zun hinj h0 h1 hP h.2.2.2.1 (zsv h0 h1 hP args h.2.2.2.2.2) (zsu args h.2.2.2.2.2)
theorem zsu:∀(l:List uA),uA.fits l->∀f∈qE key valid l,TrR key P f
 | [],_,f,hf=>by simp[qE]at hf
 | x::l,h,f,hf=>by
  unfold uA.fits at h;simp only[qE,yat]at hf;rcases hf with rfl | hf
  ·exact zb0 x h.1
  ·exact zsu l h.2 f hf
end
theorem zsw:∀(l:List dC) (s:Nt),(∀x∈l,x.fit)->Ext s (vF key valid l s).1
 | [],s,_=>.refl s
 | x::l,s,hf=>by
  have hx:=hf x (by simp)
  simp only[vF];exact((zb0 hinj h0 h1 hP x.when_ hx.2.2.2.2.2.1).ext s 0).trans (((zb0 hinj h0 h1 hP x.then_ hx.2.2.2.2.2.2).ext _ 0).trans (zsw l _ (fun y hy=>hf y (by simp[hy]))))
theorem zsx:∀(l:List dC) (s:Nt) (k:Nat) (c:dC),(∀x∈l,x.fit)->nJ key P s->l[k]?=some c->∃s1,nJ key P s1/\(vF key valid l s).2[k]?=some ((yC key valid c.when_ s1 0).2,(yC key valid c.then_ (yC key valid c.when_ s1 0).1 0).2)/\Ext (yC key valid c.then_ (yC key valid c.when_ s1 0).1 0).1 (vF key valid l s).1
 | [],_,_,_,_,_,h=>by simp at h
 | x::l,s,k,c,hf,hs,h=>by
  have hx:=hf x (by simp)
  have n1:=(zb1 h0 h1 hP x.when_ hx.2.2.2.2.2.1 s 0 hs).1
  have n2:=(zb1 h0 h1 hP x.then_ hx.2.2.2.2.2.2 _ 0 n1).1
  cases k with
  | zero=>
   have h:x=c:=by simpa using h
   subst h;exact⟨s,hs,rfl,zsw hinj h0 h1 hP l _ (fun y hy=>hf y (by simp[hy]))⟩
  | succ k=>
   obtain⟨s1,g1,g2,g3⟩:=zsx l _ k c (fun y hy=>hf y (by simp[hy])) n2 (by simpa using h)
   exact⟨s1,g1,by simp only[vF];simpa using g2,g3⟩
theorem zre{l l':List dC}{k k':Nat}{c:dC}(hf:∀x∈l,x.fit)(hf':∀x∈l',x.fit)(h:l[k]?=some c)(h':l'[k']?=some c) :
  ∃q q',(vF key valid l ⟨[],[]⟩).2[k]?=some q/\(vF key valid l' ⟨[],[]⟩).2[k']?=some q' ∧
   cJ (vF key valid l ⟨[],[]⟩).1.names (vF key valid l' ⟨[],[]⟩).1.names (vF key valid l ⟨[],[]⟩).1.consts (vF key valid l' ⟨[],[]⟩).1.consts q.1 q'.1 ∧
   cJ (vF key valid l ⟨[],[]⟩).1.names (vF key valid l' ⟨[],[]⟩).1.names (vF key valid l ⟨[],[]⟩).1.consts (vF key valid l' ⟨[],[]⟩).1.consts q.2 q'.2:=by
 have nil:nJ key P ⟨[],[]⟩:=⟨by simp,by simp,fun _ h=>(by cases h)⟩
 have hc:=hf c (ybw h)
 obtain⟨s,g1,g2,g3⟩:=zsx hinj h0 h1 hP l _ k c hf nil h
 obtain⟨s',g1',g2',g3'⟩:=zsx hinj h0 h1 hP l' _ k' c hf' nil h'
 have rw_:=zb0 hinj h0 h1 hP c.when_ hc.2.2.2.2.2.1
 have rt:=zb0 hinj h0 h1 hP c.then_ hc.2.2.2.2.2.2
 refine⟨_,_,g2,g2',rw_.rel s s' 0 g1 g1' _ _ ((rt.ext _ _).trans g3) ((rt.ext _ _).trans g3'),?_⟩
 exact rt.rel _ _ 0 (zb1 h0 h1 hP c.when_ hc.2.2.2.2.2.1 s 0 g1).1 (zb1 h0 h1 hP c.when_ hc.2.2.2.2.2.1 s' 0 g1').1 _ _ g3 g3'
end
end
end Go.Am
namespace Go.Am
def z4h (l:List Nat):Nat:=l.foldl (fun a c=>a*10+(c-48)) 0
theorem zsd(l:List Nat)(c:Nat):z4h (l++[c])=z4h l*10+(c-48):=by unfold z4h;rw[List.foldl_append];rfl
theorem zxn(n:Nat)(h:n<10):(UInt8.ofNat (48+n)).toNat=48+n:=by
 rw[UInt8.toNat_ofNat'];omega
theorem uU(u:Nat):z4h ((Lib.decDigits u).map UInt8.toNat)=u/\∀c∈(Lib.decDigits u).map UInt8.toNat,48<=c/\c<58:=by
 induction u using Nat.strongRecOn with
 | _ u ih=>
  by_cases h:u<10
  ·rw[Lib.decDigits,dif_pos h]
   simp only[ybn,List.map_nil,zxn u h];exact⟨by unfold z4h;simp,by simp;omega⟩
  ·rw[Lib.decDigits,dif_neg h]
   obtain⟨h1,h2⟩:=ih (u / 10) (by omega)
   simp only[List.map_append,ybn,List.map_nil,zxn (u%10) (by omega)]
   refine⟨by rw[zsd,h1];omega,fun c hc=>?_⟩
   rcases List.mem_append.1 hc with hc | hc
   ·exact h2 c hc
   ·simp at hc;omega
theorem zlu{n:Int}:∀c∈iJ n,c=45\/48<=c/\c<58:=by
 intro c hc;unfold iJ Lib.itoa at hc;split at hc
 ·simp only[ybn,yat]at hc
  rcases hc with rfl | hc
  ·exact .inl rfl
  ·exact .inr ((uU _).2 c hc)
 ·exact .inr ((uU _).2 c hc)
theorem zc2{m n:Int}(h:iJ m=iJ n):m=n:=by
 have ne:∀ {a b:Nat},(Lib.decDigits a).map UInt8.toNat≠45::(Lib.decDigits b).map UInt8.toNat:=fun {a b} e=>by
  have:=(uU a).2 45 (by rw[e];simp)
  omega
 unfold iJ Lib.itoa at h;split at h<;>split at h
 ·simp only[ybn,List.cons.injEq]at h
  have:=congrArg z4h h.2
  rw[(uU _).1,(uU _).1]at this
  omega
 ·exact absurd h.symm ne
 ·exact absurd h ne
 ·have:=congrArg z4h h
  rw[(uU _).1,(uU _).1]at this
  omega
theorem oZ{a b r s:List Nat}(ha:∀c∈a,c≠44)(hb:∀c∈b,c≠44)(h:a++44::r=b++44::s):a=b/\r=s:=by
 induction a generalizing b with
 | nil=>
  cases b with
  | nil=>simp at h;exact⟨rfl,h⟩
  | cons y b=>
   simp only[List.nil_append,List.cons_append,List.cons.injEq]at h;exact absurd h.1.symm (hb y (by simp))
 | cons x a ih=>
  cases b with
  | nil=>
   simp only[List.nil_append,List.cons_append,List.cons.injEq]at h;exact absurd h.1 (ha x (by simp))
  | cons y b=>
   simp only[List.cons_append,List.cons.injEq]at h;obtain⟨h1,h2⟩:=ih (fun c hc=>ha c (by simp[hc])) (fun c hc=>hb c (by simp[hc])) h.2
   exact⟨by rw[h.1,h1],h2⟩
theorem cW{n:Int}:∀c∈iJ n,c≠44:=fun c hc=>by
 have:=zlu c hc
 omega
end Go.Am
set_option maxRecDepth 100000
namespace Go.Proofs
open Go Go.Am
variable [cC]
theorem zdp:∀ {l m:List Nat} {r s:List Nat},fB 65536 l->fB 65536 m->l.length=m.length->jI l++r=jI m++s->l=m/\r=s
 | [],[],r,s,_,_,_,h=>⟨rfl,h⟩
 | [],_::_,_,_,_,_,h,_=>by simp at h
 | _::_,[],_,_,_,_,h,_=>by simp at h
 | x::l,y::m,r,s,hl,hm,hn,h=>by
  simp only[jI,List.cons_append,List.cons.injEq]at h;obtain⟨h1,h2,h3⟩:=h
  obtain⟨h4,h5⟩:=zdp (fun z hz=>hl z (by simp[hz])) (fun z hz=>hm z (by simp[hz])) (by simpa using hn) h3
  have hx:=hl x (by simp)
  have hy:=hm y (by simp)
  exact⟨by rw[h4,show x=y by omega],h5⟩
theorem zmn{b:Bool}:∀c∈eM b,c≠44:=by cases b<;>decide
theorem zj4{b b':Bool}{r s:List Nat}(h:eM b++r=eM b'++s):b=b'/\r=s:=by
 cases b<;>cases b'<;>simp[eM]at h ⊢<;>exact h
theorem zfb{w w':rH}{r s:List Nat}(hw:fB 65536 w.limbs)(hw':fB 65536 w'.limbs)(h:kJ w++r=kJ w'++s):w=w'/\r=s:=by
 obtain⟨neg,l⟩:=w
 obtain⟨neg',l'⟩:=w'
 unfold kJ at h;simp only[List.cons_append,List.cons.injEq,yba,true_and,List.nil_append]at h;have h:(eM neg++iJ ((2*l.length:Nat):Int))++44::(jI l++r)=(eM neg'++iJ ((2*l'.length:Nat):Int))++44::(jI l'++s):=by
  simpa[yba]using h
 have nc:∀(b:Bool) (n:Int),∀c∈eM b++iJ n,c≠44:=fun b n c hc=>by
  rcases List.mem_append.1 hc with hc | hc
  ·exact zmn c hc
  ·exact cW c hc
 obtain⟨h1,h2⟩:=oZ (nc _ _) (nc _ _) h
 obtain⟨h3,h4⟩:=zj4 h1
 have h5:=zc2 h4
 obtain⟨h6,h7⟩:=zdp (l:=l) (m:=l') hw hw' (by omega) h2
 exact⟨by subst h3 h6;rfl,h7⟩
theorem z0w{v w:zB}(hv:v.fit)(hw:w.fit)(h:cA v=cA w):v=w:=by
 obtain⟨k,⟨n,d⟩,i⟩:=v
 obtain⟨k',⟨n',d'⟩,i'⟩:=w
 unfold cA at h;have h:iJ (k:Int)++44::(iJ i++(kJ n++kJ d))=iJ (k':Int)++44::(iJ i'++(kJ n'++kJ d')):=by simpa[yba]using h
 obtain⟨h1,h2⟩:=oZ cW cW h
 have e:∀(w:rH) (s:List Nat),kJ w++s=44::((kJ w++s).drop 1):=fun w s=>by unfold kJ;simp
 rw[e n,e n']at h2;obtain⟨h3,h4⟩:=oZ cW cW h2
 have h4:kJ n++kJ d=kJ n'++kJ d':=by rw[e n,e n',h4]
 obtain⟨h5,h6⟩:=zfb hv.2.1.2.1 hw.2.1.2.1 h4
 obtain⟨h7,_⟩:=zfb (r:=[]) (s:=[]) hv.2.1.2.2 hw.2.1.2.2 (by simpa using h6)
 have:=zc2 h1
 have:=zc2 h3
 subst h5 h7
 simp only[zB.mk.injEq];exact⟨by omega,trivial,by omega⟩
theorem z04(u v:zB)(hu:z05 u)(hv:z05 v)(h:cA u=cA v):u=v:=z0w hu.2 hv.2 h
theorem zg2(f:uF):1<=qL f/\f.n.limbs.length<qL f/\f.d.limbs.length<qL f:=by unfold qL;omega
theorem vZ:∀(x:uA) (left:Int),x.ok->1<=mJ x left
 | .mk op name v args,left,h=>by
  unfold uA.ok at h;unfold mJ;have:=zg2 v.f
  have:=(sW args left (qL v.f+(name.length:Int) / 30) h.2.2.2 (by omega)).1
  omega
mutual
theorem zhe:∀(x:uA) (left:Int),x.ok->mJ x left<=left->left<=2000->uA.cpy x
 | .mk op name v args,left,h,hs,hl=>by
  unfold uA.ok at h;unfold mJ at hs;unfold uA.cpy;have:=zg2 v.f
  have h1:=(sW args left (qL v.f+(name.length:Int) / 30) h.2.2.2 (by omega)).1
  obtain⟨h2,h3⟩:=zo7 args left (qL v.f+(name.length:Int) / 30) h.2.2.2 (by omega) hs hl
  exact⟨⟨by omega,by omega⟩,by omega,h3⟩
theorem zo7:∀(l:List uA) (left n:Int),uA.oks l->0<=n->dN l left n<=left->left<=2000->n+l.length<=left/\uA.cpys l
 | [],left,n,_,_,hs,_=>by
  unfold dN at hs;unfold uA.cpys;exact⟨by simpa using hs,trivial⟩
 | x::l,left,n,h,hn,hs,hl=>by
  unfold uA.oks at h;unfold dN at hs;unfold uA.cpys;by_cases hc:n<=left
  ·rw[if_pos hc]at hs
   have h1:=vZ x (left-n) h.1
   have h2:=(sW l left (n+mJ x (left-n)) h.2 (by omega)).1
   obtain⟨h3,h4⟩:=zo7 l left _ h.2 (by omega) hs hl
   exact⟨by simp only[yao];omega,zhe x (left-n) h.1 (by omega) (by omega),h4⟩
  ·rw[if_neg hc]at hs
   omega
end
theorem zca:∀(l:List vJ) (n:Int),n<=yR l n
 | [],n=>by unfold yR;omega
 | d::l,n=>by
  unfold yR;split
  ·have:=zca l (n+(d.name.length:Int) / 30);omega
  ·omega
theorem znu:∀(l:List cE) (n:Int),n<=uN l n/\(uN l n<=2000->0<=n->l.length+n<=2000/\∀r∈l,r.f.n.limbs.length<1000000/\r.f.d.limbs.length<1000000)
 | [],n=>by unfold uN;exact⟨by omega,fun h _=>⟨by simpa using h,fun r hr=>by cases hr⟩⟩
 | r::l,n=>by
  obtain⟨h1,h2⟩:=znu l (n+(qL r.f:Nat))
  have:=zg2 r.f
  unfold uN;split
  ·refine⟨by omega,fun h hn=>?_⟩
   obtain⟨h3,h4⟩:=h2 h (by omega)
   refine⟨by simp only[yao];omega,fun q hq=>?_⟩
   rcases yat.1 hq with rfl | hq
   ·exact⟨by omega,by omega⟩
   ·exact h4 q hq
  ·exact⟨by omega,fun h=>by omega⟩
theorem zei:∀(l:List nE) (n:Int),n<=iO l n/\(iO l n<=2000->0<=n->∀x∈l,x.rows.length<300000/\∀r∈x.rows,r.f.n.limbs.length<1000000/\r.f.d.limbs.length<1000000)
 | [],n=>by unfold iO;exact⟨by omega,fun _ _ r hr=>by cases hr⟩
 | x::l,n=>by
  obtain⟨r1,r2⟩:=znu x.rows (n+(x.name.length:Int) / 30)
  obtain⟨h1,h2⟩:=zei l (uN x.rows (n+(x.name.length:Int) / 30))
  unfold iO;split
  ·refine⟨by omega,fun h hn q hq=>?_⟩
   obtain⟨h3,h4⟩:=r2 (by omega) (by omega)
   rcases yat.1 hq with rfl | hq
   ·exact⟨by omega,h4⟩
   ·exact h2 h (by omega) q hq
  ·exact⟨by omega,fun h=>by omega⟩
theorem nZ:∀(l:List dC) (n:Int),(∀x∈l,x.fit)->0<=n->n<=tN l n/\(tN l n<=2000->∀x∈l,uA.cpy x.when_/\uA.cpy x.then_)
 | [],n,_,_=>by unfold tN;exact⟨by omega,fun _ r hr=>by cases hr⟩
 | x::l,n,hf,hn=>by
  have hx:=hf x (by simp)
  have p1:=vZ x.when_ (2000-n) (uA.fit_ok hx.2.2.2.2.2.1)
  have p2:=vZ x.then_ (2000-fK x n) (uA.fit_ok hx.2.2.2.2.2.2)
  have hw:n<=fK x n/\mJ x.when_ (2000-n)<=fK x n-n:=by unfold fK;omega
  unfold tN;split
  ·split
   ·obtain⟨h1,h2⟩:=nZ l (fK x n+mJ x.then_ (2000-fK x n)) (fun y hy=>hf y (by simp[hy])) (by omega)
    refine⟨by omega,fun h q hq=>?_⟩
    rcases yat.1 hq with rfl | hq
    ·exact⟨zhe _ (2000-n) (uA.fit_ok hx.2.2.2.2.2.1) (by omega) (by omega),zhe _ (2000-fK q n) (uA.fit_ok hx.2.2.2.2.2.2) (by omega) (by omega)⟩
    ·exact h2 h q hq
   ·obtain⟨h1,_⟩:=nZ l (fK x n) (fun y hy=>hf y (by simp[hy])) (by omega)
    exact⟨by omega,fun h=>by omega⟩
  ·exact⟨by omega,fun h=>by omega⟩
theorem zz5{p:fF}(hp:p.fit)(h:zzo p<=2000):fF.cpy p/\p.clauses.length<=2000:=by
 unfold zzo at h;have h1:=zca p.defs (1+(p.name.length:Int) / 30+p.defs.length+p.tables.length+p.clauses.length)
 obtain⟨h2,h3⟩:=zei p.tables (yR p.defs (1+(p.name.length:Int) / 30+p.defs.length+p.tables.length+p.clauses.length))
 obtain⟨h4,h5⟩:=nZ p.clauses (iO p.tables (yR p.defs (1+(p.name.length:Int) / 30+p.defs.length+p.tables.length+p.clauses.length))) hp.clauses (by omega)
 exact⟨⟨by omega,by omega,by omega,h3 (by omega) (by omega),h5 h⟩,by omega⟩
end Go.Proofs
namespace Go.Am
open Go Go.RowKit
section
variable {base:Nat}{W J:aH}{t:Tr lA}{Q:kB}
theorem sL{b:Bool}{x y:T}(h:b=true)(k:qA base W J x t Q):qA base W J (.ite b x y) t Q:=by
 show if b=true then _ else _;rw[if_pos h];exact k
theorem zk2{b:Bool}{x y:T}(h:b≠true)(k:qA base W J y t Q):qA base W J (.ite b x y) t Q:=by
 show if b=true then _ else _;rw[if_neg h];exact k
theorem fH{x:Option zA}{K:zA->T}{v:zA}(h:x=some v)(k:qA base W J (K v) t Q):qA base W J (.opt x K) t Q:=by
 show sG x _;rw[h];exact k
theorem vN{x:Tr lA->Option zA}{K:zA->T}{v:zA}(h:x t=some v)(k:qA base W J (K v) t Q):qA base W J (.light x K) t Q:=by
 show sG (x t) _;rw[h];exact k
theorem dP{f:Nat}{a:List zA}{K:zA->T}(k:W f a t (fun v t'=>qA base W J (K v) t' Q)):qA base W J (.call f a K) t Q:=k
theorem rL{n:Int}{i:IntKind}{K:Int->T}(k:qA base W J (K n) t Q):qA base W J (.asI i (.int i n) K) t Q:=by
 show sG (zyw i (.int i n)) _;rw[yB];exact k
theorem zk3{b:Bool}{K:Bool->T}(k:qA base W J (K b) t Q):qA base W J (.asB (.bool b) K) t Q:=k
theorem jO{zs:List zA}{a:zA}{K:zke->T}{X:zke}(h:wG zs a=some X)(k:qA base W J (K X) t Q):qA base W J (.asG zs a K) t Q:=by
 show sG (wG zs a) _;rw[h];exact k
theorem znm{x:pA->Option (zA × pA)}{K:zA->T}(k:∀b,t.get b=none->base<=b->∃v H,x ⟨b,t⟩=some (v,H)/\qA base W J (K v) H.t Q):qA base W J (.heavy x K) t Q:=by
 intro b h1 h2;obtain⟨v,H,h3,h4⟩:=k b h1 h2
 rw[h3];exact h4
end
section
variable {t:Tr lA}{C:iA}
theorem rE.mid{T el sz:Nat}{agg:Bool}(h:rE C T el sz agg){l:List D}{v:zA}(hr:oA t sz l v){k:Nat}{d:D}(hk:l[k]?=some d) :
  ∃v',uG C T ⟨0,t⟩ v (some (.int .i64 (k:Int))) (some (.int .i64 ((k+1:Nat):Int)))=some v'/\oA t sz [d] v':=by
 obtain⟨⟨y,hy1,hy2⟩,⟨z,hz1,hz2,hz3⟩⟩:=h
 obtain⟨cl,he,hd⟩:=hr
 have hlen:=hd.length
 have hlt:=(yad.1 hk).1
 obtain⟨cs,hc,hrd⟩:=hd.get hk
 unfold uG;rw[hy1,sA];have hb:∀(y n:Nat),oQ y (.int .i64 (n:Int))=uB (Nat.ble n y) (some n):=fun y n=>rfl
 rcases he with⟨rfl,rfl⟩ | ⟨b,off,cap,rfl,hcap,⟨c,n,lo,hg,hlo⟩,he⟩
 ·simp at hlen;omega
 ·refine⟨.slice b (off+k*sz) 1 (cap-k),?_,[cs],.inr ⟨b,off+k*sz,cap-k,rfl,by simp;omega,⟨c,n,lo,hg,hlo⟩,fun i q hi=>?_⟩,eD.2 ⟨cs,[],rfl,hrd,gE.2 rfl⟩⟩
  ·unfold yK
   simp only[zA.asStr,zA.asSlice];rw[hy2,sA];unfold gK;rw[hz1,sA];unfold fM iS;simp only[hb];rw[oE.2 (show k+1<=cap by omega)]
   simp only[dE,sA];rw[oE.2 (show k<=k+1 by omega)]
   simp only[dE,sA];have hne:Nat.beq cap k=false:=by
    cases hq:Nat.beq cap k with
    | false=>rfl
    | true=>have:=wC.1 hq;omega
   have he2:mH ⟨0,t⟩ b z.size cap k false=false:=by
    unfold mH rD;rw[hg,sA];simp only[lA.asCells];rcases hlo with rfl | rfl
    ·rfl
    ·simp[hne]
   rw[he2,Bool.and_false,cond_false];have hf:xH ⟨0,t⟩ b z.size cap k false=true:=by
    unfold xH rD;rw[hg,sA];simp only[lA.asCells];rcases hlo with rfl | rfl
    ·rfl
    ·simp[hz2,hne]
   rw[oE.2 (show k+1<=cap by omega),hf,hne,hz2]
   simp only[Bool.and_self,dE,cond_false];rw[show k+1-k=1 by omega]
  ·rcases i with _ | i
   ·simp at hi
    subst hi;rw[Nat.zero_mul,ybu];exact he k cs hc
   ·simp at hi
end
end Go.Am
namespace Go.Proofs
open Go Go.Am
variable [cC]
variable {t tf:Tr lA}
theorem zjm{N N':List (List Nat)}{K K':List zB}{l m:List XIns}(h:cJ N N' K K' l m):aI N' K' m=aI N K l:=by
 unfold aI;rw[zp4 h,h.length,wY h,z7k h (f:=zrj K) (f':=zrj K') fun i j r=>?_]
 unfold zrj;rw[r.op];by_cases h1:i.op=1
 ·obtain⟨k,k',v,e1,e2,e3,e4⟩:=r.const h1
  rw[e1,e2,show((k:Int)).toNat=k by omega,show((k':Int)).toNat=k' by omega,qR e3,qR e4]
 ·simp[h1]
theorem zo6:∀ {l:List uA},uA.cpys l ↔ ∀x∈l,uA.cpy x
 | []=>by unfold uA.cpys;simp
 | y::l=>by unfold uA.cpys;rw[zo6 (l:=l)];simp
theorem zdh{op:Nat}{name:List Nat}{v:zB}{args:List uA}(hv:v.f.n.limbs.length<1000000/\v.f.d.limbs.length<1000000)(hl:args.length<300000)(ha:∀x∈args,uA.cpy x):uA.cpy (.mk op name v args):=by
 unfold uA.cpy;exact⟨hv,hl,zo6.2 ha⟩
section
variable {N:List (List Nat)}{K:List zB}{code:List XIns}{same:zB->zB->Bool}
theorem ziq{r:Option (List uA)}{x:uA}(h:zqk r=some x):r=some [x]:=by
 unfold zqk at h;split at h
 ·cases h;rfl
 ·cases h
theorem zj3{rd:Nat->Nat->Option uA}{first:uA}{p to:Nat}{q:uA × Nat}(h:rO K code same rd first p to=some q):∃op a,q.1=.mk op [] gH (first::a)/\a.length<=2/\∀y∈a,∃i j,rd i j=some y:=by
 unfold rO at h;repeat' split at h
 all_goals first
  | (cases h;done)
  | (cases h;refine⟨_,_,rfl,by simp,fun z hz=>?_⟩;simp only[yat,List.not_mem_nil,or_false]at hz;rcases hz with rfl | rfl<;>exact⟨_,_,by assumption⟩)
  | (cases h;refine⟨_,_,rfl,by simp,fun z hz=>?_⟩;simp only[yat,List.not_mem_nil,or_false]at hz;subst hz;exact⟨_,_,by assumption⟩)
theorem vY(hc:∀v∈K,zB.mid v):∀(f i to:Nat) (st st':List uA),nI N K code same f i to st=some st'->(∀x∈st,uA.cpy x)->st.length+f<200000->(∀x∈st',uA.cpy x)/\st'.length<=st.length+f
 | 0,_,_,_,_,h,_,_=>by unfold nI at h;cases h
 | f+1,i,to,st,st',h,hs,hl=>by
  have one:∀ {a b:Nat} {y:uA},zqk (nI N K code same f a b [])=some y->uA.cpy y:=fun {a b y} e=>
   (vY hc f a b [] [y] (ziq e) (fun _ h=>by cases h) (by simp;omega)).1 y (by simp)
  have hz:gH.f.n.limbs.length<1000000/\gH.f.d.limbs.length<1000000:=by decide
  unfold nI at h;by_cases c:to<=i
  ·rw[if_pos c]at h
   cases h;exact⟨hs,by omega⟩
  rw[if_neg c]at h
  cases hx:code[i]? with
  | none=>rw[hx]at h;cases h
  | some x=>
   rw[hx]at h;simp only[]at h;by_cases hj:x.op=9\/x.op=10\/x.op=11
   ·rw[if_pos hj]at h
    cases ht:st.getLast? with
    | none=>rw[ht]at h;cases h
    | some top=>
     rw[ht]at h;simp only[]at h;have htop:uA.cpy top:=hs top (List.mem_of_getLast? ht)
     cases hb:rO K code same (fun a b=>zqk (nI N K code same f a b [])) top i to with
     | none=>rw[hb]at h;cases h
     | some q=>
      rw[hb]at h;simp only[]at h;have hq:uA.cpy q.1:=by
       obtain⟨op,l,e1,e2,e3⟩:=zj3 hb
       rw[e1];refine zdh hz (by simp;omega) fun z hzm=>?_
       rcases yat.1 hzm with rfl | hzm
       ·exact htop
       ·obtain⟨_,_,e4⟩:=e3 z hzm
        exact one e4
      have hne:st≠[]:=by intro e;rw[e]at ht;cases ht
      have hpos:0<st.length:=List.length_pos_iff.2 hne
      obtain⟨r1,r2⟩:=vY hc f _ _ _ _ h (fun z hz=>by
       rcases List.mem_append.1 hz with hz | hz
       ·exact hs z (List.dropLast_subset st hz)
       ·simp at hz;subst hz;exact hq) (by simp;omega)
      exact⟨r1,by simp at r2;omega⟩
   ·rw[if_neg hj]at h
    split at h
    ·cases h
    ·obtain⟨r1,r2⟩:=vY hc f _ _ _ _ h (fun z hzm=>by
      rcases List.mem_append.1 hzm with hzm | hzm
      ·exact hs z (List.take_subset _ _ hzm)
      ·have hzm:z=_:=yce.1 hzm
       rw[hzm];have hd:∀w∈st.drop (st.length-(oH x).toNat),uA.cpy w:=fun w hw=>hs w (List.drop_subset _ _ hw)
       have hdl:(st.drop (st.length-(oH x).toNat)).length<300000:=by rw[yck];omega
       unfold dF;split
       ·refine zdh ?_ hdl hd
        cases hv:K[x.a.toNat]? with
        | none=>
         have e:K.getD x.a.toNat gH=gH:=by simp[List.getD,hv]
         rw[e];exact hz
        | some v=>
         rw[qR hv];have:=hc v (ybw hv)
         unfold zB.mid at this;omega
       ·split
        ·exact zdh hz hdl hd
        ·split
         ·exact zdh hz hdl hd
         ·split
          ·exact zdh (by show zry.n.limbs.length<_/\zry.d.limbs.length<_;decide) hdl hd
          ·exact zdh hz hdl hd) (by simp;omega)
     exact⟨r1,by simp at r2;omega⟩
theorem zxd(hc:∀v∈K,zB.mid v){x:uA}(h:aI N K code=some x):uA.cpy x:=by
 unfold aI at h;split at h
 ·cases h
 ·rename_i hs
  split at h
  ·cases h
  ·have hs:cP N.length K.length code=true:=by simpa using hs
   have:=(zeo hs).1
   exact(vY hc _ _ _ _ _ (ziq h) (fun _ h=>by cases h) (by simp;omega)).1 x (by simp)
end
structure PrgR (tf:Tr lA) (names:List (List Nat)) (consts:List zB) (whens thens:List (List XIns)) (a b c vn vc vw vt:zA):Prop where
 a:zA.one a=true
 b:zA.one b=true
 c:zA.one c=true
 n:oA tf 1 (names.map D.str) vn
 k:oA tf 6 (consts.map zB.d) vc
 w:oA tf 1 (whens.map sE) vw
 t:oA tf 1 (thens.map sE) vt
theorem PrgR.mono{names:List (List Nat)}{consts:List zB}{whens thens:List (List XIns)}{a b c vn vc vw vt:zA}{tf':Tr lA}(h:PrgR tf names consts whens thens a b c vn vc vw vt)(k:dA tf tf'):PrgR tf' names consts whens thens a b c vn vc vw vt:=
 ⟨h.a,h.b,h.c,h.n.mono k,h.k.mono k,h.w.mono k,h.t.mono k⟩
def resX (r:Option uA):uA:=r.getD cI
def errX (r:Option uA):Int:=if r.isSome then 0 else 190
def zpk(consts:List zB):Prop:=(∀v∈consts,zB.mid v)/\∀v∈consts,uF.fit v.f
theorem zbm{f:Nat}{nm:List Nat}{names:List (List Nat)}{consts:List zB}{whens thens:List (List XIns)}{code:List XIns}{a b c vn vc vw vt v1:zA}{L:List zD}{K:zA->Int->T}{Q:kB}
  (hp:PrgR tf names consts whens thens a b c vn vc vw vt) (hc:zpk consts) (hv:oA tf 3 (code.map XIns.d) v1) (hl:code.length<1000000) (ho:Objs yA.base tf t L) (hg:dJ tf) (hz0:∃c n,tf.get 0=some (.cells c n none))
  (hQ:∀tf' t' n cs,dA tf tf'->Objs yA.base tf' t' (eC n none cs::L)->RD tf' (resX (aI names consts code)).d cs->wp f (K (.ptr n 0) (errX (aI names consts code))) t' Q) :
  wp f (.heavy (jK yA 50) fun a29=>.call 28 [.agg [.str nm,a,b,c,vn,vc,vw,vt],v1] fun a30=>.opt (bB 0 a30) fun a31=>.asG qF a31 fun X=>.opt (bB 1 a30) fun a33=>.asI .i64 a33 fun n34=>
   .heavy (lD yA 50 a29 (.agg [.int .u8 (X.i 0),.str (X.s 1),.int .u8 (X.i 2),.bool (X.b 3),X.v 4,.bool (X.b 5),X.v 6,.int .i64 (X.i 7),X.v 8])) fun _=>K a29 n34) t Q:=by
 refine znm fun n hn hbn=>?_
 obtain⟨t1,e1,e2,e3,e4⟩:=rU (C:=yA) zsq hn
 refine⟨_,_,e1,?_⟩
 have o1:Objs yA.base tf t1 ([]++eC n none qF::L):=
  Objs.add (A:=[]) (o':=eC n none qF) ho (fun k hk=>e4 k (fun e=>hk (by simp[eC,e]))) (fun k hk=>by
   have:k=n:=by simpa[eC]using hk
   subst this;exact⟨hn,hbn⟩) e2 (by simp[eC]) (ho.tle.trans e3)
 refine dP ?_
 rw[q28];have fC:∀ {tf' t':Tr lA} {x:uA} {cs:List zA} {e:Int},dA tf tf'->Objs yA.base tf' t' ([]++eC n none qF::L)->RD tf' x.d cs->(∀t2,Objs yA.base tf' t2 ([]++eC n none cs::L)->wp f (K (.ptr n 0) e) t2 Q) →
   wp f (.opt (bB 0 (.tup [.agg cs,.int .i64 e])) fun a31=>.asG qF a31 fun X=>.opt (bB 1 (.tup [.agg cs,.int .i64 e])) fun a33=>.asI .i64 a33 fun n34=>
   .heavy (lD yA 50 (.ptr n 0) (.agg [.int .u8 (X.i 0),.str (X.s 1),.int .u8 (X.i 2),.bool (X.b 3),X.v 4,.bool (X.b 5),X.v 6,.int .i64 (X.i 7),X.v 8])) fun _=>K (.ptr n 0) n34) t' Q:=by
  intro tf' t' x cs e k1 k2 k3 hK;refine fH (v:=.agg cs) rfl (jO (pI k3 (uA.zs _)) (fH (v:=.int .i64 e) rfl (rL ?_)))
  have hone:=k3.all
  obtain⟨u1,u2,u3,rfl,_⟩:=bI k3
  refine znm fun m _ _=>?_
  have hcel:vD t' n none qF:=k2.ok (eC n none qF) (by simp)
  obtain⟨t2,s1,s2,s3⟩:=hcel.store (C:=yA) hbn (j:=0) (v:=.agg (jC x u1 u2 u3)) zsq rfl (by show 0+9<=9;decide) hone
  refine⟨_,_,s1 m,hK t2 ?_⟩
  have e:yJ qF 0 (zA.agg (jC x u1 u2 u3)).cells=jC x u1 u2 u3:=rfl
  rw[e]at s2;refine Objs.upd (A:=[]) (o:=eC n none qF) (o':=eC n none (jC x u1 u2 u3)) k2 (fun k h1 _=>s3 k (fun e=>h1 (by simp[eC,e]))) (fun k hk=>.inl hk) s2 (by simp[eC]) ?_
  exact k2.tle.off (k2.low n (by simp[eC])).2 s3
 refine zxe (L:=eC n none qF::L) o1 hp.n hp.k hv (by omega) hc.1 hc.2 hg hz0 hp.a hp.b hp.c hp.w.one hp.t.one ⟨fun x tf' t' cs e k1 k2 k3=>?_,fun e tf' t' k1 k2=>?_⟩
 ·refine fC k1 k2 k3 fun t2 h2=>?_
  have:=hQ tf' t2 n cs k1 h2 (by rw[e];exact k3)
  rw[e]at this;exact this
 ·refine fC (e:=190) k1 k2 eO fun t2 h2=>?_
  have:=hQ tf' t2 n qF k1 h2 (by rw[e];exact eO)
  rw[e]at this;exact this
end Go.Proofs
namespace Go.Proofs
open Go Go.Am
variable [cC]
variable {t tf:Tr lA}
def kH(p:fF)(c:dC):fF:=⟨p.name,p.defs,p.tables,[c]⟩
theorem zva{p:fF}{c:dC}(hp:p.fit)(hc:c∈p.clauses):(kH p c).fit:=
 ⟨hp.name,hp.ndefs,hp.ntables,by show 1<xE;decide,hp.defs,hp.tables,fun d hd=>by
  have:d=c:=by simpa[kH]using hd
  subst this;exact hp.clauses _ hc⟩
theorem zgj{p:fF}{c:dC}(h:jL p=true)(hc:c∈p.clauses):jL (kH p c)=true:=by
 unfold jL at h ⊢
 simp only[yac,decide_eq_true_eq,ybc]at h ⊢
 exact⟨⟨⟨⟨h.1.1.1.1,by show 1<=400;decide⟩,h.1.1.2⟩,fun x hx=>by
  have:x=c:=by simpa[kH]using hx
  subst this;exact h.1.2 _ hc⟩,h.2⟩
theorem zjr{p:fF}(hp:p.fit):zpk (bC p).1.consts:=by
 have l1:=(z0l hp).1
 exact⟨fun v hv=>zcb (zbt (l1.all v hv).1),fun v hv=>(l1.all v hv).2.2.1⟩
theorem z2x{p:fF}{a b c vn vc vw vt:zA}(h1:oA tf 3 (p.defs.map vJ.d) a)(h2:oA tf 3 (p.tables.map nE.d) b)(h3:oA tf 24 ((p.clauses.map xL).map dC.d) c)(h4:oA tf 1 ((bC p).1.names.map D.str) vn)(h5:oA tf 6 ((bC p).1.consts.map zB.d) vc)
  (h6:oA tf 1 ((bC p).2.map fun q=>sE q.1) vw) (h7:oA tf 1 ((bC p).2.map fun q=>sE q.2) vt):PrgR tf (bC p).1.names (bC p).1.consts ((bC p).2.map Prod.fst) ((bC p).2.map Prod.snd) a b c vn vc vw vt:=
 ⟨h1.one,h2.one,h3.one,h4,h5,by rw[List.map_map];exact h6,by rw[List.map_map];exact h7⟩
theorem zmw{p:fF}{a b c vn vc vw vt:zA}(h1:oA tf 3 (p.defs.map vJ.d) a)(h2:oA tf 3 (p.tables.map nE.d) b)(h3:oA tf 24 ((p.clauses.map xL).map dC.d) c)(h4:oA tf 1 ((bC p).1.names.map D.str) vn)(h5:oA tf 6 ((bC p).1.consts.map zB.d) vc)
  (h6:oA tf 1 ((bC p).2.map fun q=>sE q.1) vw) (h7:oA tf 1 ((bC p).2.map fun q=>sE q.2) vt) {nm:List Nat}:wG [(.str []),.nilslice,.nilslice,.nilslice,.nilslice,.nilslice,.nilslice,.nilslice] (.agg [.str nm,a,b,c,vn,vc,vw,vt])=some (cellsOf [.str nm,a,b,c,vn,vc,vw,vt]) ∧
   pB zA.one [.str nm,a,b,c,vn,vc,vw,vt]=true:=by
 refine⟨gL ?_,?_⟩
 ·show(true&&(mG .nilslice a&&(mG .nilslice b&&(mG .nilslice c&&(mG .nilslice vn&&(mG .nilslice vc&&(mG .nilslice vw&&(mG .nilslice vt&&true))))))))=true
  rw[bH h1,bH h2,bH h3,bH h4,bH h5,bH h6,bH h7];rfl
 ·rw[mF];simp only[ybh,ybl,h1.one,h2.one,h3.one,h4.one,h5.one,h6.one,h7.one];rfl
theorem zbe{n:Nat}{x:uA}{cs:List zA}(h:vD t n none cs)(hr:RD t x.d cs):jA yA 50 ⟨0,t⟩ (.ptr n 0)=some (.agg cs):=by
 obtain⟨u1,u2,u3,rfl,_⟩:=bI hr
 have:=h.at.load (C:=yA) (j:=0) (n:=9) zsq rfl rfl (by show 0+9<=9;decide)
 rw[this];rfl
theorem lS{l:List (List XIns)}{v:zA}(hv:oA tf 1 (l.map sE) v)(ht:dA tf t){i:Nat}{x:List XIns}(hx:l[i]?=some x) :
  ∃b off u,xB yA 32 v (.int .i64 (i:Int))=some (.ptr b off)/\jA yA 37 ⟨0,t⟩ (.ptr b off)=some u/\oA tf 3 (x.map XIns.d) u/\vB u=some (.int .i64 (x.length:Int)):=by
 obtain⟨b,off,u,h1,h2,h3⟩:=z7b hv ht hx
 exact⟨b,off,u,h1,h2,h3,by rw[h3.len,yag]⟩
theorem zdy{p:fF}{cs:List zA}{n:Int}(hp:p.fit)(hg:dJ t)(hz0:∃c n,t.get 0=some (.cells c n none))(hrd:RD t p.d cs):Wc yA F 8 [.agg cs,.int .i64 n] t (fun v _=>v=.bool true):=by
 have hs:=zzn hp hrd
 obtain⟨ca,cb,cc,rfl,ha,hbb,hc⟩:=yV hrd
 have hlc:vB cc=some (.int .i64 (p.clauses.length:Int)):=by rw[hc.len,yag]
 refine w8 _ _ _ _ _ ?_
 simp only[t8];refine dP ?_
 rw[q14,z13,xA];refine zk3 (zk2 (by simp) (dP ?_))
 rw[q13,hs,xA];refine rL ?_
 by_cases h2:(2000:Int)<zzo p
 ·exact sL (dB.2 h2) (by trivial)
 obtain⟨hcp,hcl⟩:=zz5 hp (by omega)
 refine zk2 (fun e=>h2 (dB.1 e)) (fH hlc (rL ?_))
 by_cases h3:p.clauses.length=0
 ·exact sL (jE.2 (by omega)) (by trivial)
 refine zk2 (gF (by omega)) (fH hlc (rL (dP ?_)))
 rw[q26];refine z5b (by omega) (by omega) fun k hk=>rL (dP ?_)
 have hcx:p.clauses[k]?=some p.clauses[k]:=yae hk
 have hcm:p.clauses[k]∈p.clauses:=ybk hk
 generalize p.clauses[k]=c at hcx hcm
 rw[q27];refine copy27 hcp (zgn (dA.refl t)) hrd fun tf1 t1 a1 b1 c1 k1 k2 r1 r2 r3=>?_
 have hpl:RD tf1 p.d [.str p.name,a1,b1,c1]:=zvj r1 r2 r3
 refine jO (pI hpl (fF.zs p)) ?_
 obtain⟨c2,s1,s2⟩:=rE.mid (C:=yA) sl24 (r3.mono k2.tle) (k:=k) (d:=c.d) (by simp[hcx])
 have s2':oA tf1 24 ([c].map dC.d) c2:=by
  obtain⟨v',m1,m2⟩:=rE.mid (C:=yA) sl24 r3 (k:=k) (d:=c.d) (by simp[hcx])
  have e:=aY (H:=⟨0,tf1⟩) (HA:=⟨0,t1⟩) (fun _ _ h=>k2.tle _ _ h) m1
  rw[s1]at e
  cases e
  exact m2
 refine sL hpl.all (vN (v:=c2) (by show uG yA 24 ⟨0,t1⟩ c1 _ (some (.int .i64 (vA .i64 ((k:Int)+1))))=_;rw[zC (by omega) (by omega)];exact s1) (sL (by rw[mF];simp only[ybh,ybl,s2.one];rfl) (dP ?_)))
 have hq:RD tf1 (kH p c).d [.str p.name,a1,b1,c2]:=zvj (p:=kH p c) r1 r2 s2'
 have hqf:=zva hp hcm
 have second:∀ {tf2 t2:Tr lA} {Q:kB},dA tf1 tf2->dA tf2 t2->(∀v t',(jL (kH p c)=false/\v=.tup [.agg zpm,.int .i64 2])\/(jL (kH p c)=true/\∃tf3 a b d vn vc vw vt,v=.tup [.agg [.str p.name,a,b,d,vn,vc,vw,vt],.int .i64 0]/\dA tf2 tf3/\dA tf3 t' ∧
   oA tf3 3 ((kH p c).defs.map vJ.d) a/\oA tf3 3 ((kH p c).tables.map nE.d) b/\oA tf3 24 (((kH p c).clauses.map xL).map dC.d) d/\oA tf3 1 ((bC (kH p c)).1.names.map D.str) vn/\oA tf3 6 ((bC (kH p c)).1.consts.map zB.d) vc ∧
   oA tf3 1 ((bC (kH p c)).2.map fun q=>sE q.1) vw/\oA tf3 1 ((bC (kH p c)).2.map fun q=>sE q.2) vt)->Q v t')->Wc yA F 22 [.agg [.str p.name,a1,b1,c2]] t2 Q:=fun {tf2 t2 Q} j1 j2 hQ=>
  zfm hqf j2 (hg.mono (k1.trans j1)) (RD.mono j1 _ _ hq) (fun hb=>hQ _ _ (.inl ⟨hb,rfl⟩)) fun hb tf3 t3 a b d vn vc vw vt m1 m2 m3 m4 m5 m6 m7 m8 m9=>hQ _ _ (.inr ⟨hb,tf3,a,b,d,vn,vc,vw,vt,rfl,m1,m2,m3,m4,m5,m6,m7,m8,m9⟩)
 have hzP:wG [(.str []),.nilslice,.nilslice,.nilslice,.nilslice,.nilslice,.nilslice,.nilslice] (.agg zpm)=some (cellsOf zpm):=gL rfl
 rw[q22];refine zfm hp k2.tle (hg.mono k1) (RD.mono k1 _ _ hrd) (fun hbp=>?_) (fun hbp tf2 t2 a b d vn vc vw vt m1 m2 m3 m4 m5 m6 m7 m8 m9=>?_)
 ·refine fH (v:=.agg zpm) rfl (jO hzP (fH (v:=.int .i64 2) rfl (rL (sL rfl (dP ?_)))))
  rw[q22];refine second (dA.refl _) k2.tle fun v t' hv=>?_
  rcases hv with⟨_,rfl⟩ | ⟨_,tf3,a,b,d,vn,vc,vw,vt,rfl,_,_,n3,n4,n5,n6,n7,n8,n9⟩
  ·exact fH (v:=.agg zpm) rfl (jO hzP (fH (v:=.int .i64 2) rfl (rL (sL rfl (sL (lI.2 (by decide)) (by trivial))))))
  ·obtain⟨e1,e2⟩:=zmw n3 n4 n5 n6 n7 n8 n9 (nm:=p.name)
   exact fH rfl (jO e1 (fH (v:=.int .i64 0) rfl (rL (sL e2 (sL (lI.2 (by decide)) (by trivial))))))
 obtain⟨e1,e2⟩:=zmw m3 m4 m5 m6 m7 m8 m9 (nm:=p.name)
 refine fH rfl (jO e1 (fH (v:=.int .i64 0) rfl (rL (sL e2 (dP ?_)))))
 rw[q22];refine second m1 m2 fun v t' hv=>?_
 rcases hv with⟨hb,_⟩ | ⟨hbq,tf3,a',b',d',vn',vc',vw',vt',rfl,n1,n2,n3,n4,n5,n6,n7,n8,n9⟩
 ·rw[zgj hbp hcm]at hb;cases hb
 obtain⟨e3,e4⟩:=zmw n3 n4 n5 n6 n7 n8 n9 (nm:=p.name)
 refine fH rfl (jO e3 (fH (v:=.int .i64 0) rfl (rL (sL e4 (zk2 (fun e=>absurd rfl (lI.1 e)) (zk2 (fun e=>absurd rfl (lI.1 e)) ?_))))))
 have hP:=(z2x m3 m4 m5 m6 m7 m8 m9).mono n1
 have hP':=z2x n3 n4 n5 n6 n7 n8 n9
 obtain⟨q,q',u1,u2,u3,u4⟩:=zre (key:=cA) (valid:=sB) z04 (kX (by decide) (by decide)) (kX (by decide) (by decide)) (fun v h1 h2=>⟨h2,h1⟩) hp.clauses hqf.clauses hcx (show(kH p c).clauses[0]?=some c from rfl)
 have x1:aI (bC (kH p c)).1.names (bC (kH p c)).1.consts q'.1=aI (bC p).1.names (bC p).1.consts q.1:=zjm u3
 have x2:aI (bC (kH p c)).1.names (bC (kH p c)).1.consts q'.2=aI (bC p).1.names (bC p).1.consts q.2:=zjm u4
 have hk1:=zjr hp
 have hk2:=zjr hqf
 have hbp':=hbp
 unfold jL at hbp';simp only[yac,decide_eq_true_eq]at hbp'
 have hgood:=zfn p.clauses ⟨[],[]⟩ hp.clauses (fun x hx=>ybc.1 hbp'.1.2 x hx) q (ybw u1)
 have l1:q.1.length<1000000:=by have:=hgood.1.1;omega
 have l2:q.2.length<1000000:=by have:=hgood.2.1;omega
 have l3:q'.1.length<1000000:=by rw[u3.length];exact l1
 have l4:q'.2.length<1000000:=by rw[u4.length];exact l2
 have w1:((bC p).2.map Prod.fst)[k]?=some q.1:=by rw[yav];show Option.map _ (vF cA sB p.clauses ⟨[],[]⟩).2[k]?=_;rw[u1];rfl
 have w2:((bC p).2.map Prod.snd)[k]?=some q.2:=by rw[yav];show Option.map _ (vF cA sB p.clauses ⟨[],[]⟩).2[k]?=_;rw[u1];rfl
 have w3:((bC (kH p c)).2.map Prod.fst)[0]?=some q'.1:=by rw[yav];show Option.map _ (vF cA sB (kH p c).clauses ⟨[],[]⟩).2[0]?=_;rw[u2];rfl
 have w4:((bC (kH p c)).2.map Prod.snd)[0]?=some q'.2:=by rw[yav];show Option.map _ (vF cA sB (kH p c).clauses ⟨[],[]⟩).2[0]?=_;rw[u2];rfl
 have lq:(bC (kH p c)).2.length=1:=zjt _ _
 have hgt:=hg.mono (k1.trans (m1.trans n1))
 have hzt:∀ {s:Tr lA},dA tf3 s->∃c n,s.get 0=some (.cells c n none):=fun {s} h=>by
  obtain⟨u,w,e⟩:=hz0
  exact⟨u,w,(k1.trans (m1.trans (n1.trans h))) _ _ e⟩
 refine fH (v:=.int .i64 1) (by show vB vw'=_;rw[n8.len,yag,lq];rfl) (rL (zk2 (fun e=>absurd rfl (lI.1 e)) (fH (v:=.int .i64 1) (by show vB vt'=_;rw[n9.len,yag,lq];rfl) (rL (zk2 (fun e=>absurd rfl (lI.1 e)) ?_)))))
 obtain⟨p1,o1,v1,y1,y2,y3,y4⟩:=lS hP.w n2 w1
 refine fH y1 (vN y2 (zbm hP hk1 y3 l1 (zgn n2) hgt (hzt (dA.refl _)) fun tf4 t4 b4 cs4 z1 z2 z3=>?_))
 obtain⟨p2,o2,v2,y5,y6,y7,y8⟩:=lS (hP'.mono z1).w z2.tle w3
 refine fH y5 (vN y6 (zbm (hP'.mono z1) hk2 y7 l3 z2 (hgt.mono z1) (hzt z1) fun tf5 t5 b5 cs5 z4 z5 z6=>?_))
 obtain⟨p3,o3,v3,y9,y10,y11,y12⟩:=lS (hP.mono (z1.trans z4)).t z5.tle w2
 refine fH y9 (vN y10 (zbm (hP.mono (z1.trans z4)) hk1 y11 l2 z5 (hgt.mono (z1.trans z4)) (hzt (z1.trans z4)) fun tf6 t6 b6 cs6 z7 z8 z9=>?_))
 obtain⟨p4,o4,v4,y13,y14,y15,y16⟩:=lS (hP'.mono (z1.trans (z4.trans z7))).t z8.tle w4
 refine fH y13 (vN y14 (zbm (hP'.mono (z1.trans (z4.trans z7))) hk2 y15 l4 z8 (hgt.mono (z1.trans (z4.trans z7))) (hzt (z1.trans (z4.trans z7))) fun tf7 t7 b7 cs7 z10 z11 z12=>?_))
 have T:=z11.tle
 have d4:RD t7 (resX (aI (bC p).1.names (bC p).1.consts q.1)).d cs4:=RD.mono ((z4.trans (z7.trans z10)).trans T) _ _ z3
 have d5:RD t7 (resX (aI (bC p).1.names (bC p).1.consts q.1)).d cs5:=by rw[<- x1];exact RD.mono ((z7.trans z10).trans T) _ _ z6
 have d6:RD t7 (resX (aI (bC p).1.names (bC p).1.consts q.2)).d cs6:=RD.mono (z10.trans T) _ _ z9
 have d7:RD t7 (resX (aI (bC p).1.names (bC p).1.consts q.2)).d cs7:=by rw[<- x2];exact RD.mono T _ _ z12
 have c4:vD t7 b4 none cs4:=z11.ok (eC b4 none cs4) (by simp)
 have c5:vD t7 b5 none cs5:=z11.ok (eC b5 none cs5) (by simp)
 have c6:vD t7 b6 none cs6:=z11.ok (eC b6 none cs6) (by simp)
 have c7:vD t7 b7 none cs7:=z11.ok (eC b7 none cs7) (by simp)
 have hcpy:∀ {code:List XIns},uA.cpy (resX (aI (bC p).1.names (bC p).1.consts code)):=fun {code}=>by
  cases hx:aI (bC p).1.names (bC p).1.consts code with
  | none=>show uA.cpy cI;exact zdh (by decide) (by decide) (fun _ h=>by cases h)
  | some x=>exact zxd hk1.1 hx
 have x1':errX (aI (bC (kH p c)).1.names (bC (kH p c)).1.consts q'.1)=errX (aI (bC p).1.names (bC p).1.consts q.1):=by rw[x1]
 have x2':errX (aI (bC (kH p c)).1.names (bC (kH p c)).1.consts q'.2)=errX (aI (bC p).1.names (bC p).1.consts q.2):=by rw[x2]
 refine sL (by rw[x1'];exact jE.2 rfl) (sL (by rw[x2'];exact jE.2 rfl) ?_)
 have A4:=pI d4 (uA.zs _)
 have A5:=pI d5 (uA.zs _)
 have A6:=pI d6 (uA.zs _)
 have A7:=pI d7 (uA.zs _)
 have L4:=zbe c4 d4
 have L5:=zbe c5 d5
 have L6:=zbe c6 d6
 have L7:=zbe c7 d7
 obtain⟨f1,f2,f3,rfl,_⟩:=bI d4
 obtain⟨f4,f5,f6,rfl,_⟩:=bI d5
 obtain⟨f7,f8,f9,rfl,_⟩:=bI d6
 obtain⟨g1,g2,g3,rfl,_⟩:=bI d7
 refine vN L4 (jO A4 (vN L5 (jO A5 (dP ?_))))
 rw[q29];refine zuf _ _ _ t7 _ hcpy d4 d5 (zk3 (sL rfl ?_))
 refine vN L6 (jO A6 (vN L7 (jO A7 (dP ?_))))
 rw[q29];refine zuf _ _ _ t7 _ hcpy d6 d7 (zk3 (sL rfl ?_))
 have Z:=(z1.trans (z4.trans (z7.trans z10)))
 obtain⟨_,_,v1',i1,i2,_,i3⟩:=lS (hP.mono Z).w T w1
 obtain⟨_,_,v2',i4,i5,_,i6⟩:=lS (hP'.mono Z).w T w3
 obtain⟨_,_,v3',i7,i8,_,i9⟩:=lS (hP.mono Z).t T w2
 obtain⟨_,_,v4',i10,i11,_,i12⟩:=lS (hP'.mono Z).t T w4
 refine fH i1 (vN i2 (fH i3 (rL (fH i4 (vN i5 (fH i6 (rL (sL (jE.2 (by have:=u3.length;omega)) ?_))))))))
 refine fH i7 (vN i8 (fH i9 (rL (fH i10 (vN i11 (fH i12 (rL ?_)))))))
 show(zA.bool (wA (q.2.length:Int) (q'.2.length:Int)))=.bool true
 rw[jE.2 (by have:=u4.length;omega)]
end Go.Proofs
namespace Go.Am
open Go Go.RowKit Go.Proofs
theorem apart8{w:World}(hL:fI w){cs:Array Value}{p:fF}{n:Int}(hp:p.fit)(hh:Has w.heap.size cs.toList)(hrd:RD (vI w) p.d (cs.toList.map (av w.heap.size))) :
  Calls Tryz.prog 8 #[.agg cs,.int .i64 n] w fun e w'=>e=.returned (.bool true)/\Below w.heap.size w w':=
 zpv hL 8 [.agg (cs.toList.map (av w.heap.size)),.int .i64 n] _ (by intro _;kernel_rfl) (.cons (zz4 hh) (.single (by rw[rA])))
  ⟨_,zdy hp (zw2 hL) (block0 hL) hrd,fun v t h=>h⟩
end Go.Am
