/- Trees: the operations that change memory leave an overlay as it is; the light operations are sound. -/
import Derived.Lib.ItoaNum
import Derived.Shelf.Strings.Builder1
import Derived.Test.YtfijloeeppcipaaGreatDoorB05
set_option linter.all false
noncomputable section
namespace Go.Am
open Go Go.RowKit
section
variable {base:Nat}{t:Tr rA}{X:Xt}{H HA:xA}{e e':pC}{C:pA}{v:zA}
theorem Ov.newBlk(h:Ov base t X HA)(y:rA):Ov base (t.set HA.next y) X (newBlk HA y):=by
 refine⟨Nat.le_succ_of_le h.base,fun b hb=>?_,fun b z hb=>?_,fun b z hb=>?_⟩
 ·show(HA.t.set HA.next y).get b=_
  rw[Tr.get_set,Tr.get_set];split
  ·rfl
  ·exact h.same b hb
 ·obtain⟨h1,h2,h3⟩:=h.ext b z hb
  have hne:b≠HA.next:=Nat.ne_of_lt h3
  refine⟨?_,?_,Nat.lt_succ_of_lt h3⟩
  ·show(HA.t.set HA.next y).get b=_
   rw[Tr.get_set,if_neg hne];exact h1
  ·rw[Tr.get_set,if_neg hne];exact h2
 ·rw[Tr.get_set]at hb
  show b<HA.next+1
  split at hb
  ·rename_i e;rw[e];exact Nat.lt_succ_self _
  ·exact Nat.lt_succ_of_lt (h.lt _ _ hb)
theorem Ov.setBlk(h:Ov base t X HA){b:Nat}{y:rA}(hb:t.get b=some y)(z:rA):Ov base (t.set b z) X (setBlk HA b z):=by
 refine⟨h.base,fun c hc=>?_,fun c u hc=>?_,fun c u hc=>?_⟩
 ·show(HA.t.set b z).get c=_
  rw[Tr.get_set,Tr.get_set];split
  ·rfl
  ·exact h.same c hc
 ·obtain⟨h1,h2,h3⟩:=h.ext c u hc
  have hne:c≠b:=fun e=>by rw[e,hb]at h2;cases h2
  refine⟨?_,?_,h3⟩
  ·show(HA.t.set b z).get c=_
   rw[Tr.get_set,if_neg hne];exact h1
  ·rw[Tr.get_set,if_neg hne];exact h2
 ·rw[Tr.get_set]at hc
  show c<HA.next
  split at hc
  ·rename_i e;rw[e];exact h.lt _ _ hb
  ·exact h.lt _ _ hc
theorem Ov.delBlk(h:Ov base t X HA){b:Nat}{y:rA}(hb:t.get b=some y):Ov base (t.del b) X ⟨HA.next,HA.t.del b⟩:=by
 refine⟨h.base,fun c hc=>?_,fun c u hc=>?_,fun c u hc=>?_⟩
 ·show(HA.t.del b).get c=_
  rw[Tr.get_del,Tr.get_del];split
  ·rfl
  ·exact h.same c hc
 ·obtain⟨h1,h2,h3⟩:=h.ext c u hc
  have hne:c≠b:=fun e=>by rw[e,hb]at h2;cases h2
  refine⟨?_,?_,h3⟩
  ·show(HA.t.del b).get c=_
   rw[Tr.get_del,if_neg hne];exact h1
  ·rw[Tr.get_del,if_neg hne];exact h2
 ·rw[Tr.get_del]at hc
  show c<HA.next
  split at hc
  ·cases hc
  ·exact h.lt _ _ hc
def zt6 (base:Nat)(x:xA->Option (zA × xA)):Prop:=∀t X HA v H',Ov base t X HA->x ⟨HA.next,t⟩=some (v,H')->∃HA',x HA=some (v,HA')/\Ov base H'.t X HA'
theorem kQ(l:List zA)(lo:Option Lo)(h:Ov base t X HA):Ov base (dD ⟨HA.next,t⟩ l lo).t X (dD HA l lo):=h.newBlk _
theorem zuv{ty:Nat}:zt6 base (dG C ty):=by
 intro t X HA v H' ho h;unfold dG at h ⊢
 rw[sA]at h;obtain⟨y,h1,h2⟩:=h
 cases h2;rw[h1];exact⟨_,rfl,kQ _ _ ho⟩
theorem z66{u:zA}:zt6 base (zpc u):=by
 intro t X HA v H' ho h
 cases h;exact⟨_,rfl,kQ _ _ ho⟩
theorem zr4{ty:Nat}:zt6 base (zg6 C ty):=by
 intro t X HA v H' ho h;unfold zg6 at h ⊢
 rw[sA]at h;obtain⟨y,h1,h3⟩:=h
 cases h3;rw[h1,uA];exact⟨_,rfl,kQ _ _ ho⟩
theorem z1f{ty:Nat}{u:zA}:zt6 base (zr2 C ty u):=by
 intro t X HA v H' ho h;unfold zr2 at h ⊢
 cases h;exact⟨_,rfl,kQ _ _ ho⟩
theorem zez{ty n:Nat}{ps:List (Nat × zA)}:zt6 base (jH C ty n ps):=by
 intro t X HA v H' ho h;unfold jH at h ⊢
 simp only[sA,xB]at h;obtain⟨a,h1,b,h2,c,h3,h4,l,h5,h6⟩:=h
 cases h6;refine⟨dD HA l none,?_,kQ _ _ ho⟩
 simp only[sA,xB];exact⟨a,h1,b,h2,c,h3,h4,l,h5,rfl⟩
theorem zcu(ho:Ov base t X HA){b off:Nat}{l:List zA}{H':xA}(h:uI C ⟨HA.next,t⟩ b off l=some H'):∃HA',uI C HA b off l=some HA'/\Ov base H'.t X HA':=by
 unfold uI at h ⊢
 simp only[sA,xB]at h;obtain⟨h1,c,h2,h3,h4⟩:=h
 cases h4;have h2':=h2
 unfold uD at h2';rw[sA]at h2'
 obtain⟨y,h5,_⟩:=h2'
 refine⟨_,?_,ho.setBlk h5 _⟩
 simp only[sA,xB];exact⟨h1,c,wM ho.le h2,h3,rfl⟩
theorem zur{ty:Nat}{a u:zA}:zt6 base (dC C ty a u):=by
 intro t X HA v H' ho h;unfold dC at h ⊢
 simp only[sA,xB]at h;obtain⟨y,h1,p,h2,h3,H1,h4,h5⟩:=h
 cases h5;obtain⟨HA',h6,h7⟩:=zcu ho h4
 refine⟨HA',?_,h7⟩
 simp only[sA,xB];exact⟨y,h1,p,h2,h3,HA',h6,rfl⟩
theorem zml:zt6 base mV:=by
 intro t X HA v H' ho h
 cases h;exact⟨_,rfl,ho.newBlk _⟩
theorem zfh{ty:Nat}{m k u:zA}:zt6 base (vI C ty m k u):=by
 intro t X HA v H' ho h;unfold vI at h ⊢
 simp only[sA,xB]at h;obtain⟨a,h1,b,h2,c,h3,h4,d,h5,h6,l,h7,h8,l',h9,h10⟩:=h
 cases h10;have h7':=h7
 unfold oG at h7';rw[sA]at h7'
 obtain⟨y,h11,_⟩:=h7'
 refine⟨_,?_,ho.setBlk h11 _⟩
 simp only[sA,xB];exact⟨a,h1,b,h2,c,h3,h4,d,h5,h6,l,eT ho.le h7,h8,l',h9,rfl⟩
theorem z0n(ho:Ov base t X HA){e:RE}{H':xA}(h:bP C ⟨HA.next,t⟩ e=some H'):∃HA',bP C HA e=some HA'/\Ov base H'.t X HA'/\HA'.next=HA.next/\H'.next=HA.next:=by
 obtain⟨x,y,h1,h2,rfl⟩:=cW.1 h
 exact⟨setBlk HA e.blk y,cW.2 ⟨x,y,ho.up h1,h2,rfl⟩,ho.setBlk h1 _,rfl,rfl⟩
theorem zlu:∀ {l:List RE} {t:Tr rA} {HA:xA} {H':xA},Ov base t X HA->yR C l ⟨HA.next,t⟩=some H'->∃HA',yR C l HA=some HA'/\Ov base H'.t X HA'
 | [],t,HA,H',ho,h=>by cases h;exact⟨HA,rfl,ho⟩
 | e::l,t,HA,H',ho,h=>by
  unfold yR at h ⊢
  rw[sA]at h;obtain⟨H1,h1,h⟩:=h
  obtain⟨HA1,g1,g2,g3,g4⟩:=z0n ho h1
  rw[g1,uA];obtain⟨n1,t1⟩:=H1
  have g4:n1=HA.next:=g4
  subst g4;rw[<- g3]at h;exact zlu g2 h
theorem zwj(ho:Ov base t X HA){e:RE}(h:zc8 C ⟨HA.next,t⟩ e=true):zc8 C HA e=true:=by
 cases e with
 | st b off l=>
  change (!fG (uI C ⟨HA.next,t⟩ b off l))=true at h
  show(!fG (uI C HA b off l))=true
  cases hs:uI C ⟨HA.next,t⟩ b off l with
  | none=>rw[hs]at h;cases h
  | some H'=>obtain⟨HA',g,_⟩:=zcu ho hs;rw[g];rfl
 | up b k v=>
  unfold zc8 at h ⊢
  rw[yac]at h ⊢
  refine⟨h.1,?_⟩
  have h2:=h.2
  split at h2
  ·rename_i hm;rw[eT ho.le hm]
  ·cases h2
theorem zuu{es:List Eff}:zt6 base (uP C es):=by
 intro t X HA v H' ho h;unfold uP fP at h ⊢
 simp only[sA,xB,yac]at h;obtain⟨H1,⟨rs,h1,⟨h2,h3⟩,h4⟩,h5⟩:=h
 cases h5;obtain⟨HA',g1,g2⟩:=zlu ho h4
 refine⟨HA',?_,g2⟩
 simp only[sA,xB,yac];refine⟨HA',⟨rs,h1,⟨h2,?_⟩,g1⟩,rfl⟩
 rw[gG,ybc]at h3 ⊢
 exact fun e he=>zwj ho (h3 e he)
theorem zg5{ty:Nat}{l c:zA}:zt6 base (qN C ty l c):=by
 intro t X HA v H' ho h;unfold qN at h ⊢
 simp only[sA,xB]at h;obtain⟨a,h1,b,h2,d,h3,n,h4,m,h5,h6,h7⟩:=h
 cases h7;refine⟨dD HA (gI d.zero m) none,?_,kQ _ _ ho⟩
 simp only[sA,xB];exact⟨a,h1,b,h2,d,h3,n,h4,m,h5,h6,rfl⟩
theorem zmj{s d:Nat}{u:zA}:zt6 base (zg4 C s d u):=by
 intro t X HA v H' ho h;unfold zg4 at h ⊢
 simp only[sA,xB]at h;obtain⟨a,h1,b,h2,c,h3,et,h4,k,h5,h6,l,h7,h8⟩:=h
 cases h8;refine⟨dD HA (eO l) (some (.ty c)),?_,kQ _ _ ho⟩
 simp only[sA,xB];exact⟨a,h1,b,h2,c,h3,et,h4,k,h5,h6,l,h7,rfl⟩
theorem zn8(h:HLe H HA){sz n:Nat}{u:zA}{l:List zA}(hx:cN H sz n u=some l):cN HA sz n u=some l:=by
 unfold cN at hx ⊢
 split at hx
 ·rw[sA]at hx ⊢
  obtain⟨c,h1,h2⟩:=hx
  exact⟨c,wM h h1,h2⟩
 ·exact hx
theorem zt3(ho:Ov base t X HA){ty:uC}{a b:zA}{H':xA}(h:aP C ⟨HA.next,t⟩ ty a b=some (v,H')):∃HA',aP C HA ty a b=some (v,HA')/\Ov base H'.t X HA':=by
 unfold aP at h;simp only[sA]at h;obtain⟨el,h1,et,h2,n,h3,new,h4,h5⟩:=h
 have h4':=zn8 ho.le h4
 suffices hs:∃HA',(match a.asSlice with
  | some s=>bif Nat.ble (s.2.2.1+n) s.2.2.2 then xS C HA et n new s else gQ C HA el et n new s
  | none=>iA (Nat.beq a.tag 5) (eL HA el et n new))=some (v,HA')/\Ov base H'.t X HA' by
  obtain⟨HA',g1,g2⟩:=hs
  refine⟨HA',?_,g2⟩
  unfold aP;simp only[sA];exact⟨el,h1,et,h2,n,h3,new,h4',g1⟩
 cases hs:a.asSlice with
 | some s=>
  rw[hs]at h5;simp only[]at h5 ⊢
  rw[jB]at h5;split at h5
  ·rename_i hr
   simp only[hr,cond_true];unfold xS at h5 ⊢
   split at h5
   ·cases h5;exact⟨HA,rfl,ho⟩
   ·rw[sA]at h5
    obtain⟨H1,g1,g2⟩:=h5
    cases g2
    obtain⟨HA',g3,g4⟩:=zcu ho g1
    exact⟨HA',by simp only[g3,uA],g4⟩
  ·rename_i hr
   simp only[Bool.not_eq_true]at hr;simp only[hr,cond_false];unfold gQ at h5 ⊢
   rw[xB]at h5;obtain⟨gm,h5⟩:=h5
   rw[xB]at h5;obtain⟨g0,h5⟩:=h5
   rw[sA]at h5;obtain⟨c,g1,h5⟩:=h5
   have g1':=wM ho.le g1
   unfold uD at g1;rw[sA]at g1;obtain⟨y,g2,_⟩:=g1
   split at h5
   ·rename_i hc
    unfold zV at h5;rw[sA]at h5;obtain⟨old,g3,g4⟩:=h5
    cases g4
    refine⟨dD HA (eC old new) (some (bH el et)),?_,kQ _ _ ho⟩
    simp only[xB,sA];refine⟨gm,g0,c,g1',?_⟩
    rw[hc];unfold zV;simp only[sA];exact⟨old,g3,rfl⟩
   ·rename_i es hc
    unfold yV at h5;rw[xB]at h5;obtain⟨g3,g4⟩:=h5
    cases g4
    refine⟨⟨HA.next+1,(HA.t.del s.1).set HA.next (.cells (c.1.setMany new (s.2.2.1*et.size)) ((s.2.2.1+n)*et.size) (some es))⟩,?_,(ho.delBlk g2).newBlk _⟩
    simp only[xB,sA];refine⟨gm,g0,c,g1',?_⟩
    rw[hc];unfold yV;exact xB.2 ⟨g3,rfl⟩
 | none=>
  rw[hs]at h5;simp only[]at h5 ⊢
  rw[xB]at h5;obtain⟨g0,h5⟩:=h5
  unfold eL at h5;rw[jB]at h5;split at h5
  ·rename_i hn
   cases h5;refine⟨HA,?_,ho⟩
   rw[xB];refine⟨g0,?_⟩
   unfold eL;rw[hn];rfl
  ·rename_i hn
   rw[xB]at h5;obtain⟨g1,h5⟩:=h5
   cases h5;refine⟨dD HA new (some (bH el et)),?_,kQ _ _ ho⟩
   rw[xB];refine⟨g0,?_⟩
   unfold eL;simp only[Bool.not_eq_true]at hn;rw[hn,cond_false,xB];exact⟨g1,rfl⟩
theorem zr3{ty u:Nat}{a b:zA}:zt6 base (zG C ty u a b):=by
 intro t X HA v H' ho h;unfold zG at h;simp only[sA,xB]at h;obtain⟨y,h1,z,h2,h3,h4⟩:=h
 obtain⟨HA',g1,g2⟩:=zt3 ho h4
 refine⟨HA',?_,g2⟩
 unfold zG;simp only[sA,xB];exact⟨y,h1,z,h2,h3,g1⟩
end
def zbb(ν:Nat->Nat)(ae:cJ)(e:pC):Prop:=∀i p,tAd ae i=some p->z05 i e=some (.ptr (ν p.1) p.2)
def z00(base:Nat)(X0 X:Xt)(ν:Nat->Nat)(lo:Tr (List zA)):Prop:=∀d l,lo.get d=some l->X0 (ν d)=none/\base<=ν d/\∃c,X (ν d)=some (.cells c l.length none)/\∀j a,l[j]?=some a->c.get j=some a
theorem kD{base:Nat}{W J:rH}{α:Type}{x:Option α}{K:α->T}{t:Tr rA}{Q:aB}:qA base W J (kB x K) t Q ↔ ∃a,x=some a/\qA base W J (K a) t Q:=by
 cases x with
 | none=>exact⟨fun h=>(by cases h),fun⟨_,h,_⟩=>(by cases h)⟩
 | some a=>exact⟨fun h=>⟨a,rfl,h⟩,fun⟨_,h,k⟩=>(by cases h;exact k)⟩
theorem bJ{base:Nat}{W J:rH}{b:Bool}{K:T}{t:Tr rA}{Q:aB}:qA base W J (gdT b K) t Q ↔ b=true/\qA base W J K t Q:=by
 cases b with
 | false=>exact⟨fun h=>(by cases h),fun⟨h,_⟩=>(by cases h)⟩
 | true=>exact⟨fun h=>⟨rfl,h⟩,fun⟨_,h⟩=>h⟩
theorem wP{base:Nat}{W J:rH}{x:Option zA}{K:zA->T}{t:Tr rA}{Q:aB}:qA base W J (.opt x K) t Q ↔ ∃a,x=some a/\qA base W J (K a) t Q:=vO
theorem yU{base:Nat}{W J:rH}{x:Tr rA->Option zA}{K:zA->T}{t:Tr rA}{Q:aB}:qA base W J (.light x K) t Q ↔ ∃a,x t=some a/\qA base W J (K a) t Q:=vO
theorem zcg{ν:Nat->Nat}{ae:cJ}{e:pC}(h:zbb ν ae e){x:Operand}{p:Nat × Nat}(hx:xAd ae x=some p):ev x e=some (.ptr (ν p.1) p.2):=by
 cases x with
 | tmp i=>exact h i p hx
 | const _=>cases hx
 | global _=>cases hx
 | func _=>cases hx
theorem zxl{c:Tr zA}{l:List zA}(h:∀j a,l[j]?=some a->c.get j=some a):∀(n off:Nat),off+n<=l.length->c.many n off=some ((l.drop off).take n):=by
 intro n;induction n with
 | zero=>intro off _;simp;rfl
 | succ n ih=>
  intro off ho;have hlt:off<l.length:=by omega
  rw[Tr.many_succ,h off l[off] (yae hlt),uA,ih (off+1) (by omega),uA]
  rw[yam hlt,List.take_succ_cons]
section
variable {W J:rH}{t:Tr rA}{X X0:Xt}{HA:xA}{e eA:pC}{C:pA}{ν:Nat->Nat}{ae:cJ}{lo:Tr (List zA)}{k:KOp}{Q:aB}{R:zA->Prop}
theorem zqm(ho:Ov C.base t X HA)(hl:z00 C.base X0 X ν lo){d off ty:Nat}{l:List zA}{y:uC}{v:zA}(h1:lo.get d=some l)(h2:C.tys.get ty=some y)(h3:Nat.ble (off+y.size) (dA l)=true)(h4:aK C ty l off=some v) :
  oA C ty HA (.ptr (ν d) off)=some v:=by
 obtain⟨_,_,c,hc,hg⟩:=hl d l h1
 have hb:=(ho.ext _ _ hc).1
 unfold oA;simp only[zA.asPtr,uA];rw[h2,uA];unfold uD;rw[hb,uA];simp only[rA.asCells,uA];unfold aK at h4;rw[h2,uA]at h4;unfold fM;rw[jB]at h4 ⊢
 rw[eD,jC]at h3;split at h4
 ·rename_i ha
  rw[if_pos ha,zxl hg _ _ h3,uA];rw[iM,jN]at h4;exact h4
 ·rename_i ha
  rw[if_neg ha];rw[pF]at h4;exact hg _ _ h4
theorem nM(he:tN e eA){op:Op}(hp:nN op=true\/(∃s d x,op=.convert s d x/\(tG C d=1\/tG C s=2))\/(∃c,op=.call c/\(c.callee=.builtin .max\/c.callee=.builtin .min)))
  (h:qA C.base W J (zpj C op e k) t Q) (hKd:∀v,qA C.base W J (k.Kd v) t Q->R v):∃v,(qE op).f C eA HA=some v/\R v:=by
 unfold zpj at h;rw[kD]at h;obtain⟨v,h1,h2⟩:=h
 exact⟨v,z38 he hp h1,hKd v h2⟩
theorem zut{ty:Nat}{u v:zA}{H:xA}(ht:tG C ty=4)(h:xC u=some v):zuc C ty H u=some v:=by
 unfold tG at ht
 cases hy:C.tys.get ty with
 | none=>rw[hy]at ht;cases ht
 | some y=>
  rw[hy]at ht;have ht:y.desc.tag=4:=ht
  unfold zuc;rw[hy,uA];unfold xC at h;unfold zue
  cases u<;>simp only[zA.asSlice,zA.asStr,zA.asMap,zA.tag]at h ⊢ <;> (try (rw[xB]at h;exact absurd h.1 (by decide)))
  case nilslice=>
   rw[xB]at h;have hn:y.desc.asArr=none:=by cases hd:y.desc<;>rw[hd]at ht<;>first | rfl | (cases ht;done)
   rw[hn,ht];simp only[sA,xB];exact⟨0,⟨rfl,rfl⟩,h.2⟩
  case slice a b n m=>
   rw[ht]
   cases h;simp only[sA,xB];exact⟨n,⟨rfl,rfl⟩,rfl⟩
theorem zyz{ty:Nat}{u v:zA}{H H':xA}(ht:tG C ty≠6)(h:zuc C ty H u=some v):zuc C ty H' u=some v:=by
 unfold zuc at h ⊢
 simp only[sA]at h ⊢
 obtain⟨y,h1,n,h2,h3⟩:=h
 refine⟨y,h1,n,?_,h3⟩
 have ht:¬ Nat.beq y.desc.tag 6=true:=by
  intro hb;apply ht;unfold tG;rw[h1];exact mB.1 hb
 unfold zue at h2 ⊢
 split at h2
 ·exact h2
 ·split at h2
  ·exact h2
  ·split at h2
   ·exact h2
   ·split at h2
    ·rw[xB]at h2;exact absurd h2.1 ht
    ·exact h2
theorem zv7{ty:Nat}{a v:zA}{l h:Option zA}{H H':xA}(ht:tG C ty=2)(hx:aF C ty H a l h=some v):aF C ty H' a l h=some v:=by
 unfold aF at hx ⊢
 rw[sA]at hx ⊢
 obtain⟨y,h1,h2⟩:=hx
 refine⟨y,h1,?_⟩
 unfold tG at ht;rw[h1]at ht;have ht:y.desc.tag=2:=ht
 unfold zK at h2 ⊢
 have n1:y.desc.asSlice=none:=by cases hd:y.desc<;>rw[hd]at ht<;>first | rfl | (cases ht;done)
 have n2:y.desc.asArr=none:=by cases hd:y.desc<;>rw[hd]at ht<;>first | rfl | (cases ht;done)
 split at h2
 ·exact h2
 ·split at h2
  ·rw[n1]at h2;cases h2
  ·split at h2
   ·rw[n2]at h2;cases h2
   ·exact h2
theorem zdf{u:zA}(h:zA.one u=true):u.cells=[u]:=by
 cases u<;>first
  | rfl
  | (have:=dB.1 h;simp[zA.tag]at this)
theorem ztn{tyAt:Nat->Option Nat}(place:Nat->Option (Nat × Nat)):∀(vs:List (Nat × zA)) {q:List (Nat × zA × List zA) × List zA},zw2 C tyAt vs=some q->tC zA.one q.2=true->∀cells l,z32 place q.1 cells=some l->fJ place vs cells=some l:=by
 intro vs;induction vs with
 | nil=>intro q h _ cells l hl;cases h;exact hl
 | cons p vs ih=>
  intro q h h1 cells l hl;have h:(ob (tyAt p.1) fun t=>ob (C.tys.get t) fun ty=>ob (zw2 C tyAt vs) fun r=>some (bif ty.desc.isAgg then((p.1,p.2,p.2.cells)::r.1,r.2)else((p.1,p.2,[p.2])::r.1,p.2::r.2)))=some q:=h
  simp only[sA]at h;obtain⟨ty,_,y,_,r,h3,h4⟩:=h
  have fE:∀(rest:List zA),tC zA.one r.2=true->(ob (place p.1) fun q=>ob (z31 cells q.1 q.2 p.2.cells) fun cells=>z32 place r.1 cells)=some l->fJ place (p::vs) cells=some l:=by
   intro _ hr hl;show(ob (place p.1) fun q=>ob (wN cells q.1 q.2 p.2) fun cells=>fJ place vs cells)=some l
   simp only[sA]at hl ⊢
   obtain⟨a,g1,b,g2,g3⟩:=hl
   exact⟨a,g1,b,g2,ih h3 hr _ _ g3⟩
  cases hb:y.desc.isAgg with
  | true=>
   rw[hb]at h4
   cases h4;exact fE [] h1 hl
  | false=>
   rw[hb]at h4
   cases h4;rw[gG,cond_false]at h1;simp only[ybh,yac]at h1;have hl:(ob (place p.1) fun q=>ob (z31 cells q.1 q.2 [p.2]) fun cells=>z32 place r.1 cells)=some l:=hl
   rw[<- zdf h1.1]at hl;exact fE [] (by rw[gG];exact h1.2) hl
theorem z7c(he:tN e eA)(ha:zbb ν ae eA)(ho:Ov C.base t X HA)(hl:z00 C.base X0 X ν lo){op:Op}(h:qA C.base W J (tL C op e ae lo k) t Q)
  (hK:∀v,qA C.base W J (k.K v) t Q->R v) (hKd:∀v,qA C.base W J (k.Kd v) t Q->R v) (hKA:∀d off,qA C.base W J (k.KA d off) t Q->R (.ptr (ν d) off)) :
  ∃v,(qE op).f C eA HA=some v/\R v:=by
 cases op<;>simp only[tL]at h<;>try (cases h;done)
 case move x=>
  unfold z1m at h;split at h
  ·rename_i p hp
   exact⟨_,zcg ha hp,hKA _ _ h⟩
  ·exact nM he (.inl rfl) h hKd
 case assign x=>
  unfold z1m at h;split at h
  ·rename_i p hp
   exact⟨_,zcg ha hp,hKA _ _ h⟩
  ·exact nM he (.inl rfl) h hKd
 case pick c a b=>exact nM he (.inl rfl) h hKd
 case load ty a=>
  unfold tLoad at h;split at h
  ·rename_i p hp
   simp only[kD,bJ]at h;obtain⟨l,h1,y,h2,h3,v,h4,h5⟩:=h
   refine⟨v,?_,hKd v h5⟩
   show qO ty a C eA HA=some v
   rw[zx9,zcg ha hp,uA];exact zqm ho hl h1 h2 h3 h4
  ·rw[kD]at h
   obtain⟨u,h1,h2⟩:=h
   rw[yU]at h2;obtain⟨v,h3,h4⟩:=h2
   refine⟨v,?_,hK v h4⟩
   show qO ty a C eA HA=some v
   rw[zx9,gC he h1,uA];exact wX ho.le h3
 case nilCheck x=>
  unfold tNil at h;split at h
  ·rename_i p hp
   refine⟨_,?_,hKA _ _ h⟩
   show z28 x C eA HA=_
   rw[z5x (zcg ha hp)];rfl
  ·rw[kD]at h
   obtain⟨u,h1,h2⟩:=h
   rw[wP]at h2;obtain⟨v,h3,h4⟩:=h2
   refine⟨v,?_,hK v h4⟩
   show z28 x C eA HA=_
   rw[z5x (gC he h1)];exact h3
 case binOp op ty x y u=>
  unfold tBin at h;rw[jB]at h;split at h
  ·exact nM he (.inl rfl) h hKd
  ·simp only[kD,wP]at h
   obtain⟨a,h1,b,h2,v,h3,h4⟩:=h
   refine⟨v,?_,hK v h4⟩
   show zye op ty x y C eA HA=_
   rw[lBin_v (gC he h1) (gC he h2)];exact h3
 case unOp o ty x=>
  split at h
  ·simp only[kD,wP]at h
   obtain⟨u,h1,v,h2,h3⟩:=h
   refine⟨v,?_,hK v h3⟩
   show lUn .xor x C eA HA=_
   unfold lUn;rw[gC he h1];exact h2
  ·exact nM he (.inl rfl) h hKd
 case convert s d x=>
  unfold z7e at h;rw[jB]at h;split at h
  ·rename_i hd
   rw[jB]at h;split at h
   ·rename_i hs
    exact nM he (.inr (.inl ⟨s,d,x,rfl,.inr (mB.1 hs)⟩)) h hKd
   ·simp only[kD,yU]at h
    obtain⟨u,h1,v,h2,h3⟩:=h
    refine⟨v,?_,hK v h3⟩
    show jK s d x C eA HA=_
    rw[zyc (gC he h1)];exact zr1 ho.le h2
  ·rw[jB]at h
   split at h
   ·rename_i hd
    exact nM he (.inr (.inl ⟨s,d,x,rfl,.inl (mB.1 hd)⟩)) h hKd
   ·cases h
 case makeInterface ty x=>exact nM he (.inl rfl) h hKd
 case makeFunc fn a b=>exact nM he (.inl rfl) h hKd
 case slice ty x lo' hi mx=>
  cases mx with
  | some _=>cases h
  | none=>
   simp only[z5b,kD]at h;obtain⟨a,h1,l,h2,r,h3,h4⟩:=h
   rw[jB]at h4;show ∃v,jQ ty x lo' hi C eA HA=some v/\R v
   rw[z27 (gC he h1) (zrc he h2) (zrc he h3)]
   split at h4
   ·rename_i ht
    rw[wP]at h4;obtain⟨v,h5,h6⟩:=h4
    exact⟨v,zv7 (mB.1 ht) h5,hK v h6⟩
   ·rw[yU]at h4
    obtain⟨v,h5,h6⟩:=h4
    exact⟨v,zmk ho.le h5,hK v h6⟩
 case fieldAddr s x f=>
  unfold zfk at h;show ∃v,nO s x f C eA HA=some v/\R v
  split at h
  ·rename_i p hp
   rw[kD]at h;obtain⟨o,h1,h2⟩:=h
   refine⟨_,?_,hKA _ _ h2⟩
   rw[zbj (zcg ha hp)]
   unfold rB;rw[h1];rfl
  ·simp only[kD,wP]at h
   obtain⟨u,h1,v,h2,h3⟩:=h
   refine⟨v,?_,hK v h3⟩
   rw[zbj (gC he h1)];exact h2
 case field ty x f=>exact nM he (.inl rfl) h hKd
 case indexAddr ty x i=>
  unfold zfj at h;show ∃v,pO ty x i C eA HA=some v/\R v
  split at h
  ·rename_i p hp
   simp only[kD]at h;obtain⟨iv,h1,n,h2,o,h3,h4⟩:=h
   refine⟨_,?_,hKA _ _ h4⟩
   rw[zbi (zcg ha hp) (gC he h1)]
   unfold zpb at h3;simp only[sA,xB]at h3;obtain⟨y,g1,a,g2,et,g3,g4,g5⟩:=h3
   cases g5
   unfold lB;rw[g1,uA,h2,uA];simp only[zA.asSlice,zA.asPtr,uA];rw[g2,uA,g3,uA,g4];rfl
  ·simp only[kD,wP]at h
   obtain⟨u,h1,w,h2,v,h3,h4⟩:=h
   refine⟨v,?_,hK v h4⟩
   rw[zbi (gC he h1) (gC he h2)];exact h3
 case index ty x i=>
  rw[jB]at h;split at h
  ·exact nM he (.inl rfl) h hKd
  ·simp only[kD,wP]at h
   obtain⟨u,h1,w,h2,v,h3,h4⟩:=h
   refine⟨v,?_,hK v h4⟩
   show oO ty x i C eA HA=_
   rw[z3a (gC he h1) (gC he h2)];exact h3
 case lookup ty x i ok=>
  simp only[kD,yU]at h;obtain⟨m,h1,key,h2,v,h3,h4⟩:=h
  refine⟨v,?_,hK v h4⟩
  show rO ty x i ok C eA HA=_
  rw[zx8 (gC he h1) (gC he h2)];exact zja ho.le h3
 case extract x i=>
  simp only[kD,wP]at h;obtain⟨u,h1,v,h2,h3⟩:=h
  refine⟨v,?_,hK v h3⟩
  show mO x i C eA HA=_
  rw[zs5 (gC he h1)];exact h2
 case typeAssert x a u ok=>
  simp only[kD,wP]at h;obtain⟨w,h1,v,h2,h3⟩:=h
  refine⟨v,?_,hK v h3⟩
  show lO x u ok C eA HA=_
  rw[zyf (gC he h1)];exact h2
 case build ty ps=>
  unfold z5d at h;simp only[kD,bJ]at h;obtain⟨y,h1,hbd,vs,h2,q,h3,l,h4,h5⟩:=h
  have h5:if tC zA.one q.2=true then qA C.base W J (k.Kd (.agg l)) t Q else False:=h5
  split at h5
  ·rename_i hone
   refine⟨_,?_,hKd _ h5⟩
   show lP ty ps C eA HA=_
   have hf:=ztn (zf3 C y) vs h3 hone y.zero l h4
   unfold lP;rw[h1,uA,zim he h2,uA]
   cases hs:y.desc.asStruct with
   | some fs=>
    simp only[];have:(fun i=>ob (mC fs i) fun x=>some (x.1,x.2.2))=zf3 C y:=by funext i;unfold zf3;rw[hs]
    rw[this,hf];rfl
   | none=>
    simp only[];unfold zls at hbd;rw[hs]at hbd;simp only[]at hbd
    cases ha:y.desc.asArr with
    | none=>rw[ha]at hbd;cases hbd
    | some a=>
     rw[ha]at hbd;simp only[]at hbd
     cases hy:C.tys.get a.2 with
     | none=>rw[hy]at hbd;cases hbd
     | some et=>
      simp only[uA];have:(fun i=>some (i*et.size,et.size))=zf3 C y:=by funext i;unfold zf3;rw[hs];simp only[];rw[ha,uA,hy,uA]
      rw[hy,uA,this,hf];rfl
  ·exact h5.elim
 case call c=>
  split at h
  ·rename_i b hb
   cases b<;>simp only[gV]at h<;>try (cases h;done)
   case len=>
    unfold tLen at h;simp only[kD]at h;obtain⟨ty,h1,x,h2,u,h3,h4⟩:=h
    show ∃v,(dM c c.callee).f C eA HA=some v/\R v
    rw[hb];show ∃v,zny c C eA HA=some v/\R v
    rw[lLen_v h1 h2 (gC he h3)]
    rw[jB]at h4;split at h4
    ·rename_i ht
     rw[wP]at h4;obtain⟨v,h5,h6⟩:=h4
     exact⟨v,zut (mB.1 ht) h5,hK v h6⟩
    ·rw[jB]at h4
     split at h4
     ·rw[yU]at h4
      obtain⟨v,h5,h6⟩:=h4
      exact⟨v,zus ho.le h5,hK v h6⟩
     ·rename_i ht
      rw[kD]at h4;obtain⟨v,h5,h6⟩:=h4
      exact⟨v,zyz (fun e=>ht (mB.2 e)) h5,hKd v h6⟩
   case max=>exact nM he (.inr (.inr ⟨c,rfl,.inl hb⟩)) h hKd
   case min=>exact nM he (.inr (.inr ⟨c,rfl,.inr hb⟩)) h hKd
  ·cases h
end
end Go.Am
namespace Go.Am
open Go Go.RowKit
def zos(C:pA)(A:Tr tD)(f:Nat)(args:List zA)(H:xA):vB:=
 bif Nat.blt f yo then
  match C.prims.get f with
  | some g=>g args H
  | none=>bC C A (.func f) args H
 else bC C A (.yld (f-yo)) args H
theorem sV{C:pA}{A:Tr tD}{f:Nat}{args:List zA}{H:xA}(h:Nat.blt f yo=true):zos C A f args H=(match C.prims.get f with
  | some g=>g args H
  | none=>bC C A (.func f) args H):=by unfold zos;rw[h];rfl
theorem zlo{C:pA}{A:Tr tD}{l:Nat}{args:List zA}{H:xA}:zos C A (yo+l) args H=bC C A (.yld l) args H:=by
 unfold zos;have:Nat.blt (yo+l) yo=false:=Bool.eq_false_iff.2 fun e=>by have:=dB.1 e;omega
 rw[this,Nat.add_sub_cancel_left];rfl
def yC (base:Nat)(X0:Xt)(Q:aB)(d:vB):Prop:=∃v t' HA' X',d=some (v,HA')/\Ov base t' X' HA'/\XLe X0 X'/\Q v t'
theorem yC.mono{base:Nat}{X0:Xt}{Q Q':aB}{d:vB}(h:yC base X0 Q d)(k:∀v t,Q v t->Q' v t):yC base X0 Q' d:=by
 obtain⟨v,t',HA',X',h1,h2,h3,h4⟩:=h
 exact⟨v,t',HA',X',h1,h2,h3,k _ _ h4⟩
def xP(C:pA)(A:Tr tD)(W:rH):Prop:=∀f args t R,W f args t R->∀X HA,Ov C.base t X HA->yC C.base X R (zos C A f args HA)
section
variable {W J:rH}{t:Tr rA}{X X0:Xt}{HA:xA}{e eA:pC}{C:pA}{A:Tr tD}{ν:Nat->Nat}{ae:cJ}{lo:Tr (List zA)}{k:KOp}{kl:KLo}{Q:aB}
theorem dI{f:LOp}{H:xA}{v:zA}(h:f C e H=some v):lv f C e H=.val v H:=by unfold lv;rw[h]
theorem z0q{op:Op}{H:xA}{v:zA}(h:(qE op).f C e H=some v):(cE op).f C e H=.val v H:=by
 cases op
 case move x=>exact dI h
 case assign x=>exact dI h
 case pick c a b=>exact dI h
 case load t a=>exact dI h
 case nilCheck x=>exact dI h
 case binOp op t x y u=>exact dI h
 case unOp op t x=>exact dI h
 case makeInterface t x=>exact dI h
 case makeFunc fn a b=>exact dI h
 case slice t x lo hi mx=>exact dI h
 case fieldAddr s x f=>exact dI h
 case field t x f=>exact dI h
 case indexAddr t x i=>exact dI h
 case index t x i=>exact dI h
 case extract t i=>exact dI h
 case build t ps=>exact dI h
 case typeAssert x t u ok=>exact dI h
 case lookup t x i ok=>exact dI h
 case convert s d x=>
  show gP s d x C e H=_
  have h:jK s d x C e H=some v:=h
  unfold gP;rw[h]
 case call c=>
  have h:(dM c c.callee).f C e H=some v:=h
  show(bU c c.callee).f C e H=_
  cases hc:c.callee with
  | value f=>rw[hc]at h;cases h
  | invoke a b=>rw[hc]at h;cases h
  | builtin b=>
   rw[hc]at h
   cases b
   case len=>exact dI (f:=zny c) h
   case max=>exact dI (f:=zx7 c) h
   case min=>exact dI (f:=zx5 c) h
   all_goals exact absurd (show(none:Option zA)=some v from h) (by simp)
 all_goals exact absurd (show(none:Option zA)=some v from h) (by simp)
theorem nR{x:Option (zA × xA)}{v:zA}{H':xA}{kd:zA->xA->vB}{φ:Ora}(h:x=some (v,H')):tF φ (tJ x) HA kd=kd v H':=by subst h;rfl
theorem fN(ho:Ov C.base t X HA){x:xA->Option (zA × xA)}(hx:zt6 C.base x){K:zA->T}(h:qA C.base W J (.heavy x K) t Q){kd:zA->xA->vB}{φ:Ora}
  (hK:∀v t' HA' X',Ov C.base t' X' HA'->XLe X X'->qA C.base W J (K v) t' Q->yC C.base X0 Q (kd v HA')) {r:nI} (hr:∀p,x HA=some p->tF φ r HA kd=kd p.1 p.2):yC C.base X0 Q (tF φ r HA kd):=by
 have h:=h HA.next ho.nextT ho.base
 rw[vO]at h;obtain⟨⟨v,H'⟩,h1,h2⟩:=h
 obtain⟨HA',h3,h4⟩:=hx _ _ _ _ _ ho h1
 rw[hr _ h3];exact hK v _ _ _ h4 (XLe.refl _) h2
theorem zor(hW:xP C A W)(ho:Ov C.base t X HA){f:Nat}(hf:Nat.blt f yo=true){args:List zA}{K:zA->T}(h:W f args t fun v t'=>qA C.base W J (K v) t' Q){kd:zA->xA->vB}
  (hK:∀v t' HA' X',Ov C.base t' X' HA'->XLe X X'->qA C.base W J (K v) t' Q->yC C.base X0 Q (kd v HA')):yC C.base X0 Q (tF (bC C A) (zgs C HA args f (C.prims.get f)) HA kd):=by
 obtain⟨v,t',HA',X',h1,h2,h3,h4⟩:=hW _ _ _ _ h X HA ho
 rw[sV hf]at h1;unfold zgs
 cases hp:C.prims.get f with
 | some g=>
  rw[hp]at h1;simp only[h1];exact hK _ _ _ _ h2 h3 h4
 | none=>
  rw[hp]at h1;have h1:bC C A (.func f) args HA=some (v,HA'):=h1
  show yC C.base X0 Q (ob (bC C A (.func f) args HA) fun p=>kd p.1 p.2)
  rw[h1];exact hK _ _ _ _ h2 h3 h4
theorem z18(hW:xP C A W)(ho:Ov C.base t X HA){l:Nat}{args:List zA}{K:zA->T}(h:W (yo+l) args t fun v t'=>qA C.base W J (K v) t' Q){kd:zA->xA->vB}
  (hK:∀v t' HA' X',Ov C.base t' X' HA'->XLe X X'->qA C.base W J (K v) t' Q->yC C.base X0 Q (kd v HA')):yC C.base X0 Q (tF (bC C A) (.round l args) HA kd):=by
 obtain⟨v,t',HA',X',h1,h2,h3,h4⟩:=hW _ _ _ _ h X HA ho
 rw[zlo]at h1;show yC C.base X0 Q (ob (bC C A (.yld l) args HA) fun p=>kd p.1 p.2)
 rw[h1];exact hK _ _ _ _ h2 h3 h4
theorem Ov.setX{base:Nat}(h:Ov base t X HA){b:Nat}{y:rA}(hb:X b=some y)(z:rA):Ov base t (fun c=>if c=b then some z else X c) (Am.setBlk HA b z):=by
 obtain⟨g1,g2,g3⟩:=h.ext b y hb
 refine⟨h.base,fun c hc=>?_,fun c u hc=>?_,h.lt⟩
 ·split at hc
  ·cases hc
  ·rename_i hne
   show(HA.t.set b z).get c=_
   rw[Tr.get_set,if_neg hne];exact h.same c hc
 ·show(HA.t.set b z).get c=_/\_/\c<HA.next
  rw[Tr.get_set];split at hc
  ·rename_i e;cases hc;subst e;rw[if_pos rfl];exact⟨rfl,g2,g3⟩
  ·rename_i hne;rw[if_neg hne];exact h.ext c u hc
theorem Ov.newX{base:Nat}(h:Ov base t X HA)(z:rA):Ov base t (fun c=>if c=HA.next then some z else X c) (Am.newBlk HA z):=by
 refine⟨Nat.le_succ_of_le h.base,fun c hc=>?_,fun c u hc=>?_,fun b y hb=>Nat.lt_succ_of_lt (h.lt b y hb)⟩
 ·split at hc
  ·cases hc
  ·rename_i hne
   show(HA.t.set HA.next z).get c=_
   rw[Tr.get_set,if_neg hne];exact h.same c hc
 ·show(HA.t.set HA.next z).get c=_/\_/\c<HA.next+1
  rw[Tr.get_set];split at hc
  ·rename_i e;cases hc;subst e;rw[if_pos rfl];exact⟨rfl,h.nextT,Nat.lt_succ_self _⟩
  ·rename_i hne;rw[if_neg hne];have:=h.ext c u hc;exact⟨this.1,this.2.1,Nat.lt_succ_of_lt this.2.2⟩
theorem zxp(ho:Ov C.base t X HA)(hl:z00 C.base X0 X ν lo){d off:Nat}{l l':List zA}{u:zA}{sz:Nat}(h1:lo.get d=some l)(h2:wN l off sz u=some l')(h3:tC zA.one u.cells=true) :
  Nat.beq (dA u.cells) sz=true/\l'.length=l.length/\∃c',uI C HA (ν d) off u.cells=some (setBlk HA (ν d) (.cells c' l.length none))/\∀j a,l'[j]?=some a->c'.get j=some a:=by
 obtain⟨_,hb,c,hc,hg⟩:=hl d l h1
 have hx:=(ho.ext _ _ hc).1
 unfold wN at h2;simp only[xB,yac,eD,jC,jF,iM,jN,Option.some.injEq]at h2;obtain⟨⟨g1,g2⟩,g3⟩:=h2
 subst g3;refine⟨by rw[jC];exact g1,?_,c.setMany u.cells off,?_,?_⟩
 ·simp;omega
 ·unfold uI
  have n1:(!Nat.blt (ν d) C.base)=true:=by
   cases hq:Nat.blt (ν d) C.base with
   | true=>have:=dB.1 hq;omega
   | false=>rfl
  rw[n1];unfold uD;rw[hx];simp only[xB,uA,rA.asCells,yac,eD,jC];exact⟨trivial,⟨g2,h3⟩,trivial⟩
 ·intro j a hj
  rw[Tr.get_setMany];split
  ·rename_i hh
   rw[yaq (by simp;omega)]at hj
   rw[ybp (by simp;omega)]at hj
   rw[<- hj];congr 1
   simp;omega
  ·rename_i hh
   refine hg j a ?_
   by_cases hlt:j<off
   ·rw[ybp (by simp;omega)]at hj
    rw[ycg,if_pos hlt]at hj;exact hj
   ·rw[yaq (by simp;omega),yaq (by simp;omega)]at hj
    rw[ycf]at hj;rw[<- hj];congr 1
    simp;omega
theorem z0c{y:uC}{u:zA}(h:tC zA.one (zgp y u)=true):zgp y u=u.cells:=by
 unfold zgp at h ⊢
 rw[jB]at h ⊢
 split
 ·rfl
 ·rename_i e
  rw[if_neg e,gG]at h;rw[zdf (by simpa using h)]
theorem zsk{op:Op}{v:zA}{kd:zA->xA->vB}{φ:Ora}(h:(qE op).f C eA HA=some v):tF φ ((cE op).f C eA HA) HA kd=kd v HA:=by rw[z0q h];rfl
theorem zx1{la:List Nat}{dst:Option Nat}{d:Nat}(h:laOf la dst=some d):dst=some d:=by
 unfold laOf at h
 cases dst with
 | none=>cases h
 | some x=>simp only[jB]at h;split at h<;>cases h;rfl
theorem tH_ok(hW:xP C A W)(he:tN e eA)(ha:zbb ν ae eA)(ho:Ov C.base t X HA)(hl:z00 C.base X0 X ν lo){la:List Nat}{dst:Option Nat}{op:Op}
  (h:qA C.base W J (tH C la dst op e ae lo k kl) t Q) {kd:zA->xA->vB}
  (hK:∀v t' HA' X',Ov C.base t' X' HA'->XLe X X'->qA C.base W J (k.K v) t' Q->yC C.base X0 Q (kd v HA'))
  (hKd:∀v t' HA' X',Ov C.base t' X' HA'->XLe X X'->qA C.base W J (k.Kd v) t' Q->yC C.base X0 Q (kd v HA'))
  (hKA:∀d off,qA C.base W J (k.KA d off) t Q->yC C.base X0 Q (kd (.ptr (ν d) off) HA))
  (hnew:∀d l,laOf la dst=some d->qA C.base W J (kl.new d l) t Q->yC C.base X0 Q (kd (.ptr HA.next 0) (dD HA l none)))
  (hset:∀d l l' c',lo.get d=some l->l'.length=l.length->(∀j a,l'[j]?=some a->c'.get j=some a)->qA C.base W J (kl.set d l') t Q->yC C.base X0 Q (kd pD (setBlk HA (ν d) (.cells c' l.length none)))) :
  yC C.base X0 Q (tF (bC C A) ((cE op).f C eA HA) HA kd):=by
 have light:∀(op:Op),qA C.base W J (tL C op e ae lo k) t Q->yC C.base X0 Q (tF (bC C A) ((cE op).f C eA HA) HA kd):=by
  intro op h;obtain⟨v,h1,h2⟩:=z7c (R:=fun v=>yC C.base X0 Q (kd v HA)) he ha ho hl h (fun v h=>hK v _ _ _ ho (XLe.refl _) h) (fun v h=>hKd v _ _ _ ho (XLe.refl _) h) hKA
  rw[zsk h1];exact h2
 cases op<;>simp only[tH]at h<;>try (exact light _ h)
 case alloc ty=>
  show yC C.base X0 Q (tF _ (zS ty C eA HA) HA kd)
  rw[jB]at h;split at h
  ·rename_i ht
   have ht:mI C ty=none:=by
    cases hx:mI C ty with
    | none=>rfl
    | some _=>rw[hx]at ht;cases ht
   split at h
   ·rename_i d hd
    rw[kD]at h;obtain⟨y,h1,h2⟩:=h
    unfold zS;rw[h1,ht];exact hnew d _ hd h2
   ·refine fN ho zuv h hK fun p hp=>?_
    unfold zS;rw[ht];have hp:(ob (C.tys.get ty) fun ty=>some (.ptr HA.next 0,dD HA ty.zero none))=some p:=hp
    rw[hp];rfl
  ·refine fN ho zr4 h hK fun p hp=>?_
   unfold zS;unfold zg6 at hp;rw[hp];rfl
 case box ty x=>
  rw[jB]at h;show yC C.base X0 Q (tF _ (z3o ty x C eA HA) HA kd)
  unfold z3o;split at h
  ·rename_i ht
   have ht:mI C ty=none:=by
    cases hx:mI C ty with
    | none=>rfl
    | some _=>rw[hx]at ht;cases ht
   rw[kD]at h;obtain⟨v,h1,h⟩:=h
   rw[gC he h1,ht];split at h
   ·rename_i d hd
    rw[kD]at h;obtain⟨y,_,h⟩:=h
    rw[jB]at h;split at h
    ·exact hnew d _ hd h
    ·have h:if zA.one v=true then qA C.base W J (kl.new d [v]) t Q else False:=h
     split at h
     ·rename_i h1
      have:=hnew d _ hd h
      rw[<- zdf h1]at this;exact this
     ·exact h.elim
   ·refine fN ho z66 h hK fun p hp=>?_
    cases hp;rfl
  ·rw[kD]at h
   obtain⟨v,h1,h⟩:=h
   rw[gC he h1];refine fN ho z1f h hK fun p hp=>?_
   cases hp;rfl
 case buildSlice ty n ps=>
  rw[kD]at h;obtain⟨vs,h1,h⟩:=h
  show yC C.base X0 Q (tF _ (aR ty n ps C eA HA) HA kd)
  refine fN ho zez h hK fun p hp=>?_
  refine nR (v:=p.1) (H':=p.2) ?_
  rw[zim he h1];exact hp
 case makeMap ty r=>
  cases r with
  | some _=>simp only[]at h;exact light _ h
  | none=>
   simp only[]at h;show yC C.base X0 Q (tF _ (jW none C eA HA) HA kd)
   refine fN ho zml h hK fun p hp=>?_
   cases hp;rfl
 case makeSlice ty l c=>
  simp only[kD]at h;obtain⟨a,h1,b,h2,h⟩:=h
  show yC C.base X0 Q (tF _ (za3 ty l c C eA HA) HA kd)
  refine fN ho zg5 h hK fun p hp=>?_
  refine nR (v:=p.1) (H':=p.2) ?_
  rw[gC he h1,gC he h2];unfold qN at hp
  cases hx:C.tys.get ty with
  | none=>rw[hx]at hp;cases hp
  | some y=>
   rw[hx]at hp;simp only[uA]at hp ⊢
   exact hp
 case store ty a x=>
  unfold z5a at h;show yC C.base X0 Q (tF _ (zk1 ty a x C eA HA) HA kd)
  split at h
  ·rename_i p hp
   simp only[kD]at h;obtain⟨u,h1,y,h2,l,h3,l',h4,h5⟩:=h
   have h5:if tC zA.one (zgp y u)=true then qA C.base W J (kl.set p.1 l') t Q else False:=h5
   split at h5
   ·rename_i hone
    have hcell:=z0c hone
    rw[hcell]at hone h4;have h4:wN l p.2 y.size u=some l':=h4
    obtain⟨g1,g2,c',g3,g4⟩:=zxp ho hl h3 h4 hone
    have:=hset p.1 l l' c' h3 g2 g4 h5
    have e1:tF (bC C A) (zk1 ty a x C eA HA) HA kd=kd pD (setBlk HA (ν p.1) (.cells c' l.length none)):=by
     refine nR ?_
     rw[h2,uA,zcg ha hp,uA];simp only[zA.asPtr,uA];rw[gC he h1,uA,g1,g3];rfl
    rw[e1];exact this
   ·exact h5.elim
  ·simp only[kD]at h
   obtain⟨av,h1,u,h2,h⟩:=h
   refine fN ho zur h hKd fun p hp=>?_
   refine nR (v:=p.1) (H':=p.2) ?_
   rw[gC he h1];unfold dC at hp
   cases hx:C.tys.get ty with
   | none=>rw[hx]at hp;cases hp
   | some y=>
    rw[hx]at hp;simp only[uA]at hp ⊢
    rw[gC he h2];exact hp
 case convert s d x=>
  rw[jB]at h;split at h
  ·rename_i hd
   rw[kD]at h;obtain⟨u,h1,h⟩:=h
   show yC C.base X0 Q (tF _ (gP s d x C eA HA) HA kd)
   have hn:jK s d x C eA HA=none:=by
    rw[zyc (gC he h1)]
    cases hq:nK C s d HA u with
    | none=>rfl
    | some q=>
     exfalso
     unfold nK at hq;simp only[sA]at hq;obtain⟨sy,g1,dy,g2,g3⟩:=hq
     have hd:=mB.1 hd
     unfold tG at hd;rw[g2]at hd;have hd:dy.desc.tag=4:=hd
     unfold bL at g3;have n1:dy.desc.asInt=none:=by cases hz:dy.desc<;>rw[hz]at hd<;>first | rfl | (cases hd;done)
     have n2:dy.desc.isString=false:=by unfold qD.isString;rw[hd];rfl
     rw[n1,n2]at g3
     cases g3
   unfold gP;rw[hn];simp only[];refine fN ho zmj h hK fun p hp=>?_
   refine nR (v:=p.1) (H':=p.2) ?_
   rw[gC he h1];exact hp
  ·exact light _ (by simpa only[tL]using h)
 case insert ty m key x=>
  simp only[kD]at h;obtain⟨mv,h1,kv,h2,u,h3,h⟩:=h
  show yC C.base X0 Q (tF _ (bR ty m key x C eA HA) HA kd)
  refine fN ho zfh h hKd fun p hp=>?_
  refine nR (v:=p.1) (H':=p.2) ?_
  rw[gC he h1,gC he h2,gC he h3];exact hp
 case mapUpdate ty m key x=>
  simp only[kD]at h;obtain⟨mv,h1,kv,h2,u,h3,h⟩:=h
  show yC C.base X0 Q (tF _ (bR ty m key x C eA HA) HA kd)
  refine fN ho zfh h hKd fun p hp=>?_
  refine nR (v:=p.1) (H':=p.2) ?_
  rw[gC he h1,gC he h2,gC he h3];exact hp
 case call c=>
  show yC C.base X0 Q (tF _ ((bU c c.callee).f C eA HA) HA kd)
  split at h
  ·rename_i f hc
   rw[hc];show yC C.base X0 Q (tF _ (zd2 f c.args C eA HA) HA kd)
   have fE:∀ {fv:zA} {aq:List zA},ev f e=some fv->evs c.args.toList e=some aq->qA C.base W J (.callv fv aq k.K) t Q->yC C.base X0 Q (tF (bC C A) (zd2 f c.args C eA HA) HA kd):=by
    intro fv aq h1 h2 h;have h:rE (bO fv aq) fun p=>W p.1 p.2 t fun v t'=>qA C.base W J (k.K v) t' Q:=h
    rw[vO]at h;obtain⟨⟨g,aq'⟩,h3,h4⟩:=h
    unfold bO at h3;rw[sA]at h3;obtain⟨p,h5,h6⟩:=h3
    have e0:zd2 f c.args C eA HA=z9n C HA (eC p.2.1 aq) p.2.2 p.1:=by
     unfold zd2 xO;rw[gC he h1,uA,h5,uA,zil he h2,uA,uA];rfl
    rw[e0]
    cases hp:p.1 with
    | func g'=>
     rw[hp]at h6;simp only[xB]at h6;obtain⟨hg,h6⟩:=h6
     cases h6;exact zor hW ho hg h4 hK
    | yld l=>
     rw[hp]at h6;simp only[xB,yac]at h6;obtain⟨⟨ha,hb⟩,h6⟩:=h6
     cases h6;have ea:p.2.1=[]:=by cases hx:p.2.1 with | nil=>rfl | cons _ _=>rw[hx]at ha;cases ha
     have eb:p.2.2=[]:=by cases hx:p.2.2 with | nil=>rfl | cons _ _=>rw[hx]at hb;cases hb
     rw[ea,eb];exact z18 hW ho h4 hK
   unfold z5c at h;split at h
   ·rename_i g
    rw[bJ,kD]at h;obtain⟨hg,aq,h1,h⟩:=h
    refine fE (fv:=.func (.func g) [] []) rfl h1 ?_
    show rE (bO (.func (.func g) [] []) aq) _
    have e2:bO (.func (.func g) [] []) aq=some (g,aq):=by
     show iA (Nat.blt g yo) (some (g,eC (eC [] aq) []))=_
     rw[hg,jF,jF];simp[iA]
    rw[e2];exact h
   ·simp only[kD]at h
    obtain⟨fv,h1,aq,h2,h⟩:=h
    exact fE h1 h2 h
  ·rename_i b hb
   rw[hb];have lt:qA C.base W J (gV C c e k b) t Q->yC C.base X0 Q (tF (bC C A) ((bU c (.builtin b)).f C eA HA) HA kd):=by
    intro h;have:=light (.call c) (by show qA C.base W J (match c.callee with | .builtin b=>gV C c e k b | _=>.fail) t Q;rw[hb];exact h)
    have e1:(cE (.call c)).f C eA HA=(bU c c.callee).f C eA HA:=rfl
    rw[e1,hb]at this;exact this
   unfold zjk at h;split at h
   ·simp only[kD,two']at h
    obtain⟨ty,h1,u,h2,p,h3,h⟩:=h
    show yC C.base X0 Q (tF _ (aU c C eA HA) HA kd)
    refine fN ho zr3 h hK fun q hq=>?_
    refine nR (v:=q.1) (H':=q.2) ?_
    rw[h1,uA];unfold zG at hq;simp only[sA,xB]at hq ⊢
    obtain⟨y,g1,z,g2,g3,g4⟩:=hq
    exact⟨y,g1,u,h2,z,g2,g3,p,zha he h3,g4⟩
   ·exact lt h
  ·cases h
end
end Go.Am
namespace Go.Am
open Go Go.RowKit
structure kE (base:Nat) (X0:Xt) (kf:Nat) (ν:Nat->Nat) (X:Xt) (st:mF) (tm:Tm) (HA:xA) (t:Tr rA):Prop where
 ov:Ov base t X HA
 le:XLe X0 X
 k:st.tm.k=kf
 kA:tm.k=kf
 tms:∀i v,st.tm.get i=some v->tm.get i=some v
 ads:∀i p,mH i st.ad=some p->tm.get i=some (.ptr (ν p.1) p.2)
 lo:z00 base X0 X ν st.lo
 inj:∀d d' l l',st.lo.get d=some l->st.lo.get d'=some l'->ν d=ν d'->d=d'
theorem nS{i:Nat}{a:Nat × Nat × Nat}{l:List (Nat × Nat × Nat)}:mH i (a::l)=if i=a.1 then some a.2 else mH i l:=by
 show Bool.rec (motive:=fun _=>Option (Nat × Nat)) (mH i l) (some a.2) (Nat.beq i a.1)=_
 rw[bG];simp only[mB]
theorem z0t{i:Nat}{p:Nat × Nat}:∀ {l:List (Nat × Nat × Nat)},mH i l=some p->(i,p.1,p.2)∈l:=by
 intro l;induction l with
 | nil=>intro h;cases h
 | cons a l ih=>
  intro h;rw[nS]at h;split at h
  ·rename_i e;cases h;rw[e];exact yaz
  ·exact yas _ (ih h)
theorem zp3{n:Nat}{tm:Tm}{dst:Option Nat}{v:zA}:(putA n tm dst v).k=tm.k:=by
 unfold putA putB
 cases dst with
 | none=>rfl
 | some d=>
  simp only[z2d,jB];split
  ·unfold Tm.set;rw[bG];split<;>rfl
  ·rfl
theorem Tm.set_k{tm:Tm}{i:Nat}{v:zA}:(tm.set i v).k=tm.k:=by unfold Tm.set;rw[bG];split<;>rfl
section
variable {W J:rH}{t:Tr rA}{X X0:Xt}{HA:xA}{C:pA}{A:Tr tD}{ν:Nat->Nat}{Q:aB}{kf n:Nat}{st:mF}{tm:Tm}
theorem kE.put(h:kE C.base X0 kf ν X st tm HA t){dst:Option Nat}{v:zA}{lt:Bool}{κ:KT}(hw:qA C.base W J (zph n dst v lt st κ) t Q) :
  ∃st',kE C.base X0 kf ν X st' (putA n tm dst v) HA t/\qA C.base W J (κ st') t Q:=by
 unfold zph at hw
 cases dst with
 | none=>exact⟨st,h,hw⟩
 | some d=>
  simp only[jB]at hw;split at hw
  ·rename_i hd
   rw[bJ]at hw;obtain⟨h1,h2⟩:=hw
   refine⟨_,?_,h2⟩
   refine⟨h.ov,h.le,(by show(st.tm.set d v).k=kf;rw[Tm.set_k];exact h.k),by rw[zp3];exact h.kA,?_,?_,h.lo,h.inj⟩
   ·intro i u hi
    have hi2:(st.tm.set d v).get i=some u:=hi
    rw[Tm.get_set]at hi2;rw[xH];split at hi2
    ·rename_i e;rw[if_pos ⟨by rw[e],by rw[e];exact dB.1 hd⟩];exact hi2
    ·rename_i e
     rw[if_neg (fun hh=>e (by injection hh.1 with e1;exact e1.symm))]
     exact h.tms i u hi2
   ·intro i p hi
    rw[xH,if_neg]
    ·exact h.ads i p hi
    ·rintro⟨e,_⟩
     injection e with e
     subst e;rw[hi]at h1
     cases h1
  ·rename_i hd
   refine⟨st,?_,hw⟩
   have:putA n tm (some d) v=tm:=by
    unfold putA putB;simp only[z2d,jB];rw[if_neg hd]
   rw[this];exact h
theorem kE.putA(h:kE C.base X0 kf ν X st tm HA t){dst:Option Nat}{d off:Nat}{κ:KT}(hw:qA C.base W J (z7b n dst d off st κ) t Q) :
  ∃st',kE C.base X0 kf ν X st' (Am.putA n tm dst (.ptr (ν d) off)) HA t/\qA C.base W J (κ st') t Q:=by
 unfold z7b at hw;rw[kD]at hw;obtain⟨i,h1,hw⟩:=hw
 subst h1;simp only[bJ]at hw;obtain⟨h2,h3,h4⟩:=hw
 refine⟨_,?_,h4⟩
 refine⟨h.ov,h.le,h.k,by rw[zp3];exact h.kA,?_,?_,h.lo,h.inj⟩
 ·intro j u hj
  rw[xH,if_neg]
  ·exact h.tms j u hj
  ·rintro⟨e,_⟩
   injection e with e
   subst e;have hj:st.tm.get i=some u:=hj
   rw[hj]at h3
   cases h3
 ·intro j p hj
  have hj:mH j ((i,d,off)::st.ad)=some p:=hj
  rw[nS]at hj;rw[xH];split at hj
  ·rename_i e;cases hj;rw[if_pos ⟨by rw[e],by rw[e];exact dB.1 h2⟩]
  ·rename_i e
   rw[if_neg (fun hh=>e (by injection hh.1 with e1;exact e1.symm))]
   exact h.ads j p hj
theorem kE.new(h:kE C.base X0 kf ν X st tm HA t){d:Nat}{l:List zA}{κ:KT}(hw:qA C.base W J (tNew n d l st κ) t Q) :
  ∃st' ν' X',kE C.base X0 kf ν' X' st' (Am.putA n tm (some d) (.ptr HA.next 0)) (dD HA l none) t/\qA C.base W J (κ st') t Q:=by
 unfold tNew at hw;simp only[bJ]at hw;obtain⟨h1,h2,h3,h4⟩:=hw
 have hx:=h.ov.nextX
 refine⟨_,fun c=>if c=d then HA.next else ν c,fun c=>if c=HA.next then some (.cells (Tr.ofList l) (dA l) none)else X c,?_,h4⟩
 refine⟨h.ov.newX _,?_,h.k,by rw[zp3];exact h.kA,?_,?_,?_,?_⟩
 ·intro b y hb
  have:X b=some y:=h.le b y hb
  show(if b=HA.next then _ else X b)=some y
  rw[if_neg,this];intro e;rw[e,hx]at this;cases this
 ·intro j u hj
  rw[xH,if_neg]
  ·exact h.tms j u hj
  ·rintro⟨e,_⟩
   injection e with e
   subst e;have hj:st.tm.get d=some u:=hj
   rw[hj]at h2
   cases h2
 ·intro j p hj
  have hj:mH j ((d,d,0)::st.ad)=some p:=hj
  rw[nS]at hj;rw[xH];split at hj
  ·rename_i e
   cases hj;rw[if_pos ⟨by rw[e],by rw[e];exact dB.1 h1⟩]
   show some (zA.ptr HA.next 0)=some (zA.ptr (if d=d then HA.next else ν d) 0)
   rw[if_pos rfl]
  ·rename_i e
   rw[if_neg (fun hh=>e (by injection hh.1 with e1;exact e1.symm))]
   have hm:=z0t hj
   unfold z5t at h3;rw[gG,ybc]at h3;have:=h3 _ hm
   simp only[jB]at this;have hne:p.1≠d:=by
    intro e2;rw[if_pos (mB.2 e2)]at this
    exact e (mB.1 this)
   show Tm.get tm j=some (zA.ptr (if p.1=d then HA.next else ν p.1) p.2)
   rw[if_neg hne];exact h.ads j p hj
 ·intro c m hc
  have hc:(st.lo.set d l).get c=some m:=hc
  rw[Tr.get_set]at hc;show X0 (if c=d then HA.next else ν c)=none/\C.base<=(if c=d then HA.next else ν c)/\∃c',(if (if c=d then HA.next else ν c)=HA.next then some (rA.cells (Tr.ofList l) (dA l) none)else X (if c=d then HA.next else ν c))=some (.cells c' m.length none)/\∀j a,m[j]?=some a->c'.get j=some a
  split at hc
  ·rename_i e
   cases hc;simp only[e,if_true];refine⟨?_,h.ov.base,Tr.ofList l,by rw[jC],fun j a hj=>by rw[Tr.get_ofList];exact hj⟩
   cases hq:X0 HA.next with
   | none=>rfl
   | some z=>have:=h.le _ _ hq;rw[hx]at this;cases this
  ·rename_i e
   simp only[if_neg e];obtain⟨g1,g2,c',g3,g4⟩:=h.lo c m hc
   refine⟨g1,g2,c',?_,g4⟩
   rw[if_neg,g3];intro e2;rw[e2,hx]at g3;cases g3
 ·intro c c' m m' hc hc' he
  have hc:(st.lo.set d l).get c=some m:=hc
  have hc':(st.lo.set d l).get c'=some m':=hc'
  have he:(if c=d then HA.next else ν c)=(if c'=d then HA.next else ν c'):=he
  rw[Tr.get_set]at hc hc'
  split at hc<;>split at hc'
  ·rename_i e1 e2;rw[e1,e2]
  ·rename_i e1 e2
   rw[if_pos e1,if_neg e2]at he;obtain⟨_,_,_,g3,_⟩:=h.lo c' m' hc'
   rw[<- he,hx]at g3;cases g3
  ·rename_i e1 e2
   rw[if_neg e1,if_pos e2]at he;obtain⟨_,_,_,g3,_⟩:=h.lo c m hc
   rw[he,hx]at g3;cases g3
  ·rename_i e1 e2
   rw[if_neg e1,if_neg e2]at he;exact h.inj c c' m m' hc hc' he
theorem kE.setLo(h:kE C.base X0 kf ν X st tm HA t){d:Nat}{l l':List zA}{c':Tr zA}(h1:st.lo.get d=some l)(h2:l'.length=l.length)(h3:∀j a,l'[j]?=some a->c'.get j=some a) :
  ∃X',kE C.base X0 kf ν X' ⟨st.tm,st.ad,st.lo.set d l',st.lit⟩ tm (setBlk HA (ν d) (.cells c' l.length none)) t:=by
 obtain⟨g1,g2,c,g3,g4⟩:=h.lo d l h1
 refine⟨_,h.ov.setX g3 _,?_,h.k,h.kA,h.tms,h.ads,?_,?_⟩
 ·intro b y hb
  show(if b=ν d then _ else X b)=some y
  rw[if_neg]
  ·exact h.le b y hb
  ·intro e;rw[e,g1]at hb;cases hb
 ·intro e m he
  have he:(st.lo.set d l').get e=some m:=he
  rw[Tr.get_set]at he;split at he
  ·rename_i e1
   cases he;subst e1;exact⟨g1,g2,c',by show(if ν e=ν e then _ else _)=_;rw[if_pos rfl,h2],h3⟩
  ·rename_i e1
   obtain⟨k1,k2,k3,k4,k5⟩:=h.lo e m he
   refine⟨k1,k2,k3,?_,k5⟩
   show(if ν e=ν d then _ else X (ν e))=_
   rw[if_neg,k4];intro e2;exact e1 (h.inj e d m l he h1 e2)
 ·intro e e' m m' he he' hv
  have he:(st.lo.set d l').get e=some m:=he
  have he':(st.lo.set d l').get e'=some m':=he'
  rw[Tr.get_set]at he he'
  have x1:∃q,st.lo.get e=some q:=by
   split at he
   ·rename_i e1;rw[e1];exact⟨l,h1⟩
   ·exact⟨m,he⟩
  have x2:∃q,st.lo.get e'=some q:=by
   split at he'
   ·rename_i e1;rw[e1];exact⟨l,h1⟩
   ·exact⟨m',he'⟩
  exact h.inj e e' _ _ x1.choose_spec x2.choose_spec hv
theorem kE.later(h:kE C.base X0 kf ν X st tm HA t){X':Xt}{HA':xA}{t':Tr rA}(ho:Ov C.base t' X' HA')(hx:XLe X X'):kE C.base X0 kf ν X' st tm HA' t':=
 ⟨ho,h.le.trans hx,h.k,h.kA,h.tms,h.ads,fun d l hd=>by
  obtain⟨g1,g2,c,g3,g4⟩:=h.lo d l hd
  exact⟨g1,g2,c,hx _ _ g3,g4⟩,h.inj⟩
theorem zb8{ty:Nat}{v:zA}(h:fitB C ty v=true):z3u C ty v:=by
 unfold fitB at h;unfold z3u
 cases hy:C.tys.get ty with
 | none=>trivial
 | some y=>
  rw[hy]at h;simp only at h ⊢
  unfold fitD
  cases hd:y.desc<;>rw[hd]at h<;>simp only at h ⊢
  case bool=>
   have:=mB.1 h
   cases v<;>simp only[zA.tag]at this<;>first
    | exact⟨_,rfl⟩
    | (cases this;done)
  case int k=>
   cases v<;>simp only[zA.asIntK]at h<;>first
    | exact⟨_,by rw[tI.1 h]⟩
    | (cases h;done)
  case string=>
   have:=mB.1 h
   cases v<;>simp only[zA.tag]at this<;>first
    | exact⟨_,rfl⟩
    | (cases this;done)
theorem zih{ty:Nat}{v:zA}(h:(!Nat.ble (tG C ty) 2)=true):z3u C ty v:=by
 unfold z3u;unfold tG at h
 cases hy:C.tys.get ty with
 | none=>trivial
 | some y=>
  rw[hy]at h;simp only at h ⊢
  unfold fitD
  cases hd:y.desc<;>rw[hd]at h<;>first
   | trivial
   | (simp only[qD.tag]at h;exact absurd h (by decide))
theorem zd8:∀(zs l:List zA) (pre:List zA),vL zs l=true->jL zs (cellsOf (pre++l)) pre.length=l:=by
 intro zs;induction zs with
 | nil=>intro l pre h;cases l with
  | nil=>rfl
  | cons a l=>cases h
 | cons z zs ih=>
  intro l pre h
  cases l with
  | nil=>cases h
  | cons a l=>
   unfold vL at h;rw[yac]at h;show zkd z (cellsOf (pre++a::l)) pre.length::jL zs (cellsOf (pre++a::l)) (pre.length+1)=a::l
   have e2:=ih l (pre++[a]) h.2
   rw[yba]at e2;simp only[List.cons_append,List.nil_append,yah,yao,yay]at e2;rw[e2];congr 1
   have hg:(pre++a::l)[pre.length]?=some a:=by simp
   have h1:=h.1
   cases z<;>simp only[zug]at h1<;>simp only[zkd,cellsOf,cQ,zyv,z1t,zi9,hg]<;>try (cases h1;done)
   case bool=>
    have:=mB.1 h1
    cases a<;>simp only[zA.tag]at this<;>first
     | rfl
     | (cases this;done)
   case int k _=>
    cases a<;>simp only[zA.asIntK]at h1<;>first
     | (rw[tI.1 h1];done)
     | (cases h1;done)
   case str=>
    have:=mB.1 h1
    cases a<;>simp only[zA.tag]at this<;>first
     | rfl
     | (cases this;done)
theorem zpi{ty:Nat}{v:zA}{K:zA->T}(h:qA C.base W J (zvi C ty v K) t Q):z3u C ty v/\qA C.base W J (K v) t Q:=by
 unfold zvi at h;unfold z3u;have agg:∀zs,qA C.base W J (bif Nat.ble (dA zs) 40 then .asG zs v fun X=>K (.agg (jL zs X 0))else K v) t Q->qA C.base W J (K v) t Q:=by
  intro zs h;rw[jB]at h;split at h
  ·have h:rE (rK zs v) fun X=>qA C.base W J (K (.agg (jL zs X 0))) t Q:=h
   rw[vO]at h;obtain⟨X,h1,h2⟩:=h
   unfold rK at h1;simp only[sA,xB]at h1;obtain⟨l,h3,h4,h5⟩:=h1
   cases h5;have:=zd8 zs l [] h4
   simp only[List.nil_append,yay]at this;rw[this]at h2;rw[qV.1 h3];exact h2
  ·exact h
 cases hy:C.tys.get ty with
 | none=>rw[hy]at h;exact⟨trivial,h⟩
 | some y=>
  rw[hy]at h;simp only at h ⊢
  unfold fitD
  cases hd:y.desc<;>rw[hd]at h<;>simp only at h ⊢
  case bool=>
   have h:rE v.asBool fun n=>qA C.base W J (K (.bool n)) t Q:=h
   rw[vO]at h;obtain⟨b,h1,h2⟩:=h
   rw[zR.1 h1];exact⟨⟨b,rfl⟩,h2⟩
  case int k=>
   have h:rE (z8t k v) fun n=>qA C.base W J (K (.int k n)) t Q:=h
   rw[vO]at h;obtain⟨b,h1,h2⟩:=h
   unfold z8t at h1;simp only[sA,xB]at h1;obtain⟨p,h3,h4,h5⟩:=h1
   cases h5;rw[cO.1 h3,tI.1 h4];exact⟨⟨_,rfl⟩,h2⟩
  case string=>
   have h:rE v.asStr fun n=>qA C.base W J (K (.str n)) t Q:=h
   rw[vO]at h;obtain⟨b,h1,h2⟩:=h
   rw[dO.1 h1];exact⟨⟨b,rfl⟩,h2⟩
  all_goals first
   | exact⟨trivial,agg _ h⟩
   | exact⟨trivial,h⟩
theorem uX{g lt:Bool}{v:zA}{K:zA->Bool->T}(h:qA C.base W J (zfi g lt v K) t Q):∃lt',qA C.base W J (K v lt') t Q:=by
 unfold zfi at h
 cases g with
 | false=>exact⟨lt,h⟩
 | true=>
  cases lt with
  | true=>exact⟨true,h⟩
  | false=>
   simp only[cond_true,cond_false]at h;rw[kD]at h;obtain⟨b,h1,h2⟩:=h
   rw[zR.1 h1];have h2:if b=true then qA C.base W J (K (.bool true) true) t Q else qA C.base W J (K (.bool false) true) t Q:=h2
   cases b with
   | true=>exact⟨true,h2⟩
   | false=>exact⟨true,h2⟩
theorem zck(h:kE C.base X0 kf ν X st tm HA t){g:Option (Nat × Bool)}{all:Array Oper}{w:Bool}(hw:nE g all st.tm=some w):nE g all tm=some w:=by
 unfold nE zuo at hw ⊢
 cases g with
 | none=>exact hw
 | some jw=>
  simp only[zi5]at hw ⊢
  rw[sA]at hw ⊢
  obtain⟨d,h1,hw⟩:=hw
  refine⟨d,h1,?_⟩
  rw[sA]at hw ⊢
  obtain⟨v,h2,hw⟩:=hw
  exact⟨v,h.tms _ _ h2,hw⟩
def SK (C:pA)(W J:rH)(X0:Xt)(kf:Nat)(Q:aB)(κ:KT)(m:Tm->xA->vB):Prop:=∀st tm HA t X ν,kE C.base X0 kf ν X st tm HA t->qA C.base W J (κ st) t Q->yC C.base X0 Q (m tm HA)
theorem yC.norm{ty:Nat}{v:zA}{K:zA->vB}(hf:z3u C ty v)(h:yC C.base X0 Q (K v)):yC C.base X0 Q (fI C ty v K):=by
 obtain⟨u,t',HA',X',h1,h2⟩:=h
 exact⟨u,t',HA',X',kK.2 ⟨hf,h1⟩,h2⟩
theorem yC.ob{α:Type}{x:Option α}{a:α}{K:α->vB}(hx:x=some a)(h:yC C.base X0 Q (K a)):yC C.base X0 Q (Am.ob x K):=by subst hx;exact h
theorem zv8(hW:xP C A W){e eA:pC}{ae:cJ}(he:tN e eA)(ha:zbb ν ae eA)(hst:kE C.base X0 kf ν X st tm HA t){la:List Nat}{all:Array Oper}{o:Oper}{κ:KT}{m:Tm->xA->vB}
  (hκ:∀st' tm' HA' t' X' ν',(la=[]->ν'=ν)->kE C.base X0 kf ν' X' st' tm' HA' t'->(∃v,tm'=putA n tm o.dst v)->qA C.base W J (κ st') t' Q->yC C.base X0 Q (m tm' HA'))
  (h:qA C.base W J (tH C la o.dst o.op e ae st.lo (kop C all n o e st κ) (klo C n o st κ)) t Q) :
  yC C.base X0 Q (tF (bC C A) ((cE o.op).f C eA HA) HA fun v H'=>fI C o.type v fun v=>m (putA n tm o.dst v) H'):=by
 refine tH_ok hW he ha hst.ov hst.lo h ?_ ?_ ?_ ?_ ?_
 ·intro v t' HA' X' ho hx hk
  have hk:qA C.base W J (zvi C o.type v fun v=>zfi (zh9 all.toList o.dst all.toList) (z2x o.op e st.lit) v fun v lt=>zph n o.dst v lt st κ) t' Q:=hk
  obtain⟨h1,h2⟩:=zpi hk
  obtain⟨lt',h3⟩:=uX h2
  obtain⟨st',h4,h5⟩:=(hst.later ho hx).put h3
  exact yC.norm h1 (hκ _ _ _ _ _ _ (fun _=>rfl) h4 ⟨v,rfl⟩ h5)
 ·intro v t' HA' X' ho hx hk
  obtain⟨h1,h2⟩:=bJ.1 hk
  obtain⟨lt',h3⟩:=uX h2
  obtain⟨st',h4,h5⟩:=(hst.later ho hx).put h3
  exact yC.norm (zb8 h1) (hκ _ _ _ _ _ _ (fun _=>rfl) h4 ⟨v,rfl⟩ h5)
 ·intro d off hk
  obtain⟨h1,h2⟩:=bJ.1 hk
  obtain⟨st',h4,h5⟩:=hst.putA h2
  exact yC.norm (zih h1) (hκ _ _ _ _ _ _ (fun _=>rfl) h4 ⟨_,rfl⟩ h5)
 ·intro d l hd hk
  obtain⟨h1,h2⟩:=bJ.1 hk
  obtain⟨st',ν',X',h4,h5⟩:=hst.new h2
  have e:=zx1 hd
  rw[e];refine yC.norm (zih h1) (hκ _ _ _ _ _ _ (fun hl=>?_) h4 ⟨_,by rw[e]⟩ h5)
  rw[hl,e]at hd
  cases hd
 ·intro d l l' c' h1 h2 h3 hk
  obtain⟨h4,h5⟩:=bJ.1 hk
  obtain⟨X',h6⟩:=hst.setLo h1 h2 h3
  obtain⟨st',h7,h8⟩:=h6.put h5
  exact yC.norm (zb8 h4) (hκ _ _ _ _ _ _ (fun _=>rfl) h7 ⟨_,rfl⟩ h8)
theorem zhy(h:kE C.base X0 kf ν X st tm HA t):tN (.now st.tm) (.now tm)/\zbb ν (.now st.ad) (.now tm):=⟨h.tms,h.ads⟩
theorem z69(hW:xP C A W){la:List Nat}{all:Array Oper}{κ:KT}{m:Tm->xA->vB}(hκ:SK C W J X0 kf Q κ m):∀(l:List Oper),SK C W J X0 kf Q (tops C la all n κ l) (iJ C (bC C A) all n m l):=by
 intro l;induction l with
 | nil=>exact hκ
 | cons o l ih=>
  intro st tm HA t X ν hst h;have h:qA C.base W J (kB (nE o.guard all st.tm) fun w=>Bool.rec (motive:=fun _=>T) (zph n o.dst pD false st (tops C la all n κ l))
   (tH C la o.dst o.op (.now st.tm) (.now st.ad) st.lo (kop C all n o (.now st.tm) st (tops C la all n κ l)) (klo C n o st (tops C la all n κ l))) w) t Q:=h
  rw[kD]at h;obtain⟨w,h1,h2⟩:=h
  rw[xT];refine yC.ob (zck hst h1) ?_
  cases w with
  | false=>
   rw[if_neg (by simp)]
   obtain⟨st',h3,h4⟩:=hst.put h2
   exact ih _ _ _ _ _ _ h3 h4
  | true=>
   rw[if_pos rfl];exact zv8 hW (zhy hst).1 (zhy hst).2 hst (fun st' tm' HA' t' X' ν' _ hs _ hw=>ih _ _ _ _ _ _ hs hw) h2
end
end Go.Am
namespace Go.Am
open Go Go.RowKit
structure zg3 (ν:Nat->Nat) (old:mF) (oldA:Tm):Prop where
 tms:∀i v,old.tm.get i=some v->oldA.get i=some v
 ads:∀i p,mH i old.ad=some p->oldA.get i=some (.ptr (ν p.1) p.2)
theorem kE.old{base:Nat}{X0 X:Xt}{kf:Nat}{ν:Nat->Nat}{st:mF}{tm:Tm}{HA:xA}{t:Tr rA}(h:kE base X0 kf ν X st tm HA t):zg3 ν st tm:=⟨h.tms,h.ads⟩
theorem Tm.get_cut{tm:Tm}{i:Nat}:tm.cut.get i=if i<tm.k then tm.get i else none:=by
 unfold Tm.cut Tm.get;simp only[bG];by_cases h:Nat.blt i tm.k=true
 ·rw[if_pos h,if_pos h,if_pos (dB.1 h)]
 ·rw[if_neg h,if_neg (fun e=>h (dB.2 e))];rfl
theorem z0u{k i:Nat}:∀ {l:List (Nat × Nat × Nat)},mH i (pC.adCut k l)=if i<k then mH i l else none:=by
 intro l;induction l with
 | nil=>show none=_;split<;>rfl
 | cons a l ih=>
  unfold pC.adCut at ih ⊢
  rw[List.filter_cons];split
  ·rename_i ha
   have ha:=dB.1 ha
   rw[nS,ih,nS];split
   ·rename_i e;rw[if_pos (by omega)]
   ·rfl
  ·rename_i ha
   rw[ih,nS];split
   ·rename_i hi
    rw[if_neg];intro e;exact ha (dB.2 (by omega))
   ·rfl
section
variable {W J:rH}{t:Tr rA}{X X0:Xt}{HA:xA}{C:pA}{A:Tr tD}{ν:Nat->Nat}{Q:aB}{kf n:Nat}{st old:mF}{tm oldA:Tm}{all:Array Oper}{olds:List (Nat × List Nat)}
theorem kE.cut(h:kE C.base X0 kf ν X st tm HA t):kE C.base X0 kf ν X st.cut tm.cut HA t:=by
 refine⟨h.ov,h.le,h.k,h.kA,?_,?_,h.lo,h.inj⟩
 ·intro i v hi
  have hi:st.tm.cut.get i=some v:=hi
  rw[Tm.get_cut]at hi ⊢
  split at hi
  ·rename_i e;rw[if_pos (by rw[h.kA,<- h.k];exact e)];exact h.tms i v hi
  ·cases hi
 ·intro i p hi
  have hi:mH i (pC.adCut st.tm.k st.ad)=some p:=hi
  rw[z0u]at hi;rw[Tm.get_cut];split at hi
  ·rename_i e;rw[if_pos (by rw[h.kA,<- h.k];exact e)];exact h.ads i p hi
  ·cases hi
theorem vT(h:kE C.base X0 kf ν X st tm HA t)(ho:zg3 ν old oldA){os:List Nat}{op:Op}:tN (zns st old os op) (.mixed tm oldA os (eF op))/\zbb ν (z2s st old os op) (.mixed tm oldA os (eF op)):=by
 constructor
 ·intro i v hi
  have hi:(bif iE i (eF op)then Tm.get (bif iE i os then old.tm else st.tm) i else none)=some v:=hi
  show(bif iE i (eF op)then Tm.get (bif iE i os then oldA else tm) i else none)=some v
  cases hm:iE i (eF op)with
  | false=>rw[hm]at hi;cases hi
  | true=>
   rw[hm]at hi;simp only[cond_true]at hi ⊢
   cases hq:iE i os with
   | true=>rw[hq]at hi;exact ho.tms i v hi
   | false=>rw[hq]at hi;exact h.tms i v hi
 ·intro i p hi
  have hi:(bif iE i (eF op)then mH i (bif iE i os then old.ad else st.ad)else none)=some p:=hi
  show(bif iE i (eF op)then Tm.get (bif iE i os then oldA else tm) i else none)=_
  cases hm:iE i (eF op)with
  | false=>rw[hm]at hi;cases hi
  | true=>
   rw[hm]at hi;simp only[cond_true]at hi ⊢
   cases hq:iE i os with
   | true=>rw[hq]at hi;exact ho.ads i p hi
   | false=>rw[hq]at hi;exact h.ads i p hi
theorem zat(ho:zg3 ν old oldA){κ:KT}{kd:Tm->vB}(hκ:∀st' tm',kE C.base X0 kf ν X st' tm' HA t->qA C.base W J (κ st') t Q->yC C.base X0 Q (kd tm')) :
  ∀(l:List Nat) (st:mF) (tm:Tm),kE C.base X0 kf ν X st tm HA t->qA C.base W J (oM C all n old olds κ l st) t Q->yC C.base X0 Q (pG C HA all n oldA olds kd l tm):=by
 intro l;induction l with
 | nil=>exact hκ
 | cons i l ih=>
  intro st tm hst h;have h:qA C.base W J (kB (mC all.toList i) fun o=>kB (nE o.guard all st.tm) fun w=>Bool.rec (motive:=fun _=>T) (zph n o.dst pD false st (oM C all n old olds κ l))
   (tL C o.op (zns st old (lD i olds) o.op) (z2s st old (lD i olds) o.op) st.lo (kop C all n o (zns st old (lD i olds) o.op) st (oM C all n old olds κ l))) w) t Q:=h
  rw[kD]at h;obtain⟨o,h0,h⟩:=h
  rw[kD]at h;obtain⟨w,h1,h2⟩:=h
  rw[zY];refine yC.ob h0 (yC.ob (zck hst h1) ?_)
  cases w with
  | false=>
   rw[if_neg (by simp)]
   obtain⟨st',h3,h4⟩:=hst.put h2
   exact ih _ _ h3 h4
  | true=>
   rw[if_pos rfl];refine Exists.elim (z7c (R:=fun v=>yC C.base X0 Q (fI C o.type v fun v=>pG C HA all n oldA olds kd l (putA n tm o.dst v))) (vT hst ho).1 (vT hst ho).2 hst.ov hst.lo h2 ?_ ?_ ?_) (fun v h=>yC.ob h.1 h.2)
   ·intro v hk
    have hk:qA C.base W J (zvi C o.type v fun v=>zfi (zh9 all.toList o.dst all.toList) (z2x o.op (zns st old (lD i olds) o.op) st.lit) v fun v lt=>zph n o.dst v lt st (oM C all n old olds κ l)) t Q:=hk
    obtain⟨g1,g2⟩:=zpi hk
    obtain⟨lt',g3⟩:=uX g2
    obtain⟨st',g4,g5⟩:=hst.put g3
    exact yC.norm g1 (ih _ _ g4 g5)
   ·intro v hk
    obtain⟨g1,g2⟩:=bJ.1 hk
    obtain⟨lt',g3⟩:=uX g2
    obtain⟨st',g4,g5⟩:=hst.put g3
    exact yC.norm (zb8 g1) (ih _ _ g4 g5)
   ·intro d off hk
    obtain⟨g1,g2⟩:=bJ.1 hk
    obtain⟨st',g4,g5⟩:=hst.putA g2
    exact yC.norm (zih g1) (ih _ _ g4 g5)
theorem zvf(ho:zg3 ν old oldA)(hst:kE C.base X0 kf ν X st tm HA t){k:T}{kd:vB}(hk:qA C.base W J k t Q->yC C.base X0 Q kd) :
  ∀(l:List Nat),qA C.base W J (tP C all old olds st k l) t Q->yC C.base X0 Q (xJ C HA all oldA olds tm kd l):=by
 intro l;induction l with
 | nil=>exact hk
 | cons i l ih=>
  intro h;have h:qA C.base W J (kB (mC all.toList i) fun o=>kB o.dst fun d=>kB (nE o.guard all st.tm) fun w=>Bool.rec (motive:=fun _=>T) (tP C all old olds st k l)
   (kB (st.tm.get d) fun u=>gdT (fitB C o.type u) (tL C o.op (zns st old (lD i olds) o.op) (z2s st old (lD i olds) o.op) st.lo ⟨fun v=>.ite (same 10 v u) (tP C all old olds st k l) .fail,fun v=>.ite (same 10 v u) (tP C all old olds st k l) .fail,fun _ _=>.fail⟩)) w) t Q:=h
  rw[kD]at h;obtain⟨o,h0,h⟩:=h
  rw[kD]at h;obtain⟨d,h1,h⟩:=h
  rw[kD]at h;obtain⟨w,h2,h⟩:=h
  rw[kZ];refine yC.ob h0 (yC.ob h1 (yC.ob (zck hst h2) ?_))
  cases w with
  | false=>rw[if_neg (by simp)];exact ih h
  | true=>
   rw[if_pos rfl];simp only[kD,bJ]at h;obtain⟨u,h3,h4,h5⟩:=h
   have fE:∀v,qA C.base W J (.ite (same 10 v u) (tP C all old olds st k l) .fail) t Q->yC C.base X0 Q (fI C o.type v fun v=>ob (tm.get d) fun u=>iA (same 10 v u) (xJ C HA all oldA olds tm kd l)):=by
    intro v hv;have hv:if same 10 v u=true then qA C.base W J (tP C all old olds st k l) t Q else False:=hv
    split at hv
    ·rename_i hs
     refine yC.norm ?_ (yC.ob (hst.tms _ _ h3) ?_)
     ·rw[sU _ _ _ hs];exact zb8 h4
     ·rw[hs];exact ih hv
    ·exact hv.elim
   obtain⟨v,h6,h7⟩:=z7c (R:=fun v=>yC C.base X0 Q (fI C o.type v fun v=>ob (tm.get d) fun u=>iA (same 10 v u) (xJ C HA all oldA olds tm kd l))) (vT hst ho).1 (vT hst ho).2 hst.ov hst.lo h5 fE fE (fun _ _ h=>h.elim)
   exact yC.ob h6 h7
theorem z1c(hst:kE C.base X0 kf ν X st tm HA t){h:Nat}{o:Oper}{w:Bool}(hw:zO C all h o st.tm=some w):zO C all h o tm=some w:=by
 unfold zO at hw ⊢
 rw[sA]at hw ⊢
 obtain⟨u,h1,h2⟩:=hw
 exact⟨u,zck hst h1,h2⟩
theorem ztr{e e':pC}(he:tN e e'){op:Op}{ef:Eff}(h:gO op e=some ef):gO op e'=some ef:=by
 cases op<;>first | (cases h;done) | skip
 case store t a x=>
  simp only[gO,sA]at h ⊢
  obtain⟨a,h1,v,h2,h⟩:=h
  exact⟨a,gC he h1,v,gC he h2,h⟩
 case mapUpdate t m k x=>
  simp only[gO,sA]at h ⊢
  obtain⟨a,h1,v,h2,u,h3,h⟩:=h
  exact⟨a,gC he h1,v,gC he h2,u,gC he h3,h⟩
 case insert t m k x=>
  simp only[gO,sA]at h ⊢
  obtain⟨a,h1,v,h2,u,h3,h⟩:=h
  exact⟨a,gC he h1,v,gC he h2,u,gC he h3,h⟩
theorem z7d{op:Op}{e:pC}{ae:cJ}{ef:Eff}(h:tEff op e ae=some ef):gO op e=some ef:=by
 cases op<;>first | exact h | skip
 case store t a x=>
  unfold tEff at h;simp only[]at h;split at h
  ·cases h
  ·exact h
theorem z1n(hst:kE C.base X0 kf ν X st tm HA t)(ho:zg3 ν old oldA){l:List Nat}{es:List Eff}(h:z1o all old olds st l=some es):ztq all oldA olds tm l=some es:=by
 refine dX l (fun i ef h=>?_) h
 unfold ze9;simp only[sA,xB]at h ⊢
 obtain⟨o,h1,w,h2,h3,h4⟩:=h
 exact⟨o,h1,w,zck hst h2,h3,ztr (vT hst ho).1 (z7d h4)⟩
theorem zr8(hW:xP C A W)(ho:zg3 ν old oldA){κ:KT}{m:Tm->xA->vB}(hκ:SK C W J X0 kf Q κ m) :
  ∀(l:List wE) (st:mF) (tm:Tm) (HA:xA) (t:Tr rA) (X:Xt),kE C.base X0 kf ν X st tm HA t->qA C.base W J (rR C all n old olds κ l st) t Q->yC C.base X0 Q (lG C (bC C A) all n oldA olds m l tm HA):=by
 intro l;induction l with
 | nil=>intro st tm HA t X hst h;exact hκ _ _ _ _ _ _ hst h
 | cons s l ih=>
  intro st tm HA t X hst h
  cases hg:gN all s with
  | true=>
   have h:qA C.base W J (Bool.rec (motive:=fun _=>T) _ (gdT (mP C all) (kB (z1o all old olds st s.again) fun es=>.heavy (uP C es) fun _=>oM C all n old olds (rR C all n old olds κ l) s.lights st)) (gN all s)) t Q:=h
   rw[hg]at h;have h:qA C.base W J (gdT (mP C all) (kB (z1o all old olds st s.again) fun es=>.heavy (uP C es) fun _=>oM C all n old olds (rR C all n old olds κ l) s.lights st)) t Q:=h
   rw[bJ]at h;obtain⟨h0,h⟩:=h
   rw[kD]at h;obtain⟨es,h1,h⟩:=h
   have h:=h HA.next hst.ov.nextT hst.ov.base
   rw[vO]at h;obtain⟨⟨v,H'⟩,h2,h3⟩:=h
   obtain⟨HA',h4,h5⟩:=zuu _ _ _ _ _ hst.ov h2
   have h6:fP C es HA=some HA':=by
    unfold uP at h4;rw[sA]at h4;obtain⟨y,g1,g2⟩:=h4
    cases g2
    exact g1
   rw[eV hg];unfold zk2;rw[h0];show yC C.base X0 Q (ob (ztq all oldA olds tm s.again) fun es=>ob (fP C es HA) fun H'=>pG C H' all n oldA olds (fun tm=>lG C (bC C A) all n oldA olds m l tm H') s.lights tm)
   refine yC.ob (z1n hst ho h1) (yC.ob h6 ?_)
   exact zat ho (fun st' tm' hs hw=>ih _ _ _ _ _ hs hw) _ _ _ (hst.later h5 (XLe.refl _)) h3
  | false=>
  have h:qA C.base W J (Bool.rec (motive:=fun _=>T) (kB (mC all.toList (hvI all s.heavy)) fun o=>kB (zO C all s.heavy o st.tm) fun w=>
   (fun cont:KT=>Bool.rec (motive:=fun _=>T) (zph n o.dst pD false st cont)
    (tH C [] o.dst o.op (zns st old (lD (hvI all s.heavy) olds) o.op) (z2s st old (lD (hvI all s.heavy) olds) o.op) st.lo (kop C all n o (zns st old (lD (hvI all s.heavy) olds) o.op) st cont) (klo C n o st cont)) w)
   (fun st'=>tP C all old olds st' (oM C all n old olds (rR C all n old olds κ l) s.lights st') s.again)) _ (gN all s)) t Q:=h
  rw[hg]at h;have h:qA C.base W J (kB (mC all.toList (hvI all s.heavy)) fun o=>kB (zO C all s.heavy o st.tm) fun w=>
   (fun cont:KT=>Bool.rec (motive:=fun _=>T) (zph n o.dst pD false st cont)
    (tH C [] o.dst o.op (zns st old (lD (hvI all s.heavy) olds) o.op) (z2s st old (lD (hvI all s.heavy) olds) o.op) st.lo (kop C all n o (zns st old (lD (hvI all s.heavy) olds) o.op) st cont) (klo C n o st cont)) w)
   (fun st'=>tP C all old olds st' (oM C all n old olds (rR C all n old olds κ l) s.lights st') s.again)) t Q:=h
  rw[kD]at h;obtain⟨o,h0,h⟩:=h
  rw[kD]at h;obtain⟨w,h1,h2⟩:=h
  rw[uU hg];refine yC.ob h0 (yC.ob (z1c hst h1) ?_)
  have fE:∀st' tm' HA' t' X' ν',ν'=ν->kE C.base X0 kf ν' X' st' tm' HA' t'->qA C.base W J (tP C all old olds st' (oM C all n old olds (rR C all n old olds κ l) s.lights st') s.again) t' Q →
    yC C.base X0 Q (xJ C HA' all oldA olds tm' (pG C HA' all n oldA olds (fun tm=>lG C (bC C A) all n oldA olds m l tm HA') s.lights tm') s.again):=by
   intro st' tm' HA' t' X' ν' e hs hw;subst e;exact zvf ho hs (fun hl=>zat ho (fun st2 tm2 hs2 hw2=>ih _ _ _ _ _ hs2 hw2) _ _ _ hs hl) _ hw
  cases w with
  | false=>
   simp only[yar,if_false];obtain⟨st',h3,h4⟩:=hst.put h2
   exact fE _ _ _ _ _ _ rfl h3 h4
  | true=>
   simp only[if_true];exact zv8 (m:=fun tm' HA'=>xJ C HA' all oldA olds tm' (pG C HA' all n oldA olds (fun tm=>lG C (bC C A) all n oldA olds m l tm HA') s.lights tm') s.again)
    hW (vT hst ho).1 (vT hst ho).2 hst (fun st' tm' HA' t' X' ν' hn hs _ hw=>fE _ _ _ _ _ _ (hn rfl) hs hw) h2
theorem zsa(hW:xP C A W){la:List Nat}{fn id:Nat}{d:Bool}{κ:KT}{m:Tm->xA->vB}(hκ:SK C W J X0 kf Q κ m):SK C W J X0 kf Q (zu7 C la fn n κ id all d) (oU C (bC C A) fn n m id all d):=by
 intro st tm HA t X ν hst h
 cases d with
 | false=>exact z69 hW hκ _ _ _ _ _ _ _ hst.cut h
 | true=>
  have h:qA C.base W J (kB (ob (C.plans.get fn) fun t=>t.get id) fun p=>gdT (kN all p) (oM C all n st.cut p.olds (rR C all n st.cut p.olds κ p.stages) p.first st.cut)) t Q:=h
  simp only[kD,bJ]at h;obtain⟨p,h1,h2,h3⟩:=h
  show yC C.base X0 Q (ob (ob (C.plans.get fn) fun t=>t.get id) fun p=>iA (kN all p) (pG C HA all n tm.cut p.olds (fun tm'=>lG C (bC C A) all n tm.cut p.olds m p.stages tm' HA) p.first tm.cut))
  refine yC.ob h1 ?_
  rw[h2];exact zat hst.cut.old (fun st' tm' hs hw=>zr8 hW hst.cut.old hκ _ _ _ _ _ _ hs hw) _ _ _ hst.cut h3
end
structure PtD where
 p:PI
 m:Tm->xA->vB
def jJ(C:pA)(φ:Ora)(fn n:Nat):tD->Kt->List PtD
 | .skip,_=>[]
 | .region _ _ _,_=>[]
 | .seq a b,κ=>jJ C φ fn n a ⟨vD C φ fn n b κ,κ.exit,κ.ret⟩++jJ C φ fn n b κ
 | .cond _ x y,κ=>jJ C φ fn n x κ++jJ C φ fn n y κ
 | .block id c,κ=>jJ C φ fn n c ⟨κ.norm,fun i tm H=>Bool.rec (motive:=fun _=>vB) (κ.exit i tm H) (κ.norm tm H) (Nat.beq id i),κ.ret⟩
 | .loop p c,κ=>⟨p,vD C φ fn n (.loop p c) κ⟩::jJ C φ fn n c ⟨vD C φ fn n (.loop p c) κ,κ.exit,κ.ret⟩
 | .exit _,_=>[]
 | .ret,_=>[]
 | .cut p c,κ=>⟨p,vD C φ fn n (.cut p c) κ⟩::jJ C φ fn n c κ
 | .range i pl fo ps id ops c,_=>⟨⟨i,eC pl ps.toList,[]⟩,z4l C φ fn n ⟨i,pl,fo,ps,id,ops,c⟩⟩::jJ C φ fn n c rdK
def z42(base kf:Nat)(d:PtD)(vals:List zA)(t:Tr rA)(Q:aB):Prop:=∀X0 X HA tm ν,kE base X0 kf ν X (zud kf d.p vals) tm HA t->yC base X0 Q (d.m tm HA)
def JOk (base kf:Nat)(J:rH)(l:List PtD):Prop:=∀d∈l,∀vals t Q,J d.p.id vals t Q->z42 base kf d vals t Q
structure SKt (C:pA) (W J:rH) (X0:Xt) (kf:Nat) (Q:aB) (κ:KtT) (m:Kt):Prop where
 norm:SK C W J X0 kf Q κ.norm m.norm
 exit:∀i,SK C W J X0 kf Q (κ.exit i) (m.exit i)
 ret:SK C W J X0 kf Q κ.ret m.ret
theorem zhi{d:Nat}{l:List zA}{st:mF}:∀ {ll:List (Nat × Nat)} {b rest:List zA},zfg st ll=some b->(z08 ll (b++rest)).get d=some l->st.lo.get d=some l:=by
 intro ll;induction ll with
 | nil=>intro b rest _ h;rw[show z08 [] (b++rest)=.leaf from rfl,Tr.get_leaf]at h;cases h
 | cons p ll ih=>
  intro b rest hb h;have hb:(ob (mH p.1 st.ad) fun a=>iA (Nat.beq a.1 p.1&&Nat.beq a.2 0) (ob (st.lo.get p.1) fun l=>iA (Nat.beq (dA l) p.2) (ob (zfg st ll) fun r=>some (eC l r))))=some b:=hb
  simp only[sA,xB]at hb;obtain⟨a,_,_,l0,h2,h3,r,h4,h5⟩:=hb
  cases h5;have h:((z08 ll (gL (eC l0 r++rest) p.2)).set p.1 (ze7 (eC l0 r++rest) p.2)).get d=some l:=h
  rw[mB,jC]at h3;rw[jF,jN,iM,<- h3,yba,List.drop_left,List.take_left,Tr.get_set]at h;split at h
  ·rename_i e;cases h;rw[e];exact h2
  ·exact ih h4 h
theorem z1y{i:Nat}{q:Nat × Nat}{st:mF}:∀ {ll:List (Nat × Nat)} {b:List zA},zfg st ll=some b->mH i (stAd ll)=some q->mH i st.ad=some q:=by
 intro ll;induction ll with
 | nil=>intro b _ h;cases h
 | cons p ll ih=>
  intro b hb h;have hb:(ob (mH p.1 st.ad) fun a=>iA (Nat.beq a.1 p.1&&Nat.beq a.2 0) (ob (st.lo.get p.1) fun l=>iA (Nat.beq (dA l) p.2) (ob (zfg st ll) fun r=>some (eC l r))))=some b:=hb
  simp only[sA,xB,yac,mB]at hb;obtain⟨a,h1,⟨h2,h3⟩,l0,_,_,r,h4,_⟩:=hb
  have h:mH i ((p.1,p.1,0)::stAd ll)=some q:=h
  rw[nS]at h;split at h
  ·rename_i e;cases h;rw[e];show mH p.1 st.ad=some (p.1,0);rw[h1,<- h2,<- h3]
  ·exact ih h4 h
theorem z1w{i:Nat}{v:zA}{st:mF}:∀ {pl:List Nat} {a rest:List zA},qF (fun i=>st.tm.get i) pl=some a->(zl7 pl (a++rest)).get i=some v->st.tm.get i=some v:=by
 intro pl;induction pl with
 | nil=>intro a rest _ h;rw[show zl7 [] (a++rest)=.leaf from rfl,Tr.get_leaf]at h;cases h
 | cons j pl ih=>
  intro a rest ha h;rw[wK,sA]at ha;obtain⟨u,h1,ha⟩:=ha
  rw[sA]at ha;obtain⟨r,h2,ha⟩:=ha
  cases ha;have h:((zl7 pl (r++rest)).set j u).get i=some v:=h
  rw[Tr.get_set]at h;split at h
  ·rename_i e;cases h;rw[e];exact h1
  ·exact ih h2 h
theorem Tm.get_kv{k i:Nat}{v:Tr zA}{u:zA}(h:Tm.get ⟨k,v,[]⟩ i=some u):i<k/\v.get i=some u:=by
 unfold Tm.get at h;rw[bG]at h;split at h
 ·rename_i e;exact⟨dB.1 e,h⟩
 ·cases h
theorem zrz{p:PI}{st:mF}{vals:List zA}(h:zff p st=some vals):∃a b,vals=a++b/\qF (fun i=>st.tm.get i) p.pl=some a/\zfg st p.ll=some b/\a.length=p.pl.length:=by
 unfold zff at h;simp only[sA]at h;obtain⟨a,h1,b,h2,h3⟩:=h
 cases h3;refine⟨a,b,jF _ _,h1,h2,?_⟩
 have:∀(l:List Nat) (r:List zA),qF (fun i=>st.tm.get i) l=some r->r.length=l.length:=by
  intro l;induction l with
  | nil=>intro r h;cases h;rfl
  | cons x l ih=>
   intro r h;rw[wK,sA]at h;obtain⟨u,_,h⟩:=h
   rw[sA]at h;obtain⟨s,h5,h⟩:=h
   cases h;simp[ih _ h5]
 exact this _ _ h1
section
variable {W J:rH}{t:Tr rA}{X X0:Xt}{HA:xA}{C:pA}{A:Tr tD}{ν:Nat->Nat}{Q:aB}{kf n:Nat}{st:mF}{tm:Tm}
theorem kE.at(h:kE C.base X0 kf ν X st tm HA t){p:PI}{vals:List zA}(hv:zff p st=some vals):kE C.base X0 kf ν X (zud kf p vals) tm HA t:=by
 obtain⟨a,b,rfl,h1,h2,h3⟩:=zrz hv
 have hd:gL (a++b) (dA p.pl)=b:=by rw[jN,jC,<- h3,List.drop_left]
 refine⟨h.ov,h.le,rfl,h.kA,?_,?_,?_,?_⟩
 ·intro i v hi
  exact h.tms i v (z1w h1 (Tm.get_kv hi).2)
 ·intro i q hi
  exact h.ads i q (z1y h2 hi)
 ·intro d l hl
  have hl:(z08 p.ll (gL (a++b) (dA p.pl))).get d=some l:=hl
  rw[hd]at hl;have hb:(z08 p.ll (b++[])).get d=some l:=by rw[ybe];exact hl
  exact h.lo d l (zhi h2 hb)
 ·intro d d' l l' hl hl' he
  have hl:(z08 p.ll (gL (a++b) (dA p.pl))).get d=some l:=hl
  have hl':(z08 p.ll (gL (a++b) (dA p.pl))).get d'=some l':=hl'
  rw[hd]at hl hl'
  have hb:(z08 p.ll (b++[])).get d=some l:=by rw[ybe];exact hl
  have hb':(z08 p.ll (b++[])).get d'=some l':=by rw[ybe];exact hl'
  exact h.inj d d' l l' (zhi h2 hb) (zhi h2 hb') he
theorem zyi{tm:Tm}{i:Nat}{v:zA}(hv:tm.get i=some v):∀ {live:List Nat},i∈live->(zkv tm live).get i=some v:=by
 intro live;induction live with
 | nil=>intro h;cases h
 | cons j live ih=>
  intro h;show(match tm.get j with | some v=>(zkv tm live).set j v | none=>zkv tm live:Tr zA).get i=some v
  by_cases e:i=j
  ·subst e;rw[hv];simp only[];rw[Tr.get_set,if_pos rfl]
  ·have:=ih ((yat.1 h).resolve_left e)
   cases tm.get j with
   | none=>exact this
   | some u=>simp only[];rw[Tr.get_set,if_neg e];exact this
theorem z1v{i:Nat}{v:zA}:∀ {pl:List Nat} {vals:List zA},(zl7 pl vals).get i=some v->i∈pl:=by
 intro pl;induction pl with
 | nil=>intro vals h;rw[show zl7 [] vals=.leaf from rfl,Tr.get_leaf]at h;cases h
 | cons j pl ih=>
  intro vals h
  cases vals with
  | nil=>rw[show zl7 (j::pl) []=.leaf from rfl,Tr.get_leaf]at h;cases h
  | cons u vals=>
   have h:((zl7 pl vals).set j u).get i=some v:=h
   rw[Tr.get_set]at h;split at h
   ·rename_i e;rw[e];exact yaz
   ·exact yas _ (ih h)
theorem z1x{i:Nat}{q:Nat × Nat}:∀ {ll:List (Nat × Nat)},mH i (stAd ll)=some q->i∈(List.rec (motive:=fun _=>List Nat) [] (fun a _ r=>a.1::r) ll:List Nat):=by
 intro ll;induction ll with
 | nil=>intro h;cases h
 | cons p ll ih=>
  intro h;have h:mH i ((p.1,p.1,0)::stAd ll)=some q:=h
  rw[nS]at h;split at h
  ·rename_i e;rw[e];exact yaz
  ·exact yas _ (ih h)
theorem kE.keep{p:PI}{vals:List zA}(hb:∀i,i∈p.kept->i<kf)(h:kE C.base X0 kf ν X (zud kf p vals) tm HA t):kE C.base X0 kf ν X (zud kf p vals) (Am.keep p.kept tm) HA t:=by
 have key:∀i v,i∈p.kept->tm.get i=some v->(Am.keep p.kept tm).get i=some v:=by
  intro i v hi hv;unfold Am.keep Tm.get;rw[bG,if_pos (dB.2 (by rw[h.kA];exact hb i hi))]
  exact zyi hv hi
 refine⟨h.ov,h.le,rfl,h.kA,?_,?_,h.lo,h.inj⟩
 ·intro i v hi
  refine key i v ?_ (h.tms i v hi)
  unfold PI.kept;rw[jF];exact ycd _ (z1v (Tm.get_kv hi).2)
 ·intro i q hi
  refine key i _ ?_ (h.ads i q hi)
  unfold PI.kept;rw[jF];exact ybg _ (z1x hi)
theorem zn1{l:List PtD}(hJ:JOk C.base kf J l){p:PI}{m:Tm->xA->vB}(hm:(⟨p,m⟩:PtD)∈l):SK C W J X0 kf Q (zs8 p) m:=by
 intro st tm HA t X ν hst h;unfold zs8 at h;rw[kD]at h;obtain⟨vals,h1,h2⟩:=h
 exact hJ _ hm vals t Q h2 _ _ _ _ _ (hst.at h1)
theorem z5q:SKt C W J X0 kf Q rdT rdK:=⟨fun _ tm HA t X _ hst h=>⟨_,t,HA,X,rfl,hst.ov,hst.le,h⟩,fun _ _ _ _ _ _ _ _ h=>h.elim,fun _ tm HA t X _ hst h=>⟨_,t,HA,X,rfl,hst.ov,hst.le,h⟩⟩
def z4z(C:pA)(A:Tr tD)(W:rH):Prop:=∀l args t Q,(∀X HA,Ov C.base t X HA->yC C.base X Q (zos C A (yo+l) args HA))->W (yo+l) args t Q
def onX (X:Xt)(b:Nat)(y:rA):Xt:=fun c=>if c=b then some y else X c
theorem zka{X:Xt}{b:Nat}{y:rA}(h:X b=none):XLe X (onX X b y):=by
 intro c z hc;unfold onX;rw[if_neg (fun e=>by rw[e,h]at hc;cases hc)]
 exact hc
theorem Ov.under{base:Nat}(h:Ov base t X HA){b:Nat}{y:rA}(hb:t.get b=some y)(z:rA):Ov base (t.del b) (onX X b z) (Am.setBlk HA b z):=by
 refine⟨h.base,fun c hc=>?_,fun c u hc=>?_,fun c u hc=>?_⟩
 ·show(HA.t.set b z).get c=_
  unfold onX at hc;split at hc
  ·cases hc
  ·rename_i e;rw[Tr.get_set,if_neg e,Tr.get_del,if_neg e];exact h.same c hc
 ·show(HA.t.set b z).get c=_/\_
  unfold onX at hc;split at hc
  ·rename_i e;cases hc;subst e;exact⟨by rw[Tr.get_set,if_pos rfl],by rw[Tr.get_del,if_pos rfl],h.lt _ _ hb⟩
  ·rename_i e
   obtain⟨g1,g2,g3⟩:=h.ext c u hc
   exact⟨by rw[Tr.get_set,if_neg e];exact g1,by rw[Tr.get_del,if_neg e];exact g2,g3⟩
 ·rw[Tr.get_del]at hc
  split at hc
  ·cases hc
  ·exact h.lt _ _ hc
theorem Ov.back{base:Nat}(h:Ov base t X HA){b:Nat}{y:rA}(hb:X b=some y)(z:rA):Ov base (t.set b z) (fun c=>if c=b then none else X c) (Am.setBlk HA b z):=by
 obtain⟨g1,g2,g3⟩:=h.ext b y hb
 refine⟨h.base,fun c hc=>?_,fun c u hc=>?_,fun c u hc=>?_⟩
 ·show(HA.t.set b z).get c=_
  rw[Tr.get_set,Tr.get_set];split
  ·rfl
  ·rename_i e;rw[if_neg e]at hc;exact h.same c hc
 ·show(HA.t.set b z).get c=_/\_
  split at hc
  ·cases hc
  ·rename_i e
   obtain⟨g1,g2,g3⟩:=h.ext c u hc
   exact⟨by rw[Tr.get_set,if_neg e];exact g1,by rw[Tr.get_set,if_neg e];exact g2,g3⟩
 ·rw[Tr.get_set]at hc
  split at hc
  ·rename_i e;rw[e];exact g3
  ·exact h.lt _ _ hc
theorem zdl{H:xA}{l:Nat}{r:qL}(hl:256<=l)(h:H.t.get l=some (.loop r)):yI H l=some r:=by
 unfold yI;rw[h,uA,Nat.ble_eq_true_of_le hl];rfl
theorem z17{base kf n:Nat}{st:mF}{tm:Tm}{i:Nat}{pl ps:List Nat}{vals args:List zA}{X:Xt}{HA:xA}{t:Tr rA}(ho:Ov base t X HA)(hk:st.tm.k=kf)(hkA:tm.k=kf)
  (ht:∀i v,st.tm.get i=some v->tm.get i=some v) (hv:z5n pl st=some vals) (hok:tC (fun p=>Nat.blt p st.tm.k&&Nat.blt p n && !iE p pl) ps=true) (h1:ps.length<=1) (hl:args.length=ps.length) :
  ∃tm',pQ n ps args tm=some tm'/\kE base X kf (fun i=>i) X (zud kf ⟨i,eC pl ps,[]⟩ (vals++args)) tm' HA t:=by
 have old:∀(pl:List Nat) (vals rest:List zA) j v,qF (fun i=>st.tm.get i) pl=some vals->(zl7 (pl++ps) (vals++rest)).get j=some v->(j∈pl/\tm.get j=some v)\/(zl7 ps rest).get j=some v:=by
  intro pl;induction pl with
  | nil=>intro vals rest j v h hj;cases h;exact Or.inr hj
  | cons a pl ih=>
   intro vals rest j v h hj;rw[wK,sA]at h;obtain⟨u,g1,h⟩:=h
   rw[sA]at h;obtain⟨us,g2,h⟩:=h
   cases h;have hj:((zl7 (pl++ps) (us++rest)).set a u).get j=some v:=hj
   rw[Tr.get_set]at hj;split at hj
   ·rename_i e;cases hj;rw[e];exact Or.inl ⟨yaz,ht _ _ g1⟩
   ·rcases ih us rest j v g2 hj with⟨a1,a2⟩ | a1
    ·exact Or.inl ⟨yas _ a1,a2⟩
    ·exact Or.inr a1
 cases ps with
 | nil=>
  cases args with
  | cons _ _=>cases hl
  | nil=>
   refine⟨tm,rfl,ho,XLe.refl _,rfl,hkA,fun j v hj=>?_,fun j p h=>(by cases h),fun d l h=>?_,fun d _ l _ h=>?_⟩
   ·have hj:=(Tm.get_kv hj).2
    have hj:(zl7 (eC pl []) (vals++[])).get j=some v:=hj
    rw[jF]at hj;rcases old pl vals [] j v hv hj with⟨_,h⟩ | h
    ·exact h
    ·rw[show zl7 [] []=.leaf from rfl,Tr.get_leaf]at h;cases h
   ·rw[show(zud kf ⟨i,eC pl [],[]⟩ (vals++[])).lo=.leaf from rfl,Tr.get_leaf]at h;cases h
   ·rw[show(zud kf ⟨i,eC pl [],[]⟩ (vals++[])).lo=.leaf from rfl,Tr.get_leaf]at h;cases h
 | cons p ps=>
  cases ps with
  | cons _ _=>simp at h1
  | nil=>
   cases args with
   | nil=>cases hl
   | cons a args=>
    cases args with
    | cons _ _=>simp at hl
    | nil=>
     have hp:(bif (Nat.blt p st.tm.k&&Nat.blt p n && !iE p pl)then tC (fun p=>Nat.blt p st.tm.k&&Nat.blt p n && !iE p pl) []else false)=true:=hok
     cases hx:(Nat.blt p st.tm.k&&Nat.blt p n && !iE p pl)with
     | false=>rw[hx]at hp;cases hp
     | true=>
      simp only[yac,ybq]at hx;obtain⟨⟨x1,x2⟩,x3⟩:=hx
      have x1:=dB.1 x1
      have x2:=dB.1 x2
      refine⟨putA n tm (some p) a,rfl,ho,XLe.refl _,rfl,by rw[zp3];exact hkA,fun j v hj=>?_,fun j p h=>(by cases h),fun d l h=>?_,fun d _ l _ h=>?_⟩
      ·have hj:=(Tm.get_kv hj).2
       have hj:(zl7 (eC pl [p]) (vals++[a])).get j=some v:=hj
       rw[jF]at hj;rw[xH];rcases old pl vals [a] j v hv hj with⟨hm,h⟩ | h
       ·rw[if_neg]
        ·exact h
        ·rintro⟨e,_⟩
         cases e
         rw[show iE p pl=true from(tO _ _).2 hm]at x3
         cases x3
       ·have h:((zl7 [] []).set p a).get j=some v:=h
        rw[Tr.get_set]at h;split at h
        ·rename_i e;rw[if_pos ⟨by rw[e],by rw[e];exact x2⟩];exact h
        ·rw[show zl7 [] []=.leaf from rfl,Tr.get_leaf]at h;cases h
      ·rw[show(zud kf ⟨i,eC pl [p],[]⟩ (vals++[a])).lo=.leaf from rfl,Tr.get_leaf]at h;cases h
      ·rw[show(zud kf ⟨i,eC pl [p],[]⟩ (vals++[a])).lo=.leaf from rfl,Tr.get_leaf]at h;cases h
theorem zwp(hW:xP C A W)(hY:z4z C A W){f:Nat}{κ:KtT}{m:Kt}(hκ:∀X0,SKt C W J X0 kf Q κ m){i:Nat}{pl:List Nat}{fo:Operand}{ps:Array Nat}{id:Nat}{ops:Array Oper}{c:tD}
  (hone:∃c0,A.get f=some c0/\tW c0=some ⟨i,pl,fo,ps,id,ops,c⟩) (hJ:∀vals t Q,J i vals t Q->z42 C.base kf ⟨⟨i,eC pl ps.toList,[]⟩,z4l C (bC C A) f n ⟨i,pl,fo,ps,id,ops,c⟩⟩ vals t Q) :
  SK C W J X0 kf Q (zwq C n κ i pl fo ps.toList ops.toList c) (nL C (bC C A) f n m fo ps.toList (.region id ops false) (eE c)):=by
 intro st tm HA t X ν hst h;unfold zwq at h;rw[bJ,kD]at h;obtain⟨hok,vals,hv,h⟩:=h
 rw[kD]at h;obtain⟨fv,hf,h256,h⟩:=h
 unfold zwr at hok;simp only[yac]at hok;obtain⟨⟨⟨hok1,hok2⟩,hok3⟩,hok4⟩:=hok
 have hok2:ps.toList.length<=1:=by have:=Nat.le_of_ble_eq_true hok2;rw[jC]at this;exact this
 have hok4:mM c=[]:=by
  cases hx:mM c with
  | nil=>rfl
  | cons _ _=>rw[hx]at hok4;cases hok4
 have ho:=hst.ov
 have hbase:=ho.base
 generalize hr:(⟨.ready,none,f,n,tm,ps.toList,.region id ops false,eE c,HA.next⟩:qL)=r at *
 have htn:t.get (HA.next+1)=none:=by
  cases hx:t.get (HA.next+1)with
  | none=>rfl
  | some y=>exact absurd (ho.lt _ _ hx) (by omega)
 have hyield:∀args t1 Q1,args.length=dA ps.toList->t1.get (HA.next+1)=some (.loop r)->J i (vals++args) (t1.del (HA.next+1)) (fun v t2=>t2.get (HA.next+1)=none->∃b,v=.bool b/\Q1 v (t2.set (HA.next+1) (.loop (zh5 b r))))->W (yo+(HA.next+1)) args t1 Q1:=by
  intro args t1 Q1 hla ht1 hj;refine hY _ _ _ _ fun X1 HA1 ho1=>?_
  rw[zlo,z6n];show yC C.base X1 Q1 (zc5 C A (bC C A) (HA.next+1) args HA1)
  have hx1:=ho1.notX ht1
  have hov:=ho1.under ht1 (.loop (zow r))
  obtain⟨tm',hs1,hs2⟩:=z17 (n:=n) (i:=i) hov hst.k hst.kA hst.tms hv hok1 hok2 (by rw[hla,jC])
  obtain⟨v,t2,HA2,X2,e1,e2,e3,e4⟩:=hJ _ _ _ hj _ _ _ _ _ hs2
  have hb2:X2 (HA.next+1)=some (.loop (zow r)):=e3 _ _ (by unfold onX;rw[if_pos rfl])
  obtain⟨b,e4,e5⟩:=e4 (e2.ext _ _ hb2).2.1
  subst e4;obtain⟨c0,hc0,hc1⟩:=hone
  refine⟨.bool b,_,_,_,pU.2 ⟨r,tm',c0,⟨i,pl,fo,ps,id,ops,c⟩,(.bool b,HA2),zow r,b,zdl (by omega) (by rw[ho1.up ht1]),?_,?_,hc1,?_,?_,zdl (by omega) (e2.ext _ _ hb2).1,rfl,rfl⟩,e2.back hb2 _,?_,e5⟩
  ·rw[<- hr];exact hs1
  ·rw[<- hr];exact hc0
  ·rw[<- hr];exact⟨rfl,rfl,rfl,rfl,hok3,hok4⟩
  ·rw[<- hr]at e1 ⊢;exact e1
  ·intro c y hc
   have hne:c≠HA.next+1:=fun e=>by rw[e,hx1]at hc;cases hc
   show(if c=HA.next+1 then none else X2 c)=some y
   rw[if_neg hne];exact e3 _ _ (zka hx1 _ _ hc)
 have h:=h (HA.next+1) r htn (by omega) (by rw[<- hr]) (by rw[<- hr]) hyield
 rw[vO]at h;obtain⟨⟨g,aq⟩,hra,hw⟩:=h
 unfold kX at hra;rw[sA]at hra;obtain⟨⟨qf,q1,q2⟩,hq,hra⟩:=hra
 cases qf with
 | yld l=>cases hra
 | func g'=>
  simp only[xB,yac]at hra;obtain⟨⟨hg,hnp⟩,hra⟩:=hra
  cases hra;have hp:C.prims.get g=none:=by
   unfold npC at hnp
   cases hx:C.prims.get g with
   | none=>rfl
   | some u=>rw[hx]at hnp;cases hnp
  have hXd:X HA.next=none:=ho.nextX
  have ho1:Ov C.base t (onX X HA.next (.deferred (some []))) (newBlk HA (.deferred (some []))):=by
   refine⟨Nat.le_succ_of_le ho.base,fun b hb=>?_,fun b y hb=>?_,fun b y hb=>Nat.lt_succ_of_lt (ho.lt _ _ hb)⟩
   ·unfold onX at hb
    split at hb
    ·cases hb
    ·rename_i e
     show(HA.t.set HA.next _).get b=_
     rw[Tr.get_set,if_neg e];exact ho.same b hb
   ·unfold onX at hb
    show(HA.t.set HA.next _).get b=_/\_/\b<HA.next+1
    split at hb
    ·rename_i e;cases hb;subst e;exact⟨by rw[Tr.get_set,if_pos rfl],ho.nextT,Nat.lt_succ_self _⟩
    ·rename_i e
     obtain⟨g1,g2,g3⟩:=ho.ext b y hb
     exact⟨by rw[Tr.get_set,if_neg e];exact g1,g2,Nat.lt_succ_of_lt g3⟩
  have ho2:=ho1.newBlk (.loop r)
  obtain⟨v,t',HA2,X2,e1,e2,e3,e4⟩:=hW _ _ _ _ hw _ _ ho2
  rw[sV hg,hp]at e1;have e1:bC C A (.func g) (eC q1 (.func (.yld (HA.next+1)) [] []::q2)) (newBlk (newBlk HA (.deferred (some []))) (.loop r))=some (v,HA2):=e1
  have goal:∀r' (κ':KT) (m':Tm->xA->vB),t'.get (HA.next+1)=some (.loop r')->(!Nat.beq (LoopState.tag r'.state) 1)=true->(∀tm H,vR m r'.pending tm H=m' tm H)->(∀X0,SK C W J X0 kf Q κ' m')->qA C.base W J (κ' st) (t'.del (HA.next+1)) Q →
    yC C.base X0 Q (nL C (bC C A) f n m fo ps.toList (.region id ops false) (eE c) tm HA):=by
   intro r' κ' m' k1 k2 k3 k4 k5;have ho3:=e2.under k1 (.loop ⟨.exhausted,r'.pending,r'.fn,r'.n,r'.tm,r'.params,r'.assign,r'.body,r'.defers⟩)
   have hx2:=e2.notX k1
   have hXX:XLe X (onX X2 (HA.next+1) (.loop ⟨.exhausted,r'.pending,r'.fn,r'.n,r'.tm,r'.params,r'.assign,r'.body,r'.defers⟩)):=((zka hXd).trans e3).trans (zka hx2)
   have hd3:(onX X2 (HA.next+1) (.loop ⟨.exhausted,r'.pending,r'.fn,r'.n,r'.tm,r'.params,r'.assign,r'.body,r'.defers⟩)) HA.next=some (.deferred (some [])):=by
    refine(zka hx2) _ _ (e3 _ _ ?_)
    unfold onX;rw[if_pos rfl]
   have hX0d:X0 HA.next=none:=by
    cases hx:X0 HA.next with
    | none=>rfl
    | some y=>have:=hst.le _ _ hx;rw[hXd]at this;cases this
   have hl:=hst.later ho3 hXX
   have hl':kE C.base (onX X0 HA.next (.deferred (some []))) kf ν (onX X2 (HA.next+1) (.loop ⟨.exhausted,r'.pending,r'.fn,r'.n,r'.tm,r'.params,r'.assign,r'.body,r'.defers⟩)) st tm (endLoop HA2 (HA.next+1) r') (t'.del (HA.next+1)):=by
    refine⟨hl.ov,?_,hl.k,hl.kA,hl.tms,hl.ads,fun d l hd=>?_,hl.inj⟩
    ·intro b y hb
     unfold onX at hb;split at hb
     ·rename_i e;cases hb;rw[e];exact hd3
     ·exact hl.le _ _ hb
    ·obtain⟨g1,g2,g3⟩:=hl.lo d l hd
     refine⟨?_,g2,g3⟩
     obtain⟨c',g4,_⟩:=(hst.lo d l hd).2.2
     unfold onX;rw[if_neg (fun e=>by rw[e,hXd]at g4;cases g4)]
     exact g1
   obtain⟨w,t4,HA4,X4,f1,f2,f3,f4⟩:=k4 _ _ _ _ _ _ _ hl' k5
   have hd4:X4 HA.next=some (.deferred (some [])):=f3 _ _ (by unfold onX;rw[if_pos rfl])
   refine⟨w,t4,_,_,?_,f2.setX hd4 (.deferred none),?_,f4⟩
   ·unfold nL
    rw[gC (zhy hst).1 hf,uA,hq,uA]
    show(iA (fG (C.prims.get g)) _)=_
    rw[hp];show(ob (bC C A (.func g) _ (newBlk (newBlk HA (.deferred (some []))) (.loop ⟨.ready,none,f,n,tm,ps.toList,.region id ops false,eE c,HA.next⟩))) _)=_
    rw[hr,e1,uA,zdl (by omega) (e2.up k1),uA,k2]
    show(ob (vR m r'.pending tm _) _)=_
    rw[k3];show(ob (m' tm (endLoop HA2 (HA.next+1) r')) _)=_
    rw[f1,uA];have:dP HA4 HA.next=some (some []):=by
     unfold dP;rw[(f2.ext _ _ hd4).1,uA,Nat.ble_eq_true_of_le (by omega:256<=HA.next)]
     rfl
    simp only[this,uA];rfl
   ·intro b y hb
    have hne:b≠HA.next:=fun e=>by rw[e,hX0d]at hb;cases hb
    show(if b=HA.next then _ else X4 b)=some y
    rw[if_neg hne];exact f3 _ _ (zka hX0d _ _ hb)
  rcases e4 with⟨k1,k2⟩ | ⟨k1,k2⟩
  ·exact goal r κ.norm m.norm k1 (by rw[<- hr];rfl) (fun _ _=>by rw[<- hr];rfl) (fun X0=>(hκ X0).norm) k2
  ·exact goal _ κ.ret m.ret k1 (by rw[<- hr];rfl) (fun _ _=>by rw[<- hr];rfl) (fun X0=>(hκ X0).ret) k2
def ROk (A:Tr tD)(f:Nat)(c:tD):Prop:=∀q∈mM c,∃c0,A.get f=some c0/\tW c0=some q
theorem ROk.l{a b:List zo3}{P:zo3->Prop}(h:∀q∈eC a b,P q):(∀q∈a,P q)/\∀q∈b,P q:=by
 rw[jF]at h;exact⟨fun q hq=>h q (ycd _ hq),fun q hq=>h q (ybg _ hq)⟩
theorem zcs(hW:xP C A W)(hY:z4z C A W){la:List Nat}{f:Nat}:∀(c:tD) (κ:KtT) (m:Kt),ROk A f c->(∀X0,SKt C W J X0 kf Q κ m)->JOk C.base kf J (jJ C (bC C A) f n c m)->∀X0,SK C W J X0 kf Q (zmr C la f n c κ) (vD C (bC C A) f n c m):=by
 intro c;induction c with
 | skip=>intro κ m _ hκ _ X0;exact(hκ X0).norm
 | region id ops d=>intro κ m _ hκ _ X0;exact zsa hW (hκ X0).norm
 | seq a b iha ihb=>
  intro κ m hR hκ hJ;exact iha ⟨zmr C la f n b κ,κ.exit,κ.ret⟩ ⟨vD C (bC C A) f n b m,m.exit,m.ret⟩ (ROk.l hR).1 (fun X0=>⟨ihb κ m (ROk.l hR).2 hκ (fun d hd=>hJ d (ybg _ hd)) X0,(hκ X0).exit,(hκ X0).ret⟩) fun d hd=>hJ d (ycd _ hd)
 | cond x a b iha ihb=>
  intro κ m hR hκ hJ X0 st tm HA t X ν hst h;have ha:=iha κ m (ROk.l hR).1 hκ (fun d hd=>hJ d (ycd _ hd)) X0
  have hb:=ihb κ m (ROk.l hR).2 hκ (fun d hd=>hJ d (ybg _ hd)) X0
  have h:qA C.base W J (kB (ob (ev x (.now st.tm)) zA.asBool) fun b'=>bif z5v x st.lit then Bool.rec (motive:=fun _=>T) (zmr C la f n b κ st) (zmr C la f n a κ st) b' else .ite b' (zmr C la f n a κ st) (zmr C la f n b κ st)) t Q:=h
  rw[kD]at h;obtain⟨w,h1,h2⟩:=h
  rw[sA]at h1;obtain⟨v,h3,h4⟩:=h1
  show yC C.base X0 Q (ob (ob (ev x (.now tm)) zA.asBool) fun t=>Bool.rec (motive:=fun _=>vB) (vD C (bC C A) f n b m tm HA) (vD C (bC C A) f n a m tm HA) t)
  refine yC.ob (a:=w) (by rw[gC (zhy hst).1 h3];exact h4) ?_
  have h2:if w=true then qA C.base W J (zmr C la f n a κ st) t Q else qA C.base W J (zmr C la f n b κ st) t Q:=by
   rw[jB]at h2;split at h2
   ·cases w<;>exact h2
   ·exact h2
  cases w with
  | true=>exact ha _ _ _ _ _ _ hst h2
  | false=>exact hb _ _ _ _ _ _ hst h2
 | block id c ih=>
  intro κ m hR hκ hJ;refine ih ⟨κ.norm,fun i st=>Bool.rec (motive:=fun _=>T) (κ.exit i st) (κ.norm st) (Nat.beq id i),κ.ret⟩ ⟨m.norm,fun i tm H=>Bool.rec (motive:=fun _=>vB) (m.exit i tm H) (m.norm tm H) (Nat.beq id i),m.ret⟩ hR (fun X0=>⟨(hκ X0).norm,fun i=>?_,(hκ X0).ret⟩) hJ
  intro st tm HA t X ν hst h;have h:qA C.base W J (Bool.rec (motive:=fun _=>T) (κ.exit i st) (κ.norm st) (Nat.beq id i)) t Q:=h
  show yC C.base X0 Q (Bool.rec (motive:=fun _=>vB) (m.exit i tm HA) (m.norm tm HA) (Nat.beq id i))
  cases hb:Nat.beq id i with
  | true=>rw[hb]at h;exact(hκ X0).norm _ _ _ _ _ _ hst h
  | false=>rw[hb]at h;exact(hκ X0).exit i _ _ _ _ _ _ hst h
 | loop p c ih=>intro κ m _ hκ hJ X0;exact zn1 hJ yaz
 | exit id=>intro κ m _ hκ _ X0;exact(hκ X0).exit id
 | ret=>intro κ m _ hκ _ X0;exact(hκ X0).ret
 | cut p c ih=>intro κ m _ hκ hJ X0;exact zn1 hJ yaz
 | range i pl fo ps id ops c ih=>intro κ m hR hκ hJ X0;exact zwp hW hY hκ (hR _ yaz) fun vals t Q h=>hJ _ yaz vals t Q h
def PtOk (C:pA)(W J:rH)(kf:Nat)(l:List PtT)(d:PtD):Prop:=∃q∈l,q.p=d.p/\∀vals t Q,qA C.base W J (q.tree vals) t Q->z42 C.base kf d vals t Q
def keptOk(kf:Nat):tD->Bool
 | .seq a b=>keptOk kf a&&keptOk kf b
 | .cond _ a b=>keptOk kf a&&keptOk kf b
 | .block _ c=>keptOk kf c
 | .loop p c=>p.kept.all (fun i=>Nat.blt i kf)&&keptOk kf c
 | .cut p c=>p.kept.all (fun i=>Nat.blt i kf)&&keptOk kf c
 | .range _ _ _ _ _ _ c=>keptOk kf c
 | _=>true
theorem zwz(hW:xP C A W)(hY:z4z C A W){la:List Nat}{f:Nat}:∀(c:tD) (κ:KtT) (m:Kt),ROk A f c->keptOk kf c=true->(∀X0 Q,SKt C W J X0 kf Q κ m)->JOk C.base kf J (jJ C (bC C A) f n c m)->∀d∈jJ C (bC C A) f n c m,PtOk C W J kf (lR C la f n kf c κ) d:=by
 have up:∀ {l l':List PtT} {d:PtD},PtOk C W J kf l d->(∀q∈l,q∈l')->PtOk C W J kf l' d:=fun⟨q,h1,h2⟩ hl=>⟨q,hl q h1,h2⟩
 intro c;induction c with
 | skip=>intro κ m _ _ _ _ d hd;cases hd
 | region id ops dr=>intro κ m _ _ _ _ d hd;cases hd
 | seq a b iha ihb=>
  intro κ m hR hk hκ hJ d hd;unfold keptOk at hk;rw[yac]at hk;have e:lR C la f n kf (.seq a b) κ=lR C la f n kf a ⟨zmr C la f n b κ,κ.exit,κ.ret⟩++lR C la f n kf b κ:=jF _ _
  rw[e];have hJa:JOk C.base kf J (jJ C (bC C A) f n a ⟨vD C (bC C A) f n b m,m.exit,m.ret⟩):=fun d hd=>hJ d (ycd _ hd)
  have hJb:JOk C.base kf J (jJ C (bC C A) f n b m):=fun d hd=>hJ d (ybg _ hd)
  rcases List.mem_append.1 hd with hd | hd
  ·exact up (iha ⟨zmr C la f n b κ,κ.exit,κ.ret⟩ ⟨vD C (bC C A) f n b m,m.exit,m.ret⟩ (ROk.l hR).1 hk.1 (fun X0 Q=>⟨zcs hW hY b κ m (ROk.l hR).2 (fun X0=>hκ X0 Q) hJb X0,(hκ X0 Q).exit,(hκ X0 Q).ret⟩) hJa d hd) fun q hq=>ycd _ hq
  ·exact up (ihb _ _ (ROk.l hR).2 hk.2 hκ hJb d hd) fun q hq=>ybg _ hq
 | cond x a b iha ihb=>
  intro κ m hR hk hκ hJ d hd;unfold keptOk at hk;rw[yac]at hk;have e:lR C la f n kf (.cond x a b) κ=lR C la f n kf a κ++lR C la f n kf b κ:=jF _ _
  rw[e];rcases List.mem_append.1 hd with hd | hd
  ·exact up (iha _ _ (ROk.l hR).1 hk.1 hκ (fun d hd=>hJ d (ycd _ hd)) d hd) fun q hq=>ycd _ hq
  ·exact up (ihb _ _ (ROk.l hR).2 hk.2 hκ (fun d hd=>hJ d (ybg _ hd)) d hd) fun q hq=>ybg _ hq
 | block id c ih=>
  intro κ m hR hk hκ hJ d hd;refine ih ⟨κ.norm,fun i st=>Bool.rec (motive:=fun _=>T) (κ.exit i st) (κ.norm st) (Nat.beq id i),κ.ret⟩ ⟨m.norm,fun i tm H=>Bool.rec (motive:=fun _=>vB) (m.exit i tm H) (m.norm tm H) (Nat.beq id i),m.ret⟩ hR hk (fun X0 Q=>⟨(hκ X0 Q).norm,fun i=>?_,(hκ X0 Q).ret⟩) hJ d hd
  intro st tm HA t X ν hst h;have h:qA C.base W J (Bool.rec (motive:=fun _=>T) (κ.exit i st) (κ.norm st) (Nat.beq id i)) t Q:=h
  show yC C.base X0 Q (Bool.rec (motive:=fun _=>vB) (m.exit i tm HA) (m.norm tm HA) (Nat.beq id i))
  cases hb:Nat.beq id i with
  | true=>rw[hb]at h;exact(hκ X0 Q).norm _ _ _ _ _ _ hst h
  | false=>rw[hb]at h;exact(hκ X0 Q).exit i _ _ _ _ _ _ hst h
 | loop p c ih=>
  intro κ m hR hk hκ hJ d hd;unfold keptOk at hk;rw[yac,ybc]at hk;have hJc:JOk C.base kf J (jJ C (bC C A) f n c ⟨vD C (bC C A) f n (.loop p c) m,m.exit,m.ret⟩):=fun d hd=>hJ d (yas _ hd)
  have hκ':∀X0 Q,SKt C W J X0 kf Q ⟨zs8 p,κ.exit,κ.ret⟩ ⟨vD C (bC C A) f n (.loop p c) m,m.exit,m.ret⟩:=fun X0 Q=>⟨zn1 hJ yaz,(hκ X0 Q).exit,(hκ X0 Q).ret⟩
  rcases yat.1 hd with rfl | hd
  ·refine⟨_,yaz,rfl,fun vals t Q hw X0 X HA tm ν hst=>?_⟩
   show yC C.base X0 Q (vD C (bC C A) f n (.loop p c) m tm HA)
   rw[z4c];exact zcs hW hY c _ _ hR (fun X0=>hκ' X0 Q) hJc X0 _ _ _ _ _ _ (hst.keep fun i hi=>dB.1 (hk.1 i hi)) hw
  ·exact up (ih ⟨zs8 p,κ.exit,κ.ret⟩ ⟨vD C (bC C A) f n (.loop p c) m,m.exit,m.ret⟩ hR hk.2 hκ' hJc d hd) fun q hq=>yas _ hq
 | exit id=>intro κ m _ _ _ _ d hd;cases hd
 | ret=>intro κ m _ _ _ _ d hd;cases hd
 | cut p c ih=>
  intro κ m hR hk hκ hJ d hd;unfold keptOk at hk;rw[yac,ybc]at hk;have hJc:JOk C.base kf J (jJ C (bC C A) f n c m):=fun d hd=>hJ d (yas _ hd)
  rcases yat.1 hd with rfl | hd
  ·refine⟨_,yaz,rfl,fun vals t Q hw X0 X HA tm ν hst=>?_⟩
   exact zcs hW hY c _ _ hR (fun X0=>hκ X0 Q) hJc X0 _ _ _ _ _ _ (hst.keep fun i hi=>dB.1 (hk.1 i hi)) hw
  ·exact up (ih _ _ hR hk.2 hκ hJc d hd) fun q hq=>yas _ hq
 | range i pl fo ps id ops c ih=>
  intro κ m hR hk hκ hJ d hd;have hR':ROk A f c:=fun q hq=>hR q (yas _ hq)
  have hJc:JOk C.base kf J (jJ C (bC C A) f n c rdK):=fun d hd=>hJ d (yas _ hd)
  rcases yat.1 hd with rfl | hd
  ·refine⟨_,yaz,rfl,fun vals t Q hw X0 X HA tm ν hst=>?_⟩
   exact zcs hW hY (.seq (.region id ops false) c) rdT rdK (fun q hq=>hR' q hq) (fun _=>z5q) (fun d hd=>hJc d hd) X0 _ _ _ _ _ _ hst hw
  ·exact up (ih rdT rdK hR' hk (fun _ _=>z5q) hJc d hd) fun q hq=>yas _ hq
end
end Go.Am
namespace Go.Am
open Go Go.RowKit
def Tr.mapT{α β:Type}(f:α->β)(t:Tr α):Tr β:=Tr.rec (motive:=fun _=>Tr β) .leaf (fun _ v _ l r=>.node l (match v with | some a=>some (f a) | none=>none) r) t
theorem Tr.get_mapT{α β:Type}(f:α->β):∀(t:Tr α) (n:Nat),(t.mapT f).get n=(t.get n).map f:=by
 intro t;induction t with
 | leaf=>intro n;rfl
 | node l v r ihl ihr=>
  intro n;show(Tr.node (l.mapT f) (match v with | some a=>some (f a) | none=>none) (r.mapT f)).get n=_
  rw[Tr.get_node,Tr.get_node];split
  ·cases v<;>rfl
  ·split
   ·exact ihl _
   ·exact ihr _
def rL(F:Tr uB):Tr tD:=F.mapT uB.code
def fnB (f kf:Nat)(c:tD):Bool:=Nat.blt f yo&&(keptOk kf c&&(match mM c with | []=>true | [_]=>true | _=>false))
structure oB (C:pA) (F:Tr uB) (f:Nat) (fn:Func) (kf:Nat) (A:uB):Prop where
 isF:F.get f=some A
 isFn:C.fns.get f=some fn
 isK:C.ks.get f=some kf
 prim:fG (C.prims.get f)=true
 kept:fnB f kf A.code=true
 body:fG fn.body=false
theorem oB.lt{C:pA}{F:Tr uB}{f:Nat}{fn:Func}{kf:Nat}{A:uB}(h:oB C F f fn kf A):Nat.blt f yo=true:=by
 have:=h.kept;unfold fnB at this;rw[yac]at this;exact this.1
theorem oB.keptOk{C:pA}{F:Tr uB}{f:Nat}{fn:Func}{kf:Nat}{A:uB}(h:oB C F f fn kf A):keptOk kf A.code=true:=by
 have:=h.kept;unfold fnB at this;simp only[yac]at this;exact this.2.1
theorem oB.code{C:pA}{F:Tr uB}{f:Nat}{fn:Func}{kf:Nat}{A:uB}(h:oB C F f fn kf A):(rL F).get f=some A.code:=by unfold rL;rw[Tr.get_mapT,h.isF];rfl
theorem oB.one{C:pA}{F:Tr uB}{f:Nat}{fn:Func}{kf:Nat}{A:uB}(h:oB C F f fn kf A):ROk (rL F) f A.code:=by
 have:=h.kept
 unfold fnB at this;simp only[yac]at this;intro q hq;refine⟨_,h.code,?_⟩
 unfold tW
 cases hx:mM A.code with
 | nil=>rw[hx]at hq;cases hq
 | cons a l=>
  cases l with
  | nil=>rw[hx,yce]at hq;rw[hq]
  | cons _ _=>rw[hx]at this;cases this.2.2
def Wc (C:pA)(F:Tr uB):rH:=fun f args t Q=>∀X HA,Ov C.base t X HA->yC C.base X Q (zos C (rL F) f args HA)
theorem Wc.mono{C:pA}{F:Tr uB}{f:Nat}{args:List zA}{t:Tr rA}{Q Q':aB}(h:Wc C F f args t Q)(k:∀v t',Q v t'->Q' v t'):Wc C F f args t Q':=fun X HA ho=>(h X HA ho).mono k
theorem Tr.bound{α:Type}(t:Tr α):∃n,∀b y,t.get b=some y->b<n:=by
 induction t with
 | leaf=>exact⟨0,fun b y h=>by rw[Tr.get_leaf]at h;cases h⟩
 | node l v r ihl ihr=>
  obtain⟨n,hn⟩:=ihl
  obtain⟨m,hm⟩:=ihr
  refine⟨2*n+2*m+3,fun b y h=>?_⟩
  rw[Tr.get_node]at h;split at h
  ·omega
  ·split at h
   ·have:=hn _ _ h;omega
   ·have:=hm _ _ h;omega
def PV (C:pA)(F:Tr uB)(f:Nat)(args:List zA)(t:Tr rA)(v:zA):Prop:=Wc C F f args t fun v' t'=>v'=v/\t'=t
theorem PV.unique{C:pA}{F:Tr uB}{f:Nat}{args:List zA}{t:Tr rA}{v v':zA}(h:PV C F f args t v)(h':PV C F f args t v'):v=v':=by
 obtain⟨n,hn⟩:=Tr.bound t
 have ho:Ov C.base t (fun _=>none) ⟨C.base+n,t⟩:=⟨Nat.le_add_right _ _,fun _ _=>rfl,fun _ _ h=>(by cases h),fun b y hb=>Nat.lt_of_lt_of_le (hn b y hb) (Nat.le_add_left _ _)⟩
 obtain⟨u,t',HA',X',h1,_,_,h2,_⟩:=h _ _ ho
 obtain⟨u',t'',HA'',X'',h3,_,_,h4,_⟩:=h' _ _ ho
 rw[h1]at h3
 cases h3;rw[<- h2,<- h4]
def wC (C:pA)(F:Tr uB)(f:Nat)(args:List zA)(t:Tr rA):Option zA:=@dite _ (∃v,PV C F f args t v) (Classical.propDecidable _) (fun h=>some h.choose) (fun _=>none)
theorem fC{C:pA}{F:Tr uB}{f:Nat}{args:List zA}{t:Tr rA}{v:zA}:wC C F f args t=some v ↔ PV C F f args t v:=by
 unfold wC;constructor
 ·intro h
  by_cases hx:∃v,PV C F f args t v
  ·rw[dif_pos hx]at h;cases h;exact hx.choose_spec
  ·rw[dif_neg hx]at h;cases h
 ·intro h
  have hx:∃v,PV C F f args t v:=⟨v,h⟩
  rw[dif_pos hx,PV.unique hx.choose_spec h]
def Wq (C:pA)(F:Tr uB)(pure:Nat->Bool):rH:=fun f args t R=>if (pure f&&Nat.blt f yo)=true then rE (wC C F f args t) fun v=>R v t else Wc C F f args t R
theorem Wq_ok{C:pA}{F:Tr uB}{pure:Nat->Bool}:xP C (rL F) (Wq C F pure):=by
 intro f args t R h X HA ho;unfold Wq at h;split at h
 ·rw[vO]at h
  obtain⟨v,h1,h2⟩:=h
  exact((fC.1 h1) X HA ho).mono fun v' t' hh=>by rw[hh.1,hh.2];exact h2
 ·exact h X HA ho
theorem z6v{C:pA}{F:Tr uB}{pure:Nat->Bool}:z4z C (rL F) (Wq C F pure):=by
 intro l args t Q h;unfold Wq;have:Nat.blt (yo+l) yo=false:=Bool.eq_false_iff.2 fun e=>by have:=dB.1 e;omega
 rw[this,Bool.and_false,if_neg (by simp)]
 exact h
def Jq (C:pA)(F:Tr uB)(f:Nat):rH:=fun i vals t Q=>∀fn kf A,oB C F f fn kf A->∀d∈jJ C (bC C (rL F)) f fn.ntmps A.code (z06 C fn),d.p.id=i->z42 C.base kf d vals t Q
theorem Jq_ok{C:pA}{F:Tr uB}{f:Nat}{fn:Func}{kf:Nat}{A:uB}(h:oB C F f fn kf A):JOk C.base kf (Jq C F f) (jJ C (bC C (rL F)) f fn.ntmps A.code (z06 C fn)):=
 fun d hd _ _ _ hJ=>hJ fn kf A h d hd rfl
section
variable {W J:rH}{t:Tr rA}{X X0:Xt}{HA:xA}{C:pA}{A:Tr tD}{ν:Nat->Nat}{Q:aB}{kf n:Nat}{st:mF}{tm:Tm}
theorem z7q(hst:kE C.base X0 kf ν X st tm HA t):∀(l:List ResultVar) (K:List zA->T),qA C.base W J (resT C st l K) t Q->∃vs,nQ C HA tm l=some vs/\qA C.base W J (K vs) t Q:=by
 intro l;induction l with
 | nil=>intro K h;exact⟨[],rfl,h⟩
 | cons r l ih=>
  intro K h
  cases r with
  | tmp i=>
   have h:qA C.base W J (kB (st.tm.get i) fun v=>resT C st l fun l=>K (v::l)) t Q:=h
   rw[kD]at h;obtain⟨v,h1,h2⟩:=h
   obtain⟨vs,h3,h4⟩:=ih _ h2
   refine⟨v::vs,?_,h4⟩
   show qF (oR C HA tm) _=_
   rw[wK];show ob (tm.get i) _=_
   rw[hst.tms _ _ h1,uA];have h3:qF (oR C HA tm) l=some vs:=h3
   rw[h3];rfl
  | cell a ty=>
   have h:qA C.base W J (match mH a st.ad with
    | some p=>kB (st.lo.get p.1) fun m=>kB (C.tys.get ty) fun y=>gdT (Nat.ble (p.2+y.size) (dA m)) (kB (aK C ty m p.2) fun v=>resT C st l fun l=>K (v::l))
    | none=>kB (st.tm.get a) fun a=>.light (fun m=>oA C ty ⟨0,m⟩ a) fun v=>resT C st l fun l=>K (v::l)) t Q:=h
   have fE:∀ {u v:zA},tm.get a=some u->oA C ty HA u=some v->qA C.base W J (resT C st l fun l=>K (v::l)) t Q->∃vs,nQ C HA tm (.cell a ty::l)=some vs/\qA C.base W J (K vs) t Q:=by
    intro u v h1 h2 h3;obtain⟨vs,h4,h5⟩:=ih _ h3
    refine⟨v::vs,?_,h5⟩
    show qF (oR C HA tm) _=_
    rw[wK];have e:oR C HA tm (.cell a ty)=some v:=by
     show(ob (ob (tm.get a) zA.asPtr) fun p=>ob (C.tys.get ty) fun ty=>ob (uD HA p.1) fun c=>fM ty c.1 p.2)=some v
     unfold oA at h2;rw[h1,uA];exact h2
    have h4:qF (oR C HA tm) l=some vs:=h4
    rw[e,uA,h4];rfl
   split at h
   ·rename_i p hp
    simp only[kD,bJ]at h;obtain⟨m,h1,y,h2,h3,v,h4,h5⟩:=h
    exact fE (hst.ads _ _ hp) (zqm hst.ov hst.lo h1 h2 h3 h4) h5
   ·simp only[kD,yU]at h
    obtain⟨u,h1,v,h2,h3⟩:=h
    exact fE (hst.tms _ _ h1) (wX hst.ov.le h2) h3
theorem zzr{fn:Func}:SK C W J X0 kf Q (endT C fn) (endK C fn):=by
 intro st tm HA t X ν hst h;obtain⟨vs,h1,h2⟩:=z7q hst _ _ h
 unfold endK;exact yC.ob h1 ⟨_,t,HA,X,rfl,hst.ov,hst.le,h2⟩
theorem zva{fn:Func}:SKt C W J X0 kf Q (topT C fn) (z06 C fn):=⟨zzr,fun _ _ _ _ _ _ _ _ h=>h.elim,zzr⟩
end
section
variable {C:pA}{F:Tr uB}{f:Nat}{fn:Func}{kf:Nat}{A:uB}{pure:Nat->Bool}{t:Tr rA}{Q:aB}
theorem z9u(h:oB C F f fn kf A){args:List zA}(hl:(Nat.ble (dA args) kf&&Nat.ble (dA args) fn.ntmps)=true)(hw:qA C.base (Wq C F pure) (Jq C F f) (entT C fn kf f A args) t Q):Wc C F f args t Q:=by
 intro X HA ho;have hA:=h.code
 obtain⟨body,hb⟩:∃b,fn.body=some b:=by
  cases hx:fn.body with
  | none=>have:=h.body;rw[hx]at this;cases this
  | some b=>exact⟨b,rfl⟩
 have he:qJ C f args false=some ⟨[.code body],⟨kf,Tr.ofList args,[]⟩,⟨f,fn.ntmps,[],.run,false,none⟩⟩:=by
  unfold qJ;rw[h.isFn,uA,hb,uA,h.isK,uA,hl];rfl
 have hp:C.prims.get f=none:=by
  cases hx:C.prims.get f with
  | none=>rfl
  | some g=>have:=h.prim;rw[hx]at this;cases this
 rw[sV h.lt,hp];show yC C.base X Q (bC C (rL F) (.func f) args HA)
 rw[z6n];show yC C.base X Q (zuf C (rL F) (bC C (rL F)) f args HA)
 unfold zuf;refine yC.ob hA (yC.ob h.isFn (yC.ob he ?_))
 have hst:kE C.base X kf (fun i=>i) X ⟨⟨kf,Tr.ofList args,[]⟩,[],.leaf,[]⟩ ⟨kf,Tr.ofList args,[]⟩ HA t:=
  ⟨ho,XLe.refl _,rfl,rfl,fun _ _ h=>h,fun _ _ h=>(by cases h),fun d l h=>(by rw[Tr.get_leaf]at h;cases h),fun d _ l _ h=>(by rw[Tr.get_leaf]at h;cases h)⟩
 exact zcs Wq_ok z6v A.code (topT C fn) (z06 C fn) h.one (fun _=>zva) (Jq_ok h) _ _ _ _ _ _ _ hst hw
theorem Jq_of(h:oB C F f fn kf A){i:Nat}{vals:List zA}{l:List T}(hp:zsq (ptsT C fn kf f A) i vals=l)(hw:∀T∈l,qA C.base (Wq C F pure) (Jq C F f) T t Q):Jq C F f i vals t Q:=by
 intro fn' kf' A' h' d hd hi;have e1:=h.isFn;rw[h'.isFn]at e1;cases e1
 have e2:=h.isK;rw[h'.isK]at e2;cases e2
 have e3:=h.isF;rw[h'.isF]at e3;cases e3
 obtain⟨q,h1,h2,h3⟩:=zwz (W:=Wq C F pure) Wq_ok z6v A.code (topT C fn) (z06 C fn) h.one h.keptOk (fun _ _=>zva) (Jq_ok h) d hd
 refine h3 vals t Q (hw _ ?_)
 subst hp;have key:∀(l:List PtT),q∈l->q.tree vals∈zsq l i vals:=by
  intro l;induction l with
  | nil=>intro h;cases h
  | cons p l ih=>
   intro hm;show q.tree vals∈(bif Nat.beq p.p.id i then p.tree vals::zsq l i vals else zsq l i vals)
   rw[jB];rcases yat.1 hm with e | hm
   ·subst e
    rw[if_pos (by rw[h2];exact mB.2 hi)]
    exact yaz
   ·split
    ·exact yas _ (ih hm)
    ·exact ih hm
 exact key _ h1
theorem Jq_of1(h:oB C F f fn kf A){i:Nat}{vals:List zA}{T:T}(hp:zsq (ptsT C fn kf f A) i vals=[T])(hw:qA C.base (Wq C F pure) (Jq C F f) T t Q):Jq C F f i vals t Q:=
 Jq_of h hp fun T' hT=>by rw[yce.1 hT];exact hw
theorem Jq.mono{i:Nat}{vals:List zA}{Q':aB}(h:Jq C F f i vals t Q)(k:∀v t',Q v t'->Q' v t'):Jq C F f i vals t Q':=
 fun fn kf A hf d hd hi X0 X HA tm ν hst=>(h fn kf A hf d hd hi X0 X HA tm ν hst).mono k
theorem Wc_pv{args:List zA}{v:zA}(h:wC C F f args t=some v)(hq:Q v t):Wc C F f args t Q:=(fC.1 h).mono fun _ _ hh=>by rw[hh.1,hh.2];exact hq
theorem zhq{g:List zA->xA->Option zA}(hg:C.prims.get f=some (xK g)){args:List zA}{v:zA}(h:∀H,g args H=some v)(hf:Nat.blt f yo=true:=by rfl):wC C F f args t=some v:=by
 refine fC.2 fun X HA ho=>?_
 rw[sV hf,hg];exact⟨v,t,HA,X,by simp only[xK,h HA,uA],ho,XLe.refl _,rfl,rfl⟩
theorem oN{args:List zA}{v:zA}(h:Wc C F f args t fun v' t'=>v'=v/\∀b y,t.get b=some y->t'.get b=some y):wC C F f args t=some v:=by
 refine fC.2 fun X HA ho=>?_
 obtain⟨u,t',HA',X',h1,h2,h3,h4,h5⟩:=h X HA ho
 refine⟨u,t,HA',fun b=>match t.get b with | some _=>none | none=>HA'.t.get b,h1,⟨h2.base,?_,?_,?_⟩,?_,h4,rfl⟩
 ·intro b hb
  cases hg:t.get b with
  | some y=>rw[h2.up (h5 b y hg)]
  | none=>simp only[hg]at hb;exact hb
 ·intro b y hb
  cases hg:t.get b with
  | some y=>simp only[hg]at hb;cases hb
  | none=>
   simp only[hg]at hb;refine⟨hb,rfl,?_⟩
   cases hx:X' b with
   | some z=>exact(h2.ext b z hx).2.2
   | none=>rw[h2.same b hx]at hb;exact h2.lt b y hb
 ·intro b y hb;exact h2.lt b y (h5 b y hb)
 ·intro b y hb
  have hn:=(ho.ext b y hb).2.1
  simp only[hn];exact(h2.ext b y (h3 b y hb)).1
end
theorem zoq{P:Program}{C:pA}{F:Tr uB}{B N:Nat}{I:World->Prop}{μ:Mu}{w:World}(hS:Sim P C B N I)(hI:I w)(hA:zU C (rL F)){f:Nat}(hp:C.prims.get f=none){args:List zA}{args':Array Value}{H:xA}{Q:aB}(hbase:C.base<=H.next)(hlt:∀b y,H.t.get b=some y->b<H.next)(hH:aA B N μ H w)(hl:yB μ args args'.toList)
  (h:Wc C F f args H.t Q) (hf:Nat.blt f yo=true:=by rfl):Calls P f args' w fun e w'=>∃v v' t' μ',e=.returned v'/\μ.lw μ'/\vA μ' v v'/\Q v t'/\Below N w w':=by
 obtain⟨v,t',HA',X',h1,h2,h3,h4⟩:=h (fun _=>none) H ⟨hbase,fun _ _=>rfl,fun _ _ h=>(by cases h),hlt⟩
 rw[sV hf,hp]at h1;intro base;obtain⟨e,w',b,⟨v',μ',g1,g2,g3,g4,g5⟩,g6⟩:=zll hS hI hA hH hl h1 base
 exact⟨e,w',b,⟨v,v',t',μ',g1,g2,g3,h4,g5⟩,g6⟩
end Go.Am
namespace Go.Am
open Go Go.RowKit
def piOf (i:Nat)(l:List (Nat × PI)):Option PI:=List.rec (motive:=fun _=>Option PI) none (fun a _ g=>bif Nat.beq i a.1 then some a.2 else g) l
def cutP (p:Option PI)(c:tD):tD:=
 match p with
 | some p=>.cut p c
 | none=>c
def z8b(p:Option PI)(c:tD):tD:=
 match p with
 | some p=>.loop p c
 | none=>.loop ⟨0,[],[]⟩ c
def rangeP(p:Option PI)(f:Operand)(ps:Array Nat)(a:Code)(c:tD):tD:=
 match a with
 | .region id ops _=>.range (match p with | some p=>p.id | none=>0) (match p with | some p=>p.pl | none=>[]) f ps id ops c
 | _=>.skip
def zqz:Code->Bool
 | .region _ _ d => !d
 | _=>false
def xR(rt lt:List (Nat × PI))(c:Code):Nat->tD:=
 Code.rec (motive:=fun _=>Nat->tD)
  (fun _=>.skip)
  (fun id ops d _=>cutP (piOf id rt) (.region id ops d))
  (fun _ _ ga gb k=>.seq (ga k) (gb k))
  (fun c _ _ gx gy k=>.cond c (gx k) (gy k))
  (fun id _ g _=>.block id (g id))
  (fun _ g k=>z8b (piOf k lt) (g k))
  (fun f ps a _ _ gb k=>rangeP (piOf k lt) f ps a (gb k))
  (fun id _=>.exit id)
  (fun _ _ _=>.skip)
  (fun _ _=>.skip)
  (fun _ _=>.skip)
  (fun _=>.ret)
  (fun _ _=>.skip) c
def fB(rt lt:List (Nat × PI))(k:Nat)(c:Code):tD:=xR rt lt c k
def mL(c:Code):Bool:=
 Code.rec (motive:=fun _=>Bool) true (fun _ _ _=>true) (fun _ _ a b=>bif a then b else false) (fun _ _ _ a b=>bif a then b else false) (fun _ _ a=>a) (fun _ a=>a)
  (fun _ _ a _ _ b=>bif zqz a then b else false) (fun _=>true) (fun _ _=>false) (fun _=>false) (fun _=>false) true (fun _=>false) c
theorem zto(p:Option PI)(c:tD):eE (cutP p c)=eE c:=by cases p<;>rfl
theorem zod(p:Option PI)(c:tD):eE (z8b p c)=.loop (eE c):=by cases p<;>rfl
theorem zoe{rt lt:List (Nat × PI)}:∀(c:Code) (k:Nat),mL c=true->eE (xR rt lt c k)=c:=by
 intro c;induction c with
 | skip=>intro k _;rfl
 | region id ops d=>intro k _;show eE (cutP _ _)=_;rw[zto];rfl
 | seq a b iha ihb=>
  intro k h;have h:(bif mL a then mL b else false)=true:=h
  have ha:mL a=true:=by cases hx:mL a with | true=>rfl | false=>rw[hx]at h;cases h
  have hb:mL b=true:=by rw[ha]at h;exact h
  show Code.seq (eE (xR rt lt a k)) (eE (xR rt lt b k))=_
  rw[iha k ha,ihb k hb]
 | cond c x y ihx ihy=>
  intro k h;have h:(bif mL x then mL y else false)=true:=h
  have ha:mL x=true:=by cases hx:mL x with | true=>rfl | false=>rw[hx]at h;cases h
  have hb:mL y=true:=by rw[ha]at h;exact h
  show Code.cond c (eE (xR rt lt x k)) (eE (xR rt lt y k))=_
  rw[ihx k ha,ihy k hb]
 | block id c ih=>intro k h;show Code.block id (eE (xR rt lt c id))=_;rw[ih id h]
 | loop c ih=>intro k h;show eE (z8b _ (xR rt lt c k))=_;rw[zod,ih k h]
 | exit id=>intro k _;rfl
 | ret=>intro k _;rfl
 | rangeFunc f ps a b _ ihb=>
  intro k h;have h:(bif zqz a then mL b else false)=true:=h
  cases a with
  | region id ops d=>
   cases d with
   | true=>cases h
   | false=>show Code.rangeFunc f ps (.region id ops false) (eE (xR rt lt b k))=_;rw[ihb k h]
  | _=>cases h
 | scope c _=>intro k h;cases h
 | label l=>intro k h;cases h
 | goto l=>intro k h;cases h
 | refuse s=>intro k h;cases h
def tabF (l:List (Nat × uB)):Tr uB:=List.rec (motive:=fun _=>Tr uB) .leaf (fun p _ g=>g.set p.1 p.2) l
theorem z1l{l:List (Nat × uB)}{f:Nat}{A:uB}(h:(tabF l).get f=some A):(f,A)∈l:=by
 induction l with
 | nil=>rw[show tabF []=.leaf from rfl,Tr.get_leaf]at h;cases h
 | cons p l ih=>
  have h:((tabF l).set p.1 p.2).get f=some A:=h
  rw[Tr.get_set]at h;split at h
  ·rename_i e;cases h;rw[e];exact yaz
  ·exact yas _ (ih h)
def z03(C:pA)(p:Nat × uB):Prop:=∃fn c,C.fns.get p.1=some fn/\fn.body=some c/\eE p.2.code=c
theorem bodyOk{C:pA}{f:Nat}{fn:Func}{c:Code}{rt lt:List (Nat × PI)}{la:List Nat}(h1:C.fns.get f=some fn)(h2:fn.body=some c)(h3:mL c=true):z03 C (f,⟨fB rt lt 0 c,la⟩):=⟨fn,c,h1,h2,zoe c 0 h3⟩
theorem ztu{C:pA}{l:List (Nat × uB)}(h:∀p∈l,z03 C p):zU C (rL (tabF l)):=by
 intro f c hc;unfold rL at hc;rw[Tr.get_mapT]at hc
 cases hq:(tabF l).get f with
 | none=>rw[hq]at hc;cases hc
 | some A=>
  rw[hq]at hc
  cases hc;obtain⟨fn,b,h1,h2,h3⟩:=h _ (z1l hq)
  exact⟨fn,h1,by rw[h2,h3]⟩
end Go.Am
namespace Go.Am
class nC where
 n:Nat
def z2h(a:List zA)(_:xA):Option zA:=match a with | []=>some (.bool true) | _=>none
def zs9:List Nat->List Nat->Bool
 | [],_=>true
 | _::_,[]=>false
 | a::x,b::y=>bif Nat.beq a b then zs9 x y else false
def cutL (sub:List Nat):List Nat->Option (List Nat × List Nat)
 | []=>bif sub.isEmpty then some ([],[])else none
 | b::l=>bif zs9 sub (b::l)then some ([],gL (b::l) (dA sub))else ob (cutL sub l) fun p=>some (b::p.1,p.2)
def pCut (a:List zA)(_:xA):Option zA:=match a with
 | [.str s,.str c]=>iA (Nat.blt (dA s) 4294967281) (match cutL c s with
  | some p=>some (.tup [.str p.1,.str p.2,.bool true])
  | none=>some (.tup [.str s,.str [],.bool false]))
 | _=>none
def rJ(n:Int):List Nat:=(Lib.itoa n).map UInt8.toNat
def zsu(a:List zA)(_:xA):Option zA:=match a with
 | [.int .i64 n]=>iA (rC (-9223372036854775808) n&&vC n 9223372036854775808) (some (.str (rJ n)))
 | _=>none
def zw6(a:List zA)(_:xA):Option zA:=match a with
 | [.int .u64 n,.int .i64 b]=>iA (rC 0 n&&vC n 18446744073709551616&&lA b 10) (some (.str (rJ n)))
 | _=>none
end Go.Am
namespace Go.Am
open Go Go.Shelf Go.RowKit Go.Proofs
variable {P:Program}{ρ:Ren}
set_option maxHeartbeats 2000000 in
set_option maxRecDepth 100000 in
theorem ztp(L:Lays.n169 P ρ)(X:Builder.Extra P ρ)(b g cap cells:Nat)(l:List UInt8)(w:World)(c1:w.cell? ⟨b,1,none⟩=some (.slice (some ⟨g,0,none⟩) l.length cap))(h0:l≠[])(hcap:l.length<=cap)
  (hsh:w.shape? g=some (ρ.t 5,cells)) (hc:l.length<=cells) (h63:l.length<=9223372036854775807) (hcell:∀j x,l[j]?=some x->w.cell? ((⟨g,0,none⟩:Addr).add j)=some (.int .u8 x.toNat)) :
  Calls P (ρ.f 169) #[.pointer (some ⟨b,0,none⟩)] w fun e w'=>e=.returned (.string ⟨l.toArray⟩)/\w'=w.drew.freeze ⟨g,0,none⟩ l.length:=by
 have hl0:l.length≠0:=by simpa using h0
 have c1:w.drew.cell? ⟨b,1,none⟩=some (.slice (some ⟨g,0,none⟩) l.length cap):=c1
 have hSD:(Builtin.unsafeSliceData_ #[(ρ.t 37)] (ρ.t 127) #[.slice (some ⟨g,0,none⟩) l.length cap]).run P w.drew=.ok (.pointer (some ⟨g,0,none⟩)) w.drew:=
  Lib.run_unsafeSliceData_row _ _ _ _ _ _ (by omega)
 have hUS:(Builtin.unsafeString_ #[(ρ.t 127),(ρ.t 3)] (ρ.t 9) #[.pointer (some ⟨g,0,none⟩),.int .i64 l.length]).run P w.drew=.ok (.string ⟨l.toArray⟩) (w.drew.freeze ⟨g,0,none⟩ l.length):=
  Lib.run_unsafeString_row w.drew (ρ.t 127) (ρ.t 3) (ρ.t 9) (ρ.t 5) L.t127 X.cellsByte g cells hsh l h0 hc h63 hcell
 have mixed:=L.mixed
 have t72:=L.t72;have a72:=L.a72;have z72:=L.z72;have v72:=L.v72;have u72:=run_underlying L.t72
 have t70:=L.t70;have a70:=L.a70;have z70:=L.z70;have v70:=L.v70;have u70:=run_underlying L.t70
 have t37:=L.t37;have a37:=L.a37;have z37:=L.z37;have v37:=L.v37;have u37:=run_underlying L.t37
 have t127:=L.t127;have a127:=L.a127;have z127:=L.z127;have v127:=L.v127;have u127:=run_underlying L.t127
 have t3:=L.t3;have a3:=L.a3;have z3:=L.z3;have v3:=L.v3;have u3:=run_underlying L.t3
 have t9:=L.t9;have a9:=L.a9;have z9:=L.z9;have v9:=L.v9;have u9:=run_underlying L.t9
 have t5:=X.t5;have a5:=X.a5;have z5:=X.z5;have v5:=X.v5;have u5:=run_underlying X.t5
 go_enter L.f169,Body.n169_ntmps ρ
 go_wp2
 go_region_o
 all_goals (go_wp2;go_ret;exact⟨rfl,rfl⟩)
end Go.Am
