/- Trees: the operations that change memory leave an overlay as it is; the light operations are sound. -/
import Derived.Lib.ItoaNum
import Derived.Shelf.Strings.Builder1
import Derived.Test.YtfijloeeppcipaaGreatDoorD05
set_option linter.all false
noncomputable section
namespace Go.Am
open Go Go.RowKit
section
section
variable {base:Nat}{t:Tr rA}{X:Xt}{H HA:xA}{e e':gC}{C:pA}{v:zA}
def Ov.newBlk(h:Ov base t X HA)(y:rA):Ov base (t.set HA.next y) X (newBlk HA y):=by
 refine⟨Nat.le_succ_of_le h.base,fun b hb=>?_,fun b z hb=>?_,fun b z hb=>?_⟩
 ·show(HA.t.set HA.next y).get b=_
  rw[Tr.get_set,Tr.get_set];split
  ·rfl
  ·exact h.same b hb
 ·obtain⟨h1,h2,h3⟩:=h.ext b z hb
  have hne:b≠HA.next:=Nat.ne_of_lt h3
  refine⟨?_,?_,Nat.lt_succ_of_lt h3⟩
  ·show(HA.t.set HA.next y).get b=_
   rw[Tr.get_set,yaa hne];exact h1
  ·rw[Tr.get_set,yaa hne];exact h2
 ·rw[Tr.get_set]at hb
  show b<HA.next+1
  split at hb
  ·rename_i e;rw[e];exact Nat.lt_succ_self _
  ·exact Nat.lt_succ_of_lt (h.lt _ _ hb)
def Ov.setBlk(h:Ov base t X HA){b:Nat}{y:rA}(hb:t.get b=some y)(z:rA):Ov base (t.set b z) X (setBlk HA b z):=by
 refine⟨h.base,fun c hc=>?_,fun c u hc=>?_,fun c u hc=>?_⟩
 ·show(HA.t.set b z).get c=_
  rw[Tr.get_set,Tr.get_set];split
  ·rfl
  ·exact h.same c hc
 ·obtain⟨h1,h2,h3⟩:=h.ext c u hc
  have hne:c≠b:=fun e=>by rw[e,hb]at h2;cases h2
  refine⟨?_,?_,h3⟩
  ·show(HA.t.set b z).get c=_
   rw[Tr.get_set,yaa hne];exact h1
  ·rw[Tr.get_set,yaa hne];exact h2
 ·rw[Tr.get_set]at hc
  show c<HA.next
  split at hc
  ·rename_i e;rw[e];exact h.lt _ _ hb
  ·exact h.lt _ _ hc
def Ov.delBlk(h:Ov base t X HA){b:Nat}{y:rA}(hb:t.get b=some y):Ov base (t.del b) X ⟨HA.next,HA.t.del b⟩:=by
 refine⟨h.base,fun c hc=>?_,fun c u hc=>?_,fun c u hc=>?_⟩
 ·show(HA.t.del b).get c=_
  rw[Tr.get_del,Tr.get_del];split
  ·rfl
  ·exact h.same c hc
 ·obtain⟨h1,h2,h3⟩:=h.ext c u hc
  have hne:c≠b:=fun e=>by rw[e,hb]at h2;cases h2
  refine⟨?_,?_,h3⟩
  ·show(HA.t.del b).get c=_
   rw[Tr.get_del,yaa hne];exact h1
  ·rw[Tr.get_del,yaa hne];exact h2
 ·rw[Tr.get_del]at hc
  show c<HA.next
  split at hc
  ·cases hc
  ·exact h.lt _ _ hc
def zvj (base:Nat)(x:xA->Option (zA × xA)):Prop:=∀t X HA v H',Ov base t X HA->x ⟨HA.next,t⟩=some (v,H')->∃HA',x HA=some (v,HA')/\Ov base H'.t X HA'
def cQ(l:List zA)(lo:Option Lo)(h:Ov base t X HA):Ov base (vE ⟨HA.next,t⟩ l lo).t X (vE HA l lo):=h.newBlk _
def zv5{ty:Nat}:zvj base (bG C ty):=by
 intro t X HA v H' ho h;unfold bG at h ⊢
 rw[sA]at h;obtain⟨y,h1,h2⟩:=h
 cases h2;rw[h1];exact⟨_,rfl,cQ _ _ ho⟩
def z79{u:zA}:zvj base (znk u):=by
 intro t X HA v H' ho h
 cases h;exact⟨_,rfl,cQ _ _ ho⟩
def ztb{ty:Nat}:zvj base (zhv C ty):=by
 intro t X HA v H' ho h;unfold zhv at h ⊢
 rw[sA]at h;obtain⟨y,h1,h3⟩:=h
 cases h3;rw[h1,tA];exact⟨_,rfl,cQ _ _ ho⟩
def z2k{ty:Nat}{u:zA}:zvj base (zs9 C ty u):=by
 intro t X HA v H' ho h;unfold zs9 at h ⊢
 cases h;exact⟨_,rfl,cQ _ _ ho⟩
def zfi{ty n:Nat}{ps:List (Nat × zA)}:zvj base (gI C ty n ps):=by
 intro t X HA v H' ho h;unfold gI at h ⊢
 simp only[sA,vB]at h;obtain⟨a,h1,b,h2,c,h3,h4,l,h5,h6⟩:=h
 cases h6;refine⟨vE HA l none,?_,cQ _ _ ho⟩
 simp only[sA,vB];exact⟨a,h1,b,h2,c,h3,h4,l,h5,rfl⟩
def zc9(ho:Ov base t X HA){b off:Nat}{l:List zA}{H':xA}(h:oI C ⟨HA.next,t⟩ b off l=some H'):∃HA',oI C HA b off l=some HA'/\Ov base H'.t X HA':=by
 unfold oI at h ⊢
 simp only[sA,vB]at h;obtain⟨h1,c,h2,h3,h4⟩:=h
 cases h4;have h2':=h2
 unfold oD at h2';rw[sA]at h2'
 obtain⟨y,h5,_⟩:=h2'
 refine⟨_,?_,ho.setBlk h5 _⟩
 simp only[sA,vB];exact⟨h1,c,kM ho.le h2,h3,rfl⟩
def zv1{ty:Nat}{a u:zA}:zvj base (wD C ty a u):=by
 intro t X HA v H' ho h;unfold wD at h ⊢
 simp only[sA,vB]at h;obtain⟨y,h1,p,h2,h3,H1,h4,h5⟩:=h
 cases h5;obtain⟨HA',h6,h7⟩:=zc9 ho h4
 refine⟨HA',?_,h7⟩
 simp only[sA,vB];exact⟨y,h1,p,h2,h3,HA',h6,rfl⟩
def znj:zvj base tT:=by
 intro t X HA v H' ho h
 cases h;exact⟨_,rfl,ho.newBlk _⟩
def zf1{ty:Nat}{m k u:zA}:zvj base (aH C ty m k u):=by
 intro t X HA v H' ho h;unfold aH at h ⊢
 simp only[sA,vB]at h;obtain⟨a,h1,b,h2,c,h3,h4,d,h5,h6,l,h7,h8,l',h9,h10⟩:=h
 cases h10;have h7':=h7
 unfold gG at h7';rw[sA]at h7'
 obtain⟨y,h11,_⟩:=h7'
 refine⟨_,?_,ho.setBlk h11 _⟩
 simp only[sA,vB];exact⟨a,h1,b,h2,c,h3,h4,d,h5,h6,l,tU ho.le h7,h8,l',h9,rfl⟩
def z1q(ho:Ov base t X HA){e:RE}{H':xA}(h:tQ C ⟨HA.next,t⟩ e=some H'):∃HA',tQ C HA e=some HA'/\Ov base H'.t X HA'/\HA'.next=HA.next/\H'.next=HA.next:=by
 obtain⟨x,y,h1,h2,rfl⟩:=yX.1 h
 exact⟨setBlk HA e.blk y,yX.2 ⟨x,y,ho.up h1,h2,rfl⟩,ho.setBlk h1 _,rfl,rfl⟩
def zmt:∀ {l:List RE} {t:Tr rA} {HA:xA} {H':xA},Ov base t X HA->qR C l ⟨HA.next,t⟩=some H'->∃HA',qR C l HA=some HA'/\Ov base H'.t X HA'
 | [],t,HA,H',ho,h=>by cases h;exact⟨HA,rfl,ho⟩
 | e::l,t,HA,H',ho,h=>by
  unfold qR at h ⊢
  rw[sA]at h;obtain⟨H1,h1,h⟩:=h
  obtain⟨HA1,g1,g2,g3,g4⟩:=z1q ho h1
  rw[g1,tA];obtain⟨n1,t1⟩:=H1
  have g4:n1=HA.next:=g4
  subst g4;rw[<- g3]at h;exact zmt g2 h
def zxt(ho:Ov base t X HA){e:RE}(h:zdo C ⟨HA.next,t⟩ e=true):zdo C HA e=true:=by
 cases e with
 | st b off l=>
  change (!zH (oI C ⟨HA.next,t⟩ b off l))=true at h
  show(!zH (oI C HA b off l))=true
  cases hs:oI C ⟨HA.next,t⟩ b off l with
  | none=>rw[hs]at h;cases h
  | some H'=>obtain⟨HA',g,_⟩:=zc9 ho hs;rw[g];rfl
 | up b k v=>
  unfold zdo at h ⊢
  rw[ybb]at h ⊢
  refine⟨h.1,?_⟩
  have h2:=h.2
  split at h2
  ·rename_i hm;rw[tU ho.le hm]
  ·cases h2
def zv4{es:List Eff}:zvj base (nP C es):=by
 intro t X HA v H' ho h;unfold nP yQ at h ⊢
 simp only[sA,vB,ybb]at h;obtain⟨H1,⟨rs,h1,⟨h2,h3⟩,h4⟩,h5⟩:=h
 cases h5;obtain⟨HA',g1,g2⟩:=zmt ho h4
 refine⟨HA',?_,g2⟩
 simp only[sA,vB,ybb];refine⟨HA',⟨rs,h1,⟨h2,?_⟩,g1⟩,rfl⟩
 rw[lG,ycb]at h3 ⊢
 exact fun e he=>zxt ho (h3 e he)
def zhu{ty:Nat}{l c:zA}:zvj base (qL C ty l c):=by
 intro t X HA v H' ho h;unfold qL at h ⊢
 simp only[sA,vB]at h;obtain⟨a,h1,b,h2,d,h3,n,h4,m,h5,h6,h7⟩:=h
 cases h7;refine⟨vE HA (tI d.zero m) none,?_,cQ _ _ ho⟩
 simp only[sA,vB];exact⟨a,h1,b,h2,d,h3,n,h4,m,h5,h6,rfl⟩
def znh{s d:Nat}{u:zA}:zvj base (zht C s d u):=by
 intro t X HA v H' ho h;unfold zht at h ⊢
 simp only[sA,vB]at h;obtain⟨a,h1,b,h2,c,h3,et,h4,k,h5,h6,l,h7,h8⟩:=h
 cases h8;refine⟨vE HA (tP l) (some (.ty c)),?_,cQ _ _ ho⟩
 simp only[sA,vB];exact⟨a,h1,b,h2,c,h3,et,h4,k,h5,h6,l,h7,rfl⟩
def zo7(h:HLe H HA){sz n:Nat}{u:zA}{l:List zA}(hx:xO H sz n u=some l):xO HA sz n u=some l:=by
 unfold xO at hx ⊢
 split at hx
 ·rw[sA]at hx ⊢
  obtain⟨c,h1,h2⟩:=hx
  exact⟨c,kM h h1,h2⟩
 ·exact hx
def zvf(ho:Ov base t X HA){ty:pC}{a b:zA}{H':xA}(h:sQ C ⟨HA.next,t⟩ ty a b=some (v,H')):∃HA',sQ C HA ty a b=some (v,HA')/\Ov base H'.t X HA':=by
 unfold sQ at h;simp only[sA]at h;obtain⟨el,h1,et,h2,n,h3,new,h4,h5⟩:=h
 have h4':=zo7 ho.le h4
 suffices hs:∃HA',(match a.asSlice with
  | some s=>bif Nat.ble (s.2.2.1+n) s.2.2.2 then oS C HA et n new s else yR C HA el et n new s
  | none=>aA (Nat.beq a.tag 5) (rM HA el et n new))=some (v,HA')/\Ov base H'.t X HA' by
  obtain⟨HA',g1,g2⟩:=hs
  refine⟨HA',?_,g2⟩
  unfold sQ;simp only[sA];exact⟨el,h1,et,h2,n,h3,new,h4',g1⟩
 cases hs:a.asSlice with
 | some s=>
  rw[hs]at h5;simp only[]at h5 ⊢
  rw[zC]at h5;split at h5
  ·rename_i hr
   simp only[hr,cond_true];unfold oS at h5 ⊢
   split at h5
   ·cases h5;exact⟨HA,rfl,ho⟩
   ·rw[sA]at h5
    obtain⟨H1,g1,g2⟩:=h5
    cases g2
    obtain⟨HA',g3,g4⟩:=zc9 ho g1
    exact⟨HA',by simp only[g3,tA],g4⟩
  ·rename_i hr
   simp only[Bool.not_eq_true]at hr;simp only[hr,cond_false];unfold yR at h5 ⊢
   rw[vB]at h5;obtain⟨gm,h5⟩:=h5
   rw[vB]at h5;obtain⟨g0,h5⟩:=h5
   rw[sA]at h5;obtain⟨c,g1,h5⟩:=h5
   have g1':=kM ho.le g1
   unfold oD at g1;rw[sA]at g1;obtain⟨y,g2,_⟩:=g1
   split at h5
   ·rename_i hc
    unfold yV at h5;rw[sA]at h5;obtain⟨old,g3,g4⟩:=h5
    cases g4
    refine⟨vE HA (tD old new) (some (xI el et)),?_,cQ _ _ ho⟩
    simp only[vB,sA];refine⟨gm,g0,c,g1',?_⟩
    rw[hc];unfold yV;simp only[sA];exact⟨old,g3,rfl⟩
   ·rename_i es hc
    unfold xV at h5;rw[vB]at h5;obtain⟨g3,g4⟩:=h5
    cases g4
    refine⟨⟨HA.next+1,(HA.t.del s.1).set HA.next (.cells (c.1.setMany new (s.2.2.1*et.size)) ((s.2.2.1+n)*et.size) (some es))⟩,?_,(ho.delBlk g2).newBlk _⟩
    simp only[vB,sA];refine⟨gm,g0,c,g1',?_⟩
    rw[hc];unfold xV;exact vB.2 ⟨g3,rfl⟩
 | none=>
  rw[hs]at h5;simp only[]at h5 ⊢
  rw[vB]at h5;obtain⟨g0,h5⟩:=h5
  unfold rM at h5;rw[zC]at h5;split at h5
  ·rename_i hn
   cases h5;refine⟨HA,?_,ho⟩
   rw[vB];refine⟨g0,?_⟩
   unfold rM;rw[hn];rfl
  ·rename_i hn
   rw[vB]at h5;obtain⟨g1,h5⟩:=h5
   cases h5;refine⟨vE HA new (some (xI el et)),?_,cQ _ _ ho⟩
   rw[vB];refine⟨g0,?_⟩
   unfold rM;simp only[Bool.not_eq_true]at hn;rw[hn,cond_false,vB];exact⟨g1,rfl⟩
def zta{ty u:Nat}{a b:zA}:zvj base (cG C ty u a b):=by
 intro t X HA v H' ho h;unfold cG at h;simp only[sA,vB]at h;obtain⟨y,h1,z,h2,h3,h4⟩:=h
 obtain⟨HA',g1,g2⟩:=zvf ho h4
 refine⟨HA',?_,g2⟩
 unfold cG;simp only[sA,vB];exact⟨y,h1,z,h2,h3,g1⟩
end
def zbp(ν:Nat->Nat)(ae:uK)(e:gC):Prop:=∀i p,tAd ae i=some p->z2a i e=some (.ptr (ν p.1) p.2)
def z14(base:Nat)(X0 X:Xt)(ν:Nat->Nat)(lo:Tr (List zA)):Prop:=∀d l,lo.get d=some l->X0 (ν d)=none/\base<=ν d/\∃c,X (ν d)=some (.cells c l.length none)/\∀j a,l[j]?=some a->c.get j=some a
def xE{base:Nat}{W J:vI}{α:Type}{x:Option α}{K:α->T}{t:Tr rA}{Q:uC}:qA base W J (aB x K) t Q ↔ ∃a,x=some a/\qA base W J (K a) t Q:=by
 cases x with
 | none=>exact⟨fun h=>(by cases h),fun⟨_,h,_⟩=>(by cases h)⟩
 | some a=>exact⟨fun h=>⟨a,rfl,h⟩,fun⟨_,h,k⟩=>(by cases h;exact k)⟩
def tK{base:Nat}{W J:vI}{b:Bool}{K:T}{t:Tr rA}{Q:uC}:qA base W J (gdT b K) t Q ↔ b=true/\qA base W J K t Q:=by
 cases b with
 | false=>exact⟨fun h=>(by cases h),fun⟨h,_⟩=>(by cases h)⟩
 | true=>exact⟨fun h=>⟨rfl,h⟩,fun⟨_,h⟩=>h⟩
def oP{base:Nat}{W J:vI}{x:Option zA}{K:zA->T}{t:Tr rA}{Q:uC}:qA base W J (.opt x K) t Q ↔ ∃a,x=some a/\qA base W J (K a) t Q:=mO
def oU{base:Nat}{W J:vI}{x:Tr rA->Option zA}{K:zA->T}{t:Tr rA}{Q:uC}:qA base W J (.light x K) t Q ↔ ∃a,x t=some a/\qA base W J (K a) t Q:=mO
def zcw{ν:Nat->Nat}{ae:uK}{e:gC}(h:zbp ν ae e){x:Operand}{p:Nat × Nat}(hx:xAd ae x=some p):ev x e=some (.ptr (ν p.1) p.2):=by
 cases x with
 | tmp i=>exact h i p hx
 | const _=>cases hx
 | global _=>cases hx
 | func _=>cases hx
def zyr{c:Tr zA}{l:List zA}(h:∀j a,l[j]?=some a->c.get j=some a):∀(n off:Nat),off+n<=l.length->c.many n off=some ((l.drop off).take n):=by
 intro n;induction n with
 | zero=>intro off _;simp;rfl
 | succ n ih=>
  intro off ho;have hlt:off<l.length:=by omega
  rw[Tr.many_succ,h off l[off] (ybd hlt),tA,ih (off+1) (by omega),tA]
  rw[ybl hlt,List.take_succ_cons]
section
variable {W J:vI}{t:Tr rA}{X X0:Xt}{HA:xA}{e eA:gC}{C:pA}{ν:Nat->Nat}{ae:uK}{lo:Tr (List zA)}{k:KOp}{Q:uC}{R:zA->Prop}
def zrl(ho:Ov C.base t X HA)(hl:z14 C.base X0 X ν lo){d off ty:Nat}{l:List zA}{y:pC}{v:zA}(h1:lo.get d=some l)(h2:C.tys.get ty=some y)(h3:Nat.ble (off+y.size) (yB l)=true)(h4:nL C ty l off=some v) :
  oA C ty HA (.ptr (ν d) off)=some v:=by
 obtain⟨_,_,c,hc,hg⟩:=hl d l h1
 have hb:=(ho.ext _ _ hc).1
 unfold oA;simp only[zA.asPtr,tA];rw[h2,tA];unfold oD;rw[hb,tA];simp only[rA.asCells,tA];unfold nL at h4;rw[h2,tA]at h4;unfold rN;rw[zC]at h4 ⊢
 rw[uE,zD]at h3;split at h4
 ·rename_i ha
  rw[yab ha,zyr hg _ _ h3,tA];rw[jO,dP]at h4;exact h4
 ·rename_i ha
  rw[yaa ha];rw[iF]at h4;exact hg _ _ h4
def aM(he:kN e eA){op:Op}(hp:fN op=true\/(∃s d x,op=.convert s d x/\(kG C d=1\/kG C s=2))\/(∃c,op=.call c/\(c.callee=.builtin .max\/c.callee=.builtin .min)))
  (h:qA C.base W J (zql C op e k) t Q) (hKd:∀v,qA C.base W J (k.Kd v) t Q->R v):∃v,(kE op).f C eA HA=some v/\R v:=by
 unfold zql at h;rw[xE]at h;obtain⟨v,h1,h2⟩:=h
 exact⟨v,z5f he hp h1,hKd v h2⟩
def zv3{ty:Nat}{u v:zA}{H:xA}(ht:kG C ty=4)(h:bB u=some v):zvo C ty H u=some v:=by
 unfold kG at ht
 cases hy:C.tys.get ty with
 | none=>rw[hy]at ht;cases ht
 | some y=>
  rw[hy]at ht;have ht:y.desc.tag=4:=ht
  unfold zvo;rw[hy,tA];unfold bB at h;unfold zvq
  cases u<;>simp only[zA.asSlice,zA.asStr,zA.asMap,zA.tag]at h ⊢ <;> (try (rw[vB]at h;exact absurd h.1 (by decide)))
  case nilslice=>
   rw[vB]at h;have hn:y.desc.asArr=none:=by cases hd:y.desc<;>rw[hd]at ht<;>first | rfl | (cases ht;done)
   rw[hn,ht];simp only[sA,vB];exact⟨0,⟨rfl,rfl⟩,h.2⟩
  case slice a b n m=>
   rw[ht]
   cases h;simp only[sA,vB];exact⟨n,⟨rfl,rfl⟩,rfl⟩
def zz7{ty:Nat}{u v:zA}{H H':xA}(ht:kG C ty≠6)(h:zvo C ty H u=some v):zvo C ty H' u=some v:=by
 unfold zvo at h ⊢
 simp only[sA]at h ⊢
 obtain⟨y,h1,n,h2,h3⟩:=h
 refine⟨y,h1,n,?_,h3⟩
 have ht:¬ Nat.beq y.desc.tag 6=true:=by
  intro hb;apply ht;unfold kG;rw[h1];exact fB.1 hb
 unfold zvq at h2 ⊢
 split at h2
 ·exact h2
 ·split at h2
  ·exact h2
  ·split at h2
   ·exact h2
   ·split at h2
    ·rw[vB]at h2;exact absurd h2.1 ht
    ·exact h2
def zxh{ty:Nat}{a v:zA}{l h:Option zA}{H H':xA}(ht:kG C ty=2)(hx:uG C ty H a l h=some v):uG C ty H' a l h=some v:=by
 unfold uG at hx ⊢
 rw[sA]at hx ⊢
 obtain⟨y,h1,h2⟩:=hx
 refine⟨y,h1,?_⟩
 unfold kG at ht;rw[h1]at ht;have ht:y.desc.tag=2:=ht
 unfold rK at h2 ⊢
 have n1:y.desc.asSlice=none:=by cases hd:y.desc<;>rw[hd]at ht<;>first | rfl | (cases ht;done)
 have n2:y.desc.asArr=none:=by cases hd:y.desc<;>rw[hd]at ht<;>first | rfl | (cases ht;done)
 split at h2
 ·exact h2
 ·split at h2
  ·rw[n1]at h2;cases h2
  ·split at h2
   ·rw[n2]at h2;cases h2
   ·exact h2
def zdx{u:zA}(h:zA.one u=true):u.cells=[u]:=by
 cases u<;>first
  | rfl
  | (have:=xC.1 h;simp[zA.tag]at this)
def zux{tyAt:Nat->Option Nat}(place:Nat->Option (Nat × Nat)):∀(vs:List (Nat × zA)) {q:List (Nat × zA × List zA) × List zA},zya C tyAt vs=some q->tC zA.one q.2=true->∀cells l,z5a place q.1 cells=some l->qM place vs cells=some l:=by
 intro vs;induction vs with
 | nil=>intro q h _ cells l hl;cases h;exact hl
 | cons p vs ih=>
  intro q h h1 cells l hl;have h:(ob (tyAt p.1) fun t=>ob (C.tys.get t) fun ty=>ob (zya C tyAt vs) fun r=>some (bif ty.desc.isAgg then((p.1,p.2,p.2.cells)::r.1,r.2)else((p.1,p.2,[p.2])::r.1,p.2::r.2)))=some q:=h
  simp only[sA]at h;obtain⟨ty,_,y,_,r,h3,h4⟩:=h
  have bD:∀(rest:List zA),tC zA.one r.2=true->(ob (place p.1) fun q=>ob (z49 cells q.1 q.2 p.2.cells) fun cells=>z5a place r.1 cells)=some l->qM place (p::vs) cells=some l:=by
   intro _ hr hl;show(ob (place p.1) fun q=>ob (aT cells q.1 q.2 p.2) fun cells=>qM place vs cells)=some l
   simp only[sA]at hl ⊢
   obtain⟨a,g1,b,g2,g3⟩:=hl
   exact⟨a,g1,b,g2,ih h3 hr _ _ g3⟩
  cases hb:y.desc.isAgg with
  | true=>
   rw[hb]at h4
   cases h4;exact bD [] h1 hl
  | false=>
   rw[hb]at h4
   cases h4;rw[lG,cond_false]at h1;simp only[ycg,ybb]at h1;have hl:(ob (place p.1) fun q=>ob (z49 cells q.1 q.2 [p.2]) fun cells=>z5a place r.1 cells)=some l:=hl
   rw[<- zdx h1.1]at hl;exact bD [] (by rw[lG];exact h1.2) hl
def z8h(he:kN e eA)(ha:zbp ν ae eA)(ho:Ov C.base t X HA)(hl:z14 C.base X0 X ν lo){op:Op}(h:qA C.base W J (tL C op e ae lo k) t Q)
  (hK:∀v,qA C.base W J (k.K v) t Q->R v) (hKd:∀v,qA C.base W J (k.Kd v) t Q->R v) (hKA:∀d off,qA C.base W J (k.KA d off) t Q->R (.ptr (ν d) off)) :
  ∃v,(kE op).f C eA HA=some v/\R v:=by
 cases op<;>simp only[tL]at h<;>try (cases h;done)
 case move x=>
  unfold z2t at h;split at h
  ·rename_i p hp
   exact⟨_,zcw ha hp,hKA _ _ h⟩
  ·exact aM he (.inl rfl) h hKd
 case assign x=>
  unfold z2t at h;split at h
  ·rename_i p hp
   exact⟨_,zcw ha hp,hKA _ _ h⟩
  ·exact aM he (.inl rfl) h hKd
 case pick c a b=>exact aM he (.inl rfl) h hKd
 case load ty a=>
  unfold tLoad at h;split at h
  ·rename_i p hp
   simp only[xE,tK]at h;obtain⟨l,h1,y,h2,h3,v,h4,h5⟩:=h
   refine⟨v,?_,hKd v h5⟩
   show gO ty a C eA HA=some v
   rw[zze,zcw ha hp,tA];exact zrl ho hl h1 h2 h3 h4
  ·rw[xE]at h
   obtain⟨u,h1,h2⟩:=h
   rw[oU]at h2;obtain⟨v,h3,h4⟩:=h2
   refine⟨v,?_,hK v h4⟩
   show gO ty a C eA HA=some v
   rw[zze,bC he h1,tA];exact kV ho.le h3
 case nilCheck x=>
  unfold tNil at h;split at h
  ·rename_i p hp
   refine⟨_,?_,hKA _ _ h⟩
   show z4h x C eA HA=_
   rw[z63 (zcw ha hp)];rfl
  ·rw[xE]at h
   obtain⟨u,h1,h2⟩:=h
   rw[oP]at h2;obtain⟨v,h3,h4⟩:=h2
   refine⟨v,?_,hK v h4⟩
   show z4h x C eA HA=_
   rw[z63 (bC he h1)];exact h3
 case binOp op ty x y u=>
  unfold tBin at h;rw[zC]at h;split at h
  ·exact aM he (.inl rfl) h hKd
  ·simp only[xE,oP]at h
   obtain⟨a,h1,b,h2,v,h3,h4⟩:=h
   refine⟨v,?_,hK v h4⟩
   show zzj op ty x y C eA HA=_
   rw[lBin_v (bC he h1) (bC he h2)];exact h3
 case unOp o ty x=>
  split at h
  ·simp only[xE,oP]at h
   obtain⟨u,h1,v,h2,h3⟩:=h
   refine⟨v,?_,hK v h3⟩
   show lUn .xor x C eA HA=_
   unfold lUn;rw[bC he h1];exact h2
  ·exact aM he (.inl rfl) h hKd
 case convert s d x=>
  unfold z8j at h;rw[zC]at h;split at h
  ·rename_i hd
   rw[zC]at h;split at h
   ·rename_i hs
    exact aM he (.inr (.inl ⟨s,d,x,rfl,.inr (fB.1 hs)⟩)) h hKd
   ·simp only[xE,oU]at h
    obtain⟨u,h1,v,h2,h3⟩:=h
    refine⟨v,?_,hK v h3⟩
    show xL s d x C eA HA=_
    rw[zzh (bC he h1)];exact zs8 ho.le h2
  ·rw[zC]at h
   split at h
   ·rename_i hd
    exact aM he (.inr (.inl ⟨s,d,x,rfl,.inl (fB.1 hd)⟩)) h hKd
   ·cases h
 case makeInterface ty x=>exact aM he (.inl rfl) h hKd
 case makeFunc fn a b=>exact aM he (.inl rfl) h hKd
 case slice ty x lo' hi mx=>
  cases mx with
  | some _=>cases h
  | none=>
   simp only[z6h,xE]at h;obtain⟨a,h1,l,h2,r,h3,h4⟩:=h
   rw[zC]at h4;show ∃v,bQ ty x lo' hi C eA HA=some v/\R v
   rw[z4g (bC he h1) (zse he h2) (zse he h3)]
   split at h4
   ·rename_i ht
    rw[oP]at h4;obtain⟨v,h5,h6⟩:=h4
    exact⟨v,zxh (fB.1 ht) h5,hK v h6⟩
   ·rw[oU]at h4
    obtain⟨v,h5,h6⟩:=h4
    exact⟨v,zni ho.le h5,hK v h6⟩
 case fieldAddr s x f=>
  unfold zf7 at h;show ∃v,dO s x f C eA HA=some v/\R v
  split at h
  ·rename_i p hp
   rw[xE]at h;obtain⟨o,h1,h2⟩:=h
   refine⟨_,?_,hKA _ _ h2⟩
   rw[zb0 (zcw ha hp)]
   unfold tB;rw[h1];rfl
  ·simp only[xE,oP]at h
   obtain⟨u,h1,v,h2,h3⟩:=h
   refine⟨v,?_,hK v h3⟩
   rw[zb0 (bC he h1)];exact h2
 case field ty x f=>exact aM he (.inl rfl) h hKd
 case indexAddr ty x i=>
  unfold zf6 at h;show ∃v,fO ty x i C eA HA=some v/\R v
  split at h
  ·rename_i p hp
   simp only[xE]at h;obtain⟨iv,h1,n,h2,o,h3,h4⟩:=h
   refine⟨_,?_,hKA _ _ h4⟩
   rw[zbz (zcw ha hp) (bC he h1)]
   unfold zqe at h3;simp only[sA,vB]at h3;obtain⟨y,g1,a,g2,et,g3,g4,g5⟩:=h3
   cases g5
   unfold mB;rw[g1,tA,h2,tA];simp only[zA.asSlice,zA.asPtr,tA];rw[g2,tA,g3,tA,g4];rfl
  ·simp only[xE,oP]at h
   obtain⟨u,h1,w,h2,v,h3,h4⟩:=h
   refine⟨v,?_,hK v h4⟩
   rw[zbz (bC he h1) (bC he h2)];exact h3
 case index ty x i=>
  rw[zC]at h;split at h
  ·exact aM he (.inl rfl) h hKd
  ·simp only[xE,oP]at h
   obtain⟨u,h1,w,h2,v,h3,h4⟩:=h
   refine⟨v,?_,hK v h4⟩
   show eO ty x i C eA HA=_
   rw[z4j (bC he h1) (bC he h2)];exact h3
 case lookup ty x i ok=>
  simp only[xE,oU]at h;obtain⟨m,h1,key,h2,v,h3,h4⟩:=h
  refine⟨v,?_,hK v h4⟩
  show hO ty x i ok C eA HA=_
  rw[zzd (bC he h1) (bC he h2)];exact zj2 ho.le h3
 case extract x i=>
  simp only[xE,oP]at h;obtain⟨u,h1,v,h2,h3⟩:=h
  refine⟨v,?_,hK v h3⟩
  show cO x i C eA HA=_
  rw[zuf (bC he h1)];exact h2
 case typeAssert x a u ok=>
  simp only[xE,oP]at h;obtain⟨w,h1,v,h2,h3⟩:=h
  refine⟨v,?_,hK v h3⟩
  show bO x u ok C eA HA=_
  rw[zzk (bC he h1)];exact h2
 case build ty ps=>
  unfold z6j at h;simp only[xE,tK]at h;obtain⟨y,h1,hbd,vs,h2,q,h3,l,h4,h5⟩:=h
  have h5:if tC zA.one q.2=true then qA C.base W J (k.Kd (.agg l)) t Q else False:=h5
  split at h5
  ·rename_i hone
   refine⟨_,?_,hKd _ h5⟩
   show cP ty ps C eA HA=_
   have hf:=zux (zgr C y) vs h3 hone y.zero l h4
   unfold cP;rw[h1,tA,zjf he h2,tA]
   cases hs:y.desc.asStruct with
   | some fs=>
    simp only[];have:(fun i=>ob (dC fs i) fun x=>some (x.1,x.2.2))=zgr C y:=by funext i;unfold zgr;rw[hs]
    rw[this,hf];rfl
   | none=>
    simp only[];unfold zmr at hbd;rw[hs]at hbd;simp only[]at hbd
    cases ha:y.desc.asArr with
    | none=>rw[ha]at hbd;cases hbd
    | some a=>
     rw[ha]at hbd;simp only[]at hbd
     cases hy:C.tys.get a.2 with
     | none=>rw[hy]at hbd;cases hbd
     | some et=>
      simp only[tA];have:(fun i=>some (i*et.size,et.size))=zgr C y:=by funext i;unfold zgr;rw[hs];simp only[];rw[ha,tA,hy,tA]
      rw[hy,tA,this,hf];rfl
  ·exact h5.elim
 case call c=>
  split at h
  ·rename_i b hb
   cases b<;>simp only[fV]at h<;>try (cases h;done)
   case len=>
    unfold tLen at h;simp only[xE]at h;obtain⟨ty,h1,x,h2,u,h3,h4⟩:=h
    show ∃v,(pN c c.callee).f C eA HA=some v/\R v
    rw[hb];show ∃v,zox c C eA HA=some v/\R v
    rw[lLen_v h1 h2 (bC he h3)]
    rw[zC]at h4;split at h4
    ·rename_i ht
     rw[oP]at h4;obtain⟨v,h5,h6⟩:=h4
     exact⟨v,zv3 (fB.1 ht) h5,hK v h6⟩
    ·rw[zC]at h4
     split at h4
     ·rw[oU]at h4
      obtain⟨v,h5,h6⟩:=h4
      exact⟨v,zv2 ho.le h5,hK v h6⟩
     ·rename_i ht
      rw[xE]at h4;obtain⟨v,h5,h6⟩:=h4
      exact⟨v,zz7 (fun e=>ht (fB.2 e)) h5,hKd v h6⟩
   case max=>exact aM he (.inr (.inr ⟨c,rfl,.inl hb⟩)) h hKd
   case min=>exact aM he (.inr (.inr ⟨c,rfl,.inr hb⟩)) h hKd
  ·cases h
end
end
section
def zpt(C:pA)(A:Tr nD)(f:Nat)(args:List zA)(H:xA):sB:=
 bif Nat.blt f yo then
  match C.prims.get f with
  | some g=>g args H
  | none=>rD C A (.func f) args H
 else rD C A (.yld (f-yo)) args H
def qV{C:pA}{A:Tr nD}{f:Nat}{args:List zA}{H:xA}(h:Nat.blt f yo=true):zpt C A f args H=(match C.prims.get f with
  | some g=>g args H
  | none=>rD C A (.func f) args H):=by unfold zpt;rw[h];rfl
def zmn{C:pA}{A:Tr nD}{l:Nat}{args:List zA}{H:xA}:zpt C A (yo+l) args H=rD C A (.yld l) args H:=by
 unfold zpt;have:Nat.blt (yo+l) yo=false:=Bool.eq_false_iff.2 fun e=>by have:=xC.1 e;omega
 rw[this,Nat.add_sub_cancel_left];rfl
def rC (base:Nat)(X0:Xt)(Q:uC)(d:sB):Prop:=∃v t' HA' X',d=some (v,HA')/\Ov base t' X' HA'/\XLe X0 X'/\Q v t'
def rC.mono{base:Nat}{X0:Xt}{Q Q':uC}{d:sB}(h:rC base X0 Q d)(k:∀v t,Q v t->Q' v t):rC base X0 Q' d:=by
 obtain⟨v,t',HA',X',h1,h2,h3,h4⟩:=h
 exact⟨v,t',HA',X',h1,h2,h3,k _ _ h4⟩
def pP(C:pA)(A:Tr nD)(W:vI):Prop:=∀f args t R,W f args t R->∀X HA,Ov C.base t X HA->rC C.base X R (zpt C A f args HA)
section
variable {W J:vI}{t:Tr rA}{X X0:Xt}{HA:xA}{e eA:gC}{C:pA}{A:Tr nD}{ν:Nat->Nat}{ae:uK}{lo:Tr (List zA)}{k:KOp}{kl:KLo}{Q:uC}
def aI{f:LOp}{H:xA}{v:zA}(h:f C e H=some v):lv f C e H=.val v H:=by unfold lv;rw[h]
def z1t{op:Op}{H:xA}{v:zA}(h:(kE op).f C e H=some v):(wF op).f C e H=.val v H:=by
 cases op
 case move x=>exact aI h
 case assign x=>exact aI h
 case pick c a b=>exact aI h
 case load t a=>exact aI h
 case nilCheck x=>exact aI h
 case binOp op t x y u=>exact aI h
 case unOp op t x=>exact aI h
 case makeInterface t x=>exact aI h
 case makeFunc fn a b=>exact aI h
 case slice t x lo hi mx=>exact aI h
 case fieldAddr s x f=>exact aI h
 case field t x f=>exact aI h
 case indexAddr t x i=>exact aI h
 case index t x i=>exact aI h
 case extract t i=>exact aI h
 case build t ps=>exact aI h
 case typeAssert x t u ok=>exact aI h
 case lookup t x i ok=>exact aI h
 case convert s d x=>
  show zQ s d x C e H=_
  have h:xL s d x C e H=some v:=h
  unfold zQ;rw[h]
 case call c=>
  have h:(pN c c.callee).f C e H=some v:=h
  show(zbh c c.callee).f C e H=_
  cases hc:c.callee with
  | value f=>rw[hc]at h;cases h
  | invoke a b=>rw[hc]at h;cases h
  | builtin b=>
   rw[hc]at h
   cases b
   case len=>exact aI (f:=zox c) h
   case max=>exact aI (f:=zzc c) h
   case min=>exact aI (f:=zza c) h
   all_goals exact absurd (show(none:Option zA)=some v from h) (by simp)
 all_goals exact absurd (show(none:Option zA)=some v from h) (by simp)
def bR{x:Option (zA × xA)}{v:zA}{H':xA}{kd:zA->xA->sB}{φ:Ora}(h:x=some (v,H')):oF φ (oJ x) HA kd=kd v H':=by subst h;rfl
def yO(ho:Ov C.base t X HA){x:xA->Option (zA × xA)}(hx:zvj C.base x){K:zA->T}(h:qA C.base W J (.heavy x K) t Q){kd:zA->xA->sB}{φ:Ora}
  (hK:∀v t' HA' X',Ov C.base t' X' HA'->XLe X X'->qA C.base W J (K v) t' Q->rC C.base X0 Q (kd v HA')) {r:iI} (hr:∀p,x HA=some p->oF φ r HA kd=kd p.1 p.2):rC C.base X0 Q (oF φ r HA kd):=by
 have h:=h HA.next ho.nextT ho.base
 rw[mO]at h;obtain⟨⟨v,H'⟩,h1,h2⟩:=h
 obtain⟨HA',h3,h4⟩:=hx _ _ _ _ _ ho h1
 rw[hr _ h3];exact hK v _ _ _ h4 (XLe.refl _) h2
def zps(hW:pP C A W)(ho:Ov C.base t X HA){f:Nat}(hf:Nat.blt f yo=true){args:List zA}{K:zA->T}(h:W f args t fun v t'=>qA C.base W J (K v) t' Q){kd:zA->xA->sB}
  (hK:∀v t' HA' X',Ov C.base t' X' HA'->XLe X X'->qA C.base W J (K v) t' Q->rC C.base X0 Q (kd v HA')):rC C.base X0 Q (oF (rD C A) (zhh C HA args f (C.prims.get f)) HA kd):=by
 obtain⟨v,t',HA',X',h1,h2,h3,h4⟩:=hW _ _ _ _ h X HA ho
 rw[qV hf]at h1;unfold zhh
 cases hp:C.prims.get f with
 | some g=>
  rw[hp]at h1;simp only[h1];exact hK _ _ _ _ h2 h3 h4
 | none=>
  rw[hp]at h1;have h1:rD C A (.func f) args HA=some (v,HA'):=h1
  show rC C.base X0 Q (ob (rD C A (.func f) args HA) fun p=>kd p.1 p.2)
  rw[h1];exact hK _ _ _ _ h2 h3 h4
def z3f(hW:pP C A W)(ho:Ov C.base t X HA){l:Nat}{args:List zA}{K:zA->T}(h:W (yo+l) args t fun v t'=>qA C.base W J (K v) t' Q){kd:zA->xA->sB}
  (hK:∀v t' HA' X',Ov C.base t' X' HA'->XLe X X'->qA C.base W J (K v) t' Q->rC C.base X0 Q (kd v HA')):rC C.base X0 Q (oF (rD C A) (.round l args) HA kd):=by
 obtain⟨v,t',HA',X',h1,h2,h3,h4⟩:=hW _ _ _ _ h X HA ho
 rw[zmn]at h1;show rC C.base X0 Q (ob (rD C A (.yld l) args HA) fun p=>kd p.1 p.2)
 rw[h1];exact hK _ _ _ _ h2 h3 h4
def Ov.setX{base:Nat}(h:Ov base t X HA){b:Nat}{y:rA}(hb:X b=some y)(z:rA):Ov base t (fun c=>if c=b then some z else X c) (Am.setBlk HA b z):=by
 obtain⟨g1,g2,g3⟩:=h.ext b y hb
 refine⟨h.base,fun c hc=>?_,fun c u hc=>?_,h.lt⟩
 ·split at hc
  ·cases hc
  ·rename_i hne
   show(HA.t.set b z).get c=_
   rw[Tr.get_set,yaa hne];exact h.same c hc
 ·show(HA.t.set b z).get c=_/\_/\c<HA.next
  rw[Tr.get_set];split at hc
  ·rename_i e;cases hc;subst e;rw[yab rfl];exact⟨rfl,g2,g3⟩
  ·rename_i hne;rw[yaa hne];exact h.ext c u hc
def Ov.newX{base:Nat}(h:Ov base t X HA)(z:rA):Ov base t (fun c=>if c=HA.next then some z else X c) (Am.newBlk HA z):=by
 refine⟨Nat.le_succ_of_le h.base,fun c hc=>?_,fun c u hc=>?_,fun b y hb=>Nat.lt_succ_of_lt (h.lt b y hb)⟩
 ·split at hc
  ·cases hc
  ·rename_i hne
   show(HA.t.set HA.next z).get c=_
   rw[Tr.get_set,yaa hne];exact h.same c hc
 ·show(HA.t.set HA.next z).get c=_/\_/\c<HA.next+1
  rw[Tr.get_set];split at hc
  ·rename_i e;cases hc;subst e;rw[yab rfl];exact⟨rfl,h.nextT,Nat.lt_succ_self _⟩
  ·rename_i hne;rw[yaa hne];have:=h.ext c u hc;exact⟨this.1,this.2.1,Nat.lt_succ_of_lt this.2.2⟩
def zyv(ho:Ov C.base t X HA)(hl:z14 C.base X0 X ν lo){d off:Nat}{l l':List zA}{u:zA}{sz:Nat}(h1:lo.get d=some l)(h2:aT l off sz u=some l')(h3:tC zA.one u.cells=true) :
  Nat.beq (yB u.cells) sz=true/\l'.length=l.length/\∃c',oI C HA (ν d) off u.cells=some (setBlk HA (ν d) (.cells c' l.length none))/\∀j a,l'[j]?=some a->c'.get j=some a:=by
 obtain⟨_,hb,c,hc,hg⟩:=hl d l h1
 have hx:=(ho.ext _ _ hc).1
 unfold aT at h2;simp only[vB,ybb,uE,zD,mG,jO,dP,Option.some.injEq]at h2;obtain⟨⟨g1,g2⟩,g3⟩:=h2
 subst g3;refine⟨by rw[zD];exact g1,?_,c.setMany u.cells off,?_,?_⟩
 ·simp;omega
 ·unfold oI
  have n1:(!Nat.blt (ν d) C.base)=true:=by
   cases hq:Nat.blt (ν d) C.base with
   | true=>have:=xC.1 hq;omega
   | false=>rfl
  rw[n1];unfold oD;rw[hx];simp only[vB,tA,rA.asCells,ybb,uE,zD];exact⟨trivial,⟨g2,h3⟩,trivial⟩
 ·intro j a hj
  rw[Tr.get_setMany];split
  ·rename_i hh
   rw[ybp (by simp;omega)]at hj
   rw[yco (by simp;omega)]at hj
   rw[<- hj];congr 1
   simp;omega
  ·rename_i hh
   refine hg j a ?_
   by_cases hlt:j<off
   ·rw[yco (by simp;omega)]at hj
    rw[ydf,yab hlt]at hj;exact hj
   ·rw[ybp (by simp;omega),ybp (by simp;omega)]at hj
    rw[yde]at hj;rw[<- hj];congr 1
    simp;omega
def z1f{y:pC}{u:zA}(h:tC zA.one (zhe y u)=true):zhe y u=u.cells:=by
 unfold zhe at h ⊢
 rw[zC]at h ⊢
 split
 ·rfl
 ·rename_i e
  rw[yaa e,lG]at h;rw[zdx (by simpa using h)]
def ztt{op:Op}{v:zA}{kd:zA->xA->sB}{φ:Ora}(h:(kE op).f C eA HA=some v):oF φ ((wF op).f C eA HA) HA kd=kd v HA:=by rw[z1t h];rfl
def zy6{la:List Nat}{dst:Option Nat}{d:Nat}(h:laOf la dst=some d):dst=some d:=by
 unfold laOf at h
 cases dst with
 | none=>cases h
 | some x=>simp only[zC]at h;split at h<;>cases h;rfl
def tH_ok(hW:pP C A W)(he:kN e eA)(ha:zbp ν ae eA)(ho:Ov C.base t X HA)(hl:z14 C.base X0 X ν lo){la:List Nat}{dst:Option Nat}{op:Op}
  (h:qA C.base W J (tH C la dst op e ae lo k kl) t Q) {kd:zA->xA->sB}
  (hK:∀v t' HA' X',Ov C.base t' X' HA'->XLe X X'->qA C.base W J (k.K v) t' Q->rC C.base X0 Q (kd v HA'))
  (hKd:∀v t' HA' X',Ov C.base t' X' HA'->XLe X X'->qA C.base W J (k.Kd v) t' Q->rC C.base X0 Q (kd v HA'))
  (hKA:∀d off,qA C.base W J (k.KA d off) t Q->rC C.base X0 Q (kd (.ptr (ν d) off) HA))
  (hnew:∀d l,laOf la dst=some d->qA C.base W J (kl.new d l) t Q->rC C.base X0 Q (kd (.ptr HA.next 0) (vE HA l none)))
  (hset:∀d l l' c',lo.get d=some l->l'.length=l.length->(∀j a,l'[j]?=some a->c'.get j=some a)->qA C.base W J (kl.set d l') t Q->rC C.base X0 Q (kd gD (setBlk HA (ν d) (.cells c' l.length none)))) :
  rC C.base X0 Q (oF (rD C A) ((wF op).f C eA HA) HA kd):=by
 have light:∀(op:Op),qA C.base W J (tL C op e ae lo k) t Q->rC C.base X0 Q (oF (rD C A) ((wF op).f C eA HA) HA kd):=by
  intro op h;obtain⟨v,h1,h2⟩:=z8h (R:=fun v=>rC C.base X0 Q (kd v HA)) he ha ho hl h (fun v h=>hK v _ _ _ ho (XLe.refl _) h) (fun v h=>hKd v _ _ _ ho (XLe.refl _) h) hKA
  rw[ztt h1];exact h2
 cases op<;>simp only[tH]at h<;>try (exact light _ h)
 case alloc ty=>
  show rC C.base X0 Q (oF _ (pS ty C eA HA) HA kd)
  rw[zC]at h;split at h
  ·rename_i ht
   have ht:fI C ty=none:=by
    cases hx:fI C ty with
    | none=>rfl
    | some _=>rw[hx]at ht;cases ht
   split at h
   ·rename_i d hd
    rw[xE]at h;obtain⟨y,h1,h2⟩:=h
    unfold pS;rw[h1,ht];exact hnew d _ hd h2
   ·refine yO ho zv5 h hK fun p hp=>?_
    unfold pS;rw[ht];have hp:(ob (C.tys.get ty) fun ty=>some (.ptr HA.next 0,vE HA ty.zero none))=some p:=hp
    rw[hp];rfl
  ·refine yO ho ztb h hK fun p hp=>?_
   unfold pS;unfold zhv at hp;rw[hp];rfl
 case box ty x=>
  rw[zC]at h;show rC C.base X0 Q (oF _ (z4w ty x C eA HA) HA kd)
  unfold z4w;split at h
  ·rename_i ht
   have ht:fI C ty=none:=by
    cases hx:fI C ty with
    | none=>rfl
    | some _=>rw[hx]at ht;cases ht
   rw[xE]at h;obtain⟨v,h1,h⟩:=h
   rw[bC he h1,ht];split at h
   ·rename_i d hd
    rw[xE]at h;obtain⟨y,_,h⟩:=h
    rw[zC]at h;split at h
    ·exact hnew d _ hd h
    ·have h:if zA.one v=true then qA C.base W J (kl.new d [v]) t Q else False:=h
     split at h
     ·rename_i h1
      have:=hnew d _ hd h
      rw[<- zdx h1]at this;exact this
     ·exact h.elim
   ·refine yO ho z79 h hK fun p hp=>?_
    cases hp;rfl
  ·rw[xE]at h
   obtain⟨v,h1,h⟩:=h
   rw[bC he h1];refine yO ho z2k h hK fun p hp=>?_
   cases hp;rfl
 case buildSlice ty n ps=>
  rw[xE]at h;obtain⟨vs,h1,h⟩:=h
  show rC C.base X0 Q (oF _ (qS ty n ps C eA HA) HA kd)
  refine yO ho zfi h hK fun p hp=>?_
  refine bR (v:=p.1) (H':=p.2) ?_
  rw[zjf he h1];exact hp
 case makeMap ty r=>
  cases r with
  | some _=>simp only[]at h;exact light _ h
  | none=>
   simp only[]at h;show rC C.base X0 Q (oF _ (gW none C eA HA) HA kd)
   refine yO ho znj h hK fun p hp=>?_
   cases hp;rfl
 case makeSlice ty l c=>
  simp only[xE]at h;obtain⟨a,h1,b,h2,h⟩:=h
  show rC C.base X0 Q (oF _ (zbg ty l c C eA HA) HA kd)
  refine yO ho zhu h hK fun p hp=>?_
  refine bR (v:=p.1) (H':=p.2) ?_
  rw[bC he h1,bC he h2];unfold qL at hp
  cases hx:C.tys.get ty with
  | none=>rw[hx]at hp;cases hp
  | some y=>
   rw[hx]at hp;simp only[tA]at hp ⊢
   exact hp
 case store ty a x=>
  unfold z6g at h;show rC C.base X0 Q (oF _ (zlw ty a x C eA HA) HA kd)
  split at h
  ·rename_i p hp
   simp only[xE]at h;obtain⟨u,h1,y,h2,l,h3,l',h4,h5⟩:=h
   have h5:if tC zA.one (zhe y u)=true then qA C.base W J (kl.set p.1 l') t Q else False:=h5
   split at h5
   ·rename_i hone
    have hcell:=z1f hone
    rw[hcell]at hone h4;have h4:aT l p.2 y.size u=some l':=h4
    obtain⟨g1,g2,c',g3,g4⟩:=zyv ho hl h3 h4 hone
    have:=hset p.1 l l' c' h3 g2 g4 h5
    have e1:oF (rD C A) (zlw ty a x C eA HA) HA kd=kd gD (setBlk HA (ν p.1) (.cells c' l.length none)):=by
     refine bR ?_
     rw[h2,tA,zcw ha hp,tA];simp only[zA.asPtr,tA];rw[bC he h1,tA,g1,g3];rfl
    rw[e1];exact this
   ·exact h5.elim
  ·simp only[xE]at h
   obtain⟨av,h1,u,h2,h⟩:=h
   refine yO ho zv1 h hKd fun p hp=>?_
   refine bR (v:=p.1) (H':=p.2) ?_
   rw[bC he h1];unfold wD at hp
   cases hx:C.tys.get ty with
   | none=>rw[hx]at hp;cases hp
   | some y=>
    rw[hx]at hp;simp only[tA]at hp ⊢
    rw[bC he h2];exact hp
 case convert s d x=>
  rw[zC]at h;split at h
  ·rename_i hd
   rw[xE]at h;obtain⟨u,h1,h⟩:=h
   show rC C.base X0 Q (oF _ (zQ s d x C eA HA) HA kd)
   have hn:xL s d x C eA HA=none:=by
    rw[zzh (bC he h1)]
    cases hq:dK C s d HA u with
    | none=>rfl
    | some q=>
     exfalso
     unfold dK at hq;simp only[sA]at hq;obtain⟨sy,g1,dy,g2,g3⟩:=hq
     have hd:=fB.1 hd
     unfold kG at hd;rw[g2]at hd;have hd:dy.desc.tag=4:=hd
     unfold oM at g3;have n1:dy.desc.asInt=none:=by cases hz:dy.desc<;>rw[hz]at hd<;>first | rfl | (cases hd;done)
     have n2:dy.desc.isString=false:=by unfold jD.isString;rw[hd];rfl
     rw[n1,n2]at g3
     cases g3
   unfold zQ;rw[hn];simp only[];refine yO ho znh h hK fun p hp=>?_
   refine bR (v:=p.1) (H':=p.2) ?_
   rw[bC he h1];exact hp
  ·exact light _ (by simpa only[tL]using h)
 case insert ty m key x=>
  simp only[xE]at h;obtain⟨mv,h1,kv,h2,u,h3,h⟩:=h
  show rC C.base X0 Q (oF _ (rS ty m key x C eA HA) HA kd)
  refine yO ho zf1 h hKd fun p hp=>?_
  refine bR (v:=p.1) (H':=p.2) ?_
  rw[bC he h1,bC he h2,bC he h3];exact hp
 case mapUpdate ty m key x=>
  simp only[xE]at h;obtain⟨mv,h1,kv,h2,u,h3,h⟩:=h
  show rC C.base X0 Q (oF _ (rS ty m key x C eA HA) HA kd)
  refine yO ho zf1 h hKd fun p hp=>?_
  refine bR (v:=p.1) (H':=p.2) ?_
  rw[bC he h1,bC he h2,bC he h3];exact hp
 case call c=>
  show rC C.base X0 Q (oF _ ((zbh c c.callee).f C eA HA) HA kd)
  split at h
  ·rename_i f hc
   rw[hc];show rC C.base X0 Q (oF _ (zek f c.args C eA HA) HA kd)
   have bD:∀ {fv:zA} {aq:List zA},ev f e=some fv->evs c.args.toList e=some aq->qA C.base W J (.callv fv aq k.K) t Q->rC C.base X0 Q (oF (rD C A) (zek f c.args C eA HA) HA kd):=by
    intro fv aq h1 h2 h;have h:uD (iM fv aq) fun p=>W p.1 p.2 t fun v t'=>qA C.base W J (k.K v) t' Q:=h
    rw[mO]at h;obtain⟨⟨g,aq'⟩,h3,h4⟩:=h
    unfold iM at h3;rw[sA]at h3;obtain⟨p,h5,h6⟩:=h3
    have e0:zek f c.args C eA HA=zzaw C HA (tD p.2.1 aq) p.2.2 p.1:=by
     unfold zek oO;rw[bC he h1,tA,h5,tA,zje he h2,tA,tA];rfl
    rw[e0]
    cases hp:p.1 with
    | func g'=>
     rw[hp]at h6;simp only[vB]at h6;obtain⟨hg,h6⟩:=h6
     cases h6;exact zps hW ho hg h4 hK
    | yld l=>
     rw[hp]at h6;simp only[vB,ybb]at h6;obtain⟨⟨ha,hb⟩,h6⟩:=h6
     cases h6;have ea:p.2.1=[]:=by cases hx:p.2.1 with | nil=>rfl | cons _ _=>rw[hx]at ha;cases ha
     have eb:p.2.2=[]:=by cases hx:p.2.2 with | nil=>rfl | cons _ _=>rw[hx]at hb;cases hb
     rw[ea,eb];exact z3f hW ho h4 hK
   unfold z6i at h;split at h
   ·rename_i g
    rw[tK,xE]at h;obtain⟨hg,aq,h1,h⟩:=h
    refine bD (fv:=.func (.func g) [] []) rfl h1 ?_
    show uD (iM (.func (.func g) [] []) aq) _
    have e2:iM (.func (.func g) [] []) aq=some (g,aq):=by
     show aA (Nat.blt g yo) (some (g,tD (tD [] aq) []))=_
     rw[hg,mG,mG];simp[aA]
    rw[e2];exact h
   ·simp only[xE]at h
    obtain⟨fv,h1,aq,h2,h⟩:=h
    exact bD h1 h2 h
  ·rename_i b hb
   rw[hb];have lt:qA C.base W J (fV C c e k b) t Q->rC C.base X0 Q (oF (rD C A) ((zbh c (.builtin b)).f C eA HA) HA kd):=by
    intro h;have:=light (.call c) (by show qA C.base W J (match c.callee with | .builtin b=>fV C c e k b | _=>.fail) t Q;rw[hb];exact h)
    have e1:(wF (.call c)).f C eA HA=(zbh c c.callee).f C eA HA:=rfl
    rw[e1,hb]at this;exact this
   unfold zkc at h;split at h
   ·simp only[xE,two']at h
    obtain⟨ty,h1,u,h2,p,h3,h⟩:=h
    show rC C.base X0 Q (oF _ (zbi c C eA HA) HA kd)
    refine yO ho zta h hK fun q hq=>?_
    refine bR (v:=q.1) (H':=q.2) ?_
    rw[h1,tA];unfold cG at hq;simp only[sA,vB]at hq ⊢
    obtain⟨y,g1,z,g2,g3,g4⟩:=hq
    exact⟨y,g1,u,h2,z,g2,g3,p,zh0 he h3,g4⟩
   ·exact lt h
  ·cases h
end
end
section
structure dE (base:Nat) (X0:Xt) (kf:Nat) (ν:Nat->Nat) (X:Xt) (st:eF) (tm:Tm) (HA:xA) (t:Tr rA):Prop where
 ov:Ov base t X HA
 le:XLe X0 X
 k:st.tm.k=kf
 kA:tm.k=kf
 tms:∀i v,st.tm.get i=some v->tm.get i=some v
 ads:∀i p,gH i st.ad=some p->tm.get i=some (.ptr (ν p.1) p.2)
 lo:z14 base X0 X ν st.lo
 inj:∀d d' l l',st.lo.get d=some l->st.lo.get d'=some l'->ν d=ν d'->d=d'
def bS{i:Nat}{a:Nat × Nat × Nat}{l:List (Nat × Nat × Nat)}:gH i (a::l)=if i=a.1 then some a.2 else gH i l:=by
 show Bool.rec (motive:=fun _=>Option (Nat × Nat)) (gH i l) (some a.2) (Nat.beq i a.1)=_
 rw[wH];simp only[fB]
def z1w{i:Nat}{p:Nat × Nat}:∀ {l:List (Nat × Nat × Nat)},gH i l=some p->(i,p.1,p.2)∈l:=by
 intro l;induction l with
 | nil=>intro h;cases h
 | cons a l ih=>
  intro h;rw[bS]at h;split at h
  ·rename_i e;cases h;rw[e];exact yby
  ·exact ybr _ (ih h)
def zq5{n:Nat}{tm:Tm}{dst:Option Nat}{v:zA}:(putA n tm dst v).k=tm.k:=by
 unfold putA putB
 cases dst with
 | none=>rfl
 | some d=>
  simp only[z3k,zC];split
  ·unfold Tm.set;rw[wH];split<;>rfl
  ·rfl
def Tm.set_k{tm:Tm}{i:Nat}{v:zA}:(tm.set i v).k=tm.k:=by unfold Tm.set;rw[wH];split<;>rfl
section
variable {W J:vI}{t:Tr rA}{X X0:Xt}{HA:xA}{C:pA}{A:Tr nD}{ν:Nat->Nat}{Q:uC}{kf n:Nat}{st:eF}{tm:Tm}
def dE.put(h:dE C.base X0 kf ν X st tm HA t){dst:Option Nat}{v:zA}{lt:Bool}{κ:KT}(hw:qA C.base W J (zqj n dst v lt st κ) t Q) :
  ∃st',dE C.base X0 kf ν X st' (putA n tm dst v) HA t/\qA C.base W J (κ st') t Q:=by
 unfold zqj at hw
 cases dst with
 | none=>exact⟨st,h,hw⟩
 | some d=>
  simp only[zC]at hw;split at hw
  ·rename_i hd
   rw[tK]at hw;obtain⟨h1,h2⟩:=hw
   refine⟨_,?_,h2⟩
   refine⟨h.ov,h.le,(by show(st.tm.set d v).k=kf;rw[Tm.set_k];exact h.k),by rw[zq5];exact h.kA,?_,?_,h.lo,h.inj⟩
   ·intro i u hi
    have hi2:(st.tm.set d v).get i=some u:=hi
    rw[Tm.get_set]at hi2;rw[pH];split at hi2
    ·rename_i e;rw[yab ⟨by rw[e],by rw[e];exact xC.1 hd⟩];exact hi2
    ·rename_i e
     rw[yaa (fun hh=>e (by injection hh.1 with e1;exact e1.symm))]
     exact h.tms i u hi2
   ·intro i p hi
    rw[pH,yaa]
    ·exact h.ads i p hi
    ·rintro⟨e,_⟩
     injection e with e
     subst e;rw[hi]at h1
     cases h1
  ·rename_i hd
   refine⟨st,?_,hw⟩
   have:putA n tm (some d) v=tm:=by
    unfold putA putB;simp only[z3k,zC];rw[yaa hd]
   rw[this];exact h
def dE.putA(h:dE C.base X0 kf ν X st tm HA t){dst:Option Nat}{d off:Nat}{κ:KT}(hw:qA C.base W J (z8g n dst d off st κ) t Q) :
  ∃st',dE C.base X0 kf ν X st' (Am.putA n tm dst (.ptr (ν d) off)) HA t/\qA C.base W J (κ st') t Q:=by
 unfold z8g at hw;rw[xE]at hw;obtain⟨i,h1,hw⟩:=hw
 subst h1;simp only[tK]at hw;obtain⟨h2,h3,h4⟩:=hw
 refine⟨_,?_,h4⟩
 refine⟨h.ov,h.le,h.k,by rw[zq5];exact h.kA,?_,?_,h.lo,h.inj⟩
 ·intro j u hj
  rw[pH,yaa]
  ·exact h.tms j u hj
  ·rintro⟨e,_⟩
   injection e with e
   subst e;have hj:st.tm.get i=some u:=hj
   rw[hj]at h3
   cases h3
 ·intro j p hj
  have hj:gH j ((i,d,off)::st.ad)=some p:=hj
  rw[bS]at hj;rw[pH];split at hj
  ·rename_i e;cases hj;rw[yab ⟨by rw[e],by rw[e];exact xC.1 h2⟩]
  ·rename_i e
   rw[yaa (fun hh=>e (by injection hh.1 with e1;exact e1.symm))]
   exact h.ads j p hj
def dE.new(h:dE C.base X0 kf ν X st tm HA t){d:Nat}{l:List zA}{κ:KT}(hw:qA C.base W J (tNew n d l st κ) t Q) :
  ∃st' ν' X',dE C.base X0 kf ν' X' st' (Am.putA n tm (some d) (.ptr HA.next 0)) (vE HA l none) t/\qA C.base W J (κ st') t Q:=by
 unfold tNew at hw;simp only[tK]at hw;obtain⟨h1,h2,h3,h4⟩:=hw
 have hx:=h.ov.nextX
 refine⟨_,fun c=>if c=d then HA.next else ν c,fun c=>if c=HA.next then some (.cells (Tr.ofList l) (yB l) none)else X c,?_,h4⟩
 refine⟨h.ov.newX _,?_,h.k,by rw[zq5];exact h.kA,?_,?_,?_,?_⟩
 ·intro b y hb
  have:X b=some y:=h.le b y hb
  show(if b=HA.next then _ else X b)=some y
  rw[yaa,this];intro e;rw[e,hx]at this;cases this
 ·intro j u hj
  rw[pH,yaa]
  ·exact h.tms j u hj
  ·rintro⟨e,_⟩
   injection e with e
   subst e;have hj:st.tm.get d=some u:=hj
   rw[hj]at h2
   cases h2
 ·intro j p hj
  have hj:gH j ((d,d,0)::st.ad)=some p:=hj
  rw[bS]at hj;rw[pH];split at hj
  ·rename_i e
   cases hj;rw[yab ⟨by rw[e],by rw[e];exact xC.1 h1⟩]
   show some (zA.ptr HA.next 0)=some (zA.ptr (if d=d then HA.next else ν d) 0)
   rw[yab rfl]
  ·rename_i e
   rw[yaa (fun hh=>e (by injection hh.1 with e1;exact e1.symm))]
   have hm:=z1w hj
   unfold z6z at h3;rw[lG,ycb]at h3;have:=h3 _ hm
   simp only[zC]at this;have hne:p.1≠d:=by
    intro e2;rw[yab (fB.2 e2)]at this
    exact e (fB.1 this)
   show Tm.get tm j=some (zA.ptr (if p.1=d then HA.next else ν p.1) p.2)
   rw[yaa hne];exact h.ads j p hj
 ·intro c m hc
  have hc:(st.lo.set d l).get c=some m:=hc
  rw[Tr.get_set]at hc;show X0 (if c=d then HA.next else ν c)=none/\C.base<=(if c=d then HA.next else ν c)/\∃c',(if (if c=d then HA.next else ν c)=HA.next then some (rA.cells (Tr.ofList l) (yB l) none)else X (if c=d then HA.next else ν c))=some (.cells c' m.length none)/\∀j a,m[j]?=some a->c'.get j=some a
  split at hc
  ·rename_i e
   cases hc;simp only[e,if_true];refine⟨?_,h.ov.base,Tr.ofList l,by rw[zD],fun j a hj=>by rw[Tr.get_ofList];exact hj⟩
   cases hq:X0 HA.next with
   | none=>rfl
   | some z=>have:=h.le _ _ hq;rw[hx]at this;cases this
  ·rename_i e
   simp only[yaa e];obtain⟨g1,g2,c',g3,g4⟩:=h.lo c m hc
   refine⟨g1,g2,c',?_,g4⟩
   rw[yaa,g3];intro e2;rw[e2,hx]at g3;cases g3
 ·intro c c' m m' hc hc' he
  have hc:(st.lo.set d l).get c=some m:=hc
  have hc':(st.lo.set d l).get c'=some m':=hc'
  have he:(if c=d then HA.next else ν c)=(if c'=d then HA.next else ν c'):=he
  rw[Tr.get_set]at hc hc'
  split at hc<;>split at hc'
  ·rename_i e1 e2;rw[e1,e2]
  ·rename_i e1 e2
   rw[yab e1,yaa e2]at he;obtain⟨_,_,_,g3,_⟩:=h.lo c' m' hc'
   rw[<- he,hx]at g3;cases g3
  ·rename_i e1 e2
   rw[yaa e1,yab e2]at he;obtain⟨_,_,_,g3,_⟩:=h.lo c m hc
   rw[he,hx]at g3;cases g3
  ·rename_i e1 e2
   rw[yaa e1,yaa e2]at he;exact h.inj c c' m m' hc hc' he
def dE.setLo(h:dE C.base X0 kf ν X st tm HA t){d:Nat}{l l':List zA}{c':Tr zA}(h1:st.lo.get d=some l)(h2:l'.length=l.length)(h3:∀j a,l'[j]?=some a->c'.get j=some a) :
  ∃X',dE C.base X0 kf ν X' ⟨st.tm,st.ad,st.lo.set d l',st.lit⟩ tm (setBlk HA (ν d) (.cells c' l.length none)) t:=by
 obtain⟨g1,g2,c,g3,g4⟩:=h.lo d l h1
 refine⟨_,h.ov.setX g3 _,?_,h.k,h.kA,h.tms,h.ads,?_,?_⟩
 ·intro b y hb
  show(if b=ν d then _ else X b)=some y
  rw[yaa]
  ·exact h.le b y hb
  ·intro e;rw[e,g1]at hb;cases hb
 ·intro e m he
  have he:(st.lo.set d l').get e=some m:=he
  rw[Tr.get_set]at he;split at he
  ·rename_i e1
   cases he;subst e1;exact⟨g1,g2,c',by show(if ν e=ν e then _ else _)=_;rw[yab rfl,h2],h3⟩
  ·rename_i e1
   obtain⟨k1,k2,k3,k4,k5⟩:=h.lo e m he
   refine⟨k1,k2,k3,?_,k5⟩
   show(if ν e=ν d then _ else X (ν e))=_
   rw[yaa,k4];intro e2;exact e1 (h.inj e d m l he h1 e2)
 ·intro e e' m m' he he' hv
  have he:(st.lo.set d l').get e=some m:=he
  have he':(st.lo.set d l').get e'=some m':=he'
  rw[Tr.get_set]at he he'
  have x1:∃q,st.lo.get e=some q:=by
   split at he
   ·rename_i e1;rw[e1];exact⟨l,h1⟩
   ·exact⟨m,he⟩
  have x2:∃q,st.lo.get e'=some q:=by
   split at he'
   ·rename_i e1;rw[e1];exact⟨l,h1⟩
   ·exact⟨m',he'⟩
  exact h.inj e e' _ _ x1.choose_spec x2.choose_spec hv
def dE.later(h:dE C.base X0 kf ν X st tm HA t){X':Xt}{HA':xA}{t':Tr rA}(ho:Ov C.base t' X' HA')(hx:XLe X X'):dE C.base X0 kf ν X' st tm HA' t':=
 ⟨ho,h.le.trans hx,h.k,h.kA,h.tms,h.ads,fun d l hd=>by
  obtain⟨g1,g2,c,g3,g4⟩:=h.lo d l hd
  exact⟨g1,g2,c,hx _ _ g3,g4⟩,h.inj⟩
def zcn{ty:Nat}{v:zA}(h:fitB C ty v=true):z42 C ty v:=by
 unfold fitB at h;unfold z42
 cases hy:C.tys.get ty with
 | none=>trivial
 | some y=>
  rw[hy]at h;simp only at h ⊢
  unfold fitD
  cases hd:y.desc<;>rw[hd]at h<;>simp only at h ⊢
  case bool=>
   have:=fB.1 h
   cases v<;>simp only[zA.tag]at this<;>first
    | exact⟨_,rfl⟩
    | (cases this;done)
  case int k=>
   cases v<;>simp only[zA.asIntK]at h<;>first
    | exact⟨_,by rw[nI.1 h]⟩
    | (cases h;done)
  case string=>
   have:=fB.1 h
   cases v<;>simp only[zA.tag]at this<;>first
    | exact⟨_,rfl⟩
    | (cases this;done)
def zi9{ty:Nat}{v:zA}(h:(!Nat.ble (kG C ty) 2)=true):z42 C ty v:=by
 unfold z42;unfold kG at h
 cases hy:C.tys.get ty with
 | none=>trivial
 | some y=>
  rw[hy]at h;simp only at h ⊢
  unfold fitD
  cases hd:y.desc<;>rw[hd]at h<;>first
   | trivial
   | (simp only[jD.tag]at h;exact absurd h (by decide))
def eW:∀(zs l:List zA) (pre:List zA),lK zs l=true->uN zs (cellsOf (pre++l)) pre.length=l:=by
 intro zs;induction zs with
 | nil=>intro l pre h;cases l with
  | nil=>rfl
  | cons a l=>cases h
 | cons z zs ih=>
  intro l pre h
  cases l with
  | nil=>cases h
  | cons a l=>
   unfold lK at h;rw[ybb]at h;show zyp z (cellsOf (pre++a::l)) pre.length::uN zs (cellsOf (pre++a::l)) (pre.length+1)=a::l
   have e2:=ih l (pre++[a]) h.2
   rw[ybz]at e2;simp only[List.cons_append,yah,ybg,ybn,ybx]at e2;rw[e2];congr 1
   have hg:(pre++a::l)[pre.length]?=some a:=by simp
   have h1:=h.1
   cases z<;>simp only[zsd]at h1<;>simp only[zyp,cellsOf,sP,zz2,zxi,zfh,hg]<;>try (cases h1;done)
   case bool=>
    have:=fB.1 h1
    cases a<;>simp only[zA.tag]at this<;>first
     | rfl
     | (cases this;done)
   case int k _=>
    cases a<;>simp only[zA.asIntK]at h1<;>first
     | (rw[nI.1 h1];done)
     | (cases h1;done)
   case str=>
    have:=fB.1 h1
    cases a<;>simp only[zA.tag]at this<;>first
     | rfl
     | (cases this;done)
def zqk{ty:Nat}{v:zA}{K:zA->T}(h:qA C.base W J (zws C ty v K) t Q):z42 C ty v/\qA C.base W J (K v) t Q:=by
 unfold zws at h;unfold z42;have agg:∀zs,qA C.base W J (bif Nat.ble (yB zs) 40 then .asG zs v fun X=>K (.agg (uN zs X 0))else K v) t Q->qA C.base W J (K v) t Q:=by
  intro zs h;rw[zC]at h;split at h
  ·have h:uD (zm8 zs v) fun X=>qA C.base W J (K (.agg (uN zs X 0))) t Q:=h
   rw[mO]at h;obtain⟨X,h1,h2⟩:=h
   unfold zm8 at h1;simp only[sA,vB]at h1;obtain⟨l,h3,h4,h5⟩:=h1
   cases h5;have:=eW zs l [] h4
   simp only[yah,ybx]at this;rw[this]at h2;rw[oV.1 h3];exact h2
  ·exact h
 cases hy:C.tys.get ty with
 | none=>rw[hy]at h;exact⟨trivial,h⟩
 | some y=>
  rw[hy]at h;simp only at h ⊢
  unfold fitD
  cases hd:y.desc<;>rw[hd]at h<;>simp only at h ⊢
  case bool=>
   have h:uD v.asBool fun n=>qA C.base W J (K (.bool n)) t Q:=h
   rw[mO]at h;obtain⟨b,h1,h2⟩:=h
   rw[rR.1 h1];exact⟨⟨b,rfl⟩,h2⟩
  case int k=>
   have h:uD (z94 k v) fun n=>qA C.base W J (K (.int k n)) t Q:=h
   rw[mO]at h;obtain⟨b,h1,h2⟩:=h
   unfold z94 at h1;simp only[sA,vB]at h1;obtain⟨p,h3,h4,h5⟩:=h1
   cases h5;rw[qP.1 h3,nI.1 h4];exact⟨⟨_,rfl⟩,h2⟩
  case string=>
   have h:uD v.asStr fun n=>qA C.base W J (K (.str n)) t Q:=h
   rw[mO]at h;obtain⟨b,h1,h2⟩:=h
   rw[rP.1 h1];exact⟨⟨b,rfl⟩,h2⟩
  all_goals first
   | exact⟨trivial,agg _ h⟩
   | exact⟨trivial,h⟩
def zab{g lt:Bool}{v:zA}{K:zA->Bool->T}(h:qA C.base W J (zf5 g lt v K) t Q):∃lt',qA C.base W J (K v lt') t Q:=by
 unfold zf5 at h
 cases g with
 | false=>exact⟨lt,h⟩
 | true=>
  cases lt with
  | true=>exact⟨true,h⟩
  | false=>
   simp only[cond_true,cond_false]at h;rw[xE]at h;obtain⟨b,h1,h2⟩:=h
   rw[rR.1 h1];have h2:if b=true then qA C.base W J (K (.bool true) true) t Q else qA C.base W J (K (.bool false) true) t Q:=h2
   cases b with
   | true=>exact⟨true,h2⟩
   | false=>exact⟨true,h2⟩
def zcz(h:dE C.base X0 kf ν X st tm HA t){g:Option (Nat × Bool)}{all:Array Oper}{w:Bool}(hw:gE g all st.tm=some w):gE g all tm=some w:=by
 unfold gE zvy at hw ⊢
 cases g with
 | none=>exact hw
 | some jw=>
  simp only[zjy]at hw ⊢
  rw[sA]at hw ⊢
  obtain⟨d,h1,hw⟩:=hw
  refine⟨d,h1,?_⟩
  rw[sA]at hw ⊢
  obtain⟨v,h2,hw⟩:=hw
  exact⟨v,h.tms _ _ h2,hw⟩
def SK (C:pA)(W J:vI)(X0:Xt)(kf:Nat)(Q:uC)(κ:KT)(m:Tm->xA->sB):Prop:=∀st tm HA t X ν,dE C.base X0 kf ν X st tm HA t->qA C.base W J (κ st) t Q->rC C.base X0 Q (m tm HA)
def rC.norm{ty:Nat}{v:zA}{K:zA->sB}(hf:z42 C ty v)(h:rC C.base X0 Q (K v)):rC C.base X0 Q (cI C ty v K):=by
 obtain⟨u,t',HA',X',h1,h2⟩:=h
 exact⟨u,t',HA',X',yL.2 ⟨hf,h1⟩,h2⟩
def rC.ob{α:Type}{x:Option α}{a:α}{K:α->sB}(hx:x=some a)(h:rC C.base X0 Q (K a)):rC C.base X0 Q (Am.ob x K):=by subst hx;exact h
def zxj(hW:pP C A W){e eA:gC}{ae:uK}(he:kN e eA)(ha:zbp ν ae eA)(hst:dE C.base X0 kf ν X st tm HA t){la:List Nat}{all:Array Oper}{o:Oper}{κ:KT}{m:Tm->xA->sB}
  (hκ:∀st' tm' HA' t' X' ν',(la=[]->ν'=ν)->dE C.base X0 kf ν' X' st' tm' HA' t'->(∃v,tm'=putA n tm o.dst v)->qA C.base W J (κ st') t' Q->rC C.base X0 Q (m tm' HA'))
  (h:qA C.base W J (tH C la o.dst o.op e ae st.lo (kop C all n o e st κ) (klo C n o st κ)) t Q) :
  rC C.base X0 Q (oF (rD C A) ((wF o.op).f C eA HA) HA fun v H'=>cI C o.type v fun v=>m (putA n tm o.dst v) H'):=by
 refine tH_ok hW he ha hst.ov hst.lo h ?_ ?_ ?_ ?_ ?_
 ·intro v t' HA' X' ho hx hk
  have hk:qA C.base W J (zws C o.type v fun v=>zf5 (zi1 all.toList o.dst all.toList) (z36 o.op e st.lit) v fun v lt=>zqj n o.dst v lt st κ) t' Q:=hk
  obtain⟨h1,h2⟩:=zqk hk
  obtain⟨lt',h3⟩:=zab h2
  obtain⟨st',h4,h5⟩:=(hst.later ho hx).put h3
  exact rC.norm h1 (hκ _ _ _ _ _ _ (fun _=>rfl) h4 ⟨v,rfl⟩ h5)
 ·intro v t' HA' X' ho hx hk
  obtain⟨h1,h2⟩:=tK.1 hk
  obtain⟨lt',h3⟩:=zab h2
  obtain⟨st',h4,h5⟩:=(hst.later ho hx).put h3
  exact rC.norm (zcn h1) (hκ _ _ _ _ _ _ (fun _=>rfl) h4 ⟨v,rfl⟩ h5)
 ·intro d off hk
  obtain⟨h1,h2⟩:=tK.1 hk
  obtain⟨st',h4,h5⟩:=hst.putA h2
  exact rC.norm (zi9 h1) (hκ _ _ _ _ _ _ (fun _=>rfl) h4 ⟨_,rfl⟩ h5)
 ·intro d l hd hk
  obtain⟨h1,h2⟩:=tK.1 hk
  obtain⟨st',ν',X',h4,h5⟩:=hst.new h2
  have e:=zy6 hd
  rw[e];refine rC.norm (zi9 h1) (hκ _ _ _ _ _ _ (fun hl=>?_) h4 ⟨_,by rw[e]⟩ h5)
  rw[hl,e]at hd
  cases hd
 ·intro d l l' c' h1 h2 h3 hk
  obtain⟨h4,h5⟩:=tK.1 hk
  obtain⟨X',h6⟩:=hst.setLo h1 h2 h3
  obtain⟨st',h7,h8⟩:=h6.put h5
  exact rC.norm (zcn h4) (hκ _ _ _ _ _ _ (fun _=>rfl) h7 ⟨_,rfl⟩ h8)
def ziq(h:dE C.base X0 kf ν X st tm HA t):kN (.now st.tm) (.now tm)/\zbp ν (.now st.ad) (.now tm):=⟨h.tms,h.ads⟩
def z8e(hW:pP C A W){la:List Nat}{all:Array Oper}{κ:KT}{m:Tm->xA->sB}(hκ:SK C W J X0 kf Q κ m):∀(l:List Oper),SK C W J X0 kf Q (tops C la all n κ l) (aJ C (rD C A) all n m l):=by
 intro l;induction l with
 | nil=>exact hκ
 | cons o l ih=>
  intro st tm HA t X ν hst h;have h:qA C.base W J (aB (gE o.guard all st.tm) fun w=>Bool.rec (motive:=fun _=>T) (zqj n o.dst gD false st (tops C la all n κ l))
   (tH C la o.dst o.op (.now st.tm) (.now st.ad) st.lo (kop C all n o (.now st.tm) st (tops C la all n κ l)) (klo C n o st (tops C la all n κ l))) w) t Q:=h
  rw[xE]at h;obtain⟨w,h1,h2⟩:=h
  rw[lT];refine rC.ob (zcz hst h1) ?_
  cases w with
  | false=>
   rw[yaa (by simp)]
   obtain⟨st',h3,h4⟩:=hst.put h2
   exact ih _ _ _ _ _ _ h3 h4
  | true=>
   rw[yab rfl];exact zxj hW (ziq hst).1 (ziq hst).2 hst (fun st' tm' HA' t' X' ν' _ hs _ hw=>ih _ _ _ _ _ _ hs hw) h2
end
end
section
structure zhr (ν:Nat->Nat) (old:eF) (oldA:Tm):Prop where
 tms:∀i v,old.tm.get i=some v->oldA.get i=some v
 ads:∀i p,gH i old.ad=some p->oldA.get i=some (.ptr (ν p.1) p.2)
def dE.old{base:Nat}{X0 X:Xt}{kf:Nat}{ν:Nat->Nat}{st:eF}{tm:Tm}{HA:xA}{t:Tr rA}(h:dE base X0 kf ν X st tm HA t):zhr ν st tm:=⟨h.tms,h.ads⟩
def Tm.get_cut{tm:Tm}{i:Nat}:tm.cut.get i=if i<tm.k then tm.get i else none:=by
 unfold Tm.cut Tm.get;simp only[wH];by_cases h:Nat.blt i tm.k=true
 ·rw[yab h,yab h,yab (xC.1 h)]
 ·rw[yaa h,yaa (fun e=>h (xC.2 e))];rfl
def z1x{k i:Nat}:∀ {l:List (Nat × Nat × Nat)},gH i (gC.adCut k l)=if i<k then gH i l else none:=by
 intro l;induction l with
 | nil=>show none=_;split<;>rfl
 | cons a l ih=>
  unfold gC.adCut at ih ⊢
  rw[List.filter_cons];split
  ·rename_i ha
   have ha:=xC.1 ha
   rw[bS,ih,bS];split
   ·rename_i e;rw[yab (by omega)]
   ·rfl
  ·rename_i ha
   rw[ih,bS];split
   ·rename_i hi
    rw[yaa];intro e;exact ha (xC.2 (by omega))
   ·rfl
section
variable {W J:vI}{t:Tr rA}{X X0:Xt}{HA:xA}{C:pA}{A:Tr nD}{ν:Nat->Nat}{Q:uC}{kf n:Nat}{st old:eF}{tm oldA:Tm}{all:Array Oper}{olds:List (Nat × List Nat)}
def dE.cut(h:dE C.base X0 kf ν X st tm HA t):dE C.base X0 kf ν X st.cut tm.cut HA t:=by
 refine⟨h.ov,h.le,h.k,h.kA,?_,?_,h.lo,h.inj⟩
 ·intro i v hi
  have hi:st.tm.cut.get i=some v:=hi
  rw[Tm.get_cut]at hi ⊢
  split at hi
  ·rename_i e;rw[yab (by rw[h.kA,<- h.k];exact e)];exact h.tms i v hi
  ·cases hi
 ·intro i p hi
  have hi:gH i (gC.adCut st.tm.k st.ad)=some p:=hi
  rw[z1x]at hi;rw[Tm.get_cut];split at hi
  ·rename_i e;rw[yab (by rw[h.kA,<- h.k];exact e)];exact h.ads i p hi
  ·cases hi
def jT(h:dE C.base X0 kf ν X st tm HA t)(ho:zhr ν old oldA){os:List Nat}{op:Op}:kN (zor st old os op) (.mixed tm oldA os (xG op))/\zbp ν (z32 st old os op) (.mixed tm oldA os (xG op)):=by
 constructor
 ·intro i v hi
  have hi:(bif aE i (xG op)then Tm.get (bif aE i os then old.tm else st.tm) i else none)=some v:=hi
  show(bif aE i (xG op)then Tm.get (bif aE i os then oldA else tm) i else none)=some v
  cases hm:aE i (xG op)with
  | false=>rw[hm]at hi;cases hi
  | true=>
   rw[hm]at hi;simp only[cond_true]at hi ⊢
   cases hq:aE i os with
   | true=>rw[hq]at hi;exact ho.tms i v hi
   | false=>rw[hq]at hi;exact h.tms i v hi
 ·intro i p hi
  have hi:(bif aE i (xG op)then gH i (bif aE i os then old.ad else st.ad)else none)=some p:=hi
  show(bif aE i (xG op)then Tm.get (bif aE i os then oldA else tm) i else none)=_
  cases hm:aE i (xG op)with
  | false=>rw[hm]at hi;cases hi
  | true=>
   rw[hm]at hi;simp only[cond_true]at hi ⊢
   cases hq:aE i os with
   | true=>rw[hq]at hi;exact ho.ads i p hi
   | false=>rw[hq]at hi;exact h.ads i p hi
def zay(ho:zhr ν old oldA){κ:KT}{kd:Tm->sB}(hκ:∀st' tm',dE C.base X0 kf ν X st' tm' HA t->qA C.base W J (κ st') t Q->rC C.base X0 Q (kd tm')) :
  ∀(l:List Nat) (st:eF) (tm:Tm),dE C.base X0 kf ν X st tm HA t->qA C.base W J (bM C all n old olds κ l st) t Q->rC C.base X0 Q (iG C HA all n oldA olds kd l tm):=by
 intro l;induction l with
 | nil=>exact hκ
 | cons i l ih=>
  intro st tm hst h;have h:qA C.base W J (aB (dC all.toList i) fun o=>aB (gE o.guard all st.tm) fun w=>Bool.rec (motive:=fun _=>T) (zqj n o.dst gD false st (bM C all n old olds κ l))
   (tL C o.op (zor st old (aD i olds) o.op) (z32 st old (aD i olds) o.op) st.lo (kop C all n o (zor st old (aD i olds) o.op) st (bM C all n old olds κ l))) w) t Q:=h
  rw[xE]at h;obtain⟨o,h0,h⟩:=h
  rw[xE]at h;obtain⟨w,h1,h2⟩:=h
  rw[zY];refine rC.ob h0 (rC.ob (zcz hst h1) ?_)
  cases w with
  | false=>
   rw[yaa (by simp)]
   obtain⟨st',h3,h4⟩:=hst.put h2
   exact ih _ _ h3 h4
  | true=>
   rw[yab rfl];refine Exists.elim (z8h (R:=fun v=>rC C.base X0 Q (cI C o.type v fun v=>iG C HA all n oldA olds kd l (putA n tm o.dst v))) (jT hst ho).1 (jT hst ho).2 hst.ov hst.lo h2 ?_ ?_ ?_) (fun v h=>rC.ob h.1 h.2)
   ·intro v hk
    have hk:qA C.base W J (zws C o.type v fun v=>zf5 (zi1 all.toList o.dst all.toList) (z36 o.op (zor st old (aD i olds) o.op) st.lit) v fun v lt=>zqj n o.dst v lt st (bM C all n old olds κ l)) t Q:=hk
    obtain⟨g1,g2⟩:=zqk hk
    obtain⟨lt',g3⟩:=zab g2
    obtain⟨st',g4,g5⟩:=hst.put g3
    exact rC.norm g1 (ih _ _ g4 g5)
   ·intro v hk
    obtain⟨g1,g2⟩:=tK.1 hk
    obtain⟨lt',g3⟩:=zab g2
    obtain⟨st',g4,g5⟩:=hst.put g3
    exact rC.norm (zcn g1) (ih _ _ g4 g5)
   ·intro d off hk
    obtain⟨g1,g2⟩:=tK.1 hk
    obtain⟨st',g4,g5⟩:=hst.putA g2
    exact rC.norm (zi9 g1) (ih _ _ g4 g5)
def zwp(ho:zhr ν old oldA)(hst:dE C.base X0 kf ν X st tm HA t){k:T}{kd:sB}(hk:qA C.base W J k t Q->rC C.base X0 Q kd) :
  ∀(l:List Nat),qA C.base W J (mP C all old olds st k l) t Q->rC C.base X0 Q (sJ C HA all oldA olds tm kd l):=by
 intro l;induction l with
 | nil=>exact hk
 | cons i l ih=>
  intro h;have h:qA C.base W J (aB (dC all.toList i) fun o=>aB o.dst fun d=>aB (gE o.guard all st.tm) fun w=>Bool.rec (motive:=fun _=>T) (mP C all old olds st k l)
   (aB (st.tm.get d) fun u=>gdT (fitB C o.type u) (tL C o.op (zor st old (aD i olds) o.op) (z32 st old (aD i olds) o.op) st.lo ⟨fun v=>.ite (same 10 v u) (mP C all old olds st k l) .fail,fun v=>.ite (same 10 v u) (mP C all old olds st k l) .fail,fun _ _=>.fail⟩)) w) t Q:=h
  rw[xE]at h;obtain⟨o,h0,h⟩:=h
  rw[xE]at h;obtain⟨d,h1,h⟩:=h
  rw[xE]at h;obtain⟨w,h2,h⟩:=h
  rw[nZ];refine rC.ob h0 (rC.ob h1 (rC.ob (zcz hst h2) ?_))
  cases w with
  | false=>rw[yaa (by simp)];exact ih h
  | true=>
   rw[yab rfl];simp only[xE,tK]at h;obtain⟨u,h3,h4,h5⟩:=h
   have bD:∀v,qA C.base W J (.ite (same 10 v u) (mP C all old olds st k l) .fail) t Q->rC C.base X0 Q (cI C o.type v fun v=>ob (tm.get d) fun u=>aA (same 10 v u) (sJ C HA all oldA olds tm kd l)):=by
    intro v hv;have hv:if same 10 v u=true then qA C.base W J (mP C all old olds st k l) t Q else False:=hv
    split at hv
    ·rename_i hs
     refine rC.norm ?_ (rC.ob (hst.tms _ _ h3) ?_)
     ·rw[za0 _ _ _ hs];exact zcn h4
     ·rw[hs];exact ih hv
    ·exact hv.elim
   obtain⟨v,h6,h7⟩:=z8h (R:=fun v=>rC C.base X0 Q (cI C o.type v fun v=>ob (tm.get d) fun u=>aA (same 10 v u) (sJ C HA all oldA olds tm kd l))) (jT hst ho).1 (jT hst ho).2 hst.ov hst.lo h5 bD bD (fun _ _ h=>h.elim)
   exact rC.ob h6 h7
def z2h(hst:dE C.base X0 kf ν X st tm HA t){h:Nat}{o:Oper}{w:Bool}(hw:sO C all h o st.tm=some w):sO C all h o tm=some w:=by
 unfold sO at hw ⊢
 rw[sA]at hw ⊢
 obtain⟨u,h1,h2⟩:=hw
 exact⟨u,zcz hst h1,h2⟩
def zu2{e e':gC}(he:kN e e'){op:Op}{ef:Eff}(h:wP op e=some ef):wP op e'=some ef:=by
 cases op<;>first | (cases h;done) | skip
 case store t a x=>
  simp only[wP,sA]at h ⊢
  obtain⟨a,h1,v,h2,h⟩:=h
  exact⟨a,bC he h1,v,bC he h2,h⟩
 case mapUpdate t m k x=>
  simp only[wP,sA]at h ⊢
  obtain⟨a,h1,v,h2,u,h3,h⟩:=h
  exact⟨a,bC he h1,v,bC he h2,u,bC he h3,h⟩
 case insert t m k x=>
  simp only[wP,sA]at h ⊢
  obtain⟨a,h1,v,h2,u,h3,h⟩:=h
  exact⟨a,bC he h1,v,bC he h2,u,bC he h3,h⟩
def z8i{op:Op}{e:gC}{ae:uK}{ef:Eff}(h:tEff op e ae=some ef):wP op e=some ef:=by
 cases op<;>first | exact h | skip
 case store t a x=>
  unfold tEff at h;simp only[]at h;split at h
  ·cases h
  ·exact h
def z2u(hst:dE C.base X0 kf ν X st tm HA t)(ho:zhr ν old oldA){l:List Nat}{es:List Eff}(h:z2v all old olds st l=some es):zu1 all oldA olds tm l=some es:=by
 refine cX l (fun i ef h=>?_) h
 unfold zfu;simp only[sA,vB]at h ⊢
 obtain⟨o,h1,w,h2,h3,h4⟩:=h
 exact⟨o,h1,w,zcz hst h2,h3,zu2 (jT hst ho).1 (z8i h4)⟩
def ztf(hW:pP C A W)(ho:zhr ν old oldA){κ:KT}{m:Tm->xA->sB}(hκ:SK C W J X0 kf Q κ m) :
  ∀(l:List pE) (st:eF) (tm:Tm) (HA:xA) (t:Tr rA) (X:Xt),dE C.base X0 kf ν X st tm HA t->qA C.base W J (fR C all n old olds κ l st) t Q->rC C.base X0 Q (dG C (rD C A) all n oldA olds m l tm HA):=by
 intro l;induction l with
 | nil=>intro st tm HA t X hst h;exact hκ _ _ _ _ _ _ hst h
 | cons s l ih=>
  intro st tm HA t X hst h
  cases hg:zO all s with
  | true=>
   have h:qA C.base W J (Bool.rec (motive:=fun _=>T) _ (gdT (eP C all) (aB (z2v all old olds st s.again) fun es=>.heavy (nP C es) fun _=>bM C all n old olds (fR C all n old olds κ l) s.lights st)) (zO all s)) t Q:=h
   rw[hg]at h;have h:qA C.base W J (gdT (eP C all) (aB (z2v all old olds st s.again) fun es=>.heavy (nP C es) fun _=>bM C all n old olds (fR C all n old olds κ l) s.lights st)) t Q:=h
   rw[tK]at h;obtain⟨h0,h⟩:=h
   rw[xE]at h;obtain⟨es,h1,h⟩:=h
   have h:=h HA.next hst.ov.nextT hst.ov.base
   rw[mO]at h;obtain⟨⟨v,H'⟩,h2,h3⟩:=h
   obtain⟨HA',h4,h5⟩:=zv4 _ _ _ _ _ hst.ov h2
   have h6:yQ C es HA=some HA':=by
    unfold nP at h4;rw[sA]at h4;obtain⟨y,g1,g2⟩:=h4
    cases g2
    exact g1
   rw[dV hg];unfold zlx;rw[h0];show rC C.base X0 Q (ob (zu1 all oldA olds tm s.again) fun es=>ob (yQ C es HA) fun H'=>iG C H' all n oldA olds (fun tm=>dG C (rD C A) all n oldA olds m l tm H') s.lights tm)
   refine rC.ob (z2u hst ho h1) (rC.ob h6 ?_)
   exact zay ho (fun st' tm' hs hw=>ih _ _ _ _ _ hs hw) _ _ _ (hst.later h5 (XLe.refl _)) h3
  | false=>
  have h:qA C.base W J (Bool.rec (motive:=fun _=>T) (aB (dC all.toList (hvI all s.heavy)) fun o=>aB (sO C all s.heavy o st.tm) fun w=>
   (fun cont:KT=>Bool.rec (motive:=fun _=>T) (zqj n o.dst gD false st cont)
    (tH C [] o.dst o.op (zor st old (aD (hvI all s.heavy) olds) o.op) (z32 st old (aD (hvI all s.heavy) olds) o.op) st.lo (kop C all n o (zor st old (aD (hvI all s.heavy) olds) o.op) st cont) (klo C n o st cont)) w)
   (fun st'=>mP C all old olds st' (bM C all n old olds (fR C all n old olds κ l) s.lights st') s.again)) _ (zO all s)) t Q:=h
  rw[hg]at h;have h:qA C.base W J (aB (dC all.toList (hvI all s.heavy)) fun o=>aB (sO C all s.heavy o st.tm) fun w=>
   (fun cont:KT=>Bool.rec (motive:=fun _=>T) (zqj n o.dst gD false st cont)
    (tH C [] o.dst o.op (zor st old (aD (hvI all s.heavy) olds) o.op) (z32 st old (aD (hvI all s.heavy) olds) o.op) st.lo (kop C all n o (zor st old (aD (hvI all s.heavy) olds) o.op) st cont) (klo C n o st cont)) w)
   (fun st'=>mP C all old olds st' (bM C all n old olds (fR C all n old olds κ l) s.lights st') s.again)) t Q:=h
  rw[xE]at h;obtain⟨o,h0,h⟩:=h
  rw[xE]at h;obtain⟨w,h1,h2⟩:=h
  rw[jU hg];refine rC.ob h0 (rC.ob (z2h hst h1) ?_)
  have bD:∀st' tm' HA' t' X' ν',ν'=ν->dE C.base X0 kf ν' X' st' tm' HA' t'->qA C.base W J (mP C all old olds st' (bM C all n old olds (fR C all n old olds κ l) s.lights st') s.again) t' Q →
    rC C.base X0 Q (sJ C HA' all oldA olds tm' (iG C HA' all n oldA olds (fun tm=>dG C (rD C A) all n oldA olds m l tm HA') s.lights tm') s.again):=by
   intro st' tm' HA' t' X' ν' e hs hw;subst e;exact zwp ho hs (fun hl=>zay ho (fun st2 tm2 hs2 hw2=>ih _ _ _ _ _ hs2 hw2) _ _ _ hs hl) _ hw
  cases w with
  | false=>
   simp only[ybq,if_false];obtain⟨st',h3,h4⟩:=hst.put h2
   exact bD _ _ _ _ _ _ rfl h3 h4
  | true=>
   simp only[if_true];exact zxj (m:=fun tm' HA'=>sJ C HA' all oldA olds tm' (iG C HA' all n oldA olds (fun tm=>dG C (rD C A) all n oldA olds m l tm HA') s.lights tm') s.again)
    hW (jT hst ho).1 (jT hst ho).2 hst (fun st' tm' HA' t' X' ν' hn hs _ hw=>bD _ _ _ _ _ _ (hn rfl) hs hw) h2
def zth(hW:pP C A W){la:List Nat}{fn id:Nat}{d:Bool}{κ:KT}{m:Tm->xA->sB}(hκ:SK C W J X0 kf Q κ m):SK C W J X0 kf Q (zwi C la fn n κ id all d) (za2 C (rD C A) fn n m id all d):=by
 intro st tm HA t X ν hst h
 cases d with
 | false=>exact z8e hW hκ _ _ _ _ _ _ _ hst.cut h
 | true=>
  have h:qA C.base W J (aB (ob (C.plans.get fn) fun t=>t.get id) fun p=>gdT (bN all p) (bM C all n st.cut p.olds (fR C all n st.cut p.olds κ p.stages) p.first st.cut)) t Q:=h
  simp only[xE,tK]at h;obtain⟨p,h1,h2,h3⟩:=h
  show rC C.base X0 Q (ob (ob (C.plans.get fn) fun t=>t.get id) fun p=>aA (bN all p) (iG C HA all n tm.cut p.olds (fun tm'=>dG C (rD C A) all n tm.cut p.olds m p.stages tm' HA) p.first tm.cut))
  refine rC.ob h1 ?_
  rw[h2];exact zay hst.cut.old (fun st' tm' hs hw=>ztf hW hst.cut.old hκ _ _ _ _ _ _ hs hw) _ _ _ hst.cut h3
end
structure PtD where
 p:PI
 m:Tm->xA->sB
def bJ(C:pA)(φ:Ora)(fn n:Nat):nD->Kt->List PtD
 | .skip,_=>[]
 | .region _ _ _,_=>[]
 | .seq a b,κ=>bJ C φ fn n a ⟨pD C φ fn n b κ,κ.exit,κ.ret⟩++bJ C φ fn n b κ
 | .cond _ x y,κ=>bJ C φ fn n x κ++bJ C φ fn n y κ
 | .block id c,κ=>bJ C φ fn n c ⟨κ.norm,fun i tm H=>Bool.rec (motive:=fun _=>sB) (κ.exit i tm H) (κ.norm tm H) (Nat.beq id i),κ.ret⟩
 | .loop p c,κ=>⟨p,pD C φ fn n (.loop p c) κ⟩::bJ C φ fn n c ⟨pD C φ fn n (.loop p c) κ,κ.exit,κ.ret⟩
 | .exit _,_=>[]
 | .ret,_=>[]
 | .cut p c,κ=>⟨p,pD C φ fn n (.cut p c) κ⟩::bJ C φ fn n c κ
 | .range i pl fo ps id ops c,_=>⟨⟨i,tD pl ps.toList,[]⟩,z5r C φ fn n ⟨i,pl,fo,ps,id,ops,c⟩⟩::bJ C φ fn n c rdK
def z59(base kf:Nat)(d:PtD)(vals:List zA)(t:Tr rA)(Q:uC):Prop:=∀X0 X HA tm ν,dE base X0 kf ν X (zvp kf d.p vals) tm HA t->rC base X0 Q (d.m tm HA)
def JOk (base kf:Nat)(J:vI)(l:List PtD):Prop:=∀d∈l,∀vals t Q,J d.p.id vals t Q->z59 base kf d vals t Q
structure SKt (C:pA) (W J:vI) (X0:Xt) (kf:Nat) (Q:uC) (κ:KtT) (m:Kt):Prop where
 norm:SK C W J X0 kf Q κ.norm m.norm
 exit:∀i,SK C W J X0 kf Q (κ.exit i) (m.exit i)
 ret:SK C W J X0 kf Q κ.ret m.ret
def zh8{d:Nat}{l:List zA}{st:eF}:∀ {ll:List (Nat × Nat)} {b rest:List zA},zf0 st ll=some b->(z2c ll (b++rest)).get d=some l->st.lo.get d=some l:=by
 intro ll;induction ll with
 | nil=>intro b rest _ h;rw[show z2c [] (b++rest)=.leaf from rfl,Tr.get_leaf]at h;cases h
 | cons p ll ih=>
  intro b rest hb h;have hb:(ob (gH p.1 st.ad) fun a=>aA (Nat.beq a.1 p.1&&Nat.beq a.2 0) (ob (st.lo.get p.1) fun l=>aA (Nat.beq (yB l) p.2) (ob (zf0 st ll) fun r=>some (tD l r))))=some b:=hb
  simp only[sA,vB]at hb;obtain⟨a,_,_,l0,h2,h3,r,h4,h5⟩:=hb
  cases h5;have h:((z2c ll (vM (tD l0 r++rest) p.2)).set p.1 (zfs (tD l0 r++rest) p.2)).get d=some l:=h
  rw[fB,zD]at h3;rw[mG,dP,jO,<- h3,ybz,List.drop_left,List.take_left,Tr.get_set]at h;split at h
  ·rename_i e;cases h;rw[e];exact h2
  ·exact ih h4 h
def z25{i:Nat}{q:Nat × Nat}{st:eF}:∀ {ll:List (Nat × Nat)} {b:List zA},zf0 st ll=some b->gH i (stAd ll)=some q->gH i st.ad=some q:=by
 intro ll;induction ll with
 | nil=>intro b _ h;cases h
 | cons p ll ih=>
  intro b hb h;have hb:(ob (gH p.1 st.ad) fun a=>aA (Nat.beq a.1 p.1&&Nat.beq a.2 0) (ob (st.lo.get p.1) fun l=>aA (Nat.beq (yB l) p.2) (ob (zf0 st ll) fun r=>some (tD l r))))=some b:=hb
  simp only[sA,vB,ybb,fB]at hb;obtain⟨a,h1,⟨h2,h3⟩,l0,_,_,r,h4,_⟩:=hb
  have h:gH i ((p.1,p.1,0)::stAd ll)=some q:=h
  rw[bS]at h;split at h
  ·rename_i e;cases h;rw[e];show gH p.1 st.ad=some (p.1,0);rw[h1,<- h2,<- h3]
  ·exact ih h4 h
def z23{i:Nat}{v:zA}{st:eF}:∀ {pl:List Nat} {a rest:List zA},jF (fun i=>st.tm.get i) pl=some a->(zm7 pl (a++rest)).get i=some v->st.tm.get i=some v:=by
 intro pl;induction pl with
 | nil=>intro a rest _ h;rw[show zm7 [] (a++rest)=.leaf from rfl,Tr.get_leaf]at h;cases h
 | cons j pl ih=>
  intro a rest ha h;rw[nK,sA]at ha;obtain⟨u,h1,ha⟩:=ha
  rw[sA]at ha;obtain⟨r,h2,ha⟩:=ha
  cases ha;have h:((zm7 pl (r++rest)).set j u).get i=some v:=h
  rw[Tr.get_set]at h;split at h
  ·rename_i e;cases h;rw[e];exact h1
  ·exact ih h2 h
def Tm.get_kv{k i:Nat}{v:Tr zA}{u:zA}(h:Tm.get ⟨k,v,[]⟩ i=some u):i<k/\v.get i=some u:=by
 unfold Tm.get at h;rw[wH]at h;split at h
 ·rename_i e;exact⟨xC.1 e,h⟩
 ·cases h
def zs6{p:PI}{st:eF}{vals:List zA}(h:zfz p st=some vals):∃a b,vals=a++b/\jF (fun i=>st.tm.get i) p.pl=some a/\zf0 st p.ll=some b/\a.length=p.pl.length:=by
 unfold zfz at h;simp only[sA]at h;obtain⟨a,h1,b,h2,h3⟩:=h
 cases h3;refine⟨a,b,mG _ _,h1,h2,?_⟩
 have:∀(l:List Nat) (r:List zA),jF (fun i=>st.tm.get i) l=some r->r.length=l.length:=by
  intro l;induction l with
  | nil=>intro r h;cases h;rfl
  | cons x l ih=>
   intro r h;rw[nK,sA]at h;obtain⟨u,_,h⟩:=h
   rw[sA]at h;obtain⟨s,h5,h⟩:=h
   cases h;simp[ih _ h5]
 exact this _ _ h1
section
variable {W J:vI}{t:Tr rA}{X X0:Xt}{HA:xA}{C:pA}{A:Tr nD}{ν:Nat->Nat}{Q:uC}{kf n:Nat}{st:eF}{tm:Tm}
def dE.at(h:dE C.base X0 kf ν X st tm HA t){p:PI}{vals:List zA}(hv:zfz p st=some vals):dE C.base X0 kf ν X (zvp kf p vals) tm HA t:=by
 obtain⟨a,b,rfl,h1,h2,h3⟩:=zs6 hv
 have hd:vM (a++b) (yB p.pl)=b:=by rw[dP,zD,<- h3,List.drop_left]
 refine⟨h.ov,h.le,rfl,h.kA,?_,?_,?_,?_⟩
 ·intro i v hi
  exact h.tms i v (z23 h1 (Tm.get_kv hi).2)
 ·intro i q hi
  exact h.ads i q (z25 h2 hi)
 ·intro d l hl
  have hl:(z2c p.ll (vM (a++b) (yB p.pl))).get d=some l:=hl
  rw[hd]at hl;have hb:(z2c p.ll (b++[])).get d=some l:=by rw[ycd];exact hl
  exact h.lo d l (zh8 h2 hb)
 ·intro d d' l l' hl hl' he
  have hl:(z2c p.ll (vM (a++b) (yB p.pl))).get d=some l:=hl
  have hl':(z2c p.ll (vM (a++b) (yB p.pl))).get d'=some l':=hl'
  rw[hd]at hl hl'
  have hb:(z2c p.ll (b++[])).get d=some l:=by rw[ycd];exact hl
  have hb':(z2c p.ll (b++[])).get d'=some l':=by rw[ycd];exact hl'
  exact h.inj d d' l l' (zh8 h2 hb) (zh8 h2 hb') he
def zzq{tm:Tm}{i:Nat}{v:zA}(hv:tm.get i=some v):∀ {live:List Nat},i∈live->(zlp tm live).get i=some v:=by
 intro live;induction live with
 | nil=>intro h;cases h
 | cons j live ih=>
  intro h;show(match tm.get j with | some v=>(zlp tm live).set j v | none=>zlp tm live:Tr zA).get i=some v
  by_cases e:i=j
  ·subst e;rw[hv];simp only[];rw[Tr.get_set,yab rfl]
  ·have:=ih ((ybs.1 h).resolve_left e)
   cases tm.get j with
   | none=>exact this
   | some u=>simp only[];rw[Tr.get_set,yaa e];exact this
def z22{i:Nat}{v:zA}:∀ {pl:List Nat} {vals:List zA},(zm7 pl vals).get i=some v->i∈pl:=by
 intro pl;induction pl with
 | nil=>intro vals h;rw[show zm7 [] vals=.leaf from rfl,Tr.get_leaf]at h;cases h
 | cons j pl ih=>
  intro vals h
  cases vals with
  | nil=>rw[show zm7 (j::pl) []=.leaf from rfl,Tr.get_leaf]at h;cases h
  | cons u vals=>
   have h:((zm7 pl vals).set j u).get i=some v:=h
   rw[Tr.get_set]at h;split at h
   ·rename_i e;rw[e];exact yby
   ·exact ybr _ (ih h)
def z24{i:Nat}{q:Nat × Nat}:∀ {ll:List (Nat × Nat)},gH i (stAd ll)=some q->i∈(List.rec (motive:=fun _=>List Nat) [] (fun a _ r=>a.1::r) ll:List Nat):=by
 intro ll;induction ll with
 | nil=>intro h;cases h
 | cons p ll ih=>
  intro h;have h:gH i ((p.1,p.1,0)::stAd ll)=some q:=h
  rw[bS]at h;split at h
  ·rename_i e;rw[e];exact yby
  ·exact ybr _ (ih h)
def dE.keep{p:PI}{vals:List zA}(hb:∀i,i∈p.kept->i<kf)(h:dE C.base X0 kf ν X (zvp kf p vals) tm HA t):dE C.base X0 kf ν X (zvp kf p vals) (Am.keep p.kept tm) HA t:=by
 have key:∀i v,i∈p.kept->tm.get i=some v->(Am.keep p.kept tm).get i=some v:=by
  intro i v hi hv;unfold Am.keep Tm.get;rw[wH,yab (xC.2 (by rw[h.kA];exact hb i hi))]
  exact zzq hv hi
 refine⟨h.ov,h.le,rfl,h.kA,?_,?_,h.lo,h.inj⟩
 ·intro i v hi
  refine key i v ?_ (h.tms i v hi)
  unfold PI.kept;rw[mG];exact ydc _ (z22 (Tm.get_kv hi).2)
 ·intro i q hi
  refine key i _ ?_ (h.ads i q hi)
  unfold PI.kept;rw[mG];exact ycf _ (z24 hi)
def zo0{l:List PtD}(hJ:JOk C.base kf J l){p:PI}{m:Tm->xA->sB}(hm:(⟨p,m⟩:PtD)∈l):SK C W J X0 kf Q (zui p) m:=by
 intro st tm HA t X ν hst h;unfold zui at h;rw[xE]at h;obtain⟨vals,h1,h2⟩:=h
 exact hJ _ hm vals t Q h2 _ _ _ _ _ (hst.at h1)
def z6w:SKt C W J X0 kf Q rdT rdK:=⟨fun _ tm HA t X _ hst h=>⟨_,t,HA,X,rfl,hst.ov,hst.le,h⟩,fun _ _ _ _ _ _ _ _ h=>h.elim,fun _ tm HA t X _ hst h=>⟨_,t,HA,X,rfl,hst.ov,hst.le,h⟩⟩
def z56(C:pA)(A:Tr nD)(W:vI):Prop:=∀l args t Q,(∀X HA,Ov C.base t X HA->rC C.base X Q (zpt C A (yo+l) args HA))->W (yo+l) args t Q
def onX (X:Xt)(b:Nat)(y:rA):Xt:=fun c=>if c=b then some y else X c
def zk4{X:Xt}{b:Nat}{y:rA}(h:X b=none):XLe X (onX X b y):=by
 intro c z hc;unfold onX;rw[yaa (fun e=>by rw[e,h]at hc;cases hc)]
 exact hc
def Ov.under{base:Nat}(h:Ov base t X HA){b:Nat}{y:rA}(hb:t.get b=some y)(z:rA):Ov base (t.del b) (onX X b z) (Am.setBlk HA b z):=by
 refine⟨h.base,fun c hc=>?_,fun c u hc=>?_,fun c u hc=>?_⟩
 ·show(HA.t.set b z).get c=_
  unfold onX at hc;split at hc
  ·cases hc
  ·rename_i e;rw[Tr.get_set,yaa e,Tr.get_del,yaa e];exact h.same c hc
 ·show(HA.t.set b z).get c=_/\_
  unfold onX at hc;split at hc
  ·rename_i e;cases hc;subst e;exact⟨by rw[Tr.get_set,yab rfl],by rw[Tr.get_del,yab rfl],h.lt _ _ hb⟩
  ·rename_i e
   obtain⟨g1,g2,g3⟩:=h.ext c u hc
   exact⟨by rw[Tr.get_set,yaa e];exact g1,by rw[Tr.get_del,yaa e];exact g2,g3⟩
 ·rw[Tr.get_del]at hc
  split at hc
  ·cases hc
  ·exact h.lt _ _ hc
def Ov.back{base:Nat}(h:Ov base t X HA){b:Nat}{y:rA}(hb:X b=some y)(z:rA):Ov base (t.set b z) (fun c=>if c=b then none else X c) (Am.setBlk HA b z):=by
 obtain⟨g1,g2,g3⟩:=h.ext b y hb
 refine⟨h.base,fun c hc=>?_,fun c u hc=>?_,fun c u hc=>?_⟩
 ·show(HA.t.set b z).get c=_
  rw[Tr.get_set,Tr.get_set];split
  ·rfl
  ·rename_i e;rw[yaa e]at hc;exact h.same c hc
 ·show(HA.t.set b z).get c=_/\_
  split at hc
  ·cases hc
  ·rename_i e
   obtain⟨g1,g2,g3⟩:=h.ext c u hc
   exact⟨by rw[Tr.get_set,yaa e];exact g1,by rw[Tr.get_set,yaa e];exact g2,g3⟩
 ·rw[Tr.get_set]at hc
  split at hc
  ·rename_i e;rw[e];exact g3
  ·exact h.lt _ _ hc
def zd2{H:xA}{l:Nat}{r:cL}(hl:256<=l)(h:H.t.get l=some (.loop r)):rI H l=some r:=by
 unfold rI;rw[h,tA,Nat.ble_eq_true_of_le hl];rfl
def z3e{base kf n:Nat}{st:eF}{tm:Tm}{i:Nat}{pl ps:List Nat}{vals args:List zA}{X:Xt}{HA:xA}{t:Tr rA}(ho:Ov base t X HA)(hk:st.tm.k=kf)(hkA:tm.k=kf)
  (ht:∀i v,st.tm.get i=some v->tm.get i=some v) (hv:z6u pl st=some vals) (hok:tC (fun p=>Nat.blt p st.tm.k&&Nat.blt p n && !aE p pl) ps=true) (h1:ps.length<=1) (hl:args.length=ps.length) :
  ∃tm',jQ n ps args tm=some tm'/\dE base X kf (fun i=>i) X (zvp kf ⟨i,tD pl ps,[]⟩ (vals++args)) tm' HA t:=by
 have old:∀(pl:List Nat) (vals rest:List zA) j v,jF (fun i=>st.tm.get i) pl=some vals->(zm7 (pl++ps) (vals++rest)).get j=some v->(j∈pl/\tm.get j=some v)\/(zm7 ps rest).get j=some v:=by
  intro pl;induction pl with
  | nil=>intro vals rest j v h hj;cases h;exact Or.inr hj
  | cons a pl ih=>
   intro vals rest j v h hj;rw[nK,sA]at h;obtain⟨u,g1,h⟩:=h
   rw[sA]at h;obtain⟨us,g2,h⟩:=h
   cases h;have hj:((zm7 (pl++ps) (us++rest)).set a u).get j=some v:=hj
   rw[Tr.get_set]at hj;split at hj
   ·rename_i e;cases hj;rw[e];exact Or.inl ⟨yby,ht _ _ g1⟩
   ·rcases ih us rest j v g2 hj with⟨a1,a2⟩ | a1
    ·exact Or.inl ⟨ybr _ a1,a2⟩
    ·exact Or.inr a1
 cases ps with
 | nil=>
  cases args with
  | cons _ _=>cases hl
  | nil=>
   refine⟨tm,rfl,ho,XLe.refl _,rfl,hkA,fun j v hj=>?_,fun j p h=>(by cases h),fun d l h=>?_,fun d _ l _ h=>?_⟩
   ·have hj:=(Tm.get_kv hj).2
    have hj:(zm7 (tD pl []) (vals++[])).get j=some v:=hj
    rw[mG]at hj;rcases old pl vals [] j v hv hj with⟨_,h⟩ | h
    ·exact h
    ·rw[show zm7 [] []=.leaf from rfl,Tr.get_leaf]at h;cases h
   ·rw[show(zvp kf ⟨i,tD pl [],[]⟩ (vals++[])).lo=.leaf from rfl,Tr.get_leaf]at h;cases h
   ·rw[show(zvp kf ⟨i,tD pl [],[]⟩ (vals++[])).lo=.leaf from rfl,Tr.get_leaf]at h;cases h
 | cons p ps=>
  cases ps with
  | cons _ _=>simp at h1
  | nil=>
   cases args with
   | nil=>cases hl
   | cons a args=>
    cases args with
    | cons _ _=>simp at hl
    | nil=>
     have hp:(bif (Nat.blt p st.tm.k&&Nat.blt p n && !aE p pl)then tC (fun p=>Nat.blt p st.tm.k&&Nat.blt p n && !aE p pl) []else false)=true:=hok
     cases hx:(Nat.blt p st.tm.k&&Nat.blt p n && !aE p pl)with
     | false=>rw[hx]at hp;cases hp
     | true=>
      simp only[ybb,ycp]at hx;obtain⟨⟨x1,x2⟩,x3⟩:=hx
      have x1:=xC.1 x1
      have x2:=xC.1 x2
      refine⟨putA n tm (some p) a,rfl,ho,XLe.refl _,rfl,by rw[zq5];exact hkA,fun j v hj=>?_,fun j p h=>(by cases h),fun d l h=>?_,fun d _ l _ h=>?_⟩
      ·have hj:=(Tm.get_kv hj).2
       have hj:(zm7 (tD pl [p]) (vals++[a])).get j=some v:=hj
       rw[mG]at hj;rw[pH];rcases old pl vals [a] j v hv hj with⟨hm,h⟩ | h
       ·rw[yaa]
        ·exact h
        ·rintro⟨e,_⟩
         cases e
         rw[show aE p pl=true from(kO _ _).2 hm]at x3
         cases x3
       ·have h:((zm7 [] []).set p a).get j=some v:=h
        rw[Tr.get_set]at h;split at h
        ·rename_i e;rw[yab ⟨by rw[e],by rw[e];exact x2⟩];exact h
        ·rw[show zm7 [] []=.leaf from rfl,Tr.get_leaf]at h;cases h
      ·rw[show(zvp kf ⟨i,tD pl [p],[]⟩ (vals++[a])).lo=.leaf from rfl,Tr.get_leaf]at h;cases h
      ·rw[show(zvp kf ⟨i,tD pl [p],[]⟩ (vals++[a])).lo=.leaf from rfl,Tr.get_leaf]at h;cases h
def zxy(hW:pP C A W)(hY:z56 C A W){f:Nat}{κ:KtT}{m:Kt}(hκ:∀X0,SKt C W J X0 kf Q κ m){i:Nat}{pl:List Nat}{fo:Operand}{ps:Array Nat}{id:Nat}{ops:Array Oper}{c:nD}
  (hone:∃c0,A.get f=some c0/\qW c0=some ⟨i,pl,fo,ps,id,ops,c⟩) (hJ:∀vals t Q,J i vals t Q->z59 C.base kf ⟨⟨i,tD pl ps.toList,[]⟩,z5r C (rD C A) f n ⟨i,pl,fo,ps,id,ops,c⟩⟩ vals t Q) :
  SK C W J X0 kf Q (zxz C n κ i pl fo ps.toList ops.toList c) (zM C (rD C A) f n m fo ps.toList (.region id ops false) (yF c)):=by
 intro st tm HA t X ν hst h;unfold zxz at h;rw[tK,xE]at h;obtain⟨hok,vals,hv,h⟩:=h
 rw[xE]at h;obtain⟨fv,hf,h256,h⟩:=h
 unfold zx0 at hok;simp only[ybb]at hok;obtain⟨⟨⟨hok1,hok2⟩,hok3⟩,hok4⟩:=hok
 have hok2:ps.toList.length<=1:=by have:=Nat.le_of_ble_eq_true hok2;rw[zD]at this;exact this
 have hok4:wN c=[]:=by
  cases hx:wN c with
  | nil=>rfl
  | cons _ _=>rw[hx]at hok4;cases hok4
 have ho:=hst.ov
 have hbase:=ho.base
 generalize hr:(⟨.ready,none,f,n,tm,ps.toList,.region id ops false,yF c,HA.next⟩:cL)=r at *
 have htn:t.get (HA.next+1)=none:=by
  cases hx:t.get (HA.next+1)with
  | none=>rfl
  | some y=>exact absurd (ho.lt _ _ hx) (by omega)
 have hyield:∀args t1 Q1,args.length=yB ps.toList->t1.get (HA.next+1)=some (.loop r)->J i (vals++args) (t1.del (HA.next+1)) (fun v t2=>t2.get (HA.next+1)=none->∃b,v=.bool b/\Q1 v (t2.set (HA.next+1) (.loop (zix b r))))->W (yo+(HA.next+1)) args t1 Q1:=by
  intro args t1 Q1 hla ht1 hj;refine hY _ _ _ _ fun X1 HA1 ho1=>?_
  rw[zmn,z7r];show rC C.base X1 Q1 (zdl C A (rD C A) (HA.next+1) args HA1)
  have hx1:=ho1.notX ht1
  have hov:=ho1.under ht1 (.loop (zpx r))
  obtain⟨tm',hs1,hs2⟩:=z3e (n:=n) (i:=i) hov hst.k hst.kA hst.tms hv hok1 hok2 (by rw[hla,zD])
  obtain⟨v,t2,HA2,X2,e1,e2,e3,e4⟩:=hJ _ _ _ hj _ _ _ _ _ hs2
  have hb2:X2 (HA.next+1)=some (.loop (zpx r)):=e3 _ _ (by unfold onX;rw[yab rfl])
  obtain⟨b,e4,e5⟩:=e4 (e2.ext _ _ hb2).2.1
  subst e4;obtain⟨c0,hc0,hc1⟩:=hone
  refine⟨.bool b,_,_,_,fU.2 ⟨r,tm',c0,⟨i,pl,fo,ps,id,ops,c⟩,(.bool b,HA2),zpx r,b,zd2 (by omega) (by rw[ho1.up ht1]),?_,?_,hc1,?_,?_,zd2 (by omega) (e2.ext _ _ hb2).1,rfl,rfl⟩,e2.back hb2 _,?_,e5⟩
  ·rw[<- hr];exact hs1
  ·rw[<- hr];exact hc0
  ·rw[<- hr];exact⟨rfl,rfl,rfl,rfl,hok3,hok4⟩
  ·rw[<- hr]at e1 ⊢;exact e1
  ·intro c y hc
   have hne:c≠HA.next+1:=fun e=>by rw[e,hx1]at hc;cases hc
   show(if c=HA.next+1 then none else X2 c)=some y
   rw[yaa hne];exact e3 _ _ (zk4 hx1 _ _ hc)
 have h:=h (HA.next+1) r htn (by omega) (by rw[<- hr]) (by rw[<- hr]) hyield
 rw[mO]at h;obtain⟨⟨g,aq⟩,hra,hw⟩:=h
 unfold zaf at hra;rw[sA]at hra;obtain⟨⟨qf,q1,q2⟩,hq,hra⟩:=hra
 cases qf with
 | yld l=>cases hra
 | func g'=>
  simp only[vB,ybb]at hra;obtain⟨⟨hg,hnp⟩,hra⟩:=hra
  cases hra;have hp:C.prims.get g=none:=by
   unfold npC at hnp
   cases hx:C.prims.get g with
   | none=>rfl
   | some u=>rw[hx]at hnp;cases hnp
  have hXd:X HA.next=none:=ho.nextX
  have ho1:Ov C.base t (onX X HA.next (.deferred (some []))) (newBlk HA (.deferred (some []))):=by
   refine⟨Nat.le_succ_of_le ho.base,fun b hb=>?_,fun b y hb=>?_,fun b y hb=>Nat.lt_succ_of_lt (ho.lt _ _ hb)⟩
   ·unfold onX at hb
    split at hb
    ·cases hb
    ·rename_i e
     show(HA.t.set HA.next _).get b=_
     rw[Tr.get_set,yaa e];exact ho.same b hb
   ·unfold onX at hb
    show(HA.t.set HA.next _).get b=_/\_/\b<HA.next+1
    split at hb
    ·rename_i e;cases hb;subst e;exact⟨by rw[Tr.get_set,yab rfl],ho.nextT,Nat.lt_succ_self _⟩
    ·rename_i e
     obtain⟨g1,g2,g3⟩:=ho.ext b y hb
     exact⟨by rw[Tr.get_set,yaa e];exact g1,g2,Nat.lt_succ_of_lt g3⟩
  have ho2:=ho1.newBlk (.loop r)
  obtain⟨v,t',HA2,X2,e1,e2,e3,e4⟩:=hW _ _ _ _ hw _ _ ho2
  rw[qV hg,hp]at e1;have e1:rD C A (.func g) (tD q1 (.func (.yld (HA.next+1)) [] []::q2)) (newBlk (newBlk HA (.deferred (some []))) (.loop r))=some (v,HA2):=e1
  have goal:∀r' (κ':KT) (m':Tm->xA->sB),t'.get (HA.next+1)=some (.loop r')->(!Nat.beq (LoopState.tag r'.state) 1)=true->(∀tm H,nR m r'.pending tm H=m' tm H)->(∀X0,SK C W J X0 kf Q κ' m')->qA C.base W J (κ' st) (t'.del (HA.next+1)) Q →
    rC C.base X0 Q (zM C (rD C A) f n m fo ps.toList (.region id ops false) (yF c) tm HA):=by
   intro r' κ' m' k1 k2 k3 k4 k5;have ho3:=e2.under k1 (.loop ⟨.exhausted,r'.pending,r'.fn,r'.n,r'.tm,r'.params,r'.assign,r'.body,r'.defers⟩)
   have hx2:=e2.notX k1
   have hXX:XLe X (onX X2 (HA.next+1) (.loop ⟨.exhausted,r'.pending,r'.fn,r'.n,r'.tm,r'.params,r'.assign,r'.body,r'.defers⟩)):=((zk4 hXd).trans e3).trans (zk4 hx2)
   have hd3:(onX X2 (HA.next+1) (.loop ⟨.exhausted,r'.pending,r'.fn,r'.n,r'.tm,r'.params,r'.assign,r'.body,r'.defers⟩)) HA.next=some (.deferred (some [])):=by
    refine(zk4 hx2) _ _ (e3 _ _ ?_)
    unfold onX;rw[yab rfl]
   have hX0d:X0 HA.next=none:=by
    cases hx:X0 HA.next with
    | none=>rfl
    | some y=>have:=hst.le _ _ hx;rw[hXd]at this;cases this
   have hl:=hst.later ho3 hXX
   have hl':dE C.base (onX X0 HA.next (.deferred (some []))) kf ν (onX X2 (HA.next+1) (.loop ⟨.exhausted,r'.pending,r'.fn,r'.n,r'.tm,r'.params,r'.assign,r'.body,r'.defers⟩)) st tm (endLoop HA2 (HA.next+1) r') (t'.del (HA.next+1)):=by
    refine⟨hl.ov,?_,hl.k,hl.kA,hl.tms,hl.ads,fun d l hd=>?_,hl.inj⟩
    ·intro b y hb
     unfold onX at hb;split at hb
     ·rename_i e;cases hb;rw[e];exact hd3
     ·exact hl.le _ _ hb
    ·obtain⟨g1,g2,g3⟩:=hl.lo d l hd
     refine⟨?_,g2,g3⟩
     obtain⟨c',g4,_⟩:=(hst.lo d l hd).2.2
     unfold onX;rw[yaa (fun e=>by rw[e,hXd]at g4;cases g4)]
     exact g1
   obtain⟨w,t4,HA4,X4,f1,f2,f3,f4⟩:=k4 _ _ _ _ _ _ _ hl' k5
   have hd4:X4 HA.next=some (.deferred (some [])):=f3 _ _ (by unfold onX;rw[yab rfl])
   refine⟨w,t4,_,_,?_,f2.setX hd4 (.deferred none),?_,f4⟩
   ·unfold zM
    rw[bC (ziq hst).1 hf,tA,hq,tA]
    show(aA (zH (C.prims.get g)) _)=_
    rw[hp];show(ob (rD C A (.func g) _ (newBlk (newBlk HA (.deferred (some []))) (.loop ⟨.ready,none,f,n,tm,ps.toList,.region id ops false,yF c,HA.next⟩))) _)=_
    rw[hr,e1,tA,zd2 (by omega) (e2.up k1),tA,k2]
    show(ob (nR m r'.pending tm _) _)=_
    rw[k3];show(ob (m' tm (endLoop HA2 (HA.next+1) r')) _)=_
    rw[f1,tA];have:wQ HA4 HA.next=some (some []):=by
     unfold wQ;rw[(f2.ext _ _ hd4).1,tA,Nat.ble_eq_true_of_le (by omega:256<=HA.next)]
     rfl
    simp only[this,tA];rfl
   ·intro b y hb
    have hne:b≠HA.next:=fun e=>by rw[e,hX0d]at hb;cases hb
    show(if b=HA.next then _ else X4 b)=some y
    rw[yaa hne];exact f3 _ _ (zk4 hX0d _ _ hb)
  rcases e4 with⟨k1,k2⟩ | ⟨k1,k2⟩
  ·exact goal r κ.norm m.norm k1 (by rw[<- hr];rfl) (fun _ _=>by rw[<- hr];rfl) (fun X0=>(hκ X0).norm) k2
  ·exact goal _ κ.ret m.ret k1 (by rw[<- hr];rfl) (fun _ _=>by rw[<- hr];rfl) (fun X0=>(hκ X0).ret) k2
def ROk (A:Tr nD)(f:Nat)(c:nD):Prop:=∀q∈wN c,∃c0,A.get f=some c0/\qW c0=some q
def ROk.l{a b:List zp5}{P:zp5->Prop}(h:∀q∈tD a b,P q):(∀q∈a,P q)/\∀q∈b,P q:=by
 rw[mG]at h;exact⟨fun q hq=>h q (ydc _ hq),fun q hq=>h q (ycf _ hq)⟩
def zc7(hW:pP C A W)(hY:z56 C A W){la:List Nat}{f:Nat}:∀(c:nD) (κ:KtT) (m:Kt),ROk A f c->(∀X0,SKt C W J X0 kf Q κ m)->JOk C.base kf J (bJ C (rD C A) f n c m)->∀X0,SK C W J X0 kf Q (znq C la f n c κ) (pD C (rD C A) f n c m):=by
 intro c;induction c with
 | skip=>intro κ m _ hκ _ X0;exact(hκ X0).norm
 | region id ops d=>intro κ m _ hκ _ X0;exact zth hW (hκ X0).norm
 | seq a b iha ihb=>
  intro κ m hR hκ hJ;exact iha ⟨znq C la f n b κ,κ.exit,κ.ret⟩ ⟨pD C (rD C A) f n b m,m.exit,m.ret⟩ (ROk.l hR).1 (fun X0=>⟨ihb κ m (ROk.l hR).2 hκ (fun d hd=>hJ d (ycf _ hd)) X0,(hκ X0).exit,(hκ X0).ret⟩) fun d hd=>hJ d (ydc _ hd)
 | cond x a b iha ihb=>
  intro κ m hR hκ hJ X0 st tm HA t X ν hst h;have ha:=iha κ m (ROk.l hR).1 hκ (fun d hd=>hJ d (ydc _ hd)) X0
  have hb:=ihb κ m (ROk.l hR).2 hκ (fun d hd=>hJ d (ycf _ hd)) X0
  have h:qA C.base W J (aB (ob (ev x (.now st.tm)) zA.asBool) fun b'=>bif z61 x st.lit then Bool.rec (motive:=fun _=>T) (znq C la f n b κ st) (znq C la f n a κ st) b' else .ite b' (znq C la f n a κ st) (znq C la f n b κ st)) t Q:=h
  rw[xE]at h;obtain⟨w,h1,h2⟩:=h
  rw[sA]at h1;obtain⟨v,h3,h4⟩:=h1
  show rC C.base X0 Q (ob (ob (ev x (.now tm)) zA.asBool) fun t=>Bool.rec (motive:=fun _=>sB) (pD C (rD C A) f n b m tm HA) (pD C (rD C A) f n a m tm HA) t)
  refine rC.ob (a:=w) (by rw[bC (ziq hst).1 h3];exact h4) ?_
  have h2:if w=true then qA C.base W J (znq C la f n a κ st) t Q else qA C.base W J (znq C la f n b κ st) t Q:=by
   rw[zC]at h2;split at h2
   ·cases w<;>exact h2
   ·exact h2
  cases w with
  | true=>exact ha _ _ _ _ _ _ hst h2
  | false=>exact hb _ _ _ _ _ _ hst h2
 | block id c ih=>
  intro κ m hR hκ hJ;refine ih ⟨κ.norm,fun i st=>Bool.rec (motive:=fun _=>T) (κ.exit i st) (κ.norm st) (Nat.beq id i),κ.ret⟩ ⟨m.norm,fun i tm H=>Bool.rec (motive:=fun _=>sB) (m.exit i tm H) (m.norm tm H) (Nat.beq id i),m.ret⟩ hR (fun X0=>⟨(hκ X0).norm,fun i=>?_,(hκ X0).ret⟩) hJ
  intro st tm HA t X ν hst h;have h:qA C.base W J (Bool.rec (motive:=fun _=>T) (κ.exit i st) (κ.norm st) (Nat.beq id i)) t Q:=h
  show rC C.base X0 Q (Bool.rec (motive:=fun _=>sB) (m.exit i tm HA) (m.norm tm HA) (Nat.beq id i))
  cases hb:Nat.beq id i with
  | true=>rw[hb]at h;exact(hκ X0).norm _ _ _ _ _ _ hst h
  | false=>rw[hb]at h;exact(hκ X0).exit i _ _ _ _ _ _ hst h
 | loop p c ih=>intro κ m _ hκ hJ X0;exact zo0 hJ yby
 | exit id=>intro κ m _ hκ _ X0;exact(hκ X0).exit id
 | ret=>intro κ m _ hκ _ X0;exact(hκ X0).ret
 | cut p c ih=>intro κ m _ hκ hJ X0;exact zo0 hJ yby
 | range i pl fo ps id ops c ih=>intro κ m hR hκ hJ X0;exact zxy hW hY hκ (hR _ yby) fun vals t Q h=>hJ _ yby vals t Q h
def PtOk (C:pA)(W J:vI)(kf:Nat)(l:List PtT)(d:PtD):Prop:=∃q∈l,q.p=d.p/\∀vals t Q,qA C.base W J (q.tree vals) t Q->z59 C.base kf d vals t Q
def keptOk(kf:Nat):nD->Bool
 | .seq a b=>keptOk kf a&&keptOk kf b
 | .cond _ a b=>keptOk kf a&&keptOk kf b
 | .block _ c=>keptOk kf c
 | .loop p c=>p.kept.all (fun i=>Nat.blt i kf)&&keptOk kf c
 | .cut p c=>p.kept.all (fun i=>Nat.blt i kf)&&keptOk kf c
 | .range _ _ _ _ _ _ c=>keptOk kf c
 | _=>true
def zx8(hW:pP C A W)(hY:z56 C A W){la:List Nat}{f:Nat}:∀(c:nD) (κ:KtT) (m:Kt),ROk A f c->keptOk kf c=true->(∀X0 Q,SKt C W J X0 kf Q κ m)->JOk C.base kf J (bJ C (rD C A) f n c m)->∀d∈bJ C (rD C A) f n c m,PtOk C W J kf (aR C la f n kf c κ) d:=by
 have up:∀ {l l':List PtT} {d:PtD},PtOk C W J kf l d->(∀q∈l,q∈l')->PtOk C W J kf l' d:=fun⟨q,h1,h2⟩ hl=>⟨q,hl q h1,h2⟩
 intro c;induction c with
 | skip=>intro κ m _ _ _ _ d hd;cases hd
 | region id ops dr=>intro κ m _ _ _ _ d hd;cases hd
 | seq a b iha ihb=>
  intro κ m hR hk hκ hJ d hd;unfold keptOk at hk;rw[ybb]at hk;have e:aR C la f n kf (.seq a b) κ=aR C la f n kf a ⟨znq C la f n b κ,κ.exit,κ.ret⟩++aR C la f n kf b κ:=mG _ _
  rw[e];have hJa:JOk C.base kf J (bJ C (rD C A) f n a ⟨pD C (rD C A) f n b m,m.exit,m.ret⟩):=fun d hd=>hJ d (ydc _ hd)
  have hJb:JOk C.base kf J (bJ C (rD C A) f n b m):=fun d hd=>hJ d (ycf _ hd)
  rcases yaf.1 hd with hd | hd
  ·exact up (iha ⟨znq C la f n b κ,κ.exit,κ.ret⟩ ⟨pD C (rD C A) f n b m,m.exit,m.ret⟩ (ROk.l hR).1 hk.1 (fun X0 Q=>⟨zc7 hW hY b κ m (ROk.l hR).2 (fun X0=>hκ X0 Q) hJb X0,(hκ X0 Q).exit,(hκ X0 Q).ret⟩) hJa d hd) fun q hq=>ydc _ hq
  ·exact up (ihb _ _ (ROk.l hR).2 hk.2 hκ hJb d hd) fun q hq=>ycf _ hq
 | cond x a b iha ihb=>
  intro κ m hR hk hκ hJ d hd;unfold keptOk at hk;rw[ybb]at hk;have e:aR C la f n kf (.cond x a b) κ=aR C la f n kf a κ++aR C la f n kf b κ:=mG _ _
  rw[e];rcases yaf.1 hd with hd | hd
  ·exact up (iha _ _ (ROk.l hR).1 hk.1 hκ (fun d hd=>hJ d (ydc _ hd)) d hd) fun q hq=>ydc _ hq
  ·exact up (ihb _ _ (ROk.l hR).2 hk.2 hκ (fun d hd=>hJ d (ycf _ hd)) d hd) fun q hq=>ycf _ hq
 | block id c ih=>
  intro κ m hR hk hκ hJ d hd;refine ih ⟨κ.norm,fun i st=>Bool.rec (motive:=fun _=>T) (κ.exit i st) (κ.norm st) (Nat.beq id i),κ.ret⟩ ⟨m.norm,fun i tm H=>Bool.rec (motive:=fun _=>sB) (m.exit i tm H) (m.norm tm H) (Nat.beq id i),m.ret⟩ hR hk (fun X0 Q=>⟨(hκ X0 Q).norm,fun i=>?_,(hκ X0 Q).ret⟩) hJ d hd
  intro st tm HA t X ν hst h;have h:qA C.base W J (Bool.rec (motive:=fun _=>T) (κ.exit i st) (κ.norm st) (Nat.beq id i)) t Q:=h
  show rC C.base X0 Q (Bool.rec (motive:=fun _=>sB) (m.exit i tm HA) (m.norm tm HA) (Nat.beq id i))
  cases hb:Nat.beq id i with
  | true=>rw[hb]at h;exact(hκ X0 Q).norm _ _ _ _ _ _ hst h
  | false=>rw[hb]at h;exact(hκ X0 Q).exit i _ _ _ _ _ _ hst h
 | loop p c ih=>
  intro κ m hR hk hκ hJ d hd;unfold keptOk at hk;rw[ybb,ycb]at hk;have hJc:JOk C.base kf J (bJ C (rD C A) f n c ⟨pD C (rD C A) f n (.loop p c) m,m.exit,m.ret⟩):=fun d hd=>hJ d (ybr _ hd)
  have hκ':∀X0 Q,SKt C W J X0 kf Q ⟨zui p,κ.exit,κ.ret⟩ ⟨pD C (rD C A) f n (.loop p c) m,m.exit,m.ret⟩:=fun X0 Q=>⟨zo0 hJ yby,(hκ X0 Q).exit,(hκ X0 Q).ret⟩
  rcases ybs.1 hd with rfl | hd
  ·refine⟨_,yby,rfl,fun vals t Q hw X0 X HA tm ν hst=>?_⟩
   show rC C.base X0 Q (pD C (rD C A) f n (.loop p c) m tm HA)
   rw[z5j];exact zc7 hW hY c _ _ hR (fun X0=>hκ' X0 Q) hJc X0 _ _ _ _ _ _ (hst.keep fun i hi=>xC.1 (hk.1 i hi)) hw
  ·exact up (ih ⟨zui p,κ.exit,κ.ret⟩ ⟨pD C (rD C A) f n (.loop p c) m,m.exit,m.ret⟩ hR hk.2 hκ' hJc d hd) fun q hq=>ybr _ hq
 | exit id=>intro κ m _ _ _ _ d hd;cases hd
 | ret=>intro κ m _ _ _ _ d hd;cases hd
 | cut p c ih=>
  intro κ m hR hk hκ hJ d hd;unfold keptOk at hk;rw[ybb,ycb]at hk;have hJc:JOk C.base kf J (bJ C (rD C A) f n c m):=fun d hd=>hJ d (ybr _ hd)
  rcases ybs.1 hd with rfl | hd
  ·refine⟨_,yby,rfl,fun vals t Q hw X0 X HA tm ν hst=>?_⟩
   exact zc7 hW hY c _ _ hR (fun X0=>hκ X0 Q) hJc X0 _ _ _ _ _ _ (hst.keep fun i hi=>xC.1 (hk.1 i hi)) hw
  ·exact up (ih _ _ hR hk.2 hκ hJc d hd) fun q hq=>ybr _ hq
 | range i pl fo ps id ops c ih=>
  intro κ m hR hk hκ hJ d hd;have hR':ROk A f c:=fun q hq=>hR q (ybr _ hq)
  have hJc:JOk C.base kf J (bJ C (rD C A) f n c rdK):=fun d hd=>hJ d (ybr _ hd)
  rcases ybs.1 hd with rfl | hd
  ·refine⟨_,yby,rfl,fun vals t Q hw X0 X HA tm ν hst=>?_⟩
   exact zc7 hW hY (.seq (.region id ops false) c) rdT rdK (fun q hq=>hR' q hq) (fun _=>z6w) (fun d hd=>hJc d hd) X0 _ _ _ _ _ _ hst hw
  ·exact up (ih rdT rdK hR' hk (fun _ _=>z6w) hJc d hd) fun q hq=>ybr _ hq
end
end
section
def Tr.mapT{α β:Type}(f:α->β)(t:Tr α):Tr β:=Tr.rec (motive:=fun _=>Tr β) .leaf (fun _ v _ l r=>.node l (match v with | some a=>some (f a) | none=>none) r) t
def Tr.get_mapT{α β:Type}(f:α->β):∀(t:Tr α) (n:Nat),(t.mapT f).get n=(t.get n).map f:=by
 intro t;induction t with
 | leaf=>intro n;rfl
 | node l v r ihl ihr=>
  intro n;show(Tr.node (l.mapT f) (match v with | some a=>some (f a) | none=>none) (r.mapT f)).get n=_
  rw[Tr.get_node,Tr.get_node];split
  ·cases v<;>rfl
  ·split
   ·exact ihl _
   ·exact ihr _
def eL(F:Tr uB):Tr nD:=F.mapT uB.code
def fnB (f kf:Nat)(c:nD):Bool:=Nat.blt f yo&&(keptOk kf c&&(match wN c with | []=>true | [_]=>true | _=>false))
structure pB (C:pA) (F:Tr uB) (f:Nat) (fn:Func) (kf:Nat) (A:uB):Prop where
 isF:F.get f=some A
 isFn:C.fns.get f=some fn
 isK:C.ks.get f=some kf
 prim:zH (C.prims.get f)=true
 kept:fnB f kf A.code=true
 body:zH fn.body=false
def pB.lt{C:pA}{F:Tr uB}{f:Nat}{fn:Func}{kf:Nat}{A:uB}(h:pB C F f fn kf A):Nat.blt f yo=true:=by
 have:=h.kept;unfold fnB at this;rw[ybb]at this;exact this.1
def pB.keptOk{C:pA}{F:Tr uB}{f:Nat}{fn:Func}{kf:Nat}{A:uB}(h:pB C F f fn kf A):keptOk kf A.code=true:=by
 have:=h.kept;unfold fnB at this;simp only[ybb]at this;exact this.2.1
def pB.code{C:pA}{F:Tr uB}{f:Nat}{fn:Func}{kf:Nat}{A:uB}(h:pB C F f fn kf A):(eL F).get f=some A.code:=by unfold eL;rw[Tr.get_mapT,h.isF];rfl
def pB.one{C:pA}{F:Tr uB}{f:Nat}{fn:Func}{kf:Nat}{A:uB}(h:pB C F f fn kf A):ROk (eL F) f A.code:=by
 have:=h.kept
 unfold fnB at this;simp only[ybb]at this;intro q hq;refine⟨_,h.code,?_⟩
 unfold qW
 cases hx:wN A.code with
 | nil=>rw[hx]at hq;cases hq
 | cons a l=>
  cases l with
  | nil=>rw[hx,ydd]at hq;rw[hq]
  | cons _ _=>rw[hx]at this;cases this.2.2
def Wc (C:pA)(F:Tr uB):vI:=fun f args t Q=>∀X HA,Ov C.base t X HA->rC C.base X Q (zpt C (eL F) f args HA)
def Wc.mono{C:pA}{F:Tr uB}{f:Nat}{args:List zA}{t:Tr rA}{Q Q':uC}(h:Wc C F f args t Q)(k:∀v t',Q v t'->Q' v t'):Wc C F f args t Q':=fun X HA ho=>(h X HA ho).mono k
def Tr.bound{α:Type}(t:Tr α):∃n,∀b y,t.get b=some y->b<n:=by
 induction t with
 | leaf=>exact⟨0,fun b y h=>by rw[Tr.get_leaf]at h;cases h⟩
 | node l v r ihl ihr=>
  obtain⟨n,hn⟩:=ihl
  obtain⟨m,hm⟩:=ihr
  refine⟨2*n+2*m+3,fun b y h=>?_⟩
  rw[Tr.get_node]at h;split at h
  ·omega
  ·split at h
   ·have:=hn _ _ h;omega
   ·have:=hm _ _ h;omega
def PV (C:pA)(F:Tr uB)(f:Nat)(args:List zA)(t:Tr rA)(v:zA):Prop:=Wc C F f args t fun v' t'=>v'=v/\t'=t
def PV.unique{C:pA}{F:Tr uB}{f:Nat}{args:List zA}{t:Tr rA}{v v':zA}(h:PV C F f args t v)(h':PV C F f args t v'):v=v':=by
 obtain⟨n,hn⟩:=Tr.bound t
 have ho:Ov C.base t (fun _=>none) ⟨C.base+n,t⟩:=⟨Nat.le_add_right _ _,fun _ _=>rfl,fun _ _ h=>(by cases h),fun b y hb=>Nat.lt_of_lt_of_le (hn b y hb) (Nat.le_add_left _ _)⟩
 obtain⟨u,t',HA',X',h1,_,_,h2,_⟩:=h _ _ ho
 obtain⟨u',t'',HA'',X'',h3,_,_,h4,_⟩:=h' _ _ ho
 rw[h1]at h3
 cases h3;rw[<- h2,<- h4]
def lB (C:pA)(F:Tr uB)(f:Nat)(args:List zA)(t:Tr rA):Option zA:=@dite _ (∃v,PV C F f args t v) (Classical.propDecidable _) (fun h=>some h.choose) (fun _=>none)
def jC{C:pA}{F:Tr uB}{f:Nat}{args:List zA}{t:Tr rA}{v:zA}:lB C F f args t=some v ↔ PV C F f args t v:=by
 unfold lB;constructor
 ·intro h
  by_cases hx:∃v,PV C F f args t v
  ·rw[dif_pos hx]at h;cases h;exact hx.choose_spec
  ·rw[dif_neg hx]at h;cases h
 ·intro h
  have hx:∃v,PV C F f args t v:=⟨v,h⟩
  rw[dif_pos hx,PV.unique hx.choose_spec h]
def Wq (C:pA)(F:Tr uB)(pure:Nat->Bool):vI:=fun f args t R=>if (pure f&&Nat.blt f yo)=true then uD (lB C F f args t) fun v=>R v t else Wc C F f args t R
def Wq_ok{C:pA}{F:Tr uB}{pure:Nat->Bool}:pP C (eL F) (Wq C F pure):=by
 intro f args t R h X HA ho;unfold Wq at h;split at h
 ·rw[mO]at h
  obtain⟨v,h1,h2⟩:=h
  exact((jC.1 h1) X HA ho).mono fun v' t' hh=>by rw[hh.1,hh.2];exact h2
 ·exact h X HA ho
def z7y{C:pA}{F:Tr uB}{pure:Nat->Bool}:z56 C (eL F) (Wq C F pure):=by
 intro l args t Q h;unfold Wq;have:Nat.blt (yo+l) yo=false:=Bool.eq_false_iff.2 fun e=>by have:=xC.1 e;omega
 rw[this,yay,yaa (by simp)]
 exact h
def Jq (C:pA)(F:Tr uB)(f:Nat):vI:=fun i vals t Q=>∀fn kf A,pB C F f fn kf A->∀d∈bJ C (rD C (eL F)) f fn.ntmps A.code (z2b C fn),d.p.id=i->z59 C.base kf d vals t Q
def Jq_ok{C:pA}{F:Tr uB}{f:Nat}{fn:Func}{kf:Nat}{A:uB}(h:pB C F f fn kf A):JOk C.base kf (Jq C F f) (bJ C (rD C (eL F)) f fn.ntmps A.code (z2b C fn)):=
 fun d hd _ _ _ hJ=>hJ fn kf A h d hd rfl
section
variable {W J:vI}{t:Tr rA}{X X0:Xt}{HA:xA}{C:pA}{A:Tr nD}{ν:Nat->Nat}{Q:uC}{kf n:Nat}{st:eF}{tm:Tm}
def z8y(hst:dE C.base X0 kf ν X st tm HA t):∀(l:List ResultVar) (K:List zA->T),qA C.base W J (resT C st l K) t Q->∃vs,gQ C HA tm l=some vs/\qA C.base W J (K vs) t Q:=by
 intro l;induction l with
 | nil=>intro K h;exact⟨[],rfl,h⟩
 | cons r l ih=>
  intro K h
  cases r with
  | tmp i=>
   have h:qA C.base W J (aB (st.tm.get i) fun v=>resT C st l fun l=>K (v::l)) t Q:=h
   rw[xE]at h;obtain⟨v,h1,h2⟩:=h
   obtain⟨vs,h3,h4⟩:=ih _ h2
   refine⟨v::vs,?_,h4⟩
   show jF (dR C HA tm) _=_
   rw[nK];show ob (tm.get i) _=_
   rw[hst.tms _ _ h1,tA];have h3:jF (dR C HA tm) l=some vs:=h3
   rw[h3];rfl
  | cell a ty=>
   have h:qA C.base W J (match gH a st.ad with
    | some p=>aB (st.lo.get p.1) fun m=>aB (C.tys.get ty) fun y=>gdT (Nat.ble (p.2+y.size) (yB m)) (aB (nL C ty m p.2) fun v=>resT C st l fun l=>K (v::l))
    | none=>aB (st.tm.get a) fun a=>.light (fun m=>oA C ty ⟨0,m⟩ a) fun v=>resT C st l fun l=>K (v::l)) t Q:=h
   have bD:∀ {u v:zA},tm.get a=some u->oA C ty HA u=some v->qA C.base W J (resT C st l fun l=>K (v::l)) t Q->∃vs,gQ C HA tm (.cell a ty::l)=some vs/\qA C.base W J (K vs) t Q:=by
    intro u v h1 h2 h3;obtain⟨vs,h4,h5⟩:=ih _ h3
    refine⟨v::vs,?_,h5⟩
    show jF (dR C HA tm) _=_
    rw[nK];have e:dR C HA tm (.cell a ty)=some v:=by
     show(ob (ob (tm.get a) zA.asPtr) fun p=>ob (C.tys.get ty) fun ty=>ob (oD HA p.1) fun c=>rN ty c.1 p.2)=some v
     unfold oA at h2;rw[h1,tA];exact h2
    have h4:jF (dR C HA tm) l=some vs:=h4
    rw[e,tA,h4];rfl
   split at h
   ·rename_i p hp
    simp only[xE,tK]at h;obtain⟨m,h1,y,h2,h3,v,h4,h5⟩:=h
    exact bD (hst.ads _ _ hp) (zrl hst.ov hst.lo h1 h2 h3 h4) h5
   ·simp only[xE,oU]at h
    obtain⟨u,h1,v,h2,h3⟩:=h
    exact bD (hst.tms _ _ h1) (kV hst.ov.le h2) h3
def z0w{fn:Func}:SK C W J X0 kf Q (endT C fn) (endK C fn):=by
 intro st tm HA t X ν hst h;obtain⟨vs,h1,h2⟩:=z8y hst _ _ h
 unfold endK;exact rC.ob h1 ⟨_,t,HA,X,rfl,hst.ov,hst.le,h2⟩
def zwl{fn:Func}:SKt C W J X0 kf Q (topT C fn) (z2b C fn):=⟨z0w,fun _ _ _ _ _ _ _ _ h=>h.elim,z0w⟩
end
section
variable {C:pA}{F:Tr uB}{f:Nat}{fn:Func}{kf:Nat}{A:uB}{pure:Nat->Bool}{t:Tr rA}{Q:uC}
def zza4(h:pB C F f fn kf A){args:List zA}(hl:(Nat.ble (yB args) kf&&Nat.ble (yB args) fn.ntmps)=true)(hw:qA C.base (Wq C F pure) (Jq C F f) (entT C fn kf f A args) t Q):Wc C F f args t Q:=by
 intro X HA ho;have hA:=h.code
 obtain⟨body,hb⟩:∃b,fn.body=some b:=by
  cases hx:fn.body with
  | none=>have:=h.body;rw[hx]at this;cases this
  | some b=>exact⟨b,rfl⟩
 have he:lJ C f args false=some ⟨[.code body],⟨kf,Tr.ofList args,[]⟩,⟨f,fn.ntmps,[],.run,false,none⟩⟩:=by
  unfold lJ;rw[h.isFn,tA,hb,tA,h.isK,tA,hl];rfl
 have hp:C.prims.get f=none:=by
  cases hx:C.prims.get f with
  | none=>rfl
  | some g=>have:=h.prim;rw[hx]at this;cases this
 rw[qV h.lt,hp];show rC C.base X Q (rD C (eL F) (.func f) args HA)
 rw[z7r];show rC C.base X Q (zvr C (eL F) (rD C (eL F)) f args HA)
 unfold zvr;refine rC.ob hA (rC.ob h.isFn (rC.ob he ?_))
 have hst:dE C.base X kf (fun i=>i) X ⟨⟨kf,Tr.ofList args,[]⟩,[],.leaf,[]⟩ ⟨kf,Tr.ofList args,[]⟩ HA t:=
  ⟨ho,XLe.refl _,rfl,rfl,fun _ _ h=>h,fun _ _ h=>(by cases h),fun d l h=>(by rw[Tr.get_leaf]at h;cases h),fun d _ l _ h=>(by rw[Tr.get_leaf]at h;cases h)⟩
 exact zc7 Wq_ok z7y A.code (topT C fn) (z2b C fn) h.one (fun _=>zwl) (Jq_ok h) _ _ _ _ _ _ _ hst hw
def Jq_of(h:pB C F f fn kf A){i:Nat}{vals:List zA}{l:List T}(hp:ztz (ptsT C fn kf f A) i vals=l)(hw:∀T∈l,qA C.base (Wq C F pure) (Jq C F f) T t Q):Jq C F f i vals t Q:=by
 intro fn' kf' A' h' d hd hi;have e1:=h.isFn;rw[h'.isFn]at e1;cases e1
 have e2:=h.isK;rw[h'.isK]at e2;cases e2
 have e3:=h.isF;rw[h'.isF]at e3;cases e3
 obtain⟨q,h1,h2,h3⟩:=zx8 (W:=Wq C F pure) Wq_ok z7y A.code (topT C fn) (z2b C fn) h.one h.keptOk (fun _ _=>zwl) (Jq_ok h) d hd
 refine h3 vals t Q (hw _ ?_)
 subst hp;have key:∀(l:List PtT),q∈l->q.tree vals∈ztz l i vals:=by
  intro l;induction l with
  | nil=>intro h;cases h
  | cons p l ih=>
   intro hm;show q.tree vals∈(bif Nat.beq p.p.id i then p.tree vals::ztz l i vals else ztz l i vals)
   rw[zC];rcases ybs.1 hm with e | hm
   ·subst e
    rw[yab (by rw[h2];exact fB.2 hi)]
    exact yby
   ·split
    ·exact ybr _ (ih hm)
    ·exact ih hm
 exact key _ h1
def Jq_of1(h:pB C F f fn kf A){i:Nat}{vals:List zA}{T:T}(hp:ztz (ptsT C fn kf f A) i vals=[T])(hw:qA C.base (Wq C F pure) (Jq C F f) T t Q):Jq C F f i vals t Q:=
 Jq_of h hp fun T' hT=>by rw[ydd.1 hT];exact hw
def Jq.mono{i:Nat}{vals:List zA}{Q':uC}(h:Jq C F f i vals t Q)(k:∀v t',Q v t'->Q' v t'):Jq C F f i vals t Q':=
 fun fn kf A hf d hd hi X0 X HA tm ν hst=>(h fn kf A hf d hd hi X0 X HA tm ν hst).mono k
def Wc_pv{args:List zA}{v:zA}(h:lB C F f args t=some v)(hq:Q v t):Wc C F f args t Q:=(jC.1 h).mono fun _ _ hh=>by rw[hh.1,hh.2];exact hq
def zig{g:List zA->xA->Option zA}(hg:C.prims.get f=some (oK g)){args:List zA}{v:zA}(h:∀H,g args H=some v)(hf:Nat.blt f yo=true:=by rfl):lB C F f args t=some v:=by
 refine jC.2 fun X HA ho=>?_
 rw[qV hf,hg];exact⟨v,t,HA,X,by simp only[oK,h HA,tA],ho,XLe.refl _,rfl,rfl⟩
def nJ{args:List zA}{v:zA}(h:Wc C F f args t fun v' t'=>v'=v/\∀b y,t.get b=some y->t'.get b=some y):lB C F f args t=some v:=by
 refine jC.2 fun X HA ho=>?_
 obtain⟨u,t',HA',X',h1,h2,h3,h4,h5⟩:=h X HA ho
 refine⟨u,t,HA',fun b=>match t.get b with | some _=>none | none=>HA'.t.get b,h1,⟨h2.base,?_,?_,?_⟩,?_,h4,rfl⟩
 ·intro b hb
  cases hg:t.get b with
  | some y=>rw[h2.up (h5 b y hg)]
  | none=>simp only[hg]at hb;exact hb
 ·intro b y hb
  cases hg:t.get b with
  | some y=>simp only[hg]at hb;cases hb
  | none=>
   simp only[hg]at hb;refine⟨hb,rfl,?_⟩
   cases hx:X' b with
   | some z=>exact(h2.ext b z hx).2.2
   | none=>rw[h2.same b hx]at hb;exact h2.lt b y hb
 ·intro b y hb;exact h2.lt b y (h5 b y hb)
 ·intro b y hb
  have hn:=(ho.ext b y hb).2.1
  simp only[hn];exact(h2.ext b y (h3 b y hb)).1
end
def zpr{P:Program}{C:pA}{F:Tr uB}{B N:Nat}{I:World->Prop}{μ:Mu}{w:World}(hS:Sim P C B N I)(hI:I w)(hA:pU C (eL F)){f:Nat}(hp:C.prims.get f=none){args:List zA}{args':Array Value}{H:xA}{Q:uC}(hbase:C.base<=H.next)(hlt:∀b y,H.t.get b=some y->b<H.next)(hH:xB B N μ H w)(hl:wB μ args args'.toList)
  (h:Wc C F f args H.t Q) (hf:Nat.blt f yo=true:=by rfl):Calls P f args' w fun e w'=>∃v v' t' μ',e=.returned v'/\μ.lw μ'/\uA μ' v v'/\Q v t'/\Below N w w':=by
 obtain⟨v,t',HA',X',h1,h2,h3,h4⟩:=h (fun _=>none) H ⟨hbase,fun _ _=>rfl,fun _ _ h=>(by cases h),hlt⟩
 rw[qV hf,hp]at h1;intro base;obtain⟨e,w',b,⟨v',μ',g1,g2,g3,g4,g5⟩,g6⟩:=zmk hS hI hA hH hl h1 base
 exact⟨e,w',b,⟨v,v',t',μ',g1,g2,g3,h4,g5⟩,g6⟩
end
section
def piOf (i:Nat)(l:List (Nat × PI)):Option PI:=List.rec (motive:=fun _=>Option PI) none (fun a _ g=>bif Nat.beq i a.1 then some a.2 else g) l
def cutP (p:Option PI)(c:nD):nD:=
 match p with
 | some p=>.cut p c
 | none=>c
def z9j(p:Option PI)(c:nD):nD:=
 match p with
 | some p=>.loop p c
 | none=>.loop ⟨0,[],[]⟩ c
def rangeP(p:Option PI)(f:Operand)(ps:Array Nat)(a:Code)(c:nD):nD:=
 match a with
 | .region id ops _=>.range (match p with | some p=>p.id | none=>0) (match p with | some p=>p.pl | none=>[]) f ps id ops c
 | _=>.skip
def zr0:Code->Bool
 | .region _ _ d => !d
 | _=>false
def pR(rt lt:List (Nat × PI))(c:Code):Nat->nD:=
 Code.rec (motive:=fun _=>Nat->nD)
  (fun _=>.skip)
  (fun id ops d _=>cutP (piOf id rt) (.region id ops d))
  (fun _ _ ga gb k=>.seq (ga k) (gb k))
  (fun c _ _ gx gy k=>.cond c (gx k) (gy k))
  (fun id _ g _=>.block id (g id))
  (fun _ g k=>z9j (piOf k lt) (g k))
  (fun f ps a _ _ gb k=>rangeP (piOf k lt) f ps a (gb k))
  (fun id _=>.exit id)
  (fun _ _ _=>.skip)
  (fun _ _=>.skip)
  (fun _ _=>.skip)
  (fun _=>.ret)
  (fun _ _=>.skip) c
def jB(rt lt:List (Nat × PI))(k:Nat)(c:Code):nD:=pR rt lt c k
def yM(c:Code):Bool:=
 Code.rec (motive:=fun _=>Bool) true (fun _ _ _=>true) (fun _ _ a b=>bif a then b else false) (fun _ _ _ a b=>bif a then b else false) (fun _ _ a=>a) (fun _ a=>a)
  (fun _ _ a _ _ b=>bif zr0 a then b else false) (fun _=>true) (fun _ _=>false) (fun _=>false) (fun _=>false) true (fun _=>false) c
def zuy(p:Option PI)(c:nD):yF (cutP p c)=yF c:=by cases p<;>rfl
def zpd(p:Option PI)(c:nD):yF (z9j p c)=.loop (yF c):=by cases p<;>rfl
def zpe{rt lt:List (Nat × PI)}:∀(c:Code) (k:Nat),yM c=true->yF (pR rt lt c k)=c:=by
 intro c;induction c with
 | skip=>intro k _;rfl
 | region id ops d=>intro k _;show yF (cutP _ _)=_;rw[zuy];rfl
 | seq a b iha ihb=>
  intro k h;have h:(bif yM a then yM b else false)=true:=h
  have ha:yM a=true:=by cases hx:yM a with | true=>rfl | false=>rw[hx]at h;cases h
  have hb:yM b=true:=by rw[ha]at h;exact h
  show Code.seq (yF (pR rt lt a k)) (yF (pR rt lt b k))=_
  rw[iha k ha,ihb k hb]
 | cond c x y ihx ihy=>
  intro k h;have h:(bif yM x then yM y else false)=true:=h
  have ha:yM x=true:=by cases hx:yM x with | true=>rfl | false=>rw[hx]at h;cases h
  have hb:yM y=true:=by rw[ha]at h;exact h
  show Code.cond c (yF (pR rt lt x k)) (yF (pR rt lt y k))=_
  rw[ihx k ha,ihy k hb]
 | block id c ih=>intro k h;show Code.block id (yF (pR rt lt c id))=_;rw[ih id h]
 | loop c ih=>intro k h;show yF (z9j _ (pR rt lt c k))=_;rw[zpd,ih k h]
 | exit id=>intro k _;rfl
 | ret=>intro k _;rfl
 | rangeFunc f ps a b _ ihb=>
  intro k h;have h:(bif zr0 a then yM b else false)=true:=h
  cases a with
  | region id ops d=>
   cases d with
   | true=>cases h
   | false=>show Code.rangeFunc f ps (.region id ops false) (yF (pR rt lt b k))=_;rw[ihb k h]
  | _=>cases h
 | scope c _=>intro k h;cases h
 | label l=>intro k h;cases h
 | goto l=>intro k h;cases h
 | refuse s=>intro k h;cases h
def tabF (l:List (Nat × uB)):Tr uB:=List.rec (motive:=fun _=>Tr uB) .leaf (fun p _ g=>g.set p.1 p.2) l
def z2s{l:List (Nat × uB)}{f:Nat}{A:uB}(h:(tabF l).get f=some A):(f,A)∈l:=by
 induction l with
 | nil=>rw[show tabF []=.leaf from rfl,Tr.get_leaf]at h;cases h
 | cons p l ih=>
  have h:((tabF l).set p.1 p.2).get f=some A:=h
  rw[Tr.get_set]at h;split at h
  ·rename_i e;cases h;rw[e];exact yby
  ·exact ybr _ (ih h)
def z17(C:pA)(p:Nat × uB):Prop:=∃fn c,C.fns.get p.1=some fn/\fn.body=some c/\yF p.2.code=c
def bodyOk{C:pA}{f:Nat}{fn:Func}{c:Code}{rt lt:List (Nat × PI)}{la:List Nat}(h1:C.fns.get f=some fn)(h2:fn.body=some c)(h3:yM c=true):z17 C (f,⟨jB rt lt 0 c,la⟩):=⟨fn,c,h1,h2,zpe c 0 h3⟩
def zu5{C:pA}{l:List (Nat × uB)}(h:∀p∈l,z17 C p):pU C (eL (tabF l)):=by
 intro f c hc;unfold eL at hc;rw[Tr.get_mapT]at hc
 cases hq:(tabF l).get f with
 | none=>rw[hq]at hc;cases hc
 | some A=>
  rw[hq]at hc
  cases hc;obtain⟨fn,b,h1,h2,h3⟩:=h _ (z2s hq)
  exact⟨fn,h1,by rw[h2,h3]⟩
end
end Go.Am
namespace Go.Am
class fC where
 n:Nat
def z3q(a:List zA)(_:xA):Option zA:=match a with | []=>some (.bool true) | _=>none
def zuj:List Nat->List Nat->Bool
 | [],_=>true
 | _::_,[]=>false
 | a::x,b::y=>bif Nat.beq a b then zuj x y else false
def cutL (sub:List Nat):List Nat->Option (List Nat × List Nat)
 | []=>bif sub.isEmpty then some ([],[])else none
 | b::l=>bif zuj sub (b::l)then some ([],vM (b::l) (yB sub))else ob (cutL sub l) fun p=>some (b::p.1,p.2)
def pCut (a:List zA)(_:xA):Option zA:=match a with
 | [.str s,.str c]=>aA (Nat.blt (yB s) 4294967281) (match cutL c s with
  | some p=>some (.tup [.str p.1,.str p.2,.bool true])
  | none=>some (.tup [.str s,.str [],.bool false]))
 | _=>none
def mJ(n:Int):List Nat:=(Lib.itoa n).map UInt8.toNat
def zt2(a:List zA)(_:xA):Option zA:=match a with
 | [.int .i64 n]=>aA (nC (-9223372036854775808) n&&iB n 9223372036854775808) (some (.str (mJ n)))
 | _=>none
def zyd(a:List zA)(_:xA):Option zA:=match a with
 | [.int .u64 n,.int .i64 b]=>aA (nC 0 n&&iB n 18446744073709551616&&iA b 10) (some (.str (mJ n)))
 | _=>none
end Go.Am
namespace Go.Am
open Go Go.Shelf Go.RowKit Go.Proofs
variable {P:Program}{ρ:Ren}
set_option maxHeartbeats 2000000 in
set_option maxRecDepth 100000 in
def zuz(L:Lays.n169 P ρ)(X:Builder.Extra P ρ)(b g cap cells:Nat)(l:List UInt8)(w:World)(c1:w.cell? ⟨b,1,none⟩=some (.slice (some ⟨g,0,none⟩) l.length cap))(h0:l≠[])(hcap:l.length<=cap)
  (hsh:w.shape? g=some (ρ.t 5,cells)) (hc:l.length<=cells) (h63:l.length<=9223372036854775807) (hcell:∀j x,l[j]?=some x->w.cell? ((⟨g,0,none⟩:Addr).add j)=some (.int .u8 x.toNat)) :
  Calls P (ρ.f 169) #[.pointer (some ⟨b,0,none⟩)] w fun e w'=>e=.returned (.string ⟨l.toArray⟩)/\w'=w.drew.freeze ⟨g,0,none⟩ l.length:=by
 have hl0:l.length≠0:=by simpa using h0
 have c1:w.drew.cell? ⟨b,1,none⟩=some (.slice (some ⟨g,0,none⟩) l.length cap):=c1
 have hSD:(Builtin.unsafeSliceData_ #[(ρ.t 37)] (ρ.t 127) #[.slice (some ⟨g,0,none⟩) l.length cap]).run P w.drew=.ok (.pointer (some ⟨g,0,none⟩)) w.drew:=
  Lib.run_unsafeSliceData_row _ _ _ _ _ _ (by omega)
 have hUS:(Builtin.unsafeString_ #[(ρ.t 127),(ρ.t 3)] (ρ.t 9) #[.pointer (some ⟨g,0,none⟩),.int .i64 l.length]).run P w.drew=.ok (.string ⟨l.toArray⟩) (w.drew.freeze ⟨g,0,none⟩ l.length):=
  Lib.run_unsafeString_row w.drew (ρ.t 127) (ρ.t 3) (ρ.t 9) (ρ.t 5) L.t127 X.cellsByte g cells hsh l h0 hc h63 hcell
 have mixed:=L.mixed
 have t72:=L.t72;have a72:=L.a72;have z72:=L.z72;have v72:=L.v72;have u72:=run_underlying L.t72
 have t70:=L.t70;have a70:=L.a70;have z70:=L.z70;have v70:=L.v70;have u70:=run_underlying L.t70
 have t37:=L.t37;have a37:=L.a37;have z37:=L.z37;have v37:=L.v37;have u37:=run_underlying L.t37
 have t127:=L.t127;have a127:=L.a127;have z127:=L.z127;have v127:=L.v127;have u127:=run_underlying L.t127
 have t3:=L.t3;have a3:=L.a3;have z3:=L.z3;have v3:=L.v3;have u3:=run_underlying L.t3
 have t9:=L.t9;have a9:=L.a9;have z9:=L.z9;have v9:=L.v9;have u9:=run_underlying L.t9
 have t5:=X.t5;have a5:=X.a5;have z5:=X.z5;have v5:=X.v5;have u5:=run_underlying X.t5
 go_enter L.f169,Body.n169_ntmps ρ
 go_wp2
 go_region_o
 all_goals (go_wp2;go_ret;exact⟨rfl,rfl⟩)
end Go.Am
