/- Trees: the operations that change memory leave an overlay as it is; the light operations are sound. -/
import Derived.Lib.ItoaNum
import Derived.Shelf.Strings.Builder1
import Derived.Test.YtfijloeeppcipaaGreatDoorH05
set_option linter.all false
noncomputable section
namespace Go.Am
open Go Go.RowKit
section
section
variable {base:Nat}{t:Tr rA}{X:Xt}{H HA:xA}{e e':mC}{C:oA}{v:zA}
def Ov.newBlk(h:Ov base t X HA)(y:rA):Ov base (t.set HA.next y) X (newBlk HA y):=by
 refine⟨Nat.le_succ_of_le h.base,fun b hb=>?_,fun b z hb=>?_,fun b z hb=>?_⟩
 ·show(HA.t.set HA.next y).get b=_
  rw[Tr.get_set,Tr.get_set];split
  ·rfl
  ·exact h.same b hb
 ·obtain⟨h1,h2,h3⟩:=h.ext b z hb
  have hne:b≠HA.next:=Nat.ne_of_lt h3
  refine⟨?_,?_,Nat.lt_succ_of_lt h3⟩
  ·show(HA.t.set HA.next y).get b=_
   rw[Tr.get_set,yaa hne];exact h1
  ·rw[Tr.get_set,yaa hne];exact h2
 ·rw[Tr.get_set]at hb
  show b<HA.next+1
  split at hb
  ·rename_i e;rw[e];exact Nat.lt_succ_self _
  ·exact Nat.lt_succ_of_lt (h.lt _ _ hb)
def Ov.setBlk(h:Ov base t X HA){b:Nat}{y:rA}(hb:t.get b=some y)(z:rA):Ov base (t.set b z) X (setBlk HA b z):=by
 refine⟨h.base,fun c hc=>?_,fun c u hc=>?_,fun c u hc=>?_⟩
 ·show(HA.t.set b z).get c=_
  rw[Tr.get_set,Tr.get_set];split
  ·rfl
  ·exact h.same c hc
 ·obtain⟨h1,h2,h3⟩:=h.ext c u hc
  have hne:c≠b:=fun e=>by rw[e,hb]at h2;cases h2
  refine⟨?_,?_,h3⟩
  ·show(HA.t.set b z).get c=_
   rw[Tr.get_set,yaa hne];exact h1
  ·rw[Tr.get_set,yaa hne];exact h2
 ·rw[Tr.get_set]at hc
  show c<HA.next
  split at hc
  ·rename_i e;rw[e];exact h.lt _ _ hb
  ·exact h.lt _ _ hc
def Ov.delBlk(h:Ov base t X HA){b:Nat}{y:rA}(hb:t.get b=some y):Ov base (t.del b) X ⟨HA.next,HA.t.del b⟩:=by
 refine⟨h.base,fun c hc=>?_,fun c u hc=>?_,fun c u hc=>?_⟩
 ·show(HA.t.del b).get c=_
  rw[Tr.get_del,Tr.get_del];split
  ·rfl
  ·exact h.same c hc
 ·obtain⟨h1,h2,h3⟩:=h.ext c u hc
  have hne:c≠b:=fun e=>by rw[e,hb]at h2;cases h2
  refine⟨?_,?_,h3⟩
  ·show(HA.t.del b).get c=_
   rw[Tr.get_del,yaa hne];exact h1
  ·rw[Tr.get_del,yaa hne];exact h2
 ·rw[Tr.get_del]at hc
  show c<HA.next
  split at hc
  ·cases hc
  ·exact h.lt _ _ hc
def zu4 (base:Nat)(x:xA->Option (zA × xA)):Prop:=∀t X HA v H',Ov base t X HA->x ⟨HA.next,t⟩=some (v,H')->∃HA',x HA=some (v,HA')/\Ov base H'.t X HA'
def dQ(l:List zA)(lo:Option Lo)(h:Ov base t X HA):Ov base (zE ⟨HA.next,t⟩ l lo).t X (zE HA l lo):=h.newBlk _
def zvr{ty:Nat}:zu4 base (yH C ty):=by
 intro t X HA v H' ho h;unfold yH at h ⊢
 rw[sA]at h;obtain⟨y,h1,h2⟩:=h
 cases h2;rw[h1];exact⟨_,rfl,dQ _ _ ho⟩
def z73{u:zA}:zu4 base (zpx u):=by
 intro t X HA v H' ho h
 cases h;exact⟨_,rfl,dQ _ _ ho⟩
def zsx{ty:Nat}:zu4 base (zhf C ty):=by
 intro t X HA v H' ho h;unfold zhf at h ⊢
 rw[sA]at h;obtain⟨y,h1,h3⟩:=h
 cases h3;rw[h1,uA];exact⟨_,rfl,dQ _ _ ho⟩
def z2g{ty:Nat}{u:zA}:zu4 base (zsv C ty u):=by
 intro t X HA v H' ho h;unfold zsv at h ⊢
 cases h;exact⟨_,rfl,dQ _ _ ho⟩
def ze6{ty n:Nat}{ps:List (Nat × zA)}:zu4 base (lI C ty n ps):=by
 intro t X HA v H' ho h;unfold lI at h ⊢
 simp only[sA,xB]at h;obtain⟨a,h1,b,h2,c,h3,h4,l,h5,h6⟩:=h
 cases h6;refine⟨zE HA l none,?_,dQ _ _ ho⟩
 simp only[sA,xB];exact⟨a,h1,b,h2,c,h3,h4,l,h5,rfl⟩
def zc1(ho:Ov base t X HA){b off:Nat}{l:List zA}{H':xA}(h:pI C ⟨HA.next,t⟩ b off l=some H'):∃HA',pI C HA b off l=some HA'/\Ov base H'.t X HA':=by
 unfold pI at h ⊢
 simp only[sA,xB]at h;obtain⟨h1,c,h2,h3,h4⟩:=h
 cases h4;have h2':=h2
 unfold xD at h2';rw[sA]at h2'
 obtain⟨y,h5,_⟩:=h2'
 refine⟨_,?_,ho.setBlk h5 _⟩
 simp only[sA,xB];exact⟨h1,c,mM ho.le h2,h3,rfl⟩
def zvn{ty:Nat}{a u:zA}:zu4 base (eC C ty a u):=by
 intro t X HA v H' ho h;unfold eC at h ⊢
 simp only[sA,xB]at h;obtain⟨y,h1,p,h2,h3,H1,h4,h5⟩:=h
 cases h5;obtain⟨HA',h6,h7⟩:=zc1 ho h4
 refine⟨HA',?_,h7⟩
 simp only[sA,xB];exact⟨y,h1,p,h2,h3,HA',h6,rfl⟩
def zm1:zu4 base fV:=by
 intro t X HA v H' ho h
 cases h;exact⟨_,rfl,ho.newBlk _⟩
def zfo{ty:Nat}{m k u:zA}:zu4 base (mI C ty m k u):=by
 intro t X HA v H' ho h;unfold mI at h ⊢
 simp only[sA,xB]at h;obtain⟨a,h1,b,h2,c,h3,h4,d,h5,h6,l,h7,h8,l',h9,h10⟩:=h
 cases h10;have h7':=h7
 unfold gG at h7';rw[sA]at h7'
 obtain⟨y,h11,_⟩:=h7'
 refine⟨_,?_,ho.setBlk h11 _⟩
 simp only[sA,xB];exact⟨a,h1,b,h2,c,h3,h4,d,h5,h6,l,vU ho.le h7,h8,l',h9,rfl⟩
def z1m(ho:Ov base t X HA){e:RE}{H':xA}(h:uQ C ⟨HA.next,t⟩ e=some H'):∃HA',uQ C HA e=some HA'/\Ov base H'.t X HA'/\HA'.next=HA.next/\H'.next=HA.next:=by
 obtain⟨x,y,h1,h2,rfl⟩:=yX.1 h
 exact⟨setBlk HA e.blk y,yX.2 ⟨x,y,ho.up h1,h2,rfl⟩,ho.setBlk h1 _,rfl,rfl⟩
def zl9:∀ {l:List RE} {t:Tr rA} {HA:xA} {H':xA},Ov base t X HA->sR C l ⟨HA.next,t⟩=some H'->∃HA',sR C l HA=some HA'/\Ov base H'.t X HA'
 | [],t,HA,H',ho,h=>by cases h;exact⟨HA,rfl,ho⟩
 | e::l,t,HA,H',ho,h=>by
  unfold sR at h ⊢
  rw[sA]at h;obtain⟨H1,h1,h⟩:=h
  obtain⟨HA1,g1,g2,g3,g4⟩:=z1m ho h1
  rw[g1,uA];obtain⟨n1,t1⟩:=H1
  have g4:n1=HA.next:=g4
  subst g4;rw[<- g3]at h;exact zl9 g2 h
def zxi(ho:Ov base t X HA){e:RE}(h:zdf C ⟨HA.next,t⟩ e=true):zdf C HA e=true:=by
 cases e with
 | st b off l=>
  change (!zH (pI C ⟨HA.next,t⟩ b off l))=true at h
  show(!zH (pI C HA b off l))=true
  cases hs:pI C ⟨HA.next,t⟩ b off l with
  | none=>rw[hs]at h;cases h
  | some H'=>obtain⟨HA',g,_⟩:=zc1 ho hs;rw[g];rfl
 | up b k v=>
  unfold zdf at h ⊢
  rw[ybb]at h ⊢
  refine⟨h.1,?_⟩
  have h2:=h.2
  split at h2
  ·rename_i hm;rw[vU ho.le hm]
  ·cases h2
def zvq{es:List Eff}:zu4 base (nP C es):=by
 intro t X HA v H' ho h;unfold nP yQ at h ⊢
 simp only[sA,xB,ybb]at h;obtain⟨H1,⟨rs,h1,⟨h2,h3⟩,h4⟩,h5⟩:=h
 cases h5;obtain⟨HA',g1,g2⟩:=zl9 ho h4
 refine⟨HA',?_,g2⟩
 simp only[sA,xB,ybb];refine⟨HA',⟨rs,h1,⟨h2,?_⟩,g1⟩,rfl⟩
 rw[iG,ycb]at h3 ⊢
 exact fun e he=>zxi ho (h3 e he)
def zhe{ty:Nat}{l c:zA}:zu4 base (lN C ty l c):=by
 intro t X HA v H' ho h;unfold lN at h ⊢
 simp only[sA,xB]at h;obtain⟨a,h1,b,h2,d,h3,n,h4,m,h5,h6,h7⟩:=h
 cases h7;refine⟨zE HA (lJ d.zero m) none,?_,dQ _ _ ho⟩
 simp only[sA,xB];exact⟨a,h1,b,h2,d,h3,n,h4,m,h5,h6,rfl⟩
def zmz{s d:Nat}{u:zA}:zu4 base (zhd C s d u):=by
 intro t X HA v H' ho h;unfold zhd at h ⊢
 simp only[sA,xB]at h;obtain⟨a,h1,b,h2,c,h3,et,h4,k,h5,h6,l,h7,h8⟩:=h
 cases h8;refine⟨zE HA (zP l) (some (.ty c)),?_,dQ _ _ ho⟩
 simp only[sA,xB];exact⟨a,h1,b,h2,c,h3,et,h4,k,h5,h6,l,h7,rfl⟩
def zor(h:HLe H HA){sz n:Nat}{u:zA}{l:List zA}(hx:aN H sz n u=some l):aN HA sz n u=some l:=by
 unfold aN at hx ⊢
 split at hx
 ·rw[sA]at hx ⊢
  obtain⟨c,h1,h2⟩:=hx
  exact⟨c,mM h h1,h2⟩
 ·exact hx
def zu1(ho:Ov base t X HA){ty:uC}{a b:zA}{H':xA}(h:vP C ⟨HA.next,t⟩ ty a b=some (v,H')):∃HA',vP C HA ty a b=some (v,HA')/\Ov base H'.t X HA':=by
 unfold vP at h;simp only[sA]at h;obtain⟨el,h1,et,h2,n,h3,new,h4,h5⟩:=h
 have h4':=zor ho.le h4
 suffices hs:∃HA',(match a.asSlice with
  | some s=>bif Nat.ble (s.2.2.1+n) s.2.2.2 then aQ C HA et n new s else eO C HA el et n new s
  | none=>cA (Nat.beq a.tag 5) (nK HA el et n new))=some (v,HA')/\Ov base H'.t X HA' by
  obtain⟨HA',g1,g2⟩:=hs
  refine⟨HA',?_,g2⟩
  unfold vP;simp only[sA];exact⟨el,h1,et,h2,n,h3,new,h4',g1⟩
 cases hs:a.asSlice with
 | some s=>
  rw[hs]at h5;simp only[]at h5 ⊢
  rw[iB]at h5;split at h5
  ·rename_i hr
   simp only[hr,cond_true];unfold aQ at h5 ⊢
   split at h5
   ·cases h5;exact⟨HA,rfl,ho⟩
   ·rw[sA]at h5
    obtain⟨H1,g1,g2⟩:=h5
    cases g2
    obtain⟨HA',g3,g4⟩:=zc1 ho g1
    exact⟨HA',by simp only[g3,uA],g4⟩
  ·rename_i hr
   simp only[Bool.not_eq_true]at hr;simp only[hr,cond_false];unfold eO at h5 ⊢
   rw[xB]at h5;obtain⟨gm,h5⟩:=h5
   rw[xB]at h5;obtain⟨g0,h5⟩:=h5
   rw[sA]at h5;obtain⟨c,g1,h5⟩:=h5
   have g1':=mM ho.le g1
   unfold xD at g1;rw[sA]at g1;obtain⟨y,g2,_⟩:=g1
   split at h5
   ·rename_i hc
    unfold sV at h5;rw[sA]at h5;obtain⟨old,g3,g4⟩:=h5
    cases g4
    refine⟨zE HA (aC old new) (some (eH el et)),?_,dQ _ _ ho⟩
    simp only[xB,sA];refine⟨gm,g0,c,g1',?_⟩
    rw[hc];unfold sV;simp only[sA];exact⟨old,g3,rfl⟩
   ·rename_i es hc
    unfold iT at h5;rw[xB]at h5;obtain⟨g3,g4⟩:=h5
    cases g4
    refine⟨⟨HA.next+1,(HA.t.del s.1).set HA.next (.cells (c.1.setMany new (s.2.2.1*et.size)) ((s.2.2.1+n)*et.size) (some es))⟩,?_,(ho.delBlk g2).newBlk _⟩
    simp only[xB,sA];refine⟨gm,g0,c,g1',?_⟩
    rw[hc];unfold iT;exact xB.2 ⟨g3,rfl⟩
 | none=>
  rw[hs]at h5;simp only[]at h5 ⊢
  rw[xB]at h5;obtain⟨g0,h5⟩:=h5
  unfold nK at h5;rw[iB]at h5;split at h5
  ·rename_i hn
   cases h5;refine⟨HA,?_,ho⟩
   rw[xB];refine⟨g0,?_⟩
   unfold nK;rw[hn];rfl
  ·rename_i hn
   rw[xB]at h5;obtain⟨g1,h5⟩:=h5
   cases h5;refine⟨zE HA new (some (eH el et)),?_,dQ _ _ ho⟩
   rw[xB];refine⟨g0,?_⟩
   unfold nK;simp only[Bool.not_eq_true]at hn;rw[hn,cond_false,xB];exact⟨g1,rfl⟩
def zsw{ty u:Nat}{a b:zA}:zu4 base (pF C ty u a b):=by
 intro t X HA v H' ho h;unfold pF at h;simp only[sA,xB]at h;obtain⟨y,h1,z,h2,h3,h4⟩:=h
 obtain⟨HA',g1,g2⟩:=zu1 ho h4
 refine⟨HA',?_,g2⟩
 unfold pF;simp only[sA,xB];exact⟨y,h1,z,h2,h3,g1⟩
end
def zbh(ν:Nat->Nat)(ae:uK)(e:mC):Prop:=∀i p,tAd ae i=some p->z15 i e=some (.ptr (ν p.1) p.2)
def z1z(base:Nat)(X0 X:Xt)(ν:Nat->Nat)(lo:Tr (List zA)):Prop:=∀d l,lo.get d=some l->X0 (ν d)=none/\base<=ν d/\∃c,X (ν d)=some (.cells c l.length none)/\∀j a,l[j]?=some a->c.get j=some a
def eD{base:Nat}{W J:bG}{α:Type}{x:Option α}{K:α->T}{t:Tr rA}{Q:bB}:pA base W J (jB x K) t Q ↔ ∃a,x=some a/\pA base W J (K a) t Q:=by
 cases x with
 | none=>exact⟨fun h=>(by cases h),fun⟨_,h,_⟩=>(by cases h)⟩
 | some a=>exact⟨fun h=>⟨a,rfl,h⟩,fun⟨_,h,k⟩=>(by cases h;exact k)⟩
def tK{base:Nat}{W J:bG}{b:Bool}{K:T}{t:Tr rA}{Q:bB}:pA base W J (gdT b K) t Q ↔ b=true/\pA base W J K t Q:=by
 cases b with
 | false=>exact⟨fun h=>(by cases h),fun⟨h,_⟩=>(by cases h)⟩
 | true=>exact⟨fun h=>⟨rfl,h⟩,fun⟨_,h⟩=>h⟩
def pP{base:Nat}{W J:bG}{x:Option zA}{K:zA->T}{t:Tr rA}{Q:bB}:pA base W J (.opt x K) t Q ↔ ∃a,x=some a/\pA base W J (K a) t Q:=uO
def pU{base:Nat}{W J:bG}{x:Tr rA->Option zA}{K:zA->T}{t:Tr rA}{Q:bB}:pA base W J (.light x K) t Q ↔ ∃a,x t=some a/\pA base W J (K a) t Q:=uO
def zco{ν:Nat->Nat}{ae:uK}{e:mC}(h:zbh ν ae e){x:Operand}{p:Nat × Nat}(hx:xAd ae x=some p):ev x e=some (.ptr (ν p.1) p.2):=by
 cases x with
 | tmp i=>exact h i p hx
 | const _=>cases hx
 | global _=>cases hx
 | func _=>cases hx
def zyj{c:Tr zA}{l:List zA}(h:∀j a,l[j]?=some a->c.get j=some a):∀(n off:Nat),off+n<=l.length->c.many n off=some ((l.drop off).take n):=by
 intro n;induction n with
 | zero=>intro off _;simp;rfl
 | succ n ih=>
  intro off ho;have hlt:off<l.length:=by omega
  rw[Tr.many_succ,h off l[off] (ybd hlt),uA,ih (off+1) (by omega),uA]
  rw[ybl hlt,List.take_succ_cons]
section
variable {W J:bG}{t:Tr rA}{X X0:Xt}{HA:xA}{e eA:mC}{C:oA}{ν:Nat->Nat}{ae:uK}{lo:Tr (List zA)}{k:KOp}{Q:bB}{R:zA->Prop}
def zrb(ho:Ov C.base t X HA)(hl:z1z C.base X0 X ν lo){d off ty:Nat}{l:List zA}{y:uC}{v:zA}(h1:lo.get d=some l)(h2:C.tys.get ty=some y)(h3:Nat.ble (off+y.size) (aA l)=true)(h4:rL C ty l off=some v) :
  mA C ty HA (.ptr (ν d) off)=some v:=by
 obtain⟨_,_,c,hc,hg⟩:=hl d l h1
 have hb:=(ho.ext _ _ hc).1
 unfold mA;simp only[zA.asPtr,uA];rw[h2,uA];unfold xD;rw[hb,uA];simp only[rA.asCells,uA];unfold rL at h4;rw[h2,uA]at h4;unfold yN;rw[iB]at h4 ⊢
 rw[dD,gC]at h3;split at h4
 ·rename_i ha
  rw[yab ha,zyj hg _ _ h3,uA];rw[qO,dP]at h4;exact h4
 ·rename_i ha
  rw[yaa ha];rw[iF]at h4;exact hg _ _ h4
def dM(he:oN e eA){op:Op}(hp:iN op=true\/(∃s d x,op=.convert s d x/\(oG C d=1\/oG C s=2))\/(∃c,op=.call c/\(c.callee=.builtin .max\/c.callee=.builtin .min)))
  (h:pA C.base W J (zp4 C op e k) t Q) (hKd:∀v,pA C.base W J (k.Kd v) t Q->R v):∃v,(lE op).f C eA HA=some v/\R v:=by
 unfold zp4 at h;rw[eD]at h;obtain⟨v,h1,h2⟩:=h
 exact⟨v,z45 he hp h1,hKd v h2⟩
def zvp{ty:Nat}{u v:zA}{H:xA}(ht:oG C ty=4)(h:zC u=some v):zva C ty H u=some v:=by
 unfold oG at ht
 cases hy:C.tys.get ty with
 | none=>rw[hy]at ht;cases ht
 | some y=>
  rw[hy]at ht;have ht:y.desc.tag=4:=ht
  unfold zva;rw[hy,uA];unfold zC at h;unfold zvc
  cases u<;>simp only[zA.asSlice,zA.asStr,zA.asMap,zA.tag]at h ⊢ <;> (try (rw[xB]at h;exact absurd h.1 (by decide)))
  case nilslice=>
   rw[xB]at h;have hn:y.desc.asArr=none:=by cases hd:y.desc<;>rw[hd]at ht<;>first | rfl | (cases ht;done)
   rw[hn,ht];simp only[sA,xB];exact⟨0,⟨rfl,rfl⟩,h.2⟩
  case slice a b n m=>
   rw[ht]
   cases h;simp only[sA,xB];exact⟨n,⟨rfl,rfl⟩,rfl⟩
def zzx{ty:Nat}{u v:zA}{H H':xA}(ht:oG C ty≠6)(h:zva C ty H u=some v):zva C ty H' u=some v:=by
 unfold zva at h ⊢
 simp only[sA]at h ⊢
 obtain⟨y,h1,n,h2,h3⟩:=h
 refine⟨y,h1,n,?_,h3⟩
 have ht:¬ Nat.beq y.desc.tag 6=true:=by
  intro hb;apply ht;unfold oG;rw[h1];exact oB.1 hb
 unfold zvc at h2 ⊢
 split at h2
 ·exact h2
 ·split at h2
  ·exact h2
  ·split at h2
   ·exact h2
   ·split at h2
    ·rw[xB]at h2;exact absurd h2.1 ht
    ·exact h2
def zw6{ty:Nat}{a v:zA}{l h:Option zA}{H H':xA}(ht:oG C ty=2)(hx:vG C ty H a l h=some v):vG C ty H' a l h=some v:=by
 unfold vG at hx ⊢
 rw[sA]at hx ⊢
 obtain⟨y,h1,h2⟩:=hx
 refine⟨y,h1,?_⟩
 unfold oG at ht;rw[h1]at ht;have ht:y.desc.tag=2:=ht
 unfold rK at h2 ⊢
 have n1:y.desc.asSlice=none:=by cases hd:y.desc<;>rw[hd]at ht<;>first | rfl | (cases ht;done)
 have n2:y.desc.asArr=none:=by cases hd:y.desc<;>rw[hd]at ht<;>first | rfl | (cases ht;done)
 split at h2
 ·exact h2
 ·split at h2
  ·rw[n1]at h2;cases h2
  ·split at h2
   ·rw[n2]at h2;cases h2
   ·exact h2
def zdm{u:zA}(h:zA.one u=true):u.cells=[u]:=by
 cases u<;>first
  | rfl
  | (have:=kB.1 h;simp[zA.tag]at this)
def zuh{tyAt:Nat->Option Nat}(place:Nat->Option (Nat × Nat)):∀(vs:List (Nat × zA)) {q:List (Nat × zA × List zA) × List zA},zx1 C tyAt vs=some q->tC zA.one q.2=true->∀cells l,z40 place q.1 cells=some l->tM place vs cells=some l:=by
 intro vs;induction vs with
 | nil=>intro q h _ cells l hl;cases h;exact hl
 | cons p vs ih=>
  intro q h h1 cells l hl;have h:(ob (tyAt p.1) fun t=>ob (C.tys.get t) fun ty=>ob (zx1 C tyAt vs) fun r=>some (bif ty.desc.isAgg then((p.1,p.2,p.2.cells)::r.1,r.2)else((p.1,p.2,[p.2])::r.1,p.2::r.2)))=some q:=h
  simp only[sA]at h;obtain⟨ty,_,y,_,r,h3,h4⟩:=h
  have aE:∀(rest:List zA),tC zA.one r.2=true->(ob (place p.1) fun q=>ob (z4z cells q.1 q.2 p.2.cells) fun cells=>z40 place r.1 cells)=some l->tM place (p::vs) cells=some l:=by
   intro _ hr hl;show(ob (place p.1) fun q=>ob (cT cells q.1 q.2 p.2) fun cells=>tM place vs cells)=some l
   simp only[sA]at hl ⊢
   obtain⟨a,g1,b,g2,g3⟩:=hl
   exact⟨a,g1,b,g2,ih h3 hr _ _ g3⟩
  cases hb:y.desc.isAgg with
  | true=>
   rw[hb]at h4
   cases h4;exact aE [] h1 hl
  | false=>
   rw[hb]at h4
   cases h4;rw[iG,cond_false]at h1;simp only[ycg,ybb]at h1;have hl:(ob (place p.1) fun q=>ob (z4z cells q.1 q.2 [p.2]) fun cells=>z40 place r.1 cells)=some l:=hl
   rw[<- zdm h1.1]at hl;exact aE [] (by rw[iG];exact h1.2) hl
def z79(he:oN e eA)(ha:zbh ν ae eA)(ho:Ov C.base t X HA)(hl:z1z C.base X0 X ν lo){op:Op}(h:pA C.base W J (tL C op e ae lo k) t Q)
  (hK:∀v,pA C.base W J (k.K v) t Q->R v) (hKd:∀v,pA C.base W J (k.Kd v) t Q->R v) (hKA:∀d off,pA C.base W J (k.KA d off) t Q->R (.ptr (ν d) off)) :
  ∃v,(lE op).f C eA HA=some v/\R v:=by
 cases op<;>simp only[tL]at h<;>try (cases h;done)
 case move x=>
  unfold z2n at h;split at h
  ·rename_i p hp
   exact⟨_,zco ha hp,hKA _ _ h⟩
  ·exact dM he (.inl rfl) h hKd
 case assign x=>
  unfold z2n at h;split at h
  ·rename_i p hp
   exact⟨_,zco ha hp,hKA _ _ h⟩
  ·exact dM he (.inl rfl) h hKd
 case pick c a b=>exact dM he (.inl rfl) h hKd
 case load ty a=>
  unfold tLoad at h;split at h
  ·rename_i p hp
   simp only[eD,tK]at h;obtain⟨l,h1,y,h2,h3,v,h4,h5⟩:=h
   refine⟨v,?_,hKd v h5⟩
   show nO ty a C eA HA=some v
   rw[zy6,zco ha hp,uA];exact zrb ho hl h1 h2 h3 h4
  ·rw[eD]at h
   obtain⟨u,h1,h2⟩:=h
   rw[pU]at h2;obtain⟨v,h3,h4⟩:=h2
   refine⟨v,?_,hK v h4⟩
   show nO ty a C eA HA=some v
   rw[zy6,fC he h1,uA];exact sX ho.le h3
 case nilCheck x=>
  unfold tNil at h;split at h
  ·rename_i p hp
   refine⟨_,?_,hKA _ _ h⟩
   show z38 x C eA HA=_
   rw[z6w (zco ha hp)];rfl
  ·rw[eD]at h
   obtain⟨u,h1,h2⟩:=h
   rw[pP]at h2;obtain⟨v,h3,h4⟩:=h2
   refine⟨v,?_,hK v h4⟩
   show z38 x C eA HA=_
   rw[z6w (fC he h1)];exact h3
 case binOp op ty x y u=>
  unfold tBin at h;rw[iB]at h;split at h
  ·exact dM he (.inl rfl) h hKd
  ·simp only[eD,pP]at h
   obtain⟨a,h1,b,h2,v,h3,h4⟩:=h
   refine⟨v,?_,hK v h4⟩
   show zzb op ty x y C eA HA=_
   rw[lBin_v (fC he h1) (fC he h2)];exact h3
 case unOp o ty x=>
  split at h
  ·simp only[eD,pP]at h
   obtain⟨u,h1,v,h2,h3⟩:=h
   refine⟨v,?_,hK v h3⟩
   show lUn .xor x C eA HA=_
   unfold lUn;rw[fC he h1];exact h2
  ·exact dM he (.inl rfl) h hKd
 case convert s d x=>
  unfold z8b at h;rw[iB]at h;split at h
  ·rename_i hd
   rw[iB]at h;split at h
   ·rename_i hs
    exact dM he (.inr (.inl ⟨s,d,x,rfl,.inr (oB.1 hs)⟩)) h hKd
   ·simp only[eD,pU]at h
    obtain⟨u,h1,v,h2,h3⟩:=h
    refine⟨v,?_,hK v h3⟩
    show bK s d x C eA HA=_
    rw[zy9 (fC he h1)];exact zsu ho.le h2
  ·rw[iB]at h
   split at h
   ·rename_i hd
    exact dM he (.inr (.inl ⟨s,d,x,rfl,.inl (oB.1 hd)⟩)) h hKd
   ·cases h
 case makeInterface ty x=>exact dM he (.inl rfl) h hKd
 case makeFunc fn a b=>exact dM he (.inl rfl) h hKd
 case slice ty x lo' hi mx=>
  cases mx with
  | some _=>cases h
  | none=>
   simp only[z6a,eD]at h;obtain⟨a,h1,l,h2,r,h3,h4⟩:=h
   rw[iB]at h4;show ∃v,cQ ty x lo' hi C eA HA=some v/\R v
   rw[z36 (fC he h1) (zr3 he h2) (zr3 he h3)]
   split at h4
   ·rename_i ht
    rw[pP]at h4;obtain⟨v,h5,h6⟩:=h4
    exact⟨v,zw6 (oB.1 ht) h5,hK v h6⟩
   ·rw[pU]at h4
    obtain⟨v,h5,h6⟩:=h4
    exact⟨v,zm0 ho.le h5,hK v h6⟩
 case fieldAddr s x f=>
  unfold zfr at h;show ∃v,kO s x f C eA HA=some v/\R v
  split at h
  ·rename_i p hp
   rw[eD]at h;obtain⟨o,h1,h2⟩:=h
   refine⟨_,?_,hKA _ _ h2⟩
   rw[zbp (zco ha hp)]
   unfold sB;rw[h1];rfl
  ·simp only[eD,pP]at h
   obtain⟨u,h1,v,h2,h3⟩:=h
   refine⟨v,?_,hK v h3⟩
   rw[zbp (fC he h1)];exact h2
 case field ty x f=>exact dM he (.inl rfl) h hKd
 case indexAddr ty x i=>
  unfold zfq at h;show ∃v,mO ty x i C eA HA=some v/\R v
  split at h
  ·rename_i p hp
   simp only[eD]at h;obtain⟨iv,h1,n,h2,o,h3,h4⟩:=h
   refine⟨_,?_,hKA _ _ h4⟩
   rw[zbo (zco ha hp) (fC he h1)]
   unfold zpw at h3;simp only[sA,xB]at h3;obtain⟨y,g1,a,g2,et,g3,g4,g5⟩:=h3
   cases g5
   unfold lB;rw[g1,uA,h2,uA];simp only[zA.asSlice,zA.asPtr,uA];rw[g2,uA,g3,uA,g4];rfl
  ·simp only[eD,pP]at h
   obtain⟨u,h1,w,h2,v,h3,h4⟩:=h
   refine⟨v,?_,hK v h4⟩
   rw[zbo (fC he h1) (fC he h2)];exact h3
 case index ty x i=>
  rw[iB]at h;split at h
  ·exact dM he (.inl rfl) h hKd
  ·simp only[eD,pP]at h
   obtain⟨u,h1,w,h2,v,h3,h4⟩:=h
   refine⟨v,?_,hK v h4⟩
   show lO ty x i C eA HA=_
   rw[z4a (fC he h1) (fC he h2)];exact h3
 case lookup ty x i ok=>
  simp only[eD,pU]at h;obtain⟨m,h1,key,h2,v,h3,h4⟩:=h
  refine⟨v,?_,hK v h4⟩
  show oO ty x i ok C eA HA=_
  rw[zy5 (fC he h1) (fC he h2)];exact zjj ho.le h3
 case extract x i=>
  simp only[eD,pP]at h;obtain⟨u,h1,v,h2,h3⟩:=h
  refine⟨v,?_,hK v h3⟩
  show jO x i C eA HA=_
  rw[zty (fC he h1)];exact h2
 case typeAssert x a u ok=>
  simp only[eD,pP]at h;obtain⟨w,h1,v,h2,h3⟩:=h
  refine⟨v,?_,hK v h3⟩
  show iO x u ok C eA HA=_
  rw[zzc (fC he h1)];exact h2
 case build ty ps=>
  unfold z6c at h;simp only[eD,tK]at h;obtain⟨y,h1,hbd,vs,h2,q,h3,l,h4,h5⟩:=h
  have h5:if tC zA.one q.2=true then pA C.base W J (k.Kd (.agg l)) t Q else False:=h5
  split at h5
  ·rename_i hone
   refine⟨_,?_,hKd _ h5⟩
   show cP ty ps C eA HA=_
   have hf:=zuh (zga C y) vs h3 hone y.zero l h4
   unfold cP;rw[h1,uA,ziv he h2,uA]
   cases hs:y.desc.asStruct with
   | some fs=>
    simp only[];have:(fun i=>ob (iC fs i) fun x=>some (x.1,x.2.2))=zga C y:=by funext i;unfold zga;rw[hs]
    rw[this,hf];rfl
   | none=>
    simp only[];unfold zl7 at hbd;rw[hs]at hbd;simp only[]at hbd
    cases ha:y.desc.asArr with
    | none=>rw[ha]at hbd;cases hbd
    | some a=>
     rw[ha]at hbd;simp only[]at hbd
     cases hy:C.tys.get a.2 with
     | none=>rw[hy]at hbd;cases hbd
     | some et=>
      simp only[uA];have:(fun i=>some (i*et.size,et.size))=zga C y:=by funext i;unfold zga;rw[hs];simp only[];rw[ha,uA,hy,uA]
      rw[hy,uA,this,hf];rfl
  ·exact h5.elim
 case call c=>
  split at h
  ·rename_i b hb
   cases b<;>simp only[cV]at h<;>try (cases h;done)
   case len=>
    unfold tLen at h;simp only[eD]at h;obtain⟨ty,h1,x,h2,u,h3,h4⟩:=h
    show ∃v,(wN c c.callee).f C eA HA=some v/\R v
    rw[hb];show ∃v,zoh c C eA HA=some v/\R v
    rw[lLen_v h1 h2 (fC he h3)]
    rw[iB]at h4;split at h4
    ·rename_i ht
     rw[pP]at h4;obtain⟨v,h5,h6⟩:=h4
     exact⟨v,zvp (oB.1 ht) h5,hK v h6⟩
    ·rw[iB]at h4
     split at h4
     ·rw[pU]at h4
      obtain⟨v,h5,h6⟩:=h4
      exact⟨v,zvo ho.le h5,hK v h6⟩
     ·rename_i ht
      rw[eD]at h4;obtain⟨v,h5,h6⟩:=h4
      exact⟨v,zzx (fun e=>ht (oB.2 e)) h5,hKd v h6⟩
   case max=>exact dM he (.inr (.inr ⟨c,rfl,.inl hb⟩)) h hKd
   case min=>exact dM he (.inr (.inr ⟨c,rfl,.inr hb⟩)) h hKd
  ·cases h
end
end
section
def zpc(C:oA)(A:Tr qD)(f:Nat)(args:List zA)(H:xA):wB:=
 bif Nat.blt f yo then
  match C.prims.get f with
  | some g=>g args H
  | none=>wD C A (.func f) args H
 else wD C A (.yld (f-yo)) args H
def nV{C:oA}{A:Tr qD}{f:Nat}{args:List zA}{H:xA}(h:Nat.blt f yo=true):zpc C A f args H=(match C.prims.get f with
  | some g=>g args H
  | none=>wD C A (.func f) args H):=by unfold zpc;rw[h];rfl
def zl3{C:oA}{A:Tr qD}{l:Nat}{args:List zA}{H:xA}:zpc C A (yo+l) args H=wD C A (.yld l) args H:=by
 unfold zpc;have:Nat.blt (yo+l) yo=false:=Bool.eq_false_iff.2 fun e=>by have:=kB.1 e;omega
 rw[this,Nat.add_sub_cancel_left];rfl
def wC (base:Nat)(X0:Xt)(Q:bB)(d:wB):Prop:=∃v t' HA' X',d=some (v,HA')/\Ov base t' X' HA'/\XLe X0 X'/\Q v t'
def wC.mono{base:Nat}{X0:Xt}{Q Q':bB}{d:wB}(h:wC base X0 Q d)(k:∀v t,Q v t->Q' v t):wC base X0 Q' d:=by
 obtain⟨v,t',HA',X',h1,h2,h3,h4⟩:=h
 exact⟨v,t',HA',X',h1,h2,h3,k _ _ h4⟩
def qP(C:oA)(A:Tr qD)(W:bG):Prop:=∀f args t R,W f args t R->∀X HA,Ov C.base t X HA->wC C.base X R (zpc C A f args HA)
section
variable {W J:bG}{t:Tr rA}{X X0:Xt}{HA:xA}{e eA:mC}{C:oA}{A:Tr qD}{ν:Nat->Nat}{ae:uK}{lo:Tr (List zA)}{k:KOp}{kl:KLo}{Q:bB}
def vJ{f:LOp}{H:xA}{v:zA}(h:f C e H=some v):lv f C e H=.val v H:=by unfold lv;rw[h]
def z1p{op:Op}{H:xA}{v:zA}(h:(lE op).f C e H=some v):(wF op).f C e H=.val v H:=by
 cases op
 case move x=>exact vJ h
 case assign x=>exact vJ h
 case pick c a b=>exact vJ h
 case load t a=>exact vJ h
 case nilCheck x=>exact vJ h
 case binOp op t x y u=>exact vJ h
 case unOp op t x=>exact vJ h
 case makeInterface t x=>exact vJ h
 case makeFunc fn a b=>exact vJ h
 case slice t x lo hi mx=>exact vJ h
 case fieldAddr s x f=>exact vJ h
 case field t x f=>exact vJ h
 case indexAddr t x i=>exact vJ h
 case index t x i=>exact vJ h
 case extract t i=>exact vJ h
 case build t ps=>exact vJ h
 case typeAssert x t u ok=>exact vJ h
 case lookup t x i ok=>exact vJ h
 case convert s d x=>
  show zQ s d x C e H=_
  have h:bK s d x C e H=some v:=h
  unfold zQ;rw[h]
 case call c=>
  have h:(wN c c.callee).f C e H=some v:=h
  show(za7 c c.callee).f C e H=_
  cases hc:c.callee with
  | value f=>rw[hc]at h;cases h
  | invoke a b=>rw[hc]at h;cases h
  | builtin b=>
   rw[hc]at h
   cases b
   case len=>exact vJ (f:=zoh c) h
   case max=>exact vJ (f:=zy4 c) h
   case min=>exact vJ (f:=zy2 c) h
   all_goals exact absurd (show(none:Option zA)=some v from h) (by simp)
 all_goals exact absurd (show(none:Option zA)=some v from h) (by simp)
def iR{x:Option (zA × xA)}{v:zA}{H':xA}{kd:zA->xA->wB}{φ:Ora}(h:x=some (v,H')):oF φ (mJ x) HA kd=kd v H':=by subst h;rfl
def bN(ho:Ov C.base t X HA){x:xA->Option (zA × xA)}(hx:zu4 C.base x){K:zA->T}(h:pA C.base W J (.heavy x K) t Q){kd:zA->xA->wB}{φ:Ora}
  (hK:∀v t' HA' X',Ov C.base t' X' HA'->XLe X X'->pA C.base W J (K v) t' Q->wC C.base X0 Q (kd v HA')) {r:dI} (hr:∀p,x HA=some p->oF φ r HA kd=kd p.1 p.2):wC C.base X0 Q (oF φ r HA kd):=by
 have h:=h HA.next ho.nextT ho.base
 rw[uO]at h;obtain⟨⟨v,H'⟩,h1,h2⟩:=h
 obtain⟨HA',h3,h4⟩:=hx _ _ _ _ _ ho h1
 rw[hr _ h3];exact hK v _ _ _ h4 (XLe.refl _) h2
def zpb(hW:qP C A W)(ho:Ov C.base t X HA){f:Nat}(hf:Nat.blt f yo=true){args:List zA}{K:zA->T}(h:W f args t fun v t'=>pA C.base W J (K v) t' Q){kd:zA->xA->wB}
  (hK:∀v t' HA' X',Ov C.base t' X' HA'->XLe X X'->pA C.base W J (K v) t' Q->wC C.base X0 Q (kd v HA')):wC C.base X0 Q (oF (wD C A) (zgy C HA args f (C.prims.get f)) HA kd):=by
 obtain⟨v,t',HA',X',h1,h2,h3,h4⟩:=hW _ _ _ _ h X HA ho
 rw[nV hf]at h1;unfold zgy
 cases hp:C.prims.get f with
 | some g=>
  rw[hp]at h1;simp only[h1];exact hK _ _ _ _ h2 h3 h4
 | none=>
  rw[hp]at h1;have h1:wD C A (.func f) args HA=some (v,HA'):=h1
  show wC C.base X0 Q (ob (wD C A (.func f) args HA) fun p=>kd p.1 p.2)
  rw[h1];exact hK _ _ _ _ h2 h3 h4
def z29(hW:qP C A W)(ho:Ov C.base t X HA){l:Nat}{args:List zA}{K:zA->T}(h:W (yo+l) args t fun v t'=>pA C.base W J (K v) t' Q){kd:zA->xA->wB}
  (hK:∀v t' HA' X',Ov C.base t' X' HA'->XLe X X'->pA C.base W J (K v) t' Q->wC C.base X0 Q (kd v HA')):wC C.base X0 Q (oF (wD C A) (.round l args) HA kd):=by
 obtain⟨v,t',HA',X',h1,h2,h3,h4⟩:=hW _ _ _ _ h X HA ho
 rw[zl3]at h1;show wC C.base X0 Q (ob (wD C A (.yld l) args HA) fun p=>kd p.1 p.2)
 rw[h1];exact hK _ _ _ _ h2 h3 h4
def Ov.setX{base:Nat}(h:Ov base t X HA){b:Nat}{y:rA}(hb:X b=some y)(z:rA):Ov base t (fun c=>if c=b then some z else X c) (Am.setBlk HA b z):=by
 obtain⟨g1,g2,g3⟩:=h.ext b y hb
 refine⟨h.base,fun c hc=>?_,fun c u hc=>?_,h.lt⟩
 ·split at hc
  ·cases hc
  ·rename_i hne
   show(HA.t.set b z).get c=_
   rw[Tr.get_set,yaa hne];exact h.same c hc
 ·show(HA.t.set b z).get c=_/\_/\c<HA.next
  rw[Tr.get_set];split at hc
  ·rename_i e;cases hc;subst e;rw[yab rfl];exact⟨rfl,g2,g3⟩
  ·rename_i hne;rw[yaa hne];exact h.ext c u hc
def Ov.newX{base:Nat}(h:Ov base t X HA)(z:rA):Ov base t (fun c=>if c=HA.next then some z else X c) (Am.newBlk HA z):=by
 refine⟨Nat.le_succ_of_le h.base,fun c hc=>?_,fun c u hc=>?_,fun b y hb=>Nat.lt_succ_of_lt (h.lt b y hb)⟩
 ·split at hc
  ·cases hc
  ·rename_i hne
   show(HA.t.set HA.next z).get c=_
   rw[Tr.get_set,yaa hne];exact h.same c hc
 ·show(HA.t.set HA.next z).get c=_/\_/\c<HA.next+1
  rw[Tr.get_set];split at hc
  ·rename_i e;cases hc;subst e;rw[yab rfl];exact⟨rfl,h.nextT,Nat.lt_succ_self _⟩
  ·rename_i hne;rw[yaa hne];have:=h.ext c u hc;exact⟨this.1,this.2.1,Nat.lt_succ_of_lt this.2.2⟩
def zyn(ho:Ov C.base t X HA)(hl:z1z C.base X0 X ν lo){d off:Nat}{l l':List zA}{u:zA}{sz:Nat}(h1:lo.get d=some l)(h2:cT l off sz u=some l')(h3:tC zA.one u.cells=true) :
  Nat.beq (aA u.cells) sz=true/\l'.length=l.length/\∃c',pI C HA (ν d) off u.cells=some (setBlk HA (ν d) (.cells c' l.length none))/\∀j a,l'[j]?=some a->c'.get j=some a:=by
 obtain⟨_,hb,c,hc,hg⟩:=hl d l h1
 have hx:=(ho.ext _ _ hc).1
 unfold cT at h2;simp only[xB,ybb,dD,gC,nG,qO,dP,Option.some.injEq]at h2;obtain⟨⟨g1,g2⟩,g3⟩:=h2
 subst g3;refine⟨by rw[gC];exact g1,?_,c.setMany u.cells off,?_,?_⟩
 ·simp;omega
 ·unfold pI
  have n1:(!Nat.blt (ν d) C.base)=true:=by
   cases hq:Nat.blt (ν d) C.base with
   | true=>have:=kB.1 hq;omega
   | false=>rfl
  rw[n1];unfold xD;rw[hx];simp only[xB,uA,rA.asCells,ybb,dD,gC];exact⟨trivial,⟨g2,h3⟩,trivial⟩
 ·intro j a hj
  rw[Tr.get_setMany];split
  ·rename_i hh
   rw[ybp (by simp;omega)]at hj
   rw[yco (by simp;omega)]at hj
   rw[<- hj];congr 1
   simp;omega
  ·rename_i hh
   refine hg j a ?_
   by_cases hlt:j<off
   ·rw[yco (by simp;omega)]at hj
    rw[ydf,yab hlt]at hj;exact hj
   ·rw[ybp (by simp;omega),ybp (by simp;omega)]at hj
    rw[yde]at hj;rw[<- hj];congr 1
    simp;omega
def z1b{y:uC}{u:zA}(h:tC zA.one (zgv y u)=true):zgv y u=u.cells:=by
 unfold zgv at h ⊢
 rw[iB]at h ⊢
 split
 ·rfl
 ·rename_i e
  rw[yaa e,iG]at h;rw[zdm (by simpa using h)]
def ztd{op:Op}{v:zA}{kd:zA->xA->wB}{φ:Ora}(h:(lE op).f C eA HA=some v):oF φ ((wF op).f C eA HA) HA kd=kd v HA:=by rw[z1p h];rfl
def zyy{la:List Nat}{dst:Option Nat}{d:Nat}(h:laOf la dst=some d):dst=some d:=by
 unfold laOf at h
 cases dst with
 | none=>cases h
 | some x=>simp only[iB]at h;split at h<;>cases h;rfl
def tH_ok(hW:qP C A W)(he:oN e eA)(ha:zbh ν ae eA)(ho:Ov C.base t X HA)(hl:z1z C.base X0 X ν lo){la:List Nat}{dst:Option Nat}{op:Op}
  (h:pA C.base W J (tH C la dst op e ae lo k kl) t Q) {kd:zA->xA->wB}
  (hK:∀v t' HA' X',Ov C.base t' X' HA'->XLe X X'->pA C.base W J (k.K v) t' Q->wC C.base X0 Q (kd v HA'))
  (hKd:∀v t' HA' X',Ov C.base t' X' HA'->XLe X X'->pA C.base W J (k.Kd v) t' Q->wC C.base X0 Q (kd v HA'))
  (hKA:∀d off,pA C.base W J (k.KA d off) t Q->wC C.base X0 Q (kd (.ptr (ν d) off) HA))
  (hnew:∀d l,laOf la dst=some d->pA C.base W J (kl.new d l) t Q->wC C.base X0 Q (kd (.ptr HA.next 0) (zE HA l none)))
  (hset:∀d l l' c',lo.get d=some l->l'.length=l.length->(∀j a,l'[j]?=some a->c'.get j=some a)->pA C.base W J (kl.set d l') t Q->wC C.base X0 Q (kd pD (setBlk HA (ν d) (.cells c' l.length none)))) :
  wC C.base X0 Q (oF (wD C A) ((wF op).f C eA HA) HA kd):=by
 have light:∀(op:Op),pA C.base W J (tL C op e ae lo k) t Q->wC C.base X0 Q (oF (wD C A) ((wF op).f C eA HA) HA kd):=by
  intro op h;obtain⟨v,h1,h2⟩:=z79 (R:=fun v=>wC C.base X0 Q (kd v HA)) he ha ho hl h (fun v h=>hK v _ _ _ ho (XLe.refl _) h) (fun v h=>hKd v _ _ _ ho (XLe.refl _) h) hKA
  rw[ztd h1];exact h2
 cases op<;>simp only[tH]at h<;>try (exact light _ h)
 case alloc ty=>
  show wC C.base X0 Q (oF _ (sS ty C eA HA) HA kd)
  rw[iB]at h;split at h
  ·rename_i ht
   have ht:cI C ty=none:=by
    cases hx:cI C ty with
    | none=>rfl
    | some _=>rw[hx]at ht;cases ht
   split at h
   ·rename_i d hd
    rw[eD]at h;obtain⟨y,h1,h2⟩:=h
    unfold sS;rw[h1,ht];exact hnew d _ hd h2
   ·refine bN ho zvr h hK fun p hp=>?_
    unfold sS;rw[ht];have hp:(ob (C.tys.get ty) fun ty=>some (.ptr HA.next 0,zE HA ty.zero none))=some p:=hp
    rw[hp];rfl
  ·refine bN ho zsx h hK fun p hp=>?_
   unfold sS;unfold zhf at hp;rw[hp];rfl
 case box ty x=>
  rw[iB]at h;show wC C.base X0 Q (oF _ (z4n ty x C eA HA) HA kd)
  unfold z4n;split at h
  ·rename_i ht
   have ht:cI C ty=none:=by
    cases hx:cI C ty with
    | none=>rfl
    | some _=>rw[hx]at ht;cases ht
   rw[eD]at h;obtain⟨v,h1,h⟩:=h
   rw[fC he h1,ht];split at h
   ·rename_i d hd
    rw[eD]at h;obtain⟨y,_,h⟩:=h
    rw[iB]at h;split at h
    ·exact hnew d _ hd h
    ·have h:if zA.one v=true then pA C.base W J (kl.new d [v]) t Q else False:=h
     split at h
     ·rename_i h1
      have:=hnew d _ hd h
      rw[<- zdm h1]at this;exact this
     ·exact h.elim
   ·refine bN ho z73 h hK fun p hp=>?_
    cases hp;rfl
  ·rw[eD]at h
   obtain⟨v,h1,h⟩:=h
   rw[fC he h1];refine bN ho z2g h hK fun p hp=>?_
   cases hp;rfl
 case buildSlice ty n ps=>
  rw[eD]at h;obtain⟨vs,h1,h⟩:=h
  show wC C.base X0 Q (oF _ (tS ty n ps C eA HA) HA kd)
  refine bN ho ze6 h hK fun p hp=>?_
  refine iR (v:=p.1) (H':=p.2) ?_
  rw[ziv he h1];exact hp
 case makeMap ty r=>
  cases r with
  | some _=>simp only[]at h;exact light _ h
  | none=>
   simp only[]at h;show wC C.base X0 Q (oF _ (dW none C eA HA) HA kd)
   refine bN ho zm1 h hK fun p hp=>?_
   cases hp;rfl
 case makeSlice ty l c=>
  simp only[eD]at h;obtain⟨a,h1,b,h2,h⟩:=h
  show wC C.base X0 Q (oF _ (za6 ty l c C eA HA) HA kd)
  refine bN ho zhe h hK fun p hp=>?_
  refine iR (v:=p.1) (H':=p.2) ?_
  rw[fC he h1,fC he h2];unfold lN at hp
  cases hx:C.tys.get ty with
  | none=>rw[hx]at hp;cases hp
  | some y=>
   rw[hx]at hp;simp only[uA]at hp ⊢
   exact hp
 case store ty a x=>
  unfold z59 at h;show wC C.base X0 Q (oF _ (zle ty a x C eA HA) HA kd)
  split at h
  ·rename_i p hp
   simp only[eD]at h;obtain⟨u,h1,y,h2,l,h3,l',h4,h5⟩:=h
   have h5:if tC zA.one (zgv y u)=true then pA C.base W J (kl.set p.1 l') t Q else False:=h5
   split at h5
   ·rename_i hone
    have hcell:=z1b hone
    rw[hcell]at hone h4;have h4:cT l p.2 y.size u=some l':=h4
    obtain⟨g1,g2,c',g3,g4⟩:=zyn ho hl h3 h4 hone
    have:=hset p.1 l l' c' h3 g2 g4 h5
    have e1:oF (wD C A) (zle ty a x C eA HA) HA kd=kd pD (setBlk HA (ν p.1) (.cells c' l.length none)):=by
     refine iR ?_
     rw[h2,uA,zco ha hp,uA];simp only[zA.asPtr,uA];rw[fC he h1,uA,g1,g3];rfl
    rw[e1];exact this
   ·exact h5.elim
  ·simp only[eD]at h
   obtain⟨av,h1,u,h2,h⟩:=h
   refine bN ho zvn h hKd fun p hp=>?_
   refine iR (v:=p.1) (H':=p.2) ?_
   rw[fC he h1];unfold eC at hp
   cases hx:C.tys.get ty with
   | none=>rw[hx]at hp;cases hp
   | some y=>
    rw[hx]at hp;simp only[uA]at hp ⊢
    rw[fC he h2];exact hp
 case convert s d x=>
  rw[iB]at h;split at h
  ·rename_i hd
   rw[eD]at h;obtain⟨u,h1,h⟩:=h
   show wC C.base X0 Q (oF _ (zQ s d x C eA HA) HA kd)
   have hn:bK s d x C eA HA=none:=by
    rw[zy9 (fC he h1)]
    cases hq:fK C s d HA u with
    | none=>rfl
    | some q=>
     exfalso
     unfold fK at hq;simp only[sA]at hq;obtain⟨sy,g1,dy,g2,g3⟩:=hq
     have hd:=oB.1 hd
     unfold oG at hd;rw[g2]at hd;have hd:dy.desc.tag=4:=hd
     unfold qM at g3;have n1:dy.desc.asInt=none:=by cases hz:dy.desc<;>rw[hz]at hd<;>first | rfl | (cases hd;done)
     have n2:dy.desc.isString=false:=by unfold nD.isString;rw[hd];rfl
     rw[n1,n2]at g3
     cases g3
   unfold zQ;rw[hn];simp only[];refine bN ho zmz h hK fun p hp=>?_
   refine iR (v:=p.1) (H':=p.2) ?_
   rw[fC he h1];exact hp
  ·exact light _ (by simpa only[tL]using h)
 case insert ty m key x=>
  simp only[eD]at h;obtain⟨mv,h1,kv,h2,u,h3,h⟩:=h
  show wC C.base X0 Q (oF _ (uS ty m key x C eA HA) HA kd)
  refine bN ho zfo h hKd fun p hp=>?_
  refine iR (v:=p.1) (H':=p.2) ?_
  rw[fC he h1,fC he h2,fC he h3];exact hp
 case mapUpdate ty m key x=>
  simp only[eD]at h;obtain⟨mv,h1,kv,h2,u,h3,h⟩:=h
  show wC C.base X0 Q (oF _ (uS ty m key x C eA HA) HA kd)
  refine bN ho zfo h hKd fun p hp=>?_
  refine iR (v:=p.1) (H':=p.2) ?_
  rw[fC he h1,fC he h2,fC he h3];exact hp
 case call c=>
  show wC C.base X0 Q (oF _ ((za7 c c.callee).f C eA HA) HA kd)
  split at h
  ·rename_i f hc
   rw[hc];show wC C.base X0 Q (oF _ (zd9 f c.args C eA HA) HA kd)
   have aE:∀ {fv:zA} {aq:List zA},ev f e=some fv->evs c.args.toList e=some aq->pA C.base W J (.callv fv aq k.K) t Q->wC C.base X0 Q (oF (wD C A) (zd9 f c.args C eA HA) HA kd):=by
    intro fv aq h1 h2 h;have h:sE (wP fv aq) fun p=>W p.1 p.2 t fun v t'=>pA C.base W J (k.K v) t' Q:=h
    rw[uO]at h;obtain⟨⟨g,aq'⟩,h3,h4⟩:=h
    unfold wP at h3;rw[sA]at h3;obtain⟨p,h5,h6⟩:=h3
    have e0:zd9 f c.args C eA HA=zzah C HA (aC p.2.1 aq) p.2.2 p.1:=by
     unfold zd9 wO;rw[fC he h1,uA,h5,uA,ziu he h2,uA,uA];rfl
    rw[e0]
    cases hp:p.1 with
    | func g'=>
     rw[hp]at h6;simp only[xB]at h6;obtain⟨hg,h6⟩:=h6
     cases h6;exact zpb hW ho hg h4 hK
    | yld l=>
     rw[hp]at h6;simp only[xB,ybb]at h6;obtain⟨⟨ha,hb⟩,h6⟩:=h6
     cases h6;have ea:p.2.1=[]:=by cases hx:p.2.1 with | nil=>rfl | cons _ _=>rw[hx]at ha;cases ha
     have eb:p.2.2=[]:=by cases hx:p.2.2 with | nil=>rfl | cons _ _=>rw[hx]at hb;cases hb
     rw[ea,eb];exact z29 hW ho h4 hK
   unfold z6b at h;split at h
   ·rename_i g
    rw[tK,eD]at h;obtain⟨hg,aq,h1,h⟩:=h
    refine aE (fv:=.func (.func g) [] []) rfl h1 ?_
    show sE (wP (.func (.func g) [] []) aq) _
    have e2:wP (.func (.func g) [] []) aq=some (g,aq):=by
     show cA (Nat.blt g yo) (some (g,aC (aC [] aq) []))=_
     rw[hg,nG,nG];simp[cA]
    rw[e2];exact h
   ·simp only[eD]at h
    obtain⟨fv,h1,aq,h2,h⟩:=h
    exact aE h1 h2 h
  ·rename_i b hb
   rw[hb];have lt:pA C.base W J (cV C c e k b) t Q->wC C.base X0 Q (oF (wD C A) ((za7 c (.builtin b)).f C eA HA) HA kd):=by
    intro h;have:=light (.call c) (by show pA C.base W J (match c.callee with | .builtin b=>cV C c e k b | _=>.fail) t Q;rw[hb];exact h)
    have e1:(wF (.call c)).f C eA HA=(za7 c c.callee).f C eA HA:=rfl
    rw[e1,hb]at this;exact this
   unfold zjt at h;split at h
   ·simp only[eD,two']at h
    obtain⟨ty,h1,u,h2,p,h3,h⟩:=h
    show wC C.base X0 Q (oF _ (za8 c C eA HA) HA kd)
    refine bN ho zsw h hK fun q hq=>?_
    refine iR (v:=q.1) (H':=q.2) ?_
    rw[h1,uA];unfold pF at hq;simp only[sA,xB]at hq ⊢
    obtain⟨y,g1,z,g2,g3,g4⟩:=hq
    exact⟨y,g1,u,h2,z,g2,g3,p,zhi he h3,g4⟩
   ·exact lt h
  ·cases h
end
end
section
structure fE (base:Nat) (X0:Xt) (kf:Nat) (ν:Nat->Nat) (X:Xt) (st:dF) (tm:Tm) (HA:xA) (t:Tr rA):Prop where
 ov:Ov base t X HA
 le:XLe X0 X
 k:st.tm.k=kf
 kA:tm.k=kf
 tms:∀i v,st.tm.get i=some v->tm.get i=some v
 ads:∀i p,cH i st.ad=some p->tm.get i=some (.ptr (ν p.1) p.2)
 lo:z1z base X0 X ν st.lo
 inj:∀d d' l l',st.lo.get d=some l->st.lo.get d'=some l'->ν d=ν d'->d=d'
def gS{i:Nat}{a:Nat × Nat × Nat}{l:List (Nat × Nat × Nat)}:cH i (a::l)=if i=a.1 then some a.2 else cH i l:=by
 show Bool.rec (motive:=fun _=>Option (Nat × Nat)) (cH i l) (some a.2) (Nat.beq i a.1)=_
 rw[xH];simp only[oB]
def z1s{i:Nat}{p:Nat × Nat}:∀ {l:List (Nat × Nat × Nat)},cH i l=some p->(i,p.1,p.2)∈l:=by
 intro l;induction l with
 | nil=>intro h;cases h
 | cons a l ih=>
  intro h;rw[gS]at h;split at h
  ·rename_i e;cases h;rw[e];exact yby
  ·exact ybr _ (ih h)
def zqq{n:Nat}{tm:Tm}{dst:Option Nat}{v:zA}:(putA n tm dst v).k=tm.k:=by
 unfold putA putB
 cases dst with
 | none=>rfl
 | some d=>
  simp only[z3e,iB];split
  ·unfold Tm.set;rw[xH];split<;>rfl
  ·rfl
def Tm.set_k{tm:Tm}{i:Nat}{v:zA}:(tm.set i v).k=tm.k:=by unfold Tm.set;rw[xH];split<;>rfl
section
variable {W J:bG}{t:Tr rA}{X X0:Xt}{HA:xA}{C:oA}{A:Tr qD}{ν:Nat->Nat}{Q:bB}{kf n:Nat}{st:dF}{tm:Tm}
def fE.put(h:fE C.base X0 kf ν X st tm HA t){dst:Option Nat}{v:zA}{lt:Bool}{κ:KT}(hw:pA C.base W J (zp2 n dst v lt st κ) t Q) :
  ∃st',fE C.base X0 kf ν X st' (putA n tm dst v) HA t/\pA C.base W J (κ st') t Q:=by
 unfold zp2 at hw
 cases dst with
 | none=>exact⟨st,h,hw⟩
 | some d=>
  simp only[iB]at hw;split at hw
  ·rename_i hd
   rw[tK]at hw;obtain⟨h1,h2⟩:=hw
   refine⟨_,?_,h2⟩
   refine⟨h.ov,h.le,(by show(st.tm.set d v).k=kf;rw[Tm.set_k];exact h.k),by rw[zqq];exact h.kA,?_,?_,h.lo,h.inj⟩
   ·intro i u hi
    have hi2:(st.tm.set d v).get i=some u:=hi
    rw[Tm.get_set]at hi2;rw[pH];split at hi2
    ·rename_i e;rw[yab ⟨by rw[e],by rw[e];exact kB.1 hd⟩];exact hi2
    ·rename_i e
     rw[yaa (fun hh=>e (by injection hh.1 with e1;exact e1.symm))]
     exact h.tms i u hi2
   ·intro i p hi
    rw[pH,yaa]
    ·exact h.ads i p hi
    ·rintro⟨e,_⟩
     injection e with e
     subst e;rw[hi]at h1
     cases h1
  ·rename_i hd
   refine⟨st,?_,hw⟩
   have:putA n tm (some d) v=tm:=by
    unfold putA putB;simp only[z3e,iB];rw[yaa hd]
   rw[this];exact h
def fE.putA(h:fE C.base X0 kf ν X st tm HA t){dst:Option Nat}{d off:Nat}{κ:KT}(hw:pA C.base W J (z78 n dst d off st κ) t Q) :
  ∃st',fE C.base X0 kf ν X st' (Am.putA n tm dst (.ptr (ν d) off)) HA t/\pA C.base W J (κ st') t Q:=by
 unfold z78 at hw;rw[eD]at hw;obtain⟨i,h1,hw⟩:=hw
 subst h1;simp only[tK]at hw;obtain⟨h2,h3,h4⟩:=hw
 refine⟨_,?_,h4⟩
 refine⟨h.ov,h.le,h.k,by rw[zqq];exact h.kA,?_,?_,h.lo,h.inj⟩
 ·intro j u hj
  rw[pH,yaa]
  ·exact h.tms j u hj
  ·rintro⟨e,_⟩
   injection e with e
   subst e;have hj:st.tm.get i=some u:=hj
   rw[hj]at h3
   cases h3
 ·intro j p hj
  have hj:cH j ((i,d,off)::st.ad)=some p:=hj
  rw[gS]at hj;rw[pH];split at hj
  ·rename_i e;cases hj;rw[yab ⟨by rw[e],by rw[e];exact kB.1 h2⟩]
  ·rename_i e
   rw[yaa (fun hh=>e (by injection hh.1 with e1;exact e1.symm))]
   exact h.ads j p hj
def fE.new(h:fE C.base X0 kf ν X st tm HA t){d:Nat}{l:List zA}{κ:KT}(hw:pA C.base W J (tNew n d l st κ) t Q) :
  ∃st' ν' X',fE C.base X0 kf ν' X' st' (Am.putA n tm (some d) (.ptr HA.next 0)) (zE HA l none) t/\pA C.base W J (κ st') t Q:=by
 unfold tNew at hw;simp only[tK]at hw;obtain⟨h1,h2,h3,h4⟩:=hw
 have hx:=h.ov.nextX
 refine⟨_,fun c=>if c=d then HA.next else ν c,fun c=>if c=HA.next then some (.cells (Tr.ofList l) (aA l) none)else X c,?_,h4⟩
 refine⟨h.ov.newX _,?_,h.k,by rw[zqq];exact h.kA,?_,?_,?_,?_⟩
 ·intro b y hb
  have:X b=some y:=h.le b y hb
  show(if b=HA.next then _ else X b)=some y
  rw[yaa,this];intro e;rw[e,hx]at this;cases this
 ·intro j u hj
  rw[pH,yaa]
  ·exact h.tms j u hj
  ·rintro⟨e,_⟩
   injection e with e
   subst e;have hj:st.tm.get d=some u:=hj
   rw[hj]at h2
   cases h2
 ·intro j p hj
  have hj:cH j ((d,d,0)::st.ad)=some p:=hj
  rw[gS]at hj;rw[pH];split at hj
  ·rename_i e
   cases hj;rw[yab ⟨by rw[e],by rw[e];exact kB.1 h1⟩]
   show some (zA.ptr HA.next 0)=some (zA.ptr (if d=d then HA.next else ν d) 0)
   rw[yab rfl]
  ·rename_i e
   rw[yaa (fun hh=>e (by injection hh.1 with e1;exact e1.symm))]
   have hm:=z1s hj
   unfold z6s at h3;rw[iG,ycb]at h3;have:=h3 _ hm
   simp only[iB]at this;have hne:p.1≠d:=by
    intro e2;rw[yab (oB.2 e2)]at this
    exact e (oB.1 this)
   show Tm.get tm j=some (zA.ptr (if p.1=d then HA.next else ν p.1) p.2)
   rw[yaa hne];exact h.ads j p hj
 ·intro c m hc
  have hc:(st.lo.set d l).get c=some m:=hc
  rw[Tr.get_set]at hc;show X0 (if c=d then HA.next else ν c)=none/\C.base<=(if c=d then HA.next else ν c)/\∃c',(if (if c=d then HA.next else ν c)=HA.next then some (rA.cells (Tr.ofList l) (aA l) none)else X (if c=d then HA.next else ν c))=some (.cells c' m.length none)/\∀j a,m[j]?=some a->c'.get j=some a
  split at hc
  ·rename_i e
   cases hc;simp only[e,if_true];refine⟨?_,h.ov.base,Tr.ofList l,by rw[gC],fun j a hj=>by rw[Tr.get_ofList];exact hj⟩
   cases hq:X0 HA.next with
   | none=>rfl
   | some z=>have:=h.le _ _ hq;rw[hx]at this;cases this
  ·rename_i e
   simp only[yaa e];obtain⟨g1,g2,c',g3,g4⟩:=h.lo c m hc
   refine⟨g1,g2,c',?_,g4⟩
   rw[yaa,g3];intro e2;rw[e2,hx]at g3;cases g3
 ·intro c c' m m' hc hc' he
  have hc:(st.lo.set d l).get c=some m:=hc
  have hc':(st.lo.set d l).get c'=some m':=hc'
  have he:(if c=d then HA.next else ν c)=(if c'=d then HA.next else ν c'):=he
  rw[Tr.get_set]at hc hc'
  split at hc<;>split at hc'
  ·rename_i e1 e2;rw[e1,e2]
  ·rename_i e1 e2
   rw[yab e1,yaa e2]at he;obtain⟨_,_,_,g3,_⟩:=h.lo c' m' hc'
   rw[<- he,hx]at g3;cases g3
  ·rename_i e1 e2
   rw[yaa e1,yab e2]at he;obtain⟨_,_,_,g3,_⟩:=h.lo c m hc
   rw[he,hx]at g3;cases g3
  ·rename_i e1 e2
   rw[yaa e1,yaa e2]at he;exact h.inj c c' m m' hc hc' he
def fE.setLo(h:fE C.base X0 kf ν X st tm HA t){d:Nat}{l l':List zA}{c':Tr zA}(h1:st.lo.get d=some l)(h2:l'.length=l.length)(h3:∀j a,l'[j]?=some a->c'.get j=some a) :
  ∃X',fE C.base X0 kf ν X' ⟨st.tm,st.ad,st.lo.set d l',st.lit⟩ tm (setBlk HA (ν d) (.cells c' l.length none)) t:=by
 obtain⟨g1,g2,c,g3,g4⟩:=h.lo d l h1
 refine⟨_,h.ov.setX g3 _,?_,h.k,h.kA,h.tms,h.ads,?_,?_⟩
 ·intro b y hb
  show(if b=ν d then _ else X b)=some y
  rw[yaa]
  ·exact h.le b y hb
  ·intro e;rw[e,g1]at hb;cases hb
 ·intro e m he
  have he:(st.lo.set d l').get e=some m:=he
  rw[Tr.get_set]at he;split at he
  ·rename_i e1
   cases he;subst e1;exact⟨g1,g2,c',by show(if ν e=ν e then _ else _)=_;rw[yab rfl,h2],h3⟩
  ·rename_i e1
   obtain⟨k1,k2,k3,k4,k5⟩:=h.lo e m he
   refine⟨k1,k2,k3,?_,k5⟩
   show(if ν e=ν d then _ else X (ν e))=_
   rw[yaa,k4];intro e2;exact e1 (h.inj e d m l he h1 e2)
 ·intro e e' m m' he he' hv
  have he:(st.lo.set d l').get e=some m:=he
  have he':(st.lo.set d l').get e'=some m':=he'
  rw[Tr.get_set]at he he'
  have x1:∃q,st.lo.get e=some q:=by
   split at he
   ·rename_i e1;rw[e1];exact⟨l,h1⟩
   ·exact⟨m,he⟩
  have x2:∃q,st.lo.get e'=some q:=by
   split at he'
   ·rename_i e1;rw[e1];exact⟨l,h1⟩
   ·exact⟨m',he'⟩
  exact h.inj e e' _ _ x1.choose_spec x2.choose_spec hv
def fE.later(h:fE C.base X0 kf ν X st tm HA t){X':Xt}{HA':xA}{t':Tr rA}(ho:Ov C.base t' X' HA')(hx:XLe X X'):fE C.base X0 kf ν X' st tm HA' t':=
 ⟨ho,h.le.trans hx,h.k,h.kA,h.tms,h.ads,fun d l hd=>by
  obtain⟨g1,g2,c,g3,g4⟩:=h.lo d l hd
  exact⟨g1,g2,c,hx _ _ g3,g4⟩,h.inj⟩
def zcf{ty:Nat}{v:zA}(h:fitB C ty v=true):z4t C ty v:=by
 unfold fitB at h;unfold z4t
 cases hy:C.tys.get ty with
 | none=>trivial
 | some y=>
  rw[hy]at h;simp only at h ⊢
  unfold fitD
  cases hd:y.desc<;>rw[hd]at h<;>simp only at h ⊢
  case bool=>
   have:=oB.1 h
   cases v<;>simp only[zA.tag]at this<;>first
    | exact⟨_,rfl⟩
    | (cases this;done)
  case int k=>
   cases v<;>simp only[zA.asIntK]at h<;>first
    | exact⟨_,by rw[jI.1 h]⟩
    | (cases h;done)
  case string=>
   have:=oB.1 h
   cases v<;>simp only[zA.tag]at this<;>first
    | exact⟨_,rfl⟩
    | (cases this;done)
def ziq{ty:Nat}{v:zA}(h:(!Nat.ble (oG C ty) 2)=true):z4t C ty v:=by
 unfold z4t;unfold oG at h
 cases hy:C.tys.get ty with
 | none=>trivial
 | some y=>
  rw[hy]at h;simp only at h ⊢
  unfold fitD
  cases hd:y.desc<;>rw[hd]at h<;>first
   | trivial
   | (simp only[nD.tag]at h;exact absurd h (by decide))
def zef:∀(zs l:List zA) (pre:List zA),mL zs l=true->yM zs (cellsOf (pre++l)) pre.length=l:=by
 intro zs;induction zs with
 | nil=>intro l pre h;cases l with
  | nil=>rfl
  | cons a l=>cases h
 | cons z zs ih=>
  intro l pre h
  cases l with
  | nil=>cases h
  | cons a l=>
   unfold mL at h;rw[ybb]at h;show zkp z (cellsOf (pre++a::l)) pre.length::yM zs (cellsOf (pre++a::l)) (pre.length+1)=a::l
   have e2:=ih l (pre++[a]) h.2
   rw[ybz]at e2;simp only[List.cons_append,yah,ybg,ybn,ybx]at e2;rw[e2];congr 1
   have hg:(pre++a::l)[pre.length]?=some a:=by simp
   have h1:=h.1
   cases z<;>simp only[zve]at h1<;>simp only[zkp,cellsOf,wR,zzt,z2u,zji,hg]<;>try (cases h1;done)
   case bool=>
    have:=oB.1 h1
    cases a<;>simp only[zA.tag]at this<;>first
     | rfl
     | (cases this;done)
   case int k _=>
    cases a<;>simp only[zA.asIntK]at h1<;>first
     | (rw[jI.1 h1];done)
     | (cases h1;done)
   case str=>
    have:=oB.1 h1
    cases a<;>simp only[zA.tag]at this<;>first
     | rfl
     | (cases this;done)
def zp3{ty:Nat}{v:zA}{K:zA->T}(h:pA C.base W J (zwf C ty v K) t Q):z4t C ty v/\pA C.base W J (K v) t Q:=by
 unfold zwf at h;unfold z4t;have agg:∀zs,pA C.base W J (bif Nat.ble (aA zs) 40 then .asG zs v fun X=>K (.agg (yM zs X 0))else K v) t Q->pA C.base W J (K v) t Q:=by
  intro zs h;rw[iB]at h;split at h
  ·have h:sE (kK zs v) fun X=>pA C.base W J (K (.agg (yM zs X 0))) t Q:=h
   rw[uO]at h;obtain⟨X,h1,h2⟩:=h
   unfold kK at h1;simp only[sA,xB]at h1;obtain⟨l,h3,h4,h5⟩:=h1
   cases h5;have:=zef zs l [] h4
   simp only[yah,ybx]at this;rw[this]at h2;rw[lV.1 h3];exact h2
  ·exact h
 cases hy:C.tys.get ty with
 | none=>rw[hy]at h;exact⟨trivial,h⟩
 | some y=>
  rw[hy]at h;simp only at h ⊢
  unfold fitD
  cases hd:y.desc<;>rw[hd]at h<;>simp only at h ⊢
  case bool=>
   have h:sE v.asBool fun n=>pA C.base W J (K (.bool n)) t Q:=h
   rw[uO]at h;obtain⟨b,h1,h2⟩:=h
   rw[tR.1 h1];exact⟨⟨b,rfl⟩,h2⟩
  case int k=>
   have h:sE (z9o k v) fun n=>pA C.base W J (K (.int k n)) t Q:=h
   rw[uO]at h;obtain⟨b,h1,h2⟩:=h
   unfold z9o at h1;simp only[sA,xB]at h1;obtain⟨p,h3,h4,h5⟩:=h1
   cases h5;rw[xP.1 h3,jI.1 h4];exact⟨⟨_,rfl⟩,h2⟩
  case string=>
   have h:sE v.asStr fun n=>pA C.base W J (K (.str n)) t Q:=h
   rw[uO]at h;obtain⟨b,h1,h2⟩:=h
   rw[yP.1 h1];exact⟨⟨b,rfl⟩,h2⟩
  all_goals first
   | exact⟨trivial,agg _ h⟩
   | exact⟨trivial,h⟩
def qX{g lt:Bool}{v:zA}{K:zA->Bool->T}(h:pA C.base W J (zfp g lt v K) t Q):∃lt',pA C.base W J (K v lt') t Q:=by
 unfold zfp at h
 cases g with
 | false=>exact⟨lt,h⟩
 | true=>
  cases lt with
  | true=>exact⟨true,h⟩
  | false=>
   simp only[cond_true,cond_false]at h;rw[eD]at h;obtain⟨b,h1,h2⟩:=h
   rw[tR.1 h1];have h2:if b=true then pA C.base W J (K (.bool true) true) t Q else pA C.base W J (K (.bool false) true) t Q:=h2
   cases b with
   | true=>exact⟨true,h2⟩
   | false=>exact⟨true,h2⟩
def zcr(h:fE C.base X0 kf ν X st tm HA t){g:Option (Nat × Bool)}{all:Array Oper}{w:Bool}(hw:jE g all st.tm=some w):jE g all tm=some w:=by
 unfold jE zvk at hw ⊢
 cases g with
 | none=>exact hw
 | some jw=>
  simp only[zje]at hw ⊢
  rw[sA]at hw ⊢
  obtain⟨d,h1,hw⟩:=hw
  refine⟨d,h1,?_⟩
  rw[sA]at hw ⊢
  obtain⟨v,h2,hw⟩:=hw
  exact⟨v,h.tms _ _ h2,hw⟩
def SK (C:oA)(W J:bG)(X0:Xt)(kf:Nat)(Q:bB)(κ:KT)(m:Tm->xA->wB):Prop:=∀st tm HA t X ν,fE C.base X0 kf ν X st tm HA t->pA C.base W J (κ st) t Q->wC C.base X0 Q (m tm HA)
def wC.norm{ty:Nat}{v:zA}{K:zA->wB}(hf:z4t C ty v)(h:wC C.base X0 Q (K v)):wC C.base X0 Q (xJ C ty v K):=by
 obtain⟨u,t',HA',X',h1,h2⟩:=h
 exact⟨u,t',HA',X',cK.2 ⟨hf,h1⟩,h2⟩
def wC.ob{α:Type}{x:Option α}{a:α}{K:α->wB}(hx:x=some a)(h:wC C.base X0 Q (K a)):wC C.base X0 Q (Am.ob x K):=by subst hx;exact h
def zw7(hW:qP C A W){e eA:mC}{ae:uK}(he:oN e eA)(ha:zbh ν ae eA)(hst:fE C.base X0 kf ν X st tm HA t){la:List Nat}{all:Array Oper}{o:Oper}{κ:KT}{m:Tm->xA->wB}
  (hκ:∀st' tm' HA' t' X' ν',(la=[]->ν'=ν)->fE C.base X0 kf ν' X' st' tm' HA' t'->(∃v,tm'=putA n tm o.dst v)->pA C.base W J (κ st') t' Q->wC C.base X0 Q (m tm' HA'))
  (h:pA C.base W J (tH C la o.dst o.op e ae st.lo (kop C all n o e st κ) (klo C n o st κ)) t Q) :
  wC C.base X0 Q (oF (wD C A) ((wF o.op).f C eA HA) HA fun v H'=>xJ C o.type v fun v=>m (putA n tm o.dst v) H'):=by
 refine tH_ok hW he ha hst.ov hst.lo h ?_ ?_ ?_ ?_ ?_
 ·intro v t' HA' X' ho hx hk
  have hk:pA C.base W J (zwf C o.type v fun v=>zfp (zij all.toList o.dst all.toList) (z3x o.op e st.lit) v fun v lt=>zp2 n o.dst v lt st κ) t' Q:=hk
  obtain⟨h1,h2⟩:=zp3 hk
  obtain⟨lt',h3⟩:=qX h2
  obtain⟨st',h4,h5⟩:=(hst.later ho hx).put h3
  exact wC.norm h1 (hκ _ _ _ _ _ _ (fun _=>rfl) h4 ⟨v,rfl⟩ h5)
 ·intro v t' HA' X' ho hx hk
  obtain⟨h1,h2⟩:=tK.1 hk
  obtain⟨lt',h3⟩:=qX h2
  obtain⟨st',h4,h5⟩:=(hst.later ho hx).put h3
  exact wC.norm (zcf h1) (hκ _ _ _ _ _ _ (fun _=>rfl) h4 ⟨v,rfl⟩ h5)
 ·intro d off hk
  obtain⟨h1,h2⟩:=tK.1 hk
  obtain⟨st',h4,h5⟩:=hst.putA h2
  exact wC.norm (ziq h1) (hκ _ _ _ _ _ _ (fun _=>rfl) h4 ⟨_,rfl⟩ h5)
 ·intro d l hd hk
  obtain⟨h1,h2⟩:=tK.1 hk
  obtain⟨st',ν',X',h4,h5⟩:=hst.new h2
  have e:=zyy hd
  rw[e];refine wC.norm (ziq h1) (hκ _ _ _ _ _ _ (fun hl=>?_) h4 ⟨_,by rw[e]⟩ h5)
  rw[hl,e]at hd
  cases hd
 ·intro d l l' c' h1 h2 h3 hk
  obtain⟨h4,h5⟩:=tK.1 hk
  obtain⟨X',h6⟩:=hst.setLo h1 h2 h3
  obtain⟨st',h7,h8⟩:=h6.put h5
  exact wC.norm (zcf h4) (hκ _ _ _ _ _ _ (fun _=>rfl) h7 ⟨_,rfl⟩ h8)
def zh7(h:fE C.base X0 kf ν X st tm HA t):oN (.now st.tm) (.now tm)/\zbh ν (.now st.ad) (.now tm):=⟨h.tms,h.ads⟩
def z76(hW:qP C A W){la:List Nat}{all:Array Oper}{κ:KT}{m:Tm->xA->wB}(hκ:SK C W J X0 kf Q κ m):∀(l:List Oper),SK C W J X0 kf Q (tops C la all n κ l) (aJ C (wD C A) all n m l):=by
 intro l;induction l with
 | nil=>exact hκ
 | cons o l ih=>
  intro st tm HA t X ν hst h;have h:pA C.base W J (jB (jE o.guard all st.tm) fun w=>Bool.rec (motive:=fun _=>T) (zp2 n o.dst pD false st (tops C la all n κ l))
   (tH C la o.dst o.op (.now st.tm) (.now st.ad) st.lo (kop C all n o (.now st.tm) st (tops C la all n κ l)) (klo C n o st (tops C la all n κ l))) w) t Q:=h
  rw[eD]at h;obtain⟨w,h1,h2⟩:=h
  rw[oT];refine wC.ob (zcr hst h1) ?_
  cases w with
  | false=>
   rw[yaa (by simp)]
   obtain⟨st',h3,h4⟩:=hst.put h2
   exact ih _ _ _ _ _ _ h3 h4
  | true=>
   rw[yab rfl];exact zw7 hW (zh7 hst).1 (zh7 hst).2 hst (fun st' tm' HA' t' X' ν' _ hs _ hw=>ih _ _ _ _ _ _ hs hw) h2
end
end
section
structure zhb (ν:Nat->Nat) (old:dF) (oldA:Tm):Prop where
 tms:∀i v,old.tm.get i=some v->oldA.get i=some v
 ads:∀i p,cH i old.ad=some p->oldA.get i=some (.ptr (ν p.1) p.2)
def fE.old{base:Nat}{X0 X:Xt}{kf:Nat}{ν:Nat->Nat}{st:dF}{tm:Tm}{HA:xA}{t:Tr rA}(h:fE base X0 kf ν X st tm HA t):zhb ν st tm:=⟨h.tms,h.ads⟩
def Tm.get_cut{tm:Tm}{i:Nat}:tm.cut.get i=if i<tm.k then tm.get i else none:=by
 unfold Tm.cut Tm.get;simp only[xH];by_cases h:Nat.blt i tm.k=true
 ·rw[yab h,yab h,yab (kB.1 h)]
 ·rw[yaa h,yaa (fun e=>h (kB.2 e))];rfl
def z1t{k i:Nat}:∀ {l:List (Nat × Nat × Nat)},cH i (mC.adCut k l)=if i<k then cH i l else none:=by
 intro l;induction l with
 | nil=>show none=_;split<;>rfl
 | cons a l ih=>
  unfold mC.adCut at ih ⊢
  rw[List.filter_cons];split
  ·rename_i ha
   have ha:=kB.1 ha
   rw[gS,ih,gS];split
   ·rename_i e;rw[yab (by omega)]
   ·rfl
  ·rename_i ha
   rw[ih,gS];split
   ·rename_i hi
    rw[yaa];intro e;exact ha (kB.2 (by omega))
   ·rfl
section
variable {W J:bG}{t:Tr rA}{X X0:Xt}{HA:xA}{C:oA}{A:Tr qD}{ν:Nat->Nat}{Q:bB}{kf n:Nat}{st old:dF}{tm oldA:Tm}{all:Array Oper}{olds:List (Nat × List Nat)}
def fE.cut(h:fE C.base X0 kf ν X st tm HA t):fE C.base X0 kf ν X st.cut tm.cut HA t:=by
 refine⟨h.ov,h.le,h.k,h.kA,?_,?_,h.lo,h.inj⟩
 ·intro i v hi
  have hi:st.tm.cut.get i=some v:=hi
  rw[Tm.get_cut]at hi ⊢
  split at hi
  ·rename_i e;rw[yab (by rw[h.kA,<- h.k];exact e)];exact h.tms i v hi
  ·cases hi
 ·intro i p hi
  have hi:cH i (mC.adCut st.tm.k st.ad)=some p:=hi
  rw[z1t]at hi;rw[Tm.get_cut];split at hi
  ·rename_i e;rw[yab (by rw[h.kA,<- h.k];exact e)];exact h.ads i p hi
  ·cases hi
def mT(h:fE C.base X0 kf ν X st tm HA t)(ho:zhb ν old oldA){os:List Nat}{op:Op}:oN (zoa st old os op) (.mixed tm oldA os (aF op))/\zbh ν (z3t st old os op) (.mixed tm oldA os (aF op)):=by
 constructor
 ·intro i v hi
  have hi:(bif cE i (aF op)then Tm.get (bif cE i os then old.tm else st.tm) i else none)=some v:=hi
  show(bif cE i (aF op)then Tm.get (bif cE i os then oldA else tm) i else none)=some v
  cases hm:cE i (aF op)with
  | false=>rw[hm]at hi;cases hi
  | true=>
   rw[hm]at hi;simp only[cond_true]at hi ⊢
   cases hq:cE i os with
   | true=>rw[hq]at hi;exact ho.tms i v hi
   | false=>rw[hq]at hi;exact h.tms i v hi
 ·intro i p hi
  have hi:(bif cE i (aF op)then cH i (bif cE i os then old.ad else st.ad)else none)=some p:=hi
  show(bif cE i (aF op)then Tm.get (bif cE i os then oldA else tm) i else none)=_
  cases hm:cE i (aF op)with
  | false=>rw[hm]at hi;cases hi
  | true=>
   rw[hm]at hi;simp only[cond_true]at hi ⊢
   cases hq:cE i os with
   | true=>rw[hq]at hi;exact ho.ads i p hi
   | false=>rw[hq]at hi;exact h.ads i p hi
def zav(ho:zhb ν old oldA){κ:KT}{kd:Tm->wB}(hκ:∀st' tm',fE C.base X0 kf ν X st' tm' HA t->pA C.base W J (κ st') t Q->wC C.base X0 Q (kd tm')) :
  ∀(l:List Nat) (st:dF) (tm:Tm),fE C.base X0 kf ν X st tm HA t->pA C.base W J (eM C all n old olds κ l st) t Q->wC C.base X0 Q (jG C HA all n oldA olds kd l tm):=by
 intro l;induction l with
 | nil=>exact hκ
 | cons i l ih=>
  intro st tm hst h;have h:pA C.base W J (jB (iC all.toList i) fun o=>jB (jE o.guard all st.tm) fun w=>Bool.rec (motive:=fun _=>T) (zp2 n o.dst pD false st (eM C all n old olds κ l))
   (tL C o.op (zoa st old (iD i olds) o.op) (z3t st old (iD i olds) o.op) st.lo (kop C all n o (zoa st old (iD i olds) o.op) st (eM C all n old olds κ l))) w) t Q:=h
  rw[eD]at h;obtain⟨o,h0,h⟩:=h
  rw[eD]at h;obtain⟨w,h1,h2⟩:=h
  rw[wY];refine wC.ob h0 (wC.ob (zcr hst h1) ?_)
  cases w with
  | false=>
   rw[yaa (by simp)]
   obtain⟨st',h3,h4⟩:=hst.put h2
   exact ih _ _ h3 h4
  | true=>
   rw[yab rfl];refine Exists.elim (z79 (R:=fun v=>wC C.base X0 Q (xJ C o.type v fun v=>jG C HA all n oldA olds kd l (putA n tm o.dst v))) (mT hst ho).1 (mT hst ho).2 hst.ov hst.lo h2 ?_ ?_ ?_) (fun v h=>wC.ob h.1 h.2)
   ·intro v hk
    have hk:pA C.base W J (zwf C o.type v fun v=>zfp (zij all.toList o.dst all.toList) (z3x o.op (zoa st old (iD i olds) o.op) st.lit) v fun v lt=>zp2 n o.dst v lt st (eM C all n old olds κ l)) t Q:=hk
    obtain⟨g1,g2⟩:=zp3 hk
    obtain⟨lt',g3⟩:=qX g2
    obtain⟨st',g4,g5⟩:=hst.put g3
    exact wC.norm g1 (ih _ _ g4 g5)
   ·intro v hk
    obtain⟨g1,g2⟩:=tK.1 hk
    obtain⟨lt',g3⟩:=qX g2
    obtain⟨st',g4,g5⟩:=hst.put g3
    exact wC.norm (zcf g1) (ih _ _ g4 g5)
   ·intro d off hk
    obtain⟨g1,g2⟩:=tK.1 hk
    obtain⟨st',g4,g5⟩:=hst.putA g2
    exact wC.norm (ziq g1) (ih _ _ g4 g5)
def zwc(ho:zhb ν old oldA)(hst:fE C.base X0 kf ν X st tm HA t){k:T}{kd:wB}(hk:pA C.base W J k t Q->wC C.base X0 Q kd) :
  ∀(l:List Nat),pA C.base W J (mP C all old olds st k l) t Q->wC C.base X0 Q (rJ C HA all oldA olds tm kd l):=by
 intro l;induction l with
 | nil=>exact hk
 | cons i l ih=>
  intro h;have h:pA C.base W J (jB (iC all.toList i) fun o=>jB o.dst fun d=>jB (jE o.guard all st.tm) fun w=>Bool.rec (motive:=fun _=>T) (mP C all old olds st k l)
   (jB (st.tm.get d) fun u=>gdT (fitB C o.type u) (tL C o.op (zoa st old (iD i olds) o.op) (z3t st old (iD i olds) o.op) st.lo ⟨fun v=>.ite (same 10 v u) (mP C all old olds st k l) .fail,fun v=>.ite (same 10 v u) (mP C all old olds st k l) .fail,fun _ _=>.fail⟩)) w) t Q:=h
  rw[eD]at h;obtain⟨o,h0,h⟩:=h
  rw[eD]at h;obtain⟨d,h1,h⟩:=h
  rw[eD]at h;obtain⟨w,h2,h⟩:=h
  rw[kZ];refine wC.ob h0 (wC.ob h1 (wC.ob (zcr hst h2) ?_))
  cases w with
  | false=>rw[yaa (by simp)];exact ih h
  | true=>
   rw[yab rfl];simp only[eD,tK]at h;obtain⟨u,h3,h4,h5⟩:=h
   have aE:∀v,pA C.base W J (.ite (same 10 v u) (mP C all old olds st k l) .fail) t Q->wC C.base X0 Q (xJ C o.type v fun v=>ob (tm.get d) fun u=>cA (same 10 v u) (rJ C HA all oldA olds tm kd l)):=by
    intro v hv;have hv:if same 10 v u=true then pA C.base W J (mP C all old olds st k l) t Q else False:=hv
    split at hv
    ·rename_i hs
     refine wC.norm ?_ (wC.ob (hst.tms _ _ h3) ?_)
     ·rw[iU _ _ _ hs];exact zcf h4
     ·rw[hs];exact ih hv
    ·exact hv.elim
   obtain⟨v,h6,h7⟩:=z79 (R:=fun v=>wC C.base X0 Q (xJ C o.type v fun v=>ob (tm.get d) fun u=>cA (same 10 v u) (rJ C HA all oldA olds tm kd l))) (mT hst ho).1 (mT hst ho).2 hst.ov hst.lo h5 aE aE (fun _ _ h=>h.elim)
   exact wC.ob h6 h7
def z2d(hst:fE C.base X0 kf ν X st tm HA t){h:Nat}{o:Oper}{w:Bool}(hw:yO C all h o st.tm=some w):yO C all h o tm=some w:=by
 unfold yO at hw ⊢
 rw[sA]at hw ⊢
 obtain⟨u,h1,h2⟩:=hw
 exact⟨u,zcr hst h1,h2⟩
def zum{e e':mC}(he:oN e e'){op:Op}{ef:Eff}(h:bO op e=some ef):bO op e'=some ef:=by
 cases op<;>first | (cases h;done) | skip
 case store t a x=>
  simp only[bO,sA]at h ⊢
  obtain⟨a,h1,v,h2,h⟩:=h
  exact⟨a,fC he h1,v,fC he h2,h⟩
 case mapUpdate t m k x=>
  simp only[bO,sA]at h ⊢
  obtain⟨a,h1,v,h2,u,h3,h⟩:=h
  exact⟨a,fC he h1,v,fC he h2,u,fC he h3,h⟩
 case insert t m k x=>
  simp only[bO,sA]at h ⊢
  obtain⟨a,h1,v,h2,u,h3,h⟩:=h
  exact⟨a,fC he h1,v,fC he h2,u,fC he h3,h⟩
def z8a{op:Op}{e:mC}{ae:uK}{ef:Eff}(h:tEff op e ae=some ef):bO op e=some ef:=by
 cases op<;>first | exact h | skip
 case store t a x=>
  unfold tEff at h;simp only[]at h;split at h
  ·cases h
  ·exact h
def z2o(hst:fE C.base X0 kf ν X st tm HA t)(ho:zhb ν old oldA){l:List Nat}{es:List Eff}(h:z2p all old olds st l=some es):zul all oldA olds tm l=some es:=by
 refine zY l (fun i ef h=>?_) h
 unfold zfg;simp only[sA,xB]at h ⊢
 obtain⟨o,h1,w,h2,h3,h4⟩:=h
 exact⟨o,h1,w,zcr hst h2,h3,zum (mT hst ho).1 (z8a h4)⟩
def zs1(hW:qP C A W)(ho:zhb ν old oldA){κ:KT}{m:Tm->xA->wB}(hκ:SK C W J X0 kf Q κ m) :
  ∀(l:List uE) (st:dF) (tm:Tm) (HA:xA) (t:Tr rA) (X:Xt),fE C.base X0 kf ν X st tm HA t->pA C.base W J (mR C all n old olds κ l st) t Q->wC C.base X0 Q (dG C (wD C A) all n oldA olds m l tm HA):=by
 intro l;induction l with
 | nil=>intro st tm HA t X hst h;exact hκ _ _ _ _ _ _ hst h
 | cons s l ih=>
  intro st tm HA t X hst h
  cases hg:cN all s with
  | true=>
   have h:pA C.base W J (Bool.rec (motive:=fun _=>T) _ (gdT (eP C all) (jB (z2p all old olds st s.again) fun es=>.heavy (nP C es) fun _=>eM C all n old olds (mR C all n old olds κ l) s.lights st)) (cN all s)) t Q:=h
   rw[hg]at h;have h:pA C.base W J (gdT (eP C all) (jB (z2p all old olds st s.again) fun es=>.heavy (nP C es) fun _=>eM C all n old olds (mR C all n old olds κ l) s.lights st)) t Q:=h
   rw[tK]at h;obtain⟨h0,h⟩:=h
   rw[eD]at h;obtain⟨es,h1,h⟩:=h
   have h:=h HA.next hst.ov.nextT hst.ov.base
   rw[uO]at h;obtain⟨⟨v,H'⟩,h2,h3⟩:=h
   obtain⟨HA',h4,h5⟩:=zvq _ _ _ _ _ hst.ov h2
   have h6:yQ C es HA=some HA':=by
    unfold nP at h4;rw[sA]at h4;obtain⟨y,g1,g2⟩:=h4
    cases g2
    exact g1
   rw[aV hg];unfold zlf;rw[h0];show wC C.base X0 Q (ob (zul all oldA olds tm s.again) fun es=>ob (yQ C es HA) fun H'=>jG C H' all n oldA olds (fun tm=>dG C (wD C A) all n oldA olds m l tm H') s.lights tm)
   refine wC.ob (z2o hst ho h1) (wC.ob h6 ?_)
   exact zav ho (fun st' tm' hs hw=>ih _ _ _ _ _ hs hw) _ _ _ (hst.later h5 (XLe.refl _)) h3
  | false=>
  have h:pA C.base W J (Bool.rec (motive:=fun _=>T) (jB (iC all.toList (hvI all s.heavy)) fun o=>jB (yO C all s.heavy o st.tm) fun w=>
   (fun cont:KT=>Bool.rec (motive:=fun _=>T) (zp2 n o.dst pD false st cont)
    (tH C [] o.dst o.op (zoa st old (iD (hvI all s.heavy) olds) o.op) (z3t st old (iD (hvI all s.heavy) olds) o.op) st.lo (kop C all n o (zoa st old (iD (hvI all s.heavy) olds) o.op) st cont) (klo C n o st cont)) w)
   (fun st'=>mP C all old olds st' (eM C all n old olds (mR C all n old olds κ l) s.lights st') s.again)) _ (cN all s)) t Q:=h
  rw[hg]at h;have h:pA C.base W J (jB (iC all.toList (hvI all s.heavy)) fun o=>jB (yO C all s.heavy o st.tm) fun w=>
   (fun cont:KT=>Bool.rec (motive:=fun _=>T) (zp2 n o.dst pD false st cont)
    (tH C [] o.dst o.op (zoa st old (iD (hvI all s.heavy) olds) o.op) (z3t st old (iD (hvI all s.heavy) olds) o.op) st.lo (kop C all n o (zoa st old (iD (hvI all s.heavy) olds) o.op) st cont) (klo C n o st cont)) w)
   (fun st'=>mP C all old olds st' (eM C all n old olds (mR C all n old olds κ l) s.lights st') s.again)) t Q:=h
  rw[eD]at h;obtain⟨o,h0,h⟩:=h
  rw[eD]at h;obtain⟨w,h1,h2⟩:=h
  rw[kU hg];refine wC.ob h0 (wC.ob (z2d hst h1) ?_)
  have aE:∀st' tm' HA' t' X' ν',ν'=ν->fE C.base X0 kf ν' X' st' tm' HA' t'->pA C.base W J (mP C all old olds st' (eM C all n old olds (mR C all n old olds κ l) s.lights st') s.again) t' Q →
    wC C.base X0 Q (rJ C HA' all oldA olds tm' (jG C HA' all n oldA olds (fun tm=>dG C (wD C A) all n oldA olds m l tm HA') s.lights tm') s.again):=by
   intro st' tm' HA' t' X' ν' e hs hw;subst e;exact zwc ho hs (fun hl=>zav ho (fun st2 tm2 hs2 hw2=>ih _ _ _ _ _ hs2 hw2) _ _ _ hs hl) _ hw
  cases w with
  | false=>
   simp only[ybq,if_false];obtain⟨st',h3,h4⟩:=hst.put h2
   exact aE _ _ _ _ _ _ rfl h3 h4
  | true=>
   simp only[if_true];exact zw7 (m:=fun tm' HA'=>rJ C HA' all oldA olds tm' (jG C HA' all n oldA olds (fun tm=>dG C (wD C A) all n oldA olds m l tm HA') s.lights tm') s.again)
    hW (mT hst ho).1 (mT hst ho).2 hst (fun st' tm' HA' t' X' ν' hn hs _ hw=>aE _ _ _ _ _ _ (hn rfl) hs hw) h2
def zs3(hW:qP C A W){la:List Nat}{fn id:Nat}{d:Bool}{κ:KT}{m:Tm->xA->wB}(hκ:SK C W J X0 kf Q κ m):SK C W J X0 kf Q (zv4 C la fn n κ id all d) (dU C (wD C A) fn n m id all d):=by
 intro st tm HA t X ν hst h
 cases d with
 | false=>exact z76 hW hκ _ _ _ _ _ _ _ hst.cut h
 | true=>
  have h:pA C.base W J (jB (ob (C.plans.get fn) fun t=>t.get id) fun p=>gdT (fN all p) (eM C all n st.cut p.olds (mR C all n st.cut p.olds κ p.stages) p.first st.cut)) t Q:=h
  simp only[eD,tK]at h;obtain⟨p,h1,h2,h3⟩:=h
  show wC C.base X0 Q (ob (ob (C.plans.get fn) fun t=>t.get id) fun p=>cA (fN all p) (jG C HA all n tm.cut p.olds (fun tm'=>dG C (wD C A) all n tm.cut p.olds m p.stages tm' HA) p.first tm.cut))
  refine wC.ob h1 ?_
  rw[h2];exact zav hst.cut.old (fun st' tm' hs hw=>zs1 hW hst.cut.old hκ _ _ _ _ _ _ hs hw) _ _ _ hst.cut h3
end
structure PtD where
 p:PI
 m:Tm->xA->wB
def bJ(C:oA)(φ:Ora)(fn n:Nat):qD->Kt->List PtD
 | .skip,_=>[]
 | .region _ _ _,_=>[]
 | .seq a b,κ=>bJ C φ fn n a ⟨rD C φ fn n b κ,κ.exit,κ.ret⟩++bJ C φ fn n b κ
 | .cond _ x y,κ=>bJ C φ fn n x κ++bJ C φ fn n y κ
 | .block id c,κ=>bJ C φ fn n c ⟨κ.norm,fun i tm H=>Bool.rec (motive:=fun _=>wB) (κ.exit i tm H) (κ.norm tm H) (Nat.beq id i),κ.ret⟩
 | .loop p c,κ=>⟨p,rD C φ fn n (.loop p c) κ⟩::bJ C φ fn n c ⟨rD C φ fn n (.loop p c) κ,κ.exit,κ.ret⟩
 | .exit _,_=>[]
 | .ret,_=>[]
 | .cut p c,κ=>⟨p,rD C φ fn n (.cut p c) κ⟩::bJ C φ fn n c κ
 | .range i pl fo ps id ops c,_=>⟨⟨i,aC pl ps.toList,[]⟩,z5i C φ fn n ⟨i,pl,fo,ps,id,ops,c⟩⟩::bJ C φ fn n c rdK
def z5z(base kf:Nat)(d:PtD)(vals:List zA)(t:Tr rA)(Q:bB):Prop:=∀X0 X HA tm ν,fE base X0 kf ν X (zvb kf d.p vals) tm HA t->wC base X0 Q (d.m tm HA)
def JOk (base kf:Nat)(J:bG)(l:List PtD):Prop:=∀d∈l,∀vals t Q,J d.p.id vals t Q->z5z base kf d vals t Q
structure SKt (C:oA) (W J:bG) (X0:Xt) (kf:Nat) (Q:bB) (κ:KtT) (m:Kt):Prop where
 norm:SK C W J X0 kf Q κ.norm m.norm
 exit:∀i,SK C W J X0 kf Q (κ.exit i) (m.exit i)
 ret:SK C W J X0 kf Q κ.ret m.ret
def zhq{d:Nat}{l:List zA}{st:dF}:∀ {ll:List (Nat × Nat)} {b rest:List zA},zfn st ll=some b->(z18 ll (b++rest)).get d=some l->st.lo.get d=some l:=by
 intro ll;induction ll with
 | nil=>intro b rest _ h;rw[show z18 [] (b++rest)=.leaf from rfl,Tr.get_leaf]at h;cases h
 | cons p ll ih=>
  intro b rest hb h;have hb:(ob (cH p.1 st.ad) fun a=>cA (Nat.beq a.1 p.1&&Nat.beq a.2 0) (ob (st.lo.get p.1) fun l=>cA (Nat.beq (aA l) p.2) (ob (zfn st ll) fun r=>some (aC l r))))=some b:=hb
  simp only[sA,xB]at hb;obtain⟨a,_,_,l0,h2,h3,r,h4,h5⟩:=hb
  cases h5;have h:((z18 ll (wM (aC l0 r++rest) p.2)).set p.1 (zfe (aC l0 r++rest) p.2)).get d=some l:=h
  rw[oB,gC]at h3;rw[nG,dP,qO,<- h3,ybz,List.drop_left,List.take_left,Tr.get_set]at h;split at h
  ·rename_i e;cases h;rw[e];exact h2
  ·exact ih h4 h
def z2z{i:Nat}{q:Nat × Nat}{st:dF}:∀ {ll:List (Nat × Nat)} {b:List zA},zfn st ll=some b->cH i (stAd ll)=some q->cH i st.ad=some q:=by
 intro ll;induction ll with
 | nil=>intro b _ h;cases h
 | cons p ll ih=>
  intro b hb h;have hb:(ob (cH p.1 st.ad) fun a=>cA (Nat.beq a.1 p.1&&Nat.beq a.2 0) (ob (st.lo.get p.1) fun l=>cA (Nat.beq (aA l) p.2) (ob (zfn st ll) fun r=>some (aC l r))))=some b:=hb
  simp only[sA,xB,ybb,oB]at hb;obtain⟨a,h1,⟨h2,h3⟩,l0,_,_,r,h4,_⟩:=hb
  have h:cH i ((p.1,p.1,0)::stAd ll)=some q:=h
  rw[gS]at h;split at h
  ·rename_i e;cases h;rw[e];show cH p.1 st.ad=some (p.1,0);rw[h1,<- h2,<- h3]
  ·exact ih h4 h
def z2x{i:Nat}{v:zA}{st:dF}:∀ {pl:List Nat} {a rest:List zA},jF (fun i=>st.tm.get i) pl=some a->(zmo pl (a++rest)).get i=some v->st.tm.get i=some v:=by
 intro pl;induction pl with
 | nil=>intro a rest _ h;rw[show zmo [] (a++rest)=.leaf from rfl,Tr.get_leaf]at h;cases h
 | cons j pl ih=>
  intro a rest ha h;rw[oK,sA]at ha;obtain⟨u,h1,ha⟩:=ha
  rw[sA]at ha;obtain⟨r,h2,ha⟩:=ha
  cases ha;have h:((zmo pl (r++rest)).set j u).get i=some v:=h
  rw[Tr.get_set]at h;split at h
  ·rename_i e;cases h;rw[e];exact h1
  ·exact ih h2 h
def Tm.get_kv{k i:Nat}{v:Tr zA}{u:zA}(h:Tm.get ⟨k,v,[]⟩ i=some u):i<k/\v.get i=some u:=by
 unfold Tm.get at h;rw[xH]at h;split at h
 ·rename_i e;exact⟨kB.1 e,h⟩
 ·cases h
def zsr{p:PI}{st:dF}{vals:List zA}(h:zfm p st=some vals):∃a b,vals=a++b/\jF (fun i=>st.tm.get i) p.pl=some a/\zfn st p.ll=some b/\a.length=p.pl.length:=by
 unfold zfm at h;simp only[sA]at h;obtain⟨a,h1,b,h2,h3⟩:=h
 cases h3;refine⟨a,b,nG _ _,h1,h2,?_⟩
 have:∀(l:List Nat) (r:List zA),jF (fun i=>st.tm.get i) l=some r->r.length=l.length:=by
  intro l;induction l with
  | nil=>intro r h;cases h;rfl
  | cons x l ih=>
   intro r h;rw[oK,sA]at h;obtain⟨u,_,h⟩:=h
   rw[sA]at h;obtain⟨s,h5,h⟩:=h
   cases h;simp[ih _ h5]
 exact this _ _ h1
section
variable {W J:bG}{t:Tr rA}{X X0:Xt}{HA:xA}{C:oA}{A:Tr qD}{ν:Nat->Nat}{Q:bB}{kf n:Nat}{st:dF}{tm:Tm}
def fE.at(h:fE C.base X0 kf ν X st tm HA t){p:PI}{vals:List zA}(hv:zfm p st=some vals):fE C.base X0 kf ν X (zvb kf p vals) tm HA t:=by
 obtain⟨a,b,rfl,h1,h2,h3⟩:=zsr hv
 have hd:wM (a++b) (aA p.pl)=b:=by rw[dP,gC,<- h3,List.drop_left]
 refine⟨h.ov,h.le,rfl,h.kA,?_,?_,?_,?_⟩
 ·intro i v hi
  exact h.tms i v (z2x h1 (Tm.get_kv hi).2)
 ·intro i q hi
  exact h.ads i q (z2z h2 hi)
 ·intro d l hl
  have hl:(z18 p.ll (wM (a++b) (aA p.pl))).get d=some l:=hl
  rw[hd]at hl;have hb:(z18 p.ll (b++[])).get d=some l:=by rw[ycd];exact hl
  exact h.lo d l (zhq h2 hb)
 ·intro d d' l l' hl hl' he
  have hl:(z18 p.ll (wM (a++b) (aA p.pl))).get d=some l:=hl
  have hl':(z18 p.ll (wM (a++b) (aA p.pl))).get d'=some l':=hl'
  rw[hd]at hl hl'
  have hb:(z18 p.ll (b++[])).get d=some l:=by rw[ycd];exact hl
  have hb':(z18 p.ll (b++[])).get d'=some l':=by rw[ycd];exact hl'
  exact h.inj d d' l l' (zhq h2 hb) (zhq h2 hb') he
def zzh{tm:Tm}{i:Nat}{v:zA}(hv:tm.get i=some v):∀ {live:List Nat},i∈live->(zk8 tm live).get i=some v:=by
 intro live;induction live with
 | nil=>intro h;cases h
 | cons j live ih=>
  intro h;show(match tm.get j with | some v=>(zk8 tm live).set j v | none=>zk8 tm live:Tr zA).get i=some v
  by_cases e:i=j
  ·subst e;rw[hv];simp only[];rw[Tr.get_set,yab rfl]
  ·have:=ih ((ybs.1 h).resolve_left e)
   cases tm.get j with
   | none=>exact this
   | some u=>simp only[];rw[Tr.get_set,yaa e];exact this
def z2w{i:Nat}{v:zA}:∀ {pl:List Nat} {vals:List zA},(zmo pl vals).get i=some v->i∈pl:=by
 intro pl;induction pl with
 | nil=>intro vals h;rw[show zmo [] vals=.leaf from rfl,Tr.get_leaf]at h;cases h
 | cons j pl ih=>
  intro vals h
  cases vals with
  | nil=>rw[show zmo (j::pl) []=.leaf from rfl,Tr.get_leaf]at h;cases h
  | cons u vals=>
   have h:((zmo pl vals).set j u).get i=some v:=h
   rw[Tr.get_set]at h;split at h
   ·rename_i e;rw[e];exact yby
   ·exact ybr _ (ih h)
def z2y{i:Nat}{q:Nat × Nat}:∀ {ll:List (Nat × Nat)},cH i (stAd ll)=some q->i∈(List.rec (motive:=fun _=>List Nat) [] (fun a _ r=>a.1::r) ll:List Nat):=by
 intro ll;induction ll with
 | nil=>intro h;cases h
 | cons p ll ih=>
  intro h;have h:cH i ((p.1,p.1,0)::stAd ll)=some q:=h
  rw[gS]at h;split at h
  ·rename_i e;rw[e];exact yby
  ·exact ybr _ (ih h)
def fE.keep{p:PI}{vals:List zA}(hb:∀i,i∈p.kept->i<kf)(h:fE C.base X0 kf ν X (zvb kf p vals) tm HA t):fE C.base X0 kf ν X (zvb kf p vals) (Am.keep p.kept tm) HA t:=by
 have key:∀i v,i∈p.kept->tm.get i=some v->(Am.keep p.kept tm).get i=some v:=by
  intro i v hi hv;unfold Am.keep Tm.get;rw[xH,yab (kB.2 (by rw[h.kA];exact hb i hi))]
  exact zzh hv hi
 refine⟨h.ov,h.le,rfl,h.kA,?_,?_,h.lo,h.inj⟩
 ·intro i v hi
  refine key i v ?_ (h.tms i v hi)
  unfold PI.kept;rw[nG];exact ydc _ (z2w (Tm.get_kv hi).2)
 ·intro i q hi
  refine key i _ ?_ (h.ads i q hi)
  unfold PI.kept;rw[nG];exact ycf _ (z2y hi)
def zoj{l:List PtD}(hJ:JOk C.base kf J l){p:PI}{m:Tm->xA->wB}(hm:(⟨p,m⟩:PtD)∈l):SK C W J X0 kf Q (zt2 p) m:=by
 intro st tm HA t X ν hst h;unfold zt2 at h;rw[eD]at h;obtain⟨vals,h1,h2⟩:=h
 exact hJ _ hm vals t Q h2 _ _ _ _ _ (hst.at h1)
def z6p:SKt C W J X0 kf Q rdT rdK:=⟨fun _ tm HA t X _ hst h=>⟨_,t,HA,X,rfl,hst.ov,hst.le,h⟩,fun _ _ _ _ _ _ _ _ h=>h.elim,fun _ tm HA t X _ hst h=>⟨_,t,HA,X,rfl,hst.ov,hst.le,h⟩⟩
def z5v(C:oA)(A:Tr qD)(W:bG):Prop:=∀l args t Q,(∀X HA,Ov C.base t X HA->wC C.base X Q (zpc C A (yo+l) args HA))->W (yo+l) args t Q
def onX (X:Xt)(b:Nat)(y:rA):Xt:=fun c=>if c=b then some y else X c
def zkm{X:Xt}{b:Nat}{y:rA}(h:X b=none):XLe X (onX X b y):=by
 intro c z hc;unfold onX;rw[yaa (fun e=>by rw[e,h]at hc;cases hc)]
 exact hc
def Ov.under{base:Nat}(h:Ov base t X HA){b:Nat}{y:rA}(hb:t.get b=some y)(z:rA):Ov base (t.del b) (onX X b z) (Am.setBlk HA b z):=by
 refine⟨h.base,fun c hc=>?_,fun c u hc=>?_,fun c u hc=>?_⟩
 ·show(HA.t.set b z).get c=_
  unfold onX at hc;split at hc
  ·cases hc
  ·rename_i e;rw[Tr.get_set,yaa e,Tr.get_del,yaa e];exact h.same c hc
 ·show(HA.t.set b z).get c=_/\_
  unfold onX at hc;split at hc
  ·rename_i e;cases hc;subst e;exact⟨by rw[Tr.get_set,yab rfl],by rw[Tr.get_del,yab rfl],h.lt _ _ hb⟩
  ·rename_i e
   obtain⟨g1,g2,g3⟩:=h.ext c u hc
   exact⟨by rw[Tr.get_set,yaa e];exact g1,by rw[Tr.get_del,yaa e];exact g2,g3⟩
 ·rw[Tr.get_del]at hc
  split at hc
  ·cases hc
  ·exact h.lt _ _ hc
def Ov.back{base:Nat}(h:Ov base t X HA){b:Nat}{y:rA}(hb:X b=some y)(z:rA):Ov base (t.set b z) (fun c=>if c=b then none else X c) (Am.setBlk HA b z):=by
 obtain⟨g1,g2,g3⟩:=h.ext b y hb
 refine⟨h.base,fun c hc=>?_,fun c u hc=>?_,fun c u hc=>?_⟩
 ·show(HA.t.set b z).get c=_
  rw[Tr.get_set,Tr.get_set];split
  ·rfl
  ·rename_i e;rw[yaa e]at hc;exact h.same c hc
 ·show(HA.t.set b z).get c=_/\_
  split at hc
  ·cases hc
  ·rename_i e
   obtain⟨g1,g2,g3⟩:=h.ext c u hc
   exact⟨by rw[Tr.get_set,yaa e];exact g1,by rw[Tr.get_set,yaa e];exact g2,g3⟩
 ·rw[Tr.get_set]at hc
  split at hc
  ·rename_i e;rw[e];exact g3
  ·exact h.lt _ _ hc
def zds{H:xA}{l:Nat}{r:gL}(hl:256<=l)(h:H.t.get l=some (.loop r)):oI H l=some r:=by
 unfold oI;rw[h,uA,Nat.ble_eq_true_of_le hl];rfl
def z28{base kf n:Nat}{st:dF}{tm:Tm}{i:Nat}{pl ps:List Nat}{vals args:List zA}{X:Xt}{HA:xA}{t:Tr rA}(ho:Ov base t X HA)(hk:st.tm.k=kf)(hkA:tm.k=kf)
  (ht:∀i v,st.tm.get i=some v->tm.get i=some v) (hv:z6m pl st=some vals) (hok:tC (fun p=>Nat.blt p st.tm.k&&Nat.blt p n && !cE p pl) ps=true) (h1:ps.length<=1) (hl:args.length=ps.length) :
  ∃tm',jQ n ps args tm=some tm'/\fE base X kf (fun i=>i) X (zvb kf ⟨i,aC pl ps,[]⟩ (vals++args)) tm' HA t:=by
 have old:∀(pl:List Nat) (vals rest:List zA) j v,jF (fun i=>st.tm.get i) pl=some vals->(zmo (pl++ps) (vals++rest)).get j=some v->(j∈pl/\tm.get j=some v)\/(zmo ps rest).get j=some v:=by
  intro pl;induction pl with
  | nil=>intro vals rest j v h hj;cases h;exact Or.inr hj
  | cons a pl ih=>
   intro vals rest j v h hj;rw[oK,sA]at h;obtain⟨u,g1,h⟩:=h
   rw[sA]at h;obtain⟨us,g2,h⟩:=h
   cases h;have hj:((zmo (pl++ps) (us++rest)).set a u).get j=some v:=hj
   rw[Tr.get_set]at hj;split at hj
   ·rename_i e;cases hj;rw[e];exact Or.inl ⟨yby,ht _ _ g1⟩
   ·rcases ih us rest j v g2 hj with⟨a1,a2⟩ | a1
    ·exact Or.inl ⟨ybr _ a1,a2⟩
    ·exact Or.inr a1
 cases ps with
 | nil=>
  cases args with
  | cons _ _=>cases hl
  | nil=>
   refine⟨tm,rfl,ho,XLe.refl _,rfl,hkA,fun j v hj=>?_,fun j p h=>(by cases h),fun d l h=>?_,fun d _ l _ h=>?_⟩
   ·have hj:=(Tm.get_kv hj).2
    have hj:(zmo (aC pl []) (vals++[])).get j=some v:=hj
    rw[nG]at hj;rcases old pl vals [] j v hv hj with⟨_,h⟩ | h
    ·exact h
    ·rw[show zmo [] []=.leaf from rfl,Tr.get_leaf]at h;cases h
   ·rw[show(zvb kf ⟨i,aC pl [],[]⟩ (vals++[])).lo=.leaf from rfl,Tr.get_leaf]at h;cases h
   ·rw[show(zvb kf ⟨i,aC pl [],[]⟩ (vals++[])).lo=.leaf from rfl,Tr.get_leaf]at h;cases h
 | cons p ps=>
  cases ps with
  | cons _ _=>simp at h1
  | nil=>
   cases args with
   | nil=>cases hl
   | cons a args=>
    cases args with
    | cons _ _=>simp at hl
    | nil=>
     have hp:(bif (Nat.blt p st.tm.k&&Nat.blt p n && !cE p pl)then tC (fun p=>Nat.blt p st.tm.k&&Nat.blt p n && !cE p pl) []else false)=true:=hok
     cases hx:(Nat.blt p st.tm.k&&Nat.blt p n && !cE p pl)with
     | false=>rw[hx]at hp;cases hp
     | true=>
      simp only[ybb,ycp]at hx;obtain⟨⟨x1,x2⟩,x3⟩:=hx
      have x1:=kB.1 x1
      have x2:=kB.1 x2
      refine⟨putA n tm (some p) a,rfl,ho,XLe.refl _,rfl,by rw[zqq];exact hkA,fun j v hj=>?_,fun j p h=>(by cases h),fun d l h=>?_,fun d _ l _ h=>?_⟩
      ·have hj:=(Tm.get_kv hj).2
       have hj:(zmo (aC pl [p]) (vals++[a])).get j=some v:=hj
       rw[nG]at hj;rw[pH];rcases old pl vals [a] j v hv hj with⟨hm,h⟩ | h
       ·rw[yaa]
        ·exact h
        ·rintro⟨e,_⟩
         cases e
         rw[show cE p pl=true from(rO _ _).2 hm]at x3
         cases x3
       ·have h:((zmo [] []).set p a).get j=some v:=h
        rw[Tr.get_set]at h;split at h
        ·rename_i e;rw[yab ⟨by rw[e],by rw[e];exact x2⟩];exact h
        ·rw[show zmo [] []=.leaf from rfl,Tr.get_leaf]at h;cases h
      ·rw[show(zvb kf ⟨i,aC pl [p],[]⟩ (vals++[a])).lo=.leaf from rfl,Tr.get_leaf]at h;cases h
      ·rw[show(zvb kf ⟨i,aC pl [p],[]⟩ (vals++[a])).lo=.leaf from rfl,Tr.get_leaf]at h;cases h
def zxn(hW:qP C A W)(hY:z5v C A W){f:Nat}{κ:KtT}{m:Kt}(hκ:∀X0,SKt C W J X0 kf Q κ m){i:Nat}{pl:List Nat}{fo:Operand}{ps:Array Nat}{id:Nat}{ops:Array Oper}{c:qD}
  (hone:∃c0,A.get f=some c0/\pW c0=some ⟨i,pl,fo,ps,id,ops,c⟩) (hJ:∀vals t Q,J i vals t Q->z5z C.base kf ⟨⟨i,aC pl ps.toList,[]⟩,z5i C (wD C A) f n ⟨i,pl,fo,ps,id,ops,c⟩⟩ vals t Q) :
  SK C W J X0 kf Q (zxo C n κ i pl fo ps.toList ops.toList c) (dL C (wD C A) f n m fo ps.toList (.region id ops false) (zF c)):=by
 intro st tm HA t X ν hst h;unfold zxo at h;rw[tK,eD]at h;obtain⟨hok,vals,hv,h⟩:=h
 rw[eD]at h;obtain⟨fv,hf,h256,h⟩:=h
 unfold zxp at hok;simp only[ybb]at hok;obtain⟨⟨⟨hok1,hok2⟩,hok3⟩,hok4⟩:=hok
 have hok2:ps.toList.length<=1:=by have:=Nat.le_of_ble_eq_true hok2;rw[gC]at this;exact this
 have hok4:cM c=[]:=by
  cases hx:cM c with
  | nil=>rfl
  | cons _ _=>rw[hx]at hok4;cases hok4
 have ho:=hst.ov
 have hbase:=ho.base
 generalize hr:(⟨.ready,none,f,n,tm,ps.toList,.region id ops false,zF c,HA.next⟩:gL)=r at *
 have htn:t.get (HA.next+1)=none:=by
  cases hx:t.get (HA.next+1)with
  | none=>rfl
  | some y=>exact absurd (ho.lt _ _ hx) (by omega)
 have hyield:∀args t1 Q1,args.length=aA ps.toList->t1.get (HA.next+1)=some (.loop r)->J i (vals++args) (t1.del (HA.next+1)) (fun v t2=>t2.get (HA.next+1)=none->∃b,v=.bool b/\Q1 v (t2.set (HA.next+1) (.loop (zie b r))))->W (yo+(HA.next+1)) args t1 Q1:=by
  intro args t1 Q1 hla ht1 hj;refine hY _ _ _ _ fun X1 HA1 ho1=>?_
  rw[zl3,z7k];show wC C.base X1 Q1 (zdc C A (wD C A) (HA.next+1) args HA1)
  have hx1:=ho1.notX ht1
  have hov:=ho1.under ht1 (.loop (zpg r))
  obtain⟨tm',hs1,hs2⟩:=z28 (n:=n) (i:=i) hov hst.k hst.kA hst.tms hv hok1 hok2 (by rw[hla,gC])
  obtain⟨v,t2,HA2,X2,e1,e2,e3,e4⟩:=hJ _ _ _ hj _ _ _ _ _ hs2
  have hb2:X2 (HA.next+1)=some (.loop (zpg r)):=e3 _ _ (by unfold onX;rw[yab rfl])
  obtain⟨b,e4,e5⟩:=e4 (e2.ext _ _ hb2).2.1
  subst e4;obtain⟨c0,hc0,hc1⟩:=hone
  refine⟨.bool b,_,_,_,eU.2 ⟨r,tm',c0,⟨i,pl,fo,ps,id,ops,c⟩,(.bool b,HA2),zpg r,b,zds (by omega) (by rw[ho1.up ht1]),?_,?_,hc1,?_,?_,zds (by omega) (e2.ext _ _ hb2).1,rfl,rfl⟩,e2.back hb2 _,?_,e5⟩
  ·rw[<- hr];exact hs1
  ·rw[<- hr];exact hc0
  ·rw[<- hr];exact⟨rfl,rfl,rfl,rfl,hok3,hok4⟩
  ·rw[<- hr]at e1 ⊢;exact e1
  ·intro c y hc
   have hne:c≠HA.next+1:=fun e=>by rw[e,hx1]at hc;cases hc
   show(if c=HA.next+1 then none else X2 c)=some y
   rw[yaa hne];exact e3 _ _ (zkm hx1 _ _ hc)
 have h:=h (HA.next+1) r htn (by omega) (by rw[<- hr]) (by rw[<- hr]) hyield
 rw[uO]at h;obtain⟨⟨g,aq⟩,hra,hw⟩:=h
 unfold eX at hra;rw[sA]at hra;obtain⟨⟨qf,q1,q2⟩,hq,hra⟩:=hra
 cases qf with
 | yld l=>cases hra
 | func g'=>
  simp only[xB,ybb]at hra;obtain⟨⟨hg,hnp⟩,hra⟩:=hra
  cases hra;have hp:C.prims.get g=none:=by
   unfold npC at hnp
   cases hx:C.prims.get g with
   | none=>rfl
   | some u=>rw[hx]at hnp;cases hnp
  have hXd:X HA.next=none:=ho.nextX
  have ho1:Ov C.base t (onX X HA.next (.deferred (some []))) (newBlk HA (.deferred (some []))):=by
   refine⟨Nat.le_succ_of_le ho.base,fun b hb=>?_,fun b y hb=>?_,fun b y hb=>Nat.lt_succ_of_lt (ho.lt _ _ hb)⟩
   ·unfold onX at hb
    split at hb
    ·cases hb
    ·rename_i e
     show(HA.t.set HA.next _).get b=_
     rw[Tr.get_set,yaa e];exact ho.same b hb
   ·unfold onX at hb
    show(HA.t.set HA.next _).get b=_/\_/\b<HA.next+1
    split at hb
    ·rename_i e;cases hb;subst e;exact⟨by rw[Tr.get_set,yab rfl],ho.nextT,Nat.lt_succ_self _⟩
    ·rename_i e
     obtain⟨g1,g2,g3⟩:=ho.ext b y hb
     exact⟨by rw[Tr.get_set,yaa e];exact g1,g2,Nat.lt_succ_of_lt g3⟩
  have ho2:=ho1.newBlk (.loop r)
  obtain⟨v,t',HA2,X2,e1,e2,e3,e4⟩:=hW _ _ _ _ hw _ _ ho2
  rw[nV hg,hp]at e1;have e1:wD C A (.func g) (aC q1 (.func (.yld (HA.next+1)) [] []::q2)) (newBlk (newBlk HA (.deferred (some []))) (.loop r))=some (v,HA2):=e1
  have goal:∀r' (κ':KT) (m':Tm->xA->wB),t'.get (HA.next+1)=some (.loop r')->(!Nat.beq (LoopState.tag r'.state) 1)=true->(∀tm H,pR m r'.pending tm H=m' tm H)->(∀X0,SK C W J X0 kf Q κ' m')->pA C.base W J (κ' st) (t'.del (HA.next+1)) Q →
    wC C.base X0 Q (dL C (wD C A) f n m fo ps.toList (.region id ops false) (zF c) tm HA):=by
   intro r' κ' m' k1 k2 k3 k4 k5;have ho3:=e2.under k1 (.loop ⟨.exhausted,r'.pending,r'.fn,r'.n,r'.tm,r'.params,r'.assign,r'.body,r'.defers⟩)
   have hx2:=e2.notX k1
   have hXX:XLe X (onX X2 (HA.next+1) (.loop ⟨.exhausted,r'.pending,r'.fn,r'.n,r'.tm,r'.params,r'.assign,r'.body,r'.defers⟩)):=((zkm hXd).trans e3).trans (zkm hx2)
   have hd3:(onX X2 (HA.next+1) (.loop ⟨.exhausted,r'.pending,r'.fn,r'.n,r'.tm,r'.params,r'.assign,r'.body,r'.defers⟩)) HA.next=some (.deferred (some [])):=by
    refine(zkm hx2) _ _ (e3 _ _ ?_)
    unfold onX;rw[yab rfl]
   have hX0d:X0 HA.next=none:=by
    cases hx:X0 HA.next with
    | none=>rfl
    | some y=>have:=hst.le _ _ hx;rw[hXd]at this;cases this
   have hl:=hst.later ho3 hXX
   have hl':fE C.base (onX X0 HA.next (.deferred (some []))) kf ν (onX X2 (HA.next+1) (.loop ⟨.exhausted,r'.pending,r'.fn,r'.n,r'.tm,r'.params,r'.assign,r'.body,r'.defers⟩)) st tm (endLoop HA2 (HA.next+1) r') (t'.del (HA.next+1)):=by
    refine⟨hl.ov,?_,hl.k,hl.kA,hl.tms,hl.ads,fun d l hd=>?_,hl.inj⟩
    ·intro b y hb
     unfold onX at hb;split at hb
     ·rename_i e;cases hb;rw[e];exact hd3
     ·exact hl.le _ _ hb
    ·obtain⟨g1,g2,g3⟩:=hl.lo d l hd
     refine⟨?_,g2,g3⟩
     obtain⟨c',g4,_⟩:=(hst.lo d l hd).2.2
     unfold onX;rw[yaa (fun e=>by rw[e,hXd]at g4;cases g4)]
     exact g1
   obtain⟨w,t4,HA4,X4,f1,f2,f3,f4⟩:=k4 _ _ _ _ _ _ _ hl' k5
   have hd4:X4 HA.next=some (.deferred (some [])):=f3 _ _ (by unfold onX;rw[yab rfl])
   refine⟨w,t4,_,_,?_,f2.setX hd4 (.deferred none),?_,f4⟩
   ·unfold dL
    rw[fC (zh7 hst).1 hf,uA,hq,uA]
    show(cA (zH (C.prims.get g)) _)=_
    rw[hp];show(ob (wD C A (.func g) _ (newBlk (newBlk HA (.deferred (some []))) (.loop ⟨.ready,none,f,n,tm,ps.toList,.region id ops false,zF c,HA.next⟩))) _)=_
    rw[hr,e1,uA,zds (by omega) (e2.up k1),uA,k2]
    show(ob (pR m r'.pending tm _) _)=_
    rw[k3];show(ob (m' tm (endLoop HA2 (HA.next+1) r')) _)=_
    rw[f1,uA];have:wQ HA4 HA.next=some (some []):=by
     unfold wQ;rw[(f2.ext _ _ hd4).1,uA,Nat.ble_eq_true_of_le (by omega:256<=HA.next)]
     rfl
    simp only[this,uA];rfl
   ·intro b y hb
    have hne:b≠HA.next:=fun e=>by rw[e,hX0d]at hb;cases hb
    show(if b=HA.next then _ else X4 b)=some y
    rw[yaa hne];exact f3 _ _ (zkm hX0d _ _ hb)
  rcases e4 with⟨k1,k2⟩ | ⟨k1,k2⟩
  ·exact goal r κ.norm m.norm k1 (by rw[<- hr];rfl) (fun _ _=>by rw[<- hr];rfl) (fun X0=>(hκ X0).norm) k2
  ·exact goal _ κ.ret m.ret k1 (by rw[<- hr];rfl) (fun _ _=>by rw[<- hr];rfl) (fun X0=>(hκ X0).ret) k2
def ROk (A:Tr qD)(f:Nat)(c:qD):Prop:=∀q∈cM c,∃c0,A.get f=some c0/\pW c0=some q
def ROk.l{a b:List zpn}{P:zpn->Prop}(h:∀q∈aC a b,P q):(∀q∈a,P q)/\∀q∈b,P q:=by
 rw[nG]at h;exact⟨fun q hq=>h q (ydc _ hq),fun q hq=>h q (ycf _ hq)⟩
def zcz(hW:qP C A W)(hY:z5v C A W){la:List Nat}{f:Nat}:∀(c:qD) (κ:KtT) (m:Kt),ROk A f c->(∀X0,SKt C W J X0 kf Q κ m)->JOk C.base kf J (bJ C (wD C A) f n c m)->∀X0,SK C W J X0 kf Q (zm7 C la f n c κ) (rD C (wD C A) f n c m):=by
 intro c;induction c with
 | skip=>intro κ m _ hκ _ X0;exact(hκ X0).norm
 | region id ops d=>intro κ m _ hκ _ X0;exact zs3 hW (hκ X0).norm
 | seq a b iha ihb=>
  intro κ m hR hκ hJ;exact iha ⟨zm7 C la f n b κ,κ.exit,κ.ret⟩ ⟨rD C (wD C A) f n b m,m.exit,m.ret⟩ (ROk.l hR).1 (fun X0=>⟨ihb κ m (ROk.l hR).2 hκ (fun d hd=>hJ d (ycf _ hd)) X0,(hκ X0).exit,(hκ X0).ret⟩) fun d hd=>hJ d (ydc _ hd)
 | cond x a b iha ihb=>
  intro κ m hR hκ hJ X0 st tm HA t X ν hst h;have ha:=iha κ m (ROk.l hR).1 hκ (fun d hd=>hJ d (ydc _ hd)) X0
  have hb:=ihb κ m (ROk.l hR).2 hκ (fun d hd=>hJ d (ycf _ hd)) X0
  have h:pA C.base W J (jB (ob (ev x (.now st.tm)) zA.asBool) fun b'=>bif z6u x st.lit then Bool.rec (motive:=fun _=>T) (zm7 C la f n b κ st) (zm7 C la f n a κ st) b' else .ite b' (zm7 C la f n a κ st) (zm7 C la f n b κ st)) t Q:=h
  rw[eD]at h;obtain⟨w,h1,h2⟩:=h
  rw[sA]at h1;obtain⟨v,h3,h4⟩:=h1
  show wC C.base X0 Q (ob (ob (ev x (.now tm)) zA.asBool) fun t=>Bool.rec (motive:=fun _=>wB) (rD C (wD C A) f n b m tm HA) (rD C (wD C A) f n a m tm HA) t)
  refine wC.ob (a:=w) (by rw[fC (zh7 hst).1 h3];exact h4) ?_
  have h2:if w=true then pA C.base W J (zm7 C la f n a κ st) t Q else pA C.base W J (zm7 C la f n b κ st) t Q:=by
   rw[iB]at h2;split at h2
   ·cases w<;>exact h2
   ·exact h2
  cases w with
  | true=>exact ha _ _ _ _ _ _ hst h2
  | false=>exact hb _ _ _ _ _ _ hst h2
 | block id c ih=>
  intro κ m hR hκ hJ;refine ih ⟨κ.norm,fun i st=>Bool.rec (motive:=fun _=>T) (κ.exit i st) (κ.norm st) (Nat.beq id i),κ.ret⟩ ⟨m.norm,fun i tm H=>Bool.rec (motive:=fun _=>wB) (m.exit i tm H) (m.norm tm H) (Nat.beq id i),m.ret⟩ hR (fun X0=>⟨(hκ X0).norm,fun i=>?_,(hκ X0).ret⟩) hJ
  intro st tm HA t X ν hst h;have h:pA C.base W J (Bool.rec (motive:=fun _=>T) (κ.exit i st) (κ.norm st) (Nat.beq id i)) t Q:=h
  show wC C.base X0 Q (Bool.rec (motive:=fun _=>wB) (m.exit i tm HA) (m.norm tm HA) (Nat.beq id i))
  cases hb:Nat.beq id i with
  | true=>rw[hb]at h;exact(hκ X0).norm _ _ _ _ _ _ hst h
  | false=>rw[hb]at h;exact(hκ X0).exit i _ _ _ _ _ _ hst h
 | loop p c ih=>intro κ m _ hκ hJ X0;exact zoj hJ yby
 | exit id=>intro κ m _ hκ _ X0;exact(hκ X0).exit id
 | ret=>intro κ m _ hκ _ X0;exact(hκ X0).ret
 | cut p c ih=>intro κ m _ hκ hJ X0;exact zoj hJ yby
 | range i pl fo ps id ops c ih=>intro κ m hR hκ hJ X0;exact zxn hW hY hκ (hR _ yby) fun vals t Q h=>hJ _ yby vals t Q h
def PtOk (C:oA)(W J:bG)(kf:Nat)(l:List PtT)(d:PtD):Prop:=∃q∈l,q.p=d.p/\∀vals t Q,pA C.base W J (q.tree vals) t Q->z5z C.base kf d vals t Q
def keptOk(kf:Nat):qD->Bool
 | .seq a b=>keptOk kf a&&keptOk kf b
 | .cond _ a b=>keptOk kf a&&keptOk kf b
 | .block _ c=>keptOk kf c
 | .loop p c=>p.kept.all (fun i=>Nat.blt i kf)&&keptOk kf c
 | .cut p c=>p.kept.all (fun i=>Nat.blt i kf)&&keptOk kf c
 | .range _ _ _ _ _ _ c=>keptOk kf c
 | _=>true
def zxy(hW:qP C A W)(hY:z5v C A W){la:List Nat}{f:Nat}:∀(c:qD) (κ:KtT) (m:Kt),ROk A f c->keptOk kf c=true->(∀X0 Q,SKt C W J X0 kf Q κ m)->JOk C.base kf J (bJ C (wD C A) f n c m)->∀d∈bJ C (wD C A) f n c m,PtOk C W J kf (eR C la f n kf c κ) d:=by
 have up:∀ {l l':List PtT} {d:PtD},PtOk C W J kf l d->(∀q∈l,q∈l')->PtOk C W J kf l' d:=fun⟨q,h1,h2⟩ hl=>⟨q,hl q h1,h2⟩
 intro c;induction c with
 | skip=>intro κ m _ _ _ _ d hd;cases hd
 | region id ops dr=>intro κ m _ _ _ _ d hd;cases hd
 | seq a b iha ihb=>
  intro κ m hR hk hκ hJ d hd;unfold keptOk at hk;rw[ybb]at hk;have e:eR C la f n kf (.seq a b) κ=eR C la f n kf a ⟨zm7 C la f n b κ,κ.exit,κ.ret⟩++eR C la f n kf b κ:=nG _ _
  rw[e];have hJa:JOk C.base kf J (bJ C (wD C A) f n a ⟨rD C (wD C A) f n b m,m.exit,m.ret⟩):=fun d hd=>hJ d (ydc _ hd)
  have hJb:JOk C.base kf J (bJ C (wD C A) f n b m):=fun d hd=>hJ d (ycf _ hd)
  rcases yaf.1 hd with hd | hd
  ·exact up (iha ⟨zm7 C la f n b κ,κ.exit,κ.ret⟩ ⟨rD C (wD C A) f n b m,m.exit,m.ret⟩ (ROk.l hR).1 hk.1 (fun X0 Q=>⟨zcz hW hY b κ m (ROk.l hR).2 (fun X0=>hκ X0 Q) hJb X0,(hκ X0 Q).exit,(hκ X0 Q).ret⟩) hJa d hd) fun q hq=>ydc _ hq
  ·exact up (ihb _ _ (ROk.l hR).2 hk.2 hκ hJb d hd) fun q hq=>ycf _ hq
 | cond x a b iha ihb=>
  intro κ m hR hk hκ hJ d hd;unfold keptOk at hk;rw[ybb]at hk;have e:eR C la f n kf (.cond x a b) κ=eR C la f n kf a κ++eR C la f n kf b κ:=nG _ _
  rw[e];rcases yaf.1 hd with hd | hd
  ·exact up (iha _ _ (ROk.l hR).1 hk.1 hκ (fun d hd=>hJ d (ydc _ hd)) d hd) fun q hq=>ydc _ hq
  ·exact up (ihb _ _ (ROk.l hR).2 hk.2 hκ (fun d hd=>hJ d (ycf _ hd)) d hd) fun q hq=>ycf _ hq
 | block id c ih=>
  intro κ m hR hk hκ hJ d hd;refine ih ⟨κ.norm,fun i st=>Bool.rec (motive:=fun _=>T) (κ.exit i st) (κ.norm st) (Nat.beq id i),κ.ret⟩ ⟨m.norm,fun i tm H=>Bool.rec (motive:=fun _=>wB) (m.exit i tm H) (m.norm tm H) (Nat.beq id i),m.ret⟩ hR hk (fun X0 Q=>⟨(hκ X0 Q).norm,fun i=>?_,(hκ X0 Q).ret⟩) hJ d hd
  intro st tm HA t X ν hst h;have h:pA C.base W J (Bool.rec (motive:=fun _=>T) (κ.exit i st) (κ.norm st) (Nat.beq id i)) t Q:=h
  show wC C.base X0 Q (Bool.rec (motive:=fun _=>wB) (m.exit i tm HA) (m.norm tm HA) (Nat.beq id i))
  cases hb:Nat.beq id i with
  | true=>rw[hb]at h;exact(hκ X0 Q).norm _ _ _ _ _ _ hst h
  | false=>rw[hb]at h;exact(hκ X0 Q).exit i _ _ _ _ _ _ hst h
 | loop p c ih=>
  intro κ m hR hk hκ hJ d hd;unfold keptOk at hk;rw[ybb,ycb]at hk;have hJc:JOk C.base kf J (bJ C (wD C A) f n c ⟨rD C (wD C A) f n (.loop p c) m,m.exit,m.ret⟩):=fun d hd=>hJ d (ybr _ hd)
  have hκ':∀X0 Q,SKt C W J X0 kf Q ⟨zt2 p,κ.exit,κ.ret⟩ ⟨rD C (wD C A) f n (.loop p c) m,m.exit,m.ret⟩:=fun X0 Q=>⟨zoj hJ yby,(hκ X0 Q).exit,(hκ X0 Q).ret⟩
  rcases ybs.1 hd with rfl | hd
  ·refine⟨_,yby,rfl,fun vals t Q hw X0 X HA tm ν hst=>?_⟩
   show wC C.base X0 Q (rD C (wD C A) f n (.loop p c) m tm HA)
   rw[z5a];exact zcz hW hY c _ _ hR (fun X0=>hκ' X0 Q) hJc X0 _ _ _ _ _ _ (hst.keep fun i hi=>kB.1 (hk.1 i hi)) hw
  ·exact up (ih ⟨zt2 p,κ.exit,κ.ret⟩ ⟨rD C (wD C A) f n (.loop p c) m,m.exit,m.ret⟩ hR hk.2 hκ' hJc d hd) fun q hq=>ybr _ hq
 | exit id=>intro κ m _ _ _ _ d hd;cases hd
 | ret=>intro κ m _ _ _ _ d hd;cases hd
 | cut p c ih=>
  intro κ m hR hk hκ hJ d hd;unfold keptOk at hk;rw[ybb,ycb]at hk;have hJc:JOk C.base kf J (bJ C (wD C A) f n c m):=fun d hd=>hJ d (ybr _ hd)
  rcases ybs.1 hd with rfl | hd
  ·refine⟨_,yby,rfl,fun vals t Q hw X0 X HA tm ν hst=>?_⟩
   exact zcz hW hY c _ _ hR (fun X0=>hκ X0 Q) hJc X0 _ _ _ _ _ _ (hst.keep fun i hi=>kB.1 (hk.1 i hi)) hw
  ·exact up (ih _ _ hR hk.2 hκ hJc d hd) fun q hq=>ybr _ hq
 | range i pl fo ps id ops c ih=>
  intro κ m hR hk hκ hJ d hd;have hR':ROk A f c:=fun q hq=>hR q (ybr _ hq)
  have hJc:JOk C.base kf J (bJ C (wD C A) f n c rdK):=fun d hd=>hJ d (ybr _ hd)
  rcases ybs.1 hd with rfl | hd
  ·refine⟨_,yby,rfl,fun vals t Q hw X0 X HA tm ν hst=>?_⟩
   exact zcz hW hY (.seq (.region id ops false) c) rdT rdK (fun q hq=>hR' q hq) (fun _=>z6p) (fun d hd=>hJc d hd) X0 _ _ _ _ _ _ hst hw
  ·exact up (ih rdT rdK hR' hk (fun _ _=>z6p) hJc d hd) fun q hq=>ybr _ hq
end
end
section
def Tr.mapT{α β:Type}(f:α->β)(t:Tr α):Tr β:=Tr.rec (motive:=fun _=>Tr β) .leaf (fun _ v _ l r=>.node l (match v with | some a=>some (f a) | none=>none) r) t
def Tr.get_mapT{α β:Type}(f:α->β):∀(t:Tr α) (n:Nat),(t.mapT f).get n=(t.get n).map f:=by
 intro t;induction t with
 | leaf=>intro n;rfl
 | node l v r ihl ihr=>
  intro n;show(Tr.node (l.mapT f) (match v with | some a=>some (f a) | none=>none) (r.mapT f)).get n=_
  rw[Tr.get_node,Tr.get_node];split
  ·cases v<;>rfl
  ·split
   ·exact ihl _
   ·exact ihr _
def jL(F:Tr vB):Tr qD:=F.mapT vB.code
def fnB (f kf:Nat)(c:qD):Bool:=Nat.blt f yo&&(keptOk kf c&&(match cM c with | []=>true | [_]=>true | _=>false))
structure mB (C:oA) (F:Tr vB) (f:Nat) (fn:Func) (kf:Nat) (A:vB):Prop where
 isF:F.get f=some A
 isFn:C.fns.get f=some fn
 isK:C.ks.get f=some kf
 prim:zH (C.prims.get f)=true
 kept:fnB f kf A.code=true
 body:zH fn.body=false
def mB.lt{C:oA}{F:Tr vB}{f:Nat}{fn:Func}{kf:Nat}{A:vB}(h:mB C F f fn kf A):Nat.blt f yo=true:=by
 have:=h.kept;unfold fnB at this;rw[ybb]at this;exact this.1
def mB.keptOk{C:oA}{F:Tr vB}{f:Nat}{fn:Func}{kf:Nat}{A:vB}(h:mB C F f fn kf A):keptOk kf A.code=true:=by
 have:=h.kept;unfold fnB at this;simp only[ybb]at this;exact this.2.1
def mB.code{C:oA}{F:Tr vB}{f:Nat}{fn:Func}{kf:Nat}{A:vB}(h:mB C F f fn kf A):(jL F).get f=some A.code:=by unfold jL;rw[Tr.get_mapT,h.isF];rfl
def mB.one{C:oA}{F:Tr vB}{f:Nat}{fn:Func}{kf:Nat}{A:vB}(h:mB C F f fn kf A):ROk (jL F) f A.code:=by
 have:=h.kept
 unfold fnB at this;simp only[ybb]at this;intro q hq;refine⟨_,h.code,?_⟩
 unfold pW
 cases hx:cM A.code with
 | nil=>rw[hx]at hq;cases hq
 | cons a l=>
  cases l with
  | nil=>rw[hx,ydd]at hq;rw[hq]
  | cons _ _=>rw[hx]at this;cases this.2.2
def Wc (C:oA)(F:Tr vB):bG:=fun f args t Q=>∀X HA,Ov C.base t X HA->wC C.base X Q (zpc C (jL F) f args HA)
def Wc.mono{C:oA}{F:Tr vB}{f:Nat}{args:List zA}{t:Tr rA}{Q Q':bB}(h:Wc C F f args t Q)(k:∀v t',Q v t'->Q' v t'):Wc C F f args t Q':=fun X HA ho=>(h X HA ho).mono k
def Tr.bound{α:Type}(t:Tr α):∃n,∀b y,t.get b=some y->b<n:=by
 induction t with
 | leaf=>exact⟨0,fun b y h=>by rw[Tr.get_leaf]at h;cases h⟩
 | node l v r ihl ihr=>
  obtain⟨n,hn⟩:=ihl
  obtain⟨m,hm⟩:=ihr
  refine⟨2*n+2*m+3,fun b y h=>?_⟩
  rw[Tr.get_node]at h;split at h
  ·omega
  ·split at h
   ·have:=hn _ _ h;omega
   ·have:=hm _ _ h;omega
def PV (C:oA)(F:Tr vB)(f:Nat)(args:List zA)(t:Tr rA)(v:zA):Prop:=Wc C F f args t fun v' t'=>v'=v/\t'=t
def PV.unique{C:oA}{F:Tr vB}{f:Nat}{args:List zA}{t:Tr rA}{v v':zA}(h:PV C F f args t v)(h':PV C F f args t v'):v=v':=by
 obtain⟨n,hn⟩:=Tr.bound t
 have ho:Ov C.base t (fun _=>none) ⟨C.base+n,t⟩:=⟨Nat.le_add_right _ _,fun _ _=>rfl,fun _ _ h=>(by cases h),fun b y hb=>Nat.lt_of_lt_of_le (hn b y hb) (Nat.le_add_left _ _)⟩
 obtain⟨u,t',HA',X',h1,_,_,h2,_⟩:=h _ _ ho
 obtain⟨u',t'',HA'',X'',h3,_,_,h4,_⟩:=h' _ _ ho
 rw[h1]at h3
 cases h3;rw[<- h2,<- h4]
def xC (C:oA)(F:Tr vB)(f:Nat)(args:List zA)(t:Tr rA):Option zA:=@dite _ (∃v,PV C F f args t v) (Classical.propDecidable _) (fun h=>some h.choose) (fun _=>none)
def bC{C:oA}{F:Tr vB}{f:Nat}{args:List zA}{t:Tr rA}{v:zA}:xC C F f args t=some v ↔ PV C F f args t v:=by
 unfold xC;constructor
 ·intro h
  by_cases hx:∃v,PV C F f args t v
  ·rw[dif_pos hx]at h;cases h;exact hx.choose_spec
  ·rw[dif_neg hx]at h;cases h
 ·intro h
  have hx:∃v,PV C F f args t v:=⟨v,h⟩
  rw[dif_pos hx,PV.unique hx.choose_spec h]
def Wq (C:oA)(F:Tr vB)(pure:Nat->Bool):bG:=fun f args t R=>if (pure f&&Nat.blt f yo)=true then sE (xC C F f args t) fun v=>R v t else Wc C F f args t R
def Wq_ok{C:oA}{F:Tr vB}{pure:Nat->Bool}:qP C (jL F) (Wq C F pure):=by
 intro f args t R h X HA ho;unfold Wq at h;split at h
 ·rw[uO]at h
  obtain⟨v,h1,h2⟩:=h
  exact((bC.1 h1) X HA ho).mono fun v' t' hh=>by rw[hh.1,hh.2];exact h2
 ·exact h X HA ho
def z7r{C:oA}{F:Tr vB}{pure:Nat->Bool}:z5v C (jL F) (Wq C F pure):=by
 intro l args t Q h;unfold Wq;have:Nat.blt (yo+l) yo=false:=Bool.eq_false_iff.2 fun e=>by have:=kB.1 e;omega
 rw[this,yay,yaa (by simp)]
 exact h
def Jq (C:oA)(F:Tr vB)(f:Nat):bG:=fun i vals t Q=>∀fn kf A,mB C F f fn kf A->∀d∈bJ C (wD C (jL F)) f fn.ntmps A.code (z16 C fn),d.p.id=i->z5z C.base kf d vals t Q
def Jq_ok{C:oA}{F:Tr vB}{f:Nat}{fn:Func}{kf:Nat}{A:vB}(h:mB C F f fn kf A):JOk C.base kf (Jq C F f) (bJ C (wD C (jL F)) f fn.ntmps A.code (z16 C fn)):=
 fun d hd _ _ _ hJ=>hJ fn kf A h d hd rfl
section
variable {W J:bG}{t:Tr rA}{X X0:Xt}{HA:xA}{C:oA}{A:Tr qD}{ν:Nat->Nat}{Q:bB}{kf n:Nat}{st:dF}{tm:Tm}
def z8n(hst:fE C.base X0 kf ν X st tm HA t):∀(l:List ResultVar) (K:List zA->T),pA C.base W J (resT C st l K) t Q->∃vs,gQ C HA tm l=some vs/\pA C.base W J (K vs) t Q:=by
 intro l;induction l with
 | nil=>intro K h;exact⟨[],rfl,h⟩
 | cons r l ih=>
  intro K h
  cases r with
  | tmp i=>
   have h:pA C.base W J (jB (st.tm.get i) fun v=>resT C st l fun l=>K (v::l)) t Q:=h
   rw[eD]at h;obtain⟨v,h1,h2⟩:=h
   obtain⟨vs,h3,h4⟩:=ih _ h2
   refine⟨v::vs,?_,h4⟩
   show jF (jR C HA tm) _=_
   rw[oK];show ob (tm.get i) _=_
   rw[hst.tms _ _ h1,uA];have h3:jF (jR C HA tm) l=some vs:=h3
   rw[h3];rfl
  | cell a ty=>
   have h:pA C.base W J (match cH a st.ad with
    | some p=>jB (st.lo.get p.1) fun m=>jB (C.tys.get ty) fun y=>gdT (Nat.ble (p.2+y.size) (aA m)) (jB (rL C ty m p.2) fun v=>resT C st l fun l=>K (v::l))
    | none=>jB (st.tm.get a) fun a=>.light (fun m=>mA C ty ⟨0,m⟩ a) fun v=>resT C st l fun l=>K (v::l)) t Q:=h
   have aE:∀ {u v:zA},tm.get a=some u->mA C ty HA u=some v->pA C.base W J (resT C st l fun l=>K (v::l)) t Q->∃vs,gQ C HA tm (.cell a ty::l)=some vs/\pA C.base W J (K vs) t Q:=by
    intro u v h1 h2 h3;obtain⟨vs,h4,h5⟩:=ih _ h3
    refine⟨v::vs,?_,h5⟩
    show jF (jR C HA tm) _=_
    rw[oK];have e:jR C HA tm (.cell a ty)=some v:=by
     show(ob (ob (tm.get a) zA.asPtr) fun p=>ob (C.tys.get ty) fun ty=>ob (xD HA p.1) fun c=>yN ty c.1 p.2)=some v
     unfold mA at h2;rw[h1,uA];exact h2
    have h4:jF (jR C HA tm) l=some vs:=h4
    rw[e,uA,h4];rfl
   split at h
   ·rename_i p hp
    simp only[eD,tK]at h;obtain⟨m,h1,y,h2,h3,v,h4,h5⟩:=h
    exact aE (hst.ads _ _ hp) (zrb hst.ov hst.lo h1 h2 h3 h4) h5
   ·simp only[eD,pU]at h
    obtain⟨u,h1,v,h2,h3⟩:=h
    exact aE (hst.tms _ _ h1) (sX hst.ov.le h2) h3
def z0n{fn:Func}:SK C W J X0 kf Q (endT C fn) (endK C fn):=by
 intro st tm HA t X ν hst h;obtain⟨vs,h1,h2⟩:=z8n hst _ _ h
 unfold endK;exact wC.ob h1 ⟨_,t,HA,X,rfl,hst.ov,hst.le,h2⟩
def zv8{fn:Func}:SKt C W J X0 kf Q (topT C fn) (z16 C fn):=⟨z0n,fun _ _ _ _ _ _ _ _ h=>h.elim,z0n⟩
end
section
variable {C:oA}{F:Tr vB}{f:Nat}{fn:Func}{kf:Nat}{A:vB}{pure:Nat->Bool}{t:Tr rA}{Q:bB}
def zzao(h:mB C F f fn kf A){args:List zA}(hl:(Nat.ble (aA args) kf&&Nat.ble (aA args) fn.ntmps)=true)(hw:pA C.base (Wq C F pure) (Jq C F f) (entT C fn kf f A args) t Q):Wc C F f args t Q:=by
 intro X HA ho;have hA:=h.code
 obtain⟨body,hb⟩:∃b,fn.body=some b:=by
  cases hx:fn.body with
  | none=>have:=h.body;rw[hx]at this;cases this
  | some b=>exact⟨b,rfl⟩
 have he:jJ C f args false=some ⟨[.code body],⟨kf,Tr.ofList args,[]⟩,⟨f,fn.ntmps,[],.run,false,none⟩⟩:=by
  unfold jJ;rw[h.isFn,uA,hb,uA,h.isK,uA,hl];rfl
 have hp:C.prims.get f=none:=by
  cases hx:C.prims.get f with
  | none=>rfl
  | some g=>have:=h.prim;rw[hx]at this;cases this
 rw[nV h.lt,hp];show wC C.base X Q (wD C (jL F) (.func f) args HA)
 rw[z7k];show wC C.base X Q (zvd C (jL F) (wD C (jL F)) f args HA)
 unfold zvd;refine wC.ob hA (wC.ob h.isFn (wC.ob he ?_))
 have hst:fE C.base X kf (fun i=>i) X ⟨⟨kf,Tr.ofList args,[]⟩,[],.leaf,[]⟩ ⟨kf,Tr.ofList args,[]⟩ HA t:=
  ⟨ho,XLe.refl _,rfl,rfl,fun _ _ h=>h,fun _ _ h=>(by cases h),fun d l h=>(by rw[Tr.get_leaf]at h;cases h),fun d _ l _ h=>(by rw[Tr.get_leaf]at h;cases h)⟩
 exact zcz Wq_ok z7r A.code (topT C fn) (z16 C fn) h.one (fun _=>zv8) (Jq_ok h) _ _ _ _ _ _ _ hst hw
def Jq_of(h:mB C F f fn kf A){i:Nat}{vals:List zA}{l:List T}(hp:ztj (ptsT C fn kf f A) i vals=l)(hw:∀T∈l,pA C.base (Wq C F pure) (Jq C F f) T t Q):Jq C F f i vals t Q:=by
 intro fn' kf' A' h' d hd hi;have e1:=h.isFn;rw[h'.isFn]at e1;cases e1
 have e2:=h.isK;rw[h'.isK]at e2;cases e2
 have e3:=h.isF;rw[h'.isF]at e3;cases e3
 obtain⟨q,h1,h2,h3⟩:=zxy (W:=Wq C F pure) Wq_ok z7r A.code (topT C fn) (z16 C fn) h.one h.keptOk (fun _ _=>zv8) (Jq_ok h) d hd
 refine h3 vals t Q (hw _ ?_)
 subst hp;have key:∀(l:List PtT),q∈l->q.tree vals∈ztj l i vals:=by
  intro l;induction l with
  | nil=>intro h;cases h
  | cons p l ih=>
   intro hm;show q.tree vals∈(bif Nat.beq p.p.id i then p.tree vals::ztj l i vals else ztj l i vals)
   rw[iB];rcases ybs.1 hm with e | hm
   ·subst e
    rw[yab (by rw[h2];exact oB.2 hi)]
    exact yby
   ·split
    ·exact ybr _ (ih hm)
    ·exact ih hm
 exact key _ h1
def Jq_of1(h:mB C F f fn kf A){i:Nat}{vals:List zA}{T:T}(hp:ztj (ptsT C fn kf f A) i vals=[T])(hw:pA C.base (Wq C F pure) (Jq C F f) T t Q):Jq C F f i vals t Q:=
 Jq_of h hp fun T' hT=>by rw[ydd.1 hT];exact hw
def Jq.mono{i:Nat}{vals:List zA}{Q':bB}(h:Jq C F f i vals t Q)(k:∀v t',Q v t'->Q' v t'):Jq C F f i vals t Q':=
 fun fn kf A hf d hd hi X0 X HA tm ν hst=>(h fn kf A hf d hd hi X0 X HA tm ν hst).mono k
def Wc_pv{args:List zA}{v:zA}(h:xC C F f args t=some v)(hq:Q v t):Wc C F f args t Q:=(bC.1 h).mono fun _ _ hh=>by rw[hh.1,hh.2];exact hq
def zhy{g:List zA->xA->Option zA}(hg:C.prims.get f=some (pK g)){args:List zA}{v:zA}(h:∀H,g args H=some v)(hf:Nat.blt f yo=true:=by rfl):xC C F f args t=some v:=by
 refine bC.2 fun X HA ho=>?_
 rw[nV hf,hg];exact⟨v,t,HA,X,by simp only[pK,h HA,uA],ho,XLe.refl _,rfl,rfl⟩
def jN{args:List zA}{v:zA}(h:Wc C F f args t fun v' t'=>v'=v/\∀b y,t.get b=some y->t'.get b=some y):xC C F f args t=some v:=by
 refine bC.2 fun X HA ho=>?_
 obtain⟨u,t',HA',X',h1,h2,h3,h4,h5⟩:=h X HA ho
 refine⟨u,t,HA',fun b=>match t.get b with | some _=>none | none=>HA'.t.get b,h1,⟨h2.base,?_,?_,?_⟩,?_,h4,rfl⟩
 ·intro b hb
  cases hg:t.get b with
  | some y=>rw[h2.up (h5 b y hg)]
  | none=>simp only[hg]at hb;exact hb
 ·intro b y hb
  cases hg:t.get b with
  | some y=>simp only[hg]at hb;cases hb
  | none=>
   simp only[hg]at hb;refine⟨hb,rfl,?_⟩
   cases hx:X' b with
   | some z=>exact(h2.ext b z hx).2.2
   | none=>rw[h2.same b hx]at hb;exact h2.lt b y hb
 ·intro b y hb;exact h2.lt b y (h5 b y hb)
 ·intro b y hb
  have hn:=(ho.ext b y hb).2.1
  simp only[hn];exact(h2.ext b y (h3 b y hb)).1
end
def zpa{P:Program}{C:oA}{F:Tr vB}{B N:Nat}{I:World->Prop}{μ:Mu}{w:World}(hS:Sim P C B N I)(hI:I w)(hA:qU C (jL F)){f:Nat}(hp:C.prims.get f=none){args:List zA}{args':Array Value}{H:xA}{Q:bB}(hbase:C.base<=H.next)(hlt:∀b y,H.t.get b=some y->b<H.next)(hH:zB B N μ H w)(hl:yB μ args args'.toList)
  (h:Wc C F f args H.t Q) (hf:Nat.blt f yo=true:=by rfl):Calls P f args' w fun e w'=>∃v v' t' μ',e=.returned v'/\μ.lw μ'/\vA μ' v v'/\Q v t'/\Below N w w':=by
 obtain⟨v,t',HA',X',h1,h2,h3,h4⟩:=h (fun _=>none) H ⟨hbase,fun _ _=>rfl,fun _ _ h=>(by cases h),hlt⟩
 rw[nV hf,hp]at h1;intro base;obtain⟨e,w',b,⟨v',μ',g1,g2,g3,g4,g5⟩,g6⟩:=zl0 hS hI hA hH hl h1 base
 exact⟨e,w',b,⟨v,v',t',μ',g1,g2,g3,h4,g5⟩,g6⟩
end
section
def piOf (i:Nat)(l:List (Nat × PI)):Option PI:=List.rec (motive:=fun _=>Option PI) none (fun a _ g=>bif Nat.beq i a.1 then some a.2 else g) l
def cutP (p:Option PI)(c:qD):qD:=
 match p with
 | some p=>.cut p c
 | none=>c
def z85(p:Option PI)(c:qD):qD:=
 match p with
 | some p=>.loop p c
 | none=>.loop ⟨0,[],[]⟩ c
def rangeP(p:Option PI)(f:Operand)(ps:Array Nat)(a:Code)(c:qD):qD:=
 match a with
 | .region id ops _=>.range (match p with | some p=>p.id | none=>0) (match p with | some p=>p.pl | none=>[]) f ps id ops c
 | _=>.skip
def zrp:Code->Bool
 | .region _ _ d => !d
 | _=>false
def rR(rt lt:List (Nat × PI))(c:Code):Nat->qD:=
 Code.rec (motive:=fun _=>Nat->qD)
  (fun _=>.skip)
  (fun id ops d _=>cutP (piOf id rt) (.region id ops d))
  (fun _ _ ga gb k=>.seq (ga k) (gb k))
  (fun c _ _ gx gy k=>.cond c (gx k) (gy k))
  (fun id _ g _=>.block id (g id))
  (fun _ g k=>z85 (piOf k lt) (g k))
  (fun f ps a _ _ gb k=>rangeP (piOf k lt) f ps a (gb k))
  (fun id _=>.exit id)
  (fun _ _ _=>.skip)
  (fun _ _=>.skip)
  (fun _ _=>.skip)
  (fun _=>.ret)
  (fun _ _=>.skip) c
def fB(rt lt:List (Nat × PI))(k:Nat)(c:Code):qD:=rR rt lt c k
def cL(c:Code):Bool:=
 Code.rec (motive:=fun _=>Bool) true (fun _ _ _=>true) (fun _ _ a b=>bif a then b else false) (fun _ _ _ a b=>bif a then b else false) (fun _ _ a=>a) (fun _ a=>a)
  (fun _ _ a _ _ b=>bif zrp a then b else false) (fun _=>true) (fun _ _=>false) (fun _=>false) (fun _=>false) true (fun _=>false) c
def zui(p:Option PI)(c:qD):zF (cutP p c)=zF c:=by cases p<;>rfl
def zox(p:Option PI)(c:qD):zF (z85 p c)=.loop (zF c):=by cases p<;>rfl
def zoy{rt lt:List (Nat × PI)}:∀(c:Code) (k:Nat),cL c=true->zF (rR rt lt c k)=c:=by
 intro c;induction c with
 | skip=>intro k _;rfl
 | region id ops d=>intro k _;show zF (cutP _ _)=_;rw[zui];rfl
 | seq a b iha ihb=>
  intro k h;have h:(bif cL a then cL b else false)=true:=h
  have ha:cL a=true:=by cases hx:cL a with | true=>rfl | false=>rw[hx]at h;cases h
  have hb:cL b=true:=by rw[ha]at h;exact h
  show Code.seq (zF (rR rt lt a k)) (zF (rR rt lt b k))=_
  rw[iha k ha,ihb k hb]
 | cond c x y ihx ihy=>
  intro k h;have h:(bif cL x then cL y else false)=true:=h
  have ha:cL x=true:=by cases hx:cL x with | true=>rfl | false=>rw[hx]at h;cases h
  have hb:cL y=true:=by rw[ha]at h;exact h
  show Code.cond c (zF (rR rt lt x k)) (zF (rR rt lt y k))=_
  rw[ihx k ha,ihy k hb]
 | block id c ih=>intro k h;show Code.block id (zF (rR rt lt c id))=_;rw[ih id h]
 | loop c ih=>intro k h;show zF (z85 _ (rR rt lt c k))=_;rw[zox,ih k h]
 | exit id=>intro k _;rfl
 | ret=>intro k _;rfl
 | rangeFunc f ps a b _ ihb=>
  intro k h;have h:(bif zrp a then cL b else false)=true:=h
  cases a with
  | region id ops d=>
   cases d with
   | true=>cases h
   | false=>show Code.rangeFunc f ps (.region id ops false) (zF (rR rt lt b k))=_;rw[ihb k h]
  | _=>cases h
 | scope c _=>intro k h;cases h
 | label l=>intro k h;cases h
 | goto l=>intro k h;cases h
 | refuse s=>intro k h;cases h
def tabF (l:List (Nat × vB)):Tr vB:=List.rec (motive:=fun _=>Tr vB) .leaf (fun p _ g=>g.set p.1 p.2) l
def z2m{l:List (Nat × vB)}{f:Nat}{A:vB}(h:(tabF l).get f=some A):(f,A)∈l:=by
 induction l with
 | nil=>rw[show tabF []=.leaf from rfl,Tr.get_leaf]at h;cases h
 | cons p l ih=>
  have h:((tabF l).set p.1 p.2).get f=some A:=h
  rw[Tr.get_set]at h;split at h
  ·rename_i e;cases h;rw[e];exact yby
  ·exact ybr _ (ih h)
def z13(C:oA)(p:Nat × vB):Prop:=∃fn c,C.fns.get p.1=some fn/\fn.body=some c/\zF p.2.code=c
def bodyOk{C:oA}{f:Nat}{fn:Func}{c:Code}{rt lt:List (Nat × PI)}{la:List Nat}(h1:C.fns.get f=some fn)(h2:fn.body=some c)(h3:cL c=true):z13 C (f,⟨fB rt lt 0 c,la⟩):=⟨fn,c,h1,h2,zoy c 0 h3⟩
def zur{C:oA}{l:List (Nat × vB)}(h:∀p∈l,z13 C p):qU C (jL (tabF l)):=by
 intro f c hc;unfold jL at hc;rw[Tr.get_mapT]at hc
 cases hq:(tabF l).get f with
 | none=>rw[hq]at hc;cases hc
 | some A=>
  rw[hq]at hc
  cases hc;obtain⟨fn,b,h1,h2,h3⟩:=h _ (z2m hq)
  exact⟨fn,h1,by rw[h2,h3]⟩
end
end Go.Am
namespace Go.Am
class sC where
 n:Nat
def z3i(a:List zA)(_:xA):Option zA:=match a with | []=>some (.bool true) | _=>none
def zt3:List Nat->List Nat->Bool
 | [],_=>true
 | _::_,[]=>false
 | a::x,b::y=>bif Nat.beq a b then zt3 x y else false
def cutL (sub:List Nat):List Nat->Option (List Nat × List Nat)
 | []=>bif sub.isEmpty then some ([],[])else none
 | b::l=>bif zt3 sub (b::l)then some ([],wM (b::l) (aA sub))else ob (cutL sub l) fun p=>some (b::p.1,p.2)
def pCut (a:List zA)(_:xA):Option zA:=match a with
 | [.str s,.str c]=>cA (Nat.blt (aA s) 4294967281) (match cutL c s with
  | some p=>some (.tup [.str p.1,.str p.2,.bool true])
  | none=>some (.tup [.str s,.str [],.bool false]))
 | _=>none
def kJ(n:Int):List Nat:=(Lib.itoa n).map UInt8.toNat
def ztm(a:List zA)(_:xA):Option zA:=match a with
 | [.int .i64 n]=>cA (nC (-9223372036854775808) n&&vC n 9223372036854775808) (some (.str (kJ n)))
 | _=>none
def zx5(a:List zA)(_:xA):Option zA:=match a with
 | [.int .u64 n,.int .i64 b]=>cA (nC 0 n&&vC n 18446744073709551616&&lA b 10) (some (.str (kJ n)))
 | _=>none
end Go.Am
namespace Go.Am
open Go Go.Shelf Go.RowKit Go.Proofs
variable {P:Program}{ρ:Ren}
set_option maxHeartbeats 2000000 in
set_option maxRecDepth 100000 in
def zuj(L:Lays.n169 P ρ)(X:Builder.Extra P ρ)(b g cap cells:Nat)(l:List UInt8)(w:World)(c1:w.cell? ⟨b,1,none⟩=some (.slice (some ⟨g,0,none⟩) l.length cap))(h0:l≠[])(hcap:l.length<=cap)
  (hsh:w.shape? g=some (ρ.t 5,cells)) (hc:l.length<=cells) (h63:l.length<=9223372036854775807) (hcell:∀j x,l[j]?=some x->w.cell? ((⟨g,0,none⟩:Addr).add j)=some (.int .u8 x.toNat)) :
  Calls P (ρ.f 169) #[.pointer (some ⟨b,0,none⟩)] w fun e w'=>e=.returned (.string ⟨l.toArray⟩)/\w'=w.drew.freeze ⟨g,0,none⟩ l.length:=by
 have hl0:l.length≠0:=by simpa using h0
 have c1:w.drew.cell? ⟨b,1,none⟩=some (.slice (some ⟨g,0,none⟩) l.length cap):=c1
 have hSD:(Builtin.unsafeSliceData_ #[(ρ.t 37)] (ρ.t 127) #[.slice (some ⟨g,0,none⟩) l.length cap]).run P w.drew=.ok (.pointer (some ⟨g,0,none⟩)) w.drew:=
  Lib.run_unsafeSliceData_row _ _ _ _ _ _ (by omega)
 have hUS:(Builtin.unsafeString_ #[(ρ.t 127),(ρ.t 3)] (ρ.t 9) #[.pointer (some ⟨g,0,none⟩),.int .i64 l.length]).run P w.drew=.ok (.string ⟨l.toArray⟩) (w.drew.freeze ⟨g,0,none⟩ l.length):=
  Lib.run_unsafeString_row w.drew (ρ.t 127) (ρ.t 3) (ρ.t 9) (ρ.t 5) L.t127 X.cellsByte g cells hsh l h0 hc h63 hcell
 have mixed:=L.mixed
 have t72:=L.t72;have a72:=L.a72;have z72:=L.z72;have v72:=L.v72;have u72:=run_underlying L.t72
 have t70:=L.t70;have a70:=L.a70;have z70:=L.z70;have v70:=L.v70;have u70:=run_underlying L.t70
 have t37:=L.t37;have a37:=L.a37;have z37:=L.z37;have v37:=L.v37;have u37:=run_underlying L.t37
 have t127:=L.t127;have a127:=L.a127;have z127:=L.z127;have v127:=L.v127;have u127:=run_underlying L.t127
 have t3:=L.t3;have a3:=L.a3;have z3:=L.z3;have v3:=L.v3;have u3:=run_underlying L.t3
 have t9:=L.t9;have a9:=L.a9;have z9:=L.z9;have v9:=L.v9;have u9:=run_underlying L.t9
 have t5:=X.t5;have a5:=X.a5;have z5:=X.z5;have v5:=X.v5;have u5:=run_underlying X.t5
 go_enter L.f169,Body.n169_ntmps ρ
 go_wp2
 go_region_o
 all_goals (go_wp2;go_ret;exact⟨rfl,rfl⟩)
end Go.Am
