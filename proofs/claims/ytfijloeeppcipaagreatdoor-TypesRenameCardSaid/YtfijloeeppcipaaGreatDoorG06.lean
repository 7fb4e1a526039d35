/- Trees: the operations that change memory leave an overlay as it is; the light operations are sound. -/
import Derived.Lib.ItoaNum
import Derived.Shelf.Strings.Builder1
import Derived.Test.YtfijloeeppcipaaGreatDoorG05
set_option linter.all false
noncomputable section
namespace Go.Am
open Go Go.RowKit
section
section
variable {base:Nat}{t:Tr rA}{X:Xt}{H HA:xA}{e e':iC}{C:oA}{v:zA}
def Ov.newBlk(h:Ov base t X HA)(y:rA):Ov base (t.set HA.next y) X (newBlk HA y):=by
 refine⟨Nat.le_succ_of_le h.base,fun b hb=>?_,fun b z hb=>?_,fun b z hb=>?_⟩
 ·show(HA.t.set HA.next y).get b=_
  rw[Tr.get_set,Tr.get_set];split
  ·rfl
  ·exact h.same b hb
 ·obtain⟨h1,h2,h3⟩:=h.ext b z hb
  have hne:b≠HA.next:=Nat.ne_of_lt h3
  refine⟨?_,?_,Nat.lt_succ_of_lt h3⟩
  ·show(HA.t.set HA.next y).get b=_
   rw[Tr.get_set,yaa hne];exact h1
  ·rw[Tr.get_set,yaa hne];exact h2
 ·rw[Tr.get_set]at hb
  show b<HA.next+1
  split at hb
  ·rename_i e;rw[e];exact Nat.lt_succ_self _
  ·exact Nat.lt_succ_of_lt (h.lt _ _ hb)
def Ov.setBlk(h:Ov base t X HA){b:Nat}{y:rA}(hb:t.get b=some y)(z:rA):Ov base (t.set b z) X (setBlk HA b z):=by
 refine⟨h.base,fun c hc=>?_,fun c u hc=>?_,fun c u hc=>?_⟩
 ·show(HA.t.set b z).get c=_
  rw[Tr.get_set,Tr.get_set];split
  ·rfl
  ·exact h.same c hc
 ·obtain⟨h1,h2,h3⟩:=h.ext c u hc
  have hne:c≠b:=fun e=>by rw[e,hb]at h2;cases h2
  refine⟨?_,?_,h3⟩
  ·show(HA.t.set b z).get c=_
   rw[Tr.get_set,yaa hne];exact h1
  ·rw[Tr.get_set,yaa hne];exact h2
 ·rw[Tr.get_set]at hc
  show c<HA.next
  split at hc
  ·rename_i e;rw[e];exact h.lt _ _ hb
  ·exact h.lt _ _ hc
def Ov.delBlk(h:Ov base t X HA){b:Nat}{y:rA}(hb:t.get b=some y):Ov base (t.del b) X ⟨HA.next,HA.t.del b⟩:=by
 refine⟨h.base,fun c hc=>?_,fun c u hc=>?_,fun c u hc=>?_⟩
 ·show(HA.t.del b).get c=_
  rw[Tr.get_del,Tr.get_del];split
  ·rfl
  ·exact h.same c hc
 ·obtain⟨h1,h2,h3⟩:=h.ext c u hc
  have hne:c≠b:=fun e=>by rw[e,hb]at h2;cases h2
  refine⟨?_,?_,h3⟩
  ·show(HA.t.del b).get c=_
   rw[Tr.get_del,yaa hne];exact h1
  ·rw[Tr.get_del,yaa hne];exact h2
 ·rw[Tr.get_del]at hc
  show c<HA.next
  split at hc
  ·cases hc
  ·exact h.lt _ _ hc
def zvl (base:Nat)(x:xA->Option (zA × xA)):Prop:=∀t X HA v H',Ov base t X HA->x ⟨HA.next,t⟩=some (v,H')->∃HA',x HA=some (v,HA')/\Ov base H'.t X HA'
def uR(l:List zA)(lo:Option Lo)(h:Ov base t X HA):Ov base (mE ⟨HA.next,t⟩ l lo).t X (mE HA l lo):=h.newBlk _
def zwa{ty:Nat}:zvl base (yH C ty):=by
 intro t X HA v H' ho h;unfold yH at h ⊢
 rw[uA]at h;obtain⟨y,h1,h2⟩:=h
 cases h2;rw[h1];exact⟨_,rfl,uR _ _ ho⟩
def z8t{u:zA}:zvl base (ztb u):=by
 intro t X HA v H' ho h
 cases h;exact⟨_,rfl,uR _ _ ho⟩
def ztd{ty:Nat}:zvl base (zh0 C ty):=by
 intro t X HA v H' ho h;unfold zh0 at h ⊢
 rw[uA]at h;obtain⟨y,h1,h3⟩:=h
 cases h3;rw[h1,sA];exact⟨_,rfl,uR _ _ ho⟩
def z2y{ty:Nat}{u:zA}:zvl base (z8u C ty u):=by
 intro t X HA v H' ho h;unfold z8u at h ⊢
 cases h;exact⟨_,rfl,uR _ _ ho⟩
def zfh{ty n:Nat}{ps:List (Nat × zA)}:zvl base (cH C ty n ps):=by
 intro t X HA v H' ho h;unfold cH at h ⊢
 simp only[uA,wB]at h;obtain⟨a,h1,b,h2,c,h3,h4,l,h5,h6⟩:=h
 cases h6;refine⟨mE HA l none,?_,uR _ _ ho⟩
 simp only[uA,wB];exact⟨a,h1,b,h2,c,h3,h4,l,h5,rfl⟩
def zdb(ho:Ov base t X HA){b off:Nat}{l:List zA}{H':xA}(h:eI C ⟨HA.next,t⟩ b off l=some H'):∃HA',eI C HA b off l=some HA'/\Ov base H'.t X HA':=by
 unfold eI at h ⊢
 simp only[uA,wB]at h;obtain⟨h1,c,h2,h3,h4⟩:=h
 cases h4;have h2':=h2
 unfold vE at h2';rw[uA]at h2'
 obtain⟨y,h5,_⟩:=h2'
 refine⟨_,?_,ho.setBlk h5 _⟩
 simp only[uA,wB];exact⟨h1,c,qM ho.le h2,h3,rfl⟩
def zv6{ty:Nat}{a u:zA}:zvl base (rC C ty a u):=by
 intro t X HA v H' ho h;unfold rC at h ⊢
 simp only[uA,wB]at h;obtain⟨y,h1,p,h2,h3,H1,h4,h5⟩:=h
 cases h5;obtain⟨HA',h6,h7⟩:=zdb ho h4
 refine⟨HA',?_,h7⟩
 simp only[uA,wB];exact⟨y,h1,p,h2,h3,HA',h6,rfl⟩
def znr:zvl base lT:=by
 intro t X HA v H' ho h
 cases h;exact⟨_,rfl,ho.newBlk _⟩
def zf2{ty:Nat}{m k u:zA}:zvl base (rI C ty m k u):=by
 intro t X HA v H' ho h;unfold rI at h ⊢
 simp only[uA,wB]at h;obtain⟨a,h1,b,h2,c,h3,h4,d,h5,h6,l,h7,h8,l',h9,h10⟩:=h
 cases h10;have h7':=h7
 unfold bG at h7';rw[uA]at h7'
 obtain⟨y,h11,_⟩:=h7'
 refine⟨_,?_,ho.setBlk h11 _⟩
 simp only[uA,wB];exact⟨a,h1,b,h2,c,h3,h4,d,h5,h6,l,mU ho.le h7,h8,l',h9,rfl⟩
def z13(ho:Ov base t X HA){e:RE}{H':xA}(h:mQ C ⟨HA.next,t⟩ e=some H'):∃HA',mQ C HA e=some HA'/\Ov base H'.t X HA'/\HA'.next=HA.next/\H'.next=HA.next:=by
 obtain⟨x,y,h1,h2,rfl⟩:=uX.1 h
 exact⟨setBlk HA e.blk y,uX.2 ⟨x,y,ho.up h1,h2,rfl⟩,ho.setBlk h1 _,rfl,rfl⟩
def zm3:∀ {l:List RE} {t:Tr rA} {HA:xA} {H':xA},Ov base t X HA->eR C l ⟨HA.next,t⟩=some H'->∃HA',eR C l HA=some HA'/\Ov base H'.t X HA'
 | [],t,HA,H',ho,h=>by cases h;exact⟨HA,rfl,ho⟩
 | e::l,t,HA,H',ho,h=>by
  unfold eR at h ⊢
  rw[uA]at h;obtain⟨H1,h1,h⟩:=h
  obtain⟨HA1,g1,g2,g3,g4⟩:=z13 ho h1
  rw[g1,sA];obtain⟨n1,t1⟩:=H1
  have g4:n1=HA.next:=g4
  subst g4;rw[<- g3]at h;exact zm3 g2 h
def zxx(ho:Ov base t X HA){e:RE}(h:zdp C ⟨HA.next,t⟩ e=true):zdp C HA e=true:=by
 cases e with
 | st b off l=>
  change (!qH (eI C ⟨HA.next,t⟩ b off l))=true at h
  show(!qH (eI C HA b off l))=true
  cases hs:eI C ⟨HA.next,t⟩ b off l with
  | none=>rw[hs]at h;cases h
  | some H'=>obtain⟨HA',g,_⟩:=zdb ho hs;rw[g];rfl
 | up b k v=>
  unfold zdp at h ⊢
  rw[ybb]at h ⊢
  refine⟨h.1,?_⟩
  have h2:=h.2
  split at h2
  ·rename_i hm;rw[mU ho.le hm]
  ·cases h2
def zv9{es:List Eff}:zvl base (dP C es):=by
 intro t X HA v H' ho h;unfold dP qQ at h ⊢
 simp only[uA,wB,ybb]at h;obtain⟨H1,⟨rs,h1,⟨h2,h3⟩,h4⟩,h5⟩:=h
 cases h5;obtain⟨HA',g1,g2⟩:=zm3 ho h4
 refine⟨HA',?_,g2⟩
 simp only[uA,wB,ybb];refine⟨HA',⟨rs,h1,⟨h2,?_⟩,g1⟩,rfl⟩
 rw[yG,ycb]at h3 ⊢
 exact fun e he=>zxx ho (h3 e he)
def zhz{ty:Nat}{l c:zA}:zvl base (fN C ty l c):=by
 intro t X HA v H' ho h;unfold fN at h ⊢
 simp only[uA,wB]at h;obtain⟨a,h1,b,h2,d,h3,n,h4,m,h5,h6,h7⟩:=h
 cases h7;refine⟨mE HA (gJ d.zero m) none,?_,uR _ _ ho⟩
 simp only[uA,wB];exact⟨a,h1,b,h2,d,h3,n,h4,m,h5,h6,rfl⟩
def znp{s d:Nat}{u:zA}:zvl base (zhy C s d u):=by
 intro t X HA v H' ho h;unfold zhy at h ⊢
 simp only[uA,wB]at h;obtain⟨a,h1,b,h2,c,h3,et,h4,k,h5,h6,l,h7,h8⟩:=h
 cases h8;refine⟨mE HA (oP l) (some (.ty c)),?_,uR _ _ ho⟩
 simp only[uA,wB];exact⟨a,h1,b,h2,c,h3,et,h4,k,h5,h6,l,h7,rfl⟩
def zpc(h:HLe H HA){sz n:Nat}{u:zA}{l:List zA}(hx:sO H sz n u=some l):sO HA sz n u=some l:=by
 unfold sO at hx ⊢
 split at hx
 ·rw[uA]at hx ⊢
  obtain⟨c,h1,h2⟩:=hx
  exact⟨c,qM h h1,h2⟩
 ·exact hx
def zvi(ho:Ov base t X HA){ty:tC}{a b:zA}{H':xA}(h:kP C ⟨HA.next,t⟩ ty a b=some (v,H')):∃HA',kP C HA ty a b=some (v,HA')/\Ov base H'.t X HA':=by
 unfold kP at h;simp only[uA]at h;obtain⟨el,h1,et,h2,n,h3,new,h4,h5⟩:=h
 have h4':=zpc ho.le h4
 suffices hs:∃HA',(match a.asSlice with
  | some s=>bif Nat.ble (s.2.2.1+n) s.2.2.2 then dS C HA et n new s else rR C HA el et n new s
  | none=>cA (Nat.beq a.tag 5) (uM HA el et n new))=some (v,HA')/\Ov base H'.t X HA' by
  obtain⟨HA',g1,g2⟩:=hs
  refine⟨HA',?_,g2⟩
  unfold kP;simp only[uA];exact⟨el,h1,et,h2,n,h3,new,h4',g1⟩
 cases hs:a.asSlice with
 | some s=>
  rw[hs]at h5;simp only[]at h5 ⊢
  rw[zC]at h5;split at h5
  ·rename_i hr
   simp only[hr,cond_true];unfold dS at h5 ⊢
   split at h5
   ·cases h5;exact⟨HA,rfl,ho⟩
   ·rw[uA]at h5
    obtain⟨H1,g1,g2⟩:=h5
    cases g2
    obtain⟨HA',g3,g4⟩:=zdb ho g1
    exact⟨HA',by simp only[g3,sA],g4⟩
  ·rename_i hr
   simp only[Bool.not_eq_true]at hr;simp only[hr,cond_false];unfold rR at h5 ⊢
   rw[wB]at h5;obtain⟨gm,h5⟩:=h5
   rw[wB]at h5;obtain⟨g0,h5⟩:=h5
   rw[uA]at h5;obtain⟨c,g1,h5⟩:=h5
   have g1':=qM ho.le g1
   unfold vE at g1;rw[uA]at g1;obtain⟨y,g2,_⟩:=g1
   split at h5
   ·rename_i hc
    unfold qV at h5;rw[uA]at h5;obtain⟨old,g3,g4⟩:=h5
    cases g4
    refine⟨mE HA (xD old new) (some (oI el et)),?_,uR _ _ ho⟩
    simp only[wB,uA];refine⟨gm,g0,c,g1',?_⟩
    rw[hc];unfold qV;simp only[uA];exact⟨old,g3,rfl⟩
   ·rename_i es hc
    unfold pV at h5;rw[wB]at h5;obtain⟨g3,g4⟩:=h5
    cases g4
    refine⟨⟨HA.next+1,(HA.t.del s.1).set HA.next (.cells (c.1.setMany new (s.2.2.1*et.size)) ((s.2.2.1+n)*et.size) (some es))⟩,?_,(ho.delBlk g2).newBlk _⟩
    simp only[wB,uA];refine⟨gm,g0,c,g1',?_⟩
    rw[hc];unfold pV;exact wB.2 ⟨g3,rfl⟩
 | none=>
  rw[hs]at h5;simp only[]at h5 ⊢
  rw[wB]at h5;obtain⟨g0,h5⟩:=h5
  unfold uM at h5;rw[zC]at h5;split at h5
  ·rename_i hn
   cases h5;refine⟨HA,?_,ho⟩
   rw[wB];refine⟨g0,?_⟩
   unfold uM;rw[hn];rfl
  ·rename_i hn
   rw[wB]at h5;obtain⟨g1,h5⟩:=h5
   cases h5;refine⟨mE HA new (some (oI el et)),?_,uR _ _ ho⟩
   rw[wB];refine⟨g0,?_⟩
   unfold uM;simp only[Bool.not_eq_true]at hn;rw[hn,cond_false,wB];exact⟨g1,rfl⟩
def ztc{ty u:Nat}{a b:zA}:zvl base (pF C ty u a b):=by
 intro t X HA v H' ho h;unfold pF at h;simp only[uA,wB]at h;obtain⟨y,h1,z,h2,h3,h4⟩:=h
 obtain⟨HA',g1,g2⟩:=zvi ho h4
 refine⟨HA',?_,g2⟩
 unfold pF;simp only[uA,wB];exact⟨y,h1,z,h2,h3,g1⟩
end
def zbu(ν:Nat->Nat)(ae:mK)(e:iC):Prop:=∀i p,tAd ae i=some p->z2m i e=some (.ptr (ν p.1) p.2)
def z2g(base:Nat)(X0 X:Xt)(ν:Nat->Nat)(lo:Tr (List zA)):Prop:=∀d l,lo.get d=some l->X0 (ν d)=none/\base<=ν d/\∃c,X (ν d)=some (.cells c l.length none)/\∀j a,l[j]?=some a->c.get j=some a
def zE{base:Nat}{W J:vH}{α:Type}{x:Option α}{K:α->T}{t:Tr rA}{Q:cB}:qA base W J (aB x K) t Q ↔ ∃a,x=some a/\qA base W J (K a) t Q:=by
 cases x with
 | none=>exact⟨fun h=>(by cases h),fun⟨_,h,_⟩=>(by cases h)⟩
 | some a=>exact⟨fun h=>⟨a,rfl,h⟩,fun⟨_,h,k⟩=>(by cases h;exact k)⟩
def iK{base:Nat}{W J:vH}{b:Bool}{K:T}{t:Tr rA}{Q:cB}:qA base W J (gdT b K) t Q ↔ b=true/\qA base W J K t Q:=by
 cases b with
 | false=>exact⟨fun h=>(by cases h),fun⟨h,_⟩=>(by cases h)⟩
 | true=>exact⟨fun h=>⟨rfl,h⟩,fun⟨_,h⟩=>h⟩
def eP{base:Nat}{W J:vH}{x:Option zA}{K:zA->T}{t:Tr rA}{Q:cB}:qA base W J (.opt x K) t Q ↔ ∃a,x=some a/\qA base W J (K a) t Q:=hO
def gU{base:Nat}{W J:vH}{x:Tr rA->Option zA}{K:zA->T}{t:Tr rA}{Q:cB}:qA base W J (.light x K) t Q ↔ ∃a,x t=some a/\qA base W J (K a) t Q:=hO
def zc1{ν:Nat->Nat}{ae:mK}{e:iC}(h:zbu ν ae e){x:Operand}{p:Nat × Nat}(hx:xAd ae x=some p):ev x e=some (.ptr (ν p.1) p.2):=by
 cases x with
 | tmp i=>exact h i p hx
 | const _=>cases hx
 | global _=>cases hx
 | func _=>cases hx
def z90{c:Tr zA}{l:List zA}(h:∀j a,l[j]?=some a->c.get j=some a):∀(n off:Nat),off+n<=l.length->c.many n off=some ((l.drop off).take n):=by
 intro n;induction n with
 | zero=>intro off _;simp;rfl
 | succ n ih=>
  intro off ho;have hlt:off<l.length:=by omega
  rw[Tr.many_succ,h off l[off] (ybd hlt),sA,ih (off+1) (by omega),sA]
  rw[ybl hlt,List.take_succ_cons]
section
variable {W J:vH}{t:Tr rA}{X X0:Xt}{HA:xA}{e eA:iC}{C:oA}{ν:Nat->Nat}{ae:mK}{lo:Tr (List zA)}{k:KOp}{Q:cB}{R:zA->Prop}
def zrr(ho:Ov C.base t X HA)(hl:z2g C.base X0 X ν lo){d off ty:Nat}{l:List zA}{y:tC}{v:zA}(h1:lo.get d=some l)(h2:C.tys.get ty=some y)(h3:Nat.ble (off+y.size) (yB l)=true)(h4:oL C ty l off=some v) :
  mA C ty HA (.ptr (ν d) off)=some v:=by
 obtain⟨_,_,c,hc,hg⟩:=hl d l h1
 have hb:=(ho.ext _ _ hc).1
 unfold mA;simp only[zA.asPtr,sA];rw[h2,sA];unfold vE;rw[hb,sA];simp only[rA.asCells,sA];unfold oL at h4;rw[h2,sA]at h4;unfold wN;rw[zC]at h4 ⊢
 rw[kE,bC]at h3;split at h4
 ·rename_i ha
  rw[yab ha,z90 hg _ _ h3,sA];rw[eO,vQ]at h4;exact h4
 ·rename_i ha
  rw[yaa ha];rw[eF]at h4;exact hg _ _ h4
def dM(he:iN e eA){op:Op}(hp:bN op=true\/(∃s d x,op=.convert s d x/\(jG C d=1\/jG C s=2))\/(∃c,op=.call c/\(c.callee=.builtin .max\/c.callee=.builtin .min)))
  (h:qA C.base W J (zqv C op e k) t Q) (hKd:∀v,qA C.base W J (k.Kd v) t Q->R v):∃v,(gE op).f C eA HA=some v/\R v:=by
 unfold zqv at h;rw[zE]at h;obtain⟨v,h1,h2⟩:=h
 exact⟨v,z5w he hp h1,hKd v h2⟩
def zv8{ty:Nat}{u v:zA}{H:xA}(ht:jG C ty=4)(h:oB u=some v):zvq C ty H u=some v:=by
 unfold jG at ht
 cases hy:C.tys.get ty with
 | none=>rw[hy]at ht;cases ht
 | some y=>
  rw[hy]at ht;have ht:y.desc.tag=4:=ht
  unfold zvq;rw[hy,sA];unfold oB at h;unfold zvt
  cases u<;>simp only[zA.asSlice,zA.asStr,zA.asMap,zA.tag]at h ⊢ <;> (try (rw[wB]at h;exact absurd h.1 (by decide)))
  case nilslice=>
   rw[wB]at h;have hn:y.desc.asArr=none:=by cases hd:y.desc<;>rw[hd]at ht<;>first | rfl | (cases ht;done)
   rw[hn,ht];simp only[uA,wB];exact⟨0,⟨rfl,rfl⟩,h.2⟩
  case slice a b n m=>
   rw[ht]
   cases h;simp only[uA,wB];exact⟨n,⟨rfl,rfl⟩,rfl⟩
def z0a{ty:Nat}{u v:zA}{H H':xA}(ht:jG C ty≠6)(h:zvq C ty H u=some v):zvq C ty H' u=some v:=by
 unfold zvq at h ⊢
 simp only[uA]at h ⊢
 obtain⟨y,h1,n,h2,h3⟩:=h
 refine⟨y,h1,n,?_,h3⟩
 have ht:¬ Nat.beq y.desc.tag 6=true:=by
  intro hb;apply ht;unfold jG;rw[h1];exact fB.1 hb
 unfold zvt at h2 ⊢
 split at h2
 ·exact h2
 ·split at h2
  ·exact h2
  ·split at h2
   ·exact h2
   ·split at h2
    ·rw[wB]at h2;exact absurd h2.1 ht
    ·exact h2
def zxj{ty:Nat}{a v:zA}{l h:Option zA}{H H':xA}(ht:jG C ty=2)(hx:zH C ty H a l h=some v):zH C ty H' a l h=some v:=by
 unfold zH at hx ⊢
 rw[uA]at hx ⊢
 obtain⟨y,h1,h2⟩:=hx
 refine⟨y,h1,?_⟩
 unfold jG at ht;rw[h1]at ht;have ht:y.desc.tag=2:=ht
 unfold aK at h2 ⊢
 have n1:y.desc.asSlice=none:=by cases hd:y.desc<;>rw[hd]at ht<;>first | rfl | (cases ht;done)
 have n2:y.desc.asArr=none:=by cases hd:y.desc<;>rw[hd]at ht<;>first | rfl | (cases ht;done)
 split at h2
 ·exact h2
 ·split at h2
  ·rw[n1]at h2;cases h2
  ·split at h2
   ·rw[n2]at h2;cases h2
   ·exact h2
def zd0{u:zA}(h:zA.one u=true):u.cells=[u]:=by
 cases u<;>first
  | rfl
  | (have:=vC.1 h;simp[zA.tag]at this)
def zuv{tyAt:Nat->Option Nat}(place:Nat->Option (Nat × Nat)):∀(vs:List (Nat × zA)) {q:List (Nat × zA × List zA) × List zA},zyd C tyAt vs=some q->kB zA.one q.2=true->∀cells l,z5s place q.1 cells=some l->tM place vs cells=some l:=by
 intro vs;induction vs with
 | nil=>intro q h _ cells l hl;cases h;exact hl
 | cons p vs ih=>
  intro q h h1 cells l hl;have h:(ob (tyAt p.1) fun t=>ob (C.tys.get t) fun ty=>ob (zyd C tyAt vs) fun r=>some (bif ty.desc.isAgg then((p.1,p.2,p.2.cells)::r.1,r.2)else((p.1,p.2,[p.2])::r.1,p.2::r.2)))=some q:=h
  simp only[uA]at h;obtain⟨ty,_,y,_,r,h3,h4⟩:=h
  have aC:∀(rest:List zA),kB zA.one r.2=true->(ob (place p.1) fun q=>ob (z5r cells q.1 q.2 p.2.cells) fun cells=>z5s place r.1 cells)=some l->tM place (p::vs) cells=some l:=by
   intro _ hr hl;show(ob (place p.1) fun q=>ob (sU cells q.1 q.2 p.2) fun cells=>tM place vs cells)=some l
   simp only[uA]at hl ⊢
   obtain⟨a,g1,b,g2,g3⟩:=hl
   exact⟨a,g1,b,g2,ih h3 hr _ _ g3⟩
  cases hb:y.desc.isAgg with
  | true=>
   rw[hb]at h4
   cases h4;exact aC [] h1 hl
  | false=>
   rw[hb]at h4
   cases h4;rw[yG,cond_false]at h1;simp only[ycg,ybb]at h1;have hl:(ob (place p.1) fun q=>ob (z5r cells q.1 q.2 [p.2]) fun cells=>z5s place r.1 cells)=some l:=hl
   rw[<- zd0 h1.1]at hl;exact aC [] (by rw[yG];exact h1.2) hl
def z83(he:iN e eA)(ha:zbu ν ae eA)(ho:Ov C.base t X HA)(hl:z2g C.base X0 X ν lo){op:Op}(h:qA C.base W J (tL C op e ae lo k) t Q)
  (hK:∀v,qA C.base W J (k.K v) t Q->R v) (hKd:∀v,qA C.base W J (k.Kd v) t Q->R v) (hKA:∀d off,qA C.base W J (k.KA d off) t Q->R (.ptr (ν d) off)) :
  ∃v,(gE op).f C eA HA=some v/\R v:=by
 cases op<;>simp only[tL]at h<;>try (cases h;done)
 case move x=>
  unfold z27 at h;split at h
  ·rename_i p hp
   exact⟨_,zc1 ha hp,hKA _ _ h⟩
  ·exact dM he (.inl rfl) h hKd
 case assign x=>
  unfold z27 at h;split at h
  ·rename_i p hp
   exact⟨_,zc1 ha hp,hKA _ _ h⟩
  ·exact dM he (.inl rfl) h hKd
 case pick c a b=>exact dM he (.inl rfl) h hKd
 case load ty a=>
  unfold tLoad at h;split at h
  ·rename_i p hp
   simp only[zE,iK]at h;obtain⟨l,h1,y,h2,h3,v,h4,h5⟩:=h
   refine⟨v,?_,hKd v h5⟩
   show bO ty a C eA HA=some v
   rw[zzk,zc1 ha hp,sA];exact zrr ho hl h1 h2 h3 h4
  ·rw[zE]at h
   obtain⟨u,h1,h2⟩:=h
   rw[gU]at h2;obtain⟨v,h3,h4⟩:=h2
   refine⟨v,?_,hK v h4⟩
   show bO ty a C eA HA=some v
   rw[zzk,dC he h1,sA];exact zf3 ho.le h3
 case nilCheck x=>
  unfold tNil at h;split at h
  ·rename_i p hp
   refine⟨_,?_,hKA _ _ h⟩
   show z41 x C eA HA=_
   rw[z7o (zc1 ha hp)];rfl
  ·rw[zE]at h
   obtain⟨u,h1,h2⟩:=h
   rw[eP]at h2;obtain⟨v,h3,h4⟩:=h2
   refine⟨v,?_,hK v h4⟩
   show z41 x C eA HA=_
   rw[z7o (dC he h1)];exact h3
 case binOp op ty x y u=>
  unfold tBin at h;rw[zC]at h;split at h
  ·exact dM he (.inl rfl) h hKd
  ·simp only[zE,eP]at h
   obtain⟨a,h1,b,h2,v,h3,h4⟩:=h
   refine⟨v,?_,hK v h4⟩
   show zzp op ty x y C eA HA=_
   rw[lBin_v (dC he h1) (dC he h2)];exact h3
 case unOp o ty x=>
  split at h
  ·simp only[zE,eP]at h
   obtain⟨u,h1,v,h2,h3⟩:=h
   refine⟨v,?_,hK v h3⟩
   show lUn .xor x C eA HA=_
   unfold lUn;rw[dC he h1];exact h2
  ·exact dM he (.inl rfl) h hKd
 case convert s d x=>
  unfold z85 at h;rw[zC]at h;split at h
  ·rename_i hd
   rw[zC]at h;split at h
   ·rename_i hs
    exact dM he (.inr (.inl ⟨s,d,x,rfl,.inr (fB.1 hs)⟩)) h hKd
   ·simp only[zE,gU]at h
    obtain⟨u,h1,v,h2,h3⟩:=h
    refine⟨v,?_,hK v h3⟩
    show uL s d x C eA HA=_
    rw[zzn (dC he h1)];exact zta ho.le h2
  ·rw[zC]at h
   split at h
   ·rename_i hd
    exact dM he (.inr (.inl ⟨s,d,x,rfl,.inl (fB.1 hd)⟩)) h hKd
   ·cases h
 case makeInterface ty x=>exact dM he (.inl rfl) h hKd
 case makeFunc fn a b=>exact dM he (.inl rfl) h hKd
 case slice ty x lo' hi mx=>
  cases mx with
  | some _=>cases h
  | none=>
   simp only[z6y,zE]at h;obtain⟨a,h1,l,h2,r,h3,h4⟩:=h
   rw[zC]at h4;show ∃v,tR ty x lo' hi C eA HA=some v/\R v
   rw[z40 (dC he h1) (zsj he h2) (zsj he h3)]
   split at h4
   ·rename_i ht
    rw[eP]at h4;obtain⟨v,h5,h6⟩:=h4
    exact⟨v,zxj (fB.1 ht) h5,hK v h6⟩
   ·rw[gU]at h4
    obtain⟨v,h5,h6⟩:=h4
    exact⟨v,znq ho.le h5,hK v h6⟩
 case fieldAddr s x f=>
  unfold zf8 at h;show ∃v,yP s x f C eA HA=some v/\R v
  split at h
  ·rename_i p hp
   rw[zE]at h;obtain⟨o,h1,h2⟩:=h
   refine⟨_,?_,hKA _ _ h2⟩
   rw[zb4 (zc1 ha hp)]
   unfold tB;rw[h1];rfl
  ·simp only[zE,eP]at h
   obtain⟨u,h1,v,h2,h3⟩:=h
   refine⟨v,?_,hK v h3⟩
   rw[zb4 (dC he h1)];exact h2
 case field ty x f=>exact dM he (.inl rfl) h hKd
 case indexAddr ty x i=>
  unfold zf7 at h;show ∃v,aO ty x i C eA HA=some v/\R v
  split at h
  ·rename_i p hp
   simp only[zE]at h;obtain⟨iv,h1,n,h2,o,h3,h4⟩:=h
   refine⟨_,?_,hKA _ _ h4⟩
   rw[zb3 (zc1 ha hp) (dC he h1)]
   unfold zql at h3;simp only[uA,wB]at h3;obtain⟨y,g1,a,g2,et,g3,g4,g5⟩:=h3
   cases g5
   unfold qB;rw[g1,sA,h2,sA];simp only[zA.asSlice,zA.asPtr,sA];rw[g2,sA,g3,sA,g4];rfl
  ·simp only[zE,eP]at h
   obtain⟨u,h1,w,h2,v,h3,h4⟩:=h
   refine⟨v,?_,hK v h4⟩
   rw[zb3 (dC he h1) (dC he h2)];exact h3
 case index ty x i=>
  rw[zC]at h;split at h
  ·exact dM he (.inl rfl) h hKd
  ·simp only[zE,eP]at h
   obtain⟨u,h1,w,h2,v,h3,h4⟩:=h
   refine⟨v,?_,hK v h4⟩
   show zP ty x i C eA HA=_
   rw[z43 (dC he h1) (dC he h2)];exact h3
 case lookup ty x i ok=>
  simp only[zE,gU]at h;obtain⟨m,h1,key,h2,v,h3,h4⟩:=h
  refine⟨v,?_,hK v h4⟩
  show cO ty x i ok C eA HA=_
  rw[zzj (dC he h1) (dC he h2)];exact zj9 ho.le h3
 case extract x i=>
  simp only[zE,eP]at h;obtain⟨u,h1,v,h2,h3⟩:=h
  refine⟨v,?_,hK v h3⟩
  show xP x i C eA HA=_
  rw[zub (dC he h1)];exact h2
 case typeAssert x a u ok=>
  simp only[zE,eP]at h;obtain⟨w,h1,v,h2,h3⟩:=h
  refine⟨v,?_,hK v h3⟩
  show wP x u ok C eA HA=_
  rw[zzq (dC he h1)];exact h2
 case build ty ps=>
  unfold z60 at h;simp only[zE,iK]at h;obtain⟨y,h1,hbd,vs,h2,q,h3,l,h4,h5⟩:=h
  have h5:if kB zA.one q.2=true then qA C.base W J (k.Kd (.agg l)) t Q else False:=h5
  split at h5
  ·rename_i hone
   refine⟨_,?_,hKd _ h5⟩
   show uQ ty ps C eA HA=_
   have hf:=zuv (zgt C y) vs h3 hone y.zero l h4
   unfold uQ;rw[h1,sA,zjo he h2,sA]
   cases hs:y.desc.asStruct with
   | some fs=>
    simp only[];have:(fun i=>ob (gC fs i) fun x=>some (x.1,x.2.2))=zgt C y:=by funext i;unfold zgt;rw[hs]
    rw[this,hf];rfl
   | none=>
    simp only[];unfold zmz at hbd;rw[hs]at hbd;simp only[]at hbd
    cases ha:y.desc.asArr with
    | none=>rw[ha]at hbd;cases hbd
    | some a=>
     rw[ha]at hbd;simp only[]at hbd
     cases hy:C.tys.get a.2 with
     | none=>rw[hy]at hbd;cases hbd
     | some et=>
      simp only[sA];have:(fun i=>some (i*et.size,et.size))=zgt C y:=by funext i;unfold zgt;rw[hs];simp only[];rw[ha,sA,hy,sA]
      rw[hy,sA,this,hf];rfl
  ·exact h5.elim
 case call c=>
  split at h
  ·rename_i b hb
   cases b<;>simp only[cV]at h<;>try (cases h;done)
   case len=>
    unfold tLen at h;simp only[zE]at h;obtain⟨ty,h1,x,h2,u,h3,h4⟩:=h
    show ∃v,(uN c c.callee).f C eA HA=some v/\R v
    rw[hb];show ∃v,zo3 c C eA HA=some v/\R v
    rw[lLen_v h1 h2 (dC he h3)]
    rw[zC]at h4;split at h4
    ·rename_i ht
     rw[eP]at h4;obtain⟨v,h5,h6⟩:=h4
     exact⟨v,zv8 (fB.1 ht) h5,hK v h6⟩
    ·rw[zC]at h4
     split at h4
     ·rw[gU]at h4
      obtain⟨v,h5,h6⟩:=h4
      exact⟨v,zv7 ho.le h5,hK v h6⟩
     ·rename_i ht
      rw[zE]at h4;obtain⟨v,h5,h6⟩:=h4
      exact⟨v,z0a (fun e=>ht (fB.2 e)) h5,hKd v h6⟩
   case max=>exact dM he (.inr (.inr ⟨c,rfl,.inl hb⟩)) h hKd
   case min=>exact dM he (.inr (.inr ⟨c,rfl,.inr hb⟩)) h hKd
  ·cases h
end
end
section
def zp1(C:oA)(A:Tr qD)(f:Nat)(args:List zA)(H:xA):uB:=
 bif Nat.blt f yo then
  match C.prims.get f with
  | some g=>g args H
  | none=>tD C A (.func f) args H
 else tD C A (.yld (f-yo)) args H
def wX{C:oA}{A:Tr qD}{f:Nat}{args:List zA}{H:xA}(h:Nat.blt f yo=true):zp1 C A f args H=(match C.prims.get f with
  | some g=>g args H
  | none=>tD C A (.func f) args H):=by unfold zp1;rw[h];rfl
def zmw{C:oA}{A:Tr qD}{l:Nat}{args:List zA}{H:xA}:zp1 C A (yo+l) args H=tD C A (.yld l) args H:=by
 unfold zp1;have:Nat.blt (yo+l) yo=false:=Bool.eq_false_iff.2 fun e=>by have:=vC.1 e;omega
 rw[this,Nat.add_sub_cancel_left];rfl
def wC (base:Nat)(X0:Xt)(Q:cB)(d:uB):Prop:=∃v t' HA' X',d=some (v,HA')/\Ov base t' X' HA'/\XLe X0 X'/\Q v t'
def wC.mono{base:Nat}{X0:Xt}{Q Q':cB}{d:uB}(h:wC base X0 Q d)(k:∀v t,Q v t->Q' v t):wC base X0 Q' d:=by
 obtain⟨v,t',HA',X',h1,h2,h3,h4⟩:=h
 exact⟨v,t',HA',X',h1,h2,h3,k _ _ h4⟩
def fP(C:oA)(A:Tr qD)(W:vH):Prop:=∀f args t R,W f args t R->∀X HA,Ov C.base t X HA->wC C.base X R (zp1 C A f args HA)
section
variable {W J:vH}{t:Tr rA}{X X0:Xt}{HA:xA}{e eA:iC}{C:oA}{A:Tr qD}{ν:Nat->Nat}{ae:mK}{lo:Tr (List zA)}{k:KOp}{kl:KLo}{Q:cB}
def vJ{f:LOp}{H:xA}{v:zA}(h:f C e H=some v):lv f C e H=.val v H:=by unfold lv;rw[h]
def z16{op:Op}{H:xA}{v:zA}(h:(gE op).f C e H=some v):(sF op).f C e H=.val v H:=by
 cases op
 case move x=>exact vJ h
 case assign x=>exact vJ h
 case pick c a b=>exact vJ h
 case load t a=>exact vJ h
 case nilCheck x=>exact vJ h
 case binOp op t x y u=>exact vJ h
 case unOp op t x=>exact vJ h
 case makeInterface t x=>exact vJ h
 case makeFunc fn a b=>exact vJ h
 case slice t x lo hi mx=>exact vJ h
 case fieldAddr s x f=>exact vJ h
 case field t x f=>exact vJ h
 case indexAddr t x i=>exact vJ h
 case index t x i=>exact vJ h
 case extract t i=>exact vJ h
 case build t ps=>exact vJ h
 case typeAssert x t u ok=>exact vJ h
 case lookup t x i ok=>exact vJ h
 case convert s d x=>
  show rQ s d x C e H=_
  have h:uL s d x C e H=some v:=h
  unfold rQ;rw[h]
 case call c=>
  have h:(uN c c.callee).f C e H=some v:=h
  show(zbm c c.callee).f C e H=_
  cases hc:c.callee with
  | value f=>rw[hc]at h;cases h
  | invoke a b=>rw[hc]at h;cases h
  | builtin b=>
   rw[hc]at h
   cases b
   case len=>exact vJ (f:=zo3 c) h
   case max=>exact vJ (f:=zzi c) h
   case min=>exact vJ (f:=zzg c) h
   all_goals exact absurd (show(none:Option zA)=some v from h) (by simp)
 all_goals exact absurd (show(none:Option zA)=some v from h) (by simp)
def qS{x:Option (zA × xA)}{v:zA}{H':xA}{kd:zA->xA->uB}{φ:Ora}(h:x=some (v,H')):iF φ (iJ x) HA kd=kd v H':=by subst h;rfl
def uO(ho:Ov C.base t X HA){x:xA->Option (zA × xA)}(hx:zvl C.base x){K:zA->T}(h:qA C.base W J (.heavy x K) t Q){kd:zA->xA->uB}{φ:Ora}
  (hK:∀v t' HA' X',Ov C.base t' X' HA'->XLe X X'->qA C.base W J (K v) t' Q->wC C.base X0 Q (kd v HA')) {r:aI} (hr:∀p,x HA=some p->iF φ r HA kd=kd p.1 p.2):wC C.base X0 Q (iF φ r HA kd):=by
 have h:=h HA.next ho.nextT ho.base
 rw[hO]at h;obtain⟨⟨v,H'⟩,h1,h2⟩:=h
 obtain⟨HA',h3,h4⟩:=hx _ _ _ _ _ ho h1
 rw[hr _ h3];exact hK v _ _ _ h4 (XLe.refl _) h2
def zzbl(hW:fP C A W)(ho:Ov C.base t X HA){f:Nat}(hf:Nat.blt f yo=true){args:List zA}{K:zA->T}(h:W f args t fun v t'=>qA C.base W J (K v) t' Q){kd:zA->xA->uB}
  (hK:∀v t' HA' X',Ov C.base t' X' HA'->XLe X X'->qA C.base W J (K v) t' Q->wC C.base X0 Q (kd v HA')):wC C.base X0 Q (iF (tD C A) (zho C HA args f (C.prims.get f)) HA kd):=by
 obtain⟨v,t',HA',X',h1,h2,h3,h4⟩:=hW _ _ _ _ h X HA ho
 rw[wX hf]at h1;unfold zho
 cases hp:C.prims.get f with
 | some g=>
  rw[hp]at h1;simp only[h1];exact hK _ _ _ _ h2 h3 h4
 | none=>
  rw[hp]at h1;have h1:tD C A (.func f) args HA=some (v,HA'):=h1
  show wC C.base X0 Q (ob (tD C A (.func f) args HA) fun p=>kd p.1 p.2)
  rw[h1];exact hK _ _ _ _ h2 h3 h4
def z3x(hW:fP C A W)(ho:Ov C.base t X HA){l:Nat}{args:List zA}{K:zA->T}(h:W (yo+l) args t fun v t'=>qA C.base W J (K v) t' Q){kd:zA->xA->uB}
  (hK:∀v t' HA' X',Ov C.base t' X' HA'->XLe X X'->qA C.base W J (K v) t' Q->wC C.base X0 Q (kd v HA')):wC C.base X0 Q (iF (tD C A) (.round l args) HA kd):=by
 obtain⟨v,t',HA',X',h1,h2,h3,h4⟩:=hW _ _ _ _ h X HA ho
 rw[zmw]at h1;show wC C.base X0 Q (ob (tD C A (.yld l) args HA) fun p=>kd p.1 p.2)
 rw[h1];exact hK _ _ _ _ h2 h3 h4
def Ov.setX{base:Nat}(h:Ov base t X HA){b:Nat}{y:rA}(hb:X b=some y)(z:rA):Ov base t (fun c=>if c=b then some z else X c) (Am.setBlk HA b z):=by
 obtain⟨g1,g2,g3⟩:=h.ext b y hb
 refine⟨h.base,fun c hc=>?_,fun c u hc=>?_,h.lt⟩
 ·split at hc
  ·cases hc
  ·rename_i hne
   show(HA.t.set b z).get c=_
   rw[Tr.get_set,yaa hne];exact h.same c hc
 ·show(HA.t.set b z).get c=_/\_/\c<HA.next
  rw[Tr.get_set];split at hc
  ·rename_i e;cases hc;subst e;rw[yab rfl];exact⟨rfl,g2,g3⟩
  ·rename_i hne;rw[yaa hne];exact h.ext c u hc
def Ov.newX{base:Nat}(h:Ov base t X HA)(z:rA):Ov base t (fun c=>if c=HA.next then some z else X c) (Am.newBlk HA z):=by
 refine⟨Nat.le_succ_of_le h.base,fun c hc=>?_,fun c u hc=>?_,fun b y hb=>Nat.lt_succ_of_lt (h.lt b y hb)⟩
 ·split at hc
  ·cases hc
  ·rename_i hne
   show(HA.t.set HA.next z).get c=_
   rw[Tr.get_set,yaa hne];exact h.same c hc
 ·show(HA.t.set HA.next z).get c=_/\_/\c<HA.next+1
  rw[Tr.get_set];split at hc
  ·rename_i e;cases hc;subst e;rw[yab rfl];exact⟨rfl,h.nextT,Nat.lt_succ_self _⟩
  ·rename_i hne;rw[yaa hne];have:=h.ext c u hc;exact⟨this.1,this.2.1,Nat.lt_succ_of_lt this.2.2⟩
def zy3(ho:Ov C.base t X HA)(hl:z2g C.base X0 X ν lo){d off:Nat}{l l':List zA}{u:zA}{sz:Nat}(h1:lo.get d=some l)(h2:sU l off sz u=some l')(h3:kB zA.one u.cells=true) :
  Nat.beq (yB u.cells) sz=true/\l'.length=l.length/\∃c',eI C HA (ν d) off u.cells=some (setBlk HA (ν d) (.cells c' l.length none))/\∀j a,l'[j]?=some a->c'.get j=some a:=by
 obtain⟨_,hb,c,hc,hg⟩:=hl d l h1
 have hx:=(ho.ext _ _ hc).1
 unfold sU at h2;simp only[wB,ybb,kE,bC,iG,eO,vQ,Option.some.injEq]at h2;obtain⟨⟨g1,g2⟩,g3⟩:=h2
 subst g3;refine⟨by rw[bC];exact g1,?_,c.setMany u.cells off,?_,?_⟩
 ·simp;omega
 ·unfold eI
  have n1:(!Nat.blt (ν d) C.base)=true:=by
   cases hq:Nat.blt (ν d) C.base with
   | true=>have:=vC.1 hq;omega
   | false=>rfl
  rw[n1];unfold vE;rw[hx];simp only[wB,sA,rA.asCells,ybb,kE,bC];exact⟨trivial,⟨g2,h3⟩,trivial⟩
 ·intro j a hj
  rw[Tr.get_setMany];split
  ·rename_i hh
   rw[ybp (by simp;omega)]at hj
   rw[yco (by simp;omega)]at hj
   rw[<- hj];congr 1
   simp;omega
  ·rename_i hh
   refine hg j a ?_
   by_cases hlt:j<off
   ·rw[yco (by simp;omega)]at hj
    rw[ydf,yab hlt]at hj;exact hj
   ·rw[ybp (by simp;omega),ybp (by simp;omega)]at hj
    rw[yde]at hj;rw[<- hj];congr 1
    simp;omega
def z1r{y:tC}{u:zA}(h:kB zA.one (zhl y u)=true):zhl y u=u.cells:=by
 unfold zhl at h ⊢
 rw[zC]at h ⊢
 split
 ·rfl
 ·rename_i e
  rw[yaa e,yG]at h;rw[zd0 (by simpa using h)]
def ztt{op:Op}{v:zA}{kd:zA->xA->uB}{φ:Ora}(h:(gE op).f C eA HA=some v):iF φ ((sF op).f C eA HA) HA kd=kd v HA:=by rw[z16 h];rfl
def zzc{la:List Nat}{dst:Option Nat}{d:Nat}(h:laOf la dst=some d):dst=some d:=by
 unfold laOf at h
 cases dst with
 | none=>cases h
 | some x=>simp only[zC]at h;split at h<;>cases h;rfl
def tH_ok(hW:fP C A W)(he:iN e eA)(ha:zbu ν ae eA)(ho:Ov C.base t X HA)(hl:z2g C.base X0 X ν lo){la:List Nat}{dst:Option Nat}{op:Op}
  (h:qA C.base W J (tH C la dst op e ae lo k kl) t Q) {kd:zA->xA->uB}
  (hK:∀v t' HA' X',Ov C.base t' X' HA'->XLe X X'->qA C.base W J (k.K v) t' Q->wC C.base X0 Q (kd v HA'))
  (hKd:∀v t' HA' X',Ov C.base t' X' HA'->XLe X X'->qA C.base W J (k.Kd v) t' Q->wC C.base X0 Q (kd v HA'))
  (hKA:∀d off,qA C.base W J (k.KA d off) t Q->wC C.base X0 Q (kd (.ptr (ν d) off) HA))
  (hnew:∀d l,laOf la dst=some d->qA C.base W J (kl.new d l) t Q->wC C.base X0 Q (kd (.ptr HA.next 0) (mE HA l none)))
  (hset:∀d l l' c',lo.get d=some l->l'.length=l.length->(∀j a,l'[j]?=some a->c'.get j=some a)->qA C.base W J (kl.set d l') t Q->wC C.base X0 Q (kd nD (setBlk HA (ν d) (.cells c' l.length none)))) :
  wC C.base X0 Q (iF (tD C A) ((sF op).f C eA HA) HA kd):=by
 have light:∀(op:Op),qA C.base W J (tL C op e ae lo k) t Q->wC C.base X0 Q (iF (tD C A) ((sF op).f C eA HA) HA kd):=by
  intro op h;obtain⟨v,h1,h2⟩:=z83 (R:=fun v=>wC C.base X0 Q (kd v HA)) he ha ho hl h (fun v h=>hK v _ _ _ ho (XLe.refl _) h) (fun v h=>hKd v _ _ _ ho (XLe.refl _) h) hKA
  rw[ztt h1];exact h2
 cases op<;>simp only[tH]at h<;>try (exact light _ h)
 case alloc ty=>
  show wC C.base X0 Q (iF _ (eS ty C eA HA) HA kd)
  rw[zC]at h;split at h
  ·rename_i ht
   have ht:rJ C ty=none:=by
    cases hx:rJ C ty with
    | none=>rfl
    | some _=>rw[hx]at ht;cases ht
   split at h
   ·rename_i d hd
    rw[zE]at h;obtain⟨y,h1,h2⟩:=h
    unfold eS;rw[h1,ht];exact hnew d _ hd h2
   ·refine uO ho zwa h hK fun p hp=>?_
    unfold eS;rw[ht];have hp:(ob (C.tys.get ty) fun ty=>some (.ptr HA.next 0,mE HA ty.zero none))=some p:=hp
    rw[hp];rfl
  ·refine uO ho ztd h hK fun p hp=>?_
   unfold eS;unfold zh0 at hp;rw[hp];rfl
 case box ty x=>
  rw[zC]at h;show wC C.base X0 Q (iF _ (z5f ty x C eA HA) HA kd)
  unfold z5f;split at h
  ·rename_i ht
   have ht:rJ C ty=none:=by
    cases hx:rJ C ty with
    | none=>rfl
    | some _=>rw[hx]at ht;cases ht
   rw[zE]at h;obtain⟨v,h1,h⟩:=h
   rw[dC he h1,ht];split at h
   ·rename_i d hd
    rw[zE]at h;obtain⟨y,_,h⟩:=h
    rw[zC]at h;split at h
    ·exact hnew d _ hd h
    ·have h:if zA.one v=true then qA C.base W J (kl.new d [v]) t Q else False:=h
     split at h
     ·rename_i h1
      have:=hnew d _ hd h
      rw[<- zd0 h1]at this;exact this
     ·exact h.elim
   ·refine uO ho z8t h hK fun p hp=>?_
    cases hp;rfl
  ·rw[zE]at h
   obtain⟨v,h1,h⟩:=h
   rw[dC he h1];refine uO ho z2y h hK fun p hp=>?_
   cases hp;rfl
 case buildSlice ty n ps=>
  rw[zE]at h;obtain⟨vs,h1,h⟩:=h
  show wC C.base X0 Q (iF _ (fS ty n ps C eA HA) HA kd)
  refine uO ho zfh h hK fun p hp=>?_
  refine qS (v:=p.1) (H':=p.2) ?_
  rw[zjo he h1];exact hp
 case makeMap ty r=>
  cases r with
  | some _=>simp only[]at h;exact light _ h
  | none=>
   simp only[]at h;show wC C.base X0 Q (iF _ (eW none C eA HA) HA kd)
   refine uO ho znr h hK fun p hp=>?_
   cases hp;rfl
 case makeSlice ty l c=>
  simp only[zE]at h;obtain⟨a,h1,b,h2,h⟩:=h
  show wC C.base X0 Q (iF _ (zbl ty l c C eA HA) HA kd)
  refine uO ho zhz h hK fun p hp=>?_
  refine qS (v:=p.1) (H':=p.2) ?_
  rw[dC he h1,dC he h2];unfold fN at hp
  cases hx:C.tys.get ty with
  | none=>rw[hx]at hp;cases hp
  | some y=>
   rw[hx]at hp;simp only[sA]at hp ⊢
   exact hp
 case store ty a x=>
  unfold z6x at h;show wC C.base X0 Q (iF _ (zl8 ty a x C eA HA) HA kd)
  split at h
  ·rename_i p hp
   simp only[zE]at h;obtain⟨u,h1,y,h2,l,h3,l',h4,h5⟩:=h
   have h5:if kB zA.one (zhl y u)=true then qA C.base W J (kl.set p.1 l') t Q else False:=h5
   split at h5
   ·rename_i hone
    have hcell:=z1r hone
    rw[hcell]at hone h4;have h4:sU l p.2 y.size u=some l':=h4
    obtain⟨g1,g2,c',g3,g4⟩:=zy3 ho hl h3 h4 hone
    have:=hset p.1 l l' c' h3 g2 g4 h5
    have e1:iF (tD C A) (zl8 ty a x C eA HA) HA kd=kd nD (setBlk HA (ν p.1) (.cells c' l.length none)):=by
     refine qS ?_
     rw[h2,sA,zc1 ha hp,sA];simp only[zA.asPtr,sA];rw[dC he h1,sA,g1,g3];rfl
    rw[e1];exact this
   ·exact h5.elim
  ·simp only[zE]at h
   obtain⟨av,h1,u,h2,h⟩:=h
   refine uO ho zv6 h hKd fun p hp=>?_
   refine qS (v:=p.1) (H':=p.2) ?_
   rw[dC he h1];unfold rC at hp
   cases hx:C.tys.get ty with
   | none=>rw[hx]at hp;cases hp
   | some y=>
    rw[hx]at hp;simp only[sA]at hp ⊢
    rw[dC he h2];exact hp
 case convert s d x=>
  rw[zC]at h;split at h
  ·rename_i hd
   rw[zE]at h;obtain⟨u,h1,h⟩:=h
   show wC C.base X0 Q (iF _ (rQ s d x C eA HA) HA kd)
   have hn:uL s d x C eA HA=none:=by
    rw[zzn (dC he h1)]
    cases hq:dN C s d HA u with
    | none=>rfl
    | some q=>
     exfalso
     unfold dN at hq;simp only[uA]at hq;obtain⟨sy,g1,dy,g2,g3⟩:=hq
     have hd:=fB.1 hd
     unfold jG at hd;rw[g2]at hd;have hd:dy.desc.tag=4:=hd
     unfold nN at g3;have n1:dy.desc.asInt=none:=by cases hz:dy.desc<;>rw[hz]at hd<;>first | rfl | (cases hd;done)
     have n2:dy.desc.isString=false:=by unfold bD.isString;rw[hd];rfl
     rw[n1,n2]at g3
     cases g3
   unfold rQ;rw[hn];simp only[];refine uO ho znp h hK fun p hp=>?_
   refine qS (v:=p.1) (H':=p.2) ?_
   rw[dC he h1];exact hp
  ·exact light _ (by simpa only[tL]using h)
 case insert ty m key x=>
  simp only[zE]at h;obtain⟨mv,h1,kv,h2,u,h3,h⟩:=h
  show wC C.base X0 Q (iF _ (gS ty m key x C eA HA) HA kd)
  refine uO ho zf2 h hKd fun p hp=>?_
  refine qS (v:=p.1) (H':=p.2) ?_
  rw[dC he h1,dC he h2,dC he h3];exact hp
 case mapUpdate ty m key x=>
  simp only[zE]at h;obtain⟨mv,h1,kv,h2,u,h3,h⟩:=h
  show wC C.base X0 Q (iF _ (gS ty m key x C eA HA) HA kd)
  refine uO ho zf2 h hKd fun p hp=>?_
  refine qS (v:=p.1) (H':=p.2) ?_
  rw[dC he h1,dC he h2,dC he h3];exact hp
 case call c=>
  show wC C.base X0 Q (iF _ ((zbm c c.callee).f C eA HA) HA kd)
  split at h
  ·rename_i f hc
   rw[hc];show wC C.base X0 Q (iF _ (zen f c.args C eA HA) HA kd)
   have aC:∀ {fv:zA} {aq:List zA},ev f e=some fv->evs c.args.toList e=some aq->qA C.base W J (.callv fv aq k.K) t Q->wC C.base X0 Q (iF (tD C A) (zen f c.args C eA HA) HA kd):=by
    intro fv aq h1 h2 h;have h:dD (kN fv aq) fun p=>W p.1 p.2 t fun v t'=>qA C.base W J (k.K v) t' Q:=h
    rw[hO]at h;obtain⟨⟨g,aq'⟩,h3,h4⟩:=h
    unfold kN at h3;rw[uA]at h3;obtain⟨p,h5,h6⟩:=h3
    have e0:zen f c.args C eA HA=zzbm C HA (xD p.2.1 aq) p.2.2 p.1:=by
     unfold zen jO;rw[dC he h1,sA,h5,sA,zjn he h2,sA,sA];rfl
    rw[e0]
    cases hp:p.1 with
    | func g'=>
     rw[hp]at h6;simp only[wB]at h6;obtain⟨hg,h6⟩:=h6
     cases h6;exact zzbl hW ho hg h4 hK
    | yld l=>
     rw[hp]at h6;simp only[wB,ybb]at h6;obtain⟨⟨ha,hb⟩,h6⟩:=h6
     cases h6;have ea:p.2.1=[]:=by cases hx:p.2.1 with | nil=>rfl | cons _ _=>rw[hx]at ha;cases ha
     have eb:p.2.2=[]:=by cases hx:p.2.2 with | nil=>rfl | cons _ _=>rw[hx]at hb;cases hb
     rw[ea,eb];exact z3x hW ho h4 hK
   unfold z6z at h;split at h
   ·rename_i g
    rw[iK,zE]at h;obtain⟨hg,aq,h1,h⟩:=h
    refine aC (fv:=.func (.func g) [] []) rfl h1 ?_
    show dD (kN (.func (.func g) [] []) aq) _
    have e2:kN (.func (.func g) [] []) aq=some (g,aq):=by
     show cA (Nat.blt g yo) (some (g,xD (xD [] aq) []))=_
     rw[hg,iG,iG];simp[cA]
    rw[e2];exact h
   ·simp only[zE]at h
    obtain⟨fv,h1,aq,h2,h⟩:=h
    exact aC h1 h2 h
  ·rename_i b hb
   rw[hb];have lt:qA C.base W J (cV C c e k b) t Q->wC C.base X0 Q (iF (tD C A) ((zbm c (.builtin b)).f C eA HA) HA kd):=by
    intro h;have:=light (.call c) (by show qA C.base W J (match c.callee with | .builtin b=>cV C c e k b | _=>.fail) t Q;rw[hb];exact h)
    have e1:(sF (.call c)).f C eA HA=(zbm c c.callee).f C eA HA:=rfl
    rw[e1,hb]at this;exact this
   unfold zkj at h;split at h
   ·simp only[zE,two']at h
    obtain⟨ty,h1,u,h2,p,h3,h⟩:=h
    show wC C.base X0 Q (iF _ (zbn c C eA HA) HA kd)
    refine uO ho ztc h hK fun q hq=>?_
    refine qS (v:=q.1) (H':=q.2) ?_
    rw[h1,sA];unfold pF at hq;simp only[uA,wB]at hq ⊢
    obtain⟨y,g1,z,g2,g3,g4⟩:=hq
    exact⟨y,g1,u,h2,z,g2,g3,p,zh5 he h3,g4⟩
   ·exact lt h
  ·cases h
end
end
section
structure dE (base:Nat) (X0:Xt) (kf:Nat) (ν:Nat->Nat) (X:Xt) (st:bF) (tm:Tm) (HA:xA) (t:Tr rA):Prop where
 ov:Ov base t X HA
 le:XLe X0 X
 k:st.tm.k=kf
 kA:tm.k=kf
 tms:∀i v,st.tm.get i=some v->tm.get i=some v
 ads:∀i p,xI i st.ad=some p->tm.get i=some (.ptr (ν p.1) p.2)
 lo:z2g base X0 X ν st.lo
 inj:∀d d' l l',st.lo.get d=some l->st.lo.get d'=some l'->ν d=ν d'->d=d'
def uT{i:Nat}{a:Nat × Nat × Nat}{l:List (Nat × Nat × Nat)}:xI i (a::l)=if i=a.1 then some a.2 else xI i l:=by
 show Bool.rec (motive:=fun _=>Option (Nat × Nat)) (xI i l) (some a.2) (Nat.beq i a.1)=_
 rw[nH];simp only[fB]
def z19{i:Nat}{p:Nat × Nat}:∀ {l:List (Nat × Nat × Nat)},xI i l=some p->(i,p.1,p.2)∈l:=by
 intro l;induction l with
 | nil=>intro h;cases h
 | cons a l ih=>
  intro h;rw[uT]at h;split at h
  ·rename_i e;cases h;rw[e];exact yby
  ·exact ybr _ (ih h)
def zrd{n:Nat}{tm:Tm}{dst:Option Nat}{v:zA}:(putA n tm dst v).k=tm.k:=by
 unfold putA putB
 cases dst with
 | none=>rfl
 | some d=>
  simp only[z34,zC];split
  ·unfold Tm.set;rw[nH];split<;>rfl
  ·rfl
def Tm.set_k{tm:Tm}{i:Nat}{v:zA}:(tm.set i v).k=tm.k:=by unfold Tm.set;rw[nH];split<;>rfl
section
variable {W J:vH}{t:Tr rA}{X X0:Xt}{HA:xA}{C:oA}{A:Tr qD}{ν:Nat->Nat}{Q:cB}{kf n:Nat}{st:bF}{tm:Tm}
def dE.put(h:dE C.base X0 kf ν X st tm HA t){dst:Option Nat}{v:zA}{lt:Bool}{κ:KT}(hw:qA C.base W J (zqt n dst v lt st κ) t Q) :
  ∃st',dE C.base X0 kf ν X st' (putA n tm dst v) HA t/\qA C.base W J (κ st') t Q:=by
 unfold zqt at hw
 cases dst with
 | none=>exact⟨st,h,hw⟩
 | some d=>
  simp only[zC]at hw;split at hw
  ·rename_i hd
   rw[iK]at hw;obtain⟨h1,h2⟩:=hw
   refine⟨_,?_,h2⟩
   refine⟨h.ov,h.le,(by show(st.tm.set d v).k=kf;rw[Tm.set_k];exact h.k),by rw[zrd];exact h.kA,?_,?_,h.lo,h.inj⟩
   ·intro i u hi
    have hi2:(st.tm.set d v).get i=some u:=hi
    rw[Tm.get_set]at hi2;rw[fH];split at hi2
    ·rename_i e;rw[yab ⟨by rw[e],by rw[e];exact vC.1 hd⟩];exact hi2
    ·rename_i e
     rw[yaa (fun hh=>e (by injection hh.1 with e1;exact e1.symm))]
     exact h.tms i u hi2
   ·intro i p hi
    rw[fH,yaa]
    ·exact h.ads i p hi
    ·rintro⟨e,_⟩
     injection e with e
     subst e;rw[hi]at h1
     cases h1
  ·rename_i hd
   refine⟨st,?_,hw⟩
   have:putA n tm (some d) v=tm:=by
    unfold putA putB;simp only[z34,zC];rw[yaa hd]
   rw[this];exact h
def dE.putA(h:dE C.base X0 kf ν X st tm HA t){dst:Option Nat}{d off:Nat}{κ:KT}(hw:qA C.base W J (z82 n dst d off st κ) t Q) :
  ∃st',dE C.base X0 kf ν X st' (Am.putA n tm dst (.ptr (ν d) off)) HA t/\qA C.base W J (κ st') t Q:=by
 unfold z82 at hw;rw[zE]at hw;obtain⟨i,h1,hw⟩:=hw
 subst h1;simp only[iK]at hw;obtain⟨h2,h3,h4⟩:=hw
 refine⟨_,?_,h4⟩
 refine⟨h.ov,h.le,h.k,by rw[zrd];exact h.kA,?_,?_,h.lo,h.inj⟩
 ·intro j u hj
  rw[fH,yaa]
  ·exact h.tms j u hj
  ·rintro⟨e,_⟩
   injection e with e
   subst e;have hj:st.tm.get i=some u:=hj
   rw[hj]at h3
   cases h3
 ·intro j p hj
  have hj:xI j ((i,d,off)::st.ad)=some p:=hj
  rw[uT]at hj;rw[fH];split at hj
  ·rename_i e;cases hj;rw[yab ⟨by rw[e],by rw[e];exact vC.1 h2⟩]
  ·rename_i e
   rw[yaa (fun hh=>e (by injection hh.1 with e1;exact e1.symm))]
   exact h.ads j p hj
def dE.new(h:dE C.base X0 kf ν X st tm HA t){d:Nat}{l:List zA}{κ:KT}(hw:qA C.base W J (tNew n d l st κ) t Q) :
  ∃st' ν' X',dE C.base X0 kf ν' X' st' (Am.putA n tm (some d) (.ptr HA.next 0)) (mE HA l none) t/\qA C.base W J (κ st') t Q:=by
 unfold tNew at hw;simp only[iK]at hw;obtain⟨h1,h2,h3,h4⟩:=hw
 have hx:=h.ov.nextX
 refine⟨_,fun c=>if c=d then HA.next else ν c,fun c=>if c=HA.next then some (.cells (Tr.ofList l) (yB l) none)else X c,?_,h4⟩
 refine⟨h.ov.newX _,?_,h.k,by rw[zrd];exact h.kA,?_,?_,?_,?_⟩
 ·intro b y hb
  have:X b=some y:=h.le b y hb
  show(if b=HA.next then _ else X b)=some y
  rw[yaa,this];intro e;rw[e,hx]at this;cases this
 ·intro j u hj
  rw[fH,yaa]
  ·exact h.tms j u hj
  ·rintro⟨e,_⟩
   injection e with e
   subst e;have hj:st.tm.get d=some u:=hj
   rw[hj]at h2
   cases h2
 ·intro j p hj
  have hj:xI j ((d,d,0)::st.ad)=some p:=hj
  rw[uT]at hj;rw[fH];split at hj
  ·rename_i e
   cases hj;rw[yab ⟨by rw[e],by rw[e];exact vC.1 h1⟩]
   show some (zA.ptr HA.next 0)=some (zA.ptr (if d=d then HA.next else ν d) 0)
   rw[yab rfl]
  ·rename_i e
   rw[yaa (fun hh=>e (by injection hh.1 with e1;exact e1.symm))]
   have hm:=z19 hj
   unfold z7j at h3;rw[yG,ycb]at h3;have:=h3 _ hm
   simp only[zC]at this;have hne:p.1≠d:=by
    intro e2;rw[yab (fB.2 e2)]at this
    exact e (fB.1 this)
   show Tm.get tm j=some (zA.ptr (if p.1=d then HA.next else ν p.1) p.2)
   rw[yaa hne];exact h.ads j p hj
 ·intro c m hc
  have hc:(st.lo.set d l).get c=some m:=hc
  rw[Tr.get_set]at hc;show X0 (if c=d then HA.next else ν c)=none/\C.base<=(if c=d then HA.next else ν c)/\∃c',(if (if c=d then HA.next else ν c)=HA.next then some (rA.cells (Tr.ofList l) (yB l) none)else X (if c=d then HA.next else ν c))=some (.cells c' m.length none)/\∀j a,m[j]?=some a->c'.get j=some a
  split at hc
  ·rename_i e
   cases hc;simp only[e,if_true];refine⟨?_,h.ov.base,Tr.ofList l,by rw[bC],fun j a hj=>by rw[Tr.get_ofList];exact hj⟩
   cases hq:X0 HA.next with
   | none=>rfl
   | some z=>have:=h.le _ _ hq;rw[hx]at this;cases this
  ·rename_i e
   simp only[yaa e];obtain⟨g1,g2,c',g3,g4⟩:=h.lo c m hc
   refine⟨g1,g2,c',?_,g4⟩
   rw[yaa,g3];intro e2;rw[e2,hx]at g3;cases g3
 ·intro c c' m m' hc hc' he
  have hc:(st.lo.set d l).get c=some m:=hc
  have hc':(st.lo.set d l).get c'=some m':=hc'
  have he:(if c=d then HA.next else ν c)=(if c'=d then HA.next else ν c'):=he
  rw[Tr.get_set]at hc hc'
  split at hc<;>split at hc'
  ·rename_i e1 e2;rw[e1,e2]
  ·rename_i e1 e2
   rw[yab e1,yaa e2]at he;obtain⟨_,_,_,g3,_⟩:=h.lo c' m' hc'
   rw[<- he,hx]at g3;cases g3
  ·rename_i e1 e2
   rw[yaa e1,yab e2]at he;obtain⟨_,_,_,g3,_⟩:=h.lo c m hc
   rw[he,hx]at g3;cases g3
  ·rename_i e1 e2
   rw[yaa e1,yaa e2]at he;exact h.inj c c' m m' hc hc' he
def dE.setLo(h:dE C.base X0 kf ν X st tm HA t){d:Nat}{l l':List zA}{c':Tr zA}(h1:st.lo.get d=some l)(h2:l'.length=l.length)(h3:∀j a,l'[j]?=some a->c'.get j=some a) :
  ∃X',dE C.base X0 kf ν X' ⟨st.tm,st.ad,st.lo.set d l',st.lit⟩ tm (setBlk HA (ν d) (.cells c' l.length none)) t:=by
 obtain⟨g1,g2,c,g3,g4⟩:=h.lo d l h1
 refine⟨_,h.ov.setX g3 _,?_,h.k,h.kA,h.tms,h.ads,?_,?_⟩
 ·intro b y hb
  show(if b=ν d then _ else X b)=some y
  rw[yaa]
  ·exact h.le b y hb
  ·intro e;rw[e,g1]at hb;cases hb
 ·intro e m he
  have he:(st.lo.set d l').get e=some m:=he
  rw[Tr.get_set]at he;split at he
  ·rename_i e1
   cases he;subst e1;exact⟨g1,g2,c',by show(if ν e=ν e then _ else _)=_;rw[yab rfl,h2],h3⟩
  ·rename_i e1
   obtain⟨k1,k2,k3,k4,k5⟩:=h.lo e m he
   refine⟨k1,k2,k3,?_,k5⟩
   show(if ν e=ν d then _ else X (ν e))=_
   rw[yaa,k4];intro e2;exact e1 (h.inj e d m l he h1 e2)
 ·intro e e' m m' he he' hv
  have he:(st.lo.set d l').get e=some m:=he
  have he':(st.lo.set d l').get e'=some m':=he'
  rw[Tr.get_set]at he he'
  have x1:∃q,st.lo.get e=some q:=by
   split at he
   ·rename_i e1;rw[e1];exact⟨l,h1⟩
   ·exact⟨m,he⟩
  have x2:∃q,st.lo.get e'=some q:=by
   split at he'
   ·rename_i e1;rw[e1];exact⟨l,h1⟩
   ·exact⟨m',he'⟩
  exact h.inj e e' _ _ x1.choose_spec x2.choose_spec hv
def dE.later(h:dE C.base X0 kf ν X st tm HA t){X':Xt}{HA':xA}{t':Tr rA}(ho:Ov C.base t' X' HA')(hx:XLe X X'):dE C.base X0 kf ν X' st tm HA' t':=
 ⟨ho,h.le.trans hx,h.k,h.kA,h.tms,h.ads,fun d l hd=>by
  obtain⟨g1,g2,c,g3,g4⟩:=h.lo d l hd
  exact⟨g1,g2,c,hx _ _ g3,g4⟩,h.inj⟩
def zct{ty:Nat}{v:zA}(h:fitB C ty v=true):z5m C ty v:=by
 unfold fitB at h;unfold z5m
 cases hy:C.tys.get ty with
 | none=>trivial
 | some y=>
  rw[hy]at h;simp only at h ⊢
  unfold fitD
  cases hd:y.desc<;>rw[hd]at h<;>simp only at h ⊢
  case bool=>
   have:=fB.1 h
   cases v<;>simp only[zA.tag]at this<;>first
    | exact⟨_,rfl⟩
    | (cases this;done)
  case int k=>
   cases v<;>simp only[zA.asIntK]at h<;>first
    | exact⟨_,by rw[oJ.1 h]⟩
    | (cases h;done)
  case string=>
   have:=fB.1 h
   cases v<;>simp only[zA.tag]at this<;>first
    | exact⟨_,rfl⟩
    | (cases this;done)
def zjj{ty:Nat}{v:zA}(h:(!Nat.ble (jG C ty) 2)=true):z5m C ty v:=by
 unfold z5m;unfold jG at h
 cases hy:C.tys.get ty with
 | none=>trivial
 | some y=>
  rw[hy]at h;simp only at h ⊢
  unfold fitD
  cases hd:y.desc<;>rw[hd]at h<;>first
   | trivial
   | (simp only[bD.tag]at h;exact absurd h (by decide))
def dW:∀(zs l:List zA) (pre:List zA),fK zs l=true->pI zs (cellsOf (pre++l)) pre.length=l:=by
 intro zs;induction zs with
 | nil=>intro l pre h;cases l with
  | nil=>rfl
  | cons a l=>cases h
 | cons z zs ih=>
  intro l pre h
  cases l with
  | nil=>cases h
  | cons a l=>
   unfold fK at h;rw[ybb]at h;show zd3 z (cellsOf (pre++a::l)) pre.length::pI zs (cellsOf (pre++a::l)) (pre.length+1)=a::l
   have e2:=ih l (pre++[a]) h.2
   rw[ybz]at e2;simp only[List.cons_append,yah,ybg,ybn,ybx]at e2;rw[e2];congr 1
   have hg:(pre++a::l)[pre.length]?=some a:=by simp
   have h1:=h.1
   cases z<;>simp only[zpb]at h1<;>simp only[zd3,cellsOf,jR,zz6,zxk,zhx,hg]<;>try (cases h1;done)
   case bool=>
    have:=fB.1 h1
    cases a<;>simp only[zA.tag]at this<;>first
     | rfl
     | (cases this;done)
   case int k _=>
    cases a<;>simp only[zA.asIntK]at h1<;>first
     | (rw[oJ.1 h1];done)
     | (cases h1;done)
   case str=>
    have:=fB.1 h1
    cases a<;>simp only[zA.tag]at this<;>first
     | rfl
     | (cases this;done)
def zqu{ty:Nat}{v:zA}{K:zA->T}(h:qA C.base W J (zwv C ty v K) t Q):z5m C ty v/\qA C.base W J (K v) t Q:=by
 unfold zwv at h;unfold z5m;have agg:∀zs,qA C.base W J (bif Nat.ble (yB zs) 40 then .asG zs v fun X=>K (.agg (pI zs X 0))else K v) t Q->qA C.base W J (K v) t Q:=by
  intro zs h;rw[zC]at h;split at h
  ·have h:dD (zK zs v) fun X=>qA C.base W J (K (.agg (pI zs X 0))) t Q:=h
   rw[hO]at h;obtain⟨X,h1,h2⟩:=h
   unfold zK at h1;simp only[uA,wB]at h1;obtain⟨l,h3,h4,h5⟩:=h1
   cases h5;have:=dW zs l [] h4
   simp only[yah,ybx]at this;rw[this]at h2;rw[jV.1 h3];exact h2
  ·exact h
 cases hy:C.tys.get ty with
 | none=>rw[hy]at h;exact⟨trivial,h⟩
 | some y=>
  rw[hy]at h;simp only at h ⊢
  unfold fitD
  cases hd:y.desc<;>rw[hd]at h<;>simp only at h ⊢
  case bool=>
   have h:dD v.asBool fun n=>qA C.base W J (K (.bool n)) t Q:=h
   rw[hO]at h;obtain⟨b,h1,h2⟩:=h
   rw[fR.1 h1];exact⟨⟨b,rfl⟩,h2⟩
  case int k=>
   have h:dD (zzan k v) fun n=>qA C.base W J (K (.int k n)) t Q:=h
   rw[hO]at h;obtain⟨b,h1,h2⟩:=h
   unfold zzan at h1;simp only[uA,wB]at h1;obtain⟨p,h3,h4,h5⟩:=h1
   cases h5;rw[lP.1 h3,oJ.1 h4];exact⟨⟨_,rfl⟩,h2⟩
  case string=>
   have h:dD v.asStr fun n=>qA C.base W J (K (.str n)) t Q:=h
   rw[hO]at h;obtain⟨b,h1,h2⟩:=h
   rw[mP.1 h1];exact⟨⟨b,rfl⟩,h2⟩
  all_goals first
   | exact⟨trivial,agg _ h⟩
   | exact⟨trivial,h⟩
def zab{g lt:Bool}{v:zA}{K:zA->Bool->T}(h:qA C.base W J (zf6 g lt v K) t Q):∃lt',qA C.base W J (K v lt') t Q:=by
 unfold zf6 at h
 cases g with
 | false=>exact⟨lt,h⟩
 | true=>
  cases lt with
  | true=>exact⟨true,h⟩
  | false=>
   simp only[cond_true,cond_false]at h;rw[zE]at h;obtain⟨b,h1,h2⟩:=h
   rw[fR.1 h1];have h2:if b=true then qA C.base W J (K (.bool true) true) t Q else qA C.base W J (K (.bool false) true) t Q:=h2
   cases b with
   | true=>exact⟨true,h2⟩
   | false=>exact⟨true,h2⟩
def zc2(h:dE C.base X0 kf ν X st tm HA t){g:Option (Nat × Bool)}{all:Array Oper}{w:Bool}(hw:eE g all st.tm=some w):eE g all tm=some w:=by
 unfold eE zv3 at hw ⊢
 cases g with
 | none=>exact hw
 | some jw=>
  simp only[zj5]at hw ⊢
  rw[uA]at hw ⊢
  obtain⟨d,h1,hw⟩:=hw
  refine⟨d,h1,?_⟩
  rw[uA]at hw ⊢
  obtain⟨v,h2,hw⟩:=hw
  exact⟨v,h.tms _ _ h2,hw⟩
def SK (C:oA)(W J:vH)(X0:Xt)(kf:Nat)(Q:cB)(κ:KT)(m:Tm->xA->uB):Prop:=∀st tm HA t X ν,dE C.base X0 kf ν X st tm HA t->qA C.base W J (κ st) t Q->wC C.base X0 Q (m tm HA)
def wC.norm{ty:Nat}{v:zA}{K:zA->uB}(hf:z5m C ty v)(h:wC C.base X0 Q (K v)):wC C.base X0 Q (xJ C ty v K):=by
 obtain⟨u,t',HA',X',h1,h2⟩:=h
 exact⟨u,t',HA',X',vL.2 ⟨hf,h1⟩,h2⟩
def wC.ob{α:Type}{x:Option α}{a:α}{K:α->uB}(hx:x=some a)(h:wC C.base X0 Q (K a)):wC C.base X0 Q (Am.ob x K):=by subst hx;exact h
def zxl(hW:fP C A W){e eA:iC}{ae:mK}(he:iN e eA)(ha:zbu ν ae eA)(hst:dE C.base X0 kf ν X st tm HA t){la:List Nat}{all:Array Oper}{o:Oper}{κ:KT}{m:Tm->xA->uB}
  (hκ:∀st' tm' HA' t' X' ν',(la=[]->ν'=ν)->dE C.base X0 kf ν' X' st' tm' HA' t'->(∃v,tm'=putA n tm o.dst v)->qA C.base W J (κ st') t' Q->wC C.base X0 Q (m tm' HA'))
  (h:qA C.base W J (tH C la o.dst o.op e ae st.lo (kop C all n o e st κ) (klo C n o st κ)) t Q) :
  wC C.base X0 Q (iF (tD C A) ((sF o.op).f C eA HA) HA fun v H'=>xJ C o.type v fun v=>m (putA n tm o.dst v) H'):=by
 refine tH_ok hW he ha hst.ov hst.lo h ?_ ?_ ?_ ?_ ?_
 ·intro v t' HA' X' ho hx hk
  have hk:qA C.base W J (zwv C o.type v fun v=>zf6 (zjc all.toList o.dst all.toList) (z4s o.op e st.lit) v fun v lt=>zqt n o.dst v lt st κ) t' Q:=hk
  obtain⟨h1,h2⟩:=zqu hk
  obtain⟨lt',h3⟩:=zab h2
  obtain⟨st',h4,h5⟩:=(hst.later ho hx).put h3
  exact wC.norm h1 (hκ _ _ _ _ _ _ (fun _=>rfl) h4 ⟨v,rfl⟩ h5)
 ·intro v t' HA' X' ho hx hk
  obtain⟨h1,h2⟩:=iK.1 hk
  obtain⟨lt',h3⟩:=zab h2
  obtain⟨st',h4,h5⟩:=(hst.later ho hx).put h3
  exact wC.norm (zct h1) (hκ _ _ _ _ _ _ (fun _=>rfl) h4 ⟨v,rfl⟩ h5)
 ·intro d off hk
  obtain⟨h1,h2⟩:=iK.1 hk
  obtain⟨st',h4,h5⟩:=hst.putA h2
  exact wC.norm (zjj h1) (hκ _ _ _ _ _ _ (fun _=>rfl) h4 ⟨_,rfl⟩ h5)
 ·intro d l hd hk
  obtain⟨h1,h2⟩:=iK.1 hk
  obtain⟨st',ν',X',h4,h5⟩:=hst.new h2
  have e:=zzc hd
  rw[e];refine wC.norm (zjj h1) (hκ _ _ _ _ _ _ (fun hl=>?_) h4 ⟨_,by rw[e]⟩ h5)
  rw[hl,e]at hd
  cases hd
 ·intro d l l' c' h1 h2 h3 hk
  obtain⟨h4,h5⟩:=iK.1 hk
  obtain⟨X',h6⟩:=hst.setLo h1 h2 h3
  obtain⟨st',h7,h8⟩:=h6.put h5
  exact wC.norm (zct h4) (hκ _ _ _ _ _ _ (fun _=>rfl) h7 ⟨_,rfl⟩ h8)
def ziw(h:dE C.base X0 kf ν X st tm HA t):iN (.now st.tm) (.now tm)/\zbu ν (.now st.ad) (.now tm):=⟨h.tms,h.ads⟩
def z8z(hW:fP C A W){la:List Nat}{all:Array Oper}{κ:KT}{m:Tm->xA->uB}(hκ:SK C W J X0 kf Q κ m):∀(l:List Oper),SK C W J X0 kf Q (tops C la all n κ l) (rK C (tD C A) all n m l):=by
 intro l;induction l with
 | nil=>exact hκ
 | cons o l ih=>
  intro st tm HA t X ν hst h;have h:qA C.base W J (aB (eE o.guard all st.tm) fun w=>Bool.rec (motive:=fun _=>T) (zqt n o.dst nD false st (tops C la all n κ l))
   (tH C la o.dst o.op (.now st.tm) (.now st.ad) st.lo (kop C all n o (.now st.tm) st (tops C la all n κ l)) (klo C n o st (tops C la all n κ l))) w) t Q:=h
  rw[zE]at h;obtain⟨w,h1,h2⟩:=h
  rw[dT];refine wC.ob (zc2 hst h1) ?_
  cases w with
  | false=>
   rw[yaa (by simp)]
   obtain⟨st',h3,h4⟩:=hst.put h2
   exact ih _ _ _ _ _ _ h3 h4
  | true=>
   rw[yab rfl];exact zxl hW (ziw hst).1 (ziw hst).2 hst (fun st' tm' HA' t' X' ν' _ hs _ hw=>ih _ _ _ _ _ _ hs hw) h2
end
end
section
structure zhw (ν:Nat->Nat) (old:bF) (oldA:Tm):Prop where
 tms:∀i v,old.tm.get i=some v->oldA.get i=some v
 ads:∀i p,xI i old.ad=some p->oldA.get i=some (.ptr (ν p.1) p.2)
def dE.old{base:Nat}{X0 X:Xt}{kf:Nat}{ν:Nat->Nat}{st:bF}{tm:Tm}{HA:xA}{t:Tr rA}(h:dE base X0 kf ν X st tm HA t):zhw ν st tm:=⟨h.tms,h.ads⟩
def Tm.get_cut{tm:Tm}{i:Nat}:tm.cut.get i=if i<tm.k then tm.get i else none:=by
 unfold Tm.cut Tm.get;simp only[nH];by_cases h:Nat.blt i tm.k=true
 ·rw[yab h,yab h,yab (vC.1 h)]
 ·rw[yaa h,yaa (fun e=>h (vC.2 e))];rfl
def z2a{k i:Nat}:∀ {l:List (Nat × Nat × Nat)},xI i (iC.adCut k l)=if i<k then xI i l else none:=by
 intro l;induction l with
 | nil=>show none=_;split<;>rfl
 | cons a l ih=>
  unfold iC.adCut at ih ⊢
  rw[List.filter_cons];split
  ·rename_i ha
   have ha:=vC.1 ha
   rw[uT,ih,uT];split
   ·rename_i e;rw[yab (by omega)]
   ·rfl
  ·rename_i ha
   rw[ih,uT];split
   ·rename_i hi
    rw[yaa];intro e;exact ha (vC.2 (by omega))
   ·rfl
section
variable {W J:vH}{t:Tr rA}{X X0:Xt}{HA:xA}{C:oA}{A:Tr qD}{ν:Nat->Nat}{Q:cB}{kf n:Nat}{st old:bF}{tm oldA:Tm}{all:Array Oper}{olds:List (Nat × List Nat)}
def dE.cut(h:dE C.base X0 kf ν X st tm HA t):dE C.base X0 kf ν X st.cut tm.cut HA t:=by
 refine⟨h.ov,h.le,h.k,h.kA,?_,?_,h.lo,h.inj⟩
 ·intro i v hi
  have hi:st.tm.cut.get i=some v:=hi
  rw[Tm.get_cut]at hi ⊢
  split at hi
  ·rename_i e;rw[yab (by rw[h.kA,<- h.k];exact e)];exact h.tms i v hi
  ·cases hi
 ·intro i p hi
  have hi:xI i (iC.adCut st.tm.k st.ad)=some p:=hi
  rw[z2a]at hi;rw[Tm.get_cut];split at hi
  ·rename_i e;rw[yab (by rw[h.kA,<- h.k];exact e)];exact h.ads i p hi
  ·cases hi
def aT(h:dE C.base X0 kf ν X st tm HA t)(ho:zhw ν old oldA){os:List Nat}{op:Op}:iN (zo0 st old os op) (.mixed tm oldA os (zG op))/\zbu ν (z4o st old os op) (.mixed tm oldA os (zG op)):=by
 constructor
 ·intro i v hi
  have hi:(bif aE i (zG op)then Tm.get (bif aE i os then old.tm else st.tm) i else none)=some v:=hi
  show(bif aE i (zG op)then Tm.get (bif aE i os then oldA else tm) i else none)=some v
  cases hm:aE i (zG op)with
  | false=>rw[hm]at hi;cases hi
  | true=>
   rw[hm]at hi;simp only[cond_true]at hi ⊢
   cases hq:aE i os with
   | true=>rw[hq]at hi;exact ho.tms i v hi
   | false=>rw[hq]at hi;exact h.tms i v hi
 ·intro i p hi
  have hi:(bif aE i (zG op)then xI i (bif aE i os then old.ad else st.ad)else none)=some p:=hi
  show(bif aE i (zG op)then Tm.get (bif aE i os then oldA else tm) i else none)=_
  cases hm:aE i (zG op)with
  | false=>rw[hm]at hi;cases hi
  | true=>
   rw[hm]at hi;simp only[cond_true]at hi ⊢
   cases hq:aE i os with
   | true=>rw[hq]at hi;exact ho.ads i p hi
   | false=>rw[hq]at hi;exact h.ads i p hi
def za2(ho:zhw ν old oldA){κ:KT}{kd:Tm->uB}(hκ:∀st' tm',dE C.base X0 kf ν X st' tm' HA t->qA C.base W J (κ st') t Q->wC C.base X0 Q (kd tm')) :
  ∀(l:List Nat) (st:bF) (tm:Tm),dE C.base X0 kf ν X st tm HA t->qA C.base W J (eM C all n old olds κ l st) t Q->wC C.base X0 Q (dG C HA all n oldA olds kd l tm):=by
 intro l;induction l with
 | nil=>exact hκ
 | cons i l ih=>
  intro st tm hst h;have h:qA C.base W J (aB (gC all.toList i) fun o=>aB (eE o.guard all st.tm) fun w=>Bool.rec (motive:=fun _=>T) (zqt n o.dst nD false st (eM C all n old olds κ l))
   (tL C o.op (zo0 st old (aD i olds) o.op) (z4o st old (aD i olds) o.op) st.lo (kop C all n o (zo0 st old (aD i olds) o.op) st (eM C all n old olds κ l))) w) t Q:=h
  rw[zE]at h;obtain⟨o,h0,h⟩:=h
  rw[zE]at h;obtain⟨w,h1,h2⟩:=h
  rw[yY];refine wC.ob h0 (wC.ob (zc2 hst h1) ?_)
  cases w with
  | false=>
   rw[yaa (by simp)]
   obtain⟨st',h3,h4⟩:=hst.put h2
   exact ih _ _ h3 h4
  | true=>
   rw[yab rfl];refine Exists.elim (z83 (R:=fun v=>wC C.base X0 Q (xJ C o.type v fun v=>dG C HA all n oldA olds kd l (putA n tm o.dst v))) (aT hst ho).1 (aT hst ho).2 hst.ov hst.lo h2 ?_ ?_ ?_) (fun v h=>wC.ob h.1 h.2)
   ·intro v hk
    have hk:qA C.base W J (zwv C o.type v fun v=>zf6 (zjc all.toList o.dst all.toList) (z4s o.op (zo0 st old (aD i olds) o.op) st.lit) v fun v lt=>zqt n o.dst v lt st (eM C all n old olds κ l)) t Q:=hk
    obtain⟨g1,g2⟩:=zqu hk
    obtain⟨lt',g3⟩:=zab g2
    obtain⟨st',g4,g5⟩:=hst.put g3
    exact wC.norm g1 (ih _ _ g4 g5)
   ·intro v hk
    obtain⟨g1,g2⟩:=iK.1 hk
    obtain⟨lt',g3⟩:=zab g2
    obtain⟨st',g4,g5⟩:=hst.put g3
    exact wC.norm (zct g1) (ih _ _ g4 g5)
   ·intro d off hk
    obtain⟨g1,g2⟩:=iK.1 hk
    obtain⟨st',g4,g5⟩:=hst.putA g2
    exact wC.norm (zjj g1) (ih _ _ g4 g5)
def zws(ho:zhw ν old oldA)(hst:dE C.base X0 kf ν X st tm HA t){k:T}{kd:uB}(hk:qA C.base W J k t Q->wC C.base X0 Q kd) :
  ∀(l:List Nat),qA C.base W J (cP C all old olds st k l) t Q->wC C.base X0 Q (lJ C HA all oldA olds tm kd l):=by
 intro l;induction l with
 | nil=>exact hk
 | cons i l ih=>
  intro h;have h:qA C.base W J (aB (gC all.toList i) fun o=>aB o.dst fun d=>aB (eE o.guard all st.tm) fun w=>Bool.rec (motive:=fun _=>T) (cP C all old olds st k l)
   (aB (st.tm.get d) fun u=>gdT (fitB C o.type u) (tL C o.op (zo0 st old (aD i olds) o.op) (z4o st old (aD i olds) o.op) st.lo ⟨fun v=>.ite (same 10 v u) (cP C all old olds st k l) .fail,fun v=>.ite (same 10 v u) (cP C all old olds st k l) .fail,fun _ _=>.fail⟩)) w) t Q:=h
  rw[zE]at h;obtain⟨o,h0,h⟩:=h
  rw[zE]at h;obtain⟨d,h1,h⟩:=h
  rw[zE]at h;obtain⟨w,h2,h⟩:=h
  rw[mZ];refine wC.ob h0 (wC.ob h1 (wC.ob (zc2 hst h2) ?_))
  cases w with
  | false=>rw[yaa (by simp)];exact ih h
  | true=>
   rw[yab rfl];simp only[zE,iK]at h;obtain⟨u,h3,h4,h5⟩:=h
   have aC:∀v,qA C.base W J (.ite (same 10 v u) (cP C all old olds st k l) .fail) t Q->wC C.base X0 Q (xJ C o.type v fun v=>ob (tm.get d) fun u=>cA (same 10 v u) (lJ C HA all oldA olds tm kd l)):=by
    intro v hv;have hv:if same 10 v u=true then qA C.base W J (cP C all old olds st k l) t Q else False:=hv
    split at hv
    ·rename_i hs
     refine wC.norm ?_ (wC.ob (hst.tms _ _ h3) ?_)
     ·rw[za4 _ _ _ hs];exact zct h4
     ·rw[hs];exact ih hv
    ·exact hv.elim
   obtain⟨v,h6,h7⟩:=z83 (R:=fun v=>wC C.base X0 Q (xJ C o.type v fun v=>ob (tm.get d) fun u=>cA (same 10 v u) (lJ C HA all oldA olds tm kd l))) (aT hst ho).1 (aT hst ho).2 hst.ov hst.lo h5 aC aC (fun _ _ h=>h.elim)
   exact wC.ob h6 h7
def z2v(hst:dE C.base X0 kf ν X st tm HA t){h:Nat}{o:Oper}{w:Bool}(hw:nO C all h o st.tm=some w):nO C all h o tm=some w:=by
 unfold nO at hw ⊢
 rw[uA]at hw ⊢
 obtain⟨u,h1,h2⟩:=hw
 exact⟨u,zc2 hst h1,h2⟩
def zu1{e e':iC}(he:iN e e'){op:Op}{ef:Eff}(h:qP op e=some ef):qP op e'=some ef:=by
 cases op<;>first | (cases h;done) | skip
 case store t a x=>
  simp only[qP,uA]at h ⊢
  obtain⟨a,h1,v,h2,h⟩:=h
  exact⟨a,dC he h1,v,dC he h2,h⟩
 case mapUpdate t m k x=>
  simp only[qP,uA]at h ⊢
  obtain⟨a,h1,v,h2,u,h3,h⟩:=h
  exact⟨a,dC he h1,v,dC he h2,u,dC he h3,h⟩
 case insert t m k x=>
  simp only[qP,uA]at h ⊢
  obtain⟨a,h1,v,h2,u,h3,h⟩:=h
  exact⟨a,dC he h1,v,dC he h2,u,dC he h3,h⟩
def z84{op:Op}{e:iC}{ae:mK}{ef:Eff}(h:tEff op e ae=some ef):qP op e=some ef:=by
 cases op<;>first | exact h | skip
 case store t a x=>
  unfold tEff at h;simp only[]at h;split at h
  ·cases h
  ·exact h
def z28(hst:dE C.base X0 kf ν X st tm HA t)(ho:zhw ν old oldA){l:List Nat}{es:List Eff}(h:z29 all old olds st l=some es):zu0 all oldA olds tm l=some es:=by
 refine bX l (fun i ef h=>?_) h
 unfold zfu;simp only[uA,wB]at h ⊢
 obtain⟨o,h1,w,h2,h3,h4⟩:=h
 exact⟨o,h1,w,zc2 hst h2,h3,zu1 (aT hst ho).1 (z84 h4)⟩
def zth(hW:fP C A W)(ho:zhw ν old oldA){κ:KT}{m:Tm->xA->uB}(hκ:SK C W J X0 kf Q κ m) :
  ∀(l:List pE) (st:bF) (tm:Tm) (HA:xA) (t:Tr rA) (X:Xt),dE C.base X0 kf ν X st tm HA t->qA C.base W J (uS C all n old olds κ l st) t Q->wC C.base X0 Q (xH C (tD C A) all n oldA olds m l tm HA):=by
 intro l;induction l with
 | nil=>intro st tm HA t X hst h;exact hκ _ _ _ _ _ _ hst h
 | cons s l ih=>
  intro st tm HA t X hst h
  cases hg:vO all s with
  | true=>
   have h:qA C.base W J (Bool.rec (motive:=fun _=>T) _ (gdT (wQ C all) (aB (z29 all old olds st s.again) fun es=>.heavy (dP C es) fun _=>eM C all n old olds (uS C all n old olds κ l) s.lights st)) (vO all s)) t Q:=h
   rw[hg]at h;have h:qA C.base W J (gdT (wQ C all) (aB (z29 all old olds st s.again) fun es=>.heavy (dP C es) fun _=>eM C all n old olds (uS C all n old olds κ l) s.lights st)) t Q:=h
   rw[iK]at h;obtain⟨h0,h⟩:=h
   rw[zE]at h;obtain⟨es,h1,h⟩:=h
   have h:=h HA.next hst.ov.nextT hst.ov.base
   rw[hO]at h;obtain⟨⟨v,H'⟩,h2,h3⟩:=h
   obtain⟨HA',h4,h5⟩:=zv9 _ _ _ _ _ hst.ov h2
   have h6:qQ C es HA=some HA':=by
    unfold dP at h4;rw[uA]at h4;obtain⟨y,g1,g2⟩:=h4
    cases g2
    exact g1
   rw[aV hg];unfold zl9;rw[h0];show wC C.base X0 Q (ob (zu0 all oldA olds tm s.again) fun es=>ob (qQ C es HA) fun H'=>dG C H' all n oldA olds (fun tm=>xH C (tD C A) all n oldA olds m l tm H') s.lights tm)
   refine wC.ob (z28 hst ho h1) (wC.ob h6 ?_)
   exact za2 ho (fun st' tm' hs hw=>ih _ _ _ _ _ hs hw) _ _ _ (hst.later h5 (XLe.refl _)) h3
  | false=>
  have h:qA C.base W J (Bool.rec (motive:=fun _=>T) (aB (gC all.toList (hvI all s.heavy)) fun o=>aB (nO C all s.heavy o st.tm) fun w=>
   (fun cont:KT=>Bool.rec (motive:=fun _=>T) (zqt n o.dst nD false st cont)
    (tH C [] o.dst o.op (zo0 st old (aD (hvI all s.heavy) olds) o.op) (z4o st old (aD (hvI all s.heavy) olds) o.op) st.lo (kop C all n o (zo0 st old (aD (hvI all s.heavy) olds) o.op) st cont) (klo C n o st cont)) w)
   (fun st'=>cP C all old olds st' (eM C all n old olds (uS C all n old olds κ l) s.lights st') s.again)) _ (vO all s)) t Q:=h
  rw[hg]at h;have h:qA C.base W J (aB (gC all.toList (hvI all s.heavy)) fun o=>aB (nO C all s.heavy o st.tm) fun w=>
   (fun cont:KT=>Bool.rec (motive:=fun _=>T) (zqt n o.dst nD false st cont)
    (tH C [] o.dst o.op (zo0 st old (aD (hvI all s.heavy) olds) o.op) (z4o st old (aD (hvI all s.heavy) olds) o.op) st.lo (kop C all n o (zo0 st old (aD (hvI all s.heavy) olds) o.op) st cont) (klo C n o st cont)) w)
   (fun st'=>cP C all old olds st' (eM C all n old olds (uS C all n old olds κ l) s.lights st') s.again)) t Q:=h
  rw[zE]at h;obtain⟨o,h0,h⟩:=h
  rw[zE]at h;obtain⟨w,h1,h2⟩:=h
  rw[cU hg];refine wC.ob h0 (wC.ob (z2v hst h1) ?_)
  have aC:∀st' tm' HA' t' X' ν',ν'=ν->dE C.base X0 kf ν' X' st' tm' HA' t'->qA C.base W J (cP C all old olds st' (eM C all n old olds (uS C all n old olds κ l) s.lights st') s.again) t' Q →
    wC C.base X0 Q (lJ C HA' all oldA olds tm' (dG C HA' all n oldA olds (fun tm=>xH C (tD C A) all n oldA olds m l tm HA') s.lights tm') s.again):=by
   intro st' tm' HA' t' X' ν' e hs hw;subst e;exact zws ho hs (fun hl=>za2 ho (fun st2 tm2 hs2 hw2=>ih _ _ _ _ _ hs2 hw2) _ _ _ hs hl) _ hw
  cases w with
  | false=>
   simp only[ybq,if_false];obtain⟨st',h3,h4⟩:=hst.put h2
   exact aC _ _ _ _ _ _ rfl h3 h4
  | true=>
   simp only[if_true];exact zxl (m:=fun tm' HA'=>lJ C HA' all oldA olds tm' (dG C HA' all n oldA olds (fun tm=>xH C (tD C A) all n oldA olds m l tm HA') s.lights tm') s.again)
    hW (aT hst ho).1 (aT hst ho).2 hst (fun st' tm' HA' t' X' ν' hn hs _ hw=>aC _ _ _ _ _ _ (hn rfl) hs hw) h2
def ztk(hW:fP C A W){la:List Nat}{fn id:Nat}{d:Bool}{κ:KT}{m:Tm->xA->uB}(hκ:SK C W J X0 kf Q κ m):SK C W J X0 kf Q (zwl C la fn n κ id all d) (za6 C (tD C A) fn n m id all d):=by
 intro st tm HA t X ν hst h
 cases d with
 | false=>exact z8z hW hκ _ _ _ _ _ _ _ hst.cut h
 | true=>
  have h:qA C.base W J (aB (ob (C.plans.get fn) fun t=>t.get id) fun p=>gdT (yO all p) (eM C all n st.cut p.olds (uS C all n st.cut p.olds κ p.stages) p.first st.cut)) t Q:=h
  simp only[zE,iK]at h;obtain⟨p,h1,h2,h3⟩:=h
  show wC C.base X0 Q (ob (ob (C.plans.get fn) fun t=>t.get id) fun p=>cA (yO all p) (dG C HA all n tm.cut p.olds (fun tm'=>xH C (tD C A) all n tm.cut p.olds m p.stages tm' HA) p.first tm.cut))
  refine wC.ob h1 ?_
  rw[h2];exact za2 hst.cut.old (fun st' tm' hs hw=>zth hW hst.cut.old hκ _ _ _ _ _ _ hs hw) _ _ _ hst.cut h3
end
structure PtD where
 p:PI
 m:Tm->xA->uB
def sK(C:oA)(φ:Ora)(fn n:Nat):qD->Kt->List PtD
 | .skip,_=>[]
 | .region _ _ _,_=>[]
 | .seq a b,κ=>sK C φ fn n a ⟨rD C φ fn n b κ,κ.exit,κ.ret⟩++sK C φ fn n b κ
 | .cond _ x y,κ=>sK C φ fn n x κ++sK C φ fn n y κ
 | .block id c,κ=>sK C φ fn n c ⟨κ.norm,fun i tm H=>Bool.rec (motive:=fun _=>uB) (κ.exit i tm H) (κ.norm tm H) (Nat.beq id i),κ.ret⟩
 | .loop p c,κ=>⟨p,rD C φ fn n (.loop p c) κ⟩::sK C φ fn n c ⟨rD C φ fn n (.loop p c) κ,κ.exit,κ.ret⟩
 | .exit _,_=>[]
 | .ret,_=>[]
 | .cut p c,κ=>⟨p,rD C φ fn n (.cut p c) κ⟩::sK C φ fn n c κ
 | .range i pl fo ps id ops c,_=>⟨⟨i,xD pl ps.toList,[]⟩,z6b C φ fn n ⟨i,pl,fo,ps,id,ops,c⟩⟩::sK C φ fn n c rdK
def z6q(base kf:Nat)(d:PtD)(vals:List zA)(t:Tr rA)(Q:cB):Prop:=∀X0 X HA tm ν,dE base X0 kf ν X (zvr kf d.p vals) tm HA t->wC base X0 Q (d.m tm HA)
def JOk (base kf:Nat)(J:vH)(l:List PtD):Prop:=∀d∈l,∀vals t Q,J d.p.id vals t Q->z6q base kf d vals t Q
structure SKt (C:oA) (W J:vH) (X0:Xt) (kf:Nat) (Q:cB) (κ:KtT) (m:Kt):Prop where
 norm:SK C W J X0 kf Q κ.norm m.norm
 exit:∀i,SK C W J X0 kf Q (κ.exit i) (m.exit i)
 ret:SK C W J X0 kf Q κ.ret m.ret
def zid{d:Nat}{l:List zA}{st:bF}:∀ {ll:List (Nat × Nat)} {b rest:List zA},zf0 st ll=some b->(z2q ll (b++rest)).get d=some l->st.lo.get d=some l:=by
 intro ll;induction ll with
 | nil=>intro b rest _ h;rw[show z2q [] (b++rest)=.leaf from rfl,Tr.get_leaf]at h;cases h
 | cons p ll ih=>
  intro b rest hb h;have hb:(ob (xI p.1 st.ad) fun a=>cA (Nat.beq a.1 p.1&&Nat.beq a.2 0) (ob (st.lo.get p.1) fun l=>cA (Nat.beq (yB l) p.2) (ob (zf0 st ll) fun r=>some (xD l r))))=some b:=hb
  simp only[uA,wB]at hb;obtain⟨a,_,_,l0,h2,h3,r,h4,h5⟩:=hb
  cases h5;have h:((z2q ll (xM (xD l0 r++rest) p.2)).set p.1 (zfr (xD l0 r++rest) p.2)).get d=some l:=h
  rw[fB,bC]at h3;rw[iG,vQ,eO,<- h3,ybz,List.drop_left,List.take_left,Tr.get_set]at h;split at h
  ·rename_i e;cases h;rw[e];exact h2
  ·exact ih h4 h
def z3j{i:Nat}{q:Nat × Nat}{st:bF}:∀ {ll:List (Nat × Nat)} {b:List zA},zf0 st ll=some b->xI i (stAd ll)=some q->xI i st.ad=some q:=by
 intro ll;induction ll with
 | nil=>intro b _ h;cases h
 | cons p ll ih=>
  intro b hb h;have hb:(ob (xI p.1 st.ad) fun a=>cA (Nat.beq a.1 p.1&&Nat.beq a.2 0) (ob (st.lo.get p.1) fun l=>cA (Nat.beq (yB l) p.2) (ob (zf0 st ll) fun r=>some (xD l r))))=some b:=hb
  simp only[uA,wB,ybb,fB]at hb;obtain⟨a,h1,⟨h2,h3⟩,l0,_,_,r,h4,_⟩:=hb
  have h:xI i ((p.1,p.1,0)::stAd ll)=some q:=h
  rw[uT]at h;split at h
  ·rename_i e;cases h;rw[e];show xI p.1 st.ad=some (p.1,0);rw[h1,<- h2,<- h3]
  ·exact ih h4 h
def z3h{i:Nat}{v:zA}{st:bF}:∀ {pl:List Nat} {a rest:List zA},uG (fun i=>st.tm.get i) pl=some a->(zng pl (a++rest)).get i=some v->st.tm.get i=some v:=by
 intro pl;induction pl with
 | nil=>intro a rest _ h;rw[show zng [] (a++rest)=.leaf from rfl,Tr.get_leaf]at h;cases h
 | cons j pl ih=>
  intro a rest ha h;rw[mL,uA]at ha;obtain⟨u,h1,ha⟩:=ha
  rw[uA]at ha;obtain⟨r,h2,ha⟩:=ha
  cases ha;have h:((zng pl (r++rest)).set j u).get i=some v:=h
  rw[Tr.get_set]at h;split at h
  ·rename_i e;cases h;rw[e];exact h1
  ·exact ih h2 h
def Tm.get_kv{k i:Nat}{v:Tr zA}{u:zA}(h:Tm.get ⟨k,v,[]⟩ i=some u):i<k/\v.get i=some u:=by
 unfold Tm.get at h;rw[nH]at h;split at h
 ·rename_i e;exact⟨vC.1 e,h⟩
 ·cases h
def zs8{p:PI}{st:bF}{vals:List zA}(h:zfz p st=some vals):∃a b,vals=a++b/\uG (fun i=>st.tm.get i) p.pl=some a/\zf0 st p.ll=some b/\a.length=p.pl.length:=by
 unfold zfz at h;simp only[uA]at h;obtain⟨a,h1,b,h2,h3⟩:=h
 cases h3;refine⟨a,b,iG _ _,h1,h2,?_⟩
 have:∀(l:List Nat) (r:List zA),uG (fun i=>st.tm.get i) l=some r->r.length=l.length:=by
  intro l;induction l with
  | nil=>intro r h;cases h;rfl
  | cons x l ih=>
   intro r h;rw[mL,uA]at h;obtain⟨u,_,h⟩:=h
   rw[uA]at h;obtain⟨s,h5,h⟩:=h
   cases h;simp[ih _ h5]
 exact this _ _ h1
section
variable {W J:vH}{t:Tr rA}{X X0:Xt}{HA:xA}{C:oA}{A:Tr qD}{ν:Nat->Nat}{Q:cB}{kf n:Nat}{st:bF}{tm:Tm}
def dE.at(h:dE C.base X0 kf ν X st tm HA t){p:PI}{vals:List zA}(hv:zfz p st=some vals):dE C.base X0 kf ν X (zvr kf p vals) tm HA t:=by
 obtain⟨a,b,rfl,h1,h2,h3⟩:=zs8 hv
 have hd:xM (a++b) (yB p.pl)=b:=by rw[vQ,bC,<- h3,List.drop_left]
 refine⟨h.ov,h.le,rfl,h.kA,?_,?_,?_,?_⟩
 ·intro i v hi
  exact h.tms i v (z3h h1 (Tm.get_kv hi).2)
 ·intro i q hi
  exact h.ads i q (z3j h2 hi)
 ·intro d l hl
  have hl:(z2q p.ll (xM (a++b) (yB p.pl))).get d=some l:=hl
  rw[hd]at hl;have hb:(z2q p.ll (b++[])).get d=some l:=by rw[ycd];exact hl
  exact h.lo d l (zid h2 hb)
 ·intro d d' l l' hl hl' he
  have hl:(z2q p.ll (xM (a++b) (yB p.pl))).get d=some l:=hl
  have hl':(z2q p.ll (xM (a++b) (yB p.pl))).get d'=some l':=hl'
  rw[hd]at hl hl'
  have hb:(z2q p.ll (b++[])).get d=some l:=by rw[ycd];exact hl
  have hb':(z2q p.ll (b++[])).get d'=some l':=by rw[ycd];exact hl'
  exact h.inj d d' l l' (zid h2 hb) (zid h2 hb') he
def zzu{tm:Tm}{i:Nat}{v:zA}(hv:tm.get i=some v):∀ {live:List Nat},i∈live->(zl2 tm live).get i=some v:=by
 intro live;induction live with
 | nil=>intro h;cases h
 | cons j live ih=>
  intro h;show(match tm.get j with | some v=>(zl2 tm live).set j v | none=>zl2 tm live:Tr zA).get i=some v
  by_cases e:i=j
  ·subst e;rw[hv];simp only[];rw[Tr.get_set,yab rfl]
  ·have:=ih ((ybs.1 h).resolve_left e)
   cases tm.get j with
   | none=>exact this
   | some u=>simp only[];rw[Tr.get_set,yaa e];exact this
def z3g{i:Nat}{v:zA}:∀ {pl:List Nat} {vals:List zA},(zng pl vals).get i=some v->i∈pl:=by
 intro pl;induction pl with
 | nil=>intro vals h;rw[show zng [] vals=.leaf from rfl,Tr.get_leaf]at h;cases h
 | cons j pl ih=>
  intro vals h
  cases vals with
  | nil=>rw[show zng (j::pl) []=.leaf from rfl,Tr.get_leaf]at h;cases h
  | cons u vals=>
   have h:((zng pl vals).set j u).get i=some v:=h
   rw[Tr.get_set]at h;split at h
   ·rename_i e;rw[e];exact yby
   ·exact ybr _ (ih h)
def z3i{i:Nat}{q:Nat × Nat}:∀ {ll:List (Nat × Nat)},xI i (stAd ll)=some q->i∈(List.rec (motive:=fun _=>List Nat) [] (fun a _ r=>a.1::r) ll:List Nat):=by
 intro ll;induction ll with
 | nil=>intro h;cases h
 | cons p ll ih=>
  intro h;have h:xI i ((p.1,p.1,0)::stAd ll)=some q:=h
  rw[uT]at h;split at h
  ·rename_i e;rw[e];exact yby
  ·exact ybr _ (ih h)
def dE.keep{p:PI}{vals:List zA}(hb:∀i,i∈p.kept->i<kf)(h:dE C.base X0 kf ν X (zvr kf p vals) tm HA t):dE C.base X0 kf ν X (zvr kf p vals) (Am.keep p.kept tm) HA t:=by
 have key:∀i v,i∈p.kept->tm.get i=some v->(Am.keep p.kept tm).get i=some v:=by
  intro i v hi hv;unfold Am.keep Tm.get;rw[nH,yab (vC.2 (by rw[h.kA];exact hb i hi))]
  exact zzu hv hi
 refine⟨h.ov,h.le,rfl,h.kA,?_,?_,h.lo,h.inj⟩
 ·intro i v hi
  refine key i v ?_ (h.tms i v hi)
  unfold PI.kept;rw[iG];exact ydc _ (z3g (Tm.get_kv hi).2)
 ·intro i q hi
  refine key i _ ?_ (h.ads i q hi)
  unfold PI.kept;rw[iG];exact ycf _ (z3i hi)
def zo5{l:List PtD}(hJ:JOk C.base kf J l){p:PI}{m:Tm->xA->uB}(hm:(⟨p,m⟩:PtD)∈l):SK C W J X0 kf Q (zue p) m:=by
 intro st tm HA t X ν hst h;unfold zue at h;rw[zE]at h;obtain⟨vals,h1,h2⟩:=h
 exact hJ _ hm vals t Q h2 _ _ _ _ _ (hst.at h1)
def z7e:SKt C W J X0 kf Q rdT rdK:=⟨fun _ tm HA t X _ hst h=>⟨_,t,HA,X,rfl,hst.ov,hst.le,h⟩,fun _ _ _ _ _ _ _ _ h=>h.elim,fun _ tm HA t X _ hst h=>⟨_,t,HA,X,rfl,hst.ov,hst.le,h⟩⟩
def z6n(C:oA)(A:Tr qD)(W:vH):Prop:=∀l args t Q,(∀X HA,Ov C.base t X HA->wC C.base X Q (zp1 C A (yo+l) args HA))->W (yo+l) args t Q
def onX (X:Xt)(b:Nat)(y:rA):Xt:=fun c=>if c=b then some y else X c
def zld{X:Xt}{b:Nat}{y:rA}(h:X b=none):XLe X (onX X b y):=by
 intro c z hc;unfold onX;rw[yaa (fun e=>by rw[e,h]at hc;cases hc)]
 exact hc
def Ov.under{base:Nat}(h:Ov base t X HA){b:Nat}{y:rA}(hb:t.get b=some y)(z:rA):Ov base (t.del b) (onX X b z) (Am.setBlk HA b z):=by
 refine⟨h.base,fun c hc=>?_,fun c u hc=>?_,fun c u hc=>?_⟩
 ·show(HA.t.set b z).get c=_
  unfold onX at hc;split at hc
  ·cases hc
  ·rename_i e;rw[Tr.get_set,yaa e,Tr.get_del,yaa e];exact h.same c hc
 ·show(HA.t.set b z).get c=_/\_
  unfold onX at hc;split at hc
  ·rename_i e;cases hc;subst e;exact⟨by rw[Tr.get_set,yab rfl],by rw[Tr.get_del,yab rfl],h.lt _ _ hb⟩
  ·rename_i e
   obtain⟨g1,g2,g3⟩:=h.ext c u hc
   exact⟨by rw[Tr.get_set,yaa e];exact g1,by rw[Tr.get_del,yaa e];exact g2,g3⟩
 ·rw[Tr.get_del]at hc
  split at hc
  ·cases hc
  ·exact h.lt _ _ hc
def Ov.back{base:Nat}(h:Ov base t X HA){b:Nat}{y:rA}(hb:X b=some y)(z:rA):Ov base (t.set b z) (fun c=>if c=b then none else X c) (Am.setBlk HA b z):=by
 obtain⟨g1,g2,g3⟩:=h.ext b y hb
 refine⟨h.base,fun c hc=>?_,fun c u hc=>?_,fun c u hc=>?_⟩
 ·show(HA.t.set b z).get c=_
  rw[Tr.get_set,Tr.get_set];split
  ·rfl
  ·rename_i e;rw[yaa e]at hc;exact h.same c hc
 ·show(HA.t.set b z).get c=_/\_
  split at hc
  ·cases hc
  ·rename_i e
   obtain⟨g1,g2,g3⟩:=h.ext c u hc
   exact⟨by rw[Tr.get_set,yaa e];exact g1,by rw[Tr.get_set,yaa e];exact g2,g3⟩
 ·rw[Tr.get_set]at hc
  split at hc
  ·rename_i e;rw[e];exact g3
  ·exact h.lt _ _ hc
def zd6{H:xA}{l:Nat}{r:gL}(hl:256<=l)(h:H.t.get l=some (.loop r)):jI H l=some r:=by
 unfold jI;rw[h,sA,Nat.ble_eq_true_of_le hl];rfl
def z3w{base kf n:Nat}{st:bF}{tm:Tm}{i:Nat}{pl ps:List Nat}{vals args:List zA}{X:Xt}{HA:xA}{t:Tr rA}(ho:Ov base t X HA)(hk:st.tm.k=kf)(hkA:tm.k=kf)
  (ht:∀i v,st.tm.get i=some v->tm.get i=some v) (hv:z69 pl st=some vals) (hok:kB (fun p=>Nat.blt p st.tm.k&&Nat.blt p n && !aE p pl) ps=true) (h1:ps.length<=1) (hl:args.length=ps.length) :
  ∃tm',aQ n ps args tm=some tm'/\dE base X kf (fun i=>i) X (zvr kf ⟨i,xD pl ps,[]⟩ (vals++args)) tm' HA t:=by
 have old:∀(pl:List Nat) (vals rest:List zA) j v,uG (fun i=>st.tm.get i) pl=some vals->(zng (pl++ps) (vals++rest)).get j=some v->(j∈pl/\tm.get j=some v)\/(zng ps rest).get j=some v:=by
  intro pl;induction pl with
  | nil=>intro vals rest j v h hj;cases h;exact Or.inr hj
  | cons a pl ih=>
   intro vals rest j v h hj;rw[mL,uA]at h;obtain⟨u,g1,h⟩:=h
   rw[uA]at h;obtain⟨us,g2,h⟩:=h
   cases h;have hj:((zng (pl++ps) (us++rest)).set a u).get j=some v:=hj
   rw[Tr.get_set]at hj;split at hj
   ·rename_i e;cases hj;rw[e];exact Or.inl ⟨yby,ht _ _ g1⟩
   ·rcases ih us rest j v g2 hj with⟨a1,a2⟩ | a1
    ·exact Or.inl ⟨ybr _ a1,a2⟩
    ·exact Or.inr a1
 cases ps with
 | nil=>
  cases args with
  | cons _ _=>cases hl
  | nil=>
   refine⟨tm,rfl,ho,XLe.refl _,rfl,hkA,fun j v hj=>?_,fun j p h=>(by cases h),fun d l h=>?_,fun d _ l _ h=>?_⟩
   ·have hj:=(Tm.get_kv hj).2
    have hj:(zng (xD pl []) (vals++[])).get j=some v:=hj
    rw[iG]at hj;rcases old pl vals [] j v hv hj with⟨_,h⟩ | h
    ·exact h
    ·rw[show zng [] []=.leaf from rfl,Tr.get_leaf]at h;cases h
   ·rw[show(zvr kf ⟨i,xD pl [],[]⟩ (vals++[])).lo=.leaf from rfl,Tr.get_leaf]at h;cases h
   ·rw[show(zvr kf ⟨i,xD pl [],[]⟩ (vals++[])).lo=.leaf from rfl,Tr.get_leaf]at h;cases h
 | cons p ps=>
  cases ps with
  | cons _ _=>simp at h1
  | nil=>
   cases args with
   | nil=>cases hl
   | cons a args=>
    cases args with
    | cons _ _=>simp at hl
    | nil=>
     have hp:(bif (Nat.blt p st.tm.k&&Nat.blt p n && !aE p pl)then kB (fun p=>Nat.blt p st.tm.k&&Nat.blt p n && !aE p pl) []else false)=true:=hok
     cases hx:(Nat.blt p st.tm.k&&Nat.blt p n && !aE p pl)with
     | false=>rw[hx]at hp;cases hp
     | true=>
      simp only[ybb,ycp]at hx;obtain⟨⟨x1,x2⟩,x3⟩:=hx
      have x1:=vC.1 x1
      have x2:=vC.1 x2
      refine⟨putA n tm (some p) a,rfl,ho,XLe.refl _,rfl,by rw[zrd];exact hkA,fun j v hj=>?_,fun j p h=>(by cases h),fun d l h=>?_,fun d _ l _ h=>?_⟩
      ·have hj:=(Tm.get_kv hj).2
       have hj:(zng (xD pl [p]) (vals++[a])).get j=some v:=hj
       rw[iG]at hj;rw[fH];rcases old pl vals [a] j v hv hj with⟨hm,h⟩ | h
       ·rw[yaa]
        ·exact h
        ·rintro⟨e,_⟩
         cases e
         rw[show aE p pl=true from(fO _ _).2 hm]at x3
         cases x3
       ·have h:((zng [] []).set p a).get j=some v:=h
        rw[Tr.get_set]at h;split at h
        ·rename_i e;rw[yab ⟨by rw[e],by rw[e];exact x2⟩];exact h
        ·rw[show zng [] []=.leaf from rfl,Tr.get_leaf]at h;cases h
      ·rw[show(zvr kf ⟨i,xD pl [p],[]⟩ (vals++[a])).lo=.leaf from rfl,Tr.get_leaf]at h;cases h
      ·rw[show(zvr kf ⟨i,xD pl [p],[]⟩ (vals++[a])).lo=.leaf from rfl,Tr.get_leaf]at h;cases h
def zx1(hW:fP C A W)(hY:z6n C A W){f:Nat}{κ:KtT}{m:Kt}(hκ:∀X0,SKt C W J X0 kf Q κ m){i:Nat}{pl:List Nat}{fo:Operand}{ps:Array Nat}{id:Nat}{ops:Array Oper}{c:qD}
  (hone:∃c0,A.get f=some c0/\qW c0=some ⟨i,pl,fo,ps,id,ops,c⟩) (hJ:∀vals t Q,J i vals t Q->z6q C.base kf ⟨⟨i,xD pl ps.toList,[]⟩,z6b C (tD C A) f n ⟨i,pl,fo,ps,id,ops,c⟩⟩ vals t Q) :
  SK C W J X0 kf Q (zx2 C n κ i pl fo ps.toList ops.toList c) (cL C (tD C A) f n m fo ps.toList (.region id ops false) (wF c)):=by
 intro st tm HA t X ν hst h;unfold zx2 at h;rw[iK,zE]at h;obtain⟨hok,vals,hv,h⟩:=h
 rw[zE]at h;obtain⟨fv,hf,h256,h⟩:=h
 unfold zx3 at hok;simp only[ybb]at hok;obtain⟨⟨⟨hok1,hok2⟩,hok3⟩,hok4⟩:=hok
 have hok2:ps.toList.length<=1:=by have:=Nat.le_of_ble_eq_true hok2;rw[bC]at this;exact this
 have hok4:aM c=[]:=by
  cases hx:aM c with
  | nil=>rfl
  | cons _ _=>rw[hx]at hok4;cases hok4
 have ho:=hst.ov
 have hbase:=ho.base
 generalize hr:(⟨.ready,none,f,n,tm,ps.toList,.region id ops false,wF c,HA.next⟩:gL)=r at *
 have htn:t.get (HA.next+1)=none:=by
  cases hx:t.get (HA.next+1)with
  | none=>rfl
  | some y=>exact absurd (ho.lt _ _ hx) (by omega)
 have hyield:∀args t1 Q1,args.length=yB ps.toList->t1.get (HA.next+1)=some (.loop r)->J i (vals++args) (t1.del (HA.next+1)) (fun v t2=>t2.get (HA.next+1)=none->∃b,v=.bool b/\Q1 v (t2.set (HA.next+1) (.loop (zi8 b r))))->W (yo+(HA.next+1)) args t1 Q1:=by
  intro args t1 Q1 hla ht1 hj;refine hY _ _ _ _ fun X1 HA1 ho1=>?_
  rw[zmw,z8d];show wC C.base X1 Q1 (zdm C A (tD C A) (HA.next+1) args HA1)
  have hx1:=ho1.notX ht1
  have hov:=ho1.under ht1 (.loop (zp5 r))
  obtain⟨tm',hs1,hs2⟩:=z3w (n:=n) (i:=i) hov hst.k hst.kA hst.tms hv hok1 hok2 (by rw[hla,bC])
  obtain⟨v,t2,HA2,X2,e1,e2,e3,e4⟩:=hJ _ _ _ hj _ _ _ _ _ hs2
  have hb2:X2 (HA.next+1)=some (.loop (zp5 r)):=e3 _ _ (by unfold onX;rw[yab rfl])
  obtain⟨b,e4,e5⟩:=e4 (e2.ext _ _ hb2).2.1
  subst e4;obtain⟨c0,hc0,hc1⟩:=hone
  refine⟨.bool b,_,_,_,zV.2 ⟨r,tm',c0,⟨i,pl,fo,ps,id,ops,c⟩,(.bool b,HA2),zp5 r,b,zd6 (by omega) (by rw[ho1.up ht1]),?_,?_,hc1,?_,?_,zd6 (by omega) (e2.ext _ _ hb2).1,rfl,rfl⟩,e2.back hb2 _,?_,e5⟩
  ·rw[<- hr];exact hs1
  ·rw[<- hr];exact hc0
  ·rw[<- hr];exact⟨rfl,rfl,rfl,rfl,hok3,hok4⟩
  ·rw[<- hr]at e1 ⊢;exact e1
  ·intro c y hc
   have hne:c≠HA.next+1:=fun e=>by rw[e,hx1]at hc;cases hc
   show(if c=HA.next+1 then none else X2 c)=some y
   rw[yaa hne];exact e3 _ _ (zld hx1 _ _ hc)
 have h:=h (HA.next+1) r htn (by omega) (by rw[<- hr]) (by rw[<- hr]) hyield
 rw[hO]at h;obtain⟨⟨g,aq⟩,hra,hw⟩:=h
 unfold zag at hra;rw[uA]at hra;obtain⟨⟨qf,q1,q2⟩,hq,hra⟩:=hra
 cases qf with
 | yld l=>cases hra
 | func g'=>
  simp only[wB,ybb]at hra;obtain⟨⟨hg,hnp⟩,hra⟩:=hra
  cases hra;have hp:C.prims.get g=none:=by
   unfold npC at hnp
   cases hx:C.prims.get g with
   | none=>rfl
   | some u=>rw[hx]at hnp;cases hnp
  have hXd:X HA.next=none:=ho.nextX
  have ho1:Ov C.base t (onX X HA.next (.deferred (some []))) (newBlk HA (.deferred (some []))):=by
   refine⟨Nat.le_succ_of_le ho.base,fun b hb=>?_,fun b y hb=>?_,fun b y hb=>Nat.lt_succ_of_lt (ho.lt _ _ hb)⟩
   ·unfold onX at hb
    split at hb
    ·cases hb
    ·rename_i e
     show(HA.t.set HA.next _).get b=_
     rw[Tr.get_set,yaa e];exact ho.same b hb
   ·unfold onX at hb
    show(HA.t.set HA.next _).get b=_/\_/\b<HA.next+1
    split at hb
    ·rename_i e;cases hb;subst e;exact⟨by rw[Tr.get_set,yab rfl],ho.nextT,Nat.lt_succ_self _⟩
    ·rename_i e
     obtain⟨g1,g2,g3⟩:=ho.ext b y hb
     exact⟨by rw[Tr.get_set,yaa e];exact g1,g2,Nat.lt_succ_of_lt g3⟩
  have ho2:=ho1.newBlk (.loop r)
  obtain⟨v,t',HA2,X2,e1,e2,e3,e4⟩:=hW _ _ _ _ hw _ _ ho2
  rw[wX hg,hp]at e1;have e1:tD C A (.func g) (xD q1 (.func (.yld (HA.next+1)) [] []::q2)) (newBlk (newBlk HA (.deferred (some []))) (.loop r))=some (v,HA2):=e1
  have goal:∀r' (κ':KT) (m':Tm->xA->uB),t'.get (HA.next+1)=some (.loop r')->(!Nat.beq (LoopState.tag r'.state) 1)=true->(∀tm H,zS m r'.pending tm H=m' tm H)->(∀X0,SK C W J X0 kf Q κ' m')->qA C.base W J (κ' st) (t'.del (HA.next+1)) Q →
    wC C.base X0 Q (cL C (tD C A) f n m fo ps.toList (.region id ops false) (wF c) tm HA):=by
   intro r' κ' m' k1 k2 k3 k4 k5;have ho3:=e2.under k1 (.loop ⟨.exhausted,r'.pending,r'.fn,r'.n,r'.tm,r'.params,r'.assign,r'.body,r'.defers⟩)
   have hx2:=e2.notX k1
   have hXX:XLe X (onX X2 (HA.next+1) (.loop ⟨.exhausted,r'.pending,r'.fn,r'.n,r'.tm,r'.params,r'.assign,r'.body,r'.defers⟩)):=((zld hXd).trans e3).trans (zld hx2)
   have hd3:(onX X2 (HA.next+1) (.loop ⟨.exhausted,r'.pending,r'.fn,r'.n,r'.tm,r'.params,r'.assign,r'.body,r'.defers⟩)) HA.next=some (.deferred (some [])):=by
    refine(zld hx2) _ _ (e3 _ _ ?_)
    unfold onX;rw[yab rfl]
   have hX0d:X0 HA.next=none:=by
    cases hx:X0 HA.next with
    | none=>rfl
    | some y=>have:=hst.le _ _ hx;rw[hXd]at this;cases this
   have hl:=hst.later ho3 hXX
   have hl':dE C.base (onX X0 HA.next (.deferred (some []))) kf ν (onX X2 (HA.next+1) (.loop ⟨.exhausted,r'.pending,r'.fn,r'.n,r'.tm,r'.params,r'.assign,r'.body,r'.defers⟩)) st tm (endLoop HA2 (HA.next+1) r') (t'.del (HA.next+1)):=by
    refine⟨hl.ov,?_,hl.k,hl.kA,hl.tms,hl.ads,fun d l hd=>?_,hl.inj⟩
    ·intro b y hb
     unfold onX at hb;split at hb
     ·rename_i e;cases hb;rw[e];exact hd3
     ·exact hl.le _ _ hb
    ·obtain⟨g1,g2,g3⟩:=hl.lo d l hd
     refine⟨?_,g2,g3⟩
     obtain⟨c',g4,_⟩:=(hst.lo d l hd).2.2
     unfold onX;rw[yaa (fun e=>by rw[e,hXd]at g4;cases g4)]
     exact g1
   obtain⟨w,t4,HA4,X4,f1,f2,f3,f4⟩:=k4 _ _ _ _ _ _ _ hl' k5
   have hd4:X4 HA.next=some (.deferred (some [])):=f3 _ _ (by unfold onX;rw[yab rfl])
   refine⟨w,t4,_,_,?_,f2.setX hd4 (.deferred none),?_,f4⟩
   ·unfold cL
    rw[dC (ziw hst).1 hf,sA,hq,sA]
    show(cA (qH (C.prims.get g)) _)=_
    rw[hp];show(ob (tD C A (.func g) _ (newBlk (newBlk HA (.deferred (some []))) (.loop ⟨.ready,none,f,n,tm,ps.toList,.region id ops false,wF c,HA.next⟩))) _)=_
    rw[hr,e1,sA,zd6 (by omega) (e2.up k1),sA,k2]
    show(ob (zS m r'.pending tm _) _)=_
    rw[k3];show(ob (m' tm (endLoop HA2 (HA.next+1) r')) _)=_
    rw[f1,sA];have:oQ HA4 HA.next=some (some []):=by
     unfold oQ;rw[(f2.ext _ _ hd4).1,sA,Nat.ble_eq_true_of_le (by omega:256<=HA.next)]
     rfl
    simp only[this,sA];rfl
   ·intro b y hb
    have hne:b≠HA.next:=fun e=>by rw[e,hX0d]at hb;cases hb
    show(if b=HA.next then _ else X4 b)=some y
    rw[yaa hne];exact f3 _ _ (zld hX0d _ _ hb)
  rcases e4 with⟨k1,k2⟩ | ⟨k1,k2⟩
  ·exact goal r κ.norm m.norm k1 (by rw[<- hr];rfl) (fun _ _=>by rw[<- hr];rfl) (fun X0=>(hκ X0).norm) k2
  ·exact goal _ κ.ret m.ret k1 (by rw[<- hr];rfl) (fun _ _=>by rw[<- hr];rfl) (fun X0=>(hκ X0).ret) k2
def ROk (A:Tr qD)(f:Nat)(c:qD):Prop:=∀q∈aM c,∃c0,A.get f=some c0/\qW c0=some q
def ROk.l{a b:List zqd}{P:zqd->Prop}(h:∀q∈xD a b,P q):(∀q∈a,P q)/\∀q∈b,P q:=by
 rw[iG]at h;exact⟨fun q hq=>h q (ydc _ hq),fun q hq=>h q (ycf _ hq)⟩
def zc9(hW:fP C A W)(hY:z6n C A W){la:List Nat}{f:Nat}:∀(c:qD) (κ:KtT) (m:Kt),ROk A f c->(∀X0,SKt C W J X0 kf Q κ m)->JOk C.base kf J (sK C (tD C A) f n c m)->∀X0,SK C W J X0 kf Q (znz C la f n c κ) (rD C (tD C A) f n c m):=by
 intro c;induction c with
 | skip=>intro κ m _ hκ _ X0;exact(hκ X0).norm
 | region id ops d=>intro κ m _ hκ _ X0;exact ztk hW (hκ X0).norm
 | seq a b iha ihb=>
  intro κ m hR hκ hJ;exact iha ⟨znz C la f n b κ,κ.exit,κ.ret⟩ ⟨rD C (tD C A) f n b m,m.exit,m.ret⟩ (ROk.l hR).1 (fun X0=>⟨ihb κ m (ROk.l hR).2 hκ (fun d hd=>hJ d (ycf _ hd)) X0,(hκ X0).exit,(hκ X0).ret⟩) fun d hd=>hJ d (ydc _ hd)
 | cond x a b iha ihb=>
  intro κ m hR hκ hJ X0 st tm HA t X ν hst h;have ha:=iha κ m (ROk.l hR).1 hκ (fun d hd=>hJ d (ydc _ hd)) X0
  have hb:=ihb κ m (ROk.l hR).2 hκ (fun d hd=>hJ d (ycf _ hd)) X0
  have h:qA C.base W J (aB (ob (ev x (.now st.tm)) zA.asBool) fun b'=>bif z7m x st.lit then Bool.rec (motive:=fun _=>T) (znz C la f n b κ st) (znz C la f n a κ st) b' else .ite b' (znz C la f n a κ st) (znz C la f n b κ st)) t Q:=h
  rw[zE]at h;obtain⟨w,h1,h2⟩:=h
  rw[uA]at h1;obtain⟨v,h3,h4⟩:=h1
  show wC C.base X0 Q (ob (ob (ev x (.now tm)) zA.asBool) fun t=>Bool.rec (motive:=fun _=>uB) (rD C (tD C A) f n b m tm HA) (rD C (tD C A) f n a m tm HA) t)
  refine wC.ob (a:=w) (by rw[dC (ziw hst).1 h3];exact h4) ?_
  have h2:if w=true then qA C.base W J (znz C la f n a κ st) t Q else qA C.base W J (znz C la f n b κ st) t Q:=by
   rw[zC]at h2;split at h2
   ·cases w<;>exact h2
   ·exact h2
  cases w with
  | true=>exact ha _ _ _ _ _ _ hst h2
  | false=>exact hb _ _ _ _ _ _ hst h2
 | block id c ih=>
  intro κ m hR hκ hJ;refine ih ⟨κ.norm,fun i st=>Bool.rec (motive:=fun _=>T) (κ.exit i st) (κ.norm st) (Nat.beq id i),κ.ret⟩ ⟨m.norm,fun i tm H=>Bool.rec (motive:=fun _=>uB) (m.exit i tm H) (m.norm tm H) (Nat.beq id i),m.ret⟩ hR (fun X0=>⟨(hκ X0).norm,fun i=>?_,(hκ X0).ret⟩) hJ
  intro st tm HA t X ν hst h;have h:qA C.base W J (Bool.rec (motive:=fun _=>T) (κ.exit i st) (κ.norm st) (Nat.beq id i)) t Q:=h
  show wC C.base X0 Q (Bool.rec (motive:=fun _=>uB) (m.exit i tm HA) (m.norm tm HA) (Nat.beq id i))
  cases hb:Nat.beq id i with
  | true=>rw[hb]at h;exact(hκ X0).norm _ _ _ _ _ _ hst h
  | false=>rw[hb]at h;exact(hκ X0).exit i _ _ _ _ _ _ hst h
 | loop p c ih=>intro κ m _ hκ hJ X0;exact zo5 hJ yby
 | exit id=>intro κ m _ hκ _ X0;exact(hκ X0).exit id
 | ret=>intro κ m _ hκ _ X0;exact(hκ X0).ret
 | cut p c ih=>intro κ m _ hκ hJ X0;exact zo5 hJ yby
 | range i pl fo ps id ops c ih=>intro κ m hR hκ hJ X0;exact zx1 hW hY hκ (hR _ yby) fun vals t Q h=>hJ _ yby vals t Q h
def PtOk (C:oA)(W J:vH)(kf:Nat)(l:List PtT)(d:PtD):Prop:=∃q∈l,q.p=d.p/\∀vals t Q,qA C.base W J (q.tree vals) t Q->z6q C.base kf d vals t Q
def keptOk(kf:Nat):qD->Bool
 | .seq a b=>keptOk kf a&&keptOk kf b
 | .cond _ a b=>keptOk kf a&&keptOk kf b
 | .block _ c=>keptOk kf c
 | .loop p c=>p.kept.all (fun i=>Nat.blt i kf)&&keptOk kf c
 | .cut p c=>p.kept.all (fun i=>Nat.blt i kf)&&keptOk kf c
 | .range _ _ _ _ _ _ c=>keptOk kf c
 | _=>true
def zyb(hW:fP C A W)(hY:z6n C A W){la:List Nat}{f:Nat}:∀(c:qD) (κ:KtT) (m:Kt),ROk A f c->keptOk kf c=true->(∀X0 Q,SKt C W J X0 kf Q κ m)->JOk C.base kf J (sK C (tD C A) f n c m)->∀d∈sK C (tD C A) f n c m,PtOk C W J kf (pS C la f n kf c κ) d:=by
 have up:∀ {l l':List PtT} {d:PtD},PtOk C W J kf l d->(∀q∈l,q∈l')->PtOk C W J kf l' d:=fun⟨q,h1,h2⟩ hl=>⟨q,hl q h1,h2⟩
 intro c;induction c with
 | skip=>intro κ m _ _ _ _ d hd;cases hd
 | region id ops dr=>intro κ m _ _ _ _ d hd;cases hd
 | seq a b iha ihb=>
  intro κ m hR hk hκ hJ d hd;unfold keptOk at hk;rw[ybb]at hk;have e:pS C la f n kf (.seq a b) κ=pS C la f n kf a ⟨znz C la f n b κ,κ.exit,κ.ret⟩++pS C la f n kf b κ:=iG _ _
  rw[e];have hJa:JOk C.base kf J (sK C (tD C A) f n a ⟨rD C (tD C A) f n b m,m.exit,m.ret⟩):=fun d hd=>hJ d (ydc _ hd)
  have hJb:JOk C.base kf J (sK C (tD C A) f n b m):=fun d hd=>hJ d (ycf _ hd)
  rcases yaf.1 hd with hd | hd
  ·exact up (iha ⟨znz C la f n b κ,κ.exit,κ.ret⟩ ⟨rD C (tD C A) f n b m,m.exit,m.ret⟩ (ROk.l hR).1 hk.1 (fun X0 Q=>⟨zc9 hW hY b κ m (ROk.l hR).2 (fun X0=>hκ X0 Q) hJb X0,(hκ X0 Q).exit,(hκ X0 Q).ret⟩) hJa d hd) fun q hq=>ydc _ hq
  ·exact up (ihb _ _ (ROk.l hR).2 hk.2 hκ hJb d hd) fun q hq=>ycf _ hq
 | cond x a b iha ihb=>
  intro κ m hR hk hκ hJ d hd;unfold keptOk at hk;rw[ybb]at hk;have e:pS C la f n kf (.cond x a b) κ=pS C la f n kf a κ++pS C la f n kf b κ:=iG _ _
  rw[e];rcases yaf.1 hd with hd | hd
  ·exact up (iha _ _ (ROk.l hR).1 hk.1 hκ (fun d hd=>hJ d (ydc _ hd)) d hd) fun q hq=>ydc _ hq
  ·exact up (ihb _ _ (ROk.l hR).2 hk.2 hκ (fun d hd=>hJ d (ycf _ hd)) d hd) fun q hq=>ycf _ hq
 | block id c ih=>
  intro κ m hR hk hκ hJ d hd;refine ih ⟨κ.norm,fun i st=>Bool.rec (motive:=fun _=>T) (κ.exit i st) (κ.norm st) (Nat.beq id i),κ.ret⟩ ⟨m.norm,fun i tm H=>Bool.rec (motive:=fun _=>uB) (m.exit i tm H) (m.norm tm H) (Nat.beq id i),m.ret⟩ hR hk (fun X0 Q=>⟨(hκ X0 Q).norm,fun i=>?_,(hκ X0 Q).ret⟩) hJ d hd
  intro st tm HA t X ν hst h;have h:qA C.base W J (Bool.rec (motive:=fun _=>T) (κ.exit i st) (κ.norm st) (Nat.beq id i)) t Q:=h
  show wC C.base X0 Q (Bool.rec (motive:=fun _=>uB) (m.exit i tm HA) (m.norm tm HA) (Nat.beq id i))
  cases hb:Nat.beq id i with
  | true=>rw[hb]at h;exact(hκ X0 Q).norm _ _ _ _ _ _ hst h
  | false=>rw[hb]at h;exact(hκ X0 Q).exit i _ _ _ _ _ _ hst h
 | loop p c ih=>
  intro κ m hR hk hκ hJ d hd;unfold keptOk at hk;rw[ybb,ycb]at hk;have hJc:JOk C.base kf J (sK C (tD C A) f n c ⟨rD C (tD C A) f n (.loop p c) m,m.exit,m.ret⟩):=fun d hd=>hJ d (ybr _ hd)
  have hκ':∀X0 Q,SKt C W J X0 kf Q ⟨zue p,κ.exit,κ.ret⟩ ⟨rD C (tD C A) f n (.loop p c) m,m.exit,m.ret⟩:=fun X0 Q=>⟨zo5 hJ yby,(hκ X0 Q).exit,(hκ X0 Q).ret⟩
  rcases ybs.1 hd with rfl | hd
  ·refine⟨_,yby,rfl,fun vals t Q hw X0 X HA tm ν hst=>?_⟩
   show wC C.base X0 Q (rD C (tD C A) f n (.loop p c) m tm HA)
   rw[z50];exact zc9 hW hY c _ _ hR (fun X0=>hκ' X0 Q) hJc X0 _ _ _ _ _ _ (hst.keep fun i hi=>vC.1 (hk.1 i hi)) hw
  ·exact up (ih ⟨zue p,κ.exit,κ.ret⟩ ⟨rD C (tD C A) f n (.loop p c) m,m.exit,m.ret⟩ hR hk.2 hκ' hJc d hd) fun q hq=>ybr _ hq
 | exit id=>intro κ m _ _ _ _ d hd;cases hd
 | ret=>intro κ m _ _ _ _ d hd;cases hd
 | cut p c ih=>
  intro κ m hR hk hκ hJ d hd;unfold keptOk at hk;rw[ybb,ycb]at hk;have hJc:JOk C.base kf J (sK C (tD C A) f n c m):=fun d hd=>hJ d (ybr _ hd)
  rcases ybs.1 hd with rfl | hd
  ·refine⟨_,yby,rfl,fun vals t Q hw X0 X HA tm ν hst=>?_⟩
   exact zc9 hW hY c _ _ hR (fun X0=>hκ X0 Q) hJc X0 _ _ _ _ _ _ (hst.keep fun i hi=>vC.1 (hk.1 i hi)) hw
  ·exact up (ih _ _ hR hk.2 hκ hJc d hd) fun q hq=>ybr _ hq
 | range i pl fo ps id ops c ih=>
  intro κ m hR hk hκ hJ d hd;have hR':ROk A f c:=fun q hq=>hR q (ybr _ hq)
  have hJc:JOk C.base kf J (sK C (tD C A) f n c rdK):=fun d hd=>hJ d (ybr _ hd)
  rcases ybs.1 hd with rfl | hd
  ·refine⟨_,yby,rfl,fun vals t Q hw X0 X HA tm ν hst=>?_⟩
   exact zc9 hW hY (.seq (.region id ops false) c) rdT rdK (fun q hq=>hR' q hq) (fun _=>z7e) (fun d hd=>hJc d hd) X0 _ _ _ _ _ _ hst hw
  ·exact up (ih rdT rdK hR' hk (fun _ _=>z7e) hJc d hd) fun q hq=>ybr _ hq
end
end
section
def Tr.mapT{α β:Type}(f:α->β)(t:Tr α):Tr β:=Tr.rec (motive:=fun _=>Tr β) .leaf (fun _ v _ l r=>.node l (match v with | some a=>some (f a) | none=>none) r) t
def Tr.get_mapT{α β:Type}(f:α->β):∀(t:Tr α) (n:Nat),(t.mapT f).get n=(t.get n).map f:=by
 intro t;induction t with
 | leaf=>intro n;rfl
 | node l v r ihl ihr=>
  intro n;show(Tr.node (l.mapT f) (match v with | some a=>some (f a) | none=>none) (r.mapT f)).get n=_
  rw[Tr.get_node,Tr.get_node];split
  ·cases v<;>rfl
  ·split
   ·exact ihl _
   ·exact ihr _
def kL(F:Tr vB):Tr qD:=F.mapT vB.code
def fnB (f kf:Nat)(c:qD):Bool:=Nat.blt f yo&&(keptOk kf c&&(match aM c with | []=>true | [_]=>true | _=>false))
structure pB (C:oA) (F:Tr vB) (f:Nat) (fn:Func) (kf:Nat) (A:vB):Prop where
 isF:F.get f=some A
 isFn:C.fns.get f=some fn
 isK:C.ks.get f=some kf
 prim:qH (C.prims.get f)=true
 kept:fnB f kf A.code=true
 body:qH fn.body=false
def pB.lt{C:oA}{F:Tr vB}{f:Nat}{fn:Func}{kf:Nat}{A:vB}(h:pB C F f fn kf A):Nat.blt f yo=true:=by
 have:=h.kept;unfold fnB at this;rw[ybb]at this;exact this.1
def pB.keptOk{C:oA}{F:Tr vB}{f:Nat}{fn:Func}{kf:Nat}{A:vB}(h:pB C F f fn kf A):keptOk kf A.code=true:=by
 have:=h.kept;unfold fnB at this;simp only[ybb]at this;exact this.2.1
def pB.code{C:oA}{F:Tr vB}{f:Nat}{fn:Func}{kf:Nat}{A:vB}(h:pB C F f fn kf A):(kL F).get f=some A.code:=by unfold kL;rw[Tr.get_mapT,h.isF];rfl
def pB.one{C:oA}{F:Tr vB}{f:Nat}{fn:Func}{kf:Nat}{A:vB}(h:pB C F f fn kf A):ROk (kL F) f A.code:=by
 have:=h.kept
 unfold fnB at this;simp only[ybb]at this;intro q hq;refine⟨_,h.code,?_⟩
 unfold qW
 cases hx:aM A.code with
 | nil=>rw[hx]at hq;cases hq
 | cons a l=>
  cases l with
  | nil=>rw[hx,ydd]at hq;rw[hq]
  | cons _ _=>rw[hx]at this;cases this.2.2
def Wc (C:oA)(F:Tr vB):vH:=fun f args t Q=>∀X HA,Ov C.base t X HA->wC C.base X Q (zp1 C (kL F) f args HA)
def Wc.mono{C:oA}{F:Tr vB}{f:Nat}{args:List zA}{t:Tr rA}{Q Q':cB}(h:Wc C F f args t Q)(k:∀v t',Q v t'->Q' v t'):Wc C F f args t Q':=fun X HA ho=>(h X HA ho).mono k
def Tr.bound{α:Type}(t:Tr α):∃n,∀b y,t.get b=some y->b<n:=by
 induction t with
 | leaf=>exact⟨0,fun b y h=>by rw[Tr.get_leaf]at h;cases h⟩
 | node l v r ihl ihr=>
  obtain⟨n,hn⟩:=ihl
  obtain⟨m,hm⟩:=ihr
  refine⟨2*n+2*m+3,fun b y h=>?_⟩
  rw[Tr.get_node]at h;split at h
  ·omega
  ·split at h
   ·have:=hn _ _ h;omega
   ·have:=hm _ _ h;omega
def PV (C:oA)(F:Tr vB)(f:Nat)(args:List zA)(t:Tr rA)(v:zA):Prop:=Wc C F f args t fun v' t'=>v'=v/\t'=t
def PV.unique{C:oA}{F:Tr vB}{f:Nat}{args:List zA}{t:Tr rA}{v v':zA}(h:PV C F f args t v)(h':PV C F f args t v'):v=v':=by
 obtain⟨n,hn⟩:=Tr.bound t
 have ho:Ov C.base t (fun _=>none) ⟨C.base+n,t⟩:=⟨Nat.le_add_right _ _,fun _ _=>rfl,fun _ _ h=>(by cases h),fun b y hb=>Nat.lt_of_lt_of_le (hn b y hb) (Nat.le_add_left _ _)⟩
 obtain⟨u,t',HA',X',h1,_,_,h2,_⟩:=h _ _ ho
 obtain⟨u',t'',HA'',X'',h3,_,_,h4,_⟩:=h' _ _ ho
 rw[h1]at h3
 cases h3;rw[<- h2,<- h4]
def uC (C:oA)(F:Tr vB)(f:Nat)(args:List zA)(t:Tr rA):Option zA:=@dite _ (∃v,PV C F f args t v) (Classical.propDecidable _) (fun h=>some h.choose) (fun _=>none)
def mD{C:oA}{F:Tr vB}{f:Nat}{args:List zA}{t:Tr rA}{v:zA}:uC C F f args t=some v ↔ PV C F f args t v:=by
 unfold uC;constructor
 ·intro h
  by_cases hx:∃v,PV C F f args t v
  ·rw[dif_pos hx]at h;cases h;exact hx.choose_spec
  ·rw[dif_neg hx]at h;cases h
 ·intro h
  have hx:∃v,PV C F f args t v:=⟨v,h⟩
  rw[dif_pos hx,PV.unique hx.choose_spec h]
def Wq (C:oA)(F:Tr vB)(pure:Nat->Bool):vH:=fun f args t R=>if (pure f&&Nat.blt f yo)=true then dD (uC C F f args t) fun v=>R v t else Wc C F f args t R
def Wq_ok{C:oA}{F:Tr vB}{pure:Nat->Bool}:fP C (kL F) (Wq C F pure):=by
 intro f args t R h X HA ho;unfold Wq at h;split at h
 ·rw[hO]at h
  obtain⟨v,h1,h2⟩:=h
  exact((mD.1 h1) X HA ho).mono fun v' t' hh=>by rw[hh.1,hh.2];exact h2
 ·exact h X HA ho
def z8l{C:oA}{F:Tr vB}{pure:Nat->Bool}:z6n C (kL F) (Wq C F pure):=by
 intro l args t Q h;unfold Wq;have:Nat.blt (yo+l) yo=false:=Bool.eq_false_iff.2 fun e=>by have:=vC.1 e;omega
 rw[this,yay,yaa (by simp)]
 exact h
def Jq (C:oA)(F:Tr vB)(f:Nat):vH:=fun i vals t Q=>∀fn kf A,pB C F f fn kf A->∀d∈sK C (tD C (kL F)) f fn.ntmps A.code (z2o C fn),d.p.id=i->z6q C.base kf d vals t Q
def Jq_ok{C:oA}{F:Tr vB}{f:Nat}{fn:Func}{kf:Nat}{A:vB}(h:pB C F f fn kf A):JOk C.base kf (Jq C F f) (sK C (tD C (kL F)) f fn.ntmps A.code (z2o C fn)):=
 fun d hd _ _ _ hJ=>hJ fn kf A h d hd rfl
section
variable {W J:vH}{t:Tr rA}{X X0:Xt}{HA:xA}{C:oA}{A:Tr qD}{ν:Nat->Nat}{Q:cB}{kf n:Nat}{st:bF}{tm:Tm}
def z9i(hst:dE C.base X0 kf ν X st tm HA t):∀(l:List ResultVar) (K:List zA->T),qA C.base W J (resT C st l K) t Q->∃vs,yR C HA tm l=some vs/\qA C.base W J (K vs) t Q:=by
 intro l;induction l with
 | nil=>intro K h;exact⟨[],rfl,h⟩
 | cons r l ih=>
  intro K h
  cases r with
  | tmp i=>
   have h:qA C.base W J (aB (st.tm.get i) fun v=>resT C st l fun l=>K (v::l)) t Q:=h
   rw[zE]at h;obtain⟨v,h1,h2⟩:=h
   obtain⟨vs,h3,h4⟩:=ih _ h2
   refine⟨v::vs,?_,h4⟩
   show uG (rS C HA tm) _=_
   rw[mL];show ob (tm.get i) _=_
   rw[hst.tms _ _ h1,sA];have h3:uG (rS C HA tm) l=some vs:=h3
   rw[h3];rfl
  | cell a ty=>
   have h:qA C.base W J (match xI a st.ad with
    | some p=>aB (st.lo.get p.1) fun m=>aB (C.tys.get ty) fun y=>gdT (Nat.ble (p.2+y.size) (yB m)) (aB (oL C ty m p.2) fun v=>resT C st l fun l=>K (v::l))
    | none=>aB (st.tm.get a) fun a=>.light (fun m=>mA C ty ⟨0,m⟩ a) fun v=>resT C st l fun l=>K (v::l)) t Q:=h
   have aC:∀ {u v:zA},tm.get a=some u->mA C ty HA u=some v->qA C.base W J (resT C st l fun l=>K (v::l)) t Q->∃vs,yR C HA tm (.cell a ty::l)=some vs/\qA C.base W J (K vs) t Q:=by
    intro u v h1 h2 h3;obtain⟨vs,h4,h5⟩:=ih _ h3
    refine⟨v::vs,?_,h5⟩
    show uG (rS C HA tm) _=_
    rw[mL];have e:rS C HA tm (.cell a ty)=some v:=by
     show(ob (ob (tm.get a) zA.asPtr) fun p=>ob (C.tys.get ty) fun ty=>ob (vE HA p.1) fun c=>wN ty c.1 p.2)=some v
     unfold mA at h2;rw[h1,sA];exact h2
    have h4:uG (rS C HA tm) l=some vs:=h4
    rw[e,sA,h4];rfl
   split at h
   ·rename_i p hp
    simp only[zE,iK]at h;obtain⟨m,h1,y,h2,h3,v,h4,h5⟩:=h
    exact aC (hst.ads _ _ hp) (zrr hst.ov hst.lo h1 h2 h3 h4) h5
   ·simp only[zE,gU]at h
    obtain⟨u,h1,v,h2,h3⟩:=h
    exact aC (hst.tms _ _ h1) (zf3 hst.ov.le h2) h3
def z00{fn:Func}:SK C W J X0 kf Q (endT C fn) (endK C fn):=by
 intro st tm HA t X ν hst h;obtain⟨vs,h1,h2⟩:=z9i hst _ _ h
 unfold endK;exact wC.ob h1 ⟨_,t,HA,X,rfl,hst.ov,hst.le,h2⟩
def zwo{fn:Func}:SKt C W J X0 kf Q (topT C fn) (z2o C fn):=⟨z00,fun _ _ _ _ _ _ _ _ h=>h.elim,z00⟩
end
section
variable {C:oA}{F:Tr vB}{f:Nat}{fn:Func}{kf:Nat}{A:vB}{pure:Nat->Bool}{t:Tr rA}{Q:cB}
def zzbu(h:pB C F f fn kf A){args:List zA}(hl:(Nat.ble (yB args) kf&&Nat.ble (yB args) fn.ntmps)=true)(hw:qA C.base (Wq C F pure) (Jq C F f) (entT C fn kf f A args) t Q):Wc C F f args t Q:=by
 intro X HA ho;have hA:=h.code
 obtain⟨body,hb⟩:∃b,fn.body=some b:=by
  cases hx:fn.body with
  | none=>have:=h.body;rw[hx]at this;cases this
  | some b=>exact⟨b,rfl⟩
 have he:cJ C f args false=some ⟨[.code body],⟨kf,Tr.ofList args,[]⟩,⟨f,fn.ntmps,[],.run,false,none⟩⟩:=by
  unfold cJ;rw[h.isFn,sA,hb,sA,h.isK,sA,hl];rfl
 have hp:C.prims.get f=none:=by
  cases hx:C.prims.get f with
  | none=>rfl
  | some g=>have:=h.prim;rw[hx]at this;cases this
 rw[wX h.lt,hp];show wC C.base X Q (tD C (kL F) (.func f) args HA)
 rw[z8d];show wC C.base X Q (zvv C (kL F) (tD C (kL F)) f args HA)
 unfold zvv;refine wC.ob hA (wC.ob h.isFn (wC.ob he ?_))
 have hst:dE C.base X kf (fun i=>i) X ⟨⟨kf,Tr.ofList args,[]⟩,[],.leaf,[]⟩ ⟨kf,Tr.ofList args,[]⟩ HA t:=
  ⟨ho,XLe.refl _,rfl,rfl,fun _ _ h=>h,fun _ _ h=>(by cases h),fun d l h=>(by rw[Tr.get_leaf]at h;cases h),fun d _ l _ h=>(by rw[Tr.get_leaf]at h;cases h)⟩
 exact zc9 Wq_ok z8l A.code (topT C fn) (z2o C fn) h.one (fun _=>zwo) (Jq_ok h) _ _ _ _ _ _ _ hst hw
def Jq_of(h:pB C F f fn kf A){i:Nat}{vals:List zA}{l:List T}(hp:zty (ptsT C fn kf f A) i vals=l)(hw:∀T∈l,qA C.base (Wq C F pure) (Jq C F f) T t Q):Jq C F f i vals t Q:=by
 intro fn' kf' A' h' d hd hi;have e1:=h.isFn;rw[h'.isFn]at e1;cases e1
 have e2:=h.isK;rw[h'.isK]at e2;cases e2
 have e3:=h.isF;rw[h'.isF]at e3;cases e3
 obtain⟨q,h1,h2,h3⟩:=zyb (W:=Wq C F pure) Wq_ok z8l A.code (topT C fn) (z2o C fn) h.one h.keptOk (fun _ _=>zwo) (Jq_ok h) d hd
 refine h3 vals t Q (hw _ ?_)
 subst hp;have key:∀(l:List PtT),q∈l->q.tree vals∈zty l i vals:=by
  intro l;induction l with
  | nil=>intro h;cases h
  | cons p l ih=>
   intro hm;show q.tree vals∈(bif Nat.beq p.p.id i then p.tree vals::zty l i vals else zty l i vals)
   rw[zC];rcases ybs.1 hm with e | hm
   ·subst e
    rw[yab (by rw[h2];exact fB.2 hi)]
    exact yby
   ·split
    ·exact ybr _ (ih hm)
    ·exact ih hm
 exact key _ h1
def Jq_of1(h:pB C F f fn kf A){i:Nat}{vals:List zA}{T:T}(hp:zty (ptsT C fn kf f A) i vals=[T])(hw:qA C.base (Wq C F pure) (Jq C F f) T t Q):Jq C F f i vals t Q:=
 Jq_of h hp fun T' hT=>by rw[ydd.1 hT];exact hw
def Jq.mono{i:Nat}{vals:List zA}{Q':cB}(h:Jq C F f i vals t Q)(k:∀v t',Q v t'->Q' v t'):Jq C F f i vals t Q':=
 fun fn kf A hf d hd hi X0 X HA tm ν hst=>(h fn kf A hf d hd hi X0 X HA tm ν hst).mono k
def zoj{g:List zA->xA->Option zA}(hg:C.prims.get f=some (xL g)){args:List zA}{v:zA}(h:∀H,g args H=some v)(hf:Nat.blt f yo=true:=by rfl):uC C F f args t=some v:=by
 refine mD.2 fun X HA ho=>?_
 rw[wX hf,hg];exact⟨v,t,HA,X,by simp only[xL,h HA,sA],ho,XLe.refl _,rfl,rfl⟩
def zN{args:List zA}{v:zA}(h:Wc C F f args t fun v' t'=>v'=v/\∀b y,t.get b=some y->t'.get b=some y):uC C F f args t=some v:=by
 refine mD.2 fun X HA ho=>?_
 obtain⟨u,t',HA',X',h1,h2,h3,h4,h5⟩:=h X HA ho
 refine⟨u,t,HA',fun b=>match t.get b with | some _=>none | none=>HA'.t.get b,h1,⟨h2.base,?_,?_,?_⟩,?_,h4,rfl⟩
 ·intro b hb
  cases hg:t.get b with
  | some y=>rw[h2.up (h5 b y hg)]
  | none=>simp only[hg]at hb;exact hb
 ·intro b y hb
  cases hg:t.get b with
  | some y=>simp only[hg]at hb;cases hb
  | none=>
   simp only[hg]at hb;refine⟨hb,rfl,?_⟩
   cases hx:X' b with
   | some z=>exact(h2.ext b z hx).2.2
   | none=>rw[h2.same b hx]at hb;exact h2.lt b y hb
 ·intro b y hb;exact h2.lt b y (h5 b y hb)
 ·intro b y hb
  have hn:=(ho.ext b y hb).2.1
  simp only[hn];exact(h2.ext b y (h3 b y hb)).1
end
def zp0{P:Program}{C:oA}{F:Tr vB}{B N:Nat}{I:World->Prop}{μ:Mu}{w:World}(hS:Sim P C B N I)(hI:I w)(hA:iU C (kL F)){f:Nat}(hp:C.prims.get f=none){args:List zA}{args':Array Value}{H:xA}{Q:cB}(hbase:C.base<=H.next)(hlt:∀b y,H.t.get b=some y->b<H.next)(hH:aA B N μ H w)(hl:zB μ args args'.toList)
  (h:Wc C F f args H.t Q) (hf:Nat.blt f yo=true:=by rfl):Calls P f args' w fun e w'=>∃v v' t' μ',e=.returned v'/\μ.lw μ'/\vA μ' v v'/\Q v t'/\Below N w w':=by
 obtain⟨v,t',HA',X',h1,h2,h3,h4⟩:=h (fun _=>none) H ⟨hbase,fun _ _=>rfl,fun _ _ h=>(by cases h),hlt⟩
 rw[wX hf,hp]at h1;intro base;obtain⟨e,w',b,⟨v',μ',g1,g2,g3,g4,g5⟩,g6⟩:=zmt hS hI hA hH hl h1 base
 exact⟨e,w',b,⟨v,v',t',μ',g1,g2,g3,h4,g5⟩,g6⟩
end
section
def piOf (i:Nat)(l:List (Nat × PI)):Option PI:=List.rec (motive:=fun _=>Option PI) none (fun a _ g=>bif Nat.beq i a.1 then some a.2 else g) l
def cutP (p:Option PI)(c:qD):qD:=
 match p with
 | some p=>.cut p c
 | none=>c
def z94(p:Option PI)(c:qD):qD:=
 match p with
 | some p=>.loop p c
 | none=>.loop ⟨0,[],[]⟩ c
def rangeP(p:Option PI)(f:Operand)(ps:Array Nat)(a:Code)(c:qD):qD:=
 match a with
 | .region id ops _=>.range (match p with | some p=>p.id | none=>0) (match p with | some p=>p.pl | none=>[]) f ps id ops c
 | _=>.skip
def zr6:Code->Bool
 | .region _ _ d => !d
 | _=>false
def dR(rt lt:List (Nat × PI))(c:Code):Nat->qD:=
 Code.rec (motive:=fun _=>Nat->qD)
  (fun _=>.skip)
  (fun id ops d _=>cutP (piOf id rt) (.region id ops d))
  (fun _ _ ga gb k=>.seq (ga k) (gb k))
  (fun c _ _ gx gy k=>.cond c (gx k) (gy k))
  (fun id _ g _=>.block id (g id))
  (fun _ g k=>z94 (piOf k lt) (g k))
  (fun f ps a _ _ gb k=>rangeP (piOf k lt) f ps a (gb k))
  (fun id _=>.exit id)
  (fun _ _ _=>.skip)
  (fun _ _=>.skip)
  (fun _ _=>.skip)
  (fun _=>.ret)
  (fun _ _=>.skip) c
def dB(rt lt:List (Nat × PI))(k:Nat)(c:Code):qD:=dR rt lt c k
def bL(c:Code):Bool:=
 Code.rec (motive:=fun _=>Bool) true (fun _ _ _=>true) (fun _ _ a b=>bif a then b else false) (fun _ _ _ a b=>bif a then b else false) (fun _ _ a=>a) (fun _ a=>a)
  (fun _ _ a _ _ b=>bif zr6 a then b else false) (fun _=>true) (fun _ _=>false) (fun _=>false) (fun _=>false) true (fun _=>false) c
def zux(p:Option PI)(c:qD):wF (cutP p c)=wF c:=by cases p<;>rfl
def zpi(p:Option PI)(c:qD):wF (z94 p c)=.loop (wF c):=by cases p<;>rfl
def zpj{rt lt:List (Nat × PI)}:∀(c:Code) (k:Nat),bL c=true->wF (dR rt lt c k)=c:=by
 intro c;induction c with
 | skip=>intro k _;rfl
 | region id ops d=>intro k _;show wF (cutP _ _)=_;rw[zux];rfl
 | seq a b iha ihb=>
  intro k h;have h:(bif bL a then bL b else false)=true:=h
  have ha:bL a=true:=by cases hx:bL a with | true=>rfl | false=>rw[hx]at h;cases h
  have hb:bL b=true:=by rw[ha]at h;exact h
  show Code.seq (wF (dR rt lt a k)) (wF (dR rt lt b k))=_
  rw[iha k ha,ihb k hb]
 | cond c x y ihx ihy=>
  intro k h;have h:(bif bL x then bL y else false)=true:=h
  have ha:bL x=true:=by cases hx:bL x with | true=>rfl | false=>rw[hx]at h;cases h
  have hb:bL y=true:=by rw[ha]at h;exact h
  show Code.cond c (wF (dR rt lt x k)) (wF (dR rt lt y k))=_
  rw[ihx k ha,ihy k hb]
 | block id c ih=>intro k h;show Code.block id (wF (dR rt lt c id))=_;rw[ih id h]
 | loop c ih=>intro k h;show wF (z94 _ (dR rt lt c k))=_;rw[zpi,ih k h]
 | exit id=>intro k _;rfl
 | ret=>intro k _;rfl
 | rangeFunc f ps a b _ ihb=>
  intro k h;have h:(bif zr6 a then bL b else false)=true:=h
  cases a with
  | region id ops d=>
   cases d with
   | true=>cases h
   | false=>show Code.rangeFunc f ps (.region id ops false) (wF (dR rt lt b k))=_;rw[ihb k h]
  | _=>cases h
 | scope c _=>intro k h;cases h
 | label l=>intro k h;cases h
 | goto l=>intro k h;cases h
 | refuse s=>intro k h;cases h
def tabF (l:List (Nat × vB)):Tr vB:=List.rec (motive:=fun _=>Tr vB) .leaf (fun p _ g=>g.set p.1 p.2) l
def z26{l:List (Nat × vB)}{f:Nat}{A:vB}(h:(tabF l).get f=some A):(f,A)∈l:=by
 induction l with
 | nil=>rw[show tabF []=.leaf from rfl,Tr.get_leaf]at h;cases h
 | cons p l ih=>
  have h:((tabF l).set p.1 p.2).get f=some A:=h
  rw[Tr.get_set]at h;split at h
  ·rename_i e;cases h;rw[e];exact yby
  ·exact ybr _ (ih h)
def z2k(C:oA)(p:Nat × vB):Prop:=∃fn c,C.fns.get p.1=some fn/\fn.body=some c/\wF p.2.code=c
def bodyOk{C:oA}{f:Nat}{fn:Func}{c:Code}{rt lt:List (Nat × PI)}{la:List Nat}(h1:C.fns.get f=some fn)(h2:fn.body=some c)(h3:bL c=true):z2k C (f,⟨dB rt lt 0 c,la⟩):=⟨fn,c,h1,h2,zpj c 0 h3⟩
def zu5{C:oA}{l:List (Nat × vB)}(h:∀p∈l,z2k C p):iU C (kL (tabF l)):=by
 intro f c hc;unfold kL at hc;rw[Tr.get_mapT]at hc
 cases hq:(tabF l).get f with
 | none=>rw[hq]at hc;cases hc
 | some A=>
  rw[hq]at hc
  cases hc;obtain⟨fn,b,h1,h2,h3⟩:=h _ (z26 hq)
  exact⟨fn,h1,by rw[h2,h3]⟩
end
end Go.Am
namespace Go.Am
class lC where
 n:Nat
def z4b(a:List zA)(_:xA):Option zA:=match a with | []=>some (.bool true) | _=>none
def zuf:List Nat->List Nat->Bool
 | [],_=>true
 | _::_,[]=>false
 | a::x,b::y=>bif Nat.beq a b then zuf x y else false
def cutL (sub:List Nat):List Nat->Option (List Nat × List Nat)
 | []=>bif sub.isEmpty then some ([],[])else none
 | b::l=>bif zuf sub (b::l)then some ([],xM (b::l) (yB sub))else ob (cutL sub l) fun p=>some (b::p.1,p.2)
def pCut (a:List zA)(_:xA):Option zA:=match a with
 | [.str s,.str c]=>cA (Nat.blt (yB s) 4294967281) (match cutL c s with
  | some p=>some (.tup [.str p.1,.str p.2,.bool true])
  | none=>some (.tup [.str s,.str [],.bool false]))
 | _=>none
def zz3(n:Int):List Nat:=(Lib.itoa n).map UInt8.toNat
def z4c(a:List zA)(_:xA):Option zA:=match a with
 | [.int .i64 n]=>cA (jC (-9223372036854775808) n&&bB n 9223372036854775808) (some (.str (zz3 n)))
 | _=>none
def zyh(a:List zA)(_:xA):Option zA:=match a with
 | [.int .u64 n,.int .i64 b]=>cA (jC 0 n&&bB n 18446744073709551616&&jA b 10) (some (.str (zz3 n)))
 | _=>none
end Go.Am
namespace Go.Am
open Go Go.Shelf Go.RowKit Go.Proofs
variable {P:Program}{ρ:Ren}
set_option maxHeartbeats 2000000 in
set_option maxRecDepth 100000 in
def zuy(L:Lays.n169 P ρ)(X:Builder.Extra P ρ)(b g cap cells:Nat)(l:List UInt8)(w:World)(c1:w.cell? ⟨b,1,none⟩=some (.slice (some ⟨g,0,none⟩) l.length cap))(h0:l≠[])(hcap:l.length<=cap)
  (hsh:w.shape? g=some (ρ.t 5,cells)) (hc:l.length<=cells) (h63:l.length<=9223372036854775807) (hcell:∀j x,l[j]?=some x->w.cell? ((⟨g,0,none⟩:Addr).add j)=some (.int .u8 x.toNat)) :
  Calls P (ρ.f 169) #[.pointer (some ⟨b,0,none⟩)] w fun e w'=>e=.returned (.string ⟨l.toArray⟩)/\w'=w.drew.freeze ⟨g,0,none⟩ l.length:=by
 have hl0:l.length≠0:=by simpa using h0
 have c1:w.drew.cell? ⟨b,1,none⟩=some (.slice (some ⟨g,0,none⟩) l.length cap):=c1
 have hSD:(Builtin.unsafeSliceData_ #[(ρ.t 37)] (ρ.t 127) #[.slice (some ⟨g,0,none⟩) l.length cap]).run P w.drew=.ok (.pointer (some ⟨g,0,none⟩)) w.drew:=
  Lib.run_unsafeSliceData_row _ _ _ _ _ _ (by omega)
 have hUS:(Builtin.unsafeString_ #[(ρ.t 127),(ρ.t 3)] (ρ.t 9) #[.pointer (some ⟨g,0,none⟩),.int .i64 l.length]).run P w.drew=.ok (.string ⟨l.toArray⟩) (w.drew.freeze ⟨g,0,none⟩ l.length):=
  Lib.run_unsafeString_row w.drew (ρ.t 127) (ρ.t 3) (ρ.t 9) (ρ.t 5) L.t127 X.cellsByte g cells hsh l h0 hc h63 hcell
 have mixed:=L.mixed
 have t72:=L.t72;have a72:=L.a72;have z72:=L.z72;have v72:=L.v72;have u72:=run_underlying L.t72
 have t70:=L.t70;have a70:=L.a70;have z70:=L.z70;have v70:=L.v70;have u70:=run_underlying L.t70
 have t37:=L.t37;have a37:=L.a37;have z37:=L.z37;have v37:=L.v37;have u37:=run_underlying L.t37
 have t127:=L.t127;have a127:=L.a127;have z127:=L.z127;have v127:=L.v127;have u127:=run_underlying L.t127
 have t3:=L.t3;have a3:=L.a3;have z3:=L.z3;have v3:=L.v3;have u3:=run_underlying L.t3
 have t9:=L.t9;have a9:=L.a9;have z9:=L.z9;have v9:=L.v9;have u9:=run_underlying L.t9
 have t5:=X.t5;have a5:=X.a5;have z5:=X.z5;have v5:=X.v5;have u5:=run_underlying X.t5
 go_enter L.f169,Body.n169_ntmps ρ
 go_wp2
 go_region_o
 all_goals (go_wp2;go_ret;exact⟨rfl,rfl⟩)
end Go.Am
