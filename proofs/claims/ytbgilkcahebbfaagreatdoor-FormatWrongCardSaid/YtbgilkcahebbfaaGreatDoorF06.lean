/- Trees: the operations that change memory leave an overlay as it is; the light operations are sound. -/
import Derived.Lib.ItoaNum
import Derived.Shelf.Strings.Builder1
import Derived.Test.YtbgilkcahebbfaaGreatDoorF05
set_option linter.all false
noncomputable section
namespace Go.Am
open Go Go.RowKit
section
section
variable {base:Nat}{t:Tr qA}{X:Xt}{H HA:xA}{e e':nC}{C:oA}{v:zA}
def Ov.newBlk(h:Ov base t X HA)(y:qA):Ov base (t.set HA.next y) X (newBlk HA y):=by
 refine⟨Nat.le_succ_of_le h.base,fun b hb=>?_,fun b z hb=>?_,fun b z hb=>?_⟩
 ·show(HA.t.set HA.next y).get b=_
  rw[Tr.get_set,Tr.get_set];split
  ·rfl
  ·exact h.same b hb
 ·obtain⟨h1,h2,h3⟩:=h.ext b z hb
  have hne:b≠HA.next:=Nat.ne_of_lt h3
  refine⟨?_,?_,Nat.lt_succ_of_lt h3⟩
  ·show(HA.t.set HA.next y).get b=_
   rw[Tr.get_set,yaa hne];exact h1
  ·rw[Tr.get_set,yaa hne];exact h2
 ·rw[Tr.get_set]at hb
  show b<HA.next+1
  split at hb
  ·rename_i e;rw[e];exact Nat.lt_succ_self _
  ·exact Nat.lt_succ_of_lt (h.lt _ _ hb)
def Ov.setBlk(h:Ov base t X HA){b:Nat}{y:qA}(hb:t.get b=some y)(z:qA):Ov base (t.set b z) X (setBlk HA b z):=by
 refine⟨h.base,fun c hc=>?_,fun c u hc=>?_,fun c u hc=>?_⟩
 ·show(HA.t.set b z).get c=_
  rw[Tr.get_set,Tr.get_set];split
  ·rfl
  ·exact h.same c hc
 ·obtain⟨h1,h2,h3⟩:=h.ext c u hc
  have hne:c≠b:=fun e=>by rw[e,hb]at h2;cases h2
  refine⟨?_,?_,h3⟩
  ·show(HA.t.set b z).get c=_
   rw[Tr.get_set,yaa hne];exact h1
  ·rw[Tr.get_set,yaa hne];exact h2
 ·rw[Tr.get_set]at hc
  show c<HA.next
  split at hc
  ·rename_i e;rw[e];exact h.lt _ _ hb
  ·exact h.lt _ _ hc
def Ov.delBlk(h:Ov base t X HA){b:Nat}{y:qA}(hb:t.get b=some y):Ov base (t.del b) X ⟨HA.next,HA.t.del b⟩:=by
 refine⟨h.base,fun c hc=>?_,fun c u hc=>?_,fun c u hc=>?_⟩
 ·show(HA.t.del b).get c=_
  rw[Tr.get_del,Tr.get_del];split
  ·rfl
  ·exact h.same c hc
 ·obtain⟨h1,h2,h3⟩:=h.ext c u hc
  have hne:c≠b:=fun e=>by rw[e,hb]at h2;cases h2
  refine⟨?_,?_,h3⟩
  ·show(HA.t.del b).get c=_
   rw[Tr.get_del,yaa hne];exact h1
  ·rw[Tr.get_del,yaa hne];exact h2
 ·rw[Tr.get_del]at hc
  show c<HA.next
  split at hc
  ·cases hc
  ·exact h.lt _ _ hc
def zs9 (base:Nat)(x:xA->Option (zA × xA)):Prop:=∀t X HA v H',Ov base t X HA->x ⟨HA.next,t⟩=some (v,H')->∃HA',x HA=some (v,HA')/\Ov base H'.t X HA'
def oQ(l:List zA)(lo:Option Lo)(h:Ov base t X HA):Ov base (bD ⟨HA.next,t⟩ l lo).t X (bD HA l lo):=h.newBlk _
def ztv{ty:Nat}:zs9 base (uM C ty):=by
 intro t X HA v H' ho h;unfold uM at h ⊢
 rw[uA]at h;obtain⟨y,h1,h2⟩:=h
 cases h2;rw[h1];exact⟨_,rfl,oQ _ _ ho⟩
def z42{u:zA}:zs9 base (zq0 u):=by
 intro t X HA v H' ho h
 cases h;exact⟨_,rfl,oQ _ _ ho⟩
def zq2{ty:Nat}:zs9 base (zcc C ty):=by
 intro t X HA v H' ho h;unfold zcc at h ⊢
 rw[uA]at h;obtain⟨y,h1,h3⟩:=h
 cases h3;rw[h1,vA];exact⟨_,rfl,oQ _ _ ho⟩
def zzw{ty:Nat}{u:zA}:zs9 base (zqz C ty u):=by
 intro t X HA v H' ho h;unfold zqz at h ⊢
 cases h;exact⟨_,rfl,oQ _ _ ho⟩
def zei{ty n:Nat}{ps:List (Nat × zA)}:zs9 base (dG C ty n ps):=by
 intro t X HA v H' ho h;unfold dG at h ⊢
 simp only[uA,zB]at h;obtain⟨a,h1,b,h2,c,h3,h4,l,h5,h6⟩:=h
 cases h6;refine⟨bD HA l none,?_,oQ _ _ ho⟩
 simp only[uA,zB];exact⟨a,h1,b,h2,c,h3,h4,l,h5,rfl⟩
def zck(ho:Ov base t X HA){b off:Nat}{l:List zA}{H':xA}(h:lH C ⟨HA.next,t⟩ b off l=some H'):∃HA',lH C HA b off l=some HA'/\Ov base H'.t X HA':=by
 unfold lH at h ⊢
 simp only[uA,zB]at h;obtain⟨h1,c,h2,h3,h4⟩:=h
 cases h4;have h2':=h2
 unfold fC at h2';rw[uA]at h2'
 obtain⟨y,h5,_⟩:=h2'
 refine⟨_,?_,ho.setBlk h5 _⟩
 simp only[uA,zB];exact⟨h1,c,cL ho.le h2,h3,rfl⟩
def ztr{ty:Nat}{a u:zA}:zs9 base (sC C ty a u):=by
 intro t X HA v H' ho h;unfold sC at h ⊢
 simp only[uA,zB]at h;obtain⟨y,h1,p,h2,h3,H1,h4,h5⟩:=h
 cases h5;obtain⟨HA',h6,h7⟩:=zck ho h4
 refine⟨HA',?_,h7⟩
 simp only[uA,zB];exact⟨y,h1,p,h2,h3,HA',h6,rfl⟩
def zlm:zs9 base zbi:=by
 intro t X HA v H' ho h
 cases h;exact⟨_,rfl,ho.newBlk _⟩
def ze3{ty:Nat}{m k u:zA}:zs9 base (wM C ty m k u):=by
 intro t X HA v H' ho h;unfold wM at h ⊢
 simp only[uA,zB]at h;obtain⟨a,h1,b,h2,c,h3,h4,d,h5,h6,l,h7,h8,l',h9,h10⟩:=h
 cases h10;have h7':=h7
 unfold bH at h7';rw[uA]at h7'
 obtain⟨y,h11,_⟩:=h7'
 refine⟨_,?_,ho.setBlk h11 _⟩
 simp only[uA,zB];exact⟨a,h1,b,h2,c,h3,h4,d,h5,h6,l,mT ho.le h7,h8,l',h9,rfl⟩
def zy3(ho:Ov base t X HA){e:RE}{H':xA}(h:fP C ⟨HA.next,t⟩ e=some H'):∃HA',fP C HA e=some HA'/\Ov base H'.t X HA'/\HA'.next=HA.next/\H'.next=HA.next:=by
 obtain⟨x,y,h1,h2,rfl⟩:=lW.1 h
 exact⟨setBlk HA e.blk y,lW.2 ⟨x,y,ho.up h1,h2,rfl⟩,ho.setBlk h1 _,rfl,rfl⟩
def zkx:∀ {l:List RE} {t:Tr qA} {HA:xA} {H':xA},Ov base t X HA->zS C l ⟨HA.next,t⟩=some H'->∃HA',zS C l HA=some HA'/\Ov base H'.t X HA'
 | [],t,HA,H',ho,h=>by cases h;exact⟨HA,rfl,ho⟩
 | e::l,t,HA,H',ho,h=>by
  unfold zS at h ⊢
  rw[uA]at h;obtain⟨H1,h1,h⟩:=h
  obtain⟨HA1,g1,g2,g3,g4⟩:=zy3 ho h1
  rw[g1,vA];obtain⟨n1,t1⟩:=H1
  have g4:n1=HA.next:=g4
  subst g4;rw[<- g3]at h;exact zkx g2 h
def zvb(ho:Ov base t X HA){e:RE}(h:tR C ⟨HA.next,t⟩ e=true):tR C HA e=true:=by
 cases e with
 | st b off l=>
  change (!gG (lH C ⟨HA.next,t⟩ b off l))=true at h
  show(!gG (lH C HA b off l))=true
  cases hs:lH C ⟨HA.next,t⟩ b off l with
  | none=>rw[hs]at h;cases h
  | some H'=>obtain⟨HA',g,_⟩:=zck ho hs;rw[g];rfl
 | up b k v=>
  unfold tR at h ⊢
  rw[ybb]at h ⊢
  refine⟨h.1,?_⟩
  have h2:=h.2
  split at h2
  ·rename_i hm;rw[mT ho.le hm]
  ·cases h2
def ztu{es:List Eff}:zs9 base (vM C es):=by
 intro t X HA v H' ho h;unfold vM jP at h ⊢
 simp only[uA,zB,ybb]at h;obtain⟨H1,⟨rs,h1,⟨h2,h3⟩,h4⟩,h5⟩:=h
 cases h5;obtain⟨HA',g1,g2⟩:=zkx ho h4
 refine⟨HA',?_,g2⟩
 simp only[uA,zB,ybb];refine⟨HA',⟨rs,h1,⟨h2,?_⟩,g1⟩,rfl⟩
 rw[cG,ycb]at h3 ⊢
 exact fun e he=>zvb ho (h3 e he)
def zgp{ty:Nat}{l c:zA}:zs9 base (zN C ty l c):=by
 intro t X HA v H' ho h;unfold zN at h ⊢
 simp only[uA,zB]at h;obtain⟨a,h1,b,h2,d,h3,n,h4,m,h5,h6,h7⟩:=h
 cases h7;refine⟨bD HA (dI d.zero m) none,?_,oQ _ _ ho⟩
 simp only[uA,zB];exact⟨a,h1,b,h2,d,h3,n,h4,m,h5,h6,rfl⟩
def zlk{s d:Nat}{u:zA}:zs9 base (zgo C s d u):=by
 intro t X HA v H' ho h;unfold zgo at h ⊢
 simp only[uA,zB]at h;obtain⟨a,h1,b,h2,c,h3,et,h4,k,h5,h6,l,h7,h8⟩:=h
 cases h8;refine⟨bD HA (jO l) (some (.ty c)),?_,oQ _ _ ho⟩
 simp only[uA,zB];exact⟨a,h1,b,h2,c,h3,et,h4,k,h5,h6,l,h7,rfl⟩
def zm8(h:HLe H HA){sz n:Nat}{u:zA}{l:List zA}(hx:oN H sz n u=some l):oN HA sz n u=some l:=by
 unfold oN at hx ⊢
 split at hx
 ·rw[uA]at hx ⊢
  obtain⟨c,h1,h2⟩:=hx
  exact⟨c,cL h h1,h2⟩
 ·exact hx
def zs5(ho:Ov base t X HA){ty:uC}{a b:zA}{H':xA}(h:gO C ⟨HA.next,t⟩ ty a b=some (v,H')):∃HA',gO C HA ty a b=some (v,HA')/\Ov base H'.t X HA':=by
 unfold gO at h;simp only[uA]at h;obtain⟨el,h1,et,h2,n,h3,new,h4,h5⟩:=h
 have h4':=zm8 ho.le h4
 suffices hs:∃HA',(match a.asSlice with
  | some s=>bif Nat.ble (s.2.2.1+n) s.2.2.2 then lQ C HA et n new s else nO C HA el et n new s
  | none=>jA (Nat.beq a.tag 5) (cJ HA el et n new))=some (v,HA')/\Ov base H'.t X HA' by
  obtain⟨HA',g1,g2⟩:=hs
  refine⟨HA',?_,g2⟩
  unfold gO;simp only[uA];exact⟨el,h1,et,h2,n,h3,new,h4',g1⟩
 cases hs:a.asSlice with
 | some s=>
  rw[hs]at h5;simp only[]at h5 ⊢
  rw[iB]at h5;split at h5
  ·rename_i hr
   simp only[hr,cond_true];unfold lQ at h5 ⊢
   split at h5
   ·cases h5;exact⟨HA,rfl,ho⟩
   ·rw[uA]at h5
    obtain⟨H1,g1,g2⟩:=h5
    cases g2
    obtain⟨HA',g3,g4⟩:=zck ho g1
    exact⟨HA',by simp only[g3,vA],g4⟩
  ·rename_i hr
   simp only[Bool.not_eq_true]at hr;simp only[hr,cond_false];unfold nO at h5 ⊢
   rw[zB]at h5;obtain⟨gm,h5⟩:=h5
   rw[zB]at h5;obtain⟨g0,h5⟩:=h5
   rw[uA]at h5;obtain⟨c,g1,h5⟩:=h5
   have g1':=cL ho.le g1
   unfold fC at g1;rw[uA]at g1;obtain⟨y,g2,_⟩:=g1
   split at h5
   ·rename_i hc
    unfold jU at h5;rw[uA]at h5;obtain⟨old,g3,g4⟩:=h5
    cases g4
    refine⟨bD HA (eC old new) (some (qH el et)),?_,oQ _ _ ho⟩
    simp only[zB,uA];refine⟨gm,g0,c,g1',?_⟩
    rw[hc];unfold jU;simp only[uA];exact⟨old,g3,rfl⟩
   ·rename_i es hc
    unfold bS at h5;rw[zB]at h5;obtain⟨g3,g4⟩:=h5
    cases g4
    refine⟨⟨HA.next+1,(HA.t.del s.1).set HA.next (.cells (c.1.setMany new (s.2.2.1*et.size)) ((s.2.2.1+n)*et.size) (some es))⟩,?_,(ho.delBlk g2).newBlk _⟩
    simp only[zB,uA];refine⟨gm,g0,c,g1',?_⟩
    rw[hc];unfold bS;exact zB.2 ⟨g3,rfl⟩
 | none=>
  rw[hs]at h5;simp only[]at h5 ⊢
  rw[zB]at h5;obtain⟨g0,h5⟩:=h5
  unfold cJ at h5;rw[iB]at h5;split at h5
  ·rename_i hn
   cases h5;refine⟨HA,?_,ho⟩
   rw[zB];refine⟨g0,?_⟩
   unfold cJ;rw[hn];rfl
  ·rename_i hn
   rw[zB]at h5;obtain⟨g1,h5⟩:=h5
   cases h5;refine⟨bD HA new (some (qH el et)),?_,oQ _ _ ho⟩
   rw[zB];refine⟨g0,?_⟩
   unfold cJ;simp only[Bool.not_eq_true]at hn;rw[hn,cond_false,zB];exact⟨g1,rfl⟩
def zq1{ty u:Nat}{a b:zA}:zs9 base (bE C ty u a b):=by
 intro t X HA v H' ho h;unfold bE at h;simp only[uA,zB]at h;obtain⟨y,h1,z,h2,h3,h4⟩:=h
 obtain⟨HA',g1,g2⟩:=zs5 ho h4
 refine⟨HA',?_,g2⟩
 unfold bE;simp only[uA,zB];exact⟨y,h1,z,h2,h3,g1⟩
end
def wV(ν:Nat->Nat)(ae:lJ)(e:nC):Prop:=∀i p,tAd ae i=some p->zzj i e=some (.ptr (ν p.1) p.2)
def zzf(base:Nat)(X0 X:Xt)(ν:Nat->Nat)(lo:Tr (List zA)):Prop:=∀d l,lo.get d=some l->X0 (ν d)=none/\base<=ν d/\∃c,X (ν d)=some (.cells c l.length none)/\∀j a,l[j]?=some a->c.get j=some a
def jD{base:Nat}{W J:fG}{α:Type}{x:Option α}{K:α->T}{t:Tr qA}{Q:bB}:pA base W J (lB x K) t Q ↔ ∃a,x=some a/\pA base W J (K a) t Q:=by
 cases x with
 | none=>exact⟨fun h=>(by cases h),fun⟨_,h,_⟩=>(by cases h)⟩
 | some a=>exact⟨fun h=>⟨a,rfl,h⟩,fun⟨_,h,k⟩=>(by cases h;exact k)⟩
def kJ{base:Nat}{W J:fG}{b:Bool}{K:T}{t:Tr qA}{Q:bB}:pA base W J (gdT b K) t Q ↔ b=true/\pA base W J K t Q:=by
 cases b with
 | false=>exact⟨fun h=>(by cases h),fun⟨h,_⟩=>(by cases h)⟩
 | true=>exact⟨fun h=>⟨rfl,h⟩,fun⟨_,h⟩=>h⟩
def aO{base:Nat}{W J:fG}{x:Option zA}{K:zA->T}{t:Tr qA}{Q:bB}:pA base W J (.opt x K) t Q ↔ ∃a,x=some a/\pA base W J (K a) t Q:=cN
def eT{base:Nat}{W J:fG}{x:Tr qA->Option zA}{K:zA->T}{t:Tr qA}{Q:bB}:pA base W J (.light x K) t Q ↔ ∃a,x t=some a/\pA base W J (K a) t Q:=cN
def zb5{ν:Nat->Nat}{ae:lJ}{e:nC}(h:wV ν ae e){x:Operand}{p:Nat × Nat}(hx:xAd ae x=some p):ev x e=some (.ptr (ν p.1) p.2):=by
 cases x with
 | tmp i=>exact h i p hx
 | const _=>cases hx
 | global _=>cases hx
 | func _=>cases hx
def zwb{c:Tr zA}{l:List zA}(h:∀j a,l[j]?=some a->c.get j=some a):∀(n off:Nat),off+n<=l.length->c.many n off=some ((l.drop off).take n):=by
 intro n;induction n with
 | zero=>intro off _;simp;rfl
 | succ n ih=>
  intro off ho;have hlt:off<l.length:=by omega
  rw[Tr.many_succ,h off l[off] (ybd hlt),vA,ih (off+1) (by omega),vA]
  rw[ybl hlt,List.take_succ_cons]
section
variable {W J:fG}{t:Tr qA}{X X0:Xt}{HA:xA}{e eA:nC}{C:oA}{ν:Nat->Nat}{ae:lJ}{lo:Tr (List zA)}{k:KOp}{Q:bB}{R:zA->Prop}
def zpd(ho:Ov C.base t X HA)(hl:zzf C.base X0 X ν lo){d off ty:Nat}{l:List zA}{y:uC}{v:zA}(h1:lo.get d=some l)(h2:C.tys.get ty=some y)(h3:Nat.ble (off+y.size) (aA l)=true)(h4:dK C ty l off=some v) :
  mA C ty HA (.ptr (ν d) off)=some v:=by
 obtain⟨_,_,c,hc,hg⟩:=hl d l h1
 have hb:=(ho.ext _ _ hc).1
 unfold mA;simp only[zA.asPtr,vA];rw[h2,vA];unfold fC;rw[hb,vA];simp only[qA.asCells,vA];unfold dK at h4;rw[h2,vA]at h4;unfold mM;rw[iB]at h4 ⊢
 rw[vE,gC]at h3;split at h4
 ·rename_i ha
  rw[yab ha,zwb hg _ _ h3,vA];rw[yO,rP]at h4;exact h4
 ·rename_i ha
  rw[yaa ha];rw[oF]at h4;exact hg _ _ h4
def sM(he:cM e eA){op:Op}(hp:xN op=true\/(∃s d x,op=.convert s d x/\(uG C d=1\/uG C s=2))\/(∃c,op=.call c/\(c.callee=.builtin .max\/c.callee=.builtin .min)))
  (h:pA C.base W J (zok C op e k) t Q) (hKd:∀v,pA C.base W J (k.Kd v) t Q->R v):∃v,(mE op).f C eA HA=some v/\R v:=by
 unfold zok at h;rw[jD]at h;obtain⟨v,h1,h2⟩:=h
 exact⟨v,z2e he hp h1,hKd v h2⟩
def ztt{ty:Nat}{u v:zA}{H:xA}(ht:uG C ty=4)(h:yC u=some v):ztf C ty H u=some v:=by
 unfold uG at ht
 cases hy:C.tys.get ty with
 | none=>rw[hy]at ht;cases ht
 | some y=>
  rw[hy]at ht;have ht:y.desc.tag=4:=ht
  unfold ztf;rw[hy,vA];unfold yC at h;unfold zth
  cases u<;>simp only[zA.asSlice,zA.asStr,zA.asMap,zA.tag]at h ⊢ <;> (try (rw[zB]at h;exact absurd h.1 (by decide)))
  case nilslice=>
   rw[zB]at h;have hn:y.desc.asArr=none:=by cases hd:y.desc<;>rw[hd]at ht<;>first | rfl | (cases ht;done)
   rw[hn,ht];simp only[uA,zB];exact⟨0,⟨rfl,rfl⟩,h.2⟩
  case slice a b n m=>
   rw[ht]
   cases h;simp only[uA,zB];exact⟨n,⟨rfl,rfl⟩,rfl⟩
def zxj{ty:Nat}{u v:zA}{H H':xA}(ht:uG C ty≠6)(h:ztf C ty H u=some v):ztf C ty H' u=some v:=by
 unfold ztf at h ⊢
 simp only[uA]at h ⊢
 obtain⟨y,h1,n,h2,h3⟩:=h
 refine⟨y,h1,n,?_,h3⟩
 have ht:¬ Nat.beq y.desc.tag 6=true:=by
  intro hb;apply ht;unfold uG;rw[h1];exact pB.1 hb
 unfold zth at h2 ⊢
 split at h2
 ·exact h2
 ·split at h2
  ·exact h2
  ·split at h2
   ·exact h2
   ·split at h2
    ·rw[zB]at h2;exact absurd h2.1 ht
    ·exact h2
def zu2{ty:Nat}{a v:zA}{l h:Option zA}{H H':xA}(ht:uG C ty=2)(hx:gF C ty H a l h=some v):gF C ty H' a l h=some v:=by
 unfold gF at hx ⊢
 rw[uA]at hx ⊢
 obtain⟨y,h1,h2⟩:=hx
 refine⟨y,h1,?_⟩
 unfold uG at ht;rw[h1]at ht;have ht:y.desc.tag=2:=ht
 unfold iJ at h2 ⊢
 have n1:y.desc.asSlice=none:=by cases hd:y.desc<;>rw[hd]at ht<;>first | rfl | (cases ht;done)
 have n2:y.desc.asArr=none:=by cases hd:y.desc<;>rw[hd]at ht<;>first | rfl | (cases ht;done)
 split at h2
 ·exact h2
 ·split at h2
  ·rw[n1]at h2;cases h2
  ·split at h2
   ·rw[n2]at h2;cases h2
   ·exact h2
def zc6{u:zA}(h:zA.one u=true):u.cells=[u]:=by
 cases u<;>first
  | rfl
  | (have:=dB.1 h;simp[zA.tag]at this)
def zsk{tyAt:Nat->Option Nat}(place:Nat->Option (Nat × Nat)):∀(vs:List (Nat × zA)) {q:List (Nat × zA × List zA) × List zA},zvt C tyAt vs=some q->tC zA.one q.2=true->∀cells l,z2a place q.1 cells=some l->kL place vs cells=some l:=by
 intro vs;induction vs with
 | nil=>intro q h _ cells l hl;cases h;exact hl
 | cons p vs ih=>
  intro q h h1 cells l hl;have h:(ob (tyAt p.1) fun t=>ob (C.tys.get t) fun ty=>ob (zvt C tyAt vs) fun r=>some (bif ty.desc.isAgg then((p.1,p.2,p.2.cells)::r.1,r.2)else((p.1,p.2,[p.2])::r.1,p.2::r.2)))=some q:=h
  simp only[uA]at h;obtain⟨ty,_,y,_,r,h3,h4⟩:=h
  have uE:∀(rest:List zA),tC zA.one r.2=true->(ob (place p.1) fun q=>ob (z19 cells q.1 q.2 p.2.cells) fun cells=>z2a place r.1 cells)=some l->kL place (p::vs) cells=some l:=by
   intro _ hr hl;show(ob (place p.1) fun q=>ob (xT cells q.1 q.2 p.2) fun cells=>kL place vs cells)=some l
   simp only[uA]at hl ⊢
   obtain⟨a,g1,b,g2,g3⟩:=hl
   exact⟨a,g1,b,g2,ih h3 hr _ _ g3⟩
  cases hb:y.desc.isAgg with
  | true=>
   rw[hb]at h4
   cases h4;exact uE [] h1 hl
  | false=>
   rw[hb]at h4
   cases h4;rw[cG,cond_false]at h1;simp only[ycg,ybb]at h1;have hl:(ob (place p.1) fun q=>ob (z19 cells q.1 q.2 [p.2]) fun cells=>z2a place r.1 cells)=some l:=hl
   rw[<- zc6 h1.1]at hl;exact uE [] (by rw[cG];exact h1.2) hl
def z5a(he:cM e eA)(ha:wV ν ae eA)(ho:Ov C.base t X HA)(hl:zzf C.base X0 X ν lo){op:Op}(h:pA C.base W J (tL C op e ae lo k) t Q)
  (hK:∀v,pA C.base W J (k.K v) t Q->R v) (hKd:∀v,pA C.base W J (k.Kd v) t Q->R v) (hKA:∀d off,pA C.base W J (k.KA d off) t Q->R (.ptr (ν d) off)) :
  ∃v,(mE op).f C eA HA=some v/\R v:=by
 cases op<;>simp only[tL]at h<;>try (cases h;done)
 case move x=>
  unfold zz2 at h;split at h
  ·rename_i p hp
   exact⟨_,zb5 ha hp,hKA _ _ h⟩
  ·exact sM he (.inl rfl) h hKd
 case assign x=>
  unfold zz2 at h;split at h
  ·rename_i p hp
   exact⟨_,zb5 ha hp,hKA _ _ h⟩
  ·exact sM he (.inl rfl) h hKd
 case pick c a b=>exact sM he (.inl rfl) h hKd
 case load ty a=>
  unfold tLoad at h;split at h
  ·rename_i p hp
   simp only[jD,kJ]at h;obtain⟨l,h1,y,h2,h3,v,h4,h5⟩:=h
   refine⟨v,?_,hKd v h5⟩
   show uO ty a C eA HA=some v
   rw[zwx,zb5 ha hp,vA];exact zpd ho hl h1 h2 h3 h4
  ·rw[jD]at h
   obtain⟨u,h1,h2⟩:=h
   rw[eT]at h2;obtain⟨v,h3,h4⟩:=h2
   refine⟨v,?_,hK v h4⟩
   show uO ty a C eA HA=some v
   rw[zwx,iC he h1,vA];exact cW ho.le h3
 case nilCheck x=>
  unfold tNil at h;split at h
  ·rename_i p hp
   refine⟨_,?_,hKA _ _ h⟩
   show z1i x C eA HA=_
   rw[z33 (zb5 ha hp)];rfl
  ·rw[jD]at h
   obtain⟨u,h1,h2⟩:=h
   rw[aO]at h2;obtain⟨v,h3,h4⟩:=h2
   refine⟨v,?_,hK v h4⟩
   show z1i x C eA HA=_
   rw[z33 (iC he h1)];exact h3
 case binOp op ty x y u=>
  unfold tBin at h;rw[iB]at h;split at h
  ·exact sM he (.inl rfl) h hKd
  ·simp only[jD,aO]at h
   obtain⟨a,h1,b,h2,v,h3,h4⟩:=h
   refine⟨v,?_,hK v h4⟩
   show zw2 op ty x y C eA HA=_
   rw[lBin_v (iC he h1) (iC he h2)];exact h3
 case unOp o ty x=>
  split at h
  ·simp only[jD,aO]at h
   obtain⟨u,h1,v,h2,h3⟩:=h
   refine⟨v,?_,hK v h3⟩
   show lUn .xor x C eA HA=_
   unfold lUn;rw[iC he h1];exact h2
  ·exact sM he (.inl rfl) h hKd
 case convert s d x=>
  unfold z5c at h;rw[iB]at h;split at h
  ·rename_i hd
   rw[iB]at h;split at h
   ·rename_i hs
    exact sM he (.inr (.inl ⟨s,d,x,rfl,.inr (pB.1 hs)⟩)) h hKd
   ·simp only[jD,eT]at h
    obtain⟨u,h1,v,h2,h3⟩:=h
    refine⟨v,?_,hK v h3⟩
    show oK s d x C eA HA=_
    rw[zw0 (iC he h1)];exact zqy ho.le h2
  ·rw[iB]at h
   split at h
   ·rename_i hd
    exact sM he (.inr (.inl ⟨s,d,x,rfl,.inl (pB.1 hd)⟩)) h hKd
   ·cases h
 case makeInterface ty x=>exact sM he (.inl rfl) h hKd
 case makeFunc fn a b=>exact sM he (.inl rfl) h hKd
 case slice ty x lo' hi mx=>
  cases mx with
  | some _=>cases h
  | none=>
   simp only[z3h,jD]at h;obtain⟨a,h1,l,h2,r,h3,h4⟩:=h
   rw[iB]at h4;show ∃v,nQ ty x lo' hi C eA HA=some v/\R v
   rw[z1h (iC he h1) (zp5 he h2) (zp5 he h3)]
   split at h4
   ·rename_i ht
    rw[aO]at h4;obtain⟨v,h5,h6⟩:=h4
    exact⟨v,zu2 (pB.1 ht) h5,hK v h6⟩
   ·rw[eT]at h4
    obtain⟨v,h5,h6⟩:=h4
    exact⟨v,zll ho.le h5,hK v h6⟩
 case fieldAddr s x f=>
  unfold ze7 at h;show ∃v,rO s x f C eA HA=some v/\R v
  split at h
  ·rename_i p hp
   rw[jD]at h;obtain⟨o,h1,h2⟩:=h
   refine⟨_,?_,hKA _ _ h2⟩
   rw[za7 (zb5 ha hp)]
   unfold vB;rw[h1];rfl
  ·simp only[jD,aO]at h
   obtain⟨u,h1,v,h2,h3⟩:=h
   refine⟨v,?_,hK v h3⟩
   rw[za7 (iC he h1)];exact h2
 case field ty x f=>exact sM he (.inl rfl) h hKd
 case indexAddr ty x i=>
  unfold ze6 at h;show ∃v,tO ty x i C eA HA=some v/\R v
  split at h
  ·rename_i p hp
   simp only[jD]at h;obtain⟨iv,h1,n,h2,o,h3,h4⟩:=h
   refine⟨_,?_,hKA _ _ h4⟩
   rw[za6 (zb5 ha hp) (iC he h1)]
   unfold zoc at h3;simp only[uA,zB]at h3;obtain⟨y,g1,a,g2,et,g3,g4,g5⟩:=h3
   cases g5
   unfold zC;rw[g1,vA,h2,vA];simp only[zA.asSlice,zA.asPtr,vA];rw[g2,vA,g3,vA,g4];rfl
  ·simp only[jD,aO]at h
   obtain⟨u,h1,w,h2,v,h3,h4⟩:=h
   refine⟨v,?_,hK v h4⟩
   rw[za6 (iC he h1) (iC he h2)];exact h3
 case index ty x i=>
  rw[iB]at h;split at h
  ·exact sM he (.inl rfl) h hKd
  ·simp only[jD,aO]at h
   obtain⟨u,h1,w,h2,v,h3,h4⟩:=h
   refine⟨v,?_,hK v h4⟩
   show sO ty x i C eA HA=_
   rw[z1k (iC he h1) (iC he h2)];exact h3
 case lookup ty x i ok=>
  simp only[jD,eT]at h;obtain⟨m,h1,key,h2,v,h3,h4⟩:=h
  refine⟨v,?_,hK v h4⟩
  show vO ty x i ok C eA HA=_
  rw[zww (iC he h1) (iC he h2)];exact zin ho.le h3
 case extract x i=>
  simp only[jD,aO]at h;obtain⟨u,h1,v,h2,h3⟩:=h
  refine⟨v,?_,hK v h3⟩
  show qO x i C eA HA=_
  rw[zr4 (iC he h1)];exact h2
 case typeAssert x a u ok=>
  simp only[jD,aO]at h;obtain⟨w,h1,v,h2,h3⟩:=h
  refine⟨v,?_,hK v h3⟩
  show pO x u ok C eA HA=_
  rw[zw3 (iC he h1)];exact h2
 case build ty ps=>
  unfold z3j at h;simp only[jD,kJ]at h;obtain⟨y,h1,hbd,vs,h2,q,h3,l,h4,h5⟩:=h
  have h5:if tC zA.one q.2=true then pA C.base W J (k.Kd (.agg l)) t Q else False:=h5
  split at h5
  ·rename_i hone
   refine⟨_,?_,hKd _ h5⟩
   show qP ty ps C eA HA=_
   have hf:=zsk (zfq C y) vs h3 hone y.zero l h4
   unfold qP;rw[h1,vA,zh1 he h2,vA]
   cases hs:y.desc.asStruct with
   | some fs=>
    simp only[];have:(fun i=>ob (lC fs i) fun x=>some (x.1,x.2.2))=zfq C y:=by funext i;unfold zfq;rw[hs]
    rw[this,hf];rfl
   | none=>
    simp only[];unfold zkw at hbd;rw[hs]at hbd;simp only[]at hbd
    cases ha:y.desc.asArr with
    | none=>rw[ha]at hbd;cases hbd
    | some a=>
     rw[ha]at hbd;simp only[]at hbd
     cases hy:C.tys.get a.2 with
     | none=>rw[hy]at hbd;cases hbd
     | some et=>
      simp only[vA];have:(fun i=>some (i*et.size,et.size))=zfq C y:=by funext i;unfold zfq;rw[hs];simp only[];rw[ha,vA,hy,vA]
      rw[hy,vA,this,hf];rfl
  ·exact h5.elim
 case call c=>
  split at h
  ·rename_i b hb
   cases b<;>simp only[qV]at h<;>try (cases h;done)
   case len=>
    unfold tLen at h;simp only[jD]at h;obtain⟨ty,h1,x,h2,u,h3,h4⟩:=h
    show ∃v,(kM c c.callee).f C eA HA=some v/\R v
    rw[hb];show ∃v,zmz c C eA HA=some v/\R v
    rw[lLen_v h1 h2 (iC he h3)]
    rw[iB]at h4;split at h4
    ·rename_i ht
     rw[aO]at h4;obtain⟨v,h5,h6⟩:=h4
     exact⟨v,ztt (pB.1 ht) h5,hK v h6⟩
    ·rw[iB]at h4
     split at h4
     ·rw[eT]at h4
      obtain⟨v,h5,h6⟩:=h4
      exact⟨v,zts ho.le h5,hK v h6⟩
     ·rename_i ht
      rw[jD]at h4;obtain⟨v,h5,h6⟩:=h4
      exact⟨v,zxj (fun e=>ht (pB.2 e)) h5,hKd v h6⟩
   case max=>exact sM he (.inr (.inr ⟨c,rfl,.inl hb⟩)) h hKd
   case min=>exact sM he (.inr (.inr ⟨c,rfl,.inr hb⟩)) h hKd
  ·cases h
end
end
section
def znq(C:oA)(A:Tr aC)(f:Nat)(args:List zA)(H:xA):wB:=
 bif Nat.blt f yo then
  match C.prims.get f with
  | some g=>g args H
  | none=>dC C A (.func f) args H
 else dC C A (.yld (f-yo)) args H
def dU{C:oA}{A:Tr aC}{f:Nat}{args:List zA}{H:xA}(h:Nat.blt f yo=true):znq C A f args H=(match C.prims.get f with
  | some g=>g args H
  | none=>dC C A (.func f) args H):=by unfold znq;rw[h];rfl
def zks{C:oA}{A:Tr aC}{l:Nat}{args:List zA}{H:xA}:znq C A (yo+l) args H=dC C A (.yld l) args H:=by
 unfold znq;have:Nat.blt (yo+l) yo=false:=Bool.eq_false_iff.2 fun e=>by have:=dB.1 e;omega
 rw[this,Nat.add_sub_cancel_left];rfl
def xC (base:Nat)(X0:Xt)(Q:bB)(d:wB):Prop:=∃v t' HA' X',d=some (v,HA')/\Ov base t' X' HA'/\XLe X0 X'/\Q v t'
def xC.mono{base:Nat}{X0:Xt}{Q Q':bB}{d:wB}(h:xC base X0 Q d)(k:∀v t,Q v t->Q' v t):xC base X0 Q' d:=by
 obtain⟨v,t',HA',X',h1,h2,h3,h4⟩:=h
 exact⟨v,t',HA',X',h1,h2,h3,k _ _ h4⟩
def dO(C:oA)(A:Tr aC)(W:fG):Prop:=∀f args t R,W f args t R->∀X HA,Ov C.base t X HA->xC C.base X R (znq C A f args HA)
section
variable {W J:fG}{t:Tr qA}{X X0:Xt}{HA:xA}{e eA:nC}{C:oA}{A:Tr aC}{ν:Nat->Nat}{ae:lJ}{lo:Tr (List zA)}{k:KOp}{kl:KLo}{Q:bB}
def oI{f:LOp}{H:xA}{v:zA}(h:f C e H=some v):lv f C e H=.val v H:=by unfold lv;rw[h]
def zy5{op:Op}{H:xA}{v:zA}(h:(mE op).f C e H=some v):(aE op).f C e H=.val v H:=by
 cases op
 case move x=>exact oI h
 case assign x=>exact oI h
 case pick c a b=>exact oI h
 case load t a=>exact oI h
 case nilCheck x=>exact oI h
 case binOp op t x y u=>exact oI h
 case unOp op t x=>exact oI h
 case makeInterface t x=>exact oI h
 case makeFunc fn a b=>exact oI h
 case slice t x lo hi mx=>exact oI h
 case fieldAddr s x f=>exact oI h
 case field t x f=>exact oI h
 case indexAddr t x i=>exact oI h
 case index t x i=>exact oI h
 case extract t i=>exact oI h
 case build t ps=>exact oI h
 case typeAssert x t u ok=>exact oI h
 case lookup t x i ok=>exact oI h
 case convert s d x=>
  show kP s d x C e H=_
  have h:oK s d x C e H=some v:=h
  unfold kP;rw[h]
 case call c=>
  have h:(kM c c.callee).f C e H=some v:=h
  show(lU c c.callee).f C e H=_
  cases hc:c.callee with
  | value f=>rw[hc]at h;cases h
  | invoke a b=>rw[hc]at h;cases h
  | builtin b=>
   rw[hc]at h
   cases b
   case len=>exact oI (f:=zmz c) h
   case max=>exact oI (f:=zwv c) h
   case min=>exact oI (f:=zwt c) h
   all_goals exact absurd (show(none:Option zA)=some v from h) (by simp)
 all_goals exact absurd (show(none:Option zA)=some v from h) (by simp)
def uR{x:Option (zA × xA)}{v:zA}{H':xA}{kd:zA->xA->wB}{φ:vG}(h:x=some (v,H')):vF φ (eI x) HA kd=kd v H':=by subst h;rfl
def qN(ho:Ov C.base t X HA){x:xA->Option (zA × xA)}(hx:zs9 C.base x){K:zA->T}(h:pA C.base W J (.heavy x K) t Q){kd:zA->xA->wB}{φ:vG}
  (hK:∀v t' HA' X',Ov C.base t' X' HA'->XLe X X'->pA C.base W J (K v) t' Q->xC C.base X0 Q (kd v HA')) {r:uI} (hr:∀p,x HA=some p->vF φ r HA kd=kd p.1 p.2):xC C.base X0 Q (vF φ r HA kd):=by
 have h:=h HA.next ho.nextT ho.base
 rw[cN]at h;obtain⟨⟨v,H'⟩,h1,h2⟩:=h
 obtain⟨HA',h3,h4⟩:=hx _ _ _ _ _ ho h1
 rw[hr _ h3];exact hK v _ _ _ h4 (XLe.refl _) h2
def znp(hW:dO C A W)(ho:Ov C.base t X HA){f:Nat}(hf:Nat.blt f yo=true){args:List zA}{K:zA->T}(h:W f args t fun v t'=>pA C.base W J (K v) t' Q){kd:zA->xA->wB}
  (hK:∀v t' HA' X',Ov C.base t' X' HA'->XLe X X'->pA C.base W J (K v) t' Q->xC C.base X0 Q (kd v HA')):xC C.base X0 Q (vF (dC C A) (zgd C HA args f (C.prims.get f)) HA kd):=by
 obtain⟨v,t',HA',X',h1,h2,h3,h4⟩:=hW _ _ _ _ h X HA ho
 rw[dU hf]at h1;unfold zgd
 cases hp:C.prims.get f with
 | some g=>
  rw[hp]at h1;simp only[h1];exact hK _ _ _ _ h2 h3 h4
 | none=>
  rw[hp]at h1;have h1:dC C A (.func f) args HA=some (v,HA'):=h1
  show xC C.base X0 Q (ob (dC C A (.func f) args HA) fun p=>kd p.1 p.2)
  rw[h1];exact hK _ _ _ _ h2 h3 h4
def z0k(hW:dO C A W)(ho:Ov C.base t X HA){l:Nat}{args:List zA}{K:zA->T}(h:W (yo+l) args t fun v t'=>pA C.base W J (K v) t' Q){kd:zA->xA->wB}
  (hK:∀v t' HA' X',Ov C.base t' X' HA'->XLe X X'->pA C.base W J (K v) t' Q->xC C.base X0 Q (kd v HA')):xC C.base X0 Q (vF (dC C A) (.round l args) HA kd):=by
 obtain⟨v,t',HA',X',h1,h2,h3,h4⟩:=hW _ _ _ _ h X HA ho
 rw[zks]at h1;show xC C.base X0 Q (ob (dC C A (.yld l) args HA) fun p=>kd p.1 p.2)
 rw[h1];exact hK _ _ _ _ h2 h3 h4
def Ov.setX{base:Nat}(h:Ov base t X HA){b:Nat}{y:qA}(hb:X b=some y)(z:qA):Ov base t (fun c=>if c=b then some z else X c) (Am.setBlk HA b z):=by
 obtain⟨g1,g2,g3⟩:=h.ext b y hb
 refine⟨h.base,fun c hc=>?_,fun c u hc=>?_,h.lt⟩
 ·split at hc
  ·cases hc
  ·rename_i hne
   show(HA.t.set b z).get c=_
   rw[Tr.get_set,yaa hne];exact h.same c hc
 ·show(HA.t.set b z).get c=_/\_/\c<HA.next
  rw[Tr.get_set];split at hc
  ·rename_i e;cases hc;subst e;rw[yab rfl];exact⟨rfl,g2,g3⟩
  ·rename_i hne;rw[yaa hne];exact h.ext c u hc
def Ov.newX{base:Nat}(h:Ov base t X HA)(z:qA):Ov base t (fun c=>if c=HA.next then some z else X c) (Am.newBlk HA z):=by
 refine⟨Nat.le_succ_of_le h.base,fun c hc=>?_,fun c u hc=>?_,fun b y hb=>Nat.lt_succ_of_lt (h.lt b y hb)⟩
 ·split at hc
  ·cases hc
  ·rename_i hne
   show(HA.t.set HA.next z).get c=_
   rw[Tr.get_set,yaa hne];exact h.same c hc
 ·show(HA.t.set HA.next z).get c=_/\_/\c<HA.next+1
  rw[Tr.get_set];split at hc
  ·rename_i e;cases hc;subst e;rw[yab rfl];exact⟨rfl,h.nextT,Nat.lt_succ_self _⟩
  ·rename_i hne;rw[yaa hne];have:=h.ext c u hc;exact⟨this.1,this.2.1,Nat.lt_succ_of_lt this.2.2⟩
def zwf(ho:Ov C.base t X HA)(hl:zzf C.base X0 X ν lo){d off:Nat}{l l':List zA}{u:zA}{sz:Nat}(h1:lo.get d=some l)(h2:xT l off sz u=some l')(h3:tC zA.one u.cells=true) :
  Nat.beq (aA u.cells) sz=true/\l'.length=l.length/\∃c',lH C HA (ν d) off u.cells=some (setBlk HA (ν d) (.cells c' l.length none))/\∀j a,l'[j]?=some a->c'.get j=some a:=by
 obtain⟨_,hb,c,hc,hg⟩:=hl d l h1
 have hx:=(ho.ext _ _ hc).1
 unfold xT at h2;simp only[zB,ybb,vE,gC,oG,yO,rP,Option.some.injEq]at h2;obtain⟨⟨g1,g2⟩,g3⟩:=h2
 subst g3;refine⟨by rw[gC];exact g1,?_,c.setMany u.cells off,?_,?_⟩
 ·simp;omega
 ·unfold lH
  have n1:(!Nat.blt (ν d) C.base)=true:=by
   cases hq:Nat.blt (ν d) C.base with
   | true=>have:=dB.1 hq;omega
   | false=>rfl
  rw[n1];unfold fC;rw[hx];simp only[zB,vA,qA.asCells,ybb,vE,gC];exact⟨trivial,⟨g2,h3⟩,trivial⟩
 ·intro j a hj
  rw[Tr.get_setMany];split
  ·rename_i hh
   rw[ybp (by simp;omega)]at hj
   rw[yco (by simp;omega)]at hj
   rw[<- hj];congr 1
   simp;omega
  ·rename_i hh
   refine hg j a ?_
   by_cases hlt:j<off
   ·rw[yco (by simp;omega)]at hj
    rw[ydf,yab hlt]at hj;exact hj
   ·rw[ybp (by simp;omega),ybp (by simp;omega)]at hj
    rw[yde]at hj;rw[<- hj];congr 1
    simp;omega
def zyq{y:uC}{u:zA}(h:tC zA.one (zga y u)=true):zga y u=u.cells:=by
 unfold zga at h ⊢
 rw[iB]at h ⊢
 split
 ·rfl
 ·rename_i e
  rw[yaa e,cG]at h;rw[zc6 (by simpa using h)]
def zrl{op:Op}{v:zA}{kd:zA->xA->wB}{φ:vG}(h:(mE op).f C eA HA=some v):vF φ ((aE op).f C eA HA) HA kd=kd v HA:=by rw[zy5 h];rfl
def zwp{la:List Nat}{dst:Option Nat}{d:Nat}(h:laOf la dst=some d):dst=some d:=by
 unfold laOf at h
 cases dst with
 | none=>cases h
 | some x=>simp only[iB]at h;split at h<;>cases h;rfl
def tH_ok(hW:dO C A W)(he:cM e eA)(ha:wV ν ae eA)(ho:Ov C.base t X HA)(hl:zzf C.base X0 X ν lo){la:List Nat}{dst:Option Nat}{op:Op}
  (h:pA C.base W J (tH C la dst op e ae lo k kl) t Q) {kd:zA->xA->wB}
  (hK:∀v t' HA' X',Ov C.base t' X' HA'->XLe X X'->pA C.base W J (k.K v) t' Q->xC C.base X0 Q (kd v HA'))
  (hKd:∀v t' HA' X',Ov C.base t' X' HA'->XLe X X'->pA C.base W J (k.Kd v) t' Q->xC C.base X0 Q (kd v HA'))
  (hKA:∀d off,pA C.base W J (k.KA d off) t Q->xC C.base X0 Q (kd (.ptr (ν d) off) HA))
  (hnew:∀d l,laOf la dst=some d->pA C.base W J (kl.new d l) t Q->xC C.base X0 Q (kd (.ptr HA.next 0) (bD HA l none)))
  (hset:∀d l l' c',lo.get d=some l->l'.length=l.length->(∀j a,l'[j]?=some a->c'.get j=some a)->pA C.base W J (kl.set d l') t Q->xC C.base X0 Q (kd tD (setBlk HA (ν d) (.cells c' l.length none)))) :
  xC C.base X0 Q (vF (dC C A) ((aE op).f C eA HA) HA kd):=by
 have light:∀(op:Op),pA C.base W J (tL C op e ae lo k) t Q->xC C.base X0 Q (vF (dC C A) ((aE op).f C eA HA) HA kd):=by
  intro op h;obtain⟨v,h1,h2⟩:=z5a (R:=fun v=>xC C.base X0 Q (kd v HA)) he ha ho hl h (fun v h=>hK v _ _ _ ho (XLe.refl _) h) (fun v h=>hKd v _ _ _ ho (XLe.refl _) h) hKA
  rw[zrl h1];exact h2
 cases op<;>simp only[tH]at h<;>try (exact light _ h)
 case alloc ty=>
  show xC C.base X0 Q (vF _ (kR ty C eA HA) HA kd)
  rw[iB]at h;split at h
  ·rename_i ht
   have ht:tI C ty=none:=by
    cases hx:tI C ty with
    | none=>rfl
    | some _=>rw[hx]at ht;cases ht
   split at h
   ·rename_i d hd
    rw[jD]at h;obtain⟨y,h1,h2⟩:=h
    unfold kR;rw[h1,ht];exact hnew d _ hd h2
   ·refine qN ho ztv h hK fun p hp=>?_
    unfold kR;rw[ht];have hp:(ob (C.tys.get ty) fun ty=>some (.ptr HA.next 0,bD HA ty.zero none))=some p:=hp
    rw[hp];rfl
  ·refine qN ho zq2 h hK fun p hp=>?_
   unfold kR;unfold zcc at hp;rw[hp];rfl
 case box ty x=>
  rw[iB]at h;show xC C.base X0 Q (vF _ (z1x ty x C eA HA) HA kd)
  unfold z1x;split at h
  ·rename_i ht
   have ht:tI C ty=none:=by
    cases hx:tI C ty with
    | none=>rfl
    | some _=>rw[hx]at ht;cases ht
   rw[jD]at h;obtain⟨v,h1,h⟩:=h
   rw[iC he h1,ht];split at h
   ·rename_i d hd
    rw[jD]at h;obtain⟨y,_,h⟩:=h
    rw[iB]at h;split at h
    ·exact hnew d _ hd h
    ·have h:if zA.one v=true then pA C.base W J (kl.new d [v]) t Q else False:=h
     split at h
     ·rename_i h1
      have:=hnew d _ hd h
      rw[<- zc6 h1]at this;exact this
     ·exact h.elim
   ·refine qN ho z42 h hK fun p hp=>?_
    cases hp;rfl
  ·rw[jD]at h
   obtain⟨v,h1,h⟩:=h
   rw[iC he h1];refine qN ho zzw h hK fun p hp=>?_
   cases hp;rfl
 case buildSlice ty n ps=>
  rw[jD]at h;obtain⟨vs,h1,h⟩:=h
  show xC C.base X0 Q (vF _ (lR ty n ps C eA HA) HA kd)
  refine qN ho zei h hK fun p hp=>?_
  refine uR (v:=p.1) (H':=p.2) ?_
  rw[zh1 he h1];exact hp
 case makeMap ty r=>
  cases r with
  | some _=>simp only[]at h;exact light _ h
  | none=>
   simp only[]at h;show xC C.base X0 Q (vF _ (sW none C eA HA) HA kd)
   refine qN ho zlm h hK fun p hp=>?_
   cases hp;rfl
 case makeSlice ty l c=>
  simp only[jD]at h;obtain⟨a,h1,b,h2,h⟩:=h
  show xC C.base X0 Q (vF _ (zav ty l c C eA HA) HA kd)
  refine qN ho zgp h hK fun p hp=>?_
  refine uR (v:=p.1) (H':=p.2) ?_
  rw[iC he h1,iC he h2];unfold zN at hp
  cases hx:C.tys.get ty with
  | none=>rw[hx]at hp;cases hp
  | some y=>
   rw[hx]at hp;simp only[vA]at hp ⊢
   exact hp
 case store ty a x=>
  unfold z3g at h;show xC C.base X0 Q (vF _ (zka ty a x C eA HA) HA kd)
  split at h
  ·rename_i p hp
   simp only[jD]at h;obtain⟨u,h1,y,h2,l,h3,l',h4,h5⟩:=h
   have h5:if tC zA.one (zga y u)=true then pA C.base W J (kl.set p.1 l') t Q else False:=h5
   split at h5
   ·rename_i hone
    have hcell:=zyq hone
    rw[hcell]at hone h4;have h4:xT l p.2 y.size u=some l':=h4
    obtain⟨g1,g2,c',g3,g4⟩:=zwf ho hl h3 h4 hone
    have:=hset p.1 l l' c' h3 g2 g4 h5
    have e1:vF (dC C A) (zka ty a x C eA HA) HA kd=kd tD (setBlk HA (ν p.1) (.cells c' l.length none)):=by
     refine uR ?_
     rw[h2,vA,zb5 ha hp,vA];simp only[zA.asPtr,vA];rw[iC he h1,vA,g1,g3];rfl
    rw[e1];exact this
   ·exact h5.elim
  ·simp only[jD]at h
   obtain⟨av,h1,u,h2,h⟩:=h
   refine qN ho ztr h hKd fun p hp=>?_
   refine uR (v:=p.1) (H':=p.2) ?_
   rw[iC he h1];unfold sC at hp
   cases hx:C.tys.get ty with
   | none=>rw[hx]at hp;cases hp
   | some y=>
    rw[hx]at hp;simp only[vA]at hp ⊢
    rw[iC he h2];exact hp
 case convert s d x=>
  rw[iB]at h;split at h
  ·rename_i hd
   rw[jD]at h;obtain⟨u,h1,h⟩:=h
   show xC C.base X0 Q (vF _ (kP s d x C eA HA) HA kd)
   have hn:oK s d x C eA HA=none:=by
    rw[zw0 (iC he h1)]
    cases hq:xK C s d HA u with
    | none=>rfl
    | some q=>
     exfalso
     unfold xK at hq;simp only[uA]at hq;obtain⟨sy,g1,dy,g2,g3⟩:=hq
     have hd:=pB.1 hd
     unfold uG at hd;rw[g2]at hd;have hd:dy.desc.tag=4:=hd
     unfold gL at g3;have n1:dy.desc.asInt=none:=by cases hz:dy.desc<;>rw[hz]at hd<;>first | rfl | (cases hd;done)
     have n2:dy.desc.isString=false:=by unfold rD.isString;rw[hd];rfl
     rw[n1,n2]at g3
     cases g3
   unfold kP;rw[hn];simp only[];refine qN ho zlk h hK fun p hp=>?_
   refine uR (v:=p.1) (H':=p.2) ?_
   rw[iC he h1];exact hp
  ·exact light _ (by simpa only[tL]using h)
 case insert ty m key x=>
  simp only[jD]at h;obtain⟨mv,h1,kv,h2,u,h3,h⟩:=h
  show xC C.base X0 Q (vF _ (mR ty m key x C eA HA) HA kd)
  refine qN ho ze3 h hKd fun p hp=>?_
  refine uR (v:=p.1) (H':=p.2) ?_
  rw[iC he h1,iC he h2,iC he h3];exact hp
 case mapUpdate ty m key x=>
  simp only[jD]at h;obtain⟨mv,h1,kv,h2,u,h3,h⟩:=h
  show xC C.base X0 Q (vF _ (mR ty m key x C eA HA) HA kd)
  refine qN ho ze3 h hKd fun p hp=>?_
  refine uR (v:=p.1) (H':=p.2) ?_
  rw[iC he h1,iC he h2,iC he h3];exact hp
 case call c=>
  show xC C.base X0 Q (vF _ ((lU c c.callee).f C eA HA) HA kd)
  split at h
  ·rename_i f hc
   rw[hc];show xC C.base X0 Q (vF _ (zds f c.args C eA HA) HA kd)
   have uE:∀ {fv:zA} {aq:List zA},ev f e=some fv->evs c.args.toList e=some aq->pA C.base W J (.callv fv aq k.K) t Q->xC C.base X0 Q (vF (dC C A) (zds f c.args C eA HA) HA kd):=by
    intro fv aq h1 h2 h;have h:cD (mN fv aq) fun p=>W p.1 p.2 t fun v t'=>pA C.base W J (k.K v) t' Q:=h
    rw[cN]at h;obtain⟨⟨g,aq'⟩,h3,h4⟩:=h
    unfold mN at h3;rw[uA]at h3;obtain⟨p,h5,h6⟩:=h3
    have e0:zds f c.args C eA HA=z69 C HA (eC p.2.1 aq) p.2.2 p.1:=by
     unfold zds eN;rw[iC he h1,vA,h5,vA,zh0 he h2,vA,vA];rfl
    rw[e0]
    cases hp:p.1 with
    | func g'=>
     rw[hp]at h6;simp only[zB]at h6;obtain⟨hg,h6⟩:=h6
     cases h6;exact znp hW ho hg h4 hK
    | yld l=>
     rw[hp]at h6;simp only[zB,ybb]at h6;obtain⟨⟨ha,hb⟩,h6⟩:=h6
     cases h6;have ea:p.2.1=[]:=by cases hx:p.2.1 with | nil=>rfl | cons _ _=>rw[hx]at ha;cases ha
     have eb:p.2.2=[]:=by cases hx:p.2.2 with | nil=>rfl | cons _ _=>rw[hx]at hb;cases hb
     rw[ea,eb];exact z0k hW ho h4 hK
   unfold z3i at h;split at h
   ·rename_i g
    rw[kJ,jD]at h;obtain⟨hg,aq,h1,h⟩:=h
    refine uE (fv:=.func (.func g) [] []) rfl h1 ?_
    show cD (mN (.func (.func g) [] []) aq) _
    have e2:mN (.func (.func g) [] []) aq=some (g,aq):=by
     show jA (Nat.blt g yo) (some (g,eC (eC [] aq) []))=_
     rw[hg,oG,oG];simp[jA]
    rw[e2];exact h
   ·simp only[jD]at h
    obtain⟨fv,h1,aq,h2,h⟩:=h
    exact uE h1 h2 h
  ·rename_i b hb
   rw[hb];have lt:pA C.base W J (qV C c e k b) t Q->xC C.base X0 Q (vF (dC C A) ((lU c (.builtin b)).f C eA HA) HA kd):=by
    intro h;have:=light (.call c) (by show pA C.base W J (match c.callee with | .builtin b=>qV C c e k b | _=>.fail) t Q;rw[hb];exact h)
    have e1:(aE (.call c)).f C eA HA=(lU c c.callee).f C eA HA:=rfl
    rw[e1,hb]at this;exact this
   unfold zix at h;split at h
   ·simp only[jD,two']at h
    obtain⟨ty,h1,u,h2,p,h3,h⟩:=h
    show xC C.base X0 Q (vF _ (kU c C eA HA) HA kd)
    refine qN ho zq1 h hK fun q hq=>?_
    refine uR (v:=q.1) (H':=q.2) ?_
    rw[h1,vA];unfold bE at hq;simp only[uA,zB]at hq ⊢
    obtain⟨y,g1,z,g2,g3,g4⟩:=hq
    exact⟨y,g1,u,h2,z,g2,g3,p,zgt he h3,g4⟩
   ·exact lt h
  ·cases h
end
end
section
structure fE (base:Nat) (X0:Xt) (kf:Nat) (ν:Nat->Nat) (X:Xt) (st:lF) (tm:Tm) (HA:xA) (t:Tr qA):Prop where
 ov:Ov base t X HA
 le:XLe X0 X
 k:st.tm.k=kf
 kA:tm.k=kf
 tms:∀i v,st.tm.get i=some v->tm.get i=some v
 ads:∀i p,pH i st.ad=some p->tm.get i=some (.ptr (ν p.1) p.2)
 lo:zzf base X0 X ν st.lo
 inj:∀d d' l l',st.lo.get d=some l->st.lo.get d'=some l'->ν d=ν d'->d=d'
def vS{i:Nat}{a:Nat × Nat × Nat}{l:List (Nat × Nat × Nat)}:pH i (a::l)=if i=a.1 then some a.2 else pH i l:=by
 show Bool.rec (motive:=fun _=>Option (Nat × Nat)) (pH i l) (some a.2) (Nat.beq i a.1)=_
 rw[bG];simp only[pB]
def zy8{i:Nat}{p:Nat × Nat}:∀ {l:List (Nat × Nat × Nat)},pH i l=some p->(i,p.1,p.2)∈l:=by
 intro l;induction l with
 | nil=>intro h;cases h
 | cons a l ih=>
  intro h;rw[vS]at h;split at h
  ·rename_i e;cases h;rw[e];exact yby
  ·exact ybr _ (ih h)
def zo1{n:Nat}{tm:Tm}{dst:Option Nat}{v:zA}:(putA n tm dst v).k=tm.k:=by
 unfold putA putB
 cases dst with
 | none=>rfl
 | some d=>
  simp only[z0q,iB];split
  ·unfold Tm.set;rw[bG];split<;>rfl
  ·rfl
def Tm.set_k{tm:Tm}{i:Nat}{v:zA}:(tm.set i v).k=tm.k:=by unfold Tm.set;rw[bG];split<;>rfl
section
variable {W J:fG}{t:Tr qA}{X X0:Xt}{HA:xA}{C:oA}{A:Tr aC}{ν:Nat->Nat}{Q:bB}{kf n:Nat}{st:lF}{tm:Tm}
def fE.put(h:fE C.base X0 kf ν X st tm HA t){dst:Option Nat}{v:zA}{lt:Bool}{κ:KT}(hw:pA C.base W J (zoi n dst v lt st κ) t Q) :
  ∃st',fE C.base X0 kf ν X st' (putA n tm dst v) HA t/\pA C.base W J (κ st') t Q:=by
 unfold zoi at hw
 cases dst with
 | none=>exact⟨st,h,hw⟩
 | some d=>
  simp only[iB]at hw;split at hw
  ·rename_i hd
   rw[kJ]at hw;obtain⟨h1,h2⟩:=hw
   refine⟨_,?_,h2⟩
   refine⟨h.ov,h.le,(by show(st.tm.set d v).k=kf;rw[Tm.set_k];exact h.k),by rw[zo1];exact h.kA,?_,?_,h.lo,h.inj⟩
   ·intro i u hi
    have hi2:(st.tm.set d v).get i=some u:=hi
    rw[Tm.get_set]at hi2;rw[yH];split at hi2
    ·rename_i e;rw[yab ⟨by rw[e],by rw[e];exact dB.1 hd⟩];exact hi2
    ·rename_i e
     rw[yaa (fun hh=>e (by injection hh.1 with e1;exact e1.symm))]
     exact h.tms i u hi2
   ·intro i p hi
    rw[yH,yaa]
    ·exact h.ads i p hi
    ·rintro⟨e,_⟩
     injection e with e
     subst e;rw[hi]at h1
     cases h1
  ·rename_i hd
   refine⟨st,?_,hw⟩
   have:putA n tm (some d) v=tm:=by
    unfold putA putB;simp only[z0q,iB];rw[yaa hd]
   rw[this];exact h
def fE.putA(h:fE C.base X0 kf ν X st tm HA t){dst:Option Nat}{d off:Nat}{κ:KT}(hw:pA C.base W J (z49 n dst d off st κ) t Q) :
  ∃st',fE C.base X0 kf ν X st' (Am.putA n tm dst (.ptr (ν d) off)) HA t/\pA C.base W J (κ st') t Q:=by
 unfold z49 at hw;rw[jD]at hw;obtain⟨i,h1,hw⟩:=hw
 subst h1;simp only[kJ]at hw;obtain⟨h2,h3,h4⟩:=hw
 refine⟨_,?_,h4⟩
 refine⟨h.ov,h.le,h.k,by rw[zo1];exact h.kA,?_,?_,h.lo,h.inj⟩
 ·intro j u hj
  rw[yH,yaa]
  ·exact h.tms j u hj
  ·rintro⟨e,_⟩
   injection e with e
   subst e;have hj:st.tm.get i=some u:=hj
   rw[hj]at h3
   cases h3
 ·intro j p hj
  have hj:pH j ((i,d,off)::st.ad)=some p:=hj
  rw[vS]at hj;rw[yH];split at hj
  ·rename_i e;cases hj;rw[yab ⟨by rw[e],by rw[e];exact dB.1 h2⟩]
  ·rename_i e
   rw[yaa (fun hh=>e (by injection hh.1 with e1;exact e1.symm))]
   exact h.ads j p hj
def fE.new(h:fE C.base X0 kf ν X st tm HA t){d:Nat}{l:List zA}{κ:KT}(hw:pA C.base W J (tNew n d l st κ) t Q) :
  ∃st' ν' X',fE C.base X0 kf ν' X' st' (Am.putA n tm (some d) (.ptr HA.next 0)) (bD HA l none) t/\pA C.base W J (κ st') t Q:=by
 unfold tNew at hw;simp only[kJ]at hw;obtain⟨h1,h2,h3,h4⟩:=hw
 have hx:=h.ov.nextX
 refine⟨_,fun c=>if c=d then HA.next else ν c,fun c=>if c=HA.next then some (.cells (Tr.ofList l) (aA l) none)else X c,?_,h4⟩
 refine⟨h.ov.newX _,?_,h.k,by rw[zo1];exact h.kA,?_,?_,?_,?_⟩
 ·intro b y hb
  have:X b=some y:=h.le b y hb
  show(if b=HA.next then _ else X b)=some y
  rw[yaa,this];intro e;rw[e,hx]at this;cases this
 ·intro j u hj
  rw[yH,yaa]
  ·exact h.tms j u hj
  ·rintro⟨e,_⟩
   injection e with e
   subst e;have hj:st.tm.get d=some u:=hj
   rw[hj]at h2
   cases h2
 ·intro j p hj
  have hj:pH j ((d,d,0)::st.ad)=some p:=hj
  rw[vS]at hj;rw[yH];split at hj
  ·rename_i e
   cases hj;rw[yab ⟨by rw[e],by rw[e];exact dB.1 h1⟩]
   show some (zA.ptr HA.next 0)=some (zA.ptr (if d=d then HA.next else ν d) 0)
   rw[yab rfl]
  ·rename_i e
   rw[yaa (fun hh=>e (by injection hh.1 with e1;exact e1.symm))]
   have hm:=zy8 hj
   unfold z3y at h3;rw[cG,ycb]at h3;have:=h3 _ hm
   simp only[iB]at this;have hne:p.1≠d:=by
    intro e2;rw[yab (pB.2 e2)]at this
    exact e (pB.1 this)
   show Tm.get tm j=some (zA.ptr (if p.1=d then HA.next else ν p.1) p.2)
   rw[yaa hne];exact h.ads j p hj
 ·intro c m hc
  have hc:(st.lo.set d l).get c=some m:=hc
  rw[Tr.get_set]at hc;show X0 (if c=d then HA.next else ν c)=none/\C.base<=(if c=d then HA.next else ν c)/\∃c',(if (if c=d then HA.next else ν c)=HA.next then some (qA.cells (Tr.ofList l) (aA l) none)else X (if c=d then HA.next else ν c))=some (.cells c' m.length none)/\∀j a,m[j]?=some a->c'.get j=some a
  split at hc
  ·rename_i e
   cases hc;simp only[e,if_true];refine⟨?_,h.ov.base,Tr.ofList l,by rw[gC],fun j a hj=>by rw[Tr.get_ofList];exact hj⟩
   cases hq:X0 HA.next with
   | none=>rfl
   | some z=>have:=h.le _ _ hq;rw[hx]at this;cases this
  ·rename_i e
   simp only[yaa e];obtain⟨g1,g2,c',g3,g4⟩:=h.lo c m hc
   refine⟨g1,g2,c',?_,g4⟩
   rw[yaa,g3];intro e2;rw[e2,hx]at g3;cases g3
 ·intro c c' m m' hc hc' he
  have hc:(st.lo.set d l).get c=some m:=hc
  have hc':(st.lo.set d l).get c'=some m':=hc'
  have he:(if c=d then HA.next else ν c)=(if c'=d then HA.next else ν c'):=he
  rw[Tr.get_set]at hc hc'
  split at hc<;>split at hc'
  ·rename_i e1 e2;rw[e1,e2]
  ·rename_i e1 e2
   rw[yab e1,yaa e2]at he;obtain⟨_,_,_,g3,_⟩:=h.lo c' m' hc'
   rw[<- he,hx]at g3;cases g3
  ·rename_i e1 e2
   rw[yaa e1,yab e2]at he;obtain⟨_,_,_,g3,_⟩:=h.lo c m hc
   rw[he,hx]at g3;cases g3
  ·rename_i e1 e2
   rw[yaa e1,yaa e2]at he;exact h.inj c c' m m' hc hc' he
def fE.setLo(h:fE C.base X0 kf ν X st tm HA t){d:Nat}{l l':List zA}{c':Tr zA}(h1:st.lo.get d=some l)(h2:l'.length=l.length)(h3:∀j a,l'[j]?=some a->c'.get j=some a) :
  ∃X',fE C.base X0 kf ν X' ⟨st.tm,st.ad,st.lo.set d l',st.lit⟩ tm (setBlk HA (ν d) (.cells c' l.length none)) t:=by
 obtain⟨g1,g2,c,g3,g4⟩:=h.lo d l h1
 refine⟨_,h.ov.setX g3 _,?_,h.k,h.kA,h.tms,h.ads,?_,?_⟩
 ·intro b y hb
  show(if b=ν d then _ else X b)=some y
  rw[yaa]
  ·exact h.le b y hb
  ·intro e;rw[e,g1]at hb;cases hb
 ·intro e m he
  have he:(st.lo.set d l').get e=some m:=he
  rw[Tr.get_set]at he;split at he
  ·rename_i e1
   cases he;subst e1;exact⟨g1,g2,c',by show(if ν e=ν e then _ else _)=_;rw[yab rfl,h2],h3⟩
  ·rename_i e1
   obtain⟨k1,k2,k3,k4,k5⟩:=h.lo e m he
   refine⟨k1,k2,k3,?_,k5⟩
   show(if ν e=ν d then _ else X (ν e))=_
   rw[yaa,k4];intro e2;exact e1 (h.inj e d m l he h1 e2)
 ·intro e e' m m' he he' hv
  have he:(st.lo.set d l').get e=some m:=he
  have he':(st.lo.set d l').get e'=some m':=he'
  rw[Tr.get_set]at he he'
  have x1:∃q,st.lo.get e=some q:=by
   split at he
   ·rename_i e1;rw[e1];exact⟨l,h1⟩
   ·exact⟨m,he⟩
  have x2:∃q,st.lo.get e'=some q:=by
   split at he'
   ·rename_i e1;rw[e1];exact⟨l,h1⟩
   ·exact⟨m',he'⟩
  exact h.inj e e' _ _ x1.choose_spec x2.choose_spec hv
def fE.later(h:fE C.base X0 kf ν X st tm HA t){X':Xt}{HA':xA}{t':Tr qA}(ho:Ov C.base t' X' HA')(hx:XLe X X'):fE C.base X0 kf ν X' st tm HA' t':=
 ⟨ho,h.le.trans hx,h.k,h.kA,h.tms,h.ads,fun d l hd=>by
  obtain⟨g1,g2,c,g3,g4⟩:=h.lo d l hd
  exact⟨g1,g2,c,hx _ _ g3,g4⟩,h.inj⟩
def zbw{ty:Nat}{v:zA}(h:fitB C ty v=true):z16 C ty v:=by
 unfold fitB at h;unfold z16
 cases hy:C.tys.get ty with
 | none=>trivial
 | some y=>
  rw[hy]at h;simp only at h ⊢
  unfold fitD
  cases hd:y.desc<;>rw[hd]at h<;>simp only at h ⊢
  case bool=>
   have:=pB.1 h
   cases v<;>simp only[zA.tag]at this<;>first
    | exact⟨_,rfl⟩
    | (cases this;done)
  case int k=>
   cases v<;>simp only[zA.asIntK]at h<;>first
    | exact⟨_,by rw[nI.1 h]⟩
    | (cases h;done)
  case string=>
   have:=pB.1 h
   cases v<;>simp only[zA.tag]at this<;>first
    | exact⟨_,rfl⟩
    | (cases this;done)
def zhv{ty:Nat}{v:zA}(h:(!Nat.ble (uG C ty) 2)=true):z16 C ty v:=by
 unfold z16;unfold uG at h
 cases hy:C.tys.get ty with
 | none=>trivial
 | some y=>
  rw[hy]at h;simp only at h ⊢
  unfold fitD
  cases hd:y.desc<;>rw[hd]at h<;>first
   | trivial
   | (simp only[rD.tag]at h;exact absurd h (by decide))
def qW:∀(zs l:List zA) (pre:List zA),aK zs l=true->pL zs (cellsOf (pre++l)) pre.length=l:=by
 intro zs;induction zs with
 | nil=>intro l pre h;cases l with
  | nil=>rfl
  | cons a l=>cases h
 | cons z zs ih=>
  intro l pre h
  cases l with
  | nil=>cases h
  | cons a l=>
   unfold aK at h;rw[ybb]at h;show zv9 z (cellsOf (pre++a::l)) pre.length::pL zs (cellsOf (pre++a::l)) (pre.length+1)=a::l
   have e2:=ih l (pre++[a]) h.2
   rw[ybz]at e2;simp only[List.cons_append,yah,ybg,ybn,ybx]at e2;rw[e2];congr 1
   have hg:(pre++a::l)[pre.length]?=some a:=by simp
   have h1:=h.1
   cases z<;>simp only[z15]at h1<;>simp only[zv9,cellsOf,zd7,z1p,z5g,zqx,hg]<;>try (cases h1;done)
   case bool=>
    have:=pB.1 h1
    cases a<;>simp only[zA.tag]at this<;>first
     | rfl
     | (cases this;done)
   case int k _=>
    cases a<;>simp only[zA.asIntK]at h1<;>first
     | (rw[nI.1 h1];done)
     | (cases h1;done)
   case str=>
    have:=pB.1 h1
    cases a<;>simp only[zA.tag]at this<;>first
     | rfl
     | (cases this;done)
def zoj{ty:Nat}{v:zA}{K:zA->T}(h:pA C.base W J (zuh C ty v K) t Q):z16 C ty v/\pA C.base W J (K v) t Q:=by
 unfold zuh at h;unfold z16;have agg:∀zs,pA C.base W J (bif Nat.ble (aA zs) 40 then .asG zs v fun X=>K (.agg (pL zs X 0))else K v) t Q->pA C.base W J (K v) t Q:=by
  intro zs h;rw[iB]at h;split at h
  ·have h:cD (zs7 zs v) fun X=>pA C.base W J (K (.agg (pL zs X 0))) t Q:=h
   rw[cN]at h;obtain⟨X,h1,h2⟩:=h
   unfold zs7 at h1;simp only[uA,zB]at h1;obtain⟨l,h3,h4,h5⟩:=h1
   cases h5;have:=qW zs l [] h4
   simp only[yah,ybx]at this;rw[this]at h2;rw[bU.1 h3];exact h2
  ·exact h
 cases hy:C.tys.get ty with
 | none=>rw[hy]at h;exact⟨trivial,h⟩
 | some y=>
  rw[hy]at h;simp only at h ⊢
  unfold fitD
  cases hd:y.desc<;>rw[hd]at h<;>simp only at h ⊢
  case bool=>
   have h:cD v.asBool fun n=>pA C.base W J (K (.bool n)) t Q:=h
   rw[cN]at h;obtain⟨b,h1,h2⟩:=h
   rw[eQ.1 h1];exact⟨⟨b,rfl⟩,h2⟩
  case int k=>
   have h:cD (z6f k v) fun n=>pA C.base W J (K (.int k n)) t Q:=h
   rw[cN]at h;obtain⟨b,h1,h2⟩:=h
   unfold z6f at h1;simp only[uA,zB]at h1;obtain⟨p,h3,h4,h5⟩:=h1
   cases h5;rw[hO.1 h3,nI.1 h4];exact⟨⟨_,rfl⟩,h2⟩
  case string=>
   have h:cD v.asStr fun n=>pA C.base W J (K (.str n)) t Q:=h
   rw[cN]at h;obtain⟨b,h1,h2⟩:=h
   rw[iO.1 h1];exact⟨⟨b,rfl⟩,h2⟩
  all_goals first
   | exact⟨trivial,agg _ h⟩
   | exact⟨trivial,h⟩
def aW{g lt:Bool}{v:zA}{K:zA->Bool->T}(h:pA C.base W J (ze5 g lt v K) t Q):∃lt',pA C.base W J (K v lt') t Q:=by
 unfold ze5 at h
 cases g with
 | false=>exact⟨lt,h⟩
 | true=>
  cases lt with
  | true=>exact⟨true,h⟩
  | false=>
   simp only[cond_true,cond_false]at h;rw[jD]at h;obtain⟨b,h1,h2⟩:=h
   rw[eQ.1 h1];have h2:if b=true then pA C.base W J (K (.bool true) true) t Q else pA C.base W J (K (.bool false) true) t Q:=h2
   cases b with
   | true=>exact⟨true,h2⟩
   | false=>exact⟨true,h2⟩
def zb9(h:fE C.base X0 kf ν X st tm HA t){g:Option (Nat × Bool)}{all:Array Oper}{w:Bool}(hw:jE g all st.tm=some w):jE g all tm=some w:=by
 unfold jE zto at hw ⊢
 cases g with
 | none=>exact hw
 | some jw=>
  simp only[zij]at hw ⊢
  rw[uA]at hw ⊢
  obtain⟨d,h1,hw⟩:=hw
  refine⟨d,h1,?_⟩
  rw[uA]at hw ⊢
  obtain⟨v,h2,hw⟩:=hw
  exact⟨v,h.tms _ _ h2,hw⟩
def SK (C:oA)(W J:fG)(X0:Xt)(kf:Nat)(Q:bB)(κ:KT)(m:Tm->xA->wB):Prop:=∀st tm HA t X ν,fE C.base X0 kf ν X st tm HA t->pA C.base W J (κ st) t Q->xC C.base X0 Q (m tm HA)
def xC.norm{ty:Nat}{v:zA}{K:zA->wB}(hf:z16 C ty v)(h:xC C.base X0 Q (K v)):xC C.base X0 Q (qI C ty v K):=by
 obtain⟨u,t',HA',X',h1,h2⟩:=h
 exact⟨u,t',HA',X',qK.2 ⟨hf,h1⟩,h2⟩
def xC.ob{α:Type}{x:Option α}{a:α}{K:α->wB}(hx:x=some a)(h:xC C.base X0 Q (K a)):xC C.base X0 Q (Am.ob x K):=by subst hx;exact h
def zu3(hW:dO C A W){e eA:nC}{ae:lJ}(he:cM e eA)(ha:wV ν ae eA)(hst:fE C.base X0 kf ν X st tm HA t){la:List Nat}{all:Array Oper}{o:Oper}{κ:KT}{m:Tm->xA->wB}
  (hκ:∀st' tm' HA' t' X' ν',(la=[]->ν'=ν)->fE C.base X0 kf ν' X' st' tm' HA' t'->(∃v,tm'=putA n tm o.dst v)->pA C.base W J (κ st') t' Q->xC C.base X0 Q (m tm' HA'))
  (h:pA C.base W J (tH C la o.dst o.op e ae st.lo (kop C all n o e st κ) (klo C n o st κ)) t Q) :
  xC C.base X0 Q (vF (dC C A) ((aE o.op).f C eA HA) HA fun v H'=>qI C o.type v fun v=>m (putA n tm o.dst v) H'):=by
 refine tH_ok hW he ha hst.ov hst.lo h ?_ ?_ ?_ ?_ ?_
 ·intro v t' HA' X' ho hx hk
  have hk:pA C.base W J (zuh C o.type v fun v=>ze5 (zhn all.toList o.dst all.toList) (z09 o.op e st.lit) v fun v lt=>zoi n o.dst v lt st κ) t' Q:=hk
  obtain⟨h1,h2⟩:=zoj hk
  obtain⟨lt',h3⟩:=aW h2
  obtain⟨st',h4,h5⟩:=(hst.later ho hx).put h3
  exact xC.norm h1 (hκ _ _ _ _ _ _ (fun _=>rfl) h4 ⟨v,rfl⟩ h5)
 ·intro v t' HA' X' ho hx hk
  obtain⟨h1,h2⟩:=kJ.1 hk
  obtain⟨lt',h3⟩:=aW h2
  obtain⟨st',h4,h5⟩:=(hst.later ho hx).put h3
  exact xC.norm (zbw h1) (hκ _ _ _ _ _ _ (fun _=>rfl) h4 ⟨v,rfl⟩ h5)
 ·intro d off hk
  obtain⟨h1,h2⟩:=kJ.1 hk
  obtain⟨st',h4,h5⟩:=hst.putA h2
  exact xC.norm (zhv h1) (hκ _ _ _ _ _ _ (fun _=>rfl) h4 ⟨_,rfl⟩ h5)
 ·intro d l hd hk
  obtain⟨h1,h2⟩:=kJ.1 hk
  obtain⟨st',ν',X',h4,h5⟩:=hst.new h2
  have e:=zwp hd
  rw[e];refine xC.norm (zhv h1) (hκ _ _ _ _ _ _ (fun hl=>?_) h4 ⟨_,by rw[e]⟩ h5)
  rw[hl,e]at hd
  cases hd
 ·intro d l l' c' h1 h2 h3 hk
  obtain⟨h4,h5⟩:=kJ.1 hk
  obtain⟨X',h6⟩:=hst.setLo h1 h2 h3
  obtain⟨st',h7,h8⟩:=h6.put h5
  exact xC.norm (zbw h4) (hκ _ _ _ _ _ _ (fun _=>rfl) h7 ⟨_,rfl⟩ h8)
def zhf(h:fE C.base X0 kf ν X st tm HA t):cM (.now st.tm) (.now tm)/\wV ν (.now st.ad) (.now tm):=⟨h.tms,h.ads⟩
def z47(hW:dO C A W){la:List Nat}{all:Array Oper}{κ:KT}{m:Tm->xA->wB}(hκ:SK C W J X0 kf Q κ m):∀(l:List Oper),SK C W J X0 kf Q (tops C la all n κ l) (qJ C (dC C A) all n m l):=by
 intro l;induction l with
 | nil=>exact hκ
 | cons o l ih=>
  intro st tm HA t X ν hst h;have h:pA C.base W J (lB (jE o.guard all st.tm) fun w=>Bool.rec (motive:=fun _=>T) (zoi n o.dst tD false st (tops C la all n κ l))
   (tH C la o.dst o.op (.now st.tm) (.now st.ad) st.lo (kop C all n o (.now st.tm) st (tops C la all n κ l)) (klo C n o st (tops C la all n κ l))) w) t Q:=h
  rw[jD]at h;obtain⟨w,h1,h2⟩:=h
  rw[gS];refine xC.ob (zb9 hst h1) ?_
  cases w with
  | false=>
   rw[yaa (by simp)]
   obtain⟨st',h3,h4⟩:=hst.put h2
   exact ih _ _ _ _ _ _ h3 h4
  | true=>
   rw[yab rfl];exact zu3 hW (zhf hst).1 (zhf hst).2 hst (fun st' tm' HA' t' X' ν' _ hs _ hw=>ih _ _ _ _ _ _ hs hw) h2
end
end
section
structure zgm (ν:Nat->Nat) (old:lF) (oldA:Tm):Prop where
 tms:∀i v,old.tm.get i=some v->oldA.get i=some v
 ads:∀i p,pH i old.ad=some p->oldA.get i=some (.ptr (ν p.1) p.2)
def fE.old{base:Nat}{X0 X:Xt}{kf:Nat}{ν:Nat->Nat}{st:lF}{tm:Tm}{HA:xA}{t:Tr qA}(h:fE base X0 kf ν X st tm HA t):zgm ν st tm:=⟨h.tms,h.ads⟩
def Tm.get_cut{tm:Tm}{i:Nat}:tm.cut.get i=if i<tm.k then tm.get i else none:=by
 unfold Tm.cut Tm.get;simp only[bG];by_cases h:Nat.blt i tm.k=true
 ·rw[yab h,yab h,yab (dB.1 h)]
 ·rw[yaa h,yaa (fun e=>h (dB.2 e))];rfl
def zy9{k i:Nat}:∀ {l:List (Nat × Nat × Nat)},pH i (nC.adCut k l)=if i<k then pH i l else none:=by
 intro l;induction l with
 | nil=>show none=_;split<;>rfl
 | cons a l ih=>
  unfold nC.adCut at ih ⊢
  rw[List.filter_cons];split
  ·rename_i ha
   have ha:=dB.1 ha
   rw[vS,ih,vS];split
   ·rename_i e;rw[yab (by omega)]
   ·rfl
  ·rename_i ha
   rw[ih,vS];split
   ·rename_i hi
    rw[yaa];intro e;exact ha (dB.2 (by omega))
   ·rfl
section
variable {W J:fG}{t:Tr qA}{X X0:Xt}{HA:xA}{C:oA}{A:Tr aC}{ν:Nat->Nat}{Q:bB}{kf n:Nat}{st old:lF}{tm oldA:Tm}{all:Array Oper}{olds:List (Nat × List Nat)}
def fE.cut(h:fE C.base X0 kf ν X st tm HA t):fE C.base X0 kf ν X st.cut tm.cut HA t:=by
 refine⟨h.ov,h.le,h.k,h.kA,?_,?_,h.lo,h.inj⟩
 ·intro i v hi
  have hi:st.tm.cut.get i=some v:=hi
  rw[Tm.get_cut]at hi ⊢
  split at hi
  ·rename_i e;rw[yab (by rw[h.kA,<- h.k];exact e)];exact h.tms i v hi
  ·cases hi
 ·intro i p hi
  have hi:pH i (nC.adCut st.tm.k st.ad)=some p:=hi
  rw[zy9]at hi;rw[Tm.get_cut];split at hi
  ·rename_i e;rw[yab (by rw[h.kA,<- h.k];exact e)];exact h.ads i p hi
  ·cases hi
def eS(h:fE C.base X0 kf ν X st tm HA t)(ho:zgm ν old oldA){os:List Nat}{op:Op}:cM (zms st old os op) (.mixed tm oldA os (iF op))/\wV ν (z04 st old os op) (.mixed tm oldA os (iF op)):=by
 constructor
 ·intro i v hi
  have hi:(bif pF i (iF op)then Tm.get (bif pF i os then old.tm else st.tm) i else none)=some v:=hi
  show(bif pF i (iF op)then Tm.get (bif pF i os then oldA else tm) i else none)=some v
  cases hm:pF i (iF op)with
  | false=>rw[hm]at hi;cases hi
  | true=>
   rw[hm]at hi;simp only[cond_true]at hi ⊢
   cases hq:pF i os with
   | true=>rw[hq]at hi;exact ho.tms i v hi
   | false=>rw[hq]at hi;exact h.tms i v hi
 ·intro i p hi
  have hi:(bif pF i (iF op)then pH i (bif pF i os then old.ad else st.ad)else none)=some p:=hi
  show(bif pF i (iF op)then Tm.get (bif pF i os then oldA else tm) i else none)=_
  cases hm:pF i (iF op)with
  | false=>rw[hm]at hi;cases hi
  | true=>
   rw[hm]at hi;simp only[cond_true]at hi ⊢
   cases hq:pF i os with
   | true=>rw[hq]at hi;exact ho.ads i p hi
   | false=>rw[hq]at hi;exact h.ads i p hi
def zal(ho:zgm ν old oldA){κ:KT}{kd:Tm->wB}(hκ:∀st' tm',fE C.base X0 kf ν X st' tm' HA t->pA C.base W J (κ st') t Q->xC C.base X0 Q (kd tm')) :
  ∀(l:List Nat) (st:lF) (tm:Tm),fE C.base X0 kf ν X st tm HA t->pA C.base W J (tM C all n old olds κ l st) t Q->xC C.base X0 Q (pG C HA all n oldA olds kd l tm):=by
 intro l;induction l with
 | nil=>exact hκ
 | cons i l ih=>
  intro st tm hst h;have h:pA C.base W J (lB (lC all.toList i) fun o=>lB (jE o.guard all st.tm) fun w=>Bool.rec (motive:=fun _=>T) (zoi n o.dst tD false st (tM C all n old olds κ l))
   (tL C o.op (zms st old (kD i olds) o.op) (z04 st old (kD i olds) o.op) st.lo (kop C all n o (zms st old (kD i olds) o.op) st (tM C all n old olds κ l))) w) t Q:=h
  rw[jD]at h;obtain⟨o,h0,h⟩:=h
  rw[jD]at h;obtain⟨w,h1,h2⟩:=h
  rw[fX];refine xC.ob h0 (xC.ob (zb9 hst h1) ?_)
  cases w with
  | false=>
   rw[yaa (by simp)]
   obtain⟨st',h3,h4⟩:=hst.put h2
   exact ih _ _ h3 h4
  | true=>
   rw[yab rfl];refine Exists.elim (z5a (R:=fun v=>xC C.base X0 Q (qI C o.type v fun v=>pG C HA all n oldA olds kd l (putA n tm o.dst v))) (eS hst ho).1 (eS hst ho).2 hst.ov hst.lo h2 ?_ ?_ ?_) (fun v h=>xC.ob h.1 h.2)
   ·intro v hk
    have hk:pA C.base W J (zuh C o.type v fun v=>ze5 (zhn all.toList o.dst all.toList) (z09 o.op (zms st old (kD i olds) o.op) st.lit) v fun v lt=>zoi n o.dst v lt st (tM C all n old olds κ l)) t Q:=hk
    obtain⟨g1,g2⟩:=zoj hk
    obtain⟨lt',g3⟩:=aW g2
    obtain⟨st',g4,g5⟩:=hst.put g3
    exact xC.norm g1 (ih _ _ g4 g5)
   ·intro v hk
    obtain⟨g1,g2⟩:=kJ.1 hk
    obtain⟨lt',g3⟩:=aW g2
    obtain⟨st',g4,g5⟩:=hst.put g3
    exact xC.norm (zbw g1) (ih _ _ g4 g5)
   ·intro d off hk
    obtain⟨g1,g2⟩:=kJ.1 hk
    obtain⟨st',g4,g5⟩:=hst.putA g2
    exact xC.norm (zhv g1) (ih _ _ g4 g5)
def zug(ho:zgm ν old oldA)(hst:fE C.base X0 kf ν X st tm HA t){k:T}{kd:wB}(hk:pA C.base W J k t Q->xC C.base X0 Q kd) :
  ∀(l:List Nat),pA C.base W J (yP C all old olds st k l) t Q->xC C.base X0 Q (iI C HA all oldA olds tm kd l):=by
 intro l;induction l with
 | nil=>exact hk
 | cons i l ih=>
  intro h;have h:pA C.base W J (lB (lC all.toList i) fun o=>lB o.dst fun d=>lB (jE o.guard all st.tm) fun w=>Bool.rec (motive:=fun _=>T) (yP C all old olds st k l)
   (lB (st.tm.get d) fun u=>gdT (fitB C o.type u) (tL C o.op (zms st old (kD i olds) o.op) (z04 st old (kD i olds) o.op) st.lo ⟨fun v=>.ite (same 10 v u) (yP C all old olds st k l) .fail,fun v=>.ite (same 10 v u) (yP C all old olds st k l) .fail,fun _ _=>.fail⟩)) w) t Q:=h
  rw[jD]at h;obtain⟨o,h0,h⟩:=h
  rw[jD]at h;obtain⟨d,h1,h⟩:=h
  rw[jD]at h;obtain⟨w,h2,h⟩:=h
  rw[pZ];refine xC.ob h0 (xC.ob h1 (xC.ob (zb9 hst h2) ?_))
  cases w with
  | false=>rw[yaa (by simp)];exact ih h
  | true=>
   rw[yab rfl];simp only[jD,kJ]at h;obtain⟨u,h3,h4,h5⟩:=h
   have uE:∀v,pA C.base W J (.ite (same 10 v u) (yP C all old olds st k l) .fail) t Q->xC C.base X0 Q (qI C o.type v fun v=>ob (tm.get d) fun u=>jA (same 10 v u) (iI C HA all oldA olds tm kd l)):=by
    intro v hv;have hv:if same 10 v u=true then pA C.base W J (yP C all old olds st k l) t Q else False:=hv
    split at hv
    ·rename_i hs
     refine xC.norm ?_ (xC.ob (hst.tms _ _ h3) ?_)
     ·rw[zl4 _ _ _ hs];exact zbw h4
     ·rw[hs];exact ih hv
    ·exact hv.elim
   obtain⟨v,h6,h7⟩:=z5a (R:=fun v=>xC C.base X0 Q (qI C o.type v fun v=>ob (tm.get d) fun u=>jA (same 10 v u) (iI C HA all oldA olds tm kd l))) (eS hst ho).1 (eS hst ho).2 hst.ov hst.lo h5 uE uE (fun _ _ h=>h.elim)
   exact xC.ob h6 h7
def zzt(hst:fE C.base X0 kf ν X st tm HA t){h:Nat}{o:Oper}{w:Bool}(hw:iN C all h o st.tm=some w):iN C all h o tm=some w:=by
 unfold iN at hw ⊢
 rw[uA]at hw ⊢
 obtain⟨u,h1,h2⟩:=hw
 exact⟨u,zb9 hst h1,h2⟩
def zsq{e e':nC}(he:cM e e'){op:Op}{ef:Eff}(h:lO op e=some ef):lO op e'=some ef:=by
 cases op<;>first | (cases h;done) | skip
 case store t a x=>
  simp only[lO,uA]at h ⊢
  obtain⟨a,h1,v,h2,h⟩:=h
  exact⟨a,iC he h1,v,iC he h2,h⟩
 case mapUpdate t m k x=>
  simp only[lO,uA]at h ⊢
  obtain⟨a,h1,v,h2,u,h3,h⟩:=h
  exact⟨a,iC he h1,v,iC he h2,u,iC he h3,h⟩
 case insert t m k x=>
  simp only[lO,uA]at h ⊢
  obtain⟨a,h1,v,h2,u,h3,h⟩:=h
  exact⟨a,iC he h1,v,iC he h2,u,iC he h3,h⟩
def z5b{op:Op}{e:nC}{ae:lJ}{ef:Eff}(h:tEff op e ae=some ef):lO op e=some ef:=by
 cases op<;>first | exact h | skip
 case store t a x=>
  unfold tEff at h;simp only[]at h;split at h
  ·cases h
  ·exact h
def zz3(hst:fE C.base X0 kf ν X st tm HA t)(ho:zgm ν old oldA){l:List Nat}{es:List Eff}(h:zz4 all old olds st l=some es):zsp all oldA olds tm l=some es:=by
 refine lX l (fun i ef h=>?_) h
 unfold zev;simp only[uA,zB]at h ⊢
 obtain⟨o,h1,w,h2,h3,h4⟩:=h
 exact⟨o,h1,w,zb9 hst h2,h3,zsq (eS hst ho).1 (z5b h4)⟩
def zq7(hW:dO C A W)(ho:zgm ν old oldA){κ:KT}{m:Tm->xA->wB}(hκ:SK C W J X0 kf Q κ m) :
  ∀(l:List xE) (st:lF) (tm:Tm) (HA:xA) (t:Tr qA) (X:Xt),fE C.base X0 kf ν X st tm HA t->pA C.base W J (xR C all n old olds κ l st) t Q->xC C.base X0 Q (lG C (dC C A) all n oldA olds m l tm HA):=by
 intro l;induction l with
 | nil=>intro st tm HA t X hst h;exact hκ _ _ _ _ _ _ hst h
 | cons s l ih=>
  intro st tm HA t X hst h
  cases hg:rN all s with
  | true=>
   have h:pA C.base W J (Bool.rec (motive:=fun _=>T) _ (gdT (sP C all) (lB (zz4 all old olds st s.again) fun es=>.heavy (vM C es) fun _=>tM C all n old olds (xR C all n old olds κ l) s.lights st)) (rN all s)) t Q:=h
   rw[hg]at h;have h:pA C.base W J (gdT (sP C all) (lB (zz4 all old olds st s.again) fun es=>.heavy (vM C es) fun _=>tM C all n old olds (xR C all n old olds κ l) s.lights st)) t Q:=h
   rw[kJ]at h;obtain⟨h0,h⟩:=h
   rw[jD]at h;obtain⟨es,h1,h⟩:=h
   have h:=h HA.next hst.ov.nextT hst.ov.base
   rw[cN]at h;obtain⟨⟨v,H'⟩,h2,h3⟩:=h
   obtain⟨HA',h4,h5⟩:=ztu _ _ _ _ _ hst.ov h2
   have h6:jP C es HA=some HA':=by
    unfold vM at h4;rw[uA]at h4;obtain⟨y,g1,g2⟩:=h4
    cases g2
    exact g1
   rw[oV hg];unfold zkb;rw[h0];show xC C.base X0 Q (ob (zsp all oldA olds tm s.again) fun es=>ob (jP C es HA) fun H'=>pG C H' all n oldA olds (fun tm=>lG C (dC C A) all n oldA olds m l tm H') s.lights tm)
   refine xC.ob (zz3 hst ho h1) (xC.ob h6 ?_)
   exact zal ho (fun st' tm' hs hw=>ih _ _ _ _ _ hs hw) _ _ _ (hst.later h5 (XLe.refl _)) h3
  | false=>
  have h:pA C.base W J (Bool.rec (motive:=fun _=>T) (lB (lC all.toList (hvI all s.heavy)) fun o=>lB (iN C all s.heavy o st.tm) fun w=>
   (fun cont:KT=>Bool.rec (motive:=fun _=>T) (zoi n o.dst tD false st cont)
    (tH C [] o.dst o.op (zms st old (kD (hvI all s.heavy) olds) o.op) (z04 st old (kD (hvI all s.heavy) olds) o.op) st.lo (kop C all n o (zms st old (kD (hvI all s.heavy) olds) o.op) st cont) (klo C n o st cont)) w)
   (fun st'=>yP C all old olds st' (tM C all n old olds (xR C all n old olds κ l) s.lights st') s.again)) _ (rN all s)) t Q:=h
  rw[hg]at h;have h:pA C.base W J (lB (lC all.toList (hvI all s.heavy)) fun o=>lB (iN C all s.heavy o st.tm) fun w=>
   (fun cont:KT=>Bool.rec (motive:=fun _=>T) (zoi n o.dst tD false st cont)
    (tH C [] o.dst o.op (zms st old (kD (hvI all s.heavy) olds) o.op) (z04 st old (kD (hvI all s.heavy) olds) o.op) st.lo (kop C all n o (zms st old (kD (hvI all s.heavy) olds) o.op) st cont) (klo C n o st cont)) w)
   (fun st'=>yP C all old olds st' (tM C all n old olds (xR C all n old olds κ l) s.lights st') s.again)) t Q:=h
  rw[jD]at h;obtain⟨o,h0,h⟩:=h
  rw[jD]at h;obtain⟨w,h1,h2⟩:=h
  rw[bT hg];refine xC.ob h0 (xC.ob (zzt hst h1) ?_)
  have uE:∀st' tm' HA' t' X' ν',ν'=ν->fE C.base X0 kf ν' X' st' tm' HA' t'->pA C.base W J (yP C all old olds st' (tM C all n old olds (xR C all n old olds κ l) s.lights st') s.again) t' Q →
    xC C.base X0 Q (iI C HA' all oldA olds tm' (pG C HA' all n oldA olds (fun tm=>lG C (dC C A) all n oldA olds m l tm HA') s.lights tm') s.again):=by
   intro st' tm' HA' t' X' ν' e hs hw;subst e;exact zug ho hs (fun hl=>zal ho (fun st2 tm2 hs2 hw2=>ih _ _ _ _ _ hs2 hw2) _ _ _ hs hl) _ hw
  cases w with
  | false=>
   simp only[ybq,if_false];obtain⟨st',h3,h4⟩:=hst.put h2
   exact uE _ _ _ _ _ _ rfl h3 h4
  | true=>
   simp only[if_true];exact zu3 (m:=fun tm' HA'=>iI C HA' all oldA olds tm' (pG C HA' all n oldA olds (fun tm=>lG C (dC C A) all n oldA olds m l tm HA') s.lights tm') s.again)
    hW (eS hst ho).1 (eS hst ho).2 hst (fun st' tm' HA' t' X' ν' hn hs _ hw=>uE _ _ _ _ _ _ (hn rfl) hs hw) h2
def zq9(hW:dO C A W){la:List Nat}{fn id:Nat}{d:Bool}{κ:KT}{m:Tm->xA->wB}(hκ:SK C W J X0 kf Q κ m):SK C W J X0 kf Q (zt9 C la fn n κ id all d) (xU C (dC C A) fn n m id all d):=by
 intro st tm HA t X ν hst h
 cases d with
 | false=>exact z47 hW hκ _ _ _ _ _ _ _ hst.cut h
 | true=>
  have h:pA C.base W J (lB (ob (C.plans.get fn) fun t=>t.get id) fun p=>gdT (vN all p) (tM C all n st.cut p.olds (xR C all n st.cut p.olds κ p.stages) p.first st.cut)) t Q:=h
  simp only[jD,kJ]at h;obtain⟨p,h1,h2,h3⟩:=h
  show xC C.base X0 Q (ob (ob (C.plans.get fn) fun t=>t.get id) fun p=>jA (vN all p) (pG C HA all n tm.cut p.olds (fun tm'=>lG C (dC C A) all n tm.cut p.olds m p.stages tm' HA) p.first tm.cut))
  refine xC.ob h1 ?_
  rw[h2];exact zal hst.cut.old (fun st' tm' hs hw=>zq7 hW hst.cut.old hκ _ _ _ _ _ _ hs hw) _ _ _ hst.cut h3
end
structure PtD where
 p:PI
 m:Tm->xA->wB
def rJ(C:oA)(φ:vG)(fn n:Nat):aC->Kt->List PtD
 | .skip,_=>[]
 | .region _ _ _,_=>[]
 | .seq a b,κ=>rJ C φ fn n a ⟨bC C φ fn n b κ,κ.exit,κ.ret⟩++rJ C φ fn n b κ
 | .cond _ x y,κ=>rJ C φ fn n x κ++rJ C φ fn n y κ
 | .block id c,κ=>rJ C φ fn n c ⟨κ.norm,fun i tm H=>Bool.rec (motive:=fun _=>wB) (κ.exit i tm H) (κ.norm tm H) (Nat.beq id i),κ.ret⟩
 | .loop p c,κ=>⟨p,bC C φ fn n (.loop p c) κ⟩::rJ C φ fn n c ⟨bC C φ fn n (.loop p c) κ,κ.exit,κ.ret⟩
 | .exit _,_=>[]
 | .ret,_=>[]
 | .cut p c,κ=>⟨p,bC C φ fn n (.cut p c) κ⟩::rJ C φ fn n c κ
 | .range i pl fo ps id ops c,_=>⟨⟨i,eC pl ps.toList,[]⟩,z2r C φ fn n ⟨i,pl,fo,ps,id,ops,c⟩⟩::rJ C φ fn n c rdK
def z28(base kf:Nat)(d:PtD)(vals:List zA)(t:Tr qA)(Q:bB):Prop:=∀X0 X HA tm ν,fE base X0 kf ν X (ztg kf d.p vals) tm HA t->xC base X0 Q (d.m tm HA)
def JOk (base kf:Nat)(J:fG)(l:List PtD):Prop:=∀d∈l,∀vals t Q,J d.p.id vals t Q->z28 base kf d vals t Q
structure SKt (C:oA) (W J:fG) (X0:Xt) (kf:Nat) (Q:bB) (κ:KtT) (m:Kt):Prop where
 norm:SK C W J X0 kf Q κ.norm m.norm
 exit:∀i,SK C W J X0 kf Q (κ.exit i) (m.exit i)
 ret:SK C W J X0 kf Q κ.ret m.ret
def zg2{d:Nat}{l:List zA}{st:lF}:∀ {ll:List (Nat × Nat)} {b rest:List zA},ze2 st ll=some b->(zzl ll (b++rest)).get d=some l->st.lo.get d=some l:=by
 intro ll;induction ll with
 | nil=>intro b rest _ h;rw[show zzl [] (b++rest)=.leaf from rfl,Tr.get_leaf]at h;cases h
 | cons p ll ih=>
  intro b rest hb h;have hb:(ob (pH p.1 st.ad) fun a=>jA (Nat.beq a.1 p.1&&Nat.beq a.2 0) (ob (st.lo.get p.1) fun l=>jA (Nat.beq (aA l) p.2) (ob (ze2 st ll) fun r=>some (eC l r))))=some b:=hb
  simp only[uA,zB]at hb;obtain⟨a,_,_,l0,h2,h3,r,h4,h5⟩:=hb
  cases h5;have h:((zzl ll (nL (eC l0 r++rest) p.2)).set p.1 (zes (eC l0 r++rest) p.2)).get d=some l:=h
  rw[pB,gC]at h3;rw[oG,rP,yO,<- h3,ybz,List.drop_left,List.take_left,Tr.get_set]at h;split at h
  ·rename_i e;cases h;rw[e];exact h2
  ·exact ih h4 h
def z0c{i:Nat}{q:Nat × Nat}{st:lF}:∀ {ll:List (Nat × Nat)} {b:List zA},ze2 st ll=some b->pH i (stAd ll)=some q->pH i st.ad=some q:=by
 intro ll;induction ll with
 | nil=>intro b _ h;cases h
 | cons p ll ih=>
  intro b hb h;have hb:(ob (pH p.1 st.ad) fun a=>jA (Nat.beq a.1 p.1&&Nat.beq a.2 0) (ob (st.lo.get p.1) fun l=>jA (Nat.beq (aA l) p.2) (ob (ze2 st ll) fun r=>some (eC l r))))=some b:=hb
  simp only[uA,zB,ybb,pB]at hb;obtain⟨a,h1,⟨h2,h3⟩,l0,_,_,r,h4,_⟩:=hb
  have h:pH i ((p.1,p.1,0)::stAd ll)=some q:=h
  rw[vS]at h;split at h
  ·rename_i e;cases h;rw[e];show pH p.1 st.ad=some (p.1,0);rw[h1,<- h2,<- h3]
  ·exact ih h4 h
def z0a{i:Nat}{v:zA}{st:lF}:∀ {pl:List Nat} {a rest:List zA},tF (fun i=>st.tm.get i) pl=some a->(wK pl (a++rest)).get i=some v->st.tm.get i=some v:=by
 intro pl;induction pl with
 | nil=>intro a rest _ h;rw[show wK [] (a++rest)=.leaf from rfl,Tr.get_leaf]at h;cases h
 | cons j pl ih=>
  intro a rest ha h;rw[pK,uA]at ha;obtain⟨u,h1,ha⟩:=ha
  rw[uA]at ha;obtain⟨r,h2,ha⟩:=ha
  cases ha;have h:((wK pl (r++rest)).set j u).get i=some v:=h
  rw[Tr.get_set]at h;split at h
  ·rename_i e;cases h;rw[e];exact h1
  ·exact ih h2 h
def Tm.get_kv{k i:Nat}{v:Tr zA}{u:zA}(h:Tm.get ⟨k,v,[]⟩ i=some u):i<k/\v.get i=some u:=by
 unfold Tm.get at h;rw[bG]at h;split at h
 ·rename_i e;exact⟨dB.1 e,h⟩
 ·cases h
def zqv{p:PI}{st:lF}{vals:List zA}(h:ze1 p st=some vals):∃a b,vals=a++b/\tF (fun i=>st.tm.get i) p.pl=some a/\ze2 st p.ll=some b/\a.length=p.pl.length:=by
 unfold ze1 at h;simp only[uA]at h;obtain⟨a,h1,b,h2,h3⟩:=h
 cases h3;refine⟨a,b,oG _ _,h1,h2,?_⟩
 have:∀(l:List Nat) (r:List zA),tF (fun i=>st.tm.get i) l=some r->r.length=l.length:=by
  intro l;induction l with
  | nil=>intro r h;cases h;rfl
  | cons x l ih=>
   intro r h;rw[pK,uA]at h;obtain⟨u,_,h⟩:=h
   rw[uA]at h;obtain⟨s,h5,h⟩:=h
   cases h;simp[ih _ h5]
 exact this _ _ h1
section
variable {W J:fG}{t:Tr qA}{X X0:Xt}{HA:xA}{C:oA}{A:Tr aC}{ν:Nat->Nat}{Q:bB}{kf n:Nat}{st:lF}{tm:Tm}
def fE.at(h:fE C.base X0 kf ν X st tm HA t){p:PI}{vals:List zA}(hv:ze1 p st=some vals):fE C.base X0 kf ν X (ztg kf p vals) tm HA t:=by
 obtain⟨a,b,rfl,h1,h2,h3⟩:=zqv hv
 have hd:nL (a++b) (aA p.pl)=b:=by rw[rP,gC,<- h3,List.drop_left]
 refine⟨h.ov,h.le,rfl,h.kA,?_,?_,?_,?_⟩
 ·intro i v hi
  exact h.tms i v (z0a h1 (Tm.get_kv hi).2)
 ·intro i q hi
  exact h.ads i q (z0c h2 hi)
 ·intro d l hl
  have hl:(zzl p.ll (nL (a++b) (aA p.pl))).get d=some l:=hl
  rw[hd]at hl;have hb:(zzl p.ll (b++[])).get d=some l:=by rw[ycd];exact hl
  exact h.lo d l (zg2 h2 hb)
 ·intro d d' l l' hl hl' he
  have hl:(zzl p.ll (nL (a++b) (aA p.pl))).get d=some l:=hl
  have hl':(zzl p.ll (nL (a++b) (aA p.pl))).get d'=some l':=hl'
  rw[hd]at hl hl'
  have hb:(zzl p.ll (b++[])).get d=some l:=by rw[ycd];exact hl
  have hb':(zzl p.ll (b++[])).get d'=some l':=by rw[ycd];exact hl'
  exact h.inj d d' l l' (zg2 h2 hb) (zg2 h2 hb') he
def zw6{tm:Tm}{i:Nat}{v:zA}(hv:tm.get i=some v):∀ {live:List Nat},i∈live->(zj5 tm live).get i=some v:=by
 intro live;induction live with
 | nil=>intro h;cases h
 | cons j live ih=>
  intro h;show(match tm.get j with | some v=>(zj5 tm live).set j v | none=>zj5 tm live:Tr zA).get i=some v
  by_cases e:i=j
  ·subst e;rw[hv];simp only[];rw[Tr.get_set,yab rfl]
  ·have:=ih ((ybs.1 h).resolve_left e)
   cases tm.get j with
   | none=>exact this
   | some u=>simp only[];rw[Tr.get_set,yaa e];exact this
def zz9{i:Nat}{v:zA}:∀ {pl:List Nat} {vals:List zA},(wK pl vals).get i=some v->i∈pl:=by
 intro pl;induction pl with
 | nil=>intro vals h;rw[show wK [] vals=.leaf from rfl,Tr.get_leaf]at h;cases h
 | cons j pl ih=>
  intro vals h
  cases vals with
  | nil=>rw[show wK (j::pl) []=.leaf from rfl,Tr.get_leaf]at h;cases h
  | cons u vals=>
   have h:((wK pl vals).set j u).get i=some v:=h
   rw[Tr.get_set]at h;split at h
   ·rename_i e;rw[e];exact yby
   ·exact ybr _ (ih h)
def z0b{i:Nat}{q:Nat × Nat}:∀ {ll:List (Nat × Nat)},pH i (stAd ll)=some q->i∈(List.rec (motive:=fun _=>List Nat) [] (fun a _ r=>a.1::r) ll:List Nat):=by
 intro ll;induction ll with
 | nil=>intro h;cases h
 | cons p ll ih=>
  intro h;have h:pH i ((p.1,p.1,0)::stAd ll)=some q:=h
  rw[vS]at h;split at h
  ·rename_i e;rw[e];exact yby
  ·exact ybr _ (ih h)
def fE.keep{p:PI}{vals:List zA}(hb:∀i,i∈p.kept->i<kf)(h:fE C.base X0 kf ν X (ztg kf p vals) tm HA t):fE C.base X0 kf ν X (ztg kf p vals) (Am.keep p.kept tm) HA t:=by
 have key:∀i v,i∈p.kept->tm.get i=some v->(Am.keep p.kept tm).get i=some v:=by
  intro i v hi hv;unfold Am.keep Tm.get;rw[bG,yab (dB.2 (by rw[h.kA];exact hb i hi))]
  exact zw6 hv hi
 refine⟨h.ov,h.le,rfl,h.kA,?_,?_,h.lo,h.inj⟩
 ·intro i v hi
  refine key i v ?_ (h.tms i v hi)
  unfold PI.kept;rw[oG];exact ydc _ (zz9 (Tm.get_kv hi).2)
 ·intro i q hi
  refine key i _ ?_ (h.ads i q hi)
  unfold PI.kept;rw[oG];exact ycf _ (z0b hi)
def zm1{l:List PtD}(hJ:JOk C.base kf J l){p:PI}{m:Tm->xA->wB}(hm:(⟨p,m⟩:PtD)∈l):SK C W J X0 kf Q (zr6 p) m:=by
 intro st tm HA t X ν hst h;unfold zr6 at h;rw[jD]at h;obtain⟨vals,h1,h2⟩:=h
 exact hJ _ hm vals t Q h2 _ _ _ _ _ (hst.at h1)
def z3v:SKt C W J X0 kf Q rdT rdK:=⟨fun _ tm HA t X _ hst h=>⟨_,t,HA,X,rfl,hst.ov,hst.le,h⟩,fun _ _ _ _ _ _ _ _ h=>h.elim,fun _ tm HA t X _ hst h=>⟨_,t,HA,X,rfl,hst.ov,hst.le,h⟩⟩
def z24(C:oA)(A:Tr aC)(W:fG):Prop:=∀l args t Q,(∀X HA,Ov C.base t X HA->xC C.base X Q (znq C A (yo+l) args HA))->W (yo+l) args t Q
def onX (X:Xt)(b:Nat)(y:qA):Xt:=fun c=>if c=b then some y else X c
def zjn{X:Xt}{b:Nat}{y:qA}(h:X b=none):XLe X (onX X b y):=by
 intro c z hc;unfold onX;rw[yaa (fun e=>by rw[e,h]at hc;cases hc)]
 exact hc
def Ov.under{base:Nat}(h:Ov base t X HA){b:Nat}{y:qA}(hb:t.get b=some y)(z:qA):Ov base (t.del b) (onX X b z) (Am.setBlk HA b z):=by
 refine⟨h.base,fun c hc=>?_,fun c u hc=>?_,fun c u hc=>?_⟩
 ·show(HA.t.set b z).get c=_
  unfold onX at hc;split at hc
  ·cases hc
  ·rename_i e;rw[Tr.get_set,yaa e,Tr.get_del,yaa e];exact h.same c hc
 ·show(HA.t.set b z).get c=_/\_
  unfold onX at hc;split at hc
  ·rename_i e;cases hc;subst e;exact⟨by rw[Tr.get_set,yab rfl],by rw[Tr.get_del,yab rfl],h.lt _ _ hb⟩
  ·rename_i e
   obtain⟨g1,g2,g3⟩:=h.ext c u hc
   exact⟨by rw[Tr.get_set,yaa e];exact g1,by rw[Tr.get_del,yaa e];exact g2,g3⟩
 ·rw[Tr.get_del]at hc
  split at hc
  ·cases hc
  ·exact h.lt _ _ hc
def Ov.back{base:Nat}(h:Ov base t X HA){b:Nat}{y:qA}(hb:X b=some y)(z:qA):Ov base (t.set b z) (fun c=>if c=b then none else X c) (Am.setBlk HA b z):=by
 obtain⟨g1,g2,g3⟩:=h.ext b y hb
 refine⟨h.base,fun c hc=>?_,fun c u hc=>?_,fun c u hc=>?_⟩
 ·show(HA.t.set b z).get c=_
  rw[Tr.get_set,Tr.get_set];split
  ·rfl
  ·rename_i e;rw[yaa e]at hc;exact h.same c hc
 ·show(HA.t.set b z).get c=_/\_
  split at hc
  ·cases hc
  ·rename_i e
   obtain⟨g1,g2,g3⟩:=h.ext c u hc
   exact⟨by rw[Tr.get_set,yaa e];exact g1,by rw[Tr.get_set,yaa e];exact g2,g3⟩
 ·rw[Tr.get_set]at hc
  split at hc
  ·rename_i e;rw[e];exact g3
  ·exact h.lt _ _ hc
def zdb{H:xA}{l:Nat}{r:wL}(hl:256<=l)(h:H.t.get l=some (.loop r)):dH H l=some r:=by
 unfold dH;rw[h,vA,Nat.ble_eq_true_of_le hl];rfl
def z0j{base kf n:Nat}{st:lF}{tm:Tm}{i:Nat}{pl ps:List Nat}{vals args:List zA}{X:Xt}{HA:xA}{t:Tr qA}(ho:Ov base t X HA)(hk:st.tm.k=kf)(hkA:tm.k=kf)
  (ht:∀i v,st.tm.get i=some v->tm.get i=some v) (hv:z3t pl st=some vals) (hok:tC (fun p=>Nat.blt p st.tm.k&&Nat.blt p n && !pF p pl) ps=true) (h1:ps.length<=1) (hl:args.length=ps.length) :
  ∃tm',uQ n ps args tm=some tm'/\fE base X kf (fun i=>i) X (ztg kf ⟨i,eC pl ps,[]⟩ (vals++args)) tm' HA t:=by
 have old:∀(pl:List Nat) (vals rest:List zA) j v,tF (fun i=>st.tm.get i) pl=some vals->(wK (pl++ps) (vals++rest)).get j=some v->(j∈pl/\tm.get j=some v)\/(wK ps rest).get j=some v:=by
  intro pl;induction pl with
  | nil=>intro vals rest j v h hj;cases h;exact Or.inr hj
  | cons a pl ih=>
   intro vals rest j v h hj;rw[pK,uA]at h;obtain⟨u,g1,h⟩:=h
   rw[uA]at h;obtain⟨us,g2,h⟩:=h
   cases h;have hj:((wK (pl++ps) (us++rest)).set a u).get j=some v:=hj
   rw[Tr.get_set]at hj;split at hj
   ·rename_i e;cases hj;rw[e];exact Or.inl ⟨yby,ht _ _ g1⟩
   ·rcases ih us rest j v g2 hj with⟨a1,a2⟩ | a1
    ·exact Or.inl ⟨ybr _ a1,a2⟩
    ·exact Or.inr a1
 cases ps with
 | nil=>
  cases args with
  | cons _ _=>cases hl
  | nil=>
   refine⟨tm,rfl,ho,XLe.refl _,rfl,hkA,fun j v hj=>?_,fun j p h=>(by cases h),fun d l h=>?_,fun d _ l _ h=>?_⟩
   ·have hj:=(Tm.get_kv hj).2
    have hj:(wK (eC pl []) (vals++[])).get j=some v:=hj
    rw[oG]at hj;rcases old pl vals [] j v hv hj with⟨_,h⟩ | h
    ·exact h
    ·rw[show wK [] []=.leaf from rfl,Tr.get_leaf]at h;cases h
   ·rw[show(ztg kf ⟨i,eC pl [],[]⟩ (vals++[])).lo=.leaf from rfl,Tr.get_leaf]at h;cases h
   ·rw[show(ztg kf ⟨i,eC pl [],[]⟩ (vals++[])).lo=.leaf from rfl,Tr.get_leaf]at h;cases h
 | cons p ps=>
  cases ps with
  | cons _ _=>simp at h1
  | nil=>
   cases args with
   | nil=>cases hl
   | cons a args=>
    cases args with
    | cons _ _=>simp at hl
    | nil=>
     have hp:(bif (Nat.blt p st.tm.k&&Nat.blt p n && !pF p pl)then tC (fun p=>Nat.blt p st.tm.k&&Nat.blt p n && !pF p pl) []else false)=true:=hok
     cases hx:(Nat.blt p st.tm.k&&Nat.blt p n && !pF p pl)with
     | false=>rw[hx]at hp;cases hp
     | true=>
      simp only[ybb,ycp]at hx;obtain⟨⟨x1,x2⟩,x3⟩:=hx
      have x1:=dB.1 x1
      have x2:=dB.1 x2
      refine⟨putA n tm (some p) a,rfl,ho,XLe.refl _,rfl,by rw[zo1];exact hkA,fun j v hj=>?_,fun j p h=>(by cases h),fun d l h=>?_,fun d _ l _ h=>?_⟩
      ·have hj:=(Tm.get_kv hj).2
       have hj:(wK (eC pl [p]) (vals++[a])).get j=some v:=hj
       rw[oG]at hj;rw[yH];rcases old pl vals [a] j v hv hj with⟨hm,h⟩ | h
       ·rw[yaa]
        ·exact h
        ·rintro⟨e,_⟩
         cases e
         rw[show pF p pl=true from(aN _ _).2 hm]at x3
         cases x3
       ·have h:((wK [] []).set p a).get j=some v:=h
        rw[Tr.get_set]at h;split at h
        ·rename_i e;rw[yab ⟨by rw[e],by rw[e];exact x2⟩];exact h
        ·rw[show wK [] []=.leaf from rfl,Tr.get_leaf]at h;cases h
      ·rw[show(ztg kf ⟨i,eC pl [p],[]⟩ (vals++[a])).lo=.leaf from rfl,Tr.get_leaf]at h;cases h
      ·rw[show(ztg kf ⟨i,eC pl [p],[]⟩ (vals++[a])).lo=.leaf from rfl,Tr.get_leaf]at h;cases h
def zvh(hW:dO C A W)(hY:z24 C A W){f:Nat}{κ:KtT}{m:Kt}(hκ:∀X0,SKt C W J X0 kf Q κ m){i:Nat}{pl:List Nat}{fo:Operand}{ps:Array Nat}{id:Nat}{ops:Array Oper}{c:aC}
  (hone:∃c0,A.get f=some c0/\dV c0=some ⟨i,pl,fo,ps,id,ops,c⟩) (hJ:∀vals t Q,J i vals t Q->z28 C.base kf ⟨⟨i,eC pl ps.toList,[]⟩,z2r C (dC C A) f n ⟨i,pl,fo,ps,id,ops,c⟩⟩ vals t Q) :
  SK C W J X0 kf Q (zvi C n κ i pl fo ps.toList ops.toList c) (sL C (dC C A) f n m fo ps.toList (.region id ops false) (cE c)):=by
 intro st tm HA t X ν hst h;unfold zvi at h;rw[kJ,jD]at h;obtain⟨hok,vals,hv,h⟩:=h
 rw[jD]at h;obtain⟨fv,hf,h256,h⟩:=h
 unfold zvj at hok;simp only[ybb]at hok;obtain⟨⟨⟨hok1,hok2⟩,hok3⟩,hok4⟩:=hok
 have hok2:ps.toList.length<=1:=by have:=Nat.le_of_ble_eq_true hok2;rw[gC]at this;exact this
 have hok4:pM c=[]:=by
  cases hx:pM c with
  | nil=>rfl
  | cons _ _=>rw[hx]at hok4;cases hok4
 have ho:=hst.ov
 have hbase:=ho.base
 generalize hr:(⟨.ready,none,f,n,tm,ps.toList,.region id ops false,cE c,HA.next⟩:wL)=r at *
 have htn:t.get (HA.next+1)=none:=by
  cases hx:t.get (HA.next+1)with
  | none=>rfl
  | some y=>exact absurd (ho.lt _ _ hx) (by omega)
 have hyield:∀args t1 Q1,args.length=aA ps.toList->t1.get (HA.next+1)=some (.loop r)->J i (vals++args) (t1.del (HA.next+1)) (fun v t2=>t2.get (HA.next+1)=none->∃b,v=.bool b/\Q1 v (t2.set (HA.next+1) (.loop (zhj b r))))->W (yo+(HA.next+1)) args t1 Q1:=by
  intro args t1 Q1 hla ht1 hj;refine hY _ _ _ _ fun X1 HA1 ho1=>?_
  rw[zks,z4m];show xC C.base X1 Q1 (zcw C A (dC C A) (HA.next+1) args HA1)
  have hx1:=ho1.notX ht1
  have hov:=ho1.under ht1 (.loop (znu r))
  obtain⟨tm',hs1,hs2⟩:=z0j (n:=n) (i:=i) hov hst.k hst.kA hst.tms hv hok1 hok2 (by rw[hla,gC])
  obtain⟨v,t2,HA2,X2,e1,e2,e3,e4⟩:=hJ _ _ _ hj _ _ _ _ _ hs2
  have hb2:X2 (HA.next+1)=some (.loop (znu r)):=e3 _ _ (by unfold onX;rw[yab rfl])
  obtain⟨b,e4,e5⟩:=e4 (e2.ext _ _ hb2).2.1
  subst e4;obtain⟨c0,hc0,hc1⟩:=hone
  refine⟨.bool b,_,_,_,yU.2 ⟨r,tm',c0,⟨i,pl,fo,ps,id,ops,c⟩,(.bool b,HA2),znu r,b,zdb (by omega) (by rw[ho1.up ht1]),?_,?_,hc1,?_,?_,zdb (by omega) (e2.ext _ _ hb2).1,rfl,rfl⟩,e2.back hb2 _,?_,e5⟩
  ·rw[<- hr];exact hs1
  ·rw[<- hr];exact hc0
  ·rw[<- hr];exact⟨rfl,rfl,rfl,rfl,hok3,hok4⟩
  ·rw[<- hr]at e1 ⊢;exact e1
  ·intro c y hc
   have hne:c≠HA.next+1:=fun e=>by rw[e,hx1]at hc;cases hc
   show(if c=HA.next+1 then none else X2 c)=some y
   rw[yaa hne];exact e3 _ _ (zjn hx1 _ _ hc)
 have h:=h (HA.next+1) r htn (by omega) (by rw[<- hr]) (by rw[<- hr]) hyield
 rw[cN]at h;obtain⟨⟨g,aq⟩,hra,hw⟩:=h
 unfold qX at hra;rw[uA]at hra;obtain⟨⟨qf,q1,q2⟩,hq,hra⟩:=hra
 cases qf with
 | yld l=>cases hra
 | func g'=>
  simp only[zB,ybb]at hra;obtain⟨⟨hg,hnp⟩,hra⟩:=hra
  cases hra;have hp:C.prims.get g=none:=by
   unfold npC at hnp
   cases hx:C.prims.get g with
   | none=>rfl
   | some u=>rw[hx]at hnp;cases hnp
  have hXd:X HA.next=none:=ho.nextX
  have ho1:Ov C.base t (onX X HA.next (.deferred (some []))) (newBlk HA (.deferred (some []))):=by
   refine⟨Nat.le_succ_of_le ho.base,fun b hb=>?_,fun b y hb=>?_,fun b y hb=>Nat.lt_succ_of_lt (ho.lt _ _ hb)⟩
   ·unfold onX at hb
    split at hb
    ·cases hb
    ·rename_i e
     show(HA.t.set HA.next _).get b=_
     rw[Tr.get_set,yaa e];exact ho.same b hb
   ·unfold onX at hb
    show(HA.t.set HA.next _).get b=_/\_/\b<HA.next+1
    split at hb
    ·rename_i e;cases hb;subst e;exact⟨by rw[Tr.get_set,yab rfl],ho.nextT,Nat.lt_succ_self _⟩
    ·rename_i e
     obtain⟨g1,g2,g3⟩:=ho.ext b y hb
     exact⟨by rw[Tr.get_set,yaa e];exact g1,g2,Nat.lt_succ_of_lt g3⟩
  have ho2:=ho1.newBlk (.loop r)
  obtain⟨v,t',HA2,X2,e1,e2,e3,e4⟩:=hW _ _ _ _ hw _ _ ho2
  rw[dU hg,hp]at e1;have e1:dC C A (.func g) (eC q1 (.func (.yld (HA.next+1)) [] []::q2)) (newBlk (newBlk HA (.deferred (some []))) (.loop r))=some (v,HA2):=e1
  have goal:∀r' (κ':KT) (m':Tm->xA->wB),t'.get (HA.next+1)=some (.loop r')->(!Nat.beq (LoopState.tag r'.state) 1)=true->(∀tm H,bQ m r'.pending tm H=m' tm H)->(∀X0,SK C W J X0 kf Q κ' m')->pA C.base W J (κ' st) (t'.del (HA.next+1)) Q →
    xC C.base X0 Q (sL C (dC C A) f n m fo ps.toList (.region id ops false) (cE c) tm HA):=by
   intro r' κ' m' k1 k2 k3 k4 k5;have ho3:=e2.under k1 (.loop ⟨.exhausted,r'.pending,r'.fn,r'.n,r'.tm,r'.params,r'.assign,r'.body,r'.defers⟩)
   have hx2:=e2.notX k1
   have hXX:XLe X (onX X2 (HA.next+1) (.loop ⟨.exhausted,r'.pending,r'.fn,r'.n,r'.tm,r'.params,r'.assign,r'.body,r'.defers⟩)):=((zjn hXd).trans e3).trans (zjn hx2)
   have hd3:(onX X2 (HA.next+1) (.loop ⟨.exhausted,r'.pending,r'.fn,r'.n,r'.tm,r'.params,r'.assign,r'.body,r'.defers⟩)) HA.next=some (.deferred (some [])):=by
    refine(zjn hx2) _ _ (e3 _ _ ?_)
    unfold onX;rw[yab rfl]
   have hX0d:X0 HA.next=none:=by
    cases hx:X0 HA.next with
    | none=>rfl
    | some y=>have:=hst.le _ _ hx;rw[hXd]at this;cases this
   have hl:=hst.later ho3 hXX
   have hl':fE C.base (onX X0 HA.next (.deferred (some []))) kf ν (onX X2 (HA.next+1) (.loop ⟨.exhausted,r'.pending,r'.fn,r'.n,r'.tm,r'.params,r'.assign,r'.body,r'.defers⟩)) st tm (endLoop HA2 (HA.next+1) r') (t'.del (HA.next+1)):=by
    refine⟨hl.ov,?_,hl.k,hl.kA,hl.tms,hl.ads,fun d l hd=>?_,hl.inj⟩
    ·intro b y hb
     unfold onX at hb;split at hb
     ·rename_i e;cases hb;rw[e];exact hd3
     ·exact hl.le _ _ hb
    ·obtain⟨g1,g2,g3⟩:=hl.lo d l hd
     refine⟨?_,g2,g3⟩
     obtain⟨c',g4,_⟩:=(hst.lo d l hd).2.2
     unfold onX;rw[yaa (fun e=>by rw[e,hXd]at g4;cases g4)]
     exact g1
   obtain⟨w,t4,HA4,X4,f1,f2,f3,f4⟩:=k4 _ _ _ _ _ _ _ hl' k5
   have hd4:X4 HA.next=some (.deferred (some [])):=f3 _ _ (by unfold onX;rw[yab rfl])
   refine⟨w,t4,_,_,?_,f2.setX hd4 (.deferred none),?_,f4⟩
   ·unfold sL
    rw[iC (zhf hst).1 hf,vA,hq,vA]
    show(jA (gG (C.prims.get g)) _)=_
    rw[hp];show(ob (dC C A (.func g) _ (newBlk (newBlk HA (.deferred (some []))) (.loop ⟨.ready,none,f,n,tm,ps.toList,.region id ops false,cE c,HA.next⟩))) _)=_
    rw[hr,e1,vA,zdb (by omega) (e2.up k1),vA,k2]
    show(ob (bQ m r'.pending tm _) _)=_
    rw[k3];show(ob (m' tm (endLoop HA2 (HA.next+1) r')) _)=_
    rw[f1,vA];have:iP HA4 HA.next=some (some []):=by
     unfold iP;rw[(f2.ext _ _ hd4).1,vA,Nat.ble_eq_true_of_le (by omega:256<=HA.next)]
     rfl
    simp only[this,vA];rfl
   ·intro b y hb
    have hne:b≠HA.next:=fun e=>by rw[e,hX0d]at hb;cases hb
    show(if b=HA.next then _ else X4 b)=some y
    rw[yaa hne];exact f3 _ _ (zjn hX0d _ _ hb)
  rcases e4 with⟨k1,k2⟩ | ⟨k1,k2⟩
  ·exact goal r κ.norm m.norm k1 (by rw[<- hr];rfl) (fun _ _=>by rw[<- hr];rfl) (fun X0=>(hκ X0).norm) k2
  ·exact goal _ κ.ret m.ret k1 (by rw[<- hr];rfl) (fun _ _=>by rw[<- hr];rfl) (fun X0=>(hκ X0).ret) k2
def ROk (A:Tr aC)(f:Nat)(c:aC):Prop:=∀q∈pM c,∃c0,A.get f=some c0/\dV c0=some q
def ROk.l{a b:List zn4}{P:zn4->Prop}(h:∀q∈eC a b,P q):(∀q∈a,P q)/\∀q∈b,P q:=by
 rw[oG]at h;exact⟨fun q hq=>h q (ydc _ hq),fun q hq=>h q (ycf _ hq)⟩
def zci(hW:dO C A W)(hY:z24 C A W){la:List Nat}{f:Nat}:∀(c:aC) (κ:KtT) (m:Kt),ROk A f c->(∀X0,SKt C W J X0 kf Q κ m)->JOk C.base kf J (rJ C (dC C A) f n c m)->∀X0,SK C W J X0 kf Q (zlq C la f n c κ) (bC C (dC C A) f n c m):=by
 intro c;induction c with
 | skip=>intro κ m _ hκ _ X0;exact(hκ X0).norm
 | region id ops d=>intro κ m _ hκ _ X0;exact zq9 hW (hκ X0).norm
 | seq a b iha ihb=>
  intro κ m hR hκ hJ;exact iha ⟨zlq C la f n b κ,κ.exit,κ.ret⟩ ⟨bC C (dC C A) f n b m,m.exit,m.ret⟩ (ROk.l hR).1 (fun X0=>⟨ihb κ m (ROk.l hR).2 hκ (fun d hd=>hJ d (ycf _ hd)) X0,(hκ X0).exit,(hκ X0).ret⟩) fun d hd=>hJ d (ydc _ hd)
 | cond x a b iha ihb=>
  intro κ m hR hκ hJ X0 st tm HA t X ν hst h;have ha:=iha κ m (ROk.l hR).1 hκ (fun d hd=>hJ d (ydc _ hd)) X0
  have hb:=ihb κ m (ROk.l hR).2 hκ (fun d hd=>hJ d (ycf _ hd)) X0
  have h:pA C.base W J (lB (ob (ev x (.now st.tm)) zA.asBool) fun b'=>bif z31 x st.lit then Bool.rec (motive:=fun _=>T) (zlq C la f n b κ st) (zlq C la f n a κ st) b' else .ite b' (zlq C la f n a κ st) (zlq C la f n b κ st)) t Q:=h
  rw[jD]at h;obtain⟨w,h1,h2⟩:=h
  rw[uA]at h1;obtain⟨v,h3,h4⟩:=h1
  show xC C.base X0 Q (ob (ob (ev x (.now tm)) zA.asBool) fun t=>Bool.rec (motive:=fun _=>wB) (bC C (dC C A) f n b m tm HA) (bC C (dC C A) f n a m tm HA) t)
  refine xC.ob (a:=w) (by rw[iC (zhf hst).1 h3];exact h4) ?_
  have h2:if w=true then pA C.base W J (zlq C la f n a κ st) t Q else pA C.base W J (zlq C la f n b κ st) t Q:=by
   rw[iB]at h2;split at h2
   ·cases w<;>exact h2
   ·exact h2
  cases w with
  | true=>exact ha _ _ _ _ _ _ hst h2
  | false=>exact hb _ _ _ _ _ _ hst h2
 | block id c ih=>
  intro κ m hR hκ hJ;refine ih ⟨κ.norm,fun i st=>Bool.rec (motive:=fun _=>T) (κ.exit i st) (κ.norm st) (Nat.beq id i),κ.ret⟩ ⟨m.norm,fun i tm H=>Bool.rec (motive:=fun _=>wB) (m.exit i tm H) (m.norm tm H) (Nat.beq id i),m.ret⟩ hR (fun X0=>⟨(hκ X0).norm,fun i=>?_,(hκ X0).ret⟩) hJ
  intro st tm HA t X ν hst h;have h:pA C.base W J (Bool.rec (motive:=fun _=>T) (κ.exit i st) (κ.norm st) (Nat.beq id i)) t Q:=h
  show xC C.base X0 Q (Bool.rec (motive:=fun _=>wB) (m.exit i tm HA) (m.norm tm HA) (Nat.beq id i))
  cases hb:Nat.beq id i with
  | true=>rw[hb]at h;exact(hκ X0).norm _ _ _ _ _ _ hst h
  | false=>rw[hb]at h;exact(hκ X0).exit i _ _ _ _ _ _ hst h
 | loop p c ih=>intro κ m _ hκ hJ X0;exact zm1 hJ yby
 | exit id=>intro κ m _ hκ _ X0;exact(hκ X0).exit id
 | ret=>intro κ m _ hκ _ X0;exact(hκ X0).ret
 | cut p c ih=>intro κ m _ hκ hJ X0;exact zm1 hJ yby
 | range i pl fo ps id ops c ih=>intro κ m hR hκ hJ X0;exact zvh hW hY hκ (hR _ yby) fun vals t Q h=>hJ _ yby vals t Q h
def PtOk (C:oA)(W J:fG)(kf:Nat)(l:List PtT)(d:PtD):Prop:=∃q∈l,q.p=d.p/\∀vals t Q,pA C.base W J (q.tree vals) t Q->z28 C.base kf d vals t Q
def keptOk(kf:Nat):aC->Bool
 | .seq a b=>keptOk kf a&&keptOk kf b
 | .cond _ a b=>keptOk kf a&&keptOk kf b
 | .block _ c=>keptOk kf c
 | .loop p c=>p.kept.all (fun i=>Nat.blt i kf)&&keptOk kf c
 | .cut p c=>p.kept.all (fun i=>Nat.blt i kf)&&keptOk kf c
 | .range _ _ _ _ _ _ c=>keptOk kf c
 | _=>true
def zvr(hW:dO C A W)(hY:z24 C A W){la:List Nat}{f:Nat}:∀(c:aC) (κ:KtT) (m:Kt),ROk A f c->keptOk kf c=true->(∀X0 Q,SKt C W J X0 kf Q κ m)->JOk C.base kf J (rJ C (dC C A) f n c m)->∀d∈rJ C (dC C A) f n c m,PtOk C W J kf (sR C la f n kf c κ) d:=by
 have up:∀ {l l':List PtT} {d:PtD},PtOk C W J kf l d->(∀q∈l,q∈l')->PtOk C W J kf l' d:=fun⟨q,h1,h2⟩ hl=>⟨q,hl q h1,h2⟩
 intro c;induction c with
 | skip=>intro κ m _ _ _ _ d hd;cases hd
 | region id ops dr=>intro κ m _ _ _ _ d hd;cases hd
 | seq a b iha ihb=>
  intro κ m hR hk hκ hJ d hd;unfold keptOk at hk;rw[ybb]at hk;have e:sR C la f n kf (.seq a b) κ=sR C la f n kf a ⟨zlq C la f n b κ,κ.exit,κ.ret⟩++sR C la f n kf b κ:=oG _ _
  rw[e];have hJa:JOk C.base kf J (rJ C (dC C A) f n a ⟨bC C (dC C A) f n b m,m.exit,m.ret⟩):=fun d hd=>hJ d (ydc _ hd)
  have hJb:JOk C.base kf J (rJ C (dC C A) f n b m):=fun d hd=>hJ d (ycf _ hd)
  rcases yaf.1 hd with hd | hd
  ·exact up (iha ⟨zlq C la f n b κ,κ.exit,κ.ret⟩ ⟨bC C (dC C A) f n b m,m.exit,m.ret⟩ (ROk.l hR).1 hk.1 (fun X0 Q=>⟨zci hW hY b κ m (ROk.l hR).2 (fun X0=>hκ X0 Q) hJb X0,(hκ X0 Q).exit,(hκ X0 Q).ret⟩) hJa d hd) fun q hq=>ydc _ hq
  ·exact up (ihb _ _ (ROk.l hR).2 hk.2 hκ hJb d hd) fun q hq=>ycf _ hq
 | cond x a b iha ihb=>
  intro κ m hR hk hκ hJ d hd;unfold keptOk at hk;rw[ybb]at hk;have e:sR C la f n kf (.cond x a b) κ=sR C la f n kf a κ++sR C la f n kf b κ:=oG _ _
  rw[e];rcases yaf.1 hd with hd | hd
  ·exact up (iha _ _ (ROk.l hR).1 hk.1 hκ (fun d hd=>hJ d (ydc _ hd)) d hd) fun q hq=>ydc _ hq
  ·exact up (ihb _ _ (ROk.l hR).2 hk.2 hκ (fun d hd=>hJ d (ycf _ hd)) d hd) fun q hq=>ycf _ hq
 | block id c ih=>
  intro κ m hR hk hκ hJ d hd;refine ih ⟨κ.norm,fun i st=>Bool.rec (motive:=fun _=>T) (κ.exit i st) (κ.norm st) (Nat.beq id i),κ.ret⟩ ⟨m.norm,fun i tm H=>Bool.rec (motive:=fun _=>wB) (m.exit i tm H) (m.norm tm H) (Nat.beq id i),m.ret⟩ hR hk (fun X0 Q=>⟨(hκ X0 Q).norm,fun i=>?_,(hκ X0 Q).ret⟩) hJ d hd
  intro st tm HA t X ν hst h;have h:pA C.base W J (Bool.rec (motive:=fun _=>T) (κ.exit i st) (κ.norm st) (Nat.beq id i)) t Q:=h
  show xC C.base X0 Q (Bool.rec (motive:=fun _=>wB) (m.exit i tm HA) (m.norm tm HA) (Nat.beq id i))
  cases hb:Nat.beq id i with
  | true=>rw[hb]at h;exact(hκ X0 Q).norm _ _ _ _ _ _ hst h
  | false=>rw[hb]at h;exact(hκ X0 Q).exit i _ _ _ _ _ _ hst h
 | loop p c ih=>
  intro κ m hR hk hκ hJ d hd;unfold keptOk at hk;rw[ybb,ycb]at hk;have hJc:JOk C.base kf J (rJ C (dC C A) f n c ⟨bC C (dC C A) f n (.loop p c) m,m.exit,m.ret⟩):=fun d hd=>hJ d (ybr _ hd)
  have hκ':∀X0 Q,SKt C W J X0 kf Q ⟨zr6 p,κ.exit,κ.ret⟩ ⟨bC C (dC C A) f n (.loop p c) m,m.exit,m.ret⟩:=fun X0 Q=>⟨zm1 hJ yby,(hκ X0 Q).exit,(hκ X0 Q).ret⟩
  rcases ybs.1 hd with rfl | hd
  ·refine⟨_,yby,rfl,fun vals t Q hw X0 X HA tm ν hst=>?_⟩
   show xC C.base X0 Q (bC C (dC C A) f n (.loop p c) m tm HA)
   rw[z2i];exact zci hW hY c _ _ hR (fun X0=>hκ' X0 Q) hJc X0 _ _ _ _ _ _ (hst.keep fun i hi=>dB.1 (hk.1 i hi)) hw
  ·exact up (ih ⟨zr6 p,κ.exit,κ.ret⟩ ⟨bC C (dC C A) f n (.loop p c) m,m.exit,m.ret⟩ hR hk.2 hκ' hJc d hd) fun q hq=>ybr _ hq
 | exit id=>intro κ m _ _ _ _ d hd;cases hd
 | ret=>intro κ m _ _ _ _ d hd;cases hd
 | cut p c ih=>
  intro κ m hR hk hκ hJ d hd;unfold keptOk at hk;rw[ybb,ycb]at hk;have hJc:JOk C.base kf J (rJ C (dC C A) f n c m):=fun d hd=>hJ d (ybr _ hd)
  rcases ybs.1 hd with rfl | hd
  ·refine⟨_,yby,rfl,fun vals t Q hw X0 X HA tm ν hst=>?_⟩
   exact zci hW hY c _ _ hR (fun X0=>hκ X0 Q) hJc X0 _ _ _ _ _ _ (hst.keep fun i hi=>dB.1 (hk.1 i hi)) hw
  ·exact up (ih _ _ hR hk.2 hκ hJc d hd) fun q hq=>ybr _ hq
 | range i pl fo ps id ops c ih=>
  intro κ m hR hk hκ hJ d hd;have hR':ROk A f c:=fun q hq=>hR q (ybr _ hq)
  have hJc:JOk C.base kf J (rJ C (dC C A) f n c rdK):=fun d hd=>hJ d (ybr _ hd)
  rcases ybs.1 hd with rfl | hd
  ·refine⟨_,yby,rfl,fun vals t Q hw X0 X HA tm ν hst=>?_⟩
   exact zci hW hY (.seq (.region id ops false) c) rdT rdK (fun q hq=>hR' q hq) (fun _=>z3v) (fun d hd=>hJc d hd) X0 _ _ _ _ _ _ hst hw
  ·exact up (ih rdT rdK hR' hk (fun _ _=>z3v) hJc d hd) fun q hq=>ybr _ hq
end
end
section
def Tr.mapT{α β:Type}(f:α->β)(t:Tr α):Tr β:=Tr.rec (motive:=fun _=>Tr β) .leaf (fun _ v _ l r=>.node l (match v with | some a=>some (f a) | none=>none) r) t
def Tr.get_mapT{α β:Type}(f:α->β):∀(t:Tr α) (n:Nat),(t.mapT f).get n=(t.get n).map f:=by
 intro t;induction t with
 | leaf=>intro n;rfl
 | node l v r ihl ihr=>
  intro n;show(Tr.node (l.mapT f) (match v with | some a=>some (f a) | none=>none) (r.mapT f)).get n=_
  rw[Tr.get_node,Tr.get_node];split
  ·cases v<;>rfl
  ·split
   ·exact ihl _
   ·exact ihr _
def xL(F:Tr xB):Tr aC:=F.mapT xB.code
def fnB (f kf:Nat)(c:aC):Bool:=Nat.blt f yo&&(keptOk kf c&&(match pM c with | []=>true | [_]=>true | _=>false))
structure rB (C:oA) (F:Tr xB) (f:Nat) (fn:Func) (kf:Nat) (A:xB):Prop where
 isF:F.get f=some A
 isFn:C.fns.get f=some fn
 isK:C.ks.get f=some kf
 prim:gG (C.prims.get f)=true
 kept:fnB f kf A.code=true
 body:gG fn.body=false
def rB.lt{C:oA}{F:Tr xB}{f:Nat}{fn:Func}{kf:Nat}{A:xB}(h:rB C F f fn kf A):Nat.blt f yo=true:=by
 have:=h.kept;unfold fnB at this;rw[ybb]at this;exact this.1
def rB.keptOk{C:oA}{F:Tr xB}{f:Nat}{fn:Func}{kf:Nat}{A:xB}(h:rB C F f fn kf A):keptOk kf A.code=true:=by
 have:=h.kept;unfold fnB at this;simp only[ybb]at this;exact this.2.1
def rB.code{C:oA}{F:Tr xB}{f:Nat}{fn:Func}{kf:Nat}{A:xB}(h:rB C F f fn kf A):(xL F).get f=some A.code:=by unfold xL;rw[Tr.get_mapT,h.isF];rfl
def rB.one{C:oA}{F:Tr xB}{f:Nat}{fn:Func}{kf:Nat}{A:xB}(h:rB C F f fn kf A):ROk (xL F) f A.code:=by
 have:=h.kept
 unfold fnB at this;simp only[ybb]at this;intro q hq;refine⟨_,h.code,?_⟩
 unfold dV
 cases hx:pM A.code with
 | nil=>rw[hx]at hq;cases hq
 | cons a l=>
  cases l with
  | nil=>rw[hx,ydd]at hq;rw[hq]
  | cons _ _=>rw[hx]at this;cases this.2.2
def Wc (C:oA)(F:Tr xB):fG:=fun f args t Q=>∀X HA,Ov C.base t X HA->xC C.base X Q (znq C (xL F) f args HA)
def Wc.mono{C:oA}{F:Tr xB}{f:Nat}{args:List zA}{t:Tr qA}{Q Q':bB}(h:Wc C F f args t Q)(k:∀v t',Q v t'->Q' v t'):Wc C F f args t Q':=fun X HA ho=>(h X HA ho).mono k
def Tr.bound{α:Type}(t:Tr α):∃n,∀b y,t.get b=some y->b<n:=by
 induction t with
 | leaf=>exact⟨0,fun b y h=>by rw[Tr.get_leaf]at h;cases h⟩
 | node l v r ihl ihr=>
  obtain⟨n,hn⟩:=ihl
  obtain⟨m,hm⟩:=ihr
  refine⟨2*n+2*m+3,fun b y h=>?_⟩
  rw[Tr.get_node]at h;split at h
  ·omega
  ·split at h
   ·have:=hn _ _ h;omega
   ·have:=hm _ _ h;omega
def PV (C:oA)(F:Tr xB)(f:Nat)(args:List zA)(t:Tr qA)(v:zA):Prop:=Wc C F f args t fun v' t'=>v'=v/\t'=t
def PV.unique{C:oA}{F:Tr xB}{f:Nat}{args:List zA}{t:Tr qA}{v v':zA}(h:PV C F f args t v)(h':PV C F f args t v'):v=v':=by
 obtain⟨n,hn⟩:=Tr.bound t
 have ho:Ov C.base t (fun _=>none) ⟨C.base+n,t⟩:=⟨Nat.le_add_right _ _,fun _ _=>rfl,fun _ _ h=>(by cases h),fun b y hb=>Nat.lt_of_lt_of_le (hn b y hb) (Nat.le_add_left _ _)⟩
 obtain⟨u,t',HA',X',h1,_,_,h2,_⟩:=h _ _ ho
 obtain⟨u',t'',HA'',X'',h3,_,_,h4,_⟩:=h' _ _ ho
 rw[h1]at h3
 cases h3;rw[<- h2,<- h4]
def wC (C:oA)(F:Tr xB)(f:Nat)(args:List zA)(t:Tr qA):Option zA:=@dite _ (∃v,PV C F f args t v) (Classical.propDecidable _) (fun h=>some h.choose) (fun _=>none)
def kC{C:oA}{F:Tr xB}{f:Nat}{args:List zA}{t:Tr qA}{v:zA}:wC C F f args t=some v ↔ PV C F f args t v:=by
 unfold wC;constructor
 ·intro h
  by_cases hx:∃v,PV C F f args t v
  ·rw[dif_pos hx]at h;cases h;exact hx.choose_spec
  ·rw[dif_neg hx]at h;cases h
 ·intro h
  have hx:∃v,PV C F f args t v:=⟨v,h⟩
  rw[dif_pos hx,PV.unique hx.choose_spec h]
def Wq (C:oA)(F:Tr xB)(pure:Nat->Bool):fG:=fun f args t R=>if (pure f&&Nat.blt f yo)=true then cD (wC C F f args t) fun v=>R v t else Wc C F f args t R
def Wq_ok{C:oA}{F:Tr xB}{pure:Nat->Bool}:dO C (xL F) (Wq C F pure):=by
 intro f args t R h X HA ho;unfold Wq at h;split at h
 ·rw[cN]at h
  obtain⟨v,h1,h2⟩:=h
  exact((kC.1 h1) X HA ho).mono fun v' t' hh=>by rw[hh.1,hh.2];exact h2
 ·exact h X HA ho
def z4t{C:oA}{F:Tr xB}{pure:Nat->Bool}:z24 C (xL F) (Wq C F pure):=by
 intro l args t Q h;unfold Wq;have:Nat.blt (yo+l) yo=false:=Bool.eq_false_iff.2 fun e=>by have:=dB.1 e;omega
 rw[this,yay,yaa (by simp)]
 exact h
def Jq (C:oA)(F:Tr xB)(f:Nat):fG:=fun i vals t Q=>∀fn kf A,rB C F f fn kf A->∀d∈rJ C (dC C (xL F)) f fn.ntmps A.code (zzk C fn),d.p.id=i->z28 C.base kf d vals t Q
def Jq_ok{C:oA}{F:Tr xB}{f:Nat}{fn:Func}{kf:Nat}{A:xB}(h:rB C F f fn kf A):JOk C.base kf (Jq C F f) (rJ C (dC C (xL F)) f fn.ntmps A.code (zzk C fn)):=
 fun d hd _ _ _ hJ=>hJ fn kf A h d hd rfl
section
variable {W J:fG}{t:Tr qA}{X X0:Xt}{HA:xA}{C:oA}{A:Tr aC}{ν:Nat->Nat}{Q:bB}{kf n:Nat}{st:lF}{tm:Tm}
def z5l(hst:fE C.base X0 kf ν X st tm HA t):∀(l:List ResultVar) (K:List zA->T),pA C.base W J (resT C st l K) t Q->∃vs,sQ C HA tm l=some vs/\pA C.base W J (K vs) t Q:=by
 intro l;induction l with
 | nil=>intro K h;exact⟨[],rfl,h⟩
 | cons r l ih=>
  intro K h
  cases r with
  | tmp i=>
   have h:pA C.base W J (lB (st.tm.get i) fun v=>resT C st l fun l=>K (v::l)) t Q:=h
   rw[jD]at h;obtain⟨v,h1,h2⟩:=h
   obtain⟨vs,h3,h4⟩:=ih _ h2
   refine⟨v::vs,?_,h4⟩
   show tF (vR C HA tm) _=_
   rw[pK];show ob (tm.get i) _=_
   rw[hst.tms _ _ h1,vA];have h3:tF (vR C HA tm) l=some vs:=h3
   rw[h3];rfl
  | cell a ty=>
   have h:pA C.base W J (match pH a st.ad with
    | some p=>lB (st.lo.get p.1) fun m=>lB (C.tys.get ty) fun y=>gdT (Nat.ble (p.2+y.size) (aA m)) (lB (dK C ty m p.2) fun v=>resT C st l fun l=>K (v::l))
    | none=>lB (st.tm.get a) fun a=>.light (fun m=>mA C ty ⟨0,m⟩ a) fun v=>resT C st l fun l=>K (v::l)) t Q:=h
   have uE:∀ {u v:zA},tm.get a=some u->mA C ty HA u=some v->pA C.base W J (resT C st l fun l=>K (v::l)) t Q->∃vs,sQ C HA tm (.cell a ty::l)=some vs/\pA C.base W J (K vs) t Q:=by
    intro u v h1 h2 h3;obtain⟨vs,h4,h5⟩:=ih _ h3
    refine⟨v::vs,?_,h5⟩
    show tF (vR C HA tm) _=_
    rw[pK];have e:vR C HA tm (.cell a ty)=some v:=by
     show(ob (ob (tm.get a) zA.asPtr) fun p=>ob (C.tys.get ty) fun ty=>ob (fC HA p.1) fun c=>mM ty c.1 p.2)=some v
     unfold mA at h2;rw[h1,vA];exact h2
    have h4:tF (vR C HA tm) l=some vs:=h4
    rw[e,vA,h4];rfl
   split at h
   ·rename_i p hp
    simp only[jD,kJ]at h;obtain⟨m,h1,y,h2,h3,v,h4,h5⟩:=h
    exact uE (hst.ads _ _ hp) (zpd hst.ov hst.lo h1 h2 h3 h4) h5
   ·simp only[jD,eT]at h
    obtain⟨u,h1,v,h2,h3⟩:=h
    exact uE (hst.tms _ _ h1) (cW hst.ov.le h2) h3
def zya{fn:Func}:SK C W J X0 kf Q (endT C fn) (endK C fn):=by
 intro st tm HA t X ν hst h;obtain⟨vs,h1,h2⟩:=z5l hst _ _ h
 unfold endK;exact xC.ob h1 ⟨_,t,HA,X,rfl,hst.ov,hst.le,h2⟩
def zuc{fn:Func}:SKt C W J X0 kf Q (topT C fn) (zzk C fn):=⟨zya,fun _ _ _ _ _ _ _ _ h=>h.elim,zya⟩
end
section
variable {C:oA}{F:Tr xB}{f:Nat}{fn:Func}{kf:Nat}{A:xB}{pure:Nat->Bool}{t:Tr qA}{Q:bB}
def z7h(h:rB C F f fn kf A){args:List zA}(hl:(Nat.ble (aA args) kf&&Nat.ble (aA args) fn.ntmps)=true)(hw:pA C.base (Wq C F pure) (Jq C F f) (entT C fn kf f A args) t Q):Wc C F f args t Q:=by
 intro X HA ho;have hA:=h.code
 obtain⟨body,hb⟩:∃b,fn.body=some b:=by
  cases hx:fn.body with
  | none=>have:=h.body;rw[hx]at this;cases this
  | some b=>exact⟨b,rfl⟩
 have he:bI C f args false=some ⟨[.code body],⟨kf,Tr.ofList args,[]⟩,⟨f,fn.ntmps,[],.run,false,none⟩⟩:=by
  unfold bI;rw[h.isFn,vA,hb,vA,h.isK,vA,hl];rfl
 have hp:C.prims.get f=none:=by
  cases hx:C.prims.get f with
  | none=>rfl
  | some g=>have:=h.prim;rw[hx]at this;cases this
 rw[dU h.lt,hp];show xC C.base X Q (dC C (xL F) (.func f) args HA)
 rw[z4m];show xC C.base X Q (zti C (xL F) (dC C (xL F)) f args HA)
 unfold zti;refine xC.ob hA (xC.ob h.isFn (xC.ob he ?_))
 have hst:fE C.base X kf (fun i=>i) X ⟨⟨kf,Tr.ofList args,[]⟩,[],.leaf,[]⟩ ⟨kf,Tr.ofList args,[]⟩ HA t:=
  ⟨ho,XLe.refl _,rfl,rfl,fun _ _ h=>h,fun _ _ h=>(by cases h),fun d l h=>(by rw[Tr.get_leaf]at h;cases h),fun d _ l _ h=>(by rw[Tr.get_leaf]at h;cases h)⟩
 exact zci Wq_ok z4t A.code (topT C fn) (zzk C fn) h.one (fun _=>zuc) (Jq_ok h) _ _ _ _ _ _ _ hst hw
def Jq_of(h:rB C F f fn kf A){i:Nat}{vals:List zA}{l:List T}(hp:zrr (ptsT C fn kf f A) i vals=l)(hw:∀T∈l,pA C.base (Wq C F pure) (Jq C F f) T t Q):Jq C F f i vals t Q:=by
 intro fn' kf' A' h' d hd hi;have e1:=h.isFn;rw[h'.isFn]at e1;cases e1
 have e2:=h.isK;rw[h'.isK]at e2;cases e2
 have e3:=h.isF;rw[h'.isF]at e3;cases e3
 obtain⟨q,h1,h2,h3⟩:=zvr (W:=Wq C F pure) Wq_ok z4t A.code (topT C fn) (zzk C fn) h.one h.keptOk (fun _ _=>zuc) (Jq_ok h) d hd
 refine h3 vals t Q (hw _ ?_)
 subst hp;have key:∀(l:List PtT),q∈l->q.tree vals∈zrr l i vals:=by
  intro l;induction l with
  | nil=>intro h;cases h
  | cons p l ih=>
   intro hm;show q.tree vals∈(bif Nat.beq p.p.id i then p.tree vals::zrr l i vals else zrr l i vals)
   rw[iB];rcases ybs.1 hm with e | hm
   ·subst e
    rw[yab (by rw[h2];exact pB.2 hi)]
    exact yby
   ·split
    ·exact ybr _ (ih hm)
    ·exact ih hm
 exact key _ h1
def Jq_of1(h:rB C F f fn kf A){i:Nat}{vals:List zA}{T:T}(hp:zrr (ptsT C fn kf f A) i vals=[T])(hw:pA C.base (Wq C F pure) (Jq C F f) T t Q):Jq C F f i vals t Q:=
 Jq_of h hp fun T' hT=>by rw[ydd.1 hT];exact hw
def Jq.mono{i:Nat}{vals:List zA}{Q':bB}(h:Jq C F f i vals t Q)(k:∀v t',Q v t'->Q' v t'):Jq C F f i vals t Q':=
 fun fn kf A hf d hd hi X0 X HA tm ν hst=>(h fn kf A hf d hd hi X0 X HA tm ν hst).mono k
def Wc_pv{args:List zA}{v:zA}(h:wC C F f args t=some v)(hq:Q v t):Wc C F f args t Q:=(kC.1 h).mono fun _ _ hh=>by rw[hh.1,hh.2];exact hq
def zha{g:List zA->xA->Option zA}(hg:C.prims.get f=some (tK g)){args:List zA}{v:zA}(h:∀H,g args H=some v)(hf:Nat.blt f yo=true:=by rfl):wC C F f args t=some v:=by
 refine kC.2 fun X HA ho=>?_
 rw[dU hf,hg];exact⟨v,t,HA,X,by simp only[tK,h HA,vA],ho,XLe.refl _,rfl,rfl⟩
def zen{args:List zA}{v:zA}(h:Wc C F f args t fun v' t'=>v'=v/\∀b y,t.get b=some y->t'.get b=some y):wC C F f args t=some v:=by
 refine kC.2 fun X HA ho=>?_
 obtain⟨u,t',HA',X',h1,h2,h3,h4,h5⟩:=h X HA ho
 refine⟨u,t,HA',fun b=>match t.get b with | some _=>none | none=>HA'.t.get b,h1,⟨h2.base,?_,?_,?_⟩,?_,h4,rfl⟩
 ·intro b hb
  cases hg:t.get b with
  | some y=>rw[h2.up (h5 b y hg)]
  | none=>simp only[hg]at hb;exact hb
 ·intro b y hb
  cases hg:t.get b with
  | some y=>simp only[hg]at hb;cases hb
  | none=>
   simp only[hg]at hb;refine⟨hb,rfl,?_⟩
   cases hx:X' b with
   | some z=>exact(h2.ext b z hx).2.2
   | none=>rw[h2.same b hx]at hb;exact h2.lt b y hb
 ·intro b y hb;exact h2.lt b y (h5 b y hb)
 ·intro b y hb
  have hn:=(ho.ext b y hb).2.1
  simp only[hn];exact(h2.ext b y (h3 b y hb)).1
end
def zno{P:Program}{C:oA}{F:Tr xB}{B N:Nat}{I:World->Prop}{μ:Mu}{w:World}(hS:Sim P C B N I)(hI:I w)(hA:gT C (xL F)){f:Nat}(hp:C.prims.get f=none){args:List zA}{args':Array Value}{H:xA}{Q:bB}(hbase:C.base<=H.next)(hlt:∀b y,H.t.get b=some y->b<H.next)(hH:cA B N μ H w)(hl:yB μ args args'.toList)
  (h:Wc C F f args H.t Q) (hf:Nat.blt f yo=true:=by rfl):Calls P f args' w fun e w'=>∃v v' t' μ',e=.returned v'/\μ.lw μ'/\wA μ' v v'/\Q v t'/\Below N w w':=by
 obtain⟨v,t',HA',X',h1,h2,h3,h4⟩:=h (fun _=>none) H ⟨hbase,fun _ _=>rfl,fun _ _ h=>(by cases h),hlt⟩
 rw[dU hf,hp]at h1;intro base;obtain⟨e,w',b,⟨v',μ',g1,g2,g3,g4,g5⟩,g6⟩:=zkp hS hI hA hH hl h1 base
 exact⟨e,w',b,⟨v,v',t',μ',g1,g2,g3,h4,g5⟩,g6⟩
end
section
def piOf (i:Nat)(l:List (Nat × PI)):Option PI:=List.rec (motive:=fun _=>Option PI) none (fun a _ g=>bif Nat.beq i a.1 then some a.2 else g) l
def cutP (p:Option PI)(c:aC):aC:=
 match p with
 | some p=>.cut p c
 | none=>c
def z5y(p:Option PI)(c:aC):aC:=
 match p with
 | some p=>.loop p c
 | none=>.loop ⟨0,[],[]⟩ c
def rangeP(p:Option PI)(f:Operand)(ps:Array Nat)(a:Code)(c:aC):aC:=
 match a with
 | .region id ops _=>.range (match p with | some p=>p.id | none=>0) (match p with | some p=>p.pl | none=>[]) f ps id ops c
 | _=>.skip
def zpr:Code->Bool
 | .region _ _ d => !d
 | _=>false
def dQ(rt lt:List (Nat × PI))(c:Code):Nat->aC:=
 Code.rec (motive:=fun _=>Nat->aC)
  (fun _=>.skip)
  (fun id ops d _=>cutP (piOf id rt) (.region id ops d))
  (fun _ _ ga gb k=>.seq (ga k) (gb k))
  (fun c _ _ gx gy k=>.cond c (gx k) (gy k))
  (fun id _ g _=>.block id (g id))
  (fun _ g k=>z5y (piOf k lt) (g k))
  (fun f ps a _ _ gb k=>rangeP (piOf k lt) f ps a (gb k))
  (fun id _=>.exit id)
  (fun _ _ _=>.skip)
  (fun _ _=>.skip)
  (fun _ _=>.skip)
  (fun _=>.ret)
  (fun _ _=>.skip) c
def kB(rt lt:List (Nat × PI))(k:Nat)(c:Code):aC:=dQ rt lt c k
def rL(c:Code):Bool:=
 Code.rec (motive:=fun _=>Bool) true (fun _ _ _=>true) (fun _ _ a b=>bif a then b else false) (fun _ _ _ a b=>bif a then b else false) (fun _ _ a=>a) (fun _ a=>a)
  (fun _ _ a _ _ b=>bif zpr a then b else false) (fun _=>true) (fun _ _=>false) (fun _=>false) (fun _=>false) true (fun _=>false) c
def zsm(p:Option PI)(c:aC):cE (cutP p c)=cE c:=by cases p<;>rfl
def znc(p:Option PI)(c:aC):cE (z5y p c)=.loop (cE c):=by cases p<;>rfl
def znd{rt lt:List (Nat × PI)}:∀(c:Code) (k:Nat),rL c=true->cE (dQ rt lt c k)=c:=by
 intro c;induction c with
 | skip=>intro k _;rfl
 | region id ops d=>intro k _;show cE (cutP _ _)=_;rw[zsm];rfl
 | seq a b iha ihb=>
  intro k h;have h:(bif rL a then rL b else false)=true:=h
  have ha:rL a=true:=by cases hx:rL a with | true=>rfl | false=>rw[hx]at h;cases h
  have hb:rL b=true:=by rw[ha]at h;exact h
  show Code.seq (cE (dQ rt lt a k)) (cE (dQ rt lt b k))=_
  rw[iha k ha,ihb k hb]
 | cond c x y ihx ihy=>
  intro k h;have h:(bif rL x then rL y else false)=true:=h
  have ha:rL x=true:=by cases hx:rL x with | true=>rfl | false=>rw[hx]at h;cases h
  have hb:rL y=true:=by rw[ha]at h;exact h
  show Code.cond c (cE (dQ rt lt x k)) (cE (dQ rt lt y k))=_
  rw[ihx k ha,ihy k hb]
 | block id c ih=>intro k h;show Code.block id (cE (dQ rt lt c id))=_;rw[ih id h]
 | loop c ih=>intro k h;show cE (z5y _ (dQ rt lt c k))=_;rw[znc,ih k h]
 | exit id=>intro k _;rfl
 | ret=>intro k _;rfl
 | rangeFunc f ps a b _ ihb=>
  intro k h;have h:(bif zpr a then rL b else false)=true:=h
  cases a with
  | region id ops d=>
   cases d with
   | true=>cases h
   | false=>show Code.rangeFunc f ps (.region id ops false) (cE (dQ rt lt b k))=_;rw[ihb k h]
  | _=>cases h
 | scope c _=>intro k h;cases h
 | label l=>intro k h;cases h
 | goto l=>intro k h;cases h
 | refuse s=>intro k h;cases h
def tabF (l:List (Nat × xB)):Tr xB:=List.rec (motive:=fun _=>Tr xB) .leaf (fun p _ g=>g.set p.1 p.2) l
def zz1{l:List (Nat × xB)}{f:Nat}{A:xB}(h:(tabF l).get f=some A):(f,A)∈l:=by
 induction l with
 | nil=>rw[show tabF []=.leaf from rfl,Tr.get_leaf]at h;cases h
 | cons p l ih=>
  have h:((tabF l).set p.1 p.2).get f=some A:=h
  rw[Tr.get_set]at h;split at h
  ·rename_i e;cases h;rw[e];exact yby
  ·exact ybr _ (ih h)
def zzh(C:oA)(p:Nat × xB):Prop:=∃fn c,C.fns.get p.1=some fn/\fn.body=some c/\cE p.2.code=c
def bodyOk{C:oA}{f:Nat}{fn:Func}{c:Code}{rt lt:List (Nat × PI)}{la:List Nat}(h1:C.fns.get f=some fn)(h2:fn.body=some c)(h3:rL c=true):zzh C (f,⟨kB rt lt 0 c,la⟩):=⟨fn,c,h1,h2,znd c 0 h3⟩
def zsw{C:oA}{l:List (Nat × xB)}(h:∀p∈l,zzh C p):gT C (xL (tabF l)):=by
 intro f c hc;unfold xL at hc;rw[Tr.get_mapT]at hc
 cases hq:(tabF l).get f with
 | none=>rw[hq]at hc;cases hc
 | some A=>
  rw[hq]at hc
  cases hc;obtain⟨fn,b,h1,h2,h3⟩:=h _ (zz1 hq)
  exact⟨fn,h1,by rw[h2,h3]⟩
end
end Go.Am
namespace Go.Am
class jC where
 n:Nat
def z0t(a:List zA)(_:xA):Option zA:=match a with | []=>some (.bool true) | _=>none
def zr7:List Nat->List Nat->Bool
 | [],_=>true
 | _::_,[]=>false
 | a::x,b::y=>bif Nat.beq a b then zr7 x y else false
def cutL (sub:List Nat):List Nat->Option (List Nat × List Nat)
 | []=>bif sub.isEmpty then some ([],[])else none
 | b::l=>bif zr7 sub (b::l)then some ([],nL (b::l) (aA sub))else ob (cutL sub l) fun p=>some (b::p.1,p.2)
def pCut (a:List zA)(_:xA):Option zA:=match a with
 | [.str s,.str c]=>jA (Nat.blt (aA s) 4294967281) (match cutL c s with
  | some p=>some (.tup [.str p.1,.str p.2,.bool true])
  | none=>some (.tup [.str s,.str [],.bool false]))
 | _=>none
def cI(n:Int):List Nat:=(Lib.itoa n).map UInt8.toNat
def zru(a:List zA)(_:xA):Option zA:=match a with
 | [.int .i64 n]=>jA (sD (-9223372036854775808) n&&vC n 9223372036854775808) (some (.str (cI n)))
 | _=>none
def zvv(a:List zA)(_:xA):Option zA:=match a with
 | [.int .u64 n,.int .i64 b]=>jA (sD 0 n&&vC n 18446744073709551616&&uB b 10) (some (.str (cI n)))
 | _=>none
end Go.Am
namespace Go.Am
open Go Go.Shelf Go.RowKit Go.Proofs
variable {P:Program}{ρ:Ren}
set_option maxHeartbeats 2000000 in
set_option maxRecDepth 100000 in
def zsn(L:Lays.n169 P ρ)(X:Builder.Extra P ρ)(b g cap cells:Nat)(l:List UInt8)(w:World)(c1:w.cell? ⟨b,1,none⟩=some (.slice (some ⟨g,0,none⟩) l.length cap))(h0:l≠[])(hcap:l.length<=cap)
  (hsh:w.shape? g=some (ρ.t 5,cells)) (hc:l.length<=cells) (h63:l.length<=9223372036854775807) (hcell:∀j x,l[j]?=some x->w.cell? ((⟨g,0,none⟩:Addr).add j)=some (.int .u8 x.toNat)) :
  Calls P (ρ.f 169) #[.pointer (some ⟨b,0,none⟩)] w fun e w'=>e=.returned (.string ⟨l.toArray⟩)/\w'=w.drew.freeze ⟨g,0,none⟩ l.length:=by
 have hl0:l.length≠0:=by simpa using h0
 have c1:w.drew.cell? ⟨b,1,none⟩=some (.slice (some ⟨g,0,none⟩) l.length cap):=c1
 have hSD:(Builtin.unsafeSliceData_ #[(ρ.t 37)] (ρ.t 127) #[.slice (some ⟨g,0,none⟩) l.length cap]).run P w.drew=.ok (.pointer (some ⟨g,0,none⟩)) w.drew:=
  Lib.run_unsafeSliceData_row _ _ _ _ _ _ (by omega)
 have hUS:(Builtin.unsafeString_ #[(ρ.t 127),(ρ.t 3)] (ρ.t 9) #[.pointer (some ⟨g,0,none⟩),.int .i64 l.length]).run P w.drew=.ok (.string ⟨l.toArray⟩) (w.drew.freeze ⟨g,0,none⟩ l.length):=
  Lib.run_unsafeString_row w.drew (ρ.t 127) (ρ.t 3) (ρ.t 9) (ρ.t 5) L.t127 X.cellsByte g cells hsh l h0 hc h63 hcell
 have mixed:=L.mixed
 have t72:=L.t72;have a72:=L.a72;have z72:=L.z72;have v72:=L.v72;have u72:=run_underlying L.t72
 have t70:=L.t70;have a70:=L.a70;have z70:=L.z70;have v70:=L.v70;have u70:=run_underlying L.t70
 have t37:=L.t37;have a37:=L.a37;have z37:=L.z37;have v37:=L.v37;have u37:=run_underlying L.t37
 have t127:=L.t127;have a127:=L.a127;have z127:=L.z127;have v127:=L.v127;have u127:=run_underlying L.t127
 have t3:=L.t3;have a3:=L.a3;have z3:=L.z3;have v3:=L.v3;have u3:=run_underlying L.t3
 have t9:=L.t9;have a9:=L.a9;have z9:=L.z9;have v9:=L.v9;have u9:=run_underlying L.t9
 have t5:=X.t5;have a5:=X.a5;have z5:=X.z5;have v5:=X.v5;have u5:=run_underlying X.t5
 go_enter L.f169,Body.n169_ntmps ρ
 go_wp2
 go_region_o
 all_goals (go_wp2;go_ret;exact⟨rfl,rfl⟩)
end Go.Am
