/- Trees: what they are worth. Overlays: memory with blocks that are not looked at; operations do not touch them. -/
import Derived.Lib.ItoaNum
import Derived.Test.YthmbkdkibhffbaaGreatDoorD04
set_option linter.all false
noncomputable section
namespace Go.Am
open Go Go.RowKit
def uH {α:Type}(x:Option α)(P:α->Prop):Prop:=
 match x with
 | some a=>P a
 | none=>False
theorem jQ{α:Type}{x:Option α}{P:α->Prop}:uH x P ↔ ∃a,x=some a/\P a:=by
 cases x with
 | none=>simp[uH]
 | some a=>simp[uH]
@[simp] theorem xA {α:Type} {a:α} {P:α->Prop}:uH (some a) P=P a:=rfl
@[simp] theorem optP_none {α:Type} {P:α->Prop}:uH (none:Option α) P=False:=rfl
abbrev bB:=zA->Tr lA->Prop
abbrev zJ:=Nat->List zA->Tr lA->bB->Prop
def fL(f:zA)(args:List zA):Option (Nat × List zA):=ob f.asFunc fun p=>match p.1 with
 | .func g=>some (g,jF (jF p.2.1 args) p.2.2)
 | .yld _=>none
def zzj (k:IntKind)(v:zA):Option Int:=ob v.asIntK fun p=>sB (kEq p.1 k) (some p.2)
def mG (zs:List zA)(v:zA):Option zw5:=ob v.asAgg fun l=>sB (rM zs l) (some (cellsOf l))
def pA (base:Nat)(W:zJ)(J:zJ):T->Tr lA->bB->Prop
 | .ret v,t,Q=>Q v t
 | .fail,_,_=>False
 | .ite b x y,t,Q=>if b=true then pA base W J x t Q else pA base W J y t Q
 | .opt x K,t,Q=>uH x fun v=>pA base W J (K v) t Q
 | .light x K,t,Q=>uH (x t) fun v=>pA base W J (K v) t Q
 | .heavy x K,t,Q=>∀b,t.get b=none->base<=b->uH (x ⟨b,t⟩) fun p=>pA base W J (K p.1) p.2.t Q
 | .call f args K,t,Q=>W f args t fun v t'=>pA base W J (K v) t' Q
 | .callv f args K,t,Q=>uH (fL f args) fun p=>W p.1 p.2 t fun v t'=>pA base W J (K v) t' Q
 | .asI k v K,t,Q=>uH (zzj k v) fun n=>pA base W J (K n) t Q
 | .asB v K,t,Q=>uH v.asBool fun n=>pA base W J (K n) t Q
 | .asS v K,t,Q=>uH v.asStr fun n=>pA base W J (K n) t Q
 | .asG zs v K,t,Q=>uH (mG zs v) fun X=>pA base W J (K X) t Q
 | .jump i vals,t,Q=>J i vals t Q
abbrev Xt:=Nat->Option lA
def XLe (X Y:Xt):Prop:=∀b y,X b=some y->Y b=some y
theorem XLe.refl(X:Xt):XLe X X:=fun _ _ h=>h
theorem XLe.trans{X Y Z:Xt}(h:XLe X Y)(k:XLe Y Z):XLe X Z:=fun b y e=>k b y (h b y e)
structure Ov (base:Nat) (t:Tr lA) (X:Xt) (H:rA):Prop where
 base:base<=H.next
 same:∀b,X b=none->H.t.get b=t.get b
 ext:∀b y,X b=some y->H.t.get b=some y/\t.get b=none/\b<H.next
 lt:∀b y,t.get b=some y->b<H.next
def HLe (H H':rA):Prop:=∀b y,H.t.get b=some y->H'.t.get b=some y
def yO(e e':xD):Prop:=∀i v,zw8 i e=some v->zw8 i e'=some v
section
variable {base:Nat}{t:Tr lA}{X:Xt}{H HA:rA}{e e':xD}{C:iA}{v:zA}
theorem Ov.notX(h:Ov base t X HA){b:Nat}{y:lA}(hb:t.get b=some y):X b=none:=by
 cases hx:X b with
 | none=>rfl
 | some z=>have:=(h.ext b z hx).2.1;rw[hb]at this;cases this
theorem Ov.up(h:Ov base t X HA){b:Nat}{y:lA}(hb:t.get b=some y):HA.t.get b=some y:=by rw[h.same b (h.notX hb)];exact hb
theorem Ov.le(h:Ov base t X HA){n:Nat}:HLe ⟨n,t⟩ HA:=fun _ _ hb=>h.up hb
theorem Ov.nextX(h:Ov base t X HA):X HA.next=none:=by
 cases hx:X HA.next with
 | none=>rfl
 | some z=>exact absurd (h.ext _ z hx).2.2 (Nat.lt_irrefl _)
theorem Ov.nextT(h:Ov base t X HA):t.get HA.next=none:=by
 cases hx:t.get HA.next with
 | none=>rfl
 | some z=>exact absurd (h.lt _ z hx) (Nat.lt_irrefl _)
theorem pM(h:HLe H HA){b:Nat}{p:Tr zA × Nat × Option Nat}(hb:oD H b=some p):oD HA b=some p:=by
 unfold oD at hb ⊢;rw[mA]at hb ⊢;obtain⟨y,h1,h2⟩:=hb;exact⟨y,h _ _ h1,h2⟩
theorem pV(h:HLe H HA){b:Nat}{p:List (zA × zA)}(hb:nL H b=some p):nL HA b=some p:=by
 unfold nL at hb ⊢;rw[mA]at hb ⊢;obtain⟨y,h1,h2⟩:=hb;exact⟨y,h _ _ h1,h2⟩
theorem gD(h:yO e e'){x:Operand}(hx:ev x e=some v):ev x e'=some v:=by
 cases x with
 | tmp i=>exact h i v hx
 | const c=>exact hx
 | global g=>exact hx
 | func f=>exact hx
theorem zeh{α β:Type}{f g:α->Option β}:∀(l:List α) {r:List β},(∀a b,f a=some b->g a=some b)->uI f l=some r->uI g l=some r:=by
 intro l;induction l with
 | nil=>intro r _ h;exact h
 | cons a l ih=>
  intro r hfg h;rw[oO,mA]at h ⊢
  obtain⟨b,h1,h⟩:=h
  refine⟨b,hfg _ _ h1,?_⟩
  rw[mA]at h ⊢
  obtain⟨s,h2,h⟩:=h
  exact⟨s,ih hfg h2,h⟩
theorem zgk(h:yO e e'){l:List Operand}{vs:List zA}(hx:evs l e=some vs):evs l e'=some vs:=zeh l (fun _ _ k=>gD h k) hx
theorem zn2(h:yO e e'){x:Option Operand}{r:Option zA}(hx:evo x e=some r):evo x e'=some r:=by
 cases x with
 | none=>exact hx
 | some x=>
  have hx:ob (ev x e) (fun v=>some (some v))=some r:=hx
  show ob (ev x e') (fun v=>some (some v))=some r
  rw[mA]at hx ⊢
  obtain⟨a,h1,h2⟩:=hx
  exact⟨a,gD h h1,h2⟩
theorem zgl(h:yO e e'){l:List (Nat × Operand)}{vs:List (Nat × zA)}(hx:evp l e=some vs):evp l e'=some vs:=
 zeh l (fun a b k=>by rw[mA]at k ⊢;obtain⟨u,h1,h2⟩:=k;exact⟨u,gD h h1,h2⟩) hx
theorem zfb(h:yO e e'){c:Call}{p:zA × zA}(hx:two c e=some p):two c e'=some p:=by
 unfold two at hx ⊢
 split at hx
 ·rw[mA]at hx ⊢
  obtain⟨a,h1,hx⟩:=hx
  refine⟨a,gD h h1,?_⟩
  rw[mA]at hx ⊢
  obtain⟨b,h2,hx⟩:=hx
  exact⟨b,gD h h2,hx⟩
 ·cases hx
theorem sP(h:HLe H HA){ty:Nat}{a:zA}(hx:jA C ty H a=some v):jA C ty HA a=some v:=by
 unfold jA at hx ⊢
 simp only[mA]at hx ⊢
 obtain⟨p,h1,y,h2,c,h3,h4⟩:=hx
 exact⟨p,h1,y,h2,c,pM h h3,h4⟩
theorem zad(h:HLe H HA){s d:wD}{a:zA}(hx:wN C s d a H=some v):wN C s d a HA=some v:=by
 unfold wN at hx ⊢
 split at hx
 ·rename_i k hk;exact hx
 ·rename_i hk
  rw[mB]at hx ⊢
  refine⟨hx.1,?_⟩
  have hx:=hx.2
  rw[jC]at hx ⊢
  split at hx
  ·rename_i e;rw[if_pos e];exact hx
  ·rename_i e
   rw[if_neg e];simp only[mA,mB]at hx ⊢
   obtain⟨a1,h1,b1,h2,k1,h3,h4,h5⟩:=hx
   refine⟨a1,h1,b1,h2,k1,h3,h4,?_⟩
   unfold qV at h5 ⊢
   split at h5
   ·simp only[mA]at h5 ⊢
    obtain⟨c,g1,g2⟩:=h5
    exact⟨c,pM h g1,g2⟩
   ·exact h5
theorem zon(h:HLe H HA){s d:Nat}{a:zA}(hx:aL C s d H a=some v):aL C s d HA a=some v:=by
 unfold aL at hx ⊢
 simp only[mA]at hx ⊢
 obtain⟨a1,h1,b1,h2,h3⟩:=hx
 exact⟨a1,h1,b1,h2,zad h h3⟩
theorem zdk(h:HLe H HA){b size cap l:Nat}{arr:Bool}(hx:oH H b size cap l arr=true):oH HA b size cap l arr=true:=by
 unfold oH at hx ⊢
 cases hc:oD H b with
 | none=>rw[hc]at hx;cases hx
 | some c=>rw[hc]at hx;rw[pM h hc];exact hx
theorem iY(h:HLe H HA){ty:wD}{a:zA}{l r:Option zA}(hx:aJ C H ty a l r=some v):aJ C HA ty a l r=some v:=by
 have row:∀ {arr e b off len cap},wL C H arr e b off len cap l r=some v->wL C HA arr e b off len cap l r=some v:=by
  intro arr e b off len cap hx;unfold wL at hx ⊢
  simp only[mA]at hx ⊢
  obtain⟨a1,h1,b1,h2,hx⟩:=hx
  refine⟨a1,h1,b1,h2,?_⟩
  cases hb:oD H b with
  | none=>
   have e1:iH H b a1.size cap b1.1 arr=false:=by unfold iH;rw[hb]
   have e2:oH H b a1.size cap b1.1 arr=false:=by unfold oH;rw[hb]
   rw[e1,e2,Bool.and_false,Bool.and_false]at hx
   cases hx
  | some c=>
   have e1:iH HA b a1.size cap b1.1 arr=iH H b a1.size cap b1.1 arr:=by unfold iH;rw[hb,pM h hb]
   have e2:oH HA b a1.size cap b1.1 arr=oH H b a1.size cap b1.1 arr:=by unfold oH;rw[hb,pM h hb]
   rw[e1,e2];exact hx
 unfold aJ at hx ⊢
 split at hx
 ·exact hx
 ·split at hx
  ·rw[mA]at hx ⊢;obtain⟨a1,h1,h2⟩:=hx;exact⟨a1,h1,row h2⟩
  ·split at hx
   ·rw[mA]at hx ⊢;obtain⟨a1,h1,h2⟩:=hx;exact⟨a1,h1,row h2⟩
   ·exact hx
theorem zbm(h:HLe H HA){ty:Nat}{a:zA}{l r:Option zA}(hx:cG C ty H a l r=some v):cG C ty HA a l r=some v:=by
 unfold cG at hx ⊢
 rw[mA]at hx ⊢
 obtain⟨a1,h1,h2⟩:=hx
 exact⟨a1,h1,iY h h2⟩
theorem zaa(h:HLe H HA){m:zA}{l:List (zA × zA)}(hx:kP H m=some l):kP HA m=some l:=by
 unfold kP at hx ⊢
 split at hx
 ·exact pV h hx
 ·exact hx
theorem zg3(h:HLe H HA){ty:Nat}{m k:zA}{ok:Bool}(hx:tP C ty H m k ok=some v):tP C ty HA m k ok=some v:=by
 unfold tP at hx ⊢
 simp only[mA,mB]at hx ⊢
 obtain⟨a1,h1,b1,h2,c1,h3,h4,d1,h5,es,h6,h7⟩:=hx
 exact⟨a1,h1,b1,h2,c1,h3,h4,d1,h5,es,zaa h h6,h7⟩
theorem zcj(h:HLe H HA){ty:wD}{a:zA}{n:Nat}(hx:zui H ty a=some n):zui HA ty a=some n:=by
 unfold zui at hx ⊢
 split at hx
 ·exact hx
 ·split at hx
  ·exact hx
  ·split at hx
   ·exact hx
   ·split at hx
    ·rw[mB,mA]at hx ⊢
     obtain⟨h1,l,h2,h3⟩:=hx
     exact⟨h1,l,pV h h2,h3⟩
    ·exact hx
theorem zq6(h:HLe H HA){ty:Nat}{a:zA}(hx:zqk C ty H a=some v):zqk C ty HA a=some v:=by
 unfold zqk at hx ⊢
 simp only[mA]at hx ⊢
 obtain⟨a1,h1,n,h2,h3⟩:=hx
 exact⟨a1,h1,n,zcj h h2,h3⟩
theorem zut{ty:Nat}{a:Operand}:bM ty a C e H=ob (ev a e) fun v=>jA C ty H v:=rfl
theorem zuw{s d:Nat}{x:Operand}{u:zA}(hx:ev x e=some u):sL s d x C e H=aL C s d H u:=by unfold sL aL;rw[hx];rfl
theorem zy9{ty:Nat}{x:Operand}{lo hi:Option Operand}{a:zA}{l r:Option zA}(h1:ev x e=some a)(h2:evo lo e=some l)(h3:evo hi e=some r):eQ ty x lo hi C e H=cG C ty H a l r:=by unfold eQ cG;rw[h1,uA,h2,uA,h3,uA]
theorem zar{s f:Nat}{x:Operand}{u:zA}(hx:ev x e=some u):hO s x f C e H=cB C s f u:=by
 unfold hO cB vO;rw[hx]
 cases C.tys.get s with
 | none=>rfl
 | some ty=>
  simp only[uA]
  cases ty.desc.asStruct with
  | none=>rfl
  | some fs=>
   simp only[uA]
   cases nD fs f with
   | none=>rfl
   | some fd=>simp only[uA];cases hb:(!Nat.beq fd.2.2 0)<;>rfl
theorem zaq{ty:Nat}{x i:Operand}{u w:zA}(hx:ev x e=some u)(hi:ev i e=some w):jO ty x i C e H=yB C ty u w:=by unfold jO yB;rw[hx,hi];rfl
theorem zzb{ty:Nat}{x i:Operand}{u w:zA}(hx:ev x e=some u)(hi:ev i e=some w):iO ty x i C e H=pN C ty u w:=by unfold iO pN;rw[hx,hi];rfl
theorem z1p{x:Operand}{u:zA}(hx:ev x e=some u):zza x C e H=lG u:=by unfold zza lG;rw[hx];rfl
theorem zpq{x:Operand}{i:Nat}{u:zA}(hx:ev x e=some u):gO x i C e H=wC i u:=by unfold gO wC;rw[hx];rfl
theorem lBin_v{op:BinOp}{ty:Nat}{x y:Operand}{u w:zA}(hx:ev x e=some u)(hy:ev y e=some w):gK op ty x y C e H=(dK op).f C ty x y u w:=by unfold gK;rw[hx,hy];rfl
theorem zuy{x:Operand}{a:Nat}{ok:Bool}{u:zA}(hx:ev x e=some u):fO x a ok C e H=zjp C a ok u:=by
 unfold fO zjp;rw[hx];rfl
theorem zus{ty:Nat}{x i:Operand}{ok:Bool}{m k:zA}(hx:ev x e=some m)(hi:ev i e=some k):kO ty x i ok C e H=tP C ty H m k ok:=by unfold kO tP;rw[hx,hi];rfl
theorem lLen_v{c:Call}{ty:Nat}{x:Operand}{u:zA}(h1:nD c.argTypes.toList 0=some ty)(h2:nD c.args.toList 0=some x)(hx:ev x e=some u):zni c C e H=zqk C ty H u:=by unfold zni zqk;rw[h1,uA,h2,uA,hx];rfl
theorem zz2(he:yO e e'){op:Op}(hp:zfr op=true\/(∃s d x,op=.convert s d x/\(wH C d=1\/wH C s=2))\/(∃c,op=.call c/\(c.callee=.builtin .max\/c.callee=.builtin .min))){H':rA}(h:(pF op).f C e H=some v):(pF op).f C e' H'=some v:=by
 rcases hp with hp | hp | hp
 ·cases op<;>simp only[zfr]at hp<;>try (cases hp;done)
  case move x=>exact gD he h
  case assign x=>exact gD he h
  case pick c a b=>
   have h:ob (ev c e) (fun c=>ob c.asBool fun c=>bif c then ev a e else ev b e)=some v:=h
   show ob (ev c e') (fun c=>ob c.asBool fun c=>bif c then ev a e' else ev b e')=some v
   simp only[mA]at h ⊢
   obtain⟨u,h1,w,h2,h3⟩:=h
   refine⟨u,gD he h1,w,h2,?_⟩
   cases w with
   | true=>exact gD he h3
   | false=>exact gD he h3
  case nilCheck x=>
   have h:ob (ev x e) (fun u=>sB (Nat.beq u.tag 4||Nat.beq u.tag 9) (some u))=some v:=h
   show ob (ev x e') (fun u=>sB (Nat.beq u.tag 4||Nat.beq u.tag 9) (some u))=some v
   rw[mA]at h ⊢
   obtain⟨u,h1,h2⟩:=h
   exact⟨u,gD he h1,h2⟩
  case binOp op t x y u=>
   have h:gK op t x y C e H=some v:=h
   show gK op t x y C e' H'=some v
   unfold gK at h ⊢
   simp only[mA]at h ⊢
   obtain⟨a,h1,b,h2,h3⟩:=h
   exact⟨a,gD he h1,b,gD he h2,h3⟩
  case unOp op t x=>
   have h:lUn op x C e H=some v:=h
   show lUn op x C e' H'=some v
   unfold lUn at h ⊢
   rw[mA]at h ⊢
   obtain⟨a,h1,h2⟩:=h
   exact⟨a,gD he h1,h2⟩
  case makeInterface t x=>
   have h:kR t x C e H=some v:=h
   show kR t x C e' H'=some v
   unfold kR at h ⊢
   simp only[mA,mB]at h ⊢
   obtain⟨a,h1,h2,b,h3,h4⟩:=h
   exact⟨a,h1,h2,b,gD he h3,h4⟩
  case makeFunc fn a b=>
   have h:(jR fn a b).f C e H=some v:=h
   show(jR fn a b).f C e' H'=some v
   unfold jR at h ⊢
   split at h
   ·show zuv _ a b C e' H'=some v
    unfold zuv at h ⊢
    simp only[mA]at h ⊢
    obtain⟨x,h1,y,h2,h3⟩:=h
    exact⟨x,zgk he h1,y,zgk he h2,h3⟩
   ·cases h
  case fieldAddr s x f=>
   have h:hO s x f C e H=some v:=h
   show hO s x f C e' H'=some v
   unfold hO at h ⊢
   simp only[mA,mB]at h ⊢
   obtain⟨a,h1,b,h2,c,h3,h4,u,h5,h6⟩:=h
   exact⟨a,h1,b,h2,c,h3,h4,u,gD he h5,h6⟩
  case field t x f=>
   have h:iR t x f C e H=some v:=h
   show iR t x f C e' H'=some v
   unfold iR at h ⊢
   simp only[mA]at h ⊢
   obtain⟨a,h1,b,h2,c,h3,u,h5,h6⟩:=h
   exact⟨a,h1,b,h2,c,h3,u,gD he h5,h6⟩
  case indexAddr t x i=>
   have h:jO t x i C e H=some v:=h
   show jO t x i C e' H'=some v
   unfold jO at h ⊢
   simp only[mA]at h ⊢
   obtain⟨a,h1,b,h2,c,h3,h4⟩:=h
   exact⟨a,h1,b,gD he h2,c,gD he h3,h4⟩
  case index t x i=>
   have h:iO t x i C e H=some v:=h
   show iO t x i C e' H'=some v
   unfold iO at h ⊢
   simp only[mA]at h ⊢
   obtain⟨a,h1,b,h2,c,h3,h4⟩:=h
   exact⟨a,h1,b,gD he h2,c,gD he h3,h4⟩
  case extract t i=>
   have h:gO t i C e H=some v:=h
   show gO t i C e' H'=some v
   unfold gO at h ⊢
   rw[mA]at h ⊢
   obtain⟨a,h1,h2⟩:=h
   exact⟨a,gD he h1,h2⟩
  case build t ps=>
   have h:jP t ps C e H=some v:=h
   show jP t ps C e' H'=some v
   unfold jP at h ⊢
   rw[mA]at h ⊢
   obtain⟨a,h1,h⟩:=h
   refine⟨a,h1,?_⟩
   rw[mA]at h ⊢
   obtain⟨b,h2,h⟩:=h
   exact⟨b,zgl he h2,h⟩
  case typeAssert x t u ok=>
   have h:fO x u ok C e H=some v:=h
   show fO x u ok C e' H'=some v
   unfold fO at h ⊢
   rw[mA]at h ⊢
   obtain⟨a,h1,h⟩:=h
   refine⟨a,h1,?_⟩
   rw[mB]at h ⊢
   refine⟨h.1,?_⟩
   have h:=h.2
   rw[mA]at h ⊢
   obtain⟨b,h2,h⟩:=h
   exact⟨b,gD he h2,h⟩
 ·obtain⟨s,d,x,rfl,hp⟩:=hp
  have h:sL s d x C e H=some v:=h
  show sL s d x C e' H'=some v
  unfold sL at h ⊢
  simp only[mA]at h ⊢
  obtain⟨u,h1,sy,h2,dy,h3,h4⟩:=h
  refine⟨u,gD he h1,sy,h2,dy,h3,?_⟩
  unfold wN at h4 ⊢
  split at h4
  ·exact h4
  ·rename_i hd
   rw[mB]at h4 ⊢
   refine⟨h4.1,?_⟩
   have h4:=h4.2
   rw[jC]at h4 ⊢
   split at h4
   ·rename_i e;rw[if_pos e];exact h4
   ·rename_i e
    exfalso
    rcases hp with hp | hp
    ·unfold wH at hp
     rw[h3]at hp;have hp:dy.desc.tag=1:=hp
     cases hx:dy.desc<;>rw[hx]at hp hd<;>first
      | (cases hp;done)
      | (cases hd;done)
    ·unfold wH at hp
     rw[h2]at hp;have hp:sy.desc.tag=2:=hp
     simp only[mA]at h4;obtain⟨el,h5,_⟩:=h4
     cases hx:sy.desc<;>rw[hx]at hp h5<;>first
      | (cases hp;done)
      | (cases h5;done)
 ·obtain⟨c,rfl,hc⟩:=hp
  rcases hc with hc | hc
  ·have h:(iN c c.callee).f C e H=some v:=h
   show(iN c c.callee).f C e' H'=some v
   rw[hc]at h ⊢
   have h:zur c C e H=some v:=h
   show zur c C e' H'=some v
   unfold zur at h ⊢
   rw[mA]at h ⊢
   obtain⟨p,h1,h2⟩:=h
   exact⟨p,zfb he h1,h2⟩
  ·have h:(iN c c.callee).f C e H=some v:=h
   show(iN c c.callee).f C e' H'=some v
   rw[hc]at h ⊢
   have h:zup c C e H=some v:=h
   show zup c C e' H'=some v
   unfold zup at h ⊢
   rw[mA]at h ⊢
   obtain⟨p,h1,h2⟩:=h
   exact⟨p,zfb he h1,h2⟩
end
end Go.Am
namespace Go.Am
open Go Go.RowKit
section
variable {base:Nat}{t:Tr lA}{X:Xt}{H HA:rA}{e e':xD}{C:iA}{v:zA}
theorem Ov.newBlk(h:Ov base t X HA)(y:lA):Ov base (t.set HA.next y) X (newBlk HA y):=by
 refine⟨Nat.le_succ_of_le h.base,fun b hb=>?_,fun b z hb=>?_,fun b z hb=>?_⟩
 ·show(HA.t.set HA.next y).get b=_
  rw[Tr.get_set,Tr.get_set];split
  ·rfl
  ·exact h.same b hb
 ·obtain⟨h1,h2,h3⟩:=h.ext b z hb
  have hne:b≠HA.next:=Nat.ne_of_lt h3
  refine⟨?_,?_,Nat.lt_succ_of_lt h3⟩
  ·show(HA.t.set HA.next y).get b=_
   rw[Tr.get_set,if_neg hne];exact h1
  ·rw[Tr.get_set,if_neg hne];exact h2
 ·rw[Tr.get_set]at hb
  show b<HA.next+1
  split at hb
  ·rename_i e;rw[e];exact Nat.lt_succ_self _
  ·exact Nat.lt_succ_of_lt (h.lt _ _ hb)
theorem Ov.setBlk(h:Ov base t X HA){b:Nat}{y:lA}(hb:t.get b=some y)(z:lA):Ov base (t.set b z) X (setBlk HA b z):=by
 refine⟨h.base,fun c hc=>?_,fun c u hc=>?_,fun c u hc=>?_⟩
 ·show(HA.t.set b z).get c=_
  rw[Tr.get_set,Tr.get_set];split
  ·rfl
  ·exact h.same c hc
 ·obtain⟨h1,h2,h3⟩:=h.ext c u hc
  have hne:c≠b:=fun e=>by rw[e,hb]at h2;cases h2
  refine⟨?_,?_,h3⟩
  ·show(HA.t.set b z).get c=_
   rw[Tr.get_set,if_neg hne];exact h1
  ·rw[Tr.get_set,if_neg hne];exact h2
 ·rw[Tr.get_set]at hc
  show c<HA.next
  split at hc
  ·rename_i e;rw[e];exact h.lt _ _ hb
  ·exact h.lt _ _ hc
theorem Ov.delBlk(h:Ov base t X HA){b:Nat}{y:lA}(hb:t.get b=some y):Ov base (t.del b) X ⟨HA.next,HA.t.del b⟩:=by
 refine⟨h.base,fun c hc=>?_,fun c u hc=>?_,fun c u hc=>?_⟩
 ·show(HA.t.del b).get c=_
  rw[Tr.get_del,Tr.get_del];split
  ·rfl
  ·exact h.same c hc
 ·obtain⟨h1,h2,h3⟩:=h.ext c u hc
  have hne:c≠b:=fun e=>by rw[e,hb]at h2;cases h2
  refine⟨?_,?_,h3⟩
  ·show(HA.t.del b).get c=_
   rw[Tr.get_del,if_neg hne];exact h1
  ·rw[Tr.get_del,if_neg hne];exact h2
 ·rw[Tr.get_del]at hc
  show c<HA.next
  split at hc
  ·cases hc
  ·exact h.lt _ _ hc
def zxc (base:Nat)(x:rA->Option (zA × rA)):Prop:=∀t X HA v H',Ov base t X HA->x ⟨HA.next,t⟩=some (v,H')->∃HA',x HA=some (v,HA')/\Ov base H'.t X HA'
theorem zcd(l:List zA)(lo:Option Nat)(h:Ov base t X HA):Ov base (vF ⟨HA.next,t⟩ l lo).t X (vF HA l lo):=h.newBlk _
theorem zq9{ty:Nat}:zxc base (oN C ty):=by
 intro t X HA v H' ho h;unfold oN at h ⊢
 rw[mA]at h;obtain⟨y,h1,h2⟩:=h
 cases h2;rw[h1];exact⟨_,rfl,zcd _ _ ho⟩
theorem z2y{u:zA}:zxc base (zq8 u):=by
 intro t X HA v H' ho h
 cases h;exact⟨_,rfl,zcd _ _ ho⟩
theorem zdh{ty n:Nat}{ps:List (Nat × zA)}:zxc base (eD C ty n ps):=by
 intro t X HA v H' ho h;unfold eD at h ⊢
 simp only[mA,mB]at h;obtain⟨a,h1,b,h2,c,h3,h4,l,h5,h6⟩:=h
 cases h6;refine⟨vF HA l none,?_,zcd _ _ ho⟩
 simp only[mA,mB];exact⟨a,h1,b,h2,c,h3,h4,l,h5,rfl⟩
theorem zhf(ho:Ov base t X HA){b off:Nat}{l:List zA}{H':rA}(h:nK C ⟨HA.next,t⟩ b off l=some H'):∃HA',nK C HA b off l=some HA'/\Ov base H'.t X HA':=by
 unfold nK at h ⊢
 simp only[mA,mB]at h;obtain⟨h1,c,h2,h3,h4⟩:=h
 cases h4;have h2':=h2
 unfold oD at h2';rw[mA]at h2'
 obtain⟨y,h5,_⟩:=h2'
 refine⟨_,?_,ho.setBlk h5 _⟩
 simp only[mA,mB];exact⟨h1,c,pM ho.le h2,h3,rfl⟩
theorem zq5{ty:Nat}{a u:zA}:zxc base (cD C ty a u):=by
 intro t X HA v H' ho h;unfold cD at h ⊢
 simp only[mA,mB]at h;obtain⟨y,h1,p,h2,h3,H1,h4,h5⟩:=h
 cases h5;obtain⟨HA',h6,h7⟩:=zhf ho h4
 refine⟨HA',?_,h7⟩
 simp only[mA,mB];exact⟨y,h1,p,h2,h3,HA',h6,rfl⟩
theorem zjo:zxc base wU:=by
 intro t X HA v H' ho h
 cases h;exact⟨_,rfl,ho.newBlk _⟩
theorem zdt{ty:Nat}{m k u:zA}:zxc base (uR C ty m k u):=by
 intro t X HA v H' ho h;unfold uR at h ⊢
 simp only[mA,mB]at h;obtain⟨a,h1,b,h2,c,h3,h4,d,h5,h6,l,h7,h8,l',h9,h10⟩:=h
 cases h10;have h7':=h7
 unfold nL at h7';rw[mA]at h7'
 obtain⟨y,h11,_⟩:=h7'
 refine⟨_,?_,ho.setBlk h11 _⟩
 simp only[mA,mB];exact⟨a,h1,b,h2,c,h3,h4,d,h5,h6,l,pV ho.le h7,h8,l',h9,rfl⟩
theorem ze8{ty:Nat}{l c:zA}:zxc base (yL C ty l c):=by
 intro t X HA v H' ho h;unfold yL at h ⊢
 simp only[mA,mB]at h;obtain⟨a,h1,b,h2,d,h3,n,h4,m,h5,h6,h7⟩:=h
 cases h7;refine⟨vF HA (rJ d.zero m) none,?_,zcd _ _ ho⟩
 simp only[mA,mB];exact⟨a,h1,b,h2,d,h3,n,h4,m,h5,h6,rfl⟩
theorem zjn{s d:Nat}{u:zA}:zxc base (ze7 C s d u):=by
 intro t X HA v H' ho h;unfold ze7 at h ⊢
 simp only[mA,mB]at h;obtain⟨a,h1,b,h2,c,h3,et,h4,k,h5,h6,l,h7,h8⟩:=h
 cases h8;refine⟨vF HA (cO l) (some 1),?_,zcd _ _ ho⟩
 simp only[mA,mB];exact⟨a,h1,b,h2,c,h3,et,h4,k,h5,h6,l,h7,rfl⟩
theorem zk0(h:HLe H HA){sz n:Nat}{u:zA}{l:List zA}(hx:aR H sz n u=some l):aR HA sz n u=some l:=by
 unfold aR at hx ⊢
 split at hx
 ·rw[mA]at hx ⊢
  obtain⟨c,h1,h2⟩:=hx
  exact⟨c,pM h h1,h2⟩
 ·exact hx
theorem zqg(ho:Ov base t X HA){ty:wD}{a b:zA}{H':rA}(h:eL C ⟨HA.next,t⟩ ty a b=some (v,H')):∃HA',eL C HA ty a b=some (v,HA')/\Ov base H'.t X HA':=by
 unfold eL at h;simp only[mA]at h;obtain⟨el,h1,et,h2,n,h3,new,h4,h5⟩:=h
 have h4':=zk0 ho.le h4
 suffices hs:∃HA',(match a.asSlice with
  | some s=>bif Nat.ble (s.2.2.1+n) s.2.2.2 then fN C HA et n new s else zN C HA et n new s
  | none=>sB (Nat.beq a.tag 5) (sM HA et n new))=some (v,HA')/\Ov base H'.t X HA' by
  obtain⟨HA',g1,g2⟩:=hs
  refine⟨HA',?_,g2⟩
  unfold eL;simp only[mA];exact⟨el,h1,et,h2,n,h3,new,h4',g1⟩
 cases hs:a.asSlice with
 | some s=>
  rw[hs]at h5;simp only[]at h5 ⊢
  rw[jC]at h5;split at h5
  ·rename_i hr
   simp only[hr,cond_true];unfold fN at h5 ⊢
   split at h5
   ·cases h5;exact⟨HA,rfl,ho⟩
   ·rw[mA]at h5
    obtain⟨H1,g1,g2⟩:=h5
    cases g2
    obtain⟨HA',g3,g4⟩:=zhf ho g1
    exact⟨HA',by simp only[g3,uA],g4⟩
  ·rename_i hr
   simp only[Bool.not_eq_true]at hr;simp only[hr,cond_false];unfold zN at h5 ⊢
   rw[mB]at h5;obtain⟨gm,h5⟩:=h5
   rw[mB]at h5;obtain⟨g0,h5⟩:=h5
   rw[mA]at h5;obtain⟨c,g1,h5⟩:=h5
   have g1':=pM ho.le g1
   unfold oD at g1;rw[mA]at g1;obtain⟨y,g2,_⟩:=g1
   split at h5
   ·rename_i hc
    unfold dR at h5;rw[mA]at h5;obtain⟨old,g3,g4⟩:=h5
    cases g4
    refine⟨vF HA (jF old new) (some et.size),?_,zcd _ _ ho⟩
    simp only[mB,mA];refine⟨gm,g0,c,g1',?_⟩
    rw[hc];unfold dR;simp only[mA];exact⟨old,g3,rfl⟩
   ·rename_i es hc
    unfold xV at h5;rw[mB]at h5;obtain⟨g3,g4⟩:=h5
    cases g4
    refine⟨⟨HA.next+1,(HA.t.del s.1).set HA.next (.cells (c.1.setMany new (s.2.2.1*es)) ((s.2.2.1+n)*es) (some es))⟩,?_,(ho.delBlk g2).newBlk _⟩
    simp only[mB,mA];refine⟨gm,g0,c,g1',?_⟩
    rw[hc];unfold xV;exact mB.2 ⟨g3,rfl⟩
 | none=>
  rw[hs]at h5;simp only[]at h5 ⊢
  rw[mB]at h5;obtain⟨g0,h5⟩:=h5
  unfold sM at h5;rw[jC]at h5;split at h5
  ·rename_i hn
   cases h5;refine⟨HA,?_,ho⟩
   rw[mB];refine⟨g0,?_⟩
   unfold sM;rw[hn];rfl
  ·rename_i hn
   rw[mB]at h5;obtain⟨g1,h5⟩:=h5
   cases h5;refine⟨vF HA new (some et.size),?_,zcd _ _ ho⟩
   rw[mB];refine⟨g0,?_⟩
   unfold sM;simp only[Bool.not_eq_true]at hn;rw[hn,cond_false,mB];exact⟨g1,rfl⟩
theorem zoo{ty u:Nat}{a b:zA}:zxc base (kD C ty u a b):=by
 intro t X HA v H' ho h;unfold kD at h;simp only[mA,mB]at h;obtain⟨y,h1,z,h2,h3,h4⟩:=h
 obtain⟨HA',g1,g2⟩:=zqg ho h4
 refine⟨HA',?_,g2⟩
 unfold kD;simp only[mA,mB];exact⟨y,h1,z,h2,h3,g1⟩
end
def kV(ν:Nat->Nat)(ae:mL)(e:xD):Prop:=∀i p,tAd ae i=some p->zw8 i e=some (.ptr (ν p.1) p.2)
def zw3(base:Nat)(X0 X:Xt)(ν:Nat->Nat)(lo:Tr (List zA)):Prop:=∀d l,lo.get d=some l->X0 (ν d)=none/\base<=ν d/\∃c,X (ν d)=some (.cells c l.length none)/\∀j a,l[j]?=some a->c.get j=some a
theorem qE{base:Nat}{W J:zJ}{α:Type}{x:Option α}{K:α->T}{t:Tr lA}{Q:bB}:pA base W J (vC x K) t Q ↔ ∃a,x=some a/\pA base W J (K a) t Q:=by
 cases x with
 | none=>exact⟨fun h=>(by cases h),fun⟨_,h,_⟩=>(by cases h)⟩
 | some a=>exact⟨fun h=>⟨a,rfl,h⟩,fun⟨_,h,k⟩=>(by cases h;exact k)⟩
theorem cL{base:Nat}{W J:zJ}{b:Bool}{K:T}{t:Tr lA}{Q:bB}:pA base W J (gdT b K) t Q ↔ b=true/\pA base W J K t Q:=by
 cases b with
 | false=>exact⟨fun h=>(by cases h),fun⟨h,_⟩=>(by cases h)⟩
 | true=>exact⟨fun h=>⟨rfl,h⟩,fun⟨_,h⟩=>h⟩
theorem wP{base:Nat}{W J:zJ}{x:Option zA}{K:zA->T}{t:Tr lA}{Q:bB}:pA base W J (.opt x K) t Q ↔ ∃a,x=some a/\pA base W J (K a) t Q:=jQ
theorem yU{base:Nat}{W J:zJ}{x:Tr lA->Option zA}{K:zA->T}{t:Tr lA}{Q:bB}:pA base W J (.light x K) t Q ↔ ∃a,x t=some a/\pA base W J (K a) t Q:=jQ
theorem fS{ν:Nat->Nat}{ae:mL}{e:xD}(h:kV ν ae e){x:Operand}{p:Nat × Nat}(hx:xAd ae x=some p):ev x e=some (.ptr (ν p.1) p.2):=by
 cases x with
 | tmp i=>exact h i p hx
 | const _=>cases hx
 | global _=>cases hx
 | func _=>cases hx
theorem z4a{c:Tr zA}{l:List zA}(h:∀j a,l[j]?=some a->c.get j=some a):∀(n off:Nat),off+n<=l.length->c.many n off=some ((l.drop off).take n):=by
 intro n;induction n with
 | zero=>intro off _;simp;rfl
 | succ n ih=>
  intro off ho;have hlt:off<l.length:=by omega
  rw[Tr.many_succ,h off l[off] (yae hlt),uA,ih (off+1) (by omega),uA]
  rw[yam hlt,List.take_succ_cons]
section
variable {W J:zJ}{t:Tr lA}{X X0:Xt}{HA:rA}{e eA:xD}{C:iA}{ν:Nat->Nat}{ae:mL}{lo:Tr (List zA)}{k:KOp}{Q:bB}{R:zA->Prop}
theorem zne(ho:Ov C.base t X HA)(hl:zw3 C.base X0 X ν lo){d off ty:Nat}{l:List zA}{y:wD}{v:zA}(h1:lo.get d=some l)(h2:C.tys.get ty=some y)(h3:Nat.ble (off+y.size) (uB l)=true)(h4:lN C ty l off=some v) :
  jA C ty HA (.ptr (ν d) off)=some v:=by
 obtain⟨_,_,c,hc,hg⟩:=hl d l h1
 have hb:=(ho.ext _ _ hc).1
 unfold jA;simp only[zA.asPtr,uA];rw[h2,uA];unfold oD;rw[hb,uA];simp only[lA.asCells,uA];unfold lN at h4;rw[h2,uA]at h4;unfold cM;rw[jC]at h4 ⊢
 rw[eE,xE]at h3;split at h4
 ·rename_i ha
  rw[if_pos ha,z4a hg _ _ h3,uA];rw[jT,lO]at h4;exact h4
 ·rename_i ha
  rw[if_neg ha];rw[dD]at h4;exact hg _ _ h4
theorem jM(he:yO e eA){op:Op}(hp:zfr op=true\/(∃s d x,op=.convert s d x/\(wH C d=1\/wH C s=2))\/(∃c,op=.call c/\(c.callee=.builtin .max\/c.callee=.builtin .min)))
  (h:pA C.base W J (zmd C op e k) t Q) (hKd:∀v,pA C.base W J (k.Kd v) t Q->R v):∃v,(pF op).f C eA HA=some v/\R v:=by
 unfold zmd at h;rw[qE]at h;obtain⟨v,h1,h2⟩:=h
 exact⟨v,zz2 he hp h1,hKd v h2⟩
theorem zq7{ty:Nat}{u v:zA}{H:rA}(ht:wH C ty=4)(h:rB u=some v):zqk C ty H u=some v:=by
 unfold wH at ht
 cases hy:C.tys.get ty with
 | none=>rw[hy]at ht;cases ht
 | some y=>
  rw[hy]at ht;have ht:y.desc.tag=4:=ht
  unfold zqk;rw[hy,uA];unfold rB at h;unfold zui
  cases u<;>simp only[zA.asSlice,zA.asStr,zA.asMap,zA.tag]at h ⊢ <;> (try (rw[mB]at h;exact absurd h.1 (by decide)))
  case nilslice=>
   rw[mB]at h;have hn:y.desc.asArr=none:=by cases hd:y.desc<;>rw[hd]at ht<;>first | rfl | (cases ht;done)
   rw[hn,ht];simp only[mA,mB];exact⟨0,⟨rfl,rfl⟩,h.2⟩
  case slice a b n m=>
   rw[ht]
   cases h;simp only[mA,mB];exact⟨n,⟨rfl,rfl⟩,rfl⟩
theorem zva{ty:Nat}{u v:zA}{H H':rA}(ht:wH C ty≠6)(h:zqk C ty H u=some v):zqk C ty H' u=some v:=by
 unfold zqk at h ⊢
 simp only[mA]at h ⊢
 obtain⟨y,h1,n,h2,h3⟩:=h
 refine⟨y,h1,n,?_,h3⟩
 have ht:¬ Nat.beq y.desc.tag 6=true:=by
  intro hb;apply ht;unfold wH;rw[h1];exact aB.1 hb
 unfold zui at h2 ⊢
 split at h2
 ·exact h2
 ·split at h2
  ·exact h2
  ·split at h2
   ·exact h2
   ·split at h2
    ·rw[mB]at h2;exact absurd h2.1 ht
    ·exact h2
theorem zsn{ty:Nat}{a v:zA}{l h:Option zA}{H H':rA}(ht:wH C ty=2)(hx:cG C ty H a l h=some v):cG C ty H' a l h=some v:=by
 unfold cG at hx ⊢
 rw[mA]at hx ⊢
 obtain⟨y,h1,h2⟩:=hx
 refine⟨y,h1,?_⟩
 unfold wH at ht;rw[h1]at ht;have ht:y.desc.tag=2:=ht
 unfold aJ at h2 ⊢
 have n1:y.desc.asSlice=none:=by cases hd:y.desc<;>rw[hd]at ht<;>first | rfl | (cases ht;done)
 have n2:y.desc.asArr=none:=by cases hd:y.desc<;>rw[hd]at ht<;>first | rfl | (cases ht;done)
 split at h2
 ·exact h2
 ·split at h2
  ·rw[n1]at h2;cases h2
  ·split at h2
   ·rw[n2]at h2;cases h2
   ·exact h2
theorem uW{u:zA}(h:zA.one u=true):u.cells=[u]:=by
 cases u<;>first
  | rfl
  | (have:=pC.1 h;simp[zA.tag]at this)
theorem zp3{tyAt:Nat->Option Nat}(place:Nat->Option (Nat × Nat)):∀(vs:List (Nat × zA)) {q:List (Nat × zA × List zA) × List zA},ztl C tyAt vs=some q->iB zA.one q.2=true->∀cells l,zzw place q.1 cells=some l->dN place vs cells=some l:=by
 intro vs;induction vs with
 | nil=>intro q h _ cells l hl;cases h;exact hl
 | cons p vs ih=>
  intro q h h1 cells l hl;have h:(ob (tyAt p.1) fun t=>ob (C.tys.get t) fun ty=>ob (ztl C tyAt vs) fun r=>some (bif ty.desc.isAgg then((p.1,p.2,p.2.cells)::r.1,r.2)else((p.1,p.2,[p.2])::r.1,p.2::r.2)))=some q:=h
  simp only[mA]at h;obtain⟨ty,_,y,_,r,h3,h4⟩:=h
  have dC:∀(rest:List zA),iB zA.one r.2=true->(ob (place p.1) fun q=>ob (zzv cells q.1 q.2 p.2.cells) fun cells=>zzw place r.1 cells)=some l->dN place (p::vs) cells=some l:=by
   intro _ hr hl;show(ob (place p.1) fun q=>ob (vV cells q.1 q.2 p.2) fun cells=>dN place vs cells)=some l
   simp only[mA]at hl ⊢
   obtain⟨a,g1,b,g2,g3⟩:=hl
   exact⟨a,g1,b,g2,ih h3 hr _ _ g3⟩
  cases hb:y.desc.isAgg with
  | true=>
   rw[hb]at h4
   cases h4;exact dC [] h1 hl
  | false=>
   rw[hb]at h4
   cases h4;rw[iF,cond_false]at h1;simp only[ybh,yac]at h1;have hl:(ob (place p.1) fun q=>ob (zzv cells q.1 q.2 [p.2]) fun cells=>zzw place r.1 cells)=some l:=hl
   rw[<- uW h1.1]at hl;exact dC [] (by rw[iF];exact h1.2) hl
theorem z26(he:yO e eA)(ha:kV ν ae eA)(ho:Ov C.base t X HA)(hl:zw3 C.base X0 X ν lo){op:Op}(h:pA C.base W J (tL C op e ae lo k) t Q)
  (hK:∀v,pA C.base W J (k.K v) t Q->R v) (hKd:∀v,pA C.base W J (k.Kd v) t Q->R v) (hKA:∀d off,pA C.base W J (k.KA d off) t Q->R (.ptr (ν d) off)) :
  ∃v,(pF op).f C eA HA=some v/\R v:=by
 cases op<;>simp only[tL]at h<;>try (cases h;done)
 case move x=>
  unfold zxr at h;split at h
  ·rename_i p hp
   exact⟨_,fS ha hp,hKA _ _ h⟩
  ·exact jM he (.inl rfl) h hKd
 case assign x=>
  unfold zxr at h;split at h
  ·rename_i p hp
   exact⟨_,fS ha hp,hKA _ _ h⟩
  ·exact jM he (.inl rfl) h hKd
 case pick c a b=>exact jM he (.inl rfl) h hKd
 case load ty a=>
  unfold tLoad at h;split at h
  ·rename_i p hp
   simp only[qE,cL]at h;obtain⟨l,h1,y,h2,h3,v,h4,h5⟩:=h
   refine⟨v,?_,hKd v h5⟩
   show bM ty a C eA HA=some v
   rw[zut,fS ha hp,uA];exact zne ho hl h1 h2 h3 h4
  ·rw[qE]at h
   obtain⟨u,h1,h2⟩:=h
   rw[yU]at h2;obtain⟨v,h3,h4⟩:=h2
   refine⟨v,?_,hK v h4⟩
   show bM ty a C eA HA=some v
   rw[zut,gD he h1,uA];exact sP ho.le h3
 case nilCheck x=>
  unfold tNil at h;split at h
  ·rename_i p hp
   refine⟨_,?_,hKA _ _ h⟩
   show zza x C eA HA=_
   rw[z1p (fS ha hp)];rfl
  ·rw[qE]at h
   obtain⟨u,h1,h2⟩:=h
   rw[wP]at h2;obtain⟨v,h3,h4⟩:=h2
   refine⟨v,?_,hK v h4⟩
   show zza x C eA HA=_
   rw[z1p (gD he h1)];exact h3
 case binOp op ty x y u=>
  unfold tBin at h;rw[jC]at h;split at h
  ·exact jM he (.inl rfl) h hKd
  ·simp only[qE,wP]at h
   obtain⟨a,h1,b,h2,v,h3,h4⟩:=h
   refine⟨v,?_,hK v h4⟩
   show gK op ty x y C eA HA=_
   rw[lBin_v (gD he h1) (gD he h2)];exact h3
 case unOp o ty x=>
  split at h
  ·simp only[qE,wP]at h
   obtain⟨u,h1,v,h2,h3⟩:=h
   refine⟨v,?_,hK v h3⟩
   show lUn .xor x C eA HA=_
   unfold lUn;rw[gD he h1];exact h2
  ·exact jM he (.inl rfl) h hKd
 case convert s d x=>
  unfold z27 at h;rw[jC]at h;split at h
  ·rename_i hd
   rw[jC]at h;split at h
   ·rename_i hs
    exact jM he (.inr (.inl ⟨s,d,x,rfl,.inr (aB.1 hs)⟩)) h hKd
   ·simp only[qE,yU]at h
    obtain⟨u,h1,v,h2,h3⟩:=h
    refine⟨v,?_,hK v h3⟩
    show sL s d x C eA HA=_
    rw[zuw (gD he h1)];exact zon ho.le h2
  ·rw[jC]at h
   split at h
   ·rename_i hd
    exact jM he (.inr (.inl ⟨s,d,x,rfl,.inl (aB.1 hd)⟩)) h hKd
   ·cases h
 case makeInterface ty x=>exact jM he (.inl rfl) h hKd
 case makeFunc fn a b=>exact jM he (.inl rfl) h hKd
 case slice ty x lo' hi mx=>
  cases mx with
  | some _=>cases h
  | none=>
   simp only[z00,qE]at h;obtain⟨a,h1,l,h2,r,h3,h4⟩:=h
   rw[jC]at h4;show ∃v,eQ ty x lo' hi C eA HA=some v/\R v
   rw[zy9 (gD he h1) (zn2 he h2) (zn2 he h3)]
   split at h4
   ·rename_i ht
    rw[wP]at h4;obtain⟨v,h5,h6⟩:=h4
    exact⟨v,zsn (aB.1 ht) h5,hK v h6⟩
   ·rw[yU]at h4
    obtain⟨v,h5,h6⟩:=h4
    exact⟨v,zbm ho.le h5,hK v h6⟩
 case fieldAddr s x f=>
  unfold zdy at h;show ∃v,hO s x f C eA HA=some v/\R v
  split at h
  ·rename_i p hp
   rw[qE]at h;obtain⟨o,h1,h2⟩:=h
   refine⟨_,?_,hKA _ _ h2⟩
   rw[zar (fS ha hp)]
   unfold cB;rw[h1];rfl
  ·simp only[qE,wP]at h
   obtain⟨u,h1,v,h2,h3⟩:=h
   refine⟨v,?_,hK v h3⟩
   rw[zar (gD he h1)];exact h2
 case field ty x f=>exact jM he (.inl rfl) h hKd
 case indexAddr ty x i=>
  unfold zdx at h;show ∃v,jO ty x i C eA HA=some v/\R v
  split at h
  ·rename_i p hp
   simp only[qE]at h;obtain⟨iv,h1,n,h2,o,h3,h4⟩:=h
   refine⟨_,?_,hKA _ _ h4⟩
   rw[zaq (fS ha hp) (gD he h1)]
   unfold zl2 at h3;simp only[mA,mB]at h3;obtain⟨y,g1,a,g2,et,g3,g4,g5⟩:=h3
   cases g5
   unfold yB;rw[g1,uA,h2,uA];simp only[zA.asSlice,zA.asPtr,uA];rw[g2,uA,g3,uA,g4];rfl
  ·simp only[qE,wP]at h
   obtain⟨u,h1,w,h2,v,h3,h4⟩:=h
   refine⟨v,?_,hK v h4⟩
   rw[zaq (gD he h1) (gD he h2)];exact h3
 case index ty x i=>
  rw[jC]at h;split at h
  ·exact jM he (.inl rfl) h hKd
  ·simp only[qE,wP]at h
   obtain⟨u,h1,w,h2,v,h3,h4⟩:=h
   refine⟨v,?_,hK v h4⟩
   show iO ty x i C eA HA=_
   rw[zzb (gD he h1) (gD he h2)];exact h3
 case lookup ty x i ok=>
  simp only[qE,yU]at h;obtain⟨m,h1,key,h2,v,h3,h4⟩:=h
  refine⟨v,?_,hK v h4⟩
  show kO ty x i ok C eA HA=_
  rw[zus (gD he h1) (gD he h2)];exact zg3 ho.le h3
 case extract x i=>
  simp only[qE,wP]at h;obtain⟨u,h1,v,h2,h3⟩:=h
  refine⟨v,?_,hK v h3⟩
  show gO x i C eA HA=_
  rw[zpq (gD he h1)];exact h2
 case typeAssert x a u ok=>
  simp only[qE,wP]at h;obtain⟨w,h1,v,h2,h3⟩:=h
  refine⟨v,?_,hK v h3⟩
  show fO x u ok C eA HA=_
  rw[zuy (gD he h1)];exact h2
 case build ty ps=>
  unfold z02 at h;simp only[qE,cL]at h;obtain⟨y,h1,hbd,vs,h2,q,h3,l,h4,h5⟩:=h
  have h5:if iB zA.one q.2=true then pA C.base W J (k.Kd (.agg l)) t Q else False:=h5
  split at h5
  ·rename_i hone
   refine⟨_,?_,hKd _ h5⟩
   show jP ty ps C eA HA=_
   have hf:=zp3 (zed C y) vs h3 hone y.zero l h4
   unfold jP;rw[h1,uA,zgl he h2,uA]
   cases hs:y.desc.asStruct with
   | some fs=>
    simp only[];have:(fun i=>ob (nD fs i) fun x=>some (x.1,x.2.2))=zed C y:=by funext i;unfold zed;rw[hs]
    rw[this,hf];rfl
   | none=>
    simp only[];unfold zi6 at hbd;rw[hs]at hbd;simp only[]at hbd
    cases ha:y.desc.asArr with
    | none=>rw[ha]at hbd;cases hbd
    | some a=>
     rw[ha]at hbd;simp only[]at hbd
     cases hy:C.tys.get a.2 with
     | none=>rw[hy]at hbd;cases hbd
     | some et=>
      simp only[uA];have:(fun i=>some (i*et.size,et.size))=zed C y:=by funext i;unfold zed;rw[hs];simp only[];rw[ha,uA,hy,uA]
      rw[hy,uA,this,hf];rfl
  ·exact h5.elim
 case call c=>
  split at h
  ·rename_i b hb
   cases b<;>simp only[eV]at h<;>try (cases h;done)
   case len=>
    unfold tLen at h;simp only[qE]at h;obtain⟨ty,h1,x,h2,u,h3,h4⟩:=h
    show ∃v,(iN c c.callee).f C eA HA=some v/\R v
    rw[hb];show ∃v,zni c C eA HA=some v/\R v
    rw[lLen_v h1 h2 (gD he h3)]
    rw[jC]at h4;split at h4
    ·rename_i ht
     rw[wP]at h4;obtain⟨v,h5,h6⟩:=h4
     exact⟨v,zq7 (aB.1 ht) h5,hK v h6⟩
    ·rw[jC]at h4
     split at h4
     ·rw[yU]at h4
      obtain⟨v,h5,h6⟩:=h4
      exact⟨v,zq6 ho.le h5,hK v h6⟩
     ·rename_i ht
      rw[qE]at h4;obtain⟨v,h5,h6⟩:=h4
      exact⟨v,zva (fun e=>ht (aB.2 e)) h5,hKd v h6⟩
   case max=>exact jM he (.inr (.inr ⟨c,rfl,.inl hb⟩)) h hKd
   case min=>exact jM he (.inr (.inr ⟨c,rfl,.inr hb⟩)) h hKd
  ·cases h
end
end Go.Am
namespace Go.Am
open Go Go.RowKit
def zlj(C:iA)(A:Tr mF)(f:Nat)(args:List zA)(H:rA):oB:=
 match C.prims.get f with
 | some g=>ob (g args H) fun v=>some (v,H)
 | none=>bE C A f args H
def mC (base:Nat)(X0:Xt)(Q:bB)(d:oB):Prop:=∃v t' HA' X',d=some (v,HA')/\Ov base t' X' HA'/\XLe X0 X'/\Q v t'
theorem mC.mono{base:Nat}{X0:Xt}{Q Q':bB}{d:oB}(h:mC base X0 Q d)(k:∀v t,Q v t->Q' v t):mC base X0 Q' d:=by
 obtain⟨v,t',HA',X',h1,h2,h3,h4⟩:=h
 exact⟨v,t',HA',X',h1,h2,h3,k _ _ h4⟩
def xR(C:iA)(A:Tr mF)(W:zJ):Prop:=∀f args t R,W f args t R->∀X HA,Ov C.base t X HA->mC C.base X R (zlj C A f args HA)
section
variable {W J:zJ}{t:Tr lA}{X X0:Xt}{HA:rA}{e eA:xD}{C:iA}{A:Tr mF}{ν:Nat->Nat}{ae:mL}{lo:Tr (List zA)}{k:KOp}{kl:KLo}{Q:bB}
theorem uJ{f:LOp}{H:rA}{v:zA}(h:f C e H=some v):lv f C e H=.val v H:=by unfold lv;rw[h]
theorem zwt{op:Op}{H:rA}{v:zA}(h:(pF op).f C e H=some v):(rF op).f C e H=.val v H:=by
 cases op
 case move x=>exact uJ h
 case assign x=>exact uJ h
 case pick c a b=>exact uJ h
 case load t a=>exact uJ h
 case nilCheck x=>exact uJ h
 case binOp op t x y u=>exact uJ h
 case unOp op t x=>exact uJ h
 case makeInterface t x=>exact uJ h
 case makeFunc fn a b=>exact uJ h
 case slice t x lo hi mx=>exact uJ h
 case fieldAddr s x f=>exact uJ h
 case field t x f=>exact uJ h
 case indexAddr t x i=>exact uJ h
 case index t x i=>exact uJ h
 case extract t i=>exact uJ h
 case build t ps=>exact uJ h
 case typeAssert x t u ok=>exact uJ h
 case lookup t x i ok=>exact uJ h
 case convert s d x=>
  show fP s d x C e H=_
  have h:sL s d x C e H=some v:=h
  unfold fP;rw[h]
 case call c=>
  have h:(iN c c.callee).f C e H=some v:=h
  show(zV c c.callee).f C e H=_
  cases hc:c.callee with
  | value f=>rw[hc]at h;cases h
  | invoke a b=>rw[hc]at h;cases h
  | builtin b=>
   rw[hc]at h
   cases b
   case len=>exact uJ (f:=zni c) h
   case max=>exact uJ (f:=zur c) h
   case min=>exact uJ (f:=zup c) h
   all_goals exact absurd (show(none:Option zA)=some v from h) (by simp)
 all_goals exact absurd (show(none:Option zA)=some v from h) (by simp)
theorem oR{x:Option (zA × rA)}{v:zA}{H':rA}{kd:zA->rA->oB}{φ:Ora}(h:x=some (v,H')):sG φ (kL x) HA kd=kd v H':=by subst h;rfl
theorem gP(ho:Ov C.base t X HA){x:rA->Option (zA × rA)}(hx:zxc C.base x){K:zA->T}(h:pA C.base W J (.heavy x K) t Q){kd:zA->rA->oB}{φ:Ora}
  (hK:∀v t' HA' X',Ov C.base t' X' HA'->XLe X X'->pA C.base W J (K v) t' Q->mC C.base X0 Q (kd v HA')) {r:kJ} (hr:∀p,x HA=some p->sG φ r HA kd=kd p.1 p.2):mC C.base X0 Q (sG φ r HA kd):=by
 have h:=h HA.next ho.nextT ho.base
 rw[jQ]at h;obtain⟨⟨v,H'⟩,h1,h2⟩:=h
 obtain⟨HA',h3,h4⟩:=hx _ _ _ _ _ ho h1
 rw[hr _ h3];exact hK v _ _ _ h4 (XLe.refl _) h2
theorem z5r(hW:xR C A W)(ho:Ov C.base t X HA){f:Nat}{args:List zA}{K:zA->T}(h:W f args t fun v t'=>pA C.base W J (K v) t' Q){kd:zA->rA->oB}
  (hK:∀v t' HA' X',Ov C.base t' X' HA'->XLe X X'->pA C.base W J (K v) t' Q->mC C.base X0 Q (kd v HA')):mC C.base X0 Q (sG (bE C A) (zc5 C HA args f (C.prims.get f)) HA kd):=by
 obtain⟨v,t',HA',X',h1,h2,h3,h4⟩:=hW _ _ _ _ h X HA ho
 unfold zlj at h1;unfold zc5
 cases hp:C.prims.get f with
 | some g=>
  rw[hp]at h1;simp only[mA]at h1;obtain⟨u,g1,g2⟩:=h1
  cases g2
  simp only[g1];exact hK _ _ _ _ h2 h3 h4
 | none=>
  rw[hp]at h1;have h1:bE C A f args HA=some (v,HA'):=h1
  show mC C.base X0 Q (ob (bE C A f args HA) fun p=>kd p.1 p.2)
  rw[h1];exact hK _ _ _ _ h2 h3 h4
theorem Ov.setX{base:Nat}(h:Ov base t X HA){b:Nat}{y:lA}(hb:X b=some y)(z:lA):Ov base t (fun c=>if c=b then some z else X c) (Am.setBlk HA b z):=by
 obtain⟨g1,g2,g3⟩:=h.ext b y hb
 refine⟨h.base,fun c hc=>?_,fun c u hc=>?_,h.lt⟩
 ·split at hc
  ·cases hc
  ·rename_i hne
   show(HA.t.set b z).get c=_
   rw[Tr.get_set,if_neg hne];exact h.same c hc
 ·show(HA.t.set b z).get c=_/\_/\c<HA.next
  rw[Tr.get_set];split at hc
  ·rename_i e;cases hc;subst e;rw[if_pos rfl];exact⟨rfl,g2,g3⟩
  ·rename_i hne;rw[if_neg hne];exact h.ext c u hc
theorem Ov.newX{base:Nat}(h:Ov base t X HA)(z:lA):Ov base t (fun c=>if c=HA.next then some z else X c) (Am.newBlk HA z):=by
 refine⟨Nat.le_succ_of_le h.base,fun c hc=>?_,fun c u hc=>?_,fun b y hb=>Nat.lt_succ_of_lt (h.lt b y hb)⟩
 ·split at hc
  ·cases hc
  ·rename_i hne
   show(HA.t.set HA.next z).get c=_
   rw[Tr.get_set,if_neg hne];exact h.same c hc
 ·show(HA.t.set HA.next z).get c=_/\_/\c<HA.next+1
  rw[Tr.get_set];split at hc
  ·rename_i e;cases hc;subst e;rw[if_pos rfl];exact⟨rfl,h.nextT,Nat.lt_succ_self _⟩
  ·rename_i hne;rw[if_neg hne];have:=h.ext c u hc;exact⟨this.1,this.2.1,Nat.lt_succ_of_lt this.2.2⟩
theorem zt2(ho:Ov C.base t X HA)(hl:zw3 C.base X0 X ν lo){d off:Nat}{l l':List zA}{u:zA}{sz:Nat}(h1:lo.get d=some l)(h2:vV l off sz u=some l')(h3:iB zA.one u.cells=true) :
  Nat.beq (uB u.cells) sz=true/\l'.length=l.length/\∃c',nK C HA (ν d) off u.cells=some (setBlk HA (ν d) (.cells c' l.length none))/\∀j a,l'[j]?=some a->c'.get j=some a:=by
 obtain⟨_,hb,c,hc,hg⟩:=hl d l h1
 have hx:=(ho.ext _ _ hc).1
 unfold vV at h2;simp only[mB,yac,eE,xE,fH,jT,lO,Option.some.injEq]at h2;obtain⟨⟨g1,g2⟩,g3⟩:=h2
 subst g3;refine⟨by rw[xE];exact g1,?_,c.setMany u.cells off,?_,?_⟩
 ·simp;omega
 ·unfold nK
  have n1:(!Nat.blt (ν d) C.base)=true:=by
   cases hq:Nat.blt (ν d) C.base with
   | true=>have:=pC.1 hq;omega
   | false=>rfl
  rw[n1];unfold oD;rw[hx];simp only[mB,uA,lA.asCells,yac,eE,xE];exact⟨trivial,⟨g2,h3⟩,trivial⟩
 ·intro j a hj
  rw[Tr.get_setMany];split
  ·rename_i hh
   rw[yaq (by simp;omega)]at hj
   rw[ybp (by simp;omega)]at hj
   rw[<- hj];congr 1
   simp;omega
  ·rename_i hh
   refine hg j a ?_
   by_cases hlt:j<off
   ·rw[ybp (by simp;omega)]at hj
    rw[ycg,if_pos hlt]at hj;exact hj
   ·rw[yaq (by simp;omega),yaq (by simp;omega)]at hj
    rw[ycf]at hj;rw[<- hj];congr 1
    simp;omega
theorem zwe{y:wD}{u:zA}(h:iB zA.one (zez y u)=true):zez y u=u.cells:=by
 unfold zez at h ⊢
 rw[jC]at h ⊢
 split
 ·rfl
 ·rename_i e
  rw[if_neg e,iF]at h;rw[uW (by simpa using h)]
theorem zpa{op:Op}{v:zA}{kd:zA->rA->oB}{φ:Ora}(h:(pF op).f C eA HA=some v):sG φ ((rF op).f C eA HA) HA kd=kd v HA:=by rw[zwt h];rfl
theorem zul{la:List Nat}{dst:Option Nat}{d:Nat}(h:laOf la dst=some d):dst=some d:=by
 unfold laOf at h
 cases dst with
 | none=>cases h
 | some x=>simp only[jC]at h;split at h<;>cases h;rfl
theorem tH_ok(hW:xR C A W)(he:yO e eA)(ha:kV ν ae eA)(ho:Ov C.base t X HA)(hl:zw3 C.base X0 X ν lo){la:List Nat}{dst:Option Nat}{op:Op}
  (h:pA C.base W J (tH C la dst op e ae lo k kl) t Q) {kd:zA->rA->oB}
  (hK:∀v t' HA' X',Ov C.base t' X' HA'->XLe X X'->pA C.base W J (k.K v) t' Q->mC C.base X0 Q (kd v HA'))
  (hKd:∀v t' HA' X',Ov C.base t' X' HA'->XLe X X'->pA C.base W J (k.Kd v) t' Q->mC C.base X0 Q (kd v HA'))
  (hKA:∀d off,pA C.base W J (k.KA d off) t Q->mC C.base X0 Q (kd (.ptr (ν d) off) HA))
  (hnew:∀d l,laOf la dst=some d->pA C.base W J (kl.new d l) t Q->mC C.base X0 Q (kd (.ptr HA.next 0) (vF HA l none)))
  (hset:∀d l l' c',lo.get d=some l->l'.length=l.length->(∀j a,l'[j]?=some a->c'.get j=some a)->pA C.base W J (kl.set d l') t Q->mC C.base X0 Q (kd zE (setBlk HA (ν d) (.cells c' l.length none)))) :
  mC C.base X0 Q (sG (bE C A) ((rF op).f C eA HA) HA kd):=by
 have light:∀(op:Op),pA C.base W J (tL C op e ae lo k) t Q->mC C.base X0 Q (sG (bE C A) ((rF op).f C eA HA) HA kd):=by
  intro op h;obtain⟨v,h1,h2⟩:=z26 (R:=fun v=>mC C.base X0 Q (kd v HA)) he ha ho hl h (fun v h=>hK v _ _ _ ho (XLe.refl _) h) (fun v h=>hKd v _ _ _ ho (XLe.refl _) h) hKA
  rw[zpa h1];exact h2
 cases op<;>simp only[tH]at h<;>try (exact light _ h)
 case alloc ty=>
  show mC C.base X0 Q (sG _ (zcs ty C eA HA) HA kd)
  split at h
  ·rename_i d hd
   rw[qE]at h;obtain⟨y,h1,h2⟩:=h
   unfold zcs;rw[h1];exact hnew d _ hd h2
  ·refine gP ho zq9 h hK fun p hp=>?_
   unfold zcs;unfold oN at hp;rw[hp];rfl
 case box ty x=>
  rw[qE]at h;obtain⟨v,h1,h⟩:=h
  show mC C.base X0 Q (sG _ (zzo x C eA HA) HA kd)
  unfold zzo;rw[gD he h1];split at h
  ·rename_i d hd
   rw[qE]at h;obtain⟨y,_,h⟩:=h
   rw[jC]at h;split at h
   ·exact hnew d _ hd h
   ·have h:if zA.one v=true then pA C.base W J (kl.new d [v]) t Q else False:=h
    split at h
    ·rename_i h1
     have:=hnew d _ hd h
     rw[<- uW h1]at this;exact this
    ·exact h.elim
  ·refine gP ho z2y h hK fun p hp=>?_
   cases hp;rfl
 case buildSlice ty n ps=>
  rw[qE]at h;obtain⟨vs,h1,h⟩:=h
  show mC C.base X0 Q (sG _ (fR ty n ps C eA HA) HA kd)
  refine gP ho zdh h hK fun p hp=>?_
  refine oR (v:=p.1) (H':=p.2) ?_
  rw[zgl he h1];exact hp
 case makeMap ty r=>
  cases r with
  | some _=>simp only[]at h;exact light _ h
  | none=>
   simp only[]at h;show mC C.base X0 Q (sG _ (mW none C eA HA) HA kd)
   refine gP ho zjo h hK fun p hp=>?_
   cases hp;rfl
 case makeSlice ty l c=>
  simp only[qE]at h;obtain⟨a,h1,b,h2,h⟩:=h
  show mC C.base X0 Q (sG _ (zac ty l c C eA HA) HA kd)
  refine gP ho ze8 h hK fun p hp=>?_
  refine oR (v:=p.1) (H':=p.2) ?_
  rw[gD he h1,gD he h2];unfold yL at hp
  cases hx:C.tys.get ty with
  | none=>rw[hx]at hp;cases hp
  | some y=>
   rw[hx]at hp;simp only[uA]at hp ⊢
   exact hp
 case store ty a x=>
  unfold z0z at h;show mC C.base X0 Q (sG _ (znt ty a x C eA HA) HA kd)
  split at h
  ·rename_i p hp
   simp only[qE]at h;obtain⟨u,h1,y,h2,l,h3,l',h4,h5⟩:=h
   have h5:if iB zA.one (zez y u)=true then pA C.base W J (kl.set p.1 l') t Q else False:=h5
   split at h5
   ·rename_i hone
    have hcell:=zwe hone
    rw[hcell]at hone h4;have h4:vV l p.2 y.size u=some l':=h4
    obtain⟨g1,g2,c',g3,g4⟩:=zt2 ho hl h3 h4 hone
    have:=hset p.1 l l' c' h3 g2 g4 h5
    have e1:sG (bE C A) (znt ty a x C eA HA) HA kd=kd zE (setBlk HA (ν p.1) (.cells c' l.length none)):=by
     refine oR ?_
     rw[h2,uA,fS ha hp,uA];simp only[zA.asPtr,uA];rw[gD he h1,uA,g1,g3];rfl
    rw[e1];exact this
   ·exact h5.elim
  ·simp only[qE]at h
   obtain⟨av,h1,u,h2,h⟩:=h
   refine gP ho zq5 h hKd fun p hp=>?_
   refine oR (v:=p.1) (H':=p.2) ?_
   rw[gD he h1];unfold cD at hp
   cases hx:C.tys.get ty with
   | none=>rw[hx]at hp;cases hp
   | some y=>
    rw[hx]at hp;simp only[uA]at hp ⊢
    rw[gD he h2];exact hp
 case convert s d x=>
  rw[jC]at h;split at h
  ·rename_i hd
   rw[qE]at h;obtain⟨u,h1,h⟩:=h
   show mC C.base X0 Q (sG _ (fP s d x C eA HA) HA kd)
   have hn:sL s d x C eA HA=none:=by
    rw[zuw (gD he h1)]
    cases hq:aL C s d HA u with
    | none=>rfl
    | some q=>
     exfalso
     unfold aL at hq;simp only[mA]at hq;obtain⟨sy,g1,dy,g2,g3⟩:=hq
     have hd:=aB.1 hd
     unfold wH at hd;rw[g2]at hd;have hd:dy.desc.tag=4:=hd
     unfold wN at g3;have n1:dy.desc.asInt=none:=by cases hz:dy.desc<;>rw[hz]at hd<;>first | rfl | (cases hd;done)
     have n2:dy.desc.isString=false:=by unfold rE.isString;rw[hd];rfl
     rw[n1,n2]at g3
     cases g3
   unfold fP;rw[hn];simp only[];refine gP ho zjn h hK fun p hp=>?_
   refine oR (v:=p.1) (H':=p.2) ?_
   rw[gD he h1];exact hp
  ·exact light _ (by simpa only[tL]using h)
 case insert ty m key x=>
  simp only[qE]at h;obtain⟨mv,h1,kv,h2,u,h3,h⟩:=h
  show mC C.base X0 Q (sG _ (aU ty m key x C eA HA) HA kd)
  refine gP ho zdt h hKd fun p hp=>?_
  refine oR (v:=p.1) (H':=p.2) ?_
  rw[gD he h1,gD he h2,gD he h3];exact hp
 case mapUpdate ty m key x=>
  simp only[qE]at h;obtain⟨mv,h1,kv,h2,u,h3,h⟩:=h
  show mC C.base X0 Q (sG _ (aU ty m key x C eA HA) HA kd)
  refine gP ho zdt h hKd fun p hp=>?_
  refine oR (v:=p.1) (H':=p.2) ?_
  rw[gD he h1,gD he h2,gD he h3];exact hp
 case call c=>
  show mC C.base X0 Q (sG _ ((zV c c.callee).f C eA HA) HA kd)
  split at h
  ·rename_i f hc
   rw[hc];show mC C.base X0 Q (sG _ (zcr f c.args C eA HA) HA kd)
   have dC:∀ {fv:zA} {as:List zA},ev f e=some fv->evs c.args.toList e=some as->pA C.base W J (.callv fv as k.K) t Q->mC C.base X0 Q (sG (bE C A) (zcr f c.args C eA HA) HA kd):=by
    intro fv as h1 h2 h;have h:uH (fL fv as) fun p=>W p.1 p.2 t fun v t'=>pA C.base W J (k.K v) t' Q:=h
    rw[jQ]at h;obtain⟨⟨g,as'⟩,h3,h4⟩:=h
    unfold fL at h3;rw[mA]at h3;obtain⟨p,h5,h6⟩:=h3
    have e1:zcr f c.args C eA HA=zc5 C HA as' g (C.prims.get g):=by
     unfold zcr rO;rw[gD he h1,uA,h5,uA,zgk he h2,uA,uA]
     cases hp:p.1 with
     | func g'=>rw[hp]at h6;cases h6;rfl
     | yld l=>rw[hp]at h6;cases h6
    rw[e1];exact z5r hW ho h4 hK
   unfold z01 at h;split at h
   ·rename_i g
    rw[qE]at h;obtain⟨as,h1,h⟩:=h
    refine dC (fv:=.func (.func g) [] []) rfl h1 ?_
    show uH (fL (.func (.func g) [] []) as) _
    have e2:fL (.func (.func g) [] []) as=some (g,as):=by
     show some (g,jF (jF [] as) [])=_
     rw[fH,fH];simp
    rw[e2];exact h
   ·simp only[qE]at h
    obtain⟨fv,h1,as,h2,h⟩:=h
    exact dC h1 h2 h
  ·rename_i b hb
   rw[hb];have lt:pA C.base W J (eV C c e k b) t Q->mC C.base X0 Q (sG (bE C A) ((zV c (.builtin b)).f C eA HA) HA kd):=by
    intro h;have:=light (.call c) (by show pA C.base W J (match c.callee with | .builtin b=>eV C c e k b | _=>.fail) t Q;rw[hb];exact h)
    have e1:(rF (.call c)).f C eA HA=(zV c c.callee).f C eA HA:=rfl
    rw[e1,hb]at this;exact this
   unfold zhd at h;split at h
   ·simp only[qE,two']at h
    obtain⟨ty,h1,u,h2,p,h3,h⟩:=h
    show mC C.base X0 Q (sG _ (yV c C eA HA) HA kd)
    refine gP ho zoo h hK fun q hq=>?_
    refine oR (v:=q.1) (H':=q.2) ?_
    rw[h1,uA];unfold kD at hq;simp only[mA,mB]at hq ⊢
    obtain⟨y,g1,z,g2,g3,g4⟩:=hq
    exact⟨y,g1,u,h2,z,g2,g3,p,zfb he h3,g4⟩
   ·exact lt h
  ·cases h
end
end Go.Am
namespace Go.Am
open Go Go.RowKit
structure oF (base:Nat) (X0:Xt) (kf:Nat) (ν:Nat->Nat) (X:Xt) (st:xH) (tm:Tm) (HA:rA) (t:Tr lA):Prop where
 ov:Ov base t X HA
 le:XLe X0 X
 k:st.tm.k=kf
 kA:tm.k=kf
 tms:∀i v,st.tm.get i=some v->tm.get i=some v
 ads:∀i p,aH i st.ad=some p->tm.get i=some (.ptr (ν p.1) p.2)
 lo:zw3 base X0 X ν st.lo
 inj:∀d d' l l',st.lo.get d=some l->st.lo.get d'=some l'->ν d=ν d'->d=d'
theorem lS{i:Nat}{a:Nat × Nat × Nat}{l:List (Nat × Nat × Nat)}:aH i (a::l)=if i=a.1 then some a.2 else aH i l:=by
 show Bool.rec (motive:=fun _=>Option (Nat × Nat)) (aH i l) (some a.2) (Nat.beq i a.1)=_
 rw[lH];simp only[aB]
theorem zwx{i:Nat}{p:Nat × Nat}:∀ {l:List (Nat × Nat × Nat)},aH i l=some p->(i,p.1,p.2)∈l:=by
 intro l;induction l with
 | nil=>intro h;cases h
 | cons a l ih=>
  intro h;rw[lS]at h;split at h
  ·rename_i e;cases h;rw[e];exact yaz
  ·exact yas _ (ih h)
theorem zte{n:Nat}{tm:Tm}{dst:Option Nat}{v:zA}:(putA n tm dst v).k=tm.k:=by
 unfold putA putB
 cases dst with
 | none=>rfl
 | some d=>
  simp only[zyj,jC];split
  ·unfold Tm.set;rw[lH];split<;>rfl
  ·rfl
theorem Tm.set_k{tm:Tm}{i:Nat}{v:zA}:(tm.set i v).k=tm.k:=by unfold Tm.set;rw[lH];split<;>rfl
section
variable {W J:zJ}{t:Tr lA}{X X0:Xt}{HA:rA}{C:iA}{A:Tr mF}{ν:Nat->Nat}{Q:bB}{kf n:Nat}{st:xH}{tm:Tm}
theorem oF.put(h:oF C.base X0 kf ν X st tm HA t){dst:Option Nat}{v:zA}{lt:Bool}{κ:KT}(hw:pA C.base W J (zox n dst v lt st κ) t Q) :
  ∃st',oF C.base X0 kf ν X st' (putA n tm dst v) HA t/\pA C.base W J (κ st') t Q:=by
 unfold zox at hw
 cases dst with
 | none=>exact⟨st,h,hw⟩
 | some d=>
  simp only[jC]at hw;split at hw
  ·rename_i hd
   rw[cL]at hw;obtain⟨h1,h2⟩:=hw
   refine⟨_,?_,h2⟩
   refine⟨h.ov,h.le,(by show(st.tm.set d v).k=kf;rw[Tm.set_k];exact h.k),by rw[zte];exact h.kA,?_,?_,h.lo,h.inj⟩
   ·intro i u hi
    have hi2:(st.tm.set d v).get i=some u:=hi
    rw[Tm.get_set]at hi2;rw[cH];split at hi2
    ·rename_i e;rw[if_pos ⟨by rw[e],by rw[e];exact pC.1 hd⟩];exact hi2
    ·rename_i e
     rw[if_neg (fun hh=>e (by injection hh.1 with e1;exact e1.symm))]
     exact h.tms i u hi2
   ·intro i p hi
    rw[cH,if_neg]
    ·exact h.ads i p hi
    ·rintro⟨e,_⟩
     injection e with e
     subst e;rw[hi]at h1
     cases h1
  ·rename_i hd
   refine⟨st,?_,hw⟩
   have:putA n tm (some d) v=tm:=by
    unfold putA putB;simp only[zyj,jC];rw[if_neg hd]
   rw[this];exact h
theorem oF.putA(h:oF C.base X0 kf ν X st tm HA t){dst:Option Nat}{d off:Nat}{κ:KT}(hw:pA C.base W J (z25 n dst d off st κ) t Q) :
  ∃st',oF C.base X0 kf ν X st' (Am.putA n tm dst (.ptr (ν d) off)) HA t/\pA C.base W J (κ st') t Q:=by
 unfold z25 at hw;rw[qE]at hw;obtain⟨i,h1,hw⟩:=hw
 subst h1;simp only[cL]at hw;obtain⟨h2,h3,h4⟩:=hw
 refine⟨_,?_,h4⟩
 refine⟨h.ov,h.le,h.k,by rw[zte];exact h.kA,?_,?_,h.lo,h.inj⟩
 ·intro j u hj
  rw[cH,if_neg]
  ·exact h.tms j u hj
  ·rintro⟨e,_⟩
   injection e with e
   subst e;have hj:st.tm.get i=some u:=hj
   rw[hj]at h3
   cases h3
 ·intro j p hj
  have hj:aH j ((i,d,off)::st.ad)=some p:=hj
  rw[lS]at hj;rw[cH];split at hj
  ·rename_i e;cases hj;rw[if_pos ⟨by rw[e],by rw[e];exact pC.1 h2⟩]
  ·rename_i e
   rw[if_neg (fun hh=>e (by injection hh.1 with e1;exact e1.symm))]
   exact h.ads j p hj
theorem oF.new(h:oF C.base X0 kf ν X st tm HA t){d:Nat}{l:List zA}{κ:KT}(hw:pA C.base W J (tNew n d l st κ) t Q) :
  ∃st' ν' X',oF C.base X0 kf ν' X' st' (Am.putA n tm (some d) (.ptr HA.next 0)) (vF HA l none) t/\pA C.base W J (κ st') t Q:=by
 unfold tNew at hw;simp only[cL]at hw;obtain⟨h1,h2,h3,h4⟩:=hw
 have hx:=h.ov.nextX
 refine⟨_,fun c=>if c=d then HA.next else ν c,fun c=>if c=HA.next then some (.cells (Tr.ofList l) (uB l) none)else X c,?_,h4⟩
 refine⟨h.ov.newX _,?_,h.k,by rw[zte];exact h.kA,?_,?_,?_,?_⟩
 ·intro b y hb
  have:X b=some y:=h.le b y hb
  show(if b=HA.next then _ else X b)=some y
  rw[if_neg,this];intro e;rw[e,hx]at this;cases this
 ·intro j u hj
  rw[cH,if_neg]
  ·exact h.tms j u hj
  ·rintro⟨e,_⟩
   injection e with e
   subst e;have hj:st.tm.get d=some u:=hj
   rw[hj]at h2
   cases h2
 ·intro j p hj
  have hj:aH j ((d,d,0)::st.ad)=some p:=hj
  rw[lS]at hj;rw[cH];split at hj
  ·rename_i e
   cases hj;rw[if_pos ⟨by rw[e],by rw[e];exact pC.1 h1⟩]
   show some (zA.ptr HA.next 0)=some (zA.ptr (if d=d then HA.next else ν d) 0)
   rw[if_pos rfl]
  ·rename_i e
   rw[if_neg (fun hh=>e (by injection hh.1 with e1;exact e1.symm))]
   have hm:=zwx hj
   unfold z1l at h3;rw[iF,ybc]at h3;have:=h3 _ hm
   simp only[jC]at this;have hne:p.1≠d:=by
    intro e2;rw[if_pos (aB.2 e2)]at this
    exact e (aB.1 this)
   show Tm.get tm j=some (zA.ptr (if p.1=d then HA.next else ν p.1) p.2)
   rw[if_neg hne];exact h.ads j p hj
 ·intro c m hc
  have hc:(st.lo.set d l).get c=some m:=hc
  rw[Tr.get_set]at hc;show X0 (if c=d then HA.next else ν c)=none/\C.base<=(if c=d then HA.next else ν c)/\∃c',(if (if c=d then HA.next else ν c)=HA.next then some (lA.cells (Tr.ofList l) (uB l) none)else X (if c=d then HA.next else ν c))=some (.cells c' m.length none)/\∀j a,m[j]?=some a->c'.get j=some a
  split at hc
  ·rename_i e
   cases hc;simp only[e,if_true];refine⟨?_,h.ov.base,Tr.ofList l,by rw[xE],fun j a hj=>by rw[Tr.get_ofList];exact hj⟩
   cases hq:X0 HA.next with
   | none=>rfl
   | some z=>have:=h.le _ _ hq;rw[hx]at this;cases this
  ·rename_i e
   simp only[if_neg e];obtain⟨g1,g2,c',g3,g4⟩:=h.lo c m hc
   refine⟨g1,g2,c',?_,g4⟩
   rw[if_neg,g3];intro e2;rw[e2,hx]at g3;cases g3
 ·intro c c' m m' hc hc' he
  have hc:(st.lo.set d l).get c=some m:=hc
  have hc':(st.lo.set d l).get c'=some m':=hc'
  have he:(if c=d then HA.next else ν c)=(if c'=d then HA.next else ν c'):=he
  rw[Tr.get_set]at hc hc'
  split at hc<;>split at hc'
  ·rename_i e1 e2;rw[e1,e2]
  ·rename_i e1 e2
   rw[if_pos e1,if_neg e2]at he;obtain⟨_,_,_,g3,_⟩:=h.lo c' m' hc'
   rw[<- he,hx]at g3;cases g3
  ·rename_i e1 e2
   rw[if_neg e1,if_pos e2]at he;obtain⟨_,_,_,g3,_⟩:=h.lo c m hc
   rw[he,hx]at g3;cases g3
  ·rename_i e1 e2
   rw[if_neg e1,if_neg e2]at he;exact h.inj c c' m m' hc hc' he
theorem oF.setLo(h:oF C.base X0 kf ν X st tm HA t){d:Nat}{l l':List zA}{c':Tr zA}(h1:st.lo.get d=some l)(h2:l'.length=l.length)(h3:∀j a,l'[j]?=some a->c'.get j=some a) :
  ∃X',oF C.base X0 kf ν X' ⟨st.tm,st.ad,st.lo.set d l',st.lit⟩ tm (setBlk HA (ν d) (.cells c' l.length none)) t:=by
 obtain⟨g1,g2,c,g3,g4⟩:=h.lo d l h1
 refine⟨_,h.ov.setX g3 _,?_,h.k,h.kA,h.tms,h.ads,?_,?_⟩
 ·intro b y hb
  show(if b=ν d then _ else X b)=some y
  rw[if_neg]
  ·exact h.le b y hb
  ·intro e;rw[e,g1]at hb;cases hb
 ·intro e m he
  have he:(st.lo.set d l').get e=some m:=he
  rw[Tr.get_set]at he;split at he
  ·rename_i e1
   cases he;subst e1;exact⟨g1,g2,c',by show(if ν e=ν e then _ else _)=_;rw[if_pos rfl,h2],h3⟩
  ·rename_i e1
   obtain⟨k1,k2,k3,k4,k5⟩:=h.lo e m he
   refine⟨k1,k2,k3,?_,k5⟩
   show(if ν e=ν d then _ else X (ν e))=_
   rw[if_neg,k4];intro e2;exact e1 (h.inj e d m l he h1 e2)
 ·intro e e' m m' he he' hv
  have he:(st.lo.set d l').get e=some m:=he
  have he':(st.lo.set d l').get e'=some m':=he'
  rw[Tr.get_set]at he he'
  have x1:∃q,st.lo.get e=some q:=by
   split at he
   ·rename_i e1;rw[e1];exact⟨l,h1⟩
   ·exact⟨m,he⟩
  have x2:∃q,st.lo.get e'=some q:=by
   split at he'
   ·rename_i e1;rw[e1];exact⟨l,h1⟩
   ·exact⟨m',he'⟩
  exact h.inj e e' _ _ x1.choose_spec x2.choose_spec hv
theorem oF.later(h:oF C.base X0 kf ν X st tm HA t){X':Xt}{HA':rA}{t':Tr lA}(ho:Ov C.base t' X' HA')(hx:XLe X X'):oF C.base X0 kf ν X' st tm HA' t':=
 ⟨ho,h.le.trans hx,h.k,h.kA,h.tms,h.ads,fun d l hd=>by
  obtain⟨g1,g2,c,g3,g4⟩:=h.lo d l hd
  exact⟨g1,g2,c,hx _ _ g3,g4⟩,h.inj⟩
theorem za9{ty:Nat}{v:zA}(h:fitB C ty v=true):zzs C ty v:=by
 unfold fitB at h;unfold zzs
 cases hy:C.tys.get ty with
 | none=>trivial
 | some y=>
  rw[hy]at h;simp only at h ⊢
  unfold fitD
  cases hd:y.desc<;>rw[hd]at h<;>simp only at h ⊢
  case bool=>
   have:=aB.1 h
   cases v<;>simp only[zA.tag]at this<;>first
    | exact⟨_,rfl⟩
    | (cases this;done)
  case int k=>
   cases v<;>simp only[zA.asIntK]at h<;>first
    | exact⟨_,by rw[oJ.1 h]⟩
    | (cases h;done)
  case string=>
   have:=aB.1 h
   cases v<;>simp only[zA.tag]at this<;>first
    | exact⟨_,rfl⟩
    | (cases this;done)
theorem zgf{ty:Nat}{v:zA}(h:(!Nat.ble (wH C ty) 2)=true):zzs C ty v:=by
 unfold zzs;unfold wH at h
 cases hy:C.tys.get ty with
 | none=>trivial
 | some y=>
  rw[hy]at h;simp only at h ⊢
  unfold fitD
  cases hd:y.desc<;>rw[hd]at h<;>first
   | trivial
   | (simp only[rE.tag]at h;exact absurd h (by decide))
theorem zkz:∀(zs l:List zA) (pre:List zA),rM zs l=true->gU zs (cellsOf (pre++l)) pre.length=l:=by
 intro zs;induction zs with
 | nil=>intro l pre h;cases l with
  | nil=>rfl
  | cons a l=>cases h
 | cons z zs ih=>
  intro l pre h
  cases l with
  | nil=>cases h
  | cons a l=>
   unfold rM at h;rw[yac]at h;show zty z (cellsOf (pre++a::l)) pre.length::gU zs (cellsOf (pre++a::l)) (pre.length+1)=a::l
   have e2:=ih l (pre++[a]) h.2
   rw[yba]at e2;simp only[List.cons_append,List.nil_append,yah,yao,yay]at e2;rw[e2];congr 1
   have hg:(pre++a::l)[pre.length]?=some a:=by simp
   have h1:=h.1
   cases z<;>simp only[pG]at h1<;>simp only[zty,cellsOf,aE,qF,bF,kE,hg]<;>try (cases h1;done)
   case bool=>
    have:=aB.1 h1
    cases a<;>simp only[zA.tag]at this<;>first
     | rfl
     | (cases this;done)
   case int k _=>
    cases a<;>simp only[zA.asIntK]at h1<;>first
     | (rw[oJ.1 h1];done)
     | (cases h1;done)
   case str=>
    have:=aB.1 h1
    cases a<;>simp only[zA.tag]at this<;>first
     | rfl
     | (cases this;done)
theorem zmc{ty:Nat}{v:zA}{K:zA->T}(h:pA C.base W J (zrq C ty v K) t Q):zzs C ty v/\pA C.base W J (K v) t Q:=by
 unfold zrq at h;unfold zzs;have agg:∀zs,pA C.base W J (bif Nat.ble (uB zs) 40 then .asG zs v fun X=>K (.agg (gU zs X 0))else K v) t Q->pA C.base W J (K v) t Q:=by
  intro zs h;rw[jC]at h;split at h
  ·have h:uH (mG zs v) fun X=>pA C.base W J (K (.agg (gU zs X 0))) t Q:=h
   rw[jQ]at h;obtain⟨X,h1,h2⟩:=h
   unfold mG at h1;simp only[mA,mB]at h1;obtain⟨l,h3,h4,h5⟩:=h1
   cases h5;have:=zkz zs l [] h4
   simp only[List.nil_append,yay]at this;rw[this]at h2;rw[bW.1 h3];exact h2
  ·exact h
 cases hy:C.tys.get ty with
 | none=>rw[hy]at h;exact⟨trivial,h⟩
 | some y=>
  rw[hy]at h;simp only at h ⊢
  unfold fitD
  cases hd:y.desc<;>rw[hd]at h<;>simp only at h ⊢
  case bool=>
   have h:uH v.asBool fun n=>pA C.base W J (K (.bool n)) t Q:=h
   rw[jQ]at h;obtain⟨b,h1,h2⟩:=h
   rw[tS.1 h1];exact⟨⟨b,rfl⟩,h2⟩
  case int k=>
   have h:uH (zzj k v) fun n=>pA C.base W J (K (.int k n)) t Q:=h
   rw[jQ]at h;obtain⟨b,h1,h2⟩:=h
   unfold zzj at h1;simp only[mA,mB]at h1;obtain⟨p,h3,h4,h5⟩:=h1
   cases h5;rw[nM.1 h3,oJ.1 h4];exact⟨⟨_,rfl⟩,h2⟩
  case string=>
   have h:uH v.asStr fun n=>pA C.base W J (K (.str n)) t Q:=h
   rw[jQ]at h;obtain⟨b,h1,h2⟩:=h
   rw[tN.1 h1];exact⟨⟨b,rfl⟩,h2⟩
  all_goals first
   | exact⟨trivial,agg _ h⟩
   | exact⟨trivial,h⟩
theorem vX{g lt:Bool}{v:zA}{K:zA->Bool->T}(h:pA C.base W J (zdw g lt v K) t Q):∃lt',pA C.base W J (K v lt') t Q:=by
 unfold zdw at h
 cases g with
 | false=>exact⟨lt,h⟩
 | true=>
  cases lt with
  | true=>exact⟨true,h⟩
  | false=>
   simp only[cond_true,cond_false]at h;rw[qE]at h;obtain⟨b,h1,h2⟩:=h
   rw[tS.1 h1];have h2:if b=true then pA C.base W J (K (.bool true) true) t Q else pA C.base W J (K (.bool false) true) t Q:=h2
   cases b with
   | true=>exact⟨true,h2⟩
   | false=>exact⟨true,h2⟩
theorem ze5(h:oF C.base X0 kf ν X st tm HA t){g:Option (Nat × Bool)}{all:Array Oper}{w:Bool}(hw:gE g all st.tm=some w):gE g all tm=some w:=by
 unfold gE zq0 at hw ⊢
 cases g with
 | none=>exact hw
 | some jw=>
  simp only[zgx]at hw ⊢
  rw[mA]at hw ⊢
  obtain⟨d,h1,hw⟩:=hw
  refine⟨d,h1,?_⟩
  rw[mA]at hw ⊢
  obtain⟨v,h2,hw⟩:=hw
  exact⟨v,h.tms _ _ h2,hw⟩
def SK (C:iA)(W J:zJ)(X0:Xt)(kf:Nat)(Q:bB)(κ:KT)(m:Tm->rA->oB):Prop:=∀st tm HA t X ν,oF C.base X0 kf ν X st tm HA t->pA C.base W J (κ st) t Q->mC C.base X0 Q (m tm HA)
theorem mC.norm{ty:Nat}{v:zA}{K:zA->oB}(hf:zzs C ty v)(h:mC C.base X0 Q (K v)):mC C.base X0 Q (pJ C ty v K):=by
 obtain⟨u,t',HA',X',h1,h2⟩:=h
 exact⟨u,t',HA',X',uM.2 ⟨hf,h1⟩,h2⟩
theorem mC.ob{α:Type}{x:Option α}{a:α}{K:α->oB}(hx:x=some a)(h:mC C.base X0 Q (K a)):mC C.base X0 Q (Am.ob x K):=by subst hx;exact h
theorem zso(hW:xR C A W){e eA:xD}{ae:mL}(he:yO e eA)(ha:kV ν ae eA)(hst:oF C.base X0 kf ν X st tm HA t){la:List Nat}{all:Array Oper}{o:Oper}{κ:KT}{m:Tm->rA->oB}
  (hκ:∀st' tm' HA' t' X' ν',(la=[]->ν'=ν)->oF C.base X0 kf ν' X' st' tm' HA' t'->(∃v,tm'=putA n tm o.dst v)->pA C.base W J (κ st') t' Q->mC C.base X0 Q (m tm' HA'))
  (h:pA C.base W J (tH C la o.dst o.op e ae st.lo (kop C all n o e st κ) (klo C n o st κ)) t Q) :
  mC C.base X0 Q (sG (bE C A) ((rF o.op).f C eA HA) HA fun v H'=>pJ C o.type v fun v=>m (putA n tm o.dst v) H'):=by
 refine tH_ok hW he ha hst.ov hst.lo h ?_ ?_ ?_ ?_ ?_
 ·intro v t' HA' X' ho hx hk
  have hk:pA C.base W J (zrq C o.type v fun v=>zdw (zf5 all.toList o.dst all.toList) (zy5 o.op e st.lit) v fun v lt=>zox n o.dst v lt st κ) t' Q:=hk
  obtain⟨h1,h2⟩:=zmc hk
  obtain⟨lt',h3⟩:=vX h2
  obtain⟨st',h4,h5⟩:=(hst.later ho hx).put h3
  exact mC.norm h1 (hκ _ _ _ _ _ _ (fun _=>rfl) h4 ⟨v,rfl⟩ h5)
 ·intro v t' HA' X' ho hx hk
  obtain⟨h1,h2⟩:=cL.1 hk
  obtain⟨lt',h3⟩:=vX h2
  obtain⟨st',h4,h5⟩:=(hst.later ho hx).put h3
  exact mC.norm (za9 h1) (hκ _ _ _ _ _ _ (fun _=>rfl) h4 ⟨v,rfl⟩ h5)
 ·intro d off hk
  obtain⟨h1,h2⟩:=cL.1 hk
  obtain⟨st',h4,h5⟩:=hst.putA h2
  exact mC.norm (zgf h1) (hκ _ _ _ _ _ _ (fun _=>rfl) h4 ⟨_,rfl⟩ h5)
 ·intro d l hd hk
  obtain⟨h1,h2⟩:=cL.1 hk
  obtain⟨st',ν',X',h4,h5⟩:=hst.new h2
  have e:=zul hd
  rw[e];refine mC.norm (zgf h1) (hκ _ _ _ _ _ _ (fun hl=>?_) h4 ⟨_,by rw[e]⟩ h5)
  rw[hl,e]at hd
  cases hd
 ·intro d l l' c' h1 h2 h3 hk
  obtain⟨h4,h5⟩:=cL.1 hk
  obtain⟨X',h6⟩:=hst.setLo h1 h2 h3
  obtain⟨st',h7,h8⟩:=h6.put h5
  exact mC.norm (za9 h4) (hκ _ _ _ _ _ _ (fun _=>rfl) h7 ⟨_,rfl⟩ h8)
theorem zkj(h:oF C.base X0 kf ν X st tm HA t):yO (.now st.tm) (.now tm)/\kV ν (.now st.ad) (.now tm):=⟨h.tms,h.ads⟩
theorem z23(hW:xR C A W){la:List Nat}{all:Array Oper}{κ:KT}{m:Tm->rA->oB}(hκ:SK C W J X0 kf Q κ m):∀(l:List Oper),SK C W J X0 kf Q (tops C la all n κ l) (uL C (bE C A) all n m l):=by
 intro l;induction l with
 | nil=>exact hκ
 | cons o l ih=>
  intro st tm HA t X ν hst h;have h:pA C.base W J (vC (gE o.guard all st.tm) fun w=>Bool.rec (motive:=fun _=>T) (zox n o.dst zE false st (tops C la all n κ l))
   (tH C la o.dst o.op (.now st.tm) (.now st.ad) st.lo (kop C all n o (.now st.tm) st (tops C la all n κ l)) (klo C n o st (tops C la all n κ l))) w) t Q:=h
  rw[qE]at h;obtain⟨w,h1,h2⟩:=h
  rw[iU];refine mC.ob (ze5 hst h1) ?_
  cases w with
  | false=>
   rw[if_neg (by simp)]
   obtain⟨st',h3,h4⟩:=hst.put h2
   exact ih _ _ _ _ _ _ h3 h4
  | true=>
   rw[if_pos rfl];exact zso hW (zkj hst).1 (zkj hst).2 hst (fun st' tm' HA' t' X' ν' _ hs _ hw=>ih _ _ _ _ _ _ hs hw) h2
end
end Go.Am
namespace Go.Am
open Go Go.RowKit
structure zjg (ν:Nat->Nat) (old:xH) (oldA:Tm):Prop where
 tms:∀i v,old.tm.get i=some v->oldA.get i=some v
 ads:∀i p,aH i old.ad=some p->oldA.get i=some (.ptr (ν p.1) p.2)
theorem oF.old{base:Nat}{X0 X:Xt}{kf:Nat}{ν:Nat->Nat}{st:xH}{tm:Tm}{HA:rA}{t:Tr lA}(h:oF base X0 kf ν X st tm HA t):zjg ν st tm:=⟨h.tms,h.ads⟩
theorem Tm.get_cut{tm:Tm}{i:Nat}:tm.cut.get i=if i<tm.k then tm.get i else none:=by
 unfold Tm.cut Tm.get;simp only[lH];by_cases h:Nat.blt i tm.k=true
 ·rw[if_pos h,if_pos h,if_pos (pC.1 h)]
 ·rw[if_neg h,if_neg (fun e=>h (pC.2 e))];rfl
theorem zwy{k i:Nat}:∀ {l:List (Nat × Nat × Nat)},aH i (xD.adCut k l)=if i<k then aH i l else none:=by
 intro l;induction l with
 | nil=>show none=_;split<;>rfl
 | cons a l ih=>
  unfold xD.adCut at ih ⊢
  rw[List.filter_cons];split
  ·rename_i ha
   have ha:=pC.1 ha
   rw[lS,ih,lS];split
   ·rename_i e;rw[if_pos (by omega)]
   ·rfl
  ·rename_i ha
   rw[ih,lS];split
   ·rename_i hi
    rw[if_neg];intro e;exact ha (pC.2 (by omega))
   ·rfl
section
variable {W J:zJ}{t:Tr lA}{X X0:Xt}{HA:rA}{C:iA}{A:Tr mF}{ν:Nat->Nat}{Q:bB}{kf n:Nat}{st old:xH}{tm oldA:Tm}{all:Array Oper}{olds:List (Nat × List Nat)}
theorem oF.cut(h:oF C.base X0 kf ν X st tm HA t):oF C.base X0 kf ν X st.cut tm.cut HA t:=by
 refine⟨h.ov,h.le,h.k,h.kA,?_,?_,h.lo,h.inj⟩
 ·intro i v hi
  have hi:st.tm.cut.get i=some v:=hi
  rw[Tm.get_cut]at hi ⊢
  split at hi
  ·rename_i e;rw[if_pos (by rw[h.kA,<- h.k];exact e)];exact h.tms i v hi
  ·cases hi
 ·intro i p hi
  have hi:aH i (xD.adCut st.tm.k st.ad)=some p:=hi
  rw[zwy]at hi;rw[Tm.get_cut];split at hi
  ·rename_i e;rw[if_pos (by rw[h.kA,<- h.k];exact e)];exact h.ads i p hi
  ·cases hi
theorem fU(h:oF C.base X0 kf ν X st tm HA t)(ho:zjg ν old oldA){os:List Nat}{op:Op}:yO (zqm st old os op) (.mixed tm oldA os (sH op))/\kV ν (z39 st old os op) (.mixed tm oldA os (sH op)):=by
 constructor
 ·intro i v hi
  have hi:(bif rH i (sH op)then Tm.get (bif rH i os then old.tm else st.tm) i else none)=some v:=hi
  show(bif rH i (sH op)then Tm.get (bif rH i os then oldA else tm) i else none)=some v
  cases hm:rH i (sH op)with
  | false=>rw[hm]at hi;cases hi
  | true=>
   rw[hm]at hi;simp only[cond_true]at hi ⊢
   cases hq:rH i os with
   | true=>rw[hq]at hi;exact ho.tms i v hi
   | false=>rw[hq]at hi;exact h.tms i v hi
 ·intro i p hi
  have hi:(bif rH i (sH op)then aH i (bif rH i os then old.ad else st.ad)else none)=some p:=hi
  show(bif rH i (sH op)then Tm.get (bif rH i os then oldA else tm) i else none)=_
  cases hm:rH i (sH op)with
  | false=>rw[hm]at hi;cases hi
  | true=>
   rw[hm]at hi;simp only[cond_true]at hi ⊢
   cases hq:rH i os with
   | true=>rw[hq]at hi;exact ho.ads i p hi
   | false=>rw[hq]at hi;exact h.ads i p hi
theorem zdv(ho:zjg ν old oldA){κ:KT}{kd:Tm->oB}(hκ:∀st' tm',oF C.base X0 kf ν X st' tm' HA t->pA C.base W J (κ st') t Q->mC C.base X0 Q (kd tm')) :
  ∀(l:List Nat) (st:xH) (tm:Tm),oF C.base X0 kf ν X st tm HA t->pA C.base W J (vQ C all n old olds κ l st) t Q->mC C.base X0 Q (gH C HA all n oldA olds kd l tm):=by
 intro l;induction l with
 | nil=>exact hκ
 | cons i l ih=>
  intro st tm hst h;have h:pA C.base W J (vC (nD all.toList i) fun o=>vC (gE o.guard all st.tm) fun w=>Bool.rec (motive:=fun _=>T) (zox n o.dst zE false st (vQ C all n old olds κ l))
   (tL C o.op (zqm st old (cE i olds) o.op) (z39 st old (cE i olds) o.op) st.lo (kop C all n o (zqm st old (cE i olds) o.op) st (vQ C all n old olds κ l))) w) t Q:=h
  rw[qE]at h;obtain⟨o,h0,h⟩:=h
  rw[qE]at h;obtain⟨w,h1,h2⟩:=h
  rw[dX];refine mC.ob h0 (mC.ob (ze5 hst h1) ?_)
  cases w with
  | false=>
   rw[if_neg (by simp)]
   obtain⟨st',h3,h4⟩:=hst.put h2
   exact ih _ _ h3 h4
  | true=>
   rw[if_pos rfl];refine Exists.elim (z26 (R:=fun v=>mC C.base X0 Q (pJ C o.type v fun v=>gH C HA all n oldA olds kd l (putA n tm o.dst v))) (fU hst ho).1 (fU hst ho).2 hst.ov hst.lo h2 ?_ ?_ ?_) (fun v h=>mC.ob h.1 h.2)
   ·intro v hk
    have hk:pA C.base W J (zrq C o.type v fun v=>zdw (zf5 all.toList o.dst all.toList) (zy5 o.op (zqm st old (cE i olds) o.op) st.lit) v fun v lt=>zox n o.dst v lt st (vQ C all n old olds κ l)) t Q:=hk
    obtain⟨g1,g2⟩:=zmc hk
    obtain⟨lt',g3⟩:=vX g2
    obtain⟨st',g4,g5⟩:=hst.put g3
    exact mC.norm g1 (ih _ _ g4 g5)
   ·intro v hk
    obtain⟨g1,g2⟩:=cL.1 hk
    obtain⟨lt',g3⟩:=vX g2
    obtain⟨st',g4,g5⟩:=hst.put g3
    exact mC.norm (za9 g1) (ih _ _ g4 g5)
   ·intro d off hk
    obtain⟨g1,g2⟩:=cL.1 hk
    obtain⟨st',g4,g5⟩:=hst.putA g2
    exact mC.norm (zgf g1) (ih _ _ g4 g5)
theorem zrp(ho:zjg ν old oldA)(hst:oF C.base X0 kf ν X st tm HA t){k:T}{kd:oB}(hk:pA C.base W J k t Q->mC C.base X0 Q kd) :
  ∀(l:List Nat),pA C.base W J (tQ C all old olds st k l) t Q->mC C.base X0 Q (eJ C HA all oldA olds tm kd l):=by
 intro l;induction l with
 | nil=>exact hk
 | cons i l ih=>
  intro h;have h:pA C.base W J (vC (nD all.toList i) fun o=>vC o.dst fun d=>vC (gE o.guard all st.tm) fun w=>Bool.rec (motive:=fun _=>T) (tQ C all old olds st k l)
   (vC (st.tm.get d) fun u=>gdT (fitB C o.type u) (tL C o.op (zqm st old (cE i olds) o.op) (z39 st old (cE i olds) o.op) st.lo ⟨fun v=>.ite (same 10 v u) (tQ C all old olds st k l) .fail,fun v=>.ite (same 10 v u) (tQ C all old olds st k l) .fail,fun _ _=>.fail⟩)) w) t Q:=h
  rw[qE]at h;obtain⟨o,h0,h⟩:=h
  rw[qE]at h;obtain⟨d,h1,h⟩:=h
  rw[qE]at h;obtain⟨w,h2,h⟩:=h
  rw[tZ];refine mC.ob h0 (mC.ob h1 (mC.ob (ze5 hst h2) ?_))
  cases w with
  | false=>rw[if_neg (by simp)];exact ih h
  | true=>
   rw[if_pos rfl];simp only[qE,cL]at h;obtain⟨u,h3,h4,h5⟩:=h
   have dC:∀v,pA C.base W J (.ite (same 10 v u) (tQ C all old olds st k l) .fail) t Q->mC C.base X0 Q (pJ C o.type v fun v=>ob (tm.get d) fun u=>sB (same 10 v u) (eJ C HA all oldA olds tm kd l)):=by
    intro v hv;have hv:if same 10 v u=true then pA C.base W J (tQ C all old olds st k l) t Q else False:=hv
    split at hv
    ·rename_i hs
     refine mC.norm ?_ (mC.ob (hst.tms _ _ h3) ?_)
     ·rw[zj8 _ _ _ hs];exact za9 h4
     ·rw[hs];exact ih hv
    ·exact hv.elim
   obtain⟨v,h6,h7⟩:=z26 (R:=fun v=>mC C.base X0 Q (pJ C o.type v fun v=>ob (tm.get d) fun u=>sB (same 10 v u) (eJ C HA all oldA olds tm kd l))) (fU hst ho).1 (fU hst ho).2 hst.ov hst.lo h5 dC dC (fun _ _ h=>h.elim)
   exact mC.ob h6 h7
theorem zos(hW:xR C A W)(ho:zjg ν old oldA){κ:KT}{m:Tm->rA->oB}(hκ:SK C W J X0 kf Q κ m) :
  ∀(l:List vG) (st:xH) (tm:Tm) (HA:rA) (t:Tr lA) (X:Xt),oF C.base X0 kf ν X st tm HA t->pA C.base W J (zbr C all n old olds κ l st) t Q->mC C.base X0 Q (wI C (bE C A) all n oldA olds m l tm HA):=by
 intro l;induction l with
 | nil=>intro st tm HA t X hst h;exact hκ _ _ _ _ _ _ hst h
 | cons s l ih=>
  intro st tm HA t X hst h;have h:pA C.base W J (vC (nD all.toList s.heavy) fun o=>vC (gE o.guard all st.tm) fun w=>
   (fun cont:KT=>Bool.rec (motive:=fun _=>T) (zox n o.dst zE false st cont)
    (tH C [] o.dst o.op (zqm st old (cE s.heavy olds) o.op) (z39 st old (cE s.heavy olds) o.op) st.lo (kop C all n o (zqm st old (cE s.heavy olds) o.op) st cont) (klo C n o st cont)) w)
   (fun st'=>tQ C all old olds st' (vQ C all n old olds (zbr C all n old olds κ l) s.lights st') s.again)) t Q:=h
  rw[qE]at h;obtain⟨o,h0,h⟩:=h
  rw[qE]at h;obtain⟨w,h1,h2⟩:=h
  rw[rU];refine mC.ob h0 (mC.ob (ze5 hst h1) ?_)
  have dC:∀st' tm' HA' t' X' ν',ν'=ν->oF C.base X0 kf ν' X' st' tm' HA' t'->pA C.base W J (tQ C all old olds st' (vQ C all n old olds (zbr C all n old olds κ l) s.lights st') s.again) t' Q →
    mC C.base X0 Q (eJ C HA' all oldA olds tm' (gH C HA' all n oldA olds (fun tm=>wI C (bE C A) all n oldA olds m l tm HA') s.lights tm') s.again):=by
   intro st' tm' HA' t' X' ν' e hs hw;subst e;exact zrp ho hs (fun hl=>zdv ho (fun st2 tm2 hs2 hw2=>ih _ _ _ _ _ hs2 hw2) _ _ _ hs hl) _ hw
  cases w with
  | false=>
   simp only[yar,if_false];obtain⟨st',h3,h4⟩:=hst.put h2
   exact dC _ _ _ _ _ _ rfl h3 h4
  | true=>
   simp only[if_true];exact zso (m:=fun tm' HA'=>eJ C HA' all oldA olds tm' (gH C HA' all n oldA olds (fun tm=>wI C (bE C A) all n oldA olds m l tm HA') s.lights tm') s.again)
    hW (fU hst ho).1 (fU hst ho).2 hst (fun st' tm' HA' t' X' ν' hn hs _ hw=>dC _ _ _ _ _ _ (hn rfl) hs hw) h2
theorem zou(hW:xR C A W){la:List Nat}{fn id:Nat}{d:Bool}{κ:KT}{m:Tm->rA->oB}(hκ:SK C W J X0 kf Q κ m):SK C W J X0 kf Q (zri C la fn n κ id all d) (kU C (bE C A) fn n m id all d):=by
 intro st tm HA t X ν hst h
 cases d with
 | false=>exact z23 hW hκ _ _ _ _ _ _ _ hst.cut h
 | true=>
  have h:pA C.base W J (vC (ob (C.plans.get fn) fun t=>t.get id) fun p=>gdT (kN all p) (vQ C all n st.cut p.olds (zbr C all n st.cut p.olds κ p.stages) p.first st.cut)) t Q:=h
  simp only[qE,cL]at h;obtain⟨p,h1,h2,h3⟩:=h
  show mC C.base X0 Q (ob (ob (C.plans.get fn) fun t=>t.get id) fun p=>sB (kN all p) (gH C HA all n tm.cut p.olds (fun tm'=>wI C (bE C A) all n tm.cut p.olds m p.stages tm' HA) p.first tm.cut))
  refine mC.ob h1 ?_
  rw[h2];exact zdv hst.cut.old (fun st' tm' hs hw=>zos hW hst.cut.old hκ _ _ _ _ _ _ hs hw) _ _ _ hst.cut h3
end
structure PtD where
 p:PI
 m:Tm->rA->oB
def vL(C:iA)(φ:Ora)(fn n:Nat):mF->Kt->List PtD
 | .skip,_=>[]
 | .region _ _ _,_=>[]
 | .seq a b,κ=>vL C φ fn n a ⟨jD C φ fn n b κ,κ.exit,κ.ret⟩++vL C φ fn n b κ
 | .cond _ x y,κ=>vL C φ fn n x κ++vL C φ fn n y κ
 | .block id c,κ=>vL C φ fn n c ⟨κ.norm,fun i tm H=>Bool.rec (motive:=fun _=>oB) (κ.exit i tm H) (κ.norm tm H) (Nat.beq id i),κ.ret⟩
 | .loop p c,κ=>⟨p,jD C φ fn n (.loop p c) κ⟩::vL C φ fn n c ⟨jD C φ fn n (.loop p c) κ,κ.exit,κ.ret⟩
 | .exit _,_=>[]
 | .ret,_=>[]
 | .cut p c,κ=>⟨p,jD C φ fn n (.cut p c) κ⟩::vL C φ fn n c κ
def z55(base kf:Nat)(d:PtD)(vals:List zA)(t:Tr lA)(Q:bB):Prop:=∀X0 X HA tm ν,oF base X0 kf ν X (stAt kf d.p vals) tm HA t->mC base X0 Q (d.m tm HA)
def JOk (base kf:Nat)(J:zJ)(l:List PtD):Prop:=∀d∈l,∀vals t Q,J d.p.id vals t Q->z55 base kf d vals t Q
structure SKt (C:iA) (W J:zJ) (X0:Xt) (kf:Nat) (Q:bB) (κ:KtT) (m:Kt):Prop where
 norm:SK C W J X0 kf Q κ.norm m.norm
 exit:∀i,SK C W J X0 kf Q (κ.exit i) (m.exit i)
 ret:SK C W J X0 kf Q κ.ret m.ret
theorem zfk{d:Nat}{l:List zA}{st:xH}:∀ {ll:List (Nat × Nat)} {b rest:List zA},zdr st ll=some b->(zw9 ll (b++rest)).get d=some l->st.lo.get d=some l:=by
 intro ll;induction ll with
 | nil=>intro b rest _ h;rw[show zw9 [] (b++rest)=.leaf from rfl,Tr.get_leaf]at h;cases h
 | cons p ll ih=>
  intro b rest hb h;have hb:(ob (aH p.1 st.ad) fun a=>sB (Nat.beq a.1 p.1&&Nat.beq a.2 0) (ob (st.lo.get p.1) fun l=>sB (Nat.beq (uB l) p.2) (ob (zdr st ll) fun r=>some (jF l r))))=some b:=hb
  simp only[mA,mB]at hb;obtain⟨a,_,_,l0,h2,h3,r,h4,h5⟩:=hb
  cases h5;have h:((zw9 ll (vK (jF l0 r++rest) p.2)).set p.1 (pO (jF l0 r++rest) p.2)).get d=some l:=h
  rw[aB,xE]at h3;rw[fH,lO,jT,<- h3,yba,List.drop_left,List.take_left,Tr.get_set]at h;split at h
  ·rename_i e;cases h;rw[e];exact h2
  ·exact ih h4 h
theorem zx1{i:Nat}{q:Nat × Nat}{st:xH}:∀ {ll:List (Nat × Nat)} {b:List zA},zdr st ll=some b->aH i (stAd ll)=some q->aH i st.ad=some q:=by
 intro ll;induction ll with
 | nil=>intro b _ h;cases h
 | cons p ll ih=>
  intro b hb h;have hb:(ob (aH p.1 st.ad) fun a=>sB (Nat.beq a.1 p.1&&Nat.beq a.2 0) (ob (st.lo.get p.1) fun l=>sB (Nat.beq (uB l) p.2) (ob (zdr st ll) fun r=>some (jF l r))))=some b:=hb
  simp only[mA,mB,yac,aB]at hb;obtain⟨a,h1,⟨h2,h3⟩,l0,_,_,r,h4,_⟩:=hb
  have h:aH i ((p.1,p.1,0)::stAd ll)=some q:=h
  rw[lS]at h;split at h
  ·rename_i e;cases h;rw[e];show aH p.1 st.ad=some (p.1,0);rw[h1,<- h2,<- h3]
  ·exact ih h4 h
theorem zxz{i:Nat}{v:zA}{st:xH}:∀ {pl:List Nat} {a rest:List zA},uI (fun i=>st.tm.get i) pl=some a->(z07 pl (a++rest)).get i=some v->st.tm.get i=some v:=by
 intro pl;induction pl with
 | nil=>intro a rest _ h;rw[show z07 [] (a++rest)=.leaf from rfl,Tr.get_leaf]at h;cases h
 | cons j pl ih=>
  intro a rest ha h;rw[oO,mA]at ha;obtain⟨u,h1,ha⟩:=ha
  rw[mA]at ha;obtain⟨r,h2,ha⟩:=ha
  cases ha;have h:((z07 pl (r++rest)).set j u).get i=some v:=h
  rw[Tr.get_set]at h;split at h
  ·rename_i e;cases h;rw[e];exact h1
  ·exact ih h2 h
theorem Tm.get_kv{k i:Nat}{v:Tr zA}{u:zA}(h:Tm.get ⟨k,v,[]⟩ i=some u):i<k/\v.get i=some u:=by
 unfold Tm.get at h;rw[lH]at h;split at h
 ·rename_i e;exact⟨pC.1 e,h⟩
 ·cases h
theorem zol{p:PI}{st:xH}{vals:List zA}(h:zdq p st=some vals):∃a b,vals=a++b/\uI (fun i=>st.tm.get i) p.pl=some a/\zdr st p.ll=some b/\a.length=p.pl.length:=by
 unfold zdq at h;simp only[mA]at h;obtain⟨a,h1,b,h2,h3⟩:=h
 cases h3;refine⟨a,b,fH _ _,h1,h2,?_⟩
 have:∀(l:List Nat) (r:List zA),uI (fun i=>st.tm.get i) l=some r->r.length=l.length:=by
  intro l;induction l with
  | nil=>intro r h;cases h;rfl
  | cons x l ih=>
   intro r h;rw[oO,mA]at h;obtain⟨u,_,h⟩:=h
   rw[mA]at h;obtain⟨s,h5,h⟩:=h
   cases h;simp[ih _ h5]
 exact this _ _ h1
section
variable {W J:zJ}{t:Tr lA}{X X0:Xt}{HA:rA}{C:iA}{A:Tr mF}{ν:Nat->Nat}{Q:bB}{kf n:Nat}{st:xH}{tm:Tm}
theorem oF.at(h:oF C.base X0 kf ν X st tm HA t){p:PI}{vals:List zA}(hv:zdq p st=some vals):oF C.base X0 kf ν X (stAt kf p vals) tm HA t:=by
 obtain⟨a,b,rfl,h1,h2,h3⟩:=zol hv
 have hd:vK (a++b) (uB p.pl)=b:=by rw[lO,xE,<- h3,List.drop_left]
 refine⟨h.ov,h.le,rfl,h.kA,?_,?_,?_,?_⟩
 ·intro i v hi
  exact h.tms i v (zxz h1 (Tm.get_kv hi).2)
 ·intro i q hi
  exact h.ads i q (zx1 h2 hi)
 ·intro d l hl
  have hl:(zw9 p.ll (vK (a++b) (uB p.pl))).get d=some l:=hl
  rw[hd]at hl;have hb:(zw9 p.ll (b++[])).get d=some l:=by rw[ybe];exact hl
  exact h.lo d l (zfk h2 hb)
 ·intro d d' l l' hl hl' he
  have hl:(zw9 p.ll (vK (a++b) (uB p.pl))).get d=some l:=hl
  have hl':(zw9 p.ll (vK (a++b) (uB p.pl))).get d'=some l':=hl'
  rw[hd]at hl hl'
  have hb:(zw9 p.ll (b++[])).get d=some l:=by rw[ybe];exact hl
  have hb':(zw9 p.ll (b++[])).get d'=some l':=by rw[ybe];exact hl'
  exact h.inj d d' l l' (zfk h2 hb) (zfk h2 hb') he
theorem zu1{tm:Tm}{i:Nat}{v:zA}(hv:tm.get i=some v):∀ {live:List Nat},i∈live->(zii tm live).get i=some v:=by
 intro live;induction live with
 | nil=>intro h;cases h
 | cons j live ih=>
  intro h;show(match tm.get j with | some v=>(zii tm live).set j v | none=>zii tm live:Tr zA).get i=some v
  by_cases e:i=j
  ·subst e;rw[hv];simp only[];rw[Tr.get_set,if_pos rfl]
  ·have:=ih ((yat.1 h).resolve_left e)
   cases tm.get j with
   | none=>exact this
   | some u=>simp only[];rw[Tr.get_set,if_neg e];exact this
theorem zxy{i:Nat}{v:zA}:∀ {pl:List Nat} {vals:List zA},(z07 pl vals).get i=some v->i∈pl:=by
 intro pl;induction pl with
 | nil=>intro vals h;rw[show z07 [] vals=.leaf from rfl,Tr.get_leaf]at h;cases h
 | cons j pl ih=>
  intro vals h
  cases vals with
  | nil=>rw[show z07 (j::pl) []=.leaf from rfl,Tr.get_leaf]at h;cases h
  | cons u vals=>
   have h:((z07 pl vals).set j u).get i=some v:=h
   rw[Tr.get_set]at h;split at h
   ·rename_i e;rw[e];exact yaz
   ·exact yas _ (ih h)
theorem zx0{i:Nat}{q:Nat × Nat}:∀ {ll:List (Nat × Nat)},aH i (stAd ll)=some q->i∈(List.rec (motive:=fun _=>List Nat) [] (fun a _ r=>a.1::r) ll:List Nat):=by
 intro ll;induction ll with
 | nil=>intro h;cases h
 | cons p ll ih=>
  intro h;have h:aH i ((p.1,p.1,0)::stAd ll)=some q:=h
  rw[lS]at h;split at h
  ·rename_i e;rw[e];exact yaz
  ·exact yas _ (ih h)
theorem oF.keep{p:PI}{vals:List zA}(hb:∀i,i∈p.kept->i<kf)(h:oF C.base X0 kf ν X (stAt kf p vals) tm HA t):oF C.base X0 kf ν X (stAt kf p vals) (Am.keep p.kept tm) HA t:=by
 have key:∀i v,i∈p.kept->tm.get i=some v->(Am.keep p.kept tm).get i=some v:=by
  intro i v hi hv;unfold Am.keep Tm.get;rw[lH,if_pos (pC.2 (by rw[h.kA];exact hb i hi))]
  exact zu1 hv hi
 refine⟨h.ov,h.le,rfl,h.kA,?_,?_,h.lo,h.inj⟩
 ·intro i v hi
  refine key i v ?_ (h.tms i v hi)
  unfold PI.kept;rw[fH];exact ycd _ (zxy (Tm.get_kv hi).2)
 ·intro i q hi
  refine key i _ ?_ (h.ads i q hi)
  unfold PI.kept;rw[fH];exact ybg _ (zx0 hi)
theorem dU{l:List PtD}(hJ:JOk C.base kf J l){p:PI}{m:Tm->rA->oB}(hm:(⟨p,m⟩:PtD)∈l):SK C W J X0 kf Q (zps p) m:=by
 intro st tm HA t X ν hst h;unfold zps at h;rw[qE]at h;obtain⟨vals,h1,h2⟩:=h
 exact hJ _ hm vals t Q h2 _ _ _ _ _ (hst.at h1)
theorem zfe(hW:xR C A W){la:List Nat}{f:Nat}:∀(c:mF) (κ:KtT) (m:Kt),SKt C W J X0 kf Q κ m->JOk C.base kf J (vL C (bE C A) f n c m)->SK C W J X0 kf Q (zl9 C la f n c κ) (jD C (bE C A) f n c m):=by
 intro c;induction c with
 | skip=>intro κ m hκ _;exact hκ.norm
 | region id ops d=>intro κ m hκ _;exact zou hW hκ.norm
 | seq a b iha ihb=>
  intro κ m hκ hJ;exact iha ⟨zl9 C la f n b κ,κ.exit,κ.ret⟩ ⟨jD C (bE C A) f n b m,m.exit,m.ret⟩ ⟨ihb κ m hκ fun d hd=>hJ d (ybg _ hd),hκ.exit,hκ.ret⟩ fun d hd=>hJ d (ycd _ hd)
 | cond x a b iha ihb=>
  intro κ m hκ hJ st tm HA t X ν hst h;have ha:=iha κ m hκ fun d hd=>hJ d (ycd _ hd)
  have hb:=ihb κ m hκ fun d hd=>hJ d (ybg _ hd)
  have h:pA C.base W J (vC (ob (ev x (.now st.tm)) zA.asBool) fun b'=>bif z1n x st.lit then Bool.rec (motive:=fun _=>T) (zl9 C la f n b κ st) (zl9 C la f n a κ st) b' else .ite b' (zl9 C la f n a κ st) (zl9 C la f n b κ st)) t Q:=h
  rw[qE]at h;obtain⟨w,h1,h2⟩:=h
  rw[mA]at h1;obtain⟨v,h3,h4⟩:=h1
  show mC C.base X0 Q (ob (ob (ev x (.now tm)) zA.asBool) fun t=>Bool.rec (motive:=fun _=>oB) (jD C (bE C A) f n b m tm HA) (jD C (bE C A) f n a m tm HA) t)
  refine mC.ob (a:=w) (by rw[gD (zkj hst).1 h3];exact h4) ?_
  have h2:if w=true then pA C.base W J (zl9 C la f n a κ st) t Q else pA C.base W J (zl9 C la f n b κ st) t Q:=by
   rw[jC]at h2;split at h2
   ·cases w<;>exact h2
   ·exact h2
  cases w with
  | true=>exact ha _ _ _ _ _ _ hst h2
  | false=>exact hb _ _ _ _ _ _ hst h2
 | block id c ih=>
  intro κ m hκ hJ;refine ih ⟨κ.norm,fun i st=>Bool.rec (motive:=fun _=>T) (κ.exit i st) (κ.norm st) (Nat.beq id i),κ.ret⟩ ⟨m.norm,fun i tm H=>Bool.rec (motive:=fun _=>oB) (m.exit i tm H) (m.norm tm H) (Nat.beq id i),m.ret⟩ ⟨hκ.norm,fun i=>?_,hκ.ret⟩ hJ
  intro st tm HA t X ν hst h;have h:pA C.base W J (Bool.rec (motive:=fun _=>T) (κ.exit i st) (κ.norm st) (Nat.beq id i)) t Q:=h
  show mC C.base X0 Q (Bool.rec (motive:=fun _=>oB) (m.exit i tm HA) (m.norm tm HA) (Nat.beq id i))
  cases hb:Nat.beq id i with
  | true=>rw[hb]at h;exact hκ.norm _ _ _ _ _ _ hst h
  | false=>rw[hb]at h;exact hκ.exit i _ _ _ _ _ _ hst h
 | loop p c ih=>intro κ m hκ hJ;exact dU hJ yaz
 | exit id=>intro κ m hκ _;exact hκ.exit id
 | ret=>intro κ m hκ _;exact hκ.ret
 | cut p c ih=>intro κ m hκ hJ;exact dU hJ yaz
def PtOk (C:iA)(W J:zJ)(kf:Nat)(l:List PtT)(d:PtD):Prop:=∃q∈l,q.p=d.p/\∀vals t Q,pA C.base W J (q.tree vals) t Q->z55 C.base kf d vals t Q
def tM(kf:Nat):mF->Bool
 | .seq a b=>tM kf a&&tM kf b
 | .cond _ a b=>tM kf a&&tM kf b
 | .block _ c=>tM kf c
 | .loop p c=>p.kept.all (fun i=>Nat.blt i kf)&&tM kf c
 | .cut p c=>p.kept.all (fun i=>Nat.blt i kf)&&tM kf c
 | _=>true
theorem ztk(hW:xR C A W){la:List Nat}{f:Nat}:∀(c:mF) (κ:KtT) (m:Kt),tM kf c=true->(∀X0 Q,SKt C W J X0 kf Q κ m)->JOk C.base kf J (vL C (bE C A) f n c m)->∀d∈vL C (bE C A) f n c m,PtOk C W J kf (nR C la f n kf c κ) d:=by
 have up:∀ {l l':List PtT} {d:PtD},PtOk C W J kf l d->(∀q∈l,q∈l')->PtOk C W J kf l' d:=fun⟨q,h1,h2⟩ hl=>⟨q,hl q h1,h2⟩
 intro c;induction c with
 | skip=>intro κ m _ _ _ d hd;cases hd
 | region id ops dr=>intro κ m _ _ _ d hd;cases hd
 | seq a b iha ihb=>
  intro κ m hk hκ hJ d hd;unfold tM at hk;rw[yac]at hk;have e:nR C la f n kf (.seq a b) κ=nR C la f n kf a ⟨zl9 C la f n b κ,κ.exit,κ.ret⟩++nR C la f n kf b κ:=fH _ _
  rw[e];have hJa:JOk C.base kf J (vL C (bE C A) f n a ⟨jD C (bE C A) f n b m,m.exit,m.ret⟩):=fun d hd=>hJ d (ycd _ hd)
  have hJb:JOk C.base kf J (vL C (bE C A) f n b m):=fun d hd=>hJ d (ybg _ hd)
  rcases List.mem_append.1 hd with hd | hd
  ·exact up (iha ⟨zl9 C la f n b κ,κ.exit,κ.ret⟩ ⟨jD C (bE C A) f n b m,m.exit,m.ret⟩ hk.1 (fun X0 Q=>⟨zfe hW b κ m (hκ X0 Q) hJb,(hκ X0 Q).exit,(hκ X0 Q).ret⟩) hJa d hd) fun q hq=>ycd _ hq
  ·exact up (ihb _ _ hk.2 hκ hJb d hd) fun q hq=>ybg _ hq
 | cond x a b iha ihb=>
  intro κ m hk hκ hJ d hd;unfold tM at hk;rw[yac]at hk;have e:nR C la f n kf (.cond x a b) κ=nR C la f n kf a κ++nR C la f n kf b κ:=fH _ _
  rw[e];rcases List.mem_append.1 hd with hd | hd
  ·exact up (iha _ _ hk.1 hκ (fun d hd=>hJ d (ycd _ hd)) d hd) fun q hq=>ycd _ hq
  ·exact up (ihb _ _ hk.2 hκ (fun d hd=>hJ d (ybg _ hd)) d hd) fun q hq=>ybg _ hq
 | block id c ih=>
  intro κ m hk hκ hJ d hd;refine ih ⟨κ.norm,fun i st=>Bool.rec (motive:=fun _=>T) (κ.exit i st) (κ.norm st) (Nat.beq id i),κ.ret⟩ ⟨m.norm,fun i tm H=>Bool.rec (motive:=fun _=>oB) (m.exit i tm H) (m.norm tm H) (Nat.beq id i),m.ret⟩ hk (fun X0 Q=>⟨(hκ X0 Q).norm,fun i=>?_,(hκ X0 Q).ret⟩) hJ d hd
  intro st tm HA t X ν hst h;have h:pA C.base W J (Bool.rec (motive:=fun _=>T) (κ.exit i st) (κ.norm st) (Nat.beq id i)) t Q:=h
  show mC C.base X0 Q (Bool.rec (motive:=fun _=>oB) (m.exit i tm HA) (m.norm tm HA) (Nat.beq id i))
  cases hb:Nat.beq id i with
  | true=>rw[hb]at h;exact(hκ X0 Q).norm _ _ _ _ _ _ hst h
  | false=>rw[hb]at h;exact(hκ X0 Q).exit i _ _ _ _ _ _ hst h
 | loop p c ih=>
  intro κ m hk hκ hJ d hd;unfold tM at hk;rw[yac,ybc]at hk;have hJc:JOk C.base kf J (vL C (bE C A) f n c ⟨jD C (bE C A) f n (.loop p c) m,m.exit,m.ret⟩):=fun d hd=>hJ d (yas _ hd)
  have hκ':∀X0 Q,SKt C W J X0 kf Q ⟨zps p,κ.exit,κ.ret⟩ ⟨jD C (bE C A) f n (.loop p c) m,m.exit,m.ret⟩:=fun X0 Q=>⟨dU hJ yaz,(hκ X0 Q).exit,(hκ X0 Q).ret⟩
  rcases yat.1 hd with rfl | hd
  ·refine⟨_,yaz,rfl,fun vals t Q hw X0 X HA tm ν hst=>?_⟩
   show mC C.base X0 Q (jD C (bE C A) f n (.loop p c) m tm HA)
   rw[zz4];exact zfe hW c _ _ (hκ' X0 Q) hJc _ _ _ _ _ _ (hst.keep fun i hi=>pC.1 (hk.1 i hi)) hw
  ·exact up (ih ⟨zps p,κ.exit,κ.ret⟩ ⟨jD C (bE C A) f n (.loop p c) m,m.exit,m.ret⟩ hk.2 hκ' hJc d hd) fun q hq=>yas _ hq
 | exit id=>intro κ m _ _ _ d hd;cases hd
 | ret=>intro κ m _ _ _ d hd;cases hd
 | cut p c ih=>
  intro κ m hk hκ hJ d hd;unfold tM at hk;rw[yac,ybc]at hk;have hJc:JOk C.base kf J (vL C (bE C A) f n c m):=fun d hd=>hJ d (yas _ hd)
  rcases yat.1 hd with rfl | hd
  ·refine⟨_,yaz,rfl,fun vals t Q hw X0 X HA tm ν hst=>?_⟩
   exact zfe hW c _ _ (hκ X0 Q) hJc _ _ _ _ _ _ (hst.keep fun i hi=>pC.1 (hk.1 i hi)) hw
  ·exact up (ih _ _ hk.2 hκ hJc d hd) fun q hq=>yas _ hq
end
end Go.Am
namespace Go.Am
open Go Go.RowKit
def Tr.mapT{α β:Type}(f:α->β)(t:Tr α):Tr β:=Tr.rec (motive:=fun _=>Tr β) .leaf (fun _ v _ l r=>.node l (match v with | some a=>some (f a) | none=>none) r) t
theorem Tr.get_mapT{α β:Type}(f:α->β):∀(t:Tr α) (n:Nat),(t.mapT f).get n=(t.get n).map f:=by
 intro t;induction t with
 | leaf=>intro n;rfl
 | node l v r ihl ihr=>
  intro n;show(Tr.node (l.mapT f) (match v with | some a=>some (f a) | none=>none) (r.mapT f)).get n=_
  rw[Tr.get_node,Tr.get_node];split
  ·cases v<;>rfl
  ·split
   ·exact ihl _
   ·exact ihr _
def dO(F:Tr kB):Tr mF:=F.mapT kB.code
structure uC (C:iA) (F:Tr kB) (f:Nat) (fn:Func) (kf:Nat) (A:kB):Prop where
 isF:F.get f=some A
 isFn:C.fns.get f=some fn
 isK:C.ks.get f=some kf
 prim:fK (C.prims.get f)=true
 kept:tM kf A.code=true
 body:fK fn.body=false
def Wc (C:iA)(F:Tr kB):zJ:=fun f args t Q=>∀X HA,Ov C.base t X HA->mC C.base X Q (zlj C (dO F) f args HA)
theorem Tr.bound{α:Type}(t:Tr α):∃n,∀b y,t.get b=some y->b<n:=by
 induction t with
 | leaf=>exact⟨0,fun b y h=>by rw[Tr.get_leaf]at h;cases h⟩
 | node l v r ihl ihr=>
  obtain⟨n,hn⟩:=ihl
  obtain⟨m,hm⟩:=ihr
  refine⟨2*n+2*m+3,fun b y h=>?_⟩
  rw[Tr.get_node]at h;split at h
  ·omega
  ·split at h
   ·have:=hn _ _ h;omega
   ·have:=hm _ _ h;omega
def PV (C:iA)(F:Tr kB)(f:Nat)(args:List zA)(t:Tr lA)(v:zA):Prop:=Wc C F f args t fun v' t'=>v'=v/\t'=t
theorem PV.unique{C:iA}{F:Tr kB}{f:Nat}{args:List zA}{t:Tr lA}{v v':zA}(h:PV C F f args t v)(h':PV C F f args t v'):v=v':=by
 obtain⟨n,hn⟩:=Tr.bound t
 have ho:Ov C.base t (fun _=>none) ⟨C.base+n,t⟩:=⟨Nat.le_add_right _ _,fun _ _=>rfl,fun _ _ h=>(by cases h),fun b y hb=>Nat.lt_of_lt_of_le (hn b y hb) (Nat.le_add_left _ _)⟩
 obtain⟨u,t',HA',X',h1,_,_,h2,_⟩:=h _ _ ho
 obtain⟨u',t'',HA'',X'',h3,_,_,h4,_⟩:=h' _ _ ho
 rw[h1]at h3
 cases h3;rw[<- h2,<- h4]
def zD (C:iA)(F:Tr kB)(f:Nat)(args:List zA)(t:Tr lA):Option zA:=@dite _ (∃v,PV C F f args t v) (Classical.propDecidable _) (fun h=>some h.choose) (fun _=>none)
theorem wF{C:iA}{F:Tr kB}{f:Nat}{args:List zA}{t:Tr lA}{v:zA}:zD C F f args t=some v ↔ PV C F f args t v:=by
 unfold zD;constructor
 ·intro h
  by_cases hx:∃v,PV C F f args t v
  ·rw[dif_pos hx]at h;cases h;exact hx.choose_spec
  ·rw[dif_neg hx]at h;cases h
 ·intro h
  have hx:∃v,PV C F f args t v:=⟨v,h⟩
  rw[dif_pos hx,PV.unique hx.choose_spec h]
def Wq (C:iA)(F:Tr kB)(pure:Nat->Bool):zJ:=fun f args t R=>if pure f=true then uH (zD C F f args t) fun v=>R v t else Wc C F f args t R
theorem Wq_ok{C:iA}{F:Tr kB}{pure:Nat->Bool}:xR C (dO F) (Wq C F pure):=by
 intro f args t R h X HA ho;unfold Wq at h;split at h
 ·rw[jQ]at h
  obtain⟨v,h1,h2⟩:=h
  exact((wF.1 h1) X HA ho).mono fun v' t' hh=>by rw[hh.1,hh.2];exact h2
 ·exact h X HA ho
def Jq (C:iA)(F:Tr kB)(f:Nat):zJ:=fun i vals t Q=>∀fn kf A,uC C F f fn kf A->∀d∈vL C (bE C (dO F)) f fn.ntmps A.code (zxn C fn),d.p.id=i->z55 C.base kf d vals t Q
theorem Jq_ok{C:iA}{F:Tr kB}{f:Nat}{fn:Func}{kf:Nat}{A:kB}(h:uC C F f fn kf A):JOk C.base kf (Jq C F f) (vL C (bE C (dO F)) f fn.ntmps A.code (zxn C fn)):=
 fun d hd _ _ _ hJ=>hJ fn kf A h d hd rfl
section
variable {W J:zJ}{t:Tr lA}{X X0:Xt}{HA:rA}{C:iA}{A:Tr mF}{ν:Nat->Nat}{Q:bB}{kf n:Nat}{st:xH}{tm:Tm}
theorem z3n(hst:oF C.base X0 kf ν X st tm HA t):∀(l:List ResultVar) (K:List zA->T),pA C.base W J (resT C st l K) t Q->∃vs,tT C HA tm l=some vs/\pA C.base W J (K vs) t Q:=by
 intro l;induction l with
 | nil=>intro K h;exact⟨[],rfl,h⟩
 | cons r l ih=>
  intro K h
  cases r with
  | tmp i=>
   have h:pA C.base W J (vC (st.tm.get i) fun v=>resT C st l fun l=>K (v::l)) t Q:=h
   rw[qE]at h;obtain⟨v,h1,h2⟩:=h
   obtain⟨vs,h3,h4⟩:=ih _ h2
   refine⟨v::vs,?_,h4⟩
   show uI (pR C HA tm) _=_
   rw[oO];show ob (tm.get i) _=_
   rw[hst.tms _ _ h1,uA];have h3:uI (pR C HA tm) l=some vs:=h3
   rw[h3];rfl
  | cell a ty=>
   have h:pA C.base W J (match aH a st.ad with
    | some p=>vC (st.lo.get p.1) fun m=>vC (C.tys.get ty) fun y=>gdT (Nat.ble (p.2+y.size) (uB m)) (vC (lN C ty m p.2) fun v=>resT C st l fun l=>K (v::l))
    | none=>vC (st.tm.get a) fun a=>.light (fun m=>jA C ty ⟨0,m⟩ a) fun v=>resT C st l fun l=>K (v::l)) t Q:=h
   have dC:∀ {u v:zA},tm.get a=some u->jA C ty HA u=some v->pA C.base W J (resT C st l fun l=>K (v::l)) t Q->∃vs,tT C HA tm (.cell a ty::l)=some vs/\pA C.base W J (K vs) t Q:=by
    intro u v h1 h2 h3;obtain⟨vs,h4,h5⟩:=ih _ h3
    refine⟨v::vs,?_,h5⟩
    show uI (pR C HA tm) _=_
    rw[oO];have e:pR C HA tm (.cell a ty)=some v:=by
     show(ob (ob (tm.get a) zA.asPtr) fun p=>ob (C.tys.get ty) fun ty=>ob (oD HA p.1) fun c=>cM ty c.1 p.2)=some v
     unfold jA at h2;rw[h1,uA];exact h2
    have h4:uI (pR C HA tm) l=some vs:=h4
    rw[e,uA,h4];rfl
   split at h
   ·rename_i p hp
    simp only[qE,cL]at h;obtain⟨m,h1,y,h2,h3,v,h4,h5⟩:=h
    exact dC (hst.ads _ _ hp) (zne hst.ov hst.lo h1 h2 h3 h4) h5
   ·simp only[qE,yU]at h
    obtain⟨u,h1,v,h2,h3⟩:=h
    exact dC (hst.tms _ _ h1) (sP hst.ov.le h2) h3
theorem zvz{fn:Func}:SK C W J X0 kf Q (endT C fn) (endK C fn):=by
 intro st tm HA t X ν hst h;obtain⟨vs,h1,h2⟩:=z3n hst _ _ h
 unfold endK;exact mC.ob h1 ⟨_,t,HA,X,rfl,hst.ov,hst.le,h2⟩
theorem zrm{fn:Func}:SKt C W J X0 kf Q (topT C fn) (zxn C fn):=⟨zvz,fun _ _ _ _ _ _ _ _ h=>h.elim,zvz⟩
end
section
variable {C:iA}{F:Tr kB}{f:Nat}{fn:Func}{kf:Nat}{A:kB}{pure:Nat->Bool}{t:Tr lA}{Q:bB}
theorem z54(h:uC C F f fn kf A){args:List zA}(hl:(Nat.ble (uB args) kf&&Nat.ble (uB args) fn.ntmps)=true)(hw:pA C.base (Wq C F pure) (Jq C F f) (entT C fn kf f A args) t Q):Wc C F f args t Q:=by
 intro X HA ho;have hA:(dO F).get f=some A.code:=by unfold dO;rw[Tr.get_mapT,h.isF];rfl
 obtain⟨body,hb⟩:∃b,fn.body=some b:=by
  cases hx:fn.body with
  | none=>have:=h.body;rw[hx]at this;cases this
  | some b=>exact⟨b,rfl⟩
 have he:fI C f args false=some ⟨[.code body],⟨kf,Tr.ofList args,[]⟩,⟨f,fn.ntmps,[],.run,false,none⟩⟩:=by
  unfold fI;rw[h.isFn,uA,hb,uA,h.isK,uA,hl];rfl
 have hp:C.prims.get f=none:=by
  cases hx:C.prims.get f with
  | none=>rfl
  | some g=>have:=h.prim;rw[hx]at this;cases this
 unfold zlj;rw[hp];show mC C.base X Q (bE C (dO F) f args HA)
 rw[fnV_eq];unfold iM;refine mC.ob hA (mC.ob h.isFn (mC.ob he ?_))
 have hst:oF C.base X kf (fun i=>i) X ⟨⟨kf,Tr.ofList args,[]⟩,[],.leaf,[]⟩ ⟨kf,Tr.ofList args,[]⟩ HA t:=
  ⟨ho,XLe.refl _,rfl,rfl,fun _ _ h=>h,fun _ _ h=>(by cases h),fun d l h=>(by rw[Tr.get_leaf]at h;cases h),fun d _ l _ h=>(by rw[Tr.get_leaf]at h;cases h)⟩
 exact zfe Wq_ok A.code (topT C fn) (zxn C fn) zrm (Jq_ok h) _ _ _ _ _ _ hst hw
theorem Jq_of(h:uC C F f fn kf A){i:Nat}{vals:List zA}{l:List T}(hp:zpe (ptsT C fn kf f A) i vals=l)(hw:∀T∈l,pA C.base (Wq C F pure) (Jq C F f) T t Q):Jq C F f i vals t Q:=by
 intro fn' kf' A' h' d hd hi;have e1:=h.isFn;rw[h'.isFn]at e1;cases e1
 have e2:=h.isK;rw[h'.isK]at e2;cases e2
 have e3:=h.isF;rw[h'.isF]at e3;cases e3
 obtain⟨q,h1,h2,h3⟩:=ztk (W:=Wq C F pure) Wq_ok A.code (topT C fn) (zxn C fn) h.kept (fun _ _=>zrm) (Jq_ok h) d hd
 refine h3 vals t Q (hw _ ?_)
 subst hp;have key:∀(l:List PtT),q∈l->q.tree vals∈zpe l i vals:=by
  intro l;induction l with
  | nil=>intro h;cases h
  | cons p l ih=>
   intro hm;show q.tree vals∈(bif Nat.beq p.p.id i then p.tree vals::zpe l i vals else zpe l i vals)
   rw[jC];rcases yat.1 hm with e | hm
   ·subst e
    rw[if_pos (by rw[h2];exact aB.2 hi)]
    exact yaz
   ·split
    ·exact yas _ (ih hm)
    ·exact ih hm
 exact key _ h1
theorem Jq_of1(h:uC C F f fn kf A){i:Nat}{vals:List zA}{T:T}(hp:zpe (ptsT C fn kf f A) i vals=[T])(hw:pA C.base (Wq C F pure) (Jq C F f) T t Q):Jq C F f i vals t Q:=
 Jq_of h hp fun T' hT=>by rw[yce.1 hT];exact hw
theorem Jq.mono{i:Nat}{vals:List zA}{Q':bB}(h:Jq C F f i vals t Q)(k:∀v t',Q v t'->Q' v t'):Jq C F f i vals t Q':=
 fun fn kf A hf d hd hi X0 X HA tm ν hst=>(h fn kf A hf d hd hi X0 X HA tm ν hst).mono k
theorem zfq{g:List zA->rA->Option zA}(hg:C.prims.get f=some g){args:List zA}{v:zA}(h:∀H,g args H=some v):zD C F f args t=some v:=by
 refine wF.2 fun X HA ho=>?_
 unfold zlj;rw[hg];exact⟨v,t,HA,X,by simp only[h HA,uA],ho,XLe.refl _,rfl,rfl⟩
theorem zhw{args:List zA}{v:zA}(h:Wc C F f args t fun v' t'=>v'=v/\∀b y,t.get b=some y->t'.get b=some y):zD C F f args t=some v:=by
 refine wF.2 fun X HA ho=>?_
 obtain⟨u,t',HA',X',h1,h2,h3,h4,h5⟩:=h X HA ho
 refine⟨u,t,HA',fun b=>match t.get b with | some _=>none | none=>HA'.t.get b,h1,⟨h2.base,?_,?_,?_⟩,?_,h4,rfl⟩
 ·intro b hb
  cases hg:t.get b with
  | some y=>rw[h2.up (h5 b y hg)]
  | none=>simp only[hg]at hb;exact hb
 ·intro b y hb
  cases hg:t.get b with
  | some y=>simp only[hg]at hb;cases hb
  | none=>
   simp only[hg]at hb;refine⟨hb,rfl,?_⟩
   cases hx:X' b with
   | some z=>exact(h2.ext b z hx).2.2
   | none=>rw[h2.same b hx]at hb;exact h2.lt b y hb
 ·intro b y hb;exact h2.lt b y (h5 b y hb)
 ·intro b y hb
  have hn:=(ho.ext b y hb).2.1
  simp only[hn];exact(h2.ext b y (h3 b y hb)).1
end
theorem zli{P:Program}{C:iA}{F:Tr kB}{B N:Nat}{I:World->Prop}{μ:Mu}{w:World}(hS:Sim P C B N I)(hI:I w)(hA:aT C (dO F)){f:Nat}(hp:C.prims.get f=none){args:List zA}{args':Array Value}{H:rA}{Q:bB}(hbase:C.base<=H.next)(hlt:∀b y,H.t.get b=some y->b<H.next)(hH:pB B N μ H w)(hl:qB μ args args'.toList)
  (h:Wc C F f args H.t Q):Calls P f args' w fun e w'=>∃v v' t' μ',e=.returned v'/\μ.lw μ'/\sA μ' v v'/\Q v t'/\Below N w w':=by
 obtain⟨v,t',HA',X',h1,h2,h3,h4⟩:=h (fun _=>none) H ⟨hbase,fun _ _=>rfl,fun _ _ h=>(by cases h),hlt⟩
 unfold zlj at h1;rw[hp]at h1;intro base;obtain⟨e,w',b,⟨v',μ',g1,g2,g3,g4,g5⟩,g6⟩:=zi0 hS hI hA hH hl h1 base
 exact⟨e,w',b,⟨v,v',t',μ',g1,g2,g3,h4,g5⟩,g6⟩
end Go.Am
namespace Go.Am
open Go Go.RowKit
def piOf (i:Nat)(l:List (Nat × PI)):Option PI:=List.rec (motive:=fun _=>Option PI) none (fun a _ g=>bif Nat.beq i a.1 then some a.2 else g) l
def cutP (p:Option PI)(c:mF):mF:=
 match p with
 | some p=>.cut p c
 | none=>c
def z4f(p:Option PI)(c:mF):mF:=
 match p with
 | some p=>.loop p c
 | none=>.loop ⟨0,[],[]⟩ c
def qS(rt lt:List (Nat × PI))(c:Code):Nat->mF:=
 Code.rec (motive:=fun _=>Nat->mF)
  (fun _=>.skip)
  (fun id ops d _=>cutP (piOf id rt) (.region id ops d))
  (fun _ _ ga gb k=>.seq (ga k) (gb k))
  (fun c _ _ gx gy k=>.cond c (gx k) (gy k))
  (fun id _ g _=>.block id (g id))
  (fun _ g k=>z4f (piOf k lt) (g k))
  (fun _ _ _ _ _ _ _=>.skip)
  (fun id _=>.exit id)
  (fun _ _ _=>.skip)
  (fun _ _=>.skip)
  (fun _ _=>.skip)
  (fun _=>.ret)
  (fun _ _=>.skip) c
def rC(rt lt:List (Nat × PI))(k:Nat)(c:Code):mF:=qS rt lt c k
def eM(c:Code):Bool:=
 Code.rec (motive:=fun _=>Bool) true (fun _ _ _=>true) (fun _ _ a b=>bif a then b else false) (fun _ _ _ a b=>bif a then b else false) (fun _ _ a=>a) (fun _ a=>a)
  (fun _ _ _ _ _ _=>false) (fun _=>true) (fun _ _=>false) (fun _=>false) (fun _=>false) true (fun _=>false) c
theorem zp5(p:Option PI)(c:mF):nH (cutP p c)=nH c:=by cases p<;>rfl
theorem zk4(p:Option PI)(c:mF):nH (z4f p c)=.loop (nH c):=by cases p<;>rfl
theorem zk5{rt lt:List (Nat × PI)}:∀(c:Code) (k:Nat),eM c=true->nH (qS rt lt c k)=c:=by
 intro c;induction c with
 | skip=>intro k _;rfl
 | region id ops d=>intro k _;show nH (cutP _ _)=_;rw[zp5];rfl
 | seq a b iha ihb=>
  intro k h;have h:(bif eM a then eM b else false)=true:=h
  have ha:eM a=true:=by cases hx:eM a with | true=>rfl | false=>rw[hx]at h;cases h
  have hb:eM b=true:=by rw[ha]at h;exact h
  show Code.seq (nH (qS rt lt a k)) (nH (qS rt lt b k))=_
  rw[iha k ha,ihb k hb]
 | cond c x y ihx ihy=>
  intro k h;have h:(bif eM x then eM y else false)=true:=h
  have ha:eM x=true:=by cases hx:eM x with | true=>rfl | false=>rw[hx]at h;cases h
  have hb:eM y=true:=by rw[ha]at h;exact h
  show Code.cond c (nH (qS rt lt x k)) (nH (qS rt lt y k))=_
  rw[ihx k ha,ihy k hb]
 | block id c ih=>intro k h;show Code.block id (nH (qS rt lt c id))=_;rw[ih id h]
 | loop c ih=>intro k h;show nH (z4f _ (qS rt lt c k))=_;rw[zk4,ih k h]
 | exit id=>intro k _;rfl
 | ret=>intro k _;rfl
 | rangeFunc f ps a b _ _=>intro k h;cases h
 | scope c _=>intro k h;cases h
 | label l=>intro k h;cases h
 | goto l=>intro k h;cases h
 | refuse s=>intro k h;cases h
def tabF (l:List (Nat × kB)):Tr kB:=List.rec (motive:=fun _=>Tr kB) .leaf (fun p _ g=>g.set p.1 p.2) l
theorem zxq{l:List (Nat × kB)}{f:Nat}{A:kB}(h:(tabF l).get f=some A):(f,A)∈l:=by
 induction l with
 | nil=>rw[show tabF []=.leaf from rfl,Tr.get_leaf]at h;cases h
 | cons p l ih=>
  have h:((tabF l).set p.1 p.2).get f=some A:=h
  rw[Tr.get_set]at h;split at h
  ·rename_i e;cases h;rw[e];exact yaz
  ·exact yas _ (ih h)
def zw6(C:iA)(p:Nat × kB):Prop:=∃fn c,C.fns.get p.1=some fn/\fn.body=some c/\nH p.2.code=c
theorem bodyOk{C:iA}{f:Nat}{fn:Func}{c:Code}{rt lt:List (Nat × PI)}{la:List Nat}(h1:C.fns.get f=some fn)(h2:fn.body=some c)(h3:eM c=true):zw6 C (f,⟨rC rt lt 0 c,la⟩):=⟨fn,c,h1,h2,zk5 c 0 h3⟩
theorem zqa{C:iA}{l:List (Nat × kB)}(h:∀p∈l,zw6 C p):aT C (dO (tabF l)):=by
 intro f c hc;unfold dO at hc;rw[Tr.get_mapT]at hc
 cases hq:(tabF l).get f with
 | none=>rw[hq]at hc;cases hc
 | some A=>
  rw[hq]at hc
  cases hc;obtain⟨fn,b,h1,h2,h3⟩:=h _ (zxq hq)
  exact⟨fn,h1,by rw[h2,h3]⟩
end Go.Am
namespace Go.Am
class aC where
 n:Nat
def z3u(a:List zA)(_:rA):Option zA:=match a with | []=>some (.bool true) | _=>none
def zpt:List Nat->List Nat->Bool
 | [],_=>true
 | _::_,[]=>false
 | a::x,b::y=>bif Nat.beq a b then zpt x y else false
def zz6 (sub:List Nat):List Nat->Option (List Nat × List Nat)
 | []=>bif sub.isEmpty then some ([],[])else none
 | b::l=>bif zpt sub (b::l)then some ([],vK (b::l) (uB sub))else ob (zz6 sub l) fun p=>some (b::p.1,p.2)
def pCut (a:List zA)(_:rA):Option zA:=match a with
 | [.str s,.str c]=>sB (Nat.blt (uB s) 4294967281) (match zz6 c s with
  | some p=>some (.tup [.str p.1,.str p.2,.bool true])
  | none=>some (.tup [.str s,.str [],.bool false]))
 | _=>none
def zkt(n:Int):List Nat:=(Lib.itoa n).map UInt8.toNat
def ztp(a:List zA)(_:rA):Option zA:=match a with
 | [.int .i64 n]=>sB (qC (-9223372036854775808) n&&fB n 9223372036854775808) (some (.str (zkt n)))
 | _=>none
def zjs(v:zA):Option Nat:=ob v.asIntK fun p=>sB (kEq p.1 .u32) (ob (jK p.2) fun n=>sB (Nat.blt n 4294967296) (some n))
def zkp:List zA->Option zA
 | []=>some (.int .u64 0)
 | [a]=>ob (zjs a) fun x=>some (.int .u64 (.ofNat x))
 | [a,b]=>ob (zjs a) fun x=>ob (zjs b) fun y=>some (.int .u64 (.ofNat (x+4294967296*y)))
 | _=>none
def zto(a:List zA)(H:rA):Option zA:=match a with
 | [v]=>(match v.asSlice with
  | some s=>bif Nat.blt s.2.2.1 3 then ob (oD H s.1) fun c=>ob (c.1.many s.2.2.1 s.2.1) zkp else none
  | none=>sB (Nat.beq v.tag 5) (some (.int .u64 0)))
 | _=>none
end Go.Am
