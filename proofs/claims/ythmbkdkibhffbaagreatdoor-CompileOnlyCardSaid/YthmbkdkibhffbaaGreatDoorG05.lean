/- Trees: what they are worth. Overlays: memory with blocks that are not looked at; operations do not touch them. -/
import Derived.Lib.ItoaNum
import Derived.Test.YthmbkdkibhffbaaGreatDoorG04
set_option linter.all false
noncomputable section
namespace Go.Am
open Go Go.RowKit
def iG {α:Type}(x:Option α)(P:α->Prop):Prop:=
 match x with
 | some a=>P a
 | none=>False
theorem oR{α:Type}{x:Option α}{P:α->Prop}:iG x P ↔ ∃a,x=some a/\P a:=by
 cases x with
 | none=>simp[iG]
 | some a=>simp[iG]
@[simp] theorem xA {α:Type} {a:α} {P:α->Prop}:iG (some a) P=P a:=rfl
@[simp] theorem optP_none {α:Type} {P:α->Prop}:iG (none:Option α) P=False:=rfl
abbrev cB:=zA->Tr jA->Prop
abbrev yJ:=Nat->List zA->Tr jA->cB->Prop
def wM(f:zA)(args:List zA):Option (Nat × List zA):=ob f.asFunc fun p=>match p.1 with
 | .func g=>some (g,cF (cF p.2.1 args) p.2.2)
 | .yld _=>none
def zyu (k:IntKind)(v:zA):Option Int:=ob v.asIntK fun p=>sB (kEq p.1 k) (some p.2)
def qG (zs:List zA)(v:zA):Option znb:=ob v.asAgg fun l=>sB (jM zs l) (some (cellsOf l))
def pA (base:Nat)(W:yJ)(J:yJ):T->Tr jA->cB->Prop
 | .ret v,t,Q=>Q v t
 | .fail,_,_=>False
 | .ite b x y,t,Q=>if b=true then pA base W J x t Q else pA base W J y t Q
 | .opt x K,t,Q=>iG x fun v=>pA base W J (K v) t Q
 | .light x K,t,Q=>iG (x t) fun v=>pA base W J (K v) t Q
 | .heavy x K,t,Q=>∀b,t.get b=none->base<=b->iG (x ⟨b,t⟩) fun p=>pA base W J (K p.1) p.2.t Q
 | .call f args K,t,Q=>W f args t fun v t'=>pA base W J (K v) t' Q
 | .callv f args K,t,Q=>iG (wM f args) fun p=>W p.1 p.2 t fun v t'=>pA base W J (K v) t' Q
 | .asI k v K,t,Q=>iG (zyu k v) fun n=>pA base W J (K n) t Q
 | .asB v K,t,Q=>iG v.asBool fun n=>pA base W J (K n) t Q
 | .asS v K,t,Q=>iG v.asStr fun n=>pA base W J (K n) t Q
 | .asG zs v K,t,Q=>iG (qG zs v) fun X=>pA base W J (K X) t Q
 | .jump i vals,t,Q=>J i vals t Q
abbrev Xt:=Nat->Option jA
def XLe (X Y:Xt):Prop:=∀b y,X b=some y->Y b=some y
theorem XLe.refl(X:Xt):XLe X X:=fun _ _ h=>h
theorem XLe.trans{X Y Z:Xt}(h:XLe X Y)(k:XLe Y Z):XLe X Z:=fun b y e=>k b y (h b y e)
structure Ov (base:Nat) (t:Tr jA) (X:Xt) (H:qA):Prop where
 base:base<=H.next
 same:∀b,X b=none->H.t.get b=t.get b
 ext:∀b y,X b=some y->H.t.get b=some y/\t.get b=none/\b<H.next
 lt:∀b y,t.get b=some y->b<H.next
def HLe (H H':qA):Prop:=∀b y,H.t.get b=some y->H'.t.get b=some y
def kO(e e':wD):Prop:=∀i v,zyr i e=some v->zyr i e'=some v
section
variable {base:Nat}{t:Tr jA}{X:Xt}{H HA:qA}{e e':wD}{C:iA}{v:zA}
theorem Ov.notX(h:Ov base t X HA){b:Nat}{y:jA}(hb:t.get b=some y):X b=none:=by
 cases hx:X b with
 | none=>rfl
 | some z=>have:=(h.ext b z hx).2.1;rw[hb]at this;cases this
theorem Ov.up(h:Ov base t X HA){b:Nat}{y:jA}(hb:t.get b=some y):HA.t.get b=some y:=by rw[h.same b (h.notX hb)];exact hb
theorem Ov.le(h:Ov base t X HA){n:Nat}:HLe ⟨n,t⟩ HA:=fun _ _ hb=>h.up hb
theorem Ov.nextX(h:Ov base t X HA):X HA.next=none:=by
 cases hx:X HA.next with
 | none=>rfl
 | some z=>exact absurd (h.ext _ z hx).2.2 (Nat.lt_irrefl _)
theorem Ov.nextT(h:Ov base t X HA):t.get HA.next=none:=by
 cases hx:t.get HA.next with
 | none=>rfl
 | some z=>exact absurd (h.lt _ z hx) (Nat.lt_irrefl _)
theorem eM(h:HLe H HA){b:Nat}{p:Tr zA × Nat × Option Nat}(hb:nD H b=some p):nD HA b=some p:=by
 unfold nD at hb ⊢;rw[lA]at hb ⊢;obtain⟨y,h1,h2⟩:=hb;exact⟨y,h _ _ h1,h2⟩
theorem aV(h:HLe H HA){b:Nat}{p:List (zA × zA)}(hb:kL H b=some p):kL HA b=some p:=by
 unfold kL at hb ⊢;rw[lA]at hb ⊢;obtain⟨y,h1,h2⟩:=hb;exact⟨y,h _ _ h1,h2⟩
theorem eD(h:kO e e'){x:Operand}(hx:ev x e=some v):ev x e'=some v:=by
 cases x with
 | tmp i=>exact h i v hx
 | const c=>exact hx
 | global g=>exact hx
 | func f=>exact hx
theorem zfo{α β:Type}{f g:α->Option β}:∀(l:List α) {r:List β},(∀a b,f a=some b->g a=some b)->oI f l=some r->oI g l=some r:=by
 intro l;induction l with
 | nil=>intro r _ h;exact h
 | cons a l ih=>
  intro r hfg h;rw[wP,lA]at h ⊢
  obtain⟨b,h1,h⟩:=h
  refine⟨b,hfg _ _ h1,?_⟩
  rw[lA]at h ⊢
  obtain⟨s,h2,h⟩:=h
  exact⟨s,ih hfg h2,h⟩
theorem zhp(h:kO e e'){l:List Operand}{vs:List zA}(hx:evs l e=some vs):evs l e'=some vs:=zfo l (fun _ _ k=>eD h k) hx
theorem zpd(h:kO e e'){x:Option Operand}{r:Option zA}(hx:evo x e=some r):evo x e'=some r:=by
 cases x with
 | none=>exact hx
 | some x=>
  have hx:ob (ev x e) (fun v=>some (some v))=some r:=hx
  show ob (ev x e') (fun v=>some (some v))=some r
  rw[lA]at hx ⊢
  obtain⟨a,h1,h2⟩:=hx
  exact⟨a,eD h h1,h2⟩
theorem zhq(h:kO e e'){l:List (Nat × Operand)}{vs:List (Nat × zA)}(hx:evp l e=some vs):evp l e'=some vs:=
 zfo l (fun a b k=>by rw[lA]at k ⊢;obtain⟨u,h1,h2⟩:=k;exact⟨u,eD h h1,h2⟩) hx
theorem zgg(h:kO e e'){c:Call}{p:zA × zA}(hx:two c e=some p):two c e'=some p:=by
 unfold two at hx ⊢
 split at hx
 ·rw[lA]at hx ⊢
  obtain⟨a,h1,hx⟩:=hx
  refine⟨a,eD h h1,?_⟩
  rw[lA]at hx ⊢
  obtain⟨b,h2,hx⟩:=hx
  exact⟨b,eD h h2,hx⟩
 ·cases hx
theorem wN(h:HLe H HA){ty:Nat}{a:zA}(hx:mA C ty H a=some v):mA C ty HA a=some v:=by
 unfold mA at hx ⊢
 simp only[lA]at hx ⊢
 obtain⟨p,h1,y,h2,c,h3,h4⟩:=hx
 exact⟨p,h1,y,h2,c,eM h h3,h4⟩
theorem za4(h:HLe H HA){s d:vD}{a:zA}(hx:iN C s d a H=some v):iN C s d a HA=some v:=by
 unfold iN at hx ⊢
 split at hx
 ·rename_i k hk;exact hx
 ·rename_i hk
  rw[lB]at hx ⊢
  refine⟨hx.1,?_⟩
  have hx:=hx.2
  rw[iC]at hx ⊢
  split at hx
  ·rename_i e;rw[if_pos e];exact hx
  ·rename_i e
   rw[if_neg e];simp only[lA,lB]at hx ⊢
   obtain⟨a1,h1,b1,h2,k1,h3,h4,h5⟩:=hx
   refine⟨a1,h1,b1,h2,k1,h3,h4,?_⟩
   unfold cV at h5 ⊢
   split at h5
   ·simp only[lA]at h5 ⊢
    obtain⟨c,g1,g2⟩:=h5
    exact⟨c,eM h g1,g2⟩
   ·exact h5
theorem zpz(h:HLe H HA){s d:Nat}{a:zA}(hx:tM C s d H a=some v):tM C s d HA a=some v:=by
 unfold tM at hx ⊢
 simp only[lA]at hx ⊢
 obtain⟨a1,h1,b1,h2,h3⟩:=hx
 exact⟨a1,h1,b1,h2,za4 h h3⟩
theorem zek(h:HLe H HA){b size cap l:Nat}{arr:Bool}(hx:lH H b size cap l arr=true):lH HA b size cap l arr=true:=by
 unfold lH at hx ⊢
 cases hc:nD H b with
 | none=>rw[hc]at hx;cases hx
 | some c=>rw[hc]at hx;rw[eM h hc];exact hx
theorem yZ(h:HLe H HA){ty:vD}{a:zA}{l r:Option zA}(hx:pK C H ty a l r=some v):pK C HA ty a l r=some v:=by
 have row:∀ {arr e b off len cap},rL C H arr e b off len cap l r=some v->rL C HA arr e b off len cap l r=some v:=by
  intro arr e b off len cap hx;unfold rL at hx ⊢
  simp only[lA]at hx ⊢
  obtain⟨a1,h1,b1,h2,hx⟩:=hx
  refine⟨a1,h1,b1,h2,?_⟩
  cases hb:nD H b with
  | none=>
   have e1:aH H b a1.size cap b1.1 arr=false:=by unfold aH;rw[hb]
   have e2:lH H b a1.size cap b1.1 arr=false:=by unfold lH;rw[hb]
   rw[e1,e2,Bool.and_false,Bool.and_false]at hx
   cases hx
  | some c=>
   have e1:aH HA b a1.size cap b1.1 arr=aH H b a1.size cap b1.1 arr:=by unfold aH;rw[hb,eM h hb]
   have e2:lH HA b a1.size cap b1.1 arr=lH H b a1.size cap b1.1 arr:=by unfold lH;rw[hb,eM h hb]
   rw[e1,e2];exact hx
 unfold pK at hx ⊢
 split at hx
 ·exact hx
 ·split at hx
  ·rw[lA]at hx ⊢;obtain⟨a1,h1,h2⟩:=hx;exact⟨a1,h1,row h2⟩
  ·split at hx
   ·rw[lA]at hx ⊢;obtain⟨a1,h1,h2⟩:=hx;exact⟨a1,h1,row h2⟩
   ·exact hx
theorem zcc(h:HLe H HA){ty:Nat}{a:zA}{l r:Option zA}(hx:yH C ty H a l r=some v):yH C ty HA a l r=some v:=by
 unfold yH at hx ⊢
 rw[lA]at hx ⊢
 obtain⟨a1,h1,h2⟩:=hx
 exact⟨a1,h1,yZ h h2⟩
theorem zav(h:HLe H HA){m:zA}{l:List (zA × zA)}(hx:zeo H m=some l):zeo HA m=some l:=by
 unfold zeo at hx ⊢
 split at hx
 ·exact aV h hx
 ·exact hx
theorem zh9(h:HLe H HA){ty:Nat}{m k:zA}{ok:Bool}(hx:cP C ty H m k ok=some v):cP C ty HA m k ok=some v:=by
 unfold cP at hx ⊢
 simp only[lA,lB]at hx ⊢
 obtain⟨a1,h1,b1,h2,c1,h3,h4,d1,h5,es,h6,h7⟩:=hx
 exact⟨a1,h1,b1,h2,c1,h3,h4,d1,h5,es,zav h h6,h7⟩
theorem zdj(h:HLe H HA){ty:vD}{a:zA}{n:Nat}(hx:zv1 H ty a=some n):zv1 HA ty a=some n:=by
 unfold zv1 at hx ⊢
 split at hx
 ·exact hx
 ·split at hx
  ·exact hx
  ·split at hx
   ·exact hx
   ·split at hx
    ·rw[lB,lA]at hx ⊢
     obtain⟨h1,l,h2,h3⟩:=hx
     exact⟨h1,l,aV h h2,h3⟩
    ·exact hx
theorem zsh(h:HLe H HA){ty:Nat}{a:zA}(hx:zrv C ty H a=some v):zrv C ty HA a=some v:=by
 unfold zrv at hx ⊢
 simp only[lA]at hx ⊢
 obtain⟨a1,h1,n,h2,h3⟩:=hx
 exact⟨a1,h1,n,zdj h h2,h3⟩
theorem zwc{ty:Nat}{a:Operand}:mN ty a C e H=ob (ev a e) fun v=>mA C ty H v:=rfl
theorem zwf{s d:Nat}{x:Operand}{u:zA}(hx:ev x e=some u):oL s d x C e H=tM C s d H u:=by unfold oL tM;rw[hx];rfl
theorem z0q{ty:Nat}{x:Operand}{lo hi:Option Operand}{a:zA}{l r:Option zA}(h1:ev x e=some a)(h2:evo lo e=some l)(h3:evo hi e=some r):lR ty x lo hi C e H=yH C ty H a l r:=by unfold lR yH;rw[h1,sA,h2,sA,h3,sA]
theorem zbg{s f:Nat}{x:Operand}{u:zA}(hx:ev x e=some u):rP s x f C e H=pB C s f u:=by
 unfold rP pB sS;rw[hx]
 cases C.tys.get s with
 | none=>rfl
 | some ty=>
  simp only[sA]
  cases ty.desc.asStruct with
  | none=>rfl
  | some fs=>
   simp only[sA]
   cases oD fs f with
   | none=>rfl
   | some fd=>simp only[sA];cases hb:(!Nat.beq fd.2.2 0)<;>rfl
theorem zbf{ty:Nat}{x i:Operand}{u w:zA}(hx:ev x e=some u)(hi:ev i e=some w):tP ty x i C e H=zB C ty u w:=by unfold tP zB;rw[hx,hi];rfl
theorem z0s{ty:Nat}{x i:Operand}{u w:zA}(hx:ev x e=some u)(hi:ev i e=some w):sP ty x i C e H=aN C ty u w:=by unfold sP aN;rw[hx,hi];rfl
theorem z28{x:Operand}{u:zA}(hx:ev x e=some u):z0r x C e H=fG u:=by unfold z0r fG;rw[hx];rfl
theorem zqy{x:Operand}{i:Nat}{u:zA}(hx:ev x e=some u):qP x i C e H=vC i u:=by unfold qP vC;rw[hx];rfl
theorem lBin_v{op:BinOp}{ty:Nat}{x y:Operand}{u w:zA}(hx:ev x e=some u)(hy:ev y e=some w):zL op ty x y C e H=(wL op).f C ty x y u w:=by unfold zL;rw[hx,hy];rfl
theorem zwh{x:Operand}{a:Nat}{ok:Bool}{u:zA}(hx:ev x e=some u):pP x a ok C e H=zk2 C a ok u:=by
 unfold pP zk2;rw[hx];rfl
theorem zwb{ty:Nat}{x i:Operand}{ok:Bool}{m k:zA}(hx:ev x e=some m)(hi:ev i e=some k):uP ty x i ok C e H=cP C ty H m k ok:=by unfold uP cP;rw[hx,hi];rfl
theorem lLen_v{c:Call}{ty:Nat}{x:Operand}{u:zA}(h1:oD c.argTypes.toList 0=some ty)(h2:oD c.args.toList 0=some x)(hx:ev x e=some u):zox c C e H=zrv C ty H u:=by unfold zox zrv;rw[h1,sA,h2,sA,hx];rfl
theorem z1k(he:kO e e'){op:Op}(hp:zgx op=true\/(∃s d x,op=.convert s d x/\(rH C d=1\/rH C s=2))\/(∃c,op=.call c/\(c.callee=.builtin .max\/c.callee=.builtin .min))){H':qA}(h:(iF op).f C e H=some v):(iF op).f C e' H'=some v:=by
 rcases hp with hp | hp | hp
 ·cases op<;>simp only[zgx]at hp<;>try (cases hp;done)
  case move x=>exact eD he h
  case assign x=>exact eD he h
  case pick c a b=>
   have h:ob (ev c e) (fun c=>ob c.asBool fun c=>bif c then ev a e else ev b e)=some v:=h
   show ob (ev c e') (fun c=>ob c.asBool fun c=>bif c then ev a e' else ev b e')=some v
   simp only[lA]at h ⊢
   obtain⟨u,h1,w,h2,h3⟩:=h
   refine⟨u,eD he h1,w,h2,?_⟩
   cases w with
   | true=>exact eD he h3
   | false=>exact eD he h3
  case nilCheck x=>
   have h:ob (ev x e) (fun u=>sB (Nat.beq u.tag 4||Nat.beq u.tag 9) (some u))=some v:=h
   show ob (ev x e') (fun u=>sB (Nat.beq u.tag 4||Nat.beq u.tag 9) (some u))=some v
   rw[lA]at h ⊢
   obtain⟨u,h1,h2⟩:=h
   exact⟨u,eD he h1,h2⟩
  case binOp op t x y u=>
   have h:zL op t x y C e H=some v:=h
   show zL op t x y C e' H'=some v
   unfold zL at h ⊢
   simp only[lA]at h ⊢
   obtain⟨a,h1,b,h2,h3⟩:=h
   exact⟨a,eD he h1,b,eD he h2,h3⟩
  case unOp op t x=>
   have h:lUn op x C e H=some v:=h
   show lUn op x C e' H'=some v
   unfold lUn at h ⊢
   rw[lA]at h ⊢
   obtain⟨a,h1,h2⟩:=h
   exact⟨a,eD he h1,h2⟩
  case makeInterface t x=>
   have h:iS t x C e H=some v:=h
   show iS t x C e' H'=some v
   unfold iS at h ⊢
   simp only[lA,lB]at h ⊢
   obtain⟨a,h1,h2,b,h3,h4⟩:=h
   exact⟨a,h1,h2,b,eD he h3,h4⟩
  case makeFunc fn a b=>
   have h:(gS fn a b).f C e H=some v:=h
   show(gS fn a b).f C e' H'=some v
   unfold gS at h ⊢
   split at h
   ·show zwe _ a b C e' H'=some v
    unfold zwe at h ⊢
    simp only[lA]at h ⊢
    obtain⟨x,h1,y,h2,h3⟩:=h
    exact⟨x,zhp he h1,y,zhp he h2,h3⟩
   ·cases h
  case fieldAddr s x f=>
   have h:rP s x f C e H=some v:=h
   show rP s x f C e' H'=some v
   unfold rP at h ⊢
   simp only[lA,lB]at h ⊢
   obtain⟨a,h1,b,h2,c,h3,h4,u,h5,h6⟩:=h
   exact⟨a,h1,b,h2,c,h3,h4,u,eD he h5,h6⟩
  case field t x f=>
   have h:fS t x f C e H=some v:=h
   show fS t x f C e' H'=some v
   unfold fS at h ⊢
   simp only[lA]at h ⊢
   obtain⟨a,h1,b,h2,c,h3,u,h5,h6⟩:=h
   exact⟨a,h1,b,h2,c,h3,u,eD he h5,h6⟩
  case indexAddr t x i=>
   have h:tP t x i C e H=some v:=h
   show tP t x i C e' H'=some v
   unfold tP at h ⊢
   simp only[lA]at h ⊢
   obtain⟨a,h1,b,h2,c,h3,h4⟩:=h
   exact⟨a,h1,b,eD he h2,c,eD he h3,h4⟩
  case index t x i=>
   have h:sP t x i C e H=some v:=h
   show sP t x i C e' H'=some v
   unfold sP at h ⊢
   simp only[lA]at h ⊢
   obtain⟨a,h1,b,h2,c,h3,h4⟩:=h
   exact⟨a,h1,b,eD he h2,c,eD he h3,h4⟩
  case extract t i=>
   have h:qP t i C e H=some v:=h
   show qP t i C e' H'=some v
   unfold qP at h ⊢
   rw[lA]at h ⊢
   obtain⟨a,h1,h2⟩:=h
   exact⟨a,eD he h1,h2⟩
  case build t ps=>
   have h:sQ t ps C e H=some v:=h
   show sQ t ps C e' H'=some v
   unfold sQ at h ⊢
   rw[lA]at h ⊢
   obtain⟨a,h1,h⟩:=h
   refine⟨a,h1,?_⟩
   rw[lA]at h ⊢
   obtain⟨b,h2,h⟩:=h
   exact⟨b,zhq he h2,h⟩
  case typeAssert x t u ok=>
   have h:pP x u ok C e H=some v:=h
   show pP x u ok C e' H'=some v
   unfold pP at h ⊢
   rw[lA]at h ⊢
   obtain⟨a,h1,h⟩:=h
   refine⟨a,h1,?_⟩
   rw[lB]at h ⊢
   refine⟨h.1,?_⟩
   have h:=h.2
   rw[lA]at h ⊢
   obtain⟨b,h2,h⟩:=h
   exact⟨b,eD he h2,h⟩
 ·obtain⟨s,d,x,rfl,hp⟩:=hp
  have h:oL s d x C e H=some v:=h
  show oL s d x C e' H'=some v
  unfold oL at h ⊢
  simp only[lA]at h ⊢
  obtain⟨u,h1,sy,h2,dy,h3,h4⟩:=h
  refine⟨u,eD he h1,sy,h2,dy,h3,?_⟩
  unfold iN at h4 ⊢
  split at h4
  ·exact h4
  ·rename_i hd
   rw[lB]at h4 ⊢
   refine⟨h4.1,?_⟩
   have h4:=h4.2
   rw[iC]at h4 ⊢
   split at h4
   ·rename_i e;rw[if_pos e];exact h4
   ·rename_i e
    exfalso
    rcases hp with hp | hp
    ·unfold rH at hp
     rw[h3]at hp;have hp:dy.desc.tag=1:=hp
     cases hx:dy.desc<;>rw[hx]at hp hd<;>first
      | (cases hp;done)
      | (cases hd;done)
    ·unfold rH at hp
     rw[h2]at hp;have hp:sy.desc.tag=2:=hp
     simp only[lA]at h4;obtain⟨el,h5,_⟩:=h4
     cases hx:sy.desc<;>rw[hx]at hp h5<;>first
      | (cases hp;done)
      | (cases h5;done)
 ·obtain⟨c,rfl,hc⟩:=hp
  rcases hc with hc | hc
  ·have h:(qO c c.callee).f C e H=some v:=h
   show(qO c c.callee).f C e' H'=some v
   rw[hc]at h ⊢
   have h:zwa c C e H=some v:=h
   show zwa c C e' H'=some v
   unfold zwa at h ⊢
   rw[lA]at h ⊢
   obtain⟨p,h1,h2⟩:=h
   exact⟨p,zgg he h1,h2⟩
  ·have h:(qO c c.callee).f C e H=some v:=h
   show(qO c c.callee).f C e' H'=some v
   rw[hc]at h ⊢
   have h:zv8 c C e H=some v:=h
   show zv8 c C e' H'=some v
   unfold zv8 at h ⊢
   rw[lA]at h ⊢
   obtain⟨p,h1,h2⟩:=h
   exact⟨p,zgg he h1,h2⟩
end
end Go.Am
namespace Go.Am
open Go Go.RowKit
section
variable {base:Nat}{t:Tr jA}{X:Xt}{H HA:qA}{e e':wD}{C:iA}{v:zA}
theorem Ov.newBlk(h:Ov base t X HA)(y:jA):Ov base (t.set HA.next y) X (newBlk HA y):=by
 refine⟨Nat.le_succ_of_le h.base,fun b hb=>?_,fun b z hb=>?_,fun b z hb=>?_⟩
 ·show(HA.t.set HA.next y).get b=_
  rw[Tr.get_set,Tr.get_set];split
  ·rfl
  ·exact h.same b hb
 ·obtain⟨h1,h2,h3⟩:=h.ext b z hb
  have hne:b≠HA.next:=Nat.ne_of_lt h3
  refine⟨?_,?_,Nat.lt_succ_of_lt h3⟩
  ·show(HA.t.set HA.next y).get b=_
   rw[Tr.get_set,if_neg hne];exact h1
  ·rw[Tr.get_set,if_neg hne];exact h2
 ·rw[Tr.get_set]at hb
  show b<HA.next+1
  split at hb
  ·rename_i e;rw[e];exact Nat.lt_succ_self _
  ·exact Nat.lt_succ_of_lt (h.lt _ _ hb)
theorem Ov.setBlk(h:Ov base t X HA){b:Nat}{y:jA}(hb:t.get b=some y)(z:jA):Ov base (t.set b z) X (setBlk HA b z):=by
 refine⟨h.base,fun c hc=>?_,fun c u hc=>?_,fun c u hc=>?_⟩
 ·show(HA.t.set b z).get c=_
  rw[Tr.get_set,Tr.get_set];split
  ·rfl
  ·exact h.same c hc
 ·obtain⟨h1,h2,h3⟩:=h.ext c u hc
  have hne:c≠b:=fun e=>by rw[e,hb]at h2;cases h2
  refine⟨?_,?_,h3⟩
  ·show(HA.t.set b z).get c=_
   rw[Tr.get_set,if_neg hne];exact h1
  ·rw[Tr.get_set,if_neg hne];exact h2
 ·rw[Tr.get_set]at hc
  show c<HA.next
  split at hc
  ·rename_i e;rw[e];exact h.lt _ _ hb
  ·exact h.lt _ _ hc
theorem Ov.delBlk(h:Ov base t X HA){b:Nat}{y:jA}(hb:t.get b=some y):Ov base (t.del b) X ⟨HA.next,HA.t.del b⟩:=by
 refine⟨h.base,fun c hc=>?_,fun c u hc=>?_,fun c u hc=>?_⟩
 ·show(HA.t.del b).get c=_
  rw[Tr.get_del,Tr.get_del];split
  ·rfl
  ·exact h.same c hc
 ·obtain⟨h1,h2,h3⟩:=h.ext c u hc
  have hne:c≠b:=fun e=>by rw[e,hb]at h2;cases h2
  refine⟨?_,?_,h3⟩
  ·show(HA.t.del b).get c=_
   rw[Tr.get_del,if_neg hne];exact h1
  ·rw[Tr.get_del,if_neg hne];exact h2
 ·rw[Tr.get_del]at hc
  show c<HA.next
  split at hc
  ·cases hc
  ·exact h.lt _ _ hc
def zyw (base:Nat)(x:qA->Option (zA × qA)):Prop:=∀t X HA v H',Ov base t X HA->x ⟨HA.next,t⟩=some (v,H')->∃HA',x HA=some (v,HA')/\Ov base H'.t X HA'
theorem zdb(l:List zA)(lo:Option Nat)(h:Ov base t X HA):Ov base (jF ⟨HA.next,t⟩ l lo).t X (jF HA l lo):=h.newBlk _
theorem zsk{ty:Nat}:zyw base (sM C ty):=by
 intro t X HA v H' ho h;unfold sM at h ⊢
 rw[lA]at h;obtain⟨y,h1,h2⟩:=h
 cases h2;rw[h1];exact⟨_,rfl,zdb _ _ ho⟩
theorem z4j{u:zA}:zyw base (zsj u):=by
 intro t X HA v H' ho h
 cases h;exact⟨_,rfl,zdb _ _ ho⟩
theorem zeg{ty n:Nat}{ps:List (Nat × zA)}:zyw base (oF C ty n ps):=by
 intro t X HA v H' ho h;unfold oF at h ⊢
 simp only[lA,lB]at h;obtain⟨a,h1,b,h2,c,h3,h4,l,h5,h6⟩:=h
 cases h6;refine⟨jF HA l none,?_,zdb _ _ ho⟩
 simp only[lA,lB];exact⟨a,h1,b,h2,c,h3,h4,l,h5,rfl⟩
theorem zik(ho:Ov base t X HA){b off:Nat}{l:List zA}{H':qA}(h:fK C ⟨HA.next,t⟩ b off l=some H'):∃HA',fK C HA b off l=some HA'/\Ov base H'.t X HA':=by
 unfold fK at h ⊢
 simp only[lA,lB]at h;obtain⟨h1,c,h2,h3,h4⟩:=h
 cases h4;have h2':=h2
 unfold nD at h2';rw[lA]at h2'
 obtain⟨y,h5,_⟩:=h2'
 refine⟨_,?_,ho.setBlk h5 _⟩
 simp only[lA,lB];exact⟨h1,c,eM ho.le h2,h3,rfl⟩
theorem zsg{ty:Nat}{a u:zA}:zyw base (xE C ty a u):=by
 intro t X HA v H' ho h;unfold xE at h ⊢
 simp only[lA,lB]at h;obtain⟨y,h1,p,h2,h3,H1,h4,h5⟩:=h
 cases h5;obtain⟨HA',h6,h7⟩:=zik ho h4
 refine⟨HA',?_,h7⟩
 simp only[lA,lB];exact⟨y,h1,p,h2,h3,HA',h6,rfl⟩
theorem zk1:zyw base aU:=by
 intro t X HA v H' ho h
 cases h;exact⟨_,rfl,ho.newBlk _⟩
theorem zex{ty:Nat}{m k u:zA}:zyw base (tS C ty m k u):=by
 intro t X HA v H' ho h;unfold tS at h ⊢
 simp only[lA,lB]at h;obtain⟨a,h1,b,h2,c,h3,h4,d,h5,h6,l,h7,h8,l',h9,h10⟩:=h
 cases h10;have h7':=h7
 unfold kL at h7';rw[lA]at h7'
 obtain⟨y,h11,_⟩:=h7'
 refine⟨_,?_,ho.setBlk h11 _⟩
 simp only[lA,lB];exact⟨a,h1,b,h2,c,h3,h4,d,h5,h6,l,aV ho.le h7,h8,l',h9,rfl⟩
theorem zge{ty:Nat}{l c:zA}:zyw base (sL C ty l c):=by
 intro t X HA v H' ho h;unfold sL at h ⊢
 simp only[lA,lB]at h;obtain⟨a,h1,b,h2,d,h3,n,h4,m,h5,h6,h7⟩:=h
 cases h7;refine⟨jF HA (rJ d.zero m) none,?_,zdb _ _ ho⟩
 simp only[lA,lB];exact⟨a,h1,b,h2,d,h3,n,h4,m,h5,h6,rfl⟩
theorem zk0{s d:Nat}{u:zA}:zyw base (zgd C s d u):=by
 intro t X HA v H' ho h;unfold zgd at h ⊢
 simp only[lA,lB]at h;obtain⟨a,h1,b,h2,c,h3,et,h4,k,h5,h6,l,h7,h8⟩:=h
 cases h8;refine⟨jF HA (lP l) (some 1),?_,zdb _ _ ho⟩
 simp only[lA,lB];exact⟨a,h1,b,h2,c,h3,et,h4,k,h5,h6,l,h7,rfl⟩
theorem zmg(h:HLe H HA){sz n:Nat}{u:zA}{l:List zA}(hx:cS H sz n u=some l):cS HA sz n u=some l:=by
 unfold cS at hx ⊢
 split at hx
 ·rw[lA]at hx ⊢
  obtain⟨c,h1,h2⟩:=hx
  exact⟨c,eM h h1,h2⟩
 ·exact hx
theorem zrr(ho:Ov base t X HA){ty:vD}{a b:zA}{H':qA}(h:bM C ⟨HA.next,t⟩ ty a b=some (v,H')):∃HA',bM C HA ty a b=some (v,HA')/\Ov base H'.t X HA':=by
 unfold bM at h;simp only[lA]at h;obtain⟨el,h1,et,h2,n,h3,new,h4,h5⟩:=h
 have h4':=zmg ho.le h4
 suffices hs:∃HA',(match a.asSlice with
  | some s=>bif Nat.ble (s.2.2.1+n) s.2.2.2 then oP C HA et n new s else nP C HA et n new s
  | none=>sB (Nat.beq a.tag 5) (kM HA et n new))=some (v,HA')/\Ov base H'.t X HA' by
  obtain⟨HA',g1,g2⟩:=hs
  refine⟨HA',?_,g2⟩
  unfold bM;simp only[lA];exact⟨el,h1,et,h2,n,h3,new,h4',g1⟩
 cases hs:a.asSlice with
 | some s=>
  rw[hs]at h5;simp only[]at h5 ⊢
  rw[iC]at h5;split at h5
  ·rename_i hr
   simp only[hr,cond_true];unfold oP at h5 ⊢
   split at h5
   ·cases h5;exact⟨HA,rfl,ho⟩
   ·rw[lA]at h5
    obtain⟨H1,g1,g2⟩:=h5
    cases g2
    obtain⟨HA',g3,g4⟩:=zik ho g1
    exact⟨HA',by simp only[g3,sA],g4⟩
  ·rename_i hr
   simp only[Bool.not_eq_true]at hr;simp only[hr,cond_false];unfold nP at h5 ⊢
   rw[lB]at h5;obtain⟨gm,h5⟩:=h5
   rw[lB]at h5;obtain⟨g0,h5⟩:=h5
   rw[lA]at h5;obtain⟨c,g1,h5⟩:=h5
   have g1':=eM ho.le g1
   unfold nD at g1;rw[lA]at g1;obtain⟨y,g2,_⟩:=g1
   split at h5
   ·rename_i hc
    unfold rU at h5;rw[lA]at h5;obtain⟨old,g3,g4⟩:=h5
    cases g4
    refine⟨jF HA (cF old new) (some et.size),?_,zdb _ _ ho⟩
    simp only[lB,lA];refine⟨gm,g0,c,g1',?_⟩
    rw[hc];unfold rU;simp only[lA];exact⟨old,g3,rfl⟩
   ·rename_i es hc
    unfold iV at h5;rw[lB]at h5;obtain⟨g3,g4⟩:=h5
    cases g4
    refine⟨⟨HA.next+1,(HA.t.del s.1).set HA.next (.cells (c.1.setMany new (s.2.2.1*es)) ((s.2.2.1+n)*es) (some es))⟩,?_,(ho.delBlk g2).newBlk _⟩
    simp only[lB,lA];refine⟨gm,g0,c,g1',?_⟩
    rw[hc];unfold iV;exact lB.2 ⟨g3,rfl⟩
 | none=>
  rw[hs]at h5;simp only[]at h5 ⊢
  rw[lB]at h5;obtain⟨g0,h5⟩:=h5
  unfold kM at h5;rw[iC]at h5;split at h5
  ·rename_i hn
   cases h5;refine⟨HA,?_,ho⟩
   rw[lB];refine⟨g0,?_⟩
   unfold kM;rw[hn];rfl
  ·rename_i hn
   rw[lB]at h5;obtain⟨g1,h5⟩:=h5
   cases h5;refine⟨jF HA new (some et.size),?_,zdb _ _ ho⟩
   rw[lB];refine⟨g0,?_⟩
   unfold kM;simp only[Bool.not_eq_true]at hn;rw[hn,cond_false,lB];exact⟨g1,rfl⟩
theorem zp0{ty u:Nat}{a b:zA}:zyw base (eE C ty u a b):=by
 intro t X HA v H' ho h;unfold eE at h;simp only[lA,lB]at h;obtain⟨y,h1,z,h2,h3,h4⟩:=h
 obtain⟨HA',g1,g2⟩:=zrr ho h4
 refine⟨HA',?_,g2⟩
 unfold eE;simp only[lA,lB];exact⟨y,h1,z,h2,h3,g1⟩
end
def za9(ν:Nat->Nat)(ae:zkt)(e:wD):Prop:=∀i p,tAd ae i=some p->zyr i e=some (.ptr (ν p.1) p.2)
def zyn(base:Nat)(X0 X:Xt)(ν:Nat->Nat)(lo:Tr (List zA)):Prop:=∀d l,lo.get d=some l->X0 (ν d)=none/\base<=ν d/\∃c,X (ν d)=some (.cells c l.length none)/\∀j a,l[j]?=some a->c.get j=some a
theorem mE{base:Nat}{W J:yJ}{α:Type}{x:Option α}{K:α->T}{t:Tr jA}{Q:cB}:pA base W J (wC x K) t Q ↔ ∃a,x=some a/\pA base W J (K a) t Q:=by
 cases x with
 | none=>exact⟨fun h=>(by cases h),fun⟨_,h,_⟩=>(by cases h)⟩
 | some a=>exact⟨fun h=>⟨a,rfl,h⟩,fun⟨_,h,k⟩=>(by cases h;exact k)⟩
theorem vM{base:Nat}{W J:yJ}{b:Bool}{K:T}{t:Tr jA}{Q:cB}:pA base W J (gdT b K) t Q ↔ b=true/\pA base W J K t Q:=by
 cases b with
 | false=>exact⟨fun h=>(by cases h),fun⟨h,_⟩=>(by cases h)⟩
 | true=>exact⟨fun h=>⟨rfl,h⟩,fun⟨_,h⟩=>h⟩
theorem gP{base:Nat}{W J:yJ}{x:Option zA}{K:zA->T}{t:Tr jA}{Q:cB}:pA base W J (.opt x K) t Q ↔ ∃a,x=some a/\pA base W J (K a) t Q:=oR
theorem cU{base:Nat}{W J:yJ}{x:Tr jA->Option zA}{K:zA->T}{t:Tr jA}{Q:cB}:pA base W J (.light x K) t Q ↔ ∃a,x t=some a/\pA base W J (K a) t Q:=oR
theorem zca{ν:Nat->Nat}{ae:zkt}{e:wD}(h:za9 ν ae e){x:Operand}{p:Nat × Nat}(hx:xAd ae x=some p):ev x e=some (.ptr (ν p.1) p.2):=by
 cases x with
 | tmp i=>exact h i p hx
 | const _=>cases hx
 | global _=>cases hx
 | func _=>cases hx
theorem z5v{c:Tr zA}{l:List zA}(h:∀j a,l[j]?=some a->c.get j=some a):∀(n off:Nat),off+n<=l.length->c.many n off=some ((l.drop off).take n):=by
 intro n;induction n with
 | zero=>intro off _;simp;rfl
 | succ n ih=>
  intro off ho;have hlt:off<l.length:=by omega
  rw[Tr.many_succ,h off l[off] (yae hlt),sA,ih (off+1) (by omega),sA]
  rw[yam hlt,List.take_succ_cons]
section
variable {W J:yJ}{t:Tr jA}{X X0:Xt}{HA:qA}{e eA:wD}{C:iA}{ν:Nat->Nat}{ae:zkt}{lo:Tr (List zA)}{k:KOp}{Q:cB}{R:zA->Prop}
theorem zos(ho:Ov C.base t X HA)(hl:zyn C.base X0 X ν lo){d off ty:Nat}{l:List zA}{y:vD}{v:zA}(h1:lo.get d=some l)(h2:C.tys.get ty=some y)(h3:Nat.ble (off+y.size) (wB l)=true)(h4:vO C ty l off=some v) :
  mA C ty HA (.ptr (ν d) off)=some v:=by
 obtain⟨_,_,c,hc,hg⟩:=hl d l h1
 have hb:=(ho.ext _ _ hc).1
 unfold mA;simp only[zA.asPtr,sA];rw[h2,sA];unfold nD;rw[hb,sA];simp only[jA.asCells,sA];unfold vO at h4;rw[h2,sA]at h4;unfold oN;rw[iC]at h4 ⊢
 rw[cE,bD]at h3;split at h4
 ·rename_i ha
  rw[if_pos ha,z5v hg _ _ h3,sA];rw[jS,rO]at h4;exact h4
 ·rename_i ha
  rw[if_neg ha];rw[vE]at h4;exact hg _ _ h4
theorem vN(he:kO e eA){op:Op}(hp:zgx op=true\/(∃s d x,op=.convert s d x/\(rH C d=1\/rH C s=2))\/(∃c,op=.call c/\(c.callee=.builtin .max\/c.callee=.builtin .min)))
  (h:pA C.base W J (zno C op e k) t Q) (hKd:∀v,pA C.base W J (k.Kd v) t Q->R v):∃v,(iF op).f C eA HA=some v/\R v:=by
 unfold zno at h;rw[mE]at h;obtain⟨v,h1,h2⟩:=h
 exact⟨v,z1k he hp h1,hKd v h2⟩
theorem zsi{ty:Nat}{u v:zA}{H:qA}(ht:rH C ty=4)(h:uB u=some v):zrv C ty H u=some v:=by
 unfold rH at ht
 cases hy:C.tys.get ty with
 | none=>rw[hy]at ht;cases ht
 | some y=>
  rw[hy]at ht;have ht:y.desc.tag=4:=ht
  unfold zrv;rw[hy,sA];unfold uB at h;unfold zv1
  cases u<;>simp only[zA.asSlice,zA.asStr,zA.asMap,zA.tag]at h ⊢ <;> (try (rw[lB]at h;exact absurd h.1 (by decide)))
  case nilslice=>
   rw[lB]at h;have hn:y.desc.asArr=none:=by cases hd:y.desc<;>rw[hd]at ht<;>first | rfl | (cases ht;done)
   rw[hn,ht];simp only[lA,lB];exact⟨0,⟨rfl,rfl⟩,h.2⟩
  case slice a b n m=>
   rw[ht]
   cases h;simp only[lA,lB];exact⟨n,⟨rfl,rfl⟩,rfl⟩
theorem zwu{ty:Nat}{u v:zA}{H H':qA}(ht:rH C ty≠6)(h:zrv C ty H u=some v):zrv C ty H' u=some v:=by
 unfold zrv at h ⊢
 simp only[lA]at h ⊢
 obtain⟨y,h1,n,h2,h3⟩:=h
 refine⟨y,h1,n,?_,h3⟩
 have ht:¬ Nat.beq y.desc.tag 6=true:=by
  intro hb;apply ht;unfold rH;rw[h1];exact zC.1 hb
 unfold zv1 at h2 ⊢
 split at h2
 ·exact h2
 ·split at h2
  ·exact h2
  ·split at h2
   ·exact h2
   ·split at h2
    ·rw[lB]at h2;exact absurd h2.1 ht
    ·exact h2
theorem zt1{ty:Nat}{a v:zA}{l h:Option zA}{H H':qA}(ht:rH C ty=2)(hx:yH C ty H a l h=some v):yH C ty H' a l h=some v:=by
 unfold yH at hx ⊢
 rw[lA]at hx ⊢
 obtain⟨y,h1,h2⟩:=hx
 refine⟨y,h1,?_⟩
 unfold rH at ht;rw[h1]at ht;have ht:y.desc.tag=2:=ht
 unfold pK at h2 ⊢
 have n1:y.desc.asSlice=none:=by cases hd:y.desc<;>rw[hd]at ht<;>first | rfl | (cases ht;done)
 have n2:y.desc.asArr=none:=by cases hd:y.desc<;>rw[hd]at ht<;>first | rfl | (cases ht;done)
 split at h2
 ·exact h2
 ·split at h2
  ·rw[n1]at h2;cases h2
  ·split at h2
   ·rw[n2]at h2;cases h2
   ·exact h2
theorem jW{u:zA}(h:zA.one u=true):u.cells=[u]:=by
 cases u<;>first
  | rfl
  | (have:=lC.1 h;simp[zA.tag]at this)
theorem zq9{tyAt:Nat->Option Nat}(place:Nat->Option (Nat × Nat)):∀(vs:List (Nat × zA)) {q:List (Nat × zA × List zA) × List zA},zu2 C tyAt vs=some q->bB zA.one q.2=true->∀cells l,z1f place q.1 cells=some l->iM place vs cells=some l:=by
 intro vs;induction vs with
 | nil=>intro q h _ cells l hl;cases h;exact hl
 | cons p vs ih=>
  intro q h h1 cells l hl;have h:(ob (tyAt p.1) fun t=>ob (C.tys.get t) fun ty=>ob (zu2 C tyAt vs) fun r=>some (bif ty.desc.isAgg then((p.1,p.2,p.2.cells)::r.1,r.2)else((p.1,p.2,[p.2])::r.1,p.2::r.2)))=some q:=h
  simp only[lA]at h;obtain⟨ty,_,y,_,r,h3,h4⟩:=h
  have aC:∀(rest:List zA),bB zA.one r.2=true->(ob (place p.1) fun q=>ob (z1e cells q.1 q.2 p.2.cells) fun cells=>z1f place r.1 cells)=some l->iM place (p::vs) cells=some l:=by
   intro _ hr hl;show(ob (place p.1) fun q=>ob (oU cells q.1 q.2 p.2) fun cells=>iM place vs cells)=some l
   simp only[lA]at hl ⊢
   obtain⟨a,g1,b,g2,g3⟩:=hl
   exact⟨a,g1,b,g2,ih h3 hr _ _ g3⟩
  cases hb:y.desc.isAgg with
  | true=>
   rw[hb]at h4
   cases h4;exact aC [] h1 hl
  | false=>
   rw[hb]at h4
   cases h4;rw[oG,cond_false]at h1;simp only[ybh,yac]at h1;have hl:(ob (place p.1) fun q=>ob (z1e cells q.1 q.2 [p.2]) fun cells=>z1f place r.1 cells)=some l:=hl
   rw[<- jW h1.1]at hl;exact aC [] (by rw[oG];exact h1.2) hl
theorem z4q(he:kO e eA)(ha:za9 ν ae eA)(ho:Ov C.base t X HA)(hl:zyn C.base X0 X ν lo){op:Op}(h:pA C.base W J (tL C op e ae lo k) t Q)
  (hK:∀v,pA C.base W J (k.K v) t Q->R v) (hKd:∀v,pA C.base W J (k.Kd v) t Q->R v) (hKA:∀d off,pA C.base W J (k.KA d off) t Q->R (.ptr (ν d) off)) :
  ∃v,(iF op).f C eA HA=some v/\R v:=by
 cases op<;>simp only[tL]at h<;>try (cases h;done)
 case move x=>
  unfold zza at h;split at h
  ·rename_i p hp
   exact⟨_,zca ha hp,hKA _ _ h⟩
  ·exact vN he (.inl rfl) h hKd
 case assign x=>
  unfold zza at h;split at h
  ·rename_i p hp
   exact⟨_,zca ha hp,hKA _ _ h⟩
  ·exact vN he (.inl rfl) h hKd
 case pick c a b=>exact vN he (.inl rfl) h hKd
 case load ty a=>
  unfold tLoad at h;split at h
  ·rename_i p hp
   simp only[mE,vM]at h;obtain⟨l,h1,y,h2,h3,v,h4,h5⟩:=h
   refine⟨v,?_,hKd v h5⟩
   show mN ty a C eA HA=some v
   rw[zwc,zca ha hp,sA];exact zos ho hl h1 h2 h3 h4
  ·rw[mE]at h
   obtain⟨u,h1,h2⟩:=h
   rw[cU]at h2;obtain⟨v,h3,h4⟩:=h2
   refine⟨v,?_,hK v h4⟩
   show mN ty a C eA HA=some v
   rw[zwc,eD he h1,sA];exact wN ho.le h3
 case nilCheck x=>
  unfold tNil at h;split at h
  ·rename_i p hp
   refine⟨_,?_,hKA _ _ h⟩
   show z0r x C eA HA=_
   rw[z28 (zca ha hp)];rfl
  ·rw[mE]at h
   obtain⟨u,h1,h2⟩:=h
   rw[gP]at h2;obtain⟨v,h3,h4⟩:=h2
   refine⟨v,?_,hK v h4⟩
   show z0r x C eA HA=_
   rw[z28 (eD he h1)];exact h3
 case binOp op ty x y u=>
  unfold tBin at h;rw[iC]at h;split at h
  ·exact vN he (.inl rfl) h hKd
  ·simp only[mE,gP]at h
   obtain⟨a,h1,b,h2,v,h3,h4⟩:=h
   refine⟨v,?_,hK v h4⟩
   show zL op ty x y C eA HA=_
   rw[lBin_v (eD he h1) (eD he h2)];exact h3
 case unOp o ty x=>
  split at h
  ·simp only[mE,gP]at h
   obtain⟨u,h1,v,h2,h3⟩:=h
   refine⟨v,?_,hK v h3⟩
   show lUn .xor x C eA HA=_
   unfold lUn;rw[eD he h1];exact h2
  ·exact vN he (.inl rfl) h hKd
 case convert s d x=>
  unfold z4r at h;rw[iC]at h;split at h
  ·rename_i hd
   rw[iC]at h;split at h
   ·rename_i hs
    exact vN he (.inr (.inl ⟨s,d,x,rfl,.inr (zC.1 hs)⟩)) h hKd
   ·simp only[mE,cU]at h
    obtain⟨u,h1,v,h2,h3⟩:=h
    refine⟨v,?_,hK v h3⟩
    show oL s d x C eA HA=_
    rw[zwf (eD he h1)];exact zpz ho.le h2
  ·rw[iC]at h
   split at h
   ·rename_i hd
    exact vN he (.inr (.inl ⟨s,d,x,rfl,.inl (zC.1 hd)⟩)) h hKd
   ·cases h
 case makeInterface ty x=>exact vN he (.inl rfl) h hKd
 case makeFunc fn a b=>exact vN he (.inl rfl) h hKd
 case slice ty x lo' hi mx=>
  cases mx with
  | some _=>cases h
  | none=>
   simp only[z2i,mE]at h;obtain⟨a,h1,l,h2,r,h3,h4⟩:=h
   rw[iC]at h4;show ∃v,lR ty x lo' hi C eA HA=some v/\R v
   rw[z0q (eD he h1) (zpd he h2) (zpd he h3)]
   split at h4
   ·rename_i ht
    rw[gP]at h4;obtain⟨v,h5,h6⟩:=h4
    exact⟨v,zt1 (zC.1 ht) h5,hK v h6⟩
   ·rw[cU]at h4
    obtain⟨v,h5,h6⟩:=h4
    exact⟨v,zcc ho.le h5,hK v h6⟩
 case fieldAddr s x f=>
  unfold ze3 at h;show ∃v,rP s x f C eA HA=some v/\R v
  split at h
  ·rename_i p hp
   rw[mE]at h;obtain⟨o,h1,h2⟩:=h
   refine⟨_,?_,hKA _ _ h2⟩
   rw[zbg (zca ha hp)]
   unfold pB;rw[h1];rfl
  ·simp only[mE,gP]at h
   obtain⟨u,h1,v,h2,h3⟩:=h
   refine⟨v,?_,hK v h3⟩
   rw[zbg (eD he h1)];exact h2
 case field ty x f=>exact vN he (.inl rfl) h hKd
 case indexAddr ty x i=>
  unfold ze2 at h;show ∃v,tP ty x i C eA HA=some v/\R v
  split at h
  ·rename_i p hp
   simp only[mE]at h;obtain⟨iv,h1,n,h2,o,h3,h4⟩:=h
   refine⟨_,?_,hKA _ _ h4⟩
   rw[zbf (zca ha hp) (eD he h1)]
   unfold zni at h3;simp only[lA,lB]at h3;obtain⟨y,g1,a,g2,et,g3,g4,g5⟩:=h3
   cases g5
   unfold zB;rw[g1,sA,h2,sA];simp only[zA.asSlice,zA.asPtr,sA];rw[g2,sA,g3,sA,g4];rfl
  ·simp only[mE,gP]at h
   obtain⟨u,h1,w,h2,v,h3,h4⟩:=h
   refine⟨v,?_,hK v h4⟩
   rw[zbf (eD he h1) (eD he h2)];exact h3
 case index ty x i=>
  rw[iC]at h;split at h
  ·exact vN he (.inl rfl) h hKd
  ·simp only[mE,gP]at h
   obtain⟨u,h1,w,h2,v,h3,h4⟩:=h
   refine⟨v,?_,hK v h4⟩
   show sP ty x i C eA HA=_
   rw[z0s (eD he h1) (eD he h2)];exact h3
 case lookup ty x i ok=>
  simp only[mE,cU]at h;obtain⟨m,h1,key,h2,v,h3,h4⟩:=h
  refine⟨v,?_,hK v h4⟩
  show uP ty x i ok C eA HA=_
  rw[zwb (eD he h1) (eD he h2)];exact zh9 ho.le h3
 case extract x i=>
  simp only[mE,gP]at h;obtain⟨u,h1,v,h2,h3⟩:=h
  refine⟨v,?_,hK v h3⟩
  show qP x i C eA HA=_
  rw[zqy (eD he h1)];exact h2
 case typeAssert x a u ok=>
  simp only[mE,gP]at h;obtain⟨w,h1,v,h2,h3⟩:=h
  refine⟨v,?_,hK v h3⟩
  show pP x u ok C eA HA=_
  rw[zwh (eD he h1)];exact h2
 case build ty ps=>
  unfold z2k at h;simp only[mE,vM]at h;obtain⟨y,h1,hbd,vs,h2,q,h3,l,h4,h5⟩:=h
  have h5:if bB zA.one q.2=true then pA C.base W J (k.Kd (.agg l)) t Q else False:=h5
  split at h5
  ·rename_i hone
   refine⟨_,?_,hKd _ h5⟩
   show sQ ty ps C eA HA=_
   have hf:=zq9 (zfj C y) vs h3 hone y.zero l h4
   unfold sQ;rw[h1,sA,zhq he h2,sA]
   cases hs:y.desc.asStruct with
   | some fs=>
    simp only[];have:(fun i=>ob (oD fs i) fun x=>some (x.1,x.2.2))=zfj C y:=by funext i;unfold zfj;rw[hs]
    rw[this,hf];rfl
   | none=>
    simp only[];unfold zkg at hbd;rw[hs]at hbd;simp only[]at hbd
    cases ha:y.desc.asArr with
    | none=>rw[ha]at hbd;cases hbd
    | some a=>
     rw[ha]at hbd;simp only[]at hbd
     cases hy:C.tys.get a.2 with
     | none=>rw[hy]at hbd;cases hbd
     | some et=>
      simp only[sA];have:(fun i=>some (i*et.size,et.size))=zfj C y:=by funext i;unfold zfj;rw[hs];simp only[];rw[ha,sA,hy,sA]
      rw[hy,sA,this,hf];rfl
  ·exact h5.elim
 case call c=>
  split at h
  ·rename_i b hb
   cases b<;>simp only[tW]at h<;>try (cases h;done)
   case len=>
    unfold tLen at h;simp only[mE]at h;obtain⟨ty,h1,x,h2,u,h3,h4⟩:=h
    show ∃v,(qO c c.callee).f C eA HA=some v/\R v
    rw[hb];show ∃v,zox c C eA HA=some v/\R v
    rw[lLen_v h1 h2 (eD he h3)]
    rw[iC]at h4;split at h4
    ·rename_i ht
     rw[gP]at h4;obtain⟨v,h5,h6⟩:=h4
     exact⟨v,zsi (zC.1 ht) h5,hK v h6⟩
    ·rw[iC]at h4
     split at h4
     ·rw[cU]at h4
      obtain⟨v,h5,h6⟩:=h4
      exact⟨v,zsh ho.le h5,hK v h6⟩
     ·rename_i ht
      rw[mE]at h4;obtain⟨v,h5,h6⟩:=h4
      exact⟨v,zwu (fun e=>ht (zC.2 e)) h5,hKd v h6⟩
   case max=>exact vN he (.inr (.inr ⟨c,rfl,.inl hb⟩)) h hKd
   case min=>exact vN he (.inr (.inr ⟨c,rfl,.inr hb⟩)) h hKd
  ·cases h
end
end Go.Am
namespace Go.Am
open Go Go.RowKit
def zmx(C:iA)(A:Tr fF)(f:Nat)(args:List zA)(H:qA):kB:=
 match C.prims.get f with
 | some g=>ob (g args H) fun v=>some (v,H)
 | none=>wF C A f args H
def gC (base:Nat)(X0:Xt)(Q:cB)(d:kB):Prop:=∃v t' HA' X',d=some (v,HA')/\Ov base t' X' HA'/\XLe X0 X'/\Q v t'
theorem gC.mono{base:Nat}{X0:Xt}{Q Q':cB}{d:kB}(h:gC base X0 Q d)(k:∀v t,Q v t->Q' v t):gC base X0 Q' d:=by
 obtain⟨v,t',HA',X',h1,h2,h3,h4⟩:=h
 exact⟨v,t',HA',X',h1,h2,h3,k _ _ h4⟩
def xS(C:iA)(A:Tr fF)(W:yJ):Prop:=∀f args t R,W f args t R->∀X HA,Ov C.base t X HA->gC C.base X R (zmx C A f args HA)
section
variable {W J:yJ}{t:Tr jA}{X X0:Xt}{HA:qA}{e eA:wD}{C:iA}{A:Tr fF}{ν:Nat->Nat}{ae:zkt}{lo:Tr (List zA)}{k:KOp}{kl:KLo}{Q:cB}
theorem oJ{f:LOp}{H:qA}{v:zA}(h:f C e H=some v):lv f C e H=.val v H:=by unfold lv;rw[h]
theorem zye{op:Op}{H:qA}{v:zA}(h:(iF op).f C e H=some v):(bE op).f C e H=.val v H:=by
 cases op
 case move x=>exact oJ h
 case assign x=>exact oJ h
 case pick c a b=>exact oJ h
 case load t a=>exact oJ h
 case nilCheck x=>exact oJ h
 case binOp op t x y u=>exact oJ h
 case unOp op t x=>exact oJ h
 case makeInterface t x=>exact oJ h
 case makeFunc fn a b=>exact oJ h
 case slice t x lo hi mx=>exact oJ h
 case fieldAddr s x f=>exact oJ h
 case field t x f=>exact oJ h
 case indexAddr t x i=>exact oJ h
 case index t x i=>exact oJ h
 case extract t i=>exact oJ h
 case build t ps=>exact oJ h
 case typeAssert x t u ok=>exact oJ h
 case lookup t x i ok=>exact oJ h
 case convert s d x=>
  show oQ s d x C e H=_
  have h:oL s d x C e H=some v:=h
  unfold oQ;rw[h]
 case call c=>
  have h:(qO c c.callee).f C e H=some v:=h
  show(za1 c c.callee).f C e H=_
  cases hc:c.callee with
  | value f=>rw[hc]at h;cases h
  | invoke a b=>rw[hc]at h;cases h
  | builtin b=>
   rw[hc]at h
   cases b
   case len=>exact oJ (f:=zox c) h
   case max=>exact oJ (f:=zwa c) h
   case min=>exact oJ (f:=zv8 c) h
   all_goals exact absurd (show(none:Option zA)=some v from h) (by simp)
 all_goals exact absurd (show(none:Option zA)=some v from h) (by simp)
theorem nS{x:Option (zA × qA)}{v:zA}{H':qA}{kd:zA->qA->kB}{φ:Ora}(h:x=some (v,H')):jG φ (dK x) HA kd=kd v H':=by subst h;rfl
theorem pQ(ho:Ov C.base t X HA){x:qA->Option (zA × qA)}(hx:zyw C.base x){K:zA->T}(h:pA C.base W J (.heavy x K) t Q){kd:zA->qA->kB}{φ:Ora}
  (hK:∀v t' HA' X',Ov C.base t' X' HA'->XLe X X'->pA C.base W J (K v) t' Q->gC C.base X0 Q (kd v HA')) {r:yK} (hr:∀p,x HA=some p->jG φ r HA kd=kd p.1 p.2):gC C.base X0 Q (jG φ r HA kd):=by
 have h:=h HA.next ho.nextT ho.base
 rw[oR]at h;obtain⟨⟨v,H'⟩,h1,h2⟩:=h
 obtain⟨HA',h3,h4⟩:=hx _ _ _ _ _ ho h1
 rw[hr _ h3];exact hK v _ _ _ h4 (XLe.refl _) h2
theorem z7d(hW:xS C A W)(ho:Ov C.base t X HA){f:Nat}{args:List zA}{K:zA->T}(h:W f args t fun v t'=>pA C.base W J (K v) t' Q){kd:zA->qA->kB}
  (hK:∀v t' HA' X',Ov C.base t' X' HA'->XLe X X'->pA C.base W J (K v) t' Q->gC C.base X0 Q (kd v HA')):gC C.base X0 Q (jG (wF C A) (zd4 C HA args f (C.prims.get f)) HA kd):=by
 obtain⟨v,t',HA',X',h1,h2,h3,h4⟩:=hW _ _ _ _ h X HA ho
 unfold zmx at h1;unfold zd4
 cases hp:C.prims.get f with
 | some g=>
  rw[hp]at h1;simp only[lA]at h1;obtain⟨u,g1,g2⟩:=h1
  cases g2
  simp only[g1];exact hK _ _ _ _ h2 h3 h4
 | none=>
  rw[hp]at h1;have h1:wF C A f args HA=some (v,HA'):=h1
  show gC C.base X0 Q (ob (wF C A f args HA) fun p=>kd p.1 p.2)
  rw[h1];exact hK _ _ _ _ h2 h3 h4
theorem Ov.setX{base:Nat}(h:Ov base t X HA){b:Nat}{y:jA}(hb:X b=some y)(z:jA):Ov base t (fun c=>if c=b then some z else X c) (Am.setBlk HA b z):=by
 obtain⟨g1,g2,g3⟩:=h.ext b y hb
 refine⟨h.base,fun c hc=>?_,fun c u hc=>?_,h.lt⟩
 ·split at hc
  ·cases hc
  ·rename_i hne
   show(HA.t.set b z).get c=_
   rw[Tr.get_set,if_neg hne];exact h.same c hc
 ·show(HA.t.set b z).get c=_/\_/\c<HA.next
  rw[Tr.get_set];split at hc
  ·rename_i e;cases hc;subst e;rw[if_pos rfl];exact⟨rfl,g2,g3⟩
  ·rename_i hne;rw[if_neg hne];exact h.ext c u hc
theorem Ov.newX{base:Nat}(h:Ov base t X HA)(z:jA):Ov base t (fun c=>if c=HA.next then some z else X c) (Am.newBlk HA z):=by
 refine⟨Nat.le_succ_of_le h.base,fun c hc=>?_,fun c u hc=>?_,fun b y hb=>Nat.lt_succ_of_lt (h.lt b y hb)⟩
 ·split at hc
  ·cases hc
  ·rename_i hne
   show(HA.t.set HA.next z).get c=_
   rw[Tr.get_set,if_neg hne];exact h.same c hc
 ·show(HA.t.set HA.next z).get c=_/\_/\c<HA.next+1
  rw[Tr.get_set];split at hc
  ·rename_i e;cases hc;subst e;rw[if_pos rfl];exact⟨rfl,h.nextT,Nat.lt_succ_self _⟩
  ·rename_i hne;rw[if_neg hne];have:=h.ext c u hc;exact⟨this.1,this.2.1,Nat.lt_succ_of_lt this.2.2⟩
theorem zvm(ho:Ov C.base t X HA)(hl:zyn C.base X0 X ν lo){d off:Nat}{l l':List zA}{u:zA}{sz:Nat}(h1:lo.get d=some l)(h2:oU l off sz u=some l')(h3:bB zA.one u.cells=true) :
  Nat.beq (wB u.cells) sz=true/\l'.length=l.length/\∃c',fK C HA (ν d) off u.cells=some (setBlk HA (ν d) (.cells c' l.length none))/\∀j a,l'[j]?=some a->c'.get j=some a:=by
 obtain⟨_,hb,c,hc,hg⟩:=hl d l h1
 have hx:=(ho.ext _ _ hc).1
 unfold oU at h2;simp only[lB,yac,cE,bD,eH,jS,rO,Option.some.injEq]at h2;obtain⟨⟨g1,g2⟩,g3⟩:=h2
 subst g3;refine⟨by rw[bD];exact g1,?_,c.setMany u.cells off,?_,?_⟩
 ·simp;omega
 ·unfold fK
  have n1:(!Nat.blt (ν d) C.base)=true:=by
   cases hq:Nat.blt (ν d) C.base with
   | true=>have:=lC.1 hq;omega
   | false=>rfl
  rw[n1];unfold nD;rw[hx];simp only[lB,sA,jA.asCells,yac,cE,bD];exact⟨trivial,⟨g2,h3⟩,trivial⟩
 ·intro j a hj
  rw[Tr.get_setMany];split
  ·rename_i hh
   rw[yaq (by simp;omega)]at hj
   rw[ybp (by simp;omega)]at hj
   rw[<- hj];congr 1
   simp;omega
  ·rename_i hh
   refine hg j a ?_
   by_cases hlt:j<off
   ·rw[ybp (by simp;omega)]at hj
    rw[ycg,if_pos hlt]at hj;exact hj
   ·rw[yaq (by simp;omega),yaq (by simp;omega)]at hj
    rw[ycf]at hj;rw[<- hj];congr 1
    simp;omega
theorem zxz{y:vD}{u:zA}(h:bB zA.one (zf5 y u)=true):zf5 y u=u.cells:=by
 unfold zf5 at h ⊢
 rw[iC]at h ⊢
 split
 ·rfl
 ·rename_i e
  rw[if_neg e,oG]at h;rw[jW (by simpa using h)]
theorem zqj{op:Op}{v:zA}{kd:zA->qA->kB}{φ:Ora}(h:(iF op).f C eA HA=some v):jG φ ((bE op).f C eA HA) HA kd=kd v HA:=by rw[zye h];rfl
theorem zv4{la:List Nat}{dst:Option Nat}{d:Nat}(h:laOf la dst=some d):dst=some d:=by
 unfold laOf at h
 cases dst with
 | none=>cases h
 | some x=>simp only[iC]at h;split at h<;>cases h;rfl
theorem tH_ok(hW:xS C A W)(he:kO e eA)(ha:za9 ν ae eA)(ho:Ov C.base t X HA)(hl:zyn C.base X0 X ν lo){la:List Nat}{dst:Option Nat}{op:Op}
  (h:pA C.base W J (tH C la dst op e ae lo k kl) t Q) {kd:zA->qA->kB}
  (hK:∀v t' HA' X',Ov C.base t' X' HA'->XLe X X'->pA C.base W J (k.K v) t' Q->gC C.base X0 Q (kd v HA'))
  (hKd:∀v t' HA' X',Ov C.base t' X' HA'->XLe X X'->pA C.base W J (k.Kd v) t' Q->gC C.base X0 Q (kd v HA'))
  (hKA:∀d off,pA C.base W J (k.KA d off) t Q->gC C.base X0 Q (kd (.ptr (ν d) off) HA))
  (hnew:∀d l,laOf la dst=some d->pA C.base W J (kl.new d l) t Q->gC C.base X0 Q (kd (.ptr HA.next 0) (jF HA l none)))
  (hset:∀d l l' c',lo.get d=some l->l'.length=l.length->(∀j a,l'[j]?=some a->c'.get j=some a)->pA C.base W J (kl.set d l') t Q->gC C.base X0 Q (kd rE (setBlk HA (ν d) (.cells c' l.length none)))) :
  gC C.base X0 Q (jG (wF C A) ((bE op).f C eA HA) HA kd):=by
 have light:∀(op:Op),pA C.base W J (tL C op e ae lo k) t Q->gC C.base X0 Q (jG (wF C A) ((bE op).f C eA HA) HA kd):=by
  intro op h;obtain⟨v,h1,h2⟩:=z4q (R:=fun v=>gC C.base X0 Q (kd v HA)) he ha ho hl h (fun v h=>hK v _ _ _ ho (XLe.refl _) h) (fun v h=>hKd v _ _ _ ho (XLe.refl _) h) hKA
  rw[zqj h1];exact h2
 cases op<;>simp only[tH]at h<;>try (exact light _ h)
 case alloc ty=>
  show gC C.base X0 Q (jG _ (zds ty C eA HA) HA kd)
  split at h
  ·rename_i d hd
   rw[mE]at h;obtain⟨y,h1,h2⟩:=h
   unfold zds;rw[h1];exact hnew d _ hd h2
  ·refine pQ ho zsk h hK fun p hp=>?_
   unfold zds;unfold sM at hp;rw[hp];rfl
 case box ty x=>
  rw[mE]at h;obtain⟨v,h1,h⟩:=h
  show gC C.base X0 Q (jG _ (z06 x C eA HA) HA kd)
  unfold z06;rw[eD he h1];split at h
  ·rename_i d hd
   rw[mE]at h;obtain⟨y,_,h⟩:=h
   rw[iC]at h;split at h
   ·exact hnew d _ hd h
   ·have h:if zA.one v=true then pA C.base W J (kl.new d [v]) t Q else False:=h
    split at h
    ·rename_i h1
     have:=hnew d _ hd h
     rw[<- jW h1]at this;exact this
    ·exact h.elim
  ·refine pQ ho z4j h hK fun p hp=>?_
   cases hp;rfl
 case buildSlice ty n ps=>
  rw[mE]at h;obtain⟨vs,h1,h⟩:=h
  show gC C.base X0 Q (jG _ (eS ty n ps C eA HA) HA kd)
  refine pQ ho zeg h hK fun p hp=>?_
  refine nS (v:=p.1) (H':=p.2) ?_
  rw[zhq he h1];exact hp
 case makeMap ty r=>
  cases r with
  | some _=>simp only[]at h;exact light _ h
  | none=>
   simp only[]at h;show gC C.base X0 Q (jG _ (xX none C eA HA) HA kd)
   refine pQ ho zk1 h hK fun p hp=>?_
   cases hp;rfl
 case makeSlice ty l c=>
  simp only[mE]at h;obtain⟨a,h1,b,h2,h⟩:=h
  show gC C.base X0 Q (jG _ (za0 ty l c C eA HA) HA kd)
  refine pQ ho zge h hK fun p hp=>?_
  refine nS (v:=p.1) (H':=p.2) ?_
  rw[eD he h1,eD he h2];unfold sL at hp
  cases hx:C.tys.get ty with
  | none=>rw[hx]at hp;cases hp
  | some y=>
   rw[hx]at hp;simp only[sA]at hp ⊢
   exact hp
 case store ty a x=>
  unfold z2h at h;show gC C.base X0 Q (jG _ (zo7 ty a x C eA HA) HA kd)
  split at h
  ·rename_i p hp
   simp only[mE]at h;obtain⟨u,h1,y,h2,l,h3,l',h4,h5⟩:=h
   have h5:if bB zA.one (zf5 y u)=true then pA C.base W J (kl.set p.1 l') t Q else False:=h5
   split at h5
   ·rename_i hone
    have hcell:=zxz hone
    rw[hcell]at hone h4;have h4:oU l p.2 y.size u=some l':=h4
    obtain⟨g1,g2,c',g3,g4⟩:=zvm ho hl h3 h4 hone
    have:=hset p.1 l l' c' h3 g2 g4 h5
    have e1:jG (wF C A) (zo7 ty a x C eA HA) HA kd=kd rE (setBlk HA (ν p.1) (.cells c' l.length none)):=by
     refine nS ?_
     rw[h2,sA,zca ha hp,sA];simp only[zA.asPtr,sA];rw[eD he h1,sA,g1,g3];rfl
    rw[e1];exact this
   ·exact h5.elim
  ·simp only[mE]at h
   obtain⟨av,h1,u,h2,h⟩:=h
   refine pQ ho zsg h hKd fun p hp=>?_
   refine nS (v:=p.1) (H':=p.2) ?_
   rw[eD he h1];unfold xE at hp
   cases hx:C.tys.get ty with
   | none=>rw[hx]at hp;cases hp
   | some y=>
    rw[hx]at hp;simp only[sA]at hp ⊢
    rw[eD he h2];exact hp
 case convert s d x=>
  rw[iC]at h;split at h
  ·rename_i hd
   rw[mE]at h;obtain⟨u,h1,h⟩:=h
   show gC C.base X0 Q (jG _ (oQ s d x C eA HA) HA kd)
   have hn:oL s d x C eA HA=none:=by
    rw[zwf (eD he h1)]
    cases hq:tM C s d HA u with
    | none=>rfl
    | some q=>
     exfalso
     unfold tM at hq;simp only[lA]at hq;obtain⟨sy,g1,dy,g2,g3⟩:=hq
     have hd:=zC.1 hd
     unfold rH at hd;rw[g2]at hd;have hd:dy.desc.tag=4:=hd
     unfold iN at g3;have n1:dy.desc.asInt=none:=by cases hz:dy.desc<;>rw[hz]at hd<;>first | rfl | (cases hd;done)
     have n2:dy.desc.isString=false:=by unfold nE.isString;rw[hd];rfl
     rw[n1,n2]at g3
     cases g3
   unfold oQ;rw[hn];simp only[];refine pQ ho zk0 h hK fun p hp=>?_
   refine nS (v:=p.1) (H':=p.2) ?_
   rw[eD he h1];exact hp
  ·exact light _ (by simpa only[tL]using h)
 case insert ty m key x=>
  simp only[mE]at h;obtain⟨mv,h1,kv,h2,u,h3,h⟩:=h
  show gC C.base X0 Q (jG _ (zaz ty m key x C eA HA) HA kd)
  refine pQ ho zex h hKd fun p hp=>?_
  refine nS (v:=p.1) (H':=p.2) ?_
  rw[eD he h1,eD he h2,eD he h3];exact hp
 case mapUpdate ty m key x=>
  simp only[mE]at h;obtain⟨mv,h1,kv,h2,u,h3,h⟩:=h
  show gC C.base X0 Q (jG _ (zaz ty m key x C eA HA) HA kd)
  refine pQ ho zex h hKd fun p hp=>?_
  refine nS (v:=p.1) (H':=p.2) ?_
  rw[eD he h1,eD he h2,eD he h3];exact hp
 case call c=>
  show gC C.base X0 Q (jG _ ((za1 c c.callee).f C eA HA) HA kd)
  split at h
  ·rename_i f hc
   rw[hc];show gC C.base X0 Q (jG _ (zdr f c.args C eA HA) HA kd)
   have aC:∀ {fv:zA} {as:List zA},ev f e=some fv->evs c.args.toList e=some as->pA C.base W J (.callv fv as k.K) t Q->gC C.base X0 Q (jG (wF C A) (zdr f c.args C eA HA) HA kd):=by
    intro fv as h1 h2 h;have h:iG (wM fv as) fun p=>W p.1 p.2 t fun v t'=>pA C.base W J (k.K v) t' Q:=h
    rw[oR]at h;obtain⟨⟨g,as'⟩,h3,h4⟩:=h
    unfold wM at h3;rw[lA]at h3;obtain⟨p,h5,h6⟩:=h3
    have e1:zdr f c.args C eA HA=zd4 C HA as' g (C.prims.get g):=by
     unfold zdr bO;rw[eD he h1,sA,h5,sA,zhp he h2,sA,sA]
     cases hp:p.1 with
     | func g'=>rw[hp]at h6;cases h6;rfl
     | yld l=>rw[hp]at h6;cases h6
    rw[e1];exact z7d hW ho h4 hK
   unfold z2j at h;split at h
   ·rename_i g
    rw[mE]at h;obtain⟨as,h1,h⟩:=h
    refine aC (fv:=.func (.func g) [] []) rfl h1 ?_
    show iG (wM (.func (.func g) [] []) as) _
    have e2:wM (.func (.func g) [] []) as=some (g,as):=by
     show some (g,cF (cF [] as) [])=_
     rw[eH,eH];simp
    rw[e2];exact h
   ·simp only[mE]at h
    obtain⟨fv,h1,as,h2,h⟩:=h
    exact aC h1 h2 h
  ·rename_i b hb
   rw[hb];have lt:pA C.base W J (tW C c e k b) t Q->gC C.base X0 Q (jG (wF C A) ((za1 c (.builtin b)).f C eA HA) HA kd):=by
    intro h;have:=light (.call c) (by show pA C.base W J (match c.callee with | .builtin b=>tW C c e k b | _=>.fail) t Q;rw[hb];exact h)
    have e1:(bE (.call c)).f C eA HA=(za1 c c.callee).f C eA HA:=rfl
    rw[e1,hb]at this;exact this
   unfold zii at h;split at h
   ·simp only[mE,two']at h
    obtain⟨ty,h1,u,h2,p,h3,h⟩:=h
    show gC C.base X0 Q (jG _ (za2 c C eA HA) HA kd)
    refine pQ ho zp0 h hK fun q hq=>?_
    refine nS (v:=q.1) (H':=q.2) ?_
    rw[h1,sA];unfold eE at hq;simp only[lA,lB]at hq ⊢
    obtain⟨y,g1,z,g2,g3,g4⟩:=hq
    exact⟨y,g1,u,h2,z,g2,g3,p,zgg he h3,g4⟩
   ·exact lt h
  ·cases h
end
end Go.Am
namespace Go.Am
open Go Go.RowKit
structure xG (base:Nat) (X0:Xt) (kf:Nat) (ν:Nat->Nat) (X:Xt) (st:TSt) (tm:Tm) (HA:qA) (t:Tr jA):Prop where
 ov:Ov base t X HA
 le:XLe X0 X
 k:st.tm.k=kf
 kA:tm.k=kf
 tms:∀i v,st.tm.get i=some v->tm.get i=some v
 ads:∀i p,sI i st.ad=some p->tm.get i=some (.ptr (ν p.1) p.2)
 lo:zyn base X0 X ν st.lo
 inj:∀d d' l l',st.lo.get d=some l->st.lo.get d'=some l'->ν d=ν d'->d=d'
theorem oT{i:Nat}{a:Nat × Nat × Nat}{l:List (Nat × Nat × Nat)}:sI i (a::l)=if i=a.1 then some a.2 else sI i l:=by
 show Bool.rec (motive:=fun _=>Option (Nat × Nat)) (sI i l) (some a.2) (Nat.beq i a.1)=_
 rw[jH];simp only[zC]
theorem zyi{i:Nat}{p:Nat × Nat}:∀ {l:List (Nat × Nat × Nat)},sI i l=some p->(i,p.1,p.2)∈l:=by
 intro l;induction l with
 | nil=>intro h;cases h
 | cons a l ih=>
  intro h;rw[oT]at h;split at h
  ·rename_i e;cases h;rw[e];exact yaz
  ·exact yas _ (ih h)
theorem zuw{n:Nat}{tm:Tm}{dst:Option Nat}{v:zA}:(putA n tm dst v).k=tm.k:=by
 unfold putA putB
 cases dst with
 | none=>rfl
 | some d=>
  simp only[zz3,iC];split
  ·unfold Tm.set;rw[jH];split<;>rfl
  ·rfl
theorem Tm.set_k{tm:Tm}{i:Nat}{v:zA}:(tm.set i v).k=tm.k:=by unfold Tm.set;rw[jH];split<;>rfl
section
variable {W J:yJ}{t:Tr jA}{X X0:Xt}{HA:qA}{C:iA}{A:Tr fF}{ν:Nat->Nat}{Q:cB}{kf n:Nat}{st:TSt}{tm:Tm}
theorem xG.put(h:xG C.base X0 kf ν X st tm HA t){dst:Option Nat}{v:zA}{lt:Bool}{κ:KT}(hw:pA C.base W J (zp9 n dst v lt st κ) t Q) :
  ∃st',xG C.base X0 kf ν X st' (putA n tm dst v) HA t/\pA C.base W J (κ st') t Q:=by
 unfold zp9 at hw
 cases dst with
 | none=>exact⟨st,h,hw⟩
 | some d=>
  simp only[iC]at hw;split at hw
  ·rename_i hd
   rw[vM]at hw;obtain⟨h1,h2⟩:=hw
   refine⟨_,?_,h2⟩
   refine⟨h.ov,h.le,(by show(st.tm.set d v).k=kf;rw[Tm.set_k];exact h.k),by rw[zuw];exact h.kA,?_,?_,h.lo,h.inj⟩
   ·intro i u hi
    have hi2:(st.tm.set d v).get i=some u:=hi
    rw[Tm.get_set]at hi2;rw[vI];split at hi2
    ·rename_i e;rw[if_pos ⟨by rw[e],by rw[e];exact lC.1 hd⟩];exact hi2
    ·rename_i e
     rw[if_neg (fun hh=>e (by injection hh.1 with e1;exact e1.symm))]
     exact h.tms i u hi2
   ·intro i p hi
    rw[vI,if_neg]
    ·exact h.ads i p hi
    ·rintro⟨e,_⟩
     injection e with e
     subst e;rw[hi]at h1
     cases h1
  ·rename_i hd
   refine⟨st,?_,hw⟩
   have:putA n tm (some d) v=tm:=by
    unfold putA putB;simp only[zz3,iC];rw[if_neg hd]
   rw[this];exact h
theorem xG.putA(h:xG C.base X0 kf ν X st tm HA t){dst:Option Nat}{d off:Nat}{κ:KT}(hw:pA C.base W J (z4p n dst d off st κ) t Q) :
  ∃st',xG C.base X0 kf ν X st' (Am.putA n tm dst (.ptr (ν d) off)) HA t/\pA C.base W J (κ st') t Q:=by
 unfold z4p at hw;rw[mE]at hw;obtain⟨i,h1,hw⟩:=hw
 subst h1;simp only[vM]at hw;obtain⟨h2,h3,h4⟩:=hw
 refine⟨_,?_,h4⟩
 refine⟨h.ov,h.le,h.k,by rw[zuw];exact h.kA,?_,?_,h.lo,h.inj⟩
 ·intro j u hj
  rw[vI,if_neg]
  ·exact h.tms j u hj
  ·rintro⟨e,_⟩
   injection e with e
   subst e;have hj:st.tm.get i=some u:=hj
   rw[hj]at h3
   cases h3
 ·intro j p hj
  have hj:sI j ((i,d,off)::st.ad)=some p:=hj
  rw[oT]at hj;rw[vI];split at hj
  ·rename_i e;cases hj;rw[if_pos ⟨by rw[e],by rw[e];exact lC.1 h2⟩]
  ·rename_i e
   rw[if_neg (fun hh=>e (by injection hh.1 with e1;exact e1.symm))]
   exact h.ads j p hj
theorem xG.new(h:xG C.base X0 kf ν X st tm HA t){d:Nat}{l:List zA}{κ:KT}(hw:pA C.base W J (tNew n d l st κ) t Q) :
  ∃st' ν' X',xG C.base X0 kf ν' X' st' (Am.putA n tm (some d) (.ptr HA.next 0)) (jF HA l none) t/\pA C.base W J (κ st') t Q:=by
 unfold tNew at hw;simp only[vM]at hw;obtain⟨h1,h2,h3,h4⟩:=hw
 have hx:=h.ov.nextX
 refine⟨_,fun c=>if c=d then HA.next else ν c,fun c=>if c=HA.next then some (.cells (Tr.ofList l) (wB l) none)else X c,?_,h4⟩
 refine⟨h.ov.newX _,?_,h.k,by rw[zuw];exact h.kA,?_,?_,?_,?_⟩
 ·intro b y hb
  have:X b=some y:=h.le b y hb
  show(if b=HA.next then _ else X b)=some y
  rw[if_neg,this];intro e;rw[e,hx]at this;cases this
 ·intro j u hj
  rw[vI,if_neg]
  ·exact h.tms j u hj
  ·rintro⟨e,_⟩
   injection e with e
   subst e;have hj:st.tm.get d=some u:=hj
   rw[hj]at h2
   cases h2
 ·intro j p hj
  have hj:sI j ((d,d,0)::st.ad)=some p:=hj
  rw[oT]at hj;rw[vI];split at hj
  ·rename_i e
   cases hj;rw[if_pos ⟨by rw[e],by rw[e];exact lC.1 h1⟩]
   show some (zA.ptr HA.next 0)=some (zA.ptr (if d=d then HA.next else ν d) 0)
   rw[if_pos rfl]
  ·rename_i e
   rw[if_neg (fun hh=>e (by injection hh.1 with e1;exact e1.symm))]
   have hm:=zyi hj
   unfold z24 at h3;rw[oG,ybc]at h3;have:=h3 _ hm
   simp only[iC]at this;have hne:p.1≠d:=by
    intro e2;rw[if_pos (zC.2 e2)]at this
    exact e (zC.1 this)
   show Tm.get tm j=some (zA.ptr (if p.1=d then HA.next else ν p.1) p.2)
   rw[if_neg hne];exact h.ads j p hj
 ·intro c m hc
  have hc:(st.lo.set d l).get c=some m:=hc
  rw[Tr.get_set]at hc;show X0 (if c=d then HA.next else ν c)=none/\C.base<=(if c=d then HA.next else ν c)/\∃c',(if (if c=d then HA.next else ν c)=HA.next then some (jA.cells (Tr.ofList l) (wB l) none)else X (if c=d then HA.next else ν c))=some (.cells c' m.length none)/\∀j a,m[j]?=some a->c'.get j=some a
  split at hc
  ·rename_i e
   cases hc;simp only[e,if_true];refine⟨?_,h.ov.base,Tr.ofList l,by rw[bD],fun j a hj=>by rw[Tr.get_ofList];exact hj⟩
   cases hq:X0 HA.next with
   | none=>rfl
   | some z=>have:=h.le _ _ hq;rw[hx]at this;cases this
  ·rename_i e
   simp only[if_neg e];obtain⟨g1,g2,c',g3,g4⟩:=h.lo c m hc
   refine⟨g1,g2,c',?_,g4⟩
   rw[if_neg,g3];intro e2;rw[e2,hx]at g3;cases g3
 ·intro c c' m m' hc hc' he
  have hc:(st.lo.set d l).get c=some m:=hc
  have hc':(st.lo.set d l).get c'=some m':=hc'
  have he:(if c=d then HA.next else ν c)=(if c'=d then HA.next else ν c'):=he
  rw[Tr.get_set]at hc hc'
  split at hc<;>split at hc'
  ·rename_i e1 e2;rw[e1,e2]
  ·rename_i e1 e2
   rw[if_pos e1,if_neg e2]at he;obtain⟨_,_,_,g3,_⟩:=h.lo c' m' hc'
   rw[<- he,hx]at g3;cases g3
  ·rename_i e1 e2
   rw[if_neg e1,if_pos e2]at he;obtain⟨_,_,_,g3,_⟩:=h.lo c m hc
   rw[he,hx]at g3;cases g3
  ·rename_i e1 e2
   rw[if_neg e1,if_neg e2]at he;exact h.inj c c' m m' hc hc' he
theorem xG.setLo(h:xG C.base X0 kf ν X st tm HA t){d:Nat}{l l':List zA}{c':Tr zA}(h1:st.lo.get d=some l)(h2:l'.length=l.length)(h3:∀j a,l'[j]?=some a->c'.get j=some a) :
  ∃X',xG C.base X0 kf ν X' ⟨st.tm,st.ad,st.lo.set d l',st.lit⟩ tm (setBlk HA (ν d) (.cells c' l.length none)) t:=by
 obtain⟨g1,g2,c,g3,g4⟩:=h.lo d l h1
 refine⟨_,h.ov.setX g3 _,?_,h.k,h.kA,h.tms,h.ads,?_,?_⟩
 ·intro b y hb
  show(if b=ν d then _ else X b)=some y
  rw[if_neg]
  ·exact h.le b y hb
  ·intro e;rw[e,g1]at hb;cases hb
 ·intro e m he
  have he:(st.lo.set d l').get e=some m:=he
  rw[Tr.get_set]at he;split at he
  ·rename_i e1
   cases he;subst e1;exact⟨g1,g2,c',by show(if ν e=ν e then _ else _)=_;rw[if_pos rfl,h2],h3⟩
  ·rename_i e1
   obtain⟨k1,k2,k3,k4,k5⟩:=h.lo e m he
   refine⟨k1,k2,k3,?_,k5⟩
   show(if ν e=ν d then _ else X (ν e))=_
   rw[if_neg,k4];intro e2;exact e1 (h.inj e d m l he h1 e2)
 ·intro e e' m m' he he' hv
  have he:(st.lo.set d l').get e=some m:=he
  have he':(st.lo.set d l').get e'=some m':=he'
  rw[Tr.get_set]at he he'
  have x1:∃q,st.lo.get e=some q:=by
   split at he
   ·rename_i e1;rw[e1];exact⟨l,h1⟩
   ·exact⟨m,he⟩
  have x2:∃q,st.lo.get e'=some q:=by
   split at he'
   ·rename_i e1;rw[e1];exact⟨l,h1⟩
   ·exact⟨m',he'⟩
  exact h.inj e e' _ _ x1.choose_spec x2.choose_spec hv
theorem xG.later(h:xG C.base X0 kf ν X st tm HA t){X':Xt}{HA':qA}{t':Tr jA}(ho:Ov C.base t' X' HA')(hx:XLe X X'):xG C.base X0 kf ν X' st tm HA' t':=
 ⟨ho,h.le.trans hx,h.k,h.kA,h.tms,h.ads,fun d l hd=>by
  obtain⟨g1,g2,c,g3,g4⟩:=h.lo d l hd
  exact⟨g1,g2,c,hx _ _ g3,g4⟩,h.inj⟩
theorem zb2{ty:Nat}{v:zA}(h:fitB C ty v=true):z1b C ty v:=by
 unfold fitB at h;unfold z1b
 cases hy:C.tys.get ty with
 | none=>trivial
 | some y=>
  rw[hy]at h;simp only at h ⊢
  unfold fitD
  cases hd:y.desc<;>rw[hd]at h<;>simp only at h ⊢
  case bool=>
   have:=zC.1 h
   cases v<;>simp only[zA.tag]at this<;>first
    | exact⟨_,rfl⟩
    | (cases this;done)
  case int k=>
   cases v<;>simp only[zA.asIntK]at h<;>first
    | exact⟨_,by rw[iJ.1 h]⟩
    | (cases h;done)
  case string=>
   have:=zC.1 h
   cases v<;>simp only[zA.tag]at this<;>first
    | exact⟨_,rfl⟩
    | (cases this;done)
theorem zhj{ty:Nat}{v:zA}(h:(!Nat.ble (rH C ty) 2)=true):z1b C ty v:=by
 unfold z1b;unfold rH at h
 cases hy:C.tys.get ty with
 | none=>trivial
 | some y=>
  rw[hy]at h;simp only at h ⊢
  unfold fitD
  cases hd:y.desc<;>rw[hd]at h<;>first
   | trivial
   | (simp only[nE.tag]at h;exact absurd h (by decide))
theorem zmf:∀(zs l:List zA) (pre:List zA),jM zs l=true->lV zs (cellsOf (pre++l)) pre.length=l:=by
 intro zs;induction zs with
 | nil=>intro l pre h;cases l with
  | nil=>rfl
  | cons a l=>cases h
 | cons z zs ih=>
  intro l pre h
  cases l with
  | nil=>cases h
  | cons a l=>
   unfold jM at h;rw[yac]at h;show zvh z (cellsOf (pre++a::l)) pre.length::lV zs (cellsOf (pre++a::l)) (pre.length+1)=a::l
   have e2:=ih l (pre++[a]) h.2
   rw[yba]at e2;simp only[List.cons_append,List.nil_append,yah,yao,yay]at e2;rw[e2];congr 1
   have hg:(pre++a::l)[pre.length]?=some a:=by simp
   have h1:=h.1
   cases z<;>simp only[gG]at h1<;>simp only[zvh,cellsOf,lF,yG,dG,sF,hg]<;>try (cases h1;done)
   case bool=>
    have:=zC.1 h1
    cases a<;>simp only[zA.tag]at this<;>first
     | rfl
     | (cases this;done)
   case int k _=>
    cases a<;>simp only[zA.asIntK]at h1<;>first
     | (rw[iJ.1 h1];done)
     | (cases h1;done)
   case str=>
    have:=zC.1 h1
    cases a<;>simp only[zA.tag]at this<;>first
     | rfl
     | (cases this;done)
theorem znn{ty:Nat}{v:zA}{K:zA->T}(h:pA C.base W J (zs3 C ty v K) t Q):z1b C ty v/\pA C.base W J (K v) t Q:=by
 unfold zs3 at h;unfold z1b;have agg:∀zs,pA C.base W J (bif Nat.ble (wB zs) 40 then .asG zs v fun X=>K (.agg (lV zs X 0))else K v) t Q->pA C.base W J (K v) t Q:=by
  intro zs h;rw[iC]at h;split at h
  ·have h:iG (qG zs v) fun X=>pA C.base W J (K (.agg (lV zs X 0))) t Q:=h
   rw[oR]at h;obtain⟨X,h1,h2⟩:=h
   unfold qG at h1;simp only[lA,lB]at h1;obtain⟨l,h3,h4,h5⟩:=h1
   cases h5;have:=zmf zs l [] h4
   simp only[List.nil_append,yay]at this;rw[this]at h2;rw[lX.1 h3];exact h2
  ·exact h
 cases hy:C.tys.get ty with
 | none=>rw[hy]at h;exact⟨trivial,h⟩
 | some y=>
  rw[hy]at h;simp only at h ⊢
  unfold fitD
  cases hd:y.desc<;>rw[hd]at h<;>simp only at h ⊢
  case bool=>
   have h:iG v.asBool fun n=>pA C.base W J (K (.bool n)) t Q:=h
   rw[oR]at h;obtain⟨b,h1,h2⟩:=h
   rw[xT.1 h1];exact⟨⟨b,rfl⟩,h2⟩
  case int k=>
   have h:iG (zyu k v) fun n=>pA C.base W J (K (.int k n)) t Q:=h
   rw[oR]at h;obtain⟨b,h1,h2⟩:=h
   unfold zyu at h1;simp only[lA,lB]at h1;obtain⟨p,h3,h4,h5⟩:=h1
   cases h5;rw[cM.1 h3,iJ.1 h4];exact⟨⟨_,rfl⟩,h2⟩
  case string=>
   have h:iG v.asStr fun n=>pA C.base W J (K (.str n)) t Q:=h
   rw[oR]at h;obtain⟨b,h1,h2⟩:=h
   rw[cN.1 h1];exact⟨⟨b,rfl⟩,h2⟩
  all_goals first
   | exact⟨trivial,agg _ h⟩
   | exact⟨trivial,h⟩
theorem dX{g lt:Bool}{v:zA}{K:zA->Bool->T}(h:pA C.base W J (ze1 g lt v K) t Q):∃lt',pA C.base W J (K v lt') t Q:=by
 unfold ze1 at h
 cases g with
 | false=>exact⟨lt,h⟩
 | true=>
  cases lt with
  | true=>exact⟨true,h⟩
  | false=>
   simp only[cond_true,cond_false]at h;rw[mE]at h;obtain⟨b,h1,h2⟩:=h
   rw[xT.1 h1];have h2:if b=true then pA C.base W J (K (.bool true) true) t Q else pA C.base W J (K (.bool false) true) t Q:=h2
   cases b with
   | true=>exact⟨true,h2⟩
   | false=>exact⟨true,h2⟩
theorem zgb(h:xG C.base X0 kf ν X st tm HA t){g:Option (Nat × Bool)}{all:Array Oper}{w:Bool}(hw:kF g all st.tm=some w):kF g all tm=some w:=by
 unfold kF zsa at hw ⊢
 cases g with
 | none=>exact hw
 | some jw=>
  simp only[zh3]at hw ⊢
  rw[lA]at hw ⊢
  obtain⟨d,h1,hw⟩:=hw
  refine⟨d,h1,?_⟩
  rw[lA]at hw ⊢
  obtain⟨v,h2,hw⟩:=hw
  exact⟨v,h.tms _ _ h2,hw⟩
def SK (C:iA)(W J:yJ)(X0:Xt)(kf:Nat)(Q:cB)(κ:KT)(m:Tm->qA->kB):Prop:=∀st tm HA t X ν,xG C.base X0 kf ν X st tm HA t->pA C.base W J (κ st) t Q->gC C.base X0 Q (m tm HA)
theorem gC.norm{ty:Nat}{v:zA}{K:zA->kB}(hf:z1b C ty v)(h:gC C.base X0 Q (K v)):gC C.base X0 Q (pJ C ty v K):=by
 obtain⟨u,t',HA',X',h1,h2⟩:=h
 exact⟨u,t',HA',X',yM.2 ⟨hf,h1⟩,h2⟩
theorem gC.ob{α:Type}{x:Option α}{a:α}{K:α->kB}(hx:x=some a)(h:gC C.base X0 Q (K a)):gC C.base X0 Q (Am.ob x K):=by subst hx;exact h
theorem zt2(hW:xS C A W){e eA:wD}{ae:zkt}(he:kO e eA)(ha:za9 ν ae eA)(hst:xG C.base X0 kf ν X st tm HA t){la:List Nat}{all:Array Oper}{o:Oper}{κ:KT}{m:Tm->qA->kB}
  (hκ:∀st' tm' HA' t' X' ν',(la=[]->ν'=ν)->xG C.base X0 kf ν' X' st' tm' HA' t'->(∃v,tm'=putA n tm o.dst v)->pA C.base W J (κ st') t' Q->gC C.base X0 Q (m tm' HA'))
  (h:pA C.base W J (tH C la o.dst o.op e ae st.lo (kop C all n o e st κ) (klo C n o st κ)) t Q) :
  gC C.base X0 Q (jG (wF C A) ((bE o.op).f C eA HA) HA fun v H'=>pJ C o.type v fun v=>m (putA n tm o.dst v) H'):=by
 refine tH_ok hW he ha hst.ov hst.lo h ?_ ?_ ?_ ?_ ?_
 ·intro v t' HA' X' ho hx hk
  have hk:pA C.base W J (zs3 C o.type v fun v=>ze1 (zg8 all.toList o.dst all.toList) (z0n o.op e st.lit) v fun v lt=>zp9 n o.dst v lt st κ) t' Q:=hk
  obtain⟨h1,h2⟩:=znn hk
  obtain⟨lt',h3⟩:=dX h2
  obtain⟨st',h4,h5⟩:=(hst.later ho hx).put h3
  exact gC.norm h1 (hκ _ _ _ _ _ _ (fun _=>rfl) h4 ⟨v,rfl⟩ h5)
 ·intro v t' HA' X' ho hx hk
  obtain⟨h1,h2⟩:=vM.1 hk
  obtain⟨lt',h3⟩:=dX h2
  obtain⟨st',h4,h5⟩:=(hst.later ho hx).put h3
  exact gC.norm (zb2 h1) (hκ _ _ _ _ _ _ (fun _=>rfl) h4 ⟨v,rfl⟩ h5)
 ·intro d off hk
  obtain⟨h1,h2⟩:=vM.1 hk
  obtain⟨st',h4,h5⟩:=hst.putA h2
  exact gC.norm (zhj h1) (hκ _ _ _ _ _ _ (fun _=>rfl) h4 ⟨_,rfl⟩ h5)
 ·intro d l hd hk
  obtain⟨h1,h2⟩:=vM.1 hk
  obtain⟨st',ν',X',h4,h5⟩:=hst.new h2
  have e:=zv4 hd
  rw[e];refine gC.norm (zhj h1) (hκ _ _ _ _ _ _ (fun hl=>?_) h4 ⟨_,by rw[e]⟩ h5)
  rw[hl,e]at hd
  cases hd
 ·intro d l l' c' h1 h2 h3 hk
  obtain⟨h4,h5⟩:=vM.1 hk
  obtain⟨X',h6⟩:=hst.setLo h1 h2 h3
  obtain⟨st',h7,h8⟩:=h6.put h5
  exact gC.norm (zb2 h4) (hκ _ _ _ _ _ _ (fun _=>rfl) h7 ⟨_,rfl⟩ h8)
theorem zlx(h:xG C.base X0 kf ν X st tm HA t):kO (.now st.tm) (.now tm)/\za9 ν (.now st.ad) (.now tm):=⟨h.tms,h.ads⟩
theorem z4o(hW:xS C A W){la:List Nat}{all:Array Oper}{κ:KT}{m:Tm->qA->kB}(hκ:SK C W J X0 kf Q κ m):∀(l:List Oper),SK C W J X0 kf Q (tops C la all n κ l) (zks C (wF C A) all n m l):=by
 intro l;induction l with
 | nil=>exact hκ
 | cons o l ih=>
  intro st tm HA t X ν hst h;have h:pA C.base W J (wC (kF o.guard all st.tm) fun w=>Bool.rec (motive:=fun _=>T) (zp9 n o.dst rE false st (tops C la all n κ l))
   (tH C la o.dst o.op (.now st.tm) (.now st.ad) st.lo (kop C all n o (.now st.tm) st (tops C la all n κ l)) (klo C n o st (tops C la all n κ l))) w) t Q:=h
  rw[mE]at h;obtain⟨w,h1,h2⟩:=h
  rw[mV];refine gC.ob (zgb hst h1) ?_
  cases w with
  | false=>
   rw[if_neg (by simp)]
   obtain⟨st',h3,h4⟩:=hst.put h2
   exact ih _ _ _ _ _ _ h3 h4
  | true=>
   rw[if_pos rfl];exact zt2 hW (zlx hst).1 (zlx hst).2 hst (fun st' tm' HA' t' X' ν' _ hs _ hw=>ih _ _ _ _ _ _ hs hw) h2
end
end Go.Am
namespace Go.Am
open Go Go.RowKit
structure zkq (ν:Nat->Nat) (old:TSt) (oldA:Tm):Prop where
 tms:∀i v,old.tm.get i=some v->oldA.get i=some v
 ads:∀i p,sI i old.ad=some p->oldA.get i=some (.ptr (ν p.1) p.2)
theorem xG.old{base:Nat}{X0 X:Xt}{kf:Nat}{ν:Nat->Nat}{st:TSt}{tm:Tm}{HA:qA}{t:Tr jA}(h:xG base X0 kf ν X st tm HA t):zkq ν st tm:=⟨h.tms,h.ads⟩
theorem Tm.get_cut{tm:Tm}{i:Nat}:tm.cut.get i=if i<tm.k then tm.get i else none:=by
 unfold Tm.cut Tm.get;simp only[jH];by_cases h:Nat.blt i tm.k=true
 ·rw[if_pos h,if_pos h,if_pos (lC.1 h)]
 ·rw[if_neg h,if_neg (fun e=>h (lC.2 e))];rfl
theorem zyj{k i:Nat}:∀ {l:List (Nat × Nat × Nat)},sI i (wD.adCut k l)=if i<k then sI i l else none:=by
 intro l;induction l with
 | nil=>show none=_;split<;>rfl
 | cons a l ih=>
  unfold wD.adCut at ih ⊢
  rw[List.filter_cons];split
  ·rename_i ha
   have ha:=lC.1 ha
   rw[oT,ih,oT];split
   ·rename_i e;rw[if_pos (by omega)]
   ·rfl
  ·rename_i ha
   rw[ih,oT];split
   ·rename_i hi
    rw[if_neg];intro e;exact ha (lC.2 (by omega))
   ·rfl
section
variable {W J:yJ}{t:Tr jA}{X X0:Xt}{HA:qA}{C:iA}{A:Tr fF}{ν:Nat->Nat}{Q:cB}{kf n:Nat}{st old:TSt}{tm oldA:Tm}{all:Array Oper}{olds:List (Nat × List Nat)}
theorem xG.cut(h:xG C.base X0 kf ν X st tm HA t):xG C.base X0 kf ν X st.cut tm.cut HA t:=by
 refine⟨h.ov,h.le,h.k,h.kA,?_,?_,h.lo,h.inj⟩
 ·intro i v hi
  have hi:st.tm.cut.get i=some v:=hi
  rw[Tm.get_cut]at hi ⊢
  split at hi
  ·rename_i e;rw[if_pos (by rw[h.kA,<- h.k];exact e)];exact h.tms i v hi
  ·cases hi
 ·intro i p hi
  have hi:sI i (wD.adCut st.tm.k st.ad)=some p:=hi
  rw[zyj]at hi;rw[Tm.get_cut];split at hi
  ·rename_i e;rw[if_pos (by rw[h.kA,<- h.k];exact e)];exact h.ads i p hi
  ·cases hi
theorem kV(h:xG C.base X0 kf ν X st tm HA t)(ho:zkq ν old oldA){os:List Nat}{op:Op}:kO (zry st old os op) (.mixed tm oldA os (aG op))/\za9 ν (z5u st old os op) (.mixed tm oldA os (aG op)):=by
 constructor
 ·intro i v hi
  have hi:(bif pH i (aG op)then Tm.get (bif pH i os then old.tm else st.tm) i else none)=some v:=hi
  show(bif pH i (aG op)then Tm.get (bif pH i os then oldA else tm) i else none)=some v
  cases hm:pH i (aG op)with
  | false=>rw[hm]at hi;cases hi
  | true=>
   rw[hm]at hi;simp only[cond_true]at hi ⊢
   cases hq:pH i os with
   | true=>rw[hq]at hi;exact ho.tms i v hi
   | false=>rw[hq]at hi;exact h.tms i v hi
 ·intro i p hi
  have hi:(bif pH i (aG op)then sI i (bif pH i os then old.ad else st.ad)else none)=some p:=hi
  show(bif pH i (aG op)then Tm.get (bif pH i os then oldA else tm) i else none)=_
  cases hm:pH i (aG op)with
  | false=>rw[hm]at hi;cases hi
  | true=>
   rw[hm]at hi;simp only[cond_true]at hi ⊢
   cases hq:pH i os with
   | true=>rw[hq]at hi;exact ho.ads i p hi
   | false=>rw[hq]at hi;exact h.ads i p hi
theorem zez(ho:zkq ν old oldA){κ:KT}{kd:Tm->kB}(hκ:∀st' tm',xG C.base X0 kf ν X st' tm' HA t->pA C.base W J (κ st') t Q->gC C.base X0 Q (kd tm')) :
  ∀(l:List Nat) (st:TSt) (tm:Tm),xG C.base X0 kf ν X st tm HA t->pA C.base W J (wR C all n old olds κ l st) t Q->gC C.base X0 Q (fH C HA all n oldA olds kd l tm):=by
 intro l;induction l with
 | nil=>exact hκ
 | cons i l ih=>
  intro st tm hst h;have h:pA C.base W J (wC (oD all.toList i) fun o=>wC (kF o.guard all st.tm) fun w=>Bool.rec (motive:=fun _=>T) (zp9 n o.dst rE false st (wR C all n old olds κ l))
   (tL C o.op (zry st old (iE i olds) o.op) (z5u st old (iE i olds) o.op) st.lo (kop C all n o (zry st old (iE i olds) o.op) st (wR C all n old olds κ l))) w) t Q:=h
  rw[mE]at h;obtain⟨o,h0,h⟩:=h
  rw[mE]at h;obtain⟨w,h1,h2⟩:=h
  rw[nY];refine gC.ob h0 (gC.ob (zgb hst h1) ?_)
  cases w with
  | false=>
   rw[if_neg (by simp)]
   obtain⟨st',h3,h4⟩:=hst.put h2
   exact ih _ _ h3 h4
  | true=>
   rw[if_pos rfl];refine Exists.elim (z4q (R:=fun v=>gC C.base X0 Q (pJ C o.type v fun v=>fH C HA all n oldA olds kd l (putA n tm o.dst v))) (kV hst ho).1 (kV hst ho).2 hst.ov hst.lo h2 ?_ ?_ ?_) (fun v h=>gC.ob h.1 h.2)
   ·intro v hk
    have hk:pA C.base W J (zs3 C o.type v fun v=>ze1 (zg8 all.toList o.dst all.toList) (z0n o.op (zry st old (iE i olds) o.op) st.lit) v fun v lt=>zp9 n o.dst v lt st (wR C all n old olds κ l)) t Q:=hk
    obtain⟨g1,g2⟩:=znn hk
    obtain⟨lt',g3⟩:=dX g2
    obtain⟨st',g4,g5⟩:=hst.put g3
    exact gC.norm g1 (ih _ _ g4 g5)
   ·intro v hk
    obtain⟨g1,g2⟩:=vM.1 hk
    obtain⟨lt',g3⟩:=dX g2
    obtain⟨st',g4,g5⟩:=hst.put g3
    exact gC.norm (zb2 g1) (ih _ _ g4 g5)
   ·intro d off hk
    obtain⟨g1,g2⟩:=vM.1 hk
    obtain⟨st',g4,g5⟩:=hst.putA g2
    exact gC.norm (zhj g1) (ih _ _ g4 g5)
theorem zs2(ho:zkq ν old oldA)(hst:xG C.base X0 kf ν X st tm HA t){k:T}{kd:kB}(hk:pA C.base W J k t Q->gC C.base X0 Q kd) :
  ∀(l:List Nat),pA C.base W J (uR C all old olds st k l) t Q->gC C.base X0 Q (eJ C HA all oldA olds tm kd l):=by
 intro l;induction l with
 | nil=>exact hk
 | cons i l ih=>
  intro h;have h:pA C.base W J (wC (oD all.toList i) fun o=>wC o.dst fun d=>wC (kF o.guard all st.tm) fun w=>Bool.rec (motive:=fun _=>T) (uR C all old olds st k l)
   (wC (st.tm.get d) fun u=>gdT (fitB C o.type u) (tL C o.op (zry st old (iE i olds) o.op) (z5u st old (iE i olds) o.op) st.lo ⟨fun v=>.ite (same 10 v u) (uR C all old olds st k l) .fail,fun v=>.ite (same 10 v u) (uR C all old olds st k l) .fail,fun _ _=>.fail⟩)) w) t Q:=h
  rw[mE]at h;obtain⟨o,h0,h⟩:=h
  rw[mE]at h;obtain⟨d,h1,h⟩:=h
  rw[mE]at h;obtain⟨w,h2,h⟩:=h
  rw[jZ];refine gC.ob h0 (gC.ob h1 (gC.ob (zgb hst h2) ?_))
  cases w with
  | false=>rw[if_neg (by simp)];exact ih h
  | true=>
   rw[if_pos rfl];simp only[mE,vM]at h;obtain⟨u,h3,h4,h5⟩:=h
   have aC:∀v,pA C.base W J (.ite (same 10 v u) (uR C all old olds st k l) .fail) t Q->gC C.base X0 Q (pJ C o.type v fun v=>ob (tm.get d) fun u=>sB (same 10 v u) (eJ C HA all oldA olds tm kd l)):=by
    intro v hv;have hv:if same 10 v u=true then pA C.base W J (uR C all old olds st k l) t Q else False:=hv
    split at hv
    ·rename_i hs
     refine gC.norm ?_ (gC.ob (hst.tms _ _ h3) ?_)
     ·rw[zlm _ _ _ hs];exact zb2 h4
     ·rw[hs];exact ih hv
    ·exact hv.elim
   obtain⟨v,h6,h7⟩:=z4q (R:=fun v=>gC C.base X0 Q (pJ C o.type v fun v=>ob (tm.get d) fun u=>sB (same 10 v u) (eJ C HA all oldA olds tm kd l))) (kV hst ho).1 (kV hst ho).2 hst.ov hst.lo h5 aC aC (fun _ _ h=>h.elim)
   exact gC.ob h6 h7
theorem zy0(hst:xG C.base X0 kf ν X st tm HA t){h:Nat}{o:Oper}{w:Bool}(hw:fP all h o st.tm=some w):fP all h o tm=some w:=by
 unfold fP at hw ⊢
 rw[lA]at hw ⊢
 obtain⟨u,h1,h2⟩:=hw
 exact⟨u,zgb hst h1,h2⟩
theorem zp4(hW:xS C A W)(ho:zkq ν old oldA){κ:KT}{m:Tm->qA->kB}(hκ:SK C W J X0 kf Q κ m) :
  ∀(l:List lG) (st:TSt) (tm:Tm) (HA:qA) (t:Tr jA) (X:Xt),xG C.base X0 kf ν X st tm HA t->pA C.base W J (zch C all n old olds κ l st) t Q->gC C.base X0 Q (wI C (wF C A) all n oldA olds m l tm HA):=by
 intro l;induction l with
 | nil=>intro st tm HA t X hst h;exact hκ _ _ _ _ _ _ hst h
 | cons s l ih=>
  intro st tm HA t X hst h;have h:pA C.base W J (wC (oD all.toList (hvI all s.heavy)) fun o=>wC (fP all s.heavy o st.tm) fun w=>
   (fun cont:KT=>Bool.rec (motive:=fun _=>T) (zp9 n o.dst rE false st cont)
    (tH C [] o.dst o.op (zry st old (iE (hvI all s.heavy) olds) o.op) (z5u st old (iE (hvI all s.heavy) olds) o.op) st.lo (kop C all n o (zry st old (iE (hvI all s.heavy) olds) o.op) st cont) (klo C n o st cont)) w)
   (fun st'=>uR C all old olds st' (wR C all n old olds (zch C all n old olds κ l) s.lights st') s.again)) t Q:=h
  rw[mE]at h;obtain⟨o,h0,h⟩:=h
  rw[mE]at h;obtain⟨w,h1,h2⟩:=h
  rw[wV];refine gC.ob h0 (gC.ob (zy0 hst h1) ?_)
  have aC:∀st' tm' HA' t' X' ν',ν'=ν->xG C.base X0 kf ν' X' st' tm' HA' t'->pA C.base W J (uR C all old olds st' (wR C all n old olds (zch C all n old olds κ l) s.lights st') s.again) t' Q →
    gC C.base X0 Q (eJ C HA' all oldA olds tm' (fH C HA' all n oldA olds (fun tm=>wI C (wF C A) all n oldA olds m l tm HA') s.lights tm') s.again):=by
   intro st' tm' HA' t' X' ν' e hs hw;subst e;exact zs2 ho hs (fun hl=>zez ho (fun st2 tm2 hs2 hw2=>ih _ _ _ _ _ hs2 hw2) _ _ _ hs hl) _ hw
  cases w with
  | false=>
   simp only[yar,if_false];obtain⟨st',h3,h4⟩:=hst.put h2
   exact aC _ _ _ _ _ _ rfl h3 h4
  | true=>
   simp only[if_true];exact zt2 (m:=fun tm' HA'=>eJ C HA' all oldA olds tm' (fH C HA' all n oldA olds (fun tm=>wI C (wF C A) all n oldA olds m l tm HA') s.lights tm') s.again)
    hW (kV hst ho).1 (kV hst ho).2 hst (fun st' tm' HA' t' X' ν' hn hs _ hw=>aC _ _ _ _ _ _ (hn rfl) hs hw) h2
theorem zp6(hW:xS C A W){la:List Nat}{fn id:Nat}{d:Bool}{κ:KT}{m:Tm->qA->kB}(hκ:SK C W J X0 kf Q κ m):SK C W J X0 kf Q (zsu C la fn n κ id all d) (pV C (wF C A) fn n m id all d):=by
 intro st tm HA t X ν hst h
 cases d with
 | false=>exact z4o hW hκ _ _ _ _ _ _ _ hst.cut h
 | true=>
  have h:pA C.base W J (wC (ob (C.plans.get fn) fun t=>t.get id) fun p=>gdT (uO all p) (wR C all n st.cut p.olds (zch C all n st.cut p.olds κ p.stages) p.first st.cut)) t Q:=h
  simp only[mE,vM]at h;obtain⟨p,h1,h2,h3⟩:=h
  show gC C.base X0 Q (ob (ob (C.plans.get fn) fun t=>t.get id) fun p=>sB (uO all p) (fH C HA all n tm.cut p.olds (fun tm'=>wI C (wF C A) all n tm.cut p.olds m p.stages tm' HA) p.first tm.cut))
  refine gC.ob h1 ?_
  rw[h2];exact zez hst.cut.old (fun st' tm' hs hw=>zp4 hW hst.cut.old hκ _ _ _ _ _ _ hs hw) _ _ _ hst.cut h3
end
structure PtD where
 p:PI
 m:Tm->qA->kB
def qL(C:iA)(φ:Ora)(fn n:Nat):fF->Kt->List PtD
 | .skip,_=>[]
 | .region _ _ _,_=>[]
 | .seq a b,κ=>qL C φ fn n a ⟨gD C φ fn n b κ,κ.exit,κ.ret⟩++qL C φ fn n b κ
 | .cond _ x y,κ=>qL C φ fn n x κ++qL C φ fn n y κ
 | .block id c,κ=>qL C φ fn n c ⟨κ.norm,fun i tm H=>Bool.rec (motive:=fun _=>kB) (κ.exit i tm H) (κ.norm tm H) (Nat.beq id i),κ.ret⟩
 | .loop p c,κ=>⟨p,gD C φ fn n (.loop p c) κ⟩::qL C φ fn n c ⟨gD C φ fn n (.loop p c) κ,κ.exit,κ.ret⟩
 | .exit _,_=>[]
 | .ret,_=>[]
 | .cut p c,κ=>⟨p,gD C φ fn n (.cut p c) κ⟩::qL C φ fn n c κ
def z7p(base kf:Nat)(d:PtD)(vals:List zA)(t:Tr jA)(Q:cB):Prop:=∀X0 X HA tm ν,xG base X0 kf ν X (stAt kf d.p vals) tm HA t->gC base X0 Q (d.m tm HA)
def JOk (base kf:Nat)(J:yJ)(l:List PtD):Prop:=∀d∈l,∀vals t Q,J d.p.id vals t Q->z7p base kf d vals t Q
structure SKt (C:iA) (W J:yJ) (X0:Xt) (kf:Nat) (Q:cB) (κ:KtT) (m:Kt):Prop where
 norm:SK C W J X0 kf Q κ.norm m.norm
 exit:∀i,SK C W J X0 kf Q (κ.exit i) (m.exit i)
 ret:SK C W J X0 kf Q κ.ret m.ret
theorem zgq{d:Nat}{l:List zA}{st:TSt}:∀ {ll:List (Nat × Nat)} {b rest:List zA},zev st ll=some b->(zys ll (b++rest)).get d=some l->st.lo.get d=some l:=by
 intro ll;induction ll with
 | nil=>intro b rest _ h;rw[show zys [] (b++rest)=.leaf from rfl,Tr.get_leaf]at h;cases h
 | cons p ll ih=>
  intro b rest hb h;have hb:(ob (sI p.1 st.ad) fun a=>sB (Nat.beq a.1 p.1&&Nat.beq a.2 0) (ob (st.lo.get p.1) fun l=>sB (Nat.beq (wB l) p.2) (ob (zev st ll) fun r=>some (cF l r))))=some b:=hb
  simp only[lA,lB]at hb;obtain⟨a,_,_,l0,h2,h3,r,h4,h5⟩:=hb
  cases h5;have h:((zys ll (lK (cF l0 r++rest) p.2)).set p.1 (xP (cF l0 r++rest) p.2)).get d=some l:=h
  rw[zC,bD]at h3;rw[eH,rO,jS,<- h3,yba,List.drop_left,List.take_left,Tr.get_set]at h;split at h
  ·rename_i e;cases h;rw[e];exact h2
  ·exact ih h4 h
theorem zzm{i:Nat}{q:Nat × Nat}{st:TSt}:∀ {ll:List (Nat × Nat)} {b:List zA},zev st ll=some b->sI i (stAd ll)=some q->sI i st.ad=some q:=by
 intro ll;induction ll with
 | nil=>intro b _ h;cases h
 | cons p ll ih=>
  intro b hb h;have hb:(ob (sI p.1 st.ad) fun a=>sB (Nat.beq a.1 p.1&&Nat.beq a.2 0) (ob (st.lo.get p.1) fun l=>sB (Nat.beq (wB l) p.2) (ob (zev st ll) fun r=>some (cF l r))))=some b:=hb
  simp only[lA,lB,yac,zC]at hb;obtain⟨a,h1,⟨h2,h3⟩,l0,_,_,r,h4,_⟩:=hb
  have h:sI i ((p.1,p.1,0)::stAd ll)=some q:=h
  rw[oT]at h;split at h
  ·rename_i e;cases h;rw[e];show sI p.1 st.ad=some (p.1,0);rw[h1,<- h2,<- h3]
  ·exact ih h4 h
theorem zzk{i:Nat}{v:zA}{st:TSt}:∀ {pl:List Nat} {a rest:List zA},oI (fun i=>st.tm.get i) pl=some a->(z2p pl (a++rest)).get i=some v->st.tm.get i=some v:=by
 intro pl;induction pl with
 | nil=>intro a rest _ h;rw[show z2p [] (a++rest)=.leaf from rfl,Tr.get_leaf]at h;cases h
 | cons j pl ih=>
  intro a rest ha h;rw[wP,lA]at ha;obtain⟨u,h1,ha⟩:=ha
  rw[lA]at ha;obtain⟨r,h2,ha⟩:=ha
  cases ha;have h:((z2p pl (r++rest)).set j u).get i=some v:=h
  rw[Tr.get_set]at h;split at h
  ·rename_i e;cases h;rw[e];exact h1
  ·exact ih h2 h
theorem Tm.get_kv{k i:Nat}{v:Tr zA}{u:zA}(h:Tm.get ⟨k,v,[]⟩ i=some u):i<k/\v.get i=some u:=by
 unfold Tm.get at h;rw[jH]at h;split at h
 ·rename_i e;exact⟨lC.1 e,h⟩
 ·cases h
theorem zpx{p:PI}{st:TSt}{vals:List zA}(h:zeu p st=some vals):∃a b,vals=a++b/\oI (fun i=>st.tm.get i) p.pl=some a/\zev st p.ll=some b/\a.length=p.pl.length:=by
 unfold zeu at h;simp only[lA]at h;obtain⟨a,h1,b,h2,h3⟩:=h
 cases h3;refine⟨a,b,eH _ _,h1,h2,?_⟩
 have:∀(l:List Nat) (r:List zA),oI (fun i=>st.tm.get i) l=some r->r.length=l.length:=by
  intro l;induction l with
  | nil=>intro r h;cases h;rfl
  | cons x l ih=>
   intro r h;rw[wP,lA]at h;obtain⟨u,_,h⟩:=h
   rw[lA]at h;obtain⟨s,h5,h⟩:=h
   cases h;simp[ih _ h5]
 exact this _ _ h1
section
variable {W J:yJ}{t:Tr jA}{X X0:Xt}{HA:qA}{C:iA}{A:Tr fF}{ν:Nat->Nat}{Q:cB}{kf n:Nat}{st:TSt}{tm:Tm}
theorem xG.at(h:xG C.base X0 kf ν X st tm HA t){p:PI}{vals:List zA}(hv:zeu p st=some vals):xG C.base X0 kf ν X (stAt kf p vals) tm HA t:=by
 obtain⟨a,b,rfl,h1,h2,h3⟩:=zpx hv
 have hd:lK (a++b) (wB p.pl)=b:=by rw[rO,bD,<- h3,List.drop_left]
 refine⟨h.ov,h.le,rfl,h.kA,?_,?_,?_,?_⟩
 ·intro i v hi
  exact h.tms i v (zzk h1 (Tm.get_kv hi).2)
 ·intro i q hi
  exact h.ads i q (zzm h2 hi)
 ·intro d l hl
  have hl:(zys p.ll (lK (a++b) (wB p.pl))).get d=some l:=hl
  rw[hd]at hl;have hb:(zys p.ll (b++[])).get d=some l:=by rw[ybe];exact hl
  exact h.lo d l (zgq h2 hb)
 ·intro d d' l l' hl hl' he
  have hl:(zys p.ll (lK (a++b) (wB p.pl))).get d=some l:=hl
  have hl':(zys p.ll (lK (a++b) (wB p.pl))).get d'=some l':=hl'
  rw[hd]at hl hl'
  have hb:(zys p.ll (b++[])).get d=some l:=by rw[ybe];exact hl
  have hb':(zys p.ll (b++[])).get d'=some l':=by rw[ybe];exact hl'
  exact h.inj d d' l l' (zgq h2 hb) (zgq h2 hb') he
theorem zwk{tm:Tm}{i:Nat}{v:zA}(hv:tm.get i=some v):∀ {live:List Nat},i∈live->(zju tm live).get i=some v:=by
 intro live;induction live with
 | nil=>intro h;cases h
 | cons j live ih=>
  intro h;show(match tm.get j with | some v=>(zju tm live).set j v | none=>zju tm live:Tr zA).get i=some v
  by_cases e:i=j
  ·subst e;rw[hv];simp only[];rw[Tr.get_set,if_pos rfl]
  ·have:=ih ((yat.1 h).resolve_left e)
   cases tm.get j with
   | none=>exact this
   | some u=>simp only[];rw[Tr.get_set,if_neg e];exact this
theorem zzj{i:Nat}{v:zA}:∀ {pl:List Nat} {vals:List zA},(z2p pl vals).get i=some v->i∈pl:=by
 intro pl;induction pl with
 | nil=>intro vals h;rw[show z2p [] vals=.leaf from rfl,Tr.get_leaf]at h;cases h
 | cons j pl ih=>
  intro vals h
  cases vals with
  | nil=>rw[show z2p (j::pl) []=.leaf from rfl,Tr.get_leaf]at h;cases h
  | cons u vals=>
   have h:((z2p pl vals).set j u).get i=some v:=h
   rw[Tr.get_set]at h;split at h
   ·rename_i e;rw[e];exact yaz
   ·exact yas _ (ih h)
theorem zzl{i:Nat}{q:Nat × Nat}:∀ {ll:List (Nat × Nat)},sI i (stAd ll)=some q->i∈(List.rec (motive:=fun _=>List Nat) [] (fun a _ r=>a.1::r) ll:List Nat):=by
 intro ll;induction ll with
 | nil=>intro h;cases h
 | cons p ll ih=>
  intro h;have h:sI i ((p.1,p.1,0)::stAd ll)=some q:=h
  rw[oT]at h;split at h
  ·rename_i e;rw[e];exact yaz
  ·exact yas _ (ih h)
theorem xG.keep{p:PI}{vals:List zA}(hb:∀i,i∈p.kept->i<kf)(h:xG C.base X0 kf ν X (stAt kf p vals) tm HA t):xG C.base X0 kf ν X (stAt kf p vals) (Am.keep p.kept tm) HA t:=by
 have key:∀i v,i∈p.kept->tm.get i=some v->(Am.keep p.kept tm).get i=some v:=by
  intro i v hi hv;unfold Am.keep Tm.get;rw[jH,if_pos (lC.2 (by rw[h.kA];exact hb i hi))]
  exact zwk hv hi
 refine⟨h.ov,h.le,rfl,h.kA,?_,?_,h.lo,h.inj⟩
 ·intro i v hi
  refine key i v ?_ (h.tms i v hi)
  unfold PI.kept;rw[eH];exact ycd _ (zzj (Tm.get_kv hi).2)
 ·intro i q hi
  refine key i _ ?_ (h.ads i q hi)
  unfold PI.kept;rw[eH];exact ybg _ (zzl hi)
theorem zax{l:List PtD}(hJ:JOk C.base kf J l){p:PI}{m:Tm->qA->kB}(hm:(⟨p,m⟩:PtD)∈l):SK C W J X0 kf Q (zq0 p) m:=by
 intro st tm HA t X ν hst h;unfold zq0 at h;rw[mE]at h;obtain⟨vals,h1,h2⟩:=h
 exact hJ _ hm vals t Q h2 _ _ _ _ _ (hst.at h1)
theorem zgk(hW:xS C A W){la:List Nat}{f:Nat}:∀(c:fF) (κ:KtT) (m:Kt),SKt C W J X0 kf Q κ m->JOk C.base kf J (qL C (wF C A) f n c m)->SK C W J X0 kf Q (znk C la f n c κ) (gD C (wF C A) f n c m):=by
 intro c;induction c with
 | skip=>intro κ m hκ _;exact hκ.norm
 | region id ops d=>intro κ m hκ _;exact zp6 hW hκ.norm
 | seq a b iha ihb=>
  intro κ m hκ hJ;exact iha ⟨znk C la f n b κ,κ.exit,κ.ret⟩ ⟨gD C (wF C A) f n b m,m.exit,m.ret⟩ ⟨ihb κ m hκ fun d hd=>hJ d (ybg _ hd),hκ.exit,hκ.ret⟩ fun d hd=>hJ d (ycd _ hd)
 | cond x a b iha ihb=>
  intro κ m hκ hJ st tm HA t X ν hst h;have ha:=iha κ m hκ fun d hd=>hJ d (ycd _ hd)
  have hb:=ihb κ m hκ fun d hd=>hJ d (ybg _ hd)
  have h:pA C.base W J (wC (ob (ev x (.now st.tm)) zA.asBool) fun b'=>bif z26 x st.lit then Bool.rec (motive:=fun _=>T) (znk C la f n b κ st) (znk C la f n a κ st) b' else .ite b' (znk C la f n a κ st) (znk C la f n b κ st)) t Q:=h
  rw[mE]at h;obtain⟨w,h1,h2⟩:=h
  rw[lA]at h1;obtain⟨v,h3,h4⟩:=h1
  show gC C.base X0 Q (ob (ob (ev x (.now tm)) zA.asBool) fun t=>Bool.rec (motive:=fun _=>kB) (gD C (wF C A) f n b m tm HA) (gD C (wF C A) f n a m tm HA) t)
  refine gC.ob (a:=w) (by rw[eD (zlx hst).1 h3];exact h4) ?_
  have h2:if w=true then pA C.base W J (znk C la f n a κ st) t Q else pA C.base W J (znk C la f n b κ st) t Q:=by
   rw[iC]at h2;split at h2
   ·cases w<;>exact h2
   ·exact h2
  cases w with
  | true=>exact ha _ _ _ _ _ _ hst h2
  | false=>exact hb _ _ _ _ _ _ hst h2
 | block id c ih=>
  intro κ m hκ hJ;refine ih ⟨κ.norm,fun i st=>Bool.rec (motive:=fun _=>T) (κ.exit i st) (κ.norm st) (Nat.beq id i),κ.ret⟩ ⟨m.norm,fun i tm H=>Bool.rec (motive:=fun _=>kB) (m.exit i tm H) (m.norm tm H) (Nat.beq id i),m.ret⟩ ⟨hκ.norm,fun i=>?_,hκ.ret⟩ hJ
  intro st tm HA t X ν hst h;have h:pA C.base W J (Bool.rec (motive:=fun _=>T) (κ.exit i st) (κ.norm st) (Nat.beq id i)) t Q:=h
  show gC C.base X0 Q (Bool.rec (motive:=fun _=>kB) (m.exit i tm HA) (m.norm tm HA) (Nat.beq id i))
  cases hb:Nat.beq id i with
  | true=>rw[hb]at h;exact hκ.norm _ _ _ _ _ _ hst h
  | false=>rw[hb]at h;exact hκ.exit i _ _ _ _ _ _ hst h
 | loop p c ih=>intro κ m hκ hJ;exact zax hJ yaz
 | exit id=>intro κ m hκ _;exact hκ.exit id
 | ret=>intro κ m hκ _;exact hκ.ret
 | cut p c ih=>intro κ m hκ hJ;exact zax hJ yaz
def PtOk (C:iA)(W J:yJ)(kf:Nat)(l:List PtT)(d:PtD):Prop:=∃q∈l,q.p=d.p/\∀vals t Q,pA C.base W J (q.tree vals) t Q->z7p C.base kf d vals t Q
def lM(kf:Nat):fF->Bool
 | .seq a b=>lM kf a&&lM kf b
 | .cond _ a b=>lM kf a&&lM kf b
 | .block _ c=>lM kf c
 | .loop p c=>p.kept.all (fun i=>Nat.blt i kf)&&lM kf c
 | .cut p c=>p.kept.all (fun i=>Nat.blt i kf)&&lM kf c
 | _=>true
theorem zu1(hW:xS C A W){la:List Nat}{f:Nat}:∀(c:fF) (κ:KtT) (m:Kt),lM kf c=true->(∀X0 Q,SKt C W J X0 kf Q κ m)->JOk C.base kf J (qL C (wF C A) f n c m)->∀d∈qL C (wF C A) f n c m,PtOk C W J kf (mS C la f n kf c κ) d:=by
 have up:∀ {l l':List PtT} {d:PtD},PtOk C W J kf l d->(∀q∈l,q∈l')->PtOk C W J kf l' d:=fun⟨q,h1,h2⟩ hl=>⟨q,hl q h1,h2⟩
 intro c;induction c with
 | skip=>intro κ m _ _ _ d hd;cases hd
 | region id ops dr=>intro κ m _ _ _ d hd;cases hd
 | seq a b iha ihb=>
  intro κ m hk hκ hJ d hd;unfold lM at hk;rw[yac]at hk;have e:mS C la f n kf (.seq a b) κ=mS C la f n kf a ⟨znk C la f n b κ,κ.exit,κ.ret⟩++mS C la f n kf b κ:=eH _ _
  rw[e];have hJa:JOk C.base kf J (qL C (wF C A) f n a ⟨gD C (wF C A) f n b m,m.exit,m.ret⟩):=fun d hd=>hJ d (ycd _ hd)
  have hJb:JOk C.base kf J (qL C (wF C A) f n b m):=fun d hd=>hJ d (ybg _ hd)
  rcases List.mem_append.1 hd with hd | hd
  ·exact up (iha ⟨znk C la f n b κ,κ.exit,κ.ret⟩ ⟨gD C (wF C A) f n b m,m.exit,m.ret⟩ hk.1 (fun X0 Q=>⟨zgk hW b κ m (hκ X0 Q) hJb,(hκ X0 Q).exit,(hκ X0 Q).ret⟩) hJa d hd) fun q hq=>ycd _ hq
  ·exact up (ihb _ _ hk.2 hκ hJb d hd) fun q hq=>ybg _ hq
 | cond x a b iha ihb=>
  intro κ m hk hκ hJ d hd;unfold lM at hk;rw[yac]at hk;have e:mS C la f n kf (.cond x a b) κ=mS C la f n kf a κ++mS C la f n kf b κ:=eH _ _
  rw[e];rcases List.mem_append.1 hd with hd | hd
  ·exact up (iha _ _ hk.1 hκ (fun d hd=>hJ d (ycd _ hd)) d hd) fun q hq=>ycd _ hq
  ·exact up (ihb _ _ hk.2 hκ (fun d hd=>hJ d (ybg _ hd)) d hd) fun q hq=>ybg _ hq
 | block id c ih=>
  intro κ m hk hκ hJ d hd;refine ih ⟨κ.norm,fun i st=>Bool.rec (motive:=fun _=>T) (κ.exit i st) (κ.norm st) (Nat.beq id i),κ.ret⟩ ⟨m.norm,fun i tm H=>Bool.rec (motive:=fun _=>kB) (m.exit i tm H) (m.norm tm H) (Nat.beq id i),m.ret⟩ hk (fun X0 Q=>⟨(hκ X0 Q).norm,fun i=>?_,(hκ X0 Q).ret⟩) hJ d hd
  intro st tm HA t X ν hst h;have h:pA C.base W J (Bool.rec (motive:=fun _=>T) (κ.exit i st) (κ.norm st) (Nat.beq id i)) t Q:=h
  show gC C.base X0 Q (Bool.rec (motive:=fun _=>kB) (m.exit i tm HA) (m.norm tm HA) (Nat.beq id i))
  cases hb:Nat.beq id i with
  | true=>rw[hb]at h;exact(hκ X0 Q).norm _ _ _ _ _ _ hst h
  | false=>rw[hb]at h;exact(hκ X0 Q).exit i _ _ _ _ _ _ hst h
 | loop p c ih=>
  intro κ m hk hκ hJ d hd;unfold lM at hk;rw[yac,ybc]at hk;have hJc:JOk C.base kf J (qL C (wF C A) f n c ⟨gD C (wF C A) f n (.loop p c) m,m.exit,m.ret⟩):=fun d hd=>hJ d (yas _ hd)
  have hκ':∀X0 Q,SKt C W J X0 kf Q ⟨zq0 p,κ.exit,κ.ret⟩ ⟨gD C (wF C A) f n (.loop p c) m,m.exit,m.ret⟩:=fun X0 Q=>⟨zax hJ yaz,(hκ X0 Q).exit,(hκ X0 Q).ret⟩
  rcases yat.1 hd with rfl | hd
  ·refine⟨_,yaz,rfl,fun vals t Q hw X0 X HA tm ν hst=>?_⟩
   show gC C.base X0 Q (gD C (wF C A) f n (.loop p c) m tm HA)
   rw[z1m];exact zgk hW c _ _ (hκ' X0 Q) hJc _ _ _ _ _ _ (hst.keep fun i hi=>lC.1 (hk.1 i hi)) hw
  ·exact up (ih ⟨zq0 p,κ.exit,κ.ret⟩ ⟨gD C (wF C A) f n (.loop p c) m,m.exit,m.ret⟩ hk.2 hκ' hJc d hd) fun q hq=>yas _ hq
 | exit id=>intro κ m _ _ _ d hd;cases hd
 | ret=>intro κ m _ _ _ d hd;cases hd
 | cut p c ih=>
  intro κ m hk hκ hJ d hd;unfold lM at hk;rw[yac,ybc]at hk;have hJc:JOk C.base kf J (qL C (wF C A) f n c m):=fun d hd=>hJ d (yas _ hd)
  rcases yat.1 hd with rfl | hd
  ·refine⟨_,yaz,rfl,fun vals t Q hw X0 X HA tm ν hst=>?_⟩
   exact zgk hW c _ _ (hκ X0 Q) hJc _ _ _ _ _ _ (hst.keep fun i hi=>lC.1 (hk.1 i hi)) hw
  ·exact up (ih _ _ hk.2 hκ hJc d hd) fun q hq=>yas _ hq
end
end Go.Am
namespace Go.Am
open Go Go.RowKit
def Tr.mapT{α β:Type}(f:α->β)(t:Tr α):Tr β:=Tr.rec (motive:=fun _=>Tr β) .leaf (fun _ v _ l r=>.node l (match v with | some a=>some (f a) | none=>none) r) t
theorem Tr.get_mapT{α β:Type}(f:α->β):∀(t:Tr α) (n:Nat),(t.mapT f).get n=(t.get n).map f:=by
 intro t;induction t with
 | leaf=>intro n;rfl
 | node l v r ihl ihr=>
  intro n;show(Tr.node (l.mapT f) (match v with | some a=>some (f a) | none=>none) (r.mapT f)).get n=_
  rw[Tr.get_node,Tr.get_node];split
  ·cases v<;>rfl
  ·split
   ·exact ihl _
   ·exact ihr _
def mP(F:Tr jB):Tr fF:=F.mapT jB.code
structure yC (C:iA) (F:Tr jB) (f:Nat) (fn:Func) (kf:Nat) (A:jB):Prop where
 isF:F.get f=some A
 isFn:C.fns.get f=some fn
 isK:C.ks.get f=some kf
 prim:yL (C.prims.get f)=true
 kept:lM kf A.code=true
 body:yL fn.body=false
def Wc (C:iA)(F:Tr jB):yJ:=fun f args t Q=>∀X HA,Ov C.base t X HA->gC C.base X Q (zmx C (mP F) f args HA)
theorem Tr.bound{α:Type}(t:Tr α):∃n,∀b y,t.get b=some y->b<n:=by
 induction t with
 | leaf=>exact⟨0,fun b y h=>by rw[Tr.get_leaf]at h;cases h⟩
 | node l v r ihl ihr=>
  obtain⟨n,hn⟩:=ihl
  obtain⟨m,hm⟩:=ihr
  refine⟨2*n+2*m+3,fun b y h=>?_⟩
  rw[Tr.get_node]at h;split at h
  ·omega
  ·split at h
   ·have:=hn _ _ h;omega
   ·have:=hm _ _ h;omega
def PV (C:iA)(F:Tr jB)(f:Nat)(args:List zA)(t:Tr jA)(v:zA):Prop:=Wc C F f args t fun v' t'=>v'=v/\t'=t
theorem PV.unique{C:iA}{F:Tr jB}{f:Nat}{args:List zA}{t:Tr jA}{v v':zA}(h:PV C F f args t v)(h':PV C F f args t v'):v=v':=by
 obtain⟨n,hn⟩:=Tr.bound t
 have ho:Ov C.base t (fun _=>none) ⟨C.base+n,t⟩:=⟨Nat.le_add_right _ _,fun _ _=>rfl,fun _ _ h=>(by cases h),fun b y hb=>Nat.lt_of_lt_of_le (hn b y hb) (Nat.le_add_left _ _)⟩
 obtain⟨u,t',HA',X',h1,_,_,h2,_⟩:=h _ _ ho
 obtain⟨u',t'',HA'',X'',h3,_,_,h4,_⟩:=h' _ _ ho
 rw[h1]at h3
 cases h3;rw[<- h2,<- h4]
def rD (C:iA)(F:Tr jB)(f:Nat)(args:List zA)(t:Tr jA):Option zA:=@dite _ (∃v,PV C F f args t v) (Classical.propDecidable _) (fun h=>some h.choose) (fun _=>none)
theorem mF{C:iA}{F:Tr jB}{f:Nat}{args:List zA}{t:Tr jA}{v:zA}:rD C F f args t=some v ↔ PV C F f args t v:=by
 unfold rD;constructor
 ·intro h
  by_cases hx:∃v,PV C F f args t v
  ·rw[dif_pos hx]at h;cases h;exact hx.choose_spec
  ·rw[dif_neg hx]at h;cases h
 ·intro h
  have hx:∃v,PV C F f args t v:=⟨v,h⟩
  rw[dif_pos hx,PV.unique hx.choose_spec h]
def Wq (C:iA)(F:Tr jB)(pure:Nat->Bool):yJ:=fun f args t R=>if pure f=true then iG (rD C F f args t) fun v=>R v t else Wc C F f args t R
theorem Wq_ok{C:iA}{F:Tr jB}{pure:Nat->Bool}:xS C (mP F) (Wq C F pure):=by
 intro f args t R h X HA ho;unfold Wq at h;split at h
 ·rw[oR]at h
  obtain⟨v,h1,h2⟩:=h
  exact((mF.1 h1) X HA ho).mono fun v' t' hh=>by rw[hh.1,hh.2];exact h2
 ·exact h X HA ho
def Jq (C:iA)(F:Tr jB)(f:Nat):yJ:=fun i vals t Q=>∀fn kf A,yC C F f fn kf A->∀d∈qL C (wF C (mP F)) f fn.ntmps A.code (zy7 C fn),d.p.id=i->z7p C.base kf d vals t Q
theorem Jq_ok{C:iA}{F:Tr jB}{f:Nat}{fn:Func}{kf:Nat}{A:jB}(h:yC C F f fn kf A):JOk C.base kf (Jq C F f) (qL C (wF C (mP F)) f fn.ntmps A.code (zy7 C fn)):=
 fun d hd _ _ _ hJ=>hJ fn kf A h d hd rfl
section
variable {W J:yJ}{t:Tr jA}{X X0:Xt}{HA:qA}{C:iA}{A:Tr fF}{ν:Nat->Nat}{Q:cB}{kf n:Nat}{st:TSt}{tm:Tm}
theorem z5a(hst:xG C.base X0 kf ν X st tm HA t):∀(l:List ResultVar) (K:List zA->T),pA C.base W J (resT C st l K) t Q->∃vs,xU C HA tm l=some vs/\pA C.base W J (K vs) t Q:=by
 intro l;induction l with
 | nil=>intro K h;exact⟨[],rfl,h⟩
 | cons r l ih=>
  intro K h
  cases r with
  | tmp i=>
   have h:pA C.base W J (wC (st.tm.get i) fun v=>resT C st l fun l=>K (v::l)) t Q:=h
   rw[mE]at h;obtain⟨v,h1,h2⟩:=h
   obtain⟨vs,h3,h4⟩:=ih _ h2
   refine⟨v::vs,?_,h4⟩
   show oI (pS C HA tm) _=_
   rw[wP];show ob (tm.get i) _=_
   rw[hst.tms _ _ h1,sA];have h3:oI (pS C HA tm) l=some vs:=h3
   rw[h3];rfl
  | cell a ty=>
   have h:pA C.base W J (match sI a st.ad with
    | some p=>wC (st.lo.get p.1) fun m=>wC (C.tys.get ty) fun y=>gdT (Nat.ble (p.2+y.size) (wB m)) (wC (vO C ty m p.2) fun v=>resT C st l fun l=>K (v::l))
    | none=>wC (st.tm.get a) fun a=>.light (fun m=>mA C ty ⟨0,m⟩ a) fun v=>resT C st l fun l=>K (v::l)) t Q:=h
   have aC:∀ {u v:zA},tm.get a=some u->mA C ty HA u=some v->pA C.base W J (resT C st l fun l=>K (v::l)) t Q->∃vs,xU C HA tm (.cell a ty::l)=some vs/\pA C.base W J (K vs) t Q:=by
    intro u v h1 h2 h3;obtain⟨vs,h4,h5⟩:=ih _ h3
    refine⟨v::vs,?_,h5⟩
    show oI (pS C HA tm) _=_
    rw[wP];have e:pS C HA tm (.cell a ty)=some v:=by
     show(ob (ob (tm.get a) zA.asPtr) fun p=>ob (C.tys.get ty) fun ty=>ob (nD HA p.1) fun c=>oN ty c.1 p.2)=some v
     unfold mA at h2;rw[h1,sA];exact h2
    have h4:oI (pS C HA tm) l=some vs:=h4
    rw[e,sA,h4];rfl
   split at h
   ·rename_i p hp
    simp only[mE,vM]at h;obtain⟨m,h1,y,h2,h3,v,h4,h5⟩:=h
    exact aC (hst.ads _ _ hp) (zos hst.ov hst.lo h1 h2 h3 h4) h5
   ·simp only[mE,cU]at h
    obtain⟨u,h1,v,h2,h3⟩:=h
    exact aC (hst.tms _ _ h1) (wN hst.ov.le h2) h3
theorem zxj{fn:Func}:SK C W J X0 kf Q (endT C fn) (endK C fn):=by
 intro st tm HA t X ν hst h;obtain⟨vs,h1,h2⟩:=z5a hst _ _ h
 unfold endK;exact gC.ob h1 ⟨_,t,HA,X,rfl,hst.ov,hst.le,h2⟩
theorem zsz{fn:Func}:SKt C W J X0 kf Q (topT C fn) (zy7 C fn):=⟨zxj,fun _ _ _ _ _ _ _ _ h=>h.elim,zxj⟩
end
section
variable {C:iA}{F:Tr jB}{f:Nat}{fn:Func}{kf:Nat}{A:jB}{pure:Nat->Bool}{t:Tr jA}{Q:cB}
theorem z7n(h:yC C F f fn kf A){args:List zA}(hl:(Nat.ble (wB args) kf&&Nat.ble (wB args) fn.ntmps)=true)(hw:pA C.base (Wq C F pure) (Jq C F f) (entT C fn kf f A args) t Q):Wc C F f args t Q:=by
 intro X HA ho;have hA:(mP F).get f=some A.code:=by unfold mP;rw[Tr.get_mapT,h.isF];rfl
 obtain⟨body,hb⟩:∃b,fn.body=some b:=by
  cases hx:fn.body with
  | none=>have:=h.body;rw[hx]at this;cases this
  | some b=>exact⟨b,rfl⟩
 have he:vJ C f args false=some ⟨[.code body],⟨kf,Tr.ofList args,[]⟩,⟨f,fn.ntmps,[],.run,false,none⟩⟩:=by
  unfold vJ;rw[h.isFn,sA,hb,sA,h.isK,sA,hl];rfl
 have hp:C.prims.get f=none:=by
  cases hx:C.prims.get f with
  | none=>rfl
  | some g=>have:=h.prim;rw[hx]at this;cases this
 unfold zmx;rw[hp];show gC C.base X Q (wF C (mP F) f args HA)
 rw[fnV_eq];unfold uN;refine gC.ob hA (gC.ob h.isFn (gC.ob he ?_))
 have hst:xG C.base X kf (fun i=>i) X ⟨⟨kf,Tr.ofList args,[]⟩,[],.leaf,[]⟩ ⟨kf,Tr.ofList args,[]⟩ HA t:=
  ⟨ho,XLe.refl _,rfl,rfl,fun _ _ h=>h,fun _ _ h=>(by cases h),fun d l h=>(by rw[Tr.get_leaf]at h;cases h),fun d _ l _ h=>(by rw[Tr.get_leaf]at h;cases h)⟩
 exact zgk Wq_ok A.code (topT C fn) (zy7 C fn) zsz (Jq_ok h) _ _ _ _ _ _ hst hw
theorem Jq_of(h:yC C F f fn kf A){i:Nat}{vals:List zA}{l:List T}(hp:zqn (ptsT C fn kf f A) i vals=l)(hw:∀T∈l,pA C.base (Wq C F pure) (Jq C F f) T t Q):Jq C F f i vals t Q:=by
 intro fn' kf' A' h' d hd hi;have e1:=h.isFn;rw[h'.isFn]at e1;cases e1
 have e2:=h.isK;rw[h'.isK]at e2;cases e2
 have e3:=h.isF;rw[h'.isF]at e3;cases e3
 obtain⟨q,h1,h2,h3⟩:=zu1 (W:=Wq C F pure) Wq_ok A.code (topT C fn) (zy7 C fn) h.kept (fun _ _=>zsz) (Jq_ok h) d hd
 refine h3 vals t Q (hw _ ?_)
 subst hp;have key:∀(l:List PtT),q∈l->q.tree vals∈zqn l i vals:=by
  intro l;induction l with
  | nil=>intro h;cases h
  | cons p l ih=>
   intro hm;show q.tree vals∈(bif Nat.beq p.p.id i then p.tree vals::zqn l i vals else zqn l i vals)
   rw[iC];rcases yat.1 hm with e | hm
   ·subst e
    rw[if_pos (by rw[h2];exact zC.2 hi)]
    exact yaz
   ·split
    ·exact yas _ (ih hm)
    ·exact ih hm
 exact key _ h1
theorem Jq_of1(h:yC C F f fn kf A){i:Nat}{vals:List zA}{T:T}(hp:zqn (ptsT C fn kf f A) i vals=[T])(hw:pA C.base (Wq C F pure) (Jq C F f) T t Q):Jq C F f i vals t Q:=
 Jq_of h hp fun T' hT=>by rw[yce.1 hT];exact hw
theorem Jq.mono{i:Nat}{vals:List zA}{Q':cB}(h:Jq C F f i vals t Q)(k:∀v t',Q v t'->Q' v t'):Jq C F f i vals t Q':=
 fun fn kf A hf d hd hi X0 X HA tm ν hst=>(h fn kf A hf d hd hi X0 X HA tm ν hst).mono k
theorem zgw{g:List zA->qA->Option zA}(hg:C.prims.get f=some g){args:List zA}{v:zA}(h:∀H,g args H=some v):rD C F f args t=some v:=by
 refine mF.2 fun X HA ho=>?_
 unfold zmx;rw[hg];exact⟨v,t,HA,X,by simp only[h HA,sA],ho,XLe.refl _,rfl,rfl⟩
theorem zi3{args:List zA}{v:zA}(h:Wc C F f args t fun v' t'=>v'=v/\∀b y,t.get b=some y->t'.get b=some y):rD C F f args t=some v:=by
 refine mF.2 fun X HA ho=>?_
 obtain⟨u,t',HA',X',h1,h2,h3,h4,h5⟩:=h X HA ho
 refine⟨u,t,HA',fun b=>match t.get b with | some _=>none | none=>HA'.t.get b,h1,⟨h2.base,?_,?_,?_⟩,?_,h4,rfl⟩
 ·intro b hb
  cases hg:t.get b with
  | some y=>rw[h2.up (h5 b y hg)]
  | none=>simp only[hg]at hb;exact hb
 ·intro b y hb
  cases hg:t.get b with
  | some y=>simp only[hg]at hb;cases hb
  | none=>
   simp only[hg]at hb;refine⟨hb,rfl,?_⟩
   cases hx:X' b with
   | some z=>exact(h2.ext b z hx).2.2
   | none=>rw[h2.same b hx]at hb;exact h2.lt b y hb
 ·intro b y hb;exact h2.lt b y (h5 b y hb)
 ·intro b y hb
  have hn:=(ho.ext b y hb).2.1
  simp only[hn];exact(h2.ext b y (h3 b y hb)).1
end
theorem zmw{P:Program}{C:iA}{F:Tr jB}{B N:Nat}{I:World->Prop}{μ:Mu}{w:World}(hS:Sim P C B N I)(hI:I w)(hA:eU C (mP F)){f:Nat}(hp:C.prims.get f=none){args:List zA}{args':Array Value}{H:qA}{Q:cB}(hbase:C.base<=H.next)(hlt:∀b y,H.t.get b=some y->b<H.next)(hH:oB B N μ H w)(hl:qB μ args args'.toList)
  (h:Wc C F f args H.t Q):Calls P f args' w fun e w'=>∃v v' t' μ',e=.returned v'/\μ.lw μ'/\rA μ' v v'/\Q v t'/\Below N w w':=by
 obtain⟨v,t',HA',X',h1,h2,h3,h4⟩:=h (fun _=>none) H ⟨hbase,fun _ _=>rfl,fun _ _ h=>(by cases h),hlt⟩
 unfold zmx at h1;rw[hp]at h1;intro base;obtain⟨e,w',b,⟨v',μ',g1,g2,g3,g4,g5⟩,g6⟩:=zka hS hI hA hH hl h1 base
 exact⟨e,w',b,⟨v,v',t',μ',g1,g2,g3,h4,g5⟩,g6⟩
end Go.Am
namespace Go.Am
open Go Go.RowKit
def piOf (i:Nat)(l:List (Nat × PI)):Option PI:=List.rec (motive:=fun _=>Option PI) none (fun a _ g=>bif Nat.beq i a.1 then some a.2 else g) l
def cutP (p:Option PI)(c:fF):fF:=
 match p with
 | some p=>.cut p c
 | none=>c
def z5z(p:Option PI)(c:fF):fF:=
 match p with
 | some p=>.loop p c
 | none=>.loop ⟨0,[],[]⟩ c
def vT(rt lt:List (Nat × PI))(c:Code):Nat->fF:=
 Code.rec (motive:=fun _=>Nat->fF)
  (fun _=>.skip)
  (fun id ops d _=>cutP (piOf id rt) (.region id ops d))
  (fun _ _ ga gb k=>.seq (ga k) (gb k))
  (fun c _ _ gx gy k=>.cond c (gx k) (gy k))
  (fun id _ g _=>.block id (g id))
  (fun _ g k=>z5z (piOf k lt) (g k))
  (fun _ _ _ _ _ _ _=>.skip)
  (fun id _=>.exit id)
  (fun _ _ _=>.skip)
  (fun _ _=>.skip)
  (fun _ _=>.skip)
  (fun _=>.ret)
  (fun _ _=>.skip) c
def uC(rt lt:List (Nat × PI))(k:Nat)(c:Code):fF:=vT rt lt c k
def qN(c:Code):Bool:=
 Code.rec (motive:=fun _=>Bool) true (fun _ _ _=>true) (fun _ _ a b=>bif a then b else false) (fun _ _ _ a b=>bif a then b else false) (fun _ _ a=>a) (fun _ a=>a)
  (fun _ _ _ _ _ _=>false) (fun _=>true) (fun _ _=>false) (fun _=>false) (fun _=>false) true (fun _=>false) c
theorem zrd(p:Option PI)(c:fF):kH (cutP p c)=kH c:=by cases p<;>rfl
theorem zmj(p:Option PI)(c:fF):kH (z5z p c)=.loop (kH c):=by cases p<;>rfl
theorem zmk{rt lt:List (Nat × PI)}:∀(c:Code) (k:Nat),qN c=true->kH (vT rt lt c k)=c:=by
 intro c;induction c with
 | skip=>intro k _;rfl
 | region id ops d=>intro k _;show kH (cutP _ _)=_;rw[zrd];rfl
 | seq a b iha ihb=>
  intro k h;have h:(bif qN a then qN b else false)=true:=h
  have ha:qN a=true:=by cases hx:qN a with | true=>rfl | false=>rw[hx]at h;cases h
  have hb:qN b=true:=by rw[ha]at h;exact h
  show Code.seq (kH (vT rt lt a k)) (kH (vT rt lt b k))=_
  rw[iha k ha,ihb k hb]
 | cond c x y ihx ihy=>
  intro k h;have h:(bif qN x then qN y else false)=true:=h
  have ha:qN x=true:=by cases hx:qN x with | true=>rfl | false=>rw[hx]at h;cases h
  have hb:qN y=true:=by rw[ha]at h;exact h
  show Code.cond c (kH (vT rt lt x k)) (kH (vT rt lt y k))=_
  rw[ihx k ha,ihy k hb]
 | block id c ih=>intro k h;show Code.block id (kH (vT rt lt c id))=_;rw[ih id h]
 | loop c ih=>intro k h;show kH (z5z _ (vT rt lt c k))=_;rw[zmj,ih k h]
 | exit id=>intro k _;rfl
 | ret=>intro k _;rfl
 | rangeFunc f ps a b _ _=>intro k h;cases h
 | scope c _=>intro k h;cases h
 | label l=>intro k h;cases h
 | goto l=>intro k h;cases h
 | refuse s=>intro k h;cases h
def tabF (l:List (Nat × jB)):Tr jB:=List.rec (motive:=fun _=>Tr jB) .leaf (fun p _ g=>g.set p.1 p.2) l
theorem zy9{l:List (Nat × jB)}{f:Nat}{A:jB}(h:(tabF l).get f=some A):(f,A)∈l:=by
 induction l with
 | nil=>rw[show tabF []=.leaf from rfl,Tr.get_leaf]at h;cases h
 | cons p l ih=>
  have h:((tabF l).set p.1 p.2).get f=some A:=h
  rw[Tr.get_set]at h;split at h
  ·rename_i e;cases h;rw[e];exact yaz
  ·exact yas _ (ih h)
def zyp(C:iA)(p:Nat × jB):Prop:=∃fn c,C.fns.get p.1=some fn/\fn.body=some c/\kH p.2.code=c
theorem bodyOk{C:iA}{f:Nat}{fn:Func}{c:Code}{rt lt:List (Nat × PI)}{la:List Nat}(h1:C.fns.get f=some fn)(h2:fn.body=some c)(h3:qN c=true):zyp C (f,⟨uC rt lt 0 c,la⟩):=⟨fn,c,h1,h2,zmk c 0 h3⟩
theorem zrj{C:iA}{l:List (Nat × jB)}(h:∀p∈l,zyp C p):eU C (mP (tabF l)):=by
 intro f c hc;unfold mP at hc;rw[Tr.get_mapT]at hc
 cases hq:(tabF l).get f with
 | none=>rw[hq]at hc;cases hc
 | some A=>
  rw[hq]at hc
  cases hc;obtain⟨fn,b,h1,h2,h3⟩:=h _ (zy9 hq)
  exact⟨fn,h1,by rw[h2,h3]⟩
end Go.Am
namespace Go.Am
class dC where
 n:Nat
def z5g(a:List zA)(_:qA):Option zA:=match a with | []=>some (.bool true) | _=>none
def zq1:List Nat->List Nat->Bool
 | [],_=>true
 | _::_,[]=>false
 | a::x,b::y=>bif Nat.beq a b then zq1 x y else false
def z1o (sub:List Nat):List Nat->Option (List Nat × List Nat)
 | []=>bif sub.isEmpty then some ([],[])else none
 | b::l=>bif zq1 sub (b::l)then some ([],lK (b::l) (wB sub))else ob (z1o sub l) fun p=>some (b::p.1,p.2)
def pCut (a:List zA)(_:qA):Option zA:=match a with
 | [.str s,.str c]=>sB (Nat.blt (wB s) 4294967281) (match z1o c s with
  | some p=>some (.tup [.str p.1,.str p.2,.bool true])
  | none=>some (.tup [.str s,.str [],.bool false]))
 | _=>none
def gJ(n:Int):List Nat:=(Lib.itoa n).map UInt8.toNat
def zu6(a:List zA)(_:qA):Option zA:=match a with
 | [.int .i64 n]=>sB (sC (-9223372036854775808) n&&iB n 9223372036854775808) (some (.str (gJ n)))
 | _=>none
def zk5(v:zA):Option Nat:=ob v.asIntK fun p=>sB (kEq p.1 .u32) (ob (aK p.2) fun n=>sB (Nat.blt n 4294967296) (some n))
def zl4:List zA->Option zA
 | []=>some (.int .u64 0)
 | [a]=>ob (zk5 a) fun x=>some (.int .u64 (.ofNat x))
 | [a,b]=>ob (zk5 a) fun x=>ob (zk5 b) fun y=>some (.int .u64 (.ofNat (x+4294967296*y)))
 | _=>none
def zu5(a:List zA)(H:qA):Option zA:=match a with
 | [v]=>(match v.asSlice with
  | some s=>bif Nat.blt s.2.2.1 3 then ob (nD H s.1) fun c=>ob (c.1.many s.2.2.1 s.2.1) zl4 else none
  | none=>sB (Nat.beq v.tag 5) (some (.int .u64 0)))
 | _=>none
end Go.Am
