/- Trees: what they are worth. Overlays: memory with blocks that are not looked at; operations do not touch them. -/
import Derived.Lib.ItoaNum
import Derived.Test.YthmbkdkibhffbaaGreatDoorE04
set_option linter.all false
noncomputable section
namespace Go.Am
open Go Go.RowKit
def sG {α:Type}(x:Option α)(P:α->Prop):Prop:=
 match x with
 | some a=>P a
 | none=>False
theorem uR{α:Type}{x:Option α}{P:α->Prop}:sG x P ↔ ∃a,x=some a/\P a:=by
 cases x with
 | none=>simp[sG]
 | some a=>simp[sG]
@[simp] theorem xA {α:Type} {a:α} {P:α->Prop}:sG (some a) P=P a:=rfl
@[simp] theorem optP_none {α:Type} {P:α->Prop}:sG (none:Option α) P=False:=rfl
abbrev kB:=zA->Tr lA->Prop
abbrev aH:=Nat->List zA->Tr lA->kB->Prop
def wM(f:zA)(args:List zA):Option (Nat × List zA):=ob f.asFunc fun p=>match p.1 with
 | .func g=>some (g,iF (iF p.2.1 args) p.2.2)
 | .yld _=>none
def zyw (k:IntKind)(v:zA):Option Int:=ob v.asIntK fun p=>uB (kEq p.1 k) (some p.2)
def wG (zs:List zA)(v:zA):Option zke:=ob v.asAgg fun l=>uB (jM zs l) (some (cellsOf l))
def qA (base:Nat)(W:aH)(J:aH):T->Tr lA->kB->Prop
 | .ret v,t,Q=>Q v t
 | .fail,_,_=>False
 | .ite b x y,t,Q=>if b=true then qA base W J x t Q else qA base W J y t Q
 | .opt x K,t,Q=>sG x fun v=>qA base W J (K v) t Q
 | .light x K,t,Q=>sG (x t) fun v=>qA base W J (K v) t Q
 | .heavy x K,t,Q=>∀b,t.get b=none->base<=b->sG (x ⟨b,t⟩) fun p=>qA base W J (K p.1) p.2.t Q
 | .call f args K,t,Q=>W f args t fun v t'=>qA base W J (K v) t' Q
 | .callv f args K,t,Q=>sG (wM f args) fun p=>W p.1 p.2 t fun v t'=>qA base W J (K v) t' Q
 | .asI k v K,t,Q=>sG (zyw k v) fun n=>qA base W J (K n) t Q
 | .asB v K,t,Q=>sG v.asBool fun n=>qA base W J (K n) t Q
 | .asS v K,t,Q=>sG v.asStr fun n=>qA base W J (K n) t Q
 | .asG zs v K,t,Q=>sG (wG zs v) fun X=>qA base W J (K X) t Q
 | .jump i vals,t,Q=>J i vals t Q
abbrev Xt:=Nat->Option lA
def XLe (X Y:Xt):Prop:=∀b y,X b=some y->Y b=some y
theorem XLe.refl(X:Xt):XLe X X:=fun _ _ h=>h
theorem XLe.trans{X Y Z:Xt}(h:XLe X Y)(k:XLe Y Z):XLe X Z:=fun b y e=>k b y (h b y e)
structure Ov (base:Nat) (t:Tr lA) (X:Xt) (H:pA):Prop where
 base:base<=H.next
 same:∀b,X b=none->H.t.get b=t.get b
 ext:∀b y,X b=some y->H.t.get b=some y/\t.get b=none/\b<H.next
 lt:∀b y,t.get b=some y->b<H.next
def HLe (H H':pA):Prop:=∀b y,H.t.get b=some y->H'.t.get b=some y
def pO(e e':xD):Prop:=∀i v,zyu i e=some v->zyu i e'=some v
section
variable {base:Nat}{t:Tr lA}{X:Xt}{H HA:pA}{e e':xD}{C:iA}{v:zA}
theorem Ov.notX(h:Ov base t X HA){b:Nat}{y:lA}(hb:t.get b=some y):X b=none:=by
 cases hx:X b with
 | none=>rfl
 | some z=>have:=(h.ext b z hx).2.1;rw[hb]at this;cases this
theorem Ov.up(h:Ov base t X HA){b:Nat}{y:lA}(hb:t.get b=some y):HA.t.get b=some y:=by rw[h.same b (h.notX hb)];exact hb
theorem Ov.le(h:Ov base t X HA){n:Nat}:HLe ⟨n,t⟩ HA:=fun _ _ hb=>h.up hb
theorem Ov.nextX(h:Ov base t X HA):X HA.next=none:=by
 cases hx:X HA.next with
 | none=>rfl
 | some z=>exact absurd (h.ext _ z hx).2.2 (Nat.lt_irrefl _)
theorem Ov.nextT(h:Ov base t X HA):t.get HA.next=none:=by
 cases hx:t.get HA.next with
 | none=>rfl
 | some z=>exact absurd (h.lt _ z hx) (Nat.lt_irrefl _)
theorem dM(h:HLe H HA){b:Nat}{p:Tr zA × Nat × Option Nat}(hb:rD H b=some p):rD HA b=some p:=by
 unfold rD at hb ⊢;rw[mA]at hb ⊢;obtain⟨y,h1,h2⟩:=hb;exact⟨y,h _ _ h1,h2⟩
theorem gV(h:HLe H HA){b:Nat}{p:List (zA × zA)}(hb:iL H b=some p):iL HA b=some p:=by
 unfold iL at hb ⊢;rw[mA]at hb ⊢;obtain⟨y,h1,h2⟩:=hb;exact⟨y,h _ _ h1,h2⟩
theorem jD(h:pO e e'){x:Operand}(hx:ev x e=some v):ev x e'=some v:=by
 cases x with
 | tmp i=>exact h i v hx
 | const c=>exact hx
 | global g=>exact hx
 | func f=>exact hx
theorem ze5{α β:Type}{f g:α->Option β}:∀(l:List α) {r:List β},(∀a b,f a=some b->g a=some b)->tI f l=some r->tI g l=some r:=by
 intro l;induction l with
 | nil=>intro r _ h;exact h
 | cons a l ih=>
  intro r hfg h;rw[cO,mA]at h ⊢
  obtain⟨b,h1,h⟩:=h
  refine⟨b,hfg _ _ h1,?_⟩
  rw[mA]at h ⊢
  obtain⟨s,h2,h⟩:=h
  exact⟨s,ih hfg h2,h⟩
theorem zg9(h:pO e e'){l:List Operand}{vs:List zA}(hx:evs l e=some vs):evs l e'=some vs:=ze5 l (fun _ _ k=>jD h k) hx
theorem zoz(h:pO e e'){x:Option Operand}{r:Option zA}(hx:evo x e=some r):evo x e'=some r:=by
 cases x with
 | none=>exact hx
 | some x=>
  have hx:ob (ev x e) (fun v=>some (some v))=some r:=hx
  show ob (ev x e') (fun v=>some (some v))=some r
  rw[mA]at hx ⊢
  obtain⟨a,h1,h2⟩:=hx
  exact⟨a,jD h h1,h2⟩
theorem zha(h:pO e e'){l:List (Nat × Operand)}{vs:List (Nat × zA)}(hx:evp l e=some vs):evp l e'=some vs:=
 ze5 l (fun a b k=>by rw[mA]at k ⊢;obtain⟨u,h1,h2⟩:=k;exact⟨u,jD h h1,h2⟩) hx
theorem zf0(h:pO e e'){c:Call}{p:zA × zA}(hx:two c e=some p):two c e'=some p:=by
 unfold two at hx ⊢
 split at hx
 ·rw[mA]at hx ⊢
  obtain⟨a,h1,hx⟩:=hx
  refine⟨a,jD h h1,?_⟩
  rw[mA]at hx ⊢
  obtain⟨b,h2,hx⟩:=hx
  exact⟨b,jD h h2,hx⟩
 ·cases hx
theorem fP(h:HLe H HA){ty:Nat}{a:zA}(hx:jA C ty H a=some v):jA C ty HA a=some v:=by
 unfold jA at hx ⊢
 simp only[mA]at hx ⊢
 obtain⟨p,h1,y,h2,c,h3,h4⟩:=hx
 exact⟨p,h1,y,h2,c,dM h h3,h4⟩
theorem zat(h:HLe H HA){s d:wD}{a:zA}(hx:lN C s d a H=some v):lN C s d a HA=some v:=by
 unfold lN at hx ⊢
 split at hx
 ·rename_i k hk;exact hx
 ·rename_i hk
  rw[mB]at hx ⊢
  refine⟨hx.1,?_⟩
  have hx:=hx.2
  rw[kC]at hx ⊢
  split at hx
  ·rename_i e;rw[if_pos e];exact hx
  ·rename_i e
   rw[if_neg e];simp only[mA,mB]at hx ⊢
   obtain⟨a1,h1,b1,h2,k1,h3,h4,h5⟩:=hx
   refine⟨a1,h1,b1,h2,k1,h3,h4,?_⟩
   unfold iV at h5 ⊢
   split at h5
   ·simp only[mA]at h5 ⊢
    obtain⟨c,g1,g2⟩:=h5
    exact⟨c,dM h g1,g2⟩
   ·exact h5
theorem zpp(h:HLe H HA){s d:Nat}{a:zA}(hx:tM C s d H a=some v):tM C s d HA a=some v:=by
 unfold tM at hx ⊢
 simp only[mA]at hx ⊢
 obtain⟨a1,h1,b1,h2,h3⟩:=hx
 exact⟨a1,h1,b1,h2,zat h h3⟩
theorem zd4(h:HLe H HA){b size cap l:Nat}{arr:Bool}(hx:xH H b size cap l arr=true):xH HA b size cap l arr=true:=by
 unfold xH at hx ⊢
 cases hc:rD H b with
 | none=>rw[hc]at hx;cases hx
 | some c=>rw[hc]at hx;rw[dM h hc];exact hx
theorem wZ(h:HLe H HA){ty:wD}{a:zA}{l r:Option zA}(hx:yK C H ty a l r=some v):yK C HA ty a l r=some v:=by
 have row:∀ {arr e b off len cap},gK C H arr e b off len cap l r=some v->gK C HA arr e b off len cap l r=some v:=by
  intro arr e b off len cap hx;unfold gK at hx ⊢
  simp only[mA]at hx ⊢
  obtain⟨a1,h1,b1,h2,hx⟩:=hx
  refine⟨a1,h1,b1,h2,?_⟩
  cases hb:rD H b with
  | none=>
   have e1:mH H b a1.size cap b1.1 arr=false:=by unfold mH;rw[hb]
   have e2:xH H b a1.size cap b1.1 arr=false:=by unfold xH;rw[hb]
   rw[e1,e2,Bool.and_false,Bool.and_false]at hx
   cases hx
  | some c=>
   have e1:mH HA b a1.size cap b1.1 arr=mH H b a1.size cap b1.1 arr:=by unfold mH;rw[hb,dM h hb]
   have e2:xH HA b a1.size cap b1.1 arr=xH H b a1.size cap b1.1 arr:=by unfold xH;rw[hb,dM h hb]
   rw[e1,e2];exact hx
 unfold yK at hx ⊢
 split at hx
 ·exact hx
 ·split at hx
  ·rw[mA]at hx ⊢;obtain⟨a1,h1,h2⟩:=hx;exact⟨a1,h1,row h2⟩
  ·split at hx
   ·rw[mA]at hx ⊢;obtain⟨a1,h1,h2⟩:=hx;exact⟨a1,h1,row h2⟩
   ·exact hx
theorem aY(h:HLe H HA){ty:Nat}{a:zA}{l r:Option zA}(hx:uG C ty H a l r=some v):uG C ty HA a l r=some v:=by
 unfold uG at hx ⊢
 rw[mA]at hx ⊢
 obtain⟨a1,h1,h2⟩:=hx
 exact⟨a1,h1,wZ h h2⟩
theorem zaq(h:HLe H HA){m:zA}{l:List (zA × zA)}(hx:zd8 H m=some l):zd8 HA m=some l:=by
 unfold zd8 at hx ⊢
 split at hx
 ·exact gV h hx
 ·exact hx
theorem zhs(h:HLe H HA){ty:Nat}{m k:zA}{ok:Bool}(hx:gP C ty H m k ok=some v):gP C ty HA m k ok=some v:=by
 unfold gP at hx ⊢
 simp only[mA,mB]at hx ⊢
 obtain⟨a1,h1,b1,h2,c1,h3,h4,d1,h5,es,h6,h7⟩:=hx
 exact⟨a1,h1,b1,h2,c1,h3,h4,d1,h5,es,zaq h h6,h7⟩
theorem zcz(h:HLe H HA){ty:wD}{a:zA}{n:Nat}(hx:zv4 H ty a=some n):zv4 HA ty a=some n:=by
 unfold zv4 at hx ⊢
 split at hx
 ·exact hx
 ·split at hx
  ·exact hx
  ·split at hx
   ·exact hx
   ·split at hx
    ·rw[mB,mA]at hx ⊢
     obtain⟨h1,l,h2,h3⟩:=hx
     exact⟨h1,l,gV h h2,h3⟩
    ·exact hx
theorem zsf(h:HLe H HA){ty:Nat}{a:zA}(hx:zrq C ty H a=some v):zrq C ty HA a=some v:=by
 unfold zrq at hx ⊢
 simp only[mA]at hx ⊢
 obtain⟨a1,h1,n,h2,h3⟩:=hx
 exact⟨a1,h1,n,zcz h h2,h3⟩
theorem zwf{ty:Nat}{a:Operand}:qN ty a C e H=ob (ev a e) fun v=>jA C ty H v:=rfl
theorem zwi{s d:Nat}{x:Operand}{u:zA}(hx:ev x e=some u):nL s d x C e H=tM C s d H u:=by unfold nL tM;rw[hx];rfl
theorem z0o{ty:Nat}{x:Operand}{lo hi:Option Operand}{a:zA}{l r:Option zA}(h1:ev x e=some a)(h2:evo lo e=some l)(h3:evo hi e=some r):sR ty x lo hi C e H=uG C ty H a l r:=by unfold sR uG;rw[h1,sA,h2,sA,h3,sA]
theorem za4{s f:Nat}{x:Operand}{u:zA}(hx:ev x e=some u):xP s x f C e H=uC C s f u:=by
 unfold xP uC dR;rw[hx]
 cases C.tys.get s with
 | none=>rfl
 | some ty=>
  simp only[sA]
  cases ty.desc.asStruct with
  | none=>rfl
  | some fs=>
   simp only[sA]
   cases qD fs f with
   | none=>rfl
   | some fd=>simp only[sA];cases hb:(!Nat.beq fd.2.2 0)<;>rfl
theorem za3{ty:Nat}{x i:Operand}{u w:zA}(hx:ev x e=some u)(hi:ev i e=some w):zP ty x i C e H=xB C ty u w:=by unfold zP xB;rw[hx,hi];rfl
theorem z0q{ty:Nat}{x i:Operand}{u w:zA}(hx:ev x e=some u)(hi:ev i e=some w):yP ty x i C e H=fN C ty u w:=by unfold yP fN;rw[hx,hi];rfl
theorem z29{x:Operand}{u:zA}(hx:ev x e=some u):z0p x C e H=lG u:=by unfold z0p lG;rw[hx];rfl
theorem zqt{x:Operand}{i:Nat}{u:zA}(hx:ev x e=some u):wP x i C e H=bB i u:=by unfold wP bB;rw[hx];rfl
theorem lBin_v{op:BinOp}{ty:Nat}{x y:Operand}{u w:zA}(hx:ev x e=some u)(hy:ev y e=some w):bK op ty x y C e H=(yL op).f C ty x y u w:=by unfold bK;rw[hx,hy];rfl
theorem zwk{x:Operand}{a:Nat}{ok:Bool}{u:zA}(hx:ev x e=some u):vP x a ok C e H=zko C a ok u:=by
 unfold vP zko;rw[hx];rfl
theorem zwe{ty:Nat}{x i:Operand}{ok:Bool}{m k:zA}(hx:ev x e=some m)(hi:ev i e=some k):aO ty x i ok C e H=gP C ty H m k ok:=by unfold aO gP;rw[hx,hi];rfl
theorem lLen_v{c:Call}{ty:Nat}{x:Operand}{u:zA}(h1:qD c.argTypes.toList 0=some ty)(h2:qD c.args.toList 0=some x)(hx:ev x e=some u):zoi c C e H=zrq C ty H u:=by unfold zoi zrq;rw[h1,sA,h2,sA,hx];rfl
theorem z1k(he:pO e e'){op:Op}(hp:zgf op=true\/(∃s d x,op=.convert s d x/\(yH C d=1\/yH C s=2))\/(∃c,op=.call c/\(c.callee=.builtin .max\/c.callee=.builtin .min))){H':pA}(h:(kF op).f C e H=some v):(kF op).f C e' H'=some v:=by
 rcases hp with hp | hp | hp
 ·cases op<;>simp only[zgf]at hp<;>try (cases hp;done)
  case move x=>exact jD he h
  case assign x=>exact jD he h
  case pick c a b=>
   have h:ob (ev c e) (fun c=>ob c.asBool fun c=>bif c then ev a e else ev b e)=some v:=h
   show ob (ev c e') (fun c=>ob c.asBool fun c=>bif c then ev a e' else ev b e')=some v
   simp only[mA]at h ⊢
   obtain⟨u,h1,w,h2,h3⟩:=h
   refine⟨u,jD he h1,w,h2,?_⟩
   cases w with
   | true=>exact jD he h3
   | false=>exact jD he h3
  case nilCheck x=>
   have h:ob (ev x e) (fun u=>uB (Nat.beq u.tag 4||Nat.beq u.tag 9) (some u))=some v:=h
   show ob (ev x e') (fun u=>uB (Nat.beq u.tag 4||Nat.beq u.tag 9) (some u))=some v
   rw[mA]at h ⊢
   obtain⟨u,h1,h2⟩:=h
   exact⟨u,jD he h1,h2⟩
  case binOp op t x y u=>
   have h:bK op t x y C e H=some v:=h
   show bK op t x y C e' H'=some v
   unfold bK at h ⊢
   simp only[mA]at h ⊢
   obtain⟨a,h1,b,h2,h3⟩:=h
   exact⟨a,jD he h1,b,jD he h2,h3⟩
  case unOp op t x=>
   have h:lUn op x C e H=some v:=h
   show lUn op x C e' H'=some v
   unfold lUn at h ⊢
   rw[mA]at h ⊢
   obtain⟨a,h1,h2⟩:=h
   exact⟨a,jD he h1,h2⟩
  case makeInterface t x=>
   have h:sS t x C e H=some v:=h
   show sS t x C e' H'=some v
   unfold sS at h ⊢
   simp only[mA,mB]at h ⊢
   obtain⟨a,h1,h2,b,h3,h4⟩:=h
   exact⟨a,h1,h2,b,jD he h3,h4⟩
  case makeFunc fn a b=>
   have h:(rS fn a b).f C e H=some v:=h
   show(rS fn a b).f C e' H'=some v
   unfold rS at h ⊢
   split at h
   ·show zwh _ a b C e' H'=some v
    unfold zwh at h ⊢
    simp only[mA]at h ⊢
    obtain⟨x,h1,y,h2,h3⟩:=h
    exact⟨x,zg9 he h1,y,zg9 he h2,h3⟩
   ·cases h
  case fieldAddr s x f=>
   have h:xP s x f C e H=some v:=h
   show xP s x f C e' H'=some v
   unfold xP at h ⊢
   simp only[mA,mB]at h ⊢
   obtain⟨a,h1,b,h2,c,h3,h4,u,h5,h6⟩:=h
   exact⟨a,h1,b,h2,c,h3,h4,u,jD he h5,h6⟩
  case field t x f=>
   have h:qS t x f C e H=some v:=h
   show qS t x f C e' H'=some v
   unfold qS at h ⊢
   simp only[mA]at h ⊢
   obtain⟨a,h1,b,h2,c,h3,u,h5,h6⟩:=h
   exact⟨a,h1,b,h2,c,h3,u,jD he h5,h6⟩
  case indexAddr t x i=>
   have h:zP t x i C e H=some v:=h
   show zP t x i C e' H'=some v
   unfold zP at h ⊢
   simp only[mA]at h ⊢
   obtain⟨a,h1,b,h2,c,h3,h4⟩:=h
   exact⟨a,h1,b,jD he h2,c,jD he h3,h4⟩
  case index t x i=>
   have h:yP t x i C e H=some v:=h
   show yP t x i C e' H'=some v
   unfold yP at h ⊢
   simp only[mA]at h ⊢
   obtain⟨a,h1,b,h2,c,h3,h4⟩:=h
   exact⟨a,h1,b,jD he h2,c,jD he h3,h4⟩
  case extract t i=>
   have h:wP t i C e H=some v:=h
   show wP t i C e' H'=some v
   unfold wP at h ⊢
   rw[mA]at h ⊢
   obtain⟨a,h1,h2⟩:=h
   exact⟨a,jD he h1,h2⟩
  case build t ps=>
   have h:wQ t ps C e H=some v:=h
   show wQ t ps C e' H'=some v
   unfold wQ at h ⊢
   rw[mA]at h ⊢
   obtain⟨a,h1,h⟩:=h
   refine⟨a,h1,?_⟩
   rw[mA]at h ⊢
   obtain⟨b,h2,h⟩:=h
   exact⟨b,zha he h2,h⟩
  case typeAssert x t u ok=>
   have h:vP x u ok C e H=some v:=h
   show vP x u ok C e' H'=some v
   unfold vP at h ⊢
   rw[mA]at h ⊢
   obtain⟨a,h1,h⟩:=h
   refine⟨a,h1,?_⟩
   rw[mB]at h ⊢
   refine⟨h.1,?_⟩
   have h:=h.2
   rw[mA]at h ⊢
   obtain⟨b,h2,h⟩:=h
   exact⟨b,jD he h2,h⟩
 ·obtain⟨s,d,x,rfl,hp⟩:=hp
  have h:nL s d x C e H=some v:=h
  show nL s d x C e' H'=some v
  unfold nL at h ⊢
  simp only[mA]at h ⊢
  obtain⟨u,h1,sy,h2,dy,h3,h4⟩:=h
  refine⟨u,jD he h1,sy,h2,dy,h3,?_⟩
  unfold lN at h4 ⊢
  split at h4
  ·exact h4
  ·rename_i hd
   rw[mB]at h4 ⊢
   refine⟨h4.1,?_⟩
   have h4:=h4.2
   rw[kC]at h4 ⊢
   split at h4
   ·rename_i e;rw[if_pos e];exact h4
   ·rename_i e
    exfalso
    rcases hp with hp | hp
    ·unfold yH at hp
     rw[h3]at hp;have hp:dy.desc.tag=1:=hp
     cases hx:dy.desc<;>rw[hx]at hp hd<;>first
      | (cases hp;done)
      | (cases hd;done)
    ·unfold yH at hp
     rw[h2]at hp;have hp:sy.desc.tag=2:=hp
     simp only[mA]at h4;obtain⟨el,h5,_⟩:=h4
     cases hx:sy.desc<;>rw[hx]at hp h5<;>first
      | (cases hp;done)
      | (cases h5;done)
 ·obtain⟨c,rfl,hc⟩:=hp
  rcases hc with hc | hc
  ·have h:(wO c c.callee).f C e H=some v:=h
   show(wO c c.callee).f C e' H'=some v
   rw[hc]at h ⊢
   have h:zwd c C e H=some v:=h
   show zwd c C e' H'=some v
   unfold zwd at h ⊢
   rw[mA]at h ⊢
   obtain⟨p,h1,h2⟩:=h
   exact⟨p,zf0 he h1,h2⟩
  ·have h:(wO c c.callee).f C e H=some v:=h
   show(wO c c.callee).f C e' H'=some v
   rw[hc]at h ⊢
   have h:zwb c C e H=some v:=h
   show zwb c C e' H'=some v
   unfold zwb at h ⊢
   rw[mA]at h ⊢
   obtain⟨p,h1,h2⟩:=h
   exact⟨p,zf0 he h1,h2⟩
end
end Go.Am
namespace Go.Am
open Go Go.RowKit
section
variable {base:Nat}{t:Tr lA}{X:Xt}{H HA:pA}{e e':xD}{C:iA}{v:zA}
theorem Ov.newBlk(h:Ov base t X HA)(y:lA):Ov base (t.set HA.next y) X (newBlk HA y):=by
 refine⟨Nat.le_succ_of_le h.base,fun b hb=>?_,fun b z hb=>?_,fun b z hb=>?_⟩
 ·show(HA.t.set HA.next y).get b=_
  rw[Tr.get_set,Tr.get_set];split
  ·rfl
  ·exact h.same b hb
 ·obtain⟨h1,h2,h3⟩:=h.ext b z hb
  have hne:b≠HA.next:=Nat.ne_of_lt h3
  refine⟨?_,?_,Nat.lt_succ_of_lt h3⟩
  ·show(HA.t.set HA.next y).get b=_
   rw[Tr.get_set,if_neg hne];exact h1
  ·rw[Tr.get_set,if_neg hne];exact h2
 ·rw[Tr.get_set]at hb
  show b<HA.next+1
  split at hb
  ·rename_i e;rw[e];exact Nat.lt_succ_self _
  ·exact Nat.lt_succ_of_lt (h.lt _ _ hb)
theorem Ov.setBlk(h:Ov base t X HA){b:Nat}{y:lA}(hb:t.get b=some y)(z:lA):Ov base (t.set b z) X (setBlk HA b z):=by
 refine⟨h.base,fun c hc=>?_,fun c u hc=>?_,fun c u hc=>?_⟩
 ·show(HA.t.set b z).get c=_
  rw[Tr.get_set,Tr.get_set];split
  ·rfl
  ·exact h.same c hc
 ·obtain⟨h1,h2,h3⟩:=h.ext c u hc
  have hne:c≠b:=fun e=>by rw[e,hb]at h2;cases h2
  refine⟨?_,?_,h3⟩
  ·show(HA.t.set b z).get c=_
   rw[Tr.get_set,if_neg hne];exact h1
  ·rw[Tr.get_set,if_neg hne];exact h2
 ·rw[Tr.get_set]at hc
  show c<HA.next
  split at hc
  ·rename_i e;rw[e];exact h.lt _ _ hb
  ·exact h.lt _ _ hc
theorem Ov.delBlk(h:Ov base t X HA){b:Nat}{y:lA}(hb:t.get b=some y):Ov base (t.del b) X ⟨HA.next,HA.t.del b⟩:=by
 refine⟨h.base,fun c hc=>?_,fun c u hc=>?_,fun c u hc=>?_⟩
 ·show(HA.t.del b).get c=_
  rw[Tr.get_del,Tr.get_del];split
  ·rfl
  ·exact h.same c hc
 ·obtain⟨h1,h2,h3⟩:=h.ext c u hc
  have hne:c≠b:=fun e=>by rw[e,hb]at h2;cases h2
  refine⟨?_,?_,h3⟩
  ·show(HA.t.del b).get c=_
   rw[Tr.get_del,if_neg hne];exact h1
  ·rw[Tr.get_del,if_neg hne];exact h2
 ·rw[Tr.get_del]at hc
  show c<HA.next
  split at hc
  ·cases hc
  ·exact h.lt _ _ hc
def zyy (base:Nat)(x:pA->Option (zA × pA)):Prop:=∀t X HA v H',Ov base t X HA->x ⟨HA.next,t⟩=some (v,H')->∃HA',x HA=some (v,HA')/\Ov base H'.t X HA'
theorem zcq(l:List zA)(lo:Option Nat)(h:Ov base t X HA):Ov base (nF ⟨HA.next,t⟩ l lo).t X (nF HA l lo):=h.newBlk _
theorem zsi{ty:Nat}:zyy base (jK C ty):=by
 intro t X HA v H' ho h;unfold jK at h ⊢
 rw[mA]at h;obtain⟨y,h1,h2⟩:=h
 cases h2;rw[h1];exact⟨_,rfl,zcq _ _ ho⟩
theorem z4i{u:zA}:zyy base (zsh u):=by
 intro t X HA v H' ho h
 cases h;exact⟨_,rfl,zcq _ _ ho⟩
theorem zd0{ty n:Nat}{ps:List (Nat × zA)}:zyy base (fE C ty n ps):=by
 intro t X HA v H' ho h;unfold fE at h ⊢
 simp only[mA,mB]at h;obtain⟨a,h1,b,h2,c,h3,h4,l,h5,h6⟩:=h
 cases h6;refine⟨nF HA l none,?_,zcq _ _ ho⟩
 simp only[mA,mB];exact⟨a,h1,b,h2,c,h3,h4,l,h5,rfl⟩
theorem zh2(ho:Ov base t X HA){b off:Nat}{l:List zA}{H':pA}(h:iK C ⟨HA.next,t⟩ b off l=some H'):∃HA',iK C HA b off l=some HA'/\Ov base H'.t X HA':=by
 unfold iK at h ⊢
 simp only[mA,mB]at h;obtain⟨h1,c,h2,h3,h4⟩:=h
 cases h4;have h2':=h2
 unfold rD at h2';rw[mA]at h2'
 obtain⟨y,h5,_⟩:=h2'
 refine⟨_,?_,ho.setBlk h5 _⟩
 simp only[mA,mB];exact⟨h1,c,dM ho.le h2,h3,rfl⟩
theorem zse{ty:Nat}{a u:zA}:zyy base (lD C ty a u):=by
 intro t X HA v H' ho h;unfold lD at h ⊢
 simp only[mA,mB]at h;obtain⟨y,h1,p,h2,h3,H1,h4,h5⟩:=h
 cases h5;obtain⟨HA',h6,h7⟩:=zh2 ho h4
 refine⟨HA',?_,h7⟩
 simp only[mA,mB];exact⟨y,h1,p,h2,h3,HA',h6,rfl⟩
theorem zkn:zyy base mU:=by
 intro t X HA v H' ho h
 cases h;exact⟨_,rfl,ho.newBlk _⟩
theorem zeg{ty:Nat}{m k u:zA}:zyy base (fR C ty m k u):=by
 intro t X HA v H' ho h;unfold fR at h ⊢
 simp only[mA,mB]at h;obtain⟨a,h1,b,h2,c,h3,h4,d,h5,h6,l,h7,h8,l',h9,h10⟩:=h
 cases h10;have h7':=h7
 unfold iL at h7';rw[mA]at h7'
 obtain⟨y,h11,_⟩:=h7'
 refine⟨_,?_,ho.setBlk h11 _⟩
 simp only[mA,mB];exact⟨a,h1,b,h2,c,h3,h4,d,h5,h6,l,gV ho.le h7,h8,l',h9,rfl⟩
theorem zfx{ty:Nat}{l c:zA}:zyy base (uL C ty l c):=by
 intro t X HA v H' ho h;unfold uL at h ⊢
 simp only[mA,mB]at h;obtain⟨a,h1,b,h2,d,h3,n,h4,m,h5,h6,h7⟩:=h
 cases h7;refine⟨nF HA (tJ d.zero m) none,?_,zcq _ _ ho⟩
 simp only[mA,mB];exact⟨a,h1,b,h2,d,h3,n,h4,m,h5,h6,rfl⟩
theorem zkm{s d:Nat}{u:zA}:zyy base (zfw C s d u):=by
 intro t X HA v H' ho h;unfold zfw at h ⊢
 simp only[mA,mB]at h;obtain⟨a,h1,b,h2,c,h3,et,h4,k,h5,h6,l,h7,h8⟩:=h
 cases h8;refine⟨nF HA (pP l) (some 1),?_,zcq _ _ ho⟩
 simp only[mA,mB];exact⟨a,h1,b,h2,c,h3,et,h4,k,h5,h6,l,h7,rfl⟩
theorem zl1(h:HLe H HA){sz n:Nat}{u:zA}{l:List zA}(hx:mS H sz n u=some l):mS HA sz n u=some l:=by
 unfold mS at hx ⊢
 split at hx
 ·rw[mA]at hx ⊢
  obtain⟨c,h1,h2⟩:=hx
  exact⟨c,dM h h1,h2⟩
 ·exact hx
theorem zrm(ho:Ov base t X HA){ty:wD}{a b:zA}{H':pA}(h:aM C ⟨HA.next,t⟩ ty a b=some (v,H')):∃HA',aM C HA ty a b=some (v,HA')/\Ov base H'.t X HA':=by
 unfold aM at h;simp only[mA]at h;obtain⟨el,h1,et,h2,n,h3,new,h4,h5⟩:=h
 have h4':=zl1 ho.le h4
 suffices hs:∃HA',(match a.asSlice with
  | some s=>bif Nat.ble (s.2.2.1+n) s.2.2.2 then uP C HA et n new s else tP C HA et n new s
  | none=>uB (Nat.beq a.tag 5) (kM HA et n new))=some (v,HA')/\Ov base H'.t X HA' by
  obtain⟨HA',g1,g2⟩:=hs
  refine⟨HA',?_,g2⟩
  unfold aM;simp only[mA];exact⟨el,h1,et,h2,n,h3,new,h4',g1⟩
 cases hs:a.asSlice with
 | some s=>
  rw[hs]at h5;simp only[]at h5 ⊢
  rw[kC]at h5;split at h5
  ·rename_i hr
   simp only[hr,cond_true];unfold uP at h5 ⊢
   split at h5
   ·cases h5;exact⟨HA,rfl,ho⟩
   ·rw[mA]at h5
    obtain⟨H1,g1,g2⟩:=h5
    cases g2
    obtain⟨HA',g3,g4⟩:=zh2 ho g1
    exact⟨HA',by simp only[g3,sA],g4⟩
  ·rename_i hr
   simp only[Bool.not_eq_true]at hr;simp only[hr,cond_false];unfold tP at h5 ⊢
   rw[mB]at h5;obtain⟨gm,h5⟩:=h5
   rw[mB]at h5;obtain⟨g0,h5⟩:=h5
   rw[mA]at h5;obtain⟨c,g1,h5⟩:=h5
   have g1':=dM ho.le g1
   unfold rD at g1;rw[mA]at g1;obtain⟨y,g2,_⟩:=g1
   split at h5
   ·rename_i hc
    unfold yU at h5;rw[mA]at h5;obtain⟨old,g3,g4⟩:=h5
    cases g4
    refine⟨nF HA (iF old new) (some et.size),?_,zcq _ _ ho⟩
    simp only[mB,mA];refine⟨gm,g0,c,g1',?_⟩
    rw[hc];unfold yU;simp only[mA];exact⟨old,g3,rfl⟩
   ·rename_i es hc
    unfold oV at h5;rw[mB]at h5;obtain⟨g3,g4⟩:=h5
    cases g4
    refine⟨⟨HA.next+1,(HA.t.del s.1).set HA.next (.cells (c.1.setMany new (s.2.2.1*es)) ((s.2.2.1+n)*es) (some es))⟩,?_,(ho.delBlk g2).newBlk _⟩
    simp only[mB,mA];refine⟨gm,g0,c,g1',?_⟩
    rw[hc];unfold oV;exact mB.2 ⟨g3,rfl⟩
 | none=>
  rw[hs]at h5;simp only[]at h5 ⊢
  rw[mB]at h5;obtain⟨g0,h5⟩:=h5
  unfold kM at h5;rw[kC]at h5;split at h5
  ·rename_i hn
   cases h5;refine⟨HA,?_,ho⟩
   rw[mB];refine⟨g0,?_⟩
   unfold kM;rw[hn];rfl
  ·rename_i hn
   rw[mB]at h5;obtain⟨g1,h5⟩:=h5
   cases h5;refine⟨nF HA new (some et.size),?_,zcq _ _ ho⟩
   rw[mB];refine⟨g0,?_⟩
   unfold kM;simp only[Bool.not_eq_true]at hn;rw[hn,cond_false,mB];exact⟨g1,rfl⟩
theorem zpq{ty u:Nat}{a b:zA}:zyy base (iD C ty u a b):=by
 intro t X HA v H' ho h;unfold iD at h;simp only[mA,mB]at h;obtain⟨y,h1,z,h2,h3,h4⟩:=h
 obtain⟨HA',g1,g2⟩:=zrm ho h4
 refine⟨HA',?_,g2⟩
 unfold iD;simp only[mA,mB];exact⟨y,h1,z,h2,h3,g1⟩
end
def cV(ν:Nat->Nat)(ae:zkg)(e:xD):Prop:=∀i p,tAd ae i=some p->zyu i e=some (.ptr (ν p.1) p.2)
def zyq(base:Nat)(X0 X:Xt)(ν:Nat->Nat)(lo:Tr (List zA)):Prop:=∀d l,lo.get d=some l->X0 (ν d)=none/\base<=ν d/\∃c,X (ν d)=some (.cells c l.length none)/\∀j a,l[j]?=some a->c.get j=some a
theorem lE{base:Nat}{W J:aH}{α:Type}{x:Option α}{K:α->T}{t:Tr lA}{Q:kB}:qA base W J (sC x K) t Q ↔ ∃a,x=some a/\qA base W J (K a) t Q:=by
 cases x with
 | none=>exact⟨fun h=>(by cases h),fun⟨_,h,_⟩=>(by cases h)⟩
 | some a=>exact⟨fun h=>⟨a,rfl,h⟩,fun⟨_,h,k⟩=>(by cases h;exact k)⟩
theorem vM{base:Nat}{W J:aH}{b:Bool}{K:T}{t:Tr lA}{Q:kB}:qA base W J (gdT b K) t Q ↔ b=true/\qA base W J K t Q:=by
 cases b with
 | false=>exact⟨fun h=>(by cases h),fun⟨h,_⟩=>(by cases h)⟩
 | true=>exact⟨fun h=>⟨rfl,h⟩,fun⟨_,h⟩=>h⟩
theorem lP{base:Nat}{W J:aH}{x:Option zA}{K:zA->T}{t:Tr lA}{Q:kB}:qA base W J (.opt x K) t Q ↔ ∃a,x=some a/\qA base W J (K a) t Q:=uR
theorem oU{base:Nat}{W J:aH}{x:Tr lA->Option zA}{K:zA->T}{t:Tr lA}{Q:kB}:qA base W J (.light x K) t Q ↔ ∃a,x t=some a/\qA base W J (K a) t Q:=uR
theorem zbs{ν:Nat->Nat}{ae:zkg}{e:xD}(h:cV ν ae e){x:Operand}{p:Nat × Nat}(hx:xAd ae x=some p):ev x e=some (.ptr (ν p.1) p.2):=by
 cases x with
 | tmp i=>exact h i p hx
 | const _=>cases hx
 | global _=>cases hx
 | func _=>cases hx
theorem z5p{c:Tr zA}{l:List zA}(h:∀j a,l[j]?=some a->c.get j=some a):∀(n off:Nat),off+n<=l.length->c.many n off=some ((l.drop off).take n):=by
 intro n;induction n with
 | zero=>intro off _;simp;rfl
 | succ n ih=>
  intro off ho;have hlt:off<l.length:=by omega
  rw[Tr.many_succ,h off l[off] (yae hlt),sA,ih (off+1) (by omega),sA]
  rw[yam hlt,List.take_succ_cons]
section
variable {W J:aH}{t:Tr lA}{X X0:Xt}{HA:pA}{e eA:xD}{C:iA}{ν:Nat->Nat}{ae:zkg}{lo:Tr (List zA)}{k:KOp}{Q:kB}{R:zA->Prop}
theorem zod(ho:Ov C.base t X HA)(hl:zyq C.base X0 X ν lo){d off ty:Nat}{l:List zA}{y:wD}{v:zA}(h1:lo.get d=some l)(h2:C.tys.get ty=some y)(h3:Nat.ble (off+y.size) (wB l)=true)(h4:bN C ty l off=some v) :
  jA C ty HA (.ptr (ν d) off)=some v:=by
 obtain⟨_,_,c,hc,hg⟩:=hl d l h1
 have hb:=(ho.ext _ _ hc).1
 unfold jA;simp only[zA.asPtr,sA];rw[h2,sA];unfold rD;rw[hb,sA];simp only[lA.asCells,sA];unfold bN at h4;rw[h2,sA]at h4;unfold rN;rw[kC]at h4 ⊢
 rw[oE,fD]at h3;split at h4
 ·rename_i ha
  rw[if_pos ha,z5p hg _ _ h3,sA];rw[uS,xO]at h4;exact h4
 ·rename_i ha
  rw[if_neg ha];rw[bD]at h4;exact hg _ _ h4
theorem xN(he:pO e eA){op:Op}(hp:zgf op=true\/(∃s d x,op=.convert s d x/\(yH C d=1\/yH C s=2))\/(∃c,op=.call c/\(c.callee=.builtin .max\/c.callee=.builtin .min)))
  (h:qA C.base W J (znf C op e k) t Q) (hKd:∀v,qA C.base W J (k.Kd v) t Q->R v):∃v,(kF op).f C eA HA=some v/\R v:=by
 unfold znf at h;rw[lE]at h;obtain⟨v,h1,h2⟩:=h
 exact⟨v,z1k he hp h1,hKd v h2⟩
theorem zsg{ty:Nat}{u v:zA}{H:pA}(ht:yH C ty=4)(h:vB u=some v):zrq C ty H u=some v:=by
 unfold yH at ht
 cases hy:C.tys.get ty with
 | none=>rw[hy]at ht;cases ht
 | some y=>
  rw[hy]at ht;have ht:y.desc.tag=4:=ht
  unfold zrq;rw[hy,sA];unfold vB at h;unfold zv4
  cases u<;>simp only[zA.asSlice,zA.asStr,zA.asMap,zA.tag]at h ⊢ <;> (try (rw[mB]at h;exact absurd h.1 (by decide)))
  case nilslice=>
   rw[mB]at h;have hn:y.desc.asArr=none:=by cases hd:y.desc<;>rw[hd]at ht<;>first | rfl | (cases ht;done)
   rw[hn,ht];simp only[mA,mB];exact⟨0,⟨rfl,rfl⟩,h.2⟩
  case slice a b n m=>
   rw[ht]
   cases h;simp only[mA,mB];exact⟨n,⟨rfl,rfl⟩,rfl⟩
theorem zwv{ty:Nat}{u v:zA}{H H':pA}(ht:yH C ty≠6)(h:zrq C ty H u=some v):zrq C ty H' u=some v:=by
 unfold zrq at h ⊢
 simp only[mA]at h ⊢
 obtain⟨y,h1,n,h2,h3⟩:=h
 refine⟨y,h1,n,?_,h3⟩
 have ht:¬ Nat.beq y.desc.tag 6=true:=by
  intro hb;apply ht;unfold yH;rw[h1];exact wC.1 hb
 unfold zv4 at h2 ⊢
 split at h2
 ·exact h2
 ·split at h2
  ·exact h2
  ·split at h2
   ·exact h2
   ·split at h2
    ·rw[mB]at h2;exact absurd h2.1 ht
    ·exact h2
theorem zt1{ty:Nat}{a v:zA}{l h:Option zA}{H H':pA}(ht:yH C ty=2)(hx:uG C ty H a l h=some v):uG C ty H' a l h=some v:=by
 unfold uG at hx ⊢
 rw[mA]at hx ⊢
 obtain⟨y,h1,h2⟩:=hx
 refine⟨y,h1,?_⟩
 unfold yH at ht;rw[h1]at ht;have ht:y.desc.tag=2:=ht
 unfold yK at h2 ⊢
 have n1:y.desc.asSlice=none:=by cases hd:y.desc<;>rw[hd]at ht<;>first | rfl | (cases ht;done)
 have n2:y.desc.asArr=none:=by cases hd:y.desc<;>rw[hd]at ht<;>first | rfl | (cases ht;done)
 split at h2
 ·exact h2
 ·split at h2
  ·rw[n1]at h2;cases h2
  ·split at h2
   ·rw[n2]at h2;cases h2
   ·exact h2
theorem lW{u:zA}(h:zA.one u=true):u.cells=[u]:=by
 cases u<;>first
  | rfl
  | (have:=oC.1 h;simp[zA.tag]at this)
theorem zq6{tyAt:Nat->Option Nat}(place:Nat->Option (Nat × Nat)):∀(vs:List (Nat × zA)) {q:List (Nat × zA × List zA) × List zA},zu4 C tyAt vs=some q->pB zA.one q.2=true->∀cells l,z1e place q.1 cells=some l->iM place vs cells=some l:=by
 intro vs;induction vs with
 | nil=>intro q h _ cells l hl;cases h;exact hl
 | cons p vs ih=>
  intro q h h1 cells l hl;have h:(ob (tyAt p.1) fun t=>ob (C.tys.get t) fun ty=>ob (zu4 C tyAt vs) fun r=>some (bif ty.desc.isAgg then((p.1,p.2,p.2.cells)::r.1,r.2)else((p.1,p.2,[p.2])::r.1,p.2::r.2)))=some q:=h
  simp only[mA]at h;obtain⟨ty,_,y,_,r,h3,h4⟩:=h
  have fC:∀(rest:List zA),pB zA.one r.2=true->(ob (place p.1) fun q=>ob (z1d cells q.1 q.2 p.2.cells) fun cells=>z1e place r.1 cells)=some l->iM place (p::vs) cells=some l:=by
   intro _ hr hl;show(ob (place p.1) fun q=>ob (wU cells q.1 q.2 p.2) fun cells=>iM place vs cells)=some l
   simp only[mA]at hl ⊢
   obtain⟨a,g1,b,g2,g3⟩:=hl
   exact⟨a,g1,b,g2,ih h3 hr _ _ g3⟩
  cases hb:y.desc.isAgg with
  | true=>
   rw[hb]at h4
   cases h4;exact fC [] h1 hl
  | false=>
   rw[hb]at h4
   cases h4;rw[mF,cond_false]at h1;simp only[ybh,yac]at h1;have hl:(ob (place p.1) fun q=>ob (z1d cells q.1 q.2 [p.2]) fun cells=>z1e place r.1 cells)=some l:=hl
   rw[<- lW h1.1]at hl;exact fC [] (by rw[mF];exact h1.2) hl
theorem z4o(he:pO e eA)(ha:cV ν ae eA)(ho:Ov C.base t X HA)(hl:zyq C.base X0 X ν lo){op:Op}(h:qA C.base W J (tL C op e ae lo k) t Q)
  (hK:∀v,qA C.base W J (k.K v) t Q->R v) (hKd:∀v,qA C.base W J (k.Kd v) t Q->R v) (hKA:∀d off,qA C.base W J (k.KA d off) t Q->R (.ptr (ν d) off)) :
  ∃v,(kF op).f C eA HA=some v/\R v:=by
 cases op<;>simp only[tL]at h<;>try (cases h;done)
 case move x=>
  unfold zza at h;split at h
  ·rename_i p hp
   exact⟨_,zbs ha hp,hKA _ _ h⟩
  ·exact xN he (.inl rfl) h hKd
 case assign x=>
  unfold zza at h;split at h
  ·rename_i p hp
   exact⟨_,zbs ha hp,hKA _ _ h⟩
  ·exact xN he (.inl rfl) h hKd
 case pick c a b=>exact xN he (.inl rfl) h hKd
 case load ty a=>
  unfold tLoad at h;split at h
  ·rename_i p hp
   simp only[lE,vM]at h;obtain⟨l,h1,y,h2,h3,v,h4,h5⟩:=h
   refine⟨v,?_,hKd v h5⟩
   show qN ty a C eA HA=some v
   rw[zwf,zbs ha hp,sA];exact zod ho hl h1 h2 h3 h4
  ·rw[lE]at h
   obtain⟨u,h1,h2⟩:=h
   rw[oU]at h2;obtain⟨v,h3,h4⟩:=h2
   refine⟨v,?_,hK v h4⟩
   show qN ty a C eA HA=some v
   rw[zwf,jD he h1,sA];exact fP ho.le h3
 case nilCheck x=>
  unfold tNil at h;split at h
  ·rename_i p hp
   refine⟨_,?_,hKA _ _ h⟩
   show z0p x C eA HA=_
   rw[z29 (zbs ha hp)];rfl
  ·rw[lE]at h
   obtain⟨u,h1,h2⟩:=h
   rw[lP]at h2;obtain⟨v,h3,h4⟩:=h2
   refine⟨v,?_,hK v h4⟩
   show z0p x C eA HA=_
   rw[z29 (jD he h1)];exact h3
 case binOp op ty x y u=>
  unfold tBin at h;rw[kC]at h;split at h
  ·exact xN he (.inl rfl) h hKd
  ·simp only[lE,lP]at h
   obtain⟨a,h1,b,h2,v,h3,h4⟩:=h
   refine⟨v,?_,hK v h4⟩
   show bK op ty x y C eA HA=_
   rw[lBin_v (jD he h1) (jD he h2)];exact h3
 case unOp o ty x=>
  split at h
  ·simp only[lE,lP]at h
   obtain⟨u,h1,v,h2,h3⟩:=h
   refine⟨v,?_,hK v h3⟩
   show lUn .xor x C eA HA=_
   unfold lUn;rw[jD he h1];exact h2
  ·exact xN he (.inl rfl) h hKd
 case convert s d x=>
  unfold z4p at h;rw[kC]at h;split at h
  ·rename_i hd
   rw[kC]at h;split at h
   ·rename_i hs
    exact xN he (.inr (.inl ⟨s,d,x,rfl,.inr (wC.1 hs)⟩)) h hKd
   ·simp only[lE,oU]at h
    obtain⟨u,h1,v,h2,h3⟩:=h
    refine⟨v,?_,hK v h3⟩
    show nL s d x C eA HA=_
    rw[zwi (jD he h1)];exact zpp ho.le h2
  ·rw[kC]at h
   split at h
   ·rename_i hd
    exact xN he (.inr (.inl ⟨s,d,x,rfl,.inl (wC.1 hd)⟩)) h hKd
   ·cases h
 case makeInterface ty x=>exact xN he (.inl rfl) h hKd
 case makeFunc fn a b=>exact xN he (.inl rfl) h hKd
 case slice ty x lo' hi mx=>
  cases mx with
  | some _=>cases h
  | none=>
   simp only[z2j,lE]at h;obtain⟨a,h1,l,h2,r,h3,h4⟩:=h
   rw[kC]at h4;show ∃v,sR ty x lo' hi C eA HA=some v/\R v
   rw[z0o (jD he h1) (zoz he h2) (zoz he h3)]
   split at h4
   ·rename_i ht
    rw[lP]at h4;obtain⟨v,h5,h6⟩:=h4
    exact⟨v,zt1 (wC.1 ht) h5,hK v h6⟩
   ·rw[oU]at h4
    obtain⟨v,h5,h6⟩:=h4
    exact⟨v,aY ho.le h5,hK v h6⟩
 case fieldAddr s x f=>
  unfold zel at h;show ∃v,xP s x f C eA HA=some v/\R v
  split at h
  ·rename_i p hp
   rw[lE]at h;obtain⟨o,h1,h2⟩:=h
   refine⟨_,?_,hKA _ _ h2⟩
   rw[za4 (zbs ha hp)]
   unfold uC;rw[h1];rfl
  ·simp only[lE,lP]at h
   obtain⟨u,h1,v,h2,h3⟩:=h
   refine⟨v,?_,hK v h3⟩
   rw[za4 (jD he h1)];exact h2
 case field ty x f=>exact xN he (.inl rfl) h hKd
 case indexAddr ty x i=>
  unfold zek at h;show ∃v,zP ty x i C eA HA=some v/\R v
  split at h
  ·rename_i p hp
   simp only[lE]at h;obtain⟨iv,h1,n,h2,o,h3,h4⟩:=h
   refine⟨_,?_,hKA _ _ h4⟩
   rw[za3 (zbs ha hp) (jD he h1)]
   unfold zm5 at h3;simp only[mA,mB]at h3;obtain⟨y,g1,a,g2,et,g3,g4,g5⟩:=h3
   cases g5
   unfold xB;rw[g1,sA,h2,sA];simp only[zA.asSlice,zA.asPtr,sA];rw[g2,sA,g3,sA,g4];rfl
  ·simp only[lE,lP]at h
   obtain⟨u,h1,w,h2,v,h3,h4⟩:=h
   refine⟨v,?_,hK v h4⟩
   rw[za3 (jD he h1) (jD he h2)];exact h3
 case index ty x i=>
  rw[kC]at h;split at h
  ·exact xN he (.inl rfl) h hKd
  ·simp only[lE,lP]at h
   obtain⟨u,h1,w,h2,v,h3,h4⟩:=h
   refine⟨v,?_,hK v h4⟩
   show yP ty x i C eA HA=_
   rw[z0q (jD he h1) (jD he h2)];exact h3
 case lookup ty x i ok=>
  simp only[lE,oU]at h;obtain⟨m,h1,key,h2,v,h3,h4⟩:=h
  refine⟨v,?_,hK v h4⟩
  show aO ty x i ok C eA HA=_
  rw[zwe (jD he h1) (jD he h2)];exact zhs ho.le h3
 case extract x i=>
  simp only[lE,lP]at h;obtain⟨u,h1,v,h2,h3⟩:=h
  refine⟨v,?_,hK v h3⟩
  show wP x i C eA HA=_
  rw[zqt (jD he h1)];exact h2
 case typeAssert x a u ok=>
  simp only[lE,lP]at h;obtain⟨w,h1,v,h2,h3⟩:=h
  refine⟨v,?_,hK v h3⟩
  show vP x u ok C eA HA=_
  rw[zwk (jD he h1)];exact h2
 case build ty ps=>
  unfold z2l at h;simp only[lE,vM]at h;obtain⟨y,h1,hbd,vs,h2,q,h3,l,h4,h5⟩:=h
  have h5:if pB zA.one q.2=true then qA C.base W J (k.Kd (.agg l)) t Q else False:=h5
  split at h5
  ·rename_i hone
   refine⟨_,?_,hKd _ h5⟩
   show wQ ty ps C eA HA=_
   have hf:=zq6 (ze2 C y) vs h3 hone y.zero l h4
   unfold wQ;rw[h1,sA,zha he h2,sA]
   cases hs:y.desc.asStruct with
   | some fs=>
    simp only[];have:(fun i=>ob (qD fs i) fun x=>some (x.1,x.2.2))=ze2 C y:=by funext i;unfold ze2;rw[hs]
    rw[this,hf];rfl
   | none=>
    simp only[];unfold zj2 at hbd;rw[hs]at hbd;simp only[]at hbd
    cases ha:y.desc.asArr with
    | none=>rw[ha]at hbd;cases hbd
    | some a=>
     rw[ha]at hbd;simp only[]at hbd
     cases hy:C.tys.get a.2 with
     | none=>rw[hy]at hbd;cases hbd
     | some et=>
      simp only[sA];have:(fun i=>some (i*et.size,et.size))=ze2 C y:=by funext i;unfold ze2;rw[hs];simp only[];rw[ha,sA,hy,sA]
      rw[hy,sA,this,hf];rfl
  ·exact h5.elim
 case call c=>
  split at h
  ·rename_i b hb
   cases b<;>simp only[xW]at h<;>try (cases h;done)
   case len=>
    unfold tLen at h;simp only[lE]at h;obtain⟨ty,h1,x,h2,u,h3,h4⟩:=h
    show ∃v,(wO c c.callee).f C eA HA=some v/\R v
    rw[hb];show ∃v,zoi c C eA HA=some v/\R v
    rw[lLen_v h1 h2 (jD he h3)]
    rw[kC]at h4;split at h4
    ·rename_i ht
     rw[lP]at h4;obtain⟨v,h5,h6⟩:=h4
     exact⟨v,zsg (wC.1 ht) h5,hK v h6⟩
    ·rw[kC]at h4
     split at h4
     ·rw[oU]at h4
      obtain⟨v,h5,h6⟩:=h4
      exact⟨v,zsf ho.le h5,hK v h6⟩
     ·rename_i ht
      rw[lE]at h4;obtain⟨v,h5,h6⟩:=h4
      exact⟨v,zwv (fun e=>ht (wC.2 e)) h5,hKd v h6⟩
   case max=>exact xN he (.inr (.inr ⟨c,rfl,.inl hb⟩)) h hKd
   case min=>exact xN he (.inr (.inr ⟨c,rfl,.inr hb⟩)) h hKd
  ·cases h
end
end Go.Am
namespace Go.Am
open Go Go.RowKit
def zmj(C:iA)(A:Tr jF)(f:Nat)(args:List zA)(H:pA):lB:=
 match C.prims.get f with
 | some g=>ob (g args H) fun v=>some (v,H)
 | none=>xF C A f args H
def iC (base:Nat)(X0:Xt)(Q:kB)(d:lB):Prop:=∃v t' HA' X',d=some (v,HA')/\Ov base t' X' HA'/\XLe X0 X'/\Q v t'
theorem iC.mono{base:Nat}{X0:Xt}{Q Q':kB}{d:lB}(h:iC base X0 Q d)(k:∀v t,Q v t->Q' v t):iC base X0 Q' d:=by
 obtain⟨v,t',HA',X',h1,h2,h3,h4⟩:=h
 exact⟨v,t',HA',X',h1,h2,h3,k _ _ h4⟩
def kR(C:iA)(A:Tr jF)(W:aH):Prop:=∀f args t R,W f args t R->∀X HA,Ov C.base t X HA->iC C.base X R (zmj C A f args HA)
section
variable {W J:aH}{t:Tr lA}{X X0:Xt}{HA:pA}{e eA:xD}{C:iA}{A:Tr jF}{ν:Nat->Nat}{ae:zkg}{lo:Tr (List zA)}{k:KOp}{kl:KLo}{Q:kB}
theorem qJ{f:LOp}{H:pA}{v:zA}(h:f C e H=some v):lv f C e H=.val v H:=by unfold lv;rw[h]
theorem zyg{op:Op}{H:pA}{v:zA}(h:(kF op).f C e H=some v):(bE op).f C e H=.val v H:=by
 cases op
 case move x=>exact qJ h
 case assign x=>exact qJ h
 case pick c a b=>exact qJ h
 case load t a=>exact qJ h
 case nilCheck x=>exact qJ h
 case binOp op t x y u=>exact qJ h
 case unOp op t x=>exact qJ h
 case makeInterface t x=>exact qJ h
 case makeFunc fn a b=>exact qJ h
 case slice t x lo hi mx=>exact qJ h
 case fieldAddr s x f=>exact qJ h
 case field t x f=>exact qJ h
 case indexAddr t x i=>exact qJ h
 case index t x i=>exact qJ h
 case extract t i=>exact qJ h
 case build t ps=>exact qJ h
 case typeAssert x t u ok=>exact qJ h
 case lookup t x i ok=>exact qJ h
 case convert s d x=>
  show tQ s d x C e H=_
  have h:nL s d x C e H=some v:=h
  unfold tQ;rw[h]
 case call c=>
  have h:(wO c c.callee).f C e H=some v:=h
  show(qV c c.callee).f C e H=_
  cases hc:c.callee with
  | value f=>rw[hc]at h;cases h
  | invoke a b=>rw[hc]at h;cases h
  | builtin b=>
   rw[hc]at h
   cases b
   case len=>exact qJ (f:=zoi c) h
   case max=>exact qJ (f:=zwd c) h
   case min=>exact qJ (f:=zwb c) h
   all_goals exact absurd (show(none:Option zA)=some v from h) (by simp)
 all_goals exact absurd (show(none:Option zA)=some v from h) (by simp)
theorem zS{x:Option (zA × pA)}{v:zA}{H':pA}{kd:zA->pA->lB}{φ:Ora}(h:x=some (v,H')):oG φ (eK x) HA kd=kd v H':=by subst h;rfl
theorem uQ(ho:Ov C.base t X HA){x:pA->Option (zA × pA)}(hx:zyy C.base x){K:zA->T}(h:qA C.base W J (.heavy x K) t Q){kd:zA->pA->lB}{φ:Ora}
  (hK:∀v t' HA' X',Ov C.base t' X' HA'->XLe X X'->qA C.base W J (K v) t' Q->iC C.base X0 Q (kd v HA')) {r:bJ} (hr:∀p,x HA=some p->oG φ r HA kd=kd p.1 p.2):iC C.base X0 Q (oG φ r HA kd):=by
 have h:=h HA.next ho.nextT ho.base
 rw[uR]at h;obtain⟨⟨v,H'⟩,h1,h2⟩:=h
 obtain⟨HA',h3,h4⟩:=hx _ _ _ _ _ ho h1
 rw[hr _ h3];exact hK v _ _ _ h4 (XLe.refl _) h2
theorem z7e(hW:kR C A W)(ho:Ov C.base t X HA){f:Nat}{args:List zA}{K:zA->T}(h:W f args t fun v t'=>qA C.base W J (K v) t' Q){kd:zA->pA->lB}
  (hK:∀v t' HA' X',Ov C.base t' X' HA'->XLe X X'->qA C.base W J (K v) t' Q->iC C.base X0 Q (kd v HA')):iC C.base X0 Q (oG (xF C A) (zdo C HA args f (C.prims.get f)) HA kd):=by
 obtain⟨v,t',HA',X',h1,h2,h3,h4⟩:=hW _ _ _ _ h X HA ho
 unfold zmj at h1;unfold zdo
 cases hp:C.prims.get f with
 | some g=>
  rw[hp]at h1;simp only[mA]at h1;obtain⟨u,g1,g2⟩:=h1
  cases g2
  simp only[g1];exact hK _ _ _ _ h2 h3 h4
 | none=>
  rw[hp]at h1;have h1:xF C A f args HA=some (v,HA'):=h1
  show iC C.base X0 Q (ob (xF C A f args HA) fun p=>kd p.1 p.2)
  rw[h1];exact hK _ _ _ _ h2 h3 h4
theorem Ov.setX{base:Nat}(h:Ov base t X HA){b:Nat}{y:lA}(hb:X b=some y)(z:lA):Ov base t (fun c=>if c=b then some z else X c) (Am.setBlk HA b z):=by
 obtain⟨g1,g2,g3⟩:=h.ext b y hb
 refine⟨h.base,fun c hc=>?_,fun c u hc=>?_,h.lt⟩
 ·split at hc
  ·cases hc
  ·rename_i hne
   show(HA.t.set b z).get c=_
   rw[Tr.get_set,if_neg hne];exact h.same c hc
 ·show(HA.t.set b z).get c=_/\_/\c<HA.next
  rw[Tr.get_set];split at hc
  ·rename_i e;cases hc;subst e;rw[if_pos rfl];exact⟨rfl,g2,g3⟩
  ·rename_i hne;rw[if_neg hne];exact h.ext c u hc
theorem Ov.newX{base:Nat}(h:Ov base t X HA)(z:lA):Ov base t (fun c=>if c=HA.next then some z else X c) (Am.newBlk HA z):=by
 refine⟨Nat.le_succ_of_le h.base,fun c hc=>?_,fun c u hc=>?_,fun b y hb=>Nat.lt_succ_of_lt (h.lt b y hb)⟩
 ·split at hc
  ·cases hc
  ·rename_i hne
   show(HA.t.set HA.next z).get c=_
   rw[Tr.get_set,if_neg hne];exact h.same c hc
 ·show(HA.t.set HA.next z).get c=_/\_/\c<HA.next+1
  rw[Tr.get_set];split at hc
  ·rename_i e;cases hc;subst e;rw[if_pos rfl];exact⟨rfl,h.nextT,Nat.lt_succ_self _⟩
  ·rename_i hne;rw[if_neg hne];have:=h.ext c u hc;exact⟨this.1,this.2.1,Nat.lt_succ_of_lt this.2.2⟩
theorem zvp(ho:Ov C.base t X HA)(hl:zyq C.base X0 X ν lo){d off:Nat}{l l':List zA}{u:zA}{sz:Nat}(h1:lo.get d=some l)(h2:wU l off sz u=some l')(h3:pB zA.one u.cells=true) :
  Nat.beq (wB u.cells) sz=true/\l'.length=l.length/\∃c',iK C HA (ν d) off u.cells=some (setBlk HA (ν d) (.cells c' l.length none))/\∀j a,l'[j]?=some a->c'.get j=some a:=by
 obtain⟨_,hb,c,hc,hg⟩:=hl d l h1
 have hx:=(ho.ext _ _ hc).1
 unfold wU at h2;simp only[mB,yac,oE,fD,dH,uS,xO,Option.some.injEq]at h2;obtain⟨⟨g1,g2⟩,g3⟩:=h2
 subst g3;refine⟨by rw[fD];exact g1,?_,c.setMany u.cells off,?_,?_⟩
 ·simp;omega
 ·unfold iK
  have n1:(!Nat.blt (ν d) C.base)=true:=by
   cases hq:Nat.blt (ν d) C.base with
   | true=>have:=oC.1 hq;omega
   | false=>rfl
  rw[n1];unfold rD;rw[hx];simp only[mB,sA,lA.asCells,yac,oE,fD];exact⟨trivial,⟨g2,h3⟩,trivial⟩
 ·intro j a hj
  rw[Tr.get_setMany];split
  ·rename_i hh
   rw[yaq (by simp;omega)]at hj
   rw[ybp (by simp;omega)]at hj
   rw[<- hj];congr 1
   simp;omega
  ·rename_i hh
   refine hg j a ?_
   by_cases hlt:j<off
   ·rw[ybp (by simp;omega)]at hj
    rw[ycg,if_pos hlt]at hj;exact hj
   ·rw[yaq (by simp;omega),yaq (by simp;omega)]at hj
    rw[ycf]at hj;rw[<- hj];congr 1
    simp;omega
theorem zx1{y:wD}{u:zA}(h:pB zA.one (zfo y u)=true):zfo y u=u.cells:=by
 unfold zfo at h ⊢
 rw[kC]at h ⊢
 split
 ·rfl
 ·rename_i e
  rw[if_neg e,mF]at h;rw[lW (by simpa using h)]
theorem zqd{op:Op}{v:zA}{kd:zA->pA->lB}{φ:Ora}(h:(kF op).f C eA HA=some v):oG φ ((bE op).f C eA HA) HA kd=kd v HA:=by rw[zyg h];rfl
theorem zv7{la:List Nat}{dst:Option Nat}{d:Nat}(h:laOf la dst=some d):dst=some d:=by
 unfold laOf at h
 cases dst with
 | none=>cases h
 | some x=>simp only[kC]at h;split at h<;>cases h;rfl
theorem tH_ok(hW:kR C A W)(he:pO e eA)(ha:cV ν ae eA)(ho:Ov C.base t X HA)(hl:zyq C.base X0 X ν lo){la:List Nat}{dst:Option Nat}{op:Op}
  (h:qA C.base W J (tH C la dst op e ae lo k kl) t Q) {kd:zA->pA->lB}
  (hK:∀v t' HA' X',Ov C.base t' X' HA'->XLe X X'->qA C.base W J (k.K v) t' Q->iC C.base X0 Q (kd v HA'))
  (hKd:∀v t' HA' X',Ov C.base t' X' HA'->XLe X X'->qA C.base W J (k.Kd v) t' Q->iC C.base X0 Q (kd v HA'))
  (hKA:∀d off,qA C.base W J (k.KA d off) t Q->iC C.base X0 Q (kd (.ptr (ν d) off) HA))
  (hnew:∀d l,laOf la dst=some d->qA C.base W J (kl.new d l) t Q->iC C.base X0 Q (kd (.ptr HA.next 0) (nF HA l none)))
  (hset:∀d l l' c',lo.get d=some l->l'.length=l.length->(∀j a,l'[j]?=some a->c'.get j=some a)->qA C.base W J (kl.set d l') t Q->iC C.base X0 Q (kd tE (setBlk HA (ν d) (.cells c' l.length none)))) :
  iC C.base X0 Q (oG (xF C A) ((bE op).f C eA HA) HA kd):=by
 have light:∀(op:Op),qA C.base W J (tL C op e ae lo k) t Q->iC C.base X0 Q (oG (xF C A) ((bE op).f C eA HA) HA kd):=by
  intro op h;obtain⟨v,h1,h2⟩:=z4o (R:=fun v=>iC C.base X0 Q (kd v HA)) he ha ho hl h (fun v h=>hK v _ _ _ ho (XLe.refl _) h) (fun v h=>hKd v _ _ _ ho (XLe.refl _) h) hKA
  rw[zqd h1];exact h2
 cases op<;>simp only[tH]at h<;>try (exact light _ h)
 case alloc ty=>
  show iC C.base X0 Q (oG _ (zda ty C eA HA) HA kd)
  split at h
  ·rename_i d hd
   rw[lE]at h;obtain⟨y,h1,h2⟩:=h
   unfold zda;rw[h1];exact hnew d _ hd h2
  ·refine uQ ho zsi h hK fun p hp=>?_
   unfold zda;unfold jK at hp;rw[hp];rfl
 case box ty x=>
  rw[lE]at h;obtain⟨v,h1,h⟩:=h
  show iC C.base X0 Q (oG _ (z03 x C eA HA) HA kd)
  unfold z03;rw[jD he h1];split at h
  ·rename_i d hd
   rw[lE]at h;obtain⟨y,_,h⟩:=h
   rw[kC]at h;split at h
   ·exact hnew d _ hd h
   ·have h:if zA.one v=true then qA C.base W J (kl.new d [v]) t Q else False:=h
    split at h
    ·rename_i h1
     have:=hnew d _ hd h
     rw[<- lW h1]at this;exact this
    ·exact h.elim
  ·refine uQ ho z4i h hK fun p hp=>?_
   cases hp;rfl
 case buildSlice ty n ps=>
  rw[lE]at h;obtain⟨vs,h1,h⟩:=h
  show iC C.base X0 Q (oG _ (pS ty n ps C eA HA) HA kd)
  refine uQ ho zd0 h hK fun p hp=>?_
  refine zS (v:=p.1) (H':=p.2) ?_
  rw[zha he h1];exact hp
 case makeMap ty r=>
  cases r with
  | some _=>simp only[]at h;exact light _ h
  | none=>
   simp only[]at h;show iC C.base X0 Q (oG _ (aW none C eA HA) HA kd)
   refine uQ ho zkn h hK fun p hp=>?_
   cases hp;rfl
 case makeSlice ty l c=>
  simp only[lE]at h;obtain⟨a,h1,b,h2,h⟩:=h
  show iC C.base X0 Q (oG _ (zas ty l c C eA HA) HA kd)
  refine uQ ho zfx h hK fun p hp=>?_
  refine zS (v:=p.1) (H':=p.2) ?_
  rw[jD he h1,jD he h2];unfold uL at hp
  cases hx:C.tys.get ty with
  | none=>rw[hx]at hp;cases hp
  | some y=>
   rw[hx]at hp;simp only[sA]at hp ⊢
   exact hp
 case store ty a x=>
  unfold z2i at h;show iC C.base X0 Q (oG _ (zos ty a x C eA HA) HA kd)
  split at h
  ·rename_i p hp
   simp only[lE]at h;obtain⟨u,h1,y,h2,l,h3,l',h4,h5⟩:=h
   have h5:if pB zA.one (zfo y u)=true then qA C.base W J (kl.set p.1 l') t Q else False:=h5
   split at h5
   ·rename_i hone
    have hcell:=zx1 hone
    rw[hcell]at hone h4;have h4:wU l p.2 y.size u=some l':=h4
    obtain⟨g1,g2,c',g3,g4⟩:=zvp ho hl h3 h4 hone
    have:=hset p.1 l l' c' h3 g2 g4 h5
    have e1:oG (xF C A) (zos ty a x C eA HA) HA kd=kd tE (setBlk HA (ν p.1) (.cells c' l.length none)):=by
     refine zS ?_
     rw[h2,sA,zbs ha hp,sA];simp only[zA.asPtr,sA];rw[jD he h1,sA,g1,g3];rfl
    rw[e1];exact this
   ·exact h5.elim
  ·simp only[lE]at h
   obtain⟨av,h1,u,h2,h⟩:=h
   refine uQ ho zse h hKd fun p hp=>?_
   refine zS (v:=p.1) (H':=p.2) ?_
   rw[jD he h1];unfold lD at hp
   cases hx:C.tys.get ty with
   | none=>rw[hx]at hp;cases hp
   | some y=>
    rw[hx]at hp;simp only[sA]at hp ⊢
    rw[jD he h2];exact hp
 case convert s d x=>
  rw[kC]at h;split at h
  ·rename_i hd
   rw[lE]at h;obtain⟨u,h1,h⟩:=h
   show iC C.base X0 Q (oG _ (tQ s d x C eA HA) HA kd)
   have hn:nL s d x C eA HA=none:=by
    rw[zwi (jD he h1)]
    cases hq:tM C s d HA u with
    | none=>rfl
    | some q=>
     exfalso
     unfold tM at hq;simp only[mA]at hq;obtain⟨sy,g1,dy,g2,g3⟩:=hq
     have hd:=wC.1 hd
     unfold yH at hd;rw[g2]at hd;have hd:dy.desc.tag=4:=hd
     unfold lN at g3;have n1:dy.desc.asInt=none:=by cases hz:dy.desc<;>rw[hz]at hd<;>first | rfl | (cases hd;done)
     have n2:dy.desc.isString=false:=by unfold mE.isString;rw[hd];rfl
     rw[n1,n2]at g3
     cases g3
   unfold tQ;rw[hn];simp only[];refine uQ ho zkm h hK fun p hp=>?_
   refine zS (v:=p.1) (H':=p.2) ?_
   rw[jD he h1];exact hp
  ·exact light _ (by simpa only[tL]using h)
 case insert ty m key x=>
  simp only[lE]at h;obtain⟨mv,h1,kv,h2,u,h3,h⟩:=h
  show iC C.base X0 Q (oG _ (rV ty m key x C eA HA) HA kd)
  refine uQ ho zeg h hKd fun p hp=>?_
  refine zS (v:=p.1) (H':=p.2) ?_
  rw[jD he h1,jD he h2,jD he h3];exact hp
 case mapUpdate ty m key x=>
  simp only[lE]at h;obtain⟨mv,h1,kv,h2,u,h3,h⟩:=h
  show iC C.base X0 Q (oG _ (rV ty m key x C eA HA) HA kd)
  refine uQ ho zeg h hKd fun p hp=>?_
  refine zS (v:=p.1) (H':=p.2) ?_
  rw[jD he h1,jD he h2,jD he h3];exact hp
 case call c=>
  show iC C.base X0 Q (oG _ ((qV c c.callee).f C eA HA) HA kd)
  split at h
  ·rename_i f hc
   rw[hc];show iC C.base X0 Q (oG _ (zc9 f c.args C eA HA) HA kd)
   have fC:∀ {fv:zA} {as:List zA},ev f e=some fv->evs c.args.toList e=some as->qA C.base W J (.callv fv as k.K) t Q->iC C.base X0 Q (oG (xF C A) (zc9 f c.args C eA HA) HA kd):=by
    intro fv as h1 h2 h;have h:sG (wM fv as) fun p=>W p.1 p.2 t fun v t'=>qA C.base W J (k.K v) t' Q:=h
    rw[uR]at h;obtain⟨⟨g,as'⟩,h3,h4⟩:=h
    unfold wM at h3;rw[mA]at h3;obtain⟨p,h5,h6⟩:=h3
    have e1:zc9 f c.args C eA HA=zdo C HA as' g (C.prims.get g):=by
     unfold zc9 gO;rw[jD he h1,sA,h5,sA,zg9 he h2,sA,sA]
     cases hp:p.1 with
     | func g'=>rw[hp]at h6;cases h6;rfl
     | yld l=>rw[hp]at h6;cases h6
    rw[e1];exact z7e hW ho h4 hK
   unfold z2k at h;split at h
   ·rename_i g
    rw[lE]at h;obtain⟨as,h1,h⟩:=h
    refine fC (fv:=.func (.func g) [] []) rfl h1 ?_
    show sG (wM (.func (.func g) [] []) as) _
    have e2:wM (.func (.func g) [] []) as=some (g,as):=by
     show some (g,iF (iF [] as) [])=_
     rw[dH,dH];simp
    rw[e2];exact h
   ·simp only[lE]at h
    obtain⟨fv,h1,as,h2,h⟩:=h
    exact fC h1 h2 h
  ·rename_i b hb
   rw[hb];have lt:qA C.base W J (xW C c e k b) t Q->iC C.base X0 Q (oG (xF C A) ((qV c (.builtin b)).f C eA HA) HA kd):=by
    intro h;have:=light (.call c) (by show qA C.base W J (match c.callee with | .builtin b=>xW C c e k b | _=>.fail) t Q;rw[hb];exact h)
    have e1:(bE (.call c)).f C eA HA=(qV c c.callee).f C eA HA:=rfl
    rw[e1,hb]at this;exact this
   unfold zh0 at h;split at h
   ·simp only[lE,two']at h
    obtain⟨ty,h1,u,h2,p,h3,h⟩:=h
    show iC C.base X0 Q (oG _ (pV c C eA HA) HA kd)
    refine uQ ho zpq h hK fun q hq=>?_
    refine zS (v:=q.1) (H':=q.2) ?_
    rw[h1,sA];unfold iD at hq;simp only[mA,mB]at hq ⊢
    obtain⟨y,g1,z,g2,g3,g4⟩:=hq
    exact⟨y,g1,u,h2,z,g2,g3,p,zf0 he h3,g4⟩
   ·exact lt h
  ·cases h
end
end Go.Am
namespace Go.Am
open Go Go.RowKit
structure cF (base:Nat) (X0:Xt) (kf:Nat) (ν:Nat->Nat) (X:Xt) (st:TSt) (tm:Tm) (HA:pA) (t:Tr lA):Prop where
 ov:Ov base t X HA
 le:XLe X0 X
 k:st.tm.k=kf
 kA:tm.k=kf
 tms:∀i v,st.tm.get i=some v->tm.get i=some v
 ads:∀i p,wI i st.ad=some p->tm.get i=some (.ptr (ν p.1) p.2)
 lo:zyq base X0 X ν st.lo
 inj:∀d d' l l',st.lo.get d=some l->st.lo.get d'=some l'->ν d=ν d'->d=d'
theorem xT{i:Nat}{a:Nat × Nat × Nat}{l:List (Nat × Nat × Nat)}:wI i (a::l)=if i=a.1 then some a.2 else wI i l:=by
 show Bool.rec (motive:=fun _=>Option (Nat × Nat)) (wI i l) (some a.2) (Nat.beq i a.1)=_
 rw[jH];simp only[wC]
theorem zyk{i:Nat}{p:Nat × Nat}:∀ {l:List (Nat × Nat × Nat)},wI i l=some p->(i,p.1,p.2)∈l:=by
 intro l;induction l with
 | nil=>intro h;cases h
 | cons a l ih=>
  intro h;rw[xT]at h;split at h
  ·rename_i e;cases h;rw[e];exact yaz
  ·exact yas _ (ih h)
theorem zuw{n:Nat}{tm:Tm}{dst:Option Nat}{v:zA}:(putA n tm dst v).k=tm.k:=by
 unfold putA putB
 cases dst with
 | none=>rfl
 | some d=>
  simp only[zz2,kC];split
  ·unfold Tm.set;rw[jH];split<;>rfl
  ·rfl
theorem Tm.set_k{tm:Tm}{i:Nat}{v:zA}:(tm.set i v).k=tm.k:=by unfold Tm.set;rw[jH];split<;>rfl
section
variable {W J:aH}{t:Tr lA}{X X0:Xt}{HA:pA}{C:iA}{A:Tr jF}{ν:Nat->Nat}{Q:kB}{kf n:Nat}{st:TSt}{tm:Tm}
theorem cF.put(h:cF C.base X0 kf ν X st tm HA t){dst:Option Nat}{v:zA}{lt:Bool}{κ:KT}(hw:qA C.base W J (zpz n dst v lt st κ) t Q) :
  ∃st',cF C.base X0 kf ν X st' (putA n tm dst v) HA t/\qA C.base W J (κ st') t Q:=by
 unfold zpz at hw
 cases dst with
 | none=>exact⟨st,h,hw⟩
 | some d=>
  simp only[kC]at hw;split at hw
  ·rename_i hd
   rw[vM]at hw;obtain⟨h1,h2⟩:=hw
   refine⟨_,?_,h2⟩
   refine⟨h.ov,h.le,(by show(st.tm.set d v).k=kf;rw[Tm.set_k];exact h.k),by rw[zuw];exact h.kA,?_,?_,h.lo,h.inj⟩
   ·intro i u hi
    have hi2:(st.tm.set d v).get i=some u:=hi
    rw[Tm.get_set]at hi2;rw[yI];split at hi2
    ·rename_i e;rw[if_pos ⟨by rw[e],by rw[e];exact oC.1 hd⟩];exact hi2
    ·rename_i e
     rw[if_neg (fun hh=>e (by injection hh.1 with e1;exact e1.symm))]
     exact h.tms i u hi2
   ·intro i p hi
    rw[yI,if_neg]
    ·exact h.ads i p hi
    ·rintro⟨e,_⟩
     injection e with e
     subst e;rw[hi]at h1
     cases h1
  ·rename_i hd
   refine⟨st,?_,hw⟩
   have:putA n tm (some d) v=tm:=by
    unfold putA putB;simp only[zz2,kC];rw[if_neg hd]
   rw[this];exact h
theorem cF.putA(h:cF C.base X0 kf ν X st tm HA t){dst:Option Nat}{d off:Nat}{κ:KT}(hw:qA C.base W J (z4n n dst d off st κ) t Q) :
  ∃st',cF C.base X0 kf ν X st' (Am.putA n tm dst (.ptr (ν d) off)) HA t/\qA C.base W J (κ st') t Q:=by
 unfold z4n at hw;rw[lE]at hw;obtain⟨i,h1,hw⟩:=hw
 subst h1;simp only[vM]at hw;obtain⟨h2,h3,h4⟩:=hw
 refine⟨_,?_,h4⟩
 refine⟨h.ov,h.le,h.k,by rw[zuw];exact h.kA,?_,?_,h.lo,h.inj⟩
 ·intro j u hj
  rw[yI,if_neg]
  ·exact h.tms j u hj
  ·rintro⟨e,_⟩
   injection e with e
   subst e;have hj:st.tm.get i=some u:=hj
   rw[hj]at h3
   cases h3
 ·intro j p hj
  have hj:wI j ((i,d,off)::st.ad)=some p:=hj
  rw[xT]at hj;rw[yI];split at hj
  ·rename_i e;cases hj;rw[if_pos ⟨by rw[e],by rw[e];exact oC.1 h2⟩]
  ·rename_i e
   rw[if_neg (fun hh=>e (by injection hh.1 with e1;exact e1.symm))]
   exact h.ads j p hj
theorem cF.new(h:cF C.base X0 kf ν X st tm HA t){d:Nat}{l:List zA}{κ:KT}(hw:qA C.base W J (tNew n d l st κ) t Q) :
  ∃st' ν' X',cF C.base X0 kf ν' X' st' (Am.putA n tm (some d) (.ptr HA.next 0)) (nF HA l none) t/\qA C.base W J (κ st') t Q:=by
 unfold tNew at hw;simp only[vM]at hw;obtain⟨h1,h2,h3,h4⟩:=hw
 have hx:=h.ov.nextX
 refine⟨_,fun c=>if c=d then HA.next else ν c,fun c=>if c=HA.next then some (.cells (Tr.ofList l) (wB l) none)else X c,?_,h4⟩
 refine⟨h.ov.newX _,?_,h.k,by rw[zuw];exact h.kA,?_,?_,?_,?_⟩
 ·intro b y hb
  have:X b=some y:=h.le b y hb
  show(if b=HA.next then _ else X b)=some y
  rw[if_neg,this];intro e;rw[e,hx]at this;cases this
 ·intro j u hj
  rw[yI,if_neg]
  ·exact h.tms j u hj
  ·rintro⟨e,_⟩
   injection e with e
   subst e;have hj:st.tm.get d=some u:=hj
   rw[hj]at h2
   cases h2
 ·intro j p hj
  have hj:wI j ((d,d,0)::st.ad)=some p:=hj
  rw[xT]at hj;rw[yI];split at hj
  ·rename_i e
   cases hj;rw[if_pos ⟨by rw[e],by rw[e];exact oC.1 h1⟩]
   show some (zA.ptr HA.next 0)=some (zA.ptr (if d=d then HA.next else ν d) 0)
   rw[if_pos rfl]
  ·rename_i e
   rw[if_neg (fun hh=>e (by injection hh.1 with e1;exact e1.symm))]
   have hm:=zyk hj
   unfold z24 at h3;rw[mF,ybc]at h3;have:=h3 _ hm
   simp only[kC]at this;have hne:p.1≠d:=by
    intro e2;rw[if_pos (wC.2 e2)]at this
    exact e (wC.1 this)
   show Tm.get tm j=some (zA.ptr (if p.1=d then HA.next else ν p.1) p.2)
   rw[if_neg hne];exact h.ads j p hj
 ·intro c m hc
  have hc:(st.lo.set d l).get c=some m:=hc
  rw[Tr.get_set]at hc;show X0 (if c=d then HA.next else ν c)=none/\C.base<=(if c=d then HA.next else ν c)/\∃c',(if (if c=d then HA.next else ν c)=HA.next then some (lA.cells (Tr.ofList l) (wB l) none)else X (if c=d then HA.next else ν c))=some (.cells c' m.length none)/\∀j a,m[j]?=some a->c'.get j=some a
  split at hc
  ·rename_i e
   cases hc;simp only[e,if_true];refine⟨?_,h.ov.base,Tr.ofList l,by rw[fD],fun j a hj=>by rw[Tr.get_ofList];exact hj⟩
   cases hq:X0 HA.next with
   | none=>rfl
   | some z=>have:=h.le _ _ hq;rw[hx]at this;cases this
  ·rename_i e
   simp only[if_neg e];obtain⟨g1,g2,c',g3,g4⟩:=h.lo c m hc
   refine⟨g1,g2,c',?_,g4⟩
   rw[if_neg,g3];intro e2;rw[e2,hx]at g3;cases g3
 ·intro c c' m m' hc hc' he
  have hc:(st.lo.set d l).get c=some m:=hc
  have hc':(st.lo.set d l).get c'=some m':=hc'
  have he:(if c=d then HA.next else ν c)=(if c'=d then HA.next else ν c'):=he
  rw[Tr.get_set]at hc hc'
  split at hc<;>split at hc'
  ·rename_i e1 e2;rw[e1,e2]
  ·rename_i e1 e2
   rw[if_pos e1,if_neg e2]at he;obtain⟨_,_,_,g3,_⟩:=h.lo c' m' hc'
   rw[<- he,hx]at g3;cases g3
  ·rename_i e1 e2
   rw[if_neg e1,if_pos e2]at he;obtain⟨_,_,_,g3,_⟩:=h.lo c m hc
   rw[he,hx]at g3;cases g3
  ·rename_i e1 e2
   rw[if_neg e1,if_neg e2]at he;exact h.inj c c' m m' hc hc' he
theorem cF.setLo(h:cF C.base X0 kf ν X st tm HA t){d:Nat}{l l':List zA}{c':Tr zA}(h1:st.lo.get d=some l)(h2:l'.length=l.length)(h3:∀j a,l'[j]?=some a->c'.get j=some a) :
  ∃X',cF C.base X0 kf ν X' ⟨st.tm,st.ad,st.lo.set d l',st.lit⟩ tm (setBlk HA (ν d) (.cells c' l.length none)) t:=by
 obtain⟨g1,g2,c,g3,g4⟩:=h.lo d l h1
 refine⟨_,h.ov.setX g3 _,?_,h.k,h.kA,h.tms,h.ads,?_,?_⟩
 ·intro b y hb
  show(if b=ν d then _ else X b)=some y
  rw[if_neg]
  ·exact h.le b y hb
  ·intro e;rw[e,g1]at hb;cases hb
 ·intro e m he
  have he:(st.lo.set d l').get e=some m:=he
  rw[Tr.get_set]at he;split at he
  ·rename_i e1
   cases he;subst e1;exact⟨g1,g2,c',by show(if ν e=ν e then _ else _)=_;rw[if_pos rfl,h2],h3⟩
  ·rename_i e1
   obtain⟨k1,k2,k3,k4,k5⟩:=h.lo e m he
   refine⟨k1,k2,k3,?_,k5⟩
   show(if ν e=ν d then _ else X (ν e))=_
   rw[if_neg,k4];intro e2;exact e1 (h.inj e d m l he h1 e2)
 ·intro e e' m m' he he' hv
  have he:(st.lo.set d l').get e=some m:=he
  have he':(st.lo.set d l').get e'=some m':=he'
  rw[Tr.get_set]at he he'
  have x1:∃q,st.lo.get e=some q:=by
   split at he
   ·rename_i e1;rw[e1];exact⟨l,h1⟩
   ·exact⟨m,he⟩
  have x2:∃q,st.lo.get e'=some q:=by
   split at he'
   ·rename_i e1;rw[e1];exact⟨l,h1⟩
   ·exact⟨m',he'⟩
  exact h.inj e e' _ _ x1.choose_spec x2.choose_spec hv
theorem cF.later(h:cF C.base X0 kf ν X st tm HA t){X':Xt}{HA':pA}{t':Tr lA}(ho:Ov C.base t' X' HA')(hx:XLe X X'):cF C.base X0 kf ν X' st tm HA' t':=
 ⟨ho,h.le.trans hx,h.k,h.kA,h.tms,h.ads,fun d l hd=>by
  obtain⟨g1,g2,c,g3,g4⟩:=h.lo d l hd
  exact⟨g1,g2,c,hx _ _ g3,g4⟩,h.inj⟩
theorem zbk{ty:Nat}{v:zA}(h:fitB C ty v=true):z1a C ty v:=by
 unfold fitB at h;unfold z1a
 cases hy:C.tys.get ty with
 | none=>trivial
 | some y=>
  rw[hy]at h;simp only at h ⊢
  unfold fitD
  cases hd:y.desc<;>rw[hd]at h<;>simp only at h ⊢
  case bool=>
   have:=wC.1 h
   cases v<;>simp only[zA.tag]at this<;>first
    | exact⟨_,rfl⟩
    | (cases this;done)
  case int k=>
   cases v<;>simp only[zA.asIntK]at h<;>first
    | exact⟨_,by rw[jJ.1 h]⟩
    | (cases h;done)
  case string=>
   have:=wC.1 h
   cases v<;>simp only[zA.tag]at this<;>first
    | exact⟨_,rfl⟩
    | (cases this;done)
theorem zg3{ty:Nat}{v:zA}(h:(!Nat.ble (yH C ty) 2)=true):z1a C ty v:=by
 unfold z1a;unfold yH at h
 cases hy:C.tys.get ty with
 | none=>trivial
 | some y=>
  rw[hy]at h;simp only at h ⊢
  unfold fitD
  cases hd:y.desc<;>rw[hd]at h<;>first
   | trivial
   | (simp only[mE.tag]at h;exact absurd h (by decide))
theorem zdb:∀(zs l:List zA) (pre:List zA),jM zs l=true->mM zs (cellsOf (pre++l)) pre.length=l:=by
 intro zs;induction zs with
 | nil=>intro l pre h;cases l with
  | nil=>rfl
  | cons a l=>cases h
 | cons z zs ih=>
  intro l pre h
  cases l with
  | nil=>cases h
  | cons a l=>
   unfold jM at h;rw[yac]at h;show ziu z (cellsOf (pre++a::l)) pre.length::mM zs (cellsOf (pre++a::l)) (pre.length+1)=a::l
   have e2:=ih l (pre++[a]) h.2
   rw[yba]at e2;simp only[List.cons_append,List.nil_append,yah,yao,yay]at e2;rw[e2];congr 1
   have hg:(pre++a::l)[pre.length]?=some a:=by simp
   have h1:=h.1
   cases z<;>simp only[mG]at h1<;>simp only[ziu,cellsOf,lF,bF,iG,sF,hg]<;>try (cases h1;done)
   case bool=>
    have:=wC.1 h1
    cases a<;>simp only[zA.tag]at this<;>first
     | rfl
     | (cases this;done)
   case int k _=>
    cases a<;>simp only[zA.asIntK]at h1<;>first
     | (rw[jJ.1 h1];done)
     | (cases h1;done)
   case str=>
    have:=wC.1 h1
    cases a<;>simp only[zA.tag]at this<;>first
     | rfl
     | (cases this;done)
theorem zne{ty:Nat}{v:zA}{K:zA->T}(h:qA C.base W J (zs4 C ty v K) t Q):z1a C ty v/\qA C.base W J (K v) t Q:=by
 unfold zs4 at h;unfold z1a;have agg:∀zs,qA C.base W J (bif Nat.ble (wB zs) 40 then .asG zs v fun X=>K (.agg (mM zs X 0))else K v) t Q->qA C.base W J (K v) t Q:=by
  intro zs h;rw[kC]at h;split at h
  ·have h:sG (wG zs v) fun X=>qA C.base W J (K (.agg (mM zs X 0))) t Q:=h
   rw[uR]at h;obtain⟨X,h1,h2⟩:=h
   unfold wG at h1;simp only[mA,mB]at h1;obtain⟨l,h3,h4,h5⟩:=h1
   cases h5;have:=zdb zs l [] h4
   simp only[List.nil_append,yay]at this;rw[this]at h2;rw[oX.1 h3];exact h2
  ·exact h
 cases hy:C.tys.get ty with
 | none=>rw[hy]at h;exact⟨trivial,h⟩
 | some y=>
  rw[hy]at h;simp only at h ⊢
  unfold fitD
  cases hd:y.desc<;>rw[hd]at h<;>simp only at h ⊢
  case bool=>
   have h:sG v.asBool fun n=>qA C.base W J (K (.bool n)) t Q:=h
   rw[uR]at h;obtain⟨b,h1,h2⟩:=h
   rw[eS.1 h1];exact⟨⟨b,rfl⟩,h2⟩
  case int k=>
   have h:sG (zyw k v) fun n=>qA C.base W J (K (.int k n)) t Q:=h
   rw[uR]at h;obtain⟨b,h1,h2⟩:=h
   unfold zyw at h1;simp only[mA,mB]at h1;obtain⟨p,h3,h4,h5⟩:=h1
   cases h5;rw[bM.1 h3,jJ.1 h4];exact⟨⟨_,rfl⟩,h2⟩
  case string=>
   have h:sG v.asStr fun n=>qA C.base W J (K (.str n)) t Q:=h
   rw[uR]at h;obtain⟨b,h1,h2⟩:=h
   rw[jN.1 h1];exact⟨⟨b,rfl⟩,h2⟩
  all_goals first
   | exact⟨trivial,agg _ h⟩
   | exact⟨trivial,h⟩
theorem iX{g lt:Bool}{v:zA}{K:zA->Bool->T}(h:qA C.base W J (zej g lt v K) t Q):∃lt',qA C.base W J (K v lt') t Q:=by
 unfold zej at h
 cases g with
 | false=>exact⟨lt,h⟩
 | true=>
  cases lt with
  | true=>exact⟨true,h⟩
  | false=>
   simp only[cond_true,cond_false]at h;rw[lE]at h;obtain⟨b,h1,h2⟩:=h
   rw[eS.1 h1];have h2:if b=true then qA C.base W J (K (.bool true) true) t Q else qA C.base W J (K (.bool false) true) t Q:=h2
   cases b with
   | true=>exact⟨true,h2⟩
   | false=>exact⟨true,h2⟩
theorem zfu(h:cF C.base X0 kf ν X st tm HA t){g:Option (Nat × Bool)}{all:Array Oper}{w:Bool}(hw:pF g all st.tm=some w):pF g all tm=some w:=by
 unfold pF zr8 at hw ⊢
 cases g with
 | none=>exact hw
 | some jw=>
  simp only[zhm]at hw ⊢
  rw[mA]at hw ⊢
  obtain⟨d,h1,hw⟩:=hw
  refine⟨d,h1,?_⟩
  rw[mA]at hw ⊢
  obtain⟨v,h2,hw⟩:=hw
  exact⟨v,h.tms _ _ h2,hw⟩
def SK (C:iA)(W J:aH)(X0:Xt)(kf:Nat)(Q:kB)(κ:KT)(m:Tm->pA->lB):Prop:=∀st tm HA t X ν,cF C.base X0 kf ν X st tm HA t->qA C.base W J (κ st) t Q->iC C.base X0 Q (m tm HA)
theorem iC.norm{ty:Nat}{v:zA}{K:zA->lB}(hf:z1a C ty v)(h:iC C.base X0 Q (K v)):iC C.base X0 Q (rJ C ty v K):=by
 obtain⟨u,t',HA',X',h1,h2⟩:=h
 exact⟨u,t',HA',X',xM.2 ⟨hf,h1⟩,h2⟩
theorem iC.ob{α:Type}{x:Option α}{a:α}{K:α->lB}(hx:x=some a)(h:iC C.base X0 Q (K a)):iC C.base X0 Q (Am.ob x K):=by subst hx;exact h
theorem zt2(hW:kR C A W){e eA:xD}{ae:zkg}(he:pO e eA)(ha:cV ν ae eA)(hst:cF C.base X0 kf ν X st tm HA t){la:List Nat}{all:Array Oper}{o:Oper}{κ:KT}{m:Tm->pA->lB}
  (hκ:∀st' tm' HA' t' X' ν',(la=[]->ν'=ν)->cF C.base X0 kf ν' X' st' tm' HA' t'->(∃v,tm'=putA n tm o.dst v)->qA C.base W J (κ st') t' Q->iC C.base X0 Q (m tm' HA'))
  (h:qA C.base W J (tH C la o.dst o.op e ae st.lo (kop C all n o e st κ) (klo C n o st κ)) t Q) :
  iC C.base X0 Q (oG (xF C A) ((bE o.op).f C eA HA) HA fun v H'=>rJ C o.type v fun v=>m (putA n tm o.dst v) H'):=by
 refine tH_ok hW he ha hst.ov hst.lo h ?_ ?_ ?_ ?_ ?_
 ·intro v t' HA' X' ho hx hk
  have hk:qA C.base W J (zs4 C o.type v fun v=>zej (zgr all.toList o.dst all.toList) (z0k o.op e st.lit) v fun v lt=>zpz n o.dst v lt st κ) t' Q:=hk
  obtain⟨h1,h2⟩:=zne hk
  obtain⟨lt',h3⟩:=iX h2
  obtain⟨st',h4,h5⟩:=(hst.later ho hx).put h3
  exact iC.norm h1 (hκ _ _ _ _ _ _ (fun _=>rfl) h4 ⟨v,rfl⟩ h5)
 ·intro v t' HA' X' ho hx hk
  obtain⟨h1,h2⟩:=vM.1 hk
  obtain⟨lt',h3⟩:=iX h2
  obtain⟨st',h4,h5⟩:=(hst.later ho hx).put h3
  exact iC.norm (zbk h1) (hκ _ _ _ _ _ _ (fun _=>rfl) h4 ⟨v,rfl⟩ h5)
 ·intro d off hk
  obtain⟨h1,h2⟩:=vM.1 hk
  obtain⟨st',h4,h5⟩:=hst.putA h2
  exact iC.norm (zg3 h1) (hκ _ _ _ _ _ _ (fun _=>rfl) h4 ⟨_,rfl⟩ h5)
 ·intro d l hd hk
  obtain⟨h1,h2⟩:=vM.1 hk
  obtain⟨st',ν',X',h4,h5⟩:=hst.new h2
  have e:=zv7 hd
  rw[e];refine iC.norm (zg3 h1) (hκ _ _ _ _ _ _ (fun hl=>?_) h4 ⟨_,by rw[e]⟩ h5)
  rw[hl,e]at hd
  cases hd
 ·intro d l l' c' h1 h2 h3 hk
  obtain⟨h4,h5⟩:=vM.1 hk
  obtain⟨X',h6⟩:=hst.setLo h1 h2 h3
  obtain⟨st',h7,h8⟩:=h6.put h5
  exact iC.norm (zbk h4) (hκ _ _ _ _ _ _ (fun _=>rfl) h7 ⟨_,rfl⟩ h8)
theorem zlk(h:cF C.base X0 kf ν X st tm HA t):pO (.now st.tm) (.now tm)/\cV ν (.now st.ad) (.now tm):=⟨h.tms,h.ads⟩
theorem z4m(hW:kR C A W){la:List Nat}{all:Array Oper}{κ:KT}{m:Tm->pA->lB}(hκ:SK C W J X0 kf Q κ m):∀(l:List Oper),SK C W J X0 kf Q (tops C la all n κ l) (zkf C (xF C A) all n m l):=by
 intro l;induction l with
 | nil=>exact hκ
 | cons o l ih=>
  intro st tm HA t X ν hst h;have h:qA C.base W J (sC (pF o.guard all st.tm) fun w=>Bool.rec (motive:=fun _=>T) (zpz n o.dst tE false st (tops C la all n κ l))
   (tH C la o.dst o.op (.now st.tm) (.now st.ad) st.lo (kop C all n o (.now st.tm) st (tops C la all n κ l)) (klo C n o st (tops C la all n κ l))) w) t Q:=h
  rw[lE]at h;obtain⟨w,h1,h2⟩:=h
  rw[wV];refine iC.ob (zfu hst h1) ?_
  cases w with
  | false=>
   rw[if_neg (by simp)]
   obtain⟨st',h3,h4⟩:=hst.put h2
   exact ih _ _ _ _ _ _ h3 h4
  | true=>
   rw[if_pos rfl];exact zt2 hW (zlk hst).1 (zlk hst).2 hst (fun st' tm' HA' t' X' ν' _ hs _ hw=>ih _ _ _ _ _ _ hs hw) h2
end
end Go.Am
namespace Go.Am
open Go Go.RowKit
structure zkc (ν:Nat->Nat) (old:TSt) (oldA:Tm):Prop where
 tms:∀i v,old.tm.get i=some v->oldA.get i=some v
 ads:∀i p,wI i old.ad=some p->oldA.get i=some (.ptr (ν p.1) p.2)
theorem cF.old{base:Nat}{X0 X:Xt}{kf:Nat}{ν:Nat->Nat}{st:TSt}{tm:Tm}{HA:pA}{t:Tr lA}(h:cF base X0 kf ν X st tm HA t):zkc ν st tm:=⟨h.tms,h.ads⟩
theorem Tm.get_cut{tm:Tm}{i:Nat}:tm.cut.get i=if i<tm.k then tm.get i else none:=by
 unfold Tm.cut Tm.get;simp only[jH];by_cases h:Nat.blt i tm.k=true
 ·rw[if_pos h,if_pos h,if_pos (oC.1 h)]
 ·rw[if_neg h,if_neg (fun e=>h (oC.2 e))];rfl
theorem zyl{k i:Nat}:∀ {l:List (Nat × Nat × Nat)},wI i (xD.adCut k l)=if i<k then wI i l else none:=by
 intro l;induction l with
 | nil=>show none=_;split<;>rfl
 | cons a l ih=>
  unfold xD.adCut at ih ⊢
  rw[List.filter_cons];split
  ·rename_i ha
   have ha:=oC.1 ha
   rw[xT,ih,xT];split
   ·rename_i e;rw[if_pos (by omega)]
   ·rfl
  ·rename_i ha
   rw[ih,xT];split
   ·rename_i hi
    rw[if_neg];intro e;exact ha (oC.2 (by omega))
   ·rfl
section
variable {W J:aH}{t:Tr lA}{X X0:Xt}{HA:pA}{C:iA}{A:Tr jF}{ν:Nat->Nat}{Q:kB}{kf n:Nat}{st old:TSt}{tm oldA:Tm}{all:Array Oper}{olds:List (Nat × List Nat)}
theorem cF.cut(h:cF C.base X0 kf ν X st tm HA t):cF C.base X0 kf ν X st.cut tm.cut HA t:=by
 refine⟨h.ov,h.le,h.k,h.kA,?_,?_,h.lo,h.inj⟩
 ·intro i v hi
  have hi:st.tm.cut.get i=some v:=hi
  rw[Tm.get_cut]at hi ⊢
  split at hi
  ·rename_i e;rw[if_pos (by rw[h.kA,<- h.k];exact e)];exact h.tms i v hi
  ·cases hi
 ·intro i p hi
  have hi:wI i (xD.adCut st.tm.k st.ad)=some p:=hi
  rw[zyl]at hi;rw[Tm.get_cut];split at hi
  ·rename_i e;rw[if_pos (by rw[h.kA,<- h.k];exact e)];exact h.ads i p hi
  ·cases hi
theorem vV(h:cF C.base X0 kf ν X st tm HA t)(ho:zkc ν old oldA){os:List Nat}{op:Op}:pO (zrt st old os op) (.mixed tm oldA os (gG op))/\cV ν (z5o st old os op) (.mixed tm oldA os (gG op)):=by
 constructor
 ·intro i v hi
  have hi:(bif vH i (gG op)then Tm.get (bif vH i os then old.tm else st.tm) i else none)=some v:=hi
  show(bif vH i (gG op)then Tm.get (bif vH i os then oldA else tm) i else none)=some v
  cases hm:vH i (gG op)with
  | false=>rw[hm]at hi;cases hi
  | true=>
   rw[hm]at hi;simp only[cond_true]at hi ⊢
   cases hq:vH i os with
   | true=>rw[hq]at hi;exact ho.tms i v hi
   | false=>rw[hq]at hi;exact h.tms i v hi
 ·intro i p hi
  have hi:(bif vH i (gG op)then wI i (bif vH i os then old.ad else st.ad)else none)=some p:=hi
  show(bif vH i (gG op)then Tm.get (bif vH i os then oldA else tm) i else none)=_
  cases hm:vH i (gG op)with
  | false=>rw[hm]at hi;cases hi
  | true=>
   rw[hm]at hi;simp only[cond_true]at hi ⊢
   cases hq:vH i os with
   | true=>rw[hq]at hi;exact ho.ads i p hi
   | false=>rw[hq]at hi;exact h.ads i p hi
theorem zeh(ho:zkc ν old oldA){κ:KT}{kd:Tm->lB}(hκ:∀st' tm',cF C.base X0 kf ν X st' tm' HA t->qA C.base W J (κ st') t Q->iC C.base X0 Q (kd tm')) :
  ∀(l:List Nat) (st:TSt) (tm:Tm),cF C.base X0 kf ν X st tm HA t->qA C.base W J (dQ C all n old olds κ l st) t Q->iC C.base X0 Q (eH C HA all n oldA olds kd l tm):=by
 intro l;induction l with
 | nil=>exact hκ
 | cons i l ih=>
  intro st tm hst h;have h:qA C.base W J (sC (qD all.toList i) fun o=>sC (pF o.guard all st.tm) fun w=>Bool.rec (motive:=fun _=>T) (zpz n o.dst tE false st (dQ C all n old olds κ l))
   (tL C o.op (zrt st old (eE i olds) o.op) (z5o st old (eE i olds) o.op) st.lo (kop C all n o (zrt st old (eE i olds) o.op) st (dQ C all n old olds κ l))) w) t Q:=h
  rw[lE]at h;obtain⟨o,h0,h⟩:=h
  rw[lE]at h;obtain⟨w,h1,h2⟩:=h
  rw[qY];refine iC.ob h0 (iC.ob (zfu hst h1) ?_)
  cases w with
  | false=>
   rw[if_neg (by simp)]
   obtain⟨st',h3,h4⟩:=hst.put h2
   exact ih _ _ h3 h4
  | true=>
   rw[if_pos rfl];refine Exists.elim (z4o (R:=fun v=>iC C.base X0 Q (rJ C o.type v fun v=>eH C HA all n oldA olds kd l (putA n tm o.dst v))) (vV hst ho).1 (vV hst ho).2 hst.ov hst.lo h2 ?_ ?_ ?_) (fun v h=>iC.ob h.1 h.2)
   ·intro v hk
    have hk:qA C.base W J (zs4 C o.type v fun v=>zej (zgr all.toList o.dst all.toList) (z0k o.op (zrt st old (eE i olds) o.op) st.lit) v fun v lt=>zpz n o.dst v lt st (dQ C all n old olds κ l)) t Q:=hk
    obtain⟨g1,g2⟩:=zne hk
    obtain⟨lt',g3⟩:=iX g2
    obtain⟨st',g4,g5⟩:=hst.put g3
    exact iC.norm g1 (ih _ _ g4 g5)
   ·intro v hk
    obtain⟨g1,g2⟩:=vM.1 hk
    obtain⟨lt',g3⟩:=iX g2
    obtain⟨st',g4,g5⟩:=hst.put g3
    exact iC.norm (zbk g1) (ih _ _ g4 g5)
   ·intro d off hk
    obtain⟨g1,g2⟩:=vM.1 hk
    obtain⟨st',g4,g5⟩:=hst.putA g2
    exact iC.norm (zg3 g1) (ih _ _ g4 g5)
theorem zs3(ho:zkc ν old oldA)(hst:cF C.base X0 kf ν X st tm HA t){k:T}{kd:lB}(hk:qA C.base W J k t Q->iC C.base X0 Q kd) :
  ∀(l:List Nat),qA C.base W J (bQ C all old olds st k l) t Q->iC C.base X0 Q (fJ C HA all oldA olds tm kd l):=by
 intro l;induction l with
 | nil=>exact hk
 | cons i l ih=>
  intro h;have h:qA C.base W J (sC (qD all.toList i) fun o=>sC o.dst fun d=>sC (pF o.guard all st.tm) fun w=>Bool.rec (motive:=fun _=>T) (bQ C all old olds st k l)
   (sC (st.tm.get d) fun u=>gdT (fitB C o.type u) (tL C o.op (zrt st old (eE i olds) o.op) (z5o st old (eE i olds) o.op) st.lo ⟨fun v=>.ite (same 10 v u) (bQ C all old olds st k l) .fail,fun v=>.ite (same 10 v u) (bQ C all old olds st k l) .fail,fun _ _=>.fail⟩)) w) t Q:=h
  rw[lE]at h;obtain⟨o,h0,h⟩:=h
  rw[lE]at h;obtain⟨d,h1,h⟩:=h
  rw[lE]at h;obtain⟨w,h2,h⟩:=h
  rw[jZ];refine iC.ob h0 (iC.ob h1 (iC.ob (zfu hst h2) ?_))
  cases w with
  | false=>rw[if_neg (by simp)];exact ih h
  | true=>
   rw[if_pos rfl];simp only[lE,vM]at h;obtain⟨u,h3,h4,h5⟩:=h
   have fC:∀v,qA C.base W J (.ite (same 10 v u) (bQ C all old olds st k l) .fail) t Q->iC C.base X0 Q (rJ C o.type v fun v=>ob (tm.get d) fun u=>uB (same 10 v u) (fJ C HA all oldA olds tm kd l)):=by
    intro v hv;have hv:if same 10 v u=true then qA C.base W J (bQ C all old olds st k l) t Q else False:=hv
    split at hv
    ·rename_i hs
     refine iC.norm ?_ (iC.ob (hst.tms _ _ h3) ?_)
     ·rw[zk9 _ _ _ hs];exact zbk h4
     ·rw[hs];exact ih hv
    ·exact hv.elim
   obtain⟨v,h6,h7⟩:=z4o (R:=fun v=>iC C.base X0 Q (rJ C o.type v fun v=>ob (tm.get d) fun u=>uB (same 10 v u) (fJ C HA all oldA olds tm kd l))) (vV hst ho).1 (vV hst ho).2 hst.ov hst.lo h5 fC fC (fun _ _ h=>h.elim)
   exact iC.ob h6 h7
theorem zy1(hst:cF C.base X0 kf ν X st tm HA t){h:Nat}{o:Oper}{w:Bool}(hw:kP all h o st.tm=some w):kP all h o tm=some w:=by
 unfold kP at hw ⊢
 rw[mA]at hw ⊢
 obtain⟨u,h1,h2⟩:=hw
 exact⟨u,zfu hst h1,h2⟩
theorem zpu(hW:kR C A W)(ho:zkc ν old oldA){κ:KT}{m:Tm->pA->lB}(hκ:SK C W J X0 kf Q κ m) :
  ∀(l:List qG) (st:TSt) (tm:Tm) (HA:pA) (t:Tr lA) (X:Xt),cF C.base X0 kf ν X st tm HA t->qA C.base W J (zbz C all n old olds κ l st) t Q->iC C.base X0 Q (zI C (xF C A) all n oldA olds m l tm HA):=by
 intro l;induction l with
 | nil=>intro st tm HA t X hst h;exact hκ _ _ _ _ _ _ hst h
 | cons s l ih=>
  intro st tm HA t X hst h;have h:qA C.base W J (sC (qD all.toList (hvI all s.heavy)) fun o=>sC (kP all s.heavy o st.tm) fun w=>
   (fun cont:KT=>Bool.rec (motive:=fun _=>T) (zpz n o.dst tE false st cont)
    (tH C [] o.dst o.op (zrt st old (eE (hvI all s.heavy) olds) o.op) (z5o st old (eE (hvI all s.heavy) olds) o.op) st.lo (kop C all n o (zrt st old (eE (hvI all s.heavy) olds) o.op) st cont) (klo C n o st cont)) w)
   (fun st'=>bQ C all old olds st' (dQ C all n old olds (zbz C all n old olds κ l) s.lights st') s.again)) t Q:=h
  rw[lE]at h;obtain⟨o,h0,h⟩:=h
  rw[lE]at h;obtain⟨w,h1,h2⟩:=h
  rw[gU];refine iC.ob h0 (iC.ob (zy1 hst h1) ?_)
  have fC:∀st' tm' HA' t' X' ν',ν'=ν->cF C.base X0 kf ν' X' st' tm' HA' t'->qA C.base W J (bQ C all old olds st' (dQ C all n old olds (zbz C all n old olds κ l) s.lights st') s.again) t' Q →
    iC C.base X0 Q (fJ C HA' all oldA olds tm' (eH C HA' all n oldA olds (fun tm=>zI C (xF C A) all n oldA olds m l tm HA') s.lights tm') s.again):=by
   intro st' tm' HA' t' X' ν' e hs hw;subst e;exact zs3 ho hs (fun hl=>zeh ho (fun st2 tm2 hs2 hw2=>ih _ _ _ _ _ hs2 hw2) _ _ _ hs hl) _ hw
  cases w with
  | false=>
   simp only[yar,if_false];obtain⟨st',h3,h4⟩:=hst.put h2
   exact fC _ _ _ _ _ _ rfl h3 h4
  | true=>
   simp only[if_true];exact zt2 (m:=fun tm' HA'=>fJ C HA' all oldA olds tm' (eH C HA' all n oldA olds (fun tm=>zI C (xF C A) all n oldA olds m l tm HA') s.lights tm') s.again)
    hW (vV hst ho).1 (vV hst ho).2 hst (fun st' tm' HA' t' X' ν' hn hs _ hw=>fC _ _ _ _ _ _ (hn rfl) hs hw) h2
theorem zpw(hW:kR C A W){la:List Nat}{fn id:Nat}{d:Bool}{κ:KT}{m:Tm->pA->lB}(hκ:SK C W J X0 kf Q κ m):SK C W J X0 kf Q (zst C la fn n κ id all d) (aU C (xF C A) fn n m id all d):=by
 intro st tm HA t X ν hst h
 cases d with
 | false=>exact z4m hW hκ _ _ _ _ _ _ _ hst.cut h
 | true=>
  have h:qA C.base W J (sC (ob (C.plans.get fn) fun t=>t.get id) fun p=>gdT (aN all p) (dQ C all n st.cut p.olds (zbz C all n st.cut p.olds κ p.stages) p.first st.cut)) t Q:=h
  simp only[lE,vM]at h;obtain⟨p,h1,h2,h3⟩:=h
  show iC C.base X0 Q (ob (ob (C.plans.get fn) fun t=>t.get id) fun p=>uB (aN all p) (eH C HA all n tm.cut p.olds (fun tm'=>zI C (xF C A) all n tm.cut p.olds m p.stages tm' HA) p.first tm.cut))
  refine iC.ob h1 ?_
  rw[h2];exact zeh hst.cut.old (fun st' tm' hs hw=>zpu hW hst.cut.old hκ _ _ _ _ _ _ hs hw) _ _ _ hst.cut h3
end
structure PtD where
 p:PI
 m:Tm->pA->lB
def oL(C:iA)(φ:Ora)(fn n:Nat):jF->Kt->List PtD
 | .skip,_=>[]
 | .region _ _ _,_=>[]
 | .seq a b,κ=>oL C φ fn n a ⟨nD C φ fn n b κ,κ.exit,κ.ret⟩++oL C φ fn n b κ
 | .cond _ x y,κ=>oL C φ fn n x κ++oL C φ fn n y κ
 | .block id c,κ=>oL C φ fn n c ⟨κ.norm,fun i tm H=>Bool.rec (motive:=fun _=>lB) (κ.exit i tm H) (κ.norm tm H) (Nat.beq id i),κ.ret⟩
 | .loop p c,κ=>⟨p,nD C φ fn n (.loop p c) κ⟩::oL C φ fn n c ⟨nD C φ fn n (.loop p c) κ,κ.exit,κ.ret⟩
 | .exit _,_=>[]
 | .ret,_=>[]
 | .cut p c,κ=>⟨p,nD C φ fn n (.cut p c) κ⟩::oL C φ fn n c κ
def z7p(base kf:Nat)(d:PtD)(vals:List zA)(t:Tr lA)(Q:kB):Prop:=∀X0 X HA tm ν,cF base X0 kf ν X (stAt kf d.p vals) tm HA t->iC base X0 Q (d.m tm HA)
def JOk (base kf:Nat)(J:aH)(l:List PtD):Prop:=∀d∈l,∀vals t Q,J d.p.id vals t Q->z7p base kf d vals t Q
structure SKt (C:iA) (W J:aH) (X0:Xt) (kf:Nat) (Q:kB) (κ:KtT) (m:Kt):Prop where
 norm:SK C W J X0 kf Q κ.norm m.norm
 exit:∀i,SK C W J X0 kf Q (κ.exit i) (m.exit i)
 ret:SK C W J X0 kf Q κ.ret m.ret
theorem zf9{d:Nat}{l:List zA}{st:TSt}:∀ {ll:List (Nat × Nat)} {b rest:List zA},zee st ll=some b->(zyv ll (b++rest)).get d=some l->st.lo.get d=some l:=by
 intro ll;induction ll with
 | nil=>intro b rest _ h;rw[show zyv [] (b++rest)=.leaf from rfl,Tr.get_leaf]at h;cases h
 | cons p ll ih=>
  intro b rest hb h;have hb:(ob (wI p.1 st.ad) fun a=>uB (Nat.beq a.1 p.1&&Nat.beq a.2 0) (ob (st.lo.get p.1) fun l=>uB (Nat.beq (wB l) p.2) (ob (zee st ll) fun r=>some (iF l r))))=some b:=hb
  simp only[mA,mB]at hb;obtain⟨a,_,_,l0,h2,h3,r,h4,h5⟩:=hb
  cases h5;have h:((zyv ll (pK (iF l0 r++rest) p.2)).set p.1 (dO (iF l0 r++rest) p.2)).get d=some l:=h
  rw[wC,fD]at h3;rw[dH,xO,uS,<- h3,yba,List.drop_left,List.take_left,Tr.get_set]at h;split at h
  ·rename_i e;cases h;rw[e];exact h2
  ·exact ih h4 h
theorem zzk{i:Nat}{q:Nat × Nat}{st:TSt}:∀ {ll:List (Nat × Nat)} {b:List zA},zee st ll=some b->wI i (stAd ll)=some q->wI i st.ad=some q:=by
 intro ll;induction ll with
 | nil=>intro b _ h;cases h
 | cons p ll ih=>
  intro b hb h;have hb:(ob (wI p.1 st.ad) fun a=>uB (Nat.beq a.1 p.1&&Nat.beq a.2 0) (ob (st.lo.get p.1) fun l=>uB (Nat.beq (wB l) p.2) (ob (zee st ll) fun r=>some (iF l r))))=some b:=hb
  simp only[mA,mB,yac,wC]at hb;obtain⟨a,h1,⟨h2,h3⟩,l0,_,_,r,h4,_⟩:=hb
  have h:wI i ((p.1,p.1,0)::stAd ll)=some q:=h
  rw[xT]at h;split at h
  ·rename_i e;cases h;rw[e];show wI p.1 st.ad=some (p.1,0);rw[h1,<- h2,<- h3]
  ·exact ih h4 h
theorem zzi{i:Nat}{v:zA}{st:TSt}:∀ {pl:List Nat} {a rest:List zA},tI (fun i=>st.tm.get i) pl=some a->(z2q pl (a++rest)).get i=some v->st.tm.get i=some v:=by
 intro pl;induction pl with
 | nil=>intro a rest _ h;rw[show z2q [] (a++rest)=.leaf from rfl,Tr.get_leaf]at h;cases h
 | cons j pl ih=>
  intro a rest ha h;rw[cO,mA]at ha;obtain⟨u,h1,ha⟩:=ha
  rw[mA]at ha;obtain⟨r,h2,ha⟩:=ha
  cases ha;have h:((z2q pl (r++rest)).set j u).get i=some v:=h
  rw[Tr.get_set]at h;split at h
  ·rename_i e;cases h;rw[e];exact h1
  ·exact ih h2 h
theorem Tm.get_kv{k i:Nat}{v:Tr zA}{u:zA}(h:Tm.get ⟨k,v,[]⟩ i=some u):i<k/\v.get i=some u:=by
 unfold Tm.get at h;rw[jH]at h;split at h
 ·rename_i e;exact⟨oC.1 e,h⟩
 ·cases h
theorem zpn{p:PI}{st:TSt}{vals:List zA}(h:zed p st=some vals):∃a b,vals=a++b/\tI (fun i=>st.tm.get i) p.pl=some a/\zee st p.ll=some b/\a.length=p.pl.length:=by
 unfold zed at h;simp only[mA]at h;obtain⟨a,h1,b,h2,h3⟩:=h
 cases h3;refine⟨a,b,dH _ _,h1,h2,?_⟩
 have:∀(l:List Nat) (r:List zA),tI (fun i=>st.tm.get i) l=some r->r.length=l.length:=by
  intro l;induction l with
  | nil=>intro r h;cases h;rfl
  | cons x l ih=>
   intro r h;rw[cO,mA]at h;obtain⟨u,_,h⟩:=h
   rw[mA]at h;obtain⟨s,h5,h⟩:=h
   cases h;simp[ih _ h5]
 exact this _ _ h1
section
variable {W J:aH}{t:Tr lA}{X X0:Xt}{HA:pA}{C:iA}{A:Tr jF}{ν:Nat->Nat}{Q:kB}{kf n:Nat}{st:TSt}{tm:Tm}
theorem cF.at(h:cF C.base X0 kf ν X st tm HA t){p:PI}{vals:List zA}(hv:zed p st=some vals):cF C.base X0 kf ν X (stAt kf p vals) tm HA t:=by
 obtain⟨a,b,rfl,h1,h2,h3⟩:=zpn hv
 have hd:pK (a++b) (wB p.pl)=b:=by rw[xO,fD,<- h3,List.drop_left]
 refine⟨h.ov,h.le,rfl,h.kA,?_,?_,?_,?_⟩
 ·intro i v hi
  exact h.tms i v (zzi h1 (Tm.get_kv hi).2)
 ·intro i q hi
  exact h.ads i q (zzk h2 hi)
 ·intro d l hl
  have hl:(zyv p.ll (pK (a++b) (wB p.pl))).get d=some l:=hl
  rw[hd]at hl;have hb:(zyv p.ll (b++[])).get d=some l:=by rw[ybe];exact hl
  exact h.lo d l (zf9 h2 hb)
 ·intro d d' l l' hl hl' he
  have hl:(zyv p.ll (pK (a++b) (wB p.pl))).get d=some l:=hl
  have hl':(zyv p.ll (pK (a++b) (wB p.pl))).get d'=some l':=hl'
  rw[hd]at hl hl'
  have hb:(zyv p.ll (b++[])).get d=some l:=by rw[ybe];exact hl
  have hb':(zyv p.ll (b++[])).get d'=some l':=by rw[ybe];exact hl'
  exact h.inj d d' l l' (zf9 h2 hb) (zf9 h2 hb') he
theorem zwn{tm:Tm}{i:Nat}{v:zA}(hv:tm.get i=some v):∀ {live:List Nat},i∈live->(zjb tm live).get i=some v:=by
 intro live;induction live with
 | nil=>intro h;cases h
 | cons j live ih=>
  intro h;show(match tm.get j with | some v=>(zjb tm live).set j v | none=>zjb tm live:Tr zA).get i=some v
  by_cases e:i=j
  ·subst e;rw[hv];simp only[];rw[Tr.get_set,if_pos rfl]
  ·have:=ih ((yat.1 h).resolve_left e)
   cases tm.get j with
   | none=>exact this
   | some u=>simp only[];rw[Tr.get_set,if_neg e];exact this
theorem zzh{i:Nat}{v:zA}:∀ {pl:List Nat} {vals:List zA},(z2q pl vals).get i=some v->i∈pl:=by
 intro pl;induction pl with
 | nil=>intro vals h;rw[show z2q [] vals=.leaf from rfl,Tr.get_leaf]at h;cases h
 | cons j pl ih=>
  intro vals h
  cases vals with
  | nil=>rw[show z2q (j::pl) []=.leaf from rfl,Tr.get_leaf]at h;cases h
  | cons u vals=>
   have h:((z2q pl vals).set j u).get i=some v:=h
   rw[Tr.get_set]at h;split at h
   ·rename_i e;rw[e];exact yaz
   ·exact yas _ (ih h)
theorem zzj{i:Nat}{q:Nat × Nat}:∀ {ll:List (Nat × Nat)},wI i (stAd ll)=some q->i∈(List.rec (motive:=fun _=>List Nat) [] (fun a _ r=>a.1::r) ll:List Nat):=by
 intro ll;induction ll with
 | nil=>intro h;cases h
 | cons p ll ih=>
  intro h;have h:wI i ((p.1,p.1,0)::stAd ll)=some q:=h
  rw[xT]at h;split at h
  ·rename_i e;rw[e];exact yaz
  ·exact yas _ (ih h)
theorem cF.keep{p:PI}{vals:List zA}(hb:∀i,i∈p.kept->i<kf)(h:cF C.base X0 kf ν X (stAt kf p vals) tm HA t):cF C.base X0 kf ν X (stAt kf p vals) (Am.keep p.kept tm) HA t:=by
 have key:∀i v,i∈p.kept->tm.get i=some v->(Am.keep p.kept tm).get i=some v:=by
  intro i v hi hv;unfold Am.keep Tm.get;rw[jH,if_pos (oC.2 (by rw[h.kA];exact hb i hi))]
  exact zwn hv hi
 refine⟨h.ov,h.le,rfl,h.kA,?_,?_,h.lo,h.inj⟩
 ·intro i v hi
  refine key i v ?_ (h.tms i v hi)
  unfold PI.kept;rw[dH];exact ycd _ (zzh (Tm.get_kv hi).2)
 ·intro i q hi
  refine key i _ ?_ (h.ads i q hi)
  unfold PI.kept;rw[dH];exact ybg _ (zzj hi)
theorem tV{l:List PtD}(hJ:JOk C.base kf J l){p:PI}{m:Tm->pA->lB}(hm:(⟨p,m⟩:PtD)∈l):SK C W J X0 kf Q (zqv p) m:=by
 intro st tm HA t X ν hst h;unfold zqv at h;rw[lE]at h;obtain⟨vals,h1,h2⟩:=h
 exact hJ _ hm vals t Q h2 _ _ _ _ _ (hst.at h1)
theorem zf3(hW:kR C A W){la:List Nat}{f:Nat}:∀(c:jF) (κ:KtT) (m:Kt),SKt C W J X0 kf Q κ m->JOk C.base kf J (oL C (xF C A) f n c m)->SK C W J X0 kf Q (znb C la f n c κ) (nD C (xF C A) f n c m):=by
 intro c;induction c with
 | skip=>intro κ m hκ _;exact hκ.norm
 | region id ops d=>intro κ m hκ _;exact zpw hW hκ.norm
 | seq a b iha ihb=>
  intro κ m hκ hJ;exact iha ⟨znb C la f n b κ,κ.exit,κ.ret⟩ ⟨nD C (xF C A) f n b m,m.exit,m.ret⟩ ⟨ihb κ m hκ fun d hd=>hJ d (ybg _ hd),hκ.exit,hκ.ret⟩ fun d hd=>hJ d (ycd _ hd)
 | cond x a b iha ihb=>
  intro κ m hκ hJ st tm HA t X ν hst h;have ha:=iha κ m hκ fun d hd=>hJ d (ycd _ hd)
  have hb:=ihb κ m hκ fun d hd=>hJ d (ybg _ hd)
  have h:qA C.base W J (sC (ob (ev x (.now st.tm)) zA.asBool) fun b'=>bif z27 x st.lit then Bool.rec (motive:=fun _=>T) (znb C la f n b κ st) (znb C la f n a κ st) b' else .ite b' (znb C la f n a κ st) (znb C la f n b κ st)) t Q:=h
  rw[lE]at h;obtain⟨w,h1,h2⟩:=h
  rw[mA]at h1;obtain⟨v,h3,h4⟩:=h1
  show iC C.base X0 Q (ob (ob (ev x (.now tm)) zA.asBool) fun t=>Bool.rec (motive:=fun _=>lB) (nD C (xF C A) f n b m tm HA) (nD C (xF C A) f n a m tm HA) t)
  refine iC.ob (a:=w) (by rw[jD (zlk hst).1 h3];exact h4) ?_
  have h2:if w=true then qA C.base W J (znb C la f n a κ st) t Q else qA C.base W J (znb C la f n b κ st) t Q:=by
   rw[kC]at h2;split at h2
   ·cases w<;>exact h2
   ·exact h2
  cases w with
  | true=>exact ha _ _ _ _ _ _ hst h2
  | false=>exact hb _ _ _ _ _ _ hst h2
 | block id c ih=>
  intro κ m hκ hJ;refine ih ⟨κ.norm,fun i st=>Bool.rec (motive:=fun _=>T) (κ.exit i st) (κ.norm st) (Nat.beq id i),κ.ret⟩ ⟨m.norm,fun i tm H=>Bool.rec (motive:=fun _=>lB) (m.exit i tm H) (m.norm tm H) (Nat.beq id i),m.ret⟩ ⟨hκ.norm,fun i=>?_,hκ.ret⟩ hJ
  intro st tm HA t X ν hst h;have h:qA C.base W J (Bool.rec (motive:=fun _=>T) (κ.exit i st) (κ.norm st) (Nat.beq id i)) t Q:=h
  show iC C.base X0 Q (Bool.rec (motive:=fun _=>lB) (m.exit i tm HA) (m.norm tm HA) (Nat.beq id i))
  cases hb:Nat.beq id i with
  | true=>rw[hb]at h;exact hκ.norm _ _ _ _ _ _ hst h
  | false=>rw[hb]at h;exact hκ.exit i _ _ _ _ _ _ hst h
 | loop p c ih=>intro κ m hκ hJ;exact tV hJ yaz
 | exit id=>intro κ m hκ _;exact hκ.exit id
 | ret=>intro κ m hκ _;exact hκ.ret
 | cut p c ih=>intro κ m hκ hJ;exact tV hJ yaz
def PtOk (C:iA)(W J:aH)(kf:Nat)(l:List PtT)(d:PtD):Prop:=∃q∈l,q.p=d.p/\∀vals t Q,qA C.base W J (q.tree vals) t Q->z7p C.base kf d vals t Q
def lM(kf:Nat):jF->Bool
 | .seq a b=>lM kf a&&lM kf b
 | .cond _ a b=>lM kf a&&lM kf b
 | .block _ c=>lM kf c
 | .loop p c=>p.kept.all (fun i=>Nat.blt i kf)&&lM kf c
 | .cut p c=>p.kept.all (fun i=>Nat.blt i kf)&&lM kf c
 | _=>true
theorem zu3(hW:kR C A W){la:List Nat}{f:Nat}:∀(c:jF) (κ:KtT) (m:Kt),lM kf c=true->(∀X0 Q,SKt C W J X0 kf Q κ m)->JOk C.base kf J (oL C (xF C A) f n c m)->∀d∈oL C (xF C A) f n c m,PtOk C W J kf (xS C la f n kf c κ) d:=by
 have up:∀ {l l':List PtT} {d:PtD},PtOk C W J kf l d->(∀q∈l,q∈l')->PtOk C W J kf l' d:=fun⟨q,h1,h2⟩ hl=>⟨q,hl q h1,h2⟩
 intro c;induction c with
 | skip=>intro κ m _ _ _ d hd;cases hd
 | region id ops dr=>intro κ m _ _ _ d hd;cases hd
 | seq a b iha ihb=>
  intro κ m hk hκ hJ d hd;unfold lM at hk;rw[yac]at hk;have e:xS C la f n kf (.seq a b) κ=xS C la f n kf a ⟨znb C la f n b κ,κ.exit,κ.ret⟩++xS C la f n kf b κ:=dH _ _
  rw[e];have hJa:JOk C.base kf J (oL C (xF C A) f n a ⟨nD C (xF C A) f n b m,m.exit,m.ret⟩):=fun d hd=>hJ d (ycd _ hd)
  have hJb:JOk C.base kf J (oL C (xF C A) f n b m):=fun d hd=>hJ d (ybg _ hd)
  rcases List.mem_append.1 hd with hd | hd
  ·exact up (iha ⟨znb C la f n b κ,κ.exit,κ.ret⟩ ⟨nD C (xF C A) f n b m,m.exit,m.ret⟩ hk.1 (fun X0 Q=>⟨zf3 hW b κ m (hκ X0 Q) hJb,(hκ X0 Q).exit,(hκ X0 Q).ret⟩) hJa d hd) fun q hq=>ycd _ hq
  ·exact up (ihb _ _ hk.2 hκ hJb d hd) fun q hq=>ybg _ hq
 | cond x a b iha ihb=>
  intro κ m hk hκ hJ d hd;unfold lM at hk;rw[yac]at hk;have e:xS C la f n kf (.cond x a b) κ=xS C la f n kf a κ++xS C la f n kf b κ:=dH _ _
  rw[e];rcases List.mem_append.1 hd with hd | hd
  ·exact up (iha _ _ hk.1 hκ (fun d hd=>hJ d (ycd _ hd)) d hd) fun q hq=>ycd _ hq
  ·exact up (ihb _ _ hk.2 hκ (fun d hd=>hJ d (ybg _ hd)) d hd) fun q hq=>ybg _ hq
 | block id c ih=>
  intro κ m hk hκ hJ d hd;refine ih ⟨κ.norm,fun i st=>Bool.rec (motive:=fun _=>T) (κ.exit i st) (κ.norm st) (Nat.beq id i),κ.ret⟩ ⟨m.norm,fun i tm H=>Bool.rec (motive:=fun _=>lB) (m.exit i tm H) (m.norm tm H) (Nat.beq id i),m.ret⟩ hk (fun X0 Q=>⟨(hκ X0 Q).norm,fun i=>?_,(hκ X0 Q).ret⟩) hJ d hd
  intro st tm HA t X ν hst h;have h:qA C.base W J (Bool.rec (motive:=fun _=>T) (κ.exit i st) (κ.norm st) (Nat.beq id i)) t Q:=h
  show iC C.base X0 Q (Bool.rec (motive:=fun _=>lB) (m.exit i tm HA) (m.norm tm HA) (Nat.beq id i))
  cases hb:Nat.beq id i with
  | true=>rw[hb]at h;exact(hκ X0 Q).norm _ _ _ _ _ _ hst h
  | false=>rw[hb]at h;exact(hκ X0 Q).exit i _ _ _ _ _ _ hst h
 | loop p c ih=>
  intro κ m hk hκ hJ d hd;unfold lM at hk;rw[yac,ybc]at hk;have hJc:JOk C.base kf J (oL C (xF C A) f n c ⟨nD C (xF C A) f n (.loop p c) m,m.exit,m.ret⟩):=fun d hd=>hJ d (yas _ hd)
  have hκ':∀X0 Q,SKt C W J X0 kf Q ⟨zqv p,κ.exit,κ.ret⟩ ⟨nD C (xF C A) f n (.loop p c) m,m.exit,m.ret⟩:=fun X0 Q=>⟨tV hJ yaz,(hκ X0 Q).exit,(hκ X0 Q).ret⟩
  rcases yat.1 hd with rfl | hd
  ·refine⟨_,yaz,rfl,fun vals t Q hw X0 X HA tm ν hst=>?_⟩
   show iC C.base X0 Q (nD C (xF C A) f n (.loop p c) m tm HA)
   rw[z1m];exact zf3 hW c _ _ (hκ' X0 Q) hJc _ _ _ _ _ _ (hst.keep fun i hi=>oC.1 (hk.1 i hi)) hw
  ·exact up (ih ⟨zqv p,κ.exit,κ.ret⟩ ⟨nD C (xF C A) f n (.loop p c) m,m.exit,m.ret⟩ hk.2 hκ' hJc d hd) fun q hq=>yas _ hq
 | exit id=>intro κ m _ _ _ d hd;cases hd
 | ret=>intro κ m _ _ _ d hd;cases hd
 | cut p c ih=>
  intro κ m hk hκ hJ d hd;unfold lM at hk;rw[yac,ybc]at hk;have hJc:JOk C.base kf J (oL C (xF C A) f n c m):=fun d hd=>hJ d (yas _ hd)
  rcases yat.1 hd with rfl | hd
  ·refine⟨_,yaz,rfl,fun vals t Q hw X0 X HA tm ν hst=>?_⟩
   exact zf3 hW c _ _ (hκ X0 Q) hJc _ _ _ _ _ _ (hst.keep fun i hi=>oC.1 (hk.1 i hi)) hw
  ·exact up (ih _ _ hk.2 hκ hJc d hd) fun q hq=>yas _ hq
end
end Go.Am
namespace Go.Am
open Go Go.RowKit
def Tr.mapT{α β:Type}(f:α->β)(t:Tr α):Tr β:=Tr.rec (motive:=fun _=>Tr β) .leaf (fun _ v _ l r=>.node l (match v with | some a=>some (f a) | none=>none) r) t
theorem Tr.get_mapT{α β:Type}(f:α->β):∀(t:Tr α) (n:Nat),(t.mapT f).get n=(t.get n).map f:=by
 intro t;induction t with
 | leaf=>intro n;rfl
 | node l v r ihl ihr=>
  intro n;show(Tr.node (l.mapT f) (match v with | some a=>some (f a) | none=>none) (r.mapT f)).get n=_
  rw[Tr.get_node,Tr.get_node];split
  ·cases v<;>rfl
  ·split
   ·exact ihl _
   ·exact ihr _
def qP(F:Tr qB):Tr jF:=F.mapT qB.code
structure cB (C:iA) (F:Tr qB) (f:Nat) (fn:Func) (kf:Nat) (A:qB):Prop where
 isF:F.get f=some A
 isFn:C.fns.get f=some fn
 isK:C.ks.get f=some kf
 prim:aK (C.prims.get f)=true
 kept:lM kf A.code=true
 body:aK fn.body=false
def Wc (C:iA)(F:Tr qB):aH:=fun f args t Q=>∀X HA,Ov C.base t X HA->iC C.base X Q (zmj C (qP F) f args HA)
theorem Tr.bound{α:Type}(t:Tr α):∃n,∀b y,t.get b=some y->b<n:=by
 induction t with
 | leaf=>exact⟨0,fun b y h=>by rw[Tr.get_leaf]at h;cases h⟩
 | node l v r ihl ihr=>
  obtain⟨n,hn⟩:=ihl
  obtain⟨m,hm⟩:=ihr
  refine⟨2*n+2*m+3,fun b y h=>?_⟩
  rw[Tr.get_node]at h;split at h
  ·omega
  ·split at h
   ·have:=hn _ _ h;omega
   ·have:=hm _ _ h;omega
def PV (C:iA)(F:Tr qB)(f:Nat)(args:List zA)(t:Tr lA)(v:zA):Prop:=Wc C F f args t fun v' t'=>v'=v/\t'=t
theorem PV.unique{C:iA}{F:Tr qB}{f:Nat}{args:List zA}{t:Tr lA}{v v':zA}(h:PV C F f args t v)(h':PV C F f args t v'):v=v':=by
 obtain⟨n,hn⟩:=Tr.bound t
 have ho:Ov C.base t (fun _=>none) ⟨C.base+n,t⟩:=⟨Nat.le_add_right _ _,fun _ _=>rfl,fun _ _ h=>(by cases h),fun b y hb=>Nat.lt_of_lt_of_le (hn b y hb) (Nat.le_add_left _ _)⟩
 obtain⟨u,t',HA',X',h1,_,_,h2,_⟩:=h _ _ ho
 obtain⟨u',t'',HA'',X'',h3,_,_,h4,_⟩:=h' _ _ ho
 rw[h1]at h3
 cases h3;rw[<- h2,<- h4]
def sD (C:iA)(F:Tr qB)(f:Nat)(args:List zA)(t:Tr lA):Option zA:=@dite _ (∃v,PV C F f args t v) (Classical.propDecidable _) (fun h=>some h.choose) (fun _=>none)
theorem oF{C:iA}{F:Tr qB}{f:Nat}{args:List zA}{t:Tr lA}{v:zA}:sD C F f args t=some v ↔ PV C F f args t v:=by
 unfold sD;constructor
 ·intro h
  by_cases hx:∃v,PV C F f args t v
  ·rw[dif_pos hx]at h;cases h;exact hx.choose_spec
  ·rw[dif_neg hx]at h;cases h
 ·intro h
  have hx:∃v,PV C F f args t v:=⟨v,h⟩
  rw[dif_pos hx,PV.unique hx.choose_spec h]
def Wq (C:iA)(F:Tr qB)(pure:Nat->Bool):aH:=fun f args t R=>if pure f=true then sG (sD C F f args t) fun v=>R v t else Wc C F f args t R
theorem Wq_ok{C:iA}{F:Tr qB}{pure:Nat->Bool}:kR C (qP F) (Wq C F pure):=by
 intro f args t R h X HA ho;unfold Wq at h;split at h
 ·rw[uR]at h
  obtain⟨v,h1,h2⟩:=h
  exact((oF.1 h1) X HA ho).mono fun v' t' hh=>by rw[hh.1,hh.2];exact h2
 ·exact h X HA ho
def Jq (C:iA)(F:Tr qB)(f:Nat):aH:=fun i vals t Q=>∀fn kf A,cB C F f fn kf A->∀d∈oL C (xF C (qP F)) f fn.ntmps A.code (zy7 C fn),d.p.id=i->z7p C.base kf d vals t Q
theorem Jq_ok{C:iA}{F:Tr qB}{f:Nat}{fn:Func}{kf:Nat}{A:qB}(h:cB C F f fn kf A):JOk C.base kf (Jq C F f) (oL C (xF C (qP F)) f fn.ntmps A.code (zy7 C fn)):=
 fun d hd _ _ _ hJ=>hJ fn kf A h d hd rfl
section
variable {W J:aH}{t:Tr lA}{X X0:Xt}{HA:pA}{C:iA}{A:Tr jF}{ν:Nat->Nat}{Q:kB}{kf n:Nat}{st:TSt}{tm:Tm}
theorem z44(hst:cF C.base X0 kf ν X st tm HA t):∀(l:List ResultVar) (K:List zA->T),qA C.base W J (resT C st l K) t Q->∃vs,gT C HA tm l=some vs/\qA C.base W J (K vs) t Q:=by
 intro l;induction l with
 | nil=>intro K h;exact⟨[],rfl,h⟩
 | cons r l ih=>
  intro K h
  cases r with
  | tmp i=>
   have h:qA C.base W J (sC (st.tm.get i) fun v=>resT C st l fun l=>K (v::l)) t Q:=h
   rw[lE]at h;obtain⟨v,h1,h2⟩:=h
   obtain⟨vs,h3,h4⟩:=ih _ h2
   refine⟨v::vs,?_,h4⟩
   show tI (aR C HA tm) _=_
   rw[cO];show ob (tm.get i) _=_
   rw[hst.tms _ _ h1,sA];have h3:tI (aR C HA tm) l=some vs:=h3
   rw[h3];rfl
  | cell a ty=>
   have h:qA C.base W J (match wI a st.ad with
    | some p=>sC (st.lo.get p.1) fun m=>sC (C.tys.get ty) fun y=>gdT (Nat.ble (p.2+y.size) (wB m)) (sC (bN C ty m p.2) fun v=>resT C st l fun l=>K (v::l))
    | none=>sC (st.tm.get a) fun a=>.light (fun m=>jA C ty ⟨0,m⟩ a) fun v=>resT C st l fun l=>K (v::l)) t Q:=h
   have fC:∀ {u v:zA},tm.get a=some u->jA C ty HA u=some v->qA C.base W J (resT C st l fun l=>K (v::l)) t Q->∃vs,gT C HA tm (.cell a ty::l)=some vs/\qA C.base W J (K vs) t Q:=by
    intro u v h1 h2 h3;obtain⟨vs,h4,h5⟩:=ih _ h3
    refine⟨v::vs,?_,h5⟩
    show tI (aR C HA tm) _=_
    rw[cO];have e:aR C HA tm (.cell a ty)=some v:=by
     show(ob (ob (tm.get a) zA.asPtr) fun p=>ob (C.tys.get ty) fun ty=>ob (rD HA p.1) fun c=>rN ty c.1 p.2)=some v
     unfold jA at h2;rw[h1,sA];exact h2
    have h4:tI (aR C HA tm) l=some vs:=h4
    rw[e,sA,h4];rfl
   split at h
   ·rename_i p hp
    simp only[lE,vM]at h;obtain⟨m,h1,y,h2,h3,v,h4,h5⟩:=h
    exact fC (hst.ads _ _ hp) (zod hst.ov hst.lo h1 h2 h3 h4) h5
   ·simp only[lE,oU]at h
    obtain⟨u,h1,v,h2,h3⟩:=h
    exact fC (hst.tms _ _ h1) (fP hst.ov.le h2) h3
theorem zxk{fn:Func}:SK C W J X0 kf Q (endT C fn) (endK C fn):=by
 intro st tm HA t X ν hst h;obtain⟨vs,h1,h2⟩:=z44 hst _ _ h
 unfold endK;exact iC.ob h1 ⟨_,t,HA,X,rfl,hst.ov,hst.le,h2⟩
theorem zs0{fn:Func}:SKt C W J X0 kf Q (topT C fn) (zy7 C fn):=⟨zxk,fun _ _ _ _ _ _ _ _ h=>h.elim,zxk⟩
end
section
variable {C:iA}{F:Tr qB}{f:Nat}{fn:Func}{kf:Nat}{A:qB}{pure:Nat->Bool}{t:Tr lA}{Q:kB}
theorem z7o(h:cB C F f fn kf A){args:List zA}(hl:(Nat.ble (wB args) kf&&Nat.ble (wB args) fn.ntmps)=true)(hw:qA C.base (Wq C F pure) (Jq C F f) (entT C fn kf f A args) t Q):Wc C F f args t Q:=by
 intro X HA ho;have hA:(qP F).get f=some A.code:=by unfold qP;rw[Tr.get_mapT,h.isF];rfl
 obtain⟨body,hb⟩:∃b,fn.body=some b:=by
  cases hx:fn.body with
  | none=>have:=h.body;rw[hx]at this;cases this
  | some b=>exact⟨b,rfl⟩
 have he:wJ C f args false=some ⟨[.code body],⟨kf,Tr.ofList args,[]⟩,⟨f,fn.ntmps,[],.run,false,none⟩⟩:=by
  unfold wJ;rw[h.isFn,sA,hb,sA,h.isK,sA,hl];rfl
 have hp:C.prims.get f=none:=by
  cases hx:C.prims.get f with
  | none=>rfl
  | some g=>have:=h.prim;rw[hx]at this;cases this
 unfold zmj;rw[hp];show iC C.base X Q (xF C (qP F) f args HA)
 rw[fnV_eq];unfold wN;refine iC.ob hA (iC.ob h.isFn (iC.ob he ?_))
 have hst:cF C.base X kf (fun i=>i) X ⟨⟨kf,Tr.ofList args,[]⟩,[],.leaf,[]⟩ ⟨kf,Tr.ofList args,[]⟩ HA t:=
  ⟨ho,XLe.refl _,rfl,rfl,fun _ _ h=>h,fun _ _ h=>(by cases h),fun d l h=>(by rw[Tr.get_leaf]at h;cases h),fun d _ l _ h=>(by rw[Tr.get_leaf]at h;cases h)⟩
 exact zf3 Wq_ok A.code (topT C fn) (zy7 C fn) zs0 (Jq_ok h) _ _ _ _ _ _ hst hw
theorem Jq_of(h:cB C F f fn kf A){i:Nat}{vals:List zA}{l:List T}(hp:zqh (ptsT C fn kf f A) i vals=l)(hw:∀T∈l,qA C.base (Wq C F pure) (Jq C F f) T t Q):Jq C F f i vals t Q:=by
 intro fn' kf' A' h' d hd hi;have e1:=h.isFn;rw[h'.isFn]at e1;cases e1
 have e2:=h.isK;rw[h'.isK]at e2;cases e2
 have e3:=h.isF;rw[h'.isF]at e3;cases e3
 obtain⟨q,h1,h2,h3⟩:=zu3 (W:=Wq C F pure) Wq_ok A.code (topT C fn) (zy7 C fn) h.kept (fun _ _=>zs0) (Jq_ok h) d hd
 refine h3 vals t Q (hw _ ?_)
 subst hp;have key:∀(l:List PtT),q∈l->q.tree vals∈zqh l i vals:=by
  intro l;induction l with
  | nil=>intro h;cases h
  | cons p l ih=>
   intro hm;show q.tree vals∈(bif Nat.beq p.p.id i then p.tree vals::zqh l i vals else zqh l i vals)
   rw[kC];rcases yat.1 hm with e | hm
   ·subst e
    rw[if_pos (by rw[h2];exact wC.2 hi)]
    exact yaz
   ·split
    ·exact yas _ (ih hm)
    ·exact ih hm
 exact key _ h1
theorem Jq_of1(h:cB C F f fn kf A){i:Nat}{vals:List zA}{T:T}(hp:zqh (ptsT C fn kf f A) i vals=[T])(hw:qA C.base (Wq C F pure) (Jq C F f) T t Q):Jq C F f i vals t Q:=
 Jq_of h hp fun T' hT=>by rw[yce.1 hT];exact hw
theorem Jq.mono{i:Nat}{vals:List zA}{Q':kB}(h:Jq C F f i vals t Q)(k:∀v t',Q v t'->Q' v t'):Jq C F f i vals t Q':=
 fun fn kf A hf d hd hi X0 X HA tm ν hst=>(h fn kf A hf d hd hi X0 X HA tm ν hst).mono k
theorem zge{g:List zA->pA->Option zA}(hg:C.prims.get f=some g){args:List zA}{v:zA}(h:∀H,g args H=some v):sD C F f args t=some v:=by
 refine oF.2 fun X HA ho=>?_
 unfold zmj;rw[hg];exact⟨v,t,HA,X,by simp only[h HA,sA],ho,XLe.refl _,rfl,rfl⟩
theorem zij{args:List zA}{v:zA}(h:Wc C F f args t fun v' t'=>v'=v/\∀b y,t.get b=some y->t'.get b=some y):sD C F f args t=some v:=by
 refine oF.2 fun X HA ho=>?_
 obtain⟨u,t',HA',X',h1,h2,h3,h4,h5⟩:=h X HA ho
 refine⟨u,t,HA',fun b=>match t.get b with | some _=>none | none=>HA'.t.get b,h1,⟨h2.base,?_,?_,?_⟩,?_,h4,rfl⟩
 ·intro b hb
  cases hg:t.get b with
  | some y=>rw[h2.up (h5 b y hg)]
  | none=>simp only[hg]at hb;exact hb
 ·intro b y hb
  cases hg:t.get b with
  | some y=>simp only[hg]at hb;cases hb
  | none=>
   simp only[hg]at hb;refine⟨hb,rfl,?_⟩
   cases hx:X' b with
   | some z=>exact(h2.ext b z hx).2.2
   | none=>rw[h2.same b hx]at hb;exact h2.lt b y hb
 ·intro b y hb;exact h2.lt b y (h5 b y hb)
 ·intro b y hb
  have hn:=(ho.ext b y hb).2.1
  simp only[hn];exact(h2.ext b y (h3 b y hb)).1
end
theorem zmi{P:Program}{C:iA}{F:Tr qB}{B N:Nat}{I:World->Prop}{μ:Mu}{w:World}(hS:Sim P C B N I)(hI:I w)(hA:qU C (qP F)){f:Nat}(hp:C.prims.get f=none){args:List zA}{args':Array Value}{H:pA}{Q:kB}(hbase:C.base<=H.next)(hlt:∀b y,H.t.get b=some y->b<H.next)(hH:oB B N μ H w)(hl:rB μ args args'.toList)
  (h:Wc C F f args H.t Q):Calls P f args' w fun e w'=>∃v v' t' μ',e=.returned v'/\μ.lw μ'/\rA μ' v v'/\Q v t'/\Below N w w':=by
 obtain⟨v,t',HA',X',h1,h2,h3,h4⟩:=h (fun _=>none) H ⟨hbase,fun _ _=>rfl,fun _ _ h=>(by cases h),hlt⟩
 unfold zmj at h1;rw[hp]at h1;intro base;obtain⟨e,w',b,⟨v',μ',g1,g2,g3,g4,g5⟩,g6⟩:=zjw hS hI hA hH hl h1 base
 exact⟨e,w',b,⟨v,v',t',μ',g1,g2,g3,h4,g5⟩,g6⟩
end Go.Am
namespace Go.Am
open Go Go.RowKit
def piOf (i:Nat)(l:List (Nat × PI)):Option PI:=List.rec (motive:=fun _=>Option PI) none (fun a _ g=>bif Nat.beq i a.1 then some a.2 else g) l
def cutP (p:Option PI)(c:jF):jF:=
 match p with
 | some p=>.cut p c
 | none=>c
def z5t(p:Option PI)(c:jF):jF:=
 match p with
 | some p=>.loop p c
 | none=>.loop ⟨0,[],[]⟩ c
def bS(rt lt:List (Nat × PI))(c:Code):Nat->jF:=
 Code.rec (motive:=fun _=>Nat->jF)
  (fun _=>.skip)
  (fun id ops d _=>cutP (piOf id rt) (.region id ops d))
  (fun _ _ ga gb k=>.seq (ga k) (gb k))
  (fun c _ _ gx gy k=>.cond c (gx k) (gy k))
  (fun id _ g _=>.block id (g id))
  (fun _ g k=>z5t (piOf k lt) (g k))
  (fun _ _ _ _ _ _ _=>.skip)
  (fun id _=>.exit id)
  (fun _ _ _=>.skip)
  (fun _ _=>.skip)
  (fun _ _=>.skip)
  (fun _=>.ret)
  (fun _ _=>.skip) c
def aB(rt lt:List (Nat × PI))(k:Nat)(c:Code):jF:=bS rt lt c k
def sN(c:Code):Bool:=
 Code.rec (motive:=fun _=>Bool) true (fun _ _ _=>true) (fun _ _ a b=>bif a then b else false) (fun _ _ _ a b=>bif a then b else false) (fun _ _ a=>a) (fun _ a=>a)
  (fun _ _ _ _ _ _=>false) (fun _=>true) (fun _ _=>false) (fun _=>false) (fun _=>false) true (fun _=>false) c
theorem zq8(p:Option PI)(c:jF):nH (cutP p c)=nH c:=by cases p<;>rfl
theorem zl4(p:Option PI)(c:jF):nH (z5t p c)=.loop (nH c):=by cases p<;>rfl
theorem zl5{rt lt:List (Nat × PI)}:∀(c:Code) (k:Nat),sN c=true->nH (bS rt lt c k)=c:=by
 intro c;induction c with
 | skip=>intro k _;rfl
 | region id ops d=>intro k _;show nH (cutP _ _)=_;rw[zq8];rfl
 | seq a b iha ihb=>
  intro k h;have h:(bif sN a then sN b else false)=true:=h
  have ha:sN a=true:=by cases hx:sN a with | true=>rfl | false=>rw[hx]at h;cases h
  have hb:sN b=true:=by rw[ha]at h;exact h
  show Code.seq (nH (bS rt lt a k)) (nH (bS rt lt b k))=_
  rw[iha k ha,ihb k hb]
 | cond c x y ihx ihy=>
  intro k h;have h:(bif sN x then sN y else false)=true:=h
  have ha:sN x=true:=by cases hx:sN x with | true=>rfl | false=>rw[hx]at h;cases h
  have hb:sN y=true:=by rw[ha]at h;exact h
  show Code.cond c (nH (bS rt lt x k)) (nH (bS rt lt y k))=_
  rw[ihx k ha,ihy k hb]
 | block id c ih=>intro k h;show Code.block id (nH (bS rt lt c id))=_;rw[ih id h]
 | loop c ih=>intro k h;show nH (z5t _ (bS rt lt c k))=_;rw[zl4,ih k h]
 | exit id=>intro k _;rfl
 | ret=>intro k _;rfl
 | rangeFunc f ps a b _ _=>intro k h;cases h
 | scope c _=>intro k h;cases h
 | label l=>intro k h;cases h
 | goto l=>intro k h;cases h
 | refuse s=>intro k h;cases h
def tabF (l:List (Nat × qB)):Tr qB:=List.rec (motive:=fun _=>Tr qB) .leaf (fun p _ g=>g.set p.1 p.2) l
theorem zy9{l:List (Nat × qB)}{f:Nat}{A:qB}(h:(tabF l).get f=some A):(f,A)∈l:=by
 induction l with
 | nil=>rw[show tabF []=.leaf from rfl,Tr.get_leaf]at h;cases h
 | cons p l ih=>
  have h:((tabF l).set p.1 p.2).get f=some A:=h
  rw[Tr.get_set]at h;split at h
  ·rename_i e;cases h;rw[e];exact yaz
  ·exact yas _ (ih h)
def zys(C:iA)(p:Nat × qB):Prop:=∃fn c,C.fns.get p.1=some fn/\fn.body=some c/\nH p.2.code=c
theorem bodyOk{C:iA}{f:Nat}{fn:Func}{c:Code}{rt lt:List (Nat × PI)}{la:List Nat}(h1:C.fns.get f=some fn)(h2:fn.body=some c)(h3:sN c=true):zys C (f,⟨aB rt lt 0 c,la⟩):=⟨fn,c,h1,h2,zl5 c 0 h3⟩
theorem zrd{C:iA}{l:List (Nat × qB)}(h:∀p∈l,zys C p):qU C (qP (tabF l)):=by
 intro f c hc;unfold qP at hc;rw[Tr.get_mapT]at hc
 cases hq:(tabF l).get f with
 | none=>rw[hq]at hc;cases hc
 | some A=>
  rw[hq]at hc
  cases hc;obtain⟨fn,b,h1,h2,h3⟩:=h _ (zy9 hq)
  exact⟨fn,h1,by rw[h2,h3]⟩
end Go.Am
namespace Go.Am
class cC where
 n:Nat
def z5c(a:List zA)(_:pA):Option zA:=match a with | []=>some (.bool true) | _=>none
def zqw:List Nat->List Nat->Bool
 | [],_=>true
 | _::_,[]=>false
 | a::x,b::y=>bif Nat.beq a b then zqw x y else false
def z1o (sub:List Nat):List Nat->Option (List Nat × List Nat)
 | []=>bif sub.isEmpty then some ([],[])else none
 | b::l=>bif zqw sub (b::l)then some ([],pK (b::l) (wB sub))else ob (z1o sub l) fun p=>some (b::p.1,p.2)
def pCut (a:List zA)(_:pA):Option zA:=match a with
 | [.str s,.str c]=>uB (Nat.blt (wB s) 4294967281) (match z1o c s with
  | some p=>some (.tup [.str p.1,.str p.2,.bool true])
  | none=>some (.tup [.str s,.str [],.bool false]))
 | _=>none
def iJ(n:Int):List Nat:=(Lib.itoa n).map UInt8.toNat
def zu8(a:List zA)(_:pA):Option zA:=match a with
 | [.int .i64 n]=>uB (rC (-9223372036854775808) n&&iB n 9223372036854775808) (some (.str (iJ n)))
 | _=>none
def zkr(v:zA):Option Nat:=ob v.asIntK fun p=>uB (kEq p.1 .u32) (ob (dK p.2) fun n=>uB (Nat.blt n 4294967296) (some n))
def zlq:List zA->Option zA
 | []=>some (.int .u64 0)
 | [a]=>ob (zkr a) fun x=>some (.int .u64 (.ofNat x))
 | [a,b]=>ob (zkr a) fun x=>ob (zkr b) fun y=>some (.int .u64 (.ofNat (x+4294967296*y)))
 | _=>none
def zu7(a:List zA)(H:pA):Option zA:=match a with
 | [v]=>(match v.asSlice with
  | some s=>bif Nat.blt s.2.2.1 3 then ob (rD H s.1) fun c=>ob (c.1.many s.2.2.1 s.2.1) zlq else none
  | none=>uB (Nat.beq v.tag 5) (some (.int .u64 0)))
 | _=>none
end Go.Am
