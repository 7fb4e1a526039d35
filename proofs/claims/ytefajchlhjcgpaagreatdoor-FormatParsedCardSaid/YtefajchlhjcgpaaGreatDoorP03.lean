/- A plan that is true to its region. -/
import Derived.AtR
import Derived.Test.YtefajchlhjcgpaaGreatDoorP02
set_option linter.all false
noncomputable section
namespace Go.Am
open Go Go.RowKit
section
variable {q t:G Nat}{D i k m:Nat}{n:Array Oper}{s:dH}{r:List dH}{f:List Nat}
def vp(m i:Nat):tb m i=m.testBit i:=by
 have h:Nat.mod (Nat.shiftRight m i) 2=(m >>> i)%2:=rfl;unfold tb;show Nat.beq ((m >>> i)%2) 1=_;rw[Nat.testBit,Nat.and_comm,Nat.and_one_is_mod];rcases Nat.mod_two_eq_zero_or_one (m >>> i)with h | h<;>rw[h]<;>rfl
theorem Vv(i j:Nat):tb (Gb i) j=(i == j):=by
 rw[vp];show(1 <<< i).testBit j=_;rw[Nat.one_shiftLeft,Nat.testBit_two_pow];cases h:(i == j)<;>simp_all
theorem Vu(a b j:Nat):tb (Nat.lor a b) j=(tb a j||tb b j):=by
 simp_all [vp]
theorem Vt(j:Nat):tb 0 j=false:=by rw[vp];simp
theorem Pj(e:Edge):Ly e=Region.binds .any e:=by
 unfold Ly Region.binds;cases e.ground<;>rfl
def Dn(n:Array Oper)(S:Nat->Bool):Prop:=∀i o,n[i]?=some o->S i=true->∀j,tO o j->S j=true
def vt(n:Array Oper)(k m:Nat):Prop:=∀S,Dn n S->(∀o,n[k]?=some o->∀j,tO o j->S j=true)->∀j,tb m j=true->S j=true
def zg7 {j:Nat}:∀ {l:List Edge},tb (Ny t l) j=true->∃e∈l,Region.binds .any e=true/\(e.on=j\/tb (bK t e.on) j=true):=by
 intro l;induction l with
 | nil=>grind [Ny,Vt]
 | cons e l a=>
  grind [Ny,Vu,Vv,Pj]
def zok   : bK (t.d i m) k=if k=i then m else bK t k:=by
 unfold bK;rw[G.aa];by_cases h:k=i<;>simp[h]
theorem ziv  : bK .aj k=0:=rfl
def Be{b:Type}{l r:List b}{a:b} (h:a::r=l.drop i):l[i]?=some a/\r=l.drop (i+1):=by
 have c:(l.drop i)[0]?=some a:=by grind
 rw[lm]at c;refine⟨by omega,?_⟩;have:r=(l.drop i).drop 1:=by grind
 rw[this,List.drop_drop]
def zpv  : ∀(r:List Oper) (i:Nat) (t:G Nat),r=n.toList.drop i->(∀k,vt n k (bK t k))->∀k,vt n k (bK (vg r i t) k):=by
 intro r;induction r with
 | nil=>intro i t _ h k;exact h k
 | cons o r s=>
  intro i t q h;obtain⟨v,f⟩:=Be q;refine s (i+1) _ f λk=>?_;rw[zok];split
  .rename_i e;subst e;intro S d p j a;obtain⟨e,l,g,a⟩:=zg7 a;have m:n[k]?=some o:=by simp_all
   have b:=p o m e.on ⟨e,l,g,rfl⟩;rcases a with rfl | a
   .exact b
   .exact h e.on S d (λu c=>d _ u c b) j a
  grind
def zgs  : ∀(r:List Oper) (i:Nat),r=n.toList.drop i->Xd r i=true->∀k o,i<=k->n[k]?=some o->∀j,tO o j->j<k:=by
 intro r;induction r with
 | nil=>
  grind [List.drop_eq_nil_iff]
 | cons o r q=>
  intro i b h k c a p;obtain⟨d,f⟩:=Be b;unfold Xd at h;rw[bD]at h;split at h
  .rename_i g;rcases Nat.eq_or_lt_of_le a with rfl | a
   .have:c=o:=by
     simp_all
    subst this;rintro j ⟨e,m,l,rfl⟩
    grind [gI,Pj,eC]
   grind
  .cases h
def dx (n:Array Oper)(i:Nat)(a:G Nat):Prop:=∀d k,a.c d=some k ↔ k<i/\∃o,n[k]?=some o/\o.dst=some d
def ztn  : ∀(r:List Oper) (i:Nat) (t c:G Nat),r=n.toList.drop i->i<=n.size->dx n i t->I8 r i t=some c->dx n n.size c:=by
 intro r;induction r with
 | nil=>
  intro i t c q v h b;cases b;grind [List.drop_eq_nil_iff]
 | cons o r s=>
  intro i t c q v h b;obtain⟨z,m⟩:=Be q;have w:n[i]?=some o:=by simp_all
  have f:i<n.size:=(H4.1 w).1;unfold I8 at b
  cases p:o.dst with
  | none=>
   rw[p]at b;refine s (i+1) t c m f (λd k=>?_) b;rw[h d k];grind
  | some l=>
   rw[p]at b;simp only[]at b
   cases u:t.c l with
   | some x=>simp_all
   | none=>
    rw[u]at b;refine s (i+1) _ c m f (λd k=>?_) b;rw[G.aa];by_cases e:d=l
    .subst e;rw[A5 rfl];constructor
     .grind
     .rintro⟨a,y,j,g⟩;rcases Nat.lt_succ_iff_lt_or_eq.1 a with a | rfl
      .have:=(h d k).2 ⟨a,y,j,g⟩
       simp_all
      .rfl
    .rw[A3 e,h d k]
     grind
def zm4 {b:G Nat}{olds:List (Nat × List Nat)}:∀(r:List Oper) (i:Nat),r=n.toList.drop i->sd b q olds r i=true →
  ∀k o,i<=k->n[k]?=some o->CZ (bK q k) o.guard=true/\∀t∈aI o.op,vh b q k (tG k olds) t=true:=by
 intro r;induction r with
 | nil=>
  grind [List.drop_eq_nil_iff]
 | cons o r l=>
  intro i c h k m a j;obtain⟨d,e⟩:=Be c;unfold sd at h;rw[bD]at h;split at h
  .rename_i f;rw[bD]at h;split at h
   .rename_i g;rcases Nat.eq_or_lt_of_le a with rfl | a
    all_goals grind [gI]
   .cases h
  .cases h
structure Bt (n:Array Oper) (olds:List (Nat × List Nat)) (q:G Nat):Prop where
 g:nk n
 c:∀k,vt n k (bK q k)
 a:∀(i j:Nat) (o u:Oper) (d:Nat),n[i]?=some o->n[j]?=some u->o.dst=some d->u.dst=some d->i=j
 b:∀(k:Nat) (o:Oper),n[k]?=some o->CZ (bK q k) o.guard=true
 e:∀(k:Nat) (o:Oper) (j:Nat) (u:Oper) (t:Nat),n[k]?=some o->n[j]?=some u->u.dst=some t->t∈aI o.op->if t∈tG k olds then j=k\/tb (bK q j) k=true else tb (bK q k) j=true
def zgo {p:M9}(h:jY n p=true):∃q D,Bt n p.b q/\cT n.toList p.c 0=some D/\pL n.toList q p.a D=true:=by
 change CY n.toList p=true at h;unfold CY at h;rw[bD]at h;split at h
 case isFalse=>cases h
 rename_i f
 cases b:I8 n.toList 0 .aj with
 | none=>simp_all
 | some c=>
  rw[b]at h;simp only[]at h;rw[bD]at h;split at h
  case isFalse=>cases h
  rename_i l
  cases g:cT n.toList p.c 0 with
  | none=>simp_all
  | some D=>
   rw[g]at h;have r:dx n n.size c:=ztn _ 0 _ _ rfl (I1 _) (λd k=>by simp[G.ah]) b;have m:=zm4 _ 0 (by rfl) l;have s:∀k o d,n[k]?=some o->o.dst=some d->c.c d=some k:=λk o d a e=>(r d k).2 ⟨(H4.1 a).1,o,a,e⟩;refine⟨_,D,⟨λi o a=>zgs _ 0 rfl f i o (I1 _) a,zpv _ 0 _ rfl λk S _ _ j t=>?_,?_,λk o a=>(m k o (I1 _) a).1,?_⟩,rfl,h⟩
   all_goals grind [ziv,Vt,vh,Es,zD]
def Sd {D':Nat}(h:Cq n.toList i D=some D'):∃o,n[i]?=some o/\tb D i=false/\(∀j,tO o j->tb D j=true)/\∀k,tb D' k=(tb D k||k == i):=by
 unfold Cq at h;rw[mA]at h;obtain⟨o,b,a⟩:=h;rw[xI]at b;rw[qB]at a;obtain⟨a,c⟩:=a;cases c;rw[bD]at a;split at a
 .cases a
 .rename_i d;refine⟨o,by simp_all,by simp_all,?_,λk=>by grind [Vu,Vv]⟩;rintro j ⟨e,g,f,rfl⟩
  grind [Dw,gI,Pj]
def zgp {h:Nat}:∀(r:List Oper) (i:Nat),r=n.toList.drop i->Xc h D r i=true →
  ∀k o,i<=k->n[k]?=some o->tb D k=false->(∀j,tO o j->tb D j=true)->k=h:=by
 intro r;induction r with
 | nil=>
  grind [List.drop_eq_nil_iff]
 | cons o r t=>
  intro i l h k c b s;obtain⟨m,p⟩:=Be l;unfold Xc at h;rw[bD]at h;split at h
  .rename_i a;rcases Nat.eq_or_lt_of_le b with rfl | b
   .have:c=o:=by
     simp_all
    subst this;intro d g;rw[d]at a;simp only[cond_false]at a;rw[bD]at a;split at a
    .simp_all
    .exfalso;have:Dw D c=true:=by
      unfold Dw;rw[gI,C8];intro e f
      cases q:Ly e with
      | false=>rfl
      | true=>exact g e.on ⟨e,f,by grind [Pj],rfl⟩
     simp_all
   grind
  .cases h
def za8  {a:List Nat}:∀(r:List Oper) (i:Nat),r=n.toList.drop i->Xf m D a r i=true →
  ∀k o,i<=k->n[k]?=some o->tb D k=true->tb m k=true\/lY o.op=true\/zO o.op=true\/k∈a:=by
 intro r;induction r with
 | nil=>
  grind [List.drop_eq_nil_iff]
 | cons o r j=>
  intro i c h k l b g;obtain⟨d,e⟩:=Be c;unfold Xf at h;rw[bD]at h;split at h
  .rename_i f;rcases Nat.eq_or_lt_of_le b with rfl | b
   all_goals grind [Es]
  .cases h
def zm6   : ∀(r:List Oper) (i:Nat),r=n.toList.drop i->se D r i=true->∀k,i<=k->k<n.size->tb D k=true:=by
 intro r;induction r with
 | nil=>
  grind [List.drop_eq_nil_iff]
 | cons o r g=>
  intro i b h k a f;obtain⟨c,d⟩:=Be b;unfold se at h;rw[bD]at h;split at h
  .rename_i e;rcases Nat.eq_or_lt_of_le a with rfl | a
   all_goals grind
  .cases h
def XK   (h:pL n.toList q [] D=true):∀k,k<n.size->tb D k=true:=
 λk a=>zm6 _ 0 rfl h k (I1 _) a
def Xa     (h:pL n.toList q (s::r) D=true)(l:s.a<=n.size) :
  (∀k o,n[k]?=some o->tb D k=false->(∀j,tO o j->tb D j=true)->k=s.a) ∧
  (∀k o,n[k]?=some o->tb D k=true->tb (bK q s.a) k=true\/lY o.op=true\/zO o.op=true\/k∈s.c) ∧
  ∃d f,Cq n.toList s.a D=some d/\cT n.toList s.b d=some f/\pL n.toList q r f=true:=by
 unfold pL at h;rw[bD,A3 λe=>by grind [eC,dD],bD]at h;split at h
 case isFalse=>cases h
 rename_i g;rw[bD]at h;split at h
 case isFalse=>cases h
 rename_i i;refine⟨λk o a b c=>zgp _ 0 rfl g k o (I1 _) a b c,λk o a b=>za8 _ 0 rfl i k o (I1 _) a b,?_⟩
 cases m:Cq n.toList s.a D with
 | none=>simp_all
 | some d=>
  grind [lA]
def XM     (h:pL n.toList q (s::r) D=true)(j:n.size<s.a)(i:s.a<=n.size+n.size) :
  ∃o a b,n[s.a-(n.size+1)]?=some o/\zO o.op=true/\Cq n.toList (s.a-(n.size+1)) D=some a/\cT n.toList s.b a=some b/\pL n.toList q r b=true:=by
 have f:Nat.sub s.a (Nat.succ (vB n.toList))=s.a-(n.size+1):=by rw[dD];simp
 unfold pL at h;rw[bD,A5 (eC.2 (by grind [dD])),bD,A3 (λe=>by grind [eC]),bD,f]at h;split at h
 case isFalse=>cases h
 rename_i c
 cases g:Cq n.toList (s.a-(n.size+1)) D with
 | none=>simp_all
 | some a=>
  rw[g]at h;simp only[lA]at h
  cases d:cT n.toList s.b a with
  | none=>simp_all
  | some b=>
   rw[d]at h;rw[xI]at c
   cases k:n.toList[s.a-(n.size+1)]? with
   | none=>grind
   | some o=>rw[k]at c;exact⟨o,a,b,by simp_all,c,rfl,d,h⟩
structure HE (n:Array Oper) (q:G Nat) (D:Nat) (f:List Nat) (D1:Nat):Prop where
 e:∀i∈f,∃o,n[i]?=some o/\tb D i=false/\(∀j,tO o j->tb D j=true)/\o.dst=none
 b:f.Nodup
 a:∀k,tb D1 k=(tb D k||decide (k∈f))
 d:∀k o,n[k]?=some o->tb D1 k=false->(∀g∈f,tb (bK q k) g=true)\/¬ ∀j,tO o j->tb D1 j=true
 c:∀k o,n[k]?=some o->tb D k=true->lY o.op=true\/zO o.op=true\/Td o.op=true\/∀g∈f,tb (bK q g) k=true
theorem IA {o:Oper}:Dw D o=true ↔ ∀j,tO o j->tb D j=true:=by
 unfold Dw;rw[gI,C8];constructor
 .rintro h j ⟨e,a,b,rfl⟩
  grind [Pj]
 .intro h e a
  cases b:Ly e with
  | false=>rfl
  | true=>exact h e.on ⟨e,a,by grind [Pj],rfl⟩
def gu   : ∀ {f:List Nat} {E a:Nat},sf n.toList D f E=some a->(∀k,tb D k=true->tb E k=true) →
  (∀i∈f,∃o,n[i]?=some o/\tb E i=false/\(∀j,tO o j->tb D j=true)/\o.dst=none)/\f.Nodup/\∀k,tb a k=(tb E k||decide (k∈f)):=by
 intro f;induction f with
 | nil=>intro E a h _;cases h;simp_all
 | cons i f r=>
  intro E a h p;unfold sf at h;simp only[mA,qB,B3,E7,xI]at h;obtain⟨o,x,⟨⟨l,m⟩,c⟩,h⟩:=h;have u:∀k,tb (Nat.lor E (Gb i)) k=(tb E k||i == k):=λk=>by rw[Vu,Vv]
  obtain⟨s,g,t⟩:=r h (λk w=>by simp_all);have b:i∉f:=λv=>by
   grind
  refine⟨λj e=>?_,List.nodup_cons.2 ⟨b,g⟩,λk=>?_⟩
  .rcases C6.1 e with rfl | e
   .refine⟨o,by simp_all,l,IA.1 m,?_⟩
    cases q:o.dst with
    | none=>rfl
    | some d=>rw[q]at c;cases c
   grind
  grind
def zgn  {a:Nat}  : ∀(r:List Oper) (i:Nat),r=n.toList.drop i->Xb q a f r i=true →
  ∀k o,i<=k->n[k]?=some o->tb a k=false->(∀g∈f,tb (bK q k) g=true)\/¬ ∀j,tO o j->tb a j=true:=by
 intro r;induction r with
 | nil=>
  grind [List.drop_eq_nil_iff]
 | cons o r p=>
  intro i c h k s b m;obtain⟨d,e⟩:=Be c;unfold Xb at h;rw[bD]at h;split at h
  case isFalse=>cases h
  rename_i l;rcases Nat.eq_or_lt_of_le b with rfl | b
  all_goals grind [gI,IA]
def XN     : ∀(r:List Oper) (i:Nat),r=n.toList.drop i->Xe q D f r i=true →
  ∀k o,i<=k->n[k]?=some o->tb D k=true->lY o.op=true\/zO o.op=true\/Td o.op=true\/∀g∈f,tb (bK q g) k=true:=by
 intro r;induction r with
 | nil=>
  grind [List.drop_eq_nil_iff]
 | cons o r l=>
  intro i b h k m a j;obtain⟨c,d⟩:=Be b;unfold Xe at h;rw[bD]at h;split at h
  case isFalse=>cases h
  rename_i e;rcases Nat.eq_or_lt_of_le a with rfl | a
  all_goals grind [gI]
def XL     (h:pL n.toList q (s::r) D=true)(t:n.size+n.size<s.a) :
  ∃c d,HE n q D s.c c/\cT n.toList s.b c=some d/\pL n.toList q r d=true:=by
 unfold pL at h;rw[bD,A5 (eC.2 (by grind [dD])),bD,A5 (eC.2 (by grind [dD]))]at h;split at h
 case h_2=>cases h
 rename_i d e;unfold zgr at e;simp only[mA,qB,B3]at e;obtain⟨c,j,⟨l,m⟩,p⟩:=e;obtain⟨f,g,i⟩:=gu j λ_ h=>h;exact⟨c,d,⟨f,g,i,λk o a b=>zgn _ 0 rfl l k o (I1 _) a b,λk o a b=>XN _ 0 rfl m k o (I1 _) a b⟩,p,h⟩
end
section
variable {i j:Nat}{v:O}{o:Oper}
section
variable {P:Program}{C:fA}{μ:Mu}{all:Array Oper}{olds:List (Nat × List Nat)}{A:G Nat}{n:Nat}{old tm:Tm}{D:Nat}{S:Nat->Bool}{a:List Nat}{tmps:Array Value}{ds:List Deferred}
def Vm:rA μ aD undef:=by rw[aD,rA];exact⟨#[],rfl,rfl⟩
def zi9{e:mD}(b:∀g,g<256->μ g=some ⟨g,true,0,0,true⟩)(d:∀t v,Cb t e=some v->rA μ v (tmps.getD t undef)):iG μ e (Act.eval ⟨tmps,ds⟩):=by
 intro x v h
 cases x with
 | tmp t=>exact d t v h
 | const c=>exact XO h
 | global g=>
  change AM g e=some v at h;unfold AM at h;rw[bD]at h;split at h
  .rename_i a;cases h;rw[rA];exact⟨_,b g (eC.1 a),rfl⟩
  .cases h
 | func f=>
  change V3 f e=some v at h;cases h;rw[rA];exact⟨.func f,#[],#[],rfl,rfl,rfl,rfl⟩
def cF.l(a:∀g,g<256->μ g=some ⟨g,true,0,0,true⟩)(h:cF μ n tm tmps):iG μ (.b tm) (Act.eval ⟨tmps,ds⟩):=
 zi9 a λt v b=>h.2 t v b
theorem Tm.f{t:Tm} {x:O}:(t.c i x).a j=if j=i then some x else t.a j:=by
 unfold Tm.c Tm.a;simp only[uM];by_cases h:Nat.blt i t.k=true
 .grind [G.aa]
 .rw[A3 h]
  grind [V2,uM,zD]
theorem qK{dst:Option Nat} {t:Nat}:(By n tm dst v).a t=if dst=some t/\t<n then some v else tm.a t:=by
 unfold By R4
 cases dst with
 | none=>simp[V7]
 | some d=>
  grind [Nn,Tm.f,eC]
def jV(tm old:Tm)(olds:List (Nat × List Nat))(i:Nat)(o:Oper):mD:=.c tm old (tG i olds) (aI o.op)
structure aG (μ:Mu) (all:Array Oper) (olds:List (Nat × List Nat)) (A:G Nat) (n:Nat) (old tm:Tm) (D:Nat) (S:Nat->Bool) (a:List Nat) (tmps:Array Value):Prop where
 r:Bt all olds A
 p:sh all S a
 z:∀i,S i=true->tb D i=true
 m:Dn all S
 l:Dn all (tb D)
 q:tmps.size=n
 aj:∀(i:Nat) (o:Oper) (d:Nat) (v:O),all[i]?=some o->o.dst=some d->S i=true->d<n->tm.a d=some v->rA μ v (tmps.getD d undef)
 s:∀(d:Nat) (v:O),d<n->(∀(i:Nat) (o:Oper),all[i]?=some o->o.dst=some d->S i=false)->old.a d=some v->rA μ v (tmps.getD d undef)
 aa:∀d:Nat,d<n->(∀(i:Nat) (o:Oper),all[i]?=some o->o.dst=some d->tb D i=false)->tm.a d=old.a d
 ah:∀(d:Nat) (v:O),n<=d->(tm.a d=some v\/old.a d=some v)->rA μ v undef
def Bt.f(R:Bt all olds A)(a:Dn all S)  (c:all[i]?=some o)(d:∀j,tO o j->S j=true)(h:tb (bK A i) j=true):S j=true:=
 R.c i S a (λe b=>by simp_all) j h
def Ol{d:Nat}(h:tmps.size<=d):tmps.getD d undef=undef:=by
 simp_all
def aG.ak(R:aG μ all olds A n old tm D S a tmps)(z:∀g,g<256->μ g=some ⟨g,true,0,0,true⟩)  (y:all[i]?=some o)(hi:S i=false)(C:∀j,tO o j->S j=true) :
  iG μ (jV tm old olds i o) (Act.eval ⟨tmps,ds⟩):=by
 refine zi9 z λt v h=>?_;unfold jV at h;simp only[Cb]at h;rw[bD]at h;split at h
 case isFalse=>cases h
 rename_i r;have r:=(Es _ _).1 r;by_cases l:t<n
 .by_cases w:∃(j:Nat) (u:Oper),all[j]?=some u/\u.dst=some t
  .obtain⟨j,u,f,c⟩:=w;have e:=R.r.e i o j u t y f c r;by_cases b:t∈tG i olds
   .rw[A5 b]at e;rw[(Es _ _).2 b]at h;simp only[cond_true]at h;have x:S j=false:=by
     rcases e with rfl | e
     .exact hi
     .cases x:S j with
      | false=>rfl
      | true=>
       have:=R.r.f R.m f (λk B=>R.m j u f x k B) e
       simp_all
    refine R.s t v l (λE F s q=>?_) h;have:=R.r.a E j F u t s f q c
    simp_all
   .rw[A3 b]at e;have:yJ t (tG i olds)=false:=by
     grind [Es]
    rw[this]at h;simp only[cond_false]at h;exact R.aj j u t v f c (R.r.f R.m y C e) l h
  .have d:∀(i:Nat) (o:Oper),all[i]?=some o->o.dst=some t->S i=false:=λi o m p=>absurd ⟨i,o,m,p⟩ w;have k:=R.aa t l λi o m p=>absurd ⟨i,o,m,p⟩ w;refine R.s t v l d ?_
   grind
 .rw[Ol (by rw[R.q];omega)];refine R.ah t v (by omega) ?_
  grind
def HP {b:Bool}(h:rA μ v (.bool b)):v=.d b:=by
 cases v<;>rw[rA]at h
 all_goals simp_all
def aG.y(R:aG μ all olds A n old tm D S a tmps)  {w:Bool}(r:all[i]?=some o)(y:∀j,tO o j->S j=true)(h:cG o.guard all tm=some w) :
  Region.wanted o (yielded all tmps)=w:=by
 have f:=R.r.b i o r;unfold cG Qk at h;unfold Region.wanted
 cases q:o.guard with
 | none=>rw[q]at h;cases h;rfl
 | some B=>
  obtain⟨j,g⟩:=B;rw[q]at h f;simp only[Qj,mA,xI]at h;obtain⟨d,⟨u,E,m⟩,v,s,h⟩:=h;have l:all[j]?=some u:=by simp_all
  have t:S j=true:=R.r.f R.m r y f;have z:yielded all tmps j=match tmps[d]? with | some (.bool b)=>some b | _=>none:=by
   grind [yielded]
  simp only[];rw[z];by_cases p:d<n
  .have C:d<tmps.size:=by rw[R.q];exact p
   have c:=R.aj j u d v l m t p s;have k:tmps[d]?=some (tmps.getD d undef):=by simp_all
   rw[k];generalize tmps.getD d undef=x at c
   cases e:v.r with
   | some b=>
    rw[e]at h;have:v=.d b:=by cases v<;>simp[O.r]at e;rw[e]
    rw[this,rA]at c;subst c;simp only[Option.some.injEq]at h;rw[<- h,kZ];cases b<;>cases g<;>rfl
   | none=>
    rw[e]at h;cases h
    cases x with
    | bool b=>rw[HP c]at e;cases e
    | _=>rfl
  .have k:tmps[d]?=none:=by simp[R.q];omega
   rw[k];have c:=R.ah d v (by omega) (.inl s)
   cases e:v.r with
   | some b=>
    have:v=.d b:=by cases v<;>simp[O.r]at e;rw[e]
    rw[this,rA]at c;cases c
   | none=>simp_all
def aG.au {D':Nat}{tm':Tm} {v':Value} (R:aG μ all olds A n old tm D S (i::a) tmps)(z:all[i]?=some o)
  (w:∀k,tb D' k=(tb D k||k == i)) (B:∀d,o.dst=some d->d<n->tm'.a d=some v) (c:∀d,(o.dst=some d->n<=d)->tm'.a d=tm.a d) (I:rA μ v v') :
  aG μ all olds A n old tm' D' (λk=>S k||k == i) a (Act.put ⟨tmps,ds⟩ o.dst v').tmps:=by
 obtain⟨J,m,H,C,E⟩:=R.p;rw[z]at m;cases m;have p:∀d,(Act.put ⟨tmps,ds⟩ o.dst v').tmps.getD d undef=if o.dst=some d/\d<n then v' else tmps.getD d undef:=by
  intro d;unfold Act.put
  cases g:o.dst with
  | none=>simp
  | some t=>
   simp only[mi,mh];by_cases e:t=d
   .subst e;by_cases y:t<n
    .simp[y,R.q]
    .simp[y,R.q]
   grind
 have s:(Act.put ⟨tmps,ds⟩ o.dst v').tmps.size=n:=by
  unfold Act.put;cases o.dst<;>simp[R.q]
 refine⟨R.r,E,λk b=>?_,?_,?_,s,?_,?_,?_,?_⟩
 .rw[w];simp only[H5]at b ⊢;exact b.imp (R.z k) id
 .intro k u f b j r;simp only[H5,beq_iff_eq]at b ⊢;rcases b with b | rfl
  .exact .inl (R.m k u f b j r)
  simp_all
 .intro k u f b j r;rw[w]at b ⊢;simp only[H5,beq_iff_eq]at b ⊢;rcases b with b | rfl
  .exact .inl (R.l k u f b j r)
  .rw[z]at f;cases f;exact .inl (R.z j (C j r))
 .intro k u d x f l b g q;rw[p];by_cases e:o.dst=some d
  .simp_all
  .rw[A3 λh=>e h.1];rw[c d λh=>absurd h e]at q;refine R.aj k u d x f l ?_ g q
   grind
 .intro d x g F q;rw[p];have e:o.dst≠some d:=λe=>by
   grind
  rw[A3 λh=>e h.1];refine R.s d x g (λk u f l=>?_) q
  simp_all
 .intro d g F;have e:o.dst≠some d:=λe=>by
   grind
  rw[c d λh=>absurd h e];refine R.aa d g λk u f l=>?_
  simp_all
 .intro d x g q;refine R.ah d x g ?_
  simp_all
end
end
end Go.Am
namespace Go.Am.HM
open Go Go.Am
variable {b:Nat}{a:O}{ty:jD}
def aa (H H':sA):Prop:=∀b y,H.t.c b=some y->H'.t.c b=some y
section
variable {H HA:sA}{e:mD}{C:fA}{v:O}
theorem Df(h:aa H HA) {p:G O × Nat × Option Lo}(a:eD H b=some p):eD HA b=some p:=by
 unfold eD at a ⊢;rw[mA]at a ⊢;obtain⟨y,c,d⟩:=a;exact⟨y,h _ _ c,d⟩
theorem Lw(h:aa H HA) {p:List (O × O)}(a:pN H b=some p):pN HA b=some p:=by
 unfold pN at a ⊢;rw[mA]at a ⊢;obtain⟨y,c,d⟩:=a;exact⟨y,h _ _ c,d⟩
theorem GI(h:aa H HA){s d:jD} (b:rW C s d a H=some v):rW C s d a HA=some v:=by
 unfold rW at b ⊢;split at b
 .omega
 .rename_i c;rw[qB]at b ⊢;refine⟨b.1,?_⟩;have b:=b.2;rw[bD]at b ⊢;split at b
  all_goals grind [mA,qB,Lt,Df]
theorem BR(h:aa H HA)  {l r:Option O}(g:gP C H ty a l r=some v):gP C HA ty a l r=some v:=by
 have t:∀ {d e b j i f},oS C H d e b j i f l r=some v->oS C HA d e b j i f l r=some v:=by
  intro d e b j i f g;unfold oS at g ⊢;simp only[mA]at g ⊢;obtain⟨k,q,m,s,g⟩:=g;refine⟨k,q,m,s,?_⟩
  cases n:eD H b with
  | none=>
   have o:iP H b k.b f m.1 d=false:=by unfold iP;rw[n]
   have p:mQ H b k.b f m.1 d=false:=by unfold mQ;rw[n]
   rw[o,p,E9,E9]at g;cases g
  | some c=>
   grind [iP,Df,mQ]
 grind [gP,mA]
theorem DI(h:aa H HA){m:O}{l:List (O × O)}(a:Ak H m=some l):Ak HA m=some l:=by
 grind [Ak,Lw]
theorem DT(h:aa H HA)  {n:Nat}(b:dY H ty a=some n):dY HA ty a=some n:=by
 unfold dY at b ⊢;split at b
 all_goals grind [qB,mA,Lw]
theorem f(h:aa H HA){o:Op}(g:(jG o).f C e H=some v):(jG o).f C e HA=some v:=by
 cases o<;>first | exact g | skip
 case makeFunc p a b=>cases p<;>exact g
 case load t a=>
  change Aq t a C e H=some v at g;show Aq t a C e HA=some v;unfold Aq at g ⊢;simp only[mA]at g ⊢
  grind [Df]
 case convert s d x=>
  change eS s d x C e H=some v at g;show eS s d x C e HA=some v;unfold eS at g ⊢;simp only[mA]at g ⊢
  grind [GI]
 case slice t x l k q=>
  cases q with
  | some m=>exact g
  | none=>
   change Ev t x l k C e H=some v at g;show Ev t x l k C e HA=some v;unfold Ev at g ⊢;simp only[mA]at g ⊢
   grind [BR]
 case lookup t x i n=>
  change Ap t x i n C e H=some v at g;show Ap t x i n C e HA=some v;unfold Ap at g ⊢;simp only[mA,qB]at g ⊢
  grind [DI]
 case call c=>
  change (lX c c.callee).f C e H=some v at g;show(lX c c.callee).f C e HA=some v
  cases j:c.callee with
  | builtin b=>
   rw[j]at g;cases b<;>first | exact g | skip
   case len=>
    change sU c C e H=some v at g;show sU c C e HA=some v;unfold sU at g ⊢;simp only[mA]at g ⊢
    grind [DT]
  | _=>rw[j]at g;exact g
end
end Go.Am.HM
namespace Go.Am
open Go Go.RowKit
variable {o u:Oper}{e E:mD}{dp i k:Nat}{w:Bool}{v x:O}{ν:Mu}
theorem ZV{o:Op}(h:lY o=true)(C:fA)(e:mD)(H H':sA):(jG o).f C e H=(jG o).f C e H':=by
 cases o<;>first | (simp[lY]at h;done) | rfl | skip
 case makeFunc c a b=>cases c<;>rfl
theorem ZW (h:∀x,ev x e=ev x E)(o:Op)(C:fA)(H:sA):(jG o).f C e H=(jG o).f C E H:=by
 have n:∀l,eQ l e=eQ l E:=λl=>by unfold eQ;rw[funext h]
 have m:∀l,I5 l e=I5 l E:=λl=>by grind [I5]
 have k:∀x,I4 x e=I4 x E:=λx=>by cases x<;>simp[I4,h]
 cases o<;>first | rfl | skip
 case move x=>exact h x
 case assign x=>exact h x
 case pick c a b=>simp only[jG,Sw,h]
 case load t a=>simp only[jG,Aq,h]
 case nilCheck x=>simp only[jG,Ey,h]
 case binOp r t x y z=>simp only[jG,Aw,h]
 case unOp r t x=>simp only[jG,P8,h]
 case convert s d x=>simp only[jG,eS,h]
 case makeInterface t x=>simp only[jG,Ia,h]
 case makeFunc g a b=>cases g<;>simp only[jG,Ib,Oc,Ew,n]
 case slice t x w v p=>cases p<;>simp only[jG,Sv,Ev,Ew,h,k]
 case fieldAddr s x f=>simp only[jG,Au,h]
 case field t x f=>simp only[jG,Ic,h]
 case indexAddr t x i=>simp only[jG,Ar,h]
 case index t x i=>simp only[jG,As,h]
 case extract t i=>simp only[jG,Av,h]
 case build t A=>simp only[jG,Cu,m]
 case typeAssert x a u q=>simp only[jG,Ax,h]
 case lookup t x i q=>simp only[jG,Ap,h]
 case call c=>
  have j:L4 c e=L4 c E:=by unfold L4;split<;>simp only[h]
  simp only[jG,uu]
  cases c.callee with
  | builtin b=>cases b<;>simp only[lX,Xv,Ew,sU,Ao,An,h,j]
  | _=>rfl
theorem RM (h:∀t,Cb t e=Cb t E)(x:Operand):ev x e=ev x E:=by
 cases x with
 | tmp t=>exact h t
 | _=>rfl
theorem MA{tm tm' old:Tm}{olds:List (Nat × List Nat)}  (h:∀t∈aI o.op,t∉tG i olds->tm'.a t=tm.a t)(C:fA)(H:sA) :
  (jG o.op).f C (jV tm' old olds i o) H=(jG o.op).f C (jV tm old olds i o) H:=by
 grind [ZW,RM,jV,Cb,Es]
section
variable {P:Program}{C:fA}{μ:Mu}{H H':sA}{all:Array Oper}{olds:List (Nat × List Nat)}{A:G Nat}{n:Nat}{old tm tm':Tm}{D:Nat}{S:Nat->Bool}{B:List Nat}{tmps:Array Value}{ds:List Deferred}
structure wR (C:fA) (H:sA) (all:Array Oper) (olds:List (Nat × List Nat)) (n:Nat) (old tm:Tm) (i:Nat) (o:Oper) (w:Bool) (v:O):Prop where
 f:all[i]?=some o
 a:cG o.guard all tm=some w
 b:if w=true then(jG o.op).f C (jV tm old olds i o) H=some v else v=aD
 c:∀d,o.dst=some d->d<n->tm.a d=some v
def wR.p    (h:wR C H all olds n old tm i o w v)(a:lY o.op=true)(H':sA):wR C H' all olds n old tm i o w v:=
 ⟨h.f,h.a,by have:=h.b;grind [ZV],h.c⟩
def Rq(R:Bt all olds A)(h:Dn all (tb D))  (a:all[i]?=some o)(hi:tb D i=true\/(i=k/\∀j,tO o j->tb D j=true))(l:all[k]?=some u)(v:tb D k=false) :
  (∀t∈aI o.op,t∉tG i olds->u.dst≠some t)/\(∀j w,o.guard=some (j,w)->∀g,all[j]?=some g->∀d,g.dst=some d->u.dst≠some d):=by
 have r:∀j,tb (bK A i) j=true->tb D j=true:=λj c=>R.f h a (by
  rcases hi with hi | ⟨_,hi⟩
  .exact λj c=>h i o a hi j c
  omega) c
 constructor
 .intro t p q e;have:=R.e i o k u t a l e p
  simp_all
 .intro j w n g b d m e;have f:=R.b i o a;rw[n]at f;have s:=r j f;have:=R.a j k g u d b l m e
  simp_all
theorem Qh (h:∀j w,o.guard=some (j,w)->∀g,all[j]?=some g->∀d,g.dst=some d->tm'.a d=tm.a d):cG o.guard all tm'=cG o.guard all tm:=by
 unfold cG Qk
 cases b:o.guard with
 | none=>rfl
 | some c=>
  obtain⟨j,w⟩:=c;simp only[Qj,xI]
  cases e:all.toList[j]? with
  | none=>rfl
  | some g=>
   simp only[lA]
   cases a:g.dst with
   | none=>rfl
   | some d=>simp only[lA];rw[h j w b g (by simp_all) d a]
def wR.l(R:Bt all olds A)(c:Dn all (tb D))    (h:wR C H all olds n old tm i o w v)(hi:tb D i=true)(b:all[k]?=some u)(m:tb D k=false) :
  wR C H all olds n old (By n tm u.dst x) i o w v:=by
 obtain⟨r,q⟩:=Rq R c h.f (.inl hi) b m;refine⟨h.f,?_,?_,?_⟩
 .rw[Qh (tm:=tm) λj w f g l d a=>by rw[qK,A3 λe=>q j w f g l d a e.1]];exact h.a
 .have:=h.b
  grind [MA,qK]
 .intro d a p;rw[qK,A3]
  .exact h.c d a p
  .rintro⟨e,_⟩;have:=R.a i k o u d h.f b a e
   simp_all
theorem wR.q    (h:wR C H all olds n old tm i o w v)(a:HM.aa H H'):wR C H' all olds n old tm i o w v:=
 ⟨h.f,h.a,by have:=h.b;grind [HM.f],h.c⟩
structure Bv (C:fA) (μ:Mu) (dp:Nat) (all:Array Oper) (olds:List (Nat × List Nat)) (n:Nat) (old tm:Tm) (i:Nat) (o:Oper) (v:O):Prop where
 s:all[i]?=some o
 b:zO o.op=true
 a:cG o.guard all tm=some true
 m:∃H0 l,(iF o.op).f C (jV tm old olds i o) H0=.aa v (sG H0 l none)/\μ.n H0.a=some (.aa (G.ac l) (vB l) none,dp,i)
 q:∀d,o.dst=some d->d<n->tm.a d=some v
 y:Eu C o.op=none
structure Mu.t (dp:Nat) (μ ν:Mu):Prop where
 f:∀a i,μ a=some i->ν a=some i
 b:∀a x j,μ.n a=some (x,dp,j)->ν.n a=some (x,dp,j)
instance {dp:Nat} {μ ν:Mu}:CoeOut (μ.t dp ν) (μ.l ν):=⟨Mu.t.f⟩
def Mu.le.b{μ:Mu}(h:μ.le ν)(dp:Nat):μ.t dp ν:=⟨h.f,λa x j k=>by rw[h.c];exact k⟩
instance {dp:Nat} {μ ν:Mu}:Coe (μ.le ν) (μ.t dp ν):=⟨λh=>h.b dp⟩
def Mu.z(μ:Mu)(dp:Nat):μ.t dp μ:=⟨λ_ _ h=>h,λ_ _ _ h=>h⟩
def Mu.r {a b c:Mu}(h:a.t dp b)(k:b.t dp c):a.t dp c:=⟨λx i d=>k.f x i (h.f x i d),λx y j d=>k.b x y j (h.b x y j d)⟩
theorem Bv.c  (h:μ.t dp ν)   (p:Bv C μ dp all olds n old tm i o v):Bv C ν dp all olds n old tm i o v:=by
 obtain⟨a,l,b,c⟩:=p.m;exact⟨p.s,p.b,p.a,⟨a,l,b,h.b _ _ _ c⟩,p.q,p.y⟩
theorem QJ{tm tm' old:Tm}  (a:zO o.op=true)(h:∀t∈aI o.op,t∉tG i olds->tm'.a t=tm.a t)(C:fA)(H:sA) :
  (iF o.op).f C (jV tm' old olds i o) H=(iF o.op).f C (jV tm old olds i o) H:=by
 grind [YD,RM,jV,Cb,Es]
def Bv.f (R:Bt all olds A)(q:Dn all (tb D))   (h:Bv C μ dp all olds n old tm i o v)(hi:tb D i=true)(c:all[k]?=some u)(y:tb D k=false) :
  Bv C μ dp all olds n old (By n tm u.dst x) i o v:=by
 obtain⟨E,F⟩:=Rq R q h.s (.inl hi) c y;obtain⟨f,l,m,p⟩:=h.m;refine⟨h.s,h.b,?_,⟨f,l,?_,p⟩,?_,h.y⟩
 .rw[Qh (tm:=tm) λj w r g s d a=>by rw[qK,A3 λe=>F j w r g s d a e.1]];exact h.a
 .rw[QJ (tm:=tm) h.b λt B b=>by rw[qK,A3 λe=>E t B b e.1]];exact m
 .intro d a z;rw[qK,A3]
  .exact h.q d a z
  .rintro⟨e,_⟩;have:=R.a i k o u d h.s c a e
   simp_all
def Bv.r (R:Bt all olds A)(e:Dn all (tb D))   (c:all[i]?=some o)(g:∀j,tO o j->tb D j=true)(hi:tb D i=false)
  (f:zO o.op=true) (b:Eu C o.op=none) (m:cG o.guard all tm=some true) (h:∃a l,(iF o.op).f C (jV tm old olds i o) a=.aa v (sG a l none)/\μ.n a.a=some (.aa (G.ac l) (vB l) none,dp,i)) :
  Bv C μ dp all olds n old (By n tm o.dst v) i o v:=by
 obtain⟨p,q⟩:=Rq R e c (.inr ⟨rfl,g⟩) c hi;obtain⟨a,l,k,d⟩:=h;refine⟨c,f,?_,⟨a,l,?_,d⟩,?_,b⟩
 all_goals grind [Qh,qK,QJ]
def wR.r(R:Bt all olds A)(b:Dn all (tb D))    (a:all[i]?=some o)(c:∀j,tO o j->tb D j=true)(hi:tb D i=false)
  (e:cG o.guard all tm=some w) (d:if w=true then(jG o.op).f C (jV tm old olds i o) H=some v else v=aD) :
  wR C H all olds n old (By n tm o.dst v) i o w v:=by
 obtain⟨f,g⟩:=Rq R b a (.inr ⟨rfl,c⟩) a hi;refine⟨a,?_,?_,?_⟩
 all_goals grind [Qh,qK,MA]
def aG.am   {D':Nat}(R:aG μ all olds A n old tm D S B tmps)(p:all[i]?=some o)(hi:tb D i=false)(q:∀j,tO o j->tb D j=true)(h:∀k,tb D' k=(tb D k||k == i)) :
  aG μ all olds A n old (By n tm o.dst v) D' S B tmps:=by
 refine⟨R.r,R.p,λk a=>by rw[h,R.z k a];rfl,R.m,?_,R.q,?_,R.s,?_,?_⟩
 .intro k u f a j l;rw[h]at a ⊢;simp only[H5,beq_iff_eq]at a ⊢;rcases a with a | rfl
  .exact .inl (R.l k u f a j l)
  simp_all
 .intro k u d x f b a c g;rw[qK,A3]at g
  .exact R.aj k u d x f b a c g
  .rintro⟨e,_⟩;have:=R.r.a k i u o d f p b e;have m:=R.z k a
   simp_all
 .intro d c r;rw[qK,A3]
  .refine R.aa d c λk u f b=>?_
   simp_all
  grind
 .intro d x c g;refine R.ah d x c ?_
  grind [qK]
theorem aG.ac (g:μ.l ν)(R:aG μ all olds A n old tm D S B tmps):aG ν all olds A n old tm D S B tmps:=
 ⟨R.r,R.p,R.z,R.m,R.l,R.q,λi o d v a b c e f=>(R.aj i o d v a b c e f).d g _ _,λd v a b c=>(R.s d v a b c).d g _ _,R.aa,λd v a b=>(R.ah d v a b).d g _ _⟩
end
end Go.Am
namespace Go.Am
open Go Go.RowKit
section
section steps
variable {P:Program}{d b:Frame}{a:Act}{k:List Item}{cs:List Frame}{w w':World}{s:Sem Next}{c:Array Oper}
theorem ZP{v:Value}(a:s.run P w=.ok (.value v) w') :
  (stepG.apply P true d cs none s w).bare=.go { frame:=d.finish v,callers:=cs,status:=.running,dying:=none } w':=by
 simp_all [stepG.apply]
theorem zcq(a:s.run P w=.ok .skip w') :
  (stepG.apply P true d cs none s w).bare=.go { frame:=d.finish undef,callers:=cs,status:=.running,dying:=none } w':=by
 simp_all [stepG.apply]
theorem BJ{i:Nat}{rest:List Nat}{o:Oper}{v:Value}(d:c[i]?=some o)(f:Region.wanted o (yielded c a.tmps)=true)
  (e:(o.semAt b.roundOf a.eval).run P w=.ok (.value v) w') :
  step P (lone (b.atR a (.inRegion c (i::rest)::k)) cs w)=.next (lone (b.atR (a.put o.dst v) (.inRegion c rest::k)) cs w'):=by
 have:=Frame.finish_atR b a c i rest k v
 grind [step_lone_go,stepGR_op,ZP]
theorem VQ{i:Nat}{rest:List Nat}{o:Oper}(d:c[i]?=some o)(f:Region.wanted o (yielded c a.tmps)=true)
  (e:(o.semAt b.roundOf a.eval).run P w=.ok .skip w') :
  step P (lone (b.atR a (.inRegion c (i::rest)::k)) cs w)=.next (lone (b.atR (a.put o.dst undef) (.inRegion c rest::k)) cs w'):=by
 have:=Frame.finish_atR b a c i rest k undef
 grind [step_lone_go,stepGR_op,zcq]
theorem BK{i:Nat}{rest:List Nat}{o:Oper}(d:c[i]?=some o)(e:Region.wanted o (yielded c a.tmps)=false) :
  step P (lone (b.atR a (.inRegion c (i::rest)::k)) cs w)=.next (lone (b.atR (a.put o.dst undef) (.inRegion c rest::k)) cs w):=by
 grind [stepR_op_skip]
end steps
mutual
theorem BZ:∀(d:Nat) (a b:O),A8 d a b=true->a=b
 | d,a,b,h=>by
  cases a<;>cases b<;>cases d<;>simp[A8,kZ,hO,Fe,eJ,Nat.beq_eq]at h ⊢
  all_goals first
   | exact h
   | (obtain⟨c,e⟩:=h;exact⟨c,e⟩)
   | exact BY _ _ _ h
   | omega
theorem BY:∀(d:Nat) (a b:List O),A8.sames d a b=true->a=b
 | d,[],[],_=>rfl
 | d,a::x,b::y,h=>by
  simp only[A8.sames,B3]at h;rw[BZ d a b h.1,BY d x y h.2]
 | d,[],b::y,h=>by simp[A8.sames]at h
 | d,a::x,[],h=>by simp[A8.sames]at h
end
section
variable {P:Program}{C:fA}{B N:Nat}{μ:Mu}{H H':sA}{w:World}{all:Array Oper}{olds:List (Nat × List Nat)}{k:G Nat}{n:Nat}{old tm tm':Tm}{D D':Nat}{S:Nat->Bool}{g:List Nat}{tmps:Array Value}{ds:List Deferred}{dp:Nat}
def eI(C:fA)(μ:Mu)(dp:Nat)(H:sA)(all:Array Oper)(olds:List (Nat × List Nat))(n:Nat)(old tm:Tm)(D:Nat)(S:Nat->Bool):Prop:=
 ∀i,tb D i=true->S i=false->(∃o w v,wR C H all olds n old tm i o w v)\/∃o v,Bv C μ dp all olds n old tm i o v
def Xs:∀(l:List Nat) (tm:Tm) (D:Nat),bV C H all n old olds l tm=some tm'->cT all.toList l D=some D'->aG μ all olds k n old tm D S g tmps->eI C μ dp H all olds n old tm D S →
  aG μ all olds k n old tm' D' S g tmps/\eI C μ dp H all olds n old tm' D' S:=by
 intro l;induction l with
 | nil=>intro tm D h b R w;cases h;cases b;simp_all
 | cons i l A=>
  intro tm D h b R w;unfold bV at h;unfold cT at b;rw[mA]at b;obtain⟨E,x,b⟩:=b;simp only[mA,xI]at h;obtain⟨o,F,s,z,v,y,h⟩:=h;obtain⟨I,e,m,t,d⟩:=Sd x;have a:all[i]?=some o:=by simp_all
  rw[a]at e;cases e;have f:if s=true then(jG o.op).f C (jV tm old olds i o) H=some v else v=aD:=by
   cases s with
   | true=>rw[A5 rfl];exact y
   | false=>simp_all
  refine A _ _ h b (R.am a m t d) λj c p=>?_;rw[d]at c;simp only[H5,beq_iff_eq]at c;rcases c with c | rfl
  .rcases w j c p with⟨u,B,r,q⟩ | ⟨u,r,q⟩
   .exact .inl ⟨u,B,r,q.l R.r R.l c a m⟩
   .exact .inr ⟨u,r,q.f R.r R.l c a m⟩
  .exact .inl ⟨o,s,v,wR.r R.r R.l a t m z f⟩
structure N0 (all:Array Oper) (n:Nat) (tm:Tm) (i:Nat) (o:Oper) (w:Bool) (v:O):Prop where
 b:all[i]?=some o
 a:cG o.guard all tm=some w
 c:w=false->v=aD
 f:∀d,o.dst=some d->d<n->tm.a d=some v
def zky:∀(l:List Nat),Ix C H all old olds tm l=true->∀i∈l,∀o w v,N0 all n tm i o w v->∃v,wR C H all olds n old tm i o w v:=by
 intro l;induction l with
 | nil=>simp_all
 | cons j l z=>
  intro h i g o w v W;unfold Ix at h;split at h
  case h_2=>cases h
  rename_i c;rcases C6.1 g with rfl | g
  .simp only[mA,xI]at c;obtain⟨s,p,d,m,A,k,c⟩:=c;have b:all[i]?=some s:=by simp_all
   rw[W.b]at b;cases b;rw[W.a]at k;cases k
   cases w with
   | false=>exact⟨v,W.b,W.a,by rw[A3 (by simp)];exact W.c rfl,W.f⟩
   | true=>
    simp only[cond_true,mA]at c;obtain⟨t,f,u,r,q⟩:=c;have e:=BZ _ _ _ (D9 q);refine⟨t,W.b,W.a,by rw[A5 rfl];exact f,λx a y=>?_⟩;rw[m]at a;cases a;rw[r,e]
  grind
end
end
section
section
variable {P:Program}{C:fA}{B N:Nat}{μ:Mu}{H H':sA}{w:World}{all:Array Oper}{olds:List (Nat × List Nat)}{q:G Nat}{n:Nat}{old tm tm':Tm}{D D':Nat}{S:Nat->Bool}{p:List Nat}{tmps:Array Value}{ds:List Deferred}{dp:Nat}
variable {b:Frame}{k:List Item}{cs:List Frame}
structure Dm (B N dp:Nat) (μ:Mu) (H:sA) (w:World) (μ':Mu) (w':World):Prop where
 b:lB B N μ' H w'
 g:μ.l μ'
 j:∀d,d≠dp->μ.t d μ'
 below:Below N w w'
theorem Dm.c(a:lB B N μ H w):Dm B N dp μ H w μ w:=⟨a,λ_ _ h=>h,λd _=>μ.z d,Below.refl _ _⟩
def Dm.f{b c:Mu}{g j:World}(h:Dm B N dp μ H w b g)(k:Dm B N dp b H g c j):Dm B N dp μ H w c j:=
 ⟨k.b,λa i e=>k.g a i (h.g a i e),λd f=>Mu.r (h.j d f) (k.j d f),h.below.trans k.below⟩
def LL(hT:nG P C)(A:lB B N μ H w){i:Nat}(R:aG μ all olds q n old tm D S (i::p) tmps)(hp:eI C μ dp H all olds n old tm D S)(hi:tb D i=true) :
  ∃X s I w',step P (lone (b.atR ⟨tmps,ds⟩ (.inRegion all (i::p)::k)) cs w)=.next (lone (b.atR ⟨s,ds⟩ (.inRegion all p::k)) cs w')/\Dm B N dp μ H w I w' ∧
   aG I all olds q n old tm D X p s/\eI C I dp H all olds n old tm D X/\∀k,S k=true->X k=true:=by
 obtain⟨o,y,hS,T,_⟩:=R.p;have L:∀k,tb D k=(tb D k||k == i):=by
  simp_all
 have K:∀t,Act.put ⟨tmps,ds⟩ o.dst t=⟨(Act.put ⟨tmps,ds⟩ o.dst t).tmps,ds⟩:=by intro t;unfold Act.put;cases o.dst<;>rfl
 rcases hp i hi hS with⟨o',wn,v,g⟩ | ⟨o',v,g⟩
 .have:=g.f;rw[y]at this;cases this;have hw:=R.y y T g.a;have E:∀t,rA μ v t->aG μ all olds q n old tm D (λk=>S k||k == i) p (Act.put ⟨tmps,ds⟩ o.dst t).tmps/\eI C μ dp H all olds n old tm D (λk=>S k||k == i):=by
   intro t r;refine⟨R.au y L g.c (λ_ _=>rfl) r,λj U F=>hp j U ?_⟩
   grind
  cases wn with
  | false=>
   have r:=g.b;rw[A3 (by simp)]at r;subst r;obtain⟨r1,r2⟩:=E undef Vm;refine⟨_,_,μ,w,?_,.c A,r1,r2,λk hk=>by grind⟩
   grind [BK]
  | true=>
   have r:=g.b;rw[A5 rfl]at r;obtain⟨t,Z,Q⟩:=zkx hT A (R.ak (ds:=ds) A.ac y hS T) r;obtain⟨r1,r2⟩:=E t Q;refine⟨_,_,μ,w,?_,.c A,r1,r2,λk hk=>by grind⟩;rw[<- K];refine BJ (a:=⟨tmps,ds⟩) y hw ?_;rw[Oper.semAt_eq]
   .exact Z
   .intro c e;rw[e]at r;cases r
 .have:=g.s;rw[y]at this;cases this;have hw:=R.y y T g.a;obtain⟨f,l,Z,Q⟩:=g.m;obtain⟨W,vs,t,elem,e1,a8,hl,r⟩:=zom (P:=P) (w:=w) hT (R.ak (ds:=ds) A.ac y hS T) o g.b g.y Z;have e2:sG f l none=sG f W none:=e1;have p1:=(A.ax _ _ _ Q).1;have lg:∀c,(μ.q f.a ⟨w.heap.size,true,0,0,false⟩) c=if c=f.a then some ⟨w.heap.size,true,0,0,false⟩else μ c:=λ_=>rfl;have z:μ.l (μ.q f.a ⟨w.heap.size,true,0,0,false⟩):=λc j U=>by
   grind
  have a6:∀c x d j,(d≠dp\/j≠i)->μ.n c=some (x,d,j)->(μ.q f.a ⟨w.heap.size,true,0,0,false⟩).n c=some (x,d,j):=by
   intro c x d j aa hc;show(if c=f.a then none else μ.n c)=_
   all_goals grind
  have M:(uA.aa (G.ac l) (vB l) none)=.aa (G.ac W) (vB W) none:=by
   have h3:(sG f l none).t.c f.a=(sG f W none).t.c f.a:=by rw[e2]
   have hg:∀m,(sG f m none).t.c f.a=some (.aa (G.ac m) (vB m) none):=λm=>by
    show(f.t.d f.a _).c f.a=_;rw[G.aa,A5 rfl]
   grind
  have a1:lB B N (μ.q f.a ⟨w.heap.size,true,0,0,false⟩) H (w.alloc (.cells vs elem)):=by
   refine A.b8 Q rfl rfl ?_;rw[M];have:=(bB.q z _ _ hl).y (i:=⟨w.heap.size,true,0,0,false⟩) rfl (elem:=elem)
   rwa [Array.toArray_toList]at this
  have a7:=r (μ.q f.a ⟨w.heap.size,true,0,0,false⟩) ⟨w.heap.size,true,0,0,false⟩ (by rw[lg,A5 rfl]) rfl rfl;refine⟨λk=>S k||k == i,(Act.put ⟨tmps,ds⟩ o.dst t).tmps,μ.q f.a ⟨w.heap.size,true,0,0,false⟩,w.alloc (.cells vs elem),?_,⟨a1,z,λd hd=>⟨z,λc x j hc=>a6 c x d j (.inl hd) hc⟩,jW A.aa _⟩,
   (R.ac z).au y L g.q (λ_ _=>rfl) a7,λj U F=>?_,λk hk=>by grind⟩
  .rw[<- K];refine BJ (a:=⟨tmps,ds⟩) y hw ?_;rw[Oper.semAt_eq]
   .exact a8
   .intro c e;have:=g.b;rw[e]at this;cases this
  .simp only[Z7,beq_eq_false_iff_ne]at F;rcases hp j U F.1 with h | ⟨u,vu,J⟩
   .grind
   .refine .inr ⟨u,vu,J.s,J.b,J.a,?_,J.q,J.y⟩;obtain⟨H1,m,g1,g2⟩:=J.m
    grind
def LM(f:nG P C)(e:lB B N μ H w){i:Nat}(R:aG μ all olds q n old tm D S (i::p) tmps)(g:eI C μ dp H all olds n old tm D S)(hi:tb D i=true) :
  ∃d a c w',step P (lone (b.atR ⟨tmps,ds⟩ (.inRegion all (i::p)::k)) cs w)=.next (lone (b.atR ⟨a,ds⟩ (.inRegion all p::k)) cs w')/\Dm B N dp μ H w c w' ∧
   aG c all olds q n old tm D d p a/\eI C c dp H all olds n old tm D d:=by
 obtain⟨d,a,c,w',h,j,l,m,_⟩:=LL (b:=b) (k:=k) (cs:=cs) (ds:=ds) f e R g hi
 grind
def pe(F:nG P C){f:dH}{r:List dH}(s:pL all.toList q (f::r) D=true)(h:f.a<=all.size):∀(p:List Nat) (S:Nat->Bool) (tmps:Array Value) (μ:Mu) (w:World),lB B N μ H w →
  aG μ all olds q n old tm D S p tmps->eI C μ dp H all olds n old tm D S →
  ∃g a c e w',Steps P (lone (b.atR ⟨tmps,ds⟩ (.inRegion all p::k)) cs w) (lone (b.atR ⟨c,ds⟩ (.inRegion all (f.a::a)::k)) cs w')/\Dm B N dp μ H w e w' ∧
   aG e all olds q n old tm D g (f.a::a) c/\eI C e dp H all olds n old tm D g:=by
 obtain⟨only,_,D1,D2,E,_⟩:=Xa s h;obtain⟨oh,l,hh,J,_⟩:=Sd E
 intro p;induction p with
 | nil=>
  intro S tmps μ w _ R m;have:=R.z _ (R.p f.a (H4.1 l).1)
  simp_all
 | cons i p M=>
  intro S tmps μ w x R m
  cases y:tb D i with
  | true=>
   obtain⟨g,c,t,Z,W,v,T,Q⟩:=LM (b:=b) (k:=k) (cs:=cs) (ds:=ds) F x R m y;obtain⟨z,a,d,u,w2,X,A,U⟩:=M g c t Z v.b T Q;exact⟨z,a,d,u,w2,.head W X,v.f A,U⟩
  | false=>
   obtain⟨o,L,hS,I,_⟩:=R.p;have:=only i o L y λj K=>R.z j (I j K);subst this;exact⟨S,p,tmps,μ,w,.refl _ _,.c x,R,m⟩
def gw(K:nG P C)(m:pL all.toList q [] D=true):∀(p:List Nat) (S:Nat->Bool) (tmps:Array Value) (μ:Mu) (w:World),lB B N μ H w →
  aG μ all olds q n old tm D S p tmps->eI C μ dp H all olds n old tm D S →
  ∃a e w',Steps P (lone (b.atR ⟨tmps,ds⟩ (.inRegion all p::k)) cs w) (lone (b.atR ⟨a,ds⟩ k) cs w')/\Dm B N dp μ H w e w'/\cF e n tm a:=by
 have d:=XK m
 intro p;induction p with
 | nil=>
  intro S tmps μ w h R A;refine⟨tmps,μ,w,.one stepR_region_end,.c h,R.q,λt v F=>?_⟩;by_cases l:t<n
  .by_cases s:∃(j:Nat) (u:Oper),all[j]?=some u/\u.dst=some t
   .obtain⟨j,u,E,r⟩:=s;exact R.aj j u t v E r (R.p j (H4.1 E).1) l F
   .have k:=R.aa t l λi o f g=>absurd ⟨i,o,f,g⟩ s;exact R.s t v l (λi o f g=>absurd ⟨i,o,f,g⟩ s) (by simp_all)
  .rw[Ol (by rw[R.q];omega)];exact R.ah t v (by omega) (.inl F)
 | cons i p M=>
  intro S tmps μ w h R A;obtain⟨o,L,_⟩:=R.p;obtain⟨I,a,x,Z,W,z,T,Q⟩:=LM (b:=b) (k:=k) (cs:=cs) (ds:=ds) K h R A (d i (H4.1 L).1);obtain⟨c,y,w2,X,J,U⟩:=M I a x Z z.b T Q;exact⟨c,y,w2,.head W X,z.f J,U⟩
def zmp(f:P.follows .mixedOrders=true){q:G Nat}(b:Bt all olds q)(a:cF μ n old tmps)(t:Nat) :
  aG μ all olds q n old old 0 (λ_=>false) (Region.schedule (P.follows .mixedOrders) all t) tmps/\eI C μ dp H all olds n old old 0 (λ_=>false):=by
 refine⟨⟨b,?_,λi h=>(by cases h),λi o _ h=>(by cases h),λi o _ h=>(by grind [Vt]),a.1,λi o d v _ _ h=>(by cases h),λd v _ _ h=>a.2 d v h,λ_ _ _=>rfl,λd v g h=>?_⟩,λi h=>(by grind [Vt])⟩
 .rw[f];unfold Region.schedule;simp only[Bool.true_or,if_true];have:=zmh b.g all.size t (Array.replicate all.size false) (by simp) (by
   grind [List.countP_le_length])
  have e:(λi=>(Array.replicate all.size false).getD i false)=λ_=>false:=by
   funext i;simp only[mi,Array.getElem?_replicate];split<;>rfl
  rw[e]at this;exact this
 .have c:old.a d=some v:=h.elim id id;have:=a.2 d v c;rw[Ol (by rw[a.1];exact g)]at this;exact this
def Dk(C:fA)(μ:Mu)(dp:Nat)(all:Array Oper)(olds:List (Nat × List Nat))(n:Nat)(old tm:Tm)(D:Nat)(S:Nat->Bool)(a:List Nat):Prop:=
 ∀i,tb D i=true->S i=false->(∃o w v,(∀H,wR C H all olds n old tm i o w v)\/(i∈a/\N0 all n tm i o w v))\/∃o v,Bv C μ dp all olds n old tm i o v
def wR.m{i:Nat}{o:Oper}{w:Bool}{v:O}(h:wR C H all olds n old tm i o w v)(e:zO o.op=true)(H':sA):wR C H' all olds n old tm i o w v:=by
 refine⟨h.f,h.a,?_,h.c⟩;have:=h.b
 cases w with
 | false=>exact this
 | true=>
  rw[A5 rfl]at this;exfalso;obtain⟨d,f,c,g,a,b⟩:=o;cases f<;>first | (simp[zO]at e;done) | cases this
def zc3{a:List Nat}(g:Dk C μ dp all olds n old tm D S a)(e:Ix C H all old olds tm a=true):eI C μ dp H all olds n old tm D S:=by
 intro i f d;rcases g i f d with⟨o,w,v,h | ⟨b,c⟩⟩ | h
 .exact .inl ⟨o,w,v,h H⟩
 .obtain⟨v,h⟩:=zky (C:=C) (H:=H) (olds:=olds) (old:=old) a e i b o w v c
  grind
 simp_all
end
end
section
variable {o:Oper}{v:O}{s:List Nat}{ν:Mu}
section
variable {P:Program}{C:fA}{B N:Nat}{μ:Mu}{H H':sA}{w:World}{all:Array Oper}{olds:List (Nat × List Nat)}{t:G Nat}{n:Nat}{old tm tm':Tm}{D D':Nat}{S:Nat->Bool}{m:List Nat}{tmps:Array Value}{ds:List Deferred}{dp:Nat}
def N0.l(R:Bt all olds t)(c:Dn all (tb D)){i k:Nat}{u:Oper}{w:Bool}{x:O}(h:N0 all n tm i o w v)(hi:tb D i=true)(b:all[k]?=some u)(m:tb D k=false) :
  N0 all n (By n tm u.dst x) i o w v:=by
 obtain⟨_,q⟩:=Rq R c h.b (.inl hi) b m;refine⟨h.b,?_,h.c,?_⟩
 .rw[Qh (tm:=tm) λj w f g l d a=>by rw[qK,A3 λe=>q j w f g l d a e.1]];exact h.a
 .intro d a p;rw[qK,A3]
  .exact h.f d a p
  .rintro⟨e,_⟩;have:=R.a i k o u d h.b b a e
   simp_all
def gz{c:dH}{r:List dH}(g:pL all.toList t (c::r) D=true)(f:c.a<=all.size)(R:aG μ all olds t n old tm D S (c.a::m) tmps)(p:eI C μ dp H all olds n old tm D S) :
  Dk C μ dp all olds n old tm D S c.c:=by
 obtain⟨_,j,_⟩:=Xa g f;intro i b d;rcases p i b d with⟨u,s,q,a⟩ | h
 rotate_left
 .grind
 refine .inl ⟨u,s,q,?_⟩;rcases j i u a.f b with h | h | h | h
 .obtain⟨o,l,_,k,_⟩:=R.p;have:=R.r.f R.m l k h
  simp_all
 .exact .inl λH=>a.p h H
 .exact .inl λH=>a.m h H
 .exact .inr ⟨h,a.f,a.a,λe=>by have:=a.b;simp_all,a.c⟩
def zlb{h:Nat} {l:Nat}  {v':Value}(w:Cq all.toList h D=some l)(g:all[h]?=some o)
  (R:aG μ all olds t n old tm D S (h::m) tmps) (y:Dk C μ dp all olds n old tm D S s) (z:rA μ v v') :
  aG μ all olds t n old (By n tm o.dst v) l (λk=>S k||k == h) m (Act.put ⟨tmps,ds⟩ o.dst v').tmps/\Dk C μ dp all olds n old (By n tm o.dst v) l (λk=>S k||k == h) s:=by
 obtain⟨E,j,q,B,f⟩:=Sd w;rw[g]at j;cases j;refine⟨R.au g f (λd p x=>by rw[qK,A5 ⟨p,x⟩]) (λd p=>by rw[qK,A3 λe=>absurd (p e.1) (by omega)]) z,λi a c=>?_⟩;simp only[Z7,beq_eq_false_iff_ne]at c;rw[f]at a;simp only[H5,beq_iff_eq]at a;have a:=a.resolve_right c.2;rcases y i a c.1 with⟨u,A,r,b⟩ | ⟨u,r,b⟩
 .exact .inl ⟨u,A,r,b.imp (λb H=>(b H).l R.r R.l a g q) (λb=>⟨b.1,b.2.l R.r R.l a g q⟩)⟩
 .exact .inr ⟨u,r,b.f R.r R.l a g q⟩
inductive sQ (C:fA) (μ:Mu) (dp:Nat) (n:Nat):Option sA->List yF->Tm->List Item->Array Value->Prop
 | aa {cur:Option sA} {todo:List yF} {tm:Tm} {btodo:List Item} {tmps:Array Value}:qE (bH μ) todo btodo->cF μ n tm tmps->sQ C μ dp n cur todo tm btodo tmps
 | ah {H:sA} {all:Array Oper} {old tm:Tm} {olds:List (Nat × List Nat)} {stages:List dH} {k:List yF} {m:List Nat} {k':List Item} {tmps:Array Value} {t:G Nat} {D:Nat} {S:Nat->Bool} :
   aG μ all olds t n old tm D S m tmps->pL all.toList t stages D=true->eI C μ dp H all olds n old tm D S->qE (bH μ) k k' →
   sQ C μ dp n (some H) (.d all old olds stages::k) tm (.inRegion all m::k') tmps
 | aj {cur:Option sA} {all:Array Oper} {old tm:Tm} {olds:List (Nat × List Nat)} {lights s:List Nat} {stages:List dH} {k:List yF} {m:List Nat} {k':List Item} {tmps:Array Value} {t:G Nat} {D D2:Nat} {S:Nat->Bool} :
   aG μ all olds t n old tm D S m tmps->cT all.toList lights D=some D2->pL all.toList t stages D2=true->Dk C μ dp all olds n old tm D S s->qE (bH μ) k k' →
   sQ C μ dp n cur (.d all old olds (⟨all.size,lights,s⟩::stages)::k) tm (.inRegion all m::k') tmps
 | ac {all:Array Oper} {old tm:Tm} {olds:List (Nat × List Nat)} {st:dH} {stages:List dH} {k:List yF} {m:List Nat} {k':List Item} {tmps:Array Value} {t:G Nat} {D:Nat} {S:Nat->Bool} :
   aG μ all olds t n old tm D S (st.a::m) tmps->pL all.toList t (st::stages) D=true->st.a<=all.size->Dk C μ dp all olds n old tm D S st.c->qE (bH μ) k k' →
   sQ C μ dp n none (.d all old olds (st::stages)::k) tm (.inRegion all (st.a::m)::k') tmps
theorem eI.b (h:μ.t dp ν)(p:eI C μ dp H all olds n old tm D S):eI C ν dp H all olds n old tm D S:=
 λi a b=>(p i a b).imp id fun⟨o,v,q⟩=>⟨o,v,q.c h⟩
theorem Dk.a  (h:μ.t dp ν)(p:Dk C μ dp all olds n old tm D S s):Dk C ν dp all olds n old tm D S s:=
 λi a b=>(p i a b).imp id fun⟨o,v,q⟩=>⟨o,v,q.c h⟩
theorem sQ.f (h:μ.t dp ν){cur:Option sA}{g:List yF}{f:List Item}(R:sQ C μ dp n cur g tm f tmps):sQ C ν dp n cur g tm f tmps:=by
 have i:∀ {k:List yF} {j:List Item},qE (bH μ) k j->qE (bH ν) k j:=λk=>qE.c (λ_ _ r=>bH.d h r) k
 cases R with
 | aa a b=>exact .aa (i a) (b.c h)
 | ah a b c d=>exact .ah (a.ac h) b (c.b h) (i d)
 | aj a b c d e=>exact .aj (a.ac h) b c (d.a h) (i e)
 | ac a b l c d=>exact .ac (a.ac h) b l (c.a h) (i d)
end
end
section
variable {v:O}{v':Value}{cur:Option sA}{g:pC}{b:Frame}{l:List pC}{m:List Frame}
section
variable {P:Program}{C:fA}{B N:Nat}{μ ν:Mu}{H H':sA}{w:World}{n:Nat}{tm:Tm}{tmps:Array Value}{ds:List Deferred}{dp:Nat}
def cF.f  {dst:Option Nat}(h:cF μ n tm tmps)(c:rA μ v v'):cF μ n (By n tm dst v) (Act.put ⟨tmps,ds⟩ dst v').tmps:=by
 cases dst with
 | none=>exact h
 | some d=>
  refine⟨by simp[Act.put,h.1],λt x a=>?_⟩;rw[qK]at a;simp only[Act.put,mi,mh];by_cases e:d=t
  .subst e;by_cases b:d<n
   .rw[A5 ⟨rfl,b⟩]at a;cases a;simp[h.1,b,c]
   .rw[A3 λk=>b k.2]at a;have:=h.2 d x a;rw[Ol (by rw[h.1];omega)]at this;simp[h.1,b,this]
  .rw[A3 λk=>e (D9 k.1)]at a;have:=h.2 t x a
   simp_all
structure fL (C:fA) (μ:Mu) (dp:Nat) (cur:Option sA) (g:pC) (b:Frame):Prop where
 a:pI μ g.R b
 c:if g.R.a.a=true then sQ C μ dp g.R.n cur g.a g.b b.todo b.tmps else cF μ g.R.n g.b b.tmps
theorem fL.d(h:μ.t dp ν)   (r:fL C μ dp cur g b):fL C ν dp cur g b:=by
 refine⟨r.a.j h,?_⟩;have:=r.c;split at this
 .rename_i e;rw[A5 e];exact this.f h
 .rename_i e;rw[A3 e];exact this.c h
inductive mH (C:fA) (μ:Mu):List pC->List Frame->Prop
 | ac:mH C μ [] []
 | aa {a:pC} {b:Frame} {l:List pC} {m:List Frame}:fL C μ l.length none a b->mH C μ l m->mH C μ (a::l) (b::m)
def mH.c  (r:mH C μ l m)(h:∀d,d<l.length->μ.t d ν):mH C ν l m:=by
 induction r with
 | ac=>exact .ac
 | @aa a b l m c f e=>exact .aa (c.d (h _ (by simp))) (e λd g=>h d (by grind))
theorem mH.e  (r:mH C μ l m)(h:μ.le ν):mH C ν l m:=r.c λd _=>h.b d
def Ln{A:pC}    (r:fL C μ dp none g b)(h:fI g v=some A)(L:rA μ v v'):fL C μ dp cur A (b.finish v'):=by
 obtain⟨E,tm,R⟩:=g;unfold fI at h
 cases E with
 | nil=>cases h
 | cons x k=>
  simp only[bD]at h;split at h
  case isFalse=>cases h
  rename_i B;have u:=r.c;rw[A5 B]at u;have f:=r.a;obtain⟨F,s,I,j,q,p,n⟩:=b;simp only at u f
  cases u with
  | aa a t=>
   cases a with
   | aa i l=>
    cases i with
    | au m i hi=>
     simp only[Yv]at h;unfold zsw at h;split at h
     case h_2=>cases h
     rename_i o M P;cases h;obtain⟨N,J⟩:=Be P.symm;have K:i<m.size:=by grind
     have hr:(List.range m.size).drop i=i::(List.range m.size).drop (i+1):=by
      grind [List.drop_eq_getElem_cons]
     have y:m[i]?=some o:=by simp_all
     have e:∀z,Frame.finish ⟨F,s,.inRegion m ((List.range m.size).drop i)::z,j,q,p,n⟩ v'=⟨F,(Act.put ⟨s,j⟩ o.dst v').tmps,.inRegion m ((List.range m.size).drop (i+1))::z,j,q,p,n⟩:=by
      intro z;simp only[Frame.finish,hr,y,Z6];unfold Act.put;cases o.dst<;>rfl
     rw[e];refine⟨⟨f.i,?_,f.c,f.e,f.d,f.a⟩,?_⟩
     .exact(t.f (ds:=j) (dst:=o.dst) L).1
     .rw[A5 B];rw[J];exact .aa (.aa (.au m (i+1) K) l) (t.f L)
    | aj l' i hl=>
     cases h;refine⟨⟨f.i,f.g,f.c,f.e,f.d,f.a⟩,?_⟩;simp only[Frame.finish];rw[A5 B];exact .aa (.aa (.ak l' i hl) l) t
    | aa=>
     cases h;refine⟨⟨f.i,f.g,f.c,f.e,f.d,f.a⟩,?_⟩;simp only[Frame.finish];rw[A5 B];exact .aa l t
    | _=>cases h
  | aj a b c d e=>
   simp_all [Yv,ux,xI]
  | @ac m a1 _ Q U H _ w _ _ W D S a b X c d=>
   simp only[Yv]at h;unfold ux at h;simp only[mA,xI]at h;obtain⟨o,P,h⟩:=h;cases h;have y:m[U.a]?=some o:=by simp_all
   obtain⟨_,_,D1,D2,N,J,Z⟩:=Xa b X;obtain⟨T,r2⟩:=zlb (ds:=j) N y a c L;have e:∀z,Frame.finish ⟨F,s,.inRegion m (U.a::w)::z,j,q,p,n⟩ v'=⟨F,(Act.put ⟨s,j⟩ o.dst v').tmps,.inRegion m w::z,j,q,p,n⟩:=by
    intro z;simp only[Frame.finish,y,Z6];unfold Act.put;cases o.dst<;>rfl
   rw[e];refine⟨⟨f.i,T.q,f.c,f.e,f.d,f.a⟩,?_⟩;rw[A5 B];exact .aj T J Z r2 d
def lE(P:Program)(C:fA)(B N:Nat)(μ:Mu)(base:List Frame)(m:Machine)(w:World):dG->Prop
 | .aa s=>∃ a b d c,Steps P m (lone b (d++base) c)/\μ.l a/\Below N w c/\lB B N a s.H c/\fL C a s.a.length (some s.H) s.b b/\mH C a s.a d
 | .ah v H=>∃ a b c v',Steps P m (lone b base c)/\μ.l a/\Below N w c/\lB B N a H c/\rA a v v'/\b.fn=C.f/\b.leaving P c (.returned v')
 | .ac _=>True
def lE.c{base:List Frame}{m q:Machine}{o:dG}{w r:World}(p:Steps P m q)(n:μ.l ν)(l:Below N w r)(h:lE P C B N ν base q r o):lE P C B N μ base m w o:=by
 cases o with
 | ac=>exact trivial
 | aa s=>
  obtain⟨c,b,t,j,d,e,f,g⟩:=h;exact⟨c,b,t,j,p.trans d,λa i k=>e a i (n a i k),l.trans f,g⟩
 | ah v H=>
  obtain⟨c,b,j,v',d,e,f,g⟩:=h;exact⟨c,b,j,v',p.trans d,λa i k=>e a i (n a i k),l.trans f,g⟩
def zpu (h:b.mode=.run):b.atR ⟨b.tmps,b.defers⟩ b.todo=b:=by
 obtain⟨g,tmps,f,a,e,d,c⟩:=b;simp only at h;subst h;rfl
end
end
section
variable {m:Machine}{c:Code}{g:Nat}
structure rM (P:Program) (C:fA) (B N:Nat) (I:World->Prop):Prop where
 b:nG P C
 a:Jd P C
 c:Pq P C B N I
 d:B<=C.a
 f:P.follows .mixedOrders=true
 e:∀w w',Below N w w'->I w->I w'
section
variable {P:Program}{C:fA}{B N:Nat}{I:World->Prop}{μ ν:Mu}{H H':sA}{w:World}{tm:Tm}{R:eL}{acs:List pC}{base cs:List Frame}
variable {b:Frame}{tmps:Array Value}{ds:List Deferred}{k:List yF}{k':List Item}
def pI.n{a:List Item}(h:pI μ R (b.atR ⟨tmps,ds⟩ [])):pI μ R (b.atR ⟨tmps,ds⟩ a):=⟨h.i,h.g,h.c,h.e,h.d,h.a⟩
theorem pI.f{a:List Item}(h:pI μ R (b.atR ⟨tmps,ds⟩ a)):R.a.a=true:=by
 have:=h.e
 cases c:R.a with
 | ah=>rfl
 | _=>rw[c]at this;exact this.elim
def Ek {c:List yF}{a:List Item}(f:lB B N μ H w)(d:mH C μ acs cs)(e:pI μ R (b.atR ⟨tmps,ds⟩ []))(j:cF μ R.n tm tmps)
  (g:qE (bH μ) c a) (i:Steps P m (lone (b.atR ⟨tmps,ds⟩ a) (cs++base) w)):lE P C B N μ base m w (Q6 c tm R acs H):=
 ⟨μ,_,cs,w,i,λ_ _ h=>h,Below.refl _ _,f,⟨e.n,by rw[A5 e.f];exact .aa g j⟩,d⟩
def Wx(c:lB B N μ H w)(a:mH C μ acs cs)(d:pI μ R (b.atR ⟨tmps,ds⟩ []))(g:cF μ R.n tm tmps)(e:qE (bH μ) k k')
  (f:step P m=.next (lone (b.atR ⟨tmps,ds⟩ k') (cs++base) w)):lE P C B N μ base m w (Jg C k tm R acs H):=
 Ek c a d g e (.one f)
def zxq(e:lB B N μ H w)(d:mH C μ acs cs)(i:pI μ R (b.atR ⟨tmps,ds⟩ []))(h:cF μ R.n tm tmps)(j:qE (bH μ) k k'){c:Operand}{x y:Code} :
  lE P C B N μ base (lone (b.atR ⟨tmps,ds⟩ (.code (.cond c x y)::k')) (cs++base) w) w (Qf c x y C k tm R acs H):=by
 unfold Qf
 cases f:ob (ev c (.b tm)) O.r with
 | none=>exact trivial
 | some t=>
  rw[mA]at f;obtain⟨v,l,a⟩:=f;have:v=.d t:=by cases v<;>simp[O.r]at a;rw[a]
  subst this;have g:=h.l (ds:=ds) e.ac c _ l;rw[rA]at g;refine Ek e d i h (.aa (.ac _) j) (.one ?_);rw[stepR_cond g];cases t<;>rfl
def zpq(d:lB B N μ H w)(a:mH C μ acs cs)(e:pI μ R (b.atR ⟨tmps,ds⟩ []))(h:cF μ R.n tm tmps)(f:qE (bH μ) k k')   :
  lE P C B N μ base (lone (b.atR ⟨tmps,ds⟩ (.code (.block g c)::k')) (cs++base) w) w (zp3 g c C k tm R acs H):=
 Ek d a e h (.aa (.ac _) (.aa (.ah _) f)) (.one stepR_block)
def zvo(d:lB B N μ H w)(a:mH C μ acs cs)(e:pI μ R (b.atR ⟨tmps,ds⟩ []))(g:cF μ R.n tm tmps)(f:qE (bH μ) k k')  :
  lE P C B N μ base (lone (b.atR ⟨tmps,ds⟩ (.code (.loop c)::k')) (cs++base) w) w (ve c C k tm R acs H):=
 Ek d a e g (.aa (.ac _) (.aa (.am _) f)) (.one stepR_loop)
def zi8  : ∀ {k:List yF} {k':List Item} {r:List yF},qE (bH μ) k k'->iX g k=some r->∃b,exitTo g k'=some b/\qE (bH μ) r b:=by
 intro k k' r h;induction h with
 | ac=>intro e;cases e
 | aa a l c=>
  intro e
  cases a with
  | ah i=>
   grind [iX,yF.j,exitTo,zD]
  | _=>
   unfold iX at e;obtain⟨b,d,f⟩:=c e
   grind [exitTo]
end
end
section
variable {i n:Nat}{m:Machine}{v:O}{rest:List Nat}{o:Oper}{f:FuncId}{args args':Array Value}{w':World}{A:pC}{c:Frame}
section
variable {P:Program}{C:fA}{B N:Nat}{I:World->Prop}{μ ν:Mu}{H H':sA}{w:World}{tm:Tm}{R:eL}{acs:List pC}{base cs:List Frame}
variable {b:Frame}{tmps:Array Value}{ds:List Deferred}{k:List yF}{k':List Item}{all:Array Oper}{olds:List (Nat × List Nat)}{z:G Nat}{old:Tm}{D:Nat}{S:Nat->Bool}{y:List Nat}
def pI.l{a:Array Value}{c:List Item}(h:pI μ R (b.atR ⟨tmps,ds⟩ c))(d:a.size=R.n):pI μ R (b.atR ⟨a,ds⟩ c):=⟨h.i,d,h.c,h.e,h.d,h.a⟩
theorem cF.q (h:cF μ n tm tmps):cF μ n tm.b tmps:=by
 refine⟨h.1,λi v a=>h.2 i v ?_⟩;unfold Tm.b Tm.a at a;unfold Tm.a;simp only[uM]at a ⊢;split at a
 .simp_all
 .cases a
theorem zfx(i:rM P C B N I)(f:lB B N μ H w)(a:mH C μ acs cs)(h:pI μ R (b.atR ⟨tmps,ds⟩ []))(j:qE (bH μ) k k')
  (m:aG μ all olds z R.n old tm D S y tmps) (c:pL all.toList z [] D=true) (l:eI C μ acs.length H all olds R.n old tm D S) :
  lE P C B N μ base (lone (b.atR ⟨tmps,ds⟩ (.inRegion all y::k')) (cs++base) w) w (Jg C k tm R acs H):=by
 obtain⟨e,n,w',s,g,t⟩:=gw (b:=b) (k:=k') (cs:=cs++base) (ds:=ds) i.b c y S tmps μ w f m l;refine lE.c s g.g g.below ?_;exact Ek g.b (a.c λd o=>g.j d (by omega)) ((h.j g.g).l t.1) t (j.c λ_ _ r=>r.d g.g) (.refl _ _)
def zxe(m:rM P C B N I)(l:lB B N μ H w)(e:mH C μ acs cs)(g:pI μ R (b.atR ⟨tmps,ds⟩ []))(q:cF μ R.n tm tmps)(n:qE (bH μ) k k'){d:Nat} :
  lE P C B N μ base (lone (b.atR ⟨tmps,ds⟩ (.code (.region d all true)::k')) (cs++base) w) w (Qe d all C k tm R acs H):=by
 unfold Qe
 cases c:ob (ob (C.e.c R.e) λt=>t.c d) λp=>sB (jY all p) <| ob (bV C H all R.n tm.b p.b p.c tm.b) λa=>some (⟨⟨.d all tm.b p.b p.a::k,a,R⟩,acs,H⟩:xV)with
 | none=>exact trivial
 | some s=>
  simp only[mA,qB]at c;obtain⟨p,_,f,a,o,c⟩:=c;cases c;obtain⟨z,D,y,i,j⟩:=zgo f;obtain⟨v,r⟩:=zmp (C:=C) (H:=H) (dp:=acs.length) m.f y q.q (w.tape w.drawn (.order b.fn d));obtain⟨x,u⟩:=Xs _ _ _ o i v r;exact⟨μ,_,cs,_,.one stepR_region_draw,λ_ _ h=>h,(Below.refl N w).drew,l.au,⟨g.n,by rw[A5 g.f];exact .ah x j u n⟩,e⟩
theorem zhi(l:lB B N μ H w)(e:mH C μ acs cs)(g:pI μ R (b.atR ⟨tmps,ds⟩ []))(n:qE (bH μ) k k'){c:dH}{a:List dH}{f:Nat}
  (p:aG μ all olds z R.n old tm D S y tmps) (i:cT all.toList c.b D=some f) (j:pL all.toList z a f=true) (q:Dk C μ acs.length all olds R.n old tm D S c.c) :
  lE P C B N μ base (lone (b.atR ⟨tmps,ds⟩ (.inRegion all y::k')) (cs++base) w) w (Qb all old olds c a C k tm R acs H):=by
 unfold Qb
 cases d:sB (Ix C H all old olds tm c.c) (ob (bV C H all R.n old olds c.b tm) λtm=>some (⟨⟨.d all old olds a::k,tm,R⟩,acs,H⟩:xV))with
 | none=>exact trivial
 | some s=>
  simp only[mA,qB]at d;obtain⟨m,u,o,d⟩:=d;cases d;obtain⟨t,r⟩:=Xs _ _ _ o i p (zc3 q m);exact⟨μ,_,cs,w,.refl _ _,λ_ _ h=>h,Below.refl N w,l,⟨g.n,by rw[A5 g.f];exact .ah t j r n⟩,e⟩
def WR(f:lB B N μ H w)(e:mH C μ acs cs)(c:pI μ R (b.atR ⟨tmps,ds⟩ []))(i:cF μ R.n tm tmps) {d:List yF}{a:List Item}
  (g:Steps P m (lone { b.atR ⟨tmps,ds⟩ a with mode:=.returning } (cs++base) w)):lE P C B N μ base m w (.aa ⟨Ee ⟨d,tm,R⟩ .aa,acs,H⟩):=
 ⟨μ,_,cs,w,g,λ_ _ h=>h,Below.refl N w,f,⟨⟨c.i,c.g,c.c,trivial,c.d,c.a⟩,i⟩,e⟩
theorem Nm{dst:Option Tmp}{v:Value}:Act.put ⟨tmps,ds⟩ dst v=⟨(Act.put ⟨tmps,ds⟩ dst v).tmps,ds⟩:=by unfold Act.put;cases dst<;>rfl
def AP    {cs:List Frame}(l:all[i]?=some o)(m:Region.wanted o (yielded all tmps)=true)(k:∀c,o.op≠.defer c)
  (h:aU P B N μ w (Act.eval ⟨tmps,ds⟩) o v H') :
  ∃v' w' a,step P (lone (b.atR ⟨tmps,ds⟩ (.inRegion all (i::rest)::k')) cs w)=.next (lone (b.atR ⟨(Act.put ⟨tmps,ds⟩ o.dst v').tmps,ds⟩ (.inRegion all rest::k')) cs w') ∧
   μ.le a/\lB B N a H' w'/\Below N w w'/\rA a v v':=by
 obtain⟨v',w',a,j,d,e,f,g⟩:=h;refine⟨v',w',a,?_,d,e,f,g⟩;rw[<- Nm];grind [BJ,Oper.semAt_eq,VQ]
def IX     {cs:List Frame} (e:all[i]?=some o)(g:Region.wanted o (yielded all tmps)=true)(d:∀c,o.op≠.defer c)
  (h:(execOp (Act.eval ⟨tmps,ds⟩) o).run P w=.ok (.enter f args) w') :
  step P (lone (b.atR ⟨tmps,ds⟩ (.inRegion all (i::rest)::k')) cs w)=.next (lone (Frame.enter P f args .normal) (b.atR ⟨tmps,ds⟩ (.inRegion all (i::rest)::k')::cs) w'):=
 step_lone_go (by
  rw[stepGR_op (a:=⟨tmps,ds⟩) e g,Oper.semAt_eq _ _ _ d]
  simp_all [stepG.apply,Frame.atR])
def TC     {cs:List Frame}(a:all[i]?=some o)(m:Region.wanted o (yielded all tmps)=true)(l:∀c,o.op≠.defer c)
  (h:(execOp (Act.eval ⟨tmps,ds⟩) o).run P w=.ok (.enter f args) w) {R:Value->World->Prop} (k:Calls P f args w λe w'=>∃v',e=.returned v'/\R v' w') :
  ∃v' w',Steps P (lone (b.atR ⟨tmps,ds⟩ (.inRegion all (i::rest)::k')) cs w) (lone (b.atR ⟨(Act.put ⟨tmps,ds⟩ o.dst v').tmps,ds⟩ (.inRegion all rest::k')) cs w')/\R v' w':=by
 obtain⟨e,w',A,⟨v',rfl,d⟩,g,_,j⟩:=k (b.atR ⟨tmps,ds⟩ (.inRegion all (i::rest)::k')::cs);refine⟨v',w',?_,d⟩;refine .head (IX a m l h) (Steps.trans g (.one ?_));rw[step_leave_returned j,Frame.finish_atR,a,<- Nm];rfl
def lB.below (b:lB B N μ H w)(f:Below w.heap.size w w'):lB B N μ H w':=by
 refine⟨b.ak,b.ac,b.aw,b.ah,Nat.le_trans b.aa f.size,b.r,λa x i k d=>?_,λa i h j=>?_,b.inj,b.ax⟩
 .obtain⟨o,c,e⟩:=b.am a x i k d;have g:i.b<w.heap.size:=(H4.1 c).1;exact⟨o,by rw[f.block _ g];exact c,e⟩
 .obtain⟨d,c,e⟩:=b.aj a i h j;exact⟨d,Nat.lt_of_lt_of_le c f.size,e⟩
theorem mY{g:List O->sA->Option O} {c:List O}  {H':sA}(b:jN g c H=some (v,H'))(h:lB B N μ H w)
  (k:g c H=some v->(callFunc f args').run P w=.ok (.enter f args') w/\Calls P f args' w λe w'=>∃v',e=.returned v'/\rA μ v v'/\Below w.heap.size w w') :
  (H'=H/\∃v',(callFunc f args').run P w=.ok (.value v') w/\rA μ v v') ∨
   ((callFunc f args').run P w=.ok (.enter f args') w/\Calls P f args' w λe w'=>∃v' a,e=.returned v'/\μ.le a/\lB B N a H' w'/\Below N w w'/\rA a v v'):=by
 unfold jN at b;rw[mA]at b;obtain⟨u,l,m⟩:=b;cases m;obtain⟨n,o⟩:=k l;exact .inr ⟨n,o.mono λe w' p=>by obtain⟨v',i,j,d⟩:=p;exact⟨v',μ,i,μ.g,h.below d,d.mono h.aa,j⟩⟩
def cF.p (R:cF μ n tm tmps) {w:Bool}(h:cG o.guard all tm=some w):Region.wanted o (yielded all tmps)=w:=by
 unfold cG Qk at h;unfold Region.wanted
 cases g:o.guard with
 | none=>rw[g]at h;cases h;rfl
 | some q=>
  obtain⟨j,e⟩:=q;rw[g]at h;simp only[Qj,mA,xI]at h;obtain⟨d,⟨u,s,l⟩,v,m,h⟩:=h;have k:all[j]?=some u:=by simp_all
  have p:yielded all tmps j=match tmps[d]? with | some (.bool b)=>some b | _=>none:=by
   grind [yielded]
  simp only[];rw[p];have a:=R.2 d v m;by_cases i:d<n
  .have r:d<tmps.size:=by rw[R.1];exact i
   have f:tmps[d]?=some (tmps.getD d undef):=by simp_all
   rw[f];generalize tmps.getD d undef=x at a
   cases c:v.r with
   | some b=>
    rw[c]at h;have:v=.d b:=by cases v<;>simp[O.r]at c;rw[c]
    rw[this,rA]at a;subst a;simp only[Option.some.injEq]at h;rw[<- h,kZ];cases b<;>cases e<;>rfl
   | none=>
    rw[c]at h;cases h
    cases x with
    | bool b=>rw[HP a]at c;cases c
    | _=>rfl
  .have f:tmps[d]?=none:=by simp[R.1];omega
   rw[f];rw[Ol (by simp_all)]at a
   cases c:v.r with
   | some b=>
    have:v=.d b:=by cases v<;>simp[O.r]at c;rw[c]
    rw[this,rA]at a;cases a
   | none=>simp_all
def CO    {v':Value} (k:fL C μ acs.length none A c)(b:mH C μ acs cs)(d:μ.le ν)(f:lB B N ν H' w')(g:Below N w w')(j:rA ν v v')
  (i:Steps P m (lone (c.finish v') (cs++base) w')):lE P C B N μ base m w (cj v H' C A acs H):=by
 unfold cj
 cases a:ob (fI A v) λA=>some (⟨A,acs,H'⟩:xV)with
 | none=>exact trivial
 | some s=>
  rw[mA]at a;obtain⟨e,h,a⟩:=a;cases a;exact⟨ν,_,cs,w',i,d,g,f,Ln (k.d d) h j,b.e d⟩
def Tu{dp:Nat}(p:Jd P C){f:Nat}{args:List O} {d:Bool}{g:pC}{cur:Option sA}(h:xM C f args d=some g)(l:bB μ args args'.toList) :
  fL C μ dp cur g (Frame.enter P f args' (if d then .deferred else .normal))/\∃fn,C.d.c f=some fn/\fn.body.isSome=true:=by
 unfold xM at h;simp only[mA,qB,B3,mF]at h;obtain⟨fn,e,c,s,k,u,⟨m,n⟩,o⟩:=h;cases o;obtain⟨r,_⟩:=p f fn e;have q:args'.size=args.length:=by have:=l.d;omega
 rw[dD]at m n;have a:(Frame.enter P f args' (if d then .deferred else .normal)).tmps.size=fn.ntmps:=by
  grind [Frame.enter]
 refine⟨⟨⟨rfl,a,.ac,trivial,rfl,trivial⟩,?_⟩,fn,e,by grind⟩;show sQ C μ dp fn.ntmps cur [.a c] ⟨k,G.ac args,[]⟩ (Frame.enter P f args' (if d then .deferred else .normal)).todo (Frame.enter P f args' (if d then .deferred else .normal)).tmps;have j:(Frame.enter P f args' (if d then .deferred else .normal)).todo=[.code c]:=by grind [Frame.enter]
 rw[j];refine .aa (.aa (.ac c) .ac) ⟨a,λi v b=>?_⟩;unfold Tm.a at b;simp only[uM]at b;split at b
 .rw[G.o]at b;obtain⟨x,y,w⟩:=l.w b;have t:i<args'.size:=by grind
  simp_all [Frame.enter,yaj]
 .cases b
def zf7(j:Jd P C)  {f:Nat}{args:List O} (n:fL C μ acs.length none A c)(a:mH C μ acs cs)(k:lB B N μ H w)
  (l:∀fn,C.d.c f=some fn->fn.body.isSome=true->∃args',bB μ args args'.toList/\Steps P m (lone (Frame.enter P f args' .normal) (c::(cs++base)) w)) :
  lE P C B N μ base m w (Rw f args C A acs H):=by
 unfold Rw
 cases o:xM C f args false with
 | none=>exact trivial
 | some g=>
  obtain⟨fn,b,d⟩:∃fn,C.d.c f=some fn/\fn.body.isSome=true:=by
   grind [xM,mA]
  obtain⟨args',e,i⟩:=l fn b d;exact⟨μ,_,c::cs,w,i,λ_ _ h=>h,Below.refl N w,k,(Tu j o e).1,.aa n a⟩
end
end
section
variable {μ:Mu}{dp n:Nat}{tm:Tm}{tmps:Array Value}{C:fA}{cur:Option sA}
theorem PX:∀(l:List Oper) (t:G O) (i:Nat) (v:O),(Oy l t).c i=some v->t.c i=some v/\∀o∈l,o.dst≠some i:=by
 intro l;induction l with
 | nil=>intro t i v h;exact⟨h,λ_ a=>by cases a⟩
 | cons o l b=>
  grind [Oy,G.e]
def aG.ap {all:Array Oper}{olds:List (Nat × List Nat)}{e:G Nat} {old:Tm}{D:Nat}{S:Nat->Bool}{d:List Nat} (R:aG μ all olds e n old tm D S d tmps) :
  cF μ n ⟨tm.k,Oy all.toList tm.v,[]⟩ tmps:=by
 refine⟨R.q,λt v c=>?_⟩;unfold Tm.a at c;simp only[uM]at c;split at c
 case isFalse=>cases c
 rename_i m;obtain⟨l,h⟩:=PX _ _ _ _ c;have c:tm.a t=some v:=by grind [Tm.a,uM]
 have g:∀(i:Nat) (o:Oper),all[i]?=some o->o.dst=some t->False:=λi o p j=>h o (by
  grind) j
 by_cases f:t<n
 .have k:=R.aa t f λi o a b=>(g i o a b).elim;exact R.s t v f (λi o a b=>(g i o a b).elim) (by simp_all)
 .rw[Ol (by rw[R.q];omega)];exact R.ah t v (by omega) (.inl c)
def sQ.g    {b:List yF} {c:List Item} (h:sQ C μ dp n cur b tm c tmps):cF μ n (Ss b tm) tmps:=by
 cases h with
 | aa a t=>
  cases a with
  | ac=>exact t
  | aa x l=>cases x<;>exact t
 | ah a _ _ _=>exact a.ap
 | aj a _ _ _ _=>exact a.ap
 | ac a _ _ _ _=>exact a.ap
def qE.d{d e:Type}{R:d->e->Prop}{l b:List d}{m c:List e}(h:qE R l m)(f:qE R b c):qE R (l++b) (m++c):=by
 induction h with
 | ac=>exact f
 | aa a _ g=>exact .aa a g
def cF.m    (h:cF μ n tm tmps)(a:List yF):cF μ n (Ss a tm) tmps:=by
 unfold Ss;split
 .refine⟨h.1,λt v b=>h.2 t v ?_⟩;unfold Tm.a at b ⊢;simp only[uM]at b ⊢;split at b
  .grind [PX]
  .cases b
 .exact h
def KQ   {f:Option sA}{d:pC}{b:Frame}{l:List Je}{u:List PanicEntry}(h:fL C μ dp cur d b)(q:qE (Jb μ) l u):fL C μ dp f (Ah d l) (b.raise u):=by
 have t:cF μ d.R.n (Ss d.a d.b) b.tmps:=by
  have:=h.c;split at this
  .exact this.g
  .exact this.m _
 have r:=h.a;obtain⟨v,tm,x,n,j,g,c,s⟩:=d;obtain⟨w,o,p,e,a,k,i⟩:=b;have m:=r.e;cases g<;>cases a<;>first | exact m.elim | skip
 .exact⟨⟨r.i,r.g,r.c,q,r.d,r.a⟩,t⟩
 .exact⟨⟨r.i,r.g,r.c,q,r.d,r.a⟩,t⟩
 .refine⟨⟨r.i,r.g,r.c,?_,r.d,r.a⟩,t⟩;show qE (Jb μ) (oE l _) _;rw[wI];exact q.d m
end
section
variable {j:pC}{c:Frame}{m:Machine}{i l:Nat}{rest:List Nat}{o:Oper}{w':World}
section
variable {P:Program}{C:fA}{B N:Nat}{I:World->Prop}{μ ν:Mu}{H H':sA}{w:World}{tm:Tm}{R:eL}{acs:List pC}{base cs:List Frame}
variable {b:Frame}{tmps:Array Value}{ds:List Deferred}{k:List yF}{k':List Item}{all:Array Oper}
def zf6  {v:O}{v':Value} {cur:Option sA}(f:fL C μ acs.length cur j c)(a:mH C μ acs cs)(b:lB B N μ H w)(e:rA μ v v')
  (d:Steps P m (lone (c.raise [{ v:=v',recovered:=false }]) (cs++base) w)):lE P C B N μ base m w (zq6 v C j acs H):=
 ⟨μ,_,cs,w,d,λ_ _ h=>h,Below.refl N w,b,KQ f (.aa ⟨e,rfl,rfl⟩ .ac),a⟩
def VU   {v:Value}{cs:List Frame} (d:all[i]?=some o)(e:Region.wanted o (yielded all tmps)=true)(a:∀c,o.op≠.defer c)
  (h:(execOp (Act.eval ⟨tmps,ds⟩) o).run P w=.halt (.panic v) w') :
  step P (lone (b.atR ⟨tmps,ds⟩ (.inRegion all (i::rest)::k')) cs w)=.next (lone ((b.atR ⟨tmps,ds⟩ (.inRegion all (i::rest)::k')).raise [{ v,recovered:=false }]) cs w'):=
 step_lone_go (by
  simp_all [stepGR_op,Oper.semAt_eq,stepG.apply])
def Sp(g:lB B N μ H w) {r:yP}(h:rK H l=some r){i:BI}(e:μ l=some i):B<=l/\∃a,H.t.c l=some (.ac r)/\w.heap[i.b]?=some (.loop a)/\Vc μ r a:=by
 unfold rK at h;rw[qB,mF,mA]at h;obtain⟨m,x,b,d⟩:=h;have:x=.ac r:=by cases x<;>simp[uA.d]at d;rw[d]
 subst this;obtain⟨o,j,f⟩:=g.am l _ i b e;rw[kK]at f;obtain⟨a,rfl,k⟩:=f;refine⟨Nat.le_of_not_lt λc=>?_,a,b,j,k⟩;have:=(g.aw l _ i c b e).2.1;cases this
def Ro {r:Loop}(h:w.heap[l]?=some (.loop r)):(Instr.getLoop l).run P w=.ok r w:=by
 simp_all [Instr.getLoop,getObj,Sem.run]
theorem UF{o:Op}(h:∃c,o=.defer c)(C:fA)(e:mD)(H:sA):(iF o).f C e H=.ac\/∃d,(iF o).f C e H=.ah d:=by
 obtain⟨c,rfl⟩:=h;show(Yj c c.callee).f C e H=.ac\/∃d,(Yj c c.callee).f C e H=.ah d
 cases c.callee with
 | value f=>
  show Eg (ob (pV f c.args e) λp=>some (.ah ⟨some p.1,0,oE p.2.1 p.2.2⟩))=.ac\/∃d,Eg (ob (pV f c.args e) λp=>some (.ah ⟨some p.1,0,oE p.2.1 p.2.2⟩))=.ah d
  cases pV f c.args e with
  | none=>exact .inl rfl
  | some p=>exact .inr ⟨_,rfl⟩
 | _=>exact .inl rfl
def WJ{n:Nat}:∀(ps:List Nat) (args:List O) (tm tm':Tm) (args':List Value) (tmps:Array Value),Ed n ps args tm=some tm'->bB μ args args'->cF μ n tm tmps →
  args'.length=ps.length/\cF μ n tm' ((ps.zip args').foldl (λtmps x=>tmps.setIfInBounds x.1 x.2) tmps):=by
 intro ps;induction ps with
 | nil=>
  intro args tm tm' args' tmps h b d
  cases args with
  | nil=>rw[bB]at b;subst b;cases h;simp_all
  | cons a c=>cases h
 | cons p ps f=>
  intro args tm tm' args' tmps h b d
  cases args with
  | nil=>cases h
  | cons a c=>
   rw[bB]at b;obtain⟨v,r,rfl,e,b⟩:=b;have:=f c _ _ r (tmps.setIfInBounds p v) h b (d.f (ds:=[]) (dst:=some p) e)
   simp_all
def VS   {cs:List Frame} {f:FuncId}{t:Array Value}{d e:Code} (j:all[i]?=some o)(k:Region.wanted o (yielded all tmps)=true)(g:∀c,o.op≠.defer c)
  (h:(execOp (Act.eval ⟨tmps,ds⟩) o).run P w=.ok (.round l f t d e) w') :
  step P (lone (b.atR ⟨tmps,ds⟩ (.inRegion all (i::rest)::k')) cs w)=.next (lone (Frame.round l f t d e .normal) (b.atR ⟨tmps,ds⟩ (.inRegion all (i::rest)::k')::cs) w'):=
 step_lone_go (by
  rw[stepGR_op (a:=⟨tmps,ds⟩) j k,Oper.semAt_eq _ _ _ g]
  simp_all [stepG.apply])
def VY   {cs:List Frame}{d:Deferred} (e:all[i]?=some o)(f:Region.wanted o (yielded all tmps)=true)(c:b.roundOf=none)
  (h:(execOp (Act.eval ⟨tmps,ds⟩) o).run P w=.ok (.defer d) w') :
  step P (lone (b.atR ⟨tmps,ds⟩ (.inRegion all (i::rest)::k')) cs w)=.next (lone ((b.atR ⟨tmps,d::ds⟩ (.inRegion all (i::rest)::k')).finish undef) cs w'):=
 step_lone_go (by
  rw[stepGR_op (a:=⟨tmps,ds⟩) e f,c,Oper.semAt_none]
  simp_all [stepG.apply,Frame.atR])
def VT   {cs:List Frame} (j:all[i]?=some o)(k:Region.wanted o (yielded all tmps)=true)(g:∀c,o.op≠.defer c)(f:b.roundOf=none)
  (h:(execOp (Act.eval ⟨tmps,ds⟩) o).run P w=.ok .recover w') :
  step P (lone (b.atR ⟨tmps,ds⟩ (.inRegion all (i::rest)::k')) cs w)=.next (match tryRecover (b.atR ⟨tmps,ds⟩ (.inRegion all (i::rest)::k')) cs with
   | some (v,cs)=>lone ((b.atR ⟨tmps,ds⟩ (.inRegion all (i::rest)::k')).finish v) cs w'
   | none=>lone ((b.atR ⟨tmps,ds⟩ (.inRegion all (i::rest)::k')).finish .nilIface) cs w'):=by
 have e:(stepG P true { frame:=b.atR ⟨tmps,ds⟩ (.inRegion all (i::rest)::k'),callers:=cs,status:=.running,dying:=none } w).bare=match tryRecover (b.atR ⟨tmps,ds⟩ (.inRegion all (i::rest)::k')) cs with
   | some (v,cs)=>.go { frame:=(b.atR ⟨tmps,ds⟩ (.inRegion all (i::rest)::k')).finish v,callers:=cs,status:=.running,dying:=none } w'
   | none=>.go { frame:=(b.atR ⟨tmps,ds⟩ (.inRegion all (i::rest)::k')).finish .nilIface,callers:=cs,status:=.running,dying:=none } w':=by
  rw[stepGR_op (a:=⟨tmps,ds⟩) j k,Oper.semAt_eq _ _ _ g];have d:(b.atR ⟨tmps,ds⟩ (.inRegion all (i::rest)::k')).roundOf=none:=f;simp only[stepG.apply,Sem.runT_eq,h,GStep.bare_after,d,if_true]
  cases tryRecover (b.atR ⟨tmps,ds⟩ (.inRegion all (i::rest)::k')) cs with
  | none=>rfl
  | some p=>simp_all
 grind [step_lone_go]
def zf5   {i:BI}{args:List O}{args':Array Value} (D:fL C μ acs.length none j c)(k:mH C μ acs cs)(u:lB B N μ H w)(hi:μ l=some i)(y:bB μ args args'.toList)
  (A:∀f t p q,(Instr.yield i.b args').run P w=.ok (.round i.b f t p q) w->Steps P m (lone (Frame.round i.b f t p q .normal) (c::(cs++base)) w)):lE P C B N μ base m w (Ru l args C j acs H):=by
 unfold Ru
 cases g:ob (rK H l) λr=>ob (Ed r.n r.b args r.h) λtm=>some (⟨⟨[.a r.c,.b,.a r.f],tm,⟨r.g,r.n,[],.ah,false,some l⟩⟩,j::acs,H⟩:xV)with
 | none=>exact trivial
 | some s=>
  simp only[mA]at g;obtain⟨r,z,o,n,g⟩:=g;cases g;obtain⟨_,a,_,E,b⟩:=Sp u z hi;obtain⟨v,d⟩:=WJ r.b args r.h o args'.toList a.tmps n y b.j;rw[<- b.b]at v d;have F:args'.size=a.params.size:=by omega
  have e:(a.params.zip args').foldl (λtmps x=>tmps.setIfInBounds x.1 x.2) a.tmps=(a.params.toList.zip args'.toList).foldl (λtmps x=>tmps.setIfInBounds x.1 x.2) a.tmps:=by
   rw[<- Array.foldl_toList,Array.toList_zip]
  rw[<- e]at d;refine⟨μ,_,c::cs,w,A a.fn ((a.params.zip args').foldl (λtmps x=>tmps.setIfInBounds x.1 x.2) a.tmps) a.assign a.body ?_,λ_ _ h=>h,Below.refl N w,u,?_,.aa D k⟩
  .simp_all [Instr.yield,Ro]
  .refine⟨⟨b.g,d.1,.ac,trivial,rfl,⟨i,hi,rfl⟩⟩,?_⟩;show sQ C μ (acs.length+1) r.n _ _ _ [.code a.assign,.beginRound,.code a.body] _;rw[b.c,b.e];exact .aa (.aa (.ac _) (.aa .aa (.aa (.ac _) .ac))) d
theorem UJ(hS:rM P C B N I)(W:lB B N μ H w)(u:mH C μ acs cs)    {r:pM}
  (a:fL C μ acs.length none j (b.atR ⟨tmps,ds⟩ (.inRegion all (i::rest)::k'))) (T:all[i]?=some o) (hw:Region.wanted o (yielded all tmps)=true)
  (ao:(∃c,o.op=.defer c)->r=.ac\/∃d,r=.ah d) (h:vR P C B N μ H w (Act.eval ⟨tmps,ds⟩) o r) :
  lE P C B N μ base (lone (b.atR ⟨tmps,ds⟩ (.inRegion all (i::rest)::k')) (cs++base) w) w (Pm r C j acs H):=by
 have n:(∀d,r≠.ah d)->r≠.ac->∀c,o.op≠.defer c:=by
  intro Q S c e;simp_all
 cases r with
 | ac=>exact trivial
 | aa v H'=>
  have n:=n (λ_ h=>by cases h) (λh=>by cases h);rcases h with h | ⟨f,q,Q,S⟩
  .obtain⟨v',w',F,s,m,X,z,hv⟩:=AP (b:=b) (k':=k') (rest:=rest) (cs:=cs++base) T hw n h;refine CO (H:=H) a u m X z hv ?_;rw[Frame.finish_atR,T,Z6,Nm];exact .one s
  .obtain⟨v',w',s,F,m,X,z,hv⟩:=TC (b:=b) (k':=k') (rest:=rest) (cs:=cs++base) (R:=λv' w'=>∃ F,μ.le F/\lB B N F H' w'/\Below N w w'/\rA F v v') T hw n Q (S.mono λe w' hh=>by simp_all);refine CO (H:=H) a u m X z hv ?_
   grind [Frame.finish_atR,Nm]
 | am f a1=>
  have n:=n (λ_ h=>by cases h) (λh=>by cases h);exact zf7 hS.a a u W λfn Q S=>by
   obtain⟨q,h3,h4⟩:=h fn Q S;exact⟨q,h4,.one (IX T hw n h3)⟩
 | ak l a1=>
  have n:=n (λ_ h=>by cases h) (λh=>by cases h);obtain⟨i0,q,hi,hl,aq⟩:=h;exact zf5 a u W hi hl λf t as bd hy=>.one (VS T hw n (by simp_all))
 | ah d=>
  obtain⟨_,d',Q,S⟩:=h;show lE P C B N μ base _ w (uz d C j acs H);unfold uz
  cases hr:j.R.c with
  | some l=>exact trivial
  | none=>
   have z:b.roundOf=none:=by
    have:=a.a.a;rw[hr]at this;change Ja μ none b.roundOf at this
    cases z:b.roundOf with
    | none=>rfl
    | some l=>rw[z]at this;exact this.elim
   simp only[]
   cases Z:fI j aD with
   | none=>exact trivial
   | some g=>
    have:=Ln (cur:=some H) a Z Vm;refine⟨μ,_,cs,w,.one (VY T hw z Q),λ_ _ h=>h,Below.refl N w,W,?_,u⟩;rw[Frame.finish_atR]at this ⊢;rw[Nm]at this ⊢;have e:∀x,(Act.put ⟨tmps,d'::ds⟩ x undef).tmps=(Act.put ⟨tmps,ds⟩ x undef).tmps:=λx=>by cases x<;>rfl
    rw[e];exact⟨⟨this.a.i,this.a.g,.aa S this.a.c,this.a.e,this.a.d,this.a.a⟩,this.c⟩
 | ap v=>
  have n:=n (λ_ h=>by cases h) (λh=>by cases h);obtain⟨v',Q,S⟩:=h;exact zf6 a u W S (.one (VU T hw n Q))
 | aj=>
  have n:=n (λ_ h=>by cases h) (λh=>by cases h);show lE P C B N μ base _ w (Rv C j acs H);unfold Rv
  cases hr:j.R.c with
  | some l=>exact trivial
  | none=>
   have z:b.roundOf=none:=by
    have:=a.a.a;rw[hr]at this;change Ja μ none b.roundOf at this
    cases z:b.roundOf with
    | none=>rfl
    | some l=>rw[z]at this;exact this.elim
   cases hk:j.R.b with
   | false=>exact trivial
   | true=>
    have D:b.kind=.deferred:=by have:=a.a.d;rw[hk]at this;exact this
    cases u with
    | ac=>exact trivial
    | @aa c J al y K A=>
     have st:=VT (P:=P) (b:=b) (k':=k') (rest:=rest) (cs:=J::(y++base)) T hw n z h;have m:=K.a.e
     have tr:∀U,tryRecover (b.atR ⟨tmps,ds⟩ U) (J::(y++base))=match J.mode with
       | .panicking ({ v,recovered:=false,goexit:=false }::E)=>some (v,{ J with mode:=.panicking ({ v,recovered:=true }::E) }::(y++base))
       | _=>none:=by
      intro U;obtain⟨ar,ae,af,a6,ad,ab,a8⟩:=b;simp only at D;subst D;rfl
     rw[tr]at st;simp only[]
     cases L:c.R.a with
     | ah=>
      rw[L]at m
      cases k:J.mode with
      | run=>
       rw[k]at st;simp only[]
       cases Z:fI j .x with
       | none=>exact trivial
       | some g=>exact⟨μ,_,J::y,w,.one st,λ_ _ h=>h,Below.refl N w,W,Ln a Z (by rw[rA]),.aa K A⟩
      | _=>rw[k]at m;exact m.elim
     | aa=>
      rw[L]at m
      cases k:J.mode with
      | returning=>
       rw[k]at st;simp only[]
       cases Z:fI j .x with
       | none=>exact trivial
       | some g=>exact⟨μ,_,J::y,w,.one st,λ_ _ h=>h,Below.refl N w,W,Ln a Z (by rw[rA]),.aa K A⟩
      | _=>rw[k]at m;exact m.elim
     | ac ch=>
      rw[L]at m
      cases k:J.mode with
      | run=>rw[k]at m;exact m.elim
      | returning=>rw[k]at m;exact m.elim
      | panicking au=>
       rw[k]at m st
       cases m with
       | ac=>exact trivial
       | @aa p e E M hp a7=>
        obtain⟨pv,pr⟩:=p
        cases pr with
        | true=>exact trivial
        | false=>
         obtain⟨ag,er,eg⟩:=e;obtain⟨q1,q2,q3⟩:=hp;simp only at q1 q2 q3;subst q2 q3;simp only[]
         cases Z:fI j pv with
         | none=>exact trivial
         | some g=>
          have ai:=Ln (cur:=some H) a Z q1;refine⟨μ,_,{ J with mode:=.panicking ({ v:=ag,recovered:=true }::M) }::y,w,.one st,λ_ _ h=>h,Below.refl N w,W,ai,.aa ?_ A⟩;refine⟨⟨K.a.i,K.a.g,K.a.c,.aa ⟨q1,rfl,rfl⟩ a7,K.a.d,K.a.a⟩,?_⟩;have:=K.c;rw[L]at this;exact this
end
end
section
variable {a e:RE}{b:Nat}{l s:List RE}
section
variable {P:Program}{C:fA}{B N:Nat}{μ:Mu}{H H' z:sA}{w:World}
def RE.d(C:fA)(e:RE)(x:uA):Option uA:=
 match e with
 | .st b a l=>sB (!Nat.blt b C.a) (ob x.a λc=>sB (Nat.ble (a+vB l) c.2.1&&nD O.z l) (some (.aa (c.1.am l a) c.2.1 c.2.2)))
 | .up b k v=>sB (!Nat.blt b C.a) (ob x.e λm=>some (.aj (oE m [(k,v)])))
def Ur  : Gd C H e=some H' ↔ ∃x y,H.t.c e.a=some x/\e.d C x=some y/\H'=A7 H e.a y:=by
 cases e with
 | st b a l=>
  grind [Gd,gK,eD,RE.d,RE.a,mA,qB]
 | up b k v=>
  grind [Gd,pN,RE.d,RE.a,mA,qB]
theorem Lk{a:Nat}{x:uA}:(A7 H b x).t.c a=if a=b then some x else H.t.c a:=G.aa _ _ _ _
def eW(a b:RE):Prop:=a.a≠b.a\/∃c k v d e,a=.up c k v/\b=.up c d e/\iJ k d=some false
def eW.d{b:RE}(h:eW a b):eW b a:=by
 rcases h with h | ⟨c,k,v,d,f,rfl,rfl,h⟩
 .exact .inl λe=>h e.symm
 .exact .inr ⟨c,d,f,k,v,rfl,rfl,Ta h⟩
def zku{b:RE}(h:vi a b=true):eW a b:=by
 unfold vi at h;rw[bD]at h;split at h
 .rename_i e
  cases a with
  | st=>cases h
  | up c k v=>
   cases b with
   | st=>cases h
   | up d g i=>
    have e:c=d:=zD.1 e;subst e;simp only[zgx]at h;split at h
    .rename_i r f
     cases r with
     | true=>cases h
     | false=>exact .inr ⟨c,k,v,g,i,rfl,rfl,f⟩
    .cases h
 .rename_i e;exact .inl λk=>e (zD.2 k)
def UE:∀ {l:List RE},AE l=true->l.Pairwise eW
 | [],_=>.nil
 | a::l,h=>by
  unfold AE at h;rw[B3,gI,C8]at h;exact .cons (λb c=>zku (h.1 b c)) (UE h.2)
def zL (b:Nat):List RE->List (O × O)
 | []=>[]
 | .st _ _ _::l=>zL b l
 | .up c k v::l=>if c=b then(k,v)::zL b l else zL b l
def Yy{b:Nat}:∀ {l m:List RE},zL b (l++m)=zL b l++zL b m
 | [],_=>rfl
 | .st _ _ _::l,m=>Yy (l:=l)
 | .up c k v::l,m=>by
  rw[List.cons_append,zL,zL,Yy (l:=l)];split<;>simp
def Ou{b:Nat}{p:O × O}:∀ {l:List RE},p∈zL b l->.up b p.1 p.2∈l
 | .st _ _ _::l,h=>.tail _ (Ou (l:=l) h)
 | .up c k v::l,h=>by
  rw[zL]at h;split at h
  .rename_i e;subst e;rcases C6.1 h with rfl | h
   .grind
   .exact .tail _ (Ou h)
  .exact .tail _ (Ou h)
def zjf  (h:∀e∈l,e.a≠b):zL b l=[]:=by
 cases a:zL b l with
 | nil=>rfl
 | cons p r=>
  have:p∈zL b l:=by simp_all
  exact absurd rfl (h _ (Ou this))
def zje {m:List RE}(p:l.Perm m):(zL b l).Perm (zL b m):=by
 induction p with
 | nil=>exact .refl _
 | cons x _ e=>
  cases x with
  | st=>exact e
  | up c k v=>
   rw[zL,zL];split
   all_goals simp_all
 | swap x y l=>
  cases x with
  | st=>cases y<;>exact .refl _
  | up c k v=>
   cases y with
   | st=>exact .refl _
   | up f g h=>
    simp only[zL];split<;>split<;>first | exact .refl _ | exact .swap _ _ _
 | trans _ _ a d=>exact a.trans d
def zxc  (h:l.Pairwise eW):DK (zL b l):=by
 unfold DK;induction l with
 | nil=>exact .nil
 | cons x l d=>
  rw[List.pairwise_cons]at h
  cases x with
  | st=>exact d h.2
  | up c k v=>
   rw[zL];split
   .rename_i e;subst e;refine .cons (λp f=>?_) (d h.2);rcases h.1 _ (Ou f)with a | ⟨_,_,_,_,_,g,i,a⟩
    .exact absurd rfl a
    simp_all
   simp_all
structure tQ (C:fA) (H:sA) (s:List RE) (z:sA):Prop where
 c:z.a=H.a
 q:∀b off l,RE.st b off l∈s->∃x y,H.t.c b=some x/\(RE.st b off l).d C x=some y/\z.t.c b=some y
 g:∀b k v,RE.up b k v∈s->z.t.c b=some (.aj (zL b s))
 d:∀a,(∀e∈s,e.a≠a)->z.t.c a=H.t.c a
theorem tQ.j:tQ C H [] H:=⟨rfl,λ_ _ _ h=>(by cases h),λ_ _ _ h=>(by cases h),λ_ _=>rfl⟩
def Ux(C:fA)(H:sA)(e:RE):Prop:=
 match e with
 | .st _ _ _=>∃H',Gd C H e=some H'
 | .up b _ _=>Nat.blt b C.a=false/\H.t.c b=some (.aj [])
theorem zf1 (h:Ni C H e=true):Ux C H e:=by
 cases e with
 | st b a l=>
  change (!dE (gK C H b a l))=true at h
  cases c:gK C H b a l with
  | none=>rw[c]at h;cases h
  | some H'=>exact⟨H',c⟩
 | up b k v=>
  unfold Ni at h;simp only[B3,E7]at h;refine⟨h.1,?_⟩
  grind [Zx]
def tQ.f  (h:tQ C H s z)(N:Ux C H e)(A:∀x∈s,eW x e):∃H',Gd C z e=some H'/\tQ C H (s++[e]) H'/\(∀b k v,e=.up b k v->∃m,z.t.c b=some (.aj m)/\Nat.blt b C.a=false/\(∀p∈m,iJ k p.1=some false)/\H'=A7 z b (.aj (m++[(k,v)]))):=by
 cases e with
 | st b j l=>
  have r:∀x∈s,x.a≠b:=λx t=>by
   rcases A x t with o | ⟨_,_,_,_,_,_,o,_⟩
   .exact o
   grind
  obtain⟨S,o⟩:=N;obtain⟨x,y,t,R,rfl⟩:=Ur.1 o;have t:H.t.c b=some x:=t;have B:=h.d b r;refine⟨A7 z b y,Ur.2 ⟨x,y,by show z.t.c b=_;simp_all,R,rfl⟩,⟨h.c,λc n F g=>?_,λc k v g=>?_,λa i=>?_⟩,λ_ _ _ e=>by cases e⟩
  .rcases F7.1 g with g | g
   .obtain⟨u,v,J,K,L⟩:=h.q c n F g;refine⟨u,v,J,K,?_⟩;rw[Lk,A3 (show ¬ c=b from r _ g)];exact L
   grind [Lk]
  .rcases F7.1 g with g | g
   .rw[Lk,A3 (show ¬ c=b from r _ g),h.g c k v g,Yy];simp[zL]
   grind
  .rw[Lk,A3 (λe=>i (.st b j l) (by simp) e.symm)];exact h.d a λe q=>i e (by simp[q])
 | up b k v=>
  obtain⟨P,g⟩:=N;have D:∀c j l,RE.st c j l∈s->c≠b:=λc j l t=>by
   rcases A _ t with o | ⟨_,_,_,_,_,o,_,_⟩
   .exact o
   grind
  have B:z.t.c b=some (.aj (zL b s)):=by
   by_cases w:∃e∈s,e.a=b
   .obtain⟨e,q,f⟩:=w
    cases e with
    | st c j l=>exact absurd f (D _ _ _ q)
    | up c E I=>
     have f:c=b:=f;subst f;exact h.g _ _ _ q
   .have M:∀e∈s,e.a≠b:=λe q f=>w ⟨e,q,f⟩;rw[h.d b M,g,zjf M]
  refine⟨A7 z b (.aj (zL b s++[(k,v)])),Ur.2 ⟨_,_,B,?_,rfl⟩,⟨h.c,λc n F d=>?_,λc E I d=>?_,λa i=>?_⟩,λc E I e=>?_⟩
  .simp_all [RE.d,sB,uA.e,wI]
  .rcases F7.1 d with d | d
   .obtain⟨u,x,J,K,L⟩:=h.q c n F d
    grind [Lk]
   simp_all
  .rw[Lk,Yy];by_cases e:c=b
   .grind [zL]
   .rw[A3 e];have:zL c [RE.up b k v]=[]:=by grind [zL]
    rw[this,Do];rcases F7.1 d with d | d
    .exact h.g c E I d
    simp_all
  .rw[Lk,A3 (λe=>i (.up b k v) (by simp) e.symm)];exact h.d a λe q=>i e (by simp[q])
  .cases e;refine⟨_,B,P,λp Q=>?_,rfl⟩;rcases A _ (Ou Q)with o | ⟨_,_,_,_,_,T,U,o⟩
   .exact absurd rfl o
   grind [Ta]
def tQ.n (h:tQ C H s z)(d:∀e∈l,Ux C H e)(n:(s++l).Pairwise eW):∀ {H'},Mb C l z=some H'->tQ C H (s++l) H':=by
 induction l generalizing s z with
 | nil=>intro H' a;cases a;simp_all
 | cons e l j=>
  intro H' a;unfold Mb at a;rw[mA]at a;obtain⟨k,i,a⟩:=a;have b:∀x∈s,eW x e:=λx f=>by
   grind
  obtain⟨m,c,g,_⟩:=h.f (d e (.head _)) b;rw[i]at c;cases c;have:=j g (λx f=>d x (.tail _ f)) (by simp_all) a
  rwa [D5]at this
structure dz (μ:Mu) (H H':sA):Prop where
 b:H'.a=H.a
 c:∀a,H'.t.c a=H.t.c a\/((∃i,μ a=some i)/\∃m m',H.t.c a=some (.aj m)/\H'.t.c a=some (.aj m')/\m.Perm m'/\DK m)
def tQ.o{t:List RE}{q r:sA}(h:tQ C H s q)(m:tQ C H t r)(p:s.Perm t)(A:s.Pairwise eW)(B:∀e∈s,∃i,μ e.a=some i):dz μ q r:=by
 refine⟨m.c.trans h.c.symm,λa=>?_⟩;by_cases d:∃e∈s,e.a=a
 .obtain⟨e,c,rfl⟩:=d
  cases e with
  | st b j l=>
   obtain⟨x,y,u,w,z⟩:=h.q b j l c;obtain⟨D,E,f,g,n⟩:=m.q b j l (p.mem_iff.1 c);rw[u]at f;cases f;rw[w]at g;cases g;exact .inl (n.trans z.symm)
  | up b k v=>exact .inr ⟨B _ c,_,_,h.g b k v c,m.g b k v (p.mem_iff.1 c),zje p,zxc A⟩
 .left
  rw[h.d a λe c o=>d ⟨e,c,o⟩,m.d a λe c o=>d ⟨e,p.mem_iff.2 c,o⟩]
def lB.br(c:lB B N μ H w)(h:dz μ H H'):lB B N μ H' w:=by
 have d:∀a y,H'.t.c a=some y->∃x,H.t.c a=some x/\(y=x\/∃m r,x=.aj m/\y=.aj r/\m.Perm r/\DK m):=by
  intro a y q;rcases h.c a with e | ⟨_,m,r,z,v,E⟩
  all_goals grind
 refine⟨c.ak,c.ac,λa x i l u n=>?_,by rw[h.b];exact c.ah,c.aa,λa l=>?_,λa x i u n=>?_,c.aj,λa b x y i j u q n K l J e=>?_,λa x t p=>?_⟩
 .obtain⟨y,q,k⟩:=d a x u;obtain⟨g,s,D⟩:=c.aw a y i l q n;rcases k with rfl | ⟨m,r,rfl,rfl,_⟩
  .simp_all
  .exact⟨g,rfl,rfl⟩
 .rw[h.b]at l;obtain⟨g,s⟩:=c.r a l;refine⟨g,?_⟩;rcases h.c a with e | ⟨_,m,r,z,_⟩
  all_goals simp_all
 .obtain⟨y,q,k⟩:=d a x u;obtain⟨o,g,s⟩:=c.am a y i q n;refine⟨o,g,?_⟩;rcases k with rfl | ⟨m,r,rfl,rfl,p,F⟩
  .exact s
  .obtain⟨I,f,L,z,v,E⟩:=s;refine⟨I,f,L,z,?_,E⟩;rcases v with rfl | ⟨v,_⟩
   .exact .inr ⟨p.symm,F.c p⟩
   .exact .inr ⟨p.symm.trans v,F.c p⟩
 .obtain⟨M,A,_⟩:=d a x u;obtain⟨P,C,_⟩:=d b y q;exact c.inj a b M P i j A C n K l J e
 .obtain⟨g,s,D⟩:=c.ax a x t p;refine⟨g,?_,D⟩;rcases h.c a with e | ⟨⟨i,n⟩,_⟩
  all_goals simp_all
def zjj(W:nG P C)(d:B<=C.a)(U:lB B N μ z w){e:mD}{ρ:Operand->Value}(r:iG μ e ρ){o:Oper}{u:uQ}{n:RE}(c:Fp o.op e=some u)(f:Ag C u=some n)
  (h3:Gd C z n=some H') (h4:∀b k v,n=.up b k v->∃m,z.t.c b=some (.aj m)/\Nat.blt b C.a=false/\(∀p∈m,iJ k p.1=some false)/\H'=A7 z b (.aj (m++[(k,v)]))) :
  aU P B N μ w ρ o aD H'/\∃i,μ n.a=some i:=by
 obtain⟨a6,op,a1,a8,s,y⟩:=o;have q:∀ {t:Nat} {m k x:Operand},(ob (ev m e) λm=>ob (ev k e) λk=>ob (ev x e) λv=>some (uQ.c t m k v))=some u->Ih t m k x C e z=.aa aD H'/\∃i,μ n.a=some i:=by
  intro t m k x c;simp only[mA]at c;obtain⟨mv,Z,kv,hk,R,Q,c⟩:=c;cases c;simp only[Ag,mA,qB,B3]at f;obtain⟨ty,g,ke,K,a7,j,⟨J,h⟩,b,D,f⟩:=f;cases f;obtain⟨l,hl,E,H,rfl⟩:=h4 b kv R rfl;have F:pN z b=some l:=by unfold pN;rw[hl];rfl
  constructor
  .unfold Ih;simp only[g,K,j,J,Z,D,E,F,hk,h,Q,lA,sB,cond_true,L0,BV H];rfl
  .have:=r _ _ Z;rw[AB]at D;subst D;rw[rA]at this;obtain⟨i,I,_⟩:=this;exact⟨i,I⟩
 cases op<;>try (cases c;done)
 case insert t m k x=>
  obtain⟨S,T⟩:=q c;exact⟨(Yi (P:=P) W d U r S).2,T⟩
 case mapUpdate t m k x=>
  obtain⟨S,T⟩:=q c
  grind [Yi]
 case store t a x=>
  simp only[Fp,mA]at c;obtain⟨av,X,R,Q,c⟩:=c;cases c;simp only[Ag,mA,qB]at f;obtain⟨ty,g,p,L,M,f⟩:=f;cases f;constructor
  .refine PT (P:=P) W d U r ?_;unfold Th;have A:gK C z p.1 p.2 R.s=some H':=h3;simp only[g,X,L,Q,lA,M,sB,cond_true,A];rfl
  .have:=r _ _ X;rw[Ma]at L;subst L;rw[rA]at this;obtain⟨i,I,_⟩:=this;exact⟨i,I⟩
end
end
section
variable {f:List Nat}
section
variable {P:Program}{C:fA}{B N:Nat}{μ:Mu}{H H' y:sA}{w:World}{all:Array Oper}{olds:List (Nat × List Nat)}{r:G Nat}{n:Nat}{old tm tm':Tm}{D D' s:Nat}{S:Nat->Bool}{q:List Nat}{tmps:Array Value}{ds:List Deferred}{dp:Nat}
variable {b:Frame}{k:List Item}{cs:List Frame}
def aG.aw(h:∀k,tb D k=tb D' k)(R:aG μ all olds r n old tm D S q tmps):aG μ all olds r n old tm D' S q tmps:=by
 have e:tb D=tb D':=funext h;exact⟨R.r,R.p,λi b=>by rw[<- h];exact R.z i b,R.m,by rw[<- e];exact R.l,R.q,R.aj,R.s,λd a g=>R.aa d a λi o c f=>by simp_all,R.ah⟩
def eI.a(h:∀k,tb D k=tb D' k)(p:eI C μ dp H all olds n old tm D S):eI C μ dp H all olds n old tm D' S:=λi a=>p i (by simp_all)
def LN{g:Type}{R:g->g->Prop}(j:∀a b,R a b->R b a):∀ {l:List g},l.Pairwise R->∀a∈l,∀b∈l,a≠b->R a b
 | [],_,a,c,_,_,_=>by cases c
 | x::l,h,a,c,b,i,f=>by
  rw[List.pairwise_cons]at h;rcases C6.1 c with rfl | d
  .grind
  .rcases C6.1 i with rfl | e
   .simp_all
   .exact LN j h.2 a d b e f
def zu7{l m:List Nat}(a:l.Nodup)(b:m.Nodup)(h:∀i,i∈l ↔ i∈m):l.Perm m:=(List.perm_ext_iff_of_nodup a b).2 h
theorem zny{o:Oper}(a:Td o.op=true)(f:Xu C o=true)(e:mD)(i:sA):(jG o.op).f C e H=(jG o.op).f C e i:=by
 obtain⟨j,n,h,p,b,d⟩:=o;cases n<;>try (cases a;done)
 rename_i c;simp only[Td]at a;split at a
 case h_2=>cases a
 rename_i g;simp only[Xu,g]at f;simp only[jG,uu,g,lX,Xv,sU]
 cases l:lD c.argTypes.toList 0 with
 | none=>rfl
 | some t=>
  rw[l,lA]at f;simp only[lA]
  cases s:lD c.args.toList 0 with
  | none=>rfl
  | some x=>
   simp only[lA]
   cases m:C.b.c t with
   | none=>rfl
   | some q=>
    rw[m]at f;simp only[lA]
    cases r:ev x e with
    | none=>rfl
    | some v=>
     simp only[lA];have k:Nat.beq q.a.l 6=false:=by simp_all
     unfold dY;split
     .rfl
     .split
      .rfl
      .split
       .rfl
       .split
        .rw[k];rfl
        .rfl
def LJ (p:HE all r D f s)(a:Ct C all=true){d:Nat}{seq:List Nat}(l:∀k,tb d k=(tb D k||decide (k∈seq)))(o:∀i∈seq,S i=true){g:Nat}(y:g∈f)(v:∀k,tb (bK r g) k=true->S k=true)
  (t:eI C μ dp H all olds n old tm d S) (e:sA):eI C μ dp e all olds n old tm d S:=by
 intro j c m;rcases t j c m with⟨u,x,w,b⟩ | h
 .refine .inl ⟨u,x,w,?_⟩;rw[l]at c;simp only[H5,decide_eq_true_eq]at c;rcases c with c | c
  .rcases p.c j u b.f c with h | h | h | h
   .exact b.p h e
   .exact b.m h e
   .refine⟨b.f,b.a,?_,b.c⟩;have q:Xu C u=true:=by
     unfold Ct at a;rw[gI,C8]at a;exact a u (Q5 (by simpa using b.f))
    have:=b.b
    grind [zny]
   simp_all
  simp_all
 simp_all
def zoi(hT:nG P C)(Z:B<=C.a) (L:HE all r D f s)(ae:Ct C all=true){ef:Nat->uQ}{F:Nat->RE}(ah:∀i∈f,Db all old olds tm i=some (ef i)/\Ag C (ef i)=some (F i))
  (ac:(f.map F).Pairwise eW) (ak:∀i∈f,Ux C H (F i)):∀(q:List Nat) (S:Nat->Bool) (tmps:Array Value) (μ:Mu) (w:World) (seq:List Nat) (E:sA) (v:Nat),
  seq.Nodup->(∀i∈seq,i∈f/\S i=true)->tQ C H (seq.map F) E->(∀i∈seq,∃j,μ (F i).a=some j)->(∀k,tb v k=(tb D k||decide (k∈seq)))->lB B N μ E w →
  aG μ all olds r n old tm v S q tmps->eI C μ dp E all olds n old tm v S →
  ∃(K:Nat->Bool) (l:List Nat) (p:Array Value) (m:Mu) (w':World) (t:List Nat) (z:sA),Steps P (lone (b.atR ⟨tmps,ds⟩ (.inRegion all q::k)) cs w) (lone (b.atR ⟨p,ds⟩ (.inRegion all l::k)) cs w')/\Below N w w'/\μ.l m/\(∀d,d≠dp->μ.t d m) ∧
   t.Perm f/\tQ C H (t.map F) z/\(∀i∈t,∃j,m (F i).a=some j)/\lB B N m z w'/\aG m all olds r n old tm s K l p/\eI C m dp z all olds n old tm s K/\(∀i∈t,K i=true):=by
 have al:∀i∈f,∀j∈f,i≠j->eW (F i) (F j):=by
  rw[List.pairwise_map]at ac;exact LN (λa b h=>h.d) ac
 have af:∀(q:List Nat) (S:Nat->Bool) (tmps:Array Value) (μ:Mu) (w:World) (seq:List Nat) (E:sA) (v:Nat),
  seq.Nodup->(∀i∈seq,i∈f/\S i=true)->tQ C H (seq.map F) E->(∀i∈seq,∃j,μ (F i).a=some j)->(∀k,tb v k=(tb D k||decide (k∈seq)))->lB B N μ E w →
  aG μ all olds r n old tm v S q tmps->eI C μ dp E all olds n old tm v S->(∀i∈f,i∈seq) →
  ∃(K:Nat->Bool) (l:List Nat) (p:Array Value) (m:Mu) (w':World) (t:List Nat) (z:sA),Steps P (lone (b.atR ⟨tmps,ds⟩ (.inRegion all q::k)) cs w) (lone (b.atR ⟨p,ds⟩ (.inRegion all l::k)) cs w')/\Below N w w'/\μ.l m/\(∀d,d≠dp->μ.t d m) ∧
   t.Perm f/\tQ C H (t.map F) z/\(∀i∈t,∃j,m (F i).a=some j)/\lB B N m z w'/\aG m all olds r n old tm s K l p/\eI C m dp z all olds n old tm s K/\(∀i∈t,K i=true):=by
  intro q S tmps μ w seq E v h1 Q h3 h4 W X y h8 h9;have hD:∀k,tb v k=tb s k:=λk=>by
   rw[W,L.a];grind
  exact⟨S,q,tmps,μ,w,seq,E,.refl _ _,Below.refl _ _,λ_ _ h=>h,λd _=>μ.z d,zu7 h1 L.b λi=>⟨λh=>(Q i h).1,h9 i⟩,h3,h4,X,y.aw hD,h8.a hD,λi hi=>(Q i hi).2⟩
 intro q;induction q with
 | nil=>
  intro S tmps μ w seq E v h1 Q h3 h4 W X y h8;refine af _ S tmps μ w seq E v h1 Q h3 h4 W X y h8 λi hi=>?_;obtain⟨o,I,ap,_⟩:=L.e i hi;have:=y.z _ (y.p i (H4.1 I).1)
  simp_all
 | cons i q ih=>
  intro S tmps μ w seq E v h1 Q h3 h4 W X y h8;by_cases ab:∀i∈f,i∈seq
  .grind
  cases hi:tb v i with
  | true=>
   obtain⟨o,I,hS,hb,hs⟩:=y.p;obtain⟨K,p,μ1,w1,s1,g1,r1,p1,up⟩:=LL (b:=b) (k:=k) (cs:=cs) (ds:=ds) hT X y h8 hi;obtain⟨S2,l,A,μ2,w2,J,T,s2,b2,l2,d2,rest⟩:=ih K p μ1 w1 seq E v h1 (λj u=>⟨(Q j u).1,up j (Q j u).2⟩) h3 (λj u=>by obtain⟨x,R⟩:=h4 j u;exact⟨x,g1.g _ _ R⟩) W g1.b r1 p1;exact⟨S2,l,A,μ2,w2,J,T,.head s1 s2,g1.below.trans b2,λa x R=>l2 a x (g1.g a x R),λd hd=>Mu.r (g1.j d hd) (d2 d hd),rest⟩
  | false=>
   obtain⟨o,I,hS,hb,hs⟩:=y.p;have M:i∈f:=by
    cases ad:tb s i with
    | false=>
     exfalso;rcases L.d i o I ad with h | h
     .refine ab λg hg=>?_;have:=y.z g (y.r.f y.m I hb (h g hg));obtain⟨_,_,ao,_⟩:=L.e g hg
      grind
     .refine h λj u=>?_;have:=y.z j (hb j u);rw[W]at this;rw[L.a];grind
    | true=>
     rw[L.a]at ad;grind
   have ai:i∉seq:=λh=>by
    grind
   obtain⟨o',a6,_,_,am⟩:=L.e i M;rw[I]at a6;cases a6;obtain⟨U,e2⟩:=ah i M;unfold Db at U;simp only[mA,qB,xI]at U;obtain⟨o',a6,wn,hw,a7,U⟩:=U;have:o'=o:=by
    grind
   subst this;subst a7;have a7:=y.y I hb hw;obtain⟨Hn,a1,a2,a3⟩:=h3.f (ak i M) (λx R=>by
    grind)
   obtain⟨hv,j0,aj⟩:=zjj (P:=P) (o:=o') hT Z X (y.ak (ds:=ds) X.ac I hS hb) U e2 a1 a3;have ag:∀c,o'.op≠.defer c:=λc e=>by rw[e]at U;cases U
   obtain⟨v',w',m,s1,m1,m2,m3,m4⟩:=AP (b:=b) (k':=k) (rest:=q) (cs:=cs) I a7 ag hv;have a8:∀k,tb (Nat.lor v (Gb i)) k=(tb v k||k == i):=λk=>by grind [Vu,Vv]
   have r1:=(y.ac m1.f).au (D':=Nat.lor v (Gb i)) (tm':=tm) I a8 (λd hd=>by grind) (λ_ _=>rfl) m4 (ds:=ds);have p0:=LJ L ae W (λj u=>(Q j u).2) M (λk hk=>y.r.f y.m I hb hk) h8 Hn;have p1:eI C m dp Hn all olds n old tm (Nat.lor v (Gb i)) (λk=>S k||k == i):=by
    intro j u aa;rw[a8]at u;simp only[Z7,H5]at u aa;exact(eI.b (m1.b dp) p0) j (u.resolve_right (by grind)) aa.1
   obtain⟨S2,l,A,μ2,w2,J,T,s2,b2,l2,d2,rest⟩:=ih (λk=>S k||k == i) (Act.put ⟨tmps,ds⟩ o'.dst v').tmps m w' (seq++[i]) Hn (Nat.lor v (Gb i))
    (by grind)
    (λj u=>by
     grind)
    (by grind)
    (λj u=>by
     rcases F7.1 u with u | u
     .obtain⟨x,R⟩:=h4 j u;exact⟨x,m1.f _ _ R⟩
     .simp at u;subst u;exact⟨j0,m1.f _ _ aj⟩)
    (λk=>by
     grind)
    m2 r1 p1
   exact⟨S2,l,A,μ2,w2,J,T,.head s1 s2,m3.trans b2,λa x R=>l2 a x (m1.f a x R),λd hd=>Mu.r (m1.b d) (d2 d hd),rest⟩
end
end
end Go.Am
