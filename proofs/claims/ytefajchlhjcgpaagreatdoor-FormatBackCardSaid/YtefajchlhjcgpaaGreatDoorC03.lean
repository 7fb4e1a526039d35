/- A plan that is true to its region. -/
import Derived.AtR
import Derived.Test.YtefajchlhjcgpaaGreatDoorC02
set_option linter.all false
noncomputable section
namespace Go.Am
open Go Go.RowKit
section
variable {q t:G Nat}{D i k m:Nat}{n:Array Oper}{s:eH}{r:List eH}{f:List Nat}
def vw(m i:Nat):tb m i=m.testBit i:=by
 have h:Nat.mod (Nat.shiftRight m i) 2=(m >>> i)%2:=rfl;unfold tb;show Nat.beq ((m >>> i)%2) 1=_;rw[Nat.testBit,Nat.and_comm,Nat.and_one_is_mod];rcases Nat.mod_two_eq_zero_or_one (m >>> i)with h | h<;>rw[h]<;>rfl
theorem Vp(i j:Nat):tb (Fp i) j=(i == j):=by
 rw[vw];show(1 <<< i).testBit j=_;rw[Nat.one_shiftLeft,Nat.testBit_two_pow];cases h:(i == j)<;>simp_all
theorem Vo(a b j:Nat):tb (Nat.lor a b) j=(tb a j||tb b j):=by
 simp_all [vw]
theorem Vn(j:Nat):tb 0 j=false:=by rw[vw];simp
theorem Pe(e:Edge):Ls e=Region.binds .any e:=by
 unfold Ls Region.binds;cases e.ground<;>rfl
def Da(n:Array Oper)(S:Nat->Bool):Prop:=∀i o,n[i]?=some o->S i=true->∀j,iN o j->S j=true
def vz(n:Array Oper)(k m:Nat):Prop:=∀S,Da n S->(∀o,n[k]?=some o->∀j,iN o j->S j=true)->∀j,tb m j=true->S j=true
def zgb {j:Nat}:∀ {l:List Edge},tb (Nu t l) j=true->∃e∈l,Region.binds .any e=true/\(e.on=j\/tb (gK t e.on) j=true):=by
 intro l;induction l with
 | nil=>grind [Nu,Vn]
 | cons e l a=>
  grind [Nu,Vo,Vp,Pe]
def znl   : gK (t.d i m) k=if k=i then m else gK t k:=by
 unfold gK;rw[G.aa];by_cases h:k=i<;>simp[h]
theorem zhy  : gK .aj k=0:=rfl
def Ar{b:Type}{l r:List b}{a:b} (h:a::r=l.drop i):l[i]?=some a/\r=l.drop (i+1):=by
 have c:(l.drop i)[0]?=some a:=by grind
 rw[mb]at c;refine⟨by omega,?_⟩;have:r=(l.drop i).drop 1:=by grind
 rw[this,List.drop_drop]
def zor  : ∀(r:List Oper) (i:Nat) (t:G Nat),r=n.toList.drop i->(∀k,vz n k (gK t k))->∀k,vz n k (gK (vi r i t) k):=by
 intro r;induction r with
 | nil=>intro i t _ h k;exact h k
 | cons o r s=>
  intro i t q h;obtain⟨v,f⟩:=Ar q;refine s (i+1) _ f λk=>?_;rw[znl];split
  .rename_i e;subst e;intro S d p j a;obtain⟨e,l,g,a⟩:=zgb a;have m:n[k]?=some o:=by simp_all
   have b:=p o m e.on ⟨e,l,g,rfl⟩;rcases a with rfl | a
   .exact b
   .exact h e.on S d (λu c=>d _ u c b) j a
  grind
def zfz  : ∀(r:List Oper) (i:Nat),r=n.toList.drop i->Wy r i=true->∀k o,i<=k->n[k]?=some o->∀j,iN o j->j<k:=by
 intro r;induction r with
 | nil=>
  grind [List.drop_eq_nil_iff]
 | cons o r q=>
  intro i b h k c a p;obtain⟨d,f⟩:=Ar b;unfold Wy at h;rw[bD]at h;split at h
  .rename_i g;rcases Nat.eq_or_lt_of_le a with rfl | a
   .have:c=o:=by
     simp_all
    subst this;rintro j ⟨e,m,l,rfl⟩
    grind [gI,Pe,gC]
   grind
  .cases h
def fi (n:Array Oper)(i:Nat)(a:G Nat):Prop:=∀d k,a.c d=some k ↔ k<i/\∃o,n[k]?=some o/\o.dst=some d
def zr2  : ∀(r:List Oper) (i:Nat) (t c:G Nat),r=n.toList.drop i->i<=n.size->fi n i t->I4 r i t=some c->fi n n.size c:=by
 intro r;induction r with
 | nil=>
  intro i t c q v h b;cases b;grind [List.drop_eq_nil_iff]
 | cons o r s=>
  intro i t c q v h b;obtain⟨z,m⟩:=Ar q;have w:n[i]?=some o:=by simp_all
  have f:i<n.size:=(G3.1 w).1;unfold I4 at b
  cases p:o.dst with
  | none=>
   rw[p]at b;refine s (i+1) t c m f (λd k=>?_) b;rw[h d k];grind
  | some l=>
   rw[p]at b;simp only[]at b
   cases u:t.c l with
   | some x=>simp_all
   | none=>
    rw[u]at b;refine s (i+1) _ c m f (λd k=>?_) b;rw[G.aa];by_cases e:d=l
    .subst e;rw[A5 rfl];constructor
     .grind
     .rintro⟨a,y,j,g⟩;rcases Nat.lt_succ_iff_lt_or_eq.1 a with a | rfl
      .have:=(h d k).2 ⟨a,y,j,g⟩
       simp_all
      .rfl
    .rw[A3 e,h d k]
     grind
def zl9 {b:G Nat}{olds:List (Nat × List Nat)}:∀(r:List Oper) (i:Nat),r=n.toList.drop i->sh b q olds r i=true →
  ∀k o,i<=k->n[k]?=some o->DC (gK q k) o.guard=true/\∀t∈aI o.op,vj b q k (vG k olds) t=true:=by
 intro r;induction r with
 | nil=>
  grind [List.drop_eq_nil_iff]
 | cons o r l=>
  intro i c h k m a j;obtain⟨d,e⟩:=Ar c;unfold sh at h;rw[bD]at h;split at h
  .rename_i f;rw[bD]at h;split at h
   .rename_i g;rcases Nat.eq_or_lt_of_le a with rfl | a
    all_goals grind [gI]
   .cases h
  .cases h
structure Bd (n:Array Oper) (olds:List (Nat × List Nat)) (q:G Nat):Prop where
 g:nt n
 c:∀k,vz n k (gK q k)
 a:∀(i j:Nat) (o u:Oper) (d:Nat),n[i]?=some o->n[j]?=some u->o.dst=some d->u.dst=some d->i=j
 b:∀(k:Nat) (o:Oper),n[k]?=some o->DC (gK q k) o.guard=true
 e:∀(k:Nat) (o:Oper) (j:Nat) (u:Oper) (t:Nat),n[k]?=some o->n[j]?=some u->u.dst=some t->t∈aI o.op->if t∈vG k olds then j=k\/tb (gK q j) k=true else tb (gK q k) j=true
def zfv {p:M3}(h:tY n p=true):∃q D,Bd n p.b q/\uT n.toList p.c 0=some D/\yL n.toList q p.a D=true:=by
 change DB n.toList p=true at h;unfold DB at h;rw[bD]at h;split at h
 case isFalse=>cases h
 rename_i f
 cases b:I4 n.toList 0 .aj with
 | none=>simp_all
 | some c=>
  rw[b]at h;simp only[]at h;rw[bD]at h;split at h
  case isFalse=>cases h
  rename_i l
  cases g:uT n.toList p.c 0 with
  | none=>simp_all
  | some D=>
   rw[g]at h;have r:fi n n.size c:=zr2 _ 0 _ _ rfl (H4 _) (λd k=>by simp[G.ah]) b;have m:=zl9 _ 0 (by rfl) l;have s:∀k o d,n[k]?=some o->o.dst=some d->c.c d=some k:=λk o d a e=>(r d k).2 ⟨(G3.1 a).1,o,a,e⟩;refine⟨_,D,⟨λi o a=>zfz _ 0 rfl f i o (H4 _) a,zor _ 0 _ rfl λk S _ _ j t=>?_,?_,λk o a=>(m k o (H4 _) a).1,?_⟩,rfl,h⟩
   all_goals grind [zhy,Vn,vj,Ee,bC]
def Ry {D':Nat}(h:Bv n.toList i D=some D'):∃o,n[i]?=some o/\tb D i=false/\(∀j,iN o j->tb D j=true)/\∀k,tb D' k=(tb D k||k == i):=by
 unfold Bv at h;rw[pA]at h;obtain⟨o,b,a⟩:=h;rw[yI]at b;rw[qB]at a;obtain⟨a,c⟩:=a;cases c;rw[bD]at a;split at a
 .cases a
 .rename_i d;refine⟨o,by simp_all,by simp_all,?_,λk=>by grind [Vo,Vp]⟩;rintro j ⟨e,g,f,rfl⟩
  grind [De,gI,Pe]
def zfw {h:Nat}:∀(r:List Oper) (i:Nat),r=n.toList.drop i->Wx h D r i=true →
  ∀k o,i<=k->n[k]?=some o->tb D k=false->(∀j,iN o j->tb D j=true)->k=h:=by
 intro r;induction r with
 | nil=>
  grind [List.drop_eq_nil_iff]
 | cons o r t=>
  intro i l h k c b s;obtain⟨m,p⟩:=Ar l;unfold Wx at h;rw[bD]at h;split at h
  .rename_i a;rcases Nat.eq_or_lt_of_le b with rfl | b
   .have:c=o:=by
     simp_all
    subst this;intro d g;rw[d]at a;simp only[cond_false]at a;rw[bD]at a;split at a
    .simp_all
    .exfalso;have:De D c=true:=by
      unfold De;rw[gI,C9];intro e f
      cases q:Ls e with
      | false=>rfl
      | true=>exact g e.on ⟨e,f,by grind [Pe],rfl⟩
     simp_all
   grind
  .cases h
def zat  {a:List Nat}:∀(r:List Oper) (i:Nat),r=n.toList.drop i->Xa m D a r i=true →
  ∀k o,i<=k->n[k]?=some o->tb D k=true->tb m k=true\/xY o.op=true\/nN o.op=true\/k∈a:=by
 intro r;induction r with
 | nil=>
  grind [List.drop_eq_nil_iff]
 | cons o r j=>
  intro i c h k l b g;obtain⟨d,e⟩:=Ar c;unfold Xa at h;rw[bD]at h;split at h
  .rename_i f;rcases Nat.eq_or_lt_of_le b with rfl | b
   all_goals grind [Ee]
  .cases h
def zmb   : ∀(r:List Oper) (i:Nat),r=n.toList.drop i->si D r i=true->∀k,i<=k->k<n.size->tb D k=true:=by
 intro r;induction r with
 | nil=>
  grind [List.drop_eq_nil_iff]
 | cons o r g=>
  intro i b h k a f;obtain⟨c,d⟩:=Ar b;unfold si at h;rw[bD]at h;split at h
  .rename_i e;rcases Nat.eq_or_lt_of_le a with rfl | a
   all_goals grind
  .cases h
def XL   (h:yL n.toList q [] D=true):∀k,k<n.size->tb D k=true:=
 λk a=>zmb _ 0 rfl h k (H4 _) a
def Wv     (h:yL n.toList q (s::r) D=true)(l:s.a<=n.size) :
  (∀k o,n[k]?=some o->tb D k=false->(∀j,iN o j->tb D j=true)->k=s.a) ∧
  (∀k o,n[k]?=some o->tb D k=true->tb (gK q s.a) k=true\/xY o.op=true\/nN o.op=true\/k∈s.c) ∧
  ∃d f,Bv n.toList s.a D=some d/\uT n.toList s.b d=some f/\yL n.toList q r f=true:=by
 unfold yL at h;rw[bD,A3 λe=>by grind [gC,eD],bD]at h;split at h
 case isFalse=>cases h
 rename_i g;rw[bD]at h;split at h
 case isFalse=>cases h
 rename_i i;refine⟨λk o a b c=>zfw _ 0 rfl g k o (H4 _) a b c,λk o a b=>zat _ 0 rfl i k o (H4 _) a b,?_⟩
 cases m:Bv n.toList s.a D with
 | none=>simp_all
 | some d=>
  grind [mA]
def XN     (h:yL n.toList q (s::r) D=true)(j:n.size<s.a)(i:s.a<=n.size+n.size) :
  ∃o a b,n[s.a-(n.size+1)]?=some o/\nN o.op=true/\Bv n.toList (s.a-(n.size+1)) D=some a/\uT n.toList s.b a=some b/\yL n.toList q r b=true:=by
 have f:Nat.sub s.a (Nat.succ (wB n.toList))=s.a-(n.size+1):=by rw[eD];simp
 unfold yL at h;rw[bD,A5 (gC.2 (by grind [eD])),bD,A3 (λe=>by grind [gC]),bD,f]at h;split at h
 case isFalse=>cases h
 rename_i c
 cases g:Bv n.toList (s.a-(n.size+1)) D with
 | none=>simp_all
 | some a=>
  rw[g]at h;simp only[mA]at h
  cases d:uT n.toList s.b a with
  | none=>simp_all
  | some b=>
   rw[d]at h;rw[yI]at c
   cases k:n.toList[s.a-(n.size+1)]? with
   | none=>grind
   | some o=>rw[k]at c;exact⟨o,a,b,by simp_all,c,rfl,d,h⟩
structure GV (n:Array Oper) (q:G Nat) (D:Nat) (f:List Nat) (D1:Nat):Prop where
 e:∀i∈f,∃o,n[i]?=some o/\tb D i=false/\(∀j,iN o j->tb D j=true)/\o.dst=none
 b:f.Nodup
 a:∀k,tb D1 k=(tb D k||decide (k∈f))
 d:∀k o,n[k]?=some o->tb D1 k=false->(∀g∈f,tb (gK q k) g=true)\/¬ ∀j,iN o j->tb D1 j=true
 c:∀k o,n[k]?=some o->tb D k=true->xY o.op=true\/nN o.op=true\/Sz o.op=true\/∀g∈f,tb (gK q g) k=true
theorem HV {o:Oper}:De D o=true ↔ ∀j,iN o j->tb D j=true:=by
 unfold De;rw[gI,C9];constructor
 .rintro h j ⟨e,a,b,rfl⟩
  grind [Pe]
 .intro h e a
  cases b:Ls e with
  | false=>rfl
  | true=>exact h e.on ⟨e,a,by grind [Pe],rfl⟩
def ir   : ∀ {f:List Nat} {E a:Nat},sj n.toList D f E=some a->(∀k,tb D k=true->tb E k=true) →
  (∀i∈f,∃o,n[i]?=some o/\tb E i=false/\(∀j,iN o j->tb D j=true)/\o.dst=none)/\f.Nodup/\∀k,tb a k=(tb E k||decide (k∈f)):=by
 intro f;induction f with
 | nil=>intro E a h _;cases h;simp_all
 | cons i f r=>
  intro E a h p;unfold sj at h;simp only[pA,qB,B2,F4,yI]at h;obtain⟨o,x,⟨⟨l,m⟩,c⟩,h⟩:=h;have u:∀k,tb (Nat.lor E (Fp i)) k=(tb E k||i == k):=λk=>by rw[Vo,Vp]
  obtain⟨s,g,t⟩:=r h (λk w=>by simp_all);have b:i∉f:=λv=>by
   grind
  refine⟨λj e=>?_,List.nodup_cons.2 ⟨b,g⟩,λk=>?_⟩
  .rcases C3.1 e with rfl | e
   .refine⟨o,by simp_all,l,HV.1 m,?_⟩
    cases q:o.dst with
    | none=>rfl
    | some d=>rw[q]at c;cases c
   grind
  grind
def zfu  {a:Nat}  : ∀(r:List Oper) (i:Nat),r=n.toList.drop i->Ww q a f r i=true →
  ∀k o,i<=k->n[k]?=some o->tb a k=false->(∀g∈f,tb (gK q k) g=true)\/¬ ∀j,iN o j->tb a j=true:=by
 intro r;induction r with
 | nil=>
  grind [List.drop_eq_nil_iff]
 | cons o r p=>
  intro i c h k s b m;obtain⟨d,e⟩:=Ar c;unfold Ww at h;rw[bD]at h;split at h
  case isFalse=>cases h
  rename_i l;rcases Nat.eq_or_lt_of_le b with rfl | b
  all_goals grind [gI,HV]
def XO     : ∀(r:List Oper) (i:Nat),r=n.toList.drop i->Wz q D f r i=true →
  ∀k o,i<=k->n[k]?=some o->tb D k=true->xY o.op=true\/nN o.op=true\/Sz o.op=true\/∀g∈f,tb (gK q g) k=true:=by
 intro r;induction r with
 | nil=>
  grind [List.drop_eq_nil_iff]
 | cons o r l=>
  intro i b h k m a j;obtain⟨c,d⟩:=Ar b;unfold Wz at h;rw[bD]at h;split at h
  case isFalse=>cases h
  rename_i e;rcases Nat.eq_or_lt_of_le a with rfl | a
  all_goals grind [gI]
def XM     (h:yL n.toList q (s::r) D=true)(t:n.size+n.size<s.a) :
  ∃c d,GV n q D s.c c/\uT n.toList s.b c=some d/\yL n.toList q r d=true:=by
 unfold yL at h;rw[bD,A5 (gC.2 (by grind [eD])),bD,A5 (gC.2 (by grind [eD]))]at h;split at h
 case h_2=>cases h
 rename_i d e;unfold zfy at e;simp only[pA,qB,B2]at e;obtain⟨c,j,⟨l,m⟩,p⟩:=e;obtain⟨f,g,i⟩:=ir j λ_ h=>h;exact⟨c,d,⟨f,g,i,λk o a b=>zfu _ 0 rfl l k o (H4 _) a b,λk o a b=>XO _ 0 rfl m k o (H4 _) a b⟩,p,h⟩
end
section
variable {i j:Nat}{v:O}{o:Oper}
section
variable {P:Program}{C:fA}{μ:Mu}{all:Array Oper}{olds:List (Nat × List Nat)}{A:G Nat}{n:Nat}{old tm:Tm}{D:Nat}{S:Nat->Bool}{a:List Nat}{tmps:Array Value}{ds:List Deferred}
def Vf:rA μ aD undef:=by rw[aD,rA];exact⟨#[],rfl,rfl⟩
def zic{e:mD}(b:∀g,g<256->μ g=some ⟨g,true,0,0,true⟩)(d:∀t v,Bk t e=some v->rA μ v (tmps.getD t undef)):jG μ e (Act.eval ⟨tmps,ds⟩):=by
 intro x v h
 cases x with
 | tmp t=>exact d t v h
 | const c=>exact XP h
 | global g=>
  change AG g e=some v at h;unfold AG at h;rw[bD]at h;split at h
  .rename_i a;cases h;rw[rA];exact⟨_,b g (gC.1 a),rfl⟩
  .cases h
 | func f=>
  change V1 f e=some v at h;cases h;rw[rA];exact⟨.func f,#[],#[],rfl,rfl,rfl,rfl⟩
def eF.l(a:∀g,g<256->μ g=some ⟨g,true,0,0,true⟩)(h:eF μ n tm tmps):jG μ (.b tm) (Act.eval ⟨tmps,ds⟩):=
 zic a λt v b=>h.2 t v b
theorem Tm.f{t:Tm} {x:O}:(t.c i x).a j=if j=i then some x else t.a j:=by
 unfold Tm.c Tm.a;simp only[eL];by_cases h:Nat.blt i t.k=true
 .grind [G.aa]
 .rw[A3 h]
  grind [V0,eL,bC]
theorem rK{dst:Option Nat} {t:Nat}:(A9 n tm dst v).a t=if dst=some t/\t<n then some v else tm.a t:=by
 unfold A9 Q8
 cases dst with
 | none=>simp[V5]
 | some d=>
  grind [Nk,Tm.f,gC]
def vV(tm old:Tm)(olds:List (Nat × List Nat))(i:Nat)(o:Oper):mD:=.c tm old (vG i olds) (aI o.op)
structure bG (μ:Mu) (all:Array Oper) (olds:List (Nat × List Nat)) (A:G Nat) (n:Nat) (old tm:Tm) (D:Nat) (S:Nat->Bool) (a:List Nat) (tmps:Array Value):Prop where
 r:Bd all olds A
 p:sk all S a
 z:∀i,S i=true->tb D i=true
 m:Da all S
 l:Da all (tb D)
 q:tmps.size=n
 aj:∀(i:Nat) (o:Oper) (d:Nat) (v:O),all[i]?=some o->o.dst=some d->S i=true->d<n->tm.a d=some v->rA μ v (tmps.getD d undef)
 s:∀(d:Nat) (v:O),d<n->(∀(i:Nat) (o:Oper),all[i]?=some o->o.dst=some d->S i=false)->old.a d=some v->rA μ v (tmps.getD d undef)
 aa:∀d:Nat,d<n->(∀(i:Nat) (o:Oper),all[i]?=some o->o.dst=some d->tb D i=false)->tm.a d=old.a d
 ah:∀(d:Nat) (v:O),n<=d->(tm.a d=some v\/old.a d=some v)->rA μ v undef
def Bd.f(R:Bd all olds A)(a:Da all S)  (c:all[i]?=some o)(d:∀j,iN o j->S j=true)(h:tb (gK A i) j=true):S j=true:=
 R.c i S a (λe b=>by simp_all) j h
def Og{d:Nat}(h:tmps.size<=d):tmps.getD d undef=undef:=by
 simp_all
def bG.ak(R:bG μ all olds A n old tm D S a tmps)(z:∀g,g<256->μ g=some ⟨g,true,0,0,true⟩)  (y:all[i]?=some o)(hi:S i=false)(C:∀j,iN o j->S j=true) :
  jG μ (vV tm old olds i o) (Act.eval ⟨tmps,ds⟩):=by
 refine zic z λt v h=>?_;unfold vV at h;simp only[Bk]at h;rw[bD]at h;split at h
 case isFalse=>cases h
 rename_i r;have r:=(Ee _ _).1 r;by_cases l:t<n
 .by_cases w:∃(j:Nat) (u:Oper),all[j]?=some u/\u.dst=some t
  .obtain⟨j,u,f,c⟩:=w;have e:=R.r.e i o j u t y f c r;by_cases b:t∈vG i olds
   .rw[A5 b]at e;rw[(Ee _ _).2 b]at h;simp only[cond_true]at h;have x:S j=false:=by
     rcases e with rfl | e
     .exact hi
     .cases x:S j with
      | false=>rfl
      | true=>
       have:=R.r.f R.m f (λk B=>R.m j u f x k B) e
       simp_all
    refine R.s t v l (λE F s q=>?_) h;have:=R.r.a E j F u t s f q c
    simp_all
   .rw[A3 b]at e;have:yJ t (vG i olds)=false:=by
     grind [Ee]
    rw[this]at h;simp only[cond_false]at h;exact R.aj j u t v f c (R.r.f R.m y C e) l h
  .have d:∀(i:Nat) (o:Oper),all[i]?=some o->o.dst=some t->S i=false:=λi o m p=>absurd ⟨i,o,m,p⟩ w;have k:=R.aa t l λi o m p=>absurd ⟨i,o,m,p⟩ w;refine R.s t v l d ?_
   grind
 .rw[Og (by rw[R.q];omega)];refine R.ah t v (by omega) ?_
  grind
def HJ {b:Bool}(h:rA μ v (.bool b)):v=.d b:=by
 cases v<;>rw[rA]at h
 all_goals simp_all
def bG.y(R:bG μ all olds A n old tm D S a tmps)  {w:Bool}(r:all[i]?=some o)(y:∀j,iN o j->S j=true)(h:dG o.guard all tm=some w) :
  Region.wanted o (yielded all tmps)=w:=by
 have f:=R.r.b i o r;unfold dG Qe at h;unfold Region.wanted
 cases q:o.guard with
 | none=>rw[q]at h;cases h;rfl
 | some B=>
  obtain⟨j,g⟩:=B;rw[q]at h f;simp only[Qc,pA,yI]at h;obtain⟨d,⟨u,E,m⟩,v,s,h⟩:=h;have l:all[j]?=some u:=by simp_all
  have t:S j=true:=R.r.f R.m r y f;have z:yielded all tmps j=match tmps[d]? with | some (.bool b)=>some b | _=>none:=by
   grind [yielded]
  simp only[];rw[z];by_cases p:d<n
  .have C:d<tmps.size:=by rw[R.q];exact p
   have c:=R.aj j u d v l m t p s;have k:tmps[d]?=some (tmps.getD d undef):=by simp_all
   rw[k];generalize tmps.getD d undef=x at c
   cases e:v.r with
   | some b=>
    rw[e]at h;have:v=.d b:=by cases v<;>simp[O.r]at e;rw[e]
    rw[this,rA]at c;subst c;simp only[Option.some.injEq]at h;rw[<- h,xZ];cases b<;>cases g<;>rfl
   | none=>
    rw[e]at h;cases h
    cases x with
    | bool b=>rw[HJ c]at e;cases e
    | _=>rfl
  .have k:tmps[d]?=none:=by simp[R.q];omega
   rw[k];have c:=R.ah d v (by omega) (.inl s)
   cases e:v.r with
   | some b=>
    have:v=.d b:=by cases v<;>simp[O.r]at e;rw[e]
    rw[this,rA]at c;cases c
   | none=>simp_all
def bG.au {D':Nat}{tm':Tm} {v':Value} (R:bG μ all olds A n old tm D S (i::a) tmps)(z:all[i]?=some o)
  (w:∀k,tb D' k=(tb D k||k == i)) (B:∀d,o.dst=some d->d<n->tm'.a d=some v) (c:∀d,(o.dst=some d->n<=d)->tm'.a d=tm.a d) (I:rA μ v v') :
  bG μ all olds A n old tm' D' (λk=>S k||k == i) a (Act.put ⟨tmps,ds⟩ o.dst v').tmps:=by
 obtain⟨J,m,H,C,E⟩:=R.p;rw[z]at m;cases m;have p:∀d,(Act.put ⟨tmps,ds⟩ o.dst v').tmps.getD d undef=if o.dst=some d/\d<n then v' else tmps.getD d undef:=by
  intro d;unfold Act.put
  cases g:o.dst with
  | none=>simp
  | some t=>
   simp only[my,mw];by_cases e:t=d
   .subst e;by_cases y:t<n
    .simp[y,R.q]
    .simp[y,R.q]
   grind
 have s:(Act.put ⟨tmps,ds⟩ o.dst v').tmps.size=n:=by
  unfold Act.put;cases o.dst<;>simp[R.q]
 refine⟨R.r,E,λk b=>?_,?_,?_,s,?_,?_,?_,?_⟩
 .rw[w];simp only[G7]at b ⊢;exact b.imp (R.z k) id
 .intro k u f b j r;simp only[G7,beq_iff_eq]at b ⊢;rcases b with b | rfl
  .exact .inl (R.m k u f b j r)
  simp_all
 .intro k u f b j r;rw[w]at b ⊢;simp only[G7,beq_iff_eq]at b ⊢;rcases b with b | rfl
  .exact .inl (R.l k u f b j r)
  .rw[z]at f;cases f;exact .inl (R.z j (C j r))
 .intro k u d x f l b g q;rw[p];by_cases e:o.dst=some d
  .simp_all
  .rw[A3 λh=>e h.1];rw[c d λh=>absurd h e]at q;refine R.aj k u d x f l ?_ g q
   grind
 .intro d x g F q;rw[p];have e:o.dst≠some d:=λe=>by
   grind
  rw[A3 λh=>e h.1];refine R.s d x g (λk u f l=>?_) q
  simp_all
 .intro d g F;have e:o.dst≠some d:=λe=>by
   grind
  rw[c d λh=>absurd h e];refine R.aa d g λk u f l=>?_
  simp_all
 .intro d x g q;refine R.ah d x g ?_
  simp_all
end
end
end Go.Am
namespace Go.Am.HM
open Go Go.Am
variable {b:Nat}{a:O}{ty:jD}
def aa (H H':sA):Prop:=∀b y,H.t.c b=some y->H'.t.c b=some y
section
variable {H HA:sA}{e:mD}{C:fA}{v:O}
theorem Cr(h:aa H HA) {p:G O × Nat × Option Lo}(a:fD H b=some p):fD HA b=some p:=by
 unfold fD at a ⊢;rw[pA]at a ⊢;obtain⟨y,c,d⟩:=a;exact⟨y,h _ _ c,d⟩
theorem Lr(h:aa H HA) {p:List (O × O)}(a:zN H b=some p):zN HA b=some p:=by
 unfold zN at a ⊢;rw[pA]at a ⊢;obtain⟨y,c,d⟩:=a;exact⟨y,h _ _ c,d⟩
theorem GF(h:aa H HA){s d:jD} (b:gV C s d a H=some v):gV C s d a HA=some v:=by
 unfold gV at b ⊢;split at b
 .omega
 .rename_i c;rw[qB]at b ⊢;refine⟨b.1,?_⟩;have b:=b.2;rw[bD]at b ⊢;split at b
  all_goals grind [pA,qB,Lm,Cr]
theorem BV(h:aa H HA)  {l r:Option O}(g:sP C H ty a l r=some v):sP C HA ty a l r=some v:=by
 have t:∀ {d e b j i f},aR C H d e b j i f l r=some v->aR C HA d e b j i f l r=some v:=by
  intro d e b j i f g;unfold aR at g ⊢;simp only[pA]at g ⊢;obtain⟨k,q,m,s,g⟩:=g;refine⟨k,q,m,s,?_⟩
  cases n:fD H b with
  | none=>
   have o:tP H b k.b f m.1 d=false:=by unfold tP;rw[n]
   have p:vQ H b k.b f m.1 d=false:=by unfold vQ;rw[n]
   rw[o,p,E5,E5]at g;cases g
  | some c=>
   grind [tP,Cr,vQ]
 grind [sP,pA]
theorem DM(h:aa H HA){m:O}{l:List (O × O)}(a:dZ H m=some l):dZ HA m=some l:=by
 grind [dZ,Lr]
theorem DW(h:aa H HA)  {n:Nat}(b:qY H ty a=some n):qY HA ty a=some n:=by
 unfold qY at b ⊢;split at b
 all_goals grind [qB,pA,Lr]
theorem f(h:aa H HA){o:Op}(g:(kG o).f C e H=some v):(kG o).f C e HA=some v:=by
 cases o<;>first | exact g | skip
 case makeFunc p a b=>cases p<;>exact g
 case load t a=>
  change Ab t a C e H=some v at g;show Ab t a C e HA=some v;unfold Ab at g ⊢;simp only[pA]at g ⊢
  grind [Cr]
 case convert s d x=>
  change nS s d x C e H=some v at g;show nS s d x C e HA=some v;unfold nS at g ⊢;simp only[pA]at g ⊢
  grind [GF]
 case slice t x l k q=>
  cases q with
  | some m=>exact g
  | none=>
   change Eh t x l k C e H=some v at g;show Eh t x l k C e HA=some v;unfold Eh at g ⊢;simp only[pA]at g ⊢
   grind [BV]
 case lookup t x i n=>
  change Aa t x i n C e H=some v at g;show Aa t x i n C e HA=some v;unfold Aa at g ⊢;simp only[pA,qB]at g ⊢
  grind [DM]
 case call c=>
  change (bW c c.callee).f C e H=some v at g;show(bW c c.callee).f C e HA=some v
  cases j:c.callee with
  | builtin b=>
   rw[j]at g;cases b<;>first | exact g | skip
   case len=>
    change kT c C e H=some v at g;show kT c C e HA=some v;unfold kT at g ⊢;simp only[pA]at g ⊢
    grind [DW]
  | _=>rw[j]at g;exact g
end
end Go.Am.HM
namespace Go.Am
open Go Go.RowKit
variable {o u:Oper}{e E:mD}{dp i k:Nat}{w:Bool}{v x:O}{ν:Mu}
theorem ZV{o:Op}(h:xY o=true)(C:fA)(e:mD)(H H':sA):(kG o).f C e H=(kG o).f C e H':=by
 cases o<;>first | (simp[xY]at h;done) | rfl | skip
 case makeFunc c a b=>cases c<;>rfl
theorem ZW (h:∀x,ev x e=ev x E)(o:Op)(C:fA)(H:sA):(kG o).f C e H=(kG o).f C E H:=by
 have n:∀l,lQ l e=lQ l E:=λl=>by unfold lQ;rw[funext h]
 have m:∀l,I1 l e=I1 l E:=λl=>by grind [I1]
 have k:∀x,I0 x e=I0 x E:=λx=>by cases x<;>simp[I0,h]
 cases o<;>first | rfl | skip
 case move x=>exact h x
 case assign x=>exact h x
 case pick c a b=>simp only[kG,Sr,h]
 case load t a=>simp only[kG,Ab,h]
 case nilCheck x=>simp only[kG,Ej,h]
 case binOp r t x y z=>simp only[kG,Ah,h]
 case unOp r t x=>simp only[kG,P2,h]
 case convert s d x=>simp only[kG,nS,h]
 case makeInterface t x=>simp only[kG,Hq,h]
 case makeFunc g a b=>cases g<;>simp only[kG,Hr,Ny,Ei,n]
 case slice t x w v p=>cases p<;>simp only[kG,Sq,Eh,Ei,h,k]
 case fieldAddr s x f=>simp only[kG,Af,h]
 case field t x f=>simp only[kG,Ht,h]
 case indexAddr t x i=>simp only[kG,Ad,h]
 case index t x i=>simp only[kG,Ae,h]
 case extract t i=>simp only[kG,Ag,h]
 case build t A=>simp only[kG,Cc,m]
 case typeAssert x a u q=>simp only[kG,Ai,h]
 case lookup t x i q=>simp only[kG,Aa,h]
 case call c=>
  have j:K7 c e=K7 c E:=by unfold K7;split<;>simp only[h]
  simp only[kG,ux]
  cases c.callee with
  | builtin b=>cases b<;>simp only[bW,Xp,Ei,kT,aZ,bZ,h,j]
  | _=>rfl
theorem QR (h:∀t,Bk t e=Bk t E)(x:Operand):ev x e=ev x E:=by
 cases x with
 | tmp t=>exact h t
 | _=>rfl
theorem LP{tm tm' old:Tm}{olds:List (Nat × List Nat)}  (h:∀t∈aI o.op,t∉vG i olds->tm'.a t=tm.a t)(C:fA)(H:sA) :
  (kG o.op).f C (vV tm' old olds i o) H=(kG o.op).f C (vV tm old olds i o) H:=by
 grind [ZW,QR,vV,Bk,Ee]
section
variable {P:Program}{C:fA}{μ:Mu}{H H':sA}{all:Array Oper}{olds:List (Nat × List Nat)}{A:G Nat}{n:Nat}{old tm tm':Tm}{D:Nat}{S:Nat->Bool}{B:List Nat}{tmps:Array Value}{ds:List Deferred}
structure gQ (C:fA) (H:sA) (all:Array Oper) (olds:List (Nat × List Nat)) (n:Nat) (old tm:Tm) (i:Nat) (o:Oper) (w:Bool) (v:O):Prop where
 f:all[i]?=some o
 a:dG o.guard all tm=some w
 b:if w=true then(kG o.op).f C (vV tm old olds i o) H=some v else v=aD
 c:∀d,o.dst=some d->d<n->tm.a d=some v
def gQ.p    (h:gQ C H all olds n old tm i o w v)(a:xY o.op=true)(H':sA):gQ C H' all olds n old tm i o w v:=
 ⟨h.f,h.a,by have:=h.b;grind [ZV],h.c⟩
def Rl(R:Bd all olds A)(h:Da all (tb D))  (a:all[i]?=some o)(hi:tb D i=true\/(i=k/\∀j,iN o j->tb D j=true))(l:all[k]?=some u)(v:tb D k=false) :
  (∀t∈aI o.op,t∉vG i olds->u.dst≠some t)/\(∀j w,o.guard=some (j,w)->∀g,all[j]?=some g->∀d,g.dst=some d->u.dst≠some d):=by
 have r:∀j,tb (gK A i) j=true->tb D j=true:=λj c=>R.f h a (by
  rcases hi with hi | ⟨_,hi⟩
  .exact λj c=>h i o a hi j c
  omega) c
 constructor
 .intro t p q e;have:=R.e i o k u t a l e p
  simp_all
 .intro j w n g b d m e;have f:=R.b i o a;rw[n]at f;have s:=r j f;have:=R.a j k g u d b l m e
  simp_all
theorem Qa (h:∀j w,o.guard=some (j,w)->∀g,all[j]?=some g->∀d,g.dst=some d->tm'.a d=tm.a d):dG o.guard all tm'=dG o.guard all tm:=by
 unfold dG Qe
 cases b:o.guard with
 | none=>rfl
 | some c=>
  obtain⟨j,w⟩:=c;simp only[Qc,yI]
  cases e:all.toList[j]? with
  | none=>rfl
  | some g=>
   simp only[mA]
   cases a:g.dst with
   | none=>rfl
   | some d=>simp only[mA];rw[h j w b g (by simp_all) d a]
def gQ.l(R:Bd all olds A)(c:Da all (tb D))    (h:gQ C H all olds n old tm i o w v)(hi:tb D i=true)(b:all[k]?=some u)(m:tb D k=false) :
  gQ C H all olds n old (A9 n tm u.dst x) i o w v:=by
 obtain⟨r,q⟩:=Rl R c h.f (.inl hi) b m;refine⟨h.f,?_,?_,?_⟩
 .rw[Qa (tm:=tm) λj w f g l d a=>by rw[rK,A3 λe=>q j w f g l d a e.1]];exact h.a
 .have:=h.b
  grind [LP,rK]
 .intro d a p;rw[rK,A3]
  .exact h.c d a p
  .rintro⟨e,_⟩;have:=R.a i k o u d h.f b a e
   simp_all
theorem gQ.q    (h:gQ C H all olds n old tm i o w v)(a:HM.aa H H'):gQ C H' all olds n old tm i o w v:=
 ⟨h.f,h.a,by have:=h.b;grind [HM.f],h.c⟩
structure Bf (C:fA) (μ:Mu) (dp:Nat) (all:Array Oper) (olds:List (Nat × List Nat)) (n:Nat) (old tm:Tm) (i:Nat) (o:Oper) (v:O):Prop where
 s:all[i]?=some o
 b:nN o.op=true
 a:dG o.guard all tm=some true
 m:∃H0 l,(kF o.op).f C (vV tm old olds i o) H0=.aa v (tG H0 l none)/\μ.n H0.a=some (.aa (G.ac l) (wB l) none,dp,i)
 q:∀d,o.dst=some d->d<n->tm.a d=some v
 y:Eg C o.op=none
structure Mu.t (dp:Nat) (μ ν:Mu):Prop where
 f:∀a i,μ a=some i->ν a=some i
 b:∀a x j,μ.n a=some (x,dp,j)->ν.n a=some (x,dp,j)
instance {dp:Nat} {μ ν:Mu}:CoeOut (μ.t dp ν) (μ.l ν):=⟨Mu.t.f⟩
def Mu.le.b{μ:Mu}(h:μ.le ν)(dp:Nat):μ.t dp ν:=⟨h.f,λa x j k=>by rw[h.c];exact k⟩
instance {dp:Nat} {μ ν:Mu}:Coe (μ.le ν) (μ.t dp ν):=⟨λh=>h.b dp⟩
def Mu.z(μ:Mu)(dp:Nat):μ.t dp μ:=⟨λ_ _ h=>h,λ_ _ _ h=>h⟩
def Mu.r {a b c:Mu}(h:a.t dp b)(k:b.t dp c):a.t dp c:=⟨λx i d=>k.f x i (h.f x i d),λx y j d=>k.b x y j (h.b x y j d)⟩
theorem Bf.c  (h:μ.t dp ν)   (p:Bf C μ dp all olds n old tm i o v):Bf C ν dp all olds n old tm i o v:=by
 obtain⟨a,l,b,c⟩:=p.m;exact⟨p.s,p.b,p.a,⟨a,l,b,h.b _ _ _ c⟩,p.q,p.y⟩
theorem PS{tm tm' old:Tm}  (a:nN o.op=true)(h:∀t∈aI o.op,t∉vG i olds->tm'.a t=tm.a t)(C:fA)(H:sA) :
  (kF o.op).f C (vV tm' old olds i o) H=(kF o.op).f C (vV tm old olds i o) H:=by
 grind [YD,QR,vV,Bk,Ee]
def Bf.f (R:Bd all olds A)(q:Da all (tb D))   (h:Bf C μ dp all olds n old tm i o v)(hi:tb D i=true)(c:all[k]?=some u)(y:tb D k=false) :
  Bf C μ dp all olds n old (A9 n tm u.dst x) i o v:=by
 obtain⟨E,F⟩:=Rl R q h.s (.inl hi) c y;obtain⟨f,l,m,p⟩:=h.m;refine⟨h.s,h.b,?_,⟨f,l,?_,p⟩,?_,h.y⟩
 .rw[Qa (tm:=tm) λj w r g s d a=>by rw[rK,A3 λe=>F j w r g s d a e.1]];exact h.a
 .rw[PS (tm:=tm) h.b λt B b=>by rw[rK,A3 λe=>E t B b e.1]];exact m
 .intro d a z;rw[rK,A3]
  .exact h.q d a z
  .rintro⟨e,_⟩;have:=R.a i k o u d h.s c a e
   simp_all
def Bf.r (R:Bd all olds A)(e:Da all (tb D))   (c:all[i]?=some o)(g:∀j,iN o j->tb D j=true)(hi:tb D i=false)
  (f:nN o.op=true) (b:Eg C o.op=none) (m:dG o.guard all tm=some true) (h:∃a l,(kF o.op).f C (vV tm old olds i o) a=.aa v (tG a l none)/\μ.n a.a=some (.aa (G.ac l) (wB l) none,dp,i)) :
  Bf C μ dp all olds n old (A9 n tm o.dst v) i o v:=by
 obtain⟨p,q⟩:=Rl R e c (.inr ⟨rfl,g⟩) c hi;obtain⟨a,l,k,d⟩:=h;refine⟨c,f,?_,⟨a,l,?_,d⟩,?_,b⟩
 all_goals grind [Qa,rK,PS]
def gQ.r(R:Bd all olds A)(b:Da all (tb D))    (a:all[i]?=some o)(c:∀j,iN o j->tb D j=true)(hi:tb D i=false)
  (e:dG o.guard all tm=some w) (d:if w=true then(kG o.op).f C (vV tm old olds i o) H=some v else v=aD) :
  gQ C H all olds n old (A9 n tm o.dst v) i o w v:=by
 obtain⟨f,g⟩:=Rl R b a (.inr ⟨rfl,c⟩) a hi;refine⟨a,?_,?_,?_⟩
 all_goals grind [Qa,rK,LP]
def bG.am   {D':Nat}(R:bG μ all olds A n old tm D S B tmps)(p:all[i]?=some o)(hi:tb D i=false)(q:∀j,iN o j->tb D j=true)(h:∀k,tb D' k=(tb D k||k == i)) :
  bG μ all olds A n old (A9 n tm o.dst v) D' S B tmps:=by
 refine⟨R.r,R.p,λk a=>by rw[h,R.z k a];rfl,R.m,?_,R.q,?_,R.s,?_,?_⟩
 .intro k u f a j l;rw[h]at a ⊢;simp only[G7,beq_iff_eq]at a ⊢;rcases a with a | rfl
  .exact .inl (R.l k u f a j l)
  simp_all
 .intro k u d x f b a c g;rw[rK,A3]at g
  .exact R.aj k u d x f b a c g
  .rintro⟨e,_⟩;have:=R.r.a k i u o d f p b e;have m:=R.z k a
   simp_all
 .intro d c r;rw[rK,A3]
  .refine R.aa d c λk u f b=>?_
   simp_all
  grind
 .intro d x c g;refine R.ah d x c ?_
  grind [rK]
theorem bG.ac (g:μ.l ν)(R:bG μ all olds A n old tm D S B tmps):bG ν all olds A n old tm D S B tmps:=
 ⟨R.r,R.p,R.z,R.m,R.l,R.q,λi o d v a b c e f=>(R.aj i o d v a b c e f).d g _ _,λd v a b c=>(R.s d v a b c).d g _ _,R.aa,λd v a b=>(R.ah d v a b).d g _ _⟩
end
end Go.Am
namespace Go.Am
open Go Go.RowKit
section
section steps
variable {P:Program}{d b:Frame}{a:Act}{k:List Item}{cs:List Frame}{w w':World}{s:Sem Next}{c:Array Oper}
theorem ZP{v:Value}(a:s.run P w=.ok (.value v) w') :
  (stepG.apply P true d cs none s w).bare=.go { frame:=d.finish v,callers:=cs,status:=.running,dying:=none } w':=by
 simp_all [stepG.apply]
theorem zca(a:s.run P w=.ok .skip w') :
  (stepG.apply P true d cs none s w).bare=.go { frame:=d.finish undef,callers:=cs,status:=.running,dying:=none } w':=by
 simp_all [stepG.apply]
theorem BO{i:Nat}{rest:List Nat}{o:Oper}{v:Value}(d:c[i]?=some o)(f:Region.wanted o (yielded c a.tmps)=true)
  (e:(o.semAt b.roundOf a.eval).run P w=.ok (.value v) w') :
  step P (lone (b.atR a (.inRegion c (i::rest)::k)) cs w)=.next (lone (b.atR (a.put o.dst v) (.inRegion c rest::k)) cs w'):=by
 have:=Frame.finish_atR b a c i rest k v
 grind [step_lone_go,stepGR_op,ZP]
theorem VQ{i:Nat}{rest:List Nat}{o:Oper}(d:c[i]?=some o)(f:Region.wanted o (yielded c a.tmps)=true)
  (e:(o.semAt b.roundOf a.eval).run P w=.ok .skip w') :
  step P (lone (b.atR a (.inRegion c (i::rest)::k)) cs w)=.next (lone (b.atR (a.put o.dst undef) (.inRegion c rest::k)) cs w'):=by
 have:=Frame.finish_atR b a c i rest k undef
 grind [step_lone_go,stepGR_op,zca]
theorem BP{i:Nat}{rest:List Nat}{o:Oper}(d:c[i]?=some o)(e:Region.wanted o (yielded c a.tmps)=false) :
  step P (lone (b.atR a (.inRegion c (i::rest)::k)) cs w)=.next (lone (b.atR (a.put o.dst undef) (.inRegion c rest::k)) cs w):=by
 grind [stepR_op_skip]
end steps
mutual
theorem CE:∀(d:Nat) (a b:O),A8 d a b=true->a=b
 | d,a,b,h=>by
  cases a<;>cases b<;>cases d<;>simp[A8,xZ,sO,Ep,bJ,Nat.beq_eq]at h ⊢
  all_goals first
   | exact h
   | (obtain⟨c,e⟩:=h;exact⟨c,e⟩)
   | exact CD _ _ _ h
   | omega
theorem CD:∀(d:Nat) (a b:List O),A8.sames d a b=true->a=b
 | d,[],[],_=>rfl
 | d,a::x,b::y,h=>by
  simp only[A8.sames,B2]at h;rw[CE d a b h.1,CD d x y h.2]
 | d,[],b::y,h=>by simp[A8.sames]at h
 | d,a::x,[],h=>by simp[A8.sames]at h
end
section
variable {P:Program}{C:fA}{B N:Nat}{μ:Mu}{H H':sA}{w:World}{all:Array Oper}{olds:List (Nat × List Nat)}{k:G Nat}{n:Nat}{old tm tm':Tm}{D D':Nat}{S:Nat->Bool}{g:List Nat}{tmps:Array Value}{ds:List Deferred}{dp:Nat}
def dI(C:fA)(μ:Mu)(dp:Nat)(H:sA)(all:Array Oper)(olds:List (Nat × List Nat))(n:Nat)(old tm:Tm)(D:Nat)(S:Nat->Bool):Prop:=
 ∀i,tb D i=true->S i=false->(∃o w v,gQ C H all olds n old tm i o w v)\/∃o v,Bf C μ dp all olds n old tm i o v
def Xn:∀(l:List Nat) (tm:Tm) (D:Nat),pV C H all n old olds l tm=some tm'->uT all.toList l D=some D'->bG μ all olds k n old tm D S g tmps->dI C μ dp H all olds n old tm D S →
  bG μ all olds k n old tm' D' S g tmps/\dI C μ dp H all olds n old tm' D' S:=by
 intro l;induction l with
 | nil=>intro tm D h b R w;cases h;cases b;simp_all
 | cons i l A=>
  intro tm D h b R w;unfold pV at h;unfold uT at b;rw[pA]at b;obtain⟨E,x,b⟩:=b;simp only[pA,yI]at h;obtain⟨o,F,s,z,v,y,h⟩:=h;obtain⟨I,e,m,t,d⟩:=Ry x;have a:all[i]?=some o:=by simp_all
  rw[a]at e;cases e;have f:if s=true then(kG o.op).f C (vV tm old olds i o) H=some v else v=aD:=by
   cases s with
   | true=>rw[A5 rfl];exact y
   | false=>simp_all
  refine A _ _ h b (R.am a m t d) λj c p=>?_;rw[d]at c;simp only[G7,beq_iff_eq]at c;rcases c with c | rfl
  .rcases w j c p with⟨u,B,r,q⟩ | ⟨u,r,q⟩
   .exact .inl ⟨u,B,r,q.l R.r R.l c a m⟩
   .exact .inr ⟨u,r,q.f R.r R.l c a m⟩
  .exact .inl ⟨o,s,v,gQ.r R.r R.l a t m z f⟩
structure M5 (all:Array Oper) (n:Nat) (tm:Tm) (i:Nat) (o:Oper) (w:Bool) (v:O):Prop where
 b:all[i]?=some o
 a:dG o.guard all tm=some w
 c:w=false->v=aD
 f:∀d,o.dst=some d->d<n->tm.a d=some v
def zj0:∀(l:List Nat),Io C H all old olds tm l=true->∀i∈l,∀o w v,M5 all n tm i o w v->∃v,gQ C H all olds n old tm i o w v:=by
 intro l;induction l with
 | nil=>simp_all
 | cons j l z=>
  intro h i g o w v W;unfold Io at h;split at h
  case h_2=>cases h
  rename_i c;rcases C3.1 g with rfl | g
  .simp only[pA,yI]at c;obtain⟨s,p,d,m,A,k,c⟩:=c;have b:all[i]?=some s:=by simp_all
   rw[W.b]at b;cases b;rw[W.a]at k;cases k
   cases w with
   | false=>exact⟨v,W.b,W.a,by rw[A3 (by simp)];exact W.c rfl,W.f⟩
   | true=>
    simp only[cond_true,pA]at c;obtain⟨t,f,u,r,q⟩:=c;have e:=CE _ _ _ (D6 q);refine⟨t,W.b,W.a,by rw[A5 rfl];exact f,λx a y=>?_⟩;rw[m]at a;cases a;rw[r,e]
  grind
end
end
section
section
variable {P:Program}{C:fA}{B N:Nat}{μ:Mu}{H H':sA}{w:World}{all:Array Oper}{olds:List (Nat × List Nat)}{q:G Nat}{n:Nat}{old tm tm':Tm}{D D':Nat}{S:Nat->Bool}{p:List Nat}{tmps:Array Value}{ds:List Deferred}{dp:Nat}
variable {b:Frame}{k:List Item}{cs:List Frame}
structure Cz (B N dp:Nat) (μ:Mu) (H:sA) (w:World) (μ':Mu) (w':World):Prop where
 b:mB B N μ' H w'
 g:μ.l μ'
 j:∀d,d≠dp->μ.t d μ'
 below:Below N w w'
theorem Cz.c(a:mB B N μ H w):Cz B N dp μ H w μ w:=⟨a,λ_ _ h=>h,λd _=>μ.z d,Below.refl _ _⟩
def Cz.f{b c:Mu}{g j:World}(h:Cz B N dp μ H w b g)(k:Cz B N dp b H g c j):Cz B N dp μ H w c j:=
 ⟨k.b,λa i e=>k.g a i (h.g a i e),λd f=>Mu.r (h.j d f) (k.j d f),h.below.trans k.below⟩
def LC(hT:nG P C)(A:mB B N μ H w){i:Nat}(R:bG μ all olds q n old tm D S (i::p) tmps)(hp:dI C μ dp H all olds n old tm D S)(hi:tb D i=true) :
  ∃X s I w',step P (lone (b.atR ⟨tmps,ds⟩ (.inRegion all (i::p)::k)) cs w)=.next (lone (b.atR ⟨s,ds⟩ (.inRegion all p::k)) cs w')/\Cz B N dp μ H w I w' ∧
   bG I all olds q n old tm D X p s/\dI C I dp H all olds n old tm D X/\∀k,S k=true->X k=true:=by
 obtain⟨o,y,hS,T,_⟩:=R.p;have L:∀k,tb D k=(tb D k||k == i):=by
  simp_all
 have K:∀t,Act.put ⟨tmps,ds⟩ o.dst t=⟨(Act.put ⟨tmps,ds⟩ o.dst t).tmps,ds⟩:=by intro t;unfold Act.put;cases o.dst<;>rfl
 rcases hp i hi hS with⟨o',wn,v,g⟩ | ⟨o',v,g⟩
 .have:=g.f;rw[y]at this;cases this;have hw:=R.y y T g.a;have E:∀t,rA μ v t->bG μ all olds q n old tm D (λk=>S k||k == i) p (Act.put ⟨tmps,ds⟩ o.dst t).tmps/\dI C μ dp H all olds n old tm D (λk=>S k||k == i):=by
   intro t r;refine⟨R.au y L g.c (λ_ _=>rfl) r,λj U F=>hp j U ?_⟩
   grind
  cases wn with
  | false=>
   have r:=g.b;rw[A3 (by simp)]at r;subst r;obtain⟨r1,r2⟩:=E undef Vf;refine⟨_,_,μ,w,?_,.c A,r1,r2,λk hk=>by grind⟩
   grind [BP]
  | true=>
   have r:=g.b;rw[A5 rfl]at r;obtain⟨t,Z,Q⟩:=zjz hT A (R.ak (ds:=ds) A.ac y hS T) r;obtain⟨r1,r2⟩:=E t Q;refine⟨_,_,μ,w,?_,.c A,r1,r2,λk hk=>by grind⟩;rw[<- K];refine BO (a:=⟨tmps,ds⟩) y hw ?_;rw[Oper.semAt_eq]
   .exact Z
   .intro c e;rw[e]at r;cases r
 .have:=g.s;rw[y]at this;cases this;have hw:=R.y y T g.a;obtain⟨f,l,Z,Q⟩:=g.m;obtain⟨W,vs,t,elem,e1,a8,hl,r⟩:=znn (P:=P) (w:=w) hT (R.ak (ds:=ds) A.ac y hS T) o g.b g.y Z;have e2:tG f l none=tG f W none:=e1;have p1:=(A.ax _ _ _ Q).1;have lg:∀c,(μ.q f.a ⟨w.heap.size,true,0,0,false⟩) c=if c=f.a then some ⟨w.heap.size,true,0,0,false⟩else μ c:=λ_=>rfl;have z:μ.l (μ.q f.a ⟨w.heap.size,true,0,0,false⟩):=λc j U=>by
   grind
  have a6:∀c x d j,(d≠dp\/j≠i)->μ.n c=some (x,d,j)->(μ.q f.a ⟨w.heap.size,true,0,0,false⟩).n c=some (x,d,j):=by
   intro c x d j aa hc;show(if c=f.a then none else μ.n c)=_
   all_goals grind
  have M:(vA.aa (G.ac l) (wB l) none)=.aa (G.ac W) (wB W) none:=by
   have h3:(tG f l none).t.c f.a=(tG f W none).t.c f.a:=by rw[e2]
   have hg:∀m,(tG f m none).t.c f.a=some (.aa (G.ac m) (wB m) none):=λm=>by
    show(f.t.d f.a _).c f.a=_;rw[G.aa,A5 rfl]
   grind
  have a1:mB B N (μ.q f.a ⟨w.heap.size,true,0,0,false⟩) H (w.alloc (.cells vs elem)):=by
   refine A.b8 Q rfl rfl ?_;rw[M];have:=(jB.q z _ _ hl).y (i:=⟨w.heap.size,true,0,0,false⟩) rfl (elem:=elem)
   rwa [Array.toArray_toList]at this
  have a7:=r (μ.q f.a ⟨w.heap.size,true,0,0,false⟩) ⟨w.heap.size,true,0,0,false⟩ (by rw[lg,A5 rfl]) rfl rfl;refine⟨λk=>S k||k == i,(Act.put ⟨tmps,ds⟩ o.dst t).tmps,μ.q f.a ⟨w.heap.size,true,0,0,false⟩,w.alloc (.cells vs elem),?_,⟨a1,z,λd hd=>⟨z,λc x j hc=>a6 c x d j (.inl hd) hc⟩,aV A.aa _⟩,
   (R.ac z).au y L g.q (λ_ _=>rfl) a7,λj U F=>?_,λk hk=>by grind⟩
  .rw[<- K];refine BO (a:=⟨tmps,ds⟩) y hw ?_;rw[Oper.semAt_eq]
   .exact a8
   .intro c e;have:=g.b;rw[e]at this;cases this
  .simp only[Z4,beq_eq_false_iff_ne]at F;rcases hp j U F.1 with h | ⟨u,vu,J⟩
   .grind
   .refine .inr ⟨u,vu,J.s,J.b,J.a,?_,J.q,J.y⟩;obtain⟨H1,m,g1,g2⟩:=J.m
    grind
def LD(f:nG P C)(e:mB B N μ H w){i:Nat}(R:bG μ all olds q n old tm D S (i::p) tmps)(g:dI C μ dp H all olds n old tm D S)(hi:tb D i=true) :
  ∃d a c w',step P (lone (b.atR ⟨tmps,ds⟩ (.inRegion all (i::p)::k)) cs w)=.next (lone (b.atR ⟨a,ds⟩ (.inRegion all p::k)) cs w')/\Cz B N dp μ H w c w' ∧
   bG c all olds q n old tm D d p a/\dI C c dp H all olds n old tm D d:=by
 obtain⟨d,a,c,w',h,j,l,m,_⟩:=LC (b:=b) (k:=k) (cs:=cs) (ds:=ds) f e R g hi
 grind
def pi(F:nG P C){f:eH}{r:List eH}(s:yL all.toList q (f::r) D=true)(h:f.a<=all.size):∀(p:List Nat) (S:Nat->Bool) (tmps:Array Value) (μ:Mu) (w:World),mB B N μ H w →
  bG μ all olds q n old tm D S p tmps->dI C μ dp H all olds n old tm D S →
  ∃g a c e w',Steps P (lone (b.atR ⟨tmps,ds⟩ (.inRegion all p::k)) cs w) (lone (b.atR ⟨c,ds⟩ (.inRegion all (f.a::a)::k)) cs w')/\Cz B N dp μ H w e w' ∧
   bG e all olds q n old tm D g (f.a::a) c/\dI C e dp H all olds n old tm D g:=by
 obtain⟨only,_,D1,D2,E,_⟩:=Wv s h;obtain⟨oh,l,hh,J,_⟩:=Ry E
 intro p;induction p with
 | nil=>
  intro S tmps μ w _ R m;have:=R.z _ (R.p f.a (G3.1 l).1)
  simp_all
 | cons i p M=>
  intro S tmps μ w x R m
  cases y:tb D i with
  | true=>
   obtain⟨g,c,t,Z,W,v,T,Q⟩:=LD (b:=b) (k:=k) (cs:=cs) (ds:=ds) F x R m y;obtain⟨z,a,d,u,w2,X,A,U⟩:=M g c t Z v.b T Q;exact⟨z,a,d,u,w2,.head W X,v.f A,U⟩
  | false=>
   obtain⟨o,L,hS,I,_⟩:=R.p;have:=only i o L y λj K=>R.z j (I j K);subst this;exact⟨S,p,tmps,μ,w,.refl _ _,.c x,R,m⟩
def iu(K:nG P C)(m:yL all.toList q [] D=true):∀(p:List Nat) (S:Nat->Bool) (tmps:Array Value) (μ:Mu) (w:World),mB B N μ H w →
  bG μ all olds q n old tm D S p tmps->dI C μ dp H all olds n old tm D S →
  ∃a e w',Steps P (lone (b.atR ⟨tmps,ds⟩ (.inRegion all p::k)) cs w) (lone (b.atR ⟨a,ds⟩ k) cs w')/\Cz B N dp μ H w e w'/\eF e n tm a:=by
 have d:=XL m
 intro p;induction p with
 | nil=>
  intro S tmps μ w h R A;refine⟨tmps,μ,w,.one stepR_region_end,.c h,R.q,λt v F=>?_⟩;by_cases l:t<n
  .by_cases s:∃(j:Nat) (u:Oper),all[j]?=some u/\u.dst=some t
   .obtain⟨j,u,E,r⟩:=s;exact R.aj j u t v E r (R.p j (G3.1 E).1) l F
   .have k:=R.aa t l λi o f g=>absurd ⟨i,o,f,g⟩ s;exact R.s t v l (λi o f g=>absurd ⟨i,o,f,g⟩ s) (by simp_all)
  .rw[Og (by rw[R.q];omega)];exact R.ah t v (by omega) (.inl F)
 | cons i p M=>
  intro S tmps μ w h R A;obtain⟨o,L,_⟩:=R.p;obtain⟨I,a,x,Z,W,z,T,Q⟩:=LD (b:=b) (k:=k) (cs:=cs) (ds:=ds) K h R A (d i (G3.1 L).1);obtain⟨c,y,w2,X,J,U⟩:=M I a x Z z.b T Q;exact⟨c,y,w2,.head W X,z.f J,U⟩
def zls(f:P.follows .mixedOrders=true){q:G Nat}(b:Bd all olds q)(a:eF μ n old tmps)(t:Nat) :
  bG μ all olds q n old old 0 (λ_=>false) (Region.schedule (P.follows .mixedOrders) all t) tmps/\dI C μ dp H all olds n old old 0 (λ_=>false):=by
 refine⟨⟨b,?_,λi h=>(by cases h),λi o _ h=>(by cases h),λi o _ h=>(by grind [Vn]),a.1,λi o d v _ _ h=>(by cases h),λd v _ _ h=>a.2 d v h,λ_ _ _=>rfl,λd v g h=>?_⟩,λi h=>(by grind [Vn])⟩
 .rw[f];unfold Region.schedule;simp only[Bool.true_or,if_true];have:=zlj b.g all.size t (Array.replicate all.size false) (by simp) (by
   grind [List.countP_le_length])
  have e:(λi=>(Array.replicate all.size false).getD i false)=λ_=>false:=by
   funext i;simp only[my,Array.getElem?_replicate];split<;>rfl
  rw[e]at this;exact this
 .have c:old.a d=some v:=h.elim id id;have:=a.2 d v c;rw[Og (by rw[a.1];exact g)]at this;exact this
def Cx(C:fA)(μ:Mu)(dp:Nat)(all:Array Oper)(olds:List (Nat × List Nat))(n:Nat)(old tm:Tm)(D:Nat)(S:Nat->Bool)(a:List Nat):Prop:=
 ∀i,tb D i=true->S i=false->(∃o w v,(∀H,gQ C H all olds n old tm i o w v)\/(i∈a/\M5 all n tm i o w v))\/∃o v,Bf C μ dp all olds n old tm i o v
def gQ.m{i:Nat}{o:Oper}{w:Bool}{v:O}(h:gQ C H all olds n old tm i o w v)(e:nN o.op=true)(H':sA):gQ C H' all olds n old tm i o w v:=by
 refine⟨h.f,h.a,?_,h.c⟩;have:=h.b
 cases w with
 | false=>exact this
 | true=>
  rw[A5 rfl]at this;exfalso;obtain⟨d,f,c,g,a,b⟩:=o;cases f<;>first | (simp[nN]at e;done) | cases this
def zcj{a:List Nat}(g:Cx C μ dp all olds n old tm D S a)(e:Io C H all old olds tm a=true):dI C μ dp H all olds n old tm D S:=by
 intro i f d;rcases g i f d with⟨o,w,v,h | ⟨b,c⟩⟩ | h
 .exact .inl ⟨o,w,v,h H⟩
 .obtain⟨v,h⟩:=zj0 (C:=C) (H:=H) (olds:=olds) (old:=old) a e i b o w v c
  grind
 simp_all
end
end
section
variable {o:Oper}{v:O}{s:List Nat}{ν:Mu}
section
variable {P:Program}{C:fA}{B N:Nat}{μ:Mu}{H H':sA}{w:World}{all:Array Oper}{olds:List (Nat × List Nat)}{t:G Nat}{n:Nat}{old tm tm':Tm}{D D':Nat}{S:Nat->Bool}{m:List Nat}{tmps:Array Value}{ds:List Deferred}{dp:Nat}
def M5.l(R:Bd all olds t)(c:Da all (tb D)){i k:Nat}{u:Oper}{w:Bool}{x:O}(h:M5 all n tm i o w v)(hi:tb D i=true)(b:all[k]?=some u)(m:tb D k=false) :
  M5 all n (A9 n tm u.dst x) i o w v:=by
 obtain⟨_,q⟩:=Rl R c h.b (.inl hi) b m;refine⟨h.b,?_,h.c,?_⟩
 .rw[Qa (tm:=tm) λj w f g l d a=>by rw[rK,A3 λe=>q j w f g l d a e.1]];exact h.a
 .intro d a p;rw[rK,A3]
  .exact h.f d a p
  .rintro⟨e,_⟩;have:=R.a i k o u d h.b b a e
   simp_all
def iw{c:eH}{r:List eH}(g:yL all.toList t (c::r) D=true)(f:c.a<=all.size)(R:bG μ all olds t n old tm D S (c.a::m) tmps)(p:dI C μ dp H all olds n old tm D S) :
  Cx C μ dp all olds n old tm D S c.c:=by
 obtain⟨_,j,_⟩:=Wv g f;intro i b d;rcases p i b d with⟨u,s,q,a⟩ | h
 rotate_left
 .grind
 refine .inl ⟨u,s,q,?_⟩;rcases j i u a.f b with h | h | h | h
 .obtain⟨o,l,_,k,_⟩:=R.p;have:=R.r.f R.m l k h
  simp_all
 .exact .inl λH=>a.p h H
 .exact .inl λH=>a.m h H
 .exact .inr ⟨h,a.f,a.a,λe=>by have:=a.b;simp_all,a.c⟩
def zke{h:Nat} {l:Nat}  {v':Value}(w:Bv all.toList h D=some l)(g:all[h]?=some o)
  (R:bG μ all olds t n old tm D S (h::m) tmps) (y:Cx C μ dp all olds n old tm D S s) (z:rA μ v v') :
  bG μ all olds t n old (A9 n tm o.dst v) l (λk=>S k||k == h) m (Act.put ⟨tmps,ds⟩ o.dst v').tmps/\Cx C μ dp all olds n old (A9 n tm o.dst v) l (λk=>S k||k == h) s:=by
 obtain⟨E,j,q,B,f⟩:=Ry w;rw[g]at j;cases j;refine⟨R.au g f (λd p x=>by rw[rK,A5 ⟨p,x⟩]) (λd p=>by rw[rK,A3 λe=>absurd (p e.1) (by omega)]) z,λi a c=>?_⟩;simp only[Z4,beq_eq_false_iff_ne]at c;rw[f]at a;simp only[G7,beq_iff_eq]at a;have a:=a.resolve_right c.2;rcases y i a c.1 with⟨u,A,r,b⟩ | ⟨u,r,b⟩
 .exact .inl ⟨u,A,r,b.imp (λb H=>(b H).l R.r R.l a g q) (λb=>⟨b.1,b.2.l R.r R.l a g q⟩)⟩
 .exact .inr ⟨u,r,b.f R.r R.l a g q⟩
inductive aP (C:fA) (μ:Mu) (dp:Nat) (n:Nat):Option sA->List aE->Tm->List Item->Array Value->Prop
 | aa {cur:Option sA} {todo:List aE} {tm:Tm} {btodo:List Item} {tmps:Array Value}:tD (cH μ) todo btodo->eF μ n tm tmps->aP C μ dp n cur todo tm btodo tmps
 | ah {H:sA} {all:Array Oper} {old tm:Tm} {olds:List (Nat × List Nat)} {stages:List eH} {k:List aE} {m:List Nat} {k':List Item} {tmps:Array Value} {t:G Nat} {D:Nat} {S:Nat->Bool} :
   bG μ all olds t n old tm D S m tmps->yL all.toList t stages D=true->dI C μ dp H all olds n old tm D S->tD (cH μ) k k' →
   aP C μ dp n (some H) (.d all old olds stages::k) tm (.inRegion all m::k') tmps
 | aj {cur:Option sA} {all:Array Oper} {old tm:Tm} {olds:List (Nat × List Nat)} {lights s:List Nat} {stages:List eH} {k:List aE} {m:List Nat} {k':List Item} {tmps:Array Value} {t:G Nat} {D D2:Nat} {S:Nat->Bool} :
   bG μ all olds t n old tm D S m tmps->uT all.toList lights D=some D2->yL all.toList t stages D2=true->Cx C μ dp all olds n old tm D S s->tD (cH μ) k k' →
   aP C μ dp n cur (.d all old olds (⟨all.size,lights,s⟩::stages)::k) tm (.inRegion all m::k') tmps
 | ac {all:Array Oper} {old tm:Tm} {olds:List (Nat × List Nat)} {st:eH} {stages:List eH} {k:List aE} {m:List Nat} {k':List Item} {tmps:Array Value} {t:G Nat} {D:Nat} {S:Nat->Bool} :
   bG μ all olds t n old tm D S (st.a::m) tmps->yL all.toList t (st::stages) D=true->st.a<=all.size->Cx C μ dp all olds n old tm D S st.c->tD (cH μ) k k' →
   aP C μ dp n none (.d all old olds (st::stages)::k) tm (.inRegion all (st.a::m)::k') tmps
theorem dI.b (h:μ.t dp ν)(p:dI C μ dp H all olds n old tm D S):dI C ν dp H all olds n old tm D S:=
 λi a b=>(p i a b).imp id fun⟨o,v,q⟩=>⟨o,v,q.c h⟩
theorem Cx.a  (h:μ.t dp ν)(p:Cx C μ dp all olds n old tm D S s):Cx C ν dp all olds n old tm D S s:=
 λi a b=>(p i a b).imp id fun⟨o,v,q⟩=>⟨o,v,q.c h⟩
theorem aP.f (h:μ.t dp ν){cur:Option sA}{g:List aE}{f:List Item}(R:aP C μ dp n cur g tm f tmps):aP C ν dp n cur g tm f tmps:=by
 have i:∀ {k:List aE} {j:List Item},tD (cH μ) k j->tD (cH ν) k j:=λk=>tD.e (λ_ _ r=>cH.d h r) k
 cases R with
 | aa a b=>exact .aa (i a) (b.c h)
 | ah a b c d=>exact .ah (a.ac h) b (c.b h) (i d)
 | aj a b c d e=>exact .aj (a.ac h) b c (d.a h) (i e)
 | ac a b l c d=>exact .ac (a.ac h) b l (c.a h) (i d)
end
end
section
variable {v:O}{v':Value}{cur:Option sA}{g:pC}{b:Frame}{l:List pC}{m:List Frame}
section
variable {P:Program}{C:fA}{B N:Nat}{μ ν:Mu}{H H':sA}{w:World}{n:Nat}{tm:Tm}{tmps:Array Value}{ds:List Deferred}{dp:Nat}
def eF.f  {dst:Option Nat}(h:eF μ n tm tmps)(c:rA μ v v'):eF μ n (A9 n tm dst v) (Act.put ⟨tmps,ds⟩ dst v').tmps:=by
 cases dst with
 | none=>exact h
 | some d=>
  refine⟨by simp[Act.put,h.1],λt x a=>?_⟩;rw[rK]at a;simp only[Act.put,my,mw];by_cases e:d=t
  .subst e;by_cases b:d<n
   .rw[A5 ⟨rfl,b⟩]at a;cases a;simp[h.1,b,c]
   .rw[A3 λk=>b k.2]at a;have:=h.2 d x a;rw[Og (by rw[h.1];omega)]at this;simp[h.1,b,this]
  .rw[A3 λk=>e (D6 k.1)]at a;have:=h.2 t x a
   simp_all
structure rL (C:fA) (μ:Mu) (dp:Nat) (cur:Option sA) (g:pC) (b:Frame):Prop where
 a:pI μ g.R b
 c:if g.R.a.a=true then aP C μ dp g.R.n cur g.a g.b b.todo b.tmps else eF μ g.R.n g.b b.tmps
theorem rL.d(h:μ.t dp ν)   (r:rL C μ dp cur g b):rL C ν dp cur g b:=by
 refine⟨r.a.j h,?_⟩;have:=r.c;split at this
 .rename_i e;rw[A5 e];exact this.f h
 .rename_i e;rw[A3 e];exact this.c h
inductive oH (C:fA) (μ:Mu):List pC->List Frame->Prop
 | ac:oH C μ [] []
 | aa {a:pC} {b:Frame} {l:List pC} {m:List Frame}:rL C μ l.length none a b->oH C μ l m->oH C μ (a::l) (b::m)
def oH.c  (r:oH C μ l m)(h:∀d,d<l.length->μ.t d ν):oH C ν l m:=by
 induction r with
 | ac=>exact .ac
 | @aa a b l m c f e=>exact .aa (c.d (h _ (by simp))) (e λd g=>h d (by grind))
theorem oH.e  (r:oH C μ l m)(h:μ.le ν):oH C ν l m:=r.c λd _=>h.b d
def Li{A:pC}    (r:rL C μ dp none g b)(h:eI g v=some A)(L:rA μ v v'):rL C μ dp cur A (b.finish v'):=by
 obtain⟨E,tm,R⟩:=g;unfold eI at h
 cases E with
 | nil=>cases h
 | cons x k=>
  simp only[bD]at h;split at h
  case isFalse=>cases h
  rename_i B;have u:=r.c;rw[A5 B]at u;have f:=r.a;obtain⟨F,s,I,j,q,p,n⟩:=b;simp only at u f
  cases u with
  | aa a t=>
   cases a with
   | aa i l=>
    cases i with
    | au m i hi=>
     simp only[Yp]at h;unfold zre at h;split at h
     case h_2=>cases h
     rename_i o M P;cases h;obtain⟨N,J⟩:=Ar P.symm;have K:i<m.size:=by grind
     have hr:(List.range m.size).drop i=i::(List.range m.size).drop (i+1):=by
      grind [List.drop_eq_getElem_cons]
     have y:m[i]?=some o:=by simp_all
     have e:∀z,Frame.finish ⟨F,s,.inRegion m ((List.range m.size).drop i)::z,j,q,p,n⟩ v'=⟨F,(Act.put ⟨s,j⟩ o.dst v').tmps,.inRegion m ((List.range m.size).drop (i+1))::z,j,q,p,n⟩:=by
      intro z;simp only[Frame.finish,hr,y,Z3];unfold Act.put;cases o.dst<;>rfl
     rw[e];refine⟨⟨f.i,?_,f.c,f.e,f.d,f.a⟩,?_⟩
     .exact(t.f (ds:=j) (dst:=o.dst) L).1
     .rw[A5 B];rw[J];exact .aa (.aa (.au m (i+1) K) l) (t.f L)
    | aj l' i hl=>
     cases h;refine⟨⟨f.i,f.g,f.c,f.e,f.d,f.a⟩,?_⟩;simp only[Frame.finish];rw[A5 B];exact .aa (.aa (.ak l' i hl) l) t
    | aa=>
     cases h;refine⟨⟨f.i,f.g,f.c,f.e,f.d,f.a⟩,?_⟩;simp only[Frame.finish];rw[A5 B];exact .aa l t
    | _=>cases h
  | aj a b c d e=>
   simp_all [Yp,u7,yI]
  | @ac m a1 _ Q U H _ w _ _ W D S a b X c d=>
   simp only[Yp]at h;unfold u7 at h;simp only[pA,yI]at h;obtain⟨o,P,h⟩:=h;cases h;have y:m[U.a]?=some o:=by simp_all
   obtain⟨_,_,D1,D2,N,J,Z⟩:=Wv b X;obtain⟨T,r2⟩:=zke (ds:=j) N y a c L;have e:∀z,Frame.finish ⟨F,s,.inRegion m (U.a::w)::z,j,q,p,n⟩ v'=⟨F,(Act.put ⟨s,j⟩ o.dst v').tmps,.inRegion m w::z,j,q,p,n⟩:=by
    intro z;simp only[Frame.finish,y,Z3];unfold Act.put;cases o.dst<;>rfl
   rw[e];refine⟨⟨f.i,T.q,f.c,f.e,f.d,f.a⟩,?_⟩;rw[A5 B];exact .aj T J Z r2 d
def qE(P:Program)(C:fA)(B N:Nat)(μ:Mu)(base:List Frame)(m:Machine)(w:World):fG->Prop
 | .aa s=>∃ a b d c,Steps P m (lone b (d++base) c)/\μ.l a/\Below N w c/\mB B N a s.H c/\rL C a s.a.length (some s.H) s.b b/\oH C a s.a d
 | .ah v H=>∃ a b c v',Steps P m (lone b base c)/\μ.l a/\Below N w c/\mB B N a H c/\rA a v v'/\b.fn=C.f/\b.leaving P c (.returned v')
 | .ac _=>True
def qE.c{base:List Frame}{m q:Machine}{o:fG}{w r:World}(p:Steps P m q)(n:μ.l ν)(l:Below N w r)(h:qE P C B N ν base q r o):qE P C B N μ base m w o:=by
 cases o with
 | ac=>exact trivial
 | aa s=>
  obtain⟨c,b,t,j,d,e,f,g⟩:=h;exact⟨c,b,t,j,p.trans d,λa i k=>e a i (n a i k),l.trans f,g⟩
 | ah v H=>
  obtain⟨c,b,j,v',d,e,f,g⟩:=h;exact⟨c,b,j,v',p.trans d,λa i k=>e a i (n a i k),l.trans f,g⟩
def zoq (h:b.mode=.run):b.atR ⟨b.tmps,b.defers⟩ b.todo=b:=by
 obtain⟨g,tmps,f,a,e,d,c⟩:=b;simp only at h;subst h;rfl
end
end
section
variable {m:Machine}{c:Code}{g:Nat}
structure cL (P:Program) (C:fA) (B N:Nat) (I:World->Prop):Prop where
 b:nG P C
 a:Iv P C
 c:Pl P C B N I
 d:B<=C.a
 f:P.follows .mixedOrders=true
 e:∀w w',Below N w w'->I w->I w'
section
variable {P:Program}{C:fA}{B N:Nat}{I:World->Prop}{μ ν:Mu}{H H':sA}{w:World}{tm:Tm}{R:qL}{acs:List pC}{base cs:List Frame}
variable {b:Frame}{tmps:Array Value}{ds:List Deferred}{k:List aE}{k':List Item}
def pI.n{a:List Item}(h:pI μ R (b.atR ⟨tmps,ds⟩ [])):pI μ R (b.atR ⟨tmps,ds⟩ a):=⟨h.i,h.g,h.c,h.e,h.d,h.a⟩
theorem pI.f{a:List Item}(h:pI μ R (b.atR ⟨tmps,ds⟩ a)):R.a.a=true:=by
 have:=h.e
 cases c:R.a with
 | ah=>rfl
 | _=>rw[c]at this;exact this.elim
def Dx {c:List aE}{a:List Item}(f:mB B N μ H w)(d:oH C μ acs cs)(e:pI μ R (b.atR ⟨tmps,ds⟩ []))(j:eF μ R.n tm tmps)
  (g:tD (cH μ) c a) (i:Steps P m (lone (b.atR ⟨tmps,ds⟩ a) (cs++base) w)):qE P C B N μ base m w (P9 c tm R acs H):=
 ⟨μ,_,cs,w,i,λ_ _ h=>h,Below.refl _ _,f,⟨e.n,by rw[A5 e.f];exact .aa g j⟩,d⟩
def Ws(c:mB B N μ H w)(a:oH C μ acs cs)(d:pI μ R (b.atR ⟨tmps,ds⟩ []))(g:eF μ R.n tm tmps)(e:tD (cH μ) k k')
  (f:step P m=.next (lone (b.atR ⟨tmps,ds⟩ k') (cs++base) w)):qE P C B N μ base m w (Iy C k tm R acs H):=
 Dx c a d g e (.one f)
def zv0(e:mB B N μ H w)(d:oH C μ acs cs)(i:pI μ R (b.atR ⟨tmps,ds⟩ []))(h:eF μ R.n tm tmps)(j:tD (cH μ) k k'){c:Operand}{x y:Code} :
  qE P C B N μ base (lone (b.atR ⟨tmps,ds⟩ (.code (.cond c x y)::k')) (cs++base) w) w (Py c x y C k tm R acs H):=by
 unfold Py
 cases f:ob (ev c (.b tm)) O.r with
 | none=>exact trivial
 | some t=>
  rw[pA]at f;obtain⟨v,l,a⟩:=f;have:v=.d t:=by cases v<;>simp[O.r]at a;rw[a]
  subst this;have g:=h.l (ds:=ds) e.ac c _ l;rw[rA]at g;refine Dx e d i h (.aa (.ac _) j) (.one ?_);rw[stepR_cond g];cases t<;>rfl
def zom(d:mB B N μ H w)(a:oH C μ acs cs)(e:pI μ R (b.atR ⟨tmps,ds⟩ []))(h:eF μ R.n tm tmps)(f:tD (cH μ) k k')   :
  qE P C B N μ base (lone (b.atR ⟨tmps,ds⟩ (.code (.block g c)::k')) (cs++base) w) w (zoy g c C k tm R acs H):=
 Dx d a e h (.aa (.ac _) (.aa (.ah _) f)) (.one stepR_block)
def zt3(d:mB B N μ H w)(a:oH C μ acs cs)(e:pI μ R (b.atR ⟨tmps,ds⟩ []))(g:eF μ R.n tm tmps)(f:tD (cH μ) k k')  :
  qE P C B N μ base (lone (b.atR ⟨tmps,ds⟩ (.code (.loop c)::k')) (cs++base) w) w (vg c C k tm R acs H):=
 Dx d a e g (.aa (.ac _) (.aa (.am _) f)) (.one stepR_loop)
def zib  : ∀ {k:List aE} {k':List Item} {r:List aE},tD (cH μ) k k'->xX g k=some r->∃b,exitTo g k'=some b/\tD (cH μ) r b:=by
 intro k k' r h;induction h with
 | ac=>intro e;cases e
 | aa a l c=>
  intro e
  cases a with
  | ah i=>
   grind [xX,aE.j,exitTo,bC]
  | _=>
   unfold xX at e;obtain⟨b,d,f⟩:=c e
   grind [exitTo]
end
end
section
variable {i n:Nat}{m:Machine}{v:O}{rest:List Nat}{o:Oper}{f:FuncId}{args args':Array Value}{w':World}{A:pC}{c:Frame}
section
variable {P:Program}{C:fA}{B N:Nat}{I:World->Prop}{μ ν:Mu}{H H':sA}{w:World}{tm:Tm}{R:qL}{acs:List pC}{base cs:List Frame}
variable {b:Frame}{tmps:Array Value}{ds:List Deferred}{k:List aE}{k':List Item}{all:Array Oper}{olds:List (Nat × List Nat)}{z:G Nat}{old:Tm}{D:Nat}{S:Nat->Bool}{y:List Nat}
def pI.l{a:Array Value}{c:List Item}(h:pI μ R (b.atR ⟨tmps,ds⟩ c))(d:a.size=R.n):pI μ R (b.atR ⟨a,ds⟩ c):=⟨h.i,d,h.c,h.e,h.d,h.a⟩
theorem eF.q (h:eF μ n tm tmps):eF μ n tm.b tmps:=by
 refine⟨h.1,λi v a=>h.2 i v ?_⟩;unfold Tm.b Tm.a at a;unfold Tm.a;simp only[eL]at a ⊢;split at a
 .simp_all
 .cases a
theorem ze7(i:cL P C B N I)(f:mB B N μ H w)(a:oH C μ acs cs)(h:pI μ R (b.atR ⟨tmps,ds⟩ []))(j:tD (cH μ) k k')
  (m:bG μ all olds z R.n old tm D S y tmps) (c:yL all.toList z [] D=true) (l:dI C μ acs.length H all olds R.n old tm D S) :
  qE P C B N μ base (lone (b.atR ⟨tmps,ds⟩ (.inRegion all y::k')) (cs++base) w) w (Iy C k tm R acs H):=by
 obtain⟨e,n,w',s,g,t⟩:=iu (b:=b) (k:=k') (cs:=cs++base) (ds:=ds) i.b c y S tmps μ w f m l;refine qE.c s g.g g.below ?_;exact Dx g.b (a.c λd o=>g.j d (by omega)) ((h.j g.g).l t.1) t (j.e λ_ _ r=>r.d g.g) (.refl _ _)
def zvr(m:cL P C B N I)(l:mB B N μ H w)(e:oH C μ acs cs)(g:pI μ R (b.atR ⟨tmps,ds⟩ []))(q:eF μ R.n tm tmps)(n:tD (cH μ) k k'){d:Nat} :
  qE P C B N μ base (lone (b.atR ⟨tmps,ds⟩ (.code (.region d all true)::k')) (cs++base) w) w (Px d all C k tm R acs H):=by
 unfold Px
 cases c:ob (ob (C.e.c R.e) λt=>t.c d) λp=>tB (tY all p) <| ob (pV C H all R.n tm.b p.b p.c tm.b) λa=>some (⟨⟨.d all tm.b p.b p.a::k,a,R⟩,acs,H⟩:kU)with
 | none=>exact trivial
 | some s=>
  simp only[pA,qB]at c;obtain⟨p,_,f,a,o,c⟩:=c;cases c;obtain⟨z,D,y,i,j⟩:=zfv f;obtain⟨v,r⟩:=zls (C:=C) (H:=H) (dp:=acs.length) m.f y q.q (w.tape w.drawn (.order b.fn d));obtain⟨x,u⟩:=Xn _ _ _ o i v r;exact⟨μ,_,cs,_,.one stepR_region_draw,λ_ _ h=>h,(Below.refl N w).drew,l.au,⟨g.n,by rw[A5 g.f];exact .ah x j u n⟩,e⟩
theorem zgm(l:mB B N μ H w)(e:oH C μ acs cs)(g:pI μ R (b.atR ⟨tmps,ds⟩ []))(n:tD (cH μ) k k'){c:eH}{a:List eH}{f:Nat}
  (p:bG μ all olds z R.n old tm D S y tmps) (i:uT all.toList c.b D=some f) (j:yL all.toList z a f=true) (q:Cx C μ acs.length all olds R.n old tm D S c.c) :
  qE P C B N μ base (lone (b.atR ⟨tmps,ds⟩ (.inRegion all y::k')) (cs++base) w) w (Pv all old olds c a C k tm R acs H):=by
 unfold Pv
 cases d:tB (Io C H all old olds tm c.c) (ob (pV C H all R.n old olds c.b tm) λtm=>some (⟨⟨.d all old olds a::k,tm,R⟩,acs,H⟩:kU))with
 | none=>exact trivial
 | some s=>
  simp only[pA,qB]at d;obtain⟨m,u,o,d⟩:=d;cases d;obtain⟨t,r⟩:=Xn _ _ _ o i p (zcj q m);exact⟨μ,_,cs,w,.refl _ _,λ_ _ h=>h,Below.refl N w,l,⟨g.n,by rw[A5 g.f];exact .ah t j r n⟩,e⟩
def WR(f:mB B N μ H w)(e:oH C μ acs cs)(c:pI μ R (b.atR ⟨tmps,ds⟩ []))(i:eF μ R.n tm tmps) {d:List aE}{a:List Item}
  (g:Steps P m (lone { b.atR ⟨tmps,ds⟩ a with mode:=.returning } (cs++base) w)):qE P C B N μ base m w (.aa ⟨Dp ⟨d,tm,R⟩ .aa,acs,H⟩):=
 ⟨μ,_,cs,w,g,λ_ _ h=>h,Below.refl N w,f,⟨⟨c.i,c.g,c.c,trivial,c.d,c.a⟩,i⟩,e⟩
theorem Nj{dst:Option Tmp}{v:Value}:Act.put ⟨tmps,ds⟩ dst v=⟨(Act.put ⟨tmps,ds⟩ dst v).tmps,ds⟩:=by unfold Act.put;cases dst<;>rfl
def AJ    {cs:List Frame}(l:all[i]?=some o)(m:Region.wanted o (yielded all tmps)=true)(k:∀c,o.op≠.defer c)
  (h:nU P B N μ w (Act.eval ⟨tmps,ds⟩) o v H') :
  ∃v' w' a,step P (lone (b.atR ⟨tmps,ds⟩ (.inRegion all (i::rest)::k')) cs w)=.next (lone (b.atR ⟨(Act.put ⟨tmps,ds⟩ o.dst v').tmps,ds⟩ (.inRegion all rest::k')) cs w') ∧
   μ.le a/\mB B N a H' w'/\Below N w w'/\rA a v v':=by
 obtain⟨v',w',a,j,d,e,f,g⟩:=h;refine⟨v',w',a,?_,d,e,f,g⟩;rw[<- Nj];grind [BO,Oper.semAt_eq,VQ]
def IS     {cs:List Frame} (e:all[i]?=some o)(g:Region.wanted o (yielded all tmps)=true)(d:∀c,o.op≠.defer c)
  (h:(execOp (Act.eval ⟨tmps,ds⟩) o).run P w=.ok (.enter f args) w') :
  step P (lone (b.atR ⟨tmps,ds⟩ (.inRegion all (i::rest)::k')) cs w)=.next (lone (Frame.enter P f args .normal) (b.atR ⟨tmps,ds⟩ (.inRegion all (i::rest)::k')::cs) w'):=
 step_lone_go (by
  rw[stepGR_op (a:=⟨tmps,ds⟩) e g,Oper.semAt_eq _ _ _ d]
  simp_all [stepG.apply,Frame.atR])
def SM     {cs:List Frame}(a:all[i]?=some o)(m:Region.wanted o (yielded all tmps)=true)(l:∀c,o.op≠.defer c)
  (h:(execOp (Act.eval ⟨tmps,ds⟩) o).run P w=.ok (.enter f args) w) {R:Value->World->Prop} (k:Calls P f args w λe w'=>∃v',e=.returned v'/\R v' w') :
  ∃v' w',Steps P (lone (b.atR ⟨tmps,ds⟩ (.inRegion all (i::rest)::k')) cs w) (lone (b.atR ⟨(Act.put ⟨tmps,ds⟩ o.dst v').tmps,ds⟩ (.inRegion all rest::k')) cs w')/\R v' w':=by
 obtain⟨e,w',A,⟨v',rfl,d⟩,g,_,j⟩:=k (b.atR ⟨tmps,ds⟩ (.inRegion all (i::rest)::k')::cs);refine⟨v',w',?_,d⟩;refine .head (IS a m l h) (Steps.trans g (.one ?_));rw[step_leave_returned j,Frame.finish_atR,a,<- Nj];rfl
def mB.below (b:mB B N μ H w)(f:Below w.heap.size w w'):mB B N μ H w':=by
 refine⟨b.ak,b.ac,b.aw,b.ah,Nat.le_trans b.aa f.size,b.r,λa x i k d=>?_,λa i h j=>?_,b.inj,b.ax⟩
 .obtain⟨o,c,e⟩:=b.am a x i k d;have g:i.b<w.heap.size:=(G3.1 c).1;exact⟨o,by rw[f.block _ g];exact c,e⟩
 .obtain⟨d,c,e⟩:=b.aj a i h j;exact⟨d,Nat.lt_of_lt_of_le c f.size,e⟩
theorem yY{g:List O->sA->Option O} {c:List O}  {H':sA}(b:rN g c H=some (v,H'))(h:mB B N μ H w)
  (k:g c H=some v->(callFunc f args').run P w=.ok (.enter f args') w/\Calls P f args' w λe w'=>∃v',e=.returned v'/\rA μ v v'/\Below w.heap.size w w') :
  (H'=H/\∃v',(callFunc f args').run P w=.ok (.value v') w/\rA μ v v') ∨
   ((callFunc f args').run P w=.ok (.enter f args') w/\Calls P f args' w λe w'=>∃v' a,e=.returned v'/\μ.le a/\mB B N a H' w'/\Below N w w'/\rA a v v'):=by
 unfold rN at b;rw[pA]at b;obtain⟨u,l,m⟩:=b;cases m;obtain⟨n,o⟩:=k l;exact .inr ⟨n,o.mono λe w' p=>by obtain⟨v',i,j,d⟩:=p;exact⟨v',μ,i,μ.g,h.below d,d.mono h.aa,j⟩⟩
def eF.p (R:eF μ n tm tmps) {w:Bool}(h:dG o.guard all tm=some w):Region.wanted o (yielded all tmps)=w:=by
 unfold dG Qe at h;unfold Region.wanted
 cases g:o.guard with
 | none=>rw[g]at h;cases h;rfl
 | some q=>
  obtain⟨j,e⟩:=q;rw[g]at h;simp only[Qc,pA,yI]at h;obtain⟨d,⟨u,s,l⟩,v,m,h⟩:=h;have k:all[j]?=some u:=by simp_all
  have p:yielded all tmps j=match tmps[d]? with | some (.bool b)=>some b | _=>none:=by
   grind [yielded]
  simp only[];rw[p];have a:=R.2 d v m;by_cases i:d<n
  .have r:d<tmps.size:=by rw[R.1];exact i
   have f:tmps[d]?=some (tmps.getD d undef):=by simp_all
   rw[f];generalize tmps.getD d undef=x at a
   cases c:v.r with
   | some b=>
    rw[c]at h;have:v=.d b:=by cases v<;>simp[O.r]at c;rw[c]
    rw[this,rA]at a;subst a;simp only[Option.some.injEq]at h;rw[<- h,xZ];cases b<;>cases e<;>rfl
   | none=>
    rw[c]at h;cases h
    cases x with
    | bool b=>rw[HJ a]at c;cases c
    | _=>rfl
  .have f:tmps[d]?=none:=by simp[R.1];omega
   rw[f];rw[Og (by simp_all)]at a
   cases c:v.r with
   | some b=>
    have:v=.d b:=by cases v<;>simp[O.r]at c;rw[c]
    rw[this,rA]at a;cases a
   | none=>simp_all
def CR    {v':Value} (k:rL C μ acs.length none A c)(b:oH C μ acs cs)(d:μ.le ν)(f:mB B N ν H' w')(g:Below N w w')(j:rA ν v v')
  (i:Steps P m (lone (c.finish v') (cs++base) w')):qE P C B N μ base m w (dx v H' C A acs H):=by
 unfold dx
 cases a:ob (eI A v) λA=>some (⟨A,acs,H'⟩:kU)with
 | none=>exact trivial
 | some s=>
  rw[pA]at a;obtain⟨e,h,a⟩:=a;cases a;exact⟨ν,_,cs,w',i,d,g,f,Li (k.d d) h j,b.e d⟩
def Tp{dp:Nat}(p:Iv P C){f:Nat}{args:List O} {d:Bool}{g:pC}{cur:Option sA}(h:iL C f args d=some g)(l:jB μ args args'.toList) :
  rL C μ dp cur g (Frame.enter P f args' (if d then .deferred else .normal))/\∃fn,C.d.c f=some fn/\fn.body.isSome=true:=by
 unfold iL at h;simp only[pA,qB,B2,rF]at h;obtain⟨fn,e,c,s,k,u,⟨m,n⟩,o⟩:=h;cases o;obtain⟨r,_⟩:=p f fn e;have q:args'.size=args.length:=by have:=l.d;omega
 rw[eD]at m n;have a:(Frame.enter P f args' (if d then .deferred else .normal)).tmps.size=fn.ntmps:=by
  grind [Frame.enter]
 refine⟨⟨⟨rfl,a,.ac,trivial,rfl,trivial⟩,?_⟩,fn,e,by grind⟩;show aP C μ dp fn.ntmps cur [.a c] ⟨k,G.ac args,[]⟩ (Frame.enter P f args' (if d then .deferred else .normal)).todo (Frame.enter P f args' (if d then .deferred else .normal)).tmps;have j:(Frame.enter P f args' (if d then .deferred else .normal)).todo=[.code c]:=by grind [Frame.enter]
 rw[j];refine .aa (.aa (.ac c) .ac) ⟨a,λi v b=>?_⟩;unfold Tm.a at b;simp only[eL]at b;split at b
 .rw[G.o]at b;obtain⟨x,y,w⟩:=l.w b;have t:i<args'.size:=by grind
  simp_all [Frame.enter,yaj]
 .cases b
def zfh(j:Iv P C)  {f:Nat}{args:List O} (n:rL C μ acs.length none A c)(a:oH C μ acs cs)(k:mB B N μ H w)
  (l:∀fn,C.d.c f=some fn->fn.body.isSome=true->∃args',jB μ args args'.toList/\Steps P m (lone (Frame.enter P f args' .normal) (c::(cs++base)) w)) :
  qE P C B N μ base m w (Rr f args C A acs H):=by
 unfold Rr
 cases o:iL C f args false with
 | none=>exact trivial
 | some g=>
  obtain⟨fn,b,d⟩:∃fn,C.d.c f=some fn/\fn.body.isSome=true:=by
   grind [iL,pA]
  obtain⟨args',e,i⟩:=l fn b d;exact⟨μ,_,c::cs,w,i,λ_ _ h=>h,Below.refl N w,k,(Tp j o e).1,.aa n a⟩
end
end
section
variable {μ:Mu}{dp n:Nat}{tm:Tm}{tmps:Array Value}{C:fA}{cur:Option sA}
theorem PE:∀(l:List Oper) (t:G O) (i:Nat) (v:O),(Oq l t).c i=some v->t.c i=some v/\∀o∈l,o.dst≠some i:=by
 intro l;induction l with
 | nil=>intro t i v h;exact⟨h,λ_ a=>by cases a⟩
 | cons o l b=>
  grind [Oq,G.e]
def bG.ap {all:Array Oper}{olds:List (Nat × List Nat)}{e:G Nat} {old:Tm}{D:Nat}{S:Nat->Bool}{d:List Nat} (R:bG μ all olds e n old tm D S d tmps) :
  eF μ n ⟨tm.k,Oq all.toList tm.v,[]⟩ tmps:=by
 refine⟨R.q,λt v c=>?_⟩;unfold Tm.a at c;simp only[eL]at c;split at c
 case isFalse=>cases c
 rename_i m;obtain⟨l,h⟩:=PE _ _ _ _ c;have c:tm.a t=some v:=by grind [Tm.a,eL]
 have g:∀(i:Nat) (o:Oper),all[i]?=some o->o.dst=some t->False:=λi o p j=>h o (by
  grind) j
 by_cases f:t<n
 .have k:=R.aa t f λi o a b=>(g i o a b).elim;exact R.s t v f (λi o a b=>(g i o a b).elim) (by simp_all)
 .rw[Og (by rw[R.q];omega)];exact R.ah t v (by omega) (.inl c)
def aP.g    {b:List aE} {c:List Item} (h:aP C μ dp n cur b tm c tmps):eF μ n (Sn b tm) tmps:=by
 cases h with
 | aa a t=>
  cases a with
  | ac=>exact t
  | aa x l=>cases x<;>exact t
 | ah a _ _ _=>exact a.ap
 | aj a _ _ _ _=>exact a.ap
 | ac a _ _ _ _=>exact a.ap
def tD.f{d e:Type}{R:d->e->Prop}{l b:List d}{m c:List e}(h:tD R l m)(f:tD R b c):tD R (l++b) (m++c):=by
 induction h with
 | ac=>exact f
 | aa a _ g=>exact .aa a g
def eF.m    (h:eF μ n tm tmps)(a:List aE):eF μ n (Sn a tm) tmps:=by
 unfold Sn;split
 .refine⟨h.1,λt v b=>h.2 t v ?_⟩;unfold Tm.a at b ⊢;simp only[eL]at b ⊢;split at b
  .grind [PE]
  .cases b
 .exact h
def KK   {f:Option sA}{d:pC}{b:Frame}{l:List Iw}{u:List PanicEntry}(h:rL C μ dp cur d b)(q:tD (It μ) l u):rL C μ dp f (gZ d l) (b.raise u):=by
 have t:eF μ d.R.n (Sn d.a d.b) b.tmps:=by
  have:=h.c;split at this
  .exact this.g
  .exact this.m _
 have r:=h.a;obtain⟨v,tm,x,n,j,g,c,s⟩:=d;obtain⟨w,o,p,e,a,k,i⟩:=b;have m:=r.e;cases g<;>cases a<;>first | exact m.elim | skip
 .exact⟨⟨r.i,r.g,r.c,q,r.d,r.a⟩,t⟩
 .exact⟨⟨r.i,r.g,r.c,q,r.d,r.a⟩,t⟩
 .refine⟨⟨r.i,r.g,r.c,?_,r.d,r.a⟩,t⟩;show tD (It μ) (tE l _) _;rw[xI];exact q.f m
end
section
variable {j:pC}{c:Frame}{m:Machine}{i l:Nat}{rest:List Nat}{o:Oper}{w':World}
section
variable {P:Program}{C:fA}{B N:Nat}{I:World->Prop}{μ ν:Mu}{H H':sA}{w:World}{tm:Tm}{R:qL}{acs:List pC}{base cs:List Frame}
variable {b:Frame}{tmps:Array Value}{ds:List Deferred}{k:List aE}{k':List Item}{all:Array Oper}
def zfg  {v:O}{v':Value} {cur:Option sA}(f:rL C μ acs.length cur j c)(a:oH C μ acs cs)(b:mB B N μ H w)(e:rA μ v v')
  (d:Steps P m (lone (c.raise [{ v:=v',recovered:=false }]) (cs++base) w)):qE P C B N μ base m w (zpz v C j acs H):=
 ⟨μ,_,cs,w,d,λ_ _ h=>h,Below.refl N w,b,KK f (.aa ⟨e,rfl,rfl⟩ .ac),a⟩
def VU   {v:Value}{cs:List Frame} (d:all[i]?=some o)(e:Region.wanted o (yielded all tmps)=true)(a:∀c,o.op≠.defer c)
  (h:(execOp (Act.eval ⟨tmps,ds⟩) o).run P w=.halt (.panic v) w') :
  step P (lone (b.atR ⟨tmps,ds⟩ (.inRegion all (i::rest)::k')) cs w)=.next (lone ((b.atR ⟨tmps,ds⟩ (.inRegion all (i::rest)::k')).raise [{ v,recovered:=false }]) cs w'):=
 step_lone_go (by
  simp_all [stepGR_op,Oper.semAt_eq,stepG.apply])
def Sk(g:mB B N μ H w) {r:iO}(h:tK H l=some r){i:BI}(e:μ l=some i):B<=l/\∃a,H.t.c l=some (.ac r)/\w.heap[i.b]?=some (.loop a)/\Uu μ r a:=by
 unfold tK at h;rw[qB,rF,pA]at h;obtain⟨m,x,b,d⟩:=h;have:x=.ac r:=by cases x<;>simp[vA.d]at d;rw[d]
 subst this;obtain⟨o,j,f⟩:=g.am l _ i b e;rw[mK]at f;obtain⟨a,rfl,k⟩:=f;refine⟨Nat.le_of_not_lt λc=>?_,a,b,j,k⟩;have:=(g.aw l _ i c b e).2.1;cases this
def Rj {r:Loop}(h:w.heap[l]?=some (.loop r)):(Instr.getLoop l).run P w=.ok r w:=by
 simp_all [Instr.getLoop,getObj,Sem.run]
theorem TK{o:Op}(h:∃c,o=.defer c)(C:fA)(e:mD)(H:sA):(kF o).f C e H=.ac\/∃d,(kF o).f C e H=.ah d:=by
 obtain⟨c,rfl⟩:=h;show(Yd c c.callee).f C e H=.ac\/∃d,(Yd c c.callee).f C e H=.ah d
 cases c.callee with
 | value f=>
  show Dr (ob (bU f c.args e) λp=>some (.ah ⟨some p.1,0,tE p.2.1 p.2.2⟩))=.ac\/∃d,Dr (ob (bU f c.args e) λp=>some (.ah ⟨some p.1,0,tE p.2.1 p.2.2⟩))=.ah d
  cases bU f c.args e with
  | none=>exact .inl rfl
  | some p=>exact .inr ⟨_,rfl⟩
 | _=>exact .inl rfl
def WJ{n:Nat}:∀(ps:List Nat) (args:List O) (tm tm':Tm) (args':List Value) (tmps:Array Value),Dn n ps args tm=some tm'->jB μ args args'->eF μ n tm tmps →
  args'.length=ps.length/\eF μ n tm' ((ps.zip args').foldl (λtmps x=>tmps.setIfInBounds x.1 x.2) tmps):=by
 intro ps;induction ps with
 | nil=>
  intro args tm tm' args' tmps h b d
  cases args with
  | nil=>rw[jB]at b;subst b;cases h;simp_all
  | cons a c=>cases h
 | cons p ps f=>
  intro args tm tm' args' tmps h b d
  cases args with
  | nil=>cases h
  | cons a c=>
   rw[jB]at b;obtain⟨v,r,rfl,e,b⟩:=b;have:=f c _ _ r (tmps.setIfInBounds p v) h b (d.f (ds:=[]) (dst:=some p) e)
   simp_all
def VS   {cs:List Frame} {f:FuncId}{t:Array Value}{d e:Code} (j:all[i]?=some o)(k:Region.wanted o (yielded all tmps)=true)(g:∀c,o.op≠.defer c)
  (h:(execOp (Act.eval ⟨tmps,ds⟩) o).run P w=.ok (.round l f t d e) w') :
  step P (lone (b.atR ⟨tmps,ds⟩ (.inRegion all (i::rest)::k')) cs w)=.next (lone (Frame.round l f t d e .normal) (b.atR ⟨tmps,ds⟩ (.inRegion all (i::rest)::k')::cs) w'):=
 step_lone_go (by
  rw[stepGR_op (a:=⟨tmps,ds⟩) j k,Oper.semAt_eq _ _ _ g]
  simp_all [stepG.apply])
def VY   {cs:List Frame}{d:Deferred} (e:all[i]?=some o)(f:Region.wanted o (yielded all tmps)=true)(c:b.roundOf=none)
  (h:(execOp (Act.eval ⟨tmps,ds⟩) o).run P w=.ok (.defer d) w') :
  step P (lone (b.atR ⟨tmps,ds⟩ (.inRegion all (i::rest)::k')) cs w)=.next (lone ((b.atR ⟨tmps,d::ds⟩ (.inRegion all (i::rest)::k')).finish undef) cs w'):=
 step_lone_go (by
  rw[stepGR_op (a:=⟨tmps,ds⟩) e f,c,Oper.semAt_none]
  simp_all [stepG.apply,Frame.atR])
def VT   {cs:List Frame} (j:all[i]?=some o)(k:Region.wanted o (yielded all tmps)=true)(g:∀c,o.op≠.defer c)(f:b.roundOf=none)
  (h:(execOp (Act.eval ⟨tmps,ds⟩) o).run P w=.ok .recover w') :
  step P (lone (b.atR ⟨tmps,ds⟩ (.inRegion all (i::rest)::k')) cs w)=.next (match tryRecover (b.atR ⟨tmps,ds⟩ (.inRegion all (i::rest)::k')) cs with
   | some (v,cs)=>lone ((b.atR ⟨tmps,ds⟩ (.inRegion all (i::rest)::k')).finish v) cs w'
   | none=>lone ((b.atR ⟨tmps,ds⟩ (.inRegion all (i::rest)::k')).finish .nilIface) cs w'):=by
 have e:(stepG P true { frame:=b.atR ⟨tmps,ds⟩ (.inRegion all (i::rest)::k'),callers:=cs,status:=.running,dying:=none } w).bare=match tryRecover (b.atR ⟨tmps,ds⟩ (.inRegion all (i::rest)::k')) cs with
   | some (v,cs)=>.go { frame:=(b.atR ⟨tmps,ds⟩ (.inRegion all (i::rest)::k')).finish v,callers:=cs,status:=.running,dying:=none } w'
   | none=>.go { frame:=(b.atR ⟨tmps,ds⟩ (.inRegion all (i::rest)::k')).finish .nilIface,callers:=cs,status:=.running,dying:=none } w':=by
  rw[stepGR_op (a:=⟨tmps,ds⟩) j k,Oper.semAt_eq _ _ _ g];have d:(b.atR ⟨tmps,ds⟩ (.inRegion all (i::rest)::k')).roundOf=none:=f;simp only[stepG.apply,Sem.runT_eq,h,GStep.bare_after,d,if_true]
  cases tryRecover (b.atR ⟨tmps,ds⟩ (.inRegion all (i::rest)::k')) cs with
  | none=>rfl
  | some p=>simp_all
 grind [step_lone_go]
def zff   {i:BI}{args:List O}{args':Array Value} (D:rL C μ acs.length none j c)(k:oH C μ acs cs)(u:mB B N μ H w)(hi:μ l=some i)(y:jB μ args args'.toList)
  (A:∀f t p q,(Instr.yield i.b args').run P w=.ok (.round i.b f t p q) w->Steps P m (lone (Frame.round i.b f t p q .normal) (c::(cs++base)) w)):qE P C B N μ base m w (Rp l args C j acs H):=by
 unfold Rp
 cases g:ob (tK H l) λr=>ob (Dn r.n r.b args r.h) λtm=>some (⟨⟨[.a r.c,.b,.a r.f],tm,⟨r.g,r.n,[],.ah,false,some l⟩⟩,j::acs,H⟩:kU)with
 | none=>exact trivial
 | some s=>
  simp only[pA]at g;obtain⟨r,z,o,n,g⟩:=g;cases g;obtain⟨_,a,_,E,b⟩:=Sk u z hi;obtain⟨v,d⟩:=WJ r.b args r.h o args'.toList a.tmps n y b.j;rw[<- b.b]at v d;have F:args'.size=a.params.size:=by omega
  have e:(a.params.zip args').foldl (λtmps x=>tmps.setIfInBounds x.1 x.2) a.tmps=(a.params.toList.zip args'.toList).foldl (λtmps x=>tmps.setIfInBounds x.1 x.2) a.tmps:=by
   rw[<- Array.foldl_toList,Array.toList_zip]
  rw[<- e]at d;refine⟨μ,_,c::cs,w,A a.fn ((a.params.zip args').foldl (λtmps x=>tmps.setIfInBounds x.1 x.2) a.tmps) a.assign a.body ?_,λ_ _ h=>h,Below.refl N w,u,?_,.aa D k⟩
  .simp_all [Instr.yield,Rj]
  .refine⟨⟨b.g,d.1,.ac,trivial,rfl,⟨i,hi,rfl⟩⟩,?_⟩;show aP C μ (acs.length+1) r.n _ _ _ [.code a.assign,.beginRound,.code a.body] _;rw[b.c,b.e];exact .aa (.aa (.ac _) (.aa .aa (.aa (.ac _) .ac))) d
theorem TP(hS:cL P C B N I)(W:mB B N μ H w)(u:oH C μ acs cs)    {r:zM}
  (a:rL C μ acs.length none j (b.atR ⟨tmps,ds⟩ (.inRegion all (i::rest)::k'))) (T:all[i]?=some o) (hw:Region.wanted o (yielded all tmps)=true)
  (ao:(∃c,o.op=.defer c)->r=.ac\/∃d,r=.ah d) (h:fQ P C B N μ H w (Act.eval ⟨tmps,ds⟩) o r) :
  qE P C B N μ base (lone (b.atR ⟨tmps,ds⟩ (.inRegion all (i::rest)::k')) (cs++base) w) w (Ph r C j acs H):=by
 have n:(∀d,r≠.ah d)->r≠.ac->∀c,o.op≠.defer c:=by
  intro Q S c e;simp_all
 cases r with
 | ac=>exact trivial
 | aa v H'=>
  have n:=n (λ_ h=>by cases h) (λh=>by cases h);rcases h with h | ⟨f,q,Q,S⟩
  .obtain⟨v',w',F,s,m,X,z,hv⟩:=AJ (b:=b) (k':=k') (rest:=rest) (cs:=cs++base) T hw n h;refine CR (H:=H) a u m X z hv ?_;rw[Frame.finish_atR,T,Z3,Nj];exact .one s
  .obtain⟨v',w',s,F,m,X,z,hv⟩:=SM (b:=b) (k':=k') (rest:=rest) (cs:=cs++base) (R:=λv' w'=>∃ F,μ.le F/\mB B N F H' w'/\Below N w w'/\rA F v v') T hw n Q (S.mono λe w' hh=>by simp_all);refine CR (H:=H) a u m X z hv ?_
   grind [Frame.finish_atR,Nj]
 | am f a1=>
  have n:=n (λ_ h=>by cases h) (λh=>by cases h);exact zfh hS.a a u W λfn Q S=>by
   obtain⟨q,h3,h4⟩:=h fn Q S;exact⟨q,h4,.one (IS T hw n h3)⟩
 | ak l a1=>
  have n:=n (λ_ h=>by cases h) (λh=>by cases h);obtain⟨i0,q,hi,hl,aq⟩:=h;exact zff a u W hi hl λf t as bd hy=>.one (VS T hw n (by simp_all))
 | ah d=>
  obtain⟨_,d',Q,S⟩:=h;show qE P C B N μ base _ w (ve d C j acs H);unfold ve
  cases hr:j.R.c with
  | some l=>exact trivial
  | none=>
   have z:b.roundOf=none:=by
    have:=a.a.a;rw[hr]at this;change Ir μ none b.roundOf at this
    cases z:b.roundOf with
    | none=>rfl
    | some l=>rw[z]at this;exact this.elim
   simp only[]
   cases Z:eI j aD with
   | none=>exact trivial
   | some g=>
    have:=Li (cur:=some H) a Z Vf;refine⟨μ,_,cs,w,.one (VY T hw z Q),λ_ _ h=>h,Below.refl N w,W,?_,u⟩;rw[Frame.finish_atR]at this ⊢;rw[Nj]at this ⊢;have e:∀x,(Act.put ⟨tmps,d'::ds⟩ x undef).tmps=(Act.put ⟨tmps,ds⟩ x undef).tmps:=λx=>by cases x<;>rfl
    rw[e];exact⟨⟨this.a.i,this.a.g,.aa S this.a.c,this.a.e,this.a.d,this.a.a⟩,this.c⟩
 | ap v=>
  have n:=n (λ_ h=>by cases h) (λh=>by cases h);obtain⟨v',Q,S⟩:=h;exact zfg a u W S (.one (VU T hw n Q))
 | aj=>
  have n:=n (λ_ h=>by cases h) (λh=>by cases h);show qE P C B N μ base _ w (Rq C j acs H);unfold Rq
  cases hr:j.R.c with
  | some l=>exact trivial
  | none=>
   have z:b.roundOf=none:=by
    have:=a.a.a;rw[hr]at this;change Ir μ none b.roundOf at this
    cases z:b.roundOf with
    | none=>rfl
    | some l=>rw[z]at this;exact this.elim
   cases hk:j.R.b with
   | false=>exact trivial
   | true=>
    have D:b.kind=.deferred:=by have:=a.a.d;rw[hk]at this;exact this
    cases u with
    | ac=>exact trivial
    | @aa c J al y K A=>
     have st:=VT (P:=P) (b:=b) (k':=k') (rest:=rest) (cs:=J::(y++base)) T hw n z h;have m:=K.a.e
     have tr:∀U,tryRecover (b.atR ⟨tmps,ds⟩ U) (J::(y++base))=match J.mode with
       | .panicking ({ v,recovered:=false,goexit:=false }::E)=>some (v,{ J with mode:=.panicking ({ v,recovered:=true }::E) }::(y++base))
       | _=>none:=by
      intro U;obtain⟨ar,ae,af,a6,ad,ab,a8⟩:=b;simp only at D;subst D;rfl
     rw[tr]at st;simp only[]
     cases L:c.R.a with
     | ah=>
      rw[L]at m
      cases k:J.mode with
      | run=>
       rw[k]at st;simp only[]
       cases Z:eI j .x with
       | none=>exact trivial
       | some g=>exact⟨μ,_,J::y,w,.one st,λ_ _ h=>h,Below.refl N w,W,Li a Z (by rw[rA]),.aa K A⟩
      | _=>rw[k]at m;exact m.elim
     | aa=>
      rw[L]at m
      cases k:J.mode with
      | returning=>
       rw[k]at st;simp only[]
       cases Z:eI j .x with
       | none=>exact trivial
       | some g=>exact⟨μ,_,J::y,w,.one st,λ_ _ h=>h,Below.refl N w,W,Li a Z (by rw[rA]),.aa K A⟩
      | _=>rw[k]at m;exact m.elim
     | ac ch=>
      rw[L]at m
      cases k:J.mode with
      | run=>rw[k]at m;exact m.elim
      | returning=>rw[k]at m;exact m.elim
      | panicking au=>
       rw[k]at m st
       cases m with
       | ac=>exact trivial
       | @aa p e E M hp a7=>
        obtain⟨pv,pr⟩:=p
        cases pr with
        | true=>exact trivial
        | false=>
         obtain⟨ag,er,eg⟩:=e;obtain⟨q1,q2,q3⟩:=hp;simp only at q1 q2 q3;subst q2 q3;simp only[]
         cases Z:eI j pv with
         | none=>exact trivial
         | some g=>
          have ai:=Li (cur:=some H) a Z q1;refine⟨μ,_,{ J with mode:=.panicking ({ v:=ag,recovered:=true }::M) }::y,w,.one st,λ_ _ h=>h,Below.refl N w,W,ai,.aa ?_ A⟩;refine⟨⟨K.a.i,K.a.g,K.a.c,.aa ⟨q1,rfl,rfl⟩ a7,K.a.d,K.a.a⟩,?_⟩;have:=K.c;rw[L]at this;exact this
end
end
section
variable {a e:RE}{b:Nat}{l s:List RE}
section
variable {P:Program}{C:fA}{B N:Nat}{μ:Mu}{H H' z:sA}{w:World}
def RE.d(C:fA)(e:RE)(x:vA):Option vA:=
 match e with
 | .st b a l=>tB (!Nat.blt b C.a) (ob x.a λc=>tB (Nat.ble (a+wB l) c.2.1&&oD O.z l) (some (.aa (c.1.am l a) c.2.1 c.2.2)))
 | .up b k v=>tB (!Nat.blt b C.a) (ob x.e λm=>some (.aj (tE m [(k,v)])))
def Uk  : Fs C H e=some H' ↔ ∃x y,H.t.c e.a=some x/\e.d C x=some y/\H'=A7 H e.a y:=by
 cases e with
 | st b a l=>
  grind [Fs,kK,fD,RE.d,RE.a,pA,qB]
 | up b k v=>
  grind [Fs,zN,RE.d,RE.a,pA,qB]
theorem Le{a:Nat}{x:vA}:(A7 H b x).t.c a=if a=b then some x else H.t.c a:=G.aa _ _ _ _
def vW(a b:RE):Prop:=a.a≠b.a\/∃c k v d e,a=.up c k v/\b=.up c d e/\kJ k d=some false
def vW.d{b:RE}(h:vW a b):vW b a:=by
 rcases h with h | ⟨c,k,v,d,f,rfl,rfl,h⟩
 .exact .inl λe=>h e.symm
 .exact .inr ⟨c,d,f,k,v,rfl,rfl,Sw h⟩
def zjw{b:RE}(h:vk a b=true):vW a b:=by
 unfold vk at h;rw[bD]at h;split at h
 .rename_i e
  cases a with
  | st=>cases h
  | up c k v=>
   cases b with
   | st=>cases h
   | up d g i=>
    have e:c=d:=bC.1 e;subst e;simp only[zf3]at h;split at h
    .rename_i r f
     cases r with
     | true=>cases h
     | false=>exact .inr ⟨c,k,v,g,i,rfl,rfl,f⟩
    .cases h
 .rename_i e;exact .inl λk=>e (bC.2 k)
def TJ:∀ {l:List RE},Zx l=true->l.Pairwise vW
 | [],_=>.nil
 | a::l,h=>by
  unfold Zx at h;rw[B2,gI,C9]at h;exact .cons (λb c=>zjw (h.1 b c)) (TJ h.2)
def fK (b:Nat):List RE->List (O × O)
 | []=>[]
 | .st _ _ _::l=>fK b l
 | .up c k v::l=>if c=b then(k,v)::fK b l else fK b l
def Ys{b:Nat}:∀ {l m:List RE},fK b (l++m)=fK b l++fK b m
 | [],_=>rfl
 | .st _ _ _::l,m=>Ys (l:=l)
 | .up c k v::l,m=>by
  rw[List.cons_append,fK,fK,Ys (l:=l)];split<;>simp
def Ol{b:Nat}{p:O × O}:∀ {l:List RE},p∈fK b l->.up b p.1 p.2∈l
 | .st _ _ _::l,h=>.tail _ (Ol (l:=l) h)
 | .up c k v::l,h=>by
  rw[fK]at h;split at h
  .rename_i e;subst e;rcases C3.1 h with rfl | h
   .grind
   .exact .tail _ (Ol h)
  .exact .tail _ (Ol h)
def zii  (h:∀e∈l,e.a≠b):fK b l=[]:=by
 cases a:fK b l with
 | nil=>rfl
 | cons p r=>
  have:p∈fK b l:=by simp_all
  exact absurd rfl (h _ (Ol this))
def zih {m:List RE}(p:l.Perm m):(fK b l).Perm (fK b m):=by
 induction p with
 | nil=>exact .refl _
 | cons x _ e=>
  cases x with
  | st=>exact e
  | up c k v=>
   rw[fK,fK];split
   all_goals simp_all
 | swap x y l=>
  cases x with
  | st=>cases y<;>exact .refl _
  | up c k v=>
   cases y with
   | st=>exact .refl _
   | up f g h=>
    simp only[fK];split<;>split<;>first | exact .refl _ | exact .swap _ _ _
 | trans _ _ a d=>exact a.trans d
def zvp  (h:l.Pairwise vW):DK (fK b l):=by
 unfold DK;induction l with
 | nil=>exact .nil
 | cons x l d=>
  rw[List.pairwise_cons]at h
  cases x with
  | st=>exact d h.2
  | up c k v=>
   rw[fK];split
   .rename_i e;subst e;refine .cons (λp f=>?_) (d h.2);rcases h.1 _ (Ol f)with a | ⟨_,_,_,_,_,g,i,a⟩
    .exact absurd rfl a
    simp_all
   simp_all
structure bP (C:fA) (H:sA) (s:List RE) (z:sA):Prop where
 c:z.a=H.a
 q:∀b off l,RE.st b off l∈s->∃x y,H.t.c b=some x/\(RE.st b off l).d C x=some y/\z.t.c b=some y
 g:∀b k v,RE.up b k v∈s->z.t.c b=some (.aj (fK b s))
 d:∀a,(∀e∈s,e.a≠a)->z.t.c a=H.t.c a
theorem bP.j:bP C H [] H:=⟨rfl,λ_ _ _ h=>(by cases h),λ_ _ _ h=>(by cases h),λ_ _=>rfl⟩
def Ur(C:fA)(H:sA)(e:RE):Prop:=
 match e with
 | .st _ _ _=>∃H',Fs C H e=some H'
 | .up b _ _=>Nat.blt b C.a=false/\H.t.c b=some (.aj [])
theorem zfb (h:Nd C H e=true):Ur C H e:=by
 cases e with
 | st b a l=>
  change (!iE (kK C H b a l))=true at h
  cases c:kK C H b a l with
  | none=>rw[c]at h;cases h
  | some H'=>exact⟨H',c⟩
 | up b k v=>
  unfold Nd at h;simp only[B2,F4]at h;refine⟨h.1,?_⟩
  grind [Zq]
def bP.f  (h:bP C H s z)(N:Ur C H e)(A:∀x∈s,vW x e):∃H',Fs C z e=some H'/\bP C H (s++[e]) H'/\(∀b k v,e=.up b k v->∃m,z.t.c b=some (.aj m)/\Nat.blt b C.a=false/\(∀p∈m,kJ k p.1=some false)/\H'=A7 z b (.aj (m++[(k,v)]))):=by
 cases e with
 | st b j l=>
  have r:∀x∈s,x.a≠b:=λx t=>by
   rcases A x t with o | ⟨_,_,_,_,_,_,o,_⟩
   .exact o
   grind
  obtain⟨S,o⟩:=N;obtain⟨x,y,t,R,rfl⟩:=Uk.1 o;have t:H.t.c b=some x:=t;have B:=h.d b r;refine⟨A7 z b y,Uk.2 ⟨x,y,by show z.t.c b=_;simp_all,R,rfl⟩,⟨h.c,λc n F g=>?_,λc k v g=>?_,λa i=>?_⟩,λ_ _ _ e=>by cases e⟩
  .rcases F5.1 g with g | g
   .obtain⟨u,v,J,K,L⟩:=h.q c n F g;refine⟨u,v,J,K,?_⟩;rw[Le,A3 (show ¬ c=b from r _ g)];exact L
   grind [Le]
  .rcases F5.1 g with g | g
   .rw[Le,A3 (show ¬ c=b from r _ g),h.g c k v g,Ys];simp[fK]
   grind
  .rw[Le,A3 (λe=>i (.st b j l) (by simp) e.symm)];exact h.d a λe q=>i e (by simp[q])
 | up b k v=>
  obtain⟨P,g⟩:=N;have D:∀c j l,RE.st c j l∈s->c≠b:=λc j l t=>by
   rcases A _ t with o | ⟨_,_,_,_,_,o,_,_⟩
   .exact o
   grind
  have B:z.t.c b=some (.aj (fK b s)):=by
   by_cases w:∃e∈s,e.a=b
   .obtain⟨e,q,f⟩:=w
    cases e with
    | st c j l=>exact absurd f (D _ _ _ q)
    | up c E I=>
     have f:c=b:=f;subst f;exact h.g _ _ _ q
   .have M:∀e∈s,e.a≠b:=λe q f=>w ⟨e,q,f⟩;rw[h.d b M,g,zii M]
  refine⟨A7 z b (.aj (fK b s++[(k,v)])),Uk.2 ⟨_,_,B,?_,rfl⟩,⟨h.c,λc n F d=>?_,λc E I d=>?_,λa i=>?_⟩,λc E I e=>?_⟩
  .simp_all [RE.d,tB,vA.e,xI]
  .rcases F5.1 d with d | d
   .obtain⟨u,x,J,K,L⟩:=h.q c n F d
    grind [Le]
   simp_all
  .rw[Le,Ys];by_cases e:c=b
   .grind [fK]
   .rw[A3 e];have:fK c [RE.up b k v]=[]:=by grind [fK]
    rw[this,C8];rcases F5.1 d with d | d
    .exact h.g c E I d
    simp_all
  .rw[Le,A3 (λe=>i (.up b k v) (by simp) e.symm)];exact h.d a λe q=>i e (by simp[q])
  .cases e;refine⟨_,B,P,λp Q=>?_,rfl⟩;rcases A _ (Ol Q)with o | ⟨_,_,_,_,_,T,U,o⟩
   .exact absurd rfl o
   grind [Sw]
def bP.n (h:bP C H s z)(d:∀e∈l,Ur C H e)(n:(s++l).Pairwise vW):∀ {H'},Lv C l z=some H'->bP C H (s++l) H':=by
 induction l generalizing s z with
 | nil=>intro H' a;cases a;simp_all
 | cons e l j=>
  intro H' a;unfold Lv at a;rw[pA]at a;obtain⟨k,i,a⟩:=a;have b:∀x∈s,vW x e:=λx f=>by
   grind
  obtain⟨m,c,g,_⟩:=h.f (d e (.head _)) b;rw[i]at c;cases c;have:=j g (λx f=>d x (.tail _ f)) (by simp_all) a
  rwa [D4]at this
structure fj (μ:Mu) (H H':sA):Prop where
 b:H'.a=H.a
 c:∀a,H'.t.c a=H.t.c a\/((∃i,μ a=some i)/\∃m m',H.t.c a=some (.aj m)/\H'.t.c a=some (.aj m')/\m.Perm m'/\DK m)
def bP.o{t:List RE}{q r:sA}(h:bP C H s q)(m:bP C H t r)(p:s.Perm t)(A:s.Pairwise vW)(B:∀e∈s,∃i,μ e.a=some i):fj μ q r:=by
 refine⟨m.c.trans h.c.symm,λa=>?_⟩;by_cases d:∃e∈s,e.a=a
 .obtain⟨e,c,rfl⟩:=d
  cases e with
  | st b j l=>
   obtain⟨x,y,u,w,z⟩:=h.q b j l c;obtain⟨D,E,f,g,n⟩:=m.q b j l (p.mem_iff.1 c);rw[u]at f;cases f;rw[w]at g;cases g;exact .inl (n.trans z.symm)
  | up b k v=>exact .inr ⟨B _ c,_,_,h.g b k v c,m.g b k v (p.mem_iff.1 c),zih p,zvp A⟩
 .left
  rw[h.d a λe c o=>d ⟨e,c,o⟩,m.d a λe c o=>d ⟨e,p.mem_iff.2 c,o⟩]
def mB.br(c:mB B N μ H w)(h:fj μ H H'):mB B N μ H' w:=by
 have d:∀a y,H'.t.c a=some y->∃x,H.t.c a=some x/\(y=x\/∃m r,x=.aj m/\y=.aj r/\m.Perm r/\DK m):=by
  intro a y q;rcases h.c a with e | ⟨_,m,r,z,v,E⟩
  all_goals grind
 refine⟨c.ak,c.ac,λa x i l u n=>?_,by rw[h.b];exact c.ah,c.aa,λa l=>?_,λa x i u n=>?_,c.aj,λa b x y i j u q n K l J e=>?_,λa x t p=>?_⟩
 .obtain⟨y,q,k⟩:=d a x u;obtain⟨g,s,D⟩:=c.aw a y i l q n;rcases k with rfl | ⟨m,r,rfl,rfl,_⟩
  .simp_all
  .exact⟨g,rfl,rfl⟩
 .rw[h.b]at l;obtain⟨g,s⟩:=c.r a l;refine⟨g,?_⟩;rcases h.c a with e | ⟨_,m,r,z,_⟩
  all_goals simp_all
 .obtain⟨y,q,k⟩:=d a x u;obtain⟨o,g,s⟩:=c.am a y i q n;refine⟨o,g,?_⟩;rcases k with rfl | ⟨m,r,rfl,rfl,p,F⟩
  .exact s
  .obtain⟨I,f,L,z,v,E⟩:=s;refine⟨I,f,L,z,?_,E⟩;rcases v with rfl | ⟨v,_⟩
   .exact .inr ⟨p.symm,F.c p⟩
   .exact .inr ⟨p.symm.trans v,F.c p⟩
 .obtain⟨M,A,_⟩:=d a x u;obtain⟨P,C,_⟩:=d b y q;exact c.inj a b M P i j A C n K l J e
 .obtain⟨g,s,D⟩:=c.ax a x t p;refine⟨g,?_,D⟩;rcases h.c a with e | ⟨⟨i,n⟩,_⟩
  all_goals simp_all
def zim(W:nG P C)(d:B<=C.a)(U:mB B N μ z w){e:mD}{ρ:Operand->Value}(r:jG μ e ρ){o:Oper}{u:dP}{n:RE}(c:Fa o.op e=some u)(f:hZ C u=some n)
  (h3:Fs C z n=some H') (h4:∀b k v,n=.up b k v->∃m,z.t.c b=some (.aj m)/\Nat.blt b C.a=false/\(∀p∈m,kJ k p.1=some false)/\H'=A7 z b (.aj (m++[(k,v)]))) :
  nU P B N μ w ρ o aD H'/\∃i,μ n.a=some i:=by
 obtain⟨a6,op,a1,a8,s,y⟩:=o;have q:∀ {t:Nat} {m k x:Operand},(ob (ev m e) λm=>ob (ev k e) λk=>ob (ev x e) λv=>some (dP.c t m k v))=some u->Hx t m k x C e z=.aa aD H'/\∃i,μ n.a=some i:=by
  intro t m k x c;simp only[pA]at c;obtain⟨mv,Z,kv,hk,R,Q,c⟩:=c;cases c;simp only[hZ,pA,qB,B2]at f;obtain⟨ty,g,ke,K,a7,j,⟨J,h⟩,b,D,f⟩:=f;cases f;obtain⟨l,hl,E,H,rfl⟩:=h4 b kv R rfl;have F:zN z b=some l:=by unfold zN;rw[hl];rfl
  constructor
  .unfold Hx;simp only[g,K,j,J,Z,D,E,F,hk,h,Q,mA,tB,cond_true,K4,CB H];rfl
  .have:=r _ _ Z;rw[Zu]at D;subst D;rw[rA]at this;obtain⟨i,I,_⟩:=this;exact⟨i,I⟩
 cases op<;>try (cases c;done)
 case insert t m k x=>
  obtain⟨S,T⟩:=q c;exact⟨(Yc (P:=P) W d U r S).2,T⟩
 case mapUpdate t m k x=>
  obtain⟨S,T⟩:=q c
  grind [Yc]
 case store t a x=>
  simp only[Fa,pA]at c;obtain⟨av,X,R,Q,c⟩:=c;cases c;simp only[hZ,pA,qB]at f;obtain⟨ty,g,p,L,M,f⟩:=f;cases f;constructor
  .refine OZ (P:=P) W d U r ?_;unfold Td;have A:kK C z p.1 p.2 R.s=some H':=h3;simp only[g,X,L,Q,mA,M,tB,cond_true,A];rfl
  .have:=r _ _ X;rw[Lu]at L;subst L;rw[rA]at this;obtain⟨i,I,_⟩:=this;exact⟨i,I⟩
end
end
section
variable {f:List Nat}
section
variable {P:Program}{C:fA}{B N:Nat}{μ:Mu}{H H' y:sA}{w:World}{all:Array Oper}{olds:List (Nat × List Nat)}{r:G Nat}{n:Nat}{old tm tm':Tm}{D D' s:Nat}{S:Nat->Bool}{q:List Nat}{tmps:Array Value}{ds:List Deferred}{dp:Nat}
variable {b:Frame}{k:List Item}{cs:List Frame}
def bG.aw(h:∀k,tb D k=tb D' k)(R:bG μ all olds r n old tm D S q tmps):bG μ all olds r n old tm D' S q tmps:=by
 have e:tb D=tb D':=funext h;exact⟨R.r,R.p,λi b=>by rw[<- h];exact R.z i b,R.m,by rw[<- e];exact R.l,R.q,R.aj,R.s,λd a g=>R.aa d a λi o c f=>by simp_all,R.ah⟩
def dI.a(h:∀k,tb D k=tb D' k)(p:dI C μ dp H all olds n old tm D S):dI C μ dp H all olds n old tm D' S:=λi a=>p i (by simp_all)
def LF{g:Type}{R:g->g->Prop}(j:∀a b,R a b->R b a):∀ {l:List g},l.Pairwise R->∀a∈l,∀b∈l,a≠b->R a b
 | [],_,a,c,_,_,_=>by cases c
 | x::l,h,a,c,b,i,f=>by
  rw[List.pairwise_cons]at h;rcases C3.1 c with rfl | d
  .grind
  .rcases C3.1 i with rfl | e
   .simp_all
   .exact LF j h.2 a d b e f
def ztm{l m:List Nat}(a:l.Nodup)(b:m.Nodup)(h:∀i,i∈l ↔ i∈m):l.Perm m:=(List.perm_ext_iff_of_nodup a b).2 h
theorem zm3{o:Oper}(a:Sz o.op=true)(f:Xo C o=true)(e:mD)(i:sA):(kG o.op).f C e H=(kG o.op).f C e i:=by
 obtain⟨j,n,h,p,b,d⟩:=o;cases n<;>try (cases a;done)
 rename_i c;simp only[Sz]at a;split at a
 case h_2=>cases a
 rename_i g;simp only[Xo,g]at f;simp only[kG,ux,g,bW,Xp,kT]
 cases l:lD c.argTypes.toList 0 with
 | none=>rfl
 | some t=>
  rw[l,mA]at f;simp only[mA]
  cases s:lD c.args.toList 0 with
  | none=>rfl
  | some x=>
   simp only[mA]
   cases m:C.b.c t with
   | none=>rfl
   | some q=>
    rw[m]at f;simp only[mA]
    cases r:ev x e with
    | none=>rfl
    | some v=>
     simp only[mA];have k:Nat.beq q.a.l 6=false:=by simp_all
     unfold qY;split
     .rfl
     .split
      .rfl
      .split
       .rfl
       .split
        .rw[k];rfl
        .rfl
def LA (p:GV all r D f s)(a:Cb C all=true){d:Nat}{seq:List Nat}(l:∀k,tb d k=(tb D k||decide (k∈seq)))(o:∀i∈seq,S i=true){g:Nat}(y:g∈f)(v:∀k,tb (gK r g) k=true->S k=true)
  (t:dI C μ dp H all olds n old tm d S) (e:sA):dI C μ dp e all olds n old tm d S:=by
 intro j c m;rcases t j c m with⟨u,x,w,b⟩ | h
 .refine .inl ⟨u,x,w,?_⟩;rw[l]at c;simp only[G7,decide_eq_true_eq]at c;rcases c with c | c
  .rcases p.c j u b.f c with h | h | h | h
   .exact b.p h e
   .exact b.m h e
   .refine⟨b.f,b.a,?_,b.c⟩;have q:Xo C u=true:=by
     unfold Cb at a;rw[gI,C9]at a;exact a u (O9 (by simpa using b.f))
    have:=b.b
    grind [zm3]
   simp_all
  simp_all
 simp_all
def znk(hT:nG P C)(Z:B<=C.a) (L:GV all r D f s)(ae:Cb C all=true){ef:Nat->dP}{F:Nat->RE}(ah:∀i∈f,Cl all old olds tm i=some (ef i)/\hZ C (ef i)=some (F i))
  (ac:(f.map F).Pairwise vW) (ak:∀i∈f,Ur C H (F i)):∀(q:List Nat) (S:Nat->Bool) (tmps:Array Value) (μ:Mu) (w:World) (seq:List Nat) (E:sA) (v:Nat),
  seq.Nodup->(∀i∈seq,i∈f/\S i=true)->bP C H (seq.map F) E->(∀i∈seq,∃j,μ (F i).a=some j)->(∀k,tb v k=(tb D k||decide (k∈seq)))->mB B N μ E w →
  bG μ all olds r n old tm v S q tmps->dI C μ dp E all olds n old tm v S →
  ∃(K:Nat->Bool) (l:List Nat) (p:Array Value) (m:Mu) (w':World) (t:List Nat) (z:sA),Steps P (lone (b.atR ⟨tmps,ds⟩ (.inRegion all q::k)) cs w) (lone (b.atR ⟨p,ds⟩ (.inRegion all l::k)) cs w')/\Below N w w'/\μ.l m/\(∀d,d≠dp->μ.t d m) ∧
   t.Perm f/\bP C H (t.map F) z/\(∀i∈t,∃j,m (F i).a=some j)/\mB B N m z w'/\bG m all olds r n old tm s K l p/\dI C m dp z all olds n old tm s K/\(∀i∈t,K i=true):=by
 have al:∀i∈f,∀j∈f,i≠j->vW (F i) (F j):=by
  rw[List.pairwise_map]at ac;exact LF (λa b h=>h.d) ac
 have af:∀(q:List Nat) (S:Nat->Bool) (tmps:Array Value) (μ:Mu) (w:World) (seq:List Nat) (E:sA) (v:Nat),
  seq.Nodup->(∀i∈seq,i∈f/\S i=true)->bP C H (seq.map F) E->(∀i∈seq,∃j,μ (F i).a=some j)->(∀k,tb v k=(tb D k||decide (k∈seq)))->mB B N μ E w →
  bG μ all olds r n old tm v S q tmps->dI C μ dp E all olds n old tm v S->(∀i∈f,i∈seq) →
  ∃(K:Nat->Bool) (l:List Nat) (p:Array Value) (m:Mu) (w':World) (t:List Nat) (z:sA),Steps P (lone (b.atR ⟨tmps,ds⟩ (.inRegion all q::k)) cs w) (lone (b.atR ⟨p,ds⟩ (.inRegion all l::k)) cs w')/\Below N w w'/\μ.l m/\(∀d,d≠dp->μ.t d m) ∧
   t.Perm f/\bP C H (t.map F) z/\(∀i∈t,∃j,m (F i).a=some j)/\mB B N m z w'/\bG m all olds r n old tm s K l p/\dI C m dp z all olds n old tm s K/\(∀i∈t,K i=true):=by
  intro q S tmps μ w seq E v h1 Q h3 h4 W X y h8 h9;have hD:∀k,tb v k=tb s k:=λk=>by
   rw[W,L.a];grind
  exact⟨S,q,tmps,μ,w,seq,E,.refl _ _,Below.refl _ _,λ_ _ h=>h,λd _=>μ.z d,ztm h1 L.b λi=>⟨λh=>(Q i h).1,h9 i⟩,h3,h4,X,y.aw hD,h8.a hD,λi hi=>(Q i hi).2⟩
 intro q;induction q with
 | nil=>
  intro S tmps μ w seq E v h1 Q h3 h4 W X y h8;refine af _ S tmps μ w seq E v h1 Q h3 h4 W X y h8 λi hi=>?_;obtain⟨o,I,ap,_⟩:=L.e i hi;have:=y.z _ (y.p i (G3.1 I).1)
  simp_all
 | cons i q ih=>
  intro S tmps μ w seq E v h1 Q h3 h4 W X y h8;by_cases ab:∀i∈f,i∈seq
  .grind
  cases hi:tb v i with
  | true=>
   obtain⟨o,I,hS,hb,hs⟩:=y.p;obtain⟨K,p,μ1,w1,s1,g1,r1,p1,up⟩:=LC (b:=b) (k:=k) (cs:=cs) (ds:=ds) hT X y h8 hi;obtain⟨S2,l,A,μ2,w2,J,T,s2,b2,l2,d2,rest⟩:=ih K p μ1 w1 seq E v h1 (λj u=>⟨(Q j u).1,up j (Q j u).2⟩) h3 (λj u=>by obtain⟨x,R⟩:=h4 j u;exact⟨x,g1.g _ _ R⟩) W g1.b r1 p1;exact⟨S2,l,A,μ2,w2,J,T,.head s1 s2,g1.below.trans b2,λa x R=>l2 a x (g1.g a x R),λd hd=>Mu.r (g1.j d hd) (d2 d hd),rest⟩
  | false=>
   obtain⟨o,I,hS,hb,hs⟩:=y.p;have M:i∈f:=by
    cases ad:tb s i with
    | false=>
     exfalso;rcases L.d i o I ad with h | h
     .refine ab λg hg=>?_;have:=y.z g (y.r.f y.m I hb (h g hg));obtain⟨_,_,ao,_⟩:=L.e g hg
      grind
     .refine h λj u=>?_;have:=y.z j (hb j u);rw[W]at this;rw[L.a];grind
    | true=>
     rw[L.a]at ad;grind
   have ai:i∉seq:=λh=>by
    grind
   obtain⟨o',a6,_,_,am⟩:=L.e i M;rw[I]at a6;cases a6;obtain⟨U,e2⟩:=ah i M;unfold Cl at U;simp only[pA,qB,yI]at U;obtain⟨o',a6,wn,hw,a7,U⟩:=U;have:o'=o:=by
    grind
   subst this;subst a7;have a7:=y.y I hb hw;obtain⟨Hn,a1,a2,a3⟩:=h3.f (ak i M) (λx R=>by
    grind)
   obtain⟨hv,j0,aj⟩:=zim (P:=P) (o:=o') hT Z X (y.ak (ds:=ds) X.ac I hS hb) U e2 a1 a3;have ag:∀c,o'.op≠.defer c:=λc e=>by rw[e]at U;cases U
   obtain⟨v',w',m,s1,m1,m2,m3,m4⟩:=AJ (b:=b) (k':=k) (rest:=q) (cs:=cs) I a7 ag hv;have a8:∀k,tb (Nat.lor v (Fp i)) k=(tb v k||k == i):=λk=>by grind [Vo,Vp]
   have r1:=(y.ac m1.f).au (D':=Nat.lor v (Fp i)) (tm':=tm) I a8 (λd hd=>by grind) (λ_ _=>rfl) m4 (ds:=ds);have p0:=LA L ae W (λj u=>(Q j u).2) M (λk hk=>y.r.f y.m I hb hk) h8 Hn;have p1:dI C m dp Hn all olds n old tm (Nat.lor v (Fp i)) (λk=>S k||k == i):=by
    intro j u aa;rw[a8]at u;simp only[Z4,G7]at u aa;exact(dI.b (m1.b dp) p0) j (u.resolve_right (by grind)) aa.1
   obtain⟨S2,l,A,μ2,w2,J,T,s2,b2,l2,d2,rest⟩:=ih (λk=>S k||k == i) (Act.put ⟨tmps,ds⟩ o'.dst v').tmps m w' (seq++[i]) Hn (Nat.lor v (Fp i))
    (by grind)
    (λj u=>by
     grind)
    (by grind)
    (λj u=>by
     rcases F5.1 u with u | u
     .obtain⟨x,R⟩:=h4 j u;exact⟨x,m1.f _ _ R⟩
     .simp at u;subst u;exact⟨j0,m1.f _ _ aj⟩)
    (λk=>by
     grind)
    m2 r1 p1
   exact⟨S2,l,A,μ2,w2,J,T,.head s1 s2,m3.trans b2,λa x R=>l2 a x (m1.f a x R),λd hd=>Mu.r (m1.b d) (d2 d hd),rest⟩
end
end
end Go.Am
