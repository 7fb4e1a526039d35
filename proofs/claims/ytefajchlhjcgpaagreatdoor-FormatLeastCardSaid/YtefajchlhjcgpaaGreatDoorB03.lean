/- A plan that is true to its region. -/
import Derived.AtR
import Derived.Test.YtefajchlhjcgpaaGreatDoorB02
set_option linter.all false
noncomputable section
namespace Go.Am
open Go Go.RowKit
section
variable {anc t:Tr Nat}{D i k m:Nat}{ops:Array Oper}{st:vG}{r:List vG}{G:List Nat}
def zkr(m i:Nat):tb m i=m.testBit i:=by
 have h:Nat.mod (Nat.shiftRight m i) 2=(m >>> i)%2:=rfl
 unfold tb;show Nat.beq ((m >>> i)%2) 1=_
 rw[Nat.testBit,Nat.and_comm,Nat.and_one_is_mod];rcases Nat.mod_two_eq_zero_or_one (m >>> i)with h | h<;>rw[h]<;>rfl
theorem Pu(i j:Nat):tb (Bj i) j=(i == j):=by
 rw[zkr];show(1 <<< i).testBit j=_
 rw[Nat.one_shiftLeft,Nat.testBit_two_pow]
 cases h:(i == j)<;>simp_all
theorem Pt(a b j:Nat):tb (Nat.lor a b) j=(tb a j||tb b j):=by
 simp_all [zkr]
theorem Ps(j:Nat):tb 0 j=false:=by rw[zkr];simp
theorem Jp(e:Edge):Gn e=Region.binds .any e:=by
 unfold Gn Region.binds
 cases e.ground<;>rfl
def yZ(ops:Array Oper)(S:Nat->Bool):Prop:=∀i o,ops[i]?=some o->S i=true->∀j,fL o j->S j=true
def zoc(ops:Array Oper)(k m:Nat):Prop:=∀S,yZ ops S->(∀o,ops[k]?=some o->∀j,fL o j->S j=true)->∀j,tb m j=true->S j=true
def zbi {j:Nat}:∀ {l:List Edge},tb (Im t l) j=true->∃e∈l,Region.binds .any e=true/\(e.on=j\/tb (tJ t e.on) j=true):=by
 intro l;induction l with
 | nil=>grind [Im,Ps]
 | cons e l ih=>
  grind [Im,Pt,Pu,Jp]
def zf3   : tJ (t.set i m) k=if k=i then m else tJ t k:=by
 unfold tJ;rw[Tr.get_set];by_cases h:k=i<;>simp[h]
theorem zb6  : tJ .leaf k=0:=rfl
def iW{α:Type}{l r:List α}{a:α} (h:a::r=l.drop i):l[i]?=some a/\r=l.drop (i+1):=by
 have h1:(l.drop i)[0]?=some a:=by grind
 rw[yde]at h1;refine⟨by omega,?_⟩
 have:r=(l.drop i).drop 1:=by grind
 rw[this,List.drop_drop]
def zhb  : ∀(r:List Oper) (i:Nat) (t:Tr Nat),r=ops.toList.drop i->(∀k,zoc ops k (tJ t k))->∀k,zoc ops k (tJ (zn7 r i t) k):=by
 intro r;induction r with
 | nil=>intro i t _ h k;exact h k
 | cons o r ih=>
  intro i t hr h;obtain⟨h1,h2⟩:=iW hr
  refine ih (i+1) _ h2 fun k=>?_
  rw[zf3];split
  ·rename_i e;subst e
   intro S hS hp j hj;obtain⟨e,he,hb,hj⟩:=zbi hj
   have ho:ops[k]?=some o:=by simp_all
   have hon:=hp o ho e.on ⟨e,he,hb,rfl⟩
   rcases hj with rfl | hj
   ·exact hon
   ·exact h e.on S hS (fun o' ho'=>hS _ o' ho' hon) j hj
  grind
def zbf  : ∀(r:List Oper) (i:Nat),r=ops.toList.drop i->Rg r i=true->∀k o,i<=k->ops[k]?=some o->∀j,fL o j->j<k:=by
 intro r;induction r with
 | nil=>
  grind [List.drop_eq_nil_iff]
 | cons o r ih=>
  intro i hr h k o' hk ho;obtain⟨h1,h2⟩:=iW hr
  unfold Rg at h;rw[rD]at h;split at h
  ·rename_i h3
   rcases Nat.eq_or_lt_of_le hk with rfl | hk
   ·have:o'=o:=by
     simp_all
    subst this;rintro j ⟨e,he,hb,rfl⟩
    grind [vI,Jp,nC]
   grind
  ·cases h
def WrOk (ops:Array Oper)(i:Nat)(wr:Tr Nat):Prop:=∀d k,wr.get d=some k ↔ k<i/\∃o,ops[k]?=some o/\o.dst=some d
def zkc  : ∀(r:List Oper) (i:Nat) (t wr:Tr Nat),r=ops.toList.drop i->i<=ops.size->WrOk ops i t->wrOf r i t=some wr->WrOk ops ops.size wr:=by
 intro r;induction r with
 | nil=>
  intro i t wr hr hi h he
  cases he;grind [List.drop_eq_nil_iff]
 | cons o r ih=>
  intro i t wr hr hi h he;obtain⟨h1,h2⟩:=iW hr
  have ho:ops[i]?=some o:=by simp_all
  have hi':i<ops.size:=(ybe.1 ho).1
  unfold wrOf at he
  cases hd:o.dst with
  | none=>
   rw[hd]at he;refine ih (i+1) t wr h2 hi' (fun d k=>?_) he
   rw[h d k];grind
  | some d0=>
   rw[hd]at he;simp only[]at he
   cases hg:t.get d0 with
   | some x=>simp_all
   | none=>
    rw[hg]at he;refine ih (i+1) _ wr h2 hi' (fun d k=>?_) he
    rw[Tr.get_set];by_cases hdd:d=d0
    ·subst hdd
     rw[yab rfl];constructor
     ·grind
     ·rintro⟨a,o',ho',hd'⟩
      rcases Nat.lt_succ_iff_lt_or_eq.1 a with a | rfl
      ·have:=(h d k).2 ⟨a,o',ho',hd'⟩
       simp_all
      ·rfl
    ·rw[yaa hdd,h d k]
     grind
def zex {wr:Tr Nat}{olds:List (Nat × List Nat)}:∀(r:List Oper) (i:Nat),r=ops.toList.drop i->Re wr anc olds r i=true →
  ∀k o,i<=k->ops[k]?=some o->Yp (tJ anc k) o.guard=true/\∀t∈jH o.op,Yo wr anc k (vF k olds) t=true:=by
 intro r;induction r with
 | nil=>
  grind [List.drop_eq_nil_iff]
 | cons o r ih=>
  intro i hr h k o' hk ho;obtain⟨h1,h2⟩:=iW hr
  unfold Re at h;rw[rD]at h;split at h
  ·rename_i h3
   rw[rD]at h;split at h
   ·rename_i h4
    rcases Nat.eq_or_lt_of_le hk with rfl | hk
    all_goals grind [vI]
   ·cases h
  ·cases h
structure xX (ops:Array Oper) (olds:List (Nat × List Nat)) (anc:Tr Nat):Prop where
 back:Back ops
 before:∀k,zoc ops k (tJ anc k)
 one:∀(i j:Nat) (o u:Oper) (d:Nat),ops[i]?=some o->ops[j]?=some u->o.dst=some d->u.dst=some d->i=j
 guard:∀(k:Nat) (o:Oper),ops[k]?=some o->Yp (tJ anc k) o.guard=true
 name:∀(k:Nat) (o:Oper) (j:Nat) (u:Oper) (t:Nat),ops[k]?=some o->ops[j]?=some u->u.dst=some t->t∈jH o.op->if t∈vF k olds then j=k\/tb (tJ anc j) k=true else tb (tJ anc k) j=true
def zbd {p:Plan}(h:tU ops p=true):∃anc D,xX ops p.olds anc/\vQ ops.toList p.first 0=some D/\oJ ops.toList anc p.stages D=true:=by
 change Yn ops.toList p=true at h
 unfold Yn at h;rw[rD]at h;split at h
 case isFalse=>cases h
 rename_i hb
 cases hw:wrOf ops.toList 0 .leaf with
 | none=>simp_all
 | some wr=>
  rw[hw]at h;simp only[]at h;rw[rD]at h;split at h
  case isFalse=>cases h
  rename_i ho
  cases hl:vQ ops.toList p.first 0 with
  | none=>simp_all
  | some D=>
   rw[hl]at h;have wo:WrOk ops ops.size wr:=zkc _ 0 _ _ rfl (yaw _) (fun d k=>by simp[Tr.get_leaf]) hw
   have oo:=zex _ 0 (by rfl) ho
   have wr':∀k o d,ops[k]?=some o->o.dst=some d->wr.get d=some k:=fun k o d h1 h2=>(wo d k).2 ⟨(ybe.1 h1).1,o,h1,h2⟩
   refine⟨_,D,⟨fun i o h1=>zbf _ 0 rfl hb i o (yaw _) h1,zhb _ 0 _ rfl fun k S _ _ j hj=>?_,?_,fun k o h1=>(oo k o (yaw _) h1).1,?_⟩,rfl,h⟩
   all_goals grind [zb6,Ps,Yo,Aa,fC]
def Mf {D':Nat}(h:fX ops.toList i D=some D'):∃o,ops[i]?=some o/\tb D i=false/\(∀j,fL o j->tb D j=true)/\∀k,tb D' k=(tb D k||k == i):=by
 unfold fX at h;rw[sA]at h;obtain⟨o,h1,h2⟩:=h
 rw[lG]at h1;rw[vB]at h2;obtain⟨h2,h3⟩:=h2
 cases h3;rw[rD]at h2;split at h2
 ·cases h2
 ·rename_i h4
  refine⟨o,by simp_all,by simp_all,?_,fun k=>by grind [Pt,Pu]⟩
  rintro j ⟨e,he,hb,rfl⟩
  grind [tZ,vI,Jp]
def zbe {h:Nat}:∀(r:List Oper) (i:Nat),r=ops.toList.drop i->Rf h D r i=true →
  ∀k o,i<=k->ops[k]?=some o->tb D k=false->(∀j,fL o j->tb D j=true)->k=h:=by
 intro r;induction r with
 | nil=>
  grind [List.drop_eq_nil_iff]
 | cons o r ih=>
  intro i hr h k o' hk ho;obtain⟨h1,h2⟩:=iW hr
  unfold Rf at h;rw[rD]at h;split at h
  ·rename_i h3
   rcases Nat.eq_or_lt_of_le hk with rfl | hk
   ·have:o'=o:=by
     simp_all
    subst this;intro hD hj;rw[hD]at h3;simp only[cond_false]at h3;rw[rD]at h3;split at h3
    ·simp_all
    ·exfalso
     have:tZ D o'=true:=by
      unfold tZ;rw[vI,ycb];intro e he
      cases hb:Gn e with
      | false=>rfl
      | true=>exact hj e.on ⟨e,he,by grind [Jp],rfl⟩
     simp_all
   grind
  ·cases h
def VQ  {again:List Nat}:∀(r:List Oper) (i:Nat),r=ops.toList.drop i->Rj m D again r i=true →
  ∀k o,i<=k->ops[k]?=some o->tb D k=true->tb m k=true\/xU o.op=true\/lL o.op=true\/k∈again:=by
 intro r;induction r with
 | nil=>
  grind [List.drop_eq_nil_iff]
 | cons o r ih=>
  intro i hr h k o' hk ho;obtain⟨h1,h2⟩:=iW hr
  unfold Rj at h;rw[rD]at h;split at h
  ·rename_i h3
   rcases Nat.eq_or_lt_of_le hk with rfl | hk
   all_goals grind [Aa]
  ·cases h
def zey   : ∀(r:List Oper) (i:Nat),r=ops.toList.drop i->Rh D r i=true->∀k,i<=k->k<ops.size->tb D k=true:=by
 intro r;induction r with
 | nil=>
  grind [List.drop_eq_nil_iff]
 | cons o r ih=>
  intro i hr h k hk ho;obtain⟨h1,h2⟩:=iW hr
  unfold Rh at h;rw[rD]at h;split at h
  ·rename_i h3
   rcases Nat.eq_or_lt_of_le hk with rfl | hk
   all_goals grind
  ·cases h
def VM   (h:oJ ops.toList anc [] D=true):∀k,k<ops.size->tb D k=true:=
 fun k hk=>zey _ 0 rfl h k (yaw _) hk
def Rc     (h:oJ ops.toList anc (st::r) D=true)(hlt:st.heavy<=ops.size) :
  (∀k o,ops[k]?=some o->tb D k=false->(∀j,fL o j->tb D j=true)->k=st.heavy) ∧
  (∀k o,ops[k]?=some o->tb D k=true->tb (tJ anc st.heavy) k=true\/xU o.op=true\/lL o.op=true\/k∈st.again) ∧
  ∃D1 D2,fX ops.toList st.heavy D=some D1/\vQ ops.toList st.lights D1=some D2/\oJ ops.toList anc r D2=true:=by
 unfold oJ at h;rw[rD,yaa fun e=>by grind [nC,lD],rD]at h;split at h
 case isFalse=>cases h
 rename_i h1;rw[rD]at h;split at h
 case isFalse=>cases h
 rename_i h2;refine⟨fun k o a b c=>zbe _ 0 rfl h1 k o (yaw _) a b c,fun k o a b=>VQ _ 0 rfl h2 k o (yaw _) a b,?_⟩
 cases h3:fX ops.toList st.heavy D with
 | none=>simp_all
 | some D1=>
  grind [qA]
def VO     (h:oJ ops.toList anc (st::r) D=true)(hlt:ops.size<st.heavy)(hle:st.heavy<=ops.size+ops.size) :
  ∃o D1 D2,ops[st.heavy-(ops.size+1)]?=some o/\lL o.op=true/\fX ops.toList (st.heavy-(ops.size+1)) D=some D1/\vQ ops.toList st.lights D1=some D2/\oJ ops.toList anc r D2=true:=by
 have e0:Nat.sub st.heavy (Nat.succ (aA ops.toList))=st.heavy-(ops.size+1):=by rw[lD];simp
 unfold oJ at h;rw[rD,yab (nC.2 (by grind [lD])),rD,yaa (fun e=>by grind [nC]),rD,e0]at h
 split at h
 case isFalse=>cases h
 rename_i h1
 cases h3:fX ops.toList (st.heavy-(ops.size+1)) D with
 | none=>simp_all
 | some D1=>
  rw[h3]at h;simp only[qA]at h
  cases h4:vQ ops.toList st.lights D1 with
  | none=>simp_all
  | some D2=>
   rw[h4]at h;rw[lG]at h1
   cases ho:ops.toList[st.heavy-(ops.size+1)]? with
   | none=>grind
   | some o=>rw[ho]at h1;exact⟨o,D1,D2,by simp_all,h1,rfl,h4,h⟩
structure CL (ops:Array Oper) (anc:Tr Nat) (D:Nat) (G:List Nat) (D1:Nat):Prop where
 op:∀i∈G,∃o,ops[i]?=some o/\tb D i=false/\(∀j,fL o j->tb D j=true)/\o.dst=none
 nodup:G.Nodup
 done:∀k,tb D1 k=(tb D k||decide (k∈G))
 rest:∀k o,ops[k]?=some o->tb D1 k=false->(∀g∈G,tb (tJ anc k) g=true)\/¬ ∀j,fL o j->tb D1 j=true
 again:∀k o,ops[k]?=some o->tb D k=true->xU o.op=true\/lL o.op=true\/Nb o.op=true\/∀g∈G,tb (tJ anc g) k=true
theorem DJ {o:Oper}:tZ D o=true ↔ ∀j,fL o j->tb D j=true:=by
 unfold tZ;rw[vI,ycb];constructor
 ·rintro h j ⟨e,he,hb,rfl⟩
  grind [Jp]
 ·intro h e he
  cases hb:Gn e with
  | false=>rfl
  | true=>exact h e.on ⟨e,he,by grind [Jp],rfl⟩
def okG_ok   : ∀ {G:List Nat} {E D1:Nat},okG ops.toList D G E=some D1->(∀k,tb D k=true->tb E k=true) →
  (∀i∈G,∃o,ops[i]?=some o/\tb E i=false/\(∀j,fL o j->tb D j=true)/\o.dst=none)/\G.Nodup/\∀k,tb D1 k=(tb E k||decide (k∈G)):=by
 intro G;induction G with
 | nil=>intro E D1 h _;cases h;simp_all
 | cons i G ih=>
  intro E D1 h hDE;unfold okG at h;simp only[sA,vB,ybb,ycp,lG]at h;obtain⟨o,ho,⟨⟨h1,h2⟩,h3⟩,h⟩:=h
  have hE:∀k,tb (Nat.lor E (Bj i)) k=(tb E k||i == k):=fun k=>by rw[Pt,Pu]
  obtain⟨g1,g2,g3⟩:=ih h (fun k hk=>by simp_all)
  have hni:i∉G:=fun hi=>by
   grind
  refine⟨fun j hj=>?_,List.nodup_cons.2 ⟨hni,g2⟩,fun k=>?_⟩
  ·rcases ybs.1 hj with rfl | hj
   ·refine⟨o,by simp_all,h1,DJ.1 h2,?_⟩
    cases hd:o.dst with
    | none=>rfl
    | some d=>rw[hd]at h3;cases h3
   grind
  grind
def zbc  {D1:Nat}  : ∀(r:List Oper) (i:Nat),r=ops.toList.drop i->Rd anc D1 G r i=true →
  ∀k o,i<=k->ops[k]?=some o->tb D1 k=false->(∀g∈G,tb (tJ anc k) g=true)\/¬ ∀j,fL o j->tb D1 j=true:=by
 intro r;induction r with
 | nil=>
  grind [List.drop_eq_nil_iff]
 | cons o r ih=>
  intro i hr h k o' hk ho;obtain⟨h1,h2⟩:=iW hr
  unfold Rd at h;rw[rD]at h;split at h
  case isFalse=>cases h
  rename_i h3;rcases Nat.eq_or_lt_of_le hk with rfl | hk
  all_goals grind [vI,DJ]
def VR     : ∀(r:List Oper) (i:Nat),r=ops.toList.drop i->Ri anc D G r i=true →
  ∀k o,i<=k->ops[k]?=some o->tb D k=true->xU o.op=true\/lL o.op=true\/Nb o.op=true\/∀g∈G,tb (tJ anc g) k=true:=by
 intro r;induction r with
 | nil=>
  grind [List.drop_eq_nil_iff]
 | cons o r ih=>
  intro i hr h k o' hk ho;obtain⟨h1,h2⟩:=iW hr
  unfold Ri at h;rw[rD]at h;split at h
  case isFalse=>cases h
  rename_i h3;rcases Nat.eq_or_lt_of_le hk with rfl | hk
  all_goals grind [vI]
def VN     (h:oJ ops.toList anc (st::r) D=true)(hlt:ops.size+ops.size<st.heavy) :
  ∃D1 D2,CL ops anc D st.again D1/\vQ ops.toList st.lights D1=some D2/\oJ ops.toList anc r D2=true:=by
 unfold oJ at h;rw[rD,yab (nC.2 (by grind [lD])),rD,yab (nC.2 (by grind [lD]))]at h
 split at h
 case h_2=>cases h
 rename_i D2 hg;unfold II at hg;simp only[sA,vB,ybb]at hg;obtain⟨D1,h1,⟨h2,h3⟩,h4⟩:=hg
 obtain⟨g1,g2,g3⟩:=okG_ok h1 fun _ h=>h
 exact⟨D1,D2,⟨g1,g2,g3,fun k o a b=>zbc _ 0 rfl h2 k o (yaw _) a b,fun k o a b=>VR _ 0 rfl h3 k o (yaw _) a b⟩,h4,h⟩
end
section
variable {i j:Nat}{v:zA}{o:Oper}
section
variable {P:Program}{C:lA}{μ:Mu}{all:Array Oper}{olds:List (Nat × List Nat)}{anc:Tr Nat}{n:Nat}{old tm:Tm}{D:Nat}{S:Nat->Bool}{order:List Nat}{tmps:Array Value}{ds:List Deferred}
def Pf:uA μ pD undef:=by rw[pD,uA];exact⟨#[],rfl,rfl⟩
def OE{e:vD}(hg:∀g,g<256->μ g=some ⟨g,true,0,0,true⟩)(ht:∀t v,qX t e=some v->uA μ v (tmps.getD t undef)):oF μ e (Act.eval ⟨tmps,ds⟩):=by
 intro x v h
 cases x with
 | tmp t=>exact ht t v h
 | const c=>exact VS h
 | global g=>
  change Uo g e=some v at h
  unfold Uo at h;rw[rD]at h;split at h
  ·rename_i hlt
   cases h;rw[uA];exact⟨_,hg g (nC.1 hlt),rfl⟩
  ·cases h
 | func f=>
  change xFunc f e=some v at h
  cases h;rw[uA];exact⟨.func f,#[],#[],rfl,rfl,rfl,rfl⟩
theorem dE.erel(hg:∀g,g<256->μ g=some ⟨g,true,0,0,true⟩)(h:dE μ n tm tmps):oF μ (.now tm) (Act.eval ⟨tmps,ds⟩):=
 OE hg fun t v hv=>h.2 t v hv
theorem Tm.get_set{t:Tm} {x:zA}:(t.set i x).get j=if j=i then some x else t.get j:=by
 unfold Tm.set Tm.get;simp only[dJ];by_cases h:Nat.blt i t.k=true
 ·grind [Tr.get_set]
 ·rw[yaa h]
  grind [assoc,dJ,fC]
theorem eI{dst:Option Nat} {t:Nat}:(putA n tm dst v).get t=if dst=some t/\t<n then some v else tm.get t:=by
 unfold putA putB
 cases dst with
 | none=>simp[putNo]
 | some d=>
  grind [Hz,Tm.get_set,nC]
def iR(tm old:Tm)(olds:List (Nat × List Nat))(i:Nat)(o:Oper):vD:=.mixed tm old (vF i olds) (jH o.op)
structure jF (μ:Mu) (all:Array Oper) (olds:List (Nat × List Nat)) (anc:Tr Nat) (n:Nat) (old tm:Tm) (D:Nat) (S:Nat->Bool) (order:List Nat) (tmps:Array Value):Prop where
 reg:xX all olds anc
 sched:zhf all S order
 sub:∀i,S i=true->tb D i=true
 closed:yZ all S
 dclosed:yZ all (tb D)
 size:tmps.size=n
 now:∀(i:Nat) (o:Oper) (d:Nat) (v:zA),all[i]?=some o->o.dst=some d->S i=true->d<n->tm.get d=some v->uA μ v (tmps.getD d undef)
 past:∀(d:Nat) (v:zA),d<n->(∀(i:Nat) (o:Oper),all[i]?=some o->o.dst=some d->S i=false)->old.get d=some v->uA μ v (tmps.getD d undef)
 keep:∀d:Nat,d<n->(∀(i:Nat) (o:Oper),all[i]?=some o->o.dst=some d->tb D i=false)->tm.get d=old.get d
 big:∀(d:Nat) (v:zA),n<=d->(tm.get d=some v\/old.get d=some v)->uA μ v undef
theorem xX.up(R:xX all olds anc)(hS:yZ all S)  (ho:all[i]?=some o)(hp:∀j,fL o j->S j=true)(h:tb (tJ anc i) j=true):S j=true:=
 R.before i S hS (fun o' ho'=>by simp_all) j h
theorem Ja{d:Nat}(h:tmps.size<=d):tmps.getD d undef=undef:=by
 simp_all
theorem jF.erel(R:jF μ all olds anc n old tm D S order tmps)(hg:∀g,g<256->μ g=some ⟨g,true,0,0,true⟩)  (ho:all[i]?=some o)(hi:S i=false)(hp:∀j,fL o j->S j=true) :
  oF μ (iR tm old olds i o) (Act.eval ⟨tmps,ds⟩):=by
 refine OE hg fun t v h=>?_
 unfold iR at h;simp only[qX]at h;rw[rD]at h;split at h
 case isFalse=>cases h
 rename_i hn;have hn:=(Aa _ _).1 hn
 by_cases hd:t<n
 ·by_cases hw:∃(j:Nat) (u:Oper),all[j]?=some u/\u.dst=some t
  ·obtain⟨j,u,hu,hud⟩:=hw
   have nm:=R.reg.name i o j u t ho hu hud hn
   by_cases hold:t∈vF i olds
   ·rw[yab hold]at nm
    rw[(Aa _ _).2 hold]at h
    simp only[cond_true]at h;have hj:S j=false:=by
     rcases nm with rfl | nm
     ·exact hi
     ·cases hj:S j with
      | false=>rfl
      | true=>
       have:=R.reg.up R.closed hu (fun k hk=>R.closed j u hu hj k hk) nm
       simp_all
    refine R.past t v hd (fun i' o' ho' hd'=>?_) h
    have:=R.reg.one i' j o' u t ho' hu hd' hud
    simp_all
   ·rw[yaa hold]at nm
    have:iH t (vF i olds)=false:=by
     grind [Aa]
    rw[this]at h;simp only[cond_false]at h;exact R.now j u t v hu hud (R.reg.up R.closed ho hp nm) hd h
  ·have none1:∀(i:Nat) (o:Oper),all[i]?=some o->o.dst=some t->S i=false:=fun i o h1 h2=>absurd ⟨i,o,h1,h2⟩ hw
   have k:=R.keep t hd fun i o h1 h2=>absurd ⟨i,o,h1,h2⟩ hw
   refine R.past t v hd none1 ?_
   grind
 ·rw[Ja (by rw[R.size];omega)]
  refine R.big t v (by omega) ?_
  grind
theorem CU {b:Bool}(h:uA μ v (.bool b)):v=.bool b:=by
 cases v<;>rw[uA]at h
 all_goals simp_all
theorem jF.wanted(R:jF μ all olds anc n old tm D S order tmps)  {w:Bool}(ho:all[i]?=some o)(hp:∀j,fL o j->S j=true)(h:kF o.guard all tm=some w) :
  Region.wanted o (yielded all tmps)=w:=by
 have hgd:=R.reg.guard i o ho
 unfold kF Kq at h;unfold Region.wanted
 cases hg:o.guard with
 | none=>rw[hg]at h;cases h;rfl
 | some jw=>
  obtain⟨j,want⟩:=jw
  rw[hg]at h hgd;simp only[Kp,sA,lG]at h;obtain⟨d,⟨u,hu,hud⟩,v,hv,h⟩:=h
  have hu':all[j]?=some u:=by simp_all
  have hj:S j=true:=R.reg.up R.closed ho hp hgd
  have hy:yielded all tmps j=match tmps[d]? with | some (.bool b)=>some b | _=>none:=by
   grind [yielded]
  simp only[];rw[hy];by_cases hd:d<n
  ·have hs:d<tmps.size:=by rw[R.size];exact hd
   have rel:=R.now j u d v hu' hud hj hd hv
   have e1:tmps[d]?=some (tmps.getD d undef):=by simp_all
   rw[e1];generalize tmps.getD d undef=x at rel
   cases hb:v.asBool with
   | some b=>
    rw[hb]at h;have:v=.bool b:=by cases v<;>simp[zA.asBool]at hb;rw[hb]
    rw[this,uA]at rel;subst rel;simp only[Option.some.injEq]at h;rw[<- h,xV]
    cases b<;>cases want<;>rfl
   | none=>
    rw[hb]at h
    cases h
    cases x with
    | bool b=>rw[CU rel]at hb;cases hb
    | _=>rfl
  ·have e1:tmps[d]?=none:=by simp[R.size];omega
   rw[e1];have rel:=R.big d v (by omega) (.inl hv)
   cases hb:v.asBool with
   | some b=>
    have:v=.bool b:=by cases v<;>simp[zA.asBool]at hb;rw[hb]
    rw[this,uA]at rel
    cases rel
   | none=>simp_all
theorem jF.did {D':Nat}{tm':Tm} {v':Value} (R:jF μ all olds anc n old tm D S (i::order) tmps)(ho:all[i]?=some o)
  (hD:∀k,tb D' k=(tb D k||k == i)) (hput:∀d,o.dst=some d->d<n->tm'.get d=some v) (hother:∀d,(o.dst=some d->n<=d)->tm'.get d=tm.get d) (hv:uA μ v v') :
  jF μ all olds anc n old tm' D' (fun k=>S k||k == i) order (Act.put ⟨tmps,ds⟩ o.dst v').tmps:=by
 obtain⟨o',ho',hi,hp,hs⟩:=R.sched
 rw[ho]at ho';cases ho'
 have htm:∀d,(Act.put ⟨tmps,ds⟩ o.dst v').tmps.getD d undef=if o.dst=some d/\d<n then v' else tmps.getD d undef:=by
  intro d;unfold Act.put
  cases hd:o.dst with
  | none=>simp
  | some d0=>
   simp only[ycx,ycs];by_cases e:d0=d
   ·subst e
    by_cases hn:d0<n
    ·simp[hn,R.size]
    ·simp[hn,R.size]
   grind
 have hsz:(Act.put ⟨tmps,ds⟩ o.dst v').tmps.size=n:=by
  unfold Act.put
  cases o.dst<;>simp[R.size]
 refine⟨R.reg,hs,fun k hk=>?_,?_,?_,hsz,?_,?_,?_,?_⟩
 ·rw[hD]
  simp only[ycq]at hk ⊢
  exact hk.imp (R.sub k) id
 ·intro k u hu hk j hj
  simp only[ycq,beq_iff_eq]at hk ⊢
  rcases hk with hk | rfl
  ·exact .inl (R.closed k u hu hk j hj)
  simp_all
 ·intro k u hu hk j hj
  rw[hD]at hk ⊢
  simp only[ycq,beq_iff_eq]at hk ⊢
  rcases hk with hk | rfl
  ·exact .inl (R.dclosed k u hu hk j hj)
  ·rw[ho]at hu;cases hu
   exact .inl (R.sub j (hp j hj))
 ·intro k u d x hu hud hk hd hx
  rw[htm];by_cases e:o.dst=some d
  ·simp_all
  ·rw[yaa fun h=>e h.1]
   rw[hother d fun h=>absurd h e]at hx;refine R.now k u d x hu hud ?_ hd hx
   grind
 ·intro d x hd hw hx
  rw[htm];have e:o.dst≠some d:=fun e=>by
   grind
  rw[yaa fun h=>e h.1];refine R.past d x hd (fun k u hu hud=>?_) hx
  simp_all
 ·intro d hd hw
  have e:o.dst≠some d:=fun e=>by
   grind
  rw[hother d fun h=>absurd h e];refine R.keep d hd fun k u hu hud=>?_
  simp_all
 ·intro d x hd hx
  refine R.big d x hd ?_
  simp_all
end
end
end Go.Am
namespace Go.Am.HM
open Go Go.Am
variable {b:Nat}{a:zA}{ty:mD}
def HLe (H H':xA):Prop:=∀b y,H.t.get b=some y->H'.t.get b=some y
section
variable {H HA:xA}{e:vD}{C:lA}{v:zA}
theorem lY(h:HLe H HA) {p:Tr zA × Nat × Option Lo}(hb:qD H b=some p):qD HA b=some p:=by
 unfold qD at hb ⊢;rw[sA]at hb ⊢;obtain⟨y,h1,h2⟩:=hb;exact⟨y,h _ _ h1,h2⟩
theorem Gm(h:HLe H HA) {p:List (zA × zA)}(hb:fK H b=some p):fK HA b=some p:=by
 unfold fK at hb ⊢;rw[sA]at hb ⊢;obtain⟨y,h1,h2⟩:=hb;exact⟨y,h _ _ h1,h2⟩
theorem BQ(h:HLe H HA){s d:mD} (hx:oS C s d a H=some v):oS C s d a HA=some v:=by
 unfold oS at hx ⊢
 split at hx
 ·omega
 ·rename_i hk
  rw[vB]at hx ⊢
  refine⟨hx.1,?_⟩
  have hx:=hx.2
  rw[rD]at hx ⊢
  split at hx
  all_goals grind [sA,vB,Gh,lY]
theorem Xh(h:HLe H HA)  {l r:Option zA}(hx:dM C H ty a l r=some v):dM C HA ty a l r=some v:=by
 have row:∀ {arr e b off len cap},wP C H arr e b off len cap l r=some v->wP C HA arr e b off len cap l r=some v:=by
  intro arr e b off len cap hx;unfold wP at hx ⊢
  simp only[sA]at hx ⊢
  obtain⟨a1,h1,b1,h2,hx⟩:=hx
  refine⟨a1,h1,b1,h2,?_⟩
  cases hb:qD H b with
  | none=>
   have e1:eM H b a1.size cap b1.1 arr=false:=by unfold eM;rw[hb]
   have e2:lN H b a1.size cap b1.1 arr=false:=by unfold lN;rw[hb]
   rw[e1,e2,yay,yay]at hx
   cases hx
  | some c=>
   grind [eM,lY,lN]
 grind [dM,sA]
theorem Yy(h:HLe H HA){m:zA}{l:List (zA × zA)}(hx:fV H m=some l):fV HA m=some l:=by
 grind [fV,Gm]
theorem Zi(h:HLe H HA)  {n:Nat}(hx:pU H ty a=some n):pU HA ty a=some n:=by
 unfold pU at hx ⊢
 split at hx
 all_goals grind [vB,sA,Gm]
theorem alight_mono(h:HLe H HA){o:Op}(hx:(qF o).f C e H=some v):(qF o).f C e HA=some v:=by
 cases o<;>first | exact hx | skip
 case makeFunc fn a b=>cases fn<;>exact hx
 case load t a=>
  change xW t a C e H=some v at hx
  show xW t a C e HA=some v
  unfold xW at hx ⊢
  simp only[sA]at hx ⊢
  grind [lY]
 case convert s d x=>
  change oP s d x C e H=some v at hx
  show oP s d x C e HA=some v
  unfold oP at hx ⊢
  simp only[sA]at hx ⊢
  grind [BQ]
 case slice t x lo hi mx=>
  cases mx with
  | some m=>exact hx
  | none=>
   change Ae t x lo hi C e H=some v at hx
   show Ae t x lo hi C e HA=some v
   unfold Ae at hx ⊢
   simp only[sA]at hx ⊢
   grind [Xh]
 case lookup t x i ok=>
  change yW t x i ok C e H=some v at hx
  show yW t x i ok C e HA=some v
  unfold yW at hx ⊢
  simp only[sA,vB]at hx ⊢
  grind [Yy]
 case call c=>
  change (oT c c.callee).f C e H=some v at hx
  show(oT c c.callee).f C e HA=some v
  cases hc:c.callee with
  | builtin b=>
   rw[hc]at hx
   cases b<;>first | exact hx | skip
   case len=>
    change mQ c C e H=some v at hx
    show mQ c C e HA=some v
    unfold mQ at hx ⊢
    simp only[sA]at hx ⊢
    grind [Zi]
  | _=>rw[hc]at hx;exact hx
end
end Go.Am.HM
namespace Go.Am
open Go Go.RowKit
variable {o u:Oper}{e e':vD}{dp i k:Nat}{w:Bool}{v x:zA}{ν:Mu}
theorem ZU{o:Op}(h:xU o=true)(C:lA)(e:vD)(H H':xA):(qF o).f C e H=(qF o).f C e H':=by
 cases o<;>first | (simp[xU]at h;done) | rfl | skip
 case makeFunc fn a b=>cases fn<;>rfl
theorem ZV (h:∀x,ev x e=ev x e')(o:Op)(C:lA)(H:xA):(qF o).f C e H=(qF o).f C e' H:=by
 have hs:∀l,dN l e=dN l e':=fun l=>by unfold dN;rw[funext h]
 have hp:∀l,evp l e=evp l e':=fun l=>by grind [evp]
 have ho:∀x,evo x e=evo x e':=fun x=>by cases x<;>simp[evo,h]
 cases o<;>first | rfl | skip
 case move x=>exact h x
 case assign x=>exact h x
 case pick c a b=>simp only[qF,Mv,h]
 case load t a=>simp only[qF,xW,h]
 case nilCheck x=>simp only[qF,Ag,h]
 case binOp op t x y z=>simp only[qF,rW,h]
 case unOp op t x=>simp only[qF,lUn,h]
 case convert s d x=>simp only[qF,oP,h]
 case makeInterface t x=>simp only[qF,Cu,h]
 case makeFunc fn a b=>cases fn<;>simp only[qF,Cv,Io,Af,hs]
 case slice t x lo hi mx=>cases mx<;>simp only[qF,Mt,Ae,Af,h,ho]
 case fieldAddr s x f=>simp only[qF,tW,h]
 case field t x f=>simp only[qF,Cw,h]
 case indexAddr t x i=>simp only[qF,wW,h]
 case index t x i=>simp only[qF,vW,h]
 case extract t i=>simp only[qF,sW,h]
 case build t ps=>simp only[qF,zY,hp]
 case typeAssert x a u ok=>simp only[qF,qW,h]
 case lookup t x i ok=>simp only[qF,yW,h]
 case call c=>
  have h2:two c e=two c e':=by unfold two;split<;>simp only[h]
  simp only[qF,zmg]
  cases c.callee with
  | builtin b=>cases b<;>simp only[oT,Sb,Af,mQ,aV,bV,h,h2]
  | _=>rfl
theorem OD (h:∀t,qX t e=qX t e')(x:Operand):ev x e=ev x e':=by
 cases x with
 | tmp t=>exact h t
 | _=>rfl
theorem IG{tm tm' old:Tm}{olds:List (Nat × List Nat)}  (h:∀t∈jH o.op,t∉vF i olds->tm'.get t=tm.get t)(C:lA)(H:xA) :
  (qF o.op).f C (iR tm' old olds i o) H=(qF o.op).f C (iR tm old olds i o) H:=by
 grind [ZV,OD,iR,qX,Aa]
section
variable {P:Program}{C:lA}{μ:Mu}{H H':xA}{all:Array Oper}{olds:List (Nat × List Nat)}{anc:Tr Nat}{n:Nat}{old tm tm':Tm}{D:Nat}{S:Nat->Bool}{order:List Nat}{tmps:Array Value}{ds:List Deferred}
structure yO (C:lA) (H:xA) (all:Array Oper) (olds:List (Nat × List Nat)) (n:Nat) (old tm:Tm) (i:Nat) (o:Oper) (w:Bool) (v:zA):Prop where
 op:all[i]?=some o
 want:kF o.guard all tm=some w
 val:if w=true then(qF o.op).f C (iR tm old olds i o) H=some v else v=pD
 put:∀d,o.dst=some d->d<n->tm.get d=some v
theorem yO.pure    (h:yO C H all olds n old tm i o w v)(hp:xU o.op=true)(H':xA):yO C H' all olds n old tm i o w v:=
 ⟨h.op,h.want,by have:=h.val;grind [ZU],h.put⟩
theorem Ls(R:xX all olds anc)(hD:yZ all (tb D))  (ho:all[i]?=some o)(hi:tb D i=true\/(i=k/\∀j,fL o j->tb D j=true))(hu:all[k]?=some u)(hk:tb D k=false) :
  (∀t∈jH o.op,t∉vF i olds->u.dst≠some t)/\(∀j w,o.guard=some (j,w)->∀g,all[j]?=some g->∀d,g.dst=some d->u.dst≠some d):=by
 have up:∀j,tb (tJ anc i) j=true->tb D j=true:=fun j hj=>R.up hD ho (by
  rcases hi with hi | ⟨_,hi⟩
  ·exact fun j hj=>hD i o ho hi j hj
  omega) hj
 constructor
 ·intro t ht hto e
  have:=R.name i o k u t ho hu e ht
  simp_all
 ·intro j w hg g hgj d hd e
  have h1:=R.guard i o ho
  rw[hg]at h1;have h2:=up j h1
  have:=R.one j k g u d hgj hu hd e
  simp_all
theorem Kn (h:∀j w,o.guard=some (j,w)->∀g,all[j]?=some g->∀d,g.dst=some d->tm'.get d=tm.get d):kF o.guard all tm'=kF o.guard all tm:=by
 unfold kF Kq
 cases hg:o.guard with
 | none=>rfl
 | some jw=>
  obtain⟨j,w⟩:=jw
  simp only[Kp,lG]
  cases hj:all.toList[j]? with
  | none=>rfl
  | some g=>
   simp only[qA]
   cases hd:g.dst with
   | none=>rfl
   | some d=>simp only[qA];rw[h j w hg g (by simp_all) d hd]
theorem yO.keep(R:xX all olds anc)(hD:yZ all (tb D))    (h:yO C H all olds n old tm i o w v)(hi:tb D i=true)(hu:all[k]?=some u)(hk:tb D k=false) :
  yO C H all olds n old (putA n tm u.dst x) i o w v:=by
 obtain⟨r1,r2⟩:=Ls R hD h.op (.inl hi) hu hk
 refine⟨h.op,?_,?_,?_⟩
 ·rw[Kn (tm:=tm) fun j w hg g hj d hd=>by rw[eI,yaa fun e=>r2 j w hg g hj d hd e.1]]
  exact h.want
 ·have:=h.val
  grind [IG,eI]
 ·intro d hd hn
  rw[eI,yaa]
  ·exact h.put d hd hn
  ·rintro⟨e,_⟩
   have:=R.one i k o u d h.op hu hd e
   simp_all
theorem yO.grow    (h:yO C H all olds n old tm i o w v)(hle:HM.HLe H H'):yO C H' all olds n old tm i o w v:=
 ⟨h.op,h.want,by have:=h.val;grind [HM.alight_mono],h.put⟩
structure wX (C:lA) (μ:Mu) (dp:Nat) (all:Array Oper) (olds:List (Nat × List Nat)) (n:Nat) (old tm:Tm) (i:Nat) (o:Oper) (v:zA):Prop where
 op:all[i]?=some o
 flo:lL o.op=true
 want:kF o.guard all tm=some true
 val:∃H0 l,(kE o.op).f C (iR tm old olds i o) H0=.val v (uF H0 l none)/\μ.pd H0.next=some (.cells (Tr.ofList l) (aA l) none,dp,i)
 put:∀d,o.dst=some d->d<n->tm.get d=some v
 lo:Ad C o.op=none
structure Mu.ln (dp:Nat) (μ ν:Mu):Prop where
 f:∀a i,μ a=some i->ν a=some i
 pd:∀a x j,μ.pd a=some (x,dp,j)->ν.pd a=some (x,dp,j)
instance {dp:Nat} {μ ν:Mu}:CoeOut (μ.ln dp ν) (μ.lw ν):=⟨Mu.ln.f⟩
def Mu.le.ln{μ:Mu}(h:μ.le ν)(dp:Nat):μ.ln dp ν:=⟨h.f,fun a x j k=>by rw[h.pd];exact k⟩
instance {dp:Nat} {μ ν:Mu}:Coe (μ.le ν) (μ.ln dp ν):=⟨fun h=>h.ln dp⟩
def Mu.ln_refl(μ:Mu)(dp:Nat):μ.ln dp μ:=⟨fun _ _ h=>h,fun _ _ _ h=>h⟩
def Mu.ln_trans {a b c:Mu}(h:a.ln dp b)(k:b.ln dp c):a.ln dp c:=⟨fun x i hx=>k.f x i (h.f x i hx),fun x y j hx=>k.pd x y j (h.pd x y j hx)⟩
theorem wX.mono  (h:μ.ln dp ν)   (p:wX C μ dp all olds n old tm i o v):wX C ν dp all olds n old tm i o v:=by
 obtain⟨H0,l,h1,h2⟩:=p.val
 exact⟨p.op,p.flo,p.want,⟨H0,l,h1,h.pd _ _ _ h2⟩,p.put,p.lo⟩
theorem NJ{tm tm' old:Tm}  (hf:lL o.op=true)(h:∀t∈jH o.op,t∉vF i olds->tm'.get t=tm.get t)(C:lA)(H:xA) :
  (kE o.op).f C (iR tm' old olds i o) H=(kE o.op).f C (iR tm old olds i o) H:=by
 grind [XA,OD,iR,qX,Aa]
theorem wX.keep (R:xX all olds anc)(hD:yZ all (tb D))   (h:wX C μ dp all olds n old tm i o v)(hi:tb D i=true)(hu:all[k]?=some u)(hk:tb D k=false) :
  wX C μ dp all olds n old (putA n tm u.dst x) i o v:=by
 obtain⟨r1,r2⟩:=Ls R hD h.op (.inl hi) hu hk
 obtain⟨H0,l,h1,h2⟩:=h.val
 refine⟨h.op,h.flo,?_,⟨H0,l,?_,h2⟩,?_,h.lo⟩
 ·rw[Kn (tm:=tm) fun j w hg g hj d hd=>by rw[eI,yaa fun e=>r2 j w hg g hj d hd e.1]]
  exact h.want
 ·rw[NJ (tm:=tm) h.flo fun t ht hto=>by rw[eI,yaa fun e=>r1 t ht hto e.1]]
  exact h1
 ·intro d hd hn
  rw[eI,yaa]
  ·exact h.put d hd hn
  ·rintro⟨e,_⟩
   have:=R.one i k o u d h.op hu hd e
   simp_all
theorem wX.fresh (R:xX all olds anc)(hD:yZ all (tb D))   (ho:all[i]?=some o)(hp:∀j,fL o j->tb D j=true)(hi:tb D i=false)
  (hf:lL o.op=true) (hlo:Ad C o.op=none) (hw:kF o.guard all tm=some true) (hv:∃H0 l,(kE o.op).f C (iR tm old olds i o) H0=.val v (uF H0 l none)/\μ.pd H0.next=some (.cells (Tr.ofList l) (aA l) none,dp,i)) :
  wX C μ dp all olds n old (putA n tm o.dst v) i o v:=by
 obtain⟨r1,r2⟩:=Ls R hD ho (.inr ⟨rfl,hp⟩) ho hi
 obtain⟨H0,l,h1,h2⟩:=hv
 refine⟨ho,hf,?_,⟨H0,l,?_,h2⟩,?_,hlo⟩
 all_goals grind [Kn,eI,NJ]
theorem yO.fresh(R:xX all olds anc)(hD:yZ all (tb D))    (ho:all[i]?=some o)(hp:∀j,fL o j->tb D j=true)(hi:tb D i=false)
  (hw:kF o.guard all tm=some w) (hv:if w=true then(qF o.op).f C (iR tm old olds i o) H=some v else v=pD) :
  yO C H all olds n old (putA n tm o.dst v) i o w v:=by
 obtain⟨r1,r2⟩:=Ls R hD ho (.inr ⟨rfl,hp⟩) ho hi
 refine⟨ho,?_,?_,?_⟩
 all_goals grind [Kn,eI,IG]
theorem jF.light   {D':Nat}(R:jF μ all olds anc n old tm D S order tmps)(ho:all[i]?=some o)(hi:tb D i=false)(hp:∀j,fL o j->tb D j=true)(hD:∀k,tb D' k=(tb D k||k == i)) :
  jF μ all olds anc n old (putA n tm o.dst v) D' S order tmps:=by
 refine⟨R.reg,R.sched,fun k hk=>by rw[hD,R.sub k hk];rfl,R.closed,?_,R.size,?_,R.past,?_,?_⟩
 ·intro k u hu hk j hj
  rw[hD]at hk ⊢
  simp only[ycq,beq_iff_eq]at hk ⊢
  rcases hk with hk | rfl
  ·exact .inl (R.dclosed k u hu hk j hj)
  simp_all
 ·intro k u d x hu hud hk hd hx
  rw[eI,yaa]at hx
  ·exact R.now k u d x hu hud hk hd hx
  ·rintro⟨e,_⟩
   have:=R.reg.one k i u o d hu ho hud e
   have hk':=R.sub k hk
   simp_all
 ·intro d hd hw
  rw[eI,yaa]
  ·refine R.keep d hd fun k u hu hud=>?_
   simp_all
  grind
 ·intro d x hd hx
  refine R.big d x hd ?_
  grind [eI]
theorem jF.mono (hm:μ.lw ν)(R:jF μ all olds anc n old tm D S order tmps):jF ν all olds anc n old tm D S order tmps:=
 ⟨R.reg,R.sched,R.sub,R.closed,R.dclosed,R.size,fun i o d v a b c e f=>(R.now i o d v a b c e f).mono hm _ _,fun d v a b c=>(R.past d v a b c).mono hm _ _,R.keep,fun d v a b=>(R.big d v a b).mono hm _ _⟩
end
end Go.Am
namespace Go.Am
open Go Go.RowKit
section
section steps
variable {P:Program}{fr b:Frame}{a:Act}{k:List Item}{cs:List Frame}{w w':World}{s:Sem Next}{ops:Array Oper}
theorem ZN{v:Value}(hr:s.run P w=.ok (.value v) w') :
  (stepG.apply P true fr cs none s w).bare=.go { frame:=fr.finish v,callers:=cs,status:=.running,dying:=none } w':=by
 simp_all [stepG.apply]
theorem ZO(hr:s.run P w=.ok .skip w') :
  (stepG.apply P true fr cs none s w).bare=.go { frame:=fr.finish undef,callers:=cs,status:=.running,dying:=none } w':=by
 simp_all [stepG.apply]
theorem Xc{i:Nat}{rest:List Nat}{o:Oper}{v:Value}(ho:ops[i]?=some o)(hw:Region.wanted o (yielded ops a.tmps)=true)
  (hr:(o.semAt b.roundOf a.eval).run P w=.ok (.value v) w') :
  step P (lone (b.atR a (.inRegion ops (i::rest)::k)) cs w)=.next (lone (b.atR (a.put o.dst v) (.inRegion ops rest::k)) cs w'):=by
 have:=Frame.finish_atR b a ops i rest k v
 grind [step_lone_go,stepGR_op,ZN]
theorem TC{i:Nat}{rest:List Nat}{o:Oper}(ho:ops[i]?=some o)(hw:Region.wanted o (yielded ops a.tmps)=true)
  (hr:(o.semAt b.roundOf a.eval).run P w=.ok .skip w') :
  step P (lone (b.atR a (.inRegion ops (i::rest)::k)) cs w)=.next (lone (b.atR (a.put o.dst undef) (.inRegion ops rest::k)) cs w'):=by
 have:=Frame.finish_atR b a ops i rest k undef
 grind [step_lone_go,stepGR_op,ZO]
theorem Xd{i:Nat}{rest:List Nat}{o:Oper}(ho:ops[i]?=some o)(hw:Region.wanted o (yielded ops a.tmps)=false) :
  step P (lone (b.atR a (.inRegion ops (i::rest)::k)) cs w)=.next (lone (b.atR (a.put o.dst undef) (.inRegion ops rest::k)) cs w):=by
 grind [stepR_op_skip]
end steps
mutual
theorem Xm:∀(d:Nat) (a b:zA),same d a b=true->a=b
 | d,a,b,h=>by
  cases a<;>cases b<;>cases d<;>simp[same,xV,uM,Al,gK,Nat.beq_eq]at h ⊢
  all_goals first
   | exact h
   | (obtain⟨h1,h2⟩:=h;exact⟨h1,h2⟩)
   | exact Xl _ _ _ h
   | omega
theorem Xl:∀(d:Nat) (a b:List zA),same.sames d a b=true->a=b
 | d,[],[],_=>rfl
 | d,a::x,b::y,h=>by
  simp only[same.sames,ybb]at h;rw[Xm d a b h.1,Xl d x y h.2]
 | d,[],b::y,h=>by simp[same.sames]at h
 | d,a::x,[],h=>by simp[same.sames]at h
end
section
variable {P:Program}{C:lA}{B N:Nat}{μ:Mu}{H H':xA}{w:World}{all:Array Oper}{olds:List (Nat × List Nat)}{anc:Tr Nat}{n:Nat}{old tm tm':Tm}{D D':Nat}{S:Nat->Bool}{order:List Nat}{tmps:Array Value}{ds:List Deferred}{dp:Nat}
def nH(C:lA)(μ:Mu)(dp:Nat)(H:xA)(all:Array Oper)(olds:List (Nat × List Nat))(n:Nat)(old tm:Tm)(D:Nat)(S:Nat->Bool):Prop:=
 ∀i,tb D i=true->S i=false->(∃o w v,yO C H all olds n old tm i o w v)\/∃o v,wX C μ dp all olds n old tm i o v
theorem Rx:∀(l:List Nat) (tm:Tm) (D:Nat),zS C H all n old olds l tm=some tm'->vQ all.toList l D=some D'->jF μ all olds anc n old tm D S order tmps->nH C μ dp H all olds n old tm D S →
  jF μ all olds anc n old tm' D' S order tmps/\nH C μ dp H all olds n old tm' D' S:=by
 intro l;induction l with
 | nil=>intro tm D h hD R hp;cases h;cases hD;simp_all
 | cons i l ih=>
  intro tm D h hD R hp;unfold zS at h;unfold vQ at hD;rw[sA]at hD;obtain⟨D1,h1,hD⟩:=hD
  simp only[sA,lG]at h;obtain⟨o,ho,wn,hw,v,hv,h⟩:=h
  obtain⟨o',ho',hi,hb,hD1⟩:=Mf h1
  have ho2:all[i]?=some o:=by simp_all
  rw[ho2]at ho';cases ho'
  have hval:if wn=true then(qF o.op).f C (iR tm old olds i o) H=some v else v=pD:=by
   cases wn with
   | true=>rw[yab rfl];exact hv
   | false=>simp_all
  refine ih _ _ h hD (R.light ho2 hi hb hD1) fun j hj hSj=>?_
  rw[hD1]at hj;simp only[ycq,beq_iff_eq]at hj;rcases hj with hj | rfl
  ·rcases hp j hj hSj with⟨u,wu,vu,pu⟩ | ⟨u,vu,pu⟩
   ·exact .inl ⟨u,wu,vu,pu.keep R.reg R.dclosed hj ho2 hi⟩
   ·exact .inr ⟨u,vu,pu.keep R.reg R.dclosed hj ho2 hi⟩
  ·exact .inl ⟨o,wn,v,yO.fresh R.reg R.dclosed ho2 hb hi hw hval⟩
structure Weak (all:Array Oper) (n:Nat) (tm:Tm) (i:Nat) (o:Oper) (w:Bool) (v:zA):Prop where
 op:all[i]?=some o
 want:kF o.guard all tm=some w
 val:w=false->v=pD
 put:∀d,o.dst=some d->d<n->tm.get d=some v
theorem zdh:∀(l:List Nat),Dp C H all old olds tm l=true->∀i∈l,∀o w v,Weak all n tm i o w v->∃v,yO C H all olds n old tm i o w v:=by
 intro l;induction l with
 | nil=>simp_all
 | cons j l ih=>
  intro h i hi o w v W;unfold Dp at h;split at h
  case h_2=>cases h
  rename_i hx;rcases ybs.1 hi with rfl | hi
  ·simp only[sA,lG]at hx
   obtain⟨o',ho',d,hd,wn,hw,hx⟩:=hx
   have ho2:all[i]?=some o':=by simp_all
   rw[W.op]at ho2;cases ho2;rw[W.want]at hw;cases hw
   cases w with
   | false=>exact⟨v,W.op,W.want,by rw[yaa (by simp)];exact W.val rfl,W.put⟩
   | true=>
    simp only[cond_true,sA]at hx;obtain⟨v1,hv1,u,hu,hs⟩:=hx
    have e:=Xm _ _ _ (yci hs)
    refine⟨v1,W.op,W.want,by rw[yab rfl];exact hv1,fun d' hd' hn=>?_⟩
    rw[hd]at hd';cases hd'
    rw[hu,e]
  grind
end
end
section
section
variable {P:Program}{C:lA}{B N:Nat}{μ:Mu}{H H':xA}{w:World}{all:Array Oper}{olds:List (Nat × List Nat)}{anc:Tr Nat}{n:Nat}{old tm tm':Tm}{D D':Nat}{S:Nat->Bool}{order:List Nat}{tmps:Array Value}{ds:List Deferred}{dp:Nat}
variable {b:Frame}{k:List Item}{cs:List Frame}
structure zZ (B N dp:Nat) (μ:Mu) (H:xA) (w:World) (μ':Mu) (w':World):Prop where
 heap:tB B N μ' H w'
 le:μ.lw μ'
 pd:∀d,d≠dp->μ.ln d μ'
 below:Below N w w'
theorem zZ.refl(hH:tB B N μ H w):zZ B N dp μ H w μ w:=⟨hH,fun _ _ h=>h,fun d _=>μ.ln_refl d,Below.refl _ _⟩
def zZ.trans{μ1 μ2:Mu}{w1 w2:World}(h:zZ B N dp μ H w μ1 w1)(k:zZ B N dp μ1 H w1 μ2 w2):zZ B N dp μ H w μ2 w2:=
 ⟨k.heap,fun a i e=>k.le a i (h.le a i e),fun d hd=>Mu.ln_trans (h.pd d hd) (k.pd d hd),h.below.trans k.below⟩
theorem HU(hT:rF P C)(hH:tB B N μ H w){i:Nat}(R:jF μ all olds anc n old tm D S (i::order) tmps)(hp:nH C μ dp H all olds n old tm D S)(hi:tb D i=true) :
  ∃S' tmps' μ' w',step P (lone (b.atR ⟨tmps,ds⟩ (.inRegion all (i::order)::k)) cs w)=.next (lone (b.atR ⟨tmps',ds⟩ (.inRegion all order::k)) cs w')/\zZ B N dp μ H w μ' w' ∧
   jF μ' all olds anc n old tm D S' order tmps'/\nH C μ' dp H all olds n old tm D S'/\∀k,S k=true->S' k=true:=by
 obtain⟨o,ho,hS,hb,_⟩:=R.sched
 have hDD:∀k,tb D k=(tb D k||k == i):=by
  simp_all
 have ds':∀v',Act.put ⟨tmps,ds⟩ o.dst v'=⟨(Act.put ⟨tmps,ds⟩ o.dst v').tmps,ds⟩:=by intro v';unfold Act.put;cases o.dst<;>rfl
 rcases hp i hi hS with⟨o',wn,v,pd⟩ | ⟨o',v,pd⟩
 ·have:=pd.op
  rw[ho]at this;cases this
  have hw:=R.wanted ho hb pd.want
  have rest:∀v',uA μ v v'->jF μ all olds anc n old tm D (fun k=>S k||k == i) order (Act.put ⟨tmps,ds⟩ o.dst v').tmps/\nH C μ dp H all olds n old tm D (fun k=>S k||k == i):=by
   intro v' hv;refine⟨R.did ho hDD pd.put (fun _ _=>rfl) hv,fun j hj hSj=>hp j hj ?_⟩
   grind
  cases wn with
  | false=>
   have hv:=pd.val
   rw[yaa (by simp)]at hv
   subst hv;obtain⟨r1,r2⟩:=rest undef Pf
   refine⟨_,_,μ,w,?_,.refl hH,r1,r2,fun k hk=>by grind⟩
   grind [Xd]
  | true=>
   have hv:=pd.val
   rw[yab rfl]at hv;obtain⟨v',h1,h2⟩:=zdg hT hH (R.erel (ds:=ds) hH.glob ho hS hb) hv
   obtain⟨r1,r2⟩:=rest v' h2
   refine⟨_,_,μ,w,?_,.refl hH,r1,r2,fun k hk=>by grind⟩
   rw[<- ds'];refine Xc (a:=⟨tmps,ds⟩) ho hw ?_
   rw[Oper.semAt_eq]
   ·exact h1
   ·intro c e
    rw[e]at hv
    cases hv
 ·have:=pd.op
  rw[ho]at this;cases this
  have hw:=R.wanted ho hb pd.want
  obtain⟨H0,l,h1,h2⟩:=pd.val
  obtain⟨l',vs,v',elem,e1,run,hl,hv⟩:=zf6 (P:=P) (w:=w) hT (R.erel (ds:=ds) hH.glob ho hS hb) o pd.flo pd.lo h1
  have e2:uF H0 l none=uF H0 l' none:=e1
  have p1:=(hH.pnd _ _ _ h2).1
  have lg:∀c,(μ.land H0.next ⟨w.heap.size,true,0,0,false⟩) c=if c=H0.next then some ⟨w.heap.size,true,0,0,false⟩else μ c:=fun _=>rfl
  have hle:μ.lw (μ.land H0.next ⟨w.heap.size,true,0,0,false⟩):=fun c j hj=>by
   grind
  have hlp:∀c x d j,(d≠dp\/j≠i)->μ.pd c=some (x,d,j)->(μ.land H0.next ⟨w.heap.size,true,0,0,false⟩).pd c=some (x,d,j):=by
   intro c x d j hne hc;show(if c=H0.next then none else μ.pd c)=_
   all_goals grind
  have hblk:(tA.cells (Tr.ofList l) (aA l) none)=.cells (Tr.ofList l') (aA l') none:=by
   have h3:(uF H0 l none).t.get H0.next=(uF H0 l' none).t.get H0.next:=by rw[e2]
   have hg:∀m,(uF H0 m none).t.get H0.next=some (.cells (Tr.ofList m) (aA m) none):=fun m=>by
    show(H0.t.set H0.next _).get H0.next=_
    rw[Tr.get_set,yab rfl]
   grind
  have hH':tB B N (μ.land H0.next ⟨w.heap.size,true,0,0,false⟩) H (w.alloc (.cells vs elem)):=by
   refine hH.late h2 rfl rfl ?_
   rw[hblk];have:=(oB.mono hle _ _ hl).rel_one (i:=⟨w.heap.size,true,0,0,false⟩) rfl (elem:=elem)
   rwa [Array.toArray_toList]at this
  have hvr:=hv (μ.land H0.next ⟨w.heap.size,true,0,0,false⟩) ⟨w.heap.size,true,0,0,false⟩ (by rw[lg,yab rfl]) rfl rfl
  refine⟨fun k=>S k||k == i,(Act.put ⟨tmps,ds⟩ o.dst v').tmps,μ.land H0.next ⟨w.heap.size,true,0,0,false⟩,w.alloc (.cells vs elem),?_,⟨hH',hle,fun d hd=>⟨hle,fun c x j hc=>hlp c x d j (.inl hd) hc⟩,kS hH.size _⟩,
   (R.mono hle).did ho hDD pd.put (fun _ _=>rfl) hvr,fun j hj hSj=>?_,fun k hk=>by grind⟩
  ·rw[<- ds']
   refine Xc (a:=⟨tmps,ds⟩) ho hw ?_
   rw[Oper.semAt_eq]
   ·exact run
   ·intro c e
    have:=pd.flo
    rw[e]at this
    cases this
  ·simp only[yal,beq_eq_false_iff_ne]at hSj
   rcases hp j hj hSj.1 with h | ⟨u,vu,pu⟩
   ·grind
   ·refine .inr ⟨u,vu,pu.op,pu.flo,pu.want,?_,pu.put,pu.lo⟩
    obtain⟨H1,m,g1,g2⟩:=pu.val
    grind
theorem HV(hT:rF P C)(hH:tB B N μ H w){i:Nat}(R:jF μ all olds anc n old tm D S (i::order) tmps)(hp:nH C μ dp H all olds n old tm D S)(hi:tb D i=true) :
  ∃S' tmps' μ' w',step P (lone (b.atR ⟨tmps,ds⟩ (.inRegion all (i::order)::k)) cs w)=.next (lone (b.atR ⟨tmps',ds⟩ (.inRegion all order::k)) cs w')/\zZ B N dp μ H w μ' w' ∧
   jF μ' all olds anc n old tm D S' order tmps'/\nH C μ' dp H all olds n old tm D S':=by
 obtain⟨S',tmps',μ',w',h1,h2,h3,h4,_⟩:=HU (b:=b) (k:=k) (cs:=cs) (ds:=ds) hT hH R hp hi
 grind
theorem reach(hT:rF P C){st:vG}{r:List vG}(hst:oJ all.toList anc (st::r) D=true)(hlt:st.heavy<=all.size):∀(order:List Nat) (S:Nat->Bool) (tmps:Array Value) (μ:Mu) (w:World),tB B N μ H w →
  jF μ all olds anc n old tm D S order tmps->nH C μ dp H all olds n old tm D S →
  ∃S' order' tmps' μ' w',Steps P (lone (b.atR ⟨tmps,ds⟩ (.inRegion all order::k)) cs w) (lone (b.atR ⟨tmps',ds⟩ (.inRegion all (st.heavy::order')::k)) cs w')/\zZ B N dp μ H w μ' w' ∧
   jF μ' all olds anc n old tm D S' (st.heavy::order') tmps'/\nH C μ' dp H all olds n old tm D S':=by
 obtain⟨only,_,D1,D2,h1,_⟩:=Rc hst hlt
 obtain⟨oh,hoh,hh,hbh,_⟩:=Mf h1
 intro order;induction order with
 | nil=>
  intro S tmps μ w _ R hp;have:=R.sub _ (R.sched st.heavy (ybe.1 hoh).1)
  simp_all
 | cons i order ih=>
  intro S tmps μ w hH R hp
  cases hi:tb D i with
  | true=>
   obtain⟨S',tmps',μ1,w1,s1,g1,r1,p1⟩:=HV (b:=b) (k:=k) (cs:=cs) (ds:=ds) hT hH R hp hi
   obtain⟨S2,order',tmps2,μ2,w2,s2,g2,r2⟩:=ih S' tmps' μ1 w1 g1.heap r1 p1
   exact⟨S2,order',tmps2,μ2,w2,.head s1 s2,g1.trans g2,r2⟩
  | false=>
   obtain⟨o,ho,hS,hb,_⟩:=R.sched
   have:=only i o ho hi fun j hj=>R.sub j (hb j hj)
   subst this;exact⟨S,order,tmps,μ,w,.refl _ _,.refl hH,R,hp⟩
theorem regEnd(hT:rF P C)(hst:oJ all.toList anc [] D=true):∀(order:List Nat) (S:Nat->Bool) (tmps:Array Value) (μ:Mu) (w:World),tB B N μ H w →
  jF μ all olds anc n old tm D S order tmps->nH C μ dp H all olds n old tm D S →
  ∃tmps' μ' w',Steps P (lone (b.atR ⟨tmps,ds⟩ (.inRegion all order::k)) cs w) (lone (b.atR ⟨tmps',ds⟩ k) cs w')/\zZ B N dp μ H w μ' w'/\dE μ' n tm tmps':=by
 have full:=VM hst
 intro order;induction order with
 | nil=>
  intro S tmps μ w hH R hp;refine⟨tmps,μ,w,.one stepR_region_end,.refl hH,R.size,fun t v hv=>?_⟩
  by_cases hn:t<n
  ·by_cases hw:∃(j:Nat) (u:Oper),all[j]?=some u/\u.dst=some t
   ·obtain⟨j,u,hu,hud⟩:=hw
    exact R.now j u t v hu hud (R.sched j (ybe.1 hu).1) hn hv
   ·have k:=R.keep t hn fun i o h1 h2=>absurd ⟨i,o,h1,h2⟩ hw
    exact R.past t v hn (fun i o h1 h2=>absurd ⟨i,o,h1,h2⟩ hw) (by simp_all)
  ·rw[Ja (by rw[R.size];omega)]
   exact R.big t v (by omega) (.inl hv)
 | cons i order ih=>
  intro S tmps μ w hH R hp;obtain⟨o,ho,_⟩:=R.sched
  obtain⟨S',tmps',μ1,w1,s1,g1,r1,p1⟩:=HV (b:=b) (k:=k) (cs:=cs) (ds:=ds) hT hH R hp (full i (ybe.1 ho).1)
  obtain⟨tmps2,μ2,w2,s2,g2,r2⟩:=ih S' tmps' μ1 w1 g1.heap r1 p1
  exact⟨tmps2,μ2,w2,.head s1 s2,g1.trans g2,r2⟩
theorem zeo(hM:P.follows .mixedOrders=true){anc:Tr Nat}(hR:xX all olds anc)(ht:dE μ n old tmps)(t:Nat) :
  jF μ all olds anc n old old 0 (fun _=>false) (Region.schedule (P.follows .mixedOrders) all t) tmps/\nH C μ dp H all olds n old old 0 (fun _=>false):=by
 refine⟨⟨hR,?_,fun i h=>(by cases h),fun i o _ h=>(by cases h),fun i o _ h=>(by grind [Ps]),ht.1,fun i o d v _ _ h=>(by cases h),fun d v _ _ h=>ht.2 d v h,fun _ _ _=>rfl,fun d v hd h=>?_⟩,fun i h=>(by grind [Ps])⟩
 ·rw[hM]
  unfold Region.schedule;simp only[Bool.true_or,if_true];have:=zej hR.back all.size t (Array.replicate all.size false) (by simp) (by
   grind [List.countP_le_length])
  have e:(fun i=>(Array.replicate all.size false).getD i false)=fun _=>false:=by
   funext i
   simp only[ycx,Array.getElem?_replicate];split<;>rfl
  rw[e]at this;exact this
 ·have h':old.get d=some v:=h.elim id id
  have:=ht.2 d v h'
  rw[Ja (by rw[ht.1];exact hd)]at this
  exact this
def cY(C:lA)(μ:Mu)(dp:Nat)(all:Array Oper)(olds:List (Nat × List Nat))(n:Nat)(old tm:Tm)(D:Nat)(S:Nat->Bool)(again:List Nat):Prop:=
 ∀i,tb D i=true->S i=false->(∃o w v,(∀H,yO C H all olds n old tm i o w v)\/(i∈again/\Weak all n tm i o w v))\/∃o v,wX C μ dp all olds n old tm i o v
def yO.float{i:Nat}{o:Oper}{w:Bool}{v:zA}(h:yO C H all olds n old tm i o w v)(hf:lL o.op=true)(H':xA):yO C H' all olds n old tm i o w v:=by
 refine⟨h.op,h.want,?_,h.put⟩
 have:=h.val
 cases w with
 | false=>exact this
 | true=>
  rw[yab rfl]at this;exfalso
  obtain⟨dst,op,type,pos,after,guard⟩:=o
  cases op<;>first | (simp[lL]at hf;done) | cases this
theorem zac{again:List Nat}(hw:cY C μ dp all olds n old tm D S again)(ha:Dp C H all old olds tm again=true):nH C μ dp H all olds n old tm D S:=by
 intro i hi hS;rcases hw i hi hS with⟨o,w,v,h | ⟨h1,h2⟩⟩ | h
 ·exact .inl ⟨o,w,v,h H⟩
 ·obtain⟨v,h⟩:=zdh (C:=C) (H:=H) (olds:=olds) (old:=old) again ha i h1 o w v h2
  grind
 simp_all
end
end
section
variable {o:Oper}{v:zA}{again:List Nat}{ν:Mu}
section
variable {P:Program}{C:lA}{B N:Nat}{μ:Mu}{H H':xA}{w:World}{all:Array Oper}{olds:List (Nat × List Nat)}{anc:Tr Nat}{n:Nat}{old tm tm':Tm}{D D':Nat}{S:Nat->Bool}{order:List Nat}{tmps:Array Value}{ds:List Deferred}{dp:Nat}
theorem Weak.keep(R:xX all olds anc)(hD:yZ all (tb D)){i k:Nat}{u:Oper}{w:Bool}{x:zA}(h:Weak all n tm i o w v)(hi:tb D i=true)(hu:all[k]?=some u)(hk:tb D k=false) :
  Weak all n (putA n tm u.dst x) i o w v:=by
 obtain⟨_,r2⟩:=Ls R hD h.op (.inl hi) hu hk
 refine⟨h.op,?_,h.val,?_⟩
 ·rw[Kn (tm:=tm) fun j w hg g hj d hd=>by rw[eI,yaa fun e=>r2 j w hg g hj d hd e.1]]
  exact h.want
 ·intro d hd hn
  rw[eI,yaa]
  ·exact h.put d hd hn
  ·rintro⟨e,_⟩
   have:=R.one i k o u d h.op hu hd e
   simp_all
theorem toWeak{st:vG}{r:List vG}(hst:oJ all.toList anc (st::r) D=true)(hlt:st.heavy<=all.size)(R:jF μ all olds anc n old tm D S (st.heavy::order) tmps)(hp:nH C μ dp H all olds n old tm D S) :
  cY C μ dp all olds n old tm D S st.again:=by
 obtain⟨_,ag,_⟩:=Rc hst hlt
 intro i hDi hSi;rcases hp i hDi hSi with⟨u,wu,vu,pu⟩ | h
 rotate_left
 ·grind
 refine .inl ⟨u,wu,vu,?_⟩
 rcases ag i u pu.op hDi with h | h | h | h
 ·obtain⟨o,ho,_,hb,_⟩:=R.sched
  have:=R.reg.up R.closed ho hb h
  simp_all
 ·exact .inl fun H=>pu.pure h H
 ·exact .inl fun H=>pu.float h H
 ·exact .inr ⟨h,pu.op,pu.want,fun e=>by have:=pu.val;simp_all,pu.put⟩
def zdt{h:Nat} {D1:Nat}  {v':Value}(h1:fX all.toList h D=some D1)(ho:all[h]?=some o)
  (R:jF μ all olds anc n old tm D S (h::order) tmps) (hp:cY C μ dp all olds n old tm D S again) (hv:uA μ v v') :
  jF μ all olds anc n old (putA n tm o.dst v) D1 (fun k=>S k||k == h) order (Act.put ⟨tmps,ds⟩ o.dst v').tmps/\cY C μ dp all olds n old (putA n tm o.dst v) D1 (fun k=>S k||k == h) again:=by
 obtain⟨o',ho',hi,hb,hD1⟩:=Mf h1
 rw[ho]at ho';cases ho'
 refine⟨R.did ho hD1 (fun d hd hn=>by rw[eI,yab ⟨hd,hn⟩]) (fun d hd=>by rw[eI,yaa fun e=>absurd (hd e.1) (by omega)]) hv,fun i hDi hSi=>?_⟩
 simp only[yal,beq_eq_false_iff_ne]at hSi;rw[hD1]at hDi;simp only[ycq,beq_iff_eq]at hDi;have hDi:=hDi.resolve_right hSi.2
 rcases hp i hDi hSi.1 with⟨u,wu,vu,pu⟩ | ⟨u,vu,pu⟩
 ·exact .inl ⟨u,wu,vu,pu.imp (fun pu H=>(pu H).keep R.reg R.dclosed hDi ho hi) (fun pu=>⟨pu.1,pu.2.keep R.reg R.dclosed hDi ho hi⟩)⟩
 ·exact .inr ⟨u,vu,pu.keep R.reg R.dclosed hDi ho hi⟩
inductive oN (C:lA) (μ:Mu) (dp:Nat) (n:Nat):Option xA->List qE->Tm->List Item->Array Value->Prop
 | plain {cur:Option xA} {todo:List qE} {tm:Tm} {btodo:List Item} {tmps:Array Value}:xD (sG μ) todo btodo->dE μ n tm tmps->oN C μ dp n cur todo tm btodo tmps
 | reg {H:xA} {all:Array Oper} {old tm:Tm} {olds:List (Nat × List Nat)} {stages:List vG} {k:List qE} {order:List Nat} {k':List Item} {tmps:Array Value} {anc:Tr Nat} {D:Nat} {S:Nat->Bool} :
   jF μ all olds anc n old tm D S order tmps->oJ all.toList anc stages D=true->nH C μ dp H all olds n old tm D S->xD (sG μ) k k' →
   oN C μ dp n (some H) (.reg all old olds stages::k) tm (.inRegion all order::k') tmps
 | mid {cur:Option xA} {all:Array Oper} {old tm:Tm} {olds:List (Nat × List Nat)} {lights again:List Nat} {stages:List vG} {k:List qE} {order:List Nat} {k':List Item} {tmps:Array Value} {anc:Tr Nat} {D D2:Nat} {S:Nat->Bool} :
   jF μ all olds anc n old tm D S order tmps->vQ all.toList lights D=some D2->oJ all.toList anc stages D2=true->cY C μ dp all olds n old tm D S again->xD (sG μ) k k' →
   oN C μ dp n cur (.reg all old olds (⟨all.size,lights,again⟩::stages)::k) tm (.inRegion all order::k') tmps
 | wait {all:Array Oper} {old tm:Tm} {olds:List (Nat × List Nat)} {st:vG} {stages:List vG} {k:List qE} {order:List Nat} {k':List Item} {tmps:Array Value} {anc:Tr Nat} {D:Nat} {S:Nat->Bool} :
   jF μ all olds anc n old tm D S (st.heavy::order) tmps->oJ all.toList anc (st::stages) D=true->st.heavy<=all.size->cY C μ dp all olds n old tm D S st.again->xD (sG μ) k k' →
   oN C μ dp n none (.reg all old olds (st::stages)::k) tm (.inRegion all (st.heavy::order)::k') tmps
theorem nH.mono (h:μ.ln dp ν)(p:nH C μ dp H all olds n old tm D S):nH C ν dp H all olds n old tm D S:=
 fun i h1 h2=>(p i h1 h2).imp id fun⟨o,v,q⟩=>⟨o,v,q.mono h⟩
theorem cY.mono  (h:μ.ln dp ν)(p:cY C μ dp all olds n old tm D S again):cY C ν dp all olds n old tm D S again:=
 fun i h1 h2=>(p i h1 h2).imp id fun⟨o,v,q⟩=>⟨o,v,q.mono h⟩
theorem oN.mono (h:μ.ln dp ν){cur:Option xA}{todo:List qE}{btodo:List Item}(R:oN C μ dp n cur todo tm btodo tmps):oN C ν dp n cur todo tm btodo tmps:=by
 have mk:∀ {k:List qE} {k':List Item},xD (sG μ) k k'->xD (sG ν) k k':=fun k=>xD.mono (fun _ _ r=>sG.mono h r) k
 cases R with
 | plain a b=>exact .plain (mk a) (b.mono h)
 | reg a b c d=>exact .reg (a.mono h) b (c.mono h) (mk d)
 | mid a b c d e=>exact .mid (a.mono h) b c (d.mono h) (mk e)
 | wait a b b' c d=>exact .wait (a.mono h) b b' (c.mono h) (mk d)
end
end
section
variable {v:zA}{v':Value}{cur:Option xA}{fr:wC}{b:Frame}{l:List wC}{m:List Frame}
section
variable {P:Program}{C:lA}{B N:Nat}{μ ν:Mu}{H H':xA}{w:World}{n:Nat}{tm:Tm}{tmps:Array Value}{ds:List Deferred}{dp:Nat}
theorem dE.put  {dst:Option Nat}(h:dE μ n tm tmps)(hv:uA μ v v'):dE μ n (putA n tm dst v) (Act.put ⟨tmps,ds⟩ dst v').tmps:=by
 cases dst with
 | none=>exact h
 | some d=>
  refine⟨by simp[Act.put,h.1],fun t x hx=>?_⟩
  rw[eI]at hx;simp only[Act.put,ycx,ycs];by_cases e:d=t
  ·subst e
   by_cases hn:d<n
   ·rw[yab ⟨rfl,hn⟩]at hx
    cases hx;simp[h.1,hn,hv]
   ·rw[yaa fun k=>hn k.2]at hx
    have:=h.2 d x hx
    rw[Ja (by rw[h.1];omega)]at this
    simp[h.1,hn,this]
  ·rw[yaa fun k=>e (yci k.1)]at hx
   have:=h.2 t x hx
   simp_all
structure kJ (C:lA) (μ:Mu) (dp:Nat) (cur:Option xA) (fr:wC) (b:Frame):Prop where
 rest:dG μ fr.R b
 body:if fr.R.mode.running=true then oN C μ dp fr.R.n cur fr.todo fr.tm b.todo b.tmps else dE μ fr.R.n fr.tm b.tmps
theorem kJ.mono(h:μ.ln dp ν)   (r:kJ C μ dp cur fr b):kJ C ν dp cur fr b:=by
 refine⟨r.rest.mono h,?_⟩
 have:=r.body
 split at this
 ·rename_i e;rw[yab e];exact this.mono h
 ·rename_i e;rw[yaa e];exact this.mono h
inductive cF (C:lA) (μ:Mu):List wC->List Frame->Prop
 | nil:cF C μ [] []
 | cons {a:wC} {b:Frame} {l:List wC} {m:List Frame}:kJ C μ l.length none a b->cF C μ l m->cF C μ (a::l) (b::m)
theorem cF.monoD  (r:cF C μ l m)(h:∀d,d<l.length->μ.ln d ν):cF C ν l m:=by
 induction r with
 | nil=>exact .nil
 | @cons a b l m h1 h2 ih=>exact .cons (h1.mono (h _ (by simp))) (ih fun d hd=>h d (by grind))
theorem cF.mono  (r:cF C μ l m)(h:μ.le ν):cF C ν l m:=r.monoD fun d _=>h.ln d
theorem Ga{fr':wC}    (r:kJ C μ dp none fr b)(h:pH fr v=some fr')(hv:uA μ v v'):kJ C μ dp cur fr' (b.finish v'):=by
 obtain⟨todo,tm,R⟩:=fr
 unfold pH at h
 cases todo with
 | nil=>cases h
 | cons x k=>
  simp only[rD]at h;split at h
  case isFalse=>cases h
  rename_i hm;have body:=r.body
  rw[yab hm]at body;have rest:=r.rest
  obtain⟨fn,btmps,btodo,bdefers,bmode,bkind,bround⟩:=b
  simp only at body rest
  cases body with
  | plain a t=>
   cases a with
   | cons i l=>
    cases i with
    | ops all i hi=>
     simp only[Sx]at h;unfold zjp at h;split at h
     case h_2=>cases h
     rename_i o rest' ho
     cases h;obtain⟨h1,h2⟩:=iW ho.symm
     have hlt:i<all.size:=by grind
     have hr:(List.range all.size).drop i=i::(List.range all.size).drop (i+1):=by
      grind [List.drop_eq_getElem_cons]
     have ho2:all[i]?=some o:=by simp_all
     have e:∀k',Frame.finish ⟨fn,btmps,.inRegion all ((List.range all.size).drop i)::k',bdefers,bmode,bkind,bround⟩ v'=⟨fn,(Act.put ⟨btmps,bdefers⟩ o.dst v').tmps,.inRegion all ((List.range all.size).drop (i+1))::k',bdefers,bmode,bkind,bround⟩:=by
      intro k';simp only[Frame.finish,hr,ho2,yai];unfold Act.put
      cases o.dst<;>rfl
     rw[e];refine⟨⟨rest.fn,?_,rest.defers,rest.mode,rest.kind,rest.round⟩,?_⟩
     ·exact(t.put (ds:=bdefers) (dst:=o.dst) hv).1
     ·rw[yab hm]
      rw[h2];exact .plain (.cons (.ops all (i+1) hlt) l) (t.put hv)
    | inRange l' i hl=>
     cases h;refine⟨⟨rest.fn,rest.size,rest.defers,rest.mode,rest.kind,rest.round⟩,?_⟩
     simp only[Frame.finish];rw[yab hm];exact .plain (.cons (.endRange l' i hl) l) t
    | beginRound=>
     cases h;refine⟨⟨rest.fn,rest.size,rest.defers,rest.mode,rest.kind,rest.round⟩,?_⟩
     simp only[Frame.finish];rw[yab hm];exact .plain l t
    | _=>cases h
  | mid a b c d e=>
   simp_all [Sx,AU,lG]
  | @wait all old _ olds st stages _ order _ _ anc D S a b b2 c d=>
   simp only[Sx]at h;unfold AU at h;simp only[sA,lG]at h;obtain⟨o,ho,h⟩:=h
   cases h;have ho2:all[st.heavy]?=some o:=by simp_all
   obtain⟨_,_,D1,D2,h1,h2,h3⟩:=Rc b b2
   obtain⟨r1,r2⟩:=zdt (ds:=bdefers) h1 ho2 a c hv
   have e:∀k',Frame.finish ⟨fn,btmps,.inRegion all (st.heavy::order)::k',bdefers,bmode,bkind,bround⟩ v'=⟨fn,(Act.put ⟨btmps,bdefers⟩ o.dst v').tmps,.inRegion all order::k',bdefers,bmode,bkind,bround⟩:=by
    intro k';simp only[Frame.finish,ho2,yai];unfold Act.put
    cases o.dst<;>rfl
   rw[e];refine⟨⟨rest.fn,r1.size,rest.defers,rest.mode,rest.kind,rest.round⟩,?_⟩
   rw[yab hm];exact .mid r1 h2 h3 r2 d
def bD(P:Program)(C:lA)(B N:Nat)(μ:Mu)(base:List Frame)(m:Machine)(w:World):lF->Prop
 | .next s=>∃ μ' b cs w',Steps P m (lone b (cs++base) w')/\μ.lw μ'/\Below N w w'/\tB B N μ' s.H w'/\kJ C μ' s.cs.length (some s.H) s.fr b/\cF C μ' s.cs cs
 | .done v H=>∃ μ' b w' v',Steps P m (lone b base w')/\μ.lw μ'/\Below N w w'/\tB B N μ' H w'/\uA μ' v v'/\b.fn=C.root/\b.leaving P w' (.returned v')
 | .fail _=>True
def bD.of_steps{base:List Frame}{m m1:Machine}{o:lF}{w w1:World}(hs:Steps P m m1)(hm:μ.lw ν)(hb:Below N w w1)(h:bD P C B N ν base m1 w1 o):bD P C B N μ base m w o:=by
 cases o with
 | fail=>exact trivial
 | next s=>
  obtain⟨μ',b,cs,w',h1,h2,h3,h4⟩:=h
  exact⟨μ',b,cs,w',hs.trans h1,fun a i k=>h2 a i (hm a i k),hb.trans h3,h4⟩
 | done v H=>
  obtain⟨μ',b,w',v',h1,h2,h3,h4⟩:=h
  exact⟨μ',b,w',v',hs.trans h1,fun a i k=>h2 a i (hm a i k),hb.trans h3,h4⟩
def zha (h:b.mode=.run):b.atR ⟨b.tmps,b.defers⟩ b.todo=b:=by
 obtain⟨fn,tmps,todo,defers,mode,kind,round⟩:=b
 simp only at h
 subst h;rfl
end
end
section
variable {m:Machine}{c:Code}{id:Nat}
structure cJ (P:Program) (C:lA) (B N:Nat) (I:World->Prop):Prop where
 tys:rF P C
 fns:Dx P C
 prims:Jx P C B N I
 base:B<=C.base
 mixed:P.follows .mixedOrders=true
 inv:∀w w',Below N w w'->I w->I w'
section
variable {P:Program}{C:lA}{B N:Nat}{I:World->Prop}{μ ν:Mu}{H H':xA}{w:World}{tm:Tm}{R:jJ}{acs:List wC}{base cs:List Frame}
variable {b:Frame}{tmps:Array Value}{ds:List Deferred}{k:List qE}{k':List Item}
def dG.todo{todo:List Item}(h:dG μ R (b.atR ⟨tmps,ds⟩ [])):dG μ R (b.atR ⟨tmps,ds⟩ todo):=⟨h.fn,h.size,h.defers,h.mode,h.kind,h.round⟩
theorem dG.running{todo:List Item}(h:dG μ R (b.atR ⟨tmps,ds⟩ todo)):R.mode.running=true:=by
 have:=h.mode
 cases hm:R.mode with
 | run=>rfl
 | _=>rw[hm]at this;exact this.elim
def fZ {todo:List qE}{btodo:List Item}(hH:tB B N μ H w)(hcs:cF C μ acs cs)(hR:dG μ R (b.atR ⟨tmps,ds⟩ []))(ht:dE μ R.n tm tmps)
  (hk:xD (sG μ) todo btodo) (hs:Steps P m (lone (b.atR ⟨tmps,ds⟩ btodo) (cs++base) w)):bD P C B N μ base m w (xGo todo tm R acs H):=
 ⟨μ,_,cs,w,hs,fun _ _ h=>h,Below.refl _ _,hH,⟨hR.todo,by rw[yab hR.running];exact .plain hk ht⟩,hcs⟩
def Qx(hH:tB B N μ H w)(hcs:cF C μ acs cs)(hR:dG μ R (b.atR ⟨tmps,ds⟩ []))(ht:dE μ R.n tm tmps)(hk:xD (sG μ) k k')
  (hs:step P m=.next (lone (b.atR ⟨tmps,ds⟩ k') (cs++base) w)):bD P C B N μ base m w (Eb C k tm R acs H):=
 fZ hH hcs hR ht hk (.one hs)
def znu(hH:tB B N μ H w)(hcs:cF C μ acs cs)(hR:dG μ R (b.atR ⟨tmps,ds⟩ []))(ht:dE μ R.n tm tmps)(hk:xD (sG μ) k k'){c:Operand}{x y:Code} :
  bD P C B N μ base (lone (b.atR ⟨tmps,ds⟩ (.code (.cond c x y)::k')) (cs++base) w) w (Kk c x y C k tm R acs H):=by
 unfold Kk
 cases hc:ob (ev c (.now tm)) zA.asBool with
 | none=>exact trivial
 | some t=>
  rw[sA]at hc;obtain⟨v,hv,ht'⟩:=hc
  have:v=.bool t:=by cases v<;>simp[zA.asBool]at ht';rw[ht']
  subst this;have hr:=ht.erel (ds:=ds) hH.glob c _ hv
  rw[uA]at hr;refine fZ hH hcs hR ht (.cons (.code _) hk) (.one ?_)
  rw[stepR_cond hr]
  cases t<;>rfl
def zg6(hH:tB B N μ H w)(hcs:cF C μ acs cs)(hR:dG μ R (b.atR ⟨tmps,ds⟩ []))(ht:dE μ R.n tm tmps)(hk:xD (sG μ) k k')   :
  bD P C B N μ base (lone (b.atR ⟨tmps,ds⟩ (.code (.block id c)::k')) (cs++base) w) w (zhh id c C k tm R acs H):=
 fZ hH hcs hR ht (.cons (.code _) (.cons (.inBlock _) hk)) (.one stepR_block)
def zlz(hH:tB B N μ H w)(hcs:cF C μ acs cs)(hR:dG μ R (b.atR ⟨tmps,ds⟩ []))(ht:dE μ R.n tm tmps)(hk:xD (sG μ) k k')  :
  bD P C B N μ base (lone (b.atR ⟨tmps,ds⟩ (.code (.loop c)::k')) (cs++base) w) w (zj9 c C k tm R acs H):=
 fZ hH hcs hR ht (.cons (.code _) (.cons (.inLoop _) hk)) (.one stepR_loop)
theorem zca  : ∀ {k:List qE} {k':List Item} {r:List qE},xD (sG μ) k k'->lT id k=some r->∃r',exitTo id k'=some r'/\xD (sG μ) r r':=by
 intro k k' r h;induction h with
 | nil=>intro e;cases e
 | cons a l ih=>
  intro e
  cases a with
  | inBlock i=>
   grind [lT,qE.blockId,exitTo,fC]
  | _=>
   unfold lT at e;obtain⟨r',h1,h2⟩:=ih e
   grind [exitTo]
end
end
section
variable {i n:Nat}{m:Machine}{v:zA}{rest:List Nat}{o:Oper}{f:FuncId}{args args':Array Value}{w':World}{fr:wC}{c:Frame}
section
variable {P:Program}{C:lA}{B N:Nat}{I:World->Prop}{μ ν:Mu}{H H':xA}{w:World}{tm:Tm}{R:jJ}{acs:List wC}{base cs:List Frame}
variable {b:Frame}{tmps:Array Value}{ds:List Deferred}{k:List qE}{k':List Item}{all:Array Oper}{olds:List (Nat × List Nat)}{anc:Tr Nat}{old:Tm}{D:Nat}{S:Nat->Bool}{order:List Nat}
def dG.slots{tmps':Array Value}{todo:List Item}(h:dG μ R (b.atR ⟨tmps,ds⟩ todo))(hs:tmps'.size=R.n):dG μ R (b.atR ⟨tmps',ds⟩ todo):=⟨h.fn,hs,h.defers,h.mode,h.kind,h.round⟩
theorem dE.cut (h:dE μ n tm tmps):dE μ n tm.cut tmps:=by
 refine⟨h.1,fun i v hv=>h.2 i v ?_⟩
 unfold Tm.cut Tm.get at hv;unfold Tm.get;simp only[dJ]at hv ⊢
 split at hv
 ·simp_all
 ·cases hv
theorem zaz(hS:cJ P C B N I)(hH:tB B N μ H w)(hcs:cF C μ acs cs)(hR:dG μ R (b.atR ⟨tmps,ds⟩ []))(hk:xD (sG μ) k k')
  (hr:jF μ all olds anc R.n old tm D S order tmps) (hst:oJ all.toList anc [] D=true) (hp:nH C μ acs.length H all olds R.n old tm D S) :
  bD P C B N μ base (lone (b.atR ⟨tmps,ds⟩ (.inRegion all order::k')) (cs++base) w) w (Eb C k tm R acs H):=by
 obtain⟨tmps',μ',w',s,g,t⟩:=regEnd (b:=b) (k:=k') (cs:=cs++base) (ds:=ds) hS.tys hst order S tmps μ w hH hr hp
 refine bD.of_steps s g.le g.below ?_
 exact fZ g.heap (hcs.monoD fun d hd=>g.pd d (by omega)) ((hR.mono g.le).slots t.1) t (hk.mono fun _ _ r=>r.mono g.le) (.refl _ _)
def zni(hS:cJ P C B N I)(hH:tB B N μ H w)(hcs:cF C μ acs cs)(hR:dG μ R (b.atR ⟨tmps,ds⟩ []))(ht:dE μ R.n tm tmps)(hk:xD (sG μ) k k'){id:Nat} :
  bD P C B N μ base (lone (b.atR ⟨tmps,ds⟩ (.code (.region id all true)::k')) (cs++base) w) w (Kj id all C k tm R acs H):=by
 unfold Kj
 cases hx:ob (ob (C.plans.get R.fn) fun t=>t.get id) fun p=>wB (tU all p) <| ob (zS C H all R.n tm.cut p.olds p.first tm.cut) fun tm'=>some (⟨⟨.reg all tm.cut p.olds p.stages::k,tm',R⟩,acs,H⟩:wR)with
 | none=>exact trivial
 | some s=>
  simp only[sA,vB]at hx;obtain⟨p,_,hok,tm',hl,hx⟩:=hx
  cases hx;obtain⟨anc,D,ro,h1,h2⟩:=zbd hok
  obtain⟨r0,p0⟩:=zeo (C:=C) (H:=H) (dp:=acs.length) hS.mixed ro ht.cut (w.tape w.drawn (.order b.fn id))
  obtain⟨r1,p1⟩:=Rx _ _ _ hl h1 r0 p0
  exact⟨μ,_,cs,_,.one stepR_region_draw,fun _ _ h=>h,(Below.refl N w).drew,hH.drew,⟨hR.todo,by rw[yab hR.running];exact .reg r1 h2 p1 hk⟩,hcs⟩
theorem zbn(hH:tB B N μ H w)(hcs:cF C μ acs cs)(hR:dG μ R (b.atR ⟨tmps,ds⟩ []))(hk:xD (sG μ) k k'){st:vG}{stages:List vG}{D2:Nat}
  (hr:jF μ all olds anc R.n old tm D S order tmps) (h1:vQ all.toList st.lights D=some D2) (h2:oJ all.toList anc stages D2=true) (hw:cY C μ acs.length all olds R.n old tm D S st.again) :
  bD P C B N μ base (lone (b.atR ⟨tmps,ds⟩ (.inRegion all order::k')) (cs++base) w) w (Kh all old olds st stages C k tm R acs H):=by
 unfold Kh
 cases hx:wB (Dp C H all old olds tm st.again) (ob (zS C H all R.n old olds st.lights tm) fun tm=>some (⟨⟨.reg all old olds stages::k,tm,R⟩,acs,H⟩:wR))with
 | none=>exact trivial
 | some s=>
  simp only[sA,vB]at hx;obtain⟨ha,tm',hl,hx⟩:=hx
  cases hx;obtain⟨r1,p1⟩:=Rx _ _ _ hl h1 hr (zac hw ha)
  exact⟨μ,_,cs,w,.refl _ _,fun _ _ h=>h,Below.refl N w,hH,⟨hR.todo,by rw[yab hR.running];exact .reg r1 h2 p1 hk⟩,hcs⟩
def UJ(hH:tB B N μ H w)(hcs:cF C μ acs cs)(hR:dG μ R (b.atR ⟨tmps,ds⟩ []))(ht:dE μ R.n tm tmps) {todo:List qE}{btodo:List Item}
  (hs:Steps P m (lone { b.atR ⟨tmps,ds⟩ btodo with mode:=.returning } (cs++base) w)):bD P C B N μ base m w (.next ⟨lZ ⟨todo,tm,R⟩ .returning,acs,H⟩):=
 ⟨μ,_,cs,w,hs,fun _ _ h=>h,Below.refl N w,hH,⟨⟨hR.fn,hR.size,hR.defers,trivial,hR.kind,hR.round⟩,ht⟩,hcs⟩
theorem Hy{dst:Option Tmp}{v:Value}:Act.put ⟨tmps,ds⟩ dst v=⟨(Act.put ⟨tmps,ds⟩ dst v).tmps,ds⟩:=by unfold Act.put;cases dst<;>rfl
theorem Us    {cs:List Frame}(ho:all[i]?=some o)(hw:Region.wanted o (yielded all tmps)=true)(hd:∀c,o.op≠.defer c)
  (h:zR P B N μ w (Act.eval ⟨tmps,ds⟩) o v H') :
  ∃v' w' μ',step P (lone (b.atR ⟨tmps,ds⟩ (.inRegion all (i::rest)::k')) cs w)=.next (lone (b.atR ⟨(Act.put ⟨tmps,ds⟩ o.dst v').tmps,ds⟩ (.inRegion all rest::k')) cs w') ∧
   μ.le μ'/\tB B N μ' H' w'/\Below N w w'/\uA μ' v v':=by
 obtain⟨v',w',μ',h1,h2,h3,h4,h5⟩:=h
 refine⟨v',w',μ',?_,h2,h3,h4,h5⟩
 rw[<- Hy];grind [Xc,Oper.semAt_eq,TC]
theorem EW     {cs:List Frame} (ho:all[i]?=some o)(hw:Region.wanted o (yielded all tmps)=true)(hd:∀c,o.op≠.defer c)
  (h:(execOp (Act.eval ⟨tmps,ds⟩) o).run P w=.ok (.enter f args) w') :
  step P (lone (b.atR ⟨tmps,ds⟩ (.inRegion all (i::rest)::k')) cs w)=.next (lone (Frame.enter P f args .normal) (b.atR ⟨tmps,ds⟩ (.inRegion all (i::rest)::k')::cs) w'):=
 step_lone_go (by
  rw[stepGR_op (a:=⟨tmps,ds⟩) ho hw,Oper.semAt_eq _ _ _ hd]
  simp_all [stepG.apply,Frame.atR])
def PX     {cs:List Frame}(ho:all[i]?=some o)(hw:Region.wanted o (yielded all tmps)=true)(hd:∀c,o.op≠.defer c)
  (h:(execOp (Act.eval ⟨tmps,ds⟩) o).run P w=.ok (.enter f args) w) {R:Value->World->Prop} (hc:Calls P f args w fun e w'=>∃v',e=.returned v'/\R v' w') :
  ∃v' w',Steps P (lone (b.atR ⟨tmps,ds⟩ (.inRegion all (i::rest)::k')) cs w) (lone (b.atR ⟨(Act.put ⟨tmps,ds⟩ o.dst v').tmps,ds⟩ (.inRegion all rest::k')) cs w')/\R v' w':=by
 obtain⟨e,w',fr,⟨v',rfl,h1⟩,h3,_,h5⟩:=hc (b.atR ⟨tmps,ds⟩ (.inRegion all (i::rest)::k')::cs)
 refine⟨v',w',?_,h1⟩
 refine .head (EW ho hw hd h) (Steps.trans h3 (.one ?_))
 rw[step_leave_returned h5,Frame.finish_atR,ho,<- Hy];rfl
theorem tB.below (hH:tB B N μ H w)(hb:Below w.heap.size w w'):tB B N μ H w':=by
 refine⟨hH.base,hH.glob,hH.low,hH.next,Nat.le_trans hH.size hb.size,hH.fresh,fun a x i hx h1=>?_,fun a i ha hi=>?_,hH.inj,hH.pnd⟩
 ·obtain⟨o,h2,h3⟩:=hH.blk a x i hx h1
  have hlt:i.b<w.heap.size:=(ybe.1 h2).1
  exact⟨o,by rw[hb.block _ hlt];exact h2,h3⟩
 ·obtain⟨h1,h2,h3⟩:=hH.own a i ha hi
  exact⟨h1,Nat.lt_of_lt_of_le h2 hb.size,h3⟩
theorem yU{g:List zA->xA->Option zA} {al:List zA}  {H':xA}(hv:rL g al H=some (v,H'))(hH:tB B N μ H w)
  (k:g al H=some v->(callFunc f args').run P w=.ok (.enter f args') w/\Calls P f args' w fun e w'=>∃v',e=.returned v'/\uA μ v v'/\Below w.heap.size w w') :
  (H'=H/\∃v',(callFunc f args').run P w=.ok (.value v') w/\uA μ v v') ∨
   ((callFunc f args').run P w=.ok (.enter f args') w/\Calls P f args' w fun e w'=>∃v' μ',e=.returned v'/\μ.le μ'/\tB B N μ' H' w'/\Below N w w'/\uA μ' v v'):=by
 unfold rL at hv;rw[sA]at hv;obtain⟨u,h1,h2⟩:=hv
 cases h2;obtain⟨h3,h4⟩:=k h1
 exact .inr ⟨h3,h4.mono fun e w' hh=>by obtain⟨v',g1,g2,g3⟩:=hh;exact⟨v',μ,g1,μ.le_refl,hH.below g3,g3.mono hH.size,g2⟩⟩
theorem dE.wanted (R:dE μ n tm tmps) {w:Bool}(h:kF o.guard all tm=some w):Region.wanted o (yielded all tmps)=w:=by
 unfold kF Kq at h;unfold Region.wanted
 cases hg:o.guard with
 | none=>rw[hg]at h;cases h;rfl
 | some jw=>
  obtain⟨j,want⟩:=jw
  rw[hg]at h;simp only[Kp,sA,lG]at h;obtain⟨d,⟨u,hu,hud⟩,v,hv,h⟩:=h
  have hu':all[j]?=some u:=by simp_all
  have hy:yielded all tmps j=match tmps[d]? with | some (.bool b)=>some b | _=>none:=by
   grind [yielded]
  simp only[];rw[hy];have rel:=R.2 d v hv
  by_cases hd:d<n
  ·have hs:d<tmps.size:=by rw[R.1];exact hd
   have e1:tmps[d]?=some (tmps.getD d undef):=by simp_all
   rw[e1];generalize tmps.getD d undef=x at rel
   cases hb:v.asBool with
   | some b=>
    rw[hb]at h;have:v=.bool b:=by cases v<;>simp[zA.asBool]at hb;rw[hb]
    rw[this,uA]at rel;subst rel;simp only[Option.some.injEq]at h;rw[<- h,xV]
    cases b<;>cases want<;>rfl
   | none=>
    rw[hb]at h
    cases h
    cases x with
    | bool b=>rw[CU rel]at hb;cases hb
    | _=>rfl
  ·have e1:tmps[d]?=none:=by simp[R.1];omega
   rw[e1];rw[Ja (by simp_all)]at rel
   cases hb:v.asBool with
   | some b=>
    have:v=.bool b:=by cases v<;>simp[zA.asBool]at hb;rw[hb]
    rw[this,uA]at rel
    cases rel
   | none=>simp_all
def Ya    {v':Value} (hw:kJ C μ acs.length none fr c)(hcs:cF C μ acs cs)(hm:μ.le ν)(hH:tB B N ν H' w')(hb:Below N w w')(hv:uA ν v v')
  (hs:Steps P m (lone (c.finish v') (cs++base) w')):bD P C B N μ base m w (Fa v H' C fr acs H):=by
 unfold Fa
 cases hx:ob (pH fr v) fun fr=>some (⟨fr,acs,H'⟩:wR)with
 | none=>exact trivial
 | some s=>
  rw[sA]at hx;obtain⟨fr',hf,hx⟩:=hx
  cases hx;exact⟨ν,_,cs,w',hs,hm,hb,hH,Ga (hw.mono hm) hf hv,hcs.mono hm⟩
theorem Nr{dp:Nat}(hF:Dx P C){f:Nat}{args:List zA} {d:Bool}{g:wC}{cur:Option xA}(h:eJ C f args d=some g)(hl:oB μ args args'.toList) :
  kJ C μ dp cur g (Frame.enter P f args' (if d then .deferred else .normal))/\∃fn,C.fns.get f=some fn/\fn.body.isSome=true:=by
 unfold eJ at h;simp only[sA,vB,ybb,fE]at h;obtain⟨fn,hfn,c,hc,k,hk,⟨h1,h2⟩,h3⟩:=h
 cases h3;obtain⟨h4,_⟩:=hF f fn hfn
 have hsz:args'.size=args.length:=by have:=hl.length;omega
 rw[lD]at h1 h2;have size:(Frame.enter P f args' (if d then .deferred else .normal)).tmps.size=fn.ntmps:=by
  grind [Frame.enter]
 refine⟨⟨⟨rfl,size,.nil,trivial,rfl,trivial⟩,?_⟩,fn,hfn,by grind⟩
 show oN C μ dp fn.ntmps cur [.code c] ⟨k,Tr.ofList args,[]⟩ (Frame.enter P f args' (if d then .deferred else .normal)).todo (Frame.enter P f args' (if d then .deferred else .normal)).tmps
 have todo:(Frame.enter P f args' (if d then .deferred else .normal)).todo=[.code c]:=by grind [Frame.enter]
 rw[todo];refine .plain (.cons (.code c) .nil) ⟨size,fun i v hv=>?_⟩
 unfold Tm.get at hv;simp only[dJ]at hv;split at hv
 ·rw[Tr.get_ofList]at hv
  obtain⟨x,hx,hr⟩:=hl.get hv
  have hi:i<args'.size:=by grind
  simp_all [Frame.enter,yaj]
 ·cases hv
theorem za7(hF:Dx P C)  {f:Nat}{args:List zA} (hw:kJ C μ acs.length none fr c)(hcs:cF C μ acs cs)(hH:tB B N μ H w)
  (hs:∀fn,C.fns.get f=some fn->fn.body.isSome=true->∃args',oB μ args args'.toList/\Steps P m (lone (Frame.enter P f args' .normal) (c::(cs++base)) w)) :
  bD P C B N μ base m w (Lv f args C fr acs H):=by
 unfold Lv
 cases hx:eJ C f args false with
 | none=>exact trivial
 | some g=>
  obtain⟨fn,h1,h2⟩:∃fn,C.fns.get f=some fn/\fn.body.isSome=true:=by
   grind [eJ,sA]
  obtain⟨args',h3,h4⟩:=hs fn h1 h2
  exact⟨μ,_,c::cs,w,h4,fun _ _ h=>h,Below.refl N w,hH,(Nr hF hx h3).1,.cons hw hcs⟩
end
end
section
variable {μ:Mu}{dp n:Nat}{tm:Tm}{tmps:Array Value}{C:lA}{cur:Option xA}
theorem MV:∀(l:List Oper) (t:Tr zA) (i:Nat) (v:zA),(Jf l t).get i=some v->t.get i=some v/\∀o∈l,o.dst≠some i:=by
 intro l;induction l with
 | nil=>intro t i v h;exact⟨h,fun _ ho=>by cases ho⟩
 | cons o l ih=>
  grind [Jf,Tr.get_del]
def jF.left {all:Array Oper}{olds:List (Nat × List Nat)}{anc:Tr Nat} {old:Tm}{D:Nat}{S:Nat->Bool}{order:List Nat} (R:jF μ all olds anc n old tm D S order tmps) :
  dE μ n ⟨tm.k,Jf all.toList tm.v,[]⟩ tmps:=by
 refine⟨R.size,fun t v hv=>?_⟩
 unfold Tm.get at hv;simp only[dJ]at hv;split at hv
 case isFalse=>cases hv
 rename_i hk;obtain⟨h1,h2⟩:=MV _ _ _ _ hv
 have hv:tm.get t=some v:=by grind [Tm.get,dJ]
 have hw:∀(i:Nat) (o:Oper),all[i]?=some o->o.dst=some t->False:=fun i o ho hd=>h2 o (by
  grind) hd
 by_cases hn:t<n
 ·have k:=R.keep t hn fun i o a b=>(hw i o a b).elim
  exact R.past t v hn (fun i o a b=>(hw i o a b).elim) (by simp_all)
 ·rw[Ja (by rw[R.size];omega)]
  exact R.big t v (by omega) (.inl hv)
def oN.left    {todo:List qE} {btodo:List Item} (h:oN C μ dp n cur todo tm btodo tmps):dE μ n (Mr todo tm) tmps:=by
 cases h with
 | plain a t=>
  cases a with
  | nil=>exact t
  | cons x l=>cases x<;>exact t
 | reg a _ _ _=>exact a.left
 | mid a _ _ _ _=>exact a.left
 | wait a _ _ _ _=>exact a.left
theorem xD.append{α β:Type}{R:α->β->Prop}{l l':List α}{m m':List β}(h:xD R l m)(h':xD R l' m'):xD R (l++l') (m++m'):=by
 induction h with
 | nil=>exact h'
 | cons a _ ih=>exact .cons a ih
def dE.left    (h:dE μ n tm tmps)(todo:List qE):dE μ n (Mr todo tm) tmps:=by
 unfold Mr;split
 ·refine⟨h.1,fun t v hv=>h.2 t v ?_⟩
  unfold Tm.get at hv ⊢
  simp only[dJ]at hv ⊢
  split at hv
  ·grind [MV]
  ·cases hv
 ·exact h
def HG   {cur':Option xA}{fr:wC}{b:Frame}{l:List Dy}{l':List PanicEntry}(h:kJ C μ dp cur fr b)(hl:xD (Dv μ) l l'):kJ C μ dp cur' (gV fr l) (b.raise l'):=by
 have t:dE μ fr.R.n (Mr fr.todo fr.tm) b.tmps:=by
  have:=h.body
  split at this
  ·exact this.left
  ·exact this.left _
 have r:=h.rest
 obtain⟨todo,tm,fn,n,defers,mode,deferred,round⟩:=fr
 obtain⟨bfn,btmps,btodo,bdefers,bmode,bkind,bround⟩:=b
 have m:=r.mode
 cases mode<;>cases bmode<;>first | exact m.elim | skip
 ·exact⟨⟨r.fn,r.size,r.defers,hl,r.kind,r.round⟩,t⟩
 ·exact⟨⟨r.fn,r.size,r.defers,hl,r.kind,r.round⟩,t⟩
 ·refine⟨⟨r.fn,r.size,r.defers,?_,r.kind,r.round⟩,t⟩
  show xD (Dv μ) (dD l _) _
  rw[kG];exact hl.append m
end
section
variable {fr:wC}{c:Frame}{m:Machine}{i l:Nat}{rest:List Nat}{o:Oper}{w':World}
section
variable {P:Program}{C:lA}{B N:Nat}{I:World->Prop}{μ ν:Mu}{H H':xA}{w:World}{tm:Tm}{R:jJ}{acs:List wC}{base cs:List Frame}
variable {b:Frame}{tmps:Array Value}{ds:List Deferred}{k:List qE}{k':List Item}{all:Array Oper}
def za6  {v:zA}{v':Value} {cur:Option xA}(hw:kJ C μ acs.length cur fr c)(hcs:cF C μ acs cs)(hH:tB B N μ H w)(hv:uA μ v v')
  (hs:Steps P m (lone (c.raise [{ v:=v',recovered:=false }]) (cs++base) w)):bD P C B N μ base m w (zid v C fr acs H):=
 ⟨μ,_,cs,w,hs,fun _ _ h=>h,Below.refl N w,hH,HG hw (.cons ⟨hv,rfl,rfl⟩ .nil),hcs⟩
theorem TG   {v:Value}{cs:List Frame} (ho:all[i]?=some o)(hw:Region.wanted o (yielded all tmps)=true)(hd:∀c,o.op≠.defer c)
  (h:(execOp (Act.eval ⟨tmps,ds⟩) o).run P w=.halt (.panic v) w') :
  step P (lone (b.atR ⟨tmps,ds⟩ (.inRegion all (i::rest)::k')) cs w)=.next (lone ((b.atR ⟨tmps,ds⟩ (.inRegion all (i::rest)::k')).raise [{ v,recovered:=false }]) cs w'):=
 step_lone_go (by
  simp_all [stepGR_op,Oper.semAt_eq,stepG.apply])
def Mo(hH:tB B N μ H w) {r:fM}(h:fI H l=some r){i:BI}(h4:μ l=some i):B<=l/\∃r',H.t.get l=some (.loop r)/\w.heap[i.b]?=some (.loop r')/\Oq μ r r':=by
 unfold fI at h;rw[vB,fE,sA]at h;obtain⟨h1,x,h2,h3⟩:=h
 have:x=.loop r:=by cases x<;>simp[tA.asLoop]at h3;rw[h3]
 subst this;obtain⟨o,h5,h6⟩:=hH.blk l _ i h2 h4
 rw[dI]at h6;obtain⟨r',rfl,h7⟩:=h6
 refine⟨Nat.le_of_not_lt fun hlt=>?_,r',h2,h5,h7⟩
 have:=(hH.low l _ i hlt h2 h4).2.1
 cases this
theorem Lp {r:Loop}(h:w.heap[l]?=some (.loop r)):(Instr.getLoop l).run P w=.ok r w:=by
 simp_all [Instr.getLoop,getObj,Sem.run]
theorem QR{o:Op}(h:∃c,o=.defer c)(C:lA)(e:vD)(H:xA):(kE o).f C e H=.fail\/∃d,(kE o).f C e H=.defer d:=by
 obtain⟨c,rfl⟩:=h
 show(So c c.callee).f C e H=.fail\/∃d,(So c c.callee).f C e H=.defer d
 cases c.callee with
 | value f=>
  show jZ (ob (nR f c.args e) fun p=>some (.defer ⟨some p.1,0,dD p.2.1 p.2.2⟩))=.fail\/∃d,jZ (ob (nR f c.args e) fun p=>some (.defer ⟨some p.1,0,dD p.2.1 p.2.2⟩))=.defer d
  cases nR f c.args e with
  | none=>exact .inl rfl
  | some p=>exact .inr ⟨_,rfl⟩
 | _=>exact .inl rfl
theorem TZ{n:Nat}:∀(ps:List Nat) (args:List zA) (tm tm':Tm) (args':List Value) (tmps:Array Value),mZ n ps args tm=some tm'->oB μ args args'->dE μ n tm tmps →
  args'.length=ps.length/\dE μ n tm' ((ps.zip args').foldl (fun tmps x=>tmps.setIfInBounds x.1 x.2) tmps):=by
 intro ps;induction ps with
 | nil=>
  intro args tm tm' args' tmps h hl ht
  cases args with
  | nil=>rw[oB]at hl;subst hl;cases h;simp_all
  | cons a as=>cases h
 | cons p ps ih=>
  intro args tm tm' args' tmps h hl ht
  cases args with
  | nil=>cases h
  | cons a as=>
   rw[oB]at hl;obtain⟨v,r,rfl,hv,hl⟩:=hl
   have:=ih as _ _ r (tmps.setIfInBounds p v) h hl (ht.put (ds:=[]) (dst:=some p) hv)
   simp_all
theorem TE   {cs:List Frame} {f:FuncId}{t:Array Value}{as bd:Code} (ho:all[i]?=some o)(hw:Region.wanted o (yielded all tmps)=true)(hd:∀c,o.op≠.defer c)
  (h:(execOp (Act.eval ⟨tmps,ds⟩) o).run P w=.ok (.round l f t as bd) w') :
  step P (lone (b.atR ⟨tmps,ds⟩ (.inRegion all (i::rest)::k')) cs w)=.next (lone (Frame.round l f t as bd .normal) (b.atR ⟨tmps,ds⟩ (.inRegion all (i::rest)::k')::cs) w'):=
 step_lone_go (by
  rw[stepGR_op (a:=⟨tmps,ds⟩) ho hw,Oper.semAt_eq _ _ _ hd]
  simp_all [stepG.apply])
theorem TJ   {cs:List Frame}{d:Deferred} (ho:all[i]?=some o)(hw:Region.wanted o (yielded all tmps)=true)(hb:b.roundOf=none)
  (h:(execOp (Act.eval ⟨tmps,ds⟩) o).run P w=.ok (.defer d) w') :
  step P (lone (b.atR ⟨tmps,ds⟩ (.inRegion all (i::rest)::k')) cs w)=.next (lone ((b.atR ⟨tmps,d::ds⟩ (.inRegion all (i::rest)::k')).finish undef) cs w'):=
 step_lone_go (by
  rw[stepGR_op (a:=⟨tmps,ds⟩) ho hw,hb,Oper.semAt_none]
  simp_all [stepG.apply,Frame.atR])
theorem TF   {cs:List Frame} (ho:all[i]?=some o)(hw:Region.wanted o (yielded all tmps)=true)(hd:∀c,o.op≠.defer c)(hb:b.roundOf=none)
  (h:(execOp (Act.eval ⟨tmps,ds⟩) o).run P w=.ok .recover w') :
  step P (lone (b.atR ⟨tmps,ds⟩ (.inRegion all (i::rest)::k')) cs w)=.next (match tryRecover (b.atR ⟨tmps,ds⟩ (.inRegion all (i::rest)::k')) cs with
   | some (v,cs)=>lone ((b.atR ⟨tmps,ds⟩ (.inRegion all (i::rest)::k')).finish v) cs w'
   | none=>lone ((b.atR ⟨tmps,ds⟩ (.inRegion all (i::rest)::k')).finish .nilIface) cs w'):=by
 have e:(stepG P true { frame:=b.atR ⟨tmps,ds⟩ (.inRegion all (i::rest)::k'),callers:=cs,status:=.running,dying:=none } w).bare=match tryRecover (b.atR ⟨tmps,ds⟩ (.inRegion all (i::rest)::k')) cs with
   | some (v,cs)=>.go { frame:=(b.atR ⟨tmps,ds⟩ (.inRegion all (i::rest)::k')).finish v,callers:=cs,status:=.running,dying:=none } w'
   | none=>.go { frame:=(b.atR ⟨tmps,ds⟩ (.inRegion all (i::rest)::k')).finish .nilIface,callers:=cs,status:=.running,dying:=none } w':=by
  rw[stepGR_op (a:=⟨tmps,ds⟩) ho hw,Oper.semAt_eq _ _ _ hd]
  have hb':(b.atR ⟨tmps,ds⟩ (.inRegion all (i::rest)::k')).roundOf=none:=hb
  simp only[stepG.apply,Sem.runT_eq,h,GStep.bare_after,hb',if_true]
  cases tryRecover (b.atR ⟨tmps,ds⟩ (.inRegion all (i::rest)::k')) cs with
  | none=>rfl
  | some p=>simp_all
 grind [step_lone_go]
theorem za5   {i:BI}{args:List zA}{args':Array Value} (hw:kJ C μ acs.length none fr c)(hcs:cF C μ acs cs)(hH:tB B N μ H w)(hi:μ l=some i)(hl:oB μ args args'.toList)
  (hs:∀f t as bd,(Instr.yield i.b args').run P w=.ok (.round i.b f t as bd) w->Steps P m (lone (Frame.round i.b f t as bd .normal) (c::(cs++base)) w)):bD P C B N μ base m w (Lt l args C fr acs H):=by
 unfold Lt
 cases hx:ob (fI H l) fun r=>ob (mZ r.n r.params args r.tm) fun tm=>some (⟨⟨[.code r.assign,.beginRound,.code r.body],tm,⟨r.fn,r.n,[],.run,false,some l⟩⟩,fr::acs,H⟩:wR)with
 | none=>exact trivial
 | some s=>
  simp only[sA]at hx;obtain⟨r,hr,tm',htm,hx⟩:=hx
  cases hx;obtain⟨_,r',_,h3,h4⟩:=Mo hH hr hi
  obtain⟨h5,h6⟩:=TZ r.params args r.tm tm' args'.toList r'.tmps htm hl h4.tm
  rw[<- h4.params]at h5 h6;have sz:args'.size=r'.params.size:=by omega
  have e:(r'.params.zip args').foldl (fun tmps x=>tmps.setIfInBounds x.1 x.2) r'.tmps=(r'.params.toList.zip args'.toList).foldl (fun tmps x=>tmps.setIfInBounds x.1 x.2) r'.tmps:=by
   rw[<- Array.foldl_toList,Array.toList_zip]
  rw[<- e]at h6;refine⟨μ,_,c::cs,w,hs r'.fn ((r'.params.zip args').foldl (fun tmps x=>tmps.setIfInBounds x.1 x.2) r'.tmps) r'.assign r'.body ?_,fun _ _ h=>h,Below.refl N w,hH,?_,.cons hw hcs⟩
  ·simp_all [Instr.yield,Lp]
  ·refine⟨⟨h4.fn,h6.1,.nil,trivial,rfl,⟨i,hi,rfl⟩⟩,?_⟩
   show oN C μ (acs.length+1) r.n _ _ _ [.code r'.assign,.beginRound,.code r'.body] _
   rw[h4.assign,h4.body];exact .plain (.cons (.code _) (.cons .beginRound (.cons (.code _) .nil))) h6
theorem QV(hS:cJ P C B N I)(hH:tB B N μ H w)(hcs:cF C μ acs cs)    {r:bJ}
  (hfr:kJ C μ acs.length none fr (b.atR ⟨tmps,ds⟩ (.inRegion all (i::rest)::k'))) (ho:all[i]?=some o) (hw:Region.wanted o (yielded all tmps)=true)
  (hdef:(∃c,o.op=.defer c)->r=.fail\/∃d,r=.defer d) (h:xO P C B N μ H w (Act.eval ⟨tmps,ds⟩) o r) :
  bD P C B N μ base (lone (b.atR ⟨tmps,ds⟩ (.inRegion all (i::rest)::k')) (cs++base) w) w (Js r C fr acs H):=by
 have hd:(∀d,r≠.defer d)->r≠.fail->∀c,o.op≠.defer c:=by
  intro h1 h2 c e;simp_all
 cases r with
 | fail=>exact trivial
 | val v H'=>
  have hd:=hd (fun _ h=>by cases h) (fun h=>by cases h)
  rcases h with h | ⟨f,args',h1,h2⟩
  ·obtain⟨v',w',μ',s,hm,hH',hb,hv⟩:=Us (b:=b) (k':=k') (rest:=rest) (cs:=cs++base) ho hw hd h
   refine Ya (H:=H) hfr hcs hm hH' hb hv ?_
   rw[Frame.finish_atR,ho,yai,Hy];exact .one s
  ·obtain⟨v',w',s,μ',hm,hH',hb,hv⟩:=PX (b:=b) (k':=k') (rest:=rest) (cs:=cs++base) (R:=fun v' w'=>∃ μ',μ.le μ'/\tB B N μ' H' w'/\Below N w w'/\uA μ' v v') ho hw hd h1 (h2.mono fun e w' hh=>by simp_all)
   refine Ya (H:=H) hfr hcs hm hH' hb hv ?_
   grind [Frame.finish_atR,Hy]
 | enter f args=>
  have hd:=hd (fun _ h=>by cases h) (fun h=>by cases h)
  exact za7 hS.fns hfr hcs hH fun fn h1 h2=>by
   obtain⟨args',h3,h4⟩:=h fn h1 h2
   exact⟨args',h4,.one (EW ho hw hd h3)⟩
 | round l args=>
  have hd:=hd (fun _ h=>by cases h) (fun h=>by cases h)
  obtain⟨i0,args',hi,hl,hrun⟩:=h
  exact za5 hfr hcs hH hi hl fun f t as bd hy=>.one (TE ho hw hd (by simp_all))
 | defer d=>
  obtain⟨_,d',h1,h2⟩:=h
  show bD P C B N μ base _ w (Yb d C fr acs H)
  unfold Yb
  cases hr:fr.R.roundOf with
  | some l=>exact trivial
  | none=>
   have hb:b.roundOf=none:=by
    have:=hfr.rest.round
    rw[hr]at this;change Dr μ none b.roundOf at this
    cases hb:b.roundOf with
    | none=>rfl
    | some l=>rw[hb]at this;exact this.elim
   simp only[]
   cases hf:pH fr pD with
   | none=>exact trivial
   | some g=>
    have:=Ga (cur:=some H) hfr hf Pf
    refine⟨μ,_,cs,w,.one (TJ ho hw hb h1),fun _ _ h=>h,Below.refl N w,hH,?_,hcs⟩
    rw[Frame.finish_atR]at this ⊢
    rw[Hy]at this ⊢
    have e:∀x,(Act.put ⟨tmps,d'::ds⟩ x undef).tmps=(Act.put ⟨tmps,ds⟩ x undef).tmps:=fun x=>by cases x<;>rfl
    rw[e];exact⟨⟨this.rest.fn,this.rest.size,.cons h2 this.rest.defers,this.rest.mode,this.rest.kind,this.rest.round⟩,this.body⟩
 | panic v=>
  have hd:=hd (fun _ h=>by cases h) (fun h=>by cases h)
  obtain⟨v',h1,h2⟩:=h
  exact za6 hfr hcs hH h2 (.one (TG ho hw hd h1))
 | recover=>
  have hd:=hd (fun _ h=>by cases h) (fun h=>by cases h)
  show bD P C B N μ base _ w (Lu C fr acs H)
  unfold Lu
  cases hr:fr.R.roundOf with
  | some l=>exact trivial
  | none=>
   have hb:b.roundOf=none:=by
    have:=hfr.rest.round
    rw[hr]at this;change Dr μ none b.roundOf at this
    cases hb:b.roundOf with
    | none=>rfl
    | some l=>rw[hb]at this;exact this.elim
   cases hk:fr.R.deferred with
   | false=>exact trivial
   | true=>
    have hkind:b.kind=.deferred:=by have:=hfr.rest.kind;rw[hk]at this;exact this
    cases hcs with
    | nil=>exact trivial
    | @cons c b1 acs1 cs1 hc hcs1=>
     have st:=TF (P:=P) (b:=b) (k':=k') (rest:=rest) (cs:=b1::(cs1++base)) ho hw hd hb h
     have hm:=hc.rest.mode
     have tr:∀todo,tryRecover (b.atR ⟨tmps,ds⟩ todo) (b1::(cs1++base))=match b1.mode with
       | .panicking ({ v,recovered:=false,goexit:=false }::older)=>some (v,{ b1 with mode:=.panicking ({ v,recovered:=true }::older) }::(cs1++base))
       | _=>none:=by
      intro todo;obtain⟨bfn,btmps,btodo,bdefers,bmode,bkind,bround⟩:=b
      simp only at hkind
      subst hkind;rfl
     rw[tr]at st;simp only[]
     cases hcm:c.R.mode with
     | run=>
      rw[hcm]at hm
      cases hbm:b1.mode with
      | run=>
       rw[hbm]at st;simp only[]
       cases hf:pH fr .niliface with
       | none=>exact trivial
       | some g=>exact⟨μ,_,b1::cs1,w,.one st,fun _ _ h=>h,Below.refl N w,hH,Ga hfr hf (by rw[uA]),.cons hc hcs1⟩
      | _=>rw[hbm]at hm;exact hm.elim
     | returning=>
      rw[hcm]at hm
      cases hbm:b1.mode with
      | returning=>
       rw[hbm]at st;simp only[]
       cases hf:pH fr .niliface with
       | none=>exact trivial
       | some g=>exact⟨μ,_,b1::cs1,w,.one st,fun _ _ h=>h,Below.refl N w,hH,Ga hfr hf (by rw[uA]),.cons hc hcs1⟩
      | _=>rw[hbm]at hm;exact hm.elim
     | panicking ch=>
      rw[hcm]at hm
      cases hbm:b1.mode with
      | run=>rw[hbm]at hm;exact hm.elim
      | returning=>rw[hbm]at hm;exact hm.elim
      | panicking ch'=>
       rw[hbm]at hm st
       cases hm with
       | nil=>exact trivial
       | @cons p e older older' hp hold=>
        obtain⟨pv,pr⟩:=p
        cases pr with
        | true=>exact trivial
        | false=>
         obtain⟨ev',er,eg⟩:=e
         obtain⟨q1,q2,q3⟩:=hp
         simp only at q1 q2 q3
         subst q2 q3
         simp only[]
         cases hf:pH fr pv with
         | none=>exact trivial
         | some g=>
          have oH:=Ga (cur:=some H) hfr hf q1
          refine⟨μ,_,{ b1 with mode:=.panicking ({ v:=ev',recovered:=true }::older') }::cs1,w,.one st,fun _ _ h=>h,Below.refl N w,hH,oH,.cons ?_ hcs1⟩
          refine⟨⟨hc.rest.fn,hc.rest.size,hc.rest.defers,.cons ⟨q1,rfl,rfl⟩ hold,hc.rest.kind,hc.rest.round⟩,?_⟩
          have:=hc.body
          rw[hcm]at this;exact this
end
end
section
variable {a e:RE}{b:Nat}{l s:List RE}
section
variable {P:Program}{C:lA}{B N:Nat}{μ:Mu}{H H' Hs:xA}{w:World}
def RE.on(C:lA)(e:RE)(x:tA):Option tA:=
 match e with
 | .st b off l=>wB (!Nat.blt b C.base) (ob x.asCells fun c=>wB (Nat.ble (off+aA l) c.2.1&&fD zA.one l) (some (.cells (c.1.setMany l off) c.2.1 c.2.2)))
 | .up b k v=>wB (!Nat.blt b C.base) (ob x.asMap fun m=>some (.map (dD m [(k,v)])))
theorem Og  : Bn C H e=some H' ↔ ∃x y,H.t.get e.blk=some x/\e.on C x=some y/\H'=setBlk H e.blk y:=by
 cases e with
 | st b off l=>
  grind [Bn,yJ,qD,RE.on,RE.blk,sA,vB]
 | up b k v=>
  grind [Bn,fK,RE.on,RE.blk,sA,vB]
theorem Fy{a:Nat}{x:tA}:(setBlk H b x).t.get a=if a=b then some x else H.t.get a:=Tr.get_set _ _ _ _
def fS(a b:RE):Prop:=a.blk≠b.blk\/∃c k v k' v',a=.up c k v/\b=.up c k' v'/\tI k k'=some false
def fS.symm{b:RE}(h:fS a b):fS b a:=by
 rcases h with h | ⟨c,k,v,k',v',rfl,rfl,h⟩
 ·exact .inl fun e=>h e.symm
 ·exact .inr ⟨c,k',v',k,v,rfl,rfl,Mx h⟩
def zde{b:RE}(h:CB a b=true):fS a b:=by
 unfold CB at h;rw[rD]at h;split at h
 ·rename_i e
  cases a with
  | st=>cases h
  | up c k v=>
   cases b with
   | st=>cases h
   | up c' k' v'=>
    have e:c=c':=fC.1 e
    subst e;simp only[IS]at h;split at h
    ·rename_i r hr
     cases r with
     | true=>cases h
     | false=>exact .inr ⟨c,k,v,k',v',rfl,rfl,hr⟩
    ·cases h
 ·rename_i e
  exact .inl fun k=>e (fC.2 k)
def QQ:∀ {l:List RE},Uf l=true->l.Pairwise fS
 | [],_=>.nil
 | a::l,h=>by
  unfold Uf at h;rw[ybb,vI,ycb]at h;exact .cons (fun b hb=>zde (h.1 b hb)) (QQ h.2)
def rJ (b:Nat):List RE->List (zA × zA)
 | []=>[]
 | .st _ _ _::l=>rJ b l
 | .up c k v::l=>if c=b then(k,v)::rJ b l else rJ b l
def Td{b:Nat}:∀ {l m:List RE},rJ b (l++m)=rJ b l++rJ b m
 | [],_=>rfl
 | .st _ _ _::l,m=>Td (l:=l)
 | .up c k v::l,m=>by
  rw[List.cons_append,rJ,rJ,Td (l:=l)]
  split<;>simp
theorem Jc{b:Nat}{p:zA × zA}:∀ {l:List RE},p∈rJ b l->.up b p.1 p.2∈l
 | .st _ _ _::l,h=>.tail _ (Jc (l:=l) h)
 | .up c k v::l,h=>by
  rw[rJ]at h;split at h
  ·rename_i e
   subst e;rcases ybs.1 h with rfl | h
   ·grind
   ·exact .tail _ (Jc h)
  ·exact .tail _ (Jc h)
theorem zcf  (h:∀e∈l,e.blk≠b):rJ b l=[]:=by
 cases hx:rJ b l with
 | nil=>rfl
 | cons p r=>
  have:p∈rJ b l:=by simp_all
  exact absurd rfl (h _ (Jc this))
theorem zce {m:List RE}(p:l.Perm m):(rJ b l).Perm (rJ b m):=by
 induction p with
 | nil=>exact .refl _
 | cons x _ ih=>
  cases x with
  | st=>exact ih
  | up c k v=>
   rw[rJ,rJ];split
   all_goals simp_all
 | swap x y l=>
  cases x with
  | st=>cases y<;>exact .refl _
  | up c k v=>
   cases y with
   | st=>exact .refl _
   | up c' k' v'=>
    simp only[rJ];split<;>split<;>first | exact .refl _ | exact .swap _ _ _
 | trans _ _ h1 h2=>exact h1.trans h2
theorem zng  (h:l.Pairwise fS):DK (rJ b l):=by
 unfold DK;induction l with
 | nil=>exact .nil
 | cons x l ih=>
  rw[List.pairwise_cons]at h
  cases x with
  | st=>exact ih h.2
  | up c k v=>
   rw[rJ];split
   ·rename_i e
    subst e;refine .cons (fun p hp=>?_) (ih h.2)
    rcases h.1 _ (Jc hp)with h1 | ⟨_,_,_,_,_,e1,e2,h1⟩
    ·exact absurd rfl h1
    simp_all
   simp_all
structure pN (C:lA) (H:xA) (s:List RE) (Hs:xA):Prop where
 next:Hs.next=H.next
 st:∀b off l,RE.st b off l∈s->∃x y,H.t.get b=some x/\(RE.st b off l).on C x=some y/\Hs.t.get b=some y
 up:∀b k v,RE.up b k v∈s->Hs.t.get b=some (.map (rJ b s))
 no:∀a,(∀e∈s,e.blk≠a)->Hs.t.get a=H.t.get a
theorem pN.nil:pN C H [] H:=⟨rfl,fun _ _ _ h=>(by cases h),fun _ _ _ h=>(by cases h),fun _ _=>rfl⟩
def Ol(C:lA)(H:xA)(e:RE):Prop:=
 match e with
 | .st _ _ _=>∃H',Bn C H e=some H'
 | .up b _ _=>Nat.blt b C.base=false/\H.t.get b=some (.map [])
theorem za3 (h:Hw C H e=true):Ol C H e:=by
 cases e with
 | st b off l=>
  change (!tE (yJ C H b off l))=true at h
  cases hs:yJ C H b off l with
  | none=>rw[hs]at h;cases h
  | some H'=>exact⟨H',hs⟩
 | up b k v=>
  unfold Hw at h;simp only[ybb,ycp]at h;refine⟨h.1,?_⟩
  grind [Tx]
theorem pN.step  (h:pN C H s Hs)(hr:Ol C H e)(ha:∀x∈s,fS x e):∃H',Bn C Hs e=some H'/\pN C H (s++[e]) H'/\(∀b k v,e=.up b k v->∃m,Hs.t.get b=some (.map m)/\Nat.blt b C.base=false/\(∀p∈m,tI k p.1=some false)/\H'=setBlk Hs b (.map (m++[(k,v)]))):=by
 cases e with
 | st b off l=>
  have hne:∀x∈s,x.blk≠b:=fun x hx=>by
   rcases ha x hx with h1 | ⟨_,_,_,_,_,_,h1,_⟩
   ·exact h1
   grind
  obtain⟨H1,h1⟩:=hr
  obtain⟨x,y,hx,hy,rfl⟩:=Og.1 h1
  have hx:H.t.get b=some x:=hx
  have hg:=h.no b hne
  refine⟨setBlk Hs b y,Og.2 ⟨x,y,by show Hs.t.get b=_;simp_all,hy,rfl⟩,⟨h.next,fun b' off' l' hm=>?_,fun b' k v hm=>?_,fun a ha'=>?_⟩,fun _ _ _ e=>by cases e⟩
  ·rcases yaf.1 hm with hm | hm
   ·obtain⟨u,v,g1,g2,g3⟩:=h.st b' off' l' hm
    refine⟨u,v,g1,g2,?_⟩
    rw[Fy,yaa (show ¬ b'=b from hne _ hm)]
    exact g3
   grind [Fy]
  ·rcases yaf.1 hm with hm | hm
   ·rw[Fy,yaa (show ¬ b'=b from hne _ hm),h.up b' k v hm,Td]
    simp[rJ]
   grind
  ·rw[Fy,yaa (fun e=>ha' (.st b off l) (by simp) e.symm)]
   exact h.no a fun e he=>ha' e (by simp[he])
 | up b k v=>
  obtain⟨hb,hm⟩:=hr
  have hst:∀b' off l,RE.st b' off l∈s->b'≠b:=fun b' off l hx=>by
   rcases ha _ hx with h1 | ⟨_,_,_,_,_,h1,_,_⟩
   ·exact h1
   grind
  have hg:Hs.t.get b=some (.map (rJ b s)):=by
   by_cases hex:∃e∈s,e.blk=b
   ·obtain⟨e,he,hb'⟩:=hex
    cases e with
    | st b' off l=>exact absurd hb' (hst _ _ _ he)
    | up b' k' v'=>
     have hb':b'=b:=hb'
     subst hb'
     exact h.up _ _ _ he
   ·have hn:∀e∈s,e.blk≠b:=fun e he hb'=>hex ⟨e,he,hb'⟩
    rw[h.no b hn,hm,zcf hn]
  refine⟨setBlk Hs b (.map (rJ b s++[(k,v)])),Og.2 ⟨_,_,hg,?_,rfl⟩,⟨h.next,fun b' off' l' hm'=>?_,fun b' k' v' hm'=>?_,fun a ha'=>?_⟩,fun b' k' v' e=>?_⟩
  ·simp_all [RE.on,wB,tA.asMap,kG]
  ·rcases yaf.1 hm' with hm' | hm'
   ·obtain⟨u,x,g1,g2,g3⟩:=h.st b' off' l' hm'
    grind [Fy]
   simp_all
  ·rw[Fy,Td]
   by_cases e:b'=b
   ·grind [rJ]
   ·rw[yaa e]
    have:rJ b' [RE.up b k v]=[]:=by grind [rJ]
    rw[this,ycd];rcases yaf.1 hm' with hm' | hm'
    ·exact h.up b' k' v' hm'
    simp_all
  ·rw[Fy,yaa (fun e=>ha' (.up b k v) (by simp) e.symm)]
   exact h.no a fun e he=>ha' e (by simp[he])
  ·cases e
   refine⟨_,hg,hb,fun p hp=>?_,rfl⟩
   rcases ha _ (Jc hp)with h1 | ⟨_,_,_,_,_,e1,e2,h1⟩
   ·exact absurd rfl h1
   grind [Mx]
theorem pN.list (h:pN C H s Hs)(hr:∀e∈l,Ol C H e)(ha:(s++l).Pairwise fS):∀ {H'},Gr C l Hs=some H'->pN C H (s++l) H':=by
 induction l generalizing s Hs with
 | nil=>intro H' hl;cases hl;simp_all
 | cons e l ih=>
  intro H' hl;unfold Gr at hl;rw[sA]at hl;obtain⟨H1,h1,hl⟩:=hl
  have hap:∀x∈s,fS x e:=fun x hx=>by
   grind
  obtain⟨H2,g1,g2,_⟩:=h.step (hr e (.head _)) hap
  rw[h1]at g1;cases g1
  have:=ih g2 (fun x hx=>hr x (.tail _ hx)) (by simp_all) hl
  rwa [ybz]at this
structure HEq' (μ:Mu) (H H':xA):Prop where
 next:H'.next=H.next
 get:∀a,H'.t.get a=H.t.get a\/((∃i,μ a=some i)/\∃m m',H.t.get a=some (.map m)/\H'.t.get a=some (.map m')/\m.Perm m'/\DK m)
def pN.perm{s':List RE}{H1 H2:xA}(h:pN C H s H1)(h':pN C H s' H2)(p:s.Perm s')(ha:s.Pairwise fS)(hm:∀e∈s,∃i,μ e.blk=some i):HEq' μ H1 H2:=by
 refine⟨h'.next.trans h.next.symm,fun a=>?_⟩
 by_cases hex:∃e∈s,e.blk=a
 ·obtain⟨e,he,rfl⟩:=hex
  cases e with
  | st b off l=>
   obtain⟨x,y,g1,g2,g3⟩:=h.st b off l he
   obtain⟨x',y',g1',g2',g3'⟩:=h'.st b off l (p.mem_iff.1 he)
   rw[g1]at g1';cases g1'
   rw[g2]at g2';cases g2'
   exact .inl (g3'.trans g3.symm)
  | up b k v=>exact .inr ⟨hm _ he,_,_,h.up b k v he,h'.up b k v (p.mem_iff.1 he),zce p,zng ha⟩
 ·left
  rw[h.no a fun e he hb=>hex ⟨e,he,hb⟩,h'.no a fun e he hb=>hex ⟨e,p.mem_iff.2 he,hb⟩]
theorem tB.congr'(hH:tB B N μ H w)(h:HEq' μ H H'):tB B N μ H' w:=by
 have hle:∀a y,H'.t.get a=some y->∃x,H.t.get a=some x/\(y=x\/∃m m',x=.map m/\y=.map m'/\m.Perm m'/\DK m):=by
  intro a y hy;rcases h.get a with e | ⟨_,m,m',h1,h2,h3⟩
  all_goals grind
 refine⟨hH.base,hH.glob,fun a x i ha hx hi=>?_,by rw[h.next];exact hH.next,hH.size,fun a ha=>?_,fun a x i hx hi=>?_,hH.own,fun a b x y i j hx hy hi hj ha hb e=>?_,fun a x t hp=>?_⟩
 ·obtain⟨y,hy,hxy⟩:=hle a x hx
  obtain⟨g1,g2,g3⟩:=hH.low a y i ha hy hi
  rcases hxy with rfl | ⟨m,m',rfl,rfl,_⟩
  ·simp_all
  ·exact⟨g1,rfl,rfl⟩
 ·rw[h.next]at ha
  obtain⟨g1,g2⟩:=hH.fresh a ha
  refine⟨g1,?_⟩
  rcases h.get a with e | ⟨_,m,m',h1,_⟩
  all_goals simp_all
 ·obtain⟨y,hy,hxy⟩:=hle a x hx
  obtain⟨o,g1,g2⟩:=hH.blk a y i hy hi
  refine⟨o,g1,?_⟩
  rcases hxy with rfl | ⟨m,m',rfl,rfl,hp,hd⟩
  ·exact g2
  ·obtain⟨es,clock,l',h1,h2,h3⟩:=g2
   refine⟨es,clock,l',h1,?_,h3⟩
   rcases h2 with rfl | ⟨h2,_⟩
   ·exact .inr ⟨hp.symm,hd.perm hp⟩
   ·exact .inr ⟨hp.symm.trans h2,hd.perm hp⟩
 ·obtain⟨x',hx',_⟩:=hle a x hx
  obtain⟨y',hy',_⟩:=hle b y hy
  exact hH.inj a b x' y' i j hx' hy' hi hj ha hb e
 ·obtain⟨g1,g2,g3⟩:=hH.pnd a x t hp
  refine⟨g1,?_,g3⟩
  rcases h.get a with e | ⟨⟨i,hi⟩,_⟩
  all_goals simp_all
theorem zcg(hT:rF P C)(hbase:B<=C.base)(hH:tB B N μ Hs w){e:vD}{ρ:Operand->Value}(hE:oF μ e ρ){o:Oper}{ef:qN}{re:RE}(h1:Ay o.op e=some ef)(h2:iV C ef=some re)
  (h3:Bn C Hs re=some H') (h4:∀b k v,re=.up b k v->∃m,Hs.t.get b=some (.map m)/\Nat.blt b C.base=false/\(∀p∈m,tI k p.1=some false)/\H'=setBlk Hs b (.map (m++[(k,v)]))) :
  zR P B N μ w ρ o pD H'/\∃i,μ re.blk=some i:=by
 obtain⟨dst,op,type,pos,after,guard⟩:=o
 have ups:∀ {t:Nat} {m k x:Operand},(ob (ev m e) fun m=>ob (ev k e) fun k=>ob (ev x e) fun v=>some (qN.upd t m k v))=some ef->Da t m k x C e Hs=.val pD H'/\∃i,μ re.blk=some i:=by
  intro t m k x h1;simp only[sA]at h1;obtain⟨mv,hm,kv,hk,xv,hx,h1⟩:=h1
  cases h1;simp only[iV,sA,vB,ybb]at h2;obtain⟨ty,hty,ke,hke,kty,hkty,⟨hkd,hfit⟩,b,hb,h2⟩:=h2
  cases h2;obtain⟨l,hl,hbb,hfr,rfl⟩:=h4 b kv xv rfl
  have hbm:fK Hs b=some l:=by unfold fK;rw[hl];rfl
  constructor
  ·unfold Da
   simp only[hty,hke,hkty,hkd,hm,hb,hbb,hbm,hk,hfit,hx,qA,wB,cond_true,ycl,Xj hfr];rfl
  ·have:=hE _ _ hm
   rw[Uc]at hb;subst hb;rw[uA]at this;obtain⟨i,hi,_⟩:=this
   exact⟨i,hi⟩
 cases op<;>try (cases h1;done)
 case insert t m k x=>
  obtain⟨g1,g2⟩:=ups h1
  exact⟨(Sn (P:=P) hT hbase hH hE g1).2,g2⟩
 case mapUpdate t m k x=>
  obtain⟨g1,g2⟩:=ups h1
  grind [Sn]
 case store t a x=>
  simp only[Ay,sA]at h1;obtain⟨av,ha,xv,hx,h1⟩:=h1
  cases h1;simp only[iV,sA,vB]at h2;obtain⟨ty,hty,p,hp,hsz,h2⟩:=h2
  cases h2;constructor
  ·refine MR (P:=P) hT hbase hH hE ?_
   unfold Nf;have h3':yJ C Hs p.1 p.2 xv.cells=some H':=h3
   simp only[hty,ha,hp,hx,qA,hsz,wB,cond_true,h3'];rfl
  ·have:=hE _ _ ha
   rw[Gq]at hp;subst hp;rw[uA]at this;obtain⟨i,hi,_⟩:=this
   exact⟨i,hi⟩
end
end
section
variable {G:List Nat}
section
variable {P:Program}{C:lA}{B N:Nat}{μ:Mu}{H H' H1:xA}{w:World}{all:Array Oper}{olds:List (Nat × List Nat)}{anc:Tr Nat}{n:Nat}{old tm tm':Tm}{D D' D1:Nat}{S:Nat->Bool}{order:List Nat}{tmps:Array Value}{ds:List Deferred}{dp:Nat}
variable {b:Frame}{k:List Item}{cs:List Frame}
theorem jF.congrD(h:∀k,tb D k=tb D' k)(R:jF μ all olds anc n old tm D S order tmps):jF μ all olds anc n old tm D' S order tmps:=by
 have e:tb D=tb D':=funext h
 exact⟨R.reg,R.sched,fun i hi=>by rw[<- h];exact R.sub i hi,R.closed,by rw[<- e];exact R.dclosed,R.size,R.now,R.past,fun d hd hw=>R.keep d hd fun i o h1 h2=>by simp_all,R.big⟩
theorem nH.congrD(h:∀k,tb D k=tb D' k)(p:nH C μ dp H all olds n old tm D S):nH C μ dp H all olds n old tm D' S:=fun i hi=>p i (by simp_all)
theorem HW{α:Type}{R:α->α->Prop}(hs:∀a b,R a b->R b a):∀ {l:List α},l.Pairwise R->∀a∈l,∀b∈l,a≠b->R a b
 | [],_,a,ha,_,_,_=>by cases ha
 | x::l,h,a,ha,b,hb,hne=>by
  rw[List.pairwise_cons]at h;rcases ybs.1 ha with rfl | ha'
  ·grind
  ·rcases ybs.1 hb with rfl | hb'
   ·simp_all
   ·exact HW hs h.2 a ha' b hb' hne
def zlg{l m:List Nat}(h1:l.Nodup)(h2:m.Nodup)(h:∀i,i∈l ↔ i∈m):l.Perm m:=(List.perm_ext_iff_of_nodup h1 h2).2 h
theorem zfl{o:Oper}(hl:Nb o.op=true)(ho:Rz C o=true)(e:vD)(H2:xA):(qF o.op).f C e H=(qF o.op).f C e H2:=by
 obtain⟨dst,op,type,pos,after,guard⟩:=o
 cases op<;>try (cases hl;done)
 rename_i c;simp only[Nb]at hl;split at hl
 case h_2=>cases hl
 rename_i hc;simp only[Rz,hc]at ho;simp only[qF,zmg,hc,oT,Sb,mQ]
 cases ht:tD c.argTypes.toList 0 with
 | none=>rfl
 | some t=>
  rw[ht,qA]at ho;simp only[qA]
  cases hx:tD c.args.toList 0 with
  | none=>rfl
  | some x=>
   simp only[qA]
   cases hy:C.tys.get t with
   | none=>rfl
   | some ty=>
    rw[hy]at ho;simp only[qA]
    cases hv:ev x e with
    | none=>rfl
    | some v=>
     simp only[qA];have h6:Nat.beq ty.desc.tag 6=false:=by simp_all
     unfold pU;split
     ·rfl
     ·split
      ·rfl
      ·split
       ·rfl
       ·split
        ·rw[h6];rfl
        ·rfl
theorem HT (hG:CL all anc D G D1)(hlen:aX C all=true){Ds:Nat}{seq:List Nat}(hDs:∀k,tb Ds k=(tb D k||decide (k∈seq)))(hseq:∀i∈seq,S i=true){g:Nat}(hg:g∈G)(hup:∀k,tb (tJ anc g) k=true->S k=true)
  (hp:nH C μ dp H all olds n old tm Ds S) (H2:xA):nH C μ dp H2 all olds n old tm Ds S:=by
 intro j hj hSj;rcases hp j hj hSj with⟨u,wu,vu,pu⟩ | h
 ·refine .inl ⟨u,wu,vu,?_⟩
  rw[hDs]at hj;simp only[ycq,decide_eq_true_eq]at hj;rcases hj with hj | hj
  ·rcases hG.again j u pu.op hj with h | h | h | h
   ·exact pu.pure h H2
   ·exact pu.float h H2
   ·refine⟨pu.op,pu.want,?_,pu.put⟩
    have hlo:Rz C u=true:=by
     unfold aX at hlen;rw[vI,ycb]at hlen;exact hlen u (ycv (by simpa using pu.op))
    have:=pu.val
    grind [zfl]
   simp_all
  simp_all
 simp_all
theorem zf2(hT:rF P C)(hbase:B<=C.base) (hG:CL all anc D G D1)(hlen:aX C all=true){ef:Nat->qN}{re:Nat->RE}(hef:∀i∈G,rY all old olds tm i=some (ef i)/\iV C (ef i)=some (re i))
  (hap:(G.map re).Pairwise fS) (hrd:∀i∈G,Ol C H (re i)):∀(order:List Nat) (S:Nat->Bool) (tmps:Array Value) (μ:Mu) (w:World) (seq:List Nat) (Hs:xA) (Ds:Nat),
  seq.Nodup->(∀i∈seq,i∈G/\S i=true)->pN C H (seq.map re) Hs->(∀i∈seq,∃j,μ (re i).blk=some j)->(∀k,tb Ds k=(tb D k||decide (k∈seq)))->tB B N μ Hs w →
  jF μ all olds anc n old tm Ds S order tmps->nH C μ dp Hs all olds n old tm Ds S →
  ∃(S':Nat->Bool) (order':List Nat) (tmps':Array Value) (μ':Mu) (w':World) (seq':List Nat) (Hs':xA),Steps P (lone (b.atR ⟨tmps,ds⟩ (.inRegion all order::k)) cs w) (lone (b.atR ⟨tmps',ds⟩ (.inRegion all order'::k)) cs w')/\Below N w w'/\μ.lw μ'/\(∀d,d≠dp->μ.ln d μ') ∧
   seq'.Perm G/\pN C H (seq'.map re) Hs'/\(∀i∈seq',∃j,μ' (re i).blk=some j)/\tB B N μ' Hs' w'/\jF μ' all olds anc n old tm D1 S' order' tmps'/\nH C μ' dp Hs' all olds n old tm D1 S'/\(∀i∈seq',S' i=true):=by
 have hapG:∀i∈G,∀j∈G,i≠j->fS (re i) (re j):=by
  rw[List.pairwise_map]at hap;exact HW (fun a b h=>h.symm) hap
 have oH:∀(order:List Nat) (S:Nat->Bool) (tmps:Array Value) (μ:Mu) (w:World) (seq:List Nat) (Hs:xA) (Ds:Nat),
  seq.Nodup->(∀i∈seq,i∈G/\S i=true)->pN C H (seq.map re) Hs->(∀i∈seq,∃j,μ (re i).blk=some j)->(∀k,tb Ds k=(tb D k||decide (k∈seq)))->tB B N μ Hs w →
  jF μ all olds anc n old tm Ds S order tmps->nH C μ dp Hs all olds n old tm Ds S->(∀i∈G,i∈seq) →
  ∃(S':Nat->Bool) (order':List Nat) (tmps':Array Value) (μ':Mu) (w':World) (seq':List Nat) (Hs':xA),Steps P (lone (b.atR ⟨tmps,ds⟩ (.inRegion all order::k)) cs w) (lone (b.atR ⟨tmps',ds⟩ (.inRegion all order'::k)) cs w')/\Below N w w'/\μ.lw μ'/\(∀d,d≠dp->μ.ln d μ') ∧
   seq'.Perm G/\pN C H (seq'.map re) Hs'/\(∀i∈seq',∃j,μ' (re i).blk=some j)/\tB B N μ' Hs' w'/\jF μ' all olds anc n old tm D1 S' order' tmps'/\nH C μ' dp Hs' all olds n old tm D1 S'/\(∀i∈seq',S' i=true):=by
  intro order S tmps μ w seq Hs Ds h1 h2 h3 h4 h5 h6 h7 h8 h9;have hD:∀k,tb Ds k=tb D1 k:=fun k=>by
   rw[h5,hG.done];grind
  exact⟨S,order,tmps,μ,w,seq,Hs,.refl _ _,Below.refl _ _,fun _ _ h=>h,fun d _=>μ.ln_refl d,zlg h1 hG.nodup fun i=>⟨fun h=>(h2 i h).1,h9 i⟩,h3,h4,h6,h7.congrD hD,h8.congrD hD,fun i hi=>(h2 i hi).2⟩
 intro order;induction order with
 | nil=>
  intro S tmps μ w seq Hs Ds h1 h2 h3 h4 h5 h6 h7 h8;refine oH _ S tmps μ w seq Hs Ds h1 h2 h3 h4 h5 h6 h7 h8 fun i hi=>?_
  obtain⟨o,ho,hi2,_⟩:=hG.op i hi
  have:=h7.sub _ (h7.sched i (ybe.1 ho).1)
  simp_all
 | cons i order ih=>
  intro S tmps μ w seq Hs Ds h1 h2 h3 h4 h5 h6 h7 h8;by_cases hall:∀i∈G,i∈seq
  ·grind
  cases hi:tb Ds i with
  | true=>
   obtain⟨o,ho,hS,hb,hs⟩:=h7.sched
   obtain⟨S',tmps',μ1,w1,s1,g1,r1,p1,up⟩:=HU (b:=b) (k:=k) (cs:=cs) (ds:=ds) hT h6 h7 h8 hi
   obtain⟨S2,order',tmps2,μ2,w2,seq2,Hs2,s2,b2,l2,d2,rest⟩:=ih S' tmps' μ1 w1 seq Hs Ds h1 (fun j hj=>⟨(h2 j hj).1,up j (h2 j hj).2⟩) h3 (fun j hj=>by obtain⟨x,hx⟩:=h4 j hj;exact⟨x,g1.le _ _ hx⟩) h5 g1.heap r1 p1
   exact⟨S2,order',tmps2,μ2,w2,seq2,Hs2,.head s1 s2,g1.below.trans b2,fun a x hx=>l2 a x (g1.le a x hx),fun d hd=>Mu.ln_trans (g1.pd d hd) (d2 d hd),rest⟩
  | false=>
   obtain⟨o,ho,hS,hb,hs⟩:=h7.sched
   have hiG:i∈G:=by
    cases hd1:tb D1 i with
    | false=>
     exfalso
     rcases hG.rest i o ho hd1 with h | h
     ·refine hall fun g hg=>?_
      have:=h7.sub g (h7.reg.up h7.closed ho hb (h g hg))
      obtain⟨_,_,hg2,_⟩:=hG.op g hg
      grind
     ·refine h fun j hj=>?_
      have:=h7.sub j (hb j hj)
      rw[h5]at this;rw[hG.done];grind
    | true=>
     rw[hG.done]at hd1;grind
   have hiseq:i∉seq:=fun h=>by
    grind
   obtain⟨o',ho',_,_,hdst⟩:=hG.op i hiG
   rw[ho]at ho';cases ho'
   obtain⟨e1,e2⟩:=hef i hiG
   unfold rY at e1;simp only[sA,vB,lG]at e1;obtain⟨o',ho',wn,hw,hwn,e1⟩:=e1
   have:o'=o:=by
    grind
   subst this;subst hwn;have hwn:=h7.wanted ho hb hw
   obtain⟨Hn,a1,a2,a3⟩:=h3.step (hrd i hiG) (fun x hx=>by
    grind)
   obtain⟨hv,j0,hj0⟩:=zcg (P:=P) (o:=o') hT hbase h6 (h7.erel (ds:=ds) h6.glob ho hS hb) e1 e2 a1 a3
   have hdf:∀c,o'.op≠.defer c:=fun c e=>by rw[e]at e1;cases e1
   obtain⟨v',w',μ',s1,m1,m2,m3,m4⟩:=Us (b:=b) (k':=k) (rest:=order) (cs:=cs) ho hwn hdf hv
   have hD2:∀k,tb (Nat.lor Ds (Bj i)) k=(tb Ds k||k == i):=fun k=>by grind [Pt,Pu]
   have r1:=(h7.mono m1.f).did (D':=Nat.lor Ds (Bj i)) (tm':=tm) ho hD2 (fun d hd=>by grind) (fun _ _=>rfl) m4 (ds:=ds)
   have p0:=HT hG hlen h5 (fun j hj=>(h2 j hj).2) hiG (fun k hk=>h7.reg.up h7.closed ho hb hk) h8 Hn
   have p1:nH C μ' dp Hn all olds n old tm (Nat.lor Ds (Bj i)) (fun k=>S k||k == i):=by
    intro j hj hSj;rw[hD2]at hj;simp only[yal,ycq]at hj hSj;exact(nH.mono (m1.ln dp) p0) j (hj.resolve_right (by grind)) hSj.1
   obtain⟨S2,order',tmps2,μ2,w2,seq2,Hs2,s2,b2,l2,d2,rest⟩:=ih (fun k=>S k||k == i) (Act.put ⟨tmps,ds⟩ o'.dst v').tmps μ' w' (seq++[i]) Hn (Nat.lor Ds (Bj i))
    (by grind)
    (fun j hj=>by
     grind)
    (by grind)
    (fun j hj=>by
     rcases yaf.1 hj with hj | hj
     ·obtain⟨x,hx⟩:=h4 j hj;exact⟨x,m1.f _ _ hx⟩
     ·simp at hj;subst hj;exact⟨j0,m1.f _ _ hj0⟩)
    (fun k=>by
     grind)
    m2 r1 p1
   exact⟨S2,order',tmps2,μ2,w2,seq2,Hs2,.head s1 s2,m3.trans b2,fun a x hx=>l2 a x (m1.f a x hx),fun d hd=>Mu.ln_trans (m1.ln d) (d2 d hd),rest⟩
end
end
end Go.Am
