/- A plan that is true to its region. -/
import Derived.AtR
import Derived.Test.YtefajchlhjcgpaaGreatDoorA02
set_option linter.all false
noncomputable section
namespace Go.Am
open Go Go.RowKit
section
variable {anc t:Tr Nat}{D i k m:Nat}{ops:Array Oper}{st:lG}{r:List lG}{G:List Nat}
def znt(m i:Nat):tb m i=m.testBit i:=by
 have h:Nat.mod (Nat.shiftRight m i) 2=(m >>> i)%2:=rfl
 unfold tb;show Nat.beq ((m >>> i)%2) 1=_
 rw[Nat.testBit,Nat.and_comm,Nat.and_one_is_mod];rcases Nat.mod_two_eq_zero_or_one (m >>> i)with h | h<;>rw[h]<;>rfl
theorem Rw(i j:Nat):tb (Ct i) j=(i == j):=by
 rw[znt];show(1 <<< i).testBit j=_
 rw[Nat.one_shiftLeft,Nat.testBit_two_pow]
 cases h:(i == j)<;>simp_all
theorem Rv(a b j:Nat):tb (Nat.lor a b) j=(tb a j||tb b j):=by
 simp_all [znt]
theorem Ru(j:Nat):tb 0 j=false:=by rw[znt];simp
theorem Lm(e:Edge):Ij e=Region.binds .any e:=by
 unfold Ij Region.binds
 cases e.ground<;>rfl
def Aj(ops:Array Oper)(S:Nat->Bool):Prop:=∀i o,ops[i]?=some o->S i=true->∀j,rM o j->S j=true
def zq1(ops:Array Oper)(k m:Nat):Prop:=∀S,Aj ops S->(∀o,ops[k]?=some o->∀j,rM o j->S j=true)->∀j,tb m j=true->S j=true
def zcq {j:Nat}:∀ {l:List Edge},tb (Kk t l) j=true->∃e∈l,Region.binds .any e=true/\(e.on=j\/tb (pJ t e.on) j=true):=by
 intro l;induction l with
 | nil=>grind [Kk,Ru]
 | cons e l ih=>
  grind [Kk,Rv,Rw,Lm]
def zi1   : pJ (t.set i m) k=if k=i then m else pJ t k:=by
 unfold pJ;rw[Tr.get_set];by_cases h:k=i<;>simp[h]
theorem zd4  : pJ .leaf k=0:=rfl
def qY{α:Type}{l r:List α}{a:α} (h:a::r=l.drop i):l[i]?=some a/\r=l.drop (i+1):=by
 have h1:(l.drop i)[0]?=some a:=by grind
 rw[yde]at h1;refine⟨by omega,?_⟩
 have:r=(l.drop i).drop 1:=by grind
 rw[this,List.drop_drop]
def zj9  : ∀(r:List Oper) (i:Nat) (t:Tr Nat),r=ops.toList.drop i->(∀k,zq1 ops k (pJ t k))->∀k,zq1 ops k (pJ (zqw r i t) k):=by
 intro r;induction r with
 | nil=>intro i t _ h k;exact h k
 | cons o r ih=>
  intro i t hr h;obtain⟨h1,h2⟩:=qY hr
  refine ih (i+1) _ h2 fun k=>?_
  rw[zi1];split
  ·rename_i e;subst e
   intro S hS hp j hj;obtain⟨e,he,hb,hj⟩:=zcq hj
   have ho:ops[k]?=some o:=by simp_all
   have hon:=hp o ho e.on ⟨e,he,hb,rfl⟩
   rcases hj with rfl | hj
   ·exact hon
   ·exact h e.on S hS (fun o' ho'=>hS _ o' ho' hon) j hj
  grind
def zcg  : ∀(r:List Oper) (i:Nat),r=ops.toList.drop i->Ta r i=true->∀k o,i<=k->ops[k]?=some o->∀j,rM o j->j<k:=by
 intro r;induction r with
 | nil=>
  grind [List.drop_eq_nil_iff]
 | cons o r ih=>
  intro i hr h k o' hk ho;obtain⟨h1,h2⟩:=qY hr
  unfold Ta at h;rw[rD]at h;split at h
  ·rename_i h3
   rcases Nat.eq_or_lt_of_le hk with rfl | hk
   ·have:o'=o:=by
     simp_all
    subst this;rintro j ⟨e,he,hb,rfl⟩
    grind [mI,Lm,qC]
   grind
  ·cases h
def WrOk (ops:Array Oper)(i:Nat)(wr:Tr Nat):Prop:=∀d k,wr.get d=some k ↔ k<i/\∃o,ops[k]?=some o/\o.dst=some d
def znd  : ∀(r:List Oper) (i:Nat) (t wr:Tr Nat),r=ops.toList.drop i->i<=ops.size->WrOk ops i t->wrOf r i t=some wr->WrOk ops ops.size wr:=by
 intro r;induction r with
 | nil=>
  intro i t wr hr hi h he
  cases he;grind [List.drop_eq_nil_iff]
 | cons o r ih=>
  intro i t wr hr hi h he;obtain⟨h1,h2⟩:=qY hr
  have ho:ops[i]?=some o:=by simp_all
  have hi':i<ops.size:=(ybe.1 ho).1
  unfold wrOf at he
  cases hd:o.dst with
  | none=>
   rw[hd]at he;refine ih (i+1) t wr h2 hi' (fun d k=>?_) he
   rw[h d k];grind
  | some d0=>
   rw[hd]at he;simp only[]at he
   cases hg:t.get d0 with
   | some x=>simp_all
   | none=>
    rw[hg]at he;refine ih (i+1) _ wr h2 hi' (fun d k=>?_) he
    rw[Tr.get_set];by_cases hdd:d=d0
    ·subst hdd
     rw[yab rfl];constructor
     ·grind
     ·rintro⟨a,o',ho',hd'⟩
      rcases Nat.lt_succ_iff_lt_or_eq.1 a with a | rfl
      ·have:=(h d k).2 ⟨a,o',ho',hd'⟩
       simp_all
      ·rfl
    ·rw[yaa hdd,h d k]
     grind
def zhq {wr:Tr Nat}{olds:List (Nat × List Nat)}:∀(r:List Oper) (i:Nat),r=ops.toList.drop i->zhr wr anc olds r i=true →
  ∀k o,i<=k->ops[k]?=some o->AF (pJ anc k) o.guard=true/\∀t∈eH o.op,AE wr anc k (sF k olds) t=true:=by
 intro r;induction r with
 | nil=>
  grind [List.drop_eq_nil_iff]
 | cons o r ih=>
  intro i hr h k o' hk ho;obtain⟨h1,h2⟩:=qY hr
  unfold zhr at h;rw[rD]at h;split at h
  ·rename_i h3
   rw[rD]at h;split at h
   ·rename_i h4
    rcases Nat.eq_or_lt_of_le hk with rfl | hk
    all_goals grind [mI]
   ·cases h
  ·cases h
structure iY (ops:Array Oper) (olds:List (Nat × List Nat)) (anc:Tr Nat):Prop where
 back:Back ops
 before:∀k,zq1 ops k (pJ anc k)
 one:∀(i j:Nat) (o u:Oper) (d:Nat),ops[i]?=some o->ops[j]?=some u->o.dst=some d->u.dst=some d->i=j
 guard:∀(k:Nat) (o:Oper),ops[k]?=some o->AF (pJ anc k) o.guard=true
 name:∀(k:Nat) (o:Oper) (j:Nat) (u:Oper) (t:Nat),ops[k]?=some o->ops[j]?=some u->u.dst=some t->t∈eH o.op->if t∈sF k olds then j=k\/tb (pJ anc j) k=true else tb (pJ anc k) j=true
def zcd {p:Plan}(h:dV ops p=true):∃anc D,iY ops p.olds anc/\cQ ops.toList p.first 0=some D/\lJ ops.toList anc p.stages D=true:=by
 change AD ops.toList p=true at h
 unfold AD at h;rw[rD]at h;split at h
 case isFalse=>cases h
 rename_i hb
 cases hw:wrOf ops.toList 0 .leaf with
 | none=>simp_all
 | some wr=>
  rw[hw]at h;simp only[]at h;rw[rD]at h;split at h
  case isFalse=>cases h
  rename_i ho
  cases hl:cQ ops.toList p.first 0 with
  | none=>simp_all
  | some D=>
   rw[hl]at h;have wo:WrOk ops ops.size wr:=znd _ 0 _ _ rfl (yaw _) (fun d k=>by simp[Tr.get_leaf]) hw
   have oo:=zhq _ 0 (by rfl) ho
   have wr':∀k o d,ops[k]?=some o->o.dst=some d->wr.get d=some k:=fun k o d h1 h2=>(wo d k).2 ⟨(ybe.1 h1).1,o,h1,h2⟩
   refine⟨_,D,⟨fun i o h1=>zcg _ 0 rfl hb i o (yaw _) h1,zj9 _ 0 _ rfl fun k S _ _ j hj=>?_,?_,fun k o h1=>(oo k o (yaw _) h1).1,?_⟩,rfl,h⟩
   all_goals grind [zd4,Ru,AE,Bl,gC]
def Oe {D':Nat}(h:rZ ops.toList i D=some D'):∃o,ops[i]?=some o/\tb D i=false/\(∀j,rM o j->tb D j=true)/\∀k,tb D' k=(tb D k||k == i):=by
 unfold rZ at h;rw[sA]at h;obtain⟨o,h1,h2⟩:=h
 rw[bG]at h1;rw[sB]at h2;obtain⟨h2,h3⟩:=h2
 cases h3;rw[rD]at h2;split at h2
 ·cases h2
 ·rename_i h4
  refine⟨o,by simp_all,by simp_all,?_,fun k=>by grind [Rv,Rw]⟩
  rintro j ⟨e,he,hb,rfl⟩
  grind [Al,mI,Lm]
def zce {h:Nat}:∀(r:List Oper) (i:Nat),r=ops.toList.drop i->Sz h D r i=true →
  ∀k o,i<=k->ops[k]?=some o->tb D k=false->(∀j,rM o j->tb D j=true)->k=h:=by
 intro r;induction r with
 | nil=>
  grind [List.drop_eq_nil_iff]
 | cons o r ih=>
  intro i hr h k o' hk ho;obtain⟨h1,h2⟩:=qY hr
  unfold Sz at h;rw[rD]at h;split at h
  ·rename_i h3
   rcases Nat.eq_or_lt_of_le hk with rfl | hk
   ·have:o'=o:=by
     simp_all
    subst this;intro hD hj;rw[hD]at h3;simp only[cond_false]at h3;rw[rD]at h3;split at h3
    ·simp_all
    ·exfalso
     have:Al D o'=true:=by
      unfold Al;rw[mI,ycb];intro e he
      cases hb:Ij e with
      | false=>rfl
      | true=>exact hj e.on ⟨e,he,by grind [Lm],rfl⟩
     simp_all
   grind
  ·cases h
def VK  {again:List Nat}:∀(r:List Oper) (i:Nat),r=ops.toList.drop i->Tc m D again r i=true →
  ∀k o,i<=k->ops[k]?=some o->tb D k=true->tb m k=true\/fV o.op=true\/wM o.op=true\/k∈again:=by
 intro r;induction r with
 | nil=>
  grind [List.drop_eq_nil_iff]
 | cons o r ih=>
  intro i hr h k o' hk ho;obtain⟨h1,h2⟩:=qY hr
  unfold Tc at h;rw[rD]at h;split at h
  ·rename_i h3
   rcases Nat.eq_or_lt_of_le hk with rfl | hk
   all_goals grind [Bl]
  ·cases h
def zhs   : ∀(r:List Oper) (i:Nat),r=ops.toList.drop i->zht D r i=true->∀k,i<=k->k<ops.size->tb D k=true:=by
 intro r;induction r with
 | nil=>
  grind [List.drop_eq_nil_iff]
 | cons o r ih=>
  intro i hr h k hk ho;obtain⟨h1,h2⟩:=qY hr
  unfold zht at h;rw[rD]at h;split at h
  ·rename_i h3
   rcases Nat.eq_or_lt_of_le hk with rfl | hk
   all_goals grind
  ·cases h
def VH   (h:lJ ops.toList anc [] D=true):∀k,k<ops.size->tb D k=true:=
 fun k hk=>zhs _ 0 rfl h k (yaw _) hk
def Sx     (h:lJ ops.toList anc (st::r) D=true)(hlt:st.heavy<=ops.size) :
  (∀k o,ops[k]?=some o->tb D k=false->(∀j,rM o j->tb D j=true)->k=st.heavy) ∧
  (∀k o,ops[k]?=some o->tb D k=true->tb (pJ anc st.heavy) k=true\/fV o.op=true\/wM o.op=true\/k∈st.again) ∧
  ∃D1 D2,rZ ops.toList st.heavy D=some D1/\cQ ops.toList st.lights D1=some D2/\lJ ops.toList anc r D2=true:=by
 unfold lJ at h;rw[rD,yaa fun e=>by grind [qC,kD],rD]at h;split at h
 case isFalse=>cases h
 rename_i h1;rw[rD]at h;split at h
 case isFalse=>cases h
 rename_i h2;refine⟨fun k o a b c=>zce _ 0 rfl h1 k o (yaw _) a b c,fun k o a b=>VK _ 0 rfl h2 k o (yaw _) a b,?_⟩
 cases h3:rZ ops.toList st.heavy D with
 | none=>simp_all
 | some D1=>
  grind [pA]
def VJ     (h:lJ ops.toList anc (st::r) D=true)(hlt:ops.size<st.heavy)(hle:st.heavy<=ops.size+ops.size) :
  ∃o D1 D2,ops[st.heavy-(ops.size+1)]?=some o/\wM o.op=true/\rZ ops.toList (st.heavy-(ops.size+1)) D=some D1/\cQ ops.toList st.lights D1=some D2/\lJ ops.toList anc r D2=true:=by
 have e0:Nat.sub st.heavy (Nat.succ (yB ops.toList))=st.heavy-(ops.size+1):=by rw[kD];simp
 unfold lJ at h;rw[rD,yab (qC.2 (by grind [kD])),rD,yaa (fun e=>by grind [qC]),rD,e0]at h
 split at h
 case isFalse=>cases h
 rename_i h1
 cases h3:rZ ops.toList (st.heavy-(ops.size+1)) D with
 | none=>simp_all
 | some D1=>
  rw[h3]at h;simp only[pA]at h
  cases h4:cQ ops.toList st.lights D1 with
  | none=>simp_all
  | some D2=>
   rw[h4]at h;rw[bG]at h1
   cases ho:ops.toList[st.heavy-(ops.size+1)]? with
   | none=>grind
   | some o=>rw[ho]at h1;exact⟨o,D1,D2,by simp_all,h1,rfl,h4,h⟩
structure EF (ops:Array Oper) (anc:Tr Nat) (D:Nat) (G:List Nat) (D1:Nat):Prop where
 op:∀i∈G,∃o,ops[i]?=some o/\tb D i=false/\(∀j,rM o j->tb D j=true)/\o.dst=none
 nodup:G.Nodup
 done:∀k,tb D1 k=(tb D k||decide (k∈G))
 rest:∀k o,ops[k]?=some o->tb D1 k=false->(∀g∈G,tb (pJ anc k) g=true)\/¬ ∀j,rM o j->tb D1 j=true
 again:∀k o,ops[k]?=some o->tb D k=true->fV o.op=true\/wM o.op=true\/Ph o.op=true\/∀g∈G,tb (pJ anc g) k=true
theorem FF {o:Oper}:Al D o=true ↔ ∀j,rM o j->tb D j=true:=by
 unfold Al;rw[mI,ycb];constructor
 ·rintro h j ⟨e,he,hb,rfl⟩
  grind [Lm]
 ·intro h e he
  cases hb:Ij e with
  | false=>rfl
  | true=>exact h e.on ⟨e,he,by grind [Lm],rfl⟩
def okG_ok   : ∀ {G:List Nat} {E D1:Nat},okG ops.toList D G E=some D1->(∀k,tb D k=true->tb E k=true) →
  (∀i∈G,∃o,ops[i]?=some o/\tb E i=false/\(∀j,rM o j->tb D j=true)/\o.dst=none)/\G.Nodup/\∀k,tb D1 k=(tb E k||decide (k∈G)):=by
 intro G;induction G with
 | nil=>intro E D1 h _;cases h;simp_all
 | cons i G ih=>
  intro E D1 h hDE;unfold okG at h;simp only[sA,sB,ybb,ycp,bG]at h;obtain⟨o,ho,⟨⟨h1,h2⟩,h3⟩,h⟩:=h
  have hE:∀k,tb (Nat.lor E (Ct i)) k=(tb E k||i == k):=fun k=>by rw[Rv,Rw]
  obtain⟨g1,g2,g3⟩:=ih h (fun k hk=>by simp_all)
  have hni:i∉G:=fun hi=>by
   grind
  refine⟨fun j hj=>?_,List.nodup_cons.2 ⟨hni,g2⟩,fun k=>?_⟩
  ·rcases ybs.1 hj with rfl | hj
   ·refine⟨o,by simp_all,h1,FF.1 h2,?_⟩
    cases hd:o.dst with
    | none=>rfl
    | some d=>rw[hd]at h3;cases h3
   grind
  grind
def zcc  {D1:Nat}  : ∀(r:List Oper) (i:Nat),r=ops.toList.drop i->Sy anc D1 G r i=true →
  ∀k o,i<=k->ops[k]?=some o->tb D1 k=false->(∀g∈G,tb (pJ anc k) g=true)\/¬ ∀j,rM o j->tb D1 j=true:=by
 intro r;induction r with
 | nil=>
  grind [List.drop_eq_nil_iff]
 | cons o r ih=>
  intro i hr h k o' hk ho;obtain⟨h1,h2⟩:=qY hr
  unfold Sy at h;rw[rD]at h;split at h
  case isFalse=>cases h
  rename_i h3;rcases Nat.eq_or_lt_of_le hk with rfl | hk
  all_goals grind [mI,FF]
def VL     : ∀(r:List Oper) (i:Nat),r=ops.toList.drop i->Tb anc D G r i=true →
  ∀k o,i<=k->ops[k]?=some o->tb D k=true->fV o.op=true\/wM o.op=true\/Ph o.op=true\/∀g∈G,tb (pJ anc g) k=true:=by
 intro r;induction r with
 | nil=>
  grind [List.drop_eq_nil_iff]
 | cons o r ih=>
  intro i hr h k o' hk ho;obtain⟨h1,h2⟩:=qY hr
  unfold Tb at h;rw[rD]at h;split at h
  case isFalse=>cases h
  rename_i h3;rcases Nat.eq_or_lt_of_le hk with rfl | hk
  all_goals grind [mI]
def VI     (h:lJ ops.toList anc (st::r) D=true)(hlt:ops.size+ops.size<st.heavy) :
  ∃D1 D2,EF ops anc D st.again D1/\cQ ops.toList st.lights D1=some D2/\lJ ops.toList anc r D2=true:=by
 unfold lJ at h;rw[rD,yab (qC.2 (by grind [kD])),rD,yab (qC.2 (by grind [kD]))]at h
 split at h
 case h_2=>cases h
 rename_i D2 hg;unfold zcf at hg;simp only[sA,sB,ybb]at hg;obtain⟨D1,h1,⟨h2,h3⟩,h4⟩:=hg
 obtain⟨g1,g2,g3⟩:=okG_ok h1 fun _ h=>h
 exact⟨D1,D2,⟨g1,g2,g3,fun k o a b=>zcc _ 0 rfl h2 k o (yaw _) a b,fun k o a b=>VL _ 0 rfl h3 k o (yaw _) a b⟩,h4,h⟩
end
section
variable {i j:Nat}{v:zA}{o:Oper}
section
variable {P:Program}{C:iA}{μ:Mu}{all:Array Oper}{olds:List (Nat × List Nat)}{anc:Tr Nat}{n:Nat}{old tm:Tm}{D:Nat}{S:Nat->Bool}{order:List Nat}{tmps:Array Value}{ds:List Deferred}
def Ri:vA μ pD undef:=by rw[pD,vA];exact⟨#[],rfl,rfl⟩
def zeg{e:vD}(hg:∀g,g<256->μ g=some ⟨g,true,0,0,true⟩)(ht:∀t v,aY t e=some v->vA μ v (tmps.getD t undef)):gF μ e (Act.eval ⟨tmps,ds⟩):=by
 intro x v h
 cases x with
 | tmp t=>exact ht t v h
 | const c=>exact VM h
 | global g=>
  change Wd g e=some v at h
  unfold Wd at h;rw[rD]at h;split at h
  ·rename_i hlt
   cases h;rw[vA];exact⟨_,hg g (qC.1 hlt),rfl⟩
  ·cases h
 | func f=>
  change xFunc f e=some v at h
  cases h;rw[vA];exact⟨.func f,#[],#[],rfl,rfl,rfl,rfl⟩
theorem yF.erel(hg:∀g,g<256->μ g=some ⟨g,true,0,0,true⟩)(h:yF μ n tm tmps):gF μ (.now tm) (Act.eval ⟨tmps,ds⟩):=
 zeg hg fun t v hv=>h.2 t v hv
theorem Tm.get_set{t:Tm} {x:zA}:(t.set i x).get j=if j=i then some x else t.get j:=by
 unfold Tm.set Tm.get;simp only[vK];by_cases h:Nat.blt i t.k=true
 ·grind [Tr.get_set]
 ·rw[yaa h]
  grind [assoc,vK,gC]
theorem wJ{dst:Option Nat} {t:Nat}:(putA n tm dst v).get t=if dst=some t/\t<n then some v else tm.get t:=by
 unfold putA putB
 cases dst with
 | none=>simp[putNo]
 | some d=>
  grind [Jz,Tm.get_set,qC]
def aS(tm old:Tm)(olds:List (Nat × List Nat))(i:Nat)(o:Oper):vD:=.mixed tm old (sF i olds) (eH o.op)
structure aF (μ:Mu) (all:Array Oper) (olds:List (Nat × List Nat)) (anc:Tr Nat) (n:Nat) (old tm:Tm) (D:Nat) (S:Nat->Bool) (order:List Nat) (tmps:Array Value):Prop where
 reg:iY all olds anc
 sched:zkc all S order
 sub:∀i,S i=true->tb D i=true
 closed:Aj all S
 dclosed:Aj all (tb D)
 size:tmps.size=n
 now:∀(i:Nat) (o:Oper) (d:Nat) (v:zA),all[i]?=some o->o.dst=some d->S i=true->d<n->tm.get d=some v->vA μ v (tmps.getD d undef)
 past:∀(d:Nat) (v:zA),d<n->(∀(i:Nat) (o:Oper),all[i]?=some o->o.dst=some d->S i=false)->old.get d=some v->vA μ v (tmps.getD d undef)
 keep:∀d:Nat,d<n->(∀(i:Nat) (o:Oper),all[i]?=some o->o.dst=some d->tb D i=false)->tm.get d=old.get d
 big:∀(d:Nat) (v:zA),n<=d->(tm.get d=some v\/old.get d=some v)->vA μ v undef
theorem iY.up(R:iY all olds anc)(hS:Aj all S)  (ho:all[i]?=some o)(hp:∀j,rM o j->S j=true)(h:tb (pJ anc i) j=true):S j=true:=
 R.before i S hS (fun o' ho'=>by simp_all) j h
theorem Kx{d:Nat}(h:tmps.size<=d):tmps.getD d undef=undef:=by
 simp_all
theorem aF.erel(R:aF μ all olds anc n old tm D S order tmps)(hg:∀g,g<256->μ g=some ⟨g,true,0,0,true⟩)  (ho:all[i]?=some o)(hi:S i=false)(hp:∀j,rM o j->S j=true) :
  gF μ (aS tm old olds i o) (Act.eval ⟨tmps,ds⟩):=by
 refine zeg hg fun t v h=>?_
 unfold aS at h;simp only[aY]at h;rw[rD]at h;split at h
 case isFalse=>cases h
 rename_i hn;have hn:=(Bl _ _).1 hn
 by_cases hd:t<n
 ·by_cases hw:∃(j:Nat) (u:Oper),all[j]?=some u/\u.dst=some t
  ·obtain⟨j,u,hu,hud⟩:=hw
   have nm:=R.reg.name i o j u t ho hu hud hn
   by_cases hold:t∈sF i olds
   ·rw[yab hold]at nm
    rw[(Bl _ _).2 hold]at h
    simp only[cond_true]at h;have hj:S j=false:=by
     rcases nm with rfl | nm
     ·exact hi
     ·cases hj:S j with
      | false=>rfl
      | true=>
       have:=R.reg.up R.closed hu (fun k hk=>R.closed j u hu hj k hk) nm
       simp_all
    refine R.past t v hd (fun i' o' ho' hd'=>?_) h
    have:=R.reg.one i' j o' u t ho' hu hd' hud
    simp_all
   ·rw[yaa hold]at nm
    have:dH t (sF i olds)=false:=by
     grind [Bl]
    rw[this]at h;simp only[cond_false]at h;exact R.now j u t v hu hud (R.reg.up R.closed ho hp nm) hd h
  ·have none1:∀(i:Nat) (o:Oper),all[i]?=some o->o.dst=some t->S i=false:=fun i o h1 h2=>absurd ⟨i,o,h1,h2⟩ hw
   have k:=R.keep t hd fun i o h1 h2=>absurd ⟨i,o,h1,h2⟩ hw
   refine R.past t v hd none1 ?_
   grind
 ·rw[Kx (by rw[R.size];omega)]
  refine R.big t v (by omega) ?_
  grind
theorem EP {b:Bool}(h:vA μ v (.bool b)):v=.bool b:=by
 cases v<;>rw[vA]at h
 all_goals simp_all
theorem aF.wanted(R:aF μ all olds anc n old tm D S order tmps)  {w:Bool}(ho:all[i]?=some o)(hp:∀j,rM o j->S j=true)(h:cF o.guard all tm=some w) :
  Region.wanted o (yielded all tmps)=w:=by
 have hgd:=R.reg.guard i o ho
 unfold cF Mp at h;unfold Region.wanted
 cases hg:o.guard with
 | none=>rw[hg]at h;cases h;rfl
 | some jw=>
  obtain⟨j,want⟩:=jw
  rw[hg]at h hgd;simp only[Mo,sA,bG]at h;obtain⟨d,⟨u,hu,hud⟩,v,hv,h⟩:=h
  have hu':all[j]?=some u:=by simp_all
  have hj:S j=true:=R.reg.up R.closed ho hp hgd
  have hy:yielded all tmps j=match tmps[d]? with | some (.bool b)=>some b | _=>none:=by
   grind [yielded]
  simp only[];rw[hy];by_cases hd:d<n
  ·have hs:d<tmps.size:=by rw[R.size];exact hd
   have rel:=R.now j u d v hu' hud hj hd hv
   have e1:tmps[d]?=some (tmps.getD d undef):=by simp_all
   rw[e1];generalize tmps.getD d undef=x at rel
   cases hb:v.asBool with
   | some b=>
    rw[hb]at h;have:v=.bool b:=by cases v<;>simp[zA.asBool]at hb;rw[hb]
    rw[this,vA]at rel;subst rel;simp only[Option.some.injEq]at h;rw[<- h,aZ]
    cases b<;>cases want<;>rfl
   | none=>
    rw[hb]at h
    cases h
    cases x with
    | bool b=>rw[EP rel]at hb;cases hb
    | _=>rfl
  ·have e1:tmps[d]?=none:=by simp[R.size];omega
   rw[e1];have rel:=R.big d v (by omega) (.inl hv)
   cases hb:v.asBool with
   | some b=>
    have:v=.bool b:=by cases v<;>simp[zA.asBool]at hb;rw[hb]
    rw[this,vA]at rel
    cases rel
   | none=>simp_all
theorem aF.did {D':Nat}{tm':Tm} {v':Value} (R:aF μ all olds anc n old tm D S (i::order) tmps)(ho:all[i]?=some o)
  (hD:∀k,tb D' k=(tb D k||k == i)) (hput:∀d,o.dst=some d->d<n->tm'.get d=some v) (hother:∀d,(o.dst=some d->n<=d)->tm'.get d=tm.get d) (hv:vA μ v v') :
  aF μ all olds anc n old tm' D' (fun k=>S k||k == i) order (Act.put ⟨tmps,ds⟩ o.dst v').tmps:=by
 obtain⟨o',ho',hi,hp,hs⟩:=R.sched
 rw[ho]at ho';cases ho'
 have htm:∀d,(Act.put ⟨tmps,ds⟩ o.dst v').tmps.getD d undef=if o.dst=some d/\d<n then v' else tmps.getD d undef:=by
  intro d;unfold Act.put
  cases hd:o.dst with
  | none=>simp
  | some d0=>
   simp only[ycx,ycs];by_cases e:d0=d
   ·subst e
    by_cases hn:d0<n
    ·simp[hn,R.size]
    ·simp[hn,R.size]
   grind
 have hsz:(Act.put ⟨tmps,ds⟩ o.dst v').tmps.size=n:=by
  unfold Act.put
  cases o.dst<;>simp[R.size]
 refine⟨R.reg,hs,fun k hk=>?_,?_,?_,hsz,?_,?_,?_,?_⟩
 ·rw[hD]
  simp only[ycq]at hk ⊢
  exact hk.imp (R.sub k) id
 ·intro k u hu hk j hj
  simp only[ycq,beq_iff_eq]at hk ⊢
  rcases hk with hk | rfl
  ·exact .inl (R.closed k u hu hk j hj)
  simp_all
 ·intro k u hu hk j hj
  rw[hD]at hk ⊢
  simp only[ycq,beq_iff_eq]at hk ⊢
  rcases hk with hk | rfl
  ·exact .inl (R.dclosed k u hu hk j hj)
  ·rw[ho]at hu;cases hu
   exact .inl (R.sub j (hp j hj))
 ·intro k u d x hu hud hk hd hx
  rw[htm];by_cases e:o.dst=some d
  ·simp_all
  ·rw[yaa fun h=>e h.1]
   rw[hother d fun h=>absurd h e]at hx;refine R.now k u d x hu hud ?_ hd hx
   grind
 ·intro d x hd hw hx
  rw[htm];have e:o.dst≠some d:=fun e=>by
   grind
  rw[yaa fun h=>e h.1];refine R.past d x hd (fun k u hu hud=>?_) hx
  simp_all
 ·intro d hd hw
  have e:o.dst≠some d:=fun e=>by
   grind
  rw[hother d fun h=>absurd h e];refine R.keep d hd fun k u hu hud=>?_
  simp_all
 ·intro d x hd hx
  refine R.big d x hd ?_
  simp_all
end
end
end Go.Am
namespace Go.Am.HM
open Go Go.Am
variable {b:Nat}{a:zA}{ty:lD}
def HLe (H H':xA):Prop:=∀b y,H.t.get b=some y->H'.t.get b=some y
section
variable {H HA:xA}{e:vD}{C:iA}{v:zA}
theorem dZ(h:HLe H HA) {p:Tr zA × Nat × Option Lo}(hb:qD H b=some p):qD HA b=some p:=by
 unfold qD at hb ⊢;rw[sA]at hb ⊢;obtain⟨y,h1,h2⟩:=hb;exact⟨y,h _ _ h1,h2⟩
theorem Ii(h:HLe H HA) {p:List (zA × zA)}(hb:nL H b=some p):nL HA b=some p:=by
 unfold nL at hb ⊢;rw[sA]at hb ⊢;obtain⟨y,h1,h2⟩:=hb;exact⟨y,h _ _ h1,h2⟩
theorem DL(h:HLe H HA){s d:lD} (hx:gT C s d a H=some v):gT C s d a HA=some v:=by
 unfold gT at hx ⊢
 split at hx
 ·omega
 ·rename_i hk
  rw[sB]at hx ⊢
  refine⟨hx.1,?_⟩
  have hx:=hx.2
  rw[rD]at hx ⊢
  split at hx
  all_goals grind [sA,sB,Ib,dZ]
theorem Yz(h:HLe H HA)  {l r:Option zA}(hx:kN C H ty a l r=some v):kN C HA ty a l r=some v:=by
 have row:∀ {arr e b off len cap},zQ C H arr e b off len cap l r=some v->zQ C HA arr e b off len cap l r=some v:=by
  intro arr e b off len cap hx;unfold zQ at hx ⊢
  simp only[sA]at hx ⊢
  obtain⟨a1,h1,b1,h2,hx⟩:=hx
  refine⟨a1,h1,b1,h2,?_⟩
  cases hb:qD H b with
  | none=>
   have e1:lN H b a1.size cap b1.1 arr=false:=by unfold lN;rw[hb]
   have e2:rO H b a1.size cap b1.1 arr=false:=by unfold rO;rw[hb]
   rw[e1,e2,yay,yay]at hx
   cases hx
  | some c=>
   grind [lN,dZ,rO]
 grind [kN,sA]
theorem AQ(h:HLe H HA){m:zA}{l:List (zA × zA)}(hx:lX H m=some l):lX HA m=some l:=by
 grind [lX,Ii]
theorem BA(h:HLe H HA)  {n:Nat}(hx:yW H ty a=some n):yW HA ty a=some n:=by
 unfold yW at hx ⊢
 split at hx
 all_goals grind [sB,sA,Ii]
theorem alight_mono(h:HLe H HA){o:Op}(hx:(jF o).f C e H=some v):(jF o).f C e HA=some v:=by
 cases o<;>first | exact hx | skip
 case makeFunc fn a b=>cases fn<;>exact hx
 case load t a=>
  change dX t a C e H=some v at hx
  show dX t a C e HA=some v
  unfold dX at hx ⊢
  simp only[sA]at hx ⊢
  grind [dZ]
 case convert s d x=>
  change sQ s d x C e H=some v at hx
  show sQ s d x C e HA=some v
  unfold sQ at hx ⊢
  simp only[sA]at hx ⊢
  grind [DL]
 case slice t x lo hi mx=>
  cases mx with
  | some m=>exact hx
  | none=>
   change Bo t x lo hi C e H=some v at hx
   show Bo t x lo hi C e HA=some v
   unfold Bo at hx ⊢
   simp only[sA]at hx ⊢
   grind [Yz]
 case lookup t x i ok=>
  change eX t x i ok C e H=some v at hx
  show eX t x i ok C e HA=some v
  unfold eX at hx ⊢
  simp only[sA,sB]at hx ⊢
  grind [AQ]
 case call c=>
  change (dU c c.callee).f C e H=some v at hx
  show(dU c c.callee).f C e HA=some v
  cases hc:c.callee with
  | builtin b=>
   rw[hc]at hx
   cases b<;>first | exact hx | skip
   case len=>
    change tR c C e H=some v at hx
    show tR c C e HA=some v
    unfold tR at hx ⊢
    simp only[sA]at hx ⊢
    grind [BA]
  | _=>rw[hc]at hx;exact hx
end
end Go.Am.HM
namespace Go.Am
open Go Go.RowKit
variable {o u:Oper}{e e':vD}{dp i k:Nat}{w:Bool}{v x:zA}{ν:Mu}
theorem ZU{o:Op}(h:fV o=true)(C:iA)(e:vD)(H H':xA):(jF o).f C e H=(jF o).f C e H':=by
 cases o<;>first | (simp[fV]at h;done) | rfl | skip
 case makeFunc fn a b=>cases fn<;>rfl
theorem ZV (h:∀x,ev x e=ev x e')(o:Op)(C:iA)(H:xA):(jF o).f C e H=(jF o).f C e' H:=by
 have hs:∀l,kO l e=kO l e':=fun l=>by unfold kO;rw[funext h]
 have hp:∀l,evp l e=evp l e':=fun l=>by grind [evp]
 have ho:∀x,evo x e=evo x e':=fun x=>by cases x<;>simp[evo,h]
 cases o<;>first | rfl | skip
 case move x=>exact h x
 case assign x=>exact h x
 case pick c a b=>simp only[jF,Pb,h]
 case load t a=>simp only[jF,dX,h]
 case nilCheck x=>simp only[jF,Bq,h]
 case binOp op t x y z=>simp only[jF,yY,h]
 case unOp op t x=>simp only[jF,lUn,h]
 case convert s d x=>simp only[jF,sQ,h]
 case makeInterface t x=>simp only[jF,En,h]
 case makeFunc fn a b=>cases fn<;>simp only[jF,Eo,Kn,Bp,hs]
 case slice t x lo hi mx=>cases mx<;>simp only[jF,Pa,Bo,Bp,h,ho]
 case fieldAddr s x f=>simp only[jF,aX,h]
 case field t x f=>simp only[jF,Ep,h]
 case indexAddr t x i=>simp only[jF,cX,h]
 case index t x i=>simp only[jF,bX,h]
 case extract t i=>simp only[jF,zY,h]
 case build t ps=>simp only[jF,lZ,hp]
 case typeAssert x a u ok=>simp only[jF,xY,h]
 case lookup t x i ok=>simp only[jF,eX,h]
 case call c=>
  have h2:two c e=two c e':=by unfold two;split<;>simp only[h]
  simp only[jF,zpb]
  cases c.callee with
  | builtin b=>cases b<;>simp only[dU,Tp,Bp,tR,fX,iX,h,h2]
  | _=>rfl
theorem OE (h:∀t,aY t e=aY t e')(x:Operand):ev x e=ev x e':=by
 cases x with
 | tmp t=>exact h t
 | _=>rfl
theorem JF{tm tm' old:Tm}{olds:List (Nat × List Nat)}  (h:∀t∈eH o.op,t∉sF i olds->tm'.get t=tm.get t)(C:iA)(H:xA) :
  (jF o.op).f C (aS tm' old olds i o) H=(jF o.op).f C (aS tm old olds i o) H:=by
 grind [ZV,OE,aS,aY,Bl]
section
variable {P:Program}{C:iA}{μ:Mu}{H H':xA}{all:Array Oper}{olds:List (Nat × List Nat)}{anc:Tr Nat}{n:Nat}{old tm tm':Tm}{D:Nat}{S:Nat->Bool}{order:List Nat}{tmps:Array Value}{ds:List Deferred}
structure dO (C:iA) (H:xA) (all:Array Oper) (olds:List (Nat × List Nat)) (n:Nat) (old tm:Tm) (i:Nat) (o:Oper) (w:Bool) (v:zA):Prop where
 op:all[i]?=some o
 want:cF o.guard all tm=some w
 val:if w=true then(jF o.op).f C (aS tm old olds i o) H=some v else v=pD
 put:∀d,o.dst=some d->d<n->tm.get d=some v
theorem dO.pure    (h:dO C H all olds n old tm i o w v)(hp:fV o.op=true)(H':xA):dO C H' all olds n old tm i o w v:=
 ⟨h.op,h.want,by have:=h.val;grind [ZU],h.put⟩
theorem Ns(R:iY all olds anc)(hD:Aj all (tb D))  (ho:all[i]?=some o)(hi:tb D i=true\/(i=k/\∀j,rM o j->tb D j=true))(hu:all[k]?=some u)(hk:tb D k=false) :
  (∀t∈eH o.op,t∉sF i olds->u.dst≠some t)/\(∀j w,o.guard=some (j,w)->∀g,all[j]?=some g->∀d,g.dst=some d->u.dst≠some d):=by
 have up:∀j,tb (pJ anc i) j=true->tb D j=true:=fun j hj=>R.up hD ho (by
  rcases hi with hi | ⟨_,hi⟩
  ·exact fun j hj=>hD i o ho hi j hj
  omega) hj
 constructor
 ·intro t ht hto e
  have:=R.name i o k u t ho hu e ht
  simp_all
 ·intro j w hg g hgj d hd e
  have h1:=R.guard i o ho
  rw[hg]at h1;have h2:=up j h1
  have:=R.one j k g u d hgj hu hd e
  simp_all
theorem Mm (h:∀j w,o.guard=some (j,w)->∀g,all[j]?=some g->∀d,g.dst=some d->tm'.get d=tm.get d):cF o.guard all tm'=cF o.guard all tm:=by
 unfold cF Mp
 cases hg:o.guard with
 | none=>rfl
 | some jw=>
  obtain⟨j,w⟩:=jw
  simp only[Mo,bG]
  cases hj:all.toList[j]? with
  | none=>rfl
  | some g=>
   simp only[pA]
   cases hd:g.dst with
   | none=>rfl
   | some d=>simp only[pA];rw[h j w hg g (by simp_all) d hd]
theorem dO.keep(R:iY all olds anc)(hD:Aj all (tb D))    (h:dO C H all olds n old tm i o w v)(hi:tb D i=true)(hu:all[k]?=some u)(hk:tb D k=false) :
  dO C H all olds n old (putA n tm u.dst x) i o w v:=by
 obtain⟨r1,r2⟩:=Ns R hD h.op (.inl hi) hu hk
 refine⟨h.op,?_,?_,?_⟩
 ·rw[Mm (tm:=tm) fun j w hg g hj d hd=>by rw[wJ,yaa fun e=>r2 j w hg g hj d hd e.1]]
  exact h.want
 ·have:=h.val
  grind [JF,wJ]
 ·intro d hd hn
  rw[wJ,yaa]
  ·exact h.put d hd hn
  ·rintro⟨e,_⟩
   have:=R.one i k o u d h.op hu hd e
   simp_all
theorem dO.grow    (h:dO C H all olds n old tm i o w v)(hle:HM.HLe H H'):dO C H' all olds n old tm i o w v:=
 ⟨h.op,h.want,by have:=h.val;grind [HM.alight_mono],h.put⟩
structure fY (C:iA) (μ:Mu) (dp:Nat) (all:Array Oper) (olds:List (Nat × List Nat)) (n:Nat) (old tm:Tm) (i:Nat) (o:Oper) (v:zA):Prop where
 op:all[i]?=some o
 flo:wM o.op=true
 want:cF o.guard all tm=some true
 val:∃H0 l,(eE o.op).f C (aS tm old olds i o) H0=.val v (rF H0 l none)/\μ.pd H0.next=some (.cells (Tr.ofList l) (yB l) none,dp,i)
 put:∀d,o.dst=some d->d<n->tm.get d=some v
 lo:Bn C o.op=none
structure Mu.ln (dp:Nat) (μ ν:Mu):Prop where
 f:∀a i,μ a=some i->ν a=some i
 pd:∀a x j,μ.pd a=some (x,dp,j)->ν.pd a=some (x,dp,j)
instance {dp:Nat} {μ ν:Mu}:CoeOut (μ.ln dp ν) (μ.lw ν):=⟨Mu.ln.f⟩
def Mu.le.ln{μ:Mu}(h:μ.le ν)(dp:Nat):μ.ln dp ν:=⟨h.f,fun a x j k=>by rw[h.pd];exact k⟩
instance {dp:Nat} {μ ν:Mu}:Coe (μ.le ν) (μ.ln dp ν):=⟨fun h=>h.ln dp⟩
def Mu.ln_refl(μ:Mu)(dp:Nat):μ.ln dp μ:=⟨fun _ _ h=>h,fun _ _ _ h=>h⟩
def Mu.ln_trans {a b c:Mu}(h:a.ln dp b)(k:b.ln dp c):a.ln dp c:=⟨fun x i hx=>k.f x i (h.f x i hx),fun x y j hx=>k.pd x y j (h.pd x y j hx)⟩
theorem fY.mono  (h:μ.ln dp ν)   (p:fY C μ dp all olds n old tm i o v):fY C ν dp all olds n old tm i o v:=by
 obtain⟨H0,l,h1,h2⟩:=p.val
 exact⟨p.op,p.flo,p.want,⟨H0,l,h1,h.pd _ _ _ h2⟩,p.put,p.lo⟩
theorem NH{tm tm' old:Tm}  (hf:wM o.op=true)(h:∀t∈eH o.op,t∉sF i olds->tm'.get t=tm.get t)(C:iA)(H:xA) :
  (eE o.op).f C (aS tm' old olds i o) H=(eE o.op).f C (aS tm old olds i o) H:=by
 grind [WV,OE,aS,aY,Bl]
theorem fY.keep (R:iY all olds anc)(hD:Aj all (tb D))   (h:fY C μ dp all olds n old tm i o v)(hi:tb D i=true)(hu:all[k]?=some u)(hk:tb D k=false) :
  fY C μ dp all olds n old (putA n tm u.dst x) i o v:=by
 obtain⟨r1,r2⟩:=Ns R hD h.op (.inl hi) hu hk
 obtain⟨H0,l,h1,h2⟩:=h.val
 refine⟨h.op,h.flo,?_,⟨H0,l,?_,h2⟩,?_,h.lo⟩
 ·rw[Mm (tm:=tm) fun j w hg g hj d hd=>by rw[wJ,yaa fun e=>r2 j w hg g hj d hd e.1]]
  exact h.want
 ·rw[NH (tm:=tm) h.flo fun t ht hto=>by rw[wJ,yaa fun e=>r1 t ht hto e.1]]
  exact h1
 ·intro d hd hn
  rw[wJ,yaa]
  ·exact h.put d hd hn
  ·rintro⟨e,_⟩
   have:=R.one i k o u d h.op hu hd e
   simp_all
theorem fY.fresh (R:iY all olds anc)(hD:Aj all (tb D))   (ho:all[i]?=some o)(hp:∀j,rM o j->tb D j=true)(hi:tb D i=false)
  (hf:wM o.op=true) (hlo:Bn C o.op=none) (hw:cF o.guard all tm=some true) (hv:∃H0 l,(eE o.op).f C (aS tm old olds i o) H0=.val v (rF H0 l none)/\μ.pd H0.next=some (.cells (Tr.ofList l) (yB l) none,dp,i)) :
  fY C μ dp all olds n old (putA n tm o.dst v) i o v:=by
 obtain⟨r1,r2⟩:=Ns R hD ho (.inr ⟨rfl,hp⟩) ho hi
 obtain⟨H0,l,h1,h2⟩:=hv
 refine⟨ho,hf,?_,⟨H0,l,?_,h2⟩,?_,hlo⟩
 all_goals grind [Mm,wJ,NH]
theorem dO.fresh(R:iY all olds anc)(hD:Aj all (tb D))    (ho:all[i]?=some o)(hp:∀j,rM o j->tb D j=true)(hi:tb D i=false)
  (hw:cF o.guard all tm=some w) (hv:if w=true then(jF o.op).f C (aS tm old olds i o) H=some v else v=pD) :
  dO C H all olds n old (putA n tm o.dst v) i o w v:=by
 obtain⟨r1,r2⟩:=Ns R hD ho (.inr ⟨rfl,hp⟩) ho hi
 refine⟨ho,?_,?_,?_⟩
 all_goals grind [Mm,wJ,JF]
theorem aF.light   {D':Nat}(R:aF μ all olds anc n old tm D S order tmps)(ho:all[i]?=some o)(hi:tb D i=false)(hp:∀j,rM o j->tb D j=true)(hD:∀k,tb D' k=(tb D k||k == i)) :
  aF μ all olds anc n old (putA n tm o.dst v) D' S order tmps:=by
 refine⟨R.reg,R.sched,fun k hk=>by rw[hD,R.sub k hk];rfl,R.closed,?_,R.size,?_,R.past,?_,?_⟩
 ·intro k u hu hk j hj
  rw[hD]at hk ⊢
  simp only[ycq,beq_iff_eq]at hk ⊢
  rcases hk with hk | rfl
  ·exact .inl (R.dclosed k u hu hk j hj)
  simp_all
 ·intro k u d x hu hud hk hd hx
  rw[wJ,yaa]at hx
  ·exact R.now k u d x hu hud hk hd hx
  ·rintro⟨e,_⟩
   have:=R.reg.one k i u o d hu ho hud e
   have hk':=R.sub k hk
   simp_all
 ·intro d hd hw
  rw[wJ,yaa]
  ·refine R.keep d hd fun k u hu hud=>?_
   simp_all
  grind
 ·intro d x hd hx
  refine R.big d x hd ?_
  grind [wJ]
theorem aF.mono (hm:μ.lw ν)(R:aF μ all olds anc n old tm D S order tmps):aF ν all olds anc n old tm D S order tmps:=
 ⟨R.reg,R.sched,R.sub,R.closed,R.dclosed,R.size,fun i o d v a b c e f=>(R.now i o d v a b c e f).mono hm _ _,fun d v a b c=>(R.past d v a b c).mono hm _ _,R.keep,fun d v a b=>(R.big d v a b).mono hm _ _⟩
end
end Go.Am
namespace Go.Am
open Go Go.RowKit
section
section steps
variable {P:Program}{fr b:Frame}{a:Act}{k:List Item}{cs:List Frame}{w w':World}{s:Sem Next}{ops:Array Oper}
theorem ZN{v:Value}(hr:s.run P w=.ok (.value v) w') :
  (stepG.apply P true fr cs none s w).bare=.go { frame:=fr.finish v,callers:=cs,status:=.running,dying:=none } w':=by
 simp_all [stepG.apply]
theorem ZO(hr:s.run P w=.ok .skip w') :
  (stepG.apply P true fr cs none s w).bare=.go { frame:=fr.finish undef,callers:=cs,status:=.running,dying:=none } w':=by
 simp_all [stepG.apply]
theorem Ys{i:Nat}{rest:List Nat}{o:Oper}{v:Value}(ho:ops[i]?=some o)(hw:Region.wanted o (yielded ops a.tmps)=true)
  (hr:(o.semAt b.roundOf a.eval).run P w=.ok (.value v) w') :
  step P (lone (b.atR a (.inRegion ops (i::rest)::k)) cs w)=.next (lone (b.atR (a.put o.dst v) (.inRegion ops rest::k)) cs w'):=by
 have:=Frame.finish_atR b a ops i rest k v
 grind [step_lone_go,stepGR_op,ZN]
theorem SZ{i:Nat}{rest:List Nat}{o:Oper}(ho:ops[i]?=some o)(hw:Region.wanted o (yielded ops a.tmps)=true)
  (hr:(o.semAt b.roundOf a.eval).run P w=.ok .skip w') :
  step P (lone (b.atR a (.inRegion ops (i::rest)::k)) cs w)=.next (lone (b.atR (a.put o.dst undef) (.inRegion ops rest::k)) cs w'):=by
 have:=Frame.finish_atR b a ops i rest k undef
 grind [step_lone_go,stepGR_op,ZO]
theorem Yt{i:Nat}{rest:List Nat}{o:Oper}(ho:ops[i]?=some o)(hw:Region.wanted o (yielded ops a.tmps)=false) :
  step P (lone (b.atR a (.inRegion ops (i::rest)::k)) cs w)=.next (lone (b.atR (a.put o.dst undef) (.inRegion ops rest::k)) cs w):=by
 grind [stepR_op_skip]
end steps
mutual
theorem Ze:∀(d:Nat) (a b:zA),same d a b=true->a=b
 | d,a,b,h=>by
  cases a<;>cases b<;>cases d<;>simp[same,aZ,iM,Bv,sN,Nat.beq_eq]at h ⊢
  all_goals first
   | exact h
   | (obtain⟨h1,h2⟩:=h;exact⟨h1,h2⟩)
   | exact Zd _ _ _ h
   | omega
theorem Zd:∀(d:Nat) (a b:List zA),same.sames d a b=true->a=b
 | d,[],[],_=>rfl
 | d,a::x,b::y,h=>by
  simp only[same.sames,ybb]at h;rw[Ze d a b h.1,Zd d x y h.2]
 | d,[],b::y,h=>by simp[same.sames]at h
 | d,a::x,[],h=>by simp[same.sames]at h
end
section
variable {P:Program}{C:iA}{B N:Nat}{μ:Mu}{H H':xA}{w:World}{all:Array Oper}{olds:List (Nat × List Nat)}{anc:Tr Nat}{n:Nat}{old tm tm':Tm}{D D':Nat}{S:Nat->Bool}{order:List Nat}{tmps:Array Value}{ds:List Deferred}{dp:Nat}
def iH(C:iA)(μ:Mu)(dp:Nat)(H:xA)(all:Array Oper)(olds:List (Nat × List Nat))(n:Nat)(old tm:Tm)(D:Nat)(S:Nat->Bool):Prop:=
 ∀i,tb D i=true->S i=false->(∃o w v,dO C H all olds n old tm i o w v)\/∃o v,fY C μ dp all olds n old tm i o v
theorem Tn:∀(l:List Nat) (tm:Tm) (D:Nat),vT C H all n old olds l tm=some tm'->cQ all.toList l D=some D'->aF μ all olds anc n old tm D S order tmps->iH C μ dp H all olds n old tm D S →
  aF μ all olds anc n old tm' D' S order tmps/\iH C μ dp H all olds n old tm' D' S:=by
 intro l;induction l with
 | nil=>intro tm D h hD R hp;cases h;cases hD;simp_all
 | cons i l ih=>
  intro tm D h hD R hp;unfold vT at h;unfold cQ at hD;rw[sA]at hD;obtain⟨D1,h1,hD⟩:=hD
  simp only[sA,bG]at h;obtain⟨o,ho,wn,hw,v,hv,h⟩:=h
  obtain⟨o',ho',hi,hb,hD1⟩:=Oe h1
  have ho2:all[i]?=some o:=by simp_all
  rw[ho2]at ho';cases ho'
  have hval:if wn=true then(jF o.op).f C (aS tm old olds i o) H=some v else v=pD:=by
   cases wn with
   | true=>rw[yab rfl];exact hv
   | false=>simp_all
  refine ih _ _ h hD (R.light ho2 hi hb hD1) fun j hj hSj=>?_
  rw[hD1]at hj;simp only[ycq,beq_iff_eq]at hj;rcases hj with hj | rfl
  ·rcases hp j hj hSj with⟨u,wu,vu,pu⟩ | ⟨u,vu,pu⟩
   ·exact .inl ⟨u,wu,vu,pu.keep R.reg R.dclosed hj ho2 hi⟩
   ·exact .inr ⟨u,vu,pu.keep R.reg R.dclosed hj ho2 hi⟩
  ·exact .inl ⟨o,wn,v,dO.fresh R.reg R.dclosed ho2 hb hi hw hval⟩
structure Weak (all:Array Oper) (n:Nat) (tm:Tm) (i:Nat) (o:Oper) (w:Bool) (v:zA):Prop where
 op:all[i]?=some o
 want:cF o.guard all tm=some w
 val:w=false->v=pD
 put:∀d,o.dst=some d->d<n->tm.get d=some v
theorem zft:∀(l:List Nat),Fm C H all old olds tm l=true->∀i∈l,∀o w v,Weak all n tm i o w v->∃v,dO C H all olds n old tm i o w v:=by
 intro l;induction l with
 | nil=>simp_all
 | cons j l ih=>
  intro h i hi o w v W;unfold Fm at h;split at h
  case h_2=>cases h
  rename_i hx;rcases ybs.1 hi with rfl | hi
  ·simp only[sA,bG]at hx
   obtain⟨o',ho',d,hd,wn,hw,hx⟩:=hx
   have ho2:all[i]?=some o':=by simp_all
   rw[W.op]at ho2;cases ho2;rw[W.want]at hw;cases hw
   cases w with
   | false=>exact⟨v,W.op,W.want,by rw[yaa (by simp)];exact W.val rfl,W.put⟩
   | true=>
    simp only[cond_true,sA]at hx;obtain⟨v1,hv1,u,hu,hs⟩:=hx
    have e:=Ze _ _ _ (yci hs)
    refine⟨v1,W.op,W.want,by rw[yab rfl];exact hv1,fun d' hd' hn=>?_⟩
    rw[hd]at hd';cases hd'
    rw[hu,e]
  grind
end
end
section
section
variable {P:Program}{C:iA}{B N:Nat}{μ:Mu}{H H':xA}{w:World}{all:Array Oper}{olds:List (Nat × List Nat)}{anc:Tr Nat}{n:Nat}{old tm tm':Tm}{D D':Nat}{S:Nat->Bool}{order:List Nat}{tmps:Array Value}{ds:List Deferred}{dp:Nat}
variable {b:Frame}{k:List Item}{cs:List Frame}
structure Ai (B N dp:Nat) (μ:Mu) (H:xA) (w:World) (μ':Mu) (w':World):Prop where
 heap:rB B N μ' H w'
 le:μ.lw μ'
 pd:∀d,d≠dp->μ.ln d μ'
 below:Below N w w'
theorem Ai.refl(hH:rB B N μ H w):Ai B N dp μ H w μ w:=⟨hH,fun _ _ h=>h,fun d _=>μ.ln_refl d,Below.refl _ _⟩
def Ai.trans{μ1 μ2:Mu}{w1 w2:World}(h:Ai B N dp μ H w μ1 w1)(k:Ai B N dp μ1 H w1 μ2 w2):Ai B N dp μ H w μ2 w2:=
 ⟨k.heap,fun a i e=>k.le a i (h.le a i e),fun d hd=>Mu.ln_trans (h.pd d hd) (k.pd d hd),h.below.trans k.below⟩
theorem IU(hT:mF P C)(hH:rB B N μ H w){i:Nat}(R:aF μ all olds anc n old tm D S (i::order) tmps)(hp:iH C μ dp H all olds n old tm D S)(hi:tb D i=true) :
  ∃S' tmps' μ' w',step P (lone (b.atR ⟨tmps,ds⟩ (.inRegion all (i::order)::k)) cs w)=.next (lone (b.atR ⟨tmps',ds⟩ (.inRegion all order::k)) cs w')/\Ai B N dp μ H w μ' w' ∧
   aF μ' all olds anc n old tm D S' order tmps'/\iH C μ' dp H all olds n old tm D S'/\∀k,S k=true->S' k=true:=by
 obtain⟨o,ho,hS,hb,_⟩:=R.sched
 have hDD:∀k,tb D k=(tb D k||k == i):=by
  simp_all
 have ds':∀v',Act.put ⟨tmps,ds⟩ o.dst v'=⟨(Act.put ⟨tmps,ds⟩ o.dst v').tmps,ds⟩:=by intro v';unfold Act.put;cases o.dst<;>rfl
 rcases hp i hi hS with⟨o',wn,v,pd⟩ | ⟨o',v,pd⟩
 ·have:=pd.op
  rw[ho]at this;cases this
  have hw:=R.wanted ho hb pd.want
  have rest:∀v',vA μ v v'->aF μ all olds anc n old tm D (fun k=>S k||k == i) order (Act.put ⟨tmps,ds⟩ o.dst v').tmps/\iH C μ dp H all olds n old tm D (fun k=>S k||k == i):=by
   intro v' hv;refine⟨R.did ho hDD pd.put (fun _ _=>rfl) hv,fun j hj hSj=>hp j hj ?_⟩
   grind
  cases wn with
  | false=>
   have hv:=pd.val
   rw[yaa (by simp)]at hv
   subst hv;obtain⟨r1,r2⟩:=rest undef Ri
   refine⟨_,_,μ,w,?_,.refl hH,r1,r2,fun k hk=>by grind⟩
   grind [Yt]
  | true=>
   have hv:=pd.val
   rw[yab rfl]at hv;obtain⟨v',h1,h2⟩:=zfs hT hH (R.erel (ds:=ds) hH.glob ho hS hb) hv
   obtain⟨r1,r2⟩:=rest v' h2
   refine⟨_,_,μ,w,?_,.refl hH,r1,r2,fun k hk=>by grind⟩
   rw[<- ds'];refine Ys (a:=⟨tmps,ds⟩) ho hw ?_
   rw[Oper.semAt_eq]
   ·exact h1
   ·intro c e
    rw[e]at hv
    cases hv
 ·have:=pd.op
  rw[ho]at this;cases this
  have hw:=R.wanted ho hb pd.want
  obtain⟨H0,l,h1,h2⟩:=pd.val
  obtain⟨l',vs,v',elem,e1,run,hl,hv⟩:=zi3 (P:=P) (w:=w) hT (R.erel (ds:=ds) hH.glob ho hS hb) o pd.flo pd.lo h1
  have e2:rF H0 l none=rF H0 l' none:=e1
  have p1:=(hH.pnd _ _ _ h2).1
  have lg:∀c,(μ.land H0.next ⟨w.heap.size,true,0,0,false⟩) c=if c=H0.next then some ⟨w.heap.size,true,0,0,false⟩else μ c:=fun _=>rfl
  have hle:μ.lw (μ.land H0.next ⟨w.heap.size,true,0,0,false⟩):=fun c j hj=>by
   grind
  have hlp:∀c x d j,(d≠dp\/j≠i)->μ.pd c=some (x,d,j)->(μ.land H0.next ⟨w.heap.size,true,0,0,false⟩).pd c=some (x,d,j):=by
   intro c x d j hne hc;show(if c=H0.next then none else μ.pd c)=_
   all_goals grind
  have hblk:(tA.cells (Tr.ofList l) (yB l) none)=.cells (Tr.ofList l') (yB l') none:=by
   have h3:(rF H0 l none).t.get H0.next=(rF H0 l' none).t.get H0.next:=by rw[e2]
   have hg:∀m,(rF H0 m none).t.get H0.next=some (.cells (Tr.ofList m) (yB m) none):=fun m=>by
    show(H0.t.set H0.next _).get H0.next=_
    rw[Tr.get_set,yab rfl]
   grind
  have hH':rB B N (μ.land H0.next ⟨w.heap.size,true,0,0,false⟩) H (w.alloc (.cells vs elem)):=by
   refine hH.late h2 rfl rfl ?_
   rw[hblk];have:=(pB.mono hle _ _ hl).rel_one (i:=⟨w.heap.size,true,0,0,false⟩) rfl (elem:=elem)
   rwa [Array.toArray_toList]at this
  have hvr:=hv (μ.land H0.next ⟨w.heap.size,true,0,0,false⟩) ⟨w.heap.size,true,0,0,false⟩ (by rw[lg,yab rfl]) rfl rfl
  refine⟨fun k=>S k||k == i,(Act.put ⟨tmps,ds⟩ o.dst v').tmps,μ.land H0.next ⟨w.heap.size,true,0,0,false⟩,w.alloc (.cells vs elem),?_,⟨hH',hle,fun d hd=>⟨hle,fun c x j hc=>hlp c x d j (.inl hd) hc⟩,aT hH.size _⟩,
   (R.mono hle).did ho hDD pd.put (fun _ _=>rfl) hvr,fun j hj hSj=>?_,fun k hk=>by grind⟩
  ·rw[<- ds']
   refine Ys (a:=⟨tmps,ds⟩) ho hw ?_
   rw[Oper.semAt_eq]
   ·exact run
   ·intro c e
    have:=pd.flo
    rw[e]at this
    cases this
  ·simp only[yal,beq_eq_false_iff_ne]at hSj
   rcases hp j hj hSj.1 with h | ⟨u,vu,pu⟩
   ·grind
   ·refine .inr ⟨u,vu,pu.op,pu.flo,pu.want,?_,pu.put,pu.lo⟩
    obtain⟨H1,m,g1,g2⟩:=pu.val
    grind
theorem IV(hT:mF P C)(hH:rB B N μ H w){i:Nat}(R:aF μ all olds anc n old tm D S (i::order) tmps)(hp:iH C μ dp H all olds n old tm D S)(hi:tb D i=true) :
  ∃S' tmps' μ' w',step P (lone (b.atR ⟨tmps,ds⟩ (.inRegion all (i::order)::k)) cs w)=.next (lone (b.atR ⟨tmps',ds⟩ (.inRegion all order::k)) cs w')/\Ai B N dp μ H w μ' w' ∧
   aF μ' all olds anc n old tm D S' order tmps'/\iH C μ' dp H all olds n old tm D S':=by
 obtain⟨S',tmps',μ',w',h1,h2,h3,h4,_⟩:=IU (b:=b) (k:=k) (cs:=cs) (ds:=ds) hT hH R hp hi
 grind
theorem reach(hT:mF P C){st:lG}{r:List lG}(hst:lJ all.toList anc (st::r) D=true)(hlt:st.heavy<=all.size):∀(order:List Nat) (S:Nat->Bool) (tmps:Array Value) (μ:Mu) (w:World),rB B N μ H w →
  aF μ all olds anc n old tm D S order tmps->iH C μ dp H all olds n old tm D S →
  ∃S' order' tmps' μ' w',Steps P (lone (b.atR ⟨tmps,ds⟩ (.inRegion all order::k)) cs w) (lone (b.atR ⟨tmps',ds⟩ (.inRegion all (st.heavy::order')::k)) cs w')/\Ai B N dp μ H w μ' w' ∧
   aF μ' all olds anc n old tm D S' (st.heavy::order') tmps'/\iH C μ' dp H all olds n old tm D S':=by
 obtain⟨only,_,D1,D2,h1,_⟩:=Sx hst hlt
 obtain⟨oh,hoh,hh,hbh,_⟩:=Oe h1
 intro order;induction order with
 | nil=>
  intro S tmps μ w _ R hp;have:=R.sub _ (R.sched st.heavy (ybe.1 hoh).1)
  simp_all
 | cons i order ih=>
  intro S tmps μ w hH R hp
  cases hi:tb D i with
  | true=>
   obtain⟨S',tmps',μ1,w1,s1,g1,r1,p1⟩:=IV (b:=b) (k:=k) (cs:=cs) (ds:=ds) hT hH R hp hi
   obtain⟨S2,order',tmps2,μ2,w2,s2,g2,r2⟩:=ih S' tmps' μ1 w1 g1.heap r1 p1
   exact⟨S2,order',tmps2,μ2,w2,.head s1 s2,g1.trans g2,r2⟩
  | false=>
   obtain⟨o,ho,hS,hb,_⟩:=R.sched
   have:=only i o ho hi fun j hj=>R.sub j (hb j hj)
   subst this;exact⟨S,order,tmps,μ,w,.refl _ _,.refl hH,R,hp⟩
theorem regEnd(hT:mF P C)(hst:lJ all.toList anc [] D=true):∀(order:List Nat) (S:Nat->Bool) (tmps:Array Value) (μ:Mu) (w:World),rB B N μ H w →
  aF μ all olds anc n old tm D S order tmps->iH C μ dp H all olds n old tm D S →
  ∃tmps' μ' w',Steps P (lone (b.atR ⟨tmps,ds⟩ (.inRegion all order::k)) cs w) (lone (b.atR ⟨tmps',ds⟩ k) cs w')/\Ai B N dp μ H w μ' w'/\yF μ' n tm tmps':=by
 have full:=VH hst
 intro order;induction order with
 | nil=>
  intro S tmps μ w hH R hp;refine⟨tmps,μ,w,.one stepR_region_end,.refl hH,R.size,fun t v hv=>?_⟩
  by_cases hn:t<n
  ·by_cases hw:∃(j:Nat) (u:Oper),all[j]?=some u/\u.dst=some t
   ·obtain⟨j,u,hu,hud⟩:=hw
    exact R.now j u t v hu hud (R.sched j (ybe.1 hu).1) hn hv
   ·have k:=R.keep t hn fun i o h1 h2=>absurd ⟨i,o,h1,h2⟩ hw
    exact R.past t v hn (fun i o h1 h2=>absurd ⟨i,o,h1,h2⟩ hw) (by simp_all)
  ·rw[Kx (by rw[R.size];omega)]
   exact R.big t v (by omega) (.inl hv)
 | cons i order ih=>
  intro S tmps μ w hH R hp;obtain⟨o,ho,_⟩:=R.sched
  obtain⟨S',tmps',μ1,w1,s1,g1,r1,p1⟩:=IV (b:=b) (k:=k) (cs:=cs) (ds:=ds) hT hH R hp (full i (ybe.1 ho).1)
  obtain⟨tmps2,μ2,w2,s2,g2,r2⟩:=ih S' tmps' μ1 w1 g1.heap r1 p1
  exact⟨tmps2,μ2,w2,.head s1 s2,g1.trans g2,r2⟩
theorem zhd(hM:P.follows .mixedOrders=true){anc:Tr Nat}(hR:iY all olds anc)(ht:yF μ n old tmps)(t:Nat) :
  aF μ all olds anc n old old 0 (fun _=>false) (Region.schedule (P.follows .mixedOrders) all t) tmps/\iH C μ dp H all olds n old old 0 (fun _=>false):=by
 refine⟨⟨hR,?_,fun i h=>(by cases h),fun i o _ h=>(by cases h),fun i o _ h=>(by grind [Ru]),ht.1,fun i o d v _ _ h=>(by cases h),fun d v _ _ h=>ht.2 d v h,fun _ _ _=>rfl,fun d v hd h=>?_⟩,fun i h=>(by grind [Ru])⟩
 ·rw[hM]
  unfold Region.schedule;simp only[Bool.true_or,if_true];have:=zg8 hR.back all.size t (Array.replicate all.size false) (by simp) (by
   grind [List.countP_le_length])
  have e:(fun i=>(Array.replicate all.size false).getD i false)=fun _=>false:=by
   funext i
   simp only[ycx,Array.getElem?_replicate];split<;>rfl
  rw[e]at this;exact this
 ·have h':old.get d=some v:=h.elim id id
  have:=ht.2 d v h'
  rw[Kx (by rw[ht.1];exact hd)]at this
  exact this
def Af(C:iA)(μ:Mu)(dp:Nat)(all:Array Oper)(olds:List (Nat × List Nat))(n:Nat)(old tm:Tm)(D:Nat)(S:Nat->Bool)(again:List Nat):Prop:=
 ∀i,tb D i=true->S i=false->(∃o w v,(∀H,dO C H all olds n old tm i o w v)\/(i∈again/\Weak all n tm i o w v))\/∃o v,fY C μ dp all olds n old tm i o v
def dO.float{i:Nat}{o:Oper}{w:Bool}{v:zA}(h:dO C H all olds n old tm i o w v)(hf:wM o.op=true)(H':xA):dO C H' all olds n old tm i o w v:=by
 refine⟨h.op,h.want,?_,h.put⟩
 have:=h.val
 cases w with
 | false=>exact this
 | true=>
  rw[yab rfl]at this;exfalso
  obtain⟨dst,op,type,pos,after,guard⟩:=o
  cases op<;>first | (simp[wM]at hf;done) | cases this
theorem zad{again:List Nat}(hw:Af C μ dp all olds n old tm D S again)(ha:Fm C H all old olds tm again=true):iH C μ dp H all olds n old tm D S:=by
 intro i hi hS;rcases hw i hi hS with⟨o,w,v,h | ⟨h1,h2⟩⟩ | h
 ·exact .inl ⟨o,w,v,h H⟩
 ·obtain⟨v,h⟩:=zft (C:=C) (H:=H) (olds:=olds) (old:=old) again ha i h1 o w v h2
  grind
 simp_all
end
end
section
variable {o:Oper}{v:zA}{again:List Nat}{ν:Mu}
section
variable {P:Program}{C:iA}{B N:Nat}{μ:Mu}{H H':xA}{w:World}{all:Array Oper}{olds:List (Nat × List Nat)}{anc:Tr Nat}{n:Nat}{old tm tm':Tm}{D D':Nat}{S:Nat->Bool}{order:List Nat}{tmps:Array Value}{ds:List Deferred}{dp:Nat}
theorem Weak.keep(R:iY all olds anc)(hD:Aj all (tb D)){i k:Nat}{u:Oper}{w:Bool}{x:zA}(h:Weak all n tm i o w v)(hi:tb D i=true)(hu:all[k]?=some u)(hk:tb D k=false) :
  Weak all n (putA n tm u.dst x) i o w v:=by
 obtain⟨_,r2⟩:=Ns R hD h.op (.inl hi) hu hk
 refine⟨h.op,?_,h.val,?_⟩
 ·rw[Mm (tm:=tm) fun j w hg g hj d hd=>by rw[wJ,yaa fun e=>r2 j w hg g hj d hd e.1]]
  exact h.want
 ·intro d hd hn
  rw[wJ,yaa]
  ·exact h.put d hd hn
  ·rintro⟨e,_⟩
   have:=R.one i k o u d h.op hu hd e
   simp_all
theorem toWeak{st:lG}{r:List lG}(hst:lJ all.toList anc (st::r) D=true)(hlt:st.heavy<=all.size)(R:aF μ all olds anc n old tm D S (st.heavy::order) tmps)(hp:iH C μ dp H all olds n old tm D S) :
  Af C μ dp all olds n old tm D S st.again:=by
 obtain⟨_,ag,_⟩:=Sx hst hlt
 intro i hDi hSi;rcases hp i hDi hSi with⟨u,wu,vu,pu⟩ | h
 rotate_left
 ·grind
 refine .inl ⟨u,wu,vu,?_⟩
 rcases ag i u pu.op hDi with h | h | h | h
 ·obtain⟨o,ho,_,hb,_⟩:=R.sched
  have:=R.reg.up R.closed ho hb h
  simp_all
 ·exact .inl fun H=>pu.pure h H
 ·exact .inl fun H=>pu.float h H
 ·exact .inr ⟨h,pu.op,pu.want,fun e=>by have:=pu.val;simp_all,pu.put⟩
def zf6{h:Nat} {D1:Nat}  {v':Value}(h1:rZ all.toList h D=some D1)(ho:all[h]?=some o)
  (R:aF μ all olds anc n old tm D S (h::order) tmps) (hp:Af C μ dp all olds n old tm D S again) (hv:vA μ v v') :
  aF μ all olds anc n old (putA n tm o.dst v) D1 (fun k=>S k||k == h) order (Act.put ⟨tmps,ds⟩ o.dst v').tmps/\Af C μ dp all olds n old (putA n tm o.dst v) D1 (fun k=>S k||k == h) again:=by
 obtain⟨o',ho',hi,hb,hD1⟩:=Oe h1
 rw[ho]at ho';cases ho'
 refine⟨R.did ho hD1 (fun d hd hn=>by rw[wJ,yab ⟨hd,hn⟩]) (fun d hd=>by rw[wJ,yaa fun e=>absurd (hd e.1) (by omega)]) hv,fun i hDi hSi=>?_⟩
 simp only[yal,beq_eq_false_iff_ne]at hSi;rw[hD1]at hDi;simp only[ycq,beq_iff_eq]at hDi;have hDi:=hDi.resolve_right hSi.2
 rcases hp i hDi hSi.1 with⟨u,wu,vu,pu⟩ | ⟨u,vu,pu⟩
 ·exact .inl ⟨u,wu,vu,pu.imp (fun pu H=>(pu H).keep R.reg R.dclosed hDi ho hi) (fun pu=>⟨pu.1,pu.2.keep R.reg R.dclosed hDi ho hi⟩)⟩
 ·exact .inr ⟨u,vu,pu.keep R.reg R.dclosed hDi ho hi⟩
inductive uO (C:iA) (μ:Mu) (dp:Nat) (n:Nat):Option xA->List oE->Tm->List Item->Array Value->Prop
 | plain {cur:Option xA} {todo:List oE} {tm:Tm} {btodo:List Item} {tmps:Array Value}:xD (jG μ) todo btodo->yF μ n tm tmps->uO C μ dp n cur todo tm btodo tmps
 | reg {H:xA} {all:Array Oper} {old tm:Tm} {olds:List (Nat × List Nat)} {stages:List lG} {k:List oE} {order:List Nat} {k':List Item} {tmps:Array Value} {anc:Tr Nat} {D:Nat} {S:Nat->Bool} :
   aF μ all olds anc n old tm D S order tmps->lJ all.toList anc stages D=true->iH C μ dp H all olds n old tm D S->xD (jG μ) k k' →
   uO C μ dp n (some H) (.reg all old olds stages::k) tm (.inRegion all order::k') tmps
 | mid {cur:Option xA} {all:Array Oper} {old tm:Tm} {olds:List (Nat × List Nat)} {lights again:List Nat} {stages:List lG} {k:List oE} {order:List Nat} {k':List Item} {tmps:Array Value} {anc:Tr Nat} {D D2:Nat} {S:Nat->Bool} :
   aF μ all olds anc n old tm D S order tmps->cQ all.toList lights D=some D2->lJ all.toList anc stages D2=true->Af C μ dp all olds n old tm D S again->xD (jG μ) k k' →
   uO C μ dp n cur (.reg all old olds (⟨all.size,lights,again⟩::stages)::k) tm (.inRegion all order::k') tmps
 | wait {all:Array Oper} {old tm:Tm} {olds:List (Nat × List Nat)} {st:lG} {stages:List lG} {k:List oE} {order:List Nat} {k':List Item} {tmps:Array Value} {anc:Tr Nat} {D:Nat} {S:Nat->Bool} :
   aF μ all olds anc n old tm D S (st.heavy::order) tmps->lJ all.toList anc (st::stages) D=true->st.heavy<=all.size->Af C μ dp all olds n old tm D S st.again->xD (jG μ) k k' →
   uO C μ dp n none (.reg all old olds (st::stages)::k) tm (.inRegion all (st.heavy::order)::k') tmps
theorem iH.mono (h:μ.ln dp ν)(p:iH C μ dp H all olds n old tm D S):iH C ν dp H all olds n old tm D S:=
 fun i h1 h2=>(p i h1 h2).imp id fun⟨o,v,q⟩=>⟨o,v,q.mono h⟩
theorem Af.mono  (h:μ.ln dp ν)(p:Af C μ dp all olds n old tm D S again):Af C ν dp all olds n old tm D S again:=
 fun i h1 h2=>(p i h1 h2).imp id fun⟨o,v,q⟩=>⟨o,v,q.mono h⟩
theorem uO.mono (h:μ.ln dp ν){cur:Option xA}{todo:List oE}{btodo:List Item}(R:uO C μ dp n cur todo tm btodo tmps):uO C ν dp n cur todo tm btodo tmps:=by
 have mk:∀ {k:List oE} {k':List Item},xD (jG μ) k k'->xD (jG ν) k k':=fun k=>xD.mono (fun _ _ r=>jG.mono h r) k
 cases R with
 | plain a b=>exact .plain (mk a) (b.mono h)
 | reg a b c d=>exact .reg (a.mono h) b (c.mono h) (mk d)
 | mid a b c d e=>exact .mid (a.mono h) b c (d.mono h) (mk e)
 | wait a b b' c d=>exact .wait (a.mono h) b b' (c.mono h) (mk d)
end
end
section
variable {v:zA}{v':Value}{cur:Option xA}{fr:xC}{b:Frame}{l:List xC}{m:List Frame}
section
variable {P:Program}{C:iA}{B N:Nat}{μ ν:Mu}{H H':xA}{w:World}{n:Nat}{tm:Tm}{tmps:Array Value}{ds:List Deferred}{dp:Nat}
theorem yF.put  {dst:Option Nat}(h:yF μ n tm tmps)(hv:vA μ v v'):yF μ n (putA n tm dst v) (Act.put ⟨tmps,ds⟩ dst v').tmps:=by
 cases dst with
 | none=>exact h
 | some d=>
  refine⟨by simp[Act.put,h.1],fun t x hx=>?_⟩
  rw[wJ]at hx;simp only[Act.put,ycx,ycs];by_cases e:d=t
  ·subst e
   by_cases hn:d<n
   ·rw[yab ⟨rfl,hn⟩]at hx
    cases hx;simp[h.1,hn,hv]
   ·rw[yaa fun k=>hn k.2]at hx
    have:=h.2 d x hx
    rw[Kx (by rw[h.1];omega)]at this
    simp[h.1,hn,this]
  ·rw[yaa fun k=>e (yci k.1)]at hx
   have:=h.2 t x hx
   simp_all
structure cJ (C:iA) (μ:Mu) (dp:Nat) (cur:Option xA) (fr:xC) (b:Frame):Prop where
 rest:wH μ fr.R b
 body:if fr.R.mode.running=true then uO C μ dp fr.R.n cur fr.todo fr.tm b.todo b.tmps else yF μ fr.R.n fr.tm b.tmps
theorem cJ.mono(h:μ.ln dp ν)   (r:cJ C μ dp cur fr b):cJ C ν dp cur fr b:=by
 refine⟨r.rest.mono h,?_⟩
 have:=r.body
 split at this
 ·rename_i e;rw[yab e];exact this.mono h
 ·rename_i e;rw[yaa e];exact this.mono h
inductive qG (C:iA) (μ:Mu):List xC->List Frame->Prop
 | nil:qG C μ [] []
 | cons {a:xC} {b:Frame} {l:List xC} {m:List Frame}:cJ C μ l.length none a b->qG C μ l m->qG C μ (a::l) (b::m)
theorem qG.monoD  (r:qG C μ l m)(h:∀d,d<l.length->μ.ln d ν):qG C ν l m:=by
 induction r with
 | nil=>exact .nil
 | @cons a b l m h1 h2 ih=>exact .cons (h1.mono (h _ (by simp))) (ih fun d hd=>h d (by grind))
theorem qG.mono  (r:qG C μ l m)(h:μ.le ν):qG C ν l m:=r.monoD fun d _=>h.ln d
theorem Hv{fr':xC}    (r:cJ C μ dp none fr b)(h:kH fr v=some fr')(hv:vA μ v v'):cJ C μ dp cur fr' (b.finish v'):=by
 obtain⟨todo,tm,R⟩:=fr
 unfold kH at h
 cases todo with
 | nil=>cases h
 | cons x k=>
  simp only[rD]at h;split at h
  case isFalse=>cases h
  rename_i hm;have body:=r.body
  rw[yab hm]at body;have rest:=r.rest
  obtain⟨fn,btmps,btodo,bdefers,bmode,bkind,bround⟩:=b
  simp only at body rest
  cases body with
  | plain a t=>
   cases a with
   | cons i l=>
    cases i with
    | ops all i hi=>
     simp only[Um]at h;unfold zmm at h;split at h
     case h_2=>cases h
     rename_i o rest' ho
     cases h;obtain⟨h1,h2⟩:=qY ho.symm
     have hlt:i<all.size:=by grind
     have hr:(List.range all.size).drop i=i::(List.range all.size).drop (i+1):=by
      grind [List.drop_eq_getElem_cons]
     have ho2:all[i]?=some o:=by simp_all
     have e:∀k',Frame.finish ⟨fn,btmps,.inRegion all ((List.range all.size).drop i)::k',bdefers,bmode,bkind,bround⟩ v'=⟨fn,(Act.put ⟨btmps,bdefers⟩ o.dst v').tmps,.inRegion all ((List.range all.size).drop (i+1))::k',bdefers,bmode,bkind,bround⟩:=by
      intro k';simp only[Frame.finish,hr,ho2,yai];unfold Act.put
      cases o.dst<;>rfl
     rw[e];refine⟨⟨rest.fn,?_,rest.defers,rest.mode,rest.kind,rest.round⟩,?_⟩
     ·exact(t.put (ds:=bdefers) (dst:=o.dst) hv).1
     ·rw[yab hm]
      rw[h2];exact .plain (.cons (.ops all (i+1) hlt) l) (t.put hv)
    | inRange l' i hl=>
     cases h;refine⟨⟨rest.fn,rest.size,rest.defers,rest.mode,rest.kind,rest.round⟩,?_⟩
     simp only[Frame.finish];rw[yab hm];exact .plain (.cons (.endRange l' i hl) l) t
    | beginRound=>
     cases h;refine⟨⟨rest.fn,rest.size,rest.defers,rest.mode,rest.kind,rest.round⟩,?_⟩
     simp only[Frame.finish];rw[yab hm];exact .plain l t
    | _=>cases h
  | mid a b c d e=>
   simp_all [Um,CS,bG]
  | @wait all old _ olds st stages _ order _ _ anc D S a b b2 c d=>
   simp only[Um]at h;unfold CS at h;simp only[sA,bG]at h;obtain⟨o,ho,h⟩:=h
   cases h;have ho2:all[st.heavy]?=some o:=by simp_all
   obtain⟨_,_,D1,D2,h1,h2,h3⟩:=Sx b b2
   obtain⟨r1,r2⟩:=zf6 (ds:=bdefers) h1 ho2 a c hv
   have e:∀k',Frame.finish ⟨fn,btmps,.inRegion all (st.heavy::order)::k',bdefers,bmode,bkind,bround⟩ v'=⟨fn,(Act.put ⟨btmps,bdefers⟩ o.dst v').tmps,.inRegion all order::k',bdefers,bmode,bkind,bround⟩:=by
    intro k';simp only[Frame.finish,ho2,yai];unfold Act.put
    cases o.dst<;>rfl
   rw[e];refine⟨⟨rest.fn,r1.size,rest.defers,rest.mode,rest.kind,rest.round⟩,?_⟩
   rw[yab hm];exact .mid r1 h2 h3 r2 d
def aD(P:Program)(C:iA)(B N:Nat)(μ:Mu)(base:List Frame)(m:Machine)(w:World):dF->Prop
 | .next s=>∃ μ' b cs w',Steps P m (lone b (cs++base) w')/\μ.lw μ'/\Below N w w'/\rB B N μ' s.H w'/\cJ C μ' s.cs.length (some s.H) s.fr b/\qG C μ' s.cs cs
 | .done v H=>∃ μ' b w' v',Steps P m (lone b base w')/\μ.lw μ'/\Below N w w'/\rB B N μ' H w'/\vA μ' v v'/\b.fn=C.root/\b.leaving P w' (.returned v')
 | .fail _=>True
def aD.of_steps{base:List Frame}{m m1:Machine}{o:dF}{w w1:World}(hs:Steps P m m1)(hm:μ.lw ν)(hb:Below N w w1)(h:aD P C B N ν base m1 w1 o):aD P C B N μ base m w o:=by
 cases o with
 | fail=>exact trivial
 | next s=>
  obtain⟨μ',b,cs,w',h1,h2,h3,h4⟩:=h
  exact⟨μ',b,cs,w',hs.trans h1,fun a i k=>h2 a i (hm a i k),hb.trans h3,h4⟩
 | done v H=>
  obtain⟨μ',b,w',v',h1,h2,h3,h4⟩:=h
  exact⟨μ',b,w',v',hs.trans h1,fun a i k=>h2 a i (hm a i k),hb.trans h3,h4⟩
def zj8 (h:b.mode=.run):b.atR ⟨b.tmps,b.defers⟩ b.todo=b:=by
 obtain⟨fn,tmps,todo,defers,mode,kind,round⟩:=b
 simp only at h
 subst h;rfl
end
end
section
variable {m:Machine}{c:Code}{id:Nat}
structure uK (P:Program) (C:iA) (B N:Nat) (I:World->Prop):Prop where
 tys:mF P C
 fns:Fu P C
 prims:Lw P C B N I
 base:B<=C.base
 mixed:P.follows .mixedOrders=true
 inv:∀w w',Below N w w'->I w->I w'
section
variable {P:Program}{C:iA}{B N:Nat}{I:World->Prop}{μ ν:Mu}{H H':xA}{w:World}{tm:Tm}{R:bJ}{acs:List xC}{base cs:List Frame}
variable {b:Frame}{tmps:Array Value}{ds:List Deferred}{k:List oE}{k':List Item}
def wH.todo{todo:List Item}(h:wH μ R (b.atR ⟨tmps,ds⟩ [])):wH μ R (b.atR ⟨tmps,ds⟩ todo):=⟨h.fn,h.size,h.defers,h.mode,h.kind,h.round⟩
theorem wH.running{todo:List Item}(h:wH μ R (b.atR ⟨tmps,ds⟩ todo)):R.mode.running=true:=by
 have:=h.mode
 cases hm:R.mode with
 | run=>rfl
 | _=>rw[hm]at this;exact this.elim
def Bd {todo:List oE}{btodo:List Item}(hH:rB B N μ H w)(hcs:qG C μ acs cs)(hR:wH μ R (b.atR ⟨tmps,ds⟩ []))(ht:yF μ R.n tm tmps)
  (hk:xD (jG μ) todo btodo) (hs:Steps P m (lone (b.atR ⟨tmps,ds⟩ btodo) (cs++base) w)):aD P C B N μ base m w (xGo todo tm R acs H):=
 ⟨μ,_,cs,w,hs,fun _ _ h=>h,Below.refl _ _,hH,⟨hR.todo,by rw[yab hR.running];exact .plain hk ht⟩,hcs⟩
def Ss(hH:rB B N μ H w)(hcs:qG C μ acs cs)(hR:wH μ R (b.atR ⟨tmps,ds⟩ []))(ht:yF μ R.n tm tmps)(hk:xD (jG μ) k k')
  (hs:step P m=.next (lone (b.atR ⟨tmps,ds⟩ k') (cs++base) w)):aD P C B N μ base m w (Fy C k tm R acs H):=
 Bd hH hcs hR ht hk (.one hs)
def zqi(hH:rB B N μ H w)(hcs:qG C μ acs cs)(hR:wH μ R (b.atR ⟨tmps,ds⟩ []))(ht:yF μ R.n tm tmps)(hk:xD (jG μ) k k'){c:Operand}{x y:Code} :
  aD P C B N μ base (lone (b.atR ⟨tmps,ds⟩ (.code (.cond c x y)::k')) (cs++base) w) w (Mk c x y C k tm R acs H):=by
 unfold Mk
 cases hc:ob (ev c (.now tm)) zA.asBool with
 | none=>exact trivial
 | some t=>
  rw[sA]at hc;obtain⟨v,hv,ht'⟩:=hc
  have:v=.bool t:=by cases v<;>simp[zA.asBool]at ht';rw[ht']
  subst this;have hr:=ht.erel (ds:=ds) hH.glob c _ hv
  rw[vA]at hr;refine Bd hH hcs hR ht (.cons (.code _) hk) (.one ?_)
  rw[stepR_cond hr]
  cases t<;>rfl
def zj4(hH:rB B N μ H w)(hcs:qG C μ acs cs)(hR:wH μ R (b.atR ⟨tmps,ds⟩ []))(ht:yF μ R.n tm tmps)(hk:xD (jG μ) k k')   :
  aD P C B N μ base (lone (b.atR ⟨tmps,ds⟩ (.code (.block id c)::k')) (cs++base) w) w (zke id c C k tm R acs H):=
 Bd hH hcs hR ht (.cons (.code _) (.cons (.inBlock _) hk)) (.one stepR_block)
def zoz(hH:rB B N μ H w)(hcs:qG C μ acs cs)(hR:wH μ R (b.atR ⟨tmps,ds⟩ []))(ht:yF μ R.n tm tmps)(hk:xD (jG μ) k k')  :
  aD P C B N μ base (lone (b.atR ⟨tmps,ds⟩ (.code (.loop c)::k')) (cs++base) w) w (zna c C k tm R acs H):=
 Bd hH hcs hR ht (.cons (.code _) (.cons (.inLoop _) hk)) (.one stepR_loop)
theorem zef  : ∀ {k:List oE} {k':List Item} {r:List oE},xD (jG μ) k k'->yV id k=some r->∃r',exitTo id k'=some r'/\xD (jG μ) r r':=by
 intro k k' r h;induction h with
 | nil=>intro e;cases e
 | cons a l ih=>
  intro e
  cases a with
  | inBlock i=>
   grind [yV,oE.blockId,exitTo,gC]
  | _=>
   unfold yV at e;obtain⟨r',h1,h2⟩:=ih e
   grind [exitTo]
end
end
section
variable {i n:Nat}{m:Machine}{v:zA}{rest:List Nat}{o:Oper}{f:FuncId}{args args':Array Value}{w':World}{fr:xC}{c:Frame}
section
variable {P:Program}{C:iA}{B N:Nat}{I:World->Prop}{μ ν:Mu}{H H':xA}{w:World}{tm:Tm}{R:bJ}{acs:List xC}{base cs:List Frame}
variable {b:Frame}{tmps:Array Value}{ds:List Deferred}{k:List oE}{k':List Item}{all:Array Oper}{olds:List (Nat × List Nat)}{anc:Tr Nat}{old:Tm}{D:Nat}{S:Nat->Bool}{order:List Nat}
def wH.slots{tmps':Array Value}{todo:List Item}(h:wH μ R (b.atR ⟨tmps,ds⟩ todo))(hs:tmps'.size=R.n):wH μ R (b.atR ⟨tmps',ds⟩ todo):=⟨h.fn,hs,h.defers,h.mode,h.kind,h.round⟩
theorem yF.cut (h:yF μ n tm tmps):yF μ n tm.cut tmps:=by
 refine⟨h.1,fun i v hv=>h.2 i v ?_⟩
 unfold Tm.cut Tm.get at hv;unfold Tm.get;simp only[vK]at hv ⊢
 split at hv
 ·simp_all
 ·cases hv
theorem zbv(hS:uK P C B N I)(hH:rB B N μ H w)(hcs:qG C μ acs cs)(hR:wH μ R (b.atR ⟨tmps,ds⟩ []))(hk:xD (jG μ) k k')
  (hr:aF μ all olds anc R.n old tm D S order tmps) (hst:lJ all.toList anc [] D=true) (hp:iH C μ acs.length H all olds R.n old tm D S) :
  aD P C B N μ base (lone (b.atR ⟨tmps,ds⟩ (.inRegion all order::k')) (cs++base) w) w (Fy C k tm R acs H):=by
 obtain⟨tmps',μ',w',s,g,t⟩:=regEnd (b:=b) (k:=k') (cs:=cs++base) (ds:=ds) hS.tys hst order S tmps μ w hH hr hp
 refine aD.of_steps s g.le g.below ?_
 exact Bd g.heap (hcs.monoD fun d hd=>g.pd d (by omega)) ((hR.mono g.le).slots t.1) t (hk.mono fun _ _ r=>r.mono g.le) (.refl _ _)
def zqb(hS:uK P C B N I)(hH:rB B N μ H w)(hcs:qG C μ acs cs)(hR:wH μ R (b.atR ⟨tmps,ds⟩ []))(ht:yF μ R.n tm tmps)(hk:xD (jG μ) k k'){id:Nat} :
  aD P C B N μ base (lone (b.atR ⟨tmps,ds⟩ (.code (.region id all true)::k')) (cs++base) w) w (Mj id all C k tm R acs H):=by
 unfold Mj
 cases hx:ob (ob (C.plans.get R.fn) fun t=>t.get id) fun p=>tB (dV all p) <| ob (vT C H all R.n tm.cut p.olds p.first tm.cut) fun tm'=>some (⟨⟨.reg all tm.cut p.olds p.stages::k,tm',R⟩,acs,H⟩:oS)with
 | none=>exact trivial
 | some s=>
  simp only[sA,sB]at hx;obtain⟨p,_,hok,tm',hl,hx⟩:=hx
  cases hx;obtain⟨anc,D,ro,h1,h2⟩:=zcd hok
  obtain⟨r0,p0⟩:=zhd (C:=C) (H:=H) (dp:=acs.length) hS.mixed ro ht.cut (w.tape w.drawn (.order b.fn id))
  obtain⟨r1,p1⟩:=Tn _ _ _ hl h1 r0 p0
  exact⟨μ,_,cs,_,.one stepR_region_draw,fun _ _ h=>h,(Below.refl N w).drew,hH.drew,⟨hR.todo,by rw[yab hR.running];exact .reg r1 h2 p1 hk⟩,hcs⟩
theorem zc0(hH:rB B N μ H w)(hcs:qG C μ acs cs)(hR:wH μ R (b.atR ⟨tmps,ds⟩ []))(hk:xD (jG μ) k k'){st:lG}{stages:List lG}{D2:Nat}
  (hr:aF μ all olds anc R.n old tm D S order tmps) (h1:cQ all.toList st.lights D=some D2) (h2:lJ all.toList anc stages D2=true) (hw:Af C μ acs.length all olds R.n old tm D S st.again) :
  aD P C B N μ base (lone (b.atR ⟨tmps,ds⟩ (.inRegion all order::k')) (cs++base) w) w (Mh all old olds st stages C k tm R acs H):=by
 unfold Mh
 cases hx:tB (Fm C H all old olds tm st.again) (ob (vT C H all R.n old olds st.lights tm) fun tm=>some (⟨⟨.reg all old olds stages::k,tm,R⟩,acs,H⟩:oS))with
 | none=>exact trivial
 | some s=>
  simp only[sA,sB]at hx;obtain⟨ha,tm',hl,hx⟩:=hx
  cases hx;obtain⟨r1,p1⟩:=Tn _ _ _ hl h1 hr (zad hw ha)
  exact⟨μ,_,cs,w,.refl _ _,fun _ _ h=>h,Below.refl N w,hH,⟨hR.todo,by rw[yab hR.running];exact .reg r1 h2 p1 hk⟩,hcs⟩
def UF(hH:rB B N μ H w)(hcs:qG C μ acs cs)(hR:wH μ R (b.atR ⟨tmps,ds⟩ []))(ht:yF μ R.n tm tmps) {todo:List oE}{btodo:List Item}
  (hs:Steps P m (lone { b.atR ⟨tmps,ds⟩ btodo with mode:=.returning } (cs++base) w)):aD P C B N μ base m w (.next ⟨Ay ⟨todo,tm,R⟩ .returning,acs,H⟩):=
 ⟨μ,_,cs,w,hs,fun _ _ h=>h,Below.refl N w,hH,⟨⟨hR.fn,hR.size,hR.defers,trivial,hR.kind,hR.round⟩,ht⟩,hcs⟩
theorem Jy{dst:Option Tmp}{v:Value}:Act.put ⟨tmps,ds⟩ dst v=⟨(Act.put ⟨tmps,ds⟩ dst v).tmps,ds⟩:=by unfold Act.put;cases dst<;>rfl
theorem Wh    {cs:List Frame}(ho:all[i]?=some o)(hw:Region.wanted o (yielded all tmps)=true)(hd:∀c,o.op≠.defer c)
  (h:sS P B N μ w (Act.eval ⟨tmps,ds⟩) o v H') :
  ∃v' w' μ',step P (lone (b.atR ⟨tmps,ds⟩ (.inRegion all (i::rest)::k')) cs w)=.next (lone (b.atR ⟨(Act.put ⟨tmps,ds⟩ o.dst v').tmps,ds⟩ (.inRegion all rest::k')) cs w') ∧
   μ.le μ'/\rB B N μ' H' w'/\Below N w w'/\vA μ' v v':=by
 obtain⟨v',w',μ',h1,h2,h3,h4,h5⟩:=h
 refine⟨v',w',μ',?_,h2,h3,h4,h5⟩
 rw[<- Jy];grind [Ys,Oper.semAt_eq,SZ]
theorem GC     {cs:List Frame} (ho:all[i]?=some o)(hw:Region.wanted o (yielded all tmps)=true)(hd:∀c,o.op≠.defer c)
  (h:(execOp (Act.eval ⟨tmps,ds⟩) o).run P w=.ok (.enter f args) w') :
  step P (lone (b.atR ⟨tmps,ds⟩ (.inRegion all (i::rest)::k')) cs w)=.next (lone (Frame.enter P f args .normal) (b.atR ⟨tmps,ds⟩ (.inRegion all (i::rest)::k')::cs) w'):=
 step_lone_go (by
  rw[stepGR_op (a:=⟨tmps,ds⟩) ho hw,Oper.semAt_eq _ _ _ hd]
  simp_all [stepG.apply,Frame.atR])
def PT     {cs:List Frame}(ho:all[i]?=some o)(hw:Region.wanted o (yielded all tmps)=true)(hd:∀c,o.op≠.defer c)
  (h:(execOp (Act.eval ⟨tmps,ds⟩) o).run P w=.ok (.enter f args) w) {R:Value->World->Prop} (hc:Calls P f args w fun e w'=>∃v',e=.returned v'/\R v' w') :
  ∃v' w',Steps P (lone (b.atR ⟨tmps,ds⟩ (.inRegion all (i::rest)::k')) cs w) (lone (b.atR ⟨(Act.put ⟨tmps,ds⟩ o.dst v').tmps,ds⟩ (.inRegion all rest::k')) cs w')/\R v' w':=by
 obtain⟨e,w',fr,⟨v',rfl,h1⟩,h3,_,h5⟩:=hc (b.atR ⟨tmps,ds⟩ (.inRegion all (i::rest)::k')::cs)
 refine⟨v',w',?_,h1⟩
 refine .head (GC ho hw hd h) (Steps.trans h3 (.one ?_))
 rw[step_leave_returned h5,Frame.finish_atR,ho,<- Jy];rfl
theorem rB.below (hH:rB B N μ H w)(hb:Below w.heap.size w w'):rB B N μ H w':=by
 refine⟨hH.base,hH.glob,hH.low,hH.next,Nat.le_trans hH.size hb.size,hH.fresh,fun a x i hx h1=>?_,fun a i ha hi=>?_,hH.inj,hH.pnd⟩
 ·obtain⟨o,h2,h3⟩:=hH.blk a x i hx h1
  have hlt:i.b<w.heap.size:=(ybe.1 h2).1
  exact⟨o,by rw[hb.block _ hlt];exact h2,h3⟩
 ·obtain⟨h1,h2,h3⟩:=hH.own a i ha hi
  exact⟨h1,Nat.lt_of_lt_of_le h2 hb.size,h3⟩
theorem gV{g:List zA->xA->Option zA} {al:List zA}  {H':xA}(hv:bL g al H=some (v,H'))(hH:rB B N μ H w)
  (k:g al H=some v->(callFunc f args').run P w=.ok (.enter f args') w/\Calls P f args' w fun e w'=>∃v',e=.returned v'/\vA μ v v'/\Below w.heap.size w w') :
  (H'=H/\∃v',(callFunc f args').run P w=.ok (.value v') w/\vA μ v v') ∨
   ((callFunc f args').run P w=.ok (.enter f args') w/\Calls P f args' w fun e w'=>∃v' μ',e=.returned v'/\μ.le μ'/\rB B N μ' H' w'/\Below N w w'/\vA μ' v v'):=by
 unfold bL at hv;rw[sA]at hv;obtain⟨u,h1,h2⟩:=hv
 cases h2;obtain⟨h3,h4⟩:=k h1
 exact .inr ⟨h3,h4.mono fun e w' hh=>by obtain⟨v',g1,g2,g3⟩:=hh;exact⟨v',μ,g1,μ.le_refl,hH.below g3,g3.mono hH.size,g2⟩⟩
theorem yF.wanted (R:yF μ n tm tmps) {w:Bool}(h:cF o.guard all tm=some w):Region.wanted o (yielded all tmps)=w:=by
 unfold cF Mp at h;unfold Region.wanted
 cases hg:o.guard with
 | none=>rw[hg]at h;cases h;rfl
 | some jw=>
  obtain⟨j,want⟩:=jw
  rw[hg]at h;simp only[Mo,sA,bG]at h;obtain⟨d,⟨u,hu,hud⟩,v,hv,h⟩:=h
  have hu':all[j]?=some u:=by simp_all
  have hy:yielded all tmps j=match tmps[d]? with | some (.bool b)=>some b | _=>none:=by
   grind [yielded]
  simp only[];rw[hy];have rel:=R.2 d v hv
  by_cases hd:d<n
  ·have hs:d<tmps.size:=by rw[R.1];exact hd
   have e1:tmps[d]?=some (tmps.getD d undef):=by simp_all
   rw[e1];generalize tmps.getD d undef=x at rel
   cases hb:v.asBool with
   | some b=>
    rw[hb]at h;have:v=.bool b:=by cases v<;>simp[zA.asBool]at hb;rw[hb]
    rw[this,vA]at rel;subst rel;simp only[Option.some.injEq]at h;rw[<- h,aZ]
    cases b<;>cases want<;>rfl
   | none=>
    rw[hb]at h
    cases h
    cases x with
    | bool b=>rw[EP rel]at hb;cases hb
    | _=>rfl
  ·have e1:tmps[d]?=none:=by simp[R.1];omega
   rw[e1];rw[Kx (by simp_all)]at rel
   cases hb:v.asBool with
   | some b=>
    have:v=.bool b:=by cases v<;>simp[zA.asBool]at hb;rw[hb]
    rw[this,vA]at rel
    cases rel
   | none=>simp_all
def Zr    {v':Value} (hw:cJ C μ acs.length none fr c)(hcs:qG C μ acs cs)(hm:μ.le ν)(hH:rB B N ν H' w')(hb:Below N w w')(hv:vA ν v v')
  (hs:Steps P m (lone (c.finish v') (cs++base) w')):aD P C B N μ base m w (Gu v H' C fr acs H):=by
 unfold Gu
 cases hx:ob (kH fr v) fun fr=>some (⟨fr,acs,H'⟩:oS)with
 | none=>exact trivial
 | some s=>
  rw[sA]at hx;obtain⟨fr',hf,hx⟩:=hx
  cases hx;exact⟨ν,_,cs,w',hs,hm,hb,hH,Hv (hw.mono hm) hf hv,hcs.mono hm⟩
theorem Pw{dp:Nat}(hF:Fu P C){f:Nat}{args:List zA} {d:Bool}{g:xC}{cur:Option xA}(h:yK C f args d=some g)(hl:pB μ args args'.toList) :
  cJ C μ dp cur g (Frame.enter P f args' (if d then .deferred else .normal))/\∃fn,C.fns.get f=some fn/\fn.body.isSome=true:=by
 unfold yK at h;simp only[sA,sB,ybb,aE]at h;obtain⟨fn,hfn,c,hc,k,hk,⟨h1,h2⟩,h3⟩:=h
 cases h3;obtain⟨h4,_⟩:=hF f fn hfn
 have hsz:args'.size=args.length:=by have:=hl.length;omega
 rw[kD]at h1 h2;have size:(Frame.enter P f args' (if d then .deferred else .normal)).tmps.size=fn.ntmps:=by
  grind [Frame.enter]
 refine⟨⟨⟨rfl,size,.nil,trivial,rfl,trivial⟩,?_⟩,fn,hfn,by grind⟩
 show uO C μ dp fn.ntmps cur [.code c] ⟨k,Tr.ofList args,[]⟩ (Frame.enter P f args' (if d then .deferred else .normal)).todo (Frame.enter P f args' (if d then .deferred else .normal)).tmps
 have todo:(Frame.enter P f args' (if d then .deferred else .normal)).todo=[.code c]:=by grind [Frame.enter]
 rw[todo];refine .plain (.cons (.code c) .nil) ⟨size,fun i v hv=>?_⟩
 unfold Tm.get at hv;simp only[vK]at hv;split at hv
 ·rw[Tr.get_ofList]at hv
  obtain⟨x,hx,hr⟩:=hl.get hv
  have hi:i<args'.size:=by grind
  simp_all [Frame.enter,yaj]
 ·cases hv
theorem zb4(hF:Fu P C)  {f:Nat}{args:List zA} (hw:cJ C μ acs.length none fr c)(hcs:qG C μ acs cs)(hH:rB B N μ H w)
  (hs:∀fn,C.fns.get f=some fn->fn.body.isSome=true->∃args',pB μ args args'.toList/\Steps P m (lone (Frame.enter P f args' .normal) (c::(cs++base)) w)) :
  aD P C B N μ base m w (Nv f args C fr acs H):=by
 unfold Nv
 cases hx:yK C f args false with
 | none=>exact trivial
 | some g=>
  obtain⟨fn,h1,h2⟩:∃fn,C.fns.get f=some fn/\fn.body.isSome=true:=by
   grind [yK,sA]
  obtain⟨args',h3,h4⟩:=hs fn h1 h2
  exact⟨μ,_,c::cs,w,h4,fun _ _ h=>h,Below.refl N w,hH,(Pw hF hx h3).1,.cons hw hcs⟩
end
end
section
variable {μ:Mu}{dp n:Nat}{tm:Tm}{tmps:Array Value}{C:iA}{cur:Option xA}
theorem MW:∀(l:List Oper) (t:Tr zA) (i:Nat) (v:zA),(Lc l t).get i=some v->t.get i=some v/\∀o∈l,o.dst≠some i:=by
 intro l;induction l with
 | nil=>intro t i v h;exact⟨h,fun _ ho=>by cases ho⟩
 | cons o l ih=>
  grind [Lc,Tr.get_del]
def aF.left {all:Array Oper}{olds:List (Nat × List Nat)}{anc:Tr Nat} {old:Tm}{D:Nat}{S:Nat->Bool}{order:List Nat} (R:aF μ all olds anc n old tm D S order tmps) :
  yF μ n ⟨tm.k,Lc all.toList tm.v,[]⟩ tmps:=by
 refine⟨R.size,fun t v hv=>?_⟩
 unfold Tm.get at hv;simp only[vK]at hv;split at hv
 case isFalse=>cases hv
 rename_i hk;obtain⟨h1,h2⟩:=MW _ _ _ _ hv
 have hv:tm.get t=some v:=by grind [Tm.get,vK]
 have hw:∀(i:Nat) (o:Oper),all[i]?=some o->o.dst=some t->False:=fun i o ho hd=>h2 o (by
  grind) hd
 by_cases hn:t<n
 ·have k:=R.keep t hn fun i o a b=>(hw i o a b).elim
  exact R.past t v hn (fun i o a b=>(hw i o a b).elim) (by simp_all)
 ·rw[Kx (by rw[R.size];omega)]
  exact R.big t v (by omega) (.inl hv)
def uO.left    {todo:List oE} {btodo:List Item} (h:uO C μ dp n cur todo tm btodo tmps):yF μ n (Oy todo tm) tmps:=by
 cases h with
 | plain a t=>
  cases a with
  | nil=>exact t
  | cons x l=>cases x<;>exact t
 | reg a _ _ _=>exact a.left
 | mid a _ _ _ _=>exact a.left
 | wait a _ _ _ _=>exact a.left
theorem xD.append{α β:Type}{R:α->β->Prop}{l l':List α}{m m':List β}(h:xD R l m)(h':xD R l' m'):xD R (l++l') (m++m'):=by
 induction h with
 | nil=>exact h'
 | cons a _ ih=>exact .cons a ih
def yF.left    (h:yF μ n tm tmps)(todo:List oE):yF μ n (Oy todo tm) tmps:=by
 unfold Oy;split
 ·refine⟨h.1,fun t v hv=>h.2 t v ?_⟩
  unfold Tm.get at hv ⊢
  simp only[vK]at hv ⊢
  split at hv
  ·grind [MW]
  ·cases hv
 ·exact h
def ID   {cur':Option xA}{fr:xC}{b:Frame}{l:List Fv}{l':List PanicEntry}(h:cJ C μ dp cur fr b)(hl:xD (Fs μ) l l'):cJ C μ dp cur' (nX fr l) (b.raise l'):=by
 have t:yF μ fr.R.n (Oy fr.todo fr.tm) b.tmps:=by
  have:=h.body
  split at this
  ·exact this.left
  ·exact this.left _
 have r:=h.rest
 obtain⟨todo,tm,fn,n,defers,mode,deferred,round⟩:=fr
 obtain⟨bfn,btmps,btodo,bdefers,bmode,bkind,bround⟩:=b
 have m:=r.mode
 cases mode<;>cases bmode<;>first | exact m.elim | skip
 ·exact⟨⟨r.fn,r.size,r.defers,hl,r.kind,r.round⟩,t⟩
 ·exact⟨⟨r.fn,r.size,r.defers,hl,r.kind,r.round⟩,t⟩
 ·refine⟨⟨r.fn,r.size,r.defers,?_,r.kind,r.round⟩,t⟩
  show xD (Fs μ) (fD l _) _
  rw[aG];exact hl.append m
end
section
variable {fr:xC}{c:Frame}{m:Machine}{i l:Nat}{rest:List Nat}{o:Oper}{w':World}
section
variable {P:Program}{C:iA}{B N:Nat}{I:World->Prop}{μ ν:Mu}{H H':xA}{w:World}{tm:Tm}{R:bJ}{acs:List xC}{base cs:List Frame}
variable {b:Frame}{tmps:Array Value}{ds:List Deferred}{k:List oE}{k':List Item}{all:Array Oper}
def zb3  {v:zA}{v':Value} {cur:Option xA}(hw:cJ C μ acs.length cur fr c)(hcs:qG C μ acs cs)(hH:rB B N μ H w)(hv:vA μ v v')
  (hs:Steps P m (lone (c.raise [{ v:=v',recovered:=false }]) (cs++base) w)):aD P C B N μ base m w (zlb v C fr acs H):=
 ⟨μ,_,cs,w,hs,fun _ _ h=>h,Below.refl N w,hH,ID hw (.cons ⟨hv,rfl,rfl⟩ .nil),hcs⟩
theorem TD   {v:Value}{cs:List Frame} (ho:all[i]?=some o)(hw:Region.wanted o (yielded all tmps)=true)(hd:∀c,o.op≠.defer c)
  (h:(execOp (Act.eval ⟨tmps,ds⟩) o).run P w=.halt (.panic v) w') :
  step P (lone (b.atR ⟨tmps,ds⟩ (.inRegion all (i::rest)::k')) cs w)=.next (lone ((b.atR ⟨tmps,ds⟩ (.inRegion all (i::rest)::k')).raise [{ v,recovered:=false }]) cs w'):=
 step_lone_go (by
  simp_all [stepGR_op,Oper.semAt_eq,stepG.apply])
def Ot(hH:rB B N μ H w) {r:mN}(h:xJ H l=some r){i:BI}(h4:μ l=some i):B<=l/\∃r',H.t.get l=some (.loop r)/\w.heap[i.b]?=some (.loop r')/\Qy μ r r':=by
 unfold xJ at h;rw[sB,aE,sA]at h;obtain⟨h1,x,h2,h3⟩:=h
 have:x=.loop r:=by cases x<;>simp[tA.asLoop]at h3;rw[h3]
 subst this;obtain⟨o,h5,h6⟩:=hH.blk l _ i h2 h4
 rw[uJ]at h6;obtain⟨r',rfl,h7⟩:=h6
 refine⟨Nat.le_of_not_lt fun hlt=>?_,r',h2,h5,h7⟩
 have:=(hH.low l _ i hlt h2 h4).2.1
 cases this
theorem Nq {r:Loop}(h:w.heap[l]?=some (.loop r)):(Instr.getLoop l).run P w=.ok r w:=by
 simp_all [Instr.getLoop,getObj,Sem.run]
theorem QQ{o:Op}(h:∃c,o=.defer c)(C:iA)(e:vD)(H:xA):(eE o).f C e H=.fail\/∃d,(eE o).f C e H=.defer d:=by
 obtain⟨c,rfl⟩:=h
 show(Ud c c.callee).f C e H=.fail\/∃d,(Ud c c.callee).f C e H=.defer d
 cases c.callee with
 | value f=>
  show Ba (ob (eS f c.args e) fun p=>some (.defer ⟨some p.1,0,fD p.2.1 p.2.2⟩))=.fail\/∃d,Ba (ob (eS f c.args e) fun p=>some (.defer ⟨some p.1,0,fD p.2.1 p.2.2⟩))=.defer d
  cases eS f c.args e with
  | none=>exact .inl rfl
  | some p=>exact .inr ⟨_,rfl⟩
 | _=>exact .inl rfl
theorem TU{n:Nat}:∀(ps:List Nat) (args:List zA) (tm tm':Tm) (args':List Value) (tmps:Array Value),Ax n ps args tm=some tm'->pB μ args args'->yF μ n tm tmps →
  args'.length=ps.length/\yF μ n tm' ((ps.zip args').foldl (fun tmps x=>tmps.setIfInBounds x.1 x.2) tmps):=by
 intro ps;induction ps with
 | nil=>
  intro args tm tm' args' tmps h hl ht
  cases args with
  | nil=>rw[pB]at hl;subst hl;cases h;simp_all
  | cons a as=>cases h
 | cons p ps ih=>
  intro args tm tm' args' tmps h hl ht
  cases args with
  | nil=>cases h
  | cons a as=>
   rw[pB]at hl;obtain⟨v,r,rfl,hv,hl⟩:=hl
   have:=ih as _ _ r (tmps.setIfInBounds p v) h hl (ht.put (ds:=[]) (dst:=some p) hv)
   simp_all
theorem TB   {cs:List Frame} {f:FuncId}{t:Array Value}{as bd:Code} (ho:all[i]?=some o)(hw:Region.wanted o (yielded all tmps)=true)(hd:∀c,o.op≠.defer c)
  (h:(execOp (Act.eval ⟨tmps,ds⟩) o).run P w=.ok (.round l f t as bd) w') :
  step P (lone (b.atR ⟨tmps,ds⟩ (.inRegion all (i::rest)::k')) cs w)=.next (lone (Frame.round l f t as bd .normal) (b.atR ⟨tmps,ds⟩ (.inRegion all (i::rest)::k')::cs) w'):=
 step_lone_go (by
  rw[stepGR_op (a:=⟨tmps,ds⟩) ho hw,Oper.semAt_eq _ _ _ hd]
  simp_all [stepG.apply])
theorem TG   {cs:List Frame}{d:Deferred} (ho:all[i]?=some o)(hw:Region.wanted o (yielded all tmps)=true)(hb:b.roundOf=none)
  (h:(execOp (Act.eval ⟨tmps,ds⟩) o).run P w=.ok (.defer d) w') :
  step P (lone (b.atR ⟨tmps,ds⟩ (.inRegion all (i::rest)::k')) cs w)=.next (lone ((b.atR ⟨tmps,d::ds⟩ (.inRegion all (i::rest)::k')).finish undef) cs w'):=
 step_lone_go (by
  rw[stepGR_op (a:=⟨tmps,ds⟩) ho hw,hb,Oper.semAt_none]
  simp_all [stepG.apply,Frame.atR])
theorem TC   {cs:List Frame} (ho:all[i]?=some o)(hw:Region.wanted o (yielded all tmps)=true)(hd:∀c,o.op≠.defer c)(hb:b.roundOf=none)
  (h:(execOp (Act.eval ⟨tmps,ds⟩) o).run P w=.ok .recover w') :
  step P (lone (b.atR ⟨tmps,ds⟩ (.inRegion all (i::rest)::k')) cs w)=.next (match tryRecover (b.atR ⟨tmps,ds⟩ (.inRegion all (i::rest)::k')) cs with
   | some (v,cs)=>lone ((b.atR ⟨tmps,ds⟩ (.inRegion all (i::rest)::k')).finish v) cs w'
   | none=>lone ((b.atR ⟨tmps,ds⟩ (.inRegion all (i::rest)::k')).finish .nilIface) cs w'):=by
 have e:(stepG P true { frame:=b.atR ⟨tmps,ds⟩ (.inRegion all (i::rest)::k'),callers:=cs,status:=.running,dying:=none } w).bare=match tryRecover (b.atR ⟨tmps,ds⟩ (.inRegion all (i::rest)::k')) cs with
   | some (v,cs)=>.go { frame:=(b.atR ⟨tmps,ds⟩ (.inRegion all (i::rest)::k')).finish v,callers:=cs,status:=.running,dying:=none } w'
   | none=>.go { frame:=(b.atR ⟨tmps,ds⟩ (.inRegion all (i::rest)::k')).finish .nilIface,callers:=cs,status:=.running,dying:=none } w':=by
  rw[stepGR_op (a:=⟨tmps,ds⟩) ho hw,Oper.semAt_eq _ _ _ hd]
  have hb':(b.atR ⟨tmps,ds⟩ (.inRegion all (i::rest)::k')).roundOf=none:=hb
  simp only[stepG.apply,Sem.runT_eq,h,GStep.bare_after,hb',if_true]
  cases tryRecover (b.atR ⟨tmps,ds⟩ (.inRegion all (i::rest)::k')) cs with
  | none=>rfl
  | some p=>simp_all
 grind [step_lone_go]
theorem zb2   {i:BI}{args:List zA}{args':Array Value} (hw:cJ C μ acs.length none fr c)(hcs:qG C μ acs cs)(hH:rB B N μ H w)(hi:μ l=some i)(hl:pB μ args args'.toList)
  (hs:∀f t as bd,(Instr.yield i.b args').run P w=.ok (.round i.b f t as bd) w->Steps P m (lone (Frame.round i.b f t as bd .normal) (c::(cs++base)) w)):aD P C B N μ base m w (Nt l args C fr acs H):=by
 unfold Nt
 cases hx:ob (xJ H l) fun r=>ob (Ax r.n r.params args r.tm) fun tm=>some (⟨⟨[.code r.assign,.beginRound,.code r.body],tm,⟨r.fn,r.n,[],.run,false,some l⟩⟩,fr::acs,H⟩:oS)with
 | none=>exact trivial
 | some s=>
  simp only[sA]at hx;obtain⟨r,hr,tm',htm,hx⟩:=hx
  cases hx;obtain⟨_,r',_,h3,h4⟩:=Ot hH hr hi
  obtain⟨h5,h6⟩:=TU r.params args r.tm tm' args'.toList r'.tmps htm hl h4.tm
  rw[<- h4.params]at h5 h6;have sz:args'.size=r'.params.size:=by omega
  have e:(r'.params.zip args').foldl (fun tmps x=>tmps.setIfInBounds x.1 x.2) r'.tmps=(r'.params.toList.zip args'.toList).foldl (fun tmps x=>tmps.setIfInBounds x.1 x.2) r'.tmps:=by
   rw[<- Array.foldl_toList,Array.toList_zip]
  rw[<- e]at h6;refine⟨μ,_,c::cs,w,hs r'.fn ((r'.params.zip args').foldl (fun tmps x=>tmps.setIfInBounds x.1 x.2) r'.tmps) r'.assign r'.body ?_,fun _ _ h=>h,Below.refl N w,hH,?_,.cons hw hcs⟩
  ·simp_all [Instr.yield,Nq]
  ·refine⟨⟨h4.fn,h6.1,.nil,trivial,rfl,⟨i,hi,rfl⟩⟩,?_⟩
   show uO C μ (acs.length+1) r.n _ _ _ [.code r'.assign,.beginRound,.code r'.body] _
   rw[h4.assign,h4.body];exact .plain (.cons (.code _) (.cons .beginRound (.cons (.code _) .nil))) h6
theorem QU(hS:uK P C B N I)(hH:rB B N μ H w)(hcs:qG C μ acs cs)    {r:sK}
  (hfr:cJ C μ acs.length none fr (b.atR ⟨tmps,ds⟩ (.inRegion all (i::rest)::k'))) (ho:all[i]?=some o) (hw:Region.wanted o (yielded all tmps)=true)
  (hdef:(∃c,o.op=.defer c)->r=.fail\/∃d,r=.defer d) (h:cO P C B N μ H w (Act.eval ⟨tmps,ds⟩) o r) :
  aD P C B N μ base (lone (b.atR ⟨tmps,ds⟩ (.inRegion all (i::rest)::k')) (cs++base) w) w (Lr r C fr acs H):=by
 have hd:(∀d,r≠.defer d)->r≠.fail->∀c,o.op≠.defer c:=by
  intro h1 h2 c e;simp_all
 cases r with
 | fail=>exact trivial
 | val v H'=>
  have hd:=hd (fun _ h=>by cases h) (fun h=>by cases h)
  rcases h with h | ⟨f,args',h1,h2⟩
  ·obtain⟨v',w',μ',s,hm,hH',hb,hv⟩:=Wh (b:=b) (k':=k') (rest:=rest) (cs:=cs++base) ho hw hd h
   refine Zr (H:=H) hfr hcs hm hH' hb hv ?_
   rw[Frame.finish_atR,ho,yai,Jy];exact .one s
  ·obtain⟨v',w',s,μ',hm,hH',hb,hv⟩:=PT (b:=b) (k':=k') (rest:=rest) (cs:=cs++base) (R:=fun v' w'=>∃ μ',μ.le μ'/\rB B N μ' H' w'/\Below N w w'/\vA μ' v v') ho hw hd h1 (h2.mono fun e w' hh=>by simp_all)
   refine Zr (H:=H) hfr hcs hm hH' hb hv ?_
   grind [Frame.finish_atR,Jy]
 | enter f args=>
  have hd:=hd (fun _ h=>by cases h) (fun h=>by cases h)
  exact zb4 hS.fns hfr hcs hH fun fn h1 h2=>by
   obtain⟨args',h3,h4⟩:=h fn h1 h2
   exact⟨args',h4,.one (GC ho hw hd h3)⟩
 | round l args=>
  have hd:=hd (fun _ h=>by cases h) (fun h=>by cases h)
  obtain⟨i0,args',hi,hl,hrun⟩:=h
  exact zb2 hfr hcs hH hi hl fun f t as bd hy=>.one (TB ho hw hd (by simp_all))
 | defer d=>
  obtain⟨_,d',h1,h2⟩:=h
  show aD P C B N μ base _ w (Zs d C fr acs H)
  unfold Zs
  cases hr:fr.R.roundOf with
  | some l=>exact trivial
  | none=>
   have hb:b.roundOf=none:=by
    have:=hfr.rest.round
    rw[hr]at this;change Fq μ none b.roundOf at this
    cases hb:b.roundOf with
    | none=>rfl
    | some l=>rw[hb]at this;exact this.elim
   simp only[]
   cases hf:kH fr pD with
   | none=>exact trivial
   | some g=>
    have:=Hv (cur:=some H) hfr hf Ri
    refine⟨μ,_,cs,w,.one (TG ho hw hb h1),fun _ _ h=>h,Below.refl N w,hH,?_,hcs⟩
    rw[Frame.finish_atR]at this ⊢
    rw[Jy]at this ⊢
    have e:∀x,(Act.put ⟨tmps,d'::ds⟩ x undef).tmps=(Act.put ⟨tmps,ds⟩ x undef).tmps:=fun x=>by cases x<;>rfl
    rw[e];exact⟨⟨this.rest.fn,this.rest.size,.cons h2 this.rest.defers,this.rest.mode,this.rest.kind,this.rest.round⟩,this.body⟩
 | panic v=>
  have hd:=hd (fun _ h=>by cases h) (fun h=>by cases h)
  obtain⟨v',h1,h2⟩:=h
  exact zb3 hfr hcs hH h2 (.one (TD ho hw hd h1))
 | recover=>
  have hd:=hd (fun _ h=>by cases h) (fun h=>by cases h)
  show aD P C B N μ base _ w (Nu C fr acs H)
  unfold Nu
  cases hr:fr.R.roundOf with
  | some l=>exact trivial
  | none=>
   have hb:b.roundOf=none:=by
    have:=hfr.rest.round
    rw[hr]at this;change Fq μ none b.roundOf at this
    cases hb:b.roundOf with
    | none=>rfl
    | some l=>rw[hb]at this;exact this.elim
   cases hk:fr.R.deferred with
   | false=>exact trivial
   | true=>
    have hkind:b.kind=.deferred:=by have:=hfr.rest.kind;rw[hk]at this;exact this
    cases hcs with
    | nil=>exact trivial
    | @cons c b1 acs1 cs1 hc hcs1=>
     have st:=TC (P:=P) (b:=b) (k':=k') (rest:=rest) (cs:=b1::(cs1++base)) ho hw hd hb h
     have hm:=hc.rest.mode
     have tr:∀todo,tryRecover (b.atR ⟨tmps,ds⟩ todo) (b1::(cs1++base))=match b1.mode with
       | .panicking ({ v,recovered:=false,goexit:=false }::older)=>some (v,{ b1 with mode:=.panicking ({ v,recovered:=true }::older) }::(cs1++base))
       | _=>none:=by
      intro todo;obtain⟨bfn,btmps,btodo,bdefers,bmode,bkind,bround⟩:=b
      simp only at hkind
      subst hkind;rfl
     rw[tr]at st;simp only[]
     cases hcm:c.R.mode with
     | run=>
      rw[hcm]at hm
      cases hbm:b1.mode with
      | run=>
       rw[hbm]at st;simp only[]
       cases hf:kH fr .niliface with
       | none=>exact trivial
       | some g=>exact⟨μ,_,b1::cs1,w,.one st,fun _ _ h=>h,Below.refl N w,hH,Hv hfr hf (by rw[vA]),.cons hc hcs1⟩
      | _=>rw[hbm]at hm;exact hm.elim
     | returning=>
      rw[hcm]at hm
      cases hbm:b1.mode with
      | returning=>
       rw[hbm]at st;simp only[]
       cases hf:kH fr .niliface with
       | none=>exact trivial
       | some g=>exact⟨μ,_,b1::cs1,w,.one st,fun _ _ h=>h,Below.refl N w,hH,Hv hfr hf (by rw[vA]),.cons hc hcs1⟩
      | _=>rw[hbm]at hm;exact hm.elim
     | panicking ch=>
      rw[hcm]at hm
      cases hbm:b1.mode with
      | run=>rw[hbm]at hm;exact hm.elim
      | returning=>rw[hbm]at hm;exact hm.elim
      | panicking ch'=>
       rw[hbm]at hm st
       cases hm with
       | nil=>exact trivial
       | @cons p e older older' hp hold=>
        obtain⟨pv,pr⟩:=p
        cases pr with
        | true=>exact trivial
        | false=>
         obtain⟨ev',er,eg⟩:=e
         obtain⟨q1,q2,q3⟩:=hp
         simp only at q1 q2 q3
         subst q2 q3
         simp only[]
         cases hf:kH fr pv with
         | none=>exact trivial
         | some g=>
          have jH:=Hv (cur:=some H) hfr hf q1
          refine⟨μ,_,{ b1 with mode:=.panicking ({ v:=ev',recovered:=true }::older') }::cs1,w,.one st,fun _ _ h=>h,Below.refl N w,hH,jH,.cons ?_ hcs1⟩
          refine⟨⟨hc.rest.fn,hc.rest.size,hc.rest.defers,.cons ⟨q1,rfl,rfl⟩ hold,hc.rest.kind,hc.rest.round⟩,?_⟩
          have:=hc.body
          rw[hcm]at this;exact this
end
end
section
variable {a e:RE}{b:Nat}{l s:List RE}
section
variable {P:Program}{C:iA}{B N:Nat}{μ:Mu}{H H' Hs:xA}{w:World}
def RE.on(C:iA)(e:RE)(x:tA):Option tA:=
 match e with
 | .st b off l=>tB (!Nat.blt b C.base) (ob x.asCells fun c=>tB (Nat.ble (off+yB l) c.2.1&&sD zA.one l) (some (.cells (c.1.setMany l off) c.2.1 c.2.2)))
 | .up b k v=>tB (!Nat.blt b C.base) (ob x.asMap fun m=>some (.map (fD m [(k,v)])))
theorem Qo  : Cx C H e=some H' ↔ ∃x y,H.t.get e.blk=some x/\e.on C x=some y/\H'=setBlk H e.blk y:=by
 cases e with
 | st b off l=>
  grind [Cx,sJ,qD,RE.on,RE.blk,sA,sB]
 | up b k v=>
  grind [Cx,nL,RE.on,RE.blk,sA,sB]
theorem Hr{a:Nat}{x:tA}:(setBlk H b x).t.get a=if a=b then some x else H.t.get a:=Tr.get_set _ _ _ _
def wU(a b:RE):Prop:=a.blk≠b.blk\/∃c k v k' v',a=.up c k v/\b=.up c k' v'/\lI k k'=some false
def wU.symm{b:RE}(h:wU a b):wU b a:=by
 rcases h with h | ⟨c,k,v,k',v',rfl,rfl,h⟩
 ·exact .inl fun e=>h e.symm
 ·exact .inr ⟨c,k',v',k,v,rfl,rfl,Pe h⟩
def zfq{b:RE}(h:DV a b=true):wU a b:=by
 unfold DV at h;rw[rD]at h;split at h
 ·rename_i e
  cases a with
  | st=>cases h
  | up c k v=>
   cases b with
   | st=>cases h
   | up c' k' v'=>
    have e:c=c':=gC.1 e
    subst e;simp only[zck]at h;split at h
    ·rename_i r hr
     cases r with
     | true=>cases h
     | false=>exact .inr ⟨c,k,v,k',v',rfl,rfl,hr⟩
    ·cases h
 ·rename_i e
  exact .inl fun k=>e (gC.2 k)
def QP:∀ {l:List RE},Vu l=true->l.Pairwise wU
 | [],_=>.nil
 | a::l,h=>by
  unfold Vu at h;rw[ybb,mI,ycb]at h;exact .cons (fun b hb=>zfq (h.1 b hb)) (QP h.2)
def oJ (b:Nat):List RE->List (zA × zA)
 | []=>[]
 | .st _ _ _::l=>oJ b l
 | .up c k v::l=>if c=b then(k,v)::oJ b l else oJ b l
def Ur{b:Nat}:∀ {l m:List RE},oJ b (l++m)=oJ b l++oJ b m
 | [],_=>rfl
 | .st _ _ _::l,m=>Ur (l:=l)
 | .up c k v::l,m=>by
  rw[List.cons_append,oJ,oJ,Ur (l:=l)]
  split<;>simp
theorem Kz{b:Nat}{p:zA × zA}:∀ {l:List RE},p∈oJ b l->.up b p.1 p.2∈l
 | .st _ _ _::l,h=>.tail _ (Kz (l:=l) h)
 | .up c k v::l,h=>by
  rw[oJ]at h;split at h
  ·rename_i e
   subst e;rcases ybs.1 h with rfl | h
   ·grind
   ·exact .tail _ (Kz h)
  ·exact .tail _ (Kz h)
theorem zel  (h:∀e∈l,e.blk≠b):oJ b l=[]:=by
 cases hx:oJ b l with
 | nil=>rfl
 | cons p r=>
  have:p∈oJ b l:=by simp_all
  exact absurd rfl (h _ (Kz this))
theorem zek {m:List RE}(p:l.Perm m):(oJ b l).Perm (oJ b m):=by
 induction p with
 | nil=>exact .refl _
 | cons x _ ih=>
  cases x with
  | st=>exact ih
  | up c k v=>
   rw[oJ,oJ];split
   all_goals simp_all
 | swap x y l=>
  cases x with
  | st=>cases y<;>exact .refl _
  | up c k v=>
   cases y with
   | st=>exact .refl _
   | up c' k' v'=>
    simp only[oJ];split<;>split<;>first | exact .refl _ | exact .swap _ _ _
 | trans _ _ h1 h2=>exact h1.trans h2
theorem zp9  (h:l.Pairwise wU):DK (oJ b l):=by
 unfold DK;induction l with
 | nil=>exact .nil
 | cons x l ih=>
  rw[List.pairwise_cons]at h
  cases x with
  | st=>exact ih h.2
  | up c k v=>
   rw[oJ];split
   ·rename_i e
    subst e;refine .cons (fun p hp=>?_) (ih h.2)
    rcases h.1 _ (Kz hp)with h1 | ⟨_,_,_,_,_,e1,e2,h1⟩
    ·exact absurd rfl h1
    simp_all
   simp_all
structure vO (C:iA) (H:xA) (s:List RE) (Hs:xA):Prop where
 next:Hs.next=H.next
 st:∀b off l,RE.st b off l∈s->∃x y,H.t.get b=some x/\(RE.st b off l).on C x=some y/\Hs.t.get b=some y
 up:∀b k v,RE.up b k v∈s->Hs.t.get b=some (.map (oJ b s))
 no:∀a,(∀e∈s,e.blk≠a)->Hs.t.get a=H.t.get a
theorem vO.nil:vO C H [] H:=⟨rfl,fun _ _ _ h=>(by cases h),fun _ _ _ h=>(by cases h),fun _ _=>rfl⟩
def Qv(C:iA)(H:xA)(e:RE):Prop:=
 match e with
 | .st _ _ _=>∃H',Cx C H e=some H'
 | .up b _ _=>Nat.blt b C.base=false/\H.t.get b=some (.map [])
theorem zbz (h:Jw C H e=true):Qv C H e:=by
 cases e with
 | st b off l=>
  change (!rE (sJ C H b off l))=true at h
  cases hs:sJ C H b off l with
  | none=>rw[hs]at h;cases h
  | some H'=>exact⟨H',hs⟩
 | up b k v=>
  unfold Jw at h;simp only[ybb,ycp]at h;refine⟨h.1,?_⟩
  grind [Vn]
theorem vO.step  (h:vO C H s Hs)(hr:Qv C H e)(ha:∀x∈s,wU x e):∃H',Cx C Hs e=some H'/\vO C H (s++[e]) H'/\(∀b k v,e=.up b k v->∃m,Hs.t.get b=some (.map m)/\Nat.blt b C.base=false/\(∀p∈m,lI k p.1=some false)/\H'=setBlk Hs b (.map (m++[(k,v)]))):=by
 cases e with
 | st b off l=>
  have hne:∀x∈s,x.blk≠b:=fun x hx=>by
   rcases ha x hx with h1 | ⟨_,_,_,_,_,_,h1,_⟩
   ·exact h1
   grind
  obtain⟨H1,h1⟩:=hr
  obtain⟨x,y,hx,hy,rfl⟩:=Qo.1 h1
  have hx:H.t.get b=some x:=hx
  have hg:=h.no b hne
  refine⟨setBlk Hs b y,Qo.2 ⟨x,y,by show Hs.t.get b=_;simp_all,hy,rfl⟩,⟨h.next,fun b' off' l' hm=>?_,fun b' k v hm=>?_,fun a ha'=>?_⟩,fun _ _ _ e=>by cases e⟩
  ·rcases yaf.1 hm with hm | hm
   ·obtain⟨u,v,g1,g2,g3⟩:=h.st b' off' l' hm
    refine⟨u,v,g1,g2,?_⟩
    rw[Hr,yaa (show ¬ b'=b from hne _ hm)]
    exact g3
   grind [Hr]
  ·rcases yaf.1 hm with hm | hm
   ·rw[Hr,yaa (show ¬ b'=b from hne _ hm),h.up b' k v hm,Ur]
    simp[oJ]
   grind
  ·rw[Hr,yaa (fun e=>ha' (.st b off l) (by simp) e.symm)]
   exact h.no a fun e he=>ha' e (by simp[he])
 | up b k v=>
  obtain⟨hb,hm⟩:=hr
  have hst:∀b' off l,RE.st b' off l∈s->b'≠b:=fun b' off l hx=>by
   rcases ha _ hx with h1 | ⟨_,_,_,_,_,h1,_,_⟩
   ·exact h1
   grind
  have hg:Hs.t.get b=some (.map (oJ b s)):=by
   by_cases hex:∃e∈s,e.blk=b
   ·obtain⟨e,he,hb'⟩:=hex
    cases e with
    | st b' off l=>exact absurd hb' (hst _ _ _ he)
    | up b' k' v'=>
     have hb':b'=b:=hb'
     subst hb'
     exact h.up _ _ _ he
   ·have hn:∀e∈s,e.blk≠b:=fun e he hb'=>hex ⟨e,he,hb'⟩
    rw[h.no b hn,hm,zel hn]
  refine⟨setBlk Hs b (.map (oJ b s++[(k,v)])),Qo.2 ⟨_,_,hg,?_,rfl⟩,⟨h.next,fun b' off' l' hm'=>?_,fun b' k' v' hm'=>?_,fun a ha'=>?_⟩,fun b' k' v' e=>?_⟩
  ·simp_all [RE.on,tB,tA.asMap,aG]
  ·rcases yaf.1 hm' with hm' | hm'
   ·obtain⟨u,x,g1,g2,g3⟩:=h.st b' off' l' hm'
    grind [Hr]
   simp_all
  ·rw[Hr,Ur]
   by_cases e:b'=b
   ·grind [oJ]
   ·rw[yaa e]
    have:oJ b' [RE.up b k v]=[]:=by grind [oJ]
    rw[this,ycd];rcases yaf.1 hm' with hm' | hm'
    ·exact h.up b' k' v' hm'
    simp_all
  ·rw[Hr,yaa (fun e=>ha' (.up b k v) (by simp) e.symm)]
   exact h.no a fun e he=>ha' e (by simp[he])
  ·cases e
   refine⟨_,hg,hb,fun p hp=>?_,rfl⟩
   rcases ha _ (Kz hp)with h1 | ⟨_,_,_,_,_,e1,e2,h1⟩
   ·exact absurd rfl h1
   grind [Pe]
theorem vO.list (h:vO C H s Hs)(hr:∀e∈l,Qv C H e)(ha:(s++l).Pairwise wU):∀ {H'},Im C l Hs=some H'->vO C H (s++l) H':=by
 induction l generalizing s Hs with
 | nil=>intro H' hl;cases hl;simp_all
 | cons e l ih=>
  intro H' hl;unfold Im at hl;rw[sA]at hl;obtain⟨H1,h1,hl⟩:=hl
  have hap:∀x∈s,wU x e:=fun x hx=>by
   grind
  obtain⟨H2,g1,g2,_⟩:=h.step (hr e (.head _)) hap
  rw[h1]at g1;cases g1
  have:=ih g2 (fun x hx=>hr x (.tail _ hx)) (by simp_all) hl
  rwa [ybz]at this
structure HEq' (μ:Mu) (H H':xA):Prop where
 next:H'.next=H.next
 get:∀a,H'.t.get a=H.t.get a\/((∃i,μ a=some i)/\∃m m',H.t.get a=some (.map m)/\H'.t.get a=some (.map m')/\m.Perm m'/\DK m)
def vO.perm{s':List RE}{H1 H2:xA}(h:vO C H s H1)(h':vO C H s' H2)(p:s.Perm s')(ha:s.Pairwise wU)(hm:∀e∈s,∃i,μ e.blk=some i):HEq' μ H1 H2:=by
 refine⟨h'.next.trans h.next.symm,fun a=>?_⟩
 by_cases hex:∃e∈s,e.blk=a
 ·obtain⟨e,he,rfl⟩:=hex
  cases e with
  | st b off l=>
   obtain⟨x,y,g1,g2,g3⟩:=h.st b off l he
   obtain⟨x',y',g1',g2',g3'⟩:=h'.st b off l (p.mem_iff.1 he)
   rw[g1]at g1';cases g1'
   rw[g2]at g2';cases g2'
   exact .inl (g3'.trans g3.symm)
  | up b k v=>exact .inr ⟨hm _ he,_,_,h.up b k v he,h'.up b k v (p.mem_iff.1 he),zek p,zp9 ha⟩
 ·left
  rw[h.no a fun e he hb=>hex ⟨e,he,hb⟩,h'.no a fun e he hb=>hex ⟨e,p.mem_iff.2 he,hb⟩]
theorem rB.congr'(hH:rB B N μ H w)(h:HEq' μ H H'):rB B N μ H' w:=by
 have hle:∀a y,H'.t.get a=some y->∃x,H.t.get a=some x/\(y=x\/∃m m',x=.map m/\y=.map m'/\m.Perm m'/\DK m):=by
  intro a y hy;rcases h.get a with e | ⟨_,m,m',h1,h2,h3⟩
  all_goals grind
 refine⟨hH.base,hH.glob,fun a x i ha hx hi=>?_,by rw[h.next];exact hH.next,hH.size,fun a ha=>?_,fun a x i hx hi=>?_,hH.own,fun a b x y i j hx hy hi hj ha hb e=>?_,fun a x t hp=>?_⟩
 ·obtain⟨y,hy,hxy⟩:=hle a x hx
  obtain⟨g1,g2,g3⟩:=hH.low a y i ha hy hi
  rcases hxy with rfl | ⟨m,m',rfl,rfl,_⟩
  ·simp_all
  ·exact⟨g1,rfl,rfl⟩
 ·rw[h.next]at ha
  obtain⟨g1,g2⟩:=hH.fresh a ha
  refine⟨g1,?_⟩
  rcases h.get a with e | ⟨_,m,m',h1,_⟩
  all_goals simp_all
 ·obtain⟨y,hy,hxy⟩:=hle a x hx
  obtain⟨o,g1,g2⟩:=hH.blk a y i hy hi
  refine⟨o,g1,?_⟩
  rcases hxy with rfl | ⟨m,m',rfl,rfl,hp,hd⟩
  ·exact g2
  ·obtain⟨es,clock,l',h1,h2,h3⟩:=g2
   refine⟨es,clock,l',h1,?_,h3⟩
   rcases h2 with rfl | ⟨h2,_⟩
   ·exact .inr ⟨hp.symm,hd.perm hp⟩
   ·exact .inr ⟨hp.symm.trans h2,hd.perm hp⟩
 ·obtain⟨x',hx',_⟩:=hle a x hx
  obtain⟨y',hy',_⟩:=hle b y hy
  exact hH.inj a b x' y' i j hx' hy' hi hj ha hb e
 ·obtain⟨g1,g2,g3⟩:=hH.pnd a x t hp
  refine⟨g1,?_,g3⟩
  rcases h.get a with e | ⟨⟨i,hi⟩,_⟩
  all_goals simp_all
theorem zem(hT:mF P C)(hbase:B<=C.base)(hH:rB B N μ Hs w){e:vD}{ρ:Operand->Value}(hE:gF μ e ρ){o:Oper}{ef:wO}{re:RE}(h1:Cj o.op e=some ef)(h2:qX C ef=some re)
  (h3:Cx C Hs re=some H') (h4:∀b k v,re=.up b k v->∃m,Hs.t.get b=some (.map m)/\Nat.blt b C.base=false/\(∀p∈m,lI k p.1=some false)/\H'=setBlk Hs b (.map (m++[(k,v)]))) :
  sS P B N μ w ρ o pD H'/\∃i,μ re.blk=some i:=by
 obtain⟨dst,op,type,pos,after,guard⟩:=o
 have ups:∀ {t:Nat} {m k x:Operand},(ob (ev m e) fun m=>ob (ev k e) fun k=>ob (ev x e) fun v=>some (wO.upd t m k v))=some ef->Ev t m k x C e Hs=.val pD H'/\∃i,μ re.blk=some i:=by
  intro t m k x h1;simp only[sA]at h1;obtain⟨mv,hm,kv,hk,xv,hx,h1⟩:=h1
  cases h1;simp only[qX,sA,sB,ybb]at h2;obtain⟨ty,hty,ke,hke,kty,hkty,⟨hkd,hfit⟩,b,hb,h2⟩:=h2
  cases h2;obtain⟨l,hl,hbb,hfr,rfl⟩:=h4 b kv xv rfl
  have hbm:nL Hs b=some l:=by unfold nL;rw[hl];rfl
  constructor
  ·unfold Ev
   simp only[hty,hke,hkty,hkd,hm,hb,hbb,hbm,hk,hfit,hx,pA,tB,cond_true,ycl,Zb hfr];rfl
  ·have:=hE _ _ hm
   rw[Vr]at hb;subst hb;rw[vA]at this;obtain⟨i,hi,_⟩:=this
   exact⟨i,hi⟩
 cases op<;>try (cases h1;done)
 case insert t m k x=>
  obtain⟨g1,g2⟩:=ups h1
  exact⟨(Uc (P:=P) hT hbase hH hE g1).2,g2⟩
 case mapUpdate t m k x=>
  obtain⟨g1,g2⟩:=ups h1
  grind [Uc]
 case store t a x=>
  simp only[Cj,sA]at h1;obtain⟨av,ha,xv,hx,h1⟩:=h1
  cases h1;simp only[qX,sA,sB]at h2;obtain⟨ty,hty,p,hp,hsz,h2⟩:=h2
  cases h2;constructor
  ·refine MS (P:=P) hT hbase hH hE ?_
   unfold Pk;have h3':sJ C Hs p.1 p.2 xv.cells=some H':=h3
   simp only[hty,ha,hp,hx,pA,hsz,tB,cond_true,h3'];rfl
  ·have:=hE _ _ ha
   rw[Il]at hp;subst hp;rw[vA]at this;obtain⟨i,hi,_⟩:=this
   exact⟨i,hi⟩
end
end
section
variable {G:List Nat}
section
variable {P:Program}{C:iA}{B N:Nat}{μ:Mu}{H H' H1:xA}{w:World}{all:Array Oper}{olds:List (Nat × List Nat)}{anc:Tr Nat}{n:Nat}{old tm tm':Tm}{D D' D1:Nat}{S:Nat->Bool}{order:List Nat}{tmps:Array Value}{ds:List Deferred}{dp:Nat}
variable {b:Frame}{k:List Item}{cs:List Frame}
theorem aF.congrD(h:∀k,tb D k=tb D' k)(R:aF μ all olds anc n old tm D S order tmps):aF μ all olds anc n old tm D' S order tmps:=by
 have e:tb D=tb D':=funext h
 exact⟨R.reg,R.sched,fun i hi=>by rw[<- h];exact R.sub i hi,R.closed,by rw[<- e];exact R.dclosed,R.size,R.now,R.past,fun d hd hw=>R.keep d hd fun i o h1 h2=>by simp_all,R.big⟩
theorem iH.congrD(h:∀k,tb D k=tb D' k)(p:iH C μ dp H all olds n old tm D S):iH C μ dp H all olds n old tm D' S:=fun i hi=>p i (by simp_all)
theorem IW{α:Type}{R:α->α->Prop}(hs:∀a b,R a b->R b a):∀ {l:List α},l.Pairwise R->∀a∈l,∀b∈l,a≠b->R a b
 | [],_,a,ha,_,_,_=>by cases ha
 | x::l,h,a,ha,b,hb,hne=>by
  rw[List.pairwise_cons]at h;rcases ybs.1 ha with rfl | ha'
  ·grind
  ·rcases ybs.1 hb with rfl | hb'
   ·simp_all
   ·exact IW hs h.2 a ha' b hb' hne
def zoj{l m:List Nat}(h1:l.Nodup)(h2:m.Nodup)(h:∀i,i∈l ↔ i∈m):l.Perm m:=(List.perm_ext_iff_of_nodup h1 h2).2 h
theorem zih{o:Oper}(hl:Ph o.op=true)(ho:To C o=true)(e:vD)(H2:xA):(jF o.op).f C e H=(jF o.op).f C e H2:=by
 obtain⟨dst,op,type,pos,after,guard⟩:=o
 cases op<;>try (cases hl;done)
 rename_i c;simp only[Ph]at hl;split at hl
 case h_2=>cases hl
 rename_i hc;simp only[To,hc]at ho;simp only[jF,zpb,hc,dU,Tp,tR]
 cases ht:tD c.argTypes.toList 0 with
 | none=>rfl
 | some t=>
  rw[ht,pA]at ho;simp only[pA]
  cases hx:tD c.args.toList 0 with
  | none=>rfl
  | some x=>
   simp only[pA]
   cases hy:C.tys.get t with
   | none=>rfl
   | some ty=>
    rw[hy]at ho;simp only[pA]
    cases hv:ev x e with
    | none=>rfl
    | some v=>
     simp only[pA];have h6:Nat.beq ty.desc.tag 6=false:=by simp_all
     unfold yW;split
     ·rfl
     ·split
      ·rfl
      ·split
       ·rfl
       ·split
        ·rw[h6];rfl
        ·rfl
theorem IT (hG:EF all anc D G D1)(hlen:mZ C all=true){Ds:Nat}{seq:List Nat}(hDs:∀k,tb Ds k=(tb D k||decide (k∈seq)))(hseq:∀i∈seq,S i=true){g:Nat}(hg:g∈G)(hup:∀k,tb (pJ anc g) k=true->S k=true)
  (hp:iH C μ dp H all olds n old tm Ds S) (H2:xA):iH C μ dp H2 all olds n old tm Ds S:=by
 intro j hj hSj;rcases hp j hj hSj with⟨u,wu,vu,pu⟩ | h
 ·refine .inl ⟨u,wu,vu,?_⟩
  rw[hDs]at hj;simp only[ycq,decide_eq_true_eq]at hj;rcases hj with hj | hj
  ·rcases hG.again j u pu.op hj with h | h | h | h
   ·exact pu.pure h H2
   ·exact pu.float h H2
   ·refine⟨pu.op,pu.want,?_,pu.put⟩
    have hlo:To C u=true:=by
     unfold mZ at hlen;rw[mI,ycb]at hlen;exact hlen u (ycv (by simpa using pu.op))
    have:=pu.val
    grind [zih]
   simp_all
  simp_all
 simp_all
theorem zi0(hT:mF P C)(hbase:B<=C.base) (hG:EF all anc D G D1)(hlen:mZ C all=true){ef:Nat->wO}{re:Nat->RE}(hef:∀i∈G,iZ all old olds tm i=some (ef i)/\qX C (ef i)=some (re i))
  (hap:(G.map re).Pairwise wU) (hrd:∀i∈G,Qv C H (re i)):∀(order:List Nat) (S:Nat->Bool) (tmps:Array Value) (μ:Mu) (w:World) (seq:List Nat) (Hs:xA) (Ds:Nat),
  seq.Nodup->(∀i∈seq,i∈G/\S i=true)->vO C H (seq.map re) Hs->(∀i∈seq,∃j,μ (re i).blk=some j)->(∀k,tb Ds k=(tb D k||decide (k∈seq)))->rB B N μ Hs w →
  aF μ all olds anc n old tm Ds S order tmps->iH C μ dp Hs all olds n old tm Ds S →
  ∃(S':Nat->Bool) (order':List Nat) (tmps':Array Value) (μ':Mu) (w':World) (seq':List Nat) (Hs':xA),Steps P (lone (b.atR ⟨tmps,ds⟩ (.inRegion all order::k)) cs w) (lone (b.atR ⟨tmps',ds⟩ (.inRegion all order'::k)) cs w')/\Below N w w'/\μ.lw μ'/\(∀d,d≠dp->μ.ln d μ') ∧
   seq'.Perm G/\vO C H (seq'.map re) Hs'/\(∀i∈seq',∃j,μ' (re i).blk=some j)/\rB B N μ' Hs' w'/\aF μ' all olds anc n old tm D1 S' order' tmps'/\iH C μ' dp Hs' all olds n old tm D1 S'/\(∀i∈seq',S' i=true):=by
 have hapG:∀i∈G,∀j∈G,i≠j->wU (re i) (re j):=by
  rw[List.pairwise_map]at hap;exact IW (fun a b h=>h.symm) hap
 have jH:∀(order:List Nat) (S:Nat->Bool) (tmps:Array Value) (μ:Mu) (w:World) (seq:List Nat) (Hs:xA) (Ds:Nat),
  seq.Nodup->(∀i∈seq,i∈G/\S i=true)->vO C H (seq.map re) Hs->(∀i∈seq,∃j,μ (re i).blk=some j)->(∀k,tb Ds k=(tb D k||decide (k∈seq)))->rB B N μ Hs w →
  aF μ all olds anc n old tm Ds S order tmps->iH C μ dp Hs all olds n old tm Ds S->(∀i∈G,i∈seq) →
  ∃(S':Nat->Bool) (order':List Nat) (tmps':Array Value) (μ':Mu) (w':World) (seq':List Nat) (Hs':xA),Steps P (lone (b.atR ⟨tmps,ds⟩ (.inRegion all order::k)) cs w) (lone (b.atR ⟨tmps',ds⟩ (.inRegion all order'::k)) cs w')/\Below N w w'/\μ.lw μ'/\(∀d,d≠dp->μ.ln d μ') ∧
   seq'.Perm G/\vO C H (seq'.map re) Hs'/\(∀i∈seq',∃j,μ' (re i).blk=some j)/\rB B N μ' Hs' w'/\aF μ' all olds anc n old tm D1 S' order' tmps'/\iH C μ' dp Hs' all olds n old tm D1 S'/\(∀i∈seq',S' i=true):=by
  intro order S tmps μ w seq Hs Ds h1 h2 h3 h4 h5 h6 h7 h8 h9;have hD:∀k,tb Ds k=tb D1 k:=fun k=>by
   rw[h5,hG.done];grind
  exact⟨S,order,tmps,μ,w,seq,Hs,.refl _ _,Below.refl _ _,fun _ _ h=>h,fun d _=>μ.ln_refl d,zoj h1 hG.nodup fun i=>⟨fun h=>(h2 i h).1,h9 i⟩,h3,h4,h6,h7.congrD hD,h8.congrD hD,fun i hi=>(h2 i hi).2⟩
 intro order;induction order with
 | nil=>
  intro S tmps μ w seq Hs Ds h1 h2 h3 h4 h5 h6 h7 h8;refine jH _ S tmps μ w seq Hs Ds h1 h2 h3 h4 h5 h6 h7 h8 fun i hi=>?_
  obtain⟨o,ho,hi2,_⟩:=hG.op i hi
  have:=h7.sub _ (h7.sched i (ybe.1 ho).1)
  simp_all
 | cons i order ih=>
  intro S tmps μ w seq Hs Ds h1 h2 h3 h4 h5 h6 h7 h8;by_cases hall:∀i∈G,i∈seq
  ·grind
  cases hi:tb Ds i with
  | true=>
   obtain⟨o,ho,hS,hb,hs⟩:=h7.sched
   obtain⟨S',tmps',μ1,w1,s1,g1,r1,p1,up⟩:=IU (b:=b) (k:=k) (cs:=cs) (ds:=ds) hT h6 h7 h8 hi
   obtain⟨S2,order',tmps2,μ2,w2,seq2,Hs2,s2,b2,l2,d2,rest⟩:=ih S' tmps' μ1 w1 seq Hs Ds h1 (fun j hj=>⟨(h2 j hj).1,up j (h2 j hj).2⟩) h3 (fun j hj=>by obtain⟨x,hx⟩:=h4 j hj;exact⟨x,g1.le _ _ hx⟩) h5 g1.heap r1 p1
   exact⟨S2,order',tmps2,μ2,w2,seq2,Hs2,.head s1 s2,g1.below.trans b2,fun a x hx=>l2 a x (g1.le a x hx),fun d hd=>Mu.ln_trans (g1.pd d hd) (d2 d hd),rest⟩
  | false=>
   obtain⟨o,ho,hS,hb,hs⟩:=h7.sched
   have hiG:i∈G:=by
    cases hd1:tb D1 i with
    | false=>
     exfalso
     rcases hG.rest i o ho hd1 with h | h
     ·refine hall fun g hg=>?_
      have:=h7.sub g (h7.reg.up h7.closed ho hb (h g hg))
      obtain⟨_,_,hg2,_⟩:=hG.op g hg
      grind
     ·refine h fun j hj=>?_
      have:=h7.sub j (hb j hj)
      rw[h5]at this;rw[hG.done];grind
    | true=>
     rw[hG.done]at hd1;grind
   have hiseq:i∉seq:=fun h=>by
    grind
   obtain⟨o',ho',_,_,hdst⟩:=hG.op i hiG
   rw[ho]at ho';cases ho'
   obtain⟨e1,e2⟩:=hef i hiG
   unfold iZ at e1;simp only[sA,sB,bG]at e1;obtain⟨o',ho',wn,hw,hwn,e1⟩:=e1
   have:o'=o:=by
    grind
   subst this;subst hwn;have hwn:=h7.wanted ho hb hw
   obtain⟨Hn,a1,a2,a3⟩:=h3.step (hrd i hiG) (fun x hx=>by
    grind)
   obtain⟨hv,j0,hj0⟩:=zem (P:=P) (o:=o') hT hbase h6 (h7.erel (ds:=ds) h6.glob ho hS hb) e1 e2 a1 a3
   have hdf:∀c,o'.op≠.defer c:=fun c e=>by rw[e]at e1;cases e1
   obtain⟨v',w',μ',s1,m1,m2,m3,m4⟩:=Wh (b:=b) (k':=k) (rest:=order) (cs:=cs) ho hwn hdf hv
   have hD2:∀k,tb (Nat.lor Ds (Ct i)) k=(tb Ds k||k == i):=fun k=>by grind [Rv,Rw]
   have r1:=(h7.mono m1.f).did (D':=Nat.lor Ds (Ct i)) (tm':=tm) ho hD2 (fun d hd=>by grind) (fun _ _=>rfl) m4 (ds:=ds)
   have p0:=IT hG hlen h5 (fun j hj=>(h2 j hj).2) hiG (fun k hk=>h7.reg.up h7.closed ho hb hk) h8 Hn
   have p1:iH C μ' dp Hn all olds n old tm (Nat.lor Ds (Ct i)) (fun k=>S k||k == i):=by
    intro j hj hSj;rw[hD2]at hj;simp only[yal,ycq]at hj hSj;exact(iH.mono (m1.ln dp) p0) j (hj.resolve_right (by grind)) hSj.1
   obtain⟨S2,order',tmps2,μ2,w2,seq2,Hs2,s2,b2,l2,d2,rest⟩:=ih (fun k=>S k||k == i) (Act.put ⟨tmps,ds⟩ o'.dst v').tmps μ' w' (seq++[i]) Hn (Nat.lor Ds (Ct i))
    (by grind)
    (fun j hj=>by
     grind)
    (by grind)
    (fun j hj=>by
     rcases yaf.1 hj with hj | hj
     ·obtain⟨x,hx⟩:=h4 j hj;exact⟨x,m1.f _ _ hx⟩
     ·simp at hj;subst hj;exact⟨j0,m1.f _ _ hj0⟩)
    (fun k=>by
     grind)
    m2 r1 p1
   exact⟨S2,order',tmps2,μ2,w2,seq2,Hs2,.head s1 s2,m3.trans b2,fun a x hx=>l2 a x (m1.f a x hx),fun d hd=>Mu.ln_trans (m1.ln d) (d2 d hd),rest⟩
end
end
end Go.Am
