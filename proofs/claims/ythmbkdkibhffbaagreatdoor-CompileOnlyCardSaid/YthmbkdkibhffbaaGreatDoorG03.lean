/- A plan that is true to its region. -/
import Derived.AtR
import Derived.Test.YthmbkdkibhffbaaGreatDoorG02
set_option linter.all false
noncomputable section
namespace Go.Am
open Go Go.RowKit
theorem zs1(m i:Nat):tb m i=m.testBit i:=by
 have h:Nat.mod (Nat.shiftRight m i) 2=(m >>> i)%2:=rfl
 unfold tb;show Nat.beq ((m >>> i)%2) 1=_
 rw[Nat.testBit,Nat.and_comm,Nat.and_one_is_mod];rcases Nat.mod_two_eq_zero_or_one (m >>> i)with h | h<;>rw[h]<;>rfl
theorem znl(i j:Nat):tb (z7g i) j=(i == j):=by
 rw[zs1];show(1 <<< i).testBit j=_
 rw[Nat.one_shiftLeft,Nat.testBit_two_pow]
 cases h:(i == j)<;>simp_all
theorem z2g(a b j:Nat):tb (Nat.lor a b) j=(tb a j||tb b j):=by
 rw[zs1,zs1,zs1];exact Nat.testBit_or a b j
theorem zgl(j:Nat):tb 0 j=false:=by rw[zs1];simp
theorem oX(e:Edge):zd7 e=Region.binds .any e:=by
 unfold zd7 Region.binds
 cases e.ground<;>rfl
def aQ(ops:Array Oper)(S:Nat->Bool):Prop:=∀i o,ops[i]?=some o->S i=true->∀j,vL o j->S j=true
def z7s(ops:Array Oper)(k m:Nat):Prop:=∀S,aQ ops S->(∀o,ops[k]?=some o->∀j,vL o j->S j=true)->∀j,tb m j=true->S j=true
theorem zvi{t:Tr Nat}{j:Nat}:∀ {l:List Edge},tb (zfn t l) j=true->∃e∈l,Region.binds .any e=true/\(e.on=j\/tb (fJ t e.on) j=true):=by
 intro l;induction l with
 | nil=>intro h;simp[zfn,zgl]at h
 | cons e l ih=>
  intro h;unfold zfn at h
  cases hb:zd7 e with
  | false=>
   rw[hb]at h;obtain⟨e',h1,h2⟩:=ih h
   exact⟨e',.tail _ h1,h2⟩
  | true=>
   rw[hb]at h;simp only[cond_true,z2g,znl,ybr,beq_iff_eq]at h;rcases h with(h | h) | h
   ·exact⟨e,.head _,by rw[<- oX];exact hb,.inl h⟩
   ·exact⟨e,.head _,by rw[<- oX];exact hb,.inr h⟩
   ·obtain⟨e',h1,h2⟩:=ih h
    exact⟨e',.tail _ h1,h2⟩
theorem z07{t:Tr Nat}{i k m:Nat}:fJ (t.set i m) k=if k=i then m else fJ t k:=by
 unfold fJ;rw[Tr.get_set];by_cases h:k=i<;>simp[h]
theorem zw2{k:Nat}:fJ .leaf k=0:=rfl
theorem jR{α:Type}{l r:List α}{a:α}{i:Nat}(h:a::r=l.drop i):l[i]?=some a/\r=l.drop (i+1):=by
 have h1:(l.drop i)[0]?=some a:=by rw[<- h];rfl
 rw[ycf]at h1;refine⟨by simpa using h1,?_⟩
 have:r=(l.drop i).drop 1:=by rw[<- h];rfl
 rw[this,List.drop_drop]
theorem z13{ops:Array Oper}:∀(r:List Oper) (i:Nat) (t:Tr Nat),r=ops.toList.drop i->(∀k,z7s ops k (fJ t k))->∀k,z7s ops k (fJ (z7j r i t) k):=by
 intro r;induction r with
 | nil=>intro i t _ h k;exact h k
 | cons o r ih=>
  intro i t hr h;obtain⟨h1,h2⟩:=jR hr
  refine ih (i+1) _ h2 fun k=>?_
  rw[z07];split
  ·rename_i e;subst e
   intro S hS hp j hj;obtain⟨e,he,hb,hj⟩:=zvi hj
   have ho:ops[k]?=some o:=by simpa using h1
   have hon:=hp o ho e.on ⟨e,he,hb,rfl⟩
   rcases hj with rfl | hj
   ·exact hon
   ·exact h e.on S hS (fun o' ho'=>hS _ o' ho' hon) j hj
  ·exact h k
theorem zvd{ops:Array Oper}:∀(r:List Oper) (i:Nat),r=ops.toList.drop i->zom r i=true->∀k o,i<=k->ops[k]?=some o->∀j,vL o j->j<k:=by
 intro r;induction r with
 | nil=>
  intro i hr _ k o hk ho;have:ops.toList.length<=i:=by rw[<- List.drop_eq_nil_iff];exact hr.symm
  have:=(yaf.1 ho).1
  simp at *;omega
 | cons o r ih=>
  intro i hr h k o' hk ho;obtain⟨h1,h2⟩:=jR hr
  unfold zom at h;rw[iC]at h;split at h
  ·rename_i h3
   rcases Nat.eq_or_lt_of_le hk with rfl | hk
   ·have:o'=o:=by
     have:ops[i]?=some o:=by simpa using h1
     rw[this]at ho;exact(ybj ho).symm
    subst this;rintro j ⟨e,he,hb,rfl⟩
    rw[oG,ybc]at h3;have:=h3 e he
    rw[oX,hb]at this;exact lC.1 this
   ·exact ih (i+1) h2 h k o' hk ho
  ·cases h
def WrOk (ops:Array Oper)(i:Nat)(wr:Tr Nat):Prop:=∀d k,wr.get d=some k ↔ k<i/\∃o,ops[k]?=some o/\o.dst=some d
theorem z4g{ops:Array Oper}:∀(r:List Oper) (i:Nat) (t wr:Tr Nat),r=ops.toList.drop i->i<=ops.size->WrOk ops i t->wrOf r i t=some wr->WrOk ops ops.size wr:=by
 intro r;induction r with
 | nil=>
  intro i t wr hr hi h he
  cases he;have:ops.toList.length<=i:=by rw[<- List.drop_eq_nil_iff];exact hr.symm
  have:i=ops.size:=by simp at this;omega
  rw[<- this];exact h
 | cons o r ih=>
  intro i t wr hr hi h he;obtain⟨h1,h2⟩:=jR hr
  have ho:ops[i]?=some o:=by simpa using h1
  have hi':i<ops.size:=(yaf.1 ho).1
  unfold wrOf at he
  cases hd:o.dst with
  | none=>
   rw[hd]at he;refine ih (i+1) t wr h2 hi' (fun d k=>?_) he
   rw[h d k];constructor
   ·rintro⟨a,b⟩;exact⟨by omega,b⟩
   ·rintro⟨a,o',ho',hd'⟩
    refine⟨?_,o',ho',hd'⟩
    rcases Nat.lt_succ_iff_lt_or_eq.1 a with a | rfl
    ·exact a
    ·rw[ho]at ho';cases ho';rw[hd]at hd';cases hd'
  | some d0=>
   rw[hd]at he;simp only[]at he
   cases hg:t.get d0 with
   | some x=>rw[hg]at he;cases he
   | none=>
    rw[hg]at he;refine ih (i+1) _ wr h2 hi' (fun d k=>?_) he
    rw[Tr.get_set];by_cases hdd:d=d0
    ·subst hdd
     rw[if_pos rfl];constructor
     ·intro e;cases e;exact⟨Nat.lt_succ_self _,o,ho,hd⟩
     ·rintro⟨a,o',ho',hd'⟩
      rcases Nat.lt_succ_iff_lt_or_eq.1 a with a | rfl
      ·have:=(h d k).2 ⟨a,o',ho',hd'⟩
       rw[hg]at this;cases this
      ·rfl
    ·rw[if_neg hdd,h d k]
     constructor
     ·rintro⟨a,b⟩;exact⟨by omega,b⟩
     ·rintro⟨a,o',ho',hd'⟩
      refine⟨?_,o',ho',hd'⟩
      rcases Nat.lt_succ_iff_lt_or_eq.1 a with a | rfl
      ·exact a
      ·rw[ho]at ho';cases ho';rw[hd]at hd';cases hd';exact absurd rfl hdd
theorem zz8{ops:Array Oper}{wr anc:Tr Nat}{olds:List (Nat × List Nat)}:∀(r:List Oper) (i:Nat),r=ops.toList.drop i->zz9 wr anc olds r i=true →
  ∀k o,i<=k->ops[k]?=some o->zlu (fJ anc k) o.guard=true/\∀t∈aG o.op,zvc wr anc k (iE k olds) t=true:=by
 intro r;induction r with
 | nil=>
  intro i hr _ k o hk ho;have:ops.toList.length<=i:=by rw[<- List.drop_eq_nil_iff];exact hr.symm
  have:=(yaf.1 ho).1
  simp at *;omega
 | cons o r ih=>
  intro i hr h k o' hk ho;obtain⟨h1,h2⟩:=jR hr
  unfold zz9 at h;rw[iC]at h;split at h
  ·rename_i h3
   rw[iC]at h;split at h
   ·rename_i h4
    rcases Nat.eq_or_lt_of_le hk with rfl | hk
    ·have:o'=o:=by
      have:ops[i]?=some o:=by simpa using h1
      rw[this]at ho;exact(ybj ho).symm
     subst this;rw[oG,ybc]at h4;exact⟨h3,h4⟩
    ·exact ih (i+1) h2 h k o' hk ho
   ·cases h
  ·cases h
structure jP (ops:Array Oper) (olds:List (Nat × List Nat)) (anc:Tr Nat):Prop where
 back:Back ops
 before:∀k,z7s ops k (fJ anc k)
 one:∀(i j:Nat) (o u:Oper) (d:Nat),ops[i]?=some o->ops[j]?=some u->o.dst=some d->u.dst=some d->i=j
 guard:∀(k:Nat) (o:Oper),ops[k]?=some o->zlu (fJ anc k) o.guard=true
 name:∀(k:Nat) (o:Oper) (j:Nat) (u:Oper) (t:Nat),ops[k]?=some o->ops[j]?=some u->u.dst=some t->t∈aG o.op->if t∈iE k olds then j=k\/tb (fJ anc j) k=true else tb (fJ anc k) j=true
theorem zva{ops:Array Oper}{p:Plan}(h:uO ops p=true):∃anc D,jP ops p.olds anc/\mM ops.toList p.first 0=some D/\qJ ops.toList anc p.stages D=true:=by
 change zlt ops.toList p=true at h
 unfold zlt at h;rw[iC]at h;split at h
 case isFalse=>cases h
 rename_i hb
 cases hw:wrOf ops.toList 0 .leaf with
 | none=>rw[hw]at h;cases h
 | some wr=>
  rw[hw]at h;simp only[]at h;rw[iC]at h;split at h
  case isFalse=>cases h
  rename_i ho
  cases hl:mM ops.toList p.first 0 with
  | none=>rw[hl]at h;cases h
  | some D=>
   rw[hl]at h;have wo:WrOk ops ops.size wr:=z4g _ 0 _ _ rfl (Nat.zero_le _) (fun d k=>by simp[Tr.get_leaf]) hw
   have oo:=zz8 _ 0 (by rfl) ho
   have wr':∀k o d,ops[k]?=some o->o.dst=some d->wr.get d=some k:=fun k o d h1 h2=>(wo d k).2 ⟨(yaf.1 h1).1,o,h1,h2⟩
   refine⟨_,D,⟨fun i o h1=>zvd _ 0 rfl hb i o (Nat.zero_le _) h1,z13 _ 0 _ rfl fun k S _ _ j hj=>?_,?_,fun k o h1=>(oo k o (Nat.zero_le _) h1).1,?_⟩,rfl,h⟩
   ·rw[zw2,zgl]at hj;cases hj
   ·intro i j o u d h1 h2 h3 h4
    have a:=wr' i o d h1 h3
    rw[wr' j u d h2 h4]at a;exact(ybj a).symm
   ·intro k o j u t h1 h2 h3 h4
    have a:=(oo k o (Nat.zero_le _) h1).2 t h4
    unfold zvc at a;rw[wr' j u t h2 h3]at a;simp only[]at a;rw[iC]at a;by_cases hm:pH t (iE k p.olds)=true
    ·rw[if_pos hm]at a
     rw[if_pos ((tQ _ _).1 hm)]
     rw[iC]at a;split at a
     ·rename_i e;exact .inl (zC.1 e)
     ·exact .inr a
    ·rw[if_neg hm]at a
     rw[if_neg fun e=>hm ((tQ _ _).2 e)]
     exact a
theorem iW{ops:Array Oper}{i D D':Nat}(h:uQ ops.toList i D=some D'):∃o,ops[i]?=some o/\tb D i=false/\(∀j,vL o j->tb D j=true)/\∀k,tb D' k=(tb D k||k == i):=by
 unfold uQ at h;rw[lA]at h;obtain⟨o,h1,h2⟩:=h
 rw[vE]at h1;rw[lB]at h2;obtain⟨h2,h3⟩:=h2
 cases h3;rw[iC]at h2;split at h2
 ·cases h2
 ·rename_i h4
  refine⟨o,by simpa using h1,by simpa using h4,?_,fun k=>by rw[z2g,znl];congr 1;exact Bool.beq_comm⟩
  rintro j ⟨e,he,hb,rfl⟩
  unfold topo at h2;rw[oG,ybc]at h2;have:=h2 e he
  rw[oX,hb]at this;exact this
theorem zvb{ops:Array Oper}{h D:Nat}:∀(r:List Oper) (i:Nat),r=ops.toList.drop i->zol h D r i=true →
  ∀k o,i<=k->ops[k]?=some o->tb D k=false->(∀j,vL o j->tb D j=true)->k=h:=by
 intro r;induction r with
 | nil=>
  intro i hr _ k o hk ho;have:ops.toList.length<=i:=by rw[<- List.drop_eq_nil_iff];exact hr.symm
  have:=(yaf.1 ho).1
  simp at *;omega
 | cons o r ih=>
  intro i hr h k o' hk ho;obtain⟨h1,h2⟩:=jR hr
  unfold zol at h;rw[iC]at h;split at h
  ·rename_i h3
   rcases Nat.eq_or_lt_of_le hk with rfl | hk
   ·have:o'=o:=by
     have:ops[i]?=some o:=by simpa using h1
     rw[this]at ho;exact(ybj ho).symm
    subst this;intro hD hj;rw[hD]at h3;simp only[cond_false]at h3;rw[iC]at h3;split at h3
    ·rename_i e;exact zC.1 e
    ·exfalso
     have:topo D o'=true:=by
      unfold topo;rw[oG,ybc];intro e he
      cases hb:zd7 e with
      | false=>rfl
      | true=>exact hj e.on ⟨e,he,by rw[<- oX];exact hb,rfl⟩
     rw[this]at h3;cases h3
   ·exact ih (i+1) h2 h k o' hk ho
  ·cases h
theorem zqq{ops:Array Oper}{m D:Nat}{again:List Nat}:∀(r:List Oper) (i:Nat),r=ops.toList.drop i->zg2 m D again r i=true →
  ∀k o,i<=k->ops[k]?=some o->tb D k=true->tb m k=true\/zgx o.op=true\/wK o.op=true\/k∈again:=by
 intro r;induction r with
 | nil=>
  intro i hr _ k o hk ho;have:ops.toList.length<=i:=by rw[<- List.drop_eq_nil_iff];exact hr.symm
  have:=(yaf.1 ho).1
  simp at *;omega
 | cons o r ih=>
  intro i hr h k o' hk ho;obtain⟨h1,h2⟩:=jR hr
  unfold zg2 at h;rw[iC]at h;split at h
  ·rename_i h3
   rcases Nat.eq_or_lt_of_le hk with rfl | hk
   ·have:o'=o:=by
     have:ops[i]?=some o:=by simpa using h1
     rw[this]at ho;exact(ybj ho).symm
    subst this;intro hD;rw[hD]at h3;simp only[cond_true]at h3;rw[iC]at h3;split at h3
    ·rename_i e;exact .inl e
    ·rw[iC]at h3
     split at h3
     ·rename_i e;exact .inr (.inl e)
     ·rw[iC]at h3
      split at h3
      ·rename_i e;exact .inr (.inr (.inl e))
      ·exact .inr (.inr (.inr ((tQ _ _).1 h3)))
   ·exact ih (i+1) h2 h k o' hk ho
  ·cases h
theorem z0a{ops:Array Oper}{D:Nat}:∀(r:List Oper) (i:Nat),r=ops.toList.drop i->z0b D r i=true->∀k,i<=k->k<ops.size->tb D k=true:=by
 intro r;induction r with
 | nil=>
  intro i hr _ k hk ho;have:ops.toList.length<=i:=by rw[<- List.drop_eq_nil_iff];exact hr.symm
  simp at *;omega
 | cons o r ih=>
  intro i hr h k hk ho;obtain⟨h1,h2⟩:=jR hr
  unfold z0b at h;rw[iC]at h;split at h
  ·rename_i h3
   rcases Nat.eq_or_lt_of_le hk with rfl | hk
   ·exact h3
   ·exact ih (i+1) h2 h k hk ho
  ·cases h
theorem zja{ops:Array Oper}{anc:Tr Nat}{D:Nat}(h:qJ ops.toList anc [] D=true):∀k,k<ops.size->tb D k=true:=
 fun k hk=>z0a _ 0 rfl h k (Nat.zero_le _) hk
theorem oY{ops:Array Oper}{anc:Tr Nat}{D:Nat}{st:lG}{r:List lG}(h:qJ ops.toList anc (st::r) D=true)(hlt:st.heavy<=ops.size) :
  (∀k o,ops[k]?=some o->tb D k=false->(∀j,vL o j->tb D j=true)->k=st.heavy) ∧
  (∀k o,ops[k]?=some o->tb D k=true->tb (fJ anc st.heavy) k=true\/zgx o.op=true\/wK o.op=true\/k∈st.again) ∧
  ∃D1 D2,uQ ops.toList st.heavy D=some D1/\mM ops.toList st.lights D1=some D2/\qJ ops.toList anc r D2=true:=by
 unfold qJ at h;rw[iC,if_neg fun e=>by have:=lC.1 e;rw[bD]at this;simp at this;omega,iC]at h
 split at h
 case isFalse=>cases h
 rename_i h1;rw[iC]at h;split at h
 case isFalse=>cases h
 rename_i h2;refine⟨fun k o a b c=>zvb _ 0 rfl h1 k o (Nat.zero_le _) a b c,fun k o a b=>zqq _ 0 rfl h2 k o (Nat.zero_le _) a b,?_⟩
 cases h3:uQ ops.toList st.heavy D with
 | none=>rw[h3]at h;cases h
 | some D1=>
  rw[h3]at h;simp only[sA]at h
  cases h4:mM ops.toList st.lights D1 with
  | none=>rw[h4]at h;cases h
  | some D2=>rw[h4]at h;exact⟨D1,D2,rfl,h4,h⟩
theorem zen{ops:Array Oper}{anc:Tr Nat}{D:Nat}{st:lG}{r:List lG}(h:qJ ops.toList anc (st::r) D=true)(hlt:ops.size<st.heavy) :
  ∃o D1 D2,ops[st.heavy-(ops.size+1)]?=some o/\wK o.op=true/\uQ ops.toList (st.heavy-(ops.size+1)) D=some D1/\mM ops.toList st.lights D1=some D2/\qJ ops.toList anc r D2=true:=by
 have e0:Nat.sub st.heavy (Nat.succ (wB ops.toList))=st.heavy-(ops.size+1):=by rw[bD];simp
 unfold qJ at h;rw[iC,if_pos (lC.2 (by rw[bD];simpa using hlt)),iC,e0]at h
 split at h
 case isFalse=>cases h
 rename_i h1
 cases h3:uQ ops.toList (st.heavy-(ops.size+1)) D with
 | none=>rw[h3]at h;cases h
 | some D1=>
  rw[h3]at h;simp only[sA]at h
  cases h4:mM ops.toList st.lights D1 with
  | none=>rw[h4]at h;cases h
  | some D2=>
   rw[h4]at h;rw[vE]at h1
   cases ho:ops.toList[st.heavy-(ops.size+1)]? with
   | none=>rw[ho]at h1;cases h1
   | some o=>rw[ho]at h1;exact⟨o,D1,D2,by simpa using ho,h1,rfl,h4,h⟩
end Go.Am
namespace Go.Am
open Go Go.RowKit
section
variable {P:Program}{C:iA}{μ:Mu}{all:Array Oper}{olds:List (Nat × List Nat)}{anc:Tr Nat}{n:Nat}{old tm:Tm}{D:Nat}{S:Nat->Bool}{order:List Nat}{tmps:Array Value}{ds:List Deferred}
theorem jX:rA μ rE undef:=by rw[rE,rA];exact⟨#[],rfl,rfl⟩
theorem zxf{e:wD}(hg:∀g,g<256->μ g=some ⟨g,true,0,0,true⟩)(ht:∀t v,zyr t e=some v->rA μ v (tmps.getD t undef)):pF μ e (Act.eval ⟨tmps,ds⟩):=by
 intro x v h
 cases x with
 | tmp t=>exact ht t v h
 | const c=>exact zlv h
 | global g=>
  change zkv g e=some v at h
  unfold zkv at h;rw[iC]at h;split at h
  ·rename_i hlt
   cases h;rw[rA];exact⟨_,hg g (lC.1 hlt),rfl⟩
  ·cases h
 | func f=>
  change xFunc f e=some v at h
  cases h;rw[rA];exact⟨.func f,#[],#[],rfl,rfl,rfl,rfl⟩
theorem sE.erel(hg:∀g,g<256->μ g=some ⟨g,true,0,0,true⟩)(h:sE μ n tm tmps):pF μ (.now tm) (Act.eval ⟨tmps,ds⟩):=
 zxf hg fun t v hv=>h.2 t v hv
theorem Tm.get_set{t:Tm}{i j:Nat}{x:zA}:(t.set i x).get j=if j=i then some x else t.get j:=by
 unfold Tm.set Tm.get;simp only[jH];by_cases h:Nat.blt i t.k=true
 ·rw[if_pos h]
  simp only[];by_cases hj:j=i
  ·subst hj;rw[if_pos h,if_pos rfl,Tr.get_set,if_pos rfl]
  ·rw[if_neg hj,Tr.get_set,if_neg hj]
 ·rw[if_neg h]
  simp only[];have as:z12 j ((i,x)::t.t)=if j=i then some x else z12 j t.t:=by
   show(Bool.rec (motive:=fun _=>Option zA) (z12 j t.t) (some x) (Nat.beq j i))=_
   rw[jH];by_cases hj:j=i
   ·rw[if_pos (zC.2 hj),if_pos hj]
   ·rw[if_neg (fun e=>hj (zC.1 e)),if_neg hj]
  by_cases hj:j=i
  ·subst hj;rw[if_neg h,if_pos rfl,as,if_pos rfl]
  ·rw[if_neg hj]
   rw[as,if_neg hj]
theorem vI{dst:Option Nat}{v:zA}{t:Nat}:(putA n tm dst v).get t=if dst=some t/\t<n then some v else tm.get t:=by
 unfold putA putB
 cases dst with
 | none=>simp[putNo]
 | some d=>
  simp only[zz3];rw[iC];by_cases h:Nat.blt d n=true
  ·rw[if_pos h,Tm.get_set]
   by_cases e:t=d
   ·subst e;rw[if_pos rfl,if_pos ⟨rfl,lC.1 h⟩]
   ·rw[if_neg e,if_neg fun k=>e (ybj k.1).symm]
  ·rw[if_neg h,if_neg]
   rintro⟨e,h2⟩
   cases e
   exact h (lC.2 h2)
def nM(tm old:Tm)(olds:List (Nat × List Nat))(i:Nat)(o:Oper):wD:=.mixed tm old (iE i olds) (aG o.op)
structure zH (μ:Mu) (all:Array Oper) (olds:List (Nat × List Nat)) (anc:Tr Nat) (n:Nat) (old tm:Tm) (D:Nat) (S:Nat->Bool) (order:List Nat) (tmps:Array Value):Prop where
 reg:jP all olds anc
 sched:z17 all S order
 sub:∀i,S i=true->tb D i=true
 closed:aQ all S
 dclosed:aQ all (tb D)
 size:tmps.size=n
 now:∀(i:Nat) (o:Oper) (d:Nat) (v:zA),all[i]?=some o->o.dst=some d->S i=true->d<n->tm.get d=some v->rA μ v (tmps.getD d undef)
 past:∀(d:Nat) (v:zA),d<n->(∀(i:Nat) (o:Oper),all[i]?=some o->o.dst=some d->S i=false)->old.get d=some v->rA μ v (tmps.getD d undef)
 keep:∀d:Nat,d<n->(∀(i:Nat) (o:Oper),all[i]?=some o->o.dst=some d->tb D i=false)->tm.get d=old.get d
 big:∀(d:Nat) (v:zA),n<=d->(tm.get d=some v\/old.get d=some v)->rA μ v undef
theorem jP.up(R:jP all olds anc)(hS:aQ all S){i j:Nat}{o:Oper}(ho:all[i]?=some o)(hp:∀j,vL o j->S j=true)(h:tb (fJ anc i) j=true):S j=true:=
 R.before i S hS (fun o' ho'=>by rw[ho]at ho';cases ho';exact hp) j h
theorem gV{d:Nat}(h:tmps.size<=d):tmps.getD d undef=undef:=by
 simp[Array.getD,Nat.not_lt.2 h]
theorem zH.erel(R:zH μ all olds anc n old tm D S order tmps)(hg:∀g,g<256->μ g=some ⟨g,true,0,0,true⟩){i:Nat}{o:Oper}(ho:all[i]?=some o)(hi:S i=false)(hp:∀j,vL o j->S j=true) :
  pF μ (nM tm old olds i o) (Act.eval ⟨tmps,ds⟩):=by
 refine zxf hg fun t v h=>?_
 unfold nM at h;simp only[zyr]at h;rw[iC]at h;split at h
 case isFalse=>cases h
 rename_i hn;have hn:=(tQ _ _).1 hn
 by_cases hd:t<n
 ·by_cases hw:∃(j:Nat) (u:Oper),all[j]?=some u/\u.dst=some t
  ·obtain⟨j,u,hu,hud⟩:=hw
   have nm:=R.reg.name i o j u t ho hu hud hn
   by_cases hold:t∈iE i olds
   ·rw[if_pos hold]at nm
    rw[(tQ _ _).2 hold]at h
    simp only[cond_true]at h;have hj:S j=false:=by
     rcases nm with rfl | nm
     ·exact hi
     ·cases hj:S j with
      | false=>rfl
      | true=>
       have:=R.reg.up R.closed hu (fun k hk=>R.closed j u hu hj k hk) nm
       rw[hi]at this;cases this
    refine R.past t v hd (fun i' o' ho' hd'=>?_) h
    have:=R.reg.one i' j o' u t ho' hu hd' hud
    rw[this];exact hj
   ·rw[if_neg hold]at nm
    have:pH t (iE i olds)=false:=by
     cases hm:pH t (iE i olds)with
     | false=>rfl
     | true=>exact absurd ((tQ _ _).1 hm) hold
    rw[this]at h;simp only[cond_false]at h;exact R.now j u t v hu hud (R.reg.up R.closed ho hp nm) hd h
  ·have none1:∀(i:Nat) (o:Oper),all[i]?=some o->o.dst=some t->S i=false:=fun i o h1 h2=>absurd ⟨i,o,h1,h2⟩ hw
   have k:=R.keep t hd fun i o h1 h2=>absurd ⟨i,o,h1,h2⟩ hw
   refine R.past t v hd none1 ?_
   cases hm:pH t (iE i olds)with
   | false=>rw[hm]at h;rw[<- k];exact h
   | true=>rw[hm]at h;exact h
 ·rw[gV (by rw[R.size];omega)]
  refine R.big t v (by omega) ?_
  cases hm:pH t (iE i olds)with
  | false=>rw[hm]at h;exact .inl h
  | true=>rw[hm]at h;exact .inr h
theorem zh4{v:zA}{b:Bool}(h:rA μ v (.bool b)):v=.bool b:=by
 cases v<;>rw[rA]at h
 case bool=>cases h;rfl
 all_goals simp at h
theorem zH.wanted(R:zH μ all olds anc n old tm D S order tmps){i:Nat}{o:Oper}{w:Bool}(ho:all[i]?=some o)(hp:∀j,vL o j->S j=true)(h:kF o.guard all tm=some w) :
  Region.wanted o (yielded all tmps)=w:=by
 have hgd:=R.reg.guard i o ho
 unfold kF zsa at h;unfold Region.wanted
 cases hg:o.guard with
 | none=>rw[hg]at h;cases h;rfl
 | some jw=>
  obtain⟨j,want⟩:=jw
  rw[hg]at h hgd;simp only[zh3,lA,vE]at h;obtain⟨d,⟨u,hu,hud⟩,v,hv,h⟩:=h
  have hu':all[j]?=some u:=by simpa using hu
  have hj:S j=true:=R.reg.up R.closed ho hp hgd
  have hy:yielded all tmps j=match tmps[d]? with | some (.bool b)=>some b | _=>none:=by
   unfold yielded;rw[hu'];simp[hud]
   rfl
  simp only[];rw[hy];by_cases hd:d<n
  ·have hs:d<tmps.size:=by rw[R.size];exact hd
   have rel:=R.now j u d v hu' hud hj hd hv
   have e1:tmps[d]?=some (tmps.getD d undef):=by simp[Array.getD,hs]
   rw[e1];generalize tmps.getD d undef=x at rel
   cases hb:v.asBool with
   | some b=>
    rw[hb]at h;have:v=.bool b:=by cases v<;>simp[zA.asBool]at hb;rw[hb]
    rw[this,rA]at rel;subst rel;simp only[Option.some.injEq]at h;rw[<- h,eQ]
    cases b<;>cases want<;>rfl
   | none=>
    rw[hb]at h
    cases h
    cases x with
    | bool b=>rw[zh4 rel]at hb;cases hb
    | _=>rfl
  ·have e1:tmps[d]?=none:=by simp[R.size];omega
   rw[e1];have rel:=R.big d v (by omega) (.inl hv)
   cases hb:v.asBool with
   | some b=>
    have:v=.bool b:=by cases v<;>simp[zA.asBool]at hb;rw[hb]
    rw[this,rA]at rel
    cases rel
   | none=>rw[hb]at h;cases h;rfl
theorem zH.did{i:Nat}{D':Nat}{tm':Tm}{v:zA}{v':Value}{o:Oper}(R:zH μ all olds anc n old tm D S (i::order) tmps)(ho:all[i]?=some o)
  (hD:∀k,tb D' k=(tb D k||k == i)) (hput:∀d,o.dst=some d->d<n->tm'.get d=some v) (hother:∀d,(o.dst=some d->n<=d)->tm'.get d=tm.get d) (hv:rA μ v v') :
  zH μ all olds anc n old tm' D' (fun k=>S k||k == i) order (Act.put ⟨tmps,ds⟩ o.dst v').tmps:=by
 obtain⟨o',ho',hi,hp,hs⟩:=R.sched
 rw[ho]at ho';cases ho'
 have htm:∀d,(Act.put ⟨tmps,ds⟩ o.dst v').tmps.getD d undef=if o.dst=some d/\d<n then v' else tmps.getD d undef:=by
  intro d;unfold Act.put
  cases hd:o.dst with
  | none=>simp
  | some d0=>
   simp only[yby,ybt];by_cases e:d0=d
   ·subst e
    by_cases hn:d0<n
    ·simp[hn,R.size]
    ·simp[hn,R.size]
   ·simp[e]
 have hsz:(Act.put ⟨tmps,ds⟩ o.dst v').tmps.size=n:=by
  unfold Act.put
  cases o.dst<;>simp[R.size]
 refine⟨R.reg,hs,fun k hk=>?_,?_,?_,hsz,?_,?_,?_,?_⟩
 ·rw[hD]
  simp only[ybr]at hk ⊢
  exact hk.imp (R.sub k) id
 ·intro k u hu hk j hj
  simp only[ybr,beq_iff_eq]at hk ⊢
  rcases hk with hk | rfl
  ·exact .inl (R.closed k u hu hk j hj)
  ·rw[ho]at hu;cases hu
   exact .inl (hp j hj)
 ·intro k u hu hk j hj
  rw[hD]at hk ⊢
  simp only[ybr,beq_iff_eq]at hk ⊢
  rcases hk with hk | rfl
  ·exact .inl (R.dclosed k u hu hk j hj)
  ·rw[ho]at hu;cases hu
   exact .inl (R.sub j (hp j hj))
 ·intro k u d x hu hud hk hd hx
  rw[htm];by_cases e:o.dst=some d
  ·rw[if_pos ⟨e,hd⟩]
   rw[hput d e hd]at hx;cases hx;exact hv
  ·rw[if_neg fun h=>e h.1]
   rw[hother d fun h=>absurd h e]at hx;refine R.now k u d x hu hud ?_ hd hx
   simp only[ybr,beq_iff_eq]at hk;rcases hk with hk | rfl
   ·exact hk
   ·rw[ho]at hu;cases hu;exact absurd hud e
 ·intro d x hd hw hx
  rw[htm];have e:o.dst≠some d:=fun e=>by
   have:=hw i o ho e
   simp at this
  rw[if_neg fun h=>e h.1];refine R.past d x hd (fun k u hu hud=>?_) hx
  have:=hw k u hu hud
  simp only[Bool.or_eq_false_iff]at this;exact this.1
 ·intro d hd hw
  have e:o.dst≠some d:=fun e=>by
   have:=hw i o ho e
   rw[hD]at this;simp at this
  rw[hother d fun h=>absurd h e];refine R.keep d hd fun k u hu hud=>?_
  have:=hw k u hu hud
  rw[hD]at this;simp only[Bool.or_eq_false_iff]at this;exact this.1
 ·intro d x hd hx
  refine R.big d x hd ?_
  rw[hother d fun _=>hd]at hx;exact hx
end
end Go.Am
namespace Go.Am.HM
open Go Go.Am
def HLe (H H':qA):Prop:=∀b y,H.t.get b=some y->H'.t.get b=some y
section
variable {H HA:qA}{e:wD}{C:iA}{v:zA}
theorem eM(h:HLe H HA){b:Nat}{p:Tr zA × Nat × Option Nat}(hb:nD H b=some p):nD HA b=some p:=by
 unfold nD at hb ⊢;rw[lA]at hb ⊢;obtain⟨y,h1,h2⟩:=hb;exact⟨y,h _ _ h1,h2⟩
theorem aV(h:HLe H HA){b:Nat}{p:List (zA × zA)}(hb:kL H b=some p):kL HA b=some p:=by
 unfold kL at hb ⊢;rw[lA]at hb ⊢;obtain⟨y,h1,h2⟩:=hb;exact⟨y,h _ _ h1,h2⟩
theorem za4(h:HLe H HA){s d:vD}{a:zA}(hx:iN C s d a H=some v):iN C s d a HA=some v:=by
 unfold iN at hx ⊢
 split at hx
 ·rename_i k hk;exact hx
 ·rename_i hk
  rw[lB]at hx ⊢
  refine⟨hx.1,?_⟩
  have hx:=hx.2
  rw[iC]at hx ⊢
  split at hx
  ·rename_i e;rw[if_pos e];exact hx
  ·rename_i e
   rw[if_neg e];simp only[lA,lB]at hx ⊢
   obtain⟨a1,h1,b1,h2,k1,h3,h4,h5⟩:=hx
   refine⟨a1,h1,b1,h2,k1,h3,h4,?_⟩
   unfold cV at h5 ⊢
   split at h5
   ·simp only[lA]at h5 ⊢
    obtain⟨c,g1,g2⟩:=h5
    exact⟨c,eM h g1,g2⟩
   ·exact h5
theorem zek(h:HLe H HA){b size cap l:Nat}{arr:Bool}(hx:lH H b size cap l arr=true):lH HA b size cap l arr=true:=by
 unfold lH at hx ⊢
 cases hc:nD H b with
 | none=>rw[hc]at hx;cases hx
 | some c=>rw[hc]at hx;rw[eM h hc];exact hx
theorem yZ(h:HLe H HA){ty:vD}{a:zA}{l r:Option zA}(hx:pK C H ty a l r=some v):pK C HA ty a l r=some v:=by
 have row:∀ {arr e b off len cap},rL C H arr e b off len cap l r=some v->rL C HA arr e b off len cap l r=some v:=by
  intro arr e b off len cap hx;unfold rL at hx ⊢
  simp only[lA]at hx ⊢
  obtain⟨a1,h1,b1,h2,hx⟩:=hx
  refine⟨a1,h1,b1,h2,?_⟩
  cases hb:nD H b with
  | none=>
   have e1:aH H b a1.size cap b1.1 arr=false:=by unfold aH;rw[hb]
   have e2:lH H b a1.size cap b1.1 arr=false:=by unfold lH;rw[hb]
   rw[e1,e2,Bool.and_false,Bool.and_false]at hx
   cases hx
  | some c=>
   have e1:aH HA b a1.size cap b1.1 arr=aH H b a1.size cap b1.1 arr:=by unfold aH;rw[hb,eM h hb]
   have e2:lH HA b a1.size cap b1.1 arr=lH H b a1.size cap b1.1 arr:=by unfold lH;rw[hb,eM h hb]
   rw[e1,e2];exact hx
 unfold pK at hx ⊢
 split at hx
 ·exact hx
 ·split at hx
  ·rw[lA]at hx ⊢;obtain⟨a1,h1,h2⟩:=hx;exact⟨a1,h1,row h2⟩
  ·split at hx
   ·rw[lA]at hx ⊢;obtain⟨a1,h1,h2⟩:=hx;exact⟨a1,h1,row h2⟩
   ·exact hx
theorem zav(h:HLe H HA){m:zA}{l:List (zA × zA)}(hx:zeo H m=some l):zeo HA m=some l:=by
 unfold zeo at hx ⊢
 split at hx
 ·exact aV h hx
 ·exact hx
theorem zdj(h:HLe H HA){ty:vD}{a:zA}{n:Nat}(hx:zv1 H ty a=some n):zv1 HA ty a=some n:=by
 unfold zv1 at hx ⊢
 split at hx
 ·exact hx
 ·split at hx
  ·exact hx
  ·split at hx
   ·exact hx
   ·split at hx
    ·rw[lB,lA]at hx ⊢
     obtain⟨h1,l,h2,h3⟩:=hx
     exact⟨h1,l,aV h h2,h3⟩
    ·exact hx
theorem alight_mono(h:HLe H HA){o:Op}(hx:(iF o).f C e H=some v):(iF o).f C e HA=some v:=by
 cases o<;>first | exact hx | skip
 case makeFunc fn a b=>cases fn<;>exact hx
 case load t a=>
  change mN t a C e H=some v at hx
  show mN t a C e HA=some v
  unfold mN at hx ⊢
  simp only[lA]at hx ⊢
  obtain⟨a1,h1,p,h2,y,h3,c,h4,h5⟩:=hx
  exact⟨a1,h1,p,h2,y,h3,c,eM h h4,h5⟩
 case convert s d x=>
  change oL s d x C e H=some v at hx
  show oL s d x C e HA=some v
  unfold oL at hx ⊢
  simp only[lA]at hx ⊢
  obtain⟨a1,h1,b1,h2,c1,h3,h4⟩:=hx
  exact⟨a1,h1,b1,h2,c1,h3,za4 h h4⟩
 case slice t x lo hi mx=>
  cases mx with
  | some m=>exact hx
  | none=>
   change lR t x lo hi C e H=some v at hx
   show lR t x lo hi C e HA=some v
   unfold lR at hx ⊢
   simp only[lA]at hx ⊢
   obtain⟨a1,h1,b1,h2,c1,h3,d1,h4,h5⟩:=hx
   exact⟨a1,h1,b1,h2,c1,h3,d1,h4,yZ h h5⟩
 case lookup t x i ok=>
  change uP t x i ok C e H=some v at hx
  show uP t x i ok C e HA=some v
  unfold uP at hx ⊢
  simp only[lA,lB]at hx ⊢
  obtain⟨a1,h1,b1,h2,c1,h3,h4,d1,h5,m,h6,es,h7,h8⟩:=hx
  exact⟨a1,h1,b1,h2,c1,h3,h4,d1,h5,m,h6,es,zav h h7,h8⟩
 case call c=>
  change (qO c c.callee).f C e H=some v at hx
  show(qO c c.callee).f C e HA=some v
  cases hc:c.callee with
  | builtin b=>
   rw[hc]at hx
   cases b<;>first | exact hx | skip
   case len=>
    change zox c C e H=some v at hx
    show zox c C e HA=some v
    unfold zox at hx ⊢
    simp only[lA]at hx ⊢
    obtain⟨a1,h1,b1,h2,c1,h3,d1,h4,n,h5,h6⟩:=hx
    exact⟨a1,h1,b1,h2,c1,h3,d1,h4,n,zdj h h5,h6⟩
  | _=>rw[hc]at hx;exact hx
end
end Go.Am.HM
namespace Go.Am
open Go Go.RowKit
theorem zm8{o:Op}(h:zgx o=true)(C:iA)(e:wD)(H H':qA):(iF o).f C e H=(iF o).f C e H':=by
 cases o<;>first | (simp[zgx]at h;done) | rfl | skip
 case makeFunc fn a b=>cases fn<;>rfl
theorem zko{e e':wD}(h:∀x,ev x e=ev x e')(o:Op)(C:iA)(H:qA):(iF o).f C e H=(iF o).f C e' H:=by
 have hs:∀l,evs l e=evs l e':=fun l=>by unfold evs;rw[funext h]
 have hp:∀l,evp l e=evp l e':=fun l=>by unfold evp;simp only[h]
 have ho:∀x,evo x e=evo x e':=fun x=>by cases x<;>simp[evo,h]
 cases o<;>first | rfl | skip
 case move x=>exact h x
 case assign x=>exact h x
 case pick c a b=>simp only[iF,zv5,h]
 case load t a=>simp only[iF,mN,h]
 case nilCheck x=>simp only[iF,z0r,h]
 case binOp op t x y z=>simp only[iF,zL,h]
 case unOp op t x=>simp only[iF,lUn,h]
 case convert s d x=>simp only[iF,oL,h]
 case makeInterface t x=>simp only[iF,iS,h]
 case makeFunc fn a b=>cases fn<;>simp only[iF,gS,zwe,zg5,hs]
 case slice t x lo hi mx=>cases mx<;>simp only[iF,bW,lR,zg5,h,ho]
 case fieldAddr s x f=>simp only[iF,rP,h]
 case field t x f=>simp only[iF,fS,h]
 case indexAddr t x i=>simp only[iF,tP,h]
 case index t x i=>simp only[iF,sP,h]
 case extract t i=>simp only[iF,qP,h]
 case build t ps=>simp only[iF,sQ,hp]
 case typeAssert x a u ok=>simp only[iF,pP,h]
 case lookup t x i ok=>simp only[iF,uP,h]
 case call c=>
  have h2:two c e=two c e':=by unfold two;split<;>simp only[h]
  simp only[iF,lCall]
  cases c.callee with
  | builtin b=>cases b<;>simp only[qO,zg6,zg5,zox,zwa,zv8,h,h2]
  | _=>rfl
theorem zpe{e e':wD}(h:∀t,zyr t e=zyr t e')(x:Operand):ev x e=ev x e':=by
 cases x with
 | tmp t=>exact h t
 | _=>rfl
theorem zc8{tm tm' old:Tm}{olds:List (Nat × List Nat)}{i:Nat}{o:Oper}(h:∀t∈aG o.op,t∉iE i olds->tm'.get t=tm.get t)(C:iA)(H:qA) :
  (iF o.op).f C (nM tm' old olds i o) H=(iF o.op).f C (nM tm old olds i o) H:=by
 refine zko (zpe fun t=>?_) _ _ _
 simp only[nM,zyr]
 cases hn:pH t (aG o.op)with
 | false=>rfl
 | true=>
  cases hm:pH t (iE i olds)with
  | true=>rfl
  | false=>exact h t ((tQ _ _).1 hn) fun k=>by rw[(tQ _ _).2 k]at hm;cases hm
section
variable {P:Program}{C:iA}{μ:Mu}{H H':qA}{all:Array Oper}{olds:List (Nat × List Nat)}{anc:Tr Nat}{n:Nat}{old tm tm':Tm}{D:Nat}{S:Nat->Bool}{order:List Nat}{tmps:Array Value}{ds:List Deferred}
structure iK (C:iA) (H:qA) (all:Array Oper) (olds:List (Nat × List Nat)) (n:Nat) (old tm:Tm) (i:Nat) (o:Oper) (w:Bool) (v:zA):Prop where
 op:all[i]?=some o
 want:kF o.guard all tm=some w
 val:if w=true then(iF o.op).f C (nM tm old olds i o) H=some v else v=rE
 put:∀d,o.dst=some d->d<n->tm.get d=some v
theorem iK.pure{i:Nat}{o:Oper}{w:Bool}{v:zA}(h:iK C H all olds n old tm i o w v)(hp:zgx o.op=true)(H':qA):iK C H' all olds n old tm i o w v:=
 ⟨h.op,h.want,by have:=h.val;cases w with | false=>exact this | true=>rw[if_pos rfl]at this ⊢;rw[<- this];exact zm8 hp _ _ _ _,h.put⟩
theorem lW(R:jP all olds anc)(hD:aQ all (tb D)){i k:Nat}{o u:Oper}(ho:all[i]?=some o)(hi:tb D i=true\/(i=k/\∀j,vL o j->tb D j=true))(hu:all[k]?=some u)(hk:tb D k=false) :
  (∀t∈aG o.op,t∉iE i olds->u.dst≠some t)/\(∀j w,o.guard=some (j,w)->∀g,all[j]?=some g->∀d,g.dst=some d->u.dst≠some d):=by
 have up:∀j,tb (fJ anc i) j=true->tb D j=true:=fun j hj=>R.up hD ho (by
  rcases hi with hi | ⟨_,hi⟩
  ·exact fun j hj=>hD i o ho hi j hj
  ·exact hi) hj
 constructor
 ·intro t ht hto e
  have:=R.name i o k u t ho hu e ht
  rw[if_neg hto]at this;have:=up k this
  rw[hk]at this;cases this
 ·intro j w hg g hgj d hd e
  have h1:=R.guard i o ho
  rw[hg]at h1;have h2:=up j h1
  have:=R.one j k g u d hgj hu hd e
  rw[this,hk]at h2;cases h2
theorem xW{o:Oper}(h:∀j w,o.guard=some (j,w)->∀g,all[j]?=some g->∀d,g.dst=some d->tm'.get d=tm.get d):kF o.guard all tm'=kF o.guard all tm:=by
 unfold kF zsa
 cases hg:o.guard with
 | none=>rfl
 | some jw=>
  obtain⟨j,w⟩:=jw
  simp only[zh3,vE]
  cases hj:all.toList[j]? with
  | none=>rfl
  | some g=>
   simp only[sA]
   cases hd:g.dst with
   | none=>rfl
   | some d=>simp only[sA];rw[h j w hg g (by simpa using hj) d hd]
theorem iK.keep(R:jP all olds anc)(hD:aQ all (tb D)){i k:Nat}{o u:Oper}{w:Bool}{v x:zA}(h:iK C H all olds n old tm i o w v)(hi:tb D i=true)(hu:all[k]?=some u)(hk:tb D k=false) :
  iK C H all olds n old (putA n tm u.dst x) i o w v:=by
 obtain⟨r1,r2⟩:=lW R hD h.op (.inl hi) hu hk
 refine⟨h.op,?_,?_,?_⟩
 ·rw[xW (tm:=tm) fun j w hg g hj d hd=>by rw[vI,if_neg fun e=>r2 j w hg g hj d hd e.1]]
  exact h.want
 ·have:=h.val
  cases w with
  | false=>exact this
  | true=>
   rw[if_pos rfl]at this ⊢
   rw[zc8 (tm:=tm) fun t ht hto=>by rw[vI,if_neg fun e=>r1 t ht hto e.1]]
   exact this
 ·intro d hd hn
  rw[vI,if_neg]
  ·exact h.put d hd hn
  ·rintro⟨e,_⟩
   have:=R.one i k o u d h.op hu hd e
   rw[this,hk]at hi;cases hi
theorem iK.grow{i:Nat}{o:Oper}{w:Bool}{v:zA}(h:iK C H all olds n old tm i o w v)(hle:HM.HLe H H'):iK C H' all olds n old tm i o w v:=
 ⟨h.op,h.want,by have:=h.val;cases w with | false=>exact this | true=>rw[if_pos rfl]at this ⊢;exact HM.alight_mono hle this,h.put⟩
structure iP (C:iA) (μ:Mu) (dp:Nat) (all:Array Oper) (olds:List (Nat × List Nat)) (n:Nat) (old tm:Tm) (i:Nat) (o:Oper) (v:zA):Prop where
 op:all[i]?=some o
 flo:wK o.op=true
 want:kF o.guard all tm=some true
 val:∃H0 l,(bE o.op).f C (nM tm old olds i o) H0=.val v (jF H0 l none)/\μ.pd H0.next=some (.cells (Tr.ofList l) (wB l) none,dp,i)
 put:∀d,o.dst=some d->d<n->tm.get d=some v
structure Mu.ln (dp:Nat) (μ ν:Mu):Prop where
 f:∀a i,μ a=some i->ν a=some i
 pd:∀a x j,μ.pd a=some (x,dp,j)->ν.pd a=some (x,dp,j)
instance {dp:Nat} {μ ν:Mu}:CoeOut (μ.ln dp ν) (μ.lw ν):=⟨Mu.ln.f⟩
theorem Mu.le.ln{μ ν:Mu}(h:μ.le ν)(dp:Nat):μ.ln dp ν:=⟨h.f,fun a x j k=>by rw[h.pd];exact k⟩
instance {dp:Nat} {μ ν:Mu}:Coe (μ.le ν) (μ.ln dp ν):=⟨fun h=>h.ln dp⟩
theorem Mu.ln_refl(μ:Mu)(dp:Nat):μ.ln dp μ:=⟨fun _ _ h=>h,fun _ _ _ h=>h⟩
theorem Mu.ln_trans{dp:Nat}{a b c:Mu}(h:a.ln dp b)(k:b.ln dp c):a.ln dp c:=⟨fun x i hx=>k.f x i (h.f x i hx),fun x y j hx=>k.pd x y j (h.pd x y j hx)⟩
theorem iP.mono{ν:Mu}{dp:Nat}(h:μ.ln dp ν){i:Nat}{o:Oper}{v:zA}(p:iP C μ dp all olds n old tm i o v):iP C ν dp all olds n old tm i o v:=by
 obtain⟨H0,l,h1,h2⟩:=p.val
 exact⟨p.op,p.flo,p.want,⟨H0,l,h1,h.pd _ _ _ h2⟩,p.put⟩
theorem cZ{tm tm' old:Tm}{i:Nat}{o:Oper}(hf:wK o.op=true)(h:∀t∈aG o.op,t∉iE i olds->tm'.get t=tm.get t)(C:iA)(H:qA) :
  (bE o.op).f C (nM tm' old olds i o) H=(bE o.op).f C (nM tm old olds i o) H:=by
 refine zme (zpe fun t=>?_) hf _
 simp only[nM,zyr]
 cases hn:pH t (aG o.op)with
 | false=>rfl
 | true=>
  cases hm:pH t (iE i olds)with
  | true=>rfl
  | false=>exact h t ((tQ _ _).1 hn) fun k=>by rw[(tQ _ _).2 k]at hm;cases hm
theorem iP.keep{dp:Nat}(R:jP all olds anc)(hD:aQ all (tb D)){i k:Nat}{o u:Oper}{v x:zA}(h:iP C μ dp all olds n old tm i o v)(hi:tb D i=true)(hu:all[k]?=some u)(hk:tb D k=false) :
  iP C μ dp all olds n old (putA n tm u.dst x) i o v:=by
 obtain⟨r1,r2⟩:=lW R hD h.op (.inl hi) hu hk
 obtain⟨H0,l,h1,h2⟩:=h.val
 refine⟨h.op,h.flo,?_,⟨H0,l,?_,h2⟩,?_⟩
 ·rw[xW (tm:=tm) fun j w hg g hj d hd=>by rw[vI,if_neg fun e=>r2 j w hg g hj d hd e.1]]
  exact h.want
 ·rw[cZ (tm:=tm) h.flo fun t ht hto=>by rw[vI,if_neg fun e=>r1 t ht hto e.1]]
  exact h1
 ·intro d hd hn
  rw[vI,if_neg]
  ·exact h.put d hd hn
  ·rintro⟨e,_⟩
   have:=R.one i k o u d h.op hu hd e
   rw[this,hk]at hi;cases hi
theorem iP.fresh{dp:Nat}(R:jP all olds anc)(hD:aQ all (tb D)){i:Nat}{o:Oper}{v:zA}(ho:all[i]?=some o)(hp:∀j,vL o j->tb D j=true)(hi:tb D i=false)
  (hf:wK o.op=true) (hw:kF o.guard all tm=some true) (hv:∃H0 l,(bE o.op).f C (nM tm old olds i o) H0=.val v (jF H0 l none)/\μ.pd H0.next=some (.cells (Tr.ofList l) (wB l) none,dp,i)) :
  iP C μ dp all olds n old (putA n tm o.dst v) i o v:=by
 obtain⟨r1,r2⟩:=lW R hD ho (.inr ⟨rfl,hp⟩) ho hi
 obtain⟨H0,l,h1,h2⟩:=hv
 refine⟨ho,hf,?_,⟨H0,l,?_,h2⟩,?_⟩
 ·rw[xW (tm:=tm) fun j w hg g hj d hd=>by rw[vI,if_neg fun e=>r2 j w hg g hj d hd e.1]]
  exact hw
 ·rw[cZ (tm:=tm) hf fun t ht hto=>by rw[vI,if_neg fun e=>r1 t ht hto e.1]]
  exact h1
 ·intro d hd hn
  rw[vI,if_pos ⟨hd,hn⟩]
theorem iK.fresh(R:jP all olds anc)(hD:aQ all (tb D)){i:Nat}{o:Oper}{w:Bool}{v:zA}(ho:all[i]?=some o)(hp:∀j,vL o j->tb D j=true)(hi:tb D i=false)
  (hw:kF o.guard all tm=some w) (hv:if w=true then(iF o.op).f C (nM tm old olds i o) H=some v else v=rE) :
  iK C H all olds n old (putA n tm o.dst v) i o w v:=by
 obtain⟨r1,r2⟩:=lW R hD ho (.inr ⟨rfl,hp⟩) ho hi
 refine⟨ho,?_,?_,?_⟩
 ·rw[xW (tm:=tm) fun j w hg g hj d hd=>by rw[vI,if_neg fun e=>r2 j w hg g hj d hd e.1]]
  exact hw
 ·cases w with
  | false=>exact hv
  | true=>
   rw[if_pos rfl]at hv ⊢
   rw[zc8 (tm:=tm) fun t ht hto=>by rw[vI,if_neg fun e=>r1 t ht hto e.1]]
   exact hv
 ·intro d hd hn
  rw[vI,if_pos ⟨hd,hn⟩]
theorem zH.light{i:Nat}{o:Oper}{v:zA}{D':Nat}(R:zH μ all olds anc n old tm D S order tmps)(ho:all[i]?=some o)(hi:tb D i=false)(hp:∀j,vL o j->tb D j=true)(hD:∀k,tb D' k=(tb D k||k == i)) :
  zH μ all olds anc n old (putA n tm o.dst v) D' S order tmps:=by
 refine⟨R.reg,R.sched,fun k hk=>by rw[hD,R.sub k hk];rfl,R.closed,?_,R.size,?_,R.past,?_,?_⟩
 ·intro k u hu hk j hj
  rw[hD]at hk ⊢
  simp only[ybr,beq_iff_eq]at hk ⊢
  rcases hk with hk | rfl
  ·exact .inl (R.dclosed k u hu hk j hj)
  ·rw[ho]at hu;cases hu
   exact .inl (hp j hj)
 ·intro k u d x hu hud hk hd hx
  rw[vI,if_neg]at hx
  ·exact R.now k u d x hu hud hk hd hx
  ·rintro⟨e,_⟩
   have:=R.reg.one k i u o d hu ho hud e
   have hk':=R.sub k hk
   rw[this,hi]at hk';cases hk'
 ·intro d hd hw
  rw[vI,if_neg]
  ·refine R.keep d hd fun k u hu hud=>?_
   have:=hw k u hu hud
   rw[hD]at this;simp only[Bool.or_eq_false_iff]at this;exact this.1
  ·rintro⟨e,_⟩
   have:=hw i o ho e
   rw[hD]at this;simp at this
 ·intro d x hd hx
  refine R.big d x hd ?_
  rw[vI,if_neg fun e=>absurd e.2 (by omega)]at hx
  exact hx
theorem zH.mono{ν:Mu}(hm:μ.lw ν)(R:zH μ all olds anc n old tm D S order tmps):zH ν all olds anc n old tm D S order tmps:=
 ⟨R.reg,R.sched,R.sub,R.closed,R.dclosed,R.size,fun i o d v a b c e f=>(R.now i o d v a b c e f).mono hm _ _,fun d v a b c=>(R.past d v a b c).mono hm _ _,R.keep,fun d v a b=>(R.big d v a b).mono hm _ _⟩
end
end Go.Am
namespace Go.Am
open Go Go.RowKit
section steps
variable {P:Program}{fr b:Frame}{a:Act}{k:List Item}{cs:List Frame}{w w':World}{s:Sem Next}{ops:Array Oper}
theorem zm3{v:Value}(hr:s.run P w=.ok (.value v) w') :
  (stepG.apply P true fr cs none s w).bare=.go { frame:=fr.finish v,callers:=cs,status:=.running,dying:=none } w':=by
 simp[stepG.apply,Sem.runT_eq,hr]
theorem zrq(hr:s.run P w=.ok .skip w') :
  (stepG.apply P true fr cs none s w).bare=.go { frame:=fr.finish undef,callers:=cs,status:=.running,dying:=none } w':=by
 simp[stepG.apply,Sem.runT_eq,hr]
theorem bY{i:Nat}{rest:List Nat}{o:Oper}{v:Value}(ho:ops[i]?=some o)(hw:Region.wanted o (yielded ops a.tmps)=true)
  (hr:(o.semAt b.roundOf a.eval).run P w=.ok (.value v) w') :
  step P (lone (b.atR a (.inRegion ops (i::rest)::k)) cs w)=.next (lone (b.atR (a.put o.dst v) (.inRegion ops rest::k)) cs w'):=by
 have:=Frame.finish_atR b a ops i rest k v
 rw[ho]at this;simp only[Option.bind_some]at this;rw[<- this];exact step_lone_go (by rw[stepGR_op ho hw];exact zm3 hr)
theorem zgm{i:Nat}{rest:List Nat}{o:Oper}(ho:ops[i]?=some o)(hw:Region.wanted o (yielded ops a.tmps)=true)
  (hr:(o.semAt b.roundOf a.eval).run P w=.ok .skip w') :
  step P (lone (b.atR a (.inRegion ops (i::rest)::k)) cs w)=.next (lone (b.atR (a.put o.dst undef) (.inRegion ops rest::k)) cs w'):=by
 have:=Frame.finish_atR b a ops i rest k undef
 rw[ho]at this;simp only[Option.bind_some]at this;rw[<- this];exact step_lone_go (by rw[stepGR_op ho hw];exact zrq hr)
theorem aY{i:Nat}{rest:List Nat}{o:Oper}(ho:ops[i]?=some o)(hw:Region.wanted o (yielded ops a.tmps)=false) :
  step P (lone (b.atR a (.inRegion ops (i::rest)::k)) cs w)=.next (lone (b.atR (a.put o.dst undef) (.inRegion ops rest::k)) cs w):=by
 have:=stepR_op_skip (P:=P) (b:=b) (a:=a) (k:=k) (cs:=cs) (w:=w) (ops:=ops) (i:=i) (rest:=rest) (by rw[ho];simpa using hw)
 rw[this,ho];rfl
end steps
mutual
theorem zlm:∀(d:Nat) (a b:zA),same d a b=true->a=b
 | d,a,b,h=>by
  cases a<;>cases b<;>cases d<;>simp[same,eQ,iJ,zdq,lO,Nat.beq_eq]at h ⊢
  all_goals first
   | exact h
   | (obtain⟨h1,h2⟩:=h;exact⟨h1,h2⟩)
   | exact zgt _ _ _ h
   | (obtain⟨⟨⟨h1,h2⟩,h3⟩,h4⟩:=h;exact⟨h1,h2,h3,h4⟩)
theorem zgt:∀(d:Nat) (a b:List zA),same.sames d a b=true->a=b
 | d,[],[],_=>rfl
 | d,a::x,b::y,h=>by
  simp only[same.sames,yac]at h;rw[zlm d a b h.1,zgt d x y h.2]
 | d,[],b::y,h=>by simp[same.sames]at h
 | d,a::x,[],h=>by simp[same.sames]at h
end
section
variable {P:Program}{C:iA}{B N:Nat}{μ:Mu}{H H':qA}{w:World}{all:Array Oper}{olds:List (Nat × List Nat)}{anc:Tr Nat}{n:Nat}{old tm tm':Tm}{D D':Nat}{S:Nat->Bool}{order:List Nat}{tmps:Array Value}{ds:List Deferred}{dp:Nat}
def uK(C:iA)(μ:Mu)(dp:Nat)(H:qA)(all:Array Oper)(olds:List (Nat × List Nat))(n:Nat)(old tm:Tm)(D:Nat)(S:Nat->Bool):Prop:=
 ∀i,tb D i=true->S i=false->(∃o w v,iK C H all olds n old tm i o w v)\/∃o v,iP C μ dp all olds n old tm i o v
theorem zaw:∀(l:List Nat) (tm:Tm) (D:Nat),sO C H all n old olds l tm=some tm'->mM all.toList l D=some D'->zH μ all olds anc n old tm D S order tmps->uK C μ dp H all olds n old tm D S →
  zH μ all olds anc n old tm' D' S order tmps/\uK C μ dp H all olds n old tm' D' S:=by
 intro l;induction l with
 | nil=>intro tm D h hD R hp;cases h;cases hD;exact⟨R,hp⟩
 | cons i l ih=>
  intro tm D h hD R hp;unfold sO at h;unfold mM at hD;rw[lA]at hD;obtain⟨D1,h1,hD⟩:=hD
  simp only[lA,vE]at h;obtain⟨o,ho,wn,hw,v,hv,h⟩:=h
  obtain⟨o',ho',hi,hb,hD1⟩:=iW h1
  have ho2:all[i]?=some o:=by simpa using ho
  rw[ho2]at ho';cases ho'
  have hval:if wn=true then(iF o.op).f C (nM tm old olds i o) H=some v else v=rE:=by
   cases wn with
   | true=>rw[if_pos rfl];exact hv
   | false=>rw[if_neg (by simp)];exact(ybj hv).symm
  refine ih _ _ h hD (R.light ho2 hi hb hD1) fun j hj hSj=>?_
  rw[hD1]at hj;simp only[ybr,beq_iff_eq]at hj;rcases hj with hj | rfl
  ·rcases hp j hj hSj with⟨u,wu,vu,pu⟩ | ⟨u,vu,pu⟩
   ·exact .inl ⟨u,wu,vu,pu.keep R.reg R.dclosed hj ho2 hi⟩
   ·exact .inr ⟨u,vu,pu.keep R.reg R.dclosed hj ho2 hi⟩
  ·exact .inl ⟨o,wn,v,iK.fresh R.reg R.dclosed ho2 hb hi hw hval⟩
structure Weak (all:Array Oper) (n:Nat) (tm:Tm) (i:Nat) (o:Oper) (w:Bool) (v:zA):Prop where
 op:all[i]?=some o
 want:kF o.guard all tm=some w
 val:w=false->v=rE
 put:∀d,o.dst=some d->d<n->tm.get d=some v
theorem zyh:∀(l:List Nat),rT C H all old olds tm l=true->∀i∈l,∀o w v,Weak all n tm i o w v->∃v,iK C H all olds n old tm i o w v:=by
 intro l;induction l with
 | nil=>intro _ i hi;cases hi
 | cons j l ih=>
  intro h i hi o w v W;unfold rT at h;split at h
  case h_2=>cases h
  rename_i hx;rcases yat.1 hi with rfl | hi
  ·simp only[lA,vE]at hx
   obtain⟨o',ho',d,hd,wn,hw,hx⟩:=hx
   have ho2:all[i]?=some o':=by simpa using ho'
   rw[W.op]at ho2;cases ho2;rw[W.want]at hw;cases hw
   cases w with
   | false=>exact⟨v,W.op,W.want,by rw[if_neg (by simp)];exact W.val rfl,W.put⟩
   | true=>
    simp only[cond_true,lA]at hx;obtain⟨v1,hv1,u,hu,hs⟩:=hx
    have e:=zlm _ _ _ (ybj hs)
    refine⟨v1,W.op,W.want,by rw[if_pos rfl];exact hv1,fun d' hd' hn=>?_⟩
    rw[hd]at hd';cases hd'
    rw[hu,e]
  ·exact ih h i hi o w v W
end
end Go.Am
namespace Go.Am
open Go Go.RowKit
section
variable {P:Program}{C:iA}{B N:Nat}{μ:Mu}{H H':qA}{w:World}{all:Array Oper}{olds:List (Nat × List Nat)}{anc:Tr Nat}{n:Nat}{old tm tm':Tm}{D D':Nat}{S:Nat->Bool}{order:List Nat}{tmps:Array Value}{ds:List Deferred}{dp:Nat}
variable {b:Frame}{k:List Item}{cs:List Frame}
structure zh0 (B N dp:Nat) (μ:Mu) (H:qA) (w:World) (μ':Mu) (w':World):Prop where
 heap:oB B N μ' H w'
 le:μ.lw μ'
 pd:∀d,d≠dp->μ.ln d μ'
 below:Below N w w'
theorem zh0.refl(hH:oB B N μ H w):zh0 B N dp μ H w μ w:=⟨hH,fun _ _ h=>h,fun d _=>μ.ln_refl d,Below.refl _ _⟩
theorem zh0.trans{μ1 μ2:Mu}{w1 w2:World}(h:zh0 B N dp μ H w μ1 w1)(k:zh0 B N dp μ1 H w1 μ2 w2):zh0 B N dp μ H w μ2 w2:=
 ⟨k.heap,fun a i e=>k.le a i (h.le a i e),fun d hd=>Mu.ln_trans (h.pd d hd) (k.pd d hd),h.below.trans k.below⟩
theorem zoj(hT:vG P C)(hH:oB B N μ H w){i:Nat}(R:zH μ all olds anc n old tm D S (i::order) tmps)(hp:uK C μ dp H all olds n old tm D S)(hi:tb D i=true) :
  ∃S' tmps' μ' w',step P (lone (b.atR ⟨tmps,ds⟩ (.inRegion all (i::order)::k)) cs w)=.next (lone (b.atR ⟨tmps',ds⟩ (.inRegion all order::k)) cs w')/\zh0 B N dp μ H w μ' w' ∧
   zH μ' all olds anc n old tm D S' order tmps'/\uK C μ' dp H all olds n old tm D S':=by
 obtain⟨o,ho,hS,hb,_⟩:=R.sched
 have hDD:∀k,tb D k=(tb D k||k == i):=by
  intro k;by_cases e:k=i
  ·subst e;rw[hi];rfl
  ·have:(k == i)=false:=by simpa using e
   rw[this,Bool.or_false]
 have ds':∀v',Act.put ⟨tmps,ds⟩ o.dst v'=⟨(Act.put ⟨tmps,ds⟩ o.dst v').tmps,ds⟩:=by intro v';unfold Act.put;cases o.dst<;>rfl
 rcases hp i hi hS with⟨o',wn,v,pd⟩ | ⟨o',v,pd⟩
 ·have:=pd.op
  rw[ho]at this;cases this
  have hw:=R.wanted ho hb pd.want
  have rest:∀v',rA μ v v'->zH μ all olds anc n old tm D (fun k=>S k||k == i) order (Act.put ⟨tmps,ds⟩ o.dst v').tmps/\uK C μ dp H all olds n old tm D (fun k=>S k||k == i):=by
   intro v' hv;refine⟨R.did ho hDD pd.put (fun _ _=>rfl) hv,fun j hj hSj=>hp j hj ?_⟩
   simp only[Bool.or_eq_false_iff]at hSj;exact hSj.1
  cases wn with
  | false=>
   have hv:=pd.val
   rw[if_neg (by simp)]at hv
   subst hv;obtain⟨r1,r2⟩:=rest undef jX
   refine⟨_,_,μ,w,?_,.refl hH,r1,r2⟩
   rw[<- ds'];exact aY (a:=⟨tmps,ds⟩) ho hw
  | true=>
   have hv:=pd.val
   rw[if_pos rfl]at hv;obtain⟨v',h1,h2⟩:=zyg hT hH (R.erel (ds:=ds) hH.glob ho hS hb) hv
   obtain⟨r1,r2⟩:=rest v' h2
   refine⟨_,_,μ,w,?_,.refl hH,r1,r2⟩
   rw[<- ds'];refine bY (a:=⟨tmps,ds⟩) ho hw ?_
   rw[Oper.semAt_eq]
   ·exact h1
   ·intro c e
    rw[e]at hv
    cases hv
 ·have:=pd.op
  rw[ho]at this;cases this
  have hw:=R.wanted ho hb pd.want
  obtain⟨H0,l,h1,h2⟩:=pd.val
  obtain⟨l',vs,v',elem,e1,run,hl,hv⟩:=z08 (P:=P) (w:=w) hT (R.erel (ds:=ds) hH.glob ho hS hb) o pd.flo h1
  have e2:jF H0 l none=jF H0 l' none:=e1
  have p1:=(hH.pnd _ _ _ h2).1
  have lg:∀c,(μ.land H0.next ⟨w.heap.size,true,0,0,false⟩) c=if c=H0.next then some ⟨w.heap.size,true,0,0,false⟩else μ c:=fun _=>rfl
  have hle:μ.lw (μ.land H0.next ⟨w.heap.size,true,0,0,false⟩):=fun c j hj=>by
   rw[lg,if_neg fun e=>by rw[e,p1]at hj;cases hj];exact hj
  have hlp:∀c x d j,(d≠dp\/j≠i)->μ.pd c=some (x,d,j)->(μ.land H0.next ⟨w.heap.size,true,0,0,false⟩).pd c=some (x,d,j):=by
   intro c x d j hne hc;show(if c=H0.next then none else μ.pd c)=_
   rw[if_neg]
   ·exact hc
   ·intro e
    rw[e,h2]at hc
    cases hc;rcases hne with h | h<;>exact h rfl
  have hblk:(jA.cells (Tr.ofList l) (wB l) none)=.cells (Tr.ofList l') (wB l') none:=by
   have h3:(jF H0 l none).t.get H0.next=(jF H0 l' none).t.get H0.next:=by rw[e2]
   have hg:∀m,(jF H0 m none).t.get H0.next=some (.cells (Tr.ofList m) (wB m) none):=fun m=>by
    show(H0.t.set H0.next _).get H0.next=_
    rw[Tr.get_set,if_pos rfl]
   rw[hg,hg]at h3;exact ybj h3
  have hH':oB B N (μ.land H0.next ⟨w.heap.size,true,0,0,false⟩) H (w.alloc (.cells vs elem)):=by
   refine hH.late h2 rfl rfl ?_
   rw[hblk];have:=(qB.mono hle _ _ hl).rel_one (i:=⟨w.heap.size,true,0,0,false⟩) rfl (elem:=elem)
   rwa [Array.toArray_toList]at this
  have hvr:=hv (μ.land H0.next ⟨w.heap.size,true,0,0,false⟩) ⟨w.heap.size,true,0,0,false⟩ (by rw[lg,if_pos rfl]) rfl rfl
  refine⟨fun k=>S k||k == i,(Act.put ⟨tmps,ds⟩ o.dst v').tmps,μ.land H0.next ⟨w.heap.size,true,0,0,false⟩,w.alloc (.cells vs elem),?_,⟨hH',hle,fun d hd=>⟨hle,fun c x j hc=>hlp c x d j (.inl hd) hc⟩,dM hH.size _⟩,
   (R.mono hle).did ho hDD pd.put (fun _ _=>rfl) hvr,fun j hj hSj=>?_⟩
  ·rw[<- ds']
   refine bY (a:=⟨tmps,ds⟩) ho hw ?_
   rw[Oper.semAt_eq]
   ·exact run
   ·intro c e
    have:=pd.flo
    rw[e]at this
    cases this
  ·simp only[Bool.or_eq_false_iff,beq_eq_false_iff_ne]at hSj
   rcases hp j hj hSj.1 with h | ⟨u,vu,pu⟩
   ·exact .inl h
   ·refine .inr ⟨u,vu,pu.op,pu.flo,pu.want,?_,pu.put⟩
    obtain⟨H1,m,g1,g2⟩:=pu.val
    exact⟨H1,m,g1,hlp _ _ _ _ (.inr hSj.2) g2⟩
theorem reach(hT:vG P C){st:lG}{r:List lG}(hst:qJ all.toList anc (st::r) D=true)(hlt:st.heavy<=all.size):∀(order:List Nat) (S:Nat->Bool) (tmps:Array Value) (μ:Mu) (w:World),oB B N μ H w →
  zH μ all olds anc n old tm D S order tmps->uK C μ dp H all olds n old tm D S →
  ∃S' order' tmps' μ' w',Steps P (lone (b.atR ⟨tmps,ds⟩ (.inRegion all order::k)) cs w) (lone (b.atR ⟨tmps',ds⟩ (.inRegion all (st.heavy::order')::k)) cs w')/\zh0 B N dp μ H w μ' w' ∧
   zH μ' all olds anc n old tm D S' (st.heavy::order') tmps'/\uK C μ' dp H all olds n old tm D S':=by
 obtain⟨only,_,D1,D2,h1,_⟩:=oY hst hlt
 obtain⟨oh,hoh,hh,hbh,_⟩:=iW h1
 intro order;induction order with
 | nil=>
  intro S tmps μ w _ R hp;have:=R.sub _ (R.sched st.heavy (yaf.1 hoh).1)
  rw[hh]at this;cases this
 | cons i order ih=>
  intro S tmps μ w hH R hp
  cases hi:tb D i with
  | true=>
   obtain⟨S',tmps',μ1,w1,s1,g1,r1,p1⟩:=zoj (b:=b) (k:=k) (cs:=cs) (ds:=ds) hT hH R hp hi
   obtain⟨S2,order',tmps2,μ2,w2,s2,g2,r2⟩:=ih S' tmps' μ1 w1 g1.heap r1 p1
   exact⟨S2,order',tmps2,μ2,w2,.head s1 s2,g1.trans g2,r2⟩
  | false=>
   obtain⟨o,ho,hS,hb,_⟩:=R.sched
   have:=only i o ho hi fun j hj=>R.sub j (hb j hj)
   subst this;exact⟨S,order,tmps,μ,w,.refl _ _,.refl hH,R,hp⟩
theorem regEnd(hT:vG P C)(hst:qJ all.toList anc [] D=true):∀(order:List Nat) (S:Nat->Bool) (tmps:Array Value) (μ:Mu) (w:World),oB B N μ H w →
  zH μ all olds anc n old tm D S order tmps->uK C μ dp H all olds n old tm D S →
  ∃tmps' μ' w',Steps P (lone (b.atR ⟨tmps,ds⟩ (.inRegion all order::k)) cs w) (lone (b.atR ⟨tmps',ds⟩ k) cs w')/\zh0 B N dp μ H w μ' w'/\sE μ' n tm tmps':=by
 have full:=zja hst
 intro order;induction order with
 | nil=>
  intro S tmps μ w hH R hp;refine⟨tmps,μ,w,.one stepR_region_end,.refl hH,R.size,fun t v hv=>?_⟩
  by_cases hn:t<n
  ·by_cases hw:∃(j:Nat) (u:Oper),all[j]?=some u/\u.dst=some t
   ·obtain⟨j,u,hu,hud⟩:=hw
    exact R.now j u t v hu hud (R.sched j (yaf.1 hu).1) hn hv
   ·have k:=R.keep t hn fun i o h1 h2=>absurd ⟨i,o,h1,h2⟩ hw
    exact R.past t v hn (fun i o h1 h2=>absurd ⟨i,o,h1,h2⟩ hw) (by rw[<- k];exact hv)
  ·rw[gV (by rw[R.size];omega)]
   exact R.big t v (by omega) (.inl hv)
 | cons i order ih=>
  intro S tmps μ w hH R hp;obtain⟨o,ho,_⟩:=R.sched
  obtain⟨S',tmps',μ1,w1,s1,g1,r1,p1⟩:=zoj (b:=b) (k:=k) (cs:=cs) (ds:=ds) hT hH R hp (full i (yaf.1 ho).1)
  obtain⟨tmps2,μ2,w2,s2,g2,r2⟩:=ih S' tmps' μ1 w1 g1.heap r1 p1
  exact⟨tmps2,μ2,w2,.head s1 s2,g1.trans g2,r2⟩
theorem zzz(hM:P.follows .mixedOrders=true){anc:Tr Nat}(hR:jP all olds anc)(ht:sE μ n old tmps)(t:Nat) :
  zH μ all olds anc n old old 0 (fun _=>false) (Region.schedule (P.follows .mixedOrders) all t) tmps/\uK C μ dp H all olds n old old 0 (fun _=>false):=by
 refine⟨⟨hR,?_,fun i h=>(by cases h),fun i o _ h=>(by cases h),fun i o _ h=>(by rw[zgl]at h;cases h),ht.1,fun i o d v _ _ h=>(by cases h),fun d v _ _ h=>ht.2 d v h,fun _ _ _=>rfl,fun d v hd h=>?_⟩,fun i h=>(by rw[zgl]at h;cases h)⟩
 ·rw[hM]
  unfold Region.schedule;simp only[Bool.true_or,if_true];have:=zzu hR.back all.size t (Array.replicate all.size false) (by simp) (by
   refine Nat.le_trans (List.countP_le_length) ?_
   simp)
  have e:(fun i=>(Array.replicate all.size false).getD i false)=fun _=>false:=by
   funext i
   simp only[yby,Array.getElem?_replicate];split<;>rfl
  rw[e]at this;exact this
 ·have h':old.get d=some v:=h.elim id id
  have:=ht.2 d v h'
  rw[gV (by rw[ht.1];exact hd)]at this
  exact this
def dQ(C:iA)(μ:Mu)(dp:Nat)(all:Array Oper)(olds:List (Nat × List Nat))(n:Nat)(old tm:Tm)(D:Nat)(S:Nat->Bool)(again:List Nat):Prop:=
 ∀i,tb D i=true->S i=false->(∃o w v,(∀H,iK C H all olds n old tm i o w v)\/(i∈again/\Weak all n tm i o w v))\/∃o v,iP C μ dp all olds n old tm i o v
theorem iK.float{i:Nat}{o:Oper}{w:Bool}{v:zA}(h:iK C H all olds n old tm i o w v)(hf:wK o.op=true)(H':qA):iK C H' all olds n old tm i o w v:=by
 refine⟨h.op,h.want,?_,h.put⟩
 have:=h.val
 cases w with
 | false=>exact this
 | true=>
  rw[if_pos rfl]at this;exfalso
  obtain⟨dst,op,type,pos,after,guard⟩:=o
  cases op<;>first | (simp[wK]at hf;done) | cases this
theorem zr9{again:List Nat}(hw:dQ C μ dp all olds n old tm D S again)(ha:rT C H all old olds tm again=true):uK C μ dp H all olds n old tm D S:=by
 intro i hi hS;rcases hw i hi hS with⟨o,w,v,h | ⟨h1,h2⟩⟩ | h
 ·exact .inl ⟨o,w,v,h H⟩
 ·obtain⟨v,h⟩:=zyh (C:=C) (H:=H) (olds:=olds) (old:=old) again ha i h1 o w v h2
  exact .inl ⟨o,w,v,h⟩
 ·exact .inr h
end
end Go.Am
namespace Go.Am
open Go Go.RowKit
section
variable {P:Program}{C:iA}{B N:Nat}{μ:Mu}{H H':qA}{w:World}{all:Array Oper}{olds:List (Nat × List Nat)}{anc:Tr Nat}{n:Nat}{old tm tm':Tm}{D D':Nat}{S:Nat->Bool}{order:List Nat}{tmps:Array Value}{ds:List Deferred}{dp:Nat}
theorem Weak.keep(R:jP all olds anc)(hD:aQ all (tb D)){i k:Nat}{o u:Oper}{w:Bool}{v x:zA}(h:Weak all n tm i o w v)(hi:tb D i=true)(hu:all[k]?=some u)(hk:tb D k=false) :
  Weak all n (putA n tm u.dst x) i o w v:=by
 obtain⟨_,r2⟩:=lW R hD h.op (.inl hi) hu hk
 refine⟨h.op,?_,h.val,?_⟩
 ·rw[xW (tm:=tm) fun j w hg g hj d hd=>by rw[vI,if_neg fun e=>r2 j w hg g hj d hd e.1]]
  exact h.want
 ·intro d hd hn
  rw[vI,if_neg]
  ·exact h.put d hd hn
  ·rintro⟨e,_⟩
   have:=R.one i k o u d h.op hu hd e
   rw[this,hk]at hi;cases hi
theorem toWeak{st:lG}{r:List lG}(hst:qJ all.toList anc (st::r) D=true)(hlt:st.heavy<=all.size)(R:zH μ all olds anc n old tm D S (st.heavy::order) tmps)(hp:uK C μ dp H all olds n old tm D S) :
  dQ C μ dp all olds n old tm D S st.again:=by
 obtain⟨_,ag,_⟩:=oY hst hlt
 intro i hDi hSi;rcases hp i hDi hSi with⟨u,wu,vu,pu⟩ | h
 rotate_left
 ·exact .inr h
 refine .inl ⟨u,wu,vu,?_⟩
 rcases ag i u pu.op hDi with h | h | h | h
 ·obtain⟨o,ho,_,hb,_⟩:=R.sched
  have:=R.reg.up R.closed ho hb h
  rw[hSi]at this;cases this
 ·exact .inl fun H=>pu.pure h H
 ·exact .inl fun H=>pu.float h H
 ·exact .inr ⟨h,pu.op,pu.want,fun e=>by have:=pu.val;rw[e]at this;simpa using this,pu.put⟩
theorem zy1{h:Nat}{again:List Nat}{D1:Nat}{o:Oper}{v:zA}{v':Value}(h1:uQ all.toList h D=some D1)(ho:all[h]?=some o)
  (R:zH μ all olds anc n old tm D S (h::order) tmps) (hp:dQ C μ dp all olds n old tm D S again) (hv:rA μ v v') :
  zH μ all olds anc n old (putA n tm o.dst v) D1 (fun k=>S k||k == h) order (Act.put ⟨tmps,ds⟩ o.dst v').tmps/\dQ C μ dp all olds n old (putA n tm o.dst v) D1 (fun k=>S k||k == h) again:=by
 obtain⟨o',ho',hi,hb,hD1⟩:=iW h1
 rw[ho]at ho';cases ho'
 refine⟨R.did ho hD1 (fun d hd hn=>by rw[vI,if_pos ⟨hd,hn⟩]) (fun d hd=>by rw[vI,if_neg fun e=>absurd (hd e.1) (by omega)]) hv,fun i hDi hSi=>?_⟩
 simp only[Bool.or_eq_false_iff,beq_eq_false_iff_ne]at hSi;rw[hD1]at hDi;simp only[ybr,beq_iff_eq]at hDi;have hDi:=hDi.resolve_right hSi.2
 rcases hp i hDi hSi.1 with⟨u,wu,vu,pu⟩ | ⟨u,vu,pu⟩
 ·exact .inl ⟨u,wu,vu,pu.imp (fun pu H=>(pu H).keep R.reg R.dclosed hDi ho hi) (fun pu=>⟨pu.1,pu.2.keep R.reg R.dclosed hDi ho hi⟩)⟩
 ·exact .inr ⟨u,vu,pu.keep R.reg R.dclosed hDi ho hi⟩
inductive rK (C:iA) (μ:Mu) (dp:Nat) (n:Nat):Option qA->List fD->Tm->List Item->Array Value->Prop
 | plain {cur:Option qA} {todo:List fD} {tm:Tm} {btodo:List Item} {tmps:Array Value}:zD (pG μ) todo btodo->sE μ n tm tmps->rK C μ dp n cur todo tm btodo tmps
 | reg {H:qA} {all:Array Oper} {old tm:Tm} {olds:List (Nat × List Nat)} {stages:List lG} {k:List fD} {order:List Nat} {k':List Item} {tmps:Array Value} {anc:Tr Nat} {D:Nat} {S:Nat->Bool} :
   zH μ all olds anc n old tm D S order tmps->qJ all.toList anc stages D=true->uK C μ dp H all olds n old tm D S->zD (pG μ) k k' →
   rK C μ dp n (some H) (.reg all old olds stages::k) tm (.inRegion all order::k') tmps
 | mid {cur:Option qA} {all:Array Oper} {old tm:Tm} {olds:List (Nat × List Nat)} {lights again:List Nat} {stages:List lG} {k:List fD} {order:List Nat} {k':List Item} {tmps:Array Value} {anc:Tr Nat} {D D2:Nat} {S:Nat->Bool} :
   zH μ all olds anc n old tm D S order tmps->mM all.toList lights D=some D2->qJ all.toList anc stages D2=true->dQ C μ dp all olds n old tm D S again->zD (pG μ) k k' →
   rK C μ dp n cur (.reg all old olds (⟨all.size,lights,again⟩::stages)::k) tm (.inRegion all order::k') tmps
 | wait {all:Array Oper} {old tm:Tm} {olds:List (Nat × List Nat)} {st:lG} {stages:List lG} {k:List fD} {order:List Nat} {k':List Item} {tmps:Array Value} {anc:Tr Nat} {D:Nat} {S:Nat->Bool} :
   zH μ all olds anc n old tm D S (st.heavy::order) tmps->qJ all.toList anc (st::stages) D=true->st.heavy<=all.size->dQ C μ dp all olds n old tm D S st.again->zD (pG μ) k k' →
   rK C μ dp n none (.reg all old olds (st::stages)::k) tm (.inRegion all (st.heavy::order)::k') tmps
theorem uK.mono{ν:Mu}(h:μ.ln dp ν)(p:uK C μ dp H all olds n old tm D S):uK C ν dp H all olds n old tm D S:=
 fun i h1 h2=>(p i h1 h2).imp id fun⟨o,v,q⟩=>⟨o,v,q.mono h⟩
theorem dQ.mono{ν:Mu}{again:List Nat}(h:μ.ln dp ν)(p:dQ C μ dp all olds n old tm D S again):dQ C ν dp all olds n old tm D S again:=
 fun i h1 h2=>(p i h1 h2).imp id fun⟨o,v,q⟩=>⟨o,v,q.mono h⟩
theorem rK.mono{ν:Mu}(h:μ.ln dp ν){cur:Option qA}{todo:List fD}{btodo:List Item}(R:rK C μ dp n cur todo tm btodo tmps):rK C ν dp n cur todo tm btodo tmps:=by
 have mk:∀ {k:List fD} {k':List Item},zD (pG μ) k k'->zD (pG ν) k k':=fun k=>zD.mono (fun _ _ r=>pG.mono h r) k
 cases R with
 | plain a b=>exact .plain (mk a) (b.mono h)
 | reg a b c d=>exact .reg (a.mono h) b (c.mono h) (mk d)
 | mid a b c d e=>exact .mid (a.mono h) b c (d.mono h) (mk e)
 | wait a b b' c d=>exact .wait (a.mono h) b b' (c.mono h) (mk d)
end
end Go.Am
namespace Go.Am
open Go Go.RowKit
section
variable {P:Program}{C:iA}{B N:Nat}{μ ν:Mu}{H H':qA}{w:World}{n:Nat}{tm:Tm}{tmps:Array Value}{ds:List Deferred}{dp:Nat}
theorem sE.put{v:zA}{v':Value}{dst:Option Nat}(h:sE μ n tm tmps)(hv:rA μ v v'):sE μ n (putA n tm dst v) (Act.put ⟨tmps,ds⟩ dst v').tmps:=by
 cases dst with
 | none=>exact h
 | some d=>
  refine⟨by simp[Act.put,h.1],fun t x hx=>?_⟩
  rw[vI]at hx;simp only[Act.put,yby,ybt];by_cases e:d=t
  ·subst e
   by_cases hn:d<n
   ·rw[if_pos ⟨rfl,hn⟩]at hx
    cases hx;simp[h.1,hn,hv]
   ·rw[if_neg fun k=>hn k.2]at hx
    have:=h.2 d x hx
    rw[gV (by rw[h.1];omega)]at this
    simp[h.1,hn,this]
  ·rw[if_neg fun k=>e (ybj k.1)]at hx
   have:=h.2 t x hx
   rw[yby]at this;simpa[e]using this
structure qI (C:iA) (μ:Mu) (dp:Nat) (cur:Option qA) (fr:xC) (b:Frame):Prop where
 rest:bG μ fr.R b
 body:if fr.R.mode.running=true then rK C μ dp fr.R.n cur fr.todo fr.tm b.todo b.tmps else sE μ fr.R.n fr.tm b.tmps
theorem qI.mono(h:μ.ln dp ν){cur:Option qA}{fr:xC}{b:Frame}(r:qI C μ dp cur fr b):qI C ν dp cur fr b:=by
 refine⟨r.rest.mono h,?_⟩
 have:=r.body
 split at this
 ·rename_i e;rw[if_pos e];exact this.mono h
 ·rename_i e;rw[if_neg e];exact this.mono h
inductive tG (C:iA) (μ:Mu):List xC->List Frame->Prop
 | nil:tG C μ [] []
 | cons {a:xC} {b:Frame} {l:List xC} {m:List Frame}:qI C μ l.length none a b->tG C μ l m->tG C μ (a::l) (b::m)
theorem tG.monoD{l:List xC}{m:List Frame}(r:tG C μ l m)(h:∀d,d<l.length->μ.ln d ν):tG C ν l m:=by
 induction r with
 | nil=>exact .nil
 | @cons a b l m h1 h2 ih=>exact .cons (h1.mono (h _ (by simp))) (ih fun d hd=>h d (by simp;omega))
theorem tG.mono{l:List xC}{m:List Frame}(r:tG C μ l m)(h:μ.le ν):tG C ν l m:=r.monoD fun d _=>h.ln d
theorem pU{fr fr':xC}{b:Frame}{v:zA}{v':Value}{cur:Option qA}(r:qI C μ dp none fr b)(h:nI fr v=some fr')(hv:rA μ v v'):qI C μ dp cur fr' (b.finish v'):=by
 obtain⟨todo,tm,R⟩:=fr
 unfold nI at h
 cases todo with
 | nil=>cases h
 | cons x k=>
  simp only[iC]at h;split at h
  case isFalse=>cases h
  rename_i hm;have body:=r.body
  rw[if_pos hm]at body;have rest:=r.rest
  obtain⟨fn,btmps,btodo,bdefers,bmode,bkind,bround⟩:=b
  simp only at body rest
  cases body with
  | plain a t=>
   cases a with
   | cons i l=>
    cases i with
    | ops all i hi=>
     simp only[zhl]at h;unfold z3z at h;split at h
     case h_2=>cases h
     rename_i o rest' ho
     cases h;obtain⟨h1,h2⟩:=jR ho.symm
     have hlt:i<all.size:=by have:=(yad.1 h1).1;simpa using this
     have hr:(List.range all.size).drop i=i::(List.range all.size).drop (i+1):=by
      rw[yam (by simpa using hlt)];simp
     have ho2:all[i]?=some o:=by simpa using h1
     have e:∀k',Frame.finish ⟨fn,btmps,.inRegion all ((List.range all.size).drop i)::k',bdefers,bmode,bkind,bround⟩ v'=⟨fn,(Act.put ⟨btmps,bdefers⟩ o.dst v').tmps,.inRegion all ((List.range all.size).drop (i+1))::k',bdefers,bmode,bkind,bround⟩:=by
      intro k';simp only[Frame.finish,hr,ho2,Option.bind_some];unfold Act.put
      cases o.dst<;>rfl
     rw[e];refine⟨⟨rest.fn,?_,rest.defers,rest.mode,rest.kind,rest.round⟩,?_⟩
     ·exact(t.put (ds:=bdefers) (dst:=o.dst) hv).1
     ·rw[if_pos hm]
      rw[h2];exact .plain (.cons (.ops all (i+1) hlt) l) (t.put hv)
    | inRange l' i hl=>
     cases h;refine⟨⟨rest.fn,rest.size,rest.defers,rest.mode,rest.kind,rest.round⟩,?_⟩
     simp only[Frame.finish];rw[if_pos hm];exact .plain (.cons (.endRange l' i hl) l) t
    | beginRound=>
     cases h;refine⟨⟨rest.fn,rest.size,rest.defers,rest.mode,rest.kind,rest.round⟩,?_⟩
     simp only[Frame.finish];rw[if_pos hm];exact .plain l t
    | _=>cases h
  | mid a b c d e=>
   exfalso
   simp only[zhl]at h;unfold zxa at h;simp only[lA,vE]at h;obtain⟨o,ho,_⟩:=h
   have:=(yad.1 ho).1
   simp at this
  | @wait all old _ olds st stages _ order _ _ anc D S a b b2 c d=>
   simp only[zhl]at h;unfold zxa at h;simp only[lA,vE]at h;obtain⟨o,ho,h⟩:=h
   cases h;have ho2:all[st.heavy]?=some o:=by simpa using ho
   obtain⟨_,_,D1,D2,h1,h2,h3⟩:=oY b b2
   obtain⟨r1,r2⟩:=zy1 (ds:=bdefers) h1 ho2 a c hv
   have e:∀k',Frame.finish ⟨fn,btmps,.inRegion all (st.heavy::order)::k',bdefers,bmode,bkind,bround⟩ v'=⟨fn,(Act.put ⟨btmps,bdefers⟩ o.dst v').tmps,.inRegion all order::k',bdefers,bmode,bkind,bround⟩:=by
    intro k';simp only[Frame.finish,ho2,Option.bind_some];unfold Act.put
    cases o.dst<;>rfl
   rw[e];refine⟨⟨rest.fn,r1.size,rest.defers,rest.mode,rest.kind,rest.round⟩,?_⟩
   rw[if_pos hm];exact .mid r1 h2 h3 r2 d
def qD(P:Program)(C:iA)(B N:Nat)(μ:Mu)(base:List Frame)(m:Machine)(w:World):fC->Prop
 | .next s=>∃ μ' b cs w',Steps P m (lone b (cs++base) w')/\μ.lw μ'/\Below N w w'/\oB B N μ' s.H w'/\qI C μ' s.cs.length (some s.H) s.fr b/\tG C μ' s.cs cs
 | .done v H=>∃ μ' b w' v',Steps P m (lone b base w')/\μ.lw μ'/\Below N w w'/\oB B N μ' H w'/\rA μ' v v'/\b.fn=C.root/\b.leaving P w' (.returned v')
 | .fail _=>True
theorem qD.of_steps{base:List Frame}{m m1:Machine}{o:fC}{w w1:World}(hs:Steps P m m1)(hm:μ.lw ν)(hb:Below N w w1)(h:qD P C B N ν base m1 w1 o):qD P C B N μ base m w o:=by
 cases o with
 | fail=>exact trivial
 | next s=>
  obtain⟨μ',b,cs,w',h1,h2,h3,h4⟩:=h
  exact⟨μ',b,cs,w',hs.trans h1,fun a i k=>h2 a i (hm a i k),hb.trans h3,h4⟩
 | done v H=>
  obtain⟨μ',b,w',v',h1,h2,h3,h4⟩:=h
  exact⟨μ',b,w',v',hs.trans h1,fun a i k=>h2 a i (hm a i k),hb.trans h3,h4⟩
theorem z11{b:Frame}(h:b.mode=.run):b.atR ⟨b.tmps,b.defers⟩ b.todo=b:=by
 obtain⟨fn,tmps,todo,defers,mode,kind,round⟩:=b
 simp only at h
 subst h;rfl
end
end Go.Am
namespace Go.Am
open Go Go.RowKit
structure Sim (P:Program) (C:iA) (B N:Nat) (I:World->Prop):Prop where
 tys:vG P C
 fns:zh1 P C
 prims:zec P C B N I
 base:B<=C.base
 mixed:P.follows .mixedOrders=true
 inv:∀w w',Below N w w'->I w->I w'
section
variable {P:Program}{C:iA}{B N:Nat}{I:World->Prop}{μ ν:Mu}{H H':qA}{w:World}{tm:Tm}{R:jI}{acs:List xC}{base cs:List Frame}
variable {b:Frame}{tmps:Array Value}{ds:List Deferred}{k:List fD}{k':List Item}
theorem bG.todo{todo:List Item}(h:bG μ R (b.atR ⟨tmps,ds⟩ [])):bG μ R (b.atR ⟨tmps,ds⟩ todo):=⟨h.fn,h.size,h.defers,h.mode,h.kind,h.round⟩
theorem bG.running{todo:List Item}(h:bG μ R (b.atR ⟨tmps,ds⟩ todo)):R.mode.running=true:=by
 have:=h.mode
 cases hm:R.mode with
 | run=>rfl
 | _=>rw[hm]at this;exact this.elim
theorem pR{m:Machine}{todo:List fD}{btodo:List Item}(hH:oB B N μ H w)(hcs:tG C μ acs cs)(hR:bG μ R (b.atR ⟨tmps,ds⟩ []))(ht:sE μ R.n tm tmps)
  (hk:zD (pG μ) todo btodo) (hs:Steps P m (lone (b.atR ⟨tmps,ds⟩ btodo) (cs++base) w)):qD P C B N μ base m w (xGo todo tm R acs H):=
 ⟨μ,_,cs,w,hs,fun _ _ h=>h,Below.refl _ _,hH,⟨hR.todo,by rw[if_pos hR.running];exact .plain hk ht⟩,hcs⟩
theorem zg0(hH:oB B N μ H w)(hcs:tG C μ acs cs)(hR:bG μ R (b.atR ⟨tmps,ds⟩ []))(ht:sE μ R.n tm tmps)(hk:zD (pG μ) k k'){m:Machine}
  (hs:step P m=.next (lone (b.atR ⟨tmps,ds⟩ k') (cs++base) w)):qD P C B N μ base m w (zku C k tm R acs H):=
 pR hH hcs hR ht hk (.one hs)
theorem z67(hH:oB B N μ H w)(hcs:tG C μ acs cs)(hR:bG μ R (b.atR ⟨tmps,ds⟩ []))(ht:sE μ R.n tm tmps)(hk:zD (pG μ) k k'){c:Operand}{x y:Code} :
  qD P C B N μ base (lone (b.atR ⟨tmps,ds⟩ (.code (.cond c x y)::k')) (cs++base) w) w (zr5 c x y C k tm R acs H):=by
 unfold zr5
 cases hc:ob (ev c (.now tm)) zA.asBool with
 | none=>exact trivial
 | some t=>
  rw[lA]at hc;obtain⟨v,hv,ht'⟩:=hc
  have:v=.bool t:=by cases v<;>simp[zA.asBool]at ht';rw[ht']
  subst this;have hr:=ht.erel (ds:=ds) hH.glob c _ hv
  rw[rA]at hr;refine pR hH hcs hR ht (.cons (.code _) hk) (.one ?_)
  rw[stepR_cond hr]
  cases t<;>rfl
theorem z1w(hH:oB B N μ H w)(hcs:tG C μ acs cs)(hR:bG μ R (b.atR ⟨tmps,ds⟩ []))(ht:sE μ R.n tm tmps)(hk:zD (pG μ) k k'){id:Nat}{c:Code} :
  qD P C B N μ base (lone (b.atR ⟨tmps,ds⟩ (.code (.block id c)::k')) (cs++base) w) w (z2b id c C k tm R acs H):=
 pR hH hcs hR ht (.cons (.code _) (.cons (.inBlock _) hk)) (.one stepR_block)
theorem z5y(hH:oB B N μ H w)(hcs:tG C μ acs cs)(hR:bG μ R (b.atR ⟨tmps,ds⟩ []))(ht:sE μ R.n tm tmps)(hk:zD (pG μ) k k'){c:Code} :
  qD P C B N μ base (lone (b.atR ⟨tmps,ds⟩ (.code (.loop c)::k')) (cs++base) w) w (z4d c C k tm R acs H):=
 pR hH hcs hR ht (.cons (.code _) (.cons (.inLoop _) hk)) (.one stepR_loop)
theorem zxe{id:Nat}:∀ {k:List fD} {k':List Item} {r:List fD},zD (pG μ) k k'->mO id k=some r->∃r',exitTo id k'=some r'/\zD (pG μ) r r':=by
 intro k k' r h;induction h with
 | nil=>intro e;cases e
 | cons a l ih=>
  intro e
  cases a with
  | inBlock i=>
   unfold mO at e;simp only[fD.blockId]at e;rw[iC]at e;unfold exitTo;by_cases hi:i=id
   ·subst hi
    rw[if_pos (zC.2 rfl)]at e
    cases e
    exact⟨_,by simp,l⟩
   ·rw[if_neg fun h=>hi (zC.1 h)]at e
    obtain⟨r',h1,h2⟩:=ih e
    exact⟨r',by simp[hi,h1],h2⟩
  | _=>
   unfold mO at e;obtain⟨r',h1,h2⟩:=ih e
   exact⟨r',by unfold exitTo;exact h1,h2⟩
end
end Go.Am
namespace Go.Am
open Go Go.RowKit
section
variable {P:Program}{C:iA}{B N:Nat}{I:World->Prop}{μ ν:Mu}{H H':qA}{w:World}{tm:Tm}{R:jI}{acs:List xC}{base cs:List Frame}
variable {b:Frame}{tmps:Array Value}{ds:List Deferred}{k:List fD}{k':List Item}{all:Array Oper}{olds:List (Nat × List Nat)}{anc:Tr Nat}{old:Tm}{D:Nat}{S:Nat->Bool}{order:List Nat}
theorem bG.slots{tmps':Array Value}{todo:List Item}(h:bG μ R (b.atR ⟨tmps,ds⟩ todo))(hs:tmps'.size=R.n):bG μ R (b.atR ⟨tmps',ds⟩ todo):=⟨h.fn,hs,h.defers,h.mode,h.kind,h.round⟩
theorem sE.cut{n:Nat}(h:sE μ n tm tmps):sE μ n tm.cut tmps:=by
 refine⟨h.1,fun i v hv=>h.2 i v ?_⟩
 unfold Tm.cut Tm.get at hv;unfold Tm.get;simp only[jH]at hv ⊢
 split at hv
 ·rename_i e;rw[if_pos e];exact hv
 ·cases hv
theorem zun(hS:Sim P C B N I)(hH:oB B N μ H w)(hcs:tG C μ acs cs)(hR:bG μ R (b.atR ⟨tmps,ds⟩ []))(hk:zD (pG μ) k k')
  (hr:zH μ all olds anc R.n old tm D S order tmps) (hst:qJ all.toList anc [] D=true) (hp:uK C μ acs.length H all olds R.n old tm D S) :
  qD P C B N μ base (lone (b.atR ⟨tmps,ds⟩ (.inRegion all order::k')) (cs++base) w) w (zku C k tm R acs H):=by
 obtain⟨tmps',μ',w',s,g,t⟩:=regEnd (b:=b) (k:=k') (cs:=cs++base) (ds:=ds) hS.tys hst order S tmps μ w hH hr hp
 refine qD.of_steps s g.le g.below ?_
 exact pR g.heap (hcs.monoD fun d hd=>g.pd d (by omega)) ((hR.mono g.le).slots t.1) t (hk.mono fun _ _ r=>r.mono g.le) (.refl _ _)
theorem z65(hS:Sim P C B N I)(hH:oB B N μ H w)(hcs:tG C μ acs cs)(hR:bG μ R (b.atR ⟨tmps,ds⟩ []))(ht:sE μ R.n tm tmps)(hk:zD (pG μ) k k'){id:Nat} :
  qD P C B N μ base (lone (b.atR ⟨tmps,ds⟩ (.code (.region id all true)::k')) (cs++base) w) w (zr4 id all C k tm R acs H):=by
 unfold zr4
 cases hx:ob (ob (C.plans.get R.fn) fun t=>t.get id) fun p=>sB (uO all p) <| ob (sO C H all R.n tm.cut p.olds p.first tm.cut) fun tm'=>some (⟨⟨.reg all tm.cut p.olds p.stages::k,tm',R⟩,acs,H⟩:jO)with
 | none=>exact trivial
 | some s=>
  simp only[lA,lB]at hx;obtain⟨p,_,hok,tm',hl,hx⟩:=hx
  cases hx;obtain⟨anc,D,ro,h1,h2⟩:=zva hok
  obtain⟨r0,p0⟩:=zzz (C:=C) (H:=H) (dp:=acs.length) hS.mixed ro ht.cut (w.tape w.drawn (.order b.fn id))
  obtain⟨r1,p1⟩:=zaw _ _ _ hl h1 r0 p0
  exact⟨μ,_,cs,_,.one stepR_region_draw,fun _ _ h=>h,(Below.refl N w).drew,hH.drew,⟨hR.todo,by rw[if_pos hR.running];exact .reg r1 h2 p1 hk⟩,hcs⟩
theorem zvy(hH:oB B N μ H w)(hcs:tG C μ acs cs)(hR:bG μ R (b.atR ⟨tmps,ds⟩ []))(hk:zD (pG μ) k k'){st:lG}{stages:List lG}{D2:Nat}
  (hr:zH μ all olds anc R.n old tm D S order tmps) (h1:mM all.toList st.lights D=some D2) (h2:qJ all.toList anc stages D2=true) (hw:dQ C μ acs.length all olds R.n old tm D S st.again) :
  qD P C B N μ base (lone (b.atR ⟨tmps,ds⟩ (.inRegion all order::k')) (cs++base) w) w (zb8 all old olds st stages C k tm R acs H):=by
 unfold zb8
 cases hx:sB (rT C H all old olds tm st.again) (ob (sO C H all R.n old olds st.lights tm) fun tm=>some (⟨⟨.reg all old olds stages::k,tm,R⟩,acs,H⟩:jO))with
 | none=>exact trivial
 | some s=>
  simp only[lA,lB]at hx;obtain⟨ha,tm',hl,hx⟩:=hx
  cases hx;obtain⟨r1,p1⟩:=zaw _ _ _ hl h1 hr (zr9 hw ha)
  exact⟨μ,_,cs,w,.refl _ _,fun _ _ h=>h,Below.refl N w,hH,⟨hR.todo,by rw[if_pos hR.running];exact .reg r1 h2 p1 hk⟩,hcs⟩
theorem zi0(hH:oB B N μ H w)(hcs:tG C μ acs cs)(hR:bG μ R (b.atR ⟨tmps,ds⟩ []))(ht:sE μ R.n tm tmps){m:Machine}{todo:List fD}{btodo:List Item}
  (hs:Steps P m (lone { b.atR ⟨tmps,ds⟩ btodo with mode:=.returning } (cs++base) w)):qD P C B N μ base m w (.next ⟨zcx ⟨todo,tm,R⟩ .returning,acs,H⟩):=
 ⟨μ,_,cs,w,hs,fun _ _ h=>h,Below.refl N w,hH,⟨⟨hR.fn,hR.size,hR.defers,trivial,hR.kind,hR.round⟩,ht⟩,hcs⟩
theorem nV{dst:Option Tmp}{v:Value}:Act.put ⟨tmps,ds⟩ dst v=⟨(Act.put ⟨tmps,ds⟩ dst v).tmps,ds⟩:=by unfold Act.put;cases dst<;>rfl
theorem zet{i:Nat}{rest:List Nat}{o:Oper}{v:zA}{cs:List Frame}(ho:all[i]?=some o)(hw:Region.wanted o (yielded all tmps)=true)(hd:∀c,o.op≠.defer c)
  (h:zpu P B N μ w (Act.eval ⟨tmps,ds⟩) o v H') :
  ∃v' w' μ',step P (lone (b.atR ⟨tmps,ds⟩ (.inRegion all (i::rest)::k')) cs w)=.next (lone (b.atR ⟨(Act.put ⟨tmps,ds⟩ o.dst v').tmps,ds⟩ (.inRegion all rest::k')) cs w') ∧
   μ.le μ'/\oB B N μ' H' w'/\Below N w w'/\rA μ' v v':=by
 obtain⟨v',w',μ',h1,h2,h3,h4,h5⟩:=h
 refine⟨v',w',μ',?_,h2,h3,h4,h5⟩
 rw[<- nV];rcases h1 with h1 | ⟨h1,rfl⟩
 ·exact bY (a:=⟨tmps,ds⟩) ho hw (by rw[Oper.semAt_eq _ _ _ hd];exact h1)
 ·exact zgm (a:=⟨tmps,ds⟩) ho hw (by rw[Oper.semAt_eq _ _ _ hd];exact h1)
theorem zcl{i:Nat}{rest:List Nat}{o:Oper}{f:FuncId}{args:Array Value}{cs:List Frame}{w':World}(ho:all[i]?=some o)(hw:Region.wanted o (yielded all tmps)=true)(hd:∀c,o.op≠.defer c)
  (h:(execOp (Act.eval ⟨tmps,ds⟩) o).run P w=.ok (.enter f args) w') :
  step P (lone (b.atR ⟨tmps,ds⟩ (.inRegion all (i::rest)::k')) cs w)=.next (lone (Frame.enter P f args .normal) (b.atR ⟨tmps,ds⟩ (.inRegion all (i::rest)::k')::cs) w'):=
 step_lone_go (by
  rw[stepGR_op (a:=⟨tmps,ds⟩) ho hw,Oper.semAt_eq _ _ _ hd]
  simp[stepG.apply,Sem.runT_eq,h,Frame.atR])
theorem zf6{i:Nat}{rest:List Nat}{o:Oper}{f:FuncId}{args:Array Value}{cs:List Frame}{v:zA}(ho:all[i]?=some o)(hw:Region.wanted o (yielded all tmps)=true)(hd:∀c,o.op≠.defer c)
  (h:(execOp (Act.eval ⟨tmps,ds⟩) o).run P w=.ok (.enter f args) w) (hc:Calls P f args w fun e w'=>∃v',e=.returned v'/\rA μ v v'/\Below w.heap.size w w') :
  ∃v' w',Steps P (lone (b.atR ⟨tmps,ds⟩ (.inRegion all (i::rest)::k')) cs w) (lone (b.atR ⟨(Act.put ⟨tmps,ds⟩ o.dst v').tmps,ds⟩ (.inRegion all rest::k')) cs w')/\rA μ v v'/\Below w.heap.size w w':=by
 obtain⟨e,w',fr,⟨v',rfl,h1,h2⟩,h3,_,h5⟩:=hc (b.atR ⟨tmps,ds⟩ (.inRegion all (i::rest)::k')::cs)
 refine⟨v',w',?_,h1,h2⟩
 refine .head (zcl ho hw hd h) (Steps.trans h3 (.one ?_))
 rw[step_leave_returned h5,Frame.finish_atR,ho,<- nV];rfl
theorem oB.below{w':World}(hH:oB B N μ H w)(hb:Below w.heap.size w w'):oB B N μ H w':=by
 refine⟨hH.base,hH.glob,hH.low,hH.next,Nat.le_trans hH.size hb.size,hH.fresh,fun a x i hx h1=>?_,fun a i ha hi=>?_,hH.inj,hH.pnd⟩
 ·obtain⟨o,h2,h3⟩:=hH.blk a x i hx h1
  have hlt:i.b<w.heap.size:=(yaf.1 h2).1
  exact⟨o,by rw[hb.block _ hlt];exact h2,h3⟩
 ·obtain⟨h1,h2,h3⟩:=hH.own a i ha hi
  exact⟨h1,Nat.lt_of_lt_of_le h2 hb.size,h3⟩
theorem sE.wanted{n:Nat}(R:sE μ n tm tmps){o:Oper}{w:Bool}(h:kF o.guard all tm=some w):Region.wanted o (yielded all tmps)=w:=by
 unfold kF zsa at h;unfold Region.wanted
 cases hg:o.guard with
 | none=>rw[hg]at h;cases h;rfl
 | some jw=>
  obtain⟨j,want⟩:=jw
  rw[hg]at h;simp only[zh3,lA,vE]at h;obtain⟨d,⟨u,hu,hud⟩,v,hv,h⟩:=h
  have hu':all[j]?=some u:=by simpa using hu
  have hy:yielded all tmps j=match tmps[d]? with | some (.bool b)=>some b | _=>none:=by
   unfold yielded;rw[hu'];simp[hud]
   rfl
  simp only[];rw[hy];have rel:=R.2 d v hv
  by_cases hd:d<n
  ·have hs:d<tmps.size:=by rw[R.1];exact hd
   have e1:tmps[d]?=some (tmps.getD d undef):=by simp[Array.getD,hs]
   rw[e1];generalize tmps.getD d undef=x at rel
   cases hb:v.asBool with
   | some b=>
    rw[hb]at h;have:v=.bool b:=by cases v<;>simp[zA.asBool]at hb;rw[hb]
    rw[this,rA]at rel;subst rel;simp only[Option.some.injEq]at h;rw[<- h,eQ]
    cases b<;>cases want<;>rfl
   | none=>
    rw[hb]at h
    cases h
    cases x with
    | bool b=>rw[zh4 rel]at hb;cases hb
    | _=>rfl
  ·have e1:tmps[d]?=none:=by simp[R.1];omega
   rw[e1];rw[gV (by rw[R.1];omega)]at rel
   cases hb:v.asBool with
   | some b=>
    have:v=.bool b:=by cases v<;>simp[zA.asBool]at hb;rw[hb]
    rw[this,rA]at rel
    cases rel
   | none=>rw[hb]at h;cases h;rfl
theorem zlr{fr:xC}{c:Frame}{w':World}{v:zA}{v':Value}{m:Machine}(hw:qI C μ acs.length none fr c)(hcs:tG C μ acs cs)(hm:μ.le ν)(hH:oB B N ν H' w')(hb:Below N w w')(hv:rA ν v v')
  (hs:Steps P m (lone (c.finish v') (cs++base) w')):qD P C B N μ base m w (z5c v H' C fr acs H):=by
 unfold z5c
 cases hx:ob (nI fr v) fun fr=>some (⟨fr,acs,H'⟩:jO)with
 | none=>exact trivial
 | some s=>
  rw[lA]at hx;obtain⟨fr',hf,hx⟩:=hx
  cases hx;exact⟨ν,_,cs,w',hs,hm,hb,hH,pU (hw.mono hm) hf hv,hcs.mono hm⟩
theorem eV{dp:Nat}(hF:zh1 P C){f:Nat}{args:List zA}{args':Array Value}{d:Bool}{g:xC}{cur:Option qA}(h:vJ C f args d=some g)(hl:qB μ args args'.toList) :
  qI C μ dp cur g (Frame.enter P f args' (if d then .deferred else .normal))/\∃fn,C.fns.get f=some fn/\fn.body.isSome=true:=by
 unfold vJ at h;simp only[lA,lB,yac,cE]at h;obtain⟨fn,hfn,c,hc,k,hk,⟨h1,h2⟩,h3⟩:=h
 cases h3;obtain⟨h4,_⟩:=hF f fn hfn
 have hsz:args'.size=args.length:=by have:=hl.length;simpa using this
 rw[bD]at h1 h2;have size:(Frame.enter P f args' (if d then .deferred else .normal)).tmps.size=fn.ntmps:=by
  simp only[Frame.enter,h4,Option.map_some,Option.getD_some,Array.size_append,Array.size_replicate];omega
 refine⟨⟨⟨rfl,size,.nil,trivial,rfl,trivial⟩,?_⟩,fn,hfn,by rw[hc];rfl⟩
 show rK C μ dp fn.ntmps cur [.code c] ⟨k,Tr.ofList args,[]⟩ (Frame.enter P f args' (if d then .deferred else .normal)).todo (Frame.enter P f args' (if d then .deferred else .normal)).tmps
 have todo:(Frame.enter P f args' (if d then .deferred else .normal)).todo=[.code c]:=by simp[Frame.enter,h4,hc]
 rw[todo];refine .plain (.cons (.code c) .nil) ⟨size,fun i v hv=>?_⟩
 unfold Tm.get at hv;simp only[jH]at hv;split at hv
 ·rw[Tr.get_ofList]at hv
  obtain⟨x,hx,hr⟩:=hl.get hv
  have hi:i<args'.size:=by have:=(yad.1 hx).1;simpa using this
  have:(Frame.enter P f args' (if d then .deferred else .normal)).tmps.getD i undef=x:=by
   simp only[Frame.enter,yby];rw[Array.getElem?_append_left hi];have:args'[i]?=some x:=by simpa using hx
   rw[this];rfl
  rw[this];exact hr
 ·cases hv
theorem zuu(hF:zh1 P C){fr:xC}{c:Frame}{f:Nat}{args:List zA}{m:Machine}(hw:qI C μ acs.length none fr c)(hcs:tG C μ acs cs)(hH:oB B N μ H w)
  (hs:∀fn,C.fns.get f=some fn->fn.body.isSome=true->∃args',qB μ args args'.toList/\Steps P m (lone (Frame.enter P f args' .normal) (c::(cs++base)) w)) :
  qD P C B N μ base m w (zi2 f args C fr acs H):=by
 unfold zi2
 cases hx:vJ C f args false with
 | none=>exact trivial
 | some g=>
  obtain⟨fn,h1,h2⟩:∃fn,C.fns.get f=some fn/\fn.body.isSome=true:=by
   unfold vJ at hx;simp only[lA]at hx;obtain⟨fn,hfn,c,hc,_⟩:=hx
   exact⟨fn,hfn,by rw[hc];rfl⟩
  obtain⟨args',h3,h4⟩:=hs fn h1 h2
  exact⟨μ,_,c::cs,w,h4,fun _ _ h=>h,Below.refl N w,hH,(eV hF hx h3).1,.cons hw hcs⟩
end
end Go.Am
namespace Go.Am
open Go Go.RowKit
theorem zfz:∀(l:List Oper) (t:Tr zA) (i:Nat) (v:zA),(zf3 l t).get i=some v->t.get i=some v/\∀o∈l,o.dst≠some i:=by
 intro l;induction l with
 | nil=>intro t i v h;exact⟨h,fun _ ho=>by cases ho⟩
 | cons o l ih=>
  intro t i v h;unfold zf3 at h
  cases hd:o.dst with
  | none=>
   rw[hd]at h;obtain⟨h1,h2⟩:=ih t i v h
   refine⟨h1,fun u hu=>?_⟩
   rcases yat.1 hu with rfl | hu
   ·rw[hd];simp
   ·exact h2 u hu
  | some j=>
   rw[hd]at h;obtain⟨h1,h2⟩:=ih _ i v h
   rw[Tr.get_del]at h1;split at h1
   ·cases h1
   ·rename_i e
    refine⟨h1,fun u hu=>?_⟩
    rcases yat.1 hu with rfl | hu
    ·rw[hd];exact fun k=>e (ybj k).symm
    ·exact h2 u hu
theorem zH.left{μ:Mu}{all:Array Oper}{olds:List (Nat × List Nat)}{anc:Tr Nat}{n:Nat}{old tm:Tm}{D:Nat}{S:Nat->Bool}{order:List Nat}{tmps:Array Value}(R:zH μ all olds anc n old tm D S order tmps) :
  sE μ n ⟨tm.k,zf3 all.toList tm.v,[]⟩ tmps:=by
 refine⟨R.size,fun t v hv=>?_⟩
 unfold Tm.get at hv;simp only[jH]at hv;split at hv
 case isFalse=>cases hv
 rename_i hk;obtain⟨h1,h2⟩:=zfz _ _ _ _ hv
 have hv:tm.get t=some v:=by unfold Tm.get;simp only[jH];rw[if_pos hk];exact h1
 have hw:∀(i:Nat) (o:Oper),all[i]?=some o->o.dst=some t->False:=fun i o ho hd=>h2 o (by
  have:all.toList[i]?=some o:=by simpa using ho
  exact ybw this) hd
 by_cases hn:t<n
 ·have k:=R.keep t hn fun i o a b=>(hw i o a b).elim
  exact R.past t v hn (fun i o a b=>(hw i o a b).elim) (by rw[<- k];exact hv)
 ·rw[gV (by rw[R.size];omega)]
  exact R.big t v (by omega) (.inl hv)
theorem rK.left{C:iA}{μ:Mu}{dp n:Nat}{cur:Option qA}{todo:List fD}{tm:Tm}{btodo:List Item}{tmps:Array Value}(h:rK C μ dp n cur todo tm btodo tmps):sE μ n (zjl todo tm) tmps:=by
 cases h with
 | plain a t=>
  cases a with
  | nil=>exact t
  | cons x l=>cases x<;>exact t
 | reg a _ _ _=>exact a.left
 | mid a _ _ _ _=>exact a.left
 | wait a _ _ _ _=>exact a.left
theorem zD.append{α β:Type}{R:α->β->Prop}{l l':List α}{m m':List β}(h:zD R l m)(h':zD R l' m'):zD R (l++l') (m++m'):=by
 induction h with
 | nil=>exact h'
 | cons a _ ih=>exact .cons a ih
theorem sE.left{μ:Mu}{n:Nat}{tm:Tm}{tmps:Array Value}(h:sE μ n tm tmps)(todo:List fD):sE μ n (zjl todo tm) tmps:=by
 unfold zjl;split
 ·refine⟨h.1,fun t v hv=>h.2 t v ?_⟩
  unfold Tm.get at hv ⊢
  simp only[jH]at hv ⊢
  split at hv
  ·rename_i e;rw[if_pos e];exact(zfz _ _ _ _ hv).1
  ·cases hv
 ·exact h
theorem zof{C:iA}{μ:Mu}{dp:Nat}{cur cur':Option qA}{fr:xC}{b:Frame}{l:List kT}{l':List PanicEntry}(h:qI C μ dp cur fr b)(hl:zD (lT μ) l l'):qI C μ dp cur' (zoh fr l) (b.raise l'):=by
 have t:sE μ fr.R.n (zjl fr.todo fr.tm) b.tmps:=by
  have:=h.body
  split at this
  ·exact this.left
  ·exact this.left _
 have r:=h.rest
 obtain⟨todo,tm,fn,n,defers,mode,deferred,round⟩:=fr
 obtain⟨bfn,btmps,btodo,bdefers,bmode,bkind,bround⟩:=b
 have m:=r.mode
 cases mode<;>cases bmode<;>first | exact m.elim | skip
 ·exact⟨⟨r.fn,r.size,r.defers,hl,r.kind,r.round⟩,t⟩
 ·exact⟨⟨r.fn,r.size,r.defers,hl,r.kind,r.round⟩,t⟩
 ·refine⟨⟨r.fn,r.size,r.defers,?_,r.kind,r.round⟩,t⟩
  show zD (lT μ) (cF l _) _
  rw[eH];exact hl.append m
end Go.Am
namespace Go.Am
open Go Go.RowKit
section
variable {P:Program}{C:iA}{B N:Nat}{I:World->Prop}{μ ν:Mu}{H H':qA}{w:World}{tm:Tm}{R:jI}{acs:List xC}{base cs:List Frame}
variable {b:Frame}{tmps:Array Value}{ds:List Deferred}{k:List fD}{k':List Item}{all:Array Oper}
theorem zut{fr:xC}{c:Frame}{v:zA}{v':Value}{m:Machine}{cur:Option qA}(hw:qI C μ acs.length cur fr c)(hcs:tG C μ acs cs)(hH:oB B N μ H w)(hv:rA μ v v')
  (hs:Steps P m (lone (c.raise [{ v:=v',recovered:=false }]) (cs++base) w)):qD P C B N μ base m w (z2w v C fr acs H):=
 ⟨μ,_,cs,w,hs,fun _ _ h=>h,Below.refl N w,hH,zof hw (.cons ⟨hv,rfl,rfl⟩ .nil),hcs⟩
theorem zld{i:Nat}{rest:List Nat}{o:Oper}{v:Value}{cs:List Frame}{w':World}(ho:all[i]?=some o)(hw:Region.wanted o (yielded all tmps)=true)(hd:∀c,o.op≠.defer c)
  (h:(execOp (Act.eval ⟨tmps,ds⟩) o).run P w=.halt (.panic v) w') :
  step P (lone (b.atR ⟨tmps,ds⟩ (.inRegion all (i::rest)::k')) cs w)=.next (lone ((b.atR ⟨tmps,ds⟩ (.inRegion all (i::rest)::k')).raise [{ v,recovered:=false }]) cs w'):=
 step_lone_go (by
  rw[stepGR_op (a:=⟨tmps,ds⟩) ho hw,Oper.semAt_eq _ _ _ hd]
  simp[stepG.apply,Sem.runT_eq,h])
theorem dW(hH:oB B N μ H w){l:Nat}{r:zru}(h:tO H l=some r){i:BI}(h4:μ l=some i):B<=l/\∃r',H.t.get l=some (.loop r)/\w.heap[i.b]?=some (.loop r')/\zee μ r r':=by
 unfold tO at h;rw[lB,cE,lA]at h;obtain⟨h1,x,h2,h3⟩:=h
 have:x=.loop r:=by cases x<;>simp[jA.asLoop]at h3;rw[h3]
 subst this;obtain⟨o,h5,h6⟩:=hH.blk l _ i h2 h4
 rw[iH]at h6;obtain⟨r',rfl,h7⟩:=h6
 refine⟨Nat.le_of_not_lt fun hlt=>?_,r',h2,h5,h7⟩
 have:=(hH.low l _ i hlt h2 h4).2.1
 cases this
theorem nW{l:Nat}{r:Loop}(h:w.heap[l]?=some (.loop r)):(Instr.getLoop l).run P w=.ok r w:=by
 simp[Instr.getLoop,getObj,Sem.run_bind,Sem.run,h]
theorem zkm{o:Op}(h:∃c,o=.defer c)(C:iA)(e:wD)(H:qA):(bE o).f C e H=.fail\/∃d,(bE o).f C e H=.defer d:=by
 obtain⟨c,rfl⟩:=h
 show(zbz c c.callee).f C e H=.fail\/∃d,(zbz c c.callee).f C e H=.defer d
 cases c.callee with
 | value f=>
  show z2v (ob (bO f c.args e) fun p=>some (.defer ⟨some p.1,0,cF p.2.1 p.2.2⟩))=.fail\/∃d,z2v (ob (bO f c.args e) fun p=>some (.defer ⟨some p.1,0,cF p.2.1 p.2.2⟩))=.defer d
  cases bO f c.args e with
  | none=>exact .inl rfl
  | some p=>exact .inr ⟨_,rfl⟩
 | _=>exact .inl rfl
theorem ziv{n:Nat}:∀(ps:List Nat) (args:List zA) (tm tm':Tm) (args':List Value) (tmps:Array Value),yY n ps args tm=some tm'->qB μ args args'->sE μ n tm tmps →
  args'.length=ps.length/\sE μ n tm' ((ps.zip args').foldl (fun tmps x=>tmps.setIfInBounds x.1 x.2) tmps):=by
 intro ps;induction ps with
 | nil=>
  intro args tm tm' args' tmps h hl ht
  cases args with
  | nil=>rw[qB]at hl;subst hl;cases h;exact⟨rfl,ht⟩
  | cons a as=>cases h
 | cons p ps ih=>
  intro args tm tm' args' tmps h hl ht
  cases args with
  | nil=>cases h
  | cons a as=>
   rw[qB]at hl;obtain⟨v,r,rfl,hv,hl⟩:=hl
   have:=ih as _ _ r (tmps.setIfInBounds p v) h hl (ht.put (ds:=[]) (dst:=some p) hv)
   exact⟨by simp[this.1],this.2⟩
theorem zlc{i:Nat}{rest:List Nat}{o:Oper}{cs:List Frame}{l:Nat}{f:FuncId}{t:Array Value}{as bd:Code}{w':World}(ho:all[i]?=some o)(hw:Region.wanted o (yielded all tmps)=true)(hd:∀c,o.op≠.defer c)
  (h:(execOp (Act.eval ⟨tmps,ds⟩) o).run P w=.ok (.round l f t as bd) w') :
  step P (lone (b.atR ⟨tmps,ds⟩ (.inRegion all (i::rest)::k')) cs w)=.next (lone (Frame.round l f t as bd .normal) (b.atR ⟨tmps,ds⟩ (.inRegion all (i::rest)::k')::cs) w'):=
 step_lone_go (by
  rw[stepGR_op (a:=⟨tmps,ds⟩) ho hw,Oper.semAt_eq _ _ _ hd]
  simp[stepG.apply,Sem.runT_eq,h,Frame.atR])
theorem zle{i:Nat}{rest:List Nat}{o:Oper}{cs:List Frame}{d:Deferred}{w':World}(ho:all[i]?=some o)(hw:Region.wanted o (yielded all tmps)=true)(hb:b.roundOf=none)
  (h:(execOp (Act.eval ⟨tmps,ds⟩) o).run P w=.ok (.defer d) w') :
  step P (lone (b.atR ⟨tmps,ds⟩ (.inRegion all (i::rest)::k')) cs w)=.next (lone ((b.atR ⟨tmps,d::ds⟩ (.inRegion all (i::rest)::k')).finish undef) cs w'):=
 step_lone_go (by
  rw[stepGR_op (a:=⟨tmps,ds⟩) ho hw,hb,Oper.semAt_none]
  simp[stepG.apply,Sem.runT_eq,h,Frame.atR])
theorem zgn{i:Nat}{rest:List Nat}{o:Oper}{cs:List Frame}{w':World}(ho:all[i]?=some o)(hw:Region.wanted o (yielded all tmps)=true)(hd:∀c,o.op≠.defer c)(hb:b.roundOf=none)
  (h:(execOp (Act.eval ⟨tmps,ds⟩) o).run P w=.ok .recover w') :
  step P (lone (b.atR ⟨tmps,ds⟩ (.inRegion all (i::rest)::k')) cs w)=.next (match tryRecover (b.atR ⟨tmps,ds⟩ (.inRegion all (i::rest)::k')) cs with
   | some (v,cs)=>lone ((b.atR ⟨tmps,ds⟩ (.inRegion all (i::rest)::k')).finish v) cs w'
   | none=>lone ((b.atR ⟨tmps,ds⟩ (.inRegion all (i::rest)::k')).finish .nilIface) cs w'):=by
 have e:(stepG P true { frame:=b.atR ⟨tmps,ds⟩ (.inRegion all (i::rest)::k'),callers:=cs,status:=.running,dying:=none } w).bare=match tryRecover (b.atR ⟨tmps,ds⟩ (.inRegion all (i::rest)::k')) cs with
   | some (v,cs)=>.go { frame:=(b.atR ⟨tmps,ds⟩ (.inRegion all (i::rest)::k')).finish v,callers:=cs,status:=.running,dying:=none } w'
   | none=>.go { frame:=(b.atR ⟨tmps,ds⟩ (.inRegion all (i::rest)::k')).finish .nilIface,callers:=cs,status:=.running,dying:=none } w':=by
  rw[stepGR_op (a:=⟨tmps,ds⟩) ho hw,Oper.semAt_eq _ _ _ hd]
  have hb':(b.atR ⟨tmps,ds⟩ (.inRegion all (i::rest)::k')).roundOf=none:=hb
  simp only[stepG.apply,Sem.runT_eq,h,GStep.bare_after,hb',if_true]
  cases tryRecover (b.atR ⟨tmps,ds⟩ (.inRegion all (i::rest)::k')) cs with
  | none=>rfl
  | some p=>obtain⟨v,c⟩:=p;rfl
 cases ht:tryRecover (b.atR ⟨tmps,ds⟩ (.inRegion all (i::rest)::k')) cs with
 | none=>rw[ht]at e;exact step_lone_go e
 | some p=>obtain⟨v,c⟩:=p;rw[ht]at e;exact step_lone_go e
theorem zur{fr:xC}{c:Frame}{l:Nat}{i:BI}{args:List zA}{args':Array Value}{m:Machine}(hw:qI C μ acs.length none fr c)(hcs:tG C μ acs cs)(hH:oB B N μ H w)(hi:μ l=some i)(hl:qB μ args args'.toList)
  (hs:∀f t as bd,(Instr.yield i.b args').run P w=.ok (.round i.b f t as bd) w->Steps P m (lone (Frame.round i.b f t as bd .normal) (c::(cs++base)) w)):qD P C B N μ base m w (zus l args C fr acs H):=by
 unfold zus
 cases hx:ob (tO H l) fun r=>ob (yY r.n r.params args r.tm) fun tm=>some (⟨⟨[.code r.assign,.beginRound,.code r.body],tm,⟨r.fn,r.n,[],.run,false,some l⟩⟩,fr::acs,H⟩:jO)with
 | none=>exact trivial
 | some s=>
  simp only[lA]at hx;obtain⟨r,hr,tm',htm,hx⟩:=hx
  cases hx;obtain⟨_,r',_,h3,h4⟩:=dW hH hr hi
  obtain⟨h5,h6⟩:=ziv r.params args r.tm tm' args'.toList r'.tmps htm hl h4.tm
  rw[<- h4.params]at h5 h6;have sz:args'.size=r'.params.size:=by simpa using h5
  have e:(r'.params.zip args').foldl (fun tmps x=>tmps.setIfInBounds x.1 x.2) r'.tmps=(r'.params.toList.zip args'.toList).foldl (fun tmps x=>tmps.setIfInBounds x.1 x.2) r'.tmps:=by
   rw[<- Array.foldl_toList,Array.toList_zip]
  rw[<- e]at h6;refine⟨μ,_,c::cs,w,hs r'.fn ((r'.params.zip args').foldl (fun tmps x=>tmps.setIfInBounds x.1 x.2) r'.tmps) r'.assign r'.body ?_,fun _ _ h=>h,Below.refl N w,hH,?_,.cons hw hcs⟩
  ·simp only[Instr.yield,Sem.run_bind,nW h3,Result.andThen_ok,sz]
   simp
  ·refine⟨⟨h4.fn,h6.1,.nil,trivial,rfl,⟨i,hi,rfl⟩⟩,?_⟩
   show rK C μ (acs.length+1) r.n _ _ _ [.code r'.assign,.beginRound,.code r'.body] _
   rw[h4.assign,h4.body];exact .plain (.cons (.code _) (.cons .beginRound (.cons (.code _) .nil))) h6
theorem zf8(hS:Sim P C B N I)(hH:oB B N μ H w)(hcs:tG C μ acs cs){fr:xC}{i:Nat}{rest:List Nat}{o:Oper}{r:yK}
  (hfr:qI C μ acs.length none fr (b.atR ⟨tmps,ds⟩ (.inRegion all (i::rest)::k'))) (ho:all[i]?=some o) (hw:Region.wanted o (yielded all tmps)=true)
  (hdef:(∃c,o.op=.defer c)->r=.fail\/∃d,r=.defer d) (h:gK P C B N μ H w (Act.eval ⟨tmps,ds⟩) o r) :
  qD P C B N μ base (lone (b.atR ⟨tmps,ds⟩ (.inRegion all (i::rest)::k')) (cs++base) w) w (za8 r C fr acs H):=by
 have hd:(∀d,r≠.defer d)->r≠.fail->∀c,o.op≠.defer c:=by
  intro h1 h2 c e;rcases hdef ⟨c,e⟩with h | ⟨d,h⟩
  ·exact h2 h
  ·exact h1 d h
 cases r with
 | fail=>exact trivial
 | val v H'=>
  have hd:=hd (fun _ h=>by cases h) (fun h=>by cases h)
  rcases h with h | ⟨rfl,f,args',h1,h2⟩
  ·obtain⟨v',w',μ',s,hm,hH',hb,hv⟩:=zet (b:=b) (k':=k') (rest:=rest) (cs:=cs++base) ho hw hd h
   refine zlr (H:=H) hfr hcs hm hH' hb hv ?_
   rw[Frame.finish_atR,ho,Option.bind_some,nV];exact .one s
  ·obtain⟨v',w',s,hv,hb⟩:=zf6 (b:=b) (k':=k') (rest:=rest) (cs:=cs++base) ho hw hd h1 h2
   refine zlr (H:=H') hfr hcs μ.le_refl (hH.below hb) (hb.mono hH.size) hv ?_
   rw[Frame.finish_atR,ho,Option.bind_some,nV];exact s
 | enter f args=>
  have hd:=hd (fun _ h=>by cases h) (fun h=>by cases h)
  exact zuu hS.fns hfr hcs hH fun fn h1 h2=>by
   obtain⟨args',h3,h4⟩:=h fn h1 h2
   exact⟨args',h4,.one (zcl ho hw hd h3)⟩
 | round l args=>
  have hd:=hd (fun _ h=>by cases h) (fun h=>by cases h)
  obtain⟨i0,args',hi,hl,hrun⟩:=h
  exact zur hfr hcs hH hi hl fun f t as bd hy=>.one (zlc ho hw hd (by rw[hrun];exact hy))
 | defer d=>
  obtain⟨_,d',h1,h2⟩:=h
  show qD P C B N μ base _ w (zuv d C fr acs H)
  unfold zuv
  cases hr:fr.R.roundOf with
  | some l=>exact trivial
  | none=>
   have hb:b.roundOf=none:=by
    have:=hfr.rest.round
    rw[hr]at this;change mT μ none b.roundOf at this
    cases hb:b.roundOf with
    | none=>rfl
    | some l=>rw[hb]at this;exact this.elim
   simp only[]
   cases hf:nI fr rE with
   | none=>exact trivial
   | some g=>
    have:=pU (cur:=some H) hfr hf jX
    refine⟨μ,_,cs,w,.one (zle ho hw hb h1),fun _ _ h=>h,Below.refl N w,hH,?_,hcs⟩
    rw[Frame.finish_atR]at this ⊢
    rw[nV]at this ⊢
    have e:∀x,(Act.put ⟨tmps,d'::ds⟩ x undef).tmps=(Act.put ⟨tmps,ds⟩ x undef).tmps:=fun x=>by cases x<;>rfl
    rw[e];exact⟨⟨this.rest.fn,this.rest.size,.cons h2 this.rest.defers,this.rest.mode,this.rest.kind,this.rest.round⟩,this.body⟩
 | panic v=>
  have hd:=hd (fun _ h=>by cases h) (fun h=>by cases h)
  obtain⟨v',h1,h2⟩:=h
  exact zut hfr hcs hH h2 (.one (zld ho hw hd h1))
 | recover=>
  have hd:=hd (fun _ h=>by cases h) (fun h=>by cases h)
  show qD P C B N μ base _ w (zgv C fr acs H)
  unfold zgv
  cases hr:fr.R.roundOf with
  | some l=>exact trivial
  | none=>
   have hb:b.roundOf=none:=by
    have:=hfr.rest.round
    rw[hr]at this;change mT μ none b.roundOf at this
    cases hb:b.roundOf with
    | none=>rfl
    | some l=>rw[hb]at this;exact this.elim
   cases hk:fr.R.deferred with
   | false=>exact trivial
   | true=>
    have hkind:b.kind=.deferred:=by have:=hfr.rest.kind;rw[hk]at this;exact this
    cases hcs with
    | nil=>exact trivial
    | @cons c b1 acs1 cs1 hc hcs1=>
     have st:=zgn (P:=P) (b:=b) (k':=k') (rest:=rest) (cs:=b1::(cs1++base)) ho hw hd hb h
     have hm:=hc.rest.mode
     have tr:∀todo,tryRecover (b.atR ⟨tmps,ds⟩ todo) (b1::(cs1++base))=match b1.mode with
       | .panicking ({ v,recovered:=false,goexit:=false }::older)=>some (v,{ b1 with mode:=.panicking ({ v,recovered:=true }::older) }::(cs1++base))
       | _=>none:=by
      intro todo;obtain⟨bfn,btmps,btodo,bdefers,bmode,bkind,bround⟩:=b
      simp only at hkind
      subst hkind;rfl
     rw[tr]at st;simp only[]
     cases hcm:c.R.mode with
     | run=>
      rw[hcm]at hm
      cases hbm:b1.mode with
      | run=>
       rw[hbm]at st;simp only[]
       cases hf:nI fr .niliface with
       | none=>exact trivial
       | some g=>exact⟨μ,_,b1::cs1,w,.one st,fun _ _ h=>h,Below.refl N w,hH,pU hfr hf (by rw[rA]),.cons hc hcs1⟩
      | _=>rw[hbm]at hm;exact hm.elim
     | returning=>
      rw[hcm]at hm
      cases hbm:b1.mode with
      | returning=>
       rw[hbm]at st;simp only[]
       cases hf:nI fr .niliface with
       | none=>exact trivial
       | some g=>exact⟨μ,_,b1::cs1,w,.one st,fun _ _ h=>h,Below.refl N w,hH,pU hfr hf (by rw[rA]),.cons hc hcs1⟩
      | _=>rw[hbm]at hm;exact hm.elim
     | panicking ch=>
      rw[hcm]at hm
      cases hbm:b1.mode with
      | run=>rw[hbm]at hm;exact hm.elim
      | returning=>rw[hbm]at hm;exact hm.elim
      | panicking ch'=>
       rw[hbm]at hm st
       cases hm with
       | nil=>exact trivial
       | @cons p e older older' hp hold=>
        obtain⟨pv,pr⟩:=p
        cases pr with
        | true=>exact trivial
        | false=>
         obtain⟨ev',er,eg⟩:=e
         obtain⟨q1,q2,q3⟩:=hp
         simp only at q1 q2 q3
         subst q2 q3
         simp only[]
         cases hf:nI fr pv with
         | none=>exact trivial
         | some g=>
          have aC:=pU (cur:=some H) hfr hf q1
          refine⟨μ,_,{ b1 with mode:=.panicking ({ v:=ev',recovered:=true }::older') }::cs1,w,.one st,fun _ _ h=>h,Below.refl N w,hH,aC,.cons ?_ hcs1⟩
          refine⟨⟨hc.rest.fn,hc.rest.size,hc.rest.defers,.cons ⟨q1,rfl,rfl⟩ hold,hc.rest.kind,hc.rest.round⟩,?_⟩
          have:=hc.body
          rw[hcm]at this;exact this
end
end Go.Am
namespace Go.Am
open Go Go.RowKit
section
variable {P:Program}{C:iA}{B N:Nat}{I:World->Prop}{μ ν:Mu}{H H':qA}{w:World}{tm:Tm}{R:jI}{acs:List xC}{base cs:List Frame}
variable {b:Frame}{tmps:Array Value}{ds:List Deferred}{k:List fD}{k':List Item}{all:Array Oper}
theorem zfc{m:Option Nat}(h:mT μ none m):m=none:=by
 cases m with
 | none=>rfl
 | some l=>exact h.elim
theorem zap{l:Nat}{m:Option Nat}(h:mT μ (some l) m):∃i,μ l=some i/\m=some i.b:=by
 cases m with
 | none=>exact h.elim
 | some m=>obtain⟨i,h1,h2⟩:=h;exact⟨i,h1,by rw[h2]⟩
theorem rZ{r:Loop}(a:Array Value)(b:TypeId)(c:Nat × Nat):Obj.loop r≠.cells a b c:=by intro h;cases h
theorem zdk(hH:oB B N μ H w)(hcs:tG C μ acs cs)(hR:bG μ R (b.atR ⟨tmps,ds⟩ []))(ht:sE μ R.n tm tmps){todo:List fD}{btodo:List Item}{jump:Option Code}
  (h0:b.roundOf=none->zuk jump=true->step P (lone (b.atR ⟨tmps,ds⟩ btodo) (cs++base) w)=.next (lone { b.atR ⟨tmps,ds⟩ btodo with mode:=.returning } (cs++base) w))
  (h1:∀l c rest v w',b.roundOf=some l->b.kind=.normal->(Instr.endRound l jump).run P w=.ok v w'->step P (lone (b.atR ⟨tmps,ds⟩ btodo) (c::rest) w)=.next (lone (c.finish v) rest w')) :
  qD P C B N μ base (lone (b.atR ⟨tmps,ds⟩ btodo) (cs++base) w) w (zfp jump C ⟨todo,tm,R⟩ acs H):=by
 unfold zfp;simp only[]
 cases hr:R.roundOf with
 | none=>
  have hb:b.roundOf=none:=by
   have:=hR.round
   rw[hr]at this;exact zfc this
  cases hj:zuk jump with
  | false=>exact trivial
  | true=>exact zi0 hH hcs hR ht (.one (h0 hb hj))
 | some l=>
  obtain⟨i,hi,hb⟩:∃i,μ l=some i/\b.roundOf=some i.b:=by
   have:=hR.round
   rw[hr]at this;exact zap this
  simp only[]
  cases hx:tO H l with
  | none=>exact trivial
  | some r=>
   rw[sA]
   cases hcs with
   | nil=>exact trivial
   | @cons c b1 acs1 cs1 hc hcs1=>
    simp only[]
    cases hd:R.deferred with
    | true=>exact trivial
    | false=>
     have hkind:b.kind=.normal:=by have:=hR.kind;rw[hd]at this;exact this
     cases hf:nI c (.bool jump.isNone)with
     | none=>exact trivial
     | some c'=>
      obtain⟨hl,r',hg,hw,rel⟩:=dW hH hx hi
      have run:(Instr.endRound i.b jump).run P w=.ok (.bool jump.isNone) (World.setBlk w i.b (.loop { r' with state:=if jump.isNone then .ready else .done,pending:=jump })):=by
       simp only[Instr.endRound,Sem.run_bind,nW hw,Result.andThen_ok,sV hw rZ,Sem.run_pure]
      refine⟨μ,_,cs1,_,.one (h1 i.b b1 (cs1++base) _ _ hb hkind run),fun _ _ h=>h,zT (hH.own l i hl hi).1,?_,pU hc hf (by rw[rA]),hcs1⟩
      refine hH.upd hg hi hl ?_
      rw[iH];exact⟨_,rfl,rfl,rfl,rel.fn,rel.tm,rel.params,rel.assign,rel.body,rel.defers⟩
theorem zmh{id:Nat}:∀ {k:List fD} {k':List Item},zD (pG μ) k k'->mO id k=none->exitTo id k'=none:=by
 intro k k' h;induction h with
 | nil=>intro _;rfl
 | cons a l ih=>
  intro e
  cases a with
  | inBlock i=>
   unfold mO at e;simp only[fD.blockId]at e;rw[iC]at e;unfold exitTo;by_cases hi:i=id
   ·subst hi
    rw[if_pos (zC.2 rfl)]at e
    cases e
   ·rw[if_neg fun h=>hi (zC.1 h)]at e
    simp[hi,ih e]
  | _=>
   unfold mO at e;unfold exitTo;exact ih e
theorem z60(hH:oB B N μ H w)(hcs:tG C μ acs cs)(hR:bG μ R (b.atR ⟨tmps,ds⟩ []))(ht:sE μ R.n tm tmps)(hk:zD (pG μ) k k'){id:Nat} :
  qD P C B N μ base (lone (b.atR ⟨tmps,ds⟩ (.code (.exit id)::k')) (cs++base) w) w (zr3 id C k tm R acs H):=by
 unfold zr3
 cases he:mO id k with
 | some r=>
  obtain⟨r',h1,h2⟩:=zxe hk he
  exact pR hH hcs hR ht h2 (.one (stepR_exit h1))
 | none=>
  exact zdk hH hcs hR ht (fun _ h=>by cases h) fun l c rest v w' hb hkd hr=>stepR_round_exit hb hkd (zmh hk he) hr
theorem ret_ok(hH:oB B N μ H w)(hcs:tG C μ acs cs)(hR:bG μ R (b.atR ⟨tmps,ds⟩ []))(ht:sE μ R.n tm tmps) :
  qD P C B N μ base (lone (b.atR ⟨tmps,ds⟩ (.code .ret::k')) (cs++base) w) w (xRet C k tm R acs H):=
 zdk hH hcs hR ht (fun hb _=>stepR_ret hb) fun _ _ _ _ _ hb hkd hr=>stepR_round_ret hb hkd hr
theorem end_ok(hH:oB B N μ H w)(hcs:tG C μ acs cs)(hR:bG μ R (b.atR ⟨tmps,ds⟩ []))(ht:sE μ R.n tm tmps) :
  qD P C B N μ base (lone (b.atR ⟨tmps,ds⟩ []) (cs++base) w) w (zfp none C ⟨[],tm,R⟩ acs H):=
 zdk hH hcs hR ht (fun hb _=>stepR_end hb) fun _ _ _ _ _ hb hkd hr=>stepR_round_end hb hkd hr
theorem tZ{o:Oper}{rest:List Oper}:xQ C all k R acs (o::rest) tm H=match kF o.guard all tm with
  | none=>.fail 20
  | some false=>xQ C all k R acs rest (putA R.n tm o.dst rE) H
  | some true=>match ((bE o.op).f C (.now tm) H).asVal with
   | some p=>xQ C all k R acs rest (putA R.n tm o.dst p.1) p.2
   | none=>za8 ((bE o.op).f C (.now tm) H) C ⟨.ops all (o::rest)::k,tm,R⟩ acs H:=by
 show(match kF o.guard all tm with
  | some w=>Bool.rec (motive:=fun _=>fC) (xQ C all k R acs rest (putA R.n tm o.dst rE) H)
     (let r:=(bE o.op).f C (.now tm) H
     match r.asVal with
     | some p=>xQ C all k R acs rest (putA R.n tm o.dst p.1) p.2
     | none=>za8 r C ⟨.ops all (o::rest)::k,tm,R⟩ acs H) w
  | none=>.fail 20)=_
 cases kF o.guard all tm with
 | none=>rfl
 | some w=>cases w<;>rfl
theorem zfg{n i:Nat}(h:i<n):(List.range n).drop i=i::(List.range n).drop (i+1):=by
 rw[yam (by simpa using h)];simp
theorem ziz(hS:Sim P C B N I):∀(rest:List Oper) (i:Nat) (tm:Tm) (H:qA) (w:World) (μ:Mu) (tmps:Array Value),rest=all.toList.drop i->i<=all.size->I w->oB B N μ H w->tG C μ acs cs →
  bG μ R (b.atR ⟨tmps,ds⟩ [])->sE μ R.n tm tmps->zD (pG μ) k k' →
  qD P C B N μ base (lone (b.atR ⟨tmps,ds⟩ (.inRegion all ((List.range all.size).drop i)::k')) (cs++base) w) w (xQ C all k R acs rest tm H):=by
 intro rest;induction rest with
 | nil=>
  intro i tm H w μ tmps hi hle hI hH hcs hR ht hk;have:all.size<=i:=by
   have:=congrArg List.length hi
   simp at this;omega
  rw[yau (by simpa using this)]
  exact pR hH hcs hR ht hk (.one stepR_region_end)
 | cons o rest ih=>
  intro i tm H w μ tmps hi hle hI hH hcs hR ht hk;obtain⟨h1,h2⟩:=jR hi
  have hlt:i<all.size:=by have:=(yad.1 h1).1;simpa using this
  have ho:all[i]?=some o:=by simpa using h1
  rw[tZ,zfg hlt]
  cases hw:kF o.guard all tm with
  | none=>exact trivial
  | some wn=>
   have hwn:=ht.wanted (all:=all) hw
   cases wn with
   | false=>
    refine qD.of_steps (.one (aY ho hwn)) (fun _ _ h=>h) (Below.refl N w) ?_
    rw[nV];have t:=ht.put (ds:=ds) (dst:=o.dst) jX
    exact ih (i+1) _ _ _ _ _ h2 hlt hI hH hcs (hR.slots t.1) t hk
   | true=>
    have hop:=z38 hS.tys hS.base hS.fns hS.prims hH hI (ht.erel (ds:=ds) hH.glob) o
    simp only[];generalize hr:(bE o.op).f C (.now tm) H=r at hop
    have hdef:(∃c,o.op=.defer c)->r=.fail\/∃d,r=.defer d:=fun h=>by rw[<- hr];exact zkm h _ _ _
    have hfr:qI C μ acs.length none ⟨.ops all (o::rest)::k,tm,R⟩ (b.atR ⟨tmps,ds⟩ (.inRegion all (i::(List.range all.size).drop (i+1))::k')):=by
     refine⟨hR.todo,?_⟩
     rw[if_pos hR.running,<- zfg hlt,hi];exact .plain (.cons (.ops all i hle) hk) ht
    cases hv:r.asVal with
    | none=>exact zf8 hS hH hcs hfr ho hwn hdef hop
    | some p=>
     have:r=.val p.1 p.2:=by cases r<;>simp[yK.asVal]at hv;rw[<- hv]
     subst this;simp only[];have hd:∀c,o.op≠.defer c:=fun c e=>by
      rcases hdef ⟨c,e⟩with h | ⟨d,h⟩<;>cases h
     rcases hop with h | ⟨he,f,args',h3,h4⟩
     ·obtain⟨v',w',μ',s,hm,hH',hb,hv⟩:=zet (b:=b) (k':=k') (rest:=(List.range all.size).drop (i+1)) (cs:=cs++base) ho hwn hd h
      refine qD.of_steps (.one s) hm.f hb ?_
      have t:=(ht.mono hm).put (ds:=ds) (dst:=o.dst) hv
      exact ih (i+1) _ _ _ _ _ h2 hlt (hS.inv _ _ hb hI) hH' (hcs.mono hm) ((hR.mono hm).slots t.1) t (hk.mono fun _ _ r=>r.mono hm)
     ·obtain⟨v',w',s,hv,hb⟩:=zf6 (b:=b) (k':=k') (rest:=(List.range all.size).drop (i+1)) (cs:=cs++base) ho hwn hd h3 h4
      have hbN:=hb.mono hH.size
      refine qD.of_steps s (fun _ _ h=>h) hbN ?_
      have t:=ht.put (ds:=ds) (dst:=o.dst) hv
      rw[he];exact ih (i+1) _ _ _ _ _ h2 hlt (hS.inv _ _ hbN hI) (hH.below hb) hcs (hR.slots t.1) t hk
theorem z03(hS:Sim P C B N I)(hI:I w)(hH:oB B N μ H w)(hcs:tG C μ acs cs)(hR:bG μ R (b.atR ⟨tmps,ds⟩ []))(hk:zD (pG μ) k k'){olds:List (Nat × List Nat)}{anc:Tr Nat}{old:Tm}{D:Nat}{S:Nat->Bool}{order:List Nat}{st:lG}{stages:List lG}{o:Oper}
  (hr:zH μ all olds anc R.n old tm D S order tmps) (hst:qJ all.toList anc (st::stages) D=true) (hp:uK C μ acs.length H all olds R.n old tm D S) (ho:all[st.heavy]?=some o) :
  qD P C B N μ base (lone (b.atR ⟨tmps,ds⟩ (.inRegion all order::k')) (cs++base) w) w (zne all old olds st stages o C k tm R acs H):=by
 have hlt:st.heavy<=all.size:=Nat.le_of_lt (yaf.1 ho).1
 obtain⟨S',order',tmps',μ',w',s,g,r1,p1⟩:=reach (b:=b) (k:=k') (cs:=cs++base) (ds:=ds) hS.tys hst hlt order S tmps μ w hH hr hp
 refine qD.of_steps s g.le g.below ?_
 replace hI:=hS.inv _ _ g.below hI
 replace hH:=g.heap
 replace hcs:=hcs.monoD fun d hd=>g.pd d (by omega)
 replace hR:=hR.mono g.le
 replace hk:zD (pG μ') k k':=hk.mono fun _ _ r=>r.mono g.le
 unfold zne
 cases hw:kF o.guard all tm with
 | none=>exact trivial
 | some wn=>
  obtain⟨o',ho',hS',hb',_⟩:=r1.sched
  rw[ho]at ho';cases ho'
  have hwn:=r1.wanted ho hb' hw
  have hfr:qI C μ' acs.length none ⟨.reg all old olds (st::stages)::k,tm,R⟩ (b.atR ⟨tmps',ds⟩ (.inRegion all (st.heavy::order')::k')):=by
   refine⟨(hR.slots r1.size).todo,?_⟩
   rw[if_pos hR.running];exact .wait r1 hst hlt (toWeak hst hlt r1 p1) hk
  cases wn with
  | false=>
   refine zlr (H:=H) hfr hcs μ'.le_refl hH (Below.refl N w') jX ?_
   rw[Frame.finish_atR,ho,Option.bind_some];exact .one (aY ho hwn)
  | true=>
   have hop:=z38 hS.tys hS.base hS.fns hS.prims hH hI (r1.erel (ds:=ds) hH.glob ho hS' hb') o
   exact zf8 hS hH hcs hfr ho hwn (fun h=>zkm h _ _ _) hop
theorem zq6(hS:Sim P C B N I)(hH:oB B N μ H w)(hcs:tG C μ acs cs)(hR:bG μ R (b.atR ⟨tmps,ds⟩ []))(hk:zD (pG μ) k k'){olds:List (Nat × List Nat)}{anc:Tr Nat}{old:Tm}{D:Nat}{S:Nat->Bool}{order:List Nat}{st:lG}{stages:List lG}
  (hr:zH μ all olds anc R.n old tm D S order tmps) (hst:qJ all.toList anc (st::stages) D=true) (hp:uK C μ acs.length H all olds R.n old tm D S) (hlt:all.size<st.heavy) :
  qD P C B N μ base (lone (b.atR ⟨tmps,ds⟩ (.inRegion all order::k')) (cs++base) w) w (znf all old olds st stages (st.heavy-(all.size+1)) C k tm R acs H):=by
 obtain⟨o,D1,D2,ho,hf,h1,h2,h3⟩:=zen hst hlt
 generalize st.heavy-(all.size+1)=i at *
 obtain⟨o',ho',hi,hb,hD1⟩:=iW h1
 rw[ho]at ho';cases ho'
 unfold znf;generalize hx:(ob (oD all.toList i) fun o=>ob (kF o.guard all tm) fun w=>sB w (ob ((bE o.op).f C (.mixed tm old (iE i olds) (aG o.op)) H).asVal fun p=>
  ob (sO C p.2 all R.n old olds st.lights (putA R.n tm o.dst p.1)) fun tm'=>some (⟨⟨.reg all old olds stages::k,tm',R⟩,acs,p.2⟩:jO)))=x
 cases x with
 | none=>exact trivial
 | some x=>
  simp only[lA,lB,vE]at hx;obtain⟨o',ho',wn,hw,hwn,p,hv,tm',hl,hx⟩:=hx
  have:o'=o:=by
   have h:all[i]?=some o':=by simpa using ho'
   rw[ho]at h;exact(ybj h).symm
  subst this;subst hwn
  cases hx;have hop:(bE o'.op).f C (nM tm old olds i o') H=.val p.1 p.2:=by
   show(bE o'.op).f C (.mixed tm old (iE i olds) (aG o'.op)) H=_
   generalize (bE o'.op).f C (.mixed tm old (iE i olds) (aG o'.op)) H=r at hv
   cases r<;>simp[yK.asVal]at hv
   rw[<- hv]
  obtain⟨l,hl2⟩:∃l,p.2=jF H l none:=zq7 hf hop
  have hH':oB B N (μ.wait H.next (.cells (Tr.ofList l) (wB l) none,acs.length,i)) p.2 w:=by rw[hl2];exact hH.early
  have hle:μ.lw (μ.wait H.next (.cells (Tr.ofList l) (wB l) none,acs.length,i)):=fun _ _ h=>h
  have hpd:∀d,μ.ln d (μ.wait H.next (.cells (Tr.ofList l) (wB l) none,acs.length,i)):=fun d=>⟨hle,fun a x j ha=>by
   show(if a=H.next then _ else μ.pd a)=_
   rw[if_neg]
   ·exact ha
   ·intro e
    have:=(hH.pnd _ _ _ ha).2.1
    rw[e,(hH.fresh _ (yal _)).2]at this
    cases this⟩
  have hgrow:HM.HLe H p.2:=by
   intro b y hb;rw[hl2];show(H.t.set H.next _).get b=some y
   rw[Tr.get_set,if_neg]
   ·exact hb
   ·intro e
    rw[e,(hH.fresh _ (yal _)).2]at hb
    cases hb
  have r1:=(hr.light (v:=p.1) ho hi hb hD1).mono hle
  have p1:uK C (μ.wait H.next (.cells (Tr.ofList l) (wB l) none,acs.length,i)) acs.length p.2 all olds R.n old (putA R.n tm o'.dst p.1) D1 S:=by
   intro j hj hSj;rw[hD1]at hj;simp only[ybr,beq_iff_eq]at hj;rcases hj with hj | rfl
   ·rcases hp j hj hSj with⟨u,wu,vu,pu⟩ | ⟨u,vu,pu⟩
    ·exact .inl ⟨u,wu,vu,(pu.keep hr.reg hr.dclosed hj ho hi).grow hgrow⟩
    ·exact .inr ⟨u,vu,(pu.keep hr.reg hr.dclosed hj ho hi).mono (hpd _)⟩
   ·refine .inr ⟨o',p.1,iP.fresh hr.reg hr.dclosed ho hb hi hf hw ⟨H,l,by rw[hop,hl2],?_⟩⟩
    show(if H.next=H.next then _ else μ.pd H.next)=_
    rw[if_pos rfl]
  obtain⟨r2,p2⟩:=zaw _ _ _ hl h2 r1 p1
  exact⟨_,_,cs,w,.refl _ _,hle,Below.refl N w,hH',⟨(hR.mono hle).todo,by rw[if_pos hR.running];exact .reg r2 h3 p2 (hk.mono fun _ _ r=>r.mono hle)⟩,hcs.monoD fun d _=>hpd d⟩
end
end Go.Am
