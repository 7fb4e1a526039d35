/- A plan that is true to its region. -/
import Derived.AtR
import Derived.Test.YthmbkdkibhffbaaGreatDoorE02
set_option linter.all false
noncomputable section
namespace Go.Am
open Go Go.RowKit
theorem zs2(m i:Nat):tb m i=m.testBit i:=by
 have h:Nat.mod (Nat.shiftRight m i) 2=(m >>> i)%2:=rfl
 unfold tb;show Nat.beq ((m >>> i)%2) 1=_
 rw[Nat.testBit,Nat.and_comm,Nat.and_one_is_mod];rcases Nat.mod_two_eq_zero_or_one (m >>> i)with h | h<;>rw[h]<;>rfl
theorem znc(i j:Nat):tb (z7h i) j=(i == j):=by
 rw[zs2];show(1 <<< i).testBit j=_
 rw[Nat.one_shiftLeft,Nat.testBit_two_pow]
 cases h:(i == j)<;>simp_all
theorem z2h(a b j:Nat):tb (Nat.lor a b) j=(tb a j||tb b j):=by
 rw[zs2,zs2,zs2];exact Nat.testBit_or a b j
theorem zf4(j:Nat):tb 0 j=false:=by rw[zs2];simp
theorem rX(e:Edge):zdq e=Region.binds .any e:=by
 unfold zdq Region.binds
 cases e.ground<;>rfl
def iQ(ops:Array Oper)(S:Nat->Bool):Prop:=∀i o,ops[i]?=some o->S i=true->∀j,wL o j->S j=true
def z7u(ops:Array Oper)(k m:Nat):Prop:=∀S,iQ ops S->(∀o,ops[k]?=some o->∀j,wL o j->S j=true)->∀j,tb m j=true->S j=true
theorem zvk{t:Tr Nat}{j:Nat}:∀ {l:List Edge},tb (ze4 t l) j=true->∃e∈l,Region.binds .any e=true/\(e.on=j\/tb (gJ t e.on) j=true):=by
 intro l;induction l with
 | nil=>intro h;simp[ze4,zf4]at h
 | cons e l ih=>
  intro h;unfold ze4 at h
  cases hb:zdq e with
  | false=>
   rw[hb]at h;obtain⟨e',h1,h2⟩:=ih h
   exact⟨e',.tail _ h1,h2⟩
  | true=>
   rw[hb]at h;simp only[cond_true,z2h,znc,ybr,beq_iff_eq]at h;rcases h with(h | h) | h
   ·exact⟨e,.head _,by rw[<- rX];exact hb,.inl h⟩
   ·exact⟨e,.head _,by rw[<- rX];exact hb,.inr h⟩
   ·obtain⟨e',h1,h2⟩:=ih h
    exact⟨e',.tail _ h1,h2⟩
theorem z06{t:Tr Nat}{i k m:Nat}:gJ (t.set i m) k=if k=i then m else gJ t k:=by
 unfold gJ;rw[Tr.get_set];by_cases h:k=i<;>simp[h]
theorem zw3{k:Nat}:gJ .leaf k=0:=rfl
theorem pR{α:Type}{l r:List α}{a:α}{i:Nat}(h:a::r=l.drop i):l[i]?=some a/\r=l.drop (i+1):=by
 have h1:(l.drop i)[0]?=some a:=by rw[<- h];rfl
 rw[ycf]at h1;refine⟨by simpa using h1,?_⟩
 have:r=(l.drop i).drop 1:=by rw[<- h];rfl
 rw[this,List.drop_drop]
theorem z16{ops:Array Oper}:∀(r:List Oper) (i:Nat) (t:Tr Nat),r=ops.toList.drop i->(∀k,z7u ops k (gJ t k))->∀k,z7u ops k (gJ (z7l r i t) k):=by
 intro r;induction r with
 | nil=>intro i t _ h k;exact h k
 | cons o r ih=>
  intro i t hr h;obtain⟨h1,h2⟩:=pR hr
  refine ih (i+1) _ h2 fun k=>?_
  rw[z06];split
  ·rename_i e;subst e
   intro S hS hp j hj;obtain⟨e,he,hb,hj⟩:=zvk hj
   have ho:ops[k]?=some o:=by simpa using h1
   have hon:=hp o ho e.on ⟨e,he,hb,rfl⟩
   rcases hj with rfl | hj
   ·exact hon
   ·exact h e.on S hS (fun o' ho'=>hS _ o' ho' hon) j hj
  ·exact h k
theorem zve{ops:Array Oper}:∀(r:List Oper) (i:Nat),r=ops.toList.drop i->zn8 r i=true->∀k o,i<=k->ops[k]?=some o->∀j,wL o j->j<k:=by
 intro r;induction r with
 | nil=>
  intro i hr _ k o hk ho;have:ops.toList.length<=i:=by rw[<- List.drop_eq_nil_iff];exact hr.symm
  have:=(yaf.1 ho).1
  simp at *;omega
 | cons o r ih=>
  intro i hr h k o' hk ho;obtain⟨h1,h2⟩:=pR hr
  unfold zn8 at h;rw[kC]at h;split at h
  ·rename_i h3
   rcases Nat.eq_or_lt_of_le hk with rfl | hk
   ·have:o'=o:=by
     have:ops[i]?=some o:=by simpa using h1
     rw[this]at ho;exact(ybj ho).symm
    subst this;rintro j ⟨e,he,hb,rfl⟩
    rw[mF,ybc]at h3;have:=h3 e he
    rw[rX,hb]at this;exact oC.1 this
   ·exact ih (i+1) h2 h k o' hk ho
  ·cases h
def WrOk (ops:Array Oper)(i:Nat)(wr:Tr Nat):Prop:=∀d k,wr.get d=some k ↔ k<i/\∃o,ops[k]?=some o/\o.dst=some d
theorem z4f{ops:Array Oper}:∀(r:List Oper) (i:Nat) (t wr:Tr Nat),r=ops.toList.drop i->i<=ops.size->WrOk ops i t->wrOf r i t=some wr->WrOk ops ops.size wr:=by
 intro r;induction r with
 | nil=>
  intro i t wr hr hi h he
  cases he;have:ops.toList.length<=i:=by rw[<- List.drop_eq_nil_iff];exact hr.symm
  have:i=ops.size:=by simp at this;omega
  rw[<- this];exact h
 | cons o r ih=>
  intro i t wr hr hi h he;obtain⟨h1,h2⟩:=pR hr
  have ho:ops[i]?=some o:=by simpa using h1
  have hi':i<ops.size:=(yaf.1 ho).1
  unfold wrOf at he
  cases hd:o.dst with
  | none=>
   rw[hd]at he;refine ih (i+1) t wr h2 hi' (fun d k=>?_) he
   rw[h d k];constructor
   ·rintro⟨a,b⟩;exact⟨by omega,b⟩
   ·rintro⟨a,o',ho',hd'⟩
    refine⟨?_,o',ho',hd'⟩
    rcases Nat.lt_succ_iff_lt_or_eq.1 a with a | rfl
    ·exact a
    ·rw[ho]at ho';cases ho';rw[hd]at hd';cases hd'
  | some d0=>
   rw[hd]at he;simp only[]at he
   cases hg:t.get d0 with
   | some x=>rw[hg]at he;cases he
   | none=>
    rw[hg]at he;refine ih (i+1) _ wr h2 hi' (fun d k=>?_) he
    rw[Tr.get_set];by_cases hdd:d=d0
    ·subst hdd
     rw[if_pos rfl];constructor
     ·intro e;cases e;exact⟨Nat.lt_succ_self _,o,ho,hd⟩
     ·rintro⟨a,o',ho',hd'⟩
      rcases Nat.lt_succ_iff_lt_or_eq.1 a with a | rfl
      ·have:=(h d k).2 ⟨a,o',ho',hd'⟩
       rw[hg]at this;cases this
      ·rfl
    ·rw[if_neg hdd,h d k]
     constructor
     ·rintro⟨a,b⟩;exact⟨by omega,b⟩
     ·rintro⟨a,o',ho',hd'⟩
      refine⟨?_,o',ho',hd'⟩
      rcases Nat.lt_succ_iff_lt_or_eq.1 a with a | rfl
      ·exact a
      ·rw[ho]at ho';cases ho';rw[hd]at hd';cases hd';exact absurd rfl hdd
theorem zz7{ops:Array Oper}{wr anc:Tr Nat}{olds:List (Nat × List Nat)}:∀(r:List Oper) (i:Nat),r=ops.toList.drop i->zz8 wr anc olds r i=true →
  ∀k o,i<=k->ops[k]?=some o->zlh (gJ anc k) o.guard=true/\∀t∈gG o.op,zvd wr anc k (eE k olds) t=true:=by
 intro r;induction r with
 | nil=>
  intro i hr _ k o hk ho;have:ops.toList.length<=i:=by rw[<- List.drop_eq_nil_iff];exact hr.symm
  have:=(yaf.1 ho).1
  simp at *;omega
 | cons o r ih=>
  intro i hr h k o' hk ho;obtain⟨h1,h2⟩:=pR hr
  unfold zz8 at h;rw[kC]at h;split at h
  ·rename_i h3
   rw[kC]at h;split at h
   ·rename_i h4
    rcases Nat.eq_or_lt_of_le hk with rfl | hk
    ·have:o'=o:=by
      have:ops[i]?=some o:=by simpa using h1
      rw[this]at ho;exact(ybj ho).symm
     subst this;rw[mF,ybc]at h4;exact⟨h3,h4⟩
    ·exact ih (i+1) h2 h k o' hk ho
   ·cases h
  ·cases h
structure nP (ops:Array Oper) (olds:List (Nat × List Nat)) (anc:Tr Nat):Prop where
 back:Back ops
 before:∀k,z7u ops k (gJ anc k)
 one:∀(i j:Nat) (o u:Oper) (d:Nat),ops[i]?=some o->ops[j]?=some u->o.dst=some d->u.dst=some d->i=j
 guard:∀(k:Nat) (o:Oper),ops[k]?=some o->zlh (gJ anc k) o.guard=true
 name:∀(k:Nat) (o:Oper) (j:Nat) (u:Oper) (t:Nat),ops[k]?=some o->ops[j]?=some u->u.dst=some t->t∈gG o.op->if t∈eE k olds then j=k\/tb (gJ anc j) k=true else tb (gJ anc k) j=true
theorem zvb{ops:Array Oper}{p:Plan}(h:aN ops p=true):∃anc D,nP ops p.olds anc/\nM ops.toList p.first 0=some D/\sJ ops.toList anc p.stages D=true:=by
 change zlg ops.toList p=true at h
 unfold zlg at h;rw[kC]at h;split at h
 case isFalse=>cases h
 rename_i hb
 cases hw:wrOf ops.toList 0 .leaf with
 | none=>rw[hw]at h;cases h
 | some wr=>
  rw[hw]at h;simp only[]at h;rw[kC]at h;split at h
  case isFalse=>cases h
  rename_i ho
  cases hl:nM ops.toList p.first 0 with
  | none=>rw[hl]at h;cases h
  | some D=>
   rw[hl]at h;have wo:WrOk ops ops.size wr:=z4f _ 0 _ _ rfl (Nat.zero_le _) (fun d k=>by simp[Tr.get_leaf]) hw
   have oo:=zz7 _ 0 (by rfl) ho
   have wr':∀k o d,ops[k]?=some o->o.dst=some d->wr.get d=some k:=fun k o d h1 h2=>(wo d k).2 ⟨(yaf.1 h1).1,o,h1,h2⟩
   refine⟨_,D,⟨fun i o h1=>zve _ 0 rfl hb i o (Nat.zero_le _) h1,z16 _ 0 _ rfl fun k S _ _ j hj=>?_,?_,fun k o h1=>(oo k o (Nat.zero_le _) h1).1,?_⟩,rfl,h⟩
   ·rw[zw3,zf4]at hj;cases hj
   ·intro i j o u d h1 h2 h3 h4
    have a:=wr' i o d h1 h3
    rw[wr' j u d h2 h4]at a;exact(ybj a).symm
   ·intro k o j u t h1 h2 h3 h4
    have a:=(oo k o (Nat.zero_le _) h1).2 t h4
    unfold zvd at a;rw[wr' j u t h2 h3]at a;simp only[]at a;rw[kC]at a;by_cases hm:vH t (eE k p.olds)=true
    ·rw[if_pos hm]at a
     rw[if_pos ((xQ _ _).1 hm)]
     rw[kC]at a;split at a
     ·rename_i e;exact .inl (wC.1 e)
     ·exact .inr a
    ·rw[if_neg hm]at a
     rw[if_neg fun e=>hm ((xQ _ _).2 e)]
     exact a
theorem kW{ops:Array Oper}{i D D':Nat}(h:yQ ops.toList i D=some D'):∃o,ops[i]?=some o/\tb D i=false/\(∀j,wL o j->tb D j=true)/\∀k,tb D' k=(tb D k||k == i):=by
 unfold yQ at h;rw[mA]at h;obtain⟨o,h1,h2⟩:=h
 rw[bD]at h1;rw[mB]at h2;obtain⟨h2,h3⟩:=h2
 cases h3;rw[kC]at h2;split at h2
 ·cases h2
 ·rename_i h4
  refine⟨o,by simpa using h1,by simpa using h4,?_,fun k=>by rw[z2h,znc];congr 1;exact Bool.beq_comm⟩
  rintro j ⟨e,he,hb,rfl⟩
  unfold topo at h2;rw[mF,ybc]at h2;have:=h2 e he
  rw[rX,hb]at this;exact this
theorem zvc{ops:Array Oper}{h D:Nat}:∀(r:List Oper) (i:Nat),r=ops.toList.drop i->zn7 h D r i=true →
  ∀k o,i<=k->ops[k]?=some o->tb D k=false->(∀j,wL o j->tb D j=true)->k=h:=by
 intro r;induction r with
 | nil=>
  intro i hr _ k o hk ho;have:ops.toList.length<=i:=by rw[<- List.drop_eq_nil_iff];exact hr.symm
  have:=(yaf.1 ho).1
  simp at *;omega
 | cons o r ih=>
  intro i hr h k o' hk ho;obtain⟨h1,h2⟩:=pR hr
  unfold zn7 at h;rw[kC]at h;split at h
  ·rename_i h3
   rcases Nat.eq_or_lt_of_le hk with rfl | hk
   ·have:o'=o:=by
     have:ops[i]?=some o:=by simpa using h1
     rw[this]at ho;exact(ybj ho).symm
    subst this;intro hD hj;rw[hD]at h3;simp only[cond_false]at h3;rw[kC]at h3;split at h3
    ·rename_i e;exact wC.1 e
    ·exfalso
     have:topo D o'=true:=by
      unfold topo;rw[mF,ybc];intro e he
      cases hb:zdq e with
      | false=>rfl
      | true=>exact hj e.on ⟨e,he,by rw[<- rX];exact hb,rfl⟩
     rw[this]at h3;cases h3
   ·exact ih (i+1) h2 h k o' hk ho
  ·cases h
theorem zql{ops:Array Oper}{m D:Nat}{again:List Nat}:∀(r:List Oper) (i:Nat),r=ops.toList.drop i->zgl m D again r i=true →
  ∀k o,i<=k->ops[k]?=some o->tb D k=true->tb m k=true\/zgf o.op=true\/xK o.op=true\/k∈again:=by
 intro r;induction r with
 | nil=>
  intro i hr _ k o hk ho;have:ops.toList.length<=i:=by rw[<- List.drop_eq_nil_iff];exact hr.symm
  have:=(yaf.1 ho).1
  simp at *;omega
 | cons o r ih=>
  intro i hr h k o' hk ho;obtain⟨h1,h2⟩:=pR hr
  unfold zgl at h;rw[kC]at h;split at h
  ·rename_i h3
   rcases Nat.eq_or_lt_of_le hk with rfl | hk
   ·have:o'=o:=by
     have:ops[i]?=some o:=by simpa using h1
     rw[this]at ho;exact(ybj ho).symm
    subst this;intro hD;rw[hD]at h3;simp only[cond_true]at h3;rw[kC]at h3;split at h3
    ·rename_i e;exact .inl e
    ·rw[kC]at h3
     split at h3
     ·rename_i e;exact .inr (.inl e)
     ·rw[kC]at h3
      split at h3
      ·rename_i e;exact .inr (.inr (.inl e))
      ·exact .inr (.inr (.inr ((xQ _ _).1 h3)))
   ·exact ih (i+1) h2 h k o' hk ho
  ·cases h
theorem zz9{ops:Array Oper}{D:Nat}:∀(r:List Oper) (i:Nat),r=ops.toList.drop i->z0a D r i=true->∀k,i<=k->k<ops.size->tb D k=true:=by
 intro r;induction r with
 | nil=>
  intro i hr _ k hk ho;have:ops.toList.length<=i:=by rw[<- List.drop_eq_nil_iff];exact hr.symm
  simp at *;omega
 | cons o r ih=>
  intro i hr h k hk ho;obtain⟨h1,h2⟩:=pR hr
  unfold z0a at h;rw[kC]at h;split at h
  ·rename_i h3
   rcases Nat.eq_or_lt_of_le hk with rfl | hk
   ·exact h3
   ·exact ih (i+1) h2 h k hk ho
  ·cases h
theorem zir{ops:Array Oper}{anc:Tr Nat}{D:Nat}(h:sJ ops.toList anc [] D=true):∀k,k<ops.size->tb D k=true:=
 fun k hk=>zz9 _ 0 rfl h k (Nat.zero_le _) hk
theorem sY{ops:Array Oper}{anc:Tr Nat}{D:Nat}{st:qG}{r:List qG}(h:sJ ops.toList anc (st::r) D=true)(hlt:st.heavy<=ops.size) :
  (∀k o,ops[k]?=some o->tb D k=false->(∀j,wL o j->tb D j=true)->k=st.heavy) ∧
  (∀k o,ops[k]?=some o->tb D k=true->tb (gJ anc st.heavy) k=true\/zgf o.op=true\/xK o.op=true\/k∈st.again) ∧
  ∃D1 D2,yQ ops.toList st.heavy D=some D1/\nM ops.toList st.lights D1=some D2/\sJ ops.toList anc r D2=true:=by
 unfold sJ at h;rw[kC,if_neg fun e=>by have:=oC.1 e;rw[fD]at this;simp at this;omega,kC]at h
 split at h
 case isFalse=>cases h
 rename_i h1;rw[kC]at h;split at h
 case isFalse=>cases h
 rename_i h2;refine⟨fun k o a b c=>zvc _ 0 rfl h1 k o (Nat.zero_le _) a b c,fun k o a b=>zql _ 0 rfl h2 k o (Nat.zero_le _) a b,?_⟩
 cases h3:yQ ops.toList st.heavy D with
 | none=>rw[h3]at h;cases h
 | some D1=>
  rw[h3]at h;simp only[sA]at h
  cases h4:nM ops.toList st.lights D1 with
  | none=>rw[h4]at h;cases h
  | some D2=>rw[h4]at h;exact⟨D1,D2,rfl,h4,h⟩
theorem zd7{ops:Array Oper}{anc:Tr Nat}{D:Nat}{st:qG}{r:List qG}(h:sJ ops.toList anc (st::r) D=true)(hlt:ops.size<st.heavy) :
  ∃o D1 D2,ops[st.heavy-(ops.size+1)]?=some o/\xK o.op=true/\yQ ops.toList (st.heavy-(ops.size+1)) D=some D1/\nM ops.toList st.lights D1=some D2/\sJ ops.toList anc r D2=true:=by
 have e0:Nat.sub st.heavy (Nat.succ (wB ops.toList))=st.heavy-(ops.size+1):=by rw[fD];simp
 unfold sJ at h;rw[kC,if_pos (oC.2 (by rw[fD];simpa using hlt)),kC,e0]at h
 split at h
 case isFalse=>cases h
 rename_i h1
 cases h3:yQ ops.toList (st.heavy-(ops.size+1)) D with
 | none=>rw[h3]at h;cases h
 | some D1=>
  rw[h3]at h;simp only[sA]at h
  cases h4:nM ops.toList st.lights D1 with
  | none=>rw[h4]at h;cases h
  | some D2=>
   rw[h4]at h;rw[bD]at h1
   cases ho:ops.toList[st.heavy-(ops.size+1)]? with
   | none=>rw[ho]at h1;cases h1
   | some o=>rw[ho]at h1;exact⟨o,D1,D2,by simpa using ho,h1,rfl,h4,h⟩
end Go.Am
namespace Go.Am
open Go Go.RowKit
section
variable {P:Program}{C:iA}{μ:Mu}{all:Array Oper}{olds:List (Nat × List Nat)}{anc:Tr Nat}{n:Nat}{old tm:Tm}{D:Nat}{S:Nat->Bool}{order:List Nat}{tmps:Array Value}{ds:List Deferred}
theorem mX:rA μ tE undef:=by rw[tE,rA];exact⟨#[],rfl,rfl⟩
theorem zxg{e:xD}(hg:∀g,g<256->μ g=some ⟨g,true,0,0,true⟩)(ht:∀t v,zyu t e=some v->rA μ v (tmps.getD t undef)):tF μ e (Act.eval ⟨tmps,ds⟩):=by
 intro x v h
 cases x with
 | tmp t=>exact ht t v h
 | const c=>exact zli h
 | global g=>
  change zki g e=some v at h
  unfold zki at h;rw[kC]at h;split at h
  ·rename_i hlt
   cases h;rw[rA];exact⟨_,hg g (oC.1 hlt),rfl⟩
  ·cases h
 | func f=>
  change xFunc f e=some v at h
  cases h;rw[rA];exact⟨.func f,#[],#[],rfl,rfl,rfl,rfl⟩
theorem uE.erel(hg:∀g,g<256->μ g=some ⟨g,true,0,0,true⟩)(h:uE μ n tm tmps):tF μ (.now tm) (Act.eval ⟨tmps,ds⟩):=
 zxg hg fun t v hv=>h.2 t v hv
theorem Tm.get_set{t:Tm}{i j:Nat}{x:zA}:(t.set i x).get j=if j=i then some x else t.get j:=by
 unfold Tm.set Tm.get;simp only[jH];by_cases h:Nat.blt i t.k=true
 ·rw[if_pos h]
  simp only[];by_cases hj:j=i
  ·subst hj;rw[if_pos h,if_pos rfl,Tr.get_set,if_pos rfl]
  ·rw[if_neg hj,Tr.get_set,if_neg hj]
 ·rw[if_neg h]
  simp only[];have as:z15 j ((i,x)::t.t)=if j=i then some x else z15 j t.t:=by
   show(Bool.rec (motive:=fun _=>Option zA) (z15 j t.t) (some x) (Nat.beq j i))=_
   rw[jH];by_cases hj:j=i
   ·rw[if_pos (wC.2 hj),if_pos hj]
   ·rw[if_neg (fun e=>hj (wC.1 e)),if_neg hj]
  by_cases hj:j=i
  ·subst hj;rw[if_neg h,if_pos rfl,as,if_pos rfl]
  ·rw[if_neg hj]
   rw[as,if_neg hj]
theorem yI{dst:Option Nat}{v:zA}{t:Nat}:(putA n tm dst v).get t=if dst=some t/\t<n then some v else tm.get t:=by
 unfold putA putB
 cases dst with
 | none=>simp[putNo]
 | some d=>
  simp only[zz2];rw[kC];by_cases h:Nat.blt d n=true
  ·rw[if_pos h,Tm.get_set]
   by_cases e:t=d
   ·subst e;rw[if_pos rfl,if_pos ⟨rfl,oC.1 h⟩]
   ·rw[if_neg e,if_neg fun k=>e (ybj k.1).symm]
  ·rw[if_neg h,if_neg]
   rintro⟨e,h2⟩
   cases e
   exact h (oC.2 h2)
def oM(tm old:Tm)(olds:List (Nat × List Nat))(i:Nat)(o:Oper):xD:=.mixed tm old (eE i olds) (gG o.op)
structure cG (μ:Mu) (all:Array Oper) (olds:List (Nat × List Nat)) (anc:Tr Nat) (n:Nat) (old tm:Tm) (D:Nat) (S:Nat->Bool) (order:List Nat) (tmps:Array Value):Prop where
 reg:nP all olds anc
 sched:z2a all S order
 sub:∀i,S i=true->tb D i=true
 closed:iQ all S
 dclosed:iQ all (tb D)
 size:tmps.size=n
 now:∀(i:Nat) (o:Oper) (d:Nat) (v:zA),all[i]?=some o->o.dst=some d->S i=true->d<n->tm.get d=some v->rA μ v (tmps.getD d undef)
 past:∀(d:Nat) (v:zA),d<n->(∀(i:Nat) (o:Oper),all[i]?=some o->o.dst=some d->S i=false)->old.get d=some v->rA μ v (tmps.getD d undef)
 keep:∀d:Nat,d<n->(∀(i:Nat) (o:Oper),all[i]?=some o->o.dst=some d->tb D i=false)->tm.get d=old.get d
 big:∀(d:Nat) (v:zA),n<=d->(tm.get d=some v\/old.get d=some v)->rA μ v undef
theorem nP.up(R:nP all olds anc)(hS:iQ all S){i j:Nat}{o:Oper}(ho:all[i]?=some o)(hp:∀j,wL o j->S j=true)(h:tb (gJ anc i) j=true):S j=true:=
 R.before i S hS (fun o' ho'=>by rw[ho]at ho';cases ho';exact hp) j h
theorem nV{d:Nat}(h:tmps.size<=d):tmps.getD d undef=undef:=by
 simp[Array.getD,Nat.not_lt.2 h]
theorem cG.erel(R:cG μ all olds anc n old tm D S order tmps)(hg:∀g,g<256->μ g=some ⟨g,true,0,0,true⟩){i:Nat}{o:Oper}(ho:all[i]?=some o)(hi:S i=false)(hp:∀j,wL o j->S j=true) :
  tF μ (oM tm old olds i o) (Act.eval ⟨tmps,ds⟩):=by
 refine zxg hg fun t v h=>?_
 unfold oM at h;simp only[zyu]at h;rw[kC]at h;split at h
 case isFalse=>cases h
 rename_i hn;have hn:=(xQ _ _).1 hn
 by_cases hd:t<n
 ·by_cases hw:∃(j:Nat) (u:Oper),all[j]?=some u/\u.dst=some t
  ·obtain⟨j,u,hu,hud⟩:=hw
   have nm:=R.reg.name i o j u t ho hu hud hn
   by_cases hold:t∈eE i olds
   ·rw[if_pos hold]at nm
    rw[(xQ _ _).2 hold]at h
    simp only[cond_true]at h;have hj:S j=false:=by
     rcases nm with rfl | nm
     ·exact hi
     ·cases hj:S j with
      | false=>rfl
      | true=>
       have:=R.reg.up R.closed hu (fun k hk=>R.closed j u hu hj k hk) nm
       rw[hi]at this;cases this
    refine R.past t v hd (fun i' o' ho' hd'=>?_) h
    have:=R.reg.one i' j o' u t ho' hu hd' hud
    rw[this];exact hj
   ·rw[if_neg hold]at nm
    have:vH t (eE i olds)=false:=by
     cases hm:vH t (eE i olds)with
     | false=>rfl
     | true=>exact absurd ((xQ _ _).1 hm) hold
    rw[this]at h;simp only[cond_false]at h;exact R.now j u t v hu hud (R.reg.up R.closed ho hp nm) hd h
  ·have none1:∀(i:Nat) (o:Oper),all[i]?=some o->o.dst=some t->S i=false:=fun i o h1 h2=>absurd ⟨i,o,h1,h2⟩ hw
   have k:=R.keep t hd fun i o h1 h2=>absurd ⟨i,o,h1,h2⟩ hw
   refine R.past t v hd none1 ?_
   cases hm:vH t (eE i olds)with
   | false=>rw[hm]at h;rw[<- k];exact h
   | true=>rw[hm]at h;exact h
 ·rw[nV (by rw[R.size];omega)]
  refine R.big t v (by omega) ?_
  cases hm:vH t (eE i olds)with
  | false=>rw[hm]at h;exact .inl h
  | true=>rw[hm]at h;exact .inr h
theorem zhn{v:zA}{b:Bool}(h:rA μ v (.bool b)):v=.bool b:=by
 cases v<;>rw[rA]at h
 case bool=>cases h;rfl
 all_goals simp at h
theorem cG.wanted(R:cG μ all olds anc n old tm D S order tmps){i:Nat}{o:Oper}{w:Bool}(ho:all[i]?=some o)(hp:∀j,wL o j->S j=true)(h:pF o.guard all tm=some w) :
  Region.wanted o (yielded all tmps)=w:=by
 have hgd:=R.reg.guard i o ho
 unfold pF zr8 at h;unfold Region.wanted
 cases hg:o.guard with
 | none=>rw[hg]at h;cases h;rfl
 | some jw=>
  obtain⟨j,want⟩:=jw
  rw[hg]at h hgd;simp only[zhm,mA,bD]at h;obtain⟨d,⟨u,hu,hud⟩,v,hv,h⟩:=h
  have hu':all[j]?=some u:=by simpa using hu
  have hj:S j=true:=R.reg.up R.closed ho hp hgd
  have hy:yielded all tmps j=match tmps[d]? with | some (.bool b)=>some b | _=>none:=by
   unfold yielded;rw[hu'];simp[hud]
   rfl
  simp only[];rw[hy];by_cases hd:d<n
  ·have hs:d<tmps.size:=by rw[R.size];exact hd
   have rel:=R.now j u d v hu' hud hj hd hv
   have e1:tmps[d]?=some (tmps.getD d undef):=by simp[Array.getD,hs]
   rw[e1];generalize tmps.getD d undef=x at rel
   cases hb:v.asBool with
   | some b=>
    rw[hb]at h;have:v=.bool b:=by cases v<;>simp[zA.asBool]at hb;rw[hb]
    rw[this,rA]at rel;subst rel;simp only[Option.some.injEq]at h;rw[<- h,nQ]
    cases b<;>cases want<;>rfl
   | none=>
    rw[hb]at h
    cases h
    cases x with
    | bool b=>rw[zhn rel]at hb;cases hb
    | _=>rfl
  ·have e1:tmps[d]?=none:=by simp[R.size];omega
   rw[e1];have rel:=R.big d v (by omega) (.inl hv)
   cases hb:v.asBool with
   | some b=>
    have:v=.bool b:=by cases v<;>simp[zA.asBool]at hb;rw[hb]
    rw[this,rA]at rel
    cases rel
   | none=>rw[hb]at h;cases h;rfl
theorem cG.did{i:Nat}{D':Nat}{tm':Tm}{v:zA}{v':Value}{o:Oper}(R:cG μ all olds anc n old tm D S (i::order) tmps)(ho:all[i]?=some o)
  (hD:∀k,tb D' k=(tb D k||k == i)) (hput:∀d,o.dst=some d->d<n->tm'.get d=some v) (hother:∀d,(o.dst=some d->n<=d)->tm'.get d=tm.get d) (hv:rA μ v v') :
  cG μ all olds anc n old tm' D' (fun k=>S k||k == i) order (Act.put ⟨tmps,ds⟩ o.dst v').tmps:=by
 obtain⟨o',ho',hi,hp,hs⟩:=R.sched
 rw[ho]at ho';cases ho'
 have htm:∀d,(Act.put ⟨tmps,ds⟩ o.dst v').tmps.getD d undef=if o.dst=some d/\d<n then v' else tmps.getD d undef:=by
  intro d;unfold Act.put
  cases hd:o.dst with
  | none=>simp
  | some d0=>
   simp only[yby,ybt];by_cases e:d0=d
   ·subst e
    by_cases hn:d0<n
    ·simp[hn,R.size]
    ·simp[hn,R.size]
   ·simp[e]
 have hsz:(Act.put ⟨tmps,ds⟩ o.dst v').tmps.size=n:=by
  unfold Act.put
  cases o.dst<;>simp[R.size]
 refine⟨R.reg,hs,fun k hk=>?_,?_,?_,hsz,?_,?_,?_,?_⟩
 ·rw[hD]
  simp only[ybr]at hk ⊢
  exact hk.imp (R.sub k) id
 ·intro k u hu hk j hj
  simp only[ybr,beq_iff_eq]at hk ⊢
  rcases hk with hk | rfl
  ·exact .inl (R.closed k u hu hk j hj)
  ·rw[ho]at hu;cases hu
   exact .inl (hp j hj)
 ·intro k u hu hk j hj
  rw[hD]at hk ⊢
  simp only[ybr,beq_iff_eq]at hk ⊢
  rcases hk with hk | rfl
  ·exact .inl (R.dclosed k u hu hk j hj)
  ·rw[ho]at hu;cases hu
   exact .inl (R.sub j (hp j hj))
 ·intro k u d x hu hud hk hd hx
  rw[htm];by_cases e:o.dst=some d
  ·rw[if_pos ⟨e,hd⟩]
   rw[hput d e hd]at hx;cases hx;exact hv
  ·rw[if_neg fun h=>e h.1]
   rw[hother d fun h=>absurd h e]at hx;refine R.now k u d x hu hud ?_ hd hx
   simp only[ybr,beq_iff_eq]at hk;rcases hk with hk | rfl
   ·exact hk
   ·rw[ho]at hu;cases hu;exact absurd hud e
 ·intro d x hd hw hx
  rw[htm];have e:o.dst≠some d:=fun e=>by
   have:=hw i o ho e
   simp at this
  rw[if_neg fun h=>e h.1];refine R.past d x hd (fun k u hu hud=>?_) hx
  have:=hw k u hu hud
  simp only[Bool.or_eq_false_iff]at this;exact this.1
 ·intro d hd hw
  have e:o.dst≠some d:=fun e=>by
   have:=hw i o ho e
   rw[hD]at this;simp at this
  rw[hother d fun h=>absurd h e];refine R.keep d hd fun k u hu hud=>?_
  have:=hw k u hu hud
  rw[hD]at this;simp only[Bool.or_eq_false_iff]at this;exact this.1
 ·intro d x hd hx
  refine R.big d x hd ?_
  rw[hother d fun _=>hd]at hx;exact hx
end
end Go.Am
namespace Go.Am.HM
open Go Go.Am
def HLe (H H':pA):Prop:=∀b y,H.t.get b=some y->H'.t.get b=some y
section
variable {H HA:pA}{e:xD}{C:iA}{v:zA}
theorem dM(h:HLe H HA){b:Nat}{p:Tr zA × Nat × Option Nat}(hb:rD H b=some p):rD HA b=some p:=by
 unfold rD at hb ⊢;rw[mA]at hb ⊢;obtain⟨y,h1,h2⟩:=hb;exact⟨y,h _ _ h1,h2⟩
theorem gV(h:HLe H HA){b:Nat}{p:List (zA × zA)}(hb:iL H b=some p):iL HA b=some p:=by
 unfold iL at hb ⊢;rw[mA]at hb ⊢;obtain⟨y,h1,h2⟩:=hb;exact⟨y,h _ _ h1,h2⟩
theorem zat(h:HLe H HA){s d:wD}{a:zA}(hx:lN C s d a H=some v):lN C s d a HA=some v:=by
 unfold lN at hx ⊢
 split at hx
 ·rename_i k hk;exact hx
 ·rename_i hk
  rw[mB]at hx ⊢
  refine⟨hx.1,?_⟩
  have hx:=hx.2
  rw[kC]at hx ⊢
  split at hx
  ·rename_i e;rw[if_pos e];exact hx
  ·rename_i e
   rw[if_neg e];simp only[mA,mB]at hx ⊢
   obtain⟨a1,h1,b1,h2,k1,h3,h4,h5⟩:=hx
   refine⟨a1,h1,b1,h2,k1,h3,h4,?_⟩
   unfold iV at h5 ⊢
   split at h5
   ·simp only[mA]at h5 ⊢
    obtain⟨c,g1,g2⟩:=h5
    exact⟨c,dM h g1,g2⟩
   ·exact h5
theorem zd4(h:HLe H HA){b size cap l:Nat}{arr:Bool}(hx:xH H b size cap l arr=true):xH HA b size cap l arr=true:=by
 unfold xH at hx ⊢
 cases hc:rD H b with
 | none=>rw[hc]at hx;cases hx
 | some c=>rw[hc]at hx;rw[dM h hc];exact hx
theorem wZ(h:HLe H HA){ty:wD}{a:zA}{l r:Option zA}(hx:yK C H ty a l r=some v):yK C HA ty a l r=some v:=by
 have row:∀ {arr e b off len cap},gK C H arr e b off len cap l r=some v->gK C HA arr e b off len cap l r=some v:=by
  intro arr e b off len cap hx;unfold gK at hx ⊢
  simp only[mA]at hx ⊢
  obtain⟨a1,h1,b1,h2,hx⟩:=hx
  refine⟨a1,h1,b1,h2,?_⟩
  cases hb:rD H b with
  | none=>
   have e1:mH H b a1.size cap b1.1 arr=false:=by unfold mH;rw[hb]
   have e2:xH H b a1.size cap b1.1 arr=false:=by unfold xH;rw[hb]
   rw[e1,e2,Bool.and_false,Bool.and_false]at hx
   cases hx
  | some c=>
   have e1:mH HA b a1.size cap b1.1 arr=mH H b a1.size cap b1.1 arr:=by unfold mH;rw[hb,dM h hb]
   have e2:xH HA b a1.size cap b1.1 arr=xH H b a1.size cap b1.1 arr:=by unfold xH;rw[hb,dM h hb]
   rw[e1,e2];exact hx
 unfold yK at hx ⊢
 split at hx
 ·exact hx
 ·split at hx
  ·rw[mA]at hx ⊢;obtain⟨a1,h1,h2⟩:=hx;exact⟨a1,h1,row h2⟩
  ·split at hx
   ·rw[mA]at hx ⊢;obtain⟨a1,h1,h2⟩:=hx;exact⟨a1,h1,row h2⟩
   ·exact hx
theorem zaq(h:HLe H HA){m:zA}{l:List (zA × zA)}(hx:zd8 H m=some l):zd8 HA m=some l:=by
 unfold zd8 at hx ⊢
 split at hx
 ·exact gV h hx
 ·exact hx
theorem zcz(h:HLe H HA){ty:wD}{a:zA}{n:Nat}(hx:zv4 H ty a=some n):zv4 HA ty a=some n:=by
 unfold zv4 at hx ⊢
 split at hx
 ·exact hx
 ·split at hx
  ·exact hx
  ·split at hx
   ·exact hx
   ·split at hx
    ·rw[mB,mA]at hx ⊢
     obtain⟨h1,l,h2,h3⟩:=hx
     exact⟨h1,l,gV h h2,h3⟩
    ·exact hx
theorem alight_mono(h:HLe H HA){o:Op}(hx:(kF o).f C e H=some v):(kF o).f C e HA=some v:=by
 cases o<;>first | exact hx | skip
 case makeFunc fn a b=>cases fn<;>exact hx
 case load t a=>
  change qN t a C e H=some v at hx
  show qN t a C e HA=some v
  unfold qN at hx ⊢
  simp only[mA]at hx ⊢
  obtain⟨a1,h1,p,h2,y,h3,c,h4,h5⟩:=hx
  exact⟨a1,h1,p,h2,y,h3,c,dM h h4,h5⟩
 case convert s d x=>
  change nL s d x C e H=some v at hx
  show nL s d x C e HA=some v
  unfold nL at hx ⊢
  simp only[mA]at hx ⊢
  obtain⟨a1,h1,b1,h2,c1,h3,h4⟩:=hx
  exact⟨a1,h1,b1,h2,c1,h3,zat h h4⟩
 case slice t x lo hi mx=>
  cases mx with
  | some m=>exact hx
  | none=>
   change sR t x lo hi C e H=some v at hx
   show sR t x lo hi C e HA=some v
   unfold sR at hx ⊢
   simp only[mA]at hx ⊢
   obtain⟨a1,h1,b1,h2,c1,h3,d1,h4,h5⟩:=hx
   exact⟨a1,h1,b1,h2,c1,h3,d1,h4,wZ h h5⟩
 case lookup t x i ok=>
  change aO t x i ok C e H=some v at hx
  show aO t x i ok C e HA=some v
  unfold aO at hx ⊢
  simp only[mA,mB]at hx ⊢
  obtain⟨a1,h1,b1,h2,c1,h3,h4,d1,h5,m,h6,es,h7,h8⟩:=hx
  exact⟨a1,h1,b1,h2,c1,h3,h4,d1,h5,m,h6,es,zaq h h7,h8⟩
 case call c=>
  change (wO c c.callee).f C e H=some v at hx
  show(wO c c.callee).f C e HA=some v
  cases hc:c.callee with
  | builtin b=>
   rw[hc]at hx
   cases b<;>first | exact hx | skip
   case len=>
    change zoi c C e H=some v at hx
    show zoi c C e HA=some v
    unfold zoi at hx ⊢
    simp only[mA]at hx ⊢
    obtain⟨a1,h1,b1,h2,c1,h3,d1,h4,n,h5,h6⟩:=hx
    exact⟨a1,h1,b1,h2,c1,h3,d1,h4,n,zcz h h5,h6⟩
  | _=>rw[hc]at hx;exact hx
end
end Go.Am.HM
namespace Go.Am
open Go Go.RowKit
theorem zmv{o:Op}(h:zgf o=true)(C:iA)(e:xD)(H H':pA):(kF o).f C e H=(kF o).f C e H':=by
 cases o<;>first | (simp[zgf]at h;done) | rfl | skip
 case makeFunc fn a b=>cases fn<;>rfl
theorem zka{e e':xD}(h:∀x,ev x e=ev x e')(o:Op)(C:iA)(H:pA):(kF o).f C e H=(kF o).f C e' H:=by
 have hs:∀l,evs l e=evs l e':=fun l=>by unfold evs;rw[funext h]
 have hp:∀l,evp l e=evp l e':=fun l=>by unfold evp;simp only[h]
 have ho:∀x,evo x e=evo x e':=fun x=>by cases x<;>simp[evo,h]
 cases o<;>first | rfl | skip
 case move x=>exact h x
 case assign x=>exact h x
 case pick c a b=>simp only[kF,zv8,h]
 case load t a=>simp only[kF,qN,h]
 case nilCheck x=>simp only[kF,z0p,h]
 case binOp op t x y z=>simp only[kF,bK,h]
 case unOp op t x=>simp only[kF,lUn,h]
 case convert s d x=>simp only[kF,nL,h]
 case makeInterface t x=>simp only[kF,sS,h]
 case makeFunc fn a b=>cases fn<;>simp only[kF,rS,zwh,zgo,hs]
 case slice t x lo hi mx=>cases mx<;>simp only[kF,dW,sR,zgo,h,ho]
 case fieldAddr s x f=>simp only[kF,xP,h]
 case field t x f=>simp only[kF,qS,h]
 case indexAddr t x i=>simp only[kF,zP,h]
 case index t x i=>simp only[kF,yP,h]
 case extract t i=>simp only[kF,wP,h]
 case build t ps=>simp only[kF,wQ,hp]
 case typeAssert x a u ok=>simp only[kF,vP,h]
 case lookup t x i ok=>simp only[kF,aO,h]
 case call c=>
  have h2:two c e=two c e':=by unfold two;split<;>simp only[h]
  simp only[kF,lCall]
  cases c.callee with
  | builtin b=>cases b<;>simp only[wO,zgp,zgo,zoi,zwd,zwb,h,h2]
  | _=>rfl
theorem zo0{e e':xD}(h:∀t,zyu t e=zyu t e')(x:Operand):ev x e=ev x e':=by
 cases x with
 | tmp t=>exact h t
 | _=>rfl
theorem zco{tm tm' old:Tm}{olds:List (Nat × List Nat)}{i:Nat}{o:Oper}(h:∀t∈gG o.op,t∉eE i olds->tm'.get t=tm.get t)(C:iA)(H:pA) :
  (kF o.op).f C (oM tm' old olds i o) H=(kF o.op).f C (oM tm old olds i o) H:=by
 refine zka (zo0 fun t=>?_) _ _ _
 simp only[oM,zyu]
 cases hn:vH t (gG o.op)with
 | false=>rfl
 | true=>
  cases hm:vH t (eE i olds)with
  | true=>rfl
  | false=>exact h t ((xQ _ _).1 hn) fun k=>by rw[(xQ _ _).2 k]at hm;cases hm
section
variable {P:Program}{C:iA}{μ:Mu}{H H':pA}{all:Array Oper}{olds:List (Nat × List Nat)}{anc:Tr Nat}{n:Nat}{old tm tm':Tm}{D:Nat}{S:Nat->Bool}{order:List Nat}{tmps:Array Value}{ds:List Deferred}
structure lK (C:iA) (H:pA) (all:Array Oper) (olds:List (Nat × List Nat)) (n:Nat) (old tm:Tm) (i:Nat) (o:Oper) (w:Bool) (v:zA):Prop where
 op:all[i]?=some o
 want:pF o.guard all tm=some w
 val:if w=true then(kF o.op).f C (oM tm old olds i o) H=some v else v=tE
 put:∀d,o.dst=some d->d<n->tm.get d=some v
theorem lK.pure{i:Nat}{o:Oper}{w:Bool}{v:zA}(h:lK C H all olds n old tm i o w v)(hp:zgf o.op=true)(H':pA):lK C H' all olds n old tm i o w v:=
 ⟨h.op,h.want,by have:=h.val;cases w with | false=>exact this | true=>rw[if_pos rfl]at this ⊢;rw[<- this];exact zmv hp _ _ _ _,h.put⟩
theorem oW(R:nP all olds anc)(hD:iQ all (tb D)){i k:Nat}{o u:Oper}(ho:all[i]?=some o)(hi:tb D i=true\/(i=k/\∀j,wL o j->tb D j=true))(hu:all[k]?=some u)(hk:tb D k=false) :
  (∀t∈gG o.op,t∉eE i olds->u.dst≠some t)/\(∀j w,o.guard=some (j,w)->∀g,all[j]?=some g->∀d,g.dst=some d->u.dst≠some d):=by
 have up:∀j,tb (gJ anc i) j=true->tb D j=true:=fun j hj=>R.up hD ho (by
  rcases hi with hi | ⟨_,hi⟩
  ·exact fun j hj=>hD i o ho hi j hj
  ·exact hi) hj
 constructor
 ·intro t ht hto e
  have:=R.name i o k u t ho hu e ht
  rw[if_neg hto]at this;have:=up k this
  rw[hk]at this;cases this
 ·intro j w hg g hgj d hd e
  have h1:=R.guard i o ho
  rw[hg]at h1;have h2:=up j h1
  have:=R.one j k g u d hgj hu hd e
  rw[this,hk]at h2;cases h2
theorem bV{o:Oper}(h:∀j w,o.guard=some (j,w)->∀g,all[j]?=some g->∀d,g.dst=some d->tm'.get d=tm.get d):pF o.guard all tm'=pF o.guard all tm:=by
 unfold pF zr8
 cases hg:o.guard with
 | none=>rfl
 | some jw=>
  obtain⟨j,w⟩:=jw
  simp only[zhm,bD]
  cases hj:all.toList[j]? with
  | none=>rfl
  | some g=>
   simp only[sA]
   cases hd:g.dst with
   | none=>rfl
   | some d=>simp only[sA];rw[h j w hg g (by simpa using hj) d hd]
theorem lK.keep(R:nP all olds anc)(hD:iQ all (tb D)){i k:Nat}{o u:Oper}{w:Bool}{v x:zA}(h:lK C H all olds n old tm i o w v)(hi:tb D i=true)(hu:all[k]?=some u)(hk:tb D k=false) :
  lK C H all olds n old (putA n tm u.dst x) i o w v:=by
 obtain⟨r1,r2⟩:=oW R hD h.op (.inl hi) hu hk
 refine⟨h.op,?_,?_,?_⟩
 ·rw[bV (tm:=tm) fun j w hg g hj d hd=>by rw[yI,if_neg fun e=>r2 j w hg g hj d hd e.1]]
  exact h.want
 ·have:=h.val
  cases w with
  | false=>exact this
  | true=>
   rw[if_pos rfl]at this ⊢
   rw[zco (tm:=tm) fun t ht hto=>by rw[yI,if_neg fun e=>r1 t ht hto e.1]]
   exact this
 ·intro d hd hn
  rw[yI,if_neg]
  ·exact h.put d hd hn
  ·rintro⟨e,_⟩
   have:=R.one i k o u d h.op hu hd e
   rw[this,hk]at hi;cases hi
theorem lK.grow{i:Nat}{o:Oper}{w:Bool}{v:zA}(h:lK C H all olds n old tm i o w v)(hle:HM.HLe H H'):lK C H' all olds n old tm i o w v:=
 ⟨h.op,h.want,by have:=h.val;cases w with | false=>exact this | true=>rw[if_pos rfl]at this ⊢;exact HM.alight_mono hle this,h.put⟩
structure mP (C:iA) (μ:Mu) (dp:Nat) (all:Array Oper) (olds:List (Nat × List Nat)) (n:Nat) (old tm:Tm) (i:Nat) (o:Oper) (v:zA):Prop where
 op:all[i]?=some o
 flo:xK o.op=true
 want:pF o.guard all tm=some true
 val:∃H0 l,(bE o.op).f C (oM tm old olds i o) H0=.val v (nF H0 l none)/\μ.pd H0.next=some (.cells (Tr.ofList l) (wB l) none,dp,i)
 put:∀d,o.dst=some d->d<n->tm.get d=some v
structure Mu.ln (dp:Nat) (μ ν:Mu):Prop where
 f:∀a i,μ a=some i->ν a=some i
 pd:∀a x j,μ.pd a=some (x,dp,j)->ν.pd a=some (x,dp,j)
instance {dp:Nat} {μ ν:Mu}:CoeOut (μ.ln dp ν) (μ.lw ν):=⟨Mu.ln.f⟩
theorem Mu.le.ln{μ ν:Mu}(h:μ.le ν)(dp:Nat):μ.ln dp ν:=⟨h.f,fun a x j k=>by rw[h.pd];exact k⟩
instance {dp:Nat} {μ ν:Mu}:Coe (μ.le ν) (μ.ln dp ν):=⟨fun h=>h.ln dp⟩
theorem Mu.ln_refl(μ:Mu)(dp:Nat):μ.ln dp μ:=⟨fun _ _ h=>h,fun _ _ _ h=>h⟩
theorem Mu.ln_trans{dp:Nat}{a b c:Mu}(h:a.ln dp b)(k:b.ln dp c):a.ln dp c:=⟨fun x i hx=>k.f x i (h.f x i hx),fun x y j hx=>k.pd x y j (h.pd x y j hx)⟩
theorem mP.mono{ν:Mu}{dp:Nat}(h:μ.ln dp ν){i:Nat}{o:Oper}{v:zA}(p:mP C μ dp all olds n old tm i o v):mP C ν dp all olds n old tm i o v:=by
 obtain⟨H0,l,h1,h2⟩:=p.val
 exact⟨p.op,p.flo,p.want,⟨H0,l,h1,h.pd _ _ _ h2⟩,p.put⟩
theorem cZ{tm tm' old:Tm}{i:Nat}{o:Oper}(hf:xK o.op=true)(h:∀t∈gG o.op,t∉eE i olds->tm'.get t=tm.get t)(C:iA)(H:pA) :
  (bE o.op).f C (oM tm' old olds i o) H=(bE o.op).f C (oM tm old olds i o) H:=by
 refine zlz (zo0 fun t=>?_) hf _
 simp only[oM,zyu]
 cases hn:vH t (gG o.op)with
 | false=>rfl
 | true=>
  cases hm:vH t (eE i olds)with
  | true=>rfl
  | false=>exact h t ((xQ _ _).1 hn) fun k=>by rw[(xQ _ _).2 k]at hm;cases hm
theorem mP.keep{dp:Nat}(R:nP all olds anc)(hD:iQ all (tb D)){i k:Nat}{o u:Oper}{v x:zA}(h:mP C μ dp all olds n old tm i o v)(hi:tb D i=true)(hu:all[k]?=some u)(hk:tb D k=false) :
  mP C μ dp all olds n old (putA n tm u.dst x) i o v:=by
 obtain⟨r1,r2⟩:=oW R hD h.op (.inl hi) hu hk
 obtain⟨H0,l,h1,h2⟩:=h.val
 refine⟨h.op,h.flo,?_,⟨H0,l,?_,h2⟩,?_⟩
 ·rw[bV (tm:=tm) fun j w hg g hj d hd=>by rw[yI,if_neg fun e=>r2 j w hg g hj d hd e.1]]
  exact h.want
 ·rw[cZ (tm:=tm) h.flo fun t ht hto=>by rw[yI,if_neg fun e=>r1 t ht hto e.1]]
  exact h1
 ·intro d hd hn
  rw[yI,if_neg]
  ·exact h.put d hd hn
  ·rintro⟨e,_⟩
   have:=R.one i k o u d h.op hu hd e
   rw[this,hk]at hi;cases hi
theorem mP.fresh{dp:Nat}(R:nP all olds anc)(hD:iQ all (tb D)){i:Nat}{o:Oper}{v:zA}(ho:all[i]?=some o)(hp:∀j,wL o j->tb D j=true)(hi:tb D i=false)
  (hf:xK o.op=true) (hw:pF o.guard all tm=some true) (hv:∃H0 l,(bE o.op).f C (oM tm old olds i o) H0=.val v (nF H0 l none)/\μ.pd H0.next=some (.cells (Tr.ofList l) (wB l) none,dp,i)) :
  mP C μ dp all olds n old (putA n tm o.dst v) i o v:=by
 obtain⟨r1,r2⟩:=oW R hD ho (.inr ⟨rfl,hp⟩) ho hi
 obtain⟨H0,l,h1,h2⟩:=hv
 refine⟨ho,hf,?_,⟨H0,l,?_,h2⟩,?_⟩
 ·rw[bV (tm:=tm) fun j w hg g hj d hd=>by rw[yI,if_neg fun e=>r2 j w hg g hj d hd e.1]]
  exact hw
 ·rw[cZ (tm:=tm) hf fun t ht hto=>by rw[yI,if_neg fun e=>r1 t ht hto e.1]]
  exact h1
 ·intro d hd hn
  rw[yI,if_pos ⟨hd,hn⟩]
theorem lK.fresh(R:nP all olds anc)(hD:iQ all (tb D)){i:Nat}{o:Oper}{w:Bool}{v:zA}(ho:all[i]?=some o)(hp:∀j,wL o j->tb D j=true)(hi:tb D i=false)
  (hw:pF o.guard all tm=some w) (hv:if w=true then(kF o.op).f C (oM tm old olds i o) H=some v else v=tE) :
  lK C H all olds n old (putA n tm o.dst v) i o w v:=by
 obtain⟨r1,r2⟩:=oW R hD ho (.inr ⟨rfl,hp⟩) ho hi
 refine⟨ho,?_,?_,?_⟩
 ·rw[bV (tm:=tm) fun j w hg g hj d hd=>by rw[yI,if_neg fun e=>r2 j w hg g hj d hd e.1]]
  exact hw
 ·cases w with
  | false=>exact hv
  | true=>
   rw[if_pos rfl]at hv ⊢
   rw[zco (tm:=tm) fun t ht hto=>by rw[yI,if_neg fun e=>r1 t ht hto e.1]]
   exact hv
 ·intro d hd hn
  rw[yI,if_pos ⟨hd,hn⟩]
theorem cG.light{i:Nat}{o:Oper}{v:zA}{D':Nat}(R:cG μ all olds anc n old tm D S order tmps)(ho:all[i]?=some o)(hi:tb D i=false)(hp:∀j,wL o j->tb D j=true)(hD:∀k,tb D' k=(tb D k||k == i)) :
  cG μ all olds anc n old (putA n tm o.dst v) D' S order tmps:=by
 refine⟨R.reg,R.sched,fun k hk=>by rw[hD,R.sub k hk];rfl,R.closed,?_,R.size,?_,R.past,?_,?_⟩
 ·intro k u hu hk j hj
  rw[hD]at hk ⊢
  simp only[ybr,beq_iff_eq]at hk ⊢
  rcases hk with hk | rfl
  ·exact .inl (R.dclosed k u hu hk j hj)
  ·rw[ho]at hu;cases hu
   exact .inl (hp j hj)
 ·intro k u d x hu hud hk hd hx
  rw[yI,if_neg]at hx
  ·exact R.now k u d x hu hud hk hd hx
  ·rintro⟨e,_⟩
   have:=R.reg.one k i u o d hu ho hud e
   have hk':=R.sub k hk
   rw[this,hi]at hk';cases hk'
 ·intro d hd hw
  rw[yI,if_neg]
  ·refine R.keep d hd fun k u hu hud=>?_
   have:=hw k u hu hud
   rw[hD]at this;simp only[Bool.or_eq_false_iff]at this;exact this.1
  ·rintro⟨e,_⟩
   have:=hw i o ho e
   rw[hD]at this;simp at this
 ·intro d x hd hx
  refine R.big d x hd ?_
  rw[yI,if_neg fun e=>absurd e.2 (by omega)]at hx
  exact hx
theorem cG.mono{ν:Mu}(hm:μ.lw ν)(R:cG μ all olds anc n old tm D S order tmps):cG ν all olds anc n old tm D S order tmps:=
 ⟨R.reg,R.sched,R.sub,R.closed,R.dclosed,R.size,fun i o d v a b c e f=>(R.now i o d v a b c e f).mono hm _ _,fun d v a b c=>(R.past d v a b c).mono hm _ _,R.keep,fun d v a b=>(R.big d v a b).mono hm _ _⟩
end
end Go.Am
namespace Go.Am
open Go Go.RowKit
section steps
variable {P:Program}{fr b:Frame}{a:Act}{k:List Item}{cs:List Frame}{w w':World}{s:Sem Next}{ops:Array Oper}
theorem zmq{v:Value}(hr:s.run P w=.ok (.value v) w') :
  (stepG.apply P true fr cs none s w).bare=.go { frame:=fr.finish v,callers:=cs,status:=.running,dying:=none } w':=by
 simp[stepG.apply,Sem.runT_eq,hr]
theorem zrl(hr:s.run P w=.ok .skip w') :
  (stepG.apply P true fr cs none s w).bare=.go { frame:=fr.finish undef,callers:=cs,status:=.running,dying:=none } w':=by
 simp[stepG.apply,Sem.runT_eq,hr]
theorem zZ{i:Nat}{rest:List Nat}{o:Oper}{v:Value}(ho:ops[i]?=some o)(hw:Region.wanted o (yielded ops a.tmps)=true)
  (hr:(o.semAt b.roundOf a.eval).run P w=.ok (.value v) w') :
  step P (lone (b.atR a (.inRegion ops (i::rest)::k)) cs w)=.next (lone (b.atR (a.put o.dst v) (.inRegion ops rest::k)) cs w'):=by
 have:=Frame.finish_atR b a ops i rest k v
 rw[ho]at this;simp only[Option.bind_some]at this;rw[<- this];exact step_lone_go (by rw[stepGR_op ho hw];exact zmq hr)
theorem zf5{i:Nat}{rest:List Nat}{o:Oper}(ho:ops[i]?=some o)(hw:Region.wanted o (yielded ops a.tmps)=true)
  (hr:(o.semAt b.roundOf a.eval).run P w=.ok .skip w') :
  step P (lone (b.atR a (.inRegion ops (i::rest)::k)) cs w)=.next (lone (b.atR (a.put o.dst undef) (.inRegion ops rest::k)) cs w'):=by
 have:=Frame.finish_atR b a ops i rest k undef
 rw[ho]at this;simp only[Option.bind_some]at this;rw[<- this];exact step_lone_go (by rw[stepGR_op ho hw];exact zrl hr)
theorem yZ{i:Nat}{rest:List Nat}{o:Oper}(ho:ops[i]?=some o)(hw:Region.wanted o (yielded ops a.tmps)=false) :
  step P (lone (b.atR a (.inRegion ops (i::rest)::k)) cs w)=.next (lone (b.atR (a.put o.dst undef) (.inRegion ops rest::k)) cs w):=by
 have:=stepR_op_skip (P:=P) (b:=b) (a:=a) (k:=k) (cs:=cs) (w:=w) (ops:=ops) (i:=i) (rest:=rest) (by rw[ho];simpa using hw)
 rw[this,ho];rfl
end steps
mutual
theorem zk9:∀(d:Nat) (a b:zA),same d a b=true->a=b
 | d,a,b,h=>by
  cases a<;>cases b<;>cases d<;>simp[same,nQ,jJ,zc8,sP,Nat.beq_eq]at h ⊢
  all_goals first
   | exact h
   | (obtain⟨h1,h2⟩:=h;exact⟨h1,h2⟩)
   | exact zgc _ _ _ h
   | (obtain⟨⟨⟨h1,h2⟩,h3⟩,h4⟩:=h;exact⟨h1,h2,h3,h4⟩)
theorem zgc:∀(d:Nat) (a b:List zA),same.sames d a b=true->a=b
 | d,[],[],_=>rfl
 | d,a::x,b::y,h=>by
  simp only[same.sames,yac]at h;rw[zk9 d a b h.1,zgc d x y h.2]
 | d,[],b::y,h=>by simp[same.sames]at h
 | d,a::x,[],h=>by simp[same.sames]at h
end
section
variable {P:Program}{C:iA}{B N:Nat}{μ:Mu}{H H':pA}{w:World}{all:Array Oper}{olds:List (Nat × List Nat)}{anc:Tr Nat}{n:Nat}{old tm tm':Tm}{D D':Nat}{S:Nat->Bool}{order:List Nat}{tmps:Array Value}{ds:List Deferred}{dp:Nat}
def tK(C:iA)(μ:Mu)(dp:Nat)(H:pA)(all:Array Oper)(olds:List (Nat × List Nat))(n:Nat)(old tm:Tm)(D:Nat)(S:Nat->Bool):Prop:=
 ∀i,tb D i=true->S i=false->(∃o w v,lK C H all olds n old tm i o w v)\/∃o v,mP C μ dp all olds n old tm i o v
theorem zar:∀(l:List Nat) (tm:Tm) (D:Nat),yO C H all n old olds l tm=some tm'->nM all.toList l D=some D'->cG μ all olds anc n old tm D S order tmps->tK C μ dp H all olds n old tm D S →
  cG μ all olds anc n old tm' D' S order tmps/\tK C μ dp H all olds n old tm' D' S:=by
 intro l;induction l with
 | nil=>intro tm D h hD R hp;cases h;cases hD;exact⟨R,hp⟩
 | cons i l ih=>
  intro tm D h hD R hp;unfold yO at h;unfold nM at hD;rw[mA]at hD;obtain⟨D1,h1,hD⟩:=hD
  simp only[mA,bD]at h;obtain⟨o,ho,wn,hw,v,hv,h⟩:=h
  obtain⟨o',ho',hi,hb,hD1⟩:=kW h1
  have ho2:all[i]?=some o:=by simpa using ho
  rw[ho2]at ho';cases ho'
  have hval:if wn=true then(kF o.op).f C (oM tm old olds i o) H=some v else v=tE:=by
   cases wn with
   | true=>rw[if_pos rfl];exact hv
   | false=>rw[if_neg (by simp)];exact(ybj hv).symm
  refine ih _ _ h hD (R.light ho2 hi hb hD1) fun j hj hSj=>?_
  rw[hD1]at hj;simp only[ybr,beq_iff_eq]at hj;rcases hj with hj | rfl
  ·rcases hp j hj hSj with⟨u,wu,vu,pu⟩ | ⟨u,vu,pu⟩
   ·exact .inl ⟨u,wu,vu,pu.keep R.reg R.dclosed hj ho2 hi⟩
   ·exact .inr ⟨u,vu,pu.keep R.reg R.dclosed hj ho2 hi⟩
  ·exact .inl ⟨o,wn,v,lK.fresh R.reg R.dclosed ho2 hb hi hw hval⟩
structure Weak (all:Array Oper) (n:Nat) (tm:Tm) (i:Nat) (o:Oper) (w:Bool) (v:zA):Prop where
 op:all[i]?=some o
 want:pF o.guard all tm=some w
 val:w=false->v=tE
 put:∀d,o.dst=some d->d<n->tm.get d=some v
theorem zyj:∀(l:List Nat),zT C H all old olds tm l=true->∀i∈l,∀o w v,Weak all n tm i o w v->∃v,lK C H all olds n old tm i o w v:=by
 intro l;induction l with
 | nil=>intro _ i hi;cases hi
 | cons j l ih=>
  intro h i hi o w v W;unfold zT at h;split at h
  case h_2=>cases h
  rename_i hx;rcases yat.1 hi with rfl | hi
  ·simp only[mA,bD]at hx
   obtain⟨o',ho',d,hd,wn,hw,hx⟩:=hx
   have ho2:all[i]?=some o':=by simpa using ho'
   rw[W.op]at ho2;cases ho2;rw[W.want]at hw;cases hw
   cases w with
   | false=>exact⟨v,W.op,W.want,by rw[if_neg (by simp)];exact W.val rfl,W.put⟩
   | true=>
    simp only[cond_true,mA]at hx;obtain⟨v1,hv1,u,hu,hs⟩:=hx
    have e:=zk9 _ _ _ (ybj hs)
    refine⟨v1,W.op,W.want,by rw[if_pos rfl];exact hv1,fun d' hd' hn=>?_⟩
    rw[hd]at hd';cases hd'
    rw[hu,e]
  ·exact ih h i hi o w v W
end
end Go.Am
namespace Go.Am
open Go Go.RowKit
section
variable {P:Program}{C:iA}{B N:Nat}{μ:Mu}{H H':pA}{w:World}{all:Array Oper}{olds:List (Nat × List Nat)}{anc:Tr Nat}{n:Nat}{old tm tm':Tm}{D D':Nat}{S:Nat->Bool}{order:List Nat}{tmps:Array Value}{ds:List Deferred}{dp:Nat}
variable {b:Frame}{k:List Item}{cs:List Frame}
structure zhk (B N dp:Nat) (μ:Mu) (H:pA) (w:World) (μ':Mu) (w':World):Prop where
 heap:oB B N μ' H w'
 le:μ.lw μ'
 pd:∀d,d≠dp->μ.ln d μ'
 below:Below N w w'
theorem zhk.refl(hH:oB B N μ H w):zhk B N dp μ H w μ w:=⟨hH,fun _ _ h=>h,fun d _=>μ.ln_refl d,Below.refl _ _⟩
theorem zhk.trans{μ1 μ2:Mu}{w1 w2:World}(h:zhk B N dp μ H w μ1 w1)(k:zhk B N dp μ1 H w1 μ2 w2):zhk B N dp μ H w μ2 w2:=
 ⟨k.heap,fun a i e=>k.le a i (h.le a i e),fun d hd=>Mu.ln_trans (h.pd d hd) (k.pd d hd),h.below.trans k.below⟩
theorem zn6(hT:aF P C)(hH:oB B N μ H w){i:Nat}(R:cG μ all olds anc n old tm D S (i::order) tmps)(hp:tK C μ dp H all olds n old tm D S)(hi:tb D i=true) :
  ∃S' tmps' μ' w',step P (lone (b.atR ⟨tmps,ds⟩ (.inRegion all (i::order)::k)) cs w)=.next (lone (b.atR ⟨tmps',ds⟩ (.inRegion all order::k)) cs w')/\zhk B N dp μ H w μ' w' ∧
   cG μ' all olds anc n old tm D S' order tmps'/\tK C μ' dp H all olds n old tm D S':=by
 obtain⟨o,ho,hS,hb,_⟩:=R.sched
 have hDD:∀k,tb D k=(tb D k||k == i):=by
  intro k;by_cases e:k=i
  ·subst e;rw[hi];rfl
  ·have:(k == i)=false:=by simpa using e
   rw[this,Bool.or_false]
 have ds':∀v',Act.put ⟨tmps,ds⟩ o.dst v'=⟨(Act.put ⟨tmps,ds⟩ o.dst v').tmps,ds⟩:=by intro v';unfold Act.put;cases o.dst<;>rfl
 rcases hp i hi hS with⟨o',wn,v,pd⟩ | ⟨o',v,pd⟩
 ·have:=pd.op
  rw[ho]at this;cases this
  have hw:=R.wanted ho hb pd.want
  have rest:∀v',rA μ v v'->cG μ all olds anc n old tm D (fun k=>S k||k == i) order (Act.put ⟨tmps,ds⟩ o.dst v').tmps/\tK C μ dp H all olds n old tm D (fun k=>S k||k == i):=by
   intro v' hv;refine⟨R.did ho hDD pd.put (fun _ _=>rfl) hv,fun j hj hSj=>hp j hj ?_⟩
   simp only[Bool.or_eq_false_iff]at hSj;exact hSj.1
  cases wn with
  | false=>
   have hv:=pd.val
   rw[if_neg (by simp)]at hv
   subst hv;obtain⟨r1,r2⟩:=rest undef mX
   refine⟨_,_,μ,w,?_,.refl hH,r1,r2⟩
   rw[<- ds'];exact yZ (a:=⟨tmps,ds⟩) ho hw
  | true=>
   have hv:=pd.val
   rw[if_pos rfl]at hv;obtain⟨v',h1,h2⟩:=zyi hT hH (R.erel (ds:=ds) hH.glob ho hS hb) hv
   obtain⟨r1,r2⟩:=rest v' h2
   refine⟨_,_,μ,w,?_,.refl hH,r1,r2⟩
   rw[<- ds'];refine zZ (a:=⟨tmps,ds⟩) ho hw ?_
   rw[Oper.semAt_eq]
   ·exact h1
   ·intro c e
    rw[e]at hv
    cases hv
 ·have:=pd.op
  rw[ho]at this;cases this
  have hw:=R.wanted ho hb pd.want
  obtain⟨H0,l,h1,h2⟩:=pd.val
  obtain⟨l',vs,v',elem,e1,run,hl,hv⟩:=z07 (P:=P) (w:=w) hT (R.erel (ds:=ds) hH.glob ho hS hb) o pd.flo h1
  have e2:nF H0 l none=nF H0 l' none:=e1
  have p1:=(hH.pnd _ _ _ h2).1
  have lg:∀c,(μ.land H0.next ⟨w.heap.size,true,0,0,false⟩) c=if c=H0.next then some ⟨w.heap.size,true,0,0,false⟩else μ c:=fun _=>rfl
  have hle:μ.lw (μ.land H0.next ⟨w.heap.size,true,0,0,false⟩):=fun c j hj=>by
   rw[lg,if_neg fun e=>by rw[e,p1]at hj;cases hj];exact hj
  have hlp:∀c x d j,(d≠dp\/j≠i)->μ.pd c=some (x,d,j)->(μ.land H0.next ⟨w.heap.size,true,0,0,false⟩).pd c=some (x,d,j):=by
   intro c x d j hne hc;show(if c=H0.next then none else μ.pd c)=_
   rw[if_neg]
   ·exact hc
   ·intro e
    rw[e,h2]at hc
    cases hc;rcases hne with h | h<;>exact h rfl
  have hblk:(lA.cells (Tr.ofList l) (wB l) none)=.cells (Tr.ofList l') (wB l') none:=by
   have h3:(nF H0 l none).t.get H0.next=(nF H0 l' none).t.get H0.next:=by rw[e2]
   have hg:∀m,(nF H0 m none).t.get H0.next=some (.cells (Tr.ofList m) (wB m) none):=fun m=>by
    show(H0.t.set H0.next _).get H0.next=_
    rw[Tr.get_set,if_pos rfl]
   rw[hg,hg]at h3;exact ybj h3
  have hH':oB B N (μ.land H0.next ⟨w.heap.size,true,0,0,false⟩) H (w.alloc (.cells vs elem)):=by
   refine hH.late h2 rfl rfl ?_
   rw[hblk];have:=(rB.mono hle _ _ hl).rel_one (i:=⟨w.heap.size,true,0,0,false⟩) rfl (elem:=elem)
   rwa [Array.toArray_toList]at this
  have hvr:=hv (μ.land H0.next ⟨w.heap.size,true,0,0,false⟩) ⟨w.heap.size,true,0,0,false⟩ (by rw[lg,if_pos rfl]) rfl rfl
  refine⟨fun k=>S k||k == i,(Act.put ⟨tmps,ds⟩ o.dst v').tmps,μ.land H0.next ⟨w.heap.size,true,0,0,false⟩,w.alloc (.cells vs elem),?_,⟨hH',hle,fun d hd=>⟨hle,fun c x j hc=>hlp c x d j (.inl hd) hc⟩,cM hH.size _⟩,
   (R.mono hle).did ho hDD pd.put (fun _ _=>rfl) hvr,fun j hj hSj=>?_⟩
  ·rw[<- ds']
   refine zZ (a:=⟨tmps,ds⟩) ho hw ?_
   rw[Oper.semAt_eq]
   ·exact run
   ·intro c e
    have:=pd.flo
    rw[e]at this
    cases this
  ·simp only[Bool.or_eq_false_iff,beq_eq_false_iff_ne]at hSj
   rcases hp j hj hSj.1 with h | ⟨u,vu,pu⟩
   ·exact .inl h
   ·refine .inr ⟨u,vu,pu.op,pu.flo,pu.want,?_,pu.put⟩
    obtain⟨H1,m,g1,g2⟩:=pu.val
    exact⟨H1,m,g1,hlp _ _ _ _ (.inr hSj.2) g2⟩
theorem reach(hT:aF P C){st:qG}{r:List qG}(hst:sJ all.toList anc (st::r) D=true)(hlt:st.heavy<=all.size):∀(order:List Nat) (S:Nat->Bool) (tmps:Array Value) (μ:Mu) (w:World),oB B N μ H w →
  cG μ all olds anc n old tm D S order tmps->tK C μ dp H all olds n old tm D S →
  ∃S' order' tmps' μ' w',Steps P (lone (b.atR ⟨tmps,ds⟩ (.inRegion all order::k)) cs w) (lone (b.atR ⟨tmps',ds⟩ (.inRegion all (st.heavy::order')::k)) cs w')/\zhk B N dp μ H w μ' w' ∧
   cG μ' all olds anc n old tm D S' (st.heavy::order') tmps'/\tK C μ' dp H all olds n old tm D S':=by
 obtain⟨only,_,D1,D2,h1,_⟩:=sY hst hlt
 obtain⟨oh,hoh,hh,hbh,_⟩:=kW h1
 intro order;induction order with
 | nil=>
  intro S tmps μ w _ R hp;have:=R.sub _ (R.sched st.heavy (yaf.1 hoh).1)
  rw[hh]at this;cases this
 | cons i order ih=>
  intro S tmps μ w hH R hp
  cases hi:tb D i with
  | true=>
   obtain⟨S',tmps',μ1,w1,s1,g1,r1,p1⟩:=zn6 (b:=b) (k:=k) (cs:=cs) (ds:=ds) hT hH R hp hi
   obtain⟨S2,order',tmps2,μ2,w2,s2,g2,r2⟩:=ih S' tmps' μ1 w1 g1.heap r1 p1
   exact⟨S2,order',tmps2,μ2,w2,.head s1 s2,g1.trans g2,r2⟩
  | false=>
   obtain⟨o,ho,hS,hb,_⟩:=R.sched
   have:=only i o ho hi fun j hj=>R.sub j (hb j hj)
   subst this;exact⟨S,order,tmps,μ,w,.refl _ _,.refl hH,R,hp⟩
theorem regEnd(hT:aF P C)(hst:sJ all.toList anc [] D=true):∀(order:List Nat) (S:Nat->Bool) (tmps:Array Value) (μ:Mu) (w:World),oB B N μ H w →
  cG μ all olds anc n old tm D S order tmps->tK C μ dp H all olds n old tm D S →
  ∃tmps' μ' w',Steps P (lone (b.atR ⟨tmps,ds⟩ (.inRegion all order::k)) cs w) (lone (b.atR ⟨tmps',ds⟩ k) cs w')/\zhk B N dp μ H w μ' w'/\uE μ' n tm tmps':=by
 have full:=zir hst
 intro order;induction order with
 | nil=>
  intro S tmps μ w hH R hp;refine⟨tmps,μ,w,.one stepR_region_end,.refl hH,R.size,fun t v hv=>?_⟩
  by_cases hn:t<n
  ·by_cases hw:∃(j:Nat) (u:Oper),all[j]?=some u/\u.dst=some t
   ·obtain⟨j,u,hu,hud⟩:=hw
    exact R.now j u t v hu hud (R.sched j (yaf.1 hu).1) hn hv
   ·have k:=R.keep t hn fun i o h1 h2=>absurd ⟨i,o,h1,h2⟩ hw
    exact R.past t v hn (fun i o h1 h2=>absurd ⟨i,o,h1,h2⟩ hw) (by rw[<- k];exact hv)
  ·rw[nV (by rw[R.size];omega)]
   exact R.big t v (by omega) (.inl hv)
 | cons i order ih=>
  intro S tmps μ w hH R hp;obtain⟨o,ho,_⟩:=R.sched
  obtain⟨S',tmps',μ1,w1,s1,g1,r1,p1⟩:=zn6 (b:=b) (k:=k) (cs:=cs) (ds:=ds) hT hH R hp (full i (yaf.1 ho).1)
  obtain⟨tmps2,μ2,w2,s2,g2,r2⟩:=ih S' tmps' μ1 w1 g1.heap r1 p1
  exact⟨tmps2,μ2,w2,.head s1 s2,g1.trans g2,r2⟩
theorem zzy(hM:P.follows .mixedOrders=true){anc:Tr Nat}(hR:nP all olds anc)(ht:uE μ n old tmps)(t:Nat) :
  cG μ all olds anc n old old 0 (fun _=>false) (Region.schedule (P.follows .mixedOrders) all t) tmps/\tK C μ dp H all olds n old old 0 (fun _=>false):=by
 refine⟨⟨hR,?_,fun i h=>(by cases h),fun i o _ h=>(by cases h),fun i o _ h=>(by rw[zf4]at h;cases h),ht.1,fun i o d v _ _ h=>(by cases h),fun d v _ _ h=>ht.2 d v h,fun _ _ _=>rfl,fun d v hd h=>?_⟩,fun i h=>(by rw[zf4]at h;cases h)⟩
 ·rw[hM]
  unfold Region.schedule;simp only[Bool.true_or,if_true];have:=zzu hR.back all.size t (Array.replicate all.size false) (by simp) (by
   refine Nat.le_trans (List.countP_le_length) ?_
   simp)
  have e:(fun i=>(Array.replicate all.size false).getD i false)=fun _=>false:=by
   funext i
   simp only[yby,Array.getElem?_replicate];split<;>rfl
  rw[e]at this;exact this
 ·have h':old.get d=some v:=h.elim id id
  have:=ht.2 d v h'
  rw[nV (by rw[ht.1];exact hd)]at this
  exact this
def mQ(C:iA)(μ:Mu)(dp:Nat)(all:Array Oper)(olds:List (Nat × List Nat))(n:Nat)(old tm:Tm)(D:Nat)(S:Nat->Bool)(again:List Nat):Prop:=
 ∀i,tb D i=true->S i=false->(∃o w v,(∀H,lK C H all olds n old tm i o w v)\/(i∈again/\Weak all n tm i o w v))\/∃o v,mP C μ dp all olds n old tm i o v
theorem lK.float{i:Nat}{o:Oper}{w:Bool}{v:zA}(h:lK C H all olds n old tm i o w v)(hf:xK o.op=true)(H':pA):lK C H' all olds n old tm i o w v:=by
 refine⟨h.op,h.want,?_,h.put⟩
 have:=h.val
 cases w with
 | false=>exact this
 | true=>
  rw[if_pos rfl]at this;exfalso
  obtain⟨dst,op,type,pos,after,guard⟩:=o
  cases op<;>first | (simp[xK]at hf;done) | cases this
theorem zr7{again:List Nat}(hw:mQ C μ dp all olds n old tm D S again)(ha:zT C H all old olds tm again=true):tK C μ dp H all olds n old tm D S:=by
 intro i hi hS;rcases hw i hi hS with⟨o,w,v,h | ⟨h1,h2⟩⟩ | h
 ·exact .inl ⟨o,w,v,h H⟩
 ·obtain⟨v,h⟩:=zyj (C:=C) (H:=H) (olds:=olds) (old:=old) again ha i h1 o w v h2
  exact .inl ⟨o,w,v,h⟩
 ·exact .inr h
end
end Go.Am
namespace Go.Am
open Go Go.RowKit
section
variable {P:Program}{C:iA}{B N:Nat}{μ:Mu}{H H':pA}{w:World}{all:Array Oper}{olds:List (Nat × List Nat)}{anc:Tr Nat}{n:Nat}{old tm tm':Tm}{D D':Nat}{S:Nat->Bool}{order:List Nat}{tmps:Array Value}{ds:List Deferred}{dp:Nat}
theorem Weak.keep(R:nP all olds anc)(hD:iQ all (tb D)){i k:Nat}{o u:Oper}{w:Bool}{v x:zA}(h:Weak all n tm i o w v)(hi:tb D i=true)(hu:all[k]?=some u)(hk:tb D k=false) :
  Weak all n (putA n tm u.dst x) i o w v:=by
 obtain⟨_,r2⟩:=oW R hD h.op (.inl hi) hu hk
 refine⟨h.op,?_,h.val,?_⟩
 ·rw[bV (tm:=tm) fun j w hg g hj d hd=>by rw[yI,if_neg fun e=>r2 j w hg g hj d hd e.1]]
  exact h.want
 ·intro d hd hn
  rw[yI,if_neg]
  ·exact h.put d hd hn
  ·rintro⟨e,_⟩
   have:=R.one i k o u d h.op hu hd e
   rw[this,hk]at hi;cases hi
theorem toWeak{st:qG}{r:List qG}(hst:sJ all.toList anc (st::r) D=true)(hlt:st.heavy<=all.size)(R:cG μ all olds anc n old tm D S (st.heavy::order) tmps)(hp:tK C μ dp H all olds n old tm D S) :
  mQ C μ dp all olds n old tm D S st.again:=by
 obtain⟨_,ag,_⟩:=sY hst hlt
 intro i hDi hSi;rcases hp i hDi hSi with⟨u,wu,vu,pu⟩ | h
 rotate_left
 ·exact .inr h
 refine .inl ⟨u,wu,vu,?_⟩
 rcases ag i u pu.op hDi with h | h | h | h
 ·obtain⟨o,ho,_,hb,_⟩:=R.sched
  have:=R.reg.up R.closed ho hb h
  rw[hSi]at this;cases this
 ·exact .inl fun H=>pu.pure h H
 ·exact .inl fun H=>pu.float h H
 ·exact .inr ⟨h,pu.op,pu.want,fun e=>by have:=pu.val;rw[e]at this;simpa using this,pu.put⟩
theorem zy2{h:Nat}{again:List Nat}{D1:Nat}{o:Oper}{v:zA}{v':Value}(h1:yQ all.toList h D=some D1)(ho:all[h]?=some o)
  (R:cG μ all olds anc n old tm D S (h::order) tmps) (hp:mQ C μ dp all olds n old tm D S again) (hv:rA μ v v') :
  cG μ all olds anc n old (putA n tm o.dst v) D1 (fun k=>S k||k == h) order (Act.put ⟨tmps,ds⟩ o.dst v').tmps/\mQ C μ dp all olds n old (putA n tm o.dst v) D1 (fun k=>S k||k == h) again:=by
 obtain⟨o',ho',hi,hb,hD1⟩:=kW h1
 rw[ho]at ho';cases ho'
 refine⟨R.did ho hD1 (fun d hd hn=>by rw[yI,if_pos ⟨hd,hn⟩]) (fun d hd=>by rw[yI,if_neg fun e=>absurd (hd e.1) (by omega)]) hv,fun i hDi hSi=>?_⟩
 simp only[Bool.or_eq_false_iff,beq_eq_false_iff_ne]at hSi;rw[hD1]at hDi;simp only[ybr,beq_iff_eq]at hDi;have hDi:=hDi.resolve_right hSi.2
 rcases hp i hDi hSi.1 with⟨u,wu,vu,pu⟩ | ⟨u,vu,pu⟩
 ·exact .inl ⟨u,wu,vu,pu.imp (fun pu H=>(pu H).keep R.reg R.dclosed hDi ho hi) (fun pu=>⟨pu.1,pu.2.keep R.reg R.dclosed hDi ho hi⟩)⟩
 ·exact .inr ⟨u,vu,pu.keep R.reg R.dclosed hDi ho hi⟩
inductive sK (C:iA) (μ:Mu) (dp:Nat) (n:Nat):Option pA->List mD->Tm->List Item->Array Value->Prop
 | plain {cur:Option pA} {todo:List mD} {tm:Tm} {btodo:List Item} {tmps:Array Value}:aC (vG μ) todo btodo->uE μ n tm tmps->sK C μ dp n cur todo tm btodo tmps
 | reg {H:pA} {all:Array Oper} {old tm:Tm} {olds:List (Nat × List Nat)} {stages:List qG} {k:List mD} {order:List Nat} {k':List Item} {tmps:Array Value} {anc:Tr Nat} {D:Nat} {S:Nat->Bool} :
   cG μ all olds anc n old tm D S order tmps->sJ all.toList anc stages D=true->tK C μ dp H all olds n old tm D S->aC (vG μ) k k' →
   sK C μ dp n (some H) (.reg all old olds stages::k) tm (.inRegion all order::k') tmps
 | mid {cur:Option pA} {all:Array Oper} {old tm:Tm} {olds:List (Nat × List Nat)} {lights again:List Nat} {stages:List qG} {k:List mD} {order:List Nat} {k':List Item} {tmps:Array Value} {anc:Tr Nat} {D D2:Nat} {S:Nat->Bool} :
   cG μ all olds anc n old tm D S order tmps->nM all.toList lights D=some D2->sJ all.toList anc stages D2=true->mQ C μ dp all olds n old tm D S again->aC (vG μ) k k' →
   sK C μ dp n cur (.reg all old olds (⟨all.size,lights,again⟩::stages)::k) tm (.inRegion all order::k') tmps
 | wait {all:Array Oper} {old tm:Tm} {olds:List (Nat × List Nat)} {st:qG} {stages:List qG} {k:List mD} {order:List Nat} {k':List Item} {tmps:Array Value} {anc:Tr Nat} {D:Nat} {S:Nat->Bool} :
   cG μ all olds anc n old tm D S (st.heavy::order) tmps->sJ all.toList anc (st::stages) D=true->st.heavy<=all.size->mQ C μ dp all olds n old tm D S st.again->aC (vG μ) k k' →
   sK C μ dp n none (.reg all old olds (st::stages)::k) tm (.inRegion all (st.heavy::order)::k') tmps
theorem tK.mono{ν:Mu}(h:μ.ln dp ν)(p:tK C μ dp H all olds n old tm D S):tK C ν dp H all olds n old tm D S:=
 fun i h1 h2=>(p i h1 h2).imp id fun⟨o,v,q⟩=>⟨o,v,q.mono h⟩
theorem mQ.mono{ν:Mu}{again:List Nat}(h:μ.ln dp ν)(p:mQ C μ dp all olds n old tm D S again):mQ C ν dp all olds n old tm D S again:=
 fun i h1 h2=>(p i h1 h2).imp id fun⟨o,v,q⟩=>⟨o,v,q.mono h⟩
theorem sK.mono{ν:Mu}(h:μ.ln dp ν){cur:Option pA}{todo:List mD}{btodo:List Item}(R:sK C μ dp n cur todo tm btodo tmps):sK C ν dp n cur todo tm btodo tmps:=by
 have mk:∀ {k:List mD} {k':List Item},aC (vG μ) k k'->aC (vG ν) k k':=fun k=>aC.mono (fun _ _ r=>vG.mono h r) k
 cases R with
 | plain a b=>exact .plain (mk a) (b.mono h)
 | reg a b c d=>exact .reg (a.mono h) b (c.mono h) (mk d)
 | mid a b c d e=>exact .mid (a.mono h) b c (d.mono h) (mk e)
 | wait a b b' c d=>exact .wait (a.mono h) b b' (c.mono h) (mk d)
end
end Go.Am
namespace Go.Am
open Go Go.RowKit
section
variable {P:Program}{C:iA}{B N:Nat}{μ ν:Mu}{H H':pA}{w:World}{n:Nat}{tm:Tm}{tmps:Array Value}{ds:List Deferred}{dp:Nat}
theorem uE.put{v:zA}{v':Value}{dst:Option Nat}(h:uE μ n tm tmps)(hv:rA μ v v'):uE μ n (putA n tm dst v) (Act.put ⟨tmps,ds⟩ dst v').tmps:=by
 cases dst with
 | none=>exact h
 | some d=>
  refine⟨by simp[Act.put,h.1],fun t x hx=>?_⟩
  rw[yI]at hx;simp only[Act.put,yby,ybt];by_cases e:d=t
  ·subst e
   by_cases hn:d<n
   ·rw[if_pos ⟨rfl,hn⟩]at hx
    cases hx;simp[h.1,hn,hv]
   ·rw[if_neg fun k=>hn k.2]at hx
    have:=h.2 d x hx
    rw[nV (by rw[h.1];omega)]at this
    simp[h.1,hn,this]
  ·rw[if_neg fun k=>e (ybj k.1)]at hx
   have:=h.2 t x hx
   rw[yby]at this;simpa[e]using this
structure uI (C:iA) (μ:Mu) (dp:Nat) (cur:Option pA) (fr:vC) (b:Frame):Prop where
 rest:jG μ fr.R b
 body:if fr.R.mode.running=true then sK C μ dp fr.R.n cur fr.todo fr.tm b.todo b.tmps else uE μ fr.R.n fr.tm b.tmps
theorem uI.mono(h:μ.ln dp ν){cur:Option pA}{fr:vC}{b:Frame}(r:uI C μ dp cur fr b):uI C ν dp cur fr b:=by
 refine⟨r.rest.mono h,?_⟩
 have:=r.body
 split at this
 ·rename_i e;rw[if_pos e];exact this.mono h
 ·rename_i e;rw[if_neg e];exact this.mono h
inductive zG (C:iA) (μ:Mu):List vC->List Frame->Prop
 | nil:zG C μ [] []
 | cons {a:vC} {b:Frame} {l:List vC} {m:List Frame}:uI C μ l.length none a b->zG C μ l m->zG C μ (a::l) (b::m)
theorem zG.monoD{l:List vC}{m:List Frame}(r:zG C μ l m)(h:∀d,d<l.length->μ.ln d ν):zG C ν l m:=by
 induction r with
 | nil=>exact .nil
 | @cons a b l m h1 h2 ih=>exact .cons (h1.mono (h _ (by simp))) (ih fun d hd=>h d (by simp;omega))
theorem zG.mono{l:List vC}{m:List Frame}(r:zG C μ l m)(h:μ.le ν):zG C ν l m:=r.monoD fun d _=>h.ln d
theorem xU{fr fr':vC}{b:Frame}{v:zA}{v':Value}{cur:Option pA}(r:uI C μ dp none fr b)(h:rI fr v=some fr')(hv:rA μ v v'):uI C μ dp cur fr' (b.finish v'):=by
 obtain⟨todo,tm,R⟩:=fr
 unfold rI at h
 cases todo with
 | nil=>cases h
 | cons x k=>
  simp only[kC]at h;split at h
  case isFalse=>cases h
  rename_i hm;have body:=r.body
  rw[if_pos hm]at body;have rest:=r.rest
  obtain⟨fn,btmps,btodo,bdefers,bmode,bkind,bround⟩:=b
  simp only at body rest
  cases body with
  | plain a t=>
   cases a with
   | cons i l=>
    cases i with
    | ops all i hi=>
     simp only[zg5]at h;unfold z30 at h;split at h
     case h_2=>cases h
     rename_i o rest' ho
     cases h;obtain⟨h1,h2⟩:=pR ho.symm
     have hlt:i<all.size:=by have:=(yad.1 h1).1;simpa using this
     have hr:(List.range all.size).drop i=i::(List.range all.size).drop (i+1):=by
      rw[yam (by simpa using hlt)];simp
     have ho2:all[i]?=some o:=by simpa using h1
     have e:∀k',Frame.finish ⟨fn,btmps,.inRegion all ((List.range all.size).drop i)::k',bdefers,bmode,bkind,bround⟩ v'=⟨fn,(Act.put ⟨btmps,bdefers⟩ o.dst v').tmps,.inRegion all ((List.range all.size).drop (i+1))::k',bdefers,bmode,bkind,bround⟩:=by
      intro k';simp only[Frame.finish,hr,ho2,Option.bind_some];unfold Act.put
      cases o.dst<;>rfl
     rw[e];refine⟨⟨rest.fn,?_,rest.defers,rest.mode,rest.kind,rest.round⟩,?_⟩
     ·exact(t.put (ds:=bdefers) (dst:=o.dst) hv).1
     ·rw[if_pos hm]
      rw[h2];exact .plain (.cons (.ops all (i+1) hlt) l) (t.put hv)
    | inRange l' i hl=>
     cases h;refine⟨⟨rest.fn,rest.size,rest.defers,rest.mode,rest.kind,rest.round⟩,?_⟩
     simp only[Frame.finish];rw[if_pos hm];exact .plain (.cons (.endRange l' i hl) l) t
    | beginRound=>
     cases h;refine⟨⟨rest.fn,rest.size,rest.defers,rest.mode,rest.kind,rest.round⟩,?_⟩
     simp only[Frame.finish];rw[if_pos hm];exact .plain l t
    | _=>cases h
  | mid a b c d e=>
   exfalso
   simp only[zg5]at h;unfold zxa at h;simp only[mA,bD]at h;obtain⟨o,ho,_⟩:=h
   have:=(yad.1 ho).1
   simp at this
  | @wait all old _ olds st stages _ order _ _ anc D S a b b2 c d=>
   simp only[zg5]at h;unfold zxa at h;simp only[mA,bD]at h;obtain⟨o,ho,h⟩:=h
   cases h;have ho2:all[st.heavy]?=some o:=by simpa using ho
   obtain⟨_,_,D1,D2,h1,h2,h3⟩:=sY b b2
   obtain⟨r1,r2⟩:=zy2 (ds:=bdefers) h1 ho2 a c hv
   have e:∀k',Frame.finish ⟨fn,btmps,.inRegion all (st.heavy::order)::k',bdefers,bmode,bkind,bround⟩ v'=⟨fn,(Act.put ⟨btmps,bdefers⟩ o.dst v').tmps,.inRegion all order::k',bdefers,bmode,bkind,bround⟩:=by
    intro k';simp only[Frame.finish,ho2,Option.bind_some];unfold Act.put
    cases o.dst<;>rfl
   rw[e];refine⟨⟨rest.fn,r1.size,rest.defers,rest.mode,rest.kind,rest.round⟩,?_⟩
   rw[if_pos hm];exact .mid r1 h2 h3 r2 d
def uD(P:Program)(C:iA)(B N:Nat)(μ:Mu)(base:List Frame)(m:Machine)(w:World):gC->Prop
 | .next s=>∃ μ' b cs w',Steps P m (lone b (cs++base) w')/\μ.lw μ'/\Below N w w'/\oB B N μ' s.H w'/\uI C μ' s.cs.length (some s.H) s.fr b/\zG C μ' s.cs cs
 | .done v H=>∃ μ' b w' v',Steps P m (lone b base w')/\μ.lw μ'/\Below N w w'/\oB B N μ' H w'/\rA μ' v v'/\b.fn=C.root/\b.leaving P w' (.returned v')
 | .fail _=>True
theorem uD.of_steps{base:List Frame}{m m1:Machine}{o:gC}{w w1:World}(hs:Steps P m m1)(hm:μ.lw ν)(hb:Below N w w1)(h:uD P C B N ν base m1 w1 o):uD P C B N μ base m w o:=by
 cases o with
 | fail=>exact trivial
 | next s=>
  obtain⟨μ',b,cs,w',h1,h2,h3,h4⟩:=h
  exact⟨μ',b,cs,w',hs.trans h1,fun a i k=>h2 a i (hm a i k),hb.trans h3,h4⟩
 | done v H=>
  obtain⟨μ',b,w',v',h1,h2,h3,h4⟩:=h
  exact⟨μ',b,w',v',hs.trans h1,fun a i k=>h2 a i (hm a i k),hb.trans h3,h4⟩
theorem z14{b:Frame}(h:b.mode=.run):b.atR ⟨b.tmps,b.defers⟩ b.todo=b:=by
 obtain⟨fn,tmps,todo,defers,mode,kind,round⟩:=b
 simp only at h
 subst h;rfl
end
end Go.Am
namespace Go.Am
open Go Go.RowKit
structure Sim (P:Program) (C:iA) (B N:Nat) (I:World->Prop):Prop where
 tys:aF P C
 fns:zhl P C
 prims:zdv P C B N I
 base:B<=C.base
 mixed:P.follows .mixedOrders=true
 inv:∀w w',Below N w w'->I w->I w'
section
variable {P:Program}{C:iA}{B N:Nat}{I:World->Prop}{μ ν:Mu}{H H':pA}{w:World}{tm:Tm}{R:oI}{acs:List vC}{base cs:List Frame}
variable {b:Frame}{tmps:Array Value}{ds:List Deferred}{k:List mD}{k':List Item}
theorem jG.todo{todo:List Item}(h:jG μ R (b.atR ⟨tmps,ds⟩ [])):jG μ R (b.atR ⟨tmps,ds⟩ todo):=⟨h.fn,h.size,h.defers,h.mode,h.kind,h.round⟩
theorem jG.running{todo:List Item}(h:jG μ R (b.atR ⟨tmps,ds⟩ todo)):R.mode.running=true:=by
 have:=h.mode
 cases hm:R.mode with
 | run=>rfl
 | _=>rw[hm]at this;exact this.elim
theorem vR{m:Machine}{todo:List mD}{btodo:List Item}(hH:oB B N μ H w)(hcs:zG C μ acs cs)(hR:jG μ R (b.atR ⟨tmps,ds⟩ []))(ht:uE μ R.n tm tmps)
  (hk:aC (vG μ) todo btodo) (hs:Steps P m (lone (b.atR ⟨tmps,ds⟩ btodo) (cs++base) w)):uD P C B N μ base m w (xGo todo tm R acs H):=
 ⟨μ,_,cs,w,hs,fun _ _ h=>h,Below.refl _ _,hH,⟨hR.todo,by rw[if_pos hR.running];exact .plain hk ht⟩,hcs⟩
theorem zgi(hH:oB B N μ H w)(hcs:zG C μ acs cs)(hR:jG μ R (b.atR ⟨tmps,ds⟩ []))(ht:uE μ R.n tm tmps)(hk:aC (vG μ) k k'){m:Machine}
  (hs:step P m=.next (lone (b.atR ⟨tmps,ds⟩ k') (cs++base) w)):uD P C B N μ base m w (zkh C k tm R acs H):=
 vR hH hcs hR ht hk (.one hs)
theorem z68(hH:oB B N μ H w)(hcs:zG C μ acs cs)(hR:jG μ R (b.atR ⟨tmps,ds⟩ []))(ht:uE μ R.n tm tmps)(hk:aC (vG μ) k k'){c:Operand}{x y:Code} :
  uD P C B N μ base (lone (b.atR ⟨tmps,ds⟩ (.code (.cond c x y)::k')) (cs++base) w) w (zr3 c x y C k tm R acs H):=by
 unfold zr3
 cases hc:ob (ev c (.now tm)) zA.asBool with
 | none=>exact trivial
 | some t=>
  rw[mA]at hc;obtain⟨v,hv,ht'⟩:=hc
  have:v=.bool t:=by cases v<;>simp[zA.asBool]at ht';rw[ht']
  subst this;have hr:=ht.erel (ds:=ds) hH.glob c _ hv
  rw[rA]at hr;refine vR hH hcs hR ht (.cons (.code _) hk) (.one ?_)
  rw[stepR_cond hr]
  cases t<;>rfl
theorem z1x(hH:oB B N μ H w)(hcs:zG C μ acs cs)(hR:jG μ R (b.atR ⟨tmps,ds⟩ []))(ht:uE μ R.n tm tmps)(hk:aC (vG μ) k k'){id:Nat}{c:Code} :
  uD P C B N μ base (lone (b.atR ⟨tmps,ds⟩ (.code (.block id c)::k')) (cs++base) w) w (z2e id c C k tm R acs H):=
 vR hH hcs hR ht (.cons (.code _) (.cons (.inBlock _) hk)) (.one stepR_block)
theorem z5s(hH:oB B N μ H w)(hcs:zG C μ acs cs)(hR:jG μ R (b.atR ⟨tmps,ds⟩ []))(ht:uE μ R.n tm tmps)(hk:aC (vG μ) k k'){c:Code} :
  uD P C B N μ base (lone (b.atR ⟨tmps,ds⟩ (.code (.loop c)::k')) (cs++base) w) w (z4c c C k tm R acs H):=
 vR hH hcs hR ht (.cons (.code _) (.cons (.inLoop _) hk)) (.one stepR_loop)
theorem zxf{id:Nat}:∀ {k:List mD} {k':List Item} {r:List mD},aC (vG μ) k k'->sO id k=some r->∃r',exitTo id k'=some r'/\aC (vG μ) r r':=by
 intro k k' r h;induction h with
 | nil=>intro e;cases e
 | cons a l ih=>
  intro e
  cases a with
  | inBlock i=>
   unfold sO at e;simp only[mD.blockId]at e;rw[kC]at e;unfold exitTo;by_cases hi:i=id
   ·subst hi
    rw[if_pos (wC.2 rfl)]at e
    cases e
    exact⟨_,by simp,l⟩
   ·rw[if_neg fun h=>hi (wC.1 h)]at e
    obtain⟨r',h1,h2⟩:=ih e
    exact⟨r',by simp[hi,h1],h2⟩
  | _=>
   unfold sO at e;obtain⟨r',h1,h2⟩:=ih e
   exact⟨r',by unfold exitTo;exact h1,h2⟩
end
end Go.Am
namespace Go.Am
open Go Go.RowKit
section
variable {P:Program}{C:iA}{B N:Nat}{I:World->Prop}{μ ν:Mu}{H H':pA}{w:World}{tm:Tm}{R:oI}{acs:List vC}{base cs:List Frame}
variable {b:Frame}{tmps:Array Value}{ds:List Deferred}{k:List mD}{k':List Item}{all:Array Oper}{olds:List (Nat × List Nat)}{anc:Tr Nat}{old:Tm}{D:Nat}{S:Nat->Bool}{order:List Nat}
theorem jG.slots{tmps':Array Value}{todo:List Item}(h:jG μ R (b.atR ⟨tmps,ds⟩ todo))(hs:tmps'.size=R.n):jG μ R (b.atR ⟨tmps',ds⟩ todo):=⟨h.fn,hs,h.defers,h.mode,h.kind,h.round⟩
theorem uE.cut{n:Nat}(h:uE μ n tm tmps):uE μ n tm.cut tmps:=by
 refine⟨h.1,fun i v hv=>h.2 i v ?_⟩
 unfold Tm.cut Tm.get at hv;unfold Tm.get;simp only[jH]at hv ⊢
 split at hv
 ·rename_i e;rw[if_pos e];exact hv
 ·cases hv
theorem zuo(hS:Sim P C B N I)(hH:oB B N μ H w)(hcs:zG C μ acs cs)(hR:jG μ R (b.atR ⟨tmps,ds⟩ []))(hk:aC (vG μ) k k')
  (hr:cG μ all olds anc R.n old tm D S order tmps) (hst:sJ all.toList anc [] D=true) (hp:tK C μ acs.length H all olds R.n old tm D S) :
  uD P C B N μ base (lone (b.atR ⟨tmps,ds⟩ (.inRegion all order::k')) (cs++base) w) w (zkh C k tm R acs H):=by
 obtain⟨tmps',μ',w',s,g,t⟩:=regEnd (b:=b) (k:=k') (cs:=cs++base) (ds:=ds) hS.tys hst order S tmps μ w hH hr hp
 refine uD.of_steps s g.le g.below ?_
 exact vR g.heap (hcs.monoD fun d hd=>g.pd d (by omega)) ((hR.mono g.le).slots t.1) t (hk.mono fun _ _ r=>r.mono g.le) (.refl _ _)
theorem z61(hS:Sim P C B N I)(hH:oB B N μ H w)(hcs:zG C μ acs cs)(hR:jG μ R (b.atR ⟨tmps,ds⟩ []))(ht:uE μ R.n tm tmps)(hk:aC (vG μ) k k'){id:Nat} :
  uD P C B N μ base (lone (b.atR ⟨tmps,ds⟩ (.code (.region id all true)::k')) (cs++base) w) w (zr2 id all C k tm R acs H):=by
 unfold zr2
 cases hx:ob (ob (C.plans.get R.fn) fun t=>t.get id) fun p=>uB (aN all p) <| ob (yO C H all R.n tm.cut p.olds p.first tm.cut) fun tm'=>some (⟨⟨.reg all tm.cut p.olds p.stages::k,tm',R⟩,acs,H⟩:oO)with
 | none=>exact trivial
 | some s=>
  simp only[mA,mB]at hx;obtain⟨p,_,hok,tm',hl,hx⟩:=hx
  cases hx;obtain⟨anc,D,ro,h1,h2⟩:=zvb hok
  obtain⟨r0,p0⟩:=zzy (C:=C) (H:=H) (dp:=acs.length) hS.mixed ro ht.cut (w.tape w.drawn (.order b.fn id))
  obtain⟨r1,p1⟩:=zar _ _ _ hl h1 r0 p0
  exact⟨μ,_,cs,_,.one stepR_region_draw,fun _ _ h=>h,(Below.refl N w).drew,hH.drew,⟨hR.todo,by rw[if_pos hR.running];exact .reg r1 h2 p1 hk⟩,hcs⟩
theorem zv1(hH:oB B N μ H w)(hcs:zG C μ acs cs)(hR:jG μ R (b.atR ⟨tmps,ds⟩ []))(hk:aC (vG μ) k k'){st:qG}{stages:List qG}{D2:Nat}
  (hr:cG μ all olds anc R.n old tm D S order tmps) (h1:nM all.toList st.lights D=some D2) (h2:sJ all.toList anc stages D2=true) (hw:mQ C μ acs.length all olds R.n old tm D S st.again) :
  uD P C B N μ base (lone (b.atR ⟨tmps,ds⟩ (.inRegion all order::k')) (cs++base) w) w (zbq all old olds st stages C k tm R acs H):=by
 unfold zbq
 cases hx:uB (zT C H all old olds tm st.again) (ob (yO C H all R.n old olds st.lights tm) fun tm=>some (⟨⟨.reg all old olds stages::k,tm,R⟩,acs,H⟩:oO))with
 | none=>exact trivial
 | some s=>
  simp only[mA,mB]at hx;obtain⟨ha,tm',hl,hx⟩:=hx
  cases hx;obtain⟨r1,p1⟩:=zar _ _ _ hl h1 hr (zr7 hw ha)
  exact⟨μ,_,cs,w,.refl _ _,fun _ _ h=>h,Below.refl N w,hH,⟨hR.todo,by rw[if_pos hR.running];exact .reg r1 h2 p1 hk⟩,hcs⟩
theorem zif(hH:oB B N μ H w)(hcs:zG C μ acs cs)(hR:jG μ R (b.atR ⟨tmps,ds⟩ []))(ht:uE μ R.n tm tmps){m:Machine}{todo:List mD}{btodo:List Item}
  (hs:Steps P m (lone { b.atR ⟨tmps,ds⟩ btodo with mode:=.returning } (cs++base) w)):uD P C B N μ base m w (.next ⟨zcf ⟨todo,tm,R⟩ .returning,acs,H⟩):=
 ⟨μ,_,cs,w,hs,fun _ _ h=>h,Below.refl N w,hH,⟨⟨hR.fn,hR.size,hR.defers,trivial,hR.kind,hR.round⟩,ht⟩,hcs⟩
theorem xV{dst:Option Tmp}{v:Value}:Act.put ⟨tmps,ds⟩ dst v=⟨(Act.put ⟨tmps,ds⟩ dst v).tmps,ds⟩:=by unfold Act.put;cases dst<;>rfl
theorem zec{i:Nat}{rest:List Nat}{o:Oper}{v:zA}{cs:List Frame}(ho:all[i]?=some o)(hw:Region.wanted o (yielded all tmps)=true)(hd:∀c,o.op≠.defer c)
  (h:zpj P B N μ w (Act.eval ⟨tmps,ds⟩) o v H') :
  ∃v' w' μ',step P (lone (b.atR ⟨tmps,ds⟩ (.inRegion all (i::rest)::k')) cs w)=.next (lone (b.atR ⟨(Act.put ⟨tmps,ds⟩ o.dst v').tmps,ds⟩ (.inRegion all rest::k')) cs w') ∧
   μ.le μ'/\oB B N μ' H' w'/\Below N w w'/\rA μ' v v':=by
 obtain⟨v',w',μ',h1,h2,h3,h4,h5⟩:=h
 refine⟨v',w',μ',?_,h2,h3,h4,h5⟩
 rw[<- xV];rcases h1 with h1 | ⟨h1,rfl⟩
 ·exact zZ (a:=⟨tmps,ds⟩) ho hw (by rw[Oper.semAt_eq _ _ _ hd];exact h1)
 ·exact zf5 (a:=⟨tmps,ds⟩) ho hw (by rw[Oper.semAt_eq _ _ _ hd];exact h1)
theorem zb5{i:Nat}{rest:List Nat}{o:Oper}{f:FuncId}{args:Array Value}{cs:List Frame}{w':World}(ho:all[i]?=some o)(hw:Region.wanted o (yielded all tmps)=true)(hd:∀c,o.op≠.defer c)
  (h:(execOp (Act.eval ⟨tmps,ds⟩) o).run P w=.ok (.enter f args) w') :
  step P (lone (b.atR ⟨tmps,ds⟩ (.inRegion all (i::rest)::k')) cs w)=.next (lone (Frame.enter P f args .normal) (b.atR ⟨tmps,ds⟩ (.inRegion all (i::rest)::k')::cs) w'):=
 step_lone_go (by
  rw[stepGR_op (a:=⟨tmps,ds⟩) ho hw,Oper.semAt_eq _ _ _ hd]
  simp[stepG.apply,Sem.runT_eq,h,Frame.atR])
theorem zfp{i:Nat}{rest:List Nat}{o:Oper}{f:FuncId}{args:Array Value}{cs:List Frame}{v:zA}(ho:all[i]?=some o)(hw:Region.wanted o (yielded all tmps)=true)(hd:∀c,o.op≠.defer c)
  (h:(execOp (Act.eval ⟨tmps,ds⟩) o).run P w=.ok (.enter f args) w) (hc:Calls P f args w fun e w'=>∃v',e=.returned v'/\rA μ v v'/\Below w.heap.size w w') :
  ∃v' w',Steps P (lone (b.atR ⟨tmps,ds⟩ (.inRegion all (i::rest)::k')) cs w) (lone (b.atR ⟨(Act.put ⟨tmps,ds⟩ o.dst v').tmps,ds⟩ (.inRegion all rest::k')) cs w')/\rA μ v v'/\Below w.heap.size w w':=by
 obtain⟨e,w',fr,⟨v',rfl,h1,h2⟩,h3,_,h5⟩:=hc (b.atR ⟨tmps,ds⟩ (.inRegion all (i::rest)::k')::cs)
 refine⟨v',w',?_,h1,h2⟩
 refine .head (zb5 ho hw hd h) (Steps.trans h3 (.one ?_))
 rw[step_leave_returned h5,Frame.finish_atR,ho,<- xV];rfl
theorem oB.below{w':World}(hH:oB B N μ H w)(hb:Below w.heap.size w w'):oB B N μ H w':=by
 refine⟨hH.base,hH.glob,hH.low,hH.next,Nat.le_trans hH.size hb.size,hH.fresh,fun a x i hx h1=>?_,fun a i ha hi=>?_,hH.inj,hH.pnd⟩
 ·obtain⟨o,h2,h3⟩:=hH.blk a x i hx h1
  have hlt:i.b<w.heap.size:=(yaf.1 h2).1
  exact⟨o,by rw[hb.block _ hlt];exact h2,h3⟩
 ·obtain⟨h1,h2,h3⟩:=hH.own a i ha hi
  exact⟨h1,Nat.lt_of_lt_of_le h2 hb.size,h3⟩
theorem uE.wanted{n:Nat}(R:uE μ n tm tmps){o:Oper}{w:Bool}(h:pF o.guard all tm=some w):Region.wanted o (yielded all tmps)=w:=by
 unfold pF zr8 at h;unfold Region.wanted
 cases hg:o.guard with
 | none=>rw[hg]at h;cases h;rfl
 | some jw=>
  obtain⟨j,want⟩:=jw
  rw[hg]at h;simp only[zhm,mA,bD]at h;obtain⟨d,⟨u,hu,hud⟩,v,hv,h⟩:=h
  have hu':all[j]?=some u:=by simpa using hu
  have hy:yielded all tmps j=match tmps[d]? with | some (.bool b)=>some b | _=>none:=by
   unfold yielded;rw[hu'];simp[hud]
   rfl
  simp only[];rw[hy];have rel:=R.2 d v hv
  by_cases hd:d<n
  ·have hs:d<tmps.size:=by rw[R.1];exact hd
   have e1:tmps[d]?=some (tmps.getD d undef):=by simp[Array.getD,hs]
   rw[e1];generalize tmps.getD d undef=x at rel
   cases hb:v.asBool with
   | some b=>
    rw[hb]at h;have:v=.bool b:=by cases v<;>simp[zA.asBool]at hb;rw[hb]
    rw[this,rA]at rel;subst rel;simp only[Option.some.injEq]at h;rw[<- h,nQ]
    cases b<;>cases want<;>rfl
   | none=>
    rw[hb]at h
    cases h
    cases x with
    | bool b=>rw[zhn rel]at hb;cases hb
    | _=>rfl
  ·have e1:tmps[d]?=none:=by simp[R.1];omega
   rw[e1];rw[nV (by rw[R.1];omega)]at rel
   cases hb:v.asBool with
   | some b=>
    have:v=.bool b:=by cases v<;>simp[zA.asBool]at hb;rw[hb]
    rw[this,rA]at rel
    cases rel
   | none=>rw[hb]at h;cases h;rfl
theorem zld{fr:vC}{c:Frame}{w':World}{v:zA}{v':Value}{m:Machine}(hw:uI C μ acs.length none fr c)(hcs:zG C μ acs cs)(hm:μ.le ν)(hH:oB B N ν H' w')(hb:Below N w w')(hv:rA ν v v')
  (hs:Steps P m (lone (c.finish v') (cs++base) w')):uD P C B N μ base m w (z47 v H' C fr acs H):=by
 unfold z47
 cases hx:ob (rI fr v) fun fr=>some (⟨fr,acs,H'⟩:oO)with
 | none=>exact trivial
 | some s=>
  rw[mA]at hx;obtain⟨fr',hf,hx⟩:=hx
  cases hx;exact⟨ν,_,cs,w',hs,hm,hb,hH,xU (hw.mono hm) hf hv,hcs.mono hm⟩
theorem kV{dp:Nat}(hF:zhl P C){f:Nat}{args:List zA}{args':Array Value}{d:Bool}{g:vC}{cur:Option pA}(h:wJ C f args d=some g)(hl:rB μ args args'.toList) :
  uI C μ dp cur g (Frame.enter P f args' (if d then .deferred else .normal))/\∃fn,C.fns.get f=some fn/\fn.body.isSome=true:=by
 unfold wJ at h;simp only[mA,mB,yac,oE]at h;obtain⟨fn,hfn,c,hc,k,hk,⟨h1,h2⟩,h3⟩:=h
 cases h3;obtain⟨h4,_⟩:=hF f fn hfn
 have hsz:args'.size=args.length:=by have:=hl.length;simpa using this
 rw[fD]at h1 h2;have size:(Frame.enter P f args' (if d then .deferred else .normal)).tmps.size=fn.ntmps:=by
  simp only[Frame.enter,h4,Option.map_some,Option.getD_some,Array.size_append,Array.size_replicate];omega
 refine⟨⟨⟨rfl,size,.nil,trivial,rfl,trivial⟩,?_⟩,fn,hfn,by rw[hc];rfl⟩
 show sK C μ dp fn.ntmps cur [.code c] ⟨k,Tr.ofList args,[]⟩ (Frame.enter P f args' (if d then .deferred else .normal)).todo (Frame.enter P f args' (if d then .deferred else .normal)).tmps
 have todo:(Frame.enter P f args' (if d then .deferred else .normal)).todo=[.code c]:=by simp[Frame.enter,h4,hc]
 rw[todo];refine .plain (.cons (.code c) .nil) ⟨size,fun i v hv=>?_⟩
 unfold Tm.get at hv;simp only[jH]at hv;split at hv
 ·rw[Tr.get_ofList]at hv
  obtain⟨x,hx,hr⟩:=hl.get hv
  have hi:i<args'.size:=by have:=(yad.1 hx).1;simpa using this
  have:(Frame.enter P f args' (if d then .deferred else .normal)).tmps.getD i undef=x:=by
   simp only[Frame.enter,yby];rw[Array.getElem?_append_left hi];have:args'[i]?=some x:=by simpa using hx
   rw[this];rfl
  rw[this];exact hr
 ·cases hv
theorem zuu(hF:zhl P C){fr:vC}{c:Frame}{f:Nat}{args:List zA}{m:Machine}(hw:uI C μ acs.length none fr c)(hcs:zG C μ acs cs)(hH:oB B N μ H w)
  (hs:∀fn,C.fns.get f=some fn->fn.body.isSome=true->∃args',rB μ args args'.toList/\Steps P m (lone (Frame.enter P f args' .normal) (c::(cs++base)) w)) :
  uD P C B N μ base m w (zii f args C fr acs H):=by
 unfold zii
 cases hx:wJ C f args false with
 | none=>exact trivial
 | some g=>
  obtain⟨fn,h1,h2⟩:∃fn,C.fns.get f=some fn/\fn.body.isSome=true:=by
   unfold wJ at hx;simp only[mA]at hx;obtain⟨fn,hfn,c,hc,_⟩:=hx
   exact⟨fn,hfn,by rw[hc];rfl⟩
  obtain⟨args',h3,h4⟩:=hs fn h1 h2
  exact⟨μ,_,c::cs,w,h4,fun _ _ h=>h,Below.refl N w,hH,(kV hF hx h3).1,.cons hw hcs⟩
end
end Go.Am
namespace Go.Am
open Go Go.RowKit
theorem zfg:∀(l:List Oper) (t:Tr zA) (i:Nat) (v:zA),(zfk l t).get i=some v->t.get i=some v/\∀o∈l,o.dst≠some i:=by
 intro l;induction l with
 | nil=>intro t i v h;exact⟨h,fun _ ho=>by cases ho⟩
 | cons o l ih=>
  intro t i v h;unfold zfk at h
  cases hd:o.dst with
  | none=>
   rw[hd]at h;obtain⟨h1,h2⟩:=ih t i v h
   refine⟨h1,fun u hu=>?_⟩
   rcases yat.1 hu with rfl | hu
   ·rw[hd];simp
   ·exact h2 u hu
  | some j=>
   rw[hd]at h;obtain⟨h1,h2⟩:=ih _ i v h
   rw[Tr.get_del]at h1;split at h1
   ·cases h1
   ·rename_i e
    refine⟨h1,fun u hu=>?_⟩
    rcases yat.1 hu with rfl | hu
    ·rw[hd];exact fun k=>e (ybj k).symm
    ·exact h2 u hu
theorem cG.left{μ:Mu}{all:Array Oper}{olds:List (Nat × List Nat)}{anc:Tr Nat}{n:Nat}{old tm:Tm}{D:Nat}{S:Nat->Bool}{order:List Nat}{tmps:Array Value}(R:cG μ all olds anc n old tm D S order tmps) :
  uE μ n ⟨tm.k,zfk all.toList tm.v,[]⟩ tmps:=by
 refine⟨R.size,fun t v hv=>?_⟩
 unfold Tm.get at hv;simp only[jH]at hv;split at hv
 case isFalse=>cases hv
 rename_i hk;obtain⟨h1,h2⟩:=zfg _ _ _ _ hv
 have hv:tm.get t=some v:=by unfold Tm.get;simp only[jH];rw[if_pos hk];exact h1
 have hw:∀(i:Nat) (o:Oper),all[i]?=some o->o.dst=some t->False:=fun i o ho hd=>h2 o (by
  have:all.toList[i]?=some o:=by simpa using ho
  exact ybw this) hd
 by_cases hn:t<n
 ·have k:=R.keep t hn fun i o a b=>(hw i o a b).elim
  exact R.past t v hn (fun i o a b=>(hw i o a b).elim) (by rw[<- k];exact hv)
 ·rw[nV (by rw[R.size];omega)]
  exact R.big t v (by omega) (.inl hv)
theorem sK.left{C:iA}{μ:Mu}{dp n:Nat}{cur:Option pA}{todo:List mD}{tm:Tm}{btodo:List Item}{tmps:Array Value}(h:sK C μ dp n cur todo tm btodo tmps):uE μ n (zi2 todo tm) tmps:=by
 cases h with
 | plain a t=>
  cases a with
  | nil=>exact t
  | cons x l=>cases x<;>exact t
 | reg a _ _ _=>exact a.left
 | mid a _ _ _ _=>exact a.left
 | wait a _ _ _ _=>exact a.left
theorem aC.append{α β:Type}{R:α->β->Prop}{l l':List α}{m m':List β}(h:aC R l m)(h':aC R l' m'):aC R (l++l') (m++m'):=by
 induction h with
 | nil=>exact h'
 | cons a _ ih=>exact .cons a ih
theorem uE.left{μ:Mu}{n:Nat}{tm:Tm}{tmps:Array Value}(h:uE μ n tm tmps)(todo:List mD):uE μ n (zi2 todo tm) tmps:=by
 unfold zi2;split
 ·refine⟨h.1,fun t v hv=>h.2 t v ?_⟩
  unfold Tm.get at hv ⊢
  simp only[jH]at hv ⊢
  split at hv
  ·rename_i e;rw[if_pos e];exact(zfg _ _ _ _ hv).1
  ·cases hv
 ·exact h
theorem zn1{C:iA}{μ:Mu}{dp:Nat}{cur cur':Option pA}{fr:vC}{b:Frame}{l:List tT}{l':List PanicEntry}(h:uI C μ dp cur fr b)(hl:aC (uT μ) l l'):uI C μ dp cur' (zn3 fr l) (b.raise l'):=by
 have t:uE μ fr.R.n (zi2 fr.todo fr.tm) b.tmps:=by
  have:=h.body
  split at this
  ·exact this.left
  ·exact this.left _
 have r:=h.rest
 obtain⟨todo,tm,fn,n,defers,mode,deferred,round⟩:=fr
 obtain⟨bfn,btmps,btodo,bdefers,bmode,bkind,bround⟩:=b
 have m:=r.mode
 cases mode<;>cases bmode<;>first | exact m.elim | skip
 ·exact⟨⟨r.fn,r.size,r.defers,hl,r.kind,r.round⟩,t⟩
 ·exact⟨⟨r.fn,r.size,r.defers,hl,r.kind,r.round⟩,t⟩
 ·refine⟨⟨r.fn,r.size,r.defers,?_,r.kind,r.round⟩,t⟩
  show aC (uT μ) (iF l _) _
  rw[dH];exact hl.append m
end Go.Am
namespace Go.Am
open Go Go.RowKit
section
variable {P:Program}{C:iA}{B N:Nat}{I:World->Prop}{μ ν:Mu}{H H':pA}{w:World}{tm:Tm}{R:oI}{acs:List vC}{base cs:List Frame}
variable {b:Frame}{tmps:Array Value}{ds:List Deferred}{k:List mD}{k':List Item}{all:Array Oper}
theorem zut{fr:vC}{c:Frame}{v:zA}{v':Value}{m:Machine}{cur:Option pA}(hw:uI C μ acs.length cur fr c)(hcs:zG C μ acs cs)(hH:oB B N μ H w)(hv:rA μ v v')
  (hs:Steps P m (lone (c.raise [{ v:=v',recovered:=false }]) (cs++base) w)):uD P C B N μ base m w (z2v v C fr acs H):=
 ⟨μ,_,cs,w,hs,fun _ _ h=>h,Below.refl N w,hH,zn1 hw (.cons ⟨hv,rfl,rfl⟩ .nil),hcs⟩
theorem zky{i:Nat}{rest:List Nat}{o:Oper}{v:Value}{cs:List Frame}{w':World}(ho:all[i]?=some o)(hw:Region.wanted o (yielded all tmps)=true)(hd:∀c,o.op≠.defer c)
  (h:(execOp (Act.eval ⟨tmps,ds⟩) o).run P w=.halt (.panic v) w') :
  step P (lone (b.atR ⟨tmps,ds⟩ (.inRegion all (i::rest)::k')) cs w)=.next (lone ((b.atR ⟨tmps,ds⟩ (.inRegion all (i::rest)::k')).raise [{ v,recovered:=false }]) cs w'):=
 step_lone_go (by
  rw[stepGR_op (a:=⟨tmps,ds⟩) ho hw,Oper.semAt_eq _ _ _ hd]
  simp[stepG.apply,Sem.runT_eq,h])
theorem gW(hH:oB B N μ H w){l:Nat}{r:zrp}(h:zO H l=some r){i:BI}(h4:μ l=some i):B<=l/\∃r',H.t.get l=some (.loop r)/\w.heap[i.b]?=some (.loop r')/\zdx μ r r':=by
 unfold zO at h;rw[mB,oE,mA]at h;obtain⟨h1,x,h2,h3⟩:=h
 have:x=.loop r:=by cases x<;>simp[lA.asLoop]at h3;rw[h3]
 subst this;obtain⟨o,h5,h6⟩:=hH.blk l _ i h2 h4
 rw[iH]at h6;obtain⟨r',rfl,h7⟩:=h6
 refine⟨Nat.le_of_not_lt fun hlt=>?_,r',h2,h5,h7⟩
 have:=(hH.low l _ i hlt h2 h4).2.1
 cases this
theorem qW{l:Nat}{r:Loop}(h:w.heap[l]?=some (.loop r)):(Instr.getLoop l).run P w=.ok r w:=by
 simp[Instr.getLoop,getObj,Sem.run_bind,Sem.run,h]
theorem zj8{o:Op}(h:∃c,o=.defer c)(C:iA)(e:xD)(H:pA):(bE o).f C e H=.fail\/∃d,(bE o).f C e H=.defer d:=by
 obtain⟨c,rfl⟩:=h
 show(zbj c c.callee).f C e H=.fail\/∃d,(zbj c c.callee).f C e H=.defer d
 cases c.callee with
 | value f=>
  show z2u (ob (gO f c.args e) fun p=>some (.defer ⟨some p.1,0,iF p.2.1 p.2.2⟩))=.fail\/∃d,z2u (ob (gO f c.args e) fun p=>some (.defer ⟨some p.1,0,iF p.2.1 p.2.2⟩))=.defer d
  cases gO f c.args e with
  | none=>exact .inl rfl
  | some p=>exact .inr ⟨_,rfl⟩
 | _=>exact .inl rfl
theorem zib{n:Nat}:∀(ps:List Nat) (args:List zA) (tm tm':Tm) (args':List Value) (tmps:Array Value),bX n ps args tm=some tm'->rB μ args args'->uE μ n tm tmps →
  args'.length=ps.length/\uE μ n tm' ((ps.zip args').foldl (fun tmps x=>tmps.setIfInBounds x.1 x.2) tmps):=by
 intro ps;induction ps with
 | nil=>
  intro args tm tm' args' tmps h hl ht
  cases args with
  | nil=>rw[rB]at hl;subst hl;cases h;exact⟨rfl,ht⟩
  | cons a as=>cases h
 | cons p ps ih=>
  intro args tm tm' args' tmps h hl ht
  cases args with
  | nil=>cases h
  | cons a as=>
   rw[rB]at hl;obtain⟨v,r,rfl,hv,hl⟩:=hl
   have:=ih as _ _ r (tmps.setIfInBounds p v) h hl (ht.put (ds:=[]) (dst:=some p) hv)
   exact⟨by simp[this.1],this.2⟩
theorem zkx{i:Nat}{rest:List Nat}{o:Oper}{cs:List Frame}{l:Nat}{f:FuncId}{t:Array Value}{as bd:Code}{w':World}(ho:all[i]?=some o)(hw:Region.wanted o (yielded all tmps)=true)(hd:∀c,o.op≠.defer c)
  (h:(execOp (Act.eval ⟨tmps,ds⟩) o).run P w=.ok (.round l f t as bd) w') :
  step P (lone (b.atR ⟨tmps,ds⟩ (.inRegion all (i::rest)::k')) cs w)=.next (lone (Frame.round l f t as bd .normal) (b.atR ⟨tmps,ds⟩ (.inRegion all (i::rest)::k')::cs) w'):=
 step_lone_go (by
  rw[stepGR_op (a:=⟨tmps,ds⟩) ho hw,Oper.semAt_eq _ _ _ hd]
  simp[stepG.apply,Sem.runT_eq,h,Frame.atR])
theorem zkz{i:Nat}{rest:List Nat}{o:Oper}{cs:List Frame}{d:Deferred}{w':World}(ho:all[i]?=some o)(hw:Region.wanted o (yielded all tmps)=true)(hb:b.roundOf=none)
  (h:(execOp (Act.eval ⟨tmps,ds⟩) o).run P w=.ok (.defer d) w') :
  step P (lone (b.atR ⟨tmps,ds⟩ (.inRegion all (i::rest)::k')) cs w)=.next (lone ((b.atR ⟨tmps,d::ds⟩ (.inRegion all (i::rest)::k')).finish undef) cs w'):=
 step_lone_go (by
  rw[stepGR_op (a:=⟨tmps,ds⟩) ho hw,hb,Oper.semAt_none]
  simp[stepG.apply,Sem.runT_eq,h,Frame.atR])
theorem zf6{i:Nat}{rest:List Nat}{o:Oper}{cs:List Frame}{w':World}(ho:all[i]?=some o)(hw:Region.wanted o (yielded all tmps)=true)(hd:∀c,o.op≠.defer c)(hb:b.roundOf=none)
  (h:(execOp (Act.eval ⟨tmps,ds⟩) o).run P w=.ok .recover w') :
  step P (lone (b.atR ⟨tmps,ds⟩ (.inRegion all (i::rest)::k')) cs w)=.next (match tryRecover (b.atR ⟨tmps,ds⟩ (.inRegion all (i::rest)::k')) cs with
   | some (v,cs)=>lone ((b.atR ⟨tmps,ds⟩ (.inRegion all (i::rest)::k')).finish v) cs w'
   | none=>lone ((b.atR ⟨tmps,ds⟩ (.inRegion all (i::rest)::k')).finish .nilIface) cs w'):=by
 have e:(stepG P true { frame:=b.atR ⟨tmps,ds⟩ (.inRegion all (i::rest)::k'),callers:=cs,status:=.running,dying:=none } w).bare=match tryRecover (b.atR ⟨tmps,ds⟩ (.inRegion all (i::rest)::k')) cs with
   | some (v,cs)=>.go { frame:=(b.atR ⟨tmps,ds⟩ (.inRegion all (i::rest)::k')).finish v,callers:=cs,status:=.running,dying:=none } w'
   | none=>.go { frame:=(b.atR ⟨tmps,ds⟩ (.inRegion all (i::rest)::k')).finish .nilIface,callers:=cs,status:=.running,dying:=none } w':=by
  rw[stepGR_op (a:=⟨tmps,ds⟩) ho hw,Oper.semAt_eq _ _ _ hd]
  have hb':(b.atR ⟨tmps,ds⟩ (.inRegion all (i::rest)::k')).roundOf=none:=hb
  simp only[stepG.apply,Sem.runT_eq,h,GStep.bare_after,hb',if_true]
  cases tryRecover (b.atR ⟨tmps,ds⟩ (.inRegion all (i::rest)::k')) cs with
  | none=>rfl
  | some p=>obtain⟨v,c⟩:=p;rfl
 cases ht:tryRecover (b.atR ⟨tmps,ds⟩ (.inRegion all (i::rest)::k')) cs with
 | none=>rw[ht]at e;exact step_lone_go e
 | some p=>obtain⟨v,c⟩:=p;rw[ht]at e;exact step_lone_go e
theorem zur{fr:vC}{c:Frame}{l:Nat}{i:BI}{args:List zA}{args':Array Value}{m:Machine}(hw:uI C μ acs.length none fr c)(hcs:zG C μ acs cs)(hH:oB B N μ H w)(hi:μ l=some i)(hl:rB μ args args'.toList)
  (hs:∀f t as bd,(Instr.yield i.b args').run P w=.ok (.round i.b f t as bd) w->Steps P m (lone (Frame.round i.b f t as bd .normal) (c::(cs++base)) w)):uD P C B N μ base m w (zus l args C fr acs H):=by
 unfold zus
 cases hx:ob (zO H l) fun r=>ob (bX r.n r.params args r.tm) fun tm=>some (⟨⟨[.code r.assign,.beginRound,.code r.body],tm,⟨r.fn,r.n,[],.run,false,some l⟩⟩,fr::acs,H⟩:oO)with
 | none=>exact trivial
 | some s=>
  simp only[mA]at hx;obtain⟨r,hr,tm',htm,hx⟩:=hx
  cases hx;obtain⟨_,r',_,h3,h4⟩:=gW hH hr hi
  obtain⟨h5,h6⟩:=zib r.params args r.tm tm' args'.toList r'.tmps htm hl h4.tm
  rw[<- h4.params]at h5 h6;have sz:args'.size=r'.params.size:=by simpa using h5
  have e:(r'.params.zip args').foldl (fun tmps x=>tmps.setIfInBounds x.1 x.2) r'.tmps=(r'.params.toList.zip args'.toList).foldl (fun tmps x=>tmps.setIfInBounds x.1 x.2) r'.tmps:=by
   rw[<- Array.foldl_toList,Array.toList_zip]
  rw[<- e]at h6;refine⟨μ,_,c::cs,w,hs r'.fn ((r'.params.zip args').foldl (fun tmps x=>tmps.setIfInBounds x.1 x.2) r'.tmps) r'.assign r'.body ?_,fun _ _ h=>h,Below.refl N w,hH,?_,.cons hw hcs⟩
  ·simp only[Instr.yield,Sem.run_bind,qW h3,Result.andThen_ok,sz]
   simp
  ·refine⟨⟨h4.fn,h6.1,.nil,trivial,rfl,⟨i,hi,rfl⟩⟩,?_⟩
   show sK C μ (acs.length+1) r.n _ _ _ [.code r'.assign,.beginRound,.code r'.body] _
   rw[h4.assign,h4.body];exact .plain (.cons (.code _) (.cons .beginRound (.cons (.code _) .nil))) h6
theorem zfr(hS:Sim P C B N I)(hH:oB B N μ H w)(hcs:zG C μ acs cs){fr:vC}{i:Nat}{rest:List Nat}{o:Oper}{r:bJ}
  (hfr:uI C μ acs.length none fr (b.atR ⟨tmps,ds⟩ (.inRegion all (i::rest)::k'))) (ho:all[i]?=some o) (hw:Region.wanted o (yielded all tmps)=true)
  (hdef:(∃c,o.op=.defer c)->r=.fail\/∃d,r=.defer d) (h:kK P C B N μ H w (Act.eval ⟨tmps,ds⟩) o r) :
  uD P C B N μ base (lone (b.atR ⟨tmps,ds⟩ (.inRegion all (i::rest)::k')) (cs++base) w) w (dV r C fr acs H):=by
 have hd:(∀d,r≠.defer d)->r≠.fail->∀c,o.op≠.defer c:=by
  intro h1 h2 c e;rcases hdef ⟨c,e⟩with h | ⟨d,h⟩
  ·exact h2 h
  ·exact h1 d h
 cases r with
 | fail=>exact trivial
 | val v H'=>
  have hd:=hd (fun _ h=>by cases h) (fun h=>by cases h)
  rcases h with h | ⟨rfl,f,args',h1,h2⟩
  ·obtain⟨v',w',μ',s,hm,hH',hb,hv⟩:=zec (b:=b) (k':=k') (rest:=rest) (cs:=cs++base) ho hw hd h
   refine zld (H:=H) hfr hcs hm hH' hb hv ?_
   rw[Frame.finish_atR,ho,Option.bind_some,xV];exact .one s
  ·obtain⟨v',w',s,hv,hb⟩:=zfp (b:=b) (k':=k') (rest:=rest) (cs:=cs++base) ho hw hd h1 h2
   refine zld (H:=H') hfr hcs μ.le_refl (hH.below hb) (hb.mono hH.size) hv ?_
   rw[Frame.finish_atR,ho,Option.bind_some,xV];exact s
 | enter f args=>
  have hd:=hd (fun _ h=>by cases h) (fun h=>by cases h)
  exact zuu hS.fns hfr hcs hH fun fn h1 h2=>by
   obtain⟨args',h3,h4⟩:=h fn h1 h2
   exact⟨args',h4,.one (zb5 ho hw hd h3)⟩
 | round l args=>
  have hd:=hd (fun _ h=>by cases h) (fun h=>by cases h)
  obtain⟨i0,args',hi,hl,hrun⟩:=h
  exact zur hfr hcs hH hi hl fun f t as bd hy=>.one (zkx ho hw hd (by rw[hrun];exact hy))
 | defer d=>
  obtain⟨_,d',h1,h2⟩:=h
  show uD P C B N μ base _ w (zuv d C fr acs H)
  unfold zuv
  cases hr:fr.R.roundOf with
  | some l=>exact trivial
  | none=>
   have hb:b.roundOf=none:=by
    have:=hfr.rest.round
    rw[hr]at this;change vT μ none b.roundOf at this
    cases hb:b.roundOf with
    | none=>rfl
    | some l=>rw[hb]at this;exact this.elim
   simp only[]
   cases hf:rI fr tE with
   | none=>exact trivial
   | some g=>
    have:=xU (cur:=some H) hfr hf mX
    refine⟨μ,_,cs,w,.one (zkz ho hw hb h1),fun _ _ h=>h,Below.refl N w,hH,?_,hcs⟩
    rw[Frame.finish_atR]at this ⊢
    rw[xV]at this ⊢
    have e:∀x,(Act.put ⟨tmps,d'::ds⟩ x undef).tmps=(Act.put ⟨tmps,ds⟩ x undef).tmps:=fun x=>by cases x<;>rfl
    rw[e];exact⟨⟨this.rest.fn,this.rest.size,.cons h2 this.rest.defers,this.rest.mode,this.rest.kind,this.rest.round⟩,this.body⟩
 | panic v=>
  have hd:=hd (fun _ h=>by cases h) (fun h=>by cases h)
  obtain⟨v',h1,h2⟩:=h
  exact zut hfr hcs hH h2 (.one (zky ho hw hd h1))
 | recover=>
  have hd:=hd (fun _ h=>by cases h) (fun h=>by cases h)
  show uD P C B N μ base _ w (zgd C fr acs H)
  unfold zgd
  cases hr:fr.R.roundOf with
  | some l=>exact trivial
  | none=>
   have hb:b.roundOf=none:=by
    have:=hfr.rest.round
    rw[hr]at this;change vT μ none b.roundOf at this
    cases hb:b.roundOf with
    | none=>rfl
    | some l=>rw[hb]at this;exact this.elim
   cases hk:fr.R.deferred with
   | false=>exact trivial
   | true=>
    have hkind:b.kind=.deferred:=by have:=hfr.rest.kind;rw[hk]at this;exact this
    cases hcs with
    | nil=>exact trivial
    | @cons c b1 acs1 cs1 hc hcs1=>
     have st:=zf6 (P:=P) (b:=b) (k':=k') (rest:=rest) (cs:=b1::(cs1++base)) ho hw hd hb h
     have hm:=hc.rest.mode
     have tr:∀todo,tryRecover (b.atR ⟨tmps,ds⟩ todo) (b1::(cs1++base))=match b1.mode with
       | .panicking ({ v,recovered:=false,goexit:=false }::older)=>some (v,{ b1 with mode:=.panicking ({ v,recovered:=true }::older) }::(cs1++base))
       | _=>none:=by
      intro todo;obtain⟨bfn,btmps,btodo,bdefers,bmode,bkind,bround⟩:=b
      simp only at hkind
      subst hkind;rfl
     rw[tr]at st;simp only[]
     cases hcm:c.R.mode with
     | run=>
      rw[hcm]at hm
      cases hbm:b1.mode with
      | run=>
       rw[hbm]at st;simp only[]
       cases hf:rI fr .niliface with
       | none=>exact trivial
       | some g=>exact⟨μ,_,b1::cs1,w,.one st,fun _ _ h=>h,Below.refl N w,hH,xU hfr hf (by rw[rA]),.cons hc hcs1⟩
      | _=>rw[hbm]at hm;exact hm.elim
     | returning=>
      rw[hcm]at hm
      cases hbm:b1.mode with
      | returning=>
       rw[hbm]at st;simp only[]
       cases hf:rI fr .niliface with
       | none=>exact trivial
       | some g=>exact⟨μ,_,b1::cs1,w,.one st,fun _ _ h=>h,Below.refl N w,hH,xU hfr hf (by rw[rA]),.cons hc hcs1⟩
      | _=>rw[hbm]at hm;exact hm.elim
     | panicking ch=>
      rw[hcm]at hm
      cases hbm:b1.mode with
      | run=>rw[hbm]at hm;exact hm.elim
      | returning=>rw[hbm]at hm;exact hm.elim
      | panicking ch'=>
       rw[hbm]at hm st
       cases hm with
       | nil=>exact trivial
       | @cons p e older older' hp hold=>
        obtain⟨pv,pr⟩:=p
        cases pr with
        | true=>exact trivial
        | false=>
         obtain⟨ev',er,eg⟩:=e
         obtain⟨q1,q2,q3⟩:=hp
         simp only at q1 q2 q3
         subst q2 q3
         simp only[]
         cases hf:rI fr pv with
         | none=>exact trivial
         | some g=>
          have fC:=xU (cur:=some H) hfr hf q1
          refine⟨μ,_,{ b1 with mode:=.panicking ({ v:=ev',recovered:=true }::older') }::cs1,w,.one st,fun _ _ h=>h,Below.refl N w,hH,fC,.cons ?_ hcs1⟩
          refine⟨⟨hc.rest.fn,hc.rest.size,hc.rest.defers,.cons ⟨q1,rfl,rfl⟩ hold,hc.rest.kind,hc.rest.round⟩,?_⟩
          have:=hc.body
          rw[hcm]at this;exact this
end
end Go.Am
namespace Go.Am
open Go Go.RowKit
section
variable {P:Program}{C:iA}{B N:Nat}{I:World->Prop}{μ ν:Mu}{H H':pA}{w:World}{tm:Tm}{R:oI}{acs:List vC}{base cs:List Frame}
variable {b:Frame}{tmps:Array Value}{ds:List Deferred}{k:List mD}{k':List Item}{all:Array Oper}
theorem zeu{m:Option Nat}(h:vT μ none m):m=none:=by
 cases m with
 | none=>rfl
 | some l=>exact h.elim
theorem zal{l:Nat}{m:Option Nat}(h:vT μ (some l) m):∃i,μ l=some i/\m=some i.b:=by
 cases m with
 | none=>exact h.elim
 | some m=>obtain⟨i,h1,h2⟩:=h;exact⟨i,h1,by rw[h2]⟩
theorem sZ{r:Loop}(a:Array Value)(b:TypeId)(c:Nat × Nat):Obj.loop r≠.cells a b c:=by intro h;cases h
theorem zc0(hH:oB B N μ H w)(hcs:zG C μ acs cs)(hR:jG μ R (b.atR ⟨tmps,ds⟩ []))(ht:uE μ R.n tm tmps){todo:List mD}{btodo:List Item}{jump:Option Code}
  (h0:b.roundOf=none->zul jump=true->step P (lone (b.atR ⟨tmps,ds⟩ btodo) (cs++base) w)=.next (lone { b.atR ⟨tmps,ds⟩ btodo with mode:=.returning } (cs++base) w))
  (h1:∀l c rest v w',b.roundOf=some l->b.kind=.normal->(Instr.endRound l jump).run P w=.ok v w'->step P (lone (b.atR ⟨tmps,ds⟩ btodo) (c::rest) w)=.next (lone (c.finish v) rest w')) :
  uD P C B N μ base (lone (b.atR ⟨tmps,ds⟩ btodo) (cs++base) w) w (ze6 jump C ⟨todo,tm,R⟩ acs H):=by
 unfold ze6;simp only[]
 cases hr:R.roundOf with
 | none=>
  have hb:b.roundOf=none:=by
   have:=hR.round
   rw[hr]at this;exact zeu this
  cases hj:zul jump with
  | false=>exact trivial
  | true=>exact zif hH hcs hR ht (.one (h0 hb hj))
 | some l=>
  obtain⟨i,hi,hb⟩:∃i,μ l=some i/\b.roundOf=some i.b:=by
   have:=hR.round
   rw[hr]at this;exact zal this
  simp only[]
  cases hx:zO H l with
  | none=>exact trivial
  | some r=>
   rw[sA]
   cases hcs with
   | nil=>exact trivial
   | @cons c b1 acs1 cs1 hc hcs1=>
    simp only[]
    cases hd:R.deferred with
    | true=>exact trivial
    | false=>
     have hkind:b.kind=.normal:=by have:=hR.kind;rw[hd]at this;exact this
     cases hf:rI c (.bool jump.isNone)with
     | none=>exact trivial
     | some c'=>
      obtain⟨hl,r',hg,hw,rel⟩:=gW hH hx hi
      have run:(Instr.endRound i.b jump).run P w=.ok (.bool jump.isNone) (World.setBlk w i.b (.loop { r' with state:=if jump.isNone then .ready else .done,pending:=jump })):=by
       simp only[Instr.endRound,Sem.run_bind,qW hw,Result.andThen_ok,dU hw sZ,Sem.run_pure]
      refine⟨μ,_,cs1,_,.one (h1 i.b b1 (cs1++base) _ _ hb hkind run),fun _ _ h=>h,gS (hH.own l i hl hi).1,?_,xU hc hf (by rw[rA]),hcs1⟩
      refine hH.upd hg hi hl ?_
      rw[iH];exact⟨_,rfl,rfl,rfl,rel.fn,rel.tm,rel.params,rel.assign,rel.body,rel.defers⟩
theorem zl2{id:Nat}:∀ {k:List mD} {k':List Item},aC (vG μ) k k'->sO id k=none->exitTo id k'=none:=by
 intro k k' h;induction h with
 | nil=>intro _;rfl
 | cons a l ih=>
  intro e
  cases a with
  | inBlock i=>
   unfold sO at e;simp only[mD.blockId]at e;rw[kC]at e;unfold exitTo;by_cases hi:i=id
   ·subst hi
    rw[if_pos (wC.2 rfl)]at e
    cases e
   ·rw[if_neg fun h=>hi (wC.1 h)]at e
    simp[hi,ih e]
  | _=>
   unfold sO at e;unfold exitTo;exact ih e
theorem z6w(hH:oB B N μ H w)(hcs:zG C μ acs cs)(hR:jG μ R (b.atR ⟨tmps,ds⟩ []))(ht:uE μ R.n tm tmps)(hk:aC (vG μ) k k'){id:Nat} :
  uD P C B N μ base (lone (b.atR ⟨tmps,ds⟩ (.code (.exit id)::k')) (cs++base) w) w (zr1 id C k tm R acs H):=by
 unfold zr1
 cases he:sO id k with
 | some r=>
  obtain⟨r',h1,h2⟩:=zxf hk he
  exact vR hH hcs hR ht h2 (.one (stepR_exit h1))
 | none=>
  exact zc0 hH hcs hR ht (fun _ h=>by cases h) fun l c rest v w' hb hkd hr=>stepR_round_exit hb hkd (zl2 hk he) hr
theorem ret_ok(hH:oB B N μ H w)(hcs:zG C μ acs cs)(hR:jG μ R (b.atR ⟨tmps,ds⟩ []))(ht:uE μ R.n tm tmps) :
  uD P C B N μ base (lone (b.atR ⟨tmps,ds⟩ (.code .ret::k')) (cs++base) w) w (xRet C k tm R acs H):=
 zc0 hH hcs hR ht (fun hb _=>stepR_ret hb) fun _ _ _ _ _ hb hkd hr=>stepR_round_ret hb hkd hr
theorem end_ok(hH:oB B N μ H w)(hcs:zG C μ acs cs)(hR:jG μ R (b.atR ⟨tmps,ds⟩ []))(ht:uE μ R.n tm tmps) :
  uD P C B N μ base (lone (b.atR ⟨tmps,ds⟩ []) (cs++base) w) w (ze6 none C ⟨[],tm,R⟩ acs H):=
 zc0 hH hcs hR ht (fun hb _=>stepR_end hb) fun _ _ _ _ _ hb hkd hr=>stepR_round_end hb hkd hr
theorem tZ{o:Oper}{rest:List Oper}:bP C all k R acs (o::rest) tm H=match pF o.guard all tm with
  | none=>.fail 20
  | some false=>bP C all k R acs rest (putA R.n tm o.dst tE) H
  | some true=>match ((bE o.op).f C (.now tm) H).asVal with
   | some p=>bP C all k R acs rest (putA R.n tm o.dst p.1) p.2
   | none=>dV ((bE o.op).f C (.now tm) H) C ⟨.ops all (o::rest)::k,tm,R⟩ acs H:=by
 show(match pF o.guard all tm with
  | some w=>Bool.rec (motive:=fun _=>gC) (bP C all k R acs rest (putA R.n tm o.dst tE) H)
     (let r:=(bE o.op).f C (.now tm) H
     match r.asVal with
     | some p=>bP C all k R acs rest (putA R.n tm o.dst p.1) p.2
     | none=>dV r C ⟨.ops all (o::rest)::k,tm,R⟩ acs H) w
  | none=>.fail 20)=_
 cases pF o.guard all tm with
 | none=>rfl
 | some w=>cases w<;>rfl
theorem zez{n i:Nat}(h:i<n):(List.range n).drop i=i::(List.range n).drop (i+1):=by
 rw[yam (by simpa using h)];simp
theorem zie(hS:Sim P C B N I):∀(rest:List Oper) (i:Nat) (tm:Tm) (H:pA) (w:World) (μ:Mu) (tmps:Array Value),rest=all.toList.drop i->i<=all.size->I w->oB B N μ H w->zG C μ acs cs →
  jG μ R (b.atR ⟨tmps,ds⟩ [])->uE μ R.n tm tmps->aC (vG μ) k k' →
  uD P C B N μ base (lone (b.atR ⟨tmps,ds⟩ (.inRegion all ((List.range all.size).drop i)::k')) (cs++base) w) w (bP C all k R acs rest tm H):=by
 intro rest;induction rest with
 | nil=>
  intro i tm H w μ tmps hi hle hI hH hcs hR ht hk;have:all.size<=i:=by
   have:=congrArg List.length hi
   simp at this;omega
  rw[yau (by simpa using this)]
  exact vR hH hcs hR ht hk (.one stepR_region_end)
 | cons o rest ih=>
  intro i tm H w μ tmps hi hle hI hH hcs hR ht hk;obtain⟨h1,h2⟩:=pR hi
  have hlt:i<all.size:=by have:=(yad.1 h1).1;simpa using this
  have ho:all[i]?=some o:=by simpa using h1
  rw[tZ,zez hlt]
  cases hw:pF o.guard all tm with
  | none=>exact trivial
  | some wn=>
   have hwn:=ht.wanted (all:=all) hw
   cases wn with
   | false=>
    refine uD.of_steps (.one (yZ ho hwn)) (fun _ _ h=>h) (Below.refl N w) ?_
    rw[xV];have t:=ht.put (ds:=ds) (dst:=o.dst) mX
    exact ih (i+1) _ _ _ _ _ h2 hlt hI hH hcs (hR.slots t.1) t hk
   | true=>
    have hop:=z36 hS.tys hS.base hS.fns hS.prims hH hI (ht.erel (ds:=ds) hH.glob) o
    simp only[];generalize hr:(bE o.op).f C (.now tm) H=r at hop
    have hdef:(∃c,o.op=.defer c)->r=.fail\/∃d,r=.defer d:=fun h=>by rw[<- hr];exact zj8 h _ _ _
    have hfr:uI C μ acs.length none ⟨.ops all (o::rest)::k,tm,R⟩ (b.atR ⟨tmps,ds⟩ (.inRegion all (i::(List.range all.size).drop (i+1))::k')):=by
     refine⟨hR.todo,?_⟩
     rw[if_pos hR.running,<- zez hlt,hi];exact .plain (.cons (.ops all i hle) hk) ht
    cases hv:r.asVal with
    | none=>exact zfr hS hH hcs hfr ho hwn hdef hop
    | some p=>
     have:r=.val p.1 p.2:=by cases r<;>simp[bJ.asVal]at hv;rw[<- hv]
     subst this;simp only[];have hd:∀c,o.op≠.defer c:=fun c e=>by
      rcases hdef ⟨c,e⟩with h | ⟨d,h⟩<;>cases h
     rcases hop with h | ⟨he,f,args',h3,h4⟩
     ·obtain⟨v',w',μ',s,hm,hH',hb,hv⟩:=zec (b:=b) (k':=k') (rest:=(List.range all.size).drop (i+1)) (cs:=cs++base) ho hwn hd h
      refine uD.of_steps (.one s) hm.f hb ?_
      have t:=(ht.mono hm).put (ds:=ds) (dst:=o.dst) hv
      exact ih (i+1) _ _ _ _ _ h2 hlt (hS.inv _ _ hb hI) hH' (hcs.mono hm) ((hR.mono hm).slots t.1) t (hk.mono fun _ _ r=>r.mono hm)
     ·obtain⟨v',w',s,hv,hb⟩:=zfp (b:=b) (k':=k') (rest:=(List.range all.size).drop (i+1)) (cs:=cs++base) ho hwn hd h3 h4
      have hbN:=hb.mono hH.size
      refine uD.of_steps s (fun _ _ h=>h) hbN ?_
      have t:=ht.put (ds:=ds) (dst:=o.dst) hv
      rw[he];exact ih (i+1) _ _ _ _ _ h2 hlt (hS.inv _ _ hbN hI) (hH.below hb) hcs (hR.slots t.1) t hk
theorem z00(hS:Sim P C B N I)(hI:I w)(hH:oB B N μ H w)(hcs:zG C μ acs cs)(hR:jG μ R (b.atR ⟨tmps,ds⟩ []))(hk:aC (vG μ) k k'){olds:List (Nat × List Nat)}{anc:Tr Nat}{old:Tm}{D:Nat}{S:Nat->Bool}{order:List Nat}{st:qG}{stages:List qG}{o:Oper}
  (hr:cG μ all olds anc R.n old tm D S order tmps) (hst:sJ all.toList anc (st::stages) D=true) (hp:tK C μ acs.length H all olds R.n old tm D S) (ho:all[st.heavy]?=some o) :
  uD P C B N μ base (lone (b.atR ⟨tmps,ds⟩ (.inRegion all order::k')) (cs++base) w) w (zm1 all old olds st stages o C k tm R acs H):=by
 have hlt:st.heavy<=all.size:=Nat.le_of_lt (yaf.1 ho).1
 obtain⟨S',order',tmps',μ',w',s,g,r1,p1⟩:=reach (b:=b) (k:=k') (cs:=cs++base) (ds:=ds) hS.tys hst hlt order S tmps μ w hH hr hp
 refine uD.of_steps s g.le g.below ?_
 replace hI:=hS.inv _ _ g.below hI
 replace hH:=g.heap
 replace hcs:=hcs.monoD fun d hd=>g.pd d (by omega)
 replace hR:=hR.mono g.le
 replace hk:aC (vG μ') k k':=hk.mono fun _ _ r=>r.mono g.le
 unfold zm1
 cases hw:pF o.guard all tm with
 | none=>exact trivial
 | some wn=>
  obtain⟨o',ho',hS',hb',_⟩:=r1.sched
  rw[ho]at ho';cases ho'
  have hwn:=r1.wanted ho hb' hw
  have hfr:uI C μ' acs.length none ⟨.reg all old olds (st::stages)::k,tm,R⟩ (b.atR ⟨tmps',ds⟩ (.inRegion all (st.heavy::order')::k')):=by
   refine⟨(hR.slots r1.size).todo,?_⟩
   rw[if_pos hR.running];exact .wait r1 hst hlt (toWeak hst hlt r1 p1) hk
  cases wn with
  | false=>
   refine zld (H:=H) hfr hcs μ'.le_refl hH (Below.refl N w') mX ?_
   rw[Frame.finish_atR,ho,Option.bind_some];exact .one (yZ ho hwn)
  | true=>
   have hop:=z36 hS.tys hS.base hS.fns hS.prims hH hI (r1.erel (ds:=ds) hH.glob ho hS' hb') o
   exact zfr hS hH hcs hfr ho hwn (fun h=>zj8 h _ _ _) hop
theorem zq2(hS:Sim P C B N I)(hH:oB B N μ H w)(hcs:zG C μ acs cs)(hR:jG μ R (b.atR ⟨tmps,ds⟩ []))(hk:aC (vG μ) k k'){olds:List (Nat × List Nat)}{anc:Tr Nat}{old:Tm}{D:Nat}{S:Nat->Bool}{order:List Nat}{st:qG}{stages:List qG}
  (hr:cG μ all olds anc R.n old tm D S order tmps) (hst:sJ all.toList anc (st::stages) D=true) (hp:tK C μ acs.length H all olds R.n old tm D S) (hlt:all.size<st.heavy) :
  uD P C B N μ base (lone (b.atR ⟨tmps,ds⟩ (.inRegion all order::k')) (cs++base) w) w (zm2 all old olds st stages (st.heavy-(all.size+1)) C k tm R acs H):=by
 obtain⟨o,D1,D2,ho,hf,h1,h2,h3⟩:=zd7 hst hlt
 generalize st.heavy-(all.size+1)=i at *
 obtain⟨o',ho',hi,hb,hD1⟩:=kW h1
 rw[ho]at ho';cases ho'
 unfold zm2;generalize hx:(ob (qD all.toList i) fun o=>ob (pF o.guard all tm) fun w=>uB w (ob ((bE o.op).f C (.mixed tm old (eE i olds) (gG o.op)) H).asVal fun p=>
  ob (yO C p.2 all R.n old olds st.lights (putA R.n tm o.dst p.1)) fun tm'=>some (⟨⟨.reg all old olds stages::k,tm',R⟩,acs,p.2⟩:oO)))=x
 cases x with
 | none=>exact trivial
 | some x=>
  simp only[mA,mB,bD]at hx;obtain⟨o',ho',wn,hw,hwn,p,hv,tm',hl,hx⟩:=hx
  have:o'=o:=by
   have h:all[i]?=some o':=by simpa using ho'
   rw[ho]at h;exact(ybj h).symm
  subst this;subst hwn
  cases hx;have hop:(bE o'.op).f C (oM tm old olds i o') H=.val p.1 p.2:=by
   show(bE o'.op).f C (.mixed tm old (eE i olds) (gG o'.op)) H=_
   generalize (bE o'.op).f C (.mixed tm old (eE i olds) (gG o'.op)) H=r at hv
   cases r<;>simp[bJ.asVal]at hv
   rw[<- hv]
  obtain⟨l,hl2⟩:∃l,p.2=nF H l none:=zq3 hf hop
  have hH':oB B N (μ.wait H.next (.cells (Tr.ofList l) (wB l) none,acs.length,i)) p.2 w:=by rw[hl2];exact hH.early
  have hle:μ.lw (μ.wait H.next (.cells (Tr.ofList l) (wB l) none,acs.length,i)):=fun _ _ h=>h
  have hpd:∀d,μ.ln d (μ.wait H.next (.cells (Tr.ofList l) (wB l) none,acs.length,i)):=fun d=>⟨hle,fun a x j ha=>by
   show(if a=H.next then _ else μ.pd a)=_
   rw[if_neg]
   ·exact ha
   ·intro e
    have:=(hH.pnd _ _ _ ha).2.1
    rw[e,(hH.fresh _ (yal _)).2]at this
    cases this⟩
  have hgrow:HM.HLe H p.2:=by
   intro b y hb;rw[hl2];show(H.t.set H.next _).get b=some y
   rw[Tr.get_set,if_neg]
   ·exact hb
   ·intro e
    rw[e,(hH.fresh _ (yal _)).2]at hb
    cases hb
  have r1:=(hr.light (v:=p.1) ho hi hb hD1).mono hle
  have p1:tK C (μ.wait H.next (.cells (Tr.ofList l) (wB l) none,acs.length,i)) acs.length p.2 all olds R.n old (putA R.n tm o'.dst p.1) D1 S:=by
   intro j hj hSj;rw[hD1]at hj;simp only[ybr,beq_iff_eq]at hj;rcases hj with hj | rfl
   ·rcases hp j hj hSj with⟨u,wu,vu,pu⟩ | ⟨u,vu,pu⟩
    ·exact .inl ⟨u,wu,vu,(pu.keep hr.reg hr.dclosed hj ho hi).grow hgrow⟩
    ·exact .inr ⟨u,vu,(pu.keep hr.reg hr.dclosed hj ho hi).mono (hpd _)⟩
   ·refine .inr ⟨o',p.1,mP.fresh hr.reg hr.dclosed ho hb hi hf hw ⟨H,l,by rw[hop,hl2],?_⟩⟩
    show(if H.next=H.next then _ else μ.pd H.next)=_
    rw[if_pos rfl]
  obtain⟨r2,p2⟩:=zar _ _ _ hl h2 r1 p1
  exact⟨_,_,cs,w,.refl _ _,hle,Below.refl N w,hH',⟨(hR.mono hle).todo,by rw[if_pos hR.running];exact .reg r2 h3 p2 (hk.mono fun _ _ r=>r.mono hle)⟩,hcs.monoD fun d _=>hpd d⟩
end
end Go.Am
