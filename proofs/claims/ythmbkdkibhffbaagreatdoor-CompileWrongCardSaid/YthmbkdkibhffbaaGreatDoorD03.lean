/- A plan that is true to its region. -/
import Derived.AtR
import Derived.Test.YthmbkdkibhffbaaGreatDoorD02
set_option linter.all false
noncomputable section
namespace Go.Am
open Go Go.RowKit
theorem zro(m i:Nat):tb m i=m.testBit i:=by
 have h:Nat.mod (Nat.shiftRight m i) 2=(m >>> i)%2:=rfl
 unfold tb;show Nat.beq ((m >>> i)%2) 1=_
 rw[Nat.testBit,Nat.and_comm,Nat.and_one_is_mod];rcases Nat.mod_two_eq_zero_or_one (m >>> i)with h | h<;>rw[h]<;>rfl
theorem zma(i j:Nat):tb (z5u i) j=(i == j):=by
 rw[zro];show(1 <<< i).testBit j=_
 rw[Nat.one_shiftLeft,Nat.testBit_two_pow]
 cases h:(i == j)<;>simp_all
theorem z0y(a b j:Nat):tb (Nat.lor a b) j=(tb a j||tb b j):=by
 rw[zro,zro,zro];exact Nat.testBit_or a b j
theorem zff(j:Nat):tb 0 j=false:=by rw[zro];simp
theorem fW(e:Edge):zc8 e=Region.binds .any e:=by
 unfold zc8 Region.binds
 cases e.ground<;>rfl
def aP(ops:Array Oper)(S:Nat->Bool):Prop:=∀i o,ops[i]?=some o->S i=true->∀j,aK o j->S j=true
def z6b(ops:Array Oper)(k m:Nat):Prop:=∀S,aP ops S->(∀o,ops[k]?=some o->∀j,aK o j->S j=true)->∀j,tb m j=true->S j=true
theorem ztz{t:Tr Nat}{j:Nat}:∀ {l:List Edge},tb (zeg t l) j=true->∃e∈l,Region.binds .any e=true/\(e.on=j\/tb (nJ t e.on) j=true):=by
 intro l;induction l with
 | nil=>intro h;simp[zeg,zff]at h
 | cons e l ih=>
  intro h;unfold zeg at h
  cases hb:zc8 e with
  | false=>
   rw[hb]at h;obtain⟨e',h1,h2⟩:=ih h
   exact⟨e',.tail _ h1,h2⟩
  | true=>
   rw[hb]at h;simp only[cond_true,z0y,zma,ybr,beq_iff_eq]at h;rcases h with(h | h) | h
   ·exact⟨e,.head _,by rw[<- fW];exact hb,.inl h⟩
   ·exact⟨e,.head _,by rw[<- fW];exact hb,.inr h⟩
   ·obtain⟨e',h1,h2⟩:=ih h
    exact⟨e',.tail _ h1,h2⟩
theorem zzp{t:Tr Nat}{i k m:Nat}:nJ (t.set i m) k=if k=i then m else nJ t k:=by
 unfold nJ;rw[Tr.get_set];by_cases h:k=i<;>simp[h]
theorem zvi{k:Nat}:nJ .leaf k=0:=rfl
theorem dQ{α:Type}{l r:List α}{a:α}{i:Nat}(h:a::r=l.drop i):l[i]?=some a/\r=l.drop (i+1):=by
 have h1:(l.drop i)[0]?=some a:=by rw[<- h];rfl
 rw[ycf]at h1;refine⟨by simpa using h1,?_⟩
 have:r=(l.drop i).drop 1:=by rw[<- h];rfl
 rw[this,List.drop_drop]
theorem z0o{ops:Array Oper}:∀(r:List Oper) (i:Nat) (t:Tr Nat),r=ops.toList.drop i->(∀k,z6b ops k (nJ t k))->∀k,z6b ops k (nJ (z5z r i t) k):=by
 intro r;induction r with
 | nil=>intro i t _ h k;exact h k
 | cons o r ih=>
  intro i t hr h;obtain⟨h1,h2⟩:=dQ hr
  refine ih (i+1) _ h2 fun k=>?_
  rw[zzp];split
  ·rename_i e;subst e
   intro S hS hp j hj;obtain⟨e,he,hb,hj⟩:=ztz hj
   have ho:ops[k]?=some o:=by simpa using h1
   have hon:=hp o ho e.on ⟨e,he,hb,rfl⟩
   rcases hj with rfl | hj
   ·exact hon
   ·exact h e.on S hS (fun o' ho'=>hS _ o' ho' hon) j hj
  ·exact h k
theorem ztu{ops:Array Oper}:∀(r:List Oper) (i:Nat),r=ops.toList.drop i->zm7 r i=true->∀k o,i<=k->ops[k]?=some o->∀j,aK o j->j<k:=by
 intro r;induction r with
 | nil=>
  intro i hr _ k o hk ho;have:ops.toList.length<=i:=by rw[<- List.drop_eq_nil_iff];exact hr.symm
  have:=(yaf.1 ho).1
  simp at *;omega
 | cons o r ih=>
  intro i hr h k o' hk ho;obtain⟨h1,h2⟩:=dQ hr
  unfold zm7 at h;rw[jC]at h;split at h
  ·rename_i h3
   rcases Nat.eq_or_lt_of_le hk with rfl | hk
   ·have:o'=o:=by
     have:ops[i]?=some o:=by simpa using h1
     rw[this]at ho;exact(ybj ho).symm
    subst this;rintro j ⟨e,he,hb,rfl⟩
    rw[iF,ybc]at h3;have:=h3 e he
    rw[fW,hb]at this;exact pC.1 this
   ·exact ih (i+1) h2 h k o' hk ho
  ·cases h
def WrOk (ops:Array Oper)(i:Nat)(wr:Tr Nat):Prop:=∀d k,wr.get d=some k ↔ k<i/\∃o,ops[k]?=some o/\o.dst=some d
theorem z2w{ops:Array Oper}:∀(r:List Oper) (i:Nat) (t wr:Tr Nat),r=ops.toList.drop i->i<=ops.size->WrOk ops i t->wrOf r i t=some wr->WrOk ops ops.size wr:=by
 intro r;induction r with
 | nil=>
  intro i t wr hr hi h he
  cases he;have:ops.toList.length<=i:=by rw[<- List.drop_eq_nil_iff];exact hr.symm
  have:i=ops.size:=by simp at this;omega
  rw[<- this];exact h
 | cons o r ih=>
  intro i t wr hr hi h he;obtain⟨h1,h2⟩:=dQ hr
  have ho:ops[i]?=some o:=by simpa using h1
  have hi':i<ops.size:=(yaf.1 ho).1
  unfold wrOf at he
  cases hd:o.dst with
  | none=>
   rw[hd]at he;refine ih (i+1) t wr h2 hi' (fun d k=>?_) he
   rw[h d k];constructor
   ·rintro⟨a,b⟩;exact⟨by omega,b⟩
   ·rintro⟨a,o',ho',hd'⟩
    refine⟨?_,o',ho',hd'⟩
    rcases Nat.lt_succ_iff_lt_or_eq.1 a with a | rfl
    ·exact a
    ·rw[ho]at ho';cases ho';rw[hd]at hd';cases hd'
  | some d0=>
   rw[hd]at he;simp only[]at he
   cases hg:t.get d0 with
   | some x=>rw[hg]at he;cases he
   | none=>
    rw[hg]at he;refine ih (i+1) _ wr h2 hi' (fun d k=>?_) he
    rw[Tr.get_set];by_cases hdd:d=d0
    ·subst hdd
     rw[if_pos rfl];constructor
     ·intro e;cases e;exact⟨Nat.lt_succ_self _,o,ho,hd⟩
     ·rintro⟨a,o',ho',hd'⟩
      rcases Nat.lt_succ_iff_lt_or_eq.1 a with a | rfl
      ·have:=(h d k).2 ⟨a,o',ho',hd'⟩
       rw[hg]at this;cases this
      ·rfl
    ·rw[if_neg hdd,h d k]
     constructor
     ·rintro⟨a,b⟩;exact⟨by omega,b⟩
     ·rintro⟨a,o',ho',hd'⟩
      refine⟨?_,o',ho',hd'⟩
      rcases Nat.lt_succ_iff_lt_or_eq.1 a with a | rfl
      ·exact a
      ·rw[ho]at ho';cases ho';rw[hd]at hd';cases hd';exact absurd rfl hdd
theorem zyq{ops:Array Oper}{wr anc:Tr Nat}{olds:List (Nat × List Nat)}:∀(r:List Oper) (i:Nat),r=ops.toList.drop i->zyr wr anc olds r i=true →
  ∀k o,i<=k->ops[k]?=some o->zkg (nJ anc k) o.guard=true/\∀t∈sH o.op,ztt wr anc k (cE k olds) t=true:=by
 intro r;induction r with
 | nil=>
  intro i hr _ k o hk ho;have:ops.toList.length<=i:=by rw[<- List.drop_eq_nil_iff];exact hr.symm
  have:=(yaf.1 ho).1
  simp at *;omega
 | cons o r ih=>
  intro i hr h k o' hk ho;obtain⟨h1,h2⟩:=dQ hr
  unfold zyr at h;rw[jC]at h;split at h
  ·rename_i h3
   rw[jC]at h;split at h
   ·rename_i h4
    rcases Nat.eq_or_lt_of_le hk with rfl | hk
    ·have:o'=o:=by
      have:ops[i]?=some o:=by simpa using h1
      rw[this]at ho;exact(ybj ho).symm
     subst this;rw[iF,ybc]at h4;exact⟨h3,h4⟩
    ·exact ih (i+1) h2 h k o' hk ho
   ·cases h
  ·cases h
structure zP (ops:Array Oper) (olds:List (Nat × List Nat)) (anc:Tr Nat):Prop where
 back:Back ops
 before:∀k,z6b ops k (nJ anc k)
 one:∀(i j:Nat) (o u:Oper) (d:Nat),ops[i]?=some o->ops[j]?=some u->o.dst=some d->u.dst=some d->i=j
 guard:∀(k:Nat) (o:Oper),ops[k]?=some o->zkg (nJ anc k) o.guard=true
 name:∀(k:Nat) (o:Oper) (j:Nat) (u:Oper) (t:Nat),ops[k]?=some o->ops[j]?=some u->u.dst=some t->t∈sH o.op->if t∈cE k olds then j=k\/tb (nJ anc j) k=true else tb (nJ anc k) j=true
theorem ztr{ops:Array Oper}{p:Plan}(h:kN ops p=true):∃anc D,zP ops p.olds anc/\vM ops.toList p.first 0=some D/\wJ ops.toList anc p.stages D=true:=by
 change zkf ops.toList p=true at h
 unfold zkf at h;rw[jC]at h;split at h
 case isFalse=>cases h
 rename_i hb
 cases hw:wrOf ops.toList 0 .leaf with
 | none=>rw[hw]at h;cases h
 | some wr=>
  rw[hw]at h;simp only[]at h;rw[jC]at h;split at h
  case isFalse=>cases h
  rename_i ho
  cases hl:vM ops.toList p.first 0 with
  | none=>rw[hl]at h;cases h
  | some D=>
   rw[hl]at h;have wo:WrOk ops ops.size wr:=z2w _ 0 _ _ rfl (Nat.zero_le _) (fun d k=>by simp[Tr.get_leaf]) hw
   have oo:=zyq _ 0 (by rfl) ho
   have wr':∀k o d,ops[k]?=some o->o.dst=some d->wr.get d=some k:=fun k o d h1 h2=>(wo d k).2 ⟨(yaf.1 h1).1,o,h1,h2⟩
   refine⟨_,D,⟨fun i o h1=>ztu _ 0 rfl hb i o (Nat.zero_le _) h1,z0o _ 0 _ rfl fun k S _ _ j hj=>?_,?_,fun k o h1=>(oo k o (Nat.zero_le _) h1).1,?_⟩,rfl,h⟩
   ·rw[zvi,zff]at hj;cases hj
   ·intro i j o u d h1 h2 h3 h4
    have a:=wr' i o d h1 h3
    rw[wr' j u d h2 h4]at a;exact(ybj a).symm
   ·intro k o j u t h1 h2 h3 h4
    have a:=(oo k o (Nat.zero_le _) h1).2 t h4
    unfold ztt at a;rw[wr' j u t h2 h3]at a;simp only[]at a;rw[jC]at a;by_cases hm:rH t (cE k p.olds)=true
    ·rw[if_pos hm]at a
     rw[if_pos ((lP _ _).1 hm)]
     rw[jC]at a;split at a
     ·rename_i e;exact .inl (aB.1 e)
     ·exact .inr a
    ·rw[if_neg hm]at a
     rw[if_neg fun e=>hm ((lP _ _).2 e)]
     exact a
theorem tW{ops:Array Oper}{i D D':Nat}(h:mP ops.toList i D=some D'):∃o,ops[i]?=some o/\tb D i=false/\(∀j,aK o j->tb D j=true)/\∀k,tb D' k=(tb D k||k == i):=by
 unfold mP at h;rw[mA]at h;obtain⟨o,h1,h2⟩:=h
 rw[dD]at h1;rw[mB]at h2;obtain⟨h2,h3⟩:=h2
 cases h3;rw[jC]at h2;split at h2
 ·cases h2
 ·rename_i h4
  refine⟨o,by simpa using h1,by simpa using h4,?_,fun k=>by rw[z0y,zma];congr 1;exact Bool.beq_comm⟩
  rintro j ⟨e,he,hb,rfl⟩
  unfold topo at h2;rw[iF,ybc]at h2;have:=h2 e he
  rw[fW,hb]at this;exact this
theorem zts{ops:Array Oper}{h D:Nat}:∀(r:List Oper) (i:Nat),r=ops.toList.drop i->zm6 h D r i=true →
  ∀k o,i<=k->ops[k]?=some o->tb D k=false->(∀j,aK o j->tb D j=true)->k=h:=by
 intro r;induction r with
 | nil=>
  intro i hr _ k o hk ho;have:ops.toList.length<=i:=by rw[<- List.drop_eq_nil_iff];exact hr.symm
  have:=(yaf.1 ho).1
  simp at *;omega
 | cons o r ih=>
  intro i hr h k o' hk ho;obtain⟨h1,h2⟩:=dQ hr
  unfold zm6 at h;rw[jC]at h;split at h
  ·rename_i h3
   rcases Nat.eq_or_lt_of_le hk with rfl | hk
   ·have:o'=o:=by
     have:ops[i]?=some o:=by simpa using h1
     rw[this]at ho;exact(ybj ho).symm
    subst this;intro hD hj;rw[hD]at h3;simp only[cond_false]at h3;rw[jC]at h3;split at h3
    ·rename_i e;exact aB.1 e
    ·exfalso
     have:topo D o'=true:=by
      unfold topo;rw[iF,ybc];intro e he
      cases hb:zc8 e with
      | false=>rfl
      | true=>exact hj e.on ⟨e,he,by rw[<- fW];exact hb,rfl⟩
     rw[this]at h3;cases h3
   ·exact ih (i+1) h2 h k o' hk ho
  ·cases h
theorem zpi{ops:Array Oper}{m D:Nat}{again:List Nat}:∀(r:List Oper) (i:Nat),r=ops.toList.drop i->zfw m D again r i=true →
  ∀k o,i<=k->ops[k]?=some o->tb D k=true->tb m k=true\/zfr o.op=true\/rL o.op=true\/k∈again:=by
 intro r;induction r with
 | nil=>
  intro i hr _ k o hk ho;have:ops.toList.length<=i:=by rw[<- List.drop_eq_nil_iff];exact hr.symm
  have:=(yaf.1 ho).1
  simp at *;omega
 | cons o r ih=>
  intro i hr h k o' hk ho;obtain⟨h1,h2⟩:=dQ hr
  unfold zfw at h;rw[jC]at h;split at h
  ·rename_i h3
   rcases Nat.eq_or_lt_of_le hk with rfl | hk
   ·have:o'=o:=by
     have:ops[i]?=some o:=by simpa using h1
     rw[this]at ho;exact(ybj ho).symm
    subst this;intro hD;rw[hD]at h3;simp only[cond_true]at h3;rw[jC]at h3;split at h3
    ·rename_i e;exact .inl e
    ·rw[jC]at h3
     split at h3
     ·rename_i e;exact .inr (.inl e)
     ·rw[jC]at h3
      split at h3
      ·rename_i e;exact .inr (.inr (.inl e))
      ·exact .inr (.inr (.inr ((lP _ _).1 h3)))
   ·exact ih (i+1) h2 h k o' hk ho
  ·cases h
theorem zys{ops:Array Oper}{D:Nat}:∀(r:List Oper) (i:Nat),r=ops.toList.drop i->zyt D r i=true->∀k,i<=k->k<ops.size->tb D k=true:=by
 intro r;induction r with
 | nil=>
  intro i hr _ k hk ho;have:ops.toList.length<=i:=by rw[<- List.drop_eq_nil_iff];exact hr.symm
  simp at *;omega
 | cons o r ih=>
  intro i hr h k hk ho;obtain⟨h1,h2⟩:=dQ hr
  unfold zyt at h;rw[jC]at h;split at h
  ·rename_i h3
   rcases Nat.eq_or_lt_of_le hk with rfl | hk
   ·exact h3
   ·exact ih (i+1) h2 h k hk ho
  ·cases h
theorem zh0{ops:Array Oper}{anc:Tr Nat}{D:Nat}(h:wJ ops.toList anc [] D=true):∀k,k<ops.size->tb D k=true:=
 fun k hk=>zys _ 0 rfl h k (Nat.zero_le _) hk
theorem fX{ops:Array Oper}{anc:Tr Nat}{D:Nat}{st:vG}{r:List vG}(h:wJ ops.toList anc (st::r) D=true)(hlt:st.heavy<=ops.size) :
  (∀k o,ops[k]?=some o->tb D k=false->(∀j,aK o j->tb D j=true)->k=st.heavy) ∧
  (∀k o,ops[k]?=some o->tb D k=true->tb (nJ anc st.heavy) k=true\/zfr o.op=true\/rL o.op=true\/k∈st.again) ∧
  ∃D1 D2,mP ops.toList st.heavy D=some D1/\vM ops.toList st.lights D1=some D2/\wJ ops.toList anc r D2=true:=by
 unfold wJ at h;rw[jC,if_neg fun e=>by have:=pC.1 e;rw[xE]at this;simp at this;omega,jC]at h
 split at h
 case isFalse=>cases h
 rename_i h1;rw[jC]at h;split at h
 case isFalse=>cases h
 rename_i h2;refine⟨fun k o a b c=>zts _ 0 rfl h1 k o (Nat.zero_le _) a b c,fun k o a b=>zpi _ 0 rfl h2 k o (Nat.zero_le _) a b,?_⟩
 cases h3:mP ops.toList st.heavy D with
 | none=>rw[h3]at h;cases h
 | some D1=>
  rw[h3]at h;simp only[uA]at h
  cases h4:vM ops.toList st.lights D1 with
  | none=>rw[h4]at h;cases h
  | some D2=>rw[h4]at h;exact⟨D1,D2,rfl,h4,h⟩
theorem zdn{ops:Array Oper}{anc:Tr Nat}{D:Nat}{st:vG}{r:List vG}(h:wJ ops.toList anc (st::r) D=true)(hlt:ops.size<st.heavy) :
  ∃o D1 D2,ops[st.heavy-(ops.size+1)]?=some o/\rL o.op=true/\mP ops.toList (st.heavy-(ops.size+1)) D=some D1/\vM ops.toList st.lights D1=some D2/\wJ ops.toList anc r D2=true:=by
 have e0:Nat.sub st.heavy (Nat.succ (uB ops.toList))=st.heavy-(ops.size+1):=by rw[xE];simp
 unfold wJ at h;rw[jC,if_pos (pC.2 (by rw[xE];simpa using hlt)),jC,e0]at h
 split at h
 case isFalse=>cases h
 rename_i h1
 cases h3:mP ops.toList (st.heavy-(ops.size+1)) D with
 | none=>rw[h3]at h;cases h
 | some D1=>
  rw[h3]at h;simp only[uA]at h
  cases h4:vM ops.toList st.lights D1 with
  | none=>rw[h4]at h;cases h
  | some D2=>
   rw[h4]at h;rw[dD]at h1
   cases ho:ops.toList[st.heavy-(ops.size+1)]? with
   | none=>rw[ho]at h1;cases h1
   | some o=>rw[ho]at h1;exact⟨o,D1,D2,by simpa using ho,h1,rfl,h4,h⟩
end Go.Am
namespace Go.Am
open Go Go.RowKit
section
variable {P:Program}{C:iA}{μ:Mu}{all:Array Oper}{olds:List (Nat × List Nat)}{anc:Tr Nat}{n:Nat}{old tm:Tm}{D:Nat}{S:Nat->Bool}{order:List Nat}{tmps:Array Value}{ds:List Deferred}
theorem yX:sA μ zE undef:=by rw[zE,sA];exact⟨#[],rfl,rfl⟩
theorem zvv{e:xD}(hg:∀g,g<256->μ g=some ⟨g,true,0,0,true⟩)(ht:∀t v,zw8 t e=some v->sA μ v (tmps.getD t undef)):tF μ e (Act.eval ⟨tmps,ds⟩):=by
 intro x v h
 cases x with
 | tmp t=>exact ht t v h
 | const c=>exact zkh h
 | global g=>
  change zjj g e=some v at h
  unfold zjj at h;rw[jC]at h;split at h
  ·rename_i hlt
   cases h;rw[sA];exact⟨_,hg g (pC.1 hlt),rfl⟩
  ·cases h
 | func f=>
  change xFunc f e=some v at h
  cases h;rw[sA];exact⟨.func f,#[],#[],rfl,rfl,rfl,rfl⟩
theorem tE.erel(hg:∀g,g<256->μ g=some ⟨g,true,0,0,true⟩)(h:tE μ n tm tmps):tF μ (.now tm) (Act.eval ⟨tmps,ds⟩):=
 zvv hg fun t v hv=>h.2 t v hv
theorem Tm.get_set{t:Tm}{i j:Nat}{x:zA}:(t.set i x).get j=if j=i then some x else t.get j:=by
 unfold Tm.set Tm.get;simp only[lH];by_cases h:Nat.blt i t.k=true
 ·rw[if_pos h]
  simp only[];by_cases hj:j=i
  ·subst hj;rw[if_pos h,if_pos rfl,Tr.get_set,if_pos rfl]
  ·rw[if_neg hj,Tr.get_set,if_neg hj]
 ·rw[if_neg h]
  simp only[];have as:z0n j ((i,x)::t.t)=if j=i then some x else z0n j t.t:=by
   show(Bool.rec (motive:=fun _=>Option zA) (z0n j t.t) (some x) (Nat.beq j i))=_
   rw[lH];by_cases hj:j=i
   ·rw[if_pos (aB.2 hj),if_pos hj]
   ·rw[if_neg (fun e=>hj (aB.1 e)),if_neg hj]
  by_cases hj:j=i
  ·subst hj;rw[if_neg h,if_pos rfl,as,if_pos rfl]
  ·rw[if_neg hj]
   rw[as,if_neg hj]
theorem cH{dst:Option Nat}{v:zA}{t:Nat}:(putA n tm dst v).get t=if dst=some t/\t<n then some v else tm.get t:=by
 unfold putA putB
 cases dst with
 | none=>simp[putNo]
 | some d=>
  simp only[zyj];rw[jC];by_cases h:Nat.blt d n=true
  ·rw[if_pos h,Tm.get_set]
   by_cases e:t=d
   ·subst e;rw[if_pos rfl,if_pos ⟨rfl,pC.1 h⟩]
   ·rw[if_neg e,if_neg fun k=>e (ybj k.1).symm]
  ·rw[if_neg h,if_neg]
   rintro⟨e,h2⟩
   cases e
   exact h (pC.2 h2)
def wM(tm old:Tm)(olds:List (Nat × List Nat))(i:Nat)(o:Oper):xD:=.mixed tm old (cE i olds) (sH o.op)
structure dG (μ:Mu) (all:Array Oper) (olds:List (Nat × List Nat)) (anc:Tr Nat) (n:Nat) (old tm:Tm) (D:Nat) (S:Nat->Bool) (order:List Nat) (tmps:Array Value):Prop where
 reg:zP all olds anc
 sched:z0s all S order
 sub:∀i,S i=true->tb D i=true
 closed:aP all S
 dclosed:aP all (tb D)
 size:tmps.size=n
 now:∀(i:Nat) (o:Oper) (d:Nat) (v:zA),all[i]?=some o->o.dst=some d->S i=true->d<n->tm.get d=some v->sA μ v (tmps.getD d undef)
 past:∀(d:Nat) (v:zA),d<n->(∀(i:Nat) (o:Oper),all[i]?=some o->o.dst=some d->S i=false)->old.get d=some v->sA μ v (tmps.getD d undef)
 keep:∀d:Nat,d<n->(∀(i:Nat) (o:Oper),all[i]?=some o->o.dst=some d->tb D i=false)->tm.get d=old.get d
 big:∀(d:Nat) (v:zA),n<=d->(tm.get d=some v\/old.get d=some v)->sA μ v undef
theorem zP.up(R:zP all olds anc)(hS:aP all S){i j:Nat}{o:Oper}(ho:all[i]?=some o)(hp:∀j,aK o j->S j=true)(h:tb (nJ anc i) j=true):S j=true:=
 R.before i S hS (fun o' ho'=>by rw[ho]at ho';cases ho';exact hp) j h
theorem wV{d:Nat}(h:tmps.size<=d):tmps.getD d undef=undef:=by
 simp[Array.getD,Nat.not_lt.2 h]
theorem dG.erel(R:dG μ all olds anc n old tm D S order tmps)(hg:∀g,g<256->μ g=some ⟨g,true,0,0,true⟩){i:Nat}{o:Oper}(ho:all[i]?=some o)(hi:S i=false)(hp:∀j,aK o j->S j=true) :
  tF μ (wM tm old olds i o) (Act.eval ⟨tmps,ds⟩):=by
 refine zvv hg fun t v h=>?_
 unfold wM at h;simp only[zw8]at h;rw[jC]at h;split at h
 case isFalse=>cases h
 rename_i hn;have hn:=(lP _ _).1 hn
 by_cases hd:t<n
 ·by_cases hw:∃(j:Nat) (u:Oper),all[j]?=some u/\u.dst=some t
  ·obtain⟨j,u,hu,hud⟩:=hw
   have nm:=R.reg.name i o j u t ho hu hud hn
   by_cases hold:t∈cE i olds
   ·rw[if_pos hold]at nm
    rw[(lP _ _).2 hold]at h
    simp only[cond_true]at h;have hj:S j=false:=by
     rcases nm with rfl | nm
     ·exact hi
     ·cases hj:S j with
      | false=>rfl
      | true=>
       have:=R.reg.up R.closed hu (fun k hk=>R.closed j u hu hj k hk) nm
       rw[hi]at this;cases this
    refine R.past t v hd (fun i' o' ho' hd'=>?_) h
    have:=R.reg.one i' j o' u t ho' hu hd' hud
    rw[this];exact hj
   ·rw[if_neg hold]at nm
    have:rH t (cE i olds)=false:=by
     cases hm:rH t (cE i olds)with
     | false=>rfl
     | true=>exact absurd ((lP _ _).1 hm) hold
    rw[this]at h;simp only[cond_false]at h;exact R.now j u t v hu hud (R.reg.up R.closed ho hp nm) hd h
  ·have none1:∀(i:Nat) (o:Oper),all[i]?=some o->o.dst=some t->S i=false:=fun i o h1 h2=>absurd ⟨i,o,h1,h2⟩ hw
   have k:=R.keep t hd fun i o h1 h2=>absurd ⟨i,o,h1,h2⟩ hw
   refine R.past t v hd none1 ?_
   cases hm:rH t (cE i olds)with
   | false=>rw[hm]at h;rw[<- k];exact h
   | true=>rw[hm]at h;exact h
 ·rw[wV (by rw[R.size];omega)]
  refine R.big t v (by omega) ?_
  cases hm:rH t (cE i olds)with
  | false=>rw[hm]at h;exact .inl h
  | true=>rw[hm]at h;exact .inr h
theorem zgy{v:zA}{b:Bool}(h:sA μ v (.bool b)):v=.bool b:=by
 cases v<;>rw[sA]at h
 case bool=>cases h;rfl
 all_goals simp at h
theorem dG.wanted(R:dG μ all olds anc n old tm D S order tmps){i:Nat}{o:Oper}{w:Bool}(ho:all[i]?=some o)(hp:∀j,aK o j->S j=true)(h:gE o.guard all tm=some w) :
  Region.wanted o (yielded all tmps)=w:=by
 have hgd:=R.reg.guard i o ho
 unfold gE zq0 at h;unfold Region.wanted
 cases hg:o.guard with
 | none=>rw[hg]at h;cases h;rfl
 | some jw=>
  obtain⟨j,want⟩:=jw
  rw[hg]at h hgd;simp only[zgx,mA,dD]at h;obtain⟨d,⟨u,hu,hud⟩,v,hv,h⟩:=h
  have hu':all[j]?=some u:=by simpa using hu
  have hj:S j=true:=R.reg.up R.closed ho hp hgd
  have hy:yielded all tmps j=match tmps[d]? with | some (.bool b)=>some b | _=>none:=by
   unfold yielded;rw[hu'];simp[hud]
   rfl
  simp only[];rw[hy];by_cases hd:d<n
  ·have hs:d<tmps.size:=by rw[R.size];exact hd
   have rel:=R.now j u d v hu' hud hj hd hv
   have e1:tmps[d]?=some (tmps.getD d undef):=by simp[Array.getD,hs]
   rw[e1];generalize tmps.getD d undef=x at rel
   cases hb:v.asBool with
   | some b=>
    rw[hb]at h;have:v=.bool b:=by cases v<;>simp[zA.asBool]at hb;rw[hb]
    rw[this,sA]at rel;subst rel;simp only[Option.some.injEq]at h;rw[<- h,vS]
    cases b<;>cases want<;>rfl
   | none=>
    rw[hb]at h
    cases h
    cases x with
    | bool b=>rw[zgy rel]at hb;cases hb
    | _=>rfl
  ·have e1:tmps[d]?=none:=by simp[R.size];omega
   rw[e1];have rel:=R.big d v (by omega) (.inl hv)
   cases hb:v.asBool with
   | some b=>
    have:v=.bool b:=by cases v<;>simp[zA.asBool]at hb;rw[hb]
    rw[this,sA]at rel
    cases rel
   | none=>rw[hb]at h;cases h;rfl
theorem dG.did{i:Nat}{D':Nat}{tm':Tm}{v:zA}{v':Value}{o:Oper}(R:dG μ all olds anc n old tm D S (i::order) tmps)(ho:all[i]?=some o)
  (hD:∀k,tb D' k=(tb D k||k == i)) (hput:∀d,o.dst=some d->d<n->tm'.get d=some v) (hother:∀d,(o.dst=some d->n<=d)->tm'.get d=tm.get d) (hv:sA μ v v') :
  dG μ all olds anc n old tm' D' (fun k=>S k||k == i) order (Act.put ⟨tmps,ds⟩ o.dst v').tmps:=by
 obtain⟨o',ho',hi,hp,hs⟩:=R.sched
 rw[ho]at ho';cases ho'
 have htm:∀d,(Act.put ⟨tmps,ds⟩ o.dst v').tmps.getD d undef=if o.dst=some d/\d<n then v' else tmps.getD d undef:=by
  intro d;unfold Act.put
  cases hd:o.dst with
  | none=>simp
  | some d0=>
   simp only[yby,ybt];by_cases e:d0=d
   ·subst e
    by_cases hn:d0<n
    ·simp[hn,R.size]
    ·simp[hn,R.size]
   ·simp[e]
 have hsz:(Act.put ⟨tmps,ds⟩ o.dst v').tmps.size=n:=by
  unfold Act.put
  cases o.dst<;>simp[R.size]
 refine⟨R.reg,hs,fun k hk=>?_,?_,?_,hsz,?_,?_,?_,?_⟩
 ·rw[hD]
  simp only[ybr]at hk ⊢
  exact hk.imp (R.sub k) id
 ·intro k u hu hk j hj
  simp only[ybr,beq_iff_eq]at hk ⊢
  rcases hk with hk | rfl
  ·exact .inl (R.closed k u hu hk j hj)
  ·rw[ho]at hu;cases hu
   exact .inl (hp j hj)
 ·intro k u hu hk j hj
  rw[hD]at hk ⊢
  simp only[ybr,beq_iff_eq]at hk ⊢
  rcases hk with hk | rfl
  ·exact .inl (R.dclosed k u hu hk j hj)
  ·rw[ho]at hu;cases hu
   exact .inl (R.sub j (hp j hj))
 ·intro k u d x hu hud hk hd hx
  rw[htm];by_cases e:o.dst=some d
  ·rw[if_pos ⟨e,hd⟩]
   rw[hput d e hd]at hx;cases hx;exact hv
  ·rw[if_neg fun h=>e h.1]
   rw[hother d fun h=>absurd h e]at hx;refine R.now k u d x hu hud ?_ hd hx
   simp only[ybr,beq_iff_eq]at hk;rcases hk with hk | rfl
   ·exact hk
   ·rw[ho]at hu;cases hu;exact absurd hud e
 ·intro d x hd hw hx
  rw[htm];have e:o.dst≠some d:=fun e=>by
   have:=hw i o ho e
   simp at this
  rw[if_neg fun h=>e h.1];refine R.past d x hd (fun k u hu hud=>?_) hx
  have:=hw k u hu hud
  simp only[Bool.or_eq_false_iff]at this;exact this.1
 ·intro d hd hw
  have e:o.dst≠some d:=fun e=>by
   have:=hw i o ho e
   rw[hD]at this;simp at this
  rw[hother d fun h=>absurd h e];refine R.keep d hd fun k u hu hud=>?_
  have:=hw k u hu hud
  rw[hD]at this;simp only[Bool.or_eq_false_iff]at this;exact this.1
 ·intro d x hd hx
  refine R.big d x hd ?_
  rw[hother d fun _=>hd]at hx;exact hx
end
end Go.Am
namespace Go.Am.HM
open Go Go.Am
def HLe (H H':rA):Prop:=∀b y,H.t.get b=some y->H'.t.get b=some y
section
variable {H HA:rA}{e:xD}{C:iA}{v:zA}
theorem pM(h:HLe H HA){b:Nat}{p:Tr zA × Nat × Option Nat}(hb:oD H b=some p):oD HA b=some p:=by
 unfold oD at hb ⊢;rw[mA]at hb ⊢;obtain⟨y,h1,h2⟩:=hb;exact⟨y,h _ _ h1,h2⟩
theorem pV(h:HLe H HA){b:Nat}{p:List (zA × zA)}(hb:nL H b=some p):nL HA b=some p:=by
 unfold nL at hb ⊢;rw[mA]at hb ⊢;obtain⟨y,h1,h2⟩:=hb;exact⟨y,h _ _ h1,h2⟩
theorem zad(h:HLe H HA){s d:wD}{a:zA}(hx:wN C s d a H=some v):wN C s d a HA=some v:=by
 unfold wN at hx ⊢
 split at hx
 ·rename_i k hk;exact hx
 ·rename_i hk
  rw[mB]at hx ⊢
  refine⟨hx.1,?_⟩
  have hx:=hx.2
  rw[jC]at hx ⊢
  split at hx
  ·rename_i e;rw[if_pos e];exact hx
  ·rename_i e
   rw[if_neg e];simp only[mA,mB]at hx ⊢
   obtain⟨a1,h1,b1,h2,k1,h3,h4,h5⟩:=hx
   refine⟨a1,h1,b1,h2,k1,h3,h4,?_⟩
   unfold qV at h5 ⊢
   split at h5
   ·simp only[mA]at h5 ⊢
    obtain⟨c,g1,g2⟩:=h5
    exact⟨c,pM h g1,g2⟩
   ·exact h5
theorem zdk(h:HLe H HA){b size cap l:Nat}{arr:Bool}(hx:oH H b size cap l arr=true):oH HA b size cap l arr=true:=by
 unfold oH at hx ⊢
 cases hc:oD H b with
 | none=>rw[hc]at hx;cases hx
 | some c=>rw[hc]at hx;rw[pM h hc];exact hx
theorem iY(h:HLe H HA){ty:wD}{a:zA}{l r:Option zA}(hx:aJ C H ty a l r=some v):aJ C HA ty a l r=some v:=by
 have row:∀ {arr e b off len cap},wL C H arr e b off len cap l r=some v->wL C HA arr e b off len cap l r=some v:=by
  intro arr e b off len cap hx;unfold wL at hx ⊢
  simp only[mA]at hx ⊢
  obtain⟨a1,h1,b1,h2,hx⟩:=hx
  refine⟨a1,h1,b1,h2,?_⟩
  cases hb:oD H b with
  | none=>
   have e1:iH H b a1.size cap b1.1 arr=false:=by unfold iH;rw[hb]
   have e2:oH H b a1.size cap b1.1 arr=false:=by unfold oH;rw[hb]
   rw[e1,e2,Bool.and_false,Bool.and_false]at hx
   cases hx
  | some c=>
   have e1:iH HA b a1.size cap b1.1 arr=iH H b a1.size cap b1.1 arr:=by unfold iH;rw[hb,pM h hb]
   have e2:oH HA b a1.size cap b1.1 arr=oH H b a1.size cap b1.1 arr:=by unfold oH;rw[hb,pM h hb]
   rw[e1,e2];exact hx
 unfold aJ at hx ⊢
 split at hx
 ·exact hx
 ·split at hx
  ·rw[mA]at hx ⊢;obtain⟨a1,h1,h2⟩:=hx;exact⟨a1,h1,row h2⟩
  ·split at hx
   ·rw[mA]at hx ⊢;obtain⟨a1,h1,h2⟩:=hx;exact⟨a1,h1,row h2⟩
   ·exact hx
theorem zaa(h:HLe H HA){m:zA}{l:List (zA × zA)}(hx:kP H m=some l):kP HA m=some l:=by
 unfold kP at hx ⊢
 split at hx
 ·exact pV h hx
 ·exact hx
theorem zcj(h:HLe H HA){ty:wD}{a:zA}{n:Nat}(hx:zui H ty a=some n):zui HA ty a=some n:=by
 unfold zui at hx ⊢
 split at hx
 ·exact hx
 ·split at hx
  ·exact hx
  ·split at hx
   ·exact hx
   ·split at hx
    ·rw[mB,mA]at hx ⊢
     obtain⟨h1,l,h2,h3⟩:=hx
     exact⟨h1,l,pV h h2,h3⟩
    ·exact hx
theorem alight_mono(h:HLe H HA){o:Op}(hx:(pF o).f C e H=some v):(pF o).f C e HA=some v:=by
 cases o<;>first | exact hx | skip
 case makeFunc fn a b=>cases fn<;>exact hx
 case load t a=>
  change bM t a C e H=some v at hx
  show bM t a C e HA=some v
  unfold bM at hx ⊢
  simp only[mA]at hx ⊢
  obtain⟨a1,h1,p,h2,y,h3,c,h4,h5⟩:=hx
  exact⟨a1,h1,p,h2,y,h3,c,pM h h4,h5⟩
 case convert s d x=>
  change sL s d x C e H=some v at hx
  show sL s d x C e HA=some v
  unfold sL at hx ⊢
  simp only[mA]at hx ⊢
  obtain⟨a1,h1,b1,h2,c1,h3,h4⟩:=hx
  exact⟨a1,h1,b1,h2,c1,h3,zad h h4⟩
 case slice t x lo hi mx=>
  cases mx with
  | some m=>exact hx
  | none=>
   change eQ t x lo hi C e H=some v at hx
   show eQ t x lo hi C e HA=some v
   unfold eQ at hx ⊢
   simp only[mA]at hx ⊢
   obtain⟨a1,h1,b1,h2,c1,h3,d1,h4,h5⟩:=hx
   exact⟨a1,h1,b1,h2,c1,h3,d1,h4,iY h h5⟩
 case lookup t x i ok=>
  change kO t x i ok C e H=some v at hx
  show kO t x i ok C e HA=some v
  unfold kO at hx ⊢
  simp only[mA,mB]at hx ⊢
  obtain⟨a1,h1,b1,h2,c1,h3,h4,d1,h5,m,h6,es,h7,h8⟩:=hx
  exact⟨a1,h1,b1,h2,c1,h3,h4,d1,h5,m,h6,es,zaa h h7,h8⟩
 case call c=>
  change (iN c c.callee).f C e H=some v at hx
  show(iN c c.callee).f C e HA=some v
  cases hc:c.callee with
  | builtin b=>
   rw[hc]at hx
   cases b<;>first | exact hx | skip
   case len=>
    change zni c C e H=some v at hx
    show zni c C e HA=some v
    unfold zni at hx ⊢
    simp only[mA]at hx ⊢
    obtain⟨a1,h1,b1,h2,c1,h3,d1,h4,n,h5,h6⟩:=hx
    exact⟨a1,h1,b1,h2,c1,h3,d1,h4,n,zcj h h5,h6⟩
  | _=>rw[hc]at hx;exact hx
end
end Go.Am.HM
namespace Go.Am
open Go Go.RowKit
theorem zlu{o:Op}(h:zfr o=true)(C:iA)(e:xD)(H H':rA):(pF o).f C e H=(pF o).f C e H':=by
 cases o<;>first | (simp[zfr]at h;done) | rfl | skip
 case makeFunc fn a b=>cases fn<;>rfl
theorem zje{e e':xD}(h:∀x,ev x e=ev x e')(o:Op)(C:iA)(H:rA):(pF o).f C e H=(pF o).f C e' H:=by
 have hs:∀l,evs l e=evs l e':=fun l=>by unfold evs;rw[funext h]
 have hp:∀l,evp l e=evp l e':=fun l=>by unfold evp;simp only[h]
 have ho:∀x,evo x e=evo x e':=fun x=>by cases x<;>simp[evo,h]
 cases o<;>first | rfl | skip
 case move x=>exact h x
 case assign x=>exact h x
 case pick c a b=>simp only[pF,zum,h]
 case load t a=>simp only[pF,bM,h]
 case nilCheck x=>simp only[pF,zza,h]
 case binOp op t x y z=>simp only[pF,gK,h]
 case unOp op t x=>simp only[pF,lUn,h]
 case convert s d x=>simp only[pF,sL,h]
 case makeInterface t x=>simp only[pF,kR,h]
 case makeFunc fn a b=>cases fn<;>simp only[pF,jR,zuv,zf2,hs]
 case slice t x lo hi mx=>cases mx<;>simp only[pF,pW,eQ,zf2,h,ho]
 case fieldAddr s x f=>simp only[pF,hO,h]
 case field t x f=>simp only[pF,iR,h]
 case indexAddr t x i=>simp only[pF,jO,h]
 case index t x i=>simp only[pF,iO,h]
 case extract t i=>simp only[pF,gO,h]
 case build t ps=>simp only[pF,jP,hp]
 case typeAssert x a u ok=>simp only[pF,fO,h]
 case lookup t x i ok=>simp only[pF,kO,h]
 case call c=>
  have h2:two c e=two c e':=by unfold two;split<;>simp only[h]
  simp only[pF,lCall]
  cases c.callee with
  | builtin b=>cases b<;>simp only[iN,zf3,zf2,zni,zur,zup,h,h2]
  | _=>rfl
theorem zn3{e e':xD}(h:∀t,zw8 t e=zw8 t e')(x:Operand):ev x e=ev x e':=by
 cases x with
 | tmp t=>exact h t
 | _=>rfl
theorem zcc{tm tm' old:Tm}{olds:List (Nat × List Nat)}{i:Nat}{o:Oper}(h:∀t∈sH o.op,t∉cE i olds->tm'.get t=tm.get t)(C:iA)(H:rA) :
  (pF o.op).f C (wM tm' old olds i o) H=(pF o.op).f C (wM tm old olds i o) H:=by
 refine zje (zn3 fun t=>?_) _ _ _
 simp only[wM,zw8]
 cases hn:rH t (sH o.op)with
 | false=>rfl
 | true=>
  cases hm:rH t (cE i olds)with
  | true=>rfl
  | false=>exact h t ((lP _ _).1 hn) fun k=>by rw[(lP _ _).2 k]at hm;cases hm
section
variable {P:Program}{C:iA}{μ:Mu}{H H':rA}{all:Array Oper}{olds:List (Nat × List Nat)}{anc:Tr Nat}{n:Nat}{old tm tm':Tm}{D:Nat}{S:Nat->Bool}{order:List Nat}{tmps:Array Value}{ds:List Deferred}
structure rK (C:iA) (H:rA) (all:Array Oper) (olds:List (Nat × List Nat)) (n:Nat) (old tm:Tm) (i:Nat) (o:Oper) (w:Bool) (v:zA):Prop where
 op:all[i]?=some o
 want:gE o.guard all tm=some w
 val:if w=true then(pF o.op).f C (wM tm old olds i o) H=some v else v=zE
 put:∀d,o.dst=some d->d<n->tm.get d=some v
theorem rK.pure{i:Nat}{o:Oper}{w:Bool}{v:zA}(h:rK C H all olds n old tm i o w v)(hp:zfr o.op=true)(H':rA):rK C H' all olds n old tm i o w v:=
 ⟨h.op,h.want,by have:=h.val;cases w with | false=>exact this | true=>rw[if_pos rfl]at this ⊢;rw[<- this];exact zlu hp _ _ _ _,h.put⟩
theorem wW(R:zP all olds anc)(hD:aP all (tb D)){i k:Nat}{o u:Oper}(ho:all[i]?=some o)(hi:tb D i=true\/(i=k/\∀j,aK o j->tb D j=true))(hu:all[k]?=some u)(hk:tb D k=false) :
  (∀t∈sH o.op,t∉cE i olds->u.dst≠some t)/\(∀j w,o.guard=some (j,w)->∀g,all[j]?=some g->∀d,g.dst=some d->u.dst≠some d):=by
 have up:∀j,tb (nJ anc i) j=true->tb D j=true:=fun j hj=>R.up hD ho (by
  rcases hi with hi | ⟨_,hi⟩
  ·exact fun j hj=>hD i o ho hi j hj
  ·exact hi) hj
 constructor
 ·intro t ht hto e
  have:=R.name i o k u t ho hu e ht
  rw[if_neg hto]at this;have:=up k this
  rw[hk]at this;cases this
 ·intro j w hg g hgj d hd e
  have h1:=R.guard i o ho
  rw[hg]at h1;have h2:=up j h1
  have:=R.one j k g u d hgj hu hd e
  rw[this,hk]at h2;cases h2
theorem jV{o:Oper}(h:∀j w,o.guard=some (j,w)->∀g,all[j]?=some g->∀d,g.dst=some d->tm'.get d=tm.get d):gE o.guard all tm'=gE o.guard all tm:=by
 unfold gE zq0
 cases hg:o.guard with
 | none=>rfl
 | some jw=>
  obtain⟨j,w⟩:=jw
  simp only[zgx,dD]
  cases hj:all.toList[j]? with
  | none=>rfl
  | some g=>
   simp only[uA]
   cases hd:g.dst with
   | none=>rfl
   | some d=>simp only[uA];rw[h j w hg g (by simpa using hj) d hd]
theorem rK.keep(R:zP all olds anc)(hD:aP all (tb D)){i k:Nat}{o u:Oper}{w:Bool}{v x:zA}(h:rK C H all olds n old tm i o w v)(hi:tb D i=true)(hu:all[k]?=some u)(hk:tb D k=false) :
  rK C H all olds n old (putA n tm u.dst x) i o w v:=by
 obtain⟨r1,r2⟩:=wW R hD h.op (.inl hi) hu hk
 refine⟨h.op,?_,?_,?_⟩
 ·rw[jV (tm:=tm) fun j w hg g hj d hd=>by rw[cH,if_neg fun e=>r2 j w hg g hj d hd e.1]]
  exact h.want
 ·have:=h.val
  cases w with
  | false=>exact this
  | true=>
   rw[if_pos rfl]at this ⊢
   rw[zcc (tm:=tm) fun t ht hto=>by rw[cH,if_neg fun e=>r1 t ht hto e.1]]
   exact this
 ·intro d hd hn
  rw[cH,if_neg]
  ·exact h.put d hd hn
  ·rintro⟨e,_⟩
   have:=R.one i k o u d h.op hu hd e
   rw[this,hk]at hi;cases hi
theorem rK.grow{i:Nat}{o:Oper}{w:Bool}{v:zA}(h:rK C H all olds n old tm i o w v)(hle:HM.HLe H H'):rK C H' all olds n old tm i o w v:=
 ⟨h.op,h.want,by have:=h.val;cases w with | false=>exact this | true=>rw[if_pos rfl]at this ⊢;exact HM.alight_mono hle this,h.put⟩
structure yP (C:iA) (μ:Mu) (dp:Nat) (all:Array Oper) (olds:List (Nat × List Nat)) (n:Nat) (old tm:Tm) (i:Nat) (o:Oper) (v:zA):Prop where
 op:all[i]?=some o
 flo:rL o.op=true
 want:gE o.guard all tm=some true
 val:∃H0 l,(rF o.op).f C (wM tm old olds i o) H0=.val v (vF H0 l none)/\μ.pd H0.next=some (.cells (Tr.ofList l) (uB l) none,dp,i)
 put:∀d,o.dst=some d->d<n->tm.get d=some v
structure Mu.ln (dp:Nat) (μ ν:Mu):Prop where
 f:∀a i,μ a=some i->ν a=some i
 pd:∀a x j,μ.pd a=some (x,dp,j)->ν.pd a=some (x,dp,j)
instance {dp:Nat} {μ ν:Mu}:CoeOut (μ.ln dp ν) (μ.lw ν):=⟨Mu.ln.f⟩
theorem Mu.le.ln{μ ν:Mu}(h:μ.le ν)(dp:Nat):μ.ln dp ν:=⟨h.f,fun a x j k=>by rw[h.pd];exact k⟩
instance {dp:Nat} {μ ν:Mu}:Coe (μ.le ν) (μ.ln dp ν):=⟨fun h=>h.ln dp⟩
theorem Mu.ln_refl(μ:Mu)(dp:Nat):μ.ln dp μ:=⟨fun _ _ h=>h,fun _ _ _ h=>h⟩
theorem Mu.ln_trans{dp:Nat}{a b c:Mu}(h:a.ln dp b)(k:b.ln dp c):a.ln dp c:=⟨fun x i hx=>k.f x i (h.f x i hx),fun x y j hx=>k.pd x y j (h.pd x y j hx)⟩
theorem yP.mono{ν:Mu}{dp:Nat}(h:μ.ln dp ν){i:Nat}{o:Oper}{v:zA}(p:yP C μ dp all olds n old tm i o v):yP C ν dp all olds n old tm i o v:=by
 obtain⟨H0,l,h1,h2⟩:=p.val
 exact⟨p.op,p.flo,p.want,⟨H0,l,h1,h.pd _ _ _ h2⟩,p.put⟩
theorem fZ{tm tm' old:Tm}{i:Nat}{o:Oper}(hf:rL o.op=true)(h:∀t∈sH o.op,t∉cE i olds->tm'.get t=tm.get t)(C:iA)(H:rA) :
  (rF o.op).f C (wM tm' old olds i o) H=(rF o.op).f C (wM tm old olds i o) H:=by
 refine zky (zn3 fun t=>?_) hf _
 simp only[wM,zw8]
 cases hn:rH t (sH o.op)with
 | false=>rfl
 | true=>
  cases hm:rH t (cE i olds)with
  | true=>rfl
  | false=>exact h t ((lP _ _).1 hn) fun k=>by rw[(lP _ _).2 k]at hm;cases hm
theorem yP.keep{dp:Nat}(R:zP all olds anc)(hD:aP all (tb D)){i k:Nat}{o u:Oper}{v x:zA}(h:yP C μ dp all olds n old tm i o v)(hi:tb D i=true)(hu:all[k]?=some u)(hk:tb D k=false) :
  yP C μ dp all olds n old (putA n tm u.dst x) i o v:=by
 obtain⟨r1,r2⟩:=wW R hD h.op (.inl hi) hu hk
 obtain⟨H0,l,h1,h2⟩:=h.val
 refine⟨h.op,h.flo,?_,⟨H0,l,?_,h2⟩,?_⟩
 ·rw[jV (tm:=tm) fun j w hg g hj d hd=>by rw[cH,if_neg fun e=>r2 j w hg g hj d hd e.1]]
  exact h.want
 ·rw[fZ (tm:=tm) h.flo fun t ht hto=>by rw[cH,if_neg fun e=>r1 t ht hto e.1]]
  exact h1
 ·intro d hd hn
  rw[cH,if_neg]
  ·exact h.put d hd hn
  ·rintro⟨e,_⟩
   have:=R.one i k o u d h.op hu hd e
   rw[this,hk]at hi;cases hi
theorem yP.fresh{dp:Nat}(R:zP all olds anc)(hD:aP all (tb D)){i:Nat}{o:Oper}{v:zA}(ho:all[i]?=some o)(hp:∀j,aK o j->tb D j=true)(hi:tb D i=false)
  (hf:rL o.op=true) (hw:gE o.guard all tm=some true) (hv:∃H0 l,(rF o.op).f C (wM tm old olds i o) H0=.val v (vF H0 l none)/\μ.pd H0.next=some (.cells (Tr.ofList l) (uB l) none,dp,i)) :
  yP C μ dp all olds n old (putA n tm o.dst v) i o v:=by
 obtain⟨r1,r2⟩:=wW R hD ho (.inr ⟨rfl,hp⟩) ho hi
 obtain⟨H0,l,h1,h2⟩:=hv
 refine⟨ho,hf,?_,⟨H0,l,?_,h2⟩,?_⟩
 ·rw[jV (tm:=tm) fun j w hg g hj d hd=>by rw[cH,if_neg fun e=>r2 j w hg g hj d hd e.1]]
  exact hw
 ·rw[fZ (tm:=tm) hf fun t ht hto=>by rw[cH,if_neg fun e=>r1 t ht hto e.1]]
  exact h1
 ·intro d hd hn
  rw[cH,if_pos ⟨hd,hn⟩]
theorem rK.fresh(R:zP all olds anc)(hD:aP all (tb D)){i:Nat}{o:Oper}{w:Bool}{v:zA}(ho:all[i]?=some o)(hp:∀j,aK o j->tb D j=true)(hi:tb D i=false)
  (hw:gE o.guard all tm=some w) (hv:if w=true then(pF o.op).f C (wM tm old olds i o) H=some v else v=zE) :
  rK C H all olds n old (putA n tm o.dst v) i o w v:=by
 obtain⟨r1,r2⟩:=wW R hD ho (.inr ⟨rfl,hp⟩) ho hi
 refine⟨ho,?_,?_,?_⟩
 ·rw[jV (tm:=tm) fun j w hg g hj d hd=>by rw[cH,if_neg fun e=>r2 j w hg g hj d hd e.1]]
  exact hw
 ·cases w with
  | false=>exact hv
  | true=>
   rw[if_pos rfl]at hv ⊢
   rw[zcc (tm:=tm) fun t ht hto=>by rw[cH,if_neg fun e=>r1 t ht hto e.1]]
   exact hv
 ·intro d hd hn
  rw[cH,if_pos ⟨hd,hn⟩]
theorem dG.light{i:Nat}{o:Oper}{v:zA}{D':Nat}(R:dG μ all olds anc n old tm D S order tmps)(ho:all[i]?=some o)(hi:tb D i=false)(hp:∀j,aK o j->tb D j=true)(hD:∀k,tb D' k=(tb D k||k == i)) :
  dG μ all olds anc n old (putA n tm o.dst v) D' S order tmps:=by
 refine⟨R.reg,R.sched,fun k hk=>by rw[hD,R.sub k hk];rfl,R.closed,?_,R.size,?_,R.past,?_,?_⟩
 ·intro k u hu hk j hj
  rw[hD]at hk ⊢
  simp only[ybr,beq_iff_eq]at hk ⊢
  rcases hk with hk | rfl
  ·exact .inl (R.dclosed k u hu hk j hj)
  ·rw[ho]at hu;cases hu
   exact .inl (hp j hj)
 ·intro k u d x hu hud hk hd hx
  rw[cH,if_neg]at hx
  ·exact R.now k u d x hu hud hk hd hx
  ·rintro⟨e,_⟩
   have:=R.reg.one k i u o d hu ho hud e
   have hk':=R.sub k hk
   rw[this,hi]at hk';cases hk'
 ·intro d hd hw
  rw[cH,if_neg]
  ·refine R.keep d hd fun k u hu hud=>?_
   have:=hw k u hu hud
   rw[hD]at this;simp only[Bool.or_eq_false_iff]at this;exact this.1
  ·rintro⟨e,_⟩
   have:=hw i o ho e
   rw[hD]at this;simp at this
 ·intro d x hd hx
  refine R.big d x hd ?_
  rw[cH,if_neg fun e=>absurd e.2 (by omega)]at hx
  exact hx
theorem dG.mono{ν:Mu}(hm:μ.lw ν)(R:dG μ all olds anc n old tm D S order tmps):dG ν all olds anc n old tm D S order tmps:=
 ⟨R.reg,R.sched,R.sub,R.closed,R.dclosed,R.size,fun i o d v a b c e f=>(R.now i o d v a b c e f).mono hm _ _,fun d v a b c=>(R.past d v a b c).mono hm _ _,R.keep,fun d v a b=>(R.big d v a b).mono hm _ _⟩
end
end Go.Am
namespace Go.Am
open Go Go.RowKit
section steps
variable {P:Program}{fr b:Frame}{a:Act}{k:List Item}{cs:List Frame}{w w':World}{s:Sem Next}{ops:Array Oper}
theorem zlp{v:Value}(hr:s.run P w=.ok (.value v) w') :
  (stepG.apply P true fr cs none s w).bare=.go { frame:=fr.finish v,callers:=cs,status:=.running,dying:=none } w':=by
 simp[stepG.apply,Sem.runT_eq,hr]
theorem zqf(hr:s.run P w=.ok .skip w') :
  (stepG.apply P true fr cs none s w).bare=.go { frame:=fr.finish undef,callers:=cs,status:=.running,dying:=none } w':=by
 simp[stepG.apply,Sem.runT_eq,hr]
theorem mY{i:Nat}{rest:List Nat}{o:Oper}{v:Value}(ho:ops[i]?=some o)(hw:Region.wanted o (yielded ops a.tmps)=true)
  (hr:(o.semAt b.roundOf a.eval).run P w=.ok (.value v) w') :
  step P (lone (b.atR a (.inRegion ops (i::rest)::k)) cs w)=.next (lone (b.atR (a.put o.dst v) (.inRegion ops rest::k)) cs w'):=by
 have:=Frame.finish_atR b a ops i rest k v
 rw[ho]at this;simp only[Option.bind_some]at this;rw[<- this];exact step_lone_go (by rw[stepGR_op ho hw];exact zlp hr)
theorem zfg{i:Nat}{rest:List Nat}{o:Oper}(ho:ops[i]?=some o)(hw:Region.wanted o (yielded ops a.tmps)=true)
  (hr:(o.semAt b.roundOf a.eval).run P w=.ok .skip w') :
  step P (lone (b.atR a (.inRegion ops (i::rest)::k)) cs w)=.next (lone (b.atR (a.put o.dst undef) (.inRegion ops rest::k)) cs w'):=by
 have:=Frame.finish_atR b a ops i rest k undef
 rw[ho]at this;simp only[Option.bind_some]at this;rw[<- this];exact step_lone_go (by rw[stepGR_op ho hw];exact zqf hr)
theorem lY{i:Nat}{rest:List Nat}{o:Oper}(ho:ops[i]?=some o)(hw:Region.wanted o (yielded ops a.tmps)=false) :
  step P (lone (b.atR a (.inRegion ops (i::rest)::k)) cs w)=.next (lone (b.atR (a.put o.dst undef) (.inRegion ops rest::k)) cs w):=by
 have:=stepR_op_skip (P:=P) (b:=b) (a:=a) (k:=k) (cs:=cs) (w:=w) (ops:=ops) (i:=i) (rest:=rest) (by rw[ho];simpa using hw)
 rw[this,ho];rfl
end steps
mutual
theorem zj8:∀(d:Nat) (a b:zA),same d a b=true->a=b
 | d,a,b,h=>by
  cases a<;>cases b<;>cases d<;>simp[same,vS,oJ,zcq,zO,Nat.beq_eq]at h ⊢
  all_goals first
   | exact h
   | (obtain⟨h1,h2⟩:=h;exact⟨h1,h2⟩)
   | exact zfn _ _ _ h
   | (obtain⟨⟨⟨h1,h2⟩,h3⟩,h4⟩:=h;exact⟨h1,h2,h3,h4⟩)
theorem zfn:∀(d:Nat) (a b:List zA),same.sames d a b=true->a=b
 | d,[],[],_=>rfl
 | d,a::x,b::y,h=>by
  simp only[same.sames,yac]at h;rw[zj8 d a b h.1,zfn d x y h.2]
 | d,[],b::y,h=>by simp[same.sames]at h
 | d,a::x,[],h=>by simp[same.sames]at h
end
section
variable {P:Program}{C:iA}{B N:Nat}{μ:Mu}{H H':rA}{w:World}{all:Array Oper}{olds:List (Nat × List Nat)}{anc:Tr Nat}{n:Nat}{old tm tm':Tm}{D D':Nat}{S:Nat->Bool}{order:List Nat}{tmps:Array Value}{ds:List Deferred}{dp:Nat}
def dJ(C:iA)(μ:Mu)(dp:Nat)(H:rA)(all:Array Oper)(olds:List (Nat × List Nat))(n:Nat)(old tm:Tm)(D:Nat)(S:Nat->Bool):Prop:=
 ∀i,tb D i=true->S i=false->(∃o w v,rK C H all olds n old tm i o w v)\/∃o v,yP C μ dp all olds n old tm i o v
theorem zab:∀(l:List Nat) (tm:Tm) (D:Nat),mO C H all n old olds l tm=some tm'->vM all.toList l D=some D'->dG μ all olds anc n old tm D S order tmps->dJ C μ dp H all olds n old tm D S →
  dG μ all olds anc n old tm' D' S order tmps/\dJ C μ dp H all olds n old tm' D' S:=by
 intro l;induction l with
 | nil=>intro tm D h hD R hp;cases h;cases hD;exact⟨R,hp⟩
 | cons i l ih=>
  intro tm D h hD R hp;unfold mO at h;unfold vM at hD;rw[mA]at hD;obtain⟨D1,h1,hD⟩:=hD
  simp only[mA,dD]at h;obtain⟨o,ho,wn,hw,v,hv,h⟩:=h
  obtain⟨o',ho',hi,hb,hD1⟩:=tW h1
  have ho2:all[i]?=some o:=by simpa using ho
  rw[ho2]at ho';cases ho'
  have hval:if wn=true then(pF o.op).f C (wM tm old olds i o) H=some v else v=zE:=by
   cases wn with
   | true=>rw[if_pos rfl];exact hv
   | false=>rw[if_neg (by simp)];exact(ybj hv).symm
  refine ih _ _ h hD (R.light ho2 hi hb hD1) fun j hj hSj=>?_
  rw[hD1]at hj;simp only[ybr,beq_iff_eq]at hj;rcases hj with hj | rfl
  ·rcases hp j hj hSj with⟨u,wu,vu,pu⟩ | ⟨u,vu,pu⟩
   ·exact .inl ⟨u,wu,vu,pu.keep R.reg R.dclosed hj ho2 hi⟩
   ·exact .inr ⟨u,vu,pu.keep R.reg R.dclosed hj ho2 hi⟩
  ·exact .inl ⟨o,wn,v,rK.fresh R.reg R.dclosed ho2 hb hi hw hval⟩
structure Weak (all:Array Oper) (n:Nat) (tm:Tm) (i:Nat) (o:Oper) (w:Bool) (v:zA):Prop where
 op:all[i]?=some o
 want:gE o.guard all tm=some w
 val:w=false->v=zE
 put:∀d,o.dst=some d->d<n->tm.get d=some v
theorem zww:∀(l:List Nat),nS C H all old olds tm l=true->∀i∈l,∀o w v,Weak all n tm i o w v->∃v,rK C H all olds n old tm i o w v:=by
 intro l;induction l with
 | nil=>intro _ i hi;cases hi
 | cons j l ih=>
  intro h i hi o w v W;unfold nS at h;split at h
  case h_2=>cases h
  rename_i hx;rcases yat.1 hi with rfl | hi
  ·simp only[mA,dD]at hx
   obtain⟨o',ho',d,hd,wn,hw,hx⟩:=hx
   have ho2:all[i]?=some o':=by simpa using ho'
   rw[W.op]at ho2;cases ho2;rw[W.want]at hw;cases hw
   cases w with
   | false=>exact⟨v,W.op,W.want,by rw[if_neg (by simp)];exact W.val rfl,W.put⟩
   | true=>
    simp only[cond_true,mA]at hx;obtain⟨v1,hv1,u,hu,hs⟩:=hx
    have e:=zj8 _ _ _ (ybj hs)
    refine⟨v1,W.op,W.want,by rw[if_pos rfl];exact hv1,fun d' hd' hn=>?_⟩
    rw[hd]at hd';cases hd'
    rw[hu,e]
  ·exact ih h i hi o w v W
end
end Go.Am
namespace Go.Am
open Go Go.RowKit
section
variable {P:Program}{C:iA}{B N:Nat}{μ:Mu}{H H':rA}{w:World}{all:Array Oper}{olds:List (Nat × List Nat)}{anc:Tr Nat}{n:Nat}{old tm tm':Tm}{D D':Nat}{S:Nat->Bool}{order:List Nat}{tmps:Array Value}{ds:List Deferred}{dp:Nat}
variable {b:Frame}{k:List Item}{cs:List Frame}
structure zgu (B N dp:Nat) (μ:Mu) (H:rA) (w:World) (μ':Mu) (w':World):Prop where
 heap:pB B N μ' H w'
 le:μ.lw μ'
 pd:∀d,d≠dp->μ.ln d μ'
 below:Below N w w'
theorem zgu.refl(hH:pB B N μ H w):zgu B N dp μ H w μ w:=⟨hH,fun _ _ h=>h,fun d _=>μ.ln_refl d,Below.refl _ _⟩
theorem zgu.trans{μ1 μ2:Mu}{w1 w2:World}(h:zgu B N dp μ H w μ1 w1)(k:zgu B N dp μ1 H w1 μ2 w2):zgu B N dp μ H w μ2 w2:=
 ⟨k.heap,fun a i e=>k.le a i (h.le a i e),fun d hd=>Mu.ln_trans (h.pd d hd) (k.pd d hd),h.below.trans k.below⟩
theorem zm5(hT:fF P C)(hH:pB B N μ H w){i:Nat}(R:dG μ all olds anc n old tm D S (i::order) tmps)(hp:dJ C μ dp H all olds n old tm D S)(hi:tb D i=true) :
  ∃S' tmps' μ' w',step P (lone (b.atR ⟨tmps,ds⟩ (.inRegion all (i::order)::k)) cs w)=.next (lone (b.atR ⟨tmps',ds⟩ (.inRegion all order::k)) cs w')/\zgu B N dp μ H w μ' w' ∧
   dG μ' all olds anc n old tm D S' order tmps'/\dJ C μ' dp H all olds n old tm D S':=by
 obtain⟨o,ho,hS,hb,_⟩:=R.sched
 have hDD:∀k,tb D k=(tb D k||k == i):=by
  intro k;by_cases e:k=i
  ·subst e;rw[hi];rfl
  ·have:(k == i)=false:=by simpa using e
   rw[this,Bool.or_false]
 have ds':∀v',Act.put ⟨tmps,ds⟩ o.dst v'=⟨(Act.put ⟨tmps,ds⟩ o.dst v').tmps,ds⟩:=by intro v';unfold Act.put;cases o.dst<;>rfl
 rcases hp i hi hS with⟨o',wn,v,pd⟩ | ⟨o',v,pd⟩
 ·have:=pd.op
  rw[ho]at this;cases this
  have hw:=R.wanted ho hb pd.want
  have rest:∀v',sA μ v v'->dG μ all olds anc n old tm D (fun k=>S k||k == i) order (Act.put ⟨tmps,ds⟩ o.dst v').tmps/\dJ C μ dp H all olds n old tm D (fun k=>S k||k == i):=by
   intro v' hv;refine⟨R.did ho hDD pd.put (fun _ _=>rfl) hv,fun j hj hSj=>hp j hj ?_⟩
   simp only[Bool.or_eq_false_iff]at hSj;exact hSj.1
  cases wn with
  | false=>
   have hv:=pd.val
   rw[if_neg (by simp)]at hv
   subst hv;obtain⟨r1,r2⟩:=rest undef yX
   refine⟨_,_,μ,w,?_,.refl hH,r1,r2⟩
   rw[<- ds'];exact lY (a:=⟨tmps,ds⟩) ho hw
  | true=>
   have hv:=pd.val
   rw[if_pos rfl]at hv;obtain⟨v',h1,h2⟩:=zwv hT hH (R.erel (ds:=ds) hH.glob ho hS hb) hv
   obtain⟨r1,r2⟩:=rest v' h2
   refine⟨_,_,μ,w,?_,.refl hH,r1,r2⟩
   rw[<- ds'];refine mY (a:=⟨tmps,ds⟩) ho hw ?_
   rw[Oper.semAt_eq]
   ·exact h1
   ·intro c e
    rw[e]at hv
    cases hv
 ·have:=pd.op
  rw[ho]at this;cases this
  have hw:=R.wanted ho hb pd.want
  obtain⟨H0,l,h1,h2⟩:=pd.val
  obtain⟨l',vs,v',elem,e1,run,hl,hv⟩:=zzq (P:=P) (w:=w) hT (R.erel (ds:=ds) hH.glob ho hS hb) o pd.flo h1
  have e2:vF H0 l none=vF H0 l' none:=e1
  have p1:=(hH.pnd _ _ _ h2).1
  have lg:∀c,(μ.land H0.next ⟨w.heap.size,true,0,0,false⟩) c=if c=H0.next then some ⟨w.heap.size,true,0,0,false⟩else μ c:=fun _=>rfl
  have hle:μ.lw (μ.land H0.next ⟨w.heap.size,true,0,0,false⟩):=fun c j hj=>by
   rw[lg,if_neg fun e=>by rw[e,p1]at hj;cases hj];exact hj
  have hlp:∀c x d j,(d≠dp\/j≠i)->μ.pd c=some (x,d,j)->(μ.land H0.next ⟨w.heap.size,true,0,0,false⟩).pd c=some (x,d,j):=by
   intro c x d j hne hc;show(if c=H0.next then none else μ.pd c)=_
   rw[if_neg]
   ·exact hc
   ·intro e
    rw[e,h2]at hc
    cases hc;rcases hne with h | h<;>exact h rfl
  have hblk:(lA.cells (Tr.ofList l) (uB l) none)=.cells (Tr.ofList l') (uB l') none:=by
   have h3:(vF H0 l none).t.get H0.next=(vF H0 l' none).t.get H0.next:=by rw[e2]
   have hg:∀m,(vF H0 m none).t.get H0.next=some (.cells (Tr.ofList m) (uB m) none):=fun m=>by
    show(H0.t.set H0.next _).get H0.next=_
    rw[Tr.get_set,if_pos rfl]
   rw[hg,hg]at h3;exact ybj h3
  have hH':pB B N (μ.land H0.next ⟨w.heap.size,true,0,0,false⟩) H (w.alloc (.cells vs elem)):=by
   refine hH.late h2 rfl rfl ?_
   rw[hblk];have:=(qB.mono hle _ _ hl).rel_one (i:=⟨w.heap.size,true,0,0,false⟩) rfl (elem:=elem)
   rwa [Array.toArray_toList]at this
  have hvr:=hv (μ.land H0.next ⟨w.heap.size,true,0,0,false⟩) ⟨w.heap.size,true,0,0,false⟩ (by rw[lg,if_pos rfl]) rfl rfl
  refine⟨fun k=>S k||k == i,(Act.put ⟨tmps,ds⟩ o.dst v').tmps,μ.land H0.next ⟨w.heap.size,true,0,0,false⟩,w.alloc (.cells vs elem),?_,⟨hH',hle,fun d hd=>⟨hle,fun c x j hc=>hlp c x d j (.inl hd) hc⟩,oM hH.size _⟩,
   (R.mono hle).did ho hDD pd.put (fun _ _=>rfl) hvr,fun j hj hSj=>?_⟩
  ·rw[<- ds']
   refine mY (a:=⟨tmps,ds⟩) ho hw ?_
   rw[Oper.semAt_eq]
   ·exact run
   ·intro c e
    have:=pd.flo
    rw[e]at this
    cases this
  ·simp only[Bool.or_eq_false_iff,beq_eq_false_iff_ne]at hSj
   rcases hp j hj hSj.1 with h | ⟨u,vu,pu⟩
   ·exact .inl h
   ·refine .inr ⟨u,vu,pu.op,pu.flo,pu.want,?_,pu.put⟩
    obtain⟨H1,m,g1,g2⟩:=pu.val
    exact⟨H1,m,g1,hlp _ _ _ _ (.inr hSj.2) g2⟩
theorem reach(hT:fF P C){st:vG}{r:List vG}(hst:wJ all.toList anc (st::r) D=true)(hlt:st.heavy<=all.size):∀(order:List Nat) (S:Nat->Bool) (tmps:Array Value) (μ:Mu) (w:World),pB B N μ H w →
  dG μ all olds anc n old tm D S order tmps->dJ C μ dp H all olds n old tm D S →
  ∃S' order' tmps' μ' w',Steps P (lone (b.atR ⟨tmps,ds⟩ (.inRegion all order::k)) cs w) (lone (b.atR ⟨tmps',ds⟩ (.inRegion all (st.heavy::order')::k)) cs w')/\zgu B N dp μ H w μ' w' ∧
   dG μ' all olds anc n old tm D S' (st.heavy::order') tmps'/\dJ C μ' dp H all olds n old tm D S':=by
 obtain⟨only,_,D1,D2,h1,_⟩:=fX hst hlt
 obtain⟨oh,hoh,hh,hbh,_⟩:=tW h1
 intro order;induction order with
 | nil=>
  intro S tmps μ w _ R hp;have:=R.sub _ (R.sched st.heavy (yaf.1 hoh).1)
  rw[hh]at this;cases this
 | cons i order ih=>
  intro S tmps μ w hH R hp
  cases hi:tb D i with
  | true=>
   obtain⟨S',tmps',μ1,w1,s1,g1,r1,p1⟩:=zm5 (b:=b) (k:=k) (cs:=cs) (ds:=ds) hT hH R hp hi
   obtain⟨S2,order',tmps2,μ2,w2,s2,g2,r2⟩:=ih S' tmps' μ1 w1 g1.heap r1 p1
   exact⟨S2,order',tmps2,μ2,w2,.head s1 s2,g1.trans g2,r2⟩
  | false=>
   obtain⟨o,ho,hS,hb,_⟩:=R.sched
   have:=only i o ho hi fun j hj=>R.sub j (hb j hj)
   subst this;exact⟨S,order,tmps,μ,w,.refl _ _,.refl hH,R,hp⟩
theorem regEnd(hT:fF P C)(hst:wJ all.toList anc [] D=true):∀(order:List Nat) (S:Nat->Bool) (tmps:Array Value) (μ:Mu) (w:World),pB B N μ H w →
  dG μ all olds anc n old tm D S order tmps->dJ C μ dp H all olds n old tm D S →
  ∃tmps' μ' w',Steps P (lone (b.atR ⟨tmps,ds⟩ (.inRegion all order::k)) cs w) (lone (b.atR ⟨tmps',ds⟩ k) cs w')/\zgu B N dp μ H w μ' w'/\tE μ' n tm tmps':=by
 have full:=zh0 hst
 intro order;induction order with
 | nil=>
  intro S tmps μ w hH R hp;refine⟨tmps,μ,w,.one stepR_region_end,.refl hH,R.size,fun t v hv=>?_⟩
  by_cases hn:t<n
  ·by_cases hw:∃(j:Nat) (u:Oper),all[j]?=some u/\u.dst=some t
   ·obtain⟨j,u,hu,hud⟩:=hw
    exact R.now j u t v hu hud (R.sched j (yaf.1 hu).1) hn hv
   ·have k:=R.keep t hn fun i o h1 h2=>absurd ⟨i,o,h1,h2⟩ hw
    exact R.past t v hn (fun i o h1 h2=>absurd ⟨i,o,h1,h2⟩ hw) (by rw[<- k];exact hv)
  ·rw[wV (by rw[R.size];omega)]
   exact R.big t v (by omega) (.inl hv)
 | cons i order ih=>
  intro S tmps μ w hH R hp;obtain⟨o,ho,_⟩:=R.sched
  obtain⟨S',tmps',μ1,w1,s1,g1,r1,p1⟩:=zm5 (b:=b) (k:=k) (cs:=cs) (ds:=ds) hT hH R hp (full i (yaf.1 ho).1)
  obtain⟨tmps2,μ2,w2,s2,g2,r2⟩:=ih S' tmps' μ1 w1 g1.heap r1 p1
  exact⟨tmps2,μ2,w2,.head s1 s2,g1.trans g2,r2⟩
theorem zyf(hM:P.follows .mixedOrders=true){anc:Tr Nat}(hR:zP all olds anc)(ht:tE μ n old tmps)(t:Nat) :
  dG μ all olds anc n old old 0 (fun _=>false) (Region.schedule (P.follows .mixedOrders) all t) tmps/\dJ C μ dp H all olds n old old 0 (fun _=>false):=by
 refine⟨⟨hR,?_,fun i h=>(by cases h),fun i o _ h=>(by cases h),fun i o _ h=>(by rw[zff]at h;cases h),ht.1,fun i o d v _ _ h=>(by cases h),fun d v _ _ h=>ht.2 d v h,fun _ _ _=>rfl,fun d v hd h=>?_⟩,fun i h=>(by rw[zff]at h;cases h)⟩
 ·rw[hM]
  unfold Region.schedule;simp only[Bool.true_or,if_true];have:=zyc hR.back all.size t (Array.replicate all.size false) (by simp) (by
   refine Nat.le_trans (List.countP_le_length) ?_
   simp)
  have e:(fun i=>(Array.replicate all.size false).getD i false)=fun _=>false:=by
   funext i
   simp only[yby,Array.getElem?_replicate];split<;>rfl
  rw[e]at this;exact this
 ·have h':old.get d=some v:=h.elim id id
  have:=ht.2 d v h'
  rw[wV (by rw[ht.1];exact hd)]at this
  exact this
def dP(C:iA)(μ:Mu)(dp:Nat)(all:Array Oper)(olds:List (Nat × List Nat))(n:Nat)(old tm:Tm)(D:Nat)(S:Nat->Bool)(again:List Nat):Prop:=
 ∀i,tb D i=true->S i=false->(∃o w v,(∀H,rK C H all olds n old tm i o w v)\/(i∈again/\Weak all n tm i o w v))\/∃o v,yP C μ dp all olds n old tm i o v
theorem rK.float{i:Nat}{o:Oper}{w:Bool}{v:zA}(h:rK C H all olds n old tm i o w v)(hf:rL o.op=true)(H':rA):rK C H' all olds n old tm i o w v:=by
 refine⟨h.op,h.want,?_,h.put⟩
 have:=h.val
 cases w with
 | false=>exact this
 | true=>
  rw[if_pos rfl]at this;exfalso
  obtain⟨dst,op,type,pos,after,guard⟩:=o
  cases op<;>first | (simp[rL]at hf;done) | cases this
theorem zqz{again:List Nat}(hw:dP C μ dp all olds n old tm D S again)(ha:nS C H all old olds tm again=true):dJ C μ dp H all olds n old tm D S:=by
 intro i hi hS;rcases hw i hi hS with⟨o,w,v,h | ⟨h1,h2⟩⟩ | h
 ·exact .inl ⟨o,w,v,h H⟩
 ·obtain⟨v,h⟩:=zww (C:=C) (H:=H) (olds:=olds) (old:=old) again ha i h1 o w v h2
  exact .inl ⟨o,w,v,h⟩
 ·exact .inr h
end
end Go.Am
namespace Go.Am
open Go Go.RowKit
section
variable {P:Program}{C:iA}{B N:Nat}{μ:Mu}{H H':rA}{w:World}{all:Array Oper}{olds:List (Nat × List Nat)}{anc:Tr Nat}{n:Nat}{old tm tm':Tm}{D D':Nat}{S:Nat->Bool}{order:List Nat}{tmps:Array Value}{ds:List Deferred}{dp:Nat}
theorem Weak.keep(R:zP all olds anc)(hD:aP all (tb D)){i k:Nat}{o u:Oper}{w:Bool}{v x:zA}(h:Weak all n tm i o w v)(hi:tb D i=true)(hu:all[k]?=some u)(hk:tb D k=false) :
  Weak all n (putA n tm u.dst x) i o w v:=by
 obtain⟨_,r2⟩:=wW R hD h.op (.inl hi) hu hk
 refine⟨h.op,?_,h.val,?_⟩
 ·rw[jV (tm:=tm) fun j w hg g hj d hd=>by rw[cH,if_neg fun e=>r2 j w hg g hj d hd e.1]]
  exact h.want
 ·intro d hd hn
  rw[cH,if_neg]
  ·exact h.put d hd hn
  ·rintro⟨e,_⟩
   have:=R.one i k o u d h.op hu hd e
   rw[this,hk]at hi;cases hi
theorem toWeak{st:vG}{r:List vG}(hst:wJ all.toList anc (st::r) D=true)(hlt:st.heavy<=all.size)(R:dG μ all olds anc n old tm D S (st.heavy::order) tmps)(hp:dJ C μ dp H all olds n old tm D S) :
  dP C μ dp all olds n old tm D S st.again:=by
 obtain⟨_,ag,_⟩:=fX hst hlt
 intro i hDi hSi;rcases hp i hDi hSi with⟨u,wu,vu,pu⟩ | h
 rotate_left
 ·exact .inr h
 refine .inl ⟨u,wu,vu,?_⟩
 rcases ag i u pu.op hDi with h | h | h | h
 ·obtain⟨o,ho,_,hb,_⟩:=R.sched
  have:=R.reg.up R.closed ho hb h
  rw[hSi]at this;cases this
 ·exact .inl fun H=>pu.pure h H
 ·exact .inl fun H=>pu.float h H
 ·exact .inr ⟨h,pu.op,pu.want,fun e=>by have:=pu.val;rw[e]at this;simpa using this,pu.put⟩
theorem zxg{h:Nat}{again:List Nat}{D1:Nat}{o:Oper}{v:zA}{v':Value}(h1:mP all.toList h D=some D1)(ho:all[h]?=some o)
  (R:dG μ all olds anc n old tm D S (h::order) tmps) (hp:dP C μ dp all olds n old tm D S again) (hv:sA μ v v') :
  dG μ all olds anc n old (putA n tm o.dst v) D1 (fun k=>S k||k == h) order (Act.put ⟨tmps,ds⟩ o.dst v').tmps/\dP C μ dp all olds n old (putA n tm o.dst v) D1 (fun k=>S k||k == h) again:=by
 obtain⟨o',ho',hi,hb,hD1⟩:=tW h1
 rw[ho]at ho';cases ho'
 refine⟨R.did ho hD1 (fun d hd hn=>by rw[cH,if_pos ⟨hd,hn⟩]) (fun d hd=>by rw[cH,if_neg fun e=>absurd (hd e.1) (by omega)]) hv,fun i hDi hSi=>?_⟩
 simp only[Bool.or_eq_false_iff,beq_eq_false_iff_ne]at hSi;rw[hD1]at hDi;simp only[ybr,beq_iff_eq]at hDi;have hDi:=hDi.resolve_right hSi.2
 rcases hp i hDi hSi.1 with⟨u,wu,vu,pu⟩ | ⟨u,vu,pu⟩
 ·exact .inl ⟨u,wu,vu,pu.imp (fun pu H=>(pu H).keep R.reg R.dclosed hDi ho hi) (fun pu=>⟨pu.1,pu.2.keep R.reg R.dclosed hDi ho hi⟩)⟩
 ·exact .inr ⟨u,vu,pu.keep R.reg R.dclosed hDi ho hi⟩
inductive cJ (C:iA) (μ:Mu) (dp:Nat) (n:Nat):Option rA->List iD->Tm->List Item->Array Value->Prop
 | plain {cur:Option rA} {todo:List iD} {tm:Tm} {btodo:List Item} {tmps:Array Value}:bC (zG μ) todo btodo->tE μ n tm tmps->cJ C μ dp n cur todo tm btodo tmps
 | reg {H:rA} {all:Array Oper} {old tm:Tm} {olds:List (Nat × List Nat)} {stages:List vG} {k:List iD} {order:List Nat} {k':List Item} {tmps:Array Value} {anc:Tr Nat} {D:Nat} {S:Nat->Bool} :
   dG μ all olds anc n old tm D S order tmps->wJ all.toList anc stages D=true->dJ C μ dp H all olds n old tm D S->bC (zG μ) k k' →
   cJ C μ dp n (some H) (.reg all old olds stages::k) tm (.inRegion all order::k') tmps
 | mid {cur:Option rA} {all:Array Oper} {old tm:Tm} {olds:List (Nat × List Nat)} {lights again:List Nat} {stages:List vG} {k:List iD} {order:List Nat} {k':List Item} {tmps:Array Value} {anc:Tr Nat} {D D2:Nat} {S:Nat->Bool} :
   dG μ all olds anc n old tm D S order tmps->vM all.toList lights D=some D2->wJ all.toList anc stages D2=true->dP C μ dp all olds n old tm D S again->bC (zG μ) k k' →
   cJ C μ dp n cur (.reg all old olds (⟨all.size,lights,again⟩::stages)::k) tm (.inRegion all order::k') tmps
 | wait {all:Array Oper} {old tm:Tm} {olds:List (Nat × List Nat)} {st:vG} {stages:List vG} {k:List iD} {order:List Nat} {k':List Item} {tmps:Array Value} {anc:Tr Nat} {D:Nat} {S:Nat->Bool} :
   dG μ all olds anc n old tm D S (st.heavy::order) tmps->wJ all.toList anc (st::stages) D=true->st.heavy<=all.size->dP C μ dp all olds n old tm D S st.again->bC (zG μ) k k' →
   cJ C μ dp n none (.reg all old olds (st::stages)::k) tm (.inRegion all (st.heavy::order)::k') tmps
theorem dJ.mono{ν:Mu}(h:μ.ln dp ν)(p:dJ C μ dp H all olds n old tm D S):dJ C ν dp H all olds n old tm D S:=
 fun i h1 h2=>(p i h1 h2).imp id fun⟨o,v,q⟩=>⟨o,v,q.mono h⟩
theorem dP.mono{ν:Mu}{again:List Nat}(h:μ.ln dp ν)(p:dP C μ dp all olds n old tm D S again):dP C ν dp all olds n old tm D S again:=
 fun i h1 h2=>(p i h1 h2).imp id fun⟨o,v,q⟩=>⟨o,v,q.mono h⟩
theorem cJ.mono{ν:Mu}(h:μ.ln dp ν){cur:Option rA}{todo:List iD}{btodo:List Item}(R:cJ C μ dp n cur todo tm btodo tmps):cJ C ν dp n cur todo tm btodo tmps:=by
 have mk:∀ {k:List iD} {k':List Item},bC (zG μ) k k'->bC (zG ν) k k':=fun k=>bC.mono (fun _ _ r=>zG.mono h r) k
 cases R with
 | plain a b=>exact .plain (mk a) (b.mono h)
 | reg a b c d=>exact .reg (a.mono h) b (c.mono h) (mk d)
 | mid a b c d e=>exact .mid (a.mono h) b c (d.mono h) (mk e)
 | wait a b b' c d=>exact .wait (a.mono h) b b' (c.mono h) (mk d)
end
end Go.Am
namespace Go.Am
open Go Go.RowKit
section
variable {P:Program}{C:iA}{B N:Nat}{μ ν:Mu}{H H':rA}{w:World}{n:Nat}{tm:Tm}{tmps:Array Value}{ds:List Deferred}{dp:Nat}
theorem tE.put{v:zA}{v':Value}{dst:Option Nat}(h:tE μ n tm tmps)(hv:sA μ v v'):tE μ n (putA n tm dst v) (Act.put ⟨tmps,ds⟩ dst v').tmps:=by
 cases dst with
 | none=>exact h
 | some d=>
  refine⟨by simp[Act.put,h.1],fun t x hx=>?_⟩
  rw[cH]at hx;simp only[Act.put,yby,ybt];by_cases e:d=t
  ·subst e
   by_cases hn:d<n
   ·rw[if_pos ⟨rfl,hn⟩]at hx
    cases hx;simp[h.1,hn,hv]
   ·rw[if_neg fun k=>hn k.2]at hx
    have:=h.2 d x hx
    rw[wV (by rw[h.1];omega)]at this
    simp[h.1,hn,this]
  ·rw[if_neg fun k=>e (ybj k.1)]at hx
   have:=h.2 t x hx
   rw[yby]at this;simpa[e]using this
structure xI (C:iA) (μ:Mu) (dp:Nat) (cur:Option rA) (fr:xC) (b:Frame):Prop where
 rest:jG μ fr.R b
 body:if fr.R.mode.running=true then cJ C μ dp fr.R.n cur fr.todo fr.tm b.todo b.tmps else tE μ fr.R.n fr.tm b.tmps
theorem xI.mono(h:μ.ln dp ν){cur:Option rA}{fr:xC}{b:Frame}(r:xI C μ dp cur fr b):xI C ν dp cur fr b:=by
 refine⟨r.rest.mono h,?_⟩
 have:=r.body
 split at this
 ·rename_i e;rw[if_pos e];exact this.mono h
 ·rename_i e;rw[if_neg e];exact this.mono h
inductive eF (C:iA) (μ:Mu):List xC->List Frame->Prop
 | nil:eF C μ [] []
 | cons {a:xC} {b:Frame} {l:List xC} {m:List Frame}:xI C μ l.length none a b->eF C μ l m->eF C μ (a::l) (b::m)
theorem eF.monoD{l:List xC}{m:List Frame}(r:eF C μ l m)(h:∀d,d<l.length->μ.ln d ν):eF C ν l m:=by
 induction r with
 | nil=>exact .nil
 | @cons a b l m h1 h2 ih=>exact .cons (h1.mono (h _ (by simp))) (ih fun d hd=>h d (by simp;omega))
theorem eF.mono{l:List xC}{m:List Frame}(r:eF C μ l m)(h:μ.le ν):eF C ν l m:=r.monoD fun d _=>h.ln d
theorem gT{fr fr':xC}{b:Frame}{v:zA}{v':Value}{cur:Option rA}(r:xI C μ dp none fr b)(h:tI fr v=some fr')(hv:sA μ v v'):xI C μ dp cur fr' (b.finish v'):=by
 obtain⟨todo,tm,R⟩:=fr
 unfold tI at h
 cases todo with
 | nil=>cases h
 | cons x k=>
  simp only[jC]at h;split at h
  case isFalse=>cases h
  rename_i hm;have body:=r.body
  rw[if_pos hm]at body;have rest:=r.rest
  obtain⟨fn,btmps,btodo,bdefers,bmode,bkind,bround⟩:=b
  simp only at body rest
  cases body with
  | plain a t=>
   cases a with
   | cons i l=>
    cases i with
    | ops all i hi=>
     simp only[zgh]at h;unfold z2h at h;split at h
     case h_2=>cases h
     rename_i o rest' ho
     cases h;obtain⟨h1,h2⟩:=dQ ho.symm
     have hlt:i<all.size:=by have:=(yad.1 h1).1;simpa using this
     have hr:(List.range all.size).drop i=i::(List.range all.size).drop (i+1):=by
      rw[yam (by simpa using hlt)];simp
     have ho2:all[i]?=some o:=by simpa using h1
     have e:∀k',Frame.finish ⟨fn,btmps,.inRegion all ((List.range all.size).drop i)::k',bdefers,bmode,bkind,bround⟩ v'=⟨fn,(Act.put ⟨btmps,bdefers⟩ o.dst v').tmps,.inRegion all ((List.range all.size).drop (i+1))::k',bdefers,bmode,bkind,bround⟩:=by
      intro k';simp only[Frame.finish,hr,ho2,Option.bind_some];unfold Act.put
      cases o.dst<;>rfl
     rw[e];refine⟨⟨rest.fn,?_,rest.defers,rest.mode,rest.kind,rest.round⟩,?_⟩
     ·exact(t.put (ds:=bdefers) (dst:=o.dst) hv).1
     ·rw[if_pos hm]
      rw[h2];exact .plain (.cons (.ops all (i+1) hlt) l) (t.put hv)
    | inRange l' i hl=>
     cases h;refine⟨⟨rest.fn,rest.size,rest.defers,rest.mode,rest.kind,rest.round⟩,?_⟩
     simp only[Frame.finish];rw[if_pos hm];exact .plain (.cons (.endRange l' i hl) l) t
    | beginRound=>
     cases h;refine⟨⟨rest.fn,rest.size,rest.defers,rest.mode,rest.kind,rest.round⟩,?_⟩
     simp only[Frame.finish];rw[if_pos hm];exact .plain l t
    | _=>cases h
  | mid a b c d e=>
   exfalso
   simp only[zgh]at h;unfold zvq at h;simp only[mA,dD]at h;obtain⟨o,ho,_⟩:=h
   have:=(yad.1 ho).1
   simp at this
  | @wait all old _ olds st stages _ order _ _ anc D S a b b2 c d=>
   simp only[zgh]at h;unfold zvq at h;simp only[mA,dD]at h;obtain⟨o,ho,h⟩:=h
   cases h;have ho2:all[st.heavy]?=some o:=by simpa using ho
   obtain⟨_,_,D1,D2,h1,h2,h3⟩:=fX b b2
   obtain⟨r1,r2⟩:=zxg (ds:=bdefers) h1 ho2 a c hv
   have e:∀k',Frame.finish ⟨fn,btmps,.inRegion all (st.heavy::order)::k',bdefers,bmode,bkind,bround⟩ v'=⟨fn,(Act.put ⟨btmps,bdefers⟩ o.dst v').tmps,.inRegion all order::k',bdefers,bmode,bkind,bround⟩:=by
    intro k';simp only[Frame.finish,ho2,Option.bind_some];unfold Act.put
    cases o.dst<;>rfl
   rw[e];refine⟨⟨rest.fn,r1.size,rest.defers,rest.mode,rest.kind,rest.round⟩,?_⟩
   rw[if_pos hm];exact .mid r1 h2 h3 r2 d
def sD(P:Program)(C:iA)(B N:Nat)(μ:Mu)(base:List Frame)(m:Machine)(w:World):eC->Prop
 | .next s=>∃ μ' b cs w',Steps P m (lone b (cs++base) w')/\μ.lw μ'/\Below N w w'/\pB B N μ' s.H w'/\xI C μ' s.cs.length (some s.H) s.fr b/\eF C μ' s.cs cs
 | .done v H=>∃ μ' b w' v',Steps P m (lone b base w')/\μ.lw μ'/\Below N w w'/\pB B N μ' H w'/\sA μ' v v'/\b.fn=C.root/\b.leaving P w' (.returned v')
 | .fail _=>True
theorem sD.of_steps{base:List Frame}{m m1:Machine}{o:eC}{w w1:World}(hs:Steps P m m1)(hm:μ.lw ν)(hb:Below N w w1)(h:sD P C B N ν base m1 w1 o):sD P C B N μ base m w o:=by
 cases o with
 | fail=>exact trivial
 | next s=>
  obtain⟨μ',b,cs,w',h1,h2,h3,h4⟩:=h
  exact⟨μ',b,cs,w',hs.trans h1,fun a i k=>h2 a i (hm a i k),hb.trans h3,h4⟩
 | done v H=>
  obtain⟨μ',b,w',v',h1,h2,h3,h4⟩:=h
  exact⟨μ',b,w',v',hs.trans h1,fun a i k=>h2 a i (hm a i k),hb.trans h3,h4⟩
theorem z0m{b:Frame}(h:b.mode=.run):b.atR ⟨b.tmps,b.defers⟩ b.todo=b:=by
 obtain⟨fn,tmps,todo,defers,mode,kind,round⟩:=b
 simp only at h
 subst h;rfl
end
end Go.Am
namespace Go.Am
open Go Go.RowKit
structure Sim (P:Program) (C:iA) (B N:Nat) (I:World->Prop):Prop where
 tys:fF P C
 fns:zgv P C
 prims:zdd P C B N I
 base:B<=C.base
 mixed:P.follows .mixedOrders=true
 inv:∀w w',Below N w w'->I w->I w'
section
variable {P:Program}{C:iA}{B N:Nat}{I:World->Prop}{μ ν:Mu}{H H':rA}{w:World}{tm:Tm}{R:rI}{acs:List xC}{base cs:List Frame}
variable {b:Frame}{tmps:Array Value}{ds:List Deferred}{k:List iD}{k':List Item}
theorem jG.todo{todo:List Item}(h:jG μ R (b.atR ⟨tmps,ds⟩ [])):jG μ R (b.atR ⟨tmps,ds⟩ todo):=⟨h.fn,h.size,h.defers,h.mode,h.kind,h.round⟩
theorem jG.running{todo:List Item}(h:jG μ R (b.atR ⟨tmps,ds⟩ todo)):R.mode.running=true:=by
 have:=h.mode
 cases hm:R.mode with
 | run=>rfl
 | _=>rw[hm]at this;exact this.elim
theorem lQ{m:Machine}{todo:List iD}{btodo:List Item}(hH:pB B N μ H w)(hcs:eF C μ acs cs)(hR:jG μ R (b.atR ⟨tmps,ds⟩ []))(ht:tE μ R.n tm tmps)
  (hk:bC (zG μ) todo btodo) (hs:Steps P m (lone (b.atR ⟨tmps,ds⟩ btodo) (cs++base) w)):sD P C B N μ base m w (xGo todo tm R acs H):=
 ⟨μ,_,cs,w,hs,fun _ _ h=>h,Below.refl _ _,hH,⟨hR.todo,by rw[if_pos hR.running];exact .plain hk ht⟩,hcs⟩
theorem zfu(hH:pB B N μ H w)(hcs:eF C μ acs cs)(hR:jG μ R (b.atR ⟨tmps,ds⟩ []))(ht:tE μ R.n tm tmps)(hk:bC (zG μ) k k'){m:Machine}
  (hs:step P m=.next (lone (b.atR ⟨tmps,ds⟩ k') (cs++base) w)):sD P C B N μ base m w (zji C k tm R acs H):=
 lQ hH hcs hR ht hk (.one hs)
theorem z5m(hH:pB B N μ H w)(hcs:eF C μ acs cs)(hR:jG μ R (b.atR ⟨tmps,ds⟩ []))(ht:tE μ R.n tm tmps)(hk:bC (zG μ) k k'){c:Operand}{x y:Code} :
  sD P C B N μ base (lone (b.atR ⟨tmps,ds⟩ (.code (.cond c x y)::k')) (cs++base) w) w (zqv c x y C k tm R acs H):=by
 unfold zqv
 cases hc:ob (ev c (.now tm)) zA.asBool with
 | none=>exact trivial
 | some t=>
  rw[mA]at hc;obtain⟨v,hv,ht'⟩:=hc
  have:v=.bool t:=by cases v<;>simp[zA.asBool]at ht';rw[ht']
  subst this;have hr:=ht.erel (ds:=ds) hH.glob c _ hv
  rw[sA]at hr;refine lQ hH hcs hR ht (.cons (.code _) hk) (.one ?_)
  rw[stepR_cond hr]
  cases t<;>rfl
theorem z0e(hH:pB B N μ H w)(hcs:eF C μ acs cs)(hR:jG μ R (b.atR ⟨tmps,ds⟩ []))(ht:tE μ R.n tm tmps)(hk:bC (zG μ) k k'){id:Nat}{c:Code} :
  sD P C B N μ base (lone (b.atR ⟨tmps,ds⟩ (.code (.block id c)::k')) (cs++base) w) w (z0v id c C k tm R acs H):=
 lQ hH hcs hR ht (.cons (.code _) (.cons (.inBlock _) hk)) (.one stepR_block)
theorem z4e(hH:pB B N μ H w)(hcs:eF C μ acs cs)(hR:jG μ R (b.atR ⟨tmps,ds⟩ []))(ht:tE μ R.n tm tmps)(hk:bC (zG μ) k k'){c:Code} :
  sD P C B N μ base (lone (b.atR ⟨tmps,ds⟩ (.code (.loop c)::k')) (cs++base) w) w (z2t c C k tm R acs H):=
 lQ hH hcs hR ht (.cons (.code _) (.cons (.inLoop _) hk)) (.one stepR_loop)
theorem zvu{id:Nat}:∀ {k:List iD} {k':List Item} {r:List iD},bC (zG μ) k k'->aN id k=some r->∃r',exitTo id k'=some r'/\bC (zG μ) r r':=by
 intro k k' r h;induction h with
 | nil=>intro e;cases e
 | cons a l ih=>
  intro e
  cases a with
  | inBlock i=>
   unfold aN at e;simp only[iD.blockId]at e;rw[jC]at e;unfold exitTo;by_cases hi:i=id
   ·subst hi
    rw[if_pos (aB.2 rfl)]at e
    cases e
    exact⟨_,by simp,l⟩
   ·rw[if_neg fun h=>hi (aB.1 h)]at e
    obtain⟨r',h1,h2⟩:=ih e
    exact⟨r',by simp[hi,h1],h2⟩
  | _=>
   unfold aN at e;obtain⟨r',h1,h2⟩:=ih e
   exact⟨r',by unfold exitTo;exact h1,h2⟩
end
end Go.Am
namespace Go.Am
open Go Go.RowKit
section
variable {P:Program}{C:iA}{B N:Nat}{I:World->Prop}{μ ν:Mu}{H H':rA}{w:World}{tm:Tm}{R:rI}{acs:List xC}{base cs:List Frame}
variable {b:Frame}{tmps:Array Value}{ds:List Deferred}{k:List iD}{k':List Item}{all:Array Oper}{olds:List (Nat × List Nat)}{anc:Tr Nat}{old:Tm}{D:Nat}{S:Nat->Bool}{order:List Nat}
theorem jG.slots{tmps':Array Value}{todo:List Item}(h:jG μ R (b.atR ⟨tmps,ds⟩ todo))(hs:tmps'.size=R.n):jG μ R (b.atR ⟨tmps',ds⟩ todo):=⟨h.fn,hs,h.defers,h.mode,h.kind,h.round⟩
theorem tE.cut{n:Nat}(h:tE μ n tm tmps):tE μ n tm.cut tmps:=by
 refine⟨h.1,fun i v hv=>h.2 i v ?_⟩
 unfold Tm.cut Tm.get at hv;unfold Tm.get;simp only[lH]at hv ⊢
 split at hv
 ·rename_i e;rw[if_pos e];exact hv
 ·cases hv
theorem zs6(hS:Sim P C B N I)(hH:pB B N μ H w)(hcs:eF C μ acs cs)(hR:jG μ R (b.atR ⟨tmps,ds⟩ []))(hk:bC (zG μ) k k')
  (hr:dG μ all olds anc R.n old tm D S order tmps) (hst:wJ all.toList anc [] D=true) (hp:dJ C μ acs.length H all olds R.n old tm D S) :
  sD P C B N μ base (lone (b.atR ⟨tmps,ds⟩ (.inRegion all order::k')) (cs++base) w) w (zji C k tm R acs H):=by
 obtain⟨tmps',μ',w',s,g,t⟩:=regEnd (b:=b) (k:=k') (cs:=cs++base) (ds:=ds) hS.tys hst order S tmps μ w hH hr hp
 refine sD.of_steps s g.le g.below ?_
 exact lQ g.heap (hcs.monoD fun d hd=>g.pd d (by omega)) ((hR.mono g.le).slots t.1) t (hk.mono fun _ _ r=>r.mono g.le) (.refl _ _)
theorem z5k(hS:Sim P C B N I)(hH:pB B N μ H w)(hcs:eF C μ acs cs)(hR:jG μ R (b.atR ⟨tmps,ds⟩ []))(ht:tE μ R.n tm tmps)(hk:bC (zG μ) k k'){id:Nat} :
  sD P C B N μ base (lone (b.atR ⟨tmps,ds⟩ (.code (.region id all true)::k')) (cs++base) w) w (zqu id all C k tm R acs H):=by
 unfold zqu
 cases hx:ob (ob (C.plans.get R.fn) fun t=>t.get id) fun p=>sB (kN all p) <| ob (mO C H all R.n tm.cut p.olds p.first tm.cut) fun tm'=>some (⟨⟨.reg all tm.cut p.olds p.stages::k,tm',R⟩,acs,H⟩:xO)with
 | none=>exact trivial
 | some s=>
  simp only[mA,mB]at hx;obtain⟨p,_,hok,tm',hl,hx⟩:=hx
  cases hx;obtain⟨anc,D,ro,h1,h2⟩:=ztr hok
  obtain⟨r0,p0⟩:=zyf (C:=C) (H:=H) (dp:=acs.length) hS.mixed ro ht.cut (w.tape w.drawn (.order b.fn id))
  obtain⟨r1,p1⟩:=zab _ _ _ hl h1 r0 p0
  exact⟨μ,_,cs,_,.one stepR_region_draw,fun _ _ h=>h,(Below.refl N w).drew,hH.drew,⟨hR.todo,by rw[if_pos hR.running];exact .reg r1 h2 p1 hk⟩,hcs⟩
theorem zuf(hH:pB B N μ H w)(hcs:eF C μ acs cs)(hR:jG μ R (b.atR ⟨tmps,ds⟩ []))(hk:bC (zG μ) k k'){st:vG}{stages:List vG}{D2:Nat}
  (hr:dG μ all olds anc R.n old tm D S order tmps) (h1:vM all.toList st.lights D=some D2) (h2:wJ all.toList anc stages D2=true) (hw:dP C μ acs.length all olds R.n old tm D S st.again) :
  sD P C B N μ base (lone (b.atR ⟨tmps,ds⟩ (.inRegion all order::k')) (cs++base) w) w (zbh all old olds st stages C k tm R acs H):=by
 unfold zbh
 cases hx:sB (nS C H all old olds tm st.again) (ob (mO C H all R.n old olds st.lights tm) fun tm=>some (⟨⟨.reg all old olds stages::k,tm,R⟩,acs,H⟩:xO))with
 | none=>exact trivial
 | some s=>
  simp only[mA,mB]at hx;obtain⟨ha,tm',hl,hx⟩:=hx
  cases hx;obtain⟨r1,p1⟩:=zab _ _ _ hl h1 hr (zqz hw ha)
  exact⟨μ,_,cs,w,.refl _ _,fun _ _ h=>h,Below.refl N w,hH,⟨hR.todo,by rw[if_pos hR.running];exact .reg r1 h2 p1 hk⟩,hcs⟩
theorem zht(hH:pB B N μ H w)(hcs:eF C μ acs cs)(hR:jG μ R (b.atR ⟨tmps,ds⟩ []))(ht:tE μ R.n tm tmps){m:Machine}{todo:List iD}{btodo:List Item}
  (hs:Steps P m (lone { b.atR ⟨tmps,ds⟩ btodo with mode:=.returning } (cs++base) w)):sD P C B N μ base m w (.next ⟨zb4 ⟨todo,tm,R⟩ .returning,acs,H⟩):=
 ⟨μ,_,cs,w,hs,fun _ _ h=>h,Below.refl N w,hH,⟨⟨hR.fn,hR.size,hR.defers,trivial,hR.kind,hR.round⟩,ht⟩,hcs⟩
theorem jU{dst:Option Tmp}{v:Value}:Act.put ⟨tmps,ds⟩ dst v=⟨(Act.put ⟨tmps,ds⟩ dst v).tmps,ds⟩:=by unfold Act.put;cases dst<;>rfl
theorem zdp{i:Nat}{rest:List Nat}{o:Oper}{v:zA}{cs:List Frame}(ho:all[i]?=some o)(hw:Region.wanted o (yielded all tmps)=true)(hd:∀c,o.op≠.defer c)
  (h:zoi P B N μ w (Act.eval ⟨tmps,ds⟩) o v H') :
  ∃v' w' μ',step P (lone (b.atR ⟨tmps,ds⟩ (.inRegion all (i::rest)::k')) cs w)=.next (lone (b.atR ⟨(Act.put ⟨tmps,ds⟩ o.dst v').tmps,ds⟩ (.inRegion all rest::k')) cs w') ∧
   μ.le μ'/\pB B N μ' H' w'/\Below N w w'/\sA μ' v v':=by
 obtain⟨v',w',μ',h1,h2,h3,h4,h5⟩:=h
 refine⟨v',w',μ',?_,h2,h3,h4,h5⟩
 rw[<- jU];rcases h1 with h1 | ⟨h1,rfl⟩
 ·exact mY (a:=⟨tmps,ds⟩) ho hw (by rw[Oper.semAt_eq _ _ _ hd];exact h1)
 ·exact zfg (a:=⟨tmps,ds⟩) ho hw (by rw[Oper.semAt_eq _ _ _ hd];exact h1)
theorem zbv{i:Nat}{rest:List Nat}{o:Oper}{f:FuncId}{args:Array Value}{cs:List Frame}{w':World}(ho:all[i]?=some o)(hw:Region.wanted o (yielded all tmps)=true)(hd:∀c,o.op≠.defer c)
  (h:(execOp (Act.eval ⟨tmps,ds⟩) o).run P w=.ok (.enter f args) w') :
  step P (lone (b.atR ⟨tmps,ds⟩ (.inRegion all (i::rest)::k')) cs w)=.next (lone (Frame.enter P f args .normal) (b.atR ⟨tmps,ds⟩ (.inRegion all (i::rest)::k')::cs) w'):=
 step_lone_go (by
  rw[stepGR_op (a:=⟨tmps,ds⟩) ho hw,Oper.semAt_eq _ _ _ hd]
  simp[stepG.apply,Sem.runT_eq,h,Frame.atR])
theorem ze0{i:Nat}{rest:List Nat}{o:Oper}{f:FuncId}{args:Array Value}{cs:List Frame}{v:zA}(ho:all[i]?=some o)(hw:Region.wanted o (yielded all tmps)=true)(hd:∀c,o.op≠.defer c)
  (h:(execOp (Act.eval ⟨tmps,ds⟩) o).run P w=.ok (.enter f args) w) (hc:Calls P f args w fun e w'=>∃v',e=.returned v'/\sA μ v v'/\Below w.heap.size w w') :
  ∃v' w',Steps P (lone (b.atR ⟨tmps,ds⟩ (.inRegion all (i::rest)::k')) cs w) (lone (b.atR ⟨(Act.put ⟨tmps,ds⟩ o.dst v').tmps,ds⟩ (.inRegion all rest::k')) cs w')/\sA μ v v'/\Below w.heap.size w w':=by
 obtain⟨e,w',fr,⟨v',rfl,h1,h2⟩,h3,_,h5⟩:=hc (b.atR ⟨tmps,ds⟩ (.inRegion all (i::rest)::k')::cs)
 refine⟨v',w',?_,h1,h2⟩
 refine .head (zbv ho hw hd h) (Steps.trans h3 (.one ?_))
 rw[step_leave_returned h5,Frame.finish_atR,ho,<- jU];rfl
theorem pB.below{w':World}(hH:pB B N μ H w)(hb:Below w.heap.size w w'):pB B N μ H w':=by
 refine⟨hH.base,hH.glob,hH.low,hH.next,Nat.le_trans hH.size hb.size,hH.fresh,fun a x i hx h1=>?_,fun a i ha hi=>?_,hH.inj,hH.pnd⟩
 ·obtain⟨o,h2,h3⟩:=hH.blk a x i hx h1
  have hlt:i.b<w.heap.size:=(yaf.1 h2).1
  exact⟨o,by rw[hb.block _ hlt];exact h2,h3⟩
 ·obtain⟨h1,h2,h3⟩:=hH.own a i ha hi
  exact⟨h1,Nat.lt_of_lt_of_le h2 hb.size,h3⟩
theorem tE.wanted{n:Nat}(R:tE μ n tm tmps){o:Oper}{w:Bool}(h:gE o.guard all tm=some w):Region.wanted o (yielded all tmps)=w:=by
 unfold gE zq0 at h;unfold Region.wanted
 cases hg:o.guard with
 | none=>rw[hg]at h;cases h;rfl
 | some jw=>
  obtain⟨j,want⟩:=jw
  rw[hg]at h;simp only[zgx,mA,dD]at h;obtain⟨d,⟨u,hu,hud⟩,v,hv,h⟩:=h
  have hu':all[j]?=some u:=by simpa using hu
  have hy:yielded all tmps j=match tmps[d]? with | some (.bool b)=>some b | _=>none:=by
   unfold yielded;rw[hu'];simp[hud]
   rfl
  simp only[];rw[hy];have rel:=R.2 d v hv
  by_cases hd:d<n
  ·have hs:d<tmps.size:=by rw[R.1];exact hd
   have e1:tmps[d]?=some (tmps.getD d undef):=by simp[Array.getD,hs]
   rw[e1];generalize tmps.getD d undef=x at rel
   cases hb:v.asBool with
   | some b=>
    rw[hb]at h;have:v=.bool b:=by cases v<;>simp[zA.asBool]at hb;rw[hb]
    rw[this,sA]at rel;subst rel;simp only[Option.some.injEq]at h;rw[<- h,vS]
    cases b<;>cases want<;>rfl
   | none=>
    rw[hb]at h
    cases h
    cases x with
    | bool b=>rw[zgy rel]at hb;cases hb
    | _=>rfl
  ·have e1:tmps[d]?=none:=by simp[R.1];omega
   rw[e1];rw[wV (by rw[R.1];omega)]at rel
   cases hb:v.asBool with
   | some b=>
    have:v=.bool b:=by cases v<;>simp[zA.asBool]at hb;rw[hb]
    rw[this,sA]at rel
    cases rel
   | none=>rw[hb]at h;cases h;rfl
theorem zkc{fr:xC}{c:Frame}{w':World}{v:zA}{v':Value}{m:Machine}(hw:xI C μ acs.length none fr c)(hcs:eF C μ acs cs)(hm:μ.le ν)(hH:pB B N ν H' w')(hb:Below N w w')(hv:sA ν v v')
  (hs:Steps P m (lone (c.finish v') (cs++base) w')):sD P C B N μ base m w (z3p v H' C fr acs H):=by
 unfold z3p
 cases hx:ob (tI fr v) fun fr=>some (⟨fr,acs,H'⟩:xO)with
 | none=>exact trivial
 | some s=>
  rw[mA]at hx;obtain⟨fr',hf,hx⟩:=hx
  cases hx;exact⟨ν,_,cs,w',hs,hm,hb,hH,gT (hw.mono hm) hf hv,hcs.mono hm⟩
theorem sV{dp:Nat}(hF:zgv P C){f:Nat}{args:List zA}{args':Array Value}{d:Bool}{g:xC}{cur:Option rA}(h:fI C f args d=some g)(hl:qB μ args args'.toList) :
  xI C μ dp cur g (Frame.enter P f args' (if d then .deferred else .normal))/\∃fn,C.fns.get f=some fn/\fn.body.isSome=true:=by
 unfold fI at h;simp only[mA,mB,yac,eE]at h;obtain⟨fn,hfn,c,hc,k,hk,⟨h1,h2⟩,h3⟩:=h
 cases h3;obtain⟨h4,_⟩:=hF f fn hfn
 have hsz:args'.size=args.length:=by have:=hl.length;simpa using this
 rw[xE]at h1 h2;have size:(Frame.enter P f args' (if d then .deferred else .normal)).tmps.size=fn.ntmps:=by
  simp only[Frame.enter,h4,Option.map_some,Option.getD_some,Array.size_append,Array.size_replicate];omega
 refine⟨⟨⟨rfl,size,.nil,trivial,rfl,trivial⟩,?_⟩,fn,hfn,by rw[hc];rfl⟩
 show cJ C μ dp fn.ntmps cur [.code c] ⟨k,Tr.ofList args,[]⟩ (Frame.enter P f args' (if d then .deferred else .normal)).todo (Frame.enter P f args' (if d then .deferred else .normal)).tmps
 have todo:(Frame.enter P f args' (if d then .deferred else .normal)).todo=[.code c]:=by simp[Frame.enter,h4,hc]
 rw[todo];refine .plain (.cons (.code c) .nil) ⟨size,fun i v hv=>?_⟩
 unfold Tm.get at hv;simp only[lH]at hv;split at hv
 ·rw[Tr.get_ofList]at hv
  obtain⟨x,hx,hr⟩:=hl.get hv
  have hi:i<args'.size:=by have:=(yad.1 hx).1;simpa using this
  have:(Frame.enter P f args' (if d then .deferred else .normal)).tmps.getD i undef=x:=by
   simp only[Frame.enter,yby];rw[Array.getElem?_append_left hi];have:args'[i]?=some x:=by simpa using hx
   rw[this];rfl
  rw[this];exact hr
 ·cases hv
theorem ztc(hF:zgv P C){fr:xC}{c:Frame}{f:Nat}{args:List zA}{m:Machine}(hw:xI C μ acs.length none fr c)(hcs:eF C μ acs cs)(hH:pB B N μ H w)
  (hs:∀fn,C.fns.get f=some fn->fn.body.isSome=true->∃args',qB μ args args'.toList/\Steps P m (lone (Frame.enter P f args' .normal) (c::(cs++base)) w)) :
  sD P C B N μ base m w (zhv f args C fr acs H):=by
 unfold zhv
 cases hx:fI C f args false with
 | none=>exact trivial
 | some g=>
  obtain⟨fn,h1,h2⟩:∃fn,C.fns.get f=some fn/\fn.body.isSome=true:=by
   unfold fI at hx;simp only[mA]at hx;obtain⟨fn,hfn,c,hc,_⟩:=hx
   exact⟨fn,hfn,by rw[hc];rfl⟩
  obtain⟨args',h3,h4⟩:=hs fn h1 h2
  exact⟨μ,_,c::cs,w,h4,fun _ _ h=>h,Below.refl N w,hH,(sV hF hx h3).1,.cons hw hcs⟩
end
end Go.Am
namespace Go.Am
open Go Go.RowKit
theorem zer:∀(l:List Oper) (t:Tr zA) (i:Nat) (v:zA),(zew l t).get i=some v->t.get i=some v/\∀o∈l,o.dst≠some i:=by
 intro l;induction l with
 | nil=>intro t i v h;exact⟨h,fun _ ho=>by cases ho⟩
 | cons o l ih=>
  intro t i v h;unfold zew at h
  cases hd:o.dst with
  | none=>
   rw[hd]at h;obtain⟨h1,h2⟩:=ih t i v h
   refine⟨h1,fun u hu=>?_⟩
   rcases yat.1 hu with rfl | hu
   ·rw[hd];simp
   ·exact h2 u hu
  | some j=>
   rw[hd]at h;obtain⟨h1,h2⟩:=ih _ i v h
   rw[Tr.get_del]at h1;split at h1
   ·cases h1
   ·rename_i e
    refine⟨h1,fun u hu=>?_⟩
    rcases yat.1 hu with rfl | hu
    ·rw[hd];exact fun k=>e (ybj k).symm
    ·exact h2 u hu
theorem dG.left{μ:Mu}{all:Array Oper}{olds:List (Nat × List Nat)}{anc:Tr Nat}{n:Nat}{old tm:Tm}{D:Nat}{S:Nat->Bool}{order:List Nat}{tmps:Array Value}(R:dG μ all olds anc n old tm D S order tmps) :
  tE μ n ⟨tm.k,zew all.toList tm.v,[]⟩ tmps:=by
 refine⟨R.size,fun t v hv=>?_⟩
 unfold Tm.get at hv;simp only[lH]at hv;split at hv
 case isFalse=>cases hv
 rename_i hk;obtain⟨h1,h2⟩:=zer _ _ _ _ hv
 have hv:tm.get t=some v:=by unfold Tm.get;simp only[lH];rw[if_pos hk];exact h1
 have hw:∀(i:Nat) (o:Oper),all[i]?=some o->o.dst=some t->False:=fun i o ho hd=>h2 o (by
  have:all.toList[i]?=some o:=by simpa using ho
  exact ybw this) hd
 by_cases hn:t<n
 ·have k:=R.keep t hn fun i o a b=>(hw i o a b).elim
  exact R.past t v hn (fun i o a b=>(hw i o a b).elim) (by rw[<- k];exact hv)
 ·rw[wV (by rw[R.size];omega)]
  exact R.big t v (by omega) (.inl hv)
theorem cJ.left{C:iA}{μ:Mu}{dp n:Nat}{cur:Option rA}{todo:List iD}{tm:Tm}{btodo:List Item}{tmps:Array Value}(h:cJ C μ dp n cur todo tm btodo tmps):tE μ n (zh9 todo tm) tmps:=by
 cases h with
 | plain a t=>
  cases a with
  | nil=>exact t
  | cons x l=>cases x<;>exact t
 | reg a _ _ _=>exact a.left
 | mid a _ _ _ _=>exact a.left
 | wait a _ _ _ _=>exact a.left
theorem bC.append{α β:Type}{R:α->β->Prop}{l l':List α}{m m':List β}(h:bC R l m)(h':bC R l' m'):bC R (l++l') (m++m'):=by
 induction h with
 | nil=>exact h'
 | cons a _ ih=>exact .cons a ih
theorem tE.left{μ:Mu}{n:Nat}{tm:Tm}{tmps:Array Value}(h:tE μ n tm tmps)(todo:List iD):tE μ n (zh9 todo tm) tmps:=by
 unfold zh9;split
 ·refine⟨h.1,fun t v hv=>h.2 t v ?_⟩
  unfold Tm.get at hv ⊢
  simp only[lH]at hv ⊢
  split at hv
  ·rename_i e;rw[if_pos e];exact(zer _ _ _ _ hv).1
  ·cases hv
 ·exact h
theorem zm0{C:iA}{μ:Mu}{dp:Nat}{cur cur':Option rA}{fr:xC}{b:Frame}{l:List gS}{l':List PanicEntry}(h:xI C μ dp cur fr b)(hl:bC (iS μ) l l'):xI C μ dp cur' (zm2 fr l) (b.raise l'):=by
 have t:tE μ fr.R.n (zh9 fr.todo fr.tm) b.tmps:=by
  have:=h.body
  split at this
  ·exact this.left
  ·exact this.left _
 have r:=h.rest
 obtain⟨todo,tm,fn,n,defers,mode,deferred,round⟩:=fr
 obtain⟨bfn,btmps,btodo,bdefers,bmode,bkind,bround⟩:=b
 have m:=r.mode
 cases mode<;>cases bmode<;>first | exact m.elim | skip
 ·exact⟨⟨r.fn,r.size,r.defers,hl,r.kind,r.round⟩,t⟩
 ·exact⟨⟨r.fn,r.size,r.defers,hl,r.kind,r.round⟩,t⟩
 ·refine⟨⟨r.fn,r.size,r.defers,?_,r.kind,r.round⟩,t⟩
  show bC (iS μ) (jF l _) _
  rw[fH];exact hl.append m
end Go.Am
namespace Go.Am
open Go Go.RowKit
section
variable {P:Program}{C:iA}{B N:Nat}{I:World->Prop}{μ ν:Mu}{H H':rA}{w:World}{tm:Tm}{R:rI}{acs:List xC}{base cs:List Frame}
variable {b:Frame}{tmps:Array Value}{ds:List Deferred}{k:List iD}{k':List Item}{all:Array Oper}
theorem ztb{fr:xC}{c:Frame}{v:zA}{v':Value}{m:Machine}{cur:Option rA}(hw:xI C μ acs.length cur fr c)(hcs:eF C μ acs cs)(hH:pB B N μ H w)(hv:sA μ v v')
  (hs:Steps P m (lone (c.raise [{ v:=v',recovered:=false }]) (cs++base) w)):sD P C B N μ base m w (z1e v C fr acs H):=
 ⟨μ,_,cs,w,hs,fun _ _ h=>h,Below.refl N w,hH,zm0 hw (.cons ⟨hv,rfl,rfl⟩ .nil),hcs⟩
theorem zj0{i:Nat}{rest:List Nat}{o:Oper}{v:Value}{cs:List Frame}{w':World}(ho:all[i]?=some o)(hw:Region.wanted o (yielded all tmps)=true)(hd:∀c,o.op≠.defer c)
  (h:(execOp (Act.eval ⟨tmps,ds⟩) o).run P w=.halt (.panic v) w') :
  step P (lone (b.atR ⟨tmps,ds⟩ (.inRegion all (i::rest)::k')) cs w)=.next (lone ((b.atR ⟨tmps,ds⟩ (.inRegion all (i::rest)::k')).raise [{ v,recovered:=false }]) cs w'):=
 step_lone_go (by
  rw[stepGR_op (a:=⟨tmps,ds⟩) ho hw,Oper.semAt_eq _ _ _ hd]
  simp[stepG.apply,Sem.runT_eq,h])
theorem rW(hH:pB B N μ H w){l:Nat}{r:zqj}(h:jN H l=some r){i:BI}(h4:μ l=some i):B<=l/\∃r',H.t.get l=some (.loop r)/\w.heap[i.b]?=some (.loop r')/\zdf μ r r':=by
 unfold jN at h;rw[mB,eE,mA]at h;obtain⟨h1,x,h2,h3⟩:=h
 have:x=.loop r:=by cases x<;>simp[lA.asLoop]at h3;rw[h3]
 subst this;obtain⟨o,h5,h6⟩:=hH.blk l _ i h2 h4
 rw[kH]at h6;obtain⟨r',rfl,h7⟩:=h6
 refine⟨Nat.le_of_not_lt fun hlt=>?_,r',h2,h5,h7⟩
 have:=(hH.low l _ i hlt h2 h4).2.1
 cases this
theorem yW{l:Nat}{r:Loop}(h:w.heap[l]?=some (.loop r)):(Instr.getLoop l).run P w=.ok r w:=by
 simp[Instr.getLoop,getObj,Sem.run_bind,Sem.run,h]
theorem zjc{o:Op}(h:∃c,o=.defer c)(C:iA)(e:xD)(H:rA):(rF o).f C e H=.fail\/∃d,(rF o).f C e H=.defer d:=by
 obtain⟨c,rfl⟩:=h
 show(za8 c c.callee).f C e H=.fail\/∃d,(za8 c c.callee).f C e H=.defer d
 cases c.callee with
 | value f=>
  show z1c (ob (rO f c.args e) fun p=>some (.defer ⟨some p.1,0,jF p.2.1 p.2.2⟩))=.fail\/∃d,z1c (ob (rO f c.args e) fun p=>some (.defer ⟨some p.1,0,jF p.2.1 p.2.2⟩))=.defer d
  cases rO f c.args e with
  | none=>exact .inl rfl
  | some p=>exact .inr ⟨_,rfl⟩
 | _=>exact .inl rfl
theorem zhp{n:Nat}:∀(ps:List Nat) (args:List zA) (tm tm':Tm) (args':List Value) (tmps:Array Value),oX n ps args tm=some tm'->qB μ args args'->tE μ n tm tmps →
  args'.length=ps.length/\tE μ n tm' ((ps.zip args').foldl (fun tmps x=>tmps.setIfInBounds x.1 x.2) tmps):=by
 intro ps;induction ps with
 | nil=>
  intro args tm tm' args' tmps h hl ht
  cases args with
  | nil=>rw[qB]at hl;subst hl;cases h;exact⟨rfl,ht⟩
  | cons a as=>cases h
 | cons p ps ih=>
  intro args tm tm' args' tmps h hl ht
  cases args with
  | nil=>cases h
  | cons a as=>
   rw[qB]at hl;obtain⟨v,r,rfl,hv,hl⟩:=hl
   have:=ih as _ _ r (tmps.setIfInBounds p v) h hl (ht.put (ds:=[]) (dst:=some p) hv)
   exact⟨by simp[this.1],this.2⟩
theorem zjz{i:Nat}{rest:List Nat}{o:Oper}{cs:List Frame}{l:Nat}{f:FuncId}{t:Array Value}{as bd:Code}{w':World}(ho:all[i]?=some o)(hw:Region.wanted o (yielded all tmps)=true)(hd:∀c,o.op≠.defer c)
  (h:(execOp (Act.eval ⟨tmps,ds⟩) o).run P w=.ok (.round l f t as bd) w') :
  step P (lone (b.atR ⟨tmps,ds⟩ (.inRegion all (i::rest)::k')) cs w)=.next (lone (Frame.round l f t as bd .normal) (b.atR ⟨tmps,ds⟩ (.inRegion all (i::rest)::k')::cs) w'):=
 step_lone_go (by
  rw[stepGR_op (a:=⟨tmps,ds⟩) ho hw,Oper.semAt_eq _ _ _ hd]
  simp[stepG.apply,Sem.runT_eq,h,Frame.atR])
theorem zj1{i:Nat}{rest:List Nat}{o:Oper}{cs:List Frame}{d:Deferred}{w':World}(ho:all[i]?=some o)(hw:Region.wanted o (yielded all tmps)=true)(hb:b.roundOf=none)
  (h:(execOp (Act.eval ⟨tmps,ds⟩) o).run P w=.ok (.defer d) w') :
  step P (lone (b.atR ⟨tmps,ds⟩ (.inRegion all (i::rest)::k')) cs w)=.next (lone ((b.atR ⟨tmps,d::ds⟩ (.inRegion all (i::rest)::k')).finish undef) cs w'):=
 step_lone_go (by
  rw[stepGR_op (a:=⟨tmps,ds⟩) ho hw,hb,Oper.semAt_none]
  simp[stepG.apply,Sem.runT_eq,h,Frame.atR])
theorem zfh{i:Nat}{rest:List Nat}{o:Oper}{cs:List Frame}{w':World}(ho:all[i]?=some o)(hw:Region.wanted o (yielded all tmps)=true)(hd:∀c,o.op≠.defer c)(hb:b.roundOf=none)
  (h:(execOp (Act.eval ⟨tmps,ds⟩) o).run P w=.ok .recover w') :
  step P (lone (b.atR ⟨tmps,ds⟩ (.inRegion all (i::rest)::k')) cs w)=.next (match tryRecover (b.atR ⟨tmps,ds⟩ (.inRegion all (i::rest)::k')) cs with
   | some (v,cs)=>lone ((b.atR ⟨tmps,ds⟩ (.inRegion all (i::rest)::k')).finish v) cs w'
   | none=>lone ((b.atR ⟨tmps,ds⟩ (.inRegion all (i::rest)::k')).finish .nilIface) cs w'):=by
 have e:(stepG P true { frame:=b.atR ⟨tmps,ds⟩ (.inRegion all (i::rest)::k'),callers:=cs,status:=.running,dying:=none } w).bare=match tryRecover (b.atR ⟨tmps,ds⟩ (.inRegion all (i::rest)::k')) cs with
   | some (v,cs)=>.go { frame:=(b.atR ⟨tmps,ds⟩ (.inRegion all (i::rest)::k')).finish v,callers:=cs,status:=.running,dying:=none } w'
   | none=>.go { frame:=(b.atR ⟨tmps,ds⟩ (.inRegion all (i::rest)::k')).finish .nilIface,callers:=cs,status:=.running,dying:=none } w':=by
  rw[stepGR_op (a:=⟨tmps,ds⟩) ho hw,Oper.semAt_eq _ _ _ hd]
  have hb':(b.atR ⟨tmps,ds⟩ (.inRegion all (i::rest)::k')).roundOf=none:=hb
  simp only[stepG.apply,Sem.runT_eq,h,GStep.bare_after,hb',if_true]
  cases tryRecover (b.atR ⟨tmps,ds⟩ (.inRegion all (i::rest)::k')) cs with
  | none=>rfl
  | some p=>obtain⟨v,c⟩:=p;rfl
 cases ht:tryRecover (b.atR ⟨tmps,ds⟩ (.inRegion all (i::rest)::k')) cs with
 | none=>rw[ht]at e;exact step_lone_go e
 | some p=>obtain⟨v,c⟩:=p;rw[ht]at e;exact step_lone_go e
theorem zs9{fr:xC}{c:Frame}{l:Nat}{i:BI}{args:List zA}{args':Array Value}{m:Machine}(hw:xI C μ acs.length none fr c)(hcs:eF C μ acs cs)(hH:pB B N μ H w)(hi:μ l=some i)(hl:qB μ args args'.toList)
  (hs:∀f t as bd,(Instr.yield i.b args').run P w=.ok (.round i.b f t as bd) w->Steps P m (lone (Frame.round i.b f t as bd .normal) (c::(cs++base)) w)):sD P C B N μ base m w (zta l args C fr acs H):=by
 unfold zta
 cases hx:ob (jN H l) fun r=>ob (oX r.n r.params args r.tm) fun tm=>some (⟨⟨[.code r.assign,.beginRound,.code r.body],tm,⟨r.fn,r.n,[],.run,false,some l⟩⟩,fr::acs,H⟩:xO)with
 | none=>exact trivial
 | some s=>
  simp only[mA]at hx;obtain⟨r,hr,tm',htm,hx⟩:=hx
  cases hx;obtain⟨_,r',_,h3,h4⟩:=rW hH hr hi
  obtain⟨h5,h6⟩:=zhp r.params args r.tm tm' args'.toList r'.tmps htm hl h4.tm
  rw[<- h4.params]at h5 h6;have sz:args'.size=r'.params.size:=by simpa using h5
  have e:(r'.params.zip args').foldl (fun tmps x=>tmps.setIfInBounds x.1 x.2) r'.tmps=(r'.params.toList.zip args'.toList).foldl (fun tmps x=>tmps.setIfInBounds x.1 x.2) r'.tmps:=by
   rw[<- Array.foldl_toList,Array.toList_zip]
  rw[<- e]at h6;refine⟨μ,_,c::cs,w,hs r'.fn ((r'.params.zip args').foldl (fun tmps x=>tmps.setIfInBounds x.1 x.2) r'.tmps) r'.assign r'.body ?_,fun _ _ h=>h,Below.refl N w,hH,?_,.cons hw hcs⟩
  ·simp only[Instr.yield,Sem.run_bind,yW h3,Result.andThen_ok,sz]
   simp
  ·refine⟨⟨h4.fn,h6.1,.nil,trivial,rfl,⟨i,hi,rfl⟩⟩,?_⟩
   show cJ C μ (acs.length+1) r.n _ _ _ [.code r'.assign,.beginRound,.code r'.body] _
   rw[h4.assign,h4.body];exact .plain (.cons (.code _) (.cons .beginRound (.cons (.code _) .nil))) h6
theorem ze3(hS:Sim P C B N I)(hH:pB B N μ H w)(hcs:eF C μ acs cs){fr:xC}{i:Nat}{rest:List Nat}{o:Oper}{r:kJ}
  (hfr:xI C μ acs.length none fr (b.atR ⟨tmps,ds⟩ (.inRegion all (i::rest)::k'))) (ho:all[i]?=some o) (hw:Region.wanted o (yielded all tmps)=true)
  (hdef:(∃c,o.op=.defer c)->r=.fail\/∃d,r=.defer d) (h:qK P C B N μ H w (Act.eval ⟨tmps,ds⟩) o r) :
  sD P C B N μ base (lone (b.atR ⟨tmps,ds⟩ (.inRegion all (i::rest)::k')) (cs++base) w) w (lV r C fr acs H):=by
 have hd:(∀d,r≠.defer d)->r≠.fail->∀c,o.op≠.defer c:=by
  intro h1 h2 c e;rcases hdef ⟨c,e⟩with h | ⟨d,h⟩
  ·exact h2 h
  ·exact h1 d h
 cases r with
 | fail=>exact trivial
 | val v H'=>
  have hd:=hd (fun _ h=>by cases h) (fun h=>by cases h)
  rcases h with h | ⟨rfl,f,args',h1,h2⟩
  ·obtain⟨v',w',μ',s,hm,hH',hb,hv⟩:=zdp (b:=b) (k':=k') (rest:=rest) (cs:=cs++base) ho hw hd h
   refine zkc (H:=H) hfr hcs hm hH' hb hv ?_
   rw[Frame.finish_atR,ho,Option.bind_some,jU];exact .one s
  ·obtain⟨v',w',s,hv,hb⟩:=ze0 (b:=b) (k':=k') (rest:=rest) (cs:=cs++base) ho hw hd h1 h2
   refine zkc (H:=H') hfr hcs μ.le_refl (hH.below hb) (hb.mono hH.size) hv ?_
   rw[Frame.finish_atR,ho,Option.bind_some,jU];exact s
 | enter f args=>
  have hd:=hd (fun _ h=>by cases h) (fun h=>by cases h)
  exact ztc hS.fns hfr hcs hH fun fn h1 h2=>by
   obtain⟨args',h3,h4⟩:=h fn h1 h2
   exact⟨args',h4,.one (zbv ho hw hd h3)⟩
 | round l args=>
  have hd:=hd (fun _ h=>by cases h) (fun h=>by cases h)
  obtain⟨i0,args',hi,hl,hrun⟩:=h
  exact zs9 hfr hcs hH hi hl fun f t as bd hy=>.one (zjz ho hw hd (by rw[hrun];exact hy))
 | defer d=>
  obtain⟨_,d',h1,h2⟩:=h
  show sD P C B N μ base _ w (ztd d C fr acs H)
  unfold ztd
  cases hr:fr.R.roundOf with
  | some l=>exact trivial
  | none=>
   have hb:b.roundOf=none:=by
    have:=hfr.rest.round
    rw[hr]at this;change jS μ none b.roundOf at this
    cases hb:b.roundOf with
    | none=>rfl
    | some l=>rw[hb]at this;exact this.elim
   simp only[]
   cases hf:tI fr zE with
   | none=>exact trivial
   | some g=>
    have:=gT (cur:=some H) hfr hf yX
    refine⟨μ,_,cs,w,.one (zj1 ho hw hb h1),fun _ _ h=>h,Below.refl N w,hH,?_,hcs⟩
    rw[Frame.finish_atR]at this ⊢
    rw[jU]at this ⊢
    have e:∀x,(Act.put ⟨tmps,d'::ds⟩ x undef).tmps=(Act.put ⟨tmps,ds⟩ x undef).tmps:=fun x=>by cases x<;>rfl
    rw[e];exact⟨⟨this.rest.fn,this.rest.size,.cons h2 this.rest.defers,this.rest.mode,this.rest.kind,this.rest.round⟩,this.body⟩
 | panic v=>
  have hd:=hd (fun _ h=>by cases h) (fun h=>by cases h)
  obtain⟨v',h1,h2⟩:=h
  exact ztb hfr hcs hH h2 (.one (zj0 ho hw hd h1))
 | recover=>
  have hd:=hd (fun _ h=>by cases h) (fun h=>by cases h)
  show sD P C B N μ base _ w (zfp C fr acs H)
  unfold zfp
  cases hr:fr.R.roundOf with
  | some l=>exact trivial
  | none=>
   have hb:b.roundOf=none:=by
    have:=hfr.rest.round
    rw[hr]at this;change jS μ none b.roundOf at this
    cases hb:b.roundOf with
    | none=>rfl
    | some l=>rw[hb]at this;exact this.elim
   cases hk:fr.R.deferred with
   | false=>exact trivial
   | true=>
    have hkind:b.kind=.deferred:=by have:=hfr.rest.kind;rw[hk]at this;exact this
    cases hcs with
    | nil=>exact trivial
    | @cons c b1 acs1 cs1 hc hcs1=>
     have st:=zfh (P:=P) (b:=b) (k':=k') (rest:=rest) (cs:=b1::(cs1++base)) ho hw hd hb h
     have hm:=hc.rest.mode
     have tr:∀todo,tryRecover (b.atR ⟨tmps,ds⟩ todo) (b1::(cs1++base))=match b1.mode with
       | .panicking ({ v,recovered:=false,goexit:=false }::older)=>some (v,{ b1 with mode:=.panicking ({ v,recovered:=true }::older) }::(cs1++base))
       | _=>none:=by
      intro todo;obtain⟨bfn,btmps,btodo,bdefers,bmode,bkind,bround⟩:=b
      simp only at hkind
      subst hkind;rfl
     rw[tr]at st;simp only[]
     cases hcm:c.R.mode with
     | run=>
      rw[hcm]at hm
      cases hbm:b1.mode with
      | run=>
       rw[hbm]at st;simp only[]
       cases hf:tI fr .niliface with
       | none=>exact trivial
       | some g=>exact⟨μ,_,b1::cs1,w,.one st,fun _ _ h=>h,Below.refl N w,hH,gT hfr hf (by rw[sA]),.cons hc hcs1⟩
      | _=>rw[hbm]at hm;exact hm.elim
     | returning=>
      rw[hcm]at hm
      cases hbm:b1.mode with
      | returning=>
       rw[hbm]at st;simp only[]
       cases hf:tI fr .niliface with
       | none=>exact trivial
       | some g=>exact⟨μ,_,b1::cs1,w,.one st,fun _ _ h=>h,Below.refl N w,hH,gT hfr hf (by rw[sA]),.cons hc hcs1⟩
      | _=>rw[hbm]at hm;exact hm.elim
     | panicking ch=>
      rw[hcm]at hm
      cases hbm:b1.mode with
      | run=>rw[hbm]at hm;exact hm.elim
      | returning=>rw[hbm]at hm;exact hm.elim
      | panicking ch'=>
       rw[hbm]at hm st
       cases hm with
       | nil=>exact trivial
       | @cons p e older older' hp hold=>
        obtain⟨pv,pr⟩:=p
        cases pr with
        | true=>exact trivial
        | false=>
         obtain⟨ev',er,eg⟩:=e
         obtain⟨q1,q2,q3⟩:=hp
         simp only at q1 q2 q3
         subst q2 q3
         simp only[]
         cases hf:tI fr pv with
         | none=>exact trivial
         | some g=>
          have dC:=gT (cur:=some H) hfr hf q1
          refine⟨μ,_,{ b1 with mode:=.panicking ({ v:=ev',recovered:=true }::older') }::cs1,w,.one st,fun _ _ h=>h,Below.refl N w,hH,dC,.cons ?_ hcs1⟩
          refine⟨⟨hc.rest.fn,hc.rest.size,hc.rest.defers,.cons ⟨q1,rfl,rfl⟩ hold,hc.rest.kind,hc.rest.round⟩,?_⟩
          have:=hc.body
          rw[hcm]at this;exact this
end
end Go.Am
namespace Go.Am
open Go Go.RowKit
section
variable {P:Program}{C:iA}{B N:Nat}{I:World->Prop}{μ ν:Mu}{H H':rA}{w:World}{tm:Tm}{R:rI}{acs:List xC}{base cs:List Frame}
variable {b:Frame}{tmps:Array Value}{ds:List Deferred}{k:List iD}{k':List Item}{all:Array Oper}
theorem zd6{m:Option Nat}(h:jS μ none m):m=none:=by
 cases m with
 | none=>rfl
 | some l=>exact h.elim
theorem dY{l:Nat}{m:Option Nat}(h:jS μ (some l) m):∃i,μ l=some i/\m=some i.b:=by
 cases m with
 | none=>exact h.elim
 | some m=>obtain⟨i,h1,h2⟩:=h;exact⟨i,h1,by rw[h2]⟩
theorem aY{r:Loop}(a:Array Value)(b:TypeId)(c:Nat × Nat):Obj.loop r≠.cells a b c:=by intro h;cases h
theorem zck(hH:pB B N μ H w)(hcs:eF C μ acs cs)(hR:jG μ R (b.atR ⟨tmps,ds⟩ []))(ht:tE μ R.n tm tmps){todo:List iD}{btodo:List Item}{jump:Option Code}
  (h0:b.roundOf=none->zs5 jump=true->step P (lone (b.atR ⟨tmps,ds⟩ btodo) (cs++base) w)=.next (lone { b.atR ⟨tmps,ds⟩ btodo with mode:=.returning } (cs++base) w))
  (h1:∀l c rest v w',b.roundOf=some l->b.kind=.normal->(Instr.endRound l jump).run P w=.ok v w'->step P (lone (b.atR ⟨tmps,ds⟩ btodo) (c::rest) w)=.next (lone (c.finish v) rest w')) :
  sD P C B N μ base (lone (b.atR ⟨tmps,ds⟩ btodo) (cs++base) w) w (zei jump C ⟨todo,tm,R⟩ acs H):=by
 unfold zei;simp only[]
 cases hr:R.roundOf with
 | none=>
  have hb:b.roundOf=none:=by
   have:=hR.round
   rw[hr]at this;exact zd6 this
  cases hj:zs5 jump with
  | false=>exact trivial
  | true=>exact zht hH hcs hR ht (.one (h0 hb hj))
 | some l=>
  obtain⟨i,hi,hb⟩:∃i,μ l=some i/\b.roundOf=some i.b:=by
   have:=hR.round
   rw[hr]at this;exact dY this
  simp only[]
  cases hx:jN H l with
  | none=>exact trivial
  | some r=>
   rw[uA]
   cases hcs with
   | nil=>exact trivial
   | @cons c b1 acs1 cs1 hc hcs1=>
    simp only[]
    cases hd:R.deferred with
    | true=>exact trivial
    | false=>
     have hkind:b.kind=.normal:=by have:=hR.kind;rw[hd]at this;exact this
     cases hf:tI c (.bool jump.isNone)with
     | none=>exact trivial
     | some c'=>
      obtain⟨hl,r',hg,hw,rel⟩:=rW hH hx hi
      have run:(Instr.endRound i.b jump).run P w=.ok (.bool jump.isNone) (World.setBlk w i.b (.loop { r' with state:=if jump.isNone then .ready else .done,pending:=jump })):=by
       simp only[Instr.endRound,Sem.run_bind,yW hw,Result.andThen_ok,nU hw aY,Sem.run_pure]
      refine⟨μ,_,cs1,_,.one (h1 i.b b1 (cs1++base) _ _ hb hkind run),fun _ _ h=>h,wS (hH.own l i hl hi).1,?_,gT hc hf (by rw[sA]),hcs1⟩
      refine hH.upd hg hi hl ?_
      rw[kH];exact⟨_,rfl,rfl,rfl,rel.fn,rel.tm,rel.params,rel.assign,rel.body,rel.defers⟩
theorem zk2{id:Nat}:∀ {k:List iD} {k':List Item},bC (zG μ) k k'->aN id k=none->exitTo id k'=none:=by
 intro k k' h;induction h with
 | nil=>intro _;rfl
 | cons a l ih=>
  intro e
  cases a with
  | inBlock i=>
   unfold aN at e;simp only[iD.blockId]at e;rw[jC]at e;unfold exitTo;by_cases hi:i=id
   ·subst hi
    rw[if_pos (aB.2 rfl)]at e
    cases e
   ·rw[if_neg fun h=>hi (aB.1 h)]at e
    simp[hi,ih e]
  | _=>
   unfold aN at e;unfold exitTo;exact ih e
theorem z5f(hH:pB B N μ H w)(hcs:eF C μ acs cs)(hR:jG μ R (b.atR ⟨tmps,ds⟩ []))(ht:tE μ R.n tm tmps)(hk:bC (zG μ) k k'){id:Nat} :
  sD P C B N μ base (lone (b.atR ⟨tmps,ds⟩ (.code (.exit id)::k')) (cs++base) w) w (zqt id C k tm R acs H):=by
 unfold zqt
 cases he:aN id k with
 | some r=>
  obtain⟨r',h1,h2⟩:=zvu hk he
  exact lQ hH hcs hR ht h2 (.one (stepR_exit h1))
 | none=>
  exact zck hH hcs hR ht (fun _ h=>by cases h) fun l c rest v w' hb hkd hr=>stepR_round_exit hb hkd (zk2 hk he) hr
theorem ret_ok(hH:pB B N μ H w)(hcs:eF C μ acs cs)(hR:jG μ R (b.atR ⟨tmps,ds⟩ []))(ht:tE μ R.n tm tmps) :
  sD P C B N μ base (lone (b.atR ⟨tmps,ds⟩ (.code .ret::k')) (cs++base) w) w (xRet C k tm R acs H):=
 zck hH hcs hR ht (fun hb _=>stepR_ret hb) fun _ _ _ _ _ hb hkd hr=>stepR_round_ret hb hkd hr
theorem end_ok(hH:pB B N μ H w)(hcs:eF C μ acs cs)(hR:jG μ R (b.atR ⟨tmps,ds⟩ []))(ht:tE μ R.n tm tmps) :
  sD P C B N μ base (lone (b.atR ⟨tmps,ds⟩ []) (cs++base) w) w (zei none C ⟨[],tm,R⟩ acs H):=
 zck hH hcs hR ht (fun hb _=>stepR_end hb) fun _ _ _ _ _ hb hkd hr=>stepR_round_end hb hkd hr
theorem eY{o:Oper}{rest:List Oper}:pP C all k R acs (o::rest) tm H=match gE o.guard all tm with
  | none=>.fail 20
  | some false=>pP C all k R acs rest (putA R.n tm o.dst zE) H
  | some true=>match ((rF o.op).f C (.now tm) H).asVal with
   | some p=>pP C all k R acs rest (putA R.n tm o.dst p.1) p.2
   | none=>lV ((rF o.op).f C (.now tm) H) C ⟨.ops all (o::rest)::k,tm,R⟩ acs H:=by
 show(match gE o.guard all tm with
  | some w=>Bool.rec (motive:=fun _=>eC) (pP C all k R acs rest (putA R.n tm o.dst zE) H)
     (let r:=(rF o.op).f C (.now tm) H
     match r.asVal with
     | some p=>pP C all k R acs rest (putA R.n tm o.dst p.1) p.2
     | none=>lV r C ⟨.ops all (o::rest)::k,tm,R⟩ acs H) w
  | none=>.fail 20)=_
 cases gE o.guard all tm with
 | none=>rfl
 | some w=>cases w<;>rfl
theorem zea{n i:Nat}(h:i<n):(List.range n).drop i=i::(List.range n).drop (i+1):=by
 rw[yam (by simpa using h)];simp
theorem zhs(hS:Sim P C B N I):∀(rest:List Oper) (i:Nat) (tm:Tm) (H:rA) (w:World) (μ:Mu) (tmps:Array Value),rest=all.toList.drop i->i<=all.size->I w->pB B N μ H w->eF C μ acs cs →
  jG μ R (b.atR ⟨tmps,ds⟩ [])->tE μ R.n tm tmps->bC (zG μ) k k' →
  sD P C B N μ base (lone (b.atR ⟨tmps,ds⟩ (.inRegion all ((List.range all.size).drop i)::k')) (cs++base) w) w (pP C all k R acs rest tm H):=by
 intro rest;induction rest with
 | nil=>
  intro i tm H w μ tmps hi hle hI hH hcs hR ht hk;have:all.size<=i:=by
   have:=congrArg List.length hi
   simp at this;omega
  rw[yau (by simpa using this)]
  exact lQ hH hcs hR ht hk (.one stepR_region_end)
 | cons o rest ih=>
  intro i tm H w μ tmps hi hle hI hH hcs hR ht hk;obtain⟨h1,h2⟩:=dQ hi
  have hlt:i<all.size:=by have:=(yad.1 h1).1;simpa using this
  have ho:all[i]?=some o:=by simpa using h1
  rw[eY,zea hlt]
  cases hw:gE o.guard all tm with
  | none=>exact trivial
  | some wn=>
   have hwn:=ht.wanted (all:=all) hw
   cases wn with
   | false=>
    refine sD.of_steps (.one (lY ho hwn)) (fun _ _ h=>h) (Below.refl N w) ?_
    rw[jU];have t:=ht.put (ds:=ds) (dst:=o.dst) yX
    exact ih (i+1) _ _ _ _ _ h2 hlt hI hH hcs (hR.slots t.1) t hk
   | true=>
    have hop:=z2n hS.tys hS.base hS.fns hS.prims hH hI (ht.erel (ds:=ds) hH.glob) o
    simp only[];generalize hr:(rF o.op).f C (.now tm) H=r at hop
    have hdef:(∃c,o.op=.defer c)->r=.fail\/∃d,r=.defer d:=fun h=>by rw[<- hr];exact zjc h _ _ _
    have hfr:xI C μ acs.length none ⟨.ops all (o::rest)::k,tm,R⟩ (b.atR ⟨tmps,ds⟩ (.inRegion all (i::(List.range all.size).drop (i+1))::k')):=by
     refine⟨hR.todo,?_⟩
     rw[if_pos hR.running,<- zea hlt,hi];exact .plain (.cons (.ops all i hle) hk) ht
    cases hv:r.asVal with
    | none=>exact ze3 hS hH hcs hfr ho hwn hdef hop
    | some p=>
     have:r=.val p.1 p.2:=by cases r<;>simp[kJ.asVal]at hv;rw[<- hv]
     subst this;simp only[];have hd:∀c,o.op≠.defer c:=fun c e=>by
      rcases hdef ⟨c,e⟩with h | ⟨d,h⟩<;>cases h
     rcases hop with h | ⟨he,f,args',h3,h4⟩
     ·obtain⟨v',w',μ',s,hm,hH',hb,hv⟩:=zdp (b:=b) (k':=k') (rest:=(List.range all.size).drop (i+1)) (cs:=cs++base) ho hwn hd h
      refine sD.of_steps (.one s) hm.f hb ?_
      have t:=(ht.mono hm).put (ds:=ds) (dst:=o.dst) hv
      exact ih (i+1) _ _ _ _ _ h2 hlt (hS.inv _ _ hb hI) hH' (hcs.mono hm) ((hR.mono hm).slots t.1) t (hk.mono fun _ _ r=>r.mono hm)
     ·obtain⟨v',w',s,hv,hb⟩:=ze0 (b:=b) (k':=k') (rest:=(List.range all.size).drop (i+1)) (cs:=cs++base) ho hwn hd h3 h4
      have hbN:=hb.mono hH.size
      refine sD.of_steps s (fun _ _ h=>h) hbN ?_
      have t:=ht.put (ds:=ds) (dst:=o.dst) hv
      rw[he];exact ih (i+1) _ _ _ _ _ h2 hlt (hS.inv _ _ hbN hI) (hH.below hb) hcs (hR.slots t.1) t hk
theorem zzl(hS:Sim P C B N I)(hI:I w)(hH:pB B N μ H w)(hcs:eF C μ acs cs)(hR:jG μ R (b.atR ⟨tmps,ds⟩ []))(hk:bC (zG μ) k k'){olds:List (Nat × List Nat)}{anc:Tr Nat}{old:Tm}{D:Nat}{S:Nat->Bool}{order:List Nat}{st:vG}{stages:List vG}{o:Oper}
  (hr:dG μ all olds anc R.n old tm D S order tmps) (hst:wJ all.toList anc (st::stages) D=true) (hp:dJ C μ acs.length H all olds R.n old tm D S) (ho:all[st.heavy]?=some o) :
  sD P C B N μ base (lone (b.atR ⟨tmps,ds⟩ (.inRegion all order::k')) (cs++base) w) w (zlz all old olds st stages o C k tm R acs H):=by
 have hlt:st.heavy<=all.size:=Nat.le_of_lt (yaf.1 ho).1
 obtain⟨S',order',tmps',μ',w',s,g,r1,p1⟩:=reach (b:=b) (k:=k') (cs:=cs++base) (ds:=ds) hS.tys hst hlt order S tmps μ w hH hr hp
 refine sD.of_steps s g.le g.below ?_
 replace hI:=hS.inv _ _ g.below hI
 replace hH:=g.heap
 replace hcs:=hcs.monoD fun d hd=>g.pd d (by omega)
 replace hR:=hR.mono g.le
 replace hk:bC (zG μ') k k':=hk.mono fun _ _ r=>r.mono g.le
 unfold zlz
 cases hw:gE o.guard all tm with
 | none=>exact trivial
 | some wn=>
  obtain⟨o',ho',hS',hb',_⟩:=r1.sched
  rw[ho]at ho';cases ho'
  have hwn:=r1.wanted ho hb' hw
  have hfr:xI C μ' acs.length none ⟨.reg all old olds (st::stages)::k,tm,R⟩ (b.atR ⟨tmps',ds⟩ (.inRegion all (st.heavy::order')::k')):=by
   refine⟨(hR.slots r1.size).todo,?_⟩
   rw[if_pos hR.running];exact .wait r1 hst hlt (toWeak hst hlt r1 p1) hk
  cases wn with
  | false=>
   refine zkc (H:=H) hfr hcs μ'.le_refl hH (Below.refl N w') yX ?_
   rw[Frame.finish_atR,ho,Option.bind_some];exact .one (lY ho hwn)
  | true=>
   have hop:=z2n hS.tys hS.base hS.fns hS.prims hH hI (r1.erel (ds:=ds) hH.glob ho hS' hb') o
   exact ze3 hS hH hcs hfr ho hwn (fun h=>zjc h _ _ _) hop
theorem zpz(hS:Sim P C B N I)(hH:pB B N μ H w)(hcs:eF C μ acs cs)(hR:jG μ R (b.atR ⟨tmps,ds⟩ []))(hk:bC (zG μ) k k'){olds:List (Nat × List Nat)}{anc:Tr Nat}{old:Tm}{D:Nat}{S:Nat->Bool}{order:List Nat}{st:vG}{stages:List vG}
  (hr:dG μ all olds anc R.n old tm D S order tmps) (hst:wJ all.toList anc (st::stages) D=true) (hp:dJ C μ acs.length H all olds R.n old tm D S) (hlt:all.size<st.heavy) :
  sD P C B N μ base (lone (b.atR ⟨tmps,ds⟩ (.inRegion all order::k')) (cs++base) w) w (zqs all old olds st stages (st.heavy-(all.size+1)) C k tm R acs H):=by
 obtain⟨o,D1,D2,ho,hf,h1,h2,h3⟩:=zdn hst hlt
 generalize st.heavy-(all.size+1)=i at *
 obtain⟨o',ho',hi,hb,hD1⟩:=tW h1
 rw[ho]at ho';cases ho'
 unfold zqs;generalize hx:(ob (nD all.toList i) fun o=>ob (gE o.guard all tm) fun w=>sB w (ob ((rF o.op).f C (.mixed tm old (cE i olds) (sH o.op)) H).asVal fun p=>
  ob (mO C p.2 all R.n old olds st.lights (putA R.n tm o.dst p.1)) fun tm'=>some (⟨⟨.reg all old olds stages::k,tm',R⟩,acs,p.2⟩:xO)))=x
 cases x with
 | none=>exact trivial
 | some x=>
  simp only[mA,mB,dD]at hx;obtain⟨o',ho',wn,hw,hwn,p,hv,tm',hl,hx⟩:=hx
  have:o'=o:=by
   have h:all[i]?=some o':=by simpa using ho'
   rw[ho]at h;exact(ybj h).symm
  subst this;subst hwn
  cases hx;have hop:(rF o'.op).f C (wM tm old olds i o') H=.val p.1 p.2:=by
   show(rF o'.op).f C (.mixed tm old (cE i olds) (sH o'.op)) H=_
   generalize (rF o'.op).f C (.mixed tm old (cE i olds) (sH o'.op)) H=r at hv
   cases r<;>simp[kJ.asVal]at hv
   rw[<- hv]
  obtain⟨l,hl2⟩:∃l,p.2=vF H l none:=zp0 hf hop
  have hH':pB B N (μ.wait H.next (.cells (Tr.ofList l) (uB l) none,acs.length,i)) p.2 w:=by rw[hl2];exact hH.early
  have hle:μ.lw (μ.wait H.next (.cells (Tr.ofList l) (uB l) none,acs.length,i)):=fun _ _ h=>h
  have hpd:∀d,μ.ln d (μ.wait H.next (.cells (Tr.ofList l) (uB l) none,acs.length,i)):=fun d=>⟨hle,fun a x j ha=>by
   show(if a=H.next then _ else μ.pd a)=_
   rw[if_neg]
   ·exact ha
   ·intro e
    have:=(hH.pnd _ _ _ ha).2.1
    rw[e,(hH.fresh _ (yal _)).2]at this
    cases this⟩
  have hgrow:HM.HLe H p.2:=by
   intro b y hb;rw[hl2];show(H.t.set H.next _).get b=some y
   rw[Tr.get_set,if_neg]
   ·exact hb
   ·intro e
    rw[e,(hH.fresh _ (yal _)).2]at hb
    cases hb
  have r1:=(hr.light (v:=p.1) ho hi hb hD1).mono hle
  have p1:dJ C (μ.wait H.next (.cells (Tr.ofList l) (uB l) none,acs.length,i)) acs.length p.2 all olds R.n old (putA R.n tm o'.dst p.1) D1 S:=by
   intro j hj hSj;rw[hD1]at hj;simp only[ybr,beq_iff_eq]at hj;rcases hj with hj | rfl
   ·rcases hp j hj hSj with⟨u,wu,vu,pu⟩ | ⟨u,vu,pu⟩
    ·exact .inl ⟨u,wu,vu,(pu.keep hr.reg hr.dclosed hj ho hi).grow hgrow⟩
    ·exact .inr ⟨u,vu,(pu.keep hr.reg hr.dclosed hj ho hi).mono (hpd _)⟩
   ·refine .inr ⟨o',p.1,yP.fresh hr.reg hr.dclosed ho hb hi hf hw ⟨H,l,by rw[hop,hl2],?_⟩⟩
    show(if H.next=H.next then _ else μ.pd H.next)=_
    rw[if_pos rfl]
  obtain⟨r2,p2⟩:=zab _ _ _ hl h2 r1 p1
  exact⟨_,_,cs,w,.refl _ _,hle,Below.refl N w,hH',⟨(hR.mono hle).todo,by rw[if_pos hR.running];exact .reg r2 h3 p2 (hk.mono fun _ _ r=>r.mono hle)⟩,hcs.monoD fun d _=>hpd d⟩
end
end Go.Am
