/- A plan that is true to its region. -/
import Derived.AtR
import Derived.Test.YtfmlbimokklmgaaGreatDoorB02
set_option linter.all false
noncomputable section
namespace Go.Am
open Go Go.RowKit
theorem Sd(m i:Nat):tb m i=m.testBit i:=by
 have h:Nat.mod (Nat.shiftRight m i) 2=(m >>> i)%2:=rfl
 unfold tb;show Nat.beq ((m >>> i)%2) 1=_
 rw[Nat.testBit,Nat.and_comm,Nat.and_one_is_mod];rcases Nat.mod_two_eq_zero_or_one (m >>> i)with h | h<;>rw[h]<;>rfl
theorem Mi(i j:Nat):tb (bY i) j=(i == j):=by
 rw[Sd];show(1 <<< i).testBit j=_
 rw[Nat.one_shiftLeft,Nat.testBit_two_pow]
 cases h:(i == j)<;>simp_all
theorem Mh(a b j:Nat):tb (Nat.lor a b) j=(tb a j||tb b j):=by
 simp_all [Sd]
theorem Mg(j:Nat):tb 0 j=false:=by rw[Sd];simp
theorem Fw(e:Edge):Dc e=Region.binds .any e:=by
 unfold Dc Region.binds
 cases e.ground<;>rfl
def gW(ops:Array Oper)(S:Nat->Bool):Prop:=∀i o,ops[i]?=some o->S i=true->∀j,qK o j->S j=true
def zef(ops:Array Oper)(k m:Nat):Prop:=∀S,gW ops S->(∀o,ops[k]?=some o->∀j,qK o j->S j=true)->∀j,tb m j=true->S j=true
theorem TK{t:Tr Nat}{j:Nat}:∀ {l:List Edge},tb (Eu t l) j=true->∃e∈l,Region.binds .any e=true/\(e.on=j\/tb (tI t e.on) j=true):=by
 intro l;induction l with
 | nil=>grind [Eu,Mg]
 | cons e l ih=>
  grind [Eu,Mh,Mi,Fw]
theorem zad{t:Tr Nat}{i k m:Nat}:tI (t.set i m) k=if k=i then m else tI t k:=by
 unfold tI;rw[Tr.get_set];by_cases h:k=i<;>simp[h]
theorem VO{k:Nat}:tI .leaf k=0:=rfl
theorem iU{α:Type}{l r:List α}{a:α}{i:Nat}(h:a::r=l.drop i):l[i]?=some a/\r=l.drop (i+1):=by
 have h1:(l.drop i)[0]?=some a:=by grind
 rw[yde]at h1;refine⟨by omega,?_⟩
 have:r=(l.drop i).drop 1:=by grind
 rw[this,List.drop_drop]
theorem za6{ops:Array Oper}:∀(r:List Oper) (i:Nat) (t:Tr Nat),r=ops.toList.drop i->(∀k,zef ops k (tI t k))->∀k,zef ops k (tI (zeb r i t) k):=by
 intro r;induction r with
 | nil=>intro i t _ h k;exact h k
 | cons o r ih=>
  intro i t hr h;obtain⟨h1,h2⟩:=iU hr
  refine ih (i+1) _ h2 fun k=>?_
  rw[zad];split
  ·rename_i e;subst e
   intro S hS hp j hj;obtain⟨e,he,hb,hj⟩:=TK hj
   have ho:ops[k]?=some o:=by simp_all
   have hon:=hp o ho e.on ⟨e,he,hb,rfl⟩
   rcases hj with rfl | hj
   ·exact hon
   ·exact h e.on S hS (fun o' ho'=>hS _ o' ho' hon) j hj
  grind
theorem SR{ops:Array Oper}:∀(r:List Oper) (i:Nat),r=ops.toList.drop i->Oa r i=true->∀k o,i<=k->ops[k]?=some o->∀j,qK o j->j<k:=by
 intro r;induction r with
 | nil=>
  grind [List.drop_eq_nil_iff]
 | cons o r ih=>
  intro i hr h k o' hk ho;obtain⟨h1,h2⟩:=iU hr
  unfold Oa at h;rw[dC]at h;split at h
  ·rename_i h3
   rcases Nat.eq_or_lt_of_le hk with rfl | hk
   ·have:o'=o:=by
     simp_all
    subst this;rintro j ⟨e,he,hb,rfl⟩
    grind [dH,Fw,vC]
   grind
  ·cases h
def WrOk (ops:Array Oper)(i:Nat)(wr:Tr Nat):Prop:=∀d k,wr.get d=some k ↔ k<i/\∃o,ops[k]?=some o/\o.dst=some d
theorem zbs{ops:Array Oper}:∀(r:List Oper) (i:Nat) (t wr:Tr Nat),r=ops.toList.drop i->i<=ops.size->WrOk ops i t->Dl r i t=some wr->WrOk ops ops.size wr:=by
 intro r;induction r with
 | nil=>
  intro i t wr hr hi h he
  cases he;grind [List.drop_eq_nil_iff]
 | cons o r ih=>
  intro i t wr hr hi h he;obtain⟨h1,h2⟩:=iU hr
  have ho:ops[i]?=some o:=by simp_all
  have hi':i<ops.size:=(ybe.1 ho).1
  unfold Dl at he
  cases hd:o.dst with
  | none=>
   rw[hd]at he;refine ih (i+1) t wr h2 hi' (fun d k=>?_) he
   rw[h d k];grind
  | some d0=>
   rw[hd]at he;simp only[]at he
   cases hg:t.get d0 with
   | some x=>simp_all
   | none=>
    rw[hg]at he;refine ih (i+1) _ wr h2 hi' (fun d k=>?_) he
    rw[Tr.get_set];by_cases hdd:d=d0
    ·subst hdd
     rw[yab rfl];constructor
     ·grind
     ·rintro⟨a,o',ho',hd'⟩
      rcases Nat.lt_succ_iff_lt_or_eq.1 a with a | rfl
      ·have:=(h d k).2 ⟨a,o',ho',hd'⟩
       simp_all
      ·rfl
    ·rw[yaa hdd,h d k]
     grind
theorem SP{ops:Array Oper}{wr anc:Tr Nat}{olds:List (Nat × List Nat)}:∀(r:List Oper) (i:Nat),r=ops.toList.drop i->Ny wr anc olds r i=true →
  ∀k o,i<=k->ops[k]?=some o->Vs (tI anc k) o.guard=true/\∀t∈cG o.op,Vr wr anc k (eE k olds) t=true:=by
 intro r;induction r with
 | nil=>
  grind [List.drop_eq_nil_iff]
 | cons o r ih=>
  intro i hr h k o' hk ho;obtain⟨h1,h2⟩:=iU hr
  unfold Ny at h;rw[dC]at h;split at h
  ·rename_i h3
   rw[dC]at h;split at h
   ·rename_i h4
    rcases Nat.eq_or_lt_of_le hk with rfl | hk
    all_goals grind [dH]
   ·cases h
  ·cases h
structure yV (ops:Array Oper) (olds:List (Nat × List Nat)) (anc:Tr Nat):Prop where
 back:Back ops
 before:∀k,zef ops k (tI anc k)
 one:∀(i j:Nat) (o u:Oper) (d:Nat),ops[i]?=some o->ops[j]?=some u->o.dst=some d->u.dst=some d->i=j
 guard:∀(k:Nat) (o:Oper),ops[k]?=some o->Vs (tI anc k) o.guard=true
 name:∀(k:Nat) (o:Oper) (j:Nat) (u:Oper) (t:Nat),ops[k]?=some o->ops[j]?=some u->u.dst=some t->t∈cG o.op->if t∈eE k olds then j=k\/tb (tI anc j) k=true else tb (tI anc k) j=true
theorem SO{ops:Array Oper}{p:Plan}(h:nS ops p=true):∃anc D,yV ops p.olds anc/\bO ops.toList p.first 0=some D/\pI ops.toList anc p.stages D=true:=by
 change Vq ops.toList p=true at h
 unfold Vq at h;rw[dC]at h;split at h
 case isFalse=>cases h
 rename_i hb
 cases hw:Dl ops.toList 0 .leaf with
 | none=>simp_all
 | some wr=>
  rw[hw]at h;simp only[]at h;rw[dC]at h;split at h
  case isFalse=>cases h
  rename_i ho
  cases hl:bO ops.toList p.first 0 with
  | none=>simp_all
  | some D=>
   rw[hl]at h;have wo:WrOk ops ops.size wr:=zbs _ 0 _ _ rfl (yaw _) (fun d k=>by simp[Tr.get_leaf]) hw
   have oo:=SP _ 0 (by rfl) ho
   have wr':∀k o d,ops[k]?=some o->o.dst=some d->wr.get d=some k:=fun k o d h1 h2=>(wo d k).2 ⟨(ybe.1 h1).1,o,h1,h2⟩
   refine⟨_,D,⟨fun i o h1=>SR _ 0 rfl hb i o (yaw _) h1,za6 _ 0 _ rfl fun k S _ _ j hj=>?_,?_,fun k o h1=>(oo k o (yaw _) h1).1,?_⟩,rfl,h⟩
   all_goals grind [VO,Mg,Vr,lX,sC]
theorem Jb{ops:Array Oper}{i D D':Nat}(h:lV ops.toList i D=some D'):∃o,ops[i]?=some o/\tb D i=false/\(∀j,qK o j->tb D j=true)/\∀k,tb D' k=(tb D k||k == i):=by
 unfold lV at h;rw[tA]at h;obtain⟨o,h1,h2⟩:=h
 rw[zG]at h1;rw[xB]at h2;obtain⟨h2,h3⟩:=h2
 cases h3;rw[dC]at h2;split at h2
 ·cases h2
 ·rename_i h4
  refine⟨o,by simp_all,by simp_all,?_,fun k=>by grind [Mh,Mi]⟩
  rintro j ⟨e,he,hb,rfl⟩
  grind [cW,dH,Fw]
theorem SQ{ops:Array Oper}{h D:Nat}:∀(r:List Oper) (i:Nat),r=ops.toList.drop i->Nz h D r i=true →
  ∀k o,i<=k->ops[k]?=some o->tb D k=false->(∀j,qK o j->tb D j=true)->k=h:=by
 intro r;induction r with
 | nil=>
  grind [List.drop_eq_nil_iff]
 | cons o r ih=>
  intro i hr h k o' hk ho;obtain⟨h1,h2⟩:=iU hr
  unfold Nz at h;rw[dC]at h;split at h
  ·rename_i h3
   rcases Nat.eq_or_lt_of_le hk with rfl | hk
   ·have:o'=o:=by
     simp_all
    subst this;intro hD hj;rw[hD]at h3;simp only[cond_false]at h3;rw[dC]at h3;split at h3
    ·simp_all
    ·exfalso
     have:cW D o'=true:=by
      unfold cW;rw[dH,ycb];intro e he
      cases hb:Dc e with
      | false=>rfl
      | true=>exact hj e.on ⟨e,he,by grind [Fw],rfl⟩
     simp_all
   grind
  ·cases h
theorem STzx{ops:Array Oper}{m D:Nat}{again:List Nat}:∀(r:List Oper) (i:Nat),r=ops.toList.drop i->Od m D again r i=true →
  ∀k o,i<=k->ops[k]?=some o->tb D k=true->tb m k=true\/qS o.op=true\/zK o.op=true\/k∈again:=by
 intro r;induction r with
 | nil=>
  grind [List.drop_eq_nil_iff]
 | cons o r ih=>
  intro i hr h k o' hk ho;obtain⟨h1,h2⟩:=iU hr
  unfold Od at h;rw[dC]at h;split at h
  ·rename_i h3
   rcases Nat.eq_or_lt_of_le hk with rfl | hk
   all_goals grind [lX]
  ·cases h
theorem SS{ops:Array Oper}{D:Nat}:∀(r:List Oper) (i:Nat),r=ops.toList.drop i->Ob D r i=true->∀k,i<=k->k<ops.size->tb D k=true:=by
 intro r;induction r with
 | nil=>
  grind [List.drop_eq_nil_iff]
 | cons o r ih=>
  intro i hr h k hk ho;obtain⟨h1,h2⟩:=iU hr
  unfold Ob at h;rw[dC]at h;split at h
  ·rename_i h3
   rcases Nat.eq_or_lt_of_le hk with rfl | hk
   all_goals grind
  ·cases h
theorem SJ{ops:Array Oper}{anc:Tr Nat}{D:Nat}(h:pI ops.toList anc [] D=true):∀k,k<ops.size->tb D k=true:=
 fun k hk=>SS _ 0 rfl h k (yaw _) hk
theorem Nw{ops:Array Oper}{anc:Tr Nat}{D:Nat}{st:iE}{r:List iE}(h:pI ops.toList anc (st::r) D=true)(hlt:st.heavy<=ops.size) :
  (∀k o,ops[k]?=some o->tb D k=false->(∀j,qK o j->tb D j=true)->k=st.heavy) ∧
  (∀k o,ops[k]?=some o->tb D k=true->tb (tI anc st.heavy) k=true\/qS o.op=true\/zK o.op=true\/k∈st.again) ∧
  ∃D1 D2,lV ops.toList st.heavy D=some D1/\bO ops.toList st.lights D1=some D2/\pI ops.toList anc r D2=true:=by
 unfold pI at h;rw[dC,yaa fun e=>by grind [vC,sD],dC]at h;split at h
 case isFalse=>cases h
 rename_i h1;rw[dC]at h;split at h
 case isFalse=>cases h
 rename_i h2;refine⟨fun k o a b c=>SQ _ 0 rfl h1 k o (yaw _) a b c,fun k o a b=>STzx _ 0 rfl h2 k o (yaw _) a b,?_⟩
 cases h3:lV ops.toList st.heavy D with
 | none=>simp_all
 | some D1=>
  grind [qA]
theorem SM{ops:Array Oper}{anc:Tr Nat}{D:Nat}{st:iE}{r:List iE}(h:pI ops.toList anc (st::r) D=true)(hlt:ops.size<st.heavy)(hle:st.heavy<=ops.size+ops.size) :
  ∃o D1 D2,ops[st.heavy-(ops.size+1)]?=some o/\zK o.op=true/\lV ops.toList (st.heavy-(ops.size+1)) D=some D1/\bO ops.toList st.lights D1=some D2/\pI ops.toList anc r D2=true:=by
 have e0:Nat.sub st.heavy (Nat.succ (bA ops.toList))=st.heavy-(ops.size+1):=by rw[sD];simp
 unfold pI at h;rw[dC,yab (vC.2 (by grind [sD])),dC,yaa (fun e=>by grind [vC]),dC,e0]at h
 split at h
 case isFalse=>cases h
 rename_i h1
 cases h3:lV ops.toList (st.heavy-(ops.size+1)) D with
 | none=>simp_all
 | some D1=>
  rw[h3]at h;simp only[qA]at h
  cases h4:bO ops.toList st.lights D1 with
  | none=>simp_all
  | some D2=>
   rw[h4]at h;rw[zG]at h1
   cases ho:ops.toList[st.heavy-(ops.size+1)]? with
   | none=>grind
   | some o=>rw[ho]at h1;exact⟨o,D1,D2,by simp_all,h1,rfl,h4,h⟩
structure Za (ops:Array Oper) (anc:Tr Nat) (D:Nat) (G:List Nat) (D1:Nat):Prop where
 op:∀i∈G,∃o,ops[i]?=some o/\tb D i=false/\(∀j,qK o j->tb D j=true)/\o.dst=none
 nodup:G.Nodup
 done:∀k,tb D1 k=(tb D k||decide (k∈G))
 rest:∀k o,ops[k]?=some o->tb D1 k=false->(∀g∈G,tb (tI anc k) g=true)\/¬ ∀j,qK o j->tb D1 j=true
 again:∀k o,ops[k]?=some o->tb D k=true->qS o.op=true\/zK o.op=true\/Jx o.op=true\/∀g∈G,tb (tI anc g) k=true
theorem Zu{D:Nat}{o:Oper}:cW D o=true ↔ ∀j,qK o j->tb D j=true:=by
 unfold cW;rw[dH,ycb];constructor
 ·rintro h j ⟨e,he,hb,rfl⟩
  grind [Fw]
 ·intro h e he
  cases hb:Dc e with
  | false=>rfl
  | true=>exact h e.on ⟨e,he,by grind [Fw],rfl⟩
theorem okG_ok{ops:Array Oper}{D:Nat}:∀ {G:List Nat} {E D1:Nat},okG ops.toList D G E=some D1->(∀k,tb D k=true->tb E k=true) →
  (∀i∈G,∃o,ops[i]?=some o/\tb E i=false/\(∀j,qK o j->tb D j=true)/\o.dst=none)/\G.Nodup/\∀k,tb D1 k=(tb E k||decide (k∈G)):=by
 intro G;induction G with
 | nil=>intro E D1 h _;cases h;simp_all
 | cons i G ih=>
  intro E D1 h hDE;unfold okG at h;simp only[tA,xB,ybb,ycp,zG]at h;obtain⟨o,ho,⟨⟨h1,h2⟩,h3⟩,h⟩:=h
  have hE:∀k,tb (Nat.lor E (bY i)) k=(tb E k||i == k):=fun k=>by rw[Mh,Mi]
  obtain⟨g1,g2,g3⟩:=ih h (fun k hk=>by simp_all)
  have hni:i∉G:=fun hi=>by
   grind
  refine⟨fun j hj=>?_,List.nodup_cons.2 ⟨hni,g2⟩,fun k=>?_⟩
  ·rcases ybs.1 hj with rfl | hj
   ·refine⟨o,by simp_all,h1,Zu.1 h2,?_⟩
    cases hd:o.dst with
    | none=>rfl
    | some d=>rw[hd]at h3;cases h3
   grind
  grind
theorem SN{ops:Array Oper}{anc:Tr Nat}{D1:Nat}{G:List Nat}:∀(r:List Oper) (i:Nat),r=ops.toList.drop i->Nx anc D1 G r i=true →
  ∀k o,i<=k->ops[k]?=some o->tb D1 k=false->(∀g∈G,tb (tI anc k) g=true)\/¬ ∀j,qK o j->tb D1 j=true:=by
 intro r;induction r with
 | nil=>
  grind [List.drop_eq_nil_iff]
 | cons o r ih=>
  intro i hr h k o' hk ho;obtain⟨h1,h2⟩:=iU hr
  unfold Nx at h;rw[dC]at h;split at h
  case isFalse=>cases h
  rename_i h3;rcases Nat.eq_or_lt_of_le hk with rfl | hk
  all_goals grind [dH,Zu]
theorem SU{ops:Array Oper}{anc:Tr Nat}{D:Nat}{G:List Nat}:∀(r:List Oper) (i:Nat),r=ops.toList.drop i->Oc anc D G r i=true →
  ∀k o,i<=k->ops[k]?=some o->tb D k=true->qS o.op=true\/zK o.op=true\/Jx o.op=true\/∀g∈G,tb (tI anc g) k=true:=by
 intro r;induction r with
 | nil=>
  grind [List.drop_eq_nil_iff]
 | cons o r ih=>
  intro i hr h k o' hk ho;obtain⟨h1,h2⟩:=iU hr
  unfold Oc at h;rw[dC]at h;split at h
  case isFalse=>cases h
  rename_i h3;rcases Nat.eq_or_lt_of_le hk with rfl | hk
  all_goals grind [dH]
theorem SL{ops:Array Oper}{anc:Tr Nat}{D:Nat}{st:iE}{r:List iE}(h:pI ops.toList anc (st::r) D=true)(hlt:ops.size+ops.size<st.heavy) :
  ∃D1 D2,Za ops anc D st.again D1/\bO ops.toList st.lights D1=some D2/\pI ops.toList anc r D2=true:=by
 unfold pI at h;rw[dC,yab (vC.2 (by grind [sD])),dC,yab (vC.2 (by grind [sD]))]at h
 split at h
 case h_2=>cases h
 rename_i D2 hg;unfold EG at hg;simp only[tA,xB,ybb]at hg;obtain⟨D1,h1,⟨h2,h3⟩,h4⟩:=hg
 obtain⟨g1,g2,g3⟩:=okG_ok h1 fun _ h=>h
 exact⟨D1,D2,⟨g1,g2,g3,fun k o a b=>SN _ 0 rfl h2 k o (yaw _) a b,fun k o a b=>SU _ 0 rfl h3 k o (yaw _) a b⟩,h4,h⟩
end Go.Am
namespace Go.Am
open Go Go.RowKit
section
variable {P:Program}{C:rA}{μ:Mu}{all:Array Oper}{olds:List (Nat × List Nat)}{anc:Tr Nat}{n:Nat}{old tm:Tm}{D:Nat}{S:Nat->Bool}{order:List Nat}{tmps:Array Value}{ds:List Deferred}
theorem Lz:uA μ rD undef:=by rw[rD,uA];exact⟨#[],rfl,rfl⟩
theorem JS{e:kC}(hg:∀g,g<256->μ g=some ⟨g,true,0,0,true⟩)(ht:∀t v,sV t e=some v->uA μ v (tmps.getD t undef)):uF μ e (Act.eval ⟨tmps,ds⟩):=by
 intro x v h
 cases x with
 | tmp t=>exact ht t v h
 | const c=>exact SV h
 | global g=>
  change Ri g e=some v at h
  unfold Ri at h;rw[dC]at h;split at h
  ·rename_i hlt
   cases h;rw[uA];exact⟨_,hg g (vC.1 hlt),rfl⟩
  ·cases h
 | func f=>
  change xFunc f e=some v at h
  cases h;rw[uA];exact⟨.func f,#[],#[],rfl,rfl,rfl,rfl⟩
theorem lE.erel(hg:∀g,g<256->μ g=some ⟨g,true,0,0,true⟩)(h:lE μ n tm tmps):uF μ (.now tm) (Act.eval ⟨tmps,ds⟩):=
 JS hg fun t v hv=>h.2 t v hv
theorem Tm.get_set{t:Tm}{i j:Nat}{x:zA}:(t.set i x).get j=if j=i then some x else t.get j:=by
 unfold Tm.set Tm.get;simp only[bI];by_cases h:Nat.blt i t.k=true
 ·grind [Tr.get_set]
 ·rw[yaa h]
  grind [assoc,bI,sC]
theorem cH{dst:Option Nat}{v:zA}{t:Nat}:(putA n tm dst v).get t=if dst=some t/\t<n then some v else tm.get t:=by
 unfold putA putB
 cases dst with
 | none=>simp[putNo]
 | some d=>
  grind [Ej,Tm.get_set,vC]
def vQ(tm old:Tm)(olds:List (Nat × List Nat))(i:Nat)(o:Oper):kC:=.mixed tm old (eE i olds) (cG o.op)
structure rF (μ:Mu) (all:Array Oper) (olds:List (Nat × List Nat)) (anc:Tr Nat) (n:Nat) (old tm:Tm) (D:Nat) (S:Nat->Bool) (order:List Nat) (tmps:Array Value):Prop where
 reg:yV all olds anc
 sched:Rc all S order
 sub:∀i,S i=true->tb D i=true
 closed:gW all S
 dclosed:gW all (tb D)
 size:tmps.size=n
 now:∀(i:Nat) (o:Oper) (d:Nat) (v:zA),all[i]?=some o->o.dst=some d->S i=true->d<n->tm.get d=some v->uA μ v (tmps.getD d undef)
 past:∀(d:Nat) (v:zA),d<n->(∀(i:Nat) (o:Oper),all[i]?=some o->o.dst=some d->S i=false)->old.get d=some v->uA μ v (tmps.getD d undef)
 keep:∀d:Nat,d<n->(∀(i:Nat) (o:Oper),all[i]?=some o->o.dst=some d->tb D i=false)->tm.get d=old.get d
 big:∀(d:Nat) (v:zA),n<=d->(tm.get d=some v\/old.get d=some v)->uA μ v undef
theorem yV.up(R:yV all olds anc)(hS:gW all S){i j:Nat}{o:Oper}(ho:all[i]?=some o)(hp:∀j,qK o j->S j=true)(h:tb (tI anc i) j=true):S j=true:=
 R.before i S hS (fun o' ho'=>by simp_all) j h
theorem Fg{d:Nat}(h:tmps.size<=d):tmps.getD d undef=undef:=by
 simp_all
theorem rF.erel(R:rF μ all olds anc n old tm D S order tmps)(hg:∀g,g<256->μ g=some ⟨g,true,0,0,true⟩){i:Nat}{o:Oper}(ho:all[i]?=some o)(hi:S i=false)(hp:∀j,qK o j->S j=true) :
  uF μ (vQ tm old olds i o) (Act.eval ⟨tmps,ds⟩):=by
 refine JS hg fun t v h=>?_
 unfold vQ at h;simp only[sV]at h;rw[dC]at h;split at h
 case isFalse=>cases h
 rename_i hn;have hn:=(lX _ _).1 hn
 by_cases hd:t<n
 ·by_cases hw:∃(j:Nat) (u:Oper),all[j]?=some u/\u.dst=some t
  ·obtain⟨j,u,hu,hud⟩:=hw
   have nm:=R.reg.name i o j u t ho hu hud hn
   by_cases hold:t∈eE i olds
   ·rw[yab hold]at nm
    rw[(lX _ _).2 hold]at h
    simp only[cond_true]at h;have hj:S j=false:=by
     rcases nm with rfl | nm
     ·exact hi
     ·cases hj:S j with
      | false=>rfl
      | true=>
       have:=R.reg.up R.closed hu (fun k hk=>R.closed j u hu hj k hk) nm
       simp_all
    refine R.past t v hd (fun i' o' ho' hd'=>?_) h
    have:=R.reg.one i' j o' u t ho' hu hd' hud
    simp_all
   ·rw[yaa hold]at nm
    have:bG t (eE i olds)=false:=by
     grind [lX]
    rw[this]at h;simp only[cond_false]at h;exact R.now j u t v hu hud (R.reg.up R.closed ho hp nm) hd h
  ·have none1:∀(i:Nat) (o:Oper),all[i]?=some o->o.dst=some t->S i=false:=fun i o h1 h2=>absurd ⟨i,o,h1,h2⟩ hw
   have k:=R.keep t hd fun i o h1 h2=>absurd ⟨i,o,h1,h2⟩ hw
   refine R.past t v hd none1 ?_
   grind
 ·rw[Fg (by rw[R.size];omega)]
  refine R.big t v (by omega) ?_
  grind
theorem Ze{v:zA}{b:Bool}(h:uA μ v (.bool b)):v=.bool b:=by
 cases v<;>rw[uA]at h
 all_goals simp_all
theorem rF.wanted(R:rF μ all olds anc n old tm D S order tmps){i:Nat}{o:Oper}{w:Bool}(ho:all[i]?=some o)(hp:∀j,qK o j->S j=true)(h:tF o.guard all tm=some w) :
  Region.wanted o (yielded all tmps)=w:=by
 have hgd:=R.reg.guard i o ho
 unfold tF Ha at h;unfold Region.wanted
 cases hg:o.guard with
 | none=>rw[hg]at h;cases h;rfl
 | some jw=>
  obtain⟨j,want⟩:=jw
  rw[hg]at h hgd;simp only[Gz,tA,zG]at h;obtain⟨d,⟨u,hu,hud⟩,v,hv,h⟩:=h
  have hu':all[j]?=some u:=by simp_all
  have hj:S j=true:=R.reg.up R.closed ho hp hgd
  have hy:yielded all tmps j=match tmps[d]? with | some (.bool b)=>some b | _=>none:=by
   grind [yielded]
  simp only[];rw[hy];by_cases hd:d<n
  ·have hs:d<tmps.size:=by rw[R.size];exact hd
   have rel:=R.now j u d v hu' hud hj hd hv
   have e1:tmps[d]?=some (tmps.getD d undef):=by simp_all
   rw[e1];generalize tmps.getD d undef=x at rel
   cases hb:v.asBool with
   | some b=>
    rw[hb]at h;have:v=.bool b:=by cases v<;>simp[zA.asBool]at hb;rw[hb]
    rw[this,uA]at rel;subst rel;simp only[Option.some.injEq]at h;rw[<- h,zZ]
    cases b<;>cases want<;>rfl
   | none=>
    rw[hb]at h
    cases h
    cases x with
    | bool b=>rw[Ze rel]at hb;cases hb
    | _=>rfl
  ·have e1:tmps[d]?=none:=by simp[R.size];omega
   rw[e1];have rel:=R.big d v (by omega) (.inl hv)
   cases hb:v.asBool with
   | some b=>
    have:v=.bool b:=by cases v<;>simp[zA.asBool]at hb;rw[hb]
    rw[this,uA]at rel
    cases rel
   | none=>simp_all
theorem rF.did{i:Nat}{D':Nat}{tm':Tm}{v:zA}{v':Value}{o:Oper}(R:rF μ all olds anc n old tm D S (i::order) tmps)(ho:all[i]?=some o)
  (hD:∀k,tb D' k=(tb D k||k == i)) (hput:∀d,o.dst=some d->d<n->tm'.get d=some v) (hother:∀d,(o.dst=some d->n<=d)->tm'.get d=tm.get d) (hv:uA μ v v') :
  rF μ all olds anc n old tm' D' (fun k=>S k||k == i) order (Act.put ⟨tmps,ds⟩ o.dst v').tmps:=by
 obtain⟨o',ho',hi,hp,hs⟩:=R.sched
 rw[ho]at ho';cases ho'
 have htm:∀d,(Act.put ⟨tmps,ds⟩ o.dst v').tmps.getD d undef=if o.dst=some d/\d<n then v' else tmps.getD d undef:=by
  intro d;unfold Act.put
  cases hd:o.dst with
  | none=>simp
  | some d0=>
   simp only[ycx,ycs];by_cases e:d0=d
   ·subst e
    by_cases hn:d0<n
    ·simp[hn,R.size]
    ·simp[hn,R.size]
   grind
 have hsz:(Act.put ⟨tmps,ds⟩ o.dst v').tmps.size=n:=by
  unfold Act.put
  cases o.dst<;>simp[R.size]
 refine⟨R.reg,hs,fun k hk=>?_,?_,?_,hsz,?_,?_,?_,?_⟩
 ·rw[hD]
  simp only[ycq]at hk ⊢
  exact hk.imp (R.sub k) id
 ·intro k u hu hk j hj
  simp only[ycq,beq_iff_eq]at hk ⊢
  rcases hk with hk | rfl
  ·exact .inl (R.closed k u hu hk j hj)
  simp_all
 ·intro k u hu hk j hj
  rw[hD]at hk ⊢
  simp only[ycq,beq_iff_eq]at hk ⊢
  rcases hk with hk | rfl
  ·exact .inl (R.dclosed k u hu hk j hj)
  ·rw[ho]at hu;cases hu
   exact .inl (R.sub j (hp j hj))
 ·intro k u d x hu hud hk hd hx
  rw[htm];by_cases e:o.dst=some d
  ·simp_all
  ·rw[yaa fun h=>e h.1]
   rw[hother d fun h=>absurd h e]at hx;refine R.now k u d x hu hud ?_ hd hx
   grind
 ·intro d x hd hw hx
  rw[htm];have e:o.dst≠some d:=fun e=>by
   grind
  rw[yaa fun h=>e h.1];refine R.past d x hd (fun k u hu hud=>?_) hx
  simp_all
 ·intro d hd hw
  have e:o.dst≠some d:=fun e=>by
   grind
  rw[hother d fun h=>absurd h e];refine R.keep d hd fun k u hu hud=>?_
  simp_all
 ·intro d x hd hx
  refine R.big d x hd ?_
  simp_all
end
end Go.Am
namespace Go.Am.HM
open Go Go.Am
def HLe (H H':xA):Prop:=∀b y,H.t.get b=some y->H'.t.get b=some y
section
variable {H HA:xA}{e:kC}{C:rA}{v:zA}
theorem sW(h:HLe H HA){b:Nat}{p:Tr zA × Nat × Option Lo}(hb:bD H b=some p):bD HA b=some p:=by
 unfold bD at hb ⊢;rw[tA]at hb ⊢;obtain⟨y,h1,h2⟩:=hb;exact⟨y,h _ _ h1,h2⟩
theorem Db(h:HLe H HA){b:Nat}{p:List (zA × zA)}(hb:lJ H b=some p):lJ HA b=some p:=by
 unfold lJ at hb ⊢;rw[tA]at hb ⊢;obtain⟨y,h1,h2⟩:=hb;exact⟨y,h _ _ h1,h2⟩
theorem Yk(h:HLe H HA){s d:rC}{a:zA}(hx:yT C s d a H=some v):yT C s d a HA=some v:=by
 unfold yT at hx ⊢
 split at hx
 ·omega
 ·rename_i hk
  rw[xB]at hx ⊢
  refine⟨hx.1,?_⟩
  have hx:=hx.2
  rw[dC]at hx ⊢
  split at hx
  all_goals grind [tA,xB,Ku,sW]
theorem Uj(h:HLe H HA){ty:rC}{a:zA}{l r:Option zA}(hx:rM C H ty a l r=some v):rM C HA ty a l r=some v:=by
 have row:∀ {arr e b off len cap},jO C H arr e b off len cap l r=some v->jO C HA arr e b off len cap l r=some v:=by
  intro arr e b off len cap hx;unfold jO at hx ⊢
  simp only[tA]at hx ⊢
  obtain⟨a1,h1,b1,h2,hx⟩:=hx
  refine⟨a1,h1,b1,h2,?_⟩
  cases hb:bD H b with
  | none=>
   have e1:sM H b a1.size cap b1.1 arr=false:=by unfold sM;rw[hb]
   have e2:wN H b a1.size cap b1.1 arr=false:=by unfold wN;rw[hb]
   rw[e1,e2,yay,yay]at hx
   cases hx
  | some c=>
   grind [sM,sW,wN]
 grind [rM,tA]
theorem We(h:HLe H HA){m:zA}{l:List (zA × zA)}(hx:yU H m=some l):yU HA m=some l:=by
 grind [yU,Db]
theorem Wn(h:HLe H HA){ty:rC}{a:zA}{n:Nat}(hx:mS H ty a=some n):mS HA ty a=some n:=by
 unfold mS at hx ⊢
 split at hx
 all_goals grind [xB,tA,Db]
theorem alight_mono(h:HLe H HA){o:Op}(hx:(vF o).f C e H=some v):(vF o).f C e HA=some v:=by
 cases o<;>first | exact hx | skip
 case makeFunc fn a b=>cases fn<;>exact hx
 case load t a=>
  change sU t a C e H=some v at hx
  show sU t a C e HA=some v
  unfold sU at hx ⊢
  simp only[tA]at hx ⊢
  grind [sW]
 case convert s d x=>
  change cN s d x C e H=some v at hx
  show cN s d x C e HA=some v
  unfold cN at hx ⊢
  simp only[tA]at hx ⊢
  grind [Yk]
 case slice t x lo hi mx=>
  cases mx with
  | some m=>exact hx
  | none=>
   change fX t x lo hi C e H=some v at hx
   show fX t x lo hi C e HA=some v
   unfold fX at hx ⊢
   simp only[tA]at hx ⊢
   grind [Uj]
 case lookup t x i ok=>
  change tU t x i ok C e H=some v at hx
  show tU t x i ok C e HA=some v
  unfold tU at hx ⊢
  simp only[tA,xB]at hx ⊢
  grind [We]
 case call c=>
  change (mR c c.callee).f C e H=some v at hx
  show(mR c c.callee).f C e HA=some v
  cases hc:c.callee with
  | builtin b=>
   rw[hc]at hx
   cases b<;>first | exact hx | skip
   case len=>
    change vP c C e H=some v at hx
    show vP c C e HA=some v
    unfold vP at hx ⊢
    simp only[tA]at hx ⊢
    grind [Wn]
  | _=>rw[hc]at hx;exact hx
end
end Go.Am.HM
namespace Go.Am
open Go Go.RowKit
theorem ZP{o:Op}(h:qS o=true)(C:rA)(e:kC)(H H':xA):(vF o).f C e H=(vF o).f C e H':=by
 cases o<;>first | (simp[qS]at h;done) | rfl | skip
 case makeFunc fn a b=>cases fn<;>rfl
theorem ZR{e e':kC}(h:∀x,ev x e=ev x e')(o:Op)(C:rA)(H:xA):(vF o).f C e H=(vF o).f C e' H:=by
 have hs:∀l,lM l e=lM l e':=fun l=>by unfold lM;rw[funext h]
 have hp:∀l,kR l e=kR l e':=fun l=>by grind [kR]
 have ho:∀x,jR x e=jR x e':=fun x=>by cases x<;>simp[jR,h]
 cases o<;>first | rfl | skip
 case move x=>exact h x
 case assign x=>exact h x
 case pick c a b=>simp only[vF,Js,h]
 case load t a=>simp only[vF,sU,h]
 case nilCheck x=>simp only[vF,dX,h]
 case binOp op t x y z=>simp only[vF,nU,h]
 case unOp op t x=>simp only[vF,lUn,h]
 case convert s d x=>simp only[vF,cN,h]
 case makeInterface t x=>simp only[vF,Ad,h]
 case makeFunc fn a b=>cases fn<;>simp only[vF,Ae,Ew,eX,hs]
 case slice t x lo hi mx=>cases mx<;>simp only[vF,Jr,fX,eX,h,ho]
 case fieldAddr s x f=>simp only[vF,pU,h]
 case field t x f=>simp only[vF,Af,h]
 case indexAddr t x i=>simp only[vF,rU,h]
 case index t x i=>simp only[vF,qU,h]
 case extract t i=>simp only[vF,oU,h]
 case build t ps=>simp only[vF,gV,hp]
 case typeAssert x a u ok=>simp only[vF,mU,h]
 case lookup t x i ok=>simp only[vF,tU,h]
 case call c=>
  have h2:two c e=two c e':=by unfold two;split<;>simp only[h]
  simp only[vF,Wp]
  cases c.callee with
  | builtin b=>cases b<;>simp only[mR,Pd,eX,vP,vU,wU,h,h2]
  | _=>rfl
theorem JR{e e':kC}(h:∀t,sV t e=sV t e')(x:Operand):ev x e=ev x e':=by
 cases x with
 | tmp t=>exact h t
 | _=>rfl
theorem EF{tm tm' old:Tm}{olds:List (Nat × List Nat)}{i:Nat}{o:Oper}(h:∀t∈cG o.op,t∉eE i olds->tm'.get t=tm.get t)(C:rA)(H:xA) :
  (vF o.op).f C (vQ tm' old olds i o) H=(vF o.op).f C (vQ tm old olds i o) H:=by
 grind [ZR,JR,vQ,sV,lX]
section
variable {P:Program}{C:rA}{μ:Mu}{H H':xA}{all:Array Oper}{olds:List (Nat × List Nat)}{anc:Tr Nat}{n:Nat}{old tm tm':Tm}{D:Nat}{S:Nat->Bool}{order:List Nat}{tmps:Array Value}{ds:List Deferred}
structure gM (C:rA) (H:xA) (all:Array Oper) (olds:List (Nat × List Nat)) (n:Nat) (old tm:Tm) (i:Nat) (o:Oper) (w:Bool) (v:zA):Prop where
 op:all[i]?=some o
 want:tF o.guard all tm=some w
 val:if w=true then(vF o.op).f C (vQ tm old olds i o) H=some v else v=rD
 put:∀d,o.dst=some d->d<n->tm.get d=some v
theorem gM.pure{i:Nat}{o:Oper}{w:Bool}{v:zA}(h:gM C H all olds n old tm i o w v)(hp:qS o.op=true)(H':xA):gM C H' all olds n old tm i o w v:=
 ⟨h.op,h.want,by have:=h.val;grind [ZP],h.put⟩
theorem Ik(R:yV all olds anc)(hD:gW all (tb D)){i k:Nat}{o u:Oper}(ho:all[i]?=some o)(hi:tb D i=true\/(i=k/\∀j,qK o j->tb D j=true))(hu:all[k]?=some u)(hk:tb D k=false) :
  (∀t∈cG o.op,t∉eE i olds->u.dst≠some t)/\(∀j w,o.guard=some (j,w)->∀g,all[j]?=some g->∀d,g.dst=some d->u.dst≠some d):=by
 have up:∀j,tb (tI anc i) j=true->tb D j=true:=fun j hj=>R.up hD ho (by
  rcases hi with hi | ⟨_,hi⟩
  ·exact fun j hj=>hD i o ho hi j hj
  omega) hj
 constructor
 ·intro t ht hto e
  have:=R.name i o k u t ho hu e ht
  simp_all
 ·intro j w hg g hgj d hd e
  have h1:=R.guard i o ho
  rw[hg]at h1;have h2:=up j h1
  have:=R.one j k g u d hgj hu hd e
  simp_all
theorem Gx{o:Oper}(h:∀j w,o.guard=some (j,w)->∀g,all[j]?=some g->∀d,g.dst=some d->tm'.get d=tm.get d):tF o.guard all tm'=tF o.guard all tm:=by
 unfold tF Ha
 cases hg:o.guard with
 | none=>rfl
 | some jw=>
  obtain⟨j,w⟩:=jw
  simp only[Gz,zG]
  cases hj:all.toList[j]? with
  | none=>rfl
  | some g=>
   simp only[qA]
   cases hd:g.dst with
   | none=>rfl
   | some d=>simp only[qA];rw[h j w hg g (by simp_all) d hd]
theorem gM.keep(R:yV all olds anc)(hD:gW all (tb D)){i k:Nat}{o u:Oper}{w:Bool}{v x:zA}(h:gM C H all olds n old tm i o w v)(hi:tb D i=true)(hu:all[k]?=some u)(hk:tb D k=false) :
  gM C H all olds n old (putA n tm u.dst x) i o w v:=by
 obtain⟨r1,r2⟩:=Ik R hD h.op (.inl hi) hu hk
 refine⟨h.op,?_,?_,?_⟩
 ·rw[Gx (tm:=tm) fun j w hg g hj d hd=>by rw[cH,yaa fun e=>r2 j w hg g hj d hd e.1]]
  exact h.want
 ·have:=h.val
  grind [EF,cH]
 ·intro d hd hn
  rw[cH,yaa]
  ·exact h.put d hd hn
  ·rintro⟨e,_⟩
   have:=R.one i k o u d h.op hu hd e
   simp_all
theorem gM.grow{i:Nat}{o:Oper}{w:Bool}{v:zA}(h:gM C H all olds n old tm i o w v)(hle:HM.HLe H H'):gM C H' all olds n old tm i o w v:=
 ⟨h.op,h.want,by have:=h.val;grind [HM.alight_mono],h.put⟩
structure xV (C:rA) (μ:Mu) (dp:Nat) (all:Array Oper) (olds:List (Nat × List Nat)) (n:Nat) (old tm:Tm) (i:Nat) (o:Oper) (v:zA):Prop where
 op:all[i]?=some o
 flo:zK o.op=true
 want:tF o.guard all tm=some true
 val:∃H0 l,(rE o.op).f C (vQ tm old olds i o) H0=.val v (dE H0 l none)/\μ.pd H0.next=some (.cells (Tr.ofList l) (bA l) none,dp,i)
 put:∀d,o.dst=some d->d<n->tm.get d=some v
 lo:jX C o.op=none
structure Mu.ln (dp:Nat) (μ ν:Mu):Prop where
 f:∀a i,μ a=some i->ν a=some i
 pd:∀a x j,μ.pd a=some (x,dp,j)->ν.pd a=some (x,dp,j)
instance {dp:Nat} {μ ν:Mu}:CoeOut (μ.ln dp ν) (μ.lw ν):=⟨Mu.ln.f⟩
theorem Mu.le.ln{μ ν:Mu}(h:μ.le ν)(dp:Nat):μ.ln dp ν:=⟨h.f,fun a x j k=>by rw[h.pd];exact k⟩
instance {dp:Nat} {μ ν:Mu}:Coe (μ.le ν) (μ.ln dp ν):=⟨fun h=>h.ln dp⟩
theorem Mu.ln_refl(μ:Mu)(dp:Nat):μ.ln dp μ:=⟨fun _ _ h=>h,fun _ _ _ h=>h⟩
theorem Mu.ln_trans{dp:Nat}{a b c:Mu}(h:a.ln dp b)(k:b.ln dp c):a.ln dp c:=⟨fun x i hx=>k.f x i (h.f x i hx),fun x y j hx=>k.pd x y j (h.pd x y j hx)⟩
theorem xV.mono{ν:Mu}{dp:Nat}(h:μ.ln dp ν){i:Nat}{o:Oper}{v:zA}(p:xV C μ dp all olds n old tm i o v):xV C ν dp all olds n old tm i o v:=by
 obtain⟨H0,l,h1,h2⟩:=p.val
 exact⟨p.op,p.flo,p.want,⟨H0,l,h1,h.pd _ _ _ h2⟩,p.put,p.lo⟩
theorem JD{tm tm' old:Tm}{i:Nat}{o:Oper}(hf:zK o.op=true)(h:∀t∈cG o.op,t∉eE i olds->tm'.get t=tm.get t)(C:rA)(H:xA) :
  (rE o.op).f C (vQ tm' old olds i o) H=(rE o.op).f C (vQ tm old olds i o) H:=by
 grind [VU,JR,vQ,sV,lX]
theorem xV.keep{dp:Nat}(R:yV all olds anc)(hD:gW all (tb D)){i k:Nat}{o u:Oper}{v x:zA}(h:xV C μ dp all olds n old tm i o v)(hi:tb D i=true)(hu:all[k]?=some u)(hk:tb D k=false) :
  xV C μ dp all olds n old (putA n tm u.dst x) i o v:=by
 obtain⟨r1,r2⟩:=Ik R hD h.op (.inl hi) hu hk
 obtain⟨H0,l,h1,h2⟩:=h.val
 refine⟨h.op,h.flo,?_,⟨H0,l,?_,h2⟩,?_,h.lo⟩
 ·rw[Gx (tm:=tm) fun j w hg g hj d hd=>by rw[cH,yaa fun e=>r2 j w hg g hj d hd e.1]]
  exact h.want
 ·rw[JD (tm:=tm) h.flo fun t ht hto=>by rw[cH,yaa fun e=>r1 t ht hto e.1]]
  exact h1
 ·intro d hd hn
  rw[cH,yaa]
  ·exact h.put d hd hn
  ·rintro⟨e,_⟩
   have:=R.one i k o u d h.op hu hd e
   simp_all
theorem xV.fresh{dp:Nat}(R:yV all olds anc)(hD:gW all (tb D)){i:Nat}{o:Oper}{v:zA}(ho:all[i]?=some o)(hp:∀j,qK o j->tb D j=true)(hi:tb D i=false)
  (hf:zK o.op=true) (hlo:jX C o.op=none) (hw:tF o.guard all tm=some true) (hv:∃H0 l,(rE o.op).f C (vQ tm old olds i o) H0=.val v (dE H0 l none)/\μ.pd H0.next=some (.cells (Tr.ofList l) (bA l) none,dp,i)) :
  xV C μ dp all olds n old (putA n tm o.dst v) i o v:=by
 obtain⟨r1,r2⟩:=Ik R hD ho (.inr ⟨rfl,hp⟩) ho hi
 obtain⟨H0,l,h1,h2⟩:=hv
 refine⟨ho,hf,?_,⟨H0,l,?_,h2⟩,?_,hlo⟩
 all_goals grind [Gx,cH,JD]
theorem gM.fresh(R:yV all olds anc)(hD:gW all (tb D)){i:Nat}{o:Oper}{w:Bool}{v:zA}(ho:all[i]?=some o)(hp:∀j,qK o j->tb D j=true)(hi:tb D i=false)
  (hw:tF o.guard all tm=some w) (hv:if w=true then(vF o.op).f C (vQ tm old olds i o) H=some v else v=rD) :
  gM C H all olds n old (putA n tm o.dst v) i o w v:=by
 obtain⟨r1,r2⟩:=Ik R hD ho (.inr ⟨rfl,hp⟩) ho hi
 refine⟨ho,?_,?_,?_⟩
 all_goals grind [Gx,cH,EF]
theorem rF.light{i:Nat}{o:Oper}{v:zA}{D':Nat}(R:rF μ all olds anc n old tm D S order tmps)(ho:all[i]?=some o)(hi:tb D i=false)(hp:∀j,qK o j->tb D j=true)(hD:∀k,tb D' k=(tb D k||k == i)) :
  rF μ all olds anc n old (putA n tm o.dst v) D' S order tmps:=by
 refine⟨R.reg,R.sched,fun k hk=>by rw[hD,R.sub k hk];rfl,R.closed,?_,R.size,?_,R.past,?_,?_⟩
 ·intro k u hu hk j hj
  rw[hD]at hk ⊢
  simp only[ycq,beq_iff_eq]at hk ⊢
  rcases hk with hk | rfl
  ·exact .inl (R.dclosed k u hu hk j hj)
  simp_all
 ·intro k u d x hu hud hk hd hx
  rw[cH,yaa]at hx
  ·exact R.now k u d x hu hud hk hd hx
  ·rintro⟨e,_⟩
   have:=R.reg.one k i u o d hu ho hud e
   have hk':=R.sub k hk
   simp_all
 ·intro d hd hw
  rw[cH,yaa]
  ·refine R.keep d hd fun k u hu hud=>?_
   simp_all
  grind
 ·intro d x hd hx
  refine R.big d x hd ?_
  grind [cH]
theorem rF.mono{ν:Mu}(hm:μ.lw ν)(R:rF μ all olds anc n old tm D S order tmps):rF ν all olds anc n old tm D S order tmps:=
 ⟨R.reg,R.sched,R.sub,R.closed,R.dclosed,R.size,fun i o d v a b c e f=>(R.now i o d v a b c e f).mono hm _ _,fun d v a b c=>(R.past d v a b c).mono hm _ _,R.keep,fun d v a b=>(R.big d v a b).mono hm _ _⟩
end
end Go.Am
namespace Go.Am
open Go Go.RowKit
section steps
variable {P:Program}{fr b:Frame}{a:Act}{k:List Item}{cs:List Frame}{w w':World}{s:Sem Next}{ops:Array Oper}
theorem ZC{v:Value}(hr:s.run P w=.ok (.value v) w') :
  (stepG.apply P true fr cs none s w).bare=.go { frame:=fr.finish v,callers:=cs,status:=.running,dying:=none } w':=by
 simp_all [stepG.apply]
theorem ZD(hr:s.run P w=.ok .skip w') :
  (stepG.apply P true fr cs none s w).bare=.go { frame:=fr.finish undef,callers:=cs,status:=.running,dying:=none } w':=by
 simp_all [stepG.apply]
theorem Ud{i:Nat}{rest:List Nat}{o:Oper}{v:Value}(ho:ops[i]?=some o)(hw:Region.wanted o (yielded ops a.tmps)=true)
  (hr:(o.semAt b.roundOf a.eval).run P w=.ok (.value v) w') :
  step P (lone (b.atR a (.inRegion ops (i::rest)::k)) cs w)=.next (lone (b.atR (a.put o.dst v) (.inRegion ops rest::k)) cs w'):=by
 have:=Frame.finish_atR b a ops i rest k v
 grind [step_lone_go,stepGR_op,ZC]
theorem OO{i:Nat}{rest:List Nat}{o:Oper}(ho:ops[i]?=some o)(hw:Region.wanted o (yielded ops a.tmps)=true)
  (hr:(o.semAt b.roundOf a.eval).run P w=.ok .skip w') :
  step P (lone (b.atR a (.inRegion ops (i::rest)::k)) cs w)=.next (lone (b.atR (a.put o.dst undef) (.inRegion ops rest::k)) cs w'):=by
 have:=Frame.finish_atR b a ops i rest k undef
 grind [step_lone_go,stepGR_op,ZD]
theorem Ue{i:Nat}{rest:List Nat}{o:Oper}(ho:ops[i]?=some o)(hw:Region.wanted o (yielded ops a.tmps)=false) :
  step P (lone (b.atR a (.inRegion ops (i::rest)::k)) cs w)=.next (lone (b.atR (a.put o.dst undef) (.inRegion ops rest::k)) cs w):=by
 grind [stepR_op_skip]
end steps
mutual
theorem Um:∀(d:Nat) (a b:zA),same d a b=true->a=b
 | d,a,b,h=>by
  cases a<;>cases b<;>cases d<;>simp[same,zZ,qN,Ag,bN,Nat.beq_eq]at h ⊢
  all_goals first
   | exact h
   | (obtain⟨h1,h2⟩:=h;exact⟨h1,h2⟩)
   | exact Ul _ _ _ h
   | omega
theorem Ul:∀(d:Nat) (a b:List zA),same.sames d a b=true->a=b
 | d,[],[],_=>rfl
 | d,a::x,b::y,h=>by
  simp only[same.sames,ybb]at h;rw[Um d a b h.1,Ul d x y h.2]
 | d,[],b::y,h=>by simp[same.sames]at h
 | d,a::x,[],h=>by simp[same.sames]at h
end
section
variable {P:Program}{C:rA}{B N:Nat}{μ:Mu}{H H':xA}{w:World}{all:Array Oper}{olds:List (Nat × List Nat)}{anc:Tr Nat}{n:Nat}{old tm tm':Tm}{D D':Nat}{S:Nat->Bool}{order:List Nat}{tmps:Array Value}{ds:List Deferred}{dp:Nat}
def gG(C:rA)(μ:Mu)(dp:Nat)(H:xA)(all:Array Oper)(olds:List (Nat × List Nat))(n:Nat)(old tm:Tm)(D:Nat)(S:Nat->Bool):Prop:=
 ∀i,tb D i=true->S i=false->(∃o w v,gM C H all olds n old tm i o w v)\/∃o v,xV C μ dp all olds n old tm i o v
theorem Pb:∀(l:List Nat) (tm:Tm) (D:Nat),rQ C H all n old olds l tm=some tm'->bO all.toList l D=some D'->rF μ all olds anc n old tm D S order tmps->gG C μ dp H all olds n old tm D S →
  rF μ all olds anc n old tm' D' S order tmps/\gG C μ dp H all olds n old tm' D' S:=by
 intro l;induction l with
 | nil=>intro tm D h hD R hp;cases h;cases hD;simp_all
 | cons i l ih=>
  intro tm D h hD R hp;unfold rQ at h;unfold bO at hD;rw[tA]at hD;obtain⟨D1,h1,hD⟩:=hD
  simp only[tA,zG]at h;obtain⟨o,ho,wn,hw,v,hv,h⟩:=h
  obtain⟨o',ho',hi,hb,hD1⟩:=Jb h1
  have ho2:all[i]?=some o:=by simp_all
  rw[ho2]at ho';cases ho'
  have hval:if wn=true then(vF o.op).f C (vQ tm old olds i o) H=some v else v=rD:=by
   cases wn with
   | true=>rw[yab rfl];exact hv
   | false=>simp_all
  refine ih _ _ h hD (R.light ho2 hi hb hD1) fun j hj hSj=>?_
  rw[hD1]at hj;simp only[ycq,beq_iff_eq]at hj;rcases hj with hj | rfl
  ·rcases hp j hj hSj with⟨u,wu,vu,pu⟩ | ⟨u,vu,pu⟩
   ·exact .inl ⟨u,wu,vu,pu.keep R.reg R.dclosed hj ho2 hi⟩
   ·exact .inr ⟨u,vu,pu.keep R.reg R.dclosed hj ho2 hi⟩
  ·exact .inl ⟨o,wn,v,gM.fresh R.reg R.dclosed ho2 hb hi hw hval⟩
structure Weak (all:Array Oper) (n:Nat) (tm:Tm) (i:Nat) (o:Oper) (w:Bool) (v:zA):Prop where
 op:all[i]?=some o
 want:tF o.guard all tm=some w
 val:w=false->v=rD
 put:∀d,o.dst=some d->d<n->tm.get d=some v
theorem ZS:∀(l:List Nat),Ax C H all old olds tm l=true->∀i∈l,∀o w v,Weak all n tm i o w v->∃v,gM C H all olds n old tm i o w v:=by
 intro l;induction l with
 | nil=>simp_all
 | cons j l ih=>
  intro h i hi o w v W;unfold Ax at h;split at h
  case h_2=>cases h
  rename_i hx;rcases ybs.1 hi with rfl | hi
  ·simp only[tA,zG]at hx
   obtain⟨o',ho',d,hd,wn,hw,hx⟩:=hx
   have ho2:all[i]?=some o':=by simp_all
   rw[W.op]at ho2;cases ho2;rw[W.want]at hw;cases hw
   cases w with
   | false=>exact⟨v,W.op,W.want,by rw[yaa (by simp)];exact W.val rfl,W.put⟩
   | true=>
    simp only[cond_true,tA]at hx;obtain⟨v1,hv1,u,hu,hs⟩:=hx
    have e:=Um _ _ _ (yci hs)
    refine⟨v1,W.op,W.want,by rw[yab rfl];exact hv1,fun d' hd' hn=>?_⟩
    rw[hd]at hd';cases hd'
    rw[hu,e]
  grind
end
end Go.Am
namespace Go.Am
open Go Go.RowKit
section
variable {P:Program}{C:rA}{B N:Nat}{μ:Mu}{H H':xA}{w:World}{all:Array Oper}{olds:List (Nat × List Nat)}{anc:Tr Nat}{n:Nat}{old tm tm':Tm}{D D':Nat}{S:Nat->Bool}{order:List Nat}{tmps:Array Value}{ds:List Deferred}{dp:Nat}
variable {b:Frame}{k:List Item}{cs:List Frame}
structure iW (B N dp:Nat) (μ:Mu) (H:xA) (w:World) (μ':Mu) (w':World):Prop where
 heap:wB B N μ' H w'
 le:μ.lw μ'
 pd:∀d,d≠dp->μ.ln d μ'
 below:Below N w w'
theorem iW.refl(hH:wB B N μ H w):iW B N dp μ H w μ w:=⟨hH,fun _ _ h=>h,fun d _=>μ.ln_refl d,Below.refl _ _⟩
theorem iW.trans{μ1 μ2:Mu}{w1 w2:World}(h:iW B N dp μ H w μ1 w1)(k:iW B N dp μ1 H w1 μ2 w2):iW B N dp μ H w μ2 w2:=
 ⟨k.heap,fun a i e=>k.le a i (h.le a i e),fun d hd=>Mu.ln_trans (h.pd d hd) (k.pd d hd),h.below.trans k.below⟩
theorem DT(hT:zF P C)(hH:wB B N μ H w){i:Nat}(R:rF μ all olds anc n old tm D S (i::order) tmps)(hp:gG C μ dp H all olds n old tm D S)(hi:tb D i=true) :
  ∃S' tmps' μ' w',step P (lone (b.atR ⟨tmps,ds⟩ (.inRegion all (i::order)::k)) cs w)=.next (lone (b.atR ⟨tmps',ds⟩ (.inRegion all order::k)) cs w')/\iW B N dp μ H w μ' w' ∧
   rF μ' all olds anc n old tm D S' order tmps'/\gG C μ' dp H all olds n old tm D S'/\∀k,S k=true->S' k=true:=by
 obtain⟨o,ho,hS,hb,_⟩:=R.sched
 have hDD:∀k,tb D k=(tb D k||k == i):=by
  simp_all
 have ds':∀v',Act.put ⟨tmps,ds⟩ o.dst v'=⟨(Act.put ⟨tmps,ds⟩ o.dst v').tmps,ds⟩:=by intro v';unfold Act.put;cases o.dst<;>rfl
 rcases hp i hi hS with⟨o',wn,v,pd⟩ | ⟨o',v,pd⟩
 ·have:=pd.op
  rw[ho]at this;cases this
  have hw:=R.wanted ho hb pd.want
  have rest:∀v',uA μ v v'->rF μ all olds anc n old tm D (fun k=>S k||k == i) order (Act.put ⟨tmps,ds⟩ o.dst v').tmps/\gG C μ dp H all olds n old tm D (fun k=>S k||k == i):=by
   intro v' hv;refine⟨R.did ho hDD pd.put (fun _ _=>rfl) hv,fun j hj hSj=>hp j hj ?_⟩
   grind
  cases wn with
  | false=>
   have hv:=pd.val
   rw[yaa (by simp)]at hv
   subst hv;obtain⟨r1,r2⟩:=rest undef Lz
   refine⟨_,_,μ,w,?_,.refl hH,r1,r2,fun k hk=>by grind⟩
   grind [Ue]
  | true=>
   have hv:=pd.val
   rw[yab rfl]at hv;obtain⟨v',h1,h2⟩:=ZQ hT hH (R.erel (ds:=ds) hH.glob ho hS hb) hv
   obtain⟨r1,r2⟩:=rest v' h2
   refine⟨_,_,μ,w,?_,.refl hH,r1,r2,fun k hk=>by grind⟩
   rw[<- ds'];refine Ud (a:=⟨tmps,ds⟩) ho hw ?_
   rw[Oper.semAt_eq]
   ·exact h1
   ·intro c e
    rw[e]at hv
    cases hv
 ·have:=pd.op
  rw[ho]at this;cases this
  have hw:=R.wanted ho hb pd.want
  obtain⟨H0,l,h1,h2⟩:=pd.val
  obtain⟨l',vs,v',elem,e1,run,hl,hv⟩:=zaf (P:=P) (w:=w) hT (R.erel (ds:=ds) hH.glob ho hS hb) o pd.flo pd.lo h1
  have e2:dE H0 l none=dE H0 l' none:=e1
  have p1:=(hH.pnd _ _ _ h2).1
  have lg:∀c,(μ.land H0.next ⟨w.heap.size,true,0,0,false⟩) c=if c=H0.next then some ⟨w.heap.size,true,0,0,false⟩else μ c:=fun _=>rfl
  have hle:μ.lw (μ.land H0.next ⟨w.heap.size,true,0,0,false⟩):=fun c j hj=>by
   grind
  have hlp:∀c x d j,(d≠dp\/j≠i)->μ.pd c=some (x,d,j)->(μ.land H0.next ⟨w.heap.size,true,0,0,false⟩).pd c=some (x,d,j):=by
   intro c x d j hne hc;show(if c=H0.next then none else μ.pd c)=_
   all_goals grind
  have hblk:(vA.cells (Tr.ofList l) (bA l) none)=.cells (Tr.ofList l') (bA l') none:=by
   have h3:(dE H0 l none).t.get H0.next=(dE H0 l' none).t.get H0.next:=by rw[e2]
   have hg:∀m,(dE H0 m none).t.get H0.next=some (.cells (Tr.ofList m) (bA m) none):=fun m=>by
    show(H0.t.set H0.next _).get H0.next=_
    rw[Tr.get_set,yab rfl]
   grind
  have hH':wB B N (μ.land H0.next ⟨w.heap.size,true,0,0,false⟩) H (w.alloc (.cells vs elem)):=by
   refine hH.late h2 rfl rfl ?_
   rw[hblk];have:=(rB.mono hle _ _ hl).rel_one (i:=⟨w.heap.size,true,0,0,false⟩) rfl (elem:=elem)
   rwa [Array.toArray_toList]at this
  have hvr:=hv (μ.land H0.next ⟨w.heap.size,true,0,0,false⟩) ⟨w.heap.size,true,0,0,false⟩ (by rw[lg,yab rfl]) rfl rfl
  refine⟨fun k=>S k||k == i,(Act.put ⟨tmps,ds⟩ o.dst v').tmps,μ.land H0.next ⟨w.heap.size,true,0,0,false⟩,w.alloc (.cells vs elem),?_,⟨hH',hle,fun d hd=>⟨hle,fun c x j hc=>hlp c x d j (.inl hd) hc⟩,jQ hH.size _⟩,
   (R.mono hle).did ho hDD pd.put (fun _ _=>rfl) hvr,fun j hj hSj=>?_,fun k hk=>by grind⟩
  ·rw[<- ds']
   refine Ud (a:=⟨tmps,ds⟩) ho hw ?_
   rw[Oper.semAt_eq]
   ·exact run
   ·intro c e
    have:=pd.flo
    rw[e]at this
    cases this
  ·simp only[yal,beq_eq_false_iff_ne]at hSj
   rcases hp j hj hSj.1 with h | ⟨u,vu,pu⟩
   ·grind
   ·refine .inr ⟨u,vu,pu.op,pu.flo,pu.want,?_,pu.put,pu.lo⟩
    obtain⟨H1,m,g1,g2⟩:=pu.val
    grind
theorem DU(hT:zF P C)(hH:wB B N μ H w){i:Nat}(R:rF μ all olds anc n old tm D S (i::order) tmps)(hp:gG C μ dp H all olds n old tm D S)(hi:tb D i=true) :
  ∃S' tmps' μ' w',step P (lone (b.atR ⟨tmps,ds⟩ (.inRegion all (i::order)::k)) cs w)=.next (lone (b.atR ⟨tmps',ds⟩ (.inRegion all order::k)) cs w')/\iW B N dp μ H w μ' w' ∧
   rF μ' all olds anc n old tm D S' order tmps'/\gG C μ' dp H all olds n old tm D S':=by
 obtain⟨S',tmps',μ',w',h1,h2,h3,h4,_⟩:=DT (b:=b) (k:=k) (cs:=cs) (ds:=ds) hT hH R hp hi
 grind
theorem reach(hT:zF P C){st:iE}{r:List iE}(hst:pI all.toList anc (st::r) D=true)(hlt:st.heavy<=all.size):∀(order:List Nat) (S:Nat->Bool) (tmps:Array Value) (μ:Mu) (w:World),wB B N μ H w →
  rF μ all olds anc n old tm D S order tmps->gG C μ dp H all olds n old tm D S →
  ∃S' order' tmps' μ' w',Steps P (lone (b.atR ⟨tmps,ds⟩ (.inRegion all order::k)) cs w) (lone (b.atR ⟨tmps',ds⟩ (.inRegion all (st.heavy::order')::k)) cs w')/\iW B N dp μ H w μ' w' ∧
   rF μ' all olds anc n old tm D S' (st.heavy::order') tmps'/\gG C μ' dp H all olds n old tm D S':=by
 obtain⟨only,_,D1,D2,h1,_⟩:=Nw hst hlt
 obtain⟨oh,hoh,hh,hbh,_⟩:=Jb h1
 intro order;induction order with
 | nil=>
  intro S tmps μ w _ R hp;have:=R.sub _ (R.sched st.heavy (ybe.1 hoh).1)
  simp_all
 | cons i order ih=>
  intro S tmps μ w hH R hp
  cases hi:tb D i with
  | true=>
   obtain⟨S',tmps',μ1,w1,s1,g1,r1,p1⟩:=DU (b:=b) (k:=k) (cs:=cs) (ds:=ds) hT hH R hp hi
   obtain⟨S2,order',tmps2,μ2,w2,s2,g2,r2⟩:=ih S' tmps' μ1 w1 g1.heap r1 p1
   exact⟨S2,order',tmps2,μ2,w2,.head s1 s2,g1.trans g2,r2⟩
  | false=>
   obtain⟨o,ho,hS,hb,_⟩:=R.sched
   have:=only i o ho hi fun j hj=>R.sub j (hb j hj)
   subst this;exact⟨S,order,tmps,μ,w,.refl _ _,.refl hH,R,hp⟩
theorem regEnd(hT:zF P C)(hst:pI all.toList anc [] D=true):∀(order:List Nat) (S:Nat->Bool) (tmps:Array Value) (μ:Mu) (w:World),wB B N μ H w →
  rF μ all olds anc n old tm D S order tmps->gG C μ dp H all olds n old tm D S →
  ∃tmps' μ' w',Steps P (lone (b.atR ⟨tmps,ds⟩ (.inRegion all order::k)) cs w) (lone (b.atR ⟨tmps',ds⟩ k) cs w')/\iW B N dp μ H w μ' w'/\lE μ' n tm tmps':=by
 have full:=SJ hst
 intro order;induction order with
 | nil=>
  intro S tmps μ w hH R hp;refine⟨tmps,μ,w,.one stepR_region_end,.refl hH,R.size,fun t v hv=>?_⟩
  by_cases hn:t<n
  ·by_cases hw:∃(j:Nat) (u:Oper),all[j]?=some u/\u.dst=some t
   ·obtain⟨j,u,hu,hud⟩:=hw
    exact R.now j u t v hu hud (R.sched j (ybe.1 hu).1) hn hv
   ·have k:=R.keep t hn fun i o h1 h2=>absurd ⟨i,o,h1,h2⟩ hw
    exact R.past t v hn (fun i o h1 h2=>absurd ⟨i,o,h1,h2⟩ hw) (by simp_all)
  ·rw[Fg (by rw[R.size];omega)]
   exact R.big t v (by omega) (.inl hv)
 | cons i order ih=>
  intro S tmps μ w hH R hp;obtain⟨o,ho,_⟩:=R.sched
  obtain⟨S',tmps',μ1,w1,s1,g1,r1,p1⟩:=DU (b:=b) (k:=k) (cs:=cs) (ds:=ds) hT hH R hp (full i (ybe.1 ho).1)
  obtain⟨tmps2,μ2,w2,s2,g2,r2⟩:=ih S' tmps' μ1 w1 g1.heap r1 p1
  exact⟨tmps2,μ2,w2,.head s1 s2,g1.trans g2,r2⟩
theorem QW(hM:P.follows .mixedOrders=true){anc:Tr Nat}(hR:yV all olds anc)(ht:lE μ n old tmps)(t:Nat) :
  rF μ all olds anc n old old 0 (fun _=>false) (Region.schedule (P.follows .mixedOrders) all t) tmps/\gG C μ dp H all olds n old old 0 (fun _=>false):=by
 refine⟨⟨hR,?_,fun i h=>(by cases h),fun i o _ h=>(by cases h),fun i o _ h=>(by grind [Mg]),ht.1,fun i o d v _ _ h=>(by cases h),fun d v _ _ h=>ht.2 d v h,fun _ _ _=>rfl,fun d v hd h=>?_⟩,fun i h=>(by grind [Mg])⟩
 ·rw[hM]
  unfold Region.schedule;simp only[Bool.true_or,if_true];have:=QC hR.back all.size t (Array.replicate all.size false) (by simp) (by
   grind [List.countP_le_length])
  have e:(fun i=>(Array.replicate all.size false).getD i false)=fun _=>false:=by
   funext i
   simp only[ycx,Array.getElem?_replicate];split<;>rfl
  rw[e]at this;exact this
 ·have h':old.get d=some v:=h.elim id id
  have:=ht.2 d v h'
  rw[Fg (by rw[ht.1];exact hd)]at this
  exact this
def jW(C:rA)(μ:Mu)(dp:Nat)(all:Array Oper)(olds:List (Nat × List Nat))(n:Nat)(old tm:Tm)(D:Nat)(S:Nat->Bool)(again:List Nat):Prop:=
 ∀i,tb D i=true->S i=false->(∃o w v,(∀H,gM C H all olds n old tm i o w v)\/(i∈again/\Weak all n tm i o w v))\/∃o v,xV C μ dp all olds n old tm i o v
theorem gM.float{i:Nat}{o:Oper}{w:Bool}{v:zA}(h:gM C H all olds n old tm i o w v)(hf:zK o.op=true)(H':xA):gM C H' all olds n old tm i o w v:=by
 refine⟨h.op,h.want,?_,h.put⟩
 have:=h.val
 cases w with
 | false=>exact this
 | true=>
  rw[yab rfl]at this;exfalso
  obtain⟨dst,op,type,pos,after,guard⟩:=o
  cases op<;>first | (simp[zK]at hf;done) | cases this
theorem MD{again:List Nat}(hw:jW C μ dp all olds n old tm D S again)(ha:Ax C H all old olds tm again=true):gG C μ dp H all olds n old tm D S:=by
 intro i hi hS;rcases hw i hi hS with⟨o,w,v,h | ⟨h1,h2⟩⟩ | h
 ·exact .inl ⟨o,w,v,h H⟩
 ·obtain⟨v,h⟩:=ZS (C:=C) (H:=H) (olds:=olds) (old:=old) again ha i h1 o w v h2
  grind
 simp_all
end
end Go.Am
namespace Go.Am
open Go Go.RowKit
section
variable {P:Program}{C:rA}{B N:Nat}{μ:Mu}{H H':xA}{w:World}{all:Array Oper}{olds:List (Nat × List Nat)}{anc:Tr Nat}{n:Nat}{old tm tm':Tm}{D D':Nat}{S:Nat->Bool}{order:List Nat}{tmps:Array Value}{ds:List Deferred}{dp:Nat}
theorem Weak.keep(R:yV all olds anc)(hD:gW all (tb D)){i k:Nat}{o u:Oper}{w:Bool}{v x:zA}(h:Weak all n tm i o w v)(hi:tb D i=true)(hu:all[k]?=some u)(hk:tb D k=false) :
  Weak all n (putA n tm u.dst x) i o w v:=by
 obtain⟨_,r2⟩:=Ik R hD h.op (.inl hi) hu hk
 refine⟨h.op,?_,h.val,?_⟩
 ·rw[Gx (tm:=tm) fun j w hg g hj d hd=>by rw[cH,yaa fun e=>r2 j w hg g hj d hd e.1]]
  exact h.want
 ·intro d hd hn
  rw[cH,yaa]
  ·exact h.put d hd hn
  ·rintro⟨e,_⟩
   have:=R.one i k o u d h.op hu hd e
   simp_all
theorem toWeak{st:iE}{r:List iE}(hst:pI all.toList anc (st::r) D=true)(hlt:st.heavy<=all.size)(R:rF μ all olds anc n old tm D S (st.heavy::order) tmps)(hp:gG C μ dp H all olds n old tm D S) :
  jW C μ dp all olds n old tm D S st.again:=by
 obtain⟨_,ag,_⟩:=Nw hst hlt
 intro i hDi hSi;rcases hp i hDi hSi with⟨u,wu,vu,pu⟩ | h
 rotate_left
 ·grind
 refine .inl ⟨u,wu,vu,?_⟩
 rcases ag i u pu.op hDi with h | h | h | h
 ·obtain⟨o,ho,_,hb,_⟩:=R.sched
  have:=R.reg.up R.closed ho hb h
  simp_all
 ·exact .inl fun H=>pu.pure h H
 ·exact .inl fun H=>pu.float h H
 ·exact .inr ⟨h,pu.op,pu.want,fun e=>by have:=pu.val;simp_all,pu.put⟩
theorem MF{h:Nat}{again:List Nat}{D1:Nat}{o:Oper}{v:zA}{v':Value}(h1:lV all.toList h D=some D1)(ho:all[h]?=some o)
  (R:rF μ all olds anc n old tm D S (h::order) tmps) (hp:jW C μ dp all olds n old tm D S again) (hv:uA μ v v') :
  rF μ all olds anc n old (putA n tm o.dst v) D1 (fun k=>S k||k == h) order (Act.put ⟨tmps,ds⟩ o.dst v').tmps/\jW C μ dp all olds n old (putA n tm o.dst v) D1 (fun k=>S k||k == h) again:=by
 obtain⟨o',ho',hi,hb,hD1⟩:=Jb h1
 rw[ho]at ho';cases ho'
 refine⟨R.did ho hD1 (fun d hd hn=>by rw[cH,yab ⟨hd,hn⟩]) (fun d hd=>by rw[cH,yaa fun e=>absurd (hd e.1) (by omega)]) hv,fun i hDi hSi=>?_⟩
 simp only[yal,beq_eq_false_iff_ne]at hSi;rw[hD1]at hDi;simp only[ycq,beq_iff_eq]at hDi;have hDi:=hDi.resolve_right hSi.2
 rcases hp i hDi hSi.1 with⟨u,wu,vu,pu⟩ | ⟨u,vu,pu⟩
 ·exact .inl ⟨u,wu,vu,pu.imp (fun pu H=>(pu H).keep R.reg R.dclosed hDi ho hi) (fun pu=>⟨pu.1,pu.2.keep R.reg R.dclosed hDi ho hi⟩)⟩
 ·exact .inr ⟨u,vu,pu.keep R.reg R.dclosed hDi ho hi⟩
inductive wM (C:rA) (μ:Mu) (dp:Nat) (n:Nat):Option xA->List mD->Tm->List Item->Array Value->Prop
 | plain {cur:Option xA} {todo:List mD} {tm:Tm} {btodo:List Item} {tmps:Array Value}:uD (gF μ) todo btodo->lE μ n tm tmps->wM C μ dp n cur todo tm btodo tmps
 | reg {H:xA} {all:Array Oper} {old tm:Tm} {olds:List (Nat × List Nat)} {stages:List iE} {k:List mD} {order:List Nat} {k':List Item} {tmps:Array Value} {anc:Tr Nat} {D:Nat} {S:Nat->Bool} :
   rF μ all olds anc n old tm D S order tmps->pI all.toList anc stages D=true->gG C μ dp H all olds n old tm D S->uD (gF μ) k k' →
   wM C μ dp n (some H) (.reg all old olds stages::k) tm (.inRegion all order::k') tmps
 | mid {cur:Option xA} {all:Array Oper} {old tm:Tm} {olds:List (Nat × List Nat)} {lights again:List Nat} {stages:List iE} {k:List mD} {order:List Nat} {k':List Item} {tmps:Array Value} {anc:Tr Nat} {D D2:Nat} {S:Nat->Bool} :
   rF μ all olds anc n old tm D S order tmps->bO all.toList lights D=some D2->pI all.toList anc stages D2=true->jW C μ dp all olds n old tm D S again->uD (gF μ) k k' →
   wM C μ dp n cur (.reg all old olds (⟨all.size,lights,again⟩::stages)::k) tm (.inRegion all order::k') tmps
 | wait {all:Array Oper} {old tm:Tm} {olds:List (Nat × List Nat)} {st:iE} {stages:List iE} {k:List mD} {order:List Nat} {k':List Item} {tmps:Array Value} {anc:Tr Nat} {D:Nat} {S:Nat->Bool} :
   rF μ all olds anc n old tm D S (st.heavy::order) tmps->pI all.toList anc (st::stages) D=true->st.heavy<=all.size->jW C μ dp all olds n old tm D S st.again->uD (gF μ) k k' →
   wM C μ dp n none (.reg all old olds (st::stages)::k) tm (.inRegion all (st.heavy::order)::k') tmps
theorem gG.mono{ν:Mu}(h:μ.ln dp ν)(p:gG C μ dp H all olds n old tm D S):gG C ν dp H all olds n old tm D S:=
 fun i h1 h2=>(p i h1 h2).imp id fun⟨o,v,q⟩=>⟨o,v,q.mono h⟩
theorem jW.mono{ν:Mu}{again:List Nat}(h:μ.ln dp ν)(p:jW C μ dp all olds n old tm D S again):jW C ν dp all olds n old tm D S again:=
 fun i h1 h2=>(p i h1 h2).imp id fun⟨o,v,q⟩=>⟨o,v,q.mono h⟩
theorem wM.mono{ν:Mu}(h:μ.ln dp ν){cur:Option xA}{todo:List mD}{btodo:List Item}(R:wM C μ dp n cur todo tm btodo tmps):wM C ν dp n cur todo tm btodo tmps:=by
 have mk:∀ {k:List mD} {k':List Item},uD (gF μ) k k'->uD (gF ν) k k':=fun k=>uD.mono (fun _ _ r=>gF.mono h r) k
 cases R with
 | plain a b=>exact .plain (mk a) (b.mono h)
 | reg a b c d=>exact .reg (a.mono h) b (c.mono h) (mk d)
 | mid a b c d e=>exact .mid (a.mono h) b c (d.mono h) (mk e)
 | wait a b b' c d=>exact .wait (a.mono h) b b' (c.mono h) (mk d)
end
end Go.Am
namespace Go.Am
open Go Go.RowKit
section
variable {P:Program}{C:rA}{B N:Nat}{μ ν:Mu}{H H':xA}{w:World}{n:Nat}{tm:Tm}{tmps:Array Value}{ds:List Deferred}{dp:Nat}
theorem lE.put{v:zA}{v':Value}{dst:Option Nat}(h:lE μ n tm tmps)(hv:uA μ v v'):lE μ n (putA n tm dst v) (Act.put ⟨tmps,ds⟩ dst v').tmps:=by
 cases dst with
 | none=>exact h
 | some d=>
  refine⟨by simp[Act.put,h.1],fun t x hx=>?_⟩
  rw[cH]at hx;simp only[Act.put,ycx,ycs];by_cases e:d=t
  ·subst e
   by_cases hn:d<n
   ·rw[yab ⟨rfl,hn⟩]at hx
    cases hx;simp[h.1,hn,hv]
   ·rw[yaa fun k=>hn k.2]at hx
    have:=h.2 d x hx
    rw[Fg (by rw[h.1];omega)]at this
    simp[h.1,hn,this]
  ·rw[yaa fun k=>e (yci k.1)]at hx
   have:=h.2 t x hx
   simp_all
structure lI (C:rA) (μ:Mu) (dp:Nat) (cur:Option xA) (fr:pB) (b:Frame):Prop where
 rest:pG μ fr.R b
 body:if fr.R.mode.running=true then wM C μ dp fr.R.n cur fr.todo fr.tm b.todo b.tmps else lE μ fr.R.n fr.tm b.tmps
theorem lI.mono(h:μ.ln dp ν){cur:Option xA}{fr:pB}{b:Frame}(r:lI C μ dp cur fr b):lI C ν dp cur fr b:=by
 refine⟨r.rest.mono h,?_⟩
 have:=r.body
 split at this
 ·rename_i e;rw[yab e];exact this.mono h
 ·rename_i e;rw[yaa e];exact this.mono h
inductive mF (C:rA) (μ:Mu):List pB->List Frame->Prop
 | nil:mF C μ [] []
 | cons {a:pB} {b:Frame} {l:List pB} {m:List Frame}:lI C μ l.length none a b->mF C μ l m->mF C μ (a::l) (b::m)
theorem mF.monoD{l:List pB}{m:List Frame}(r:mF C μ l m)(h:∀d,d<l.length->μ.ln d ν):mF C ν l m:=by
 induction r with
 | nil=>exact .nil
 | @cons a b l m h1 h2 ih=>exact .cons (h1.mono (h _ (by simp))) (ih fun d hd=>h d (by grind))
theorem mF.mono{l:List pB}{m:List Frame}(r:mF C μ l m)(h:μ.le ν):mF C ν l m:=r.monoD fun d _=>h.ln d
theorem Cs{fr fr':pB}{b:Frame}{v:zA}{v':Value}{cur:Option xA}(r:lI C μ dp none fr b)(h:iG fr v=some fr')(hv:uA μ v v'):lI C μ dp cur fr' (b.finish v'):=by
 obtain⟨todo,tm,R⟩:=fr
 unfold iG at h
 cases todo with
 | nil=>cases h
 | cons x k=>
  simp only[dC]at h;split at h
  case isFalse=>cases h
  rename_i hm;have body:=r.body
  rw[yab hm]at body;have rest:=r.rest
  obtain⟨fn,btmps,btodo,bdefers,bmode,bkind,bround⟩:=b
  simp only at body rest
  cases body with
  | plain a t=>
   cases a with
   | cons i l=>
    cases i with
    | ops all i hi=>
     simp only[Pv]at h;unfold zbb at h;split at h
     case h_2=>cases h
     rename_i o rest' ho
     cases h;obtain⟨h1,h2⟩:=iU ho.symm
     have hlt:i<all.size:=by grind
     have hr:(List.range all.size).drop i=i::(List.range all.size).drop (i+1):=by
      grind [List.drop_eq_getElem_cons]
     have ho2:all[i]?=some o:=by simp_all
     have e:∀k',Frame.finish ⟨fn,btmps,.inRegion all ((List.range all.size).drop i)::k',bdefers,bmode,bkind,bround⟩ v'=⟨fn,(Act.put ⟨btmps,bdefers⟩ o.dst v').tmps,.inRegion all ((List.range all.size).drop (i+1))::k',bdefers,bmode,bkind,bround⟩:=by
      intro k';simp only[Frame.finish,hr,ho2,yai];unfold Act.put
      cases o.dst<;>rfl
     rw[e];refine⟨⟨rest.fn,?_,rest.defers,rest.mode,rest.kind,rest.round⟩,?_⟩
     ·exact(t.put (ds:=bdefers) (dst:=o.dst) hv).1
     ·rw[yab hm]
      rw[h2];exact .plain (.cons (.ops all (i+1) hlt) l) (t.put hv)
    | inRange l' i hl=>
     cases h;refine⟨⟨rest.fn,rest.size,rest.defers,rest.mode,rest.kind,rest.round⟩,?_⟩
     simp only[Frame.finish];rw[yab hm];exact .plain (.cons (.endRange l' i hl) l) t
    | beginRound=>
     cases h;refine⟨⟨rest.fn,rest.size,rest.defers,rest.mode,rest.kind,rest.round⟩,?_⟩
     simp only[Frame.finish];rw[yab hm];exact .plain l t
    | _=>cases h
  | mid a b c d e=>
   simp_all [Pv,Xu,zG]
  | @wait all old _ olds st stages _ order _ _ anc D S a b b2 c d=>
   simp only[Pv]at h;unfold Xu at h;simp only[tA,zG]at h;obtain⟨o,ho,h⟩:=h
   cases h;have ho2:all[st.heavy]?=some o:=by simp_all
   obtain⟨_,_,D1,D2,h1,h2,h3⟩:=Nw b b2
   obtain⟨r1,r2⟩:=MF (ds:=bdefers) h1 ho2 a c hv
   have e:∀k',Frame.finish ⟨fn,btmps,.inRegion all (st.heavy::order)::k',bdefers,bmode,bkind,bround⟩ v'=⟨fn,(Act.put ⟨btmps,bdefers⟩ o.dst v').tmps,.inRegion all order::k',bdefers,bmode,bkind,bround⟩:=by
    intro k';simp only[Frame.finish,ho2,yai];unfold Act.put
    cases o.dst<;>rfl
   rw[e];refine⟨⟨rest.fn,r1.size,rest.defers,rest.mode,rest.kind,rest.round⟩,?_⟩
   rw[yab hm];exact .mid r1 h2 h3 r2 d
def pD(P:Program)(C:rA)(B N:Nat)(μ:Mu)(base:List Frame)(m:Machine)(w:World):yF->Prop
 | .next s=>∃ μ' b cs w',Steps P m (lone b (cs++base) w')/\μ.lw μ'/\Below N w w'/\wB B N μ' s.H w'/\lI C μ' s.cs.length (some s.H) s.fr b/\mF C μ' s.cs cs
 | .done v H=>∃ μ' b w' v',Steps P m (lone b base w')/\μ.lw μ'/\Below N w w'/\wB B N μ' H w'/\uA μ' v v'/\b.fn=C.root/\b.leaving P w' (.returned v')
 | .fail _=>True
theorem pD.of_steps{base:List Frame}{m m1:Machine}{o:yF}{w w1:World}(hs:Steps P m m1)(hm:μ.lw ν)(hb:Below N w w1)(h:pD P C B N ν base m1 w1 o):pD P C B N μ base m w o:=by
 cases o with
 | fail=>exact trivial
 | next s=>
  obtain⟨μ',b,cs,w',h1,h2,h3,h4⟩:=h
  exact⟨μ',b,cs,w',hs.trans h1,fun a i k=>h2 a i (hm a i k),hb.trans h3,h4⟩
 | done v H=>
  obtain⟨μ',b,w',v',h1,h2,h3,h4⟩:=h
  exact⟨μ',b,w',v',hs.trans h1,fun a i k=>h2 a i (hm a i k),hb.trans h3,h4⟩
theorem za5{b:Frame}(h:b.mode=.run):b.atR ⟨b.tmps,b.defers⟩ b.todo=b:=by
 obtain⟨fn,tmps,todo,defers,mode,kind,round⟩:=b
 simp only at h
 subst h;rfl
end
end Go.Am
namespace Go.Am
open Go Go.RowKit
structure vJ (P:Program) (C:rA) (B N:Nat) (I:World->Prop):Prop where
 tys:zF P C
 fns:Be P C
 prims:Lf P C B N I
 base:B<=C.base
 mixed:P.follows .mixedOrders=true
 inv:∀w w',Below N w w'->I w->I w'
section
variable {P:Program}{C:rA}{B N:Nat}{I:World->Prop}{μ ν:Mu}{H H':xA}{w:World}{tm:Tm}{R:kI}{acs:List pB}{base cs:List Frame}
variable {b:Frame}{tmps:Array Value}{ds:List Deferred}{k:List mD}{k':List Item}
theorem pG.todo{todo:List Item}(h:pG μ R (b.atR ⟨tmps,ds⟩ [])):pG μ R (b.atR ⟨tmps,ds⟩ todo):=⟨h.fn,h.size,h.defers,h.mode,h.kind,h.round⟩
theorem pG.running{todo:List Item}(h:pG μ R (b.atR ⟨tmps,ds⟩ todo)):R.mode.running=true:=by
 have:=h.mode
 cases hm:R.mode with
 | run=>rfl
 | _=>rw[hm]at this;exact this.elim
theorem sX{m:Machine}{todo:List mD}{btodo:List Item}(hH:wB B N μ H w)(hcs:mF C μ acs cs)(hR:pG μ R (b.atR ⟨tmps,ds⟩ []))(ht:lE μ R.n tm tmps)
  (hk:uD (gF μ) todo btodo) (hs:Steps P m (lone (b.atR ⟨tmps,ds⟩ btodo) (cs++base) w)):pD P C B N μ base m w (xGo todo tm R acs H):=
 ⟨μ,_,cs,w,hs,fun _ _ h=>h,Below.refl _ _,hH,⟨hR.todo,by rw[yab hR.running];exact .plain hk ht⟩,hcs⟩
theorem Np(hH:wB B N μ H w)(hcs:mF C μ acs cs)(hR:pG μ R (b.atR ⟨tmps,ds⟩ []))(ht:lE μ R.n tm tmps)(hk:uD (gF μ) k k'){m:Machine}
  (hs:step P m=.next (lone (b.atR ⟨tmps,ds⟩ k') (cs++base) w)):pD P C B N μ base m w (Bh C k tm R acs H):=
 sX hH hcs hR ht hk (.one hs)
theorem zd0(hH:wB B N μ H w)(hcs:mF C μ acs cs)(hR:pG μ R (b.atR ⟨tmps,ds⟩ []))(ht:lE μ R.n tm tmps)(hk:uD (gF μ) k k'){c:Operand}{x y:Code} :
  pD P C B N μ base (lone (b.atR ⟨tmps,ds⟩ (.code (.cond c x y)::k')) (cs++base) w) w (Gv c x y C k tm R acs H):=by
 unfold Gv
 cases hc:ob (ev c (.now tm)) zA.asBool with
 | none=>exact trivial
 | some t=>
  rw[tA]at hc;obtain⟨v,hv,ht'⟩:=hc
  have:v=.bool t:=by cases v<;>simp[zA.asBool]at ht';rw[ht']
  subst this;have hr:=ht.erel (ds:=ds) hH.glob c _ hv
  rw[uA]at hr;refine sX hH hcs hR ht (.cons (.code _) hk) (.one ?_)
  rw[stepR_cond hr]
  cases t<;>rfl
theorem za2(hH:wB B N μ H w)(hcs:mF C μ acs cs)(hR:pG μ R (b.atR ⟨tmps,ds⟩ []))(ht:lE μ R.n tm tmps)(hk:uD (gF μ) k k'){id:Nat}{c:Code} :
  pD P C B N μ base (lone (b.atR ⟨tmps,ds⟩ (.code (.block id c)::k')) (cs++base) w) w (Zd id c C k tm R acs H):=
 sX hH hcs hR ht (.cons (.code _) (.cons (.inBlock _) hk)) (.one stepR_block)
theorem zcl(hH:wB B N μ H w)(hcs:mF C μ acs cs)(hR:pG μ R (b.atR ⟨tmps,ds⟩ []))(ht:lE μ R.n tm tmps)(hk:uD (gF μ) k k'){c:Code} :
  pD P C B N μ base (lone (b.atR ⟨tmps,ds⟩ (.code (.loop c)::k')) (cs++base) w) w (Rh c C k tm R acs H):=
 sX hH hcs hR ht (.cons (.code _) (.cons (.inLoop _) hk)) (.one stepR_loop)
theorem WD{id:Nat}:∀ {k:List mD} {k':List Item} {r:List mD},uD (gF μ) k k'->lR id k=some r->∃r',exitTo id k'=some r'/\uD (gF μ) r r':=by
 intro k k' r h;induction h with
 | nil=>intro e;cases e
 | cons a l ih=>
  intro e
  cases a with
  | inBlock i=>
   grind [lR,mD.blockId,exitTo,sC]
  | _=>
   unfold lR at e;obtain⟨r',h1,h2⟩:=ih e
   grind [exitTo]
end
end Go.Am
namespace Go.Am
open Go Go.RowKit
section
variable {P:Program}{C:rA}{B N:Nat}{I:World->Prop}{μ ν:Mu}{H H':xA}{w:World}{tm:Tm}{R:kI}{acs:List pB}{base cs:List Frame}
variable {b:Frame}{tmps:Array Value}{ds:List Deferred}{k:List mD}{k':List Item}{all:Array Oper}{olds:List (Nat × List Nat)}{anc:Tr Nat}{old:Tm}{D:Nat}{S:Nat->Bool}{order:List Nat}
theorem pG.slots{tmps':Array Value}{todo:List Item}(h:pG μ R (b.atR ⟨tmps,ds⟩ todo))(hs:tmps'.size=R.n):pG μ R (b.atR ⟨tmps',ds⟩ todo):=⟨h.fn,hs,h.defers,h.mode,h.kind,h.round⟩
theorem lE.cut{n:Nat}(h:lE μ n tm tmps):lE μ n tm.cut tmps:=by
 refine⟨h.1,fun i v hv=>h.2 i v ?_⟩
 unfold Tm.cut Tm.get at hv;unfold Tm.get;simp only[bI]at hv ⊢
 split at hv
 ·simp_all
 ·cases hv
theorem QX(hS:vJ P C B N I)(hH:wB B N μ H w)(hcs:mF C μ acs cs)(hR:pG μ R (b.atR ⟨tmps,ds⟩ []))(hk:uD (gF μ) k k')
  (hr:rF μ all olds anc R.n old tm D S order tmps) (hst:pI all.toList anc [] D=true) (hp:gG C μ acs.length H all olds R.n old tm D S) :
  pD P C B N μ base (lone (b.atR ⟨tmps,ds⟩ (.inRegion all order::k')) (cs++base) w) w (Bh C k tm R acs H):=by
 obtain⟨tmps',μ',w',s,g,t⟩:=regEnd (b:=b) (k:=k') (cs:=cs++base) (ds:=ds) hS.tys hst order S tmps μ w hH hr hp
 refine pD.of_steps s g.le g.below ?_
 exact sX g.heap (hcs.monoD fun d hd=>g.pd d (by omega)) ((hR.mono g.le).slots t.1) t (hk.mono fun _ _ r=>r.mono g.le) (.refl _ _)
theorem zds(hS:vJ P C B N I)(hH:wB B N μ H w)(hcs:mF C μ acs cs)(hR:pG μ R (b.atR ⟨tmps,ds⟩ []))(ht:lE μ R.n tm tmps)(hk:uD (gF μ) k k'){id:Nat} :
  pD P C B N μ base (lone (b.atR ⟨tmps,ds⟩ (.code (.region id all true)::k')) (cs++base) w) w (Gu id all C k tm R acs H):=by
 unfold Gu
 cases hx:ob (ob (C.plans.get R.fn) fun t=>t.get id) fun p=>yB (nS all p) <| ob (rQ C H all R.n tm.cut p.olds p.first tm.cut) fun tm'=>some (⟨⟨.reg all tm.cut p.olds p.stages::k,tm',R⟩,acs,H⟩:iP)with
 | none=>exact trivial
 | some s=>
  simp only[tA,xB]at hx;obtain⟨p,_,hok,tm',hl,hx⟩:=hx
  cases hx;obtain⟨anc,D,ro,h1,h2⟩:=SO hok
  obtain⟨r0,p0⟩:=QW (C:=C) (H:=H) (dp:=acs.length) hS.mixed ro ht.cut (w.tape w.drawn (.order b.fn id))
  obtain⟨r1,p1⟩:=Pb _ _ _ hl h1 r0 p0
  exact⟨μ,_,cs,_,.one stepR_region_draw,fun _ _ h=>h,(Below.refl N w).drew,hH.drew,⟨hR.todo,by rw[yab hR.running];exact .reg r1 h2 p1 hk⟩,hcs⟩
theorem TX(hH:wB B N μ H w)(hcs:mF C μ acs cs)(hR:pG μ R (b.atR ⟨tmps,ds⟩ []))(hk:uD (gF μ) k k'){st:iE}{stages:List iE}{D2:Nat}
  (hr:rF μ all olds anc R.n old tm D S order tmps) (h1:bO all.toList st.lights D=some D2) (h2:pI all.toList anc stages D2=true) (hw:jW C μ acs.length all olds R.n old tm D S st.again) :
  pD P C B N μ base (lone (b.atR ⟨tmps,ds⟩ (.inRegion all order::k')) (cs++base) w) w (Gs all old olds st stages C k tm R acs H):=by
 unfold Gs
 cases hx:yB (Ax C H all old olds tm st.again) (ob (rQ C H all R.n old olds st.lights tm) fun tm=>some (⟨⟨.reg all old olds stages::k,tm,R⟩,acs,H⟩:iP))with
 | none=>exact trivial
 | some s=>
  simp only[tA,xB]at hx;obtain⟨ha,tm',hl,hx⟩:=hx
  cases hx;obtain⟨r1,p1⟩:=Pb _ _ _ hl h1 hr (MD hw ha)
  exact⟨μ,_,cs,w,.refl _ _,fun _ _ h=>h,Below.refl N w,hH,⟨hR.todo,by rw[yab hR.running];exact .reg r1 h2 p1 hk⟩,hcs⟩
theorem QM(hH:wB B N μ H w)(hcs:mF C μ acs cs)(hR:pG μ R (b.atR ⟨tmps,ds⟩ []))(ht:lE μ R.n tm tmps){m:Machine}{todo:List mD}{btodo:List Item}
  (hs:Steps P m (lone { b.atR ⟨tmps,ds⟩ btodo with mode:=.returning } (cs++base) w)):pD P C B N μ base m w (.next ⟨zX ⟨todo,tm,R⟩ .returning,acs,H⟩):=
 ⟨μ,_,cs,w,hs,fun _ _ h=>h,Below.refl N w,hH,⟨⟨hR.fn,hR.size,hR.defers,trivial,hR.kind,hR.round⟩,ht⟩,hcs⟩
theorem Ei{dst:Option Tmp}{v:Value}:Act.put ⟨tmps,ds⟩ dst v=⟨(Act.put ⟨tmps,ds⟩ dst v).tmps,ds⟩:=by unfold Act.put;cases dst<;>rfl
theorem Rn{i:Nat}{rest:List Nat}{o:Oper}{v:zA}{cs:List Frame}(ho:all[i]?=some o)(hw:Region.wanted o (yielded all tmps)=true)(hd:∀c,o.op≠.defer c)
  (h:lP P B N μ w (Act.eval ⟨tmps,ds⟩) o v H') :
  ∃v' w' μ',step P (lone (b.atR ⟨tmps,ds⟩ (.inRegion all (i::rest)::k')) cs w)=.next (lone (b.atR ⟨(Act.put ⟨tmps,ds⟩ o.dst v').tmps,ds⟩ (.inRegion all rest::k')) cs w') ∧
   μ.le μ'/\wB B N μ' H' w'/\Below N w w'/\uA μ' v v':=by
 obtain⟨v',w',μ',h1,h2,h3,h4,h5⟩:=h
 refine⟨v',w',μ',?_,h2,h3,h4,h5⟩
 rw[<- Ei];grind [Ud,Oper.semAt_eq,OO]
theorem BN{i:Nat}{rest:List Nat}{o:Oper}{f:FuncId}{args:Array Value}{cs:List Frame}{w':World}(ho:all[i]?=some o)(hw:Region.wanted o (yielded all tmps)=true)(hd:∀c,o.op≠.defer c)
  (h:(execOp (Act.eval ⟨tmps,ds⟩) o).run P w=.ok (.enter f args) w') :
  step P (lone (b.atR ⟨tmps,ds⟩ (.inRegion all (i::rest)::k')) cs w)=.next (lone (Frame.enter P f args .normal) (b.atR ⟨tmps,ds⟩ (.inRegion all (i::rest)::k')::cs) w'):=
 step_lone_go (by
  rw[stepGR_op (a:=⟨tmps,ds⟩) ho hw,Oper.semAt_eq _ _ _ hd]
  simp_all [stepG.apply,Frame.atR])
theorem KZ{i:Nat}{rest:List Nat}{o:Oper}{f:FuncId}{args:Array Value}{cs:List Frame}(ho:all[i]?=some o)(hw:Region.wanted o (yielded all tmps)=true)(hd:∀c,o.op≠.defer c)
  (h:(execOp (Act.eval ⟨tmps,ds⟩) o).run P w=.ok (.enter f args) w) {R:Value->World->Prop} (hc:Calls P f args w fun e w'=>∃v',e=.returned v'/\R v' w') :
  ∃v' w',Steps P (lone (b.atR ⟨tmps,ds⟩ (.inRegion all (i::rest)::k')) cs w) (lone (b.atR ⟨(Act.put ⟨tmps,ds⟩ o.dst v').tmps,ds⟩ (.inRegion all rest::k')) cs w')/\R v' w':=by
 obtain⟨e,w',fr,⟨v',rfl,h1⟩,h3,_,h5⟩:=hc (b.atR ⟨tmps,ds⟩ (.inRegion all (i::rest)::k')::cs)
 refine⟨v',w',?_,h1⟩
 refine .head (BN ho hw hd h) (Steps.trans h3 (.one ?_))
 rw[step_leave_returned h5,Frame.finish_atR,ho,<- Ei];rfl
theorem wB.below{w':World}(hH:wB B N μ H w)(hb:Below w.heap.size w w'):wB B N μ H w':=by
 refine⟨hH.base,hH.glob,hH.low,hH.next,Nat.le_trans hH.size hb.size,hH.fresh,fun a x i hx h1=>?_,fun a i ha hi=>?_,hH.inj,hH.pnd⟩
 ·obtain⟨o,h2,h3⟩:=hH.blk a x i hx h1
  have hlt:i.b<w.heap.size:=(ybe.1 h2).1
  exact⟨o,by rw[hb.block _ hlt];exact h2,h3⟩
 ·obtain⟨h1,h2,h3⟩:=hH.own a i ha hi
  exact⟨h1,Nat.lt_of_lt_of_le h2 hb.size,h3⟩
theorem tX{g:List zA->xA->Option zA}{f:FuncId}{al:List zA}{args':Array Value}{v:zA}{H':xA}(hv:vN g al H=some (v,H'))(hH:wB B N μ H w)
  (k:g al H=some v->(callFunc f args').run P w=.ok (.enter f args') w/\Calls P f args' w fun e w'=>∃v',e=.returned v'/\uA μ v v'/\Below w.heap.size w w') :
  (H'=H/\∃v',(callFunc f args').run P w=.ok (.value v') w/\uA μ v v') ∨
   ((callFunc f args').run P w=.ok (.enter f args') w/\Calls P f args' w fun e w'=>∃v' μ',e=.returned v'/\μ.le μ'/\wB B N μ' H' w'/\Below N w w'/\uA μ' v v'):=by
 unfold vN at hv;rw[tA]at hv;obtain⟨u,h1,h2⟩:=hv
 cases h2;obtain⟨h3,h4⟩:=k h1
 exact .inr ⟨h3,h4.mono fun e w' hh=>by obtain⟨v',g1,g2,g3⟩:=hh;exact⟨v',μ,g1,μ.le_refl,hH.below g3,g3.mono hH.size,g2⟩⟩
theorem lE.wanted{n:Nat}(R:lE μ n tm tmps){o:Oper}{w:Bool}(h:tF o.guard all tm=some w):Region.wanted o (yielded all tmps)=w:=by
 unfold tF Ha at h;unfold Region.wanted
 cases hg:o.guard with
 | none=>rw[hg]at h;cases h;rfl
 | some jw=>
  obtain⟨j,want⟩:=jw
  rw[hg]at h;simp only[Gz,tA,zG]at h;obtain⟨d,⟨u,hu,hud⟩,v,hv,h⟩:=h
  have hu':all[j]?=some u:=by simp_all
  have hy:yielded all tmps j=match tmps[d]? with | some (.bool b)=>some b | _=>none:=by
   grind [yielded]
  simp only[];rw[hy];have rel:=R.2 d v hv
  by_cases hd:d<n
  ·have hs:d<tmps.size:=by rw[R.1];exact hd
   have e1:tmps[d]?=some (tmps.getD d undef):=by simp_all
   rw[e1];generalize tmps.getD d undef=x at rel
   cases hb:v.asBool with
   | some b=>
    rw[hb]at h;have:v=.bool b:=by cases v<;>simp[zA.asBool]at hb;rw[hb]
    rw[this,uA]at rel;subst rel;simp only[Option.some.injEq]at h;rw[<- h,zZ]
    cases b<;>cases want<;>rfl
   | none=>
    rw[hb]at h
    cases h
    cases x with
    | bool b=>rw[Ze rel]at hb;cases hb
    | _=>rfl
  ·have e1:tmps[d]?=none:=by simp[R.1];omega
   rw[e1];rw[Fg (by simp_all)]at rel
   cases hb:v.asBool with
   | some b=>
    have:v=.bool b:=by cases v<;>simp[zA.asBool]at hb;rw[hb]
    rw[this,uA]at rel
    cases rel
   | none=>simp_all
theorem Vd{fr:pB}{c:Frame}{w':World}{v:zA}{v':Value}{m:Machine}(hw:lI C μ acs.length none fr c)(hcs:mF C μ acs cs)(hm:μ.le ν)(hH:wB B N ν H' w')(hb:Below N w w')(hv:uA ν v v')
  (hs:Steps P m (lone (c.finish v') (cs++base) w')):pD P C B N μ base m w (Ce v H' C fr acs H):=by
 unfold Ce
 cases hx:ob (iG fr v) fun fr=>some (⟨fr,acs,H'⟩:iP)with
 | none=>exact trivial
 | some s=>
  rw[tA]at hx;obtain⟨fr',hf,hx⟩:=hx
  cases hx;exact⟨ν,_,cs,w',hs,hm,hb,hH,Cs (hw.mono hm) hf hv,hcs.mono hm⟩
theorem Ko{dp:Nat}(hF:Be P C){f:Nat}{args:List zA}{args':Array Value}{d:Bool}{g:pB}{cur:Option xA}(h:eI C f args d=some g)(hl:rB μ args args'.toList) :
  lI C μ dp cur g (Frame.enter P f args' (if d then .deferred else .normal))/\∃fn,C.fns.get f=some fn/\fn.body.isSome=true:=by
 unfold eI at h;simp only[tA,xB,ybb,qE]at h;obtain⟨fn,hfn,c,hc,k,hk,⟨h1,h2⟩,h3⟩:=h
 cases h3;obtain⟨h4,_⟩:=hF f fn hfn
 have hsz:args'.size=args.length:=by have:=hl.length;omega
 rw[sD]at h1 h2;have size:(Frame.enter P f args' (if d then .deferred else .normal)).tmps.size=fn.ntmps:=by
  grind [Frame.enter]
 refine⟨⟨⟨rfl,size,.nil,trivial,rfl,trivial⟩,?_⟩,fn,hfn,by grind⟩
 show wM C μ dp fn.ntmps cur [.code c] ⟨k,Tr.ofList args,[]⟩ (Frame.enter P f args' (if d then .deferred else .normal)).todo (Frame.enter P f args' (if d then .deferred else .normal)).tmps
 have todo:(Frame.enter P f args' (if d then .deferred else .normal)).todo=[.code c]:=by grind [Frame.enter]
 rw[todo];refine .plain (.cons (.code c) .nil) ⟨size,fun i v hv=>?_⟩
 unfold Tm.get at hv;simp only[bI]at hv;split at hv
 ·rw[Tr.get_ofList]at hv
  obtain⟨x,hx,hr⟩:=hl.get hv
  have hi:i<args'.size:=by grind
  simp_all [Frame.enter,yaj]
 ·cases hv
theorem RS(hF:Be P C){fr:pB}{c:Frame}{f:Nat}{args:List zA}{m:Machine}(hw:lI C μ acs.length none fr c)(hcs:mF C μ acs cs)(hH:wB B N μ H w)
  (hs:∀fn,C.fns.get f=some fn->fn.body.isSome=true->∃args',rB μ args args'.toList/\Steps P m (lone (Frame.enter P f args' .normal) (c::(cs++base)) w)) :
  pD P C B N μ base m w (Io f args C fr acs H):=by
 unfold Io
 cases hx:eI C f args false with
 | none=>exact trivial
 | some g=>
  obtain⟨fn,h1,h2⟩:∃fn,C.fns.get f=some fn/\fn.body.isSome=true:=by
   grind [eI,tA]
  obtain⟨args',h3,h4⟩:=hs fn h1 h2
  exact⟨μ,_,c::cs,w,h4,fun _ _ h=>h,Below.refl N w,hH,(Ko hF hx h3).1,.cons hw hcs⟩
end
end Go.Am
namespace Go.Am
open Go Go.RowKit
theorem IZ:∀(l:List Oper) (t:Tr zA) (i:Nat) (v:zA),(Fm l t).get i=some v->t.get i=some v/\∀o∈l,o.dst≠some i:=by
 intro l;induction l with
 | nil=>intro t i v h;exact⟨h,fun _ ho=>by cases ho⟩
 | cons o l ih=>
  grind [Fm,Tr.get_del]
theorem rF.left{μ:Mu}{all:Array Oper}{olds:List (Nat × List Nat)}{anc:Tr Nat}{n:Nat}{old tm:Tm}{D:Nat}{S:Nat->Bool}{order:List Nat}{tmps:Array Value}(R:rF μ all olds anc n old tm D S order tmps) :
  lE μ n ⟨tm.k,Fm all.toList tm.v,[]⟩ tmps:=by
 refine⟨R.size,fun t v hv=>?_⟩
 unfold Tm.get at hv;simp only[bI]at hv;split at hv
 case isFalse=>cases hv
 rename_i hk;obtain⟨h1,h2⟩:=IZ _ _ _ _ hv
 have hv:tm.get t=some v:=by grind [Tm.get,bI]
 have hw:∀(i:Nat) (o:Oper),all[i]?=some o->o.dst=some t->False:=fun i o ho hd=>h2 o (by
  grind) hd
 by_cases hn:t<n
 ·have k:=R.keep t hn fun i o a b=>(hw i o a b).elim
  exact R.past t v hn (fun i o a b=>(hw i o a b).elim) (by simp_all)
 ·rw[Fg (by rw[R.size];omega)]
  exact R.big t v (by omega) (.inl hv)
theorem wM.left{C:rA}{μ:Mu}{dp n:Nat}{cur:Option xA}{todo:List mD}{tm:Tm}{btodo:List Item}{tmps:Array Value}(h:wM C μ dp n cur todo tm btodo tmps):lE μ n (Jn todo tm) tmps:=by
 cases h with
 | plain a t=>
  cases a with
  | nil=>exact t
  | cons x l=>cases x<;>exact t
 | reg a _ _ _=>exact a.left
 | mid a _ _ _ _=>exact a.left
 | wait a _ _ _ _=>exact a.left
theorem uD.append{α β:Type}{R:α->β->Prop}{l l':List α}{m m':List β}(h:uD R l m)(h':uD R l' m'):uD R (l++l') (m++m'):=by
 induction h with
 | nil=>exact h'
 | cons a _ ih=>exact .cons a ih
theorem lE.left{μ:Mu}{n:Nat}{tm:Tm}{tmps:Array Value}(h:lE μ n tm tmps)(todo:List mD):lE μ n (Jn todo tm) tmps:=by
 unfold Jn;split
 ·refine⟨h.1,fun t v hv=>h.2 t v ?_⟩
  unfold Tm.get at hv ⊢
  simp only[bI]at hv ⊢
  split at hv
  ·grind [IZ]
  ·cases hv
 ·exact h
theorem DG{C:rA}{μ:Mu}{dp:Nat}{cur cur':Option xA}{fr:pB}{b:Frame}{l:List Bf}{l':List PanicEntry}(h:lI C μ dp cur fr b)(hl:uD (Bc μ) l l'):lI C μ dp cur' (aT fr l) (b.raise l'):=by
 have t:lE μ fr.R.n (Jn fr.todo fr.tm) b.tmps:=by
  have:=h.body
  split at this
  ·exact this.left
  ·exact this.left _
 have r:=h.rest
 obtain⟨todo,tm,fn,n,defers,mode,deferred,round⟩:=fr
 obtain⟨bfn,btmps,btodo,bdefers,bmode,bkind,bround⟩:=b
 have m:=r.mode
 cases mode<;>cases bmode<;>first | exact m.elim | skip
 ·exact⟨⟨r.fn,r.size,r.defers,hl,r.kind,r.round⟩,t⟩
 ·exact⟨⟨r.fn,r.size,r.defers,hl,r.kind,r.round⟩,t⟩
 ·refine⟨⟨r.fn,r.size,r.defers,?_,r.kind,r.round⟩,t⟩
  show uD (Bc μ) (qD l _) _
  rw[xG];exact hl.append m
end Go.Am
namespace Go.Am
open Go Go.RowKit
section
variable {P:Program}{C:rA}{B N:Nat}{I:World->Prop}{μ ν:Mu}{H H':xA}{w:World}{tm:Tm}{R:kI}{acs:List pB}{base cs:List Frame}
variable {b:Frame}{tmps:Array Value}{ds:List Deferred}{k:List mD}{k':List Item}{all:Array Oper}
theorem RQ{fr:pB}{c:Frame}{v:zA}{v':Value}{m:Machine}{cur:Option xA}(hw:lI C μ acs.length cur fr c)(hcs:mF C μ acs cs)(hH:wB B N μ H w)(hv:uA μ v v')
  (hs:Steps P m (lone (c.raise [{ v:=v',recovered:=false }]) (cs++base) w)):pD P C B N μ base m w (DI v C fr acs H):=
 ⟨μ,_,cs,w,hs,fun _ _ h=>h,Below.refl N w,hH,DG hw (.cons ⟨hv,rfl,rfl⟩ .nil),hcs⟩
theorem OS{i:Nat}{rest:List Nat}{o:Oper}{v:Value}{cs:List Frame}{w':World}(ho:all[i]?=some o)(hw:Region.wanted o (yielded all tmps)=true)(hd:∀c,o.op≠.defer c)
  (h:(execOp (Act.eval ⟨tmps,ds⟩) o).run P w=.halt (.panic v) w') :
  step P (lone (b.atR ⟨tmps,ds⟩ (.inRegion all (i::rest)::k')) cs w)=.next (lone ((b.atR ⟨tmps,ds⟩ (.inRegion all (i::rest)::k')).raise [{ v,recovered:=false }]) cs w'):=
 step_lone_go (by
  simp_all [stepGR_op,Oper.semAt_eq,stepG.apply])
theorem Jk(hH:wB B N μ H w){l:Nat}{r:lL}(h:eH H l=some r){i:BI}(h4:μ l=some i):B<=l/\∃r',H.t.get l=some (.loop r)/\w.heap[i.b]?=some (.loop r')/\Lh μ r r':=by
 unfold eH at h;rw[xB,qE,tA]at h;obtain⟨h1,x,h2,h3⟩:=h
 have:x=.loop r:=by cases x<;>simp[vA.asLoop]at h3;rw[h3]
 subst this;obtain⟨o,h5,h6⟩:=hH.blk l _ i h2 h4
 rw[yI]at h6;obtain⟨r',rfl,h7⟩:=h6
 refine⟨Nat.le_of_not_lt fun hlt=>?_,r',h2,h5,h7⟩
 have:=(hH.low l _ i hlt h2 h4).2.1
 cases this
theorem Ie{l:Nat}{r:Loop}(h:w.heap[l]?=some (.loop r)):(Instr.getLoop l).run P w=.ok r w:=by
 simp_all [Instr.getLoop,getObj,Sem.run]
theorem LQ{o:Op}(h:∃c,o=.defer c)(C:rA)(e:kC)(H:xA):(rE o).f C e H=.fail\/∃d,(rE o).f C e H=.defer d:=by
 obtain⟨c,rfl⟩:=h
 show(Pp c c.callee).f C e H=.fail\/∃d,(Pp c c.callee).f C e H=.defer d
 cases c.callee with
 | value f=>
  show xX (ob (yQ f c.args e) fun p=>some (.defer ⟨some p.1,0,qD p.2.1 p.2.2⟩))=.fail\/∃d,xX (ob (yQ f c.args e) fun p=>some (.defer ⟨some p.1,0,qD p.2.1 p.2.2⟩))=.defer d
  cases yQ f c.args e with
  | none=>exact .inl rfl
  | some p=>exact .inr ⟨_,rfl⟩
 | _=>exact .inl rfl
theorem PW{n:Nat}:∀(ps:List Nat) (args:List zA) (tm tm':Tm) (args':List Value) (tmps:Array Value),aW n ps args tm=some tm'->rB μ args args'->lE μ n tm tmps →
  args'.length=ps.length/\lE μ n tm' ((ps.zip args').foldl (fun tmps x=>tmps.setIfInBounds x.1 x.2) tmps):=by
 intro ps;induction ps with
 | nil=>
  intro args tm tm' args' tmps h hl ht
  cases args with
  | nil=>rw[rB]at hl;subst hl;cases h;simp_all
  | cons a as=>cases h
 | cons p ps ih=>
  intro args tm tm' args' tmps h hl ht
  cases args with
  | nil=>cases h
  | cons a as=>
   rw[rB]at hl;obtain⟨v,r,rfl,hv,hl⟩:=hl
   have:=ih as _ _ r (tmps.setIfInBounds p v) h hl (ht.put (ds:=[]) (dst:=some p) hv)
   simp_all
theorem OQ{i:Nat}{rest:List Nat}{o:Oper}{cs:List Frame}{l:Nat}{f:FuncId}{t:Array Value}{as bd:Code}{w':World}(ho:all[i]?=some o)(hw:Region.wanted o (yielded all tmps)=true)(hd:∀c,o.op≠.defer c)
  (h:(execOp (Act.eval ⟨tmps,ds⟩) o).run P w=.ok (.round l f t as bd) w') :
  step P (lone (b.atR ⟨tmps,ds⟩ (.inRegion all (i::rest)::k')) cs w)=.next (lone (Frame.round l f t as bd .normal) (b.atR ⟨tmps,ds⟩ (.inRegion all (i::rest)::k')::cs) w'):=
 step_lone_go (by
  rw[stepGR_op (a:=⟨tmps,ds⟩) ho hw,Oper.semAt_eq _ _ _ hd]
  simp_all [stepG.apply])
theorem OV{i:Nat}{rest:List Nat}{o:Oper}{cs:List Frame}{d:Deferred}{w':World}(ho:all[i]?=some o)(hw:Region.wanted o (yielded all tmps)=true)(hb:b.roundOf=none)
  (h:(execOp (Act.eval ⟨tmps,ds⟩) o).run P w=.ok (.defer d) w') :
  step P (lone (b.atR ⟨tmps,ds⟩ (.inRegion all (i::rest)::k')) cs w)=.next (lone ((b.atR ⟨tmps,d::ds⟩ (.inRegion all (i::rest)::k')).finish undef) cs w'):=
 step_lone_go (by
  rw[stepGR_op (a:=⟨tmps,ds⟩) ho hw,hb,Oper.semAt_none]
  simp_all [stepG.apply,Frame.atR])
theorem OR{i:Nat}{rest:List Nat}{o:Oper}{cs:List Frame}{w':World}(ho:all[i]?=some o)(hw:Region.wanted o (yielded all tmps)=true)(hd:∀c,o.op≠.defer c)(hb:b.roundOf=none)
  (h:(execOp (Act.eval ⟨tmps,ds⟩) o).run P w=.ok .recover w') :
  step P (lone (b.atR ⟨tmps,ds⟩ (.inRegion all (i::rest)::k')) cs w)=.next (match tryRecover (b.atR ⟨tmps,ds⟩ (.inRegion all (i::rest)::k')) cs with
   | some (v,cs)=>lone ((b.atR ⟨tmps,ds⟩ (.inRegion all (i::rest)::k')).finish v) cs w'
   | none=>lone ((b.atR ⟨tmps,ds⟩ (.inRegion all (i::rest)::k')).finish .nilIface) cs w'):=by
 have e:(stepG P true { frame:=b.atR ⟨tmps,ds⟩ (.inRegion all (i::rest)::k'),callers:=cs,status:=.running,dying:=none } w).bare=match tryRecover (b.atR ⟨tmps,ds⟩ (.inRegion all (i::rest)::k')) cs with
   | some (v,cs)=>.go { frame:=(b.atR ⟨tmps,ds⟩ (.inRegion all (i::rest)::k')).finish v,callers:=cs,status:=.running,dying:=none } w'
   | none=>.go { frame:=(b.atR ⟨tmps,ds⟩ (.inRegion all (i::rest)::k')).finish .nilIface,callers:=cs,status:=.running,dying:=none } w':=by
  rw[stepGR_op (a:=⟨tmps,ds⟩) ho hw,Oper.semAt_eq _ _ _ hd]
  have hb':(b.atR ⟨tmps,ds⟩ (.inRegion all (i::rest)::k')).roundOf=none:=hb
  simp only[stepG.apply,Sem.runT_eq,h,GStep.bare_after,hb',if_true]
  cases tryRecover (b.atR ⟨tmps,ds⟩ (.inRegion all (i::rest)::k')) cs with
  | none=>rfl
  | some p=>simp_all
 grind [step_lone_go]
theorem RO{fr:pB}{c:Frame}{l:Nat}{i:BI}{args:List zA}{args':Array Value}{m:Machine}(hw:lI C μ acs.length none fr c)(hcs:mF C μ acs cs)(hH:wB B N μ H w)(hi:μ l=some i)(hl:rB μ args args'.toList)
  (hs:∀f t as bd,(Instr.yield i.b args').run P w=.ok (.round i.b f t as bd) w->Steps P m (lone (Frame.round i.b f t as bd .normal) (c::(cs++base)) w)):pD P C B N μ base m w (Il l args C fr acs H):=by
 unfold Il
 cases hx:ob (eH H l) fun r=>ob (aW r.n r.params args r.tm) fun tm=>some (⟨⟨[.code r.assign,.beginRound,.code r.body],tm,⟨r.fn,r.n,[],.run,false,some l⟩⟩,fr::acs,H⟩:iP)with
 | none=>exact trivial
 | some s=>
  simp only[tA]at hx;obtain⟨r,hr,tm',htm,hx⟩:=hx
  cases hx;obtain⟨_,r',_,h3,h4⟩:=Jk hH hr hi
  obtain⟨h5,h6⟩:=PW r.params args r.tm tm' args'.toList r'.tmps htm hl h4.tm
  rw[<- h4.params]at h5 h6;have sz:args'.size=r'.params.size:=by omega
  have e:(r'.params.zip args').foldl (fun tmps x=>tmps.setIfInBounds x.1 x.2) r'.tmps=(r'.params.toList.zip args'.toList).foldl (fun tmps x=>tmps.setIfInBounds x.1 x.2) r'.tmps:=by
   rw[<- Array.foldl_toList,Array.toList_zip]
  rw[<- e]at h6;refine⟨μ,_,c::cs,w,hs r'.fn ((r'.params.zip args').foldl (fun tmps x=>tmps.setIfInBounds x.1 x.2) r'.tmps) r'.assign r'.body ?_,fun _ _ h=>h,Below.refl N w,hH,?_,.cons hw hcs⟩
  ·simp_all [Instr.yield,Ie]
  ·refine⟨⟨h4.fn,h6.1,.nil,trivial,rfl,⟨i,hi,rfl⟩⟩,?_⟩
   show wM C μ (acs.length+1) r.n _ _ _ [.code r'.assign,.beginRound,.code r'.body] _
   rw[h4.assign,h4.body];exact .plain (.cons (.code _) (.cons .beginRound (.cons (.code _) .nil))) h6
theorem LU(hS:vJ P C B N I)(hH:wB B N μ H w)(hcs:mF C μ acs cs){fr:pB}{i:Nat}{rest:List Nat}{o:Oper}{r:iI}
  (hfr:lI C μ acs.length none fr (b.atR ⟨tmps,ds⟩ (.inRegion all (i::rest)::k'))) (ho:all[i]?=some o) (hw:Region.wanted o (yielded all tmps)=true)
  (hdef:(∃c,o.op=.defer c)->r=.fail\/∃d,r=.defer d) (h:fM P C B N μ H w (Act.eval ⟨tmps,ds⟩) o r) :
  pD P C B N μ base (lone (b.atR ⟨tmps,ds⟩ (.inRegion all (i::rest)::k')) (cs++base) w) w (Gb r C fr acs H):=by
 have hd:(∀d,r≠.defer d)->r≠.fail->∀c,o.op≠.defer c:=by
  intro h1 h2 c e;simp_all
 cases r with
 | fail=>exact trivial
 | val v H'=>
  have hd:=hd (fun _ h=>by cases h) (fun h=>by cases h)
  rcases h with h | ⟨f,args',h1,h2⟩
  ·obtain⟨v',w',μ',s,hm,hH',hb,hv⟩:=Rn (b:=b) (k':=k') (rest:=rest) (cs:=cs++base) ho hw hd h
   refine Vd (H:=H) hfr hcs hm hH' hb hv ?_
   rw[Frame.finish_atR,ho,yai,Ei];exact .one s
  ·obtain⟨v',w',s,μ',hm,hH',hb,hv⟩:=KZ (b:=b) (k':=k') (rest:=rest) (cs:=cs++base) (R:=fun v' w'=>∃ μ',μ.le μ'/\wB B N μ' H' w'/\Below N w w'/\uA μ' v v') ho hw hd h1 (h2.mono fun e w' hh=>by simp_all)
   refine Vd (H:=H) hfr hcs hm hH' hb hv ?_
   grind [Frame.finish_atR,Ei]
 | enter f args=>
  have hd:=hd (fun _ h=>by cases h) (fun h=>by cases h)
  exact RS hS.fns hfr hcs hH fun fn h1 h2=>by
   obtain⟨args',h3,h4⟩:=h fn h1 h2
   exact⟨args',h4,.one (BN ho hw hd h3)⟩
 | round l args=>
  have hd:=hd (fun _ h=>by cases h) (fun h=>by cases h)
  obtain⟨i0,args',hi,hl,hrun⟩:=h
  exact RO hfr hcs hH hi hl fun f t as bd hy=>.one (OQ ho hw hd (by simp_all))
 | defer d=>
  obtain⟨_,d',h1,h2⟩:=h
  show pD P C B N μ base _ w (Ve d C fr acs H)
  unfold Ve
  cases hr:fr.R.roundOf with
  | some l=>exact trivial
  | none=>
   have hb:b.roundOf=none:=by
    have:=hfr.rest.round
    rw[hr]at this;change Ba μ none b.roundOf at this
    cases hb:b.roundOf with
    | none=>rfl
    | some l=>rw[hb]at this;exact this.elim
   simp only[]
   cases hf:iG fr rD with
   | none=>exact trivial
   | some g=>
    have:=Cs (cur:=some H) hfr hf Lz
    refine⟨μ,_,cs,w,.one (OV ho hw hb h1),fun _ _ h=>h,Below.refl N w,hH,?_,hcs⟩
    rw[Frame.finish_atR]at this ⊢
    rw[Ei]at this ⊢
    have e:∀x,(Act.put ⟨tmps,d'::ds⟩ x undef).tmps=(Act.put ⟨tmps,ds⟩ x undef).tmps:=fun x=>by cases x<;>rfl
    rw[e];exact⟨⟨this.rest.fn,this.rest.size,.cons h2 this.rest.defers,this.rest.mode,this.rest.kind,this.rest.round⟩,this.body⟩
 | panic v=>
  have hd:=hd (fun _ h=>by cases h) (fun h=>by cases h)
  obtain⟨v',h1,h2⟩:=h
  exact RQ hfr hcs hH h2 (.one (OS ho hw hd h1))
 | recover=>
  have hd:=hd (fun _ h=>by cases h) (fun h=>by cases h)
  show pD P C B N μ base _ w (Im C fr acs H)
  unfold Im
  cases hr:fr.R.roundOf with
  | some l=>exact trivial
  | none=>
   have hb:b.roundOf=none:=by
    have:=hfr.rest.round
    rw[hr]at this;change Ba μ none b.roundOf at this
    cases hb:b.roundOf with
    | none=>rfl
    | some l=>rw[hb]at this;exact this.elim
   cases hk:fr.R.deferred with
   | false=>exact trivial
   | true=>
    have hkind:b.kind=.deferred:=by have:=hfr.rest.kind;rw[hk]at this;exact this
    cases hcs with
    | nil=>exact trivial
    | @cons c b1 acs1 cs1 hc hcs1=>
     have st:=OR (P:=P) (b:=b) (k':=k') (rest:=rest) (cs:=b1::(cs1++base)) ho hw hd hb h
     have hm:=hc.rest.mode
     have tr:∀todo,tryRecover (b.atR ⟨tmps,ds⟩ todo) (b1::(cs1++base))=match b1.mode with
       | .panicking ({ v,recovered:=false,goexit:=false }::older)=>some (v,{ b1 with mode:=.panicking ({ v,recovered:=true }::older) }::(cs1++base))
       | _=>none:=by
      intro todo;obtain⟨bfn,btmps,btodo,bdefers,bmode,bkind,bround⟩:=b
      simp only at hkind
      subst hkind;rfl
     rw[tr]at st;simp only[]
     cases hcm:c.R.mode with
     | run=>
      rw[hcm]at hm
      cases hbm:b1.mode with
      | run=>
       rw[hbm]at st;simp only[]
       cases hf:iG fr .niliface with
       | none=>exact trivial
       | some g=>exact⟨μ,_,b1::cs1,w,.one st,fun _ _ h=>h,Below.refl N w,hH,Cs hfr hf (by rw[uA]),.cons hc hcs1⟩
      | _=>rw[hbm]at hm;exact hm.elim
     | returning=>
      rw[hcm]at hm
      cases hbm:b1.mode with
      | returning=>
       rw[hbm]at st;simp only[]
       cases hf:iG fr .niliface with
       | none=>exact trivial
       | some g=>exact⟨μ,_,b1::cs1,w,.one st,fun _ _ h=>h,Below.refl N w,hH,Cs hfr hf (by rw[uA]),.cons hc hcs1⟩
      | _=>rw[hbm]at hm;exact hm.elim
     | panicking ch=>
      rw[hcm]at hm
      cases hbm:b1.mode with
      | run=>rw[hbm]at hm;exact hm.elim
      | returning=>rw[hbm]at hm;exact hm.elim
      | panicking ch'=>
       rw[hbm]at hm st
       cases hm with
       | nil=>exact trivial
       | @cons p e older older' hp hold=>
        obtain⟨pv,pr⟩:=p
        cases pr with
        | true=>exact trivial
        | false=>
         obtain⟨ev',er,eg⟩:=e
         obtain⟨q1,q2,q3⟩:=hp
         simp only at q1 q2 q3
         subst q2 q3
         simp only[]
         cases hf:iG fr pv with
         | none=>exact trivial
         | some g=>
          have bH:=Cs (cur:=some H) hfr hf q1
          refine⟨μ,_,{ b1 with mode:=.panicking ({ v:=ev',recovered:=true }::older') }::cs1,w,.one st,fun _ _ h=>h,Below.refl N w,hH,bH,.cons ?_ hcs1⟩
          refine⟨⟨hc.rest.fn,hc.rest.size,hc.rest.defers,.cons ⟨q1,rfl,rfl⟩ hold,hc.rest.kind,hc.rest.round⟩,?_⟩
          have:=hc.body
          rw[hcm]at this;exact this
end
end Go.Am
namespace Go.Am
open Go Go.RowKit
section
variable {P:Program}{C:rA}{B N:Nat}{μ:Mu}{H H' Hs:xA}{w:World}
def RE.on(C:rA)(e:RE)(x:vA):Option vA:=
 match e with
 | .st b off l=>yB (!Nat.blt b C.base) (ob x.asCells fun c=>yB (Nat.ble (off+bA l) c.2.1&&cB zA.one l) (some (.cells (c.1.setMany l off) c.2.1 c.2.2)))
 | .up b k v=>yB (!Nat.blt b C.base) (ob x.asMap fun m=>some (.map (qD m [(k,v)])))
theorem Ky{e:RE}:yZ C H e=some H' ↔ ∃x y,H.t.get e.blk=some x/\e.on C x=some y/\H'=setBlk H e.blk y:=by
 cases e with
 | st b off l=>
  grind [yZ,wI,bD,RE.on,RE.blk,tA,xB]
 | up b k v=>
  grind [yZ,lJ,RE.on,RE.blk,tA,xB]
theorem Cq{b a:Nat}{x:vA}:(setBlk H b x).t.get a=if a=b then some x else H.t.get a:=Tr.get_set _ _ _ _
def eQ(a b:RE):Prop:=a.blk≠b.blk\/∃c k v k' v',a=.up c k v/\b=.up c k' v'/\nH k k'=some false
theorem eQ.symm{a b:RE}(h:eQ a b):eQ b a:=by
 rcases h with h | ⟨c,k,v,k',v',rfl,rfl,h⟩
 ·exact .inl fun e=>h e.symm
 ·exact .inr ⟨c,k',v',k,v,rfl,rfl,Ju h⟩
theorem ZK{a b:RE}(h:Yv a b=true):eQ a b:=by
 unfold Yv at h;rw[dC]at h;split at h
 ·rename_i e
  cases a with
  | st=>cases h
  | up c k v=>
   cases b with
   | st=>cases h
   | up c' k' v'=>
    have e:c=c':=sC.1 e
    subst e;simp only[EL]at h;split at h
    ·rename_i r hr
     cases r with
     | true=>cases h
     | false=>exact .inr ⟨c,k,v,k',v',rfl,rfl,hr⟩
    ·cases h
 ·rename_i e
  exact .inl fun k=>e (sC.2 k)
theorem LP:∀ {l:List RE},Qw l=true->l.Pairwise eQ
 | [],_=>.nil
 | a::l,h=>by
  unfold Qw at h;rw[ybb,dH,ycb]at h;exact .cons (fun b hb=>ZK (h.1 b hb)) (LP h.2)
def sI (b:Nat):List RE->List (zA × zA)
 | []=>[]
 | .st _ _ _::l=>sI b l
 | .up c k v::l=>if c=b then(k,v)::sI b l else sI b l
theorem Pz{b:Nat}:∀ {l m:List RE},sI b (l++m)=sI b l++sI b m
 | [],_=>rfl
 | .st _ _ _::l,m=>Pz (l:=l)
 | .up c k v::l,m=>by
  rw[List.cons_append,sI,sI,Pz (l:=l)]
  split<;>simp
theorem Fk{b:Nat}{p:zA × zA}:∀ {l:List RE},p∈sI b l->.up b p.1 p.2∈l
 | .st _ _ _::l,h=>.tail _ (Fk (l:=l) h)
 | .up c k v::l,h=>by
  rw[sI]at h;split at h
  ·rename_i e
   subst e;rcases ybs.1 h with rfl | h
   ·grind
   ·exact .tail _ (Fk h)
  ·exact .tail _ (Fk h)
theorem WO{b:Nat}{l:List RE}(h:∀e∈l,e.blk≠b):sI b l=[]:=by
 cases hx:sI b l with
 | nil=>rfl
 | cons p r=>
  have:p∈sI b l:=by simp_all
  exact absurd rfl (h _ (Fk this))
theorem WN{b:Nat}{l m:List RE}(p:l.Perm m):(sI b l).Perm (sI b m):=by
 induction p with
 | nil=>exact .refl _
 | cons x _ ih=>
  cases x with
  | st=>exact ih
  | up c k v=>
   rw[sI,sI];split
   all_goals simp_all
 | swap x y l=>
  cases x with
  | st=>cases y<;>exact .refl _
  | up c k v=>
   cases y with
   | st=>exact .refl _
   | up c' k' v'=>
    simp only[sI];split<;>split<;>first | exact .refl _ | exact .swap _ _ _
 | trans _ _ h1 h2=>exact h1.trans h2
theorem zdo{b:Nat}{l:List RE}(h:l.Pairwise eQ):DK (sI b l):=by
 unfold DK;induction l with
 | nil=>exact .nil
 | cons x l ih=>
  rw[List.pairwise_cons]at h
  cases x with
  | st=>exact ih h.2
  | up c k v=>
   rw[sI];split
   ·rename_i e
    subst e;refine .cons (fun p hp=>?_) (ih h.2)
    rcases h.1 _ (Fk hp)with h1 | ⟨_,_,_,_,_,e1,e2,h1⟩
    ·exact absurd rfl h1
    simp_all
   simp_all
structure xM (C:rA) (H:xA) (s:List RE) (Hs:xA):Prop where
 next:Hs.next=H.next
 st:∀b off l,RE.st b off l∈s->∃x y,H.t.get b=some x/\(RE.st b off l).on C x=some y/\Hs.t.get b=some y
 up:∀b k v,RE.up b k v∈s->Hs.t.get b=some (.map (sI b s))
 no:∀a,(∀e∈s,e.blk≠a)->Hs.t.get a=H.t.get a
theorem xM.nil:xM C H [] H:=⟨rfl,fun _ _ _ h=>(by cases h),fun _ _ _ h=>(by cases h),fun _ _=>rfl⟩
def Ld(C:rA)(H:xA)(e:RE):Prop:=
 match e with
 | .st _ _ _=>∃H',yZ C H e=some H'
 | .up b _ _=>Nat.blt b C.base=false/\H.t.get b=some (.map [])
theorem RF{e:RE}(h:Eh C H e=true):Ld C H e:=by
 cases e with
 | st b off l=>
  change (!jD (wI C H b off l))=true at h
  cases hs:wI C H b off l with
  | none=>rw[hs]at h;cases h
  | some H'=>exact⟨H',hs⟩
 | up b k v=>
  unfold Eh at h;simp only[ybb,ycp]at h;refine⟨h.1,?_⟩
  grind [Qp]
theorem xM.step{s:List RE}{e:RE}(h:xM C H s Hs)(hr:Ld C H e)(ha:∀x∈s,eQ x e):∃H',yZ C Hs e=some H'/\xM C H (s++[e]) H'/\(∀b k v,e=.up b k v->∃m,Hs.t.get b=some (.map m)/\Nat.blt b C.base=false/\(∀p∈m,nH k p.1=some false)/\H'=setBlk Hs b (.map (m++[(k,v)]))):=by
 cases e with
 | st b off l=>
  have hne:∀x∈s,x.blk≠b:=fun x hx=>by
   rcases ha x hx with h1 | ⟨_,_,_,_,_,_,h1,_⟩
   ·exact h1
   grind
  obtain⟨H1,h1⟩:=hr
  obtain⟨x,y,hx,hy,rfl⟩:=Ky.1 h1
  have hx:H.t.get b=some x:=hx
  have hg:=h.no b hne
  refine⟨setBlk Hs b y,Ky.2 ⟨x,y,by show Hs.t.get b=_;simp_all,hy,rfl⟩,⟨h.next,fun b' off' l' hm=>?_,fun b' k v hm=>?_,fun a ha'=>?_⟩,fun _ _ _ e=>by cases e⟩
  ·rcases yaf.1 hm with hm | hm
   ·obtain⟨u,v,g1,g2,g3⟩:=h.st b' off' l' hm
    refine⟨u,v,g1,g2,?_⟩
    rw[Cq,yaa (show ¬ b'=b from hne _ hm)]
    exact g3
   grind [Cq]
  ·rcases yaf.1 hm with hm | hm
   ·rw[Cq,yaa (show ¬ b'=b from hne _ hm),h.up b' k v hm,Pz]
    simp[sI]
   grind
  ·rw[Cq,yaa (fun e=>ha' (.st b off l) (by simp) e.symm)]
   exact h.no a fun e he=>ha' e (by simp[he])
 | up b k v=>
  obtain⟨hb,hm⟩:=hr
  have hst:∀b' off l,RE.st b' off l∈s->b'≠b:=fun b' off l hx=>by
   rcases ha _ hx with h1 | ⟨_,_,_,_,_,h1,_,_⟩
   ·exact h1
   grind
  have hg:Hs.t.get b=some (.map (sI b s)):=by
   by_cases hex:∃e∈s,e.blk=b
   ·obtain⟨e,he,hb'⟩:=hex
    cases e with
    | st b' off l=>exact absurd hb' (hst _ _ _ he)
    | up b' k' v'=>
     have hb':b'=b:=hb'
     subst hb'
     exact h.up _ _ _ he
   ·have hn:∀e∈s,e.blk≠b:=fun e he hb'=>hex ⟨e,he,hb'⟩
    rw[h.no b hn,hm,WO hn]
  refine⟨setBlk Hs b (.map (sI b s++[(k,v)])),Ky.2 ⟨_,_,hg,?_,rfl⟩,⟨h.next,fun b' off' l' hm'=>?_,fun b' k' v' hm'=>?_,fun a ha'=>?_⟩,fun b' k' v' e=>?_⟩
  ·simp_all [RE.on,yB,vA.asMap,xG]
  ·rcases yaf.1 hm' with hm' | hm'
   ·obtain⟨u,x,g1,g2,g3⟩:=h.st b' off' l' hm'
    grind [Cq]
   simp_all
  ·rw[Cq,Pz]
   by_cases e:b'=b
   ·grind [sI]
   ·rw[yaa e]
    have:sI b' [RE.up b k v]=[]:=by grind [sI]
    rw[this,ycd];rcases yaf.1 hm' with hm' | hm'
    ·exact h.up b' k' v' hm'
    simp_all
  ·rw[Cq,yaa (fun e=>ha' (.up b k v) (by simp) e.symm)]
   exact h.no a fun e he=>ha' e (by simp[he])
  ·cases e
   refine⟨_,hg,hb,fun p hp=>?_,rfl⟩
   rcases ha _ (Fk hp)with h1 | ⟨_,_,_,_,_,e1,e2,h1⟩
   ·exact absurd rfl h1
   grind [Ju]
theorem xM.list{s l:List RE}(h:xM C H s Hs)(hr:∀e∈l,Ld C H e)(ha:(s++l).Pairwise eQ):∀ {H'},De C l Hs=some H'->xM C H (s++l) H':=by
 induction l generalizing s Hs with
 | nil=>intro H' hl;cases hl;simp_all
 | cons e l ih=>
  intro H' hl;unfold De at hl;rw[tA]at hl;obtain⟨H1,h1,hl⟩:=hl
  have hap:∀x∈s,eQ x e:=fun x hx=>by
   grind
  obtain⟨H2,g1,g2,_⟩:=h.step (hr e (.head _)) hap
  rw[h1]at g1;cases g1
  have:=ih g2 (fun x hx=>hr x (.tail _ hx)) (by simp_all) hl
  rwa [ybz]at this
structure HEq' (μ:Mu) (H H':xA):Prop where
 next:H'.next=H.next
 get:∀a,H'.t.get a=H.t.get a\/((∃i,μ a=some i)/\∃m m',H.t.get a=some (.map m)/\H'.t.get a=some (.map m')/\m.Perm m'/\DK m)
theorem xM.perm{s s':List RE}{H1 H2:xA}(h:xM C H s H1)(h':xM C H s' H2)(p:s.Perm s')(ha:s.Pairwise eQ)(hm:∀e∈s,∃i,μ e.blk=some i):HEq' μ H1 H2:=by
 refine⟨h'.next.trans h.next.symm,fun a=>?_⟩
 by_cases hex:∃e∈s,e.blk=a
 ·obtain⟨e,he,rfl⟩:=hex
  cases e with
  | st b off l=>
   obtain⟨x,y,g1,g2,g3⟩:=h.st b off l he
   obtain⟨x',y',g1',g2',g3'⟩:=h'.st b off l (p.mem_iff.1 he)
   rw[g1]at g1';cases g1'
   rw[g2]at g2';cases g2'
   exact .inl (g3'.trans g3.symm)
  | up b k v=>exact .inr ⟨hm _ he,_,_,h.up b k v he,h'.up b k v (p.mem_iff.1 he),WN p,zdo ha⟩
 ·left
  rw[h.no a fun e he hb=>hex ⟨e,he,hb⟩,h'.no a fun e he hb=>hex ⟨e,p.mem_iff.2 he,hb⟩]
theorem wB.congr'(hH:wB B N μ H w)(h:HEq' μ H H'):wB B N μ H' w:=by
 have hle:∀a y,H'.t.get a=some y->∃x,H.t.get a=some x/\(y=x\/∃m m',x=.map m/\y=.map m'/\m.Perm m'/\DK m):=by
  intro a y hy;rcases h.get a with e | ⟨_,m,m',h1,h2,h3⟩
  all_goals grind
 refine⟨hH.base,hH.glob,fun a x i ha hx hi=>?_,by rw[h.next];exact hH.next,hH.size,fun a ha=>?_,fun a x i hx hi=>?_,hH.own,fun a b x y i j hx hy hi hj ha hb e=>?_,fun a x t hp=>?_⟩
 ·obtain⟨y,hy,hxy⟩:=hle a x hx
  obtain⟨g1,g2,g3⟩:=hH.low a y i ha hy hi
  rcases hxy with rfl | ⟨m,m',rfl,rfl,_⟩
  ·simp_all
  ·exact⟨g1,rfl,rfl⟩
 ·rw[h.next]at ha
  obtain⟨g1,g2⟩:=hH.fresh a ha
  refine⟨g1,?_⟩
  rcases h.get a with e | ⟨_,m,m',h1,_⟩
  all_goals simp_all
 ·obtain⟨y,hy,hxy⟩:=hle a x hx
  obtain⟨o,g1,g2⟩:=hH.blk a y i hy hi
  refine⟨o,g1,?_⟩
  rcases hxy with rfl | ⟨m,m',rfl,rfl,hp,hd⟩
  ·exact g2
  ·obtain⟨es,clock,l',h1,h2,h3⟩:=g2
   refine⟨es,clock,l',h1,?_,h3⟩
   rcases h2 with rfl | ⟨h2,_⟩
   ·exact .inr ⟨hp.symm,hd.perm hp⟩
   ·exact .inr ⟨hp.symm.trans h2,hd.perm hp⟩
 ·obtain⟨x',hx',_⟩:=hle a x hx
  obtain⟨y',hy',_⟩:=hle b y hy
  exact hH.inj a b x' y' i j hx' hy' hi hj ha hb e
 ·obtain⟨g1,g2,g3⟩:=hH.pnd a x t hp
  refine⟨g1,?_,g3⟩
  rcases h.get a with e | ⟨⟨i,hi⟩,_⟩
  all_goals simp_all
theorem WS(hT:zF P C)(hbase:B<=C.base)(hH:wB B N μ Hs w){e:kC}{ρ:Operand->Value}(hE:uF μ e ρ){o:Oper}{ef:mL}{re:RE}(h1:nY o.op e=some ef)(h2:cT C ef=some re)
  (h3:yZ C Hs re=some H') (h4:∀b k v,re=.up b k v->∃m,Hs.t.get b=some (.map m)/\Nat.blt b C.base=false/\(∀p∈m,nH k p.1=some false)/\H'=setBlk Hs b (.map (m++[(k,v)]))) :
  lP P B N μ w ρ o rD H'/\∃i,μ re.blk=some i:=by
 obtain⟨dst,op,type,pos,after,guard⟩:=o
 have ups:∀ {t:Nat} {m k x:Operand},(ob (ev m e) fun m=>ob (ev k e) fun k=>ob (ev x e) fun v=>some (mL.upd t m k v))=some ef->Ah t m k x C e Hs=.val rD H'/\∃i,μ re.blk=some i:=by
  intro t m k x h1;simp only[tA]at h1;obtain⟨mv,hm,kv,hk,xv,hx,h1⟩:=h1
  cases h1;simp only[cT,tA,xB,ybb]at h2;obtain⟨ty,hty,ke,hke,kty,hkty,⟨hkd,hfit⟩,b,hb,h2⟩:=h2
  cases h2;obtain⟨l,hl,hbb,hfr,rfl⟩:=h4 b kv xv rfl
  have hbm:lJ Hs b=some l:=by unfold lJ;rw[hl];rfl
  constructor
  ·unfold Ah
   simp only[hty,hke,hkty,hkd,hm,hb,hbb,hbm,hk,hfit,hx,qA,yB,cond_true,ycl,Uk hfr];rfl
  ·have:=hE _ _ hm
   rw[Qv]at hb;subst hb;rw[uA]at this;obtain⟨i,hi,_⟩:=this
   exact⟨i,hi⟩
 cases op<;>try (cases h1;done)
 case insert t m k x=>
  obtain⟨g1,g2⟩:=ups h1
  exact⟨(Po (P:=P) hT hbase hH hE g1).2,g2⟩
 case mapUpdate t m k x=>
  obtain⟨g1,g2⟩:=ups h1
  grind [Po]
 case store t a x=>
  simp only[nY,tA]at h1;obtain⟨av,ha,xv,hx,h1⟩:=h1
  cases h1;simp only[cT,tA,xB]at h2;obtain⟨ty,hty,p,hp,hsz,h2⟩:=h2
  cases h2;constructor
  ·refine IY (P:=P) hT hbase hH hE ?_
   unfold Kb;have h3':wI C Hs p.1 p.2 xv.cells=some H':=h3
   simp only[hty,ha,hp,hx,qA,hsz,yB,cond_true,h3'];rfl
  ·have:=hE _ _ ha
   rw[Dd]at hp;subst hp;rw[uA]at this;obtain⟨i,hi,_⟩:=this
   exact⟨i,hi⟩
end
end Go.Am
namespace Go.Am
open Go Go.RowKit
section
variable {P:Program}{C:rA}{B N:Nat}{μ:Mu}{H H' H1:xA}{w:World}{all:Array Oper}{olds:List (Nat × List Nat)}{anc:Tr Nat}{n:Nat}{old tm tm':Tm}{D D' D1:Nat}{S:Nat->Bool}{order:List Nat}{tmps:Array Value}{ds:List Deferred}{dp:Nat}
variable {b:Frame}{k:List Item}{cs:List Frame}
theorem rF.congrD(h:∀k,tb D k=tb D' k)(R:rF μ all olds anc n old tm D S order tmps):rF μ all olds anc n old tm D' S order tmps:=by
 have e:tb D=tb D':=funext h
 exact⟨R.reg,R.sched,fun i hi=>by rw[<- h];exact R.sub i hi,R.closed,by rw[<- e];exact R.dclosed,R.size,R.now,R.past,fun d hd hw=>R.keep d hd fun i o h1 h2=>by simp_all,R.big⟩
theorem gG.congrD(h:∀k,tb D k=tb D' k)(p:gG C μ dp H all olds n old tm D S):gG C μ dp H all olds n old tm D' S:=fun i hi=>p i (by simp_all)
theorem DV{α:Type}{R:α->α->Prop}(hs:∀a b,R a b->R b a):∀ {l:List α},l.Pairwise R->∀a∈l,∀b∈l,a≠b->R a b
 | [],_,a,ha,_,_,_=>by cases ha
 | x::l,h,a,ha,b,hb,hne=>by
  rw[List.pairwise_cons]at h;rcases ybs.1 ha with rfl | ha'
  ·grind
  ·rcases ybs.1 hb with rfl | hb'
   ·simp_all
   ·exact DV hs h.2 a ha' b hb' hne
theorem zca{l m:List Nat}(h1:l.Nodup)(h2:m.Nodup)(h:∀i,i∈l ↔ i∈m):l.Perm m:=(List.perm_ext_iff_of_nodup h1 h2).2 h
theorem UM{o:Oper}(hl:Jx o.op=true)(ho:Pc C o=true)(e:kC)(H2:xA):(vF o.op).f C e H=(vF o.op).f C e H2:=by
 obtain⟨dst,op,type,pos,after,guard⟩:=o
 cases op<;>try (cases hl;done)
 rename_i c;simp only[Jx]at hl;split at hl
 case h_2=>cases hl
 rename_i hc;simp only[Pc,hc]at ho;simp only[vF,Wp,hc,mR,Pd,vP]
 cases ht:fC c.argTypes.toList 0 with
 | none=>rfl
 | some t=>
  rw[ht,qA]at ho;simp only[qA]
  cases hx:fC c.args.toList 0 with
  | none=>rfl
  | some x=>
   simp only[qA]
   cases hy:C.tys.get t with
   | none=>rfl
   | some ty=>
    rw[hy]at ho;simp only[qA]
    cases hv:ev x e with
    | none=>rfl
    | some v=>
     simp only[qA];have h6:Nat.beq ty.desc.tag 6=false:=by simp_all
     unfold mS;split
     ·rfl
     ·split
      ·rfl
      ·split
       ·rfl
       ·split
        ·rw[h6];rfl
        ·rfl
theorem DS{G:List Nat}(hG:Za all anc D G D1)(hlen:iV C all=true){Ds:Nat}{seq:List Nat}(hDs:∀k,tb Ds k=(tb D k||decide (k∈seq)))(hseq:∀i∈seq,S i=true){g:Nat}(hg:g∈G)(hup:∀k,tb (tI anc g) k=true->S k=true)
  (hp:gG C μ dp H all olds n old tm Ds S) (H2:xA):gG C μ dp H2 all olds n old tm Ds S:=by
 intro j hj hSj;rcases hp j hj hSj with⟨u,wu,vu,pu⟩ | h
 ·refine .inl ⟨u,wu,vu,?_⟩
  rw[hDs]at hj;simp only[ycq,decide_eq_true_eq]at hj;rcases hj with hj | hj
  ·rcases hG.again j u pu.op hj with h | h | h | h
   ·exact pu.pure h H2
   ·exact pu.float h H2
   ·refine⟨pu.op,pu.want,?_,pu.put⟩
    have hlo:Pc C u=true:=by
     unfold iV at hlen;rw[dH,ycb]at hlen;exact hlen u (ycv (by simpa using pu.op))
    have:=pu.val
    grind [UM]
   simp_all
  simp_all
 simp_all
theorem zac(hT:zF P C)(hbase:B<=C.base){G:List Nat}(hG:Za all anc D G D1)(hlen:iV C all=true){ef:Nat->mL}{re:Nat->RE}(hef:∀i∈G,xW all old olds tm i=some (ef i)/\cT C (ef i)=some (re i))
  (hap:(G.map re).Pairwise eQ) (hrd:∀i∈G,Ld C H (re i)):∀(order:List Nat) (S:Nat->Bool) (tmps:Array Value) (μ:Mu) (w:World) (seq:List Nat) (Hs:xA) (Ds:Nat),
  seq.Nodup->(∀i∈seq,i∈G/\S i=true)->xM C H (seq.map re) Hs->(∀i∈seq,∃j,μ (re i).blk=some j)->(∀k,tb Ds k=(tb D k||decide (k∈seq)))->wB B N μ Hs w →
  rF μ all olds anc n old tm Ds S order tmps->gG C μ dp Hs all olds n old tm Ds S →
  ∃(S':Nat->Bool) (order':List Nat) (tmps':Array Value) (μ':Mu) (w':World) (seq':List Nat) (Hs':xA),Steps P (lone (b.atR ⟨tmps,ds⟩ (.inRegion all order::k)) cs w) (lone (b.atR ⟨tmps',ds⟩ (.inRegion all order'::k)) cs w')/\Below N w w'/\μ.lw μ'/\(∀d,d≠dp->μ.ln d μ') ∧
   seq'.Perm G/\xM C H (seq'.map re) Hs'/\(∀i∈seq',∃j,μ' (re i).blk=some j)/\wB B N μ' Hs' w'/\rF μ' all olds anc n old tm D1 S' order' tmps'/\gG C μ' dp Hs' all olds n old tm D1 S'/\(∀i∈seq',S' i=true):=by
 have hapG:∀i∈G,∀j∈G,i≠j->eQ (re i) (re j):=by
  rw[List.pairwise_map]at hap;exact DV (fun a b h=>h.symm) hap
 have bH:∀(order:List Nat) (S:Nat->Bool) (tmps:Array Value) (μ:Mu) (w:World) (seq:List Nat) (Hs:xA) (Ds:Nat),
  seq.Nodup->(∀i∈seq,i∈G/\S i=true)->xM C H (seq.map re) Hs->(∀i∈seq,∃j,μ (re i).blk=some j)->(∀k,tb Ds k=(tb D k||decide (k∈seq)))->wB B N μ Hs w →
  rF μ all olds anc n old tm Ds S order tmps->gG C μ dp Hs all olds n old tm Ds S->(∀i∈G,i∈seq) →
  ∃(S':Nat->Bool) (order':List Nat) (tmps':Array Value) (μ':Mu) (w':World) (seq':List Nat) (Hs':xA),Steps P (lone (b.atR ⟨tmps,ds⟩ (.inRegion all order::k)) cs w) (lone (b.atR ⟨tmps',ds⟩ (.inRegion all order'::k)) cs w')/\Below N w w'/\μ.lw μ'/\(∀d,d≠dp->μ.ln d μ') ∧
   seq'.Perm G/\xM C H (seq'.map re) Hs'/\(∀i∈seq',∃j,μ' (re i).blk=some j)/\wB B N μ' Hs' w'/\rF μ' all olds anc n old tm D1 S' order' tmps'/\gG C μ' dp Hs' all olds n old tm D1 S'/\(∀i∈seq',S' i=true):=by
  intro order S tmps μ w seq Hs Ds h1 h2 h3 h4 h5 h6 h7 h8 h9;have hD:∀k,tb Ds k=tb D1 k:=fun k=>by
   rw[h5,hG.done];grind
  exact⟨S,order,tmps,μ,w,seq,Hs,.refl _ _,Below.refl _ _,fun _ _ h=>h,fun d _=>μ.ln_refl d,zca h1 hG.nodup fun i=>⟨fun h=>(h2 i h).1,h9 i⟩,h3,h4,h6,h7.congrD hD,h8.congrD hD,fun i hi=>(h2 i hi).2⟩
 intro order;induction order with
 | nil=>
  intro S tmps μ w seq Hs Ds h1 h2 h3 h4 h5 h6 h7 h8;refine bH _ S tmps μ w seq Hs Ds h1 h2 h3 h4 h5 h6 h7 h8 fun i hi=>?_
  obtain⟨o,ho,hi2,_⟩:=hG.op i hi
  have:=h7.sub _ (h7.sched i (ybe.1 ho).1)
  simp_all
 | cons i order ih=>
  intro S tmps μ w seq Hs Ds h1 h2 h3 h4 h5 h6 h7 h8;by_cases hall:∀i∈G,i∈seq
  ·grind
  cases hi:tb Ds i with
  | true=>
   obtain⟨o,ho,hS,hb,hs⟩:=h7.sched
   obtain⟨S',tmps',μ1,w1,s1,g1,r1,p1,up⟩:=DT (b:=b) (k:=k) (cs:=cs) (ds:=ds) hT h6 h7 h8 hi
   obtain⟨S2,order',tmps2,μ2,w2,seq2,Hs2,s2,b2,l2,d2,rest⟩:=ih S' tmps' μ1 w1 seq Hs Ds h1 (fun j hj=>⟨(h2 j hj).1,up j (h2 j hj).2⟩) h3 (fun j hj=>by obtain⟨x,hx⟩:=h4 j hj;exact⟨x,g1.le _ _ hx⟩) h5 g1.heap r1 p1
   exact⟨S2,order',tmps2,μ2,w2,seq2,Hs2,.head s1 s2,g1.below.trans b2,fun a x hx=>l2 a x (g1.le a x hx),fun d hd=>Mu.ln_trans (g1.pd d hd) (d2 d hd),rest⟩
  | false=>
   obtain⟨o,ho,hS,hb,hs⟩:=h7.sched
   have hiG:i∈G:=by
    cases hd1:tb D1 i with
    | false=>
     exfalso
     rcases hG.rest i o ho hd1 with h | h
     ·refine hall fun g hg=>?_
      have:=h7.sub g (h7.reg.up h7.closed ho hb (h g hg))
      obtain⟨_,_,hg2,_⟩:=hG.op g hg
      grind
     ·refine h fun j hj=>?_
      have:=h7.sub j (hb j hj)
      rw[h5]at this;rw[hG.done];grind
    | true=>
     rw[hG.done]at hd1;grind
   have hiseq:i∉seq:=fun h=>by
    grind
   obtain⟨o',ho',_,_,hdst⟩:=hG.op i hiG
   rw[ho]at ho';cases ho'
   obtain⟨e1,e2⟩:=hef i hiG
   unfold xW at e1;simp only[tA,xB,zG]at e1;obtain⟨o',ho',wn,hw,hwn,e1⟩:=e1
   have:o'=o:=by
    grind
   subst this;subst hwn;have hwn:=h7.wanted ho hb hw
   obtain⟨Hn,a1,a2,a3⟩:=h3.step (hrd i hiG) (fun x hx=>by
    grind)
   obtain⟨hv,j0,hj0⟩:=WS (P:=P) (o:=o') hT hbase h6 (h7.erel (ds:=ds) h6.glob ho hS hb) e1 e2 a1 a3
   have hdf:∀c,o'.op≠.defer c:=fun c e=>by rw[e]at e1;cases e1
   obtain⟨v',w',μ',s1,m1,m2,m3,m4⟩:=Rn (b:=b) (k':=k) (rest:=order) (cs:=cs) ho hwn hdf hv
   have hD2:∀k,tb (Nat.lor Ds (bY i)) k=(tb Ds k||k == i):=fun k=>by grind [Mh,Mi]
   have r1:=(h7.mono m1.f).did (D':=Nat.lor Ds (bY i)) (tm':=tm) ho hD2 (fun d hd=>by grind) (fun _ _=>rfl) m4 (ds:=ds)
   have p0:=DS hG hlen h5 (fun j hj=>(h2 j hj).2) hiG (fun k hk=>h7.reg.up h7.closed ho hb hk) h8 Hn
   have p1:gG C μ' dp Hn all olds n old tm (Nat.lor Ds (bY i)) (fun k=>S k||k == i):=by
    intro j hj hSj;rw[hD2]at hj;simp only[yal,ycq]at hj hSj;exact(gG.mono (m1.ln dp) p0) j (hj.resolve_right (by grind)) hSj.1
   obtain⟨S2,order',tmps2,μ2,w2,seq2,Hs2,s2,b2,l2,d2,rest⟩:=ih (fun k=>S k||k == i) (Act.put ⟨tmps,ds⟩ o'.dst v').tmps μ' w' (seq++[i]) Hn (Nat.lor Ds (bY i))
    (by grind)
    (fun j hj=>by
     grind)
    (by grind)
    (fun j hj=>by
     rcases yaf.1 hj with hj | hj
     ·obtain⟨x,hx⟩:=h4 j hj;exact⟨x,m1.f _ _ hx⟩
     ·simp at hj;subst hj;exact⟨j0,m1.f _ _ hj0⟩)
    (fun k=>by
     grind)
    m2 r1 p1
   exact⟨S2,order',tmps2,μ2,w2,seq2,Hs2,.head s1 s2,m3.trans b2,fun a x hx=>l2 a x (m1.f a x hx),fun d hd=>Mu.ln_trans (m1.ln d) (d2 d hd),rest⟩
end
end Go.Am
