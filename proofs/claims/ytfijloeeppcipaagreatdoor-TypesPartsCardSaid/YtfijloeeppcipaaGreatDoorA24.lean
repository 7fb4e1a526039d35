/- Data read from the world, typed: what DataW.trod met, in the abstract heap of the old memory. -/
import Derived.Carry
import Derived.ChangeArms
import Derived.HandedShaped
import Derived.JoinedOf
import Derived.LaidMore
import Derived.OpenShut
import Derived.ProofKit
import Derived.Stop.Joined
import Derived.Test.YtfijloeeppcipaaGreatDoorRows
import GoSem.ClaimJoined
import Derived.Test.YtfijloeeppcipaaGreatDoorA23
set_option linter.all false
noncomputable section
namespace Go.Am
open Go Go.RowKit
def pG(P:Program):Nat->TypeId->D->Prop
 | 0,_,_=>False
 | f+1,t,x=>match P.underlying t with
  | some .bool=>∃b,x=.bool b
  | some (.int k)=>∃n,x=.int k n/\(Lit.int k n).wf=true
  | some .string=>∃l:List Nat,x=.str l/\l.length<=reachBytes/\∀c∈l,c<256
  | some (.slice e)=>∃l:List D,x=.sl (P.cellsOf e) l/\l.length*P.bytesOf e<=reachBytes/\∀y∈l,pG P f e y
  | some (.struct fs)=>∃l:List D,x=.st l/\pC (fun fd y=>pG P f fd.type y) fs.toList l
  | _=>False
def zsf(P:Program):Nat->List Field->Nat->Bool
 | off,[],n=>off == n
 | off,f::fs,n=>f.offset == off&&zsf P (off+P.cellsOf f.type) fs n
structure Plain (P:Program) (S:TypeId->Prop):Prop where
 part:∀t,S t->match P.underlying t with
  | some .bool=>True
  | some (.int _)=>True
  | some .string=>True
  | some (.slice e)=>S e/\0<P.cellsOf e
  | some (.struct fs)=>(∀f∈fs.toList,S f.type)/\zsf P 0 fs.toList (P.cellsOf t)=true
  | _=>False
def av (N:Nat)(v:Value):zA:=(zub N v).getD .nilptr
def Has (N:Nat)(cs:List Value):Prop:=∀v∈cs,zub N v=some (av N v)
theorem zeg{α:Type}{Q:Nat->α->Prop}:∀(n:Nat),(∀i,i<n->∃p,Q i p)->∃l:List α,l.length=n/\∀i p,l[i]?=some p->Q i p:=by
 intro n;induction n with
 | zero=>intro _;exact⟨[],rfl,fun i p h=>by simp at h⟩
 | succ n ih=>
  intro h;obtain⟨l,hl,hq⟩:=ih fun i hi=>h i (by omega)
  obtain⟨p,hp⟩:=h n (by omega)
  refine⟨l++[p],by simp[hl],fun i q hq'=>?_⟩
  by_cases hi:i<n
  ·rw[ybp (by omega)]at hq';exact hq i q hq'
  ·rw[yaq (by omega)]at hq'
   have:i-l.length=0:=by
    cases hz:i-l.length with
    | zero=>rfl
    | succ m=>rw[hz]at hq';simp at hq'
   rw[this]at hq'
   simp at hq'
   subst hq'
   have:i=n:=by omega
   subst this;exact hp
section
variable {H:Type}{enc:TypeId × Value->H}{P:Program}{w:World}
theorem lZ{p:Nat->Bool}:∀ {ts:List TypeId} {ds:List (DataW H)},(DataW.weightsEach P ts ds).all p=true->∀ {i:Nat} {t:TypeId} {d:DataW H},ts[i]?=some t->ds[i]?=some d->(DataW.weights P t d).all p=true
 | [],_,_,i,_,_,h1,_=>by simp at h1
 | _::_,[],_,i,_,_,_,h2=>by simp at h2
 | t::ts,d::ds,h,i,u,e,h1,h2=>by
  rw[DataW.weightsEach,ycj,yac]at h
  cases i with
  | zero=>simp at h1 h2;subst h1 h2;exact h.1
  | succ i=>exact lZ h.2 (by simpa using h1) (by simpa using h2)
theorem kZ{p:Nat->Bool}{e:TypeId}:∀ {ds:List (DataW H)},(DataW.weightsAll P e ds).all p=true->∀ {i:Nat} {d:DataW H},ds[i]?=some d->(DataW.weights P e d).all p=true
 | [],_,i,_,h2=>by simp at h2
 | d::ds,h,i,x,h2=>by
  rw[DataW.weightsAll,ycj,yac]at h
  cases i with
  | zero=>simp at h2;subst h2;exact h.1
  | succ i=>exact kZ h.2 (by simpa using h2)
theorem zrl{a:Addr}{n:Nat}{cs:List Value}(h:w.cells? 0 a n=some cs):cs.length=n/\(0<n->a.spot=none/\∃c t fr,w.heap[a.block]?=some (.cells c t fr)/\∀j,j<n->c[a.off+j]?=cs[j]?):=by
 unfold World.cells? at h
 rw[if_pos (Nat.zero_le _)]at h
 have hl:=mapM_some_length h
 have hg:=mapM_some_get h
 simp only[List.length_range]at hl;refine⟨hl,fun hn=>?_⟩
 have key:∀j,j<n->w.cell? (a.add j)=cs[j]?:=fun j hj=>hg j j (by simp[hj])
 have h0:=key 0 hn
 have hs0:∃v,cs[0]?=some v:=⟨cs[0]'(by omega),yae (by omega)⟩
 obtain⟨v0,hv0⟩:=hs0
 rw[hv0]at h0;have e0:a.add 0=a:=by simp[Addr.add]
 rw[e0]at h0;unfold World.cell? at h0
 cases hb:w.heap[a.block]? with
 | none=>rw[hb]at h0;cases h0
 | some o=>
  rw[hb]at h0
  cases o with
  | cells c t fr=>
   simp only[]at h0;split at h0
   ·cases h0
   ·rename_i hsp
    refine⟨by simpa using hsp,c,t,fr,rfl,fun j hj=>?_⟩
    have:=key j hj
    unfold World.cell? at this
    by_cases hj0:j=0
    ·subst hj0;rw[hv0,ybu];exact h0
    ·have eb:(a.add j).block=a.block:=by unfold Addr.add;rw[if_neg hj0]
     have eo:(a.add j).off=a.off+j:=by unfold Addr.add;rw[if_neg hj0]
     have es:(a.add j).spot=none:=by unfold Addr.add;rw[if_neg hj0]
     rw[eb,hb]at this;simp only[es,eo,Option.isSome_none,yar,if_false]at this;exact this
  | _=>cases h0
theorem zrv{b:Nat}{c:Array Value}{t:TypeId}{fr:Nat × Nat}(h:w.heap[b]?=some (.cells c t fr)) :
  (jH w).get (256+b)=some (.cells (zh0 (fun j=>(c[j]?).bind (zub w.heap.size)) c.size) c.size none):=by
 have hb:=(yaf.1 h).1
 unfold jH;rw[eO,if_pos (by omega),if_neg (by omega),show 256+b-256=b by omega,h]
 rfl
theorem at_old{b off n:Nat}{c:Array Value}{t:TypeId}{fr:Nat × Nat}{cs:List Value}(h:w.heap[b]?=some (.cells c t fr))(hl:cs.length=n)(hc:∀j,j<n->c[off+j]?=cs[j]?)(hs:Has w.heap.size cs) :
  At (jH w) (256+b) off (cs.map (av w.heap.size)):=by
 refine⟨_,_,_,zrv h,fun j a ha=>?_⟩
 rw[yav]at ha
 cases hj:cs[j]? with
 | none=>rw[hj]at ha;cases ha
 | some v=>
  rw[hj]at ha;have hlt:j<n:=by rw[<- hl];exact(yad.1 hj).1
  have h1:=hc j hlt
  rw[hj]at h1;have hsz:off+j<c.size:=(yaf.1 h1).1
  rw[eO,if_pos hsz,h1];have ha:av w.heap.size v=a:=by simpa using ha
  rw[<- ha];exact hs v (ybw hj)
theorem zcn{cs:List Value}:∀ {fs:List Field} {off:Nat},zsf P off fs cs.length=true->(fs.map fun f=>(cs.drop f.offset).take (P.cellsOf f.type)).flatten=cs.drop off
 | [],off,h=>by simp[zsf]at h;subst h;simp
 | f::fs,off,h=>by
  rw[zsf,yac]at h;obtain⟨h1,h2⟩:=h
  have h1:f.offset=off:=by simpa using h1
  rw[ybn,List.flatten_cons,zcn h2,h1,<- List.drop_drop,List.take_append_drop]
theorem z0y{α β:Type}{R:α->β->Prop}:∀ {l:List α} {m:List β},m.length=l.length->(∀(i:Nat) a b,l[i]?=some a->m[i]?=some b->R a b)->pC R l m
 | [],[],_,_=>.nil
 | [],_::_,h,_=>by simp at h
 | _::_,[],h,_=>by simp at h
 | a::l,b::m,h,k=>.cons (k 0 a b (by simp) (by simp)) (z0y (by simpa using h) fun i a b h1 h2=>k (i+1) a b (by simpa using h1) (by simpa using h2))
theorem z7e{S:TypeId->Prop}(hP:Plain P S)(h0:∃c n lo,(jH w).get 0=some (.cells c n lo)) :
  ∀(fuel:Nat) (t:TypeId) (cs:List Value) (x:DataW H × List MemPlace),S t->DataW.trod enc P w 0 (fun _=>true) true fuel t cs=some x->(DataW.weights P t x.1).all (· <= reachBytes)=true →
   Has w.heap.size cs/\∃d,RD (jH w) d (cs.map (av w.heap.size))/\pG P fuel t d:=by
 intro fuel;induction fuel with
 | zero=>intro t cs x _ h;simp[DataW.trod]at h
 | succ n ih=>
  intro t cs x hS h hw;have hp:=hP.part t hS
  have one:∀ {v:Value} {a:zA},zub w.heap.size v=some a->Has w.heap.size [v]/\av w.heap.size v=a:=by
   intro v a hv;have:av w.heap.size v=a:=by unfold av;rw[hv];rfl
   refine⟨fun u hu=>?_,this⟩
   simp at hu;subst hu;rw[hv,this]
  cases hu:P.underlying t with
  | none=>rw[hu]at hp;exact hp.elim
  | some dt=>
  cases dt with
  | bool=>
   obtain⟨b,rfl,rfl⟩:=DataW.trod_bool hu h
   obtain⟨h1,h2⟩:=one (v:=.bool b) (a:=.bool b) rfl
   exact⟨h1,.bool b,by rw[tQ];simp[h2],by unfold pG;rw[hu];exact⟨b,rfl⟩⟩
  | int k=>
   obtain⟨m,rfl,rfl,hwf⟩:=DataW.trod_int hu h
   obtain⟨h1,h2⟩:=one (v:=.int k m) (a:=.int k m) rfl
   exact⟨h1,.int k m,by rw[zL];simp[h2],by unfold pG;rw[hu];exact⟨m,rfl,hwf⟩⟩
  | string=>
   obtain⟨s,rfl,rfl,_⟩:=DataW.trod_string hu h
   obtain⟨h1,h2⟩:=one (v:=.string s) (a:=.str (uE s)) rfl
   refine⟨h1,.str (uE s),by rw[aN];simp[h2],?_⟩
   unfold pG;rw[hu];simp only[DataW.weights,ybh,ybl,Bool.and_true,decide_eq_true_eq]at hw;refine⟨_,rfl,by unfold uE;simpa using hw,fun c hc=>?_⟩
   unfold uE at hc;simp only[List.mem_map]at hc;obtain⟨u,_,rfl⟩:=hc
   exact UInt8.toNat_lt u
  | slice e=>
   rw[hu]at hp;obtain⟨hSe,hpos⟩:=hp
   rcases DataW.trod_slice hu h with⟨rfl,rfl⟩ | ⟨a,len,cap,vK,rest,m,hm,rfl,rfl,_,hlc,_,hel,hE,hR,_⟩
   ·obtain⟨h1,h2⟩:=one (v:=.slice none 0 0) (a:=.nilslice) rfl
    refine⟨h1,.sl (P.cellsOf e) [],by rw[nJ];exact⟨_,by simp[h2],[],.inl ⟨rfl,rfl⟩,by rw[eC]⟩,?_⟩
    unfold pG;rw[hu];exact⟨[],rfl,by simp,fun y hy=>by simp at hy⟩
   ·obtain rfl:n=m:=by omega
    simp only[DataW.weights,hu,ybh,yac,ycj,decide_eq_true_eq,yag]at hw;obtain⟨hsz,hwe,hwr⟩:=hw
    by_cases hcap:cap=0
    ·subst hcap
     obtain rfl:len=0:=by omega
     obtain⟨h1,h2⟩:=one (v:=.slice (some a) 0 0) (a:=.slice 0 0 0 0) (by cases a;rfl)
     refine⟨h1,.sl (P.cellsOf e) [],?_,?_⟩
     ·rw[nJ,ybn,List.map_nil,h2]
      refine⟨_,rfl,[],.inr ⟨0,0,0,rfl,yal _,?_,fun i cs hi=>by simp at hi⟩,by rw[eC]⟩
      obtain⟨c,k,lo,hc⟩:=h0
      have:=hc
      unfold jH at this;rw[eO]at this;split at this
      case isFalse=>cases this
      rw[if_pos (by omega)]at this
      cases ho:w.heap[0]? with
      | none=>rw[ho]at this;cases this
      | some o=>
       rw[ho]at this
       cases o with
       | cells c' t' fr'=>
        simp only[Option.bind_some,absB]at this
        cases this
        exact⟨_,_,_,hc,.inl rfl⟩
       | _=>cases this
     ·unfold pG
      rw[hu];exact⟨[],rfl,by simp,fun y hy=>by simp at hy⟩
    ·have hr:=(hR rfl).1
     have hRr:=(hR rfl).2
     have hel1:∀i,i<len->∃p:List Value × D,w.cells? 0 (a.add (i*P.cellsOf e)) (P.cellsOf e)=some p.1/\Has w.heap.size p.1/\RD (jH w) p.2 (p.1.map (av w.heap.size))/\pG P n e p.2:=by
      intro i hi;have:=hE i hi
      obtain⟨y,hy⟩:∃y,vK[i]?=some y:=⟨vK[i]'(by omega),yae (by omega)⟩
      rw[hy]at this;simp only[Option.bind_eq_some_iff]at this;obtain⟨c1,hc1,hy1⟩:=this
      obtain⟨g1,d,g2,g3⟩:=ih e c1 y hSe hy1 (kZ hwe (i:=i) (by simp[hy]))
      exact⟨(c1,d),hc1,g1,g2,g3⟩
     obtain⟨l,hl,hq⟩:=zeg len hel1
     have hfirst:∃c1,w.cells? 0 a (P.cellsOf e)=some c1:=by
      by_cases hlen:len=0
      ·have:=hRr 0 (by omega)
       obtain⟨y,hy⟩:∃y,rest[0]?=some y:=⟨rest[0]'(by omega),yae (by omega)⟩
       rw[hy]at this;simp only[Option.bind_eq_some_iff]at this;obtain⟨c1,hc1,_⟩:=this
       exact⟨c1,by simpa[hlen,Addr.add]using hc1⟩
      ·obtain⟨p,hp,_⟩:=hel1 0 (by omega)
       exact⟨p.1,by simpa[Addr.add]using hp⟩
     obtain⟨c1,hc1⟩:=hfirst
     obtain⟨hspot,c,ct,fr,hblk,_⟩:=(zrl hc1).2 hpos
     have hb:a.block<w.heap.size:=(yaf.1 hblk).1
     have hav:zub w.heap.size (.slice (some a) len cap)=some (.slice (256+a.block) a.off len cap):=by
      obtain⟨bb,oo,ss⟩:=a
      simp only at hspot hb
      subst hspot
      cases cap with
      | zero=>exact absurd rfl hcap
      | succ cap=>unfold zub;simp only[];rw[if_pos hb]
     obtain⟨h1,h2⟩:=one hav
     refine⟨h1,.sl (P.cellsOf e) (l.map (·.2)),?_,?_⟩
     ·rw[nJ]
      refine⟨_,by rw[ybn,List.map_nil,h2],l.map (fun p=>p.1.map (av w.heap.size)),.inr ⟨256+a.block,a.off,cap,by rw[yag,hl],by rw[yag,hl];exact hlc,⟨_,_,_,zrv hblk,.inl rfl⟩,fun i cs hi=>?_⟩,?_⟩
      ·rw[yav]at hi
       cases hli:l[i]? with
       | none=>rw[hli]at hi;cases hi
       | some p=>
        rw[hli]at hi;obtain rfl:p.1.map (av w.heap.size)=cs:=by simpa using hi
        obtain⟨k1,k2,k3,k4⟩:=hq i p hli
        obtain⟨m1,m2⟩:=zrl k1
        obtain⟨_,c',ct',fr',hb',hcc⟩:=m2 hpos
        have eb:(a.add (i*P.cellsOf e)).block=a.block:=by unfold Addr.add;split<;>rfl
        have eo:(a.add (i*P.cellsOf e)).off=a.off+i*P.cellsOf e:=by unfold Addr.add;split<;>simp_all
        rw[eb]at hb'
        rw[hblk]at hb'
        cases hb'
        rw[eo]at hcc;exact⟨by rw[yag];exact m1,at_old hblk m1 hcc k2⟩
      ·refine eC.mk (by simp) fun i d cs' h1 h2=>?_
       rw[yav]at h1 h2
       cases hli:l[i]? with
       | none=>rw[hli]at h1;cases h1
       | some p=>
        rw[hli]at h1 h2;obtain rfl:p.2=d:=by simpa using h1
        obtain rfl:p.1.map (av w.heap.size)=cs':=by simpa using h2
        exact(hq i p hli).2.2.1
     ·unfold pG
      rw[hu];refine⟨_,rfl,?_,fun y hy=>?_⟩
      ·rw[yag,hl,<- hel]
       exact Nat.le_trans (yaj _ (Nat.le_add_right _ _)) hsz
      ·obtain⟨p,hp,rfl⟩:=List.mem_map.1 hy
       obtain⟨i,hi⟩:=List.mem_iff_getElem?.1 hp
       exact(hq i p hi).2.2.2
  | struct fs=>
   rw[hu]at hp;obtain⟨hf,ht⟩:=hp
   obtain⟨xs,m,hm,rfl,hlen,hxs,hel⟩:=DataW.trod_struct hu h
   obtain rfl:n=m:=by omega
   simp only[DataW.weights,hu]at hw;have hel1:∀i,i<fs.toList.length->∃p:D,∀f,fs.toList[i]?=some f->Has w.heap.size ((cs.drop f.offset).take (P.cellsOf f.type))/\RD (jH w) p (((cs.drop f.offset).take (P.cellsOf f.type)).map (av w.heap.size))/\pG P n f.type p:=by
    intro i hi;have hi':i<fs.size:=by simpa using hi
    obtain⟨f,hfi⟩:∃f,fs.toList[i]?=some f:=⟨fs.toList[i],yae hi⟩
    have:=hel i f (by simpa using hfi)
    obtain⟨y,hy⟩:∃y,xs[i]?=some y:=⟨xs[i]'(by omega),yae (by omega)⟩
    rw[hy]at this;obtain⟨g1,d,g2,g3⟩:=ih f.type _ y (hf f (ybw hfi)) this (lZ hw (i:=i) (by rw[yav,hfi];rfl) (by rw[yav,hy];rfl))
    refine⟨d,fun f' hf'=>?_⟩
    rw[hfi]at hf'
    cases hf'
    exact⟨g1,g2,g3⟩
   obtain⟨l,hl,hq⟩:=zeg fs.toList.length hel1
   have hfl:=zcn (cs:=cs) (P:=P) (fs:=fs.toList) (off:=0) (by rw[hlen];exact ht)
   rw[ybs]at hfl;refine⟨fun v hv=>?_,.st l,?_,?_⟩
   ·rw[<- hfl]at hv
    obtain⟨part,hpart,hv⟩:=List.mem_flatten.1 hv
    obtain⟨f,hfm,rfl⟩:=List.mem_map.1 hpart
    obtain⟨i,hi⟩:=List.mem_iff_getElem?.1 hfm
    have hi':i<fs.toList.length:=(yad.1 hi).1
    exact(hq i (l[i]'(by omega)) (yae (by omega)) f hi).1 v hv
   ·rw[wI]
    refine⟨fs.toList.map (fun f=>((cs.drop f.offset).take (P.cellsOf f.type)).map (av w.heap.size)),?_,eC.mk (by simp[hl]) fun i d cs' h1 h2=>?_⟩
    ·conv=>lhs;rw[<- hfl]
     rw[List.map_flatten,List.map_map];rfl
    ·rw[yav]at h2
     cases hfi:fs.toList[i]? with
     | none=>rw[hfi]at h2;cases h2
     | some f=>
      rw[hfi]at h2;obtain rfl:=ybj h2
      exact(hq i d h1 f hfi).2.1
   ·unfold pG
    rw[hu];exact⟨l,rfl,z0y hl fun i f d h1 h2=>(hq i d h2 f h1).2.2⟩
  | _=>rw[hu]at hp;exact hp.elim
end
end Go.Am
namespace Go.Am
open Go Go.RowKit
structure zry (P:Program) where
 (b i u8 u16 s limbs whole frac val expr exprs row rows table tables dfn dfns clause clauses plan:TypeId)
 hb:P.underlying b=some .bool
 hi:P.underlying i=some (.int .i64)
 hu8:P.underlying u8=some (.int .u8)
 hu16:P.underlying u16=some (.int .u16)
 hs:P.underlying s=some .string
 hlimbs:P.underlying limbs=some (.slice u16)
 hexprs:P.underlying exprs=some (.slice expr)
 hrows:P.underlying rows=some (.slice row)
 htables:P.underlying tables=some (.slice table)
 hdfns:P.underlying dfns=some (.slice dfn)
 hclauses:P.underlying clauses=some (.slice clause)
 hwhole:∃fs,P.underlying whole=some (.struct fs)/\fs.toList.map (·.type)=[b,limbs]
 hfrac:∃fs,P.underlying frac=some (.struct fs)/\fs.toList.map (·.type)=[whole,whole]
 hval:∃fs,P.underlying val=some (.struct fs)/\fs.toList.map (·.type)=[u8,frac,i]
 hexpr:∃fs,P.underlying expr=some (.struct fs)/\fs.toList.map (·.type)=[u8,s,val,exprs]
 hrow:∃fs,P.underlying row=some (.struct fs)/\fs.toList.map (·.type)=[i,i,i,frac]
 htable:∃fs,P.underlying table=some (.struct fs)/\fs.toList.map (·.type)=[s,b,rows]
 hdfn:∃fs,P.underlying dfn=some (.struct fs)/\fs.toList.map (·.type)=[s,u8,b]
 hclause:∃fs,P.underlying clause=some (.struct fs)/\fs.toList.map (·.type)=[s,s,i,i,i,b,expr,expr]
 hplan:∃fs,P.underlying plan=some (.struct fs)/\fs.toList.map (·.type)=[s,dfns,tables,clauses]
 cu16:P.cellsOf u16=1
 cexpr:P.cellsOf expr=9
 crow:P.cellsOf row=7
 ctable:P.cellsOf table=3
 cdfn:P.cellsOf dfn=3
 cclause:P.cellsOf clause=24
 bytes:1<=P.bytesOf u16/\1<=P.bytesOf expr/\1<=P.bytesOf row/\1<=P.bytesOf table/\1<=P.bytesOf dfn/\1<=P.bytesOf clause
section
variable {P:Program}{f:Nat}{t:TypeId}{x:D}
theorem lV(h:pG P f t x):∃g,f=g+1:=by
 cases f with
 | zero=>exact h.elim
 | succ g=>exact⟨g,rfl⟩
theorem zsa(ht:P.underlying t=some .bool)(h:pG P f t x):∃b,x=.bool b:=by
 obtain⟨g,rfl⟩:=lV h
 unfold pG at h;rw[ht]at h;exact h
theorem zcl{k:IntKind}(ht:P.underlying t=some (.int k))(h:pG P f t x):∃n,x=.int k n/\(Lit.int k n).wf=true:=by
 obtain⟨g,rfl⟩:=lV h
 unfold pG at h;rw[ht]at h;exact h
theorem zu5(ht:P.underlying t=some (.int .i64))(h:pG P f t x):∃n,x=.int .i64 n/\i64 n:=by
 obtain⟨n,rfl,hn⟩:=zcl ht h
 simp only[Lit.wf,yac,decide_eq_true_eq]at hn;have h1:IntKind.i64.min = -9223372036854775808:=rfl
 have h2:IntKind.i64.max=9223372036854775807:=rfl
 rw[h1,h2]at hn;exact⟨n,rfl,hn.1,by omega⟩
theorem zpe(ht:P.underlying t=some (.int .u8))(h:pG P f t x):∃n:Nat,x=.int .u8 (n:Int)/\n<256:=by
 obtain⟨n,rfl,hn⟩:=zcl ht h
 simp only[Lit.wf,yac,decide_eq_true_eq]at hn;have h1:IntKind.u8.min=0:=rfl
 have h2:IntKind.u8.max=255:=rfl
 rw[h1,h2]at hn;exact⟨n.toNat,by rw[show((n.toNat:Nat):Int)=n by omega],by omega⟩
theorem zu3(ht:P.underlying t=some (.int .u16))(h:pG P f t x):∃n:Nat,x=.int .u16 (n:Int)/\n<65536:=by
 obtain⟨n,rfl,hn⟩:=zcl ht h
 simp only[Lit.wf,yac,decide_eq_true_eq]at hn;have h1:IntKind.u16.min=0:=rfl
 have h2:IntKind.u16.max=65535:=rfl
 rw[h1,h2]at hn;exact⟨n.toNat,by rw[show((n.toNat:Nat):Int)=n by omega],by omega⟩
theorem zu4(ht:P.underlying t=some .string)(h:pG P f t x):∃l:List Nat,x=.str l/\l.length<dC/\∀c∈l,c<256:=by
 obtain⟨g,rfl⟩:=lV h
 unfold pG at h;rw[ht]at h;obtain⟨l,h1,h2,h3⟩:=h
 unfold reachBytes at h2;exact⟨l,h1,by unfold dC;omega,h3⟩
theorem zck{e:TypeId}{sz:Nat}(ht:P.underlying t=some (.slice e))(hc:P.cellsOf e=sz)(hb:1<=P.bytesOf e)(h:pG P f t x):∃(l:List D) (g:Nat),f=g+1/\x=.sl sz l/\l.length<dC/\∀y∈l,pG P g e y:=by
 obtain⟨g,rfl⟩:=lV h
 unfold pG at h;rw[ht]at h;obtain⟨l,h1,h2,h3⟩:=h
 have:l.length<=l.length*P.bytesOf e:=Nat.le_mul_of_pos_right _ hb
 unfold reachBytes at h2;exact⟨l,g,rfl,by rw[<- hc];exact h1,by unfold dC;omega,h3⟩
theorem pC.ofMap{α β γ:Type}{k:α->γ}{R:γ->β->Prop}:∀ {l:List α} {m:List β},pC (fun a b=>R (k a) b) l m->pC R (l.map k) m
 | [],_,.nil=>.nil
 | _::_,_::_,.cons h r=>.cons h (pC.ofMap r)
theorem aW{ts:List TypeId}(ht:∃fs,P.underlying t=some (.struct fs)/\fs.toList.map (·.type)=ts)(h:pG P f t x):∃(l:List D) (g:Nat),f=g+1/\x=.st l/\pC (fun t y=>pG P g t y) ts l:=by
 obtain⟨fs,ht,rfl⟩:=ht
 obtain⟨g,rfl⟩:=lV h
 unfold pG at h;rw[ht]at h;obtain⟨l,h1,h2⟩:=h
 exact⟨l,g,rfl,h1,pC.ofMap h2⟩
theorem pC.cons_inv{α β:Type}{R:α->β->Prop}{a:α}{l:List α}{m:List β}(h:pC R (a::l) m):∃b r,m=b::r/\R a b/\pC R l r:=by
 cases h with
 | cons h1 h2=>exact⟨_,_,rfl,h1,h2⟩
theorem pC.nil_inv{α β:Type}{R:α->β->Prop}{m:List β}(h:pC R ([]:List α) m):m=[]:=by
 cases h;rfl
theorem zaw{α β:Type}{g:α->β}{Q:α->Prop}:∀ {l:List β},(∀y∈l,∃a,y=g a/\Q a)->∃m:List α,l=m.map g/\∀a∈m,Q a
 | [],_=>⟨[],rfl,fun _ h=>by cases h⟩
 | y::l,h=>by
  obtain⟨a,h1,h2⟩:=h y (by simp)
  obtain⟨m,h3,h4⟩:=zaw (l:=l) fun z hz=>h z (yas _ hz)
  exact⟨a::m,by simp[h1,h3],fun b hb=>by
   rcases yat.1 hb with rfl | hb
   ·exact h2
   ·exact h4 b hb⟩
end
namespace zry
section
variable {P:Program}(A:zry P){f:Nat}{x:D}
theorem dWhole(h:pG P f A.whole x):∃w:pI,x=w.d/\w.limbs.length<dC/\sB 65536 w.limbs:=by
 obtain⟨l,g,rfl,rfl,k⟩:=aW A.hwhole h
 obtain⟨d1,r,rfl,h1,k⟩:=k.cons_inv
 obtain⟨d2,r,rfl,h2,k⟩:=k.cons_inv
 obtain rfl:=k.nil_inv
 obtain⟨b,rfl⟩:=zsa A.hb h1
 obtain⟨l,g,rfl,rfl,hl,hm⟩:=zck A.hlimbs A.cu16 A.bytes.1 h2
 obtain⟨m,rfl,hq⟩:=zaw (g:=fun n:Nat=>D.int .u16 (n:Int)) (Q:=fun n=>n<65536) fun y hy=>zu3 A.hu16 (hm y hy)
 exact⟨⟨b,m⟩,rfl,by simpa using hl,hq⟩
theorem dFrac(h:pG P f A.frac x):∃w:wF,x=w.dd/\w.fit:=by
 obtain⟨l,g,rfl,rfl,k⟩:=aW A.hfrac h
 obtain⟨d1,r,rfl,h1,k⟩:=k.cons_inv
 obtain⟨d2,r,rfl,h2,k⟩:=k.cons_inv
 obtain rfl:=k.nil_inv
 obtain⟨a,rfl,a1,a2⟩:=A.dWhole h1
 obtain⟨b,rfl,b1,b2⟩:=A.dWhole h2
 exact⟨⟨a,b⟩,rfl,⟨a1,b1⟩,a2,b2⟩
theorem dVal(h:pG P f A.val x):∃w:xH,x=w.d/\w.fit:=by
 obtain⟨l,g,rfl,rfl,k⟩:=aW A.hval h
 obtain⟨d1,r,rfl,h1,k⟩:=k.cons_inv
 obtain⟨d2,r,rfl,h2,k⟩:=k.cons_inv
 obtain⟨d3,r,rfl,h3,k⟩:=k.cons_inv
 obtain rfl:=k.nil_inv
 obtain⟨kk,rfl,hk⟩:=zpe A.hu8 h1
 obtain⟨q,rfl,hq⟩:=A.dFrac h2
 obtain⟨n,rfl,hn⟩:=zu5 A.hi h3
 exact⟨⟨kk,q,n⟩,rfl,hk,hq,hn.1,hn.2⟩
theorem zzc:∀ {l:List jA},(∀x∈l,x.fit)->jA.fits l
 | [],_=>by unfold jA.fits;trivial
 | x::l,h=>by unfold jA.fits;exact⟨h x (by simp),zzc fun y hy=>h y (yas _ hy)⟩
theorem dExpr:∀(f:Nat) (x:D),pG P f A.expr x->∃w:jA,x=w.d/\w.fit:=by
 intro f;induction f using Nat.strongRecOn with
 | _ f ih=>
 intro x h;obtain⟨l,g,rfl,rfl,k⟩:=aW A.hexpr h
 obtain⟨d1,r,rfl,h1,k⟩:=k.cons_inv
 obtain⟨d2,r,rfl,h2,k⟩:=k.cons_inv
 obtain⟨d3,r,rfl,h3,k⟩:=k.cons_inv
 obtain⟨d4,r,rfl,h4,k⟩:=k.cons_inv
 obtain rfl:=k.nil_inv
 obtain⟨kk,rfl,hk⟩:=zpe A.hu8 h1
 obtain⟨n,rfl,hn,hn'⟩:=zu4 A.hs h2
 obtain⟨v,rfl,hv⟩:=A.dVal h3
 obtain⟨l,g',rfl,rfl,hl,hm⟩:=zck A.hexprs A.cexpr A.bytes.2.1 h4
 obtain⟨m,rfl,hq⟩:=zaw (g:=jA.d) (Q:=jA.fit) fun y hy=>ih g' (by omega) y (hm y hy)
 refine⟨.mk kk n v m,?_,?_⟩
 ·rw[jA.d,jA.ds_eq]
 ·unfold jA.fit
  exact⟨hk,hn,hn',hv,by simpa using hl,zzc hq⟩
end
end zry
end Go.Am
set_option maxRecDepth 100000
namespace Go.Am
open Go Go.RowKit Go.Proofs
theorem zsr[fC](B N:Nat)(hb:B<=256+fC.n):kS Tryz.prog yA B N eF:=by
 intro f g hg args H v H' hv μ w args' hH hI hl;have hg:zww.get f=some g:=hg
 unfold zww at hg;rcases mK hg with⟨rfl,rfl⟩ | hg
 ·exact nP hv hH fun hv=>zae hI hv hl
 rcases mK hg with⟨rfl,rfl⟩ | hg
 ·exact .inr (zc7 hb hH hv hl)
 rcases mK hg with⟨rfl,rfl⟩ | hg
 ·exact .inr (zf5 hb hH hv hl)
 rcases mK hg with⟨rfl,rfl⟩ | hg
 ·exact nP hv hH fun hv=>zj5 hI hv hl
 rcases mK hg with⟨rfl,rfl⟩ | hg
 ·exact nP hv hH fun hv=>zj6 hI hv hl
 rcases mK hg with⟨rfl,rfl⟩ | hg
 ·exact nP hv hH fun hv=>zsu hI hv hl
 ·rw[Tr.get_leaf]at hg;cases hg
theorem sim14[fC](hN:5<=fC.n):Sim Tryz.prog yA (256+fC.n) fC.n eF:=
 ⟨zjk rfl,zgl rfl,zsr _ _ (yal _),yal _,by kernel_rfl,fun _ _ hb h=>h.below hN hb⟩
section
variable {w:World}
theorem z7u{b:Nat}{y:rA}(h:(jH w).get b=some y):b<256+w.heap.size:=by
 unfold jH at h;rw[eO]at h;split at h
 ·assumption
 ·cases h
theorem zsd(hL:eF w)(f:Nat)(args:List zA)(args':Array Value)(hp:∀ [fC],yA.prims.get f=none)(hl:zB (muW w) args args'.toList)
  (h:∀ [fC],∃Q:vC,Wc yA F f args (jH w) Q/\∀v t,Q v t->v=.bool true) (hf:Nat.blt f yo=true:=by rfl) :
  Calls Tryz.prog f args' w fun e w'=>e=.returned (.bool true)/\Below w.heap.size w w':=by
 letI:fC:=⟨w.heap.size⟩
 obtain⟨Q,h1,h2⟩:=h
 refine(zoq (H:=⟨256+w.heap.size,jH w⟩) (sim14 hL.size) hL z9a hp (yal _) (fun b y hb=>z7u hb) hrelW hl h1 hf).mono fun e w' ⟨v,v',t',μ',g1,g2,g3,g4,g5⟩=>?_
 have:=h2 v t' g4
 subst this;rw[wA]at g3;exact⟨by rw[g1,g3],g5⟩
theorem z8r(h:eF w):∀ [fC],zJ (jH w):=by
 intro _;obtain⟨t,h⟩:=h.lens
 have hb:=(yaf.1 h).1
 have e:(jH w).get 3=some (.cells (zh0 (fun j=>((z29 zny).toArray[j]?).bind (zub w.heap.size)) (z29 zny).toArray.size) (z29 zny).toArray.size none):=by
  unfold jH;rw[eO,if_pos (by omega),if_pos (by omega),h]
  rfl
 refine⟨_,_,_,e,fun j a ha=>?_⟩
 rw[eO,yax];have hj:j<kR.length:=by
  have:=(yad.1 ha).1
  simpa using this
 rw[yav]at ha;have hL:kR=zny:=rfl
 rw[hL]at ha hj
 cases hbt:zny[j]? with
 | none=>rw[hbt]at ha;cases ha
 | some b=>
  rw[hbt]at ha;obtain rfl:=ybj ha
  rw[if_pos (by simp[z29];exact hj)]
  simp only[z29,List.getElem?_toArray,yav,hbt,Option.map_some,Option.bind_some,zub]
theorem zq8(h:eF w):∀ [fC],nM (jH w):=by
 intro _;obtain⟨t,h⟩:=h.modes
 have hb:=(yaf.1 h).1
 have e:(jH w).get 0=some (.cells (zh0 (fun j=>((z1o pL).toArray[j]?).bind (zub w.heap.size)) (z1o pL).toArray.size) (z1o pL).toArray.size none):=by
  unfold jH;rw[eO,if_pos (by omega),if_pos (by omega),h]
  rfl
 refine⟨_,_,_,e,fun j a ha=>?_⟩
 rw[eO,yax];have hj:j<kP.length:=by
  have:=(yad.1 ha).1
  simpa using this
 rw[yav]at ha;have hL:kP=pL.map fun b=>b.map UInt8.toNat:=rfl
 rw[hL]at ha hj;rw[yav]at ha
 cases hbt:pL[j]? with
 | none=>rw[hbt]at ha;cases ha
 | some b=>
  rw[hbt]at ha;obtain rfl:=ybj ha
  rw[if_pos (by simp[z1o];simpa using hj)]
  simp only[z1o,List.getElem?_toArray,yav,hbt,Option.map_some,Option.bind_some,zub];rfl
theorem z8o{cs:List Value}(h:Has w.heap.size cs):zB (muW w) (cs.map (av w.heap.size)) cs:=by
 induction cs with
 | nil=>exact .nil
 | cons v l ih=>exact .cons (zru (h v (by simp))) (ih fun u hu=>h u (yas _ hu))
theorem z2a{cs:Array Value}(h:Has w.heap.size cs.toList):wA (muW w) (.agg (cs.toList.map (av w.heap.size))) (.agg cs):=by
 rw[wA];exact⟨cs,rfl,z8o h⟩
theorem tparts7(hL:eF w){cs:Array Value}{x:jA}(hp:x.fit)(hh:Has w.heap.size cs.toList)(hrd:RD (jH w) x.d (cs.toList.map (av w.heap.size))) :
  Calls Tryz.prog 7 #[.agg cs] w fun e w'=>e=.returned (.bool true)/\Below w.heap.size w w':=
 zsd hL 7 [.agg (cs.toList.map (av w.heap.size))] _ (by intro _;kernel_rfl) (.single (z2a hh)) ⟨_,zve hp (z8r hL) (zq8 hL) hrd,fun v t h=>h⟩
end
end Go.Am
namespace Go.Am
open Go Go.RowKit Go.ChangeShapes Go.WideShapes Go.ChangeAt
section
variable {H:Type}{enc:TypeId × Value->H}{P:Program}
theorem zaa(hl:laidOutB P=true){W W':World}(hb:Below W.heap.size W W'):∀ {ts:List TypeId} {vs:List Value} {ds:List (DataW H)} {ps:List MemPlace},(∀t∈ts,P.readableRec t=true/\t<P.types.size) →
  DataW.TrodAll enc P W 0 (fun _=>true) true ts vs ds ps->(∀x∈ps,x.block<W.heap.size)->DataW.TrodAll enc P W' 0 (fun b=>decide (b<W.heap.size)) true ts vs ds ps
 | [],[],[],_,_,h,_=>h
 | t::ts,_::_,_::_,_,ht,⟨p,q,h1,h2,e⟩,hs=>by
  subst e;exact⟨p,q,Below.trod hl (ht t (by simp)).1 (ht t (by simp)).2 h1 hb fun x hx=>hs x (ycd _ hx),
   zaa hl hb (fun t ht'=>ht t (yas _ ht')) h2 fun x hx=>hs x (ybg _ hx),rfl⟩
 | [],_::_,_,_,_,h,_=>by simp[DataW.TrodAll]at h
 | [],[],_::_,_,_,h,_=>by simp[DataW.TrodAll]at h
 | _::_,[],_,_,_,h,_=>by simp[DataW.TrodAll]at h
 | _::_,_::_,[],_,_,h,_=>by simp[DataW.TrodAll]at h
theorem law_post(hl:laidOutB P=true){f:Func}{s:ChangeSpec}{tb:TypeId}(hp:∀t∈f.params.toList,P.readableRec t=true/\t<P.types.size)(hv:s.vars=[])(hres:f.resultTypes = #[tb])(htb:P.underlying tb=some .bool)
  {W W':World} {args:Array Value} {ds gs:List (DataW H)} {before:List MemPlace} (hfn:s.fn H ds={ results:=[.lit (.bool true)],args:=ds })
  (hW:DataW.Whole enc P f.params.toList s.vars false W args.toList ds gs before) (hb:Below W.heap.size W W') :
  s.post enc P f false true false false W args (.bool true) W':=by
 have hW0:=hW
 obtain⟨p,q,hA,hV,rfl,hfz,hnd⟩:=hW
 rw[hv]at hV;obtain⟨rfl,rfl⟩:=trodVars_none hV
 refine⟨ds,[],p++[],[],p,[],hW0,?_,?_,?_,hb.frame _,fun h=>by cases h⟩
 ·rw[ybe,hfn,hres]
  exact trodAll_mk1 (shut_bool htb _)
 ·rw[ybe,hfn]
  exact zaa hl hb hp hA fun x hx=>hW0.lt x (by simpa using hx)
 ·rw[ybe,hfn,hv]
  exact rfl
theorem zpw{a:Assume}{C:Checked}{os:Os}{f:FuncId}{fn:Func}{s:ChangeSpec}{conds:List PathCond}{apart fresh handsOn again:Bool}{X:World->Array Value->Prop}
  (hX:∀(w w':World) (args:Array Value),w.heap=w'.heap->X w args->X w' args)
  (own:ownKnob C.prog.godebug=none) (started:os.Started) (noInit:C.prog.inits.idxOf? f=none) (hfn:C.prog.funcs[f]?=some fn)
  (witness:∃(w:World) (tape:Tape) (i:Input),w.os=os/\(w.forCall tape i).Shaped C.prog/\i.vars=[]/\Input.okWide C.prog (w.forCall tape i) .any w.heap.size f i ∧
   ((s.pre enc C.prog fn conds apart (w.forCall tape i).memory i.args/\X (w.forCall tape i).memory i.args)/\sizedMet enc C.prog fn (OpenSpec.ofChange s) apart (w.forCall tape i).memory i.args)/\a.holds C.prog (lone (Frame.enter C.prog f i.args .normal) [] (w.forCall tape i)))
  (contract:∀(W:World) (base:Nat) (args:Array Value) (ds gs:List (DataW H)) (before:List MemPlace),
   (∀(j:Nat) t v,fn.params[j]?=some t->args[j]?=some v->Value.okWide C.prog W .any base t v) →
   DataW.Whole enc C.prog fn.params.toList s.vars apart W args.toList ds gs before →
   (DataW.weightsEach C.prog (fn.params.toList++s.plain.varTypes C.prog) (ds++gs)).all (· <= reachBytes)=true->X W args->W.ShapedOpen C.prog →
   Calls C.prog f args W fun e W'=>∃v,e=.returned v/\s.post enc C.prog fn apart fresh handsOn again W args v W') :
  ReturnsInHanded a C os f .any (fun w args=>(s.pre enc C.prog fn conds apart w args/\X w args)/\sizedMet enc C.prog fn (OpenSpec.ofChange s) apart w args) (s.post enc C.prog fn apart fresh handsOn again):=by
 refine returnsInHanded_of_calls own started noInit witness ?_
 intro w tape i _ hsh _ hok hpre _;obtain⟨_,_,_,fn',hfn',_,_,_,_,hval⟩:=hok
 have e:fn'=fn:=ybj (hfn'.symm.trans hfn)
 subst e;obtain⟨⟨⟨ds,gs,before,hw,hc⟩,hx⟩,hz⟩:=hpre
 have hw':=DataW.Whole.of_heap (w':=w.forCall tape i) (by rfl) hw
 refine(contract (w.forCall tape i) w.heap.size i.args ds gs before hval hw' (hz.weights hw) (hX _ _ _ (by rfl) hx) hsh).mono fun e W' ⟨v,he,hp⟩=>?_
 subst he;exact ChangeSpec.post_blind hp
variable {w:World}{base:Nat}{spare:Nat->Bool}{held:Bool}{fuel:Nat}{t e:TypeId}{cs:List Value}{ps:List MemPlace}
theorem zen{α:Type}{g:α->DataW H}{u:α->Value}{l:List α}{n:Nat}(ht:P.underlying t=some (.array n e))(hc:P.cellsOf e=1)(hn:P.cellsOf t=n)
  (h1:∀(m:Nat) (c:List Value) (x:DataW H × List MemPlace) (a:α),DataW.trod enc P w base spare held m e c=some x->x.1=g a->c=[u a])
  (h:DataW.trod enc P w base spare held fuel t cs=some (.agg (l.map g),ps)):cs=l.map u:=by
 obtain⟨xs,m,_,hx,hlen,hxs,hel⟩:=DataW.trod_array ht h
 simp only[Prod.mk.injEq,DataW.agg.injEq]at hx;have hl:l.length=n:=by have:=congrArg List.length hx.1;simp[hxs]at this;exact this
 rw[hn]at hlen;refine List.ext_getElem (by rw[hlen,yag,hl]) fun i hi1 hi2=>?_
 have hi:i<n:=by omega
 have:=hel i hi
 rw[hc]at this;have hc1:((cs.drop (i*1)).take 1)=[cs[i]]:=by
  rw[Nat.mul_one,yam hi1];rfl
 rw[hc1,yae (by omega)]at this
 have hxi:xs[i].1=g (l[i]'(by omega)):=by
  have:=congrArg (fun z=>z[i]?) hx.1
  simp only[yav]at this;rw[yae (by omega),yae (by omega)]at this
  simpa using this.symm
 have:=h1 m _ _ _ this hxi
 rw[List.getElem_map];simpa using this
theorem z1p(he:P.underlying e=some .string)(m:Nat)(c:List Value)(x:DataW H × List MemPlace)(b:List UInt8)(h:DataW.trod enc P w base spare held m e c=some x)(hx:x.1=.lit (.string b)):c=[.string ⟨b.toArray⟩]:=by
 obtain⟨s,rfl,rfl,_⟩:=DataW.trod_string he h
 simp at hx;rw[<- hx]
theorem z3a(he:P.underlying e=some (.int .i64))(m:Nat)(c:List Value)(x:DataW H × List MemPlace)(n:Int)(h:DataW.trod enc P w base spare held m e c=some x)(hx:x.1=.lit (.int .i64 n)):c=[.int .i64 n]:=by
 obtain⟨k,rfl,rfl,_⟩:=DataW.trod_int he h
 simp at hx;rw[hx]
end
theorem joined_of{P:Program}{f:FuncId}{fn:Func}{s:ChangeSpec}{c:OpenClaim}
  (A:(c.wf (OpenSpec.ofChange s)&&laidOutB P&&mapsRowed P&&fn.params.all (P.readableRec ·)&&namedTie P c.named s.vars&&(c.stops == [])&&(P.stops == [])&&(c.knobs == [])&&(P.stopKnobs == []))=true)
  (h1:(c.inPlace == P.inPlace f)=true) (h2:(c.unfollowed == P.unfollowed f)=true) (h3:(c.recurses == P.recurses f)=true) (h4:(c.named == P.varsNamed f)=true)
  (E:((c.maps == (fn.params.toList++s.plain.varTypes P).any (P.mapsRec ·))&&(c.ifaces == (fn.params.toList++s.plain.varTypes P).any (P.ifacesRec ·))&&(c.mapsOut == P.mapsAmong fn.resultTypes.toList) &&
   (c.loops == (fn.params.toList++s.plain.varTypes P).any (P.loopsFrom ·))&&(c.wideKeys == (fn.params.toList++s.plain.varTypes P++fn.resultTypes.toList).any (P.wideKeysFrom ·)) &&
   s.vars.all (P.varReadable ·)&&fn.resultTypes.all (fun t=>P.readableRec t&&decide (t<P.types.size))&&(c.ifacesOut == fn.resultTypes.toList.any (P.ifacesRec ·))&&(c.loopsOut == fn.resultTypes.toList.any (P.loopsFrom ·))&&c.shortTexts.isNone)=true)
  (h5:(c.plainKeys == P.plainKeys)=true) (h6:P.stopsHeard=true) (h7:P.mayEnter=true) (h8:(c.lifted == P.liftsFinal)=true)
  (R:((P.make == some c.make)&&(c.kinds == (if c.domain.isEmpty then []else fn.params.toList.map fun t=>match P.underlying t with | some (.int k)=>some k | _=>none))&&(c.pinned == c.pinnedBy) &&
   (c.veiled == (fn.params.toList++s.plain.varTypes P++fn.resultTypes.toList).any (P.veiledRec ·))&&c.veiledFits P fn.params.toList (fn.params.toList++s.plain.varTypes P++fn.resultTypes.toList))=true) :
  joinedFacts P f fn s c=true:=by
 unfold joinedFacts;simp only[yac]at A E R ⊢
 obtain⟨⟨⟨⟨⟨⟨⟨⟨a1,a2⟩,a3⟩,a4⟩,a5⟩,a6⟩,a7⟩,a8⟩,a9⟩:=A
 obtain⟨⟨⟨⟨⟨⟨⟨⟨⟨e1,e2⟩,e3⟩,e4⟩,e5⟩,e6⟩,e7⟩,e8⟩,e9⟩,e10⟩:=E
 obtain⟨⟨⟨⟨r1,r2⟩,r3⟩,r4⟩,r5⟩:=R
 exact⟨⟨⟨⟨⟨⟨⟨⟨⟨⟨⟨⟨⟨⟨⟨⟨⟨⟨⟨⟨⟨⟨⟨⟨⟨⟨⟨⟨⟨⟨⟨a1,a2⟩,a3⟩,a4⟩,a5⟩,a6⟩,a7⟩,a8⟩,a9⟩,h1⟩,h2⟩,h3⟩,h4⟩,e1⟩,e2⟩,e3⟩,e4⟩,e5⟩,e6⟩,e7⟩,e8⟩,e9⟩,h5⟩,e10⟩,h6⟩,h7⟩,h8⟩,r1⟩,r2⟩,r3⟩,r4⟩,r5⟩
end Go.Am
namespace Go.Proofs.YtfijloeeppcipaaGreatDoor
open Go Go.Am Go.RowKit Go.ChangeShapes Go.WideShapes Go.ChangeAt
theorem own:ownKnob Tryz.prog.godebug=none:=by kernel_rfl
theorem laidOut:laidOutB Tryz.prog=true:=by kernel_rfl
theorem gPow : Tryz.prog.globalNamed "internal/strconv.uint64pow10" = some 4 := by kernel_rfl
theorem gLens : Tryz.prog.globalNamed "annuitant/calendar.lengths" = some 3 := by kernel_rfl
theorem gModes : Tryz.prog.globalNamed "annuitant/parse.modeWords" = some 0 := by kernel_rfl
theorem tPow:(Tryz.prog.globals[4]?).map (·.type)=some 290:=by kernel_rfl
theorem tLens:(Tryz.prog.globals[3]?).map (·.type)=some 275:=by kernel_rfl
theorem tModes:(Tryz.prog.globals[0]?).map (·.type)=some 238:=by kernel_rfl
def laid5 : List (String × DataW Unit) := [("math/bits.deBruijn32tab", Rows.laid_math_bits_deBruijn32tab), ("math/bits.deBruijn64tab", Rows.laid_math_bits_deBruijn64tab), ("internal/strconv.uint64pow10", Rows.laid_internal_strconv_uint64pow10), ("annuitant/calendar.lengths", Rows.laid_annuitant_calendar_lengths), ("annuitant/parse.modeWords", Rows.laid_annuitant_parse_modeWords)]
theorem door_met(os:Os)(args:Array Value):laidMetH Tryz.prog laid5 ((World.doorLaid Tryz.prog 100 os).forCall (fun _ _=>0) ⟨#[],args,[]⟩).memory:=
 laidMetH_of_parts3 (fuel:=8) (laidMet_of_run' 8 (by kernel_rfl) (by kernel_rfl)) (by kernel_rfl) (by kernel_rfl)
theorem zcg{W:World}{n:String}{g:Nat}{cs:Array Value}(hg:Tryz.prog.globalNamed n=some g)(hv:W.var? Tryz.prog n=some cs)(hc:∃c t,W.heap[g]?=some (.cells c t (0,0))):∃t,W.heap[g]?=some (.cells cs t (0,0)):=by
 obtain⟨c,t,hc⟩:=hc
 unfold World.var? at hv
 rw[hg]at hv;simp only[Option.bind_some,hc,Option.some.injEq]at hv;subst hv;exact⟨t,hc⟩
theorem zm5{g n:Nat}{p q:List MemPlace}(h:0<n):MemPlace.cell g 0∈MemPlace.row ⟨g,0,none⟩ n++p++q:=
 ycd _ (ycd _ (List.mem_map.2 ⟨0,List.mem_range.2 h,rfl⟩))
theorem z75:Rows.laid_internal_strconv_uint64pow10 (H:=Unit)=.agg (z05.map fun n=>.lit (.int .u64 n)):=by kernel_rfl
theorem z22:Rows.laid_annuitant_calendar_lengths (H:=Unit)=.agg (zny.map fun n=>.lit (.int .i64 n)):=by kernel_rfl
theorem zxz:Rows.laid_annuitant_parse_modeWords (H:=Unit)=.agg (pL.map fun b=>.lit (.string b)):=by kernel_rfl
theorem z1c{H:Type}{enc:TypeId × Value->H}{P:Program}{w:World}{base:Nat}{spare:Nat->Bool}{held:Bool}{e:TypeId}(he:P.underlying e=some (.int .u64))(m:Nat)(c:List Value)(x:DataW H × List MemPlace)(n:Int)(h:DataW.trod enc P w base spare held m e c=some x)(hx:x.1=.lit (.int .u64 n)):c=[.int .u64 n]:=by
 obtain⟨k,rfl,rfl,_⟩:=DataW.trod_int he h
 simp at hx;rw[hx]
theorem laid_of{W:World}(h:laidMetH Tryz.prog laid5 W)(hsh:W.ShapedOpen Tryz.prog):eF W:=by
 rw[MakeChecks.laidMetH_plain _ _ _ (by kernel_rfl)]at h
 obtain⟨ps,⟨_,_,_,_,_,_,_,_,_,_,⟨_,_,_,_,_,_,_,_,_,_,⟨g0,t0,cs0,f0,p0,q0,hg0,ht0,hv0,hd0,⟨g1,t1,cs1,f1,p1,q1,hg1,ht1,hv1,hd1,⟨g3,t3,cs3,f3,p3,q3,hg3,ht3,hv3,hd3,_,hp3⟩,hp1⟩,hp0⟩,hpb⟩,hpa⟩,_,hcell⟩:=h
 obtain rfl:=ybj (gPow.symm.trans hg0)
 obtain rfl:=ybj (gLens.symm.trans hg1)
 obtain rfl:=ybj (gModes.symm.trans hg3)
 obtain rfl:=ybj (tPow.symm.trans ht0)
 obtain rfl:=ybj (tLens.symm.trans ht1)
 obtain rfl:=ybj (tModes.symm.trans ht3)
 have c3:Tryz.prog.cellsOf 3=1:=by kernel_rfl
 have c9:Tryz.prog.cellsOf 9=1:=by kernel_rfl
 have c225:Tryz.prog.cellsOf 225=1:=by kernel_rfl
 have c290:Tryz.prog.cellsOf 290=20:=by kernel_rfl
 have c275:Tryz.prog.cellsOf 275=12:=by kernel_rfl
 have c238:Tryz.prog.cellsOf 238=7:=by kernel_rfl
 rw[z75]at hd0;rw[z22]at hd1;rw[zxz]at hd3;have e0:cs0.toList=u64s z05:=zen (l:=z05) (g:=fun n=>.lit (.int .u64 n)) (u:=fun n=>.int .u64 n) Tryz.underlying290 c225 c290 (fun m c x a=>z1c Tryz.underlying225 m c x a) hd0
 have e1:cs1.toList=z29 zny:=zen (l:=zny) (g:=fun n=>.lit (.int .i64 n)) (u:=fun n=>.int .i64 n) Tryz.underlying275 c3 c275 (fun m c x a=>z3a Tryz.underlying3 m c x a) hd1
 have e3:cs3.toList=z1o pL:=zen (l:=pL) (g:=fun b=>.lit (.string b)) (u:=fun b=>.string ⟨b.toArray⟩) Tryz.underlying238 c9 c238 (fun m c x a=>z1p Tryz.underlying9 m c x a) hd3
 have s0:cs0=(u64s z05).toArray:=by rw[<- e0]
 have s1:cs1=(z29 zny).toArray:=by rw[<- e1]
 have s3:cs3=(z1o pL).toArray:=by rw[<- e3]
 subst s0 s1 s3
 have m0:MemPlace.cell 4 0∈ps:=by
  rw[hpa,hpb,hp0];exact ybg _ (ybg _ (zm5 (by decide)))
 have m1:MemPlace.cell 3 0∈ps:=by
  rw[hpa,hpb,hp0,hp1];exact ybg _ (ybg _ (ybg _ (zm5 (by decide))))
 have m3:MemPlace.cell 0 0∈ps:=by
  rw[hpa,hpb,hp0,hp1,hp3];exact ybg _ (ybg _ (ybg _ (ybg _ (zm5 (by decide)))))
 exact⟨zcg hg3 hv3 (hcell 0 0 m3).1,zcg hg1 hv1 (hcell 3 0 m1).1,Tryz.laysM144.s1_3 W hsh,zcg hg0 hv0 (hcell 4 0 m0).1⟩
theorem stopsHeard:Tryz.prog.stopsHeard=true:=by kernel_rfl
theorem mayEnter:Tryz.prog.mayEnter=true:=by kernel_rfl
theorem bool4:Tryz.prog.underlying 4=some .bool:=Tryz.underlying4
def api14:zry Tryz.prog:={
 b:=4,i:=3,u8:=5,u16:=202,s:=9,limbs:=27,whole:=29,frac:=31,val:=33,expr:=36,exprs:=34,row:=84,rows:=79,table:=81,tables:=23,dfn:=59,dfns:=22,clause:=56,clauses:=24,plan:=26,
 hb:=Tryz.underlying4,hi:=Tryz.underlying3,hu8:=Tryz.underlying5,hu16:=Tryz.underlying202,hs:=Tryz.underlying9,hlimbs:=Tryz.underlying27,hexprs:=Tryz.underlying34,hrows:=Tryz.underlying79,htables:=Tryz.underlying23,hdfns:=Tryz.underlying22,hclauses:=Tryz.underlying24,
 hwhole:=⟨_,Tryz.underlying29,rfl⟩,hfrac:=⟨_,Tryz.underlying31,rfl⟩,hval:=⟨_,Tryz.underlying33,rfl⟩,hexpr:=⟨_,Tryz.underlying36,rfl⟩,hrow:=⟨_,Tryz.underlying84,rfl⟩,htable:=⟨_,Tryz.underlying81,rfl⟩,hdfn:=⟨_,Tryz.underlying59,rfl⟩,hclause:=⟨_,Tryz.underlying56,rfl⟩,hplan:=⟨_,Tryz.underlying26,rfl⟩,
 cu16:=by kernel_rfl,cexpr:=by kernel_rfl,crow:=by kernel_rfl,ctable:=by kernel_rfl,cdfn:=by kernel_rfl,cclause:=by kernel_rfl,
 bytes:=⟨of_decide_eq_true (by kernel_rfl),of_decide_eq_true (by kernel_rfl),of_decide_eq_true (by kernel_rfl),of_decide_eq_true (by kernel_rfl),of_decide_eq_true (by kernel_rfl),of_decide_eq_true (by kernel_rfl)⟩ }
def zp5:List Nat:=[4,3,5,202,9,27,29,31,33,36,34,84,79,81,23,59,22,56,24,26]
def partB(t:TypeId):Bool:=match Tryz.prog.underlying t with
 | some .bool=>true
 | some (.int _)=>true
 | some .string=>true
 | some (.slice e)=>zp5.contains e&&Nat.blt 0 (Tryz.prog.cellsOf e)
 | some (.struct fs)=>fs.toList.all (fun f=>zp5.contains f.type)&&zsf Tryz.prog 0 fs.toList (Tryz.prog.cellsOf t)
 | _=>false
theorem zng:zp5.all partB=true:=by kernel_rfl
theorem z7i:Plain Tryz.prog (fun t=>t∈zp5):=⟨fun t ht=>by
 have h:=ybc.1 zng t ht
 unfold partB at h
 cases hu:Tryz.prog.underlying t with
 | none=>rw[hu]at h;cases h
 | some d=>
  rw[hu]at h
  cases d with
  | bool=>trivial
  | int k=>trivial
  | string=>trivial
  | slice e=>
   simp only[yac]at h;exact⟨by simpa using h.1,by simpa using h.2⟩
  | struct fs=>
   simp only[yac]at h;exact⟨fun f hf=>by simpa using ybc.1 h.1 f hf,h.2⟩
  | _=>cases h⟩
theorem open_expr{H:Type}{enc:TypeId × Value->H}{W:World}{base:Nat}{v:Value}{d:DataW H}{ps:List MemPlace}(hL:eF W)(hok:Value.okWide Tryz.prog W .any base 36 v)(h:DataW.Trod enc Tryz.prog W 0 (fun _=>true) true 36 v d ps)(hw:(DataW.weights Tryz.prog 36 d).all (· <= reachBytes)=true) :
  ∃(cs:Array Value) (p:jA),v=.agg cs/\p.fit/\Has W.heap.size cs.toList/\RD (jH W) p.d (cs.toList.map (av W.heap.size)):=by
 obtain⟨cs,rfl,_,_⟩:∃cs,v=.agg cs/\cs.size=Tryz.prog.cellsOf 36/\Row.okWide Tryz.prog W .any base 36 cs:=by
  unfold Value.okWide at hok;rw[Tryz.underlying36]at hok;exact hok
 obtain⟨fuel,h⟩:=h
 obtain⟨c,n,lo,hc,_⟩:=@zq8 W hL ⟨0⟩
 obtain⟨h1,x,h2,h3⟩:=z7e z7i ⟨c,n,lo,hc⟩ fuel 36 cs.toList (d,ps) (by decide) h hw
 obtain⟨p,rfl,hp⟩:=api14.dExpr _ _ h3
 exact⟨cs,p,rfl,hp,h1,h2⟩
end Go.Proofs.YtfijloeeppcipaaGreatDoor
