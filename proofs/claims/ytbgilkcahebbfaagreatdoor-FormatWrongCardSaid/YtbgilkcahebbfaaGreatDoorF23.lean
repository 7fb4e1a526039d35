/- Data read from the world, typed: what DataW.trod met, in the abstract heap of the old memory. -/
import Derived.Carry
import Derived.ChangeArms
import Derived.HandedShaped
import Derived.JoinedOf
import Derived.LaidMore
import Derived.OpenShut
import Derived.ProofKit
import Derived.Stop.Joined
import Derived.Test.YtbgilkcahebbfaaGreatDoorRows
import GoSem.ClaimJoined
import Derived.Test.YtbgilkcahebbfaaGreatDoorF22
set_option linter.all false
noncomputable section
namespace Go.Am
open Go Go.RowKit
def sG(P:Program):Nat->TypeId->D->Prop
 | 0,_,_=>False
 | f+1,t,x=>match P.underlying t with
  | some .bool=>∃b,x=.bool b
  | some (.int k)=>∃n,x=.int k n/\(Lit.int k n).wf=true
  | some .string=>∃l:List Nat,x=.str l/\l.length<=reachBytes/\∀c∈l,c<256
  | some (.slice e)=>∃l:List D,x=.sl (P.cellsOf e) l/\l.length*P.bytesOf e<=reachBytes/\∀y∈l,sG P f e y
  | some (.struct fs)=>∃l:List D,x=.st l/\rC (fun fd y=>sG P f fd.type y) fs.toList l
  | _=>False
def zra(P:Program):Nat->List Field->Nat->Bool
 | off,[],n=>off == n
 | off,f::fs,n=>f.offset == off&&zra P (off+P.cellsOf f.type) fs n
structure z7j (P:Program) (S:TypeId->Prop):Prop where
 part:∀t,S t->match P.underlying t with
  | some .bool=>True
  | some (.int _)=>True
  | some .string=>True
  | some (.slice e)=>S e/\0<P.cellsOf e
  | some (.struct fs)=>(∀f∈fs.toList,S f.type)/\zra P 0 fs.toList (P.cellsOf t)=true
  | _=>False
def av (N:Nat)(v:Value):zA:=(zqk N v).getD .nilptr
def Has (N:Nat)(cs:List Value):Prop:=∀v∈cs,zqk N v=some (av N v)
def zd4{α:Type}{Q:Nat->α->Prop}:∀(n:Nat),(∀i,i<n->∃p,Q i p)->∃l:List α,l.length=n/\∀i p,l[i]?=some p->Q i p:=by
 intro n;induction n with
 | zero=>intro _;exact⟨[],rfl,fun i p h=>by simp at h⟩
 | succ n ih=>
  intro h;obtain⟨l,hl,hq⟩:=ih fun i hi=>h i (by omega)
  obtain⟨p,hp⟩:=h n (by omega)
  refine⟨l++[p],by simp[hl],fun i q hq'=>?_⟩
  by_cases hi:i<n
  ·rw[yco (by omega)]at hq';exact hq i q hq'
  ·rw[ybp (by omega)]at hq'
   have:i-l.length=0:=by
    cases hz:i-l.length with
    | zero=>rfl
    | succ m=>rw[hz]at hq';simp at hq'
   rw[this]at hq'
   simp at hq'
   subst hq'
   have:i=n:=by omega
   subst this;exact hp
section
variable {H:Type}{enc:TypeId × Value->H}{P:Program}{w:World}
def nZ{p:Nat->Bool}:∀ {ts:List TypeId} {ds:List (DataW H)},(DataW.weightsEach P ts ds).all p=true->∀ {i:Nat} {t:TypeId} {d:DataW H},ts[i]?=some t->ds[i]?=some d->(DataW.weights P t d).all p=true
 | [],_,_,i,_,_,h1,_=>by simp at h1
 | _::_,[],_,i,_,_,_,h2=>by simp at h2
 | t::ts,d::ds,h,i,u,e,h1,h2=>by
  rw[DataW.weightsEach,ydi,ybb]at h
  cases i with
  | zero=>simp at h1 h2;subst h1 h2;exact h.1
  | succ i=>exact nZ h.2 (by simpa using h1) (by simpa using h2)
def mZ{p:Nat->Bool}{e:TypeId}:∀ {ds:List (DataW H)},(DataW.weightsAll P e ds).all p=true->∀ {i:Nat} {d:DataW H},ds[i]?=some d->(DataW.weights P e d).all p=true
 | [],_,i,_,h2=>by simp at h2
 | d::ds,h,i,x,h2=>by
  rw[DataW.weightsAll,ydi,ybb]at h
  cases i with
  | zero=>simp at h2;subst h2;exact h.1
  | succ i=>exact mZ h.2 (by simpa using h2)
def zqg{a:Addr}{n:Nat}{cs:List Value}(h:w.cells? 0 a n=some cs):cs.length=n/\(0<n->a.spot=none/\∃c t fr,w.heap[a.block]?=some (.cells c t fr)/\∀j,j<n->c[a.off+j]?=cs[j]?):=by
 unfold World.cells? at h
 rw[yab (yaw _)]at h
 have hl:=mapM_some_length h
 have hg:=mapM_some_get h
 simp only[List.length_range]at hl;refine⟨hl,fun hn=>?_⟩
 have key:∀j,j<n->w.cell? (a.add j)=cs[j]?:=fun j hj=>hg j j (by simp[hj])
 have h0:=key 0 hn
 have hs0:∃v,cs[0]?=some v:=⟨cs[0]'(by omega),ybd (by omega)⟩
 obtain⟨v0,hv0⟩:=hs0
 rw[hv0]at h0;have e0:a.add 0=a:=by simp[Addr.add]
 rw[e0]at h0;unfold World.cell? at h0
 cases hb:w.heap[a.block]? with
 | none=>rw[hb]at h0;cases h0
 | some o=>
  rw[hb]at h0
  cases o with
  | cells c t fr=>
   simp only[]at h0;split at h0
   ·cases h0
   ·rename_i hsp
    refine⟨by simpa using hsp,c,t,fr,rfl,fun j hj=>?_⟩
    have:=key j hj
    unfold World.cell? at this
    by_cases hj0:j=0
    ·subst hj0;rw[hv0,yct];exact h0
    ·have eb:(a.add j).block=a.block:=by unfold Addr.add;rw[yaa hj0]
     have eo:(a.add j).off=a.off+j:=by unfold Addr.add;rw[yaa hj0]
     have es:(a.add j).spot=none:=by unfold Addr.add;rw[yaa hj0]
     rw[eb,hb]at this;simp only[es,eo,Option.isSome_none,ybq,if_false]at this;exact this
  | _=>cases h0
def zql{b:Nat}{c:Array Value}{t:TypeId}{fr:Nat × Nat}(h:w.heap[b]?=some (.cells c t fr)) :
  (nG w).get (256+b)=some (.cells (zer (fun j=>(c[j]?).bind (zqk w.heap.size)) c.size) c.size none):=by
 have hb:=(ybe.1 h).1
 unfold nG;rw[pN,yab (by omega),yaa (by omega),show 256+b-256=b by omega,h]
 rfl
def at_old{b off n:Nat}{c:Array Value}{t:TypeId}{fr:Nat × Nat}{cs:List Value}(h:w.heap[b]?=some (.cells c t fr))(hl:cs.length=n)(hc:∀j,j<n->c[off+j]?=cs[j]?)(hs:Has w.heap.size cs) :
  At (nG w) (256+b) off (cs.map (av w.heap.size)):=by
 refine⟨_,_,_,zql h,fun j a ha=>?_⟩
 rw[ybu]at ha
 cases hj:cs[j]? with
 | none=>rw[hj]at ha;cases ha
 | some v=>
  rw[hj]at ha;have hlt:j<n:=by rw[<- hl];exact(ybc.1 hj).1
  have h1:=hc j hlt
  rw[hj]at h1;have hsz:off+j<c.size:=(ybe.1 h1).1
  rw[pN,yab hsz,h1];have ha:av w.heap.size v=a:=by simpa using ha
  rw[<- ha];exact hs v (ycv hj)
def zch{cs:List Value}:∀ {fs:List Field} {off:Nat},zra P off fs cs.length=true->(fs.map fun f=>(cs.drop f.offset).take (P.cellsOf f.type)).flatten=cs.drop off
 | [],off,h=>by simp[zra]at h;subst h;simp
 | f::fs,off,h=>by
  rw[zra,ybb]at h;obtain⟨h1,h2⟩:=h
  have h1:f.offset=off:=by simpa using h1
  rw[ycm,yas,zch h2,h1,<- List.drop_drop,List.take_append_drop]
def zzi{α β:Type}{R:α->β->Prop}:∀ {l:List α} {m:List β},m.length=l.length->(∀(i:Nat) a b,l[i]?=some a->m[i]?=some b->R a b)->rC R l m
 | [],[],_,_=>.nil
 | [],_::_,h,_=>by simp at h
 | _::_,[],h,_=>by simp at h
 | a::l,b::m,h,k=>.cons (k 0 a b (by simp) (by simp)) (zzi (by simpa using h) fun i a b h1 h2=>k (i+1) a b (by simpa using h1) (by simpa using h2))
def zvd{S:TypeId->Prop}(hP:z7j P S)(h0:∃c n lo,(nG w).get 0=some (.cells c n lo)) :
  ∀(fuel:Nat) (t:TypeId) (cs:List Value) (x:DataW H × List MemPlace),S t->DataW.trod enc P w 0 (fun _=>true) true fuel t cs=some x->(DataW.weights P t x.1).all (· <= reachBytes)=true →
   Has w.heap.size cs/\∃d,RD (nG w) d (cs.map (av w.heap.size))/\sG P fuel t d:=by
 intro fuel;induction fuel with
 | zero=>intro t cs x _ h;simp[DataW.trod]at h
 | succ n ih=>
  intro t cs x hS h hw;have hp:=hP.part t hS
  have one:∀ {v:Value} {a:zA},zqk w.heap.size v=some a->Has w.heap.size [v]/\av w.heap.size v=a:=by
   intro v a hv;have:av w.heap.size v=a:=by unfold av;rw[hv];rfl
   refine⟨fun u hu=>?_,this⟩
   simp at hu;subst hu;rw[hv,this]
  cases hu:P.underlying t with
  | none=>rw[hu]at hp;exact hp.elim
  | some dt=>
  cases dt with
  | bool=>
   obtain⟨b,rfl,rfl⟩:=DataW.trod_bool hu h
   obtain⟨h1,h2⟩:=one (v:=.bool b) (a:=.bool b) rfl
   exact⟨h1,.bool b,by rw[aQ];simp[h2],by unfold sG;rw[hu];exact⟨b,rfl⟩⟩
  | int k=>
   obtain⟨m,rfl,rfl,hwf⟩:=DataW.trod_int hu h
   obtain⟨h1,h2⟩:=one (v:=.int k m) (a:=.int k m) rfl
   exact⟨h1,.int k m,by rw[kN];simp[h2],by unfold sG;rw[hu];exact⟨m,rfl,hwf⟩⟩
  | string=>
   obtain⟨s,rfl,rfl,_⟩:=DataW.trod_string hu h
   obtain⟨h1,h2⟩:=one (v:=.string s) (a:=.str (aD s)) rfl
   refine⟨h1,.str (aD s),by rw[sS];simp[h2],?_⟩
   unfold sG;rw[hu];simp only[DataW.weights,ycg,yck,Bool.and_true,decide_eq_true_eq]at hw;refine⟨_,rfl,by unfold aD;simpa using hw,fun c hc=>?_⟩
   unfold aD at hc;simp only[yaq]at hc;obtain⟨u,_,rfl⟩:=hc
   exact UInt8.toNat_lt u
  | slice e=>
   rw[hu]at hp;obtain⟨hSe,hpos⟩:=hp
   rcases DataW.trod_slice hu h with⟨rfl,rfl⟩ | ⟨a,len,cap,elems,rest,m,hm,rfl,rfl,_,hlc,_,hel,hE,hR,_⟩
   ·obtain⟨h1,h2⟩:=one (v:=.slice none 0 0) (a:=.nilslice) rfl
    refine⟨h1,.sl (P.cellsOf e) [],by rw[wJ];exact⟨_,by simp[h2],[],.inl ⟨rfl,rfl⟩,by rw[oC]⟩,?_⟩
    unfold sG;rw[hu];exact⟨[],rfl,by simp,fun y hy=>by simp at hy⟩
   ·obtain rfl:n=m:=by omega
    simp only[DataW.weights,hu,ycg,ybb,ydi,decide_eq_true_eq,ybf]at hw;obtain⟨hsz,hwe,hwr⟩:=hw
    by_cases hcap:cap=0
    ·subst hcap
     obtain rfl:len=0:=by omega
     obtain⟨h1,h2⟩:=one (v:=.slice (some a) 0 0) (a:=.slice 0 0 0 0) (by cases a;rfl)
     refine⟨h1,.sl (P.cellsOf e) [],?_,?_⟩
     ·rw[wJ,ycm,List.map_nil,h2]
      refine⟨_,rfl,[],.inr ⟨0,0,0,rfl,ybk _,?_,fun i cs hi=>by simp at hi⟩,by rw[oC]⟩
      obtain⟨c,k,lo,hc⟩:=h0
      have:=hc
      unfold nG at this;rw[pN]at this;split at this
      case isFalse=>cases this
      rw[yab (by omega)]at this
      cases ho:w.heap[0]? with
      | none=>rw[ho]at this;cases this
      | some o=>
       rw[ho]at this
       cases o with
       | cells c' t' fr'=>
        simp only[yai,absB]at this
        cases this
        exact⟨_,_,_,hc,.inl rfl⟩
       | _=>cases this
     ·unfold sG
      rw[hu];exact⟨[],rfl,by simp,fun y hy=>by simp at hy⟩
    ·have hr:=(hR rfl).1
     have hRr:=(hR rfl).2
     have hel1:∀i,i<len->∃p:List Value × D,w.cells? 0 (a.add (i*P.cellsOf e)) (P.cellsOf e)=some p.1/\Has w.heap.size p.1/\RD (nG w) p.2 (p.1.map (av w.heap.size))/\sG P n e p.2:=by
      intro i hi;have:=hE i hi
      obtain⟨y,hy⟩:∃y,elems[i]?=some y:=⟨elems[i]'(by omega),ybd (by omega)⟩
      rw[hy]at this;simp only[Option.bind_eq_some_iff]at this;obtain⟨c1,hc1,hy1⟩:=this
      obtain⟨g1,d,g2,g3⟩:=ih e c1 y hSe hy1 (mZ hwe (i:=i) (by simp[hy]))
      exact⟨(c1,d),hc1,g1,g2,g3⟩
     obtain⟨l,hl,hq⟩:=zd4 len hel1
     have hfirst:∃c1,w.cells? 0 a (P.cellsOf e)=some c1:=by
      by_cases hlen:len=0
      ·have:=hRr 0 (by omega)
       obtain⟨y,hy⟩:∃y,rest[0]?=some y:=⟨rest[0]'(by omega),ybd (by omega)⟩
       rw[hy]at this;simp only[Option.bind_eq_some_iff]at this;obtain⟨c1,hc1,_⟩:=this
       exact⟨c1,by simpa[hlen,Addr.add]using hc1⟩
      ·obtain⟨p,hp,_⟩:=hel1 0 (by omega)
       exact⟨p.1,by simpa[Addr.add]using hp⟩
     obtain⟨c1,hc1⟩:=hfirst
     obtain⟨hspot,c,ct,fr,hblk,_⟩:=(zqg hc1).2 hpos
     have hb:a.block<w.heap.size:=(ybe.1 hblk).1
     have hav:zqk w.heap.size (.slice (some a) len cap)=some (.slice (256+a.block) a.off len cap):=by
      obtain⟨bb,oo,ss⟩:=a
      simp only at hspot hb
      subst hspot
      cases cap with
      | zero=>exact absurd rfl hcap
      | succ cap=>unfold zqk;simp only[];rw[yab hb]
     obtain⟨h1,h2⟩:=one hav
     refine⟨h1,.sl (P.cellsOf e) (l.map (·.2)),?_,?_⟩
     ·rw[wJ]
      refine⟨_,by rw[ycm,List.map_nil,h2],l.map (fun p=>p.1.map (av w.heap.size)),.inr ⟨256+a.block,a.off,cap,by rw[ybf,hl],by rw[ybf,hl];exact hlc,⟨_,_,_,zql hblk,.inl rfl⟩,fun i cs hi=>?_⟩,?_⟩
      ·rw[ybu]at hi
       cases hli:l[i]? with
       | none=>rw[hli]at hi;cases hi
       | some p=>
        rw[hli]at hi;obtain rfl:p.1.map (av w.heap.size)=cs:=by simpa using hi
        obtain⟨k1,k2,k3,k4⟩:=hq i p hli
        obtain⟨m1,m2⟩:=zqg k1
        obtain⟨_,c',ct',fr',hb',hcc⟩:=m2 hpos
        have eb:(a.add (i*P.cellsOf e)).block=a.block:=by unfold Addr.add;split<;>rfl
        have eo:(a.add (i*P.cellsOf e)).off=a.off+i*P.cellsOf e:=by unfold Addr.add;split<;>simp_all
        rw[eb]at hb'
        rw[hblk]at hb'
        cases hb'
        rw[eo]at hcc;exact⟨by rw[ybf];exact m1,at_old hblk m1 hcc k2⟩
      ·refine oC.mk (by simp) fun i d cs' h1 h2=>?_
       rw[ybu]at h1 h2
       cases hli:l[i]? with
       | none=>rw[hli]at h1;cases h1
       | some p=>
        rw[hli]at h1 h2;obtain rfl:p.2=d:=by simpa using h1
        obtain rfl:p.1.map (av w.heap.size)=cs':=by simpa using h2
        exact(hq i p hli).2.2.1
     ·unfold sG
      rw[hu];refine⟨_,rfl,?_,fun y hy=>?_⟩
      ·rw[ybf,hl,<- hel]
       exact Nat.le_trans (ybi _ (Nat.le_add_right _ _)) hsz
      ·obtain⟨p,hp,rfl⟩:=yaq.1 hy
       obtain⟨i,hi⟩:=List.mem_iff_getElem?.1 hp
       exact(hq i p hi).2.2.2
  | struct fs=>
   rw[hu]at hp;obtain⟨hf,ht⟩:=hp
   obtain⟨xs,m,hm,rfl,hlen,hxs,hel⟩:=DataW.trod_struct hu h
   obtain rfl:n=m:=by omega
   simp only[DataW.weights,hu]at hw;have hel1:∀i,i<fs.toList.length->∃p:D,∀f,fs.toList[i]?=some f->Has w.heap.size ((cs.drop f.offset).take (P.cellsOf f.type))/\RD (nG w) p (((cs.drop f.offset).take (P.cellsOf f.type)).map (av w.heap.size))/\sG P n f.type p:=by
    intro i hi;have hi':i<fs.size:=by simpa using hi
    obtain⟨f,hfi⟩:∃f,fs.toList[i]?=some f:=⟨fs.toList[i],ybd hi⟩
    have:=hel i f (by simpa using hfi)
    obtain⟨y,hy⟩:∃y,xs[i]?=some y:=⟨xs[i]'(by omega),ybd (by omega)⟩
    rw[hy]at this;obtain⟨g1,d,g2,g3⟩:=ih f.type _ y (hf f (ycv hfi)) this (nZ hw (i:=i) (by rw[ybu,hfi];rfl) (by rw[ybu,hy];rfl))
    refine⟨d,fun f' hf'=>?_⟩
    rw[hfi]at hf'
    cases hf'
    exact⟨g1,g2,g3⟩
   obtain⟨l,hl,hq⟩:=zd4 fs.toList.length hel1
   have hfl:=zch (cs:=cs) (P:=P) (fs:=fs.toList) (off:=0) (by rw[hlen];exact ht)
   rw[ycr]at hfl;refine⟨fun v hv=>?_,.st l,?_,?_⟩
   ·rw[<- hfl]at hv
    obtain⟨part,hpart,hv⟩:=List.mem_flatten.1 hv
    obtain⟨f,hfm,rfl⟩:=yaq.1 hpart
    obtain⟨i,hi⟩:=List.mem_iff_getElem?.1 hfm
    have hi':i<fs.toList.length:=(ybc.1 hi).1
    exact(hq i (l[i]'(by omega)) (ybd (by omega)) f hi).1 v hv
   ·rw[kH]
    refine⟨fs.toList.map (fun f=>((cs.drop f.offset).take (P.cellsOf f.type)).map (av w.heap.size)),?_,oC.mk (by simp[hl]) fun i d cs' h1 h2=>?_⟩
    ·conv=>lhs;rw[<- hfl]
     rw[List.map_flatten,List.map_map];rfl
    ·rw[ybu]at h2
     cases hfi:fs.toList[i]? with
     | none=>rw[hfi]at h2;cases h2
     | some f=>
      rw[hfi]at h2;obtain rfl:=yci h2
      exact(hq i d h1 f hfi).2.1
   ·unfold sG
    rw[hu];exact⟨l,rfl,zzi hl fun i f d h1 h2=>(hq i d h2 f h1).2.2⟩
  | _=>rw[hu]at hp;exact hp.elim
end
end Go.Am
namespace Go.Am
open Go Go.RowKit
structure zqp (P:Program) where
 (b i u8 u16 s limbs whole frac val expr exprs row rows table tables dfn dfns clause clauses plan:TypeId)
 hb:P.underlying b=some .bool
 hi:P.underlying i=some (.int .i64)
 hu8:P.underlying u8=some (.int .u8)
 hu16:P.underlying u16=some (.int .u16)
 hs:P.underlying s=some .string
 hlimbs:P.underlying limbs=some (.slice u16)
 hexprs:P.underlying exprs=some (.slice expr)
 hrows:P.underlying rows=some (.slice row)
 htables:P.underlying tables=some (.slice table)
 hdfns:P.underlying dfns=some (.slice dfn)
 hclauses:P.underlying clauses=some (.slice clause)
 hwhole:∃fs,P.underlying whole=some (.struct fs)/\fs.toList.map (·.type)=[b,limbs]
 hfrac:∃fs,P.underlying frac=some (.struct fs)/\fs.toList.map (·.type)=[whole,whole]
 hval:∃fs,P.underlying val=some (.struct fs)/\fs.toList.map (·.type)=[u8,frac,i]
 hexpr:∃fs,P.underlying expr=some (.struct fs)/\fs.toList.map (·.type)=[u8,s,val,exprs]
 hrow:∃fs,P.underlying row=some (.struct fs)/\fs.toList.map (·.type)=[i,i,i,frac]
 htable:∃fs,P.underlying table=some (.struct fs)/\fs.toList.map (·.type)=[s,b,rows]
 hdfn:∃fs,P.underlying dfn=some (.struct fs)/\fs.toList.map (·.type)=[s,u8,b]
 hclause:∃fs,P.underlying clause=some (.struct fs)/\fs.toList.map (·.type)=[s,s,i,i,i,b,expr,expr]
 hplan:∃fs,P.underlying plan=some (.struct fs)/\fs.toList.map (·.type)=[s,dfns,tables,clauses]
 cu16:P.cellsOf u16=1
 cexpr:P.cellsOf expr=9
 crow:P.cellsOf row=7
 ctable:P.cellsOf table=3
 cdfn:P.cellsOf dfn=3
 cclause:P.cellsOf clause=24
 bytes:1<=P.bytesOf u16/\1<=P.bytesOf expr/\1<=P.bytesOf row/\1<=P.bytesOf table/\1<=P.bytesOf dfn/\1<=P.bytesOf clause
section
variable {P:Program}{f:Nat}{t:TypeId}{x:D}
def rV(h:sG P f t x):∃g,f=g+1:=by
 cases f with
 | zero=>exact h.elim
 | succ g=>exact⟨g,rfl⟩
def zq5(ht:P.underlying t=some .bool)(h:sG P f t x):∃b,x=.bool b:=by
 obtain⟨g,rfl⟩:=rV h
 unfold sG at h;rw[ht]at h;exact h
def zce{k:IntKind}(ht:P.underlying t=some (.int k))(h:sG P f t x):∃n,x=.int k n/\(Lit.int k n).wf=true:=by
 obtain⟨g,rfl⟩:=rV h
 unfold sG at h;rw[ht]at h;exact h
def zt4(ht:P.underlying t=some (.int .i64))(h:sG P f t x):∃n,x=.int .i64 n/\i64 n:=by
 obtain⟨n,rfl,hn⟩:=zce ht h
 simp only[Lit.wf,ybb,decide_eq_true_eq]at hn;have h1:IntKind.i64.min = -9223372036854775808:=rfl
 have h2:IntKind.i64.max=9223372036854775807:=rfl
 rw[h1,h2]at hn;exact⟨n,rfl,hn.1,by omega⟩
def zgr(ht:P.underlying t=some (.int .u8))(h:sG P f t x):∃n:Nat,x=.int .u8 (n:Int)/\n<256:=by
 obtain⟨n,rfl,hn⟩:=zce ht h
 simp only[Lit.wf,ybb,decide_eq_true_eq]at hn;have h1:IntKind.u8.min=0:=rfl
 have h2:IntKind.u8.max=255:=rfl
 rw[h1,h2]at hn;exact⟨n.toNat,by rw[show((n.toNat:Nat):Int)=n by omega],by omega⟩
def zt2(ht:P.underlying t=some (.int .u16))(h:sG P f t x):∃n:Nat,x=.int .u16 (n:Int)/\n<65536:=by
 obtain⟨n,rfl,hn⟩:=zce ht h
 simp only[Lit.wf,ybb,decide_eq_true_eq]at hn;have h1:IntKind.u16.min=0:=rfl
 have h2:IntKind.u16.max=65535:=rfl
 rw[h1,h2]at hn;exact⟨n.toNat,by rw[show((n.toNat:Nat):Int)=n by omega],by omega⟩
def zt3(ht:P.underlying t=some .string)(h:sG P f t x):∃l:List Nat,x=.str l/\l.length<mD/\∀c∈l,c<256:=by
 obtain⟨g,rfl⟩:=rV h
 unfold sG at h;rw[ht]at h;obtain⟨l,h1,h2,h3⟩:=h
 unfold reachBytes at h2;exact⟨l,h1,by unfold mD;omega,h3⟩
def fY{e:TypeId}{sz:Nat}(ht:P.underlying t=some (.slice e))(hc:P.cellsOf e=sz)(hb:1<=P.bytesOf e)(h:sG P f t x):∃(l:List D) (g:Nat),f=g+1/\x=.sl sz l/\l.length<mD/\∀y∈l,sG P g e y:=by
 obtain⟨g,rfl⟩:=rV h
 unfold sG at h;rw[ht]at h;obtain⟨l,h1,h2,h3⟩:=h
 have:l.length<=l.length*P.bytesOf e:=Nat.le_mul_of_pos_right _ hb
 unfold reachBytes at h2;exact⟨l,g,rfl,by rw[<- hc];exact h1,by unfold mD;omega,h3⟩
def rC.ofMap{α β γ:Type}{k:α->γ}{R:γ->β->Prop}:∀ {l:List α} {m:List β},rC (fun a b=>R (k a) b) l m->rC R (l.map k) m
 | [],_,.nil=>.nil
 | _::_,_::_,.cons h r=>.cons h (rC.ofMap r)
def bW{ts:List TypeId}(ht:∃fs,P.underlying t=some (.struct fs)/\fs.toList.map (·.type)=ts)(h:sG P f t x):∃(l:List D) (g:Nat),f=g+1/\x=.st l/\rC (fun t y=>sG P g t y) ts l:=by
 obtain⟨fs,ht,rfl⟩:=ht
 obtain⟨g,rfl⟩:=rV h
 unfold sG at h;rw[ht]at h;obtain⟨l,h1,h2⟩:=h
 exact⟨l,g,rfl,h1,rC.ofMap h2⟩
def rC.cons_inv{α β:Type}{R:α->β->Prop}{a:α}{l:List α}{m:List β}(h:rC R (a::l) m):∃b r,m=b::r/\R a b/\rC R l r:=by
 cases h with
 | cons h1 h2=>exact⟨_,_,rfl,h1,h2⟩
def rC.nil_inv{α β:Type}{R:α->β->Prop}{m:List β}(h:rC R ([]:List α) m):m=[]:=by
 cases h;rfl
def mX{α β:Type}{g:α->β}{Q:α->Prop}:∀ {l:List β},(∀y∈l,∃a,y=g a/\Q a)->∃m:List α,l=m.map g/\∀a∈m,Q a
 | [],_=>⟨[],rfl,fun _ h=>by cases h⟩
 | y::l,h=>by
  obtain⟨a,h1,h2⟩:=h y (by simp)
  obtain⟨m,h3,h4⟩:=mX (l:=l) fun z hz=>h z (ybr _ hz)
  exact⟨a::m,by simp[h1,h3],fun b hb=>by
   rcases ybs.1 hb with rfl | hb
   ·exact h2
   ·exact h4 b hb⟩
end
namespace zqp
section
variable {P:Program}(A:zqp P){f:Nat}{x:D}
def dWhole(h:sG P f A.whole x):∃w:oH,x=w.d/\w.limbs.length<mD/\tB 65536 w.limbs:=by
 obtain⟨l,g,rfl,rfl,k⟩:=bW A.hwhole h
 obtain⟨d1,r,rfl,h1,k⟩:=k.cons_inv
 obtain⟨d2,r,rfl,h2,k⟩:=k.cons_inv
 obtain rfl:=k.nil_inv
 obtain⟨b,rfl⟩:=zq5 A.hb h1
 obtain⟨l,g,rfl,rfl,hl,hm⟩:=fY A.hlimbs A.cu16 A.bytes.1 h2
 obtain⟨m,rfl,hq⟩:=mX (g:=fun n:Nat=>D.int .u16 (n:Int)) (Q:=fun n=>n<65536) fun y hy=>zt2 A.hu16 (hm y hy)
 exact⟨⟨b,m⟩,rfl,by simpa using hl,hq⟩
def dFrac(h:sG P f A.frac x):∃w:sE,x=w.dd/\w.fit:=by
 obtain⟨l,g,rfl,rfl,k⟩:=bW A.hfrac h
 obtain⟨d1,r,rfl,h1,k⟩:=k.cons_inv
 obtain⟨d2,r,rfl,h2,k⟩:=k.cons_inv
 obtain rfl:=k.nil_inv
 obtain⟨a,rfl,a1,a2⟩:=A.dWhole h1
 obtain⟨b,rfl,b1,b2⟩:=A.dWhole h2
 exact⟨⟨a,b⟩,rfl,⟨a1,b1⟩,a2,b2⟩
def dVal(h:sG P f A.val x):∃w:dE,x=w.d/\w.fit:=by
 obtain⟨l,g,rfl,rfl,k⟩:=bW A.hval h
 obtain⟨d1,r,rfl,h1,k⟩:=k.cons_inv
 obtain⟨d2,r,rfl,h2,k⟩:=k.cons_inv
 obtain⟨d3,r,rfl,h3,k⟩:=k.cons_inv
 obtain rfl:=k.nil_inv
 obtain⟨kk,rfl,hk⟩:=zgr A.hu8 h1
 obtain⟨q,rfl,hq⟩:=A.dFrac h2
 obtain⟨n,rfl,hn⟩:=zt4 A.hi h3
 exact⟨⟨kk,q,n⟩,rfl,hk,hq,hn.1,hn.2⟩
def zxz:∀ {l:List rA},(∀x∈l,x.fit)->rA.fits l
 | [],_=>by unfold rA.fits;trivial
 | x::l,h=>by unfold rA.fits;exact⟨h x (by simp),zxz fun y hy=>h y (ybr _ hy)⟩
def dExpr:∀(f:Nat) (x:D),sG P f A.expr x->∃w:rA,x=w.d/\w.fit:=by
 intro f;induction f using Nat.strongRecOn with
 | _ f ih=>
 intro x h;obtain⟨l,g,rfl,rfl,k⟩:=bW A.hexpr h
 obtain⟨d1,r,rfl,h1,k⟩:=k.cons_inv
 obtain⟨d2,r,rfl,h2,k⟩:=k.cons_inv
 obtain⟨d3,r,rfl,h3,k⟩:=k.cons_inv
 obtain⟨d4,r,rfl,h4,k⟩:=k.cons_inv
 obtain rfl:=k.nil_inv
 obtain⟨kk,rfl,hk⟩:=zgr A.hu8 h1
 obtain⟨n,rfl,hn,hn'⟩:=zt3 A.hs h2
 obtain⟨v,rfl,hv⟩:=A.dVal h3
 obtain⟨l,g',rfl,rfl,hl,hm⟩:=fY A.hexprs A.cexpr A.bytes.2.1 h4
 obtain⟨m,rfl,hq⟩:=mX (g:=rA.d) (Q:=rA.fit) fun y hy=>ih g' (by omega) y (hm y hy)
 refine⟨.mk kk n v m,?_,?_⟩
 ·rw[rA.d,rA.ds_eq]
 ·unfold rA.fit
  exact⟨hk,hn,hn',hv,by simpa using hl,zxz hq⟩
end
end zqp
end Go.Am
set_option maxRecDepth 100000
namespace Go.Am
open Go Go.RowKit Go.Proofs
def zrn[jC](B N:Nat)(hb:B<=256+jC.n):yV Tryz.prog yA B N iG:=by
 intro f g hg args H v H' hv μ w args' hH hI hl;have hg:zvp.get f=some g:=hg
 unfold zvp at hg;rcases qM hg with⟨rfl,rfl⟩ | hg
 ·exact qQ hv hH fun hv=>zab hI hv hl
 rcases qM hg with⟨rfl,rfl⟩ | hg
 ·exact .inr (zc1 hb hH hv hl)
 rcases qM hg with⟨rfl,rfl⟩ | hg
 ·exact .inr (zfp hb hH hv hl)
 rcases qM hg with⟨rfl,rfl⟩ | hg
 ·exact qQ hv hH fun hv=>zjf hI hv hl
 rcases qM hg with⟨rfl,rfl⟩ | hg
 ·exact qQ hv hH fun hv=>zjg hI hv hl
 rcases qM hg with⟨rfl,rfl⟩ | hg
 ·exact qQ hv hH fun hv=>zrp hI hv hl
 ·rw[Tr.get_leaf]at hg;cases hg
def sim13[jC](hN:6<=jC.n):Sim Tryz.prog yA (256+jC.n) jC.n iG:=
 ⟨zt0 rfl,zp0 rfl,zrn _ _ (ybk _),ybk _,by kernel_rfl,fun _ _ hb h=>h.below hN hb⟩
section
variable {w:World}
def z5v{b:Nat}{y:qA}(h:(nG w).get b=some y):b<256+w.heap.size:=by
 unfold nG at h;rw[pN]at h;split at h
 ·assumption
 ·cases h
def zq8(hL:iG w)(f:Nat)(args:List zA)(args':Array Value)(hp:∀ [jC],yA.prims.get f=none)(hl:yB (muW w) args args'.toList)
  (h:∀ [jC],∃Q:bB,Wc yA F f args (nG w) Q/\∀v t,Q v t->v=.bool true) (hf:Nat.blt f yo=true:=by rfl) :
  Calls Tryz.prog f args' w fun e w'=>e=.returned (.bool true)/\Below w.heap.size w w':=by
 letI:jC:=⟨w.heap.size⟩
 obtain⟨Q,h1,h2⟩:=h
 refine(zno (H:=⟨256+w.heap.size,nG w⟩) (sim13 hL.size) hL z67 hp (ybk _) (fun b y hb=>z5v hb) hrelW hl h1 hf).mono fun e w' ⟨v,v',t',μ',g1,g2,g3,g4,g5⟩=>?_
 have:=h2 v t' g4
 subst this;rw[wA]at g3;exact⟨by rw[g1,g3],g5⟩
def z6n(h:iG w):∀ [jC],vJ (nG w):=by
 intro _;obtain⟨t,h⟩:=h.lens
 have hb:=(ybe.1 h).1
 have e:(nG w).get 2=some (.cells (zer (fun j=>((z1n zmx).toArray[j]?).bind (zqk w.heap.size)) (z1n zmx).toArray.size) (z1n zmx).toArray.size none):=by
  unfold nG;rw[pN,yab (by omega),yab (by omega),h]
  rfl
 refine⟨_,_,_,e,fun j a ha=>?_⟩
 rw[pN,ybw];have hj:j<rR.length:=by
  have:=(ybc.1 ha).1
  simpa using this
 rw[ybu]at ha;have hL:rR=zmx:=rfl
 rw[hL]at ha hj
 cases hbt:zmx[j]? with
 | none=>rw[hbt]at ha;cases ha
 | some b=>
  rw[hbt]at ha;obtain rfl:=yci ha
  rw[yab (by simp[z1n];exact hj)]
  simp only[z1n,List.getElem?_toArray,ybu,hbt,Option.map_some,yai,zqk]
end
end Go.Am
namespace Go.Am
open Go Go.RowKit Go.ChangeShapes Go.WideShapes Go.ChangeAt
section
variable {H:Type}{enc:TypeId × Value->H}{P:Program}
def lZ(hl:laidOutB P=true){W W':World}(hb:Below W.heap.size W W'):∀ {ts:List TypeId} {vs:List Value} {ds:List (DataW H)} {ps:List MemPlace},(∀t∈ts,P.readableRec t=true/\t<P.types.size) →
  DataW.TrodAll enc P W 0 (fun _=>true) true ts vs ds ps->(∀x∈ps,x.block<W.heap.size)->DataW.TrodAll enc P W' 0 (fun b=>decide (b<W.heap.size)) true ts vs ds ps
 | [],[],[],_,_,h,_=>h
 | t::ts,_::_,_::_,_,ht,⟨p,q,h1,h2,e⟩,hs=>by
  subst e;exact⟨p,q,Below.trod hl (ht t (by simp)).1 (ht t (by simp)).2 h1 hb fun x hx=>hs x (ydc _ hx),
   lZ hl hb (fun t ht'=>ht t (ybr _ ht')) h2 fun x hx=>hs x (ycf _ hx),rfl⟩
 | [],_::_,_,_,_,h,_=>by simp[DataW.TrodAll]at h
 | [],[],_::_,_,_,h,_=>by simp[DataW.TrodAll]at h
 | _::_,[],_,_,_,h,_=>by simp[DataW.TrodAll]at h
 | _::_,_::_,[],_,_,h,_=>by simp[DataW.TrodAll]at h
def law_post(hl:laidOutB P=true){f:Func}{s:ChangeSpec}{tb:TypeId}(hp:∀t∈f.params.toList,P.readableRec t=true/\t<P.types.size)(hv:s.vars=[])(hres:f.resultTypes = #[tb])(htb:P.underlying tb=some .bool)
  {W W':World} {args:Array Value} {ds gs:List (DataW H)} {before:List MemPlace} (hfn:s.fn H ds={ results:=[.lit (.bool true)],args:=ds })
  (hW:DataW.Whole enc P f.params.toList s.vars false W args.toList ds gs before) (hb:Below W.heap.size W W') :
  s.post enc P f false true false false W args (.bool true) W':=by
 have hW0:=hW
 obtain⟨p,q,hA,hV,rfl,hfz,hnd⟩:=hW
 rw[hv]at hV;obtain⟨rfl,rfl⟩:=trodVars_none hV
 refine⟨ds,[],p++[],[],p,[],hW0,?_,?_,?_,hb.frame _,fun h=>by cases h⟩
 ·rw[ycd,hfn,hres]
  exact trodAll_mk1 (shut_bool htb _)
 ·rw[ycd,hfn]
  exact lZ hl hb hp hA fun x hx=>hW0.lt x (by simpa using hx)
 ·rw[ycd,hfn,hv]
  exact rfl
def zou{a:Assume}{C:Checked}{os:Os}{f:FuncId}{fn:Func}{s:ChangeSpec}{conds:List PathCond}{apart fresh handsOn again:Bool}{X:World->Array Value->Prop}
  (hX:∀(w w':World) (args:Array Value),w.heap=w'.heap->X w args->X w' args)
  (own:ownKnob C.prog.godebug=none) (started:os.Started) (noInit:C.prog.inits.idxOf? f=none) (hfn:C.prog.funcs[f]?=some fn)
  (witness:∃(w:World) (tape:Tape) (i:Input),w.os=os/\(w.forCall tape i).Shaped C.prog/\i.vars=[]/\Input.okWide C.prog (w.forCall tape i) .any w.heap.size f i ∧
   ((s.pre enc C.prog fn conds apart (w.forCall tape i).memory i.args/\X (w.forCall tape i).memory i.args)/\sizedMet enc C.prog fn (OpenSpec.ofChange s) apart (w.forCall tape i).memory i.args)/\a.holds C.prog (lone (Frame.enter C.prog f i.args .normal) [] (w.forCall tape i)))
  (contract:∀(W:World) (base:Nat) (args:Array Value) (ds gs:List (DataW H)) (before:List MemPlace),
   (∀(j:Nat) t v,fn.params[j]?=some t->args[j]?=some v->Value.okWide C.prog W .any base t v) →
   DataW.Whole enc C.prog fn.params.toList s.vars apart W args.toList ds gs before →
   (DataW.weightsEach C.prog (fn.params.toList++s.plain.varTypes C.prog) (ds++gs)).all (· <= reachBytes)=true->X W args->W.ShapedOpen C.prog →
   Calls C.prog f args W fun e W'=>∃v,e=.returned v/\s.post enc C.prog fn apart fresh handsOn again W args v W') :
  ReturnsInHanded a C os f .any (fun w args=>(s.pre enc C.prog fn conds apart w args/\X w args)/\sizedMet enc C.prog fn (OpenSpec.ofChange s) apart w args) (s.post enc C.prog fn apart fresh handsOn again):=by
 refine returnsInHanded_of_calls own started noInit witness ?_
 intro w tape i _ hsh _ hok hpre _;obtain⟨_,_,_,fn',hfn',_,_,_,_,hval⟩:=hok
 have e:fn'=fn:=yci (hfn'.symm.trans hfn)
 subst e;obtain⟨⟨⟨ds,gs,before,hw,hc⟩,hx⟩,hz⟩:=hpre
 have hw':=DataW.Whole.of_heap (w':=w.forCall tape i) (by rfl) hw
 refine(contract (w.forCall tape i) w.heap.size i.args ds gs before hval hw' (hz.weights hw) (hX _ _ _ (by rfl) hx) hsh).mono fun e W' ⟨v,he,hp⟩=>?_
 subst he;exact ChangeSpec.post_blind hp
variable {w:World}{base:Nat}{spare:Nat->Bool}{held:Bool}{fuel:Nat}{t e:TypeId}{cs:List Value}{ps:List MemPlace}
def jY{α:Type}{g:α->DataW H}{u:α->Value}{l:List α}{n:Nat}(ht:P.underlying t=some (.array n e))(hc:P.cellsOf e=1)(hn:P.cellsOf t=n)
  (h1:∀(m:Nat) (c:List Value) (x:DataW H × List MemPlace) (a:α),DataW.trod enc P w base spare held m e c=some x->x.1=g a->c=[u a])
  (h:DataW.trod enc P w base spare held fuel t cs=some (.agg (l.map g),ps)):cs=l.map u:=by
 obtain⟨xs,m,_,hx,hlen,hxs,hel⟩:=DataW.trod_array ht h
 simp only[Prod.mk.injEq,DataW.agg.injEq]at hx;have hl:l.length=n:=by have:=congrArg List.length hx.1;simp[hxs]at this;exact this
 rw[hn]at hlen;refine List.ext_getElem (by rw[hlen,ybf,hl]) fun i hi1 hi2=>?_
 have hi:i<n:=by omega
 have:=hel i hi
 rw[hc]at this;have hc1:((cs.drop (i*1)).take 1)=[cs[i]]:=by
  rw[Nat.mul_one,ybl hi1];rfl
 rw[hc1,ybd (by omega)]at this
 have hxi:xs[i].1=g (l[i]'(by omega)):=by
  have:=congrArg (fun z=>z[i]?) hx.1
  simp only[ybu]at this;rw[ybd (by omega),ybd (by omega)]at this
  simpa using this.symm
 have:=h1 m _ _ _ this hxi
 rw[List.getElem_map];simpa using this
def zon(he:P.underlying e=some .string)(m:Nat)(c:List Value)(x:DataW H × List MemPlace)(b:List UInt8)(h:DataW.trod enc P w base spare held m e c=some x)(hx:x.1=.lit (.string b)):c=[.string ⟨b.toArray⟩]:=by
 obtain⟨s,rfl,rfl,_⟩:=DataW.trod_string he h
 simp at hx;rw[<- hx]
def z1o(he:P.underlying e=some (.int .i64))(m:Nat)(c:List Value)(x:DataW H × List MemPlace)(n:Int)(h:DataW.trod enc P w base spare held m e c=some x)(hx:x.1=.lit (.int .i64 n)):c=[.int .i64 n]:=by
 obtain⟨k,rfl,rfl,_⟩:=DataW.trod_int he h
 simp at hx;rw[hx]
end
def joined_of{P:Program}{f:FuncId}{fn:Func}{s:ChangeSpec}{c:OpenClaim}
  (A:(c.wf (OpenSpec.ofChange s)&&laidOutB P&&mapsRowed P&&fn.params.all (P.readableRec ·)&&namedTie P c.named s.vars&&(c.stops == [])&&(P.stops == [])&&(c.knobs == [])&&(P.stopKnobs == []))=true)
  (h1:(c.inPlace == P.inPlace f)=true) (h2:(c.unfollowed == P.unfollowed f)=true) (h3:(c.recurses == P.recurses f)=true) (h4:(c.named == P.varsNamed f)=true)
  (E:((c.maps == (fn.params.toList++s.plain.varTypes P).any (P.mapsRec ·))&&(c.ifaces == (fn.params.toList++s.plain.varTypes P).any (P.ifacesRec ·))&&(c.mapsOut == P.mapsAmong fn.resultTypes.toList) &&
   (c.loops == (fn.params.toList++s.plain.varTypes P).any (P.loopsFrom ·))&&(c.wideKeys == (fn.params.toList++s.plain.varTypes P++fn.resultTypes.toList).any (P.wideKeysFrom ·)) &&
   s.vars.all (P.varReadable ·)&&fn.resultTypes.all (fun t=>P.readableRec t&&decide (t<P.types.size))&&(c.ifacesOut == fn.resultTypes.toList.any (P.ifacesRec ·))&&(c.loopsOut == fn.resultTypes.toList.any (P.loopsFrom ·))&&c.shortTexts.isNone)=true)
  (h5:(c.plainKeys == P.plainKeys)=true) (h6:P.stopsHeard=true) (h7:P.mayEnter=true) (h8:(c.lifted == P.liftsFinal)=true)
  (R:((P.make == some c.make)&&(c.kinds == (if c.domain.isEmpty then []else fn.params.toList.map fun t=>match P.underlying t with | some (.int k)=>some k | _=>none))&&(c.pinned == c.pinnedBy) &&
   (c.veiled == (fn.params.toList++s.plain.varTypes P++fn.resultTypes.toList).any (P.veiledRec ·))&&c.veiledFits P fn.params.toList (fn.params.toList++s.plain.varTypes P++fn.resultTypes.toList))=true) :
  joinedFacts P f fn s c=true:=by
 unfold joinedFacts;simp only[ybb]at A E R ⊢
 obtain⟨⟨⟨⟨⟨⟨⟨⟨a1,a2⟩,a3⟩,a4⟩,a5⟩,a6⟩,a7⟩,a8⟩,a9⟩:=A
 obtain⟨⟨⟨⟨⟨⟨⟨⟨⟨e1,e2⟩,e3⟩,e4⟩,e5⟩,e6⟩,e7⟩,e8⟩,e9⟩,e10⟩:=E
 obtain⟨⟨⟨⟨r1,r2⟩,r3⟩,r4⟩,r5⟩:=R
 exact⟨⟨⟨⟨⟨⟨⟨⟨⟨⟨⟨⟨⟨⟨⟨⟨⟨⟨⟨⟨⟨⟨⟨⟨⟨⟨⟨⟨⟨⟨⟨a1,a2⟩,a3⟩,a4⟩,a5⟩,a6⟩,a7⟩,a8⟩,a9⟩,h1⟩,h2⟩,h3⟩,h4⟩,e1⟩,e2⟩,e3⟩,e4⟩,e5⟩,e6⟩,e7⟩,e8⟩,e9⟩,h5⟩,e10⟩,h6⟩,h7⟩,h8⟩,r1⟩,r2⟩,r3⟩,r4⟩,r5⟩
end Go.Am
namespace Go.Proofs.YtbgilkcahebbfaaGreatDoor
open Go Go.Am Go.RowKit Go.ChangeShapes Go.WideShapes Go.ChangeAt
def own:ownKnob Tryz.prog.godebug=none:=by kernel_rfl
def laidOut:laidOutB Tryz.prog=true:=by kernel_rfl
def gPow : Tryz.prog.globalNamed "internal/strconv.uint64pow10" = some 5 := by kernel_rfl
def gLens : Tryz.prog.globalNamed "annuitant/calendar.lengths" = some 2 := by kernel_rfl
def gKinds : Tryz.prog.globalNamed "annuitant/parse.kindWords" = some 0 := by kernel_rfl
def gModes : Tryz.prog.globalNamed "annuitant/parse.modeWords" = some 1 := by kernel_rfl
def tPow:(Tryz.prog.globals[5]?).map (·.type)=some 233:=by kernel_rfl
def tLens:(Tryz.prog.globals[2]?).map (·.type)=some 220:=by kernel_rfl
def tKinds:(Tryz.prog.globals[0]?).map (·.type)=some 153:=by kernel_rfl
def tModes:(Tryz.prog.globals[1]?).map (·.type)=some 153:=by kernel_rfl
def laid6 : List (String × DataW Unit) := [("math/bits.deBruijn32tab", Rows.laid_math_bits_deBruijn32tab), ("math/bits.deBruijn64tab", Rows.laid_math_bits_deBruijn64tab), ("internal/strconv.uint64pow10", Rows.laid_internal_strconv_uint64pow10), ("annuitant/calendar.lengths", Rows.laid_annuitant_calendar_lengths), ("annuitant/parse.kindWords", Rows.laid_annuitant_parse_kindWords), ("annuitant/parse.modeWords", Rows.laid_annuitant_parse_modeWords)]
def door_met(os:Os)(args:Array Value):laidMetH Tryz.prog laid6 ((World.doorLaid Tryz.prog 100 os).forCall (fun _ _=>0) ⟨#[],args,[]⟩).memory:=
 laidMetH_of_parts3 (fuel:=8) (laidMet_of_run' 8 (by kernel_rfl) (by kernel_rfl)) (by kernel_rfl) (by kernel_rfl)
def eW{W:World}{n:String}{g:Nat}{cs:Array Value}(hg:Tryz.prog.globalNamed n=some g)(hv:W.var? Tryz.prog n=some cs)(hc:∃c t,W.heap[g]?=some (.cells c t (0,0))):∃t,W.heap[g]?=some (.cells cs t (0,0)):=by
 obtain⟨c,t,hc⟩:=hc
 unfold World.var? at hv
 rw[hg]at hv;simp only[yai,hc,Option.some.injEq]at hv;subst hv;exact⟨t,hc⟩
def zg7{g n:Nat}{p q:List MemPlace}(h:0<n):MemPlace.cell g 0∈MemPlace.row ⟨g,0,none⟩ n++p++q:=
 ydc _ (ydc _ (yaq.2 ⟨0,List.mem_range.2 h,rfl⟩))
def z54:Rows.laid_internal_strconv_uint64pow10 (H:=Unit)=.agg (zzn.map fun n=>.lit (.int .u64 n)):=by kernel_rfl
def z1g:Rows.laid_annuitant_calendar_lengths (H:=Unit)=.agg (zmx.map fun n=>.lit (.int .i64 n)):=by kernel_rfl
def zwo:Rows.laid_annuitant_parse_kindWords (H:=Unit)=.agg (jM.map fun b=>.lit (.string b)):=by kernel_rfl
def zwn:Rows.laid_annuitant_parse_modeWords (H:=Unit)=.agg (cK.map fun b=>.lit (.string b)):=by kernel_rfl
def zzx{H:Type}{enc:TypeId × Value->H}{P:Program}{w:World}{base:Nat}{spare:Nat->Bool}{held:Bool}{e:TypeId}(he:P.underlying e=some (.int .u64))(m:Nat)(c:List Value)(x:DataW H × List MemPlace)(n:Int)(h:DataW.trod enc P w base spare held m e c=some x)(hx:x.1=.lit (.int .u64 n)):c=[.int .u64 n]:=by
 obtain⟨k,rfl,rfl,_⟩:=DataW.trod_int he h
 simp at hx;rw[hx]
def laid_of{W:World}(h:laidMetH Tryz.prog laid6 W)(hsh:W.ShapedOpen Tryz.prog):iG W:=by
 rw[MakeChecks.laidMetH_plain _ _ _ (by kernel_rfl)]at h
 obtain⟨ps,⟨_,_,_,_,_,_,_,_,_,_,⟨_,_,_,_,_,_,_,_,_,_,⟨g0,t0,cs0,f0,p0,q0,hg0,ht0,hv0,hd0,⟨g1,t1,cs1,f1,p1,q1,hg1,ht1,hv1,hd1,⟨g2,t2,cs2,f2,p2,q2,hg2,ht2,hv2,hd2,⟨g3,t3,cs3,f3,p3,q3,hg3,ht3,hv3,hd3,_,hp3⟩,hp2⟩,hp1⟩,hp0⟩,hpb⟩,hpa⟩,_,hcell⟩:=h
 obtain rfl:=yci (gPow.symm.trans hg0)
 obtain rfl:=yci (gLens.symm.trans hg1)
 obtain rfl:=yci (gKinds.symm.trans hg2)
 obtain rfl:=yci (gModes.symm.trans hg3)
 obtain rfl:=yci (tPow.symm.trans ht0)
 obtain rfl:=yci (tLens.symm.trans ht1)
 obtain rfl:=yci (tKinds.symm.trans ht2)
 obtain rfl:=yci (tModes.symm.trans ht3)
 have c3:Tryz.prog.cellsOf 3=1:=by kernel_rfl
 have c9:Tryz.prog.cellsOf 9=1:=by kernel_rfl
 have c195:Tryz.prog.cellsOf 195=1:=by kernel_rfl
 have c233:Tryz.prog.cellsOf 233=20:=by kernel_rfl
 have c220:Tryz.prog.cellsOf 220=12:=by kernel_rfl
 have c153:Tryz.prog.cellsOf 153=7:=by kernel_rfl
 rw[z54]at hd0;rw[z1g]at hd1;rw[zwo]at hd2;rw[zwn]at hd3;have e0:cs0.toList=u64s zzn:=jY (l:=zzn) (g:=fun n=>.lit (.int .u64 n)) (u:=fun n=>.int .u64 n) Tryz.underlying233 c195 c233 (fun m c x a=>zzx Tryz.underlying195 m c x a) hd0
 have e1:cs1.toList=z1n zmx:=jY (l:=zmx) (g:=fun n=>.lit (.int .i64 n)) (u:=fun n=>.int .i64 n) Tryz.underlying220 c3 c220 (fun m c x a=>z1o Tryz.underlying3 m c x a) hd1
 have e2:cs2.toList=zlu jM:=jY (l:=jM) (g:=fun b=>.lit (.string b)) (u:=fun b=>.string ⟨b.toArray⟩) Tryz.underlying153 c9 c153 (fun m c x a=>zon Tryz.underlying9 m c x a) hd2
 have e3:cs3.toList=zlu cK:=jY (l:=cK) (g:=fun b=>.lit (.string b)) (u:=fun b=>.string ⟨b.toArray⟩) Tryz.underlying153 c9 c153 (fun m c x a=>zon Tryz.underlying9 m c x a) hd3
 have s0:cs0=(u64s zzn).toArray:=by rw[<- e0]
 have s1:cs1=(z1n zmx).toArray:=by rw[<- e1]
 have s2:cs2=(zlu jM).toArray:=by rw[<- e2]
 have s3:cs3=(zlu cK).toArray:=by rw[<- e3]
 subst s0 s1 s2 s3
 have m0:MemPlace.cell 5 0∈ps:=by
  rw[hpa,hpb,hp0];exact ycf _ (ycf _ (zg7 (by decide)))
 have m1:MemPlace.cell 2 0∈ps:=by
  rw[hpa,hpb,hp0,hp1];exact ycf _ (ycf _ (ycf _ (zg7 (by decide))))
 have m2:MemPlace.cell 0 0∈ps:=by
  rw[hpa,hpb,hp0,hp1,hp2];exact ycf _ (ycf _ (ycf _ (ycf _ (zg7 (by decide)))))
 have m3:MemPlace.cell 1 0∈ps:=by
  rw[hpa,hpb,hp0,hp1,hp2,hp3];exact ycf _ (ycf _ (ycf _ (ycf _ (ycf _ (zg7 (by decide))))))
 exact⟨eW hg2 hv2 (hcell 0 0 m2).1,eW hg3 hv3 (hcell 1 0 m3).1,eW hg1 hv1 (hcell 2 0 m1).1,Tryz.laysM144.s1_3 W hsh,eW hg0 hv0 (hcell 5 0 m0).1⟩
def stopsHeard:Tryz.prog.stopsHeard=true:=by kernel_rfl
def mayEnter:Tryz.prog.mayEnter=true:=by kernel_rfl
def bool4:Tryz.prog.underlying 4=some .bool:=Tryz.underlying4
end Go.Proofs.YtbgilkcahebbfaaGreatDoor
namespace Go.Proofs
open Go Go.Am
variable [jC]
variable {t:Tr qA}
def pv36{f:sE}{u v:zA}(h1:lA t 1 (pD f.n.limbs) u)(h2:lA t 1 (pD f.d.limbs) v)(hf:f.ok):wC yA F 16 [.agg [.bool f.n.neg,u,.bool f.d.neg,v]] t=some (.int .i64 (rM f:Nat)):=by
 have hs:=zZ hf
 refine kC.2 (w16 _ _ _ _ ?_)
 unfold rM at hs ⊢
 simp (disch:=omega) only[t16,pA,h1.len,h2.len,sA,qB,eU,wrap_i64]
 simp
mutual
def pv37:∀(x:rA) (left:Int) (cs:List zA),x.ok -> -9007199254740992<=left->left<=9007199254740992->RD t x.d cs->wC yA F 7 [.agg cs,.int .i64 left] t=some (.int .i64 (eK x left))
 | .mk op name v args,left,cs,hx,hl1,hl2,h=>by
  obtain⟨a,b,c,rfl,ha,hb,hc⟩:=fJ h
  simp only[rA.op,rA.name,rA.v,rA.args]at ha hb hc ⊢
  have hx':=hx
  unfold rA.ok at hx';have hf:=zZ hx'.2.1
  have hn:=hx'.1
  unfold mD at hn;refine kC.2 (w7 _ _ _ _ _ _ _ _ _ _ ?_)
  simp (disch:=omega) only[t7,pA,q16,pv36 ha hb hx'.2.1,sA,qB,zos,lV,if_true,xO,wrap_i64,Int.tdiv_eq_ediv_of_nonneg]
  unfold eK;exact z30 args args left _ op name v _ _ c 0 hc rfl hx'.2.2.2 hx'.2.2.1 (by omega) hl1 hl2 (by omega)
def z30:∀(l args:List rA) (left n:Int) (op:Nat) (name:List Nat) (v:dE) (a b c:zA) (i:Nat),lA t 9 (args.map rA.d) c->args.drop i=l->rA.oks l->args.length<mD->0<=n -> -9007199254740992<=left->left<=9007199254740992->n<=27021597764222976 →
  jp 7 2 [.int .i64 left,.int .i64 n,.int .i64 i,.int .u8 op,.str name,.int .u8 v.kind,.bool v.f.n.neg,a,.bool v.f.d.neg,b,.int .i64 v.i,c] t (fun v' t'=>v'=.int .i64 (yN l left n)/\t'=t)
 | [],args,left,n,op,name,v,a,b,c,i,hc,hd,hok,hsz,hn,hl1,hl2,hn2=>by
  have:=zki hd
  refine j7_2 _ _ _ _ _ _ _ _ _ _ _ _ ?_
  simp only[t7_2,pA,hc.len,sA,qB,ybf,iD];rw[yaa (by omega)]
  unfold yN;simp
 | x::l,args,left,n,op,name,v,a,b,c,i,hc,hd,hok,hsz,hn,hl1,hl2,hn2=>by
  obtain⟨h1,h2,h3⟩:=zf7 hd
  unfold mD at hsz;have hok':=hok
  unfold rA.oks at hok';refine j7_2 _ _ _ _ _ _ _ _ _ _ _ _ ?_
  obtain⟨pb,po,cs,g1,g2,g3,g4,g5⟩:=wG.at z0d (by simp) hc (i:=i) (d:=x.d) (by simp[h1])
  simp only[t7_2,pA,hc.len,sA,qB,ybf,iD,jG,g1,g2,dT];rw[yab (by omega)]
  unfold yN;split
  ·rename_i hle
   obtain⟨a1,b1,c1,rfl,ha1,hb1,hc1⟩:=fJ g5
   have hs:=zcp x (left-n) hok'.1
   rw[kK g5 x.zs];simp only[sA,cellsOf,z1p,z5g,zd7,zqx];simp (disch:=omega) only[q7,yaz,yba,wrap_i64]
   rw[pv37 x (left-n) _ hok'.1 (by omega) (by omega) g5]
   simp (disch:=omega) only[sA,qB,wrap_i64]
   have:=z30 l args left (n+eK x (left-n)) op name v a b c (i+1) hc h2 hok'.2 hsz (by omega) hl1 hl2 (by omega)
   rw[show((i:Int)+1)=((i+1:Nat):Int) by omega]
   exact this
  ·simp
end
end Go.Proofs
namespace Go.Proofs
open Go Go.Am
section
variable [jC]
variable {t tf:Tr qA}
def uP:List (List Nat):=[[],[100,111,119,110],[117,112],[102,108,111,111,114],[99,101,105,108],[104,97,108,102],[101,118,101,110]]
def dM(t:Tr qA):Prop:=At t 1 0 (uP.map zA.str)
def dM.mono{t':Tr qA}(h:dM t)(k:dA t t'):dM t':=At.mono k h
def zmq(hG:dM t){n:Nat}(hn:n<256):∃s,wC yA F 114 [.int .u8 (n:Int)] t=some (.str s)/\s.length<=10/\tB 256 s:=by
 by_cases h:n<7
 ·have hx:(uP.map zA.str)[n]?=some (.str (uP.getD n [])):=by
   have:n<uP.length:=h
   simp[ybd this]
  refine⟨uP.getD n [],kC.2 (w114 _ (mB (by rw[wrap_i64 (by omega) (by omega)];exact yLt (by omega)) (iA (v:=.ptr 1 n) ?_ (uD (v:=.str (uP.getD n [])) ?_ (iH ⟨rfl,rfl⟩))))),?_,?_⟩
  ·unfold zC
   rw[ty153,vA];have e:(zA.int .u8 (n:Int)).asNat=some n:=rfl
   rw[e,vA];simp only[zA.asSlice,zA.asPtr,vA,rD.asArr];rw[ty9,vA,dB.2 h,qD];simp
  ·have:=hG.load1 ty9 rfl hx
   rw[ybw]at this;exact this
  ·have:∀k,k<7->(uP.getD k []).length<=10:=by decide
   exact this n h
  ·have:∀k,k<7->∀x∈uP.getD k [],x<256:=by decide
   exact this n h
 ·exact⟨[],kC.2 (w114 _ (jB (by rw[wrap_i64 (by omega) (by omega)];exact nLt (by omega)) ⟨rfl,rfl⟩)),by simp,fun x hx=>by cases hx⟩
def zc9{s:List Nat}(h:∀x∈s,48<=x/\x<58):tB 256 s:=fun x hx=>by have:=h x hx;omega
def nM{a b:List Nat}(ha:tB 256 a)(hb:tB 256 b):tB 256 (a++b):=fun x hx=>by
 rcases yaf.1 hx with h | h
 ·exact ha x h
 ·exact hb x h
def zmt{neg:Bool}{n:Nat}:tB 256 (intN neg n)/\intN neg n≠[]:=by
 have h:=zby n
 refine⟨nM ?_ (zc9 (wY n)),fun e=>?_⟩
 ·cases neg
  ·intro x hx;cases hx
  ·intro x hx;simp at hx;omega
 ·unfold intN at e
  rw[List.append_eq_nil_iff]at e;rw[e.2]at h;simp at h
def zpb{f:sE}:tB 256 (oJ f)/\oJ f≠[]:=by
 unfold oJ zb8;refine⟨nM zmt.1 ?_,fun e=>zmt.2 (List.append_eq_nil_iff.1 e).1⟩
 split
 ·intro x hx;cases hx
 ·intro x hx
  rcases ybs.1 hx with rfl | hx
  ·decide
  ·exact zmt.1 x hx
def zwe{n:Int}:tB 256 (cI n)/\cI n≠[]:=by
 by_cases h:n<0
 ·obtain⟨u,rfl⟩:∃u:Nat,n = -(u:Int):=⟨n.natAbs,by omega⟩
  rw[zj6 (by omega)]
  refine⟨fun x hx=>?_,by simp⟩
  rcases ybs.1 hx with rfl | hx
  ·decide
  ·exact zc9 (wY u) x hx
 ·obtain⟨u,rfl⟩:∃u:Nat,n=(u:Int):=⟨n.toNat,by omega⟩
  rw[zdp];exact⟨zc9 (wY u),fun e=>by have:=zby u;rw[e]at this;simp at this⟩
def zjs{s:List Nat}(h:tB 256 s)(hn:s≠[]):tB 256 (gJ s)/\gJ s≠[]:=by
 unfold gJ;split
 ·exact⟨nM (by intro x hx;simp at hx;omega) fun x hx=>h x (List.mem_of_mem_drop hx),by simp⟩
 ·exact⟨h,hn⟩
def zlj{v:dE}(hv:v.fit)(hp:eJ v=true):ze0 (zyu v.i) v≠[]/\(ze0 (zyu v.i) v).length<=20100/\tB 256 (ze0 (zyu v.i) v):=by
 obtain⟨_,hff,hi1,hi2⟩:=hv
 have hil:=zhl hi1 hi2
 have hsl:=xX (cI v.i)
 have hsi:=zjs (zwe (n:=v.i)).1 zwe.2
 have hsf:=zjs (zpb (f:=v.f)).1 zpb.2
 have hc:=zqi v.i
 have hF:∀k,(k=2\/k=3)->v.kind=k->(gJ (oJ v.f)).length<=20010:=by
  intro k hk e;have h1:=zdv hff (zbo hp (by omega))
  have h2:=xX (oJ v.f)
  omega
 unfold ze0;split
 ·split
  ·exact⟨by simp,by simp,by intro x hx;simp at hx;omega⟩
  ·exact⟨by simp,by simp,by intro x hx;simp at hx;omega⟩
 ·split
  ·rename_i e;have:=hF 2 (.inl rfl) e;exact⟨hsf.2,by omega,hsf.1⟩
  ·split
   ·rename_i e;have:=hF 3 (.inr rfl) e
    exact⟨by simp,by simp;omega,nM (by intro x hx;simp at hx;omega) hsf.1⟩
   ·split
    ·exact⟨fun e=>by rw[e]at hc;simp at hc,by omega,hc.2⟩
    ·split
     ·exact⟨by simp,by simp;omega,nM hsi.1 (by intro x hx;simp at hx;omega)⟩
     ·split
      ·exact⟨by simp,by simp;omega,nM hsi.1 (by intro x hx;simp at hx;omega)⟩
      ·rename_i h1 h2 h3 h4 h5 h6
       exfalso
       unfold eJ at hp;rw[yaa (by omega),yaa h1,yaa h4,yaa (by omega)]at hp
       cases hp
def zkc{op:Nat}(h:op<27):(pC op).word.length<=10/\∀x∈(pC op).word,x<256:=by
 have:∀k,k<27->(pC k).word.length<=10/\∀x∈(pC k).word,x<256:=by decide +kernel
 exact this op h
def zf3{op:Nat}(h:op<27):((pC op).style=1->op=1)/\((pC op).style=2->(pC op).word≠[])/\((pC op).style=3->1<=(pC op).least)/\((pC op).style=4->2<=(pC op).least)/\((pC op).style=5->1<=(pC op).least/\(pC op).word≠[])/\(pC op).style<=6/\(pC op).most<=3/\(op=1->(pC op).style=1):=by
 have:∀k,k<27->((pC k).style=1->k=1)/\((pC k).style=2->(pC k).word≠[])/\((pC k).style=3->1<=(pC k).least)/\((pC k).style=4->2<=(pC k).least)/\((pC k).style=5->1<=(pC k).least/\(pC k).word≠[])/\(pC k).style<=6/\(pC k).most<=3/\(k=1->(pC k).style=1):=by decide +kernel
 exact this op h
def zbr{s:List Nat}(h:yI s=true):s.length<=24:=by
 unfold yI at h;split at h
 ·simp
 ·simp only[ybb,decide_eq_true_eq]at h
  exact h.1.1.1
def gH (h:Nat):Nat:=86000+200*h
def WOk (bf:Nat)(x:rA):Prop:=∀(d:Nat) (cs:List zA) (tf t:Tr qA) (bx:Nat) (s:List Nat) (Q:bB),x.fit->gD x d=true->vD tf bf none nK->vJ tf->dM tf->RD tf x.d cs->BX 110 [.ptr bf 0] tf t bx s->s.length<=95000 →
 (∀t' s',BX 110 [.ptr bf 0] tf t' bx s'->s'≠[]->s'.length<=max s.length (gH (25-d))->Q (.tup []) t')->Wc yA F 40 [.ptr bx 0,.agg cs] t Q
def zL{b:Nat}:vB yA 110 0 (.ptr b 0)=some (.ptr b 0):=by kernel_rfl
def zx1{b:Nat}:vB yA 110 1 (.ptr b 0)=some (.ptr b 2):=by kernel_rfl
def BX.forms{bf bx:Nat}{s:List Nat}(h:BX 110 [.ptr bf 0] tf t bx s):mA yA 67 ⟨0,t⟩ (.ptr bx 2)=some (.ptr bf 0):=by
 obtain⟨_,_,_,_,_,p,tv,_,h4,_,_⟩:=h
 exact h4.load1 (j:=2) ty67 rfl rfl
section
variable {bf bx:Nat}{s:List Nat}{Q:bB}
def znw{y:rA}{d:Nat}{cs:List zA}{lev:Int}(hy:WOk bf y)(hfit:y.fit)(hP:gD y d=true)(hF:vD tf bf none nK)(hM:vJ tf)(hW:dM tf)(hr:RD tf y.d cs)(hB:BX 110 [.ptr bf 0] tf t bx s)(hs:s.length<=94000)(hd1:1<=d)
  (hQ:∀t' s',BX 110 [.ptr bf 0] tf t' bx s'->s'≠[]->s'.length<=max s.length (gH (25-d))+2->Q (.tup []) t'):Wc yA F 83 [.ptr bx 0,.agg cs,.int .i64 lev] t Q:=by
 obtain⟨a,b,c,rfl,ha,hb,hc⟩:=fJ hr
 have hop:y.op<27:=by
  obtain⟨op,name,v,args⟩:=y
  unfold gD gM at hP;simp only[ybb,decide_eq_true_eq]at hP;exact hP.1.2.1.1.1.1
 have hbm:gH (25-d)<=91000:=by unfold gH;omega
 refine w83 _ _ _ _ _ _ _ _ _ _ _ ?_
 unfold t83;refine iA sF (iA zx1 (uD hB.forms (iA sF (iA (zxh hop) (iA (yL (by decide)) (uD (z1e (hF.up hB.le) hop) (eD ?_)))))))
 by_cases hl:lev<=((pC y.op).level:Int)
 ·refine mB (yLe hl) (mC ?_)
  rw[q40];exact hy d _ tf t bx s _ hfit hP hF hM hW hr hB (by omega) fun t' s' h1 h2 h3=>hQ t' s' h1 h2 (by omega)
 ·refine jB (nLe hl) (iA sF (iA zL (mC ?_)))
  rw[q23];refine hB.write (by simp) (by intro x hx;simp at hx;omega) (by simp;omega) fun _ t1 h1=>mC ?_
  rw[q40];refine hy d _ tf t1 bx _ _ hfit hP hF hM hW hr h1 (by simp;omega) fun t2 s2 h2 h2n h2l=>iA sF (iA zL (mC ?_))
  rw[q23];simp only[ybg,List.length_singleton]at h2l;refine h2.write (by simp) (by intro x hx;simp at hx;omega) (by simp;omega) fun _ t3 h3=>?_
  exact hQ _ _ h3 (by simp) (by simp;omega)
def zyt{args:List rA}{d:Nat}{c:zA}(hall:∀y∈args,WOk bf y)(hfits:∀y∈args,y.fit)(hP:∀y∈args,gD y (d+1)=true)(hF:vD tf bf none nK)(hM:vJ tf)(hW:dM tf)(hc:lA tf 9 (args.map rA.d) c)(hlen:args.length<=3)(hd:d<=24)
  {c0 c2 c7:Int} {c1:List Nat} {c3 c5:Bool} {c4 c6 c8:zA} (h19c:c0=19->0<=c7/\c7<256):∀(k i:Nat) (t:Tr qA) (s:List Nat),i+k=args.length->BX 110 [.ptr bf 0] tf t bx s->s≠[]->s.length<=gH (24-d)+100+2*i →
  (∀t' s',BX 110 [.ptr bf 0] tf t' bx s'->s'≠[]->s'.length<=gH (24-d)+130->Q (.tup []) t') →
  jp 84 2 [.ptr bx 0,c,.int .i64 (args.length:Int),.int .i64 (i:Int),.int .u8 c0,.str c1,.int .u8 c2,.bool c3,c4,.bool c5,c6,.int .i64 c7,c8] t Q:=by
 have hbm:gH (24-d)<=91000:=by unfold gH;omega
 intro k;induction k with
 | zero=>
  intro i t s hi hB hn hs hQ;refine j84_2 _ _ _ _ _ _ _ _ _ _ _ _ _ ?_
  unfold z5d;refine jB (nLt (by omega)) ?_
  by_cases h19:c0=19
  ·refine mB (yEq h19) (iA sF (iA zL (mC ?_)))
   obtain⟨n,hn1,hn2⟩:∃n:Nat,tA .u8 c7=(n:Int)/\n<256:=⟨c7.toNat,by have:=h19c h19;rw[zb6 this.1 this.2];omega,by have:=h19c h19;omega⟩
   obtain⟨w,hw1,hw2,hw3⟩:=zmq (hW.mono hB.le) hn2
   rw[hn1,q114,hw1,sA];refine iH (iA (vK (by simp;omega)) (iH (mC ?_)))
   rw[q23];refine hB.write (by simp) (nM (by intro x hx;simp at hx;omega) hw3) (by simp;omega) fun _ t1 h1=>iA sF (iA zL (mC ?_))
   rw[q23];refine h1.write (by simp) (by intro x hx;simp at hx;omega) (by simp;omega) fun _ t2 h2=>?_
   exact hQ _ _ h2 (by simp) (by simp;omega)
  ·refine jB (oE h19) (iA sF (iA zL (mC ?_)))
   rw[q23];refine hB.write (by simp) (by intro x hx;simp at hx;omega) (by simp;omega) fun _ t2 h2=>?_
   exact hQ _ _ h2 (by simp) (by simp;omega)
 | succ k ih=>
  intro i t s hi hB hn hs hQ;have hlt:i<args.length:=by omega
  have hm:args[i]∈args:=ycj hlt
  refine j84_2 _ _ _ _ _ _ _ _ _ _ _ _ _ ?_
  unfold z5d;obtain⟨b0,off0,cs,g1,g2,_,_,g5⟩:=wG.at z0d (by simp) hc (i:=i) (d:=args[i].d) (by simp[hlt])
  have ld:mA yA 31 ⟨0,t⟩ (.ptr b0 off0)=some (dW true cs):=cW (H:=⟨0,tf⟩) (HA:=⟨0,t⟩) hB.le g2
  refine mB (yLt (by omega)) (iA g1 (uD ld ?_))
  rw[dT];refine jJ (kK g5 (rA.zs _)) ?_
  have hmk:=g5.mk (rA.zs args[i])
  have hcs:[zA.int .u8 ((cellsOf cs).i 0),.str ((cellsOf cs).s 1),.int .u8 ((cellsOf cs).i 2),.bool ((cellsOf cs).b 3),(cellsOf cs).v 4,.bool ((cellsOf cs).b 5),(cellsOf cs).v 6,.int .i64 ((cellsOf cs).i 7),(cellsOf cs).v 8]=cs:=hmk
  rw[hcs];refine mB g5.all ?_
  have next:∀t' s',BX 110 [.ptr bf 0] tf t' bx s'->s'≠[]->s'.length<=gH (24-d)+100+2*(i+1)->jp 84 2 [.ptr bx 0,c,.int .i64 (args.length:Int),.int .i64 (tA .i64 ((i:Int)+1)),.int .u8 c0,.str c1,.int .u8 c2,.bool c3,c4,.bool c5,c6,.int .i64 c7,c8] t' Q:=by
   intro t' s' h1 h2 h3;rw[wrap_i64 (by omega) (by omega),show(i:Int)+1=((i+1:Nat):Int) by omega]
   exact ih (i+1) t' s' (by omega) h1 h2 h3 hQ
  have e25:25-(d+1)=24-d:=by omega
  by_cases h0:0<i
  ·refine mB (yLt (by omega)) (iA sF (iA zL (mC ?_)))
   rw[q23];refine hB.write (by simp) (by intro x hx;simp at hx;omega) (by simp;omega) fun _ t1 h1=>mC ?_
   rw[q40];refine hall _ hm (d+1) _ tf t1 bx _ _ (hfits _ hm) (hP _ hm) hF hM hW g5 h1 (by simp;omega) fun t2 s2 h2 h2n h2l=>rG ?_
   rw[e25]at h2l;simp only[ybg,ybn,ybx]at h2l;exact next t2 s2 h2 h2n (by omega)
  ·refine jB (nLt (by omega)) (mC ?_)
   rw[q40];refine hall _ hm (d+1) _ tf t bx _ _ (hfits _ hm) (hP _ hm) hF hM hW g5 hB (by omega) fun t2 s2 h2 h2n h2l=>rG ?_
   rw[e25]at h2l;exact next t2 s2 h2 h2n (by omega)
def znp{op:Nat}{name:List Nat}{v:dE}{args:List rA}{d:Nat}{a b c:zA}(hall:∀y∈args,WOk bf y)(hfit:rA.fit (.mk op name v args))(hP:gD (.mk op name v args) d=true)(hs6:(pC op).style=6)(hF:vD tf bf none nK)(hM:vJ tf)(hW:dM tf)
  (hc:lA tf 9 (args.map rA.d) c) (hB:BX 110 [.ptr bf 0] tf t bx s) (hs:s.length<=65536)
  (hQ:∀t' s',BX 110 [.ptr bf 0] tf t' bx s'->s'≠[]->s'.length<=gH (25-d)->Q (.tup []) t') :
  Wc yA F 84 [.ptr bx 0,.agg [.int .u8 op,.str name,.int .u8 v.kind,.bool v.f.n.neg,a,.bool v.f.d.neg,b,.int .i64 v.i,c],.ptr bf (op*8)] t Q:=by
 unfold gD gM at hP;simp only[ybb,decide_eq_true_eq]at hP;obtain⟨⟨hd,⟨⟨⟨h27,_⟩,hl⟩,hm⟩,hnm⟩,hrest⟩:=hP
 obtain⟨f1,f2,f3,f4,f5,f6,f7,f8⟩:=zf3 h27
 have hw:=zkc h27
 have h1:op≠1:=fun e=>by have:=f8 e;omega
 rw[yaa h1,ybb,iY,ycb]at hrest;unfold rA.fit at hfit;have hfits:=rA.fits_mem hfit.2.2.2.2.2
 have hmax:gH (25-d)=gH (24-d)+200:=by unfold gH;omega
 have h19c:(op:Int)=19->0<=v.i/\v.i<256:=by
  intro e;have hcp:=hrest.1
  unfold eM at hcp;rw[yab (by omega)]at hcp
  simp only[ybb,decide_eq_true_eq]at hcp;omega
 have go9:∀t' s',BX 110 [.ptr bf 0] tf t' bx s'->s'≠[]->s'.length<=65536+100->jp 84 9 [.ptr bx 0,.int .u8 op,.str name,.int .u8 v.kind,.bool v.f.n.neg,a,.bool v.f.d.neg,b,.int .i64 v.i,c] t' Q:=by
  intro t' s' k1 k2 k3;refine j84_9 _ _ _ _ _ _ _ _ _ _ ?_
  unfold t84_9;have hlen:=hc.len
  rw[ybf]at hlen;refine iA hlen (eD (rG ?_))
  refine zyt (d:=d) hall hfits (fun y hy=>hrest.2 y hy) hF hM hW hc (by omega) hd h19c args.length 0 t' s' (by omega) k1 k2 (by unfold gH;omega) fun t2 s2 g1 g2 g3=>hQ t2 s2 g1 g2 (by omega)
 refine w84 _ _ _ _ _ _ _ _ _ _ _ ?_
 unfold t84;have hld:=zwm (hF.up hB.le) h27
 refine iA sF (iA zL (iA sF (iA (yL (by decide)) (uD hld (iH (iA (vK (by simp;omega)) (iH (mC ?_))))))))
 rw[q23];refine hB.write (by simp) (nM hw.2 (by intro x hx;simp at hx;omega)) (by simp;omega) fun _ t1 h1=>?_
 refine iA sF (iA (yL (by decide)) (uD (zph (hF.up h1.le) h27) (rF ?_)))
 cases hn:(pC op).named with
 | true=>
  rw[hn,yab rfl]at hnm;have hnl:=zbr hnm
  refine mB rfl (iA sF (iA zL (iA (vK (by simp;omega)) (iH (mC ?_)))))
  rw[q23];refine h1.write (by simp) (nM hfit.2.2.1 (by intro x hx;simp at hx;omega)) (by simp;omega) fun _ t2 h2=>rG ?_
  exact go9 _ _ h2 (by simp) (by simp;omega)
 | false=>exact jB (by simp) (rG (go9 _ _ h1 (by simp) (by simp;omega)))
mutual
/-- THE WRITER COMES TO AN END -/
def zii:∀(x:rA),WOk bf x
 | .mk op name v args=>by
  have hall:=zez args
  intro d cs tf t bx s Q hfit hP hF hM hW hr hB hs hQ;have hP0:=hP
  have hfit0:=hfit
  obtain⟨a,b,c,rfl,ha,hb,hc⟩:=fJ hr
  simp only[rA.op,rA.name,rA.v,rA.args]at ha hb hc ⊢
  unfold gD gM at hP;simp only[ybb,decide_eq_true_eq]at hP;obtain⟨⟨hd,⟨⟨⟨h27,hs0⟩,hl⟩,hm⟩,hnm⟩,hrest⟩:=hP
  simp only[ycp,decide_eq_false_iff_not]at hs0;obtain⟨f1,f2,f3,f4,f5,f6,f7,f8⟩:=zf3 h27
  have hw:=zkc h27
  unfold rA.fit at hfit;have hfits:=rA.fits_mem hfit.2.2.2.2.2
  have hmax:gH (25-d)=gH (24-d)+200:=by unfold gH;omega
  have e25:25-(d+1)=24-d:=by omega
  have hmb:gH (24-d)<=91000/\86000<=gH (24-d):=by unfold gH;omega
  refine w40 _ _ _ _ _ _ _ _ _ _ ?_
  unfold t40;refine iA sF (iA zL (mC ?_))
  rw[q24,hB.len,sA];refine eD ?_
  by_cases hbig:65536<s.length
  ·refine mB (yLt (by omega)) ?_
   exact hQ t s hB (fun e=>by rw[e]at hbig;simp at hbig) (by omega)
  refine jB (nLt (by omega)) ?_
  have hFt:=hF.up hB.le
  refine iA sF (iA zx1 (uD hB.forms (iA sF (iA (zxh h27) (iA sF (iA (yL (by decide)) (uD (zpg hFt h27) (eD ?_))))))))
  have ldw:∀ {t'},dA tf t'->mA yA 9 ⟨0,t'⟩ (.ptr bf (op*8+1))=some (.str (pC op).word):=fun h=>zwm (hF.up h) h27
  have notc:(pC op).style≠1->zew args (d+1)=true:=by
   intro hne;have h1:op≠1:=fun e=>hne (f8 e)
   rw[yaa h1,ybb]at hrest;exact hrest.2
  have arg:∀(i:Nat) (lev:Int) (t1:Tr qA) (s1:List Nat) (K:zA->T) (Q:bB) (k:Nat),(pC op).style≠1->i<args.length->k<8->BX 110 [.ptr bf 0] tf t1 bx s1->s1.length<=94000->mA yA 3 ⟨0,t1⟩ (.ptr bf (op*8+k))=some (.int .i64 lev) →
    (∀t' s',BX 110 [.ptr bf 0] tf t' bx s'->s'≠[]->s'.length<=max s1.length (gH (24-d))+2->wp 40 (K (.tup [])) t' Q) →
    wp 40 (.opt (zC yA 29 c (.int .i64 (i:Int))) fun a36=>.light (fun m=>mA yA 31 ⟨0,m⟩ a36) fun a37=>.asG [(.int .u8 0),(.str []),(.int .u8 0),(.bool false),.nilslice,(.bool false),.nilslice,(.int .i64 0),.nilslice] a37 fun X38=>
     .opt (oB (.ptr bf (op*8))) fun a39=>.opt (vB yA 106 k a39) fun a40=>.light (fun m=>mA yA 3 ⟨0,m⟩ a40) fun a41=>.asI .i64 a41 fun n42=>.call 83 [.ptr bx 0,(.agg [(.int .u8 (X38.i 0)),(.str (X38.s 1)),(.int .u8 (X38.i 2)),(.bool (X38.b 3)),(X38.v 4),(.bool (X38.b 5)),(X38.v 6),(.int .i64 (X38.i 7)),(X38.v 8)]),(.int .i64 n42)] K) t1 Q:=by
   intro i lev t1 s1 K Q k hne hi hk h1 hs1 hldp hQ';have hm:args[i]∈args:=ycj hi
   obtain⟨b0,off0,cs,g1,g2,_,_,g5⟩:=wG.at z0d (by simp) hc (i:=i) (d:=args[i].d) (by simp[hi])
   have ld:mA yA 31 ⟨0,t1⟩ (.ptr b0 off0)=some (dW true cs):=cW (H:=⟨0,tf⟩) (HA:=⟨0,t1⟩) h1.le g2
   refine iA g1 (uD ld ?_)
   rw[dT];refine jJ (kK g5 (rA.zs _)) ?_
   have hmk:=g5.mk (rA.zs args[i])
   have hcs:[zA.int .u8 ((cellsOf cs).i 0),.str ((cellsOf cs).s 1),.int .u8 ((cellsOf cs).i 2),.bool ((cellsOf cs).b 3),(cellsOf cs).v 4,.bool ((cellsOf cs).b 5),(cellsOf cs).v 6,.int .i64 ((cellsOf cs).i 7),(cellsOf cs).v 8]=cs:=hmk
   rw[hcs];refine iA sF (iA (yL hk) (uD hldp (eD (mC ?_))))
   rw[q83];have hPy:gD args[i] (d+1)=true:=by
    have:=notc hne
    rw[iY,ycb]at this;exact this _ hm
   refine znw (d:=d+1) (hall _ hm) (hfits _ hm) hPy hF hM hW g5 h1 hs1 (by omega) fun t' s' k1 k2 k3=>?_
   rw[e25]at k3;exact hQ' t' s' k1 k2 k3
  have done:∀t' s',BX 110 [.ptr bf 0] tf t' bx s'->s'≠[]->s'.length<=gH (25-d)->wp 40 (.ret (.tup [])) t' Q:=fun t' s' k1 k2 k3=>hQ t' s' k1 k2 (by omega)
  have i0:((0:Nat):Int)=0:=rfl
  have i1:((1:Nat):Int)=1:=rfl
  have arg0:=arg 0
  have arg1:=arg 1
  rw[i0]at arg0;rw[i1]at arg1;have style:(pC op).style=1\/(pC op).style=2\/(pC op).style=3\/(pC op).style=4\/(pC op).style=5\/(pC op).style=6:=by omega
  rcases style with e | e | e | e | e | e
  ·-- a constant
   refine mB (yEq (by omega)) (iA sF (iA zL (mC ?_)))
   have hop1:=f1 e
   rw[yab hop1]at hrest;obtain⟨v1,v2,v3⟩:=zlj hfit.2.2.2.1 hrest
   have hv:=zil (date:=zyu v.i) (ha.mono hB.le) (hb.mono hB.le) hfit.2.2.2.1 hrest (fun hk=>by
    have hp:=hrest
    unfold eJ at hp;rw[yaa (by omega),yaa (by omega),yab hk]at hp
    simp only[ybb,decide_eq_true_eq]at hp;exact cal_ok (hM.mono hB.le) hp.2.1 hp.2.2)
   rw[q28,hv,sA];refine iH (mC ?_)
   rw[q23];refine hB.write v1 v3 (by omega) fun _ t1 h1=>done _ _ h1 (by simp[v1]) ?_
   rw[ybg];unfold gH;omega
  ·-- a word
   refine jB (oE (by omega)) (mB (yEq (by omega)) (iA sF (iA zL (iA sF (iA (yL (by decide)) (uD (ldw hB.le) (iH (mC ?_))))))))
   rw[q23];refine hB.write (f2 e) hw.2 (by omega) fun _ t1 h1=>done _ _ h1 (by simp[f2 e]) ?_
   rw[ybg];omega
  ·-- word,name,at
   have hnl:name.length<=24:=by
    split at hnm
    ·exact zbr hnm
    ·have:=(mK _ _).1 hnm;rw[this];simp
   have h3:=f3 e
   refine jB (oE (by omega)) (jB (oE (by omega)) (mB (yEq (by omega)) (iA sF (iA zL (iA sF (iA (yL (by decide)) (uD (ldw hB.le) (iH (iA (vK (by omega)) (iH (iA (vK (by simp;omega)) (iH (mC ?_)))))))))))))
   rw[q23];refine hB.write (by simp) (nM (nM hw.2 hfit.2.2.1) (by intro x hx;simp at hx;omega)) (by simp;omega) fun _ t1 h1=>?_
   refine arg0 _ t1 _ _ _ 6 (by omega) (by omega) (by decide) h1 (by simp;omega) (zmy (hF.up h1.le) h27) fun t2 s2 k1 k2 k3=>done _ _ k1 k2 ?_
   simp only[ybg,ybn,ybx]at k3;omega
  ·-- an operator
   have h4:=f4 e
   refine jB (oE (by omega)) (jB (oE (by omega)) (jB (oE (by omega)) (mB (yEq (by omega)) ?_)))
   refine arg0 _ t _ _ _ 6 (by omega) (by omega) (by decide) hB (by omega) (zmy hFt h27) fun t1 s1 k1 k2 k3=>?_
   refine iA sF (iA zL (iA sF (iA (yL (by decide)) (uD (ldw k1.le) (iH (iA (vK (by simp;omega)) (iH (iA (vK (by simp;omega)) (iH (mC ?_))))))))))
   rw[q23];refine k1.write (by simp) (nM (nM (by intro x hx;simp at hx;omega) hw.2) (by intro x hx;simp at hx;omega)) (by simp;omega) fun _ t2 h2=>?_
   refine arg1 _ t2 _ _ _ 7 (by omega) (by omega) (by decide) h2 (by simp;omega) (z1d (hF.up h2.le) h27) fun t3 s3 m1 m2 m3=>done _ _ m1 m2 ?_
   simp only[ybg,ybn,ybx]at m3;omega
  ·-- not
   have h5:=f5 e
   refine jB (oE (by omega)) (jB (oE (by omega)) (jB (oE (by omega)) (jB (oE (by omega)) (mB (yEq (by omega)) (iA sF (iA zL (iA sF (iA (yL (by decide)) (uD (ldw hB.le) (iH (mC ?_)))))))))))
   rw[q23];refine hB.write h5.2 hw.2 (by omega) fun _ t1 h1=>?_
   refine arg0 _ t1 _ _ _ 6 (by omega) (by omega) (by decide) h1 (by simp;omega) (zmy (hF.up h1.le) h27) fun t2 s2 k1 k2 k3=>done _ _ k1 k2 ?_
   simp only[ybg]at k3;omega
  ·-- a call
   refine jB (oE (by omega)) (jB (oE (by omega)) (jB (oE (by omega)) (jB (oE (by omega)) (jB (oE (by omega)) (mB (yEq (by omega)) (mC ?_))))))
   rw[q84];exact znp hall hfit0 hP0 e hF hM hW hc hB (by omega) fun t' s' k1 k2 k3=>done t' s' k1 k2 k3
def zez:∀(l:List rA),∀y∈l,WOk bf y
 | [],_,h=>by cases h
 | x::l,y,h=>by
  rcases ybs.1 h with e | h
  ·rw[e];exact zii x
  ·exact zez l y h
end
end
end
section
variable [jC]
variable {t tf:Tr qA}
def zm9{x:rA}{cs:List zA}{Q:bB}(hfit:x.fit)(hP:gD x 1=true)(hM:vJ t)(hW:dM t)(hr:RD t x.d cs)(hQ:∀t' s,dA t t'->s≠[]->Q (.str s) t'):Wc yA F 19 [.agg cs] t Q:=by
 obtain⟨a,b,c,rfl,ha,hb,hc⟩:=fJ hr
 refine w19 _ _ _ _ _ _ _ _ _ ?_
 unfold t19;refine mC ?_
 rw[q37];refine zc7 fun bf t1 h1 h2 h3 h4 h5=>?_
 refine mB rfl (qG fun bx hbx hbb=>?_)
 obtain⟨t2,e1,e2,e3,e4⟩:=sU hbx [.nilptr,.nilslice,.ptr bf 0] (some (.ty 110))
 have hbox:zqz yA 110 (.agg [.nilptr,.nilslice,.ptr bf 0]) ⟨bx,t1⟩=some (.ptr bx 0,⟨bx+1,t2⟩):=by
  unfold zqz;have:tI yA 110=some (.ty 110):=by kernel_rfl
  rw[this,<- e1];rfl
 refine⟨_,_,hbox,mC ?_⟩
 have hB:BX 110 [.ptr bf 0] t1 t2 bx []:=⟨hbb,hbx,e3,(by intro x hx;cases hx),rfl,.nilptr,.nilslice,.inl rfl,e2,.inl ⟨rfl,rfl⟩,zdq⟩
 rw[q40];refine zii x 1 _ t1 t2 bx [] _ hfit hP h3 (hM.mono h4) (hW.mono h4) (hr.mono h4) hB (by simp) fun t3 s h6 h7 h8=>?_
 refine iA sF (iA zL (mC ?_))
 rw[q25];have hl:s.length<=91000:=by
  have:gH (25-1)=90800:=rfl
  rw[this]at h8;simp at h8;omega
 exact h6.string h7 (by omega) fun t4 h9=>iH (hQ _ _ (h4.trans h9) h7)
def zp4{x:rA}{cs:List zA}{Q:bB}(hfit:x.fit)(hM:vJ t)(hW:dM t)(hr:RD t x.d cs)
  (hQ:∀t' s e,dA t t'->(if gD x 1=true then(s≠[]/\e=0\/s=[]/\e=3)else s=[]/\e=2)->Q (.tup [.str s,.int .i64 e]) t'):Wc yA F 8 [.agg cs] t Q:=by
 have hr0:=hr
 obtain⟨a,b,c,rfl,ha,hb,hc⟩:=fJ hr
 refine w8 _ _ _ _ _ _ _ _ _ ?_
 unfold t8;refine mC ?_
 rw[q17];refine zae fun bf t1 h1 h2 h3 h4 h5=>?_
 have e:(cellsOf [zA.ptr bf 0]).v 0=.ptr bf 0:=rfl
 refine jJ (aU rfl) (mB hr0.sameA (mC ?_))
 have he:=zhz h3 x 1 _ hfit (by omega) (hr0.mono h4)
 rw[show((1:Nat):Int)=1 from rfl]at he
 rw[q18,e,he,sA];refine rF ?_
 cases hP:gD x 1 with
 | false=>
  refine mB rfl ?_
  exact hQ _ _ _ h4 (by rw[hP,yaa (by simp)];exact⟨rfl,rfl⟩)
 | true=>
  refine jB (by simp) (mC ?_)
  rw[q19];refine zm9 hfit hP (hM.mono h4) (hW.mono h4) (hr0.mono h4) fun t2 s h6 h7=>iH ?_
  by_cases hl:65536<s.length
  ·refine mB (yLt (by rw[xO];omega)) ?_
   exact hQ _ _ _ (h4.trans h6) (by rw[hP,yab rfl];exact .inr ⟨rfl,rfl⟩)
  ·refine jB (nLt (by rw[xO];omega)) ?_
   exact hQ _ _ _ (h4.trans h6) (by rw[hP,yab rfl];exact .inl ⟨h7,rfl⟩)
end
end Go.Proofs
namespace Go.Am
open Go Go.RowKit
section
variable {t tf:Tr qA}{C:oA}{base:Nat}
def zs1{v:zA}:(mF v).Nodup:=by
 unfold mF;split<;>simp
def At.whole{b off:Nat}{cs:List zA}{ty:Nat}{y:uC}(h:At t b off cs)(hy:C.tys.get ty=some y)(ha:y.desc.isAgg=true)(hn:y.size=cs.length):mA C ty ⟨0,t⟩ (.ptr b off)=some (.agg cs):=by
 have:=At.load (j:=0) h hy ha hn (by omega)
 rw[ycr,yca (by omega)]at this
 exact this
def wD.newCel{A B:List zF}{n:Nat}{t':Tr qA}{lo:Option Lo}{cs:List zA}(h:wD base tf t (A++B))(hn:t.get n=none)(hb:base<=n)(hc:vD t' n lo cs)(ht:dA t t')(ho:lD n t t'):wD base tf t' (A++dJ n lo cs::B):=
 wD.add (o':=dJ n lo cs) h (fun k hk=>ho k (fun e=>hk (by simp[dJ,e]))) (fun k hk=>by
  have:k=n:=by simpa[dJ]using hk
  subst this;exact⟨hn,hb⟩) hc (by simp[dJ]) (h.tle.trans ht)
def wD.cel{A B:List zF}{n:Nat}{lo:Option Lo}{cs:List zA}(h:wD base tf t (A++dJ n lo cs::B)):vD t n lo cs:=h.ok (dJ n lo cs) (by simp)
def wD.setCel{A B:List zF}{n j T:Nat}{lo:Option Lo}{cs:List zA}{y:uC}{v:zA}(h:wD C.base tf t (A++dJ n lo cs::B))(hT:C.tys.get T=some y)(hl:v.cells.length=y.size)(hj:j+v.cells.length<=cs.length)(hone:tC zA.one v.cells=true) :
  ∃t',(∀q,sC C T (.ptr n j) v ⟨q,t⟩=some (tD,⟨q,t'⟩))/\wD C.base tf t' (A++dJ n lo (dN cs j v.cells)::B):=by
 have hlow:=h.low n (by simp[dJ])
 obtain⟨t',s1,s2,s3⟩:=h.cel.store (C:=C) hlow.1 (j:=j) (v:=v) hT hl hj hone
 exact⟨t',s1,wD.upd (o:=dJ n lo cs) (o':=dJ n lo (dN cs j v.cells)) h (fun k h1 _=>s3 k (fun e=>h1 (by simp[dJ,e]))) (fun k hk=>.inl hk) s2 (by simp[dJ]) (h.tle.off hlow.2 s3)⟩
end
end Go.Am
namespace Go.Am
open Go Go.RowKit
section
section
variable {t tf:Tr qA}{C:oA}{base:Nat}
def LK (cd:Lo)(base:Nat)(t:Tr qA)(sz:Nat)(cl:List (List zA))(v:zA):Prop:=
 (v=.nilslice/\cl=[])\/∃b c,v=.slice b 0 cl.length cl.length/\base<=b/\t.get b=some (.cells c (cl.length*sz) (some cd)) ∧
  ∀(i:Nat) cs,cl[i]?=some cs->cs.length=sz/\∀(j:Nat) a,cs[j]?=some a->c.get (i*sz+j)=some a
def zbe{T el sz:Nat}(hT:ztd C T el sz){cl cm:List (List zA)}{v x:zA}(hv:LK (.sz sz) C.base t sz cl v)(hx:elems t sz x cm)(hone:∀a∈cm.flatten,zA.one a=true)(hpos:0<cm.length)(hl:cl.length+cm.length<400000){n:Nat}(hn:t.get n=none)(hbase:C.base<=n) :
  ∃t',bE C T T v x ⟨n,t⟩=some (.slice n 0 (cl.length+cm.length) (cl.length+cm.length),⟨n+1,t'⟩)/\LK (.sz sz) C.base t' sz (cl++cm) (.slice n 0 (cl.length+cm.length) (cl.length+cm.length))/\(∀c,c≠n->¬ pJ v c->t'.get c=t.get c):=by
 obtain⟨⟨y,hy1,hy2,hy3⟩,⟨z,hz1,hz2,hz3,hz4,hz5⟩,hnb⟩:=hT
 have hcode:qH el z=.sz sz:=by rw[NB.code hnb hz1,hz2]
 have hall:=hx.len
 obtain⟨hf,hlen⟩:=hx.first (n:=n)
 have hflat:=zbv hall
 have hfl:aA cm.flatten=cm.length*sz:=by rw[gC];exact hflat
 have base:bE C T T v x ⟨n,t⟩=(match v.asSlice with
  | some s=>bif Nat.ble (s.2.2.1+cm.length) s.2.2.2 then lQ C ⟨n,t⟩ z cm.length cm.flatten s else nO C ⟨n,t⟩ el z cm.length cm.flatten s
  | none=>jA (Nat.beq v.tag 5) (cJ ⟨n,t⟩ el z cm.length cm.flatten)):=by
  unfold bE gO;rw[hy1,vA,vA,hy3];simp only[ycl,qD];rw[hy2,vA,hz1,vA,hlen,vA,hz2,hf,vA];rfl
 have ok:lL z cl.length cl.length cm.length cm.flatten=true:=by
  unfold lL;have h1:Nat.blt (cl.length+cm.length+cl.length) 1000000000=true:=dB.2 (by omega)
  have h2:Nat.blt ((cl.length+cm.length+cl.length)*z.bytes) 1000000000=true:=dB.2 (by
   have:=ydb (show cl.length+cm.length+cl.length<=800000 by omega) hz4
   omega)
  have h3:Nat.blt z.bytes 1000000000=true:=dB.2 (by omega)
  have h4:(!Nat.beq z.size 0)=true:=by
   cases hq:Nat.beq z.size 0 with
   | true=>have:=pB.1 hq;omega
   | false=>rfl
  have h5:Nat.beq (aA cm.flatten) (cm.length*z.size)=true:=by rw[hfl,hz2];exact pB.2 rfl
  have h6:Nat.beq (aA z.zero) z.size=true:=by rw[hz3,hz2];exact pB.2 rfl
  rw[h1,h2,h3,h4,h5,h6];rfl
 rcases hv with⟨rfl,rfl⟩ | ⟨b,c,rfl,hb0,hb2,hb3⟩
 ·refine⟨t.set n (.cells (Tr.ofList cm.flatten) (aA cm.flatten) (some (.sz sz))),?_,.inr ⟨n,Tr.ofList cm.flatten,by simp,hbase,?_,fun i cs hi=>⟨hall i cs hi,fun j a hj=>?_⟩⟩,fun c hc _=>(fI hn _).2 c hc⟩
  ·rw[base]
   simp only[zA.asSlice];show jA true (cJ ⟨n,t⟩ el z cm.length cm.flatten)=_
   rw[qD];unfold cJ;have:Nat.beq cm.length 0=false:=by
    cases hq:Nat.beq cm.length 0 with
    | true=>have:=pB.1 hq;omega
    | false=>rfl
   have ok:lL z 0 0 cm.length cm.flatten=true:=ok
   rw[this,cond_false,ok,qD,hcode];simp only[ybx,ybw];rfl
  ·rw[Tr.get_set,yab rfl,hfl];simp
  ·rw[Tr.get_ofList];exact iR hall i j cs a hi hj
 ·have hbn:b≠n:=by intro e;rw[e,hn]at hb2;cases hb2
  refine⟨(t.del b).set n (.cells (c.setMany cm.flatten (cl.length*z.size)) ((cl.length+cm.length)*z.size) (some (.sz sz))),?_,.inr ⟨n,c.setMany cm.flatten (cl.length*z.size),by simp,hbase,?_,fun i cs hi=>?_⟩,fun k hk1 hk2=>?_⟩
  ·rw[base]
   simp only[zA.asSlice];have:Nat.ble (cl.length+cm.length) cl.length=false:=by
    cases hq:Nat.ble (cl.length+cm.length) cl.length with
    | true=>have:=vE.1 hq;omega
    | false=>rfl
   rw[this,cond_false];unfold nO;simp only[];rw[show ∀x,(!(Nat.beq 0 1&&x))=true from fun _=>rfl,qD,ok,qD]
   unfold fC;rw[hb2,vA];simp only[qA.asCells,vA];unfold bS;simp only[];have g1:loEq (.sz sz) (qH el z)=true:=by rw[hcode];exact zmu.2 rfl
   have g2:Nat.ble (cl.length*z.size) (cl.length*sz)=true:=vE.2 (by rw[hz2];exact ybk _)
   have g3:Nat.ble (cl.length*sz) ((cl.length+cm.length)*z.size)=true:=vE.2 (by rw[hz2];exact ybi _ (by omega))
   have g4:tC zA.one cm.flatten=true:=by rw[cG];exact ycb.2 hone
   have g5:(!Nat.blt b C.base)=true:=by
    cases hq:Nat.blt b C.base with
    | true=>have:=dB.1 hq;omega
    | false=>rfl
   rw[g1,g2,g3,g4,g5];simp only[hz2];rfl
  ·rw[Tr.get_set,yab rfl,hz2,ybg]
  ·rw[List.getElem?_append]at hi
   split at hi
   ·rename_i hlt
    obtain⟨k1,k2⟩:=hb3 i cs hi
    refine⟨k1,fun j a hj=>?_⟩
    have hjl:j<sz:=by rw[<- k1];exact(ybc.1 hj).1
    have:i*sz+j<cl.length*sz:=by
     have:=ybi sz (show i+1<=cl.length by omega)
     rw[ybo]at this;omega
    rw[Tr.get_setMany,hz2,yaa (by omega)]
    exact k2 j a hj
   ·rename_i hge
    have k1:=hall _ cs hi
    refine⟨k1,fun j a hj=>?_⟩
    have hf1:=iR hall _ j cs a hi hj
    have hlt:=(ybc.1 hf1).1
    have e:i*sz=cl.length*sz+(i-cl.length)*sz:=by rw[<- ybo];congr 1;omega
    rw[Tr.get_setMany,hz2,yab (by omega),show i*sz+j-cl.length*sz=(i-cl.length)*sz+j by omega]
    exact hf1
  ·rw[Tr.get_set,yaa hk1,Tr.get_del,yaa (fun e=>hk2 (oP.2 e))]
def LK.at{cd:Lo}{sz:Nat}{cl:List (List zA)}{b o k c:Nat}(h:LK cd base t sz cl (.slice b o k c)){i:Nat}{cs:List zA}(hi:cl[i]?=some cs):At t b (0+i*sz) cs:=by
 rcases h with⟨h,_⟩ | ⟨b',c',e,h1,h2,h3⟩
 ·cases h
 ·cases e
  exact⟨_,_,_,h2,fun j a hj=>by rw[ybw];exact(h3 i cs hi).2 j a hj⟩
def LK.elems{cd:Lo}{sz:Nat}{cl:List (List zA)}{v:zA}(hcd:cd.es=sz)(h:LK cd base t sz cl v):elems t sz v cl:=by
 rcases h with h | ⟨b,c,rfl,h1,h2,h3⟩
 ·exact .inl h
 ·exact .inr ⟨b,0,_,rfl,ybk _,⟨_,_,_,h2,.inr ⟨_,rfl,hcd⟩⟩,fun i cs hi=>⟨(h3 i cs hi).1,_,_,_,h2,fun j a hj=>by rw[ybw];exact(h3 i cs hi).2 j a hj⟩⟩
def LK.off{cd:Lo}{sz:Nat}{cl:List (List zA)}{v:zA}(h:LK cd base t sz cl v){t':Tr qA}(hk:∀k∈mF v,t'.get k=t.get k):LK cd base t' sz cl v:=by
 rcases h with h | ⟨b,c,rfl,h1,h2,h3⟩
 ·exact .inl h
 ·exact .inr ⟨b,c,rfl,h1,by rw[hk b (by simp[mF])];exact h2,h3⟩
def LK.live{cd:Lo}{sz:Nat}{cl:List (List zA)}{v:zA}(h:LK cd base t sz cl v):∀k∈mF v,∃y,t.get k=some y:=by
 intro k hk;rcases h with⟨rfl,_⟩ | ⟨b,c,rfl,h1,h2,h3⟩
 ·cases hk
 ·have:k=b:=by simpa[mF]using hk
  subst this;exact⟨_,h2⟩
mutual
/-- an expression's cells; its lists lie in blocks of their own -/
def jF (base:Nat)(tf t:Tr qA):rA->List zA->List Nat->Prop
 | .mk op name v args,cs,bs=>∃a b c cl bss,cs=eF (.mk op name v args) a b c/\lA tf 1 (pD v.f.n.limbs) a/\lA tf 1 (pD v.f.d.limbs) b/\LK (.sz 9) base t 9 cl c/\nD base tf t args cl bss/\bs=mF c++bss
def nD(base:Nat)(tf t:Tr qA):List rA->List (List zA)->List Nat->Prop
 | [],cl,bs=>cl=[]/\bs=[]
 | x::l,cl,bs=>∃cs r b1 b2,cl=cs::r/\bs=b1++b2/\jF base tf t x cs b1/\nD base tf t l r b2
end
mutual
def jF.keep{tf' t':Tr qA}(hf:dA tf tf'):∀(x:rA) (cs:List zA) (bs:List Nat),jF base tf t x cs bs->(∀k∈bs,t'.get k=t.get k)->jF base tf' t' x cs bs
 | .mk op name v args,cs,bs,h,hk=>by
  unfold jF at h ⊢
  obtain⟨a,b,c,cl,bss,h1,h2,h3,h4,h5,rfl⟩:=h
  exact⟨a,b,c,cl,bss,h1,h2.mono hf,h3.mono hf,h4.off (fun k hm=>hk k (ydc _ hm)),nD.keep hf args cl bss h5 (fun k hm=>hk k (ycf _ hm)),rfl⟩
def nD.keep{tf' t':Tr qA}(hf:dA tf tf'):∀(l:List rA) (cl:List (List zA)) (bs:List Nat),nD base tf t l cl bs->(∀k∈bs,t'.get k=t.get k)->nD base tf' t' l cl bs
 | [],cl,bs,h,_=>by unfold nD at h ⊢;exact h
 | x::l,cl,bs,h,hk=>by
  unfold nD at h ⊢
  obtain⟨cs,r,b1,b2,rfl,rfl,h1,h2⟩:=h
  exact⟨cs,r,b1,b2,rfl,rfl,jF.keep hf x cs b1 h1 (fun k hm=>hk k (ydc _ hm)),nD.keep hf l r b2 h2 (fun k hm=>hk k (ycf _ hm))⟩
end
mutual
def jF.live:∀(x:rA) (cs:List zA) (bs:List Nat),jF base tf t x cs bs->∀k∈bs,∃y,t.get k=some y
 | .mk op name v args,cs,bs,h,k,hk=>by
  unfold jF at h;obtain⟨a,b,c,cl,bss,h1,h2,h3,h4,h5,rfl⟩:=h
  rcases yaf.1 hk with hk | hk
  ·exact h4.live k hk
  ·exact nD.live args cl bss h5 k hk
def nD.live:∀(l:List rA) (cl:List (List zA)) (bs:List Nat),nD base tf t l cl bs->∀k∈bs,∃y,t.get k=some y
 | [],cl,bs,h,k,hk=>by unfold nD at h;rw[h.2]at hk;cases hk
 | x::l,cl,bs,h,k,hk=>by
  unfold nD at h;obtain⟨cs,r,b1,b2,rfl,rfl,h1,h2⟩:=h
  rcases yaf.1 hk with hk | hk
  ·exact jF.live x cs b1 h1 k hk
  ·exact nD.live l r b2 h2 k hk
end
def tP{op:Nat}{name:List Nat}{v:dE}{args:List rA}{a b c:zA}(ha:lA t 1 (pD v.f.n.limbs) a)(hb:lA t 1 (pD v.f.d.limbs) b)(hc:lA t 9 (args.map rA.d) c):RD t (rA.mk op name v args).d (eF (.mk op name v args) a b c):=by
 unfold rA.d eF;rw[kH,rA.ds_eq];refine⟨[[.int .u8 op],[.str name],[.int .u8 v.kind,.bool v.f.n.neg,a,.bool v.f.d.neg,b,.int .i64 v.i],[c]],rfl,?_⟩
 rw[lE];refine⟨_,_,rfl,rfl,?_⟩
 rw[lE];refine⟨_,_,rfl,rfl,?_⟩
 rw[lE];refine⟨_,_,rfl,?_,lE.2 ⟨_,_,rfl,wJ.2 ⟨_,rfl,hc⟩,dF.2 rfl⟩⟩
 unfold dE.d;rw[kH];refine⟨[[.int .u8 v.kind],[.bool v.f.n.neg,a,.bool v.f.d.neg,b],[.int .i64 v.i]],rfl,?_⟩
 rw[lE];refine⟨_,_,rfl,rfl,?_⟩
 rw[lE];refine⟨_,_,rfl,?_,lE.2 ⟨_,_,rfl,rfl,dF.2 rfl⟩⟩
 unfold sE.dd oH.d;rw[kH];refine⟨[[.bool v.f.n.neg,a],[.bool v.f.d.neg,b]],rfl,lE.2 ⟨_,_,rfl,?_,lE.2 ⟨_,_,rfl,?_,dF.2 rfl⟩⟩⟩
 ·rw[kH]
  exact⟨[[.bool v.f.n.neg],[a]],rfl,lE.2 ⟨_,_,rfl,rfl,lE.2 ⟨_,_,rfl,wJ.2 ⟨_,rfl,ha⟩,dF.2 rfl⟩⟩⟩
 ·rw[kH]
  exact⟨[[.bool v.f.d.neg],[b]],rfl,lE.2 ⟨_,_,rfl,rfl,lE.2 ⟨_,_,rfl,wJ.2 ⟨_,rfl,hb⟩,dF.2 rfl⟩⟩⟩
mutual
def jF.rd(hle:dA tf t):∀(x:rA) (cs:List zA) (bs:List Nat),jF base tf t x cs bs->RD t x.d cs
 | .mk op name v args,cs,bs,h=>by
  unfold jF at h;obtain⟨a,b,c,cl,bss,rfl,h2,h3,h4,h5,rfl⟩:=h
  exact tP (h2.mono hle) (h3.mono hle) ⟨cl,h4.elems rfl,nD.rd hle args cl bss h5⟩
def nD.rd(hle:dA tf t):∀(l:List rA) (cl:List (List zA)) (bs:List Nat),nD base tf t l cl bs->oC t (l.map rA.d) cl
 | [],cl,bs,h=>by unfold nD at h;exact dF.2 h.1
 | x::l,cl,bs,h=>by
  unfold nD at h;obtain⟨cs,r,b1,b2,rfl,rfl,h1,h2⟩:=h
  exact lE.2 ⟨cs,r,rfl,jF.rd hle x cs b1 h1,nD.rd hle l r b2 h2⟩
end
def rK(base:Nat)(x:rA)(cs:List zA)(bs:List Nat):zF where
 blks:=bs
 ok:=fun tf t=>jF base tf t x cs bs
 keep:=fun h hf hk=>jF.keep hf x cs bs h fun k hm=>(hk k hm).1
 live:=fun h=>jF.live x cs bs h
def kI(base:Nat)(l:List rA)(cl cm:List (List zA))(v:zA)(bs:List Nat):zF where
 blks:=mF v++bs
 ok:=fun tf t=>LK (.sz 9) base t 9 (cl++cm) v/\nD base tf t l cl bs
 keep:=fun h hf hk=>⟨h.1.off fun k hm=>(hk k (ydc _ hm)).1,nD.keep hf l cl bs h.2 fun k hm=>(hk k (ycf _ hm)).1⟩
 live:=fun h k hk=>by
  rcases yaf.1 hk with hk | hk
  ·exact h.1.live k hk
  ·exact nD.live l cl bs h.2 k hk
def wD.join{o1 o2 o3:zF}{B:List zF}(h:wD base tf t (o1::o2::B))(hp:o3.blks.Perm (o1.blks++o2.blks))(hok:o1.ok tf t->o2.ok tf t->o3.ok tf t):wD base tf t (o3::B):=by
 have e:((o3::B).flatMap zF.blks).Perm ((o1::o2::B).flatMap zF.blks):=by
  simp only[List.flatMap_cons,<- ybz];exact hp.append_right _
 refine⟨h.tle,e.nodup_iff.2 h.nodup,fun o ho=>?_,fun k hk=>h.low k (e.mem_iff.1 hk)⟩
 rcases ybs.1 ho with ho | ho
 ·rw[ho];exact hok (h.ok o1 (by simp)) (h.ok o2 (by simp))
 ·exact h.ok o (by simp[ho])
def wD.conv{o1 o3:zF}{B:List zF}(h:wD base tf t (o1::B))(hp:o3.blks=o1.blks)(hok:o1.ok tf t->o3.ok tf t):wD base tf t (o3::B):=by
 refine⟨h.tle,by rw[List.flatMap_cons,hp,<- List.flatMap_cons];exact h.nodup,fun o ho=>?_,fun k hk=>h.low k (by rw[List.flatMap_cons,hp,<- List.flatMap_cons]at hk;exact hk)⟩
 rcases ybs.1 ho with ho | ho
 ·rw[ho];exact hok (h.ok o1 (by simp))
 ·exact h.ok o (by simp[ho])
def nD.snoc:∀ {l:List rA} {cl:List (List zA)} {bs:List Nat} {x:rA} {cs:List zA} {b1:List Nat},nD base tf t l cl bs->jF base tf t x cs b1->nD base tf t (l++[x]) (cl++[cs]) (bs++b1)
 | [],cl,bs,x,cs,b1,h,k=>by
  unfold nD at h;obtain⟨rfl,rfl⟩:=h
  show nD base tf t [x] [cs] b1
  unfold nD;exact⟨cs,[],b1,[],rfl,by simp,k,by unfold nD;exact⟨rfl,rfl⟩⟩
 | y::l,cl,bs,x,cs,b1,h,k=>by
  unfold nD at h;obtain⟨c0,r,b0,b2,rfl,rfl,h1,h2⟩:=h
  show nD base tf t (y::(l++[x])) (c0::(r++[cs])) (b0++b2++b1)
  unfold nD;exact⟨c0,_,b0,b2++b1,rfl,by simp,h1,nD.snoc h2 k⟩
def nD.length:∀ {l:List rA} {cl:List (List zA)} {bs:List Nat},nD base tf t l cl bs->cl.length=l.length
 | [],cl,bs,h=>by unfold nD at h;rw[h.1];rfl
 | y::l,cl,bs,h=>by
  unfold nD at h;obtain⟨c0,r,b0,b2,rfl,rfl,h1,h2⟩:=h
  simp[nD.length h2]
def wD.pushT{T el n:Nat}(hT:ztd C T el 9){B:List zF}{l:List rA}{x:rA}{cl:List (List zA)}{cs:List zA}{v w:zA}{bs b1:List Nat}(h:wD C.base tf t (rK C.base x cs b1::kI C.base l cl [] v bs::B))(hx:elems t 9 w [cs])(hl:l.length<300000)(hn:t.get n=none)(hbase:C.base<=n) :
  ∃v2 k t2,bE C T T v w ⟨n,t⟩=some (v2,⟨k,t2⟩)/\wD C.base tf t2 (kI C.base (l++[x]) (cl++[cs]) [] v2 (bs++b1)::B):=by
 obtain⟨hv,hk⟩:LK (.sz 9) C.base t 9 (cl++[]) v/\nD C.base tf t l cl bs:=h.ok (kI C.base l cl [] v bs) (by simp)
 rw[ycd]at hv;have hrd:RD t x.d cs:=jF.rd h.tle x cs b1 (h.ok (rK C.base x cs b1) (by simp))
 have hcl:=hk.length
 obtain⟨t2,c1,c2,c3⟩:=zbe hT hv hx (by intro a ha;simp at ha;exact RD.ones _ _ hrd a ha) (by simp) (by simp;omega) hn hbase
 refine⟨_,_,t2,c1,?_⟩
 have hnm:n∉(rK C.base x cs b1::kI C.base l cl [] v bs::B).flatMap zF.blks:=h.fresh hn
 have hvk:∀k∈mF v,tf.get k=none:=fun k hk=>(h.low k (by simp[kI,hk])).2
 have htle:dA tf t2:=fun k u hu=>by
  have e1:k≠n:=fun e=>by rw[e,h.tfn hn]at hu;cases hu
  have e2:¬ pJ v k:=fun e=>by rw[hvk k (zW.2 e)]at hu;cases hu
  rw[c3 k e1 e2];exact h.tle _ _ hu
 have hnd:=h.nodup
 have hsep:∀k∈bs,k∉mF v:=fun k hk hv=>by
  simp only[List.flatMap_cons,rK,kI]at hnd;rw[List.nodup_append]at hnd;have h2:=hnd.2.1
  rw[List.nodup_append]at h2;have h3:=h2.1
  rw[List.nodup_append]at h3;exact h3.2.2 k hv k hk rfl
 have hbs:∀k∈bs,t2.get k=t.get k:=fun k hm=>c3 k (fun e=>hnm (by rw[<- e];simp[kI,hm])) (fun e=>hsep k hm (zW.2 e))
 have h1:wD C.base tf t2 ([rK C.base x cs b1]++kI C.base l cl [cs] (.slice n 0 (cl.length+[cs].length) (cl.length+[cs].length)) bs::B):=by
  refine wD.upd (o:=kI C.base l cl [] v bs) h (fun k k1 k2=>c3 k (fun e=>k2 (by simp[kI,mF,e])) (fun e=>k1 (by simp[kI,zW.2 e]))) (fun k hk=>?_) ⟨c2,nD.keep (dA.refl _) l cl bs hk hbs⟩ ?_ htle
  ·rcases yaf.1 hk with hk | hk
   ·have:k=n:=by simpa[mF]using hk
    subst this;exact .inr ⟨hn,hbase⟩
   ·exact .inl (by simp[kI,hk])
  ·show(mF _++bs).Nodup
   rw[List.nodup_append];refine⟨zs1,?_,fun a ha b hb e=>?_⟩
   ·simp only[List.flatMap_cons,rK,kI]at hnd
    rw[List.nodup_append]at hnd;have h2:=hnd.2.1
    rw[List.nodup_append]at h2;have h3:=h2.1
    rw[List.nodup_append]at h3;exact h3.2.1
   ·have:a=n:=by simpa[mF]using ha
    subst this;exact hnm (by rw[e];simp[kI,hb])
 refine wD.join (o1:=rK C.base x cs b1) h1 ?_ (fun k1 k2=>?_)
 ·show(mF _++(bs++b1)).Perm (b1++(mF _++bs))
  rw[<- ybz];exact List.perm_append_comm
 ·refine⟨?_,nD.snoc k2.2 k1⟩
  rw[ycd];exact k2.1
end
end
section
section
variable {t tf:Tr qA}{C:oA}{base:Nat}
def z25(base:Nat)(W:fG)(g:Nat)(x:rA):Prop:=∀ ⦃L:List zF⦄ ⦃tf t:Tr qA⦄ ⦃cs:List zA⦄ ⦃Q:bB⦄,wD base tf t L->RD tf x.d cs->(∀tf' t' cs' bs,dA tf tf'->wD base tf' t' (rK base x cs' bs::L)->Q (.agg cs') t')->W g [.agg cs] t Q
def zst{W J:fG}{S el g p:Nat}(hT:ztd C S el 9)(hS:wG C S el 9 true){zs:List zA}{L:List zF}{l:List rA}{v0:zA}{Q:bB}{tf0:Tr qA}
  (hz:∀x∈l,x.d.zs=zs) (hg:∀x∈l,z25 C.base W g x) (hlen:l.length<300000)
  (hj:∀v i t,pA C.base W J (z2m C S el g p zs v0 v i) t Q->J p [v0,v,.int .i64 i] t Q)
  (hQ:∀tf' t' v cl bs,dA tf0 tf'->wD C.base tf' t' (kI C.base l cl [] v bs::L)->Q v t') (h0:lA tf0 9 (l.map rA.d) v0) :
  ∀(m i:Nat) (tf t:Tr qA) (v:zA) (cl:List (List zA)) (bs:List Nat),i+m=l.length->dA tf0 tf->wD C.base tf t (kI C.base (l.take i) cl [] v bs::L)->J p [v0,v,.int .i64 (i:Int)] t Q:=by
 intro m;induction m with
 | zero=>
  intro i tf t v cl bs hi hf ho;refine hj _ _ _ ?_
  unfold z2m;refine iA h0.len (eD (jB (fun e=>by have:=iD.1 e;rw[ybf]at this;omega) ?_))
  rw[yca (by omega)]at ho
  exact hQ tf t v cl bs hf ho
 | succ m ih=>
  intro i tf t v cl bs hi hf ho;have hlt:i<l.length:=by omega
  have hx:l[i]?=some l[i]:=ybd hlt
  have hd:(l.map rA.d)[i]?=some l[i].d:=by rw[ybu,hx];rfl
  have hm:l[i]∈l:=ycj hlt
  obtain⟨b,off,cs,g1,g2,g3,g4,g5⟩:=wG.at (t:=tf) hS (by simp) (h0.mono hf) hd
  have hag:zA.agg cs=(if true=true then zA.agg cs else cs.headD tD):=rfl
  obtain⟨b',off',cs',f1,f2,f3,f4,f5⟩:=wG.at (t:=t) hS (by simp) (h0.mono (hf.trans ho.tle)) hd
  rw[g1]at f1;cases f1
  have ecs:cs'=cs:=by
   obtain⟨c,n,lo,q1,q2⟩:=g3
   obtain⟨c',n',lo',q3,q4⟩:=f3
   rw[ho.tle _ _ q1]at q3
   cases q3
   refine List.ext_getElem? fun j=>?_
   rcases yau j 9 with hjs | hjs
   ·have a1:cs[j]?=some cs[j]:=ybd (by omega)
    have a2:cs'[j]?=some cs'[j]:=ybd (by omega)
    have b1:=q2 _ _ a1
    have b2:=q4 _ _ a2
    rw[b1]at b2;rw[a1,a2,yci b2]
   ·rw[List.getElem?_eq_none (by omega),List.getElem?_eq_none (by omega)]
  subst ecs;have hzz:=hz _ hm
  refine hj _ _ _ ?_
  unfold z2m;refine iA h0.len (eD (mB (iD.2 (by rw[ybf];omega)) (iA g1 (uD f2 (jJ (kK g5 hzz) (mC ?_))))))
  rw[g5.mk hzz];refine hg _ hm ho g5 fun tf' t' cs2 b1 k1 k2=>?_
  have k3:RD t' l[i].d cs2:=jF.rd k2.tle _ _ _ (k2.ok (rK C.base l[i] cs2 b1) (by simp))
  refine jJ (kK k3 hzz) ?_
  rw[k3.mk hzz];refine mB k3.all (qG fun n hn _=>?_)
  have hl2:cs2.length=9:=by
   have h1:=k2.ok (rK C.base l[i] cs2 b1) (by simp)
   revert h1
   generalize l[i]=y
   intro h1
   cases y with
   | mk op name v args=>
    unfold rK jF at h1;obtain⟨_,_,_,_,_,e,_⟩:=h1
    rw[e];rfl
  obtain⟨t1,a1,a2,a3,a4⟩:=lit1 (C:=C) hT hl2 (by decide) hn
  refine⟨_,_,a1,qG fun n2 hn2 hb2=>?_⟩
  obtain⟨v2,k,t2,c1,c2⟩:=wD.pushT hT (k2.junk hn a4) a2 (by rw[yda];omega) hn2 hb2
  refine⟨_,_,c1,rG ?_⟩
  rw[wrap_i64 (by omega) (by omega)]
  have e:l.take i++[l[i]]=l.take (i+1):=by rw[ydg,hx];rfl
  rw[e]at c2;exact ih (i+1) tf' t2 v2 _ _ (by omega) (hf.trans k1) c2
def zsu{W J:fG}{S el g p:Nat}(hT:ztd C S el 9)(hS:wG C S el 9 true){zs:List zA}{L:List zF}{l:List rA}{v0:zA}{Q:bB}
  (hz:∀x∈l,x.d.zs=zs) (hg:∀x∈l,z25 C.base W g x) (hlen:l.length<300000)
  (hj:∀v i t,pA C.base W J (z2m C S el g p zs v0 v i) t Q->J p [v0,v,.int .i64 i] t Q)
  (hQ:∀tf' t' v cl bs,dA tf tf'->wD C.base tf' t' (kI C.base l cl [] v bs::L)->Q v t') (h0:lA tf 9 (l.map rA.d) v0) (ho:wD C.base tf t L):J p [v0,.nilslice,.int .i64 0] t Q:=by
 refine zst hT hS hz hg hlen hj hQ h0 l.length 0 tf t .nilslice [] [] (by omega) (dA.refl _) ?_
 rw[List.take_zero];exact wD.add (A:=[]) (o':=kI C.base [] [] [] .nilslice []) ho (fun _ _=>rfl) (fun k hk=>by simp[kI,mF]at hk) ⟨.inl ⟨rfl,rfl⟩,by unfold nD;exact⟨rfl,rfl⟩⟩ (by simp[kI,mF]) ho.tle
def zz5:List Nat->rA->rA
 | [],x=>x
 | w::ws,x=>match x.args[w%x.args.length]? with
  | none=>x
  | some y=>zz5 ws y
def zo0 (y:rA):List Nat->rA->rA
 | [],_=>y
 | w::ws,x=>match x.args[w%x.args.length]? with
  | none=>y
  | some z=>.mk x.op x.name x.v (x.args.set (w%x.args.length) (zo0 y ws z))
def LocX (t:Tr qA)(b' off':Nat):List Nat->rA->Nat->Nat->Prop
 | [],_,b,off=>b'=b/\off'=off
 | w::ws,x,b,off=>match x.args[w%x.args.length]? with
  | none=>b'=b/\off'=off
  | some y=>∃n,At t b (off+8) [.slice n 0 x.args.length x.args.length]/\LocX t b' off' ws y n (0+w%x.args.length*9)
def nD.hole:∀ {l:List rA} {cl:List (List zA)} {bs:List Nat} {i:Nat} {y:rA},nD base tf t l cl bs->bs.Nodup->l[i]?=some y →
  ∃cs b1,cl[i]?=some cs/\jF base tf t y cs b1/\b1.Nodup/\(∀k∈b1,k∈bs)/\∀(t':Tr qA) (z:rA) (cs':List zA),dA tf t'->(∀k∈bs,k∉b1->t'.get k=t.get k)->RD t' z.d cs'->oC t' ((l.set i z).map rA.d) (cl.set i cs')
 | [],cl,bs,i,y,h,_,hi=>by rw[List.getElem?_nil]at hi;cases hi
 | x::l,cl,bs,0,y,h,hn,hi=>by
  unfold nD at h;obtain⟨c0,r,b0,b2,rfl,rfl,h1,h2⟩:=h
  rw[yaz]at hi
  cases hi;rw[List.nodup_append]at hn;refine⟨c0,b0,rfl,h1,hn.1,fun k hk=>ydc _ hk,fun t' z cs' hle hk hz=>lE.2 ⟨cs',r,rfl,hz,?_⟩⟩
  exact nD.rd hle l r b2 (nD.keep (t':=t') (dA.refl _) l r b2 h2 fun k hm=>hk k (ycf _ hm) fun e=>hn.2.2 k e k hm rfl)
 | x::l,cl,bs,i+1,y,h,hn,hi=>by
  unfold nD at h;obtain⟨c0,r,b0,b2,rfl,rfl,h1,h2⟩:=h
  rw[yba]at hi;rw[List.nodup_append]at hn;obtain⟨cs,b1,e1,e2,e3,e4,e5⟩:=nD.hole h2 hn.2.1 hi
  refine⟨cs,b1,by rw[yba];exact e1,e2,e3,fun k hk=>ycf _ (e4 k hk),fun t' z cs' hle hk hz=>lE.2 ⟨c0,r.set i cs',rfl,?_,e5 t' z cs' hle (fun k hm hm2=>hk k (ycf _ hm) hm2) hz⟩⟩
  exact jF.rd hle x c0 b0 (jF.keep (t':=t') (dA.refl _) x c0 b0 h1 fun k hm=>hk k (ydc _ hm) fun e=>hn.2.2 k hm k (e4 k e) rfl)
def bM(t t':Tr qA)(b off:Nat)(l:List zA):Prop:=∀c n lo,t.get b=some (.cells c n lo)->∃c',t'.get b=some (.cells c' n lo)/\∀j,c'.get j=if off<=j/\j<off+l.length then l[j-off]? else c.get j
def bM.at{t':Tr qA}{b off:Nat}{l cs:List zA}(h:bM t t' b off l)(k:At t b off cs):At t' b off l:=by
 obtain⟨c,n,lo,h1,h2⟩:=k
 obtain⟨c',h3,h4⟩:=h c n lo h1
 refine⟨c',n,lo,h3,fun j a hj=>?_⟩
 have hlt:=(ybc.1 hj).1
 rw[h4,yab ⟨by omega,by omega⟩,show off+j-off=j by omega];exact hj
def zvf{x:rA}{cs:List zA}(h:RD t x.d cs):cs.length=9:=by
 obtain⟨a,b,c,rfl,_⟩:=fJ h
 rfl
def Room (t:Tr qA)(b off:Nat):Prop:=∃c n lo,t.get b=some (.cells c n lo)/\off+9<=n
def zo5:∀(ws:List Nat) (x:rA) (cs:List zA) (bs:List Nat) (b off:Nat),jF base tf t x cs bs->At t b off cs->b∉bs->bs.Nodup->Room t b off →
  ∃b' off' cs' bs',Room t b' off'/\LocX t b' off' ws x b off/\jF base tf t (zz5 ws x) cs' bs'/\At t b' off' cs'/\((b'=b/\off'=off)\/b'∈bs)/\(∀k∈bs',k∈bs)/\b'∉bs'/\bs'.Nodup ∧
   ∀(t':Tr qA) (y:rA) (csn:List zA),dA tf t'->(∀k,k=b\/k∈bs->k≠b'->k∉bs'->t'.get k=t.get k)->bM t t' b' off' csn->RD t' y.d csn->∃cr,At t' b off cr/\RD t' (zo0 y ws x).d cr
 | [],x,cs,bs,b,off,h,ha,hb,hn,hr=>⟨b,off,cs,bs,hr,⟨rfl,rfl⟩,h,ha,.inl ⟨rfl,rfl⟩,fun k hk=>hk,hb,hn,fun t' y csn _ _ hc hy=>⟨csn,hc.at ha,hy⟩⟩
 | w::ws,x,cs,bs,b,off,h,ha,hb,hn,hr=>by
  cases hi:x.args[w%x.args.length]? with
  | none=>
   refine⟨b,off,cs,bs,hr,?_,?_,ha,.inl ⟨rfl,rfl⟩,fun k hk=>hk,hb,hn,fun t' y csn _ _ hc hy=>⟨csn,hc.at ha,?_⟩⟩
   ·unfold LocX;rw[hi];exact⟨rfl,rfl⟩
   ·unfold zz5;rw[hi];exact h
   ·unfold zo0;rw[hi];exact hy
  | some y0=>
   obtain⟨op,name,v,args⟩:=x
   simp only[rA.args]at hi;have hlt:=(ybc.1 hi).1
   unfold jF at h;obtain⟨a0,b0,c,cl,bss,rfl,h2,h3,h4,h5,rfl⟩:=h
   have hcl:=h5.length
   rw[List.nodup_append]at hn;obtain⟨csi,b1,e1,e2,e3,e4,e5⟩:=nD.hole h5 hn.2.1 hi
   rcases h4 with⟨rfl,rfl⟩ | ⟨n,c4,rfl,f1,f2,f3⟩
   ·simp at hcl;omega
   have hnb:n∉bss:=fun e=>hn.2.2 n (by simp[mF]) n e rfl
   have hat:At t n (0+w%args.length*9) csi:=LK.at (base:=base) (.inr ⟨n,c4,rfl,f1,f2,f3⟩) e1
   obtain⟨b',off',cs',bs',g0,g1,g2,g3,g4,g5,g6,g8,g7⟩:=zo5 ws y0 csi b1 n (0+w%args.length*9) e2 hat (fun e=>hnb (e4 n e)) e3 ⟨_,_,_,f2,by
    have:=ybi 9 (show w%args.length+1<=cl.length by omega)
    omega⟩
   have hbb:b'=n\/b'∈b1:=by
    rcases g4 with g4 | g4
    ·exact .inl g4.1
    ·exact .inr g4
   have hbm:b'∈mF (.slice n 0 cl.length cl.length)++bss:=by
    rcases hbb with e | e
    ·rw[e];simp[mF]
    ·exact ycf _ (e4 b' e)
   refine⟨b',off',cs',bs',g0,?_,?_,g3,.inr hbm,fun k hk=>ycf _ (e4 k (g5 k hk)),g6,g8,fun t' y csn hle hk hc hy=>?_⟩
   ·unfold LocX
    simp only[rA.args];rw[hi];refine⟨n,?_,g1⟩
    obtain⟨c1,n1,lo1,k1,k2⟩:=ha
    refine⟨c1,n1,lo1,k1,fun j q hj=>?_⟩
    rcases j with _ | j
    ·have hq:q=.slice n 0 args.length args.length:=by simpa using hj.symm
     rw[hq,<- hcl];exact k2 8 _ rfl
    ·simp at hj
   ·unfold zz5
    simp only[rA.args];rw[hi];exact g2
   ·have hne:b≠b':=fun e=>hb (e ▸ hbm)
    have hbsame:t'.get b=t.get b:=hk b (.inl rfl) hne fun e=>hb (ycf _ (e4 b (g5 b e)))
    obtain⟨cr,q1,q2⟩:=g7 t' y csn hle (fun k hm h1 h2=>hk k (.inr (by
     rcases hm with e | e
     ·rw[e];simp[mF]
     ·exact ycf _ (e4 k e))) h1 h2) hc hy
    refine⟨eF (.mk op name v args) a0 b0 (.slice n 0 cl.length cl.length),?_,?_⟩
    ·obtain⟨c1,n1,lo1,k1,k2⟩:=ha
     exact⟨c1,n1,lo1,by rw[hbsame];exact k1,k2⟩
    ·unfold zo0
     simp only[rA.args];rw[hi];refine tP (op:=op) (name:=name) (v:=v) (args:=args.set (w%args.length) (zo0 y ws y0)) (h2.mono hle) (h3.mono hle) ⟨cl.set (w%args.length) cr,?_,e5 t' _ cr hle (fun k hm hm2=>hk k (.inr (ycf _ hm)) (fun e=>?_) (fun e=>hm2 (g5 k e))) q2⟩
     ·-- the list's own block
      have hblk:∃c' ,t'.get n=some (.cells c' (cl.length*9) (some (.sz 9)))/\∀(j:Nat) q,j≠w%args.length->cl[j]?=some q->∀(m:Nat) a,q[m]?=some a->c'.get (0+j*9+m)=some a:=by
       by_cases e:n=b'
       ·subst e
        have ho:off'=0+w%args.length*9:=by
         rcases g4 with g4 | g4
         ·exact g4.2
         ·exact absurd (e4 n g4) hnb
        obtain⟨c',p1,p2⟩:=hc _ _ _ f2
        refine⟨c',p1,fun j q hj hq m a hm=>?_⟩
        have hq9:=(f3 j q hq).1
        have hm9:=(ybc.1 hm).1
        have hc9:=zvf hy
        rw[p2,yaa,ybw]
        ·exact(f3 j q hq).2 m a hm
        ·rw[ho,hc9]
         rintro⟨z1,z2⟩
         rcases yau j (w%args.length)with z | z
         ·have:=ybi 9 (show j+1<=w%args.length by omega)
          omega
         ·have:=ybi 9 (show w%args.length+1<=j by omega)
          omega
       ·refine⟨c4,by rw[hk n (.inr (by simp[mF])) e (fun e2=>hnb (e4 n (g5 n e2)))];exact f2,fun j q _ hq m a hm=>?_⟩
        rw[ybw];exact(f3 j q hq).2 m a hm
      obtain⟨c',p1,p2⟩:=hblk
      refine .inr ⟨n,0,cl.length,by rw[ydh],by rw[ydh];exact ybk _,⟨c',_,_,p1,.inr ⟨_,rfl,rfl⟩⟩,fun j q hj=>?_⟩
      rw[ycw]at hj;split at hj
      ·rename_i e
       rw[yab (by omega)]at hj
       cases hj;rw[<- e];exact⟨zvf q2,q1⟩
      ·rename_i e
       exact⟨(f3 j q hj).1,c',_,_,p1,fun m a hm=>p2 j q (fun e2=>e e2.symm) hj m a hm⟩
     ·rcases hbb with e2 | e2
      ·rw[e,e2]at hm;exact hnb hm
      ·exact hm2 (e ▸ e2)
end
end
section
section
variable {t tf t0:Tr qA}{C:oA}{base:Nat}
def zyv{b off:Nat}{cs:List zA}(h:At t b off cs):bM t t b off cs:=by
 obtain⟨c,n,lo,h1,h2⟩:=h
 intro c' n' lo' h3;rw[h1]at h3
 cases h3;refine⟨c,h1,fun j=>?_⟩
 split
 ·rename_i hj
  have hlt:j-off<cs.length:=by omega
  have e:=h2 (j-off) _ (ybd hlt)
  rw[show off+(j-off)=j by omega]at e
  rw[e,ybd hlt]
 ·rfl
def zX{b off n q:Nat}{c:Tr zA}{lo:Option Lo}{l:List zA}(h:t.get b=some (.cells c n lo))(hb:C.base<=b)(ho:off+l.length<=n)(hone:tC zA.one l=true):lH C ⟨q,t⟩ b off l=some ⟨q,t.set b (.cells (c.setMany l off) n lo)⟩:=by
 unfold lH fC;have e2:(!Nat.blt b C.base)=true:=by
  cases hq:Nat.blt b C.base with
  | true=>have:=dB.1 hq;omega
  | false=>rfl
 rw[e2,qD,h,vA];simp only[qA.asCells,vA];have e3:Nat.ble (off+aA l) n=true:=by rw[gC];exact vE.2 ho
 rw[e3,hone];rfl
def zqu{T b off q:Nat}{v:zA}{y:uC}(hT:C.tys.get T=some y)(hs:y.size=1)(hv:v.cells=[v]):sC C T (.ptr b off) v ⟨q,t⟩=ob (lH C ⟨q,t⟩ b off [v]) fun H=>some (tD,H):=by
 unfold sC;rw[hT,vA];simp only[zA.asPtr,vA,hv];have e1:Nat.beq (aA [v]) y.size=true:=by rw[gC,hs];rfl
 rw[e1,qD]
def zyw{b off j n:Nat}{c c':Tr zA}{lo:Option Lo}{cur:List zA}{v:zA}(h0:t0.get b=some (.cells c n lo))(hc:∀i,c'.get i=if off<=i/\i<off+cur.length then cur[i-off]? else c.get i)(hj:j<cur.length) :
  bM t0 (t.set b (.cells (c'.setMany [v] (off+j)) n lo)) b off (cur.set j v):=by
 intro c1 n1 lo1 h1;rw[h0]at h1
 cases h1;refine⟨_,by rw[Tr.get_set,yab rfl],fun i=>?_⟩
 rw[Tr.get_setMany,ydh];by_cases e:i=off+j
 ·subst e
  rw[yab ⟨by omega,by simp⟩,yab ⟨by omega,by omega⟩,Nat.sub_self,show off+j-off=j by omega,ycw,yab rfl,yab hj];rfl
 ·rw[yaa (by simp;omega),hc]
  split
  ·rw[ycw,yaa (by omega)]
  ·rfl
def nT{b off j T n:Nat}{c:Tr zA}{lo:Option Lo}{cur:List zA}{v:zA}{y:uC}(h:bM t0 t b off cur)(h0:t0.get b=some (.cells c n lo))(ho:off+cur.length<=n)(hj:j<cur.length)(hb:C.base<=b)(hT:C.tys.get T=some y)(hs:y.size=1)(hv:v.cells=[v])(hone:zA.one v=true) :
  ∃t',(∀q,sC C T (.ptr b (off+j)) v ⟨q,t⟩=some (tD,⟨q,t'⟩))/\bM t0 t' b off (cur.set j v)/\lD b t t':=by
 obtain⟨c',h1,h2⟩:=h c n lo h0
 refine⟨t.set b (.cells (c'.setMany [v] (off+j)) n lo),fun q=>?_,zyw h0 h2 hj,fun d hd=>by rw[Tr.get_set,yaa hd]⟩
 rw[zqu hT hs hv,zX h1 hb (by show off+j+1<=n;omega) (by rw[cG];simp[hone]),vA]
def zxr{T1 T2 b1 o1 b2 o2 n1 n2 q:Nat}{c1 c2:Tr zA}{lo1 lo2:Option Lo}{v1 v2:zA}{y1 y2:uC}(hT1:C.tys.get T1=some y1)(hl1:v1.cells.length=y1.size)(hT2:C.tys.get T2=some y2)(hl2:v2.cells.length=y2.size)(hne:b1≠b2)
  (h1:t.get b1=some (.cells c1 n1 lo1)) (h2:t.get b2=some (.cells c2 n2 lo2)) (hb1:C.base<=b1) (hb2:C.base<=b2) (ho1:o1+v1.cells.length<=n1) (ho2:o2+v2.cells.length<=n2) (hn1:tC zA.one v1.cells=true) (hn2:tC zA.one v2.cells=true) :
  vM C [.store T1 (.ptr b1 o1) v1,.store T2 (.ptr b2 o2) v2] ⟨q,t⟩=some (tD,⟨q,(t.set b1 (.cells (c1.setMany v1.cells o1) n1 lo1)).set b2 (.cells (c2.setMany v2.cells o2) n2 lo2)⟩):=by
 have r1:uK C (.store T1 (.ptr b1 o1) v1)=some (.st b1 o1 v1.cells):=by
  unfold uK;simp only[hT1,vA,zA.asPtr];rw[show Nat.beq (aA v1.cells) y1.size=true by rw[gC,hl1];exact pB.2 rfl,qD]
 have r2:uK C (.store T2 (.ptr b2 o2) v2)=some (.st b2 o2 v2.cells):=by
  unfold uK;simp only[hT2,vA,zA.asPtr];rw[show Nat.beq (aA v2.cells) y2.size=true by rw[gC,hl2];exact pB.2 rfl,qD]
 have s1:=zX (C:=C) (q:=q) h1 hb1 ho1 hn1
 have s2:=zX (C:=C) (q:=q) h2 hb2 ho2 hn2
 have s3:=zX (C:=C) (q:=q) (t:=t.set b1 (.cells (c1.setMany v1.cells o1) n1 lo1)) (b:=b2) (by rw[Tr.get_set,yaa (fun e=>hne e.symm)];exact h2) hb2 ho2 hn2
 have hap:Nat.beq b1 b2=false:=by
  cases hq:Nat.beq b1 b2 with
  | true=>exact absurd (pB.1 hq) hne
  | false=>rfl
 unfold vM jP;have e0:tF (uK C) [.store T1 (.ptr b1 o1) v1,.store T2 (.ptr b2 o2) v2]=some [.st b1 o1 v1.cells,.st b2 o2 v2.cells]:=by
  simp only[tF,r1,r2,vA]
 rw[e0,vA];have e1:zgi [RE.st b1 o1 v1.cells,.st b2 o2 v2.cells]=true:=by
  have h:zk0 (RE.st b1 o1 v1.cells) (.st b2 o2 v2.cells)=true:=by
   unfold zk0 RE.blk;simp only[hap,cond_false]
  simp only[zgi,cG,ycg,yck,h];rfl
 have e2:tC (tR C ⟨q,t⟩) [RE.st b1 o1 v1.cells,.st b2 o2 v2.cells]=true:=by
  rw[cG];simp only[ycg,yck,tR,s1,s2];rfl
 rw[e1,e2];simp only[Bool.and_self,qD,zS,fP,s1,s3,vA]
def LK.same{cd:Lo}{sz d:Nat}{cl:List (List zA)}{v:zA}(h:LK cd base t sz cl v):Am.same d v v=true:=by
 rcases h with⟨rfl,_⟩ | ⟨b,c,rfl,_⟩
 ·cases d<;>rfl
 ·cases d<;>simp[Am.same]
def LK.len{cd:Lo}{sz:Nat}{cl:List (List zA)}{v:zA}(h:LK cd base t sz cl v):yC v=some (.int .i64 (cl.length:Int)):=by
 rcases h with⟨rfl,rfl⟩ | ⟨b,c,rfl,_⟩<;>rfl
abbrev zE:List zA:=[.int .u8 0,.str [],.int .u8 0,.bool false,.nilslice,.bool false,.nilslice,.int .i64 0,.nilslice]
abbrev wQ:List zA:=[.int .u8 2,.str [],.int .u8 0,.bool false,.nilslice,.bool false,.nilslice,.int .i64 0,.nilslice]
def growT(C:oA)(S el:Nat)(p v10:zA)(K:T):T:=
 .light (fun m=>mA C S ⟨0,m⟩ p) fun a2=>.ite true (.opt (yC a2) fun a3=>.asI .i64 a3 fun n4=>.heavy (dG C S 1 [(0,.agg zE)]) fun a5=>
 .light (fun m=>mA C S ⟨0,m⟩ p) fun a6=>.ite (same 10 a6 a2) (.opt (yC a2) fun a7=>.ite (same 10 a7 (.int .i64 n4)) (.heavy (bE C S S a2 a5) fun a8=>
 .opt (zC C S a8 (.int .i64 n4)) fun a9=>.opt (oB v10) fun xD=>.opt (vB C el 3 xD) fun tE=>.heavy (vM C [.store el a9 (.agg wQ),.store S tE a8]) fun _=>K) .fail) .fail) .fail
def zxp{W J:fG}{S el b off n:Nat}{c0:Tr zA}{lo:Option Lo}{cur:List zA}{c:zA}{cl:List (List zA)}{yS yE:uC}{K:T}{Q:bB}
  (hT:ztd C S el 9) (hS:wG C S el 9 true) (hyS:C.tys.get S=some yS) (hyS1:yS.size=1) (hySa:yS.desc.isAgg=false) (hyE:C.tys.get el=some yE) (hyE9:yE.size=9) (hfa:vB C el 3 (.ptr b off)=some (.ptr b (off+8)))
  (h:bM t0 t b off cur) (h0:t0.get b=some (.cells c0 n lo)) (hroom:off+9<=n) (hcur:cur.length=9) (hc:cur[8]?=some c) (hb:C.base<=b) (hk:LK (.sz 9) C.base t 9 cl c) (hbc:b∉mF c) (hlen:cl.length<300000)
  (hK:∀t' m,t.get m=none->C.base<=m->m≠b->bM t0 t' b off (cur.set 8 (.slice m 0 (cl.length+1) (cl.length+1)))->LK (.sz 9) C.base t' 9 (cl++[wQ]) (.slice m 0 (cl.length+1) (cl.length+1))->(∀k y,t.get k=some y->k≠b->k∉mF c->t'.get k=some y)->pA C.base W J K t' Q) :
  pA C.base W J (growT C S el (.ptr b (off+8)) (.ptr b off) K) t Q:=by
 obtain⟨c',g1,g2⟩:=h c0 n lo h0
 have hld:∀ {t':Tr qA},t'.get b=t.get b->mA C S ⟨0,t'⟩ (.ptr b (off+8))=some c:=fun {t'} e=>by
  have hat:At t' b off cur:=⟨c',n,lo,by rw[e];exact g1,fun j a hj=>by
   have hlt:=(ybc.1 hj).1
   rw[g2,yab ⟨by omega,by omega⟩,show off+j-off=j by omega];exact hj⟩
  exact hat.load1 (j:=8) hyS hySa hc
 unfold growT;refine uD (hld rfl) (mB rfl (iA hk.len (eD (qG fun m1 hm1 hbm1=>?_))))
 obtain⟨t1,a1,a2,a3,a4⟩:=lit1 (C:=C) (cs:=zE) hT rfl (by decide) hm1
 have hb1:b≠m1:=fun e=>by rw[<- e,g1]at hm1;cases hm1
 have hk1:LK (.sz 9) C.base t1 9 cl c:=hk.off fun k hk'=>a4 k fun e=>by
  obtain⟨y,hy⟩:=hk.live k hk'
  rw[e,hm1]at hy;cases hy
 refine⟨_,_,a1,uD (hld (a4 b hb1)) (mB hk.same (iA hk.len (mB lV (qG fun m2 hm2 hbm2=>?_))))⟩
 obtain⟨t2,d1,d2,d3⟩:=zbe (cm:=[zE]) hT hk1 a2 (fun a ha=>ycb.1 (show zE.all zA.one=true from rfl) a (by simpa using ha)) (by simp) (by simp;omega) hm2 hbm2
 have hb2:b≠m2:=fun e=>by rw[<- e,a4 b hb1,g1]at hm2;cases hm2
 have hm2t:t.get m2=none:=by
  cases hq:t.get m2 with
  | none=>rfl
  | some y=>rw[a3 _ _ hq]at hm2;cases hm2
 have e2b:t2.get b=some (.cells c' n lo):=by rw[d3 b hb2 (fun e=>hbc (zW.2 e)),a4 b hb1];exact g1
 have d2':=d2
 rcases d2' with⟨q,_⟩ | ⟨m',c2,q,_,q2,q3⟩
 ·cases q
 have q1:m2=m':=by injection q
 subst q1;have hlen2:(cl++[zE]).length=cl.length+1:=by simp
 rw[hlen2]at q2;refine⟨_,_,d1,iA (mS hS (i:=cl.length) (by simp)) (iA rfl (iA hfa (qG fun m3 _ _=>⟨_,_,zxr (y1:=yE) (y2:=yS) hyE (by rw[hyE9];rfl) hyS (by rw[hyS1];rfl) (fun e=>hb2 e.symm) q2 e2b hbm2 hb (by show 0+cl.length*9+9<=(cl.length+1)*9;omega) (by show off+8+1<=n;omega) rfl rfl,?_⟩)))⟩
 refine hK _ m2 hm2t hbm2 (fun e=>hb2 e.symm) (zyw h0 g2 (by omega)) (.inr ⟨m2,c2.setMany wQ (0+cl.length*9),by simp,hbm2,?_,fun i cs hi=>?_⟩) fun k y hy hkb hkc=>?_
 ·rw[Tr.get_set,yaa (fun e=>hb2 e.symm),Tr.get_set,yab rfl,ybg]
  rfl
 ·by_cases hik:i=cl.length
  ·subst hik
   rw[ybp (ybk _),Nat.sub_self,yaz]at hi
   cases hi;refine⟨rfl,fun j a hj=>?_⟩
   have hlt:=(ybc.1 hj).1
   rw[Tr.get_setMany,yab ⟨by omega,by omega⟩,show cl.length*9+j-(0+cl.length*9)=j by omega]
   exact hj
  ·have hi':(cl++[zE])[i]?=some cs:=by
    rw[List.getElem?_append]at hi ⊢
    split at hi
    ·rename_i hlt;rw[yab hlt];exact hi
    ·rename_i hge
     rw[List.getElem?_eq_none (by simp;omega)]at hi;cases hi
   obtain⟨k1,k2⟩:=q3 i cs hi'
   have hilt:i<cl.length:=by
    have:=(ybc.1 hi').1
    rw[hlen2]at this;omega
   refine⟨k1,fun j a hj=>?_⟩
   have hjl:=(ybc.1 hj).1
   have:=ybi 9 (show i+1<=cl.length by omega)
   rw[Tr.get_setMany,yaa (by omega)]
   exact k2 j a hj
 ·have n1:k≠m1:=fun e=>by rw[e,hm1]at hy;cases hy
  have n2:k≠m2:=fun e=>by rw[e,hm2t]at hy;cases hy
  rw[Tr.get_set,yaa hkb,Tr.get_set,yaa n2,d3 k n2 (fun e=>hkc (zW.2 e)),a4 k n1]
  exact hy
end
end
end Go.Am
namespace Go.Proofs
open Go Go.Am
variable [jC]
variable {t tf:Tr qA}
def aV{w:oH}{u:zA}(hu:lA t 1 (pD w.limbs) u):RD t w.d [.bool w.neg,u]:=by
 unfold oH.d;rw[kH];refine⟨[[.bool w.neg],[u]],rfl,?_⟩
 simp only[lE,dF,aQ,wJ];exact⟨_,_,rfl,rfl,_,_,rfl,⟨u,rfl,hu⟩,rfl⟩
def zmr{f:sE}{u v:zA}(hu:lA t 1 (pD f.n.limbs) u)(hv:lA t 1 (pD f.d.limbs) v):RD t f.dd [.bool f.n.neg,u,.bool f.d.neg,v]:=by
 unfold sE.dd;rw[kH];refine⟨[[.bool f.n.neg,u],[.bool f.d.neg,v]],rfl,?_⟩
 rw[lE];refine⟨_,_,rfl,aV hu,?_⟩
 rw[lE];exact⟨_,_,rfl,aV hv,dF.2 rfl⟩
def z3z{x:dE}{u v:zA}(hu:lA t 1 (pD x.f.n.limbs) u)(hv:lA t 1 (pD x.f.d.limbs) v):RD t x.d [.int .u8 x.kind,.bool x.f.n.neg,u,.bool x.f.d.neg,v,.int .i64 x.i]:=by
 unfold dE.d;rw[kH];refine⟨[[.int .u8 x.kind],[.bool x.f.n.neg,u,.bool x.f.d.neg,v],[.int .i64 x.i]],rfl,?_⟩
 rw[lE];refine⟨_,_,rfl,kN.2 rfl,?_⟩
 rw[lE];refine⟨_,_,rfl,zmr hu hv,?_⟩
 rw[lE];exact⟨_,_,rfl,kN.2 rfl,dF.2 rfl⟩
def zv8{x:yJ}{cs ds:List zA}(h1:RD t x.when_.d cs)(h2:RD t x.then_.d ds):RD t x.d ([.str x.name,.str x.label,.int .i64 x.from_,.int .i64 x.to,.int .i64 x.known,.bool x.off]++(cs++ds)):=by
 unfold yJ.d;rw[kH];refine⟨[[.str x.name],[.str x.label],[.int .i64 x.from_],[.int .i64 x.to],[.int .i64 x.known],[.bool x.off],cs,ds],by simp,?_⟩
 simp only[lE,dF,sS,kN,aQ];exact⟨_,_,rfl,rfl,_,_,rfl,rfl,_,_,rfl,rfl,_,_,rfl,rfl,_,_,rfl,rfl,_,_,rfl,rfl,_,_,rfl,h1,_,_,rfl,h2,rfl⟩
def el22w:ztd yA 22 50 1:=⟨⟨_,ty22,rfl,rfl⟩,⟨_,z45,rfl,rfl,by decide,by decide⟩,fun y h=>by rw[z45]at h;cases h;rfl⟩
def el29:ztd yA 29 31 9:=⟨⟨_,z3c,rfl,rfl⟩,⟨_,zoe,rfl,rfl,by decide,by decide⟩,fun y h=>by rw[zoe]at h;cases h;rfl⟩
def z63{L:List zF}{l:List Nat}{x:zA}{Q:bB}(hx:lA tf 1 (pD l) x)(ho:wD yA.base tf t L)(hl:l.length<1000000)(hQ:CopyQ yA.base tf L 1 (pD l) Q):Wc yA F 115 [x] t Q:=
 w115 _ (z2l el22w hx ho (by rw[eU];exact hl) hQ)
def zyk{w:oH}(hl:w.limbs.length<1000000):z7l yA.base (Wq yA F lI) 85 w.d:=by
 intro L tf t cs Q ho hd hQ;obtain⟨v,rfl,hv⟩:=wU hd
 rw[q85];refine w85 _ _ ?_
 simp only[t85,pA,q115];refine z63 hv ho hl fun tf' t' u k1 k2 k3=>?_
 have hr:=aV (w:=w) k3
 exact tN (by rw[cG];simp only[ycg,yck,k3.one];rfl) (tN hr.all (hQ tf' t' _ k1 k2 hr))
def z64{f:sE}(hl:f.n.limbs.length<1000000/\f.d.limbs.length<1000000):z7l yA.base (Wq yA F lI) 41 f.dd:=by
 intro L tf t cs Q ho hd hQ;obtain⟨u,v,rfl,hu,hv⟩:=zg8 hd
 rw[q41];refine w41 _ _ _ _ ?_
 simp only[t41,pA];refine zyk hl.1 ho (aV (w:=f.n) hu) fun tf1 t1 c1 k1 k2 k3=>?_
 have hz1:=kK k3 (oH.zs _)
 have a1:=k3.all
 obtain⟨u1,rfl,hu1⟩:=wU k3
 rw[hz1,sA];refine tN a1 ?_
 refine zyk hl.2 k2 (aV (w:=f.d) (hv.mono k1)) fun tf2 t2 c2 m1 m2 m3=>?_
 have hz2:=kK m3 (oH.zs _)
 have a2:=m3.all
 obtain⟨v1,rfl,hv1⟩:=wU m3
 rw[hz2,sA];have hr:=zmr (f:=f) (hu1.mono m1) hv1
 exact tN a2 (tN hr.all (hQ tf2 t2 _ (k1.trans m1) m2 hr))
def z65{x:dE}(hl:x.f.n.limbs.length<1000000/\x.f.d.limbs.length<1000000):z7l yA.base (Wq yA F lI) 20 x.d:=by
 intro L tf t cs Q ho hd hQ;obtain⟨u,v,rfl,hu,hv⟩:=zve hd
 rw[q20];refine w20 _ _ _ _ _ _ ?_
 simp only[t20,pA];refine z64 hl ho (zmr (f:=x.f) hu hv) fun tf1 t1 c1 k1 k2 k3=>?_
 have hz1:=kK k3 (sE.zs _)
 have a1:=k3.all
 obtain⟨u1,v1,rfl,hu1,hv1⟩:=zg8 k3
 rw[hz1,sA];have hr:=z3z (x:=x) hu1 hv1
 exact tN a1 (tN hr.all (hQ tf1 t1 _ k1 k2 hr))
mutual
def rA.cpy:rA->Prop
 | .mk _ _ v args=>(v.f.n.limbs.length<1000000/\v.f.d.limbs.length<1000000)/\args.length<300000/\rA.cpys args
def rA.cpys:List rA->Prop
 | []=>True
 | x::l=>rA.cpy x/\rA.cpys l
end
mutual
def tree9:∀(x:rA),rA.cpy x->z25 yA.base (Wq yA F lI) 9 x
 | .mk op name v args,h=>by
  intro L tf t cs Q ho hd hQ;obtain⟨a,b,c,rfl,ha,hb,hc⟩:=fJ hd
  simp only[rA.op,rA.name,rA.v,rA.args]at ha hb hc ⊢
  unfold rA.cpy at h;rw[q9];refine w9 _ _ _ _ _ _ _ _ _ ?_
  simp only[t9,pA];refine z65 h.1 ho (z3z (x:=v) ha hb) fun tf1 t1 c1 k1 k2 k3=>?_
  have hz1:=kK k3 (dE.zs _)
  have a1:=k3.all
  obtain⟨u1,v1,rfl,hu1,hv1⟩:=zve k3
  rw[hz1,sA];refine tN a1 ?_
  rw[q21];refine w21 _ ?_
  simp only[t21,pA];refine zsu (l:=args) el29 z0d (fun x _=>x.zs) (fun x hx=>z3d args h.2.2 x hx) h.2.1 (fun v i t hw=>j21_2 _ _ _ hw) (fun tf2 t2 v2 cl bs m1 m2=>?_) (hc.mono k1) k2
  have m3:wD yA.base tf2 t2 (rK yA.base (.mk op name v args) (eF (.mk op name v args) u1 v1 v2) (mF v2++bs)::L):=m2.conv rfl (fun⟨q1,q2⟩=>by
   rw[ycd]at q1;show jF yA.base tf2 t2 (.mk op name v args) _ _
   unfold jF;exact⟨u1,v1,v2,cl,bs,rfl,hu1.mono m1,hv1.mono m1,q1,q2,rfl⟩)
  have hr:RD t2 (rA.mk op name v args).d (eF (.mk op name v args) u1 v1 v2):=jF.rd m3.tle _ _ _ (m3.ok _ (yby ..))
  have h1:zA.one v2=true:=RD.ones _ _ hr v2 (by simp[eF])
  exact tN (by rw[cG];simp only[ycg,yck,h1];rfl) (tN hr.all (hQ tf2 t2 _ _ (k1.trans m1) m3))
def z3d:∀(l:List rA),rA.cpys l->∀x∈l,z25 yA.base (Wq yA F lI) 9 x
 | [],_,x,hx=>by cases hx
 | y::l,h,x,hx=>by
  unfold rA.cpys at h;rcases ybs.1 hx with e | hx
  ·rw[e];exact tree9 y h.1
  ·exact z3d l h.2 x hx
end
def zpz(f:sE):1<=rM f/\f.n.limbs.length<rM f/\f.d.limbs.length<rM f:=by unfold rM;omega
def ziz:∀(x:rA) (left:Int),x.ok->1<=eK x left
 | .mk op name v args,left,h=>by
  unfold rA.ok at h;unfold eK;have:=zpz v.f
  have:=(mV args left (rM v.f+(name.length:Int) / 30) h.2.2.2 (by omega)).1
  omega
mutual
def zqd:∀(x:rA) (left:Int),x.ok->eK x left<=left->left<=2000->rA.cpy x
 | .mk op name v args,left,h,hs,hl=>by
  unfold rA.ok at h;unfold eK at hs;unfold rA.cpy;have:=zpz v.f
  have h1:=(mV args left (rM v.f+(name.length:Int) / 30) h.2.2.2 (by omega)).1
  obtain⟨h2,h3⟩:=zqe args left (rM v.f+(name.length:Int) / 30) h.2.2.2 (by omega) hs hl
  exact⟨⟨by omega,by omega⟩,by omega,h3⟩
def zqe:∀(l:List rA) (left n:Int),rA.oks l->0<=n->yN l left n<=left->left<=2000->n+l.length<=left/\rA.cpys l
 | [],left,n,_,_,hs,_=>by
  unfold yN at hs;unfold rA.cpys;exact⟨by simpa using hs,trivial⟩
 | x::l,left,n,h,hn,hs,hl=>by
  unfold rA.oks at h;unfold yN at hs;unfold rA.cpys;by_cases hc:n<=left
  ·rw[yab hc]at hs
   have h1:=ziz x (left-n) h.1
   have h2:=(mV l left (n+eK x (left-n)) h.2 (by omega)).1
   obtain⟨h3,h4⟩:=zqe l left _ h.2 (by omega) hs hl
   exact⟨by simp only[ybn];omega,zqd x (left-n) h.1 (by omega) (by omega),h4⟩
  ·rw[yaa hc]at hs
   omega
end
end Go.Proofs
