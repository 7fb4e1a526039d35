/- Several things in memory, each with blocks of its own; one of them changes. -/
import Derived.Lib.ItoaLen
import Derived.Test.YthmbkdkibhffbaaGreatDoorD14
set_option linter.all false
noncomputable section
namespace Go.Am
open Go Go.RowKit
structure vD where
 blks:List Nat
 ok:Tr lA->Tr lA->Prop
 keep:∀ {tf t tf' t':Tr lA},ok tf t->dA tf tf'->(∀k∈blks,t'.get k=t.get k/\tf'.get k=none)->ok tf' t'
 live:∀ {tf t:Tr lA},ok tf t->∀k∈blks,∃y,t.get k=some y
structure Objs (base:Nat) (tf t:Tr lA) (l:List vD):Prop where
 tle:dA tf t
 nodup:(l.flatMap vD.blks).Nodup
 ok:∀o∈l,o.ok tf t
 low:∀k∈l.flatMap vD.blks,base<=k/\tf.get k=none
def mD (v:zA):List Nat:=match v with | .slice b _ _ _=>[b] | _=>[]
theorem iK{v:zA}{k:Nat}:k∈mD v ↔ tJ v k:=by
 unfold mD tJ;split
 ·rename_i b o n c
  constructor
  ·intro h;rw[yce]at h;subst h;exact⟨_,_,_,rfl⟩
  ·rintro⟨o',n',c',e⟩;cases e;simp
 ·rename_i h
  constructor
  ·intro h;cases h
  ·rintro⟨o,n,c,e⟩;exact absurd e (h _ _ _ _)
def bD (b:Nat)(lo:Option Nat)(cs:List zA):vD where
 blks:=[b]
 ok:=fun _ t=>pD t b lo cs
 keep:=fun h _ k=>h.off (k b (by simp)).1
 live:=fun h k hk=>by rw[yce]at hk;subst hk;obtain⟨c,hc,_⟩:=h;exact⟨_,hc⟩
def jE (b:Nat)(l:List (zA × zA)):vD where
 blks:=[b]
 ok:=fun _ t=>t.get b=some (.map l)
 keep:=fun h _ k=>by rw[(k b (by simp)).1];exact h
 live:=fun h k hk=>by rw[yce]at hk;subst hk;exact⟨_,h⟩
def wB(base sz:Nat)(l:List D)(v:zA):vD where
 blks:=mD v
 ok:=fun tf t=>Loose base tf t sz l v
 keep:=fun h hf k=>h.keep hf fun b hb=>k b (iK.2 hb)
 live:=fun h k hk=>(h.none (iK.1 hk)).2.2
section
variable {base:Nat}{tf t:Tr lA}{l A B:List vD}{o o':vD}
theorem Objs.live(h:Objs base tf t l){k:Nat}(hk:k∈l.flatMap vD.blks):∃y,t.get k=some y:=by
 obtain⟨o,ho,hk⟩:=List.mem_flatMap.1 hk
 exact o.live (h.ok o ho) k hk
theorem Objs.fresh(h:Objs base tf t l){n:Nat}(hn:t.get n=none):n∉l.flatMap vD.blks:=by
 intro hm;obtain⟨y,hy⟩:=h.live hm
 rw[hn]at hy;cases hy
theorem Objs.tfn(h:Objs base tf t l){n:Nat}(hn:t.get n=none):tf.get n=none:=by
 cases hq:tf.get n with
 | none=>rfl
 | some y=>have:=h.tle _ _ hq;rw[hn]at this;cases this
theorem Objs.keep(h:Objs base tf t l){tf' t':Tr lA}(hf:dA tf tf')(ht:dA tf' t')(hk:∀k∈l.flatMap vD.blks,t'.get k=t.get k/\tf'.get k=none):Objs base tf' t' l:=
 ⟨ht,h.nodup,fun o ho=>o.keep (h.ok o ho) hf fun k hk'=>hk k (List.mem_flatMap.2 ⟨o,ho,hk'⟩),fun k hk'=>⟨(h.low k hk').1,(hk k hk').2⟩⟩
theorem Objs.junk(h:Objs base tf t l){n:Nat}{t':Tr lA}(hn:t.get n=none)(ho:cC n t t'):Objs base tf t' l:=
 h.keep (dA.refl _) (h.tle.off (h.tfn hn) ho) fun k hk=>⟨ho k (fun e:k=n=>h.fresh hn (e ▸ hk)),(h.low k hk).2⟩
theorem Objs.other(h:Objs base tf t l){n:Nat}{t':Tr lA}(hn:n∉l.flatMap vD.blks)(hf:tf.get n=none)(ho:cC n t t'):Objs base tf t' l:=
 h.keep (dA.refl _) (h.tle.off hf ho) fun k hk=>⟨ho k (fun e:k=n=>hn (e ▸ hk)),(h.low k hk).2⟩
theorem Objs.froze(h:Objs base tf t l){n:Nat}{y:lA}(hn:n∉l.flatMap vD.blks)(hy:t.get n=some y)(hf:tf.get n=none):Objs base (tf.set n y) t l/\dA tf (tf.set n y):=by
 have h1:=(jI (t:=tf) hf y).1
 refine⟨h.keep h1 (fun k u hk=>?_) fun k hk=>⟨rfl,?_⟩,h1⟩
 ·rw[Tr.get_set]at hk
  split at hk
  ·rename_i e;subst e;cases hk;exact hy
  ·exact h.tle _ _ hk
 ·rw[Tr.get_set,if_neg (fun e:k=n=>hn (e ▸ hk))];exact(h.low k hk).2
theorem bR:(A++o::B).flatMap vD.blks=A.flatMap vD.blks++(o.blks++B.flatMap vD.blks):=by simp
theorem Objs.upd(h:Objs base tf t (A++o::B)){t':Tr lA}(hk:∀k,k∉o.blks->k∉o'.blks->t'.get k=t.get k)(hn:∀k∈o'.blks,k∈o.blks\/(t.get k=none/\base<=k))(hok:o'.ok tf t')(hnd:o'.blks.Nodup)(ht:dA tf t'):Objs base tf t' (A++o'::B):=by
 have hd:=h.nodup
 rw[bR]at hd;rw[List.nodup_append]at hd;obtain⟨d1,d2,d3⟩:=hd
 rw[List.nodup_append]at d2;obtain⟨d4,d5,d6⟩:=d2
 have oth:∀k,k∈A.flatMap vD.blks\/k∈B.flatMap vD.blks->k∉o.blks/\k∉o'.blks/\t'.get k=t.get k/\base<=k/\tf.get k=none:=by
  intro k hk';have hm:k∈(A++o::B).flatMap vD.blks:=by rw[bR];simp only[List.mem_append];rcases hk' with h | h<;>simp[h]
  have h1:k∉o.blks:=fun hc=>by
   rcases hk' with h' | h'
   ·exact d3 k h' k (by simp[hc]) rfl
   ·exact d6 k hc k h' rfl
  have h2:k∉o'.blks:=fun hc=>by
   rcases hn k hc with h' | h'
   ·exact h1 h'
   ·obtain⟨y,hy⟩:=h.live hm
    rw[h'.1]at hy;cases hy
  exact⟨h1,h2,hk k h1 h2,h.low k hm⟩
 have mem:∀k,k∈(A++o'::B).flatMap vD.blks->(k∈A.flatMap vD.blks\/k∈B.flatMap vD.blks)\/k∈o'.blks:=by
  intro k hk';rw[bR]at hk'
  simp only[List.mem_append]at hk'
  rcases hk' with h | h | h
  ·exact .inl (.inl h)
  ·exact .inr h
  ·exact .inl (.inr h)
 refine⟨ht,?_,fun p hp=>?_,fun k hk'=>?_⟩
 ·rw[bR,List.nodup_append]
  refine⟨d1,?_,fun x hx y hy e=>?_⟩
  ·rw[List.nodup_append]
   exact⟨hnd,d5,fun x hx y hy e=>(oth y (.inr hy)).2.1 (e ▸ hx)⟩
  ·subst e
   rcases List.mem_append.1 hy with h' | h'
   ·exact(oth x (.inl hx)).2.1 h'
   ·exact d3 x hx x (by simp[h']) rfl
 ·have hp':p∈A\/p=o'\/p∈B:=by simpa using hp
  rcases hp' with h' | h' | h'
  ·exact p.keep (h.ok p (by simp[h'])) (dA.refl _) fun k hk'=>by
    obtain⟨_,_,e,_,f⟩:=oth k (.inl (List.mem_flatMap.2 ⟨p,h',hk'⟩));exact⟨e,f⟩
  ·subst h';exact hok
  ·exact p.keep (h.ok p (by simp[h'])) (dA.refl _) fun k hk'=>by
    obtain⟨_,_,e,_,f⟩:=oth k (.inr (List.mem_flatMap.2 ⟨p,h',hk'⟩));exact⟨e,f⟩
 ·rcases mem k hk' with h' | h'
  ·obtain⟨_,_,_,e,f⟩:=oth k h';exact⟨e,f⟩
  ·rcases hn k h' with h'' | h''
   ·exact h.low k (by rw[bR];simp[h''])
   ·exact⟨h''.2,h.tfn h''.1⟩
def zyx:vD:=⟨[],fun _ _=>True,fun _ _ _=>trivial,fun _ _ h=>by cases h⟩
theorem Objs.add(h:Objs base tf t (A++B)){t':Tr lA}(hk:∀k,k∉o'.blks->t'.get k=t.get k)(hn:∀k∈o'.blks,t.get k=none/\base<=k)(hok:o'.ok tf t')(hnd:o'.blks.Nodup)(ht:dA tf t'):Objs base tf t' (A++o'::B):=by
 have e:Objs base tf t (A++zyx::B):=by
  have hm:(A++zyx::B).flatMap vD.blks=(A++B).flatMap vD.blks:=by simp[zyx]
  refine⟨h.tle,by rw[hm];exact h.nodup,fun o ho=>?_,fun k hk=>h.low k (by rw[hm]at hk;exact hk)⟩
  have:o∈A\/o=zyx\/o∈B:=by simpa using ho
  rcases this with h' | h' | h'
  ·exact h.ok o (by simp[h'])
  ·subst h';trivial
  ·exact h.ok o (by simp[h'])
 exact e.upd (fun k _ h2=>hk k h2) (fun k hk=>.inr (hn k hk)) hok hnd ht
theorem Objs.drop(h:Objs base tf t (A++o::B)):Objs base tf t (A++B):=by
 have hd:=h.nodup
 rw[bR]at hd;refine⟨h.tle,?_,fun p hp=>h.ok p (by rcases List.mem_append.1 hp with h | h<;>simp[h]),fun k hk=>h.low k (by rw[bR];rw[List.flatMap_append]at hk;rcases List.mem_append.1 hk with h | h<;>simp[h])⟩
 rw[List.flatMap_append];rw[List.nodup_append]at hd ⊢
 obtain⟨d1,d2,d3⟩:=hd
 rw[List.nodup_append]at d2;exact⟨d1,d2.2.1,fun x hx y hy e=>d3 x hx y (by simp[hy]) e⟩
theorem Objs.notin(h:Objs base tf t (A++o::B)){k:Nat}(hk:k∈o.blks):k∉(A++B).flatMap vD.blks:=by
 have hd:=h.nodup
 rw[bR,List.nodup_append]at hd;obtain⟨d1,d2,d3⟩:=hd
 rw[List.nodup_append]at d2;rw[List.flatMap_append];intro hm;rcases List.mem_append.1 hm with h' | h'
 ·exact d3 k h' k (by simp[hk]) rfl
 ·exact d2.2.2 k hk k h' rfl
theorem Objs.freezeL{sz:Nat}{m:List D}{v:zA}(h:Objs base tf t (A++wB base sz m v::B)):∃tf',dA tf tf'/\Objs base tf' t (A++B)/\oA tf' sz m v:=by
 have hl:Loose base tf t sz m v:=h.ok (wB base sz m v) (by simp)
 obtain⟨tf',h1,h2,h3,h4⟩:=hl.freeze h.tle
 refine⟨tf',h1,h.drop.keep h1 h2 fun k hk=>⟨rfl,?_⟩,h3⟩
 have hb:¬ tJ v k:=fun hb=>h.notin (o:=wB base sz m v) (iK.2 hb) hk
 rw[h4 k hb];exact(h.drop.low k hk).2
end
end Go.Am
set_option maxRecDepth 100000
namespace Go.Proofs
open Go Go.Am
variable [aC]
variable {t tf:Tr lA}
def _root_.Go.Am.XIns.d(i:XIns):D:=.st [.int .u8 i.op,.int .i64 i.a,.int .i64 i.b]
def _root_.Go.Am.XIns.cells(i:XIns):List zA:=[.int .u8 i.op,.int .i64 i.a,.int .i64 i.b]
theorem zmz{i:XIns}{cs:List zA}:RD t i.d cs ↔ cs=i.cells:=by
 unfold XIns.d XIns.cells;simp only[nI,fD,lE,bK];constructor
 ·rintro⟨cl,rfl,c,r,rfl,rfl,c',r',rfl,rfl,c'',r'',rfl,rfl,rfl⟩;rfl
 ·rintro rfl;exact⟨[[.int .u8 i.op],[.int .i64 i.a],[.int .i64 i.b]],rfl,_,_,rfl,rfl,_,_,rfl,rfl,_,_,rfl,rfl,rfl⟩
def iE:Nat->List (List Nat)->List (zA × zA)
 | _,[]=>[]
 | i,k::l=>(.str k,.int .i64 (i:Int))::iE (i+1) l
theorem zig{a b:List Nat}:zih (.str a) (.str b)=some (decide (a=b)):=by
 unfold zih;simp only[zA.asIntK,zA.asStr,uA];congr 1
 cases h:uK a b with
 | true=>rw[decide_eq_true ((zO _ _).1 h)]
 | false=>rw[decide_eq_false (fun e=>by rw[(zO _ _).2 e]at h;cases h)]
theorem zes{k:List Nat}:∀(l:List (List Nat)) (i:Nat),zgg (.str k) (iE i l)=some (if k∈l then some (.int .i64 ((i+lI k l:Nat):Int))else none)
 | [],i=>by simp[iE,zgg]
 | x::l,i=>by
  unfold iE zgg lI;rw[zig,uA];by_cases h:k=x
  ·simp[h]
  ·simp only[h,decide_false,cond_false,if_false,yat,false_or]
   rw[zes l (i+1)]
   rw[show i+1+lI k l=i+(lI k l+1) by omega]
theorem zam{k:List Nat}:∀(l:List (List Nat)) (i:Nat),k∉l->nQ (.str k) (.int .i64 ((i+l.length:Nat):Int)) (iE i l)=some (iE i (l++[k]))
 | [],i,_=>by simp[iE,nQ]
 | x::l,i,h=>by
  simp only[List.cons_append,iE];unfold nQ;rw[zig,uA];have h1:k≠x:=fun e=>h (e ▸ yaz)
  have:=zam l (i+1) (fun m=>h (yas _ m))
  simp only[h1,decide_false,cond_false];rw[yao,show i+(l.length+1)=i+1+l.length by omega,this,uA]
structure TR where
 b:Nat
 pl:List zA
 vn:zA
 vc:zA
 vw:zA
 vt:zA
 vk:zA
 m1:Nat
 m2:Nat
def TR.kp(r:TR):List zA × zA × zA:=(r.pl,r.vw,r.vt)
structure mE where
 names:List (List Nat)
 consts:List xB
 ws:List D
 ts:List D
 code:List XIns
abbrev bs:Nat:=yA.base
def TR.cells(r:TR):List zA:=r.pl++[r.vn,r.vc,r.vw,r.vt,.map r.m1,.map r.m2,r.vk]
def tsL (key:xB->List Nat)(r:TR)(s:mE):List vD:=
 [bD r.b none r.cells,jE r.m1 (iE 0 s.names),jE r.m2 (iE 0 (s.consts.map key)),wB yA.base 1 (s.names.map D.str) r.vn,wB yA.base 6 (s.consts.map xB.d) r.vc,wB yA.base 1 s.ws r.vw,wB yA.base 1 s.ts r.vt,wB yA.base 3 (s.code.map XIns.d) r.vk]
structure TS (key:xB->List Nat) (tf t:Tr lA) (r:TR) (s:mE):Prop where
 pl:r.pl.length=4
 os:Objs yA.base tf t (tsL key r s)
section
variable {key:xB->List Nat}{r:TR}{s:mE}
theorem TS.cel(h:TS key tf t r s):pD t r.b none r.cells:=h.os.ok (bD r.b none r.cells) (by simp[tsL])
theorem TS.map1(h:TS key tf t r s):t.get r.m1=some (.map (iE 0 s.names)):=h.os.ok (jE r.m1 (iE 0 s.names)) (by simp[tsL])
theorem TS.map2(h:TS key tf t r s):t.get r.m2=some (.map (iE 0 (s.consts.map key))):=h.os.ok (jE r.m2 (iE 0 (s.consts.map key))) (by simp[tsL])
theorem TS.ln(h:TS key tf t r s):Loose yA.base tf t 1 (s.names.map D.str) r.vn:=h.os.ok (wB yA.base 1 (s.names.map D.str) r.vn) (by simp[tsL])
theorem TS.lc(h:TS key tf t r s):Loose yA.base tf t 6 (s.consts.map xB.d) r.vc:=h.os.ok (wB yA.base 6 (s.consts.map xB.d) r.vc) (by simp[tsL])
theorem TS.lk(h:TS key tf t r s):Loose yA.base tf t 3 (s.code.map XIns.d) r.vk:=h.os.ok (wB yA.base 3 (s.code.map XIns.d) r.vk) (by simp[tsL])
theorem TS.baseB(h:TS key tf t r s):yA.base<=r.b/\tf.get r.b=none:=h.os.low r.b (by simp[tsL,bD])
theorem TS.inB{key:xB->List Nat}{r:TR}{s:mE}:r.b∈(tsL key r s).flatMap vD.blks:=by simp[tsL,bD]
theorem TS.junk(h:TS key tf t r s){n:Nat}{t':Tr lA}(hn:t.get n=none)(ho:cC n t t'):TS key tf t' r s:=⟨h.pl,h.os.junk hn ho⟩
theorem TS.other(h:TS key tf t r s){n:Nat}{t':Tr lA}(hn:n∉(tsL key r s).flatMap vD.blks)(hf:tf.get n=none)(ho:cC n t t'):TS key tf t' r s:=⟨h.pl,h.os.other hn hf ho⟩
theorem TS.fresh(h:TS key tf t r s){n:Nat}(hn:t.get n=none):n∉(tsL key r s).flatMap vD.blks:=h.os.fresh hn
theorem TS.froze(h:TS key tf t r s){n:Nat}{y:lA}(hn:n∉(tsL key r s).flatMap vD.blks)(hy:t.get n=some y)(hf:tf.get n=none):TS key (tf.set n y) t r s/\dA tf (tf.set n y):=⟨⟨h.pl,(h.os.froze hn hy hf).1⟩,(h.os.froze hn hy hf).2⟩
theorem qT{p:List zA}(h:p.length=4){l:List zA}{k:Nat}:(p++l)[4+k]?=l[k]?:=by
 rw[yaq (by omega)];congr 1;omega
theorem mR{p:List zA}(h:p.length=4){l:List zA}{k:Nat}{v:zA}:(p++l).set (4+k) v=p++l.set k v:=by
 rw[List.set_append_right _ _ (by omega)];congr 1;congr 1;omega
theorem TS.ldN(h:TS key tf t r s):jA yA 30 ⟨0,t⟩ (.ptr r.b 4)=some r.vn:=h.cel.load1 z21 rfl (qT (k:=0) h.pl)
theorem TS.ldC(h:TS key tf t r s):jA yA 31 ⟨0,t⟩ (.ptr r.b 5)=some r.vc:=h.cel.load1 zxk rfl (qT (k:=1) h.pl)
theorem TS.ldM1(h:TS key tf t r s):jA yA 107 ⟨0,t⟩ (.ptr r.b 8)=some (.map r.m1):=h.cel.load1 zxm rfl (qT (k:=4) h.pl)
theorem TS.ldM2(h:TS key tf t r s):jA yA 107 ⟨0,t⟩ (.ptr r.b 9)=some (.map r.m2):=h.cel.load1 zxm rfl (qT (k:=5) h.pl)
theorem TS.ldK(h:TS key tf t r s):jA yA 37 ⟨0,t⟩ (.ptr r.b 10)=some r.vk:=h.cel.load1 zl4 rfl (qT (k:=6) h.pl)
end
theorem uV{b:Nat}:cB yA 109 3 (.ptr b 0)=some (.ptr b 10):=by kernel_rfl
theorem bN{b:Nat}:cB yA 109 0 (.ptr b 0)=some (.ptr b 0):=by kernel_rfl
theorem z5d{b:Nat}:cB yA 109 1 (.ptr b 0)=some (.ptr b 8):=by kernel_rfl
theorem z5c{b:Nat}:cB yA 109 2 (.ptr b 0)=some (.ptr b 9):=by kernel_rfl
theorem zcw{b:Nat}:cB yA 34 1 (.ptr b 0)=some (.ptr b 4):=by kernel_rfl
theorem zcv{b:Nat}:cB yA 34 2 (.ptr b 0)=some (.ptr b 5):=by kernel_rfl
theorem z2i{b:Nat}:cB yA 34 3 (.ptr b 0)=some (.ptr b 6):=by kernel_rfl
theorem zvr{b:Nat}:cB yA 34 4 (.ptr b 0)=some (.ptr b 7):=by kernel_rfl
theorem kI{b o:Nat}:lG (.ptr b o)=some (.ptr b o):=by kernel_rfl
theorem zmo{d b o:Nat}:same d (.ptr b o) (.ptr b o)=true:=by
 have e:∀n,Nat.beq n n=true:=Nat.beq_refl
 cases d <;> (unfold Am.same;simp only[e,Bool.and_self])
end Go.Proofs
namespace Go.Proofs
open Go Go.Am
variable [aC]
variable {t tf:Tr lA}{key:xB->List Nat}{r:TR}{s:mE}
theorem el37:aI yA 37 54 3:=⟨⟨_,zl4,rfl,rfl⟩,⟨_,ty54,rfl,rfl,by decide,by decide⟩⟩
theorem zua{n:Nat}{i:XIns}(hn:t.get n=none):∃t',eD yA 37 1 [(0,.agg [.int .u8 i.op,.int .i64 i.a,.int .i64 i.b])] ⟨n,t⟩=some (.slice n 0 1 1,⟨n+1,t'⟩)/\oG t' 3 (.slice n 0 1 1) [i.cells]/\dA t t'/\cC n t t':=
 nO (C:=yA) (T:=37) (el:=54) (sz:=3) (n:=1) (cl:=[i.cells]) zl4 rfl ty54 rfl rfl (by decide) rfl (fun k cs hk=>by
  cases k with
  | zero=>simp at hk;subst hk;rfl
  | succ k=>simp at hk) rfl hn
def Tgt (tf:Tr lA)(b:Nat)(v:zA)(i:Nat):Prop:=∃n m,v=.func (.func 232) [] [.ptr n 0,.ptr m 0]/\pD tf n none [.ptr b 0]/\pD tf m none [.int .i64 (i:Int)]
theorem Tgt.mono{tf':Tr lA}{b i:Nat}{v:zA}(h:Tgt tf b v i)(hf:dA tf tf'):Tgt tf' b v i:=by
 obtain⟨n,m,rfl,⟨c,h1,h2⟩,⟨d,h3,h4⟩⟩:=h
 exact⟨n,m,rfl,⟨c,hf _ _ h1,h2⟩,⟨d,hf _ _ h3,h4⟩⟩
theorem mS{i:XIns}{Q:bB}(h:TS key tf t r s)(hl:s.code.length<300000)
  (hQ:∀tf' t' r' v,dA tf tf'->r'.b=r.b->r'.kp=r.kp->TS key tf' t' r' ⟨s.names,s.consts,s.ws,s.ts,s.code++[i]⟩->Tgt tf' r.b v s.code.length->Q v t'):Wc yA F 168 [.ptr r.b 0,.int .u8 i.op,.int .i64 i.a,.int .i64 i.b] t Q:=by
 refine w168 _ _ _ _ ?_
 simp only[t168,pA];intro n0 hn0 hb0;obtain⟨t1,a1,a2,a3,a4⟩:=zwi (v:=.ptr r.b 0) hn0
 have h1:=h.junk hn0 a4
 have a2:pD t1 n0 none [.ptr r.b 0]:=a2
 have l0:∀t',t'.get n0=t1.get n0->jA yA 106 ⟨0,t'⟩ (.ptr n0 0)=some (.ptr r.b 0):=fun t' e=>(a2.off e).load1 ty106 rfl rfl
 rw[a1,xA,l0 t1 rfl,xA,kI,xA,uV,xA,h1.ldK,xA,h1.lk.len,xA,yag,zB,xA];intro n1 hn1 hb1;obtain⟨t2,b1,b2,b3,b4⟩:=mV (C:=yA) ty3 hn1
 have h2:=h1.junk hn1 b4
 have ne01:n0≠n1:=by
  intro e;subst e;obtain⟨c,hc,_⟩:=a2
  rw[hc]at hn1;cases hn1
 rw[b1,xA];intro m2 _ _;obtain⟨t3,c1,c2,c3⟩:=b2.store1 (C:=yA) hb1 (j:=0) (v:=.int .i64 (s.code.length:Int)) ty3 rfl rfl rfl (by decide)
 have c2:pD t3 n1 none [.int .i64 (s.code.length:Int)]:=c2
 have h3:TS key tf t3 r s:=h2.other (h1.fresh hn1) (h1.os.tfn hn1) c3
 have e03:t3.get n0=t1.get n0:=by rw[c3 n0 ne01,b4 n0 ne01]
 rw[c1,xA,l0 t3 e03,xA];simp only[l0 t3 e03,xA,kI,uV,h3.ldK,if_true];intro n3 hn3 hb3;obtain⟨t4,d1,d2,d3,d4⟩:=zua (i:=i) hn3
 have h4:=h3.junk hn3 d4
 have ne03:n0≠n3:=by
  intro e;subst e;obtain⟨c,hc,_⟩:=a2
  rw[e03,hc]at hn3;cases hn3
 have ne13:n1≠n3:=by
  intro e;subst e;obtain⟨c,hc,_⟩:=c2
  rw[hc]at hn3;cases hn3
 have e04:t4.get n0=t1.get n0:=by rw[d4 n0 ne03,e03]
 rw[d1,xA];simp only[l0 t4 e04,xA,zmo,if_true,h4.ldK,h4.lk.same];intro n4 hn4 hb4;obtain⟨t5,f1,f2,f3,f4⟩:=rS (C:=yA) el37 (m:=[i.d]) h4.lk d2 (by
  rw[fD];exact⟨_,_,rfl,zmz.2 rfl,lE.2 rfl⟩) (by
  intro a ha;simp only[XIns.cells,List.flatten_cons,List.flatten_nil,ybe,yat,List.not_mem_nil,or_false]at ha;rcases ha with rfl | rfl | rfl<;>rfl) (by simp) (by simp;omega) hn4 hb4 h4.os.tle
 have ne04:n0≠n4:=by
  intro e;subst e;obtain⟨c,hc,_⟩:=a2
  rw[e04,hc]at hn4;cases hn4
 have c24:pD t4 n1 none [.int .i64 (s.code.length:Int)]:=c2.off (d4 n1 ne13)
 have ne14:n1≠n4:=by
  intro e;subst e;obtain⟨c,hc,_⟩:=c24
  rw[hc]at hn4;cases hn4
 have nin0:=h.fresh hn0
 have nin1:=h1.fresh hn1
 have inK:∀k,tJ r.vk k->k∈(tsL key r s).flatMap vD.blks:=fun k hk=>by
  have:=iK.2 hk
  simp[tsL,bD,jE,wB,this]
 have e05:t5.get n0=t1.get n0:=by rw[f4 n0 ne04 (fun e=>nin0 (inK _ e)),e04]
 have e15:t5.get n1=t3.get n1:=by rw[f4 n1 ne14 (fun e=>nin1 (inK _ e)),d4 n1 ne13]
 rw[f1,xA];dsimp only
 rw[l0 t5 e05,xA,if_pos zmo];intro m6 _ _;have ec:(s.code.map XIns.d).length+[i.d].length=(s.code++[i]).length:=by simp
 have hd:s.code.map XIns.d++[i.d]=(s.code++[i]).map XIns.d:=by simp
 rw[ec,hd]at f2;have o5:Objs yA.base tf t5 ([bD r.b none r.cells,jE r.m1 (iE 0 s.names),jE r.m2 (iE 0 (s.consts.map key)),wB yA.base 1 (s.names.map D.str) r.vn,wB yA.base 6 (s.consts.map xB.d) r.vc,wB yA.base 1 s.ws r.vw,wB yA.base 1 s.ts r.vt]++wB yA.base 3 ((s.code++[i]).map XIns.d) (.slice n4 0 (s.code++[i]).length (s.code++[i]).length)::[]):=by
  refine Objs.upd (o:=wB yA.base 3 (s.code.map XIns.d) r.vk) h4.os (fun k k1 k2=>f4 k ?_ (fun e=>k1 (iK.2 e))) (fun k hk=>?_) f2 (by simp[wB,mD]) f3
  ·intro e;subst e;exact k2 (by simp[wB,mD])
  ·have:k=n4:=by simpa[wB,mD]using hk
   subst this;exact .inr ⟨hn4,hb4⟩
 have cel5:pD t5 r.b none r.cells:=o5.ok (bD r.b none r.cells) (by simp)
 have hlen:r.cells.length=11:=by simp[TR.cells,h.pl]
 obtain⟨t6,g1,g2,g3⟩:=cel5.store1 (C:=yA) h.baseB.1 (j:=10) (v:=.slice n4 0 (s.code++[i]).length (s.code++[i]).length) zl4 rfl rfl rfl (by omega)
 rw[ec,g1,xA];have es:r.cells.set 10 (.slice n4 0 (s.code++[i]).length (s.code++[i]).length)=TR.cells ⟨r.b,r.pl,r.vn,r.vc,r.vw,r.vt,.slice n4 0 (s.code++[i]).length (s.code++[i]).length,r.m1,r.m2⟩:=mR (k:=6) h.pl
 rw[es]at g2;have o6:Objs yA.base tf t6 (tsL key ⟨r.b,r.pl,r.vn,r.vc,r.vw,r.vt,.slice n4 0 (s.code++[i]).length (s.code++[i]).length,r.m1,r.m2⟩ ⟨s.names,s.consts,s.ws,s.ts,s.code++[i]⟩):=by
  refine Objs.upd (A:=[]) (o:=bD r.b none r.cells) o5 (fun k k1 _=>g3 k (fun e=>k1 (by simp[bD,e]))) (fun k hk=>.inl hk) g2 (by simp[bD]) (f3.off h.baseB.2 g3)
 have h6:TS key tf t6 ⟨r.b,r.pl,r.vn,r.vc,r.vw,r.vt,.slice n4 0 (s.code++[i]).length (s.code++[i]).length,r.m1,r.m2⟩ ⟨s.names,s.consts,s.ws,s.ts,s.code++[i]⟩:=⟨h.pl,o6⟩
 have nr0:n0≠r.b:=fun e=>nin0 (e ▸ TS.inB)
 have nr1:n1≠r.b:=fun e=>nin1 (e ▸ TS.inB)
 have e06:t6.get n0=t1.get n0:=by rw[g3 n0 nr0,e05]
 have e16:t6.get n1=t3.get n1:=by rw[g3 n1 nr1,e15]
 have notin:∀n,n∉(tsL key r s).flatMap vD.blks->n≠n4->n∉(tsL key ⟨r.b,r.pl,r.vn,r.vc,r.vw,r.vt,.slice n4 0 (s.code++[i]).length (s.code++[i]).length,r.m1,r.m2⟩ ⟨s.names,s.consts,s.ws,s.ts,s.code++[i]⟩).flatMap vD.blks:=by
  intro n h1 h2 h3;simp only[tsL,bD,jE,wB,List.flatMap_cons,List.flatMap_nil,List.mem_append,yce,ybe,not_or]at h1 h3;simp only[mD,yce]at h3;simp only[mD]at h1;obtain⟨k1,k2,k3,k4,k5,k6,k7,k8⟩:=h1
  rcases h3 with h | h | h | h | h | h | h | h
  ·exact k1 h
  ·exact k2 h
  ·exact k3 h
  ·exact k4 h
  ·exact k5 h
  ·exact k6 h
  ·exact k7 h
  ·exact h2 h
 have tn1:t.get n1=none:=by rw[<- a4 n1 (Ne.symm ne01)];exact hn1
 obtain⟨x0,hx0,hx0'⟩:=a2
 obtain⟨x1,hx1,hx1'⟩:=c2
 obtain⟨h7,q7⟩:=h6.froze (n:=n0) (notin n0 nin0 ne04) (by rw[e06];exact hx0) (h.os.tfn hn0)
 obtain⟨h8,q8⟩:=h7.froze (n:=n1) (notin n1 nin1 ne14) (by rw[e16];exact hx1) (by rw[Tr.get_set,if_neg (Ne.symm ne01)];exact h.os.tfn tn1)
 refine hQ _ t6 ⟨r.b,r.pl,r.vn,r.vc,r.vw,r.vt,.slice n4 0 (s.code++[i]).length (s.code++[i]).length,r.m1,r.m2⟩ _ (q7.trans q8) rfl rfl h8 ⟨n0,n1,rfl,⟨x0,?_,hx0'⟩,⟨x1,?_,hx1'⟩⟩
 ·rw[Tr.get_set,if_neg ne01,Tr.get_set,if_pos rfl]
 ·rw[Tr.get_set,if_pos rfl]
theorem _root_.Go.Am.Loose.own{base sz:Nat}{l:List D}{b n k:Nat}(h:Loose base tf t sz l (.slice b 0 n k)):OwnD base tf t sz l b (some sz):=by
 rcases h with⟨e1,_⟩ | ⟨b',cl,c,e1,k0,k1,k2,k3,k4⟩
 ·cases e1
 ·cases e1
  have hcl:=k4.length
  have hcl3:∀(j:Nat) cs,cl[j]?=some cs->cs.length=sz:=fun j cs hj=>(k3 j cs hj).1
  have hfl:=yN hcl3
  refine⟨k0,k1,cl,⟨c,by rw[hfl,hcl];exact k2,fun j a hj=>?_⟩,hcl3,k4⟩
  have hj2:j<cl.length*sz:=by rw[<- hfl];exact(yad.1 hj).1
  have hpos:0<sz:=by
   rcases Nat.eq_zero_or_pos sz with e | e
   ·subst e;simp at hj2
   ·exact e
  have q1:j / sz<cl.length:=ybv (by rw[yai];exact hj2)
  have hq:cl[j / sz]?=some cl[j / sz]:=yae q1
  have hql:=hcl3 _ _ hq
  obtain⟨a',hx⟩:∃a',cl[j / sz][j%sz]?=some a':=⟨_,yae (l:=cl[j / sz]) (i:=j%sz) (by rw[hql];exact ybz _ hpos)⟩
  have e:=eO hcl3 _ _ _ _ hq hx
  have ej:j / sz*sz+j%sz=j:=by rw[yai];exact ybi j sz
  rw[ej,hj]at e;have:=(k3 _ _ hq).2 _ _ hx
  rw[ej]at this;rw[this,<- ybj e]
theorem _root_.Go.Am.OwnD.loose{base sz:Nat}{l:List D}{b n:Nat}(h:OwnD base tf t sz l b (some sz))(hn:l.length=n):Loose base tf t sz l (.slice b 0 n n):=by
 obtain⟨h1,h2,cl,⟨c,h3,h4⟩,h5,h6⟩:=h
 subst hn;have:=h6.length
 refine .inr ⟨b,cl,c,rfl,h1,h2,by rw[h3,yN h5,this],fun i cs hi=>⟨h5 i cs hi,fun j a hj=>h4 _ _ (eO h5 i j cs a hi hj)⟩,h6⟩
theorem wX{i:Nat}{v:zA}{Q:bB}{x:XIns}(h:TS key tf t r s)(hv:Tgt tf r.b v i)(hi:s.code[i]?=some x)(hl:s.code.length<300000)
  (hQ:∀t',TS key tf t' r ⟨s.names,s.consts,s.ws,s.ts,s.code.set i ⟨x.op,s.code.length,x.b⟩⟩->Q (.tup []) t'):uH (fL v []) fun p=>Wq yA F xJ p.1 p.2 t Q:=by
 obtain⟨n,m,rfl,h1,h2⟩:=hv
 have ef:fL (.func (.func 232) [] [.ptr n 0,.ptr m 0]) []=some (232,[.ptr n 0,.ptr m 0]):=rfl
 rw[ef,xA,q232];have htle:=h.os.tle
 have l0:jA yA 106 ⟨0,t⟩ (.ptr n 0)=some (.ptr r.b 0):=sP (H:=⟨0,tf⟩) (fun _ _ k=>htle _ _ k) (h1.load1 ty106 rfl rfl)
 have l1:jA yA 3 ⟨0,t⟩ (.ptr m 0)=some (.int .i64 (i:Int)):=sP (H:=⟨0,tf⟩) (fun _ _ k=>htle _ _ k) (h2.load1 ty3 rfl rfl)
 have hlt:i<s.code.length:=(yad.1 hi).1
 refine w232 _ _ ?_
 simp only[t232,pA];obtain⟨b,e1⟩:∃b,r.vk=.slice b 0 s.code.length s.code.length:=by
  rcases h.lk with⟨_,e2⟩ | ⟨b,cl,c,e1,_⟩
  ·have:s.code=[]:=List.map_eq_nil_iff.1 e2
   rw[this]at hlt;simp at hlt
  ·rw[yag]at e1;exact⟨b,e1⟩
 have ldk:=h.ldK
 have hlk:=h.lk
 rw[e1]at ldk hlk;have ia:yB yA 37 (.slice b 0 s.code.length s.code.length) (.int .i64 (i:Int))=some (.ptr b (0+i*3)):=xL sl37 hlt
 have fa:cB yA 54 1 (.ptr b (0+i*3))=some (.ptr b (0+i*3+1)):=by
  unfold cB vO;rw[ty54,uA];rfl
 have lv:rB (.slice b 0 s.code.length s.code.length)=some (.int .i64 (s.code.length:Int)):=rfl
 rw[l0,xA,kI,xA,uV,xA,ldk,xA,l1,xA,zB,xA];simp only[xA,kI,uV,ldk,lv,zB,ia,fa];intro mm _ _;obtain⟨t',g1,g2,g3⟩:=OwnD.store (C:=yA) hlk.own (i:=i) (o:=1) (T:=3) (d:=x.d) (d':=XIns.d ⟨x.op,s.code.length,x.b⟩) (v:=.int .i64 (s.code.length:Int)) (by simp[hi]) ty3 rfl (by exact(by decide:1+1<=3)) rfl (fun cs h3 hrd=>by
  rw[zmz]at hrd ⊢
  subst hrd;rfl)
 have e3:0+i*3+1=i*3+1:=by omega
 rw[e3,g1,xA];have hmap:(s.code.map XIns.d).set i (XIns.d ⟨x.op,s.code.length,x.b⟩)=(s.code.set i ⟨x.op,s.code.length,x.b⟩).map XIns.d:=by rw[List.map_set]
 rw[hmap]at g2;refine hQ t' ⟨h.pl,?_⟩
 have hos:=h.os
 refine Objs.upd (A:=[bD r.b none r.cells,jE r.m1 (iE 0 s.names),jE r.m2 (iE 0 (s.consts.map key)),wB yA.base 1 (s.names.map D.str) r.vn,wB yA.base 6 (s.consts.map xB.d) r.vc,wB yA.base 1 s.ws r.vw,wB yA.base 1 s.ts r.vt]) (B:=[]) (o:=wB yA.base 3 (s.code.map XIns.d) r.vk) hos (fun k k1 _=>g3 k (fun e=>k1 ?_)) (fun k hk=>.inl hk) ?_ ?_ (htle.off ?_ g3)
 ·subst e;rw[e1];simp[wB,mD]
 ·rw[e1];exact g2.loose (by simp)
 ·rw[e1];simp[wB,mD]
 ·exact(hlk.none (aM.2 rfl)).1
end Go.Proofs
namespace Go.Proofs
open Go Go.Am
variable [aC]
variable {t:Tr lA}
theorem pv36{f:lF}{u v:zA}(h1:oA t 1 (gC f.n.limbs) u)(h2:oA t 1 (gC f.d.limbs) v)(hf:f.ok):zD yA F 36 [.agg [.bool f.n.neg,u,.bool f.d.neg,v]] t=some (.int .i64 (rR f:Nat)):=by
 have hs:=aV hf
 refine wF.2 (w36 _ _ _ _ ?_)
 unfold rR at hs ⊢
 simp (disch:=omega) only[t36,pA,h1.len,h2.len,xA,zB,dT,zC]
 simp
mutual
theorem pv37:∀(x:qA) (left:Int) (cs:List zA),x.ok -> -9007199254740992<=left->left<=9007199254740992->RD t x.d cs->zD yA F 37 [.agg cs,.int .i64 left] t=some (.int .i64 (gM x left))
 | .mk op name v args,left,cs,hx,hl1,hl2,h=>by
  obtain⟨a,b,c,rfl,ha,hb,hc⟩:=jL h
  simp only[qA.op,qA.name,qA.v,qA.args]at ha hb hc ⊢
  have hx':=hx
  unfold qA.ok at hx';have hf:=aV hx'.2.1
  have hn:=hx'.1
  unfold lD at hn;refine wF.2 (w37 _ _ _ _ _ _ _ _ _ _ ?_)
  simp (disch:=omega) only[t37,pA,q36,pv36 ha hb hx'.2.1,xA,zB,za0,sO,if_true,lR,zC,Int.tdiv_eq_ediv_of_nonneg]
  unfold gM;exact z1m args args left _ op name v _ _ c 0 hc rfl hx'.2.2.2 hx'.2.2.1 (by omega) hl1 hl2 (by omega)
theorem z1m:∀(l args:List qA) (left n:Int) (op:Nat) (name:List Nat) (v:xB) (a b c:zA) (i:Nat),oA t 9 (args.map qA.d) c->args.drop i=l->qA.oks l->args.length<lD->0<=n -> -9007199254740992<=left->left<=9007199254740992->n<=27021597764222976 →
  jp 37 2 [.int .i64 left,.int .i64 n,.int .i64 i,.int .u8 op,.str name,.int .u8 v.kind,.bool v.f.n.neg,a,.bool v.f.d.neg,b,.int .i64 v.i,c] t (fun v' t'=>v'=.int .i64 (oQ l left n)/\t'=t)
 | [],args,left,n,op,name,v,a,b,c,i,hc,hd,hok,hsz,hn,hl1,hl2,hn2=>by
  have:=zY hd
  refine j37_2 _ _ _ _ _ _ _ _ _ _ _ _ ?_
  simp only[z3c,pA,hc.len,xA,zB,yag,jB];rw[if_neg (by omega)]
  unfold oQ;simp
 | x::l,args,left,n,op,name,v,a,b,c,i,hc,hd,hok,hsz,hn,hl1,hl2,hn2=>by
  obtain⟨h1,h2,h3⟩:=yY hd
  unfold lD at hsz;have hok':=hok
  unfold qA.oks at hok';refine j37_2 _ _ _ _ _ _ _ _ _ _ _ _ ?_
  obtain⟨pb,po,cs,g1,g2,g3,g4,g5⟩:=nF.at z08 (by simp) hc (i:=i) (d:=x.d) (by simp[h1])
  simp only[z3c,pA,hc.len,xA,zB,yag,jB,qG,g1,g2,zjm];rw[if_pos (by omega)]
  unfold oQ;split
  ·rename_i hle
   obtain⟨a1,b1,c1,rfl,ha1,hb1,hc1⟩:=jL g5
   have hs:=qX x (left-n) hok'.1
   rw[bO g5 x.zs];simp only[xA,cellsOf,qF,bF,aE,kE];simp (disch:=omega) only[q37,yaa,yab,zC]
   rw[pv37 x (left-n) _ hok'.1 (by omega) (by omega) g5]
   simp (disch:=omega) only[xA,zB,zC]
   have:=z1m l args left (n+gM x (left-n)) op name v a b c (i+1) hc h2 hok'.2 hsz (by omega) hl1 hl2 (by omega)
   rw[show((i:Int)+1)=((i+1:Nat):Int) by omega]
   exact this
  ·simp
end
end Go.Proofs
namespace Go.Proofs
open Go Go.Am
variable [aC]
variable {t:Tr lA}
def zaz:List lJ->Int->Int
 | [],n=>n
 | d::l,n=>if n<=2000 then zaz l (n+(d.name.length:Int) / 30)else n
def sR:List uF->Int->Int
 | [],n=>n
 | r::l,n=>if n<=2000 then sR l (n+(rR r.f:Nat))else n
def pU:List yF->Int->Int
 | [],n=>n
 | x::l,n=>if n<=2000 then pU l (sR x.rows (n+(x.name.length:Int) / 30))else n
def qQ(c:kC)(n:Int):Int:=n+((c.name.length:Int) / 30+(c.label.length:Int) / 30+gM c.when_ (2000-n))
def pQ:List kC->Int->Int
 | [],n=>n
 | c::l,n=>if n<=2000 then(if qQ c n<=2000 then pQ l (qQ c n+gM c.then_ (2000-qQ c n))else pQ l (qQ c n))else n
def sizeP(p:yH):Int:=pQ p.clauses (pU p.tables (zaz p.defs (1+(p.name.length:Int) / 30+p.defs.length+p.tables.length+p.clauses.length)))
theorem zz1(n:Nat):Int.tdiv (n:Int) 30=(n:Int) / 30:=Int.tdiv_eq_ediv_of_nonneg (by omega)
section
variable {p:yH}{a b c:zA}
theorem zhn{l:List kC}(hc:oA t 24 (l.map kC.d) c)(hn:l.length<1125899906842624)(hf:∀x∈l,x.fit):∀(m i:Nat) (n:Int),i+m=l.length->0<=n->n<1152921504606846976->jp 13 14 [.int .i64 2000,.int .i64 n,.int .i64 (i:Int),.str p.name,a,b,c] t (fun v s=>v=.int .i64 (pQ (l.drop i) n)/\s=t):=by
 intro m;induction m with
 | zero=>
  intro i n hi h0 h1;refine z2a _ _ _ _ _ _ _ ?_
  simp only[zsf,pA,hc.len,xA,zB,yag,jB];rw[if_neg (by omega),yau (by omega)]
  (first | exact⟨rfl,rfl⟩ | exact⟨rfl,trivial⟩ | trivial)
 | succ m ih=>
  intro i n hi h0 h1;have hlt:i<l.length:=by omega
  obtain⟨q,off,u1,u2,u3,w1,w2,w3,g1,g2,g3,g4,g5,g6⟩:=tY hc (yae hlt)
  have hfit:=hf _ (ybk hlt)
  obtain⟨f1,f2,_,_,_,f6,f7⟩:=hfit
  unfold lD at f1 f2;have ok1:=qA.fit_ok f6
  have ok2:=qA.fit_ok f7
  refine z2a _ _ _ _ _ _ _ ?_
  simp only[zsf,pA,hc.len,xA,zB,yag,jB,qG];rw[if_pos (by omega),yam hlt]
  unfold pQ;by_cases h2:n<=2000
  ·rw[if_pos h2,if_pos h2]
   unfold zbg at g3;rw[g1,xA,g2,xA,g3,xA];unfold gL at g6;simp only[gL,cellsOf,qF,bF,aE,kE,yaa,yab];have s1:=qX l[i].when_ (2000-n) ok1
   have e1:=pv37 l[i].when_ (2000-n) _ ok1 (by omega) (by omega) g4
   unfold iC at e1;have ew:qQ l[i] n=n+((l[i].name.length:Int) / 30+(l[i].label.length:Int) / 30+gM l[i].when_ (2000-n)):=rfl
   have eN:vA .i64 (n+vA .i64 (vA .i64 (vA .i64 ((l[i].name.length:Int) / 30)+vA .i64 ((l[i].label.length:Int) / 30))+gM l[i].when_ (2000-n)))=qQ l[i] n:=by
    rw[zC (n:=(l[i].name.length:Int) / 30) (by omega) (by omega),zC (n:=(l[i].label.length:Int) / 30) (by omega) (by omega),zC (n:=(l[i].name.length:Int) / 30+(l[i].label.length:Int) / 30) (by omega) (by omega),
     zC (n:=(l[i].name.length:Int) / 30+(l[i].label.length:Int) / 30+gM l[i].when_ (2000-n)) (by omega) (by omega),zC (by omega) (by omega)]
    rfl
   have bw:0<=qQ l[i] n/\qQ l[i] n<1152921504606846976:=by rw[ew];omega
   refine aA g6 ?_
   rw[zC (n:=2000-n) (by omega) (by omega),q37,e1,xA,zB,xA]
   simp only[za0,sO,if_true,lR,zz1,eN,qG];have ei:vA .i64 ((i:Int)+1)=((i+1:Nat):Int):=by rw[zC (by omega) (by omega)];omega
   generalize qQ l[i] n=k at *
   by_cases h3:k<=2000
   ·rw[if_pos h3,if_pos h3]
    have s2:=qX l[i].then_ (2000-k) ok2
    have e2:=pv37 l[i].then_ (2000-k) _ ok2 (by omega) (by omega) g5
    unfold iC at e2;rw[zC (n:=2000-k) (by omega) (by omega),q37,e2,xA,zB,xA,ei,zC (by omega) (by omega)]
    exact ih (i+1) _ (by omega) (by omega) (by omega)
   ·rw[if_neg h3,if_neg h3,ei]
    exact ih (i+1) _ (by omega) bw.1 bw.2
  ·rw[if_neg h2,if_neg h2]
   (first | exact⟨rfl,rfl⟩ | exact⟨rfl,trivial⟩ | trivial)
theorem zal:∀(l:List uF) (n:Int),(∀r∈l,r.fit)->0<=n->0<=sR l n/\sR l n<=max n 4503599627372496
 | [],n,_,h=>by unfold sR;omega
 | r::l,n,hf,h=>by
  unfold sR;split
  ·have:=aV (hf r (by simp)).2.2.2.1
   have:=zal l (n+(rR r.f:Nat)) (fun x hx=>hf x (by simp[hx])) (by omega)
   omega
  ·omega
theorem zcu{l:List yF}(hb:oA t 3 (l.map yF.d) b){i:Nat}(hi:i<l.length):∃p o v,yB yA 23 b (.int .i64 (i:Int))=some (.ptr p o)/\cB yA 82 0 (.ptr p o)=some (.ptr p (o+0))/\cB yA 82 2 (.ptr p o)=some (.ptr p (o+2))/\jA yA 9 ⟨0,t⟩ (.ptr p (o+0))=some (.str l[i].name)/\jA yA 80 ⟨0,t⟩ (.ptr p (o+2))=some v/\oA t 7 (l[i].rows.map uF.d) v:=by
 obtain⟨p,o,cs,g1,g2,g3,_,g5⟩:=nF.at sl23 (by simp) hb (i:=i) (d:=l[i].d) (by simp[yae hi])
 obtain⟨v,rfl,hv⟩:=za2 g5
 exact⟨p,o,v,g1,by kernel_rfl,by kernel_rfl,g3.load1 ty9 rfl rfl,g3.load1 ty80 rfl rfl,hv⟩
theorem zsv{l:List yF}(hb:oA t 3 (l.map yF.d) b)(hf:∀x∈l,x.fit){i:Nat}(hi:i<l.length)(hil:i<1125899906842624){Q:bB}:∀(m j:Nat) (n:Int),j+m=l[i].rows.length->0<=n->n<1152921504606846976 →
  jp 13 6 [.int .i64 2000,.int .i64 (sR (l[i].rows.drop j) n),.int .i64 ((i+1:Nat):Int),.str p.name,a,b,c] t Q->jp 13 10 [.int .i64 2000,.int .i64 n,.int .i64 (i:Int),.int .i64 (j:Int),.str p.name,a,b,c] t Q:=by
 obtain⟨q,o,v,g1,g2,g3,g4,g5,g6⟩:=zcu hb hi
 have hfit:=hf _ (ybk hi)
 obtain⟨f1,f2,f3⟩:=hfit
 unfold lD at f1 f2;have ei:vA .i64 ((i:Int)+1)=((i+1:Nat):Int):=by rw[zC (by omega) (by omega)];omega
 intro m;induction m with
 | zero=>
  intro j n hj h0 h1 hQ;rw[yau (by omega)]at hQ
  refine z2b _ _ _ _ _ _ _ _ ?_
  simp only[zsg,pA];rw[g1,xA,g3,xA,g5,xA,g6.len,xA,yag,zB,xA];simp only[jB];rw[if_neg (by omega),ei]
  exact hQ
 | succ m ih=>
  intro j n hj h0 h1 hQ;have hlt:j<l[i].rows.length:=by omega
  rw[yam hlt]at hQ;unfold sR at hQ;refine z2b _ _ _ _ _ _ _ _ ?_
  simp only[zsg,pA];rw[g1,xA,g3,xA,g5,xA,g6.len,xA,yag,zB,xA];simp only[jB,qG];rw[if_pos (by omega)]
  by_cases h2:n<=2000
  ·rw[if_pos h2]at hQ ⊢
   obtain⟨q',o',cs,k1,k2,k3,_,k5⟩:=nF.at sl80 (by simp) g6 (i:=j) (d:=l[i].rows[j].d) (by simp[yae hlt])
   obtain⟨x,y,rfl,hx,hy⟩:=zmy k5
   have fa:cB yA 85 3 (.ptr q' o')=some (.ptr q' (o'+3)):=by kernel_rfl
   have ld:jA yA 45 ⟨0,t⟩ (.ptr q' (o'+3))=some (.agg [.bool l[i].rows[j].f.n.neg,x,.bool l[i].rows[j].f.d.neg,y]):=k3.load (j:=3) ty45 rfl rfl (by exact(by decide:3+4<=7))
   have fr:(l[i].rows[j]).fit:=f3 _ (ybk hlt)
   have hz:mG [(.bool false),.nilslice,(.bool false),.nilslice] (.agg [.bool l[i].rows[j].f.n.neg,x,.bool l[i].rows[j].f.d.neg,y])=some (cellsOf [.bool l[i].rows[j].f.n.neg,x,.bool l[i].rows[j].f.d.neg,y]):=cK (by
    show(true&&(pG .nilslice x&&(true&&(pG .nilslice y&&true))))=true
    rw[eH hx,eH hy];rfl)
   have e1:=pv36 hx hy fr.2.2.2.1
   have hs:=aV fr.2.2.2.1
   have ej:vA .i64 ((j:Int)+1)=((j+1:Nat):Int):=by rw[zC (by omega) (by omega)];omega
   simp only[xA,g3,g5];rw[k1,xA,fa,xA,ld,xA,hz,xA];simp only[cellsOf,aE,kE,yaa,yab];rw[q36,e1,xA,zB,xA,ej,zC (by omega) (by omega)]
   exact ih (j+1) _ (by omega) (by omega) (by omega) hQ
  ·rw[if_neg h2]at hQ ⊢
   rw[ei];exact hQ
theorem zj6(hb:oA t 3 (p.tables.map yF.d) b)(hc:oA t 24 (p.clauses.map kC.d) c)(hp:p.fit):∀(m i:Nat) (n:Int),i+m=p.tables.length->0<=n->n<1152921504606846976->jp 13 6 [.int .i64 2000,.int .i64 n,.int .i64 (i:Int),.str p.name,a,b,c] t (fun v s=>v=.int .i64 (pQ p.clauses (pU (p.tables.drop i) n))/\s=t):=by
 have hnt:=hp.ntables
 have hnc:=hp.nclauses
 unfold lD at hnt hnc;have dC:∀n:Int,0<=n->n<1152921504606846976->jp 13 14 [.int .i64 2000,.int .i64 n,.int .i64 0,.str p.name,a,b,c] t (fun v s=>v=.int .i64 (pQ p.clauses n)/\s=t):=by
  intro n h0 h1;have:=zhn (p:=p) (a:=a) (b:=b) hc hnc hp.clauses p.clauses.length 0 n (by omega) h0 h1
  rw[ybs]at this;exact this
 intro m;induction m with
 | zero=>
  intro i n hi h0 h1;refine j13_6 _ _ _ _ _ _ _ ?_
  simp only[z3j,pA,hb.len,xA,zB,yag,jB];rw[if_neg (by omega),yau (by omega)]
  exact dC n h0 h1
 | succ m ih=>
  intro i n hi h0 h1;have hlt:i<p.tables.length:=by omega
  obtain⟨q,o,v,g1,g2,g3,g4,g5,g6⟩:=zcu hb hlt
  have hfit:=hp.tables _ (ybk hlt)
  obtain⟨f1,f2,f3⟩:=hfit
  unfold lD at f1;refine j13_6 _ _ _ _ _ _ _ ?_
  simp only[z3j,pA,hb.len,xA,zB,yag,jB,qG];rw[if_pos (by omega),yam hlt]
  unfold pU;by_cases h2:n<=2000
  ·rw[if_pos h2,if_pos h2,g1,xA,g2,xA,g4,xA,sI,xA,lR,zz1,zC (n:=(p.tables[i].name.length:Int) / 30) (by omega) (by omega),zC (by omega) (by omega)]
   have hr:=zal p.tables[i].rows (n+(p.tables[i].name.length:Int) / 30) f3 (by omega)
   refine zsv (p:=p) (a:=a) (c:=c) hb hp.tables hlt (by omega) p.tables[i].rows.length 0 _ (by omega) (by omega) (by omega) ?_
   rw[ybs];exact ih (i+1) _ (by omega) (by omega) (by omega)
  ·rw[if_neg h2,if_neg h2]
   exact dC n h0 h1
theorem zsw(ha:oA t 3 (p.defs.map lJ.d) a)(hb:oA t 3 (p.tables.map yF.d) b)(hc:oA t 24 (p.clauses.map kC.d) c)(hp:p.fit):∀(m i:Nat) (n:Int),i+m=p.defs.length->0<=n->n<1152921504606846976->jp 13 2 [.int .i64 2000,.int .i64 n,.int .i64 (i:Int),.str p.name,a,b,c] t (fun v s=>v=.int .i64 (pQ p.clauses (pU p.tables (zaz (p.defs.drop i) n)))/\s=t):=by
 have hnd:=hp.ndefs
 unfold lD at hnd;have dC:∀n:Int,0<=n->n<1152921504606846976->jp 13 6 [.int .i64 2000,.int .i64 n,.int .i64 0,.str p.name,a,b,c] t (fun v s=>v=.int .i64 (pQ p.clauses (pU p.tables n))/\s=t):=by
  intro n h0 h1;have:=zj6 (a:=a) hb hc hp p.tables.length 0 n (by omega) h0 h1
  rw[ybs]at this;exact this
 intro m;induction m with
 | zero=>
  intro i n hi h0 h1;refine j13_2 _ _ _ _ _ _ _ ?_
  simp only[z3k,pA,ha.len,xA,zB,yag,jB];rw[if_neg (by omega),yau (by omega)]
  exact dC n h0 h1
 | succ m ih=>
  intro i n hi h0 h1;have hlt:i<p.defs.length:=by omega
  obtain⟨q,o,cs,g1,g2,g3,_,g5⟩:=nF.at sl22 (by simp) ha (i:=i) (d:=p.defs[i].d) (by simp[yae hlt])
  have g5:=rd_def g5
  subst g5;have fa:cB yA 79 0 (.ptr q o)=some (.ptr q (o+0)):=by kernel_rfl
  have ld:jA yA 9 ⟨0,t⟩ (.ptr q (o+0))=some (.str p.defs[i].name):=g3.load1 ty9 rfl rfl
  have hfit:=hp.defs _ (ybk hlt)
  have f1:=hfit.1
  unfold lD at f1;have ei:vA .i64 ((i:Int)+1)=((i+1:Nat):Int):=by rw[zC (by omega) (by omega)];omega
  refine j13_2 _ _ _ _ _ _ _ ?_
  simp only[z3k,pA,ha.len,xA,zB,yag,jB,qG];rw[if_pos (by omega),yam hlt]
  unfold zaz;by_cases h2:n<=2000
  ·rw[if_pos h2,if_pos h2,g1,xA,fa,xA,ld,xA,sI,xA,lR,zz1,ei,zC (n:=(p.defs[i].name.length:Int) / 30) (by omega) (by omega),zC (by omega) (by omega)]
   exact ih (i+1) _ (by omega) (by omega) (by omega)
  ·rw[if_neg h2,if_neg h2]
   exact dC n h0 h1
theorem zx6{cs:List zA}(hp:p.fit)(h:RD t p.d cs):zD yA F 13 [.agg cs,.int .i64 2000] t=some (.int .i64 (sizeP p)):=by
 obtain⟨a,b,c,rfl,ha,hb,hc⟩:=zb7 h
 have p1:=hp.name
 have p2:=hp.ndefs
 have p3:=hp.ntables
 have p4:=hp.nclauses
 unfold lD at p1 p2 p3 p4;refine wF.2 (w13 _ _ _ _ _ ?_)
 simp only[t13,pA,ha.len,hb.len,hc.len,xA,zB,yag,lR,zz1];rw[zC (n:=(p.name.length:Int) / 30) (by omega) (by omega),zC (n:=1+(p.name.length:Int) / 30) (by omega) (by omega),zC (n:=1+(p.name.length:Int) / 30+(p.defs.length:Int)) (by omega) (by omega),zC (n:=1+(p.name.length:Int) / 30+(p.defs.length:Int)+(p.tables.length:Int)) (by omega) (by omega),zC (by omega) (by omega)]
 have:=zsw ha hb hc hp p.defs.length 0 (1+(p.name.length:Int) / 30+p.defs.length+p.tables.length+p.clauses.length) (by omega) (by omega) (by omega)
 rw[ybs]at this;exact this
end
end Go.Proofs
namespace Go.Proofs
open Go Go.Am
variable [aC]
variable {t:Tr lA}
def sS:List (List Nat):=[[],[],[],[52],[52],[],[50,32,50,50],[50,50,32,51,51,32,53,53,32,54,54,32,52,53,32,52,54],[50,50,32,51,51,32,53,53,32,54,54,32,52,52,32,52,53,32,52,54],[50,50,32,51,50,32,50,51],[50,50,32,51,51,32,51,50],[50,50,32,51,51,32,52,52,32,53,53,32,54,54],[50,50,32,51,51,32,52,52,32,53,53,32,54,54],[50,50,32,51,51,32,52,52,32,53,53,32,54,54],[49,49,32,50,50,32,51,51,32,52,52,32,53,53,32,54,54],[],[],[49],[],[50,50,32,51,51],[52,52],[52,52],[52,52,54],[52,52],[50],[50,32,51,32,53,32,54],[52]]
def bI (t:Tr lA):Prop:=At t 0 0 (sS.map zA.str)
theorem bI.mono{t':Tr lA}(h:bI t)(k:dA t t'):bI t':=At.mono k h
def fstW (s:List Nat):List Nat:=match zz6 [32] s with | some p=>p.1 | none=>s
def argT (s:List Nat):Int × Int:=if s=[]then(1,0)else((fstW s).length,(fstW s).length)
def zbw(op:Nat):Bool:=op == 1||op == 2||op == 5||op == 6||op == 15||op == 16||op == 18
theorem zja:∀s∈sS,s.length<100:=by decide
theorem zws:∀k,k<27->zbw k=false->∀s,sS[k]?=some s->argT s=gF k:=by
 have h:((List.range 27).all fun k=>zbw k||(match sS[k]? with | some s=>decide (argT s=gF k) | none=>true))=true:=by kernel_rfl
 intro k hk hs s he;have:=ybc.1 h k (List.mem_range.2 hk)
 rw[hs,he,Bool.false_or]at this;exact of_decide_eq_true this
theorem cut_pv{s:List Nat}(hs:s.length<100):∃a b,zD yA F 238 [.str s,.str [32]] t=some (.tup [.str (fstW s),.str a,.bool b]):=by
 have hg:yA.prims.get 238=some pCut:=by kernel_rfl
 have hb:Nat.blt (uB s) 4294967281=true:=by rw[xE];exact pC.2 (by omega)
 unfold fstW
 cases hc:zz6 [32] s with
 | none=>exact⟨[],false,zfq hg fun H=>by unfold pCut;simp only[];rw[hb,hc];rfl⟩
 | some p=>exact⟨p.2,true,zfq hg fun H=>by unfold pCut;simp only[];rw[hb,hc];rfl⟩
theorem zwq{op:Nat}(hop:op<256)(hg:bI t):zD yA F 181 [.int .u8 (op:Int)] t=some (.tup [.int .i64 (gF op).1,.int .i64 (gF op).2]):=by
 have w:vA .i64 (op:Int)=(op:Int):=zC (by omega) (by omega)
 have tab:27<=op\/zbw op=false->wp 181 (.ite (qC 27 (vA .i64 (op:Int)))
 (.ret (.tup [(.int .i64 1),(.int .i64 0)]))
 (.opt (yB yA 273 (.ptr 0 0) (.int .u8 (op:Int))) fun zF=>.light (fun m=>jA yA 9 ⟨0,m⟩ zF) fun a14=>.asS a14 fun s15=>.ite (uK s15 [])
 (.ret (.tup [(.int .i64 1),(.int .i64 0)]))
 (.opt (yB yA 273 (.ptr 0 0) (.int .u8 (op:Int))) fun a16=>.light (fun m=>jA yA 9 ⟨0,m⟩ a16) fun a17=>.asS a17 fun s18=>.call 238 [(.str s18),(.str [32])] fun a19=>
 .opt (wC 0 a19) fun a20=>.asS a20 fun s21=>.opt (wC 1 a19) fun a22=>.asS a22 fun s23=>.opt (wC 2 a19) fun a24=>.asB a24 fun b25=>.ret (.tup [(.int .i64 (Int.ofNat (uB s21))),(.int .i64 (Int.ofNat (uB s21)))])))) t (fun v' t'=>v'=.tup [.int .i64 (gF op).1,.int .i64 (gF op).2]/\t'=t):=by
  intro h;simp only[pA,w,qG];by_cases h27:27<=op
  ·rw[if_pos (by omega)]
   have e:gF op=(1,0):=by unfold gF;repeat rw[if_neg (by omega)]
   rw[e]; (first | exact⟨rfl,rfl⟩ | exact⟨rfl,trivial⟩ | trivial)
  ·rw[if_neg (by omega)]
   have hsp:zbw op=false:=h.resolve_left h27
   obtain⟨s,hs⟩:∃s,sS[op]?=some s:=⟨_,yae (l:=sS) (i:=op) (by show op<27;omega)⟩
   have hN:=zws op (by omega) hsp s hs
   have hsm:=zja s (ybw hs)
   have ia:yB yA 273 (.ptr 0 0) (.int .u8 (op:Int))=some (.ptr 0 (0+op*1)):=by
    unfold yB;have e1:(zA.int .u8 (op:Int)).asNat=some op:=rfl
    rw[ty273,uA,e1,uA];simp only[zA.asSlice,zA.asPtr,uA,rE.asArr];rw[ty9,uA,pC.2 (by omega)]
    rfl
   have ld:jA yA 9 ⟨0,t⟩ (.ptr 0 (0+op*1))=some (.str s):=by
    have:=At.load1 (C:=yA) (j:=op) (a:=.str s) hg ty9 rfl (by rw[yav,hs];rfl)
    rw[show 0+op*1=0+op by omega];exact this
   obtain⟨a,b,hc⟩:=cut_pv (t:=t) hsm
   rw[ia,xA,ld,xA,sI,xA];unfold argT at hN;by_cases h0:s=[]
   ·rw[if_pos ((zO _ _).2 h0)]
    rw[if_pos h0]at hN;rw[<- hN]; (first | exact⟨rfl,rfl⟩ | exact⟨rfl,trivial⟩ | trivial)
   ·rw[if_neg (fun e=>h0 ((zO _ _).1 e))]
    rw[if_neg h0]at hN;simp only[xA,ld,sI];rw[q238,hc];simp only[xA,wC,zA.asTup,uA,dD,yaa,yab,sI,qD,lR];rw[<- hN]; (first | exact⟨rfl,rfl⟩ | exact⟨rfl,trivial⟩ | trivial)
 refine wF.2 (w181 _ ?_)
 have pos:∀ {k:Nat} {x y:T} {Q:bB},op=k->wp 181 x t Q->wp 181 (.ite (wA (op:Int) (k:Int)) x y) t Q:=fun h hx=>aA (nE.2 (by omega)) hx
 have neg:∀ {k:Nat} {x y:T} {Q:bB},op≠k->wp 181 y t Q->wp 181 (.ite (wA (op:Int) (k:Int)) x y) t Q:=fun h hy=>yC (fun e=>absurd (nE.1 e) (by omega)) hy
 unfold t181;by_cases h1:op=1
 ·refine pos h1 (pos h1 ?_);subst h1;exact⟨rfl,rfl⟩
 ·refine neg h1 ?_
  by_cases h2:op=2
  ·refine pos h2 ?_;subst h2;exact⟨rfl,rfl⟩
  ·refine neg h2 ?_
   by_cases h5:op=5
   ·refine pos h5 ?_;subst h5;exact⟨rfl,rfl⟩
   ·refine neg h5 ?_
    by_cases h6:op=6
    ·refine pos h6 ?_;subst h6;exact⟨rfl,rfl⟩
    ·refine neg h6 ?_
     by_cases h15:op=15
     ·refine pos h15 (pos h15 ?_);subst h15;exact⟨rfl,rfl⟩
     ·refine neg h15 ?_
      by_cases h16:op=16
      ·refine pos h16 ?_;subst h16;exact⟨rfl,rfl⟩
      ·refine neg h16 ?_
       by_cases h18:op=18
       ·refine pos h18 ?_;subst h18;exact⟨rfl,rfl⟩
       ·refine neg h18 ?_
        exact tab (.inr (by simp[zbw,h1,h2,h5,h6,h15,h16,h18]))
theorem zvl{x:qA}{a b c:zA}(hx:x.fit)(hg:bI t)(ha:oA t 1 (gC x.v.f.n.limbs) a)(hb:oA t 1 (gC x.v.f.d.limbs) b)(hc:oA t 9 (x.args.map qA.d) c):zD yA F 167 [.agg (iC x a b c)] t=some (.bool (mH vB x.op x.v x.args.length)):=by
 obtain⟨op,name,v,args⟩:=x
 simp only[qA.op,qA.name,qA.v,qA.args]at ha hb hc ⊢
 unfold qA.fit at hx;obtain⟨h1,h2,_,h3,h4,_⟩:=hx
 unfold lD at h4;have c1:=zbk ha hb h3.2.1
 have c2:=zwq (t:=t) h1 hg
 refine wF.2 (w167 _ _ _ _ _ _ _ _ _ ?_)
 simp only[t167,pA,qA.op,qA.name,qA.v,qA.args,q25,q181,c1,c2,xA,qD,wC,zA.asTup,uA,dD,yaa,yab,zB,hc.len,yag,nE,za4,zf9,decide_eq_true_eq]
 unfold mH;by_cases h0:op=1
 ·rw[if_pos (by omega)]
  cases hv:vB v with
  | false=>simp[h0]
  | true=>
   simp only[Bool.true_eq_false,if_false];by_cases h5:(gF op).1<=(args.length:Int)
   ·rw[if_pos h5];simp[h5]
   ·rw[if_neg h5];simp[h5]
 ·rw[if_neg (by omega)]
  by_cases h5:(gF op).1<=(args.length:Int)
  ·rw[if_pos h5];simp[h5,h0]
  ·rw[if_neg h5];simp[h5]
end Go.Proofs
namespace Go.Am
open Go Go.RowKit
section
variable {t tf:Tr lA}{C:iA}
theorem zav{T el sz:Nat}(hT:aI C T el sz){l:List D}{x:zA}(hx:oA tf sz l x)(ht:dA tf t)(hl:l.length<1000000){n:Nat}(hn:t.get n=none) :
  ∃v k t' tf',kD C T T .nilslice x ⟨n,t⟩=some (v,⟨k,t'⟩)/\oA tf' sz l v/\dA tf tf'/\dA tf' t'/\dA t t'/\cC n t t'/\cC n tf tf':=by
 obtain⟨⟨y,hy1,hy2,hy3⟩,⟨z,hz1,hz2,hz3,hz4,hz5⟩⟩:=hT
 obtain⟨cl,he,hd⟩:=hx
 have hcl:=hd.length
 obtain⟨hf,hlen⟩:=(he.mono ht).first (n:=n)
 have hall:=he.len
 have base:kD C T T .nilslice x ⟨n,t⟩=sM ⟨n,t⟩ z cl.length cl.flatten:=by
  unfold kD eL;rw[hy1,uA,uA,hy3];simp only[ybm,fE];rw[hy2,uA,hz1,uA,hlen,uA,hz2,hf,uA];rfl
 have hfl:uB cl.flatten=cl.length*sz:=by rw[xE];exact yN hall
 have ok:iL z 0 0 cl.length cl.flatten=true:=by
  unfold iL;have h1:Nat.blt (0+cl.length+0) 1000000000=true:=pC.2 (by omega)
  have h2:Nat.blt ((0+cl.length+0)*z.bytes) 1000000000=true:=pC.2 (by
   have:=ycc (show 0+cl.length+0<=1000000 by omega) hz4
   omega)
  have h3:Nat.blt z.bytes 1000000000=true:=pC.2 (by omega)
  have h4:(!Nat.beq z.size 0)=true:=by
   cases hq:Nat.beq z.size 0 with
   | true=>have:=aB.1 hq;omega
   | false=>rfl
  have h5:Nat.beq (uB cl.flatten) (cl.length*z.size)=true:=by rw[hfl,hz2];exact aB.2 rfl
  have h6:Nat.beq (uB z.zero) z.size=true:=by rw[hz3,hz2];exact aB.2 rfl
  rw[h1,h2,h3,h4,h5,h6];rfl
 have hfn:tf.get n=none:=by
  cases hq:tf.get n with
  | none=>rfl
  | some u=>rw[ht _ _ hq]at hn;cases hn
 by_cases h0:cl.length=0
 ·have:cl=[]:=ybd.1 h0
  subst this;refine⟨.nilslice,n,t,tf,?_,⟨[],.inl ⟨rfl,rfl⟩,hd⟩,dA.refl _,ht,dA.refl _,cC.refl _ _,cC.refl _ _⟩
  rw[base];rfl
 ·have hb:Nat.beq cl.length 0=false:=by
   cases hq:Nat.beq cl.length 0 with
   | true=>exact absurd (aB.1 hq) h0
   | false=>rfl
  refine⟨.slice n 0 cl.length cl.length,n+1,t.set n (.cells (Tr.ofList cl.flatten) (uB cl.flatten) (some z.size)),tf.set n (.cells (Tr.ofList cl.flatten) (uB cl.flatten) (some z.size)),?_,⟨cl,aX hall (by rw[Tr.get_set,if_pos rfl]) (.inr (by rw[hz2])),fC.mono (jI hfn _).1 _ _ hd⟩,(jI hfn _).1,fun k u hk=>?_,(jI hn _).1,(jI hn _).2,(jI hfn _).2⟩
  ·rw[base]
   unfold sM;rw[hb,cond_false,ok];rfl
  ·rw[Tr.get_set]at hk ⊢
   split at hk
   ·rename_i e;rw[if_pos e];exact hk
   ·rename_i e;rw[if_neg e];exact ht _ _ hk
theorem zlq{T el b k m cap n:Nat}{cs:List zA}{lo:Option Nat}{x:zA}{cm:List (List zA)}(hT:aI C T el 1)(hc:pD t b lo cs)(hb:C.base<=b)(hx:oG t 1 x cm)(hm:cm.length=m)(h0:0<m)(hk:k+m<=cap)(hcap:cap<=cs.length)(hone:∀a∈cm.flatten,zA.one a=true) :
  ∃t',kD C T T (.slice b 0 k cap) x ⟨n,t⟩=some (.slice b 0 (k+m) cap,⟨n,t'⟩)/\pD t' b lo (iI cs k cm.flatten)/\cC b t t':=by
 obtain⟨⟨y,hy1,hy2,hy3⟩,⟨z,hz1,hz2,hz3,hz4,hz5⟩⟩:=hT
 obtain⟨hf,hlen⟩:=hx.first (n:=n)
 have hfl:=yN hx.len
 rw[Nat.mul_one,hm]at hfl;obtain⟨c,h1,h2⟩:=hc
 have hne:cm.flatten≠[]:=by intro e;rw[e]at hfl;simp at hfl;omega
 refine⟨t.set b (.cells (c.setMany cm.flatten k) cs.length lo),?_,⟨c.setMany cm.flatten k,by rw[Tr.get_set,if_pos rfl,iX (by omega)],fun j a hj=>?_⟩,fun d hd=>by rw[Tr.get_set,if_neg hd]⟩
 ·unfold kD eL
  rw[hy1,uA,uA,hy3];simp only[ybm,fE];rw[hy2,uA,hz1,uA,hlen,uA,hz2,hf,uA];simp only[zA.asSlice,hm];rw[eE.2 hk,cond_true];unfold fN
  cases hq:cm.flatten with
  | nil=>exact absurd hq hne
  | cons a r=>
   simp only[hz2,Nat.mul_one,yax];rw[<- hq];unfold nK oD;have e2:(!Nat.blt b C.base)=true:=by
    cases hq:Nat.blt b C.base with
    | true=>have:=pC.1 hq;omega
    | false=>rfl
   rw[e2,fE,h1,uA];simp only[lA.asCells,uA];have e3:Nat.ble (k+uB cm.flatten) cs.length=true:=by rw[xE];exact eE.2 (by omega)
   have e4:iB zA.one cm.flatten=true:=by rw[iF];exact ybc.2 hone
   rw[e3,e4];rfl
 ·rw[vW (by omega)]at hj
  rw[Tr.get_setMany];split
  ·rename_i e;rw[if_pos e]at hj;exact hj
  ·rename_i e;rw[if_neg e]at hj;exact h2 j a hj
def oL(l:List Nat):List zA:=l.map fun(n:Nat)=>zA.int .u8 (n:Int)
theorem zp9{S Dt b k cap el:Nat}{cs:List zA}{lo:Option Nat}{l:List Nat}{yS yD yE:wD}(hS:C.tys.get S=some yS)(hD:C.tys.get Dt=some yD)(h1:yD.desc.asInt=none)(h2:yD.desc.isString=true)(h3:yS.desc.asSlice=some el)(h4:C.tys.get el=some yE)(h5:yE.desc.asInt=some .u8)
  (hc:pD t b lo cs) (hk:l.length=k) (hl:∀(j:Nat) x,l[j]?=some x->cs[j]?=some (.int .u8 (x:Int))) (hlt:dB 256 l):aL C S Dt ⟨0,t⟩ (.slice b 0 k cap)=some (.str l):=by
 obtain⟨c,g1,g2⟩:=hc
 unfold aL wN;rw[hS,uA,hD,uA,h1];simp only[];rw[h2,fE];have e1:Nat.beq (zA.slice b 0 k cap).tag 2=false:=rfl
 rw[e1,cond_false,h3,uA,h4,uA,h5,uA,oJ.2 rfl,fE];unfold qV;simp only[zA.asSlice];unfold oD;rw[g1,uA];simp only[lA.asCells,uA]
 have hm:∀(l:List Nat) (off:Nat),(∀(j:Nat) x,l[j]?=some x->c.get (off+j)=some (.int .u8 (x:Int)))->c.many l.length off=some (oL l):=by
  intro l;induction l with
  | nil=>intro off _;rfl
  | cons x l ih=>
   intro off h;rw[yao,Tr.many_succ];have:=h 0 x rfl
   rw[ybu]at this;rw[this,uA,ih (off+1) (fun j y hj=>by rw[show off+1+j=off+(j+1) by omega];exact h (j+1) y (by simpa using hj)),uA]
   rfl
 subst hk;rw[hm l 0 (fun j x hj=>by rw[yax];exact g2 _ _ (hl j x hj)),uA]
 have hb:∀(l:List Nat),dB 256 l->uI zS (oL l)=some l:=by
  intro l;induction l with
  | nil=>intro _;rfl
  | cons x l ih=>
   intro h;have e:zS (.int .u8 (x:Int))=some x:=by
    unfold zS;have e1:jK (x:Int)=some x:=rfl
    simp only[zA.asIntK,uA];rw[oJ.2 rfl,fE,e1,uA,pC.2 (h x (by simp))];rfl
   show uI zS (.int .u8 (x:Int)::oL l)=_
   rw[oO,e,uA,ih fun y hy=>h y (by simp[hy]),uA]
 rw[hb l hlt,uA]
theorem zt0{T el cap:Nat}{y z:wD}{k:IntKind}(hT:C.tys.get T=some y)(hel:y.desc.asSlice=some el)(hz:C.tys.get el=some z)(hzero:z.zero=[.int k 0])(hs:z.size=1)(hby:z.bytes<=8)(hn:cap<1000000){b:Nat}(hb:t.get b=none) :
  ∃t',yL C T (.int .i64 0) (.int .i64 (cap:Int)) ⟨b,t⟩=some (.slice b 0 0 cap,⟨b+1,t'⟩)/\pD t' b none (List.replicate cap (.int k 0))/\dA t t'/\cC b t t':=by
 have hrep:∀n,rJ [zA.int k 0] n=List.replicate n (.int k 0):=by
  intro n;induction n with
  | zero=>rfl
  | succ n ih=>unfold rJ;rw[ih,fH,List.replicate_succ];rfl
 obtain⟨t',h1,h2,h3,h4⟩:=mT hb (List.replicate cap (.int k 0)) none
 refine⟨t',?_,h2,h3,h4⟩
 unfold yL;rw[hT,uA,hel,uA,hz,uA];have e1:(zA.int .i64 (cap:Int)).asNat=some cap:=rfl
 have e0:(zA.int .i64 0).asNat=some 0:=rfl
 rw[e1,e0,uA,uA];have e2:(Nat.ble 0 cap&&Nat.blt cap 1000000&&Nat.blt (cap*z.bytes) 1000000000&&Nat.beq (uB z.zero) z.size)=true:=by
  rw[hzero,hs,show Nat.ble 0 cap=true from eE.2 (Nat.zero_le _),pC.2 hn]
  have:cap*z.bytes<1000000000:=by
   have:=ycc (Nat.le_of_lt hn) hby
   omega
  rw[pC.2 this];rfl
 rw[e2,fE,hzero,hrep,h1]
end
end Go.Am
namespace Go.Proofs
open Go Go.Am
variable [aC]
variable {t:Tr lA}
def zlm(b:Bool):List Nat:=if b then [116,114,117,101]else [102,97,108,115,101]
def fJ:List Nat->List Nat
 | []=>[]
 | x::l=>x / 256::x%256::fJ l
def keyW (w:yI):List Nat:=44::zlm w.neg++zkt ((2*w.limbs.length:Nat):Int)++[44]++fJ w.limbs
def cA (v:xB):List Nat:=zkt (v.kind:Int)++[44]++zkt v.i++keyW v.f.n++keyW v.f.d
theorem gW:∀l,(fJ l).length=2*l.length
 | []=>rfl
 | x::l=>by simp[fJ,gW l];omega
theorem ze1:∀(l:List Nat) (x:Nat),fJ (l++[x])=fJ l++[x / 256,x%256]
 | [],x=>rfl
 | y::l,x=>by simp[fJ,ze1 l x]
theorem zi4:∀ {l:List Nat},dB 65536 l->dB 256 (fJ l)
 | [],_=>fun x hx=>(by cases hx)
 | y::l,h=>fun x hx=>by
  have hy:=h y (by simp)
  simp only[fJ,yat]at hx;rcases hx with rfl | rfl | hx
  ·omega
  ·omega
  ·exact zi4 (l:=l) (fun z hz=>h z (by simp[hz])) x hx
theorem za6{n:Int}(h0 : -9223372036854775808<=n)(h1:n<9223372036854775808):(zkt n).length<=21:=by
 unfold zkt;rw[yag];exact Lib.itoa_length_le n h0 (by omega)
theorem zks{n:Int}(h0 : -9223372036854775808<=n)(h1:n<9223372036854775808):zD yA F 291 [.int .i64 n] t=some (.str (zkt n)):=by
 have hg:yA.prims.get 291=some ztp:=by kernel_rfl
 refine zfq hg fun H=>?_
 unfold ztp;simp only[];rw[qG.2 h0,jB.2 h1];rfl
theorem zzx{b:Bool}:zD yA F 246 [.bool b] t=some (.str (zlm b)):=by
 refine wF.2 (w246 _ ?_)
 simp only[t246,pA,q287];refine w287 _ ?_
 cases b<;>simp only[t287,pA,if_true,yar,if_false,sI,xA] <;> (first | exact⟨rfl,rfl⟩ | exact⟨rfl,trivial⟩ | trivial)
theorem vT{a b:List Nat}(h:a.length+b.length<4611686018427387904):zs0 a b=some (.str (a++b)):=by
 unfold zs0;rw[xE,xE,pC.2 h,fH];rfl
theorem el188:aI yA 188 5 1:=⟨⟨_,zxl,rfl,rfl⟩,⟨_,ty5,rfl,rfl,by decide,by decide⟩⟩
theorem zu0{s:List Nat}{f:lF}{fa fb:zA}{j:Nat}{w:yI}{u:zA}{b:Nat}{t0:Tr lA}{Q:bB}(hu:oA t0 1 (gC w.limbs) u)(hl:w.limbs.length<400)(hlt:dB 65536 w.limbs)(hs:s.length<4000)(hbase:yA.base<=b)(hb:t0.get b=none)
  (hQ:∀t',dA t0 t'->jp 276 2 [.str (s++keyW w),.agg [.bool f.n.neg,fa,.bool f.d.neg,fb],.int .i64 (vA .i64 ((j:Int)+1))] t' Q) :
  ∀(m i:Nat) (t':Tr lA),i+m=w.limbs.length->dA t0 t'->pD t' b none (oL (fJ (w.limbs.take i))++List.replicate (2*m+1) (.int .u8 0)) →
  jp 276 6 [.str s,.slice b 0 (2*i) (2*w.limbs.length+1),.agg [.bool f.n.neg,fa,.bool f.d.neg,fb],.int .i64 (j:Int),u,.int .i64 (w.limbs.length:Int),.int .i64 (i:Int),.bool w.neg,u] t' Q:=by
 intro m;induction m with
 | zero=>
  intro i t' hi ht hc;refine z15 _ _ _ _ _ _ _ _ _ _ _ _ ?_
  rw[ybb (by omega)]at hc
  have lv:rB (.slice b 0 (2*i) (2*w.limbs.length+1))=some (.int .i64 ((2*w.limbs.length:Nat):Int)):=by
   have:i=w.limbs.length:=by omega
   subst this;rfl
  have cv:aL yA 188 9 ⟨0,t'⟩ (.slice b 0 (2*i) (2*w.limbs.length+1))=some (.str (fJ w.limbs)):=by
   refine zp9 zxl ty9 rfl rfl rfl ty5 rfl hc (by rw[gW];omega) (fun k x hk=>?_) (zi4 hlt)
   rw[ybp (by simp[oL,(yad.1 hk).1])]
   simp[oL,hk]
  have hlb:=gW w.limbs
  have hli:=za6 (n:=((2*w.limbs.length:Nat):Int)) (by omega) (by omega)
  have hbt:(zlm w.neg).length<=5:=by unfold zlm;split<;>simp
  simp only[zsa,pA,jB];rw[if_neg (by omega)]
  simp only[lv,cv,xA,zB,sI,sO,za0,if_true,q246,zzx];rw[vT (a:=[44]) (b:=zlm w.neg) (by simp;omega)]
  simp only[xA,sI,q291];rw[zks (by omega) (by omega)]
  simp only[xA,sI,cv,za0,if_true];rw[vT (by simp only[yah,yao,yay];omega)]
  simp only[xA,sI];rw[vT (by simp only[yah,yao,yay];omega)]
  simp only[xA,sI];rw[vT (by simp only[yah,yao,yay];omega)]
  simp only[xA,sI];rw[vT (by simp only[yah,yao,yay];omega)]
  simp only[xA,sI];exact hQ t' ht
 | succ m ih=>
  intro i t' hi ht hc;have hlt1:i<w.limbs.length:=by omega
  obtain⟨x,hx⟩:=getElem?_of_lt hlt1
  have hx16:x<65536:=oI hlt hx
  obtain⟨p,off,g1,g2⟩:=oA.idx (C:=yA) zx5 (hu.mono ht) hx
  refine z15 _ _ _ _ _ _ _ _ _ _ _ _ ?_
  simp only[zsa,pA,jB];have e1:vA .u8 (Int.fdiv (x:Int) 256)=((x / 256:Nat):Int):=by
   rw[show Int.fdiv (x:Int) 256=((x / 256:Nat):Int) from cN _ 256,zqy (by omega) (by omega)]
  have e2:vA .u8 (x:Int)=((x%256:Nat):Int):=by
   have:vA .u8 (x:Int)=(x:Int)%256:=by rw[bJ];simp only[IntKind.wrap,IntKind.bits,IntKind.signed];simp
   rw[this];omega
  rw[if_pos (by omega),g1,xA,g2,xA,zB,xA,e1,e2]
  intro n hn _;obtain⟨t1,a1,a2,a3,a4⟩:=nO (C:=yA) (T:=188) (el:=5) (sz:=1) (n:=2) (cl:=[[.int .u8 ((x / 256:Nat):Int)],[.int .u8 ((x%256:Nat):Int)]]) (ps:=[(0,.int .u8 ((x / 256:Nat):Int)),(1,.int .u8 ((x%256:Nat):Int))]) zxl rfl ty5 rfl rfl (by decide) rfl (fun i cs hi=>by
   rcases i with _ | _ | i
   ·simp at hi;subst hi;rfl
   ·simp at hi;subst hi;rfl
   ·simp at hi) rfl hn
  have hbn:b≠n:=by
   intro e;subst e;obtain⟨c,hc1,_⟩:=hc
   rw[hc1]at hn;cases hn
  rw[a1,xA];intro k _ _;have htl:(w.limbs.take i).length=i:=by simp;omega
  have hbl:(oL (fJ (w.limbs.take i))).length=2*i:=by simp[oL,gW,htl]
  obtain⟨t2,b1,b2,b3⟩:=zlq (C:=yA) (n:=k) (k:=2*i) (m:=2) (cap:=2*w.limbs.length+1) el188 (hc.off (a4 b hbn)) hbase a2 rfl (by decide) (by omega) (by simp[hbl];omega) (by
   intro a ha;simp only[List.flatten_cons,List.flatten_nil,ybe,List.singleton_append,yat,List.not_mem_nil,or_false]at ha;rcases ha with rfl | rfl<;>rfl)
  have b1':kD yA 188 188 (.slice b 0 (2*i) (2*w.limbs.length+1)) (.slice n 0 2 2) ⟨k,t1⟩=some (.slice b 0 (2*i+2) (2*w.limbs.length+1),⟨k,t2⟩):=b1
  rw[b1',xA,zC (by omega) (by omega)]
  have hcells:iI (oL (fJ (w.limbs.take i))++List.replicate (2*(m+1)+1) (.int .u8 0)) (2*i) [.int .u8 ((x / 256:Nat):Int),.int .u8 ((x%256:Nat):Int)]=oL (fJ (w.limbs.take (i+1)))++List.replicate (2*m+1) (.int .u8 0):=by
   have hdr:(oL (fJ (w.limbs.take i))++List.replicate (2*(m+1)+1) (zA.int .u8 0)).drop (2*i+2)=List.replicate (2*m+1) (.int .u8 0):=by
    rw[List.drop_append,List.drop_of_length_le (by omega),hbl,List.nil_append,List.drop_replicate];congr 1;omega
   unfold iI;rw[List.take_left' hbl];show oL (fJ (w.limbs.take i))++([.int .u8 ((x / 256:Nat):Int),.int .u8 ((x%256:Nat):Int)]++(oL (fJ (w.limbs.take i))++List.replicate (2*(m+1)+1) (zA.int .u8 0)).drop (2*i+2))=_
   rw[hdr,uQ hx,ze1];unfold oL;rw[List.map_append,yba];rfl
  have b2':pD t2 b none (oL (fJ (w.limbs.take (i+1)))++List.replicate (2*m+1) (.int .u8 0)):=by rw[<- hcells];exact b2
  have:=ih (i+1) t2 (by omega) ((ht.trans a3).off hb b3) b2'
  rw[show 2*(i+1)=2*i+2 by omega,show((i+1:Nat):Int)=(i:Int)+1 by omega]at this
  exact this
theorem zif{s:List Nat}{f:lF}{fa fb:zA}{j:Nat}{w:yI}{u:zA}{Q:bB}(hj:j<2)(hv:pN yA 325 (.agg [.bool f.n.neg,fa,.bool f.d.neg,fb]) (.int .i64 (j:Int))=some (.agg [.bool w.neg,u]))(hu:oA t 1 (gC w.limbs) u)(hl:w.limbs.length<400)(hlt:dB 65536 w.limbs)(hs:s.length<4000)
  (hQ:∀t',dA t t'->jp 276 2 [.str (s++keyW w),.agg [.bool f.n.neg,fa,.bool f.d.neg,fb],.int .i64 ((j+1:Nat):Int)] t' Q):jp 276 2 [.str s,.agg [.bool f.n.neg,fa,.bool f.d.neg,fb],.int .i64 (j:Int)] t Q:=by
 refine z16 _ _ _ _ _ _ ?_
 simp only[zsb,pA,jB];have hz:mG [(.bool false),.nilslice] (.agg [.bool w.neg,u])=some (cellsOf [.bool w.neg,u]):=cK (by
  show(true&&(pG .nilslice u&&true))=true
  rw[eH hu];rfl)
 have hone:iB zA.one [.bool w.neg,u]=true:=by rw[iF];simp only[ybh,ybl,hu.one];rfl
 rw[if_pos (by omega),hv,xA,hz,xA]
 simp only[cellsOf,aE,kE,yaa,yab];refine aA hone ?_
 rw[hu.len,dT,xA,zB,xA];have e1:vA .i64 (vA .i64 (2*(w.limbs.length:Int))+1)=((2*w.limbs.length+1:Nat):Int):=by
  rw[zC (n:=2*(w.limbs.length:Int)) (by omega) (by omega),zC (by omega) (by omega)];omega
 rw[e1];intro b hb hbase;obtain⟨t',g1,g2,g3,_⟩:=zt0 (C:=yA) (k:=.u8) (cap:=2*w.limbs.length+1) zxl rfl ty5 rfl rfl (by decide) (by omega) hb
 rw[g1,xA,xA,zB,xA];have ej:vA .i64 ((j:Int)+1)=((j+1:Nat):Int):=by rw[zC (by omega) (by omega)];omega
 exact zu0 (f:=f) (j:=j) hu hl hlt hs hbase hb (fun t2 h2=>by rw[ej];exact hQ t2 h2) w.limbs.length 0 t' (by omega) g3 (by simpa[fJ,oL]using g2)
def xB.short(v:xB):Prop:=v.f.n.limbs.length<400/\v.f.d.limbs.length<400
theorem key_ok{v:xB}{a b:zA}(hv:v.fit)(hs:xB.short v)(ha:oA t 1 (gC v.f.n.limbs) a)(hb:oA t 1 (gC v.f.d.limbs) b):zD yA F 276 [.agg [.int .u8 v.kind,.bool v.f.n.neg,a,.bool v.f.d.neg,b,.int .i64 v.i]] t=some (.str (cA v)):=by
 obtain⟨h1,h2,h3,h4⟩:=hv
 obtain⟨_,hn,hd⟩:=h2
 have l1:=za6 (n:=(v.kind:Int)) (by omega) (by omega)
 have l2:=za6 h3 h4
 have hk:vA .i64 (v.kind:Int)=(v.kind:Int):=zC (by omega) (by omega)
 have v0:pN yA 325 (.agg [.bool v.f.n.neg,a,.bool v.f.d.neg,b]) (.int .i64 ((0:Nat):Int))=some (.agg [.bool v.f.n.neg,a]):=by kernel_rfl
 have v1:pN yA 325 (.agg [.bool v.f.n.neg,a,.bool v.f.d.neg,b]) (.int .i64 ((0+1:Nat):Int))=some (.agg [.bool v.f.d.neg,b]):=by kernel_rfl
 have lk:(keyW v.f.n).length<1000:=by
  have hbt:(zlm v.f.n.neg).length<=5:=by unfold zlm;split<;>simp
  have hli:=za6 (n:=((2*v.f.n.limbs.length:Nat):Int)) (by omega) (by have:=hs.1;omega)
  have:=hs.1
  unfold keyW;simp[gW]
  simp at hli;omega
 refine zhw (w276 _ _ _ _ _ _ ?_)
 simp only[t276,pA,hk];rw[q291,zks (by omega) (by omega),xA,sI,xA,if_pos sO,vT (by simp only[yah,yao,yay];omega),xA,sI,xA,q291,zks h3 h4,xA,sI,xA,vT (by simp only[yah,yao,yay];omega),xA,sI,xA]
 simp only[if_true];refine zif (f:=v.f) (j:=0) (w:=v.f.n) (by omega) v0 ha hs.1 hn (by simp;omega) fun t1 k1=>?_
 refine zif (f:=v.f) (j:=0+1) (w:=v.f.d) (by omega) v1 (hb.mono k1) hs.2 hd (by simp;omega) fun t2 k2=>?_
 refine z16 _ _ _ _ _ _ ?_
 simp only[zsb,pA,jB];rw[if_neg (by omega)]
 exact⟨by unfold cA;rfl,k1.trans k2⟩
end Go.Proofs
namespace Go.Proofs
open Go Go.Am
variable [aC]
variable {t tf:Tr lA}{key:xB->List Nat}{r:TR}{s:mE}
theorem _root_.Go.Am.Objs.copy{base:Nat}{L:List vD}(h:Objs base tf t L){n:Nat}{t' tf':Tr lA}(hn:t.get n=none)(h1:dA tf tf')(h2:dA tf' t')(h3:cC n t t')(h4:cC n tf tf'):Objs base tf' t' L:=
 h.keep h1 h2 fun k hk=>by
  have:k≠n:=fun e=>h.fresh hn (e ▸ hk)
  exact⟨h3 k this,by rw[h4 k this];exact(h.low k hk).2⟩
theorem zna{w:yI}{u:zA}(hu:oA t 1 (gC w.limbs) u):RD t w.d [.bool w.neg,u]:=by
 unfold yI.d;rw[nI];refine⟨[[.bool w.neg],[u]],rfl,?_⟩
 simp only[fD,lE,cP,cI];exact⟨_,_,rfl,rfl,_,_,rfl,⟨u,rfl,hu⟩,rfl⟩
theorem ztx{f:lF}{u v:zA}(hu:oA t 1 (gC f.n.limbs) u)(hv:oA t 1 (gC f.d.limbs) v):RD t f.dd [.bool f.n.neg,u,.bool f.d.neg,v]:=by
 unfold lF.dd;rw[nI];refine⟨[[.bool f.n.neg,u],[.bool f.d.neg,v]],rfl,?_⟩
 rw[fD];refine⟨_,_,rfl,zna hu,?_⟩
 rw[fD];exact⟨_,_,rfl,zna hv,lE.2 rfl⟩
theorem zef{x:xB}{u v:zA}(hu:oA t 1 (gC x.f.n.limbs) u)(hv:oA t 1 (gC x.f.d.limbs) v):RD t x.d [.int .u8 x.kind,.bool x.f.n.neg,u,.bool x.f.d.neg,v,.int .i64 x.i]:=by
 unfold xB.d;rw[nI];refine⟨[[.int .u8 x.kind],[.bool x.f.n.neg,u,.bool x.f.d.neg,v],[.int .i64 x.i]],rfl,?_⟩
 rw[fD];refine⟨_,_,rfl,bK.2 rfl,?_⟩
 rw[fD];refine⟨_,_,rfl,ztx hu hv,?_⟩
 rw[fD];exact⟨_,_,rfl,bK.2 rfl,lE.2 rfl⟩
theorem el41:aI yA 41 227 1:=⟨⟨_,ty41,rfl,rfl⟩,⟨_,zor,rfl,rfl,by decide,by decide⟩⟩
theorem zle{L:List vD}{v:xB}{a b:zA}{Q:bB}(h:Objs yA.base tf t L)(hs:xB.short v)(ha:oA tf 1 (gC v.f.n.limbs) a)(hb:oA tf 1 (gC v.f.d.limbs) b)
  (hQ:∀tf' t' a' b',dA tf tf'->Objs yA.base tf' t' L->oA tf' 1 (gC v.f.n.limbs) a'->oA tf' 1 (gC v.f.d.limbs) b'->Q (.agg [.int .u8 v.kind,.bool v.f.n.neg,a',.bool v.f.d.neg,b',.int .i64 v.i]) t') :
  Wc yA F 102 [.agg [.int .u8 v.kind,.bool v.f.n.neg,a,.bool v.f.d.neg,b,.int .i64 v.i]] t Q:=by
 refine w102 _ _ _ _ _ _ ?_
 simp only[t102,pA];intro n hn _;obtain⟨a',k,t1,tf1,g1,g2,g3,g4,_,g6,g7⟩:=zav (C:=yA) el41 ha h.tle (by rw[dT];have:=hs.1;omega) hn
 have h1:=h.copy hn g3 g4 g6 g7
 have o1:iB zA.one [a']=true:=by rw[iF];simp only[ybh,ybl,g2.one];rfl
 rw[g1,xA,if_pos o1];intro m hm _;obtain⟨b',k',t2,tf2,m1,m2,m3,m4,_,m6,m7⟩:=zav (C:=yA) el41 (hb.mono g3) h1.tle (by rw[dT];have:=hs.2;omega) hm
 have h2:=h1.copy hm m3 m4 m6 m7
 have o2:iB zA.one [b']=true:=by rw[iF];simp only[ybh,ybl,m2.one];rfl
 have o3:iB zA.one [.int .u8 v.kind,.bool v.f.n.neg,a',.bool v.f.d.neg,b',.int .i64 v.i]=true:=by rw[iF];simp only[ybh,ybl,g2.one,m2.one];rfl
 rw[m1,xA,if_pos o2,if_pos o3];exact hQ tf2 t2 a' b' (g3.trans m3) h2 (g2.mono m3) m2
theorem zch{m:Nat}{l:List (List Nat)}{k:List Nat}(h:t.get m=some (.map (iE 0 l))):tP yA 107 ⟨0,t⟩ (.map m) (.str k) true=some (if k∈l then .tup [.int .i64 ((lI k l:Nat):Int),.bool true]else .tup [.int .i64 0,.bool false]):=by
 unfold tP;rw[zxm,uA];simp only[rE.asMap,uA];rw[ty9,uA,ty3];simp only[uA];unfold kP nL;simp only[zA.asMap];rw[h,uA];simp only[lA.asMap,uA]
 rw[zes,yax];by_cases hk:k∈l
 ·rw[if_pos hk,if_pos hk];rfl
 ·rw[if_neg hk,if_neg hk];rfl
theorem zbn{m:Nat}{l:List (List Nat)}{k:List Nat}(h:t.get m=some (.map (iE 0 l)))(hb:yA.base<=m)(hk:k∉l) :
  ∃t',(∀n,uR yA 107 (.map m) (.str k) (.int .i64 (l.length:Int)) ⟨n,t⟩=some (zE,⟨n,t'⟩))/\t'.get m=some (.map (iE 0 (l++[k])))/\cC m t t':=by
 refine⟨t.set m (.map (iE 0 (l++[k]))),fun n=>?_,by rw[Tr.get_set,if_pos rfl],fun c hc=>by rw[Tr.get_set,if_neg hc]⟩
 unfold uR;rw[zxm,uA];simp only[rE.asMap,uA];rw[ty9,uA];simp only[zA.asMap,uA];have e2:(!Nat.blt m yA.base)=true:=by
  cases hq:Nat.blt m yA.base with
  | true=>have:=pC.1 hq;omega
  | false=>rfl
 have:=zam l 0 hk
 rw[yax]at this;unfold nL;rw[e2,fE,h,uA];simp only[lA.asMap,uA];rw[this,uA];rfl
theorem el30:aI yA 30 9 1:=⟨⟨_,z21,rfl,rfl⟩,⟨_,ty9,rfl,rfl,by decide,by decide⟩⟩
theorem el31:aI yA 31 47 6:=⟨⟨_,zxk,rfl,rfl⟩,⟨_,ty47,rfl,rfl,by decide,by decide⟩⟩
theorem el32:aI yA 32 37 1:=⟨⟨_,z2z,rfl,rfl⟩,⟨_,zl4,rfl,rfl,by decide,by decide⟩⟩
def addN (l:List (List Nat))(n:List Nat):List (List Nat):=if n∈l then l else l++[n]
def addC (key:xB->List Nat)(l:List xB)(v:xB):List xB:=if key v∈l.map key then l else l++[v]
theorem zfz{n:List Nat}{Q:bB}(h:TS key tf t r s)(hl:s.names.length<300000)
  (hQ:∀t' r',r'.b=r.b->r'.kp=r.kp->TS key tf t' r' ⟨addN s.names n,s.consts,s.ws,s.ts,s.code⟩->Q (.int .i64 ((lI n s.names:Nat):Int)) t'):Wc yA F 234 [.ptr r.b 0,.str n] t Q:=by
 refine w234 _ _ ?_
 simp only[t234,pA];rw[kI,xA,bN,xA,zcw,xA,h.ldN,xA];simp only[kI,xA,bN,z5d,zcw,h.ldM1];rw[q277];refine w277 _ _ _ _ ?_
 simp only[t277,pA];rw[zch h.map1,xA];have hlen:r.cells.length=11:=by simp[TR.cells,h.pl]
 unfold addN at hQ;by_cases hk:n∈s.names
 ·rw[if_pos hk]at hQ ⊢
  simp only[wC,zA.asTup,uA,dD,yaa,yab,xA,zB,qD,Bool.not_true,yar,if_false];intro m _ _;obtain⟨t1,g1,g2,g3⟩:=h.cel.store1 (C:=yA) h.baseB.1 (j:=4) (v:=r.vn) z21 rfl (by
   rcases h.ln with⟨e,_⟩ | ⟨b,cl,c,e,_⟩<;>rw[e]<;>rfl) h.ln.one (by omega)
  have es:r.cells.set 4 r.vn=r.cells:=by
   have:=mR (p:=r.pl) h.pl (l:=[r.vn,r.vc,r.vw,r.vt,.map r.m1,.map r.m2,r.vk]) (k:=0) (v:=r.vn)
   exact this
  rw[es]at g2;rw[g1,xA];refine hQ t1 r rfl rfl ⟨h.pl,?_⟩
  exact Objs.upd (A:=[]) (o:=bD r.b none r.cells) h.os (fun k k1 _=>g3 k (fun e=>k1 (by simp[bD,e]))) (fun k hk=>.inl hk) g2 (by simp[bD]) (h.os.tle.off h.baseB.2 g3)
 ·rw[if_neg hk]at hQ ⊢
  simp only[wC,zA.asTup,uA,dD,yaa,yab,xA,zB,qD,ybm,if_true,h.ln.len,yag];intro m0 _ _;have lowM:yA.base<=r.m1/\tf.get r.m1=none:=h.os.low r.m1 (by simp[tsL,bD,jE])
  obtain⟨t1,a1,a2,a3⟩:=zbn h.map1 lowM.1 hk
  have o1:Objs yA.base tf t1 ([bD r.b none r.cells]++jE r.m1 (iE 0 (s.names++[n]))::[jE r.m2 (iE 0 (s.consts.map key)),wB yA.base 1 (s.names.map D.str) r.vn,wB yA.base 6 (s.consts.map xB.d) r.vc,wB yA.base 1 s.ws r.vw,wB yA.base 1 s.ts r.vt,wB yA.base 3 (s.code.map XIns.d) r.vk]):=
   Objs.upd (o:=jE r.m1 (iE 0 s.names)) h.os (fun k k1 _=>a3 k (fun e=>k1 (by simp[jE,e]))) (fun k hk=>.inl hk) a2 (by simp[jE]) (h.os.tle.off lowM.2 a3)
  rw[a1,xA];intro n2 hn2 _;obtain⟨t2,b1,b2,b3,b4⟩:=nO (C:=yA) (T:=30) (el:=9) (sz:=1) (n:=1) (cl:=[[.str n]]) (ps:=[(0,.str n)]) z21 rfl ty9 rfl rfl (by decide) rfl (fun i cs hi=>by
   cases i with
   | zero=>simp at hi;subst hi;rfl
   | succ i=>simp at hi) rfl hn2
  have o2:=o1.junk hn2 b4
  rw[b1,xA];intro n3 hn3 hb3;have ln2:Loose yA.base tf t2 1 (s.names.map D.str) r.vn:=o2.ok (wB yA.base 1 (s.names.map D.str) r.vn) (by simp)
  obtain⟨t3,c1,c2,c3,c4⟩:=rS (C:=yA) el30 (m:=[.str n]) ln2 b2 (by simp[fD,lE,rN]) (by intro a ha;simp at ha;subst ha;rfl) (by simp) (by simp;omega) hn3 hb3 o2.tle
  have ec:(s.names.map D.str).length+[D.str n].length=(s.names++[n]).length:=by simp
  have hd:s.names.map D.str++[D.str n]=(s.names++[n]).map D.str:=by simp
  rw[ec,hd]at c2;have o3:Objs yA.base tf t3 ([bD r.b none r.cells,jE r.m1 (iE 0 (s.names++[n])),jE r.m2 (iE 0 (s.consts.map key))]++wB yA.base 1 ((s.names++[n]).map D.str) (.slice n3 0 (s.names++[n]).length (s.names++[n]).length)::[wB yA.base 6 (s.consts.map xB.d) r.vc,wB yA.base 1 s.ws r.vw,wB yA.base 1 s.ts r.vt,wB yA.base 3 (s.code.map XIns.d) r.vk]):=by
   refine Objs.upd (o:=wB yA.base 1 (s.names.map D.str) r.vn) o2 (fun k k1 k2=>c4 k ?_ (fun e=>k1 (iK.2 e))) (fun k hk=>?_) c2 (by simp[wB,mD]) c3
   ·intro e;subst e;exact k2 (by simp[wB,mD])
   ·have:k=n3:=by simpa[wB,mD]using hk
    subst this;exact .inr ⟨hn3,hb3⟩
  rw[c1,xA,ec];simp only[wC,zA.asTup,uA,dD,yaa,yab,xA,zB];intro m4 _ _;have cel3:pD t3 r.b none r.cells:=o3.ok (bD r.b none r.cells) (by simp)
  obtain⟨t4,g1,g2,g3⟩:=cel3.store1 (C:=yA) h.baseB.1 (j:=4) (v:=.slice n3 0 (s.names++[n]).length (s.names++[n]).length) z21 rfl rfl rfl (by omega)
  have es:r.cells.set 4 (.slice n3 0 (s.names++[n]).length (s.names++[n]).length)=TR.cells ⟨r.b,r.pl,.slice n3 0 (s.names++[n]).length (s.names++[n]).length,r.vc,r.vw,r.vt,r.vk,r.m1,r.m2⟩:=mR (k:=0) h.pl
  rw[es]at g2;rw[g1,xA,<- oW hk];refine hQ t4 ⟨r.b,r.pl,.slice n3 0 (s.names++[n]).length (s.names++[n]).length,r.vc,r.vw,r.vt,r.vk,r.m1,r.m2⟩ rfl rfl ⟨h.pl,?_⟩
  exact Objs.upd (A:=[]) (o:=bD r.b none r.cells) o3 (fun k k1 _=>g3 k (fun e=>k1 (by simp[bD,e]))) (fun k hk=>.inl hk) g2 (by simp[bD]) (c3.off h.baseB.2 g3)
theorem zcz{v:xB}{a b:zA}{Q:bB}(h:TS cA tf t r s)(hl:s.consts.length<300000)(hv:v.fit)(hs:xB.short v)(ha:oA tf 1 (gC v.f.n.limbs) a)(hb:oA tf 1 (gC v.f.d.limbs) b)
  (hQ:∀tf' t' r',dA tf tf'->r'.b=r.b->r'.kp=r.kp->TS cA tf' t' r' ⟨s.names,addC cA s.consts v,s.ws,s.ts,s.code⟩->Q (.int .i64 ((lI (cA v) (s.consts.map cA):Nat):Int)) t'):Wc yA F 233 [.ptr r.b 0,.agg [.int .u8 v.kind,.bool v.f.n.neg,a,.bool v.f.d.neg,b,.int .i64 v.i]] t Q:=by
 have hk0:=key_ok hv hs (ha.mono h.os.tle) (hb.mono h.os.tle)
 have hsame:same 10 (.agg [.int .u8 v.kind,.bool v.f.n.neg,a,.bool v.f.d.neg,b,.int .i64 v.i]) (.agg [.int .u8 v.kind,.bool v.f.n.neg,a,.bool v.f.d.neg,b,.int .i64 v.i])=true:=by
  show Am.same.sames 9 [.int .u8 v.kind,.bool v.f.n.neg,a,.bool v.f.d.neg,b,.int .i64 v.i] [.int .u8 v.kind,.bool v.f.n.neg,a,.bool v.f.d.neg,b,.int .i64 v.i]=true
  simp only[Am.same.sames,sO,zsy,ha.same,hb.same,Bool.and_self]
 have sm:∀m d,same d (.map m) (.map m)=true:=fun m d=>by
  have e:∀n,Nat.beq n n=true:=Nat.beq_refl
  cases d <;> (unfold Am.same;simp only[e,Bool.and_self])
 refine w233 _ _ _ _ _ _ _ ?_
 simp only[t233,pA];rw[kI,xA,bN,xA,zcv,xA,h.ldC,xA];simp only[kI,xA,bN,z5c,zcv,h.ldM2];rw[q276,hk0,xA,sI,xA]
 simp only[xA,h.ldC,h.ldM2,h.lc.same,sm,hsame,if_true];rw[q102];refine zle h.os hs ha hb fun tf1 t1 a' b' q1 q2 q3 q4=>?_
 have h1:TS cA tf1 t1 r s:=⟨h.pl,q2⟩
 have hz:mG [(.int .u8 0),(.bool false),.nilslice,(.bool false),.nilslice,(.int .i64 0)] (.agg [.int .u8 v.kind,.bool v.f.n.neg,a',.bool v.f.d.neg,b',.int .i64 v.i])=some (cellsOf [.int .u8 v.kind,.bool v.f.n.neg,a',.bool v.f.d.neg,b',.int .i64 v.i]):=cK (by
  show(true&&(true&&(pG .nilslice a'&&(true&&(pG .nilslice b'&&true)))))=true
  rw[eH q3,eH q4];rfl)
 rw[hz,xA];simp only[xA,h1.ldC,h1.ldM2,h1.lc.same,sm,if_true,cellsOf,aE,kE,qF,yaa,yab];rw[q275];refine w275 _ _ _ _ _ _ _ _ _ ?_
 simp only[t275,pA];rw[zch h1.map2,xA];have hlen:r.cells.length=11:=by simp[TR.cells,h.pl]
 unfold addC at hQ;by_cases hk:cA v∈s.consts.map cA
 ·rw[if_pos hk]at hQ ⊢
  simp only[wC,zA.asTup,uA,dD,yaa,yab,xA,zB,qD,Bool.not_true,yar,if_false,kI,bN,zcv];intro m _ _;obtain⟨t2,g1,g2,g3⟩:=h1.cel.store1 (C:=yA) h.baseB.1 (j:=5) (v:=r.vc) zxk rfl (by
   rcases h.lc with⟨e,_⟩ | ⟨b,cl,c,e,_⟩<;>rw[e]<;>rfl) h.lc.one (by omega)
  have es:r.cells.set 5 r.vc=r.cells:=by
   have:=mR (p:=r.pl) h.pl (l:=[r.vn,r.vc,r.vw,r.vt,.map r.m1,.map r.m2,r.vk]) (k:=1) (v:=r.vc)
   exact this
  rw[es]at g2;rw[g1,xA];refine hQ tf1 t2 r q1 rfl rfl ⟨h.pl,?_⟩
  exact Objs.upd (A:=[]) (o:=bD r.b none r.cells) h1.os (fun k k1 _=>g3 k (fun e=>k1 (by simp[bD,e]))) (fun k hk=>.inl hk) g2 (by simp[bD]) (h1.os.tle.off h1.baseB.2 g3)
 ·rw[if_neg hk]at hQ ⊢
  simp only[wC,zA.asTup,uA,dD,yaa,yab,xA,zB,qD,ybm,if_true,h1.lc.len,yag,kI,bN,zcv];intro m0 _ _;have lowM:yA.base<=r.m2/\tf1.get r.m2=none:=h1.os.low r.m2 (by simp[tsL,bD,jE])
  obtain⟨t2,a1,a2,a3⟩:=zbn h1.map2 lowM.1 hk
  rw[yag]at a1;have em:s.consts.map cA++[cA v]=(s.consts++[v]).map cA:=by simp
  rw[em]at a2;have o1:Objs yA.base tf1 t2 ([bD r.b none r.cells,jE r.m1 (iE 0 s.names)]++jE r.m2 (iE 0 ((s.consts++[v]).map cA))::[wB yA.base 1 (s.names.map D.str) r.vn,wB yA.base 6 (s.consts.map xB.d) r.vc,wB yA.base 1 s.ws r.vw,wB yA.base 1 s.ts r.vt,wB yA.base 3 (s.code.map XIns.d) r.vk]):=
   Objs.upd (o:=jE r.m2 (iE 0 (s.consts.map cA))) h1.os (fun k k1 _=>a3 k (fun e=>k1 (by simp[jE,e]))) (fun k hk=>.inl hk) a2 (by simp[jE]) (h1.os.tle.off lowM.2 a3)
  rw[a1,xA];intro n2 hn2 _;obtain⟨t3,b1,b2,b3,b4⟩:=nO (C:=yA) (T:=31) (el:=47) (sz:=6) (n:=1) (cl:=[[.int .u8 v.kind,.bool v.f.n.neg,a',.bool v.f.d.neg,b',.int .i64 v.i]]) (ps:=[(0,.agg [.int .u8 v.kind,.bool v.f.n.neg,a',.bool v.f.d.neg,b',.int .i64 v.i])]) zxk rfl ty47 rfl rfl (by decide) rfl (fun i cs hi=>by
   cases i with
   | zero=>simp at hi;subst hi;rfl
   | succ i=>simp at hi) rfl hn2
  have o2:=o1.junk hn2 b4
  rw[b1,xA];intro n3 hn3 hb3;have ln2:Loose yA.base tf1 t3 6 (s.consts.map xB.d) r.vc:=o2.ok (wB yA.base 6 (s.consts.map xB.d) r.vc) (by simp)
  have hrd:RD tf1 v.d [.int .u8 v.kind,.bool v.f.n.neg,a',.bool v.f.d.neg,b',.int .i64 v.i]:=zef q3 q4
  obtain⟨t4,c1,c2,c3,c4⟩:=rS (C:=yA) el31 (m:=[v.d]) ln2 b2 (by rw[fD];exact⟨_,_,rfl,hrd,lE.2 rfl⟩) (by
   intro x hx;simp only[List.flatten_cons,List.flatten_nil,ybe,yat,List.not_mem_nil,or_false]at hx;rcases hx with rfl | rfl | rfl | rfl | rfl | rfl
   ·rfl
   ·rfl
   ·exact q3.one
   ·rfl
   ·exact q4.one
   ·rfl) (by simp) (by simp;omega) hn3 hb3 o2.tle
  have ec:(s.consts.map xB.d).length+[v.d].length=(s.consts++[v]).length:=by simp
  have hd:s.consts.map xB.d++[v.d]=(s.consts++[v]).map xB.d:=by simp
  rw[ec,hd]at c2;have o3:Objs yA.base tf1 t4 ([bD r.b none r.cells,jE r.m1 (iE 0 s.names),jE r.m2 (iE 0 ((s.consts++[v]).map cA)),wB yA.base 1 (s.names.map D.str) r.vn]++wB yA.base 6 ((s.consts++[v]).map xB.d) (.slice n3 0 (s.consts++[v]).length (s.consts++[v]).length)::[wB yA.base 1 s.ws r.vw,wB yA.base 1 s.ts r.vt,wB yA.base 3 (s.code.map XIns.d) r.vk]):=by
   refine Objs.upd (o:=wB yA.base 6 (s.consts.map xB.d) r.vc) o2 (fun k k1 k2=>c4 k ?_ (fun e=>k1 (iK.2 e))) (fun k hk=>?_) c2 (by simp[wB,mD]) c3
   ·intro e;subst e;exact k2 (by simp[wB,mD])
   ·have:k=n3:=by simpa[wB,mD]using hk
    subst this;exact .inr ⟨hn3,hb3⟩
  rw[c1,xA,ec];simp only[wC,zA.asTup,uA,dD,yaa,yab,xA,zB,kI,bN,zcv];intro m4 _ _;have cel3:pD t4 r.b none r.cells:=o3.ok (bD r.b none r.cells) (by simp)
  obtain⟨t5,g1,g2,g3⟩:=cel3.store1 (C:=yA) h.baseB.1 (j:=5) (v:=.slice n3 0 (s.consts++[v]).length (s.consts++[v]).length) zxk rfl rfl rfl (by omega)
  have es:r.cells.set 5 (.slice n3 0 (s.consts++[v]).length (s.consts++[v]).length)=TR.cells ⟨r.b,r.pl,r.vn,.slice n3 0 (s.consts++[v]).length (s.consts++[v]).length,r.vw,r.vt,r.vk,r.m1,r.m2⟩:=mR (k:=1) h.pl
  rw[es]at g2;have ek:((lI (cA v) (s.consts.map cA):Nat):Int)=(s.consts.length:Int):=by rw[oW hk,yag]
  rw[g1,xA,<- ek];refine hQ tf1 t5 ⟨r.b,r.pl,r.vn,.slice n3 0 (s.consts++[v]).length (s.consts++[v]).length,r.vw,r.vt,r.vk,r.m1,r.m2⟩ q1 rfl rfl ⟨h.pl,?_⟩
  exact Objs.upd (A:=[]) (o:=bD r.b none r.cells) o3 (fun k k1 _=>g3 k (fun e=>k1 (by simp[bD,e]))) (fun k hk=>.inl hk) g2 (by simp[bD]) (c3.off h1.baseB.2 g3)
end Go.Proofs
namespace Go.Proofs
open Go Go.Am
variable [aC]
variable {t tf:Tr lA}{r:TR}{s:mE}
def mE.nt(s:mE):Nt:=⟨s.names,s.consts⟩
def mE.put(s:mE)(n:Nt)(l:List XIns):mE:=⟨n.names,n.consts,s.ws,s.ts,s.code++l⟩
theorem z34(s:mE)(n:List Nat):s.nt.name n=⟨addN s.names n,s.consts⟩:=by
 unfold Nt.name addN mE.nt;split<;>rfl
theorem zm8(s:mE)(v:xB):s.nt.const cA v=⟨s.names,addC cA s.consts v⟩:=by
 unfold Nt.const addC mE.nt;split<;>rfl
theorem zhz{x:qA}{a b c:zA}{Q:bB}(h:TS cA tf t r s)(hx:x.fit)(hsh:x.op=1->xB.short x.v)(hn:s.names.length<300000)(hc:s.consts.length<300000)(hk:s.code.length<300000)
  (ha:oA tf 1 (gC x.v.f.n.limbs) a) (hb:oA tf 1 (gC x.v.f.d.limbs) b) (hcc:oA tf 9 (x.args.map qA.d) c)
  (hQ:∀tf' t' r',dA tf tf'->r'.b=r.b->r'.kp=r.kp->TS cA tf' t' r' (s.put (pE cA x.op x.name x.v x.args.length s.nt).1 [(pE cA x.op x.name x.v x.args.length s.nt).2])->Q (.tup []) t') :
  Wc yA F 170 [.ptr r.b 0,.agg (iC x a b c)] t Q:=by
 obtain⟨op,name,v,args⟩:=x
 simp only[qA.op,qA.name,qA.v,qA.args]at ha hb hcc hQ hsh;unfold qA.fit at hx;obtain⟨h1,h2,_,h3,h4,_⟩:=hx
 unfold lD at h4;have w:vA .i64 (op:Int)=(op:Int):=zC (by omega) (by omega)
 have dC:∀ {tf1 t1:Tr lA} {r1:TR} {s1:mE} {i:XIns} {Q':bB},TS cA tf1 t1 r1 s1->r1.b=r.b->s1.code.length<300000->(∀tf' t' r',dA tf1 tf'->r'.b=r1.b->r'.kp=r1.kp->TS cA tf' t' r' (s1.put s1.nt [i])->Q' (.tup []) t') →
   Wq yA F xJ 168 [.ptr r.b 0,.int .u8 i.op,.int .i64 i.a,.int .i64 i.b] t1 fun _ t'=>Q' (.tup []) t':=by
  intro tf1 t1 r1 s1 i Q' k1 k2 k3 k4;rw[z1f,<- k2];exact mS k1 k3 fun tf' t' r' v p1 p2 p3 p4 _=>k4 tf' t' r' p1 p2 p3 p4
 have nm:∀ {K:Int->Prop} {Q':bB} {o:Nat} {y:Int},(pE cA op name v args.length s.nt)=(s.nt.name name,⟨o,s.nt.nameI name,y⟩) →
   Wq yA F xJ 234 [.ptr r.b 0,.str name] t fun u t'=>uH (zzj .i64 u) fun n=>Wq yA F xJ 168 [.ptr r.b 0,.int .u8 o,.int .i64 n,.int .i64 y] t' fun _ t'=>Q (.tup []) t':=by
  intro K Q' o y he;rw[q234];refine zfz h hn fun t1 r1 k1 k2 k3=>?_
  rw[zB,xA];refine dC (i:=⟨o,_,y⟩) (Q':=Q) k3 k1 hk fun tf' t' r' p1 p2 p3 p4=>hQ tf' t' r' p1 (p2.trans k1) (p3.trans k2) ?_
  rw[he,z34];exact p4
 refine w170 _ _ _ _ _ _ _ _ _ _ ?_
 have pos:∀ {k:Nat} {x y:T} {Q:bB},op=k->wp 170 x t Q->wp 170 (.ite (wA (op:Int) (k:Int)) x y) t Q:=fun h hx=>aA (nE.2 (by omega)) hx
 have neg:∀ {k:Nat} {x y:T} {Q:bB},op≠k->wp 170 y t Q->wp 170 (.ite (wA (op:Int) (k:Int)) x y) t Q:=fun h hy=>yC (fun e=>absurd (nE.1 e) (by omega)) hy
 unfold t170;by_cases c1:op=1
 ·refine pos c1 ?_
  have he:pE cA op name v args.length s.nt=(s.nt.const cA v,⟨1,s.nt.constI cA v,0⟩):=by unfold pE;rw[if_pos c1]
  simp only[pA];rw[q233];refine zcz h hc h3 (hsh c1) ha hb fun tf1 t1 r1 k0 k1 k2 k3=>?_
  rw[zB,xA];refine dC (i:=⟨1,_,0⟩) (Q':=Q) k3 k1 hk fun tf' t' r' p1 p2 p3 p4=>hQ tf' t' r' (k0.trans p1) (p2.trans k1) (p3.trans k2) ?_
  rw[he,zm8];exact p4
 ·refine neg c1 ?_
  by_cases c2:op=2
  ·refine pos c2 ?_
   have he:pE cA op name v args.length s.nt=(s.nt,⟨2,0,0⟩):=by unfold pE;rw[if_neg c1,if_pos c2]
   simp only[pA];refine dC (i:=⟨2,0,0⟩) (Q':=Q) h rfl hk fun tf' t' r' p1 p2 p3 p4=>hQ tf' t' r' p1 p2 p3 ?_
   rw[he];exact p4
  ·refine neg c2 ?_
   have h345:∀(o:Nat),op=o->(o=3\/o=4\/o=5)->pE cA op name v args.length s.nt=(s.nt.name name,⟨o,s.nt.nameI name,0⟩):=by
    intro o e1 e2;unfold pE;rw[if_neg c1,if_neg c2,if_pos (by omega),e1]
   by_cases c3:op=3
   ·refine pos c3 ?_
    simp only[pA];exact nm (K:=fun _=>True) (Q':=Q) (h345 3 c3 (by omega))
   ·refine neg c3 ?_
    by_cases c4:op=4
    ·refine pos c4 ?_
     simp only[pA];exact nm (K:=fun _=>True) (Q':=Q) (h345 4 c4 (by omega))
    ·refine neg c4 ?_
     by_cases c5:op=5
     ·refine pos c5 ?_
      simp only[pA];exact nm (K:=fun _=>True) (Q':=Q) (h345 5 c5 (by omega))
     ·refine neg c5 ?_
      by_cases c6:op=6
      ·refine pos c6 ?_
       have he:pE cA op name v args.length s.nt=(s.nt.name name,⟨6,s.nt.nameI name,args.length⟩):=by unfold pE;rw[if_neg c1,if_neg c2,if_neg (by omega),if_pos c6]
       simp only[pA];rw[hcc.len,xA,yag,zB,xA];simp only[xA,hcc.same,sO,if_true];exact nm (K:=fun _=>True) (Q':=Q) he
      ·refine neg c6 ?_
       have h8:(op=21\/op=22\/op=23)->pE cA op name v args.length s.nt=(s.nt.name name,⟨8,s.nt.nameI name,op⟩):=by
        intro e;unfold pE;rw[if_neg c1,if_neg c2,if_neg (by omega),if_neg c6,if_pos e]
       by_cases c21:op=21
       ·refine pos c21 (pos c21 ?_)
        simp only[pA,qA.op,qA.name,qA.v,qA.args,w,sO,if_true];exact nm (K:=fun _=>True) (Q':=Q) (h8 (by omega))
       ·refine neg c21 ?_
        by_cases c23:op=23
        ·refine pos c23 (pos c23 ?_)
         simp only[pA,qA.op,qA.name,qA.v,qA.args,w,sO,if_true];exact nm (K:=fun _=>True) (Q':=Q) (h8 (by omega))
        ·refine neg c23 ?_
         by_cases c22:op=22
         ·refine pos c22 ?_
          simp only[pA,qA.op,qA.name,qA.v,qA.args,w,sO,if_true];exact nm (K:=fun _=>True) (Q':=Q) (h8 (by omega))
         ·refine neg c22 ?_
          by_cases c19:op=19
          ·refine pos c19 ?_
           have he:pE cA op name v args.length s.nt=(s.nt,⟨7,19,v.i⟩):=by unfold pE;rw[if_neg c1,if_neg c2,if_neg (by omega),if_neg c6,if_neg (by omega),if_pos c19]
           simp only[pA,qA.op,qA.name,qA.v,qA.args,w];refine dC (i:=⟨7,(op:Int),v.i⟩) (Q':=Q) h rfl hk fun tf' t' r' p1 p2 p3 p4=>hQ tf' t' r' p1 p2 p3 ?_
           rw[he];subst c19;exact p4
          ·refine neg c19 ?_
           have he:pE cA op name v args.length s.nt=(s.nt,⟨7,op,0⟩):=by unfold pE;rw[if_neg c1,if_neg c2,if_neg (by omega),if_neg c6,if_neg (by omega),if_neg c19]
           simp only[pA,qA.op,qA.name,qA.v,qA.args,w];refine dC (i:=⟨7,(op:Int),0⟩) (Q':=Q) h rfl hk fun tf' t' r' p1 p2 p3 p4=>hQ tf' t' r' p1 p2 p3 ?_
           rw[he];exact p4
end Go.Proofs
namespace Go.Am
mutual
def vE:qA->Nat
 | .mk _ _ _ args=>1+qJ args
def qJ:List qA->Nat
 | []=>0
 | x::l=>vE x+qJ l
end
section
variable {key:xB->List Nat}{valid:xB->Bool}
def aO(f:fG)(n:Nat):Prop:=∀s p,(f s p).2.length<=4*n/\(f s p).1.names.length<=s.names.length+n/\(f s p).1.consts.length<=s.consts.length+n
theorem zyz(s:Nt)(n:List Nat):(s.name n).names.length<=s.names.length+1/\(s.name n).consts=s.consts:=by
 unfold Nt.name;split<;>simp
theorem zix(s:Nt)(v:xB):(s.const key v).consts.length<=s.consts.length+1/\(s.const key v).names=s.names:=by
 unfold Nt.const;split<;>simp
theorem ztq(op:Nat)(name:List Nat)(v:xB)(n:Nat)(s:Nt):(pE key op name v n s).1.names.length<=s.names.length+1/\(pE key op name v n s).1.consts.length<=s.consts.length+1:=by
 have h1:=zyz s name
 have h2:=zix (key:=key) s v
 unfold pE;split
 ·simp only[h2.2];omega
 ·split
  ·simp
  ·split
   ·simp only[h1.2];omega
   ·split
    ·simp only[h1.2];omega
    ·split
     ·simp only[h1.2];omega
     ·split<;>simp
theorem zd1{f g:fG}{n m:Nat}{skip:Nat}{truth:Int}(hf:aO f n)(hg:aO g m):aO (iJ key f g skip truth) (1+(n+m)):=by
 intro s p;have h1:=hf s p
 have h2:=hg (f s p).1 (p+(f s p).2.length+1)
 have h3:=zix (key:=key) (g (f s p).1 (p+(f s p).2.length+1)).1 (cF truth)
 unfold iJ;simp only[yah,yao,yay,h3.2];omega
theorem zx4{f g h:fG}{n m k:Nat}(hf:aO f n)(hg:aO g m)(hh:aO h k):aO (ifT f g h) (1+(n+(m+k))):=by
 intro s p;have h1:=hf s p
 have h2:=hg (f s p).1 (p+(f s p).2.length+1)
 have h3:=hh (g (f s p).1 (p+(f s p).2.length+1)).1 (p+(f s p).2.length+1+(g (f s p).1 (p+(f s p).2.length+1)).2.length+1)
 unfold ifT;simp only[yah,yao];omega
theorem zbx:∀(l:List qA),(∀x∈l,aO (lB key valid x) (vE x))->aO (rD (uD key valid l)) (qJ l)
 | [],_=>by intro s p;simp[uD,rD,qJ]
 | x::l,h=>by
  intro s p;have h1:=h x (by simp) s p
  have h2:=zbx l (fun y hy=>h y (by simp[hy])) (lB key valid x s p).1 (p+(lB key valid x s p).2.length)
  simp only[uD,rD,qJ,yah];omega
mutual
theorem kM:∀(x:qA),aO (lB key valid x) (vE x)
 | .mk op name v args=>by
  have ih:=zha args
  intro s p;unfold lB vE mJ;by_cases h0:mH valid op v (uD key valid args).length=false
  ·simp only[if_pos h0,yao,yay];omega
  ·simp only[if_neg h0]
   have h0:mH valid op v (uD key valid args).length=true:=by simpa using h0
   rw[zjv]at h0;have hn:=h0
   unfold mH at hn;simp only[yac,decide_eq_true_eq]at hn;by_cases h15:op=15
   ·simp only[if_pos h15]
    subst h15;have:args.length=2:=by have h1:=hn.1.2;have h2:=hn.2;simp[gF]at h1 h2;omega
    match args,this,ih with
    | [a,b],_,ih=>
     have:=zd1 (key:=key) (skip:=10) (truth:=0) (ih a (by simp)) (ih b (by simp)) s p
     simp only[uD,qJ];simpa using this
   ·simp only[if_neg h15]
    by_cases h16:op=16
    ·simp only[if_pos h16]
     subst h16;have:args.length=2:=by have h1:=hn.1.2;have h2:=hn.2;simp[gF]at h1 h2;omega
     match args,this,ih with
     | [a,b],_,ih=>
      have:=zd1 (key:=key) (skip:=11) (truth:=1) (ih a (by simp)) (ih b (by simp)) s p
      simp only[uD,qJ];simpa using this
    ·simp only[if_neg h16]
     by_cases h18:op=18
     ·simp only[if_pos h18]
      subst h18;have:args.length=3:=by have h1:=hn.1.2;have h2:=hn.2;simp[gF]at h1 h2;omega
      match args,this,ih with
      | [a,b,c],_,ih=>
       have:=zx4 (ih a (by simp)) (ih b (by simp)) (ih c (by simp)) s p
       simp only[uD,qJ];simpa using this
     ·simp only[if_neg h18]
      have h1:=zbx args ih s p
      have h2:=ztq (key:=key) op name v (uD key valid args).length (rD (uD key valid args) s p).1
      simp only[yah,yao,yay];omega
theorem zha:∀(l:List qA),∀x∈l,aO (lB key valid x) (vE x)
 | [],x,h=>by cases h
 | y::l,x,h=>by
  rcases yat.1 h with e | h
  ·rw[e];exact kM y
  ·exact zha l x h
end
end
end Go.Am
namespace Go.Proofs
open Go Go.Am
variable [aC]
variable {t tf:Tr lA}{r:TR}{s:mE}
mutual
theorem zaj:∀(x:qA) (deep c:Nat),(mK x deep c).1=true->(mK x deep c).2=c+vE x
 | .mk op name v args,deep,c,h=>by
  unfold mK at h ⊢
  unfold vE;split at h
  ·cases h
  ·rename_i h1
   rw[if_neg h1];split at h
   ·cases h
   ·rename_i h2
    rw[if_neg h2,zak args _ _ h];omega
theorem zak:∀(l:List qA) (deep c:Nat),(lK l deep c).1=true->(lK l deep c).2=c+qJ l
 | [],deep,c,h=>by unfold lK qJ;rfl
 | x::l,deep,c,h=>by
  unfold lK at h ⊢
  unfold qJ;split at h
  ·rename_i h1
   rw[if_pos h1,zak l _ _ h,zaj x _ _ h1];omega
  ·cases h
end
theorem bV{x:qA}(h:rQ x=true):vE x<=200:=by
 have h1:=zaj x 1 0 h
 have h2:=(zb0 x 1 0 (by omega)).2 h
 omega
theorem tV{l:List qA}{v:zA}(hv:oA tf 9 (l.map qA.d) v)(ht:dA tf t){i:Nat}{x:qA}(hx:l[i]?=some x) :
  ∃b off a c d,yB yA 48 v (.int .i64 (i:Int))=some (.ptr b off)/\jA yA 50 ⟨0,t⟩ (.ptr b off)=some (.agg (iC x a c d))/\RD tf x.d (iC x a c d)/\mG [(.int .u8 0),(.str []),(.int .u8 0),(.bool false),.nilslice,(.bool false),.nilslice,(.int .i64 0),.nilslice] (.agg (iC x a c d))=some (cellsOf (iC x a c d)) ∧
   oA tf 1 (gC x.v.f.n.limbs) a/\oA tf 1 (gC x.v.f.d.limbs) c/\oA tf 9 (x.args.map qA.d) d:=by
 obtain⟨b,off,a,c,d,g1,g2,g3,g4,g5,g6,g7⟩:=zk1 hv hx
 exact⟨b,off,a,c,d,g1,sP (H:=⟨0,tf⟩) (fun _ _ h=>ht _ _ h) g2,g3,g4,g5,g6,g7⟩
theorem zbj{v:xB}(h:vB v=true):xB.short v:=by
 have z:wO v.f=true->xB.short v:=by
  intro h;unfold wO zsz zo6 at h;simp only[yac,decide_eq_true_eq]at h;unfold xB.short;rw[h.1.2,h.2.2];simp
 have f:xQ v.f=true->xB.short v:=by
  intro h;unfold xQ at h;simp only[yac,decide_eq_true_eq]at h;have h1:=h.1.1.1.1.1.1
  have h2:=h.1.1.1.1.1.2
  exact⟨by omega,by omega⟩
 unfold vB at h;split at h
 ·simp only[yac]at h;exact f h.2
 ·split at h
  ·simp only[yac]at h;exact z h.1
  ·split at h
   ·simp only[yac]at h;exact z h.1
   ·split at h
    ·simp only[yac]at h;exact z h.1
    ·cases h
theorem zb3{α:Type}{A B:List α}{x y:α}{n:Nat}(h:A.length=n):(A++x::B).set n y=A++y::B:=by
 subst h;rw[List.set_append_right _ _ (yal _),Nat.sub_self];rfl
theorem zge{α:Type}{A B:List α}{x:α}{n:Nat}(h:A.length=n):(A++x::B)[n]?=some x:=by
 subst h;rw[yaq (yal _),Nat.sub_self];rfl
def bP(x:qA):Prop:=∀(cs:List zA) (t tf:Tr lA) (r:TR) (s:mE) (Q:bB),x.fit->bI tf->RD tf x.d cs->TS cA tf t r s->s.code.length+4*vE x<300000->s.names.length+vE x<300000->s.consts.length+vE x<300000 →
 (∀tf' t' r',dA tf tf'->r'.b=r.b->r'.kp=r.kp->TS cA tf' t' r' (s.put (lB cA vB x s.nt s.code.length).1 (lB cA vB x s.nt s.code.length).2)->Q (.tup []) t')->Wc yA F 104 [.ptr r.b 0,.agg cs] t Q
theorem yK{sz:Nat}:oA t sz [] .nilslice:=⟨[],.inl ⟨rfl,rfl⟩,lE.2 rfl⟩
theorem dZ{a b:qA}{cs:List zA}{args:List qA}{op:Nat}{name:List Nat}{v:xB}{u1 u2 u3:zA}{skip:Nat}{truth:Int}{Q:bB}(hA:bP a)(hB:bP b)(hcs:cs=iC (.mk op name v args) u1 u2 u3)(hargs:args=[a,b])(hfa:a.fit)(hfb:b.fit)(hg:bI tf)(hu:oA tf 9 (args.map qA.d) u3)(h:TS cA tf t r s)
  (htr : -9223372036854775808<=truth/\truth<9223372036854775808) (b1:s.code.length+4*(1+(vE a+vE b))<300000) (b2:s.names.length+(1+(vE a+vE b))<300000) (b3:s.consts.length+(1+(vE a+vE b))<300000)
  (hQ:∀tf' t' r',dA tf tf'->r'.b=r.b->r'.kp=r.kp->TS cA tf' t' r' (s.put (iJ cA (lB cA vB a) (lB cA vB b) skip truth s.nt s.code.length).1 (iJ cA (lB cA vB a) (lB cA vB b) skip truth s.nt s.code.length).2)->Q (.tup []) t') :
  Wc yA F 169 [.ptr r.b 0,.agg cs,.int .u8 (skip:Int),.agg [.int .u8 1,.bool false,.nilslice,.bool false,.nilslice,.int .i64 truth]] t Q:=by
 subst hcs;refine w169 _ _ _ _ _ _ _ _ _ _ _ _ _ _ _ _ _ ?_
 simp only[t169,pA,qA.op,qA.name,qA.v,qA.args];obtain⟨p,o,x1,x2,x3,g1,g2,g3,g4,_,_,_⟩:=tV hu h.os.tle (i:=0) (x:=a) (by rw[hargs];rfl)
 have g1:yB yA 48 u3 (.int .i64 0)=some (.ptr p o):=g1
 rw[g1,xA,g2,xA,g4,xA];simp only[iC,cellsOf,qF,bF,aE,kE,yaa,yab];rw[z3q];have sa:=kM (key:=cA) (valid:=vB) a s.nt s.code.length
 refine hA _ t tf r s _ hfa hg g3 h (by omega) (by omega) (by omega) fun tf1 t1 r1 k1 k2 k3 k4=>?_
 generalize eR:lB cA vB a s.nt s.code.length=R at *
 have sa1:R.1.names.length<=s.names.length+vE a:=sa.2.1
 have sa2:R.1.consts.length<=s.consts.length+vE a:=sa.2.2
 rw[z1f,<- k2];refine mS (i:=⟨skip,0,0⟩) k4 (by show(s.code++R.2).length<_;rw[yah];omega) fun tf2 t2 r2 v2 m1 m2 m3 m4 m5=>?_
 obtain⟨p',o',y1,y2,y3,f1,f2,f3,f4,_,_,_⟩:=tV hu ((k1.trans m1).trans m4.os.tle) (i:=1) (x:=b) (by rw[hargs];rfl)
 have f1:yB yA 48 u3 (.int .i64 1)=some (.ptr p' o'):=f1
 rw[f1,xA,f2,xA,f4,xA];simp only[iC,cellsOf,qF,bF,aE,kE,yaa,yab];rw[z3q,<- m2];have e2:(s.code++R.2++[(⟨skip,0,0⟩:XIns)]).length=s.code.length+R.2.length+1:=by simp only[yah,yao,yay]
 have sb:=kM (key:=cA) (valid:=vB) b R.1 (s.code.length+R.2.length+1)
 refine hB _ t2 tf2 r2 _ _ hfb ((hg.mono k1).mono m1) (RD.mono (k1.trans m1) _ _ f3) m4 (by show(s.code++R.2++[_]).length+_<_;rw[e2];omega) (by show R.1.names.length+_<_;omega) (by show R.1.consts.length+_<_;omega) fun tf3 t3 r3 n1 n2 n3 n4=>?_
 have n4:TS cA tf3 t3 r3 (mE.put ⟨R.1.names,R.1.consts,s.ws,s.ts,s.code++R.2++[(⟨skip,0,0⟩:XIns)]⟩ (lB cA vB b R.1 (s.code++R.2++[(⟨skip,0,0⟩:XIns)]).length).1 (lB cA vB b R.1 (s.code++R.2++[(⟨skip,0,0⟩:XIns)]).length).2):=n4
 rw[e2]at n4;generalize eG:lB cA vB b R.1 (s.code.length+R.2.length+1)=G at *
 unfold mE.put at n4;simp only at n4
 have lg:G.2.length<=4*vE b:=sb.1
 have lr:R.2.length<=4*vE a:=sa.1
 have ln:G.1.names.length<=R.1.names.length+vE b:=sb.2.1
 have lc:G.1.consts.length<=R.1.consts.length+vE b:=sb.2.2
 rw[z1f,<- n2];refine mS (i:=⟨12,0,0⟩) n4 (by show(s.code++R.2++[_]++G.2).length<_;rw[yah,e2];omega) fun tf4 t4 r4 v4 p1 p2 p3 p4 _=>?_
 have e4:(s.code++R.2++[(⟨skip,0,0⟩:XIns)]++G.2++[(⟨12,0,0⟩:XIns)]).length=s.code.length+R.2.length+1+G.2.length+1:=by simp;omega
 rw[z1f,<- p2];refine mS (i:=⟨9,0,0⟩) p4 (by show(s.code++R.2++[_]++G.2++[_]).length<_;rw[e4];omega) fun tf5 t5 r5 v5 c1 c2 c3 c4 c5=>?_
 have ecode:s.code++R.2++[(⟨skip,0,0⟩:XIns)]++G.2++[(⟨12,0,0⟩:XIns)]++[(⟨9,0,0⟩:XIns)]=(s.code++R.2)++⟨skip,0,0⟩::(G.2++[⟨12,0,0⟩,⟨9,0,0⟩]):=by simp
 have e5:(s.code++R.2++[(⟨skip,0,0⟩:XIns)]++G.2++[(⟨12,0,0⟩:XIns)]++[(⟨9,0,0⟩:XIns)]).length=s.code.length+R.2.length+1+G.2.length+2:=by simp;omega
 have hb5:r5.b=r1.b:=by rw[c2,p2,n2,m2]
 have m5':Tgt tf5 r5.b v2 (s.code++R.2).length:=by
  rw[hb5];exact m5.mono (n1.trans (p1.trans c1))
 have tg1:=wX (i:=(s.code++R.2).length) (x:=⟨skip,0,0⟩) (v:=v2) (Q:=fun u t'=>Wq yA F xJ 233 [.ptr r4.b 0,.agg [.int .u8 1,.bool false,.nilslice,.bool false,.nilslice,.int .i64 truth]] t' fun a' t'=>uH (zzj .i64 a') fun n=>Wq yA F xJ 168 [.ptr r4.b 0,.int .u8 1,.int .i64 n,.int .i64 0] t' fun _ t'=>uH (fL v5 []) fun q=>Wq yA F xJ q.1 q.2 t' fun _ t'=>Q (.tup []) t') c4 m5' (by show(s.code++R.2++[_]++G.2++[_]++[_])[_]?=_;rw[ecode];exact zge rfl) (by show(s.code++R.2++[_]++G.2++[_]++[_]).length<_;rw[e5];omega) (fun t6 h6=>?_)
 ·exact tg1
 ·have h6:TS cA tf5 t6 r5 ⟨G.1.names,G.1.consts,s.ws,s.ts,(s.code++R.2++[(⟨skip,0,0⟩:XIns)]++G.2++[(⟨12,0,0⟩:XIns)]++[(⟨9,0,0⟩:XIns)]).set (s.code++R.2).length ⟨skip,((s.code++R.2++[(⟨skip,0,0⟩:XIns)]++G.2++[(⟨12,0,0⟩:XIns)]++[(⟨9,0,0⟩:XIns)]).length:Nat),0⟩⟩:=h6
  rw[e5,ecode,zb3 rfl]at h6;rw[q233,<- c2];have hfit:(cF truth).fit:=⟨(by show 1<256;decide),⟨⟨(by show 0<lD;decide),(by show 0<lD;decide)⟩,(fun x hx=>by cases hx),(fun x hx=>by cases hx)⟩,htr.1,htr.2⟩
  refine zcz (v:=cF truth) h6 (by show G.1.consts.length<_;omega) hfit ⟨(by show 0<400;decide),(by show 0<400;decide)⟩ yK yK fun tf7 t7 r7 d1 d2 d3 d4=>?_
  rw[zB,xA,z1f,<- d2];have e7:((s.code++R.2)++⟨skip,((s.code.length+R.2.length+1+G.2.length+2:Nat):Int),0⟩::(G.2++[(⟨12,0,0⟩:XIns),⟨9,0,0⟩])).length=s.code.length+R.2.length+1+G.2.length+2:=by simp;omega
  refine mS (i:=⟨1,((lI (cA (cF truth)) (G.1.consts.map cA):Nat):Int),0⟩) d4 (by show(_++_::_).length<_;rw[e7];omega) fun tf8 t8 r8 v8 z1 z2 z3 z4 _=>?_
  have ecode2:((s.code++R.2)++⟨skip,((s.code.length+R.2.length+1+G.2.length+2:Nat):Int),0⟩::(G.2++[(⟨12,0,0⟩:XIns),⟨9,0,0⟩]))++[(⟨1,((lI (cA (cF truth)) (G.1.consts.map cA):Nat):Int),0⟩:XIns)] =
   ((s.code++R.2)++⟨skip,((s.code.length+R.2.length+1+G.2.length+2:Nat):Int),0⟩::(G.2++[(⟨12,0,0⟩:XIns)]))++⟨9,0,0⟩::[⟨1,((lI (cA (cF truth)) (G.1.consts.map cA):Nat):Int),0⟩]:=by simp
  have e8:((s.code++R.2)++⟨skip,((s.code.length+R.2.length+1+G.2.length+2:Nat):Int),0⟩::(G.2++[(⟨12,0,0⟩:XIns)])).length=(s.code++R.2++[(⟨skip,0,0⟩:XIns)]++G.2++[(⟨12,0,0⟩:XIns)]).length:=by simp
  have e9:(((s.code++R.2)++⟨skip,((s.code.length+R.2.length+1+G.2.length+2:Nat):Int),0⟩::(G.2++[(⟨12,0,0⟩:XIns),⟨9,0,0⟩]))++[(⟨1,((lI (cA (cF truth)) (G.1.consts.map cA):Nat):Int),0⟩:XIns)]).length=s.code.length+R.2.length+1+G.2.length+3:=by simp;omega
  have hb8:r8.b=r4.b:=by rw[z2,d2,c2]
  have c5':Tgt tf8 r8.b v5 (s.code++R.2++[(⟨skip,0,0⟩:XIns)]++G.2++[(⟨12,0,0⟩:XIns)]).length:=by
   rw[hb8];exact c5.mono (d1.trans z1)
  refine wX (x:=⟨9,0,0⟩) z4 c5' (by show(_++[_])[_]?=_;rw[ecode2];exact zge e8) (by show(_++[_]).length<_;rw[e9];omega) fun t9 h9=>?_
  refine hQ tf8 t9 r8 (k1.trans (m1.trans (n1.trans (p1.trans (c1.trans (d1.trans z1)))))) (by rw[hb8,p2,n2,m2,k2]) (by rw[z3,d3,c3,p3,n3,m3,k3]) ?_
  have h9:TS cA tf8 t9 r8 ⟨G.1.names,addC cA G.1.consts (cF truth),s.ws,s.ts,(((s.code++R.2)++⟨skip,((s.code.length+R.2.length+1+G.2.length+2:Nat):Int),0⟩::(G.2++[(⟨12,0,0⟩:XIns),⟨9,0,0⟩]))++[(⟨1,((lI (cA (cF truth)) (G.1.consts.map cA):Nat):Int),0⟩:XIns)]).set (s.code++R.2++[(⟨skip,0,0⟩:XIns)]++G.2++[(⟨12,0,0⟩:XIns)]).length ⟨9,((((s.code++R.2)++⟨skip,((s.code.length+R.2.length+1+G.2.length+2:Nat):Int),0⟩::(G.2++[(⟨12,0,0⟩:XIns),⟨9,0,0⟩]))++[(⟨1,((lI (cA (cF truth)) (G.1.consts.map cA):Nat):Int),0⟩:XIns)]).length:Nat),0⟩⟩:=h9
  rw[e9,ecode2,zb3 e8]at h9;unfold mE.put iJ;rw[eR,eG];have en:G.1.const cA (cF truth)=⟨G.1.names,addC cA G.1.consts (cF truth)⟩:=zm8 ⟨G.1.names,G.1.consts,[],[],[]⟩ (cF truth)
  rw[en];have el:s.code++(R.2++⟨skip,((s.code.length+R.2.length+1+G.2.length+2:Nat):Int),0⟩::(G.2++[(⟨12,0,0⟩:XIns),⟨9,((s.code.length+R.2.length+1+G.2.length+3:Nat):Int),0⟩,⟨1,((G.1.constI cA (cF truth):Nat):Int),0⟩])) =
   ((s.code++R.2)++⟨skip,((s.code.length+R.2.length+1+G.2.length+2:Nat):Int),0⟩::(G.2++[(⟨12,0,0⟩:XIns)]))++⟨9,((s.code.length+R.2.length+1+G.2.length+3:Nat):Int),0⟩::[⟨1,((lI (cA (cF truth)) (G.1.consts.map cA):Nat):Int),0⟩]:=by
   simp[Nt.constI]
  rw[el];exact h9
end Go.Proofs
namespace Go.Proofs
open Go Go.Am
variable [aC]
variable {t tf:Tr lA}{r:TR}{s:mE}
theorem if_ok{a b d:qA}{args:List qA}{u3:zA}{Q:bB}(hA:bP a)(hB:bP b)(hD:bP d)(hargs:args=[a,b,d])(hfa:a.fit)(hfb:b.fit)(hfd:d.fit)(hg:bI tf)(hu:oA tf 9 (args.map qA.d) u3)(h:TS cA tf t r s)
  (b1:s.code.length+4*(1+(vE a+(vE b+vE d)))<300000) (b2:s.names.length+(1+(vE a+(vE b+vE d)))<300000) (b3:s.consts.length+(1+(vE a+(vE b+vE d)))<300000)
  (hQ:∀tf' t' r',dA tf tf'->r'.b=r.b->r'.kp=r.kp->TS cA tf' t' r' (s.put (ifT (lB cA vB a) (lB cA vB b) (lB cA vB d) s.nt s.code.length).1 (ifT (lB cA vB a) (lB cA vB b) (lB cA vB d) s.nt s.code.length).2)->Q (.tup []) t') :
  wp 104 (.opt (yB yA 48 u3 (.int .i64 0)) fun a5=>.light (fun m=>jA yA 50 ⟨0,m⟩ a5) fun a6=>.asG [(.int .u8 0),(.str []),(.int .u8 0),(.bool false),.nilslice,(.bool false),.nilslice,(.int .i64 0),.nilslice] a6 fun X7=>
 .call 104 [.ptr r.b 0,(.agg [(.int .u8 (X7.i 0)),(.str (X7.s 1)),(.int .u8 (X7.i 2)),(.bool (X7.b 3)),(X7.v 4),(.bool (X7.b 5)),(X7.v 6),(.int .i64 (X7.i 7)),(X7.v 8)])] fun a8=>
 .call 168 [.ptr r.b 0,(.int .u8 10),(.int .i64 0),(.int .i64 0)] fun a9=>
 .opt (yB yA 48 u3 (.int .i64 1)) fun a10=>.light (fun m=>jA yA 50 ⟨0,m⟩ a10) fun a11=>.asG [(.int .u8 0),(.str []),(.int .u8 0),(.bool false),.nilslice,(.bool false),.nilslice,(.int .i64 0),.nilslice] a11 fun X12=>
 .call 104 [.ptr r.b 0,(.agg [(.int .u8 (X12.i 0)),(.str (X12.s 1)),(.int .u8 (X12.i 2)),(.bool (X12.b 3)),(X12.v 4),(.bool (X12.b 5)),(X12.v 6),(.int .i64 (X12.i 7)),(X12.v 8)])] fun zF=>
 .call 168 [.ptr r.b 0,(.int .u8 9),(.int .i64 0),(.int .i64 0)] fun a14=>
 .callv a9 [] fun a15=>
 .opt (yB yA 48 u3 (.int .i64 2)) fun a16=>.light (fun m=>jA yA 50 ⟨0,m⟩ a16) fun a17=>.asG [(.int .u8 0),(.str []),(.int .u8 0),(.bool false),.nilslice,(.bool false),.nilslice,(.int .i64 0),.nilslice] a17 fun X18=>
 .call 104 [.ptr r.b 0,(.agg [(.int .u8 (X18.i 0)),(.str (X18.s 1)),(.int .u8 (X18.i 2)),(.bool (X18.b 3)),(X18.v 4),(.bool (X18.b 5)),(X18.v 6),(.int .i64 (X18.i 7)),(X18.v 8)])] fun a19=>
 .callv a14 [] fun a20=>
 .ret (.tup [])) t Q:=by
 simp only[pA];obtain⟨p,o,x1,x2,x3,g1,g2,g3,g4,_,_,_⟩:=tV hu h.os.tle (i:=0) (x:=a) (by rw[hargs];rfl)
 have g1:yB yA 48 u3 (.int .i64 0)=some (.ptr p o):=g1
 rw[g1,xA,g2,xA,g4,xA];simp only[iC,cellsOf,qF,bF,aE,kE,yaa,yab];rw[z3q];have sa:=kM (key:=cA) (valid:=vB) a s.nt s.code.length
 refine hA _ t tf r s _ hfa hg g3 h (by omega) (by omega) (by omega) fun tf1 t1 r1 k1 k2 k3 k4=>?_
 generalize eR:lB cA vB a s.nt s.code.length=R at *
 have sa1:R.1.names.length<=s.names.length+vE a:=sa.2.1
 have sa2:R.1.consts.length<=s.consts.length+vE a:=sa.2.2
 rw[z1f,<- k2];refine mS (i:=⟨10,0,0⟩) k4 (by show(s.code++R.2).length<_;rw[yah];omega) fun tf2 t2 r2 v2 m1 m2 m3 m4 m5=>?_
 obtain⟨p',o',y1,y2,y3,f1,f2,f3,f4,_,_,_⟩:=tV hu ((k1.trans m1).trans m4.os.tle) (i:=1) (x:=b) (by rw[hargs];rfl)
 have f1:yB yA 48 u3 (.int .i64 1)=some (.ptr p' o'):=f1
 rw[f1,xA,f2,xA,f4,xA];simp only[iC,cellsOf,qF,bF,aE,kE,yaa,yab];rw[z3q,<- m2];have e2:(s.code++R.2++[(⟨10,0,0⟩:XIns)]).length=s.code.length+R.2.length+1:=by simp only[yah,yao,yay]
 have sb:=kM (key:=cA) (valid:=vB) b R.1 (s.code.length+R.2.length+1)
 refine hB _ t2 tf2 r2 _ _ hfb ((hg.mono k1).mono m1) (RD.mono (k1.trans m1) _ _ f3) m4 (by show(s.code++R.2++[_]).length+_<_;rw[e2];omega) (by show R.1.names.length+_<_;omega) (by show R.1.consts.length+_<_;omega) fun tf3 t3 r3 n1 n2 n3 n4=>?_
 have n4:TS cA tf3 t3 r3 (mE.put ⟨R.1.names,R.1.consts,s.ws,s.ts,s.code++R.2++[(⟨10,0,0⟩:XIns)]⟩ (lB cA vB b R.1 (s.code++R.2++[(⟨10,0,0⟩:XIns)]).length).1 (lB cA vB b R.1 (s.code++R.2++[(⟨10,0,0⟩:XIns)]).length).2):=n4
 rw[e2]at n4;generalize eG:lB cA vB b R.1 (s.code.length+R.2.length+1)=G at *
 unfold mE.put at n4;simp only at n4
 have lg:G.2.length<=4*vE b:=sb.1
 have lr:R.2.length<=4*vE a:=sa.1
 have ln:G.1.names.length<=R.1.names.length+vE b:=sb.2.1
 have lc:G.1.consts.length<=R.1.consts.length+vE b:=sb.2.2
 rw[z1f,<- n2];have e3:(s.code++R.2++[(⟨10,0,0⟩:XIns)]++G.2).length=s.code.length+R.2.length+1+G.2.length:=by simp only[yah,yao,yay]
 refine mS (i:=⟨9,0,0⟩) n4 (by show(s.code++R.2++[_]++G.2).length<_;rw[e3];omega) fun tf5 t5 r5 v5 c1 c2 c3 c4 c5=>?_
 have ecode:s.code++R.2++[(⟨10,0,0⟩:XIns)]++G.2++[(⟨9,0,0⟩:XIns)]=(s.code++R.2)++⟨10,0,0⟩::(G.2++[⟨9,0,0⟩]):=by simp
 have e5:(s.code++R.2++[(⟨10,0,0⟩:XIns)]++G.2++[(⟨9,0,0⟩:XIns)]).length=s.code.length+R.2.length+1+G.2.length+1:=by simp only[yah,yao,yay]
 have hb5:r5.b=r1.b:=by rw[c2,n2,m2]
 have m5':Tgt tf5 r5.b v2 (s.code++R.2).length:=by
  rw[hb5];exact m5.mono (n1.trans c1)
 refine wX (i:=(s.code++R.2).length) (x:=⟨10,0,0⟩) (v:=v2) c4 m5' (by show(s.code++R.2++[_]++G.2++[_])[_]?=_;rw[ecode];exact zge rfl) (by show(s.code++R.2++[_]++G.2++[_]).length<_;rw[e5];omega) (fun t6 h6=>?_)
 have h6:TS cA tf5 t6 r5 ⟨G.1.names,G.1.consts,s.ws,s.ts,(s.code++R.2++[(⟨10,0,0⟩:XIns)]++G.2++[(⟨9,0,0⟩:XIns)]).set (s.code++R.2).length ⟨10,((s.code++R.2++[(⟨10,0,0⟩:XIns)]++G.2++[(⟨9,0,0⟩:XIns)]).length:Nat),0⟩⟩:=h6
 rw[e5,ecode,zb3 rfl]at h6;obtain⟨p6,o6,w1,w2,w3,l1,l2,l3,l4,_,_,_⟩:=tV hu ((((k1.trans m1).trans n1).trans c1).trans h6.os.tle) (i:=2) (x:=d) (by rw[hargs];rfl)
 have l1:yB yA 48 u3 (.int .i64 2)=some (.ptr p6 o6):=l1
 rw[l1,xA,l2,xA,l4,xA];simp only[iC,cellsOf,qF,bF,aE,kE,yaa,yab];have e6:((s.code++R.2)++⟨10,((s.code.length+R.2.length+1+G.2.length+1:Nat):Int),0⟩::(G.2++[(⟨9,0,0⟩:XIns)])).length=s.code.length+R.2.length+1+G.2.length+1:=by simp only[yah,yao,yay];omega
 have sd:=kM (key:=cA) (valid:=vB) d G.1 (s.code.length+R.2.length+1+G.2.length+1)
 rw[z3q,<- c2];refine hD _ t6 tf5 r5 _ _ hfd (((hg.mono k1).mono m1).mono (n1.trans c1)) (RD.mono ((k1.trans m1).trans (n1.trans c1)) _ _ l3) h6 (by show((s.code++R.2)++_::_).length+_<_;rw[e6];omega) (by show G.1.names.length+_<_;omega) (by show G.1.consts.length+_<_;omega) fun tf7 t7 r7 d1 d2 d3 d4=>?_
 have d4:TS cA tf7 t7 r7 (mE.put ⟨G.1.names,G.1.consts,s.ws,s.ts,(s.code++R.2)++⟨10,((s.code.length+R.2.length+1+G.2.length+1:Nat):Int),0⟩::(G.2++[(⟨9,0,0⟩:XIns)])⟩ (lB cA vB d G.1 ((s.code++R.2)++⟨10,((s.code.length+R.2.length+1+G.2.length+1:Nat):Int),0⟩::(G.2++[(⟨9,0,0⟩:XIns)])).length).1 (lB cA vB d G.1 ((s.code++R.2)++⟨10,((s.code.length+R.2.length+1+G.2.length+1:Nat):Int),0⟩::(G.2++[(⟨9,0,0⟩:XIns)])).length).2):=d4
 rw[e6]at d4;generalize eW:lB cA vB d G.1 (s.code.length+R.2.length+1+G.2.length+1)=W at *
 unfold mE.put at d4;simp only at d4
 have lw:W.2.length<=4*vE d:=sd.1
 have hb7:r7.b=r3.b:=by rw[d2,c2]
 have c5':Tgt tf7 r7.b v5 (s.code++R.2++[(⟨10,0,0⟩:XIns)]++G.2).length:=by
  rw[hb7];exact c5.mono d1
 have ecode2:((s.code++R.2)++⟨10,((s.code.length+R.2.length+1+G.2.length+1:Nat):Int),0⟩::(G.2++[(⟨9,0,0⟩:XIns)]))++W.2=((s.code++R.2)++⟨10,((s.code.length+R.2.length+1+G.2.length+1:Nat):Int),0⟩::G.2)++⟨9,0,0⟩::W.2:=by simp
 have e8:((s.code++R.2)++⟨10,((s.code.length+R.2.length+1+G.2.length+1:Nat):Int),0⟩::G.2).length=(s.code++R.2++[(⟨10,0,0⟩:XIns)]++G.2).length:=by simp
 have e9:(((s.code++R.2)++⟨10,((s.code.length+R.2.length+1+G.2.length+1:Nat):Int),0⟩::(G.2++[(⟨9,0,0⟩:XIns)]))++W.2).length=s.code.length+R.2.length+1+G.2.length+1+W.2.length:=by simp only[yah,yao,yay];omega
 refine wX (x:=⟨9,0,0⟩) d4 c5' (by show(_++W.2)[_]?=_;rw[ecode2];exact zge e8) (by show(_++W.2).length<_;rw[e9];omega) fun t9 h9=>?_
 refine hQ tf7 t9 r7 (k1.trans (m1.trans (n1.trans (c1.trans d1)))) (by rw[hb7,n2,m2,k2]) (by rw[d3,c3,n3,m3,k3]) ?_
 have h9:TS cA tf7 t9 r7 ⟨W.1.names,W.1.consts,s.ws,s.ts,(((s.code++R.2)++⟨10,((s.code.length+R.2.length+1+G.2.length+1:Nat):Int),0⟩::(G.2++[(⟨9,0,0⟩:XIns)]))++W.2).set (s.code++R.2++[(⟨10,0,0⟩:XIns)]++G.2).length ⟨9,((((s.code++R.2)++⟨10,((s.code.length+R.2.length+1+G.2.length+1:Nat):Int),0⟩::(G.2++[(⟨9,0,0⟩:XIns)]))++W.2).length:Nat),0⟩⟩:=h9
 rw[e9,ecode2,zb3 e8]at h9;unfold mE.put ifT;rw[eR,eG,eW];have el:s.code++(R.2++⟨10,((s.code.length+R.2.length+1+G.2.length+1:Nat):Int),0⟩::(G.2++⟨9,((s.code.length+R.2.length+1+G.2.length+1+W.2.length:Nat):Int),0⟩::W.2)) =
  ((s.code++R.2)++⟨10,((s.code.length+R.2.length+1+G.2.length+1:Nat):Int),0⟩::G.2)++⟨9,((s.code.length+R.2.length+1+G.2.length+1+W.2.length:Nat):Int),0⟩::W.2:=by simp
 rw[el];exact h9
theorem zwr{op:Nat}{name:List Nat}{v:xB}{args:List qA}{a b c:zA}{Q:bB}(ih:∀x∈args,bP x)(hfit:∀x∈args,x.fit)(hlen:args.length<lD):∀(l:List qA) (i:Nat) (t tf:Tr lA) (r:TR) (s:mE),args.drop i=l->bI tf->oA tf 9 (args.map qA.d) c->TS cA tf t r s->s.code.length+4*qJ l<300000->s.names.length+qJ l<300000->s.consts.length+qJ l<300000 →
  (∀tf' t' r',dA tf tf'->r'.b=r.b->r'.kp=r.kp->TS cA tf' t' r' (s.put (rD (uD cA vB l) s.nt s.code.length).1 (rD (uD cA vB l) s.nt s.code.length).2)->Wc yA F 170 [.ptr r.b 0,.agg (iC (.mk op name v args) a b c)] t' fun _ t''=>Q (.tup []) t'') →
  jp 104 4 [.ptr r.b 0,c,.int .i64 (args.length:Int),.int .i64 (i:Int),.int .u8 (op:Int),.str name,.int .u8 (v.kind:Int),.bool v.f.n.neg,a,.bool v.f.d.neg,b,.int .i64 v.i,c] t Q:=by
 unfold lD at hlen;intro l;induction l with
 | nil=>
  intro i t tf r s hl hg hc h _ _ _ hQ;have:=zY hl
  refine z2e _ _ _ _ _ _ _ _ _ _ _ _ _ ?_
  simp only[zsm,pA,jB];rw[if_neg (by omega),q170]
  refine hQ tf t r (dA.refl _) rfl rfl ?_
  have:s.put (rD (uD cA vB []) s.nt s.code.length).1 (rD (uD cA vB []) s.nt s.code.length).2=s:=by
   simp[uD,rD,mE.put,mE.nt]
  rw[this];exact h
 | cons x l ihl=>
  intro i t tf r s hl hg hc h b1 b2 b3 hQ;obtain⟨h1,h2,h3⟩:=yY hl
  have hx:=ybw h1
  obtain⟨p,o,x1,x2,x3,g1,g2,g3,g4,g5,g6,g7⟩:=tV hc h.os.tle h1
  refine z2e _ _ _ _ _ _ _ _ _ _ _ _ _ ?_
  simp only[zsm,pA,jB];rw[if_pos (by omega),g1,xA,g2,xA,g4,xA]
  simp only[iC,cellsOf,qF,bF,aE,kE,yaa,yab];refine aA (zfv g5.one g6.one g7.one) ?_
  unfold qJ at b1 b2 b3;have sx:=kM (key:=cA) (valid:=vB) x s.nt s.code.length
  rw[z3q];refine ih x hx _ t tf r s _ (hfit x hx) hg g3 h (by omega) (by omega) (by omega) fun tf1 t1 r1 k1 k2 k3 k4=>?_
  rw[zC (by omega) (by omega),show(i:Int)+1=((i+1:Nat):Int) by omega,<- k2]
  have sx1:(lB cA vB x s.nt s.code.length).1.names.length<=s.names.length+vE x:=sx.2.1
  have sx2:(lB cA vB x s.nt s.code.length).1.consts.length<=s.consts.length+vE x:=sx.2.2
  have sx3:=sx.1
  refine ihl (i+1) t1 tf1 r1 _ h2 (hg.mono k1) (hc.mono k1) k4 (by show(s.code++_).length+_<_;rw[yah];omega) (by show(lB cA vB x s.nt s.code.length).1.names.length+_<_;omega) (by show(lB cA vB x s.nt s.code.length).1.consts.length+_<_;omega) fun tf2 t2 r2 m1 m2 m3 m4=>?_
  rw[k2];refine hQ tf2 t2 r2 (k1.trans m1) (m2.trans k2) (m3.trans k3) ?_
  have e:s.put (rD (uD cA vB (x::l)) s.nt s.code.length).1 (rD (uD cA vB (x::l)) s.nt s.code.length).2 =
    (s.put (lB cA vB x s.nt s.code.length).1 (lB cA vB x s.nt s.code.length).2).put (rD (uD cA vB l) (s.put (lB cA vB x s.nt s.code.length).1 (lB cA vB x s.nt s.code.length).2).nt (s.put (lB cA vB x s.nt s.code.length).1 (lB cA vB x s.nt s.code.length).2).code.length).1
     (rD (uD cA vB l) (s.put (lB cA vB x s.nt s.code.length).1 (lB cA vB x s.nt s.code.length).2).nt (s.put (lB cA vB x s.nt s.code.length).1 (lB cA vB x s.nt s.code.length).2).code.length).2:=by
   simp[uD,rD,mE.put,mE.nt]
  rw[e];exact m4
theorem z5e{op:Nat}{name:List Nat}{v:xB}{args:List qA}(ih:∀x∈args,bP x):bP (.mk op name v args):=by
 intro cs t tf r s Q hfit hg hrd h b1 b2 b3 hQ;obtain⟨a,b,c,rfl,ha,hb,hc⟩:=jL hrd
 simp only[qA.op,qA.name,qA.v,qA.args]at ha hb hc;have hfit':=hfit
 unfold qA.fit at hfit';obtain⟨f1,f2,_,f3,f4,f5⟩:=hfit'
 have ffit:=qA.fits_mem f5
 have hform:=zvl hfit (hg.mono h.os.tle) (ha.mono h.os.tle) (hb.mono h.os.tle) (hc.mono h.os.tle)
 unfold vE at b1 b2 b3;have etr:lB cA vB (.mk op name v args) s.nt s.code.length=mJ cA vB op name v (uD cA vB args) s.nt s.code.length:=by rw[lB]
 rw[etr]at hQ;unfold mJ at hQ;rw[zjv]at hQ;refine w104 _ _ _ _ _ _ _ _ _ _ ?_
 have hform':zD yA F 167 [.agg [.int .u8 (op:Int),.str name,.int .u8 (v.kind:Int),.bool v.f.n.neg,a,.bool v.f.d.neg,b,.int .i64 v.i,c]] t=some (.bool (mH vB op v args.length)):=hform
 have pos:∀ {k:Nat} {x y:T} {Q:bB},op=k->wp 104 x t Q->wp 104 (.ite (wA (op:Int) (k:Int)) x y) t Q:=fun h hx=>aA (nE.2 (by omega)) hx
 have neg:∀ {k:Nat} {x y:T} {Q:bB},op≠k->wp 104 y t Q->wp 104 (.ite (wA (op:Int) (k:Int)) x y) t Q:=fun h hy=>yC (fun e=>absurd (nE.1 e) (by omega)) hy
 unfold t104;simp only[qA.op,qA.name,qA.v,qA.args];show Wq yA F xJ 167 _ t _
 rw[q167,hform',xA];show uH (zA.asBool (.bool (mH vB op v args.length))) _
 rw[qD,xA]
 cases hf:mH vB op v args.length with
 | false=>
  rw[if_pos hf]at hQ;refine aA rfl ?_
  show Wq yA F xJ 168 _ t _
  rw[z1f];exact mS (i:=⟨13,0,0⟩) h (by omega) fun tf' t' r' v' k1 k2 k3 k4 _=>hQ tf' t' r' k1 k2 k3 k4
 | true=>
  rw[if_neg (by rw[hf];simp)]at hQ
  refine yC (by simp) ?_
  have hn:=hf
  unfold mH at hn;simp only[yac,decide_eq_true_eq]at hn;by_cases c15:op=15
  ·refine pos c15 ?_
   rw[if_pos c15]at hQ;subst c15;have h2:args.length=2:=by have h1:=hn.1.2;have h2:=hn.2;simp[gF]at h1 h2;omega
   match args,h2 with
   | [x,y],_=>
    simp only[qJ]at b1 b2 b3;refine aA rfl ?_
    show Wq yA F xJ 169 _ t _
    rw[q169];exact dZ (skip:=10) (truth:=0) (op:=15) (name:=name) (v:=v) (ih x (by simp)) (ih y (by simp)) rfl rfl (ffit x (by simp)) (ffit y (by simp)) hg hc h ⟨by decide,by decide⟩ (by omega) (by omega) (by omega) hQ
  ·refine neg c15 ?_
   rw[if_neg c15]at hQ;by_cases c16:op=16
   ·refine pos c16 ?_
    rw[if_pos c16]at hQ;subst c16;have h2:args.length=2:=by have h1:=hn.1.2;have h2:=hn.2;simp[gF]at h1 h2;omega
    match args,h2 with
    | [x,y],_=>
     simp only[qJ]at b1 b2 b3;refine aA rfl ?_
     show Wq yA F xJ 169 _ t _
     rw[q169];exact dZ (skip:=11) (truth:=1) (op:=16) (name:=name) (v:=v) (ih x (by simp)) (ih y (by simp)) rfl rfl (ffit x (by simp)) (ffit y (by simp)) hg hc h ⟨by decide,by decide⟩ (by omega) (by omega) (by omega) hQ
   ·refine neg c16 ?_
    rw[if_neg c16]at hQ;by_cases c18:op=18
    ·refine pos c18 ?_
     rw[if_pos c18]at hQ;subst c18;have h2:args.length=3:=by have h1:=hn.1.2;have h2:=hn.2;simp[gF]at h1 h2;omega
     match args,h2 with
     | [x,y,z],_=>
      simp only[qJ]at b1 b2 b3;exact if_ok (ih x (by simp)) (ih y (by simp)) (ih z (by simp)) rfl (ffit x (by simp)) (ffit y (by simp)) (ffit z (by simp)) hg hc h (by omega) (by omega) (by omega) hQ
    ·refine neg c18 ?_
     rw[if_neg c18]at hQ;have hl:rB c=some (.int .i64 (args.length:Int)):=by rw[hc.len,yag]
     show uH (rB c) _
     rw[hl,xA];show uH (zzj .i64 (.int .i64 (args.length:Int))) _
     rw[zB,xA];refine zwr (op:=op) (name:=name) (v:=v) (a:=a) (b:=b) ih ffit f4 args 0 t tf r s (ybs) hg hc h (by omega) (by omega) (by omega) fun tf1 t1 r1 k1 k2 k3 k4=>?_
     have sq:=zbx (key:=cA) (valid:=vB) args (fun x _=>kM x) s.nt s.code.length
     have sq1:(rD (uD cA vB args) s.nt s.code.length).1.names.length<=s.names.length+qJ args:=sq.2.1
     have sq2:(rD (uD cA vB args) s.nt s.code.length).1.consts.length<=s.consts.length+qJ args:=sq.2.2
     rw[<- k2];refine zhz (x:=.mk op name v args) k4 hfit (fun e=>?_) (by show(rD (uD cA vB args) s.nt s.code.length).1.names.length<_;omega) (by show(rD (uD cA vB args) s.nt s.code.length).1.consts.length<_;omega) (by show(s.code++_).length<_;rw[yah];have:=sq.1;omega) (ha.mono k1) (hb.mono k1) (hc.mono k1) fun tf2 t2 r2 m1 m2 m3 m4=>?_
     ·have e:op=1:=e
      have:=hn.1.1
      rw[e]at this;simp at this;exact zbj this
     ·refine hQ tf2 t2 r2 (k1.trans m1) (m2.trans k2) (m3.trans k3) ?_
      have e:s.put (pE cA op name v args.length (rD (uD cA vB args) s.nt s.code.length).1).1 ((rD (uD cA vB args) s.nt s.code.length).2++[(pE cA op name v args.length (rD (uD cA vB args) s.nt s.code.length).1).2]) =
        (s.put (rD (uD cA vB args) s.nt s.code.length).1 (rD (uD cA vB args) s.nt s.code.length).2).put (pE cA op name v args.length (s.put (rD (uD cA vB args) s.nt s.code.length).1 (rD (uD cA vB args) s.nt s.code.length).2).nt).1 [(pE cA op name v args.length (s.put (rD (uD cA vB args) s.nt s.code.length).1 (rD (uD cA vB args) s.nt s.code.length).2).nt).2]:=by
       simp[mE.put,mE.nt]
      show TS cA tf2 t2 r2 (s.put _ _)
      rw[e];exact m4
mutual
theorem zn1:∀x:qA,bP x
 | .mk _ _ _ args=>z5e (zis args)
theorem zis:∀l:List qA,∀x∈l,bP x
 | [],x,h=>by cases h
 | y::l,x,h=>by
  rcases yat.1 h with e | h
  ·rw[e];exact zn1 y
  ·exact zis l x h
end
end Go.Proofs
