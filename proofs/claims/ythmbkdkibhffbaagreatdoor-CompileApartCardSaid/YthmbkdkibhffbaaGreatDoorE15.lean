/- Several things in memory, each with blocks of its own; one of them changes. -/
import Derived.Lib.ItoaLen
import Derived.Test.YthmbkdkibhffbaaGreatDoorE14
set_option linter.all false
noncomputable section
namespace Go.Am
open Go Go.RowKit
structure zD where
 blks:List Nat
 ok:Tr lA->Tr lA->Prop
 keep:∀ {tf t tf' t':Tr lA},ok tf t->dA tf tf'->(∀k∈blks,t'.get k=t.get k/\tf'.get k=none)->ok tf' t'
 live:∀ {tf t:Tr lA},ok tf t->∀k∈blks,∃y,t.get k=some y
structure Objs (base:Nat) (tf t:Tr lA) (l:List zD):Prop where
 tle:dA tf t
 nodup:(l.flatMap zD.blks).Nodup
 ok:∀o∈l,o.ok tf t
 low:∀k∈l.flatMap zD.blks,base<=k/\tf.get k=none
def zE (v:zA):List Nat:=match v with | .slice b _ _ _=>[b] | _=>[]
theorem cK{v:zA}{k:Nat}:k∈zE v ↔ pJ v k:=by
 unfold zE pJ;split
 ·rename_i b o n c
  constructor
  ·intro h;rw[yce]at h;subst h;exact⟨_,_,_,rfl⟩
  ·rintro⟨o',n',c',e⟩;cases e;simp
 ·rename_i h
  constructor
  ·intro h;cases h
  ·rintro⟨o,n,c,e⟩;exact absurd e (h _ _ _ _)
def eC (b:Nat)(lo:Option Nat)(cs:List zA):zD where
 blks:=[b]
 ok:=fun _ t=>vD t b lo cs
 keep:=fun h _ k=>h.off (k b (by simp)).1
 live:=fun h k hk=>by rw[yce]at hk;subst hk;obtain⟨c,hc,_⟩:=h;exact⟨_,hc⟩
def cD (b:Nat)(l:List (zA × zA)):zD where
 blks:=[b]
 ok:=fun _ t=>t.get b=some (.map l)
 keep:=fun h _ k=>by rw[(k b (by simp)).1];exact h
 live:=fun h k hk=>by rw[yce]at hk;subst hk;exact⟨_,h⟩
def jB(base sz:Nat)(l:List D)(v:zA):zD where
 blks:=zE v
 ok:=fun tf t=>Loose base tf t sz l v
 keep:=fun h hf k=>h.keep hf fun b hb=>k b (cK.2 hb)
 live:=fun h k hk=>(h.none (cK.1 hk)).2.2
section
variable {base:Nat}{tf t:Tr lA}{l A B:List zD}{o o':zD}
theorem Objs.live(h:Objs base tf t l){k:Nat}(hk:k∈l.flatMap zD.blks):∃y,t.get k=some y:=by
 obtain⟨o,ho,hk⟩:=List.mem_flatMap.1 hk
 exact o.live (h.ok o ho) k hk
theorem Objs.fresh(h:Objs base tf t l){n:Nat}(hn:t.get n=none):n∉l.flatMap zD.blks:=by
 intro hm;obtain⟨y,hy⟩:=h.live hm
 rw[hn]at hy;cases hy
theorem Objs.tfn(h:Objs base tf t l){n:Nat}(hn:t.get n=none):tf.get n=none:=by
 cases hq:tf.get n with
 | none=>rfl
 | some y=>have:=h.tle _ _ hq;rw[hn]at this;cases this
theorem Objs.keep(h:Objs base tf t l){tf' t':Tr lA}(hf:dA tf tf')(ht:dA tf' t')(hk:∀k∈l.flatMap zD.blks,t'.get k=t.get k/\tf'.get k=none):Objs base tf' t' l:=
 ⟨ht,h.nodup,fun o ho=>o.keep (h.ok o ho) hf fun k hk'=>hk k (List.mem_flatMap.2 ⟨o,ho,hk'⟩),fun k hk'=>⟨(h.low k hk').1,(hk k hk').2⟩⟩
theorem Objs.junk(h:Objs base tf t l){n:Nat}{t':Tr lA}(hn:t.get n=none)(ho:oD n t t'):Objs base tf t' l:=
 h.keep (dA.refl _) (h.tle.off (h.tfn hn) ho) fun k hk=>⟨ho k (fun e:k=n=>h.fresh hn (e ▸ hk)),(h.low k hk).2⟩
theorem Objs.other(h:Objs base tf t l){n:Nat}{t':Tr lA}(hn:n∉l.flatMap zD.blks)(hf:tf.get n=none)(ho:oD n t t'):Objs base tf t' l:=
 h.keep (dA.refl _) (h.tle.off hf ho) fun k hk=>⟨ho k (fun e:k=n=>hn (e ▸ hk)),(h.low k hk).2⟩
theorem Objs.froze(h:Objs base tf t l){n:Nat}{y:lA}(hn:n∉l.flatMap zD.blks)(hy:t.get n=some y)(hf:tf.get n=none):Objs base (tf.set n y) t l/\dA tf (tf.set n y):=by
 have h1:=(uJ (t:=tf) hf y).1
 refine⟨h.keep h1 (fun k u hk=>?_) fun k hk=>⟨rfl,?_⟩,h1⟩
 ·rw[Tr.get_set]at hk
  split at hk
  ·rename_i e;subst e;cases hk;exact hy
  ·exact h.tle _ _ hk
 ·rw[Tr.get_set,if_neg (fun e:k=n=>hn (e ▸ hk))];exact(h.low k hk).2
theorem nS:(A++o::B).flatMap zD.blks=A.flatMap zD.blks++(o.blks++B.flatMap zD.blks):=by simp
theorem Objs.upd(h:Objs base tf t (A++o::B)){t':Tr lA}(hk:∀k,k∉o.blks->k∉o'.blks->t'.get k=t.get k)(hn:∀k∈o'.blks,k∈o.blks\/(t.get k=none/\base<=k))(hok:o'.ok tf t')(hnd:o'.blks.Nodup)(ht:dA tf t'):Objs base tf t' (A++o'::B):=by
 have hd:=h.nodup
 rw[nS]at hd;rw[List.nodup_append]at hd;obtain⟨d1,d2,d3⟩:=hd
 rw[List.nodup_append]at d2;obtain⟨d4,d5,d6⟩:=d2
 have oth:∀k,k∈A.flatMap zD.blks\/k∈B.flatMap zD.blks->k∉o.blks/\k∉o'.blks/\t'.get k=t.get k/\base<=k/\tf.get k=none:=by
  intro k hk';have hm:k∈(A++o::B).flatMap zD.blks:=by rw[nS];simp only[List.mem_append];rcases hk' with h | h<;>simp[h]
  have h1:k∉o.blks:=fun hc=>by
   rcases hk' with h' | h'
   ·exact d3 k h' k (by simp[hc]) rfl
   ·exact d6 k hc k h' rfl
  have h2:k∉o'.blks:=fun hc=>by
   rcases hn k hc with h' | h'
   ·exact h1 h'
   ·obtain⟨y,hy⟩:=h.live hm
    rw[h'.1]at hy;cases hy
  exact⟨h1,h2,hk k h1 h2,h.low k hm⟩
 have mem:∀k,k∈(A++o'::B).flatMap zD.blks->(k∈A.flatMap zD.blks\/k∈B.flatMap zD.blks)\/k∈o'.blks:=by
  intro k hk';rw[nS]at hk'
  simp only[List.mem_append]at hk'
  rcases hk' with h | h | h
  ·exact .inl (.inl h)
  ·exact .inr h
  ·exact .inl (.inr h)
 refine⟨ht,?_,fun p hp=>?_,fun k hk'=>?_⟩
 ·rw[nS,List.nodup_append]
  refine⟨d1,?_,fun x hx y hy e=>?_⟩
  ·rw[List.nodup_append]
   exact⟨hnd,d5,fun x hx y hy e=>(oth y (.inr hy)).2.1 (e ▸ hx)⟩
  ·subst e
   rcases List.mem_append.1 hy with h' | h'
   ·exact(oth x (.inl hx)).2.1 h'
   ·exact d3 x hx x (by simp[h']) rfl
 ·have hp':p∈A\/p=o'\/p∈B:=by simpa using hp
  rcases hp' with h' | h' | h'
  ·exact p.keep (h.ok p (by simp[h'])) (dA.refl _) fun k hk'=>by
    obtain⟨_,_,e,_,f⟩:=oth k (.inl (List.mem_flatMap.2 ⟨p,h',hk'⟩));exact⟨e,f⟩
  ·subst h';exact hok
  ·exact p.keep (h.ok p (by simp[h'])) (dA.refl _) fun k hk'=>by
    obtain⟨_,_,e,_,f⟩:=oth k (.inr (List.mem_flatMap.2 ⟨p,h',hk'⟩));exact⟨e,f⟩
 ·rcases mem k hk' with h' | h'
  ·obtain⟨_,_,_,e,f⟩:=oth k h';exact⟨e,f⟩
  ·rcases hn k h' with h'' | h''
   ·exact h.low k (by rw[nS];simp[h''])
   ·exact⟨h''.2,h.tfn h''.1⟩
def z0d:zD:=⟨[],fun _ _=>True,fun _ _ _=>trivial,fun _ _ h=>by cases h⟩
theorem Objs.add(h:Objs base tf t (A++B)){t':Tr lA}(hk:∀k,k∉o'.blks->t'.get k=t.get k)(hn:∀k∈o'.blks,t.get k=none/\base<=k)(hok:o'.ok tf t')(hnd:o'.blks.Nodup)(ht:dA tf t'):Objs base tf t' (A++o'::B):=by
 have e:Objs base tf t (A++z0d::B):=by
  have hm:(A++z0d::B).flatMap zD.blks=(A++B).flatMap zD.blks:=by simp[z0d]
  refine⟨h.tle,by rw[hm];exact h.nodup,fun o ho=>?_,fun k hk=>h.low k (by rw[hm]at hk;exact hk)⟩
  have:o∈A\/o=z0d\/o∈B:=by simpa using ho
  rcases this with h' | h' | h'
  ·exact h.ok o (by simp[h'])
  ·subst h';trivial
  ·exact h.ok o (by simp[h'])
 exact e.upd (fun k _ h2=>hk k h2) (fun k hk=>.inr (hn k hk)) hok hnd ht
theorem Objs.drop(h:Objs base tf t (A++o::B)):Objs base tf t (A++B):=by
 have hd:=h.nodup
 rw[nS]at hd;refine⟨h.tle,?_,fun p hp=>h.ok p (by rcases List.mem_append.1 hp with h | h<;>simp[h]),fun k hk=>h.low k (by rw[nS];rw[List.flatMap_append]at hk;rcases List.mem_append.1 hk with h | h<;>simp[h])⟩
 rw[List.flatMap_append];rw[List.nodup_append]at hd ⊢
 obtain⟨d1,d2,d3⟩:=hd
 rw[List.nodup_append]at d2;exact⟨d1,d2.2.1,fun x hx y hy e=>d3 x hx y (by simp[hy]) e⟩
theorem Objs.notin(h:Objs base tf t (A++o::B)){k:Nat}(hk:k∈o.blks):k∉(A++B).flatMap zD.blks:=by
 have hd:=h.nodup
 rw[nS,List.nodup_append]at hd;obtain⟨d1,d2,d3⟩:=hd
 rw[List.nodup_append]at d2;rw[List.flatMap_append];intro hm;rcases List.mem_append.1 hm with h' | h'
 ·exact d3 k h' k (by simp[hk]) rfl
 ·exact d2.2.2 k hk k h' rfl
theorem Objs.freezeL{sz:Nat}{m:List D}{v:zA}(h:Objs base tf t (A++jB base sz m v::B)):∃tf',dA tf tf'/\Objs base tf' t (A++B)/\oA tf' sz m v:=by
 have hl:Loose base tf t sz m v:=h.ok (jB base sz m v) (by simp)
 obtain⟨tf',h1,h2,h3,h4⟩:=hl.freeze h.tle
 refine⟨tf',h1,h.drop.keep h1 h2 fun k hk=>⟨rfl,?_⟩,h3⟩
 have hb:¬ pJ v k:=fun hb=>h.notin (o:=jB base sz m v) (cK.2 hb) hk
 rw[h4 k hb];exact(h.drop.low k hk).2
end
end Go.Am
set_option maxRecDepth 100000
namespace Go.Proofs
open Go Go.Am
variable [cC]
variable {t tf:Tr lA}
def _root_.Go.Am.XIns.d(i:XIns):D:=.st [.int .u8 i.op,.int .i64 i.a,.int .i64 i.b]
def _root_.Go.Am.XIns.cells(i:XIns):List zA:=[.int .u8 i.op,.int .i64 i.a,.int .i64 i.b]
theorem zuq{i:XIns}{cs:List zA}:RD t i.d cs ↔ cs=i.cells:=by
 unfold XIns.d XIns.cells;simp only[gI,eD,gE,fL];constructor
 ·rintro⟨cl,rfl,c,r,rfl,rfl,c',r',rfl,rfl,c'',r'',rfl,rfl,rfl⟩;rfl
 ·rintro rfl;exact⟨[[.int .u8 i.op],[.int .i64 i.a],[.int .i64 i.b]],rfl,_,_,rfl,rfl,_,_,rfl,rfl,_,_,rfl,rfl,rfl⟩
def aD:Nat->List (List Nat)->List (zA × zA)
 | _,[]=>[]
 | i,k::l=>(.str k,.int .i64 (i:Int))::aD (i+1) l
theorem zi9{a b:List Nat}:zja (.str a) (.str b)=some (decide (a=b)):=by
 unfold zja;simp only[zA.asIntK,zA.asStr,sA];congr 1
 cases h:oK a b with
 | true=>rw[decide_eq_true ((sP _ _).1 h)]
 | false=>rw[decide_eq_false (fun e=>by rw[(sP _ _).2 e]at h;cases h)]
theorem zfh{k:List Nat}:∀(l:List (List Nat)) (i:Nat),zg4 (.str k) (aD i l)=some (if k∈l then some (.int .i64 ((i+kI k l:Nat):Int))else none)
 | [],i=>by simp[aD,zg4]
 | x::l,i=>by
  unfold aD zg4 kI;rw[zi9,sA];by_cases h:k=x
  ·simp[h]
  ·simp only[h,decide_false,cond_false,if_false,yat,false_or]
   rw[zfh l (i+1)]
   rw[show i+1+kI k l=i+(kI k l+1) by omega]
theorem za0{k:List Nat}:∀(l:List (List Nat)) (i:Nat),k∉l->xR (.str k) (.int .i64 ((i+l.length:Nat):Int)) (aD i l)=some (aD i (l++[k]))
 | [],i,_=>by simp[aD,xR]
 | x::l,i,h=>by
  simp only[List.cons_append,aD];unfold xR;rw[zi9,sA];have h1:k≠x:=fun e=>h (e ▸ yaz)
  have:=za0 l (i+1) (fun m=>h (yas _ m))
  simp only[h1,decide_false,cond_false];rw[yao,show i+(l.length+1)=i+1+l.length by omega,this,sA]
structure TR where
 b:Nat
 pl:List zA
 vn:zA
 vc:zA
 vw:zA
 vt:zA
 vk:zA
 m1:Nat
 m2:Nat
def TR.kp(r:TR):List zA × zA × zA:=(r.pl,r.vw,r.vt)
structure iE where
 names:List (List Nat)
 consts:List zB
 ws:List D
 ts:List D
 code:List XIns
abbrev bs:Nat:=yA.base
def TR.cells(r:TR):List zA:=r.pl++[r.vn,r.vc,r.vw,r.vt,.map r.m1,.map r.m2,r.vk]
def tsL (key:zB->List Nat)(r:TR)(s:iE):List zD:=
 [eC r.b none r.cells,cD r.m1 (aD 0 s.names),cD r.m2 (aD 0 (s.consts.map key)),jB yA.base 1 (s.names.map D.str) r.vn,jB yA.base 6 (s.consts.map zB.d) r.vc,jB yA.base 1 s.ws r.vw,jB yA.base 1 s.ts r.vt,jB yA.base 3 (s.code.map XIns.d) r.vk]
structure TS (key:zB->List Nat) (tf t:Tr lA) (r:TR) (s:iE):Prop where
 pl:r.pl.length=4
 os:Objs yA.base tf t (tsL key r s)
section
variable {key:zB->List Nat}{r:TR}{s:iE}
theorem TS.cel(h:TS key tf t r s):vD t r.b none r.cells:=h.os.ok (eC r.b none r.cells) (by simp[tsL])
theorem TS.map1(h:TS key tf t r s):t.get r.m1=some (.map (aD 0 s.names)):=h.os.ok (cD r.m1 (aD 0 s.names)) (by simp[tsL])
theorem TS.map2(h:TS key tf t r s):t.get r.m2=some (.map (aD 0 (s.consts.map key))):=h.os.ok (cD r.m2 (aD 0 (s.consts.map key))) (by simp[tsL])
theorem TS.ln(h:TS key tf t r s):Loose yA.base tf t 1 (s.names.map D.str) r.vn:=h.os.ok (jB yA.base 1 (s.names.map D.str) r.vn) (by simp[tsL])
theorem TS.lc(h:TS key tf t r s):Loose yA.base tf t 6 (s.consts.map zB.d) r.vc:=h.os.ok (jB yA.base 6 (s.consts.map zB.d) r.vc) (by simp[tsL])
theorem TS.lk(h:TS key tf t r s):Loose yA.base tf t 3 (s.code.map XIns.d) r.vk:=h.os.ok (jB yA.base 3 (s.code.map XIns.d) r.vk) (by simp[tsL])
theorem TS.baseB(h:TS key tf t r s):yA.base<=r.b/\tf.get r.b=none:=h.os.low r.b (by simp[tsL,eC])
theorem TS.inB{key:zB->List Nat}{r:TR}{s:iE}:r.b∈(tsL key r s).flatMap zD.blks:=by simp[tsL,eC]
theorem TS.junk(h:TS key tf t r s){n:Nat}{t':Tr lA}(hn:t.get n=none)(ho:oD n t t'):TS key tf t' r s:=⟨h.pl,h.os.junk hn ho⟩
theorem TS.other(h:TS key tf t r s){n:Nat}{t':Tr lA}(hn:n∉(tsL key r s).flatMap zD.blks)(hf:tf.get n=none)(ho:oD n t t'):TS key tf t' r s:=⟨h.pl,h.os.other hn hf ho⟩
theorem TS.fresh(h:TS key tf t r s){n:Nat}(hn:t.get n=none):n∉(tsL key r s).flatMap zD.blks:=h.os.fresh hn
theorem TS.froze(h:TS key tf t r s){n:Nat}{y:lA}(hn:n∉(tsL key r s).flatMap zD.blks)(hy:t.get n=some y)(hf:tf.get n=none):TS key (tf.set n y) t r s/\dA tf (tf.set n y):=⟨⟨h.pl,(h.os.froze hn hy hf).1⟩,(h.os.froze hn hy hf).2⟩
theorem zcj{p:List zA}(h:p.length=4){l:List zA}{k:Nat}:(p++l)[4+k]?=l[k]?:=by
 rw[yaq (by omega)];congr 1;omega
theorem wS{p:List zA}(h:p.length=4){l:List zA}{k:Nat}{v:zA}:(p++l).set (4+k) v=p++l.set k v:=by
 rw[List.set_append_right _ _ (by omega)];congr 1;congr 1;omega
theorem TS.ldN(h:TS key tf t r s):jA yA 30 ⟨0,t⟩ (.ptr r.b 4)=some r.vn:=h.cel.load1 z4k rfl (zcj (k:=0) h.pl)
theorem TS.ldC(h:TS key tf t r s):jA yA 31 ⟨0,t⟩ (.ptr r.b 5)=some r.vc:=h.cel.load1 z2f rfl (zcj (k:=1) h.pl)
theorem TS.ldM1(h:TS key tf t r s):jA yA 107 ⟨0,t⟩ (.ptr r.b 8)=some (.map r.m1):=h.cel.load1 zy6 rfl (zcj (k:=4) h.pl)
theorem TS.ldM2(h:TS key tf t r s):jA yA 107 ⟨0,t⟩ (.ptr r.b 9)=some (.map r.m2):=h.cel.load1 zy6 rfl (zcj (k:=5) h.pl)
theorem TS.ldK(h:TS key tf t r s):jA yA 37 ⟨0,t⟩ (.ptr r.b 10)=some r.vk:=h.cel.load1 zrr rfl (zcj (k:=6) h.pl)
end
theorem mV{b:Nat}:uC yA 109 3 (.ptr b 0)=some (.ptr b 10):=by kernel_rfl
theorem tO{b:Nat}:uC yA 109 0 (.ptr b 0)=some (.ptr b 0):=by kernel_rfl
theorem z6u{b:Nat}:uC yA 109 1 (.ptr b 0)=some (.ptr b 8):=by kernel_rfl
theorem z6t{b:Nat}:uC yA 109 2 (.ptr b 0)=some (.ptr b 9):=by kernel_rfl
theorem zdf{b:Nat}:uC yA 34 1 (.ptr b 0)=some (.ptr b 4):=by kernel_rfl
theorem zde{b:Nat}:uC yA 34 2 (.ptr b 0)=some (.ptr b 5):=by kernel_rfl
theorem z31{b:Nat}:uC yA 34 3 (.ptr b 0)=some (.ptr b 6):=by kernel_rfl
theorem zxb{b:Nat}:uC yA 34 4 (.ptr b 0)=some (.ptr b 7):=by kernel_rfl
theorem zJ{b o:Nat}:lG (.ptr b o)=some (.ptr b o):=by kernel_rfl
theorem znq{d b o:Nat}:same d (.ptr b o) (.ptr b o)=true:=by
 have e:∀n,Nat.beq n n=true:=Nat.beq_refl
 cases d <;> (unfold Am.same;simp only[e,Bool.and_self])
end Go.Proofs
namespace Go.Proofs
open Go Go.Am
variable [cC]
variable {t tf:Tr lA}{key:zB->List Nat}{r:TR}{s:iE}
theorem el37:eI yA 37 54 3:=⟨⟨_,zrr,rfl,rfl⟩,⟨_,ty54,rfl,rfl,by decide,by decide⟩⟩
theorem z5v{n:Nat}{i:XIns}(hn:t.get n=none):∃t',fE yA 37 1 [(0,.agg [.int .u8 i.op,.int .i64 i.a,.int .i64 i.b])] ⟨n,t⟩=some (.slice n 0 1 1,⟨n+1,t'⟩)/\fG t' 3 (.slice n 0 1 1) [i.cells]/\dA t t'/\oD n t t':=
 bO (C:=yA) (T:=37) (el:=54) (sz:=3) (n:=1) (cl:=[i.cells]) zrr rfl ty54 rfl rfl (by decide) rfl (fun k cs hk=>by
  cases k with
  | zero=>simp at hk;subst hk;rfl
  | succ k=>simp at hk) rfl hn
def Tgt (tf:Tr lA)(b:Nat)(v:zA)(i:Nat):Prop:=∃n m,v=.func (.func 232) [] [.ptr n 0,.ptr m 0]/\vD tf n none [.ptr b 0]/\vD tf m none [.int .i64 (i:Int)]
theorem Tgt.mono{tf':Tr lA}{b i:Nat}{v:zA}(h:Tgt tf b v i)(hf:dA tf tf'):Tgt tf' b v i:=by
 obtain⟨n,m,rfl,⟨c,h1,h2⟩,⟨d,h3,h4⟩⟩:=h
 exact⟨n,m,rfl,⟨c,hf _ _ h1,h2⟩,⟨d,hf _ _ h3,h4⟩⟩
theorem yT{i:XIns}{Q:kB}(h:TS key tf t r s)(hl:s.code.length<300000)
  (hQ:∀tf' t' r' v,dA tf tf'->r'.b=r.b->r'.kp=r.kp->TS key tf' t' r' ⟨s.names,s.consts,s.ws,s.ts,s.code++[i]⟩->Tgt tf' r.b v s.code.length->Q v t'):Wc yA F 168 [.ptr r.b 0,.int .u8 i.op,.int .i64 i.a,.int .i64 i.b] t Q:=by
 refine w168 _ _ _ _ ?_
 simp only[t168,qA];intro n0 hn0 hb0;obtain⟨t1,a1,a2,a3,a4⟩:=zx5 (v:=.ptr r.b 0) hn0
 have h1:=h.junk hn0 a4
 have a2:vD t1 n0 none [.ptr r.b 0]:=a2
 have l0:∀t',t'.get n0=t1.get n0->jA yA 106 ⟨0,t'⟩ (.ptr n0 0)=some (.ptr r.b 0):=fun t' e=>(a2.off e).load1 ty106 rfl rfl
 rw[a1,xA,l0 t1 rfl,xA,zJ,xA,mV,xA,h1.ldK,xA,h1.lk.len,xA,yag,yB,xA];intro n1 hn1 hb1;obtain⟨t2,b1,b2,b3,b4⟩:=rU (C:=yA) ty3 hn1
 have h2:=h1.junk hn1 b4
 have ne01:n0≠n1:=by
  intro e;subst e;obtain⟨c,hc,_⟩:=a2
  rw[hc]at hn1;cases hn1
 rw[b1,xA];intro m2 _ _;obtain⟨t3,c1,c2,c3⟩:=b2.store1 (C:=yA) hb1 (j:=0) (v:=.int .i64 (s.code.length:Int)) ty3 rfl rfl rfl (by decide)
 have c2:vD t3 n1 none [.int .i64 (s.code.length:Int)]:=c2
 have h3:TS key tf t3 r s:=h2.other (h1.fresh hn1) (h1.os.tfn hn1) c3
 have e03:t3.get n0=t1.get n0:=by rw[c3 n0 ne01,b4 n0 ne01]
 rw[c1,xA,l0 t3 e03,xA];simp only[l0 t3 e03,xA,zJ,mV,h3.ldK,if_true];intro n3 hn3 hb3;obtain⟨t4,d1,d2,d3,d4⟩:=z5v (i:=i) hn3
 have h4:=h3.junk hn3 d4
 have ne03:n0≠n3:=by
  intro e;subst e;obtain⟨c,hc,_⟩:=a2
  rw[e03,hc]at hn3;cases hn3
 have ne13:n1≠n3:=by
  intro e;subst e;obtain⟨c,hc,_⟩:=c2
  rw[hc]at hn3;cases hn3
 have e04:t4.get n0=t1.get n0:=by rw[d4 n0 ne03,e03]
 rw[d1,xA];simp only[l0 t4 e04,xA,znq,if_true,h4.ldK,h4.lk.same];intro n4 hn4 hb4;obtain⟨t5,f1,f2,f3,f4⟩:=cS (C:=yA) el37 (m:=[i.d]) h4.lk d2 (by
  rw[eD];exact⟨_,_,rfl,zuq.2 rfl,gE.2 rfl⟩) (by
  intro a ha;simp only[XIns.cells,List.flatten_cons,List.flatten_nil,ybe,yat,List.not_mem_nil,or_false]at ha;rcases ha with rfl | rfl | rfl<;>rfl) (by simp) (by simp;omega) hn4 hb4 h4.os.tle
 have ne04:n0≠n4:=by
  intro e;subst e;obtain⟨c,hc,_⟩:=a2
  rw[e04,hc]at hn4;cases hn4
 have c24:vD t4 n1 none [.int .i64 (s.code.length:Int)]:=c2.off (d4 n1 ne13)
 have ne14:n1≠n4:=by
  intro e;subst e;obtain⟨c,hc,_⟩:=c24
  rw[hc]at hn4;cases hn4
 have nin0:=h.fresh hn0
 have nin1:=h1.fresh hn1
 have inK:∀k,pJ r.vk k->k∈(tsL key r s).flatMap zD.blks:=fun k hk=>by
  have:=cK.2 hk
  simp[tsL,eC,cD,jB,this]
 have e05:t5.get n0=t1.get n0:=by rw[f4 n0 ne04 (fun e=>nin0 (inK _ e)),e04]
 have e15:t5.get n1=t3.get n1:=by rw[f4 n1 ne14 (fun e=>nin1 (inK _ e)),d4 n1 ne13]
 rw[f1,xA];dsimp only
 rw[l0 t5 e05,xA,if_pos znq];intro m6 _ _;have ec:(s.code.map XIns.d).length+[i.d].length=(s.code++[i]).length:=by simp
 have hd:s.code.map XIns.d++[i.d]=(s.code++[i]).map XIns.d:=by simp
 rw[ec,hd]at f2;have o5:Objs yA.base tf t5 ([eC r.b none r.cells,cD r.m1 (aD 0 s.names),cD r.m2 (aD 0 (s.consts.map key)),jB yA.base 1 (s.names.map D.str) r.vn,jB yA.base 6 (s.consts.map zB.d) r.vc,jB yA.base 1 s.ws r.vw,jB yA.base 1 s.ts r.vt]++jB yA.base 3 ((s.code++[i]).map XIns.d) (.slice n4 0 (s.code++[i]).length (s.code++[i]).length)::[]):=by
  refine Objs.upd (o:=jB yA.base 3 (s.code.map XIns.d) r.vk) h4.os (fun k k1 k2=>f4 k ?_ (fun e=>k1 (cK.2 e))) (fun k hk=>?_) f2 (by simp[jB,zE]) f3
  ·intro e;subst e;exact k2 (by simp[jB,zE])
  ·have:k=n4:=by simpa[jB,zE]using hk
   subst this;exact .inr ⟨hn4,hb4⟩
 have cel5:vD t5 r.b none r.cells:=o5.ok (eC r.b none r.cells) (by simp)
 have hlen:r.cells.length=11:=by simp[TR.cells,h.pl]
 obtain⟨t6,g1,g2,g3⟩:=cel5.store1 (C:=yA) h.baseB.1 (j:=10) (v:=.slice n4 0 (s.code++[i]).length (s.code++[i]).length) zrr rfl rfl rfl (by omega)
 rw[ec,g1,xA];have es:r.cells.set 10 (.slice n4 0 (s.code++[i]).length (s.code++[i]).length)=TR.cells ⟨r.b,r.pl,r.vn,r.vc,r.vw,r.vt,.slice n4 0 (s.code++[i]).length (s.code++[i]).length,r.m1,r.m2⟩:=wS (k:=6) h.pl
 rw[es]at g2;have o6:Objs yA.base tf t6 (tsL key ⟨r.b,r.pl,r.vn,r.vc,r.vw,r.vt,.slice n4 0 (s.code++[i]).length (s.code++[i]).length,r.m1,r.m2⟩ ⟨s.names,s.consts,s.ws,s.ts,s.code++[i]⟩):=by
  refine Objs.upd (A:=[]) (o:=eC r.b none r.cells) o5 (fun k k1 _=>g3 k (fun e=>k1 (by simp[eC,e]))) (fun k hk=>.inl hk) g2 (by simp[eC]) (f3.off h.baseB.2 g3)
 have h6:TS key tf t6 ⟨r.b,r.pl,r.vn,r.vc,r.vw,r.vt,.slice n4 0 (s.code++[i]).length (s.code++[i]).length,r.m1,r.m2⟩ ⟨s.names,s.consts,s.ws,s.ts,s.code++[i]⟩:=⟨h.pl,o6⟩
 have nr0:n0≠r.b:=fun e=>nin0 (e ▸ TS.inB)
 have nr1:n1≠r.b:=fun e=>nin1 (e ▸ TS.inB)
 have e06:t6.get n0=t1.get n0:=by rw[g3 n0 nr0,e05]
 have e16:t6.get n1=t3.get n1:=by rw[g3 n1 nr1,e15]
 have notin:∀n,n∉(tsL key r s).flatMap zD.blks->n≠n4->n∉(tsL key ⟨r.b,r.pl,r.vn,r.vc,r.vw,r.vt,.slice n4 0 (s.code++[i]).length (s.code++[i]).length,r.m1,r.m2⟩ ⟨s.names,s.consts,s.ws,s.ts,s.code++[i]⟩).flatMap zD.blks:=by
  intro n h1 h2 h3;simp only[tsL,eC,cD,jB,List.flatMap_cons,List.flatMap_nil,List.mem_append,yce,ybe,not_or]at h1 h3;simp only[zE,yce]at h3;simp only[zE]at h1;obtain⟨k1,k2,k3,k4,k5,k6,k7,k8⟩:=h1
  rcases h3 with h | h | h | h | h | h | h | h
  ·exact k1 h
  ·exact k2 h
  ·exact k3 h
  ·exact k4 h
  ·exact k5 h
  ·exact k6 h
  ·exact k7 h
  ·exact h2 h
 have tn1:t.get n1=none:=by rw[<- a4 n1 (Ne.symm ne01)];exact hn1
 obtain⟨x0,hx0,hx0'⟩:=a2
 obtain⟨x1,hx1,hx1'⟩:=c2
 obtain⟨h7,q7⟩:=h6.froze (n:=n0) (notin n0 nin0 ne04) (by rw[e06];exact hx0) (h.os.tfn hn0)
 obtain⟨h8,q8⟩:=h7.froze (n:=n1) (notin n1 nin1 ne14) (by rw[e16];exact hx1) (by rw[Tr.get_set,if_neg (Ne.symm ne01)];exact h.os.tfn tn1)
 refine hQ _ t6 ⟨r.b,r.pl,r.vn,r.vc,r.vw,r.vt,.slice n4 0 (s.code++[i]).length (s.code++[i]).length,r.m1,r.m2⟩ _ (q7.trans q8) rfl rfl h8 ⟨n0,n1,rfl,⟨x0,?_,hx0'⟩,⟨x1,?_,hx1'⟩⟩
 ·rw[Tr.get_set,if_neg ne01,Tr.get_set,if_pos rfl]
 ·rw[Tr.get_set,if_pos rfl]
theorem _root_.Go.Am.Loose.own{base sz:Nat}{l:List D}{b n k:Nat}(h:Loose base tf t sz l (.slice b 0 n k)):OwnD base tf t sz l b (some sz):=by
 rcases h with⟨e1,_⟩ | ⟨b',cl,c,e1,k0,k1,k2,k3,k4⟩
 ·cases e1
 ·cases e1
  have hcl:=k4.length
  have hcl3:∀(j:Nat) cs,cl[j]?=some cs->cs.length=sz:=fun j cs hj=>(k3 j cs hj).1
  have hfl:=rQ hcl3
  refine⟨k0,k1,cl,⟨c,by rw[hfl,hcl];exact k2,fun j a hj=>?_⟩,hcl3,k4⟩
  have hj2:j<cl.length*sz:=by rw[<- hfl];exact(yad.1 hj).1
  have hpos:0<sz:=by
   rcases Nat.eq_zero_or_pos sz with e | e
   ·subst e;simp at hj2
   ·exact e
  have q1:j / sz<cl.length:=ybv (by rw[yai];exact hj2)
  have hq:cl[j / sz]?=some cl[j / sz]:=yae q1
  have hql:=hcl3 _ _ hq
  obtain⟨a',hx⟩:∃a',cl[j / sz][j%sz]?=some a':=⟨_,yae (l:=cl[j / sz]) (i:=j%sz) (by rw[hql];exact ybz _ hpos)⟩
  have e:=qQ hcl3 _ _ _ _ hq hx
  have ej:j / sz*sz+j%sz=j:=by rw[yai];exact ybi j sz
  rw[ej,hj]at e;have:=(k3 _ _ hq).2 _ _ hx
  rw[ej]at this;rw[this,<- ybj e]
theorem _root_.Go.Am.OwnD.loose{base sz:Nat}{l:List D}{b n:Nat}(h:OwnD base tf t sz l b (some sz))(hn:l.length=n):Loose base tf t sz l (.slice b 0 n n):=by
 obtain⟨h1,h2,cl,⟨c,h3,h4⟩,h5,h6⟩:=h
 subst hn;have:=h6.length
 refine .inr ⟨b,cl,c,rfl,h1,h2,by rw[h3,rQ h5,this],fun i cs hi=>⟨h5 i cs hi,fun j a hj=>h4 _ _ (qQ h5 i j cs a hi hj)⟩,h6⟩
theorem jX{i:Nat}{v:zA}{Q:kB}{x:XIns}(h:TS key tf t r s)(hv:Tgt tf r.b v i)(hi:s.code[i]?=some x)(hl:s.code.length<300000)
  (hQ:∀t',TS key tf t' r ⟨s.names,s.consts,s.ws,s.ts,s.code.set i ⟨x.op,s.code.length,x.b⟩⟩->Q (.tup []) t'):sG (wM v []) fun p=>Wq yA F lH p.1 p.2 t Q:=by
 obtain⟨n,m,rfl,h1,h2⟩:=hv
 have ef:wM (.func (.func 232) [] [.ptr n 0,.ptr m 0]) []=some (232,[.ptr n 0,.ptr m 0]):=rfl
 rw[ef,xA,q232];have htle:=h.os.tle
 have l0:jA yA 106 ⟨0,t⟩ (.ptr n 0)=some (.ptr r.b 0):=fP (H:=⟨0,tf⟩) (fun _ _ k=>htle _ _ k) (h1.load1 ty106 rfl rfl)
 have l1:jA yA 3 ⟨0,t⟩ (.ptr m 0)=some (.int .i64 (i:Int)):=fP (H:=⟨0,tf⟩) (fun _ _ k=>htle _ _ k) (h2.load1 ty3 rfl rfl)
 have hlt:i<s.code.length:=(yad.1 hi).1
 refine w232 _ _ ?_
 simp only[t232,qA];obtain⟨b,e1⟩:∃b,r.vk=.slice b 0 s.code.length s.code.length:=by
  rcases h.lk with⟨_,e2⟩ | ⟨b,cl,c,e1,_⟩
  ·have:s.code=[]:=List.map_eq_nil_iff.1 e2
   rw[this]at hlt;simp at hlt
  ·rw[yag]at e1;exact⟨b,e1⟩
 have ldk:=h.ldK
 have hlk:=h.lk
 rw[e1]at ldk hlk;have ia:xB yA 37 (.slice b 0 s.code.length s.code.length) (.int .i64 (i:Int))=some (.ptr b (0+i*3)):=dL sl37 hlt
 have fa:uC yA 54 1 (.ptr b (0+i*3))=some (.ptr b (0+i*3+1)):=by
  unfold uC dR;rw[ty54,sA];rfl
 have lv:vB (.slice b 0 s.code.length s.code.length)=some (.int .i64 (s.code.length:Int)):=rfl
 rw[l0,xA,zJ,xA,mV,xA,ldk,xA,l1,xA,yB,xA];simp only[xA,zJ,mV,ldk,lv,yB,ia,fa];intro mm _ _;obtain⟨t',g1,g2,g3⟩:=OwnD.store (C:=yA) hlk.own (i:=i) (o:=1) (T:=3) (d:=x.d) (d':=XIns.d ⟨x.op,s.code.length,x.b⟩) (v:=.int .i64 (s.code.length:Int)) (by simp[hi]) ty3 rfl (by exact(by decide:1+1<=3)) rfl (fun cs h3 hrd=>by
  rw[zuq]at hrd ⊢
  subst hrd;rfl)
 have e3:0+i*3+1=i*3+1:=by omega
 rw[e3,g1,xA];have hmap:(s.code.map XIns.d).set i (XIns.d ⟨x.op,s.code.length,x.b⟩)=(s.code.set i ⟨x.op,s.code.length,x.b⟩).map XIns.d:=by rw[List.map_set]
 rw[hmap]at g2;refine hQ t' ⟨h.pl,?_⟩
 have hos:=h.os
 refine Objs.upd (A:=[eC r.b none r.cells,cD r.m1 (aD 0 s.names),cD r.m2 (aD 0 (s.consts.map key)),jB yA.base 1 (s.names.map D.str) r.vn,jB yA.base 6 (s.consts.map zB.d) r.vc,jB yA.base 1 s.ws r.vw,jB yA.base 1 s.ts r.vt]) (B:=[]) (o:=jB yA.base 3 (s.code.map XIns.d) r.vk) hos (fun k k1 _=>g3 k (fun e=>k1 ?_)) (fun k hk=>.inl hk) ?_ ?_ (htle.off ?_ g3)
 ·subst e;rw[e1];simp[jB,zE]
 ·rw[e1];exact g2.loose (by simp)
 ·rw[e1];simp[jB,zE]
 ·exact(hlk.none (pN.2 rfl)).1
end Go.Proofs
namespace Go.Proofs
open Go Go.Am
variable [cC]
variable {t:Tr lA}
theorem pv36{f:uF}{u v:zA}(h1:oA t 1 (lC f.n.limbs) u)(h2:oA t 1 (lC f.d.limbs) v)(hf:f.ok):sD yA F 36 [.agg [.bool f.n.neg,u,.bool f.d.neg,v]] t=some (.int .i64 (qL f:Nat)):=by
 have hs:=tW hf
 refine oF.2 (w36 _ _ _ _ ?_)
 unfold qL at hs ⊢
 simp (disch:=omega) only[t36,qA,h1.len,h2.len,xA,yB,rP,zC]
 simp
mutual
theorem pv37:∀(x:uA) (left:Int) (cs:List zA),x.ok -> -9007199254740992<=left->left<=9007199254740992->RD t x.d cs->sD yA F 37 [.agg cs,.int .i64 left] t=some (.int .i64 (mJ x left))
 | .mk op name v args,left,cs,hx,hl1,hl2,h=>by
  obtain⟨a,b,c,rfl,ha,hb,hc⟩:=bI h
  simp only[uA.op,uA.name,uA.v,uA.args]at ha hb hc ⊢
  have hx':=hx
  unfold uA.ok at hx';have hf:=tW hx'.2.1
  have hn:=hx'.1
  unfold xE at hn;refine oF.2 (w37 _ _ _ _ _ _ _ _ _ _ ?_)
  simp (disch:=omega) only[t37,qA,q36,pv36 ha hb hx'.2.1,xA,yB,zbb,hO,if_true,tS,zC,Int.tdiv_eq_ediv_of_nonneg]
  unfold mJ;exact z26 args args left _ op name v _ _ c 0 hc rfl hx'.2.2.2 hx'.2.2.1 (by omega) hl1 hl2 (by omega)
theorem z26:∀(l args:List uA) (left n:Int) (op:Nat) (name:List Nat) (v:zB) (a b c:zA) (i:Nat),oA t 9 (args.map uA.d) c->args.drop i=l->uA.oks l->args.length<xE->0<=n -> -9007199254740992<=left->left<=9007199254740992->n<=27021597764222976 →
  jp 37 2 [.int .i64 left,.int .i64 n,.int .i64 i,.int .u8 op,.str name,.int .u8 v.kind,.bool v.f.n.neg,a,.bool v.f.d.neg,b,.int .i64 v.i,c] t (fun v' t'=>v'=.int .i64 (dN l left n)/\t'=t)
 | [],args,left,n,op,name,v,a,b,c,i,hc,hd,hok,hsz,hn,hl1,hl2,hn2=>by
  have:=vX hd
  refine j37_2 _ _ _ _ _ _ _ _ _ _ _ _ ?_
  simp only[z4v,qA,hc.len,xA,yB,yag,dB];rw[if_neg (by omega)]
  unfold dN;simp
 | x::l,args,left,n,op,name,v,a,b,c,i,hc,hd,hok,hsz,hn,hl1,hl2,hn2=>by
  obtain⟨h1,h2,h3⟩:=uX hd
  unfold xE at hsz;have hok':=hok
  unfold uA.oks at hok';refine j37_2 _ _ _ _ _ _ _ _ _ _ _ _ ?_
  obtain⟨pb,po,cs,g1,g2,g3,g4,g5⟩:=rE.at zzm (by simp) hc (i:=i) (d:=x.d) (by simp[h1])
  simp only[z4v,qA,hc.len,xA,yB,yag,dB,nG,g1,g2,zkl];rw[if_pos (by omega)]
  unfold dN;split
  ·rename_i hle
   obtain⟨a1,b1,c1,rfl,ha1,hb1,hc1⟩:=bI g5
   have hs:=dX x (left-n) hok'.1
   rw[pI g5 x.zs];simp only[xA,cellsOf,bF,iG,lF,sF];simp (disch:=omega) only[q37,yaa,yab,zC]
   rw[pv37 x (left-n) _ hok'.1 (by omega) (by omega) g5]
   simp (disch:=omega) only[xA,yB,zC]
   have:=z26 l args left (n+mJ x (left-n)) op name v a b c (i+1) hc h2 hok'.2 hsz (by omega) hl1 hl2 (by omega)
   rw[show((i:Int)+1)=((i+1:Nat):Int) by omega]
   exact this
  ·simp
end
end Go.Proofs
namespace Go.Proofs
open Go Go.Am
variable [cC]
variable {t:Tr lA}
def yR:List vJ->Int->Int
 | [],n=>n
 | d::l,n=>if n<=2000 then yR l (n+(d.name.length:Int) / 30)else n
def uN:List cE->Int->Int
 | [],n=>n
 | r::l,n=>if n<=2000 then uN l (n+(qL r.f:Nat))else n
def iO:List nE->Int->Int
 | [],n=>n
 | x::l,n=>if n<=2000 then iO l (uN x.rows (n+(x.name.length:Int) / 30))else n
def fK(c:dC)(n:Int):Int:=n+((c.name.length:Int) / 30+(c.label.length:Int) / 30+mJ c.when_ (2000-n))
def tN:List dC->Int->Int
 | [],n=>n
 | c::l,n=>if n<=2000 then(if fK c n<=2000 then tN l (fK c n+mJ c.then_ (2000-fK c n))else tN l (fK c n))else n
def zzo(p:fF):Int:=tN p.clauses (iO p.tables (yR p.defs (1+(p.name.length:Int) / 30+p.defs.length+p.tables.length+p.clauses.length)))
theorem z1j(n:Nat):Int.tdiv (n:Int) 30=(n:Int) / 30:=Int.tdiv_eq_ediv_of_nonneg (by omega)
section
variable {p:fF}{a b c:zA}
theorem zh9{l:List dC}(hc:oA t 24 (l.map dC.d) c)(hn:l.length<1125899906842624)(hf:∀x∈l,x.fit):∀(m i:Nat) (n:Int),i+m=l.length->0<=n->n<1152921504606846976->jp 13 14 [.int .i64 2000,.int .i64 n,.int .i64 (i:Int),.str p.name,a,b,c] t (fun v s=>v=.int .i64 (tN (l.drop i) n)/\s=t):=by
 intro m;induction m with
 | zero=>
  intro i n hi h0 h1;refine z3t _ _ _ _ _ _ _ ?_
  simp only[ztt,qA,hc.len,xA,yB,yag,dB];rw[if_neg (by omega),yau (by omega)]
  (first | exact⟨rfl,rfl⟩ | exact⟨rfl,trivial⟩ | trivial)
 | succ m ih=>
  intro i n hi h0 h1;have hlt:i<l.length:=by omega
  obtain⟨q,off,u1,u2,u3,w1,w2,w3,g1,g2,g3,g4,g5,g6⟩:=zdk hc (yae hlt)
  have hfit:=hf _ (ybk hlt)
  obtain⟨f1,f2,_,_,_,f6,f7⟩:=hfit
  unfold xE at f1 f2;have ok1:=uA.fit_ok f6
  have ok2:=uA.fit_ok f7
  refine z3t _ _ _ _ _ _ _ ?_
  simp only[ztt,qA,hc.len,xA,yB,yag,dB,nG];rw[if_pos (by omega),yam hlt]
  unfold tN;by_cases h2:n<=2000
  ·rw[if_pos h2,if_pos h2]
   unfold zfs at g3;rw[g1,xA,g2,xA,g3,xA];unfold kN at g6;simp only[kN,cellsOf,bF,iG,lF,sF,yaa,yab];have s1:=dX l[i].when_ (2000-n) ok1
   have e1:=pv37 l[i].when_ (2000-n) _ ok1 (by omega) (by omega) g4
   unfold jC at e1;have ew:fK l[i] n=n+((l[i].name.length:Int) / 30+(l[i].label.length:Int) / 30+mJ l[i].when_ (2000-n)):=rfl
   have eN:vA .i64 (n+vA .i64 (vA .i64 (vA .i64 ((l[i].name.length:Int) / 30)+vA .i64 ((l[i].label.length:Int) / 30))+mJ l[i].when_ (2000-n)))=fK l[i] n:=by
    rw[zC (n:=(l[i].name.length:Int) / 30) (by omega) (by omega),zC (n:=(l[i].label.length:Int) / 30) (by omega) (by omega),zC (n:=(l[i].name.length:Int) / 30+(l[i].label.length:Int) / 30) (by omega) (by omega),
     zC (n:=(l[i].name.length:Int) / 30+(l[i].label.length:Int) / 30+mJ l[i].when_ (2000-n)) (by omega) (by omega),zC (by omega) (by omega)]
    rfl
   have bw:0<=fK l[i] n/\fK l[i] n<1152921504606846976:=by rw[ew];omega
   refine aA g6 ?_
   rw[zC (n:=2000-n) (by omega) (by omega),q37,e1,xA,yB,xA]
   simp only[zbb,hO,if_true,tS,z1j,eN,nG];have ei:vA .i64 ((i:Int)+1)=((i+1:Nat):Int):=by rw[zC (by omega) (by omega)];omega
   generalize fK l[i] n=k at *
   by_cases h3:k<=2000
   ·rw[if_pos h3,if_pos h3]
    have s2:=dX l[i].then_ (2000-k) ok2
    have e2:=pv37 l[i].then_ (2000-k) _ ok2 (by omega) (by omega) g5
    unfold jC at e2;rw[zC (n:=2000-k) (by omega) (by omega),q37,e2,xA,yB,xA,ei,zC (by omega) (by omega)]
    exact ih (i+1) _ (by omega) (by omega) (by omega)
   ·rw[if_neg h3,if_neg h3,ei]
    exact ih (i+1) _ (by omega) bw.1 bw.2
  ·rw[if_neg h2,if_neg h2]
   (first | exact⟨rfl,rfl⟩ | exact⟨rfl,trivial⟩ | trivial)
theorem zaz:∀(l:List cE) (n:Int),(∀r∈l,r.fit)->0<=n->0<=uN l n/\uN l n<=max n 4503599627372496
 | [],n,_,h=>by unfold uN;omega
 | r::l,n,hf,h=>by
  unfold uN;split
  ·have:=tW (hf r (by simp)).2.2.2.1
   have:=zaz l (n+(qL r.f:Nat)) (fun x hx=>hf x (by simp[hx])) (by omega)
   omega
  ·omega
theorem zdd{l:List nE}(hb:oA t 3 (l.map nE.d) b){i:Nat}(hi:i<l.length):∃p o v,xB yA 23 b (.int .i64 (i:Int))=some (.ptr p o)/\uC yA 82 0 (.ptr p o)=some (.ptr p (o+0))/\uC yA 82 2 (.ptr p o)=some (.ptr p (o+2))/\jA yA 9 ⟨0,t⟩ (.ptr p (o+0))=some (.str l[i].name)/\jA yA 80 ⟨0,t⟩ (.ptr p (o+2))=some v/\oA t 7 (l[i].rows.map cE.d) v:=by
 obtain⟨p,o,cs,g1,g2,g3,_,g5⟩:=rE.at sl23 (by simp) hb (i:=i) (d:=l[i].d) (by simp[yae hi])
 obtain⟨v,rfl,hv⟩:=nW g5
 exact⟨p,o,v,g1,by kernel_rfl,by kernel_rfl,g3.load1 ty9 rfl rfl,g3.load1 ty80 rfl rfl,hv⟩
theorem zt9{l:List nE}(hb:oA t 3 (l.map nE.d) b)(hf:∀x∈l,x.fit){i:Nat}(hi:i<l.length)(hil:i<1125899906842624){Q:kB}:∀(m j:Nat) (n:Int),j+m=l[i].rows.length->0<=n->n<1152921504606846976 →
  jp 13 6 [.int .i64 2000,.int .i64 (uN (l[i].rows.drop j) n),.int .i64 ((i+1:Nat):Int),.str p.name,a,b,c] t Q->jp 13 10 [.int .i64 2000,.int .i64 n,.int .i64 (i:Int),.int .i64 (j:Int),.str p.name,a,b,c] t Q:=by
 obtain⟨q,o,v,g1,g2,g3,g4,g5,g6⟩:=zdd hb hi
 have hfit:=hf _ (ybk hi)
 obtain⟨f1,f2,f3⟩:=hfit
 unfold xE at f1 f2;have ei:vA .i64 ((i:Int)+1)=((i+1:Nat):Int):=by rw[zC (by omega) (by omega)];omega
 intro m;induction m with
 | zero=>
  intro j n hj h0 h1 hQ;rw[yau (by omega)]at hQ
  refine z3u _ _ _ _ _ _ _ _ ?_
  simp only[ztu,qA];rw[g1,xA,g3,xA,g5,xA,g6.len,xA,yag,yB,xA];simp only[dB];rw[if_neg (by omega),ei]
  exact hQ
 | succ m ih=>
  intro j n hj h0 h1 hQ;have hlt:j<l[i].rows.length:=by omega
  rw[yam hlt]at hQ;unfold uN at hQ;refine z3u _ _ _ _ _ _ _ _ ?_
  simp only[ztu,qA];rw[g1,xA,g3,xA,g5,xA,g6.len,xA,yag,yB,xA];simp only[dB,nG];rw[if_pos (by omega)]
  by_cases h2:n<=2000
  ·rw[if_pos h2]at hQ ⊢
   obtain⟨q',o',cs,k1,k2,k3,_,k5⟩:=rE.at sl80 (by simp) g6 (i:=j) (d:=l[i].rows[j].d) (by simp[yae hlt])
   obtain⟨x,y,rfl,hx,hy⟩:=zih k5
   have fa:uC yA 85 3 (.ptr q' o')=some (.ptr q' (o'+3)):=by kernel_rfl
   have ld:jA yA 45 ⟨0,t⟩ (.ptr q' (o'+3))=some (.agg [.bool l[i].rows[j].f.n.neg,x,.bool l[i].rows[j].f.d.neg,y]):=k3.load (j:=3) ty45 rfl rfl (by exact(by decide:3+4<=7))
   have fr:(l[i].rows[j]).fit:=f3 _ (ybk hlt)
   have hz:wG [(.bool false),.nilslice,(.bool false),.nilslice] (.agg [.bool l[i].rows[j].f.n.neg,x,.bool l[i].rows[j].f.d.neg,y])=some (cellsOf [.bool l[i].rows[j].f.n.neg,x,.bool l[i].rows[j].f.d.neg,y]):=gL (by
    show(true&&(mG .nilslice x&&(true&&(mG .nilslice y&&true))))=true
    rw[bH hx,bH hy];rfl)
   have e1:=pv36 hx hy fr.2.2.2.1
   have hs:=tW fr.2.2.2.1
   have ej:vA .i64 ((j:Int)+1)=((j+1:Nat):Int):=by rw[zC (by omega) (by omega)];omega
   simp only[xA,g3,g5];rw[k1,xA,fa,xA,ld,xA,hz,xA];simp only[cellsOf,lF,sF,yaa,yab];rw[q36,e1,xA,yB,xA,ej,zC (by omega) (by omega)]
   exact ih (j+1) _ (by omega) (by omega) (by omega) hQ
  ·rw[if_neg h2]at hQ ⊢
   rw[ei];exact hQ
theorem zk6(hb:oA t 3 (p.tables.map nE.d) b)(hc:oA t 24 (p.clauses.map dC.d) c)(hp:p.fit):∀(m i:Nat) (n:Int),i+m=p.tables.length->0<=n->n<1152921504606846976->jp 13 6 [.int .i64 2000,.int .i64 n,.int .i64 (i:Int),.str p.name,a,b,c] t (fun v s=>v=.int .i64 (tN p.clauses (iO (p.tables.drop i) n))/\s=t):=by
 have hnt:=hp.ntables
 have hnc:=hp.nclauses
 unfold xE at hnt hnc;have fC:∀n:Int,0<=n->n<1152921504606846976->jp 13 14 [.int .i64 2000,.int .i64 n,.int .i64 0,.str p.name,a,b,c] t (fun v s=>v=.int .i64 (tN p.clauses n)/\s=t):=by
  intro n h0 h1;have:=zh9 (p:=p) (a:=a) (b:=b) hc hnc hp.clauses p.clauses.length 0 n (by omega) h0 h1
  rw[ybs]at this;exact this
 intro m;induction m with
 | zero=>
  intro i n hi h0 h1;refine j13_6 _ _ _ _ _ _ _ ?_
  simp only[z40,qA,hb.len,xA,yB,yag,dB];rw[if_neg (by omega),yau (by omega)]
  exact fC n h0 h1
 | succ m ih=>
  intro i n hi h0 h1;have hlt:i<p.tables.length:=by omega
  obtain⟨q,o,v,g1,g2,g3,g4,g5,g6⟩:=zdd hb hlt
  have hfit:=hp.tables _ (ybk hlt)
  obtain⟨f1,f2,f3⟩:=hfit
  unfold xE at f1;refine j13_6 _ _ _ _ _ _ _ ?_
  simp only[z40,qA,hb.len,xA,yB,yag,dB,nG];rw[if_pos (by omega),yam hlt]
  unfold iO;by_cases h2:n<=2000
  ·rw[if_pos h2,if_pos h2,g1,xA,g2,xA,g4,xA,qI,xA,tS,z1j,zC (n:=(p.tables[i].name.length:Int) / 30) (by omega) (by omega),zC (by omega) (by omega)]
   have hr:=zaz p.tables[i].rows (n+(p.tables[i].name.length:Int) / 30) f3 (by omega)
   refine zt9 (p:=p) (a:=a) (c:=c) hb hp.tables hlt (by omega) p.tables[i].rows.length 0 _ (by omega) (by omega) (by omega) ?_
   rw[ybs];exact ih (i+1) _ (by omega) (by omega) (by omega)
  ·rw[if_neg h2,if_neg h2]
   exact fC n h0 h1
theorem zua(ha:oA t 3 (p.defs.map vJ.d) a)(hb:oA t 3 (p.tables.map nE.d) b)(hc:oA t 24 (p.clauses.map dC.d) c)(hp:p.fit):∀(m i:Nat) (n:Int),i+m=p.defs.length->0<=n->n<1152921504606846976->jp 13 2 [.int .i64 2000,.int .i64 n,.int .i64 (i:Int),.str p.name,a,b,c] t (fun v s=>v=.int .i64 (tN p.clauses (iO p.tables (yR (p.defs.drop i) n)))/\s=t):=by
 have hnd:=hp.ndefs
 unfold xE at hnd;have fC:∀n:Int,0<=n->n<1152921504606846976->jp 13 6 [.int .i64 2000,.int .i64 n,.int .i64 0,.str p.name,a,b,c] t (fun v s=>v=.int .i64 (tN p.clauses (iO p.tables n))/\s=t):=by
  intro n h0 h1;have:=zk6 (a:=a) hb hc hp p.tables.length 0 n (by omega) h0 h1
  rw[ybs]at this;exact this
 intro m;induction m with
 | zero=>
  intro i n hi h0 h1;refine j13_2 _ _ _ _ _ _ _ ?_
  simp only[z41,qA,ha.len,xA,yB,yag,dB];rw[if_neg (by omega),yau (by omega)]
  exact fC n h0 h1
 | succ m ih=>
  intro i n hi h0 h1;have hlt:i<p.defs.length:=by omega
  obtain⟨q,o,cs,g1,g2,g3,_,g5⟩:=rE.at sl22 (by simp) ha (i:=i) (d:=p.defs[i].d) (by simp[yae hlt])
  have g5:=rd_def g5
  subst g5;have fa:uC yA 79 0 (.ptr q o)=some (.ptr q (o+0)):=by kernel_rfl
  have ld:jA yA 9 ⟨0,t⟩ (.ptr q (o+0))=some (.str p.defs[i].name):=g3.load1 ty9 rfl rfl
  have hfit:=hp.defs _ (ybk hlt)
  have f1:=hfit.1
  unfold xE at f1;have ei:vA .i64 ((i:Int)+1)=((i+1:Nat):Int):=by rw[zC (by omega) (by omega)];omega
  refine j13_2 _ _ _ _ _ _ _ ?_
  simp only[z41,qA,ha.len,xA,yB,yag,dB,nG];rw[if_pos (by omega),yam hlt]
  unfold yR;by_cases h2:n<=2000
  ·rw[if_pos h2,if_pos h2,g1,xA,fa,xA,ld,xA,qI,xA,tS,z1j,ei,zC (n:=(p.defs[i].name.length:Int) / 30) (by omega) (by omega),zC (by omega) (by omega)]
   exact ih (i+1) _ (by omega) (by omega) (by omega)
  ·rw[if_neg h2,if_neg h2]
   exact fC n h0 h1
theorem zzn{cs:List zA}(hp:p.fit)(h:RD t p.d cs):sD yA F 13 [.agg cs,.int .i64 2000] t=some (.int .i64 (zzo p)):=by
 obtain⟨a,b,c,rfl,ha,hb,hc⟩:=yV h
 have p1:=hp.name
 have p2:=hp.ndefs
 have p3:=hp.ntables
 have p4:=hp.nclauses
 unfold xE at p1 p2 p3 p4;refine oF.2 (w13 _ _ _ _ _ ?_)
 simp only[t13,qA,ha.len,hb.len,hc.len,xA,yB,yag,tS,z1j];rw[zC (n:=(p.name.length:Int) / 30) (by omega) (by omega),zC (n:=1+(p.name.length:Int) / 30) (by omega) (by omega),zC (n:=1+(p.name.length:Int) / 30+(p.defs.length:Int)) (by omega) (by omega),zC (n:=1+(p.name.length:Int) / 30+(p.defs.length:Int)+(p.tables.length:Int)) (by omega) (by omega),zC (by omega) (by omega)]
 have:=zua ha hb hc hp p.defs.length 0 (1+(p.name.length:Int) / 30+p.defs.length+p.tables.length+p.clauses.length) (by omega) (by omega) (by omega)
 rw[ybs]at this;exact this
end
end Go.Proofs
namespace Go.Proofs
open Go Go.Am
variable [cC]
variable {t:Tr lA}
def dS:List (List Nat):=[[],[],[],[52],[52],[],[50,32,50,50],[50,50,32,51,51,32,53,53,32,54,54,32,52,53,32,52,54],[50,50,32,51,51,32,53,53,32,54,54,32,52,52,32,52,53,32,52,54],[50,50,32,51,50,32,50,51],[50,50,32,51,51,32,51,50],[50,50,32,51,51,32,52,52,32,53,53,32,54,54],[50,50,32,51,51,32,52,52,32,53,53,32,54,54],[50,50,32,51,51,32,52,52,32,53,53,32,54,54],[49,49,32,50,50,32,51,51,32,52,52,32,53,53,32,54,54],[],[],[49],[],[50,50,32,51,51],[52,52],[52,52],[52,52,54],[52,52],[50],[50,32,51,32,53,32,54],[52]]
def dJ (t:Tr lA):Prop:=At t 0 0 (dS.map zA.str)
theorem dJ.mono{t':Tr lA}(h:dJ t)(k:dA t t'):dJ t':=At.mono k h
def fstW (s:List Nat):List Nat:=match z1o [32] s with | some p=>p.1 | none=>s
def argT (s:List Nat):Int × Int:=if s=[]then(1,0)else((fstW s).length,(fstW s).length)
def zb6(op:Nat):Bool:=op == 1||op == 2||op == 5||op == 6||op == 15||op == 16||op == 18
theorem zj7:∀s∈dS,s.length<100:=by decide
theorem zyf:∀k,k<27->zb6 k=false->∀s,dS[k]?=some s->argT s=sH k:=by
 have h:((List.range 27).all fun k=>zb6 k||(match dS[k]? with | some s=>decide (argT s=sH k) | none=>true))=true:=by kernel_rfl
 intro k hk hs s he;have:=ybc.1 h k (List.mem_range.2 hk)
 rw[hs,he,Bool.false_or]at this;exact of_decide_eq_true this
theorem cut_pv{s:List Nat}(hs:s.length<100):∃a b,sD yA F 238 [.str s,.str [32]] t=some (.tup [.str (fstW s),.str a,.bool b]):=by
 have hg:yA.prims.get 238=some pCut:=by kernel_rfl
 have hb:Nat.blt (wB s) 4294967281=true:=by rw[fD];exact oC.2 (by omega)
 unfold fstW
 cases hc:z1o [32] s with
 | none=>exact⟨[],false,zge hg fun H=>by unfold pCut;simp only[];rw[hb,hc];rfl⟩
 | some p=>exact⟨p.2,true,zge hg fun H=>by unfold pCut;simp only[];rw[hb,hc];rfl⟩
theorem zyd{op:Nat}(hop:op<256)(hg:dJ t):sD yA F 181 [.int .u8 (op:Int)] t=some (.tup [.int .i64 (sH op).1,.int .i64 (sH op).2]):=by
 have w:vA .i64 (op:Int)=(op:Int):=zC (by omega) (by omega)
 have tab:27<=op\/zb6 op=false->wp 181 (.ite (rC 27 (vA .i64 (op:Int)))
 (.ret (.tup [(.int .i64 1),(.int .i64 0)]))
 (.opt (xB yA 273 (.ptr 0 0) (.int .u8 (op:Int))) fun aE=>.light (fun m=>jA yA 9 ⟨0,m⟩ aE) fun a14=>.asS a14 fun s15=>.ite (oK s15 [])
 (.ret (.tup [(.int .i64 1),(.int .i64 0)]))
 (.opt (xB yA 273 (.ptr 0 0) (.int .u8 (op:Int))) fun a16=>.light (fun m=>jA yA 9 ⟨0,m⟩ a16) fun a17=>.asS a17 fun s18=>.call 238 [(.str s18),(.str [32])] fun a19=>
 .opt (bB 0 a19) fun a20=>.asS a20 fun s21=>.opt (bB 1 a19) fun a22=>.asS a22 fun s23=>.opt (bB 2 a19) fun a24=>.asB a24 fun b25=>.ret (.tup [(.int .i64 (Int.ofNat (wB s21))),(.int .i64 (Int.ofNat (wB s21)))])))) t (fun v' t'=>v'=.tup [.int .i64 (sH op).1,.int .i64 (sH op).2]/\t'=t):=by
  intro h;simp only[qA,w,nG];by_cases h27:27<=op
  ·rw[if_pos (by omega)]
   have e:sH op=(1,0):=by unfold sH;repeat rw[if_neg (by omega)]
   rw[e]; (first | exact⟨rfl,rfl⟩ | exact⟨rfl,trivial⟩ | trivial)
  ·rw[if_neg (by omega)]
   have hsp:zb6 op=false:=h.resolve_left h27
   obtain⟨s,hs⟩:∃s,dS[op]?=some s:=⟨_,yae (l:=dS) (i:=op) (by show op<27;omega)⟩
   have hN:=zyf op (by omega) hsp s hs
   have hsm:=zj7 s (ybw hs)
   have ia:xB yA 273 (.ptr 0 0) (.int .u8 (op:Int))=some (.ptr 0 (0+op*1)):=by
    unfold xB;have e1:(zA.int .u8 (op:Int)).asNat=some op:=rfl
    rw[ty273,sA,e1,sA];simp only[zA.asSlice,zA.asPtr,sA,mE.asArr];rw[ty9,sA,oC.2 (by omega)]
    rfl
   have ld:jA yA 9 ⟨0,t⟩ (.ptr 0 (0+op*1))=some (.str s):=by
    have:=At.load1 (C:=yA) (j:=op) (a:=.str s) hg ty9 rfl (by rw[yav,hs];rfl)
    rw[show 0+op*1=0+op by omega];exact this
   obtain⟨a,b,hc⟩:=cut_pv (t:=t) hsm
   rw[ia,xA,ld,xA,qI,xA];unfold argT at hN;by_cases h0:s=[]
   ·rw[if_pos ((sP _ _).2 h0)]
    rw[if_pos h0]at hN;rw[<- hN]; (first | exact⟨rfl,rfl⟩ | exact⟨rfl,trivial⟩ | trivial)
   ·rw[if_neg (fun e=>h0 ((sP _ _).1 e))]
    rw[if_neg h0]at hN;simp only[xA,ld,qI];rw[q238,hc];simp only[xA,bB,zA.asTup,sA,bD,yaa,yab,qI,pD,tS];rw[<- hN]; (first | exact⟨rfl,rfl⟩ | exact⟨rfl,trivial⟩ | trivial)
 refine oF.2 (w181 _ ?_)
 have pos:∀ {k:Nat} {x y:T} {Q:kB},op=k->wp 181 x t Q->wp 181 (.ite (wA (op:Int) (k:Int)) x y) t Q:=fun h hx=>aA (jE.2 (by omega)) hx
 have neg:∀ {k:Nat} {x y:T} {Q:kB},op≠k->wp 181 y t Q->wp 181 (.ite (wA (op:Int) (k:Int)) x y) t Q:=fun h hy=>qC (fun e=>absurd (jE.1 e) (by omega)) hy
 unfold t181;by_cases h1:op=1
 ·refine pos h1 (pos h1 ?_);subst h1;exact⟨rfl,rfl⟩
 ·refine neg h1 ?_
  by_cases h2:op=2
  ·refine pos h2 ?_;subst h2;exact⟨rfl,rfl⟩
  ·refine neg h2 ?_
   by_cases h5:op=5
   ·refine pos h5 ?_;subst h5;exact⟨rfl,rfl⟩
   ·refine neg h5 ?_
    by_cases h6:op=6
    ·refine pos h6 ?_;subst h6;exact⟨rfl,rfl⟩
    ·refine neg h6 ?_
     by_cases h15:op=15
     ·refine pos h15 (pos h15 ?_);subst h15;exact⟨rfl,rfl⟩
     ·refine neg h15 ?_
      by_cases h16:op=16
      ·refine pos h16 ?_;subst h16;exact⟨rfl,rfl⟩
      ·refine neg h16 ?_
       by_cases h18:op=18
       ·refine pos h18 ?_;subst h18;exact⟨rfl,rfl⟩
       ·refine neg h18 ?_
        exact tab (.inr (by simp[zb6,h1,h2,h5,h6,h15,h16,h18]))
theorem zw6{x:uA}{a b c:zA}(hx:x.fit)(hg:dJ t)(ha:oA t 1 (lC x.v.f.n.limbs) a)(hb:oA t 1 (lC x.v.f.d.limbs) b)(hc:oA t 9 (x.args.map uA.d) c):sD yA F 167 [.agg (jC x a b c)] t=some (.bool (sI sB x.op x.v x.args.length)):=by
 obtain⟨op,name,v,args⟩:=x
 simp only[uA.op,uA.name,uA.v,uA.args]at ha hb hc ⊢
 unfold uA.fit at hx;obtain⟨h1,h2,_,h3,h4,_⟩:=hx
 unfold xE at h4;have c1:=zhp ha hb h3.2.1
 have c2:=zyd (t:=t) h1 hg
 refine oF.2 (w167 _ _ _ _ _ _ _ _ _ ?_)
 simp only[t167,qA,uA.op,uA.name,uA.v,uA.args,q25,q181,c1,c2,xA,pD,bB,zA.asTup,sA,bD,yaa,yab,yB,hc.len,yag,jE,zbd,zgw,decide_eq_true_eq]
 unfold sI;by_cases h0:op=1
 ·rw[if_pos (by omega)]
  cases hv:sB v with
  | false=>simp[h0]
  | true=>
   simp only[Bool.true_eq_false,if_false];by_cases h5:(sH op).1<=(args.length:Int)
   ·rw[if_pos h5];simp[h5]
   ·rw[if_neg h5];simp[h5]
 ·rw[if_neg (by omega)]
  by_cases h5:(sH op).1<=(args.length:Int)
  ·rw[if_pos h5];simp[h5,h0]
  ·rw[if_neg h5];simp[h5]
end Go.Proofs
namespace Go.Am
open Go Go.RowKit
section
variable {t tf:Tr lA}{C:iA}
theorem lZ{T el sz:Nat}(hT:eI C T el sz){l:List D}{x:zA}(hx:oA tf sz l x)(ht:dA tf t)(hl:l.length<1000000){n:Nat}(hn:t.get n=none) :
  ∃v k t' tf',iD C T T .nilslice x ⟨n,t⟩=some (v,⟨k,t'⟩)/\oA tf' sz l v/\dA tf tf'/\dA tf' t'/\dA t t'/\oD n t t'/\oD n tf tf':=by
 obtain⟨⟨y,hy1,hy2,hy3⟩,⟨z,hz1,hz2,hz3,hz4,hz5⟩⟩:=hT
 obtain⟨cl,he,hd⟩:=hx
 have hcl:=hd.length
 obtain⟨hf,hlen⟩:=(he.mono ht).first (n:=n)
 have hall:=he.len
 have base:iD C T T .nilslice x ⟨n,t⟩=kM ⟨n,t⟩ z cl.length cl.flatten:=by
  unfold iD aM;rw[hy1,sA,sA,hy3];simp only[ybm,dE];rw[hy2,sA,hz1,sA,hlen,sA,hz2,hf,sA];rfl
 have hfl:wB cl.flatten=cl.length*sz:=by rw[fD];exact rQ hall
 have ok:oN z 0 0 cl.length cl.flatten=true:=by
  unfold oN;have h1:Nat.blt (0+cl.length+0) 1000000000=true:=oC.2 (by omega)
  have h2:Nat.blt ((0+cl.length+0)*z.bytes) 1000000000=true:=oC.2 (by
   have:=ycc (show 0+cl.length+0<=1000000 by omega) hz4
   omega)
  have h3:Nat.blt z.bytes 1000000000=true:=oC.2 (by omega)
  have h4:(!Nat.beq z.size 0)=true:=by
   cases hq:Nat.beq z.size 0 with
   | true=>have:=wC.1 hq;omega
   | false=>rfl
  have h5:Nat.beq (wB cl.flatten) (cl.length*z.size)=true:=by rw[hfl,hz2];exact wC.2 rfl
  have h6:Nat.beq (wB z.zero) z.size=true:=by rw[hz3,hz2];exact wC.2 rfl
  rw[h1,h2,h3,h4,h5,h6];rfl
 have hfn:tf.get n=none:=by
  cases hq:tf.get n with
  | none=>rfl
  | some u=>rw[ht _ _ hq]at hn;cases hn
 by_cases h0:cl.length=0
 ·have:cl=[]:=ybd.1 h0
  subst this;refine⟨.nilslice,n,t,tf,?_,⟨[],.inl ⟨rfl,rfl⟩,hd⟩,dA.refl _,ht,dA.refl _,oD.refl _ _,oD.refl _ _⟩
  rw[base];rfl
 ·have hb:Nat.beq cl.length 0=false:=by
   cases hq:Nat.beq cl.length 0 with
   | true=>exact absurd (wC.1 hq) h0
   | false=>rfl
  refine⟨.slice n 0 cl.length cl.length,n+1,t.set n (.cells (Tr.ofList cl.flatten) (wB cl.flatten) (some z.size)),tf.set n (.cells (Tr.ofList cl.flatten) (wB cl.flatten) (some z.size)),?_,⟨cl,mY hall (by rw[Tr.get_set,if_pos rfl]) (.inr (by rw[hz2])),mC.mono (uJ hfn _).1 _ _ hd⟩,(uJ hfn _).1,fun k u hk=>?_,(uJ hn _).1,(uJ hn _).2,(uJ hfn _).2⟩
  ·rw[base]
   unfold kM;rw[hb,cond_false,ok];rfl
  ·rw[Tr.get_set]at hk ⊢
   split at hk
   ·rename_i e;rw[if_pos e];exact hk
   ·rename_i e;rw[if_neg e];exact ht _ _ hk
theorem zmr{T el b k m cap n:Nat}{cs:List zA}{lo:Option Nat}{x:zA}{cm:List (List zA)}(hT:eI C T el 1)(hc:vD t b lo cs)(hb:C.base<=b)(hx:fG t 1 x cm)(hm:cm.length=m)(h0:0<m)(hk:k+m<=cap)(hcap:cap<=cs.length)(hone:∀a∈cm.flatten,zA.one a=true) :
  ∃t',iD C T T (.slice b 0 k cap) x ⟨n,t⟩=some (.slice b 0 (k+m) cap,⟨n,t'⟩)/\vD t' b lo (yJ cs k cm.flatten)/\oD b t t':=by
 obtain⟨⟨y,hy1,hy2,hy3⟩,⟨z,hz1,hz2,hz3,hz4,hz5⟩⟩:=hT
 obtain⟨hf,hlen⟩:=hx.first (n:=n)
 have hfl:=rQ hx.len
 rw[Nat.mul_one,hm]at hfl;obtain⟨c,h1,h2⟩:=hc
 have hne:cm.flatten≠[]:=by intro e;rw[e]at hfl;simp at hfl;omega
 refine⟨t.set b (.cells (c.setMany cm.flatten k) cs.length lo),?_,⟨c.setMany cm.flatten k,by rw[Tr.get_set,if_pos rfl,tY (by omega)],fun j a hj=>?_⟩,fun d hd=>by rw[Tr.get_set,if_neg hd]⟩
 ·unfold iD aM
  rw[hy1,sA,sA,hy3];simp only[ybm,dE];rw[hy2,sA,hz1,sA,hlen,sA,hz2,hf,sA];simp only[zA.asSlice,hm];rw[oE.2 hk,cond_true];unfold uP
  cases hq:cm.flatten with
  | nil=>exact absurd hq hne
  | cons a r=>
   simp only[hz2,Nat.mul_one,yax];rw[<- hq];unfold iK rD;have e2:(!Nat.blt b C.base)=true:=by
    cases hq:Nat.blt b C.base with
    | true=>have:=oC.1 hq;omega
    | false=>rfl
   rw[e2,dE,h1,sA];simp only[lA.asCells,sA];have e3:Nat.ble (k+wB cm.flatten) cs.length=true:=by rw[fD];exact oE.2 (by omega)
   have e4:pB zA.one cm.flatten=true:=by rw[mF];exact ybc.2 hone
   rw[e3,e4];rfl
 ·rw[mW (by omega)]at hj
  rw[Tr.get_setMany];split
  ·rename_i e;rw[if_pos e]at hj;exact hj
  ·rename_i e;rw[if_neg e]at hj;exact h2 j a hj
def kL(l:List Nat):List zA:=l.map fun(n:Nat)=>zA.int .u8 (n:Int)
theorem zrc{S Dt b k cap el:Nat}{cs:List zA}{lo:Option Nat}{l:List Nat}{yS yD yE:wD}(hS:C.tys.get S=some yS)(hD:C.tys.get Dt=some yD)(h1:yD.desc.asInt=none)(h2:yD.desc.isString=true)(h3:yS.desc.asSlice=some el)(h4:C.tys.get el=some yE)(h5:yE.desc.asInt=some .u8)
  (hc:vD t b lo cs) (hk:l.length=k) (hl:∀(j:Nat) x,l[j]?=some x->cs[j]?=some (.int .u8 (x:Int))) (hlt:fB 256 l):tM C S Dt ⟨0,t⟩ (.slice b 0 k cap)=some (.str l):=by
 obtain⟨c,g1,g2⟩:=hc
 unfold tM lN;rw[hS,sA,hD,sA,h1];simp only[];rw[h2,dE];have e1:Nat.beq (zA.slice b 0 k cap).tag 2=false:=rfl
 rw[e1,cond_false,h3,sA,h4,sA,h5,sA,jJ.2 rfl,dE];unfold iV;simp only[zA.asSlice];unfold rD;rw[g1,sA];simp only[lA.asCells,sA]
 have hm:∀(l:List Nat) (off:Nat),(∀(j:Nat) x,l[j]?=some x->c.get (off+j)=some (.int .u8 (x:Int)))->c.many l.length off=some (kL l):=by
  intro l;induction l with
  | nil=>intro off _;rfl
  | cons x l ih=>
   intro off h;rw[yao,Tr.many_succ];have:=h 0 x rfl
   rw[ybu]at this;rw[this,sA,ih (off+1) (fun j y hj=>by rw[show off+1+j=off+(j+1) by omega];exact h (j+1) y (by simpa using hj)),sA]
   rfl
 subst hk;rw[hm l 0 (fun j x hj=>by rw[yax];exact g2 _ _ (hl j x hj)),sA]
 have hb:∀(l:List Nat),fB 256 l->tI kS (kL l)=some l:=by
  intro l;induction l with
  | nil=>intro _;rfl
  | cons x l ih=>
   intro h;have e:kS (.int .u8 (x:Int))=some x:=by
    unfold kS;have e1:dK (x:Int)=some x:=rfl
    simp only[zA.asIntK,sA];rw[jJ.2 rfl,dE,e1,sA,oC.2 (h x (by simp))];rfl
   show tI kS (.int .u8 (x:Int)::kL l)=_
   rw[cO,e,sA,ih fun y hy=>h y (by simp[hy]),sA]
 rw[hb l hlt,sA]
theorem zvl{T el cap:Nat}{y z:wD}{k:IntKind}(hT:C.tys.get T=some y)(hel:y.desc.asSlice=some el)(hz:C.tys.get el=some z)(hzero:z.zero=[.int k 0])(hs:z.size=1)(hby:z.bytes<=8)(hn:cap<1000000){b:Nat}(hb:t.get b=none) :
  ∃t',uL C T (.int .i64 0) (.int .i64 (cap:Int)) ⟨b,t⟩=some (.slice b 0 0 cap,⟨b+1,t'⟩)/\vD t' b none (List.replicate cap (.int k 0))/\dA t t'/\oD b t t':=by
 have hrep:∀n,tJ [zA.int k 0] n=List.replicate n (.int k 0):=by
  intro n;induction n with
  | zero=>rfl
  | succ n ih=>unfold tJ;rw[ih,dH,List.replicate_succ];rfl
 obtain⟨t',h1,h2,h3,h4⟩:=zcr hb (List.replicate cap (.int k 0)) none
 refine⟨t',?_,h2,h3,h4⟩
 unfold uL;rw[hT,sA,hel,sA,hz,sA];have e1:(zA.int .i64 (cap:Int)).asNat=some cap:=rfl
 have e0:(zA.int .i64 0).asNat=some 0:=rfl
 rw[e1,e0,sA,sA];have e2:(Nat.ble 0 cap&&Nat.blt cap 1000000&&Nat.blt (cap*z.bytes) 1000000000&&Nat.beq (wB z.zero) z.size)=true:=by
  rw[hzero,hs,show Nat.ble 0 cap=true from oE.2 (Nat.zero_le _),oC.2 hn]
  have:cap*z.bytes<1000000000:=by
   have:=ycc (Nat.le_of_lt hn) hby
   omega
  rw[oC.2 this];rfl
 rw[e2,dE,hzero,hrep,h1]
end
end Go.Am
namespace Go.Proofs
open Go Go.Am
variable [cC]
variable {t:Tr lA}
def eM(b:Bool):List Nat:=if b then [116,114,117,101]else [102,97,108,115,101]
def jI:List Nat->List Nat
 | []=>[]
 | x::l=>x / 256::x%256::jI l
def kJ (w:rH):List Nat:=44::eM w.neg++iJ ((2*w.limbs.length:Nat):Int)++[44]++jI w.limbs
def cA (v:zB):List Nat:=iJ (v.kind:Int)++[44]++iJ v.i++kJ v.f.n++kJ v.f.d
theorem sX:∀l,(jI l).length=2*l.length
 | []=>rfl
 | x::l=>by simp[jI,sX l];omega
theorem zfq:∀(l:List Nat) (x:Nat),jI (l++[x])=jI l++[x / 256,x%256]
 | [],x=>rfl
 | y::l,x=>by simp[jI,zfq l x]
theorem zj0:∀ {l:List Nat},fB 65536 l->fB 256 (jI l)
 | [],_=>fun x hx=>(by cases hx)
 | y::l,h=>fun x hx=>by
  have hy:=h y (by simp)
  simp only[jI,yat]at hx;rcases hx with rfl | rfl | hx
  ·omega
  ·omega
  ·exact zj0 (l:=l) (fun z hz=>h z (by simp[hz])) x hx
theorem zbh{n:Int}(h0 : -9223372036854775808<=n)(h1:n<9223372036854775808):(iJ n).length<=21:=by
 unfold iJ;rw[yag];exact Lib.itoa_length_le n h0 (by omega)
theorem zlt{n:Int}(h0 : -9223372036854775808<=n)(h1:n<9223372036854775808):sD yA F 291 [.int .i64 n] t=some (.str (iJ n)):=by
 have hg:yA.prims.get 291=some zu8:=by kernel_rfl
 refine zge hg fun H=>?_
 unfold zu8;simp only[];rw[nG.2 h0,dB.2 h1];rfl
theorem z1f{b:Bool}:sD yA F 246 [.bool b] t=some (.str (eM b)):=by
 refine oF.2 (w246 _ ?_)
 simp only[t246,qA,q287];refine w287 _ ?_
 cases b<;>simp only[t287,qA,if_true,yar,if_false,qI,xA] <;> (first | exact⟨rfl,rfl⟩ | exact⟨rfl,trivial⟩ | trivial)
theorem jT{a b:List Nat}(h:a.length+b.length<4611686018427387904):zuh a b=some (.str (a++b)):=by
 unfold zuh;rw[fD,fD,oC.2 h,dH];rfl
theorem el188:eI yA 188 5 1:=⟨⟨_,zy5,rfl,rfl⟩,⟨_,ty5,rfl,rfl,by decide,by decide⟩⟩
theorem zwm{s:List Nat}{f:uF}{fa fb:zA}{j:Nat}{w:rH}{u:zA}{b:Nat}{t0:Tr lA}{Q:kB}(hu:oA t0 1 (lC w.limbs) u)(hl:w.limbs.length<400)(hlt:fB 65536 w.limbs)(hs:s.length<4000)(hbase:yA.base<=b)(hb:t0.get b=none)
  (hQ:∀t',dA t0 t'->jp 276 2 [.str (s++kJ w),.agg [.bool f.n.neg,fa,.bool f.d.neg,fb],.int .i64 (vA .i64 ((j:Int)+1))] t' Q) :
  ∀(m i:Nat) (t':Tr lA),i+m=w.limbs.length->dA t0 t'->vD t' b none (kL (jI (w.limbs.take i))++List.replicate (2*m+1) (.int .u8 0)) →
  jp 276 6 [.str s,.slice b 0 (2*i) (2*w.limbs.length+1),.agg [.bool f.n.neg,fa,.bool f.d.neg,fb],.int .i64 (j:Int),u,.int .i64 (w.limbs.length:Int),.int .i64 (i:Int),.bool w.neg,u] t' Q:=by
 intro m;induction m with
 | zero=>
  intro i t' hi ht hc;refine z3n _ _ _ _ _ _ _ _ _ _ _ _ ?_
  rw[ybb (by omega)]at hc
  have lv:vB (.slice b 0 (2*i) (2*w.limbs.length+1))=some (.int .i64 ((2*w.limbs.length:Nat):Int)):=by
   have:i=w.limbs.length:=by omega
   subst this;rfl
  have cv:tM yA 188 9 ⟨0,t'⟩ (.slice b 0 (2*i) (2*w.limbs.length+1))=some (.str (jI w.limbs)):=by
   refine zrc zy5 ty9 rfl rfl rfl ty5 rfl hc (by rw[sX];omega) (fun k x hk=>?_) (zj0 hlt)
   rw[ybp (by simp[kL,(yad.1 hk).1])]
   simp[kL,hk]
  have hlb:=sX w.limbs
  have hli:=zbh (n:=((2*w.limbs.length:Nat):Int)) (by omega) (by omega)
  have hbt:(eM w.neg).length<=5:=by unfold eM;split<;>simp
  simp only[ztn,qA,dB];rw[if_neg (by omega)]
  simp only[lv,cv,xA,yB,qI,hO,zbb,if_true,q246,z1f];rw[jT (a:=[44]) (b:=eM w.neg) (by simp;omega)]
  simp only[xA,qI,q291];rw[zlt (by omega) (by omega)]
  simp only[xA,qI,cv,zbb,if_true];rw[jT (by simp only[yah,yao,yay];omega)]
  simp only[xA,qI];rw[jT (by simp only[yah,yao,yay];omega)]
  simp only[xA,qI];rw[jT (by simp only[yah,yao,yay];omega)]
  simp only[xA,qI];rw[jT (by simp only[yah,yao,yay];omega)]
  simp only[xA,qI];exact hQ t' ht
 | succ m ih=>
  intro i t' hi ht hc;have hlt1:i<w.limbs.length:=by omega
  obtain⟨x,hx⟩:=getElem?_of_lt hlt1
  have hx16:x<65536:=iI hlt hx
  obtain⟨p,off,g1,g2⟩:=oA.idx (C:=yA) zt7 (hu.mono ht) hx
  refine z3n _ _ _ _ _ _ _ _ _ _ _ _ ?_
  simp only[ztn,qA,dB];have e1:vA .u8 (Int.fdiv (x:Int) 256)=((x / 256:Nat):Int):=by
   rw[show Int.fdiv (x:Int) 256=((x / 256:Nat):Int) from uO _ 256,zr6 (by omega) (by omega)]
  have e2:vA .u8 (x:Int)=((x%256:Nat):Int):=by
   have:vA .u8 (x:Int)=(x:Int)%256:=by rw[rK];simp only[IntKind.wrap,IntKind.bits,IntKind.signed];simp
   rw[this];omega
  rw[if_pos (by omega),g1,xA,g2,xA,yB,xA,e1,e2]
  intro n hn _;obtain⟨t1,a1,a2,a3,a4⟩:=bO (C:=yA) (T:=188) (el:=5) (sz:=1) (n:=2) (cl:=[[.int .u8 ((x / 256:Nat):Int)],[.int .u8 ((x%256:Nat):Int)]]) (ps:=[(0,.int .u8 ((x / 256:Nat):Int)),(1,.int .u8 ((x%256:Nat):Int))]) zy5 rfl ty5 rfl rfl (by decide) rfl (fun i cs hi=>by
   rcases i with _ | _ | i
   ·simp at hi;subst hi;rfl
   ·simp at hi;subst hi;rfl
   ·simp at hi) rfl hn
  have hbn:b≠n:=by
   intro e;subst e;obtain⟨c,hc1,_⟩:=hc
   rw[hc1]at hn;cases hn
  rw[a1,xA];intro k _ _;have htl:(w.limbs.take i).length=i:=by simp;omega
  have hbl:(kL (jI (w.limbs.take i))).length=2*i:=by simp[kL,sX,htl]
  obtain⟨t2,b1,b2,b3⟩:=zmr (C:=yA) (n:=k) (k:=2*i) (m:=2) (cap:=2*w.limbs.length+1) el188 (hc.off (a4 b hbn)) hbase a2 rfl (by decide) (by omega) (by simp[hbl];omega) (by
   intro a ha;simp only[List.flatten_cons,List.flatten_nil,ybe,List.singleton_append,yat,List.not_mem_nil,or_false]at ha;rcases ha with rfl | rfl<;>rfl)
  have b1':iD yA 188 188 (.slice b 0 (2*i) (2*w.limbs.length+1)) (.slice n 0 2 2) ⟨k,t1⟩=some (.slice b 0 (2*i+2) (2*w.limbs.length+1),⟨k,t2⟩):=b1
  rw[b1',xA,zC (by omega) (by omega)]
  have hcells:yJ (kL (jI (w.limbs.take i))++List.replicate (2*(m+1)+1) (.int .u8 0)) (2*i) [.int .u8 ((x / 256:Nat):Int),.int .u8 ((x%256:Nat):Int)]=kL (jI (w.limbs.take (i+1)))++List.replicate (2*m+1) (.int .u8 0):=by
   have hdr:(kL (jI (w.limbs.take i))++List.replicate (2*(m+1)+1) (zA.int .u8 0)).drop (2*i+2)=List.replicate (2*m+1) (.int .u8 0):=by
    rw[List.drop_append,List.drop_of_length_le (by omega),hbl,List.nil_append,List.drop_replicate];congr 1;omega
   unfold yJ;rw[List.take_left' hbl];show kL (jI (w.limbs.take i))++([.int .u8 ((x / 256:Nat):Int),.int .u8 ((x%256:Nat):Int)]++(kL (jI (w.limbs.take i))++List.replicate (2*(m+1)+1) (zA.int .u8 0)).drop (2*i+2))=_
   rw[hdr,cQ hx,zfq];unfold kL;rw[List.map_append,yba];rfl
  have b2':vD t2 b none (kL (jI (w.limbs.take (i+1)))++List.replicate (2*m+1) (.int .u8 0)):=by rw[<- hcells];exact b2
  have:=ih (i+1) t2 (by omega) ((ht.trans a3).off hb b3) b2'
  rw[show 2*(i+1)=2*i+2 by omega,show((i+1:Nat):Int)=(i:Int)+1 by omega]at this
  exact this
theorem zi8{s:List Nat}{f:uF}{fa fb:zA}{j:Nat}{w:rH}{u:zA}{Q:kB}(hj:j<2)(hv:fN yA 325 (.agg [.bool f.n.neg,fa,.bool f.d.neg,fb]) (.int .i64 (j:Int))=some (.agg [.bool w.neg,u]))(hu:oA t 1 (lC w.limbs) u)(hl:w.limbs.length<400)(hlt:fB 65536 w.limbs)(hs:s.length<4000)
  (hQ:∀t',dA t t'->jp 276 2 [.str (s++kJ w),.agg [.bool f.n.neg,fa,.bool f.d.neg,fb],.int .i64 ((j+1:Nat):Int)] t' Q):jp 276 2 [.str s,.agg [.bool f.n.neg,fa,.bool f.d.neg,fb],.int .i64 (j:Int)] t Q:=by
 refine z3o _ _ _ _ _ _ ?_
 simp only[zto,qA,dB];have hz:wG [(.bool false),.nilslice] (.agg [.bool w.neg,u])=some (cellsOf [.bool w.neg,u]):=gL (by
  show(true&&(mG .nilslice u&&true))=true
  rw[bH hu];rfl)
 have hone:pB zA.one [.bool w.neg,u]=true:=by rw[mF];simp only[ybh,ybl,hu.one];rfl
 rw[if_pos (by omega),hv,xA,hz,xA]
 simp only[cellsOf,lF,sF,yaa,yab];refine aA hone ?_
 rw[hu.len,rP,xA,yB,xA];have e1:vA .i64 (vA .i64 (2*(w.limbs.length:Int))+1)=((2*w.limbs.length+1:Nat):Int):=by
  rw[zC (n:=2*(w.limbs.length:Int)) (by omega) (by omega),zC (by omega) (by omega)];omega
 rw[e1];intro b hb hbase;obtain⟨t',g1,g2,g3,_⟩:=zvl (C:=yA) (k:=.u8) (cap:=2*w.limbs.length+1) zy5 rfl ty5 rfl rfl (by decide) (by omega) hb
 rw[g1,xA,xA,yB,xA];have ej:vA .i64 ((j:Int)+1)=((j+1:Nat):Int):=by rw[zC (by omega) (by omega)];omega
 exact zwm (f:=f) (j:=j) hu hl hlt hs hbase hb (fun t2 h2=>by rw[ej];exact hQ t2 h2) w.limbs.length 0 t' (by omega) g3 (by simpa[jI,kL]using g2)
def zB.short(v:zB):Prop:=v.f.n.limbs.length<400/\v.f.d.limbs.length<400
def zB.mid(v:zB):Prop:=v.f.n.limbs.length<100000/\v.f.d.limbs.length<100000
theorem zcb{v:zB}(h:zB.short v):zB.mid v:=⟨Nat.lt_trans h.1 (by decide),Nat.lt_trans h.2 (by decide)⟩
theorem key_ok{v:zB}{a b:zA}(hv:v.fit)(hs:zB.short v)(ha:oA t 1 (lC v.f.n.limbs) a)(hb:oA t 1 (lC v.f.d.limbs) b):sD yA F 276 [.agg [.int .u8 v.kind,.bool v.f.n.neg,a,.bool v.f.d.neg,b,.int .i64 v.i]] t=some (.str (cA v)):=by
 obtain⟨h1,h2,h3,h4⟩:=hv
 obtain⟨_,hn,hd⟩:=h2
 have l1:=zbh (n:=(v.kind:Int)) (by omega) (by omega)
 have l2:=zbh h3 h4
 have hk:vA .i64 (v.kind:Int)=(v.kind:Int):=zC (by omega) (by omega)
 have v0:fN yA 325 (.agg [.bool v.f.n.neg,a,.bool v.f.d.neg,b]) (.int .i64 ((0:Nat):Int))=some (.agg [.bool v.f.n.neg,a]):=by kernel_rfl
 have v1:fN yA 325 (.agg [.bool v.f.n.neg,a,.bool v.f.d.neg,b]) (.int .i64 ((0+1:Nat):Int))=some (.agg [.bool v.f.d.neg,b]):=by kernel_rfl
 have lk:(kJ v.f.n).length<1000:=by
  have hbt:(eM v.f.n.neg).length<=5:=by unfold eM;split<;>simp
  have hli:=zbh (n:=((2*v.f.n.limbs.length:Nat):Int)) (by omega) (by have:=hs.1;omega)
  have:=hs.1
  unfold kJ;simp[sX]
  simp at hli;omega
 refine zij (w276 _ _ _ _ _ _ ?_)
 simp only[t276,qA,hk];rw[q291,zlt (by omega) (by omega),xA,qI,xA,if_pos hO,jT (by simp only[yah,yao,yay];omega),xA,qI,xA,q291,zlt h3 h4,xA,qI,xA,jT (by simp only[yah,yao,yay];omega),xA,qI,xA]
 simp only[if_true];refine zi8 (f:=v.f) (j:=0) (w:=v.f.n) (by omega) v0 ha hs.1 hn (by simp;omega) fun t1 k1=>?_
 refine zi8 (f:=v.f) (j:=0+1) (w:=v.f.d) (by omega) v1 (hb.mono k1) hs.2 hd (by simp;omega) fun t2 k2=>?_
 refine z3o _ _ _ _ _ _ ?_
 simp only[zto,qA,dB];rw[if_neg (by omega)]
 exact⟨by unfold cA;rfl,k1.trans k2⟩
end Go.Proofs
namespace Go.Proofs
open Go Go.Am
variable [cC]
variable {t tf:Tr lA}{key:zB->List Nat}{r:TR}{s:iE}
theorem _root_.Go.Am.Objs.copy{base:Nat}{L:List zD}(h:Objs base tf t L){n:Nat}{t' tf':Tr lA}(hn:t.get n=none)(h1:dA tf tf')(h2:dA tf' t')(h3:oD n t t')(h4:oD n tf tf'):Objs base tf' t' L:=
 h.keep h1 h2 fun k hk=>by
  have:k≠n:=fun e=>h.fresh hn (e ▸ hk)
  exact⟨h3 k this,by rw[h4 k this];exact(h.low k hk).2⟩
theorem iW{w:rH}{u:zA}(hu:oA t 1 (lC w.limbs) u):RD t w.d [.bool w.neg,u]:=by
 unfold rH.d;rw[gI];refine⟨[[.bool w.neg],[u]],rfl,?_⟩
 simp only[eD,gE,lQ,uK];exact⟨_,_,rfl,rfl,_,_,rfl,⟨u,rfl,hu⟩,rfl⟩
theorem zcs{f:uF}{u v:zA}(hu:oA t 1 (lC f.n.limbs) u)(hv:oA t 1 (lC f.d.limbs) v):RD t f.dd [.bool f.n.neg,u,.bool f.d.neg,v]:=by
 unfold uF.dd;rw[gI];refine⟨[[.bool f.n.neg,u],[.bool f.d.neg,v]],rfl,?_⟩
 rw[eD];refine⟨_,_,rfl,iW hu,?_⟩
 rw[eD];exact⟨_,_,rfl,iW hv,gE.2 rfl⟩
theorem vS{x:zB}{u v:zA}(hu:oA t 1 (lC x.f.n.limbs) u)(hv:oA t 1 (lC x.f.d.limbs) v):RD t x.d [.int .u8 x.kind,.bool x.f.n.neg,u,.bool x.f.d.neg,v,.int .i64 x.i]:=by
 unfold zB.d;rw[gI];refine⟨[[.int .u8 x.kind],[.bool x.f.n.neg,u,.bool x.f.d.neg,v],[.int .i64 x.i]],rfl,?_⟩
 rw[eD];refine⟨_,_,rfl,fL.2 rfl,?_⟩
 rw[eD];refine⟨_,_,rfl,zcs hu hv,?_⟩
 rw[eD];exact⟨_,_,rfl,fL.2 rfl,gE.2 rfl⟩
theorem el41:eI yA 41 227 1:=⟨⟨_,ty41,rfl,rfl⟩,⟨_,zpt,rfl,rfl,by decide,by decide⟩⟩
theorem zme{L:List zD}{v:zB}{a b:zA}{Q:kB}(h:Objs yA.base tf t L)(hs:zB.mid v)(ha:oA tf 1 (lC v.f.n.limbs) a)(hb:oA tf 1 (lC v.f.d.limbs) b)
  (hQ:∀tf' t' a' b',dA tf tf'->Objs yA.base tf' t' L->oA tf' 1 (lC v.f.n.limbs) a'->oA tf' 1 (lC v.f.d.limbs) b'->Q (.agg [.int .u8 v.kind,.bool v.f.n.neg,a',.bool v.f.d.neg,b',.int .i64 v.i]) t') :
  Wc yA F 102 [.agg [.int .u8 v.kind,.bool v.f.n.neg,a,.bool v.f.d.neg,b,.int .i64 v.i]] t Q:=by
 refine w102 _ _ _ _ _ _ ?_
 simp only[t102,qA];intro n hn _;obtain⟨a',k,t1,tf1,g1,g2,g3,g4,_,g6,g7⟩:=lZ (C:=yA) el41 ha h.tle (by rw[rP];have:=hs.1;omega) hn
 have h1:=h.copy hn g3 g4 g6 g7
 have o1:pB zA.one [a']=true:=by rw[mF];simp only[ybh,ybl,g2.one];rfl
 rw[g1,xA,if_pos o1];intro m hm _;obtain⟨b',k',t2,tf2,m1,m2,m3,m4,_,m6,m7⟩:=lZ (C:=yA) el41 (hb.mono g3) h1.tle (by rw[rP];have:=hs.2;omega) hm
 have h2:=h1.copy hm m3 m4 m6 m7
 have o2:pB zA.one [b']=true:=by rw[mF];simp only[ybh,ybl,m2.one];rfl
 have o3:pB zA.one [.int .u8 v.kind,.bool v.f.n.neg,a',.bool v.f.d.neg,b',.int .i64 v.i]=true:=by rw[mF];simp only[ybh,ybl,g2.one,m2.one];rfl
 rw[m1,xA,if_pos o2,if_pos o3];exact hQ tf2 t2 a' b' (g3.trans m3) h2 (g2.mono m3) m2
theorem zcx{m:Nat}{l:List (List Nat)}{k:List Nat}(h:t.get m=some (.map (aD 0 l))):gP yA 107 ⟨0,t⟩ (.map m) (.str k) true=some (if k∈l then .tup [.int .i64 ((kI k l:Nat):Int),.bool true]else .tup [.int .i64 0,.bool false]):=by
 unfold gP;rw[zy6,sA];simp only[mE.asMap,sA];rw[ty9,sA,ty3];simp only[sA];unfold zd8 iL;simp only[zA.asMap];rw[h,sA];simp only[lA.asMap,sA]
 rw[zfh,yax];by_cases hk:k∈l
 ·rw[if_pos hk,if_pos hk];rfl
 ·rw[if_neg hk,if_neg hk];rfl
theorem zbv{m:Nat}{l:List (List Nat)}{k:List Nat}(h:t.get m=some (.map (aD 0 l)))(hb:yA.base<=m)(hk:k∉l) :
  ∃t',(∀n,fR yA 107 (.map m) (.str k) (.int .i64 (l.length:Int)) ⟨n,t⟩=some (tE,⟨n,t'⟩))/\t'.get m=some (.map (aD 0 (l++[k])))/\oD m t t':=by
 refine⟨t.set m (.map (aD 0 (l++[k]))),fun n=>?_,by rw[Tr.get_set,if_pos rfl],fun c hc=>by rw[Tr.get_set,if_neg hc]⟩
 unfold fR;rw[zy6,sA];simp only[mE.asMap,sA];rw[ty9,sA];simp only[zA.asMap,sA];have e2:(!Nat.blt m yA.base)=true:=by
  cases hq:Nat.blt m yA.base with
  | true=>have:=oC.1 hq;omega
  | false=>rfl
 have:=za0 l 0 hk
 rw[yax]at this;unfold iL;rw[e2,dE,h,sA];simp only[lA.asMap,sA];rw[this,sA];rfl
theorem el30:eI yA 30 9 1:=⟨⟨_,z4k,rfl,rfl⟩,⟨_,ty9,rfl,rfl,by decide,by decide⟩⟩
theorem el31:eI yA 31 47 6:=⟨⟨_,z2f,rfl,rfl⟩,⟨_,ty47,rfl,rfl,by decide,by decide⟩⟩
theorem el32:eI yA 32 37 1:=⟨⟨_,z4j,rfl,rfl⟩,⟨_,zrr,rfl,rfl,by decide,by decide⟩⟩
def addN (l:List (List Nat))(n:List Nat):List (List Nat):=if n∈l then l else l++[n]
def addC (key:zB->List Nat)(l:List zB)(v:zB):List zB:=if key v∈l.map key then l else l++[v]
theorem zlo{n:List Nat}{Q:kB}(h:TS key tf t r s)(hl:s.names.length<300000)
  (hQ:∀t' r',r'.b=r.b->r'.kp=r.kp->TS key tf t' r' ⟨addN s.names n,s.consts,s.ws,s.ts,s.code⟩->Q (.int .i64 ((kI n s.names:Nat):Int)) t'):Wc yA F 234 [.ptr r.b 0,.str n] t Q:=by
 refine w234 _ _ ?_
 simp only[t234,qA];rw[zJ,xA,tO,xA,zdf,xA,h.ldN,xA];simp only[zJ,xA,tO,z6u,zdf,h.ldM1];rw[q277];refine w277 _ _ _ _ ?_
 simp only[t277,qA];rw[zcx h.map1,xA];have hlen:r.cells.length=11:=by simp[TR.cells,h.pl]
 unfold addN at hQ;by_cases hk:n∈s.names
 ·rw[if_pos hk]at hQ ⊢
  simp only[bB,zA.asTup,sA,bD,yaa,yab,xA,yB,pD,Bool.not_true,yar,if_false];intro m _ _;obtain⟨t1,g1,g2,g3⟩:=h.cel.store1 (C:=yA) h.baseB.1 (j:=4) (v:=r.vn) z4k rfl (by
   rcases h.ln with⟨e,_⟩ | ⟨b,cl,c,e,_⟩<;>rw[e]<;>rfl) h.ln.one (by omega)
  have es:r.cells.set 4 r.vn=r.cells:=by
   have:=wS (p:=r.pl) h.pl (l:=[r.vn,r.vc,r.vw,r.vt,.map r.m1,.map r.m2,r.vk]) (k:=0) (v:=r.vn)
   exact this
  rw[es]at g2;rw[g1,xA];refine hQ t1 r rfl rfl ⟨h.pl,?_⟩
  exact Objs.upd (A:=[]) (o:=eC r.b none r.cells) h.os (fun k k1 _=>g3 k (fun e=>k1 (by simp[eC,e]))) (fun k hk=>.inl hk) g2 (by simp[eC]) (h.os.tle.off h.baseB.2 g3)
 ·rw[if_neg hk]at hQ ⊢
  simp only[bB,zA.asTup,sA,bD,yaa,yab,xA,yB,pD,ybm,if_true,h.ln.len,yag];intro m0 _ _;have lowM:yA.base<=r.m1/\tf.get r.m1=none:=h.os.low r.m1 (by simp[tsL,eC,cD])
  obtain⟨t1,a1,a2,a3⟩:=zbv h.map1 lowM.1 hk
  have o1:Objs yA.base tf t1 ([eC r.b none r.cells]++cD r.m1 (aD 0 (s.names++[n]))::[cD r.m2 (aD 0 (s.consts.map key)),jB yA.base 1 (s.names.map D.str) r.vn,jB yA.base 6 (s.consts.map zB.d) r.vc,jB yA.base 1 s.ws r.vw,jB yA.base 1 s.ts r.vt,jB yA.base 3 (s.code.map XIns.d) r.vk]):=
   Objs.upd (o:=cD r.m1 (aD 0 s.names)) h.os (fun k k1 _=>a3 k (fun e=>k1 (by simp[cD,e]))) (fun k hk=>.inl hk) a2 (by simp[cD]) (h.os.tle.off lowM.2 a3)
  rw[a1,xA];intro n2 hn2 _;obtain⟨t2,b1,b2,b3,b4⟩:=bO (C:=yA) (T:=30) (el:=9) (sz:=1) (n:=1) (cl:=[[.str n]]) (ps:=[(0,.str n)]) z4k rfl ty9 rfl rfl (by decide) rfl (fun i cs hi=>by
   cases i with
   | zero=>simp at hi;subst hi;rfl
   | succ i=>simp at hi) rfl hn2
  have o2:=o1.junk hn2 b4
  rw[b1,xA];intro n3 hn3 hb3;have ln2:Loose yA.base tf t2 1 (s.names.map D.str) r.vn:=o2.ok (jB yA.base 1 (s.names.map D.str) r.vn) (by simp)
  obtain⟨t3,c1,c2,c3,c4⟩:=cS (C:=yA) el30 (m:=[.str n]) ln2 b2 (by simp[eD,gE,qO]) (by intro a ha;simp at ha;subst ha;rfl) (by simp) (by simp;omega) hn3 hb3 o2.tle
  have ec:(s.names.map D.str).length+[D.str n].length=(s.names++[n]).length:=by simp
  have hd:s.names.map D.str++[D.str n]=(s.names++[n]).map D.str:=by simp
  rw[ec,hd]at c2;have o3:Objs yA.base tf t3 ([eC r.b none r.cells,cD r.m1 (aD 0 (s.names++[n])),cD r.m2 (aD 0 (s.consts.map key))]++jB yA.base 1 ((s.names++[n]).map D.str) (.slice n3 0 (s.names++[n]).length (s.names++[n]).length)::[jB yA.base 6 (s.consts.map zB.d) r.vc,jB yA.base 1 s.ws r.vw,jB yA.base 1 s.ts r.vt,jB yA.base 3 (s.code.map XIns.d) r.vk]):=by
   refine Objs.upd (o:=jB yA.base 1 (s.names.map D.str) r.vn) o2 (fun k k1 k2=>c4 k ?_ (fun e=>k1 (cK.2 e))) (fun k hk=>?_) c2 (by simp[jB,zE]) c3
   ·intro e;subst e;exact k2 (by simp[jB,zE])
   ·have:k=n3:=by simpa[jB,zE]using hk
    subst this;exact .inr ⟨hn3,hb3⟩
  rw[c1,xA,ec];simp only[bB,zA.asTup,sA,bD,yaa,yab,xA,yB];intro m4 _ _;have cel3:vD t3 r.b none r.cells:=o3.ok (eC r.b none r.cells) (by simp)
  obtain⟨t4,g1,g2,g3⟩:=cel3.store1 (C:=yA) h.baseB.1 (j:=4) (v:=.slice n3 0 (s.names++[n]).length (s.names++[n]).length) z4k rfl rfl rfl (by omega)
  have es:r.cells.set 4 (.slice n3 0 (s.names++[n]).length (s.names++[n]).length)=TR.cells ⟨r.b,r.pl,.slice n3 0 (s.names++[n]).length (s.names++[n]).length,r.vc,r.vw,r.vt,r.vk,r.m1,r.m2⟩:=wS (k:=0) h.pl
  rw[es]at g2;rw[g1,xA,<- aT hk];refine hQ t4 ⟨r.b,r.pl,.slice n3 0 (s.names++[n]).length (s.names++[n]).length,r.vc,r.vw,r.vt,r.vk,r.m1,r.m2⟩ rfl rfl ⟨h.pl,?_⟩
  exact Objs.upd (A:=[]) (o:=eC r.b none r.cells) o3 (fun k k1 _=>g3 k (fun e=>k1 (by simp[eC,e]))) (fun k hk=>.inl hk) g2 (by simp[eC]) (c3.off h.baseB.2 g3)
theorem zdj{v:zB}{a b:zA}{Q:kB}(h:TS cA tf t r s)(hl:s.consts.length<300000)(hv:v.fit)(hs:zB.short v)(ha:oA tf 1 (lC v.f.n.limbs) a)(hb:oA tf 1 (lC v.f.d.limbs) b)
  (hQ:∀tf' t' r',dA tf tf'->r'.b=r.b->r'.kp=r.kp->TS cA tf' t' r' ⟨s.names,addC cA s.consts v,s.ws,s.ts,s.code⟩->Q (.int .i64 ((kI (cA v) (s.consts.map cA):Nat):Int)) t'):Wc yA F 233 [.ptr r.b 0,.agg [.int .u8 v.kind,.bool v.f.n.neg,a,.bool v.f.d.neg,b,.int .i64 v.i]] t Q:=by
 have hk0:=key_ok hv hs (ha.mono h.os.tle) (hb.mono h.os.tle)
 have hsame:same 10 (.agg [.int .u8 v.kind,.bool v.f.n.neg,a,.bool v.f.d.neg,b,.int .i64 v.i]) (.agg [.int .u8 v.kind,.bool v.f.n.neg,a,.bool v.f.d.neg,b,.int .i64 v.i])=true:=by
  show Am.same.sames 9 [.int .u8 v.kind,.bool v.f.n.neg,a,.bool v.f.d.neg,b,.int .i64 v.i] [.int .u8 v.kind,.bool v.f.n.neg,a,.bool v.f.d.neg,b,.int .i64 v.i]=true
  simp only[Am.same.sames,hO,zud,ha.same,hb.same,Bool.and_self]
 have sm:∀m d,same d (.map m) (.map m)=true:=fun m d=>by
  have e:∀n,Nat.beq n n=true:=Nat.beq_refl
  cases d <;> (unfold Am.same;simp only[e,Bool.and_self])
 refine w233 _ _ _ _ _ _ _ ?_
 simp only[t233,qA];rw[zJ,xA,tO,xA,zde,xA,h.ldC,xA];simp only[zJ,xA,tO,z6t,zde,h.ldM2];rw[q276,hk0,xA,qI,xA]
 simp only[xA,h.ldC,h.ldM2,h.lc.same,sm,hsame,if_true];rw[q102];refine zme h.os (zcb hs) ha hb fun tf1 t1 a' b' q1 q2 q3 q4=>?_
 have h1:TS cA tf1 t1 r s:=⟨h.pl,q2⟩
 have hz:wG [(.int .u8 0),(.bool false),.nilslice,(.bool false),.nilslice,(.int .i64 0)] (.agg [.int .u8 v.kind,.bool v.f.n.neg,a',.bool v.f.d.neg,b',.int .i64 v.i])=some (cellsOf [.int .u8 v.kind,.bool v.f.n.neg,a',.bool v.f.d.neg,b',.int .i64 v.i]):=gL (by
  show(true&&(true&&(mG .nilslice a'&&(true&&(mG .nilslice b'&&true)))))=true
  rw[bH q3,bH q4];rfl)
 rw[hz,xA];simp only[xA,h1.ldC,h1.ldM2,h1.lc.same,sm,if_true,cellsOf,lF,sF,bF,yaa,yab];rw[q275];refine w275 _ _ _ _ _ _ _ _ _ ?_
 simp only[t275,qA];rw[zcx h1.map2,xA];have hlen:r.cells.length=11:=by simp[TR.cells,h.pl]
 unfold addC at hQ;by_cases hk:cA v∈s.consts.map cA
 ·rw[if_pos hk]at hQ ⊢
  simp only[bB,zA.asTup,sA,bD,yaa,yab,xA,yB,pD,Bool.not_true,yar,if_false,zJ,tO,zde];intro m _ _;obtain⟨t2,g1,g2,g3⟩:=h1.cel.store1 (C:=yA) h.baseB.1 (j:=5) (v:=r.vc) z2f rfl (by
   rcases h.lc with⟨e,_⟩ | ⟨b,cl,c,e,_⟩<;>rw[e]<;>rfl) h.lc.one (by omega)
  have es:r.cells.set 5 r.vc=r.cells:=by
   have:=wS (p:=r.pl) h.pl (l:=[r.vn,r.vc,r.vw,r.vt,.map r.m1,.map r.m2,r.vk]) (k:=1) (v:=r.vc)
   exact this
  rw[es]at g2;rw[g1,xA];refine hQ tf1 t2 r q1 rfl rfl ⟨h.pl,?_⟩
  exact Objs.upd (A:=[]) (o:=eC r.b none r.cells) h1.os (fun k k1 _=>g3 k (fun e=>k1 (by simp[eC,e]))) (fun k hk=>.inl hk) g2 (by simp[eC]) (h1.os.tle.off h1.baseB.2 g3)
 ·rw[if_neg hk]at hQ ⊢
  simp only[bB,zA.asTup,sA,bD,yaa,yab,xA,yB,pD,ybm,if_true,h1.lc.len,yag,zJ,tO,zde];intro m0 _ _;have lowM:yA.base<=r.m2/\tf1.get r.m2=none:=h1.os.low r.m2 (by simp[tsL,eC,cD])
  obtain⟨t2,a1,a2,a3⟩:=zbv h1.map2 lowM.1 hk
  rw[yag]at a1;have em:s.consts.map cA++[cA v]=(s.consts++[v]).map cA:=by simp
  rw[em]at a2;have o1:Objs yA.base tf1 t2 ([eC r.b none r.cells,cD r.m1 (aD 0 s.names)]++cD r.m2 (aD 0 ((s.consts++[v]).map cA))::[jB yA.base 1 (s.names.map D.str) r.vn,jB yA.base 6 (s.consts.map zB.d) r.vc,jB yA.base 1 s.ws r.vw,jB yA.base 1 s.ts r.vt,jB yA.base 3 (s.code.map XIns.d) r.vk]):=
   Objs.upd (o:=cD r.m2 (aD 0 (s.consts.map cA))) h1.os (fun k k1 _=>a3 k (fun e=>k1 (by simp[cD,e]))) (fun k hk=>.inl hk) a2 (by simp[cD]) (h1.os.tle.off lowM.2 a3)
  rw[a1,xA];intro n2 hn2 _;obtain⟨t3,b1,b2,b3,b4⟩:=bO (C:=yA) (T:=31) (el:=47) (sz:=6) (n:=1) (cl:=[[.int .u8 v.kind,.bool v.f.n.neg,a',.bool v.f.d.neg,b',.int .i64 v.i]]) (ps:=[(0,.agg [.int .u8 v.kind,.bool v.f.n.neg,a',.bool v.f.d.neg,b',.int .i64 v.i])]) z2f rfl ty47 rfl rfl (by decide) rfl (fun i cs hi=>by
   cases i with
   | zero=>simp at hi;subst hi;rfl
   | succ i=>simp at hi) rfl hn2
  have o2:=o1.junk hn2 b4
  rw[b1,xA];intro n3 hn3 hb3;have ln2:Loose yA.base tf1 t3 6 (s.consts.map zB.d) r.vc:=o2.ok (jB yA.base 6 (s.consts.map zB.d) r.vc) (by simp)
  have hrd:RD tf1 v.d [.int .u8 v.kind,.bool v.f.n.neg,a',.bool v.f.d.neg,b',.int .i64 v.i]:=vS q3 q4
  obtain⟨t4,c1,c2,c3,c4⟩:=cS (C:=yA) el31 (m:=[v.d]) ln2 b2 (by rw[eD];exact⟨_,_,rfl,hrd,gE.2 rfl⟩) (by
   intro x hx;simp only[List.flatten_cons,List.flatten_nil,ybe,yat,List.not_mem_nil,or_false]at hx;rcases hx with rfl | rfl | rfl | rfl | rfl | rfl
   ·rfl
   ·rfl
   ·exact q3.one
   ·rfl
   ·exact q4.one
   ·rfl) (by simp) (by simp;omega) hn3 hb3 o2.tle
  have ec:(s.consts.map zB.d).length+[v.d].length=(s.consts++[v]).length:=by simp
  have hd:s.consts.map zB.d++[v.d]=(s.consts++[v]).map zB.d:=by simp
  rw[ec,hd]at c2;have o3:Objs yA.base tf1 t4 ([eC r.b none r.cells,cD r.m1 (aD 0 s.names),cD r.m2 (aD 0 ((s.consts++[v]).map cA)),jB yA.base 1 (s.names.map D.str) r.vn]++jB yA.base 6 ((s.consts++[v]).map zB.d) (.slice n3 0 (s.consts++[v]).length (s.consts++[v]).length)::[jB yA.base 1 s.ws r.vw,jB yA.base 1 s.ts r.vt,jB yA.base 3 (s.code.map XIns.d) r.vk]):=by
   refine Objs.upd (o:=jB yA.base 6 (s.consts.map zB.d) r.vc) o2 (fun k k1 k2=>c4 k ?_ (fun e=>k1 (cK.2 e))) (fun k hk=>?_) c2 (by simp[jB,zE]) c3
   ·intro e;subst e;exact k2 (by simp[jB,zE])
   ·have:k=n3:=by simpa[jB,zE]using hk
    subst this;exact .inr ⟨hn3,hb3⟩
  rw[c1,xA,ec];simp only[bB,zA.asTup,sA,bD,yaa,yab,xA,yB,zJ,tO,zde];intro m4 _ _;have cel3:vD t4 r.b none r.cells:=o3.ok (eC r.b none r.cells) (by simp)
  obtain⟨t5,g1,g2,g3⟩:=cel3.store1 (C:=yA) h.baseB.1 (j:=5) (v:=.slice n3 0 (s.consts++[v]).length (s.consts++[v]).length) z2f rfl rfl rfl (by omega)
  have es:r.cells.set 5 (.slice n3 0 (s.consts++[v]).length (s.consts++[v]).length)=TR.cells ⟨r.b,r.pl,r.vn,.slice n3 0 (s.consts++[v]).length (s.consts++[v]).length,r.vw,r.vt,r.vk,r.m1,r.m2⟩:=wS (k:=1) h.pl
  rw[es]at g2;have ek:((kI (cA v) (s.consts.map cA):Nat):Int)=(s.consts.length:Int):=by rw[aT hk,yag]
  rw[g1,xA,<- ek];refine hQ tf1 t5 ⟨r.b,r.pl,r.vn,.slice n3 0 (s.consts++[v]).length (s.consts++[v]).length,r.vw,r.vt,r.vk,r.m1,r.m2⟩ q1 rfl rfl ⟨h.pl,?_⟩
  exact Objs.upd (A:=[]) (o:=eC r.b none r.cells) o3 (fun k k1 _=>g3 k (fun e=>k1 (by simp[eC,e]))) (fun k hk=>.inl hk) g2 (by simp[eC]) (c3.off h1.baseB.2 g3)
end Go.Proofs
namespace Go.Proofs
open Go Go.Am
variable [cC]
variable {t tf:Tr lA}{r:TR}{s:iE}
def iE.nt(s:iE):Nt:=⟨s.names,s.consts⟩
def iE.put(s:iE)(n:Nt)(l:List XIns):iE:=⟨n.names,n.consts,s.ws,s.ts,s.code++l⟩
theorem z5l(s:iE)(n:List Nat):s.nt.name n=⟨addN s.names n,s.consts⟩:=by
 unfold Nt.name addN iE.nt;split<;>rfl
theorem zn9(s:iE)(v:zB):s.nt.const cA v=⟨s.names,addC cA s.consts v⟩:=by
 unfold Nt.const addC iE.nt;split<;>rfl
theorem zio{x:uA}{a b c:zA}{Q:kB}(h:TS cA tf t r s)(hx:x.fit)(hsh:x.op=1->zB.short x.v)(hn:s.names.length<300000)(hc:s.consts.length<300000)(hk:s.code.length<300000)
  (ha:oA tf 1 (lC x.v.f.n.limbs) a) (hb:oA tf 1 (lC x.v.f.d.limbs) b) (hcc:oA tf 9 (x.args.map uA.d) c)
  (hQ:∀tf' t' r',dA tf tf'->r'.b=r.b->r'.kp=r.kp->TS cA tf' t' r' (s.put (yF cA x.op x.name x.v x.args.length s.nt).1 [(yF cA x.op x.name x.v x.args.length s.nt).2])->Q (.tup []) t') :
  Wc yA F 170 [.ptr r.b 0,.agg (jC x a b c)] t Q:=by
 obtain⟨op,name,v,args⟩:=x
 simp only[uA.op,uA.name,uA.v,uA.args]at ha hb hcc hQ hsh;unfold uA.fit at hx;obtain⟨h1,h2,_,h3,h4,_⟩:=hx
 unfold xE at h4;have w:vA .i64 (op:Int)=(op:Int):=zC (by omega) (by omega)
 have fC:∀ {tf1 t1:Tr lA} {r1:TR} {s1:iE} {i:XIns} {Q':kB},TS cA tf1 t1 r1 s1->r1.b=r.b->s1.code.length<300000->(∀tf' t' r',dA tf1 tf'->r'.b=r1.b->r'.kp=r1.kp->TS cA tf' t' r' (s1.put s1.nt [i])->Q' (.tup []) t') →
   Wq yA F lH 168 [.ptr r.b 0,.int .u8 i.op,.int .i64 i.a,.int .i64 i.b] t1 fun _ t'=>Q' (.tup []) t':=by
  intro tf1 t1 r1 s1 i Q' k1 k2 k3 k4;rw[z2w,<- k2];exact yT k1 k3 fun tf' t' r' v p1 p2 p3 p4 _=>k4 tf' t' r' p1 p2 p3 p4
 have nm:∀ {K:Int->Prop} {Q':kB} {o:Nat} {y:Int},(yF cA op name v args.length s.nt)=(s.nt.name name,⟨o,s.nt.nameI name,y⟩) →
   Wq yA F lH 234 [.ptr r.b 0,.str name] t fun u t'=>sG (zyw .i64 u) fun n=>Wq yA F lH 168 [.ptr r.b 0,.int .u8 o,.int .i64 n,.int .i64 y] t' fun _ t'=>Q (.tup []) t':=by
  intro K Q' o y he;rw[q234];refine zlo h hn fun t1 r1 k1 k2 k3=>?_
  rw[yB,xA];refine fC (i:=⟨o,_,y⟩) (Q':=Q) k3 k1 hk fun tf' t' r' p1 p2 p3 p4=>hQ tf' t' r' p1 (p2.trans k1) (p3.trans k2) ?_
  rw[he,z5l];exact p4
 refine w170 _ _ _ _ _ _ _ _ _ _ ?_
 have pos:∀ {k:Nat} {x y:T} {Q:kB},op=k->wp 170 x t Q->wp 170 (.ite (wA (op:Int) (k:Int)) x y) t Q:=fun h hx=>aA (jE.2 (by omega)) hx
 have neg:∀ {k:Nat} {x y:T} {Q:kB},op≠k->wp 170 y t Q->wp 170 (.ite (wA (op:Int) (k:Int)) x y) t Q:=fun h hy=>qC (fun e=>absurd (jE.1 e) (by omega)) hy
 unfold t170;by_cases c1:op=1
 ·refine pos c1 ?_
  have he:yF cA op name v args.length s.nt=(s.nt.const cA v,⟨1,s.nt.constI cA v,0⟩):=by unfold yF;rw[if_pos c1]
  simp only[qA];rw[q233];refine zdj h hc h3 (hsh c1) ha hb fun tf1 t1 r1 k0 k1 k2 k3=>?_
  rw[yB,xA];refine fC (i:=⟨1,_,0⟩) (Q':=Q) k3 k1 hk fun tf' t' r' p1 p2 p3 p4=>hQ tf' t' r' (k0.trans p1) (p2.trans k1) (p3.trans k2) ?_
  rw[he,zn9];exact p4
 ·refine neg c1 ?_
  by_cases c2:op=2
  ·refine pos c2 ?_
   have he:yF cA op name v args.length s.nt=(s.nt,⟨2,0,0⟩):=by unfold yF;rw[if_neg c1,if_pos c2]
   simp only[qA];refine fC (i:=⟨2,0,0⟩) (Q':=Q) h rfl hk fun tf' t' r' p1 p2 p3 p4=>hQ tf' t' r' p1 p2 p3 ?_
   rw[he];exact p4
  ·refine neg c2 ?_
   have h345:∀(o:Nat),op=o->(o=3\/o=4\/o=5)->yF cA op name v args.length s.nt=(s.nt.name name,⟨o,s.nt.nameI name,0⟩):=by
    intro o e1 e2;unfold yF;rw[if_neg c1,if_neg c2,if_pos (by omega),e1]
   by_cases c3:op=3
   ·refine pos c3 ?_
    simp only[qA];exact nm (K:=fun _=>True) (Q':=Q) (h345 3 c3 (by omega))
   ·refine neg c3 ?_
    by_cases c4:op=4
    ·refine pos c4 ?_
     simp only[qA];exact nm (K:=fun _=>True) (Q':=Q) (h345 4 c4 (by omega))
    ·refine neg c4 ?_
     by_cases c5:op=5
     ·refine pos c5 ?_
      simp only[qA];exact nm (K:=fun _=>True) (Q':=Q) (h345 5 c5 (by omega))
     ·refine neg c5 ?_
      by_cases c6:op=6
      ·refine pos c6 ?_
       have he:yF cA op name v args.length s.nt=(s.nt.name name,⟨6,s.nt.nameI name,args.length⟩):=by unfold yF;rw[if_neg c1,if_neg c2,if_neg (by omega),if_pos c6]
       simp only[qA];rw[hcc.len,xA,yag,yB,xA];simp only[xA,hcc.same,hO,if_true];exact nm (K:=fun _=>True) (Q':=Q) he
      ·refine neg c6 ?_
       have h8:(op=21\/op=22\/op=23)->yF cA op name v args.length s.nt=(s.nt.name name,⟨8,s.nt.nameI name,op⟩):=by
        intro e;unfold yF;rw[if_neg c1,if_neg c2,if_neg (by omega),if_neg c6,if_pos e]
       by_cases c21:op=21
       ·refine pos c21 (pos c21 ?_)
        simp only[qA,uA.op,uA.name,uA.v,uA.args,w,hO,if_true];exact nm (K:=fun _=>True) (Q':=Q) (h8 (by omega))
       ·refine neg c21 ?_
        by_cases c23:op=23
        ·refine pos c23 (pos c23 ?_)
         simp only[qA,uA.op,uA.name,uA.v,uA.args,w,hO,if_true];exact nm (K:=fun _=>True) (Q':=Q) (h8 (by omega))
        ·refine neg c23 ?_
         by_cases c22:op=22
         ·refine pos c22 ?_
          simp only[qA,uA.op,uA.name,uA.v,uA.args,w,hO,if_true];exact nm (K:=fun _=>True) (Q':=Q) (h8 (by omega))
         ·refine neg c22 ?_
          by_cases c19:op=19
          ·refine pos c19 ?_
           have he:yF cA op name v args.length s.nt=(s.nt,⟨7,19,v.i⟩):=by unfold yF;rw[if_neg c1,if_neg c2,if_neg (by omega),if_neg c6,if_neg (by omega),if_pos c19]
           simp only[qA,uA.op,uA.name,uA.v,uA.args,w];refine fC (i:=⟨7,(op:Int),v.i⟩) (Q':=Q) h rfl hk fun tf' t' r' p1 p2 p3 p4=>hQ tf' t' r' p1 p2 p3 ?_
           rw[he];subst c19;exact p4
          ·refine neg c19 ?_
           have he:yF cA op name v args.length s.nt=(s.nt,⟨7,op,0⟩):=by unfold yF;rw[if_neg c1,if_neg c2,if_neg (by omega),if_neg c6,if_neg (by omega),if_neg c19]
           simp only[qA,uA.op,uA.name,uA.v,uA.args,w];refine fC (i:=⟨7,(op:Int),0⟩) (Q':=Q) h rfl hk fun tf' t' r' p1 p2 p3 p4=>hQ tf' t' r' p1 p2 p3 ?_
           rw[he];exact p4
end Go.Proofs
namespace Go.Am
mutual
def wE:uA->Nat
 | .mk _ _ _ args=>1+lJ args
def lJ:List uA->Nat
 | []=>0
 | x::l=>wE x+lJ l
end
section
variable {key:zB->List Nat}{valid:zB->Bool}
def oP(f:dG)(n:Nat):Prop:=∀s p,(f s p).2.length<=4*n/\(f s p).1.names.length<=s.names.length+n/\(f s p).1.consts.length<=s.consts.length+n
theorem z0f(s:Nt)(n:List Nat):(s.name n).names.length<=s.names.length+1/\(s.name n).consts=s.consts:=by
 unfold Nt.name;split<;>simp
theorem zjs(s:Nt)(v:zB):(s.const key v).consts.length<=s.consts.length+1/\(s.const key v).names=s.names:=by
 unfold Nt.const;split<;>simp
theorem zu9(op:Nat)(name:List Nat)(v:zB)(n:Nat)(s:Nt):(yF key op name v n s).1.names.length<=s.names.length+1/\(yF key op name v n s).1.consts.length<=s.consts.length+1:=by
 have h1:=z0f s name
 have h2:=zjs (key:=key) s v
 unfold yF;split
 ·simp only[h2.2];omega
 ·split
  ·simp
  ·split
   ·simp only[h1.2];omega
   ·split
    ·simp only[h1.2];omega
    ·split
     ·simp only[h1.2];omega
     ·split<;>simp
theorem zep{f g:dG}{n m:Nat}{skip:Nat}{truth:Int}(hf:oP f n)(hg:oP g m):oP (nK key f g skip truth) (1+(n+m)):=by
 intro s p;have h1:=hf s p
 have h2:=hg (f s p).1 (p+(f s p).2.length+1)
 have h3:=zjs (key:=key) (g (f s p).1 (p+(f s p).2.length+1)).1 (yG truth)
 unfold nK;simp only[yah,yao,yay,h3.2];omega
theorem zzl{f g h:dG}{n m k:Nat}(hf:oP f n)(hg:oP g m)(hh:oP h k):oP (ifT f g h) (1+(n+(m+k))):=by
 intro s p;have h1:=hf s p
 have h2:=hg (f s p).1 (p+(f s p).2.length+1)
 have h3:=hh (g (f s p).1 (p+(f s p).2.length+1)).1 (p+(f s p).2.length+1+(g (f s p).1 (p+(f s p).2.length+1)).2.length+1)
 unfold ifT;simp only[yah,yao];omega
theorem zb7:∀(l:List uA),(∀x∈l,oP (yC key valid x) (wE x))->oP (kE (qE key valid l)) (lJ l)
 | [],_=>by intro s p;simp[qE,kE,lJ]
 | x::l,h=>by
  intro s p;have h1:=h x (by simp) s p
  have h2:=zb7 l (fun y hy=>h y (by simp[hy])) (yC key valid x s p).1 (p+(yC key valid x s p).2.length)
  simp only[qE,kE,lJ,yah];omega
mutual
theorem lO:∀(x:uA),oP (yC key valid x) (wE x)
 | .mk op name v args=>by
  have ih:=zhy args
  intro s p;unfold yC wE cH;by_cases h0:sI valid op v (qE key valid args).length=false
  ·simp only[if_pos h0,yao,yay];omega
  ·simp only[if_neg h0]
   have h0:sI valid op v (qE key valid args).length=true:=by simpa using h0
   rw[zkt]at h0;have hn:=h0
   unfold sI at hn;simp only[yac,decide_eq_true_eq]at hn;by_cases h15:op=15
   ·simp only[if_pos h15]
    subst h15;have:args.length=2:=by have h1:=hn.1.2;have h2:=hn.2;simp[sH]at h1 h2;omega
    match args,this,ih with
    | [a,b],_,ih=>
     have:=zep (key:=key) (skip:=10) (truth:=0) (ih a (by simp)) (ih b (by simp)) s p
     simp only[qE,lJ];simpa using this
   ·simp only[if_neg h15]
    by_cases h16:op=16
    ·simp only[if_pos h16]
     subst h16;have:args.length=2:=by have h1:=hn.1.2;have h2:=hn.2;simp[sH]at h1 h2;omega
     match args,this,ih with
     | [a,b],_,ih=>
      have:=zep (key:=key) (skip:=11) (truth:=1) (ih a (by simp)) (ih b (by simp)) s p
      simp only[qE,lJ];simpa using this
    ·simp only[if_neg h16]
     by_cases h18:op=18
     ·simp only[if_pos h18]
      subst h18;have:args.length=3:=by have h1:=hn.1.2;have h2:=hn.2;simp[sH]at h1 h2;omega
      match args,this,ih with
      | [a,b,c],_,ih=>
       have:=zzl (ih a (by simp)) (ih b (by simp)) (ih c (by simp)) s p
       simp only[qE,lJ];simpa using this
     ·simp only[if_neg h18]
      have h1:=zb7 args ih s p
      have h2:=zu9 (key:=key) op name v (qE key valid args).length (kE (qE key valid args) s p).1
      simp only[yah,yao,yay];omega
theorem zhy:∀(l:List uA),∀x∈l,oP (yC key valid x) (wE x)
 | [],x,h=>by cases h
 | y::l,x,h=>by
  rcases yat.1 h with e | h
  ·rw[e];exact lO y
  ·exact zhy l x h
end
end
end Go.Am
namespace Go.Proofs
open Go Go.Am
variable [cC]
variable {t tf:Tr lA}{r:TR}{s:iE}
mutual
theorem zax:∀(x:uA) (deep c:Nat),(bL x deep c).1=true->(bL x deep c).2=c+wE x
 | .mk op name v args,deep,c,h=>by
  unfold bL at h ⊢
  unfold wE;split at h
  ·cases h
  ·rename_i h1
   rw[if_neg h1];split at h
   ·cases h
   ·rename_i h2
    rw[if_neg h2,zay args _ _ h];omega
theorem zay:∀(l:List uA) (deep c:Nat),(aL l deep c).1=true->(aL l deep c).2=c+lJ l
 | [],deep,c,h=>by unfold aL lJ;rfl
 | x::l,deep,c,h=>by
  unfold aL at h ⊢
  unfold lJ;split at h
  ·rename_i h1
   rw[if_pos h1,zay l _ _ h,zax x _ _ h1];omega
  ·cases h
end
theorem uW{x:uA}(h:zR x=true):wE x<=200:=by
 have h1:=zax x 1 0 h
 have h2:=(zb9 x 1 0 (by omega)).2 h
 omega
theorem lV{l:List uA}{v:zA}(hv:oA tf 9 (l.map uA.d) v)(ht:dA tf t){i:Nat}{x:uA}(hx:l[i]?=some x) :
  ∃b off a c d,xB yA 48 v (.int .i64 (i:Int))=some (.ptr b off)/\jA yA 50 ⟨0,t⟩ (.ptr b off)=some (.agg (jC x a c d))/\RD tf x.d (jC x a c d)/\wG [(.int .u8 0),(.str []),(.int .u8 0),(.bool false),.nilslice,(.bool false),.nilslice,(.int .i64 0),.nilslice] (.agg (jC x a c d))=some (cellsOf (jC x a c d)) ∧
   oA tf 1 (lC x.v.f.n.limbs) a/\oA tf 1 (lC x.v.f.d.limbs) c/\oA tf 9 (x.args.map uA.d) d:=by
 obtain⟨b,off,a,c,d,g1,g2,g3,g4,g5,g6,g7⟩:=zdg hv hx
 exact⟨b,off,a,c,d,g1,fP (H:=⟨0,tf⟩) (fun _ _ h=>ht _ _ h) g2,g3,g4,g5,g6,g7⟩
theorem zbt{v:zB}(h:sB v=true):zB.short v:=by
 have z:nO v.f=true->zB.short v:=by
  intro h;unfold nO zue zp9 at h;simp only[yac,decide_eq_true_eq]at h;unfold zB.short;rw[h.1.2,h.2.2];simp
 have f:fQ v.f=true->zB.short v:=by
  intro h;unfold fQ at h;simp only[yac,decide_eq_true_eq]at h;have h1:=h.1.1.1.1.1.1
  have h2:=h.1.1.1.1.1.2
  exact⟨by omega,by omega⟩
 unfold sB at h;split at h
 ·simp only[yac]at h;exact f h.2
 ·split at h
  ·simp only[yac]at h;exact z h.1
  ·split at h
   ·simp only[yac]at h;exact z h.1
   ·split at h
    ·simp only[yac]at h;exact z h.1
    ·cases h
theorem zce{α:Type}{A B:List α}{x y:α}{n:Nat}(h:A.length=n):(A++x::B).set n y=A++y::B:=by
 subst h;rw[List.set_append_right _ _ (yal _),Nat.sub_self];rfl
theorem zg1{α:Type}{A B:List α}{x:α}{n:Nat}(h:A.length=n):(A++x::B)[n]?=some x:=by
 subst h;rw[yaq (yal _),Nat.sub_self];rfl
def jQ(x:uA):Prop:=∀(cs:List zA) (t tf:Tr lA) (r:TR) (s:iE) (Q:kB),x.fit->dJ tf->RD tf x.d cs->TS cA tf t r s->s.code.length+4*wE x<300000->s.names.length+wE x<300000->s.consts.length+wE x<300000 →
 (∀tf' t' r',dA tf tf'->r'.b=r.b->r'.kp=r.kp->TS cA tf' t' r' (s.put (yC cA sB x s.nt s.code.length).1 (yC cA sB x s.nt s.code.length).2)->Q (.tup []) t')->Wc yA F 104 [.ptr r.b 0,.agg cs] t Q
theorem yM{sz:Nat}:oA t sz [] .nilslice:=⟨[],.inl ⟨rfl,rfl⟩,gE.2 rfl⟩
theorem zai{a b:uA}{cs:List zA}{args:List uA}{op:Nat}{name:List Nat}{v:zB}{u1 u2 u3:zA}{skip:Nat}{truth:Int}{Q:kB}(hA:jQ a)(hB:jQ b)(hcs:cs=jC (.mk op name v args) u1 u2 u3)(hargs:args=[a,b])(hfa:a.fit)(hfb:b.fit)(hg:dJ tf)(hu:oA tf 9 (args.map uA.d) u3)(h:TS cA tf t r s)
  (htr : -9223372036854775808<=truth/\truth<9223372036854775808) (b1:s.code.length+4*(1+(wE a+wE b))<300000) (b2:s.names.length+(1+(wE a+wE b))<300000) (b3:s.consts.length+(1+(wE a+wE b))<300000)
  (hQ:∀tf' t' r',dA tf tf'->r'.b=r.b->r'.kp=r.kp->TS cA tf' t' r' (s.put (nK cA (yC cA sB a) (yC cA sB b) skip truth s.nt s.code.length).1 (nK cA (yC cA sB a) (yC cA sB b) skip truth s.nt s.code.length).2)->Q (.tup []) t') :
  Wc yA F 169 [.ptr r.b 0,.agg cs,.int .u8 (skip:Int),.agg [.int .u8 1,.bool false,.nilslice,.bool false,.nilslice,.int .i64 truth]] t Q:=by
 subst hcs;refine w169 _ _ _ _ _ _ _ _ _ _ _ _ _ _ _ _ _ ?_
 simp only[t169,qA,uA.op,uA.name,uA.v,uA.args];obtain⟨p,o,x1,x2,x3,g1,g2,g3,g4,_,_,_⟩:=lV hu h.os.tle (i:=0) (x:=a) (by rw[hargs];rfl)
 have g1:xB yA 48 u3 (.int .i64 0)=some (.ptr p o):=g1
 rw[g1,xA,g2,xA,g4,xA];simp only[jC,cellsOf,bF,iG,lF,sF,yaa,yab];rw[z48];have sa:=lO (key:=cA) (valid:=sB) a s.nt s.code.length
 refine hA _ t tf r s _ hfa hg g3 h (by omega) (by omega) (by omega) fun tf1 t1 r1 k1 k2 k3 k4=>?_
 generalize eR:yC cA sB a s.nt s.code.length=R at *
 have sa1:R.1.names.length<=s.names.length+wE a:=sa.2.1
 have sa2:R.1.consts.length<=s.consts.length+wE a:=sa.2.2
 rw[z2w,<- k2];refine yT (i:=⟨skip,0,0⟩) k4 (by show(s.code++R.2).length<_;rw[yah];omega) fun tf2 t2 r2 v2 m1 m2 m3 m4 m5=>?_
 obtain⟨p',o',y1,y2,y3,f1,f2,f3,f4,_,_,_⟩:=lV hu ((k1.trans m1).trans m4.os.tle) (i:=1) (x:=b) (by rw[hargs];rfl)
 have f1:xB yA 48 u3 (.int .i64 1)=some (.ptr p' o'):=f1
 rw[f1,xA,f2,xA,f4,xA];simp only[jC,cellsOf,bF,iG,lF,sF,yaa,yab];rw[z48,<- m2];have e2:(s.code++R.2++[(⟨skip,0,0⟩:XIns)]).length=s.code.length+R.2.length+1:=by simp only[yah,yao,yay]
 have sb:=lO (key:=cA) (valid:=sB) b R.1 (s.code.length+R.2.length+1)
 refine hB _ t2 tf2 r2 _ _ hfb ((hg.mono k1).mono m1) (RD.mono (k1.trans m1) _ _ f3) m4 (by show(s.code++R.2++[_]).length+_<_;rw[e2];omega) (by show R.1.names.length+_<_;omega) (by show R.1.consts.length+_<_;omega) fun tf3 t3 r3 n1 n2 n3 n4=>?_
 have n4:TS cA tf3 t3 r3 (iE.put ⟨R.1.names,R.1.consts,s.ws,s.ts,s.code++R.2++[(⟨skip,0,0⟩:XIns)]⟩ (yC cA sB b R.1 (s.code++R.2++[(⟨skip,0,0⟩:XIns)]).length).1 (yC cA sB b R.1 (s.code++R.2++[(⟨skip,0,0⟩:XIns)]).length).2):=n4
 rw[e2]at n4;generalize eG:yC cA sB b R.1 (s.code.length+R.2.length+1)=G at *
 unfold iE.put at n4;simp only at n4
 have lg:G.2.length<=4*wE b:=sb.1
 have lr:R.2.length<=4*wE a:=sa.1
 have ln:G.1.names.length<=R.1.names.length+wE b:=sb.2.1
 have lc:G.1.consts.length<=R.1.consts.length+wE b:=sb.2.2
 rw[z2w,<- n2];refine yT (i:=⟨12,0,0⟩) n4 (by show(s.code++R.2++[_]++G.2).length<_;rw[yah,e2];omega) fun tf4 t4 r4 v4 p1 p2 p3 p4 _=>?_
 have e4:(s.code++R.2++[(⟨skip,0,0⟩:XIns)]++G.2++[(⟨12,0,0⟩:XIns)]).length=s.code.length+R.2.length+1+G.2.length+1:=by simp;omega
 rw[z2w,<- p2];refine yT (i:=⟨9,0,0⟩) p4 (by show(s.code++R.2++[_]++G.2++[_]).length<_;rw[e4];omega) fun tf5 t5 r5 v5 c1 c2 c3 c4 c5=>?_
 have ecode:s.code++R.2++[(⟨skip,0,0⟩:XIns)]++G.2++[(⟨12,0,0⟩:XIns)]++[(⟨9,0,0⟩:XIns)]=(s.code++R.2)++⟨skip,0,0⟩::(G.2++[⟨12,0,0⟩,⟨9,0,0⟩]):=by simp
 have e5:(s.code++R.2++[(⟨skip,0,0⟩:XIns)]++G.2++[(⟨12,0,0⟩:XIns)]++[(⟨9,0,0⟩:XIns)]).length=s.code.length+R.2.length+1+G.2.length+2:=by simp;omega
 have hb5:r5.b=r1.b:=by rw[c2,p2,n2,m2]
 have m5':Tgt tf5 r5.b v2 (s.code++R.2).length:=by
  rw[hb5];exact m5.mono (n1.trans (p1.trans c1))
 have tg1:=jX (i:=(s.code++R.2).length) (x:=⟨skip,0,0⟩) (v:=v2) (Q:=fun u t'=>Wq yA F lH 233 [.ptr r4.b 0,.agg [.int .u8 1,.bool false,.nilslice,.bool false,.nilslice,.int .i64 truth]] t' fun a' t'=>sG (zyw .i64 a') fun n=>Wq yA F lH 168 [.ptr r4.b 0,.int .u8 1,.int .i64 n,.int .i64 0] t' fun _ t'=>sG (wM v5 []) fun q=>Wq yA F lH q.1 q.2 t' fun _ t'=>Q (.tup []) t') c4 m5' (by show(s.code++R.2++[_]++G.2++[_]++[_])[_]?=_;rw[ecode];exact zg1 rfl) (by show(s.code++R.2++[_]++G.2++[_]++[_]).length<_;rw[e5];omega) (fun t6 h6=>?_)
 ·exact tg1
 ·have h6:TS cA tf5 t6 r5 ⟨G.1.names,G.1.consts,s.ws,s.ts,(s.code++R.2++[(⟨skip,0,0⟩:XIns)]++G.2++[(⟨12,0,0⟩:XIns)]++[(⟨9,0,0⟩:XIns)]).set (s.code++R.2).length ⟨skip,((s.code++R.2++[(⟨skip,0,0⟩:XIns)]++G.2++[(⟨12,0,0⟩:XIns)]++[(⟨9,0,0⟩:XIns)]).length:Nat),0⟩⟩:=h6
  rw[e5,ecode,zce rfl]at h6;rw[q233,<- c2];have hfit:(yG truth).fit:=⟨(by show 1<256;decide),⟨⟨(by show 0<xE;decide),(by show 0<xE;decide)⟩,(fun x hx=>by cases hx),(fun x hx=>by cases hx)⟩,htr.1,htr.2⟩
  refine zdj (v:=yG truth) h6 (by show G.1.consts.length<_;omega) hfit ⟨(by show 0<400;decide),(by show 0<400;decide)⟩ yM yM fun tf7 t7 r7 d1 d2 d3 d4=>?_
  rw[yB,xA,z2w,<- d2];have e7:((s.code++R.2)++⟨skip,((s.code.length+R.2.length+1+G.2.length+2:Nat):Int),0⟩::(G.2++[(⟨12,0,0⟩:XIns),⟨9,0,0⟩])).length=s.code.length+R.2.length+1+G.2.length+2:=by simp;omega
  refine yT (i:=⟨1,((kI (cA (yG truth)) (G.1.consts.map cA):Nat):Int),0⟩) d4 (by show(_++_::_).length<_;rw[e7];omega) fun tf8 t8 r8 v8 z1 z2 z3 z4 _=>?_
  have ecode2:((s.code++R.2)++⟨skip,((s.code.length+R.2.length+1+G.2.length+2:Nat):Int),0⟩::(G.2++[(⟨12,0,0⟩:XIns),⟨9,0,0⟩]))++[(⟨1,((kI (cA (yG truth)) (G.1.consts.map cA):Nat):Int),0⟩:XIns)] =
   ((s.code++R.2)++⟨skip,((s.code.length+R.2.length+1+G.2.length+2:Nat):Int),0⟩::(G.2++[(⟨12,0,0⟩:XIns)]))++⟨9,0,0⟩::[⟨1,((kI (cA (yG truth)) (G.1.consts.map cA):Nat):Int),0⟩]:=by simp
  have e8:((s.code++R.2)++⟨skip,((s.code.length+R.2.length+1+G.2.length+2:Nat):Int),0⟩::(G.2++[(⟨12,0,0⟩:XIns)])).length=(s.code++R.2++[(⟨skip,0,0⟩:XIns)]++G.2++[(⟨12,0,0⟩:XIns)]).length:=by simp
  have e9:(((s.code++R.2)++⟨skip,((s.code.length+R.2.length+1+G.2.length+2:Nat):Int),0⟩::(G.2++[(⟨12,0,0⟩:XIns),⟨9,0,0⟩]))++[(⟨1,((kI (cA (yG truth)) (G.1.consts.map cA):Nat):Int),0⟩:XIns)]).length=s.code.length+R.2.length+1+G.2.length+3:=by simp;omega
  have hb8:r8.b=r4.b:=by rw[z2,d2,c2]
  have c5':Tgt tf8 r8.b v5 (s.code++R.2++[(⟨skip,0,0⟩:XIns)]++G.2++[(⟨12,0,0⟩:XIns)]).length:=by
   rw[hb8];exact c5.mono (d1.trans z1)
  refine jX (x:=⟨9,0,0⟩) z4 c5' (by show(_++[_])[_]?=_;rw[ecode2];exact zg1 e8) (by show(_++[_]).length<_;rw[e9];omega) fun t9 h9=>?_
  refine hQ tf8 t9 r8 (k1.trans (m1.trans (n1.trans (p1.trans (c1.trans (d1.trans z1)))))) (by rw[hb8,p2,n2,m2,k2]) (by rw[z3,d3,c3,p3,n3,m3,k3]) ?_
  have h9:TS cA tf8 t9 r8 ⟨G.1.names,addC cA G.1.consts (yG truth),s.ws,s.ts,(((s.code++R.2)++⟨skip,((s.code.length+R.2.length+1+G.2.length+2:Nat):Int),0⟩::(G.2++[(⟨12,0,0⟩:XIns),⟨9,0,0⟩]))++[(⟨1,((kI (cA (yG truth)) (G.1.consts.map cA):Nat):Int),0⟩:XIns)]).set (s.code++R.2++[(⟨skip,0,0⟩:XIns)]++G.2++[(⟨12,0,0⟩:XIns)]).length ⟨9,((((s.code++R.2)++⟨skip,((s.code.length+R.2.length+1+G.2.length+2:Nat):Int),0⟩::(G.2++[(⟨12,0,0⟩:XIns),⟨9,0,0⟩]))++[(⟨1,((kI (cA (yG truth)) (G.1.consts.map cA):Nat):Int),0⟩:XIns)]).length:Nat),0⟩⟩:=h9
  rw[e9,ecode2,zce e8]at h9;unfold iE.put nK;rw[eR,eG];have en:G.1.const cA (yG truth)=⟨G.1.names,addC cA G.1.consts (yG truth)⟩:=zn9 ⟨G.1.names,G.1.consts,[],[],[]⟩ (yG truth)
  rw[en];have el:s.code++(R.2++⟨skip,((s.code.length+R.2.length+1+G.2.length+2:Nat):Int),0⟩::(G.2++[(⟨12,0,0⟩:XIns),⟨9,((s.code.length+R.2.length+1+G.2.length+3:Nat):Int),0⟩,⟨1,((G.1.constI cA (yG truth):Nat):Int),0⟩])) =
   ((s.code++R.2)++⟨skip,((s.code.length+R.2.length+1+G.2.length+2:Nat):Int),0⟩::(G.2++[(⟨12,0,0⟩:XIns)]))++⟨9,((s.code.length+R.2.length+1+G.2.length+3:Nat):Int),0⟩::[⟨1,((kI (cA (yG truth)) (G.1.consts.map cA):Nat):Int),0⟩]:=by
   simp[Nt.constI]
  rw[el];exact h9
end Go.Proofs
namespace Go.Proofs
open Go Go.Am
variable [cC]
variable {t tf:Tr lA}{r:TR}{s:iE}
theorem if_ok{a b d:uA}{args:List uA}{u3:zA}{Q:kB}(hA:jQ a)(hB:jQ b)(hD:jQ d)(hargs:args=[a,b,d])(hfa:a.fit)(hfb:b.fit)(hfd:d.fit)(hg:dJ tf)(hu:oA tf 9 (args.map uA.d) u3)(h:TS cA tf t r s)
  (b1:s.code.length+4*(1+(wE a+(wE b+wE d)))<300000) (b2:s.names.length+(1+(wE a+(wE b+wE d)))<300000) (b3:s.consts.length+(1+(wE a+(wE b+wE d)))<300000)
  (hQ:∀tf' t' r',dA tf tf'->r'.b=r.b->r'.kp=r.kp->TS cA tf' t' r' (s.put (ifT (yC cA sB a) (yC cA sB b) (yC cA sB d) s.nt s.code.length).1 (ifT (yC cA sB a) (yC cA sB b) (yC cA sB d) s.nt s.code.length).2)->Q (.tup []) t') :
  wp 104 (.opt (xB yA 48 u3 (.int .i64 0)) fun a5=>.light (fun m=>jA yA 50 ⟨0,m⟩ a5) fun a6=>.asG [(.int .u8 0),(.str []),(.int .u8 0),(.bool false),.nilslice,(.bool false),.nilslice,(.int .i64 0),.nilslice] a6 fun X7=>
 .call 104 [.ptr r.b 0,(.agg [(.int .u8 (X7.i 0)),(.str (X7.s 1)),(.int .u8 (X7.i 2)),(.bool (X7.b 3)),(X7.v 4),(.bool (X7.b 5)),(X7.v 6),(.int .i64 (X7.i 7)),(X7.v 8)])] fun a8=>
 .call 168 [.ptr r.b 0,(.int .u8 10),(.int .i64 0),(.int .i64 0)] fun a9=>
 .opt (xB yA 48 u3 (.int .i64 1)) fun a10=>.light (fun m=>jA yA 50 ⟨0,m⟩ a10) fun a11=>.asG [(.int .u8 0),(.str []),(.int .u8 0),(.bool false),.nilslice,(.bool false),.nilslice,(.int .i64 0),.nilslice] a11 fun X12=>
 .call 104 [.ptr r.b 0,(.agg [(.int .u8 (X12.i 0)),(.str (X12.s 1)),(.int .u8 (X12.i 2)),(.bool (X12.b 3)),(X12.v 4),(.bool (X12.b 5)),(X12.v 6),(.int .i64 (X12.i 7)),(X12.v 8)])] fun aE=>
 .call 168 [.ptr r.b 0,(.int .u8 9),(.int .i64 0),(.int .i64 0)] fun a14=>
 .callv a9 [] fun a15=>
 .opt (xB yA 48 u3 (.int .i64 2)) fun a16=>.light (fun m=>jA yA 50 ⟨0,m⟩ a16) fun a17=>.asG [(.int .u8 0),(.str []),(.int .u8 0),(.bool false),.nilslice,(.bool false),.nilslice,(.int .i64 0),.nilslice] a17 fun X18=>
 .call 104 [.ptr r.b 0,(.agg [(.int .u8 (X18.i 0)),(.str (X18.s 1)),(.int .u8 (X18.i 2)),(.bool (X18.b 3)),(X18.v 4),(.bool (X18.b 5)),(X18.v 6),(.int .i64 (X18.i 7)),(X18.v 8)])] fun a19=>
 .callv a14 [] fun a20=>
 .ret (.tup [])) t Q:=by
 simp only[qA];obtain⟨p,o,x1,x2,x3,g1,g2,g3,g4,_,_,_⟩:=lV hu h.os.tle (i:=0) (x:=a) (by rw[hargs];rfl)
 have g1:xB yA 48 u3 (.int .i64 0)=some (.ptr p o):=g1
 rw[g1,xA,g2,xA,g4,xA];simp only[jC,cellsOf,bF,iG,lF,sF,yaa,yab];rw[z48];have sa:=lO (key:=cA) (valid:=sB) a s.nt s.code.length
 refine hA _ t tf r s _ hfa hg g3 h (by omega) (by omega) (by omega) fun tf1 t1 r1 k1 k2 k3 k4=>?_
 generalize eR:yC cA sB a s.nt s.code.length=R at *
 have sa1:R.1.names.length<=s.names.length+wE a:=sa.2.1
 have sa2:R.1.consts.length<=s.consts.length+wE a:=sa.2.2
 rw[z2w,<- k2];refine yT (i:=⟨10,0,0⟩) k4 (by show(s.code++R.2).length<_;rw[yah];omega) fun tf2 t2 r2 v2 m1 m2 m3 m4 m5=>?_
 obtain⟨p',o',y1,y2,y3,f1,f2,f3,f4,_,_,_⟩:=lV hu ((k1.trans m1).trans m4.os.tle) (i:=1) (x:=b) (by rw[hargs];rfl)
 have f1:xB yA 48 u3 (.int .i64 1)=some (.ptr p' o'):=f1
 rw[f1,xA,f2,xA,f4,xA];simp only[jC,cellsOf,bF,iG,lF,sF,yaa,yab];rw[z48,<- m2];have e2:(s.code++R.2++[(⟨10,0,0⟩:XIns)]).length=s.code.length+R.2.length+1:=by simp only[yah,yao,yay]
 have sb:=lO (key:=cA) (valid:=sB) b R.1 (s.code.length+R.2.length+1)
 refine hB _ t2 tf2 r2 _ _ hfb ((hg.mono k1).mono m1) (RD.mono (k1.trans m1) _ _ f3) m4 (by show(s.code++R.2++[_]).length+_<_;rw[e2];omega) (by show R.1.names.length+_<_;omega) (by show R.1.consts.length+_<_;omega) fun tf3 t3 r3 n1 n2 n3 n4=>?_
 have n4:TS cA tf3 t3 r3 (iE.put ⟨R.1.names,R.1.consts,s.ws,s.ts,s.code++R.2++[(⟨10,0,0⟩:XIns)]⟩ (yC cA sB b R.1 (s.code++R.2++[(⟨10,0,0⟩:XIns)]).length).1 (yC cA sB b R.1 (s.code++R.2++[(⟨10,0,0⟩:XIns)]).length).2):=n4
 rw[e2]at n4;generalize eG:yC cA sB b R.1 (s.code.length+R.2.length+1)=G at *
 unfold iE.put at n4;simp only at n4
 have lg:G.2.length<=4*wE b:=sb.1
 have lr:R.2.length<=4*wE a:=sa.1
 have ln:G.1.names.length<=R.1.names.length+wE b:=sb.2.1
 have lc:G.1.consts.length<=R.1.consts.length+wE b:=sb.2.2
 rw[z2w,<- n2];have e3:(s.code++R.2++[(⟨10,0,0⟩:XIns)]++G.2).length=s.code.length+R.2.length+1+G.2.length:=by simp only[yah,yao,yay]
 refine yT (i:=⟨9,0,0⟩) n4 (by show(s.code++R.2++[_]++G.2).length<_;rw[e3];omega) fun tf5 t5 r5 v5 c1 c2 c3 c4 c5=>?_
 have ecode:s.code++R.2++[(⟨10,0,0⟩:XIns)]++G.2++[(⟨9,0,0⟩:XIns)]=(s.code++R.2)++⟨10,0,0⟩::(G.2++[⟨9,0,0⟩]):=by simp
 have e5:(s.code++R.2++[(⟨10,0,0⟩:XIns)]++G.2++[(⟨9,0,0⟩:XIns)]).length=s.code.length+R.2.length+1+G.2.length+1:=by simp only[yah,yao,yay]
 have hb5:r5.b=r1.b:=by rw[c2,n2,m2]
 have m5':Tgt tf5 r5.b v2 (s.code++R.2).length:=by
  rw[hb5];exact m5.mono (n1.trans c1)
 refine jX (i:=(s.code++R.2).length) (x:=⟨10,0,0⟩) (v:=v2) c4 m5' (by show(s.code++R.2++[_]++G.2++[_])[_]?=_;rw[ecode];exact zg1 rfl) (by show(s.code++R.2++[_]++G.2++[_]).length<_;rw[e5];omega) (fun t6 h6=>?_)
 have h6:TS cA tf5 t6 r5 ⟨G.1.names,G.1.consts,s.ws,s.ts,(s.code++R.2++[(⟨10,0,0⟩:XIns)]++G.2++[(⟨9,0,0⟩:XIns)]).set (s.code++R.2).length ⟨10,((s.code++R.2++[(⟨10,0,0⟩:XIns)]++G.2++[(⟨9,0,0⟩:XIns)]).length:Nat),0⟩⟩:=h6
 rw[e5,ecode,zce rfl]at h6;obtain⟨p6,o6,w1,w2,w3,l1,l2,l3,l4,_,_,_⟩:=lV hu ((((k1.trans m1).trans n1).trans c1).trans h6.os.tle) (i:=2) (x:=d) (by rw[hargs];rfl)
 have l1:xB yA 48 u3 (.int .i64 2)=some (.ptr p6 o6):=l1
 rw[l1,xA,l2,xA,l4,xA];simp only[jC,cellsOf,bF,iG,lF,sF,yaa,yab];have e6:((s.code++R.2)++⟨10,((s.code.length+R.2.length+1+G.2.length+1:Nat):Int),0⟩::(G.2++[(⟨9,0,0⟩:XIns)])).length=s.code.length+R.2.length+1+G.2.length+1:=by simp only[yah,yao,yay];omega
 have sd:=lO (key:=cA) (valid:=sB) d G.1 (s.code.length+R.2.length+1+G.2.length+1)
 rw[z48,<- c2];refine hD _ t6 tf5 r5 _ _ hfd (((hg.mono k1).mono m1).mono (n1.trans c1)) (RD.mono ((k1.trans m1).trans (n1.trans c1)) _ _ l3) h6 (by show((s.code++R.2)++_::_).length+_<_;rw[e6];omega) (by show G.1.names.length+_<_;omega) (by show G.1.consts.length+_<_;omega) fun tf7 t7 r7 d1 d2 d3 d4=>?_
 have d4:TS cA tf7 t7 r7 (iE.put ⟨G.1.names,G.1.consts,s.ws,s.ts,(s.code++R.2)++⟨10,((s.code.length+R.2.length+1+G.2.length+1:Nat):Int),0⟩::(G.2++[(⟨9,0,0⟩:XIns)])⟩ (yC cA sB d G.1 ((s.code++R.2)++⟨10,((s.code.length+R.2.length+1+G.2.length+1:Nat):Int),0⟩::(G.2++[(⟨9,0,0⟩:XIns)])).length).1 (yC cA sB d G.1 ((s.code++R.2)++⟨10,((s.code.length+R.2.length+1+G.2.length+1:Nat):Int),0⟩::(G.2++[(⟨9,0,0⟩:XIns)])).length).2):=d4
 rw[e6]at d4;generalize eW:yC cA sB d G.1 (s.code.length+R.2.length+1+G.2.length+1)=W at *
 unfold iE.put at d4;simp only at d4
 have lw:W.2.length<=4*wE d:=sd.1
 have hb7:r7.b=r3.b:=by rw[d2,c2]
 have c5':Tgt tf7 r7.b v5 (s.code++R.2++[(⟨10,0,0⟩:XIns)]++G.2).length:=by
  rw[hb7];exact c5.mono d1
 have ecode2:((s.code++R.2)++⟨10,((s.code.length+R.2.length+1+G.2.length+1:Nat):Int),0⟩::(G.2++[(⟨9,0,0⟩:XIns)]))++W.2=((s.code++R.2)++⟨10,((s.code.length+R.2.length+1+G.2.length+1:Nat):Int),0⟩::G.2)++⟨9,0,0⟩::W.2:=by simp
 have e8:((s.code++R.2)++⟨10,((s.code.length+R.2.length+1+G.2.length+1:Nat):Int),0⟩::G.2).length=(s.code++R.2++[(⟨10,0,0⟩:XIns)]++G.2).length:=by simp
 have e9:(((s.code++R.2)++⟨10,((s.code.length+R.2.length+1+G.2.length+1:Nat):Int),0⟩::(G.2++[(⟨9,0,0⟩:XIns)]))++W.2).length=s.code.length+R.2.length+1+G.2.length+1+W.2.length:=by simp only[yah,yao,yay];omega
 refine jX (x:=⟨9,0,0⟩) d4 c5' (by show(_++W.2)[_]?=_;rw[ecode2];exact zg1 e8) (by show(_++W.2).length<_;rw[e9];omega) fun t9 h9=>?_
 refine hQ tf7 t9 r7 (k1.trans (m1.trans (n1.trans (c1.trans d1)))) (by rw[hb7,n2,m2,k2]) (by rw[d3,c3,n3,m3,k3]) ?_
 have h9:TS cA tf7 t9 r7 ⟨W.1.names,W.1.consts,s.ws,s.ts,(((s.code++R.2)++⟨10,((s.code.length+R.2.length+1+G.2.length+1:Nat):Int),0⟩::(G.2++[(⟨9,0,0⟩:XIns)]))++W.2).set (s.code++R.2++[(⟨10,0,0⟩:XIns)]++G.2).length ⟨9,((((s.code++R.2)++⟨10,((s.code.length+R.2.length+1+G.2.length+1:Nat):Int),0⟩::(G.2++[(⟨9,0,0⟩:XIns)]))++W.2).length:Nat),0⟩⟩:=h9
 rw[e9,ecode2,zce e8]at h9;unfold iE.put ifT;rw[eR,eG,eW];have el:s.code++(R.2++⟨10,((s.code.length+R.2.length+1+G.2.length+1:Nat):Int),0⟩::(G.2++⟨9,((s.code.length+R.2.length+1+G.2.length+1+W.2.length:Nat):Int),0⟩::W.2)) =
  ((s.code++R.2)++⟨10,((s.code.length+R.2.length+1+G.2.length+1:Nat):Int),0⟩::G.2)++⟨9,((s.code.length+R.2.length+1+G.2.length+1+W.2.length:Nat):Int),0⟩::W.2:=by simp
 rw[el];exact h9
theorem zye{op:Nat}{name:List Nat}{v:zB}{args:List uA}{a b c:zA}{Q:kB}(ih:∀x∈args,jQ x)(hfit:∀x∈args,x.fit)(hlen:args.length<xE):∀(l:List uA) (i:Nat) (t tf:Tr lA) (r:TR) (s:iE),args.drop i=l->dJ tf->oA tf 9 (args.map uA.d) c->TS cA tf t r s->s.code.length+4*lJ l<300000->s.names.length+lJ l<300000->s.consts.length+lJ l<300000 →
  (∀tf' t' r',dA tf tf'->r'.b=r.b->r'.kp=r.kp->TS cA tf' t' r' (s.put (kE (qE cA sB l) s.nt s.code.length).1 (kE (qE cA sB l) s.nt s.code.length).2)->Wc yA F 170 [.ptr r.b 0,.agg (jC (.mk op name v args) a b c)] t' fun _ t''=>Q (.tup []) t'') →
  jp 104 4 [.ptr r.b 0,c,.int .i64 (args.length:Int),.int .i64 (i:Int),.int .u8 (op:Int),.str name,.int .u8 (v.kind:Int),.bool v.f.n.neg,a,.bool v.f.d.neg,b,.int .i64 v.i,c] t Q:=by
 unfold xE at hlen;intro l;induction l with
 | nil=>
  intro i t tf r s hl hg hc h _ _ _ hQ;have:=vX hl
  refine z3x _ _ _ _ _ _ _ _ _ _ _ _ _ ?_
  simp only[zt0,qA,dB];rw[if_neg (by omega),q170]
  refine hQ tf t r (dA.refl _) rfl rfl ?_
  have:s.put (kE (qE cA sB []) s.nt s.code.length).1 (kE (qE cA sB []) s.nt s.code.length).2=s:=by
   simp[qE,kE,iE.put,iE.nt]
  rw[this];exact h
 | cons x l ihl=>
  intro i t tf r s hl hg hc h b1 b2 b3 hQ;obtain⟨h1,h2,h3⟩:=uX hl
  have hx:=ybw h1
  obtain⟨p,o,x1,x2,x3,g1,g2,g3,g4,g5,g6,g7⟩:=lV hc h.os.tle h1
  refine z3x _ _ _ _ _ _ _ _ _ _ _ _ _ ?_
  simp only[zt0,qA,dB];rw[if_pos (by omega),g1,xA,g2,xA,g4,xA]
  simp only[jC,cellsOf,bF,iG,lF,sF,yaa,yab];refine aA (zgk g5.one g6.one g7.one) ?_
  unfold lJ at b1 b2 b3;have sx:=lO (key:=cA) (valid:=sB) x s.nt s.code.length
  rw[z48];refine ih x hx _ t tf r s _ (hfit x hx) hg g3 h (by omega) (by omega) (by omega) fun tf1 t1 r1 k1 k2 k3 k4=>?_
  rw[zC (by omega) (by omega),show(i:Int)+1=((i+1:Nat):Int) by omega,<- k2]
  have sx1:(yC cA sB x s.nt s.code.length).1.names.length<=s.names.length+wE x:=sx.2.1
  have sx2:(yC cA sB x s.nt s.code.length).1.consts.length<=s.consts.length+wE x:=sx.2.2
  have sx3:=sx.1
  refine ihl (i+1) t1 tf1 r1 _ h2 (hg.mono k1) (hc.mono k1) k4 (by show(s.code++_).length+_<_;rw[yah];omega) (by show(yC cA sB x s.nt s.code.length).1.names.length+_<_;omega) (by show(yC cA sB x s.nt s.code.length).1.consts.length+_<_;omega) fun tf2 t2 r2 m1 m2 m3 m4=>?_
  rw[k2];refine hQ tf2 t2 r2 (k1.trans m1) (m2.trans k2) (m3.trans k3) ?_
  have e:s.put (kE (qE cA sB (x::l)) s.nt s.code.length).1 (kE (qE cA sB (x::l)) s.nt s.code.length).2 =
    (s.put (yC cA sB x s.nt s.code.length).1 (yC cA sB x s.nt s.code.length).2).put (kE (qE cA sB l) (s.put (yC cA sB x s.nt s.code.length).1 (yC cA sB x s.nt s.code.length).2).nt (s.put (yC cA sB x s.nt s.code.length).1 (yC cA sB x s.nt s.code.length).2).code.length).1
     (kE (qE cA sB l) (s.put (yC cA sB x s.nt s.code.length).1 (yC cA sB x s.nt s.code.length).2).nt (s.put (yC cA sB x s.nt s.code.length).1 (yC cA sB x s.nt s.code.length).2).code.length).2:=by
   simp[qE,kE,iE.put,iE.nt]
  rw[e];exact m4
theorem z6v{op:Nat}{name:List Nat}{v:zB}{args:List uA}(ih:∀x∈args,jQ x):jQ (.mk op name v args):=by
 intro cs t tf r s Q hfit hg hrd h b1 b2 b3 hQ;obtain⟨a,b,c,rfl,ha,hb,hc⟩:=bI hrd
 simp only[uA.op,uA.name,uA.v,uA.args]at ha hb hc;have hfit':=hfit
 unfold uA.fit at hfit';obtain⟨f1,f2,_,f3,f4,f5⟩:=hfit'
 have ffit:=uA.fits_mem f5
 have hform:=zw6 hfit (hg.mono h.os.tle) (ha.mono h.os.tle) (hb.mono h.os.tle) (hc.mono h.os.tle)
 unfold wE at b1 b2 b3;have etr:yC cA sB (.mk op name v args) s.nt s.code.length=cH cA sB op name v (qE cA sB args) s.nt s.code.length:=by rw[yC]
 rw[etr]at hQ;unfold cH at hQ;rw[zkt]at hQ;refine w104 _ _ _ _ _ _ _ _ _ _ ?_
 have hform':sD yA F 167 [.agg [.int .u8 (op:Int),.str name,.int .u8 (v.kind:Int),.bool v.f.n.neg,a,.bool v.f.d.neg,b,.int .i64 v.i,c]] t=some (.bool (sI sB op v args.length)):=hform
 have pos:∀ {k:Nat} {x y:T} {Q:kB},op=k->wp 104 x t Q->wp 104 (.ite (wA (op:Int) (k:Int)) x y) t Q:=fun h hx=>aA (jE.2 (by omega)) hx
 have neg:∀ {k:Nat} {x y:T} {Q:kB},op≠k->wp 104 y t Q->wp 104 (.ite (wA (op:Int) (k:Int)) x y) t Q:=fun h hy=>qC (fun e=>absurd (jE.1 e) (by omega)) hy
 unfold t104;simp only[uA.op,uA.name,uA.v,uA.args];show Wq yA F lH 167 _ t _
 rw[q167,hform',xA];show sG (zA.asBool (.bool (sI sB op v args.length))) _
 rw[pD,xA]
 cases hf:sI sB op v args.length with
 | false=>
  rw[if_pos hf]at hQ;refine aA rfl ?_
  show Wq yA F lH 168 _ t _
  rw[z2w];exact yT (i:=⟨13,0,0⟩) h (by omega) fun tf' t' r' v' k1 k2 k3 k4 _=>hQ tf' t' r' k1 k2 k3 k4
 | true=>
  rw[if_neg (by rw[hf];simp)]at hQ
  refine qC (by simp) ?_
  have hn:=hf
  unfold sI at hn;simp only[yac,decide_eq_true_eq]at hn;by_cases c15:op=15
  ·refine pos c15 ?_
   rw[if_pos c15]at hQ;subst c15;have h2:args.length=2:=by have h1:=hn.1.2;have h2:=hn.2;simp[sH]at h1 h2;omega
   match args,h2 with
   | [x,y],_=>
    simp only[lJ]at b1 b2 b3;refine aA rfl ?_
    show Wq yA F lH 169 _ t _
    rw[q169];exact zai (skip:=10) (truth:=0) (op:=15) (name:=name) (v:=v) (ih x (by simp)) (ih y (by simp)) rfl rfl (ffit x (by simp)) (ffit y (by simp)) hg hc h ⟨by decide,by decide⟩ (by omega) (by omega) (by omega) hQ
  ·refine neg c15 ?_
   rw[if_neg c15]at hQ;by_cases c16:op=16
   ·refine pos c16 ?_
    rw[if_pos c16]at hQ;subst c16;have h2:args.length=2:=by have h1:=hn.1.2;have h2:=hn.2;simp[sH]at h1 h2;omega
    match args,h2 with
    | [x,y],_=>
     simp only[lJ]at b1 b2 b3;refine aA rfl ?_
     show Wq yA F lH 169 _ t _
     rw[q169];exact zai (skip:=11) (truth:=1) (op:=16) (name:=name) (v:=v) (ih x (by simp)) (ih y (by simp)) rfl rfl (ffit x (by simp)) (ffit y (by simp)) hg hc h ⟨by decide,by decide⟩ (by omega) (by omega) (by omega) hQ
   ·refine neg c16 ?_
    rw[if_neg c16]at hQ;by_cases c18:op=18
    ·refine pos c18 ?_
     rw[if_pos c18]at hQ;subst c18;have h2:args.length=3:=by have h1:=hn.1.2;have h2:=hn.2;simp[sH]at h1 h2;omega
     match args,h2 with
     | [x,y,z],_=>
      simp only[lJ]at b1 b2 b3;exact if_ok (ih x (by simp)) (ih y (by simp)) (ih z (by simp)) rfl (ffit x (by simp)) (ffit y (by simp)) (ffit z (by simp)) hg hc h (by omega) (by omega) (by omega) hQ
    ·refine neg c18 ?_
     rw[if_neg c18]at hQ;have hl:vB c=some (.int .i64 (args.length:Int)):=by rw[hc.len,yag]
     show sG (vB c) _
     rw[hl,xA];show sG (zyw .i64 (.int .i64 (args.length:Int))) _
     rw[yB,xA];refine zye (op:=op) (name:=name) (v:=v) (a:=a) (b:=b) ih ffit f4 args 0 t tf r s (ybs) hg hc h (by omega) (by omega) (by omega) fun tf1 t1 r1 k1 k2 k3 k4=>?_
     have sq:=zb7 (key:=cA) (valid:=sB) args (fun x _=>lO x) s.nt s.code.length
     have sq1:(kE (qE cA sB args) s.nt s.code.length).1.names.length<=s.names.length+lJ args:=sq.2.1
     have sq2:(kE (qE cA sB args) s.nt s.code.length).1.consts.length<=s.consts.length+lJ args:=sq.2.2
     rw[<- k2];refine zio (x:=.mk op name v args) k4 hfit (fun e=>?_) (by show(kE (qE cA sB args) s.nt s.code.length).1.names.length<_;omega) (by show(kE (qE cA sB args) s.nt s.code.length).1.consts.length<_;omega) (by show(s.code++_).length<_;rw[yah];have:=sq.1;omega) (ha.mono k1) (hb.mono k1) (hc.mono k1) fun tf2 t2 r2 m1 m2 m3 m4=>?_
     ·have e:op=1:=e
      have:=hn.1.1
      rw[e]at this;simp at this;exact zbt this
     ·refine hQ tf2 t2 r2 (k1.trans m1) (m2.trans k2) (m3.trans k3) ?_
      have e:s.put (yF cA op name v args.length (kE (qE cA sB args) s.nt s.code.length).1).1 ((kE (qE cA sB args) s.nt s.code.length).2++[(yF cA op name v args.length (kE (qE cA sB args) s.nt s.code.length).1).2]) =
        (s.put (kE (qE cA sB args) s.nt s.code.length).1 (kE (qE cA sB args) s.nt s.code.length).2).put (yF cA op name v args.length (s.put (kE (qE cA sB args) s.nt s.code.length).1 (kE (qE cA sB args) s.nt s.code.length).2).nt).1 [(yF cA op name v args.length (s.put (kE (qE cA sB args) s.nt s.code.length).1 (kE (qE cA sB args) s.nt s.code.length).2).nt).2]:=by
       simp[iE.put,iE.nt]
      show TS cA tf2 t2 r2 (s.put _ _)
      rw[e];exact m4
mutual
theorem zoy:∀x:uA,jQ x
 | .mk _ _ _ args=>z6v (zjl args)
theorem zjl:∀l:List uA,∀x∈l,jQ x
 | [],x,h=>by cases h
 | y::l,x,h=>by
  rcases yat.1 h with e | h
  ·rw[e];exact zoy y
  ·exact zjl l x h
end
end Go.Proofs
