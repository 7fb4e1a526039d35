/- What is alike over all seats: what library functions compute, types held against the program, variables laid, closed runs. -/
import Derived.Lib.Bytealg
import Derived.Lib.Index
import Derived.Lib.IndexMore
import Derived.Test.YthmbkdkibhffbaaGreatDoorG05
set_option linter.all false
noncomputable section
set_option maxRecDepth 100000
namespace Go.Am
open Go Go.RowKit
def zdo(c:Nat):List Nat->Option Nat
 | []=>none
 | x::r=>bif Nat.beq x c then some 0 else ob (zdo c r) fun n=>some (n+1)
def qX(sub:List Nat):List Nat->Bool
 | []=>sub.isEmpty
 | b::l=>bif zq1 sub (b::l)then true else qX sub l
def zar(a:List zA)(_:qA):Option zA:=match a with | [.str s,.int .u8 (.ofNat c)]=>sB (Nat.blt c 256) (some (.int .i64 (match zdo c s with | some n=>.ofNat n | none=>.negSucc 0))) | _=>none
def zc5(a:List zA)(_:qA):Option zA:=match a with | [.str s,.str c]=>sB (Nat.blt (wB s) 4294967281) (some (.bool (qX c s))) | _=>none
def glob (g:Nat)(l:List zA)(t:Tr jA):Tr jA:=t.set g (.cells (Tr.ofList l) (wB l) none)
def aC:fC->Nat
 | .next _=>0
 | .done v _=>match v.asBool with
  | some true=>1
  | _=>2
 | .fail n=>100+n
def zQ(C:iA)(f:Nat)(args:List zA)(H:qA):fC:=match vJ C f args false with
 | some fr=>.next ⟨fr,[],H⟩
 | none=>.fail 0
theorem zg7:∀(c s:List UInt8),zq1 (c.map UInt8.toNat) (s.map UInt8.toNat)=c.isPrefixOf s
 | [],_=>by simp[zq1]
 | _::_,[]=>rfl
 | a::x,b::y=>by
  simp only[ybn,zq1,iC,zg7 x y,List.isPrefixOf];by_cases h:a=b
  ·subst h;simp
  ·have:¬ Nat.beq a.toNat b.toNat=true:=fun e=>h (UInt8.toNat_inj.1 (zC.1 e))
   rw[if_neg this];simp[h]
theorem zdy(c:List UInt8):∀s:List UInt8,qX (c.map UInt8.toNat) (s.map UInt8.toNat)=Lib.contains s c
 | []=>by cases c<;>simp[qX,Lib.contains,Lib.index]
 | b::l=>by
  have ih:=zdy c l
  have hp:=zg7 c (b::l)
  simp only[ybn]at hp ⊢
  simp only[qX,iC,hp,ih];unfold Lib.contains;have ge:=Lib.index_ge l c
  rw[Lib.index];split
  ·simp
  ·split
   ·rename_i e;simp at e;simp[e]
   ·rename_i e;simp at e;simp;omega
theorem zo2(c:UInt8):∀s:List UInt8,(match zdo c.toNat (s.map UInt8.toNat)with | some n=>Int.ofNat n | none=>.negSucc 0)=Lib.indexByte s c
 | []=>rfl
 | b::l=>by
  have ih:=zo2 c l
  simp only[ybn,zdo,iC];rw[Lib.indexByte];by_cases h:b=c
  ·subst h;simp
  ·have:¬ Nat.beq b.toNat c.toNat=true:=fun e=>h (UInt8.toNat_inj.1 (zC.1 e))
   rw[if_neg this];simp only[beq_iff_eq,h,if_false]
   cases hx:zdo c.toNat (l.map UInt8.toNat)with
   | none=>rw[hx]at ih;rw[<- ih];rfl
   | some n=>
    rw[hx]at ih;rw[<- ih];simp only[sA];rw[if_neg (by intro e;simp at e)]
    rfl
theorem z33(c:List UInt8):∀s:List UInt8,match z1o (c.map UInt8.toNat) (s.map UInt8.toNat)with
  | some p=>∃x y,p=(x.map UInt8.toNat,y.map UInt8.toNat)/\0<=Lib.index s c/\x=s.take (Lib.index s c).toNat/\y=s.drop ((Lib.index s c).toNat+c.length)
  | none=>Lib.index s c = -1
 | []=>by
  cases c with
  | nil=>exact⟨[],[],by simp,by simp[Lib.index],by simp,by simp⟩
  | cons a c=>simp[z1o,Lib.index]
 | b::l=>by
  have ih:=z33 c l
  have hp:=zg7 c (b::l)
  have ge:=Lib.index_ge l c
  simp only[ybn]at hp ⊢
  simp only[z1o,iC,hp];rw[Lib.index];by_cases h:c.isPrefixOf (b::l)=true
  ·rw[if_pos h,if_pos h]
   refine⟨[],(b::l).drop c.length,?_,by simp,by simp,by simp⟩
   rw[rO,bD,yag,<- ybn (f:=UInt8.toNat),List.map_drop]
   rfl
  ·rw[if_neg h,if_neg h]
   cases hx:z1o (c.map UInt8.toNat) (l.map UInt8.toNat)with
   | none=>rw[hx]at ih;simp only[]at ih;simp[ih]
   | some p=>
    rw[hx]at ih;obtain⟨x,y,rfl,h1,h2,h3⟩:=ih
    have e:¬ ((Lib.index l c == -1)=true):=by simp;omega
    rw[if_neg e];obtain⟨n,hn⟩:∃n:Nat,Lib.index l c=n:=⟨_,(Int.toNat_of_nonneg h1).symm⟩
    rw[hn]at h2 h3 ⊢
    have e2:((n:Int)+1).toNat=n+1:=by omega
    have e3:((n:Int)).toNat=n:=by omega
    rw[e2];rw[e3]at h2 h3;refine⟨b::x,y,by simp,by omega,by simp[h2],?_⟩
    rw[h3,show n+1+c.length=(n+c.length)+1 by omega]
    simp
def zxh:nE->nE->Bool
 | .bool,.bool=>true
 | .int k,.int j=>kEq k j
 | .string,.string=>true
 | .ptr a,.ptr b=>Nat.beq a b
 | .slice a,.slice b=>Nat.beq a b
 | .arr a c,.arr b d=>Nat.beq a b&&Nat.beq c d
 | .map a c,.map b d=>Nat.beq a b&&Nat.beq c d
 | .struct f,.struct g=>decide (f=g)
 | .func,.func=>true
 | .iface,.iface=>true
 | .other,.other=>true
 | _,_=>false
theorem zxg{a b:nE}(h:zxh a b=true):a=b:=by
 cases a<;>cases b<;>simp[zxh,iJ]at h ⊢<;>first | exact h | exact⟨h.1,h.2⟩
def eqTy (a b:vD):Bool:=zxh a.desc b.desc&&Nat.beq a.size b.size&&Nat.beq a.bytes b.bytes&&same.sames 10 a.zero b.zero&&bEq a.eqOk b.eqOk
theorem z62{a b:vD}(h:eqTy a b=true):a=b:=by
 obtain⟨d,s,y,z,e⟩:=a
 obtain⟨d',s',y',z',e'⟩:=b
 simp only[eqTy,yac,zC,eQ,beq_iff_eq]at h;obtain⟨⟨⟨⟨h1,h2⟩,h3⟩,h4⟩,h5⟩:=h
 rw[zxg h1,h2,h3,zgt _ _ _ h4,h5]
def allT {α:Type}(p:Nat->α->Bool):Tr α->(Nat->Nat)->Bool
 | .leaf,_=>true
 | .node l v r,f=>(match v with | some v=>p (f 0) v | none=>true)&&allT p l (fun m=>f (2*m+1))&&allT p r (fun m=>f (2*m+2))
theorem z7k{α:Type}{p:Nat->α->Bool}:∀(t:Tr α) (f:Nat->Nat),allT p t f=true->∀(n:Nat) v,t.get n=some v->p (f n) v=true:=by
 intro t;induction t with
 | leaf=>intro f _ n v h;rw[Tr.get_leaf]at h;cases h
 | node l x r ihl ihr=>
  intro f h n v hv;simp only[allT,yac]at h;rw[Tr.get_node]at hv;split at hv
  ·rename_i e;subst e
   have:=h.1.1
   rw[hv]at this;exact this
  ·rename_i hn
   split at hv
   ·rename_i e
    have:=ihl _ h.1.2 _ v hv
    rw[show 2*(n / 2)+1=n by omega]at this
    exact this
   ·rename_i e
    have:=ihr _ h.2 _ v hv
    rw[show 2*(n / 2-1)+2=n by omega]at this
    exact this
def zrx (l:List (List UInt8)):List Value:=l.map fun b=>.string ⟨b.toArray⟩
def mu0:Mu:=⟨fun g=>if g<256 then some ⟨g,true,0,0,true⟩else none,fun _=>none⟩
theorem znv{μ:Mu}:∀l:List (List UInt8),qB μ (l.map fun b=>zA.str (b.map UInt8.toNat)) (zrx l)
 | []=>.nil
 | b::l=>.cons (by rw[rA];exact⟨⟨b.toArray⟩,rfl,by simp[tE]⟩) (znv l)
theorem zj9{μ:Mu}{g:Nat}{l:List zA}{vs:List Value}(h:qB μ l vs)(t:TypeId):iH μ ⟨g,true,0,0,true⟩ (.cells (Tr.ofList l) (wB l) none) (.cells vs.toArray t (0,0)):=h.rel_one rfl
theorem z6v{o:fC}(h:aC o=1):∃H,o=.done (.bool true) H:=by
 cases o with
 | next s=>cases h
 | fail n=>simp only[aC]at h;omega
 | done v H=>
  cases hv:v.asBool with
  | none=>simp only[aC,hv]at h;omega
  | some b=>cases b with
   | false=>simp only[aC,hv]at h;omega
   | true=>exact⟨H,by rw[xT.1 hv]⟩
end Go.Am
