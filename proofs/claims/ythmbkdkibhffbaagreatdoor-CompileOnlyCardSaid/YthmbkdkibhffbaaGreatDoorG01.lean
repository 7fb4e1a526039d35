/- -/
import Derived.Below
import Derived.Calls
import Derived.Laws.Cells
import Derived.Laws.Sem
import Derived.Laws.StructEq
import Derived.Laws.World
import Derived.Lib.Strings
set_option linter.all false
noncomputable section
namespace Go.Am
def yaa := @List.getElem?_cons_zero
def yab := @List.getElem?_cons_succ
def yac := @Bool.and_eq_true
def yad := @List.getElem?_eq_some_iff
def yae := @List.getElem?_eq_getElem
def yaf := @Array.getElem?_eq_some_iff
def yag := @List.length_map
def yah := @List.length_append
def yai := @Nat.mul_comm
def yaj := @Nat.mul_le_mul_right
def yak := @Nat.mul_assoc
def yal := @Nat.le_refl
def yam := @List.drop_eq_getElem_cons
def yan := @Nat.mul_add
def yao := @List.length_cons
def yap := @Nat.add_mul
def yaq := @List.getElem?_append_right
def yar := @Bool.false_eq_true
def yas := @List.mem_cons_of_mem
def yat := @List.mem_cons
def yau := @List.drop_eq_nil_of_le
def yav := @List.getElem?_map
def yaw := @Nat.mul_le_mul_left
def yax := @Nat.zero_add
def yay := @List.length_nil
def yaz := @List.mem_cons_self
def yba := @List.append_assoc
def ybb := @List.take_of_length_le
def ybc := @List.all_eq_true
def ybd := @List.length_eq_zero_iff
def ybe := @List.append_nil
def ybf := @Nat.dvd_mul_left_of_dvd
def ybg := @List.mem_append_right
def ybh := @List.all_cons
def ybi := @Nat.div_add_mod
def ybj := @Option.some.inj
def ybk := @List.getElem_mem
def ybl := @List.all_nil
def ybm := @Bool.not_false
def ybn := @List.map_cons
def ybo := @Bool.true_and
def ybp := @List.getElem?_append_left
def ybq := @Bool.not_eq_true'
def ybr := @Bool.or_eq_true
def ybs := @List.drop_zero
def ybt := @Array.getElem?_setIfInBounds
def ybu := @Nat.add_zero
def ybv := @Nat.div_lt_of_lt_mul
def ybw := @List.mem_of_getElem?
def ybx := @List.getElem?_set
def yby := @Array.getD_eq_getD_getElem?
def ybz := @Nat.mod_lt
def yca := @Array.length_toList
def ycb := @List.length_take
def ycc := @Nat.mul_le_mul
def ycd := @List.mem_append_left
def yce := @List.mem_singleton
def ycf := @List.getElem?_drop
def ycg := @List.getElem?_take
def ych := @List.take_add_one
def yci := @List.length_set
def ycj := @List.all_append
def yck := @List.length_drop
end Go.Am
namespace Go.Am
inductive Tr (α:Type) where
 | leaf
 | node (l:Tr α) (v:Option α) (r:Tr α)
def ob {α β:Type}(x:Option α)(f:α->Option β):Option β:=Option.rec (motive:=fun _=>Option β) none f x
namespace Tr
variable {α:Type}
def get (t:Tr α):Nat->Option α:=
 Tr.rec (motive:=fun _=>Nat->Option α) (fun _=>none)
  (fun _ v _ gl gr n=>Bool.rec (motive:=fun _=>Option α) (Bool.rec (motive:=fun _=>Option α) (gr (Nat.pred (Nat.div n (nat_lit 2)))) (gl (Nat.div n (nat_lit 2))) (Nat.beq (Nat.mod n (nat_lit 2)) (nat_lit 1))) v (Nat.beq n (nat_lit 0))) t
def mk (f:Nat):Nat->α->Tr α:=
 Nat.rec (motive:=fun _=>Nat->α->Tr α) (fun _ _=>leaf)
  (fun _ g n v=>Bool.rec (motive:=fun _=>Tr α) (Bool.rec (motive:=fun _=>Tr α) (node leaf none (g (Nat.pred (Nat.div n (nat_lit 2))) v)) (node (g (Nat.div n (nat_lit 2)) v) none leaf) (Nat.beq (Nat.mod n (nat_lit 2)) (nat_lit 1))) (node leaf (some v) leaf) (Nat.beq n (nat_lit 0))) f
def set (t:Tr α):Nat->α->Tr α:=
 Tr.rec (motive:=fun _=>Nat->α->Tr α) (fun n v=>mk (Nat.succ n) n v)
  (fun l x r gl gr n v=>Bool.rec (motive:=fun _=>Tr α) (Bool.rec (motive:=fun _=>Tr α) (node l x (gr (Nat.pred (Nat.div n (nat_lit 2))) v)) (node (gl (Nat.div n (nat_lit 2)) v) x r) (Nat.beq (Nat.mod n (nat_lit 2)) (nat_lit 1))) (node l (some v) r) (Nat.beq n (nat_lit 0))) t
def del (t:Tr α):Nat->Tr α:=
 Tr.rec (motive:=fun _=>Nat->Tr α) (fun _=>leaf)
  (fun l x r gl gr n=>Bool.rec (motive:=fun _=>Tr α) (Bool.rec (motive:=fun _=>Tr α) (node l x (gr (Nat.pred (Nat.div n (nat_lit 2))))) (node (gl (Nat.div n (nat_lit 2))) x r) (Nat.beq (Nat.mod n (nat_lit 2)) (nat_lit 1))) (node l none r) (Nat.beq n (nat_lit 0))) t
def many (t:Tr α)(n:Nat):Nat->Option (List α):=
 Nat.rec (motive:=fun _=>Nat->Option (List α)) (fun _=>some [])
  (fun _ g i=>ob (t.get i) fun v=>ob (g (i+1)) fun l=>some (v::l)) n
def setMany(l:List α):Tr α->Nat->Tr α:=
 List.rec (motive:=fun _=>Tr α->Nat->Tr α) (fun t _=>t) (fun v _ g t i=>g (t.set i v) (i+1)) l
def ofList(l:List α):Tr α:=setMany l leaf 0
end Tr
def oD {α:Type}(l:List α):Nat->Option α:=
 List.rec (motive:=fun _=>Nat->Option α) (fun _=>none) (fun a _ g n=>Bool.rec (motive:=fun _=>Option α) (g (Nat.pred n)) (some a) (Nat.beq n (nat_lit 0))) l
def lK{α:Type}(l:List α):Nat->List α:=
 List.rec (motive:=fun _=>Nat->List α) (fun _=>[]) (fun a l g n=>bif Nat.beq n 0 then a::l else g (n-1)) l
def xP{α:Type}(l:List α):Nat->List α:=
 List.rec (motive:=fun _=>Nat->List α) (fun _=>[]) (fun a _ g n=>bif Nat.beq n 0 then []else a::g (n-1)) l
def wB {α:Type}(l:List α):Nat:=List.rec (motive:=fun _=>Nat) 0 (fun _ _ n=>n+1) l
def cF {α:Type}(l m:List α):List α:=List.rec (motive:=fun _=>List α) m (fun a _ g=>a::g) l
def bB {α:Type}(p:α->Bool)(l:List α):Bool:=List.rec (motive:=fun _=>Bool) true (fun a _ g=>bif p a then g else false) l
def oI{α β:Type}(f:α->Option β)(l:List α):Option (List β):=
 List.rec (motive:=fun _=>Option (List β)) (some []) (fun a _ g=>ob (f a) fun b=>ob g fun r=>some (b::r)) l
def eI(a:List Nat):List Nat->Bool:=
 List.rec (motive:=fun _=>List Nat->Bool) (fun b=>b.isEmpty) (fun x _ g b=>List.rec (motive:=fun _=>Bool) false (fun y b _=>bif Nat.beq x y then g b else false) b) a
def kIdx:IntKind->Nat
 | .i8=>0 | .i16=>1 | .i32=>2 | .i64=>3 | .u8=>4 | .u16=>5 | .u32=>6 | .u64=>7
def kEq (a b:IntKind):Bool:=Nat.beq (kIdx a) (kIdx b)
def bEq:Bool->Bool->Bool
 | true,b=>b
 | false,b => !b
def wA:Int->Int->Bool
 | .ofNat a,.ofNat b=>Nat.beq a b
 | .negSucc a,.negSucc b=>Nat.beq a b
 | _,_=>false
def sC:Int->Int->Bool
 | .ofNat a,.ofNat b=>Nat.ble a b
 | .ofNat _,.negSucc _=>false
 | .negSucc _,.ofNat _=>true
 | .negSucc a,.negSucc b=>Nat.ble b a
def iB:Int->Int->Bool
 | .ofNat a,.ofNat b=>Nat.blt a b
 | .ofNat _,.negSucc _=>false
 | .negSucc _,.ofNat _=>true
 | .negSucc a,.negSucc b=>Nat.blt b a
def cG:IntKind->Nat
 | .i8=>128 | .i16=>32768 | .i32=>2147483648 | .i64=>9223372036854775808 | .u8=>256 | .u16=>65536 | .u32=>4294967296 | .u64=>18446744073709551616
def kLo:IntKind->Nat
 | .i8=>128 | .i16=>32768 | .i32=>2147483648 | .i64=>9223372036854775808 | _=>0
def vA(k:IntKind):Int->Int
 | .ofNat n=>bif Nat.blt n (cG k)then .ofNat n else k.wrap (.ofNat n)
 | .negSucc n=>bif Nat.blt n (kLo k)then .negSucc n else k.wrap (.negSucc n)
inductive AFn where
 | func (f:Nat)
 | yld (l:Nat)
inductive zA where
 | bool (b:Bool)
 | int (k:IntKind) (n:Int)
 | str (l:List Nat)
 | nilptr
 | ptr (b off:Nat)
 | nilslice
 | slice (b off len cap:Nat)
 | nilmap
 | map (b:Nat)
 | func (fn:AFn) (first captured:List zA)
 | nilfunc
 | iface (t:Nat) (v:zA)
 | niliface
 | agg (l:List zA)
 | tup (l:List zA)
structure Tm where
 k:Nat
 v:Tr zA
 t:List (Nat × zA)
def z12(i:Nat)(l:List (Nat × zA)):Option zA:=
 List.rec (motive:=fun _=>Option zA) none (fun a _ g=>Bool.rec (motive:=fun _=>Option zA) g (some a.2) (Nat.beq i a.1)) l
def Tm.get(t:Tm)(i:Nat):Option zA:=Bool.rec (motive:=fun _=>Option zA) (z12 i t.t) (t.v.get i) (Nat.blt i t.k)
def Tm.set(t:Tm)(i:Nat)(x:zA):Tm:=Bool.rec (motive:=fun _=>Tm) ⟨t.k,t.v,(i,x)::t.t⟩ ⟨t.k,t.v.set i x,t.t⟩ (Nat.blt i t.k)
def Tm.cut(t:Tm):Tm:=⟨t.k,t.v,[]⟩
structure znd where
 fn:Option AFn
 r:Nat
 args:List zA
structure zru where
 state:LoopState
 pending:Option Code
 fn:Nat
 n:Nat
 tm:Tm
 params:List Nat
 assign:Code
 body:Code
 defers:Nat
inductive jA where
 | cells (c:Tr zA) (n:Nat) (loose:Option Nat)
 | map (l:List (zA × zA))
 | loop (l:zru)
 | deferred (l:Option (List znd))
 | siter (s:List Nat) (pos:Nat)
structure qA where
 next:Nat
 t:Tr jA
inductive nE where
 | bool | int (k:IntKind) | string
 | ptr (e:Nat) | slice (e:Nat) | arr (n e:Nat) | map (k e:Nat)
 | struct (fs:List (Nat × Nat × Nat))
 | func | iface | other
structure vD where
 desc:nE
 size:Nat
 bytes:Nat
 zero:List zA
 eqOk:Bool
structure lG where
 heavy:Nat
 lights:List Nat
 again:List Nat
structure Plan where
 first:List Nat
 stages:List lG
 olds:List (Nat × List Nat)
structure iA where
 fns:Tr Func
 ks:Tr Nat
 tys:Tr vD
 plans:Tr (Tr Plan)
 prims:Tr (List zA->qA->Option zA)
 base:Nat
 root:Nat
inductive fD where
 | code (c:Code)
 | inBlock (id:Nat)
 | inLoop (c:Code)
 | inScope (c:Code)
 | ops (all:Array Oper) (rest:List Oper)
 | reg (all:Array Oper) (old:Tm) (olds:List (Nat × List Nat)) (stages:List lG)
 | inRange (l:Nat)
 | endRange (l:Nat)
 | beginRound
structure kT where
 v:zA
 recovered:Bool
inductive zes where
 | run | returning
 | panicking (chain:List kT)
structure jI where
 fn:Nat
 n:Nat
 defers:List znd
 mode:zes
 deferred:Bool
 roundOf:Option Nat
structure xC where
 todo:List fD
 tm:Tm
 R:jI
structure jO where
 fr:xC
 cs:List xC
 H:qA
inductive fC where
 | next (s:jO)
 | done (v:zA) (H:qA)
 | fail (why:Nat)
def zA.asBool:zA->Option Bool | .bool b=>some b | _=>none
def zA.asInt:zA->Option Int | .int _ n=>some n | _=>none
def zA.asIntK:zA->Option (IntKind × Int) | .int k n=>some (k,n) | _=>none
def zA.asStr:zA->Option (List Nat) | .str l=>some l | _=>none
def zA.asPtr:zA->Option (Nat × Nat) | .ptr b o=>some (b,o) | _=>none
def zA.asSlice:zA->Option (Nat × Nat × Nat × Nat) | .slice b o l c=>some (b,o,l,c) | _=>none
def zA.asMap:zA->Option Nat | .map b=>some b | _=>none
def zA.asAgg:zA->Option (List zA) | .agg l=>some l | _=>none
def zA.asTup:zA->Option (List zA) | .tup l=>some l | _=>none
def zA.asFunc:zA->Option (AFn × List zA × List zA) | .func f a b=>some (f,a,b) | _=>none
def zA.asIface:zA->Option (Nat × zA) | .iface t v=>some (t,v) | _=>none
def zA.tag:zA->Nat
 | .bool _=>0 | .int _ _=>1 | .str _=>2 | .nilptr=>3 | .ptr _ _=>4 | .nilslice=>5 | .slice _ _ _ _=>6 | .nilmap=>7 | .map _=>8
 | .func _ _ _=>9 | .nilfunc=>10 | .iface _ _=>11 | .niliface=>12 | .agg _=>13 | .tup _=>14
def aK:Int->Option Nat | .ofNat n=>some n | .negSucc _=>none
def zA.asNat(v:zA):Option Nat:=ob v.asInt aK
def zA.cells(v:zA):List zA:=
 match v.asAgg with
 | some l=>l
 | none=>[v]
def zA.one(v:zA):Bool:=Nat.blt v.tag 13
def nE.asInt:nE->Option IntKind | .int k=>some k | _=>none
def nE.asSlice:nE->Option Nat | .slice e=>some e | _=>none
def nE.asArr:nE->Option (Nat × Nat) | .arr n e=>some (n,e) | _=>none
def nE.asMap:nE->Option (Nat × Nat) | .map k e=>some (k,e) | _=>none
def nE.asStruct:nE->Option (List (Nat × Nat × Nat)) | .struct fs=>some fs | _=>none
def nE.tag:nE->Nat
 | .bool=>0 | .int _=>1 | .string=>2 | .ptr _=>3 | .slice _=>4 | .arr _ _=>5 | .map _ _=>6 | .struct _=>7 | .func=>8 | .iface=>9 | .other=>10
def nE.isAgg(d:nE):Bool:=bif Nat.beq d.tag 5 then true else Nat.beq d.tag 7
def nE.isString(d:nE):Bool:=Nat.beq d.tag 2
def jA.asCells:jA->Option (Tr zA × Nat × Option Nat) | .cells c n l=>some (c,n,l) | _=>none
def jA.asMap:jA->Option (List (zA × zA)) | .map l=>some l | _=>none
def jA.asLoop:jA->Option zru | .loop l=>some l | _=>none
def jA.asDeferred:jA->Option (Option (List znd)) | .deferred l=>some l | _=>none
def jA.asIter:jA->Option (List Nat × Nat) | .siter s p=>some (s,p) | _=>none
def sB{α:Type}(b:Bool)(x:Option α):Option α:=Bool.rec (motive:=fun _=>Option α) none x b
def rE:zA:=.tup []
def tE(s:ByteArray):List Nat:=s.data.toList.map UInt8.toNat
def vU:Value->Option zA
 | .bool b=>some (.bool b)
 | .int k n=>some (.int k n)
 | .string s=>some (.str (tE s))
 | .pointer none=>some .nilptr
 | .slice none 0 0=>some .nilslice
 | .map none=>some .nilmap
 | .nilFunc=>some .nilfunc
 | .nilIface=>some .niliface
 | _=>none
def z36:Value->Option (Array Value)
 | .agg cs=>some cs
 | _=>none
def zlw(v:Value):Option zA:=
 match z36 v with
 | some cs=>ob (oI vU cs.toList) fun l=>some (.agg l)
 | none=>vU v
inductive wD where
 | now (tm:Tm)
 | mixed (tm old:Tm) (olds names:List Nat)
def pH(i:Nat)(l:List Nat):Bool:=List.rec (motive:=fun _=>Bool) false (fun j _ g=>bif Nat.beq i j then true else g) l
def zyr (t:Nat)(e:wD):Option zA:=
 match e with
 | .now tm=>tm.get t
 | .mixed tm old olds names=>bif pH t names then Tm.get (bif pH t olds then old else tm) t else none
def xConst(v:Value)(_:wD):Option zA:=zlw v
def zkv(g:Nat)(_:wD):Option zA:=bif Nat.blt g 256 then some (.ptr g 0)else none
def xFunc(f:Nat)(_:wD):Option zA:=some (.func (.func f) [] [])
structure EB where f:wD->Option zA
def evB:Operand->EB
 | .tmp t=>⟨zyr t⟩
 | .const v=>⟨xConst v⟩
 | .global g=>⟨zkv g⟩
 | .func f=>⟨xFunc f⟩
def ev (x:Operand)(e:wD):Option zA:=(evB x).f e
def evs (l:List Operand)(e:wD):Option (List zA):=oI (fun x=>ev x e) l
def evo (x:Option Operand)(e:wD):Option (Option zA):=
 match x with
 | none=>some none
 | some x=>ob (ev x e) fun v=>some (some v)
def evp (l:List (Nat × Operand))(e:wD):Option (List (Nat × zA)):=oI (fun x=>ob (ev x.2 e) fun v=>some (x.1,v)) l
def nD(H:qA)(b:Nat):Option (Tr zA × Nat × Option Nat):=ob (H.t.get b) jA.asCells
def kL(H:qA)(b:Nat):Option (List (zA × zA)):=ob (H.t.get b) jA.asMap
def oN(ty:vD)(c:Tr zA)(off:Nat):Option zA:=
 bif ty.desc.isAgg then ob (c.many ty.size off) fun l=>some (.agg l)else c.get off
def vO(C:iA)(t:Nat)(l:List zA)(off:Nat):Option zA:=
 ob (C.tys.get t) fun ty=>bif ty.desc.isAgg then some (.agg (xP (lK l off) ty.size))else oD l off
def zef(ty:vD):zA:=
 bif ty.desc.isAgg then .agg ty.zero else match ty.zero with
  | v::_=>v
  | []=>rE
def zl5(a:List Nat):List Nat->Bool:=
 List.rec (motive:=fun _=>List Nat->Bool) (fun b => !b.isEmpty)
  (fun x _ g b=>List.rec (motive:=fun _=>Bool) false (fun y b _=>bif Nat.blt x y then true else bif Nat.beq x y then g b else false) b) a
def zj4(a b:zA):Option Bool:=ob a.asBool fun x=>ob b.asBool fun y=>some (bEq x y)
def z63(a b:zA):Option Bool:=ob a.asIntK fun x=>ob b.asIntK fun y=>sB (kEq x.1 y.1) (some (wA x.2 y.2))
def zhr(a b:zA):Option Bool:=ob a.asStr fun x=>ob b.asStr fun y=>some (eI x y)
def zj3(n m:Nat)(a b:zA):Option Bool:=
 bif Nat.beq a.tag n then(bif Nat.beq b.tag n then some true else sB (Nat.beq b.tag m) (some false))
 else sB (Nat.beq a.tag m&&Nat.beq b.tag n) (some false)
def zpg(_ _:zA):Option Bool:=none
def zph:nE->zA->zA->Option Bool
 | .bool=>zj4
 | .int _=>z63
 | .string=>zhr
 | .ptr _=>zj3 3 4
 | .iface=>zj3 12 11
 | .slice _=>zj3 5 6
 | .map _ _=>zj3 7 8
 | .func=>zj3 10 9
 | .arr _ _=>zpg
 | .struct _=>zpg
 | .other=>zpg
def z15(C:iA)(eq:Nat->zA->zA->Option Bool)(xs ys:List zA):List (Nat × Nat × Nat)->Option Bool
 | []=>some true
 | f::fs=>ob (vO C f.2.1 xs f.1) fun a=>ob (vO C f.2.1 ys f.1) fun b=>ob (eq f.2.1 a b) fun r=>bif r then z15 C eq xs ys fs else some false
def aeq (C:iA):Nat->Nat->zA->zA->Option Bool
 | 0,_,_,_=>none
 | d+1,t,x,y=>ob (C.tys.get t) fun ty=>
  match ty.desc.asStruct with
  | some fs=>sB ty.eqOk (ob x.asAgg fun xs=>ob y.asAgg fun ys=>z15 C (aeq C d) xs ys fs)
  | none=>zph ty.desc x y
def iAdd (k:IntKind)(a b:Int):Option zA:=some (.int k (vA k (a+b)))
def iSub (k:IntKind)(a b:Int):Option zA:=some (.int k (vA k (a-b)))
def iMul (k:IntKind)(a b:Int):Option zA:=some (.int k (vA k (a*b)))
def z02 (k:IntKind)(a b:Int):Option zA:=bif wA b 0 then none else some (.int k (vA k (a.tdiv b)))
def zrz (k:IntKind)(a b:Int):Option zA:=bif wA b 0 then none else some (.int k (a.tmod b))
def oH(f:Nat->Nat->Nat)(k:IntKind)(a b:Int):Option zA:=ob (aK a) fun x=>ob (aK b) fun y=>sB (Nat.blt x (cG k)&&Nat.blt y (cG k)) (some (.int k (.ofNat (f x y))))
def iEql (_:IntKind)(a b:Int):Option zA:=some (.bool (wA a b))
def iNeq (_:IntKind)(a b:Int):Option zA:=some (.bool (!wA a b))
def iLss (_:IntKind)(a b:Int):Option zA:=some (.bool (iB a b))
def iLeq (_:IntKind)(a b:Int):Option zA:=some (.bool (sC a b))
def iGtr (_:IntKind)(a b:Int):Option zA:=some (.bool (iB b a))
def iGeq (_:IntKind)(a b:Int):Option zA:=some (.bool (sC b a))
def iNone(_:IntKind)(_ _:Int):Option zA:=none
structure IB where f:IntKind->Int->Int->Option zA
def zx8:BinOp->IB
 | .add=>⟨iAdd⟩ | .sub=>⟨iSub⟩ | .mul=>⟨iMul⟩ | .quo=>⟨z02⟩ | .rem=>⟨zrz⟩
 | .and=>⟨oH Nat.land⟩ | .or=>⟨oH Nat.lor⟩ | .xor=>⟨oH Nat.xor⟩
 | .eql=>⟨iEql⟩ | .neq=>⟨iNeq⟩ | .lss=>⟨iLss⟩ | .leq=>⟨iLeq⟩ | .gtr=>⟨iGtr⟩ | .geq=>⟨iGeq⟩
 | _=>⟨iNone⟩
def zug (a b:List Nat):Option zA:=sB (Nat.blt (wB a+wB b) 4611686018427387904) (some (.str (cF a b)))
def sEql (a b:List Nat):Option zA:=some (.bool (eI a b))
def sNeq (a b:List Nat):Option zA:=some (.bool (!eI a b))
def sLss (a b:List Nat):Option zA:=some (.bool (zl5 a b))
def sNone(_ _:List Nat):Option zA:=none
structure SB where f:List Nat->List Nat->Option zA
def zx5:BinOp->SB
 | .add=>⟨zug⟩ | .eql=>⟨sEql⟩ | .neq=>⟨sNeq⟩ | .lss=>⟨sLss⟩
 | _=>⟨sNone⟩
def yX:Operand->Bool
 | .const _=>true
 | _=>false
def qS(k:IntKind)(b:Int):Option Nat:=ob (aK b) fun n=>some (min n k.bits)
def zq3 (k:IntKind)(a b:Int):Option zA:=ob (qS k b) fun n=>some (.int k (vA k (a*.ofNat (2^n))))
def z6l (k:IntKind)(a b:Int):Option zA:=ob (qS k b) fun n=>some (.int k (a.fdiv (.ofNat (2^n))))
def nX(f:IntKind->Int->Int->Option zA)(a b:zA):Option zA:=ob a.asIntK fun x=>ob b.asInt fun y=>f x.1 x.2 y
def zpf(x y:Operand)(a b:zA):Bool:=
 bif Nat.beq a.tag 12&&Nat.beq b.tag 12 then yX x||yX y else true
def zb7(neg:Bool)(C:iA)(t:Nat)(x y:Operand)(a b:zA):Option zA:=
 sB (zpf x y a b) (ob (aeq C 20 t a b) fun r=>some (.bool (bif neg then !r else r)))
def binNo(_:iA)(_:Nat)(_ _:Operand)(_ _:zA):Option zA:=none
structure BB where f:iA->Nat->Operand->Operand->zA->zA->Option zA
def zx6:BinOp->BB
 | .eql=>⟨zb7 false⟩
 | .neq=>⟨zb7 true⟩
 | _=>⟨binNo⟩
def zhw(op:BinOp)(C:iA)(t:Nat)(x y:Operand)(a b:zA):Option zA:=
 match a.asIntK with
 | some i=>ob b.asIntK fun j=>sB (kEq i.1 j.1) ((zx8 op).f i.1 i.2 j.2)
 | none=>match a.asStr with
  | some s=>ob b.asStr fun u=>(zx5 op).f s u
  | none=>(zx6 op).f C t x y a b
def binShl(_:iA)(_:Nat)(_ _:Operand)(a b:zA):Option zA:=nX zq3 a b
def binShr(_:iA)(_:Nat)(_ _:Operand)(a b:zA):Option zA:=nX z6l a b
def wL:BinOp->BB
 | .shl=>⟨binShl⟩
 | .shr=>⟨binShr⟩
 | op=>⟨zhw op⟩
def unNeg(a:zA):Option zA:=ob a.asIntK fun x=>some (.int x.1 (vA x.1 (0-x.2)))
def unNot(a:zA):Option zA:=ob a.asBool fun b=>some (.bool (!b))
def zk4(a:zA):Option zA:=ob a.asIntK fun x=>sB (Nat.beq (kLo x.1) 0) (oH Nat.xor x.1 (.ofNat (cG x.1-1)) x.2)
def unNone(_:zA):Option zA:=none
structure UB where f:zA->Option zA
def unA:UnOp->UB
 | .neg=>⟨unNeg⟩
 | .xor=>⟨zk4⟩
 | .not=>⟨unNot⟩
 | _=>⟨unNone⟩
def bS(v:zA):Option Nat:=ob v.asIntK fun x=>sB (kEq x.1 .u8) (ob (aK x.2) fun n=>sB (Nat.blt n 256) (some n))
def cV(H:qA)(a:zA):Option zA:=
 match a.asSlice with
 | some x=>ob (nD H x.1) fun c=>ob (c.1.many x.2.2.1 x.2.1) fun l=>ob (oI bS l) fun r=>some (.str r)
 | none=>sB (Nat.beq a.tag 5) (some (.str []))
def iN(C:iA)(s d:vD)(a:zA)(H:qA):Option zA:=
 match d.desc.asInt with
 | some k=>ob a.asInt fun n=>some (.int k (vA k n))
 | none=>sB d.desc.isString (bif Nat.beq a.tag 2 then some a else
   ob s.desc.asSlice fun e=>ob (C.tys.get e) fun et=>ob et.desc.asInt fun k=>sB (kEq k .u8) (cV H a))
def fR(y:Nat)(v:zA):Option Nat:=ob v.asNat fun n=>sB (Nat.ble n y) (some n)
def zd6(y dflt:Nat)(v:Option zA):Option Nat:=
 match v with
 | some v=>fR y v
 | none=>some dflt
def fN(len cap:Nat)(lo hi:Option zA):Option (Nat × Nat):=
 ob (zd6 cap len hi) fun h=>ob (zd6 h 0 lo) fun l=>some (l,h)
def lH(H:qA)(b size cap l:Nat)(arr:Bool):Bool:=
 match nD H b with
 | some c=>match c.2.2 with
  | none=>true
  | some es => !arr&&Nat.beq es size&&(!Nat.beq cap l||Nat.beq l 0)
 | none=>false
def aH(H:qA)(b size cap l:Nat)(arr:Bool):Bool:=
 match nD H b with
 | some c=>match c.2.2 with
  | none=>false
  | some es => !arr&&Nat.beq es size&&Nat.beq cap l && !Nat.beq l 0
 | none=>false
def rL(C:iA)(H:qA)(arr:Bool)(e b off len cap:Nat)(lo hi:Option zA):Option zA:=
 ob (C.tys.get e) fun et=>ob (fN len cap lo hi) fun x=>
  bif Nat.ble x.2 cap&&Nat.ble x.1 x.2&&aH H b et.size cap x.1 arr then some (.slice 0 1 0 0)else
  sB (Nat.ble x.2 cap&&lH H b et.size cap x.1 arr) (some (.slice b (bif Nat.beq cap x.1 then off else off+x.1*et.size) (x.2-x.1) (cap-x.1)))
def znx(s:List Nat)(lo hi:Option zA):Option zA:=
 let n:=wB s
 ob (fN n n lo hi) fun x=>some (.str (lK (xP s x.2) x.1))
def pK(C:iA)(H:qA)(ty:vD)(x:zA)(lo hi:Option zA):Option zA:=
 match x.asStr with
 | some s=>sB ty.desc.isString (znx s lo hi)
 | none=>match x.asSlice with
  | some r=>ob ty.desc.asSlice fun e=>rL C H false e r.1 r.2.1 r.2.2.1 r.2.2.2 lo hi
  | none=>match x.asPtr with
   | some p=>ob ty.desc.asArr fun a=>rL C H true a.2 p.1 p.2 a.1 a.1 lo hi
   | none=>sB (Nat.beq x.tag 5) (ob ty.desc.asSlice fun e=>ob (C.tys.get e) fun _=>ob (fN 0 0 lo hi) fun _=>some .nilslice)
def oU(cells:List zA)(off size:Nat)(v:zA):Option (List zA):=
 let vc:=v.cells
 let n:=wB vc
 sB (Nat.beq n size&&Nat.ble (off+n) (wB cells)) (some (cF (xP cells off) (cF vc (lK cells (off+n)))))
def iM(place:Nat->Option (Nat × Nat)):List (Nat × zA)->List zA->Option (List zA)
 | [],cells=>some cells
 | p::rest,cells=>ob (place p.1) fun q=>ob (oU cells q.1 q.2 p.2) fun cells=>iM place rest cells
def jV(d:nE):Bool:=Nat.ble d.tag 2
def keyTag(v:zA):Nat:=v.tag
def zfw(d:nE)(v:zA):Bool:=Nat.beq d.tag (keyTag v)
def zjt(a b:zA):Option Bool:=
 match a.asIntK with
 | some x=>ob b.asIntK fun y=>sB (kEq x.1 y.1) (some (wA x.2 y.2))
 | none=>match a.asStr with
  | some x=>ob b.asStr fun y=>some (eI x y)
  | none=>zj4 a b
def zhk(k:zA):List (zA × zA)->Option (Option zA)
 | []=>some none
 | e::l=>ob (zjt k e.1) fun r=>bif r then some (some e.2)else zhk k l
def rR(k v:zA):List (zA × zA)->Option (List (zA × zA))
 | []=>some [(k,v)]
 | e::l=>ob (zjt k e.1) fun r=>bif r then some ((k,v)::l)else ob (rR k v l) fun l=>some (e::l)
abbrev LOp:=iA->wD->qA->Option zA
def zg5:LOp:=fun _ _ _=>none
def zqx(x:Operand):LOp:=fun _ e _=>ev x e
def zv5(c a b:Operand):LOp:=fun _ e _=>ob (ev c e) fun c=>ob c.asBool fun c=>bif c then ev a e else ev b e
def mN(t:Nat)(a:Operand):LOp:=fun C e H=>ob (ev a e) fun v=>ob v.asPtr fun p=>ob (C.tys.get t) fun ty=>ob (nD H p.1) fun c=>oN ty c.1 p.2
def z0r (x:Operand):LOp:=fun _ e _=>ob (ev x e) fun v=>sB (Nat.beq v.tag 4||Nat.beq v.tag 9) (some v)
def zL (op:BinOp)(t:Nat)(x y:Operand):LOp:=fun C e _=>ob (ev x e) fun a=>ob (ev y e) fun b=>(wL op).f C t x y a b
def lUn (op:UnOp)(x:Operand):LOp:=fun _ e _=>ob (ev x e) fun a=>(unA op).f a
def oL(s d:Nat)(x:Operand):LOp:=fun C e H=>ob (ev x e) fun a=>ob (C.tys.get s) fun s=>ob (C.tys.get d) fun d=>iN C s d a H
def iS(t:Nat)(x:Operand):LOp:=fun C e _=>ob (C.tys.get t) fun ty=>sB (Nat.blt ty.desc.tag 9) (ob (ev x e) fun v=>some (.iface t v))
def zwe(f:Nat)(a b:Array Operand):LOp:=fun _ e _=>ob (evs a.toList e) fun a=>ob (evs b.toList e) fun b=>some (.func (.func f) a b)
structure LB where f:LOp
def gS(fn:Fn)(a b:Array Operand):LB:=
 match fn with
 | .func f=>⟨zwe f a b⟩
 | _=>⟨zg5⟩
def lR(t:Nat)(x:Operand)(lo hi:Option Operand):LOp:=fun C e H=>
 ob (ev x e) fun a=>ob (evo lo e) fun l=>ob (evo hi e) fun h=>ob (C.tys.get t) fun ty=>pK C H ty a l h
def bW(t:Nat)(x:Operand)(lo hi mx:Option Operand):LB:=
 match mx with
 | none=>⟨lR t x lo hi⟩
 | some _=>⟨zg5⟩
def rP(s:Nat)(x:Operand)(f:Nat):LOp:=fun C e _=>
 ob (C.tys.get s) fun ty=>ob ty.desc.asStruct fun fs=>ob (oD fs f) fun fd=>sB (!Nat.beq fd.2.2 0) (ob (ev x e) fun v=>ob v.asPtr fun p=>some (.ptr p.1 (p.2+fd.1)))
def fS(t:Nat)(x:Operand)(f:Nat):LOp:=fun C e _=>
 ob (C.tys.get t) fun ty=>ob ty.desc.asStruct fun fs=>ob (oD fs f) fun fd=>ob (ev x e) fun v=>ob v.asAgg fun l=>vO C fd.2.1 l fd.1
def tP(t:Nat)(x i:Operand):LOp:=fun C e _=>
 ob (C.tys.get t) fun ty=>ob (ev x e) fun v=>ob (ev i e) fun i=>ob i.asNat fun i=>
  match v.asSlice with
  | some s=>ob ty.desc.asSlice fun el=>ob (C.tys.get el) fun et=>sB (Nat.blt i s.2.2.1) (some (.ptr s.1 (s.2.1+i*et.size)))
  | none=>ob v.asPtr fun p=>ob ty.desc.asArr fun a=>ob (C.tys.get a.2) fun et=>sB (Nat.blt i a.1) (some (.ptr p.1 (p.2+i*et.size)))
def sP(t:Nat)(x i:Operand):LOp:=fun C e _=>
 ob (C.tys.get t) fun ty=>ob (ev x e) fun v=>ob (ev i e) fun i=>ob i.asNat fun i=>
  match v.asStr with
  | some s=>sB ty.desc.isString (ob (oD s i) fun b=>some (.int .u8 (.ofNat b)))
  | none=>ob v.asAgg fun l=>ob ty.desc.asArr fun a=>ob (C.tys.get a.2) fun et=>sB (Nat.blt i a.1) (vO C a.2 l (i*et.size))
def qP(t:Operand)(i:Nat):LOp:=fun _ e _=>ob (ev t e) fun v=>ob v.asTup fun l=>oD l i
def sQ(t:Nat)(parts:Array (Nat × Operand)):LOp:=fun C e _=>
 ob (C.tys.get t) fun ty=>ob (evp parts.toList e) fun ps=>
  match ty.desc.asStruct with
  | some fs=>ob (iM (fun i=>ob (oD fs i) fun x=>some (x.1,x.2.2)) ps ty.zero) fun l=>some (.agg l)
  | none=>ob ty.desc.asArr fun a=>ob (C.tys.get a.2) fun et=>ob (iM (fun i=>some (i*et.size,et.size)) ps ty.zero) fun l=>some (.agg l)
def pP(x:Operand)(asserted:Nat)(ok:Bool):LOp:=fun C e _=>
 ob (C.tys.get asserted) fun ty=>sB (Nat.blt ty.desc.tag 9) (ob (ev x e) fun v=>
  match v.asIface with
  | some p=>bif Nat.beq p.1 asserted then some (bif ok then .tup [p.2,.bool true]else p.2)else sB ok (some (.tup [zef ty,.bool false]))
  | none=>sB (Nat.beq v.tag 12&&ok) (some (.tup [zef ty,.bool false])))
def zeo(H:qA)(v:zA):Option (List (zA × zA)):=
 match v.asMap with
 | some b=>kL H b
 | none=>sB (Nat.beq v.tag 7) (some [])
def uP(t:Nat)(x i:Operand)(ok:Bool):LOp:=fun C e H=>
 ob (C.tys.get t) fun ty=>ob ty.desc.asMap fun ke=>ob (C.tys.get ke.1) fun kty=>sB (jV kty.desc) (ob (C.tys.get ke.2) fun ety=>
  ob (ev x e) fun m=>ob (zeo H m) fun es=>ob (ev i e) fun k=>sB (zfw kty.desc k) (ob (zhk k es) fun r=>
   match r with
   | some v=>some (bif ok then .tup [v,.bool true]else v)
   | none=>some (bif ok then .tup [zef ety,.bool false]else zef ety)))
def zv1 (H:qA)(ty:vD)(v:zA):Option Nat:=
 match v.asStr with
 | some s=>sB ty.desc.isString (some (wB s))
 | none=>match v.asSlice with
  | some s=>sB (Nat.beq ty.desc.tag 4) (some s.2.2.1)
  | none=>match ty.desc.asArr with
   | some a=>some a.1
   | none=>match v.asMap with
    | some b=>sB (Nat.beq ty.desc.tag 6) (ob (kL H b) fun l=>some (wB l))
    | none=>sB ((Nat.beq ty.desc.tag 4&&Nat.beq v.tag 5)||(Nat.beq ty.desc.tag 6&&Nat.beq v.tag 7)) (some 0)
def zox (c:Call):LOp:=fun C e H=>
 ob (oD c.argTypes.toList 0) fun t=>ob (oD c.args.toList 0) fun x=>ob (C.tys.get t) fun ty=>ob (ev x e) fun v=>ob (zv1 H ty v) fun n=>some (.int .i64 (.ofNat n))
def two (c:Call)(e:wD):Option (zA × zA):=
 match c.args.toList with
 | [x,y]=>ob (ev x e) fun a=>ob (ev y e) fun b=>some (a,b)
 | _=>none
def zwa (c:Call):LOp:=fun _ e _=>ob (two c e) fun p=>ob p.1.asIntK fun x=>ob p.2.asIntK fun y=>some (.int x.1 (bif iB x.2 y.2 then y.2 else x.2))
def zv8 (c:Call):LOp:=fun _ e _=>ob (two c e) fun p=>ob p.1.asIntK fun x=>ob p.2.asIntK fun y=>some (.int x.1 (bif iB y.2 x.2 then y.2 else x.2))
def zg6(c:Call):Builtin->LB
 | .len=>⟨zox c⟩
 | .max=>⟨zwa c⟩
 | .min=>⟨zv8 c⟩
 | _=>⟨zg5⟩
def qO(c:Call):Callee->LB
 | .builtin b=>zg6 c b
 | _=>⟨zg5⟩
def lCall(c:Call):LB:=qO c c.callee
def iF:Op->LB
 | .move x=>⟨zqx x⟩
 | .assign x=>⟨zqx x⟩
 | .pick c a b=>⟨zv5 c a b⟩
 | .load t a=>⟨mN t a⟩
 | .nilCheck x=>⟨z0r x⟩
 | .binOp op t x y _=>⟨zL op t x y⟩
 | .unOp op _ x=>⟨lUn op x⟩
 | .convert s d x=>⟨oL s d x⟩
 | .makeInterface t x=>⟨iS t x⟩
 | .makeFunc fn a b=>gS fn a b
 | .slice t x lo hi mx=>bW t x lo hi mx
 | .fieldAddr s x f=>⟨rP s x f⟩
 | .field t x f=>⟨fS t x f⟩
 | .indexAddr t x i=>⟨tP t x i⟩
 | .index t x i=>⟨sP t x i⟩
 | .extract t i=>⟨qP t i⟩
 | .build t ps=>⟨sQ t ps⟩
 | .typeAssert x _ u ok=>⟨pP x u ok⟩
 | .lookup t x i ok=>⟨uP t x i ok⟩
 | .call c=>lCall c
 | _=>⟨zg5⟩
inductive yK where
 | val (v:zA) (H:qA)
 | enter (f:Nat) (args:List zA)
 | round (l:Nat) (args:List zA)
 | defer (d:znd)
 | panic (v:zA)
 | recover
 | fail
abbrev HOp:=iA->wD->qA->yK
structure HB where f:HOp
def dK (x:Option (zA × qA)):yK:=
 match x with
 | some p=>.val p.1 p.2
 | none=>.fail
def z2v (x:Option yK):yK:=
 match x with
 | some r=>r
 | none=>.fail
def lv (f:LOp):HOp:=fun C e H=>
 match f C e H with
 | some v=>.val v H
 | none=>.fail
def newBlk(H:qA)(b:jA):qA:=⟨H.next+1,H.t.set H.next b⟩
def jF(H:qA)(l:List zA)(loose:Option Nat):qA:=newBlk H (.cells (Tr.ofList l) (wB l) loose)
def setBlk(H:qA)(b:Nat)(x:jA):qA:=⟨H.next,H.t.set b x⟩
def rJ (zero:List zA):Nat->List zA
 | 0=>[]
 | n+1=>cF zero (rJ zero n)
def zjh(v:zA):Option Nat:=
 match v.asSlice with
 | some s=>some s.2.2.1
 | none=>match v.asStr with
  | some s=>some (wB s)
  | none=>sB (Nat.beq v.tag 5) (some 0)
def lP(l:List Nat):List zA:=l.map fun n=>zA.int .u8 (Int.ofNat n)
def cS(H:qA)(size n:Nat)(v:zA):Option (List zA):=
 match v.asSlice with
 | some s=>ob (nD H s.1) fun c=>c.1.many (n*size) s.2.1
 | none=>match v.asStr with
  | some s=>some (lP (xP s n))
  | none=>sB (Nat.beq v.tag 5) (some [])
def fK(C:iA)(H:qA)(b off:Nat)(l:List zA):Option qA:=
 sB (!Nat.blt b C.base) (ob (nD H b) fun c=>
  sB (Nat.ble (off+wB l) c.2.1&&bB zA.one l) (some (setBlk H b (.cells (c.1.setMany l off) c.2.1 c.2.2))))
def kN(et:vD)(len cap n:Nat)(new:List zA):Bool:=
 Nat.blt (len+n+cap) 1000000000&&Nat.blt ((len+n+cap)*et.bytes) 1000000000&&Nat.blt et.bytes 1000000000 && !Nat.beq et.size 0&&Nat.beq (wB new) (n*et.size)&&Nat.beq (wB et.zero) et.size
def kM(H:qA)(et:vD)(n:Nat)(new:List zA):Option (zA × qA):=
 bif Nat.beq n 0 then some (.nilslice,H)else
  sB (kN et 0 0 n new) (some (.slice H.next 0 n n,jF H new (some et.size)))
def oP(C:iA)(H:qA)(et:vD)(n:Nat)(new:List zA)(s:Nat × Nat × Nat × Nat):Option (zA × qA):=
 match new with
 | []=>some (.slice s.1 s.2.1 (s.2.2.1+n) s.2.2.2,H)
 | _::_=>ob (fK C H s.1 (s.2.1+s.2.2.1*et.size) new) fun H'=>some (.slice s.1 s.2.1 (s.2.2.1+n) s.2.2.2,H')
def rU(H:qA)(et:vD)(n:Nat)(new:List zA)(s:Nat × Nat × Nat × Nat)(c:Tr zA):Option (zA × qA):=
 ob (c.many (s.2.2.1*et.size) s.2.1) fun old=>some (.slice H.next 0 (s.2.2.1+n) (s.2.2.1+n),jF H (cF old new) (some et.size))
def iV(C:iA)(H:qA)(et:vD)(n:Nat)(new:List zA)(s:Nat × Nat × Nat × Nat)(c:Tr zA)(m es:Nat):Option (zA × qA):=
 sB (Nat.beq s.2.1 0&&Nat.beq es et.size&&Nat.ble (s.2.2.1*es) m&&Nat.ble m ((s.2.2.1+n)*es)&&bB zA.one new && !Nat.blt s.1 C.base)
  (some (.slice H.next 0 (s.2.2.1+n) (s.2.2.1+n),⟨H.next+1,(H.t.del s.1).set H.next (.cells (c.setMany new (s.2.2.1*es)) ((s.2.2.1+n)*es) (some es))⟩))
def nP(C:iA)(H:qA)(et:vD)(n:Nat)(new:List zA)(s:Nat × Nat × Nat × Nat):Option (zA × qA):=
 sB (!(Nat.beq s.2.1 1&&Nat.beq s.2.2.2 0)) (sB (kN et s.2.2.1 s.2.2.2 n new) (ob (nD H s.1) fun c=>
  match c.2.2 with
  | none=>rU H et n new s c.1
  | some es=>iV C H et n new s c.1 c.2.1 es))
def bM(C:iA)(H:qA)(ty:vD)(s x:zA):Option (zA × qA):=
 ob ty.desc.asSlice fun e=>ob (C.tys.get e) fun et=>ob (zjh x) fun n=>ob (cS H et.size n x) fun new=>
  match s.asSlice with
  | some s=>bif Nat.ble (s.2.2.1+n) s.2.2.2 then oP C H et n new s else nP C H et n new s
  | none=>sB (Nat.beq s.tag 5) (kM H et n new)
def zds(t:Nat):HOp:=fun C _ H=>dK (ob (C.tys.get t) fun ty=>some (.ptr H.next 0,jF H ty.zero none))
def z06 (x:Operand):HOp:=fun _ e H=>dK (ob (ev x e) fun v=>some (.ptr H.next 0,jF H v.cells none))
def eS(t len:Nat)(parts:Array (Nat × Operand)):HOp:=fun C e H=>dK (ob (C.tys.get t) fun ty=>ob ty.desc.asSlice fun el=>ob (C.tys.get el) fun et=>
 sB (Nat.blt (len*et.size) 1000000&&Nat.beq (wB et.zero) et.size) (ob (evp parts.toList e) fun ps=>ob (iM (fun i=>some (i*et.size,et.size)) ps (rJ et.zero len)) fun l=>some (.slice H.next 0 len len,jF H l none)))
def zo7(t:Nat)(a x:Operand):HOp:=fun C e H=>dK (ob (C.tys.get t) fun ty=>ob (ev a e) fun a=>ob a.asPtr fun p=>ob (ev x e) fun v=>
 let l:=v.cells
 sB (Nat.beq (wB l) ty.size) (ob (fK C H p.1 p.2 l) fun H'=>some (rE,H')))
def xX(r:Option Operand):HOp:=fun _ _ H=>
 match r with
 | none=>.val (.map H.next) (newBlk H (.map []))
 | some _=>.fail
def zaz(t:Nat)(m k x:Operand):HOp:=fun C e H=>dK (ob (C.tys.get t) fun ty=>ob ty.desc.asMap fun ke=>ob (C.tys.get ke.1) fun kty=>sB (jV kty.desc)
 (ob (ev m e) fun m=>ob m.asMap fun b=>sB (!Nat.blt b C.base) (ob (kL H b) fun l=>ob (ev k e) fun k=>sB (zfw kty.desc k) (ob (ev x e) fun v=>ob (rR k v l) fun l'=>some (rE,setBlk H b (.map l'))))))
def za0(t:Nat)(l c:Operand):HOp:=fun C e H=>dK (ob (C.tys.get t) fun ty=>ob ty.desc.asSlice fun el=>ob (C.tys.get el) fun et=>
 ob (ev l e) fun l=>ob l.asNat fun l=>ob (ev c e) fun c=>ob c.asNat fun c=>
  sB (Nat.ble l c&&Nat.blt c 1000000&&Nat.blt (c*et.bytes) 1000000000&&Nat.beq (wB et.zero) et.size) (some (.slice H.next 0 l c,jF H (rJ et.zero c) none)))
def oQ(s d:Nat)(x:Operand):HOp:=fun C e H=>
 match oL s d x C e H with
 | some v=>.val v H
 | none=>dK (ob (C.tys.get s) fun _=>ob (C.tys.get d) fun ty=>ob ty.desc.asSlice fun el=>ob (C.tys.get el) fun et=>ob et.desc.asInt fun k=>sB (kEq k .u8) (ob (ev x e) fun v=>ob v.asStr fun l=>
   some (.slice H.next 0 (wB l) (wB l),jF H (lP l) (some 1))))
def zwy(x:Operand):HOp:=fun _ e _=>z2v (ob (ev x e) fun v=>ob v.asIface fun p=>some (.panic (.iface p.1 p.2)))
def bO(f:Operand)(args:Array Operand)(e:wD):Option (AFn × List zA × List zA):=
 ob (ev f e) fun v=>ob v.asFunc fun p=>ob (evs args.toList e) fun as=>some (p.1,cF p.2.1 as,p.2.2)
def zbz(c:Call):Callee->HB
 | .value f=>⟨fun _ e _=>z2v (ob (bO f c.args e) fun p=>some (.defer ⟨some p.1,0,cF p.2.1 p.2.2⟩))⟩
 | _=>⟨fun _ _ _=>.fail⟩
def hDefer(c:Call):HB:=zbz c c.callee
def zd4(_:iA)(H:qA)(args:List zA)(f:Nat):Option (List zA->qA->Option zA)->yK
 | some g=>match g args H with
  | some v=>.val v H
  | none=>.fail
 | none=>.enter f args
def zkc(l:Nat)(args:List zA):List zA->yK
 | []=>.round l args
 | _::_=>.fail
def callA(C:iA)(H:qA)(args cap:List zA):AFn->yK
 | .func f=>zd4 C H (cF args cap) f (C.prims.get f)
 | .yld l=>zkc l args cap
def zdr(f:Operand)(args:Array Operand):HOp:=fun C e H=>z2v (ob (bO f args e) fun p=>some (callA C H p.2.1 p.2.2 p.1))
def za2(c:Call):HOp:=fun C e H=>dK (ob (oD c.argTypes.toList 0) fun t=>ob (C.tys.get t) fun ty=>ob (oD c.argTypes.toList 1) fun u=>ob (C.tys.get u) fun uty=>
 sB (!Nat.beq uty.desc.tag 1) (ob (two c e) fun p=>bM C H ty p.1 p.2))
def z6q:HOp:=fun _ _ _=>.fail
def z04:HOp:=fun _ _ _=>.recover
def z05(c:Call):Builtin->HB
 | .append=>⟨za2 c⟩
 | .len=>⟨lv (zox c)⟩
 | .max=>⟨lv (zwa c)⟩
 | .min=>⟨lv (zv8 c)⟩
 | .recover=>⟨z04⟩
 | _=>⟨z6q⟩
def za1(c:Call):Callee->HB
 | .value f=>⟨zdr f c.args⟩
 | .builtin b=>z05 c b
 | _=>⟨z6q⟩
def hCall(c:Call):HB:=za1 c c.callee
def lvB (b:LB):HB:=⟨lv b.f⟩
def bE:Op->HB
 | .move x=>⟨lv (zqx x)⟩
 | .assign x=>⟨lv (zqx x)⟩
 | .pick c a b=>⟨lv (zv5 c a b)⟩
 | .load t a=>⟨lv (mN t a)⟩
 | .nilCheck x=>⟨lv (z0r x)⟩
 | .binOp op t x y _=>⟨lv (zL op t x y)⟩
 | .unOp op _ x=>⟨lv (lUn op x)⟩
 | .makeInterface t x=>⟨lv (iS t x)⟩
 | .makeFunc fn a b=>lvB (gS fn a b)
 | .slice t x lo hi mx=>lvB (bW t x lo hi mx)
 | .fieldAddr s x f=>⟨lv (rP s x f)⟩
 | .field t x f=>⟨lv (fS t x f)⟩
 | .indexAddr t x i=>⟨lv (tP t x i)⟩
 | .index t x i=>⟨lv (sP t x i)⟩
 | .extract t i=>⟨lv (qP t i)⟩
 | .build t ps=>⟨lv (sQ t ps)⟩
 | .typeAssert x _ u ok=>⟨lv (pP x u ok)⟩
 | .lookup t x i ok=>⟨lv (uP t x i ok)⟩
 | .convert s d x=>⟨oQ s d x⟩
 | .alloc t=>⟨zds t⟩
 | .box _ x=>⟨z06 x⟩
 | .buildSlice t len ps=>⟨eS t len ps⟩
 | .store t a x=>⟨zo7 t a x⟩
 | .makeMap _ r=>⟨xX r⟩
 | .insert t m k x=>⟨zaz t m k x⟩
 | .mapUpdate t m k x=>⟨zaz t m k x⟩
 | .makeSlice t l c=>⟨za0 t l c⟩
 | .panic x=>⟨zwy x⟩
 | .defer c=>hDefer c
 | .call c=>hCall c
 | _=>⟨z6q⟩
structure GB where f:Tm->Option Bool
def z4h(_:Tm):Option Bool:=some true
def zh3(d:Option Nat)(w:Bool)(tm:Tm):Option Bool:=
 ob d fun d=>ob (tm.get d) fun v=>match v.asBool with
  | some b=>some (bEq b w)
  | none=>some false
def zsa(g:Option (Nat × Bool))(all:Array Oper):GB:=
 match g with
 | none=>⟨z4h⟩
 | some jw=>⟨zh3 (ob (oD all.toList jw.1) fun o=>o.dst) jw.2⟩
def kF(g:Option (Nat × Bool))(all:Array Oper)(tm:Tm):Option Bool:=(zsa g all).f tm
structure PB where f:Nat->Tm->zA->Tm
def zz3(d n:Nat)(tm:Tm)(v:zA):Tm:=bif Nat.blt d n then tm.set d v else tm
def putNo(_:Nat)(tm:Tm)(_:zA):Tm:=tm
def putB (dst:Option Nat):PB:=
 match dst with
 | some d=>⟨zz3 d⟩
 | none=>⟨putNo⟩
def putA (n:Nat)(tm:Tm)(dst:Option Nat)(v:zA):Tm:=(putB dst).f n tm v
def zes.running:zes->Bool | .run=>true | _=>false
def fD.blockId:fD->Option Nat | .inBlock id=>some id | _=>none
def mO(id:Nat):List fD->Option (List fD)
 | []=>none
 | x::k=>match x.blockId with
  | some i=>bif Nat.beq i id then some k else mO id k
  | none=>mO id k
def z3z(all:Array Oper)(rest:List Oper)(k:List fD)(tm:Tm)(R:jI)(v:zA):Option xC:=
 match rest with
 | o::rest=>some ⟨.ops all rest::k,putA R.n tm o.dst v,R⟩
 | []=>none
def zxa(all:Array Oper)(old:Tm)(olds:List (Nat × List Nat))(stages:List lG)(k:List fD)(tm:Tm)(R:jI)(v:zA):Option xC:=
 match stages with
 | st::stages=>ob (oD all.toList st.heavy) fun o=>some ⟨.reg all old olds (⟨all.size,st.lights,st.again⟩::stages)::k,putA R.n tm o.dst v,R⟩
 | []=>none
def z1c(l:Nat)(k:List fD)(tm:Tm)(R:jI)(_:zA):Option xC:=some ⟨.endRange l::k,tm,R⟩
def z1d(k:List fD)(tm:Tm)(R:jI)(_:zA):Option xC:=some ⟨k,tm,R⟩
def z6w(_:List fD)(_:Tm)(_:jI)(_:zA):Option xC:=none
def zhl:fD->List fD->Tm->jI->zA->Option xC
 | .ops all rest=>z3z all rest
 | .reg all old olds stages=>zxa all old olds stages
 | .inRange l=>z1c l
 | .beginRound=>z1d
 | _=>z6w
def nI(fr:xC)(v:zA):Option xC:=
 match fr.todo with
 | []=>none
 | x::k=>bif fr.R.mode.running then zhl x k fr.tm fr.R v else none
def vJ(C:iA)(f:Nat)(args:List zA)(deferred:Bool):Option xC:=
 ob (C.fns.get f) fun fn=>ob fn.body fun c=>ob (C.ks.get f) fun k=>sB (Nat.ble (wB args) k&&Nat.ble (wB args) fn.ntmps) (some ⟨[.code c],⟨k,Tr.ofList args,[]⟩,⟨f,fn.ntmps,[],.run,deferred,none⟩⟩)
def yY(n:Nat):List Nat->List zA->Tm->Option (Tm)
 | [],[],tm=>some tm
 | p::ps,a::as,tm=>yY n ps as (putA n tm (some p) a)
 | _,_,_=>none
def zs0:List Operand->List Nat
 | []=>[]
 | .tmp t::l=>t::zs0 l
 | _::l=>zs0 l
def aG(o:Op):List Nat:=zs0 o.operands.toList
def iE(i:Nat):List (Nat × List Nat)->List Nat
 | []=>[]
 | x::r=>bif Nat.beq i x.1 then x.2 else iE i r
def same:Nat->zA->zA->Bool
 | _,.bool a,.bool b=>bEq a b
 | _,.int j a,.int k b=>kEq j k&&wA a b
 | _,.str a,.str b=>eI a b
 | _,.nilptr,.nilptr=>true
 | _,.ptr a b,.ptr c d=>Nat.beq a c&&Nat.beq b d
 | _,.nilslice,.nilslice=>true
 | _,.slice a b c d,.slice e f g h=>Nat.beq a e&&Nat.beq b f&&Nat.beq c g&&Nat.beq d h
 | _,.nilmap,.nilmap=>true
 | _,.map a,.map b=>Nat.beq a b
 | _,.nilfunc,.nilfunc=>true
 | _,.niliface,.niliface=>true
 | d+1,.agg a,.agg b=>sames d a b
 | d+1,.tup a,.tup b=>sames d a b
 | _,_,_=>false
where
 sames (d:Nat):List zA->List zA->Bool
  | [],[]=>true
  | a::x,b::y=>same d a b&&sames d x y
  | _,_=>false
def sO(C:iA)(H:qA)(all:Array Oper)(n:Nat)(old:Tm)(olds:List (Nat × List Nat)):List Nat->Tm->Option (Tm)
 | [],tm=>some tm
 | i::l,tm=>ob (oD all.toList i) fun o=>ob (kF o.guard all tm) fun w=>ob (bif w then(iF o.op).f C (.mixed tm old (iE i olds) (aG o.op)) H else some rE) fun v=>
   sO C H all n old olds l (putA n tm o.dst v)
def rT(C:iA)(H:qA)(all:Array Oper)(old:Tm)(olds:List (Nat × List Nat))(tm:Tm):List Nat->Bool
 | []=>true
 | i::l=>match (ob (oD all.toList i) fun o=>ob o.dst fun d=>ob (kF o.guard all tm) fun w=>bif w then(ob ((iF o.op).f C (.mixed tm old (iE i olds) (aG o.op)) H) fun v=>ob (tm.get d) fun u=>some (same 10 v u))else some true)with
  | some true=>rT C H all old olds tm l
  | _=>false
def zes.chain:zes->Option (List kT) | .panicking c=>some c | _=>none
def zf3:List Oper->Tr zA->Tr zA
 | [],t=>t
 | o::l,t=>match o.dst with
  | some j=>zf3 l (t.del j)
  | none=>zf3 l t
def zjl(todo:List fD)(tm:Tm):Tm:=
 match todo with
 | .reg all _ _ _::_=>⟨tm.k,zf3 all.toList tm.v,[]⟩
 | _=>tm
def zoh(fr:xC)(l:List kT):xC:=
 ⟨[],zjl fr.todo fr.tm,⟨fr.R.fn,fr.R.n,fr.R.defers,.panicking (match fr.R.mode.chain with | some c=>cF l c | none=>l),fr.R.deferred,fr.R.roundOf⟩⟩
def mK(x:Option jO)(why:Nat):fC:=
 match x with
 | some s=>.next s
 | none=>.fail why
def tO(H:qA)(l:Nat):Option zru:=sB (Nat.ble (nat_lit 256) l) (ob (H.t.get l) jA.asLoop)
def zb5(H:qA)(l:Nat):Option (Option (List znd)):=sB (Nat.ble (nat_lit 256) l) (ob (H.t.get l) jA.asDeferred)
def z5c (v:zA)(H':qA)(_:iA)(fr:xC)(cs:List xC)(_:qA):fC:=mK (ob (nI fr v) fun fr=>some ⟨fr,cs,H'⟩) 1
def zi2(f:Nat)(args:List zA)(C:iA)(fr:xC)(cs:List xC)(H:qA):fC:=mK (ob (vJ C f args false) fun g=>some ⟨g,fr::cs,H⟩) 2
def zus(l:Nat)(args:List zA)(_:iA)(fr:xC)(cs:List xC)(H:qA):fC:=
 mK (ob (tO H l) fun r=>ob (yY r.n r.params args r.tm) fun tm=>some ⟨⟨[.code r.assign,.beginRound,.code r.body],tm,⟨r.fn,r.n,[],.run,false,some l⟩⟩,fr::cs,H⟩) 3
def zuv(d:znd)(_:iA)(fr:xC)(cs:List xC)(H:qA):fC:=
 mK (match fr.R.roundOf with
  | none=>ob (nI fr rE) fun g=>some ⟨⟨g.todo,g.tm,⟨g.R.fn,g.R.n,d::g.R.defers,g.R.mode,g.R.deferred,g.R.roundOf⟩⟩,cs,H⟩
  | some _=>none) 4
def z2w(v:zA)(_:iA)(fr:xC)(cs:List xC)(H:qA):fC:=.next ⟨zoh fr [⟨v,false⟩],cs,H⟩
def zgv(_:iA)(fr:xC)(cs:List xC)(H:qA):fC:=
 mK (match fr.R.roundOf,fr.R.deferred,cs with
  | none,true,c::rest=>match c.R.mode with
   | .panicking (⟨v,false⟩::older)=>ob (nI fr v) fun fr=>some ⟨fr,⟨c.todo,c.tm,⟨c.R.fn,c.R.n,c.R.defers,.panicking (⟨v,true⟩::older),c.R.deferred,c.R.roundOf⟩⟩::rest,H⟩
   | .panicking _=>none
   | _=>ob (nI fr .niliface) fun fr=>some ⟨fr,cs,H⟩
  | _,_,_=>none) 5
def rFail(_:iA)(_:xC)(_:List xC)(_:qA):fC:=.fail 6
def za8:yK->iA->xC->List xC->qA->fC
 | .val v H'=>z5c v H'
 | .enter f args=>zi2 f args
 | .round l args=>zus l args
 | .defer d=>zuv d
 | .panic v=>z2w v
 | .recover=>zgv
 | .fail=>rFail
def pS(C:iA)(H:qA)(tm:Tm):ResultVar->Option zA
 | .tmp t=>tm.get t
 | .cell a t=>ob (ob (tm.get a) zA.asPtr) fun p=>ob (C.tys.get t) fun ty=>ob (nD H p.1) fun c=>oN ty c.1 p.2
def xU(C:iA)(H:qA)(tm:Tm)(l:List ResultVar):Option (List zA):=oI (pS C H tm) l
def zuk(jump:Option Code):Bool:=
 match jump with
 | none=>true
 | some .ret=>true
 | _=>false
def zcx(fr:xC)(m:zes):xC:=⟨fr.todo,fr.tm,⟨fr.R.fn,fr.R.n,fr.R.defers,m,fr.R.deferred,fr.R.roundOf⟩⟩
def zfp(jump:Option Code)(_:iA)(fr:xC)(cs:List xC)(H:qA):fC:=
 mK (match fr.R.roundOf with
  | none=>sB (zuk jump) (some ⟨zcx fr .returning,cs,H⟩)
  | some l=>ob (tO H l) fun r=>match cs with
   | c::rest=>sB (!fr.R.deferred) <| ob (nI c (.bool jump.isNone)) fun c=>some ⟨c,rest,setBlk H l (.loop ⟨if jump.isNone then .ready else .done,jump,r.fn,r.n,r.tm,r.params,r.assign,r.body,r.defers⟩)⟩
   | []=>none) 7
abbrev jK:=iA->List fD->Tm->jI->List xC->qA->fC
structure XB where f:jK
def xGo (todo:List fD)(tm:Tm)(R:jI)(cs:List xC)(H:qA):fC:=.next ⟨⟨todo,tm,R⟩,cs,H⟩
def zku:jK:=fun _ k tm R cs H=>xGo k tm R cs H
def zr5(c:Operand)(x y:Code):jK:=fun _ k tm R cs H=>
 match ob (ev c (.now tm)) zA.asBool with
 | some b=>xGo (.code (bif b then x else y)::k) tm R cs H
 | none=>.fail 8
def z2b(id:Nat)(c:Code):jK:=fun _ k tm R cs H=>xGo (.code c::.inBlock id::k) tm R cs H
def z4d(c:Code):jK:=fun _ k tm R cs H=>xGo (.code c::.inLoop c::k) tm R cs H
def xScope(c:Code):jK:=fun _ k tm R cs H=>xGo (.code c::.inScope c::k) tm R cs H
def zr3(id:Nat):jK:=fun C k tm R cs H=>
 match mO id k with
 | some k'=>xGo k' tm R cs H
 | none=>zfp (some (.exit id)) C ⟨.code (.exit id)::k,tm,R⟩ cs H
def xRet:jK:=fun C k tm R cs H=>zfp (some .ret) C ⟨.code .ret::k,tm,R⟩ cs H
def z4e:jK:=fun _ _ _ _ _ _=>.fail 9
def zd7(e:Edge):Bool:=
 match e.ground with
 | .textOnly _=>false
 | .gcOnly _=>false
 | _=>true
def tb (m i:Nat):Bool:=Nat.beq (Nat.mod (Nat.shiftRight m i) (nat_lit 2)) (nat_lit 1)
def z7g(i:Nat):Nat:=Nat.shiftLeft (nat_lit 1) i
def fJ (t:Tr Nat)(i:Nat):Nat:=
 match t.get i with
 | some m=>m
 | none=>0
def zfn(t:Tr Nat):List Edge->Nat
 | []=>0
 | e::l=>bif zd7 e then Nat.lor (Nat.lor (z7g e.on) (fJ t e.on)) (zfn t l)else zfn t l
def z7j:List Oper->Nat->Tr Nat->Tr Nat
 | [],_,t=>t
 | o::r,i,t=>z7j r (i+1) (t.set i (zfn t o.after.toList))
def zom:List Oper->Nat->Bool
 | [],_=>true
 | o::r,i=>bif bB (fun e=>bif zd7 e then Nat.blt e.on i else true) o.after.toList then zom r (i+1)else false
def wrOf:List Oper->Nat->Tr Nat->Option (Tr Nat)
 | [],_,t=>some t
 | o::r,i,t=>match o.dst with
  | none=>wrOf r (i+1) t
  | some d=>match t.get d with
   | none=>wrOf r (i+1) (t.set d i)
   | some _=>none
def yL{α:Type}:Option α->Bool | none=>true | some _=>false
def zvc(wr anc:Tr Nat)(i:Nat)(olds:List Nat)(t:Nat):Bool:=
 match wr.get t with
 | none=>true
 | some j=>bif pH t olds then(bif Nat.beq j i then true else tb (fJ anc j) i)else tb (fJ anc i) j
def zlu(anc:Nat):Option (Nat × Bool)->Bool
 | none=>true
 | some g=>tb anc g.1
def zz9(wr anc:Tr Nat)(olds:List (Nat × List Nat)):List Oper->Nat->Bool
 | [],_=>true
 | o::r,i=>bif zlu (fJ anc i) o.guard then(bif bB (zvc wr anc i (iE i olds)) (aG o.op)then zz9 wr anc olds r (i+1)else false)else false
def zgx:Op->Bool
 | .move _=>true
 | .assign _=>true
 | .pick _ _ _=>true
 | .nilCheck _=>true
 | .binOp _ _ _ _ _=>true
 | .unOp _ _ _=>true
 | .makeInterface _ _=>true
 | .makeFunc _ _ _=>true
 | .fieldAddr _ _ _=>true
 | .field _ _ _=>true
 | .indexAddr _ _ _=>true
 | .index _ _ _=>true
 | .extract _ _=>true
 | .build _ _=>true
 | .typeAssert _ _ _ _=>true
 | _=>false
def topo (D:Nat)(o:Oper):Bool:=bB (fun e=>bif zd7 e then tb D e.on else true) o.after.toList
def zol(h D:Nat):List Oper->Nat->Bool
 | [],_=>true
 | o::r,i=>bif (bif tb D i then true else bif Nat.beq i h then true else !topo D o)then zol h D r (i+1)else false
def wK:Op->Bool
 | .alloc _=>true
 | .box _ _=>true
 | .buildSlice _ _ _=>true
 | _=>false
def zg2(m D:Nat)(again:List Nat):List Oper->Nat->Bool
 | [],_=>true
 | o::r,i=>bif (bif tb D i then(bif tb m i then true else bif zgx o.op then true else bif wK o.op then true else pH i again)else true)then zg2 m D again r (i+1)else false
def uQ(ops:List Oper)(i D:Nat):Option Nat:=
 ob (oD ops i) fun o=>sB (bif tb D i then false else topo D o) (some (Nat.lor D (z7g i)))
def mM(ops:List Oper):List Nat->Nat->Option Nat
 | [],D=>some D
 | i::l,D=>ob (uQ ops i D) fun D=>mM ops l D
def z0b(D:Nat):List Oper->Nat->Bool
 | [],_=>true
 | _::r,i=>bif tb D i then z0b D r (i+1)else false
def z6k:Option Oper->Bool
 | some o=>wK o.op
 | none=>false
def qJ(ops:List Oper)(anc:Tr Nat):List lG->Nat->Bool
 | [],D=>z0b D ops 0
 | st::r,D=>bif Nat.blt (wB ops) st.heavy then(bif z6k (oD ops (Nat.sub st.heavy (Nat.succ (wB ops))))then
   (match ob (uQ ops (Nat.sub st.heavy (Nat.succ (wB ops))) D) fun D=>mM ops st.lights D with
   | some D=>qJ ops anc r D
   | none=>false)else false)else bif zol st.heavy D ops 0 then(bif zg2 (fJ anc st.heavy) D st.again ops 0 then
   (match ob (uQ ops st.heavy D) fun D=>mM ops st.lights D with
   | some D=>qJ ops anc r D
   | none=>false)else false)else false
def zlt(ops:List Oper)(p:Plan):Bool:=
 bif zom ops 0 then
  (match wrOf ops 0 .leaf with
  | none=>false
  | some wr=>
   (fun anc=>bif zz9 wr anc p.olds ops 0 then(match mM ops p.first 0 with
    | some D=>qJ ops anc p.stages D
    | none=>false)else false) (z7j ops 0 .leaf))else false
structure OkB where b:Bool
def uO(all:Array Oper)(p:Plan):Bool:=(OkB.mk (zlt all.toList p)).b
def zr4(id:Nat)(all:Array Oper):jK:=fun C k tm R cs H=>
 mK (ob (ob (C.plans.get R.fn) fun t=>t.get id) fun p=>sB (uO all p) <| ob (sO C H all R.n tm.cut p.olds p.first tm.cut) fun tm'=>some ⟨⟨.reg all tm.cut p.olds p.stages::k,tm',R⟩,cs,H⟩) 10
def yK.asVal:yK->Option (zA × qA) | .val v H=>some (v,H) | _=>none
def xQ(C:iA)(all:Array Oper)(k:List fD)(R:jI)(cs:List xC)(l:List Oper):Tm->qA->fC:=
 List.rec (motive:=fun _=>Tm->qA->fC) (fun tm H=>xGo k tm R cs H)
  (fun o rest g tm H=>
   match kF o.guard all tm with
   | some w=>Bool.rec (motive:=fun _=>fC) (g (putA R.n tm o.dst rE) H)
     (let r:=(bE o.op).f C (.now tm) H
     match r.asVal with
     | some p=>g (putA R.n tm o.dst p.1) p.2
     | none=>za8 r C ⟨.ops all (o::rest)::k,tm,R⟩ cs H) w
   | none=>.fail 20) l
def xOps (all:Array Oper)(rest:List Oper):jK:=fun C k tm R cs H=>xQ C all k R cs rest tm H
def z4c(id:Nat)(all:Array Oper)(draw:Bool):XB:=
 match draw with
 | true=>⟨zr4 id all⟩
 | false=>⟨fun C k tm R cs H=>xQ C all k R cs all.toList tm.cut H⟩
def zne(all:Array Oper)(old:Tm)(olds:List (Nat × List Nat))(st:lG)(stages:List lG)(o:Oper):jK:=fun C k tm R cs H=>
 match kF o.guard all tm with
 | some w=>za8 (bif w then(bE o.op).f C (.mixed tm old (iE st.heavy olds) (aG o.op)) H else .val rE H) C ⟨.reg all old olds (st::stages)::k,tm,R⟩ cs H
 | none=>.fail 21
def zb8(all:Array Oper)(old:Tm)(olds:List (Nat × List Nat))(st:lG)(stages:List lG):jK:=fun C k tm R cs H=>
 mK (sB (rT C H all old olds tm st.again) (ob (sO C H all R.n old olds st.lights tm) fun tm=>some ⟨⟨.reg all old olds stages::k,tm,R⟩,cs,H⟩)) 11
def znf(all:Array Oper)(old:Tm)(olds:List (Nat × List Nat))(st:lG)(stages:List lG)(i:Nat):jK:=fun C k tm R cs H=>
 mK (ob (oD all.toList i) fun o=>ob (kF o.guard all tm) fun w=>sB w (ob ((bE o.op).f C (.mixed tm old (iE i olds) (aG o.op)) H).asVal fun p=>
  ob (sO C p.2 all R.n old olds st.lights (putA R.n tm o.dst p.1)) fun tm'=>some ⟨⟨.reg all old olds stages::k,tm',R⟩,cs,p.2⟩)) 23
def zr1 (all:Array Oper)(old:Tm)(olds:List (Nat × List Nat))(stages:List lG):jK:=
 match stages with
 | []=>zku
 | st::stages=>match oD all.toList st.heavy with
  | some o=>zne all old olds st stages o
  | none=>bif Nat.blt (wB all.toList) st.heavy then znf all old olds st stages (Nat.sub st.heavy (Nat.succ (wB all.toList)))else zb8 all old olds st stages
def wU(C:iA)(l:Nat)(f:zA):Option xC:=
 ob f.asFunc fun p=>match p.1 with
  | .func g=>match C.prims.get g with
   | none=>vJ C g (cF p.2.1 (.func (.yld l) [] []::p.2.2)) false
   | some _=>none
  | .yld _=>none
def zr2(f:Operand)(params:Array Nat)(assign body:Code):jK:=fun C k tm R cs H=>
 mK (ob (ev f (.now tm)) fun v=>match R.roundOf with
  | none=>
   let r:=H.next
   let l:=r+1
   ob (wU C l v) fun h=>
    some ⟨h,⟨.inRange l::k,tm,⟨R.fn,R.n,⟨none,r,[]⟩::R.defers,R.mode,R.deferred,R.roundOf⟩⟩::cs,
     newBlk (newBlk H (.deferred (some []))) (.loop ⟨.ready,none,R.fn,R.n,tm,params.toList,assign,body,r⟩)⟩
  | some outer=>ob (tO H outer) fun o=>
   let l:=H.next
   ob (wU C l v) fun h=>
    some ⟨h,⟨.inRange l::k,tm,R⟩::cs,newBlk H (.loop ⟨.ready,none,R.fn,R.n,tm,params.toList,assign,body,o.defers⟩)⟩) 12
def LoopState.tag:LoopState->Nat | .ready=>0 | .busy=>1 | .done=>2 | .exhausted=>3
def zr6:jK:=fun _ k tm R cs H=>
 mK (ob R.roundOf fun l=>ob (tO H l) fun r=>sB (Nat.beq (LoopState.tag r.state) 0)
  (some ⟨⟨k,tm,R⟩,cs,setBlk H l (.loop ⟨.busy,r.pending,r.fn,r.n,r.tm,r.params,r.assign,r.body,r.defers⟩)⟩)) 13
def zb9(l:Nat):jK:=fun _ k tm R cs H=>
 mK (ob (tO H l) fun r=>sB (!Nat.beq (LoopState.tag r.state) 1)
  (some ⟨⟨(match r.pending with | some c=>.code c::k | none=>k),tm,R⟩,cs,setBlk H l (.loop ⟨.exhausted,r.pending,r.fn,r.n,r.tm,r.params,r.assign,r.body,r.defers⟩)⟩)) 14
def z4f:Code->XB
 | .skip=>⟨zku⟩
 | .region id ops d=>z4c id ops d
 | .seq a b=>⟨fun C k tm R cs H=>(z4f a).f C (.code b::k) tm R cs H⟩
 | .cond c x y=>⟨zr5 c x y⟩
 | .block id c=>⟨z2b id c⟩
 | .loop c=>⟨z4d c⟩
 | .rangeFunc f ps a b=>⟨zr2 f ps a b⟩
 | .exit id=>⟨zr3 id⟩
 | .scope c=>⟨xScope c⟩
 | .label _=>⟨zku⟩
 | .goto _=>⟨z4e⟩
 | .ret=>⟨xRet⟩
 | .refuse _=>⟨z4e⟩
def xItem:fD->XB
 | .code c=>z4f c
 | .inBlock _=>⟨zku⟩
 | .inLoop c=>⟨z4d c⟩
 | .inScope _=>⟨zku⟩
 | .ops all rest=>⟨xOps all rest⟩
 | .reg all old olds stages=>⟨zr1 all old olds stages⟩
 | .inRange _=>⟨z4e⟩
 | .endRange l=>⟨zb9 l⟩
 | .beginRound=>⟨zr6⟩
def zho(C:iA)(todo:List fD)(tm:Tm)(R:jI)(cs:List xC)(H:qA):fC:=
 match todo with
 | []=>zfp none C ⟨[],tm,R⟩ cs H
 | x::k=>(xItem x).f C k tm R cs H
def zix(fr:xC)(d:List znd):xC:=⟨fr.todo,fr.tm,⟨fr.R.fn,fr.R.n,d,fr.R.mode,fr.R.deferred,fr.R.roundOf⟩⟩
def zso(C:iA)(d:znd)(ds:List znd)(fr:xC)(cs:List xC)(H:qA):fC:=
 mK (match d.fn with
  | none=>ob (zb5 H d.r) fun l=>ob l fun l=>some ⟨zix fr (cF l ds),cs,setBlk H d.r (.deferred none)⟩
  | some (.func f)=>match C.prims.get f with
   | none=>ob (vJ C f d.args true) fun g=>some ⟨g,zix fr ds::cs,H⟩
   | some _=>none
  | some (.yld _)=>none) 15
def gT(l:List zA):zA:=
 match l with
 | [v]=>v
 | l=>.tup l
def zcf(C:iA)(fr:xC)(cs:List xC)(H:qA):fC:=
 match ob (C.fns.get fr.R.fn) fun fn=>xU C H fr.tm fn.results.toList with
 | none=>.fail 16
 | some l=>
  match cs with
  | []=>bif fr.R.deferred then .fail 17 else bif Nat.beq fr.R.fn C.root then .done (gT l) H else .fail 22
  | c::rest=>mK (bif fr.R.deferred then
    (match c.R.mode with
    | .panicking (⟨_,true⟩::_)=>some ⟨zcx c .returning,rest,H⟩
    | _=>sB (!c.R.mode.running) (some ⟨c,rest,H⟩))
   else ob (nI c (gT l)) fun c=>some ⟨c,rest,H⟩) 18
def zce(C:iA)(fr:xC)(cs:List xC)(H:qA):fC:=
 match fr.R.defers with
 | d::ds=>zso C d ds fr cs H
 | []=>match fr.R.mode.chain with
  | some chain=>mK (ob (C.fns.get fr.R.fn) fun _=>match cs with | c::rest=>some ⟨zoh c chain,rest,H⟩ | []=>none) 19
  | none=>zcf C fr cs H
def stepA(C:iA)(s:jO):fC:=
 match s with
 | ⟨⟨todo,tm,R⟩,cs,H⟩=>bif R.mode.running then zho C todo tm R cs H else zce C ⟨todo,tm,R⟩ cs H
def xK(C:iA)(o:fC):fC:=
 match o with
 | .next s=>stepA C s
 | .done v H=>.done v H
 | .fail n=>.fail n
def zn5 (C:iA)(n:Nat):fC->fC:=
 Nat.rec (motive:=fun _=>fC->fC) (fun o=>xK C o) (fun _ g o=>g (g o)) n
end Go.Am
namespace Go.Am
open Go
theorem lA{α β:Type}{x:Option α}{f:α->Option β}{b:β}:ob x f=some b ↔ ∃a,x=some a/\f a=some b:=by
 cases x with
 | none=>simp[ob]
 | some a=>exact⟨fun h=>⟨a,rfl,h⟩,fun⟨_,h,k⟩=>by cases h;exact k⟩
@[simp] theorem z5o {α β:Type} {f:α->Option β}:ob none f=none:=rfl
@[simp] theorem sA {α β:Type} {a:α} {f:α->Option β}:ob (some a) f=f a:=rfl
theorem lB{α:Type}{b:Bool}{x:Option α}{a:α}:sB b x=some a ↔ b=true/\x=some a:=by
 cases b with
 | false=>simp[sB]
 | true=>simp[sB]
theorem jH{α:Type}(a b:α)(c:Bool):(Bool.rec (motive:=fun _=>α) a b c:α)=if c=true then b else a:=by cases c<;>rfl
theorem zC{n m:Nat}:(Nat.beq n m=true) ↔ n=m:=⟨Nat.eq_of_beq_eq_true,fun h=>by subst h;exact Nat.beq_refl n⟩
theorem beqf{n m:Nat}:(Nat.beq n m=false) ↔ n≠m:=by
 rw[<- Bool.not_eq_true,zC]
theorem cE{n m:Nat}:(Nat.ble n m=true) ↔ n<=m:=Iff.of_eq Nat.ble_eq
theorem lC{n m:Nat}:(Nat.blt n m=true) ↔ n<m:=Iff.of_eq Nat.ble_eq
theorem iC{α:Type}(c:Bool)(a b:α):(bif c then a else b)=if c=true then a else b:=by cases c<;>rfl
namespace Tr
variable {α:Type}
theorem get_leaf(n:Nat):(leaf:Tr α).get n=none:=rfl
theorem get_node(l:Tr α)(v:Option α)(r:Tr α)(n:Nat) :
  (node l v r).get n=if n=0 then v else if n%2=1 then l.get (n / 2)else r.get (n / 2-1):=by
 show Bool.rec (motive:=fun _=>Option α) (Bool.rec (motive:=fun _=>Option α) (r.get (n / 2-1)) (l.get (n / 2)) (Nat.beq (n%2) 1)) v (Nat.beq n 0)=_
 rw[jH,jH];simp only[zC]
theorem z5s(f n:Nat)(v:α):mk (f+1) n v=if n=0 then node leaf (some v) leaf else if n%2=1 then node (mk f (n / 2) v) none leaf else node leaf none (mk f (n / 2-1) v):=by
 show Bool.rec (motive:=fun _=>Tr α) (Bool.rec (motive:=fun _=>Tr α) (node leaf none (mk f (n / 2-1) v)) (node (mk f (n / 2) v) none leaf) (Nat.beq (n%2) 1)) (node leaf (some v) leaf) (Nat.beq n 0)=_
 rw[jH,jH];simp only[zC]
theorem zzs(n:Nat)(v:α):(leaf:Tr α).set n v=mk (n+1) n v:=rfl
theorem zzr(l:Tr α)(x:Option α)(r:Tr α)(n:Nat)(v:α) :
  (node l x r).set n v=if n=0 then node l (some v) r else if n%2=1 then node (l.set (n / 2) v) x r else node l x (r.set (n / 2-1) v):=by
 show Bool.rec (motive:=fun _=>Tr α) (Bool.rec (motive:=fun _=>Tr α) (node l x (r.set (n / 2-1) v)) (node (l.set (n / 2) v) x r) (Nat.beq (n%2) 1)) (node l (some v) r) (Nat.beq n 0)=_
 rw[jH,jH];simp only[zC]
theorem z1n(l:Tr α)(x:Option α)(r:Tr α)(n:Nat) :
  (node l x r).del n=if n=0 then node l none r else if n%2=1 then node (l.del (n / 2)) x r else node l x (r.del (n / 2-1)):=by
 show Bool.rec (motive:=fun _=>Tr α) (Bool.rec (motive:=fun _=>Tr α) (node l x (r.del (n / 2-1))) (node (l.del (n / 2)) x r) (Nat.beq (n%2) 1)) (node l none r) (Nat.beq n 0)=_
 rw[jH,jH];simp only[zC]
theorem get_mk(f:Nat):∀(n m:Nat) (v:α),n<f->(mk f n v).get m=if m=n then some v else none:=by
 induction f with
 | zero=>intro n m v h;omega
 | succ f ih=>
  intro n m v h;rw[z5s];by_cases h0:n=0
  ·rw[if_pos h0,get_node];subst h0;split<;>simp[get_leaf]
  ·rw[if_neg h0]
   by_cases h1:n%2=1
   ·rw[if_pos h1,get_node]
    by_cases m0:m=0
    ·rw[if_pos m0,if_neg (by omega)]
    ·rw[if_neg m0]
     by_cases m1:m%2=1
     ·rw[if_pos m1,ih _ _ _ (by omega)];by_cases e:m=n
      ·subst e;simp
      ·rw[if_neg e,if_neg (by omega)]
     ·rw[if_neg m1,get_leaf,if_neg (by omega)]
   ·rw[if_neg h1,get_node]
    by_cases m0:m=0
    ·rw[if_pos m0,if_neg (by omega)]
    ·rw[if_neg m0]
     by_cases m1:m%2=1
     ·rw[if_pos m1,get_leaf,if_neg (by omega)]
     ·rw[if_neg m1,ih _ _ _ (by omega)];by_cases e:m=n
      ·subst e;simp
      ·rw[if_neg e,if_neg (by omega)]
theorem get_set(t:Tr α):∀(n m:Nat) (v:α),(t.set n v).get m=if m=n then some v else t.get m:=by
 induction t with
 | leaf=>intro n m v;rw[zzs,get_mk _ _ _ _ (by omega),get_leaf]
 | node l x r ihl ihr=>
  intro n m v;rw[zzr];by_cases h0:n=0
  ·rw[if_pos h0,get_node,get_node];subst h0;by_cases m0:m=0<;>simp[m0]
  ·rw[if_neg h0]
   by_cases h1:n%2=1
   ·rw[if_pos h1,get_node,get_node]
    by_cases m0:m=0
    ·rw[if_pos m0,if_pos m0,if_neg (by omega)]
    ·rw[if_neg m0,if_neg m0]
     by_cases m1:m%2=1
     ·rw[if_pos m1,if_pos m1,ihl];by_cases e:m=n
      ·subst e;simp
      ·rw[if_neg e,if_neg (by omega)]
     ·rw[if_neg m1,if_neg m1,if_neg (by omega)]
   ·rw[if_neg h1,get_node,get_node]
    by_cases m0:m=0
    ·rw[if_pos m0,if_pos m0,if_neg (by omega)]
    ·rw[if_neg m0,if_neg m0]
     by_cases m1:m%2=1
     ·rw[if_pos m1,if_pos m1,if_neg (by omega)]
     ·rw[if_neg m1,if_neg m1,ihr];by_cases e:m=n
      ·subst e;simp
      ·rw[if_neg e,if_neg (by omega)]
theorem get_del(t:Tr α):∀(n m:Nat),(t.del n).get m=if m=n then none else t.get m:=by
 induction t with
 | leaf=>intro n m;show(leaf:Tr α).get m=_;rw[get_leaf];split<;>rfl
 | node l x r ihl ihr=>
  intro n m;rw[z1n];by_cases h0:n=0
  ·rw[if_pos h0,get_node,get_node];subst h0;by_cases m0:m=0<;>simp[m0]
  ·rw[if_neg h0]
   by_cases h1:n%2=1
   ·rw[if_pos h1,get_node,get_node]
    by_cases m0:m=0
    ·rw[if_pos m0,if_pos m0,if_neg (by omega)]
    ·rw[if_neg m0,if_neg m0]
     by_cases m1:m%2=1
     ·rw[if_pos m1,if_pos m1,ihl];by_cases e:m=n
      ·subst e;simp
      ·rw[if_neg e,if_neg (by omega)]
     ·rw[if_neg m1,if_neg m1,if_neg (by omega)]
   ·rw[if_neg h1,get_node,get_node]
    by_cases m0:m=0
    ·rw[if_pos m0,if_pos m0,if_neg (by omega)]
    ·rw[if_neg m0,if_neg m0]
     by_cases m1:m%2=1
     ·rw[if_pos m1,if_pos m1,if_neg (by omega)]
     ·rw[if_neg m1,if_neg m1,ihr];by_cases e:m=n
      ·subst e;simp
      ·rw[if_neg e,if_neg (by omega)]
theorem many_succ(t:Tr α)(n i:Nat):t.many (n+1) i=ob (t.get i) fun v=>ob (t.many n (i+1)) fun l=>some (v::l):=rfl
theorem many_some(t:Tr α)(n:Nat):∀(i:Nat) (l:List α),t.many n i=some l->l.length=n/\∀j,j<n->t.get (i+j)=l[j]?:=by
 induction n with
 | zero=>intro i l h;cases h;exact⟨rfl,fun j hj=>by omega⟩
 | succ n ih=>
  intro i l h;rw[many_succ,lA]at h;obtain⟨v,hv,h⟩:=h
  rw[lA]at h;obtain⟨m,hm,h⟩:=h
  cases h;obtain⟨h1,h2⟩:=ih _ _ hm
  refine⟨by simp[h1],fun j hj=>?_⟩
  cases j with
  | zero=>simpa using hv
  | succ j=>have:=h2 j (by omega);rw[show i+1+j=i+(j+1) by omega]at this;simpa using this
theorem ziw(v:α)(l:List α)(t:Tr α)(i:Nat):setMany (v::l) t i=setMany l (t.set i v) (i+1):=rfl
theorem get_setMany(l:List α):∀(t:Tr α) (i m:Nat),(setMany l t i).get m=if i<=m/\m<i+l.length then l[m-i]? else t.get m:=by
 induction l with
 | nil=>intro t i m;rw[if_neg (by simp)];rfl
 | cons v l ih=>
  intro t i m;rw[ziw,ih,get_set];by_cases h:i+1<=m/\m<i+1+l.length
  ·rw[if_pos h,if_pos (by simp;omega)]
   rw[show m-i=(m-(i+1))+1 by omega];simp
  ·rw[if_neg h]
   by_cases e:m=i
   ·subst e;simp
   ·rw[if_neg e,if_neg (by simp;omega)]
theorem get_ofList(l:List α)(m:Nat):(ofList l).get m=l[m]?:=by
 unfold ofList;rw[get_setMany];split
 ·simp
 ·rename_i h;rw[get_leaf,List.getElem?_eq_none (by omega)]
end Tr
theorem vE{α:Type}(l:List α):∀n,oD l n=l[n]?:=by
 induction l with
 | nil=>intro n;rfl
 | cons a l ih=>
  intro n
  cases n with
  | zero=>rfl
  | succ n=>show oD l n=_;rw[ih];simp
theorem rO{α:Type}(l:List α):∀n,lK l n=l.drop n:=by
 induction l with
 | nil=>intro n;simp;rfl
 | cons a l ih=>
  intro n
  cases n with
  | zero=>rfl
  | succ n=>show lK l n=_;rw[ih];simp
theorem jS{α:Type}(l:List α):∀n,xP l n=l.take n:=by
 induction l with
 | nil=>intro n;simp;rfl
 | cons a l ih=>
  intro n
  cases n with
  | zero=>rfl
  | succ n=>show a::xP l n=_;rw[ih];simp
theorem bD{α:Type}(l:List α):wB l=l.length:=by
 induction l with
 | nil=>rfl
 | cons a l ih=>show wB l+1=_;rw[ih];rfl
theorem eH{α:Type}(l m:List α):cF l m=l++m:=by
 induction l with
 | nil=>rfl
 | cons a l ih=>show a::cF l m=_;rw[ih];rfl
theorem oG{α:Type}(p:α->Bool)(l:List α):bB p l=l.all p:=by
 induction l with
 | nil=>rfl
 | cons a l ih=>show(bif p a then bB p l else false)=_;rw[ih];cases h:p a<;>simp[h]
theorem wP{α β:Type}(f:α->Option β)(a:α)(l:List α):oI f (a::l)=ob (f a) fun b=>ob (oI f l) fun r=>some (b::r):=rfl
theorem cW{α β:Type}(f:α->Option β):oI f []=some []:=rfl
theorem tQ(i:Nat)(l:List Nat):pH i l=true ↔ i∈l:=by
 induction l with
 | nil=>exact⟨fun h=>(by cases h),fun h=>(by cases h)⟩
 | cons j l ih=>
  show(bif Nat.beq i j then true else pH i l)=true ↔ _
  rw[iC,yat];by_cases h:Nat.beq i j=true
  ·rw[if_pos h];exact⟨fun _=>.inl (zC.1 h),fun _=>rfl⟩
  ·rw[if_neg h,ih];exact⟨.inr,fun k=>k.resolve_left fun e=>h (zC.2 e)⟩
theorem lO(a:List Nat):∀b,eI a b=true ↔ a=b:=by
 induction a with
 | nil=>intro b;cases b with
  | nil=>exact⟨fun _=>rfl,fun _=>rfl⟩
  | cons y b=>exact⟨fun h=>(by cases h),fun h=>(by cases h)⟩
 | cons x a ih=>
  intro b
  cases b with
  | nil=>exact⟨fun h=>(by cases h),fun h=>(by cases h)⟩
  | cons y b=>
   show(bif Nat.beq x y then eI a b else false)=true ↔ _
   rw[iC];by_cases h:Nat.beq x y=true
   ·rw[if_pos h,ih,zC.1 h];simp
   ·rw[if_neg h];exact⟨fun h=>(by cases h),fun e=>(h (by rw[zC];injection e)).elim⟩
theorem iJ{a b:IntKind}:kEq a b=true ↔ a=b:=by cases a<;>cases b<;>simp[kEq,kIdx]
theorem eQ(a b:Bool):bEq a b=(a == b):=by cases a<;>cases b<;>rfl
theorem qQ(a b:Int):wA a b=true ↔ a=b:=by
 cases a<;>cases b<;>simp only[wA,zC] <;> (try simp)<;>omega
theorem zma(a b:Int):sC a b=true ↔ a<=b:=by
 cases a<;>cases b<;>simp only[sC,cE] <;> (try simp)<;>omega
theorem zdp(a b:Int):iB a b=true ↔ a<b:=by
 cases a<;>cases b<;>simp only[iB,lC] <;> (try simp)<;>omega
theorem zdq(a b:Int):wA a b=(a == b):=by rw[Bool.eq_iff_iff,qQ];simp
theorem z3y(a b:Int):sC a b=decide (a<=b):=by rw[Bool.eq_iff_iff,zma];simp
theorem z3x(a b:Int):iB a b=decide (a<b):=by rw[Bool.eq_iff_iff,zdp];simp
theorem qK(k:IntKind)(n:Int):vA k n=k.wrap n:=by
 cases n with
 | ofNat n=>
  show(bif Nat.blt n (cG k)then Int.ofNat n else _)=_
  rw[iC];by_cases h:Nat.blt n (cG k)=true
  ·rw[if_pos h]
   have h':=lC.1 h
   cases k<;>simp only[cG]at h'<;>simp only[IntKind.wrap,IntKind.bits,IntKind.signed]<;>simp<;>omega
  ·rw[if_neg h]
 | negSucc n=>
  show(bif Nat.blt n (kLo k)then Int.negSucc n else _)=_
  rw[iC];by_cases h:Nat.blt n (kLo k)=true
  ·rw[if_pos h]
   have h':=lC.1 h
   cases k<;>simp only[kLo]at h'<;>simp only[IntKind.wrap,IntKind.bits,IntKind.signed]<;>simp<;>omega
  ·rw[if_neg h]
theorem gW{n:Int}{m:Nat}:aK n=some m ↔ n=(m:Int):=by
 cases n with
 | ofNat a=>simp only[aK,Option.some.injEq];exact⟨fun h=>(by rw[h];rfl),fun h=>Int.ofNat.inj h⟩
 | negSucc a=>simp only[aK];exact⟨fun h=>(by cases h),fun h=>(by cases h)⟩
end Go.Am
namespace Go.Am
open Go
structure BI where
 b:Nat
 tight:Bool
 es:Nat
 room:Nat
 ro:Bool
structure Mu where
 m:Nat->Option BI
 pd:Nat->Option (jA × Nat × Nat)
instance:CoeFun Mu fun _=>Nat->Option BI:=⟨Mu.m⟩
def Mu.lw(μ ν:Mu):Prop:=∀a i,μ a=some i->ν a=some i
structure Mu.le (μ ν:Mu):Prop where
 f:∀a i,μ a=some i->ν a=some i
 pd:ν.pd=μ.pd
instance {μ ν:Mu}:CoeFun (μ.le ν) fun _=>∀a i,μ a=some i->ν a=some i:=⟨Mu.le.f⟩
instance {μ ν:Mu}:Coe (μ.le ν) (μ.lw ν):=⟨Mu.le.f⟩
theorem Mu.le_refl(μ:Mu):μ.le μ:=⟨fun _ _ h=>h,rfl⟩
theorem Mu.le_trans{a b c:Mu}(h:a.le b)(k:b.le c):a.le c:=⟨fun x i hx=>k.f x i (h.f x i hx),k.pd.trans h.pd⟩
def zrt(μ:Mu):AFn->Fn->Prop
 | .func f,fn=>fn=.func f
 | .yld l,fn=>∃i,μ l=some i/\fn=.yield i.b
mutual
def rA (μ:Mu):zA->Value->Prop
 | .bool b,v=>v=.bool b
 | .int k n,v=>v=.int k n
 | .str l,v=>∃s,v=.string s/\tE s=l
 | .nilptr,v=>v=.pointer none
 | .ptr b off,v=>∃i,μ b=some i/\v=.pointer (some ⟨i.b,off,none⟩)
 | .nilslice,v=>v=.slice none 0 0
 | .slice b off len cap,v=>(∃i cap',μ b=some i/\v=.slice (some ⟨i.b,off,none⟩) len cap'/\cap<=cap'/\(i.tight=true->cap'=cap)/\(i.tight=false->off+cap'*i.es<=i.room))\/(b=0/\len=0/\cap=0/\∃a c,v=.slice (some a) 0 c/\(off=0/\c=0\/off=1))
 | .nilmap,v=>v=.map none
 | .map b,v=>∃i,μ b=some i/\v=.map (some i.b)
 | .func f a c,v=>∃fn a' c',v=.func fn a' c'/\zrt μ f fn/\qB μ a a'.toList/\qB μ c c'.toList
 | .nilfunc,v=>v=.nilFunc
 | .iface t x,v=>∃x',v=.iface t x'/\rA μ x x'
 | .niliface,v=>v=.nilIface
 | .agg l,v=>∃cs,v=.agg cs/\qB μ l cs.toList
 | .tup l,v=>∃cs,v=.tuple cs/\qB μ l cs.toList
def qB (μ:Mu):List zA->List Value->Prop
 | [],m=>m=[]
 | a::l,m=>∃v r,m=v::r/\rA μ a v/\qB μ l r
end
theorem zrt.mono{μ ν:Mu}(h:μ.lw ν){f:AFn}{g:Fn}(k:zrt μ f g):zrt ν f g:=by
 cases f with
 | func f=>exact k
 | yld l=>obtain⟨i,h1,h2⟩:=k;exact⟨i,h _ _ h1,h2⟩
mutual
theorem rA.mono{μ ν:Mu}(h:μ.lw ν):∀(a:zA) (v:Value),rA μ a v->rA ν a v
 | .bool _,_,k=>k
 | .int _ _,_,k=>k
 | .str _,_,k=>k
 | .nilptr,_,k=>k
 | .ptr _ _,_,⟨i,h1,h2⟩=>⟨i,h _ _ h1,h2⟩
 | .nilslice,_,k=>k
 | .slice _ _ _ _,_,.inl ⟨i,c,h1,h2⟩=>.inl ⟨i,c,h _ _ h1,h2⟩
 | .slice _ _ _ _,_,.inr k=>.inr k
 | .nilmap,_,k=>k
 | .map _,_,⟨i,h1,h2⟩=>⟨i,h _ _ h1,h2⟩
 | .func _ a c,_,⟨fn,a',c',h1,h2,h3,h4⟩=>⟨fn,a',c',h1,h2.mono h,qB.mono h a _ h3,qB.mono h c _ h4⟩
 | .nilfunc,_,k=>k
 | .iface _ x,_,⟨x',h1,h2⟩=>⟨x',h1,rA.mono h x _ h2⟩
 | .niliface,_,k=>k
 | .agg l,_,⟨cs,h1,h2⟩=>⟨cs,h1,qB.mono h l _ h2⟩
 | .tup l,_,⟨cs,h1,h2⟩=>⟨cs,h1,qB.mono h l _ h2⟩
theorem qB.mono{μ ν:Mu}(h:μ.lw ν):∀(l:List zA) (m:List Value),qB μ l m->qB ν l m
 | [],_,k=>k
 | a::l,_,⟨v,r,h1,h2,h3⟩=>⟨v,r,h1,rA.mono h a v h2,qB.mono h l r h3⟩
end
theorem qB.length{μ:Mu}{l:List zA}:∀ {m:List Value},qB μ l m->m.length=l.length:=by
 induction l with
 | nil=>intro m h;rw[qB]at h;rw[h];rfl
 | cons a l ih=>intro m h;rw[qB]at h;obtain⟨v,r,rfl,_,h3⟩:=h;simp[ih h3]
theorem qB.get{μ:Mu}{l:List zA}:∀ {m:List Value} {i:Nat} {a:zA},qB μ l m->l[i]?=some a->∃v,m[i]?=some v/\rA μ a v:=by
 induction l with
 | nil=>intro m i a _ h;simp at h
 | cons b l ih=>
  intro m i a h hi;rw[qB]at h;obtain⟨v,r,rfl,h2,h3⟩:=h
  cases i with
  | zero=>simp at hi;subst hi;exact⟨v,by simp,h2⟩
  | succ i=>simp at hi;obtain⟨u,hu,hr⟩:=ih h3 hi;exact⟨u,by simpa using hu,hr⟩
theorem qB.mk{μ:Mu}{l:List zA}:∀ {m:List Value},m.length=l.length->(∀(i:Nat) a v,l[i]?=some a->m[i]?=some v->rA μ a v)->qB μ l m:=by
 induction l with
 | nil=>intro m h _;rw[qB];simpa using h
 | cons a l ih=>
  intro m h k
  cases m with
  | nil=>simp at h
  | cons v r=>
   rw[qB];exact⟨v,r,rfl,k 0 a v (by simp) (by simp),ih (by simpa using h) fun i a v h1 h2=>k (i+1) a v (by simpa using h1) (by simpa using h2)⟩
theorem qB.append{μ:Mu}{l l':List zA}:∀ {m m':List Value},qB μ l m->qB μ l' m'->qB μ (l++l') (m++m'):=by
 induction l with
 | nil=>intro m m' h h';rw[qB]at h;subst h;exact h'
 | cons a l ih=>intro m m' h h';rw[qB]at h;obtain⟨v,r,rfl,h2,h3⟩:=h;rw[List.cons_append,qB];exact⟨v,r++m',rfl,h2,ih h3 h'⟩
theorem qB.drop{μ:Mu}{l:List zA}{m:List Value}(h:qB μ l m)(n:Nat):qB μ (l.drop n) (m.drop n):=by
 refine qB.mk (by simp[h.length]) fun i a v h1 h2=>?_
 rw[ycf]at h1 h2;obtain⟨u,hu,hr⟩:=h.get h1
 rw[hu]at h2;cases h2;exact hr
theorem qB.take{μ:Mu}{l:List zA}{m:List Value}(h:qB μ l m)(n:Nat):qB μ (l.take n) (m.take n):=by
 refine qB.mk (by simp[h.length]) fun i a v h1 h2=>?_
 rw[ycg]at h1 h2;split at h1
 ·rename_i hi
  rw[if_pos hi]at h2;obtain⟨u,hu,hr⟩:=h.get h1
  rw[hu]at h2;cases h2;exact hr
 ·cases h1
theorem qB.nil{μ:Mu}:qB μ [] []:=by rw[qB]
theorem qB.cons{μ:Mu}{a:zA}{l:List zA}{v:Value}{m:List Value}(h:rA μ a v)(k:qB μ l m):qB μ (a::l) (v::m):=by rw[qB];exact⟨v,m,rfl,h,k⟩
theorem qB.single{μ:Mu}{a:zA}{v:Value}(h:rA μ a v):qB μ [a] [v]:=.cons h .nil
theorem xT{v:zA}{b:Bool}:v.asBool=some b ↔ v=.bool b:=by cases v<;>simp[zA.asBool]
theorem za7{v:zA}{n:Int}:v.asInt=some n ↔ ∃k,v=.int k n:=by cases v<;>simp[zA.asInt]
theorem cM{v:zA}{p:IntKind × Int}:v.asIntK=some p ↔ v=.int p.1 p.2:=by cases v<;>simp[zA.asIntK,Prod.ext_iff]
theorem cN{v:zA}{l:List Nat}:v.asStr=some l ↔ v=.str l:=by cases v<;>simp[zA.asStr]
theorem yW{v:zA}{p:Nat × Nat}:v.asPtr=some p ↔ v=.ptr p.1 p.2:=by cases v<;>simp[zA.asPtr,Prod.ext_iff]
theorem yT{v:zA}{p:Nat × Nat × Nat × Nat}:v.asSlice=some p ↔ v=.slice p.1 p.2.1 p.2.2.1 p.2.2.2:=by cases v<;>simp[zA.asSlice,Prod.ext_iff]
theorem za6{v:zA}{b:Nat}:v.asMap=some b ↔ v=.map b:=by cases v<;>simp[zA.asMap]
theorem lX{v:zA}{l:List zA}:v.asAgg=some l ↔ v=.agg l:=by cases v<;>simp[zA.asAgg]
theorem zrp{v:zA}{l:List zA}:v.asTup=some l ↔ v=.tup l:=by cases v<;>simp[zA.asTup]
theorem zea{v:zA}{p:AFn × List zA × List zA}:v.asFunc=some p ↔ v=.func p.1 p.2.1 p.2.2:=by cases v<;>simp[zA.asFunc,Prod.ext_iff]
theorem zbj{v:zA}{p:Nat × zA}:v.asIface=some p ↔ v=.iface p.1 p.2:=by cases v<;>simp[zA.asIface,Prod.ext_iff]
theorem cY{v:zA}{n:Nat}:v.asNat=some n ↔ ∃k,v=.int k (n:Int):=by
 unfold zA.asNat;rw[lA];constructor
 ·rintro⟨a,h1,h2⟩;rw[za7]at h1;obtain⟨k,rfl⟩:=h1;exact⟨k,by rw[gW.1 h2]⟩
 ·rintro⟨k,rfl⟩;exact⟨n,rfl,rfl⟩
theorem fO{v:zA}:(v.tag=3 ↔ v=.nilptr)/\(v.tag=5 ↔ v=.nilslice)/\(v.tag=7 ↔ v=.nilmap)/\(v.tag=10 ↔ v=.nilfunc)/\(v.tag=12 ↔ v=.niliface):=by
 cases v<;>simp[zA.tag]
theorem rA.notAgg{μ:Mu}{a:zA}{v:Value}(h:rA μ a v)(ha:a.asAgg=none):v.cells = #[v]:=by
 cases a<;>rw[rA]at h<;>first
  | (subst h;rfl)
  | (rcases h with⟨_,_,_,rfl,_⟩ | ⟨_,_,_,_,_,rfl,_⟩<;>rfl)
  | (obtain⟨_,rfl,_⟩:=h;rfl)
  | (obtain⟨_,_,rfl⟩:=h;rfl)
  | (obtain⟨_,_,_,rfl,_⟩:=h;rfl)
  | (simp[zA.asAgg]at ha)
theorem rA.one{μ:Mu}{a:zA}{v:Value}(h:rA μ a v)(ha:a.one=true):v.oneCell'=true:=by
 cases a<;>rw[rA]at h<;>first
  | (subst h;rfl)
  | (rcases h with⟨_,_,_,rfl,_⟩ | ⟨_,_,_,_,_,rfl,_⟩<;>rfl)
  | (obtain⟨_,rfl,_⟩:=h;rfl)
  | (obtain⟨_,_,rfl⟩:=h;rfl)
  | (obtain⟨_,_,_,rfl,_⟩:=h;rfl)
  | (revert ha;decide)
  | (have:=lC.1 ha;simp[zA.tag]at this)
theorem zal{μ:Mu}{a:zA}{v:Value}(h:rA μ a v):qB μ a.cells v.cells.toList:=by
 unfold zA.cells
 cases ha:a.asAgg with
 | none=>rw[h.notAgg ha];exact qB.single h
 | some l=>rw[lX.1 ha,rA]at h;obtain⟨cs,rfl,h⟩:=h;exact h
def mL(P:Program)(t:Nat):nE:=
 match P.underlying t with
 | some .bool=>.bool
 | some (.int k)=>.int k
 | some .string=>.string
 | some (.pointer e)=>.ptr e
 | some (.slice e)=>.slice e
 | some (.array n e)=>.arr n e
 | some (.map k e)=>.map k e
 | some (.struct fs)=>.struct (fs.toList.map fun f=>(f.offset,f.type,P.cellsOf f.type))
 | some (.func ..)=>.func
 | some (.interface _)=>.iface
 | _=>.other
def zo1:Value->Bool
 | .agg _=>true
 | _=>false
def zze(P:Program)(t:Nat):Bool:=(P.fieldsOf t).toList.all fun f=>(P.info? f.type).isSome
def tyOf (P:Program)(t:Nat):Option vD:=
 match P.info? t with
 | some i=>match i.zero with
  | some z=>ob (oI vU z.cells.toList) fun l=>sB (bEq (zo1 z) (mL P t).isAgg&&(P.underlying t).isSome&&zze P t)
    (some ⟨mL P t, i.size, i.bytes, l, !P.stoodInHeld t && !P.eqGuardType P.depth t && (P.fieldsOf t).toList.all (fun f => f.name != "_")⟩)
  | none=>none
 | none=>none
def vG(P:Program)(C:iA):Prop:=∀t ty,C.tys.get t=some ty->tyOf P t=some ty
theorem eY{a b:ByteArray}(h:tE a=tE b):a=b:=by
 have h1:a.data.toList=b.data.toList:=by
  unfold tE at h;exact(List.map_inj_right (fun x y hxy=>UInt8.toNat_inj.1 hxy)).1 h
 have h2:a.data=b.data:=Array.toList_inj.1 h1
 cases a;cases b;simpa using h2
theorem zbe{μ:Mu}{v:Value}{a:zA}(h:vU v=some a):rA μ a v/\a.one=true:=by
 unfold vU at h;split at h<;>cases h<;>refine⟨?_,rfl⟩<;>rw[rA]
 exact⟨_,rfl,rfl⟩
theorem zad{μ:Mu}{m:List Value}:∀ {l:List zA},oI vU m=some l->qB μ l m:=by
 induction m with
 | nil=>intro l h;rw[cW]at h;cases h;exact qB.nil
 | cons v m ih=>
  intro l h;rw[wP,lA]at h;obtain⟨a,ha,h⟩:=h
  rw[lA]at h;obtain⟨r,hr,h⟩:=h
  cases h;exact .cons (zbe ha).1 (ih hr)
theorem zlv{μ:Mu}{v:Value}{a:zA}(h:zlw v=some a):rA μ a v:=by
 unfold zlw at h;split at h
 ·rename_i cs hc
  rw[lA]at h;obtain⟨l,hl,h⟩:=h
  cases h
  cases v<;>simp[z36]at hc
  subst hc;rw[rA];exact⟨_,rfl,zad hl⟩
 ·exact(zbe h).1
structure mJ (P:Program) (t:Nat) (ty:vD):Prop where
 info:∃i,P.info? t=some i/\i.size=ty.size/\i.bytes=ty.bytes/\∃z,i.zero=some z/\oI vU z.cells.toList=some ty.zero/\zo1 z=ty.desc.isAgg
 desc:mL P t=ty.desc
 und:∃d,P.underlying t=some d
 fields:∀f∈(P.fieldsOf t).toList,∃i,P.info? f.type=some i
 eqOk : ty.eqOk = true -> P.stoodInHeld t = false /\ P.eqGuardType P.depth t = false /\ ∀ f ∈ (P.fieldsOf t).toList, f.name ≠ "_"
theorem zp2{P:Program}{t:Nat}{ty:vD}(h:tyOf P t=some ty):mJ P t ty:=by
 unfold tyOf at h;split at h
 ·rename_i i hi
  split at h
  ·rename_i z hz
   rw[lA]at h;obtain⟨l,hl,h⟩:=h
   rw[lB]at h;obtain⟨hb,h⟩:=h
   cases h;rw[yac,yac]at hb;refine⟨⟨i,hi,rfl,rfl,z,hz,hl,?_⟩,rfl,Option.isSome_iff_exists.1 hb.1.2,fun f hf=>Option.isSome_iff_exists.1 (ybc.1 hb.2 f hf),fun h=>?_⟩
   ·have:=hb.1.1;rw[eQ]at this;simpa using this
   ·simp only[yac,ybq,ybc,bne_iff_ne]at h;exact⟨h.1.1,h.1.2,h.2⟩
  ·cases h
 ·cases h
theorem vG.facts{P:Program}{C:iA}(h:vG P C){t:Nat}{ty:vD}(k:C.tys.get t=some ty):mJ P t ty:=zp2 (h t ty k)
section
variable {P:Program}{w:World}{t:Nat}{ty:vD}
theorem yU{i:TypeInfo}(h:P.info? t=some i):(typeInfo t).run P w=.ok i w:=by
 simp[typeInfo,h]
theorem zF{d:TypeDesc}(h:P.underlying t=some d):(underlying t).run P w=.ok d w:=by
 simp[underlying,h]
theorem mJ.size(h:mJ P t ty):(sizeOf t).run P w=.ok ty.size w:=by
 obtain⟨i,h1,h2,_⟩:=h.info
 simp[sizeOf,yU h1,h2]
theorem mJ.zero(h:mJ P t ty){μ:Mu}:∃z,(∀w,(zeroValue t).run P w=.ok z w)/\rA μ (zef ty) z/\qB μ ty.zero z.cells.toList:=by
 obtain⟨i,h1,_,_,z,h2,h3,h4⟩:=h.info
 have hl:qB μ ty.zero z.cells.toList:=zad h3
 refine⟨z,fun w=>by simp[zeroValue,yU h1,h2],?_,hl⟩
 unfold zef
 cases hd:ty.desc.isAgg with
 | true=>
  rw[hd]at h4
  cases z<;>simp[zo1]at h4
  show rA μ (.agg ty.zero) _
  rw[rA];exact⟨_,rfl,hl⟩
 | false=>
  rw[hd]at h4;have hc:z.cells = #[z]:=by cases z<;>first | rfl | simp[zo1]at h4
  rw[hc]at hl
  cases hz:ty.zero with
  | nil=>rw[hz,qB]at hl;simp at hl
  | cons a l=>rw[hz,qB]at hl;obtain⟨v,r,hv,hr,_⟩:=hl;simp at hv;rw[<- hv.1]at hr;exact hr
theorem mJ.isAgg(h:mJ P t ty):(Go.isAgg t).run P w=.ok ty.desc.isAgg w:=by
 obtain⟨d,hd⟩:=h.und
 have h0:=h.desc
 unfold mL at h0;rw[hd]at h0;unfold Go.isAgg;rw[Sem.run_bind,zF hd,Result.andThen_ok,<- h0]
 cases d<;>rfl
theorem jY(h:mJ P t ty){fs:List (Nat × Nat × Nat)}(k:ty.desc.asStruct=some fs):∃g,P.underlying t=some (.struct g)/\fs=g.toList.map fun f=>(f.offset,f.type,P.cellsOf f.type):=by
 obtain⟨d,hd⟩:=h.und
 have h0:=h.desc
 unfold mL at h0;rw[hd]at h0;rw[<- h0]at k
 cases d<;>simp[nE.asStruct]at k
 exact⟨_,hd,k.symm⟩
theorem jN(h:mJ P t ty){e:Nat}(k:ty.desc.asSlice=some e):P.underlying t=some (.slice e):=by
 obtain⟨d,hd⟩:=h.und
 have h0:=h.desc
 unfold mL at h0;rw[hd]at h0;rw[<- h0]at k
 cases d<;>simp[nE.asSlice]at k
 rw[hd,k]
theorem zb4(h:mJ P t ty){p:Nat × Nat}(k:ty.desc.asArr=some p):P.underlying t=some (.array p.1 p.2):=by
 obtain⟨d,hd⟩:=h.und
 have h0:=h.desc
 unfold mL at h0;rw[hd]at h0;rw[<- h0]at k
 cases d<;>simp[nE.asArr]at k
 rw[hd,<- k]
theorem zpj(h:mJ P t ty){p:Nat × Nat}(k:ty.desc.asMap=some p):P.underlying t=some (.map p.1 p.2):=by
 obtain⟨d,hd⟩:=h.und
 have h0:=h.desc
 unfold mL at h0;rw[hd]at h0;rw[<- h0]at k
 cases d<;>simp[nE.asMap]at k
 rw[hd,<- k]
theorem zht(h:mJ P t ty){k:IntKind}(e:ty.desc.asInt=some k):P.underlying t=some (.int k):=by
 obtain⟨d,hd⟩:=h.und
 have h0:=h.desc
 unfold mL at h0;rw[hd]at h0;rw[<- h0]at e
 cases d<;>simp[nE.asInt]at e
 rw[hd,e]
theorem iY(h:mJ P t ty)(e:ty.desc.isString=true):P.underlying t=some .string:=by
 obtain⟨d,hd⟩:=h.und
 have h0:=h.desc
 unfold mL at h0;rw[hd]at h0;rw[<- h0]at e
 cases d<;>simp[nE.isString,nE.tag,Nat.beq]at e
 exact hd
theorem zaj(h:mJ P t ty)(e:Nat.blt ty.desc.tag 9=true):∃d,P.underlying t=some d/\∀ms,d≠.interface ms:=by
 obtain⟨d,hd⟩:=h.und
 refine⟨d,hd,fun ms hm=>?_⟩
 subst hm;have h0:=h.desc
 unfold mL at h0;rw[hd]at h0;rw[<- h0]at e;exact absurd (lC.1 e) (by simp[nE.tag])
end
structure wS (μ:Mu) (d:znd) (e:Deferred):Prop where
 rel:match d.fn with
  | none=>∃i,μ d.r=some i/\e={ target:=.collected i.b,args := #[] }
  | some f=>∃fn cap as,e={ target:=.fn fn cap,args:=as }/\zrt μ f fn/\qB μ d.args (as++cap).toList
def sE(μ:Mu)(n:Nat)(tm:Tm)(tmps:Array Value):Prop:=tmps.size=n/\∀i v,tm.get i=some v->rA μ v (tmps.getD i undef)
structure zee (μ:Mu) (l:zru) (r:Loop):Prop where
 state:r.state=l.state
 pending:r.pending=l.pending
 fn:r.fn=l.fn
 tm:sE μ l.n l.tm r.tmps
 params:r.params.toList=l.params
 assign:r.assign=l.assign
 body:r.body=l.body
 defers:∃i,μ l.defers=some i/\r.defers=i.b
inductive zD {α β:Type} (R:α->β->Prop):List α->List β->Prop
 | nil:zD R [] []
 | cons {a b l m}:R a b->zD R l m->zD R (a::l) (b::m)
def iH (μ:Mu)(i:BI):jA->Obj->Prop
 | .cells c n loose,o=>∃cs elem fr,o=.cells cs elem fr/\n<=cs.size/\(i.ro=true\/fr.2<=fr.1\/cs.size<=fr.1)/\(∀(j:Nat) v,c.get j=some v->j<n/\∃v',cs[j]?=some v'/\rA μ v v') ∧
   (match loose with | none=>i.tight=true | some es=>i.tight=false/\i.es=es/\i.room=cs.size/\n%es=0)
 | .map l,o=>∃es clock,o=.map es clock/\zD (fun p e=>rA μ p.1 e.key/\rA μ p.2 e.val) l es.toList
 | .loop l,o=>∃r,o=.loop r/\zee μ l r
 | .deferred l,o=>∃l',o=.deferred l'/\(match l,l' with | none,none=>True | some a,some b=>zD (wS μ) a b | _,_=>False)
 | .siter s pos,o=>∃s',o=.stringIter s' pos/\tE s'=s
structure oB (B N:Nat) (μ:Mu) (H:qA) (w:World):Prop where
 base:256<=B
 glob:∀g,g<256->μ g=some ⟨g,true,0,0,true⟩
 low:∀a x i,a<B->H.t.get a=some x->μ a=some i->i.b<N/\x.asLoop=none/\x.asDeferred=none
 next:B<=H.next
 size:N<=w.heap.size
 fresh:∀a,H.next<=a->μ a=none/\H.t.get a=none
 blk:∀a x i,H.t.get a=some x->μ a=some i->∃o,w.heap[i.b]?=some o/\iH μ i x o
 own:∀a i,B<=a->μ a=some i->N<=i.b/\i.b<w.heap.size/\i.ro=false
 inj:∀a b x y i j,H.t.get a=some x->H.t.get b=some y->μ a=some i->μ b=some j->B<=a->B<=b->i.b=j.b->a=b
 pnd:∀a x t,μ.pd a=some (x,t)->μ a=none/\H.t.get a=some x/\B<=a
end Go.Am
namespace Go.Am
open Go
def pF (μ:Mu)(e:wD)(ρ:Operand->Value):Prop:=∀x v,ev x e=some v->rA μ v (ρ x)
theorem pF.many{μ:Mu}{e:wD}{ρ:Operand->Value}(h:pF μ e ρ):∀ {l:List Operand} {r:List zA},evs l e=some r->qB μ r (l.map ρ):=by
 intro l;induction l with
 | nil=>intro r k;unfold evs at k;rw[cW]at k;cases k;exact .nil
 | cons x l ih=>
  intro r k;unfold evs at k;rw[wP,lA]at k;obtain⟨a,ha,k⟩:=k
  rw[lA]at k;obtain⟨b,hb,k⟩:=k
  cases k
  exact .cons (h _ _ ha) (ih hb)
theorem pF.parts{μ:Mu}{e:wD}{ρ:Operand->Value}(h:pF μ e ρ):∀ {l:List (Nat × Operand)} {r:List (Nat × zA)},evp l e=some r →
  zD (fun p q=>p.1=q.1/\rA μ p.2 q.2) r (l.map fun x=>(x.1,ρ x.2)):=by
 intro l;induction l with
 | nil=>intro r k;unfold evp at k;rw[cW]at k;cases k;exact .nil
 | cons x l ih=>
  intro r k;unfold evp at k;rw[wP,lA]at k;obtain⟨a,ha,k⟩:=k
  rw[lA]at ha;obtain⟨a',ha,ha'⟩:=ha
  cases ha'
  rw[lA]at k;obtain⟨b,hb,k⟩:=k
  cases k
  exact .cons ⟨rfl,h _ _ ha⟩ (ih hb)
def zyk(μ:Mu):Option zA->Option Value->Prop
 | none,none=>True
 | some a,some v=>rA μ a v
 | _,_=>False
theorem pF.opt{μ:Mu}{e:wD}{ρ:Operand->Value}(h:pF μ e ρ){x:Option Operand}{r:Option zA}(k:evo x e=some r):zyk μ r (x.map ρ):=by
 cases x with
 | none=>cases k;trivial
 | some x=>unfold evo at k;simp only[]at k;rw[lA]at k;obtain⟨a,ha,k⟩:=k;cases k;exact h _ _ ha
theorem zS(b off n:Nat):Addr.add ⟨b,off,none⟩ n=⟨b,off+n,none⟩:=by
 unfold Addr.add;split
 ·rename_i h;subst h;rfl
 ·rfl
section
variable {P:Program}{C:iA}{B N:Nat}{μ:Mu}{H:qA}{w:World}
theorem zW{b:Nat}{p:Tr zA × Nat × Option Nat}(h:nD H b=some p):H.t.get b=some (.cells p.1 p.2.1 p.2.2):=by
 unfold nD at h;rw[lA]at h;obtain⟨x,hx,h⟩:=h
 cases x<;>simp[jA.asCells]at h
 subst h;exact hx
theorem oB.cellAt(hH:oB B N μ H w){b:Nat}{p:Tr zA × Nat × Option Nat}(h:nD H b=some p){i:BI}(hi:μ b=some i){j:Nat}{v:zA}(hv:p.1.get j=some v) :
  ∃v',w.cell? ⟨i.b,j,none⟩=some v'/\rA μ v v':=by
 obtain⟨o,h2,h3⟩:=hH.blk _ _ _ (zW h) hi
 obtain⟨cs,elem,fr,rfl,_,_,h4,_⟩:=h3
 obtain⟨_,v',h6,h7⟩:=h4 j v hv
 exact⟨v',by simp[World.cell?,h2,h6],h7⟩
theorem oB.manyAt(hH:oB B N μ H w){b:Nat}{p:Tr zA × Nat × Option Nat}(h:nD H b=some p){i:BI}(hi:μ b=some i){n off:Nat}{l:List zA}(hl:p.1.many n off=some l) :
  ∃vs:List Value,vs.length=n/\qB μ l vs/\(loadCells ⟨i.b,off,none⟩ n).run P w=.ok vs.toArray w/\∀j,j<n->w.cell? ⟨i.b,off+j,none⟩=vs[j]?:=by
 obtain⟨h1,h2⟩:=Tr.many_some _ _ _ _ hl
 have key:∀j,j<n->∃v',w.cell? ⟨i.b,off+j,none⟩=some v'/\∃a,l[j]?=some a/\rA μ a v':=by
  intro j hj;have h3:=h2 j hj
  cases hlj:l[j]? with
  | none=>rw[List.getElem?_eq_none_iff]at hlj;omega
  | some a=>
   rw[hlj]at h3;obtain⟨v',h4,h5⟩:=hH.cellAt h hi h3
   exact⟨v',h4,a,rfl,h5⟩
 let f:Nat->Value:=fun j=>(w.cell? ⟨i.b,off+j,none⟩).getD undef
 have hf:∀j,j<n->w.cell? ⟨i.b,off+j,none⟩=some (f j):=by
  intro j hj;obtain⟨v',h3,_⟩:=key j hj
  simp[f,h3]
 refine⟨(List.range n).map f,by simp,?_,?_,?_⟩
 ·refine qB.mk (by simp[h1]) fun j a v ha hv=>?_
  have hj:j<n:=by rw[<- h1];exact(yad.1 ha).1
  obtain⟨v',h3,a',h4,h5⟩:=key j hj
  rw[ha]at h4;cases h4;rw[yav,List.getElem?_range hj]at hv;have h6:=hf j hj
  rw[h3]at h6;cases h6;simp at hv;rw[<- hv];exact h5
 ·exact run_loadCells w _ n f fun j hj=>by rw[zS];exact hf j hj
 ·intro j hj;rw[hf j hj,yav,List.getElem?_range hj];rfl
theorem zor(hH:oB B N μ H w){t:Nat}{ty:vD}(hty:mJ P t ty){b:Nat}{p:Tr zA × Nat × Option Nat}(h:nD H b=some p){i:BI}(hi:μ b=some i){off:Nat}{v:zA}
  (hv:oN ty p.1 off=some v):∃v',(loadVar t ⟨i.b,off,none⟩).run P w=.ok v' w/\rA μ v v':=by
 unfold oN at hv;unfold loadVar;rw[Sem.run_bind,hty.isAgg,Result.andThen_ok]
 cases ha:ty.desc.isAgg with
 | true=>
  rw[ha,cond_true,lA]at hv;obtain⟨l,hl,hv⟩:=hv
  cases hv;obtain⟨vs,_,h2,h3,_⟩:=hH.manyAt (P:=P) h hi hl
  refine⟨.agg vs.toArray,?_,by rw[rA];exact⟨_,rfl,h2⟩⟩
  rw[if_pos rfl,Sem.run_bind,hty.size,Result.andThen_ok,Sem.run_bind,h3];rfl
 | false=>
  rw[ha,cond_false]at hv;obtain⟨v',h1,h2⟩:=hH.cellAt h hi hv
  refine⟨v',?_,h2⟩
  rw[if_neg (by simp),run_load,h1]
theorem zbs(hT:vG P C){t:Nat}{l:List zA}{cs:Array Value}(hl:qB μ l cs.toList){off:Nat}{v:zA}(hv:vO C t l off=some v) :
  ∃v',(part t cs off).run P w=.ok v' w/\rA μ v v':=by
 unfold vO at hv;rw[lA]at hv;obtain⟨ty,hty,hv⟩:=hv
 have hF:=hT.facts hty
 unfold part;rw[Sem.run_bind,hF.isAgg,Result.andThen_ok]
 cases ha:ty.desc.isAgg with
 | true=>
  rw[ha,cond_true]at hv
  cases hv;refine⟨.agg (cs.extract off (off+ty.size)),?_,?_⟩
  ·rw[if_pos rfl,Sem.run_bind,hF.size];rfl
  ·rw[rA];refine⟨_,rfl,?_⟩
   rw[jS,rO,Array.toList_extract,List.extract_eq_take_drop,Nat.add_sub_cancel_left];exact(hl.drop _).take _
 | false=>
  rw[ha,cond_false,vE]at hv;obtain⟨v',h1,h2⟩:=hl.get hv
  refine⟨v',?_,h2⟩
  rw[if_neg (by simp)]
  have:cs[off]?=some v':=by simpa using h1
  rw[this];rfl
def LOk (P:Program)(μ:Mu)(w:World)(ρ:Operand->Value)(o:Oper)(v:zA):Prop:=∃v',(execOp ρ o).run P w=.ok (.value v') w/\rA μ v v'
variable {e:wD}{ρ:Operand->Value}{dst:Option Tmp}{type:TypeId}{pos:String}{after:Array Edge}{guard:Option (Nat × Bool)}{v:zA}
theorem zov(hE:pF μ e ρ){x:Operand}(h:zqx x C e H=some v):LOk P μ w ρ ⟨dst,.move x,type,pos,after,guard⟩ v:=⟨ρ x,rfl,hE x v h⟩
theorem zfs(hE:pF μ e ρ){x:Operand}(h:zqx x C e H=some v):LOk P μ w ρ ⟨dst,.assign x,type,pos,after,guard⟩ v:=⟨ρ x,rfl,hE x v h⟩
theorem zou(hE:pF μ e ρ){c a b:Operand}(h:zv5 c a b C e H=some v):LOk P μ w ρ ⟨dst,.pick c a b,type,pos,after,guard⟩ v:=by
 unfold zv5 at h;rw[lA]at h;obtain⟨cv,hc,h⟩:=h
 rw[lA]at h;obtain⟨cb,hb,h⟩:=h
 have h1:=hE _ _ hc
 rw[xT.1 hb,rA]at h1;unfold LOk execOp;simp only[h1,asBool]
 cases cb with
 | true=>exact⟨ρ a,rfl,hE _ _ h⟩
 | false=>exact⟨ρ b,rfl,hE _ _ h⟩
theorem zow(hT:vG P C)(hH:oB B N μ H w)(hE:pF μ e ρ){t:Nat}{a:Operand}(h:mN t a C e H=some v):LOk P μ w ρ ⟨dst,.load t a,type,pos,after,guard⟩ v:=by
 unfold mN at h;simp only[lA,yW]at h;obtain⟨av,ha,p,rfl,ty,hty,c,hc,h⟩:=h
 have h1:=hE _ _ ha
 rw[rA]at h1;obtain⟨i,hi,hv⟩:=h1
 obtain⟨v',h2,h3⟩:=zor (P:=P) hH (hT.facts hty) hc hi h
 refine⟨v',?_,h3⟩
 simp only[execOp,Instr.loadAt,hv,Instr.sureAddr,Sem.run_bind,Sem.run_pure,Result.andThen_ok,h2]
theorem zv6(hE:pF μ e ρ){x:Operand}(h:z0r x C e H=some v):LOk P μ w ρ ⟨dst,.nilCheck x,type,pos,after,guard⟩ v:=by
 unfold z0r at h;rw[lA]at h;obtain⟨a,ha,h⟩:=h
 rw[lB]at h;obtain⟨hb,h⟩:=h
 cases h;have h1:=hE _ _ ha
 refine⟨ρ x,?_,h1⟩
 cases v<;>simp[zA.tag,Nat.beq]at hb
 ·rw[rA]at h1
  obtain⟨i,_,hv⟩:=h1
  simp only[execOp,hv];rfl
 ·rename_i fn a b
  rw[rA]at h1;obtain⟨fn',a',c',hv,hf,_⟩:=h1
  cases fn with
  | func f=>cases hf;simp only[execOp,hv];rfl
  | yld l=>obtain⟨i,_,rfl⟩:=hf;simp only[execOp,hv];rfl
theorem zoy(hE:pF μ e ρ){fn:Fn}{a b:Array Operand}(h:(gS fn a b).f C e H=some v):LOk P μ w ρ ⟨dst,.makeFunc fn a b,type,pos,after,guard⟩ v:=by
 unfold gS at h;split at h
 ·rename_i f
  simp only[zwe,lA]at h;obtain⟨as,ha,bs,hb,h⟩:=h
  cases h;refine⟨.func (.func f) (a.map ρ) (b.map ρ),rfl,?_⟩
  rw[rA];exact⟨_,_,_,rfl,rfl,by simpa using hE.many ha,by simpa using hE.many hb⟩
 ·cases h
theorem zjo(hT:vG P C)(hE:pF μ e ρ){t:Nat}{x:Operand}(h:iS t x C e H=some v):LOk P μ w ρ ⟨dst,.makeInterface t x,type,pos,after,guard⟩ v:=by
 unfold iS at h;simp only[lA,lB]at h;obtain⟨ty,hty,hb,a,ha,h⟩:=h
 cases h;obtain⟨d,hd,hn⟩:=zaj (hT.facts hty) hb
 refine⟨.iface t (ρ x),?_,by rw[rA];exact⟨_,rfl,hE _ _ ha⟩⟩
 simp only[execOp,Instr.makeInterface,Sem.run_bind,zF hd,Result.andThen_ok]
 cases d<;>first | rfl | exact absurd rfl (hn _)
theorem zdl(hE:pF μ e ρ){t:Operand}{i:Nat}(h:qP t i C e H=some v):LOk P μ w ρ ⟨dst,.extract t i,type,pos,after,guard⟩ v:=by
 unfold qP at h;simp only[lA,zrp,vE]at h;obtain⟨a,ha,l,rfl,h⟩:=h
 have h1:=hE _ _ ha
 rw[rA]at h1;obtain⟨cs,hv,hl⟩:=h1
 obtain⟨v',h2,h3⟩:=hl.get h
 refine⟨v',?_,h3⟩
 have h4:cs[i]?=some v':=by simpa using h2
 simp only[execOp,hv,Instr.extract,h4];rfl
theorem zjp(hT:vG P C)(hE:pF μ e ρ){t:Nat}{x:Operand}{f:Nat}(h:fS t x f C e H=some v):LOk P μ w ρ ⟨dst,.field t x f,type,pos,after,guard⟩ v:=by
 unfold fS at h;simp only[lA,lX,vE]at h;obtain⟨ty,hty,fs,hfs,fd,hfd,a,ha,l,rfl,h⟩:=h
 obtain⟨g,hg,rfl⟩:=jY (hT.facts hty) hfs
 have h1:=hE _ _ ha
 rw[rA]at h1;obtain⟨cs,hv,hl⟩:=h1
 rw[yav]at hfd
 cases hgf:g.toList[f]? with
 | none=>rw[hgf]at hfd;cases hfd
 | some fld=>
  rw[hgf]at hfd;simp at hfd;subst hfd;obtain⟨v',h2,h3⟩:=zbs (w:=w) hT hl h
  refine⟨v',?_,h3⟩
  have h4:g[f]?=some fld:=by simpa using hgf
  simp only[execOp,hv,Instr.field,Sem.run_bind,zF hg,Result.andThen_ok,h4,asAgg,Sem.run_pure,h2]
theorem zah(hT:vG P C)(hE:pF μ e ρ){s:Nat}{x:Operand}{f:Nat}(h:rP s x f C e H=some v):LOk P μ w ρ ⟨dst,.fieldAddr s x f,type,pos,after,guard⟩ v:=by
 unfold rP at h;simp only[lA,yW,vE,lB]at h;obtain⟨ty,hty,fs,hfs,fd,hfd,hz,a,ha,p,rfl,h⟩:=h
 cases h;obtain⟨g,hg,rfl⟩:=jY (hT.facts hty) hfs
 have h1:=hE _ _ ha
 rw[rA]at h1;obtain⟨i,hi,hv⟩:=h1
 rw[yav]at hfd
 cases hgf:g.toList[f]? with
 | none=>rw[hgf]at hfd;cases hfd
 | some fld=>
  rw[hgf]at hfd;simp at hfd;subst hfd;refine⟨.pointer (some ⟨i.b,p.2+fld.offset,none⟩),?_,by rw[rA];exact⟨i,hi,rfl⟩⟩
  have h4:g[f]?=some fld:=by simpa using hgf
  have h5:P.cellsOf fld.type≠0:=by
   have h6:Nat.beq (P.cellsOf fld.type) 0=false:=by simpa using hz
   exact beqf.1 h6
  have h6:(sizeOf fld.type).run P w=.ok (P.cellsOf fld.type) w:=by
   unfold Program.cellsOf at h5 ⊢
   cases hinf:P.info? fld.type with
   | none=>rw[hinf]at h5;exact absurd rfl h5
   | some inf=>simp[sizeOf,yU hinf]
  simp only[execOp,hv,Instr.fieldAt,Sem.run_bind,zF hg,Result.andThen_ok,h4,Instr.sureAddr,Sem.run_pure,fieldPlace,h6,Sem.run_ite,if_neg h5,zS]
end
end Go.Am
namespace Go.Am
open Go
section
variable {P:Program}{C:iA}{B N:Nat}{μ:Mu}{H:qA}{w:World}
variable {e:wD}{ρ:Operand->Value}{dst:Option Tmp}{type:TypeId}{pos:String}{after:Array Edge}{guard:Option (Nat × Bool)}{v:zA}
theorem dU{k:IntKind}{n:Nat}(h:n<cG k):k.wrap (n:Int)=n:=by
 rw[<- qK];show(bif Nat.blt n (cG k)then Int.ofNat n else _)=_
 rw[iC,if_pos (lC.2 h)];rfl
theorem zl6(k:IntKind):∃m,cG k=2^m/\m<=k.bits:=by
 cases k
 ·exact⟨7,rfl,by decide⟩
 ·exact⟨15,rfl,by decide⟩
 ·exact⟨31,rfl,by decide⟩
 ·exact⟨63,rfl,by decide⟩
 ·exact⟨8,rfl,by decide⟩
 ·exact⟨16,rfl,by decide⟩
 ·exact⟨32,rfl,by decide⟩
 ·exact⟨64,rfl,by decide⟩
theorem aS{k:IntKind}{n:Nat}(h:n<cG k):(BitVec.ofInt k.bits (n:Int)).toNat=n:=by
 obtain⟨m,hm,hle⟩:=zl6 k
 rw[BitVec.toNat_ofInt];have:n<2^k.bits:=Nat.lt_of_lt_of_le (hm ▸ h) (Nat.pow_le_pow_right (by omega) hle)
 rw[<- Int.natCast_emod,Int.toNat_natCast,Nat.mod_eq_of_lt this]
theorem lY{f:Nat->Nat->Nat}{k:IntKind}{a b:Int}{v:zA}(h:oH f k a b=some v):∃x y:Nat,a=x/\b=y/\x<cG k/\y<cG k/\v=.int k (f x y:Nat):=by
 unfold oH at h;simp only[lA,gW,lB,yac,lC]at h;obtain⟨x,rfl,y,rfl,⟨h1,h2⟩,h⟩:=h
 cases h;exact⟨x,y,rfl,rfl,h1,h2,rfl⟩
theorem zx7{op:BinOp}{k:IntKind}{a b:Int}(h:(zx8 op).f k a b=some v):op≠.shl/\op≠.shr/\∀t,∃v',(binOp op t (.int k a) (.int k b)).run P w=.ok v' w/\rA μ v v':=by
 cases op<;>simp only[zx8]at h
 case add=>cases h;exact⟨by simp,by simp,fun t=>⟨.int k (k.wrap (a+b)),by simp[binOp,Op.intArith],by rw[rA,qK]⟩⟩
 case sub=>cases h;exact⟨by simp,by simp,fun t=>⟨.int k (k.wrap (a-b)),by simp[binOp,Op.intArith],by rw[rA,qK]⟩⟩
 case mul=>cases h;exact⟨by simp,by simp,fun t=>⟨.int k (k.wrap (a*b)),by simp[binOp,Op.intArith],by rw[rA,qK]⟩⟩
 case quo=>
  unfold z02 at h;simp only[iC,qQ]at h;split at h
  ·cases h
  ·rename_i hb;cases h
   refine⟨by simp,by simp,fun t=>⟨.int k (k.wrap (a.tdiv b)),?_,by rw[rA,qK]⟩⟩
   simp[binOp,Op.intDiv,hb]
 case rem=>
  unfold zrz at h;simp only[iC,qQ]at h;split at h
  ·cases h
  ·rename_i hb;cases h
   refine⟨by simp,by simp,fun t=>⟨.int k (a.tmod b),?_,by rw[rA]⟩⟩
   simp[binOp,Op.intDiv,hb]
 case and=>
  obtain⟨x,y,rfl,rfl,hx,hy,rfl⟩:=lY h
  refine⟨by simp,by simp,fun t=>⟨.int k ((x &&& y:Nat):Int),?_,by rw[rA];rfl⟩⟩
  have h1:x &&& y<cG k:=Nat.lt_of_le_of_lt Nat.and_le_left hx
  simp only[binOp,Op.intBits,BitVec.toNat_and,aS hx,aS hy,dU h1];simp
 case or=>
  obtain⟨x,y,rfl,rfl,hx,hy,rfl⟩:=lY h
  obtain⟨m,hm,_⟩:=zl6 k
  refine⟨by simp,by simp,fun t=>⟨.int k ((x ||| y:Nat):Int),?_,by rw[rA];rfl⟩⟩
  have h1:x ||| y<cG k:=by rw[hm];exact Nat.or_lt_two_pow (hm ▸ hx) (hm ▸ hy)
  simp only[binOp,Op.intBits,BitVec.toNat_or,aS hx,aS hy,dU h1];simp
 case xor=>
  obtain⟨x,y,rfl,rfl,hx,hy,rfl⟩:=lY h
  obtain⟨m,hm,_⟩:=zl6 k
  refine⟨by simp,by simp,fun t=>⟨.int k ((x ^^^ y:Nat):Int),?_,by rw[rA];rfl⟩⟩
  have h1:x ^^^ y<cG k:=by rw[hm];exact Nat.xor_lt_two_pow (hm ▸ hx) (hm ▸ hy)
  simp only[binOp,Op.intBits,BitVec.toNat_xor,aS hx,aS hy,dU h1];simp
 case eql=>cases h;exact⟨by simp,by simp,fun t=>⟨.bool (a == b),by simp[binOp,Op.intCmp],by rw[rA,zdq]⟩⟩
 case neq=>cases h;exact⟨by simp,by simp,fun t=>⟨.bool (a != b),by simp[binOp,Op.intCmp],by rw[rA,zdq];rfl⟩⟩
 case lss=>cases h;exact⟨by simp,by simp,fun t=>⟨.bool (a<b),by simp[binOp,Op.intCmp],by rw[rA,z3x]⟩⟩
 case leq=>cases h;exact⟨by simp,by simp,fun t=>⟨.bool (a<=b),by simp[binOp,Op.intCmp],by rw[rA,z3y]⟩⟩
 case gtr=>cases h;exact⟨by simp,by simp,fun t=>⟨.bool (a > b),by simp[binOp,Op.intCmp],by rw[rA,z3x]⟩⟩
 case geq=>cases h;exact⟨by simp,by simp,fun t=>⟨.bool (a>=b),by simp[binOp,Op.intCmp],by rw[rA,z3y]⟩⟩
 all_goals cases h
theorem iU(s:ByteArray):(tE s).length=s.size:=by simp[tE]
theorem zhv(a b:ByteArray):tE (a++b)=tE a++tE b:=by simp[tE]
theorem zrl(s:ByteArray)(i:Nat):(tE s)[i]?=(s[i]?).map UInt8.toNat:=by
 unfold tE;rw[yav];congr 1
 by_cases h:i<s.size
 ·rw[getElem?_pos s i h]
  simp[ByteArray.getElem_eq_getElem_data]
 ·rw[getElem?_neg s i h]
  simp;exact Nat.le_of_not_lt h
theorem bZ(s:ByteArray)(l h:Nat):tE (s.extract l h)=((tE s).take h).drop l:=by
 unfold tE;rw[ByteArray.data_extract,Array.toList_extract,List.extract_eq_take_drop,<- List.map_take,<- List.map_drop,List.drop_take]
theorem zkd{a b:ByteArray}:(a.toList == b.toList)=(eI (tE a) (tE b)):=by
 rw[Lib.toList_data,Lib.toList_data,Bool.eq_iff_iff,lO];constructor
 ·intro h;simp at h;unfold tE;rw[h]
 ·intro h;rw[eY h];simp
theorem zqw(a:List UInt8):∀b:List UInt8,Op.bytesLess a b=zl5 (a.map UInt8.toNat) (b.map UInt8.toNat):=by
 induction a with
 | nil=>intro b;cases b<;>rfl
 | cons x a ih=>
  intro b
  cases b with
  | nil=>rfl
  | cons y b=>
   show _=(bif Nat.blt x.toNat y.toNat then true else bif Nat.beq x.toNat y.toNat then zl5 (a.map UInt8.toNat) (b.map UInt8.toNat)else false)
   rw[Op.bytesLess,ih,iC,iC];by_cases h:x<y
   ·have:Nat.blt x.toNat y.toNat=true:=lC.2 (by exact UInt8.lt_iff_toNat_lt.1 h)
    rw[if_pos this];simp[h]
   ·have h1:¬ Nat.blt x.toNat y.toNat=true:=fun k=>h (UInt8.lt_iff_toNat_lt.2 (lC.1 k))
    rw[if_neg h1];by_cases he:x=y
    ·subst he;rw[if_pos (Nat.beq_refl _)];simp[h]
    ·have h2:¬ Nat.beq x.toNat y.toNat=true:=fun k=>he (UInt8.toNat_inj.1 (zC.1 k))
     rw[if_neg h2];simp[h,he]
theorem zx4{op:BinOp}{a b:ByteArray}(h:(zx5 op).f (tE a) (tE b)=some v):op≠.shl/\op≠.shr/\∀t,∃v',(binOp op t (.string a) (.string b)).run P w=.ok v' w/\rA μ v v':=by
 cases op<;>simp only[zx5]at h
 case add=>
  simp only[zug,lB,lC,bD,eH,iU]at h;obtain⟨h1,h⟩:=h
  cases h;refine⟨by simp,by simp,fun t=>⟨.string (a++b),?_,by rw[rA];exact⟨_,rfl,zhv a b⟩⟩⟩
  have h2:¬ (((a.size+b.size:Nat):Int) > IntKind.i64.max):=by
   have:IntKind.i64.max=9223372036854775807:=by decide
   rw[this];omega
  simp only[binOp,Op.stringOp,if_neg h2];rfl
 case eql=>cases h;exact⟨by simp,by simp,fun t=>⟨.bool (a.toList == b.toList),rfl,by rw[rA,zkd]⟩⟩
 case neq=>cases h;exact⟨by simp,by simp,fun t=>⟨.bool !(a.toList == b.toList),rfl,by rw[rA,zkd]⟩⟩
 case lss=>cases h;exact⟨by simp,by simp,fun t=>⟨.bool (Op.bytesLess a.toList b.toList),rfl,by rw[rA,Lib.toList_data,Lib.toList_data,zqw];rfl⟩⟩
 all_goals cases h
theorem rX{op:BinOp}{t:TypeId}{x y:Operand}{a b:Value}(h1:¬ (a=.nilIface/\b=.nilIface)\/(yX x||yX y)=true)(h2:∀l m,¬ (a=.agg l/\b=.agg m)):(eqGuard op t x y a b).run P w=.ok () w:=by
 unfold eqGuard
 cases op
 case eql | neq=>
  rw[if_neg (by simp)]
  split
  ·rcases h1 with h1 | h1
   ·exact absurd ⟨rfl,rfl⟩ h1
   ·cases x<;>cases y<;>simp[yX]at h1 ⊢
  ·exact absurd ⟨rfl,rfl⟩ (h2 _ _)
  ·rfl
 all_goals rfl
theorem zml{op:BinOp}{t:TypeId}{x y:Operand}{l m:Array Value}(h:P.eqGuardType P.depth t=false):(eqGuard op t x y (.agg l) (.agg m)).run P w=.ok () w:=by
 unfold eqGuard
 cases op
 case eql | neq=>rw[if_neg (by simp)];simp[h]
 all_goals rfl
theorem rV{op:BinOp}{t yt:TypeId}{x y:Operand}{v':Value}(h1:(eqGuard op t x y (ρ x) (ρ y)).run P w=.ok () w)(h2:(binOp op t (ρ x) (ρ y)).run P w=.ok v' w) :
  (execOp ρ ⟨dst,.binOp op t x y yt,type,pos,after,guard⟩).run P w=.ok (.value v') w:=by
 simp only[execOp,Sem.run_bind,h1,Result.andThen_ok,h2,Sem.run_pure]
theorem zcv{k:IntKind}{b:Int}{n:Nat}(h:qS k b=some n):¬ b<0/\n=min b.toNat k.bits:=by
 unfold qS at h;simp only[lA,gW]at h;obtain⟨m,rfl,h⟩:=h
 cases h;exact⟨by omega,by simp⟩
theorem zd8{op:BinOp}{t yt:TypeId}{x y:Operand}{a b:zA}(hx:rA μ a (ρ x))(hy:rA μ b (ρ y))
  (h:(op=.shl/\nX zq3 a b=some v)\/(op=.shr/\nX z6l a b=some v)):LOk P μ w ρ ⟨dst,.binOp op t x y yt,type,pos,after,guard⟩ v:=by
 rcases h with⟨rfl,h⟩ | ⟨rfl,h⟩
 all_goals
  unfold nX at h;simp only[lA,cM,za7]at h;obtain⟨p,rfl,n,⟨k',rfl⟩,h⟩:=h
  rw[rA]at hx hy
 ·unfold zq3 at h
  rw[lA]at h;obtain⟨m,hm,h⟩:=h
  cases h;obtain⟨h1,rfl⟩:=zcv hm
  refine⟨.int p.1 (p.1.wrap (p.2*2^(min n.toNat p.1.bits))),rV (rX (.inl (by rw[hx];simp)) (by rw[hx];simp)) ?_,by rw[rA,qK];simp⟩
  rw[hx,hy];simp[binOp,Op.shift,h1]
 ·unfold z6l at h
  rw[lA]at h;obtain⟨m,hm,h⟩:=h
  cases h;obtain⟨h1,rfl⟩:=zcv hm
  refine⟨.int p.1 (p.2.fdiv (2^(min n.toNat p.1.bits))),rV (rX (.inl (by rw[hx];simp)) (by rw[hx];simp)) ?_,by rw[rA];simp⟩
  rw[hx,hy];simp[binOp,Op.shift,h1]
theorem sX{n m:Nat}{a b:zA}{r:Bool}(h:zj3 n m a b=some r):(a.tag=n/\b.tag=n/\r=true)\/(a.tag=n/\b.tag=m/\r=false)\/(a.tag=m/\b.tag=n/\r=false):=by
 unfold zj3 at h;simp only[iC,zC]at h;split at h
 ·split at h
  ·cases h;rename_i h1 h2;exact .inl ⟨h1,h2,rfl⟩
  ·rw[lB,zC]at h;obtain⟨h1,h⟩:=h;cases h;rename_i h2 _;exact .inr (.inl ⟨h2,h1,rfl⟩)
 ·rw[lB,yac,zC,zC]at h;obtain⟨⟨h1,h2⟩,h⟩:=h;cases h;exact .inr (.inr ⟨h1,h2,rfl⟩)
theorem zxi{t:Nat}{ty:vD}(hF:mJ P t ty){a b:zA}{va vb:Value}(ha:rA μ a va)(hb:rA μ b vb){r:Bool}{d:Nat}(h:zph ty.desc a b=some r) :
  (Op.equalIn (d+1) t va vb).run P w=.ok r w:=by
 obtain⟨D,hD⟩:=hF.und
 have h0:=hF.desc
 unfold mL at h0;rw[hD]at h0;unfold Op.equalIn;rw[Sem.run_bind,zF hD,Result.andThen_ok];rw[<- h0]at h
 cases D<;>simp only[zph]at h<;>try (cases h;done)
 case bool=>
  simp only[zj4,lA,xT]at h;obtain⟨x,rfl,y,rfl,h⟩:=h
  cases h;rw[rA]at ha hb;rw[ha,hb,eQ];rfl
 case int k=>
  simp only[z63,lA,cM,lB,iJ]at h;obtain⟨x,rfl,y,rfl,hk,h⟩:=h
  cases h;rw[rA]at ha hb;rw[ha,hb,zdq];simp[hk]
 case string=>
  simp only[zhr,lA,cN]at h;obtain⟨x,rfl,y,rfl,h⟩:=h
  cases h;rw[rA]at ha hb;obtain⟨s,rfl,rfl⟩:=ha
  obtain⟨u,rfl,rfl⟩:=hb
  have:(s == u)=eI (tE s) (tE u):=by
   rw[Bool.eq_iff_iff,lO];have h1:(s == u)=(s.data == u.data):=rfl
   rw[h1];exact⟨fun h=>(by unfold tE;rw[eq_of_beq h]),fun h=>(by rw[eY h];exact beq_self_eq_true u.data)⟩
  rw[<- this];rfl
 case pointer el=>
  rcases sX h with⟨h1,h2,rfl⟩ | ⟨h1,h2,rfl⟩ | ⟨h1,h2,rfl⟩<;>cases a<;>simp[zA.tag]at h1<;>cases b<;>simp[zA.tag]at h2<;>rw[rA]at ha<;>rw[rA]at hb
  ·rw[ha,hb];rfl
  ·obtain⟨i,_,hb⟩:=hb;rw[ha,hb];rfl
  ·obtain⟨i,_,ha⟩:=ha;rw[ha,hb];rfl
 case slice el=>
  rcases sX h with⟨h1,h2,rfl⟩ | ⟨h1,h2,rfl⟩ | ⟨h1,h2,rfl⟩<;>cases a<;>simp[zA.tag]at h1<;>cases b<;>simp[zA.tag]at h2<;>rw[rA]at ha<;>rw[rA]at hb
  ·rw[ha,hb];rfl
  ·rcases hb with⟨i,_,_,hb,_⟩ | ⟨_,_,_,_,_,hb,_⟩ <;> (rw[ha,hb];rfl)
  ·rcases ha with⟨i,_,_,ha,_⟩ | ⟨_,_,_,_,_,ha,_⟩ <;> (rw[ha,hb];rfl)
 case map k el=>
  rcases sX h with⟨h1,h2,rfl⟩ | ⟨h1,h2,rfl⟩ | ⟨h1,h2,rfl⟩<;>cases a<;>simp[zA.tag]at h1<;>cases b<;>simp[zA.tag]at h2<;>rw[rA]at ha<;>rw[rA]at hb
  ·rw[ha,hb];rfl
  ·obtain⟨i,_,hb⟩:=hb;rw[ha,hb];rfl
  ·obtain⟨i,_,ha⟩:=ha;rw[ha,hb];rfl
 case func ps rs vd=>
  rcases sX h with⟨h1,h2,rfl⟩ | ⟨h1,h2,rfl⟩ | ⟨h1,h2,rfl⟩<;>cases a<;>simp[zA.tag]at h1<;>cases b<;>simp[zA.tag]at h2<;>rw[rA]at ha<;>rw[rA]at hb
  ·rw[ha,hb];rfl
  ·obtain⟨i,_,_,hb,_⟩:=hb;rw[ha,hb];rfl
  ·obtain⟨i,_,_,ha,_⟩:=ha;rw[ha,hb];rfl
 case interface ms=>
  rcases sX h with⟨h1,h2,rfl⟩ | ⟨h1,h2,rfl⟩ | ⟨h1,h2,rfl⟩<;>cases a<;>simp[zA.tag]at h1<;>cases b<;>simp[zA.tag]at h2<;>rw[rA]at ha<;>rw[rA]at hb
  ·rw[ha,hb];rfl
  ·obtain⟨i,hb,_⟩:=hb;rw[ha,hb];rfl
  ·obtain⟨i,ha,_⟩:=ha;rw[ha,hb];rfl
theorem zdt{t:Nat}{g:Array Field}(h:P.underlying t=some (.struct g)):P.fieldsOf t=g:=by unfold Program.fieldsOf;rw[h]
theorem z14(hT:vG P C){D:Nat}{eq:Nat->zA->zA->Option Bool}(heq:∀t a b va vb r,rA μ a va->rA μ b vb->eq t a b=some r->(Op.equalIn D t va vb).run P w=.ok r w)
  {xs ys : List zA} {vx vy : Array Value} (hx : qB μ xs vx.toList) (hy : qB μ ys vy.toList) : ∀ (g : List Field) (r : Bool), (∀ f ∈ g, f.name ≠ "_") -> z15 C eq xs ys (g.map fun f => (f.offset, f.type, P.cellsOf f.type)) = some r →
   (Op.eqFields D vx vy g).run P w=.ok r w:=by
 intro g;induction g with
 | nil=>intro r _ h;cases h;rfl
 | cons f g ih=>
  intro r hn h;rw[ybn,z15]at h;simp only[lA]at h;obtain⟨a,ha,b,hb,q,hq,h⟩:=h
  obtain⟨va,h1,h2⟩:=zbs (P:=P) (w:=w) hT hx ha
  obtain⟨vb,h3,h4⟩:=zbs (P:=P) (w:=w) hT hy hb
  have h5:=heq _ _ _ _ _ _ h2 h4 hq
  rw[Op.eqFields,if_pos (hn f (by simp))]
  simp only[Sem.run_bind,h1,Result.andThen_ok,h3,h5]
  cases q with
  | true=>rw[cond_true]at h;simpa using ih r (fun f hf=>hn f (by simp[hf])) h
  | false=>rw[cond_false]at h;cases h;simp
theorem aeq_ok(hT:vG P C):∀(d D t:Nat) (a b:zA) (va vb:Value) (r:Bool),d<=D->rA μ a va->rA μ b vb->aeq C d t a b=some r->(Op.equalIn D t va vb).run P w=.ok r w:=by
 intro d;induction d with
 | zero=>intro D t a b va vb r _ _ _ h;cases h
 | succ d ih=>
  intro D t a b va vb r hD ha hb h
  cases D with
  | zero=>omega
  | succ D=>
   rw[aeq,lA]at h;obtain⟨ty,hty,h⟩:=h
   have hF:=hT.facts hty
   split at h
   ·rename_i fs hfs
    simp only[lB,lA,lX]at h;obtain⟨hok,xs,rfl,ys,rfl,h⟩:=h
    obtain⟨g,hg,rfl⟩:=jY hF hfs
    obtain⟨h1,_,h3⟩:=hF.eqOk hok
    rw[rA]at ha;rw[rA]at hb;obtain⟨cx,rfl,hx⟩:=ha
    obtain⟨cy,rfl,hy⟩:=hb
    have hfo:=zdt hg
    rw[run_equalIn_struct w D t cx cy (by rw[hfo];exact hg) h1,hfo]
    exact z14 hT (fun t a b va vb r h1 h2 h3=>ih D t a b va vb r (by omega) h1 h2 h3) hx hy g.toList r (hfo ▸ h3) h
   ·exact zxi hF ha hb h
theorem z7m(hT:vG P C){d t:Nat}{a b:zA}{l m:Array Value}{r:Bool}(ha:rA μ a (.agg l))(hb:rA μ b (.agg m))(h:aeq C d t a b=some r):P.eqGuardType P.depth t=false:=by
 cases d with
 | zero=>cases h
 | succ d=>
  rw[aeq,lA]at h;obtain⟨ty,hty,h⟩:=h
  split at h
  ·rw[lB]at h;exact((hT.facts hty).eqOk h.1).2.1
  ·exfalso
   have hag:∀(a:zA) (l:Array Value),rA μ a (.agg l)->a.tag=13:=by
    intro a l ha
    cases a<;>rw[rA]at ha<;>first | rfl | (exfalso;revert ha;simp)
   have h1:=hag _ _ ha
   have h2:=hag _ _ hb
   cases a<;>simp[zA.tag]at h1
   cases b<;>simp[zA.tag]at h2
   revert h
   cases ty.desc<;>simp[zph,zj4,zA.asBool,z63,zA.asIntK,zhr,zA.asStr,zj3,zpg,zA.tag,sB,Nat.beq]
theorem zba{a:zA}{v:Value}(h:rA μ a v):v=.nilIface->a.tag=12:=by
 intro hv;subst hv
 cases a<;>rw[rA]at h<;>first | rfl | (exfalso;revert h;simp)
theorem zd9(hT:vG P C){op:BinOp}{t yt:TypeId}{x y:Operand}{a b:zA}{neg:Bool}(hx:rA μ a (ρ x))(hy:rA μ b (ρ y))(ha:a.asIntK=none)(hs:a.asStr=none)
  (hop:(neg=false/\op=.eql)\/(neg=true/\op=.neq)) (h:zb7 neg C t x y a b=some v):LOk P μ w ρ ⟨dst,.binOp op t x y yt,type,pos,after,guard⟩ v:=by
 unfold zb7 at h;simp only[lB,lA]at h;obtain⟨hg,r,hr,h⟩:=h
 cases h;have h1:(Op.equal t (ρ x) (ρ y)).run P w=.ok r w:=aeq_ok hT 20 10000 t a b _ _ r (by decide) hx hy hr
 have hG:(eqGuard op t x y (ρ x) (ρ y)).run P w=.ok () w:=by
  by_cases hag:∃l m,ρ x=.agg l/\ρ y=.agg m
  ·obtain⟨l,m,h2,h3⟩:=hag
   rw[h2]at hx;rw[h3]at hy;rw[h2,h3];exact zml (z7m hT hx hy hr)
  ·refine rX ?_ fun l m hlm=>hag ⟨l,m,hlm⟩
   by_cases hn:ρ x=.nilIface/\ρ y=.nilIface
   ·right
    have h2:=zba hx hn.1
    have h3:=zba hy hn.2
    unfold zpf at hg;rw[h2,h3]at hg;simpa[Nat.beq]using hg
   ·exact .inl hn
 have hnx:∀k n,ρ x≠.int k n:=by
  intro k n hv;rw[hv]at hx
  cases a<;>rw[rA]at hx<;>first | (simp[zA.asIntK]at ha;done) | (revert hx;simp)
 have hsx:∀s,ρ x≠.string s:=by
  intro s hv;rw[hv]at hx
  cases a<;>rw[rA]at hx<;>first | (simp[zA.asStr]at hs;done) | (revert hx;simp)
 have hfx:∀k n,ρ x≠.float k n:=by
  intro k n hv;rw[hv]at hx
  cases a<;>rw[rA]at hx<;>revert hx<;>simp
 have hcx:∀k n m,ρ x≠.complex k n m:=by
  intro k n m hv;rw[hv]at hx
  cases a<;>rw[rA]at hx<;>revert hx<;>simp
 rcases hop with⟨rfl,rfl⟩ | ⟨rfl,rfl⟩
 ·refine⟨.bool r,rV hG ?_,by rw[rA];rfl⟩
  revert h1 hnx hsx hfx hcx
  generalize ρ x=vx
  generalize ρ y=vy
  intro h1 hnx hsx hfx hcx
  cases vx<;>first
   | exact absurd rfl (hnx _ _)
   | exact absurd rfl (hsx _)
   | exact absurd rfl (hfx _ _)
   | exact absurd rfl (hcx _ _ _)
   | simp[binOp,h1]
 ·refine⟨.bool (!r),rV hG ?_,by rw[rA];rfl⟩
  revert h1 hnx hsx hfx hcx
  generalize ρ x=vx
  generalize ρ y=vy
  intro h1 hnx hsx hfx hcx
  cases vx<;>first
   | exact absurd rfl (hnx _ _)
   | exact absurd rfl (hsx _)
   | exact absurd rfl (hfx _ _)
   | exact absurd rfl (hcx _ _ _)
   | simp[binOp,h1]
theorem zwg(hT:vG P C)(hE:pF μ e ρ){op:BinOp}{t yt:Nat}{x y:Operand}(h:zL op t x y C e H=some v):LOk P μ w ρ ⟨dst,.binOp op t x y yt,type,pos,after,guard⟩ v:=by
 unfold zL at h;simp only[lA]at h;obtain⟨a,ha,b,hb,h⟩:=h
 have hx:=hE _ _ ha
 have hy:=hE _ _ hb
 clear ha hb
 revert h
 have plain:∀op,op≠.shl->op≠.shr->zhw op C t x y a b=some v->LOk P μ w ρ ⟨dst,.binOp op t x y yt,type,pos,after,guard⟩ v:=by
  intro op _ _ h;unfold zhw at h;split at h
  ·rename_i i hi
   simp only[lA,cM,lB,iJ]at h;obtain⟨j,rfl,hk,h⟩:=h
   rw[cM]at hi;subst hi;rw[rA]at hx;rw[rA]at hy;obtain⟨_,_,h2⟩:=zx7 (P:=P) (μ:=μ) (w:=w) h
   obtain⟨v',h3,h4⟩:=h2 t
   refine⟨v',rV (rX (.inl (by rw[hx];simp)) (by rw[hx];simp)) ?_,h4⟩
   rw[hx,hy,<- hk];exact h3
  ·rename_i hi
   split at h
   ·rename_i s hs
    simp only[lA,cN]at h;obtain⟨u,rfl,h⟩:=h
    rw[cN]at hs;subst hs;rw[rA]at hx;rw[rA]at hy;obtain⟨sx,hx,rfl⟩:=hx
    obtain⟨sy,hy,rfl⟩:=hy
    obtain⟨_,_,h2⟩:=zx4 (P:=P) (μ:=μ) (w:=w) h
    obtain⟨v',h3,h4⟩:=h2 t
    refine⟨v',rV (rX (.inl (by rw[hx];simp)) (by rw[hx];simp)) ?_,h4⟩
    rw[hx,hy];exact h3
   ·rename_i hs
    cases op<;>simp only[zx6]at h<;>first
     | exact zd9 hT hx hy hi hs (.inl ⟨rfl,rfl⟩) h
     | exact zd9 hT hx hy hi hs (.inr ⟨rfl,rfl⟩) h
     | (cases h;done)
 intro h
 cases op<;>simp only[wL]at h<;>first
  | exact zd8 hx hy (.inl ⟨rfl,h⟩)
  | exact zd8 hx hy (.inr ⟨rfl,h⟩)
  | exact plain _ (by simp) (by simp) h
theorem zwl{k:IntKind}(h:kLo k=0):cG k=2^k.bits:=by
 cases k<;>first
  | (cases h;done)
  | rfl
theorem z27(hE:pF μ e ρ){op:UnOp}{t:Nat}{x:Operand}(h:lUn op x C e H=some v):LOk P μ w ρ ⟨dst,.unOp op t x,type,pos,after,guard⟩ v:=by
 unfold lUn at h;simp only[lA]at h;obtain⟨a,ha,h⟩:=h
 have hx:=hE _ _ ha
 cases op<;>simp only[unA]at h<;>try (cases h;done)
 case neg=>
  simp only[unNeg,lA,cM]at h;obtain⟨p,rfl,h⟩:=h
  cases h;rw[rA]at hx;refine⟨.int p.1 (p.1.wrap (0-p.2)),?_,by rw[rA,qK]⟩
  simp[execOp,hx,Op.unary,Op.intArith]
 case xor=>
  simp only[zk4,lA,cM,lB,zC]at h;obtain⟨p,rfl,hk,h⟩:=h
  obtain⟨a,b,ha1,hb,hx1,hy,rfl⟩:=lY h
  rw[rA]at hx;have h1:Nat.xor a b<cG p.1:=by
   have:Nat.xor a b<2^p.1.bits:=Nat.xor_lt_two_pow (by rw[<- zwl hk];exact hx1) (by rw[<- zwl hk];exact hy)
   rw[zwl hk];exact this
  refine⟨.int p.1 (Nat.xor a b:Nat),?_,by rw[rA]⟩
  have hm:(if p.1.signed then(-1:Int)else p.1.max)=(a:Int):=by
   rw[<- ha1];revert hk
   cases p.1<;>intro hk<;>first
    | (cases hk;done)
    | rfl
  have e2:(Op.intBits .xor p.1 (if p.1.signed then -1 else p.1.max) p.2).run P w=.ok (.int p.1 (Nat.xor a b:Nat)) w:=by
   rw[hm,hb];simp only[Op.intBits,BitVec.toNat_xor,aS hx1,aS hy];rw[show(a ^^^ b:Nat)=Nat.xor a b from rfl,dU h1]
   rfl
  simp[execOp,hx,Op.unary]
  rw[e2];rfl
 case not=>
  simp only[unNot,lA,xT]at h;obtain⟨b,rfl,h⟩:=h
  cases h;rw[rA]at hx;refine⟨.bool (!b),?_,by rw[rA]⟩
  simp[execOp,hx,Op.unary]
end
end Go.Am
