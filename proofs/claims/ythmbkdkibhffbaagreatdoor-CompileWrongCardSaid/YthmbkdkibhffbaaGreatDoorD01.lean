/- -/
import Derived.Below
import Derived.Calls
import Derived.Laws.Cells
import Derived.Laws.Sem
import Derived.Laws.StructEq
import Derived.Laws.World
import Derived.Lib.Strings
set_option linter.all false
noncomputable section
namespace Go.Am
def yaa := @List.getElem?_cons_zero
def yab := @List.getElem?_cons_succ
def yac := @Bool.and_eq_true
def yad := @List.getElem?_eq_some_iff
def yae := @List.getElem?_eq_getElem
def yaf := @Array.getElem?_eq_some_iff
def yag := @List.length_map
def yah := @List.length_append
def yai := @Nat.mul_comm
def yaj := @Nat.mul_le_mul_right
def yak := @Nat.mul_assoc
def yal := @Nat.le_refl
def yam := @List.drop_eq_getElem_cons
def yan := @Nat.mul_add
def yao := @List.length_cons
def yap := @Nat.add_mul
def yaq := @List.getElem?_append_right
def yar := @Bool.false_eq_true
def yas := @List.mem_cons_of_mem
def yat := @List.mem_cons
def yau := @List.drop_eq_nil_of_le
def yav := @List.getElem?_map
def yaw := @Nat.mul_le_mul_left
def yax := @Nat.zero_add
def yay := @List.length_nil
def yaz := @List.mem_cons_self
def yba := @List.append_assoc
def ybb := @List.take_of_length_le
def ybc := @List.all_eq_true
def ybd := @List.length_eq_zero_iff
def ybe := @List.append_nil
def ybf := @Nat.dvd_mul_left_of_dvd
def ybg := @List.mem_append_right
def ybh := @List.all_cons
def ybi := @Nat.div_add_mod
def ybj := @Option.some.inj
def ybk := @List.getElem_mem
def ybl := @List.all_nil
def ybm := @Bool.not_false
def ybn := @List.map_cons
def ybo := @Bool.true_and
def ybp := @List.getElem?_append_left
def ybq := @Bool.not_eq_true'
def ybr := @Bool.or_eq_true
def ybs := @List.drop_zero
def ybt := @Array.getElem?_setIfInBounds
def ybu := @Nat.add_zero
def ybv := @Nat.div_lt_of_lt_mul
def ybw := @List.mem_of_getElem?
def ybx := @List.getElem?_set
def yby := @Array.getD_eq_getD_getElem?
def ybz := @Nat.mod_lt
def yca := @Array.length_toList
def ycb := @List.length_take
def ycc := @Nat.mul_le_mul
def ycd := @List.mem_append_left
def yce := @List.mem_singleton
def ycf := @List.getElem?_drop
def ycg := @List.getElem?_take
def ych := @List.take_add_one
def yci := @List.length_set
def ycj := @List.all_append
def yck := @List.length_drop
end Go.Am
namespace Go.Am
inductive Tr (α:Type) where
 | leaf
 | node (l:Tr α) (v:Option α) (r:Tr α)
def ob {α β:Type}(x:Option α)(f:α->Option β):Option β:=Option.rec (motive:=fun _=>Option β) none f x
namespace Tr
variable {α:Type}
def get (t:Tr α):Nat->Option α:=
 Tr.rec (motive:=fun _=>Nat->Option α) (fun _=>none)
  (fun _ v _ gl gr n=>Bool.rec (motive:=fun _=>Option α) (Bool.rec (motive:=fun _=>Option α) (gr (Nat.pred (Nat.div n (nat_lit 2)))) (gl (Nat.div n (nat_lit 2))) (Nat.beq (Nat.mod n (nat_lit 2)) (nat_lit 1))) v (Nat.beq n (nat_lit 0))) t
def mk (f:Nat):Nat->α->Tr α:=
 Nat.rec (motive:=fun _=>Nat->α->Tr α) (fun _ _=>leaf)
  (fun _ g n v=>Bool.rec (motive:=fun _=>Tr α) (Bool.rec (motive:=fun _=>Tr α) (node leaf none (g (Nat.pred (Nat.div n (nat_lit 2))) v)) (node (g (Nat.div n (nat_lit 2)) v) none leaf) (Nat.beq (Nat.mod n (nat_lit 2)) (nat_lit 1))) (node leaf (some v) leaf) (Nat.beq n (nat_lit 0))) f
def set (t:Tr α):Nat->α->Tr α:=
 Tr.rec (motive:=fun _=>Nat->α->Tr α) (fun n v=>mk (Nat.succ n) n v)
  (fun l x r gl gr n v=>Bool.rec (motive:=fun _=>Tr α) (Bool.rec (motive:=fun _=>Tr α) (node l x (gr (Nat.pred (Nat.div n (nat_lit 2))) v)) (node (gl (Nat.div n (nat_lit 2)) v) x r) (Nat.beq (Nat.mod n (nat_lit 2)) (nat_lit 1))) (node l (some v) r) (Nat.beq n (nat_lit 0))) t
def del (t:Tr α):Nat->Tr α:=
 Tr.rec (motive:=fun _=>Nat->Tr α) (fun _=>leaf)
  (fun l x r gl gr n=>Bool.rec (motive:=fun _=>Tr α) (Bool.rec (motive:=fun _=>Tr α) (node l x (gr (Nat.pred (Nat.div n (nat_lit 2))))) (node (gl (Nat.div n (nat_lit 2))) x r) (Nat.beq (Nat.mod n (nat_lit 2)) (nat_lit 1))) (node l none r) (Nat.beq n (nat_lit 0))) t
def many (t:Tr α)(n:Nat):Nat->Option (List α):=
 Nat.rec (motive:=fun _=>Nat->Option (List α)) (fun _=>some [])
  (fun _ g i=>ob (t.get i) fun v=>ob (g (i+1)) fun l=>some (v::l)) n
def setMany(l:List α):Tr α->Nat->Tr α:=
 List.rec (motive:=fun _=>Tr α->Nat->Tr α) (fun t _=>t) (fun v _ g t i=>g (t.set i v) (i+1)) l
def ofList(l:List α):Tr α:=setMany l leaf 0
end Tr
def nD {α:Type}(l:List α):Nat->Option α:=
 List.rec (motive:=fun _=>Nat->Option α) (fun _=>none) (fun a _ g n=>Bool.rec (motive:=fun _=>Option α) (g (Nat.pred n)) (some a) (Nat.beq n (nat_lit 0))) l
def vK{α:Type}(l:List α):Nat->List α:=
 List.rec (motive:=fun _=>Nat->List α) (fun _=>[]) (fun a l g n=>bif Nat.beq n 0 then a::l else g (n-1)) l
def pO{α:Type}(l:List α):Nat->List α:=
 List.rec (motive:=fun _=>Nat->List α) (fun _=>[]) (fun a _ g n=>bif Nat.beq n 0 then []else a::g (n-1)) l
def uB {α:Type}(l:List α):Nat:=List.rec (motive:=fun _=>Nat) 0 (fun _ _ n=>n+1) l
def jF {α:Type}(l m:List α):List α:=List.rec (motive:=fun _=>List α) m (fun a _ g=>a::g) l
def iB {α:Type}(p:α->Bool)(l:List α):Bool:=List.rec (motive:=fun _=>Bool) true (fun a _ g=>bif p a then g else false) l
def uI{α β:Type}(f:α->Option β)(l:List α):Option (List β):=
 List.rec (motive:=fun _=>Option (List β)) (some []) (fun a _ g=>ob (f a) fun b=>ob g fun r=>some (b::r)) l
def uK(a:List Nat):List Nat->Bool:=
 List.rec (motive:=fun _=>List Nat->Bool) (fun b=>b.isEmpty) (fun x _ g b=>List.rec (motive:=fun _=>Bool) false (fun y b _=>bif Nat.beq x y then g b else false) b) a
def kIdx:IntKind->Nat
 | .i8=>0 | .i16=>1 | .i32=>2 | .i64=>3 | .u8=>4 | .u16=>5 | .u32=>6 | .u64=>7
def kEq (a b:IntKind):Bool:=Nat.beq (kIdx a) (kIdx b)
def bEq:Bool->Bool->Bool
 | true,b=>b
 | false,b => !b
def wA:Int->Int->Bool
 | .ofNat a,.ofNat b=>Nat.beq a b
 | .negSucc a,.negSucc b=>Nat.beq a b
 | _,_=>false
def qC:Int->Int->Bool
 | .ofNat a,.ofNat b=>Nat.ble a b
 | .ofNat _,.negSucc _=>false
 | .negSucc _,.ofNat _=>true
 | .negSucc a,.negSucc b=>Nat.ble b a
def fB:Int->Int->Bool
 | .ofNat a,.ofNat b=>Nat.blt a b
 | .ofNat _,.negSucc _=>false
 | .negSucc _,.ofNat _=>true
 | .negSucc a,.negSucc b=>Nat.blt b a
def kG:IntKind->Nat
 | .i8=>128 | .i16=>32768 | .i32=>2147483648 | .i64=>9223372036854775808 | .u8=>256 | .u16=>65536 | .u32=>4294967296 | .u64=>18446744073709551616
def kLo:IntKind->Nat
 | .i8=>128 | .i16=>32768 | .i32=>2147483648 | .i64=>9223372036854775808 | _=>0
def vA(k:IntKind):Int->Int
 | .ofNat n=>bif Nat.blt n (kG k)then .ofNat n else k.wrap (.ofNat n)
 | .negSucc n=>bif Nat.blt n (kLo k)then .negSucc n else k.wrap (.negSucc n)
inductive AFn where
 | func (f:Nat)
 | yld (l:Nat)
inductive zA where
 | bool (b:Bool)
 | int (k:IntKind) (n:Int)
 | str (l:List Nat)
 | nilptr
 | ptr (b off:Nat)
 | nilslice
 | slice (b off len cap:Nat)
 | nilmap
 | map (b:Nat)
 | func (fn:AFn) (first captured:List zA)
 | nilfunc
 | iface (t:Nat) (v:zA)
 | niliface
 | agg (l:List zA)
 | tup (l:List zA)
structure Tm where
 k:Nat
 v:Tr zA
 t:List (Nat × zA)
def z0n(i:Nat)(l:List (Nat × zA)):Option zA:=
 List.rec (motive:=fun _=>Option zA) none (fun a _ g=>Bool.rec (motive:=fun _=>Option zA) g (some a.2) (Nat.beq i a.1)) l
def Tm.get(t:Tm)(i:Nat):Option zA:=Bool.rec (motive:=fun _=>Option zA) (z0n i t.t) (t.v.get i) (Nat.blt i t.k)
def Tm.set(t:Tm)(i:Nat)(x:zA):Tm:=Bool.rec (motive:=fun _=>Tm) ⟨t.k,t.v,(i,x)::t.t⟩ ⟨t.k,t.v.set i x,t.t⟩ (Nat.blt i t.k)
def Tm.cut(t:Tm):Tm:=⟨t.k,t.v,[]⟩
structure zly where
 fn:Option AFn
 r:Nat
 args:List zA
structure zqj where
 state:LoopState
 pending:Option Code
 fn:Nat
 n:Nat
 tm:Tm
 params:List Nat
 assign:Code
 body:Code
 defers:Nat
inductive lA where
 | cells (c:Tr zA) (n:Nat) (loose:Option Nat)
 | map (l:List (zA × zA))
 | loop (l:zqj)
 | deferred (l:Option (List zly))
 | siter (s:List Nat) (pos:Nat)
structure rA where
 next:Nat
 t:Tr lA
inductive rE where
 | bool | int (k:IntKind) | string
 | ptr (e:Nat) | slice (e:Nat) | arr (n e:Nat) | map (k e:Nat)
 | struct (fs:List (Nat × Nat × Nat))
 | func | iface | other
structure wD where
 desc:rE
 size:Nat
 bytes:Nat
 zero:List zA
 eqOk:Bool
structure vG where
 heavy:Nat
 lights:List Nat
 again:List Nat
structure Plan where
 first:List Nat
 stages:List vG
 olds:List (Nat × List Nat)
structure iA where
 fns:Tr Func
 ks:Tr Nat
 tys:Tr wD
 plans:Tr (Tr Plan)
 prims:Tr (List zA->rA->Option zA)
 base:Nat
 root:Nat
inductive iD where
 | code (c:Code)
 | inBlock (id:Nat)
 | inLoop (c:Code)
 | inScope (c:Code)
 | ops (all:Array Oper) (rest:List Oper)
 | reg (all:Array Oper) (old:Tm) (olds:List (Nat × List Nat)) (stages:List vG)
 | inRange (l:Nat)
 | endRange (l:Nat)
 | beginRound
structure gS where
 v:zA
 recovered:Bool
inductive zQ where
 | run | returning
 | panicking (chain:List gS)
structure rI where
 fn:Nat
 n:Nat
 defers:List zly
 mode:zQ
 deferred:Bool
 roundOf:Option Nat
structure xC where
 todo:List iD
 tm:Tm
 R:rI
structure xO where
 fr:xC
 cs:List xC
 H:rA
inductive eC where
 | next (s:xO)
 | done (v:zA) (H:rA)
 | fail (why:Nat)
def zA.asBool:zA->Option Bool | .bool b=>some b | _=>none
def zA.asInt:zA->Option Int | .int _ n=>some n | _=>none
def zA.asIntK:zA->Option (IntKind × Int) | .int k n=>some (k,n) | _=>none
def zA.asStr:zA->Option (List Nat) | .str l=>some l | _=>none
def zA.asPtr:zA->Option (Nat × Nat) | .ptr b o=>some (b,o) | _=>none
def zA.asSlice:zA->Option (Nat × Nat × Nat × Nat) | .slice b o l c=>some (b,o,l,c) | _=>none
def zA.asMap:zA->Option Nat | .map b=>some b | _=>none
def zA.asAgg:zA->Option (List zA) | .agg l=>some l | _=>none
def zA.asTup:zA->Option (List zA) | .tup l=>some l | _=>none
def zA.asFunc:zA->Option (AFn × List zA × List zA) | .func f a b=>some (f,a,b) | _=>none
def zA.asIface:zA->Option (Nat × zA) | .iface t v=>some (t,v) | _=>none
def zA.tag:zA->Nat
 | .bool _=>0 | .int _ _=>1 | .str _=>2 | .nilptr=>3 | .ptr _ _=>4 | .nilslice=>5 | .slice _ _ _ _=>6 | .nilmap=>7 | .map _=>8
 | .func _ _ _=>9 | .nilfunc=>10 | .iface _ _=>11 | .niliface=>12 | .agg _=>13 | .tup _=>14
def jK:Int->Option Nat | .ofNat n=>some n | .negSucc _=>none
def zA.asNat(v:zA):Option Nat:=ob v.asInt jK
def zA.cells(v:zA):List zA:=
 match v.asAgg with
 | some l=>l
 | none=>[v]
def zA.one(v:zA):Bool:=Nat.blt v.tag 13
def rE.asInt:rE->Option IntKind | .int k=>some k | _=>none
def rE.asSlice:rE->Option Nat | .slice e=>some e | _=>none
def rE.asArr:rE->Option (Nat × Nat) | .arr n e=>some (n,e) | _=>none
def rE.asMap:rE->Option (Nat × Nat) | .map k e=>some (k,e) | _=>none
def rE.asStruct:rE->Option (List (Nat × Nat × Nat)) | .struct fs=>some fs | _=>none
def rE.tag:rE->Nat
 | .bool=>0 | .int _=>1 | .string=>2 | .ptr _=>3 | .slice _=>4 | .arr _ _=>5 | .map _ _=>6 | .struct _=>7 | .func=>8 | .iface=>9 | .other=>10
def rE.isAgg(d:rE):Bool:=bif Nat.beq d.tag 5 then true else Nat.beq d.tag 7
def rE.isString(d:rE):Bool:=Nat.beq d.tag 2
def lA.asCells:lA->Option (Tr zA × Nat × Option Nat) | .cells c n l=>some (c,n,l) | _=>none
def lA.asMap:lA->Option (List (zA × zA)) | .map l=>some l | _=>none
def lA.asLoop:lA->Option zqj | .loop l=>some l | _=>none
def lA.asDeferred:lA->Option (Option (List zly)) | .deferred l=>some l | _=>none
def lA.asIter:lA->Option (List Nat × Nat) | .siter s p=>some (s,p) | _=>none
def sB{α:Type}(b:Bool)(x:Option α):Option α:=Bool.rec (motive:=fun _=>Option α) none x b
def zE:zA:=.tup []
def uE(s:ByteArray):List Nat:=s.data.toList.map UInt8.toNat
def oT:Value->Option zA
 | .bool b=>some (.bool b)
 | .int k n=>some (.int k n)
 | .string s=>some (.str (uE s))
 | .pointer none=>some .nilptr
 | .slice none 0 0=>some .nilslice
 | .map none=>some .nilmap
 | .nilFunc=>some .nilfunc
 | .nilIface=>some .niliface
 | _=>none
def z2m:Value->Option (Array Value)
 | .agg cs=>some cs
 | _=>none
def zki(v:Value):Option zA:=
 match z2m v with
 | some cs=>ob (uI oT cs.toList) fun l=>some (.agg l)
 | none=>oT v
inductive xD where
 | now (tm:Tm)
 | mixed (tm old:Tm) (olds names:List Nat)
def rH(i:Nat)(l:List Nat):Bool:=List.rec (motive:=fun _=>Bool) false (fun j _ g=>bif Nat.beq i j then true else g) l
def zw8 (t:Nat)(e:xD):Option zA:=
 match e with
 | .now tm=>tm.get t
 | .mixed tm old olds names=>bif rH t names then Tm.get (bif rH t olds then old else tm) t else none
def xConst(v:Value)(_:xD):Option zA:=zki v
def zjj(g:Nat)(_:xD):Option zA:=bif Nat.blt g 256 then some (.ptr g 0)else none
def xFunc(f:Nat)(_:xD):Option zA:=some (.func (.func f) [] [])
structure EB where f:xD->Option zA
def evB:Operand->EB
 | .tmp t=>⟨zw8 t⟩
 | .const v=>⟨xConst v⟩
 | .global g=>⟨zjj g⟩
 | .func f=>⟨xFunc f⟩
def ev (x:Operand)(e:xD):Option zA:=(evB x).f e
def evs (l:List Operand)(e:xD):Option (List zA):=uI (fun x=>ev x e) l
def evo (x:Option Operand)(e:xD):Option (Option zA):=
 match x with
 | none=>some none
 | some x=>ob (ev x e) fun v=>some (some v)
def evp (l:List (Nat × Operand))(e:xD):Option (List (Nat × zA)):=uI (fun x=>ob (ev x.2 e) fun v=>some (x.1,v)) l
def oD(H:rA)(b:Nat):Option (Tr zA × Nat × Option Nat):=ob (H.t.get b) lA.asCells
def nL(H:rA)(b:Nat):Option (List (zA × zA)):=ob (H.t.get b) lA.asMap
def cM(ty:wD)(c:Tr zA)(off:Nat):Option zA:=
 bif ty.desc.isAgg then ob (c.many ty.size off) fun l=>some (.agg l)else c.get off
def lN(C:iA)(t:Nat)(l:List zA)(off:Nat):Option zA:=
 ob (C.tys.get t) fun ty=>bif ty.desc.isAgg then some (.agg (pO (vK l off) ty.size))else nD l off
def xP(ty:wD):zA:=
 bif ty.desc.isAgg then .agg ty.zero else match ty.zero with
  | v::_=>v
  | []=>zE
def zkq(a:List Nat):List Nat->Bool:=
 List.rec (motive:=fun _=>List Nat->Bool) (fun b => !b.isEmpty)
  (fun x _ g b=>List.rec (motive:=fun _=>Bool) false (fun y b _=>bif Nat.blt x y then true else bif Nat.beq x y then g b else false) b) a
def ziu(a b:zA):Option Bool:=ob a.asBool fun x=>ob b.asBool fun y=>some (bEq x y)
def z5i(a b:zA):Option Bool:=ob a.asIntK fun x=>ob b.asIntK fun y=>sB (kEq x.1 y.1) (some (wA x.2 y.2))
def zgm(a b:zA):Option Bool:=ob a.asStr fun x=>ob b.asStr fun y=>some (uK x y)
def zit(n m:Nat)(a b:zA):Option Bool:=
 bif Nat.beq a.tag n then(bif Nat.beq b.tag n then some true else sB (Nat.beq b.tag m) (some false))
 else sB (Nat.beq a.tag m&&Nat.beq b.tag n) (some false)
def zn5(_ _:zA):Option Bool:=none
def zn6:rE->zA->zA->Option Bool
 | .bool=>ziu
 | .int _=>z5i
 | .string=>zgm
 | .ptr _=>zit 3 4
 | .iface=>zit 12 11
 | .slice _=>zit 5 6
 | .map _ _=>zit 7 8
 | .func=>zit 10 9
 | .arr _ _=>zn5
 | .struct _=>zn5
 | .other=>zn5
def z0q(C:iA)(eq:Nat->zA->zA->Option Bool)(xs ys:List zA):List (Nat × Nat × Nat)->Option Bool
 | []=>some true
 | f::fs=>ob (lN C f.2.1 xs f.1) fun a=>ob (lN C f.2.1 ys f.1) fun b=>ob (eq f.2.1 a b) fun r=>bif r then z0q C eq xs ys fs else some false
def aeq (C:iA):Nat->Nat->zA->zA->Option Bool
 | 0,_,_,_=>none
 | d+1,t,x,y=>ob (C.tys.get t) fun ty=>
  match ty.desc.asStruct with
  | some fs=>sB ty.eqOk (ob x.asAgg fun xs=>ob y.asAgg fun ys=>z0q C (aeq C d) xs ys fs)
  | none=>zn6 ty.desc x y
def iAdd (k:IntKind)(a b:Int):Option zA:=some (.int k (vA k (a+b)))
def iSub (k:IntKind)(a b:Int):Option zA:=some (.int k (vA k (a-b)))
def iMul (k:IntKind)(a b:Int):Option zA:=some (.int k (vA k (a*b)))
def zzk (k:IntKind)(a b:Int):Option zA:=bif wA b 0 then none else some (.int k (vA k (a.tdiv b)))
def zqn (k:IntKind)(a b:Int):Option zA:=bif wA b 0 then none else some (.int k (a.tmod b))
def qH(f:Nat->Nat->Nat)(k:IntKind)(a b:Int):Option zA:=ob (jK a) fun x=>ob (jK b) fun y=>sB (Nat.blt x (kG k)&&Nat.blt y (kG k)) (some (.int k (.ofNat (f x y))))
def iEql (_:IntKind)(a b:Int):Option zA:=some (.bool (wA a b))
def iNeq (_:IntKind)(a b:Int):Option zA:=some (.bool (!wA a b))
def iLss (_:IntKind)(a b:Int):Option zA:=some (.bool (fB a b))
def iLeq (_:IntKind)(a b:Int):Option zA:=some (.bool (qC a b))
def iGtr (_:IntKind)(a b:Int):Option zA:=some (.bool (fB b a))
def iGeq (_:IntKind)(a b:Int):Option zA:=some (.bool (qC b a))
def iNone(_:IntKind)(_ _:Int):Option zA:=none
structure IB where f:IntKind->Int->Int->Option zA
def zwn:BinOp->IB
 | .add=>⟨iAdd⟩ | .sub=>⟨iSub⟩ | .mul=>⟨iMul⟩ | .quo=>⟨zzk⟩ | .rem=>⟨zqn⟩
 | .and=>⟨qH Nat.land⟩ | .or=>⟨qH Nat.lor⟩ | .xor=>⟨qH Nat.xor⟩
 | .eql=>⟨iEql⟩ | .neq=>⟨iNeq⟩ | .lss=>⟨iLss⟩ | .leq=>⟨iLeq⟩ | .gtr=>⟨iGtr⟩ | .geq=>⟨iGeq⟩
 | _=>⟨iNone⟩
def zs0 (a b:List Nat):Option zA:=sB (Nat.blt (uB a+uB b) 4611686018427387904) (some (.str (jF a b)))
def sEql (a b:List Nat):Option zA:=some (.bool (uK a b))
def sNeq (a b:List Nat):Option zA:=some (.bool (!uK a b))
def sLss (a b:List Nat):Option zA:=some (.bool (zkq a b))
def sNone(_ _:List Nat):Option zA:=none
structure SB where f:List Nat->List Nat->Option zA
def zwk:BinOp->SB
 | .add=>⟨zs0⟩ | .eql=>⟨sEql⟩ | .neq=>⟨sNeq⟩ | .lss=>⟨sLss⟩
 | _=>⟨sNone⟩
def nW:Operand->Bool
 | .const _=>true
 | _=>false
def qR(k:IntKind)(b:Int):Option Nat:=ob (jK b) fun n=>some (min n k.bits)
def zpv (k:IntKind)(a b:Int):Option zA:=ob (qR k b) fun n=>some (.int k (vA k (a*.ofNat (2^n))))
def z4w (k:IntKind)(a b:Int):Option zA:=ob (qR k b) fun n=>some (.int k (a.fdiv (.ofNat (2^n))))
def dW(f:IntKind->Int->Int->Option zA)(a b:zA):Option zA:=ob a.asIntK fun x=>ob b.asInt fun y=>f x.1 x.2 y
def zn4(x y:Operand)(a b:zA):Bool:=
 bif Nat.beq a.tag 12&&Nat.beq b.tag 12 then nW x||nW y else true
def zbe(neg:Bool)(C:iA)(t:Nat)(x y:Operand)(a b:zA):Option zA:=
 sB (zn4 x y a b) (ob (aeq C 20 t a b) fun r=>some (.bool (bif neg then !r else r)))
def binNo(_:iA)(_:Nat)(_ _:Operand)(_ _:zA):Option zA:=none
structure BB where f:iA->Nat->Operand->Operand->zA->zA->Option zA
def zwl:BinOp->BB
 | .eql=>⟨zbe false⟩
 | .neq=>⟨zbe true⟩
 | _=>⟨binNo⟩
def zgq(op:BinOp)(C:iA)(t:Nat)(x y:Operand)(a b:zA):Option zA:=
 match a.asIntK with
 | some i=>ob b.asIntK fun j=>sB (kEq i.1 j.1) ((zwn op).f i.1 i.2 j.2)
 | none=>match a.asStr with
  | some s=>ob b.asStr fun u=>(zwk op).f s u
  | none=>(zwl op).f C t x y a b
def binShl(_:iA)(_:Nat)(_ _:Operand)(a b:zA):Option zA:=dW zpv a b
def binShr(_:iA)(_:Nat)(_ _:Operand)(a b:zA):Option zA:=dW z4w a b
def dK:BinOp->BB
 | .shl=>⟨binShl⟩
 | .shr=>⟨binShr⟩
 | op=>⟨zgq op⟩
def unNeg(a:zA):Option zA:=ob a.asIntK fun x=>some (.int x.1 (vA x.1 (0-x.2)))
def unNot(a:zA):Option zA:=ob a.asBool fun b=>some (.bool (!b))
def zjr(a:zA):Option zA:=ob a.asIntK fun x=>sB (Nat.beq (kLo x.1) 0) (qH Nat.xor x.1 (.ofNat (kG x.1-1)) x.2)
def unNone(_:zA):Option zA:=none
structure UB where f:zA->Option zA
def unA:UnOp->UB
 | .neg=>⟨unNeg⟩
 | .xor=>⟨zjr⟩
 | .not=>⟨unNot⟩
 | _=>⟨unNone⟩
def zS(v:zA):Option Nat:=ob v.asIntK fun x=>sB (kEq x.1 .u8) (ob (jK x.2) fun n=>sB (Nat.blt n 256) (some n))
def qV(H:rA)(a:zA):Option zA:=
 match a.asSlice with
 | some x=>ob (oD H x.1) fun c=>ob (c.1.many x.2.2.1 x.2.1) fun l=>ob (uI zS l) fun r=>some (.str r)
 | none=>sB (Nat.beq a.tag 5) (some (.str []))
def wN(C:iA)(s d:wD)(a:zA)(H:rA):Option zA:=
 match d.desc.asInt with
 | some k=>ob a.asInt fun n=>some (.int k (vA k n))
 | none=>sB d.desc.isString (bif Nat.beq a.tag 2 then some a else
   ob s.desc.asSlice fun e=>ob (C.tys.get e) fun et=>ob et.desc.asInt fun k=>sB (kEq k .u8) (qV H a))
def cQ(y:Nat)(v:zA):Option Nat:=ob v.asNat fun n=>sB (Nat.ble n y) (some n)
def zc7(y dflt:Nat)(v:Option zA):Option Nat:=
 match v with
 | some v=>cQ y v
 | none=>some dflt
def vN(len cap:Nat)(lo hi:Option zA):Option (Nat × Nat):=
 ob (zc7 cap len hi) fun h=>ob (zc7 h 0 lo) fun l=>some (l,h)
def oH(H:rA)(b size cap l:Nat)(arr:Bool):Bool:=
 match oD H b with
 | some c=>match c.2.2 with
  | none=>true
  | some es => !arr&&Nat.beq es size&&(!Nat.beq cap l||Nat.beq l 0)
 | none=>false
def iH(H:rA)(b size cap l:Nat)(arr:Bool):Bool:=
 match oD H b with
 | some c=>match c.2.2 with
  | none=>false
  | some es => !arr&&Nat.beq es size&&Nat.beq cap l && !Nat.beq l 0
 | none=>false
def wL(C:iA)(H:rA)(arr:Bool)(e b off len cap:Nat)(lo hi:Option zA):Option zA:=
 ob (C.tys.get e) fun et=>ob (vN len cap lo hi) fun x=>
  bif Nat.ble x.2 cap&&Nat.ble x.1 x.2&&iH H b et.size cap x.1 arr then some (.slice 0 1 0 0)else
  sB (Nat.ble x.2 cap&&oH H b et.size cap x.1 arr) (some (.slice b (bif Nat.beq cap x.1 then off else off+x.1*et.size) (x.2-x.1) (cap-x.1)))
def zml(s:List Nat)(lo hi:Option zA):Option zA:=
 let n:=uB s
 ob (vN n n lo hi) fun x=>some (.str (vK (pO s x.2) x.1))
def aJ(C:iA)(H:rA)(ty:wD)(x:zA)(lo hi:Option zA):Option zA:=
 match x.asStr with
 | some s=>sB ty.desc.isString (zml s lo hi)
 | none=>match x.asSlice with
  | some r=>ob ty.desc.asSlice fun e=>wL C H false e r.1 r.2.1 r.2.2.1 r.2.2.2 lo hi
  | none=>match x.asPtr with
   | some p=>ob ty.desc.asArr fun a=>wL C H true a.2 p.1 p.2 a.1 a.1 lo hi
   | none=>sB (Nat.beq x.tag 5) (ob ty.desc.asSlice fun e=>ob (C.tys.get e) fun _=>ob (vN 0 0 lo hi) fun _=>some .nilslice)
def vV(cells:List zA)(off size:Nat)(v:zA):Option (List zA):=
 let vc:=v.cells
 let n:=uB vc
 sB (Nat.beq n size&&Nat.ble (off+n) (uB cells)) (some (jF (pO cells off) (jF vc (vK cells (off+n)))))
def dN(place:Nat->Option (Nat × Nat)):List (Nat × zA)->List zA->Option (List zA)
 | [],cells=>some cells
 | p::rest,cells=>ob (place p.1) fun q=>ob (vV cells q.1 q.2 p.2) fun cells=>dN place rest cells
def bU(d:rE):Bool:=Nat.ble d.tag 2
def keyTag(v:zA):Nat:=v.tag
def zeo(d:rE)(v:zA):Bool:=Nat.beq d.tag (keyTag v)
def zih(a b:zA):Option Bool:=
 match a.asIntK with
 | some x=>ob b.asIntK fun y=>sB (kEq x.1 y.1) (some (wA x.2 y.2))
 | none=>match a.asStr with
  | some x=>ob b.asStr fun y=>some (uK x y)
  | none=>ziu a b
def zgg(k:zA):List (zA × zA)->Option (Option zA)
 | []=>some none
 | e::l=>ob (zih k e.1) fun r=>bif r then some (some e.2)else zgg k l
def nQ(k v:zA):List (zA × zA)->Option (List (zA × zA))
 | []=>some [(k,v)]
 | e::l=>ob (zih k e.1) fun r=>bif r then some ((k,v)::l)else ob (nQ k v l) fun l=>some (e::l)
abbrev LOp:=iA->xD->rA->Option zA
def zf2:LOp:=fun _ _ _=>none
def zpp(x:Operand):LOp:=fun _ e _=>ev x e
def zum(c a b:Operand):LOp:=fun _ e _=>ob (ev c e) fun c=>ob c.asBool fun c=>bif c then ev a e else ev b e
def bM(t:Nat)(a:Operand):LOp:=fun C e H=>ob (ev a e) fun v=>ob v.asPtr fun p=>ob (C.tys.get t) fun ty=>ob (oD H p.1) fun c=>cM ty c.1 p.2
def zza (x:Operand):LOp:=fun _ e _=>ob (ev x e) fun v=>sB (Nat.beq v.tag 4||Nat.beq v.tag 9) (some v)
def gK (op:BinOp)(t:Nat)(x y:Operand):LOp:=fun C e _=>ob (ev x e) fun a=>ob (ev y e) fun b=>(dK op).f C t x y a b
def lUn (op:UnOp)(x:Operand):LOp:=fun _ e _=>ob (ev x e) fun a=>(unA op).f a
def sL(s d:Nat)(x:Operand):LOp:=fun C e H=>ob (ev x e) fun a=>ob (C.tys.get s) fun s=>ob (C.tys.get d) fun d=>wN C s d a H
def kR(t:Nat)(x:Operand):LOp:=fun C e _=>ob (C.tys.get t) fun ty=>sB (Nat.blt ty.desc.tag 9) (ob (ev x e) fun v=>some (.iface t v))
def zuv(f:Nat)(a b:Array Operand):LOp:=fun _ e _=>ob (evs a.toList e) fun a=>ob (evs b.toList e) fun b=>some (.func (.func f) a b)
structure LB where f:LOp
def jR(fn:Fn)(a b:Array Operand):LB:=
 match fn with
 | .func f=>⟨zuv f a b⟩
 | _=>⟨zf2⟩
def eQ(t:Nat)(x:Operand)(lo hi:Option Operand):LOp:=fun C e H=>
 ob (ev x e) fun a=>ob (evo lo e) fun l=>ob (evo hi e) fun h=>ob (C.tys.get t) fun ty=>aJ C H ty a l h
def pW(t:Nat)(x:Operand)(lo hi mx:Option Operand):LB:=
 match mx with
 | none=>⟨eQ t x lo hi⟩
 | some _=>⟨zf2⟩
def hO(s:Nat)(x:Operand)(f:Nat):LOp:=fun C e _=>
 ob (C.tys.get s) fun ty=>ob ty.desc.asStruct fun fs=>ob (nD fs f) fun fd=>sB (!Nat.beq fd.2.2 0) (ob (ev x e) fun v=>ob v.asPtr fun p=>some (.ptr p.1 (p.2+fd.1)))
def iR(t:Nat)(x:Operand)(f:Nat):LOp:=fun C e _=>
 ob (C.tys.get t) fun ty=>ob ty.desc.asStruct fun fs=>ob (nD fs f) fun fd=>ob (ev x e) fun v=>ob v.asAgg fun l=>lN C fd.2.1 l fd.1
def jO(t:Nat)(x i:Operand):LOp:=fun C e _=>
 ob (C.tys.get t) fun ty=>ob (ev x e) fun v=>ob (ev i e) fun i=>ob i.asNat fun i=>
  match v.asSlice with
  | some s=>ob ty.desc.asSlice fun el=>ob (C.tys.get el) fun et=>sB (Nat.blt i s.2.2.1) (some (.ptr s.1 (s.2.1+i*et.size)))
  | none=>ob v.asPtr fun p=>ob ty.desc.asArr fun a=>ob (C.tys.get a.2) fun et=>sB (Nat.blt i a.1) (some (.ptr p.1 (p.2+i*et.size)))
def iO(t:Nat)(x i:Operand):LOp:=fun C e _=>
 ob (C.tys.get t) fun ty=>ob (ev x e) fun v=>ob (ev i e) fun i=>ob i.asNat fun i=>
  match v.asStr with
  | some s=>sB ty.desc.isString (ob (nD s i) fun b=>some (.int .u8 (.ofNat b)))
  | none=>ob v.asAgg fun l=>ob ty.desc.asArr fun a=>ob (C.tys.get a.2) fun et=>sB (Nat.blt i a.1) (lN C a.2 l (i*et.size))
def gO(t:Operand)(i:Nat):LOp:=fun _ e _=>ob (ev t e) fun v=>ob v.asTup fun l=>nD l i
def jP(t:Nat)(parts:Array (Nat × Operand)):LOp:=fun C e _=>
 ob (C.tys.get t) fun ty=>ob (evp parts.toList e) fun ps=>
  match ty.desc.asStruct with
  | some fs=>ob (dN (fun i=>ob (nD fs i) fun x=>some (x.1,x.2.2)) ps ty.zero) fun l=>some (.agg l)
  | none=>ob ty.desc.asArr fun a=>ob (C.tys.get a.2) fun et=>ob (dN (fun i=>some (i*et.size,et.size)) ps ty.zero) fun l=>some (.agg l)
def fO(x:Operand)(asserted:Nat)(ok:Bool):LOp:=fun C e _=>
 ob (C.tys.get asserted) fun ty=>sB (Nat.blt ty.desc.tag 9) (ob (ev x e) fun v=>
  match v.asIface with
  | some p=>bif Nat.beq p.1 asserted then some (bif ok then .tup [p.2,.bool true]else p.2)else sB ok (some (.tup [xP ty,.bool false]))
  | none=>sB (Nat.beq v.tag 12&&ok) (some (.tup [xP ty,.bool false])))
def kP(H:rA)(v:zA):Option (List (zA × zA)):=
 match v.asMap with
 | some b=>nL H b
 | none=>sB (Nat.beq v.tag 7) (some [])
def kO(t:Nat)(x i:Operand)(ok:Bool):LOp:=fun C e H=>
 ob (C.tys.get t) fun ty=>ob ty.desc.asMap fun ke=>ob (C.tys.get ke.1) fun kty=>sB (bU kty.desc) (ob (C.tys.get ke.2) fun ety=>
  ob (ev x e) fun m=>ob (kP H m) fun es=>ob (ev i e) fun k=>sB (zeo kty.desc k) (ob (zgg k es) fun r=>
   match r with
   | some v=>some (bif ok then .tup [v,.bool true]else v)
   | none=>some (bif ok then .tup [xP ety,.bool false]else xP ety)))
def zui (H:rA)(ty:wD)(v:zA):Option Nat:=
 match v.asStr with
 | some s=>sB ty.desc.isString (some (uB s))
 | none=>match v.asSlice with
  | some s=>sB (Nat.beq ty.desc.tag 4) (some s.2.2.1)
  | none=>match ty.desc.asArr with
   | some a=>some a.1
   | none=>match v.asMap with
    | some b=>sB (Nat.beq ty.desc.tag 6) (ob (nL H b) fun l=>some (uB l))
    | none=>sB ((Nat.beq ty.desc.tag 4&&Nat.beq v.tag 5)||(Nat.beq ty.desc.tag 6&&Nat.beq v.tag 7)) (some 0)
def zni (c:Call):LOp:=fun C e H=>
 ob (nD c.argTypes.toList 0) fun t=>ob (nD c.args.toList 0) fun x=>ob (C.tys.get t) fun ty=>ob (ev x e) fun v=>ob (zui H ty v) fun n=>some (.int .i64 (.ofNat n))
def two (c:Call)(e:xD):Option (zA × zA):=
 match c.args.toList with
 | [x,y]=>ob (ev x e) fun a=>ob (ev y e) fun b=>some (a,b)
 | _=>none
def zur (c:Call):LOp:=fun _ e _=>ob (two c e) fun p=>ob p.1.asIntK fun x=>ob p.2.asIntK fun y=>some (.int x.1 (bif fB x.2 y.2 then y.2 else x.2))
def zup (c:Call):LOp:=fun _ e _=>ob (two c e) fun p=>ob p.1.asIntK fun x=>ob p.2.asIntK fun y=>some (.int x.1 (bif fB y.2 x.2 then y.2 else x.2))
def zf3(c:Call):Builtin->LB
 | .len=>⟨zni c⟩
 | .max=>⟨zur c⟩
 | .min=>⟨zup c⟩
 | _=>⟨zf2⟩
def iN(c:Call):Callee->LB
 | .builtin b=>zf3 c b
 | _=>⟨zf2⟩
def lCall(c:Call):LB:=iN c c.callee
def pF:Op->LB
 | .move x=>⟨zpp x⟩
 | .assign x=>⟨zpp x⟩
 | .pick c a b=>⟨zum c a b⟩
 | .load t a=>⟨bM t a⟩
 | .nilCheck x=>⟨zza x⟩
 | .binOp op t x y _=>⟨gK op t x y⟩
 | .unOp op _ x=>⟨lUn op x⟩
 | .convert s d x=>⟨sL s d x⟩
 | .makeInterface t x=>⟨kR t x⟩
 | .makeFunc fn a b=>jR fn a b
 | .slice t x lo hi mx=>pW t x lo hi mx
 | .fieldAddr s x f=>⟨hO s x f⟩
 | .field t x f=>⟨iR t x f⟩
 | .indexAddr t x i=>⟨jO t x i⟩
 | .index t x i=>⟨iO t x i⟩
 | .extract t i=>⟨gO t i⟩
 | .build t ps=>⟨jP t ps⟩
 | .typeAssert x _ u ok=>⟨fO x u ok⟩
 | .lookup t x i ok=>⟨kO t x i ok⟩
 | .call c=>lCall c
 | _=>⟨zf2⟩
inductive kJ where
 | val (v:zA) (H:rA)
 | enter (f:Nat) (args:List zA)
 | round (l:Nat) (args:List zA)
 | defer (d:zly)
 | panic (v:zA)
 | recover
 | fail
abbrev HOp:=iA->xD->rA->kJ
structure HB where f:HOp
def kL (x:Option (zA × rA)):kJ:=
 match x with
 | some p=>.val p.1 p.2
 | none=>.fail
def z1c (x:Option kJ):kJ:=
 match x with
 | some r=>r
 | none=>.fail
def lv (f:LOp):HOp:=fun C e H=>
 match f C e H with
 | some v=>.val v H
 | none=>.fail
def newBlk(H:rA)(b:lA):rA:=⟨H.next+1,H.t.set H.next b⟩
def vF(H:rA)(l:List zA)(loose:Option Nat):rA:=newBlk H (.cells (Tr.ofList l) (uB l) loose)
def setBlk(H:rA)(b:Nat)(x:lA):rA:=⟨H.next,H.t.set b x⟩
def rJ (zero:List zA):Nat->List zA
 | 0=>[]
 | n+1=>jF zero (rJ zero n)
def zh5(v:zA):Option Nat:=
 match v.asSlice with
 | some s=>some s.2.2.1
 | none=>match v.asStr with
  | some s=>some (uB s)
  | none=>sB (Nat.beq v.tag 5) (some 0)
def cO(l:List Nat):List zA:=l.map fun n=>zA.int .u8 (Int.ofNat n)
def aR(H:rA)(size n:Nat)(v:zA):Option (List zA):=
 match v.asSlice with
 | some s=>ob (oD H s.1) fun c=>c.1.many (n*size) s.2.1
 | none=>match v.asStr with
  | some s=>some (cO (pO s n))
  | none=>sB (Nat.beq v.tag 5) (some [])
def nK(C:iA)(H:rA)(b off:Nat)(l:List zA):Option rA:=
 sB (!Nat.blt b C.base) (ob (oD H b) fun c=>
  sB (Nat.ble (off+uB l) c.2.1&&iB zA.one l) (some (setBlk H b (.cells (c.1.setMany l off) c.2.1 c.2.2))))
def iL(et:wD)(len cap n:Nat)(new:List zA):Bool:=
 Nat.blt (len+n+cap) 1000000000&&Nat.blt ((len+n+cap)*et.bytes) 1000000000&&Nat.blt et.bytes 1000000000 && !Nat.beq et.size 0&&Nat.beq (uB new) (n*et.size)&&Nat.beq (uB et.zero) et.size
def sM(H:rA)(et:wD)(n:Nat)(new:List zA):Option (zA × rA):=
 bif Nat.beq n 0 then some (.nilslice,H)else
  sB (iL et 0 0 n new) (some (.slice H.next 0 n n,vF H new (some et.size)))
def fN(C:iA)(H:rA)(et:wD)(n:Nat)(new:List zA)(s:Nat × Nat × Nat × Nat):Option (zA × rA):=
 match new with
 | []=>some (.slice s.1 s.2.1 (s.2.2.1+n) s.2.2.2,H)
 | _::_=>ob (nK C H s.1 (s.2.1+s.2.2.1*et.size) new) fun H'=>some (.slice s.1 s.2.1 (s.2.2.1+n) s.2.2.2,H')
def dR(H:rA)(et:wD)(n:Nat)(new:List zA)(s:Nat × Nat × Nat × Nat)(c:Tr zA):Option (zA × rA):=
 ob (c.many (s.2.2.1*et.size) s.2.1) fun old=>some (.slice H.next 0 (s.2.2.1+n) (s.2.2.1+n),vF H (jF old new) (some et.size))
def xV(C:iA)(H:rA)(et:wD)(n:Nat)(new:List zA)(s:Nat × Nat × Nat × Nat)(c:Tr zA)(m es:Nat):Option (zA × rA):=
 sB (Nat.beq s.2.1 0&&Nat.beq es et.size&&Nat.ble (s.2.2.1*es) m&&Nat.ble m ((s.2.2.1+n)*es)&&iB zA.one new && !Nat.blt s.1 C.base)
  (some (.slice H.next 0 (s.2.2.1+n) (s.2.2.1+n),⟨H.next+1,(H.t.del s.1).set H.next (.cells (c.setMany new (s.2.2.1*es)) ((s.2.2.1+n)*es) (some es))⟩))
def zN(C:iA)(H:rA)(et:wD)(n:Nat)(new:List zA)(s:Nat × Nat × Nat × Nat):Option (zA × rA):=
 sB (!(Nat.beq s.2.1 1&&Nat.beq s.2.2.2 0)) (sB (iL et s.2.2.1 s.2.2.2 n new) (ob (oD H s.1) fun c=>
  match c.2.2 with
  | none=>dR H et n new s c.1
  | some es=>xV C H et n new s c.1 c.2.1 es))
def eL(C:iA)(H:rA)(ty:wD)(s x:zA):Option (zA × rA):=
 ob ty.desc.asSlice fun e=>ob (C.tys.get e) fun et=>ob (zh5 x) fun n=>ob (aR H et.size n x) fun new=>
  match s.asSlice with
  | some s=>bif Nat.ble (s.2.2.1+n) s.2.2.2 then fN C H et n new s else zN C H et n new s
  | none=>sB (Nat.beq s.tag 5) (sM H et n new)
def zcs(t:Nat):HOp:=fun C _ H=>kL (ob (C.tys.get t) fun ty=>some (.ptr H.next 0,vF H ty.zero none))
def zzo (x:Operand):HOp:=fun _ e H=>kL (ob (ev x e) fun v=>some (.ptr H.next 0,vF H v.cells none))
def fR(t len:Nat)(parts:Array (Nat × Operand)):HOp:=fun C e H=>kL (ob (C.tys.get t) fun ty=>ob ty.desc.asSlice fun el=>ob (C.tys.get el) fun et=>
 sB (Nat.blt (len*et.size) 1000000&&Nat.beq (uB et.zero) et.size) (ob (evp parts.toList e) fun ps=>ob (dN (fun i=>some (i*et.size,et.size)) ps (rJ et.zero len)) fun l=>some (.slice H.next 0 len len,vF H l none)))
def znt(t:Nat)(a x:Operand):HOp:=fun C e H=>kL (ob (C.tys.get t) fun ty=>ob (ev a e) fun a=>ob a.asPtr fun p=>ob (ev x e) fun v=>
 let l:=v.cells
 sB (Nat.beq (uB l) ty.size) (ob (nK C H p.1 p.2 l) fun H'=>some (zE,H')))
def mW(r:Option Operand):HOp:=fun _ _ H=>
 match r with
 | none=>.val (.map H.next) (newBlk H (.map []))
 | some _=>.fail
def aU(t:Nat)(m k x:Operand):HOp:=fun C e H=>kL (ob (C.tys.get t) fun ty=>ob ty.desc.asMap fun ke=>ob (C.tys.get ke.1) fun kty=>sB (bU kty.desc)
 (ob (ev m e) fun m=>ob m.asMap fun b=>sB (!Nat.blt b C.base) (ob (nL H b) fun l=>ob (ev k e) fun k=>sB (zeo kty.desc k) (ob (ev x e) fun v=>ob (nQ k v l) fun l'=>some (zE,setBlk H b (.map l'))))))
def zac(t:Nat)(l c:Operand):HOp:=fun C e H=>kL (ob (C.tys.get t) fun ty=>ob ty.desc.asSlice fun el=>ob (C.tys.get el) fun et=>
 ob (ev l e) fun l=>ob l.asNat fun l=>ob (ev c e) fun c=>ob c.asNat fun c=>
  sB (Nat.ble l c&&Nat.blt c 1000000&&Nat.blt (c*et.bytes) 1000000000&&Nat.beq (uB et.zero) et.size) (some (.slice H.next 0 l c,vF H (rJ et.zero c) none)))
def fP(s d:Nat)(x:Operand):HOp:=fun C e H=>
 match sL s d x C e H with
 | some v=>.val v H
 | none=>kL (ob (C.tys.get s) fun _=>ob (C.tys.get d) fun ty=>ob ty.desc.asSlice fun el=>ob (C.tys.get el) fun et=>ob et.desc.asInt fun k=>sB (kEq k .u8) (ob (ev x e) fun v=>ob v.asStr fun l=>
   some (.slice H.next 0 (uB l) (uB l),vF H (cO l) (some 1))))
def zve(x:Operand):HOp:=fun _ e _=>z1c (ob (ev x e) fun v=>ob v.asIface fun p=>some (.panic (.iface p.1 p.2)))
def rO(f:Operand)(args:Array Operand)(e:xD):Option (AFn × List zA × List zA):=
 ob (ev f e) fun v=>ob v.asFunc fun p=>ob (evs args.toList e) fun as=>some (p.1,jF p.2.1 as,p.2.2)
def za8(c:Call):Callee->HB
 | .value f=>⟨fun _ e _=>z1c (ob (rO f c.args e) fun p=>some (.defer ⟨some p.1,0,jF p.2.1 p.2.2⟩))⟩
 | _=>⟨fun _ _ _=>.fail⟩
def hDefer(c:Call):HB:=za8 c c.callee
def zc5(_:iA)(H:rA)(args:List zA)(f:Nat):Option (List zA->rA->Option zA)->kJ
 | some g=>match g args H with
  | some v=>.val v H
  | none=>.fail
 | none=>.enter f args
def zi2(l:Nat)(args:List zA):List zA->kJ
 | []=>.round l args
 | _::_=>.fail
def callA(C:iA)(H:rA)(args cap:List zA):AFn->kJ
 | .func f=>zc5 C H (jF args cap) f (C.prims.get f)
 | .yld l=>zi2 l args cap
def zcr(f:Operand)(args:Array Operand):HOp:=fun C e H=>z1c (ob (rO f args e) fun p=>some (callA C H p.2.1 p.2.2 p.1))
def yV(c:Call):HOp:=fun C e H=>kL (ob (nD c.argTypes.toList 0) fun t=>ob (C.tys.get t) fun ty=>ob (nD c.argTypes.toList 1) fun u=>ob (C.tys.get u) fun uty=>
 sB (!Nat.beq uty.desc.tag 1) (ob (two c e) fun p=>eL C H ty p.1 p.2))
def z41:HOp:=fun _ _ _=>.fail
def zzm:HOp:=fun _ _ _=>.recover
def zzn(c:Call):Builtin->HB
 | .append=>⟨yV c⟩
 | .len=>⟨lv (zni c)⟩
 | .max=>⟨lv (zur c)⟩
 | .min=>⟨lv (zup c)⟩
 | .recover=>⟨zzm⟩
 | _=>⟨z41⟩
def zV(c:Call):Callee->HB
 | .value f=>⟨zcr f c.args⟩
 | .builtin b=>zzn c b
 | _=>⟨z41⟩
def hCall(c:Call):HB:=zV c c.callee
def lvB (b:LB):HB:=⟨lv b.f⟩
def rF:Op->HB
 | .move x=>⟨lv (zpp x)⟩
 | .assign x=>⟨lv (zpp x)⟩
 | .pick c a b=>⟨lv (zum c a b)⟩
 | .load t a=>⟨lv (bM t a)⟩
 | .nilCheck x=>⟨lv (zza x)⟩
 | .binOp op t x y _=>⟨lv (gK op t x y)⟩
 | .unOp op _ x=>⟨lv (lUn op x)⟩
 | .makeInterface t x=>⟨lv (kR t x)⟩
 | .makeFunc fn a b=>lvB (jR fn a b)
 | .slice t x lo hi mx=>lvB (pW t x lo hi mx)
 | .fieldAddr s x f=>⟨lv (hO s x f)⟩
 | .field t x f=>⟨lv (iR t x f)⟩
 | .indexAddr t x i=>⟨lv (jO t x i)⟩
 | .index t x i=>⟨lv (iO t x i)⟩
 | .extract t i=>⟨lv (gO t i)⟩
 | .build t ps=>⟨lv (jP t ps)⟩
 | .typeAssert x _ u ok=>⟨lv (fO x u ok)⟩
 | .lookup t x i ok=>⟨lv (kO t x i ok)⟩
 | .convert s d x=>⟨fP s d x⟩
 | .alloc t=>⟨zcs t⟩
 | .box _ x=>⟨zzo x⟩
 | .buildSlice t len ps=>⟨fR t len ps⟩
 | .store t a x=>⟨znt t a x⟩
 | .makeMap _ r=>⟨mW r⟩
 | .insert t m k x=>⟨aU t m k x⟩
 | .mapUpdate t m k x=>⟨aU t m k x⟩
 | .makeSlice t l c=>⟨zac t l c⟩
 | .panic x=>⟨zve x⟩
 | .defer c=>hDefer c
 | .call c=>hCall c
 | _=>⟨z41⟩
structure GB where f:Tm->Option Bool
def z2x(_:Tm):Option Bool:=some true
def zgx(d:Option Nat)(w:Bool)(tm:Tm):Option Bool:=
 ob d fun d=>ob (tm.get d) fun v=>match v.asBool with
  | some b=>some (bEq b w)
  | none=>some false
def zq0(g:Option (Nat × Bool))(all:Array Oper):GB:=
 match g with
 | none=>⟨z2x⟩
 | some jw=>⟨zgx (ob (nD all.toList jw.1) fun o=>o.dst) jw.2⟩
def gE(g:Option (Nat × Bool))(all:Array Oper)(tm:Tm):Option Bool:=(zq0 g all).f tm
structure PB where f:Nat->Tm->zA->Tm
def zyj(d n:Nat)(tm:Tm)(v:zA):Tm:=bif Nat.blt d n then tm.set d v else tm
def putNo(_:Nat)(tm:Tm)(_:zA):Tm:=tm
def putB (dst:Option Nat):PB:=
 match dst with
 | some d=>⟨zyj d⟩
 | none=>⟨putNo⟩
def putA (n:Nat)(tm:Tm)(dst:Option Nat)(v:zA):Tm:=(putB dst).f n tm v
def zQ.running:zQ->Bool | .run=>true | _=>false
def iD.blockId:iD->Option Nat | .inBlock id=>some id | _=>none
def aN(id:Nat):List iD->Option (List iD)
 | []=>none
 | x::k=>match x.blockId with
  | some i=>bif Nat.beq i id then some k else aN id k
  | none=>aN id k
def z2h(all:Array Oper)(rest:List Oper)(k:List iD)(tm:Tm)(R:rI)(v:zA):Option xC:=
 match rest with
 | o::rest=>some ⟨.ops all rest::k,putA R.n tm o.dst v,R⟩
 | []=>none
def zvq(all:Array Oper)(old:Tm)(olds:List (Nat × List Nat))(stages:List vG)(k:List iD)(tm:Tm)(R:rI)(v:zA):Option xC:=
 match stages with
 | st::stages=>ob (nD all.toList st.heavy) fun o=>some ⟨.reg all old olds (⟨all.size,st.lights,st.again⟩::stages)::k,putA R.n tm o.dst v,R⟩
 | []=>none
def zzt(l:Nat)(k:List iD)(tm:Tm)(R:rI)(_:zA):Option xC:=some ⟨.endRange l::k,tm,R⟩
def zzu(k:List iD)(tm:Tm)(R:rI)(_:zA):Option xC:=some ⟨k,tm,R⟩
def z5b(_:List iD)(_:Tm)(_:rI)(_:zA):Option xC:=none
def zgh:iD->List iD->Tm->rI->zA->Option xC
 | .ops all rest=>z2h all rest
 | .reg all old olds stages=>zvq all old olds stages
 | .inRange l=>zzt l
 | .beginRound=>zzu
 | _=>z5b
def tI(fr:xC)(v:zA):Option xC:=
 match fr.todo with
 | []=>none
 | x::k=>bif fr.R.mode.running then zgh x k fr.tm fr.R v else none
def fI(C:iA)(f:Nat)(args:List zA)(deferred:Bool):Option xC:=
 ob (C.fns.get f) fun fn=>ob fn.body fun c=>ob (C.ks.get f) fun k=>sB (Nat.ble (uB args) k&&Nat.ble (uB args) fn.ntmps) (some ⟨[.code c],⟨k,Tr.ofList args,[]⟩,⟨f,fn.ntmps,[],.run,deferred,none⟩⟩)
def oX(n:Nat):List Nat->List zA->Tm->Option (Tm)
 | [],[],tm=>some tm
 | p::ps,a::as,tm=>oX n ps as (putA n tm (some p) a)
 | _,_,_=>none
def zrn:List Operand->List Nat
 | []=>[]
 | .tmp t::l=>t::zrn l
 | _::l=>zrn l
def sH(o:Op):List Nat:=zrn o.operands.toList
def cE(i:Nat):List (Nat × List Nat)->List Nat
 | []=>[]
 | x::r=>bif Nat.beq i x.1 then x.2 else cE i r
def same:Nat->zA->zA->Bool
 | _,.bool a,.bool b=>bEq a b
 | _,.int j a,.int k b=>kEq j k&&wA a b
 | _,.str a,.str b=>uK a b
 | _,.nilptr,.nilptr=>true
 | _,.ptr a b,.ptr c d=>Nat.beq a c&&Nat.beq b d
 | _,.nilslice,.nilslice=>true
 | _,.slice a b c d,.slice e f g h=>Nat.beq a e&&Nat.beq b f&&Nat.beq c g&&Nat.beq d h
 | _,.nilmap,.nilmap=>true
 | _,.map a,.map b=>Nat.beq a b
 | _,.nilfunc,.nilfunc=>true
 | _,.niliface,.niliface=>true
 | d+1,.agg a,.agg b=>sames d a b
 | d+1,.tup a,.tup b=>sames d a b
 | _,_,_=>false
where
 sames (d:Nat):List zA->List zA->Bool
  | [],[]=>true
  | a::x,b::y=>same d a b&&sames d x y
  | _,_=>false
def mO(C:iA)(H:rA)(all:Array Oper)(n:Nat)(old:Tm)(olds:List (Nat × List Nat)):List Nat->Tm->Option (Tm)
 | [],tm=>some tm
 | i::l,tm=>ob (nD all.toList i) fun o=>ob (gE o.guard all tm) fun w=>ob (bif w then(pF o.op).f C (.mixed tm old (cE i olds) (sH o.op)) H else some zE) fun v=>
   mO C H all n old olds l (putA n tm o.dst v)
def nS(C:iA)(H:rA)(all:Array Oper)(old:Tm)(olds:List (Nat × List Nat))(tm:Tm):List Nat->Bool
 | []=>true
 | i::l=>match (ob (nD all.toList i) fun o=>ob o.dst fun d=>ob (gE o.guard all tm) fun w=>bif w then(ob ((pF o.op).f C (.mixed tm old (cE i olds) (sH o.op)) H) fun v=>ob (tm.get d) fun u=>some (same 10 v u))else some true)with
  | some true=>nS C H all old olds tm l
  | _=>false
def zQ.chain:zQ->Option (List gS) | .panicking c=>some c | _=>none
def zew:List Oper->Tr zA->Tr zA
 | [],t=>t
 | o::l,t=>match o.dst with
  | some j=>zew l (t.del j)
  | none=>zew l t
def zh9(todo:List iD)(tm:Tm):Tm:=
 match todo with
 | .reg all _ _ _::_=>⟨tm.k,zew all.toList tm.v,[]⟩
 | _=>tm
def zm2(fr:xC)(l:List gS):xC:=
 ⟨[],zh9 fr.todo fr.tm,⟨fr.R.fn,fr.R.n,fr.R.defers,.panicking (match fr.R.mode.chain with | some c=>jF l c | none=>l),fr.R.deferred,fr.R.roundOf⟩⟩
def kK(x:Option xO)(why:Nat):eC:=
 match x with
 | some s=>.next s
 | none=>.fail why
def jN(H:rA)(l:Nat):Option zqj:=sB (Nat.ble (nat_lit 256) l) (ob (H.t.get l) lA.asLoop)
def zbc(H:rA)(l:Nat):Option (Option (List zly)):=sB (Nat.ble (nat_lit 256) l) (ob (H.t.get l) lA.asDeferred)
def z3p (v:zA)(H':rA)(_:iA)(fr:xC)(cs:List xC)(_:rA):eC:=kK (ob (tI fr v) fun fr=>some ⟨fr,cs,H'⟩) 1
def zhv(f:Nat)(args:List zA)(C:iA)(fr:xC)(cs:List xC)(H:rA):eC:=kK (ob (fI C f args false) fun g=>some ⟨g,fr::cs,H⟩) 2
def zta(l:Nat)(args:List zA)(_:iA)(fr:xC)(cs:List xC)(H:rA):eC:=
 kK (ob (jN H l) fun r=>ob (oX r.n r.params args r.tm) fun tm=>some ⟨⟨[.code r.assign,.beginRound,.code r.body],tm,⟨r.fn,r.n,[],.run,false,some l⟩⟩,fr::cs,H⟩) 3
def ztd(d:zly)(_:iA)(fr:xC)(cs:List xC)(H:rA):eC:=
 kK (match fr.R.roundOf with
  | none=>ob (tI fr zE) fun g=>some ⟨⟨g.todo,g.tm,⟨g.R.fn,g.R.n,d::g.R.defers,g.R.mode,g.R.deferred,g.R.roundOf⟩⟩,cs,H⟩
  | some _=>none) 4
def z1e(v:zA)(_:iA)(fr:xC)(cs:List xC)(H:rA):eC:=.next ⟨zm2 fr [⟨v,false⟩],cs,H⟩
def zfp(_:iA)(fr:xC)(cs:List xC)(H:rA):eC:=
 kK (match fr.R.roundOf,fr.R.deferred,cs with
  | none,true,c::rest=>match c.R.mode with
   | .panicking (⟨v,false⟩::older)=>ob (tI fr v) fun fr=>some ⟨fr,⟨c.todo,c.tm,⟨c.R.fn,c.R.n,c.R.defers,.panicking (⟨v,true⟩::older),c.R.deferred,c.R.roundOf⟩⟩::rest,H⟩
   | .panicking _=>none
   | _=>ob (tI fr .niliface) fun fr=>some ⟨fr,cs,H⟩
  | _,_,_=>none) 5
def rFail(_:iA)(_:xC)(_:List xC)(_:rA):eC:=.fail 6
def lV:kJ->iA->xC->List xC->rA->eC
 | .val v H'=>z3p v H'
 | .enter f args=>zhv f args
 | .round l args=>zta l args
 | .defer d=>ztd d
 | .panic v=>z1e v
 | .recover=>zfp
 | .fail=>rFail
def pR(C:iA)(H:rA)(tm:Tm):ResultVar->Option zA
 | .tmp t=>tm.get t
 | .cell a t=>ob (ob (tm.get a) zA.asPtr) fun p=>ob (C.tys.get t) fun ty=>ob (oD H p.1) fun c=>cM ty c.1 p.2
def tT(C:iA)(H:rA)(tm:Tm)(l:List ResultVar):Option (List zA):=uI (pR C H tm) l
def zs5(jump:Option Code):Bool:=
 match jump with
 | none=>true
 | some .ret=>true
 | _=>false
def zb4(fr:xC)(m:zQ):xC:=⟨fr.todo,fr.tm,⟨fr.R.fn,fr.R.n,fr.R.defers,m,fr.R.deferred,fr.R.roundOf⟩⟩
def zei(jump:Option Code)(_:iA)(fr:xC)(cs:List xC)(H:rA):eC:=
 kK (match fr.R.roundOf with
  | none=>sB (zs5 jump) (some ⟨zb4 fr .returning,cs,H⟩)
  | some l=>ob (jN H l) fun r=>match cs with
   | c::rest=>sB (!fr.R.deferred) <| ob (tI c (.bool jump.isNone)) fun c=>some ⟨c,rest,setBlk H l (.loop ⟨if jump.isNone then .ready else .done,jump,r.fn,r.n,r.tm,r.params,r.assign,r.body,r.defers⟩)⟩
   | []=>none) 7
abbrev sK:=iA->List iD->Tm->rI->List xC->rA->eC
structure XB where f:sK
def xGo (todo:List iD)(tm:Tm)(R:rI)(cs:List xC)(H:rA):eC:=.next ⟨⟨todo,tm,R⟩,cs,H⟩
def zji:sK:=fun _ k tm R cs H=>xGo k tm R cs H
def zqv(c:Operand)(x y:Code):sK:=fun _ k tm R cs H=>
 match ob (ev c (.now tm)) zA.asBool with
 | some b=>xGo (.code (bif b then x else y)::k) tm R cs H
 | none=>.fail 8
def z0v(id:Nat)(c:Code):sK:=fun _ k tm R cs H=>xGo (.code c::.inBlock id::k) tm R cs H
def z2t(c:Code):sK:=fun _ k tm R cs H=>xGo (.code c::.inLoop c::k) tm R cs H
def xScope(c:Code):sK:=fun _ k tm R cs H=>xGo (.code c::.inScope c::k) tm R cs H
def zqt(id:Nat):sK:=fun C k tm R cs H=>
 match aN id k with
 | some k'=>xGo k' tm R cs H
 | none=>zei (some (.exit id)) C ⟨.code (.exit id)::k,tm,R⟩ cs H
def xRet:sK:=fun C k tm R cs H=>zei (some .ret) C ⟨.code .ret::k,tm,R⟩ cs H
def z2u:sK:=fun _ _ _ _ _ _=>.fail 9
def zc8(e:Edge):Bool:=
 match e.ground with
 | .textOnly _=>false
 | .gcOnly _=>false
 | _=>true
def tb (m i:Nat):Bool:=Nat.beq (Nat.mod (Nat.shiftRight m i) (nat_lit 2)) (nat_lit 1)
def z5u(i:Nat):Nat:=Nat.shiftLeft (nat_lit 1) i
def nJ (t:Tr Nat)(i:Nat):Nat:=
 match t.get i with
 | some m=>m
 | none=>0
def zeg(t:Tr Nat):List Edge->Nat
 | []=>0
 | e::l=>bif zc8 e then Nat.lor (Nat.lor (z5u e.on) (nJ t e.on)) (zeg t l)else zeg t l
def z5z:List Oper->Nat->Tr Nat->Tr Nat
 | [],_,t=>t
 | o::r,i,t=>z5z r (i+1) (t.set i (zeg t o.after.toList))
def zm7:List Oper->Nat->Bool
 | [],_=>true
 | o::r,i=>bif iB (fun e=>bif zc8 e then Nat.blt e.on i else true) o.after.toList then zm7 r (i+1)else false
def wrOf:List Oper->Nat->Tr Nat->Option (Tr Nat)
 | [],_,t=>some t
 | o::r,i,t=>match o.dst with
  | none=>wrOf r (i+1) t
  | some d=>match t.get d with
   | none=>wrOf r (i+1) (t.set d i)
   | some _=>none
def fK{α:Type}:Option α->Bool | none=>true | some _=>false
def ztt(wr anc:Tr Nat)(i:Nat)(olds:List Nat)(t:Nat):Bool:=
 match wr.get t with
 | none=>true
 | some j=>bif rH t olds then(bif Nat.beq j i then true else tb (nJ anc j) i)else tb (nJ anc i) j
def zkg(anc:Nat):Option (Nat × Bool)->Bool
 | none=>true
 | some g=>tb anc g.1
def zyr(wr anc:Tr Nat)(olds:List (Nat × List Nat)):List Oper->Nat->Bool
 | [],_=>true
 | o::r,i=>bif zkg (nJ anc i) o.guard then(bif iB (ztt wr anc i (cE i olds)) (sH o.op)then zyr wr anc olds r (i+1)else false)else false
def zfr:Op->Bool
 | .move _=>true
 | .assign _=>true
 | .pick _ _ _=>true
 | .nilCheck _=>true
 | .binOp _ _ _ _ _=>true
 | .unOp _ _ _=>true
 | .makeInterface _ _=>true
 | .makeFunc _ _ _=>true
 | .fieldAddr _ _ _=>true
 | .field _ _ _=>true
 | .indexAddr _ _ _=>true
 | .index _ _ _=>true
 | .extract _ _=>true
 | .build _ _=>true
 | .typeAssert _ _ _ _=>true
 | _=>false
def topo (D:Nat)(o:Oper):Bool:=iB (fun e=>bif zc8 e then tb D e.on else true) o.after.toList
def zm6(h D:Nat):List Oper->Nat->Bool
 | [],_=>true
 | o::r,i=>bif (bif tb D i then true else bif Nat.beq i h then true else !topo D o)then zm6 h D r (i+1)else false
def rL:Op->Bool
 | .alloc _=>true
 | .box _ _=>true
 | .buildSlice _ _ _=>true
 | _=>false
def zfw(m D:Nat)(again:List Nat):List Oper->Nat->Bool
 | [],_=>true
 | o::r,i=>bif (bif tb D i then(bif tb m i then true else bif zfr o.op then true else bif rL o.op then true else rH i again)else true)then zfw m D again r (i+1)else false
def mP(ops:List Oper)(i D:Nat):Option Nat:=
 ob (nD ops i) fun o=>sB (bif tb D i then false else topo D o) (some (Nat.lor D (z5u i)))
def vM(ops:List Oper):List Nat->Nat->Option Nat
 | [],D=>some D
 | i::l,D=>ob (mP ops i D) fun D=>vM ops l D
def zyt(D:Nat):List Oper->Nat->Bool
 | [],_=>true
 | _::r,i=>bif tb D i then zyt D r (i+1)else false
def z4v:Option Oper->Bool
 | some o=>rL o.op
 | none=>false
def wJ(ops:List Oper)(anc:Tr Nat):List vG->Nat->Bool
 | [],D=>zyt D ops 0
 | st::r,D=>bif Nat.blt (uB ops) st.heavy then(bif z4v (nD ops (Nat.sub st.heavy (Nat.succ (uB ops))))then
   (match ob (mP ops (Nat.sub st.heavy (Nat.succ (uB ops))) D) fun D=>vM ops st.lights D with
   | some D=>wJ ops anc r D
   | none=>false)else false)else bif zm6 st.heavy D ops 0 then(bif zfw (nJ anc st.heavy) D st.again ops 0 then
   (match ob (mP ops st.heavy D) fun D=>vM ops st.lights D with
   | some D=>wJ ops anc r D
   | none=>false)else false)else false
def zkf(ops:List Oper)(p:Plan):Bool:=
 bif zm7 ops 0 then
  (match wrOf ops 0 .leaf with
  | none=>false
  | some wr=>
   (fun anc=>bif zyr wr anc p.olds ops 0 then(match vM ops p.first 0 with
    | some D=>wJ ops anc p.stages D
    | none=>false)else false) (z5z ops 0 .leaf))else false
structure OkB where b:Bool
def kN(all:Array Oper)(p:Plan):Bool:=(OkB.mk (zkf all.toList p)).b
def zqu(id:Nat)(all:Array Oper):sK:=fun C k tm R cs H=>
 kK (ob (ob (C.plans.get R.fn) fun t=>t.get id) fun p=>sB (kN all p) <| ob (mO C H all R.n tm.cut p.olds p.first tm.cut) fun tm'=>some ⟨⟨.reg all tm.cut p.olds p.stages::k,tm',R⟩,cs,H⟩) 10
def kJ.asVal:kJ->Option (zA × rA) | .val v H=>some (v,H) | _=>none
def pP(C:iA)(all:Array Oper)(k:List iD)(R:rI)(cs:List xC)(l:List Oper):Tm->rA->eC:=
 List.rec (motive:=fun _=>Tm->rA->eC) (fun tm H=>xGo k tm R cs H)
  (fun o rest g tm H=>
   match gE o.guard all tm with
   | some w=>Bool.rec (motive:=fun _=>eC) (g (putA R.n tm o.dst zE) H)
     (let r:=(rF o.op).f C (.now tm) H
     match r.asVal with
     | some p=>g (putA R.n tm o.dst p.1) p.2
     | none=>lV r C ⟨.ops all (o::rest)::k,tm,R⟩ cs H) w
   | none=>.fail 20) l
def xOps (all:Array Oper)(rest:List Oper):sK:=fun C k tm R cs H=>pP C all k R cs rest tm H
def z2s(id:Nat)(all:Array Oper)(draw:Bool):XB:=
 match draw with
 | true=>⟨zqu id all⟩
 | false=>⟨fun C k tm R cs H=>pP C all k R cs all.toList tm.cut H⟩
def zlz(all:Array Oper)(old:Tm)(olds:List (Nat × List Nat))(st:vG)(stages:List vG)(o:Oper):sK:=fun C k tm R cs H=>
 match gE o.guard all tm with
 | some w=>lV (bif w then(rF o.op).f C (.mixed tm old (cE st.heavy olds) (sH o.op)) H else .val zE H) C ⟨.reg all old olds (st::stages)::k,tm,R⟩ cs H
 | none=>.fail 21
def zbh(all:Array Oper)(old:Tm)(olds:List (Nat × List Nat))(st:vG)(stages:List vG):sK:=fun C k tm R cs H=>
 kK (sB (nS C H all old olds tm st.again) (ob (mO C H all R.n old olds st.lights tm) fun tm=>some ⟨⟨.reg all old olds stages::k,tm,R⟩,cs,H⟩)) 11
def zqs(all:Array Oper)(old:Tm)(olds:List (Nat × List Nat))(st:vG)(stages:List vG)(i:Nat):sK:=fun C k tm R cs H=>
 kK (ob (nD all.toList i) fun o=>ob (gE o.guard all tm) fun w=>sB w (ob ((rF o.op).f C (.mixed tm old (cE i olds) (sH o.op)) H).asVal fun p=>
  ob (mO C p.2 all R.n old olds st.lights (putA R.n tm o.dst p.1)) fun tm'=>some ⟨⟨.reg all old olds stages::k,tm',R⟩,cs,p.2⟩)) 23
def zxd (all:Array Oper)(old:Tm)(olds:List (Nat × List Nat))(stages:List vG):sK:=
 match stages with
 | []=>zji
 | st::stages=>match nD all.toList st.heavy with
  | some o=>zlz all old olds st stages o
  | none=>bif Nat.blt (uB all.toList) st.heavy then zqs all old olds st stages (Nat.sub st.heavy (Nat.succ (uB all.toList)))else zbh all old olds st stages
def rT(C:iA)(l:Nat)(f:zA):Option xC:=
 ob f.asFunc fun p=>match p.1 with
  | .func g=>match C.prims.get g with
   | none=>fI C g (jF p.2.1 (.func (.yld l) [] []::p.2.2)) false
   | some _=>none
  | .yld _=>none
def zqr(f:Operand)(params:Array Nat)(assign body:Code):sK:=fun C k tm R cs H=>
 kK (ob (ev f (.now tm)) fun v=>match R.roundOf with
  | none=>
   let r:=H.next
   let l:=r+1
   ob (rT C l v) fun h=>
    some ⟨h,⟨.inRange l::k,tm,⟨R.fn,R.n,⟨none,r,[]⟩::R.defers,R.mode,R.deferred,R.roundOf⟩⟩::cs,
     newBlk (newBlk H (.deferred (some []))) (.loop ⟨.ready,none,R.fn,R.n,tm,params.toList,assign,body,r⟩)⟩
  | some outer=>ob (jN H outer) fun o=>
   let l:=H.next
   ob (rT C l v) fun h=>
    some ⟨h,⟨.inRange l::k,tm,R⟩::cs,newBlk H (.loop ⟨.ready,none,R.fn,R.n,tm,params.toList,assign,body,o.defers⟩)⟩) 12
def LoopState.tag:LoopState->Nat | .ready=>0 | .busy=>1 | .done=>2 | .exhausted=>3
def zqw:sK:=fun _ k tm R cs H=>
 kK (ob R.roundOf fun l=>ob (jN H l) fun r=>sB (Nat.beq (LoopState.tag r.state) 0)
  (some ⟨⟨k,tm,R⟩,cs,setBlk H l (.loop ⟨.busy,r.pending,r.fn,r.n,r.tm,r.params,r.assign,r.body,r.defers⟩)⟩)) 13
def zbi(l:Nat):sK:=fun _ k tm R cs H=>
 kK (ob (jN H l) fun r=>sB (!Nat.beq (LoopState.tag r.state) 1)
  (some ⟨⟨(match r.pending with | some c=>.code c::k | none=>k),tm,R⟩,cs,setBlk H l (.loop ⟨.exhausted,r.pending,r.fn,r.n,r.tm,r.params,r.assign,r.body,r.defers⟩)⟩)) 14
def z2v:Code->XB
 | .skip=>⟨zji⟩
 | .region id ops d=>z2s id ops d
 | .seq a b=>⟨fun C k tm R cs H=>(z2v a).f C (.code b::k) tm R cs H⟩
 | .cond c x y=>⟨zqv c x y⟩
 | .block id c=>⟨z0v id c⟩
 | .loop c=>⟨z2t c⟩
 | .rangeFunc f ps a b=>⟨zqr f ps a b⟩
 | .exit id=>⟨zqt id⟩
 | .scope c=>⟨xScope c⟩
 | .label _=>⟨zji⟩
 | .goto _=>⟨z2u⟩
 | .ret=>⟨xRet⟩
 | .refuse _=>⟨z2u⟩
def xItem:iD->XB
 | .code c=>z2v c
 | .inBlock _=>⟨zji⟩
 | .inLoop c=>⟨z2t c⟩
 | .inScope _=>⟨zji⟩
 | .ops all rest=>⟨xOps all rest⟩
 | .reg all old olds stages=>⟨zxd all old olds stages⟩
 | .inRange _=>⟨z2u⟩
 | .endRange l=>⟨zbi l⟩
 | .beginRound=>⟨zqw⟩
def zgj(C:iA)(todo:List iD)(tm:Tm)(R:rI)(cs:List xC)(H:rA):eC:=
 match todo with
 | []=>zei none C ⟨[],tm,R⟩ cs H
 | x::k=>(xItem x).f C k tm R cs H
def zhr(fr:xC)(d:List zly):xC:=⟨fr.todo,fr.tm,⟨fr.R.fn,fr.R.n,d,fr.R.mode,fr.R.deferred,fr.R.roundOf⟩⟩
def zrd(C:iA)(d:zly)(ds:List zly)(fr:xC)(cs:List xC)(H:rA):eC:=
 kK (match d.fn with
  | none=>ob (zbc H d.r) fun l=>ob l fun l=>some ⟨zhr fr (jF l ds),cs,setBlk H d.r (.deferred none)⟩
  | some (.func f)=>match C.prims.get f with
   | none=>ob (fI C f d.args true) fun g=>some ⟨g,zhr fr ds::cs,H⟩
   | some _=>none
  | some (.yld _)=>none) 15
def cS(l:List zA):zA:=
 match l with
 | [v]=>v
 | l=>.tup l
def zbp(C:iA)(fr:xC)(cs:List xC)(H:rA):eC:=
 match ob (C.fns.get fr.R.fn) fun fn=>tT C H fr.tm fn.results.toList with
 | none=>.fail 16
 | some l=>
  match cs with
  | []=>bif fr.R.deferred then .fail 17 else bif Nat.beq fr.R.fn C.root then .done (cS l) H else .fail 22
  | c::rest=>kK (bif fr.R.deferred then
    (match c.R.mode with
    | .panicking (⟨_,true⟩::_)=>some ⟨zb4 c .returning,rest,H⟩
    | _=>sB (!c.R.mode.running) (some ⟨c,rest,H⟩))
   else ob (tI c (cS l)) fun c=>some ⟨c,rest,H⟩) 18
def zbo(C:iA)(fr:xC)(cs:List xC)(H:rA):eC:=
 match fr.R.defers with
 | d::ds=>zrd C d ds fr cs H
 | []=>match fr.R.mode.chain with
  | some chain=>kK (ob (C.fns.get fr.R.fn) fun _=>match cs with | c::rest=>some ⟨zm2 c chain,rest,H⟩ | []=>none) 19
  | none=>zbp C fr cs H
def stepA(C:iA)(s:xO):eC:=
 match s with
 | ⟨⟨todo,tm,R⟩,cs,H⟩=>bif R.mode.running then zgj C todo tm R cs H else zbo C ⟨todo,tm,R⟩ cs H
def jJ(C:iA)(o:eC):eC:=
 match o with
 | .next s=>stepA C s
 | .done v H=>.done v H
 | .fail n=>.fail n
def zms (C:iA)(n:Nat):eC->eC:=
 Nat.rec (motive:=fun _=>eC->eC) (fun o=>jJ C o) (fun _ g o=>g (g o)) n
end Go.Am
namespace Go.Am
open Go
theorem mA{α β:Type}{x:Option α}{f:α->Option β}{b:β}:ob x f=some b ↔ ∃a,x=some a/\f a=some b:=by
 cases x with
 | none=>simp[ob]
 | some a=>exact⟨fun h=>⟨a,rfl,h⟩,fun⟨_,h,k⟩=>by cases h;exact k⟩
@[simp] theorem z32 {α β:Type} {f:α->Option β}:ob none f=none:=rfl
@[simp] theorem uA {α β:Type} {a:α} {f:α->Option β}:ob (some a) f=f a:=rfl
theorem mB{α:Type}{b:Bool}{x:Option α}{a:α}:sB b x=some a ↔ b=true/\x=some a:=by
 cases b with
 | false=>simp[sB]
 | true=>simp[sB]
theorem lH{α:Type}(a b:α)(c:Bool):(Bool.rec (motive:=fun _=>α) a b c:α)=if c=true then b else a:=by cases c<;>rfl
theorem aB{n m:Nat}:(Nat.beq n m=true) ↔ n=m:=⟨Nat.eq_of_beq_eq_true,fun h=>by subst h;exact Nat.beq_refl n⟩
theorem beqf{n m:Nat}:(Nat.beq n m=false) ↔ n≠m:=by
 rw[<- Bool.not_eq_true,aB]
theorem eE{n m:Nat}:(Nat.ble n m=true) ↔ n<=m:=Iff.of_eq Nat.ble_eq
theorem pC{n m:Nat}:(Nat.blt n m=true) ↔ n<m:=Iff.of_eq Nat.ble_eq
theorem jC{α:Type}(c:Bool)(a b:α):(bif c then a else b)=if c=true then a else b:=by cases c<;>rfl
namespace Tr
variable {α:Type}
theorem get_leaf(n:Nat):(leaf:Tr α).get n=none:=rfl
theorem get_node(l:Tr α)(v:Option α)(r:Tr α)(n:Nat) :
  (node l v r).get n=if n=0 then v else if n%2=1 then l.get (n / 2)else r.get (n / 2-1):=by
 show Bool.rec (motive:=fun _=>Option α) (Bool.rec (motive:=fun _=>Option α) (r.get (n / 2-1)) (l.get (n / 2)) (Nat.beq (n%2) 1)) v (Nat.beq n 0)=_
 rw[lH,lH];simp only[aB]
theorem z36(f n:Nat)(v:α):mk (f+1) n v=if n=0 then node leaf (some v) leaf else if n%2=1 then node (mk f (n / 2) v) none leaf else node leaf none (mk f (n / 2-1) v):=by
 show Bool.rec (motive:=fun _=>Tr α) (Bool.rec (motive:=fun _=>Tr α) (node leaf none (mk f (n / 2-1) v)) (node (mk f (n / 2) v) none leaf) (Nat.beq (n%2) 1)) (node leaf (some v) leaf) (Nat.beq n 0)=_
 rw[lH,lH];simp only[aB]
theorem zya(n:Nat)(v:α):(leaf:Tr α).set n v=mk (n+1) n v:=rfl
theorem zx9(l:Tr α)(x:Option α)(r:Tr α)(n:Nat)(v:α) :
  (node l x r).set n v=if n=0 then node l (some v) r else if n%2=1 then node (l.set (n / 2) v) x r else node l x (r.set (n / 2-1) v):=by
 show Bool.rec (motive:=fun _=>Tr α) (Bool.rec (motive:=fun _=>Tr α) (node l x (r.set (n / 2-1) v)) (node (l.set (n / 2) v) x r) (Nat.beq (n%2) 1)) (node l (some v) r) (Nat.beq n 0)=_
 rw[lH,lH];simp only[aB]
theorem zz5(l:Tr α)(x:Option α)(r:Tr α)(n:Nat) :
  (node l x r).del n=if n=0 then node l none r else if n%2=1 then node (l.del (n / 2)) x r else node l x (r.del (n / 2-1)):=by
 show Bool.rec (motive:=fun _=>Tr α) (Bool.rec (motive:=fun _=>Tr α) (node l x (r.del (n / 2-1))) (node (l.del (n / 2)) x r) (Nat.beq (n%2) 1)) (node l none r) (Nat.beq n 0)=_
 rw[lH,lH];simp only[aB]
theorem get_mk(f:Nat):∀(n m:Nat) (v:α),n<f->(mk f n v).get m=if m=n then some v else none:=by
 induction f with
 | zero=>intro n m v h;omega
 | succ f ih=>
  intro n m v h;rw[z36];by_cases h0:n=0
  ·rw[if_pos h0,get_node];subst h0;split<;>simp[get_leaf]
  ·rw[if_neg h0]
   by_cases h1:n%2=1
   ·rw[if_pos h1,get_node]
    by_cases m0:m=0
    ·rw[if_pos m0,if_neg (by omega)]
    ·rw[if_neg m0]
     by_cases m1:m%2=1
     ·rw[if_pos m1,ih _ _ _ (by omega)];by_cases e:m=n
      ·subst e;simp
      ·rw[if_neg e,if_neg (by omega)]
     ·rw[if_neg m1,get_leaf,if_neg (by omega)]
   ·rw[if_neg h1,get_node]
    by_cases m0:m=0
    ·rw[if_pos m0,if_neg (by omega)]
    ·rw[if_neg m0]
     by_cases m1:m%2=1
     ·rw[if_pos m1,get_leaf,if_neg (by omega)]
     ·rw[if_neg m1,ih _ _ _ (by omega)];by_cases e:m=n
      ·subst e;simp
      ·rw[if_neg e,if_neg (by omega)]
theorem get_set(t:Tr α):∀(n m:Nat) (v:α),(t.set n v).get m=if m=n then some v else t.get m:=by
 induction t with
 | leaf=>intro n m v;rw[zya,get_mk _ _ _ _ (by omega),get_leaf]
 | node l x r ihl ihr=>
  intro n m v;rw[zx9];by_cases h0:n=0
  ·rw[if_pos h0,get_node,get_node];subst h0;by_cases m0:m=0<;>simp[m0]
  ·rw[if_neg h0]
   by_cases h1:n%2=1
   ·rw[if_pos h1,get_node,get_node]
    by_cases m0:m=0
    ·rw[if_pos m0,if_pos m0,if_neg (by omega)]
    ·rw[if_neg m0,if_neg m0]
     by_cases m1:m%2=1
     ·rw[if_pos m1,if_pos m1,ihl];by_cases e:m=n
      ·subst e;simp
      ·rw[if_neg e,if_neg (by omega)]
     ·rw[if_neg m1,if_neg m1,if_neg (by omega)]
   ·rw[if_neg h1,get_node,get_node]
    by_cases m0:m=0
    ·rw[if_pos m0,if_pos m0,if_neg (by omega)]
    ·rw[if_neg m0,if_neg m0]
     by_cases m1:m%2=1
     ·rw[if_pos m1,if_pos m1,if_neg (by omega)]
     ·rw[if_neg m1,if_neg m1,ihr];by_cases e:m=n
      ·subst e;simp
      ·rw[if_neg e,if_neg (by omega)]
theorem get_del(t:Tr α):∀(n m:Nat),(t.del n).get m=if m=n then none else t.get m:=by
 induction t with
 | leaf=>intro n m;show(leaf:Tr α).get m=_;rw[get_leaf];split<;>rfl
 | node l x r ihl ihr=>
  intro n m;rw[zz5];by_cases h0:n=0
  ·rw[if_pos h0,get_node,get_node];subst h0;by_cases m0:m=0<;>simp[m0]
  ·rw[if_neg h0]
   by_cases h1:n%2=1
   ·rw[if_pos h1,get_node,get_node]
    by_cases m0:m=0
    ·rw[if_pos m0,if_pos m0,if_neg (by omega)]
    ·rw[if_neg m0,if_neg m0]
     by_cases m1:m%2=1
     ·rw[if_pos m1,if_pos m1,ihl];by_cases e:m=n
      ·subst e;simp
      ·rw[if_neg e,if_neg (by omega)]
     ·rw[if_neg m1,if_neg m1,if_neg (by omega)]
   ·rw[if_neg h1,get_node,get_node]
    by_cases m0:m=0
    ·rw[if_pos m0,if_pos m0,if_neg (by omega)]
    ·rw[if_neg m0,if_neg m0]
     by_cases m1:m%2=1
     ·rw[if_pos m1,if_pos m1,if_neg (by omega)]
     ·rw[if_neg m1,if_neg m1,ihr];by_cases e:m=n
      ·subst e;simp
      ·rw[if_neg e,if_neg (by omega)]
theorem many_succ(t:Tr α)(n i:Nat):t.many (n+1) i=ob (t.get i) fun v=>ob (t.many n (i+1)) fun l=>some (v::l):=rfl
theorem many_some(t:Tr α)(n:Nat):∀(i:Nat) (l:List α),t.many n i=some l->l.length=n/\∀j,j<n->t.get (i+j)=l[j]?:=by
 induction n with
 | zero=>intro i l h;cases h;exact⟨rfl,fun j hj=>by omega⟩
 | succ n ih=>
  intro i l h;rw[many_succ,mA]at h;obtain⟨v,hv,h⟩:=h
  rw[mA]at h;obtain⟨m,hm,h⟩:=h
  cases h;obtain⟨h1,h2⟩:=ih _ _ hm
  refine⟨by simp[h1],fun j hj=>?_⟩
  cases j with
  | zero=>simpa using hv
  | succ j=>have:=h2 j (by omega);rw[show i+1+j=i+(j+1) by omega]at this;simpa using this
theorem zhq(v:α)(l:List α)(t:Tr α)(i:Nat):setMany (v::l) t i=setMany l (t.set i v) (i+1):=rfl
theorem get_setMany(l:List α):∀(t:Tr α) (i m:Nat),(setMany l t i).get m=if i<=m/\m<i+l.length then l[m-i]? else t.get m:=by
 induction l with
 | nil=>intro t i m;rw[if_neg (by simp)];rfl
 | cons v l ih=>
  intro t i m;rw[zhq,ih,get_set];by_cases h:i+1<=m/\m<i+1+l.length
  ·rw[if_pos h,if_pos (by simp;omega)]
   rw[show m-i=(m-(i+1))+1 by omega];simp
  ·rw[if_neg h]
   by_cases e:m=i
   ·subst e;simp
   ·rw[if_neg e,if_neg (by simp;omega)]
theorem get_ofList(l:List α)(m:Nat):(ofList l).get m=l[m]?:=by
 unfold ofList;rw[get_setMany];split
 ·simp
 ·rename_i h;rw[get_leaf,List.getElem?_eq_none (by omega)]
end Tr
theorem dD{α:Type}(l:List α):∀n,nD l n=l[n]?:=by
 induction l with
 | nil=>intro n;rfl
 | cons a l ih=>
  intro n
  cases n with
  | zero=>rfl
  | succ n=>show nD l n=_;rw[ih];simp
theorem lO{α:Type}(l:List α):∀n,vK l n=l.drop n:=by
 induction l with
 | nil=>intro n;simp;rfl
 | cons a l ih=>
  intro n
  cases n with
  | zero=>rfl
  | succ n=>show vK l n=_;rw[ih];simp
theorem jT{α:Type}(l:List α):∀n,pO l n=l.take n:=by
 induction l with
 | nil=>intro n;simp;rfl
 | cons a l ih=>
  intro n
  cases n with
  | zero=>rfl
  | succ n=>show a::pO l n=_;rw[ih];simp
theorem xE{α:Type}(l:List α):uB l=l.length:=by
 induction l with
 | nil=>rfl
 | cons a l ih=>show uB l+1=_;rw[ih];rfl
theorem fH{α:Type}(l m:List α):jF l m=l++m:=by
 induction l with
 | nil=>rfl
 | cons a l ih=>show a::jF l m=_;rw[ih];rfl
theorem iF{α:Type}(p:α->Bool)(l:List α):iB p l=l.all p:=by
 induction l with
 | nil=>rfl
 | cons a l ih=>show(bif p a then iB p l else false)=_;rw[ih];cases h:p a<;>simp[h]
theorem oO{α β:Type}(f:α->Option β)(a:α)(l:List α):uI f (a::l)=ob (f a) fun b=>ob (uI f l) fun r=>some (b::r):=rfl
theorem qW{α β:Type}(f:α->Option β):uI f []=some []:=rfl
theorem lP(i:Nat)(l:List Nat):rH i l=true ↔ i∈l:=by
 induction l with
 | nil=>exact⟨fun h=>(by cases h),fun h=>(by cases h)⟩
 | cons j l ih=>
  show(bif Nat.beq i j then true else rH i l)=true ↔ _
  rw[jC,yat];by_cases h:Nat.beq i j=true
  ·rw[if_pos h];exact⟨fun _=>.inl (aB.1 h),fun _=>rfl⟩
  ·rw[if_neg h,ih];exact⟨.inr,fun k=>k.resolve_left fun e=>h (aB.2 e)⟩
theorem zO(a:List Nat):∀b,uK a b=true ↔ a=b:=by
 induction a with
 | nil=>intro b;cases b with
  | nil=>exact⟨fun _=>rfl,fun _=>rfl⟩
  | cons y b=>exact⟨fun h=>(by cases h),fun h=>(by cases h)⟩
 | cons x a ih=>
  intro b
  cases b with
  | nil=>exact⟨fun h=>(by cases h),fun h=>(by cases h)⟩
  | cons y b=>
   show(bif Nat.beq x y then uK a b else false)=true ↔ _
   rw[jC];by_cases h:Nat.beq x y=true
   ·rw[if_pos h,ih,aB.1 h];simp
   ·rw[if_neg h];exact⟨fun h=>(by cases h),fun e=>(h (by rw[aB];injection e)).elim⟩
theorem oJ{a b:IntKind}:kEq a b=true ↔ a=b:=by cases a<;>cases b<;>simp[kEq,kIdx]
theorem vS(a b:Bool):bEq a b=(a == b):=by cases a<;>cases b<;>rfl
theorem iP(a b:Int):wA a b=true ↔ a=b:=by
 cases a<;>cases b<;>simp only[wA,aB] <;> (try simp)<;>omega
theorem zkv(a b:Int):qC a b=true ↔ a<=b:=by
 cases a<;>cases b<;>simp only[qC,eE] <;> (try simp)<;>omega
theorem zcp(a b:Int):fB a b=true ↔ a<b:=by
 cases a<;>cases b<;>simp only[fB,pC] <;> (try simp)<;>omega
theorem zcq(a b:Int):wA a b=(a == b):=by rw[Bool.eq_iff_iff,iP];simp
theorem z2g(a b:Int):qC a b=decide (a<=b):=by rw[Bool.eq_iff_iff,zkv];simp
theorem z2f(a b:Int):fB a b=decide (a<b):=by rw[Bool.eq_iff_iff,zcp];simp
theorem bJ(k:IntKind)(n:Int):vA k n=k.wrap n:=by
 cases n with
 | ofNat n=>
  show(bif Nat.blt n (kG k)then Int.ofNat n else _)=_
  rw[jC];by_cases h:Nat.blt n (kG k)=true
  ·rw[if_pos h]
   have h':=pC.1 h
   cases k<;>simp only[kG]at h'<;>simp only[IntKind.wrap,IntKind.bits,IntKind.signed]<;>simp<;>omega
  ·rw[if_neg h]
 | negSucc n=>
  show(bif Nat.blt n (kLo k)then Int.negSucc n else _)=_
  rw[jC];by_cases h:Nat.blt n (kLo k)=true
  ·rw[if_pos h]
   have h':=pC.1 h
   cases k<;>simp only[kLo]at h'<;>simp only[IntKind.wrap,IntKind.bits,IntKind.signed]<;>simp<;>omega
  ·rw[if_neg h]
theorem sW{n:Int}{m:Nat}:jK n=some m ↔ n=(m:Int):=by
 cases n with
 | ofNat a=>simp only[jK,Option.some.injEq];exact⟨fun h=>(by rw[h];rfl),fun h=>Int.ofNat.inj h⟩
 | negSucc a=>simp only[jK];exact⟨fun h=>(by cases h),fun h=>(by cases h)⟩
end Go.Am
namespace Go.Am
open Go
structure BI where
 b:Nat
 tight:Bool
 es:Nat
 room:Nat
 ro:Bool
structure Mu where
 m:Nat->Option BI
 pd:Nat->Option (lA × Nat × Nat)
instance:CoeFun Mu fun _=>Nat->Option BI:=⟨Mu.m⟩
def Mu.lw(μ ν:Mu):Prop:=∀a i,μ a=some i->ν a=some i
structure Mu.le (μ ν:Mu):Prop where
 f:∀a i,μ a=some i->ν a=some i
 pd:ν.pd=μ.pd
instance {μ ν:Mu}:CoeFun (μ.le ν) fun _=>∀a i,μ a=some i->ν a=some i:=⟨Mu.le.f⟩
instance {μ ν:Mu}:Coe (μ.le ν) (μ.lw ν):=⟨Mu.le.f⟩
theorem Mu.le_refl(μ:Mu):μ.le μ:=⟨fun _ _ h=>h,rfl⟩
theorem Mu.le_trans{a b c:Mu}(h:a.le b)(k:b.le c):a.le c:=⟨fun x i hx=>k.f x i (h.f x i hx),k.pd.trans h.pd⟩
def zqi(μ:Mu):AFn->Fn->Prop
 | .func f,fn=>fn=.func f
 | .yld l,fn=>∃i,μ l=some i/\fn=.yield i.b
mutual
def sA (μ:Mu):zA->Value->Prop
 | .bool b,v=>v=.bool b
 | .int k n,v=>v=.int k n
 | .str l,v=>∃s,v=.string s/\uE s=l
 | .nilptr,v=>v=.pointer none
 | .ptr b off,v=>∃i,μ b=some i/\v=.pointer (some ⟨i.b,off,none⟩)
 | .nilslice,v=>v=.slice none 0 0
 | .slice b off len cap,v=>(∃i cap',μ b=some i/\v=.slice (some ⟨i.b,off,none⟩) len cap'/\cap<=cap'/\(i.tight=true->cap'=cap)/\(i.tight=false->off+cap'*i.es<=i.room))\/(b=0/\len=0/\cap=0/\∃a c,v=.slice (some a) 0 c/\(off=0/\c=0\/off=1))
 | .nilmap,v=>v=.map none
 | .map b,v=>∃i,μ b=some i/\v=.map (some i.b)
 | .func f a c,v=>∃fn a' c',v=.func fn a' c'/\zqi μ f fn/\qB μ a a'.toList/\qB μ c c'.toList
 | .nilfunc,v=>v=.nilFunc
 | .iface t x,v=>∃x',v=.iface t x'/\sA μ x x'
 | .niliface,v=>v=.nilIface
 | .agg l,v=>∃cs,v=.agg cs/\qB μ l cs.toList
 | .tup l,v=>∃cs,v=.tuple cs/\qB μ l cs.toList
def qB (μ:Mu):List zA->List Value->Prop
 | [],m=>m=[]
 | a::l,m=>∃v r,m=v::r/\sA μ a v/\qB μ l r
end
theorem zqi.mono{μ ν:Mu}(h:μ.lw ν){f:AFn}{g:Fn}(k:zqi μ f g):zqi ν f g:=by
 cases f with
 | func f=>exact k
 | yld l=>obtain⟨i,h1,h2⟩:=k;exact⟨i,h _ _ h1,h2⟩
mutual
theorem sA.mono{μ ν:Mu}(h:μ.lw ν):∀(a:zA) (v:Value),sA μ a v->sA ν a v
 | .bool _,_,k=>k
 | .int _ _,_,k=>k
 | .str _,_,k=>k
 | .nilptr,_,k=>k
 | .ptr _ _,_,⟨i,h1,h2⟩=>⟨i,h _ _ h1,h2⟩
 | .nilslice,_,k=>k
 | .slice _ _ _ _,_,.inl ⟨i,c,h1,h2⟩=>.inl ⟨i,c,h _ _ h1,h2⟩
 | .slice _ _ _ _,_,.inr k=>.inr k
 | .nilmap,_,k=>k
 | .map _,_,⟨i,h1,h2⟩=>⟨i,h _ _ h1,h2⟩
 | .func _ a c,_,⟨fn,a',c',h1,h2,h3,h4⟩=>⟨fn,a',c',h1,h2.mono h,qB.mono h a _ h3,qB.mono h c _ h4⟩
 | .nilfunc,_,k=>k
 | .iface _ x,_,⟨x',h1,h2⟩=>⟨x',h1,sA.mono h x _ h2⟩
 | .niliface,_,k=>k
 | .agg l,_,⟨cs,h1,h2⟩=>⟨cs,h1,qB.mono h l _ h2⟩
 | .tup l,_,⟨cs,h1,h2⟩=>⟨cs,h1,qB.mono h l _ h2⟩
theorem qB.mono{μ ν:Mu}(h:μ.lw ν):∀(l:List zA) (m:List Value),qB μ l m->qB ν l m
 | [],_,k=>k
 | a::l,_,⟨v,r,h1,h2,h3⟩=>⟨v,r,h1,sA.mono h a v h2,qB.mono h l r h3⟩
end
theorem qB.length{μ:Mu}{l:List zA}:∀ {m:List Value},qB μ l m->m.length=l.length:=by
 induction l with
 | nil=>intro m h;rw[qB]at h;rw[h];rfl
 | cons a l ih=>intro m h;rw[qB]at h;obtain⟨v,r,rfl,_,h3⟩:=h;simp[ih h3]
theorem qB.get{μ:Mu}{l:List zA}:∀ {m:List Value} {i:Nat} {a:zA},qB μ l m->l[i]?=some a->∃v,m[i]?=some v/\sA μ a v:=by
 induction l with
 | nil=>intro m i a _ h;simp at h
 | cons b l ih=>
  intro m i a h hi;rw[qB]at h;obtain⟨v,r,rfl,h2,h3⟩:=h
  cases i with
  | zero=>simp at hi;subst hi;exact⟨v,by simp,h2⟩
  | succ i=>simp at hi;obtain⟨u,hu,hr⟩:=ih h3 hi;exact⟨u,by simpa using hu,hr⟩
theorem qB.mk{μ:Mu}{l:List zA}:∀ {m:List Value},m.length=l.length->(∀(i:Nat) a v,l[i]?=some a->m[i]?=some v->sA μ a v)->qB μ l m:=by
 induction l with
 | nil=>intro m h _;rw[qB];simpa using h
 | cons a l ih=>
  intro m h k
  cases m with
  | nil=>simp at h
  | cons v r=>
   rw[qB];exact⟨v,r,rfl,k 0 a v (by simp) (by simp),ih (by simpa using h) fun i a v h1 h2=>k (i+1) a v (by simpa using h1) (by simpa using h2)⟩
theorem qB.append{μ:Mu}{l l':List zA}:∀ {m m':List Value},qB μ l m->qB μ l' m'->qB μ (l++l') (m++m'):=by
 induction l with
 | nil=>intro m m' h h';rw[qB]at h;subst h;exact h'
 | cons a l ih=>intro m m' h h';rw[qB]at h;obtain⟨v,r,rfl,h2,h3⟩:=h;rw[List.cons_append,qB];exact⟨v,r++m',rfl,h2,ih h3 h'⟩
theorem qB.drop{μ:Mu}{l:List zA}{m:List Value}(h:qB μ l m)(n:Nat):qB μ (l.drop n) (m.drop n):=by
 refine qB.mk (by simp[h.length]) fun i a v h1 h2=>?_
 rw[ycf]at h1 h2;obtain⟨u,hu,hr⟩:=h.get h1
 rw[hu]at h2;cases h2;exact hr
theorem qB.take{μ:Mu}{l:List zA}{m:List Value}(h:qB μ l m)(n:Nat):qB μ (l.take n) (m.take n):=by
 refine qB.mk (by simp[h.length]) fun i a v h1 h2=>?_
 rw[ycg]at h1 h2;split at h1
 ·rename_i hi
  rw[if_pos hi]at h2;obtain⟨u,hu,hr⟩:=h.get h1
  rw[hu]at h2;cases h2;exact hr
 ·cases h1
theorem qB.nil{μ:Mu}:qB μ [] []:=by rw[qB]
theorem qB.cons{μ:Mu}{a:zA}{l:List zA}{v:Value}{m:List Value}(h:sA μ a v)(k:qB μ l m):qB μ (a::l) (v::m):=by rw[qB];exact⟨v,m,rfl,h,k⟩
theorem qB.single{μ:Mu}{a:zA}{v:Value}(h:sA μ a v):qB μ [a] [v]:=.cons h .nil
theorem tS{v:zA}{b:Bool}:v.asBool=some b ↔ v=.bool b:=by cases v<;>simp[zA.asBool]
theorem zag{v:zA}{n:Int}:v.asInt=some n ↔ ∃k,v=.int k n:=by cases v<;>simp[zA.asInt]
theorem nM{v:zA}{p:IntKind × Int}:v.asIntK=some p ↔ v=.int p.1 p.2:=by cases v<;>simp[zA.asIntK,Prod.ext_iff]
theorem tN{v:zA}{l:List Nat}:v.asStr=some l ↔ v=.str l:=by cases v<;>simp[zA.asStr]
theorem nV{v:zA}{p:Nat × Nat}:v.asPtr=some p ↔ v=.ptr p.1 p.2:=by cases v<;>simp[zA.asPtr,Prod.ext_iff]
theorem uS{v:zA}{p:Nat × Nat × Nat × Nat}:v.asSlice=some p ↔ v=.slice p.1 p.2.1 p.2.2.1 p.2.2.2:=by cases v<;>simp[zA.asSlice,Prod.ext_iff]
theorem zaf{v:zA}{b:Nat}:v.asMap=some b ↔ v=.map b:=by cases v<;>simp[zA.asMap]
theorem bW{v:zA}{l:List zA}:v.asAgg=some l ↔ v=.agg l:=by cases v<;>simp[zA.asAgg]
theorem zqe{v:zA}{l:List zA}:v.asTup=some l ↔ v=.tup l:=by cases v<;>simp[zA.asTup]
theorem zdb{v:zA}{p:AFn × List zA × List zA}:v.asFunc=some p ↔ v=.func p.1 p.2.1 p.2.2:=by cases v<;>simp[zA.asFunc,Prod.ext_iff]
theorem zau{v:zA}{p:Nat × zA}:v.asIface=some p ↔ v=.iface p.1 p.2:=by cases v<;>simp[zA.asIface,Prod.ext_iff]
theorem pY{v:zA}{n:Nat}:v.asNat=some n ↔ ∃k,v=.int k (n:Int):=by
 unfold zA.asNat;rw[mA];constructor
 ·rintro⟨a,h1,h2⟩;rw[zag]at h1;obtain⟨k,rfl⟩:=h1;exact⟨k,by rw[sW.1 h2]⟩
 ·rintro⟨k,rfl⟩;exact⟨n,rfl,rfl⟩
theorem tO{v:zA}:(v.tag=3 ↔ v=.nilptr)/\(v.tag=5 ↔ v=.nilslice)/\(v.tag=7 ↔ v=.nilmap)/\(v.tag=10 ↔ v=.nilfunc)/\(v.tag=12 ↔ v=.niliface):=by
 cases v<;>simp[zA.tag]
theorem sA.notAgg{μ:Mu}{a:zA}{v:Value}(h:sA μ a v)(ha:a.asAgg=none):v.cells = #[v]:=by
 cases a<;>rw[sA]at h<;>first
  | (subst h;rfl)
  | (rcases h with⟨_,_,_,rfl,_⟩ | ⟨_,_,_,_,_,rfl,_⟩<;>rfl)
  | (obtain⟨_,rfl,_⟩:=h;rfl)
  | (obtain⟨_,_,rfl⟩:=h;rfl)
  | (obtain⟨_,_,_,rfl,_⟩:=h;rfl)
  | (simp[zA.asAgg]at ha)
theorem sA.one{μ:Mu}{a:zA}{v:Value}(h:sA μ a v)(ha:a.one=true):v.oneCell'=true:=by
 cases a<;>rw[sA]at h<;>first
  | (subst h;rfl)
  | (rcases h with⟨_,_,_,rfl,_⟩ | ⟨_,_,_,_,_,rfl,_⟩<;>rfl)
  | (obtain⟨_,rfl,_⟩:=h;rfl)
  | (obtain⟨_,_,rfl⟩:=h;rfl)
  | (obtain⟨_,_,_,rfl,_⟩:=h;rfl)
  | (revert ha;decide)
  | (have:=pC.1 ha;simp[zA.tag]at this)
theorem sY{μ:Mu}{a:zA}{v:Value}(h:sA μ a v):qB μ a.cells v.cells.toList:=by
 unfold zA.cells
 cases ha:a.asAgg with
 | none=>rw[h.notAgg ha];exact qB.single h
 | some l=>rw[bW.1 ha,sA]at h;obtain⟨cs,rfl,h⟩:=h;exact h
def pL(P:Program)(t:Nat):rE:=
 match P.underlying t with
 | some .bool=>.bool
 | some (.int k)=>.int k
 | some .string=>.string
 | some (.pointer e)=>.ptr e
 | some (.slice e)=>.slice e
 | some (.array n e)=>.arr n e
 | some (.map k e)=>.map k e
 | some (.struct fs)=>.struct (fs.toList.map fun f=>(f.offset,f.type,P.cellsOf f.type))
 | some (.func ..)=>.func
 | some (.interface _)=>.iface
 | _=>.other
def znn:Value->Bool
 | .agg _=>true
 | _=>false
def zxt(P:Program)(t:Nat):Bool:=(P.fieldsOf t).toList.all fun f=>(P.info? f.type).isSome
def tyOf (P:Program)(t:Nat):Option wD:=
 match P.info? t with
 | some i=>match i.zero with
  | some z=>ob (uI oT z.cells.toList) fun l=>sB (bEq (znn z) (pL P t).isAgg&&(P.underlying t).isSome&&zxt P t)
    (some ⟨pL P t, i.size, i.bytes, l, !P.stoodInHeld t && !P.eqGuardType P.depth t && (P.fieldsOf t).toList.all (fun f => f.name != "_")⟩)
  | none=>none
 | none=>none
def fF(P:Program)(C:iA):Prop:=∀t ty,C.tys.get t=some ty->tyOf P t=some ty
theorem rY{a b:ByteArray}(h:uE a=uE b):a=b:=by
 have h1:a.data.toList=b.data.toList:=by
  unfold uE at h;exact(List.map_inj_right (fun x y hxy=>UInt8.toNat_inj.1 hxy)).1 h
 have h2:a.data=b.data:=Array.toList_inj.1 h1
 cases a;cases b;simpa using h2
theorem zao{μ:Mu}{v:Value}{a:zA}(h:oT v=some a):sA μ a v/\a.one=true:=by
 unfold oT at h;split at h<;>cases h<;>refine⟨?_,rfl⟩<;>rw[sA]
 exact⟨_,rfl,rfl⟩
theorem jZ{μ:Mu}{m:List Value}:∀ {l:List zA},uI oT m=some l->qB μ l m:=by
 induction m with
 | nil=>intro l h;rw[qW]at h;cases h;exact qB.nil
 | cons v m ih=>
  intro l h;rw[oO,mA]at h;obtain⟨a,ha,h⟩:=h
  rw[mA]at h;obtain⟨r,hr,h⟩:=h
  cases h;exact .cons (zao ha).1 (ih hr)
theorem zkh{μ:Mu}{v:Value}{a:zA}(h:zki v=some a):sA μ a v:=by
 unfold zki at h;split at h
 ·rename_i cs hc
  rw[mA]at h;obtain⟨l,hl,h⟩:=h
  cases h
  cases v<;>simp[z2m]at hc
  subst hc;rw[sA];exact⟨_,rfl,jZ hl⟩
 ·exact(zao h).1
structure sJ (P:Program) (t:Nat) (ty:wD):Prop where
 info:∃i,P.info? t=some i/\i.size=ty.size/\i.bytes=ty.bytes/\∃z,i.zero=some z/\uI oT z.cells.toList=some ty.zero/\znn z=ty.desc.isAgg
 desc:pL P t=ty.desc
 und:∃d,P.underlying t=some d
 fields:∀f∈(P.fieldsOf t).toList,∃i,P.info? f.type=some i
 eqOk : ty.eqOk = true -> P.stoodInHeld t = false /\ P.eqGuardType P.depth t = false /\ ∀ f ∈ (P.fieldsOf t).toList, f.name ≠ "_"
theorem zoq{P:Program}{t:Nat}{ty:wD}(h:tyOf P t=some ty):sJ P t ty:=by
 unfold tyOf at h;split at h
 ·rename_i i hi
  split at h
  ·rename_i z hz
   rw[mA]at h;obtain⟨l,hl,h⟩:=h
   rw[mB]at h;obtain⟨hb,h⟩:=h
   cases h;rw[yac,yac]at hb;refine⟨⟨i,hi,rfl,rfl,z,hz,hl,?_⟩,rfl,Option.isSome_iff_exists.1 hb.1.2,fun f hf=>Option.isSome_iff_exists.1 (ybc.1 hb.2 f hf),fun h=>?_⟩
   ·have:=hb.1.1;rw[vS]at this;simpa using this
   ·simp only[yac,ybq,ybc,bne_iff_ne]at h;exact⟨h.1.1,h.1.2,h.2⟩
  ·cases h
 ·cases h
theorem fF.facts{P:Program}{C:iA}(h:fF P C){t:Nat}{ty:wD}(k:C.tys.get t=some ty):sJ P t ty:=zoq (h t ty k)
section
variable {P:Program}{w:World}{t:Nat}{ty:wD}
theorem uT{i:TypeInfo}(h:P.info? t=some i):(typeInfo t).run P w=.ok i w:=by
 simp[typeInfo,h]
theorem dE{d:TypeDesc}(h:P.underlying t=some d):(underlying t).run P w=.ok d w:=by
 simp[underlying,h]
theorem sJ.size(h:sJ P t ty):(sizeOf t).run P w=.ok ty.size w:=by
 obtain⟨i,h1,h2,_⟩:=h.info
 simp[sizeOf,uT h1,h2]
theorem sJ.zero(h:sJ P t ty){μ:Mu}:∃z,(∀w,(zeroValue t).run P w=.ok z w)/\sA μ (xP ty) z/\qB μ ty.zero z.cells.toList:=by
 obtain⟨i,h1,_,_,z,h2,h3,h4⟩:=h.info
 have hl:qB μ ty.zero z.cells.toList:=jZ h3
 refine⟨z,fun w=>by simp[zeroValue,uT h1,h2],?_,hl⟩
 unfold xP
 cases hd:ty.desc.isAgg with
 | true=>
  rw[hd]at h4
  cases z<;>simp[znn]at h4
  show sA μ (.agg ty.zero) _
  rw[sA];exact⟨_,rfl,hl⟩
 | false=>
  rw[hd]at h4;have hc:z.cells = #[z]:=by cases z<;>first | rfl | simp[znn]at h4
  rw[hc]at hl
  cases hz:ty.zero with
  | nil=>rw[hz,qB]at hl;simp at hl
  | cons a l=>rw[hz,qB]at hl;obtain⟨v,r,hv,hr,_⟩:=hl;simp at hv;rw[<- hv.1]at hr;exact hr
theorem sJ.isAgg(h:sJ P t ty):(Go.isAgg t).run P w=.ok ty.desc.isAgg w:=by
 obtain⟨d,hd⟩:=h.und
 have h0:=h.desc
 unfold pL at h0;rw[hd]at h0;unfold Go.isAgg;rw[Sem.run_bind,dE hd,Result.andThen_ok,<- h0]
 cases d<;>rfl
theorem wY(h:sJ P t ty){fs:List (Nat × Nat × Nat)}(k:ty.desc.asStruct=some fs):∃g,P.underlying t=some (.struct g)/\fs=g.toList.map fun f=>(f.offset,f.type,P.cellsOf f.type):=by
 obtain⟨d,hd⟩:=h.und
 have h0:=h.desc
 unfold pL at h0;rw[hd]at h0;rw[<- h0]at k
 cases d<;>simp[rE.asStruct]at k
 exact⟨_,hd,k.symm⟩
theorem xN(h:sJ P t ty){e:Nat}(k:ty.desc.asSlice=some e):P.underlying t=some (.slice e):=by
 obtain⟨d,hd⟩:=h.und
 have h0:=h.desc
 unfold pL at h0;rw[hd]at h0;rw[<- h0]at k
 cases d<;>simp[rE.asSlice]at k
 rw[hd,k]
theorem zbb(h:sJ P t ty){p:Nat × Nat}(k:ty.desc.asArr=some p):P.underlying t=some (.array p.1 p.2):=by
 obtain⟨d,hd⟩:=h.und
 have h0:=h.desc
 unfold pL at h0;rw[hd]at h0;rw[<- h0]at k
 cases d<;>simp[rE.asArr]at k
 rw[hd,<- k]
theorem zn8(h:sJ P t ty){p:Nat × Nat}(k:ty.desc.asMap=some p):P.underlying t=some (.map p.1 p.2):=by
 obtain⟨d,hd⟩:=h.und
 have h0:=h.desc
 unfold pL at h0;rw[hd]at h0;rw[<- h0]at k
 cases d<;>simp[rE.asMap]at k
 rw[hd,<- k]
theorem zgo(h:sJ P t ty){k:IntKind}(e:ty.desc.asInt=some k):P.underlying t=some (.int k):=by
 obtain⟨d,hd⟩:=h.und
 have h0:=h.desc
 unfold pL at h0;rw[hd]at h0;rw[<- h0]at e
 cases d<;>simp[rE.asInt]at e
 rw[hd,e]
theorem vY(h:sJ P t ty)(e:ty.desc.isString=true):P.underlying t=some .string:=by
 obtain⟨d,hd⟩:=h.und
 have h0:=h.desc
 unfold pL at h0;rw[hd]at h0;rw[<- h0]at e
 cases d<;>simp[rE.isString,rE.tag,Nat.beq]at e
 exact hd
theorem eZ(h:sJ P t ty)(e:Nat.blt ty.desc.tag 9=true):∃d,P.underlying t=some d/\∀ms,d≠.interface ms:=by
 obtain⟨d,hd⟩:=h.und
 refine⟨d,hd,fun ms hm=>?_⟩
 subst hm;have h0:=h.desc
 unfold pL at h0;rw[hd]at h0;rw[<- h0]at e;exact absurd (pC.1 e) (by simp[rE.tag])
end
structure wR (μ:Mu) (d:zly) (e:Deferred):Prop where
 rel:match d.fn with
  | none=>∃i,μ d.r=some i/\e={ target:=.collected i.b,args := #[] }
  | some f=>∃fn cap as,e={ target:=.fn fn cap,args:=as }/\zqi μ f fn/\qB μ d.args (as++cap).toList
def tE(μ:Mu)(n:Nat)(tm:Tm)(tmps:Array Value):Prop:=tmps.size=n/\∀i v,tm.get i=some v->sA μ v (tmps.getD i undef)
structure zdf (μ:Mu) (l:zqj) (r:Loop):Prop where
 state:r.state=l.state
 pending:r.pending=l.pending
 fn:r.fn=l.fn
 tm:tE μ l.n l.tm r.tmps
 params:r.params.toList=l.params
 assign:r.assign=l.assign
 body:r.body=l.body
 defers:∃i,μ l.defers=some i/\r.defers=i.b
inductive bC {α β:Type} (R:α->β->Prop):List α->List β->Prop
 | nil:bC R [] []
 | cons {a b l m}:R a b->bC R l m->bC R (a::l) (b::m)
def kH (μ:Mu)(i:BI):lA->Obj->Prop
 | .cells c n loose,o=>∃cs elem fr,o=.cells cs elem fr/\n<=cs.size/\(i.ro=true\/fr.2<=fr.1\/cs.size<=fr.1)/\(∀(j:Nat) v,c.get j=some v->j<n/\∃v',cs[j]?=some v'/\sA μ v v') ∧
   (match loose with | none=>i.tight=true | some es=>i.tight=false/\i.es=es/\i.room=cs.size/\n%es=0)
 | .map l,o=>∃es clock,o=.map es clock/\bC (fun p e=>sA μ p.1 e.key/\sA μ p.2 e.val) l es.toList
 | .loop l,o=>∃r,o=.loop r/\zdf μ l r
 | .deferred l,o=>∃l',o=.deferred l'/\(match l,l' with | none,none=>True | some a,some b=>bC (wR μ) a b | _,_=>False)
 | .siter s pos,o=>∃s',o=.stringIter s' pos/\uE s'=s
structure pB (B N:Nat) (μ:Mu) (H:rA) (w:World):Prop where
 base:256<=B
 glob:∀g,g<256->μ g=some ⟨g,true,0,0,true⟩
 low:∀a x i,a<B->H.t.get a=some x->μ a=some i->i.b<N/\x.asLoop=none/\x.asDeferred=none
 next:B<=H.next
 size:N<=w.heap.size
 fresh:∀a,H.next<=a->μ a=none/\H.t.get a=none
 blk:∀a x i,H.t.get a=some x->μ a=some i->∃o,w.heap[i.b]?=some o/\kH μ i x o
 own:∀a i,B<=a->μ a=some i->N<=i.b/\i.b<w.heap.size/\i.ro=false
 inj:∀a b x y i j,H.t.get a=some x->H.t.get b=some y->μ a=some i->μ b=some j->B<=a->B<=b->i.b=j.b->a=b
 pnd:∀a x t,μ.pd a=some (x,t)->μ a=none/\H.t.get a=some x/\B<=a
end Go.Am
namespace Go.Am
open Go
def tF (μ:Mu)(e:xD)(ρ:Operand->Value):Prop:=∀x v,ev x e=some v->sA μ v (ρ x)
theorem tF.many{μ:Mu}{e:xD}{ρ:Operand->Value}(h:tF μ e ρ):∀ {l:List Operand} {r:List zA},evs l e=some r->qB μ r (l.map ρ):=by
 intro l;induction l with
 | nil=>intro r k;unfold evs at k;rw[qW]at k;cases k;exact .nil
 | cons x l ih=>
  intro r k;unfold evs at k;rw[oO,mA]at k;obtain⟨a,ha,k⟩:=k
  rw[mA]at k;obtain⟨b,hb,k⟩:=k
  cases k
  exact .cons (h _ _ ha) (ih hb)
theorem tF.parts{μ:Mu}{e:xD}{ρ:Operand->Value}(h:tF μ e ρ):∀ {l:List (Nat × Operand)} {r:List (Nat × zA)},evp l e=some r →
  bC (fun p q=>p.1=q.1/\sA μ p.2 q.2) r (l.map fun x=>(x.1,ρ x.2)):=by
 intro l;induction l with
 | nil=>intro r k;unfold evp at k;rw[qW]at k;cases k;exact .nil
 | cons x l ih=>
  intro r k;unfold evp at k;rw[oO,mA]at k;obtain⟨a,ha,k⟩:=k
  rw[mA]at ha;obtain⟨a',ha,ha'⟩:=ha
  cases ha'
  rw[mA]at k;obtain⟨b,hb,k⟩:=k
  cases k
  exact .cons ⟨rfl,h _ _ ha⟩ (ih hb)
def zw0(μ:Mu):Option zA->Option Value->Prop
 | none,none=>True
 | some a,some v=>sA μ a v
 | _,_=>False
theorem tF.opt{μ:Mu}{e:xD}{ρ:Operand->Value}(h:tF μ e ρ){x:Option Operand}{r:Option zA}(k:evo x e=some r):zw0 μ r (x.map ρ):=by
 cases x with
 | none=>cases k;trivial
 | some x=>unfold evo at k;simp only[]at k;rw[mA]at k;obtain⟨a,ha,k⟩:=k;cases k;exact h _ _ ha
theorem yR(b off n:Nat):Addr.add ⟨b,off,none⟩ n=⟨b,off+n,none⟩:=by
 unfold Addr.add;split
 ·rename_i h;subst h;rfl
 ·rfl
section
variable {P:Program}{C:iA}{B N:Nat}{μ:Mu}{H:rA}{w:World}
theorem oV{b:Nat}{p:Tr zA × Nat × Option Nat}(h:oD H b=some p):H.t.get b=some (.cells p.1 p.2.1 p.2.2):=by
 unfold oD at h;rw[mA]at h;obtain⟨x,hx,h⟩:=h
 cases x<;>simp[lA.asCells]at h
 subst h;exact hx
theorem pB.cellAt(hH:pB B N μ H w){b:Nat}{p:Tr zA × Nat × Option Nat}(h:oD H b=some p){i:BI}(hi:μ b=some i){j:Nat}{v:zA}(hv:p.1.get j=some v) :
  ∃v',w.cell? ⟨i.b,j,none⟩=some v'/\sA μ v v':=by
 obtain⟨o,h2,h3⟩:=hH.blk _ _ _ (oV h) hi
 obtain⟨cs,elem,fr,rfl,_,_,h4,_⟩:=h3
 obtain⟨_,v',h6,h7⟩:=h4 j v hv
 exact⟨v',by simp[World.cell?,h2,h6],h7⟩
theorem pB.manyAt(hH:pB B N μ H w){b:Nat}{p:Tr zA × Nat × Option Nat}(h:oD H b=some p){i:BI}(hi:μ b=some i){n off:Nat}{l:List zA}(hl:p.1.many n off=some l) :
  ∃vs:List Value,vs.length=n/\qB μ l vs/\(loadCells ⟨i.b,off,none⟩ n).run P w=.ok vs.toArray w/\∀j,j<n->w.cell? ⟨i.b,off+j,none⟩=vs[j]?:=by
 obtain⟨h1,h2⟩:=Tr.many_some _ _ _ _ hl
 have key:∀j,j<n->∃v',w.cell? ⟨i.b,off+j,none⟩=some v'/\∃a,l[j]?=some a/\sA μ a v':=by
  intro j hj;have h3:=h2 j hj
  cases hlj:l[j]? with
  | none=>rw[List.getElem?_eq_none_iff]at hlj;omega
  | some a=>
   rw[hlj]at h3;obtain⟨v',h4,h5⟩:=hH.cellAt h hi h3
   exact⟨v',h4,a,rfl,h5⟩
 let f:Nat->Value:=fun j=>(w.cell? ⟨i.b,off+j,none⟩).getD undef
 have hf:∀j,j<n->w.cell? ⟨i.b,off+j,none⟩=some (f j):=by
  intro j hj;obtain⟨v',h3,_⟩:=key j hj
  simp[f,h3]
 refine⟨(List.range n).map f,by simp,?_,?_,?_⟩
 ·refine qB.mk (by simp[h1]) fun j a v ha hv=>?_
  have hj:j<n:=by rw[<- h1];exact(yad.1 ha).1
  obtain⟨v',h3,a',h4,h5⟩:=key j hj
  rw[ha]at h4;cases h4;rw[yav,List.getElem?_range hj]at hv;have h6:=hf j hj
  rw[h3]at h6;cases h6;simp at hv;rw[<- hv];exact h5
 ·exact run_loadCells w _ n f fun j hj=>by rw[yR];exact hf j hj
 ·intro j hj;rw[hf j hj,yav,List.getElem?_range hj];rfl
theorem znd(hH:pB B N μ H w){t:Nat}{ty:wD}(hty:sJ P t ty){b:Nat}{p:Tr zA × Nat × Option Nat}(h:oD H b=some p){i:BI}(hi:μ b=some i){off:Nat}{v:zA}
  (hv:cM ty p.1 off=some v):∃v',(loadVar t ⟨i.b,off,none⟩).run P w=.ok v' w/\sA μ v v':=by
 unfold cM at hv;unfold loadVar;rw[Sem.run_bind,hty.isAgg,Result.andThen_ok]
 cases ha:ty.desc.isAgg with
 | true=>
  rw[ha,cond_true,mA]at hv;obtain⟨l,hl,hv⟩:=hv
  cases hv;obtain⟨vs,_,h2,h3,_⟩:=hH.manyAt (P:=P) h hi hl
  refine⟨.agg vs.toArray,?_,by rw[sA];exact⟨_,rfl,h2⟩⟩
  rw[if_pos rfl,Sem.run_bind,hty.size,Result.andThen_ok,Sem.run_bind,h3];rfl
 | false=>
  rw[ha,cond_false]at hv;obtain⟨v',h1,h2⟩:=hH.cellAt h hi hv
  refine⟨v',?_,h2⟩
  rw[if_neg (by simp),run_load,h1]
theorem za3(hT:fF P C){t:Nat}{l:List zA}{cs:Array Value}(hl:qB μ l cs.toList){off:Nat}{v:zA}(hv:lN C t l off=some v) :
  ∃v',(part t cs off).run P w=.ok v' w/\sA μ v v':=by
 unfold lN at hv;rw[mA]at hv;obtain⟨ty,hty,hv⟩:=hv
 have hF:=hT.facts hty
 unfold part;rw[Sem.run_bind,hF.isAgg,Result.andThen_ok]
 cases ha:ty.desc.isAgg with
 | true=>
  rw[ha,cond_true]at hv
  cases hv;refine⟨.agg (cs.extract off (off+ty.size)),?_,?_⟩
  ·rw[if_pos rfl,Sem.run_bind,hF.size];rfl
  ·rw[sA];refine⟨_,rfl,?_⟩
   rw[jT,lO,Array.toList_extract,List.extract_eq_take_drop,Nat.add_sub_cancel_left];exact(hl.drop _).take _
 | false=>
  rw[ha,cond_false,dD]at hv;obtain⟨v',h1,h2⟩:=hl.get hv
  refine⟨v',?_,h2⟩
  rw[if_neg (by simp)]
  have:cs[off]?=some v':=by simpa using h1
  rw[this];rfl
def LOk (P:Program)(μ:Mu)(w:World)(ρ:Operand->Value)(o:Oper)(v:zA):Prop:=∃v',(execOp ρ o).run P w=.ok (.value v') w/\sA μ v v'
variable {e:xD}{ρ:Operand->Value}{dst:Option Tmp}{type:TypeId}{pos:String}{after:Array Edge}{guard:Option (Nat × Bool)}{v:zA}
theorem zng(hE:tF μ e ρ){x:Operand}(h:zpp x C e H=some v):LOk P μ w ρ ⟨dst,.move x,type,pos,after,guard⟩ v:=⟨ρ x,rfl,hE x v h⟩
theorem zel(hE:tF μ e ρ){x:Operand}(h:zpp x C e H=some v):LOk P μ w ρ ⟨dst,.assign x,type,pos,after,guard⟩ v:=⟨ρ x,rfl,hE x v h⟩
theorem znf(hE:tF μ e ρ){c a b:Operand}(h:zum c a b C e H=some v):LOk P μ w ρ ⟨dst,.pick c a b,type,pos,after,guard⟩ v:=by
 unfold zum at h;rw[mA]at h;obtain⟨cv,hc,h⟩:=h
 rw[mA]at h;obtain⟨cb,hb,h⟩:=h
 have h1:=hE _ _ hc
 rw[tS.1 hb,sA]at h1;unfold LOk execOp;simp only[h1,asBool]
 cases cb with
 | true=>exact⟨ρ a,rfl,hE _ _ h⟩
 | false=>exact⟨ρ b,rfl,hE _ _ h⟩
theorem znh(hT:fF P C)(hH:pB B N μ H w)(hE:tF μ e ρ){t:Nat}{a:Operand}(h:bM t a C e H=some v):LOk P μ w ρ ⟨dst,.load t a,type,pos,after,guard⟩ v:=by
 unfold bM at h;simp only[mA,nV]at h;obtain⟨av,ha,p,rfl,ty,hty,c,hc,h⟩:=h
 have h1:=hE _ _ ha
 rw[sA]at h1;obtain⟨i,hi,hv⟩:=h1
 obtain⟨v',h2,h3⟩:=znd (P:=P) hH (hT.facts hty) hc hi h
 refine⟨v',?_,h3⟩
 simp only[execOp,Instr.loadAt,hv,Instr.sureAddr,Sem.run_bind,Sem.run_pure,Result.andThen_ok,h2]
theorem zun(hE:tF μ e ρ){x:Operand}(h:zza x C e H=some v):LOk P μ w ρ ⟨dst,.nilCheck x,type,pos,after,guard⟩ v:=by
 unfold zza at h;rw[mA]at h;obtain⟨a,ha,h⟩:=h
 rw[mB]at h;obtain⟨hb,h⟩:=h
 cases h;have h1:=hE _ _ ha
 refine⟨ρ x,?_,h1⟩
 cases v<;>simp[zA.tag,Nat.beq]at hb
 ·rw[sA]at h1
  obtain⟨i,_,hv⟩:=h1
  simp only[execOp,hv];rfl
 ·rename_i fn a b
  rw[sA]at h1;obtain⟨fn',a',c',hv,hf,_⟩:=h1
  cases fn with
  | func f=>cases hf;simp only[execOp,hv];rfl
  | yld l=>obtain⟨i,_,rfl⟩:=hf;simp only[execOp,hv];rfl
theorem znj(hE:tF μ e ρ){fn:Fn}{a b:Array Operand}(h:(jR fn a b).f C e H=some v):LOk P μ w ρ ⟨dst,.makeFunc fn a b,type,pos,after,guard⟩ v:=by
 unfold jR at h;split at h
 ·rename_i f
  simp only[zuv,mA]at h;obtain⟨as,ha,bs,hb,h⟩:=h
  cases h;refine⟨.func (.func f) (a.map ρ) (b.map ρ),rfl,?_⟩
  rw[sA];exact⟨_,_,_,rfl,rfl,by simpa using hE.many ha,by simpa using hE.many hb⟩
 ·cases h
theorem zic(hT:fF P C)(hE:tF μ e ρ){t:Nat}{x:Operand}(h:kR t x C e H=some v):LOk P μ w ρ ⟨dst,.makeInterface t x,type,pos,after,guard⟩ v:=by
 unfold kR at h;simp only[mA,mB]at h;obtain⟨ty,hty,hb,a,ha,h⟩:=h
 cases h;obtain⟨d,hd,hn⟩:=eZ (hT.facts hty) hb
 refine⟨.iface t (ρ x),?_,by rw[sA];exact⟨_,rfl,hE _ _ ha⟩⟩
 simp only[execOp,Instr.makeInterface,Sem.run_bind,dE hd,Result.andThen_ok]
 cases d<;>first | rfl | exact absurd rfl (hn _)
theorem zcl(hE:tF μ e ρ){t:Operand}{i:Nat}(h:gO t i C e H=some v):LOk P μ w ρ ⟨dst,.extract t i,type,pos,after,guard⟩ v:=by
 unfold gO at h;simp only[mA,zqe,dD]at h;obtain⟨a,ha,l,rfl,h⟩:=h
 have h1:=hE _ _ ha
 rw[sA]at h1;obtain⟨cs,hv,hl⟩:=h1
 obtain⟨v',h2,h3⟩:=hl.get h
 refine⟨v',?_,h3⟩
 have h4:cs[i]?=some v':=by simpa using h2
 simp only[execOp,hv,Instr.extract,h4];rfl
theorem zid(hT:fF P C)(hE:tF μ e ρ){t:Nat}{x:Operand}{f:Nat}(h:iR t x f C e H=some v):LOk P μ w ρ ⟨dst,.field t x f,type,pos,after,guard⟩ v:=by
 unfold iR at h;simp only[mA,bW,dD]at h;obtain⟨ty,hty,fs,hfs,fd,hfd,a,ha,l,rfl,h⟩:=h
 obtain⟨g,hg,rfl⟩:=wY (hT.facts hty) hfs
 have h1:=hE _ _ ha
 rw[sA]at h1;obtain⟨cs,hv,hl⟩:=h1
 rw[yav]at hfd
 cases hgf:g.toList[f]? with
 | none=>rw[hgf]at hfd;cases hfd
 | some fld=>
  rw[hgf]at hfd;simp at hfd;subst hfd;obtain⟨v',h2,h3⟩:=za3 (w:=w) hT hl h
  refine⟨v',?_,h3⟩
  have h4:g[f]?=some fld:=by simpa using hgf
  simp only[execOp,hv,Instr.field,Sem.run_bind,dE hg,Result.andThen_ok,h4,asAgg,Sem.run_pure,h2]
theorem gZ(hT:fF P C)(hE:tF μ e ρ){s:Nat}{x:Operand}{f:Nat}(h:hO s x f C e H=some v):LOk P μ w ρ ⟨dst,.fieldAddr s x f,type,pos,after,guard⟩ v:=by
 unfold hO at h;simp only[mA,nV,dD,mB]at h;obtain⟨ty,hty,fs,hfs,fd,hfd,hz,a,ha,p,rfl,h⟩:=h
 cases h;obtain⟨g,hg,rfl⟩:=wY (hT.facts hty) hfs
 have h1:=hE _ _ ha
 rw[sA]at h1;obtain⟨i,hi,hv⟩:=h1
 rw[yav]at hfd
 cases hgf:g.toList[f]? with
 | none=>rw[hgf]at hfd;cases hfd
 | some fld=>
  rw[hgf]at hfd;simp at hfd;subst hfd;refine⟨.pointer (some ⟨i.b,p.2+fld.offset,none⟩),?_,by rw[sA];exact⟨i,hi,rfl⟩⟩
  have h4:g[f]?=some fld:=by simpa using hgf
  have h5:P.cellsOf fld.type≠0:=by
   have h6:Nat.beq (P.cellsOf fld.type) 0=false:=by simpa using hz
   exact beqf.1 h6
  have h6:(sizeOf fld.type).run P w=.ok (P.cellsOf fld.type) w:=by
   unfold Program.cellsOf at h5 ⊢
   cases hinf:P.info? fld.type with
   | none=>rw[hinf]at h5;exact absurd rfl h5
   | some inf=>simp[sizeOf,uT hinf]
  simp only[execOp,hv,Instr.fieldAt,Sem.run_bind,dE hg,Result.andThen_ok,h4,Instr.sureAddr,Sem.run_pure,fieldPlace,h6,Sem.run_ite,if_neg h5,yR]
end
end Go.Am
namespace Go.Am
open Go
section
variable {P:Program}{C:iA}{B N:Nat}{μ:Mu}{H:rA}{w:World}
variable {e:xD}{ρ:Operand->Value}{dst:Option Tmp}{type:TypeId}{pos:String}{after:Array Edge}{guard:Option (Nat × Bool)}{v:zA}
theorem zU{k:IntKind}{n:Nat}(h:n<kG k):k.wrap (n:Int)=n:=by
 rw[<- bJ];show(bif Nat.blt n (kG k)then Int.ofNat n else _)=_
 rw[jC,if_pos (pC.2 h)];rfl
theorem zkr(k:IntKind):∃m,kG k=2^m/\m<=k.bits:=by
 cases k
 ·exact⟨7,rfl,by decide⟩
 ·exact⟨15,rfl,by decide⟩
 ·exact⟨31,rfl,by decide⟩
 ·exact⟨63,rfl,by decide⟩
 ·exact⟨8,rfl,by decide⟩
 ·exact⟨16,rfl,by decide⟩
 ·exact⟨32,rfl,by decide⟩
 ·exact⟨64,rfl,by decide⟩
theorem xS{k:IntKind}{n:Nat}(h:n<kG k):(BitVec.ofInt k.bits (n:Int)).toNat=n:=by
 obtain⟨m,hm,hle⟩:=zkr k
 rw[BitVec.toNat_ofInt];have:n<2^k.bits:=Nat.lt_of_lt_of_le (hm ▸ h) (Nat.pow_le_pow_right (by omega) hle)
 rw[<- Int.natCast_emod,Int.toNat_natCast,Nat.mod_eq_of_lt this]
theorem bX{f:Nat->Nat->Nat}{k:IntKind}{a b:Int}{v:zA}(h:qH f k a b=some v):∃x y:Nat,a=x/\b=y/\x<kG k/\y<kG k/\v=.int k (f x y:Nat):=by
 unfold qH at h;simp only[mA,sW,mB,yac,pC]at h;obtain⟨x,rfl,y,rfl,⟨h1,h2⟩,h⟩:=h
 cases h;exact⟨x,y,rfl,rfl,h1,h2,rfl⟩
theorem zwm{op:BinOp}{k:IntKind}{a b:Int}(h:(zwn op).f k a b=some v):op≠.shl/\op≠.shr/\∀t,∃v',(binOp op t (.int k a) (.int k b)).run P w=.ok v' w/\sA μ v v':=by
 cases op<;>simp only[zwn]at h
 case add=>cases h;exact⟨by simp,by simp,fun t=>⟨.int k (k.wrap (a+b)),by simp[binOp,Op.intArith],by rw[sA,bJ]⟩⟩
 case sub=>cases h;exact⟨by simp,by simp,fun t=>⟨.int k (k.wrap (a-b)),by simp[binOp,Op.intArith],by rw[sA,bJ]⟩⟩
 case mul=>cases h;exact⟨by simp,by simp,fun t=>⟨.int k (k.wrap (a*b)),by simp[binOp,Op.intArith],by rw[sA,bJ]⟩⟩
 case quo=>
  unfold zzk at h;simp only[jC,iP]at h;split at h
  ·cases h
  ·rename_i hb;cases h
   refine⟨by simp,by simp,fun t=>⟨.int k (k.wrap (a.tdiv b)),?_,by rw[sA,bJ]⟩⟩
   simp[binOp,Op.intDiv,hb]
 case rem=>
  unfold zqn at h;simp only[jC,iP]at h;split at h
  ·cases h
  ·rename_i hb;cases h
   refine⟨by simp,by simp,fun t=>⟨.int k (a.tmod b),?_,by rw[sA]⟩⟩
   simp[binOp,Op.intDiv,hb]
 case and=>
  obtain⟨x,y,rfl,rfl,hx,hy,rfl⟩:=bX h
  refine⟨by simp,by simp,fun t=>⟨.int k ((x &&& y:Nat):Int),?_,by rw[sA];rfl⟩⟩
  have h1:x &&& y<kG k:=Nat.lt_of_le_of_lt Nat.and_le_left hx
  simp only[binOp,Op.intBits,BitVec.toNat_and,xS hx,xS hy,zU h1];simp
 case or=>
  obtain⟨x,y,rfl,rfl,hx,hy,rfl⟩:=bX h
  obtain⟨m,hm,_⟩:=zkr k
  refine⟨by simp,by simp,fun t=>⟨.int k ((x ||| y:Nat):Int),?_,by rw[sA];rfl⟩⟩
  have h1:x ||| y<kG k:=by rw[hm];exact Nat.or_lt_two_pow (hm ▸ hx) (hm ▸ hy)
  simp only[binOp,Op.intBits,BitVec.toNat_or,xS hx,xS hy,zU h1];simp
 case xor=>
  obtain⟨x,y,rfl,rfl,hx,hy,rfl⟩:=bX h
  obtain⟨m,hm,_⟩:=zkr k
  refine⟨by simp,by simp,fun t=>⟨.int k ((x ^^^ y:Nat):Int),?_,by rw[sA];rfl⟩⟩
  have h1:x ^^^ y<kG k:=by rw[hm];exact Nat.xor_lt_two_pow (hm ▸ hx) (hm ▸ hy)
  simp only[binOp,Op.intBits,BitVec.toNat_xor,xS hx,xS hy,zU h1];simp
 case eql=>cases h;exact⟨by simp,by simp,fun t=>⟨.bool (a == b),by simp[binOp,Op.intCmp],by rw[sA,zcq]⟩⟩
 case neq=>cases h;exact⟨by simp,by simp,fun t=>⟨.bool (a != b),by simp[binOp,Op.intCmp],by rw[sA,zcq];rfl⟩⟩
 case lss=>cases h;exact⟨by simp,by simp,fun t=>⟨.bool (a<b),by simp[binOp,Op.intCmp],by rw[sA,z2f]⟩⟩
 case leq=>cases h;exact⟨by simp,by simp,fun t=>⟨.bool (a<=b),by simp[binOp,Op.intCmp],by rw[sA,z2g]⟩⟩
 case gtr=>cases h;exact⟨by simp,by simp,fun t=>⟨.bool (a > b),by simp[binOp,Op.intCmp],by rw[sA,z2f]⟩⟩
 case geq=>cases h;exact⟨by simp,by simp,fun t=>⟨.bool (a>=b),by simp[binOp,Op.intCmp],by rw[sA,z2g]⟩⟩
 all_goals cases h
theorem cT(s:ByteArray):(uE s).length=s.size:=by simp[uE]
theorem zgp(a b:ByteArray):uE (a++b)=uE a++uE b:=by simp[uE]
theorem zqc(s:ByteArray)(i:Nat):(uE s)[i]?=(s[i]?).map UInt8.toNat:=by
 unfold uE;rw[yav];congr 1
 by_cases h:i<s.size
 ·rw[getElem?_pos s i h]
  simp[ByteArray.getElem_eq_getElem_data]
 ·rw[getElem?_neg s i h]
  simp;exact Nat.le_of_not_lt h
theorem cZ(s:ByteArray)(l h:Nat):uE (s.extract l h)=((uE s).take h).drop l:=by
 unfold uE;rw[ByteArray.data_extract,Array.toList_extract,List.extract_eq_take_drop,<- List.map_take,<- List.map_drop,List.drop_take]
theorem zi3{a b:ByteArray}:(a.toList == b.toList)=(uK (uE a) (uE b)):=by
 rw[Lib.toList_data,Lib.toList_data,Bool.eq_iff_iff,zO];constructor
 ·intro h;simp at h;unfold uE;rw[h]
 ·intro h;rw[rY h];simp
theorem zpo(a:List UInt8):∀b:List UInt8,Op.bytesLess a b=zkq (a.map UInt8.toNat) (b.map UInt8.toNat):=by
 induction a with
 | nil=>intro b;cases b<;>rfl
 | cons x a ih=>
  intro b
  cases b with
  | nil=>rfl
  | cons y b=>
   show _=(bif Nat.blt x.toNat y.toNat then true else bif Nat.beq x.toNat y.toNat then zkq (a.map UInt8.toNat) (b.map UInt8.toNat)else false)
   rw[Op.bytesLess,ih,jC,jC];by_cases h:x<y
   ·have:Nat.blt x.toNat y.toNat=true:=pC.2 (by exact UInt8.lt_iff_toNat_lt.1 h)
    rw[if_pos this];simp[h]
   ·have h1:¬ Nat.blt x.toNat y.toNat=true:=fun k=>h (UInt8.lt_iff_toNat_lt.2 (pC.1 k))
    rw[if_neg h1];by_cases he:x=y
    ·subst he;rw[if_pos (Nat.beq_refl _)];simp[h]
    ·have h2:¬ Nat.beq x.toNat y.toNat=true:=fun k=>he (UInt8.toNat_inj.1 (aB.1 k))
     rw[if_neg h2];simp[h,he]
theorem zwj{op:BinOp}{a b:ByteArray}(h:(zwk op).f (uE a) (uE b)=some v):op≠.shl/\op≠.shr/\∀t,∃v',(binOp op t (.string a) (.string b)).run P w=.ok v' w/\sA μ v v':=by
 cases op<;>simp only[zwk]at h
 case add=>
  simp only[zs0,mB,pC,xE,fH,cT]at h;obtain⟨h1,h⟩:=h
  cases h;refine⟨by simp,by simp,fun t=>⟨.string (a++b),?_,by rw[sA];exact⟨_,rfl,zgp a b⟩⟩⟩
  have h2:¬ (((a.size+b.size:Nat):Int) > IntKind.i64.max):=by
   have:IntKind.i64.max=9223372036854775807:=by decide
   rw[this];omega
  simp only[binOp,Op.stringOp,if_neg h2];rfl
 case eql=>cases h;exact⟨by simp,by simp,fun t=>⟨.bool (a.toList == b.toList),rfl,by rw[sA,zi3]⟩⟩
 case neq=>cases h;exact⟨by simp,by simp,fun t=>⟨.bool !(a.toList == b.toList),rfl,by rw[sA,zi3]⟩⟩
 case lss=>cases h;exact⟨by simp,by simp,fun t=>⟨.bool (Op.bytesLess a.toList b.toList),rfl,by rw[sA,Lib.toList_data,Lib.toList_data,zpo];rfl⟩⟩
 all_goals cases h
theorem jW{op:BinOp}{t:TypeId}{x y:Operand}{a b:Value}(h1:¬ (a=.nilIface/\b=.nilIface)\/(nW x||nW y)=true)(h2:∀l m,¬ (a=.agg l/\b=.agg m)):(eqGuard op t x y a b).run P w=.ok () w:=by
 unfold eqGuard
 cases op
 case eql | neq=>
  rw[if_neg (by simp)]
  split
  ·rcases h1 with h1 | h1
   ·exact absurd ⟨rfl,rfl⟩ h1
   ·cases x<;>cases y<;>simp[nW]at h1 ⊢
  ·exact absurd ⟨rfl,rfl⟩ (h2 _ _)
  ·rfl
 all_goals rfl
theorem zk6{op:BinOp}{t:TypeId}{x y:Operand}{l m:Array Value}(h:P.eqGuardType P.depth t=false):(eqGuard op t x y (.agg l) (.agg m)).run P w=.ok () w:=by
 unfold eqGuard
 cases op
 case eql | neq=>rw[if_neg (by simp)];simp[h]
 all_goals rfl
theorem mU{op:BinOp}{t yt:TypeId}{x y:Operand}{v':Value}(h1:(eqGuard op t x y (ρ x) (ρ y)).run P w=.ok () w)(h2:(binOp op t (ρ x) (ρ y)).run P w=.ok v' w) :
  (execOp ρ ⟨dst,.binOp op t x y yt,type,pos,after,guard⟩).run P w=.ok (.value v') w:=by
 simp only[execOp,Sem.run_bind,h1,Result.andThen_ok,h2,Sem.run_pure]
theorem zb2{k:IntKind}{b:Int}{n:Nat}(h:qR k b=some n):¬ b<0/\n=min b.toNat k.bits:=by
 unfold qR at h;simp only[mA,sW]at h;obtain⟨m,rfl,h⟩:=h
 cases h;exact⟨by omega,by simp⟩
theorem zc9{op:BinOp}{t yt:TypeId}{x y:Operand}{a b:zA}(hx:sA μ a (ρ x))(hy:sA μ b (ρ y))
  (h:(op=.shl/\dW zpv a b=some v)\/(op=.shr/\dW z4w a b=some v)):LOk P μ w ρ ⟨dst,.binOp op t x y yt,type,pos,after,guard⟩ v:=by
 rcases h with⟨rfl,h⟩ | ⟨rfl,h⟩
 all_goals
  unfold dW at h;simp only[mA,nM,zag]at h;obtain⟨p,rfl,n,⟨k',rfl⟩,h⟩:=h
  rw[sA]at hx hy
 ·unfold zpv at h
  rw[mA]at h;obtain⟨m,hm,h⟩:=h
  cases h;obtain⟨h1,rfl⟩:=zb2 hm
  refine⟨.int p.1 (p.1.wrap (p.2*2^(min n.toNat p.1.bits))),mU (jW (.inl (by rw[hx];simp)) (by rw[hx];simp)) ?_,by rw[sA,bJ];simp⟩
  rw[hx,hy];simp[binOp,Op.shift,h1]
 ·unfold z4w at h
  rw[mA]at h;obtain⟨m,hm,h⟩:=h
  cases h;obtain⟨h1,rfl⟩:=zb2 hm
  refine⟨.int p.1 (p.2.fdiv (2^(min n.toNat p.1.bits))),mU (jW (.inl (by rw[hx];simp)) (by rw[hx];simp)) ?_,by rw[sA];simp⟩
  rw[hx,hy];simp[binOp,Op.shift,h1]
theorem kW{n m:Nat}{a b:zA}{r:Bool}(h:zit n m a b=some r):(a.tag=n/\b.tag=n/\r=true)\/(a.tag=n/\b.tag=m/\r=false)\/(a.tag=m/\b.tag=n/\r=false):=by
 unfold zit at h;simp only[jC,aB]at h;split at h
 ·split at h
  ·cases h;rename_i h1 h2;exact .inl ⟨h1,h2,rfl⟩
  ·rw[mB,aB]at h;obtain⟨h1,h⟩:=h;cases h;rename_i h2 _;exact .inr (.inl ⟨h2,h1,rfl⟩)
 ·rw[mB,yac,aB,aB]at h;obtain⟨⟨h1,h2⟩,h⟩:=h;cases h;exact .inr (.inr ⟨h1,h2,rfl⟩)
theorem zvy{t:Nat}{ty:wD}(hF:sJ P t ty){a b:zA}{va vb:Value}(ha:sA μ a va)(hb:sA μ b vb){r:Bool}{d:Nat}(h:zn6 ty.desc a b=some r) :
  (Op.equalIn (d+1) t va vb).run P w=.ok r w:=by
 obtain⟨D,hD⟩:=hF.und
 have h0:=hF.desc
 unfold pL at h0;rw[hD]at h0;unfold Op.equalIn;rw[Sem.run_bind,dE hD,Result.andThen_ok];rw[<- h0]at h
 cases D<;>simp only[zn6]at h<;>try (cases h;done)
 case bool=>
  simp only[ziu,mA,tS]at h;obtain⟨x,rfl,y,rfl,h⟩:=h
  cases h;rw[sA]at ha hb;rw[ha,hb,vS];rfl
 case int k=>
  simp only[z5i,mA,nM,mB,oJ]at h;obtain⟨x,rfl,y,rfl,hk,h⟩:=h
  cases h;rw[sA]at ha hb;rw[ha,hb,zcq];simp[hk]
 case string=>
  simp only[zgm,mA,tN]at h;obtain⟨x,rfl,y,rfl,h⟩:=h
  cases h;rw[sA]at ha hb;obtain⟨s,rfl,rfl⟩:=ha
  obtain⟨u,rfl,rfl⟩:=hb
  have:(s == u)=uK (uE s) (uE u):=by
   rw[Bool.eq_iff_iff,zO];have h1:(s == u)=(s.data == u.data):=rfl
   rw[h1];exact⟨fun h=>(by unfold uE;rw[eq_of_beq h]),fun h=>(by rw[rY h];exact beq_self_eq_true u.data)⟩
  rw[<- this];rfl
 case pointer el=>
  rcases kW h with⟨h1,h2,rfl⟩ | ⟨h1,h2,rfl⟩ | ⟨h1,h2,rfl⟩<;>cases a<;>simp[zA.tag]at h1<;>cases b<;>simp[zA.tag]at h2<;>rw[sA]at ha<;>rw[sA]at hb
  ·rw[ha,hb];rfl
  ·obtain⟨i,_,hb⟩:=hb;rw[ha,hb];rfl
  ·obtain⟨i,_,ha⟩:=ha;rw[ha,hb];rfl
 case slice el=>
  rcases kW h with⟨h1,h2,rfl⟩ | ⟨h1,h2,rfl⟩ | ⟨h1,h2,rfl⟩<;>cases a<;>simp[zA.tag]at h1<;>cases b<;>simp[zA.tag]at h2<;>rw[sA]at ha<;>rw[sA]at hb
  ·rw[ha,hb];rfl
  ·rcases hb with⟨i,_,_,hb,_⟩ | ⟨_,_,_,_,_,hb,_⟩ <;> (rw[ha,hb];rfl)
  ·rcases ha with⟨i,_,_,ha,_⟩ | ⟨_,_,_,_,_,ha,_⟩ <;> (rw[ha,hb];rfl)
 case map k el=>
  rcases kW h with⟨h1,h2,rfl⟩ | ⟨h1,h2,rfl⟩ | ⟨h1,h2,rfl⟩<;>cases a<;>simp[zA.tag]at h1<;>cases b<;>simp[zA.tag]at h2<;>rw[sA]at ha<;>rw[sA]at hb
  ·rw[ha,hb];rfl
  ·obtain⟨i,_,hb⟩:=hb;rw[ha,hb];rfl
  ·obtain⟨i,_,ha⟩:=ha;rw[ha,hb];rfl
 case func ps rs vd=>
  rcases kW h with⟨h1,h2,rfl⟩ | ⟨h1,h2,rfl⟩ | ⟨h1,h2,rfl⟩<;>cases a<;>simp[zA.tag]at h1<;>cases b<;>simp[zA.tag]at h2<;>rw[sA]at ha<;>rw[sA]at hb
  ·rw[ha,hb];rfl
  ·obtain⟨i,_,_,hb,_⟩:=hb;rw[ha,hb];rfl
  ·obtain⟨i,_,_,ha,_⟩:=ha;rw[ha,hb];rfl
 case interface ms=>
  rcases kW h with⟨h1,h2,rfl⟩ | ⟨h1,h2,rfl⟩ | ⟨h1,h2,rfl⟩<;>cases a<;>simp[zA.tag]at h1<;>cases b<;>simp[zA.tag]at h2<;>rw[sA]at ha<;>rw[sA]at hb
  ·rw[ha,hb];rfl
  ·obtain⟨i,hb,_⟩:=hb;rw[ha,hb];rfl
  ·obtain⟨i,ha,_⟩:=ha;rw[ha,hb];rfl
theorem zct{t:Nat}{g:Array Field}(h:P.underlying t=some (.struct g)):P.fieldsOf t=g:=by unfold Program.fieldsOf;rw[h]
theorem z0p(hT:fF P C){D:Nat}{eq:Nat->zA->zA->Option Bool}(heq:∀t a b va vb r,sA μ a va->sA μ b vb->eq t a b=some r->(Op.equalIn D t va vb).run P w=.ok r w)
  {xs ys : List zA} {vx vy : Array Value} (hx : qB μ xs vx.toList) (hy : qB μ ys vy.toList) : ∀ (g : List Field) (r : Bool), (∀ f ∈ g, f.name ≠ "_") -> z0q C eq xs ys (g.map fun f => (f.offset, f.type, P.cellsOf f.type)) = some r →
   (Op.eqFields D vx vy g).run P w=.ok r w:=by
 intro g;induction g with
 | nil=>intro r _ h;cases h;rfl
 | cons f g ih=>
  intro r hn h;rw[ybn,z0q]at h;simp only[mA]at h;obtain⟨a,ha,b,hb,q,hq,h⟩:=h
  obtain⟨va,h1,h2⟩:=za3 (P:=P) (w:=w) hT hx ha
  obtain⟨vb,h3,h4⟩:=za3 (P:=P) (w:=w) hT hy hb
  have h5:=heq _ _ _ _ _ _ h2 h4 hq
  rw[Op.eqFields,if_pos (hn f (by simp))]
  simp only[Sem.run_bind,h1,Result.andThen_ok,h3,h5]
  cases q with
  | true=>rw[cond_true]at h;simpa using ih r (fun f hf=>hn f (by simp[hf])) h
  | false=>rw[cond_false]at h;cases h;simp
theorem aeq_ok(hT:fF P C):∀(d D t:Nat) (a b:zA) (va vb:Value) (r:Bool),d<=D->sA μ a va->sA μ b vb->aeq C d t a b=some r->(Op.equalIn D t va vb).run P w=.ok r w:=by
 intro d;induction d with
 | zero=>intro D t a b va vb r _ _ _ h;cases h
 | succ d ih=>
  intro D t a b va vb r hD ha hb h
  cases D with
  | zero=>omega
  | succ D=>
   rw[aeq,mA]at h;obtain⟨ty,hty,h⟩:=h
   have hF:=hT.facts hty
   split at h
   ·rename_i fs hfs
    simp only[mB,mA,bW]at h;obtain⟨hok,xs,rfl,ys,rfl,h⟩:=h
    obtain⟨g,hg,rfl⟩:=wY hF hfs
    obtain⟨h1,_,h3⟩:=hF.eqOk hok
    rw[sA]at ha;rw[sA]at hb;obtain⟨cx,rfl,hx⟩:=ha
    obtain⟨cy,rfl,hy⟩:=hb
    have hfo:=zct hg
    rw[run_equalIn_struct w D t cx cy (by rw[hfo];exact hg) h1,hfo]
    exact z0p hT (fun t a b va vb r h1 h2 h3=>ih D t a b va vb r (by omega) h1 h2 h3) hx hy g.toList r (hfo ▸ h3) h
   ·exact zvy hF ha hb h
theorem z52(hT:fF P C){d t:Nat}{a b:zA}{l m:Array Value}{r:Bool}(ha:sA μ a (.agg l))(hb:sA μ b (.agg m))(h:aeq C d t a b=some r):P.eqGuardType P.depth t=false:=by
 cases d with
 | zero=>cases h
 | succ d=>
  rw[aeq,mA]at h;obtain⟨ty,hty,h⟩:=h
  split at h
  ·rw[mB]at h;exact((hT.facts hty).eqOk h.1).2.1
  ·exfalso
   have hag:∀(a:zA) (l:Array Value),sA μ a (.agg l)->a.tag=13:=by
    intro a l ha
    cases a<;>rw[sA]at ha<;>first | rfl | (exfalso;revert ha;simp)
   have h1:=hag _ _ ha
   have h2:=hag _ _ hb
   cases a<;>simp[zA.tag]at h1
   cases b<;>simp[zA.tag]at h2
   revert h
   cases ty.desc<;>simp[zn6,ziu,zA.asBool,z5i,zA.asIntK,zgm,zA.asStr,zit,zn5,zA.tag,sB,Nat.beq]
theorem zah{a:zA}{v:Value}(h:sA μ a v):v=.nilIface->a.tag=12:=by
 intro hv;subst hv
 cases a<;>rw[sA]at h<;>first | rfl | (exfalso;revert h;simp)
theorem zda(hT:fF P C){op:BinOp}{t yt:TypeId}{x y:Operand}{a b:zA}{neg:Bool}(hx:sA μ a (ρ x))(hy:sA μ b (ρ y))(ha:a.asIntK=none)(hs:a.asStr=none)
  (hop:(neg=false/\op=.eql)\/(neg=true/\op=.neq)) (h:zbe neg C t x y a b=some v):LOk P μ w ρ ⟨dst,.binOp op t x y yt,type,pos,after,guard⟩ v:=by
 unfold zbe at h;simp only[mB,mA]at h;obtain⟨hg,r,hr,h⟩:=h
 cases h;have h1:(Op.equal t (ρ x) (ρ y)).run P w=.ok r w:=aeq_ok hT 20 10000 t a b _ _ r (by decide) hx hy hr
 have hG:(eqGuard op t x y (ρ x) (ρ y)).run P w=.ok () w:=by
  by_cases hag:∃l m,ρ x=.agg l/\ρ y=.agg m
  ·obtain⟨l,m,h2,h3⟩:=hag
   rw[h2]at hx;rw[h3]at hy;rw[h2,h3];exact zk6 (z52 hT hx hy hr)
  ·refine jW ?_ fun l m hlm=>hag ⟨l,m,hlm⟩
   by_cases hn:ρ x=.nilIface/\ρ y=.nilIface
   ·right
    have h2:=zah hx hn.1
    have h3:=zah hy hn.2
    unfold zn4 at hg;rw[h2,h3]at hg;simpa[Nat.beq]using hg
   ·exact .inl hn
 have hnx:∀k n,ρ x≠.int k n:=by
  intro k n hv;rw[hv]at hx
  cases a<;>rw[sA]at hx<;>first | (simp[zA.asIntK]at ha;done) | (revert hx;simp)
 have hsx:∀s,ρ x≠.string s:=by
  intro s hv;rw[hv]at hx
  cases a<;>rw[sA]at hx<;>first | (simp[zA.asStr]at hs;done) | (revert hx;simp)
 have hfx:∀k n,ρ x≠.float k n:=by
  intro k n hv;rw[hv]at hx
  cases a<;>rw[sA]at hx<;>revert hx<;>simp
 have hcx:∀k n m,ρ x≠.complex k n m:=by
  intro k n m hv;rw[hv]at hx
  cases a<;>rw[sA]at hx<;>revert hx<;>simp
 rcases hop with⟨rfl,rfl⟩ | ⟨rfl,rfl⟩
 ·refine⟨.bool r,mU hG ?_,by rw[sA];rfl⟩
  revert h1 hnx hsx hfx hcx
  generalize ρ x=vx
  generalize ρ y=vy
  intro h1 hnx hsx hfx hcx
  cases vx<;>first
   | exact absurd rfl (hnx _ _)
   | exact absurd rfl (hsx _)
   | exact absurd rfl (hfx _ _)
   | exact absurd rfl (hcx _ _ _)
   | simp[binOp,h1]
 ·refine⟨.bool (!r),mU hG ?_,by rw[sA];rfl⟩
  revert h1 hnx hsx hfx hcx
  generalize ρ x=vx
  generalize ρ y=vy
  intro h1 hnx hsx hfx hcx
  cases vx<;>first
   | exact absurd rfl (hnx _ _)
   | exact absurd rfl (hsx _)
   | exact absurd rfl (hfx _ _)
   | exact absurd rfl (hcx _ _ _)
   | simp[binOp,h1]
theorem zux(hT:fF P C)(hE:tF μ e ρ){op:BinOp}{t yt:Nat}{x y:Operand}(h:gK op t x y C e H=some v):LOk P μ w ρ ⟨dst,.binOp op t x y yt,type,pos,after,guard⟩ v:=by
 unfold gK at h;simp only[mA]at h;obtain⟨a,ha,b,hb,h⟩:=h
 have hx:=hE _ _ ha
 have hy:=hE _ _ hb
 clear ha hb
 revert h
 have plain:∀op,op≠.shl->op≠.shr->zgq op C t x y a b=some v->LOk P μ w ρ ⟨dst,.binOp op t x y yt,type,pos,after,guard⟩ v:=by
  intro op _ _ h;unfold zgq at h;split at h
  ·rename_i i hi
   simp only[mA,nM,mB,oJ]at h;obtain⟨j,rfl,hk,h⟩:=h
   rw[nM]at hi;subst hi;rw[sA]at hx;rw[sA]at hy;obtain⟨_,_,h2⟩:=zwm (P:=P) (μ:=μ) (w:=w) h
   obtain⟨v',h3,h4⟩:=h2 t
   refine⟨v',mU (jW (.inl (by rw[hx];simp)) (by rw[hx];simp)) ?_,h4⟩
   rw[hx,hy,<- hk];exact h3
  ·rename_i hi
   split at h
   ·rename_i s hs
    simp only[mA,tN]at h;obtain⟨u,rfl,h⟩:=h
    rw[tN]at hs;subst hs;rw[sA]at hx;rw[sA]at hy;obtain⟨sx,hx,rfl⟩:=hx
    obtain⟨sy,hy,rfl⟩:=hy
    obtain⟨_,_,h2⟩:=zwj (P:=P) (μ:=μ) (w:=w) h
    obtain⟨v',h3,h4⟩:=h2 t
    refine⟨v',mU (jW (.inl (by rw[hx];simp)) (by rw[hx];simp)) ?_,h4⟩
    rw[hx,hy];exact h3
   ·rename_i hs
    cases op<;>simp only[zwl]at h<;>first
     | exact zda hT hx hy hi hs (.inl ⟨rfl,rfl⟩) h
     | exact zda hT hx hy hi hs (.inr ⟨rfl,rfl⟩) h
     | (cases h;done)
 intro h
 cases op<;>simp only[dK]at h<;>first
  | exact zc9 hx hy (.inl ⟨rfl,h⟩)
  | exact zc9 hx hy (.inr ⟨rfl,h⟩)
  | exact plain _ (by simp) (by simp) h
theorem zu2{k:IntKind}(h:kLo k=0):kG k=2^k.bits:=by
 cases k<;>first
  | (cases h;done)
  | rfl
theorem z1o(hE:tF μ e ρ){op:UnOp}{t:Nat}{x:Operand}(h:lUn op x C e H=some v):LOk P μ w ρ ⟨dst,.unOp op t x,type,pos,after,guard⟩ v:=by
 unfold lUn at h;simp only[mA]at h;obtain⟨a,ha,h⟩:=h
 have hx:=hE _ _ ha
 cases op<;>simp only[unA]at h<;>try (cases h;done)
 case neg=>
  simp only[unNeg,mA,nM]at h;obtain⟨p,rfl,h⟩:=h
  cases h;rw[sA]at hx;refine⟨.int p.1 (p.1.wrap (0-p.2)),?_,by rw[sA,bJ]⟩
  simp[execOp,hx,Op.unary,Op.intArith]
 case xor=>
  simp only[zjr,mA,nM,mB,aB]at h;obtain⟨p,rfl,hk,h⟩:=h
  obtain⟨a,b,ha1,hb,hx1,hy,rfl⟩:=bX h
  rw[sA]at hx;have h1:Nat.xor a b<kG p.1:=by
   have:Nat.xor a b<2^p.1.bits:=Nat.xor_lt_two_pow (by rw[<- zu2 hk];exact hx1) (by rw[<- zu2 hk];exact hy)
   rw[zu2 hk];exact this
  refine⟨.int p.1 (Nat.xor a b:Nat),?_,by rw[sA]⟩
  have hm:(if p.1.signed then(-1:Int)else p.1.max)=(a:Int):=by
   rw[<- ha1];revert hk
   cases p.1<;>intro hk<;>first
    | (cases hk;done)
    | rfl
  have e2:(Op.intBits .xor p.1 (if p.1.signed then -1 else p.1.max) p.2).run P w=.ok (.int p.1 (Nat.xor a b:Nat)) w:=by
   rw[hm,hb];simp only[Op.intBits,BitVec.toNat_xor,xS hx1,xS hy];rw[show(a ^^^ b:Nat)=Nat.xor a b from rfl,zU h1]
   rfl
  simp[execOp,hx,Op.unary]
  rw[e2];rfl
 case not=>
  simp only[unNot,mA,tS]at h;obtain⟨b,rfl,h⟩:=h
  cases h;rw[sA]at hx;refine⟨.bool (!b),?_,by rw[sA]⟩
  simp[execOp,hx,Op.unary]
end
end Go.Am
