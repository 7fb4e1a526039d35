/- -/
import Derived.Below
import Derived.Calls
import Derived.Laws.Cells
import Derived.Laws.Sem
import Derived.Laws.StructEq
import Derived.Laws.World
import Derived.Lib.Strings
set_option linter.all false
noncomputable section
namespace Go.Am
def yaa := @if_neg
def yab := @if_pos
def yac := @Result.andThen_ok
def yad := @Sem.run_bind
def yae := @Sem.run_pure
def yaf := @List.mem_append
def yag := @Nat.pow_succ
def yah := @List.nil_append
def yai := @Option.bind_some
def yaj := @Array.getElem?_append_left
def yak := @List.drop_eq_nil_iff
def yal := @Bool.or_eq_false_iff
def yam := @Nat.lt_of_le_of_lt
def yan := @Nat.le_mul_of_pos_left
def yao := @Nat.pow_le_pow_right
def yap := @Nat.add_comm
def yaq := @List.mem_map
def yar := @Option.map_eq_some_iff
def yas := @List.flatten_cons
def yat := @Nat.mul_zero
def yau := @Nat.lt_or_ge
def yav := @Nat.eq_zero_or_pos
def yaw := @Nat.zero_le
def yax := @Array.toList_inj
def yay := @Bool.and_false
def yaz := @List.getElem?_cons_zero
def yba := @List.getElem?_cons_succ
def ybb := @Bool.and_eq_true
def ybc := @List.getElem?_eq_some_iff
def ybd := @List.getElem?_eq_getElem
def ybe := @Array.getElem?_eq_some_iff
def ybf := @List.length_map
def ybg := @List.length_append
def ybh := @Nat.mul_comm
def ybi := @Nat.mul_le_mul_right
def ybj := @Nat.mul_assoc
def ybk := @Nat.le_refl
def ybl := @List.drop_eq_getElem_cons
def ybm := @Nat.mul_add
def ybn := @List.length_cons
def ybo := @Nat.add_mul
def ybp := @List.getElem?_append_right
def ybq := @Bool.false_eq_true
def ybr := @List.mem_cons_of_mem
def ybs := @List.mem_cons
def ybt := @List.drop_eq_nil_of_le
def ybu := @List.getElem?_map
def ybv := @Nat.mul_le_mul_left
def ybw := @Nat.zero_add
def ybx := @List.length_nil
def yby := @List.mem_cons_self
def ybz := @List.append_assoc
def yca := @List.take_of_length_le
def ycb := @List.all_eq_true
def ycc := @List.length_eq_zero_iff
def ycd := @List.append_nil
def yce := @Nat.dvd_mul_left_of_dvd
def ycf := @List.mem_append_right
def ycg := @List.all_cons
def ych := @Nat.div_add_mod
def yci := @Option.some.inj
def ycj := @List.getElem_mem
def yck := @List.all_nil
def ycl := @Bool.not_false
def ycm := @List.map_cons
def ycn := @Bool.true_and
def yco := @List.getElem?_append_left
def ycp := @Bool.not_eq_true'
def ycq := @Bool.or_eq_true
def ycr := @List.drop_zero
def ycs := @Array.getElem?_setIfInBounds
def yct := @Nat.add_zero
def ycu := @Nat.div_lt_of_lt_mul
def ycv := @List.mem_of_getElem?
def ycw := @List.getElem?_set
def ycx := @Array.getD_eq_getD_getElem?
def ycy := @Nat.mod_lt
def ycz := @Array.length_toList
def yda := @List.length_take
def ydb := @Nat.mul_le_mul
def ydc := @List.mem_append_left
def ydd := @List.mem_singleton
def yde := @List.getElem?_drop
def ydf := @List.getElem?_take
def ydg := @List.take_add_one
def ydh := @List.length_set
def ydi := @List.all_append
def ydj := @List.length_drop
end Go.Am
namespace Go.Am
inductive Tr (α:Type) where
 | leaf
 | node (l:Tr α) (v:Option α) (r:Tr α)
def ob {α β:Type}(x:Option α)(f:α->Option β):Option β:=Option.rec (motive:=fun _=>Option β) none f x
namespace Tr
variable {α:Type}
def get (t:Tr α):Nat->Option α:=
 Tr.rec (motive:=fun _=>Nat->Option α) (fun _=>none)
  (fun _ v _ gl gr n=>Bool.rec (motive:=fun _=>Option α) (Bool.rec (motive:=fun _=>Option α) (gr (Nat.pred (Nat.div n (nat_lit 2)))) (gl (Nat.div n (nat_lit 2))) (Nat.beq (Nat.mod n (nat_lit 2)) (nat_lit 1))) v (Nat.beq n (nat_lit 0))) t
def mk (f:Nat):Nat->α->Tr α:=
 Nat.rec (motive:=fun _=>Nat->α->Tr α) (fun _ _=>leaf)
  (fun _ g n v=>Bool.rec (motive:=fun _=>Tr α) (Bool.rec (motive:=fun _=>Tr α) (node leaf none (g (Nat.pred (Nat.div n (nat_lit 2))) v)) (node (g (Nat.div n (nat_lit 2)) v) none leaf) (Nat.beq (Nat.mod n (nat_lit 2)) (nat_lit 1))) (node leaf (some v) leaf) (Nat.beq n (nat_lit 0))) f
def set (t:Tr α):Nat->α->Tr α:=
 Tr.rec (motive:=fun _=>Nat->α->Tr α) (fun n v=>mk (Nat.succ n) n v)
  (fun l x r gl gr n v=>Bool.rec (motive:=fun _=>Tr α) (Bool.rec (motive:=fun _=>Tr α) (node l x (gr (Nat.pred (Nat.div n (nat_lit 2))) v)) (node (gl (Nat.div n (nat_lit 2)) v) x r) (Nat.beq (Nat.mod n (nat_lit 2)) (nat_lit 1))) (node l (some v) r) (Nat.beq n (nat_lit 0))) t
def del (t:Tr α):Nat->Tr α:=
 Tr.rec (motive:=fun _=>Nat->Tr α) (fun _=>leaf)
  (fun l x r gl gr n=>Bool.rec (motive:=fun _=>Tr α) (Bool.rec (motive:=fun _=>Tr α) (node l x (gr (Nat.pred (Nat.div n (nat_lit 2))))) (node (gl (Nat.div n (nat_lit 2))) x r) (Nat.beq (Nat.mod n (nat_lit 2)) (nat_lit 1))) (node l none r) (Nat.beq n (nat_lit 0))) t
def many (t:Tr α)(n:Nat):Nat->Option (List α):=
 Nat.rec (motive:=fun _=>Nat->Option (List α)) (fun _=>some [])
  (fun _ g i=>ob (t.get i) fun v=>ob (g (i+1)) fun l=>some (v::l)) n
def setMany(l:List α):Tr α->Nat->Tr α:=
 List.rec (motive:=fun _=>Tr α->Nat->Tr α) (fun t _=>t) (fun v _ g t i=>g (t.set i v) (i+1)) l
def ofList(l:List α):Tr α:=setMany l leaf 0
end Tr
def oD {α:Type}(l:List α):Nat->Option α:=
 List.rec (motive:=fun _=>Nat->Option α) (fun _=>none) (fun a _ g n=>Bool.rec (motive:=fun _=>Option α) (g (Nat.pred n)) (some a) (Nat.beq n (nat_lit 0))) l
def qR{α:Type}(l:List α):Nat->List α:=
 List.rec (motive:=fun _=>Nat->List α) (fun _=>[]) (fun a l g n=>bif Nat.beq n 0 then a::l else g (n-1)) l
def bZ{α:Type}(l:List α):Nat->List α:=
 List.rec (motive:=fun _=>Nat->List α) (fun _=>[]) (fun a _ g n=>bif Nat.beq n 0 then []else a::g (n-1)) l
def wB {α:Type}(l:List α):Nat:=List.rec (motive:=fun _=>Nat) 0 (fun _ _ n=>n+1) l
def yE {α:Type}(l m:List α):List α:=List.rec (motive:=fun _=>List α) m (fun a _ g=>a::g) l
def zC {α:Type}(p:α->Bool)(l:List α):Bool:=List.rec (motive:=fun _=>Bool) true (fun a _ g=>bif p a then g else false) l
def mH{α β:Type}(f:α->Option β)(l:List α):Option (List β):=
 List.rec (motive:=fun _=>Option (List β)) (some []) (fun a _ g=>ob (f a) fun b=>ob g fun r=>some (b::r)) l
def sG(a:List Nat):List Nat->Bool:=
 List.rec (motive:=fun _=>List Nat->Bool) (fun b=>b.isEmpty) (fun x _ g b=>List.rec (motive:=fun _=>Bool) false (fun y b _=>bif Nat.beq x y then g b else false) b) a
def kIdx:IntKind->Nat
 | .i8=>0 | .i16=>1 | .i32=>2 | .i64=>3 | .u8=>4 | .u16=>5 | .u32=>6 | .u64=>7
def gN (a b:IntKind):Bool:=Nat.beq (kIdx a) (kIdx b)
def bEq:Bool->Bool->Bool
 | true,b=>b
 | false,b => !b
def wC:Int->Int->Bool
 | .ofNat a,.ofNat b=>Nat.beq a b
 | .negSucc a,.negSucc b=>Nat.beq a b
 | _,_=>false
def xH:Int->Int->Bool
 | .ofNat a,.ofNat b=>Nat.ble a b
 | .ofNat _,.negSucc _=>false
 | .negSucc _,.ofNat _=>true
 | .negSucc a,.negSucc b=>Nat.ble b a
def oC:Int->Int->Bool
 | .ofNat a,.ofNat b=>Nat.blt a b
 | .ofNat _,.negSucc _=>false
 | .negSucc _,.ofNat _=>true
 | .negSucc a,.negSucc b=>Nat.blt b a
def yH:IntKind->Nat
 | .i8=>128 | .i16=>32768 | .i32=>2147483648 | .i64=>9223372036854775808 | .u8=>256 | .u16=>65536 | .u32=>4294967296 | .u64=>18446744073709551616
def kLo:IntKind->Nat
 | .i8=>128 | .i16=>32768 | .i32=>2147483648 | .i64=>9223372036854775808 | _=>0
def bA(k:IntKind):Int->Int
 | .ofNat n=>bif Nat.blt n (yH k)then .ofNat n else k.wrap (.ofNat n)
 | .negSucc n=>bif Nat.blt n (kLo k)then .negSucc n else k.wrap (.negSucc n)
inductive AFn where
 | func (f:Nat)
 | yld (l:Nat)
inductive zA where
 | bool (b:Bool)
 | int (k:IntKind) (n:Int)
 | str (l:List Nat)
 | nilptr
 | ptr (b off:Nat)
 | nilslice
 | slice (b off len cap:Nat)
 | nilmap
 | map (b:Nat)
 | func (fn:AFn) (first captured:List zA)
 | nilfunc
 | iface (t:Nat) (v:zA)
 | niliface
 | agg (l:List zA)
 | tup (l:List zA)
structure Tm where
 k:Nat
 v:Tr zA
 t:List (Nat × zA)
def assoc(i:Nat)(l:List (Nat × zA)):Option zA:=
 List.rec (motive:=fun _=>Option zA) none (fun a _ g=>Bool.rec (motive:=fun _=>Option zA) g (some a.2) (Nat.beq i a.1)) l
def Tm.get(t:Tm)(i:Nat):Option zA:=Bool.rec (motive:=fun _=>Option zA) (assoc i t.t) (t.v.get i) (Nat.blt i t.k)
def Tm.set(t:Tm)(i:Nat)(x:zA):Tm:=Bool.rec (motive:=fun _=>Tm) ⟨t.k,t.v,(i,x)::t.t⟩ ⟨t.k,t.v.set i x,t.t⟩ (Nat.blt i t.k)
def Tm.cut(t:Tm):Tm:=⟨t.k,t.v,[]⟩
structure dH where
 fn:Option AFn
 r:Nat
 args:List zA
structure kN where
 state:LoopState
 pending:Option Code
 fn:Nat
 n:Nat
 tm:Tm
 params:List Nat
 assign:Code
 body:Code
 defers:Nat
inductive Lo where
 | sz (n:Nat)
 | ty (t:Nat)
def Lo.es:Lo->Nat | .sz n=>n | .ty _=>1
def loEq:Lo->Lo->Bool
 | .sz a,.sz b=>Nat.beq a b
 | .ty a,.ty b=>Nat.beq a b
 | _,_=>false
inductive uA where
 | cells (c:Tr zA) (n:Nat) (loose:Option Lo)
 | map (l:List (zA × zA))
 | loop (l:kN)
 | deferred (l:Option (List dH))
 | siter (s:List Nat) (pos:Nat)
structure xA where
 next:Nat
 t:Tr uA
inductive fE where
 | bool | int (k:IntKind) | string
 | ptr (e:Nat) | slice (e:Nat) | arr (n e:Nat) | map (k e:Nat)
 | struct (fs:List (Nat × Nat × Nat))
 | func | iface | other
structure eD where
 desc:fE
 size:Nat
 bytes:Nat
 zero:List zA
 eqOk:Bool
structure bG where
 heavy:Nat
 lights:List Nat
 again:List Nat
structure Plan where
 first:List Nat
 stages:List bG
 olds:List (Nat × List Nat)
structure cA where
 fns:Tr Func
 ks:Tr Nat
 tys:Tr eD
 plans:Tr (Tr Plan)
 prims:Tr (List zA->xA->Option (zA × xA))
 base:Nat
 root:Nat
inductive jE where
 | code (c:Code)
 | inBlock (id:Nat)
 | inLoop (c:Code)
 | inScope (c:Code)
 | ops (all:Array Oper) (rest:List Oper)
 | reg (all:Array Oper) (old:Tm) (olds:List (Nat × List Nat)) (stages:List bG)
 | inRange (l:Nat)
 | endRange (l:Nat)
 | beginRound
structure Dt where
 v:zA
 recovered:Bool
inductive kV where
 | run | returning
 | panicking (chain:List Dt)
structure rK where
 fn:Nat
 n:Nat
 defers:List dH
 mode:kV
 deferred:Bool
 roundOf:Option Nat
structure aB where
 todo:List jE
 tm:Tm
 R:rK
structure aR where
 fr:aB
 cs:List aB
 H:xA
inductive qG where
 | next (s:aR)
 | done (v:zA) (H:xA)
 | fail (why:Nat)
def zA.asBool:zA->Option Bool | .bool b=>some b | _=>none
def zA.asInt:zA->Option Int | .int _ n=>some n | _=>none
def zA.asIntK:zA->Option (IntKind × Int) | .int k n=>some (k,n) | _=>none
def zA.asStr:zA->Option (List Nat) | .str l=>some l | _=>none
def zA.asPtr:zA->Option (Nat × Nat) | .ptr b o=>some (b,o) | _=>none
def zA.asSlice:zA->Option (Nat × Nat × Nat × Nat) | .slice b o l c=>some (b,o,l,c) | _=>none
def zA.asMap:zA->Option Nat | .map b=>some b | _=>none
def zA.asAgg:zA->Option (List zA) | .agg l=>some l | _=>none
def zA.asTup:zA->Option (List zA) | .tup l=>some l | _=>none
def zA.asFunc:zA->Option (AFn × List zA × List zA) | .func f a b=>some (f,a,b) | _=>none
def zA.asIface:zA->Option (Nat × zA) | .iface t v=>some (t,v) | _=>none
def zA.tag:zA->Nat
 | .bool _=>0 | .int _ _=>1 | .str _=>2 | .nilptr=>3 | .ptr _ _=>4 | .nilslice=>5 | .slice _ _ _ _=>6 | .nilmap=>7 | .map _=>8
 | .func _ _ _=>9 | .nilfunc=>10 | .iface _ _=>11 | .niliface=>12 | .agg _=>13 | .tup _=>14
def iN:Int->Option Nat | .ofNat n=>some n | .negSucc _=>none
def zA.asNat(v:zA):Option Nat:=ob v.asInt iN
def zA.cells(v:zA):List zA:=
 match v.asAgg with
 | some l=>l
 | none=>[v]
def zA.one(v:zA):Bool:=Nat.blt v.tag 13
def fE.asInt:fE->Option IntKind | .int k=>some k | _=>none
def fE.asSlice:fE->Option Nat | .slice e=>some e | _=>none
def fE.asArr:fE->Option (Nat × Nat) | .arr n e=>some (n,e) | _=>none
def fE.asMap:fE->Option (Nat × Nat) | .map k e=>some (k,e) | _=>none
def fE.asStruct:fE->Option (List (Nat × Nat × Nat)) | .struct fs=>some fs | _=>none
def fE.tag:fE->Nat
 | .bool=>0 | .int _=>1 | .string=>2 | .ptr _=>3 | .slice _=>4 | .arr _ _=>5 | .map _ _=>6 | .struct _=>7 | .func=>8 | .iface=>9 | .other=>10
def fE.isAgg(d:fE):Bool:=bif Nat.beq d.tag 5 then true else Nat.beq d.tag 7
def fE.isString(d:fE):Bool:=Nat.beq d.tag 2
def uA.asCells:uA->Option (Tr zA × Nat × Option Lo) | .cells c n l=>some (c,n,l) | _=>none
def uA.asMap:uA->Option (List (zA × zA)) | .map l=>some l | _=>none
def uA.asLoop:uA->Option kN | .loop l=>some l | _=>none
def uA.asDeferred:uA->Option (Option (List dH)) | .deferred l=>some l | _=>none
def uA.asIter:uA->Option (List Nat × Nat) | .siter s p=>some (s,p) | _=>none
def sB{α:Type}(b:Bool)(x:Option α):Option α:=Bool.rec (motive:=fun _=>Option α) none x b
def aD:zA:=.tup []
def eF(s:ByteArray):List Nat:=s.data.toList.map UInt8.toNat
def Ey:Value->Option zA
 | .bool b=>some (.bool b)
 | .int k n=>some (.int k n)
 | .string s=>some (.str (eF s))
 | .pointer none=>some .nilptr
 | .slice none 0 0=>some .nilslice
 | .map none=>some .nilmap
 | .nilFunc=>some .nilfunc
 | .nilIface=>some .niliface
 | _=>none
def zg3:Value->Option (Array Value)
 | .agg cs=>some cs
 | _=>none
def Xx(v:Value):Option zA:=
 match zg3 v with
 | some cs=>ob (mH Ey cs.toList) fun l=>some (.agg l)
 | none=>Ey v
inductive qD where
 | now (tm:Tm)
 | mixed (tm old:Tm) (olds names:List Nat)
def tI(i:Nat)(l:List Nat):Bool:=List.rec (motive:=fun _=>Bool) false (fun j _ g=>bif Nat.beq i j then true else g) l
def aX (t:Nat)(e:qD):Option zA:=
 match e with
 | .now tm=>tm.get t
 | .mixed tm old olds names=>bif tI t names then Tm.get (bif tI t olds then old else tm) t else none
def xConst(v:Value)(_:qD):Option zA:=Xx v
def Ub(g:Nat)(_:qD):Option zA:=bif Nat.blt g 256 then some (.ptr g 0)else none
def xFunc(f:Nat)(_:qD):Option zA:=some (.func (.func f) [] [])
structure EB where f:qD->Option zA
def evB:Operand->EB
 | .tmp t=>⟨aX t⟩
 | .const v=>⟨xConst v⟩
 | .global g=>⟨Ub g⟩
 | .func f=>⟨xFunc f⟩
def ev (x:Operand)(e:qD):Option zA:=(evB x).f e
def jO (l:List Operand)(e:qD):Option (List zA):=mH (fun x=>ev x e) l
def evo (x:Option Operand)(e:qD):Option (Option zA):=
 match x with
 | none=>some none
 | some x=>ob (ev x e) fun v=>some (some v)
def evp (l:List (Nat × Operand))(e:qD):Option (List (Nat × zA)):=mH (fun x=>ob (ev x.2 e) fun v=>some (x.1,v)) l
def dD(H:xA)(b:Nat):Option (Tr zA × Nat × Option Lo):=ob (H.t.get b) uA.asCells
def gL(H:xA)(b:Nat):Option (List (zA × zA)):=ob (H.t.get b) uA.asMap
def jS(ty:eD)(c:Tr zA)(off:Nat):Option zA:=
 bif ty.desc.isAgg then ob (c.many ty.size off) fun l=>some (.agg l)else c.get off
def wR(C:cA)(t:Nat)(l:List zA)(off:Nat):Option zA:=
 ob (C.tys.get t) fun ty=>bif ty.desc.isAgg then some (.agg (bZ (qR l off) ty.size))else oD l off
def cX(ty:eD):zA:=
 bif ty.desc.isAgg then .agg ty.zero else match ty.zero with
  | v::_=>v
  | []=>aD
def Yo(a:List Nat):List Nat->Bool:=
 List.rec (motive:=fun _=>List Nat->Bool) (fun b => !b.isEmpty)
  (fun x _ g b=>List.rec (motive:=fun _=>Bool) false (fun y b _=>bif Nat.blt x y then true else bif Nat.beq x y then g b else false) b) a
def Iu(a b:zA):Option Bool:=ob a.asBool fun x=>ob b.asBool fun y=>some (bEq x y)
def zkh(a b:zA):Option Bool:=ob a.asIntK fun x=>ob b.asIntK fun y=>sB (gN x.1 y.1) (some (wC x.2 y.2))
def AJ(a b:zA):Option Bool:=ob a.asStr fun x=>ob b.asStr fun y=>some (sG x y)
def Dd(n m:Nat)(a b:zA):Option Bool:=
 bif Nat.beq a.tag n then(bif Nat.beq b.tag n then some true else sB (Nat.beq b.tag m) (some false))
 else sB (Nat.beq a.tag m&&Nat.beq b.tag n) (some false)
def Sp(_ _:zA):Option Bool:=none
def Ng:fE->zA->zA->Option Bool
 | .bool=>Iu
 | .int _=>zkh
 | .string=>AJ
 | .ptr _=>Dd 3 4
 | .iface=>Dd 12 11
 | .slice _=>Dd 5 6
 | .map _ _=>Dd 7 8
 | .func=>Dd 10 9
 | .arr _ _=>Sp
 | .struct _=>Sp
 | .other=>Sp
def Ji(C:cA)(eq:Nat->zA->zA->Option Bool)(xs ys:List zA):List (Nat × Nat × Nat)->Option Bool
 | []=>some true
 | f::fs=>ob (wR C f.2.1 xs f.1) fun a=>ob (wR C f.2.1 ys f.1) fun b=>ob (eq f.2.1 a b) fun r=>bif r then Ji C eq xs ys fs else some false
def aeq (C:cA):Nat->Nat->zA->zA->Option Bool
 | 0,_,_,_=>none
 | d+1,t,x,y=>ob (C.tys.get t) fun ty=>
  match ty.desc.asStruct with
  | some fs=>sB ty.eqOk (ob x.asAgg fun xs=>ob y.asAgg fun ys=>Ji C (aeq C d) xs ys fs)
  | none=>Ng ty.desc x y
def iAdd (k:IntKind)(a b:Int):Option zA:=some (.int k (bA k (a+b)))
def iSub (k:IntKind)(a b:Int):Option zA:=some (.int k (bA k (a-b)))
def iMul (k:IntKind)(a b:Int):Option zA:=some (.int k (bA k (a*b)))
def Aj (k:IntKind)(a b:Int):Option zA:=bif wC b 0 then none else some (.int k (bA k (a.tdiv b)))
def Ai (k:IntKind)(a b:Int):Option zA:=bif wC b 0 then none else some (.int k (a.tmod b))
def dI(f:Nat->Nat->Nat)(k:IntKind)(a b:Int):Option zA:=ob (iN a) fun x=>ob (iN b) fun y=>sB (Nat.blt x (yH k)&&Nat.blt y (yH k)) (some (.int k (.ofNat (f x y))))
def kW:IntKind->Nat
 | .i8=>256 | .u8=>256 | .i16=>65536 | .u16=>65536 | .i32=>4294967296 | .u32=>4294967296 | .i64=>18446744073709551616 | .u64=>18446744073709551616
def iAnd (k:IntKind)(a b:Int):Option zA:=
 match iN a with
 | some _=>dI Nat.land k a b
 | none=>ob (iN b) fun y=>sB (Nat.blt y (yH k)) (some (.int k (.ofNat (Nat.land (Int.toNat (Int.emod a (.ofNat (kW k)))) y))))
def iEql (_:IntKind)(a b:Int):Option zA:=some (.bool (wC a b))
def iNeq (_:IntKind)(a b:Int):Option zA:=some (.bool (!wC a b))
def iLss (_:IntKind)(a b:Int):Option zA:=some (.bool (oC a b))
def iLeq (_:IntKind)(a b:Int):Option zA:=some (.bool (xH a b))
def iGtr (_:IntKind)(a b:Int):Option zA:=some (.bool (oC b a))
def iGeq (_:IntKind)(a b:Int):Option zA:=some (.bool (xH b a))
def iNone(_:IntKind)(_ _:Int):Option zA:=none
structure IB where f:IntKind->Int->Int->Option zA
def BF:BinOp->IB
 | .add=>⟨iAdd⟩ | .sub=>⟨iSub⟩ | .mul=>⟨iMul⟩ | .quo=>⟨Aj⟩ | .rem=>⟨Ai⟩
 | .and=>⟨iAnd⟩ | .or=>⟨dI Nat.lor⟩ | .xor=>⟨dI Nat.xor⟩
 | .eql=>⟨iEql⟩ | .neq=>⟨iNeq⟩ | .lss=>⟨iLss⟩ | .leq=>⟨iLeq⟩ | .gtr=>⟨iGtr⟩ | .geq=>⟨iGeq⟩
 | _=>⟨iNone⟩
def wS (a b:List Nat):Option zA:=sB (Nat.blt (wB a+wB b) 4611686018427387904) (some (.str (yE a b)))
def sEql (a b:List Nat):Option zA:=some (.bool (sG a b))
def sNeq (a b:List Nat):Option zA:=some (.bool (!sG a b))
def sLss (a b:List Nat):Option zA:=some (.bool (Yo a b))
def sNone(_ _:List Nat):Option zA:=none
structure SB where f:List Nat->List Nat->Option zA
def BD:BinOp->SB
 | .add=>⟨wS⟩ | .eql=>⟨sEql⟩ | .neq=>⟨sNeq⟩ | .lss=>⟨sLss⟩
 | _=>⟨sNone⟩
def Mv:Operand->Bool
 | .const _=>true
 | _=>false
def Em(k:IntKind)(b:Int):Option Nat:=ob (iN b) fun n=>some (min n k.bits)
def zX (k:IntKind)(a b:Int):Option zA:=ob (Em k b) fun n=>some (.int k (bA k (a*.ofNat (2^n))))
def Fj (k:IntKind)(a b:Int):Option zA:=ob (Em k b) fun n=>some (.int k (a.fdiv (.ofNat (2^n))))
def Nv(f:IntKind->Int->Int->Option zA)(a b:zA):Option zA:=ob a.asIntK fun x=>ob b.asInt fun y=>f x.1 x.2 y
def MB(x y:Operand)(a b:zA):Bool:=
 bif Nat.beq a.tag 12&&Nat.beq b.tag 12 then Mv x||Mv y else true
def Tk(neg:Bool)(C:cA)(t:Nat)(x y:Operand)(a b:zA):Option zA:=
 sB (MB x y a b) (ob (aeq C 20 t a b) fun r=>some (.bool (bif neg then !r else r)))
def binNo(_:cA)(_:Nat)(_ _:Operand)(_ _:zA):Option zA:=none
structure BB where f:cA->Nat->Operand->Operand->zA->zA->Option zA
def OB:BinOp->BB
 | .eql=>⟨Tk false⟩
 | .neq=>⟨Tk true⟩
 | _=>⟨binNo⟩
def BE(op:BinOp)(C:cA)(t:Nat)(x y:Operand)(a b:zA):Option zA:=
 match a.asIntK with
 | some i=>ob b.asIntK fun j=>sB (gN i.1 j.1) ((BF op).f i.1 i.2 j.2)
 | none=>match a.asStr with
  | some s=>ob b.asStr fun u=>(BD op).f s u
  | none=>(OB op).f C t x y a b
def binShl(_:cA)(_:Nat)(_ _:Operand)(a b:zA):Option zA:=Nv zX a b
def binShr(_:cA)(_:Nat)(_ _:Operand)(a b:zA):Option zA:=Nv Fj a b
def oV:BinOp->BB
 | .shl=>⟨binShl⟩
 | .shr=>⟨binShr⟩
 | op=>⟨BE op⟩
def unNeg(a:zA):Option zA:=ob a.asIntK fun x=>some (.int x.1 (bA x.1 (0-x.2)))
def unNot(a:zA):Option zA:=ob a.asBool fun b=>some (.bool (!b))
def Ee(a:zA):Option zA:=ob a.asIntK fun x=>sB (Nat.beq (kLo x.1) 0) (dI Nat.xor x.1 (.ofNat (yH x.1-1)) x.2)
def unNone(_:zA):Option zA:=none
structure UB where f:zA->Option zA
def unA:UnOp->UB
 | .neg=>⟨unNeg⟩
 | .xor=>⟨Ee⟩
 | .not=>⟨unNot⟩
 | _=>⟨unNone⟩
def Te(v:zA):Option Nat:=ob v.asIntK fun x=>sB (gN x.1 .u8) (ob (iN x.2) fun n=>sB (Nat.blt n 256) (some n))
def Np(H:xA)(a:zA):Option zA:=
 match a.asSlice with
 | some x=>ob (dD H x.1) fun c=>ob (c.1.many x.2.2.1 x.2.1) fun l=>ob (mH Te l) fun r=>some (.str r)
 | none=>sB (Nat.beq a.tag 5) (some (.str []))
def pV(C:cA)(s d:eD)(a:zA)(H:xA):Option zA:=
 match d.desc.asInt with
 | some k=>ob a.asInt fun n=>some (.int k (bA k n))
 | none=>sB d.desc.isString (bif Nat.beq a.tag 2 then some a else
   ob s.desc.asSlice fun e=>ob (C.tys.get e) fun et=>ob et.desc.asInt fun k=>sB (gN k .u8) (Np H a))
def rX(y:Nat)(v:zA):Option Nat:=ob v.asNat fun n=>sB (Nat.ble n y) (some n)
def Bc(y dflt:Nat)(v:Option zA):Option Nat:=
 match v with
 | some v=>rX y v
 | none=>some dflt
def jR(len cap:Nat)(lo hi:Option zA):Option (Nat × Nat):=
 ob (Bc cap len hi) fun h=>ob (Bc h 0 lo) fun l=>some (l,h)
def tP(H:xA)(b size cap l:Nat)(arr:Bool):Bool:=
 match dD H b with
 | some c=>match c.2.2 with
  | none=>true
  | some es => !arr&&Nat.beq es.es size&&(!Nat.beq cap l||Nat.beq l 0)
 | none=>false
def rO(H:xA)(b size cap l:Nat)(arr:Bool):Bool:=
 match dD H b with
 | some c=>match c.2.2 with
  | none=>false
  | some es => !arr&&Nat.beq es.es size&&Nat.beq cap l && !Nat.beq l 0
 | none=>false
def yR(C:cA)(H:xA)(arr:Bool)(e b off len cap:Nat)(lo hi:Option zA):Option zA:=
 ob (C.tys.get e) fun et=>ob (jR len cap lo hi) fun x=>
  bif Nat.ble x.2 cap&&Nat.ble x.1 x.2&&rO H b et.size cap x.1 arr then some (.slice 0 1 0 0)else
  sB (Nat.ble x.2 cap&&tP H b et.size cap x.1 arr) (some (.slice b (bif Nat.beq cap x.1 then off else off+x.1*et.size) (x.2-x.1) (cap-x.1)))
def Kz(s:List Nat)(lo hi:Option zA):Option zA:=
 let n:=wB s
 ob (jR n n lo hi) fun x=>some (.str (qR (bZ s x.2) x.1))
def qO(C:cA)(H:xA)(ty:eD)(x:zA)(lo hi:Option zA):Option zA:=
 match x.asStr with
 | some s=>sB ty.desc.isString (Kz s lo hi)
 | none=>match x.asSlice with
  | some r=>ob ty.desc.asSlice fun e=>yR C H false e r.1 r.2.1 r.2.2.1 r.2.2.2 lo hi
  | none=>match x.asPtr with
   | some p=>ob ty.desc.asArr fun a=>yR C H true a.2 p.1 p.2 a.1 a.1 lo hi
   | none=>sB (Nat.beq x.tag 5) (ob ty.desc.asSlice fun e=>ob (C.tys.get e) fun _=>ob (jR 0 0 lo hi) fun _=>some .nilslice)
def sV(cells:List zA)(off size:Nat)(v:zA):Option (List zA):=
 let vc:=v.cells
 let n:=wB vc
 sB (Nat.beq n size&&Nat.ble (off+n) (wB cells)) (some (yE (bZ cells off) (yE vc (qR cells (off+n)))))
def tM(place:Nat->Option (Nat × Nat)):List (Nat × zA)->List zA->Option (List zA)
 | [],cells=>some cells
 | p::rest,cells=>ob (place p.1) fun q=>ob (sV cells q.1 q.2 p.2) fun cells=>tM place rest cells
def aU(d:fE):Bool:=Nat.ble d.tag 2
def keyTag(v:zA):Nat:=v.tag
def Fh(d:fE)(v:zA):Bool:=Nat.beq d.tag (keyTag v)
def Ap(C:cA):List (Nat × Nat × Nat)->Nat->Bool
 | [],_=>true
 | f::fs,i=>bif Nat.beq f.1 i then(match C.tys.get f.2.1 with
  | some ty=>bif aU ty.desc then Ap C fs (i+1)else false
  | none=>false)else false
def bU(C:cA)(ty:eD):Bool:=bif aU ty.desc then true else match ty.desc.asStruct with
 | some fs=>bif ty.eqOk then Ap C fs 0 else false
 | none=>false
def As(C:cA):List (Nat × Nat × Nat)->List zA->Bool
 | [],[]=>true
 | f::fs,v::l=>(match C.tys.get f.2.1 with
  | some ty=>bif Fh ty.desc v then As C fs l else false
  | none=>false)
 | _,_=>false
def gS(C:cA)(ty:eD)(v:zA):Bool:=bif aU ty.desc then Fh ty.desc v else match ty.desc.asStruct with
 | some fs=>(match v.asAgg with
  | some l=>As C fs l
  | none=>false)
 | none=>false
def nR(a b:zA):Option Bool:=
 match a.asIntK with
 | some x=>ob b.asIntK fun y=>sB (gN x.1 y.1) (some (wC x.2 y.2))
 | none=>match a.asStr with
  | some x=>ob b.asStr fun y=>some (sG x y)
  | none=>Iu a b
def dU:List zA->List zA->Option Bool
 | [],[]=>some true
 | a::x,b::y=>ob (nR a b) fun r=>ob (dU x y) fun s=>some (r&&s)
 | _,_=>none
def eI(a b:zA):Option Bool:=
 match a.asAgg with
 | some x=>ob b.asAgg fun y=>dU x y
 | none=>nR a b
def jL(k:zA):List (zA × zA)->Option (Option zA)
 | []=>some none
 | e::l=>ob (eI k e.1) fun r=>bif r then some (some e.2)else jL k l
def nO(k v:zA):List (zA × zA)->Option (List (zA × zA))
 | []=>some [(k,v)]
 | e::l=>ob (eI k e.1) fun r=>bif r then some ((k,v)::l)else ob (nO k v l) fun l=>some (e::l)
abbrev tK:=cA->qD->xA->Option zA
def Ae:tK:=fun _ _ _=>none
def lO(x:Operand):tK:=fun _ e _=>ev x e
def Ml(c a b:Operand):tK:=fun _ e _=>ob (ev c e) fun c=>ob c.asBool fun c=>bif c then ev a e else ev b e
def iW(t:Nat)(a:Operand):tK:=fun C e H=>ob (ev a e) fun v=>ob v.asPtr fun p=>ob (C.tys.get t) fun ty=>ob (dD H p.1) fun c=>jS ty c.1 p.2
def Af (x:Operand):tK:=fun _ e _=>ob (ev x e) fun v=>sB (Nat.beq v.tag 4||Nat.beq v.tag 9) (some v)
def cW (op:BinOp)(t:Nat)(x y:Operand):tK:=fun C e _=>ob (ev x e) fun a=>ob (ev y e) fun b=>(oV op).f C t x y a b
def lUn (op:UnOp)(x:Operand):tK:=fun _ e _=>ob (ev x e) fun a=>(unA op).f a
def rQ(s d:Nat)(x:Operand):tK:=fun C e H=>ob (ev x e) fun a=>ob (C.tys.get s) fun s=>ob (C.tys.get d) fun d=>pV C s d a H
def Cs(t:Nat)(x:Operand):tK:=fun C e _=>ob (C.tys.get t) fun ty=>sB (Nat.blt ty.desc.tag 9) (ob (ev x e) fun v=>some (.iface t v))
def Ii(f:Nat)(a b:Array Operand):tK:=fun _ e _=>ob (jO a.toList e) fun a=>ob (jO b.toList e) fun b=>some (.func (.func f) a b)
structure LB where f:tK
def Ct(fn:Fn)(a b:Array Operand):LB:=
 match fn with
 | .func f=>⟨Ii f a b⟩
 | _=>⟨Ae⟩
def Ad(t:Nat)(x:Operand)(lo hi:Option Operand):tK:=fun C e H=>
 ob (ev x e) fun a=>ob (evo lo e) fun l=>ob (evo hi e) fun h=>ob (C.tys.get t) fun ty=>qO C H ty a l h
def Mk(t:Nat)(x:Operand)(lo hi mx:Option Operand):LB:=
 match mx with
 | none=>⟨Ad t x lo hi⟩
 | some _=>⟨Ae⟩
def eW(s:Nat)(x:Operand)(f:Nat):tK:=fun C e _=>
 ob (C.tys.get s) fun ty=>ob ty.desc.asStruct fun fs=>ob (oD fs f) fun fd=>sB (!Nat.beq fd.2.2 0) (ob (ev x e) fun v=>ob v.asPtr fun p=>some (.ptr p.1 (p.2+fd.1)))
def Cu(t:Nat)(x:Operand)(f:Nat):tK:=fun C e _=>
 ob (C.tys.get t) fun ty=>ob ty.desc.asStruct fun fs=>ob (oD fs f) fun fd=>ob (ev x e) fun v=>ob v.asAgg fun l=>wR C fd.2.1 l fd.1
def gW(t:Nat)(x i:Operand):tK:=fun C e _=>
 ob (C.tys.get t) fun ty=>ob (ev x e) fun v=>ob (ev i e) fun i=>ob i.asNat fun i=>
  match v.asSlice with
  | some s=>ob ty.desc.asSlice fun el=>ob (C.tys.get el) fun et=>sB (Nat.blt i s.2.2.1) (some (.ptr s.1 (s.2.1+i*et.size)))
  | none=>ob v.asPtr fun p=>ob ty.desc.asArr fun a=>ob (C.tys.get a.2) fun et=>sB (Nat.blt i a.1) (some (.ptr p.1 (p.2+i*et.size)))
def fW(t:Nat)(x i:Operand):tK:=fun C e _=>
 ob (C.tys.get t) fun ty=>ob (ev x e) fun v=>ob (ev i e) fun i=>ob i.asNat fun i=>
  match v.asStr with
  | some s=>sB ty.desc.isString (ob (oD s i) fun b=>some (.int .u8 (.ofNat b)))
  | none=>ob v.asAgg fun l=>ob ty.desc.asArr fun a=>ob (C.tys.get a.2) fun et=>sB (Nat.blt i a.1) (wR C a.2 l (i*et.size))
def dW(t:Operand)(i:Nat):tK:=fun _ e _=>ob (ev t e) fun v=>ob v.asTup fun l=>oD l i
def pY(t:Nat)(parts:Array (Nat × Operand)):tK:=fun C e _=>
 ob (C.tys.get t) fun ty=>ob (evp parts.toList e) fun ps=>
  match ty.desc.asStruct with
  | some fs=>ob (tM (fun i=>ob (oD fs i) fun x=>some (x.1,x.2.2)) ps ty.zero) fun l=>some (.agg l)
  | none=>ob ty.desc.asArr fun a=>ob (C.tys.get a.2) fun et=>ob (tM (fun i=>some (i*et.size,et.size)) ps ty.zero) fun l=>some (.agg l)
def bW(x:Operand)(asserted:Nat)(ok:Bool):tK:=fun C e _=>
 ob (C.tys.get asserted) fun ty=>sB (Nat.blt ty.desc.tag 9) (ob (ev x e) fun v=>
  match v.asIface with
  | some p=>bif Nat.beq p.1 asserted then some (bif ok then .tup [p.2,.bool true]else p.2)else sB ok (some (.tup [cX ty,.bool false]))
  | none=>sB (Nat.beq v.tag 12&&ok) (some (.tup [cX ty,.bool false])))
def oW(H:xA)(v:zA):Option (List (zA × zA)):=
 match v.asMap with
 | some b=>gL H b
 | none=>sB (Nat.beq v.tag 7) (some [])
def jW(t:Nat)(x i:Operand)(ok:Bool):tK:=fun C e H=>
 ob (C.tys.get t) fun ty=>ob ty.desc.asMap fun ke=>ob (C.tys.get ke.1) fun kty=>sB (bU C kty) (ob (C.tys.get ke.2) fun ety=>
  ob (ev x e) fun m=>ob (oW H m) fun es=>ob (ev i e) fun k=>sB (gS C kty k) (ob (jL k es) fun r=>
   match r with
   | some v=>some (bif ok then .tup [v,.bool true]else v)
   | none=>some (bif ok then .tup [cX ety,.bool false]else cX ety)))
def eU (H:xA)(ty:eD)(v:zA):Option Nat:=
 match v.asStr with
 | some s=>sB ty.desc.isString (some (wB s))
 | none=>match v.asSlice with
  | some s=>sB (Nat.beq ty.desc.tag 4) (some s.2.2.1)
  | none=>match ty.desc.asArr with
   | some a=>some a.1
   | none=>match v.asMap with
    | some b=>sB (Nat.beq ty.desc.tag 6) (ob (gL H b) fun l=>some (wB l))
    | none=>sB ((Nat.beq ty.desc.tag 4&&Nat.beq v.tag 5)||(Nat.beq ty.desc.tag 6&&Nat.beq v.tag 7)) (some 0)
def oR (c:Call):tK:=fun C e H=>
 ob (oD c.argTypes.toList 0) fun t=>ob (oD c.args.toList 0) fun x=>ob (C.tys.get t) fun ty=>ob (ev x e) fun v=>ob (eU H ty v) fun n=>some (.int .i64 (.ofNat n))
def two (c:Call)(e:qD):Option (zA × zA):=
 match c.args.toList with
 | [x,y]=>ob (ev x e) fun a=>ob (ev y e) fun b=>some (a,b)
 | _=>none
def lW (c:Call):tK:=fun _ e _=>ob (two c e) fun p=>ob p.1.asIntK fun x=>ob p.2.asIntK fun y=>some (.int x.1 (bif oC x.2 y.2 then y.2 else x.2))
def mW (c:Call):tK:=fun _ e _=>ob (two c e) fun p=>ob p.1.asIntK fun x=>ob p.2.asIntK fun y=>some (.int x.1 (bif oC y.2 x.2 then y.2 else x.2))
def Rs(c:Call):Builtin->LB
 | .len=>⟨oR c⟩
 | .max=>⟨lW c⟩
 | .min=>⟨mW c⟩
 | _=>⟨Ae⟩
def dT(c:Call):Callee->LB
 | .builtin b=>Rs c b
 | _=>⟨Ae⟩
def zjk(c:Call):LB:=dT c c.callee
def wG:Op->LB
 | .move x=>⟨lO x⟩
 | .assign x=>⟨lO x⟩
 | .pick c a b=>⟨Ml c a b⟩
 | .load t a=>⟨iW t a⟩
 | .nilCheck x=>⟨Af x⟩
 | .binOp op t x y _=>⟨cW op t x y⟩
 | .unOp op _ x=>⟨lUn op x⟩
 | .convert s d x=>⟨rQ s d x⟩
 | .makeInterface t x=>⟨Cs t x⟩
 | .makeFunc fn a b=>Ct fn a b
 | .slice t x lo hi mx=>Mk t x lo hi mx
 | .fieldAddr s x f=>⟨eW s x f⟩
 | .field t x f=>⟨Cu t x f⟩
 | .indexAddr t x i=>⟨gW t x i⟩
 | .index t x i=>⟨fW t x i⟩
 | .extract t i=>⟨dW t i⟩
 | .build t ps=>⟨pY t ps⟩
 | .typeAssert x _ u ok=>⟨bW x u ok⟩
 | .lookup t x i ok=>⟨jW t x i ok⟩
 | .call c=>zjk c
 | _=>⟨Ae⟩
inductive jK where
 | val (v:zA) (H:xA)
 | enter (f:Nat) (args:List zA)
 | round (l:Nat) (args:List zA)
 | defer (d:dH)
 | panic (v:zA)
 | recover
 | fail
abbrev dR:=cA->qD->xA->jK
structure HB where f:dR
def bL (x:Option (zA × xA)):jK:=
 match x with
 | some p=>.val p.1 p.2
 | none=>.fail
def lZ (x:Option jK):jK:=
 match x with
 | some r=>r
 | none=>.fail
def lv (f:tK):dR:=fun C e H=>
 match f C e H with
 | some v=>.val v H
 | none=>.fail
def newBlk(H:xA)(b:uA):xA:=⟨H.next+1,H.t.set H.next b⟩
def xG(H:xA)(l:List zA)(loose:Option Lo):xA:=newBlk H (.cells (Tr.ofList l) (wB l) loose)
def setBlk(H:xA)(b:Nat)(x:uA):xA:=⟨H.next,H.t.set b x⟩
def gI (zero:List zA):Nat->List zA
 | 0=>[]
 | n+1=>yE zero (gI zero n)
def Cr(v:zA):Option Nat:=
 match v.asSlice with
 | some s=>some s.2.2.1
 | none=>match v.asStr with
  | some s=>some (wB s)
  | none=>sB (Nat.beq v.tag 5) (some 0)
def iY(l:List Nat):List zA:=l.map fun n=>zA.int .u8 (Int.ofNat n)
def xX(H:xA)(size n:Nat)(v:zA):Option (List zA):=
 match v.asSlice with
 | some s=>ob (dD H s.1) fun c=>c.1.many (n*size) s.2.1
 | none=>match v.asStr with
  | some s=>some (iY (bZ s n))
  | none=>sB (Nat.beq v.tag 5) (some [])
def jJ(C:cA)(H:xA)(b off:Nat)(l:List zA):Option xA:=
 sB (!Nat.blt b C.base) (ob (dD H b) fun c=>
  sB (Nat.ble (off+wB l) c.2.1&&zC zA.one l) (some (setBlk H b (.cells (c.1.setMany l off) c.2.1 c.2.2))))
def uV(et:eD)(len cap n:Nat)(new:List zA):Bool:=
 Nat.blt (len+n+cap) 1000000000&&Nat.blt ((len+n+cap)*et.bytes) 1000000000&&Nat.blt et.bytes 1000000000 && !Nat.beq et.size 0&&Nat.beq (wB new) (n*et.size)&&Nat.beq (wB et.zero) et.size
def KG(et:eD):Bool:=match et.desc with | .int .u8=>true | _=>false
def qN(e:Nat)(et:eD):Lo:=bif Nat.beq et.size 1&&KG et then .ty e else .sz et.size
def cT(H:xA)(e:Nat)(et:eD)(n:Nat)(new:List zA):Option (zA × xA):=
 bif Nat.beq n 0 then some (.nilslice,H)else
  sB (uV et 0 0 n new) (some (.slice H.next 0 n n,xG H new (some (qN e et))))
def mY(C:cA)(H:xA)(et:eD)(n:Nat)(new:List zA)(s:Nat × Nat × Nat × Nat):Option (zA × xA):=
 match new with
 | []=>some (.slice s.1 s.2.1 (s.2.2.1+n) s.2.2.2,H)
 | _::_=>ob (jJ C H s.1 (s.2.1+s.2.2.1*et.size) new) fun H'=>some (.slice s.1 s.2.1 (s.2.2.1+n) s.2.2.2,H')
def Ir(H:xA)(e:Nat)(et:eD)(n:Nat)(new:List zA)(s:Nat × Nat × Nat × Nat)(c:Tr zA):Option (zA × xA):=
 ob (c.many (s.2.2.1*et.size) s.2.1) fun old=>some (.slice H.next 0 (s.2.2.1+n) (s.2.2.1+n),xG H (yE old new) (some (qN e et)))
def Fl(C:cA)(H:xA)(e:Nat)(et:eD)(n:Nat)(new:List zA)(s:Nat × Nat × Nat × Nat)(c:Tr zA)(m:Nat)(lo:Lo):Option (zA × xA):=
 sB (Nat.beq s.2.1 0&&loEq lo (qN e et)&&Nat.ble (s.2.2.1*et.size) m&&Nat.ble m ((s.2.2.1+n)*et.size)&&zC zA.one new && !Nat.blt s.1 C.base)
  (some (.slice H.next 0 (s.2.2.1+n) (s.2.2.1+n),⟨H.next+1,(H.t.del s.1).set H.next (.cells (c.setMany new (s.2.2.1*et.size)) ((s.2.2.1+n)*et.size) (some lo))⟩))
def yX(C:cA)(H:xA)(e:Nat)(et:eD)(n:Nat)(new:List zA)(s:Nat × Nat × Nat × Nat):Option (zA × xA):=
 sB (!(Nat.beq s.2.1 1&&Nat.beq s.2.2.2 0)) (sB (uV et s.2.2.1 s.2.2.2 n new) (ob (dD H s.1) fun c=>
  match c.2.2 with
  | none=>Ir H e et n new s c.1
  | some lo=>Fl C H e et n new s c.1 c.2.1 lo))
def lX(C:cA)(H:xA)(ty:eD)(s x:zA):Option (zA × xA):=
 ob ty.desc.asSlice fun e=>ob (C.tys.get e) fun et=>ob (Cr x) fun n=>ob (xX H et.size n x) fun new=>
  match s.asSlice with
  | some s=>bif Nat.ble (s.2.2.1+n) s.2.2.2 then mY C H et n new s else yX C H e et n new s
  | none=>sB (Nat.beq s.tag 5) (cT H e et n new)
def isBld(C:cA)(t:Nat):Bool:=
 match ob (C.tys.get t) fun ty=>ob ty.desc.asStruct fun fs=>ob (oD fs 0) fun f=>ob (C.tys.get f.2.1) fun tf=>some tf.desc with
 | some (.ptr e)=>Nat.beq e t
 | _=>false
def eK(C:cA)(t:Nat):Option Lo:=
 bif isBld C t then some (.ty t)else
 match ob (C.tys.get t) fun ty=>ob ty.desc.asStruct fun fs=>ob (oD fs 0) fun f=>some (isBld C f.2.1)with
 | some true=>some (.ty t)
 | _=>none
def Cz(t:Nat):dR:=fun C _ H=>bL (ob (C.tys.get t) fun ty=>some (.ptr H.next 0,xG H ty.zero (eK C t)))
def Al (t:Nat)(x:Operand):dR:=fun C e H=>bL (ob (ev x e) fun v=>some (.ptr H.next 0,xG H v.cells (eK C t)))
def aZ (C:cA):Op->Option Lo
 | .alloc t=>eK C t
 | .box t _=>eK C t
 | _=>none
def Cy(t len:Nat)(parts:Array (Nat × Operand)):dR:=fun C e H=>bL (ob (C.tys.get t) fun ty=>ob ty.desc.asSlice fun el=>ob (C.tys.get el) fun et=>
 sB (Nat.blt (len*et.size) 1000000&&Nat.beq (wB et.zero) et.size) (ob (evp parts.toList e) fun ps=>ob (tM (fun i=>some (i*et.size,et.size)) ps (gI et.zero len)) fun l=>some (.slice H.next 0 len len,xG H l none)))
def Mw(t:Nat)(a x:Operand):dR:=fun C e H=>bL (ob (C.tys.get t) fun ty=>ob (ev a e) fun a=>ob a.asPtr fun p=>ob (ev x e) fun v=>
 let l:=v.cells
 sB (Nat.beq (wB l) ty.size) (ob (jJ C H p.1 p.2 l) fun H'=>some (aD,H')))
def My(r:Option Operand):dR:=fun _ _ H=>
 match r with
 | none=>.val (.map H.next) (newBlk H (.map []))
 | some _=>.fail
def Cx(t:Nat)(m k x:Operand):dR:=fun C e H=>bL (ob (C.tys.get t) fun ty=>ob ty.desc.asMap fun ke=>ob (C.tys.get ke.1) fun kty=>sB (bU C kty)
 (ob (ev m e) fun m=>ob m.asMap fun b=>sB (!Nat.blt b C.base) (ob (gL H b) fun l=>ob (ev k e) fun k=>sB (gS C kty k) (ob (ev x e) fun v=>ob (nO k v l) fun l'=>some (aD,setBlk H b (.map l'))))))
def Zp(t:Nat)(l c:Operand):dR:=fun C e H=>bL (ob (C.tys.get t) fun ty=>ob ty.desc.asSlice fun el=>ob (C.tys.get el) fun et=>
 ob (ev l e) fun l=>ob l.asNat fun l=>ob (ev c e) fun c=>ob c.asNat fun c=>
  sB (Nat.ble l c&&Nat.blt c 1000000&&Nat.blt (c*et.bytes) 1000000000&&Nat.beq (wB et.zero) et.size) (some (.slice H.next 0 l c,xG H (gI et.zero c) none)))
def nY(s d:Nat)(x:Operand):dR:=fun C e H=>
 match rQ s d x C e H with
 | some v=>.val v H
 | none=>bL (ob (C.tys.get s) fun _=>ob (C.tys.get d) fun ty=>ob ty.desc.asSlice fun el=>ob (C.tys.get el) fun et=>ob et.desc.asInt fun k=>sB (gN k .u8) (ob (ev x e) fun v=>ob v.asStr fun l=>
   some (.slice H.next 0 (wB l) (wB l),xG H (iY l) (some (.ty el)))))
def Mx(x:Operand):dR:=fun _ e _=>lZ (ob (ev x e) fun v=>ob v.asIface fun p=>some (.panic (.iface p.1 p.2)))
def tS(f:Operand)(args:Array Operand)(e:qD):Option (AFn × List zA × List zA):=
 ob (ev f e) fun v=>ob v.asFunc fun p=>ob (jO args.toList e) fun as=>some (p.1,yE p.2.1 as,p.2.2)
def Sc(c:Call):Callee->HB
 | .value f=>⟨fun _ e _=>lZ (ob (tS f c.args e) fun p=>some (.defer ⟨some p.1,0,yE p.2.1 p.2.2⟩))⟩
 | _=>⟨fun _ _ _=>.fail⟩
def hDefer(c:Call):HB:=Sc c c.callee
def sP(g:List zA->xA->Option zA):List zA->xA->Option (zA × xA):=fun args H=>ob (g args H) fun v=>some (v,H)
def Jc(_:cA)(H:xA)(args:List zA)(f:Nat):Option (List zA->xA->Option (zA × xA))->jK
 | some g=>match g args H with
  | some p=>.val p.1 p.2
  | none=>.fail
 | none=>.enter f args
def NT(l:Nat)(args:List zA):List zA->jK
 | []=>.round l args
 | _::_=>.fail
def zku(C:cA)(H:xA)(args cap:List zA):AFn->jK
 | .func f=>Jc C H (yE args cap) f (C.prims.get f)
 | .yld l=>NT l args cap
def Fk(f:Operand)(args:Array Operand):dR:=fun C e H=>lZ (ob (tS f args e) fun p=>some (zku C H p.2.1 p.2.2 p.1))
def Iq(c:Call):dR:=fun C e H=>bL (ob (oD c.argTypes.toList 0) fun t=>ob (C.tys.get t) fun ty=>ob (oD c.argTypes.toList 1) fun u=>ob (C.tys.get u) fun uty=>
 sB (!Nat.beq uty.desc.tag 1) (ob (two c e) fun p=>lX C H ty p.1 p.2))
def zj3:dR:=fun _ _ _=>.fail
def zdt:dR:=fun _ _ _=>.recover
def zdu(c:Call):Builtin->HB
 | .append=>⟨Iq c⟩
 | .len=>⟨lv (oR c)⟩
 | .max=>⟨lv (lW c)⟩
 | .min=>⟨lv (mW c)⟩
 | .recover=>⟨zdt⟩
 | _=>⟨zj3⟩
def Ip(c:Call):Callee->HB
 | .value f=>⟨Fk f c.args⟩
 | .builtin b=>zdu c b
 | _=>⟨zj3⟩
def hCall(c:Call):HB:=Ip c c.callee
def lvB (b:LB):HB:=⟨lv b.f⟩
def yF:Op->HB
 | .move x=>⟨lv (lO x)⟩
 | .assign x=>⟨lv (lO x)⟩
 | .pick c a b=>⟨lv (Ml c a b)⟩
 | .load t a=>⟨lv (iW t a)⟩
 | .nilCheck x=>⟨lv (Af x)⟩
 | .binOp op t x y _=>⟨lv (cW op t x y)⟩
 | .unOp op _ x=>⟨lv (lUn op x)⟩
 | .makeInterface t x=>⟨lv (Cs t x)⟩
 | .makeFunc fn a b=>lvB (Ct fn a b)
 | .slice t x lo hi mx=>lvB (Mk t x lo hi mx)
 | .fieldAddr s x f=>⟨lv (eW s x f)⟩
 | .field t x f=>⟨lv (Cu t x f)⟩
 | .indexAddr t x i=>⟨lv (gW t x i)⟩
 | .index t x i=>⟨lv (fW t x i)⟩
 | .extract t i=>⟨lv (dW t i)⟩
 | .build t ps=>⟨lv (pY t ps)⟩
 | .typeAssert x _ u ok=>⟨lv (bW x u ok)⟩
 | .lookup t x i ok=>⟨lv (jW t x i ok)⟩
 | .convert s d x=>⟨nY s d x⟩
 | .alloc t=>⟨Cz t⟩
 | .box t x=>⟨Al t x⟩
 | .buildSlice t len ps=>⟨Cy t len ps⟩
 | .store t a x=>⟨Mw t a x⟩
 | .makeMap _ r=>⟨My r⟩
 | .insert t m k x=>⟨Cx t m k x⟩
 | .mapUpdate t m k x=>⟨Cx t m k x⟩
 | .makeSlice t l c=>⟨Zp t l c⟩
 | .panic x=>⟨Mx x⟩
 | .defer c=>hDefer c
 | .call c=>hCall c
 | _=>⟨zj3⟩
structure GB where f:Tm->Option Bool
def zhj(_:Tm):Option Bool:=some true
def Ke(d:Option Nat)(w:Bool)(tm:Tm):Option Bool:=
 ob d fun d=>ob (tm.get d) fun v=>match v.asBool with
  | some b=>some (bEq b w)
  | none=>some false
def Kf(g:Option (Nat × Bool))(all:Array Oper):GB:=
 match g with
 | none=>⟨zhj⟩
 | some jw=>⟨Ke (ob (oD all.toList jw.1) fun o=>o.dst) jw.2⟩
def pG(g:Option (Nat × Bool))(all:Array Oper)(tm:Tm):Option Bool:=(Kf g all).f tm
structure PB where f:Nat->Tm->zA->Tm
def Hr(d n:Nat)(tm:Tm)(v:zA):Tm:=bif Nat.blt d n then tm.set d v else tm
def putNo(_:Nat)(tm:Tm)(_:zA):Tm:=tm
def putB (dst:Option Nat):PB:=
 match dst with
 | some d=>⟨Hr d⟩
 | none=>⟨putNo⟩
def putA (n:Nat)(tm:Tm)(dst:Option Nat)(v:zA):Tm:=(putB dst).f n tm v
def kV.running:kV->Bool | .run=>true | _=>false
def jE.blockId:jE->Option Nat | .inBlock id=>some id | _=>none
def bT(id:Nat):List jE->Option (List jE)
 | []=>none
 | x::k=>match x.blockId with
  | some i=>bif Nat.beq i id then some k else bT id k
  | none=>bT id k
def zgv(all:Array Oper)(rest:List Oper)(k:List jE)(tm:Tm)(R:rK)(v:zA):Option aB:=
 match rest with
 | o::rest=>some ⟨.ops all rest::k,putA R.n tm o.dst v,R⟩
 | []=>none
def AB(all:Array Oper)(old:Tm)(olds:List (Nat × List Nat))(stages:List bG)(k:List jE)(tm:Tm)(R:rK)(v:zA):Option aB:=
 match stages with
 | st::stages=>ob (oD all.toList st.heavy) fun o=>some ⟨.reg all old olds (⟨all.size,st.lights,st.again⟩::stages)::k,putA R.n tm o.dst v,R⟩
 | []=>none
def zd2(l:Nat)(k:List jE)(tm:Tm)(R:rK)(_:zA):Option aB:=some ⟨.endRange l::k,tm,R⟩
def zd3(k:List jE)(tm:Tm)(R:rK)(_:zA):Option aB:=some ⟨k,tm,R⟩
def zkb(_:List jE)(_:Tm)(_:rK)(_:zA):Option aB:=none
def Sk:jE->List jE->Tm->rK->zA->Option aB
 | .ops all rest=>zgv all rest
 | .reg all old olds stages=>AB all old olds stages
 | .inRange l=>zd2 l
 | .beginRound=>zd3
 | _=>zkb
def cH(fr:aB)(v:zA):Option aB:=
 match fr.todo with
 | []=>none
 | x::k=>bif fr.R.mode.running then Sk x k fr.tm fr.R v else none
def oK(C:cA)(f:Nat)(args:List zA)(deferred:Bool):Option aB:=
 ob (C.fns.get f) fun fn=>ob fn.body fun c=>ob (C.ks.get f) fun k=>sB (Nat.ble (wB args) k&&Nat.ble (wB args) fn.ntmps) (some ⟨[.code c],⟨k,Tr.ofList args,[]⟩,⟨f,fn.ntmps,[],.run,deferred,none⟩⟩)
def oZ(n:Nat):List Nat->List zA->Tm->Option (Tm)
 | [],[],tm=>some tm
 | p::ps,a::as,tm=>oZ n ps as (putA n tm (some p) a)
 | _,_,_=>none
def Ur:List Operand->List Nat
 | []=>[]
 | .tmp t::l=>t::Ur l
 | _::l=>Ur l
def vI(o:Op):List Nat:=Ur o.operands.toList
def fF(i:Nat):List (Nat × List Nat)->List Nat
 | []=>[]
 | x::r=>bif Nat.beq i x.1 then x.2 else fF i r
def same:Nat->zA->zA->Bool
 | _,.bool a,.bool b=>bEq a b
 | _,.int j a,.int k b=>gN j k&&wC a b
 | _,.str a,.str b=>sG a b
 | _,.nilptr,.nilptr=>true
 | _,.ptr a b,.ptr c d=>Nat.beq a c&&Nat.beq b d
 | _,.nilslice,.nilslice=>true
 | _,.slice a b c d,.slice e f g h=>Nat.beq a e&&Nat.beq b f&&Nat.beq c g&&Nat.beq d h
 | _,.nilmap,.nilmap=>true
 | _,.map a,.map b=>Nat.beq a b
 | _,.nilfunc,.nilfunc=>true
 | _,.niliface,.niliface=>true
 | d+1,.agg a,.agg b=>sames d a b
 | d+1,.tup a,.tup b=>sames d a b
 | _,_,_=>false
where
 sames (d:Nat):List zA->List zA->Bool
  | [],[]=>true
  | a::x,b::y=>same d a b&&sames d x y
  | _,_=>false
def iS(C:cA)(H:xA)(all:Array Oper)(n:Nat)(old:Tm)(olds:List (Nat × List Nat)):List Nat->Tm->Option (Tm)
 | [],tm=>some tm
 | i::l,tm=>ob (oD all.toList i) fun o=>ob (pG o.guard all tm) fun w=>ob (bif w then(wG o.op).f C (.mixed tm old (fF i olds) (vI o.op)) H else some aD) fun v=>
   iS C H all n old olds l (putA n tm o.dst v)
def Dk(C:cA)(H:xA)(all:Array Oper)(old:Tm)(olds:List (Nat × List Nat))(tm:Tm):List Nat->Bool
 | []=>true
 | i::l=>match (ob (oD all.toList i) fun o=>ob o.dst fun d=>ob (pG o.guard all tm) fun w=>bif w then(ob ((wG o.op).f C (.mixed tm old (fF i olds) (vI o.op)) H) fun v=>ob (tm.get d) fun u=>some (same 10 v u))else some true)with
  | some true=>Dk C H all old olds tm l
  | _=>false
def kV.chain:kV->Option (List Dt) | .panicking c=>some c | _=>none
def Ix:List Oper->Tr zA->Tr zA
 | [],t=>t
 | o::l,t=>match o.dst with
  | some j=>Ix l (t.del j)
  | none=>Ix l t
def Mi(todo:List jE)(tm:Tm):Tm:=
 match todo with
 | .reg all _ _ _::_=>⟨tm.k,Ix all.toList tm.v,[]⟩
 | _=>tm
def wW(fr:aB)(l:List Dt):aB:=
 ⟨[],Mi fr.todo fr.tm,⟨fr.R.fn,fr.R.n,fr.R.defers,.panicking (match fr.R.mode.chain with | some c=>yE l c | none=>l),fr.R.deferred,fr.R.roundOf⟩⟩
def vM(x:Option aR)(why:Nat):qG:=
 match x with
 | some s=>.next s
 | none=>.fail why
def pJ(H:xA)(l:Nat):Option kN:=sB (Nat.ble (nat_lit 256) l) (ob (H.t.get l) uA.asLoop)
def vX(H:xA)(l:Nat):Option (Option (List dH)):=sB (Nat.ble (nat_lit 256) l) (ob (H.t.get l) uA.asDeferred)
def Es (v:zA)(H':xA)(_:cA)(fr:aB)(cs:List aB)(_:xA):qG:=vM (ob (cH fr v) fun fr=>some ⟨fr,cs,H'⟩) 1
def Lp(f:Nat)(args:List zA)(C:cA)(fr:aB)(cs:List aB)(H:xA):qG:=vM (ob (oK C f args false) fun g=>some ⟨g,fr::cs,H⟩) 2
def Lm(l:Nat)(args:List zA)(_:cA)(fr:aB)(cs:List aB)(H:xA):qG:=
 vM (ob (pJ H l) fun r=>ob (oZ r.n r.params args r.tm) fun tm=>some ⟨⟨[.code r.assign,.beginRound,.code r.body],tm,⟨r.fn,r.n,[],.run,false,some l⟩⟩,fr::cs,H⟩) 3
def Xi(d:dH)(_:cA)(fr:aB)(cs:List aB)(H:xA):qG:=
 vM (match fr.R.roundOf with
  | none=>ob (cH fr aD) fun g=>some ⟨⟨g.todo,g.tm,⟨g.R.fn,g.R.n,d::g.R.defers,g.R.mode,g.R.deferred,g.R.roundOf⟩⟩,cs,H⟩
  | some _=>none) 4
def zfu(v:zA)(_:cA)(fr:aB)(cs:List aB)(H:xA):qG:=.next ⟨wW fr [⟨v,false⟩],cs,H⟩
def Ln(_:cA)(fr:aB)(cs:List aB)(H:xA):qG:=
 vM (match fr.R.roundOf,fr.R.deferred,cs with
  | none,true,c::rest=>match c.R.mode with
   | .panicking (⟨v,false⟩::older)=>ob (cH fr v) fun fr=>some ⟨fr,⟨c.todo,c.tm,⟨c.R.fn,c.R.n,c.R.defers,.panicking (⟨v,true⟩::older),c.R.deferred,c.R.roundOf⟩⟩::rest,H⟩
   | .panicking _=>none
   | _=>ob (cH fr .niliface) fun fr=>some ⟨fr,cs,H⟩
  | _,_,_=>none) 5
def rFail(_:cA)(_:aB)(_:List aB)(_:xA):qG:=.fail 6
def Jh:jK->cA->aB->List aB->xA->qG
 | .val v H'=>Es v H'
 | .enter f args=>Lp f args
 | .round l args=>Lm l args
 | .defer d=>Xi d
 | .panic v=>zfu v
 | .recover=>Ln
 | .fail=>rFail
def vS(C:cA)(H:xA)(tm:Tm):ResultVar->Option zA
 | .tmp t=>tm.get t
 | .cell a t=>ob (ob (tm.get a) zA.asPtr) fun p=>ob (C.tys.get t) fun ty=>ob (dD H p.1) fun c=>jS ty c.1 p.2
def lU(C:cA)(H:xA)(tm:Tm)(l:List ResultVar):Option (List zA):=mH (vS C H tm) l
def Xa(jump:Option Code):Bool:=
 match jump with
 | none=>true
 | some .ret=>true
 | _=>false
def nZ(fr:aB)(m:kV):aB:=⟨fr.todo,fr.tm,⟨fr.R.fn,fr.R.n,fr.R.defers,m,fr.R.deferred,fr.R.roundOf⟩⟩
def iT(jump:Option Code)(_:cA)(fr:aB)(cs:List aB)(H:xA):qG:=
 vM (match fr.R.roundOf with
  | none=>sB (Xa jump) (some ⟨nZ fr .returning,cs,H⟩)
  | some l=>ob (pJ H l) fun r=>match cs with
   | c::rest=>sB (!fr.R.deferred) <| ob (cH c (.bool jump.isNone)) fun c=>some ⟨c,rest,setBlk H l (.loop ⟨if jump.isNone then .ready else .done,jump,r.fn,r.n,r.tm,r.params,r.assign,r.body,r.defers⟩)⟩
   | []=>none) 7
abbrev yO:=cA->List jE->Tm->rK->List aB->xA->qG
structure XB where f:yO
def xGo (todo:List jE)(tm:Tm)(R:rK)(cs:List aB)(H:xA):qG:=.next ⟨⟨todo,tm,R⟩,cs,H⟩
def Dv:yO:=fun _ k tm R cs H=>xGo k tm R cs H
def Jz(c:Operand)(x y:Code):yO:=fun _ k tm R cs H=>
 match ob (ev c (.now tm)) zA.asBool with
 | some b=>xGo (.code (bif b then x else y)::k) tm R cs H
 | none=>.fail 8
def zev(id:Nat)(c:Code):yO:=fun _ k tm R cs H=>xGo (.code c::.inBlock id::k) tm R cs H
def zhe(c:Code):yO:=fun _ k tm R cs H=>xGo (.code c::.inLoop c::k) tm R cs H
def xScope(c:Code):yO:=fun _ k tm R cs H=>xGo (.code c::.inScope c::k) tm R cs H
def Bm(id:Nat):yO:=fun C k tm R cs H=>
 match bT id k with
 | some k'=>xGo k' tm R cs H
 | none=>iT (some (.exit id)) C ⟨.code (.exit id)::k,tm,R⟩ cs H
def xRet:yO:=fun C k tm R cs H=>iT (some .ret) C ⟨.code .ret::k,tm,R⟩ cs H
def zhf:yO:=fun _ _ _ _ _ _=>.fail 9
def Ge(e:Edge):Bool:=
 match e.ground with
 | .textOnly _=>false
 | .gcOnly _=>false
 | _=>true
def tb (m i:Nat):Bool:=Nat.beq (Nat.mod (Nat.shiftRight m i) (nat_lit 2)) (nat_lit 1)
def Be(i:Nat):Nat:=Nat.shiftLeft (nat_lit 1) i
def dJ (t:Tr Nat)(i:Nat):Nat:=
 match t.get i with
 | some m=>m
 | none=>0
def Ig(t:Tr Nat):List Edge->Nat
 | []=>0
 | e::l=>bif Ge e then Nat.lor (Nat.lor (Be e.on) (dJ t e.on)) (Ig t l)else Ig t l
def zky:List Oper->Nat->Tr Nat->Tr Nat
 | [],_,t=>t
 | o::r,i,t=>zky r (i+1) (t.set i (Ig t o.after.toList))
def Qx:List Oper->Nat->Bool
 | [],_=>true
 | o::r,i=>bif zC (fun e=>bif Ge e then Nat.blt e.on i else true) o.after.toList then Qx r (i+1)else false
def Gr:List Oper->Nat->Tr Nat->Option (Tr Nat)
 | [],_,t=>some t
 | o::r,i,t=>match o.dst with
  | none=>Gr r (i+1) t
  | some d=>match t.get d with
   | none=>Gr r (i+1) (t.set d i)
   | some _=>none
def nE{α:Type}:Option α->Bool | none=>true | some _=>false
def Xv(wr anc:Tr Nat)(i:Nat)(olds:List Nat)(t:Nat):Bool:=
 match wr.get t with
 | none=>true
 | some j=>bif tI t olds then(bif Nat.beq j i then true else tb (dJ anc j) i)else tb (dJ anc i) j
def Xw(anc:Nat):Option (Nat × Bool)->Bool
 | none=>true
 | some g=>tb anc g.1
def Qv(wr anc:Tr Nat)(olds:List (Nat × List Nat)):List Oper->Nat->Bool
 | [],_=>true
 | o::r,i=>bif Xw (dJ anc i) o.guard then(bif zC (Xv wr anc i (fF i olds)) (vI o.op)then Qv wr anc olds r (i+1)else false)else false
def kU:Op->Bool
 | .move _=>true
 | .assign _=>true
 | .pick _ _ _=>true
 | .nilCheck _=>true
 | .binOp _ _ _ _ _=>true
 | .unOp _ _ _=>true
 | .makeInterface _ _=>true
 | .makeFunc _ _ _=>true
 | .fieldAddr _ _ _=>true
 | .field _ _ _=>true
 | .indexAddr _ _ _=>true
 | .index _ _ _=>true
 | .extract _ _=>true
 | .build _ _=>true
 | .typeAssert _ _ _ _=>true
 | _=>false
def tZ (D:Nat)(o:Oper):Bool:=zC (fun e=>bif Ge e then tb D e.on else true) o.after.toList
def Qw(h D:Nat):List Oper->Nat->Bool
 | [],_=>true
 | o::r,i=>bif (bif tb D i then true else bif Nat.beq i h then true else !tZ D o)then Qw h D r (i+1)else false
def uM:Op->Bool
 | .alloc _=>true
 | .box _ _=>true
 | .buildSlice _ _ _=>true
 | _=>false
def Ra(m D:Nat)(again:List Nat):List Oper->Nat->Bool
 | [],_=>true
 | o::r,i=>bif (bif tb D i then(bif tb m i then true else bif kU o.op then true else bif uM o.op then true else tI i again)else true)then Ra m D again r (i+1)else false
def rY(ops:List Oper)(i D:Nat):Option Nat:=
 ob (oD ops i) fun o=>sB (bif tb D i then false else tZ D o) (some (Nat.lor D (Be i)))
def vR(ops:List Oper):List Nat->Nat->Option Nat
 | [],D=>some D
 | i::l,D=>ob (rY ops i D) fun D=>vR ops l D
def Qy(D:Nat):List Oper->Nat->Bool
 | [],_=>true
 | _::r,i=>bif tb D i then Qy D r (i+1)else false
def zj0:Option Oper->Bool
 | some o=>uM o.op
 | none=>false
def okG (ops:List Oper)(D:Nat):List Nat->Nat->Option Nat
 | [],E=>some E
 | i::l,E=>ob (oD ops i) fun o=>sB (!tb E i&&tZ D o&&nE o.dst) (okG ops D l (Nat.lor E (Be i)))
def Qu(anc:Tr Nat)(D1:Nat)(G:List Nat):List Oper->Nat->Bool
 | [],_=>true
 | o::r,i=>bif (bif tb D1 i then true else bif zC (fun g=>tb (dJ anc i) g) G then true else !tZ D1 o)then Qu anc D1 G r (i+1)else false
def Ms(o:Op):Bool:=
 match o with
 | .call c=>(match c.callee with
  | .builtin .len=>true
  | _=>false)
 | _=>false
def Qz(anc:Tr Nat)(D:Nat)(G:List Nat):List Oper->Nat->Bool
 | [],_=>true
 | o::r,i=>bif (bif tb D i then(bif kU o.op then true else bif uM o.op then true else bif Ms o.op then true else zC (fun g=>tb (dJ anc g) i) G)else true)then Qz anc D G r (i+1)else false
def GU(ops:List Oper)(anc:Tr Nat)(D:Nat)(st:bG):Option Nat:=
 ob (okG ops D st.again D) fun D1=>sB (Qu anc D1 st.again ops 0&&Qz anc D st.again ops 0) (vR ops st.lights D1)
def zK(ops:List Oper)(anc:Tr Nat):List bG->Nat->Bool
 | [],D=>Qy D ops 0
 | st::r,D=>bif Nat.blt (wB ops) st.heavy then(bif Nat.blt (wB ops+wB ops) st.heavy then(match GU ops anc D st with
   | some D=>zK ops anc r D
   | none=>false)else bif zj0 (oD ops (Nat.sub st.heavy (Nat.succ (wB ops))))then
   (match ob (rY ops (Nat.sub st.heavy (Nat.succ (wB ops))) D) fun D=>vR ops st.lights D with
   | some D=>zK ops anc r D
   | none=>false)else false)else bif Qw st.heavy D ops 0 then(bif Ra (dJ anc st.heavy) D st.again ops 0 then
   (match ob (rY ops st.heavy D) fun D=>vR ops st.lights D with
   | some D=>zK ops anc r D
   | none=>false)else false)else false
def Xu(ops:List Oper)(p:Plan):Bool:=
 bif Qx ops 0 then
  (match Gr ops 0 .leaf with
  | none=>false
  | some wr=>
   (fun anc=>bif Qv wr anc p.olds ops 0 then(match vR ops p.first 0 with
    | some D=>zK ops anc p.stages D
    | none=>false)else false) (zky ops 0 .leaf))else false
structure OkB where b:Bool
def iU(all:Array Oper)(p:Plan):Bool:=(OkB.mk (Xu all.toList p)).b
def Jy(id:Nat)(all:Array Oper):yO:=fun C k tm R cs H=>
 vM (ob (ob (C.plans.get R.fn) fun t=>t.get id) fun p=>sB (iU all p) <| ob (iS C H all R.n tm.cut p.olds p.first tm.cut) fun tm'=>some ⟨⟨.reg all tm.cut p.olds p.stages::k,tm',R⟩,cs,H⟩) 10
def jK.asVal:jK->Option (zA × xA) | .val v H=>some (v,H) | _=>none
def kM(C:cA)(all:Array Oper)(k:List jE)(R:rK)(cs:List aB)(l:List Oper):Tm->xA->qG:=
 List.rec (motive:=fun _=>Tm->xA->qG) (fun tm H=>xGo k tm R cs H)
  (fun o rest g tm H=>
   match pG o.guard all tm with
   | some w=>Bool.rec (motive:=fun _=>qG) (g (putA R.n tm o.dst aD) H)
     (let r:=(yF o.op).f C (.now tm) H
     match r.asVal with
     | some p=>g (putA R.n tm o.dst p.1) p.2
     | none=>Jh r C ⟨.ops all (o::rest)::k,tm,R⟩ cs H) w
   | none=>.fail 20) l
def xOps (all:Array Oper)(rest:List Oper):yO:=fun C k tm R cs H=>kM C all k R cs rest tm H
def zhd(id:Nat)(all:Array Oper)(draw:Bool):XB:=
 match draw with
 | true=>⟨Jy id all⟩
 | false=>⟨fun C k tm R cs H=>kM C all k R cs all.toList tm.cut H⟩
def Oo(all:Array Oper)(old:Tm)(olds:List (Nat × List Nat))(st:bG)(stages:List bG)(o:Oper):yO:=fun C k tm R cs H=>
 match pG o.guard all tm with
 | some w=>Jh (bif w then(yF o.op).f C (.mixed tm old (fF st.heavy olds) (vI o.op)) H else .val aD H) C ⟨.reg all old olds (st::stages)::k,tm,R⟩ cs H
 | none=>.fail 21
def Jw(all:Array Oper)(old:Tm)(olds:List (Nat × List Nat))(st:bG)(stages:List bG):yO:=fun C k tm R cs H=>
 vM (sB (Dk C H all old olds tm st.again) (ob (iS C H all R.n old olds st.lights tm) fun tm=>some ⟨⟨.reg all old olds stages::k,tm,R⟩,cs,H⟩)) 11
def Ot(all:Array Oper)(old:Tm)(olds:List (Nat × List Nat))(st:bG)(stages:List bG)(i:Nat):yO:=fun C k tm R cs H=>
 vM (ob (oD all.toList i) fun o=>ob (pG o.guard all tm) fun w=>sB (w&&nE (aZ C o.op)) (ob ((yF o.op).f C (.mixed tm old (fF i olds) (vI o.op)) H).asVal fun p=>
  ob (iS C p.2 all R.n old olds st.lights (putA R.n tm o.dst p.1)) fun tm'=>some ⟨⟨.reg all old olds stages::k,tm',R⟩,cs,p.2⟩)) 23
inductive wO where
 | store (t:Nat) (a v:zA)
 | upd (t:Nat) (m k v:zA)
inductive RE where
 | st (b off:Nat) (l:List zA)
 | up (b:Nat) (k v:zA)
def Aw(op:Op)(e:qD):Option wO:=
 match op with
 | .store t a x=>ob (ev a e) fun a=>ob (ev x e) fun v=>some (.store t a v)
 | .mapUpdate t m k x=>ob (ev m e) fun m=>ob (ev k e) fun k=>ob (ev x e) fun v=>some (.upd t m k v)
 | .insert t m k x=>ob (ev m e) fun m=>ob (ev k e) fun k=>ob (ev x e) fun v=>some (.upd t m k v)
 | _=>none
def xW (C:cA)(e:wO):Option RE:=
 match e with
 | .store t a v=>ob (C.tys.get t) fun ty=>ob a.asPtr fun p=>sB (Nat.beq (wB v.cells) ty.size) (some (.st p.1 p.2 v.cells))
 | .upd t m k v=>ob (C.tys.get t) fun ty=>ob ty.desc.asMap fun ke=>ob (C.tys.get ke.1) fun kty=>sB (bU C kty&&gS C kty k) (ob m.asMap fun b=>some (.up b k v))
def RE.blk:RE->Nat
 | .st b _ _=>b
 | .up b _ _=>b
def HD(a b:zA):Bool:=
 match eI a b with
 | some r => !r
 | none=>false
def BM(a b:RE):Bool:=bif Nat.beq a.blk b.blk then(match a with
 | .st _ _ _=>false
 | .up _ k _=>(match b with
  | .st _ _ _=>false
  | .up _ k' _=>HD k k'))else true
def Tp:List RE->Bool
 | []=>true
 | a::l=>zC (BM a) l&&Tp l
def Bg(C:cA)(H:xA)(e:RE):Option xA:=
 match e with
 | .st b off l=>jJ C H b off l
 | .up b k v=>sB (!Nat.blt b C.base) (ob (gL H b) fun m=>some (setBlk H b (.map (yE m [(k,v)]))))
def Hl(C:cA)(H:xA)(e:RE):Bool:=
 match e with
 | .st b off l => !nE (jJ C H b off l)
 | .up b _ _ => !Nat.blt b C.base&&(match gL H b with
  | some []=>true
  | _=>false)
def Gh(C:cA):List RE->xA->Option xA
 | [],H=>some H
 | e::l,H=>ob (Bg C H e) fun H=>Gh C l H
def An(C:cA)(es:List wO)(H:xA):Option xA:=ob (mH (xW C) es) fun rs=>sB (Tp rs&&zC (Hl C H) rs) (Gh C rs H)
def lY(all:Array Oper)(old:Tm)(olds:List (Nat × List Nat))(tm:Tm)(i:Nat):Option wO:=
 ob (oD all.toList i) fun o=>ob (pG o.guard all tm) fun w=>sB w (Aw o.op (.mixed tm old (fF i olds) (vI o.op)))
def Rr(C:cA)(o:Oper):Bool:=
 match o.op with
 | .call c=>(match c.callee with
  | .builtin .len=>(match ob (oD c.argTypes.toList 0) fun t=>C.tys.get t with
   | some ty => !Nat.beq ty.desc.tag 6
   | none=>false)
  | _=>true)
 | _=>true
def qY(C:cA)(all:Array Oper):Bool:=zC (Rr C) all.toList
def Iw(all:Array Oper)(old:Tm)(olds:List (Nat × List Nat))(tm:Tm)(l:List Nat):Option (List wO):=mH (lY all old olds tm) l
def Oq(all:Array Oper)(old:Tm)(olds:List (Nat × List Nat))(st:bG)(stages:List bG):yO:=fun C k tm R cs H=>
 vM (sB (qY C all) (ob (Iw all old olds tm st.again) fun es=>ob (An C es H) fun H'=>ob (iS C H' all R.n old olds st.lights tm) fun tm'=>some ⟨⟨.reg all old olds stages::k,tm',R⟩,cs,H'⟩)) 24
def wT (all:Array Oper)(old:Tm)(olds:List (Nat × List Nat))(stages:List bG):yO:=
 match stages with
 | []=>Dv
 | st::stages=>match oD all.toList st.heavy with
  | some o=>Oo all old olds st stages o
  | none=>bif Nat.blt (wB all.toList) st.heavy then(bif Nat.blt (wB all.toList+wB all.toList) st.heavy then Oq all old olds st stages else Ot all old olds st stages (Nat.sub st.heavy (Nat.succ (wB all.toList))))else Jw all old olds st stages
def kZ(C:cA)(l:Nat)(f:zA):Option aB:=
 ob f.asFunc fun p=>match p.1 with
  | .func g=>match C.prims.get g with
   | none=>oK C g (yE p.2.1 (.func (.yld l) [] []::p.2.2)) false
   | some _=>none
  | .yld _=>none
def Jv(f:Operand)(params:Array Nat)(assign body:Code):yO:=fun C k tm R cs H=>
 vM (ob (ev f (.now tm)) fun v=>match R.roundOf with
  | none=>
   let r:=H.next
   let l:=r+1
   ob (kZ C l v) fun h=>
    some ⟨h,⟨.inRange l::k,tm,⟨R.fn,R.n,⟨none,r,[]⟩::R.defers,R.mode,R.deferred,R.roundOf⟩⟩::cs,
     newBlk (newBlk H (.deferred (some []))) (.loop ⟨.ready,none,R.fn,R.n,tm,params.toList,assign,body,r⟩)⟩
  | some outer=>ob (pJ H outer) fun o=>
   let l:=H.next
   ob (kZ C l v) fun h=>
    some ⟨h,⟨.inRange l::k,tm,R⟩::cs,newBlk H (.loop ⟨.ready,none,R.fn,R.n,tm,params.toList,assign,body,o.defers⟩)⟩) 12
def LoopState.tag:LoopState->Nat | .ready=>0 | .busy=>1 | .done=>2 | .exhausted=>3
def Ka:yO:=fun _ k tm R cs H=>
 vM (ob R.roundOf fun l=>ob (pJ H l) fun r=>sB (Nat.beq (LoopState.tag r.state) 0)
  (some ⟨⟨k,tm,R⟩,cs,setBlk H l (.loop ⟨.busy,r.pending,r.fn,r.n,r.tm,r.params,r.assign,r.body,r.defers⟩)⟩)) 13
def Jx(l:Nat):yO:=fun _ k tm R cs H=>
 vM (ob (pJ H l) fun r=>sB (!Nat.beq (LoopState.tag r.state) 1)
  (some ⟨⟨(match r.pending with | some c=>.code c::k | none=>k),tm,R⟩,cs,setBlk H l (.loop ⟨.exhausted,r.pending,r.fn,r.n,r.tm,r.params,r.assign,r.body,r.defers⟩)⟩)) 14
def zhg:Code->XB
 | .skip=>⟨Dv⟩
 | .region id ops d=>zhd id ops d
 | .seq a b=>⟨fun C k tm R cs H=>(zhg a).f C (.code b::k) tm R cs H⟩
 | .cond c x y=>⟨Jz c x y⟩
 | .block id c=>⟨zev id c⟩
 | .loop c=>⟨zhe c⟩
 | .rangeFunc f ps a b=>⟨Jv f ps a b⟩
 | .exit id=>⟨Bm id⟩
 | .scope c=>⟨xScope c⟩
 | .label _=>⟨Dv⟩
 | .goto _=>⟨zhf⟩
 | .ret=>⟨xRet⟩
 | .refuse _=>⟨zhf⟩
def xItem:jE->XB
 | .code c=>zhg c
 | .inBlock _=>⟨Dv⟩
 | .inLoop c=>⟨zhe c⟩
 | .inScope _=>⟨Dv⟩
 | .ops all rest=>⟨xOps all rest⟩
 | .reg all old olds stages=>⟨wT all old olds stages⟩
 | .inRange _=>⟨zhf⟩
 | .endRange l=>⟨Jx l⟩
 | .beginRound=>⟨Ka⟩
def cS(C:cA)(todo:List jE)(tm:Tm)(R:rK)(cs:List aB)(H:xA):qG:=
 match todo with
 | []=>iT none C ⟨[],tm,R⟩ cs H
 | x::k=>(xItem x).f C k tm R cs H
def EP(fr:aB)(d:List dH):aB:=⟨fr.todo,fr.tm,⟨fr.R.fn,fr.R.n,d,fr.R.mode,fr.R.deferred,fr.R.roundOf⟩⟩
def Eh(C:cA)(d:dH)(ds:List dH)(fr:aB)(cs:List aB)(H:xA):qG:=
 vM (match d.fn with
  | none=>ob (vX H d.r) fun l=>ob l fun l=>some ⟨EP fr (yE l ds),cs,setBlk H d.r (.deferred none)⟩
  | some (.func f)=>match C.prims.get f with
   | none=>ob (oK C f d.args true) fun g=>some ⟨g,EP fr ds::cs,H⟩
   | some _=>none
  | some (.yld _)=>none) 15
def Ei(l:List zA):zA:=
 match l with
 | [v]=>v
 | l=>.tup l
def Ef(C:cA)(fr:aB)(cs:List aB)(H:xA):qG:=
 match ob (C.fns.get fr.R.fn) fun fn=>lU C H fr.tm fn.results.toList with
 | none=>.fail 16
 | some l=>
  match cs with
  | []=>bif fr.R.deferred then .fail 17 else bif Nat.beq fr.R.fn C.root then .done (Ei l) H else .fail 22
  | c::rest=>vM (bif fr.R.deferred then
    (match c.R.mode with
    | .panicking (⟨_,true⟩::_)=>some ⟨nZ c .returning,rest,H⟩
    | _=>sB (!c.R.mode.running) (some ⟨c,rest,H⟩))
   else ob (cH c (Ei l)) fun c=>some ⟨c,rest,H⟩) 18
def Pc(C:cA)(fr:aB)(cs:List aB)(H:xA):qG:=
 match fr.R.defers with
 | d::ds=>Eh C d ds fr cs H
 | []=>match fr.R.mode.chain with
  | some chain=>vM (ob (C.fns.get fr.R.fn) fun _=>match cs with | c::rest=>some ⟨wW c chain,rest,H⟩ | []=>none) 19
  | none=>Ef C fr cs H
def stepA(C:cA)(s:aR):qG:=
 match s with
 | ⟨⟨todo,tm,R⟩,cs,H⟩=>bif R.mode.running then cS C todo tm R cs H else Pc C ⟨todo,tm,R⟩ cs H
def nU(C:cA)(o:qG):qG:=
 match o with
 | .next s=>stepA C s
 | .done v H=>.done v H
 | .fail n=>.fail n
def Ep (C:cA)(n:Nat):qG->qG:=
 Nat.rec (motive:=fun _=>qG->qG) (fun o=>nU C o) (fun _ g o=>g (g o)) n
end Go.Am
namespace Go.Am
open Go
theorem sA{α β:Type}{x:Option α}{f:α->Option β}{b:β}:ob x f=some b ↔ ∃a,x=some a/\f a=some b:=by
 cases x with
 | none=>simp[ob]
 | some a=>exact⟨fun h=>⟨a,rfl,h⟩,fun⟨_,h,k⟩=>by cases h;exact k⟩
@[simp] theorem zi0 {α β:Type} {f:α->Option β}:ob none f=none:=rfl
@[simp] theorem oA {α β:Type} {a:α} {f:α->Option β}:ob (some a) f=f a:=rfl
theorem rB{α:Type}{b:Bool}{x:Option α}{a:α}:sB b x=some a ↔ b=true/\x=some a:=by
 cases b with
 | false=>simp[sB]
 | true=>simp[sB]
theorem nK{α:Type}(a b:α)(c:Bool):(Bool.rec (motive:=fun _=>α) a b c:α)=if c=true then b else a:=by cases c<;>rfl
theorem eC{n m:Nat}:(Nat.beq n m=true) ↔ n=m:=⟨Nat.eq_of_beq_eq_true,fun h=>by simp_all⟩
theorem beqf{n m:Nat}:(Nat.beq n m=false) ↔ n≠m:=by
 rw[<- Bool.not_eq_true,eC]
theorem kE{n m:Nat}:(Nat.ble n m=true) ↔ n<=m:=Iff.of_eq Nat.ble_eq
theorem kC{n m:Nat}:(Nat.blt n m=true) ↔ n<m:=Iff.of_eq Nat.ble_eq
def lD{α:Type}(c:Bool)(a b:α):(bif c then a else b)=if c=true then a else b:=by cases c<;>rfl
namespace Tr
variable {α:Type}
theorem get_leaf(n:Nat):(leaf:Tr α).get n=none:=rfl
theorem get_node(l:Tr α)(v:Option α)(r:Tr α)(n:Nat) :
  (node l v r).get n=if n=0 then v else if n%2=1 then l.get (n / 2)else r.get (n / 2-1):=by
 show Bool.rec (motive:=fun _=>Option α) (Bool.rec (motive:=fun _=>Option α) (r.get (n / 2-1)) (l.get (n / 2)) (Nat.beq (n%2) 1)) v (Nat.beq n 0)=_
 grind [nK,eC]
theorem Rd(f n:Nat)(v:α):mk (f+1) n v=if n=0 then node leaf (some v) leaf else if n%2=1 then node (mk f (n / 2) v) none leaf else node leaf none (mk f (n / 2-1) v):=by
 show Bool.rec (motive:=fun _=>Tr α) (Bool.rec (motive:=fun _=>Tr α) (node leaf none (mk f (n / 2-1) v)) (node (mk f (n / 2) v) none leaf) (Nat.beq (n%2) 1)) (node leaf (some v) leaf) (Nat.beq n 0)=_
 grind [nK,eC]
def Qa(n:Nat)(v:α):(leaf:Tr α).set n v=mk (n+1) n v:=rfl
theorem xI(l:Tr α)(x:Option α)(r:Tr α)(n:Nat)(v:α) :
  (node l x r).set n v=if n=0 then node l (some v) r else if n%2=1 then node (l.set (n / 2) v) x r else node l x (r.set (n / 2-1) v):=by
 show Bool.rec (motive:=fun _=>Tr α) (Bool.rec (motive:=fun _=>Tr α) (node l x (r.set (n / 2-1) v)) (node (l.set (n / 2) v) x r) (Nat.beq (n%2) 1)) (node l (some v) r) (Nat.beq n 0)=_
 grind [nK,eC]
theorem zea(l:Tr α)(x:Option α)(r:Tr α)(n:Nat) :
  (node l x r).del n=if n=0 then node l none r else if n%2=1 then node (l.del (n / 2)) x r else node l x (r.del (n / 2-1)):=by
 show Bool.rec (motive:=fun _=>Tr α) (Bool.rec (motive:=fun _=>Tr α) (node l x (r.del (n / 2-1))) (node (l.del (n / 2)) x r) (Nat.beq (n%2) 1)) (node l none r) (Nat.beq n 0)=_
 grind [nK,eC]
theorem get_mk(f:Nat):∀(n m:Nat) (v:α),n<f->(mk f n v).get m=if m=n then some v else none:=by
 induction f with
 | zero=>omega
 | succ f ih=>
  grind [Rd,get_node,get_leaf]
theorem get_set(t:Tr α):∀(n m:Nat) (v:α),(t.set n v).get m=if m=n then some v else t.get m:=by
 induction t with
 | leaf=>intro n m v;rw[Qa,get_mk _ _ _ _ (by omega),get_leaf]
 | node l x r ihl ihr=>
  grind [xI,get_node]
def zfx:∀(f g n:Nat) (v:α),n<f->n<g->mk f n v=mk g n v:=by
 intro f;induction f with
 | zero=>omega
 | succ f ih=>
  intro g n v h1 h2
  cases g with
  | zero=>omega
  | succ g=>
   rw[Rd,Rd];split
   ·rfl
   ·split
    ·rw[ih g _ v (by omega) (by omega)]
    ·rw[ih g _ v (by omega) (by omega)]
def EK(n:Nat)(v:α):(leaf:Tr α).set n v=if n=0 then node leaf (some v) leaf else if n%2=1 then node (leaf.set (n / 2) v) none leaf else node leaf none (leaf.set (n / 2-1) v):=by
 rw[Qa,Rd];split
 ·rfl
 ·split
  ·rw[Qa,zfx n (n / 2+1) _ v (by omega) (by omega)]
  ·rw[Qa,zfx n (n / 2-1+1) _ v (by omega) (by omega)]
def RX:∀(s n m:Nat) (x y:α),n+m<=s->n≠m->((leaf:Tr α).set n x).set m y=((leaf:Tr α).set m y).set n x:=by
 intro s;induction s with
 | zero=>omega
 | succ s ih=>
  intro n m x y hs hne;rw[EK n x,EK m y];by_cases h1:n=0
  ·have h2:m≠0:=by omega
   rw[yab h1,yaa h2,xI,yaa h2];split
   ·rw[xI,yab h1]
   ·rw[xI,yab h1]
  ·rw[yaa h1]
   by_cases h2:m=0
   ·rw[yab h2]
    split
    ·rw[xI,yab h2,xI,yaa h1];rename_i h;rw[yab h]
    ·rw[xI,yab h2,xI,yaa h1];rename_i h;rw[yaa h]
   ·rw[yaa h2]
    by_cases h3:n%2=1<;>by_cases h4:m%2=1
    ·rw[yab h3,yab h4,xI,yaa h2,yab h4,xI,yaa h1,yab h3,ih _ _ x y (by omega) (by omega)]
    ·rw[yab h3,yaa h4,xI,yaa h2,yaa h4,xI,yaa h1,yab h3]
    ·rw[yaa h3,yab h4,xI,yaa h2,yab h4,xI,yaa h1,yaa h3]
    ·rw[yaa h3,yaa h4,xI,yaa h2,yaa h4,xI,yaa h1,yaa h3,ih _ _ x y (by omega) (by omega)]
def set_comm(t:Tr α):∀(n m:Nat) (x y:α),n≠m->(t.set n x).set m y=(t.set m y).set n x:=by
 induction t with
 | leaf=>exact fun n m x y h=>RX (n+m) n m x y (ybk _) h
 | node l v r ihl ihr=>
  intro n m x y hne;rw[xI l v r n x,xI l v r m y];by_cases h1:n=0
  ·have h2:m≠0:=by omega
   rw[yab h1,yaa h2,xI,yaa h2];split
   ·rw[xI,yab h1]
   ·rw[xI,yab h1]
  ·rw[yaa h1]
   by_cases h2:m=0
   ·rw[yab h2]
    split
    ·rw[xI,yab h2,xI,yaa h1];rename_i h;rw[yab h]
    ·rw[xI,yab h2,xI,yaa h1];rename_i h;rw[yaa h]
   ·rw[yaa h2]
    by_cases h3:n%2=1<;>by_cases h4:m%2=1
    ·rw[yab h3,yab h4,xI,yaa h2,yab h4,xI,yaa h1,yab h3,ihl _ _ x y (by omega)]
    ·rw[yab h3,yaa h4,xI,yaa h2,yaa h4,xI,yaa h1,yab h3]
    ·rw[yaa h3,yab h4,xI,yaa h2,yab h4,xI,yaa h1,yaa h3]
    ·rw[yaa h3,yaa h4,xI,yaa h2,yaa h4,xI,yaa h1,yaa h3,ihr _ _ x y (by omega)]
theorem get_del(t:Tr α):∀(n m:Nat),(t.del n).get m=if m=n then none else t.get m:=by
 induction t with
 | leaf=>intro n m;show(leaf:Tr α).get m=_;rw[get_leaf];split<;>rfl
 | node l x r ihl ihr=>
  grind [zea,get_node]
def many_succ(t:Tr α)(n i:Nat):t.many (n+1) i=ob (t.get i) fun v=>ob (t.many n (i+1)) fun l=>some (v::l):=rfl
theorem many_some(t:Tr α)(n:Nat):∀(i:Nat) (l:List α),t.many n i=some l->l.length=n/\∀j,j<n->t.get (i+j)=l[j]?:=by
 induction n with
 | zero=>intro i l h;cases h;simp_all
 | succ n ih=>
  intro i l h;rw[many_succ,sA]at h;obtain⟨v,hv,h⟩:=h
  rw[sA]at h;grind
theorem SC(v:α)(l:List α)(t:Tr α)(i:Nat):setMany (v::l) t i=setMany l (t.set i v) (i+1):=rfl
theorem get_setMany(l:List α):∀(t:Tr α) (i m:Nat),(setMany l t i).get m=if i<=m/\m<i+l.length then l[m-i]? else t.get m:=by
 induction l with
 | nil=>intro t i m;rw[yaa (by simp)];rfl
 | cons v l ih=>
  grind [SC,get_set]
theorem get_ofList(l:List α)(m:Nat):(ofList l).get m=l[m]?:=by
 grind [ofList,get_setMany,get_leaf]
end Tr
theorem sH{α:Type}(l:List α):∀n,oD l n=l[n]?:=by
 induction l with
 | nil=>intro n;rfl
 | cons a l ih=>
  intro n
  cases n with
  | zero=>rfl
  | succ n=>show oD l n=_;grind
theorem rR{α:Type}(l:List α):∀n,qR l n=l.drop n:=by
 induction l with
 | nil=>intro n;simp;rfl
 | cons a l ih=>
  intro n
  cases n with
  | zero=>rfl
  | succ n=>show qR l n=_;grind
theorem kS{α:Type}(l:List α):∀n,bZ l n=l.take n:=by
 induction l with
 | nil=>intro n;simp;rfl
 | cons a l ih=>
  intro n
  cases n with
  | zero=>rfl
  | succ n=>show a::bZ l n=_;grind
theorem jD{α:Type}(l:List α):wB l=l.length:=by
 induction l with
 | nil=>rfl
 | cons a l ih=>grind [wB]
theorem rH{α:Type}(l m:List α):yE l m=l++m:=by
 induction l with
 | nil=>rfl
 | cons a l ih=>grind [yE]
theorem fI{α:Type}(p:α->Bool)(l:List α):zC p l=l.all p:=by
 induction l with
 | nil=>rfl
 | cons a l ih=>show(bif p a then zC p l else false)=_;rw[ih];cases h:p a<;>simp[h]
theorem tQ{α β:Type}(f:α->Option β)(a:α)(l:List α):mH f (a::l)=ob (f a) fun b=>ob (mH f l) fun r=>some (b::r):=rfl
theorem Fe{α β:Type}(f:α->Option β):mH f []=some []:=rfl
theorem cZ(i:Nat)(l:List Nat):tI i l=true ↔ i∈l:=by
 induction l with
 | nil=>exact⟨fun h=>(by cases h),fun h=>(by cases h)⟩
 | cons j l ih=>
  grind [tI,eC]
theorem sN(a:List Nat):∀b,sG a b=true ↔ a=b:=by
 induction a with
 | nil=>intro b;cases b with
  | nil=>exact⟨fun _=>rfl,fun _=>rfl⟩
  | cons y b=>exact⟨fun h=>(by cases h),fun h=>(by cases h)⟩
 | cons x a ih=>
  intro b
  cases b with
  | nil=>exact⟨fun h=>(by cases h),fun h=>(by cases h)⟩
  | cons y b=>
   simp_all [sG]
theorem mP{a b:IntKind}:gN a b=true ↔ a=b:=by cases a<;>cases b<;>simp[gN,kIdx]
theorem dY(a b:Bool):bEq a b=(a == b):=by cases a<;>cases b<;>rfl
theorem Ak(a b:Int):wC a b=true ↔ a=b:=by
 cases a<;>cases b<;>simp only[wC,eC] <;> (try simp)<;>omega
theorem KQ(a b:Int):xH a b=true ↔ a<=b:=by
 cases a<;>cases b<;>simp only[xH,kE] <;> (try simp)<;>omega
theorem Rz(a b:Int):oC a b=true ↔ a<b:=by
 cases a<;>cases b<;>simp only[oC,kC] <;> (try simp)<;>omega
theorem Cw(a b:Int):wC a b=(a == b):=by grind [Ak]
theorem zgt(a b:Int):xH a b=decide (a<=b):=by grind [KQ]
theorem zgs(a b:Int):oC a b=decide (a<b):=by grind [Rz]
theorem dP(k:IntKind)(n:Int):bA k n=k.wrap n:=by
 cases n with
 | ofNat n=>
  show(bif Nat.blt n (yH k)then Int.ofNat n else _)=_
  rw[lD];by_cases h:Nat.blt n (yH k)=true
  ·rw[yab h]
   have h':=kC.1 h
   cases k<;>simp only[yH]at h'<;>simp only[IntKind.wrap,IntKind.bits,IntKind.signed]<;>simp<;>omega
  grind
 | negSucc n=>
  show(bif Nat.blt n (kLo k)then Int.negSucc n else _)=_
  rw[lD];by_cases h:Nat.blt n (kLo k)=true
  ·rw[yab h]
   have h':=kC.1 h
   cases k<;>simp only[kLo]at h'<;>simp only[IntKind.wrap,IntKind.bits,IntKind.signed]<;>simp<;>omega
  grind
theorem Mc{n:Int}{m:Nat}:iN n=some m ↔ n=(m:Int):=by
 cases n with
 | ofNat a=>grind [iN]
 | negSucc a=>grind [iN]
end Go.Am
namespace Go.Am
open Go
variable {a b k v:zA}{r:Bool}{l l' m:List (zA × zA)}
theorem Il  (h:nR a b=some r) :
  (∃k x y,a=.int k x/\b=.int k y/\r=(x == y))\/(∃x y,a=.str x/\b=.str y/\r=sG x y)\/(∃x y,a=.bool x/\b=.bool y/\r=(x == y)):=by
 cases a<;>simp only[nR,zA.asIntK,zA.asStr,Iu,zA.asBool]at h<;>try (cases h;done)
 case bool x=>
  rw[oA,sA]at h;grind [dY]
 all_goals grind [sA,rB,mP,Cw]
def JU (h:nR a b=some true):a=b:=by
 grind [Il,sN]
def JV  (h:nR a b=some r):nR b a=some r:=by
 rcases Il h with⟨k,x,y,rfl,rfl,hr⟩ | ⟨x,y,rfl,rfl,hr⟩ | ⟨x,y,rfl,rfl,hr⟩
 ·have e:wC y x=(x == y):=by grind [Cw]
  show sB (gN k k) (some (wC y x))=_
  grind [rB,mP]
 ·grind [nR,zA.asIntK,zA.asStr,oA,sN]
 ·simp only[nR,zA.asIntK,zA.asStr,Iu,zA.asBool,dY,oA,hr]
  rw[show(y == x)=(x == y) by cases x<;>cases y<;>rfl]
def JN:∀ {x y:List zA},dU x y=some true->x=y
 | [],[],_=>rfl
 | a::x,b::y,h=>by
  simp only[dU,sA]at h;obtain⟨r,hr,s,hs,h⟩:=h
  cases r<;>cases s<;>simp at h
  rw[JU hr,JN hs]
 | [],_::_,h=>by cases h
 | _::_,[],h=>by cases h
def JO:∀ {x y:List zA} {r:Bool},dU x y=some r->dU y x=some r
 | [],[],_,h=>h
 | a::x,b::y,r,h=>by
  simp only[dU,sA]at h ⊢
  obtain⟨r1,hr,s,hs,h⟩:=h
  exact⟨r1,JV hr,s,JO hs,h⟩
 | [],_::_,_,h=>by cases h
 | _::_,[],_,h=>by cases h
def Mq  (h:eI a b=some r):(∃x y,a=.agg x/\b=.agg y/\dU x y=some r)\/(a.asAgg=none/\nR a b=some r):=by
 unfold eI at h;split at h
 ·rename_i x hx
  rw[sA]at h;obtain⟨y,hy,h⟩:=h
  cases a<;>simp[zA.asAgg]at hx
  cases b<;>simp[zA.asAgg]at hy
  simp_all
 simp_all
def WL  (h:nR a b=some r):eI a b=some r:=by
 rcases Il h with⟨k,x,y,rfl,rfl,hr⟩ | ⟨x,y,rfl,rfl,hr⟩ | ⟨x,y,rfl,rfl,hr⟩<;>exact h
theorem JT (h:eI a b=some true):a=b:=by
 rcases Mq h with⟨x,y,rfl,rfl,h⟩ | ⟨_,h⟩
 ·rw[JN h]
 ·exact JU h
theorem Mp  (h:eI a b=some r):eI b a=some r:=by
 rcases Mq h with⟨x,y,rfl,rfl,h⟩ | ⟨_,h⟩
 ·exact JO h
 ·exact WL (JV h)
def DK (l:List (zA × zA)):Prop:=l.Pairwise fun p q=>eI p.1 q.1=some false
def Jn(l l':List (zA × zA)):Prop:=l'=l\/(l.Perm l'/\DK l)
def DK.perm (h:DK l)(p:l.Perm l'):DK l':=(p.pairwise_iff (fun hab=>Mp hab)).1 h
theorem AA{k:zA}:∀ {l:List (zA × zA)},jL k l=some none ↔ ∀e∈l,eI k e.1=some false
 | []=>by simp[jL]
 | e::l=>by
  rw[jL,sA];constructor
  ·rintro⟨r,hr,h⟩
   cases r with
   | true=>cases h
   | false=>
    rw[cond_false]at h;intro x hx;rcases ybs.1 hx with rfl | hx
    ·exact hr
    ·exact AA.1 h x hx
  ·intro h
   exact⟨false,h e (.head _),AA.2 fun x hx=>h x (.tail _ hx)⟩
def LN{k v:zA}:∀ {l:List (zA × zA)},jL k l=some (some v)->(k,v)∈l/\eI k k=some true
 | [],h=>by cases h
 | e::l,h=>by
  rw[jL,sA]at h;obtain⟨r,hr,h⟩:=h
  cases r with
  | true=>
   grind [JT]
  | false=>
   rw[cond_false]at h;obtain⟨h1,h2⟩:=LN h
   simp_all
def DK.split  (h:DK (l++(k,v)::m)):(∀e∈l,eI k e.1=some false)/\∀e∈m,eI k e.1=some false:=by
 unfold DK at h;rw[List.pairwise_append]at h;obtain⟨_,h2,h3⟩:=h
 rw[List.pairwise_cons]at h2;exact⟨fun e he=>Mp (h3 e he (k,v) (.head _)),fun e he=>h2.1 e he⟩
def XH  (h:∀e∈l,eI k e.1=some false):jL k (l++m)=jL k m:=by
 induction l with
 | nil=>rfl
 | cons e l ih=>
  grind [jL,oA]
def XI  {r:Option zA}(h:Jn l l')(hf:jL k l=some r):jL k l'=some r:=by
 rcases h with rfl | ⟨p,d⟩
 ·exact hf
 cases r with
 | none=>
  grind [AA]
 | some v=>
  obtain⟨h1,h2⟩:=LN hf
  obtain⟨a,b,rfl⟩:=List.append_of_mem (p.mem_iff.1 h1)
  rw[XH (d.perm p).split.1,jL,h2,oA,cond_true]
def Wm{k v:zA}:∀ {l:List (zA × zA)},(∀e∈l,eI k e.1=some false)->nO k v l=some (l++[(k,v)])
 | [],_=>rfl
 | e::l,h=>by
  rw[nO,h e (.head _),oA,cond_false,Wm fun x hx=>h x (.tail _ hx)]
  rfl
def EN{k v u:zA}{m:List (zA × zA)}(hk:eI k k=some true):∀ {l:List (zA × zA)},(∀e∈l,eI k e.1=some false)->nO k v (l++(k,u)::m)=some (l++(k,v)::m)
 | [],_=>by simp_all [nO]
 | e::l,h=>by
  rw[List.cons_append,nO,h e (.head _),oA,cond_false,EN hk fun x hx=>h x (.tail _ hx)]
  rfl
def EM{k v:zA}:∀ {l r:List (zA × zA)},nO k v l=some r->((∀e∈l,eI k e.1=some false)/\r=l++[(k,v)])\/(eI k k=some true/\∃a u b,l=a++(k,u)::b/\r=a++(k,v)::b)
 | [],r,h=>by cases h;simp_all
 | e::l,r,h=>by
  rw[nO,sA]at h;obtain⟨q,hq,h⟩:=h
  cases q with
  | true=>
   rw[cond_true]at h
   cases h;have:=JT hq
   refine .inr ⟨by simp_all,[],e.2,l,?_,rfl⟩
   rw[yah,this]
  | false=>
   rw[cond_false,sA]at h;obtain⟨r',hr,h⟩:=h
   cases h;rcases EM hr with⟨h1,rfl⟩ | ⟨h0,a,u,b,rfl,rfl⟩
   all_goals grind
def RZ {r:List (zA × zA)}(h:Jn l l')(hs:nO k v l=some r):∃r',nO k v l'=some r'/\Jn r r':=by
 rcases h with rfl | ⟨p,d⟩
 ·exact⟨r,hs,.inl rfl⟩
 rcases EM hs with⟨h1,rfl⟩ | ⟨h0,a,u,b,rfl,rfl⟩
 ·refine⟨_,Wm fun e he=>h1 e (p.mem_iff.2 he),.inr ⟨p.append_right _,?_⟩⟩
  unfold DK;rw[List.pairwise_append];exact⟨d,by simp,fun x hx y hy=>by grind [Mp]⟩
 ·obtain⟨a',b',rfl⟩:=List.append_of_mem (p.mem_iff.1 (ycf a (.head b)))
  refine⟨_,EN h0 (d.perm p).split.1,.inr ⟨?_,?_⟩⟩
  ·have p1:(a++b).Perm (a'++b'):=by
    have q1:(a++(k,u)::b).Perm ((k,u)::(a++b)):=List.perm_middle
    have q2:(a'++(k,u)::b').Perm ((k,u)::(a'++b')):=List.perm_middle
    exact(q1.symm.trans (p.trans q2)).cons_inv
   exact List.perm_middle.trans ((p1.cons _).trans List.perm_middle.symm)
  ·unfold DK at d ⊢
   rw[List.pairwise_append,List.pairwise_cons]at d ⊢
   obtain⟨d1,⟨d2,d3⟩,d4⟩:=d
   refine⟨d1,⟨d2,d3⟩,fun x hx y hy=>?_⟩
   rcases ybs.1 hy with rfl | hy
   ·exact d4 x hx (k,u) (.head _)
   grind
end Go.Am
namespace Go.Am
open Go
structure BI where
 b:Nat
 tight:Bool
 es:Nat
 room:Nat
 ro:Bool
structure Mu where
 m:Nat->Option BI
 pd:Nat->Option (uA × Nat × Nat)
instance:CoeFun Mu fun _=>Nat->Option BI:=⟨Mu.m⟩
def Mu.lw(μ ν:Mu):Prop:=∀a i,μ a=some i->ν a=some i
structure Mu.le (μ ν:Mu):Prop where
 f:∀a i,μ a=some i->ν a=some i
 pd:ν.pd=μ.pd
instance {μ ν:Mu}:CoeFun (μ.le ν) fun _=>∀a i,μ a=some i->ν a=some i:=⟨Mu.le.f⟩
instance {μ ν:Mu}:Coe (μ.le ν) (μ.lw ν):=⟨Mu.le.f⟩
def Mu.le_refl(μ:Mu):μ.le μ:=⟨fun _ _ h=>h,rfl⟩
def Mu.le_trans{a b c:Mu}(h:a.le b)(k:b.le c):a.le c:=⟨fun x i hx=>k.f x i (h.f x i hx),k.pd.trans h.pd⟩
def Jo(μ:Mu):AFn->Fn->Prop
 | .func f,fn=>fn=.func f
 | .yld l,fn=>∃i,μ l=some i/\fn=.yield i.b
mutual
def tA (μ:Mu):zA->Value->Prop
 | .bool b,v=>v=.bool b
 | .int k n,v=>v=.int k n
 | .str l,v=>∃s,v=.string s/\eF s=l
 | .nilptr,v=>v=.pointer none
 | .ptr b off,v=>∃i,μ b=some i/\v=.pointer (some ⟨i.b,off,none⟩)
 | .nilslice,v=>v=.slice none 0 0
 | .slice b off len cap,v=>(∃i cap',μ b=some i/\v=.slice (some ⟨i.b,off,none⟩) len cap'/\cap<=cap'/\(i.tight=true->cap'=cap)/\(i.tight=false->off+cap'*i.es<=i.room))\/(b=0/\len=0/\cap=0/\∃a c,v=.slice (some a) 0 c/\(off=0/\c=0\/off=1))
 | .nilmap,v=>v=.map none
 | .map b,v=>∃i,μ b=some i/\v=.map (some i.b)
 | .func f a c,v=>∃fn a' c',v=.func fn a' c'/\Jo μ f fn/\mB μ a a'.toList/\mB μ c c'.toList
 | .nilfunc,v=>v=.nilFunc
 | .iface t x,v=>∃x',v=.iface t x'/\tA μ x x'
 | .niliface,v=>v=.nilIface
 | .agg l,v=>∃cs,v=.agg cs/\mB μ l cs.toList
 | .tup l,v=>∃cs,v=.tuple cs/\mB μ l cs.toList
def mB (μ:Mu):List zA->List Value->Prop
 | [],m=>m=[]
 | a::l,m=>∃v r,m=v::r/\tA μ a v/\mB μ l r
end
theorem Jo.mono{μ ν:Mu}(h:μ.lw ν){f:AFn}{g:Fn}(k:Jo μ f g):Jo ν f g:=by
 cases f with
 | func f=>exact k
 | yld l=>obtain⟨i,h1,h2⟩:=k;exact⟨i,h _ _ h1,h2⟩
mutual
theorem tA.mono{μ ν:Mu}(h:μ.lw ν):∀(a:zA) (v:Value),tA μ a v->tA ν a v
 | .bool _,_,k=>k
 | .int _ _,_,k=>k
 | .str _,_,k=>k
 | .nilptr,_,k=>k
 | .ptr _ _,_,⟨i,h1,h2⟩=>⟨i,h _ _ h1,h2⟩
 | .nilslice,_,k=>k
 | .slice _ _ _ _,_,.inl ⟨i,c,h1,h2⟩=>.inl ⟨i,c,h _ _ h1,h2⟩
 | .slice _ _ _ _,_,.inr k=>.inr k
 | .nilmap,_,k=>k
 | .map _,_,⟨i,h1,h2⟩=>⟨i,h _ _ h1,h2⟩
 | .func _ a c,_,⟨fn,a',c',h1,h2,h3,h4⟩=>⟨fn,a',c',h1,h2.mono h,mB.mono h a _ h3,mB.mono h c _ h4⟩
 | .nilfunc,_,k=>k
 | .iface _ x,_,⟨x',h1,h2⟩=>⟨x',h1,tA.mono h x _ h2⟩
 | .niliface,_,k=>k
 | .agg l,_,⟨cs,h1,h2⟩=>⟨cs,h1,mB.mono h l _ h2⟩
 | .tup l,_,⟨cs,h1,h2⟩=>⟨cs,h1,mB.mono h l _ h2⟩
theorem mB.mono{μ ν:Mu}(h:μ.lw ν):∀(l:List zA) (m:List Value),mB μ l m->mB ν l m
 | [],_,k=>k
 | a::l,_,⟨v,r,h1,h2,h3⟩=>⟨v,r,h1,tA.mono h a v h2,mB.mono h l r h3⟩
end
theorem mB.length{μ:Mu}{l:List zA}:∀ {m:List Value},mB μ l m->m.length=l.length:=by
 induction l with
 | nil=>grind [mB]
 | cons a l ih=>grind [mB]
theorem mB.get{μ:Mu}{l:List zA}:∀ {m:List Value} {i:Nat} {a:zA},mB μ l m->l[i]?=some a->∃v,m[i]?=some v/\tA μ a v:=by
 induction l with
 | nil=>simp_all
 | cons b l ih=>
  grind [mB]
theorem mB.mk{μ:Mu}{l:List zA}:∀ {m:List Value},m.length=l.length->(∀(i:Nat) a v,l[i]?=some a->m[i]?=some v->tA μ a v)->mB μ l m:=by
 induction l with
 | nil=>grind [mB]
 | cons a l ih=>
  intro m h k
  cases m with
  | nil=>simp at h
  | cons v r=>
   rw[mB];exact⟨v,r,rfl,k 0 a v (by simp) (by simp),ih (by grind) fun i a v h1 h2=>k (i+1) a v (by simp_all) (by simp_all)⟩
theorem mB.append{μ:Mu}{l l':List zA}:∀ {m m':List Value},mB μ l m->mB μ l' m'->mB μ (l++l') (m++m'):=by
 induction l with
 | nil=>grind [mB]
 | cons a l ih=>grind [mB]
theorem mB.drop{μ:Mu}{l:List zA}{m:List Value}(h:mB μ l m)(n:Nat):mB μ (l.drop n) (m.drop n):=by
 refine mB.mk (by simp[h.length]) fun i a v h1 h2=>?_
 rw[yde]at h1 h2;obtain⟨u,hu,hr⟩:=h.get h1
 simp_all
theorem mB.take{μ:Mu}{l:List zA}{m:List Value}(h:mB μ l m)(n:Nat):mB μ (l.take n) (m.take n):=by
 refine mB.mk (by simp[h.length]) fun i a v h1 h2=>?_
 rw[ydf]at h1 h2;split at h1
 ·rename_i hi
  rw[yab hi]at h2;obtain⟨u,hu,hr⟩:=h.get h1
  simp_all
 grind
theorem mB.nil{μ:Mu}:mB μ [] []:=by rw[mB]
theorem mB.cons{μ:Mu}{a:zA}{l:List zA}{v:Value}{m:List Value}(h:tA μ a v)(k:mB μ l m):mB μ (a::l) (v::m):=by grind [mB]
def mB.single{μ:Mu}{a:zA}{v:Value}(h:tA μ a v):mB μ [a] [v]:=.cons h .nil
theorem Dh{v:zA}{b:Bool}:v.asBool=some b ↔ v=.bool b:=by cases v<;>simp[zA.asBool]
def BJ{v:zA}{n:Int}:v.asInt=some n ↔ ∃k,v=.int k n:=by cases v<;>simp[zA.asInt]
theorem mX{v:zA}{p:IntKind × Int}:v.asIntK=some p ↔ v=.int p.1 p.2:=by cases v<;>simp[zA.asIntK,Prod.ext_iff]
theorem nX{v:zA}{l:List Nat}:v.asStr=some l ↔ v=.str l:=by cases v<;>simp[zA.asStr]
def Gg{v:zA}{p:Nat × Nat}:v.asPtr=some p ↔ v=.ptr p.1 p.2:=by cases v<;>simp[zA.asPtr,Prod.ext_iff]
def Dg{v:zA}{p:Nat × Nat × Nat × Nat}:v.asSlice=some p ↔ v=.slice p.1 p.2.1 p.2.2.1 p.2.2.2:=by cases v<;>simp[zA.asSlice,Prod.ext_iff]
def To{v:zA}{b:Nat}:v.asMap=some b ↔ v=.map b:=by cases v<;>simp[zA.asMap]
theorem Jg{v:zA}{l:List zA}:v.asAgg=some l ↔ v=.agg l:=by cases v<;>simp[zA.asAgg]
def ZL{v:zA}{l:List zA}:v.asTup=some l ↔ v=.tup l:=by cases v<;>simp[zA.asTup]
theorem OF{v:zA}{p:AFn × List zA × List zA}:v.asFunc=some p ↔ v=.func p.1 p.2.1 p.2.2:=by cases v<;>simp[zA.asFunc,Prod.ext_iff]
def OE{v:zA}{p:Nat × zA}:v.asIface=some p ↔ v=.iface p.1 p.2:=by cases v<;>simp[zA.asIface,Prod.ext_iff]
theorem Tn{v:zA}{n:Nat}:v.asNat=some n ↔ ∃k,v=.int k (n:Int):=by
 simp_all [zA.asNat,sA,BJ,Mc]
theorem fV{v:zA}:(v.tag=3 ↔ v=.nilptr)/\(v.tag=5 ↔ v=.nilslice)/\(v.tag=7 ↔ v=.nilmap)/\(v.tag=10 ↔ v=.nilfunc)/\(v.tag=12 ↔ v=.niliface):=by
 cases v<;>simp[zA.tag]
theorem tA.notAgg{μ:Mu}{a:zA}{v:Value}(h:tA μ a v)(ha:a.asAgg=none):v.cells = #[v]:=by
 cases a<;>rw[tA]at h<;>first
  | (subst h;rfl)
  | (rcases h with⟨_,_,_,rfl,_⟩ | ⟨_,_,_,_,_,rfl,_⟩<;>rfl)
  | (obtain⟨_,rfl,_⟩:=h;rfl)
  | (obtain⟨_,_,rfl⟩:=h;rfl)
  | (obtain⟨_,_,_,rfl,_⟩:=h;rfl)
  | grind [zA.asAgg]
theorem tA.one{μ:Mu}{a:zA}{v:Value}(h:tA μ a v)(ha:a.one=true):v.oneCell'=true:=by
 cases a<;>rw[tA]at h<;>first
  | (subst h;rfl)
  | (rcases h with⟨_,_,_,rfl,_⟩ | ⟨_,_,_,_,_,rfl,_⟩<;>rfl)
  | (obtain⟨_,rfl,_⟩:=h;rfl)
  | (obtain⟨_,_,rfl⟩:=h;rfl)
  | (obtain⟨_,_,_,rfl,_⟩:=h;rfl)
  | (revert ha;decide)
  | (have:=kC.1 ha;grind [zA.tag])
def Tc{μ:Mu}{a:zA}{v:Value}(h:tA μ a v):mB μ a.cells v.cells.toList:=by
 unfold zA.cells
 cases ha:a.asAgg with
 | none=>rw[h.notAgg ha];exact mB.single h
 | some l=>rw[Jg.1 ha,tA]at h;obtain⟨cs,rfl,h⟩:=h;exact h
def qQ(P:Program)(t:Nat):fE:=
 match P.underlying t with
 | some .bool=>.bool
 | some (.int k)=>.int k
 | some .string=>.string
 | some (.pointer e)=>.ptr e
 | some (.slice e)=>.slice e
 | some (.array n e)=>.arr n e
 | some (.map k e)=>.map k e
 | some (.struct fs)=>.struct (fs.toList.map fun f=>(f.offset,f.type,P.cellsOf f.type))
 | some (.func ..)=>.func
 | some (.interface _)=>.iface
 | _=>.other
def Rw:Value->Bool
 | .agg _=>true
 | _=>false
def zcf(P:Program)(t:Nat):Bool:=(P.fieldsOf t).toList.all fun f=>(P.info? f.type).isSome
def tyOf (P:Program)(t:Nat):Option eD:=
 match P.info? t with
 | some i=>match i.zero with
  | some z=>ob (mH Ey z.cells.toList) fun l=>sB (bEq (Rw z) (qQ P t).isAgg&&(P.underlying t).isSome&&zcf P t)
    (some ⟨qQ P t, i.size, i.bytes, l, !P.stoodInHeld t && !P.eqGuardType P.depth t && (P.fieldsOf t).toList.all (fun f => f.name != "_")⟩)
  | none=>none
 | none=>none
def aF(P:Program)(C:cA):Prop:=∀t ty,C.tys.get t=some ty->tyOf P t=some ty
theorem Td{a b:ByteArray}(h:eF a=eF b):a=b:=by
 have h1:a.data.toList=b.data.toList:=by
  grind [eF,List.map_inj_right,UInt8.toNat_inj]
 have h2:a.data=b.data:=yax.1 h1
 cases a;simp_all
theorem GW{μ:Mu}{v:Value}{a:zA}(h:Ey v=some a):tA μ a v/\a.one=true:=by
 unfold Ey at h;split at h<;>cases h<;>refine⟨?_,rfl⟩<;>rw[tA]
 simp_all
theorem GV{μ:Mu}{m:List Value}:∀ {l:List zA},mH Ey m=some l->mB μ l m:=by
 induction m with
 | nil=>grind [Fe,mB.nil]
 | cons v m ih=>
  intro l h;rw[tQ,sA]at h;obtain⟨a,ha,h⟩:=h
  rw[sA]at h;obtain⟨r,hr,h⟩:=h
  cases h;exact .cons (GW ha).1 (ih hr)
theorem UV{μ:Mu}{v:Value}{a:zA}(h:Xx v=some a):tA μ a v:=by
 unfold Xx at h;split at h
 ·rename_i cs hc
  rw[sA]at h;obtain⟨l,hl,h⟩:=h
  cases h
  cases v<;>simp[zg3]at hc
  grind [tA,GV]
 grind [GW]
structure dM (P:Program) (t:Nat) (ty:eD):Prop where
 info:∃i,P.info? t=some i/\i.size=ty.size/\i.bytes=ty.bytes/\∃z,i.zero=some z/\mH Ey z.cells.toList=some ty.zero/\Rw z=ty.desc.isAgg
 desc:qQ P t=ty.desc
 und:∃d,P.underlying t=some d
 fields:∀f∈(P.fieldsOf t).toList,∃i,P.info? f.type=some i
 eqOk : ty.eqOk = true -> P.stoodInHeld t = false /\ P.eqGuardType P.depth t = false /\ ∀ f ∈ (P.fieldsOf t).toList, f.name ≠ "_"
theorem QB{P:Program}{t:Nat}{ty:eD}(h:tyOf P t=some ty):dM P t ty:=by
 unfold tyOf at h;split at h
 ·rename_i i hi
  split at h
  ·rename_i z hz
   rw[sA]at h;obtain⟨l,hl,h⟩:=h
   rw[rB]at h;obtain⟨hb,h⟩:=h
   cases h;rw[ybb,ybb]at hb;refine⟨⟨i,hi,rfl,rfl,z,hz,hl,?_⟩,rfl,Option.isSome_iff_exists.1 hb.1.2,fun f hf=>Option.isSome_iff_exists.1 (ycb.1 hb.2 f hf),fun h=>?_⟩
   all_goals grind [dY]
  ·cases h
 ·cases h
def aF.facts{P:Program}{C:cA}(h:aF P C){t:Nat}{ty:eD}(k:C.tys.get t=some ty):dM P t ty:=QB (h t ty k)
section
variable {P:Program}{w:World}{t:Nat}{ty:eD}
def Eo{i:TypeInfo}(h:P.info? t=some i):(typeInfo t).run P w=.ok i w:=by
 simp[typeInfo,h]
def iF{d:TypeDesc}(h:P.underlying t=some d):(underlying t).run P w=.ok d w:=by
 simp[underlying,h]
def dM.size(h:dM P t ty):(sizeOf t).run P w=.ok ty.size w:=by
 obtain⟨i,h1,h2,_⟩:=h.info
 simp[sizeOf,Eo h1,h2]
theorem dM.zero(h:dM P t ty){μ:Mu}:∃z,(∀w,(zeroValue t).run P w=.ok z w)/\tA μ (cX ty) z/\mB μ ty.zero z.cells.toList:=by
 obtain⟨i,h1,_,_,z,h2,h3,h4⟩:=h.info
 have hl:mB μ ty.zero z.cells.toList:=GV h3
 refine⟨z,fun w=>by simp[zeroValue,Eo h1,h2],?_,hl⟩
 unfold cX
 cases hd:ty.desc.isAgg with
 | true=>
  rw[hd]at h4
  cases z<;>simp[Rw]at h4
  show tA μ (.agg ty.zero) _
  rw[tA];exact⟨_,rfl,hl⟩
 | false=>
  rw[hd]at h4;have hc:z.cells = #[z]:=by cases z<;>first | rfl | simp[Rw]at h4
  grind [mB]
def dM.isAgg(h:dM P t ty):(Go.isAgg t).run P w=.ok ty.desc.isAgg w:=by
 obtain⟨d,hd⟩:=h.und
 have h0:=h.desc
 unfold qQ at h0;rw[hd]at h0;unfold Go.isAgg;rw[yad,iF hd,yac,<- h0]
 cases d<;>rfl
theorem Fu(h:dM P t ty){fs:List (Nat × Nat × Nat)}(k:ty.desc.asStruct=some fs):∃g,P.underlying t=some (.struct g)/\fs=g.toList.map fun f=>(f.offset,f.type,P.cellsOf f.type):=by
 obtain⟨d,hd⟩:=h.und
 have h0:=h.desc
 grind [qQ,fE.asStruct]
def aT(h:dM P t ty){e:Nat}(k:ty.desc.asSlice=some e):P.underlying t=some (.slice e):=by
 obtain⟨d,hd⟩:=h.und
 have h0:=h.desc
 unfold qQ at h0;rw[hd]at h0;rw[<- h0]at k
 cases d<;>simp[fE.asSlice]at k
 rw[hd,k]
def Sv(h:dM P t ty){p:Nat × Nat}(k:ty.desc.asArr=some p):P.underlying t=some (.array p.1 p.2):=by
 obtain⟨d,hd⟩:=h.und
 have h0:=h.desc
 unfold qQ at h0;rw[hd]at h0;rw[<- h0]at k
 cases d<;>simp[fE.asArr]at k
 rw[hd,<- k]
def MI(h:dM P t ty){p:Nat × Nat}(k:ty.desc.asMap=some p):P.underlying t=some (.map p.1 p.2):=by
 obtain⟨d,hd⟩:=h.und
 have h0:=h.desc
 unfold qQ at h0;rw[hd]at h0;rw[<- h0]at k
 cases d<;>simp[fE.asMap]at k
 rw[hd,<- k]
def AR(h:dM P t ty){k:IntKind}(e:ty.desc.asInt=some k):P.underlying t=some (.int k):=by
 obtain⟨d,hd⟩:=h.und
 have h0:=h.desc
 unfold qQ at h0;rw[hd]at h0;rw[<- h0]at e
 cases d<;>simp[fE.asInt]at e
 rw[hd,e]
theorem Su(h:dM P t ty)(e:ty.desc.isString=true):P.underlying t=some .string:=by
 obtain⟨d,hd⟩:=h.und
 have h0:=h.desc
 grind [qQ,fE.isString,fE.tag,Nat.beq]
theorem MH(h:dM P t ty)(e:Nat.blt ty.desc.tag 9=true):∃d,P.underlying t=some d/\∀ms,d≠.interface ms:=by
 obtain⟨d,hd⟩:=h.und
 refine⟨d,hd,fun ms hm=>?_⟩
 subst hm;have h0:=h.desc
 grind [qQ,kC,fE.tag]
end
structure Bk (μ:Mu) (d:dH) (e:Deferred):Prop where
 rel:match d.fn with
  | none=>∃i,μ d.r=some i/\e={ target:=.collected i.b,args := #[] }
  | some f=>∃fn cap as,e={ target:=.fn fn cap,args:=as }/\Jo μ f fn/\mB μ d.args (as++cap).toList
def rF(μ:Mu)(n:Nat)(tm:Tm)(tmps:Array Value):Prop:=tmps.size=n/\∀i v,tm.get i=some v->tA μ v (tmps.getD i undef)
structure Oi (μ:Mu) (l:kN) (r:Loop):Prop where
 state:r.state=l.state
 pending:r.pending=l.pending
 fn:r.fn=l.fn
 tm:rF μ l.n l.tm r.tmps
 params:r.params.toList=l.params
 assign:r.assign=l.assign
 body:r.body=l.body
 defers:∃i,μ l.defers=some i/\r.defers=i.b
inductive bD {α β:Type} (R:α->β->Prop):List α->List β->Prop
 | nil:bD R [] []
 | cons {a b l m}:R a b->bD R l m->bD R (a::l) (b::m)
def mJ (μ:Mu)(i:BI):uA->Obj->Prop
 | .cells c n loose,o=>∃cs elem fr,o=.cells cs elem fr/\n<=cs.size/\(i.ro=true\/fr.2<=fr.1\/cs.size<=fr.1)/\(∀(j:Nat) v,c.get j=some v->j<n/\∃v',cs[j]?=some v'/\tA μ v v') ∧
   (match loose with | none=>i.tight=true | some lo=>i.tight=false/\i.es=lo.es/\i.room=cs.size/\∀t,lo=.ty t->elem=t)
 | .map l,o=>∃es clock l',o=.map es clock/\Jn l l'/\bD (fun p e=>tA μ p.1 e.key/\tA μ p.2 e.val) l' es.toList
 | .loop l,o=>∃r,o=.loop r/\Oi μ l r
 | .deferred l,o=>∃l',o=.deferred l'/\(match l,l' with | none,none=>True | some a,some b=>bD (Bk μ) a b | _,_=>False)
 | .siter s pos,o=>∃s',o=.stringIter s' pos/\eF s'=s
structure qB (B N:Nat) (μ:Mu) (H:xA) (w:World):Prop where
 base:256<=B
 glob:∀g,g<256->μ g=some ⟨g,true,0,0,true⟩
 low:∀a x i,a<B->H.t.get a=some x->μ a=some i->i.b<N/\x.asLoop=none/\x.asDeferred=none
 next:B<=H.next
 size:N<=w.heap.size
 fresh:∀a,H.next<=a->μ a=none/\H.t.get a=none
 blk:∀a x i,H.t.get a=some x->μ a=some i->∃o,w.heap[i.b]?=some o/\mJ μ i x o
 own:∀a i,B<=a->μ a=some i->N<=i.b/\i.b<w.heap.size/\i.ro=false
 inj:∀a b x y i j,H.t.get a=some x->H.t.get b=some y->μ a=some i->μ b=some j->B<=a->B<=b->i.b=j.b->a=b
 pnd:∀a x t,μ.pd a=some (x,t)->μ a=none/\H.t.get a=some x/\B<=a
end Go.Am
namespace Go.Am
open Go
variable {a x:Operand}{b f off t:Nat}{p:Tr zA × Nat × Option Lo}{i:BI}{l:List zA}
def vG (μ:Mu)(e:qD)(ρ:Operand->Value):Prop:=∀x v,ev x e=some v->tA μ v (ρ x)
def vG.many{μ:Mu}{e:qD}{ρ:Operand->Value}(h:vG μ e ρ):∀ {l:List Operand} {r:List zA},jO l e=some r->mB μ r (l.map ρ):=by
 intro l;induction l with
 | nil=>intro r k;unfold jO at k;rw[Fe]at k;cases k;exact .nil
 | cons x l ih=>
  intro r k;unfold jO at k;rw[tQ,sA]at k;obtain⟨a,ha,k⟩:=k
  rw[sA]at k;obtain⟨b,hb,k⟩:=k
  cases k
  exact .cons (h _ _ ha) (ih hb)
def vG.parts{μ:Mu}{e:qD}{ρ:Operand->Value}(h:vG μ e ρ):∀ {l:List (Nat × Operand)} {r:List (Nat × zA)},evp l e=some r →
  bD (fun p q=>p.1=q.1/\tA μ p.2 q.2) r (l.map fun x=>(x.1,ρ x.2)):=by
 intro l;induction l with
 | nil=>intro r k;unfold evp at k;rw[Fe]at k;cases k;exact .nil
 | cons x l ih=>
  intro r k;unfold evp at k;rw[tQ,sA]at k;obtain⟨a,ha,k⟩:=k
  rw[sA]at ha;obtain⟨a',ha,ha'⟩:=ha
  cases ha'
  rw[sA]at k;obtain⟨b,hb,k⟩:=k
  cases k
  exact .cons ⟨rfl,h _ _ ha⟩ (ih hb)
def BT(μ:Mu):Option zA->Option Value->Prop
 | none,none=>True
 | some a,some v=>tA μ a v
 | _,_=>False
def vG.opt{μ:Mu}{e:qD}{ρ:Operand->Value}(h:vG μ e ρ){x:Option Operand}{r:Option zA}(k:evo x e=some r):BT μ r (x.map ρ):=by
 cases x with
 | none=>cases k;trivial
 | some x=>unfold evo at k;simp only[]at k;rw[sA]at k;obtain⟨a,ha,k⟩:=k;cases k;exact h _ _ ha
theorem aY(b off n:Nat):Addr.add ⟨b,off,none⟩ n=⟨b,off+n,none⟩:=by
 grind [Addr.add]
section
variable {P:Program}{C:cA}{B N:Nat}{μ:Mu}{H:xA}{w:World}
theorem Bd  (h:dD H b=some p):H.t.get b=some (.cells p.1 p.2.1 p.2.2):=by
 unfold dD at h;rw[sA]at h;obtain⟨x,hx,h⟩:=h
 cases x<;>simp[uA.asCells]at h
 grind
theorem qB.cellAt(hH:qB B N μ H w)  (h:dD H b=some p) (hi:μ b=some i){j:Nat}{v:zA}(hv:p.1.get j=some v) :
  ∃v',w.cell? ⟨i.b,j,none⟩=some v'/\tA μ v v':=by
 obtain⟨o,h2,h3⟩:=hH.blk _ _ _ (Bd h) hi
 obtain⟨cs,elem,fr,rfl,_,_,h4,_⟩:=h3
 grind [World.cell?]
theorem qB.manyAt(hH:qB B N μ H w)  (h:dD H b=some p) (hi:μ b=some i){n:Nat} (hl:p.1.many n off=some l) :
  ∃vs:List Value,vs.length=n/\mB μ l vs/\(loadCells ⟨i.b,off,none⟩ n).run P w=.ok vs.toArray w/\∀j,j<n->w.cell? ⟨i.b,off+j,none⟩=vs[j]?:=by
 obtain⟨h1,h2⟩:=Tr.many_some _ _ _ _ hl
 have key:∀j,j<n->∃v',w.cell? ⟨i.b,off+j,none⟩=some v'/\∃a,l[j]?=some a/\tA μ a v':=by
  intro j hj;have h3:=h2 j hj
  cases hlj:l[j]? with
  | none=>grind
  | some a=>
   rw[hlj]at h3;obtain⟨v',h4,h5⟩:=hH.cellAt h hi h3
   simp_all
 let f:Nat->Value:=fun j=>(w.cell? ⟨i.b,off+j,none⟩).getD undef
 have hf:∀j,j<n->w.cell? ⟨i.b,off+j,none⟩=some (f j):=by
  grind
 refine⟨(List.range n).map f,by simp,?_,?_,?_⟩
 all_goals grind [mB.mk,run_loadCells,aY]
theorem HT(hH:qB B N μ H w) {ty:eD}(hty:dM P t ty)  (h:dD H b=some p) (hi:μ b=some i) {v:zA}
  (hv:jS ty p.1 off=some v):∃v',(loadVar t ⟨i.b,off,none⟩).run P w=.ok v' w/\tA μ v v':=by
 unfold jS at hv;unfold loadVar;rw[yad,hty.isAgg,yac]
 cases ha:ty.desc.isAgg with
 | true=>
  rw[ha,cond_true,sA]at hv;obtain⟨l,hl,hv⟩:=hv
  cases hv;obtain⟨vs,_,h2,h3,_⟩:=hH.manyAt (P:=P) h hi hl
  refine⟨.agg vs.toArray,?_,by grind [tA]⟩
  rw[yab rfl,yad,hty.size,yac,yad,h3];rfl
 | false=>
  rw[ha,cond_false]at hv;obtain⟨v',h1,h2⟩:=hH.cellAt h hi hv
  refine⟨v',?_,h2⟩
  rw[yaa (by simp),run_load,h1]
theorem Ls(hT:aF P C)  {cs:Array Value}(hl:mB μ l cs.toList) {v:zA}(hv:wR C t l off=some v) :
  ∃v',(part t cs off).run P w=.ok v' w/\tA μ v v':=by
 unfold wR at hv;rw[sA]at hv;obtain⟨ty,hty,hv⟩:=hv
 have hF:=hT.facts hty
 unfold part;rw[yad,hF.isAgg,yac]
 cases ha:ty.desc.isAgg with
 | true=>
  rw[ha,cond_true]at hv
  cases hv;refine⟨.agg (cs.extract off (off+ty.size)),?_,?_⟩
  ·rw[yab rfl,yad,hF.size];rfl
  ·rw[tA];refine⟨_,rfl,?_⟩
   rw[kS,rR,Array.toList_extract,List.extract_eq_take_drop,Nat.add_sub_cancel_left];exact(hl.drop _).take _
 | false=>
  rw[ha,cond_false,sH]at hv;obtain⟨v',h1,h2⟩:=hl.get hv
  simp_all
def xJ (P:Program)(μ:Mu)(w:World)(ρ:Operand->Value)(o:Oper)(v:zA):Prop:=∃v',(execOp ρ o).run P w=.ok (.value v') w/\tA μ v v'
variable {e:qD}{ρ:Operand->Value}{dst:Option Tmp}{type:TypeId}{pos:String}{after:Array Edge}{guard:Option (Nat × Bool)}{v:zA}
def IP(hE:vG μ e ρ) (h:lO x C e H=some v):xJ P μ w ρ ⟨dst,.move x,type,pos,after,guard⟩ v:=⟨ρ x,rfl,hE x v h⟩
def JJ(hE:vG μ e ρ) (h:lO x C e H=some v):xJ P μ w ρ ⟨dst,.assign x,type,pos,after,guard⟩ v:=⟨ρ x,rfl,hE x v h⟩
def IM(hE:vG μ e ρ){c b:Operand}(h:Ml c a b C e H=some v):xJ P μ w ρ ⟨dst,.pick c a b,type,pos,after,guard⟩ v:=by
 unfold Ml at h;rw[sA]at h;obtain⟨cv,hc,h⟩:=h
 rw[sA]at h;obtain⟨cb,hb,h⟩:=h
 have h1:=hE _ _ hc
 rw[Dh.1 hb,tA]at h1;unfold xJ execOp;simp only[h1,asBool]
 cases cb with
 | true=>exact⟨ρ a,rfl,hE _ _ h⟩
 | false=>exact⟨ρ b,rfl,hE _ _ h⟩
theorem IU(hT:aF P C)(hH:qB B N μ H w)(hE:vG μ e ρ)  (h:iW t a C e H=some v):xJ P μ w ρ ⟨dst,.load t a,type,pos,after,guard⟩ v:=by
 unfold iW at h;simp only[sA,Gg]at h;obtain⟨av,ha,p,rfl,ty,hty,c,hc,h⟩:=h
 have h1:=hE _ _ ha
 rw[tA]at h1;obtain⟨i,hi,hv⟩:=h1
 obtain⟨v',h2,h3⟩:=HT (P:=P) hH (hT.facts hty) hc hi h
 refine⟨v',?_,h3⟩
 grind [execOp,Instr.loadAt,Instr.sureAddr,Sem.run_bind,Sem.run_pure,Result.andThen_ok]
theorem IN(hE:vG μ e ρ) (h:Af x C e H=some v):xJ P μ w ρ ⟨dst,.nilCheck x,type,pos,after,guard⟩ v:=by
 unfold Af at h;rw[sA]at h;obtain⟨a,ha,h⟩:=h
 rw[rB]at h;obtain⟨hb,h⟩:=h
 cases h;have h1:=hE _ _ ha
 refine⟨ρ x,?_,h1⟩
 cases v<;>simp[zA.tag,Nat.beq]at hb
 ·rw[tA]at h1
  obtain⟨i,_,hv⟩:=h1
  simp_all [execOp]
 ·rename_i fn a b
  rw[tA]at h1;obtain⟨fn',a',c',hv,hf,_⟩:=h1
  cases fn with
  | func f=>cases hf;simp_all [execOp]
  | yld l=>obtain⟨i,_,rfl⟩:=hf;simp_all [execOp]
def JA(hE:vG μ e ρ){fn:Fn}{a b:Array Operand}(h:(Ct fn a b).f C e H=some v):xJ P μ w ρ ⟨dst,.makeFunc fn a b,type,pos,after,guard⟩ v:=by
 unfold Ct at h;split at h
 ·rename_i f
  simp only[Ii,sA]at h;obtain⟨as,ha,bs,hb,h⟩:=h
  cases h;refine⟨.func (.func f) (a.map ρ) (b.map ρ),rfl,?_⟩
  rw[tA];exact⟨_,_,_,rfl,rfl,by simpa using hE.many ha,by simpa using hE.many hb⟩
 ·cases h
def IZ(hT:aF P C)(hE:vG μ e ρ)  (h:Cs t x C e H=some v):xJ P μ w ρ ⟨dst,.makeInterface t x,type,pos,after,guard⟩ v:=by
 unfold Cs at h;simp only[sA,rB]at h;obtain⟨ty,hty,hb,a,ha,h⟩:=h
 cases h;obtain⟨d,hd,hn⟩:=MH (hT.facts hty) hb
 refine⟨.iface t (ρ x),?_,by rw[tA];exact⟨_,rfl,hE _ _ ha⟩⟩
 simp only[execOp,Instr.makeInterface,yad,iF hd,yac]
 cases d<;>first | rfl | exact absurd rfl (hn _)
theorem JE(hE:vG μ e ρ){t:Operand}{i:Nat}(h:dW t i C e H=some v):xJ P μ w ρ ⟨dst,.extract t i,type,pos,after,guard⟩ v:=by
 unfold dW at h;simp only[sA,ZL,sH]at h;obtain⟨a,ha,l,rfl,h⟩:=h
 have h1:=hE _ _ ha
 rw[tA]at h1;obtain⟨cs,hv,hl⟩:=h1
 obtain⟨v',h2,h3⟩:=hl.get h
 refine⟨v',?_,h3⟩
 simp_all [execOp,Instr.extract]
theorem JB(hT:aF P C)(hE:vG μ e ρ)   (h:Cu t x f C e H=some v):xJ P μ w ρ ⟨dst,.field t x f,type,pos,after,guard⟩ v:=by
 unfold Cu at h;simp only[sA,Jg,sH]at h;obtain⟨ty,hty,fs,hfs,fd,hfd,a,ha,l,rfl,h⟩:=h
 obtain⟨g,hg,rfl⟩:=Fu (hT.facts hty) hfs
 have h1:=hE _ _ ha
 rw[tA]at h1;obtain⟨cs,hv,hl⟩:=h1
 rw[ybu]at hfd
 cases hgf:g.toList[f]? with
 | none=>simp_all
 | some fld=>
  rw[hgf]at hfd;simp at hfd;subst hfd;obtain⟨v',h2,h3⟩:=Ls (w:=w) hT hl h
  refine⟨v',?_,h3⟩
  simp_all [execOp,Instr.field,iF,asAgg]
theorem JD(hT:aF P C)(hE:vG μ e ρ){s:Nat}  (h:eW s x f C e H=some v):xJ P μ w ρ ⟨dst,.fieldAddr s x f,type,pos,after,guard⟩ v:=by
 unfold eW at h;simp only[sA,Gg,sH,rB]at h;obtain⟨ty,hty,fs,hfs,fd,hfd,hz,a,ha,p,rfl,h⟩:=h
 cases h;obtain⟨g,hg,rfl⟩:=Fu (hT.facts hty) hfs
 have h1:=hE _ _ ha
 rw[tA]at h1;obtain⟨i,hi,hv⟩:=h1
 rw[ybu]at hfd
 cases hgf:g.toList[f]? with
 | none=>simp_all
 | some fld=>
  rw[hgf]at hfd;simp at hfd;subst hfd;refine⟨.pointer (some ⟨i.b,p.2+fld.offset,none⟩),?_,by grind [tA]⟩
  have h4:g[f]?=some fld:=by simp_all
  have h5:P.cellsOf fld.type≠0:=by
   grind [beqf]
  have h6:(sizeOf fld.type).run P w=.ok (P.cellsOf fld.type) w:=by
   unfold Program.cellsOf at h5 ⊢
   cases hinf:P.info? fld.type with
   | none=>simp_all
   | some inf=>simp[sizeOf,Eo hinf]
  simp_all [execOp,Instr.fieldAt,iF,Instr.sureAddr,fieldPlace,aY]
end
end Go.Am
namespace Go.Am
open Go
section
variable {P:Program}{C:cA}{B N:Nat}{μ:Mu}{H:xA}{w:World}
variable {e:qD}{ρ:Operand->Value}{dst:Option Tmp}{type:TypeId}{pos:String}{after:Array Edge}{guard:Option (Nat × Bool)}{v:zA}
theorem Dx{k:IntKind}{n:Nat}(h:n<yH k):k.wrap (n:Int)=n:=by
 rw[<- dP];show(bif Nat.blt n (yH k)then Int.ofNat n else _)=_
 grind [kC]
def Zb(k:IntKind):∃m,yH k=2^m/\m<=k.bits:=by
 cases k
 ·exact⟨7,rfl,by decide⟩
 ·exact⟨15,rfl,by decide⟩
 ·exact⟨31,rfl,by decide⟩
 ·exact⟨63,rfl,by decide⟩
 ·exact⟨8,rfl,by decide⟩
 ·exact⟨16,rfl,by decide⟩
 ·exact⟨32,rfl,by decide⟩
 ·exact⟨64,rfl,by decide⟩
def Bb{k:IntKind}{n:Nat}(h:n<yH k):(BitVec.ofInt k.bits (n:Int)).toNat=n:=by
 obtain⟨m,hm,hle⟩:=Zb k
 rw[BitVec.toNat_ofInt];have:n<2^k.bits:=Nat.lt_of_lt_of_le (hm ▸ h) (yao (by omega) hle)
 rw[<- Int.natCast_emod,Int.toNat_natCast,Nat.mod_eq_of_lt this]
theorem Sa{f:Nat->Nat->Nat}{k:IntKind}{a b:Int}{v:zA}(h:dI f k a b=some v):∃x y:Nat,a=x/\b=y/\x<yH k/\y<yH k/\v=.int k (f x y:Nat):=by
 grind [dI,sA,Mc,rB,kC]
theorem zbd{op:BinOp}{k:IntKind}{a b:Int}(h:(BF op).f k a b=some v):op≠.shl/\op≠.shr/\∀t,∃v',(binOp op t (.int k a) (.int k b)).run P w=.ok v' w/\tA μ v v':=by
 cases op<;>simp only[BF]at h
 case add=>cases h;simp_all [binOp,Op.intArith,tA,dP]
 case sub=>cases h;simp_all [binOp,Op.intArith,tA,dP]
 case mul=>cases h;simp_all [binOp,Op.intArith,tA,dP]
 case quo=>
  unfold Aj at h;simp only[lD,Ak]at h;split at h
  ·cases h
  ·rename_i hb;cases h
   simp_all [tA,dP,binOp,Op.intDiv]
 case rem=>
  unfold Ai at h;simp only[lD,Ak]at h;split at h
  ·cases h
  ·rename_i hb;cases h
   simp_all [tA,binOp,Op.intDiv]
 case and=>
  unfold iAnd at h;split at h
  ·obtain⟨x,y,rfl,rfl,hx,hy,rfl⟩:=Sa h
   refine⟨by simp,by simp,fun t=>⟨.int k ((x &&& y:Nat):Int),?_,by rw[tA];rfl⟩⟩
   have h1:x &&& y<yH k:=yam Nat.and_le_left hx
   simp only[binOp,Op.intBits,BitVec.toNat_and,Bb hx,Bb hy,Dx h1];simp
  ·simp only[sA,Mc,rB,kC]at h
   obtain⟨y,rfl,hy,h⟩:=h
   cases h;have e:(BitVec.ofInt k.bits a).toNat=Int.toNat (Int.emod a (.ofNat (kW k))):=by
    rw[BitVec.toNat_ofInt]
    cases k<;>rfl
   generalize Int.toNat (Int.emod a (.ofNat (kW k)))=x at e ⊢
   refine⟨by simp,by simp,fun t=>⟨.int k ((x &&& y:Nat):Int),?_,by rw[tA];rfl⟩⟩
   have h1:x &&& y<yH k:=yam Nat.and_le_right hy
   simp only[binOp,Op.intBits,BitVec.toNat_and,e,Bb hy,Dx h1];simp
 case or=>
  obtain⟨x,y,rfl,rfl,hx,hy,rfl⟩:=Sa h
  obtain⟨m,hm,_⟩:=Zb k
  refine⟨by simp,by simp,fun t=>⟨.int k ((x ||| y:Nat):Int),?_,by rw[tA];rfl⟩⟩
  have h1:x ||| y<yH k:=by simp_all [Nat.or_lt_two_pow]
  simp only[binOp,Op.intBits,BitVec.toNat_or,Bb hx,Bb hy,Dx h1];simp
 case xor=>
  obtain⟨x,y,rfl,rfl,hx,hy,rfl⟩:=Sa h
  obtain⟨m,hm,_⟩:=Zb k
  refine⟨by simp,by simp,fun t=>⟨.int k ((x ^^^ y:Nat):Int),?_,by rw[tA];rfl⟩⟩
  have h1:x ^^^ y<yH k:=by simp_all [Nat.xor_lt_two_pow]
  simp only[binOp,Op.intBits,BitVec.toNat_xor,Bb hx,Bb hy,Dx h1];simp
 case eql=>cases h;simp_all [binOp,Op.intCmp,tA,Cw]
 case neq=>cases h;exact⟨by simp,by simp,fun t=>⟨.bool (a != b),by simp[binOp,Op.intCmp],by rw[tA,Cw];rfl⟩⟩
 case lss=>cases h;simp_all [binOp,Op.intCmp,tA,zgs]
 case leq=>cases h;simp_all [binOp,Op.intCmp,tA,zgt]
 case gtr=>cases h;simp_all [binOp,Op.intCmp,tA,zgs]
 case geq=>cases h;simp_all [binOp,Op.intCmp,tA,zgt]
 all_goals cases h
theorem Jd(s:ByteArray):(eF s).length=s.size:=by simp[eF]
theorem ZB(a b:ByteArray):eF (a++b)=eF a++eF b:=by simp[eF]
theorem ZA(s:ByteArray)(i:Nat):(eF s)[i]?=(s[i]?).map UInt8.toNat:=by
 unfold eF;rw[ybu];congr 1
 by_cases h:i<s.size
 all_goals simp_all [ByteArray.getElem_eq_getElem_data]
theorem NV(s:ByteArray)(l h:Nat):eF (s.extract l h)=((eF s).take h).drop l:=by
 unfold eF;rw[ByteArray.data_extract,Array.toList_extract,List.extract_eq_take_drop,<- List.map_take,<- List.map_drop,List.drop_take]
theorem NW{a b:ByteArray}:(a.toList == b.toList)=(sG (eF a) (eF b)):=by
 grind [Lib.toList_data,sN,eF,Td]
theorem WC(a:List UInt8):∀b:List UInt8,Op.bytesLess a b=Yo (a.map UInt8.toNat) (b.map UInt8.toNat):=by
 induction a with
 | nil=>intro b;cases b<;>rfl
 | cons x a ih=>
  intro b
  cases b with
  | nil=>rfl
  | cons y b=>
   show _=(bif Nat.blt x.toNat y.toNat then true else bif Nat.beq x.toNat y.toNat then Yo (a.map UInt8.toNat) (b.map UInt8.toNat)else false)
   grind [Op.bytesLess,kC,UInt8.lt_iff_toNat_lt,UInt8.toNat_inj,eC]
theorem zbc{op:BinOp}{a b:ByteArray}(h:(BD op).f (eF a) (eF b)=some v):op≠.shl/\op≠.shr/\∀t,∃v',(binOp op t (.string a) (.string b)).run P w=.ok v' w/\tA μ v v':=by
 cases op<;>simp only[BD]at h
 case add=>
  simp only[wS,rB,kC,jD,rH,Jd]at h;obtain⟨h1,h⟩:=h
  cases h;refine⟨by simp,by simp,fun t=>⟨.string (a++b),?_,by grind [tA,ZB]⟩⟩
  have h2:¬ (((a.size+b.size:Nat):Int) > IntKind.i64.max):=by
   have:IntKind.i64.max=9223372036854775807:=by decide
   omega
  simp_all [binOp,Op.stringOp]
 case eql=>cases h;exact⟨by simp,by simp,fun t=>⟨.bool (a.toList == b.toList),rfl,by rw[tA,NW]⟩⟩
 case neq=>cases h;exact⟨by simp,by simp,fun t=>⟨.bool !(a.toList == b.toList),rfl,by rw[tA,NW]⟩⟩
 case lss=>cases h;exact⟨by simp,by simp,fun t=>⟨.bool (Op.bytesLess a.toList b.toList),rfl,by rw[tA,Lib.toList_data,Lib.toList_data,WC];rfl⟩⟩
 all_goals cases h
theorem Nf{op:BinOp}{t:TypeId}{x y:Operand}{a b:Value}(h1:¬ (a=.nilIface/\b=.nilIface)\/(Mv x||Mv y)=true)(h2:∀l m,¬ (a=.agg l/\b=.agg m)):(eqGuard op t x y a b).run P w=.ok () w:=by
 unfold eqGuard
 cases op
 case eql | neq=>
  rw[yaa (by simp)]
  split
  ·rcases h1 with h1 | h1
   ·simp_all
   ·cases x<;>cases y<;>simp[Mv]at h1 ⊢
  all_goals simp_all
 all_goals rfl
theorem XP{op:BinOp}{t:TypeId}{x y:Operand}{l m:Array Value}(h:P.eqGuardType P.depth t=false):(eqGuard op t x y (.agg l) (.agg m)).run P w=.ok () w:=by
 simp_all [eqGuard]
theorem Hd{op:BinOp}{t yt:TypeId}{x y:Operand}{v':Value}(h1:(eqGuard op t x y (ρ x) (ρ y)).run P w=.ok () w)(h2:(binOp op t (ρ x) (ρ y)).run P w=.ok v' w) :
  (execOp ρ ⟨dst,.binOp op t x y yt,type,pos,after,guard⟩).run P w=.ok (.value v') w:=by
 simp_all [execOp]
theorem EH{k:IntKind}{b:Int}{n:Nat}(h:Em k b=some n):¬ b<0/\n=min b.toNat k.bits:=by
 grind [Em,sA,Mc]
theorem OA{op:BinOp}{t yt:TypeId}{x y:Operand}{a b:zA}(hx:tA μ a (ρ x))(hy:tA μ b (ρ y))
  (h:(op=.shl/\Nv zX a b=some v)\/(op=.shr/\Nv Fj a b=some v)):xJ P μ w ρ ⟨dst,.binOp op t x y yt,type,pos,after,guard⟩ v:=by
 rcases h with⟨rfl,h⟩ | ⟨rfl,h⟩
 all_goals
  unfold Nv at h;simp only[sA,mX,BJ]at h;obtain⟨p,rfl,n,⟨k',rfl⟩,h⟩:=h
  rw[tA]at hx hy
 ·unfold zX at h
  rw[sA]at h;obtain⟨m,hm,h⟩:=h
  cases h;obtain⟨h1,rfl⟩:=EH hm
  refine⟨.int p.1 (p.1.wrap (p.2*2^(min n.toNat p.1.bits))),Hd (Nf (.inl (by grind)) (by grind)) ?_,by rw[tA,dP];simp⟩
  rw[hx,hy];simp[binOp,Op.shift,h1]
 ·unfold Fj at h
  rw[sA]at h;obtain⟨m,hm,h⟩:=h
  cases h;obtain⟨h1,rfl⟩:=EH hm
  refine⟨.int p.1 (p.2.fdiv (2^(min n.toNat p.1.bits))),Hd (Nf (.inl (by grind)) (by grind)) ?_,by rw[tA];simp⟩
  rw[hx,hy];simp[binOp,Op.shift,h1]
theorem Nd{n m:Nat}{a b:zA}{r:Bool}(h:Dd n m a b=some r):(a.tag=n/\b.tag=n/\r=true)\/(a.tag=n/\b.tag=m/\r=false)\/(a.tag=m/\b.tag=n/\r=false):=by
 grind [Dd,eC,rB]
theorem zaj{t:Nat}{ty:eD}(hF:dM P t ty){a b:zA}{va vb:Value}(ha:tA μ a va)(hb:tA μ b vb){r:Bool}{d:Nat}(h:Ng ty.desc a b=some r) :
  (Op.equalIn (d+1) t va vb).run P w=.ok r w:=by
 obtain⟨D,hD⟩:=hF.und
 have h0:=hF.desc
 unfold qQ at h0;rw[hD]at h0;unfold Op.equalIn;rw[yad,iF hD,yac];rw[<- h0]at h
 cases D<;>simp only[Ng]at h<;>try (cases h;done)
 case bool=>
  simp only[Iu,sA,Dh]at h;obtain⟨x,rfl,y,rfl,h⟩:=h
  simp_all [tA,dY]
 case int k=>
  simp only[zkh,sA,mX,rB,mP]at h;obtain⟨x,rfl,y,rfl,hk,h⟩:=h
  simp_all [tA,Cw]
 case string=>
  simp only[AJ,sA,nX]at h;obtain⟨x,rfl,y,rfl,h⟩:=h
  cases h;rw[tA]at ha hb;obtain⟨s,rfl,rfl⟩:=ha
  obtain⟨u,rfl,rfl⟩:=hb
  have:(s == u)=sG (eF s) (eF u):=by
   rw[Bool.eq_iff_iff,sN];have h1:(s == u)=(s.data == u.data):=rfl
   grind [eF,Td]
  simp_all
 case pointer el=>
  rcases Nd h with⟨h1,h2,rfl⟩ | ⟨h1,h2,rfl⟩ | ⟨h1,h2,rfl⟩<;>cases a<;>simp[zA.tag]at h1<;>cases b<;>simp[zA.tag]at h2<;>rw[tA]at ha<;>rw[tA]at hb
  ·simp_all
  ·obtain⟨i,_,hb⟩:=hb;simp_all
  ·obtain⟨i,_,ha⟩:=ha;simp_all
 case slice el=>
  rcases Nd h with⟨h1,h2,rfl⟩ | ⟨h1,h2,rfl⟩ | ⟨h1,h2,rfl⟩<;>cases a<;>simp[zA.tag]at h1<;>cases b<;>simp[zA.tag]at h2<;>rw[tA]at ha<;>rw[tA]at hb
  ·simp_all
  ·rcases hb with⟨i,_,_,hb,_⟩ | ⟨_,_,_,_,_,hb,_⟩ <;> (simp_all)
  ·rcases ha with⟨i,_,_,ha,_⟩ | ⟨_,_,_,_,_,ha,_⟩ <;> (simp_all)
 case map k el=>
  rcases Nd h with⟨h1,h2,rfl⟩ | ⟨h1,h2,rfl⟩ | ⟨h1,h2,rfl⟩<;>cases a<;>simp[zA.tag]at h1<;>cases b<;>simp[zA.tag]at h2<;>rw[tA]at ha<;>rw[tA]at hb
  ·simp_all
  ·obtain⟨i,_,hb⟩:=hb;simp_all
  ·obtain⟨i,_,ha⟩:=ha;simp_all
 case func ps rs vd=>
  rcases Nd h with⟨h1,h2,rfl⟩ | ⟨h1,h2,rfl⟩ | ⟨h1,h2,rfl⟩<;>cases a<;>simp[zA.tag]at h1<;>cases b<;>simp[zA.tag]at h2<;>rw[tA]at ha<;>rw[tA]at hb
  ·simp_all
  ·obtain⟨i,_,_,hb,_⟩:=hb;simp_all
  ·obtain⟨i,_,_,ha,_⟩:=ha;simp_all
 case interface ms=>
  rcases Nd h with⟨h1,h2,rfl⟩ | ⟨h1,h2,rfl⟩ | ⟨h1,h2,rfl⟩<;>cases a<;>simp[zA.tag]at h1<;>cases b<;>simp[zA.tag]at h2<;>rw[tA]at ha<;>rw[tA]at hb
  ·simp_all
  ·obtain⟨i,hb,_⟩:=hb;simp_all
  ·obtain⟨i,ha,_⟩:=ha;simp_all
theorem LQ{t:Nat}{g:Array Field}(h:P.underlying t=some (.struct g)):P.fieldsOf t=g:=by unfold Program.fieldsOf;rw[h]
theorem zes(hT:aF P C){D:Nat}{eq:Nat->zA->zA->Option Bool}(heq:∀t a b va vb r,tA μ a va->tA μ b vb->eq t a b=some r->(Op.equalIn D t va vb).run P w=.ok r w)
  {xs ys : List zA} {vx vy : Array Value} (hx : mB μ xs vx.toList) (hy : mB μ ys vy.toList) : ∀ (g : List Field) (r : Bool), (∀ f ∈ g, f.name ≠ "_") -> Ji C eq xs ys (g.map fun f => (f.offset, f.type, P.cellsOf f.type)) = some r →
   (Op.eqFields D vx vy g).run P w=.ok r w:=by
 intro g;induction g with
 | nil=>intro r _ h;cases h;rfl
 | cons f g ih=>
  intro r hn h;rw[ycm,Ji]at h;simp only[sA]at h;obtain⟨a,ha,b,hb,q,hq,h⟩:=h
  obtain⟨va,h1,h2⟩:=Ls (P:=P) (w:=w) hT hx ha
  obtain⟨vb,h3,h4⟩:=Ls (P:=P) (w:=w) hT hy hb
  have h5:=heq _ _ _ _ _ _ h2 h4 hq
  rw[Op.eqFields,yab (hn f (by simp))]
  simp only[yad,h1,yac,h3,h5]
  cases q with
  | true=>grind
  | false=>simp_all
theorem zg6(hT:aF P C):∀(d D t:Nat) (a b:zA) (va vb:Value) (r:Bool),d<=D->tA μ a va->tA μ b vb->aeq C d t a b=some r->(Op.equalIn D t va vb).run P w=.ok r w:=by
 intro d;induction d with
 | zero=>intro D t a b va vb r _ _ _ h;cases h
 | succ d ih=>
  intro D t a b va vb r hD ha hb h
  cases D with
  | zero=>omega
  | succ D=>
   rw[aeq,sA]at h;obtain⟨ty,hty,h⟩:=h
   have hF:=hT.facts hty
   split at h
   ·rename_i fs hfs
    simp only[rB,sA,Jg]at h;obtain⟨hok,xs,rfl,ys,rfl,h⟩:=h
    obtain⟨g,hg,rfl⟩:=Fu hF hfs
    obtain⟨h1,_,h3⟩:=hF.eqOk hok
    grind [tA,LQ,run_equalIn_struct,zes]
   grind [zaj]
theorem zk0(hT:aF P C){d t:Nat}{a b:zA}{l m:Array Value}{r:Bool}(ha:tA μ a (.agg l))(hb:tA μ b (.agg m))(h:aeq C d t a b=some r):P.eqGuardType P.depth t=false:=by
 cases d with
 | zero=>cases h
 | succ d=>
  rw[aeq,sA]at h;obtain⟨ty,hty,h⟩:=h
  split at h
  ·rw[rB]at h;exact((hT.facts hty).eqOk h.1).2.1
  ·exfalso
   have hag:∀(a:zA) (l:Array Value),tA μ a (.agg l)->a.tag=13:=by
    intro a l ha
    cases a<;>rw[tA]at ha<;>first | rfl | (exfalso;revert ha;simp)
   have h1:=hag _ _ ha
   have h2:=hag _ _ hb
   cases a<;>simp[zA.tag]at h1
   cases b<;>simp[zA.tag]at h2
   revert h
   cases ty.desc<;>simp[Ng,Iu,zA.asBool,zkh,zA.asIntK,AJ,zA.asStr,Dd,Sp,zA.tag,sB,Nat.beq]
def CV{a:zA}{v:Value}(h:tA μ a v):v=.nilIface->a.tag=12:=by
 intro hv;subst hv
 cases a<;>rw[tA]at h<;>first | rfl | (exfalso;revert h;simp)
theorem OC(hT:aF P C){op:BinOp}{t yt:TypeId}{x y:Operand}{a b:zA}{neg:Bool}(hx:tA μ a (ρ x))(hy:tA μ b (ρ y))(ha:a.asIntK=none)(hs:a.asStr=none)
  (hop:(neg=false/\op=.eql)\/(neg=true/\op=.neq)) (h:Tk neg C t x y a b=some v):xJ P μ w ρ ⟨dst,.binOp op t x y yt,type,pos,after,guard⟩ v:=by
 unfold Tk at h;simp only[rB,sA]at h;obtain⟨hg,r,hr,h⟩:=h
 cases h;have h1:(Op.equal t (ρ x) (ρ y)).run P w=.ok r w:=zg6 hT 20 10000 t a b _ _ r (by decide) hx hy hr
 have hG:(eqGuard op t x y (ρ x) (ρ y)).run P w=.ok () w:=by
  by_cases hag:∃l m,ρ x=.agg l/\ρ y=.agg m
  ·grind [XP,zk0]
  ·refine Nf ?_ fun l m hlm=>hag ⟨l,m,hlm⟩
   by_cases hn:ρ x=.nilIface/\ρ y=.nilIface
   ·right
    have h2:=CV hx hn.1
    have h3:=CV hy hn.2
    simp_all [MB]
   simp_all
 have hnx:∀k n,ρ x≠.int k n:=by
  intro k n hv;rw[hv]at hx
  cases a<;>rw[tA]at hx<;>first | (simp[zA.asIntK]at ha;done) | (revert hx;simp)
 have hsx:∀s,ρ x≠.string s:=by
  intro s hv;rw[hv]at hx
  cases a<;>rw[tA]at hx<;>first | (simp[zA.asStr]at hs;done) | (revert hx;simp)
 have hfx:∀k n,ρ x≠.float k n:=by
  intro k n hv;rw[hv]at hx
  cases a<;>rw[tA]at hx<;>revert hx<;>simp
 have hcx:∀k n m,ρ x≠.complex k n m:=by
  intro k n m hv;rw[hv]at hx
  cases a<;>rw[tA]at hx<;>revert hx<;>simp
 rcases hop with⟨rfl,rfl⟩ | ⟨rfl,rfl⟩
 ·refine⟨.bool r,Hd hG ?_,by rw[tA];rfl⟩
  revert h1 hnx hsx hfx hcx
  generalize ρ x=vx
  generalize ρ y=vy
  intro h1 hnx hsx hfx hcx
  cases vx<;>first
   | exact absurd rfl (hnx _ _)
   | exact absurd rfl (hsx _)
   | exact absurd rfl (hfx _ _)
   | exact absurd rfl (hcx _ _ _)
   | simp[binOp,h1]
 ·refine⟨.bool (!r),Hd hG ?_,by rw[tA];rfl⟩
  revert h1 hnx hsx hfx hcx
  generalize ρ x=vx
  generalize ρ y=vy
  intro h1 hnx hsx hfx hcx
  cases vx<;>first
   | exact absurd rfl (hnx _ _)
   | exact absurd rfl (hsx _)
   | exact absurd rfl (hfx _ _)
   | exact absurd rfl (hcx _ _ _)
   | simp[binOp,h1]
theorem JI(hT:aF P C)(hE:vG μ e ρ){op:BinOp}{t yt:Nat}{x y:Operand}(h:cW op t x y C e H=some v):xJ P μ w ρ ⟨dst,.binOp op t x y yt,type,pos,after,guard⟩ v:=by
 unfold cW at h;simp only[sA]at h;obtain⟨a,ha,b,hb,h⟩:=h
 have hx:=hE _ _ ha
 have hy:=hE _ _ hb
 clear ha hb
 revert h
 have plain:∀op,op≠.shl->op≠.shr->BE op C t x y a b=some v->xJ P μ w ρ ⟨dst,.binOp op t x y yt,type,pos,after,guard⟩ v:=by
  intro op _ _ h;unfold BE at h;split at h
  ·rename_i i hi
   simp only[sA,mX,rB,mP]at h;obtain⟨j,rfl,hk,h⟩:=h
   rw[mX]at hi;subst hi;rw[tA]at hx;rw[tA]at hy;obtain⟨_,_,h2⟩:=zbd (P:=P) (μ:=μ) (w:=w) h
   obtain⟨v',h3,h4⟩:=h2 t
   refine⟨v',Hd (Nf (.inl (by grind)) (by grind)) ?_,h4⟩
   simp_all
  ·rename_i hi
   split at h
   ·rename_i s hs
    simp only[sA,nX]at h;obtain⟨u,rfl,h⟩:=h
    rw[nX]at hs;subst hs;rw[tA]at hx;rw[tA]at hy;obtain⟨sx,hx,rfl⟩:=hx
    obtain⟨sy,hy,rfl⟩:=hy
    obtain⟨_,_,h2⟩:=zbc (P:=P) (μ:=μ) (w:=w) h
    obtain⟨v',h3,h4⟩:=h2 t
    refine⟨v',Hd (Nf (.inl (by grind)) (by grind)) ?_,h4⟩
    simp_all
   ·rename_i hs
    cases op<;>simp only[OB]at h<;>first
     | exact OC hT hx hy hi hs (.inl ⟨rfl,rfl⟩) h
     | exact OC hT hx hy hi hs (.inr ⟨rfl,rfl⟩) h
     | (cases h;done)
 intro h
 cases op<;>simp only[oV]at h<;>first
  | exact OA hx hy (.inl ⟨rfl,h⟩)
  | exact OA hx hy (.inr ⟨rfl,h⟩)
  | exact plain _ (by simp) (by simp) h
theorem Za{k:IntKind}(h:kLo k=0):yH k=2^k.bits:=by
 cases k<;>first
  | (cases h;done)
  | rfl
theorem zf0(hE:vG μ e ρ){op:UnOp}{t:Nat}{x:Operand}(h:lUn op x C e H=some v):xJ P μ w ρ ⟨dst,.unOp op t x,type,pos,after,guard⟩ v:=by
 unfold lUn at h;simp only[sA]at h;obtain⟨a,ha,h⟩:=h
 have hx:=hE _ _ ha
 cases op<;>simp only[unA]at h<;>try (cases h;done)
 case neg=>
  simp only[unNeg,sA,mX]at h;obtain⟨p,rfl,h⟩:=h
  cases h;rw[tA]at hx;refine⟨.int p.1 (p.1.wrap (0-p.2)),?_,by rw[tA,dP]⟩
  simp[execOp,hx,Op.unary,Op.intArith]
 case xor=>
  simp only[Ee,sA,mX,rB,eC]at h;obtain⟨p,rfl,hk,h⟩:=h
  obtain⟨a,b,ha1,hb,hx1,hy,rfl⟩:=Sa h
  rw[tA]at hx;have h1:Nat.xor a b<yH p.1:=by
   have:Nat.xor a b<2^p.1.bits:=Nat.xor_lt_two_pow (by grind [Za]) (by grind [Za])
   grind [Za]
  refine⟨.int p.1 (Nat.xor a b:Nat),?_,by rw[tA]⟩
  have hm:(if p.1.signed then(-1:Int)else p.1.max)=(a:Int):=by
   rw[<- ha1];revert hk
   cases p.1<;>intro hk<;>first
    | (cases hk;done)
    | rfl
  have e2:(Op.intBits .xor p.1 (if p.1.signed then -1 else p.1.max) p.2).run P w=.ok (.int p.1 (Nat.xor a b:Nat)) w:=by
   rw[hm,hb];simp only[Op.intBits,BitVec.toNat_xor,Bb hx1,Bb hy];rw[show(a ^^^ b:Nat)=Nat.xor a b from rfl,Dx h1]
   rfl
  simp_all [execOp,Op.unary]
 case not=>
  simp only[unNot,sA,Dh]at h;obtain⟨b,rfl,h⟩:=h
  cases h;rw[tA]at hx;refine⟨.bool (!b),?_,by rw[tA]⟩
  simp[execOp,hx,Op.unary]
end
end Go.Am
