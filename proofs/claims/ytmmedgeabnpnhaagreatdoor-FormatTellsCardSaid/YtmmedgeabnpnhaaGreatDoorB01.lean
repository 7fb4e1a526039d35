/- -/
import Derived.Below
import Derived.Calls
import Derived.Laws.Cells
import Derived.Laws.Sem
import Derived.Laws.StructEq
import Derived.Laws.World
import Derived.Lib.Strings
set_option linter.all false
noncomputable section
namespace Go.Am
def yaa := @if_neg
def yab := @if_pos
def yac := @Result.andThen_ok
def yad := @Sem.run_bind
def yae := @Sem.run_pure
def yaf := @List.mem_append
def yag := @Nat.pow_succ
def yah := @List.nil_append
def yai := @Option.bind_some
def yaj := @Array.getElem?_append_left
def yak := @List.drop_eq_nil_iff
def yal := @Bool.or_eq_false_iff
def yam := @Nat.lt_of_le_of_lt
def yan := @Nat.le_mul_of_pos_left
def yao := @Nat.pow_le_pow_right
def yap := @Nat.add_comm
def yaq := @List.mem_map
def yar := @Option.map_eq_some_iff
def yas := @List.flatten_cons
def yat := @Nat.mul_zero
def yau := @Nat.lt_or_ge
def yav := @Nat.eq_zero_or_pos
def yaw := @Nat.zero_le
def yax := @Array.toList_inj
def yay := @Bool.and_false
def yaz := @List.getElem?_cons_zero
def yba := @List.getElem?_cons_succ
def ybb := @Bool.and_eq_true
def ybc := @List.getElem?_eq_some_iff
def ybd := @List.getElem?_eq_getElem
def ybe := @Array.getElem?_eq_some_iff
def ybf := @List.length_map
def ybg := @List.length_append
def ybh := @Nat.mul_comm
def ybi := @Nat.mul_le_mul_right
def ybj := @Nat.mul_assoc
def ybk := @Nat.le_refl
def ybl := @List.drop_eq_getElem_cons
def ybm := @Nat.mul_add
def ybn := @List.length_cons
def ybo := @Nat.add_mul
def ybp := @List.getElem?_append_right
def ybq := @Bool.false_eq_true
def ybr := @List.mem_cons_of_mem
def ybs := @List.mem_cons
def ybt := @List.drop_eq_nil_of_le
def ybu := @List.getElem?_map
def ybv := @Nat.mul_le_mul_left
def ybw := @Nat.zero_add
def ybx := @List.length_nil
def yby := @List.mem_cons_self
def ybz := @List.append_assoc
def yca := @List.take_of_length_le
def ycb := @List.all_eq_true
def ycc := @List.length_eq_zero_iff
def ycd := @List.append_nil
def yce := @Nat.dvd_mul_left_of_dvd
def ycf := @List.mem_append_right
def ycg := @List.all_cons
def ych := @Nat.div_add_mod
def yci := @Option.some.inj
def ycj := @List.getElem_mem
def yck := @List.all_nil
def ycl := @Bool.not_false
def ycm := @List.map_cons
def ycn := @Bool.true_and
def yco := @List.getElem?_append_left
def ycp := @Bool.not_eq_true'
def ycq := @Bool.or_eq_true
def ycr := @List.drop_zero
def ycs := @Array.getElem?_setIfInBounds
def yct := @Nat.add_zero
def ycu := @Nat.div_lt_of_lt_mul
def ycv := @List.mem_of_getElem?
def ycw := @List.getElem?_set
def ycx := @Array.getD_eq_getD_getElem?
def ycy := @Nat.mod_lt
def ycz := @Array.length_toList
def yda := @List.length_take
def ydb := @Nat.mul_le_mul
def ydc := @List.mem_append_left
def ydd := @List.mem_singleton
def yde := @List.getElem?_drop
def ydf := @List.getElem?_take
def ydg := @List.take_add_one
def ydh := @List.length_set
def ydi := @List.all_append
def ydj := @List.length_drop
end Go.Am
namespace Go.Am
inductive Tr (α:Type) where
 | leaf
 | node (l:Tr α) (v:Option α) (r:Tr α)
def ob {α β:Type}(x:Option α)(f:α->Option β):Option β:=Option.rec (motive:=fun _=>Option β) none f x
namespace Tr
variable {α:Type}
def get (t:Tr α):Nat->Option α:=
 Tr.rec (motive:=fun _=>Nat->Option α) (fun _=>none)
  (fun _ v _ gl gr n=>Bool.rec (motive:=fun _=>Option α) (Bool.rec (motive:=fun _=>Option α) (gr (Nat.pred (Nat.div n (nat_lit 2)))) (gl (Nat.div n (nat_lit 2))) (Nat.beq (Nat.mod n (nat_lit 2)) (nat_lit 1))) v (Nat.beq n (nat_lit 0))) t
def mk (f:Nat):Nat->α->Tr α:=
 Nat.rec (motive:=fun _=>Nat->α->Tr α) (fun _ _=>leaf)
  (fun _ g n v=>Bool.rec (motive:=fun _=>Tr α) (Bool.rec (motive:=fun _=>Tr α) (node leaf none (g (Nat.pred (Nat.div n (nat_lit 2))) v)) (node (g (Nat.div n (nat_lit 2)) v) none leaf) (Nat.beq (Nat.mod n (nat_lit 2)) (nat_lit 1))) (node leaf (some v) leaf) (Nat.beq n (nat_lit 0))) f
def set (t:Tr α):Nat->α->Tr α:=
 Tr.rec (motive:=fun _=>Nat->α->Tr α) (fun n v=>mk (Nat.succ n) n v)
  (fun l x r gl gr n v=>Bool.rec (motive:=fun _=>Tr α) (Bool.rec (motive:=fun _=>Tr α) (node l x (gr (Nat.pred (Nat.div n (nat_lit 2))) v)) (node (gl (Nat.div n (nat_lit 2)) v) x r) (Nat.beq (Nat.mod n (nat_lit 2)) (nat_lit 1))) (node l (some v) r) (Nat.beq n (nat_lit 0))) t
def del (t:Tr α):Nat->Tr α:=
 Tr.rec (motive:=fun _=>Nat->Tr α) (fun _=>leaf)
  (fun l x r gl gr n=>Bool.rec (motive:=fun _=>Tr α) (Bool.rec (motive:=fun _=>Tr α) (node l x (gr (Nat.pred (Nat.div n (nat_lit 2))))) (node (gl (Nat.div n (nat_lit 2))) x r) (Nat.beq (Nat.mod n (nat_lit 2)) (nat_lit 1))) (node l none r) (Nat.beq n (nat_lit 0))) t
def many (t:Tr α)(n:Nat):Nat->Option (List α):=
 Nat.rec (motive:=fun _=>Nat->Option (List α)) (fun _=>some [])
  (fun _ g i=>ob (t.get i) fun v=>ob (g (i+1)) fun l=>some (v::l)) n
def setMany(l:List α):Tr α->Nat->Tr α:=
 List.rec (motive:=fun _=>Tr α->Nat->Tr α) (fun t _=>t) (fun v _ g t i=>g (t.set i v) (i+1)) l
def ofList(l:List α):Tr α:=setMany l leaf 0
end Tr
def uD {α:Type}(l:List α):Nat->Option α:=
 List.rec (motive:=fun _=>Nat->Option α) (fun _=>none) (fun a _ g n=>Bool.rec (motive:=fun _=>Option α) (g (Nat.pred n)) (some a) (Nat.beq n (nat_lit 0))) l
def xQ{α:Type}(l:List α):Nat->List α:=
 List.rec (motive:=fun _=>Nat->List α) (fun _=>[]) (fun a l g n=>bif Nat.beq n 0 then a::l else g (n-1)) l
def wY{α:Type}(l:List α):Nat->List α:=
 List.rec (motive:=fun _=>Nat->List α) (fun _=>[]) (fun a _ g n=>bif Nat.beq n 0 then []else a::g (n-1)) l
def kB {α:Type}(l:List α):Nat:=List.rec (motive:=fun _=>Nat) 0 (fun _ _ n=>n+1) l
def iD {α:Type}(l m:List α):List α:=List.rec (motive:=fun _=>List α) m (fun a _ g=>a::g) l
def nE {α:Type}(p:α->Bool)(l:List α):Bool:=List.rec (motive:=fun _=>Bool) true (fun a _ g=>bif p a then g else false) l
def iG{α β:Type}(f:α->Option β)(l:List α):Option (List β):=
 List.rec (motive:=fun _=>Option (List β)) (some []) (fun a _ g=>ob (f a) fun b=>ob g fun r=>some (b::r)) l
def zD(a:List Nat):List Nat->Bool:=
 List.rec (motive:=fun _=>List Nat->Bool) (fun b=>b.isEmpty) (fun x _ g b=>List.rec (motive:=fun _=>Bool) false (fun y b _=>bif Nat.beq x y then g b else false) b) a
def kIdx:IntKind->Nat
 | .i8=>0 | .i16=>1 | .i32=>2 | .i64=>3 | .u8=>4 | .u16=>5 | .u32=>6 | .u64=>7
def lN (a b:IntKind):Bool:=Nat.beq (kIdx a) (kIdx b)
def bEq:Bool->Bool->Bool
 | true,b=>b
 | false,b => !b
def zB:Int->Int->Bool
 | .ofNat a,.ofNat b=>Nat.beq a b
 | .negSucc a,.negSucc b=>Nat.beq a b
 | _,_=>false
def qC:Int->Int->Bool
 | .ofNat a,.ofNat b=>Nat.ble a b
 | .ofNat _,.negSucc _=>false
 | .negSucc _,.ofNat _=>true
 | .negSucc a,.negSucc b=>Nat.ble b a
def lB:Int->Int->Bool
 | .ofNat a,.ofNat b=>Nat.blt a b
 | .ofNat _,.negSucc _=>false
 | .negSucc _,.ofNat _=>true
 | .negSucc a,.negSucc b=>Nat.blt b a
def gG:IntKind->Nat
 | .i8=>128 | .i16=>32768 | .i32=>2147483648 | .i64=>9223372036854775808 | .u8=>256 | .u16=>65536 | .u32=>4294967296 | .u64=>18446744073709551616
def kLo:IntKind->Nat
 | .i8=>128 | .i16=>32768 | .i32=>2147483648 | .i64=>9223372036854775808 | _=>0
def iA(k:IntKind):Int->Int
 | .ofNat n=>bif Nat.blt n (gG k)then .ofNat n else k.wrap (.ofNat n)
 | .negSucc n=>bif Nat.blt n (kLo k)then .negSucc n else k.wrap (.negSucc n)
inductive AFn where
 | func (f:Nat)
 | yld (l:Nat)
inductive zA where
 | bool (b:Bool)
 | int (k:IntKind) (n:Int)
 | str (l:List Nat)
 | nilptr
 | ptr (b off:Nat)
 | nilslice
 | slice (b off len cap:Nat)
 | nilmap
 | map (b:Nat)
 | func (fn:AFn) (first captured:List zA)
 | nilfunc
 | iface (t:Nat) (v:zA)
 | niliface
 | agg (l:List zA)
 | tup (l:List zA)
structure Tm where
 k:Nat
 v:Tr zA
 t:List (Nat × zA)
def assoc(i:Nat)(l:List (Nat × zA)):Option zA:=
 List.rec (motive:=fun _=>Option zA) none (fun a _ g=>Bool.rec (motive:=fun _=>Option zA) g (some a.2) (Nat.beq i a.1)) l
def Tm.get(t:Tm)(i:Nat):Option zA:=Bool.rec (motive:=fun _=>Option zA) (assoc i t.t) (t.v.get i) (Nat.blt i t.k)
def Tm.set(t:Tm)(i:Nat)(x:zA):Tm:=Bool.rec (motive:=fun _=>Tm) ⟨t.k,t.v,(i,x)::t.t⟩ ⟨t.k,t.v.set i x,t.t⟩ (Nat.blt i t.k)
def Tm.cut(t:Tm):Tm:=⟨t.k,t.v,[]⟩
structure pJ where
 fn:Option AFn
 r:Nat
 args:List zA
structure yO where
 state:LoopState
 pending:Option Code
 fn:Nat
 n:Nat
 tm:Tm
 params:List Nat
 assign:Code
 body:Code
 defers:Nat
inductive Lo where
 | sz (n:Nat)
 | ty (t:Nat)
def Lo.es:Lo->Nat | .sz n=>n | .ty _=>1
def loEq:Lo->Lo->Bool
 | .sz a,.sz b=>Nat.beq a b
 | .ty a,.ty b=>Nat.beq a b
 | _,_=>false
inductive sA where
 | cells (c:Tr zA) (n:Nat) (loose:Option Lo)
 | map (l:List (zA × zA))
 | loop (l:yO)
 | deferred (l:Option (List pJ))
 | siter (s:List Nat) (pos:Nat)
structure wA where
 next:Nat
 t:Tr sA
inductive lD where
 | bool | int (k:IntKind) | string
 | ptr (e:Nat) | slice (e:Nat) | arr (n e:Nat) | map (k e:Nat)
 | struct (fs:List (Nat × Nat × Nat))
 | func | iface | other
structure eC where
 desc:lD
 size:Nat
 bytes:Nat
 zero:List zA
 eqOk:Bool
structure zF where
 heavy:Nat
 lights:List Nat
 again:List Nat
structure Plan where
 first:List Nat
 stages:List zF
 olds:List (Nat × List Nat)
structure fA where
 fns:Tr Func
 ks:Tr Nat
 tys:Tr eC
 plans:Tr (Tr Plan)
 prims:Tr (List zA->wA->Option (zA × wA))
 base:Nat
 root:Nat
inductive bD where
 | code (c:Code)
 | inBlock (id:Nat)
 | inLoop (c:Code)
 | inScope (c:Code)
 | ops (all:Array Oper) (rest:List Oper)
 | reg (all:Array Oper) (old:Tm) (olds:List (Nat × List Nat)) (stages:List zF)
 | inRange (l:Nat)
 | endRange (l:Nat)
 | beginRound
structure Br where
 v:zA
 recovered:Bool
inductive zX where
 | run | returning
 | panicking (chain:List Br)
structure iJ where
 fn:Nat
 n:Nat
 defers:List pJ
 mode:zX
 deferred:Bool
 roundOf:Option Nat
structure rC where
 todo:List bD
 tm:Tm
 R:iJ
structure jQ where
 fr:rC
 cs:List rC
 H:wA
inductive pF where
 | next (s:jQ)
 | done (v:zA) (H:wA)
 | fail (why:Nat)
def zA.asBool:zA->Option Bool | .bool b=>some b | _=>none
def zA.asInt:zA->Option Int | .int _ n=>some n | _=>none
def zA.asIntK:zA->Option (IntKind × Int) | .int k n=>some (k,n) | _=>none
def zA.asStr:zA->Option (List Nat) | .str l=>some l | _=>none
def zA.asPtr:zA->Option (Nat × Nat) | .ptr b o=>some (b,o) | _=>none
def zA.asSlice:zA->Option (Nat × Nat × Nat × Nat) | .slice b o l c=>some (b,o,l,c) | _=>none
def zA.asMap:zA->Option Nat | .map b=>some b | _=>none
def zA.asAgg:zA->Option (List zA) | .agg l=>some l | _=>none
def zA.asTup:zA->Option (List zA) | .tup l=>some l | _=>none
def zA.asFunc:zA->Option (AFn × List zA × List zA) | .func f a b=>some (f,a,b) | _=>none
def zA.asIface:zA->Option (Nat × zA) | .iface t v=>some (t,v) | _=>none
def zA.tag:zA->Nat
 | .bool _=>0 | .int _ _=>1 | .str _=>2 | .nilptr=>3 | .ptr _ _=>4 | .nilslice=>5 | .slice _ _ _ _=>6 | .nilmap=>7 | .map _=>8
 | .func _ _ _=>9 | .nilfunc=>10 | .iface _ _=>11 | .niliface=>12 | .agg _=>13 | .tup _=>14
def yL:Int->Option Nat | .ofNat n=>some n | .negSucc _=>none
def zA.asNat(v:zA):Option Nat:=ob v.asInt yL
def zA.cells(v:zA):List zA:=
 match v.asAgg with
 | some l=>l
 | none=>[v]
def zA.one(v:zA):Bool:=Nat.blt v.tag 13
def lD.asInt:lD->Option IntKind | .int k=>some k | _=>none
def lD.asSlice:lD->Option Nat | .slice e=>some e | _=>none
def lD.asArr:lD->Option (Nat × Nat) | .arr n e=>some (n,e) | _=>none
def lD.asMap:lD->Option (Nat × Nat) | .map k e=>some (k,e) | _=>none
def lD.asStruct:lD->Option (List (Nat × Nat × Nat)) | .struct fs=>some fs | _=>none
def lD.tag:lD->Nat
 | .bool=>0 | .int _=>1 | .string=>2 | .ptr _=>3 | .slice _=>4 | .arr _ _=>5 | .map _ _=>6 | .struct _=>7 | .func=>8 | .iface=>9 | .other=>10
def lD.isAgg(d:lD):Bool:=bif Nat.beq d.tag 5 then true else Nat.beq d.tag 7
def lD.isString(d:lD):Bool:=Nat.beq d.tag 2
def sA.asCells:sA->Option (Tr zA × Nat × Option Lo) | .cells c n l=>some (c,n,l) | _=>none
def sA.asMap:sA->Option (List (zA × zA)) | .map l=>some l | _=>none
def sA.asLoop:sA->Option yO | .loop l=>some l | _=>none
def sA.asDeferred:sA->Option (Option (List pJ)) | .deferred l=>some l | _=>none
def sA.asIter:sA->Option (List Nat × Nat) | .siter s p=>some (s,p) | _=>none
def mB{α:Type}(b:Bool)(x:Option α):Option α:=Bool.rec (motive:=fun _=>Option α) none x b
def vE:zA:=.tup []
def kF(s:ByteArray):List Nat:=s.data.toList.map UInt8.toNat
def Ct:Value->Option zA
 | .bool b=>some (.bool b)
 | .int k n=>some (.int k n)
 | .string s=>some (.str (kF s))
 | .pointer none=>some .nilptr
 | .slice none 0 0=>some .nilslice
 | .map none=>some .nilmap
 | .nilFunc=>some .nilfunc
 | .nilIface=>some .niliface
 | _=>none
def zgo:Value->Option (Array Value)
 | .agg cs=>some cs
 | _=>none
def Xo(v:Value):Option zA:=
 match zgo v with
 | some cs=>ob (iG Ct cs.toList) fun l=>some (.agg l)
 | none=>Ct v
inductive xD where
 | now (tm:Tm)
 | mixed (tm old:Tm) (olds names:List Nat)
def sI(i:Nat)(l:List Nat):Bool:=List.rec (motive:=fun _=>Bool) false (fun j _ g=>bif Nat.beq i j then true else g) l
def wV (t:Nat)(e:xD):Option zA:=
 match e with
 | .now tm=>tm.get t
 | .mixed tm old olds names=>bif sI t names then Tm.get (bif sI t olds then old else tm) t else none
def xConst(v:Value)(_:xD):Option zA:=Xo v
def Sm(g:Nat)(_:xD):Option zA:=bif Nat.blt g 256 then some (.ptr g 0)else none
def xFunc(f:Nat)(_:xD):Option zA:=some (.func (.func f) [] [])
structure EB where f:xD->Option zA
def evB:Operand->EB
 | .tmp t=>⟨wV t⟩
 | .const v=>⟨xConst v⟩
 | .global g=>⟨Sm g⟩
 | .func f=>⟨xFunc f⟩
def ev (x:Operand)(e:xD):Option zA:=(evB x).f e
def uQ (l:List Operand)(e:xD):Option (List zA):=iG (fun x=>ev x e) l
def evo (x:Option Operand)(e:xD):Option (Option zA):=
 match x with
 | none=>some none
 | some x=>ob (ev x e) fun v=>some (some v)
def evp (l:List (Nat × Operand))(e:xD):Option (List (Nat × zA)):=iG (fun x=>ob (ev x.2 e) fun v=>some (x.1,v)) l
def oD(H:wA)(b:Nat):Option (Tr zA × Nat × Option Lo):=ob (H.t.get b) sA.asCells
def yK(H:wA)(b:Nat):Option (List (zA × zA)):=ob (H.t.get b) sA.asMap
def xR(ty:eC)(c:Tr zA)(off:Nat):Option zA:=
 bif ty.desc.isAgg then ob (c.many ty.size off) fun l=>some (.agg l)else c.get off
def lO(C:fA)(t:Nat)(l:List zA)(off:Nat):Option zA:=
 ob (C.tys.get t) fun ty=>bif ty.desc.isAgg then some (.agg (wY (xQ l off) ty.size))else uD l off
def xV(ty:eC):zA:=
 bif ty.desc.isAgg then .agg ty.zero else match ty.zero with
  | v::_=>v
  | []=>vE
def Yb(a:List Nat):List Nat->Bool:=
 List.rec (motive:=fun _=>List Nat->Bool) (fun b => !b.isEmpty)
  (fun x _ g b=>List.rec (motive:=fun _=>Bool) false (fun y b _=>bif Nat.blt x y then true else bif Nat.beq x y then g b else false) b) a
def Gw(a b:zA):Option Bool:=ob a.asBool fun x=>ob b.asBool fun y=>some (bEq x y)
def zjm(a b:zA):Option Bool:=ob a.asIntK fun x=>ob b.asIntK fun y=>mB (lN x.1 y.1) (some (zB x.2 y.2))
def Zr(a b:zA):Option Bool:=ob a.asStr fun x=>ob b.asStr fun y=>some (zD x y)
def Az(n m:Nat)(a b:zA):Option Bool:=
 bif Nat.beq a.tag n then(bif Nat.beq b.tag n then some true else mB (Nat.beq b.tag m) (some false))
 else mB (Nat.beq a.tag m&&Nat.beq b.tag n) (some false)
def Rf(_ _:zA):Option Bool:=none
def Lr:lD->zA->zA->Option Bool
 | .bool=>Gw
 | .int _=>zjm
 | .string=>Zr
 | .ptr _=>Az 3 4
 | .iface=>Az 12 11
 | .slice _=>Az 5 6
 | .map _ _=>Az 7 8
 | .func=>Az 10 9
 | .arr _ _=>Rf
 | .struct _=>Rf
 | .other=>Rf
def Ht(C:fA)(eq:Nat->zA->zA->Option Bool)(xs ys:List zA):List (Nat × Nat × Nat)->Option Bool
 | []=>some true
 | f::fs=>ob (lO C f.2.1 xs f.1) fun a=>ob (lO C f.2.1 ys f.1) fun b=>ob (eq f.2.1 a b) fun r=>bif r then Ht C eq xs ys fs else some false
def aeq (C:fA):Nat->Nat->zA->zA->Option Bool
 | 0,_,_,_=>none
 | d+1,t,x,y=>ob (C.tys.get t) fun ty=>
  match ty.desc.asStruct with
  | some fs=>mB ty.eqOk (ob x.asAgg fun xs=>ob y.asAgg fun ys=>Ht C (aeq C d) xs ys fs)
  | none=>Lr ty.desc x y
def iAdd (k:IntKind)(a b:Int):Option zA:=some (.int k (iA k (a+b)))
def iSub (k:IntKind)(a b:Int):Option zA:=some (.int k (iA k (a-b)))
def iMul (k:IntKind)(a b:Int):Option zA:=some (.int k (iA k (a*b)))
def wW (k:IntKind)(a b:Int):Option zA:=bif zB b 0 then none else some (.int k (iA k (a.tdiv b)))
def xW (k:IntKind)(a b:Int):Option zA:=bif zB b 0 then none else some (.int k (a.tmod b))
def gI(f:Nat->Nat->Nat)(k:IntKind)(a b:Int):Option zA:=ob (yL a) fun x=>ob (yL b) fun y=>mB (Nat.blt x (gG k)&&Nat.blt y (gG k)) (some (.int k (.ofNat (f x y))))
def kW:IntKind->Nat
 | .i8=>256 | .u8=>256 | .i16=>65536 | .u16=>65536 | .i32=>4294967296 | .u32=>4294967296 | .i64=>18446744073709551616 | .u64=>18446744073709551616
def iAnd (k:IntKind)(a b:Int):Option zA:=
 match yL a with
 | some _=>gI Nat.land k a b
 | none=>ob (yL b) fun y=>mB (Nat.blt y (gG k)) (some (.int k (.ofNat (Nat.land (Int.toNat (Int.emod a (.ofNat (kW k)))) y))))
def iEql (_:IntKind)(a b:Int):Option zA:=some (.bool (zB a b))
def iNeq (_:IntKind)(a b:Int):Option zA:=some (.bool (!zB a b))
def iLss (_:IntKind)(a b:Int):Option zA:=some (.bool (lB a b))
def iLeq (_:IntKind)(a b:Int):Option zA:=some (.bool (qC a b))
def iGtr (_:IntKind)(a b:Int):Option zA:=some (.bool (lB b a))
def iGeq (_:IntKind)(a b:Int):Option zA:=some (.bool (qC b a))
def iNone(_:IntKind)(_ _:Int):Option zA:=none
structure IB where f:IntKind->Int->Int->Option zA
def AO:BinOp->IB
 | .add=>⟨iAdd⟩ | .sub=>⟨iSub⟩ | .mul=>⟨iMul⟩ | .quo=>⟨wW⟩ | .rem=>⟨xW⟩
 | .and=>⟨iAnd⟩ | .or=>⟨gI Nat.lor⟩ | .xor=>⟨gI Nat.xor⟩
 | .eql=>⟨iEql⟩ | .neq=>⟨iNeq⟩ | .lss=>⟨iLss⟩ | .leq=>⟨iLeq⟩ | .gtr=>⟨iGtr⟩ | .geq=>⟨iGeq⟩
 | _=>⟨iNone⟩
def xC (a b:List Nat):Option zA:=mB (Nat.blt (kB a+kB b) 4611686018427387904) (some (.str (iD a b)))
def sEql (a b:List Nat):Option zA:=some (.bool (zD a b))
def sNeq (a b:List Nat):Option zA:=some (.bool (!zD a b))
def sLss (a b:List Nat):Option zA:=some (.bool (Yb a b))
def sNone(_ _:List Nat):Option zA:=none
structure SB where f:List Nat->List Nat->Option zA
def AL:BinOp->SB
 | .add=>⟨xC⟩ | .eql=>⟨sEql⟩ | .neq=>⟨sNeq⟩ | .lss=>⟨sLss⟩
 | _=>⟨sNone⟩
def Lb:Operand->Bool
 | .const _=>true
 | _=>false
def Ck(k:IntKind)(b:Int):Option Nat:=ob (yL b) fun n=>some (min n k.bits)
def kU (k:IntKind)(a b:Int):Option zA:=ob (Ck k b) fun n=>some (.int k (iA k (a*.ofNat (2^n))))
def De (k:IntKind)(a b:Int):Option zA:=ob (Ck k b) fun n=>some (.int k (a.fdiv (.ofNat (2^n))))
def Lw(f:IntKind->Int->Int->Option zA)(a b:zA):Option zA:=ob a.asIntK fun x=>ob b.asInt fun y=>f x.1 x.2 y
def LZ(x y:Operand)(a b:zA):Bool:=
 bif Nat.beq a.tag 12&&Nat.beq b.tag 12 then Lb x||Lb y else true
def Rx(neg:Bool)(C:fA)(t:Nat)(x y:Operand)(a b:zA):Option zA:=
 mB (LZ x y a b) (ob (aeq C 20 t a b) fun r=>some (.bool (bif neg then !r else r)))
def binNo(_:fA)(_:Nat)(_ _:Operand)(_ _:zA):Option zA:=none
structure BB where f:fA->Nat->Operand->Operand->zA->zA->Option zA
def NR:BinOp->BB
 | .eql=>⟨Rx false⟩
 | .neq=>⟨Rx true⟩
 | _=>⟨binNo⟩
def AM(op:BinOp)(C:fA)(t:Nat)(x y:Operand)(a b:zA):Option zA:=
 match a.asIntK with
 | some i=>ob b.asIntK fun j=>mB (lN i.1 j.1) ((AO op).f i.1 i.2 j.2)
 | none=>match a.asStr with
  | some s=>ob b.asStr fun u=>(AL op).f s u
  | none=>(NR op).f C t x y a b
def binShl(_:fA)(_:Nat)(_ _:Operand)(a b:zA):Option zA:=Lw kU a b
def binShr(_:fA)(_:Nat)(_ _:Operand)(a b:zA):Option zA:=Lw De a b
def zN:BinOp->BB
 | .shl=>⟨binShl⟩
 | .shr=>⟨binShr⟩
 | op=>⟨AM op⟩
def unNeg(a:zA):Option zA:=ob a.asIntK fun x=>some (.int x.1 (iA x.1 (0-x.2)))
def unNot(a:zA):Option zA:=ob a.asBool fun b=>some (.bool (!b))
def Cd(a:zA):Option zA:=ob a.asIntK fun x=>mB (Nat.beq (kLo x.1) 0) (gI Nat.xor x.1 (.ofNat (gG x.1-1)) x.2)
def unNone(_:zA):Option zA:=none
structure UB where f:zA->Option zA
def unA:UnOp->UB
 | .neg=>⟨unNeg⟩
 | .xor=>⟨Cd⟩
 | .not=>⟨unNot⟩
 | _=>⟨unNone⟩
def eS(v:zA):Option Nat:=ob v.asIntK fun x=>mB (lN x.1 .u8) (ob (yL x.2) fun n=>mB (Nat.blt n 256) (some n))
def Dp(H:wA)(a:zA):Option zA:=
 match a.asSlice with
 | some x=>ob (oD H x.1) fun c=>ob (c.1.many x.2.2.1 x.2.1) fun l=>ob (iG eS l) fun r=>some (.str r)
 | none=>mB (Nat.beq a.tag 5) (some (.str []))
def tQ(C:fA)(s d:eC)(a:zA)(H:wA):Option zA:=
 match d.desc.asInt with
 | some k=>ob a.asInt fun n=>some (.int k (iA k n))
 | none=>mB d.desc.isString (bif Nat.beq a.tag 2 then some a else
   ob s.desc.asSlice fun e=>ob (C.tys.get e) fun et=>ob et.desc.asInt fun k=>mB (lN k .u8) (Dp H a))
def mW(y:Nat)(v:zA):Option Nat:=ob v.asNat fun n=>mB (Nat.ble n y) (some n)
def Be(y dflt:Nat)(v:Option zA):Option Nat:=
 match v with
 | some v=>mW y v
 | none=>some dflt
def xP(len cap:Nat)(lo hi:Option zA):Option (Nat × Nat):=
 ob (Be cap len hi) fun h=>ob (Be h 0 lo) fun l=>some (l,h)
def cL(H:wA)(b size cap l:Nat)(arr:Bool):Bool:=
 match oD H b with
 | some c=>match c.2.2 with
  | none=>true
  | some es => !arr&&Nat.beq es.es size&&(!Nat.beq cap l||Nat.beq l 0)
 | none=>false
def pL(H:wA)(b size cap l:Nat)(arr:Bool):Bool:=
 match oD H b with
 | some c=>match c.2.2 with
  | none=>false
  | some es => !arr&&Nat.beq es.es size&&Nat.beq cap l && !Nat.beq l 0
 | none=>false
def sN(C:fA)(H:wA)(arr:Bool)(e b off len cap:Nat)(lo hi:Option zA):Option zA:=
 ob (C.tys.get e) fun et=>ob (xP len cap lo hi) fun x=>
  bif Nat.ble x.2 cap&&Nat.ble x.1 x.2&&pL H b et.size cap x.1 arr then some (.slice 0 1 0 0)else
  mB (Nat.ble x.2 cap&&cL H b et.size cap x.1 arr) (some (.slice b (bif Nat.beq cap x.1 then off else off+x.1*et.size) (x.2-x.1) (cap-x.1)))
def Nt(s:List Nat)(lo hi:Option zA):Option zA:=
 let n:=kB s
 ob (xP n n lo hi) fun x=>some (.str (xQ (wY s x.2) x.1))
def bL(C:fA)(H:wA)(ty:eC)(x:zA)(lo hi:Option zA):Option zA:=
 match x.asStr with
 | some s=>mB ty.desc.isString (Nt s lo hi)
 | none=>match x.asSlice with
  | some r=>ob ty.desc.asSlice fun e=>sN C H false e r.1 r.2.1 r.2.2.1 r.2.2.2 lo hi
  | none=>match x.asPtr with
   | some p=>ob ty.desc.asArr fun a=>sN C H true a.2 p.1 p.2 a.1 a.1 lo hi
   | none=>mB (Nat.beq x.tag 5) (ob ty.desc.asSlice fun e=>ob (C.tys.get e) fun _=>ob (xP 0 0 lo hi) fun _=>some .nilslice)
def Aw(cells:List zA)(off size:Nat)(v:zA):Option (List zA):=
 let vc:=v.cells
 let n:=kB vc
 mB (Nat.beq n size&&Nat.ble (off+n) (kB cells)) (some (iD (wY cells off) (iD vc (xQ cells (off+n)))))
def iN(place:Nat->Option (Nat × Nat)):List (Nat × zA)->List zA->Option (List zA)
 | [],cells=>some cells
 | p::rest,cells=>ob (place p.1) fun q=>ob (Aw cells q.1 q.2 p.2) fun cells=>iN place rest cells
def mS(d:lD):Bool:=Nat.ble d.tag 2
def keyTag(v:zA):Nat:=v.tag
def Da(d:lD)(v:zA):Bool:=Nat.beq d.tag (keyTag v)
def dY(C:fA):List (Nat × Nat × Nat)->Nat->Bool
 | [],_=>true
 | f::fs,i=>bif Nat.beq f.1 i then(match C.tys.get f.2.1 with
  | some ty=>bif mS ty.desc then dY C fs (i+1)else false
  | none=>false)else false
def nS(C:fA)(ty:eC):Bool:=bif mS ty.desc then true else match ty.desc.asStruct with
 | some fs=>bif ty.eqOk then dY C fs 0 else false
 | none=>false
def bY(C:fA):List (Nat × Nat × Nat)->List zA->Bool
 | [],[]=>true
 | f::fs,v::l=>(match C.tys.get f.2.1 with
  | some ty=>bif Da ty.desc v then bY C fs l else false
  | none=>false)
 | _,_=>false
def wQ(C:fA)(ty:eC)(v:zA):Bool:=bif mS ty.desc then Da ty.desc v else match ty.desc.asStruct with
 | some fs=>(match v.asAgg with
  | some l=>bY C fs l
  | none=>false)
 | none=>false
def dO(a b:zA):Option Bool:=
 match a.asIntK with
 | some x=>ob b.asIntK fun y=>mB (lN x.1 y.1) (some (zB x.2 y.2))
 | none=>match a.asStr with
  | some x=>ob b.asStr fun y=>some (zD x y)
  | none=>Gw a b
def oS:List zA->List zA->Option Bool
 | [],[]=>some true
 | a::x,b::y=>ob (dO a b) fun r=>ob (oS x y) fun s=>some (r&&s)
 | _,_=>none
def eH(a b:zA):Option Bool:=
 match a.asAgg with
 | some x=>ob b.asAgg fun y=>oS x y
 | none=>dO a b
def zK(k:zA):List (zA × zA)->Option (Option zA)
 | []=>some none
 | e::l=>ob (eH k e.1) fun r=>bif r then some (some e.2)else zK k l
def wM(k v:zA):List (zA × zA)->Option (List (zA × zA))
 | []=>some [(k,v)]
 | e::l=>ob (eH k e.1) fun r=>bif r then some ((k,v)::l)else ob (wM k v l) fun l=>some (e::l)
abbrev bI:=fA->xD->wA->Option zA
def pY:bI:=fun _ _ _=>none
def aV(x:Operand):bI:=fun _ e _=>ev x e
def Kv(c a b:Operand):bI:=fun _ e _=>ob (ev c e) fun c=>ob c.asBool fun c=>bif c then ev a e else ev b e
def vU(t:Nat)(a:Operand):bI:=fun C e H=>ob (ev a e) fun v=>ob v.asPtr fun p=>ob (C.tys.get t) fun ty=>ob (oD H p.1) fun c=>xR ty c.1 p.2
def oY (x:Operand):bI:=fun _ e _=>ob (ev x e) fun v=>mB (Nat.beq v.tag 4||Nat.beq v.tag 9) (some v)
def pU (op:BinOp)(t:Nat)(x y:Operand):bI:=fun C e _=>ob (ev x e) fun a=>ob (ev y e) fun b=>(zN op).f C t x y a b
def lUn (op:UnOp)(x:Operand):bI:=fun _ e _=>ob (ev x e) fun a=>(unA op).f a
def mN(s d:Nat)(x:Operand):bI:=fun C e H=>ob (ev x e) fun a=>ob (C.tys.get s) fun s=>ob (C.tys.get d) fun d=>tQ C s d a H
def Ah(t:Nat)(x:Operand):bI:=fun C e _=>ob (C.tys.get t) fun ty=>mB (Nat.blt ty.desc.tag 9) (ob (ev x e) fun v=>some (.iface t v))
def Qc(f:Nat)(a b:Array Operand):bI:=fun _ e _=>ob (uQ a.toList e) fun a=>ob (uQ b.toList e) fun b=>some (.func (.func f) a b)
structure LB where f:bI
def Ai(fn:Fn)(a b:Array Operand):LB:=
 match fn with
 | .func f=>⟨Qc f a b⟩
 | _=>⟨pY⟩
def qY(t:Nat)(x:Operand)(lo hi:Option Operand):bI:=fun C e H=>
 ob (ev x e) fun a=>ob (evo lo e) fun l=>ob (evo hi e) fun h=>ob (C.tys.get t) fun ty=>bL C H ty a l h
def Ku(t:Nat)(x:Operand)(lo hi mx:Option Operand):LB:=
 match mx with
 | none=>⟨qY t x lo hi⟩
 | some _=>⟨pY⟩
def rU(s:Nat)(x:Operand)(f:Nat):bI:=fun C e _=>
 ob (C.tys.get s) fun ty=>ob ty.desc.asStruct fun fs=>ob (uD fs f) fun fd=>mB (!Nat.beq fd.2.2 0) (ob (ev x e) fun v=>ob v.asPtr fun p=>some (.ptr p.1 (p.2+fd.1)))
def Aj(t:Nat)(x:Operand)(f:Nat):bI:=fun C e _=>
 ob (C.tys.get t) fun ty=>ob ty.desc.asStruct fun fs=>ob (uD fs f) fun fd=>ob (ev x e) fun v=>ob v.asAgg fun l=>lO C fd.2.1 l fd.1
def tU(t:Nat)(x i:Operand):bI:=fun C e _=>
 ob (C.tys.get t) fun ty=>ob (ev x e) fun v=>ob (ev i e) fun i=>ob i.asNat fun i=>
  match v.asSlice with
  | some s=>ob ty.desc.asSlice fun el=>ob (C.tys.get el) fun et=>mB (Nat.blt i s.2.2.1) (some (.ptr s.1 (s.2.1+i*et.size)))
  | none=>ob v.asPtr fun p=>ob ty.desc.asArr fun a=>ob (C.tys.get a.2) fun et=>mB (Nat.blt i a.1) (some (.ptr p.1 (p.2+i*et.size)))
def sU(t:Nat)(x i:Operand):bI:=fun C e _=>
 ob (C.tys.get t) fun ty=>ob (ev x e) fun v=>ob (ev i e) fun i=>ob i.asNat fun i=>
  match v.asStr with
  | some s=>mB ty.desc.isString (ob (uD s i) fun b=>some (.int .u8 (.ofNat b)))
  | none=>ob v.asAgg fun l=>ob ty.desc.asArr fun a=>ob (C.tys.get a.2) fun et=>mB (Nat.blt i a.1) (lO C a.2 l (i*et.size))
def qU(t:Operand)(i:Nat):bI:=fun _ e _=>ob (ev t e) fun v=>ob v.asTup fun l=>uD l i
def zW(t:Nat)(parts:Array (Nat × Operand)):bI:=fun C e _=>
 ob (C.tys.get t) fun ty=>ob (evp parts.toList e) fun ps=>
  match ty.desc.asStruct with
  | some fs=>ob (iN (fun i=>ob (uD fs i) fun x=>some (x.1,x.2.2)) ps ty.zero) fun l=>some (.agg l)
  | none=>ob ty.desc.asArr fun a=>ob (C.tys.get a.2) fun et=>ob (iN (fun i=>some (i*et.size,et.size)) ps ty.zero) fun l=>some (.agg l)
def oU(x:Operand)(asserted:Nat)(ok:Bool):bI:=fun C e _=>
 ob (C.tys.get asserted) fun ty=>mB (Nat.blt ty.desc.tag 9) (ob (ev x e) fun v=>
  match v.asIface with
  | some p=>bif Nat.beq p.1 asserted then some (bif ok then .tup [p.2,.bool true]else p.2)else mB ok (some (.tup [xV ty,.bool false]))
  | none=>mB (Nat.beq v.tag 12&&ok) (some (.tup [xV ty,.bool false])))
def bT(H:wA)(v:zA):Option (List (zA × zA)):=
 match v.asMap with
 | some b=>yK H b
 | none=>mB (Nat.beq v.tag 7) (some [])
def wU(t:Nat)(x i:Operand)(ok:Bool):bI:=fun C e H=>
 ob (C.tys.get t) fun ty=>ob ty.desc.asMap fun ke=>ob (C.tys.get ke.1) fun kty=>mB (nS C kty) (ob (C.tys.get ke.2) fun ety=>
  ob (ev x e) fun m=>ob (bT H m) fun es=>ob (ev i e) fun k=>mB (wQ C kty k) (ob (zK k es) fun r=>
   match r with
   | some v=>some (bif ok then .tup [v,.bool true]else v)
   | none=>some (bif ok then .tup [xV ety,.bool false]else xV ety)))
def rS (H:wA)(ty:eC)(v:zA):Option Nat:=
 match v.asStr with
 | some s=>mB ty.desc.isString (some (kB s))
 | none=>match v.asSlice with
  | some s=>mB (Nat.beq ty.desc.tag 4) (some s.2.2.1)
  | none=>match ty.desc.asArr with
   | some a=>some a.1
   | none=>match v.asMap with
    | some b=>mB (Nat.beq ty.desc.tag 6) (ob (yK H b) fun l=>some (kB l))
    | none=>mB ((Nat.beq ty.desc.tag 4&&Nat.beq v.tag 5)||(Nat.beq ty.desc.tag 6&&Nat.beq v.tag 7)) (some 0)
def hO (c:Call):bI:=fun C e H=>
 ob (uD c.argTypes.toList 0) fun t=>ob (uD c.args.toList 0) fun x=>ob (C.tys.get t) fun ty=>ob (ev x e) fun v=>ob (rS H ty v) fun n=>some (.int .i64 (.ofNat n))
def two (c:Call)(e:xD):Option (zA × zA):=
 match c.args.toList with
 | [x,y]=>ob (ev x e) fun a=>ob (ev y e) fun b=>some (a,b)
 | _=>none
def xU (c:Call):bI:=fun _ e _=>ob (two c e) fun p=>ob p.1.asIntK fun x=>ob p.2.asIntK fun y=>some (.int x.1 (bif lB x.2 y.2 then y.2 else x.2))
def yU (c:Call):bI:=fun _ e _=>ob (two c e) fun p=>ob p.1.asIntK fun x=>ob p.2.asIntK fun y=>some (.int x.1 (bif lB y.2 x.2 then y.2 else x.2))
def Qe(c:Call):Builtin->LB
 | .len=>⟨hO c⟩
 | .max=>⟨xU c⟩
 | .min=>⟨yU c⟩
 | _=>⟨pY⟩
def vR(c:Call):Callee->LB
 | .builtin b=>Qe c b
 | _=>⟨pY⟩
def ziq(c:Call):LB:=vR c c.callee
def oF:Op->LB
 | .move x=>⟨aV x⟩
 | .assign x=>⟨aV x⟩
 | .pick c a b=>⟨Kv c a b⟩
 | .load t a=>⟨vU t a⟩
 | .nilCheck x=>⟨oY x⟩
 | .binOp op t x y _=>⟨pU op t x y⟩
 | .unOp op _ x=>⟨lUn op x⟩
 | .convert s d x=>⟨mN s d x⟩
 | .makeInterface t x=>⟨Ah t x⟩
 | .makeFunc fn a b=>Ai fn a b
 | .slice t x lo hi mx=>Ku t x lo hi mx
 | .fieldAddr s x f=>⟨rU s x f⟩
 | .field t x f=>⟨Aj t x f⟩
 | .indexAddr t x i=>⟨tU t x i⟩
 | .index t x i=>⟨sU t x i⟩
 | .extract t i=>⟨qU t i⟩
 | .build t ps=>⟨zW t ps⟩
 | .typeAssert x _ u ok=>⟨oU x u ok⟩
 | .lookup t x i ok=>⟨wU t x i ok⟩
 | .call c=>ziq c
 | _=>⟨pY⟩
inductive nK where
 | val (v:zA) (H:wA)
 | enter (f:Nat) (args:List zA)
 | round (l:Nat) (args:List zA)
 | defer (d:pJ)
 | panic (v:zA)
 | recover
 | fail
abbrev tP:=fA->xD->wA->nK
structure HB where f:tP
def nL (x:Option (zA × wA)):nK:=
 match x with
 | some p=>.val p.1 p.2
 | none=>.fail
def Aa (x:Option nK):nK:=
 match x with
 | some r=>r
 | none=>.fail
def lv (f:bI):tP:=fun C e H=>
 match f C e H with
 | some v=>.val v H
 | none=>.fail
def newBlk(H:wA)(b:sA):wA:=⟨H.next+1,H.t.set H.next b⟩
def uF(H:wA)(l:List zA)(loose:Option Lo):wA:=newBlk H (.cells (Tr.ofList l) (kB l) loose)
def setBlk(H:wA)(b:Nat)(x:sA):wA:=⟨H.next,H.t.set b x⟩
def oJ (zero:List zA):Nat->List zA
 | 0=>[]
 | n+1=>iD zero (oJ zero n)
def sY(v:zA):Option Nat:=
 match v.asSlice with
 | some s=>some s.2.2.1
 | none=>match v.asStr with
  | some s=>some (kB s)
  | none=>mB (Nat.beq v.tag 5) (some 0)
def nW(l:List Nat):List zA:=l.map fun n=>zA.int .u8 (Int.ofNat n)
def pR(H:wA)(size n:Nat)(v:zA):Option (List zA):=
 match v.asSlice with
 | some s=>ob (oD H s.1) fun c=>c.1.many (n*size) s.2.1
 | none=>match v.asStr with
  | some s=>some (nW (wY s n))
  | none=>mB (Nat.beq v.tag 5) (some [])
def zJ(C:fA)(H:wA)(b off:Nat)(l:List zA):Option wA:=
 mB (!Nat.blt b C.base) (ob (oD H b) fun c=>
  mB (Nat.ble (off+kB l) c.2.1&&nE zA.one l) (some (setBlk H b (.cells (c.1.setMany l off) c.2.1 c.2.2))))
def iY(et:eC)(len cap n:Nat)(new:List zA):Bool:=
 Nat.blt (len+n+cap) 1000000000&&Nat.blt ((len+n+cap)*et.bytes) 1000000000&&Nat.blt et.bytes 1000000000 && !Nat.beq et.size 0&&Nat.beq (kB new) (n*et.size)&&Nat.beq (kB et.zero) et.size
def KD(et:eC):Bool:=match et.desc with | .int .u8=>true | _=>false
def cK(e:Nat)(et:eC):Lo:=bif Nat.beq et.size 1&&KD et then .ty e else .sz et.size
def tW(H:wA)(e:Nat)(et:eC)(n:Nat)(new:List zA):Option (zA × wA):=
 bif Nat.beq n 0 then some (.nilslice,H)else
  mB (iY et 0 0 n new) (some (.slice H.next 0 n n,uF H new (some (cK e et))))
def jY(C:fA)(H:wA)(et:eC)(n:Nat)(new:List zA)(s:Nat × Nat × Nat × Nat):Option (zA × wA):=
 match new with
 | []=>some (.slice s.1 s.2.1 (s.2.2.1+n) s.2.2.2,H)
 | _::_=>ob (zJ C H s.1 (s.2.1+s.2.2.1*et.size) new) fun H'=>some (.slice s.1 s.2.1 (s.2.2.1+n) s.2.2.2,H')
def Gs(H:wA)(e:Nat)(et:eC)(n:Nat)(new:List zA)(s:Nat × Nat × Nat × Nat)(c:Tr zA):Option (zA × wA):=
 ob (c.many (s.2.2.1*et.size) s.2.1) fun old=>some (.slice H.next 0 (s.2.2.1+n) (s.2.2.1+n),uF H (iD old new) (some (cK e et)))
def Gt(C:fA)(H:wA)(e:Nat)(et:eC)(n:Nat)(new:List zA)(s:Nat × Nat × Nat × Nat)(c:Tr zA)(m:Nat)(lo:Lo):Option (zA × wA):=
 mB (Nat.beq s.2.1 0&&loEq lo (cK e et)&&Nat.ble (s.2.2.1*et.size) m&&Nat.ble m ((s.2.2.1+n)*et.size)&&nE zA.one new && !Nat.blt s.1 C.base)
  (some (.slice H.next 0 (s.2.2.1+n) (s.2.2.1+n),⟨H.next+1,(H.t.del s.1).set H.next (.cells (c.setMany new (s.2.2.1*et.size)) ((s.2.2.1+n)*et.size) (some lo))⟩))
def fY(C:fA)(H:wA)(e:Nat)(et:eC)(n:Nat)(new:List zA)(s:Nat × Nat × Nat × Nat):Option (zA × wA):=
 mB (!(Nat.beq s.2.1 1&&Nat.beq s.2.2.2 0)) (mB (iY et s.2.2.1 s.2.2.2 n new) (ob (oD H s.1) fun c=>
  match c.2.2 with
  | none=>Gs H e et n new s c.1
  | some lo=>Gt C H e et n new s c.1 c.2.1 lo))
def iW(C:fA)(H:wA)(ty:eC)(s x:zA):Option (zA × wA):=
 ob ty.desc.asSlice fun e=>ob (C.tys.get e) fun et=>ob (sY x) fun n=>ob (pR H et.size n x) fun new=>
  match s.asSlice with
  | some s=>bif Nat.ble (s.2.2.1+n) s.2.2.2 then jY C H et n new s else fY C H e et n new s
  | none=>mB (Nat.beq s.tag 5) (tW H e et n new)
def isBld(C:fA)(t:Nat):Bool:=
 match ob (C.tys.get t) fun ty=>ob ty.desc.asStruct fun fs=>ob (uD fs 0) fun f=>ob (C.tys.get f.2.1) fun tf=>some tf.desc with
 | some (.ptr e)=>Nat.beq e t
 | _=>false
def vK(C:fA)(t:Nat):Option Lo:=
 bif isBld C t then some (.ty t)else
 match ob (C.tys.get t) fun ty=>ob ty.desc.asStruct fun fs=>ob (uD fs 0) fun f=>some (isBld C f.2.1)with
 | some true=>some (.ty t)
 | _=>none
def Ar(t:Nat):tP:=fun C _ H=>nL (ob (C.tys.get t) fun ty=>some (.ptr H.next 0,uF H ty.zero (vK C t)))
def kY (t:Nat)(x:Operand):tP:=fun C e H=>nL (ob (ev x e) fun v=>some (.ptr H.next 0,uF H v.cells (vK C t)))
def vY (C:fA):Op->Option Lo
 | .alloc t=>vK C t
 | .box t _=>vK C t
 | _=>none
def Aq(t len:Nat)(parts:Array (Nat × Operand)):tP:=fun C e H=>nL (ob (C.tys.get t) fun ty=>ob ty.desc.asSlice fun el=>ob (C.tys.get el) fun et=>
 mB (Nat.blt (len*et.size) 1000000&&Nat.beq (kB et.zero) et.size) (ob (evp parts.toList e) fun ps=>ob (iN (fun i=>some (i*et.size,et.size)) ps (oJ et.zero len)) fun l=>some (.slice H.next 0 len len,uF H l none)))
def Li(t:Nat)(a x:Operand):tP:=fun C e H=>nL (ob (C.tys.get t) fun ty=>ob (ev a e) fun a=>ob a.asPtr fun p=>ob (ev x e) fun v=>
 let l:=v.cells
 mB (Nat.beq (kB l) ty.size) (ob (zJ C H p.1 p.2 l) fun H'=>some (vE,H')))
def Lj(r:Option Operand):tP:=fun _ _ H=>
 match r with
 | none=>.val (.map H.next) (newBlk H (.map []))
 | some _=>.fail
def Ap(t:Nat)(m k x:Operand):tP:=fun C e H=>nL (ob (C.tys.get t) fun ty=>ob ty.desc.asMap fun ke=>ob (C.tys.get ke.1) fun kty=>mB (nS C kty)
 (ob (ev m e) fun m=>ob m.asMap fun b=>mB (!Nat.blt b C.base) (ob (yK H b) fun l=>ob (ev k e) fun k=>mB (wQ C kty k) (ob (ev x e) fun v=>ob (wM k v l) fun l'=>some (vE,setBlk H b (.map l'))))))
def Zf(t:Nat)(l c:Operand):tP:=fun C e H=>nL (ob (C.tys.get t) fun ty=>ob ty.desc.asSlice fun el=>ob (C.tys.get el) fun et=>
 ob (ev l e) fun l=>ob l.asNat fun l=>ob (ev c e) fun c=>ob c.asNat fun c=>
  mB (Nat.ble l c&&Nat.blt c 1000000&&Nat.blt (c*et.bytes) 1000000000&&Nat.beq (kB et.zero) et.size) (some (.slice H.next 0 l c,uF H (oJ et.zero c) none)))
def vW(s d:Nat)(x:Operand):tP:=fun C e H=>
 match mN s d x C e H with
 | some v=>.val v H
 | none=>nL (ob (C.tys.get s) fun _=>ob (C.tys.get d) fun ty=>ob ty.desc.asSlice fun el=>ob (C.tys.get el) fun et=>ob et.desc.asInt fun k=>mB (lN k .u8) (ob (ev x e) fun v=>ob v.asStr fun l=>
   some (.slice H.next 0 (kB l) (kB l),uF H (nW l) (some (.ty el)))))
def Ze(x:Operand):tP:=fun _ e _=>Aa (ob (ev x e) fun v=>ob v.asIface fun p=>some (.panic (.iface p.1 p.2)))
def jT(f:Operand)(args:Array Operand)(e:xD):Option (AFn × List zA × List zA):=
 ob (ev f e) fun v=>ob v.asFunc fun p=>ob (uQ args.toList e) fun as=>some (p.1,iD p.2.1 as,p.2.2)
def Qr(c:Call):Callee->HB
 | .value f=>⟨fun _ e _=>Aa (ob (jT f c.args e) fun p=>some (.defer ⟨some p.1,0,iD p.2.1 p.2.2⟩))⟩
 | _=>⟨fun _ _ _=>.fail⟩
def hDefer(c:Call):HB:=Qr c c.callee
def qN(g:List zA->wA->Option zA):List zA->wA->Option (zA × wA):=fun args H=>ob (g args H) fun v=>some (v,H)
def Hg(_:fA)(H:wA)(args:List zA)(f:Nat):Option (List zA->wA->Option (zA × wA))->nK
 | some g=>match g args H with
  | some p=>.val p.1 p.2
  | none=>.fail
 | none=>.enter f args
def NJ(l:Nat)(args:List zA):List zA->nK
 | []=>.round l args
 | _::_=>.fail
def zjy(C:fA)(H:wA)(args cap:List zA):AFn->nK
 | .func f=>Hg C H (iD args cap) f (C.prims.get f)
 | .yld l=>NJ l args cap
def Df(f:Operand)(args:Array Operand):tP:=fun C e H=>Aa (ob (jT f args e) fun p=>some (zjy C H p.2.1 p.2.2 p.1))
def Gr(c:Call):tP:=fun C e H=>nL (ob (uD c.argTypes.toList 0) fun t=>ob (C.tys.get t) fun ty=>ob (uD c.argTypes.toList 1) fun u=>ob (C.tys.get u) fun uty=>
 mB (!Nat.beq uty.desc.tag 1) (ob (two c e) fun p=>iW C H ty p.1 p.2))
def zi9:tP:=fun _ _ _=>.fail
def zdc:tP:=fun _ _ _=>.recover
def zdd(c:Call):Builtin->HB
 | .append=>⟨Gr c⟩
 | .len=>⟨lv (hO c)⟩
 | .max=>⟨lv (xU c)⟩
 | .min=>⟨lv (yU c)⟩
 | .recover=>⟨zdc⟩
 | _=>⟨zi9⟩
def Gq(c:Call):Callee->HB
 | .value f=>⟨Df f c.args⟩
 | .builtin b=>zdd c b
 | _=>⟨zi9⟩
def hCall(c:Call):HB:=Gq c c.callee
def lvB (b:LB):HB:=⟨lv b.f⟩
def xG:Op->HB
 | .move x=>⟨lv (aV x)⟩
 | .assign x=>⟨lv (aV x)⟩
 | .pick c a b=>⟨lv (Kv c a b)⟩
 | .load t a=>⟨lv (vU t a)⟩
 | .nilCheck x=>⟨lv (oY x)⟩
 | .binOp op t x y _=>⟨lv (pU op t x y)⟩
 | .unOp op _ x=>⟨lv (lUn op x)⟩
 | .makeInterface t x=>⟨lv (Ah t x)⟩
 | .makeFunc fn a b=>lvB (Ai fn a b)
 | .slice t x lo hi mx=>lvB (Ku t x lo hi mx)
 | .fieldAddr s x f=>⟨lv (rU s x f)⟩
 | .field t x f=>⟨lv (Aj t x f)⟩
 | .indexAddr t x i=>⟨lv (tU t x i)⟩
 | .index t x i=>⟨lv (sU t x i)⟩
 | .extract t i=>⟨lv (qU t i)⟩
 | .build t ps=>⟨lv (zW t ps)⟩
 | .typeAssert x _ u ok=>⟨lv (oU x u ok)⟩
 | .lookup t x i ok=>⟨lv (wU t x i ok)⟩
 | .convert s d x=>⟨vW s d x⟩
 | .alloc t=>⟨Ar t⟩
 | .box t x=>⟨kY t x⟩
 | .buildSlice t len ps=>⟨Aq t len ps⟩
 | .store t a x=>⟨Li t a x⟩
 | .makeMap _ r=>⟨Lj r⟩
 | .insert t m k x=>⟨Ap t m k x⟩
 | .mapUpdate t m k x=>⟨Ap t m k x⟩
 | .makeSlice t l c=>⟨Zf t l c⟩
 | .panic x=>⟨Ze x⟩
 | .defer c=>hDefer c
 | .call c=>hCall c
 | _=>⟨zi9⟩
structure GB where f:Tm->Option Bool
def zgy(_:Tm):Option Bool:=some true
def Ip(d:Option Nat)(w:Bool)(tm:Tm):Option Bool:=
 ob d fun d=>ob (tm.get d) fun v=>match v.asBool with
  | some b=>some (bEq b w)
  | none=>some false
def Iq(g:Option (Nat × Bool))(all:Array Oper):GB:=
 match g with
 | none=>⟨zgy⟩
 | some jw=>⟨Ip (ob (uD all.toList jw.1) fun o=>o.dst) jw.2⟩
def iF(g:Option (Nat × Bool))(all:Array Oper)(tm:Tm):Option Bool:=(Iq g all).f tm
structure PB where f:Nat->Tm->zA->Tm
def Ol(d n:Nat)(tm:Tm)(v:zA):Tm:=bif Nat.blt d n then tm.set d v else tm
def putNo(_:Nat)(tm:Tm)(_:zA):Tm:=tm
def putB (dst:Option Nat):PB:=
 match dst with
 | some d=>⟨Ol d⟩
 | none=>⟨putNo⟩
def putA (n:Nat)(tm:Tm)(dst:Option Nat)(v:zA):Tm:=(putB dst).f n tm v
def zX.running:zX->Bool | .run=>true | _=>false
def bD.blockId:bD->Option Nat | .inBlock id=>some id | _=>none
def oR(id:Nat):List bD->Option (List bD)
 | []=>none
 | x::k=>match x.blockId with
  | some i=>bif Nat.beq i id then some k else oR id k
  | none=>oR id k
def zgm(all:Array Oper)(rest:List Oper)(k:List bD)(tm:Tm)(R:iJ)(v:zA):Option rC:=
 match rest with
 | o::rest=>some ⟨.ops all rest::k,putA R.n tm o.dst v,R⟩
 | []=>none
def Zn(all:Array Oper)(old:Tm)(olds:List (Nat × List Nat))(stages:List zF)(k:List bD)(tm:Tm)(R:iJ)(v:zA):Option rC:=
 match stages with
 | st::stages=>ob (uD all.toList st.heavy) fun o=>some ⟨.reg all old olds (⟨all.size,st.lights,st.again⟩::stages)::k,putA R.n tm o.dst v,R⟩
 | []=>none
def zdk(l:Nat)(k:List bD)(tm:Tm)(R:iJ)(_:zA):Option rC:=some ⟨.endRange l::k,tm,R⟩
def zdl(k:List bD)(tm:Tm)(R:iJ)(_:zA):Option rC:=some ⟨k,tm,R⟩
def zjg(_:List bD)(_:Tm)(_:iJ)(_:zA):Option rC:=none
def Rc:bD->List bD->Tm->iJ->zA->Option rC
 | .ops all rest=>zgm all rest
 | .reg all old olds stages=>Zn all old olds stages
 | .inRange l=>zdk l
 | .beginRound=>zdl
 | _=>zjg
def kH(fr:rC)(v:zA):Option rC:=
 match fr.todo with
 | []=>none
 | x::k=>bif fr.R.mode.running then Rc x k fr.tm fr.R v else none
def kL(C:fA)(f:Nat)(args:List zA)(deferred:Bool):Option rC:=
 ob (C.fns.get f) fun fn=>ob fn.body fun c=>ob (C.ks.get f) fun k=>mB (Nat.ble (kB args) k&&Nat.ble (kB args) fn.ntmps) (some ⟨[.code c],⟨k,Tr.ofList args,[]⟩,⟨f,fn.ntmps,[],.run,deferred,none⟩⟩)
def pX(n:Nat):List Nat->List zA->Tm->Option (Tm)
 | [],[],tm=>some tm
 | p::ps,a::as,tm=>pX n ps as (putA n tm (some p) a)
 | _,_,_=>none
def Td:List Operand->List Nat
 | []=>[]
 | .tmp t::l=>t::Td l
 | _::l=>Td l
def vH(o:Op):List Nat:=Td o.operands.toList
def xF(i:Nat):List (Nat × List Nat)->List Nat
 | []=>[]
 | x::r=>bif Nat.beq i x.1 then x.2 else xF i r
def same:Nat->zA->zA->Bool
 | _,.bool a,.bool b=>bEq a b
 | _,.int j a,.int k b=>lN j k&&zB a b
 | _,.str a,.str b=>zD a b
 | _,.nilptr,.nilptr=>true
 | _,.ptr a b,.ptr c d=>Nat.beq a c&&Nat.beq b d
 | _,.nilslice,.nilslice=>true
 | _,.slice a b c d,.slice e f g h=>Nat.beq a e&&Nat.beq b f&&Nat.beq c g&&Nat.beq d h
 | _,.nilmap,.nilmap=>true
 | _,.map a,.map b=>Nat.beq a b
 | _,.nilfunc,.nilfunc=>true
 | _,.niliface,.niliface=>true
 | d+1,.agg a,.agg b=>sames d a b
 | d+1,.tup a,.tup b=>sames d a b
 | _,_,_=>false
where
 sames (d:Nat):List zA->List zA->Bool
  | [],[]=>true
  | a::x,b::y=>same d a b&&sames d x y
  | _,_=>false
def zQ(C:fA)(H:wA)(all:Array Oper)(n:Nat)(old:Tm)(olds:List (Nat × List Nat)):List Nat->Tm->Option (Tm)
 | [],tm=>some tm
 | i::l,tm=>ob (uD all.toList i) fun o=>ob (iF o.guard all tm) fun w=>ob (bif w then(oF o.op).f C (.mixed tm old (xF i olds) (vH o.op)) H else some vE) fun v=>
   zQ C H all n old olds l (putA n tm o.dst v)
def Bk(C:fA)(H:wA)(all:Array Oper)(old:Tm)(olds:List (Nat × List Nat))(tm:Tm):List Nat->Bool
 | []=>true
 | i::l=>match (ob (uD all.toList i) fun o=>ob o.dst fun d=>ob (iF o.guard all tm) fun w=>bif w then(ob ((oF o.op).f C (.mixed tm old (xF i olds) (vH o.op)) H) fun v=>ob (tm.get d) fun u=>some (same 10 v u))else some true)with
  | some true=>Bk C H all old olds tm l
  | _=>false
def zX.chain:zX->Option (List Br) | .panicking c=>some c | _=>none
def Hb:List Oper->Tr zA->Tr zA
 | [],t=>t
 | o::l,t=>match o.dst with
  | some j=>Hb l (t.del j)
  | none=>Hb l t
def Kr(todo:List bD)(tm:Tm):Tm:=
 match todo with
 | .reg all _ _ _::_=>⟨tm.k,Hb all.toList tm.v,[]⟩
 | _=>tm
def Oi(fr:rC)(l:List Br):rC:=
 ⟨[],Kr fr.todo fr.tm,⟨fr.R.fn,fr.R.n,fr.R.defers,.panicking (match fr.R.mode.chain with | some c=>iD l c | none=>l),fr.R.deferred,fr.R.roundOf⟩⟩
def fK(x:Option jQ)(why:Nat):pF:=
 match x with
 | some s=>.next s
 | none=>.fail why
def bJ(H:wA)(l:Nat):Option yO:=mB (Nat.ble (nat_lit 256) l) (ob (H.t.get l) sA.asLoop)
def pW(H:wA)(l:Nat):Option (Option (List pJ)):=mB (Nat.ble (nat_lit 256) l) (ob (H.t.get l) sA.asDeferred)
def Cq (v:zA)(H':wA)(_:fA)(fr:rC)(cs:List rC)(_:wA):pF:=fK (ob (kH fr v) fun fr=>some ⟨fr,cs,H'⟩) 1
def Jv(f:Nat)(args:List zA)(C:fA)(fr:rC)(cs:List rC)(H:wA):pF:=fK (ob (kL C f args false) fun g=>some ⟨g,fr::cs,H⟩) 2
def Ju(l:Nat)(args:List zA)(_:fA)(fr:rC)(cs:List rC)(H:wA):pF:=
 fK (ob (bJ H l) fun r=>ob (pX r.n r.params args r.tm) fun tm=>some ⟨⟨[.code r.assign,.beginRound,.code r.body],tm,⟨r.fn,r.n,[],.run,false,some l⟩⟩,fr::cs,H⟩) 3
def Wy(d:pJ)(_:fA)(fr:rC)(cs:List rC)(H:wA):pF:=
 fK (match fr.R.roundOf with
  | none=>ob (kH fr vE) fun g=>some ⟨⟨g.todo,g.tm,⟨g.R.fn,g.R.n,d::g.R.defers,g.R.mode,g.R.deferred,g.R.roundOf⟩⟩,cs,H⟩
  | some _=>none) 4
def ze7(v:zA)(_:fA)(fr:rC)(cs:List rC)(H:wA):pF:=.next ⟨Oi fr [⟨v,false⟩],cs,H⟩
def Ww(_:fA)(fr:rC)(cs:List rC)(H:wA):pF:=
 fK (match fr.R.roundOf,fr.R.deferred,cs with
  | none,true,c::rest=>match c.R.mode with
   | .panicking (⟨v,false⟩::older)=>ob (kH fr v) fun fr=>some ⟨fr,⟨c.todo,c.tm,⟨c.R.fn,c.R.n,c.R.defers,.panicking (⟨v,true⟩::older),c.R.deferred,c.R.roundOf⟩⟩::rest,H⟩
   | .panicking _=>none
   | _=>ob (kH fr .niliface) fun fr=>some ⟨fr,cs,H⟩
  | _,_,_=>none) 5
def rFail(_:fA)(_:rC)(_:List rC)(_:wA):pF:=.fail 6
def Hr:nK->fA->rC->List rC->wA->pF
 | .val v H'=>Cq v H'
 | .enter f args=>Jv f args
 | .round l args=>Ju l args
 | .defer d=>Wy d
 | .panic v=>ze7 v
 | .recover=>Ww
 | .fail=>rFail
def bZ(C:fA)(H:wA)(tm:Tm):ResultVar->Option zA
 | .tmp t=>tm.get t
 | .cell a t=>ob (ob (tm.get a) zA.asPtr) fun p=>ob (C.tys.get t) fun ty=>ob (oD H p.1) fun c=>xR ty c.1 p.2
def nX(C:fA)(H:wA)(tm:Tm)(l:List ResultVar):Option (List zA):=iG (bZ C H tm) l
def Ws(jump:Option Code):Bool:=
 match jump with
 | none=>true
 | some .ret=>true
 | _=>false
def Jk(fr:rC)(m:zX):rC:=⟨fr.todo,fr.tm,⟨fr.R.fn,fr.R.n,fr.R.defers,m,fr.R.deferred,fr.R.roundOf⟩⟩
def wR(jump:Option Code)(_:fA)(fr:rC)(cs:List rC)(H:wA):pF:=
 fK (match fr.R.roundOf with
  | none=>mB (Ws jump) (some ⟨Jk fr .returning,cs,H⟩)
  | some l=>ob (bJ H l) fun r=>match cs with
   | c::rest=>mB (!fr.R.deferred) <| ob (kH c (.bool jump.isNone)) fun c=>some ⟨c,rest,setBlk H l (.loop ⟨if jump.isNone then .ready else .done,jump,r.fn,r.n,r.tm,r.params,r.assign,r.body,r.defers⟩)⟩
   | []=>none) 7
abbrev jL:=fA->List bD->Tm->iJ->List rC->wA->pF
structure XB where f:jL
def xGo (todo:List bD)(tm:Tm)(R:iJ)(cs:List rC)(H:wA):pF:=.next ⟨⟨todo,tm,R⟩,cs,H⟩
def Bt:jL:=fun _ k tm R cs H=>xGo k tm R cs H
def Ij(c:Operand)(x y:Code):jL:=fun _ k tm R cs H=>
 match ob (ev c (.now tm)) zA.asBool with
 | some b=>xGo (.code (bif b then x else y)::k) tm R cs H
 | none=>.fail 8
def zea(id:Nat)(c:Code):jL:=fun _ k tm R cs H=>xGo (.code c::.inBlock id::k) tm R cs H
def zgu(c:Code):jL:=fun _ k tm R cs H=>xGo (.code c::.inLoop c::k) tm R cs H
def xScope(c:Code):jL:=fun _ k tm R cs H=>xGo (.code c::.inScope c::k) tm R cs H
def kZ(id:Nat):jL:=fun C k tm R cs H=>
 match oR id k with
 | some k'=>xGo k' tm R cs H
 | none=>wR (some (.exit id)) C ⟨.code (.exit id)::k,tm,R⟩ cs H
def xRet:jL:=fun C k tm R cs H=>wR (some .ret) C ⟨.code .ret::k,tm,R⟩ cs H
def zgv:jL:=fun _ _ _ _ _ _=>.fail 9
def Dv(e:Edge):Bool:=
 match e.ground with
 | .textOnly _=>false
 | .gcOnly _=>false
 | _=>true
def tb (m i:Nat):Bool:=Nat.beq (Nat.mod (Nat.shiftRight m i) (nat_lit 2)) (nat_lit 1)
def wZ(i:Nat):Nat:=Nat.shiftLeft (nat_lit 1) i
def fI (t:Tr Nat)(i:Nat):Nat:=
 match t.get i with
 | some m=>m
 | none=>0
def Gf(t:Tr Nat):List Edge->Nat
 | []=>0
 | e::l=>bif Dv e then Nat.lor (Nat.lor (wZ e.on) (fI t e.on)) (Gf t l)else Gf t l
def zj3:List Oper->Nat->Tr Nat->Tr Nat
 | [],_,t=>t
 | o::r,i,t=>zj3 r (i+1) (t.set i (Gf t o.after.toList))
def Pd:List Oper->Nat->Bool
 | [],_=>true
 | o::r,i=>bif nE (fun e=>bif Dv e then Nat.blt e.on i else true) o.after.toList then Pd r (i+1)else false
def Eh:List Oper->Nat->Tr Nat->Option (Tr Nat)
 | [],_,t=>some t
 | o::r,i,t=>match o.dst with
  | none=>Eh r (i+1) t
  | some d=>match t.get d with
   | none=>Eh r (i+1) (t.set d i)
   | some _=>none
def sH{α:Type}:Option α->Bool | none=>true | some _=>false
def Xm(wr anc:Tr Nat)(i:Nat)(olds:List Nat)(t:Nat):Bool:=
 match wr.get t with
 | none=>true
 | some j=>bif sI t olds then(bif Nat.beq j i then true else tb (fI anc j) i)else tb (fI anc i) j
def Xn(anc:Nat):Option (Nat × Bool)->Bool
 | none=>true
 | some g=>tb anc g.1
def Pb(wr anc:Tr Nat)(olds:List (Nat × List Nat)):List Oper->Nat->Bool
 | [],_=>true
 | o::r,i=>bif Xn (fI anc i) o.guard then(bif nE (Xm wr anc i (xF i olds)) (vH o.op)then Pb wr anc olds r (i+1)else false)else false
def xS:Op->Bool
 | .move _=>true
 | .assign _=>true
 | .pick _ _ _=>true
 | .nilCheck _=>true
 | .binOp _ _ _ _ _=>true
 | .unOp _ _ _=>true
 | .makeInterface _ _=>true
 | .makeFunc _ _ _=>true
 | .fieldAddr _ _ _=>true
 | .field _ _ _=>true
 | .indexAddr _ _ _=>true
 | .index _ _ _=>true
 | .extract _ _=>true
 | .build _ _=>true
 | .typeAssert _ _ _ _=>true
 | _=>false
def vX (D:Nat)(o:Oper):Bool:=nE (fun e=>bif Dv e then tb D e.on else true) o.after.toList
def Pc(h D:Nat):List Oper->Nat->Bool
 | [],_=>true
 | o::r,i=>bif (bif tb D i then true else bif Nat.beq i h then true else !vX D o)then Pc h D r (i+1)else false
def sK:Op->Bool
 | .alloc _=>true
 | .box _ _=>true
 | .buildSlice _ _ _=>true
 | _=>false
def Pg(m D:Nat)(again:List Nat):List Oper->Nat->Bool
 | [],_=>true
 | o::r,i=>bif (bif tb D i then(bif tb m i then true else bif xS o.op then true else bif sK o.op then true else sI i again)else true)then Pg m D again r (i+1)else false
def gV(ops:List Oper)(i D:Nat):Option Nat:=
 ob (uD ops i) fun o=>mB (bif tb D i then false else vX D o) (some (Nat.lor D (wZ i)))
def kO(ops:List Oper):List Nat->Nat->Option Nat
 | [],D=>some D
 | i::l,D=>ob (gV ops i D) fun D=>kO ops l D
def Pe(D:Nat):List Oper->Nat->Bool
 | [],_=>true
 | _::r,i=>bif tb D i then Pe D r (i+1)else false
def zi5:Option Oper->Bool
 | some o=>sK o.op
 | none=>false
def okG (ops:List Oper)(D:Nat):List Nat->Nat->Option Nat
 | [],E=>some E
 | i::l,E=>ob (uD ops i) fun o=>mB (!tb E i&&vX D o&&sH o.dst) (okG ops D l (Nat.lor E (wZ i)))
def Pa(anc:Tr Nat)(D1:Nat)(G:List Nat):List Oper->Nat->Bool
 | [],_=>true
 | o::r,i=>bif (bif tb D1 i then true else bif nE (fun g=>tb (fI anc i) g) G then true else !vX D1 o)then Pa anc D1 G r (i+1)else false
def La(o:Op):Bool:=
 match o with
 | .call c=>(match c.callee with
  | .builtin .len=>true
  | _=>false)
 | _=>false
def Pf(anc:Tr Nat)(D:Nat)(G:List Nat):List Oper->Nat->Bool
 | [],_=>true
 | o::r,i=>bif (bif tb D i then(bif xS o.op then true else bif sK o.op then true else bif La o.op then true else nE (fun g=>tb (fI anc g) i) G)else true)then Pf anc D G r (i+1)else false
def GS(ops:List Oper)(anc:Tr Nat)(D:Nat)(st:zF):Option Nat:=
 ob (okG ops D st.again D) fun D1=>mB (Pa anc D1 st.again ops 0&&Pf anc D st.again ops 0) (kO ops st.lights D1)
def cI(ops:List Oper)(anc:Tr Nat):List zF->Nat->Bool
 | [],D=>Pe D ops 0
 | st::r,D=>bif Nat.blt (kB ops) st.heavy then(bif Nat.blt (kB ops+kB ops) st.heavy then(match GS ops anc D st with
   | some D=>cI ops anc r D
   | none=>false)else bif zi5 (uD ops (Nat.sub st.heavy (Nat.succ (kB ops))))then
   (match ob (gV ops (Nat.sub st.heavy (Nat.succ (kB ops))) D) fun D=>kO ops st.lights D with
   | some D=>cI ops anc r D
   | none=>false)else false)else bif Pc st.heavy D ops 0 then(bif Pg (fI anc st.heavy) D st.again ops 0 then
   (match ob (gV ops st.heavy D) fun D=>kO ops st.lights D with
   | some D=>cI ops anc r D
   | none=>false)else false)else false
def Xl(ops:List Oper)(p:Plan):Bool:=
 bif Pd ops 0 then
  (match Eh ops 0 .leaf with
  | none=>false
  | some wr=>
   (fun anc=>bif Pb wr anc p.olds ops 0 then(match kO ops p.first 0 with
    | some D=>cI ops anc p.stages D
    | none=>false)else false) (zj3 ops 0 .leaf))else false
structure OkB where b:Bool
def tS(all:Array Oper)(p:Plan):Bool:=(OkB.mk (Xl all.toList p)).b
def Ii(id:Nat)(all:Array Oper):jL:=fun C k tm R cs H=>
 fK (ob (ob (C.plans.get R.fn) fun t=>t.get id) fun p=>mB (tS all p) <| ob (zQ C H all R.n tm.cut p.olds p.first tm.cut) fun tm'=>some ⟨⟨.reg all tm.cut p.olds p.stages::k,tm',R⟩,cs,H⟩) 10
def nK.asVal:nK->Option (zA × wA) | .val v H=>some (v,H) | _=>none
def kT(C:fA)(all:Array Oper)(k:List bD)(R:iJ)(cs:List rC)(l:List Oper):Tm->wA->pF:=
 List.rec (motive:=fun _=>Tm->wA->pF) (fun tm H=>xGo k tm R cs H)
  (fun o rest g tm H=>
   match iF o.guard all tm with
   | some w=>Bool.rec (motive:=fun _=>pF) (g (putA R.n tm o.dst vE) H)
     (let r:=(xG o.op).f C (.now tm) H
     match r.asVal with
     | some p=>g (putA R.n tm o.dst p.1) p.2
     | none=>Hr r C ⟨.ops all (o::rest)::k,tm,R⟩ cs H) w
   | none=>.fail 20) l
def xOps (all:Array Oper)(rest:List Oper):jL:=fun C k tm R cs H=>kT C all k R cs rest tm H
def zgt(id:Nat)(all:Array Oper)(draw:Bool):XB:=
 match draw with
 | true=>⟨Ii id all⟩
 | false=>⟨fun C k tm R cs H=>kT C all k R cs all.toList tm.cut H⟩
def Mk(all:Array Oper)(old:Tm)(olds:List (Nat × List Nat))(st:zF)(stages:List zF)(o:Oper):jL:=fun C k tm R cs H=>
 match iF o.guard all tm with
 | some w=>Hr (bif w then(xG o.op).f C (.mixed tm old (xF st.heavy olds) (vH o.op)) H else .val vE H) C ⟨.reg all old olds (st::stages)::k,tm,R⟩ cs H
 | none=>.fail 21
def Ig(all:Array Oper)(old:Tm)(olds:List (Nat × List Nat))(st:zF)(stages:List zF):jL:=fun C k tm R cs H=>
 fK (mB (Bk C H all old olds tm st.again) (ob (zQ C H all R.n old olds st.lights tm) fun tm=>some ⟨⟨.reg all old olds stages::k,tm,R⟩,cs,H⟩)) 11
def Mm(all:Array Oper)(old:Tm)(olds:List (Nat × List Nat))(st:zF)(stages:List zF)(i:Nat):jL:=fun C k tm R cs H=>
 fK (ob (uD all.toList i) fun o=>ob (iF o.guard all tm) fun w=>mB (w&&sH (vY C o.op)) (ob ((xG o.op).f C (.mixed tm old (xF i olds) (vH o.op)) H).asVal fun p=>
  ob (zQ C p.2 all R.n old olds st.lights (putA R.n tm o.dst p.1)) fun tm'=>some ⟨⟨.reg all old olds stages::k,tm',R⟩,cs,p.2⟩)) 23
inductive rL where
 | store (t:Nat) (a v:zA)
 | upd (t:Nat) (m k v:zA)
inductive RE where
 | st (b off:Nat) (l:List zA)
 | up (b:Nat) (k v:zA)
def aY(op:Op)(e:xD):Option rL:=
 match op with
 | .store t a x=>ob (ev a e) fun a=>ob (ev x e) fun v=>some (.store t a v)
 | .mapUpdate t m k x=>ob (ev m e) fun m=>ob (ev k e) fun k=>ob (ev x e) fun v=>some (.upd t m k v)
 | .insert t m k x=>ob (ev m e) fun m=>ob (ev k e) fun k=>ob (ev x e) fun v=>some (.upd t m k v)
 | _=>none
def iT (C:fA)(e:rL):Option RE:=
 match e with
 | .store t a v=>ob (C.tys.get t) fun ty=>ob a.asPtr fun p=>mB (Nat.beq (kB v.cells) ty.size) (some (.st p.1 p.2 v.cells))
 | .upd t m k v=>ob (C.tys.get t) fun ty=>ob ty.desc.asMap fun ke=>ob (C.tys.get ke.1) fun kty=>mB (nS C kty&&wQ C kty k) (ob m.asMap fun b=>some (.up b k v))
def RE.blk:RE->Nat
 | .st b _ _=>b
 | .up b _ _=>b
def GY(a b:zA):Bool:=
 match eH a b with
 | some r => !r
 | none=>false
def AS(a b:RE):Bool:=bif Nat.beq a.blk b.blk then(match a with
 | .st _ _ _=>false
 | .up _ k _=>(match b with
  | .st _ _ _=>false
  | .up _ k' _=>GY k k'))else true
def Sd:List RE->Bool
 | []=>true
 | a::l=>nE (AS a) l&&Sd l
def tZ(C:fA)(H:wA)(e:RE):Option wA:=
 match e with
 | .st b off l=>zJ C H b off l
 | .up b k v=>mB (!Nat.blt b C.base) (ob (yK H b) fun m=>some (setBlk H b (.map (iD m [(k,v)]))))
def Fp(C:fA)(H:wA)(e:RE):Bool:=
 match e with
 | .st b off l => !sH (zJ C H b off l)
 | .up b _ _ => !Nat.blt b C.base&&(match yK H b with
  | some []=>true
  | _=>false)
def Dy(C:fA):List RE->wA->Option wA
 | [],H=>some H
 | e::l,H=>ob (tZ C H e) fun H=>Dy C l H
def eY(C:fA)(es:List rL)(H:wA):Option wA:=ob (iG (iT C) es) fun rs=>mB (Sd rs&&nE (Fp C H) rs) (Dy C rs H)
def sW(all:Array Oper)(old:Tm)(olds:List (Nat × List Nat))(tm:Tm)(i:Nat):Option rL:=
 ob (uD all.toList i) fun o=>ob (iF o.guard all tm) fun w=>mB w (aY o.op (.mixed tm old (xF i olds) (vH o.op)))
def Pz(C:fA)(o:Oper):Bool:=
 match o.op with
 | .call c=>(match c.callee with
  | .builtin .len=>(match ob (uD c.argTypes.toList 0) fun t=>C.tys.get t with
   | some ty => !Nat.beq ty.desc.tag 6
   | none=>false)
  | _=>true)
 | _=>true
def bV(C:fA)(all:Array Oper):Bool:=nE (Pz C) all.toList
def Gy(all:Array Oper)(old:Tm)(olds:List (Nat × List Nat))(tm:Tm)(l:List Nat):Option (List rL):=iG (sW all old olds tm) l
def Ml(all:Array Oper)(old:Tm)(olds:List (Nat × List Nat))(st:zF)(stages:List zF):jL:=fun C k tm R cs H=>
 fK (mB (bV C all) (ob (Gy all old olds tm st.again) fun es=>ob (eY C es H) fun H'=>ob (zQ C H' all R.n old olds st.lights tm) fun tm'=>some ⟨⟨.reg all old olds stages::k,tm',R⟩,cs,H'⟩)) 24
def iQ (all:Array Oper)(old:Tm)(olds:List (Nat × List Nat))(stages:List zF):jL:=
 match stages with
 | []=>Bt
 | st::stages=>match uD all.toList st.heavy with
  | some o=>Mk all old olds st stages o
  | none=>bif Nat.blt (kB all.toList) st.heavy then(bif Nat.blt (kB all.toList+kB all.toList) st.heavy then Ml all old olds st stages else Mm all old olds st stages (Nat.sub st.heavy (Nat.succ (kB all.toList))))else Ig all old olds st stages
def iX(C:fA)(l:Nat)(f:zA):Option rC:=
 ob f.asFunc fun p=>match p.1 with
  | .func g=>match C.prims.get g with
   | none=>kL C g (iD p.2.1 (.func (.yld l) [] []::p.2.2)) false
   | some _=>none
  | .yld _=>none
def Ie(f:Operand)(params:Array Nat)(assign body:Code):jL:=fun C k tm R cs H=>
 fK (ob (ev f (.now tm)) fun v=>match R.roundOf with
  | none=>
   let r:=H.next
   let l:=r+1
   ob (iX C l v) fun h=>
    some ⟨h,⟨.inRange l::k,tm,⟨R.fn,R.n,⟨none,r,[]⟩::R.defers,R.mode,R.deferred,R.roundOf⟩⟩::cs,
     newBlk (newBlk H (.deferred (some []))) (.loop ⟨.ready,none,R.fn,R.n,tm,params.toList,assign,body,r⟩)⟩
  | some outer=>ob (bJ H outer) fun o=>
   let l:=H.next
   ob (iX C l v) fun h=>
    some ⟨h,⟨.inRange l::k,tm,R⟩::cs,newBlk H (.loop ⟨.ready,none,R.fn,R.n,tm,params.toList,assign,body,o.defers⟩)⟩) 12
def LoopState.tag:LoopState->Nat | .ready=>0 | .busy=>1 | .done=>2 | .exhausted=>3
def Ik:jL:=fun _ k tm R cs H=>
 fK (ob R.roundOf fun l=>ob (bJ H l) fun r=>mB (Nat.beq (LoopState.tag r.state) 0)
  (some ⟨⟨k,tm,R⟩,cs,setBlk H l (.loop ⟨.busy,r.pending,r.fn,r.n,r.tm,r.params,r.assign,r.body,r.defers⟩)⟩)) 13
def Ih(l:Nat):jL:=fun _ k tm R cs H=>
 fK (ob (bJ H l) fun r=>mB (!Nat.beq (LoopState.tag r.state) 1)
  (some ⟨⟨(match r.pending with | some c=>.code c::k | none=>k),tm,R⟩,cs,setBlk H l (.loop ⟨.exhausted,r.pending,r.fn,r.n,r.tm,r.params,r.assign,r.body,r.defers⟩)⟩)) 14
def zgw:Code->XB
 | .skip=>⟨Bt⟩
 | .region id ops d=>zgt id ops d
 | .seq a b=>⟨fun C k tm R cs H=>(zgw a).f C (.code b::k) tm R cs H⟩
 | .cond c x y=>⟨Ij c x y⟩
 | .block id c=>⟨zea id c⟩
 | .loop c=>⟨zgu c⟩
 | .rangeFunc f ps a b=>⟨Ie f ps a b⟩
 | .exit id=>⟨kZ id⟩
 | .scope c=>⟨xScope c⟩
 | .label _=>⟨Bt⟩
 | .goto _=>⟨zgv⟩
 | .ret=>⟨xRet⟩
 | .refuse _=>⟨zgv⟩
def xItem:bD->XB
 | .code c=>zgw c
 | .inBlock _=>⟨Bt⟩
 | .inLoop c=>⟨zgu c⟩
 | .inScope _=>⟨Bt⟩
 | .ops all rest=>⟨xOps all rest⟩
 | .reg all old olds stages=>⟨iQ all old olds stages⟩
 | .inRange _=>⟨zgv⟩
 | .endRange l=>⟨Ih l⟩
 | .beginRound=>⟨Ik⟩
def vQ(C:fA)(todo:List bD)(tm:Tm)(R:iJ)(cs:List rC)(H:wA):pF:=
 match todo with
 | []=>wR none C ⟨[],tm,R⟩ cs H
 | x::k=>(xItem x).f C k tm R cs H
def EC(fr:rC)(d:List pJ):rC:=⟨fr.todo,fr.tm,⟨fr.R.fn,fr.R.n,d,fr.R.mode,fr.R.deferred,fr.R.roundOf⟩⟩
def Iy(C:fA)(d:pJ)(ds:List pJ)(fr:rC)(cs:List rC)(H:wA):pF:=
 fK (match d.fn with
  | none=>ob (pW H d.r) fun l=>ob l fun l=>some ⟨EC fr (iD l ds),cs,setBlk H d.r (.deferred none)⟩
  | some (.func f)=>match C.prims.get f with
   | none=>ob (kL C f d.args true) fun g=>some ⟨g,EC fr ds::cs,H⟩
   | some _=>none
  | some (.yld _)=>none) 15
def Cg(l:List zA):zA:=
 match l with
 | [v]=>v
 | l=>.tup l
def Ix(C:fA)(fr:rC)(cs:List rC)(H:wA):pF:=
 match ob (C.fns.get fr.R.fn) fun fn=>nX C H fr.tm fn.results.toList with
 | none=>.fail 16
 | some l=>
  match cs with
  | []=>bif fr.R.deferred then .fail 17 else bif Nat.beq fr.R.fn C.root then .done (Cg l) H else .fail 22
  | c::rest=>fK (bif fr.R.deferred then
    (match c.R.mode with
    | .panicking (⟨_,true⟩::_)=>some ⟨Jk c .returning,rest,H⟩
    | _=>mB (!c.R.mode.running) (some ⟨c,rest,H⟩))
   else ob (kH c (Cg l)) fun c=>some ⟨c,rest,H⟩) 18
def Mv(C:fA)(fr:rC)(cs:List rC)(H:wA):pF:=
 match fr.R.defers with
 | d::ds=>Iy C d ds fr cs H
 | []=>match fr.R.mode.chain with
  | some chain=>fK (ob (C.fns.get fr.R.fn) fun _=>match cs with | c::rest=>some ⟨Oi c chain,rest,H⟩ | []=>none) 19
  | none=>Ix C fr cs H
def stepA(C:fA)(s:jQ):pF:=
 match s with
 | ⟨⟨todo,tm,R⟩,cs,H⟩=>bif R.mode.running then vQ C todo tm R cs H else Mv C ⟨todo,tm,R⟩ cs H
def Fb(C:fA)(o:pF):pF:=
 match o with
 | .next s=>stepA C s
 | .done v H=>.done v H
 | .fail n=>.fail n
def aQ (C:fA)(n:Nat):pF->pF:=
 Nat.rec (motive:=fun _=>pF->pF) (fun o=>Fb C o) (fun _ g o=>g (g o)) n
end Go.Am
namespace Go.Am
open Go
theorem rA{α β:Type}{x:Option α}{f:α->Option β}{b:β}:ob x f=some b ↔ ∃a,x=some a/\f a=some b:=by
 cases x with
 | none=>simp[ob]
 | some a=>exact⟨fun h=>⟨a,rfl,h⟩,fun⟨_,h,k⟩=>by cases h;exact k⟩
@[simp] theorem zh7 {α β:Type} {f:α->Option β}:ob none f=none:=rfl
@[simp] theorem pA {α β:Type} {a:α} {f:α->Option β}:ob (some a) f=f a:=rfl
theorem fB{α:Type}{b:Bool}{x:Option α}{a:α}:mB b x=some a ↔ b=true/\x=some a:=by
 cases b with
 | false=>simp[mB]
 | true=>simp[mB]
theorem kJ{α:Type}(a b:α)(c:Bool):(Bool.rec (motive:=fun _=>α) a b c:α)=if c=true then b else a:=by cases c<;>rfl
theorem bC{n m:Nat}:(Nat.beq n m=true) ↔ n=m:=⟨Nat.eq_of_beq_eq_true,fun h=>by simp_all⟩
theorem beqf{n m:Nat}:(Nat.beq n m=false) ↔ n≠m:=by
 rw[<- Bool.not_eq_true,bC]
theorem rF{n m:Nat}:(Nat.ble n m=true) ↔ n<=m:=Iff.of_eq Nat.ble_eq
theorem lC{n m:Nat}:(Nat.blt n m=true) ↔ n<m:=Iff.of_eq Nat.ble_eq
def sD{α:Type}(c:Bool)(a b:α):(bif c then a else b)=if c=true then a else b:=by cases c<;>rfl
namespace Tr
variable {α:Type}
theorem get_leaf(n:Nat):(leaf:Tr α).get n=none:=rfl
theorem get_node(l:Tr α)(v:Option α)(r:Tr α)(n:Nat) :
  (node l v r).get n=if n=0 then v else if n%2=1 then l.get (n / 2)else r.get (n / 2-1):=by
 show Bool.rec (motive:=fun _=>Option α) (Bool.rec (motive:=fun _=>Option α) (r.get (n / 2-1)) (l.get (n / 2)) (Nat.beq (n%2) 1)) v (Nat.beq n 0)=_
 grind [kJ,bC]
theorem zh9(f n:Nat)(v:α):mk (f+1) n v=if n=0 then node leaf (some v) leaf else if n%2=1 then node (mk f (n / 2) v) none leaf else node leaf none (mk f (n / 2-1) v):=by
 show Bool.rec (motive:=fun _=>Tr α) (Bool.rec (motive:=fun _=>Tr α) (node leaf none (mk f (n / 2-1) v)) (node (mk f (n / 2) v) none leaf) (Nat.beq (n%2) 1)) (node leaf (some v) leaf) (Nat.beq n 0)=_
 grind [kJ,bC]
def zbz(n:Nat)(v:α):(leaf:Tr α).set n v=mk (n+1) n v:=rfl
theorem zby(l:Tr α)(x:Option α)(r:Tr α)(n:Nat)(v:α) :
  (node l x r).set n v=if n=0 then node l (some v) r else if n%2=1 then node (l.set (n / 2) v) x r else node l x (r.set (n / 2-1) v):=by
 show Bool.rec (motive:=fun _=>Tr α) (Bool.rec (motive:=fun _=>Tr α) (node l x (r.set (n / 2-1) v)) (node (l.set (n / 2) v) x r) (Nat.beq (n%2) 1)) (node l (some v) r) (Nat.beq n 0)=_
 grind [kJ,bC]
theorem zdu(l:Tr α)(x:Option α)(r:Tr α)(n:Nat) :
  (node l x r).del n=if n=0 then node l none r else if n%2=1 then node (l.del (n / 2)) x r else node l x (r.del (n / 2-1)):=by
 show Bool.rec (motive:=fun _=>Tr α) (Bool.rec (motive:=fun _=>Tr α) (node l x (r.del (n / 2-1))) (node (l.del (n / 2)) x r) (Nat.beq (n%2) 1)) (node l none r) (Nat.beq n 0)=_
 grind [kJ,bC]
theorem get_mk(f:Nat):∀(n m:Nat) (v:α),n<f->(mk f n v).get m=if m=n then some v else none:=by
 induction f with
 | zero=>omega
 | succ f ih=>
  grind [zh9,get_node,get_leaf]
theorem get_set(t:Tr α):∀(n m:Nat) (v:α),(t.set n v).get m=if m=n then some v else t.get m:=by
 induction t with
 | leaf=>intro n m v;rw[zbz,get_mk _ _ _ _ (by omega),get_leaf]
 | node l x r ihl ihr=>
  grind [zby,get_node]
theorem get_del(t:Tr α):∀(n m:Nat),(t.del n).get m=if m=n then none else t.get m:=by
 induction t with
 | leaf=>intro n m;show(leaf:Tr α).get m=_;rw[get_leaf];split<;>rfl
 | node l x r ihl ihr=>
  grind [zdu,get_node]
def many_succ(t:Tr α)(n i:Nat):t.many (n+1) i=ob (t.get i) fun v=>ob (t.many n (i+1)) fun l=>some (v::l):=rfl
theorem many_some(t:Tr α)(n:Nat):∀(i:Nat) (l:List α),t.many n i=some l->l.length=n/\∀j,j<n->t.get (i+j)=l[j]?:=by
 induction n with
 | zero=>intro i l h;cases h;simp_all
 | succ n ih=>
  intro i l h;rw[many_succ,rA]at h;obtain⟨v,hv,h⟩:=h;rw[rA]at h;grind
theorem SE(v:α)(l:List α)(t:Tr α)(i:Nat):setMany (v::l) t i=setMany l (t.set i v) (i+1):=rfl
theorem get_setMany(l:List α):∀(t:Tr α) (i m:Nat),(setMany l t i).get m=if i<=m/\m<i+l.length then l[m-i]? else t.get m:=by
 induction l with
 | nil=>intro t i m;rw[yaa (by simp)];rfl
 | cons v l ih=>
  grind [SE,get_set]
theorem get_ofList(l:List α)(m:Nat):(ofList l).get m=l[m]?:=by
 grind [ofList,get_setMany,get_leaf]
end Tr
theorem nG{α:Type}(l:List α):∀n,uD l n=l[n]?:=by
 induction l with
 | nil=>intro n;rfl
 | cons a l ih=>
  intro n
  cases n with
  | zero=>rfl
  | succ n=>show uD l n=_;grind
theorem zU{α:Type}(l:List α):∀n,xQ l n=l.drop n:=by
 induction l with
 | nil=>intro n;simp;rfl
 | cons a l ih=>
  intro n
  cases n with
  | zero=>rfl
  | succ n=>show xQ l n=_;grind
theorem sS{α:Type}(l:List α):∀n,wY l n=l.take n:=by
 induction l with
 | nil=>intro n;simp;rfl
 | cons a l ih=>
  intro n
  cases n with
  | zero=>rfl
  | succ n=>show a::wY l n=_;grind
theorem jD{α:Type}(l:List α):kB l=l.length:=by
 induction l with
 | nil=>rfl
 | cons a l ih=>grind [kB]
theorem zH{α:Type}(l m:List α):iD l m=l++m:=by
 induction l with
 | nil=>rfl
 | cons a l ih=>grind [iD]
theorem iI{α:Type}(p:α->Bool)(l:List α):nE p l=l.all p:=by
 induction l with
 | nil=>rfl
 | cons a l ih=>show(bif p a then nE p l else false)=_;rw[ih];cases h:p a<;>simp[h]
theorem nN{α β:Type}(f:α->Option β)(a:α)(l:List α):iG f (a::l)=ob (f a) fun b=>ob (iG f l) fun r=>some (b::r):=rfl
theorem Cw{α β:Type}(f:α->Option β):iG f []=some []:=rfl
theorem Ae(i:Nat)(l:List Nat):sI i l=true ↔ i∈l:=by
 induction l with
 | nil=>exact⟨fun h=>(by cases h),fun h=>(by cases h)⟩
 | cons j l ih=>
  grind [sI,bC]
theorem rH(a:List Nat):∀b,zD a b=true ↔ a=b:=by
 induction a with
 | nil=>intro b;cases b with
  | nil=>exact⟨fun _=>rfl,fun _=>rfl⟩
  | cons y b=>exact⟨fun h=>(by cases h),fun h=>(by cases h)⟩
 | cons x a ih=>
  intro b
  cases b with
  | nil=>exact⟨fun h=>(by cases h),fun h=>(by cases h)⟩
  | cons y b=>
   simp_all [zD]
theorem dK{a b:IntKind}:lN a b=true ↔ a=b:=by cases a<;>cases b<;>simp[lN,kIdx]
theorem dS(a b:Bool):bEq a b=(a == b):=by cases a<;>cases b<;>rfl
theorem jU(a b:Int):zB a b=true ↔ a=b:=by
 cases a<;>cases b<;>simp only[zB,bC] <;> (try simp)<;>omega
theorem Qo(a b:Int):qC a b=true ↔ a<=b:=by
 cases a<;>cases b<;>simp only[qC,rF] <;> (try simp)<;>omega
theorem An(a b:Int):lB a b=true ↔ a<b:=by
 cases a<;>cases b<;>simp only[lB,lC] <;> (try simp)<;>omega
theorem lY(a b:Int):zB a b=(a == b):=by grind [jU]
theorem zgk(a b:Int):qC a b=decide (a<=b):=by grind [Qo]
theorem zgj(a b:Int):lB a b=decide (a<b):=by grind [An]
theorem wN(k:IntKind)(n:Int):iA k n=k.wrap n:=by
 cases n with
 | ofNat n=>
  show(bif Nat.blt n (gG k)then Int.ofNat n else _)=_;rw[sD];by_cases h:Nat.blt n (gG k)=true
  ·rw[yab h];have h':=lC.1 h;cases k<;>simp only[gG]at h'<;>simp only[IntKind.wrap,IntKind.bits,IntKind.signed]<;>simp<;>omega
  grind
 | negSucc n=>
  show(bif Nat.blt n (kLo k)then Int.negSucc n else _)=_;rw[sD];by_cases h:Nat.blt n (kLo k)=true
  ·rw[yab h];have h':=lC.1 h;cases k<;>simp only[kLo]at h'<;>simp only[IntKind.wrap,IntKind.bits,IntKind.signed]<;>simp<;>omega
  grind
theorem Ki{n:Int}{m:Nat}:yL n=some m ↔ n=(m:Int):=by
 cases n with
 | ofNat a=>grind [yL]
 | negSucc a=>grind [yL]
end Go.Am
namespace Go.Am
open Go
theorem Gk{a b:zA}{r:Bool}(h:dO a b=some r) :
  (∃k x y,a=.int k x/\b=.int k y/\r=(x == y))\/(∃x y,a=.str x/\b=.str y/\r=zD x y)\/(∃x y,a=.bool x/\b=.bool y/\r=(x == y)):=by
 cases a<;>simp only[dO,zA.asIntK,zA.asStr,Gw,zA.asBool]at h<;>try (cases h;done)
 case bool x=>
  rw[pA,rA]at h;grind [dS]
 all_goals grind [rA,fB,dK,lY]
def JN{a b:zA}(h:dO a b=some true):a=b:=by
 grind [Gk,rH]
def JO{a b:zA}{r:Bool}(h:dO a b=some r):dO b a=some r:=by
 rcases Gk h with⟨k,x,y,rfl,rfl,hr⟩ | ⟨x,y,rfl,rfl,hr⟩ | ⟨x,y,rfl,rfl,hr⟩
 ·have e:zB y x=(x == y):=by grind [lY]
  show mB (lN k k) (some (zB y x))=_
  grind [fB,dK]
 ·grind [dO,zA.asIntK,zA.asStr,pA,rH]
 ·simp only[dO,zA.asIntK,zA.asStr,Gw,zA.asBool,dS,pA,hr];rw[show(y == x)=(x == y) by cases x<;>cases y<;>rfl]
def JH:∀ {x y:List zA},oS x y=some true->x=y
 | [],[],_=>rfl
 | a::x,b::y,h=>by
  simp only[oS,rA]at h;obtain⟨r,hr,s,hs,h⟩:=h;cases r<;>cases s<;>simp at h;rw[JN hr,JH hs]
 | [],_::_,h=>by cases h
 | _::_,[],h=>by cases h
def JI:∀ {x y:List zA} {r:Bool},oS x y=some r->oS y x=some r
 | [],[],_,h=>h
 | a::x,b::y,r,h=>by
  simp only[oS,rA]at h ⊢;obtain⟨r1,hr,s,hs,h⟩:=h;exact⟨r1,JO hr,s,JI hs,h⟩
 | [],_::_,_,h=>by cases h
 | _::_,[],_,h=>by cases h
def Kx{a b:zA}{r:Bool}(h:eH a b=some r):(∃x y,a=.agg x/\b=.agg y/\oS x y=some r)\/(a.asAgg=none/\dO a b=some r):=by
 unfold eH at h;split at h
 ·rename_i x hx;rw[rA]at h;obtain⟨y,hy,h⟩:=h;cases a<;>simp[zA.asAgg]at hx;cases b<;>simp[zA.asAgg]at hy
  simp_all
 simp_all
def WJ{a b:zA}{r:Bool}(h:dO a b=some r):eH a b=some r:=by
 rcases Gk h with⟨k,x,y,rfl,rfl,hr⟩ | ⟨x,y,rfl,rfl,hr⟩ | ⟨x,y,rfl,rfl,hr⟩<;>exact h
theorem JM{a b:zA}(h:eH a b=some true):a=b:=by
 rcases Kx h with⟨x,y,rfl,rfl,h⟩ | ⟨_,h⟩
 ·rw[JH h]
 ·exact JN h
theorem Kw{a b:zA}{r:Bool}(h:eH a b=some r):eH b a=some r:=by
 rcases Kx h with⟨x,y,rfl,rfl,h⟩ | ⟨_,h⟩
 ·exact JI h
 ·exact WJ (JO h)
def DK (l:List (zA × zA)):Prop:=l.Pairwise fun p q=>eH p.1 q.1=some false
def Hx(l l':List (zA × zA)):Prop:=l'=l\/(l.Perm l'/\DK l)
def DK.perm{l l':List (zA × zA)}(h:DK l)(p:l.Perm l'):DK l':=(p.pairwise_iff (fun hab=>Kw hab)).1 h
theorem Zl{k:zA}:∀ {l:List (zA × zA)},zK k l=some none ↔ ∀e∈l,eH k e.1=some false
 | []=>by simp[zK]
 | e::l=>by
  rw[zK,rA];constructor
  ·rintro⟨r,hr,h⟩
   cases r with
   | true=>cases h
   | false=>
    rw[cond_false]at h;intro x hx;rcases ybs.1 hx with rfl | hx
    ·exact hr
    ·exact Zl.1 h x hx
  ·intro h;exact⟨false,h e (.head _),Zl.2 fun x hx=>h x (.tail _ hx)⟩
def LN{k v:zA}:∀ {l:List (zA × zA)},zK k l=some (some v)->(k,v)∈l/\eH k k=some true
 | [],h=>by cases h
 | e::l,h=>by
  rw[zK,rA]at h;obtain⟨r,hr,h⟩:=h
  cases r with
  | true=>
   grind [JM]
  | false=>
   rw[cond_false]at h;obtain⟨h1,h2⟩:=LN h
   simp_all
def DK.split{k v:zA}{l m:List (zA × zA)}(h:DK (l++(k,v)::m)):(∀e∈l,eH k e.1=some false)/\∀e∈m,eH k e.1=some false:=by
 unfold DK at h;rw[List.pairwise_append]at h;obtain⟨_,h2,h3⟩:=h;rw[List.pairwise_cons]at h2;exact⟨fun e he=>Kw (h3 e he (k,v) (.head _)),fun e he=>h2.1 e he⟩
def XM{k:zA}{l m:List (zA × zA)}(h:∀e∈l,eH k e.1=some false):zK k (l++m)=zK k m:=by
 induction l with
 | nil=>rfl
 | cons e l ih=>
  grind [zK,pA]
def XN{k:zA}{l l':List (zA × zA)}{r:Option zA}(h:Hx l l')(hf:zK k l=some r):zK k l'=some r:=by
 rcases h with rfl | ⟨p,d⟩
 ·exact hf
 cases r with
 | none=>
  grind [Zl]
 | some v=>
  obtain⟨h1,h2⟩:=LN hf;obtain⟨a,b,rfl⟩:=List.append_of_mem (p.mem_iff.1 h1);rw[XM (d.perm p).split.1,zK,h2,pA,cond_true]
def Vt{k v:zA}:∀ {l:List (zA × zA)},(∀e∈l,eH k e.1=some false)->wM k v l=some (l++[(k,v)])
 | [],_=>rfl
 | e::l,h=>by
  rw[wM,h e (.head _),pA,cond_false,Vt fun x hx=>h x (.tail _ hx)];rfl
def DZ{k v u:zA}{m:List (zA × zA)}(hk:eH k k=some true):∀ {l:List (zA × zA)},(∀e∈l,eH k e.1=some false)->wM k v (l++(k,u)::m)=some (l++(k,v)::m)
 | [],_=>by simp_all [wM]
 | e::l,h=>by
  rw[List.cons_append,wM,h e (.head _),pA,cond_false,DZ hk fun x hx=>h x (.tail _ hx)];rfl
def DY{k v:zA}:∀ {l r:List (zA × zA)},wM k v l=some r->((∀e∈l,eH k e.1=some false)/\r=l++[(k,v)])\/(eH k k=some true/\∃a u b,l=a++(k,u)::b/\r=a++(k,v)::b)
 | [],r,h=>by cases h;simp_all
 | e::l,r,h=>by
  rw[wM,rA]at h;obtain⟨q,hq,h⟩:=h
  cases q with
  | true=>
   rw[cond_true]at h;cases h;have:=JM hq;refine .inr ⟨by simp_all,[],e.2,l,?_,rfl⟩;rw[yah,this]
  | false=>
   rw[cond_false,rA]at h;obtain⟨r',hr,h⟩:=h;cases h;rcases DY hr with⟨h1,rfl⟩ | ⟨h0,a,u,b,rfl,rfl⟩
   all_goals grind
def SC{k v:zA}{l l' r:List (zA × zA)}(h:Hx l l')(hs:wM k v l=some r):∃r',wM k v l'=some r'/\Hx r r':=by
 rcases h with rfl | ⟨p,d⟩
 ·exact⟨r,hs,.inl rfl⟩
 rcases DY hs with⟨h1,rfl⟩ | ⟨h0,a,u,b,rfl,rfl⟩
 ·refine⟨_,Vt fun e he=>h1 e (p.mem_iff.2 he),.inr ⟨p.append_right _,?_⟩⟩;unfold DK;rw[List.pairwise_append];exact⟨d,by simp,fun x hx y hy=>by grind [Kw]⟩
 ·obtain⟨a',b',rfl⟩:=List.append_of_mem (p.mem_iff.1 (ycf a (.head b)));refine⟨_,DZ h0 (d.perm p).split.1,.inr ⟨?_,?_⟩⟩
  ·have p1:(a++b).Perm (a'++b'):=by
    have q1:(a++(k,u)::b).Perm ((k,u)::(a++b)):=List.perm_middle;have q2:(a'++(k,u)::b').Perm ((k,u)::(a'++b')):=List.perm_middle;exact(q1.symm.trans (p.trans q2)).cons_inv
   exact List.perm_middle.trans ((p1.cons _).trans List.perm_middle.symm)
  ·unfold DK at d ⊢;rw[List.pairwise_append,List.pairwise_cons]at d ⊢;obtain⟨d1,⟨d2,d3⟩,d4⟩:=d;refine⟨d1,⟨d2,d3⟩,fun x hx y hy=>?_⟩;rcases ybs.1 hy with rfl | hy
   ·exact d4 x hx (k,u) (.head _)
   grind
end Go.Am
namespace Go.Am
open Go
structure BI where
 b:Nat
 tight:Bool
 es:Nat
 room:Nat
 ro:Bool
structure Mu where
 m:Nat->Option BI
 pd:Nat->Option (sA × Nat × Nat)
instance:CoeFun Mu fun _=>Nat->Option BI:=⟨Mu.m⟩
def Mu.lw(μ ν:Mu):Prop:=∀a i,μ a=some i->ν a=some i
structure Mu.le (μ ν:Mu):Prop where
 f:∀a i,μ a=some i->ν a=some i
 pd:ν.pd=μ.pd
instance {μ ν:Mu}:CoeFun (μ.le ν) fun _=>∀a i,μ a=some i->ν a=some i:=⟨Mu.le.f⟩
instance {μ ν:Mu}:Coe (μ.le ν) (μ.lw ν):=⟨Mu.le.f⟩
def Mu.le_refl(μ:Mu):μ.le μ:=⟨fun _ _ h=>h,rfl⟩
def Mu.le_trans{a b c:Mu}(h:a.le b)(k:b.le c):a.le c:=⟨fun x i hx=>k.f x i (h.f x i hx),k.pd.trans h.pd⟩
def Hy(μ:Mu):AFn->Fn->Prop
 | .func f,fn=>fn=.func f
 | .yld l,fn=>∃i,μ l=some i/\fn=.yield i.b
mutual
def uA (μ:Mu):zA->Value->Prop
 | .bool b,v=>v=.bool b
 | .int k n,v=>v=.int k n
 | .str l,v=>∃s,v=.string s/\kF s=l
 | .nilptr,v=>v=.pointer none
 | .ptr b off,v=>∃i,μ b=some i/\v=.pointer (some ⟨i.b,off,none⟩)
 | .nilslice,v=>v=.slice none 0 0
 | .slice b off len cap,v=>(∃i cap',μ b=some i/\v=.slice (some ⟨i.b,off,none⟩) len cap'/\cap<=cap'/\(i.tight=true->cap'=cap)/\(i.tight=false->off+cap'*i.es<=i.room))\/(b=0/\len=0/\cap=0/\∃a c,v=.slice (some a) 0 c/\(off=0/\c=0\/off=1))
 | .nilmap,v=>v=.map none
 | .map b,v=>∃i,μ b=some i/\v=.map (some i.b)
 | .func f a c,v=>∃fn a' c',v=.func fn a' c'/\Hy μ f fn/\iB μ a a'.toList/\iB μ c c'.toList
 | .nilfunc,v=>v=.nilFunc
 | .iface t x,v=>∃x',v=.iface t x'/\uA μ x x'
 | .niliface,v=>v=.nilIface
 | .agg l,v=>∃cs,v=.agg cs/\iB μ l cs.toList
 | .tup l,v=>∃cs,v=.tuple cs/\iB μ l cs.toList
def iB (μ:Mu):List zA->List Value->Prop
 | [],m=>m=[]
 | a::l,m=>∃v r,m=v::r/\uA μ a v/\iB μ l r
end
theorem Hy.mono{μ ν:Mu}(h:μ.lw ν){f:AFn}{g:Fn}(k:Hy μ f g):Hy ν f g:=by
 cases f with
 | func f=>exact k
 | yld l=>obtain⟨i,h1,h2⟩:=k;exact⟨i,h _ _ h1,h2⟩
mutual
theorem uA.mono{μ ν:Mu}(h:μ.lw ν):∀(a:zA) (v:Value),uA μ a v->uA ν a v
 | .bool _,_,k=>k
 | .int _ _,_,k=>k
 | .str _,_,k=>k
 | .nilptr,_,k=>k
 | .ptr _ _,_,⟨i,h1,h2⟩=>⟨i,h _ _ h1,h2⟩
 | .nilslice,_,k=>k
 | .slice _ _ _ _,_,.inl ⟨i,c,h1,h2⟩=>.inl ⟨i,c,h _ _ h1,h2⟩
 | .slice _ _ _ _,_,.inr k=>.inr k
 | .nilmap,_,k=>k
 | .map _,_,⟨i,h1,h2⟩=>⟨i,h _ _ h1,h2⟩
 | .func _ a c,_,⟨fn,a',c',h1,h2,h3,h4⟩=>⟨fn,a',c',h1,h2.mono h,iB.mono h a _ h3,iB.mono h c _ h4⟩
 | .nilfunc,_,k=>k
 | .iface _ x,_,⟨x',h1,h2⟩=>⟨x',h1,uA.mono h x _ h2⟩
 | .niliface,_,k=>k
 | .agg l,_,⟨cs,h1,h2⟩=>⟨cs,h1,iB.mono h l _ h2⟩
 | .tup l,_,⟨cs,h1,h2⟩=>⟨cs,h1,iB.mono h l _ h2⟩
theorem iB.mono{μ ν:Mu}(h:μ.lw ν):∀(l:List zA) (m:List Value),iB μ l m->iB ν l m
 | [],_,k=>k
 | a::l,_,⟨v,r,h1,h2,h3⟩=>⟨v,r,h1,uA.mono h a v h2,iB.mono h l r h3⟩
end
theorem iB.length{μ:Mu}{l:List zA}:∀ {m:List Value},iB μ l m->m.length=l.length:=by
 induction l with
 | nil=>grind [iB]
 | cons a l ih=>grind [iB]
theorem iB.get{μ:Mu}{l:List zA}:∀ {m:List Value} {i:Nat} {a:zA},iB μ l m->l[i]?=some a->∃v,m[i]?=some v/\uA μ a v:=by
 induction l with
 | nil=>simp_all
 | cons b l ih=>
  grind [iB]
theorem iB.mk{μ:Mu}{l:List zA}:∀ {m:List Value},m.length=l.length->(∀(i:Nat) a v,l[i]?=some a->m[i]?=some v->uA μ a v)->iB μ l m:=by
 induction l with
 | nil=>grind [iB]
 | cons a l ih=>
  intro m h k
  cases m with
  | nil=>simp at h
  | cons v r=>
   rw[iB];exact⟨v,r,rfl,k 0 a v (by simp) (by simp),ih (by grind) fun i a v h1 h2=>k (i+1) a v (by simp_all) (by simp_all)⟩
theorem iB.append{μ:Mu}{l l':List zA}:∀ {m m':List Value},iB μ l m->iB μ l' m'->iB μ (l++l') (m++m'):=by
 induction l with
 | nil=>grind [iB]
 | cons a l ih=>grind [iB]
theorem iB.drop{μ:Mu}{l:List zA}{m:List Value}(h:iB μ l m)(n:Nat):iB μ (l.drop n) (m.drop n):=by
 refine iB.mk (by simp[h.length]) fun i a v h1 h2=>?_;rw[yde]at h1 h2;obtain⟨u,hu,hr⟩:=h.get h1
 simp_all
theorem iB.take{μ:Mu}{l:List zA}{m:List Value}(h:iB μ l m)(n:Nat):iB μ (l.take n) (m.take n):=by
 refine iB.mk (by simp[h.length]) fun i a v h1 h2=>?_;rw[ydf]at h1 h2;split at h1
 ·rename_i hi;rw[yab hi]at h2;obtain⟨u,hu,hr⟩:=h.get h1
  simp_all
 grind
theorem iB.nil{μ:Mu}:iB μ [] []:=by rw[iB]
theorem iB.cons{μ:Mu}{a:zA}{l:List zA}{v:Value}{m:List Value}(h:uA μ a v)(k:iB μ l m):iB μ (a::l) (v::m):=by grind [iB]
def iB.single{μ:Mu}{a:zA}{v:Value}(h:uA μ a v):iB μ [a] [v]:=.cons h .nil
theorem Bh{v:zA}{b:Bool}:v.asBool=some b ↔ v=.bool b:=by cases v<;>simp[zA.asBool]
def AQ{v:zA}{n:Int}:v.asInt=some n ↔ ∃k,v=.int k n:=by cases v<;>simp[zA.asInt]
theorem cU{v:zA}{p:IntKind × Int}:v.asIntK=some p ↔ v=.int p.1 p.2:=by cases v<;>simp[zA.asIntK,Prod.ext_iff]
theorem dU{v:zA}{l:List Nat}:v.asStr=some l ↔ v=.str l:=by cases v<;>simp[zA.asStr]
def Dw{v:zA}{p:Nat × Nat}:v.asPtr=some p ↔ v=.ptr p.1 p.2:=by cases v<;>simp[zA.asPtr,Prod.ext_iff]
def Bg{v:zA}{p:Nat × Nat × Nat × Nat}:v.asSlice=some p ↔ v=.slice p.1 p.2.1 p.2.2.1 p.2.2.2:=by cases v<;>simp[zA.asSlice,Prod.ext_iff]
def Sa{v:zA}{b:Nat}:v.asMap=some b ↔ v=.map b:=by cases v<;>simp[zA.asMap]
theorem Ho{v:zA}{l:List zA}:v.asAgg=some l ↔ v=.agg l:=by cases v<;>simp[zA.asAgg]
def ZI{v:zA}{l:List zA}:v.asTup=some l ↔ v=.tup l:=by cases v<;>simp[zA.asTup]
theorem NW{v:zA}{p:AFn × List zA × List zA}:v.asFunc=some p ↔ v=.func p.1 p.2.1 p.2.2:=by cases v<;>simp[zA.asFunc,Prod.ext_iff]
def NV{v:zA}{p:Nat × zA}:v.asIface=some p ↔ v=.iface p.1 p.2:=by cases v<;>simp[zA.asIface,Prod.ext_iff]
theorem Rz{v:zA}{n:Nat}:v.asNat=some n ↔ ∃k,v=.int k (n:Int):=by
 simp_all [zA.asNat,rA,AQ,Ki]
theorem qV{v:zA}:(v.tag=3 ↔ v=.nilptr)/\(v.tag=5 ↔ v=.nilslice)/\(v.tag=7 ↔ v=.nilmap)/\(v.tag=10 ↔ v=.nilfunc)/\(v.tag=12 ↔ v=.niliface):=by
 cases v<;>simp[zA.tag]
theorem uA.notAgg{μ:Mu}{a:zA}{v:Value}(h:uA μ a v)(ha:a.asAgg=none):v.cells = #[v]:=by
 cases a<;>rw[uA]at h<;>first
  | (subst h;rfl)
  | (rcases h with⟨_,_,_,rfl,_⟩ | ⟨_,_,_,_,_,rfl,_⟩<;>rfl)
  | (obtain⟨_,rfl,_⟩:=h;rfl)
  | (obtain⟨_,_,rfl⟩:=h;rfl)
  | (obtain⟨_,_,_,rfl,_⟩:=h;rfl)
  | grind [zA.asAgg]
theorem uA.one{μ:Mu}{a:zA}{v:Value}(h:uA μ a v)(ha:a.one=true):v.oneCell'=true:=by
 cases a<;>rw[uA]at h<;>first
  | (subst h;rfl)
  | (rcases h with⟨_,_,_,rfl,_⟩ | ⟨_,_,_,_,_,rfl,_⟩<;>rfl)
  | (obtain⟨_,rfl,_⟩:=h;rfl)
  | (obtain⟨_,_,rfl⟩:=h;rfl)
  | (obtain⟨_,_,_,rfl,_⟩:=h;rfl)
  | (revert ha;decide)
  | (have:=lC.1 ha;grind [zA.tag])
def Ro{μ:Mu}{a:zA}{v:Value}(h:uA μ a v):iB μ a.cells v.cells.toList:=by
 unfold zA.cells
 cases ha:a.asAgg with
 | none=>rw[h.notAgg ha];exact iB.single h
 | some l=>rw[Ho.1 ha,uA]at h;obtain⟨cs,rfl,h⟩:=h;exact h
def gN(P:Program)(t:Nat):lD:=
 match P.underlying t with
 | some .bool=>.bool
 | some (.int k)=>.int k
 | some .string=>.string
 | some (.pointer e)=>.ptr e
 | some (.slice e)=>.slice e
 | some (.array n e)=>.arr n e
 | some (.map k e)=>.map k e
 | some (.struct fs)=>.struct (fs.toList.map fun f=>(f.offset,f.type,P.cellsOf f.type))
 | some (.func ..)=>.func
 | some (.interface _)=>.iface
 | _=>.other
def Qk:Value->Bool
 | .agg _=>true
 | _=>false
def zbq(P:Program)(t:Nat):Bool:=(P.fieldsOf t).toList.all fun f=>(P.info? f.type).isSome
def tyOf (P:Program)(t:Nat):Option eC:=
 match P.info? t with
 | some i=>match i.zero with
  | some z=>ob (iG Ct z.cells.toList) fun l=>mB (bEq (Qk z) (gN P t).isAgg&&(P.underlying t).isSome&&zbq P t)
    (some ⟨gN P t, i.size, i.bytes, l, !P.stoodInHeld t && !P.eqGuardType P.depth t && (P.fieldsOf t).toList.all (fun f => f.name != "_")⟩)
  | none=>none
 | none=>none
def qF(P:Program)(C:fA):Prop:=∀t ty,C.tys.get t=some ty->tyOf P t=some ty
theorem Rt{a b:ByteArray}(h:kF a=kF b):a=b:=by
 have h1:a.data.toList=b.data.toList:=by
  grind [kF,List.map_inj_right,UInt8.toNat_inj]
 have h2:a.data=b.data:=yax.1 h1;cases a;simp_all
theorem GV{μ:Mu}{v:Value}{a:zA}(h:Ct v=some a):uA μ a v/\a.one=true:=by
 unfold Ct at h;split at h<;>cases h<;>refine⟨?_,rfl⟩<;>rw[uA]
 simp_all
theorem GU{μ:Mu}{m:List Value}:∀ {l:List zA},iG Ct m=some l->iB μ l m:=by
 induction m with
 | nil=>grind [Cw,iB.nil]
 | cons v m ih=>
  intro l h;rw[nN,rA]at h;obtain⟨a,ha,h⟩:=h;rw[rA]at h;obtain⟨r,hr,h⟩:=h;cases h;exact .cons (GV ha).1 (ih hr)
theorem VC{μ:Mu}{v:Value}{a:zA}(h:Xo v=some a):uA μ a v:=by
 unfold Xo at h;split at h
 ·rename_i cs hc;rw[rA]at h;obtain⟨l,hl,h⟩:=h;cases h;cases v<;>simp[zgo]at hc
  grind [uA,GU]
 grind [GV]
structure bK (P:Program) (t:Nat) (ty:eC):Prop where
 info:∃i,P.info? t=some i/\i.size=ty.size/\i.bytes=ty.bytes/\∃z,i.zero=some z/\iG Ct z.cells.toList=some ty.zero/\Qk z=ty.desc.isAgg
 desc:gN P t=ty.desc
 und:∃d,P.underlying t=some d
 fields:∀f∈(P.fieldsOf t).toList,∃i,P.info? f.type=some i
 eqOk : ty.eqOk = true -> P.stoodInHeld t = false /\ P.eqGuardType P.depth t = false /\ ∀ f ∈ (P.fieldsOf t).toList, f.name ≠ "_"
theorem QK{P:Program}{t:Nat}{ty:eC}(h:tyOf P t=some ty):bK P t ty:=by
 unfold tyOf at h;split at h
 ·rename_i i hi;split at h
  ·rename_i z hz;rw[rA]at h;obtain⟨l,hl,h⟩:=h;rw[fB]at h;obtain⟨hb,h⟩:=h;cases h;rw[ybb,ybb]at hb;refine⟨⟨i,hi,rfl,rfl,z,hz,hl,?_⟩,rfl,Option.isSome_iff_exists.1 hb.1.2,fun f hf=>Option.isSome_iff_exists.1 (ycb.1 hb.2 f hf),fun h=>?_⟩
   all_goals grind [dS]
  ·cases h
 ·cases h
def qF.facts{P:Program}{C:fA}(h:qF P C){t:Nat}{ty:eC}(k:C.tys.get t=some ty):bK P t ty:=QK (h t ty k)
section
variable {P:Program}{w:World}{t:Nat}{ty:eC}
def Cn{i:TypeInfo}(h:P.info? t=some i):(typeInfo t).run P w=.ok i w:=by
 simp[typeInfo,h]
def yF{d:TypeDesc}(h:P.underlying t=some d):(underlying t).run P w=.ok d w:=by
 simp[underlying,h]
def bK.size(h:bK P t ty):(sizeOf t).run P w=.ok ty.size w:=by
 obtain⟨i,h1,h2,_⟩:=h.info;simp[sizeOf,Cn h1,h2]
theorem bK.zero(h:bK P t ty){μ:Mu}:∃z,(∀w,(zeroValue t).run P w=.ok z w)/\uA μ (xV ty) z/\iB μ ty.zero z.cells.toList:=by
 obtain⟨i,h1,_,_,z,h2,h3,h4⟩:=h.info;have hl:iB μ ty.zero z.cells.toList:=GU h3;refine⟨z,fun w=>by simp[zeroValue,Cn h1,h2],?_,hl⟩;unfold xV
 cases hd:ty.desc.isAgg with
 | true=>
  rw[hd]at h4;cases z<;>simp[Qk]at h4;show uA μ (.agg ty.zero) _;rw[uA];exact⟨_,rfl,hl⟩
 | false=>
  rw[hd]at h4;have hc:z.cells = #[z]:=by cases z<;>first | rfl | simp[Qk]at h4
  grind [iB]
def bK.isAgg(h:bK P t ty):(Go.isAgg t).run P w=.ok ty.desc.isAgg w:=by
 obtain⟨d,hd⟩:=h.und;have h0:=h.desc;unfold gN at h0;rw[hd]at h0;unfold Go.isAgg;rw[yad,yF hd,yac,<- h0];cases d<;>rfl
theorem Dl(h:bK P t ty){fs:List (Nat × Nat × Nat)}(k:ty.desc.asStruct=some fs):∃g,P.underlying t=some (.struct g)/\fs=g.toList.map fun f=>(f.offset,f.type,P.cellsOf f.type):=by
 obtain⟨d,hd⟩:=h.und;have h0:=h.desc
 grind [gN,lD.asStruct]
def nR(h:bK P t ty){e:Nat}(k:ty.desc.asSlice=some e):P.underlying t=some (.slice e):=by
 obtain⟨d,hd⟩:=h.und;have h0:=h.desc;unfold gN at h0;rw[hd]at h0;rw[<- h0]at k;cases d<;>simp[lD.asSlice]at k;rw[hd,k]
def Rk(h:bK P t ty){p:Nat × Nat}(k:ty.desc.asArr=some p):P.underlying t=some (.array p.1 p.2):=by
 obtain⟨d,hd⟩:=h.und;have h0:=h.desc;unfold gN at h0;rw[hd]at h0;rw[<- h0]at k;cases d<;>simp[lD.asArr]at k;rw[hd,<- k]
def MI(h:bK P t ty){p:Nat × Nat}(k:ty.desc.asMap=some p):P.underlying t=some (.map p.1 p.2):=by
 obtain⟨d,hd⟩:=h.und;have h0:=h.desc;unfold gN at h0;rw[hd]at h0;rw[<- h0]at k;cases d<;>simp[lD.asMap]at k;rw[hd,<- k]
def Zz(h:bK P t ty){k:IntKind}(e:ty.desc.asInt=some k):P.underlying t=some (.int k):=by
 obtain⟨d,hd⟩:=h.und;have h0:=h.desc;unfold gN at h0;rw[hd]at h0;rw[<- h0]at e;cases d<;>simp[lD.asInt]at e;rw[hd,e]
theorem Rj(h:bK P t ty)(e:ty.desc.isString=true):P.underlying t=some .string:=by
 obtain⟨d,hd⟩:=h.und;have h0:=h.desc
 grind [gN,lD.isString,lD.tag,Nat.beq]
theorem MH(h:bK P t ty)(e:Nat.blt ty.desc.tag 9=true):∃d,P.underlying t=some d/\∀ms,d≠.interface ms:=by
 obtain⟨d,hd⟩:=h.und;refine⟨d,hd,fun ms hm=>?_⟩;subst hm;have h0:=h.desc
 grind [gN,lC,lD.tag]
end
structure nZ (μ:Mu) (d:pJ) (e:Deferred):Prop where
 rel:match d.fn with
  | none=>∃i,μ d.r=some i/\e={ target:=.collected i.b,args := #[] }
  | some f=>∃fn cap as,e={ target:=.fn fn cap,args:=as }/\Hy μ f fn/\iB μ d.args (as++cap).toList
def lE(μ:Mu)(n:Nat)(tm:Tm)(tmps:Array Value):Prop:=tmps.size=n/\∀i v,tm.get i=some v->uA μ v (tmps.getD i undef)
structure Mg (μ:Mu) (l:yO) (r:Loop):Prop where
 state:r.state=l.state
 pending:r.pending=l.pending
 fn:r.fn=l.fn
 tm:lE μ l.n l.tm r.tmps
 params:r.params.toList=l.params
 assign:r.assign=l.assign
 body:r.body=l.body
 defers:∃i,μ l.defers=some i/\r.defers=i.b
inductive aC {α β:Type} (R:α->β->Prop):List α->List β->Prop
 | nil:aC R [] []
 | cons {a b l m}:R a b->aC R l m->aC R (a::l) (b::m)
def oI (μ:Mu)(i:BI):sA->Obj->Prop
 | .cells c n loose,o=>∃cs elem fr,o=.cells cs elem fr/\n<=cs.size/\(i.ro=true\/fr.2<=fr.1\/cs.size<=fr.1)/\(∀(j:Nat) v,c.get j=some v->j<n/\∃v',cs[j]?=some v'/\uA μ v v') ∧
   (match loose with | none=>i.tight=true | some lo=>i.tight=false/\i.es=lo.es/\i.room=cs.size/\∀t,lo=.ty t->elem=t)
 | .map l,o=>∃es clock l',o=.map es clock/\Hx l l'/\aC (fun p e=>uA μ p.1 e.key/\uA μ p.2 e.val) l' es.toList
 | .loop l,o=>∃r,o=.loop r/\Mg μ l r
 | .deferred l,o=>∃l',o=.deferred l'/\(match l,l' with | none,none=>True | some a,some b=>aC (nZ μ) a b | _,_=>False)
 | .siter s pos,o=>∃s',o=.stringIter s' pos/\kF s'=s
structure jB (B N:Nat) (μ:Mu) (H:wA) (w:World):Prop where
 base:256<=B
 glob:∀g,g<256->μ g=some ⟨g,true,0,0,true⟩
 low:∀a x i,a<B->H.t.get a=some x->μ a=some i->i.b<N/\x.asLoop=none/\x.asDeferred=none
 next:B<=H.next
 size:N<=w.heap.size
 fresh:∀a,H.next<=a->μ a=none/\H.t.get a=none
 blk:∀a x i,H.t.get a=some x->μ a=some i->∃o,w.heap[i.b]?=some o/\oI μ i x o
 own:∀a i,B<=a->μ a=some i->N<=i.b/\i.b<w.heap.size/\i.ro=false
 inj:∀a b x y i j,H.t.get a=some x->H.t.get b=some y->μ a=some i->μ b=some j->B<=a->B<=b->i.b=j.b->a=b
 pnd:∀a x t,μ.pd a=some (x,t)->μ a=none/\H.t.get a=some x/\B<=a
end Go.Am
namespace Go.Am
open Go
def mF (μ:Mu)(e:xD)(ρ:Operand->Value):Prop:=∀x v,ev x e=some v->uA μ v (ρ x)
def mF.many{μ:Mu}{e:xD}{ρ:Operand->Value}(h:mF μ e ρ):∀ {l:List Operand} {r:List zA},uQ l e=some r->iB μ r (l.map ρ):=by
 intro l;induction l with
 | nil=>intro r k;unfold uQ at k;rw[Cw]at k;cases k;exact .nil
 | cons x l ih=>
  intro r k;unfold uQ at k;rw[nN,rA]at k;obtain⟨a,ha,k⟩:=k;rw[rA]at k;obtain⟨b,hb,k⟩:=k;cases k;exact .cons (h _ _ ha) (ih hb)
def mF.parts{μ:Mu}{e:xD}{ρ:Operand->Value}(h:mF μ e ρ):∀ {l:List (Nat × Operand)} {r:List (Nat × zA)},evp l e=some r →
  aC (fun p q=>p.1=q.1/\uA μ p.2 q.2) r (l.map fun x=>(x.1,ρ x.2)):=by
 intro l;induction l with
 | nil=>intro r k;unfold evp at k;rw[Cw]at k;cases k;exact .nil
 | cons x l ih=>
  intro r k;unfold evp at k;rw[nN,rA]at k;obtain⟨a,ha,k⟩:=k;rw[rA]at ha;obtain⟨a',ha,ha'⟩:=ha;cases ha';rw[rA]at k;obtain⟨b,hb,k⟩:=k;cases k;exact .cons ⟨rfl,h _ _ ha⟩ (ih hb)
def AW(μ:Mu):Option zA->Option Value->Prop
 | none,none=>True
 | some a,some v=>uA μ a v
 | _,_=>False
def mF.opt{μ:Mu}{e:xD}{ρ:Operand->Value}(h:mF μ e ρ){x:Option Operand}{r:Option zA}(k:evo x e=some r):AW μ r (x.map ρ):=by
 cases x with
 | none=>cases k;trivial
 | some x=>unfold evo at k;simp only[]at k;rw[rA]at k;obtain⟨a,ha,k⟩:=k;cases k;exact h _ _ ha
theorem gW(b off n:Nat):Addr.add ⟨b,off,none⟩ n=⟨b,off+n,none⟩:=by
 grind [Addr.add]
section
variable {P:Program}{C:fA}{B N:Nat}{μ:Mu}{H:wA}{w:World}
theorem Bf{b:Nat}{p:Tr zA × Nat × Option Lo}(h:oD H b=some p):H.t.get b=some (.cells p.1 p.2.1 p.2.2):=by
 unfold oD at h;rw[rA]at h;obtain⟨x,hx,h⟩:=h;cases x<;>simp[sA.asCells]at h
 grind
theorem jB.cellAt(hH:jB B N μ H w){b:Nat}{p:Tr zA × Nat × Option Lo}(h:oD H b=some p){i:BI}(hi:μ b=some i){j:Nat}{v:zA}(hv:p.1.get j=some v) :
  ∃v',w.cell? ⟨i.b,j,none⟩=some v'/\uA μ v v':=by
 obtain⟨o,h2,h3⟩:=hH.blk _ _ _ (Bf h) hi;obtain⟨cs,elem,fr,rfl,_,_,h4,_⟩:=h3
 grind [World.cell?]
theorem jB.manyAt(hH:jB B N μ H w){b:Nat}{p:Tr zA × Nat × Option Lo}(h:oD H b=some p){i:BI}(hi:μ b=some i){n off:Nat}{l:List zA}(hl:p.1.many n off=some l) :
  ∃vs:List Value,vs.length=n/\iB μ l vs/\(loadCells ⟨i.b,off,none⟩ n).run P w=.ok vs.toArray w/\∀j,j<n->w.cell? ⟨i.b,off+j,none⟩=vs[j]?:=by
 obtain⟨h1,h2⟩:=Tr.many_some _ _ _ _ hl;have key:∀j,j<n->∃v',w.cell? ⟨i.b,off+j,none⟩=some v'/\∃a,l[j]?=some a/\uA μ a v':=by
  intro j hj;have h3:=h2 j hj
  cases hlj:l[j]? with
  | none=>grind
  | some a=>
   rw[hlj]at h3;obtain⟨v',h4,h5⟩:=hH.cellAt h hi h3
   simp_all
 let f:Nat->Value:=fun j=>(w.cell? ⟨i.b,off+j,none⟩).getD undef
 have hf:∀j,j<n->w.cell? ⟨i.b,off+j,none⟩=some (f j):=by
  grind
 refine⟨(List.range n).map f,by simp,?_,?_,?_⟩
 all_goals grind [iB.mk,run_loadCells,gW]
theorem HJ(hH:jB B N μ H w){t:Nat}{ty:eC}(hty:bK P t ty){b:Nat}{p:Tr zA × Nat × Option Lo}(h:oD H b=some p){i:BI}(hi:μ b=some i){off:Nat}{v:zA}
  (hv:xR ty p.1 off=some v):∃v',(loadVar t ⟨i.b,off,none⟩).run P w=.ok v' w/\uA μ v v':=by
 unfold xR at hv;unfold loadVar;rw[yad,hty.isAgg,yac]
 cases ha:ty.desc.isAgg with
 | true=>
  rw[ha,cond_true,rA]at hv;obtain⟨l,hl,hv⟩:=hv;cases hv;obtain⟨vs,_,h2,h3,_⟩:=hH.manyAt (P:=P) h hi hl;refine⟨.agg vs.toArray,?_,by grind [uA]⟩;rw[yab rfl,yad,hty.size,yac,yad,h3];rfl
 | false=>
  rw[ha,cond_false]at hv;obtain⟨v',h1,h2⟩:=hH.cellAt h hi hv;refine⟨v',?_,h2⟩;rw[yaa (by simp),run_load,h1]
theorem Jz(hT:qF P C){t:Nat}{l:List zA}{cs:Array Value}(hl:iB μ l cs.toList){off:Nat}{v:zA}(hv:lO C t l off=some v) :
  ∃v',(part t cs off).run P w=.ok v' w/\uA μ v v':=by
 unfold lO at hv;rw[rA]at hv;obtain⟨ty,hty,hv⟩:=hv;have hF:=hT.facts hty;unfold part;rw[yad,hF.isAgg,yac]
 cases ha:ty.desc.isAgg with
 | true=>
  rw[ha,cond_true]at hv;cases hv;refine⟨.agg (cs.extract off (off+ty.size)),?_,?_⟩
  ·rw[yab rfl,yad,hF.size];rfl
  ·rw[uA];refine⟨_,rfl,?_⟩;rw[sS,zU,Array.toList_extract,List.extract_eq_take_drop,Nat.add_sub_cancel_left];exact(hl.drop _).take _
 | false=>
  rw[ha,cond_false,nG]at hv;obtain⟨v',h1,h2⟩:=hl.get hv
  simp_all
def cH (P:Program)(μ:Mu)(w:World)(ρ:Operand->Value)(o:Oper)(v:zA):Prop:=∃v',(execOp ρ o).run P w=.ok (.value v') w/\uA μ v v'
variable {e:xD}{ρ:Operand->Value}{dst:Option Tmp}{type:TypeId}{pos:String}{after:Array Edge}{guard:Option (Nat × Bool)}{v:zA}
def IH(hE:mF μ e ρ){x:Operand}(h:aV x C e H=some v):cH P μ w ρ ⟨dst,.move x,type,pos,after,guard⟩ v:=⟨ρ x,rfl,hE x v h⟩
def JC(hE:mF μ e ρ){x:Operand}(h:aV x C e H=some v):cH P μ w ρ ⟨dst,.assign x,type,pos,after,guard⟩ v:=⟨ρ x,rfl,hE x v h⟩
def IF(hE:mF μ e ρ){c a b:Operand}(h:Kv c a b C e H=some v):cH P μ w ρ ⟨dst,.pick c a b,type,pos,after,guard⟩ v:=by
 unfold Kv at h;rw[rA]at h;obtain⟨cv,hc,h⟩:=h;rw[rA]at h;obtain⟨cb,hb,h⟩:=h;have h1:=hE _ _ hc;rw[Bh.1 hb,uA]at h1;unfold cH execOp;simp only[h1,asBool]
 cases cb with
 | true=>exact⟨ρ a,rfl,hE _ _ h⟩
 | false=>exact⟨ρ b,rfl,hE _ _ h⟩
theorem IM(hT:qF P C)(hH:jB B N μ H w)(hE:mF μ e ρ){t:Nat}{a:Operand}(h:vU t a C e H=some v):cH P μ w ρ ⟨dst,.load t a,type,pos,after,guard⟩ v:=by
 unfold vU at h;simp only[rA,Dw]at h;obtain⟨av,ha,p,rfl,ty,hty,c,hc,h⟩:=h;have h1:=hE _ _ ha;rw[uA]at h1;obtain⟨i,hi,hv⟩:=h1;obtain⟨v',h2,h3⟩:=HJ (P:=P) hH (hT.facts hty) hc hi h;refine⟨v',?_,h3⟩
 grind [execOp,Instr.loadAt,Instr.sureAddr,Sem.run_bind,Sem.run_pure,Result.andThen_ok]
theorem IG(hE:mF μ e ρ){x:Operand}(h:oY x C e H=some v):cH P μ w ρ ⟨dst,.nilCheck x,type,pos,after,guard⟩ v:=by
 unfold oY at h;rw[rA]at h;obtain⟨a,ha,h⟩:=h;rw[fB]at h;obtain⟨hb,h⟩:=h;cases h;have h1:=hE _ _ ha;refine⟨ρ x,?_,h1⟩;cases v<;>simp[zA.tag,Nat.beq]at hb
 ·rw[uA]at h1;obtain⟨i,_,hv⟩:=h1
  simp_all [execOp]
 ·rename_i fn a b;rw[uA]at h1;obtain⟨fn',a',c',hv,hf,_⟩:=h1
  cases fn with
  | func f=>cases hf;simp_all [execOp]
  | yld l=>obtain⟨i,_,rfl⟩:=hf;simp_all [execOp]
def IT(hE:mF μ e ρ){fn:Fn}{a b:Array Operand}(h:(Ai fn a b).f C e H=some v):cH P μ w ρ ⟨dst,.makeFunc fn a b,type,pos,after,guard⟩ v:=by
 unfold Ai at h;split at h
 ·rename_i f;simp only[Qc,rA]at h;obtain⟨as,ha,bs,hb,h⟩:=h;cases h;refine⟨.func (.func f) (a.map ρ) (b.map ρ),rfl,?_⟩;rw[uA];exact⟨_,_,_,rfl,rfl,by simpa using hE.many ha,by simpa using hE.many hb⟩
 ·cases h
def IS(hT:qF P C)(hE:mF μ e ρ){t:Nat}{x:Operand}(h:Ah t x C e H=some v):cH P μ w ρ ⟨dst,.makeInterface t x,type,pos,after,guard⟩ v:=by
 unfold Ah at h;simp only[rA,fB]at h;obtain⟨ty,hty,hb,a,ha,h⟩:=h;cases h;obtain⟨d,hd,hn⟩:=MH (hT.facts hty) hb;refine⟨.iface t (ρ x),?_,by rw[uA];exact⟨_,rfl,hE _ _ ha⟩⟩;simp only[execOp,Instr.makeInterface,yad,yF hd,yac];cases d<;>first | rfl | exact absurd rfl (hn _)
theorem IX(hE:mF μ e ρ){t:Operand}{i:Nat}(h:qU t i C e H=some v):cH P μ w ρ ⟨dst,.extract t i,type,pos,after,guard⟩ v:=by
 unfold qU at h;simp only[rA,ZI,nG]at h;obtain⟨a,ha,l,rfl,h⟩:=h;have h1:=hE _ _ ha;rw[uA]at h1;obtain⟨cs,hv,hl⟩:=h1;obtain⟨v',h2,h3⟩:=hl.get h;refine⟨v',?_,h3⟩
 simp_all [execOp,Instr.extract]
theorem IU(hT:qF P C)(hE:mF μ e ρ){t:Nat}{x:Operand}{f:Nat}(h:Aj t x f C e H=some v):cH P μ w ρ ⟨dst,.field t x f,type,pos,after,guard⟩ v:=by
 unfold Aj at h;simp only[rA,Ho,nG]at h;obtain⟨ty,hty,fs,hfs,fd,hfd,a,ha,l,rfl,h⟩:=h;obtain⟨g,hg,rfl⟩:=Dl (hT.facts hty) hfs;have h1:=hE _ _ ha;rw[uA]at h1;obtain⟨cs,hv,hl⟩:=h1;rw[ybu]at hfd
 cases hgf:g.toList[f]? with
 | none=>simp_all
 | some fld=>
  rw[hgf]at hfd;simp at hfd;subst hfd;obtain⟨v',h2,h3⟩:=Jz (w:=w) hT hl h;refine⟨v',?_,h3⟩
  simp_all [execOp,Instr.field,yF,asAgg]
theorem IW(hT:qF P C)(hE:mF μ e ρ){s:Nat}{x:Operand}{f:Nat}(h:rU s x f C e H=some v):cH P μ w ρ ⟨dst,.fieldAddr s x f,type,pos,after,guard⟩ v:=by
 unfold rU at h;simp only[rA,Dw,nG,fB]at h;obtain⟨ty,hty,fs,hfs,fd,hfd,hz,a,ha,p,rfl,h⟩:=h;cases h;obtain⟨g,hg,rfl⟩:=Dl (hT.facts hty) hfs;have h1:=hE _ _ ha;rw[uA]at h1;obtain⟨i,hi,hv⟩:=h1;rw[ybu]at hfd
 cases hgf:g.toList[f]? with
 | none=>simp_all
 | some fld=>
  rw[hgf]at hfd;simp at hfd;subst hfd;refine⟨.pointer (some ⟨i.b,p.2+fld.offset,none⟩),?_,by grind [uA]⟩;have h4:g[f]?=some fld:=by simp_all
  have h5:P.cellsOf fld.type≠0:=by
   grind [beqf]
  have h6:(sizeOf fld.type).run P w=.ok (P.cellsOf fld.type) w:=by
   unfold Program.cellsOf at h5 ⊢
   cases hinf:P.info? fld.type with
   | none=>simp_all
   | some inf=>simp[sizeOf,Cn hinf]
  simp_all [execOp,Instr.fieldAt,yF,Instr.sureAddr,fieldPlace,gW]
end
end Go.Am
namespace Go.Am
open Go
section
variable {P:Program}{C:fA}{B N:Nat}{μ:Mu}{H:wA}{w:World}
variable {e:xD}{ρ:Operand->Value}{dst:Option Tmp}{type:TypeId}{pos:String}{after:Array Edge}{guard:Option (Nat × Bool)}{v:zA}
theorem Bw{k:IntKind}{n:Nat}(h:n<gG k):k.wrap (n:Int)=n:=by
 rw[<- wN];show(bif Nat.blt n (gG k)then Int.ofNat n else _)=_
 grind [lC]
def Ym(k:IntKind):∃m,gG k=2^m/\m<=k.bits:=by
 cases k
 ·exact⟨7,rfl,by decide⟩
 ·exact⟨15,rfl,by decide⟩
 ·exact⟨31,rfl,by decide⟩
 ·exact⟨63,rfl,by decide⟩
 ·exact⟨8,rfl,by decide⟩
 ·exact⟨16,rfl,by decide⟩
 ·exact⟨32,rfl,by decide⟩
 ·exact⟨64,rfl,by decide⟩
def yZ{k:IntKind}{n:Nat}(h:n<gG k):(BitVec.ofInt k.bits (n:Int)).toNat=n:=by
 obtain⟨m,hm,hle⟩:=Ym k;rw[BitVec.toNat_ofInt];have:n<2^k.bits:=Nat.lt_of_lt_of_le (hm ▸ h) (yao (by omega) hle);rw[<- Int.natCast_emod,Int.toNat_natCast,Nat.mod_eq_of_lt this]
theorem Qp{f:Nat->Nat->Nat}{k:IntKind}{a b:Int}{v:zA}(h:gI f k a b=some v):∃x y:Nat,a=x/\b=y/\x<gG k/\y<gG k/\v=.int k (f x y:Nat):=by
 grind [gI,rA,Ki,fB,lC]
theorem za1{op:BinOp}{k:IntKind}{a b:Int}(h:(AO op).f k a b=some v):op≠.shl/\op≠.shr/\∀t,∃v',(binOp op t (.int k a) (.int k b)).run P w=.ok v' w/\uA μ v v':=by
 cases op<;>simp only[AO]at h
 case add=>cases h;simp_all [binOp,Op.intArith,uA,wN]
 case sub=>cases h;simp_all [binOp,Op.intArith,uA,wN]
 case mul=>cases h;simp_all [binOp,Op.intArith,uA,wN]
 case quo=>
  unfold wW at h;simp only[sD,jU]at h;split at h
  ·cases h
  ·rename_i hb;cases h
   simp_all [uA,wN,binOp,Op.intDiv]
 case rem=>
  unfold xW at h;simp only[sD,jU]at h;split at h
  ·cases h
  ·rename_i hb;cases h
   simp_all [uA,binOp,Op.intDiv]
 case and=>
  unfold iAnd at h;split at h
  ·obtain⟨x,y,rfl,rfl,hx,hy,rfl⟩:=Qp h;refine⟨by simp,by simp,fun t=>⟨.int k ((x &&& y:Nat):Int),?_,by rw[uA];rfl⟩⟩;have h1:x &&& y<gG k:=yam Nat.and_le_left hx;simp only[binOp,Op.intBits,BitVec.toNat_and,yZ hx,yZ hy,Bw h1];simp
  ·simp only[rA,Ki,fB,lC]at h;obtain⟨y,rfl,hy,h⟩:=h;cases h;have e:(BitVec.ofInt k.bits a).toNat=Int.toNat (Int.emod a (.ofNat (kW k))):=by
    rw[BitVec.toNat_ofInt];cases k<;>rfl
   generalize Int.toNat (Int.emod a (.ofNat (kW k)))=x at e ⊢;refine⟨by simp,by simp,fun t=>⟨.int k ((x &&& y:Nat):Int),?_,by rw[uA];rfl⟩⟩;have h1:x &&& y<gG k:=yam Nat.and_le_right hy;simp only[binOp,Op.intBits,BitVec.toNat_and,e,yZ hy,Bw h1];simp
 case or=>
  obtain⟨x,y,rfl,rfl,hx,hy,rfl⟩:=Qp h;obtain⟨m,hm,_⟩:=Ym k;refine⟨by simp,by simp,fun t=>⟨.int k ((x ||| y:Nat):Int),?_,by rw[uA];rfl⟩⟩;have h1:x ||| y<gG k:=by simp_all [Nat.or_lt_two_pow]
  simp only[binOp,Op.intBits,BitVec.toNat_or,yZ hx,yZ hy,Bw h1];simp
 case xor=>
  obtain⟨x,y,rfl,rfl,hx,hy,rfl⟩:=Qp h;obtain⟨m,hm,_⟩:=Ym k;refine⟨by simp,by simp,fun t=>⟨.int k ((x ^^^ y:Nat):Int),?_,by rw[uA];rfl⟩⟩;have h1:x ^^^ y<gG k:=by simp_all [Nat.xor_lt_two_pow]
  simp only[binOp,Op.intBits,BitVec.toNat_xor,yZ hx,yZ hy,Bw h1];simp
 case eql=>cases h;simp_all [binOp,Op.intCmp,uA,lY]
 case neq=>cases h;exact⟨by simp,by simp,fun t=>⟨.bool (a != b),by simp[binOp,Op.intCmp],by rw[uA,lY];rfl⟩⟩
 case lss=>cases h;simp_all [binOp,Op.intCmp,uA,zgj]
 case leq=>cases h;simp_all [binOp,Op.intCmp,uA,zgk]
 case gtr=>cases h;simp_all [binOp,Op.intCmp,uA,zgj]
 case geq=>cases h;simp_all [binOp,Op.intCmp,uA,zgk]
 all_goals cases h
theorem Hi(s:ByteArray):(kF s).length=s.size:=by simp[kF]
theorem ZA(a b:ByteArray):kF (a++b)=kF a++kF b:=by simp[kF]
theorem YZ(s:ByteArray)(i:Nat):(kF s)[i]?=(s[i]?).map UInt8.toNat:=by
 unfold kF;rw[ybu];congr 1;by_cases h:i<s.size
 all_goals simp_all [ByteArray.getElem_eq_getElem_data]
theorem NM(s:ByteArray)(l h:Nat):kF (s.extract l h)=((kF s).take h).drop l:=by
 unfold kF;rw[ByteArray.data_extract,Array.toList_extract,List.extract_eq_take_drop,<- List.map_take,<- List.map_drop,List.drop_take]
theorem NN{a b:ByteArray}:(a.toList == b.toList)=(zD (kF a) (kF b)):=by
 grind [Lib.toList_data,rH,kF,Rt]
theorem VZ(a:List UInt8):∀b:List UInt8,Op.bytesLess a b=Yb (a.map UInt8.toNat) (b.map UInt8.toNat):=by
 induction a with
 | nil=>intro b;cases b<;>rfl
 | cons x a ih=>
  intro b
  cases b with
  | nil=>rfl
  | cons y b=>
   show _=(bif Nat.blt x.toNat y.toNat then true else bif Nat.beq x.toNat y.toNat then Yb (a.map UInt8.toNat) (b.map UInt8.toNat)else false)
   grind [Op.bytesLess,lC,UInt8.lt_iff_toNat_lt,UInt8.toNat_inj,bC]
theorem za0{op:BinOp}{a b:ByteArray}(h:(AL op).f (kF a) (kF b)=some v):op≠.shl/\op≠.shr/\∀t,∃v',(binOp op t (.string a) (.string b)).run P w=.ok v' w/\uA μ v v':=by
 cases op<;>simp only[AL]at h
 case add=>
  simp only[xC,fB,lC,jD,zH,Hi]at h;obtain⟨h1,h⟩:=h;cases h;refine⟨by simp,by simp,fun t=>⟨.string (a++b),?_,by grind [uA,ZA]⟩⟩;have h2:¬ (((a.size+b.size:Nat):Int) > IntKind.i64.max):=by
   have:IntKind.i64.max=9223372036854775807:=by decide
   omega
  simp_all [binOp,Op.stringOp]
 case eql=>cases h;exact⟨by simp,by simp,fun t=>⟨.bool (a.toList == b.toList),rfl,by rw[uA,NN]⟩⟩
 case neq=>cases h;exact⟨by simp,by simp,fun t=>⟨.bool !(a.toList == b.toList),rfl,by rw[uA,NN]⟩⟩
 case lss=>cases h;exact⟨by simp,by simp,fun t=>⟨.bool (Op.bytesLess a.toList b.toList),rfl,by rw[uA,Lib.toList_data,Lib.toList_data,VZ];rfl⟩⟩
 all_goals cases h
theorem Lp{op:BinOp}{t:TypeId}{x y:Operand}{a b:Value}(h1:¬ (a=.nilIface/\b=.nilIface)\/(Lb x||Lb y)=true)(h2:∀l m,¬ (a=.agg l/\b=.agg m)):(eqGuard op t x y a b).run P w=.ok () w:=by
 unfold eqGuard;cases op
 case eql | neq=>
  rw[yaa (by simp)];split
  ·rcases h1 with h1 | h1
   ·simp_all
   ·cases x<;>cases y<;>simp[Lb]at h1 ⊢
  all_goals simp_all
 all_goals rfl
theorem XU{op:BinOp}{t:TypeId}{x y:Operand}{l m:Array Value}(h:P.eqGuardType P.depth t=false):(eqGuard op t x y (.agg l) (.agg m)).run P w=.ok () w:=by
 simp_all [eqGuard]
theorem Fi{op:BinOp}{t yt:TypeId}{x y:Operand}{v':Value}(h1:(eqGuard op t x y (ρ x) (ρ y)).run P w=.ok () w)(h2:(binOp op t (ρ x) (ρ y)).run P w=.ok v' w) :
  (execOp ρ ⟨dst,.binOp op t x y yt,type,pos,after,guard⟩).run P w=.ok (.value v') w:=by
 simp_all [execOp]
theorem DW{k:IntKind}{b:Int}{n:Nat}(h:Ck k b=some n):¬ b<0/\n=min b.toNat k.bits:=by
 grind [Ck,rA,Ki]
theorem NQ{op:BinOp}{t yt:TypeId}{x y:Operand}{a b:zA}(hx:uA μ a (ρ x))(hy:uA μ b (ρ y))
  (h:(op=.shl/\Lw kU a b=some v)\/(op=.shr/\Lw De a b=some v)):cH P μ w ρ ⟨dst,.binOp op t x y yt,type,pos,after,guard⟩ v:=by
 rcases h with⟨rfl,h⟩ | ⟨rfl,h⟩
 all_goals
  unfold Lw at h;simp only[rA,cU,AQ]at h;obtain⟨p,rfl,n,⟨k',rfl⟩,h⟩:=h;rw[uA]at hx hy
 ·unfold kU at h;rw[rA]at h;obtain⟨m,hm,h⟩:=h;cases h;obtain⟨h1,rfl⟩:=DW hm;refine⟨.int p.1 (p.1.wrap (p.2*2^(min n.toNat p.1.bits))),Fi (Lp (.inl (by grind)) (by grind)) ?_,by rw[uA,wN];simp⟩;rw[hx,hy];simp[binOp,Op.shift,h1]
 ·unfold De at h;rw[rA]at h;obtain⟨m,hm,h⟩:=h;cases h;obtain⟨h1,rfl⟩:=DW hm;refine⟨.int p.1 (p.2.fdiv (2^(min n.toNat p.1.bits))),Fi (Lp (.inl (by grind)) (by grind)) ?_,by rw[uA];simp⟩;rw[hx,hy];simp[binOp,Op.shift,h1]
theorem Ln{n m:Nat}{a b:zA}{r:Bool}(h:Az n m a b=some r):(a.tag=n/\b.tag=n/\r=true)\/(a.tag=n/\b.tag=m/\r=false)\/(a.tag=m/\b.tag=n/\r=false):=by
 grind [Az,bC,fB]
theorem zaj{t:Nat}{ty:eC}(hF:bK P t ty){a b:zA}{va vb:Value}(ha:uA μ a va)(hb:uA μ b vb){r:Bool}{d:Nat}(h:Lr ty.desc a b=some r) :
  (Op.equalIn (d+1) t va vb).run P w=.ok r w:=by
 obtain⟨D,hD⟩:=hF.und;have h0:=hF.desc;unfold gN at h0;rw[hD]at h0;unfold Op.equalIn;rw[yad,yF hD,yac];rw[<- h0]at h;cases D<;>simp only[Lr]at h<;>try (cases h;done)
 case bool=>
  simp only[Gw,rA,Bh]at h;obtain⟨x,rfl,y,rfl,h⟩:=h
  simp_all [uA,dS]
 case int k=>
  simp only[zjm,rA,cU,fB,dK]at h;obtain⟨x,rfl,y,rfl,hk,h⟩:=h
  simp_all [uA,lY]
 case string=>
  simp only[Zr,rA,dU]at h;obtain⟨x,rfl,y,rfl,h⟩:=h;cases h;rw[uA]at ha hb;obtain⟨s,rfl,rfl⟩:=ha;obtain⟨u,rfl,rfl⟩:=hb;have:(s == u)=zD (kF s) (kF u):=by
   rw[Bool.eq_iff_iff,rH];have h1:(s == u)=(s.data == u.data):=rfl
   grind [kF,Rt]
  simp_all
 case pointer el=>
  rcases Ln h with⟨h1,h2,rfl⟩ | ⟨h1,h2,rfl⟩ | ⟨h1,h2,rfl⟩<;>cases a<;>simp[zA.tag]at h1<;>cases b<;>simp[zA.tag]at h2<;>rw[uA]at ha<;>rw[uA]at hb
  ·simp_all
  ·obtain⟨i,_,hb⟩:=hb;simp_all
  ·obtain⟨i,_,ha⟩:=ha;simp_all
 case slice el=>
  rcases Ln h with⟨h1,h2,rfl⟩ | ⟨h1,h2,rfl⟩ | ⟨h1,h2,rfl⟩<;>cases a<;>simp[zA.tag]at h1<;>cases b<;>simp[zA.tag]at h2<;>rw[uA]at ha<;>rw[uA]at hb
  ·simp_all
  ·rcases hb with⟨i,_,_,hb,_⟩ | ⟨_,_,_,_,_,hb,_⟩ <;> (simp_all)
  ·rcases ha with⟨i,_,_,ha,_⟩ | ⟨_,_,_,_,_,ha,_⟩ <;> (simp_all)
 case map k el=>
  rcases Ln h with⟨h1,h2,rfl⟩ | ⟨h1,h2,rfl⟩ | ⟨h1,h2,rfl⟩<;>cases a<;>simp[zA.tag]at h1<;>cases b<;>simp[zA.tag]at h2<;>rw[uA]at ha<;>rw[uA]at hb
  ·simp_all
  ·obtain⟨i,_,hb⟩:=hb;simp_all
  ·obtain⟨i,_,ha⟩:=ha;simp_all
 case func ps rs vd=>
  rcases Ln h with⟨h1,h2,rfl⟩ | ⟨h1,h2,rfl⟩ | ⟨h1,h2,rfl⟩<;>cases a<;>simp[zA.tag]at h1<;>cases b<;>simp[zA.tag]at h2<;>rw[uA]at ha<;>rw[uA]at hb
  ·simp_all
  ·obtain⟨i,_,_,hb,_⟩:=hb;simp_all
  ·obtain⟨i,_,_,ha,_⟩:=ha;simp_all
 case interface ms=>
  rcases Ln h with⟨h1,h2,rfl⟩ | ⟨h1,h2,rfl⟩ | ⟨h1,h2,rfl⟩<;>cases a<;>simp[zA.tag]at h1<;>cases b<;>simp[zA.tag]at h2<;>rw[uA]at ha<;>rw[uA]at hb
  ·simp_all
  ·obtain⟨i,hb,_⟩:=hb;simp_all
  ·obtain⟨i,ha,_⟩:=ha;simp_all
theorem LQ{t:Nat}{g:Array Field}(h:P.underlying t=some (.struct g)):P.fieldsOf t=g:=by unfold Program.fieldsOf;rw[h]
theorem zd8(hT:qF P C){D:Nat}{eq:Nat->zA->zA->Option Bool}(heq:∀t a b va vb r,uA μ a va->uA μ b vb->eq t a b=some r->(Op.equalIn D t va vb).run P w=.ok r w)
  {xs ys : List zA} {vx vy : Array Value} (hx : iB μ xs vx.toList) (hy : iB μ ys vy.toList) : ∀ (g : List Field) (r : Bool), (∀ f ∈ g, f.name ≠ "_") -> Ht C eq xs ys (g.map fun f => (f.offset, f.type, P.cellsOf f.type)) = some r →
   (Op.eqFields D vx vy g).run P w=.ok r w:=by
 intro g;induction g with
 | nil=>intro r _ h;cases h;rfl
 | cons f g ih=>
  intro r hn h;rw[ycm,Ht]at h;simp only[rA]at h;obtain⟨a,ha,b,hb,q,hq,h⟩:=h;obtain⟨va,h1,h2⟩:=Jz (P:=P) (w:=w) hT hx ha;obtain⟨vb,h3,h4⟩:=Jz (P:=P) (w:=w) hT hy hb;have h5:=heq _ _ _ _ _ _ h2 h4 hq;rw[Op.eqFields,yab (hn f (by simp))];simp only[yad,h1,yac,h3,h5]
  cases q with
  | true=>grind
  | false=>simp_all
theorem zgq(hT:qF P C):∀(d D t:Nat) (a b:zA) (va vb:Value) (r:Bool),d<=D->uA μ a va->uA μ b vb->aeq C d t a b=some r->(Op.equalIn D t va vb).run P w=.ok r w:=by
 intro d;induction d with
 | zero=>intro D t a b va vb r _ _ _ h;cases h
 | succ d ih=>
  intro D t a b va vb r hD ha hb h
  cases D with
  | zero=>omega
  | succ D=>
   rw[aeq,rA]at h;obtain⟨ty,hty,h⟩:=h;have hF:=hT.facts hty;split at h
   ·rename_i fs hfs;simp only[fB,rA,Ho]at h;obtain⟨hok,xs,rfl,ys,rfl,h⟩:=h;obtain⟨g,hg,rfl⟩:=Dl hF hfs;obtain⟨h1,_,h3⟩:=hF.eqOk hok
    grind [uA,LQ,run_equalIn_struct,zd8]
   grind [zaj]
theorem zj6(hT:qF P C){d t:Nat}{a b:zA}{l m:Array Value}{r:Bool}(ha:uA μ a (.agg l))(hb:uA μ b (.agg m))(h:aeq C d t a b=some r):P.eqGuardType P.depth t=false:=by
 cases d with
 | zero=>cases h
 | succ d=>
  rw[aeq,rA]at h;obtain⟨ty,hty,h⟩:=h;split at h
  ·rw[fB]at h;exact((hT.facts hty).eqOk h.1).2.1
  ·exfalso;have hag:∀(a:zA) (l:Array Value),uA μ a (.agg l)->a.tag=13:=by
    intro a l ha;cases a<;>rw[uA]at ha<;>first | rfl | (exfalso;revert ha;simp)
   have h1:=hag _ _ ha;have h2:=hag _ _ hb;cases a<;>simp[zA.tag]at h1;cases b<;>simp[zA.tag]at h2;revert h;cases ty.desc<;>simp[Lr,Gw,zA.asBool,zjm,zA.asIntK,Zr,zA.asStr,Az,Rf,zA.tag,mB,Nat.beq]
def CN{a:zA}{v:Value}(h:uA μ a v):v=.nilIface->a.tag=12:=by
 intro hv;subst hv;cases a<;>rw[uA]at h<;>first | rfl | (exfalso;revert h;simp)
theorem NS(hT:qF P C){op:BinOp}{t yt:TypeId}{x y:Operand}{a b:zA}{neg:Bool}(hx:uA μ a (ρ x))(hy:uA μ b (ρ y))(ha:a.asIntK=none)(hs:a.asStr=none)
  (hop:(neg=false/\op=.eql)\/(neg=true/\op=.neq)) (h:Rx neg C t x y a b=some v):cH P μ w ρ ⟨dst,.binOp op t x y yt,type,pos,after,guard⟩ v:=by
 unfold Rx at h;simp only[fB,rA]at h;obtain⟨hg,r,hr,h⟩:=h;cases h;have h1:(Op.equal t (ρ x) (ρ y)).run P w=.ok r w:=zgq hT 20 10000 t a b _ _ r (by decide) hx hy hr;have hG:(eqGuard op t x y (ρ x) (ρ y)).run P w=.ok () w:=by
  by_cases hag:∃l m,ρ x=.agg l/\ρ y=.agg m
  ·grind [XU,zj6]
  ·refine Lp ?_ fun l m hlm=>hag ⟨l,m,hlm⟩;by_cases hn:ρ x=.nilIface/\ρ y=.nilIface
   ·right
    have h2:=CN hx hn.1;have h3:=CN hy hn.2
    simp_all [LZ]
   simp_all
 have hnx:∀k n,ρ x≠.int k n:=by
  intro k n hv;rw[hv]at hx;cases a<;>rw[uA]at hx<;>first | (simp[zA.asIntK]at ha;done) | (revert hx;simp)
 have hsx:∀s,ρ x≠.string s:=by
  intro s hv;rw[hv]at hx;cases a<;>rw[uA]at hx<;>first | (simp[zA.asStr]at hs;done) | (revert hx;simp)
 have hfx:∀k n,ρ x≠.float k n:=by
  intro k n hv;rw[hv]at hx;cases a<;>rw[uA]at hx<;>revert hx<;>simp
 have hcx:∀k n m,ρ x≠.complex k n m:=by
  intro k n m hv;rw[hv]at hx;cases a<;>rw[uA]at hx<;>revert hx<;>simp
 rcases hop with⟨rfl,rfl⟩ | ⟨rfl,rfl⟩
 ·refine⟨.bool r,Fi hG ?_,by rw[uA];rfl⟩;revert h1 hnx hsx hfx hcx;generalize ρ x=vx;generalize ρ y=vy;intro h1 hnx hsx hfx hcx;cases vx<;>first
   | exact absurd rfl (hnx _ _)
   | exact absurd rfl (hsx _)
   | exact absurd rfl (hfx _ _)
   | exact absurd rfl (hcx _ _ _)
   | simp[binOp,h1]
 ·refine⟨.bool (!r),Fi hG ?_,by rw[uA];rfl⟩;revert h1 hnx hsx hfx hcx;generalize ρ x=vx;generalize ρ y=vy;intro h1 hnx hsx hfx hcx;cases vx<;>first
   | exact absurd rfl (hnx _ _)
   | exact absurd rfl (hsx _)
   | exact absurd rfl (hfx _ _)
   | exact absurd rfl (hcx _ _ _)
   | simp[binOp,h1]
theorem JB(hT:qF P C)(hE:mF μ e ρ){op:BinOp}{t yt:Nat}{x y:Operand}(h:pU op t x y C e H=some v):cH P μ w ρ ⟨dst,.binOp op t x y yt,type,pos,after,guard⟩ v:=by
 unfold pU at h;simp only[rA]at h;obtain⟨a,ha,b,hb,h⟩:=h;have hx:=hE _ _ ha;have hy:=hE _ _ hb;clear ha hb;revert h;have plain:∀op,op≠.shl->op≠.shr->AM op C t x y a b=some v->cH P μ w ρ ⟨dst,.binOp op t x y yt,type,pos,after,guard⟩ v:=by
  intro op _ _ h;unfold AM at h;split at h
  ·rename_i i hi;simp only[rA,cU,fB,dK]at h;obtain⟨j,rfl,hk,h⟩:=h;rw[cU]at hi;subst hi;rw[uA]at hx;rw[uA]at hy;obtain⟨_,_,h2⟩:=za1 (P:=P) (μ:=μ) (w:=w) h;obtain⟨v',h3,h4⟩:=h2 t;refine⟨v',Fi (Lp (.inl (by grind)) (by grind)) ?_,h4⟩
   simp_all
  ·rename_i hi;split at h
   ·rename_i s hs;simp only[rA,dU]at h;obtain⟨u,rfl,h⟩:=h;rw[dU]at hs;subst hs;rw[uA]at hx;rw[uA]at hy;obtain⟨sx,hx,rfl⟩:=hx;obtain⟨sy,hy,rfl⟩:=hy;obtain⟨_,_,h2⟩:=za0 (P:=P) (μ:=μ) (w:=w) h;obtain⟨v',h3,h4⟩:=h2 t;refine⟨v',Fi (Lp (.inl (by grind)) (by grind)) ?_,h4⟩
    simp_all
   ·rename_i hs;cases op<;>simp only[NR]at h<;>first
     | exact NS hT hx hy hi hs (.inl ⟨rfl,rfl⟩) h
     | exact NS hT hx hy hi hs (.inr ⟨rfl,rfl⟩) h
     | (cases h;done)
 intro h;cases op<;>simp only[zN]at h<;>first
  | exact NQ hx hy (.inl ⟨rfl,h⟩)
  | exact NQ hx hy (.inr ⟨rfl,h⟩)
  | exact plain _ (by simp) (by simp) h
theorem Yl{k:IntKind}(h:kLo k=0):gG k=2^k.bits:=by
 cases k<;>first
  | (cases h;done)
  | rfl
theorem zfc(hE:mF μ e ρ){op:UnOp}{t:Nat}{x:Operand}(h:lUn op x C e H=some v):cH P μ w ρ ⟨dst,.unOp op t x,type,pos,after,guard⟩ v:=by
 unfold lUn at h;simp only[rA]at h;obtain⟨a,ha,h⟩:=h;have hx:=hE _ _ ha;cases op<;>simp only[unA]at h<;>try (cases h;done)
 case neg=>
  simp only[unNeg,rA,cU]at h;obtain⟨p,rfl,h⟩:=h;cases h;rw[uA]at hx;refine⟨.int p.1 (p.1.wrap (0-p.2)),?_,by rw[uA,wN]⟩;simp[execOp,hx,Op.unary,Op.intArith]
 case xor=>
  simp only[Cd,rA,cU,fB,bC]at h;obtain⟨p,rfl,hk,h⟩:=h;obtain⟨a,b,ha1,hb,hx1,hy,rfl⟩:=Qp h;rw[uA]at hx;have h1:Nat.xor a b<gG p.1:=by
   have:Nat.xor a b<2^p.1.bits:=Nat.xor_lt_two_pow (by grind [Yl]) (by grind [Yl])
   grind [Yl]
  refine⟨.int p.1 (Nat.xor a b:Nat),?_,by rw[uA]⟩;have hm:(if p.1.signed then(-1:Int)else p.1.max)=(a:Int):=by
   rw[<- ha1];revert hk;cases p.1<;>intro hk<;>first
    | (cases hk;done)
    | rfl
  have e2:(Op.intBits .xor p.1 (if p.1.signed then -1 else p.1.max) p.2).run P w=.ok (.int p.1 (Nat.xor a b:Nat)) w:=by
   rw[hm,hb];simp only[Op.intBits,BitVec.toNat_xor,yZ hx1,yZ hy];rw[show(a ^^^ b:Nat)=Nat.xor a b from rfl,Bw h1];rfl
  simp_all [execOp,Op.unary]
 case not=>
  simp only[unNot,rA,Bh]at h;obtain⟨b,rfl,h⟩:=h;cases h;rw[uA]at hx;refine⟨.bool (!b),?_,by rw[uA]⟩;simp[execOp,hx,Op.unary]
end
end Go.Am
