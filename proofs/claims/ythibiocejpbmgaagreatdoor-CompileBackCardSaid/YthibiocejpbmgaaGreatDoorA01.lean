/- -/
import Derived.Below
import Derived.Calls
import Derived.Laws.Cells
import Derived.Laws.Sem
import Derived.Laws.StructEq
import Derived.Laws.World
import Derived.Lib.Strings
set_option linter.all false
noncomputable section
namespace Go.Am
def yaa := @if_neg
def yab := @if_pos
def yac := @Result.andThen_ok
def yad := @Sem.run_bind
def yae := @Sem.run_pure
def yaf := @List.mem_append
def yag := @Nat.pow_succ
def yah := @List.nil_append
def yai := @Option.bind_some
def yaj := @Array.getElem?_append_left
def yak := @List.drop_eq_nil_iff
def yal := @Bool.or_eq_false_iff
def yam := @Nat.lt_of_le_of_lt
def yan := @Nat.le_mul_of_pos_left
def yao := @Nat.pow_le_pow_right
def yap := @Nat.add_comm
def yaq := @List.mem_map
def yar := @Option.map_eq_some_iff
def yas := @List.flatten_cons
def yat := @Nat.mul_zero
def yau := @Nat.lt_or_ge
def yav := @Nat.eq_zero_or_pos
def yaw := @Nat.zero_le
def yax := @Array.toList_inj
def yay := @Bool.and_false
def yaz := @List.getElem?_cons_zero
def yba := @List.getElem?_cons_succ
def ybb := @Bool.and_eq_true
def ybc := @List.getElem?_eq_some_iff
def ybd := @List.getElem?_eq_getElem
def ybe := @Array.getElem?_eq_some_iff
def ybf := @List.length_map
def ybg := @List.length_append
def ybh := @Nat.mul_comm
def ybi := @Nat.mul_le_mul_right
def ybj := @Nat.mul_assoc
def ybk := @Nat.le_refl
def ybl := @List.drop_eq_getElem_cons
def ybm := @Nat.mul_add
def ybn := @List.length_cons
def ybo := @Nat.add_mul
def ybp := @List.getElem?_append_right
def ybq := @Bool.false_eq_true
def ybr := @List.mem_cons_of_mem
def ybs := @List.mem_cons
def ybt := @List.drop_eq_nil_of_le
def ybu := @List.getElem?_map
def ybv := @Nat.mul_le_mul_left
def ybw := @Nat.zero_add
def ybx := @List.length_nil
def yby := @List.mem_cons_self
def ybz := @List.append_assoc
def yca := @List.take_of_length_le
def ycb := @List.all_eq_true
def ycc := @List.length_eq_zero_iff
def ycd := @List.append_nil
def yce := @Nat.dvd_mul_left_of_dvd
def ycf := @List.mem_append_right
def ycg := @List.all_cons
def ych := @Nat.div_add_mod
def yci := @Option.some.inj
def ycj := @List.getElem_mem
def yck := @List.all_nil
def ycl := @Bool.not_false
def ycm := @List.map_cons
def ycn := @Bool.true_and
def yco := @List.getElem?_append_left
def ycp := @Bool.not_eq_true'
def ycq := @Bool.or_eq_true
def ycr := @List.drop_zero
def ycs := @Array.getElem?_setIfInBounds
def yct := @Nat.add_zero
def ycu := @Nat.div_lt_of_lt_mul
def ycv := @List.mem_of_getElem?
def ycw := @List.getElem?_set
def ycx := @Array.getD_eq_getD_getElem?
def ycy := @Nat.mod_lt
def ycz := @Array.length_toList
def yda := @List.length_take
def ydb := @Nat.mul_le_mul
def ydc := @List.mem_append_left
def ydd := @List.mem_singleton
def yde := @List.getElem?_drop
def ydf := @List.getElem?_take
def ydg := @List.take_add_one
def ydh := @List.length_set
def ydi := @List.all_append
def ydj := @List.length_drop
end Go.Am
namespace Go.Am
inductive Tr (α:Type) where
 | leaf
 | node (l:Tr α) (v:Option α) (r:Tr α)
def ob {α β:Type}(x:Option α)(f:α->Option β):Option β:=Option.rec (motive:=fun _=>Option β) none f x
namespace Tr
variable {α:Type}
def get (t:Tr α):Nat->Option α:=
 Tr.rec (motive:=fun _=>Nat->Option α) (fun _=>none)
  (fun _ v _ gl gr n=>Bool.rec (motive:=fun _=>Option α) (Bool.rec (motive:=fun _=>Option α) (gr (Nat.pred (Nat.div n (nat_lit 2)))) (gl (Nat.div n (nat_lit 2))) (Nat.beq (Nat.mod n (nat_lit 2)) (nat_lit 1))) v (Nat.beq n (nat_lit 0))) t
def mk (f:Nat):Nat->α->Tr α:=
 Nat.rec (motive:=fun _=>Nat->α->Tr α) (fun _ _=>leaf)
  (fun _ g n v=>Bool.rec (motive:=fun _=>Tr α) (Bool.rec (motive:=fun _=>Tr α) (node leaf none (g (Nat.pred (Nat.div n (nat_lit 2))) v)) (node (g (Nat.div n (nat_lit 2)) v) none leaf) (Nat.beq (Nat.mod n (nat_lit 2)) (nat_lit 1))) (node leaf (some v) leaf) (Nat.beq n (nat_lit 0))) f
def set (t:Tr α):Nat->α->Tr α:=
 Tr.rec (motive:=fun _=>Nat->α->Tr α) (fun n v=>mk (Nat.succ n) n v)
  (fun l x r gl gr n v=>Bool.rec (motive:=fun _=>Tr α) (Bool.rec (motive:=fun _=>Tr α) (node l x (gr (Nat.pred (Nat.div n (nat_lit 2))) v)) (node (gl (Nat.div n (nat_lit 2)) v) x r) (Nat.beq (Nat.mod n (nat_lit 2)) (nat_lit 1))) (node l (some v) r) (Nat.beq n (nat_lit 0))) t
def del (t:Tr α):Nat->Tr α:=
 Tr.rec (motive:=fun _=>Nat->Tr α) (fun _=>leaf)
  (fun l x r gl gr n=>Bool.rec (motive:=fun _=>Tr α) (Bool.rec (motive:=fun _=>Tr α) (node l x (gr (Nat.pred (Nat.div n (nat_lit 2))))) (node (gl (Nat.div n (nat_lit 2))) x r) (Nat.beq (Nat.mod n (nat_lit 2)) (nat_lit 1))) (node l none r) (Nat.beq n (nat_lit 0))) t
def many (t:Tr α)(n:Nat):Nat->Option (List α):=
 Nat.rec (motive:=fun _=>Nat->Option (List α)) (fun _=>some [])
  (fun _ g i=>ob (t.get i) fun v=>ob (g (i+1)) fun l=>some (v::l)) n
def setMany(l:List α):Tr α->Nat->Tr α:=
 List.rec (motive:=fun _=>Tr α->Nat->Tr α) (fun t _=>t) (fun v _ g t i=>g (t.set i v) (i+1)) l
def ofList(l:List α):Tr α:=setMany l leaf 0
end Tr
def tD {α:Type}(l:List α):Nat->Option α:=
 List.rec (motive:=fun _=>Nat->Option α) (fun _=>none) (fun a _ g n=>Bool.rec (motive:=fun _=>Option α) (g (Nat.pred n)) (some a) (Nat.beq n (nat_lit 0))) l
def cQ{α:Type}(l:List α):Nat->List α:=
 List.rec (motive:=fun _=>Nat->List α) (fun _=>[]) (fun a l g n=>bif Nat.beq n 0 then a::l else g (n-1)) l
def kY{α:Type}(l:List α):Nat->List α:=
 List.rec (motive:=fun _=>Nat->List α) (fun _=>[]) (fun a _ g n=>bif Nat.beq n 0 then []else a::g (n-1)) l
def wB {α:Type}(l:List α):Nat:=List.rec (motive:=fun _=>Nat) 0 (fun _ _ n=>n+1) l
def tE {α:Type}(l m:List α):List α:=List.rec (motive:=fun _=>List α) m (fun a _ g=>a::g) l
def zD {α:Type}(p:α->Bool)(l:List α):Bool:=List.rec (motive:=fun _=>Bool) true (fun a _ g=>bif p a then g else false) l
def oH{α β:Type}(f:α->Option β)(l:List α):Option (List β):=
 List.rec (motive:=fun _=>Option (List β)) (some []) (fun a _ g=>ob (f a) fun b=>ob g fun r=>some (b::r)) l
def wH(a:List Nat):List Nat->Bool:=
 List.rec (motive:=fun _=>List Nat->Bool) (fun b=>b.isEmpty) (fun x _ g b=>List.rec (motive:=fun _=>Bool) false (fun y b _=>bif Nat.beq x y then g b else false) b) a
def kIdx:IntKind->Nat
 | .i8=>0 | .i16=>1 | .i32=>2 | .i64=>3 | .u8=>4 | .u16=>5 | .u32=>6 | .u64=>7
def bO (a b:IntKind):Bool:=Nat.beq (kIdx a) (kIdx b)
def bEq:Bool->Bool->Bool
 | true,b=>b
 | false,b => !b
def cA:Int->Int->Bool
 | .ofNat a,.ofNat b=>Nat.beq a b
 | .negSucc a,.negSucc b=>Nat.beq a b
 | _,_=>false
def eC:Int->Int->Bool
 | .ofNat a,.ofNat b=>Nat.ble a b
 | .ofNat _,.negSucc _=>false
 | .negSucc _,.ofNat _=>true
 | .negSucc a,.negSucc b=>Nat.ble b a
def jB:Int->Int->Bool
 | .ofNat a,.ofNat b=>Nat.blt a b
 | .ofNat _,.negSucc _=>false
 | .negSucc _,.ofNat _=>true
 | .negSucc a,.negSucc b=>Nat.blt b a
def nH:IntKind->Nat
 | .i8=>128 | .i16=>32768 | .i32=>2147483648 | .i64=>9223372036854775808 | .u8=>256 | .u16=>65536 | .u32=>4294967296 | .u64=>18446744073709551616
def kLo:IntKind->Nat
 | .i8=>128 | .i16=>32768 | .i32=>2147483648 | .i64=>9223372036854775808 | _=>0
def dA(k:IntKind):Int->Int
 | .ofNat n=>bif Nat.blt n (nH k)then .ofNat n else k.wrap (.ofNat n)
 | .negSucc n=>bif Nat.blt n (kLo k)then .negSucc n else k.wrap (.negSucc n)
inductive AFn where
 | func (f:Nat)
 | yld (l:Nat)
inductive zA where
 | bool (b:Bool)
 | int (k:IntKind) (n:Int)
 | str (l:List Nat)
 | nilptr
 | ptr (b off:Nat)
 | nilslice
 | slice (b off len cap:Nat)
 | nilmap
 | map (b:Nat)
 | func (fn:AFn) (first captured:List zA)
 | nilfunc
 | iface (t:Nat) (v:zA)
 | niliface
 | agg (l:List zA)
 | tup (l:List zA)
structure Tm where
 k:Nat
 v:Tr zA
 t:List (Nat × zA)
def assoc(i:Nat)(l:List (Nat × zA)):Option zA:=
 List.rec (motive:=fun _=>Option zA) none (fun a _ g=>Bool.rec (motive:=fun _=>Option zA) g (some a.2) (Nat.beq i a.1)) l
def Tm.get(t:Tm)(i:Nat):Option zA:=Bool.rec (motive:=fun _=>Option zA) (assoc i t.t) (t.v.get i) (Nat.blt i t.k)
def Tm.set(t:Tm)(i:Nat)(x:zA):Tm:=Bool.rec (motive:=fun _=>Tm) ⟨t.k,t.v,(i,x)::t.t⟩ ⟨t.k,t.v.set i x,t.t⟩ (Nat.blt i t.k)
def Tm.cut(t:Tm):Tm:=⟨t.k,t.v,[]⟩
structure zK where
 fn:Option AFn
 r:Nat
 args:List zA
structure vQ where
 state:LoopState
 pending:Option Code
 fn:Nat
 n:Nat
 tm:Tm
 params:List Nat
 assign:Code
 body:Code
 defers:Nat
inductive Lo where
 | sz (n:Nat)
 | ty (t:Nat)
def Lo.es:Lo->Nat | .sz n=>n | .ty _=>1
def loEq:Lo->Lo->Bool
 | .sz a,.sz b=>Nat.beq a b
 | .ty a,.ty b=>Nat.beq a b
 | _,_=>false
inductive qA where
 | cells (c:Tr zA) (n:Nat) (loose:Option Lo)
 | map (l:List (zA × zA))
 | loop (l:vQ)
 | deferred (l:Option (List zK))
 | siter (s:List Nat) (pos:Nat)
structure pA where
 next:Nat
 t:Tr qA
inductive fD where
 | bool | int (k:IntKind) | string
 | ptr (e:Nat) | slice (e:Nat) | arr (n e:Nat) | map (k e:Nat)
 | struct (fs:List (Nat × Nat × Nat))
 | func | iface | other
structure lD where
 desc:fD
 size:Nat
 bytes:Nat
 zero:List zA
 eqOk:Bool
structure fG where
 heavy:Nat
 lights:List Nat
 again:List Nat
structure Plan where
 first:List Nat
 stages:List fG
 olds:List (Nat × List Nat)
structure fA where
 fns:Tr Func
 ks:Tr Nat
 tys:Tr lD
 plans:Tr (Tr Plan)
 prims:Tr (List zA->pA->Option (zA × pA))
 base:Nat
 root:Nat
inductive iE where
 | code (c:Code)
 | inBlock (id:Nat)
 | inLoop (c:Code)
 | inScope (c:Code)
 | ops (all:Array Oper) (rest:List Oper)
 | reg (all:Array Oper) (old:Tm) (olds:List (Nat × List Nat)) (stages:List fG)
 | inRange (l:Nat)
 | endRange (l:Nat)
 | beginRound
structure Bv where
 v:zA
 recovered:Bool
inductive kX where
 | run | returning
 | panicking (chain:List Bv)
structure nK where
 fn:Nat
 n:Nat
 defers:List zK
 mode:kX
 deferred:Bool
 roundOf:Option Nat
structure lC where
 todo:List iE
 tm:Tm
 R:nK
structure kR where
 fr:lC
 cs:List lC
 H:pA
inductive bF where
 | next (s:kR)
 | done (v:zA) (H:pA)
 | fail (why:Nat)
def zA.asBool:zA->Option Bool | .bool b=>some b | _=>none
def zA.asInt:zA->Option Int | .int _ n=>some n | _=>none
def zA.asIntK:zA->Option (IntKind × Int) | .int k n=>some (k,n) | _=>none
def zA.asStr:zA->Option (List Nat) | .str l=>some l | _=>none
def zA.asPtr:zA->Option (Nat × Nat) | .ptr b o=>some (b,o) | _=>none
def zA.asSlice:zA->Option (Nat × Nat × Nat × Nat) | .slice b o l c=>some (b,o,l,c) | _=>none
def zA.asMap:zA->Option Nat | .map b=>some b | _=>none
def zA.asAgg:zA->Option (List zA) | .agg l=>some l | _=>none
def zA.asTup:zA->Option (List zA) | .tup l=>some l | _=>none
def zA.asFunc:zA->Option (AFn × List zA × List zA) | .func f a b=>some (f,a,b) | _=>none
def zA.asIface:zA->Option (Nat × zA) | .iface t v=>some (t,v) | _=>none
def zA.tag:zA->Nat
 | .bool _=>0 | .int _ _=>1 | .str _=>2 | .nilptr=>3 | .ptr _ _=>4 | .nilslice=>5 | .slice _ _ _ _=>6 | .nilmap=>7 | .map _=>8
 | .func _ _ _=>9 | .nilfunc=>10 | .iface _ _=>11 | .niliface=>12 | .agg _=>13 | .tup _=>14
def sM:Int->Option Nat | .ofNat n=>some n | .negSucc _=>none
def zA.asNat(v:zA):Option Nat:=ob v.asInt sM
def zA.cells(v:zA):List zA:=
 match v.asAgg with
 | some l=>l
 | none=>[v]
def zA.one(v:zA):Bool:=Nat.blt v.tag 13
def fD.asInt:fD->Option IntKind | .int k=>some k | _=>none
def fD.asSlice:fD->Option Nat | .slice e=>some e | _=>none
def fD.asArr:fD->Option (Nat × Nat) | .arr n e=>some (n,e) | _=>none
def fD.asMap:fD->Option (Nat × Nat) | .map k e=>some (k,e) | _=>none
def fD.asStruct:fD->Option (List (Nat × Nat × Nat)) | .struct fs=>some fs | _=>none
def fD.tag:fD->Nat
 | .bool=>0 | .int _=>1 | .string=>2 | .ptr _=>3 | .slice _=>4 | .arr _ _=>5 | .map _ _=>6 | .struct _=>7 | .func=>8 | .iface=>9 | .other=>10
def fD.isAgg(d:fD):Bool:=bif Nat.beq d.tag 5 then true else Nat.beq d.tag 7
def fD.isString(d:fD):Bool:=Nat.beq d.tag 2
def qA.asCells:qA->Option (Tr zA × Nat × Option Lo) | .cells c n l=>some (c,n,l) | _=>none
def qA.asMap:qA->Option (List (zA × zA)) | .map l=>some l | _=>none
def qA.asLoop:qA->Option vQ | .loop l=>some l | _=>none
def qA.asDeferred:qA->Option (Option (List zK)) | .deferred l=>some l | _=>none
def qA.asIter:qA->Option (List Nat × Nat) | .siter s p=>some (s,p) | _=>none
def vB{α:Type}(b:Bool)(x:Option α):Option α:=Bool.rec (motive:=fun _=>Option α) none x b
def kD:zA:=.tup []
def qF(s:ByteArray):List Nat:=s.data.toList.map UInt8.toNat
def Dq:Value->Option zA
 | .bool b=>some (.bool b)
 | .int k n=>some (.int k n)
 | .string s=>some (.str (qF s))
 | .pointer none=>some .nilptr
 | .slice none 0 0=>some .nilslice
 | .map none=>some .nilmap
 | .nilFunc=>some .nilfunc
 | .nilIface=>some .niliface
 | _=>none
def zgi:Value->Option (Array Value)
 | .agg cs=>some cs
 | _=>none
def Ww(v:Value):Option zA:=
 match zgi v with
 | some cs=>ob (oH Dq cs.toList) fun l=>some (.agg l)
 | none=>Dq v
inductive vD where
 | now (tm:Tm)
 | mixed (tm old:Tm) (olds names:List Nat)
def aI(i:Nat)(l:List Nat):Bool:=List.rec (motive:=fun _=>Bool) false (fun j _ g=>bif Nat.beq i j then true else g) l
def bV (t:Nat)(e:vD):Option zA:=
 match e with
 | .now tm=>tm.get t
 | .mixed tm old olds names=>bif aI t names then Tm.get (bif aI t olds then old else tm) t else none
def xConst(v:Value)(_:vD):Option zA:=Ww v
def Tg(g:Nat)(_:vD):Option zA:=bif Nat.blt g 256 then some (.ptr g 0)else none
def xFunc(f:Nat)(_:vD):Option zA:=some (.func (.func f) [] [])
structure EB where f:vD->Option zA
def evB:Operand->EB
 | .tmp t=>⟨bV t⟩
 | .const v=>⟨xConst v⟩
 | .global g=>⟨Tg g⟩
 | .func f=>⟨xFunc f⟩
def ev (x:Operand)(e:vD):Option zA:=(evB x).f e
def vR (l:List Operand)(e:vD):Option (List zA):=oH (fun x=>ev x e) l
def evo (x:Option Operand)(e:vD):Option (Option zA):=
 match x with
 | none=>some none
 | some x=>ob (ev x e) fun v=>some (some v)
def evp (l:List (Nat × Operand))(e:vD):Option (List (Nat × zA)):=oH (fun x=>ob (ev x.2 e) fun v=>some (x.1,v)) l
def rD(H:pA)(b:Nat):Option (Tr zA × Nat × Option Lo):=ob (H.t.get b) qA.asCells
def cJ(H:pA)(b:Nat):Option (List (zA × zA)):=ob (H.t.get b) qA.asMap
def qS(ty:lD)(c:Tr zA)(off:Nat):Option zA:=
 bif ty.desc.isAgg then ob (c.many ty.size off) fun l=>some (.agg l)else c.get off
def jP(C:fA)(t:Nat)(l:List zA)(off:Nat):Option zA:=
 ob (C.tys.get t) fun ty=>bif ty.desc.isAgg then some (.agg (kY (cQ l off) ty.size))else tD l off
def cV(ty:lD):zA:=
 bif ty.desc.isAgg then .agg ty.zero else match ty.zero with
  | v::_=>v
  | []=>kD
def Xj(a:List Nat):List Nat->Bool:=
 List.rec (motive:=fun _=>List Nat->Bool) (fun b => !b.isEmpty)
  (fun x _ g b=>List.rec (motive:=fun _=>Bool) false (fun y b _=>bif Nat.blt x y then true else bif Nat.beq x y then g b else false) b) a
def Ia(a b:zA):Option Bool:=ob a.asBool fun x=>ob b.asBool fun y=>some (bEq x y)
def zi4(a b:zA):Option Bool:=ob a.asIntK fun x=>ob b.asIntK fun y=>vB (bO x.1 y.1) (some (cA x.2 y.2))
def Yz(a b:zA):Option Bool:=ob a.asStr fun x=>ob b.asStr fun y=>some (wH x y)
def Bd(n m:Nat)(a b:zA):Option Bool:=
 bif Nat.beq a.tag n then(bif Nat.beq b.tag n then some true else vB (Nat.beq b.tag m) (some false))
 else vB (Nat.beq a.tag m&&Nat.beq b.tag n) (some false)
def Rv(_ _:zA):Option Bool:=none
def Ml:fD->zA->zA->Option Bool
 | .bool=>Ia
 | .int _=>zi4
 | .string=>Yz
 | .ptr _=>Bd 3 4
 | .iface=>Bd 12 11
 | .slice _=>Bd 5 6
 | .map _ _=>Bd 7 8
 | .func=>Bd 10 9
 | .arr _ _=>Rv
 | .struct _=>Rv
 | .other=>Rv
def Ir(C:fA)(eq:Nat->zA->zA->Option Bool)(xs ys:List zA):List (Nat × Nat × Nat)->Option Bool
 | []=>some true
 | f::fs=>ob (jP C f.2.1 xs f.1) fun a=>ob (jP C f.2.1 ys f.1) fun b=>ob (eq f.2.1 a b) fun r=>bif r then Ir C eq xs ys fs else some false
def aeq (C:fA):Nat->Nat->zA->zA->Option Bool
 | 0,_,_,_=>none
 | d+1,t,x,y=>ob (C.tys.get t) fun ty=>
  match ty.desc.asStruct with
  | some fs=>vB ty.eqOk (ob x.asAgg fun xs=>ob y.asAgg fun ys=>Ir C (aeq C d) xs ys fs)
  | none=>Ml ty.desc x y
def iAdd (k:IntKind)(a b:Int):Option zA:=some (.int k (dA k (a+b)))
def iSub (k:IntKind)(a b:Int):Option zA:=some (.int k (dA k (a-b)))
def iMul (k:IntKind)(a b:Int):Option zA:=some (.int k (dA k (a*b)))
def zZ (k:IntKind)(a b:Int):Option zA:=bif cA b 0 then none else some (.int k (dA k (a.tdiv b)))
def aY (k:IntKind)(a b:Int):Option zA:=bif cA b 0 then none else some (.int k (a.tmod b))
def qJ(f:Nat->Nat->Nat)(k:IntKind)(a b:Int):Option zA:=ob (sM a) fun x=>ob (sM b) fun y=>vB (Nat.blt x (nH k)&&Nat.blt y (nH k)) (some (.int k (.ofNat (f x y))))
def kW:IntKind->Nat
 | .i8=>256 | .u8=>256 | .i16=>65536 | .u16=>65536 | .i32=>4294967296 | .u32=>4294967296 | .i64=>18446744073709551616 | .u64=>18446744073709551616
def iAnd (k:IntKind)(a b:Int):Option zA:=
 match sM a with
 | some _=>qJ Nat.land k a b
 | none=>ob (sM b) fun y=>vB (Nat.blt y (nH k)) (some (.int k (.ofNat (Nat.land (Int.toNat (Int.emod a (.ofNat (kW k)))) y))))
def iEql (_:IntKind)(a b:Int):Option zA:=some (.bool (cA a b))
def iNeq (_:IntKind)(a b:Int):Option zA:=some (.bool (!cA a b))
def iLss (_:IntKind)(a b:Int):Option zA:=some (.bool (jB a b))
def iLeq (_:IntKind)(a b:Int):Option zA:=some (.bool (eC a b))
def iGtr (_:IntKind)(a b:Int):Option zA:=some (.bool (jB b a))
def iGeq (_:IntKind)(a b:Int):Option zA:=some (.bool (eC b a))
def iNone(_:IntKind)(_ _:Int):Option zA:=none
structure IB where f:IntKind->Int->Int->Option zA
def Zp:BinOp->IB
 | .add=>⟨iAdd⟩ | .sub=>⟨iSub⟩ | .mul=>⟨iMul⟩ | .quo=>⟨zZ⟩ | .rem=>⟨aY⟩
 | .and=>⟨iAnd⟩ | .or=>⟨qJ Nat.lor⟩ | .xor=>⟨qJ Nat.xor⟩
 | .eql=>⟨iEql⟩ | .neq=>⟨iNeq⟩ | .lss=>⟨iLss⟩ | .leq=>⟨iLeq⟩ | .gtr=>⟨iGtr⟩ | .geq=>⟨iGeq⟩
 | _=>⟨iNone⟩
def bI (a b:List Nat):Option zA:=vB (Nat.blt (wB a+wB b) 4611686018427387904) (some (.str (tE a b)))
def sEql (a b:List Nat):Option zA:=some (.bool (wH a b))
def sNeq (a b:List Nat):Option zA:=some (.bool (!wH a b))
def sLss (a b:List Nat):Option zA:=some (.bool (Xj a b))
def sNone(_ _:List Nat):Option zA:=none
structure SB where f:List Nat->List Nat->Option zA
def Zn:BinOp->SB
 | .add=>⟨bI⟩ | .eql=>⟨sEql⟩ | .neq=>⟨sNeq⟩ | .lss=>⟨sLss⟩
 | _=>⟨sNone⟩
def Mb:Operand->Bool
 | .const _=>true
 | _=>false
def Cx(k:IntKind)(b:Int):Option Nat:=ob (sM b) fun n=>some (min n k.bits)
def uV (k:IntKind)(a b:Int):Option zA:=ob (Cx k b) fun n=>some (.int k (dA k (a*.ofNat (2^n))))
def Ef (k:IntKind)(a b:Int):Option zA:=ob (Cx k b) fun n=>some (.int k (a.fdiv (.ofNat (2^n))))
def Mt(f:IntKind->Int->Int->Option zA)(a b:zA):Option zA:=ob a.asIntK fun x=>ob b.asInt fun y=>f x.1 x.2 y
def LJ(x y:Operand)(a b:zA):Bool:=
 bif Nat.beq a.tag 12&&Nat.beq b.tag 12 then Mb x||Mb y else true
def Sp(neg:Bool)(C:fA)(t:Nat)(x y:Operand)(a b:zA):Option zA:=
 vB (LJ x y a b) (ob (aeq C 20 t a b) fun r=>some (.bool (bif neg then !r else r)))
def binNo(_:fA)(_:Nat)(_ _:Operand)(_ _:zA):Option zA:=none
structure BB where f:fA->Nat->Operand->Operand->zA->zA->Option zA
def NO:BinOp->BB
 | .eql=>⟨Sp false⟩
 | .neq=>⟨Sp true⟩
 | _=>⟨binNo⟩
def Zo(op:BinOp)(C:fA)(t:Nat)(x y:Operand)(a b:zA):Option zA:=
 match a.asIntK with
 | some i=>ob b.asIntK fun j=>vB (bO i.1 j.1) ((Zp op).f i.1 i.2 j.2)
 | none=>match a.asStr with
  | some s=>ob b.asStr fun u=>(Zn op).f s u
  | none=>(NO op).f C t x y a b
def binShl(_:fA)(_:Nat)(_ _:Operand)(a b:zA):Option zA:=Mt uV a b
def binShr(_:fA)(_:Nat)(_ _:Operand)(a b:zA):Option zA:=Mt Ef a b
def zN:BinOp->BB
 | .shl=>⟨binShl⟩
 | .shr=>⟨binShr⟩
 | op=>⟨Zo op⟩
def unNeg(a:zA):Option zA:=ob a.asIntK fun x=>some (.int x.1 (dA x.1 (0-x.2)))
def unNot(a:zA):Option zA:=ob a.asBool fun b=>some (.bool (!b))
def Cm(a:zA):Option zA:=ob a.asIntK fun x=>vB (Nat.beq (kLo x.1) 0) (qJ Nat.xor x.1 (.ofNat (nH x.1-1)) x.2)
def unNone(_:zA):Option zA:=none
structure UB where f:zA->Option zA
def unA:UnOp->UB
 | .neg=>⟨unNeg⟩
 | .xor=>⟨Cm⟩
 | .not=>⟨unNot⟩
 | _=>⟨unNone⟩
def yU(v:zA):Option Nat:=ob v.asIntK fun x=>vB (bO x.1 .u8) (ob (sM x.2) fun n=>vB (Nat.blt n 256) (some n))
def Ey(H:pA)(a:zA):Option zA:=
 match a.asSlice with
 | some x=>ob (rD H x.1) fun c=>ob (c.1.many x.2.2.1 x.2.1) fun l=>ob (oH yU l) fun r=>some (.str r)
 | none=>vB (Nat.beq a.tag 5) (some (.str []))
def tR(C:fA)(s d:lD)(a:zA)(H:pA):Option zA:=
 match d.desc.asInt with
 | some k=>ob a.asInt fun n=>some (.int k (dA k n))
 | none=>vB d.desc.isString (bif Nat.beq a.tag 2 then some a else
   ob s.desc.asSlice fun e=>ob (C.tys.get e) fun et=>ob et.desc.asInt fun k=>vB (bO k .u8) (Ey H a))
def xU(y:Nat)(v:zA):Option Nat:=ob v.asNat fun n=>vB (Nat.ble n y) (some n)
def wX(y dflt:Nat)(v:Option zA):Option Nat:=
 match v with
 | some v=>xU y v
 | none=>some dflt
def qO(len cap:Nat)(lo hi:Option zA):Option (Nat × Nat):=
 ob (wX cap len hi) fun h=>ob (wX h 0 lo) fun l=>some (l,h)
def jK(H:pA)(b size cap l:Nat)(arr:Bool):Bool:=
 match rD H b with
 | some c=>match c.2.2 with
  | none=>true
  | some es => !arr&&Nat.beq es.es size&&(!Nat.beq cap l||Nat.beq l 0)
 | none=>false
def kJ(H:pA)(b size cap l:Nat)(arr:Bool):Bool:=
 match rD H b with
 | some c=>match c.2.2 with
  | none=>false
  | some es => !arr&&Nat.beq es.es size&&Nat.beq cap l && !Nat.beq l 0
 | none=>false
def qN(C:fA)(H:pA)(arr:Bool)(e b off len cap:Nat)(lo hi:Option zA):Option zA:=
 ob (C.tys.get e) fun et=>ob (qO len cap lo hi) fun x=>
  bif Nat.ble x.2 cap&&Nat.ble x.1 x.2&&kJ H b et.size cap x.1 arr then some (.slice 0 1 0 0)else
  vB (Nat.ble x.2 cap&&jK H b et.size cap x.1 arr) (some (.slice b (bif Nat.beq cap x.1 then off else off+x.1*et.size) (x.2-x.1) (cap-x.1)))
def Ox(s:List Nat)(lo hi:Option zA):Option zA:=
 let n:=wB s
 ob (qO n n lo hi) fun x=>some (.str (cQ (kY s x.2) x.1))
def aK(C:fA)(H:pA)(ty:lD)(x:zA)(lo hi:Option zA):Option zA:=
 match x.asStr with
 | some s=>vB ty.desc.isString (Ox s lo hi)
 | none=>match x.asSlice with
  | some r=>ob ty.desc.asSlice fun e=>qN C H false e r.1 r.2.1 r.2.2.1 r.2.2.2 lo hi
  | none=>match x.asPtr with
   | some p=>ob ty.desc.asArr fun a=>qN C H true a.2 p.1 p.2 a.1 a.1 lo hi
   | none=>vB (Nat.beq x.tag 5) (ob ty.desc.asSlice fun e=>ob (C.tys.get e) fun _=>ob (qO 0 0 lo hi) fun _=>some .nilslice)
def Em(cells:List zA)(off size:Nat)(v:zA):Option (List zA):=
 let vc:=v.cells
 let n:=wB vc
 vB (Nat.beq n size&&Nat.ble (off+n) (wB cells)) (some (tE (kY cells off) (tE vc (cQ cells (off+n)))))
def xR(place:Nat->Option (Nat × Nat)):List (Nat × zA)->List zA->Option (List zA)
 | [],cells=>some cells
 | p::rest,cells=>ob (place p.1) fun q=>ob (Em cells q.1 q.2 p.2) fun cells=>xR place rest cells
def kT(d:fD):Bool:=Nat.ble d.tag 2
def keyTag(v:zA):Nat:=v.tag
def Eb(d:fD)(v:zA):Bool:=Nat.beq d.tag (keyTag v)
def tZ(C:fA):List (Nat × Nat × Nat)->Nat->Bool
 | [],_=>true
 | f::fs,i=>bif Nat.beq f.1 i then(match C.tys.get f.2.1 with
  | some ty=>bif kT ty.desc then tZ C fs (i+1)else false
  | none=>false)else false
def lT(C:fA)(ty:lD):Bool:=bif kT ty.desc then true else match ty.desc.asStruct with
 | some fs=>bif ty.eqOk then tZ C fs 0 else false
 | none=>false
def rZ(C:fA):List (Nat × Nat × Nat)->List zA->Bool
 | [],[]=>true
 | f::fs,v::l=>(match C.tys.get f.2.1 with
  | some ty=>bif Eb ty.desc v then rZ C fs l else false
  | none=>false)
 | _,_=>false
def bQ(C:fA)(ty:lD)(v:zA):Bool:=bif kT ty.desc then Eb ty.desc v else match ty.desc.asStruct with
 | some fs=>(match v.asAgg with
  | some l=>rZ C fs l
  | none=>false)
 | none=>false
def dP(a b:zA):Option Bool:=
 match a.asIntK with
 | some x=>ob b.asIntK fun y=>vB (bO x.1 y.1) (some (cA x.2 y.2))
 | none=>match a.asStr with
  | some x=>ob b.asStr fun y=>some (wH x y)
  | none=>Ia a b
def mT:List zA->List zA->Option Bool
 | [],[]=>some true
 | a::x,b::y=>ob (dP a b) fun r=>ob (mT x y) fun s=>some (r&&s)
 | _,_=>none
def oI(a b:zA):Option Bool:=
 match a.asAgg with
 | some x=>ob b.asAgg fun y=>mT x y
 | none=>dP a b
def gJ(k:zA):List (zA × zA)->Option (Option zA)
 | []=>some none
 | e::l=>ob (oI k e.1) fun r=>bif r then some (some e.2)else gJ k l
def jL(k v:zA):List (zA × zA)->Option (List (zA × zA))
 | []=>some [(k,v)]
 | e::l=>ob (oI k e.1) fun r=>bif r then some ((k,v)::l)else ob (jL k v l) fun l=>some (e::l)
abbrev fJ:=fA->vD->pA->Option zA
def eY:fJ:=fun _ _ _=>none
def iW(x:Operand):fJ:=fun _ e _=>ev x e
def Lv(c a b:Operand):fJ:=fun _ e _=>ob (ev c e) fun c=>ob c.asBool fun c=>bif c then ev a e else ev b e
def bU(t:Nat)(a:Operand):fJ:=fun C e H=>ob (ev a e) fun v=>ob v.asPtr fun p=>ob (C.tys.get t) fun ty=>ob (rD H p.1) fun c=>qS ty c.1 p.2
def dY (x:Operand):fJ:=fun _ e _=>ob (ev x e) fun v=>vB (Nat.beq v.tag 4||Nat.beq v.tag 9) (some v)
def wV (op:BinOp)(t:Nat)(x y:Operand):fJ:=fun C e _=>ob (ev x e) fun a=>ob (ev y e) fun b=>(zN op).f C t x y a b
def lUn (op:UnOp)(x:Operand):fJ:=fun _ e _=>ob (ev x e) fun a=>(unA op).f a
def cO(s d:Nat)(x:Operand):fJ:=fun C e H=>ob (ev x e) fun a=>ob (C.tys.get s) fun s=>ob (C.tys.get d) fun d=>tR C s d a H
def Ar(t:Nat)(x:Operand):fJ:=fun C e _=>ob (C.tys.get t) fun ty=>vB (Nat.blt ty.desc.tag 9) (ob (ev x e) fun v=>some (.iface t v))
def Ra(f:Nat)(a b:Array Operand):fJ:=fun _ e _=>ob (vR a.toList e) fun a=>ob (vR b.toList e) fun b=>some (.func (.func f) a b)
structure LB where f:fJ
def As(fn:Fn)(a b:Array Operand):LB:=
 match fn with
 | .func f=>⟨Ra f a b⟩
 | _=>⟨eY⟩
def fY(t:Nat)(x:Operand)(lo hi:Option Operand):fJ:=fun C e H=>
 ob (ev x e) fun a=>ob (evo lo e) fun l=>ob (evo hi e) fun h=>ob (C.tys.get t) fun ty=>aK C H ty a l h
def Lu(t:Nat)(x:Operand)(lo hi mx:Option Operand):LB:=
 match mx with
 | none=>⟨fY t x lo hi⟩
 | some _=>⟨eY⟩
def yV(s:Nat)(x:Operand)(f:Nat):fJ:=fun C e _=>
 ob (C.tys.get s) fun ty=>ob ty.desc.asStruct fun fs=>ob (tD fs f) fun fd=>vB (!Nat.beq fd.2.2 0) (ob (ev x e) fun v=>ob v.asPtr fun p=>some (.ptr p.1 (p.2+fd.1)))
def Au(t:Nat)(x:Operand)(f:Nat):fJ:=fun C e _=>
 ob (C.tys.get t) fun ty=>ob ty.desc.asStruct fun fs=>ob (tD fs f) fun fd=>ob (ev x e) fun v=>ob v.asAgg fun l=>jP C fd.2.1 l fd.1
def aU(t:Nat)(x i:Operand):fJ:=fun C e _=>
 ob (C.tys.get t) fun ty=>ob (ev x e) fun v=>ob (ev i e) fun i=>ob i.asNat fun i=>
  match v.asSlice with
  | some s=>ob ty.desc.asSlice fun el=>ob (C.tys.get el) fun et=>vB (Nat.blt i s.2.2.1) (some (.ptr s.1 (s.2.1+i*et.size)))
  | none=>ob v.asPtr fun p=>ob ty.desc.asArr fun a=>ob (C.tys.get a.2) fun et=>vB (Nat.blt i a.1) (some (.ptr p.1 (p.2+i*et.size)))
def zV(t:Nat)(x i:Operand):fJ:=fun C e _=>
 ob (C.tys.get t) fun ty=>ob (ev x e) fun v=>ob (ev i e) fun i=>ob i.asNat fun i=>
  match v.asStr with
  | some s=>vB ty.desc.isString (ob (tD s i) fun b=>some (.int .u8 (.ofNat b)))
  | none=>ob v.asAgg fun l=>ob ty.desc.asArr fun a=>ob (C.tys.get a.2) fun et=>vB (Nat.blt i a.1) (jP C a.2 l (i*et.size))
def xV(t:Operand)(i:Nat):fJ:=fun _ e _=>ob (ev t e) fun v=>ob v.asTup fun l=>tD l i
def gW(t:Nat)(parts:Array (Nat × Operand)):fJ:=fun C e _=>
 ob (C.tys.get t) fun ty=>ob (evp parts.toList e) fun ps=>
  match ty.desc.asStruct with
  | some fs=>ob (xR (fun i=>ob (tD fs i) fun x=>some (x.1,x.2.2)) ps ty.zero) fun l=>some (.agg l)
  | none=>ob ty.desc.asArr fun a=>ob (C.tys.get a.2) fun et=>ob (xR (fun i=>some (i*et.size,et.size)) ps ty.zero) fun l=>some (.agg l)
def vV(x:Operand)(asserted:Nat)(ok:Bool):fJ:=fun C e _=>
 ob (C.tys.get asserted) fun ty=>vB (Nat.blt ty.desc.tag 9) (ob (ev x e) fun v=>
  match v.asIface with
  | some p=>bif Nat.beq p.1 asserted then some (bif ok then .tup [p.2,.bool true]else p.2)else vB ok (some (.tup [cV ty,.bool false]))
  | none=>vB (Nat.beq v.tag 12&&ok) (some (.tup [cV ty,.bool false])))
def oT(H:pA)(v:zA):Option (List (zA × zA)):=
 match v.asMap with
 | some b=>cJ H b
 | none=>vB (Nat.beq v.tag 7) (some [])
def cU(t:Nat)(x i:Operand)(ok:Bool):fJ:=fun C e H=>
 ob (C.tys.get t) fun ty=>ob ty.desc.asMap fun ke=>ob (C.tys.get ke.1) fun kty=>vB (lT C kty) (ob (C.tys.get ke.2) fun ety=>
  ob (ev x e) fun m=>ob (oT H m) fun es=>ob (ev i e) fun k=>vB (bQ C kty k) (ob (gJ k es) fun r=>
   match r with
   | some v=>some (bif ok then .tup [v,.bool true]else v)
   | none=>some (bif ok then .tup [cV ety,.bool false]else cV ety)))
def nT (H:pA)(ty:lD)(v:zA):Option Nat:=
 match v.asStr with
 | some s=>vB ty.desc.isString (some (wB s))
 | none=>match v.asSlice with
  | some s=>vB (Nat.beq ty.desc.tag 4) (some s.2.2.1)
  | none=>match ty.desc.asArr with
   | some a=>some a.1
   | none=>match v.asMap with
    | some b=>vB (Nat.beq ty.desc.tag 6) (ob (cJ H b) fun l=>some (wB l))
    | none=>vB ((Nat.beq ty.desc.tag 4&&Nat.beq v.tag 5)||(Nat.beq ty.desc.tag 6&&Nat.beq v.tag 7)) (some 0)
def eP (c:Call):fJ:=fun C e H=>
 ob (tD c.argTypes.toList 0) fun t=>ob (tD c.args.toList 0) fun x=>ob (C.tys.get t) fun ty=>ob (ev x e) fun v=>ob (nT H ty v) fun n=>some (.int .i64 (.ofNat n))
def two (c:Call)(e:vD):Option (zA × zA):=
 match c.args.toList with
 | [x,y]=>ob (ev x e) fun a=>ob (ev y e) fun b=>some (a,b)
 | _=>none
def dU (c:Call):fJ:=fun _ e _=>ob (two c e) fun p=>ob p.1.asIntK fun x=>ob p.2.asIntK fun y=>some (.int x.1 (bif jB x.2 y.2 then y.2 else x.2))
def eU (c:Call):fJ:=fun _ e _=>ob (two c e) fun p=>ob p.1.asIntK fun x=>ob p.2.asIntK fun y=>some (.int x.1 (bif jB y.2 x.2 then y.2 else x.2))
def Rb(c:Call):Builtin->LB
 | .len=>⟨eP c⟩
 | .max=>⟨dU c⟩
 | .min=>⟨eU c⟩
 | _=>⟨eY⟩
def nS(c:Call):Callee->LB
 | .builtin b=>Rb c b
 | _=>⟨eY⟩
def zic(c:Call):LB:=nS c c.callee
def fF:Op->LB
 | .move x=>⟨iW x⟩
 | .assign x=>⟨iW x⟩
 | .pick c a b=>⟨Lv c a b⟩
 | .load t a=>⟨bU t a⟩
 | .nilCheck x=>⟨dY x⟩
 | .binOp op t x y _=>⟨wV op t x y⟩
 | .unOp op _ x=>⟨lUn op x⟩
 | .convert s d x=>⟨cO s d x⟩
 | .makeInterface t x=>⟨Ar t x⟩
 | .makeFunc fn a b=>As fn a b
 | .slice t x lo hi mx=>Lu t x lo hi mx
 | .fieldAddr s x f=>⟨yV s x f⟩
 | .field t x f=>⟨Au t x f⟩
 | .indexAddr t x i=>⟨aU t x i⟩
 | .index t x i=>⟨zV t x i⟩
 | .extract t i=>⟨xV t i⟩
 | .build t ps=>⟨gW t ps⟩
 | .typeAssert x _ u ok=>⟨vV x u ok⟩
 | .lookup t x i ok=>⟨cU t x i ok⟩
 | .call c=>zic c
 | _=>⟨eY⟩
inductive zM where
 | val (v:zA) (H:pA)
 | enter (f:Nat) (args:List zA)
 | round (l:Nat) (args:List zA)
 | defer (d:zK)
 | panic (v:zA)
 | recover
 | fail
abbrev wQ:=fA->vD->pA->zM
structure HB where f:wQ
def fM (x:Option (zA × pA)):zM:=
 match x with
 | some p=>.val p.1 p.2
 | none=>.fail
def Ai (x:Option zM):zM:=
 match x with
 | some r=>r
 | none=>.fail
def lv (f:fJ):wQ:=fun C e H=>
 match f C e H with
 | some v=>.val v H
 | none=>.fail
def newBlk(H:pA)(b:qA):pA:=⟨H.next+1,H.t.set H.next b⟩
def lF(H:pA)(l:List zA)(loose:Option Lo):pA:=newBlk H (.cells (Tr.ofList l) (wB l) loose)
def setBlk(H:pA)(b:Nat)(x:qA):pA:=⟨H.next,H.t.set b x⟩
def uM (zero:List zA):Nat->List zA
 | 0=>[]
 | n+1=>tE zero (uM zero n)
def Aq(v:zA):Option Nat:=
 match v.asSlice with
 | some s=>some s.2.2.1
 | none=>match v.asStr with
  | some s=>some (wB s)
  | none=>vB (Nat.beq v.tag 5) (some 0)
def zX(l:List Nat):List zA:=l.map fun n=>zA.int .u8 (Int.ofNat n)
def cT(H:pA)(size n:Nat)(v:zA):Option (List zA):=
 match v.asSlice with
 | some s=>ob (rD H s.1) fun c=>c.1.many (n*size) s.2.1
 | none=>match v.asStr with
  | some s=>some (zX (kY s n))
  | none=>vB (Nat.beq v.tag 5) (some [])
def lJ(C:fA)(H:pA)(b off:Nat)(l:List zA):Option pA:=
 vB (!Nat.blt b C.base) (ob (rD H b) fun c=>
  vB (Nat.ble (off+wB l) c.2.1&&zD zA.one l) (some (setBlk H b (.cells (c.1.setMany l off) c.2.1 c.2.2))))
def mS(et:lD)(len cap n:Nat)(new:List zA):Bool:=
 Nat.blt (len+n+cap) 1000000000&&Nat.blt ((len+n+cap)*et.bytes) 1000000000&&Nat.blt et.bytes 1000000000 && !Nat.beq et.size 0&&Nat.beq (wB new) (n*et.size)&&Nat.beq (wB et.zero) et.size
def JH(et:lD):Bool:=match et.desc with | .int .u8=>true | _=>false
def vL(e:Nat)(et:lD):Lo:=bif Nat.beq et.size 1&&JH et then .ty e else .sz et.size
def eT(H:pA)(e:Nat)(et:lD)(n:Nat)(new:List zA):Option (zA × pA):=
 bif Nat.beq n 0 then some (.nilslice,H)else
  vB (mS et 0 0 n new) (some (.slice H.next 0 n n,lF H new (some (vL e et))))
def sV(C:fA)(H:pA)(et:lD)(n:Nat)(new:List zA)(s:Nat × Nat × Nat × Nat):Option (zA × pA):=
 match new with
 | []=>some (.slice s.1 s.2.1 (s.2.2.1+n) s.2.2.2,H)
 | _::_=>ob (lJ C H s.1 (s.2.1+s.2.2.1*et.size) new) fun H'=>some (.slice s.1 s.2.1 (s.2.2.1+n) s.2.2.2,H')
def Ei(H:pA)(e:Nat)(et:lD)(n:Nat)(new:List zA)(s:Nat × Nat × Nat × Nat)(c:Tr zA):Option (zA × pA):=
 ob (c.many (s.2.2.1*et.size) s.2.1) fun old=>some (.slice H.next 0 (s.2.2.1+n) (s.2.2.1+n),lF H (tE old new) (some (vL e et)))
def Hw(C:fA)(H:pA)(e:Nat)(et:lD)(n:Nat)(new:List zA)(s:Nat × Nat × Nat × Nat)(c:Tr zA)(m:Nat)(lo:Lo):Option (zA × pA):=
 vB (Nat.beq s.2.1 0&&loEq lo (vL e et)&&Nat.ble (s.2.2.1*et.size) m&&Nat.ble m ((s.2.2.1+n)*et.size)&&zD zA.one new && !Nat.blt s.1 C.base)
  (some (.slice H.next 0 (s.2.2.1+n) (s.2.2.1+n),⟨H.next+1,(H.t.del s.1).set H.next (.cells (c.setMany new (s.2.2.1*et.size)) ((s.2.2.1+n)*et.size) (some lo))⟩))
def rV(C:fA)(H:pA)(e:Nat)(et:lD)(n:Nat)(new:List zA)(s:Nat × Nat × Nat × Nat):Option (zA × pA):=
 vB (!(Nat.beq s.2.1 1&&Nat.beq s.2.2.2 0)) (vB (mS et s.2.2.1 s.2.2.2 n new) (ob (rD H s.1) fun c=>
  match c.2.2 with
  | none=>Ei H e et n new s c.1
  | some lo=>Hw C H e et n new s c.1 c.2.1 lo))
def pR(C:fA)(H:pA)(ty:lD)(s x:zA):Option (zA × pA):=
 ob ty.desc.asSlice fun e=>ob (C.tys.get e) fun et=>ob (Aq x) fun n=>ob (cT H et.size n x) fun new=>
  match s.asSlice with
  | some s=>bif Nat.ble (s.2.2.1+n) s.2.2.2 then sV C H et n new s else rV C H e et n new s
  | none=>vB (Nat.beq s.tag 5) (eT H e et n new)
def isBld(C:fA)(t:Nat):Bool:=
 match ob (C.tys.get t) fun ty=>ob ty.desc.asStruct fun fs=>ob (tD fs 0) fun f=>ob (C.tys.get f.2.1) fun tf=>some tf.desc with
 | some (.ptr e)=>Nat.beq e t
 | _=>false
def lL(C:fA)(t:Nat):Option Lo:=
 bif isBld C t then some (.ty t)else
 match ob (C.tys.get t) fun ty=>ob ty.desc.asStruct fun fs=>ob (tD fs 0) fun f=>some (isBld C f.2.1)with
 | some true=>some (.ty t)
 | _=>none
def Ba(t:Nat):wQ:=fun C _ H=>fM (ob (C.tys.get t) fun ty=>some (.ptr H.next 0,lF H ty.zero (lL C t)))
def wZ (t:Nat)(x:Operand):wQ:=fun C e H=>fM (ob (ev x e) fun v=>some (.ptr H.next 0,lF H v.cells (lL C t)))
def jY (C:fA):Op->Option Lo
 | .alloc t=>lL C t
 | .box t _=>lL C t
 | _=>none
def Az(t len:Nat)(parts:Array (Nat × Operand)):wQ:=fun C e H=>fM (ob (C.tys.get t) fun ty=>ob ty.desc.asSlice fun el=>ob (C.tys.get el) fun et=>
 vB (Nat.blt (len*et.size) 1000000&&Nat.beq (wB et.zero) et.size) (ob (evp parts.toList e) fun ps=>ob (xR (fun i=>some (i*et.size,et.size)) ps (uM et.zero len)) fun l=>some (.slice H.next 0 len len,lF H l none)))
def Mf(t:Nat)(a x:Operand):wQ:=fun C e H=>fM (ob (C.tys.get t) fun ty=>ob (ev a e) fun a=>ob a.asPtr fun p=>ob (ev x e) fun v=>
 let l:=v.cells
 vB (Nat.beq (wB l) ty.size) (ob (lJ C H p.1 p.2 l) fun H'=>some (kD,H')))
def Mg(r:Option Operand):wQ:=fun _ _ H=>
 match r with
 | none=>.val (.map H.next) (newBlk H (.map []))
 | some _=>.fail
def Ay(t:Nat)(m k x:Operand):wQ:=fun C e H=>fM (ob (C.tys.get t) fun ty=>ob ty.desc.asMap fun ke=>ob (C.tys.get ke.1) fun kty=>vB (lT C kty)
 (ob (ev m e) fun m=>ob m.asMap fun b=>vB (!Nat.blt b C.base) (ob (cJ H b) fun l=>ob (ev k e) fun k=>vB (bQ C kty k) (ob (ev x e) fun v=>ob (jL k v l) fun l'=>some (kD,setBlk H b (.map l'))))))
def Yl(t:Nat)(l c:Operand):wQ:=fun C e H=>fM (ob (C.tys.get t) fun ty=>ob ty.desc.asSlice fun el=>ob (C.tys.get el) fun et=>
 ob (ev l e) fun l=>ob l.asNat fun l=>ob (ev c e) fun c=>ob c.asNat fun c=>
  vB (Nat.ble l c&&Nat.blt c 1000000&&Nat.blt (c*et.bytes) 1000000000&&Nat.beq (wB et.zero) et.size) (some (.slice H.next 0 l c,lF H (uM et.zero c) none)))
def dW(s d:Nat)(x:Operand):wQ:=fun C e H=>
 match cO s d x C e H with
 | some v=>.val v H
 | none=>fM (ob (C.tys.get s) fun _=>ob (C.tys.get d) fun ty=>ob ty.desc.asSlice fun el=>ob (C.tys.get el) fun et=>ob et.desc.asInt fun k=>vB (bO k .u8) (ob (ev x e) fun v=>ob v.asStr fun l=>
   some (.slice H.next 0 (wB l) (wB l),lF H (zX l) (some (.ty el)))))
def Yk(x:Operand):wQ:=fun _ e _=>Ai (ob (ev x e) fun v=>ob v.asIface fun p=>some (.panic (.iface p.1 p.2)))
def oU(f:Operand)(args:Array Operand)(e:vD):Option (AFn × List zA × List zA):=
 ob (ev f e) fun v=>ob v.asFunc fun p=>ob (vR args.toList e) fun as=>some (p.1,tE p.2.1 as,p.2.2)
def Rm(c:Call):Callee->HB
 | .value f=>⟨fun _ e _=>Ai (ob (oU f c.args e) fun p=>some (.defer ⟨some p.1,0,tE p.2.1 p.2.2⟩))⟩
 | _=>⟨fun _ _ _=>.fail⟩
def hDefer(c:Call):HB:=Rm c c.callee
def hO(g:List zA->pA->Option zA):List zA->pA->Option (zA × pA):=fun args H=>ob (g args H) fun v=>some (v,H)
def Ij(_:fA)(H:pA)(args:List zA)(f:Nat):Option (List zA->pA->Option (zA × pA))->zM
 | some g=>match g args H with
  | some p=>.val p.1 p.2
  | none=>.fail
 | none=>.enter f args
def NA(l:Nat)(args:List zA):List zA->zM
 | []=>.round l args
 | _::_=>.fail
def zjm(C:fA)(H:pA)(args cap:List zA):AFn->zM
 | .func f=>Ij C H (tE args cap) f (C.prims.get f)
 | .yld l=>NA l args cap
def Eh(f:Operand)(args:Array Operand):wQ:=fun C e H=>Ai (ob (oU f args e) fun p=>some (zjm C H p.2.1 p.2.2 p.1))
def Hv(c:Call):wQ:=fun C e H=>fM (ob (tD c.argTypes.toList 0) fun t=>ob (C.tys.get t) fun ty=>ob (tD c.argTypes.toList 1) fun u=>ob (C.tys.get u) fun uty=>
 vB (!Nat.beq uty.desc.tag 1) (ob (two c e) fun p=>pR C H ty p.1 p.2))
def ziq:wQ:=fun _ _ _=>.fail
def zdk:wQ:=fun _ _ _=>.recover
def zdl(c:Call):Builtin->HB
 | .append=>⟨Hv c⟩
 | .len=>⟨lv (eP c)⟩
 | .max=>⟨lv (dU c)⟩
 | .min=>⟨lv (eU c)⟩
 | .recover=>⟨zdk⟩
 | _=>⟨ziq⟩
def Hu(c:Call):Callee->HB
 | .value f=>⟨Eh f c.args⟩
 | .builtin b=>zdl c b
 | _=>⟨ziq⟩
def hCall(c:Call):HB:=Hu c c.callee
def lvB (b:LB):HB:=⟨lv b.f⟩
def qG:Op->HB
 | .move x=>⟨lv (iW x)⟩
 | .assign x=>⟨lv (iW x)⟩
 | .pick c a b=>⟨lv (Lv c a b)⟩
 | .load t a=>⟨lv (bU t a)⟩
 | .nilCheck x=>⟨lv (dY x)⟩
 | .binOp op t x y _=>⟨lv (wV op t x y)⟩
 | .unOp op _ x=>⟨lv (lUn op x)⟩
 | .makeInterface t x=>⟨lv (Ar t x)⟩
 | .makeFunc fn a b=>lvB (As fn a b)
 | .slice t x lo hi mx=>lvB (Lu t x lo hi mx)
 | .fieldAddr s x f=>⟨lv (yV s x f)⟩
 | .field t x f=>⟨lv (Au t x f)⟩
 | .indexAddr t x i=>⟨lv (aU t x i)⟩
 | .index t x i=>⟨lv (zV t x i)⟩
 | .extract t i=>⟨lv (xV t i)⟩
 | .build t ps=>⟨lv (gW t ps)⟩
 | .typeAssert x _ u ok=>⟨lv (vV x u ok)⟩
 | .lookup t x i ok=>⟨lv (cU t x i ok)⟩
 | .convert s d x=>⟨dW s d x⟩
 | .alloc t=>⟨Ba t⟩
 | .box t x=>⟨wZ t x⟩
 | .buildSlice t len ps=>⟨Az t len ps⟩
 | .store t a x=>⟨Mf t a x⟩
 | .makeMap _ r=>⟨Mg r⟩
 | .insert t m k x=>⟨Ay t m k x⟩
 | .mapUpdate t m k x=>⟨Ay t m k x⟩
 | .makeSlice t l c=>⟨Yl t l c⟩
 | .panic x=>⟨Yk x⟩
 | .defer c=>hDefer c
 | .call c=>hCall c
 | _=>⟨ziq⟩
structure GB where f:Tm->Option Bool
def zgs(_:Tm):Option Bool:=some true
def Jj(d:Option Nat)(w:Bool)(tm:Tm):Option Bool:=
 ob d fun d=>ob (tm.get d) fun v=>match v.asBool with
  | some b=>some (bEq b w)
  | none=>some false
def Jk(g:Option (Nat × Bool))(all:Array Oper):GB:=
 match g with
 | none=>⟨zgs⟩
 | some jw=>⟨Jj (ob (tD all.toList jw.1) fun o=>o.dst) jw.2⟩
def aF(g:Option (Nat × Bool))(all:Array Oper)(tm:Tm):Option Bool:=(Jk g all).f tm
structure PB where f:Nat->Tm->zA->Tm
def Pp(d n:Nat)(tm:Tm)(v:zA):Tm:=bif Nat.blt d n then tm.set d v else tm
def putNo(_:Nat)(tm:Tm)(_:zA):Tm:=tm
def putB (dst:Option Nat):PB:=
 match dst with
 | some d=>⟨Pp d⟩
 | none=>⟨putNo⟩
def putA (n:Nat)(tm:Tm)(dst:Option Nat)(v:zA):Tm:=(putB dst).f n tm v
def kX.running:kX->Bool | .run=>true | _=>false
def iE.blockId:iE->Option Nat | .inBlock id=>some id | _=>none
def jS(id:Nat):List iE->Option (List iE)
 | []=>none
 | x::k=>match x.blockId with
  | some i=>bif Nat.beq i id then some k else jS id k
  | none=>jS id k
def zgc(all:Array Oper)(rest:List Oper)(k:List iE)(tm:Tm)(R:nK)(v:zA):Option lC:=
 match rest with
 | o::rest=>some ⟨.ops all rest::k,putA R.n tm o.dst v,R⟩
 | []=>none
def Yu(all:Array Oper)(old:Tm)(olds:List (Nat × List Nat))(stages:List fG)(k:List iE)(tm:Tm)(R:nK)(v:zA):Option lC:=
 match stages with
 | st::stages=>ob (tD all.toList st.heavy) fun o=>some ⟨.reg all old olds (⟨all.size,st.lights,st.again⟩::stages)::k,putA R.n tm o.dst v,R⟩
 | []=>none
def zdu(l:Nat)(k:List iE)(tm:Tm)(R:nK)(_:zA):Option lC:=some ⟨.endRange l::k,tm,R⟩
def zdv(k:List iE)(tm:Tm)(R:nK)(_:zA):Option lC:=some ⟨k,tm,R⟩
def ziw(_:List iE)(_:Tm)(_:nK)(_:zA):Option lC:=none
def Rr:iE->List iE->Tm->nK->zA->Option lC
 | .ops all rest=>zgc all rest
 | .reg all old olds stages=>Yu all old olds stages
 | .inRange l=>zdu l
 | .beginRound=>zdv
 | _=>ziw
def wI(fr:lC)(v:zA):Option lC:=
 match fr.todo with
 | []=>none
 | x::k=>bif fr.R.mode.running then Rr x k fr.tm fr.R v else none
def bM(C:fA)(f:Nat)(args:List zA)(deferred:Bool):Option lC:=
 ob (C.fns.get f) fun fn=>ob fn.body fun c=>ob (C.ks.get f) fun k=>vB (Nat.ble (wB args) k&&Nat.ble (wB args) fn.ntmps) (some ⟨[.code c],⟨k,Tr.ofList args,[]⟩,⟨f,fn.ntmps,[],.run,deferred,none⟩⟩)
def zY(n:Nat):List Nat->List zA->Tm->Option (Tm)
 | [],[],tm=>some tm
 | p::ps,a::as,tm=>zY n ps as (putA n tm (some p) a)
 | _,_,_=>none
def Tx:List Operand->List Nat
 | []=>[]
 | .tmp t::l=>t::Tx l
 | _::l=>Tx l
def bH(o:Op):List Nat:=Tx o.operands.toList
def rF(i:Nat):List (Nat × List Nat)->List Nat
 | []=>[]
 | x::r=>bif Nat.beq i x.1 then x.2 else rF i r
def same:Nat->zA->zA->Bool
 | _,.bool a,.bool b=>bEq a b
 | _,.int j a,.int k b=>bO j k&&cA a b
 | _,.str a,.str b=>wH a b
 | _,.nilptr,.nilptr=>true
 | _,.ptr a b,.ptr c d=>Nat.beq a c&&Nat.beq b d
 | _,.nilslice,.nilslice=>true
 | _,.slice a b c d,.slice e f g h=>Nat.beq a e&&Nat.beq b f&&Nat.beq c g&&Nat.beq d h
 | _,.nilmap,.nilmap=>true
 | _,.map a,.map b=>Nat.beq a b
 | _,.nilfunc,.nilfunc=>true
 | _,.niliface,.niliface=>true
 | d+1,.agg a,.agg b=>sames d a b
 | d+1,.tup a,.tup b=>sames d a b
 | _,_,_=>false
where
 sames (d:Nat):List zA->List zA->Bool
  | [],[]=>true
  | a::x,b::y=>same d a b&&sames d x y
  | _,_=>false
def eQ(C:fA)(H:pA)(all:Array Oper)(n:Nat)(old:Tm)(olds:List (Nat × List Nat)):List Nat->Tm->Option (Tm)
 | [],tm=>some tm
 | i::l,tm=>ob (tD all.toList i) fun o=>ob (aF o.guard all tm) fun w=>ob (bif w then(fF o.op).f C (.mixed tm old (rF i olds) (bH o.op)) H else some kD) fun v=>
   eQ C H all n old olds l (putA n tm o.dst v)
def Bn(C:fA)(H:pA)(all:Array Oper)(old:Tm)(olds:List (Nat × List Nat))(tm:Tm):List Nat->Bool
 | []=>true
 | i::l=>match (ob (tD all.toList i) fun o=>ob o.dst fun d=>ob (aF o.guard all tm) fun w=>bif w then(ob ((fF o.op).f C (.mixed tm old (rF i olds) (bH o.op)) H) fun v=>ob (tm.get d) fun u=>some (same 10 v u))else some true)with
  | some true=>Bn C H all old olds tm l
  | _=>false
def kX.chain:kX->Option (List Bv) | .panicking c=>some c | _=>none
def Ie:List Oper->Tr zA->Tr zA
 | [],t=>t
 | o::l,t=>match o.dst with
  | some j=>Ie l (t.del j)
  | none=>Ie l t
def Lt(todo:List iE)(tm:Tm):Tm:=
 match todo with
 | .reg all _ _ _::_=>⟨tm.k,Ie all.toList tm.v,[]⟩
 | _=>tm
def Po(fr:lC)(l:List Bv):lC:=
 ⟨[],Lt fr.todo fr.tm,⟨fr.R.fn,fr.R.n,fr.R.defers,.panicking (match fr.R.mode.chain with | some c=>tE l c | none=>l),fr.R.deferred,fr.R.roundOf⟩⟩
def gL(x:Option kR)(why:Nat):bF:=
 match x with
 | some s=>.next s
 | none=>.fail why
def eK(H:pA)(l:Nat):Option vQ:=vB (Nat.ble (nat_lit 256) l) (ob (H.t.get l) qA.asLoop)
def bW(H:pA)(l:Nat):Option (Option (List zK)):=vB (Nat.ble (nat_lit 256) l) (ob (H.t.get l) qA.asDeferred)
def Di (v:zA)(H':pA)(_:fA)(fr:lC)(cs:List lC)(_:pA):bF:=gL (ob (wI fr v) fun fr=>some ⟨fr,cs,H'⟩) 1
def Kw(f:Nat)(args:List zA)(C:fA)(fr:lC)(cs:List lC)(H:pA):bF:=gL (ob (bM C f args false) fun g=>some ⟨g,fr::cs,H⟩) 2
def Kv(l:Nat)(args:List zA)(_:fA)(fr:lC)(cs:List lC)(H:pA):bF:=
 gL (ob (eK H l) fun r=>ob (zY r.n r.params args r.tm) fun tm=>some ⟨⟨[.code r.assign,.beginRound,.code r.body],tm,⟨r.fn,r.n,[],.run,false,some l⟩⟩,fr::cs,H⟩) 3
def Wi(d:zK)(_:fA)(fr:lC)(cs:List lC)(H:pA):bF:=
 gL (match fr.R.roundOf with
  | none=>ob (wI fr kD) fun g=>some ⟨⟨g.todo,g.tm,⟨g.R.fn,g.R.n,d::g.R.defers,g.R.mode,g.R.deferred,g.R.roundOf⟩⟩,cs,H⟩
  | some _=>none) 4
def zfe(v:zA)(_:fA)(fr:lC)(cs:List lC)(H:pA):bF:=.next ⟨Po fr [⟨v,false⟩],cs,H⟩
def Wh(_:fA)(fr:lC)(cs:List lC)(H:pA):bF:=
 gL (match fr.R.roundOf,fr.R.deferred,cs with
  | none,true,c::rest=>match c.R.mode with
   | .panicking (⟨v,false⟩::older)=>ob (wI fr v) fun fr=>some ⟨fr,⟨c.todo,c.tm,⟨c.R.fn,c.R.n,c.R.defers,.panicking (⟨v,true⟩::older),c.R.deferred,c.R.roundOf⟩⟩::rest,H⟩
   | .panicking _=>none
   | _=>ob (wI fr .niliface) fun fr=>some ⟨fr,cs,H⟩
  | _,_,_=>none) 5
def rFail(_:fA)(_:lC)(_:List lC)(_:pA):bF:=.fail 6
def Iq:zM->fA->lC->List lC->pA->bF
 | .val v H'=>Di v H'
 | .enter f args=>Kw f args
 | .round l args=>Kv l args
 | .defer d=>Wi d
 | .panic v=>zfe v
 | .recover=>Wh
 | .fail=>rFail
def Ag(C:fA)(H:pA)(tm:Tm):ResultVar->Option zA
 | .tmp t=>tm.get t
 | .cell a t=>ob (ob (tm.get a) zA.asPtr) fun p=>ob (C.tys.get t) fun ty=>ob (rD H p.1) fun c=>qS ty c.1 p.2
def wY(C:fA)(H:pA)(tm:Tm)(l:List ResultVar):Option (List zA):=oH (Ag C H tm) l
def Vy(jump:Option Code):Bool:=
 match jump with
 | none=>true
 | some .ret=>true
 | _=>false
def Kl(fr:lC)(m:kX):lC:=⟨fr.todo,fr.tm,⟨fr.R.fn,fr.R.n,fr.R.defers,m,fr.R.deferred,fr.R.roundOf⟩⟩
def pS(jump:Option Code)(_:fA)(fr:lC)(cs:List lC)(H:pA):bF:=
 gL (match fr.R.roundOf with
  | none=>vB (Vy jump) (some ⟨Kl fr .returning,cs,H⟩)
  | some l=>ob (eK H l) fun r=>match cs with
   | c::rest=>vB (!fr.R.deferred) <| ob (wI c (.bool jump.isNone)) fun c=>some ⟨c,rest,setBlk H l (.loop ⟨if jump.isNone then .ready else .done,jump,r.fn,r.n,r.tm,r.params,r.assign,r.body,r.defers⟩)⟩
   | []=>none) 7
abbrev yN:=fA->List iE->Tm->nK->List lC->pA->bF
structure XB where f:yN
def xGo (todo:List iE)(tm:Tm)(R:nK)(cs:List lC)(H:pA):bF:=.next ⟨⟨todo,tm,R⟩,cs,H⟩
def Cc:yN:=fun _ k tm R cs H=>xGo k tm R cs H
def Jf(c:Operand)(x y:Code):yN:=fun _ k tm R cs H=>
 match ob (ev c (.now tm)) zA.asBool with
 | some b=>xGo (.code (bif b then x else y)::k) tm R cs H
 | none=>.fail 8
def zeo(id:Nat)(c:Code):yN:=fun _ k tm R cs H=>xGo (.code c::.inBlock id::k) tm R cs H
def zgo(c:Code):yN:=fun _ k tm R cs H=>xGo (.code c::.inLoop c::k) tm R cs H
def xScope(c:Code):yN:=fun _ k tm R cs H=>xGo (.code c::.inScope c::k) tm R cs H
def bZ(id:Nat):yN:=fun C k tm R cs H=>
 match jS id k with
 | some k'=>xGo k' tm R cs H
 | none=>pS (some (.exit id)) C ⟨.code (.exit id)::k,tm,R⟩ cs H
def xRet:yN:=fun C k tm R cs H=>pS (some .ret) C ⟨.code .ret::k,tm,R⟩ cs H
def zgp:yN:=fun _ _ _ _ _ _=>.fail 9
def Ff(e:Edge):Bool:=
 match e.ground with
 | .textOnly _=>false
 | .gcOnly _=>false
 | _=>true
def tb (m i:Nat):Bool:=Nat.beq (Nat.mod (Nat.shiftRight m i) (nat_lit 2)) (nat_lit 1)
def mZ(i:Nat):Nat:=Nat.shiftLeft (nat_lit 1) i
def pJ (t:Tr Nat)(i:Nat):Nat:=
 match t.get i with
 | some m=>m
 | none=>0
def Hh(t:Tr Nat):List Edge->Nat
 | []=>0
 | e::l=>bif Ff e then Nat.lor (Nat.lor (mZ e.on) (pJ t e.on)) (Hh t l)else Hh t l
def zju:List Oper->Nat->Tr Nat->Tr Nat
 | [],_,t=>t
 | o::r,i,t=>zju r (i+1) (t.set i (Hh t o.after.toList))
def Qb:List Oper->Nat->Bool
 | [],_=>true
 | o::r,i=>bif zD (fun e=>bif Ff e then Nat.blt e.on i else true) o.after.toList then Qb r (i+1)else false
def Fq:List Oper->Nat->Tr Nat->Option (Tr Nat)
 | [],_,t=>some t
 | o::r,i,t=>match o.dst with
  | none=>Fq r (i+1) t
  | some d=>match t.get d with
   | none=>Fq r (i+1) (t.set d i)
   | some _=>none
def aH{α:Type}:Option α->Bool | none=>true | some _=>false
def Wu(wr anc:Tr Nat)(i:Nat)(olds:List Nat)(t:Nat):Bool:=
 match wr.get t with
 | none=>true
 | some j=>bif aI t olds then(bif Nat.beq j i then true else tb (pJ anc j) i)else tb (pJ anc i) j
def Wv(anc:Nat):Option (Nat × Bool)->Bool
 | none=>true
 | some g=>tb anc g.1
def Pz(wr anc:Tr Nat)(olds:List (Nat × List Nat)):List Oper->Nat->Bool
 | [],_=>true
 | o::r,i=>bif Wv (pJ anc i) o.guard then(bif zD (Wu wr anc i (rF i olds)) (bH o.op)then Pz wr anc olds r (i+1)else false)else false
def wT:Op->Bool
 | .move _=>true
 | .assign _=>true
 | .pick _ _ _=>true
 | .nilCheck _=>true
 | .binOp _ _ _ _ _=>true
 | .unOp _ _ _=>true
 | .makeInterface _ _=>true
 | .makeFunc _ _ _=>true
 | .fieldAddr _ _ _=>true
 | .field _ _ _=>true
 | .indexAddr _ _ _=>true
 | .index _ _ _=>true
 | .extract _ _=>true
 | .build _ _=>true
 | .typeAssert _ _ _ _=>true
 | _=>false
def eX (D:Nat)(o:Oper):Bool:=zD (fun e=>bif Ff e then tb D e.on else true) o.after.toList
def Qa(h D:Nat):List Oper->Nat->Bool
 | [],_=>true
 | o::r,i=>bif (bif tb D i then true else bif Nat.beq i h then true else !eX D o)then Qa h D r (i+1)else false
def xL:Op->Bool
 | .alloc _=>true
 | .box _ _=>true
 | .buildSlice _ _ _=>true
 | _=>false
def Qf(m D:Nat)(again:List Nat):List Oper->Nat->Bool
 | [],_=>true
 | o::r,i=>bif (bif tb D i then(bif tb m i then true else bif wT o.op then true else bif xL o.op then true else aI i again)else true)then Qf m D again r (i+1)else false
def nW(ops:List Oper)(i D:Nat):Option Nat:=
 ob (tD ops i) fun o=>vB (bif tb D i then false else eX D o) (some (Nat.lor D (mZ i)))
def iP(ops:List Oper):List Nat->Nat->Option Nat
 | [],D=>some D
 | i::l,D=>ob (nW ops i D) fun D=>iP ops l D
def Qc(D:Nat):List Oper->Nat->Bool
 | [],_=>true
 | _::r,i=>bif tb D i then Qc D r (i+1)else false
def zim:Option Oper->Bool
 | some o=>xL o.op
 | none=>false
def okG (ops:List Oper)(D:Nat):List Nat->Nat->Option Nat
 | [],E=>some E
 | i::l,E=>ob (tD ops i) fun o=>vB (!tb E i&&eX D o&&aH o.dst) (okG ops D l (Nat.lor E (mZ i)))
def Py(anc:Tr Nat)(D1:Nat)(G:List Nat):List Oper->Nat->Bool
 | [],_=>true
 | o::r,i=>bif (bif tb D1 i then true else bif zD (fun g=>tb (pJ anc i) g) G then true else !eX D1 o)then Py anc D1 G r (i+1)else false
def Lz(o:Op):Bool:=
 match o with
 | .call c=>(match c.callee with
  | .builtin .len=>true
  | _=>false)
 | _=>false
def Qe(anc:Tr Nat)(D:Nat)(G:List Nat):List Oper->Nat->Bool
 | [],_=>true
 | o::r,i=>bif (bif tb D i then(bif wT o.op then true else bif xL o.op then true else bif Lz o.op then true else zD (fun g=>tb (pJ anc g) i) G)else true)then Qe anc D G r (i+1)else false
def FU(ops:List Oper)(anc:Tr Nat)(D:Nat)(st:fG):Option Nat:=
 ob (okG ops D st.again D) fun D1=>vB (Py anc D1 st.again ops 0&&Qe anc D st.again ops 0) (iP ops st.lights D1)
def iJ(ops:List Oper)(anc:Tr Nat):List fG->Nat->Bool
 | [],D=>Qc D ops 0
 | st::r,D=>bif Nat.blt (wB ops) st.heavy then(bif Nat.blt (wB ops+wB ops) st.heavy then(match FU ops anc D st with
   | some D=>iJ ops anc r D
   | none=>false)else bif zim (tD ops (Nat.sub st.heavy (Nat.succ (wB ops))))then
   (match ob (nW ops (Nat.sub st.heavy (Nat.succ (wB ops))) D) fun D=>iP ops st.lights D with
   | some D=>iJ ops anc r D
   | none=>false)else false)else bif Qa st.heavy D ops 0 then(bif Qf (pJ anc st.heavy) D st.again ops 0 then
   (match ob (nW ops st.heavy D) fun D=>iP ops st.lights D with
   | some D=>iJ ops anc r D
   | none=>false)else false)else false
def Wt(ops:List Oper)(p:Plan):Bool:=
 bif Qb ops 0 then
  (match Fq ops 0 .leaf with
  | none=>false
  | some wr=>
   (fun anc=>bif Pz wr anc p.olds ops 0 then(match iP ops p.first 0 with
    | some D=>iJ ops anc p.stages D
    | none=>false)else false) (zju ops 0 .leaf))else false
structure OkB where b:Bool
def qT(all:Array Oper)(p:Plan):Bool:=(OkB.mk (Wt all.toList p)).b
def Je(id:Nat)(all:Array Oper):yN:=fun C k tm R cs H=>
 gL (ob (ob (C.plans.get R.fn) fun t=>t.get id) fun p=>vB (qT all p) <| ob (eQ C H all R.n tm.cut p.olds p.first tm.cut) fun tm'=>some ⟨⟨.reg all tm.cut p.olds p.stages::k,tm',R⟩,cs,H⟩) 10
def zM.asVal:zM->Option (zA × pA) | .val v H=>some (v,H) | _=>none
def pU(C:fA)(all:Array Oper)(k:List iE)(R:nK)(cs:List lC)(l:List Oper):Tm->pA->bF:=
 List.rec (motive:=fun _=>Tm->pA->bF) (fun tm H=>xGo k tm R cs H)
  (fun o rest g tm H=>
   match aF o.guard all tm with
   | some w=>Bool.rec (motive:=fun _=>bF) (g (putA R.n tm o.dst kD) H)
     (let r:=(qG o.op).f C (.now tm) H
     match r.asVal with
     | some p=>g (putA R.n tm o.dst p.1) p.2
     | none=>Iq r C ⟨.ops all (o::rest)::k,tm,R⟩ cs H) w
   | none=>.fail 20) l
def xOps (all:Array Oper)(rest:List Oper):yN:=fun C k tm R cs H=>pU C all k R cs rest tm H
def zgn(id:Nat)(all:Array Oper)(draw:Bool):XB:=
 match draw with
 | true=>⟨Je id all⟩
 | false=>⟨fun C k tm R cs H=>pU C all k R cs all.toList tm.cut H⟩
def Nk(all:Array Oper)(old:Tm)(olds:List (Nat × List Nat))(st:fG)(stages:List fG)(o:Oper):yN:=fun C k tm R cs H=>
 match aF o.guard all tm with
 | some w=>Iq (bif w then(qG o.op).f C (.mixed tm old (rF st.heavy olds) (bH o.op)) H else .val kD H) C ⟨.reg all old olds (st::stages)::k,tm,R⟩ cs H
 | none=>.fail 21
def Jc(all:Array Oper)(old:Tm)(olds:List (Nat × List Nat))(st:fG)(stages:List fG):yN:=fun C k tm R cs H=>
 gL (vB (Bn C H all old olds tm st.again) (ob (eQ C H all R.n old olds st.lights tm) fun tm=>some ⟨⟨.reg all old olds stages::k,tm,R⟩,cs,H⟩)) 11
def Nm(all:Array Oper)(old:Tm)(olds:List (Nat × List Nat))(st:fG)(stages:List fG)(i:Nat):yN:=fun C k tm R cs H=>
 gL (ob (tD all.toList i) fun o=>ob (aF o.guard all tm) fun w=>vB (w&&aH (jY C o.op)) (ob ((qG o.op).f C (.mixed tm old (rF i olds) (bH o.op)) H).asVal fun p=>
  ob (eQ C p.2 all R.n old olds st.lights (putA R.n tm o.dst p.1)) fun tm'=>some ⟨⟨.reg all old olds stages::k,tm',R⟩,cs,p.2⟩)) 23
inductive vN where
 | store (t:Nat) (a v:zA)
 | upd (t:Nat) (m k v:zA)
inductive RE where
 | st (b off:Nat) (l:List zA)
 | up (b:Nat) (k v:zA)
def pZ(op:Op)(e:vD):Option vN:=
 match op with
 | .store t a x=>ob (ev a e) fun a=>ob (ev x e) fun v=>some (.store t a v)
 | .mapUpdate t m k x=>ob (ev m e) fun m=>ob (ev k e) fun k=>ob (ev x e) fun v=>some (.upd t m k v)
 | .insert t m k x=>ob (ev m e) fun m=>ob (ev k e) fun k=>ob (ev x e) fun v=>some (.upd t m k v)
 | _=>none
def nU (C:fA)(e:vN):Option RE:=
 match e with
 | .store t a v=>ob (C.tys.get t) fun ty=>ob a.asPtr fun p=>vB (Nat.beq (wB v.cells) ty.size) (some (.st p.1 p.2 v.cells))
 | .upd t m k v=>ob (C.tys.get t) fun ty=>ob ty.desc.asMap fun ke=>ob (C.tys.get ke.1) fun kty=>vB (lT C kty&&bQ C kty k) (ob m.asMap fun b=>some (.up b k v))
def RE.blk:RE->Nat
 | .st b _ _=>b
 | .up b _ _=>b
def GD(a b:zA):Bool:=
 match oI a b with
 | some r => !r
 | none=>false
def Zt(a b:RE):Bool:=bif Nat.beq a.blk b.blk then(match a with
 | .st _ _ _=>false
 | .up _ k _=>(match b with
  | .st _ _ _=>false
  | .up _ k' _=>GD k k'))else true
def Sv:List RE->Bool
 | []=>true
 | a::l=>zD (Zt a) l&&Sv l
def kZ(C:fA)(H:pA)(e:RE):Option pA:=
 match e with
 | .st b off l=>lJ C H b off l
 | .up b k v=>vB (!Nat.blt b C.base) (ob (cJ H b) fun m=>some (setBlk H b (.map (tE m [(k,v)]))))
def Gx(C:fA)(H:pA)(e:RE):Bool:=
 match e with
 | .st b off l => !aH (lJ C H b off l)
 | .up b _ _ => !Nat.blt b C.base&&(match cJ H b with
  | some []=>true
  | _=>false)
def Fi(C:fA):List RE->pA->Option pA
 | [],H=>some H
 | e::l,H=>ob (kZ C H e) fun H=>Fi C l H
def vZ(C:fA)(es:List vN)(H:pA):Option pA:=ob (oH (nU C) es) fun rs=>vB (Sv rs&&zD (Gx C H) rs) (Fi C rs H)
def cW(all:Array Oper)(old:Tm)(olds:List (Nat × List Nat))(tm:Tm)(i:Nat):Option vN:=
 ob (tD all.toList i) fun o=>ob (aF o.guard all tm) fun w=>vB w (pZ o.op (.mixed tm old (rF i olds) (bH o.op)))
def Qy(C:fA)(o:Oper):Bool:=
 match o.op with
 | .call c=>(match c.callee with
  | .builtin .len=>(match ob (tD c.argTypes.toList 0) fun t=>C.tys.get t with
   | some ty => !Nat.beq ty.desc.tag 6
   | none=>false)
  | _=>true)
 | _=>true
def jW(C:fA)(all:Array Oper):Bool:=zD (Qy C) all.toList
def Ic(all:Array Oper)(old:Tm)(olds:List (Nat × List Nat))(tm:Tm)(l:List Nat):Option (List vN):=oH (cW all old olds tm) l
def Nl(all:Array Oper)(old:Tm)(olds:List (Nat × List Nat))(st:fG)(stages:List fG):yN:=fun C k tm R cs H=>
 gL (vB (jW C all) (ob (Ic all old olds tm st.again) fun es=>ob (vZ C es H) fun H'=>ob (eQ C H' all R.n old olds st.lights tm) fun tm'=>some ⟨⟨.reg all old olds stages::k,tm',R⟩,cs,H'⟩)) 24
def jR (all:Array Oper)(old:Tm)(olds:List (Nat × List Nat))(stages:List fG):yN:=
 match stages with
 | []=>Cc
 | st::stages=>match tD all.toList st.heavy with
  | some o=>Nk all old olds st stages o
  | none=>bif Nat.blt (wB all.toList) st.heavy then(bif Nat.blt (wB all.toList+wB all.toList) st.heavy then Nl all old olds st stages else Nm all old olds st stages (Nat.sub st.heavy (Nat.succ (wB all.toList))))else Jc all old olds st stages
def tY(C:fA)(l:Nat)(f:zA):Option lC:=
 ob f.asFunc fun p=>match p.1 with
  | .func g=>match C.prims.get g with
   | none=>bM C g (tE p.2.1 (.func (.yld l) [] []::p.2.2)) false
   | some _=>none
  | .yld _=>none
def Jb(f:Operand)(params:Array Nat)(assign body:Code):yN:=fun C k tm R cs H=>
 gL (ob (ev f (.now tm)) fun v=>match R.roundOf with
  | none=>
   let r:=H.next
   let l:=r+1
   ob (tY C l v) fun h=>
    some ⟨h,⟨.inRange l::k,tm,⟨R.fn,R.n,⟨none,r,[]⟩::R.defers,R.mode,R.deferred,R.roundOf⟩⟩::cs,
     newBlk (newBlk H (.deferred (some []))) (.loop ⟨.ready,none,R.fn,R.n,tm,params.toList,assign,body,r⟩)⟩
  | some outer=>ob (eK H outer) fun o=>
   let l:=H.next
   ob (tY C l v) fun h=>
    some ⟨h,⟨.inRange l::k,tm,R⟩::cs,newBlk H (.loop ⟨.ready,none,R.fn,R.n,tm,params.toList,assign,body,o.defers⟩)⟩) 12
def LoopState.tag:LoopState->Nat | .ready=>0 | .busy=>1 | .done=>2 | .exhausted=>3
def Jg:yN:=fun _ k tm R cs H=>
 gL (ob R.roundOf fun l=>ob (eK H l) fun r=>vB (Nat.beq (LoopState.tag r.state) 0)
  (some ⟨⟨k,tm,R⟩,cs,setBlk H l (.loop ⟨.busy,r.pending,r.fn,r.n,r.tm,r.params,r.assign,r.body,r.defers⟩)⟩)) 13
def Jd(l:Nat):yN:=fun _ k tm R cs H=>
 gL (ob (eK H l) fun r=>vB (!Nat.beq (LoopState.tag r.state) 1)
  (some ⟨⟨(match r.pending with | some c=>.code c::k | none=>k),tm,R⟩,cs,setBlk H l (.loop ⟨.exhausted,r.pending,r.fn,r.n,r.tm,r.params,r.assign,r.body,r.defers⟩)⟩)) 14
def zgq:Code->XB
 | .skip=>⟨Cc⟩
 | .region id ops d=>zgn id ops d
 | .seq a b=>⟨fun C k tm R cs H=>(zgq a).f C (.code b::k) tm R cs H⟩
 | .cond c x y=>⟨Jf c x y⟩
 | .block id c=>⟨zeo id c⟩
 | .loop c=>⟨zgo c⟩
 | .rangeFunc f ps a b=>⟨Jb f ps a b⟩
 | .exit id=>⟨bZ id⟩
 | .scope c=>⟨xScope c⟩
 | .label _=>⟨Cc⟩
 | .goto _=>⟨zgp⟩
 | .ret=>⟨xRet⟩
 | .refuse _=>⟨zgp⟩
def xItem:iE->XB
 | .code c=>zgq c
 | .inBlock _=>⟨Cc⟩
 | .inLoop c=>⟨zgo c⟩
 | .inScope _=>⟨Cc⟩
 | .ops all rest=>⟨xOps all rest⟩
 | .reg all old olds stages=>⟨jR all old olds stages⟩
 | .inRange _=>⟨zgp⟩
 | .endRange l=>⟨Jd l⟩
 | .beginRound=>⟨Jg⟩
def wR(C:fA)(todo:List iE)(tm:Tm)(R:nK)(cs:List lC)(H:pA):bF:=
 match todo with
 | []=>pS none C ⟨[],tm,R⟩ cs H
 | x::k=>(xItem x).f C k tm R cs H
def DS(fr:lC)(d:List zK):lC:=⟨fr.todo,fr.tm,⟨fr.R.fn,fr.R.n,d,fr.R.mode,fr.R.deferred,fr.R.roundOf⟩⟩
def Jp(C:fA)(d:zK)(ds:List zK)(fr:lC)(cs:List lC)(H:pA):bF:=
 gL (match d.fn with
  | none=>ob (bW H d.r) fun l=>ob l fun l=>some ⟨DS fr (tE l ds),cs,setBlk H d.r (.deferred none)⟩
  | some (.func f)=>match C.prims.get f with
   | none=>ob (bM C f d.args true) fun g=>some ⟨g,DS fr ds::cs,H⟩
   | some _=>none
  | some (.yld _)=>none) 15
def Cs(l:List zA):zA:=
 match l with
 | [v]=>v
 | l=>.tup l
def Jo(C:fA)(fr:lC)(cs:List lC)(H:pA):bF:=
 match ob (C.fns.get fr.R.fn) fun fn=>wY C H fr.tm fn.results.toList with
 | none=>.fail 16
 | some l=>
  match cs with
  | []=>bif fr.R.deferred then .fail 17 else bif Nat.beq fr.R.fn C.root then .done (Cs l) H else .fail 22
  | c::rest=>gL (bif fr.R.deferred then
    (match c.R.mode with
    | .panicking (⟨_,true⟩::_)=>some ⟨Kl c .returning,rest,H⟩
    | _=>vB (!c.R.mode.running) (some ⟨c,rest,H⟩))
   else ob (wI c (Cs l)) fun c=>some ⟨c,rest,H⟩) 18
def Oa(C:fA)(fr:lC)(cs:List lC)(H:pA):bF:=
 match fr.R.defers with
 | d::ds=>Jp C d ds fr cs H
 | []=>match fr.R.mode.chain with
  | some chain=>gL (ob (C.fns.get fr.R.fn) fun _=>match cs with | c::rest=>some ⟨Po c chain,rest,H⟩ | []=>none) 19
  | none=>Jo C fr cs H
def stepA(C:fA)(s:kR):bF:=
 match s with
 | ⟨⟨todo,tm,R⟩,cs,H⟩=>bif R.mode.running then wR C todo tm R cs H else Oa C ⟨todo,tm,R⟩ cs H
def Gg(C:fA)(o:bF):bF:=
 match o with
 | .next s=>stepA C s
 | .done v H=>.done v H
 | .fail n=>.fail n
def Dc (C:fA)(n:Nat):bF->bF:=
 Nat.rec (motive:=fun _=>bF->bF) (fun o=>Gg C o) (fun _ g o=>g (g o)) n
end Go.Am
namespace Go.Am
open Go
theorem lA{α β:Type}{x:Option α}{f:α->Option β}{b:β}:ob x f=some b ↔ ∃a,x=some a/\f a=some b:=by
 cases x with
 | none=>simp[ob]
 | some a=>exact⟨fun h=>⟨a,rfl,h⟩,fun⟨_,h,k⟩=>by cases h;exact k⟩
@[simp] theorem zhw {α β:Type} {f:α->Option β}:ob none f=none:=rfl
@[simp] theorem uA {α β:Type} {a:α} {f:α->Option β}:ob (some a) f=f a:=rfl
theorem oB{α:Type}{b:Bool}{x:Option α}{a:α}:vB b x=some a ↔ b=true/\x=some a:=by
 cases b with
 | false=>simp[vB]
 | true=>simp[vB]
theorem sK{α:Type}(a b:α)(c:Bool):(Bool.rec (motive:=fun _=>α) a b c:α)=if c=true then b else a:=by cases c<;>rfl
theorem gC{n m:Nat}:(Nat.beq n m=true) ↔ n=m:=⟨Nat.eq_of_beq_eq_true,fun h=>by simp_all⟩
theorem beqf{n m:Nat}:(Nat.beq n m=false) ↔ n≠m:=by
 rw[<- Bool.not_eq_true,gC]
theorem pE{n m:Nat}:(Nat.ble n m=true) ↔ n<=m:=Iff.of_eq Nat.ble_eq
theorem sC{n m:Nat}:(Nat.blt n m=true) ↔ n<m:=Iff.of_eq Nat.ble_eq
def nD{α:Type}(c:Bool)(a b:α):(bif c then a else b)=if c=true then a else b:=by cases c<;>rfl
namespace Tr
variable {α:Type}
theorem get_leaf(n:Nat):(leaf:Tr α).get n=none:=rfl
theorem get_node(l:Tr α)(v:Option α)(r:Tr α)(n:Nat) :
  (node l v r).get n=if n=0 then v else if n%2=1 then l.get (n / 2)else r.get (n / 2-1):=by
 show Bool.rec (motive:=fun _=>Option α) (Bool.rec (motive:=fun _=>Option α) (r.get (n / 2-1)) (l.get (n / 2)) (Nat.beq (n%2) 1)) v (Nat.beq n 0)=_
 grind [sK,gC]
theorem zh1(f n:Nat)(v:α):mk (f+1) n v=if n=0 then node leaf (some v) leaf else if n%2=1 then node (mk f (n / 2) v) none leaf else node leaf none (mk f (n / 2-1) v):=by
 show Bool.rec (motive:=fun _=>Tr α) (Bool.rec (motive:=fun _=>Tr α) (node leaf none (mk f (n / 2-1) v)) (node (mk f (n / 2) v) none leaf) (Nat.beq (n%2) 1)) (node leaf (some v) leaf) (Nat.beq n 0)=_
 grind [sK,gC]
def zcb(n:Nat)(v:α):(leaf:Tr α).set n v=mk (n+1) n v:=rfl
theorem zca(l:Tr α)(x:Option α)(r:Tr α)(n:Nat)(v:α) :
  (node l x r).set n v=if n=0 then node l (some v) r else if n%2=1 then node (l.set (n / 2) v) x r else node l x (r.set (n / 2-1) v):=by
 show Bool.rec (motive:=fun _=>Tr α) (Bool.rec (motive:=fun _=>Tr α) (node l x (r.set (n / 2-1) v)) (node (l.set (n / 2) v) x r) (Nat.beq (n%2) 1)) (node l (some v) r) (Nat.beq n 0)=_
 grind [sK,gC]
theorem zd6(l:Tr α)(x:Option α)(r:Tr α)(n:Nat) :
  (node l x r).del n=if n=0 then node l none r else if n%2=1 then node (l.del (n / 2)) x r else node l x (r.del (n / 2-1)):=by
 show Bool.rec (motive:=fun _=>Tr α) (Bool.rec (motive:=fun _=>Tr α) (node l x (r.del (n / 2-1))) (node (l.del (n / 2)) x r) (Nat.beq (n%2) 1)) (node l none r) (Nat.beq n 0)=_
 grind [sK,gC]
theorem get_mk(f:Nat):∀(n m:Nat) (v:α),n<f->(mk f n v).get m=if m=n then some v else none:=by
 induction f with
 | zero=>omega
 | succ f ih=>
  grind [zh1,get_node,get_leaf]
theorem get_set(t:Tr α):∀(n m:Nat) (v:α),(t.set n v).get m=if m=n then some v else t.get m:=by
 induction t with
 | leaf=>intro n m v;rw[zcb,get_mk _ _ _ _ (by omega),get_leaf]
 | node l x r ihl ihr=>
  grind [zca,get_node]
theorem get_del(t:Tr α):∀(n m:Nat),(t.del n).get m=if m=n then none else t.get m:=by
 induction t with
 | leaf=>intro n m;show(leaf:Tr α).get m=_;rw[get_leaf];split<;>rfl
 | node l x r ihl ihr=>
  grind [zd6,get_node]
def many_succ(t:Tr α)(n i:Nat):t.many (n+1) i=ob (t.get i) fun v=>ob (t.many n (i+1)) fun l=>some (v::l):=rfl
theorem many_some(t:Tr α)(n:Nat):∀(i:Nat) (l:List α),t.many n i=some l->l.length=n/\∀j,j<n->t.get (i+j)=l[j]?:=by
 induction n with
 | zero=>intro i l h;cases h;simp_all
 | succ n ih=>
  intro i l h;rw[many_succ,lA]at h;obtain⟨v,hv,h⟩:=h;rw[lA]at h;grind
theorem SI(v:α)(l:List α)(t:Tr α)(i:Nat):setMany (v::l) t i=setMany l (t.set i v) (i+1):=rfl
theorem get_setMany(l:List α):∀(t:Tr α) (i m:Nat),(setMany l t i).get m=if i<=m/\m<i+l.length then l[m-i]? else t.get m:=by
 induction l with
 | nil=>intro t i m;rw[yaa (by simp)];rfl
 | cons v l ih=>
  grind [SI,get_set]
theorem get_ofList(l:List α)(m:Nat):(ofList l).get m=l[m]?:=by
 grind [ofList,get_setMany,get_leaf]
end Tr
theorem vE{α:Type}(l:List α):∀n,tD l n=l[n]?:=by
 induction l with
 | nil=>intro n;rfl
 | cons a l ih=>
  intro n
  cases n with
  | zero=>rfl
  | succ n=>show tD l n=_;grind
theorem fU{α:Type}(l:List α):∀n,cQ l n=l.drop n:=by
 induction l with
 | nil=>intro n;simp;rfl
 | cons a l ih=>
  intro n
  cases n with
  | zero=>rfl
  | succ n=>show cQ l n=_;grind
theorem iU{α:Type}(l:List α):∀n,kY l n=l.take n:=by
 induction l with
 | nil=>intro n;simp;rfl
 | cons a l ih=>
  intro n
  cases n with
  | zero=>rfl
  | succ n=>show a::kY l n=_;grind
theorem oD{α:Type}(l:List α):wB l=l.length:=by
 induction l with
 | nil=>rfl
 | cons a l ih=>grind [wB]
theorem fH{α:Type}(l m:List α):tE l m=l++m:=by
 induction l with
 | nil=>rfl
 | cons a l ih=>grind [tE]
theorem cE{α:Type}(p:α->Bool)(l:List α):zD p l=l.all p:=by
 induction l with
 | nil=>rfl
 | cons a l ih=>show(bif p a then zD p l else false)=_;rw[ih];cases h:p a<;>simp[h]
theorem dO{α β:Type}(f:α->Option β)(a:α)(l:List α):oH f (a::l)=ob (f a) fun b=>ob (oH f l) fun r=>some (b::r):=rfl
theorem Dy{α β:Type}(f:α->Option β):oH f []=some []:=rfl
theorem Ao(i:Nat)(l:List Nat):aI i l=true ↔ i∈l:=by
 induction l with
 | nil=>exact⟨fun h=>(by cases h),fun h=>(by cases h)⟩
 | cons j l ih=>
  grind [aI,gC]
theorem wL(a:List Nat):∀b,wH a b=true ↔ a=b:=by
 induction a with
 | nil=>intro b;cases b with
  | nil=>exact⟨fun _=>rfl,fun _=>rfl⟩
  | cons y b=>exact⟨fun h=>(by cases h),fun h=>(by cases h)⟩
 | cons x a ih=>
  intro b
  cases b with
  | nil=>exact⟨fun h=>(by cases h),fun h=>(by cases h)⟩
  | cons y b=>
   simp_all [wH]
theorem eL{a b:IntKind}:bO a b=true ↔ a=b:=by cases a<;>cases b<;>simp[bO,kIdx]
theorem wU(a b:Bool):bEq a b=(a == b):=by cases a<;>cases b<;>rfl
theorem fW(a b:Int):cA a b=true ↔ a=b:=by
 cases a<;>cases b<;>simp only[cA,gC] <;> (try simp)<;>omega
theorem Rj(a b:Int):eC a b=true ↔ a<=b:=by
 cases a<;>cases b<;>simp only[eC,pE] <;> (try simp)<;>omega
theorem Ht(a b:Int):jB a b=true ↔ a<b:=by
 cases a<;>cases b<;>simp only[jB,sC] <;> (try simp)<;>omega
theorem xZ(a b:Int):cA a b=(a == b):=by grind [fW]
theorem zga(a b:Int):eC a b=decide (a<=b):=by grind [Rj]
theorem zf9(a b:Int):jB a b=decide (a<b):=by grind [Ht]
theorem sN(k:IntKind)(n:Int):dA k n=k.wrap n:=by
 cases n with
 | ofNat n=>
  show(bif Nat.blt n (nH k)then Int.ofNat n else _)=_;rw[nD];by_cases h:Nat.blt n (nH k)=true
  ·rw[yab h];have h':=sC.1 h;cases k<;>simp only[nH]at h'<;>simp only[IntKind.wrap,IntKind.bits,IntKind.signed]<;>simp<;>omega
  grind
 | negSucc n=>
  show(bif Nat.blt n (kLo k)then Int.negSucc n else _)=_;rw[nD];by_cases h:Nat.blt n (kLo k)=true
  ·rw[yab h];have h':=sC.1 h;cases k<;>simp only[kLo]at h'<;>simp only[IntKind.wrap,IntKind.bits,IntKind.signed]<;>simp<;>omega
  grind
theorem Li{n:Int}{m:Nat}:sM n=some m ↔ n=(m:Int):=by
 cases n with
 | ofNat a=>grind [sM]
 | negSucc a=>grind [sM]
end Go.Am
namespace Go.Am
open Go
variable {a b k v:zA}{r:Bool}{l l' m:List (zA × zA)}
theorem Hk  (h:dP a b=some r) :
  (∃k x y,a=.int k x/\b=.int k y/\r=(x == y))\/(∃x y,a=.str x/\b=.str y/\r=wH x y)\/(∃x y,a=.bool x/\b=.bool y/\r=(x == y)):=by
 cases a<;>simp only[dP,zA.asIntK,zA.asStr,Ia,zA.asBool]at h<;>try (cases h;done)
 case bool x=>
  rw[uA,lA]at h;grind [wU]
 all_goals grind [lA,oB,eL,xZ]
def IZ (h:dP a b=some true):a=b:=by
 grind [Hk,wL]
def JA  (h:dP a b=some r):dP b a=some r:=by
 rcases Hk h with⟨k,x,y,rfl,rfl,hr⟩ | ⟨x,y,rfl,rfl,hr⟩ | ⟨x,y,rfl,rfl,hr⟩
 ·have e:cA y x=(x == y):=by grind [xZ]
  show vB (bO k k) (some (cA y x))=_
  grind [oB,eL]
 ·grind [dP,zA.asIntK,zA.asStr,uA,wL]
 ·simp only[dP,zA.asIntK,zA.asStr,Ia,zA.asBool,wU,uA,hr];rw[show(y == x)=(x == y) by cases x<;>cases y<;>rfl]
def IQ:∀ {x y:List zA},mT x y=some true->x=y
 | [],[],_=>rfl
 | a::x,b::y,h=>by
  simp only[mT,lA]at h;obtain⟨r,hr,s,hs,h⟩:=h;cases r<;>cases s<;>simp at h;rw[IZ hr,IQ hs]
 | [],_::_,h=>by cases h
 | _::_,[],h=>by cases h
def IR:∀ {x y:List zA} {r:Bool},mT x y=some r->mT y x=some r
 | [],[],_,h=>h
 | a::x,b::y,r,h=>by
  simp only[mT,lA]at h ⊢;obtain⟨r1,hr,s,hs,h⟩:=h;exact⟨r1,JA hr,s,IR hs,h⟩
 | [],_::_,_,h=>by cases h
 | _::_,[],_,h=>by cases h
def Lx  (h:oI a b=some r):(∃x y,a=.agg x/\b=.agg y/\mT x y=some r)\/(a.asAgg=none/\dP a b=some r):=by
 unfold oI at h;split at h
 ·rename_i x hx;rw[lA]at h;obtain⟨y,hy,h⟩:=h;cases a<;>simp[zA.asAgg]at hx;cases b<;>simp[zA.asAgg]at hy
  simp_all
 simp_all
def zab  (h:dP a b=some r):oI a b=some r:=by
 rcases Hk h with⟨k,x,y,rfl,rfl,hr⟩ | ⟨x,y,rfl,rfl,hr⟩ | ⟨x,y,rfl,rfl,hr⟩<;>exact h
theorem IX (h:oI a b=some true):a=b:=by
 rcases Lx h with⟨x,y,rfl,rfl,h⟩ | ⟨_,h⟩
 ·rw[IQ h]
 ·exact IZ h
theorem Lw  (h:oI a b=some r):oI b a=some r:=by
 rcases Lx h with⟨x,y,rfl,rfl,h⟩ | ⟨_,h⟩
 ·exact IR h
 ·exact zab (JA h)
def DK (l:List (zA × zA)):Prop:=l.Pairwise fun p q=>oI p.1 q.1=some false
def Iv(l l':List (zA × zA)):Prop:=l'=l\/(l.Perm l'/\DK l)
def DK.perm (h:DK l)(p:l.Perm l'):DK l':=(p.pairwise_iff (fun hab=>Lw hab)).1 h
theorem Ys{k:zA}:∀ {l:List (zA × zA)},gJ k l=some none ↔ ∀e∈l,oI k e.1=some false
 | []=>by simp[gJ]
 | e::l=>by
  rw[gJ,lA];constructor
  ·rintro⟨r,hr,h⟩
   cases r with
   | true=>cases h
   | false=>
    rw[cond_false]at h;intro x hx;rcases ybs.1 hx with rfl | hx
    ·exact hr
    ·exact Ys.1 h x hx
  ·intro h;exact⟨false,h e (.head _),Ys.2 fun x hx=>h x (.tail _ hx)⟩
def KU{k v:zA}:∀ {l:List (zA × zA)},gJ k l=some (some v)->(k,v)∈l/\oI k k=some true
 | [],h=>by cases h
 | e::l,h=>by
  rw[gJ,lA]at h;obtain⟨r,hr,h⟩:=h
  cases r with
  | true=>
   grind [IX]
  | false=>
   rw[cond_false]at h;obtain⟨h1,h2⟩:=KU h
   simp_all
def DK.split  (h:DK (l++(k,v)::m)):(∀e∈l,oI k e.1=some false)/\∀e∈m,oI k e.1=some false:=by
 unfold DK at h;rw[List.pairwise_append]at h;obtain⟨_,h2,h3⟩:=h;rw[List.pairwise_cons]at h2;exact⟨fun e he=>Lw (h3 e he (k,v) (.head _)),fun e he=>h2.1 e he⟩
def WZ  (h:∀e∈l,oI k e.1=some false):gJ k (l++m)=gJ k m:=by
 induction l with
 | nil=>rfl
 | cons e l ih=>
  grind [gJ,uA]
def XA  {r:Option zA}(h:Iv l l')(hf:gJ k l=some r):gJ k l'=some r:=by
 rcases h with rfl | ⟨p,d⟩
 ·exact hf
 cases r with
 | none=>
  grind [Ys]
 | some v=>
  obtain⟨h1,h2⟩:=KU hf;obtain⟨a,b,rfl⟩:=List.append_of_mem (p.mem_iff.1 h1);rw[WZ (d.perm p).split.1,gJ,h2,uA,cond_true]
def Vr{k v:zA}:∀ {l:List (zA × zA)},(∀e∈l,oI k e.1=some false)->jL k v l=some (l++[(k,v)])
 | [],_=>rfl
 | e::l,h=>by
  rw[jL,h e (.head _),uA,cond_false,Vr fun x hx=>h x (.tail _ hx)];rfl
def DP{k v u:zA}{m:List (zA × zA)}(hk:oI k k=some true):∀ {l:List (zA × zA)},(∀e∈l,oI k e.1=some false)->jL k v (l++(k,u)::m)=some (l++(k,v)::m)
 | [],_=>by simp_all [jL]
 | e::l,h=>by
  rw[List.cons_append,jL,h e (.head _),uA,cond_false,DP hk fun x hx=>h x (.tail _ hx)];rfl
def DO{k v:zA}:∀ {l r:List (zA × zA)},jL k v l=some r->((∀e∈l,oI k e.1=some false)/\r=l++[(k,v)])\/(oI k k=some true/\∃a u b,l=a++(k,u)::b/\r=a++(k,v)::b)
 | [],r,h=>by cases h;simp_all
 | e::l,r,h=>by
  rw[jL,lA]at h;obtain⟨q,hq,h⟩:=h
  cases q with
  | true=>
   rw[cond_true]at h;cases h;have:=IX hq;refine .inr ⟨by simp_all,[],e.2,l,?_,rfl⟩;rw[yah,this]
  | false=>
   rw[cond_false,lA]at h;obtain⟨r',hr,h⟩:=h;cases h;rcases DO hr with⟨h1,rfl⟩ | ⟨h0,a,u,b,rfl,rfl⟩
   all_goals grind
def SG {r:List (zA × zA)}(h:Iv l l')(hs:jL k v l=some r):∃r',jL k v l'=some r'/\Iv r r':=by
 rcases h with rfl | ⟨p,d⟩
 ·exact⟨r,hs,.inl rfl⟩
 rcases DO hs with⟨h1,rfl⟩ | ⟨h0,a,u,b,rfl,rfl⟩
 ·refine⟨_,Vr fun e he=>h1 e (p.mem_iff.2 he),.inr ⟨p.append_right _,?_⟩⟩;unfold DK;rw[List.pairwise_append];exact⟨d,by simp,fun x hx y hy=>by grind [Lw]⟩
 ·obtain⟨a',b',rfl⟩:=List.append_of_mem (p.mem_iff.1 (ycf a (.head b)));refine⟨_,DP h0 (d.perm p).split.1,.inr ⟨?_,?_⟩⟩
  ·have p1:(a++b).Perm (a'++b'):=by
    have q1:(a++(k,u)::b).Perm ((k,u)::(a++b)):=List.perm_middle;have q2:(a'++(k,u)::b').Perm ((k,u)::(a'++b')):=List.perm_middle;exact(q1.symm.trans (p.trans q2)).cons_inv
   exact List.perm_middle.trans ((p1.cons _).trans List.perm_middle.symm)
  ·unfold DK at d ⊢;rw[List.pairwise_append,List.pairwise_cons]at d ⊢;obtain⟨d1,⟨d2,d3⟩,d4⟩:=d;refine⟨d1,⟨d2,d3⟩,fun x hx y hy=>?_⟩;rcases ybs.1 hy with rfl | hy
   ·exact d4 x hx (k,u) (.head _)
   grind
end Go.Am
namespace Go.Am
open Go
structure BI where
 b:Nat
 tight:Bool
 es:Nat
 room:Nat
 ro:Bool
structure Mu where
 m:Nat->Option BI
 pd:Nat->Option (qA × Nat × Nat)
instance:CoeFun Mu fun _=>Nat->Option BI:=⟨Mu.m⟩
def Mu.lw(μ ν:Mu):Prop:=∀a i,μ a=some i->ν a=some i
structure Mu.le (μ ν:Mu):Prop where
 f:∀a i,μ a=some i->ν a=some i
 pd:ν.pd=μ.pd
instance {μ ν:Mu}:CoeFun (μ.le ν) fun _=>∀a i,μ a=some i->ν a=some i:=⟨Mu.le.f⟩
instance {μ ν:Mu}:Coe (μ.le ν) (μ.lw ν):=⟨Mu.le.f⟩
def Mu.le_refl(μ:Mu):μ.le μ:=⟨fun _ _ h=>h,rfl⟩
def Mu.le_trans{a b c:Mu}(h:a.le b)(k:b.le c):a.le c:=⟨fun x i hx=>k.f x i (h.f x i hx),k.pd.trans h.pd⟩
def Iw(μ:Mu):AFn->Fn->Prop
 | .func f,fn=>fn=.func f
 | .yld l,fn=>∃i,μ l=some i/\fn=.yield i.b
mutual
def rA (μ:Mu):zA->Value->Prop
 | .bool b,v=>v=.bool b
 | .int k n,v=>v=.int k n
 | .str l,v=>∃s,v=.string s/\qF s=l
 | .nilptr,v=>v=.pointer none
 | .ptr b off,v=>∃i,μ b=some i/\v=.pointer (some ⟨i.b,off,none⟩)
 | .nilslice,v=>v=.slice none 0 0
 | .slice b off len cap,v=>(∃i cap',μ b=some i/\v=.slice (some ⟨i.b,off,none⟩) len cap'/\cap<=cap'/\(i.tight=true->cap'=cap)/\(i.tight=false->off+cap'*i.es<=i.room))\/(b=0/\len=0/\cap=0/\∃a c,v=.slice (some a) 0 c/\(off=0/\c=0\/off=1))
 | .nilmap,v=>v=.map none
 | .map b,v=>∃i,μ b=some i/\v=.map (some i.b)
 | .func f a c,v=>∃fn a' c',v=.func fn a' c'/\Iw μ f fn/\pB μ a a'.toList/\pB μ c c'.toList
 | .nilfunc,v=>v=.nilFunc
 | .iface t x,v=>∃x',v=.iface t x'/\rA μ x x'
 | .niliface,v=>v=.nilIface
 | .agg l,v=>∃cs,v=.agg cs/\pB μ l cs.toList
 | .tup l,v=>∃cs,v=.tuple cs/\pB μ l cs.toList
def pB (μ:Mu):List zA->List Value->Prop
 | [],m=>m=[]
 | a::l,m=>∃v r,m=v::r/\rA μ a v/\pB μ l r
end
theorem Iw.mono{μ ν:Mu}(h:μ.lw ν){f:AFn}{g:Fn}(k:Iw μ f g):Iw ν f g:=by
 cases f with
 | func f=>exact k
 | yld l=>obtain⟨i,h1,h2⟩:=k;exact⟨i,h _ _ h1,h2⟩
mutual
theorem rA.mono{μ ν:Mu}(h:μ.lw ν):∀(a:zA) (v:Value),rA μ a v->rA ν a v
 | .bool _,_,k=>k
 | .int _ _,_,k=>k
 | .str _,_,k=>k
 | .nilptr,_,k=>k
 | .ptr _ _,_,⟨i,h1,h2⟩=>⟨i,h _ _ h1,h2⟩
 | .nilslice,_,k=>k
 | .slice _ _ _ _,_,.inl ⟨i,c,h1,h2⟩=>.inl ⟨i,c,h _ _ h1,h2⟩
 | .slice _ _ _ _,_,.inr k=>.inr k
 | .nilmap,_,k=>k
 | .map _,_,⟨i,h1,h2⟩=>⟨i,h _ _ h1,h2⟩
 | .func _ a c,_,⟨fn,a',c',h1,h2,h3,h4⟩=>⟨fn,a',c',h1,h2.mono h,pB.mono h a _ h3,pB.mono h c _ h4⟩
 | .nilfunc,_,k=>k
 | .iface _ x,_,⟨x',h1,h2⟩=>⟨x',h1,rA.mono h x _ h2⟩
 | .niliface,_,k=>k
 | .agg l,_,⟨cs,h1,h2⟩=>⟨cs,h1,pB.mono h l _ h2⟩
 | .tup l,_,⟨cs,h1,h2⟩=>⟨cs,h1,pB.mono h l _ h2⟩
theorem pB.mono{μ ν:Mu}(h:μ.lw ν):∀(l:List zA) (m:List Value),pB μ l m->pB ν l m
 | [],_,k=>k
 | a::l,_,⟨v,r,h1,h2,h3⟩=>⟨v,r,h1,rA.mono h a v h2,pB.mono h l r h3⟩
end
theorem pB.length{μ:Mu}{l:List zA}:∀ {m:List Value},pB μ l m->m.length=l.length:=by
 induction l with
 | nil=>grind [pB]
 | cons a l ih=>grind [pB]
theorem pB.get{μ:Mu}{l:List zA}:∀ {m:List Value} {i:Nat} {a:zA},pB μ l m->l[i]?=some a->∃v,m[i]?=some v/\rA μ a v:=by
 induction l with
 | nil=>simp_all
 | cons b l ih=>
  grind [pB]
theorem pB.mk{μ:Mu}{l:List zA}:∀ {m:List Value},m.length=l.length->(∀(i:Nat) a v,l[i]?=some a->m[i]?=some v->rA μ a v)->pB μ l m:=by
 induction l with
 | nil=>grind [pB]
 | cons a l ih=>
  intro m h k
  cases m with
  | nil=>simp at h
  | cons v r=>
   rw[pB];exact⟨v,r,rfl,k 0 a v (by simp) (by simp),ih (by grind) fun i a v h1 h2=>k (i+1) a v (by simp_all) (by simp_all)⟩
theorem pB.append{μ:Mu}{l l':List zA}:∀ {m m':List Value},pB μ l m->pB μ l' m'->pB μ (l++l') (m++m'):=by
 induction l with
 | nil=>grind [pB]
 | cons a l ih=>grind [pB]
theorem pB.drop{μ:Mu}{l:List zA}{m:List Value}(h:pB μ l m)(n:Nat):pB μ (l.drop n) (m.drop n):=by
 refine pB.mk (by simp[h.length]) fun i a v h1 h2=>?_;rw[yde]at h1 h2;obtain⟨u,hu,hr⟩:=h.get h1
 simp_all
theorem pB.take{μ:Mu}{l:List zA}{m:List Value}(h:pB μ l m)(n:Nat):pB μ (l.take n) (m.take n):=by
 refine pB.mk (by simp[h.length]) fun i a v h1 h2=>?_;rw[ydf]at h1 h2;split at h1
 ·rename_i hi;rw[yab hi]at h2;obtain⟨u,hu,hr⟩:=h.get h1
  simp_all
 grind
theorem pB.nil{μ:Mu}:pB μ [] []:=by rw[pB]
theorem pB.cons{μ:Mu}{a:zA}{l:List zA}{v:Value}{m:List Value}(h:rA μ a v)(k:pB μ l m):pB μ (a::l) (v::m):=by grind [pB]
def pB.single{μ:Mu}{a:zA}{v:Value}(h:rA μ a v):pB μ [a] [v]:=.cons h .nil
theorem Bi{v:zA}{b:Bool}:v.asBool=some b ↔ v=.bool b:=by cases v<;>simp[zA.asBool]
def Zq{v:zA}{n:Int}:v.asInt=some n ↔ ∃k,v=.int k n:=by cases v<;>simp[zA.asInt]
theorem lV{v:zA}{p:IntKind × Int}:v.asIntK=some p ↔ v=.int p.1 p.2:=by cases v<;>simp[zA.asIntK,Prod.ext_iff]
theorem mV{v:zA}{l:List Nat}:v.asStr=some l ↔ v=.str l:=by cases v<;>simp[zA.asStr]
def Fh{v:zA}{p:Nat × Nat}:v.asPtr=some p ↔ v=.ptr p.1 p.2:=by cases v<;>simp[zA.asPtr,Prod.ext_iff]
def Bh{v:zA}{p:Nat × Nat × Nat × Nat}:v.asSlice=some p ↔ v=.slice p.1 p.2.1 p.2.2.1 p.2.2.2:=by cases v<;>simp[zA.asSlice,Prod.ext_iff]
def Ss{v:zA}{b:Nat}:v.asMap=some b ↔ v=.map b:=by cases v<;>simp[zA.asMap]
theorem Ip{v:zA}{l:List zA}:v.asAgg=some l ↔ v=.agg l:=by cases v<;>simp[zA.asAgg]
def ZH{v:zA}{l:List zA}:v.asTup=some l ↔ v=.tup l:=by cases v<;>simp[zA.asTup]
theorem NW{v:zA}{p:AFn × List zA × List zA}:v.asFunc=some p ↔ v=.func p.1 p.2.1 p.2.2:=by cases v<;>simp[zA.asFunc,Prod.ext_iff]
def NV{v:zA}{p:Nat × zA}:v.asIface=some p ↔ v=.iface p.1 p.2:=by cases v<;>simp[zA.asIface,Prod.ext_iff]
theorem Sr{v:zA}{n:Nat}:v.asNat=some n ↔ ∃k,v=.int k (n:Int):=by
 simp_all [zA.asNat,lA,Zq,Li]
theorem sW{v:zA}:(v.tag=3 ↔ v=.nilptr)/\(v.tag=5 ↔ v=.nilslice)/\(v.tag=7 ↔ v=.nilmap)/\(v.tag=10 ↔ v=.nilfunc)/\(v.tag=12 ↔ v=.niliface):=by
 cases v<;>simp[zA.tag]
theorem rA.notAgg{μ:Mu}{a:zA}{v:Value}(h:rA μ a v)(ha:a.asAgg=none):v.cells = #[v]:=by
 cases a<;>rw[rA]at h<;>first
  | (subst h;rfl)
  | (rcases h with⟨_,_,_,rfl,_⟩ | ⟨_,_,_,_,_,rfl,_⟩<;>rfl)
  | (obtain⟨_,rfl,_⟩:=h;rfl)
  | (obtain⟨_,_,rfl⟩:=h;rfl)
  | (obtain⟨_,_,_,rfl,_⟩:=h;rfl)
  | grind [zA.asAgg]
theorem rA.one{μ:Mu}{a:zA}{v:Value}(h:rA μ a v)(ha:a.one=true):v.oneCell'=true:=by
 cases a<;>rw[rA]at h<;>first
  | (subst h;rfl)
  | (rcases h with⟨_,_,_,rfl,_⟩ | ⟨_,_,_,_,_,rfl,_⟩<;>rfl)
  | (obtain⟨_,rfl,_⟩:=h;rfl)
  | (obtain⟨_,_,rfl⟩:=h;rfl)
  | (obtain⟨_,_,_,rfl,_⟩:=h;rfl)
  | (revert ha;decide)
  | (have:=sC.1 ha;grind [zA.tag])
def Sh{μ:Mu}{a:zA}{v:Value}(h:rA μ a v):pB μ a.cells v.cells.toList:=by
 unfold zA.cells
 cases ha:a.asAgg with
 | none=>rw[h.notAgg ha];exact pB.single h
 | some l=>rw[Ip.1 ha,rA]at h;obtain⟨cs,rfl,h⟩:=h;exact h
def zP(P:Program)(t:Nat):fD:=
 match P.underlying t with
 | some .bool=>.bool
 | some (.int k)=>.int k
 | some .string=>.string
 | some (.pointer e)=>.ptr e
 | some (.slice e)=>.slice e
 | some (.array n e)=>.arr n e
 | some (.map k e)=>.map k e
 | some (.struct fs)=>.struct (fs.toList.map fun f=>(f.offset,f.type,P.cellsOf f.type))
 | some (.func ..)=>.func
 | some (.interface _)=>.iface
 | _=>.other
def Rg:Value->Bool
 | .agg _=>true
 | _=>false
def zb0(P:Program)(t:Nat):Bool:=(P.fieldsOf t).toList.all fun f=>(P.info? f.type).isSome
def tyOf (P:Program)(t:Nat):Option lD:=
 match P.info? t with
 | some i=>match i.zero with
  | some z=>ob (oH Dq z.cells.toList) fun l=>vB (bEq (Rg z) (zP P t).isAgg&&(P.underlying t).isSome&&zb0 P t)
    (some ⟨zP P t, i.size, i.bytes, l, !P.stoodInHeld t && !P.eqGuardType P.depth t && (P.fieldsOf t).toList.all (fun f => f.name != "_")⟩)
  | none=>none
 | none=>none
def jF(P:Program)(C:fA):Prop:=∀t ty,C.tys.get t=some ty->tyOf P t=some ty
theorem Sl{a b:ByteArray}(h:qF a=qF b):a=b:=by
 have h1:a.data.toList=b.data.toList:=by
  grind [qF,List.map_inj_right,UInt8.toNat_inj]
 have h2:a.data=b.data:=yax.1 h1;cases a;simp_all
theorem FW{μ:Mu}{v:Value}{a:zA}(h:Dq v=some a):rA μ a v/\a.one=true:=by
 unfold Dq at h;split at h<;>cases h<;>refine⟨?_,rfl⟩<;>rw[rA]
 simp_all
theorem FV{μ:Mu}{m:List Value}:∀ {l:List zA},oH Dq m=some l->pB μ l m:=by
 induction m with
 | nil=>grind [Dy,pB.nil]
 | cons v m ih=>
  intro l h;rw[dO,lA]at h;obtain⟨a,ha,h⟩:=h;rw[lA]at h;obtain⟨r,hr,h⟩:=h;cases h;exact .cons (FW ha).1 (ih hr)
theorem UW{μ:Mu}{v:Value}{a:zA}(h:Ww v=some a):rA μ a v:=by
 unfold Ww at h;split at h
 ·rename_i cs hc;rw[lA]at h;obtain⟨l,hl,h⟩:=h;cases h;cases v<;>simp[zgi]at hc
  grind [rA,FV]
 grind [FW]
structure dL (P:Program) (t:Nat) (ty:lD):Prop where
 info:∃i,P.info? t=some i/\i.size=ty.size/\i.bytes=ty.bytes/\∃z,i.zero=some z/\oH Dq z.cells.toList=some ty.zero/\Rg z=ty.desc.isAgg
 desc:zP P t=ty.desc
 und:∃d,P.underlying t=some d
 fields:∀f∈(P.fieldsOf t).toList,∃i,P.info? f.type=some i
 eqOk : ty.eqOk = true -> P.stoodInHeld t = false /\ P.eqGuardType P.depth t = false /\ ∀ f ∈ (P.fieldsOf t).toList, f.name ≠ "_"
theorem QI{P:Program}{t:Nat}{ty:lD}(h:tyOf P t=some ty):dL P t ty:=by
 unfold tyOf at h;split at h
 ·rename_i i hi;split at h
  ·rename_i z hz;rw[lA]at h;obtain⟨l,hl,h⟩:=h;rw[oB]at h;obtain⟨hb,h⟩:=h;cases h;rw[ybb,ybb]at hb;refine⟨⟨i,hi,rfl,rfl,z,hz,hl,?_⟩,rfl,Option.isSome_iff_exists.1 hb.1.2,fun f hf=>Option.isSome_iff_exists.1 (ycb.1 hb.2 f hf),fun h=>?_⟩
   all_goals grind [wU]
  ·cases h
 ·cases h
def jF.facts{P:Program}{C:fA}(h:jF P C){t:Nat}{ty:lD}(k:C.tys.get t=some ty):dL P t ty:=QI (h t ty k)
section
variable {P:Program}{w:World}{t:Nat}{ty:lD}
def Db{i:TypeInfo}(h:P.info? t=some i):(typeInfo t).run P w=.ok i w:=by
 simp[typeInfo,h]
def sF{d:TypeDesc}(h:P.underlying t=some d):(underlying t).run P w=.ok d w:=by
 simp[underlying,h]
def dL.size(h:dL P t ty):(sizeOf t).run P w=.ok ty.size w:=by
 obtain⟨i,h1,h2,_⟩:=h.info;simp[sizeOf,Db h1,h2]
theorem dL.zero(h:dL P t ty){μ:Mu}:∃z,(∀w,(zeroValue t).run P w=.ok z w)/\rA μ (cV ty) z/\pB μ ty.zero z.cells.toList:=by
 obtain⟨i,h1,_,_,z,h2,h3,h4⟩:=h.info;have hl:pB μ ty.zero z.cells.toList:=FV h3;refine⟨z,fun w=>by simp[zeroValue,Db h1,h2],?_,hl⟩;unfold cV
 cases hd:ty.desc.isAgg with
 | true=>
  rw[hd]at h4;cases z<;>simp[Rg]at h4;show rA μ (.agg ty.zero) _;rw[rA];exact⟨_,rfl,hl⟩
 | false=>
  rw[hd]at h4;have hc:z.cells = #[z]:=by cases z<;>first | rfl | simp[Rg]at h4
  grind [pB]
def dL.isAgg(h:dL P t ty):(Go.isAgg t).run P w=.ok ty.desc.isAgg w:=by
 obtain⟨d,hd⟩:=h.und;have h0:=h.desc;unfold zP at h0;rw[hd]at h0;unfold Go.isAgg;rw[yad,sF hd,yac,<- h0];cases d<;>rfl
theorem Et(h:dL P t ty){fs:List (Nat × Nat × Nat)}(k:ty.desc.asStruct=some fs):∃g,P.underlying t=some (.struct g)/\fs=g.toList.map fun f=>(f.offset,f.type,P.cellsOf f.type):=by
 obtain⟨d,hd⟩:=h.und;have h0:=h.desc
 grind [zP,fD.asStruct]
def iS(h:dL P t ty){e:Nat}(k:ty.desc.asSlice=some e):P.underlying t=some (.slice e):=by
 obtain⟨d,hd⟩:=h.und;have h0:=h.desc;unfold zP at h0;rw[hd]at h0;rw[<- h0]at k;cases d<;>simp[fD.asSlice]at k;rw[hd,k]
def Sf(h:dL P t ty){p:Nat × Nat}(k:ty.desc.asArr=some p):P.underlying t=some (.array p.1 p.2):=by
 obtain⟨d,hd⟩:=h.und;have h0:=h.desc;unfold zP at h0;rw[hd]at h0;rw[<- h0]at k;cases d<;>simp[fD.asArr]at k;rw[hd,<- k]
def LR(h:dL P t ty){p:Nat × Nat}(k:ty.desc.asMap=some p):P.underlying t=some (.map p.1 p.2):=by
 obtain⟨d,hd⟩:=h.und;have h0:=h.desc;unfold zP at h0;rw[hd]at h0;rw[<- h0]at k;cases d<;>simp[fD.asMap]at k;rw[hd,<- k]
def Zb(h:dL P t ty){k:IntKind}(e:ty.desc.asInt=some k):P.underlying t=some (.int k):=by
 obtain⟨d,hd⟩:=h.und;have h0:=h.desc;unfold zP at h0;rw[hd]at h0;rw[<- h0]at e;cases d<;>simp[fD.asInt]at e;rw[hd,e]
theorem Se(h:dL P t ty)(e:ty.desc.isString=true):P.underlying t=some .string:=by
 obtain⟨d,hd⟩:=h.und;have h0:=h.desc
 grind [zP,fD.isString,fD.tag,Nat.beq]
theorem LQ(h:dL P t ty)(e:Nat.blt ty.desc.tag 9=true):∃d,P.underlying t=some d/\∀ms,d≠.interface ms:=by
 obtain⟨d,hd⟩:=h.und;refine⟨d,hd,fun ms hm=>?_⟩;subst hm;have h0:=h.desc
 grind [zP,sC,fD.tag]
end
structure eZ (μ:Mu) (d:zK) (e:Deferred):Prop where
 rel:match d.fn with
  | none=>∃i,μ d.r=some i/\e={ target:=.collected i.b,args := #[] }
  | some f=>∃fn cap as,e={ target:=.fn fn cap,args:=as }/\Iw μ f fn/\pB μ d.args (as++cap).toList
def fE(μ:Mu)(n:Nat)(tm:Tm)(tmps:Array Value):Prop:=tmps.size=n/\∀i v,tm.get i=some v->rA μ v (tmps.getD i undef)
structure Nd (μ:Mu) (l:vQ) (r:Loop):Prop where
 state:r.state=l.state
 pending:r.pending=l.pending
 fn:r.fn=l.fn
 tm:fE μ l.n l.tm r.tmps
 params:r.params.toList=l.params
 assign:r.assign=l.assign
 body:r.body=l.body
 defers:∃i,μ l.defers=some i/\r.defers=i.b
inductive dC {α β:Type} (R:α->β->Prop):List α->List β->Prop
 | nil:dC R [] []
 | cons {a b l m}:R a b->dC R l m->dC R (a::l) (b::m)
def vJ (μ:Mu)(i:BI):qA->Obj->Prop
 | .cells c n loose,o=>∃cs elem fr,o=.cells cs elem fr/\n<=cs.size/\(i.ro=true\/fr.2<=fr.1\/cs.size<=fr.1)/\(∀(j:Nat) v,c.get j=some v->j<n/\∃v',cs[j]?=some v'/\rA μ v v') ∧
   (match loose with | none=>i.tight=true | some lo=>i.tight=false/\i.es=lo.es/\i.room=cs.size/\∀t,lo=.ty t->elem=t)
 | .map l,o=>∃es clock l',o=.map es clock/\Iv l l'/\dC (fun p e=>rA μ p.1 e.key/\rA μ p.2 e.val) l' es.toList
 | .loop l,o=>∃r,o=.loop r/\Nd μ l r
 | .deferred l,o=>∃l',o=.deferred l'/\(match l,l' with | none,none=>True | some a,some b=>dC (eZ μ) a b | _,_=>False)
 | .siter s pos,o=>∃s',o=.stringIter s' pos/\qF s'=s
structure rB (B N:Nat) (μ:Mu) (H:pA) (w:World):Prop where
 base:256<=B
 glob:∀g,g<256->μ g=some ⟨g,true,0,0,true⟩
 low:∀a x i,a<B->H.t.get a=some x->μ a=some i->i.b<N/\x.asLoop=none/\x.asDeferred=none
 next:B<=H.next
 size:N<=w.heap.size
 fresh:∀a,H.next<=a->μ a=none/\H.t.get a=none
 blk:∀a x i,H.t.get a=some x->μ a=some i->∃o,w.heap[i.b]?=some o/\vJ μ i x o
 own:∀a i,B<=a->μ a=some i->N<=i.b/\i.b<w.heap.size/\i.ro=false
 inj:∀a b x y i j,H.t.get a=some x->H.t.get b=some y->μ a=some i->μ b=some j->B<=a->B<=b->i.b=j.b->a=b
 pnd:∀a x t,μ.pd a=some (x,t)->μ a=none/\H.t.get a=some x/\B<=a
end Go.Am
namespace Go.Am
open Go
variable {a x:Operand}{b f off t:Nat}{p:Tr zA × Nat × Option Lo}{i:BI}{l:List zA}
def dF (μ:Mu)(e:vD)(ρ:Operand->Value):Prop:=∀x v,ev x e=some v->rA μ v (ρ x)
def dF.many{μ:Mu}{e:vD}{ρ:Operand->Value}(h:dF μ e ρ):∀ {l:List Operand} {r:List zA},vR l e=some r->pB μ r (l.map ρ):=by
 intro l;induction l with
 | nil=>intro r k;unfold vR at k;rw[Dy]at k;cases k;exact .nil
 | cons x l ih=>
  intro r k;unfold vR at k;rw[dO,lA]at k;obtain⟨a,ha,k⟩:=k;rw[lA]at k;obtain⟨b,hb,k⟩:=k;cases k;exact .cons (h _ _ ha) (ih hb)
def dF.parts{μ:Mu}{e:vD}{ρ:Operand->Value}(h:dF μ e ρ):∀ {l:List (Nat × Operand)} {r:List (Nat × zA)},evp l e=some r →
  dC (fun p q=>p.1=q.1/\rA μ p.2 q.2) r (l.map fun x=>(x.1,ρ x.2)):=by
 intro l;induction l with
 | nil=>intro r k;unfold evp at k;rw[Dy]at k;cases k;exact .nil
 | cons x l ih=>
  intro r k;unfold evp at k;rw[dO,lA]at k;obtain⟨a,ha,k⟩:=k;rw[lA]at ha;obtain⟨a',ha,ha'⟩:=ha;cases ha';rw[lA]at k;obtain⟨b,hb,k⟩:=k;cases k;exact .cons ⟨rfl,h _ _ ha⟩ (ih hb)
def Zx(μ:Mu):Option zA->Option Value->Prop
 | none,none=>True
 | some a,some v=>rA μ a v
 | _,_=>False
def dF.opt{μ:Mu}{e:vD}{ρ:Operand->Value}(h:dF μ e ρ){x:Option Operand}{r:Option zA}(k:evo x e=some r):Zx μ r (x.map ρ):=by
 cases x with
 | none=>cases k;trivial
 | some x=>unfold evo at k;simp only[]at k;rw[lA]at k;obtain⟨a,ha,k⟩:=k;cases k;exact h _ _ ha
theorem rX(b off n:Nat):Addr.add ⟨b,off,none⟩ n=⟨b,off+n,none⟩:=by
 grind [Addr.add]
section
variable {P:Program}{C:fA}{B N:Nat}{μ:Mu}{H:pA}{w:World}
theorem Bg  (h:rD H b=some p):H.t.get b=some (.cells p.1 p.2.1 p.2.2):=by
 unfold rD at h;rw[lA]at h;obtain⟨x,hx,h⟩:=h;cases x<;>simp[qA.asCells]at h
 grind
theorem rB.cellAt(hH:rB B N μ H w)  (h:rD H b=some p) (hi:μ b=some i){j:Nat}{v:zA}(hv:p.1.get j=some v) :
  ∃v',w.cell? ⟨i.b,j,none⟩=some v'/\rA μ v v':=by
 obtain⟨o,h2,h3⟩:=hH.blk _ _ _ (Bg h) hi;obtain⟨cs,elem,fr,rfl,_,_,h4,_⟩:=h3
 grind [World.cell?]
theorem rB.manyAt(hH:rB B N μ H w)  (h:rD H b=some p) (hi:μ b=some i){n:Nat} (hl:p.1.many n off=some l) :
  ∃vs:List Value,vs.length=n/\pB μ l vs/\(loadCells ⟨i.b,off,none⟩ n).run P w=.ok vs.toArray w/\∀j,j<n->w.cell? ⟨i.b,off+j,none⟩=vs[j]?:=by
 obtain⟨h1,h2⟩:=Tr.many_some _ _ _ _ hl;have key:∀j,j<n->∃v',w.cell? ⟨i.b,off+j,none⟩=some v'/\∃a,l[j]?=some a/\rA μ a v':=by
  intro j hj;have h3:=h2 j hj
  cases hlj:l[j]? with
  | none=>grind
  | some a=>
   rw[hlj]at h3;obtain⟨v',h4,h5⟩:=hH.cellAt h hi h3
   simp_all
 let f:Nat->Value:=fun j=>(w.cell? ⟨i.b,off+j,none⟩).getD undef
 have hf:∀j,j<n->w.cell? ⟨i.b,off+j,none⟩=some (f j):=by
  grind
 refine⟨(List.range n).map f,by simp,?_,?_,?_⟩
 all_goals grind [pB.mk,run_loadCells,rX]
theorem GW(hH:rB B N μ H w) {ty:lD}(hty:dL P t ty)  (h:rD H b=some p) (hi:μ b=some i) {v:zA}
  (hv:qS ty p.1 off=some v):∃v',(loadVar t ⟨i.b,off,none⟩).run P w=.ok v' w/\rA μ v v':=by
 unfold qS at hv;unfold loadVar;rw[yad,hty.isAgg,yac]
 cases ha:ty.desc.isAgg with
 | true=>
  rw[ha,cond_true,lA]at hv;obtain⟨l,hl,hv⟩:=hv;cases hv;obtain⟨vs,_,h2,h3,_⟩:=hH.manyAt (P:=P) h hi hl;refine⟨.agg vs.toArray,?_,by grind [rA]⟩;rw[yab rfl,yad,hty.size,yac,yad,h3];rfl
 | false=>
  rw[ha,cond_false]at hv;obtain⟨v',h1,h2⟩:=hH.cellAt h hi hv;refine⟨v',?_,h2⟩;rw[yaa (by simp),run_load,h1]
theorem La(hT:jF P C)  {cs:Array Value}(hl:pB μ l cs.toList) {v:zA}(hv:jP C t l off=some v) :
  ∃v',(part t cs off).run P w=.ok v' w/\rA μ v v':=by
 unfold jP at hv;rw[lA]at hv;obtain⟨ty,hty,hv⟩:=hv;have hF:=hT.facts hty;unfold part;rw[yad,hF.isAgg,yac]
 cases ha:ty.desc.isAgg with
 | true=>
  rw[ha,cond_true]at hv;cases hv;refine⟨.agg (cs.extract off (off+ty.size)),?_,?_⟩
  ·rw[yab rfl,yad,hF.size];rfl
  ·rw[rA];refine⟨_,rfl,?_⟩;rw[iU,fU,Array.toList_extract,List.extract_eq_take_drop,Nat.add_sub_cancel_left];exact(hl.drop _).take _
 | false=>
  rw[ha,cond_false,vE]at hv;obtain⟨v',h1,h2⟩:=hl.get hv
  simp_all
def lI (P:Program)(μ:Mu)(w:World)(ρ:Operand->Value)(o:Oper)(v:zA):Prop:=∃v',(execOp ρ o).run P w=.ok (.value v') w/\rA μ v v'
variable {e:vD}{ρ:Operand->Value}{dst:Option Tmp}{type:TypeId}{pos:String}{after:Array Edge}{guard:Option (Nat × Bool)}{v:zA}
def HQ(hE:dF μ e ρ) (h:iW x C e H=some v):lI P μ w ρ ⟨dst,.move x,type,pos,after,guard⟩ v:=⟨ρ x,rfl,hE x v h⟩
def IL(hE:dF μ e ρ) (h:iW x C e H=some v):lI P μ w ρ ⟨dst,.assign x,type,pos,after,guard⟩ v:=⟨ρ x,rfl,hE x v h⟩
def HO(hE:dF μ e ρ){c b:Operand}(h:Lv c a b C e H=some v):lI P μ w ρ ⟨dst,.pick c a b,type,pos,after,guard⟩ v:=by
 unfold Lv at h;rw[lA]at h;obtain⟨cv,hc,h⟩:=h;rw[lA]at h;obtain⟨cb,hb,h⟩:=h;have h1:=hE _ _ hc;rw[Bi.1 hb,rA]at h1;unfold lI execOp;simp only[h1,asBool]
 cases cb with
 | true=>exact⟨ρ a,rfl,hE _ _ h⟩
 | false=>exact⟨ρ b,rfl,hE _ _ h⟩
theorem HV(hT:jF P C)(hH:rB B N μ H w)(hE:dF μ e ρ)  (h:bU t a C e H=some v):lI P μ w ρ ⟨dst,.load t a,type,pos,after,guard⟩ v:=by
 unfold bU at h;simp only[lA,Fh]at h;obtain⟨av,ha,p,rfl,ty,hty,c,hc,h⟩:=h;have h1:=hE _ _ ha;rw[rA]at h1;obtain⟨i,hi,hv⟩:=h1;obtain⟨v',h2,h3⟩:=GW (P:=P) hH (hT.facts hty) hc hi h;refine⟨v',?_,h3⟩
 grind [execOp,Instr.loadAt,Instr.sureAddr,Sem.run_bind,Sem.run_pure,Result.andThen_ok]
theorem HP(hE:dF μ e ρ) (h:dY x C e H=some v):lI P μ w ρ ⟨dst,.nilCheck x,type,pos,after,guard⟩ v:=by
 unfold dY at h;rw[lA]at h;obtain⟨a,ha,h⟩:=h;rw[oB]at h;obtain⟨hb,h⟩:=h;cases h;have h1:=hE _ _ ha;refine⟨ρ x,?_,h1⟩;cases v<;>simp[zA.tag,Nat.beq]at hb
 ·rw[rA]at h1;obtain⟨i,_,hv⟩:=h1
  simp_all [execOp]
 ·rename_i fn a b;rw[rA]at h1;obtain⟨fn',a',c',hv,hf,_⟩:=h1
  cases fn with
  | func f=>cases hf;simp_all [execOp]
  | yld l=>obtain⟨i,_,rfl⟩:=hf;simp_all [execOp]
def IC(hE:dF μ e ρ){fn:Fn}{a b:Array Operand}(h:(As fn a b).f C e H=some v):lI P μ w ρ ⟨dst,.makeFunc fn a b,type,pos,after,guard⟩ v:=by
 unfold As at h;split at h
 ·rename_i f;simp only[Ra,lA]at h;obtain⟨as,ha,bs,hb,h⟩:=h;cases h;refine⟨.func (.func f) (a.map ρ) (b.map ρ),rfl,?_⟩;rw[rA];exact⟨_,_,_,rfl,rfl,by simpa using hE.many ha,by simpa using hE.many hb⟩
 ·cases h
def IA(hT:jF P C)(hE:dF μ e ρ)  (h:Ar t x C e H=some v):lI P μ w ρ ⟨dst,.makeInterface t x,type,pos,after,guard⟩ v:=by
 unfold Ar at h;simp only[lA,oB]at h;obtain⟨ty,hty,hb,a,ha,h⟩:=h;cases h;obtain⟨d,hd,hn⟩:=LQ (hT.facts hty) hb;refine⟨.iface t (ρ x),?_,by rw[rA];exact⟨_,rfl,hE _ _ ha⟩⟩;simp only[execOp,Instr.makeInterface,yad,sF hd,yac];cases d<;>first | rfl | exact absurd rfl (hn _)
theorem IG(hE:dF μ e ρ){t:Operand}{i:Nat}(h:xV t i C e H=some v):lI P μ w ρ ⟨dst,.extract t i,type,pos,after,guard⟩ v:=by
 unfold xV at h;simp only[lA,ZH,vE]at h;obtain⟨a,ha,l,rfl,h⟩:=h;have h1:=hE _ _ ha;rw[rA]at h1;obtain⟨cs,hv,hl⟩:=h1;obtain⟨v',h2,h3⟩:=hl.get h;refine⟨v',?_,h3⟩
 simp_all [execOp,Instr.extract]
theorem ID(hT:jF P C)(hE:dF μ e ρ)   (h:Au t x f C e H=some v):lI P μ w ρ ⟨dst,.field t x f,type,pos,after,guard⟩ v:=by
 unfold Au at h;simp only[lA,Ip,vE]at h;obtain⟨ty,hty,fs,hfs,fd,hfd,a,ha,l,rfl,h⟩:=h;obtain⟨g,hg,rfl⟩:=Et (hT.facts hty) hfs;have h1:=hE _ _ ha;rw[rA]at h1;obtain⟨cs,hv,hl⟩:=h1;rw[ybu]at hfd
 cases hgf:g.toList[f]? with
 | none=>simp_all
 | some fld=>
  rw[hgf]at hfd;simp at hfd;subst hfd;obtain⟨v',h2,h3⟩:=La (w:=w) hT hl h;refine⟨v',?_,h3⟩
  simp_all [execOp,Instr.field,sF,asAgg]
theorem IF(hT:jF P C)(hE:dF μ e ρ){s:Nat}  (h:yV s x f C e H=some v):lI P μ w ρ ⟨dst,.fieldAddr s x f,type,pos,after,guard⟩ v:=by
 unfold yV at h;simp only[lA,Fh,vE,oB]at h;obtain⟨ty,hty,fs,hfs,fd,hfd,hz,a,ha,p,rfl,h⟩:=h;cases h;obtain⟨g,hg,rfl⟩:=Et (hT.facts hty) hfs;have h1:=hE _ _ ha;rw[rA]at h1;obtain⟨i,hi,hv⟩:=h1;rw[ybu]at hfd
 cases hgf:g.toList[f]? with
 | none=>simp_all
 | some fld=>
  rw[hgf]at hfd;simp at hfd;subst hfd;refine⟨.pointer (some ⟨i.b,p.2+fld.offset,none⟩),?_,by grind [rA]⟩;have h4:g[f]?=some fld:=by simp_all
  have h5:P.cellsOf fld.type≠0:=by
   grind [beqf]
  have h6:(sizeOf fld.type).run P w=.ok (P.cellsOf fld.type) w:=by
   unfold Program.cellsOf at h5 ⊢
   cases hinf:P.info? fld.type with
   | none=>simp_all
   | some inf=>simp[sizeOf,Db hinf]
  simp_all [execOp,Instr.fieldAt,sF,Instr.sureAddr,fieldPlace,rX]
end
end Go.Am
namespace Go.Am
open Go
section
variable {P:Program}{C:fA}{B N:Nat}{μ:Mu}{H:pA}{w:World}
variable {e:vD}{ρ:Operand->Value}{dst:Option Tmp}{type:TypeId}{pos:String}{after:Array Edge}{guard:Option (Nat × Bool)}{v:zA}
theorem Ce{k:IntKind}{n:Nat}(h:n<nH k):k.wrap (n:Int)=n:=by
 rw[<- sN];show(bif Nat.blt n (nH k)then Int.ofNat n else _)=_
 grind [sC]
def Xs(k:IntKind):∃m,nH k=2^m/\m<=k.bits:=by
 cases k
 ·exact⟨7,rfl,by decide⟩
 ·exact⟨15,rfl,by decide⟩
 ·exact⟨31,rfl,by decide⟩
 ·exact⟨63,rfl,by decide⟩
 ·exact⟨8,rfl,by decide⟩
 ·exact⟨16,rfl,by decide⟩
 ·exact⟨32,rfl,by decide⟩
 ·exact⟨64,rfl,by decide⟩
def nZ{k:IntKind}{n:Nat}(h:n<nH k):(BitVec.ofInt k.bits (n:Int)).toNat=n:=by
 obtain⟨m,hm,hle⟩:=Xs k;rw[BitVec.toNat_ofInt];have:n<2^k.bits:=Nat.lt_of_lt_of_le (hm ▸ h) (yao (by omega) hle);rw[<- Int.natCast_emod,Int.toNat_natCast,Nat.mod_eq_of_lt this]
theorem Rk{f:Nat->Nat->Nat}{k:IntKind}{a b:Int}{v:zA}(h:qJ f k a b=some v):∃x y:Nat,a=x/\b=y/\x<nH k/\y<nH k/\v=.int k (f x y:Nat):=by
 grind [qJ,lA,Li,oB,sC]
theorem zbb{op:BinOp}{k:IntKind}{a b:Int}(h:(Zp op).f k a b=some v):op≠.shl/\op≠.shr/\∀t,∃v',(binOp op t (.int k a) (.int k b)).run P w=.ok v' w/\rA μ v v':=by
 cases op<;>simp only[Zp]at h
 case add=>cases h;simp_all [binOp,Op.intArith,rA,sN]
 case sub=>cases h;simp_all [binOp,Op.intArith,rA,sN]
 case mul=>cases h;simp_all [binOp,Op.intArith,rA,sN]
 case quo=>
  unfold zZ at h;simp only[nD,fW]at h;split at h
  ·cases h
  ·rename_i hb;cases h
   simp_all [rA,sN,binOp,Op.intDiv]
 case rem=>
  unfold aY at h;simp only[nD,fW]at h;split at h
  ·cases h
  ·rename_i hb;cases h
   simp_all [rA,binOp,Op.intDiv]
 case and=>
  unfold iAnd at h;split at h
  ·obtain⟨x,y,rfl,rfl,hx,hy,rfl⟩:=Rk h;refine⟨by simp,by simp,fun t=>⟨.int k ((x &&& y:Nat):Int),?_,by rw[rA];rfl⟩⟩;have h1:x &&& y<nH k:=yam Nat.and_le_left hx;simp only[binOp,Op.intBits,BitVec.toNat_and,nZ hx,nZ hy,Ce h1];simp
  ·simp only[lA,Li,oB,sC]at h;obtain⟨y,rfl,hy,h⟩:=h;cases h;have e:(BitVec.ofInt k.bits a).toNat=Int.toNat (Int.emod a (.ofNat (kW k))):=by
    rw[BitVec.toNat_ofInt];cases k<;>rfl
   generalize Int.toNat (Int.emod a (.ofNat (kW k)))=x at e ⊢;refine⟨by simp,by simp,fun t=>⟨.int k ((x &&& y:Nat):Int),?_,by rw[rA];rfl⟩⟩;have h1:x &&& y<nH k:=yam Nat.and_le_right hy;simp only[binOp,Op.intBits,BitVec.toNat_and,e,nZ hy,Ce h1];simp
 case or=>
  obtain⟨x,y,rfl,rfl,hx,hy,rfl⟩:=Rk h;obtain⟨m,hm,_⟩:=Xs k;refine⟨by simp,by simp,fun t=>⟨.int k ((x ||| y:Nat):Int),?_,by rw[rA];rfl⟩⟩;have h1:x ||| y<nH k:=by simp_all [Nat.or_lt_two_pow]
  simp only[binOp,Op.intBits,BitVec.toNat_or,nZ hx,nZ hy,Ce h1];simp
 case xor=>
  obtain⟨x,y,rfl,rfl,hx,hy,rfl⟩:=Rk h;obtain⟨m,hm,_⟩:=Xs k;refine⟨by simp,by simp,fun t=>⟨.int k ((x ^^^ y:Nat):Int),?_,by rw[rA];rfl⟩⟩;have h1:x ^^^ y<nH k:=by simp_all [Nat.xor_lt_two_pow]
  simp only[binOp,Op.intBits,BitVec.toNat_xor,nZ hx,nZ hy,Ce h1];simp
 case eql=>cases h;simp_all [binOp,Op.intCmp,rA,xZ]
 case neq=>cases h;exact⟨by simp,by simp,fun t=>⟨.bool (a != b),by simp[binOp,Op.intCmp],by rw[rA,xZ];rfl⟩⟩
 case lss=>cases h;simp_all [binOp,Op.intCmp,rA,zf9]
 case leq=>cases h;simp_all [binOp,Op.intCmp,rA,zga]
 case gtr=>cases h;simp_all [binOp,Op.intCmp,rA,zf9]
 case geq=>cases h;simp_all [binOp,Op.intCmp,rA,zga]
 all_goals cases h
theorem Il(s:ByteArray):(qF s).length=s.size:=by simp[qF]
theorem YU(a b:ByteArray):qF (a++b)=qF a++qF b:=by simp[qF]
theorem YT(s:ByteArray)(i:Nat):(qF s)[i]?=(s[i]?).map UInt8.toNat:=by
 unfold qF;rw[ybu];congr 1;by_cases h:i<s.size
 all_goals simp_all [ByteArray.getElem_eq_getElem_data]
theorem NF(s:ByteArray)(l h:Nat):qF (s.extract l h)=((qF s).take h).drop l:=by
 unfold qF;rw[ByteArray.data_extract,Array.toList_extract,List.extract_eq_take_drop,<- List.map_take,<- List.map_drop,List.drop_take]
theorem NG{a b:ByteArray}:(a.toList == b.toList)=(wH (qF a) (qF b)):=by
 grind [Lib.toList_data,wL,qF,Sl]
theorem VW(a:List UInt8):∀b:List UInt8,Op.bytesLess a b=Xj (a.map UInt8.toNat) (b.map UInt8.toNat):=by
 induction a with
 | nil=>intro b;cases b<;>rfl
 | cons x a ih=>
  intro b
  cases b with
  | nil=>rfl
  | cons y b=>
   show _=(bif Nat.blt x.toNat y.toNat then true else bif Nat.beq x.toNat y.toNat then Xj (a.map UInt8.toNat) (b.map UInt8.toNat)else false)
   grind [Op.bytesLess,sC,UInt8.lt_iff_toNat_lt,UInt8.toNat_inj,gC]
theorem zba{op:BinOp}{a b:ByteArray}(h:(Zn op).f (qF a) (qF b)=some v):op≠.shl/\op≠.shr/\∀t,∃v',(binOp op t (.string a) (.string b)).run P w=.ok v' w/\rA μ v v':=by
 cases op<;>simp only[Zn]at h
 case add=>
  simp only[bI,oB,sC,oD,fH,Il]at h;obtain⟨h1,h⟩:=h;cases h;refine⟨by simp,by simp,fun t=>⟨.string (a++b),?_,by grind [rA,YU]⟩⟩;have h2:¬ (((a.size+b.size:Nat):Int) > IntKind.i64.max):=by
   have:IntKind.i64.max=9223372036854775807:=by decide
   omega
  simp_all [binOp,Op.stringOp]
 case eql=>cases h;exact⟨by simp,by simp,fun t=>⟨.bool (a.toList == b.toList),rfl,by rw[rA,NG]⟩⟩
 case neq=>cases h;exact⟨by simp,by simp,fun t=>⟨.bool !(a.toList == b.toList),rfl,by rw[rA,NG]⟩⟩
 case lss=>cases h;exact⟨by simp,by simp,fun t=>⟨.bool (Op.bytesLess a.toList b.toList),rfl,by rw[rA,Lib.toList_data,Lib.toList_data,VW];rfl⟩⟩
 all_goals cases h
theorem Mk{op:BinOp}{t:TypeId}{x y:Operand}{a b:Value}(h1:¬ (a=.nilIface/\b=.nilIface)\/(Mb x||Mb y)=true)(h2:∀l m,¬ (a=.agg l/\b=.agg m)):(eqGuard op t x y a b).run P w=.ok () w:=by
 unfold eqGuard;cases op
 case eql | neq=>
  rw[yaa (by simp)];split
  ·rcases h1 with h1 | h1
   ·simp_all
   ·cases x<;>cases y<;>simp[Mb]at h1 ⊢
  all_goals simp_all
 all_goals rfl
theorem XK{op:BinOp}{t:TypeId}{x y:Operand}{l m:Array Value}(h:P.eqGuardType P.depth t=false):(eqGuard op t x y (.agg l) (.agg m)).run P w=.ok () w:=by
 simp_all [eqGuard]
theorem Gt{op:BinOp}{t yt:TypeId}{x y:Operand}{v':Value}(h1:(eqGuard op t x y (ρ x) (ρ y)).run P w=.ok () w)(h2:(binOp op t (ρ x) (ρ y)).run P w=.ok v' w) :
  (execOp ρ ⟨dst,.binOp op t x y yt,type,pos,after,guard⟩).run P w=.ok (.value v') w:=by
 simp_all [execOp]
theorem DL{k:IntKind}{b:Int}{n:Nat}(h:Cx k b=some n):¬ b<0/\n=min b.toNat k.bits:=by
 grind [Cx,lA,Li]
theorem NN{op:BinOp}{t yt:TypeId}{x y:Operand}{a b:zA}(hx:rA μ a (ρ x))(hy:rA μ b (ρ y))
  (h:(op=.shl/\Mt uV a b=some v)\/(op=.shr/\Mt Ef a b=some v)):lI P μ w ρ ⟨dst,.binOp op t x y yt,type,pos,after,guard⟩ v:=by
 rcases h with⟨rfl,h⟩ | ⟨rfl,h⟩
 all_goals
  unfold Mt at h;simp only[lA,lV,Zq]at h;obtain⟨p,rfl,n,⟨k',rfl⟩,h⟩:=h;rw[rA]at hx hy
 ·unfold uV at h;rw[lA]at h;obtain⟨m,hm,h⟩:=h;cases h;obtain⟨h1,rfl⟩:=DL hm;refine⟨.int p.1 (p.1.wrap (p.2*2^(min n.toNat p.1.bits))),Gt (Mk (.inl (by grind)) (by grind)) ?_,by rw[rA,sN];simp⟩;rw[hx,hy];simp[binOp,Op.shift,h1]
 ·unfold Ef at h;rw[lA]at h;obtain⟨m,hm,h⟩:=h;cases h;obtain⟨h1,rfl⟩:=DL hm;refine⟨.int p.1 (p.2.fdiv (2^(min n.toNat p.1.bits))),Gt (Mk (.inl (by grind)) (by grind)) ?_,by rw[rA];simp⟩;rw[hx,hy];simp[binOp,Op.shift,h1]
theorem Mj{n m:Nat}{a b:zA}{r:Bool}(h:Bd n m a b=some r):(a.tag=n/\b.tag=n/\r=true)\/(a.tag=n/\b.tag=m/\r=false)\/(a.tag=m/\b.tag=n/\r=false):=by
 grind [Bd,gC,oB]
theorem zat{t:Nat}{ty:lD}(hF:dL P t ty){a b:zA}{va vb:Value}(ha:rA μ a va)(hb:rA μ b vb){r:Bool}{d:Nat}(h:Ml ty.desc a b=some r) :
  (Op.equalIn (d+1) t va vb).run P w=.ok r w:=by
 obtain⟨D,hD⟩:=hF.und;have h0:=hF.desc;unfold zP at h0;rw[hD]at h0;unfold Op.equalIn;rw[yad,sF hD,yac];rw[<- h0]at h;cases D<;>simp only[Ml]at h<;>try (cases h;done)
 case bool=>
  simp only[Ia,lA,Bi]at h;obtain⟨x,rfl,y,rfl,h⟩:=h
  simp_all [rA,wU]
 case int k=>
  simp only[zi4,lA,lV,oB,eL]at h;obtain⟨x,rfl,y,rfl,hk,h⟩:=h
  simp_all [rA,xZ]
 case string=>
  simp only[Yz,lA,mV]at h;obtain⟨x,rfl,y,rfl,h⟩:=h;cases h;rw[rA]at ha hb;obtain⟨s,rfl,rfl⟩:=ha;obtain⟨u,rfl,rfl⟩:=hb;have:(s == u)=wH (qF s) (qF u):=by
   rw[Bool.eq_iff_iff,wL];have h1:(s == u)=(s.data == u.data):=rfl
   grind [qF,Sl]
  simp_all
 case pointer el=>
  rcases Mj h with⟨h1,h2,rfl⟩ | ⟨h1,h2,rfl⟩ | ⟨h1,h2,rfl⟩<;>cases a<;>simp[zA.tag]at h1<;>cases b<;>simp[zA.tag]at h2<;>rw[rA]at ha<;>rw[rA]at hb
  ·simp_all
  ·obtain⟨i,_,hb⟩:=hb;simp_all
  ·obtain⟨i,_,ha⟩:=ha;simp_all
 case slice el=>
  rcases Mj h with⟨h1,h2,rfl⟩ | ⟨h1,h2,rfl⟩ | ⟨h1,h2,rfl⟩<;>cases a<;>simp[zA.tag]at h1<;>cases b<;>simp[zA.tag]at h2<;>rw[rA]at ha<;>rw[rA]at hb
  ·simp_all
  ·rcases hb with⟨i,_,_,hb,_⟩ | ⟨_,_,_,_,_,hb,_⟩ <;> (simp_all)
  ·rcases ha with⟨i,_,_,ha,_⟩ | ⟨_,_,_,_,_,ha,_⟩ <;> (simp_all)
 case map k el=>
  rcases Mj h with⟨h1,h2,rfl⟩ | ⟨h1,h2,rfl⟩ | ⟨h1,h2,rfl⟩<;>cases a<;>simp[zA.tag]at h1<;>cases b<;>simp[zA.tag]at h2<;>rw[rA]at ha<;>rw[rA]at hb
  ·simp_all
  ·obtain⟨i,_,hb⟩:=hb;simp_all
  ·obtain⟨i,_,ha⟩:=ha;simp_all
 case func ps rs vd=>
  rcases Mj h with⟨h1,h2,rfl⟩ | ⟨h1,h2,rfl⟩ | ⟨h1,h2,rfl⟩<;>cases a<;>simp[zA.tag]at h1<;>cases b<;>simp[zA.tag]at h2<;>rw[rA]at ha<;>rw[rA]at hb
  ·simp_all
  ·obtain⟨i,_,_,hb,_⟩:=hb;simp_all
  ·obtain⟨i,_,_,ha,_⟩:=ha;simp_all
 case interface ms=>
  rcases Mj h with⟨h1,h2,rfl⟩ | ⟨h1,h2,rfl⟩ | ⟨h1,h2,rfl⟩<;>cases a<;>simp[zA.tag]at h1<;>cases b<;>simp[zA.tag]at h2<;>rw[rA]at ha<;>rw[rA]at hb
  ·simp_all
  ·obtain⟨i,hb,_⟩:=hb;simp_all
  ·obtain⟨i,ha,_⟩:=ha;simp_all
theorem KX{t:Nat}{g:Array Field}(h:P.underlying t=some (.struct g)):P.fieldsOf t=g:=by unfold Program.fieldsOf;rw[h]
theorem zel(hT:jF P C){D:Nat}{eq:Nat->zA->zA->Option Bool}(heq:∀t a b va vb r,rA μ a va->rA μ b vb->eq t a b=some r->(Op.equalIn D t va vb).run P w=.ok r w)
  {xs ys : List zA} {vx vy : Array Value} (hx : pB μ xs vx.toList) (hy : pB μ ys vy.toList) : ∀ (g : List Field) (r : Bool), (∀ f ∈ g, f.name ≠ "_") -> Ir C eq xs ys (g.map fun f => (f.offset, f.type, P.cellsOf f.type)) = some r →
   (Op.eqFields D vx vy g).run P w=.ok r w:=by
 intro g;induction g with
 | nil=>intro r _ h;cases h;rfl
 | cons f g ih=>
  intro r hn h;rw[ycm,Ir]at h;simp only[lA]at h;obtain⟨a,ha,b,hb,q,hq,h⟩:=h;obtain⟨va,h1,h2⟩:=La (P:=P) (w:=w) hT hx ha;obtain⟨vb,h3,h4⟩:=La (P:=P) (w:=w) hT hy hb;have h5:=heq _ _ _ _ _ _ h2 h4 hq;rw[Op.eqFields,yab (hn f (by simp))];simp only[yad,h1,yac,h3,h5]
  cases q with
  | true=>grind
  | false=>simp_all
theorem zgk(hT:jF P C):∀(d D t:Nat) (a b:zA) (va vb:Value) (r:Bool),d<=D->rA μ a va->rA μ b vb->aeq C d t a b=some r->(Op.equalIn D t va vb).run P w=.ok r w:=by
 intro d;induction d with
 | zero=>intro D t a b va vb r _ _ _ h;cases h
 | succ d ih=>
  intro D t a b va vb r hD ha hb h
  cases D with
  | zero=>omega
  | succ D=>
   rw[aeq,lA]at h;obtain⟨ty,hty,h⟩:=h;have hF:=hT.facts hty;split at h
   ·rename_i fs hfs;simp only[oB,lA,Ip]at h;obtain⟨hok,xs,rfl,ys,rfl,h⟩:=h;obtain⟨g,hg,rfl⟩:=Et hF hfs;obtain⟨h1,_,h3⟩:=hF.eqOk hok
    grind [rA,KX,run_equalIn_struct,zel]
   grind [zat]
theorem zjx(hT:jF P C){d t:Nat}{a b:zA}{l m:Array Value}{r:Bool}(ha:rA μ a (.agg l))(hb:rA μ b (.agg m))(h:aeq C d t a b=some r):P.eqGuardType P.depth t=false:=by
 cases d with
 | zero=>cases h
 | succ d=>
  rw[aeq,lA]at h;obtain⟨ty,hty,h⟩:=h;split at h
  ·rw[oB]at h;exact((hT.facts hty).eqOk h.1).2.1
  ·exfalso;have hag:∀(a:zA) (l:Array Value),rA μ a (.agg l)->a.tag=13:=by
    intro a l ha;cases a<;>rw[rA]at ha<;>first | rfl | (exfalso;revert ha;simp)
   have h1:=hag _ _ ha;have h2:=hag _ _ hb;cases a<;>simp[zA.tag]at h1;cases b<;>simp[zA.tag]at h2;revert h;cases ty.desc<;>simp[Ml,Ia,zA.asBool,zi4,zA.asIntK,Yz,zA.asStr,Bd,Rv,zA.tag,vB,Nat.beq]
def BQ{a:zA}{v:Value}(h:rA μ a v):v=.nilIface->a.tag=12:=by
 intro hv;subst hv;cases a<;>rw[rA]at h<;>first | rfl | (exfalso;revert h;simp)
theorem NP(hT:jF P C){op:BinOp}{t yt:TypeId}{x y:Operand}{a b:zA}{neg:Bool}(hx:rA μ a (ρ x))(hy:rA μ b (ρ y))(ha:a.asIntK=none)(hs:a.asStr=none)
  (hop:(neg=false/\op=.eql)\/(neg=true/\op=.neq)) (h:Sp neg C t x y a b=some v):lI P μ w ρ ⟨dst,.binOp op t x y yt,type,pos,after,guard⟩ v:=by
 unfold Sp at h;simp only[oB,lA]at h;obtain⟨hg,r,hr,h⟩:=h;cases h;have h1:(Op.equal t (ρ x) (ρ y)).run P w=.ok r w:=zgk hT 20 10000 t a b _ _ r (by decide) hx hy hr;have hG:(eqGuard op t x y (ρ x) (ρ y)).run P w=.ok () w:=by
  by_cases hag:∃l m,ρ x=.agg l/\ρ y=.agg m
  ·grind [XK,zjx]
  ·refine Mk ?_ fun l m hlm=>hag ⟨l,m,hlm⟩;by_cases hn:ρ x=.nilIface/\ρ y=.nilIface
   ·right
    have h2:=BQ hx hn.1;have h3:=BQ hy hn.2
    simp_all [LJ]
   simp_all
 have hnx:∀k n,ρ x≠.int k n:=by
  intro k n hv;rw[hv]at hx;cases a<;>rw[rA]at hx<;>first | (simp[zA.asIntK]at ha;done) | (revert hx;simp)
 have hsx:∀s,ρ x≠.string s:=by
  intro s hv;rw[hv]at hx;cases a<;>rw[rA]at hx<;>first | (simp[zA.asStr]at hs;done) | (revert hx;simp)
 have hfx:∀k n,ρ x≠.float k n:=by
  intro k n hv;rw[hv]at hx;cases a<;>rw[rA]at hx<;>revert hx<;>simp
 have hcx:∀k n m,ρ x≠.complex k n m:=by
  intro k n m hv;rw[hv]at hx;cases a<;>rw[rA]at hx<;>revert hx<;>simp
 rcases hop with⟨rfl,rfl⟩ | ⟨rfl,rfl⟩
 ·refine⟨.bool r,Gt hG ?_,by rw[rA];rfl⟩;revert h1 hnx hsx hfx hcx;generalize ρ x=vx;generalize ρ y=vy;intro h1 hnx hsx hfx hcx;cases vx<;>first
   | exact absurd rfl (hnx _ _)
   | exact absurd rfl (hsx _)
   | exact absurd rfl (hfx _ _)
   | exact absurd rfl (hcx _ _ _)
   | simp[binOp,h1]
 ·refine⟨.bool (!r),Gt hG ?_,by rw[rA];rfl⟩;revert h1 hnx hsx hfx hcx;generalize ρ x=vx;generalize ρ y=vy;intro h1 hnx hsx hfx hcx;cases vx<;>first
   | exact absurd rfl (hnx _ _)
   | exact absurd rfl (hsx _)
   | exact absurd rfl (hfx _ _)
   | exact absurd rfl (hcx _ _ _)
   | simp[binOp,h1]
theorem IK(hT:jF P C)(hE:dF μ e ρ){op:BinOp}{t yt:Nat}{x y:Operand}(h:wV op t x y C e H=some v):lI P μ w ρ ⟨dst,.binOp op t x y yt,type,pos,after,guard⟩ v:=by
 unfold wV at h;simp only[lA]at h;obtain⟨a,ha,b,hb,h⟩:=h;have hx:=hE _ _ ha;have hy:=hE _ _ hb;clear ha hb;revert h;have plain:∀op,op≠.shl->op≠.shr->Zo op C t x y a b=some v->lI P μ w ρ ⟨dst,.binOp op t x y yt,type,pos,after,guard⟩ v:=by
  intro op _ _ h;unfold Zo at h;split at h
  ·rename_i i hi;simp only[lA,lV,oB,eL]at h;obtain⟨j,rfl,hk,h⟩:=h;rw[lV]at hi;subst hi;rw[rA]at hx;rw[rA]at hy;obtain⟨_,_,h2⟩:=zbb (P:=P) (μ:=μ) (w:=w) h;obtain⟨v',h3,h4⟩:=h2 t;refine⟨v',Gt (Mk (.inl (by grind)) (by grind)) ?_,h4⟩
   simp_all
  ·rename_i hi;split at h
   ·rename_i s hs;simp only[lA,mV]at h;obtain⟨u,rfl,h⟩:=h;rw[mV]at hs;subst hs;rw[rA]at hx;rw[rA]at hy;obtain⟨sx,hx,rfl⟩:=hx;obtain⟨sy,hy,rfl⟩:=hy;obtain⟨_,_,h2⟩:=zba (P:=P) (μ:=μ) (w:=w) h;obtain⟨v',h3,h4⟩:=h2 t;refine⟨v',Gt (Mk (.inl (by grind)) (by grind)) ?_,h4⟩
    simp_all
   ·rename_i hs;cases op<;>simp only[NO]at h<;>first
     | exact NP hT hx hy hi hs (.inl ⟨rfl,rfl⟩) h
     | exact NP hT hx hy hi hs (.inr ⟨rfl,rfl⟩) h
     | (cases h;done)
 intro h;cases op<;>simp only[zN]at h<;>first
  | exact NN hx hy (.inl ⟨rfl,h⟩)
  | exact NN hx hy (.inr ⟨rfl,h⟩)
  | exact plain _ (by simp) (by simp) h
theorem Xr{k:IntKind}(h:kLo k=0):nH k=2^k.bits:=by
 cases k<;>first
  | (cases h;done)
  | rfl
theorem zfk(hE:dF μ e ρ){op:UnOp}{t:Nat}{x:Operand}(h:lUn op x C e H=some v):lI P μ w ρ ⟨dst,.unOp op t x,type,pos,after,guard⟩ v:=by
 unfold lUn at h;simp only[lA]at h;obtain⟨a,ha,h⟩:=h;have hx:=hE _ _ ha;cases op<;>simp only[unA]at h<;>try (cases h;done)
 case neg=>
  simp only[unNeg,lA,lV]at h;obtain⟨p,rfl,h⟩:=h;cases h;rw[rA]at hx;refine⟨.int p.1 (p.1.wrap (0-p.2)),?_,by rw[rA,sN]⟩;simp[execOp,hx,Op.unary,Op.intArith]
 case xor=>
  simp only[Cm,lA,lV,oB,gC]at h;obtain⟨p,rfl,hk,h⟩:=h;obtain⟨a,b,ha1,hb,hx1,hy,rfl⟩:=Rk h;rw[rA]at hx;have h1:Nat.xor a b<nH p.1:=by
   have:Nat.xor a b<2^p.1.bits:=Nat.xor_lt_two_pow (by grind [Xr]) (by grind [Xr])
   grind [Xr]
  refine⟨.int p.1 (Nat.xor a b:Nat),?_,by rw[rA]⟩;have hm:(if p.1.signed then(-1:Int)else p.1.max)=(a:Int):=by
   rw[<- ha1];revert hk;cases p.1<;>intro hk<;>first
    | (cases hk;done)
    | rfl
  have e2:(Op.intBits .xor p.1 (if p.1.signed then -1 else p.1.max) p.2).run P w=.ok (.int p.1 (Nat.xor a b:Nat)) w:=by
   rw[hm,hb];simp only[Op.intBits,BitVec.toNat_xor,nZ hx1,nZ hy];rw[show(a ^^^ b:Nat)=Nat.xor a b from rfl,Ce h1];rfl
  simp_all [execOp,Op.unary]
 case not=>
  simp only[unNot,lA,Bi]at h;obtain⟨b,rfl,h⟩:=h;cases h;rw[rA]at hx;refine⟨.bool (!b),?_,by rw[rA]⟩;simp[execOp,hx,Op.unary]
end
end Go.Am
