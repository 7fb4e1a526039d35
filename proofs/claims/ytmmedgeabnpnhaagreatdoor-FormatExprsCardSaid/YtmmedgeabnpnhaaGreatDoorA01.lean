/- -/
import Derived.Below
import Derived.Calls
import Derived.Laws.Cells
import Derived.Laws.Sem
import Derived.Laws.StructEq
import Derived.Laws.World
import Derived.Lib.Strings
set_option linter.all false
noncomputable section
namespace Go.Am
def yaa := @if_neg
def yab := @if_pos
def yac := @Result.andThen_ok
def yad := @Sem.run_bind
def yae := @Sem.run_pure
def yaf := @List.mem_append
def yag := @Nat.pow_succ
def yah := @List.nil_append
def yai := @Option.bind_some
def yaj := @Array.getElem?_append_left
def yak := @List.drop_eq_nil_iff
def yal := @Bool.or_eq_false_iff
def yam := @Nat.lt_of_le_of_lt
def yan := @Nat.le_mul_of_pos_left
def yao := @Nat.pow_le_pow_right
def yap := @Nat.add_comm
def yaq := @List.mem_map
def yar := @Option.map_eq_some_iff
def yas := @List.flatten_cons
def yat := @Nat.mul_zero
def yau := @Nat.lt_or_ge
def yav := @Nat.eq_zero_or_pos
def yaw := @Nat.zero_le
def yax := @Array.toList_inj
def yay := @Bool.and_false
def yaz := @List.getElem?_cons_zero
def yba := @List.getElem?_cons_succ
def ybb := @Bool.and_eq_true
def ybc := @List.getElem?_eq_some_iff
def ybd := @List.getElem?_eq_getElem
def ybe := @Array.getElem?_eq_some_iff
def ybf := @List.length_map
def ybg := @List.length_append
def ybh := @Nat.mul_comm
def ybi := @Nat.mul_le_mul_right
def ybj := @Nat.mul_assoc
def ybk := @Nat.le_refl
def ybl := @List.drop_eq_getElem_cons
def ybm := @Nat.mul_add
def ybn := @List.length_cons
def ybo := @Nat.add_mul
def ybp := @List.getElem?_append_right
def ybq := @Bool.false_eq_true
def ybr := @List.mem_cons_of_mem
def ybs := @List.mem_cons
def ybt := @List.drop_eq_nil_of_le
def ybu := @List.getElem?_map
def ybv := @Nat.mul_le_mul_left
def ybw := @Nat.zero_add
def ybx := @List.length_nil
def yby := @List.mem_cons_self
def ybz := @List.append_assoc
def yca := @List.take_of_length_le
def ycb := @List.all_eq_true
def ycc := @List.length_eq_zero_iff
def ycd := @List.append_nil
def yce := @Nat.dvd_mul_left_of_dvd
def ycf := @List.mem_append_right
def ycg := @List.all_cons
def ych := @Nat.div_add_mod
def yci := @Option.some.inj
def ycj := @List.getElem_mem
def yck := @List.all_nil
def ycl := @Bool.not_false
def ycm := @List.map_cons
def ycn := @Bool.true_and
def yco := @List.getElem?_append_left
def ycp := @Bool.not_eq_true'
def ycq := @Bool.or_eq_true
def ycr := @List.drop_zero
def ycs := @Array.getElem?_setIfInBounds
def yct := @Nat.add_zero
def ycu := @Nat.div_lt_of_lt_mul
def ycv := @List.mem_of_getElem?
def ycw := @List.getElem?_set
def ycx := @Array.getD_eq_getD_getElem?
def ycy := @Nat.mod_lt
def ycz := @Array.length_toList
def yda := @List.length_take
def ydb := @Nat.mul_le_mul
def ydc := @List.mem_append_left
def ydd := @List.mem_singleton
def yde := @List.getElem?_drop
def ydf := @List.getElem?_take
def ydg := @List.take_add_one
def ydh := @List.length_set
def ydi := @List.all_append
def ydj := @List.length_drop
end Go.Am
namespace Go.Am
inductive Tr (α:Type) where
 | leaf
 | node (l:Tr α) (v:Option α) (r:Tr α)
def ob {α β:Type}(x:Option α)(f:α->Option β):Option β:=Option.rec (motive:=fun _=>Option β) none f x
namespace Tr
variable {α:Type}
def get (t:Tr α):Nat->Option α:=
 Tr.rec (motive:=fun _=>Nat->Option α) (fun _=>none)
  (fun _ v _ gl gr n=>Bool.rec (motive:=fun _=>Option α) (Bool.rec (motive:=fun _=>Option α) (gr (Nat.pred (Nat.div n (nat_lit 2)))) (gl (Nat.div n (nat_lit 2))) (Nat.beq (Nat.mod n (nat_lit 2)) (nat_lit 1))) v (Nat.beq n (nat_lit 0))) t
def mk (f:Nat):Nat->α->Tr α:=
 Nat.rec (motive:=fun _=>Nat->α->Tr α) (fun _ _=>leaf)
  (fun _ g n v=>Bool.rec (motive:=fun _=>Tr α) (Bool.rec (motive:=fun _=>Tr α) (node leaf none (g (Nat.pred (Nat.div n (nat_lit 2))) v)) (node (g (Nat.div n (nat_lit 2)) v) none leaf) (Nat.beq (Nat.mod n (nat_lit 2)) (nat_lit 1))) (node leaf (some v) leaf) (Nat.beq n (nat_lit 0))) f
def set (t:Tr α):Nat->α->Tr α:=
 Tr.rec (motive:=fun _=>Nat->α->Tr α) (fun n v=>mk (Nat.succ n) n v)
  (fun l x r gl gr n v=>Bool.rec (motive:=fun _=>Tr α) (Bool.rec (motive:=fun _=>Tr α) (node l x (gr (Nat.pred (Nat.div n (nat_lit 2))) v)) (node (gl (Nat.div n (nat_lit 2)) v) x r) (Nat.beq (Nat.mod n (nat_lit 2)) (nat_lit 1))) (node l (some v) r) (Nat.beq n (nat_lit 0))) t
def del (t:Tr α):Nat->Tr α:=
 Tr.rec (motive:=fun _=>Nat->Tr α) (fun _=>leaf)
  (fun l x r gl gr n=>Bool.rec (motive:=fun _=>Tr α) (Bool.rec (motive:=fun _=>Tr α) (node l x (gr (Nat.pred (Nat.div n (nat_lit 2))))) (node (gl (Nat.div n (nat_lit 2))) x r) (Nat.beq (Nat.mod n (nat_lit 2)) (nat_lit 1))) (node l none r) (Nat.beq n (nat_lit 0))) t
def many (t:Tr α)(n:Nat):Nat->Option (List α):=
 Nat.rec (motive:=fun _=>Nat->Option (List α)) (fun _=>some [])
  (fun _ g i=>ob (t.get i) fun v=>ob (g (i+1)) fun l=>some (v::l)) n
def setMany(l:List α):Tr α->Nat->Tr α:=
 List.rec (motive:=fun _=>Tr α->Nat->Tr α) (fun t _=>t) (fun v _ g t i=>g (t.set i v) (i+1)) l
def ofList(l:List α):Tr α:=setMany l leaf 0
end Tr
def fC {α:Type}(l:List α):Nat->Option α:=
 List.rec (motive:=fun _=>Nat->Option α) (fun _=>none) (fun a _ g n=>Bool.rec (motive:=fun _=>Option α) (g (Nat.pred n)) (some a) (Nat.beq n (nat_lit 0))) l
def yO{α:Type}(l:List α):Nat->List α:=
 List.rec (motive:=fun _=>Nat->List α) (fun _=>[]) (fun a l g n=>bif Nat.beq n 0 then a::l else g (n-1)) l
def uV{α:Type}(l:List α):Nat->List α:=
 List.rec (motive:=fun _=>Nat->List α) (fun _=>[]) (fun a _ g n=>bif Nat.beq n 0 then []else a::g (n-1)) l
def rB {α:Type}(l:List α):Nat:=List.rec (motive:=fun _=>Nat) 0 (fun _ _ n=>n+1) l
def uD {α:Type}(l m:List α):List α:=List.rec (motive:=fun _=>List α) m (fun a _ g=>a::g) l
def vF {α:Type}(p:α->Bool)(l:List α):Bool:=List.rec (motive:=fun _=>Bool) true (fun a _ g=>bif p a then g else false) l
def aF{α β:Type}(f:α->Option β)(l:List α):Option (List β):=
 List.rec (motive:=fun _=>Option (List β)) (some []) (fun a _ g=>ob (f a) fun b=>ob g fun r=>some (b::r)) l
def cC(a:List Nat):List Nat->Bool:=
 List.rec (motive:=fun _=>List Nat->Bool) (fun b=>b.isEmpty) (fun x _ g b=>List.rec (motive:=fun _=>Bool) false (fun y b _=>bif Nat.beq x y then g b else false) b) a
def kIdx:IntKind->Nat
 | .i8=>0 | .i16=>1 | .i32=>2 | .i64=>3 | .u8=>4 | .u16=>5 | .u32=>6 | .u64=>7
def bL (a b:IntKind):Bool:=Nat.beq (kIdx a) (kIdx b)
def bEq:Bool->Bool->Bool
 | true,b=>b
 | false,b => !b
def iA:Int->Int->Bool
 | .ofNat a,.ofNat b=>Nat.beq a b
 | .negSucc a,.negSucc b=>Nat.beq a b
 | _,_=>false
def uC:Int->Int->Bool
 | .ofNat a,.ofNat b=>Nat.ble a b
 | .ofNat _,.negSucc _=>false
 | .negSucc _,.ofNat _=>true
 | .negSucc a,.negSucc b=>Nat.ble b a
def iB:Int->Int->Bool
 | .ofNat a,.ofNat b=>Nat.blt a b
 | .ofNat _,.negSucc _=>false
 | .negSucc _,.ofNat _=>true
 | .negSucc a,.negSucc b=>Nat.blt b a
def zG:IntKind->Nat
 | .i8=>128 | .i16=>32768 | .i32=>2147483648 | .i64=>9223372036854775808 | .u8=>256 | .u16=>65536 | .u32=>4294967296 | .u64=>18446744073709551616
def kLo:IntKind->Nat
 | .i8=>128 | .i16=>32768 | .i32=>2147483648 | .i64=>9223372036854775808 | _=>0
def rA(k:IntKind):Int->Int
 | .ofNat n=>bif Nat.blt n (zG k)then .ofNat n else k.wrap (.ofNat n)
 | .negSucc n=>bif Nat.blt n (kLo k)then .negSucc n else k.wrap (.negSucc n)
inductive dQ where
 | func (f:Nat)
 | yld (l:Nat)
inductive zA where
 | bool (b:Bool)
 | int (k:IntKind) (n:Int)
 | str (l:List Nat)
 | nilptr
 | ptr (b off:Nat)
 | nilslice
 | slice (b off len cap:Nat)
 | nilmap
 | map (b:Nat)
 | func (fn:dQ) (first captured:List zA)
 | nilfunc
 | iface (t:Nat) (v:zA)
 | niliface
 | agg (l:List zA)
 | tup (l:List zA)
structure Tm where
 k:Nat
 v:Tr zA
 t:List (Nat × zA)
def assoc(i:Nat)(l:List (Nat × zA)):Option zA:=
 List.rec (motive:=fun _=>Option zA) none (fun a _ g=>Bool.rec (motive:=fun _=>Option zA) g (some a.2) (Nat.beq i a.1)) l
def Tm.get(t:Tm)(i:Nat):Option zA:=Bool.rec (motive:=fun _=>Option zA) (assoc i t.t) (t.v.get i) (Nat.blt i t.k)
def Tm.set(t:Tm)(i:Nat)(x:zA):Tm:=Bool.rec (motive:=fun _=>Tm) ⟨t.k,t.v,(i,x)::t.t⟩ ⟨t.k,t.v.set i x,t.t⟩ (Nat.blt i t.k)
def Tm.cut(t:Tm):Tm:=⟨t.k,t.v,[]⟩
structure rI where
 fn:Option dQ
 r:Nat
 args:List zA
structure rN where
 state:LoopState
 pending:Option Code
 fn:Nat
 n:Nat
 tm:Tm
 params:List Nat
 assign:Code
 body:Code
 defers:Nat
inductive Lo where
 | sz (n:Nat)
 | ty (t:Nat)
def Lo.es:Lo->Nat | .sz n=>n | .ty _=>1
def loEq:Lo->Lo->Bool
 | .sz a,.sz b=>Nat.beq a b
 | .ty a,.ty b=>Nat.beq a b
 | _,_=>false
inductive sA where
 | cells (c:Tr zA) (n:Nat) (loose:Option Lo)
 | map (l:List (zA × zA))
 | loop (l:rN)
 | deferred (l:Option (List rI))
 | siter (s:List Nat) (pos:Nat)
structure xA where
 next:Nat
 t:Tr sA
inductive sD where
 | bool | int (k:IntKind) | string
 | ptr (e:Nat) | slice (e:Nat) | arr (n e:Nat) | map (k e:Nat)
 | struct (fs:List (Nat × Nat × Nat))
 | func | iface | other
structure pC where
 desc:sD
 size:Nat
 bytes:Nat
 zero:List zA
 eqOk:Bool
structure aD where
 heavy:Nat
 lights:List Nat
 again:List Nat
structure Plan where
 first:List Nat
 stages:List aD
 olds:List (Nat × List Nat)
structure oA where
 fns:Tr Func
 ks:Tr Nat
 tys:Tr pC
 plans:Tr (Tr Plan)
 prims:Tr (List zA->xA->Option (zA × xA))
 base:Nat
 root:Nat
inductive qD where
 | code (c:Code)
 | inBlock (id:Nat)
 | inLoop (c:Code)
 | inScope (c:Code)
 | ops (all:Array Oper) (rest:List Oper)
 | reg (all:Array Oper) (old:Tm) (olds:List (Nat × List Nat)) (stages:List aD)
 | inRange (l:Nat)
 | endRange (l:Nat)
 | beginRound
structure lY where
 v:zA
 recovered:Bool
inductive pU where
 | run | returning
 | panicking (chain:List lY)
structure kI where
 fn:Nat
 n:Nat
 defers:List rI
 mode:pU
 deferred:Bool
 roundOf:Option Nat
structure zC where
 todo:List qD
 tm:Tm
 R:kI
structure jO where
 fr:zC
 cs:List zC
 H:xA
inductive pE where
 | next (s:jO)
 | done (v:zA) (H:xA)
 | fail (why:Nat)
def zA.asBool:zA->Option Bool | .bool b=>some b | _=>none
def zA.asInt:zA->Option Int | .int _ n=>some n | _=>none
def zA.asIntK:zA->Option (IntKind × Int) | .int k n=>some (k,n) | _=>none
def zA.asStr:zA->Option (List Nat) | .str l=>some l | _=>none
def zA.asPtr:zA->Option (Nat × Nat) | .ptr b o=>some (b,o) | _=>none
def zA.asSlice:zA->Option (Nat × Nat × Nat × Nat) | .slice b o l c=>some (b,o,l,c) | _=>none
def zA.asMap:zA->Option Nat | .map b=>some b | _=>none
def zA.asAgg:zA->Option (List zA) | .agg l=>some l | _=>none
def zA.asTup:zA->Option (List zA) | .tup l=>some l | _=>none
def zA.asFunc:zA->Option (dQ × List zA × List zA) | .func f a b=>some (f,a,b) | _=>none
def zA.asIface:zA->Option (Nat × zA) | .iface t v=>some (t,v) | _=>none
def zA.tag:zA->Nat
 | .bool _=>0 | .int _ _=>1 | .str _=>2 | .nilptr=>3 | .ptr _ _=>4 | .nilslice=>5 | .slice _ _ _ _=>6 | .nilmap=>7 | .map _=>8
 | .func _ _ _=>9 | .nilfunc=>10 | .iface _ _=>11 | .niliface=>12 | .agg _=>13 | .tup _=>14
def yK:Int->Option Nat | .ofNat n=>some n | .negSucc _=>none
def zA.asNat(v:zA):Option Nat:=ob v.asInt yK
def zA.cells(v:zA):List zA:=
 match v.asAgg with
 | some l=>l
 | none=>[v]
def zA.one(v:zA):Bool:=Nat.blt v.tag 13
def sD.asInt:sD->Option IntKind | .int k=>some k | _=>none
def sD.asSlice:sD->Option Nat | .slice e=>some e | _=>none
def sD.asArr:sD->Option (Nat × Nat) | .arr n e=>some (n,e) | _=>none
def sD.asMap:sD->Option (Nat × Nat) | .map k e=>some (k,e) | _=>none
def sD.asStruct:sD->Option (List (Nat × Nat × Nat)) | .struct fs=>some fs | _=>none
def sD.tag:sD->Nat
 | .bool=>0 | .int _=>1 | .string=>2 | .ptr _=>3 | .slice _=>4 | .arr _ _=>5 | .map _ _=>6 | .struct _=>7 | .func=>8 | .iface=>9 | .other=>10
def sD.isAgg(d:sD):Bool:=bif Nat.beq d.tag 5 then true else Nat.beq d.tag 7
def sD.isString(d:sD):Bool:=Nat.beq d.tag 2
def sA.asCells:sA->Option (Tr zA × Nat × Option Lo) | .cells c n l=>some (c,n,l) | _=>none
def sA.asMap:sA->Option (List (zA × zA)) | .map l=>some l | _=>none
def sA.asLoop:sA->Option rN | .loop l=>some l | _=>none
def sA.asDeferred:sA->Option (Option (List rI)) | .deferred l=>some l | _=>none
def sA.asIter:sA->Option (List Nat × Nat) | .siter s p=>some (s,p) | _=>none
def xB{α:Type}(b:Bool)(x:Option α):Option α:=Bool.rec (motive:=fun _=>Option α) none x b
def lD:zA:=.tup []
def fE(s:ByteArray):List Nat:=s.data.toList.map UInt8.toNat
def jZ:Value->Option zA
 | .bool b=>some (.bool b)
 | .int k n=>some (.int k n)
 | .string s=>some (.str (fE s))
 | .pointer none=>some .nilptr
 | .slice none 0 0=>some .nilslice
 | .map none=>some .nilmap
 | .nilFunc=>some .nilfunc
 | .nilIface=>some .niliface
 | _=>none
def zcq:Value->Option (Array Value)
 | .agg cs=>some cs
 | _=>none
def Ta(v:Value):Option zA:=
 match zcq v with
 | some cs=>ob (aF jZ cs.toList) fun l=>some (.agg l)
 | none=>jZ v
inductive jC where
 | now (tm:Tm)
 | mixed (tm old:Tm) (olds names:List Nat)
def qH(i:Nat)(l:List Nat):Bool:=List.rec (motive:=fun _=>Bool) false (fun j _ g=>bif Nat.beq i j then true else g) l
def kS (t:Nat)(e:jC):Option zA:=
 match e with
 | .now tm=>tm.get t
 | .mixed tm old olds names=>bif qH t names then Tm.get (bif qH t olds then old else tm) t else none
def xConst(v:Value)(_:jC):Option zA:=Ta v
def Ok(g:Nat)(_:jC):Option zA:=bif Nat.blt g 256 then some (.ptr g 0)else none
def xFunc(f:Nat)(_:jC):Option zA:=some (.func (.func f) [] [])
structure EB where f:jC->Option zA
def evB:Operand->EB
 | .tmp t=>⟨kS t⟩
 | .const v=>⟨xConst v⟩
 | .global g=>⟨Ok g⟩
 | .func f=>⟨xFunc f⟩
def ev (x:Operand)(e:jC):Option zA:=(evB x).f e
def uO (l:List Operand)(e:jC):Option (List zA):=aF (fun x=>ev x e) l
def kP (x:Option Operand)(e:jC):Option (Option zA):=
 match x with
 | none=>some none
 | some x=>ob (ev x e) fun v=>some (some v)
def lP (l:List (Nat × Operand))(e:jC):Option (List (Nat × zA)):=aF (fun x=>ob (ev x.2 e) fun v=>some (x.1,v)) l
def aC(H:xA)(b:Nat):Option (Tr zA × Nat × Option Lo):=ob (H.t.get b) sA.asCells
def xJ(H:xA)(b:Nat):Option (List (zA × zA)):=ob (H.t.get b) sA.asMap
def vP(ty:pC)(c:Tr zA)(off:Nat):Option zA:=
 bif ty.desc.isAgg then ob (c.many ty.size off) fun l=>some (.agg l)else c.get off
def mM(C:oA)(t:Nat)(l:List zA)(off:Nat):Option zA:=
 ob (C.tys.get t) fun ty=>bif ty.desc.isAgg then some (.agg (uV (yO l off) ty.size))else fC l off
def lS(ty:pC):zA:=
 bif ty.desc.isAgg then .agg ty.zero else match ty.zero with
  | v::_=>v
  | []=>lD
def Tp(a:List Nat):List Nat->Bool:=
 List.rec (motive:=fun _=>List Nat->Bool) (fun b => !b.isEmpty)
  (fun x _ g b=>List.rec (motive:=fun _=>Bool) false (fun y b _=>bif Nat.blt x y then true else bif Nat.beq x y then g b else false) b) a
def Dc(a b:zA):Option Bool:=ob a.asBool fun x=>ob b.asBool fun y=>some (bEq x y)
def zek(a b:zA):Option Bool:=ob a.asIntK fun x=>ob b.asIntK fun y=>xB (bL x.1 y.1) (some (iA x.2 y.2))
def Vj(a b:zA):Option Bool:=ob a.asStr fun x=>ob b.asStr fun y=>some (cC x y)
def eX(n m:Nat)(a b:zA):Option Bool:=
 bif Nat.beq a.tag n then(bif Nat.beq b.tag n then some true else xB (Nat.beq b.tag m) (some false))
 else xB (Nat.beq a.tag m&&Nat.beq b.tag n) (some false)
def Nb(_ _:zA):Option Bool:=none
def Hw:sD->zA->zA->Option Bool
 | .bool=>Dc
 | .int _=>zek
 | .string=>Vj
 | .ptr _=>eX 3 4
 | .iface=>eX 12 11
 | .slice _=>eX 5 6
 | .map _ _=>eX 7 8
 | .func=>eX 10 9
 | .arr _ _=>Nb
 | .struct _=>Nb
 | .other=>Nb
def Dy(C:oA)(eq:Nat->zA->zA->Option Bool)(xs ys:List zA):List (Nat × Nat × Nat)->Option Bool
 | []=>some true
 | f::fs=>ob (mM C f.2.1 xs f.1) fun a=>ob (mM C f.2.1 ys f.1) fun b=>ob (eq f.2.1 a b) fun r=>bif r then Dy C eq xs ys fs else some false
def aeq (C:oA):Nat->Nat->zA->zA->Option Bool
 | 0,_,_,_=>none
 | d+1,t,x,y=>ob (C.tys.get t) fun ty=>
  match ty.desc.asStruct with
  | some fs=>xB ty.eqOk (ob x.asAgg fun xs=>ob y.asAgg fun ys=>Dy C (aeq C d) xs ys fs)
  | none=>Hw ty.desc x y
def iAdd (k:IntKind)(a b:Int):Option zA:=some (.int k (rA k (a+b)))
def iSub (k:IntKind)(a b:Int):Option zA:=some (.int k (rA k (a-b)))
def iMul (k:IntKind)(a b:Int):Option zA:=some (.int k (rA k (a*b)))
def mT (k:IntKind)(a b:Int):Option zA:=bif iA b 0 then none else some (.int k (rA k (a.tdiv b)))
def nT (k:IntKind)(a b:Int):Option zA:=bif iA b 0 then none else some (.int k (a.tmod b))
def iH(f:Nat->Nat->Nat)(k:IntKind)(a b:Int):Option zA:=ob (yK a) fun x=>ob (yK b) fun y=>xB (Nat.blt x (zG k)&&Nat.blt y (zG k)) (some (.int k (.ofNat (f x y))))
def kW:IntKind->Nat
 | .i8=>256 | .u8=>256 | .i16=>65536 | .u16=>65536 | .i32=>4294967296 | .u32=>4294967296 | .i64=>18446744073709551616 | .u64=>18446744073709551616
def iAnd (k:IntKind)(a b:Int):Option zA:=
 match yK a with
 | some _=>iH Nat.land k a b
 | none=>ob (yK b) fun y=>xB (Nat.blt y (zG k)) (some (.int k (.ofNat (Nat.land (Int.toNat (Int.emod a (.ofNat (kW k)))) y))))
def iEql (_:IntKind)(a b:Int):Option zA:=some (.bool (iA a b))
def iNeq (_:IntKind)(a b:Int):Option zA:=some (.bool (!iA a b))
def iLss (_:IntKind)(a b:Int):Option zA:=some (.bool (iB a b))
def iLeq (_:IntKind)(a b:Int):Option zA:=some (.bool (uC a b))
def iGtr (_:IntKind)(a b:Int):Option zA:=some (.bool (iB b a))
def iGeq (_:IntKind)(a b:Int):Option zA:=some (.bool (uC b a))
def iNone(_:IntKind)(_ _:Int):Option zA:=none
structure IB where f:IntKind->Int->Int->Option zA
def Wb:BinOp->IB
 | .add=>⟨iAdd⟩ | .sub=>⟨iSub⟩ | .mul=>⟨iMul⟩ | .quo=>⟨mT⟩ | .rem=>⟨nT⟩
 | .and=>⟨iAnd⟩ | .or=>⟨iH Nat.lor⟩ | .xor=>⟨iH Nat.xor⟩
 | .eql=>⟨iEql⟩ | .neq=>⟨iNeq⟩ | .lss=>⟨iLss⟩ | .leq=>⟨iLeq⟩ | .gtr=>⟨iGtr⟩ | .geq=>⟨iGeq⟩
 | _=>⟨iNone⟩
def iE (a b:List Nat):Option zA:=xB (Nat.blt (rB a+rB b) 4611686018427387904) (some (.str (uD a b)))
def sEql (a b:List Nat):Option zA:=some (.bool (cC a b))
def sNeq (a b:List Nat):Option zA:=some (.bool (!cC a b))
def sLss (a b:List Nat):Option zA:=some (.bool (Tp a b))
def sNone(_ _:List Nat):Option zA:=none
structure SB where f:List Nat->List Nat->Option zA
def Vz:BinOp->SB
 | .add=>⟨iE⟩ | .eql=>⟨sEql⟩ | .neq=>⟨sNeq⟩ | .lss=>⟨sLss⟩
 | _=>⟨sNone⟩
def Hj:Operand->Bool
 | .const _=>true
 | _=>false
def tZ(k:IntKind)(b:Int):Option Nat:=ob (yK b) fun n=>some (min n k.bits)
def wS (k:IntKind)(a b:Int):Option zA:=ob (tZ k b) fun n=>some (.int k (rA k (a*.ofNat (2^n))))
def Ab (k:IntKind)(a b:Int):Option zA:=ob (tZ k b) fun n=>some (.int k (a.fdiv (.ofNat (2^n))))
def Ia(f:IntKind->Int->Int->Option zA)(a b:zA):Option zA:=ob a.asIntK fun x=>ob b.asInt fun y=>f x.1 x.2 y
def II(x y:Operand)(a b:zA):Bool:=
 bif Nat.beq a.tag 12&&Nat.beq b.tag 12 then Hj x||Hj y else true
def Nt(neg:Bool)(C:oA)(t:Nat)(x y:Operand)(a b:zA):Option zA:=
 xB (II x y a b) (ob (aeq C 20 t a b) fun r=>some (.bool (bif neg then !r else r)))
def binNo(_:oA)(_:Nat)(_ _:Operand)(_ _:zA):Option zA:=none
structure BB where f:oA->Nat->Operand->Operand->zA->zA->Option zA
def JY:BinOp->BB
 | .eql=>⟨Nt false⟩
 | .neq=>⟨Nt true⟩
 | _=>⟨binNo⟩
def Wa(op:BinOp)(C:oA)(t:Nat)(x y:Operand)(a b:zA):Option zA:=
 match a.asIntK with
 | some i=>ob b.asIntK fun j=>xB (bL i.1 j.1) ((Wb op).f i.1 i.2 j.2)
 | none=>match a.asStr with
  | some s=>ob b.asStr fun u=>(Vz op).f s u
  | none=>(JY op).f C t x y a b
def binShl(_:oA)(_:Nat)(_ _:Operand)(a b:zA):Option zA:=Ia wS a b
def binShr(_:oA)(_:Nat)(_ _:Operand)(a b:zA):Option zA:=Ia Ab a b
def Du:BinOp->BB
 | .shl=>⟨binShl⟩
 | .shr=>⟨binShr⟩
 | op=>⟨Wa op⟩
def unNeg(a:zA):Option zA:=ob a.asIntK fun x=>some (.int x.1 (rA x.1 (0-x.2)))
def unNot(a:zA):Option zA:=ob a.asBool fun b=>some (.bool (!b))
def zZ(a:zA):Option zA:=ob a.asIntK fun x=>xB (Nat.beq (kLo x.1) 0) (iH Nat.xor x.1 (.ofNat (zG x.1-1)) x.2)
def unNone(_:zA):Option zA:=none
structure UB where f:zA->Option zA
def unA:UnOp->UB
 | .neg=>⟨unNeg⟩
 | .xor=>⟨zZ⟩
 | .not=>⟨unNot⟩
 | _=>⟨unNone⟩
def jQ(v:zA):Option Nat:=ob v.asIntK fun x=>xB (bL x.1 .u8) (ob (yK x.2) fun n=>xB (Nat.blt n 256) (some n))
def An(H:xA)(a:zA):Option zA:=
 match a.asSlice with
 | some x=>ob (aC H x.1) fun c=>ob (c.1.many x.2.2.1 x.2.1) fun l=>ob (aF jQ l) fun r=>some (.str r)
 | none=>xB (Nat.beq a.tag 5) (some (.str []))
def tO(C:oA)(s d:pC)(a:zA)(H:xA):Option zA:=
 match d.desc.asInt with
 | some k=>ob a.asInt fun n=>some (.int k (rA k n))
 | none=>xB d.desc.isString (bif Nat.beq a.tag 2 then some a else
   ob s.desc.asSlice fun e=>ob (C.tys.get e) fun et=>ob et.desc.asInt fun k=>xB (bL k .u8) (An H a))
def bT(y:Nat)(v:zA):Option Nat:=ob v.asNat fun n=>xB (Nat.ble n y) (some n)
def cX(y dflt:Nat)(v:Option zA):Option Nat:=
 match v with
 | some v=>bT y v
 | none=>some dflt
def xN(len cap:Nat)(lo hi:Option zA):Option (Nat × Nat):=
 ob (cX cap len hi) fun h=>ob (cX h 0 lo) fun l=>some (l,h)
def jK(H:xA)(b size cap l:Nat)(arr:Bool):Bool:=
 match aC H b with
 | some c=>match c.2.2 with
  | none=>true
  | some es => !arr&&Nat.beq es.es size&&(!Nat.beq cap l||Nat.beq l 0)
 | none=>false
def rK(H:xA)(b size cap l:Nat)(arr:Bool):Bool:=
 match aC H b with
 | some c=>match c.2.2 with
  | none=>false
  | some es => !arr&&Nat.beq es.es size&&Nat.beq cap l && !Nat.beq l 0
 | none=>false
def gL(C:oA)(H:xA)(arr:Bool)(e b off len cap:Nat)(lo hi:Option zA):Option zA:=
 ob (C.tys.get e) fun et=>ob (xN len cap lo hi) fun x=>
  bif Nat.ble x.2 cap&&Nat.ble x.1 x.2&&rK H b et.size cap x.1 arr then some (.slice 0 1 0 0)else
  xB (Nat.ble x.2 cap&&jK H b et.size cap x.1 arr) (some (.slice b (bif Nat.beq cap x.1 then off else off+x.1*et.size) (x.2-x.1) (cap-x.1)))
def Jz(s:List Nat)(lo hi:Option zA):Option zA:=
 let n:=rB s
 ob (xN n n lo hi) fun x=>some (.str (yO (uV s x.2) x.1))
def iK(C:oA)(H:xA)(ty:pC)(x:zA)(lo hi:Option zA):Option zA:=
 match x.asStr with
 | some s=>xB ty.desc.isString (Jz s lo hi)
 | none=>match x.asSlice with
  | some r=>ob ty.desc.asSlice fun e=>gL C H false e r.1 r.2.1 r.2.2.1 r.2.2.2 lo hi
  | none=>match x.asPtr with
   | some p=>ob ty.desc.asArr fun a=>gL C H true a.2 p.1 p.2 a.1 a.1 lo hi
   | none=>xB (Nat.beq x.tag 5) (ob ty.desc.asSlice fun e=>ob (C.tys.get e) fun _=>ob (xN 0 0 lo hi) fun _=>some .nilslice)
def jX(cells:List zA)(off size:Nat)(v:zA):Option (List zA):=
 let vc:=v.cells
 let n:=rB vc
 xB (Nat.beq n size&&Nat.ble (off+n) (rB cells)) (some (uD (uV cells off) (uD vc (yO cells (off+n)))))
def yM(place:Nat->Option (Nat × Nat)):List (Nat × zA)->List zA->Option (List zA)
 | [],cells=>some cells
 | p::rest,cells=>ob (place p.1) fun q=>ob (jX cells q.1 q.2 p.2) fun cells=>yM place rest cells
def oQ(d:sD):Bool:=Nat.ble d.tag 2
def keyTag(v:zA):Nat:=v.tag
def cZ(d:sD)(v:zA):Bool:=Nat.beq d.tag (keyTag v)
def cV(C:oA):List (Nat × Nat × Nat)->Nat->Bool
 | [],_=>true
 | f::fs,i=>bif Nat.beq f.1 i then(match C.tys.get f.2.1 with
  | some ty=>bif oQ ty.desc then cV C fs (i+1)else false
  | none=>false)else false
def pQ(C:oA)(ty:pC):Bool:=bif oQ ty.desc then true else match ty.desc.asStruct with
 | some fs=>bif ty.eqOk then cV C fs 0 else false
 | none=>false
def zW(C:oA):List (Nat × Nat × Nat)->List zA->Bool
 | [],[]=>true
 | f::fs,v::l=>(match C.tys.get f.2.1 with
  | some ty=>bif cZ ty.desc v then zW C fs l else false
  | none=>false)
 | _,_=>false
def xO(C:oA)(ty:pC)(v:zA):Bool:=bif oQ ty.desc then cZ ty.desc v else match ty.desc.asStruct with
 | some fs=>(match v.asAgg with
  | some l=>zW C fs l
  | none=>false)
 | none=>false
def fM(a b:zA):Option Bool:=
 match a.asIntK with
 | some x=>ob b.asIntK fun y=>xB (bL x.1 y.1) (some (iA x.2 y.2))
 | none=>match a.asStr with
  | some x=>ob b.asStr fun y=>some (cC x y)
  | none=>Dc a b
def qQ:List zA->List zA->Option Bool
 | [],[]=>some true
 | a::x,b::y=>ob (fM a b) fun r=>ob (qQ x y) fun s=>some (r&&s)
 | _,_=>none
def gG(a b:zA):Option Bool:=
 match a.asAgg with
 | some x=>ob b.asAgg fun y=>qQ x y
 | none=>fM a b
def yJ(k:zA):List (zA × zA)->Option (Option zA)
 | []=>some none
 | e::l=>ob (gG k e.1) fun r=>bif r then some (some e.2)else yJ k l
def eK(k v:zA):List (zA × zA)->Option (List (zA × zA))
 | []=>some [(k,v)]
 | e::l=>ob (gG k e.1) fun r=>bif r then some ((k,v)::l)else ob (eK k v l) fun l=>some (e::l)
abbrev bH:=oA->jC->xA->Option zA
def nV:bH:=fun _ _ _=>none
def rT(x:Operand):bH:=fun _ e _=>ev x e
def Hf(c a b:Operand):bH:=fun _ e _=>ob (ev c e) fun c=>ob c.asBool fun c=>bif c then ev a e else ev b e
def jR(t:Nat)(a:Operand):bH:=fun C e H=>ob (ev a e) fun v=>ob v.asPtr fun p=>ob (C.tys.get t) fun ty=>ob (aC H p.1) fun c=>vP ty c.1 p.2
def mV (x:Operand):bH:=fun _ e _=>ob (ev x e) fun v=>xB (Nat.beq v.tag 4||Nat.beq v.tag 9) (some v)
def bR (op:BinOp)(t:Nat)(x y:Operand):bH:=fun C e _=>ob (ev x e) fun a=>ob (ev y e) fun b=>(Du op).f C t x y a b
def lUn (op:UnOp)(x:Operand):bH:=fun _ e _=>ob (ev x e) fun a=>(unA op).f a
def cL(s d:Nat)(x:Operand):bH:=fun C e H=>ob (ev x e) fun a=>ob (C.tys.get s) fun s=>ob (C.tys.get d) fun d=>tO C s d a H
def sX(t:Nat)(x:Operand):bH:=fun C e _=>ob (C.tys.get t) fun ty=>xB (Nat.blt ty.desc.tag 9) (ob (ev x e) fun v=>some (.iface t v))
def Md(f:Nat)(a b:Array Operand):bH:=fun _ e _=>ob (uO a.toList e) fun a=>ob (uO b.toList e) fun b=>some (.func (.func f) a b)
structure LB where f:bH
def rX(fn:Fn)(a b:Array Operand):LB:=
 match fn with
 | .func f=>⟨Md f a b⟩
 | _=>⟨nV⟩
def oV(t:Nat)(x:Operand)(lo hi:Option Operand):bH:=fun C e H=>
 ob (ev x e) fun a=>ob (kP lo e) fun l=>ob (kP hi e) fun h=>ob (C.tys.get t) fun ty=>iK C H ty a l h
def He(t:Nat)(x:Operand)(lo hi mx:Option Operand):LB:=
 match mx with
 | none=>⟨oV t x lo hi⟩
 | some _=>⟨nV⟩
def eR(s:Nat)(x:Operand)(f:Nat):bH:=fun C e _=>
 ob (C.tys.get s) fun ty=>ob ty.desc.asStruct fun fs=>ob (fC fs f) fun fd=>xB (!Nat.beq fd.2.2 0) (ob (ev x e) fun v=>ob v.asPtr fun p=>some (.ptr p.1 (p.2+fd.1)))
def qX(t:Nat)(x:Operand)(f:Nat):bH:=fun C e _=>
 ob (C.tys.get t) fun ty=>ob ty.desc.asStruct fun fs=>ob (fC fs f) fun fd=>ob (ev x e) fun v=>ob v.asAgg fun l=>mM C fd.2.1 l fd.1
def iR(t:Nat)(x i:Operand):bH:=fun C e _=>
 ob (C.tys.get t) fun ty=>ob (ev x e) fun v=>ob (ev i e) fun i=>ob i.asNat fun i=>
  match v.asSlice with
  | some s=>ob ty.desc.asSlice fun el=>ob (C.tys.get el) fun et=>xB (Nat.blt i s.2.2.1) (some (.ptr s.1 (s.2.1+i*et.size)))
  | none=>ob v.asPtr fun p=>ob ty.desc.asArr fun a=>ob (C.tys.get a.2) fun et=>xB (Nat.blt i a.1) (some (.ptr p.1 (p.2+i*et.size)))
def fR(t:Nat)(x i:Operand):bH:=fun C e _=>
 ob (C.tys.get t) fun ty=>ob (ev x e) fun v=>ob (ev i e) fun i=>ob i.asNat fun i=>
  match v.asStr with
  | some s=>xB ty.desc.isString (ob (fC s i) fun b=>some (.int .u8 (.ofNat b)))
  | none=>ob v.asAgg fun l=>ob ty.desc.asArr fun a=>ob (C.tys.get a.2) fun et=>xB (Nat.blt i a.1) (mM C a.2 l (i*et.size))
def dR(t:Operand)(i:Nat):bH:=fun _ e _=>ob (ev t e) fun v=>ob v.asTup fun l=>fC l i
def qT(t:Nat)(parts:Array (Nat × Operand)):bH:=fun C e _=>
 ob (C.tys.get t) fun ty=>ob (lP parts.toList e) fun ps=>
  match ty.desc.asStruct with
  | some fs=>ob (yM (fun i=>ob (fC fs i) fun x=>some (x.1,x.2.2)) ps ty.zero) fun l=>some (.agg l)
  | none=>ob ty.desc.asArr fun a=>ob (C.tys.get a.2) fun et=>ob (yM (fun i=>some (i*et.size,et.size)) ps ty.zero) fun l=>some (.agg l)
def aR(x:Operand)(asserted:Nat)(ok:Bool):bH:=fun C e _=>
 ob (C.tys.get asserted) fun ty=>xB (Nat.blt ty.desc.tag 9) (ob (ev x e) fun v=>
  match v.asIface with
  | some p=>bif Nat.beq p.1 asserted then some (bif ok then .tup [p.2,.bool true]else p.2)else xB ok (some (.tup [lS ty,.bool false]))
  | none=>xB (Nat.beq v.tag 12&&ok) (some (.tup [lS ty,.bool false])))
def oR(H:xA)(v:zA):Option (List (zA × zA)):=
 match v.asMap with
 | some b=>xJ H b
 | none=>xB (Nat.beq v.tag 7) (some [])
def kR(t:Nat)(x i:Operand)(ok:Bool):bH:=fun C e H=>
 ob (C.tys.get t) fun ty=>ob ty.desc.asMap fun ke=>ob (C.tys.get ke.1) fun kty=>xB (pQ C kty) (ob (C.tys.get ke.2) fun ety=>
  ob (ev x e) fun m=>ob (oR H m) fun es=>ob (ev i e) fun k=>xB (xO C kty k) (ob (yJ k es) fun r=>
   match r with
   | some v=>some (bif ok then .tup [v,.bool true]else v)
   | none=>some (bif ok then .tup [lS ety,.bool false]else lS ety)))
def rQ (H:xA)(ty:pC)(v:zA):Option Nat:=
 match v.asStr with
 | some s=>xB ty.desc.isString (some (rB s))
 | none=>match v.asSlice with
  | some s=>xB (Nat.beq ty.desc.tag 4) (some s.2.2.1)
  | none=>match ty.desc.asArr with
   | some a=>some a.1
   | none=>match v.asMap with
    | some b=>xB (Nat.beq ty.desc.tag 6) (ob (xJ H b) fun l=>some (rB l))
    | none=>xB ((Nat.beq ty.desc.tag 4&&Nat.beq v.tag 5)||(Nat.beq ty.desc.tag 6&&Nat.beq v.tag 7)) (some 0)
def iM (c:Call):bH:=fun C e H=>
 ob (fC c.argTypes.toList 0) fun t=>ob (fC c.args.toList 0) fun x=>ob (C.tys.get t) fun ty=>ob (ev x e) fun v=>ob (rQ H ty v) fun n=>some (.int .i64 (.ofNat n))
def two (c:Call)(e:jC):Option (zA × zA):=
 match c.args.toList with
 | [x,y]=>ob (ev x e) fun a=>ob (ev y e) fun b=>some (a,b)
 | _=>none
def lR (c:Call):bH:=fun _ e _=>ob (two c e) fun p=>ob p.1.asIntK fun x=>ob p.2.asIntK fun y=>some (.int x.1 (bif iB x.2 y.2 then y.2 else x.2))
def mR (c:Call):bH:=fun _ e _=>ob (two c e) fun p=>ob p.1.asIntK fun x=>ob p.2.asIntK fun y=>some (.int x.1 (bif iB y.2 x.2 then y.2 else x.2))
def Me(c:Call):Builtin->LB
 | .len=>⟨iM c⟩
 | .max=>⟨lR c⟩
 | .min=>⟨mR c⟩
 | _=>⟨nV⟩
def tP(c:Call):Callee->LB
 | .builtin b=>Me c b
 | _=>⟨nV⟩
def zds(c:Call):LB:=tP c c.callee
def nE:Op->LB
 | .move x=>⟨rT x⟩
 | .assign x=>⟨rT x⟩
 | .pick c a b=>⟨Hf c a b⟩
 | .load t a=>⟨jR t a⟩
 | .nilCheck x=>⟨mV x⟩
 | .binOp op t x y _=>⟨bR op t x y⟩
 | .unOp op _ x=>⟨lUn op x⟩
 | .convert s d x=>⟨cL s d x⟩
 | .makeInterface t x=>⟨sX t x⟩
 | .makeFunc fn a b=>rX fn a b
 | .slice t x lo hi mx=>He t x lo hi mx
 | .fieldAddr s x f=>⟨eR s x f⟩
 | .field t x f=>⟨qX t x f⟩
 | .indexAddr t x i=>⟨iR t x i⟩
 | .index t x i=>⟨fR t x i⟩
 | .extract t i=>⟨dR t i⟩
 | .build t ps=>⟨qT t ps⟩
 | .typeAssert x _ u ok=>⟨aR x u ok⟩
 | .lookup t x i ok=>⟨kR t x i ok⟩
 | .call c=>zds c
 | _=>⟨nV⟩
inductive rJ where
 | val (v:zA) (H:xA)
 | enter (f:Nat) (args:List zA)
 | round (l:Nat) (args:List zA)
 | defer (d:rI)
 | panic (v:zA)
 | recover
 | fail
abbrev tN:=oA->jC->xA->rJ
structure HB where f:tN
def qK (x:Option (zA × xA)):rJ:=
 match x with
 | some p=>.val p.1 p.2
 | none=>.fail
def zX (x:Option rJ):rJ:=
 match x with
 | some r=>r
 | none=>.fail
def lv (f:bH):tN:=fun C e H=>
 match f C e H with
 | some v=>.val v H
 | none=>.fail
def newBlk(H:xA)(b:sA):xA:=⟨H.next+1,H.t.set H.next b⟩
def sE(H:xA)(l:List zA)(loose:Option Lo):xA:=newBlk H (.cells (Tr.ofList l) (rB l) loose)
def setBlk(H:xA)(b:Nat)(x:sA):xA:=⟨H.next,H.t.set b x⟩
def pI (zero:List zA):Nat->List zA
 | 0=>[]
 | n+1=>uD zero (pI zero n)
def rV(v:zA):Option Nat:=
 match v.asSlice with
 | some s=>some s.2.2.1
 | none=>match v.asStr with
  | some s=>some (rB s)
  | none=>xB (Nat.beq v.tag 5) (some 0)
def cT(l:List Nat):List zA:=l.map fun n=>zA.int .u8 (Int.ofNat n)
def nP(H:xA)(size n:Nat)(v:zA):Option (List zA):=
 match v.asSlice with
 | some s=>ob (aC H s.1) fun c=>c.1.many (n*size) s.2.1
 | none=>match v.asStr with
  | some s=>some (cT (uV s n))
  | none=>xB (Nat.beq v.tag 5) (some [])
def xI(C:oA)(H:xA)(b off:Nat)(l:List zA):Option xA:=
 xB (!Nat.blt b C.base) (ob (aC H b) fun c=>
  xB (Nat.ble (off+rB l) c.2.1&&vF zA.one l) (some (setBlk H b (.cells (c.1.setMany l off) c.2.1 c.2.2))))
def fV(et:pC)(len cap n:Nat)(new:List zA):Bool:=
 Nat.blt (len+n+cap) 1000000000&&Nat.blt ((len+n+cap)*et.bytes) 1000000000&&Nat.blt et.bytes 1000000000 && !Nat.beq et.size 0&&Nat.beq (rB new) (n*et.size)&&Nat.beq (rB et.zero) et.size
def GN(et:pC):Bool:=match et.desc with | .int .u8=>true | _=>false
def cJ(e:Nat)(et:pC):Lo:=bif Nat.beq et.size 1&&GN et then .ty e else .sz et.size
def kT(H:xA)(e:Nat)(et:pC)(n:Nat)(new:List zA):Option (zA × xA):=
 bif Nat.beq n 0 then some (.nilslice,H)else
  xB (fV et 0 0 n new) (some (.slice H.next 0 n n,sE H new (some (cJ e et))))
def gV(C:oA)(H:xA)(et:pC)(n:Nat)(new:List zA)(s:Nat × Nat × Nat × Nat):Option (zA × xA):=
 match new with
 | []=>some (.slice s.1 s.2.1 (s.2.2.1+n) s.2.2.2,H)
 | _::_=>ob (xI C H s.1 (s.2.1+s.2.2.1*et.size) new) fun H'=>some (.slice s.1 s.2.1 (s.2.2.1+n) s.2.2.2,H')
def Cx(H:xA)(e:Nat)(et:pC)(n:Nat)(new:List zA)(s:Nat × Nat × Nat × Nat)(c:Tr zA):Option (zA × xA):=
 ob (c.many (s.2.2.1*et.size) s.2.1) fun old=>some (.slice H.next 0 (s.2.2.1+n) (s.2.2.1+n),sE H (uD old new) (some (cJ e et)))
def Cy(C:oA)(H:xA)(e:Nat)(et:pC)(n:Nat)(new:List zA)(s:Nat × Nat × Nat × Nat)(c:Tr zA)(m:Nat)(lo:Lo):Option (zA × xA):=
 xB (Nat.beq s.2.1 0&&loEq lo (cJ e et)&&Nat.ble (s.2.2.1*et.size) m&&Nat.ble m ((s.2.2.1+n)*et.size)&&vF zA.one new && !Nat.blt s.1 C.base)
  (some (.slice H.next 0 (s.2.2.1+n) (s.2.2.1+n),⟨H.next+1,(H.t.del s.1).set H.next (.cells (c.setMany new (s.2.2.1*et.size)) ((s.2.2.1+n)*et.size) (some lo))⟩))
def eV(C:oA)(H:xA)(e:Nat)(et:pC)(n:Nat)(new:List zA)(s:Nat × Nat × Nat × Nat):Option (zA × xA):=
 xB (!(Nat.beq s.2.1 1&&Nat.beq s.2.2.2 0)) (xB (fV et s.2.2.1 s.2.2.2 n new) (ob (aC H s.1) fun c=>
  match c.2.2 with
  | none=>Cx H e et n new s c.1
  | some lo=>Cy C H e et n new s c.1 c.2.1 lo))
def xU(C:oA)(H:xA)(ty:pC)(s x:zA):Option (zA × xA):=
 ob ty.desc.asSlice fun e=>ob (C.tys.get e) fun et=>ob (rV x) fun n=>ob (nP H et.size n x) fun new=>
  match s.asSlice with
  | some s=>bif Nat.ble (s.2.2.1+n) s.2.2.2 then gV C H et n new s else eV C H e et n new s
  | none=>xB (Nat.beq s.tag 5) (kT H e et n new)
def isBld(C:oA)(t:Nat):Bool:=
 match ob (C.tys.get t) fun ty=>ob ty.desc.asStruct fun fs=>ob (fC fs 0) fun f=>ob (C.tys.get f.2.1) fun tf=>some tf.desc with
 | some (.ptr e)=>Nat.beq e t
 | _=>false
def mJ(C:oA)(t:Nat):Option Lo:=
 bif isBld C t then some (.ty t)else
 match ob (C.tys.get t) fun ty=>ob ty.desc.asStruct fun fs=>ob (fC fs 0) fun f=>some (isBld C f.2.1)with
 | some true=>some (.ty t)
 | _=>none
def lX(t:Nat):tN:=fun C _ H=>qK (ob (C.tys.get t) fun ty=>some (.ptr H.next 0,sE H ty.zero (mJ C t)))
def iV (t:Nat)(x:Operand):tN:=fun C e H=>qK (ob (ev x e) fun v=>some (.ptr H.next 0,sE H v.cells (mJ C t)))
def tV (C:oA):Op->Option Lo
 | .alloc t=>mJ C t
 | .box t _=>mJ C t
 | _=>none
def mX(t len:Nat)(parts:Array (Nat × Operand)):tN:=fun C e H=>qK (ob (C.tys.get t) fun ty=>ob ty.desc.asSlice fun el=>ob (C.tys.get el) fun et=>
 xB (Nat.blt (len*et.size) 1000000&&Nat.beq (rB et.zero) et.size) (ob (lP parts.toList e) fun ps=>ob (yM (fun i=>some (i*et.size,et.size)) ps (pI et.zero len)) fun l=>some (.slice H.next 0 len len,sE H l none)))
def Hp(t:Nat)(a x:Operand):tN:=fun C e H=>qK (ob (C.tys.get t) fun ty=>ob (ev a e) fun a=>ob a.asPtr fun p=>ob (ev x e) fun v=>
 let l:=v.cells
 xB (Nat.beq (rB l) ty.size) (ob (xI C H p.1 p.2 l) fun H'=>some (lD,H')))
def Hq(r:Option Operand):tN:=fun _ _ H=>
 match r with
 | none=>.val (.map H.next) (newBlk H (.map []))
 | some _=>.fail
def nX(t:Nat)(m k x:Operand):tN:=fun C e H=>qK (ob (C.tys.get t) fun ty=>ob ty.desc.asMap fun ke=>ob (C.tys.get ke.1) fun kty=>xB (pQ C kty)
 (ob (ev m e) fun m=>ob m.asMap fun b=>xB (!Nat.blt b C.base) (ob (xJ H b) fun l=>ob (ev k e) fun k=>xB (xO C kty k) (ob (ev x e) fun v=>ob (eK k v l) fun l'=>some (lD,setBlk H b (.map l'))))))
def Uu(t:Nat)(l c:Operand):tN:=fun C e H=>qK (ob (C.tys.get t) fun ty=>ob ty.desc.asSlice fun el=>ob (C.tys.get el) fun et=>
 ob (ev l e) fun l=>ob l.asNat fun l=>ob (ev c e) fun c=>ob c.asNat fun c=>
  xB (Nat.ble l c&&Nat.blt c 1000000&&Nat.blt (c*et.bytes) 1000000000&&Nat.beq (rB et.zero) et.size) (some (.slice H.next 0 l c,sE H (pI et.zero c) none)))
def lT(s d:Nat)(x:Operand):tN:=fun C e H=>
 match cL s d x C e H with
 | some v=>.val v H
 | none=>qK (ob (C.tys.get s) fun _=>ob (C.tys.get d) fun ty=>ob ty.desc.asSlice fun el=>ob (C.tys.get el) fun et=>ob et.desc.asInt fun k=>xB (bL k .u8) (ob (ev x e) fun v=>ob v.asStr fun l=>
   some (.slice H.next 0 (rB l) (rB l),sE H (cT l) (some (.ty el)))))
def Ut(x:Operand):tN:=fun _ e _=>zX (ob (ev x e) fun v=>ob v.asIface fun p=>some (.panic (.iface p.1 p.2)))
def vR(f:Operand)(args:Array Operand)(e:jC):Option (dQ × List zA × List zA):=
 ob (ev f e) fun v=>ob v.asFunc fun p=>ob (uO args.toList e) fun as=>some (p.1,uD p.2.1 as,p.2.2)
def Mq(c:Call):Callee->HB
 | .value f=>⟨fun _ e _=>zX (ob (vR f c.args e) fun p=>some (.defer ⟨some p.1,0,uD p.2.1 p.2.2⟩))⟩
 | _=>⟨fun _ _ _=>.fail⟩
def hDefer(c:Call):HB:=Mq c c.callee
def fL(g:List zA->xA->Option zA):List zA->xA->Option (zA × xA):=fun args H=>ob (g args H) fun v=>some (v,H)
def Dm(_:oA)(H:xA)(args:List zA)(f:Nat):Option (List zA->xA->Option (zA × xA))->rJ
 | some g=>match g args H with
  | some p=>.val p.1 p.2
  | none=>.fail
 | none=>.enter f args
def JR(l:Nat)(args:List zA):List zA->rJ
 | []=>.round l args
 | _::_=>.fail
def zeu(C:oA)(H:xA)(args cap:List zA):dQ->rJ
 | .func f=>Dm C H (uD args cap) f (C.prims.get f)
 | .yld l=>JR l args cap
def Ac(f:Operand)(args:Array Operand):tN:=fun C e H=>zX (ob (vR f args e) fun p=>some (zeu C H p.2.1 p.2.2 p.1))
def Cw(c:Call):tN:=fun C e H=>qK (ob (fC c.argTypes.toList 0) fun t=>ob (C.tys.get t) fun ty=>ob (fC c.argTypes.toList 1) fun u=>ob (C.tys.get u) fun uty=>
 xB (!Nat.beq uty.desc.tag 1) (ob (two c e) fun p=>xU C H ty p.1 p.2))
def zd7:tN:=fun _ _ _=>.fail
def zaj:tN:=fun _ _ _=>.recover
def zak(c:Call):Builtin->HB
 | .append=>⟨Cw c⟩
 | .len=>⟨lv (iM c)⟩
 | .max=>⟨lv (lR c)⟩
 | .min=>⟨lv (mR c)⟩
 | .recover=>⟨zaj⟩
 | _=>⟨zd7⟩
def Cv(c:Call):Callee->HB
 | .value f=>⟨Ac f c.args⟩
 | .builtin b=>zak c b
 | _=>⟨zd7⟩
def hCall(c:Call):HB:=Cv c c.callee
def lvB (b:LB):HB:=⟨lv b.f⟩
def pF:Op->HB
 | .move x=>⟨lv (rT x)⟩
 | .assign x=>⟨lv (rT x)⟩
 | .pick c a b=>⟨lv (Hf c a b)⟩
 | .load t a=>⟨lv (jR t a)⟩
 | .nilCheck x=>⟨lv (mV x)⟩
 | .binOp op t x y _=>⟨lv (bR op t x y)⟩
 | .unOp op _ x=>⟨lv (lUn op x)⟩
 | .makeInterface t x=>⟨lv (sX t x)⟩
 | .makeFunc fn a b=>lvB (rX fn a b)
 | .slice t x lo hi mx=>lvB (He t x lo hi mx)
 | .fieldAddr s x f=>⟨lv (eR s x f)⟩
 | .field t x f=>⟨lv (qX t x f)⟩
 | .indexAddr t x i=>⟨lv (iR t x i)⟩
 | .index t x i=>⟨lv (fR t x i)⟩
 | .extract t i=>⟨lv (dR t i)⟩
 | .build t ps=>⟨lv (qT t ps)⟩
 | .typeAssert x _ u ok=>⟨lv (aR x u ok)⟩
 | .lookup t x i ok=>⟨lv (kR t x i ok)⟩
 | .convert s d x=>⟨lT s d x⟩
 | .alloc t=>⟨lX t⟩
 | .box t x=>⟨iV t x⟩
 | .buildSlice t len ps=>⟨mX t len ps⟩
 | .store t a x=>⟨Hp t a x⟩
 | .makeMap _ r=>⟨Hq r⟩
 | .insert t m k x=>⟨nX t m k x⟩
 | .mapUpdate t m k x=>⟨nX t m k x⟩
 | .makeSlice t l c=>⟨Uu t l c⟩
 | .panic x=>⟨Ut x⟩
 | .defer c=>hDefer c
 | .call c=>hCall c
 | _=>⟨zd7⟩
structure GB where f:Tm->Option Bool
def zcx(_:Tm):Option Bool:=some true
def Ex(d:Option Nat)(w:Bool)(tm:Tm):Option Bool:=
 ob d fun d=>ob (tm.get d) fun v=>match v.asBool with
  | some b=>some (bEq b w)
  | none=>some false
def Ey(g:Option (Nat × Bool))(all:Array Oper):GB:=
 match g with
 | none=>⟨zcx⟩
 | some jw=>⟨Ex (ob (fC all.toList jw.1) fun o=>o.dst) jw.2⟩
def cE(g:Option (Nat × Bool))(all:Array Oper)(tm:Tm):Option Bool:=(Ey g all).f tm
structure PB where f:Nat->Tm->zA->Tm
def Kp(d n:Nat)(tm:Tm)(v:zA):Tm:=bif Nat.blt d n then tm.set d v else tm
def putNo(_:Nat)(tm:Tm)(_:zA):Tm:=tm
def putB (dst:Option Nat):PB:=
 match dst with
 | some d=>⟨Kp d⟩
 | none=>⟨putNo⟩
def putA (n:Nat)(tm:Tm)(dst:Option Nat)(v:zA):Tm:=(putB dst).f n tm v
def pU.running:pU->Bool | .run=>true | _=>false
def qD.blockId:qD->Option Nat | .inBlock id=>some id | _=>none
def mP(id:Nat):List qD->Option (List qD)
 | []=>none
 | x::k=>match x.blockId with
  | some i=>bif Nat.beq i id then some k else mP id k
  | none=>mP id k
def zcn(all:Array Oper)(rest:List Oper)(k:List qD)(tm:Tm)(R:kI)(v:zA):Option zC:=
 match rest with
 | o::rest=>some ⟨.ops all rest::k,putA R.n tm o.dst v,R⟩
 | []=>none
def Vg(all:Array Oper)(old:Tm)(olds:List (Nat × List Nat))(stages:List aD)(k:List qD)(tm:Tm)(R:kI)(v:zA):Option zC:=
 match stages with
 | st::stages=>ob (fC all.toList st.heavy) fun o=>some ⟨.reg all old olds (⟨all.size,st.lights,st.again⟩::stages)::k,putA R.n tm o.dst v,R⟩
 | []=>none
def zar(l:Nat)(k:List qD)(tm:Tm)(R:kI)(_:zA):Option zC:=some ⟨.endRange l::k,tm,R⟩
def zas(k:List qD)(tm:Tm)(R:kI)(_:zA):Option zC:=some ⟨k,tm,R⟩
def zee(_:List qD)(_:Tm)(_:kI)(_:zA):Option zC:=none
def My:qD->List qD->Tm->kI->zA->Option zC
 | .ops all rest=>zcn all rest
 | .reg all old olds stages=>Vg all old olds stages
 | .inRange l=>zar l
 | .beginRound=>zas
 | _=>zee
def lG(fr:zC)(v:zA):Option zC:=
 match fr.todo with
 | []=>none
 | x::k=>bif fr.R.mode.running then My x k fr.tm fr.R v else none
def oK(C:oA)(f:Nat)(args:List zA)(deferred:Bool):Option zC:=
 ob (C.fns.get f) fun fn=>ob fn.body fun c=>ob (C.ks.get f) fun k=>xB (Nat.ble (rB args) k&&Nat.ble (rB args) fn.ntmps) (some ⟨[.code c],⟨k,Tr.ofList args,[]⟩,⟨f,fn.ntmps,[],.run,deferred,none⟩⟩)
def iU(n:Nat):List Nat->List zA->Tm->Option (Tm)
 | [],[],tm=>some tm
 | p::ps,a::as,tm=>iU n ps as (putA n tm (some p) a)
 | _,_,_=>none
def Pg:List Operand->List Nat
 | []=>[]
 | .tmp t::l=>t::Pg l
 | _::l=>Pg l
def sG(o:Op):List Nat:=Pg o.operands.toList
def wE(i:Nat):List (Nat × List Nat)->List Nat
 | []=>[]
 | x::r=>bif Nat.beq i x.1 then x.2 else wE i r
def same:Nat->zA->zA->Bool
 | _,.bool a,.bool b=>bEq a b
 | _,.int j a,.int k b=>bL j k&&iA a b
 | _,.str a,.str b=>cC a b
 | _,.nilptr,.nilptr=>true
 | _,.ptr a b,.ptr c d=>Nat.beq a c&&Nat.beq b d
 | _,.nilslice,.nilslice=>true
 | _,.slice a b c d,.slice e f g h=>Nat.beq a e&&Nat.beq b f&&Nat.beq c g&&Nat.beq d h
 | _,.nilmap,.nilmap=>true
 | _,.map a,.map b=>Nat.beq a b
 | _,.nilfunc,.nilfunc=>true
 | _,.niliface,.niliface=>true
 | d+1,.agg a,.agg b=>sames d a b
 | d+1,.tup a,.tup b=>sames d a b
 | _,_,_=>false
where
 sames (d:Nat):List zA->List zA->Bool
  | [],[]=>true
  | a::x,b::y=>same d a b&&sames d x y
  | _,_=>false
def aN(C:oA)(H:xA)(all:Array Oper)(n:Nat)(old:Tm)(olds:List (Nat × List Nat)):List Nat->Tm->Option (Tm)
 | [],tm=>some tm
 | i::l,tm=>ob (fC all.toList i) fun o=>ob (cE o.guard all tm) fun w=>ob (bif w then(nE o.op).f C (.mixed tm old (wE i olds) (sG o.op)) H else some lD) fun v=>
   aN C H all n old olds l (putA n tm o.dst v)
def wY(C:oA)(H:xA)(all:Array Oper)(old:Tm)(olds:List (Nat × List Nat))(tm:Tm):List Nat->Bool
 | []=>true
 | i::l=>match (ob (fC all.toList i) fun o=>ob o.dst fun d=>ob (cE o.guard all tm) fun w=>bif w then(ob ((nE o.op).f C (.mixed tm old (wE i olds) (sG o.op)) H) fun v=>ob (tm.get d) fun u=>some (same 10 v u))else some true)with
  | some true=>wY C H all old olds tm l
  | _=>false
def pU.chain:pU->Option (List lY) | .panicking c=>some c | _=>none
def Di:List Oper->Tr zA->Tr zA
 | [],t=>t
 | o::l,t=>match o.dst with
  | some j=>Di l (t.del j)
  | none=>Di l t
def Hc(todo:List qD)(tm:Tm):Tm:=
 match todo with
 | .reg all _ _ _::_=>⟨tm.k,Di all.toList tm.v,[]⟩
 | _=>tm
def Kn(fr:zC)(l:List lY):zC:=
 ⟨[],Hc fr.todo fr.tm,⟨fr.R.fn,fr.R.n,fr.R.defers,.panicking (match fr.R.mode.chain with | some c=>uD l c | none=>l),fr.R.deferred,fr.R.roundOf⟩⟩
def jJ(x:Option jO)(why:Nat):pE:=
 match x with
 | some s=>.next s
 | none=>.fail why
def cI(H:xA)(l:Nat):Option rN:=xB (Nat.ble (nat_lit 256) l) (ob (H.t.get l) sA.asLoop)
def eT(H:xA)(l:Nat):Option (Option (List rI)):=xB (Nat.ble (nat_lit 256) l) (ob (H.t.get l) sA.asDeferred)
def nZ (v:zA)(H':xA)(_:oA)(fr:zC)(cs:List zC)(_:xA):pE:=jJ (ob (lG fr v) fun fr=>some ⟨fr,cs,H'⟩) 1
def Gg(f:Nat)(args:List zA)(C:oA)(fr:zC)(cs:List zC)(H:xA):pE:=jJ (ob (oK C f args false) fun g=>some ⟨g,fr::cs,H⟩) 2
def Gf(l:Nat)(args:List zA)(_:oA)(fr:zC)(cs:List zC)(H:xA):pE:=
 jJ (ob (cI H l) fun r=>ob (iU r.n r.params args r.tm) fun tm=>some ⟨⟨[.code r.assign,.beginRound,.code r.body],tm,⟨r.fn,r.n,[],.run,false,some l⟩⟩,fr::cs,H⟩) 3
def Sk(d:rI)(_:oA)(fr:zC)(cs:List zC)(H:xA):pE:=
 jJ (match fr.R.roundOf with
  | none=>ob (lG fr lD) fun g=>some ⟨⟨g.todo,g.tm,⟨g.R.fn,g.R.n,d::g.R.defers,g.R.mode,g.R.deferred,g.R.roundOf⟩⟩,cs,H⟩
  | some _=>none) 4
def CB(v:zA)(_:oA)(fr:zC)(cs:List zC)(H:xA):pE:=.next ⟨Kn fr [⟨v,false⟩],cs,H⟩
def Si(_:oA)(fr:zC)(cs:List zC)(H:xA):pE:=
 jJ (match fr.R.roundOf,fr.R.deferred,cs with
  | none,true,c::rest=>match c.R.mode with
   | .panicking (⟨v,false⟩::older)=>ob (lG fr v) fun fr=>some ⟨fr,⟨c.todo,c.tm,⟨c.R.fn,c.R.n,c.R.defers,.panicking (⟨v,true⟩::older),c.R.deferred,c.R.roundOf⟩⟩::rest,H⟩
   | .panicking _=>none
   | _=>ob (lG fr .niliface) fun fr=>some ⟨fr,cs,H⟩
  | _,_,_=>none) 5
def rFail(_:oA)(_:zC)(_:List zC)(_:xA):pE:=.fail 6
def Dx:rJ->oA->zC->List zC->xA->pE
 | .val v H'=>nZ v H'
 | .enter f args=>Gg f args
 | .round l args=>Gf l args
 | .defer d=>Sk d
 | .panic v=>CB v
 | .recover=>Si
 | .fail=>rFail
def bW(C:oA)(H:xA)(tm:Tm):ResultVar->Option zA
 | .tmp t=>tm.get t
 | .cell a t=>ob (ob (tm.get a) zA.asPtr) fun p=>ob (C.tys.get t) fun ty=>ob (aC H p.1) fun c=>vP ty c.1 p.2
def fU(C:oA)(H:xA)(tm:Tm)(l:List ResultVar):Option (List zA):=aF (bW C H tm) l
def Sd(jump:Option Code):Bool:=
 match jump with
 | none=>true
 | some .ret=>true
 | _=>false
def Fy(fr:zC)(m:pU):zC:=⟨fr.todo,fr.tm,⟨fr.R.fn,fr.R.n,fr.R.defers,m,fr.R.deferred,fr.R.roundOf⟩⟩
def uP(jump:Option Code)(_:oA)(fr:zC)(cs:List zC)(H:xA):pE:=
 jJ (match fr.R.roundOf with
  | none=>xB (Sd jump) (some ⟨Fy fr .returning,cs,H⟩)
  | some l=>ob (cI H l) fun r=>match cs with
   | c::rest=>xB (!fr.R.deferred) <| ob (lG c (.bool jump.isNone)) fun c=>some ⟨c,rest,setBlk H l (.loop ⟨if jump.isNone then .ready else .done,jump,r.fn,r.n,r.tm,r.params,r.assign,r.body,r.defers⟩)⟩
   | []=>none) 7
abbrev nK:=oA->List qD->Tm->kI->List zC->xA->pE
structure XB where f:nK
def xGo (todo:List qD)(tm:Tm)(R:kI)(cs:List zC)(H:xA):pE:=.next ⟨⟨todo,tm,R⟩,cs,H⟩
def jY:nK:=fun _ k tm R cs H=>xGo k tm R cs H
def Es(c:Operand)(x y:Code):nK:=fun _ k tm R cs H=>
 match ob (ev c (.now tm)) zA.asBool with
 | some b=>xGo (.code (bif b then x else y)::k) tm R cs H
 | none=>.fail 8
def Wv(id:Nat)(c:Code):nK:=fun _ k tm R cs H=>xGo (.code c::.inBlock id::k) tm R cs H
def Oj(c:Code):nK:=fun _ k tm R cs H=>xGo (.code c::.inLoop c::k) tm R cs H
def xScope(c:Code):nK:=fun _ k tm R cs H=>xGo (.code c::.inScope c::k) tm R cs H
def lW(id:Nat):nK:=fun C k tm R cs H=>
 match mP id k with
 | some k'=>xGo k' tm R cs H
 | none=>uP (some (.exit id)) C ⟨.code (.exit id)::k,tm,R⟩ cs H
def xRet:nK:=fun C k tm R cs H=>uP (some .ret) C ⟨.code .ret::k,tm,R⟩ cs H
def Ol:nK:=fun _ _ _ _ _ _=>.fail 9
def As(e:Edge):Bool:=
 match e.ground with
 | .textOnly _=>false
 | .gcOnly _=>false
 | _=>true
def tb (m i:Nat):Bool:=Nat.beq (Nat.mod (Nat.shiftRight m i) (nat_lit 2)) (nat_lit 1)
def vW(i:Nat):Nat:=Nat.shiftLeft (nat_lit 1) i
def gH (t:Tr Nat)(i:Nat):Nat:=
 match t.get i with
 | some m=>m
 | none=>0
def Cn(t:Tr Nat):List Edge->Nat
 | []=>0
 | e::l=>bif As e then Nat.lor (Nat.lor (vW e.on) (gH t e.on)) (Cn t l)else Cn t l
def zez:List Oper->Nat->Tr Nat->Tr Nat
 | [],_,t=>t
 | o::r,i,t=>zez r (i+1) (t.set i (Cn t o.after.toList))
def Ld:List Oper->Nat->Bool
 | [],_=>true
 | o::r,i=>bif vF (fun e=>bif As e then Nat.blt e.on i else true) o.after.toList then Ld r (i+1)else false
def Bg:List Oper->Nat->Tr Nat->Option (Tr Nat)
 | [],_,t=>some t
 | o::r,i,t=>match o.dst with
  | none=>Bg r (i+1) t
  | some d=>match t.get d with
   | none=>Bg r (i+1) (t.set d i)
   | some _=>none
def rG{α:Type}:Option α->Bool | none=>true | some _=>false
def Sy(wr anc:Tr Nat)(i:Nat)(olds:List Nat)(t:Nat):Bool:=
 match wr.get t with
 | none=>true
 | some j=>bif qH t olds then(bif Nat.beq j i then true else tb (gH anc j) i)else tb (gH anc i) j
def Sz(anc:Nat):Option (Nat × Bool)->Bool
 | none=>true
 | some g=>tb anc g.1
def Lb(wr anc:Tr Nat)(olds:List (Nat × List Nat)):List Oper->Nat->Bool
 | [],_=>true
 | o::r,i=>bif Sz (gH anc i) o.guard then(bif vF (Sy wr anc i (wE i olds)) (sG o.op)then Lb wr anc olds r (i+1)else false)else false
def yQ:Op->Bool
 | .move _=>true
 | .assign _=>true
 | .pick _ _ _=>true
 | .nilCheck _=>true
 | .binOp _ _ _ _ _=>true
 | .unOp _ _ _=>true
 | .makeInterface _ _=>true
 | .makeFunc _ _ _=>true
 | .fieldAddr _ _ _=>true
 | .field _ _ _=>true
 | .indexAddr _ _ _=>true
 | .index _ _ _=>true
 | .extract _ _=>true
 | .build _ _=>true
 | .typeAssert _ _ _ _=>true
 | _=>false
def lU (D:Nat)(o:Oper):Bool:=vF (fun e=>bif As e then tb D e.on else true) o.after.toList
def Lc(h D:Nat):List Oper->Nat->Bool
 | [],_=>true
 | o::r,i=>bif (bif tb D i then true else bif Nat.beq i h then true else !lU D o)then Lc h D r (i+1)else false
def vJ:Op->Bool
 | .alloc _=>true
 | .box _ _=>true
 | .buildSlice _ _ _=>true
 | _=>false
def Lg(m D:Nat)(again:List Nat):List Oper->Nat->Bool
 | [],_=>true
 | o::r,i=>bif (bif tb D i then(bif tb m i then true else bif yQ o.op then true else bif vJ o.op then true else qH i again)else true)then Lg m D again r (i+1)else false
def xT(ops:List Oper)(i D:Nat):Option Nat:=
 ob (fC ops i) fun o=>xB (bif tb D i then false else lU D o) (some (Nat.lor D (vW i)))
def lM(ops:List Oper):List Nat->Nat->Option Nat
 | [],D=>some D
 | i::l,D=>ob (xT ops i D) fun D=>lM ops l D
def Le(D:Nat):List Oper->Nat->Bool
 | [],_=>true
 | _::r,i=>bif tb D i then Le D r (i+1)else false
def zd4:Option Oper->Bool
 | some o=>vJ o.op
 | none=>false
def okG (ops:List Oper)(D:Nat):List Nat->Nat->Option Nat
 | [],E=>some E
 | i::l,E=>ob (fC ops i) fun o=>xB (!tb E i&&lU D o&&rG o.dst) (okG ops D l (Nat.lor E (vW i)))
def La(anc:Tr Nat)(D1:Nat)(G:List Nat):List Oper->Nat->Bool
 | [],_=>true
 | o::r,i=>bif (bif tb D1 i then true else bif vF (fun g=>tb (gH anc i) g) G then true else !lU D1 o)then La anc D1 G r (i+1)else false
def Hi(o:Op):Bool:=
 match o with
 | .call c=>(match c.callee with
  | .builtin .len=>true
  | _=>false)
 | _=>false
def Lf(anc:Tr Nat)(D:Nat)(G:List Nat):List Oper->Nat->Bool
 | [],_=>true
 | o::r,i=>bif (bif tb D i then(bif yQ o.op then true else bif vJ o.op then true else bif Hi o.op then true else vF (fun g=>tb (gH anc g) i) G)else true)then Lf anc D G r (i+1)else false
def CZ(ops:List Oper)(anc:Tr Nat)(D:Nat)(st:aD):Option Nat:=
 ob (okG ops D st.again D) fun D1=>xB (La anc D1 st.again ops 0&&Lf anc D st.again ops 0) (lM ops st.lights D1)
def cH(ops:List Oper)(anc:Tr Nat):List aD->Nat->Bool
 | [],D=>Le D ops 0
 | st::r,D=>bif Nat.blt (rB ops) st.heavy then(bif Nat.blt (rB ops+rB ops) st.heavy then(match CZ ops anc D st with
   | some D=>cH ops anc r D
   | none=>false)else bif zd4 (fC ops (Nat.sub st.heavy (Nat.succ (rB ops))))then
   (match ob (xT ops (Nat.sub st.heavy (Nat.succ (rB ops))) D) fun D=>lM ops st.lights D with
   | some D=>cH ops anc r D
   | none=>false)else false)else bif Lc st.heavy D ops 0 then(bif Lg (gH anc st.heavy) D st.again ops 0 then
   (match ob (xT ops st.heavy D) fun D=>lM ops st.lights D with
   | some D=>cH ops anc r D
   | none=>false)else false)else false
def Sx(ops:List Oper)(p:Plan):Bool:=
 bif Ld ops 0 then
  (match Bg ops 0 .leaf with
  | none=>false
  | some wr=>
   (fun anc=>bif Lb wr anc p.olds ops 0 then(match lM ops p.first 0 with
    | some D=>cH ops anc p.stages D
    | none=>false)else false) (zez ops 0 .leaf))else false
structure OkB where b:Bool
def vQ(all:Array Oper)(p:Plan):Bool:=(OkB.mk (Sx all.toList p)).b
def Er(id:Nat)(all:Array Oper):nK:=fun C k tm R cs H=>
 jJ (ob (ob (C.plans.get R.fn) fun t=>t.get id) fun p=>xB (vQ all p) <| ob (aN C H all R.n tm.cut p.olds p.first tm.cut) fun tm'=>some ⟨⟨.reg all tm.cut p.olds p.stages::k,tm',R⟩,cs,H⟩) 10
def rJ.asVal:rJ->Option (zA × xA) | .val v H=>some (v,H) | _=>none
def wR(C:oA)(all:Array Oper)(k:List qD)(R:kI)(cs:List zC)(l:List Oper):Tm->xA->pE:=
 List.rec (motive:=fun _=>Tm->xA->pE) (fun tm H=>xGo k tm R cs H)
  (fun o rest g tm H=>
   match cE o.guard all tm with
   | some w=>Bool.rec (motive:=fun _=>pE) (g (putA R.n tm o.dst lD) H)
     (let r:=(pF o.op).f C (.now tm) H
     match r.asVal with
     | some p=>g (putA R.n tm o.dst p.1) p.2
     | none=>Dx r C ⟨.ops all (o::rest)::k,tm,R⟩ cs H) w
   | none=>.fail 20) l
def xOps (all:Array Oper)(rest:List Oper):nK:=fun C k tm R cs H=>wR C all k R cs rest tm H
def zcv(id:Nat)(all:Array Oper)(draw:Bool):XB:=
 match draw with
 | true=>⟨Er id all⟩
 | false=>⟨fun C k tm R cs H=>wR C all k R cs all.toList tm.cut H⟩
def It(all:Array Oper)(old:Tm)(olds:List (Nat × List Nat))(st:aD)(stages:List aD)(o:Oper):nK:=fun C k tm R cs H=>
 match cE o.guard all tm with
 | some w=>Dx (bif w then(pF o.op).f C (.mixed tm old (wE st.heavy olds) (sG o.op)) H else .val lD H) C ⟨.reg all old olds (st::stages)::k,tm,R⟩ cs H
 | none=>.fail 21
def Eo(all:Array Oper)(old:Tm)(olds:List (Nat × List Nat))(st:aD)(stages:List aD):nK:=fun C k tm R cs H=>
 jJ (xB (wY C H all old olds tm st.again) (ob (aN C H all R.n old olds st.lights tm) fun tm=>some ⟨⟨.reg all old olds stages::k,tm,R⟩,cs,H⟩)) 11
def Iv(all:Array Oper)(old:Tm)(olds:List (Nat × List Nat))(st:aD)(stages:List aD)(i:Nat):nK:=fun C k tm R cs H=>
 jJ (ob (fC all.toList i) fun o=>ob (cE o.guard all tm) fun w=>xB (w&&rG (tV C o.op)) (ob ((pF o.op).f C (.mixed tm old (wE i olds) (sG o.op)) H).asVal fun p=>
  ob (aN C p.2 all R.n old olds st.lights (putA R.n tm o.dst p.1)) fun tm'=>some ⟨⟨.reg all old olds stages::k,tm',R⟩,cs,p.2⟩)) 23
inductive tK where
 | store (t:Nat) (a v:zA)
 | upd (t:Nat) (m k v:zA)
inductive RE where
 | st (b off:Nat) (l:List zA)
 | up (b:Nat) (k v:zA)
def yW(op:Op)(e:jC):Option tK:=
 match op with
 | .store t a x=>ob (ev a e) fun a=>ob (ev x e) fun v=>some (.store t a v)
 | .mapUpdate t m k x=>ob (ev m e) fun m=>ob (ev k e) fun k=>ob (ev x e) fun v=>some (.upd t m k v)
 | .insert t m k x=>ob (ev m e) fun m=>ob (ev k e) fun k=>ob (ev x e) fun v=>some (.upd t m k v)
 | _=>none
def uR (C:oA)(e:tK):Option RE:=
 match e with
 | .store t a v=>ob (C.tys.get t) fun ty=>ob a.asPtr fun p=>xB (Nat.beq (rB v.cells) ty.size) (some (.st p.1 p.2 v.cells))
 | .upd t m k v=>ob (C.tys.get t) fun ty=>ob ty.desc.asMap fun ke=>ob (C.tys.get ke.1) fun kty=>xB (pQ C kty&&xO C kty k) (ob m.asMap fun b=>some (.up b k v))
def RE.blk:RE->Nat
 | .st b _ _=>b
 | .up b _ _=>b
def DE(a b:zA):Bool:=
 match gG a b with
 | some r => !r
 | none=>false
def Wh(a b:RE):Bool:=bif Nat.beq a.blk b.blk then(match a with
 | .st _ _ _=>false
 | .up _ k _=>(match b with
  | .st _ _ _=>false
  | .up _ k' _=>DE k k'))else true
def Oa:List RE->Bool
 | []=>true
 | a::l=>vF (Wh a) l&&Oa l
def sW(C:oA)(H:xA)(e:RE):Option xA:=
 match e with
 | .st b off l=>xI C H b off l
 | .up b k v=>xB (!Nat.blt b C.base) (ob (xJ H b) fun m=>some (setBlk H b (.map (uD m [(k,v)]))))
def Cd(C:oA)(H:xA)(e:RE):Bool:=
 match e with
 | .st b off l => !rG (xI C H b off l)
 | .up b _ _ => !Nat.blt b C.base&&(match xJ H b with
  | some []=>true
  | _=>false)
def Aw(C:oA):List RE->xA->Option xA
 | [],H=>some H
 | e::l,H=>ob (sW C H e) fun H=>Aw C l H
def dV(C:oA)(es:List tK)(H:xA):Option xA:=ob (aF (uR C) es) fun rs=>xB (Oa rs&&vF (Cd C H) rs) (Aw C rs H)
def jT(all:Array Oper)(old:Tm)(olds:List (Nat × List Nat))(tm:Tm)(i:Nat):Option tK:=
 ob (fC all.toList i) fun o=>ob (cE o.guard all tm) fun w=>xB w (yW o.op (.mixed tm old (wE i olds) (sG o.op)))
def Lz(C:oA)(o:Oper):Bool:=
 match o.op with
 | .call c=>(match c.callee with
  | .builtin .len=>(match ob (fC c.argTypes.toList 0) fun t=>C.tys.get t with
   | some ty => !Nat.beq ty.desc.tag 6
   | none=>false)
  | _=>true)
 | _=>true
def uT(C:oA)(all:Array Oper):Bool:=vF (Lz C) all.toList
def Df(all:Array Oper)(old:Tm)(olds:List (Nat × List Nat))(tm:Tm)(l:List Nat):Option (List tK):=aF (jT all old olds tm) l
def Iu(all:Array Oper)(old:Tm)(olds:List (Nat × List Nat))(st:aD)(stages:List aD):nK:=fun C k tm R cs H=>
 jJ (xB (uT C all) (ob (Df all old olds tm st.again) fun es=>ob (dV C es H) fun H'=>ob (aN C H' all R.n old olds st.lights tm) fun tm'=>some ⟨⟨.reg all old olds stages::k,tm',R⟩,cs,H'⟩)) 24
def iO (all:Array Oper)(old:Tm)(olds:List (Nat × List Nat))(stages:List aD):nK:=
 match stages with
 | []=>jY
 | st::stages=>match fC all.toList st.heavy with
  | some o=>It all old olds st stages o
  | none=>bif Nat.blt (rB all.toList) st.heavy then(bif Nat.blt (rB all.toList+rB all.toList) st.heavy then Iu all old olds st stages else Iv all old olds st stages (Nat.sub st.heavy (Nat.succ (rB all.toList))))else Eo all old olds st stages
def dU(C:oA)(l:Nat)(f:zA):Option zC:=
 ob f.asFunc fun p=>match p.1 with
  | .func g=>match C.prims.get g with
   | none=>oK C g (uD p.2.1 (.func (.yld l) [] []::p.2.2)) false
   | some _=>none
  | .yld _=>none
def En(f:Operand)(params:Array Nat)(assign body:Code):nK:=fun C k tm R cs H=>
 jJ (ob (ev f (.now tm)) fun v=>match R.roundOf with
  | none=>
   let r:=H.next
   let l:=r+1
   ob (dU C l v) fun h=>
    some ⟨h,⟨.inRange l::k,tm,⟨R.fn,R.n,⟨none,r,[]⟩::R.defers,R.mode,R.deferred,R.roundOf⟩⟩::cs,
     newBlk (newBlk H (.deferred (some []))) (.loop ⟨.ready,none,R.fn,R.n,tm,params.toList,assign,body,r⟩)⟩
  | some outer=>ob (cI H outer) fun o=>
   let l:=H.next
   ob (dU C l v) fun h=>
    some ⟨h,⟨.inRange l::k,tm,R⟩::cs,newBlk H (.loop ⟨.ready,none,R.fn,R.n,tm,params.toList,assign,body,o.defers⟩)⟩) 12
def LoopState.tag:LoopState->Nat | .ready=>0 | .busy=>1 | .done=>2 | .exhausted=>3
def Et:nK:=fun _ k tm R cs H=>
 jJ (ob R.roundOf fun l=>ob (cI H l) fun r=>xB (Nat.beq (LoopState.tag r.state) 0)
  (some ⟨⟨k,tm,R⟩,cs,setBlk H l (.loop ⟨.busy,r.pending,r.fn,r.n,r.tm,r.params,r.assign,r.body,r.defers⟩)⟩)) 13
def Ep(l:Nat):nK:=fun _ k tm R cs H=>
 jJ (ob (cI H l) fun r=>xB (!Nat.beq (LoopState.tag r.state) 1)
  (some ⟨⟨(match r.pending with | some c=>.code c::k | none=>k),tm,R⟩,cs,setBlk H l (.loop ⟨.exhausted,r.pending,r.fn,r.n,r.tm,r.params,r.assign,r.body,r.defers⟩)⟩)) 14
def Om:Code->XB
 | .skip=>⟨jY⟩
 | .region id ops d=>zcv id ops d
 | .seq a b=>⟨fun C k tm R cs H=>(Om a).f C (.code b::k) tm R cs H⟩
 | .cond c x y=>⟨Es c x y⟩
 | .block id c=>⟨Wv id c⟩
 | .loop c=>⟨Oj c⟩
 | .rangeFunc f ps a b=>⟨En f ps a b⟩
 | .exit id=>⟨lW id⟩
 | .scope c=>⟨xScope c⟩
 | .label _=>⟨jY⟩
 | .goto _=>⟨Ol⟩
 | .ret=>⟨xRet⟩
 | .refuse _=>⟨Ol⟩
def xItem:qD->XB
 | .code c=>Om c
 | .inBlock _=>⟨jY⟩
 | .inLoop c=>⟨Oj c⟩
 | .inScope _=>⟨jY⟩
 | .ops all rest=>⟨xOps all rest⟩
 | .reg all old olds stages=>⟨iO all old olds stages⟩
 | .inRange _=>⟨Ol⟩
 | .endRange l=>⟨Ep l⟩
 | .beginRound=>⟨Et⟩
def vO(C:oA)(todo:List qD)(tm:Tm)(R:kI)(cs:List zC)(H:xA):pE:=
 match todo with
 | []=>uP none C ⟨[],tm,R⟩ cs H
 | x::k=>(xItem x).f C k tm R cs H
def AM(fr:zC)(d:List rI):zC:=⟨fr.todo,fr.tm,⟨fr.R.fn,fr.R.n,d,fr.R.mode,fr.R.deferred,fr.R.roundOf⟩⟩
def Fg(C:oA)(d:rI)(ds:List rI)(fr:zC)(cs:List zC)(H:xA):pE:=
 jJ (match d.fn with
  | none=>ob (eT H d.r) fun l=>ob l fun l=>some ⟨AM fr (uD l ds),cs,setBlk H d.r (.deferred none)⟩
  | some (.func f)=>match C.prims.get f with
   | none=>ob (oK C f d.args true) fun g=>some ⟨g,AM fr ds::cs,H⟩
   | some _=>none
  | some (.yld _)=>none) 15
def yZ(l:List zA):zA:=
 match l with
 | [v]=>v
 | l=>.tup l
def Fe(C:oA)(fr:zC)(cs:List zC)(H:xA):pE:=
 match ob (C.fns.get fr.R.fn) fun fn=>fU C H fr.tm fn.results.toList with
 | none=>.fail 16
 | some l=>
  match cs with
  | []=>bif fr.R.deferred then .fail 17 else bif Nat.beq fr.R.fn C.root then .done (yZ l) H else .fail 22
  | c::rest=>jJ (bif fr.R.deferred then
    (match c.R.mode with
    | .panicking (⟨_,true⟩::_)=>some ⟨Fy c .returning,rest,H⟩
    | _=>xB (!c.R.mode.running) (some ⟨c,rest,H⟩))
   else ob (lG c (yZ l)) fun c=>some ⟨c,rest,H⟩) 18
def Jf(C:oA)(fr:zC)(cs:List zC)(H:xA):pE:=
 match fr.R.defers with
 | d::ds=>Fg C d ds fr cs H
 | []=>match fr.R.mode.chain with
  | some chain=>jJ (ob (C.fns.get fr.R.fn) fun _=>match cs with | c::rest=>some ⟨Kn c chain,rest,H⟩ | []=>none) 19
  | none=>Fe C fr cs H
def stepA(C:oA)(s:jO):pE:=
 match s with
 | ⟨⟨todo,tm,R⟩,cs,H⟩=>bif R.mode.running then vO C todo tm R cs H else Jf C ⟨todo,tm,R⟩ cs H
def Bu(C:oA)(o:pE):pE:=
 match o with
 | .next s=>stepA C s
 | .done v H=>.done v H
 | .fail n=>.fail n
def zP (C:oA)(n:Nat):pE->pE:=
 Nat.rec (motive:=fun _=>pE->pE) (fun o=>Bu C o) (fun _ g o=>g (g o)) n
end Go.Am
namespace Go.Am
open Go
theorem uA{α β:Type}{x:Option α}{f:α->Option β}{b:β}:ob x f=some b ↔ ∃a,x=some a/\f a=some b:=by
 cases x with
 | none=>simp[ob]
 | some a=>exact⟨fun h=>⟨a,rfl,h⟩,fun⟨_,h,k⟩=>by cases h;exact k⟩
@[simp] theorem zde {α β:Type} {f:α->Option β}:ob none f=none:=rfl
@[simp] theorem tA {α β:Type} {a:α} {f:α->Option β}:ob (some a) f=f a:=rfl
theorem oB{α:Type}{b:Bool}{x:Option α}{a:α}:xB b x=some a ↔ b=true/\x=some a:=by
 cases b with
 | false=>simp[xB]
 | true=>simp[xB]
theorem mI{α:Type}(a b:α)(c:Bool):(Bool.rec (motive:=fun _=>α) a b c:α)=if c=true then b else a:=by cases c<;>rfl
theorem oC{n m:Nat}:(Nat.beq n m=true) ↔ n=m:=⟨Nat.eq_of_beq_eq_true,fun h=>by simp_all⟩
theorem beqf{n m:Nat}:(Nat.beq n m=false) ↔ n≠m:=by
 rw[<- Bool.not_eq_true,oC]
theorem rE{n m:Nat}:(Nat.ble n m=true) ↔ n<=m:=Iff.of_eq Nat.ble_eq
theorem vC{n m:Nat}:(Nat.blt n m=true) ↔ n<m:=Iff.of_eq Nat.ble_eq
def eC{α:Type}(c:Bool)(a b:α):(bif c then a else b)=if c=true then a else b:=by cases c<;>rfl
namespace Tr
variable {α:Type}
theorem get_leaf(n:Nat):(leaf:Tr α).get n=none:=rfl
theorem get_node(l:Tr α)(v:Option α)(r:Tr α)(n:Nat) :
  (node l v r).get n=if n=0 then v else if n%2=1 then l.get (n / 2)else r.get (n / 2-1):=by
 show Bool.rec (motive:=fun _=>Option α) (Bool.rec (motive:=fun _=>Option α) (r.get (n / 2-1)) (l.get (n / 2)) (Nat.beq (n%2) 1)) v (Nat.beq n 0)=_
 grind [mI,oC]
theorem zdg(f n:Nat)(v:α):mk (f+1) n v=if n=0 then node leaf (some v) leaf else if n%2=1 then node (mk f (n / 2) v) none leaf else node leaf none (mk f (n / 2-1) v):=by
 show Bool.rec (motive:=fun _=>Tr α) (Bool.rec (motive:=fun _=>Tr α) (node leaf none (mk f (n / 2-1) v)) (node (mk f (n / 2) v) none leaf) (Nat.beq (n%2) 1)) (node leaf (some v) leaf) (Nat.beq n 0)=_
 grind [mI,oC]
def PC(n:Nat)(v:α):(leaf:Tr α).set n v=mk (n+1) n v:=rfl
theorem PA(l:Tr α)(x:Option α)(r:Tr α)(n:Nat)(v:α) :
  (node l x r).set n v=if n=0 then node l (some v) r else if n%2=1 then node (l.set (n / 2) v) x r else node l x (r.set (n / 2-1) v):=by
 show Bool.rec (motive:=fun _=>Tr α) (Bool.rec (motive:=fun _=>Tr α) (node l x (r.set (n / 2-1) v)) (node (l.set (n / 2) v) x r) (Nat.beq (n%2) 1)) (node l (some v) r) (Nat.beq n 0)=_
 grind [mI,oC]
theorem za3(l:Tr α)(x:Option α)(r:Tr α)(n:Nat) :
  (node l x r).del n=if n=0 then node l none r else if n%2=1 then node (l.del (n / 2)) x r else node l x (r.del (n / 2-1)):=by
 show Bool.rec (motive:=fun _=>Tr α) (Bool.rec (motive:=fun _=>Tr α) (node l x (r.del (n / 2-1))) (node (l.del (n / 2)) x r) (Nat.beq (n%2) 1)) (node l none r) (Nat.beq n 0)=_
 grind [mI,oC]
theorem get_mk(f:Nat):∀(n m:Nat) (v:α),n<f->(mk f n v).get m=if m=n then some v else none:=by
 induction f with
 | zero=>omega
 | succ f ih=>
  grind [zdg,get_node,get_leaf]
theorem get_set(t:Tr α):∀(n m:Nat) (v:α),(t.set n v).get m=if m=n then some v else t.get m:=by
 induction t with
 | leaf=>intro n m v;rw[PC,get_mk _ _ _ _ (by omega),get_leaf]
 | node l x r ihl ihr=>
  grind [PA,get_node]
theorem get_del(t:Tr α):∀(n m:Nat),(t.del n).get m=if m=n then none else t.get m:=by
 induction t with
 | leaf=>intro n m;show(leaf:Tr α).get m=_;rw[get_leaf];split<;>rfl
 | node l x r ihl ihr=>
  grind [za3,get_node]
def many_succ(t:Tr α)(n i:Nat):t.many (n+1) i=ob (t.get i) fun v=>ob (t.many n (i+1)) fun l=>some (v::l):=rfl
theorem many_some(t:Tr α)(n:Nat):∀(i:Nat) (l:List α),t.many n i=some l->l.length=n/\∀j,j<n->t.get (i+j)=l[j]?:=by
 induction n with
 | zero=>intro i l h;cases h;simp_all
 | succ n ih=>
  intro i l h;rw[many_succ,uA]at h;obtain⟨v,hv,h⟩:=h;rw[uA]at h;grind
theorem PG(v:α)(l:List α)(t:Tr α)(i:Nat):setMany (v::l) t i=setMany l (t.set i v) (i+1):=rfl
theorem get_setMany(l:List α):∀(t:Tr α) (i m:Nat),(setMany l t i).get m=if i<=m/\m<i+l.length then l[m-i]? else t.get m:=by
 induction l with
 | nil=>intro t i m;rw[yaa (by simp)];rfl
 | cons v l ih=>
  grind [PG,get_set]
theorem get_ofList(l:List α)(m:Nat):(ofList l).get m=l[m]?:=by
 grind [ofList,get_setMany,get_leaf]
end Tr
theorem eF{α:Type}(l:List α):∀n,fC l n=l[n]?:=by
 induction l with
 | nil=>intro n;rfl
 | cons a l ih=>
  intro n
  cases n with
  | zero=>rfl
  | succ n=>show fC l n=_;grind
theorem nR{α:Type}(l:List α):∀n,yO l n=l.drop n:=by
 induction l with
 | nil=>intro n;simp;rfl
 | cons a l ih=>
  intro n
  cases n with
  | zero=>rfl
  | succ n=>show yO l n=_;grind
theorem sQ{α:Type}(l:List α):∀n,uV l n=l.take n:=by
 induction l with
 | nil=>intro n;simp;rfl
 | cons a l ih=>
  intro n
  cases n with
  | zero=>rfl
  | succ n=>show a::uV l n=_;grind
theorem vD{α:Type}(l:List α):rB l=l.length:=by
 induction l with
 | nil=>rfl
 | cons a l ih=>grind [rB]
theorem wG{α:Type}(l m:List α):uD l m=l++m:=by
 induction l with
 | nil=>rfl
 | cons a l ih=>grind [uD]
theorem aI{α:Type}(p:α->Bool)(l:List α):vF p l=l.all p:=by
 induction l with
 | nil=>rfl
 | cons a l ih=>show(bif p a then vF p l else false)=_;rw[ih];cases h:p a<;>simp[h]
theorem dL{α β:Type}(f:α->Option β)(a:α)(l:List α):aF f (a::l)=ob (f a) fun b=>ob (aF f l) fun r=>some (b::r):=rfl
theorem gZ{α β:Type}(f:α->Option β):aF f []=some []:=rfl
theorem wX(i:Nat)(l:List Nat):qH i l=true ↔ i∈l:=by
 induction l with
 | nil=>exact⟨fun h=>(by cases h),fun h=>(by cases h)⟩
 | cons j l ih=>
  grind [qH,oC]
theorem fH(a:List Nat):∀b,cC a b=true ↔ a=b:=by
 induction a with
 | nil=>intro b;cases b with
  | nil=>exact⟨fun _=>rfl,fun _=>rfl⟩
  | cons y b=>exact⟨fun h=>(by cases h),fun h=>(by cases h)⟩
 | cons x a ih=>
  intro b
  cases b with
  | nil=>exact⟨fun h=>(by cases h),fun h=>(by cases h)⟩
  | cons y b=>
   simp_all [cC]
theorem fJ{a b:IntKind}:bL a b=true ↔ a=b:=by cases a<;>cases b<;>simp[bL,kIdx]
theorem yU(a b:Bool):bEq a b=(a == b):=by cases a<;>cases b<;>rfl
theorem vS(a b:Int):iA a b=true ↔ a=b:=by
 cases a<;>cases b<;>simp only[iA,oC] <;> (try simp)<;>omega
theorem Mn(a b:Int):uC a b=true ↔ a<=b:=by
 cases a<;>cases b<;>simp only[uC,rE] <;> (try simp)<;>omega
theorem oX(a b:Int):iB a b=true ↔ a<b:=by
 cases a<;>cases b<;>simp only[iB,vC] <;> (try simp)<;>omega
theorem jV(a b:Int):iA a b=(a == b):=by grind [vS]
theorem zcl(a b:Int):uC a b=decide (a<=b):=by grind [Mn]
theorem zck(a b:Int):iB a b=decide (a<b):=by grind [oX]
theorem kL(k:IntKind)(n:Int):rA k n=k.wrap n:=by
 cases n with
 | ofNat n=>
  show(bif Nat.blt n (zG k)then Int.ofNat n else _)=_;rw[eC];by_cases h:Nat.blt n (zG k)=true
  ·rw[yab h];have h':=vC.1 h;cases k<;>simp only[zG]at h'<;>simp only[IntKind.wrap,IntKind.bits,IntKind.signed]<;>simp<;>omega
  grind
 | negSucc n=>
  show(bif Nat.blt n (kLo k)then Int.negSucc n else _)=_;rw[eC];by_cases h:Nat.blt n (kLo k)=true
  ·rw[yab h];have h':=vC.1 h;cases k<;>simp only[kLo]at h'<;>simp only[IntKind.wrap,IntKind.bits,IntKind.signed]<;>simp<;>omega
  grind
theorem Gt{n:Int}{m:Nat}:yK n=some m ↔ n=(m:Int):=by
 cases n with
 | ofNat a=>grind [yK]
 | negSucc a=>grind [yK]
end Go.Am
namespace Go.Am
open Go
theorem Cp{a b:zA}{r:Bool}(h:fM a b=some r) :
  (∃k x y,a=.int k x/\b=.int k y/\r=(x == y))\/(∃x y,a=.str x/\b=.str y/\r=cC x y)\/(∃x y,a=.bool x/\b=.bool y/\r=(x == y)):=by
 cases a<;>simp only[fM,zA.asIntK,zA.asStr,Dc,zA.asBool]at h<;>try (cases h;done)
 case bool x=>
  rw[tA,uA]at h;grind [yU]
 all_goals grind [uA,oB,fJ,jV]
def FY{a b:zA}(h:fM a b=some true):a=b:=by
 grind [Cp,fH]
def FZ{a b:zA}{r:Bool}(h:fM a b=some r):fM b a=some r:=by
 rcases Cp h with⟨k,x,y,rfl,rfl,hr⟩ | ⟨x,y,rfl,rfl,hr⟩ | ⟨x,y,rfl,rfl,hr⟩
 ·have e:iA y x=(x == y):=by grind [jV]
  show xB (bL k k) (some (iA y x))=_
  grind [oB,fJ]
 ·grind [fM,zA.asIntK,zA.asStr,tA,fH]
 ·simp only[fM,zA.asIntK,zA.asStr,Dc,zA.asBool,yU,tA,hr];rw[show(y == x)=(x == y) by cases x<;>cases y<;>rfl]
def FS:∀ {x y:List zA},qQ x y=some true->x=y
 | [],[],_=>rfl
 | a::x,b::y,h=>by
  simp only[qQ,uA]at h;obtain⟨r,hr,s,hs,h⟩:=h;cases r<;>cases s<;>simp at h;rw[FY hr,FS hs]
 | [],_::_,h=>by cases h
 | _::_,[],h=>by cases h
def FT:∀ {x y:List zA} {r:Bool},qQ x y=some r->qQ y x=some r
 | [],[],_,h=>h
 | a::x,b::y,r,h=>by
  simp only[qQ,uA]at h ⊢;obtain⟨r1,hr,s,hs,h⟩:=h;exact⟨r1,FZ hr,s,FT hs,h⟩
 | [],_::_,_,h=>by cases h
 | _::_,[],_,h=>by cases h
def Hh{a b:zA}{r:Bool}(h:gG a b=some r):(∃x y,a=.agg x/\b=.agg y/\qQ x y=some r)\/(a.asAgg=none/\fM a b=some r):=by
 unfold gG at h;split at h
 ·rename_i x hx;rw[uA]at h;obtain⟨y,hy,h⟩:=h;cases a<;>simp[zA.asAgg]at hx;cases b<;>simp[zA.asAgg]at hy
  simp_all
 simp_all
def VC{a b:zA}{r:Bool}(h:fM a b=some r):gG a b=some r:=by
 rcases Cp h with⟨k,x,y,rfl,rfl,hr⟩ | ⟨x,y,rfl,rfl,hr⟩ | ⟨x,y,rfl,rfl,hr⟩<;>exact h
theorem FX{a b:zA}(h:gG a b=some true):a=b:=by
 rcases Hh h with⟨x,y,rfl,rfl,h⟩ | ⟨_,h⟩
 ·rw[FS h]
 ·exact FY h
theorem Hg{a b:zA}{r:Bool}(h:gG a b=some r):gG b a=some r:=by
 rcases Hh h with⟨x,y,rfl,rfl,h⟩ | ⟨_,h⟩
 ·exact FT h
 ·exact VC (FZ h)
def DK (l:List (zA × zA)):Prop:=l.Pairwise fun p q=>gG p.1 q.1=some false
def Eg(l l':List (zA × zA)):Prop:=l'=l\/(l.Perm l'/\DK l)
def DK.perm{l l':List (zA × zA)}(h:DK l)(p:l.Perm l'):DK l':=(p.pairwise_iff (fun hab=>Hg hab)).1 h
theorem Ve{k:zA}:∀ {l:List (zA × zA)},yJ k l=some none ↔ ∀e∈l,gG k e.1=some false
 | []=>by simp[yJ]
 | e::l=>by
  rw[yJ,uA];constructor
  ·rintro⟨r,hr,h⟩
   cases r with
   | true=>cases h
   | false=>
    rw[cond_false]at h;intro x hx;rcases ybs.1 hx with rfl | hx
    ·exact hr
    ·exact Ve.1 h x hx
  ·intro h;exact⟨false,h e (.head _),Ve.2 fun x hx=>h x (.tail _ hx)⟩
def HX{k v:zA}:∀ {l:List (zA × zA)},yJ k l=some (some v)->(k,v)∈l/\gG k k=some true
 | [],h=>by cases h
 | e::l,h=>by
  rw[yJ,uA]at h;obtain⟨r,hr,h⟩:=h
  cases r with
  | true=>
   grind [FX]
  | false=>
   rw[cond_false]at h;obtain⟨h1,h2⟩:=HX h
   simp_all
def DK.split{k v:zA}{l m:List (zA × zA)}(h:DK (l++(k,v)::m)):(∀e∈l,gG k e.1=some false)/\∀e∈m,gG k e.1=some false:=by
 unfold DK at h;rw[List.pairwise_append]at h;obtain⟨_,h2,h3⟩:=h;rw[List.pairwise_cons]at h2;exact⟨fun e he=>Hg (h3 e he (k,v) (.head _)),fun e he=>h2.1 e he⟩
def WJ{k:zA}{l m:List (zA × zA)}(h:∀e∈l,gG k e.1=some false):yJ k (l++m)=yJ k m:=by
 induction l with
 | nil=>rfl
 | cons e l ih=>
  grind [yJ,tA]
def WK{k:zA}{l l':List (zA × zA)}{r:Option zA}(h:Eg l l')(hf:yJ k l=some r):yJ k l'=some r:=by
 rcases h with rfl | ⟨p,d⟩
 ·exact hf
 cases r with
 | none=>
  grind [Ve]
 | some v=>
  obtain⟨h1,h2⟩:=HX hf;obtain⟨a,b,rfl⟩:=List.append_of_mem (p.mem_iff.1 h1);rw[WJ (d.perm p).split.1,yJ,h2,tA,cond_true]
def Rk{k v:zA}:∀ {l:List (zA × zA)},(∀e∈l,gG k e.1=some false)->eK k v l=some (l++[(k,v)])
 | [],_=>rfl
 | e::l,h=>by
  rw[eK,h e (.head _),tA,cond_false,Rk fun x hx=>h x (.tail _ hx)];rfl
def AK{k v u:zA}{m:List (zA × zA)}(hk:gG k k=some true):∀ {l:List (zA × zA)},(∀e∈l,gG k e.1=some false)->eK k v (l++(k,u)::m)=some (l++(k,v)::m)
 | [],_=>by simp_all [eK]
 | e::l,h=>by
  rw[List.cons_append,eK,h e (.head _),tA,cond_false,AK hk fun x hx=>h x (.tail _ hx)];rfl
def AJ{k v:zA}:∀ {l r:List (zA × zA)},eK k v l=some r->((∀e∈l,gG k e.1=some false)/\r=l++[(k,v)])\/(gG k k=some true/\∃a u b,l=a++(k,u)::b/\r=a++(k,v)::b)
 | [],r,h=>by cases h;simp_all
 | e::l,r,h=>by
  rw[eK,uA]at h;obtain⟨q,hq,h⟩:=h
  cases q with
  | true=>
   rw[cond_true]at h;cases h;have:=FX hq;refine .inr ⟨by simp_all,[],e.2,l,?_,rfl⟩;rw[yah,this]
  | false=>
   rw[cond_false,uA]at h;obtain⟨r',hr,h⟩:=h;cases h;rcases AJ hr with⟨h1,rfl⟩ | ⟨h0,a,u,b,rfl,rfl⟩
   all_goals grind
def PE{k v:zA}{l l' r:List (zA × zA)}(h:Eg l l')(hs:eK k v l=some r):∃r',eK k v l'=some r'/\Eg r r':=by
 rcases h with rfl | ⟨p,d⟩
 ·exact⟨r,hs,.inl rfl⟩
 rcases AJ hs with⟨h1,rfl⟩ | ⟨h0,a,u,b,rfl,rfl⟩
 ·refine⟨_,Rk fun e he=>h1 e (p.mem_iff.2 he),.inr ⟨p.append_right _,?_⟩⟩;unfold DK;rw[List.pairwise_append];exact⟨d,by simp,fun x hx y hy=>by grind [Hg]⟩
 ·obtain⟨a',b',rfl⟩:=List.append_of_mem (p.mem_iff.1 (ycf a (.head b)));refine⟨_,AK h0 (d.perm p).split.1,.inr ⟨?_,?_⟩⟩
  ·have p1:(a++b).Perm (a'++b'):=by
    have q1:(a++(k,u)::b).Perm ((k,u)::(a++b)):=List.perm_middle;have q2:(a'++(k,u)::b').Perm ((k,u)::(a'++b')):=List.perm_middle;exact(q1.symm.trans (p.trans q2)).cons_inv
   exact List.perm_middle.trans ((p1.cons _).trans List.perm_middle.symm)
  ·unfold DK at d ⊢;rw[List.pairwise_append,List.pairwise_cons]at d ⊢;obtain⟨d1,⟨d2,d3⟩,d4⟩:=d;refine⟨d1,⟨d2,d3⟩,fun x hx y hy=>?_⟩;rcases ybs.1 hy with rfl | hy
   ·exact d4 x hx (k,u) (.head _)
   grind
end Go.Am
namespace Go.Am
open Go
structure BI where
 b:Nat
 tight:Bool
 es:Nat
 room:Nat
 ro:Bool
structure Mu where
 m:Nat->Option BI
 pd:Nat->Option (sA × Nat × Nat)
instance:CoeFun Mu fun _=>Nat->Option BI:=⟨Mu.m⟩
def Mu.lw(μ ν:Mu):Prop:=∀a i,μ a=some i->ν a=some i
structure Mu.le (μ ν:Mu):Prop where
 f:∀a i,μ a=some i->ν a=some i
 pd:ν.pd=μ.pd
instance {μ ν:Mu}:CoeFun (μ.le ν) fun _=>∀a i,μ a=some i->ν a=some i:=⟨Mu.le.f⟩
instance {μ ν:Mu}:Coe (μ.le ν) (μ.lw ν):=⟨Mu.le.f⟩
def Mu.le_refl(μ:Mu):μ.le μ:=⟨fun _ _ h=>h,rfl⟩
def Mu.le_trans{a b c:Mu}(h:a.le b)(k:b.le c):a.le c:=⟨fun x i hx=>k.f x i (h.f x i hx),k.pd.trans h.pd⟩
def Ei(μ:Mu):dQ->Fn->Prop
 | .func f,fn=>fn=.func f
 | .yld l,fn=>∃i,μ l=some i/\fn=.yield i.b
mutual
def vA (μ:Mu):zA->Value->Prop
 | .bool b,v=>v=.bool b
 | .int k n,v=>v=.int k n
 | .str l,v=>∃s,v=.string s/\fE s=l
 | .nilptr,v=>v=.pointer none
 | .ptr b off,v=>∃i,μ b=some i/\v=.pointer (some ⟨i.b,off,none⟩)
 | .nilslice,v=>v=.slice none 0 0
 | .slice b off len cap,v=>(∃i cap',μ b=some i/\v=.slice (some ⟨i.b,off,none⟩) len cap'/\cap<=cap'/\(i.tight=true->cap'=cap)/\(i.tight=false->off+cap'*i.es<=i.room))\/(b=0/\len=0/\cap=0/\∃a c,v=.slice (some a) 0 c/\(off=0/\c=0\/off=1))
 | .nilmap,v=>v=.map none
 | .map b,v=>∃i,μ b=some i/\v=.map (some i.b)
 | .func f a c,v=>∃fn a' c',v=.func fn a' c'/\Ei μ f fn/\pB μ a a'.toList/\pB μ c c'.toList
 | .nilfunc,v=>v=.nilFunc
 | .iface t x,v=>∃x',v=.iface t x'/\vA μ x x'
 | .niliface,v=>v=.nilIface
 | .agg l,v=>∃cs,v=.agg cs/\pB μ l cs.toList
 | .tup l,v=>∃cs,v=.tuple cs/\pB μ l cs.toList
def pB (μ:Mu):List zA->List Value->Prop
 | [],m=>m=[]
 | a::l,m=>∃v r,m=v::r/\vA μ a v/\pB μ l r
end
theorem Ei.mono{μ ν:Mu}(h:μ.lw ν){f:dQ}{g:Fn}(k:Ei μ f g):Ei ν f g:=by
 cases f with
 | func f=>exact k
 | yld l=>obtain⟨i,h1,h2⟩:=k;exact⟨i,h _ _ h1,h2⟩
mutual
theorem vA.mono{μ ν:Mu}(h:μ.lw ν):∀(a:zA) (v:Value),vA μ a v->vA ν a v
 | .bool _,_,k=>k
 | .int _ _,_,k=>k
 | .str _,_,k=>k
 | .nilptr,_,k=>k
 | .ptr _ _,_,⟨i,h1,h2⟩=>⟨i,h _ _ h1,h2⟩
 | .nilslice,_,k=>k
 | .slice _ _ _ _,_,.inl ⟨i,c,h1,h2⟩=>.inl ⟨i,c,h _ _ h1,h2⟩
 | .slice _ _ _ _,_,.inr k=>.inr k
 | .nilmap,_,k=>k
 | .map _,_,⟨i,h1,h2⟩=>⟨i,h _ _ h1,h2⟩
 | .func _ a c,_,⟨fn,a',c',h1,h2,h3,h4⟩=>⟨fn,a',c',h1,h2.mono h,pB.mono h a _ h3,pB.mono h c _ h4⟩
 | .nilfunc,_,k=>k
 | .iface _ x,_,⟨x',h1,h2⟩=>⟨x',h1,vA.mono h x _ h2⟩
 | .niliface,_,k=>k
 | .agg l,_,⟨cs,h1,h2⟩=>⟨cs,h1,pB.mono h l _ h2⟩
 | .tup l,_,⟨cs,h1,h2⟩=>⟨cs,h1,pB.mono h l _ h2⟩
theorem pB.mono{μ ν:Mu}(h:μ.lw ν):∀(l:List zA) (m:List Value),pB μ l m->pB ν l m
 | [],_,k=>k
 | a::l,_,⟨v,r,h1,h2,h3⟩=>⟨v,r,h1,vA.mono h a v h2,pB.mono h l r h3⟩
end
theorem pB.length{μ:Mu}{l:List zA}:∀ {m:List Value},pB μ l m->m.length=l.length:=by
 induction l with
 | nil=>grind [pB]
 | cons a l ih=>grind [pB]
theorem pB.get{μ:Mu}{l:List zA}:∀ {m:List Value} {i:Nat} {a:zA},pB μ l m->l[i]?=some a->∃v,m[i]?=some v/\vA μ a v:=by
 induction l with
 | nil=>simp_all
 | cons b l ih=>
  grind [pB]
theorem pB.mk{μ:Mu}{l:List zA}:∀ {m:List Value},m.length=l.length->(∀(i:Nat) a v,l[i]?=some a->m[i]?=some v->vA μ a v)->pB μ l m:=by
 induction l with
 | nil=>grind [pB]
 | cons a l ih=>
  intro m h k
  cases m with
  | nil=>simp at h
  | cons v r=>
   rw[pB];exact⟨v,r,rfl,k 0 a v (by simp) (by simp),ih (by grind) fun i a v h1 h2=>k (i+1) a v (by simp_all) (by simp_all)⟩
theorem pB.append{μ:Mu}{l l':List zA}:∀ {m m':List Value},pB μ l m->pB μ l' m'->pB μ (l++l') (m++m'):=by
 induction l with
 | nil=>grind [pB]
 | cons a l ih=>grind [pB]
theorem pB.drop{μ:Mu}{l:List zA}{m:List Value}(h:pB μ l m)(n:Nat):pB μ (l.drop n) (m.drop n):=by
 refine pB.mk (by simp[h.length]) fun i a v h1 h2=>?_;rw[yde]at h1 h2;obtain⟨u,hu,hr⟩:=h.get h1
 simp_all
theorem pB.take{μ:Mu}{l:List zA}{m:List Value}(h:pB μ l m)(n:Nat):pB μ (l.take n) (m.take n):=by
 refine pB.mk (by simp[h.length]) fun i a v h1 h2=>?_;rw[ydf]at h1 h2;split at h1
 ·rename_i hi;rw[yab hi]at h2;obtain⟨u,hu,hr⟩:=h.get h1
  simp_all
 grind
theorem pB.nil{μ:Mu}:pB μ [] []:=by rw[pB]
theorem pB.cons{μ:Mu}{a:zA}{l:List zA}{v:Value}{m:List Value}(h:vA μ a v)(k:pB μ l m):pB μ (a::l) (v::m):=by grind [pB]
def pB.single{μ:Mu}{a:zA}{v:Value}(h:vA μ a v):pB μ [a] [v]:=.cons h .nil
theorem zY{v:zA}{b:Bool}:v.asBool=some b ↔ v=.bool b:=by cases v<;>simp[zA.asBool]
def We{v:zA}{n:Int}:v.asInt=some n ↔ ∃k,v=.int k n:=by cases v<;>simp[zA.asInt]
theorem qS{v:zA}{p:IntKind × Int}:v.asIntK=some p ↔ v=.int p.1 p.2:=by cases v<;>simp[zA.asIntK,Prod.ext_iff]
theorem rS{v:zA}{l:List Nat}:v.asStr=some l ↔ v=.str l:=by cases v<;>simp[zA.asStr]
def Au{v:zA}{p:Nat × Nat}:v.asPtr=some p ↔ v=.ptr p.1 p.2:=by cases v<;>simp[zA.asPtr,Prod.ext_iff]
def aX{v:zA}{p:Nat × Nat × Nat × Nat}:v.asSlice=some p ↔ v=.slice p.1 p.2.1 p.2.2.1 p.2.2.2:=by cases v<;>simp[zA.asSlice,Prod.ext_iff]
def Nx{v:zA}{b:Nat}:v.asMap=some b ↔ v=.map b:=by cases v<;>simp[zA.asMap]
theorem Dw{v:zA}{l:List zA}:v.asAgg=some l ↔ v=.agg l:=by cases v<;>simp[zA.asAgg]
def ZB{v:zA}{l:List zA}:v.asTup=some l ↔ v=.tup l:=by cases v<;>simp[zA.asTup]
theorem KD{v:zA}{p:dQ × List zA × List zA}:v.asFunc=some p ↔ v=.func p.1 p.2.1 p.2.2:=by cases v<;>simp[zA.asFunc,Prod.ext_iff]
def KC{v:zA}{p:Nat × zA}:v.asIface=some p ↔ v=.iface p.1 p.2:=by cases v<;>simp[zA.asIface,Prod.ext_iff]
theorem Nw{v:zA}{n:Nat}:v.asNat=some n ↔ ∃k,v=.int k (n:Int):=by
 simp_all [zA.asNat,uA,We,Gt]
theorem cS{v:zA}:(v.tag=3 ↔ v=.nilptr)/\(v.tag=5 ↔ v=.nilslice)/\(v.tag=7 ↔ v=.nilmap)/\(v.tag=10 ↔ v=.nilfunc)/\(v.tag=12 ↔ v=.niliface):=by
 cases v<;>simp[zA.tag]
theorem vA.notAgg{μ:Mu}{a:zA}{v:Value}(h:vA μ a v)(ha:a.asAgg=none):v.cells = #[v]:=by
 cases a<;>rw[vA]at h<;>first
  | (subst h;rfl)
  | (rcases h with⟨_,_,_,rfl,_⟩ | ⟨_,_,_,_,_,rfl,_⟩<;>rfl)
  | (obtain⟨_,rfl,_⟩:=h;rfl)
  | (obtain⟨_,_,rfl⟩:=h;rfl)
  | (obtain⟨_,_,_,rfl,_⟩:=h;rfl)
  | grind [zA.asAgg]
theorem vA.one{μ:Mu}{a:zA}{v:Value}(h:vA μ a v)(ha:a.one=true):v.oneCell'=true:=by
 cases a<;>rw[vA]at h<;>first
  | (subst h;rfl)
  | (rcases h with⟨_,_,_,rfl,_⟩ | ⟨_,_,_,_,_,rfl,_⟩<;>rfl)
  | (obtain⟨_,rfl,_⟩:=h;rfl)
  | (obtain⟨_,_,rfl⟩:=h;rfl)
  | (obtain⟨_,_,_,rfl,_⟩:=h;rfl)
  | (revert ha;decide)
  | (have:=vC.1 ha;grind [zA.tag])
def Ni{μ:Mu}{a:zA}{v:Value}(h:vA μ a v):pB μ a.cells v.cells.toList:=by
 unfold zA.cells
 cases ha:a.asAgg with
 | none=>rw[h.notAgg ha];exact pB.single h
 | some l=>rw[Dw.1 ha,vA]at h;obtain⟨cs,rfl,h⟩:=h;exact h
def wM(P:Program)(t:Nat):sD:=
 match P.underlying t with
 | some .bool=>.bool
 | some (.int k)=>.int k
 | some .string=>.string
 | some (.pointer e)=>.ptr e
 | some (.slice e)=>.slice e
 | some (.array n e)=>.arr n e
 | some (.map k e)=>.map k e
 | some (.struct fs)=>.struct (fs.toList.map fun f=>(f.offset,f.type,P.cellsOf f.type))
 | some (.func ..)=>.func
 | some (.interface _)=>.iface
 | _=>.other
def Mj:Value->Bool
 | .agg _=>true
 | _=>false
def NT(P:Program)(t:Nat):Bool:=(P.fieldsOf t).toList.all fun f=>(P.info? f.type).isSome
def Fi (P:Program)(t:Nat):Option pC:=
 match P.info? t with
 | some i=>match i.zero with
  | some z=>ob (aF jZ z.cells.toList) fun l=>xB (bEq (Mj z) (wM P t).isAgg&&(P.underlying t).isSome&&NT P t)
    (some ⟨wM P t, i.size, i.bytes, l, !P.stoodInHeld t && !P.eqGuardType P.depth t && (P.fieldsOf t).toList.all (fun f => f.name != "_")⟩)
  | none=>none
 | none=>none
def qE(P:Program)(C:oA):Prop:=∀t ty,C.tys.get t=some ty->Fi P t=some ty
theorem Np{a b:ByteArray}(h:fE a=fE b):a=b:=by
 have h1:a.data.toList=b.data.toList:=by
  grind [fE,List.map_inj_right,UInt8.toNat_inj]
 have h2:a.data=b.data:=yax.1 h1;cases a;simp_all
theorem DB{μ:Mu}{v:Value}{a:zA}(h:jZ v=some a):vA μ a v/\a.one=true:=by
 unfold jZ at h;split at h<;>cases h<;>refine⟨?_,rfl⟩<;>rw[vA]
 simp_all
theorem DA{μ:Mu}{m:List Value}:∀ {l:List zA},aF jZ m=some l->pB μ l m:=by
 induction m with
 | nil=>grind [gZ,pB.nil]
 | cons v m ih=>
  intro l h;rw[dL,uA]at h;obtain⟨a,ha,h⟩:=h;rw[uA]at h;obtain⟨r,hr,h⟩:=h;cases h;exact .cons (DB ha).1 (ih hr)
theorem TG{μ:Mu}{v:Value}{a:zA}(h:Ta v=some a):vA μ a v:=by
 unfold Ta at h;split at h
 ·rename_i cs hc;rw[uA]at h;obtain⟨l,hl,h⟩:=h;cases h;cases v<;>simp[zcq]at hc
  grind [vA,DA]
 grind [DB]
structure bJ (P:Program) (t:Nat) (ty:pC):Prop where
 info:∃i,P.info? t=some i/\i.size=ty.size/\i.bytes=ty.bytes/\∃z,i.zero=some z/\aF jZ z.cells.toList=some ty.zero/\Mj z=ty.desc.isAgg
 desc:wM P t=ty.desc
 und:∃d,P.underlying t=some d
 fields:∀f∈(P.fieldsOf t).toList,∃i,P.info? f.type=some i
 eqOk : ty.eqOk = true -> P.stoodInHeld t = false /\ P.eqGuardType P.depth t = false /\ ∀ f ∈ (P.fieldsOf t).toList, f.name ≠ "_"
theorem ND{P:Program}{t:Nat}{ty:pC}(h:Fi P t=some ty):bJ P t ty:=by
 unfold Fi at h;split at h
 ·rename_i i hi;split at h
  ·rename_i z hz;rw[uA]at h;obtain⟨l,hl,h⟩:=h;rw[oB]at h;obtain⟨hb,h⟩:=h;cases h;rw[ybb,ybb]at hb;refine⟨⟨i,hi,rfl,rfl,z,hz,hl,?_⟩,rfl,Option.isSome_iff_exists.1 hb.1.2,fun f hf=>Option.isSome_iff_exists.1 (ycb.1 hb.2 f hf),fun h=>?_⟩
   all_goals grind [yU]
  ·cases h
 ·cases h
def qE.facts{P:Program}{C:oA}(h:qE P C){t:Nat}{ty:pC}(k:C.tys.get t=some ty):bJ P t ty:=ND (h t ty k)
section
variable {P:Program}{w:World}{t:Nat}{ty:pC}
def qZ{i:TypeInfo}(h:P.info? t=some i):(typeInfo t).run P w=.ok i w:=by
 simp[typeInfo,h]
def xE{d:TypeDesc}(h:P.underlying t=some d):(underlying t).run P w=.ok d w:=by
 simp[underlying,h]
def bJ.size(h:bJ P t ty):(sizeOf t).run P w=.ok ty.size w:=by
 obtain⟨i,h1,h2,_⟩:=h.info;simp[sizeOf,qZ h1,h2]
theorem bJ.zero(h:bJ P t ty){μ:Mu}:∃z,(∀w,(zeroValue t).run P w=.ok z w)/\vA μ (lS ty) z/\pB μ ty.zero z.cells.toList:=by
 obtain⟨i,h1,_,_,z,h2,h3,h4⟩:=h.info;have hl:pB μ ty.zero z.cells.toList:=DA h3;refine⟨z,fun w=>by simp[zeroValue,qZ h1,h2],?_,hl⟩;unfold lS
 cases hd:ty.desc.isAgg with
 | true=>
  rw[hd]at h4;cases z<;>simp[Mj]at h4;show vA μ (.agg ty.zero) _;rw[vA];exact⟨_,rfl,hl⟩
 | false=>
  rw[hd]at h4;have hc:z.cells = #[z]:=by cases z<;>first | rfl | simp[Mj]at h4
  grind [pB]
def bJ.isAgg(h:bJ P t ty):(Go.isAgg t).run P w=.ok ty.desc.isAgg w:=by
 obtain⟨d,hd⟩:=h.und;have h0:=h.desc;unfold wM at h0;rw[hd]at h0;unfold Go.isAgg;rw[yad,xE hd,yac,<- h0];cases d<;>rfl
theorem Aj(h:bJ P t ty){fs:List (Nat × Nat × Nat)}(k:ty.desc.asStruct=some fs):∃g,P.underlying t=some (.struct g)/\fs=g.toList.map fun f=>(f.offset,f.type,P.cellsOf f.type):=by
 obtain⟨d,hd⟩:=h.und;have h0:=h.desc
 grind [wM,sD.asStruct]
def jP(h:bJ P t ty){e:Nat}(k:ty.desc.asSlice=some e):P.underlying t=some (.slice e):=by
 obtain⟨d,hd⟩:=h.und;have h0:=h.desc;unfold wM at h0;rw[hd]at h0;rw[<- h0]at k;cases d<;>simp[sD.asSlice]at k;rw[hd,k]
def Ng(h:bJ P t ty){p:Nat × Nat}(k:ty.desc.asArr=some p):P.underlying t=some (.array p.1 p.2):=by
 obtain⟨d,hd⟩:=h.und;have h0:=h.desc;unfold wM at h0;rw[hd]at h0;rw[<- h0]at k;cases d<;>simp[sD.asArr]at k;rw[hd,<- k]
def IS(h:bJ P t ty){p:Nat × Nat}(k:ty.desc.asMap=some p):P.underlying t=some (.map p.1 p.2):=by
 obtain⟨d,hd⟩:=h.und;have h0:=h.desc;unfold wM at h0;rw[hd]at h0;rw[<- h0]at k;cases d<;>simp[sD.asMap]at k;rw[hd,<- k]
def Vr(h:bJ P t ty){k:IntKind}(e:ty.desc.asInt=some k):P.underlying t=some (.int k):=by
 obtain⟨d,hd⟩:=h.und;have h0:=h.desc;unfold wM at h0;rw[hd]at h0;rw[<- h0]at e;cases d<;>simp[sD.asInt]at e;rw[hd,e]
theorem Nf(h:bJ P t ty)(e:ty.desc.isString=true):P.underlying t=some .string:=by
 obtain⟨d,hd⟩:=h.und;have h0:=h.desc
 grind [wM,sD.isString,sD.tag,Nat.beq]
theorem IR(h:bJ P t ty)(e:Nat.blt ty.desc.tag 9=true):∃d,P.underlying t=some d/\∀ms,d≠.interface ms:=by
 obtain⟨d,hd⟩:=h.und;refine⟨d,hd,fun ms hm=>?_⟩;subst hm;have h0:=h.desc
 grind [wM,vC,sD.tag]
end
structure nW (μ:Mu) (d:rI) (e:Deferred):Prop where
 rel:match d.fn with
  | none=>∃i,μ d.r=some i/\e={ target:=.collected i.b,args := #[] }
  | some f=>∃fn cap as,e={ target:=.fn fn cap,args:=as }/\Ei μ f fn/\pB μ d.args (as++cap).toList
def iD(μ:Mu)(n:Nat)(tm:Tm)(tmps:Array Value):Prop:=tmps.size=n/\∀i v,tm.get i=some v->vA μ v (tmps.getD i undef)
structure Io (μ:Mu) (l:rN) (r:Loop):Prop where
 state:r.state=l.state
 pending:r.pending=l.pending
 fn:r.fn=l.fn
 tm:iD μ l.n l.tm r.tmps
 params:r.params.toList=l.params
 assign:r.assign=l.assign
 body:r.body=l.body
 defers:∃i,μ l.defers=some i/\r.defers=i.b
inductive mC {α β:Type} (R:α->β->Prop):List α->List β->Prop
 | nil:mC R [] []
 | cons {a b l m}:R a b->mC R l m->mC R (a::l) (b::m)
def nH (μ:Mu)(i:BI):sA->Obj->Prop
 | .cells c n loose,o=>∃cs elem fr,o=.cells cs elem fr/\n<=cs.size/\(i.ro=true\/fr.2<=fr.1\/cs.size<=fr.1)/\(∀(j:Nat) v,c.get j=some v->j<n/\∃v',cs[j]?=some v'/\vA μ v v') ∧
   (match loose with | none=>i.tight=true | some lo=>i.tight=false/\i.es=lo.es/\i.room=cs.size/\∀t,lo=.ty t->elem=t)
 | .map l,o=>∃es clock l',o=.map es clock/\Eg l l'/\mC (fun p e=>vA μ p.1 e.key/\vA μ p.2 e.val) l' es.toList
 | .loop l,o=>∃r,o=.loop r/\Io μ l r
 | .deferred l,o=>∃l',o=.deferred l'/\(match l,l' with | none,none=>True | some a,some b=>mC (nW μ) a b | _,_=>False)
 | .siter s pos,o=>∃s',o=.stringIter s' pos/\fE s'=s
structure sB (B N:Nat) (μ:Mu) (H:xA) (w:World):Prop where
 base:256<=B
 glob:∀g,g<256->μ g=some ⟨g,true,0,0,true⟩
 low:∀a x i,a<B->H.t.get a=some x->μ a=some i->i.b<N/\x.asLoop=none/\x.asDeferred=none
 next:B<=H.next
 size:N<=w.heap.size
 fresh:∀a,H.next<=a->μ a=none/\H.t.get a=none
 blk:∀a x i,H.t.get a=some x->μ a=some i->∃o,w.heap[i.b]?=some o/\nH μ i x o
 own:∀a i,B<=a->μ a=some i->N<=i.b/\i.b<w.heap.size/\i.ro=false
 inj:∀a b x y i j,H.t.get a=some x->H.t.get b=some y->μ a=some i->μ b=some j->B<=a->B<=b->i.b=j.b->a=b
 pnd:∀a x t,μ.pd a=some (x,t)->μ a=none/\H.t.get a=some x/\B<=a
end Go.Am
namespace Go.Am
open Go
def lE (μ:Mu)(e:jC)(ρ:Operand->Value):Prop:=∀x v,ev x e=some v->vA μ v (ρ x)
def lE.many{μ:Mu}{e:jC}{ρ:Operand->Value}(h:lE μ e ρ):∀ {l:List Operand} {r:List zA},uO l e=some r->pB μ r (l.map ρ):=by
 intro l;induction l with
 | nil=>intro r k;unfold uO at k;rw[gZ]at k;cases k;exact .nil
 | cons x l ih=>
  intro r k;unfold uO at k;rw[dL,uA]at k;obtain⟨a,ha,k⟩:=k;rw[uA]at k;obtain⟨b,hb,k⟩:=k;cases k;exact .cons (h _ _ ha) (ih hb)
def lE.parts{μ:Mu}{e:jC}{ρ:Operand->Value}(h:lE μ e ρ):∀ {l:List (Nat × Operand)} {r:List (Nat × zA)},lP l e=some r →
  mC (fun p q=>p.1=q.1/\vA μ p.2 q.2) r (l.map fun x=>(x.1,ρ x.2)):=by
 intro l;induction l with
 | nil=>intro r k;unfold lP at k;rw[gZ]at k;cases k;exact .nil
 | cons x l ih=>
  intro r k;unfold lP at k;rw[dL,uA]at k;obtain⟨a,ha,k⟩:=k;rw[uA]at ha;obtain⟨a',ha,ha'⟩:=ha;cases ha';rw[uA]at k;obtain⟨b,hb,k⟩:=k;cases k;exact .cons ⟨rfl,h _ _ ha⟩ (ih hb)
def Wm(μ:Mu):Option zA->Option Value->Prop
 | none,none=>True
 | some a,some v=>vA μ a v
 | _,_=>False
def lE.opt{μ:Mu}{e:jC}{ρ:Operand->Value}(h:lE μ e ρ){x:Option Operand}{r:Option zA}(k:kP x e=some r):Wm μ r (x.map ρ):=by
 cases x with
 | none=>cases k;trivial
 | some x=>unfold kP at k;simp only[]at k;rw[uA]at k;obtain⟨a,ha,k⟩:=k;cases k;exact h _ _ ha
theorem wU(b off n:Nat):Addr.add ⟨b,off,none⟩ n=⟨b,off+n,none⟩:=by
 grind [Addr.add]
section
variable {P:Program}{C:oA}{B N:Nat}{μ:Mu}{H:xA}{w:World}
theorem bX{b:Nat}{p:Tr zA × Nat × Option Lo}(h:aC H b=some p):H.t.get b=some (.cells p.1 p.2.1 p.2.2):=by
 unfold aC at h;rw[uA]at h;obtain⟨x,hx,h⟩:=h;cases x<;>simp[sA.asCells]at h
 grind
theorem sB.cellAt(hH:sB B N μ H w){b:Nat}{p:Tr zA × Nat × Option Lo}(h:aC H b=some p){i:BI}(hi:μ b=some i){j:Nat}{v:zA}(hv:p.1.get j=some v) :
  ∃v',w.cell? ⟨i.b,j,none⟩=some v'/\vA μ v v':=by
 obtain⟨o,h2,h3⟩:=hH.blk _ _ _ (bX h) hi;obtain⟨cs,elem,fr,rfl,_,_,h4,_⟩:=h3
 grind [World.cell?]
theorem sB.manyAt(hH:sB B N μ H w){b:Nat}{p:Tr zA × Nat × Option Lo}(h:aC H b=some p){i:BI}(hi:μ b=some i){n off:Nat}{l:List zA}(hl:p.1.many n off=some l) :
  ∃vs:List Value,vs.length=n/\pB μ l vs/\(loadCells ⟨i.b,off,none⟩ n).run P w=.ok vs.toArray w/\∀j,j<n->w.cell? ⟨i.b,off+j,none⟩=vs[j]?:=by
 obtain⟨h1,h2⟩:=Tr.many_some _ _ _ _ hl;have key:∀j,j<n->∃v',w.cell? ⟨i.b,off+j,none⟩=some v'/\∃a,l[j]?=some a/\vA μ a v':=by
  intro j hj;have h3:=h2 j hj
  cases hlj:l[j]? with
  | none=>grind
  | some a=>
   rw[hlj]at h3;obtain⟨v',h4,h5⟩:=hH.cellAt h hi h3
   simp_all
 let f:Nat->Value:=fun j=>(w.cell? ⟨i.b,off+j,none⟩).getD undef
 have hf:∀j,j<n->w.cell? ⟨i.b,off+j,none⟩=some (f j):=by
  grind
 refine⟨(List.range n).map f,by simp,?_,?_,?_⟩
 all_goals grind [pB.mk,run_loadCells,wU]
theorem DX(hH:sB B N μ H w){t:Nat}{ty:pC}(hty:bJ P t ty){b:Nat}{p:Tr zA × Nat × Option Lo}(h:aC H b=some p){i:BI}(hi:μ b=some i){off:Nat}{v:zA}
  (hv:vP ty p.1 off=some v):∃v',(loadVar t ⟨i.b,off,none⟩).run P w=.ok v' w/\vA μ v v':=by
 unfold vP at hv;unfold loadVar;rw[yad,hty.isAgg,yac]
 cases ha:ty.desc.isAgg with
 | true=>
  rw[ha,cond_true,uA]at hv;obtain⟨l,hl,hv⟩:=hv;cases hv;obtain⟨vs,_,h2,h3,_⟩:=hH.manyAt (P:=P) h hi hl;refine⟨.agg vs.toArray,?_,by grind [vA]⟩;rw[yab rfl,yad,hty.size,yac,yad,h3];rfl
 | false=>
  rw[ha,cond_false]at hv;obtain⟨v',h1,h2⟩:=hH.cellAt h hi hv;refine⟨v',?_,h2⟩;rw[yaa (by simp),run_load,h1]
theorem Gl(hT:qE P C){t:Nat}{l:List zA}{cs:Array Value}(hl:pB μ l cs.toList){off:Nat}{v:zA}(hv:mM C t l off=some v) :
  ∃v',(part t cs off).run P w=.ok v' w/\vA μ v v':=by
 unfold mM at hv;rw[uA]at hv;obtain⟨ty,hty,hv⟩:=hv;have hF:=hT.facts hty;unfold part;rw[yad,hF.isAgg,yac]
 cases ha:ty.desc.isAgg with
 | true=>
  rw[ha,cond_true]at hv;cases hv;refine⟨.agg (cs.extract off (off+ty.size)),?_,?_⟩
  ·rw[yab rfl,yad,hF.size];rfl
  ·rw[vA];refine⟨_,rfl,?_⟩;rw[sQ,nR,Array.toList_extract,List.extract_eq_take_drop,Nat.add_sub_cancel_left];exact(hl.drop _).take _
 | false=>
  rw[ha,cond_false,eF]at hv;obtain⟨v',h1,h2⟩:=hl.get hv
  simp_all
def bG (P:Program)(μ:Mu)(w:World)(ρ:Operand->Value)(o:Oper)(v:zA):Prop:=∃v',(execOp ρ o).run P w=.ok (.value v') w/\vA μ v v'
variable {e:jC}{ρ:Operand->Value}{dst:Option Tmp}{type:TypeId}{pos:String}{after:Array Edge}{guard:Option (Nat × Bool)}{v:zA}
def ES(hE:lE μ e ρ){x:Operand}(h:rT x C e H=some v):bG P μ w ρ ⟨dst,.move x,type,pos,after,guard⟩ v:=⟨ρ x,rfl,hE x v h⟩
def FO(hE:lE μ e ρ){x:Operand}(h:rT x C e H=some v):bG P μ w ρ ⟨dst,.assign x,type,pos,after,guard⟩ v:=⟨ρ x,rfl,hE x v h⟩
def EQ(hE:lE μ e ρ){c a b:Operand}(h:Hf c a b C e H=some v):bG P μ w ρ ⟨dst,.pick c a b,type,pos,after,guard⟩ v:=by
 unfold Hf at h;rw[uA]at h;obtain⟨cv,hc,h⟩:=h;rw[uA]at h;obtain⟨cb,hb,h⟩:=h;have h1:=hE _ _ hc;rw[zY.1 hb,vA]at h1;unfold bG execOp;simp only[h1,asBool]
 cases cb with
 | true=>exact⟨ρ a,rfl,hE _ _ h⟩
 | false=>exact⟨ρ b,rfl,hE _ _ h⟩
theorem EX(hT:qE P C)(hH:sB B N μ H w)(hE:lE μ e ρ){t:Nat}{a:Operand}(h:jR t a C e H=some v):bG P μ w ρ ⟨dst,.load t a,type,pos,after,guard⟩ v:=by
 unfold jR at h;simp only[uA,Au]at h;obtain⟨av,ha,p,rfl,ty,hty,c,hc,h⟩:=h;have h1:=hE _ _ ha;rw[vA]at h1;obtain⟨i,hi,hv⟩:=h1;obtain⟨v',h2,h3⟩:=DX (P:=P) hH (hT.facts hty) hc hi h;refine⟨v',?_,h3⟩
 grind [execOp,Instr.loadAt,Instr.sureAddr,Sem.run_bind,Sem.run_pure,Result.andThen_ok]
theorem ER(hE:lE μ e ρ){x:Operand}(h:mV x C e H=some v):bG P μ w ρ ⟨dst,.nilCheck x,type,pos,after,guard⟩ v:=by
 unfold mV at h;rw[uA]at h;obtain⟨a,ha,h⟩:=h;rw[oB]at h;obtain⟨hb,h⟩:=h;cases h;have h1:=hE _ _ ha;refine⟨ρ x,?_,h1⟩;cases v<;>simp[zA.tag,Nat.beq]at hb
 ·rw[vA]at h1;obtain⟨i,_,hv⟩:=h1
  simp_all [execOp]
 ·rename_i fn a b;rw[vA]at h1;obtain⟨fn',a',c',hv,hf,_⟩:=h1
  cases fn with
  | func f=>cases hf;simp_all [execOp]
  | yld l=>obtain⟨i,_,rfl⟩:=hf;simp_all [execOp]
def FD(hE:lE μ e ρ){fn:Fn}{a b:Array Operand}(h:(rX fn a b).f C e H=some v):bG P μ w ρ ⟨dst,.makeFunc fn a b,type,pos,after,guard⟩ v:=by
 unfold rX at h;split at h
 ·rename_i f;simp only[Md,uA]at h;obtain⟨as,ha,bs,hb,h⟩:=h;cases h;refine⟨.func (.func f) (a.map ρ) (b.map ρ),rfl,?_⟩;rw[vA];exact⟨_,_,_,rfl,rfl,by simpa using hE.many ha,by simpa using hE.many hb⟩
 ·cases h
def FC(hT:qE P C)(hE:lE μ e ρ){t:Nat}{x:Operand}(h:sX t x C e H=some v):bG P μ w ρ ⟨dst,.makeInterface t x,type,pos,after,guard⟩ v:=by
 unfold sX at h;simp only[uA,oB]at h;obtain⟨ty,hty,hb,a,ha,h⟩:=h;cases h;obtain⟨d,hd,hn⟩:=IR (hT.facts hty) hb;refine⟨.iface t (ρ x),?_,by rw[vA];exact⟨_,rfl,hE _ _ ha⟩⟩;simp only[execOp,Instr.makeInterface,yad,xE hd,yac];cases d<;>first | rfl | exact absurd rfl (hn _)
theorem FH(hE:lE μ e ρ){t:Operand}{i:Nat}(h:dR t i C e H=some v):bG P μ w ρ ⟨dst,.extract t i,type,pos,after,guard⟩ v:=by
 unfold dR at h;simp only[uA,ZB,eF]at h;obtain⟨a,ha,l,rfl,h⟩:=h;have h1:=hE _ _ ha;rw[vA]at h1;obtain⟨cs,hv,hl⟩:=h1;obtain⟨v',h2,h3⟩:=hl.get h;refine⟨v',?_,h3⟩
 simp_all [execOp,Instr.extract]
theorem FE(hT:qE P C)(hE:lE μ e ρ){t:Nat}{x:Operand}{f:Nat}(h:qX t x f C e H=some v):bG P μ w ρ ⟨dst,.field t x f,type,pos,after,guard⟩ v:=by
 unfold qX at h;simp only[uA,Dw,eF]at h;obtain⟨ty,hty,fs,hfs,fd,hfd,a,ha,l,rfl,h⟩:=h;obtain⟨g,hg,rfl⟩:=Aj (hT.facts hty) hfs;have h1:=hE _ _ ha;rw[vA]at h1;obtain⟨cs,hv,hl⟩:=h1;rw[ybu]at hfd
 cases hgf:g.toList[f]? with
 | none=>simp_all
 | some fld=>
  rw[hgf]at hfd;simp at hfd;subst hfd;obtain⟨v',h2,h3⟩:=Gl (w:=w) hT hl h;refine⟨v',?_,h3⟩
  simp_all [execOp,Instr.field,xE,asAgg]
theorem FG(hT:qE P C)(hE:lE μ e ρ){s:Nat}{x:Operand}{f:Nat}(h:eR s x f C e H=some v):bG P μ w ρ ⟨dst,.fieldAddr s x f,type,pos,after,guard⟩ v:=by
 unfold eR at h;simp only[uA,Au,eF,oB]at h;obtain⟨ty,hty,fs,hfs,fd,hfd,hz,a,ha,p,rfl,h⟩:=h;cases h;obtain⟨g,hg,rfl⟩:=Aj (hT.facts hty) hfs;have h1:=hE _ _ ha;rw[vA]at h1;obtain⟨i,hi,hv⟩:=h1;rw[ybu]at hfd
 cases hgf:g.toList[f]? with
 | none=>simp_all
 | some fld=>
  rw[hgf]at hfd;simp at hfd;subst hfd;refine⟨.pointer (some ⟨i.b,p.2+fld.offset,none⟩),?_,by grind [vA]⟩;have h4:g[f]?=some fld:=by simp_all
  have h5:P.cellsOf fld.type≠0:=by
   grind [beqf]
  have h6:(sizeOf fld.type).run P w=.ok (P.cellsOf fld.type) w:=by
   unfold Program.cellsOf at h5 ⊢
   cases hinf:P.info? fld.type with
   | none=>simp_all
   | some inf=>simp[sizeOf,qZ hinf]
  simp_all [execOp,Instr.fieldAt,xE,Instr.sureAddr,fieldPlace,wU]
end
end Go.Am
namespace Go.Am
open Go
section
variable {P:Program}{C:oA}{B N:Nat}{μ:Mu}{H:xA}{w:World}
variable {e:jC}{ρ:Operand->Value}{dst:Option Tmp}{type:TypeId}{pos:String}{after:Array Edge}{guard:Option (Nat × Bool)}{v:zA}
theorem eY{k:IntKind}{n:Nat}(h:n<zG k):k.wrap (n:Int)=n:=by
 rw[<- kL];show(bif Nat.blt n (zG k)then Int.ofNat n else _)=_
 grind [vC]
def Ud(k:IntKind):∃m,zG k=2^m/\m<=k.bits:=by
 cases k
 ·exact⟨7,rfl,by decide⟩
 ·exact⟨15,rfl,by decide⟩
 ·exact⟨31,rfl,by decide⟩
 ·exact⟨63,rfl,by decide⟩
 ·exact⟨8,rfl,by decide⟩
 ·exact⟨16,rfl,by decide⟩
 ·exact⟨32,rfl,by decide⟩
 ·exact⟨64,rfl,by decide⟩
def wW{k:IntKind}{n:Nat}(h:n<zG k):(BitVec.ofInt k.bits (n:Int)).toNat=n:=by
 obtain⟨m,hm,hle⟩:=Ud k;rw[BitVec.toNat_ofInt];have:n<2^k.bits:=Nat.lt_of_lt_of_le (hm ▸ h) (yao (by omega) hle);rw[<- Int.natCast_emod,Int.toNat_natCast,Nat.mod_eq_of_lt this]
theorem Mo{f:Nat->Nat->Nat}{k:IntKind}{a b:Int}{v:zA}(h:iH f k a b=some v):∃x y:Nat,a=x/\b=y/\x<zG k/\y<zG k/\v=.int k (f x y:Nat):=by
 grind [iH,uA,Gt,oB,vC]
theorem YX{op:BinOp}{k:IntKind}{a b:Int}(h:(Wb op).f k a b=some v):op≠.shl/\op≠.shr/\∀t,∃v',(binOp op t (.int k a) (.int k b)).run P w=.ok v' w/\vA μ v v':=by
 cases op<;>simp only[Wb]at h
 case add=>cases h;simp_all [binOp,Op.intArith,vA,kL]
 case sub=>cases h;simp_all [binOp,Op.intArith,vA,kL]
 case mul=>cases h;simp_all [binOp,Op.intArith,vA,kL]
 case quo=>
  unfold mT at h;simp only[eC,vS]at h;split at h
  ·cases h
  ·rename_i hb;cases h
   simp_all [vA,kL,binOp,Op.intDiv]
 case rem=>
  unfold nT at h;simp only[eC,vS]at h;split at h
  ·cases h
  ·rename_i hb;cases h
   simp_all [vA,binOp,Op.intDiv]
 case and=>
  unfold iAnd at h;split at h
  ·obtain⟨x,y,rfl,rfl,hx,hy,rfl⟩:=Mo h;refine⟨by simp,by simp,fun t=>⟨.int k ((x &&& y:Nat):Int),?_,by rw[vA];rfl⟩⟩;have h1:x &&& y<zG k:=yam Nat.and_le_left hx;simp only[binOp,Op.intBits,BitVec.toNat_and,wW hx,wW hy,eY h1];simp
  ·simp only[uA,Gt,oB,vC]at h;obtain⟨y,rfl,hy,h⟩:=h;cases h;have e:(BitVec.ofInt k.bits a).toNat=Int.toNat (Int.emod a (.ofNat (kW k))):=by
    rw[BitVec.toNat_ofInt];cases k<;>rfl
   generalize Int.toNat (Int.emod a (.ofNat (kW k)))=x at e ⊢;refine⟨by simp,by simp,fun t=>⟨.int k ((x &&& y:Nat):Int),?_,by rw[vA];rfl⟩⟩;have h1:x &&& y<zG k:=yam Nat.and_le_right hy;simp only[binOp,Op.intBits,BitVec.toNat_and,e,wW hy,eY h1];simp
 case or=>
  obtain⟨x,y,rfl,rfl,hx,hy,rfl⟩:=Mo h;obtain⟨m,hm,_⟩:=Ud k;refine⟨by simp,by simp,fun t=>⟨.int k ((x ||| y:Nat):Int),?_,by rw[vA];rfl⟩⟩;have h1:x ||| y<zG k:=by simp_all [Nat.or_lt_two_pow]
  simp only[binOp,Op.intBits,BitVec.toNat_or,wW hx,wW hy,eY h1];simp
 case xor=>
  obtain⟨x,y,rfl,rfl,hx,hy,rfl⟩:=Mo h;obtain⟨m,hm,_⟩:=Ud k;refine⟨by simp,by simp,fun t=>⟨.int k ((x ^^^ y:Nat):Int),?_,by rw[vA];rfl⟩⟩;have h1:x ^^^ y<zG k:=by simp_all [Nat.xor_lt_two_pow]
  simp only[binOp,Op.intBits,BitVec.toNat_xor,wW hx,wW hy,eY h1];simp
 case eql=>cases h;simp_all [binOp,Op.intCmp,vA,jV]
 case neq=>cases h;exact⟨by simp,by simp,fun t=>⟨.bool (a != b),by simp[binOp,Op.intCmp],by rw[vA,jV];rfl⟩⟩
 case lss=>cases h;simp_all [binOp,Op.intCmp,vA,zck]
 case leq=>cases h;simp_all [binOp,Op.intCmp,vA,zcl]
 case gtr=>cases h;simp_all [binOp,Op.intCmp,vA,zck]
 case geq=>cases h;simp_all [binOp,Op.intCmp,vA,zcl]
 all_goals cases h
theorem Dp(s:ByteArray):(fE s).length=s.size:=by simp[fE]
theorem YQ(a b:ByteArray):fE (a++b)=fE a++fE b:=by simp[fE]
theorem YP(s:ByteArray)(i:Nat):(fE s)[i]?=(s[i]?).map UInt8.toNat:=by
 unfold fE;rw[ybu];congr 1;by_cases h:i<s.size
 all_goals simp_all [ByteArray.getElem_eq_getElem_data]
theorem JT(s:ByteArray)(l h:Nat):fE (s.extract l h)=((fE s).take h).drop l:=by
 unfold fE;rw[ByteArray.data_extract,Array.toList_extract,List.extract_eq_take_drop,<- List.map_take,<- List.map_drop,List.drop_take]
theorem JU{a b:ByteArray}:(a.toList == b.toList)=(cC (fE a) (fE b)):=by
 grind [Lib.toList_data,fH,fE,Np]
theorem UL(a:List UInt8):∀b:List UInt8,Op.bytesLess a b=Tp (a.map UInt8.toNat) (b.map UInt8.toNat):=by
 induction a with
 | nil=>intro b;cases b<;>rfl
 | cons x a ih=>
  intro b
  cases b with
  | nil=>rfl
  | cons y b=>
   show _=(bif Nat.blt x.toNat y.toNat then true else bif Nat.beq x.toNat y.toNat then Tp (a.map UInt8.toNat) (b.map UInt8.toNat)else false)
   grind [Op.bytesLess,vC,UInt8.lt_iff_toNat_lt,UInt8.toNat_inj,oC]
theorem YW{op:BinOp}{a b:ByteArray}(h:(Vz op).f (fE a) (fE b)=some v):op≠.shl/\op≠.shr/\∀t,∃v',(binOp op t (.string a) (.string b)).run P w=.ok v' w/\vA μ v v':=by
 cases op<;>simp only[Vz]at h
 case add=>
  simp only[iE,oB,vC,vD,wG,Dp]at h;obtain⟨h1,h⟩:=h;cases h;refine⟨by simp,by simp,fun t=>⟨.string (a++b),?_,by grind [vA,YQ]⟩⟩;have h2:¬ (((a.size+b.size:Nat):Int) > IntKind.i64.max):=by
   have:IntKind.i64.max=9223372036854775807:=by decide
   omega
  simp_all [binOp,Op.stringOp]
 case eql=>cases h;exact⟨by simp,by simp,fun t=>⟨.bool (a.toList == b.toList),rfl,by rw[vA,JU]⟩⟩
 case neq=>cases h;exact⟨by simp,by simp,fun t=>⟨.bool !(a.toList == b.toList),rfl,by rw[vA,JU]⟩⟩
 case lss=>cases h;exact⟨by simp,by simp,fun t=>⟨.bool (Op.bytesLess a.toList b.toList),rfl,by rw[vA,Lib.toList_data,Lib.toList_data,UL];rfl⟩⟩
 all_goals cases h
theorem Hv{op:BinOp}{t:TypeId}{x y:Operand}{a b:Value}(h1:¬ (a=.nilIface/\b=.nilIface)\/(Hj x||Hj y)=true)(h2:∀l m,¬ (a=.agg l/\b=.agg m)):(eqGuard op t x y a b).run P w=.ok () w:=by
 unfold eqGuard;cases op
 case eql | neq=>
  rw[yaa (by simp)];split
  ·rcases h1 with h1 | h1
   ·simp_all
   ·cases x<;>cases y<;>simp[Hj]at h1 ⊢
  all_goals simp_all
 all_goals rfl
theorem WV{op:BinOp}{t:TypeId}{x y:Operand}{l m:Array Value}(h:P.eqGuardType P.depth t=false):(eqGuard op t x y (.agg l) (.agg m)).run P w=.ok () w:=by
 simp_all [eqGuard]
theorem Bz{op:BinOp}{t yt:TypeId}{x y:Operand}{v':Value}(h1:(eqGuard op t x y (ρ x) (ρ y)).run P w=.ok () w)(h2:(binOp op t (ρ x) (ρ y)).run P w=.ok v' w) :
  (execOp ρ ⟨dst,.binOp op t x y yt,type,pos,after,guard⟩).run P w=.ok (.value v') w:=by
 simp_all [execOp]
theorem AF{k:IntKind}{b:Int}{n:Nat}(h:tZ k b=some n):¬ b<0/\n=min b.toNat k.bits:=by
 grind [tZ,uA,Gt]
theorem JX{op:BinOp}{t yt:TypeId}{x y:Operand}{a b:zA}(hx:vA μ a (ρ x))(hy:vA μ b (ρ y))
  (h:(op=.shl/\Ia wS a b=some v)\/(op=.shr/\Ia Ab a b=some v)):bG P μ w ρ ⟨dst,.binOp op t x y yt,type,pos,after,guard⟩ v:=by
 rcases h with⟨rfl,h⟩ | ⟨rfl,h⟩
 all_goals
  unfold Ia at h;simp only[uA,qS,We]at h;obtain⟨p,rfl,n,⟨k',rfl⟩,h⟩:=h;rw[vA]at hx hy
 ·unfold wS at h;rw[uA]at h;obtain⟨m,hm,h⟩:=h;cases h;obtain⟨h1,rfl⟩:=AF hm;refine⟨.int p.1 (p.1.wrap (p.2*2^(min n.toNat p.1.bits))),Bz (Hv (.inl (by grind)) (by grind)) ?_,by rw[vA,kL];simp⟩;rw[hx,hy];simp[binOp,Op.shift,h1]
 ·unfold Ab at h;rw[uA]at h;obtain⟨m,hm,h⟩:=h;cases h;obtain⟨h1,rfl⟩:=AF hm;refine⟨.int p.1 (p.2.fdiv (2^(min n.toNat p.1.bits))),Bz (Hv (.inl (by grind)) (by grind)) ?_,by rw[vA];simp⟩;rw[hx,hy];simp[binOp,Op.shift,h1]
theorem Hu{n m:Nat}{a b:zA}{r:Bool}(h:eX n m a b=some r):(a.tag=n/\b.tag=n/\r=true)\/(a.tag=n/\b.tag=m/\r=false)\/(a.tag=m/\b.tag=n/\r=false):=by
 grind [eX,oC,oB]
theorem WX{t:Nat}{ty:pC}(hF:bJ P t ty){a b:zA}{va vb:Value}(ha:vA μ a va)(hb:vA μ b vb){r:Bool}{d:Nat}(h:Hw ty.desc a b=some r) :
  (Op.equalIn (d+1) t va vb).run P w=.ok r w:=by
 obtain⟨D,hD⟩:=hF.und;have h0:=hF.desc;unfold wM at h0;rw[hD]at h0;unfold Op.equalIn;rw[yad,xE hD,yac];rw[<- h0]at h;cases D<;>simp only[Hw]at h<;>try (cases h;done)
 case bool=>
  simp only[Dc,uA,zY]at h;obtain⟨x,rfl,y,rfl,h⟩:=h
  simp_all [vA,yU]
 case int k=>
  simp only[zek,uA,qS,oB,fJ]at h;obtain⟨x,rfl,y,rfl,hk,h⟩:=h
  simp_all [vA,jV]
 case string=>
  simp only[Vj,uA,rS]at h;obtain⟨x,rfl,y,rfl,h⟩:=h;cases h;rw[vA]at ha hb;obtain⟨s,rfl,rfl⟩:=ha;obtain⟨u,rfl,rfl⟩:=hb;have:(s == u)=cC (fE s) (fE u):=by
   rw[Bool.eq_iff_iff,fH];have h1:(s == u)=(s.data == u.data):=rfl
   grind [fE,Np]
  simp_all
 case pointer el=>
  rcases Hu h with⟨h1,h2,rfl⟩ | ⟨h1,h2,rfl⟩ | ⟨h1,h2,rfl⟩<;>cases a<;>simp[zA.tag]at h1<;>cases b<;>simp[zA.tag]at h2<;>rw[vA]at ha<;>rw[vA]at hb
  ·simp_all
  ·obtain⟨i,_,hb⟩:=hb;simp_all
  ·obtain⟨i,_,ha⟩:=ha;simp_all
 case slice el=>
  rcases Hu h with⟨h1,h2,rfl⟩ | ⟨h1,h2,rfl⟩ | ⟨h1,h2,rfl⟩<;>cases a<;>simp[zA.tag]at h1<;>cases b<;>simp[zA.tag]at h2<;>rw[vA]at ha<;>rw[vA]at hb
  ·simp_all
  ·rcases hb with⟨i,_,_,hb,_⟩ | ⟨_,_,_,_,_,hb,_⟩ <;> (simp_all)
  ·rcases ha with⟨i,_,_,ha,_⟩ | ⟨_,_,_,_,_,ha,_⟩ <;> (simp_all)
 case map k el=>
  rcases Hu h with⟨h1,h2,rfl⟩ | ⟨h1,h2,rfl⟩ | ⟨h1,h2,rfl⟩<;>cases a<;>simp[zA.tag]at h1<;>cases b<;>simp[zA.tag]at h2<;>rw[vA]at ha<;>rw[vA]at hb
  ·simp_all
  ·obtain⟨i,_,hb⟩:=hb;simp_all
  ·obtain⟨i,_,ha⟩:=ha;simp_all
 case func ps rs vd=>
  rcases Hu h with⟨h1,h2,rfl⟩ | ⟨h1,h2,rfl⟩ | ⟨h1,h2,rfl⟩<;>cases a<;>simp[zA.tag]at h1<;>cases b<;>simp[zA.tag]at h2<;>rw[vA]at ha<;>rw[vA]at hb
  ·simp_all
  ·obtain⟨i,_,_,hb,_⟩:=hb;simp_all
  ·obtain⟨i,_,_,ha,_⟩:=ha;simp_all
 case interface ms=>
  rcases Hu h with⟨h1,h2,rfl⟩ | ⟨h1,h2,rfl⟩ | ⟨h1,h2,rfl⟩<;>cases a<;>simp[zA.tag]at h1<;>cases b<;>simp[zA.tag]at h2<;>rw[vA]at ha<;>rw[vA]at hb
  ·simp_all
  ·obtain⟨i,hb,_⟩:=hb;simp_all
  ·obtain⟨i,ha,_⟩:=ha;simp_all
theorem IA{t:Nat}{g:Array Field}(h:P.underlying t=some (.struct g)):P.fieldsOf t=g:=by unfold Program.fieldsOf;rw[h]
theorem zbi(hT:qE P C){D:Nat}{eq:Nat->zA->zA->Option Bool}(heq:∀t a b va vb r,vA μ a va->vA μ b vb->eq t a b=some r->(Op.equalIn D t va vb).run P w=.ok r w)
  {xs ys : List zA} {vx vy : Array Value} (hx : pB μ xs vx.toList) (hy : pB μ ys vy.toList) : ∀ (g : List Field) (r : Bool), (∀ f ∈ g, f.name ≠ "_") -> Dy C eq xs ys (g.map fun f => (f.offset, f.type, P.cellsOf f.type)) = some r →
   (Op.eqFields D vx vy g).run P w=.ok r w:=by
 intro g;induction g with
 | nil=>intro r _ h;cases h;rfl
 | cons f g ih=>
  intro r hn h;rw[ycm,Dy]at h;simp only[uA]at h;obtain⟨a,ha,b,hb,q,hq,h⟩:=h;obtain⟨va,h1,h2⟩:=Gl (P:=P) (w:=w) hT hx ha;obtain⟨vb,h3,h4⟩:=Gl (P:=P) (w:=w) hT hy hb;have h5:=heq _ _ _ _ _ _ h2 h4 hq;rw[Op.eqFields,yab (hn f (by simp))];simp only[yad,h1,yac,h3,h5]
  cases q with
  | true=>grind
  | false=>simp_all
theorem zcs(hT:qE P C):∀(d D t:Nat) (a b:zA) (va vb:Value) (r:Bool),d<=D->vA μ a va->vA μ b vb->aeq C d t a b=some r->(Op.equalIn D t va vb).run P w=.ok r w:=by
 intro d;induction d with
 | zero=>intro D t a b va vb r _ _ _ h;cases h
 | succ d ih=>
  intro D t a b va vb r hD ha hb h
  cases D with
  | zero=>omega
  | succ D=>
   rw[aeq,uA]at h;obtain⟨ty,hty,h⟩:=h;have hF:=hT.facts hty;split at h
   ·rename_i fs hfs;simp only[oB,uA,Dw]at h;obtain⟨hok,xs,rfl,ys,rfl,h⟩:=h;obtain⟨g,hg,rfl⟩:=Aj hF hfs;obtain⟨h1,_,h3⟩:=hF.eqOk hok
    grind [vA,IA,run_equalIn_struct,zbi]
   grind [WX]
theorem ze2(hT:qE P C){d t:Nat}{a b:zA}{l m:Array Value}{r:Bool}(ha:vA μ a (.agg l))(hb:vA μ b (.agg m))(h:aeq C d t a b=some r):P.eqGuardType P.depth t=false:=by
 cases d with
 | zero=>cases h
 | succ d=>
  rw[aeq,uA]at h;obtain⟨ty,hty,h⟩:=h;split at h
  ·rw[oB]at h;exact((hT.facts hty).eqOk h.1).2.1
  ·exfalso;have hag:∀(a:zA) (l:Array Value),vA μ a (.agg l)->a.tag=13:=by
    intro a l ha;cases a<;>rw[vA]at ha<;>first | rfl | (exfalso;revert ha;simp)
   have h1:=hag _ _ ha;have h2:=hag _ _ hb;cases a<;>simp[zA.tag]at h1;cases b<;>simp[zA.tag]at h2;revert h;cases ty.desc<;>simp[Hw,Dc,zA.asBool,zek,zA.asIntK,Vj,zA.asStr,eX,Nb,zA.tag,xB,Nat.beq]
def Yd{a:zA}{v:Value}(h:vA μ a v):v=.nilIface->a.tag=12:=by
 intro hv;subst hv;cases a<;>rw[vA]at h<;>first | rfl | (exfalso;revert h;simp)
theorem JZ(hT:qE P C){op:BinOp}{t yt:TypeId}{x y:Operand}{a b:zA}{neg:Bool}(hx:vA μ a (ρ x))(hy:vA μ b (ρ y))(ha:a.asIntK=none)(hs:a.asStr=none)
  (hop:(neg=false/\op=.eql)\/(neg=true/\op=.neq)) (h:Nt neg C t x y a b=some v):bG P μ w ρ ⟨dst,.binOp op t x y yt,type,pos,after,guard⟩ v:=by
 unfold Nt at h;simp only[oB,uA]at h;obtain⟨hg,r,hr,h⟩:=h;cases h;have h1:(Op.equal t (ρ x) (ρ y)).run P w=.ok r w:=zcs hT 20 10000 t a b _ _ r (by decide) hx hy hr;have hG:(eqGuard op t x y (ρ x) (ρ y)).run P w=.ok () w:=by
  by_cases hag:∃l m,ρ x=.agg l/\ρ y=.agg m
  ·grind [WV,ze2]
  ·refine Hv ?_ fun l m hlm=>hag ⟨l,m,hlm⟩;by_cases hn:ρ x=.nilIface/\ρ y=.nilIface
   ·right
    have h2:=Yd hx hn.1;have h3:=Yd hy hn.2
    simp_all [II]
   simp_all
 have hnx:∀k n,ρ x≠.int k n:=by
  intro k n hv;rw[hv]at hx;cases a<;>rw[vA]at hx<;>first | (simp[zA.asIntK]at ha;done) | (revert hx;simp)
 have hsx:∀s,ρ x≠.string s:=by
  intro s hv;rw[hv]at hx;cases a<;>rw[vA]at hx<;>first | (simp[zA.asStr]at hs;done) | (revert hx;simp)
 have hfx:∀k n,ρ x≠.float k n:=by
  intro k n hv;rw[hv]at hx;cases a<;>rw[vA]at hx<;>revert hx<;>simp
 have hcx:∀k n m,ρ x≠.complex k n m:=by
  intro k n m hv;rw[hv]at hx;cases a<;>rw[vA]at hx<;>revert hx<;>simp
 rcases hop with⟨rfl,rfl⟩ | ⟨rfl,rfl⟩
 ·refine⟨.bool r,Bz hG ?_,by rw[vA];rfl⟩;revert h1 hnx hsx hfx hcx;generalize ρ x=vx;generalize ρ y=vy;intro h1 hnx hsx hfx hcx;cases vx<;>first
   | exact absurd rfl (hnx _ _)
   | exact absurd rfl (hsx _)
   | exact absurd rfl (hfx _ _)
   | exact absurd rfl (hcx _ _ _)
   | simp[binOp,h1]
 ·refine⟨.bool (!r),Bz hG ?_,by rw[vA];rfl⟩;revert h1 hnx hsx hfx hcx;generalize ρ x=vx;generalize ρ y=vy;intro h1 hnx hsx hfx hcx;cases vx<;>first
   | exact absurd rfl (hnx _ _)
   | exact absurd rfl (hsx _)
   | exact absurd rfl (hfx _ _)
   | exact absurd rfl (hcx _ _ _)
   | simp[binOp,h1]
theorem FN(hT:qE P C)(hE:lE μ e ρ){op:BinOp}{t yt:Nat}{x y:Operand}(h:bR op t x y C e H=some v):bG P μ w ρ ⟨dst,.binOp op t x y yt,type,pos,after,guard⟩ v:=by
 unfold bR at h;simp only[uA]at h;obtain⟨a,ha,b,hb,h⟩:=h;have hx:=hE _ _ ha;have hy:=hE _ _ hb;clear ha hb;revert h;have plain:∀op,op≠.shl->op≠.shr->Wa op C t x y a b=some v->bG P μ w ρ ⟨dst,.binOp op t x y yt,type,pos,after,guard⟩ v:=by
  intro op _ _ h;unfold Wa at h;split at h
  ·rename_i i hi;simp only[uA,qS,oB,fJ]at h;obtain⟨j,rfl,hk,h⟩:=h;rw[qS]at hi;subst hi;rw[vA]at hx;rw[vA]at hy;obtain⟨_,_,h2⟩:=YX (P:=P) (μ:=μ) (w:=w) h;obtain⟨v',h3,h4⟩:=h2 t;refine⟨v',Bz (Hv (.inl (by grind)) (by grind)) ?_,h4⟩
   simp_all
  ·rename_i hi;split at h
   ·rename_i s hs;simp only[uA,rS]at h;obtain⟨u,rfl,h⟩:=h;rw[rS]at hs;subst hs;rw[vA]at hx;rw[vA]at hy;obtain⟨sx,hx,rfl⟩:=hx;obtain⟨sy,hy,rfl⟩:=hy;obtain⟨_,_,h2⟩:=YW (P:=P) (μ:=μ) (w:=w) h;obtain⟨v',h3,h4⟩:=h2 t;refine⟨v',Bz (Hv (.inl (by grind)) (by grind)) ?_,h4⟩
    simp_all
   ·rename_i hs;cases op<;>simp only[JY]at h<;>first
     | exact JZ hT hx hy hi hs (.inl ⟨rfl,rfl⟩) h
     | exact JZ hT hx hy hi hs (.inr ⟨rfl,rfl⟩) h
     | (cases h;done)
 intro h;cases op<;>simp only[Du]at h<;>first
  | exact JX hx hy (.inl ⟨rfl,h⟩)
  | exact JX hx hy (.inr ⟨rfl,h⟩)
  | exact plain _ (by simp) (by simp) h
theorem Uc{k:IntKind}(h:kLo k=0):zG k=2^k.bits:=by
 cases k<;>first
  | (cases h;done)
  | rfl
theorem zbk(hE:lE μ e ρ){op:UnOp}{t:Nat}{x:Operand}(h:lUn op x C e H=some v):bG P μ w ρ ⟨dst,.unOp op t x,type,pos,after,guard⟩ v:=by
 unfold lUn at h;simp only[uA]at h;obtain⟨a,ha,h⟩:=h;have hx:=hE _ _ ha;cases op<;>simp only[unA]at h<;>try (cases h;done)
 case neg=>
  simp only[unNeg,uA,qS]at h;obtain⟨p,rfl,h⟩:=h;cases h;rw[vA]at hx;refine⟨.int p.1 (p.1.wrap (0-p.2)),?_,by rw[vA,kL]⟩;simp[execOp,hx,Op.unary,Op.intArith]
 case xor=>
  simp only[zZ,uA,qS,oB,oC]at h;obtain⟨p,rfl,hk,h⟩:=h;obtain⟨a,b,ha1,hb,hx1,hy,rfl⟩:=Mo h;rw[vA]at hx;have h1:Nat.xor a b<zG p.1:=by
   have:Nat.xor a b<2^p.1.bits:=Nat.xor_lt_two_pow (by grind [Uc]) (by grind [Uc])
   grind [Uc]
  refine⟨.int p.1 (Nat.xor a b:Nat),?_,by rw[vA]⟩;have hm:(if p.1.signed then(-1:Int)else p.1.max)=(a:Int):=by
   rw[<- ha1];revert hk;cases p.1<;>intro hk<;>first
    | (cases hk;done)
    | rfl
  have e2:(Op.intBits .xor p.1 (if p.1.signed then -1 else p.1.max) p.2).run P w=.ok (.int p.1 (Nat.xor a b:Nat)) w:=by
   rw[hm,hb];simp only[Op.intBits,BitVec.toNat_xor,wW hx1,wW hy];rw[show(a ^^^ b:Nat)=Nat.xor a b from rfl,eY h1];rfl
  simp_all [execOp,Op.unary]
 case not=>
  simp only[unNot,uA,zY]at h;obtain⟨b,rfl,h⟩:=h;cases h;rw[vA]at hx;refine⟨.bool (!b),?_,by rw[vA]⟩;simp[execOp,hx,Op.unary]
end
end Go.Am
