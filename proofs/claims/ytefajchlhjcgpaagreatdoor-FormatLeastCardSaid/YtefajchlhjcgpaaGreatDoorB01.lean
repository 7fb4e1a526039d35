/- -/
import Derived.Below
import Derived.Calls
import Derived.Laws.Cells
import Derived.Laws.Sem
import Derived.Laws.StructEq
import Derived.Laws.World
import Derived.Lib.Strings
set_option linter.all false
noncomputable section
namespace Go.Am
def yaa := @if_neg
def yab := @if_pos
def yac := @Result.andThen_ok
def yad := @Sem.run_bind
def yae := @Sem.run_pure
def yaf := @List.mem_append
def yag := @Nat.pow_succ
def yah := @List.nil_append
def yai := @Option.bind_some
def yaj := @Array.getElem?_append_left
def yak := @List.drop_eq_nil_iff
def yal := @Bool.or_eq_false_iff
def yam := @Nat.lt_of_le_of_lt
def yan := @Nat.le_mul_of_pos_left
def yao := @Nat.pow_le_pow_right
def yap := @Nat.add_comm
def yaq := @List.mem_map
def yar := @Option.map_eq_some_iff
def yas := @List.flatten_cons
def yat := @Nat.mul_zero
def yau := @Nat.lt_or_ge
def yav := @Nat.eq_zero_or_pos
def yaw := @Nat.zero_le
def yax := @Array.toList_inj
def yay := @Bool.and_false
def yaz := @List.getElem?_cons_zero
def yba := @List.getElem?_cons_succ
def ybb := @Bool.and_eq_true
def ybc := @List.getElem?_eq_some_iff
def ybd := @List.getElem?_eq_getElem
def ybe := @Array.getElem?_eq_some_iff
def ybf := @List.length_map
def ybg := @List.length_append
def ybh := @Nat.mul_comm
def ybi := @Nat.mul_le_mul_right
def ybj := @Nat.mul_assoc
def ybk := @Nat.le_refl
def ybl := @List.drop_eq_getElem_cons
def ybm := @Nat.mul_add
def ybn := @List.length_cons
def ybo := @Nat.add_mul
def ybp := @List.getElem?_append_right
def ybq := @Bool.false_eq_true
def ybr := @List.mem_cons_of_mem
def ybs := @List.mem_cons
def ybt := @List.drop_eq_nil_of_le
def ybu := @List.getElem?_map
def ybv := @Nat.mul_le_mul_left
def ybw := @Nat.zero_add
def ybx := @List.length_nil
def yby := @List.mem_cons_self
def ybz := @List.append_assoc
def yca := @List.take_of_length_le
def ycb := @List.all_eq_true
def ycc := @List.length_eq_zero_iff
def ycd := @List.append_nil
def yce := @Nat.dvd_mul_left_of_dvd
def ycf := @List.mem_append_right
def ycg := @List.all_cons
def ych := @Nat.div_add_mod
def yci := @Option.some.inj
def ycj := @List.getElem_mem
def yck := @List.all_nil
def ycl := @Bool.not_false
def ycm := @List.map_cons
def ycn := @Bool.true_and
def yco := @List.getElem?_append_left
def ycp := @Bool.not_eq_true'
def ycq := @Bool.or_eq_true
def ycr := @List.drop_zero
def ycs := @Array.getElem?_setIfInBounds
def yct := @Nat.add_zero
def ycu := @Nat.div_lt_of_lt_mul
def ycv := @List.mem_of_getElem?
def ycw := @List.getElem?_set
def ycx := @Array.getD_eq_getD_getElem?
def ycy := @Nat.mod_lt
def ycz := @Array.length_toList
def yda := @List.length_take
def ydb := @Nat.mul_le_mul
def ydc := @List.mem_append_left
def ydd := @List.mem_singleton
def yde := @List.getElem?_drop
def ydf := @List.getElem?_take
def ydg := @List.take_add_one
def ydh := @List.length_set
def ydi := @List.all_append
def ydj := @List.length_drop
end Go.Am
namespace Go.Am
inductive Tr (α:Type) where
 | leaf
 | node (l:Tr α) (v:Option α) (r:Tr α)
def ob {α β:Type}(x:Option α)(f:α->Option β):Option β:=Option.rec (motive:=fun _=>Option β) none f x
namespace Tr
variable {α:Type}
def get (t:Tr α):Nat->Option α:=
 Tr.rec (motive:=fun _=>Nat->Option α) (fun _=>none)
  (fun _ v _ gl gr n=>Bool.rec (motive:=fun _=>Option α) (Bool.rec (motive:=fun _=>Option α) (gr (Nat.pred (Nat.div n (nat_lit 2)))) (gl (Nat.div n (nat_lit 2))) (Nat.beq (Nat.mod n (nat_lit 2)) (nat_lit 1))) v (Nat.beq n (nat_lit 0))) t
def mk (f:Nat):Nat->α->Tr α:=
 Nat.rec (motive:=fun _=>Nat->α->Tr α) (fun _ _=>leaf)
  (fun _ g n v=>Bool.rec (motive:=fun _=>Tr α) (Bool.rec (motive:=fun _=>Tr α) (node leaf none (g (Nat.pred (Nat.div n (nat_lit 2))) v)) (node (g (Nat.div n (nat_lit 2)) v) none leaf) (Nat.beq (Nat.mod n (nat_lit 2)) (nat_lit 1))) (node leaf (some v) leaf) (Nat.beq n (nat_lit 0))) f
def set (t:Tr α):Nat->α->Tr α:=
 Tr.rec (motive:=fun _=>Nat->α->Tr α) (fun n v=>mk (Nat.succ n) n v)
  (fun l x r gl gr n v=>Bool.rec (motive:=fun _=>Tr α) (Bool.rec (motive:=fun _=>Tr α) (node l x (gr (Nat.pred (Nat.div n (nat_lit 2))) v)) (node (gl (Nat.div n (nat_lit 2)) v) x r) (Nat.beq (Nat.mod n (nat_lit 2)) (nat_lit 1))) (node l (some v) r) (Nat.beq n (nat_lit 0))) t
def del (t:Tr α):Nat->Tr α:=
 Tr.rec (motive:=fun _=>Nat->Tr α) (fun _=>leaf)
  (fun l x r gl gr n=>Bool.rec (motive:=fun _=>Tr α) (Bool.rec (motive:=fun _=>Tr α) (node l x (gr (Nat.pred (Nat.div n (nat_lit 2))))) (node (gl (Nat.div n (nat_lit 2))) x r) (Nat.beq (Nat.mod n (nat_lit 2)) (nat_lit 1))) (node l none r) (Nat.beq n (nat_lit 0))) t
def many (t:Tr α)(n:Nat):Nat->Option (List α):=
 Nat.rec (motive:=fun _=>Nat->Option (List α)) (fun _=>some [])
  (fun _ g i=>ob (t.get i) fun v=>ob (g (i+1)) fun l=>some (v::l)) n
def setMany(l:List α):Tr α->Nat->Tr α:=
 List.rec (motive:=fun _=>Tr α->Nat->Tr α) (fun t _=>t) (fun v _ g t i=>g (t.set i v) (i+1)) l
def ofList(l:List α):Tr α:=setMany l leaf 0
end Tr
def tD {α:Type}(l:List α):Nat->Option α:=
 List.rec (motive:=fun _=>Nat->Option α) (fun _=>none) (fun a _ g n=>Bool.rec (motive:=fun _=>Option α) (g (Nat.pred n)) (some a) (Nat.beq n (nat_lit 0))) l
def nQ{α:Type}(l:List α):Nat->List α:=
 List.rec (motive:=fun _=>Nat->List α) (fun _=>[]) (fun a l g n=>bif Nat.beq n 0 then a::l else g (n-1)) l
def Ab{α:Type}(l:List α):Nat->List α:=
 List.rec (motive:=fun _=>Nat->List α) (fun _=>[]) (fun a _ g n=>bif Nat.beq n 0 then []else a::g (n-1)) l
def aA {α:Type}(l:List α):Nat:=List.rec (motive:=fun _=>Nat) 0 (fun _ _ n=>n+1) l
def dD {α:Type}(l m:List α):List α:=List.rec (motive:=fun _=>List α) m (fun a _ g=>a::g) l
def fD {α:Type}(p:α->Bool)(l:List α):Bool:=List.rec (motive:=fun _=>Bool) true (fun a _ g=>bif p a then g else false) l
def aF{α β:Type}(f:α->Option β)(l:List α):Option (List β):=
 List.rec (motive:=fun _=>Option (List β)) (some []) (fun a _ g=>ob (f a) fun b=>ob g fun r=>some (b::r)) l
def wG(a:List Nat):List Nat->Bool:=
 List.rec (motive:=fun _=>List Nat->Bool) (fun b=>b.isEmpty) (fun x _ g b=>List.rec (motive:=fun _=>Bool) false (fun y b _=>bif Nat.beq x y then g b else false) b) a
def kIdx:IntKind->Nat
 | .i8=>0 | .i16=>1 | .i32=>2 | .i64=>3 | .u8=>4 | .u16=>5 | .u32=>6 | .u64=>7
def zN (a b:IntKind):Bool:=Nat.beq (kIdx a) (kIdx b)
def bEq:Bool->Bool->Bool
 | true,b=>b
 | false,b => !b
def kB:Int->Int->Bool
 | .ofNat a,.ofNat b=>Nat.beq a b
 | .negSucc a,.negSucc b=>Nat.beq a b
 | _,_=>false
def mE:Int->Int->Bool
 | .ofNat a,.ofNat b=>Nat.ble a b
 | .ofNat _,.negSucc _=>false
 | .negSucc _,.ofNat _=>true
 | .negSucc a,.negSucc b=>Nat.ble b a
def jB:Int->Int->Bool
 | .ofNat a,.ofNat b=>Nat.blt a b
 | .ofNat _,.negSucc _=>false
 | .negSucc _,.ofNat _=>true
 | .negSucc a,.negSucc b=>Nat.blt b a
def pG:IntKind->Nat
 | .i8=>128 | .i16=>32768 | .i32=>2147483648 | .i64=>9223372036854775808 | .u8=>256 | .u16=>65536 | .u32=>4294967296 | .u64=>18446744073709551616
def kLo:IntKind->Nat
 | .i8=>128 | .i16=>32768 | .i32=>2147483648 | .i64=>9223372036854775808 | _=>0
def fA(k:IntKind):Int->Int
 | .ofNat n=>bif Nat.blt n (pG k)then .ofNat n else k.wrap (.ofNat n)
 | .negSucc n=>bif Nat.blt n (kLo k)then .negSucc n else k.wrap (.negSucc n)
inductive AFn where
 | func (f:Nat)
 | yld (l:Nat)
inductive zA where
 | bool (b:Bool)
 | int (k:IntKind) (n:Int)
 | str (l:List Nat)
 | nilptr
 | ptr (b off:Nat)
 | nilslice
 | slice (b off len cap:Nat)
 | nilmap
 | map (b:Nat)
 | func (fn:AFn) (first captured:List zA)
 | nilfunc
 | iface (t:Nat) (v:zA)
 | niliface
 | agg (l:List zA)
 | tup (l:List zA)
structure Tm where
 k:Nat
 v:Tr zA
 t:List (Nat × zA)
def assoc(i:Nat)(l:List (Nat × zA)):Option zA:=
 List.rec (motive:=fun _=>Option zA) none (fun a _ g=>Bool.rec (motive:=fun _=>Option zA) g (some a.2) (Nat.beq i a.1)) l
def Tm.get(t:Tm)(i:Nat):Option zA:=Bool.rec (motive:=fun _=>Option zA) (assoc i t.t) (t.v.get i) (Nat.blt i t.k)
def Tm.set(t:Tm)(i:Nat)(x:zA):Tm:=Bool.rec (motive:=fun _=>Tm) ⟨t.k,t.v,(i,x)::t.t⟩ ⟨t.k,t.v.set i x,t.t⟩ (Nat.blt i t.k)
def Tm.cut(t:Tm):Tm:=⟨t.k,t.v,[]⟩
structure vH where
 fn:Option AFn
 r:Nat
 args:List zA
structure fM where
 state:LoopState
 pending:Option Code
 fn:Nat
 n:Nat
 tm:Tm
 params:List Nat
 assign:Code
 body:Code
 defers:Nat
inductive Lo where
 | sz (n:Nat)
 | ty (t:Nat)
def Lo.es:Lo->Nat | .sz n=>n | .ty _=>1
def loEq:Lo->Lo->Bool
 | .sz a,.sz b=>Nat.beq a b
 | .ty a,.ty b=>Nat.beq a b
 | _,_=>false
inductive tA where
 | cells (c:Tr zA) (n:Nat) (loose:Option Lo)
 | map (l:List (zA × zA))
 | loop (l:fM)
 | deferred (l:Option (List vH))
 | siter (s:List Nat) (pos:Nat)
structure xA where
 next:Nat
 t:Tr tA
inductive xE where
 | bool | int (k:IntKind) | string
 | ptr (e:Nat) | slice (e:Nat) | arr (n e:Nat) | map (k e:Nat)
 | struct (fs:List (Nat × Nat × Nat))
 | func | iface | other
structure mD where
 desc:xE
 size:Nat
 bytes:Nat
 zero:List zA
 eqOk:Bool
structure vG where
 heavy:Nat
 lights:List Nat
 again:List Nat
structure Plan where
 first:List Nat
 stages:List vG
 olds:List (Nat × List Nat)
structure lA where
 fns:Tr Func
 ks:Tr Nat
 tys:Tr mD
 plans:Tr (Tr Plan)
 prims:Tr (List zA->xA->Option (zA × xA))
 base:Nat
 root:Nat
inductive qE where
 | code (c:Code)
 | inBlock (id:Nat)
 | inLoop (c:Code)
 | inScope (c:Code)
 | ops (all:Array Oper) (rest:List Oper)
 | reg (all:Array Oper) (old:Tm) (olds:List (Nat × List Nat)) (stages:List vG)
 | inRange (l:Nat)
 | endRange (l:Nat)
 | beginRound
structure Dy where
 v:zA
 recovered:Bool
inductive sV where
 | run | returning
 | panicking (chain:List Dy)
structure jJ where
 fn:Nat
 n:Nat
 defers:List vH
 mode:sV
 deferred:Bool
 roundOf:Option Nat
structure wC where
 todo:List qE
 tm:Tm
 R:jJ
structure wR where
 fr:wC
 cs:List wC
 H:xA
inductive lF where
 | next (s:wR)
 | done (v:zA) (H:xA)
 | fail (why:Nat)
def zA.asBool:zA->Option Bool | .bool b=>some b | _=>none
def zA.asInt:zA->Option Int | .int _ n=>some n | _=>none
def zA.asIntK:zA->Option (IntKind × Int) | .int k n=>some (k,n) | _=>none
def zA.asStr:zA->Option (List Nat) | .str l=>some l | _=>none
def zA.asPtr:zA->Option (Nat × Nat) | .ptr b o=>some (b,o) | _=>none
def zA.asSlice:zA->Option (Nat × Nat × Nat × Nat) | .slice b o l c=>some (b,o,l,c) | _=>none
def zA.asMap:zA->Option Nat | .map b=>some b | _=>none
def zA.asAgg:zA->Option (List zA) | .agg l=>some l | _=>none
def zA.asTup:zA->Option (List zA) | .tup l=>some l | _=>none
def zA.asFunc:zA->Option (AFn × List zA × List zA) | .func f a b=>some (f,a,b) | _=>none
def zA.asIface:zA->Option (Nat × zA) | .iface t v=>some (t,v) | _=>none
def zA.tag:zA->Nat
 | .bool _=>0 | .int _ _=>1 | .str _=>2 | .nilptr=>3 | .ptr _ _=>4 | .nilslice=>5 | .slice _ _ _ _=>6 | .nilmap=>7 | .map _=>8
 | .func _ _ _=>9 | .nilfunc=>10 | .iface _ _=>11 | .niliface=>12 | .agg _=>13 | .tup _=>14
def wM:Int->Option Nat | .ofNat n=>some n | .negSucc _=>none
def zA.asNat(v:zA):Option Nat:=ob v.asInt wM
def zA.cells(v:zA):List zA:=
 match v.asAgg with
 | some l=>l
 | none=>[v]
def zA.one(v:zA):Bool:=Nat.blt v.tag 13
def xE.asInt:xE->Option IntKind | .int k=>some k | _=>none
def xE.asSlice:xE->Option Nat | .slice e=>some e | _=>none
def xE.asArr:xE->Option (Nat × Nat) | .arr n e=>some (n,e) | _=>none
def xE.asMap:xE->Option (Nat × Nat) | .map k e=>some (k,e) | _=>none
def xE.asStruct:xE->Option (List (Nat × Nat × Nat)) | .struct fs=>some fs | _=>none
def xE.tag:xE->Nat
 | .bool=>0 | .int _=>1 | .string=>2 | .ptr _=>3 | .slice _=>4 | .arr _ _=>5 | .map _ _=>6 | .struct _=>7 | .func=>8 | .iface=>9 | .other=>10
def xE.isAgg(d:xE):Bool:=bif Nat.beq d.tag 5 then true else Nat.beq d.tag 7
def xE.isString(d:xE):Bool:=Nat.beq d.tag 2
def tA.asCells:tA->Option (Tr zA × Nat × Option Lo) | .cells c n l=>some (c,n,l) | _=>none
def tA.asMap:tA->Option (List (zA × zA)) | .map l=>some l | _=>none
def tA.asLoop:tA->Option fM | .loop l=>some l | _=>none
def tA.asDeferred:tA->Option (Option (List vH)) | .deferred l=>some l | _=>none
def tA.asIter:tA->Option (List Nat × Nat) | .siter s p=>some (s,p) | _=>none
def wB{α:Type}(b:Bool)(x:Option α):Option α:=Bool.rec (motive:=fun _=>Option α) none x b
def pD:zA:=.tup []
def tF(s:ByteArray):List Nat:=s.data.toList.map UInt8.toNat
def Fi:Value->Option zA
 | .bool b=>some (.bool b)
 | .int k n=>some (.int k n)
 | .string s=>some (.str (tF s))
 | .pointer none=>some .nilptr
 | .slice none 0 0=>some .nilslice
 | .map none=>some .nilmap
 | .nilFunc=>some .nilfunc
 | .nilIface=>some .niliface
 | _=>none
def zj0:Value->Option (Array Value)
 | .agg cs=>some cs
 | _=>none
def Yq(v:Value):Option zA:=
 match zj0 v with
 | some cs=>ob (aF Fi cs.toList) fun l=>some (.agg l)
 | none=>Fi v
inductive vD where
 | now (tm:Tm)
 | mixed (tm old:Tm) (olds names:List Nat)
def iH(i:Nat)(l:List Nat):Bool:=List.rec (motive:=fun _=>Bool) false (fun j _ g=>bif Nat.beq i j then true else g) l
def qX (t:Nat)(e:vD):Option zA:=
 match e with
 | .now tm=>tm.get t
 | .mixed tm old olds names=>bif iH t names then Tm.get (bif iH t olds then old else tm) t else none
def xConst(v:Value)(_:vD):Option zA:=Yq v
def Uo(g:Nat)(_:vD):Option zA:=bif Nat.blt g 256 then some (.ptr g 0)else none
def xFunc(f:Nat)(_:vD):Option zA:=some (.func (.func f) [] [])
structure EB where f:vD->Option zA
def evB:Operand->EB
 | .tmp t=>⟨qX t⟩
 | .const v=>⟨xConst v⟩
 | .global g=>⟨Uo g⟩
 | .func f=>⟨xFunc f⟩
def ev (x:Operand)(e:vD):Option zA:=(evB x).f e
def dN (l:List Operand)(e:vD):Option (List zA):=aF (fun x=>ev x e) l
def evo (x:Option Operand)(e:vD):Option (Option zA):=
 match x with
 | none=>some none
 | some x=>ob (ev x e) fun v=>some (some v)
def evp (l:List (Nat × Operand))(e:vD):Option (List (Nat × zA)):=aF (fun x=>ob (ev x.2 e) fun v=>some (x.1,v)) l
def qD(H:xA)(b:Nat):Option (Tr zA × Nat × Option Lo):=ob (H.t.get b) tA.asCells
def fK(H:xA)(b:Nat):Option (List (zA × zA)):=ob (H.t.get b) tA.asMap
def aR(ty:mD)(c:Tr zA)(off:Nat):Option zA:=
 bif ty.desc.isAgg then ob (c.many ty.size off) fun l=>some (.agg l)else c.get off
def xQ(C:lA)(t:Nat)(l:List zA)(off:Nat):Option zA:=
 ob (C.tys.get t) fun ty=>bif ty.desc.isAgg then some (.agg (Ab (nQ l off) ty.size))else tD l off
def sX(ty:mD):zA:=
 bif ty.desc.isAgg then .agg ty.zero else match ty.zero with
  | v::_=>v
  | []=>pD
def Zg(a:List Nat):List Nat->Bool:=
 List.rec (motive:=fun _=>List Nat->Bool) (fun b => !b.isEmpty)
  (fun x _ g b=>List.rec (motive:=fun _=>Bool) false (fun y b _=>bif Nat.blt x y then true else bif Nat.beq x y then g b else false) b) a
def Jb(a b:zA):Option Bool:=ob a.asBool fun x=>ob b.asBool fun y=>some (bEq x y)
def znf(a b:zA):Option Bool:=ob a.asIntK fun x=>ob b.asIntK fun y=>wB (zN x.1 y.1) (some (kB x.2 y.2))
def BA(a b:zA):Option Bool:=ob a.asStr fun x=>ob b.asStr fun y=>some (wG x y)
def Df(n m:Nat)(a b:zA):Option Bool:=
 bif Nat.beq a.tag n then(bif Nat.beq b.tag n then some true else wB (Nat.beq b.tag m) (some false))
 else wB (Nat.beq a.tag m&&Nat.beq b.tag n) (some false)
def Tc(_ _:zA):Option Bool:=none
def Nq:xE->zA->zA->Option Bool
 | .bool=>Jb
 | .int _=>znf
 | .string=>BA
 | .ptr _=>Df 3 4
 | .iface=>Df 12 11
 | .slice _=>Df 5 6
 | .map _ _=>Df 7 8
 | .func=>Df 10 9
 | .arr _ _=>Tc
 | .struct _=>Tc
 | .other=>Tc
def Jt(C:lA)(eq:Nat->zA->zA->Option Bool)(xs ys:List zA):List (Nat × Nat × Nat)->Option Bool
 | []=>some true
 | f::fs=>ob (xQ C f.2.1 xs f.1) fun a=>ob (xQ C f.2.1 ys f.1) fun b=>ob (eq f.2.1 a b) fun r=>bif r then Jt C eq xs ys fs else some false
def aeq (C:lA):Nat->Nat->zA->zA->Option Bool
 | 0,_,_,_=>none
 | d+1,t,x,y=>ob (C.tys.get t) fun ty=>
  match ty.desc.asStruct with
  | some fs=>wB ty.eqOk (ob x.asAgg fun xs=>ob y.asAgg fun ys=>Jt C (aeq C d) xs ys fs)
  | none=>Nq ty.desc x y
def iAdd (k:IntKind)(a b:Int):Option zA:=some (.int k (fA k (a+b)))
def iSub (k:IntKind)(a b:Int):Option zA:=some (.int k (fA k (a-b)))
def iMul (k:IntKind)(a b:Int):Option zA:=some (.int k (fA k (a*b)))
def Ak (k:IntKind)(a b:Int):Option zA:=bif kB b 0 then none else some (.int k (fA k (a.tdiv b)))
def Aj (k:IntKind)(a b:Int):Option zA:=bif kB b 0 then none else some (.int k (a.tmod b))
def rI(f:Nat->Nat->Nat)(k:IntKind)(a b:Int):Option zA:=ob (wM a) fun x=>ob (wM b) fun y=>wB (Nat.blt x (pG k)&&Nat.blt y (pG k)) (some (.int k (.ofNat (f x y))))
def kW:IntKind->Nat
 | .i8=>256 | .u8=>256 | .i16=>65536 | .u16=>65536 | .i32=>4294967296 | .u32=>4294967296 | .i64=>18446744073709551616 | .u64=>18446744073709551616
def iAnd (k:IntKind)(a b:Int):Option zA:=
 match wM a with
 | some _=>rI Nat.land k a b
 | none=>ob (wM b) fun y=>wB (Nat.blt y (pG k)) (some (.int k (.ofNat (Nat.land (Int.toNat (Int.emod a (.ofNat (kW k)))) y))))
def iEql (_:IntKind)(a b:Int):Option zA:=some (.bool (kB a b))
def iNeq (_:IntKind)(a b:Int):Option zA:=some (.bool (!kB a b))
def iLss (_:IntKind)(a b:Int):Option zA:=some (.bool (jB a b))
def iLeq (_:IntKind)(a b:Int):Option zA:=some (.bool (mE a b))
def iGtr (_:IntKind)(a b:Int):Option zA:=some (.bool (jB b a))
def iGeq (_:IntKind)(a b:Int):Option zA:=some (.bool (mE b a))
def iNone(_:IntKind)(_ _:Int):Option zA:=none
structure IB where f:IntKind->Int->Int->Option zA
def BY:BinOp->IB
 | .add=>⟨iAdd⟩ | .sub=>⟨iSub⟩ | .mul=>⟨iMul⟩ | .quo=>⟨Ak⟩ | .rem=>⟨Aj⟩
 | .and=>⟨iAnd⟩ | .or=>⟨rI Nat.lor⟩ | .xor=>⟨rI Nat.xor⟩
 | .eql=>⟨iEql⟩ | .neq=>⟨iNeq⟩ | .lss=>⟨iLss⟩ | .leq=>⟨iLeq⟩ | .gtr=>⟨iGtr⟩ | .geq=>⟨iGeq⟩
 | _=>⟨iNone⟩
def wJ (a b:List Nat):Option zA:=wB (Nat.blt (aA a+aA b) 4611686018427387904) (some (.str (dD a b)))
def sEql (a b:List Nat):Option zA:=some (.bool (wG a b))
def sNeq (a b:List Nat):Option zA:=some (.bool (!wG a b))
def sLss (a b:List Nat):Option zA:=some (.bool (Zg a b))
def sNone(_ _:List Nat):Option zA:=none
structure SB where f:List Nat->List Nat->Option zA
def BV:BinOp->SB
 | .add=>⟨wJ⟩ | .eql=>⟨sEql⟩ | .neq=>⟨sNeq⟩ | .lss=>⟨sLss⟩
 | _=>⟨sNone⟩
def Nd:Operand->Bool
 | .const _=>true
 | _=>false
def Eu(k:IntKind)(b:Int):Option Nat:=ob (wM b) fun n=>some (min n k.bits)
def mW (k:IntKind)(a b:Int):Option zA:=ob (Eu k b) fun n=>some (.int k (fA k (a*.ofNat (2^n))))
def Fv (k:IntKind)(a b:Int):Option zA:=ob (Eu k b) fun n=>some (.int k (a.fdiv (.ofNat (2^n))))
def Of(f:IntKind->Int->Int->Option zA)(a b:zA):Option zA:=ob a.asIntK fun x=>ob b.asInt fun y=>f x.1 x.2 y
def OF(x y:Operand)(a b:zA):Bool:=
 bif Nat.beq a.tag 12&&Nat.beq b.tag 12 then Nd x||Nd y else true
def Ua(neg:Bool)(C:lA)(t:Nat)(x y:Operand)(a b:zA):Option zA:=
 wB (OF x y a b) (ob (aeq C 20 t a b) fun r=>some (.bool (bif neg then !r else r)))
def binNo(_:lA)(_:Nat)(_ _:Operand)(_ _:zA):Option zA:=none
structure BB where f:lA->Nat->Operand->Operand->zA->zA->Option zA
def zda:BinOp->BB
 | .eql=>⟨Ua false⟩
 | .neq=>⟨Ua true⟩
 | _=>⟨binNo⟩
def BW(op:BinOp)(C:lA)(t:Nat)(x y:Operand)(a b:zA):Option zA:=
 match a.asIntK with
 | some i=>ob b.asIntK fun j=>wB (zN i.1 j.1) ((BY op).f i.1 i.2 j.2)
 | none=>match a.asStr with
  | some s=>ob b.asStr fun u=>(BV op).f s u
  | none=>(zda op).f C t x y a b
def binShl(_:lA)(_:Nat)(_ _:Operand)(a b:zA):Option zA:=Of mW a b
def binShr(_:lA)(_:Nat)(_ _:Operand)(a b:zA):Option zA:=Of Fv a b
def Bk:BinOp->BB
 | .shl=>⟨binShl⟩
 | .shr=>⟨binShr⟩
 | op=>⟨BW op⟩
def unNeg(a:zA):Option zA:=ob a.asIntK fun x=>some (.int x.1 (fA x.1 (0-x.2)))
def unNot(a:zA):Option zA:=ob a.asBool fun b=>some (.bool (!b))
def El(a:zA):Option zA:=ob a.asIntK fun x=>wB (Nat.beq (kLo x.1) 0) (rI Nat.xor x.1 (.ofNat (pG x.1-1)) x.2)
def unNone(_:zA):Option zA:=none
structure UB where f:zA->Option zA
def unA:UnOp->UB
 | .neg=>⟨unNeg⟩
 | .xor=>⟨El⟩
 | .not=>⟨unNot⟩
 | _=>⟨unNone⟩
def yV(v:zA):Option Nat:=ob v.asIntK fun x=>wB (zN x.1 .u8) (ob (wM x.2) fun n=>wB (Nat.blt n 256) (some n))
def Gh(H:xA)(a:zA):Option zA:=
 match a.asSlice with
 | some x=>ob (qD H x.1) fun c=>ob (c.1.many x.2.2.1 x.2.1) fun l=>ob (aF yV l) fun r=>some (.str r)
 | none=>wB (Nat.beq a.tag 5) (some (.str []))
def oS(C:lA)(s d:mD)(a:zA)(H:xA):Option zA:=
 match d.desc.asInt with
 | some k=>ob a.asInt fun n=>some (.int k (fA k n))
 | none=>wB d.desc.isString (bif Nat.beq a.tag 2 then some a else
   ob s.desc.asSlice fun e=>ob (C.tys.get e) fun et=>ob et.desc.asInt fun k=>wB (zN k .u8) (Gh H a))
def cW(y:Nat)(v:zA):Option Nat:=ob v.asNat fun n=>wB (Nat.ble n y) (some n)
def Bh(y dflt:Nat)(v:Option zA):Option Nat:=
 match v with
 | some v=>cW y v
 | none=>some dflt
def jP(len cap:Nat)(lo hi:Option zA):Option (Nat × Nat):=
 ob (Bh cap len hi) fun h=>ob (Bh h 0 lo) fun l=>some (l,h)
def lN(H:xA)(b size cap l:Nat)(arr:Bool):Bool:=
 match qD H b with
 | some c=>match c.2.2 with
  | none=>true
  | some es => !arr&&Nat.beq es.es size&&(!Nat.beq cap l||Nat.beq l 0)
 | none=>false
def eM(H:xA)(b size cap l:Nat)(arr:Bool):Bool:=
 match qD H b with
 | some c=>match c.2.2 with
  | none=>false
  | some es => !arr&&Nat.beq es.es size&&Nat.beq cap l && !Nat.beq l 0
 | none=>false
def wP(C:lA)(H:xA)(arr:Bool)(e b off len cap:Nat)(lo hi:Option zA):Option zA:=
 ob (C.tys.get e) fun et=>ob (jP len cap lo hi) fun x=>
  bif Nat.ble x.2 cap&&Nat.ble x.1 x.2&&eM H b et.size cap x.1 arr then some (.slice 0 1 0 0)else
  wB (Nat.ble x.2 cap&&lN H b et.size cap x.1 arr) (some (.slice b (bif Nat.beq cap x.1 then off else off+x.1*et.size) (x.2-x.1) (cap-x.1)))
def Li(s:List Nat)(lo hi:Option zA):Option zA:=
 let n:=aA s
 ob (jP n n lo hi) fun x=>some (.str (nQ (Ab s x.2) x.1))
def dM(C:lA)(H:xA)(ty:mD)(x:zA)(lo hi:Option zA):Option zA:=
 match x.asStr with
 | some s=>wB ty.desc.isString (Li s lo hi)
 | none=>match x.asSlice with
  | some r=>ob ty.desc.asSlice fun e=>wP C H false e r.1 r.2.1 r.2.2.1 r.2.2.2 lo hi
  | none=>match x.asPtr with
   | some p=>ob ty.desc.asArr fun a=>wP C H true a.2 p.1 p.2 a.1 a.1 lo hi
   | none=>wB (Nat.beq x.tag 5) (ob ty.desc.asSlice fun e=>ob (C.tys.get e) fun _=>ob (jP 0 0 lo hi) fun _=>some .nilslice)
def eU(cells:List zA)(off size:Nat)(v:zA):Option (List zA):=
 let vc:=v.cells
 let n:=aA vc
 wB (Nat.beq n size&&Nat.ble (off+n) (aA cells)) (some (dD (Ab cells off) (dD vc (nQ cells (off+n)))))
def kL(place:Nat->Option (Nat × Nat)):List (Nat × zA)->List zA->Option (List zA)
 | [],cells=>some cells
 | p::rest,cells=>ob (place p.1) fun q=>ob (eU cells q.1 q.2 p.2) fun cells=>kL place rest cells
def lU(d:xE):Bool:=Nat.ble d.tag 2
def keyTag(v:zA):Nat:=v.tag
def Fs(d:xE)(v:zA):Bool:=Nat.beq d.tag (keyTag v)
def As(C:lA):List (Nat × Nat × Nat)->Nat->Bool
 | [],_=>true
 | f::fs,i=>bif Nat.beq f.1 i then(match C.tys.get f.2.1 with
  | some ty=>bif lU ty.desc then As C fs (i+1)else false
  | none=>false)else false
def mU(C:lA)(ty:mD):Bool:=bif lU ty.desc then true else match ty.desc.asStruct with
 | some fs=>bif ty.eqOk then As C fs 0 else false
 | none=>false
def Aw(C:lA):List (Nat × Nat × Nat)->List zA->Bool
 | [],[]=>true
 | f::fs,v::l=>(match C.tys.get f.2.1 with
  | some ty=>bif Fs ty.desc v then Aw C fs l else false
  | none=>false)
 | _,_=>false
def wS(C:lA)(ty:mD)(v:zA):Bool:=bif lU ty.desc then Fs ty.desc v else match ty.desc.asStruct with
 | some fs=>(match v.asAgg with
  | some l=>Aw C fs l
  | none=>false)
 | none=>false
def kQ(a b:zA):Option Bool:=
 match a.asIntK with
 | some x=>ob b.asIntK fun y=>wB (zN x.1 y.1) (some (kB x.2 y.2))
 | none=>match a.asStr with
  | some x=>ob b.asStr fun y=>some (wG x y)
  | none=>Jb a b
def oU:List zA->List zA->Option Bool
 | [],[]=>some true
 | a::x,b::y=>ob (kQ a b) fun r=>ob (oU x y) fun s=>some (r&&s)
 | _,_=>none
def tI(a b:zA):Option Bool:=
 match a.asAgg with
 | some x=>ob b.asAgg fun y=>oU x y
 | none=>kQ a b
def jK(k:zA):List (zA × zA)->Option (Option zA)
 | []=>some none
 | e::l=>ob (tI k e.1) fun r=>bif r then some (some e.2)else jK k l
def kN(k v:zA):List (zA × zA)->Option (List (zA × zA))
 | []=>some [(k,v)]
 | e::l=>ob (tI k e.1) fun r=>bif r then some ((k,v)::l)else ob (kN k v l) fun l=>some (e::l)
abbrev lJ:=lA->vD->xA->Option zA
def Af:lJ:=fun _ _ _=>none
def pP(x:Operand):lJ:=fun _ e _=>ev x e
def Mv(c a b:Operand):lJ:=fun _ e _=>ob (ev c e) fun c=>ob c.asBool fun c=>bif c then ev a e else ev b e
def xW(t:Nat)(a:Operand):lJ:=fun C e H=>ob (ev a e) fun v=>ob v.asPtr fun p=>ob (C.tys.get t) fun ty=>ob (qD H p.1) fun c=>aR ty c.1 p.2
def Ag (x:Operand):lJ:=fun _ e _=>ob (ev x e) fun v=>wB (Nat.beq v.tag 4||Nat.beq v.tag 9) (some v)
def rW (op:BinOp)(t:Nat)(x y:Operand):lJ:=fun C e _=>ob (ev x e) fun a=>ob (ev y e) fun b=>(Bk op).f C t x y a b
def lUn (op:UnOp)(x:Operand):lJ:=fun _ e _=>ob (ev x e) fun a=>(unA op).f a
def oP(s d:Nat)(x:Operand):lJ:=fun C e H=>ob (ev x e) fun a=>ob (C.tys.get s) fun s=>ob (C.tys.get d) fun d=>oS C s d a H
def Cu(t:Nat)(x:Operand):lJ:=fun C e _=>ob (C.tys.get t) fun ty=>wB (Nat.blt ty.desc.tag 9) (ob (ev x e) fun v=>some (.iface t v))
def Io(f:Nat)(a b:Array Operand):lJ:=fun _ e _=>ob (dN a.toList e) fun a=>ob (dN b.toList e) fun b=>some (.func (.func f) a b)
structure LB where f:lJ
def Cv(fn:Fn)(a b:Array Operand):LB:=
 match fn with
 | .func f=>⟨Io f a b⟩
 | _=>⟨Af⟩
def Ae(t:Nat)(x:Operand)(lo hi:Option Operand):lJ:=fun C e H=>
 ob (ev x e) fun a=>ob (evo lo e) fun l=>ob (evo hi e) fun h=>ob (C.tys.get t) fun ty=>dM C H ty a l h
def Mt(t:Nat)(x:Operand)(lo hi mx:Option Operand):LB:=
 match mx with
 | none=>⟨Ae t x lo hi⟩
 | some _=>⟨Af⟩
def tW(s:Nat)(x:Operand)(f:Nat):lJ:=fun C e _=>
 ob (C.tys.get s) fun ty=>ob ty.desc.asStruct fun fs=>ob (tD fs f) fun fd=>wB (!Nat.beq fd.2.2 0) (ob (ev x e) fun v=>ob v.asPtr fun p=>some (.ptr p.1 (p.2+fd.1)))
def Cw(t:Nat)(x:Operand)(f:Nat):lJ:=fun C e _=>
 ob (C.tys.get t) fun ty=>ob ty.desc.asStruct fun fs=>ob (tD fs f) fun fd=>ob (ev x e) fun v=>ob v.asAgg fun l=>xQ C fd.2.1 l fd.1
def wW(t:Nat)(x i:Operand):lJ:=fun C e _=>
 ob (C.tys.get t) fun ty=>ob (ev x e) fun v=>ob (ev i e) fun i=>ob i.asNat fun i=>
  match v.asSlice with
  | some s=>ob ty.desc.asSlice fun el=>ob (C.tys.get el) fun et=>wB (Nat.blt i s.2.2.1) (some (.ptr s.1 (s.2.1+i*et.size)))
  | none=>ob v.asPtr fun p=>ob ty.desc.asArr fun a=>ob (C.tys.get a.2) fun et=>wB (Nat.blt i a.1) (some (.ptr p.1 (p.2+i*et.size)))
def vW(t:Nat)(x i:Operand):lJ:=fun C e _=>
 ob (C.tys.get t) fun ty=>ob (ev x e) fun v=>ob (ev i e) fun i=>ob i.asNat fun i=>
  match v.asStr with
  | some s=>wB ty.desc.isString (ob (tD s i) fun b=>some (.int .u8 (.ofNat b)))
  | none=>ob v.asAgg fun l=>ob ty.desc.asArr fun a=>ob (C.tys.get a.2) fun et=>wB (Nat.blt i a.1) (xQ C a.2 l (i*et.size))
def sW(t:Operand)(i:Nat):lJ:=fun _ e _=>ob (ev t e) fun v=>ob v.asTup fun l=>tD l i
def zY(t:Nat)(parts:Array (Nat × Operand)):lJ:=fun C e _=>
 ob (C.tys.get t) fun ty=>ob (evp parts.toList e) fun ps=>
  match ty.desc.asStruct with
  | some fs=>ob (kL (fun i=>ob (tD fs i) fun x=>some (x.1,x.2.2)) ps ty.zero) fun l=>some (.agg l)
  | none=>ob ty.desc.asArr fun a=>ob (C.tys.get a.2) fun et=>ob (kL (fun i=>some (i*et.size,et.size)) ps ty.zero) fun l=>some (.agg l)
def qW(x:Operand)(asserted:Nat)(ok:Bool):lJ:=fun C e _=>
 ob (C.tys.get asserted) fun ty=>wB (Nat.blt ty.desc.tag 9) (ob (ev x e) fun v=>
  match v.asIface with
  | some p=>bif Nat.beq p.1 asserted then some (bif ok then .tup [p.2,.bool true]else p.2)else wB ok (some (.tup [sX ty,.bool false]))
  | none=>wB (Nat.beq v.tag 12&&ok) (some (.tup [sX ty,.bool false])))
def fV(H:xA)(v:zA):Option (List (zA × zA)):=
 match v.asMap with
 | some b=>fK H b
 | none=>wB (Nat.beq v.tag 7) (some [])
def yW(t:Nat)(x i:Operand)(ok:Bool):lJ:=fun C e H=>
 ob (C.tys.get t) fun ty=>ob ty.desc.asMap fun ke=>ob (C.tys.get ke.1) fun kty=>wB (mU C kty) (ob (C.tys.get ke.2) fun ety=>
  ob (ev x e) fun m=>ob (fV H m) fun es=>ob (ev i e) fun k=>wB (wS C kty k) (ob (jK k es) fun r=>
   match r with
   | some v=>some (bif ok then .tup [v,.bool true]else v)
   | none=>some (bif ok then .tup [sX ety,.bool false]else sX ety)))
def pU (H:xA)(ty:mD)(v:zA):Option Nat:=
 match v.asStr with
 | some s=>wB ty.desc.isString (some (aA s))
 | none=>match v.asSlice with
  | some s=>wB (Nat.beq ty.desc.tag 4) (some s.2.2.1)
  | none=>match ty.desc.asArr with
   | some a=>some a.1
   | none=>match v.asMap with
    | some b=>wB (Nat.beq ty.desc.tag 6) (ob (fK H b) fun l=>some (aA l))
    | none=>wB ((Nat.beq ty.desc.tag 4&&Nat.beq v.tag 5)||(Nat.beq ty.desc.tag 6&&Nat.beq v.tag 7)) (some 0)
def mQ (c:Call):lJ:=fun C e H=>
 ob (tD c.argTypes.toList 0) fun t=>ob (tD c.args.toList 0) fun x=>ob (C.tys.get t) fun ty=>ob (ev x e) fun v=>ob (pU H ty v) fun n=>some (.int .i64 (.ofNat n))
def two (c:Call)(e:vD):Option (zA × zA):=
 match c.args.toList with
 | [x,y]=>ob (ev x e) fun a=>ob (ev y e) fun b=>some (a,b)
 | _=>none
def aV (c:Call):lJ:=fun _ e _=>ob (two c e) fun p=>ob p.1.asIntK fun x=>ob p.2.asIntK fun y=>some (.int x.1 (bif jB x.2 y.2 then y.2 else x.2))
def bV (c:Call):lJ:=fun _ e _=>ob (two c e) fun p=>ob p.1.asIntK fun x=>ob p.2.asIntK fun y=>some (.int x.1 (bif jB y.2 x.2 then y.2 else x.2))
def Sb(c:Call):Builtin->LB
 | .len=>⟨mQ c⟩
 | .max=>⟨aV c⟩
 | .min=>⟨bV c⟩
 | _=>⟨Af⟩
def oT(c:Call):Callee->LB
 | .builtin b=>Sb c b
 | _=>⟨Af⟩
def zmg(c:Call):LB:=oT c c.callee
def qF:Op->LB
 | .move x=>⟨pP x⟩
 | .assign x=>⟨pP x⟩
 | .pick c a b=>⟨Mv c a b⟩
 | .load t a=>⟨xW t a⟩
 | .nilCheck x=>⟨Ag x⟩
 | .binOp op t x y _=>⟨rW op t x y⟩
 | .unOp op _ x=>⟨lUn op x⟩
 | .convert s d x=>⟨oP s d x⟩
 | .makeInterface t x=>⟨Cu t x⟩
 | .makeFunc fn a b=>Cv fn a b
 | .slice t x lo hi mx=>Mt t x lo hi mx
 | .fieldAddr s x f=>⟨tW s x f⟩
 | .field t x f=>⟨Cw t x f⟩
 | .indexAddr t x i=>⟨wW t x i⟩
 | .index t x i=>⟨vW t x i⟩
 | .extract t i=>⟨sW t i⟩
 | .build t ps=>⟨zY t ps⟩
 | .typeAssert x _ u ok=>⟨qW x u ok⟩
 | .lookup t x i ok=>⟨yW t x i ok⟩
 | .call c=>zmg c
 | _=>⟨Af⟩
inductive bJ where
 | val (v:zA) (H:xA)
 | enter (f:Nat) (args:List zA)
 | round (l:Nat) (args:List zA)
 | defer (d:vH)
 | panic (v:zA)
 | recover
 | fail
abbrev yR:=lA->vD->xA->bJ
structure HB where f:yR
def vL (x:Option (zA × xA)):bJ:=
 match x with
 | some p=>.val p.1 p.2
 | none=>.fail
def jZ (x:Option bJ):bJ:=
 match x with
 | some r=>r
 | none=>.fail
def lv (f:lJ):yR:=fun C e H=>
 match f C e H with
 | some v=>.val v H
 | none=>.fail
def newBlk(H:xA)(b:tA):xA:=⟨H.next+1,H.t.set H.next b⟩
def uF(H:xA)(l:List zA)(loose:Option Lo):xA:=newBlk H (.cells (Tr.ofList l) (aA l) loose)
def setBlk(H:xA)(b:Nat)(x:tA):xA:=⟨H.next,H.t.set b x⟩
def xI (zero:List zA):Nat->List zA
 | 0=>[]
 | n+1=>dD zero (xI zero n)
def Ct(v:zA):Option Nat:=
 match v.asSlice with
 | some s=>some s.2.2.1
 | none=>match v.asStr with
  | some s=>some (aA s)
  | none=>wB (Nat.beq v.tag 5) (some 0)
def mY(l:List Nat):List zA:=l.map fun n=>zA.int .u8 (Int.ofNat n)
def fU(H:xA)(size n:Nat)(v:zA):Option (List zA):=
 match v.asSlice with
 | some s=>ob (qD H s.1) fun c=>c.1.many (n*size) s.2.1
 | none=>match v.asStr with
  | some s=>some (mY (Ab s n))
  | none=>wB (Nat.beq v.tag 5) (some [])
def yJ(C:lA)(H:xA)(b off:Nat)(l:List zA):Option xA:=
 wB (!Nat.blt b C.base) (ob (qD H b) fun c=>
  wB (Nat.ble (off+aA l) c.2.1&&fD zA.one l) (some (setBlk H b (.cells (c.1.setMany l off) c.2.1 c.2.2))))
def Ap(et:mD)(len cap n:Nat)(new:List zA):Bool:=
 Nat.blt (len+n+cap) 1000000000&&Nat.blt ((len+n+cap)*et.bytes) 1000000000&&Nat.blt et.bytes 1000000000 && !Nat.beq et.size 0&&Nat.beq (aA new) (n*et.size)&&Nat.beq (aA et.zero) et.size
def MD(et:mD):Bool:=match et.desc with | .int .u8=>true | _=>false
def jM(e:Nat)(et:mD):Lo:=bif Nat.beq et.size 1&&MD et then .ty e else .sz et.size
def vY(H:xA)(e:Nat)(et:mD)(n:Nat)(new:List zA):Option (zA × xA):=
 bif Nat.beq n 0 then some (.nilslice,H)else
  wB (Ap et 0 0 n new) (some (.slice H.next 0 n n,uF H new (some (jM e et))))
def Ao(C:lA)(H:xA)(et:mD)(n:Nat)(new:List zA)(s:Nat × Nat × Nat × Nat):Option (zA × xA):=
 match new with
 | []=>some (.slice s.1 s.2.1 (s.2.2.1+n) s.2.2.2,H)
 | _::_=>ob (yJ C H s.1 (s.2.1+s.2.2.1*et.size) new) fun H'=>some (.slice s.1 s.2.1 (s.2.2.1+n) s.2.2.2,H')
def Iy(H:xA)(e:Nat)(et:mD)(n:Nat)(new:List zA)(s:Nat × Nat × Nat × Nat)(c:Tr zA):Option (zA × xA):=
 ob (c.many (s.2.2.1*et.size) s.2.1) fun old=>some (.slice H.next 0 (s.2.2.1+n) (s.2.2.1+n),uF H (dD old new) (some (jM e et)))
def Iz(C:lA)(H:xA)(e:Nat)(et:mD)(n:Nat)(new:List zA)(s:Nat × Nat × Nat × Nat)(c:Tr zA)(m:Nat)(lo:Lo):Option (zA × xA):=
 wB (Nat.beq s.2.1 0&&loEq lo (jM e et)&&Nat.ble (s.2.2.1*et.size) m&&Nat.ble m ((s.2.2.1+n)*et.size)&&fD zA.one new && !Nat.blt s.1 C.base)
  (some (.slice H.next 0 (s.2.2.1+n) (s.2.2.1+n),⟨H.next+1,(H.t.del s.1).set H.next (.cells (c.setMany new (s.2.2.1*et.size)) ((s.2.2.1+n)*et.size) (some lo))⟩))
def Aq(C:lA)(H:xA)(e:Nat)(et:mD)(n:Nat)(new:List zA)(s:Nat × Nat × Nat × Nat):Option (zA × xA):=
 wB (!(Nat.beq s.2.1 1&&Nat.beq s.2.2.2 0)) (wB (Ap et s.2.2.1 s.2.2.2 n new) (ob (qD H s.1) fun c=>
  match c.2.2 with
  | none=>Iy H e et n new s c.1
  | some lo=>Iz C H e et n new s c.1 c.2.1 lo))
def iY(C:lA)(H:xA)(ty:mD)(s x:zA):Option (zA × xA):=
 ob ty.desc.asSlice fun e=>ob (C.tys.get e) fun et=>ob (Ct x) fun n=>ob (fU H et.size n x) fun new=>
  match s.asSlice with
  | some s=>bif Nat.ble (s.2.2.1+n) s.2.2.2 then Ao C H et n new s else Aq C H e et n new s
  | none=>wB (Nat.beq s.tag 5) (vY H e et n new)
def isBld(C:lA)(t:Nat):Bool:=
 match ob (C.tys.get t) fun ty=>ob ty.desc.asStruct fun fs=>ob (tD fs 0) fun f=>ob (C.tys.get f.2.1) fun tf=>some tf.desc with
 | some (.ptr e)=>Nat.beq e t
 | _=>false
def aJ(C:lA)(t:Nat):Option Lo:=
 bif isBld C t then some (.ty t)else
 match ob (C.tys.get t) fun ty=>ob ty.desc.asStruct fun fs=>ob (tD fs 0) fun f=>some (isBld C f.2.1)with
 | some true=>some (.ty t)
 | _=>none
def Dc(t:Nat):yR:=fun C _ H=>vL (ob (C.tys.get t) fun ty=>some (.ptr H.next 0,uF H ty.zero (aJ C t)))
def An (t:Nat)(x:Operand):yR:=fun C e H=>vL (ob (ev x e) fun v=>some (.ptr H.next 0,uF H v.cells (aJ C t)))
def Ad (C:lA):Op->Option Lo
 | .alloc t=>aJ C t
 | .box t _=>aJ C t
 | _=>none
def Db(t len:Nat)(parts:Array (Nat × Operand)):yR:=fun C e H=>vL (ob (C.tys.get t) fun ty=>ob ty.desc.asSlice fun el=>ob (C.tys.get el) fun et=>
 wB (Nat.blt (len*et.size) 1000000&&Nat.beq (aA et.zero) et.size) (ob (evp parts.toList e) fun ps=>ob (kL (fun i=>some (i*et.size,et.size)) ps (xI et.zero len)) fun l=>some (.slice H.next 0 len len,uF H l none)))
def Nf(t:Nat)(a x:Operand):yR:=fun C e H=>vL (ob (C.tys.get t) fun ty=>ob (ev a e) fun a=>ob a.asPtr fun p=>ob (ev x e) fun v=>
 let l:=v.cells
 wB (Nat.beq (aA l) ty.size) (ob (yJ C H p.1 p.2 l) fun H'=>some (pD,H')))
def Nh(r:Option Operand):yR:=fun _ _ H=>
 match r with
 | none=>.val (.map H.next) (newBlk H (.map []))
 | some _=>.fail
def Da(t:Nat)(m k x:Operand):yR:=fun C e H=>vL (ob (C.tys.get t) fun ty=>ob ty.desc.asMap fun ke=>ob (C.tys.get ke.1) fun kty=>wB (mU C kty)
 (ob (ev m e) fun m=>ob m.asMap fun b=>wB (!Nat.blt b C.base) (ob (fK H b) fun l=>ob (ev k e) fun k=>wB (wS C kty k) (ob (ev x e) fun v=>ob (kN k v l) fun l'=>some (pD,setBlk H b (.map l'))))))
def AI(t:Nat)(l c:Operand):yR:=fun C e H=>vL (ob (C.tys.get t) fun ty=>ob ty.desc.asSlice fun el=>ob (C.tys.get el) fun et=>
 ob (ev l e) fun l=>ob l.asNat fun l=>ob (ev c e) fun c=>ob c.asNat fun c=>
  wB (Nat.ble l c&&Nat.blt c 1000000&&Nat.blt (c*et.bytes) 1000000000&&Nat.beq (aA et.zero) et.size) (some (.slice H.next 0 l c,uF H (xI et.zero c) none)))
def wY(s d:Nat)(x:Operand):yR:=fun C e H=>
 match oP s d x C e H with
 | some v=>.val v H
 | none=>vL (ob (C.tys.get s) fun _=>ob (C.tys.get d) fun ty=>ob ty.desc.asSlice fun el=>ob (C.tys.get el) fun et=>ob et.desc.asInt fun k=>wB (zN k .u8) (ob (ev x e) fun v=>ob v.asStr fun l=>
   some (.slice H.next 0 (aA l) (aA l),uF H (mY l) (some (.ty el)))))
def Ng(x:Operand):yR:=fun _ e _=>jZ (ob (ev x e) fun v=>ob v.asIface fun p=>some (.panic (.iface p.1 p.2)))
def nR(f:Operand)(args:Array Operand)(e:vD):Option (AFn × List zA × List zA):=
 ob (ev f e) fun v=>ob v.asFunc fun p=>ob (dN args.toList e) fun as=>some (p.1,dD p.2.1 as,p.2.2)
def So(c:Call):Callee->HB
 | .value f=>⟨fun _ e _=>jZ (ob (nR f c.args e) fun p=>some (.defer ⟨some p.1,0,dD p.2.1 p.2.2⟩))⟩
 | _=>⟨fun _ _ _=>.fail⟩
def hDefer(c:Call):HB:=So c c.callee
def rL(g:List zA->xA->Option zA):List zA->xA->Option (zA × xA):=fun args H=>ob (g args H) fun v=>some (v,H)
def Jl(_:lA)(H:xA)(args:List zA)(f:Nat):Option (List zA->xA->Option (zA × xA))->bJ
 | some g=>match g args H with
  | some p=>.val p.1 p.2
  | none=>.fail
 | none=>.enter f args
def PY(l:Nat)(args:List zA):List zA->bJ
 | []=>.round l args
 | _::_=>.fail
def zn1(C:lA)(H:xA)(args cap:List zA):AFn->bJ
 | .func f=>Jl C H (dD args cap) f (C.prims.get f)
 | .yld l=>PY l args cap
def Fx(f:Operand)(args:Array Operand):yR:=fun C e H=>jZ (ob (nR f args e) fun p=>some (zn1 C H p.2.1 p.2.2 p.1))
def Ix(c:Call):yR:=fun C e H=>vL (ob (tD c.argTypes.toList 0) fun t=>ob (C.tys.get t) fun ty=>ob (tD c.argTypes.toList 1) fun u=>ob (C.tys.get u) fun uty=>
 wB (!Nat.beq uty.desc.tag 1) (ob (two c e) fun p=>iY C H ty p.1 p.2))
def zmz:yR:=fun _ _ _=>.fail
def zf0:yR:=fun _ _ _=>.recover
def zf1(c:Call):Builtin->HB
 | .append=>⟨Ix c⟩
 | .len=>⟨lv (mQ c)⟩
 | .max=>⟨lv (aV c)⟩
 | .min=>⟨lv (bV c)⟩
 | .recover=>⟨zf0⟩
 | _=>⟨zmz⟩
def Iw(c:Call):Callee->HB
 | .value f=>⟨Fx f c.args⟩
 | .builtin b=>zf1 c b
 | _=>⟨zmz⟩
def hCall(c:Call):HB:=Iw c c.callee
def lvB (b:LB):HB:=⟨lv b.f⟩
def kE:Op->HB
 | .move x=>⟨lv (pP x)⟩
 | .assign x=>⟨lv (pP x)⟩
 | .pick c a b=>⟨lv (Mv c a b)⟩
 | .load t a=>⟨lv (xW t a)⟩
 | .nilCheck x=>⟨lv (Ag x)⟩
 | .binOp op t x y _=>⟨lv (rW op t x y)⟩
 | .unOp op _ x=>⟨lv (lUn op x)⟩
 | .makeInterface t x=>⟨lv (Cu t x)⟩
 | .makeFunc fn a b=>lvB (Cv fn a b)
 | .slice t x lo hi mx=>lvB (Mt t x lo hi mx)
 | .fieldAddr s x f=>⟨lv (tW s x f)⟩
 | .field t x f=>⟨lv (Cw t x f)⟩
 | .indexAddr t x i=>⟨lv (wW t x i)⟩
 | .index t x i=>⟨lv (vW t x i)⟩
 | .extract t i=>⟨lv (sW t i)⟩
 | .build t ps=>⟨lv (zY t ps)⟩
 | .typeAssert x _ u ok=>⟨lv (qW x u ok)⟩
 | .lookup t x i ok=>⟨lv (yW t x i ok)⟩
 | .convert s d x=>⟨wY s d x⟩
 | .alloc t=>⟨Dc t⟩
 | .box t x=>⟨An t x⟩
 | .buildSlice t len ps=>⟨Db t len ps⟩
 | .store t a x=>⟨Nf t a x⟩
 | .makeMap _ r=>⟨Nh r⟩
 | .insert t m k x=>⟨Da t m k x⟩
 | .mapUpdate t m k x=>⟨Da t m k x⟩
 | .makeSlice t l c=>⟨AI t l c⟩
 | .panic x=>⟨Ng x⟩
 | .defer c=>hDefer c
 | .call c=>hCall c
 | _=>⟨zmz⟩
structure GB where f:Tm->Option Bool
def zke(_:Tm):Option Bool:=some true
def Kp(d:Option Nat)(w:Bool)(tm:Tm):Option Bool:=
 ob d fun d=>ob (tm.get d) fun v=>match v.asBool with
  | some b=>some (bEq b w)
  | none=>some false
def Kq(g:Option (Nat × Bool))(all:Array Oper):GB:=
 match g with
 | none=>⟨zke⟩
 | some jw=>⟨Kp (ob (tD all.toList jw.1) fun o=>o.dst) jw.2⟩
def kF(g:Option (Nat × Bool))(all:Array Oper)(tm:Tm):Option Bool:=(Kq g all).f tm
structure PB where f:Nat->Tm->zA->Tm
def Hz(d n:Nat)(tm:Tm)(v:zA):Tm:=bif Nat.blt d n then tm.set d v else tm
def putNo(_:Nat)(tm:Tm)(_:zA):Tm:=tm
def putB (dst:Option Nat):PB:=
 match dst with
 | some d=>⟨Hz d⟩
 | none=>⟨putNo⟩
def putA (n:Nat)(tm:Tm)(dst:Option Nat)(v:zA):Tm:=(putB dst).f n tm v
def sV.running:sV->Bool | .run=>true | _=>false
def qE.blockId:qE->Option Nat | .inBlock id=>some id | _=>none
def lT(id:Nat):List qE->Option (List qE)
 | []=>none
 | x::k=>match x.blockId with
  | some i=>bif Nat.beq i id then some k else lT id k
  | none=>lT id k
def zjp(all:Array Oper)(rest:List Oper)(k:List qE)(tm:Tm)(R:jJ)(v:zA):Option wC:=
 match rest with
 | o::rest=>some ⟨.ops all rest::k,putA R.n tm o.dst v,R⟩
 | []=>none
def AU(all:Array Oper)(old:Tm)(olds:List (Nat × List Nat))(stages:List vG)(k:List qE)(tm:Tm)(R:jJ)(v:zA):Option wC:=
 match stages with
 | st::stages=>ob (tD all.toList st.heavy) fun o=>some ⟨.reg all old olds (⟨all.size,st.lights,st.again⟩::stages)::k,putA R.n tm o.dst v,R⟩
 | []=>none
def zf7(l:Nat)(k:List qE)(tm:Tm)(R:jJ)(_:zA):Option wC:=some ⟨.endRange l::k,tm,R⟩
def zf8(k:List qE)(tm:Tm)(R:jJ)(_:zA):Option wC:=some ⟨k,tm,R⟩
def zm7(_:List qE)(_:Tm)(_:jJ)(_:zA):Option wC:=none
def Sx:qE->List qE->Tm->jJ->zA->Option wC
 | .ops all rest=>zjp all rest
 | .reg all old olds stages=>AU all old olds stages
 | .inRange l=>zf7 l
 | .beginRound=>zf8
 | _=>zm7
def pH(fr:wC)(v:zA):Option wC:=
 match fr.todo with
 | []=>none
 | x::k=>bif fr.R.mode.running then Sx x k fr.tm fr.R v else none
def eJ(C:lA)(f:Nat)(args:List zA)(deferred:Bool):Option wC:=
 ob (C.fns.get f) fun fn=>ob fn.body fun c=>ob (C.ks.get f) fun k=>wB (Nat.ble (aA args) k&&Nat.ble (aA args) fn.ntmps) (some ⟨[.code c],⟨k,Tr.ofList args,[]⟩,⟨f,fn.ntmps,[],.run,deferred,none⟩⟩)
def mZ(n:Nat):List Nat->List zA->Tm->Option (Tm)
 | [],[],tm=>some tm
 | p::ps,a::as,tm=>mZ n ps as (putA n tm (some p) a)
 | _,_,_=>none
def Vf:List Operand->List Nat
 | []=>[]
 | .tmp t::l=>t::Vf l
 | _::l=>Vf l
def jH(o:Op):List Nat:=Vf o.operands.toList
def vF(i:Nat):List (Nat × List Nat)->List Nat
 | []=>[]
 | x::r=>bif Nat.beq i x.1 then x.2 else vF i r
def same:Nat->zA->zA->Bool
 | _,.bool a,.bool b=>bEq a b
 | _,.int j a,.int k b=>zN j k&&kB a b
 | _,.str a,.str b=>wG a b
 | _,.nilptr,.nilptr=>true
 | _,.ptr a b,.ptr c d=>Nat.beq a c&&Nat.beq b d
 | _,.nilslice,.nilslice=>true
 | _,.slice a b c d,.slice e f g h=>Nat.beq a e&&Nat.beq b f&&Nat.beq c g&&Nat.beq d h
 | _,.nilmap,.nilmap=>true
 | _,.map a,.map b=>Nat.beq a b
 | _,.nilfunc,.nilfunc=>true
 | _,.niliface,.niliface=>true
 | d+1,.agg a,.agg b=>sames d a b
 | d+1,.tup a,.tup b=>sames d a b
 | _,_,_=>false
where
 sames (d:Nat):List zA->List zA->Bool
  | [],[]=>true
  | a::x,b::y=>same d a b&&sames d x y
  | _,_=>false
def zS(C:lA)(H:xA)(all:Array Oper)(n:Nat)(old:Tm)(olds:List (Nat × List Nat)):List Nat->Tm->Option (Tm)
 | [],tm=>some tm
 | i::l,tm=>ob (tD all.toList i) fun o=>ob (kF o.guard all tm) fun w=>ob (bif w then(qF o.op).f C (.mixed tm old (vF i olds) (jH o.op)) H else some pD) fun v=>
   zS C H all n old olds l (putA n tm o.dst v)
def Dp(C:lA)(H:xA)(all:Array Oper)(old:Tm)(olds:List (Nat × List Nat))(tm:Tm):List Nat->Bool
 | []=>true
 | i::l=>match (ob (tD all.toList i) fun o=>ob o.dst fun d=>ob (kF o.guard all tm) fun w=>bif w then(ob ((qF o.op).f C (.mixed tm old (vF i olds) (jH o.op)) H) fun v=>ob (tm.get d) fun u=>some (same 10 v u))else some true)with
  | some true=>Dp C H all old olds tm l
  | _=>false
def sV.chain:sV->Option (List Dy) | .panicking c=>some c | _=>none
def Jf:List Oper->Tr zA->Tr zA
 | [],t=>t
 | o::l,t=>match o.dst with
  | some j=>Jf l (t.del j)
  | none=>Jf l t
def Mr(todo:List qE)(tm:Tm):Tm:=
 match todo with
 | .reg all _ _ _::_=>⟨tm.k,Jf all.toList tm.v,[]⟩
 | _=>tm
def gV(fr:wC)(l:List Dy):wC:=
 ⟨[],Mr fr.todo fr.tm,⟨fr.R.fn,fr.R.n,fr.R.defers,.panicking (match fr.R.mode.chain with | some c=>dD l c | none=>l),fr.R.deferred,fr.R.roundOf⟩⟩
def pL(x:Option wR)(why:Nat):lF:=
 match x with
 | some s=>.next s
 | none=>.fail why
def fI(H:xA)(l:Nat):Option fM:=wB (Nat.ble (nat_lit 256) l) (ob (H.t.get l) tA.asLoop)
def gW(H:xA)(l:Nat):Option (Option (List vH)):=wB (Nat.ble (nat_lit 256) l) (ob (H.t.get l) tA.asDeferred)
def Fa (v:zA)(H':xA)(_:lA)(fr:wC)(cs:List wC)(_:xA):lF:=pL (ob (pH fr v) fun fr=>some ⟨fr,cs,H'⟩) 1
def Lv(f:Nat)(args:List zA)(C:lA)(fr:wC)(cs:List wC)(H:xA):lF:=pL (ob (eJ C f args false) fun g=>some ⟨g,fr::cs,H⟩) 2
def Lt(l:Nat)(args:List zA)(_:lA)(fr:wC)(cs:List wC)(H:xA):lF:=
 pL (ob (fI H l) fun r=>ob (mZ r.n r.params args r.tm) fun tm=>some ⟨⟨[.code r.assign,.beginRound,.code r.body],tm,⟨r.fn,r.n,[],.run,false,some l⟩⟩,fr::cs,H⟩) 3
def Yb(d:vH)(_:lA)(fr:wC)(cs:List wC)(H:xA):lF:=
 pL (match fr.R.roundOf with
  | none=>ob (pH fr pD) fun g=>some ⟨⟨g.todo,g.tm,⟨g.R.fn,g.R.n,d::g.R.defers,g.R.mode,g.R.deferred,g.R.roundOf⟩⟩,cs,H⟩
  | some _=>none) 4
def zid(v:zA)(_:lA)(fr:wC)(cs:List wC)(H:xA):lF:=.next ⟨gV fr [⟨v,false⟩],cs,H⟩
def Lu(_:lA)(fr:wC)(cs:List wC)(H:xA):lF:=
 pL (match fr.R.roundOf,fr.R.deferred,cs with
  | none,true,c::rest=>match c.R.mode with
   | .panicking (⟨v,false⟩::older)=>ob (pH fr v) fun fr=>some ⟨fr,⟨c.todo,c.tm,⟨c.R.fn,c.R.n,c.R.defers,.panicking (⟨v,true⟩::older),c.R.deferred,c.R.roundOf⟩⟩::rest,H⟩
   | .panicking _=>none
   | _=>ob (pH fr .niliface) fun fr=>some ⟨fr,cs,H⟩
  | _,_,_=>none) 5
def rFail(_:lA)(_:wC)(_:List wC)(_:xA):lF:=.fail 6
def Js:bJ->lA->wC->List wC->xA->lF
 | .val v H'=>Fa v H'
 | .enter f args=>Lv f args
 | .round l args=>Lt l args
 | .defer d=>Yb d
 | .panic v=>zid v
 | .recover=>Lu
 | .fail=>rFail
def oR(C:lA)(H:xA)(tm:Tm):ResultVar->Option zA
 | .tmp t=>tm.get t
 | .cell a t=>ob (ob (tm.get a) zA.asPtr) fun p=>ob (C.tys.get t) fun ty=>ob (qD H p.1) fun c=>aR ty c.1 p.2
def jV(C:lA)(H:xA)(tm:Tm)(l:List ResultVar):Option (List zA):=aF (oR C H tm) l
def Xv(jump:Option Code):Bool:=
 match jump with
 | none=>true
 | some .ret=>true
 | _=>false
def lZ(fr:wC)(m:sV):wC:=⟨fr.todo,fr.tm,⟨fr.R.fn,fr.R.n,fr.R.defers,m,fr.R.deferred,fr.R.roundOf⟩⟩
def rT(jump:Option Code)(_:lA)(fr:wC)(cs:List wC)(H:xA):lF:=
 pL (match fr.R.roundOf with
  | none=>wB (Xv jump) (some ⟨lZ fr .returning,cs,H⟩)
  | some l=>ob (fI H l) fun r=>match cs with
   | c::rest=>wB (!fr.R.deferred) <| ob (pH c (.bool jump.isNone)) fun c=>some ⟨c,rest,setBlk H l (.loop ⟨if jump.isNone then .ready else .done,jump,r.fn,r.n,r.tm,r.params,r.assign,r.body,r.defers⟩)⟩
   | []=>none) 7
abbrev tN:=lA->List qE->Tm->jJ->List wC->xA->lF
structure XB where f:tN
def xGo (todo:List qE)(tm:Tm)(R:jJ)(cs:List wC)(H:xA):lF:=.next ⟨⟨todo,tm,R⟩,cs,H⟩
def Eb:tN:=fun _ k tm R cs H=>xGo k tm R cs H
def Kk(c:Operand)(x y:Code):tN:=fun _ k tm R cs H=>
 match ob (ev c (.now tm)) zA.asBool with
 | some b=>xGo (.code (bif b then x else y)::k) tm R cs H
 | none=>.fail 8
def zhh(id:Nat)(c:Code):tN:=fun _ k tm R cs H=>xGo (.code c::.inBlock id::k) tm R cs H
def zj9(c:Code):tN:=fun _ k tm R cs H=>xGo (.code c::.inLoop c::k) tm R cs H
def xScope(c:Code):tN:=fun _ k tm R cs H=>xGo (.code c::.inScope c::k) tm R cs H
def Bu(id:Nat):tN:=fun C k tm R cs H=>
 match lT id k with
 | some k'=>xGo k' tm R cs H
 | none=>rT (some (.exit id)) C ⟨.code (.exit id)::k,tm,R⟩ cs H
def xRet:tN:=fun C k tm R cs H=>rT (some .ret) C ⟨.code .ret::k,tm,R⟩ cs H
def zka:tN:=fun _ _ _ _ _ _=>.fail 9
def Gn(e:Edge):Bool:=
 match e.ground with
 | .textOnly _=>false
 | .gcOnly _=>false
 | _=>true
def tb (m i:Nat):Bool:=Nat.beq (Nat.mod (Nat.shiftRight m i) (nat_lit 2)) (nat_lit 1)
def Bj(i:Nat):Nat:=Nat.shiftLeft (nat_lit 1) i
def tJ (t:Tr Nat)(i:Nat):Nat:=
 match t.get i with
 | some m=>m
 | none=>0
def Im(t:Tr Nat):List Edge->Nat
 | []=>0
 | e::l=>bif Gn e then Nat.lor (Nat.lor (Bj e.on) (tJ t e.on)) (Im t l)else Im t l
def zn7:List Oper->Nat->Tr Nat->Tr Nat
 | [],_,t=>t
 | o::r,i,t=>zn7 r (i+1) (t.set i (Im t o.after.toList))
def Rg:List Oper->Nat->Bool
 | [],_=>true
 | o::r,i=>bif fD (fun e=>bif Gn e then Nat.blt e.on i else true) o.after.toList then Rg r (i+1)else false
def wrOf:List Oper->Nat->Tr Nat->Option (Tr Nat)
 | [],_,t=>some t
 | o::r,i,t=>match o.dst with
  | none=>wrOf r (i+1) t
  | some d=>match t.get d with
   | none=>wrOf r (i+1) (t.set d i)
   | some _=>none
def tE{α:Type}:Option α->Bool | none=>true | some _=>false
def Yo(wr anc:Tr Nat)(i:Nat)(olds:List Nat)(t:Nat):Bool:=
 match wr.get t with
 | none=>true
 | some j=>bif iH t olds then(bif Nat.beq j i then true else tb (tJ anc j) i)else tb (tJ anc i) j
def Yp(anc:Nat):Option (Nat × Bool)->Bool
 | none=>true
 | some g=>tb anc g.1
def Re(wr anc:Tr Nat)(olds:List (Nat × List Nat)):List Oper->Nat->Bool
 | [],_=>true
 | o::r,i=>bif Yp (tJ anc i) o.guard then(bif fD (Yo wr anc i (vF i olds)) (jH o.op)then Re wr anc olds r (i+1)else false)else false
def xU:Op->Bool
 | .move _=>true
 | .assign _=>true
 | .pick _ _ _=>true
 | .nilCheck _=>true
 | .binOp _ _ _ _ _=>true
 | .unOp _ _ _=>true
 | .makeInterface _ _=>true
 | .makeFunc _ _ _=>true
 | .fieldAddr _ _ _=>true
 | .field _ _ _=>true
 | .indexAddr _ _ _=>true
 | .index _ _ _=>true
 | .extract _ _=>true
 | .build _ _=>true
 | .typeAssert _ _ _ _=>true
 | _=>false
def tZ (D:Nat)(o:Oper):Bool:=fD (fun e=>bif Gn e then tb D e.on else true) o.after.toList
def Rf(h D:Nat):List Oper->Nat->Bool
 | [],_=>true
 | o::r,i=>bif (bif tb D i then true else bif Nat.beq i h then true else !tZ D o)then Rf h D r (i+1)else false
def lL:Op->Bool
 | .alloc _=>true
 | .box _ _=>true
 | .buildSlice _ _ _=>true
 | _=>false
def Rj(m D:Nat)(again:List Nat):List Oper->Nat->Bool
 | [],_=>true
 | o::r,i=>bif (bif tb D i then(bif tb m i then true else bif xU o.op then true else bif lL o.op then true else iH i again)else true)then Rj m D again r (i+1)else false
def fX(ops:List Oper)(i D:Nat):Option Nat:=
 ob (tD ops i) fun o=>wB (bif tb D i then false else tZ D o) (some (Nat.lor D (Bj i)))
def vQ(ops:List Oper):List Nat->Nat->Option Nat
 | [],D=>some D
 | i::l,D=>ob (fX ops i D) fun D=>vQ ops l D
def Rh(D:Nat):List Oper->Nat->Bool
 | [],_=>true
 | _::r,i=>bif tb D i then Rh D r (i+1)else false
def zmx:Option Oper->Bool
 | some o=>lL o.op
 | none=>false
def okG (ops:List Oper)(D:Nat):List Nat->Nat->Option Nat
 | [],E=>some E
 | i::l,E=>ob (tD ops i) fun o=>wB (!tb E i&&tZ D o&&tE o.dst) (okG ops D l (Nat.lor E (Bj i)))
def Rd(anc:Tr Nat)(D1:Nat)(G:List Nat):List Oper->Nat->Bool
 | [],_=>true
 | o::r,i=>bif (bif tb D1 i then true else bif fD (fun g=>tb (tJ anc i) g) G then true else !tZ D1 o)then Rd anc D1 G r (i+1)else false
def Nb(o:Op):Bool:=
 match o with
 | .call c=>(match c.callee with
  | .builtin .len=>true
  | _=>false)
 | _=>false
def Ri(anc:Tr Nat)(D:Nat)(G:List Nat):List Oper->Nat->Bool
 | [],_=>true
 | o::r,i=>bif (bif tb D i then(bif xU o.op then true else bif lL o.op then true else bif Nb o.op then true else fD (fun g=>tb (tJ anc g) i) G)else true)then Ri anc D G r (i+1)else false
def II(ops:List Oper)(anc:Tr Nat)(D:Nat)(st:vG):Option Nat:=
 ob (okG ops D st.again D) fun D1=>wB (Rd anc D1 st.again ops 0&&Ri anc D st.again ops 0) (vQ ops st.lights D1)
def oJ(ops:List Oper)(anc:Tr Nat):List vG->Nat->Bool
 | [],D=>Rh D ops 0
 | st::r,D=>bif Nat.blt (aA ops) st.heavy then(bif Nat.blt (aA ops+aA ops) st.heavy then(match II ops anc D st with
   | some D=>oJ ops anc r D
   | none=>false)else bif zmx (tD ops (Nat.sub st.heavy (Nat.succ (aA ops))))then
   (match ob (fX ops (Nat.sub st.heavy (Nat.succ (aA ops))) D) fun D=>vQ ops st.lights D with
   | some D=>oJ ops anc r D
   | none=>false)else false)else bif Rf st.heavy D ops 0 then(bif Rj (tJ anc st.heavy) D st.again ops 0 then
   (match ob (fX ops st.heavy D) fun D=>vQ ops st.lights D with
   | some D=>oJ ops anc r D
   | none=>false)else false)else false
def Yn(ops:List Oper)(p:Plan):Bool:=
 bif Rg ops 0 then
  (match wrOf ops 0 .leaf with
  | none=>false
  | some wr=>
   (fun anc=>bif Re wr anc p.olds ops 0 then(match vQ ops p.first 0 with
    | some D=>oJ ops anc p.stages D
    | none=>false)else false) (zn7 ops 0 .leaf))else false
structure OkB where b:Bool
def tU(all:Array Oper)(p:Plan):Bool:=(OkB.mk (Yn all.toList p)).b
def Kj(id:Nat)(all:Array Oper):tN:=fun C k tm R cs H=>
 pL (ob (ob (C.plans.get R.fn) fun t=>t.get id) fun p=>wB (tU all p) <| ob (zS C H all R.n tm.cut p.olds p.first tm.cut) fun tm'=>some ⟨⟨.reg all tm.cut p.olds p.stages::k,tm',R⟩,cs,H⟩) 10
def bJ.asVal:bJ->Option (zA × xA) | .val v H=>some (v,H) | _=>none
def zM(C:lA)(all:Array Oper)(k:List qE)(R:jJ)(cs:List wC)(l:List Oper):Tm->xA->lF:=
 List.rec (motive:=fun _=>Tm->xA->lF) (fun tm H=>xGo k tm R cs H)
  (fun o rest g tm H=>
   match kF o.guard all tm with
   | some w=>Bool.rec (motive:=fun _=>lF) (g (putA R.n tm o.dst pD) H)
     (let r:=(kE o.op).f C (.now tm) H
     match r.asVal with
     | some p=>g (putA R.n tm o.dst p.1) p.2
     | none=>Js r C ⟨.ops all (o::rest)::k,tm,R⟩ cs H) w
   | none=>.fail 20) l
def xOps (all:Array Oper)(rest:List Oper):tN:=fun C k tm R cs H=>zM C all k R cs rest tm H
def zj8(id:Nat)(all:Array Oper)(draw:Bool):XB:=
 match draw with
 | true=>⟨Kj id all⟩
 | false=>⟨fun C k tm R cs H=>zM C all k R cs all.toList tm.cut H⟩
def Ox(all:Array Oper)(old:Tm)(olds:List (Nat × List Nat))(st:vG)(stages:List vG)(o:Oper):tN:=fun C k tm R cs H=>
 match kF o.guard all tm with
 | some w=>Js (bif w then(kE o.op).f C (.mixed tm old (vF st.heavy olds) (jH o.op)) H else .val pD H) C ⟨.reg all old olds (st::stages)::k,tm,R⟩ cs H
 | none=>.fail 21
def Kh(all:Array Oper)(old:Tm)(olds:List (Nat × List Nat))(st:vG)(stages:List vG):tN:=fun C k tm R cs H=>
 pL (wB (Dp C H all old olds tm st.again) (ob (zS C H all R.n old olds st.lights tm) fun tm=>some ⟨⟨.reg all old olds stages::k,tm,R⟩,cs,H⟩)) 11
def Oz(all:Array Oper)(old:Tm)(olds:List (Nat × List Nat))(st:vG)(stages:List vG)(i:Nat):tN:=fun C k tm R cs H=>
 pL (ob (tD all.toList i) fun o=>ob (kF o.guard all tm) fun w=>wB (w&&tE (Ad C o.op)) (ob ((kE o.op).f C (.mixed tm old (vF i olds) (jH o.op)) H).asVal fun p=>
  ob (zS C p.2 all R.n old olds st.lights (putA R.n tm o.dst p.1)) fun tm'=>some ⟨⟨.reg all old olds stages::k,tm',R⟩,cs,p.2⟩)) 23
inductive qN where
 | store (t:Nat) (a v:zA)
 | upd (t:Nat) (m k v:zA)
inductive RE where
 | st (b off:Nat) (l:List zA)
 | up (b:Nat) (k v:zA)
def Ay(op:Op)(e:vD):Option qN:=
 match op with
 | .store t a x=>ob (ev a e) fun a=>ob (ev x e) fun v=>some (.store t a v)
 | .mapUpdate t m k x=>ob (ev m e) fun m=>ob (ev k e) fun k=>ob (ev x e) fun v=>some (.upd t m k v)
 | .insert t m k x=>ob (ev m e) fun m=>ob (ev k e) fun k=>ob (ev x e) fun v=>some (.upd t m k v)
 | _=>none
def iV (C:lA)(e:qN):Option RE:=
 match e with
 | .store t a v=>ob (C.tys.get t) fun ty=>ob a.asPtr fun p=>wB (Nat.beq (aA v.cells) ty.size) (some (.st p.1 p.2 v.cells))
 | .upd t m k v=>ob (C.tys.get t) fun ty=>ob ty.desc.asMap fun ke=>ob (C.tys.get ke.1) fun kty=>wB (mU C kty&&wS C kty k) (ob m.asMap fun b=>some (.up b k v))
def RE.blk:RE->Nat
 | .st b _ _=>b
 | .up b _ _=>b
def IS(a b:zA):Bool:=
 match tI a b with
 | some r => !r
 | none=>false
def CB(a b:RE):Bool:=bif Nat.beq a.blk b.blk then(match a with
 | .st _ _ _=>false
 | .up _ k _=>(match b with
  | .st _ _ _=>false
  | .up _ k' _=>IS k k'))else true
def Uf:List RE->Bool
 | []=>true
 | a::l=>fD (CB a) l&&Uf l
def Bn(C:lA)(H:xA)(e:RE):Option xA:=
 match e with
 | .st b off l=>yJ C H b off l
 | .up b k v=>wB (!Nat.blt b C.base) (ob (fK H b) fun m=>some (setBlk H b (.map (dD m [(k,v)]))))
def Hw(C:lA)(H:xA)(e:RE):Bool:=
 match e with
 | .st b off l => !tE (yJ C H b off l)
 | .up b _ _ => !Nat.blt b C.base&&(match fK H b with
  | some []=>true
  | _=>false)
def Gr(C:lA):List RE->xA->Option xA
 | [],H=>some H
 | e::l,H=>ob (Bn C H e) fun H=>Gr C l H
def Ar(C:lA)(es:List qN)(H:xA):Option xA:=ob (aF (iV C) es) fun rs=>wB (Uf rs&&fD (Hw C H) rs) (Gr C rs H)
def rY(all:Array Oper)(old:Tm)(olds:List (Nat × List Nat))(tm:Tm)(i:Nat):Option qN:=
 ob (tD all.toList i) fun o=>ob (kF o.guard all tm) fun w=>wB w (Ay o.op (.mixed tm old (vF i olds) (jH o.op)))
def Rz(C:lA)(o:Oper):Bool:=
 match o.op with
 | .call c=>(match c.callee with
  | .builtin .len=>(match ob (tD c.argTypes.toList 0) fun t=>C.tys.get t with
   | some ty => !Nat.beq ty.desc.tag 6
   | none=>false)
  | _=>true)
 | _=>true
def aX(C:lA)(all:Array Oper):Bool:=fD (Rz C) all.toList
def Jd(all:Array Oper)(old:Tm)(olds:List (Nat × List Nat))(tm:Tm)(l:List Nat):Option (List qN):=aF (rY all old olds tm) l
def Oy(all:Array Oper)(old:Tm)(olds:List (Nat × List Nat))(st:vG)(stages:List vG):tN:=fun C k tm R cs H=>
 pL (wB (aX C all) (ob (Jd all old olds tm st.again) fun es=>ob (Ar C es H) fun H'=>ob (zS C H' all R.n old olds st.lights tm) fun tm'=>some ⟨⟨.reg all old olds stages::k,tm',R⟩,cs,H'⟩)) 24
def dS (all:Array Oper)(old:Tm)(olds:List (Nat × List Nat))(stages:List vG):tN:=
 match stages with
 | []=>Eb
 | st::stages=>match tD all.toList st.heavy with
  | some o=>Ox all old olds st stages o
  | none=>bif Nat.blt (aA all.toList) st.heavy then(bif Nat.blt (aA all.toList+aA all.toList) st.heavy then Oy all old olds st stages else Oz all old olds st stages (Nat.sub st.heavy (Nat.succ (aA all.toList))))else Kh all old olds st stages
def iZ(C:lA)(l:Nat)(f:zA):Option wC:=
 ob f.asFunc fun p=>match p.1 with
  | .func g=>match C.prims.get g with
   | none=>eJ C g (dD p.2.1 (.func (.yld l) [] []::p.2.2)) false
   | some _=>none
  | .yld _=>none
def Kg(f:Operand)(params:Array Nat)(assign body:Code):tN:=fun C k tm R cs H=>
 pL (ob (ev f (.now tm)) fun v=>match R.roundOf with
  | none=>
   let r:=H.next
   let l:=r+1
   ob (iZ C l v) fun h=>
    some ⟨h,⟨.inRange l::k,tm,⟨R.fn,R.n,⟨none,r,[]⟩::R.defers,R.mode,R.deferred,R.roundOf⟩⟩::cs,
     newBlk (newBlk H (.deferred (some []))) (.loop ⟨.ready,none,R.fn,R.n,tm,params.toList,assign,body,r⟩)⟩
  | some outer=>ob (fI H outer) fun o=>
   let l:=H.next
   ob (iZ C l v) fun h=>
    some ⟨h,⟨.inRange l::k,tm,R⟩::cs,newBlk H (.loop ⟨.ready,none,R.fn,R.n,tm,params.toList,assign,body,o.defers⟩)⟩) 12
def LoopState.tag:LoopState->Nat | .ready=>0 | .busy=>1 | .done=>2 | .exhausted=>3
def Kl:tN:=fun _ k tm R cs H=>
 pL (ob R.roundOf fun l=>ob (fI H l) fun r=>wB (Nat.beq (LoopState.tag r.state) 0)
  (some ⟨⟨k,tm,R⟩,cs,setBlk H l (.loop ⟨.busy,r.pending,r.fn,r.n,r.tm,r.params,r.assign,r.body,r.defers⟩)⟩)) 13
def Ki(l:Nat):tN:=fun _ k tm R cs H=>
 pL (ob (fI H l) fun r=>wB (!Nat.beq (LoopState.tag r.state) 1)
  (some ⟨⟨(match r.pending with | some c=>.code c::k | none=>k),tm,R⟩,cs,setBlk H l (.loop ⟨.exhausted,r.pending,r.fn,r.n,r.tm,r.params,r.assign,r.body,r.defers⟩)⟩)) 14
def zkb:Code->XB
 | .skip=>⟨Eb⟩
 | .region id ops d=>zj8 id ops d
 | .seq a b=>⟨fun C k tm R cs H=>(zkb a).f C (.code b::k) tm R cs H⟩
 | .cond c x y=>⟨Kk c x y⟩
 | .block id c=>⟨zhh id c⟩
 | .loop c=>⟨zj9 c⟩
 | .rangeFunc f ps a b=>⟨Kg f ps a b⟩
 | .exit id=>⟨Bu id⟩
 | .scope c=>⟨xScope c⟩
 | .label _=>⟨Eb⟩
 | .goto _=>⟨zka⟩
 | .ret=>⟨xRet⟩
 | .refuse _=>⟨zka⟩
def xItem:qE->XB
 | .code c=>zkb c
 | .inBlock _=>⟨Eb⟩
 | .inLoop c=>⟨zj9 c⟩
 | .inScope _=>⟨Eb⟩
 | .ops all rest=>⟨xOps all rest⟩
 | .reg all old olds stages=>⟨dS all old olds stages⟩
 | .inRange _=>⟨zka⟩
 | .endRange l=>⟨Ki l⟩
 | .beginRound=>⟨Kl⟩
def qS(C:lA)(todo:List qE)(tm:Tm)(R:jJ)(cs:List wC)(H:xA):lF:=
 match todo with
 | []=>rT none C ⟨[],tm,R⟩ cs H
 | x::k=>(xItem x).f C k tm R cs H
def FY(fr:wC)(d:List vH):wC:=⟨fr.todo,fr.tm,⟨fr.R.fn,fr.R.n,d,fr.R.mode,fr.R.deferred,fr.R.roundOf⟩⟩
def En(C:lA)(d:vH)(ds:List vH)(fr:wC)(cs:List wC)(H:xA):lF:=
 pL (match d.fn with
  | none=>ob (gW H d.r) fun l=>ob l fun l=>some ⟨FY fr (dD l ds),cs,setBlk H d.r (.deferred none)⟩
  | some (.func f)=>match C.prims.get f with
   | none=>ob (eJ C f d.args true) fun g=>some ⟨g,FY fr ds::cs,H⟩
   | some _=>none
  | some (.yld _)=>none) 15
def Eo(l:List zA):zA:=
 match l with
 | [v]=>v
 | l=>.tup l
def Em(C:lA)(fr:wC)(cs:List wC)(H:xA):lF:=
 match ob (C.fns.get fr.R.fn) fun fn=>jV C H fr.tm fn.results.toList with
 | none=>.fail 16
 | some l=>
  match cs with
  | []=>bif fr.R.deferred then .fail 17 else bif Nat.beq fr.R.fn C.root then .done (Eo l) H else .fail 22
  | c::rest=>pL (bif fr.R.deferred then
    (match c.R.mode with
    | .panicking (⟨_,true⟩::_)=>some ⟨lZ c .returning,rest,H⟩
    | _=>wB (!c.R.mode.running) (some ⟨c,rest,H⟩))
   else ob (pH c (Eo l)) fun c=>some ⟨c,rest,H⟩) 18
def Po(C:lA)(fr:wC)(cs:List wC)(H:xA):lF:=
 match fr.R.defers with
 | d::ds=>En C d ds fr cs H
 | []=>match fr.R.mode.chain with
  | some chain=>pL (ob (C.fns.get fr.R.fn) fun _=>match cs with | c::rest=>some ⟨gV c chain,rest,H⟩ | []=>none) 19
  | none=>Em C fr cs H
def stepA(C:lA)(s:wR):lF:=
 match s with
 | ⟨⟨todo,tm,R⟩,cs,H⟩=>bif R.mode.running then qS C todo tm R cs H else Po C ⟨todo,tm,R⟩ cs H
def aT(C:lA)(o:lF):lF:=
 match o with
 | .next s=>stepA C s
 | .done v H=>.done v H
 | .fail n=>.fail n
def xT (C:lA)(n:Nat):lF->lF:=
 Nat.rec (motive:=fun _=>lF->lF) (fun o=>aT C o) (fun _ g o=>g (g o)) n
end Go.Am
namespace Go.Am
open Go
theorem sA{α β:Type}{x:Option α}{f:α->Option β}{b:β}:ob x f=some b ↔ ∃a,x=some a/\f a=some b:=by
 cases x with
 | none=>simp[ob]
 | some a=>exact⟨fun h=>⟨a,rfl,h⟩,fun⟨_,h,k⟩=>by cases h;exact k⟩
@[simp] theorem zlo {α β:Type} {f:α->Option β}:ob none f=none:=rfl
@[simp] theorem qA {α β:Type} {a:α} {f:α->Option β}:ob (some a) f=f a:=rfl
theorem vB{α:Type}{b:Bool}{x:Option α}{a:α}:wB b x=some a ↔ b=true/\x=some a:=by
 cases b with
 | false=>simp[wB]
 | true=>simp[wB]
theorem dJ{α:Type}(a b:α)(c:Bool):(Bool.rec (motive:=fun _=>α) a b c:α)=if c=true then b else a:=by cases c<;>rfl
theorem fC{n m:Nat}:(Nat.beq n m=true) ↔ n=m:=⟨Nat.eq_of_beq_eq_true,fun h=>by simp_all⟩
theorem beqf{n m:Nat}:(Nat.beq n m=false) ↔ n≠m:=by
 rw[<- Bool.not_eq_true,fC]
theorem fE{n m:Nat}:(Nat.ble n m=true) ↔ n<=m:=Iff.of_eq Nat.ble_eq
theorem nC{n m:Nat}:(Nat.blt n m=true) ↔ n<m:=Iff.of_eq Nat.ble_eq
def rD{α:Type}(c:Bool)(a b:α):(bif c then a else b)=if c=true then a else b:=by cases c<;>rfl
namespace Tr
variable {α:Type}
theorem get_leaf(n:Nat):(leaf:Tr α).get n=none:=rfl
theorem get_node(l:Tr α)(v:Option α)(r:Tr α)(n:Nat) :
  (node l v r).get n=if n=0 then v else if n%2=1 then l.get (n / 2)else r.get (n / 2-1):=by
 show Bool.rec (motive:=fun _=>Option α) (Bool.rec (motive:=fun _=>Option α) (r.get (n / 2-1)) (l.get (n / 2)) (Nat.beq (n%2) 1)) v (Nat.beq n 0)=_
 grind [dJ,fC]
theorem Rm(f n:Nat)(v:α):mk (f+1) n v=if n=0 then node leaf (some v) leaf else if n%2=1 then node (mk f (n / 2) v) none leaf else node leaf none (mk f (n / 2-1) v):=by
 show Bool.rec (motive:=fun _=>Tr α) (Bool.rec (motive:=fun _=>Tr α) (node leaf none (mk f (n / 2-1) v)) (node (mk f (n / 2) v) none leaf) (Nat.beq (n%2) 1)) (node leaf (some v) leaf) (Nat.beq n 0)=_
 grind [dJ,fC]
def Qj(n:Nat)(v:α):(leaf:Tr α).set n v=mk (n+1) n v:=rfl
theorem lH(l:Tr α)(x:Option α)(r:Tr α)(n:Nat)(v:α) :
  (node l x r).set n v=if n=0 then node l (some v) r else if n%2=1 then node (l.set (n / 2) v) x r else node l x (r.set (n / 2-1) v):=by
 show Bool.rec (motive:=fun _=>Tr α) (Bool.rec (motive:=fun _=>Tr α) (node l x (r.set (n / 2-1) v)) (node (l.set (n / 2) v) x r) (Nat.beq (n%2) 1)) (node l (some v) r) (Nat.beq n 0)=_
 grind [dJ,fC]
theorem zgl(l:Tr α)(x:Option α)(r:Tr α)(n:Nat) :
  (node l x r).del n=if n=0 then node l none r else if n%2=1 then node (l.del (n / 2)) x r else node l x (r.del (n / 2-1)):=by
 show Bool.rec (motive:=fun _=>Tr α) (Bool.rec (motive:=fun _=>Tr α) (node l x (r.del (n / 2-1))) (node (l.del (n / 2)) x r) (Nat.beq (n%2) 1)) (node l none r) (Nat.beq n 0)=_
 grind [dJ,fC]
theorem get_mk(f:Nat):∀(n m:Nat) (v:α),n<f->(mk f n v).get m=if m=n then some v else none:=by
 induction f with
 | zero=>omega
 | succ f ih=>
  grind [Rm,get_node,get_leaf]
theorem get_set(t:Tr α):∀(n m:Nat) (v:α),(t.set n v).get m=if m=n then some v else t.get m:=by
 induction t with
 | leaf=>intro n m v;rw[Qj,get_mk _ _ _ _ (by omega),get_leaf]
 | node l x r ihl ihr=>
  grind [lH,get_node]
def zij:∀(f g n:Nat) (v:α),n<f->n<g->mk f n v=mk g n v:=by
 intro f;induction f with
 | zero=>omega
 | succ f ih=>
  intro g n v h1 h2
  cases g with
  | zero=>omega
  | succ g=>
   rw[Rm,Rm];split
   ·rfl
   ·split
    ·rw[ih g _ v (by omega) (by omega)]
    ·rw[ih g _ v (by omega) (by omega)]
def FT(n:Nat)(v:α):(leaf:Tr α).set n v=if n=0 then node leaf (some v) leaf else if n%2=1 then node (leaf.set (n / 2) v) none leaf else node leaf none (leaf.set (n / 2-1) v):=by
 rw[Qj,Rm];split
 ·rfl
 ·split
  ·rw[Qj,zij n (n / 2+1) _ v (by omega) (by omega)]
  ·rw[Qj,zij n (n / 2-1+1) _ v (by omega) (by omega)]
def TY:∀(s n m:Nat) (x y:α),n+m<=s->n≠m->((leaf:Tr α).set n x).set m y=((leaf:Tr α).set m y).set n x:=by
 intro s;induction s with
 | zero=>omega
 | succ s ih=>
  intro n m x y hs hne;rw[FT n x,FT m y];by_cases h1:n=0
  ·have h2:m≠0:=by omega
   rw[yab h1,yaa h2,lH,yaa h2];split
   ·rw[lH,yab h1]
   ·rw[lH,yab h1]
  ·rw[yaa h1]
   by_cases h2:m=0
   ·rw[yab h2]
    split
    ·rw[lH,yab h2,lH,yaa h1];rename_i h;rw[yab h]
    ·rw[lH,yab h2,lH,yaa h1];rename_i h;rw[yaa h]
   ·rw[yaa h2]
    by_cases h3:n%2=1<;>by_cases h4:m%2=1
    ·rw[yab h3,yab h4,lH,yaa h2,yab h4,lH,yaa h1,yab h3,ih _ _ x y (by omega) (by omega)]
    ·rw[yab h3,yaa h4,lH,yaa h2,yaa h4,lH,yaa h1,yab h3]
    ·rw[yaa h3,yab h4,lH,yaa h2,yab h4,lH,yaa h1,yaa h3]
    ·rw[yaa h3,yaa h4,lH,yaa h2,yaa h4,lH,yaa h1,yaa h3,ih _ _ x y (by omega) (by omega)]
def set_comm(t:Tr α):∀(n m:Nat) (x y:α),n≠m->(t.set n x).set m y=(t.set m y).set n x:=by
 induction t with
 | leaf=>exact fun n m x y h=>TY (n+m) n m x y (ybk _) h
 | node l v r ihl ihr=>
  intro n m x y hne;rw[lH l v r n x,lH l v r m y];by_cases h1:n=0
  ·have h2:m≠0:=by omega
   rw[yab h1,yaa h2,lH,yaa h2];split
   ·rw[lH,yab h1]
   ·rw[lH,yab h1]
  ·rw[yaa h1]
   by_cases h2:m=0
   ·rw[yab h2]
    split
    ·rw[lH,yab h2,lH,yaa h1];rename_i h;rw[yab h]
    ·rw[lH,yab h2,lH,yaa h1];rename_i h;rw[yaa h]
   ·rw[yaa h2]
    by_cases h3:n%2=1<;>by_cases h4:m%2=1
    ·rw[yab h3,yab h4,lH,yaa h2,yab h4,lH,yaa h1,yab h3,ihl _ _ x y (by omega)]
    ·rw[yab h3,yaa h4,lH,yaa h2,yaa h4,lH,yaa h1,yab h3]
    ·rw[yaa h3,yab h4,lH,yaa h2,yab h4,lH,yaa h1,yaa h3]
    ·rw[yaa h3,yaa h4,lH,yaa h2,yaa h4,lH,yaa h1,yaa h3,ihr _ _ x y (by omega)]
theorem get_del(t:Tr α):∀(n m:Nat),(t.del n).get m=if m=n then none else t.get m:=by
 induction t with
 | leaf=>intro n m;show(leaf:Tr α).get m=_;rw[get_leaf];split<;>rfl
 | node l x r ihl ihr=>
  grind [zgl,get_node]
def many_succ(t:Tr α)(n i:Nat):t.many (n+1) i=ob (t.get i) fun v=>ob (t.many n (i+1)) fun l=>some (v::l):=rfl
theorem many_some(t:Tr α)(n:Nat):∀(i:Nat) (l:List α),t.many n i=some l->l.length=n/\∀j,j<n->t.get (i+j)=l[j]?:=by
 induction n with
 | zero=>intro i l h;cases h;simp_all
 | succ n ih=>
  intro i l h;rw[many_succ,sA]at h;obtain⟨v,hv,h⟩:=h
  rw[sA]at h;grind
theorem UD(v:α)(l:List α)(t:Tr α)(i:Nat):setMany (v::l) t i=setMany l (t.set i v) (i+1):=rfl
theorem get_setMany(l:List α):∀(t:Tr α) (i m:Nat),(setMany l t i).get m=if i<=m/\m<i+l.length then l[m-i]? else t.get m:=by
 induction l with
 | nil=>intro t i m;rw[yaa (by simp)];rfl
 | cons v l ih=>
  grind [UD,get_set]
theorem get_ofList(l:List α)(m:Nat):(ofList l).get m=l[m]?:=by
 grind [ofList,get_setMany,get_leaf]
end Tr
theorem lG{α:Type}(l:List α):∀n,tD l n=l[n]?:=by
 induction l with
 | nil=>intro n;rfl
 | cons a l ih=>
  intro n
  cases n with
  | zero=>rfl
  | succ n=>show tD l n=_;grind
theorem oQ{α:Type}(l:List α):∀n,nQ l n=l.drop n:=by
 induction l with
 | nil=>intro n;simp;rfl
 | cons a l ih=>
  intro n
  cases n with
  | zero=>rfl
  | succ n=>show nQ l n=_;grind
theorem bR{α:Type}(l:List α):∀n,Ab l n=l.take n:=by
 induction l with
 | nil=>intro n;simp;rfl
 | cons a l ih=>
  intro n
  cases n with
  | zero=>rfl
  | succ n=>show a::Ab l n=_;grind
theorem lD{α:Type}(l:List α):aA l=l.length:=by
 induction l with
 | nil=>rfl
 | cons a l ih=>grind [aA]
theorem kG{α:Type}(l m:List α):dD l m=l++m:=by
 induction l with
 | nil=>rfl
 | cons a l ih=>grind [dD]
theorem vI{α:Type}(p:α->Bool)(l:List α):fD p l=l.all p:=by
 induction l with
 | nil=>rfl
 | cons a l ih=>show(bif p a then fD p l else false)=_;rw[ih];cases h:p a<;>simp[h]
theorem fN{α β:Type}(f:α->Option β)(a:α)(l:List α):aF f (a::l)=ob (f a) fun b=>ob (aF f l) fun r=>some (b::r):=rfl
theorem Fp{α β:Type}(f:α->Option β):aF f []=some []:=rfl
theorem Aa(i:Nat)(l:List Nat):iH i l=true ↔ i∈l:=by
 induction l with
 | nil=>exact⟨fun h=>(by cases h),fun h=>(by cases h)⟩
 | cons j l ih=>
  grind [iH,fC]
theorem gK(a:List Nat):∀b,wG a b=true ↔ a=b:=by
 induction a with
 | nil=>intro b;cases b with
  | nil=>exact⟨fun _=>rfl,fun _=>rfl⟩
  | cons y b=>exact⟨fun h=>(by cases h),fun h=>(by cases h)⟩
 | cons x a ih=>
  intro b
  cases b with
  | nil=>exact⟨fun h=>(by cases h),fun h=>(by cases h)⟩
  | cons y b=>
   simp_all [wG]
theorem uM{a b:IntKind}:zN a b=true ↔ a=b:=by cases a<;>cases b<;>simp[zN,kIdx]
theorem xV(a b:Bool):bEq a b=(a == b):=by cases a<;>cases b<;>rfl
theorem lW(a b:Int):kB a b=true ↔ a=b:=by
 cases a<;>cases b<;>simp only[kB,fC] <;> (try simp)<;>omega
theorem Sl(a b:Int):mE a b=true ↔ a<=b:=by
 cases a<;>cases b<;>simp only[mE,fE] <;> (try simp)<;>omega
theorem Fw(a b:Int):jB a b=true ↔ a<b:=by
 cases a<;>cases b<;>simp only[jB,nC] <;> (try simp)<;>omega
theorem Al(a b:Int):kB a b=(a == b):=by grind [lW]
theorem zjn(a b:Int):mE a b=decide (a<=b):=by grind [Sl]
theorem zjm(a b:Int):jB a b=decide (a<b):=by grind [Fw]
theorem aO(k:IntKind)(n:Int):fA k n=k.wrap n:=by
 cases n with
 | ofNat n=>
  show(bif Nat.blt n (pG k)then Int.ofNat n else _)=_
  rw[rD];by_cases h:Nat.blt n (pG k)=true
  ·rw[yab h]
   have h':=nC.1 h
   cases k<;>simp only[pG]at h'<;>simp only[IntKind.wrap,IntKind.bits,IntKind.signed]<;>simp<;>omega
  grind
 | negSucc n=>
  show(bif Nat.blt n (kLo k)then Int.negSucc n else _)=_
  rw[rD];by_cases h:Nat.blt n (kLo k)=true
  ·rw[yab h]
   have h':=nC.1 h
   cases k<;>simp only[kLo]at h'<;>simp only[IntKind.wrap,IntKind.bits,IntKind.signed]<;>simp<;>omega
  grind
theorem Mk{n:Int}{m:Nat}:wM n=some m ↔ n=(m:Int):=by
 cases n with
 | ofNat a=>grind [wM]
 | negSucc a=>grind [wM]
end Go.Am
namespace Go.Am
open Go
variable {a b k v:zA}{r:Bool}{l l' m:List (zA × zA)}
theorem Ir  (h:kQ a b=some r) :
  (∃k x y,a=.int k x/\b=.int k y/\r=(x == y))\/(∃x y,a=.str x/\b=.str y/\r=wG x y)\/(∃x y,a=.bool x/\b=.bool y/\r=(x == y)):=by
 cases a<;>simp only[kQ,zA.asIntK,zA.asStr,Jb,zA.asBool]at h<;>try (cases h;done)
 case bool x=>
  rw[qA,sA]at h;grind [xV]
 all_goals grind [sA,vB,uM,Al]
def LS (h:kQ a b=some true):a=b:=by
 grind [Ir,gK]
def LU  (h:kQ a b=some r):kQ b a=some r:=by
 rcases Ir h with⟨k,x,y,rfl,rfl,hr⟩ | ⟨x,y,rfl,rfl,hr⟩ | ⟨x,y,rfl,rfl,hr⟩
 ·have e:kB y x=(x == y):=by grind [Al]
  show wB (zN k k) (some (kB y x))=_
  grind [vB,uM]
 ·grind [kQ,zA.asIntK,zA.asStr,qA,gK]
 ·simp only[kQ,zA.asIntK,zA.asStr,Jb,zA.asBool,xV,qA,hr]
  rw[show(y == x)=(x == y) by cases x<;>cases y<;>rfl]
def LL:∀ {x y:List zA},oU x y=some true->x=y
 | [],[],_=>rfl
 | a::x,b::y,h=>by
  simp only[oU,sA]at h;obtain⟨r,hr,s,hs,h⟩:=h
  cases r<;>cases s<;>simp at h
  rw[LS hr,LL hs]
 | [],_::_,h=>by cases h
 | _::_,[],h=>by cases h
def LM:∀ {x y:List zA} {r:Bool},oU x y=some r->oU y x=some r
 | [],[],_,h=>h
 | a::x,b::y,r,h=>by
  simp only[oU,sA]at h ⊢
  obtain⟨r1,hr,s,hs,h⟩:=h
  exact⟨r1,LU hr,s,LM hs,h⟩
 | [],_::_,_,h=>by cases h
 | _::_,[],_,h=>by cases h
def My  (h:tI a b=some r):(∃x y,a=.agg x/\b=.agg y/\oU x y=some r)\/(a.asAgg=none/\kQ a b=some r):=by
 unfold tI at h;split at h
 ·rename_i x hx
  rw[sA]at h;obtain⟨y,hy,h⟩:=h
  cases a<;>simp[zA.asAgg]at hx
  cases b<;>simp[zA.asAgg]at hy
  simp_all
 simp_all
def zbw  (h:kQ a b=some r):tI a b=some r:=by
 rcases Ir h with⟨k,x,y,rfl,rfl,hr⟩ | ⟨x,y,rfl,rfl,hr⟩ | ⟨x,y,rfl,rfl,hr⟩<;>exact h
theorem LQ (h:tI a b=some true):a=b:=by
 rcases My h with⟨x,y,rfl,rfl,h⟩ | ⟨_,h⟩
 ·rw[LL h]
 ·exact LS h
theorem Mx  (h:tI a b=some r):tI b a=some r:=by
 rcases My h with⟨x,y,rfl,rfl,h⟩ | ⟨_,h⟩
 ·exact LM h
 ·exact zbw (LU h)
def DK (l:List (zA × zA)):Prop:=l.Pairwise fun p q=>tI p.1 q.1=some false
def Jz(l l':List (zA × zA)):Prop:=l'=l\/(l.Perm l'/\DK l)
def DK.perm (h:DK l)(p:l.Perm l'):DK l':=(p.pairwise_iff (fun hab=>Mx hab)).1 h
theorem AT{k:zA}:∀ {l:List (zA × zA)},jK k l=some none ↔ ∀e∈l,tI k e.1=some false
 | []=>by simp[jK]
 | e::l=>by
  rw[jK,sA];constructor
  ·rintro⟨r,hr,h⟩
   cases r with
   | true=>cases h
   | false=>
    rw[cond_false]at h;intro x hx;rcases ybs.1 hx with rfl | hx
    ·exact hr
    ·exact AT.1 h x hx
  ·intro h
   exact⟨false,h e (.head _),AT.2 fun x hx=>h x (.tail _ hx)⟩
def NT{k v:zA}:∀ {l:List (zA × zA)},jK k l=some (some v)->(k,v)∈l/\tI k k=some true
 | [],h=>by cases h
 | e::l,h=>by
  rw[jK,sA]at h;obtain⟨r,hr,h⟩:=h
  cases r with
  | true=>
   grind [LQ]
  | false=>
   rw[cond_false]at h;obtain⟨h1,h2⟩:=NT h
   simp_all
def DK.split  (h:DK (l++(k,v)::m)):(∀e∈l,tI k e.1=some false)/\∀e∈m,tI k e.1=some false:=by
 unfold DK at h;rw[List.pairwise_append]at h;obtain⟨_,h2,h3⟩:=h
 rw[List.pairwise_cons]at h2;exact⟨fun e he=>Mx (h3 e he (k,v) (.head _)),fun e he=>h2.1 e he⟩
def XH  (h:∀e∈l,tI k e.1=some false):jK k (l++m)=jK k m:=by
 induction l with
 | nil=>rfl
 | cons e l ih=>
  grind [jK,qA]
def XI  {r:Option zA}(h:Jz l l')(hf:jK k l=some r):jK k l'=some r:=by
 rcases h with rfl | ⟨p,d⟩
 ·exact hf
 cases r with
 | none=>
  grind [AT]
 | some v=>
  obtain⟨h1,h2⟩:=NT hf
  obtain⟨a,b,rfl⟩:=List.append_of_mem (p.mem_iff.1 h1)
  rw[XH (d.perm p).split.1,jK,h2,qA,cond_true]
def Xj{k v:zA}:∀ {l:List (zA × zA)},(∀e∈l,tI k e.1=some false)->kN k v l=some (l++[(k,v)])
 | [],_=>rfl
 | e::l,h=>by
  rw[kN,h e (.head _),qA,cond_false,Xj fun x hx=>h x (.tail _ hx)]
  rfl
def FW{k v u:zA}{m:List (zA × zA)}(hk:tI k k=some true):∀ {l:List (zA × zA)},(∀e∈l,tI k e.1=some false)->kN k v (l++(k,u)::m)=some (l++(k,v)::m)
 | [],_=>by simp_all [kN]
 | e::l,h=>by
  rw[List.cons_append,kN,h e (.head _),qA,cond_false,FW hk fun x hx=>h x (.tail _ hx)]
  rfl
def FV{k v:zA}:∀ {l r:List (zA × zA)},kN k v l=some r->((∀e∈l,tI k e.1=some false)/\r=l++[(k,v)])\/(tI k k=some true/\∃a u b,l=a++(k,u)::b/\r=a++(k,v)::b)
 | [],r,h=>by cases h;simp_all
 | e::l,r,h=>by
  rw[kN,sA]at h;obtain⟨q,hq,h⟩:=h
  cases q with
  | true=>
   rw[cond_true]at h
   cases h;have:=LQ hq
   refine .inr ⟨by simp_all,[],e.2,l,?_,rfl⟩
   rw[yah,this]
  | false=>
   rw[cond_false,sA]at h;obtain⟨r',hr,h⟩:=h
   cases h;rcases FV hr with⟨h1,rfl⟩ | ⟨h0,a,u,b,rfl,rfl⟩
   all_goals grind
def UA {r:List (zA × zA)}(h:Jz l l')(hs:kN k v l=some r):∃r',kN k v l'=some r'/\Jz r r':=by
 rcases h with rfl | ⟨p,d⟩
 ·exact⟨r,hs,.inl rfl⟩
 rcases FV hs with⟨h1,rfl⟩ | ⟨h0,a,u,b,rfl,rfl⟩
 ·refine⟨_,Xj fun e he=>h1 e (p.mem_iff.2 he),.inr ⟨p.append_right _,?_⟩⟩
  unfold DK;rw[List.pairwise_append];exact⟨d,by simp,fun x hx y hy=>by grind [Mx]⟩
 ·obtain⟨a',b',rfl⟩:=List.append_of_mem (p.mem_iff.1 (ycf a (.head b)))
  refine⟨_,FW h0 (d.perm p).split.1,.inr ⟨?_,?_⟩⟩
  ·have p1:(a++b).Perm (a'++b'):=by
    have q1:(a++(k,u)::b).Perm ((k,u)::(a++b)):=List.perm_middle
    have q2:(a'++(k,u)::b').Perm ((k,u)::(a'++b')):=List.perm_middle
    exact(q1.symm.trans (p.trans q2)).cons_inv
   exact List.perm_middle.trans ((p1.cons _).trans List.perm_middle.symm)
  ·unfold DK at d ⊢
   rw[List.pairwise_append,List.pairwise_cons]at d ⊢
   obtain⟨d1,⟨d2,d3⟩,d4⟩:=d
   refine⟨d1,⟨d2,d3⟩,fun x hx y hy=>?_⟩
   rcases ybs.1 hy with rfl | hy
   ·exact d4 x hx (k,u) (.head _)
   grind
end Go.Am
namespace Go.Am
open Go
structure BI where
 b:Nat
 tight:Bool
 es:Nat
 room:Nat
 ro:Bool
structure Mu where
 m:Nat->Option BI
 pd:Nat->Option (tA × Nat × Nat)
instance:CoeFun Mu fun _=>Nat->Option BI:=⟨Mu.m⟩
def Mu.lw(μ ν:Mu):Prop:=∀a i,μ a=some i->ν a=some i
structure Mu.le (μ ν:Mu):Prop where
 f:∀a i,μ a=some i->ν a=some i
 pd:ν.pd=μ.pd
instance {μ ν:Mu}:CoeFun (μ.le ν) fun _=>∀a i,μ a=some i->ν a=some i:=⟨Mu.le.f⟩
instance {μ ν:Mu}:Coe (μ.le ν) (μ.lw ν):=⟨Mu.le.f⟩
def Mu.le_refl(μ:Mu):μ.le μ:=⟨fun _ _ h=>h,rfl⟩
def Mu.le_trans{a b c:Mu}(h:a.le b)(k:b.le c):a.le c:=⟨fun x i hx=>k.f x i (h.f x i hx),k.pd.trans h.pd⟩
def Ka(μ:Mu):AFn->Fn->Prop
 | .func f,fn=>fn=.func f
 | .yld l,fn=>∃i,μ l=some i/\fn=.yield i.b
mutual
def uA (μ:Mu):zA->Value->Prop
 | .bool b,v=>v=.bool b
 | .int k n,v=>v=.int k n
 | .str l,v=>∃s,v=.string s/\tF s=l
 | .nilptr,v=>v=.pointer none
 | .ptr b off,v=>∃i,μ b=some i/\v=.pointer (some ⟨i.b,off,none⟩)
 | .nilslice,v=>v=.slice none 0 0
 | .slice b off len cap,v=>(∃i cap',μ b=some i/\v=.slice (some ⟨i.b,off,none⟩) len cap'/\cap<=cap'/\(i.tight=true->cap'=cap)/\(i.tight=false->off+cap'*i.es<=i.room))\/(b=0/\len=0/\cap=0/\∃a c,v=.slice (some a) 0 c/\(off=0/\c=0\/off=1))
 | .nilmap,v=>v=.map none
 | .map b,v=>∃i,μ b=some i/\v=.map (some i.b)
 | .func f a c,v=>∃fn a' c',v=.func fn a' c'/\Ka μ f fn/\oB μ a a'.toList/\oB μ c c'.toList
 | .nilfunc,v=>v=.nilFunc
 | .iface t x,v=>∃x',v=.iface t x'/\uA μ x x'
 | .niliface,v=>v=.nilIface
 | .agg l,v=>∃cs,v=.agg cs/\oB μ l cs.toList
 | .tup l,v=>∃cs,v=.tuple cs/\oB μ l cs.toList
def oB (μ:Mu):List zA->List Value->Prop
 | [],m=>m=[]
 | a::l,m=>∃v r,m=v::r/\uA μ a v/\oB μ l r
end
theorem Ka.mono{μ ν:Mu}(h:μ.lw ν){f:AFn}{g:Fn}(k:Ka μ f g):Ka ν f g:=by
 cases f with
 | func f=>exact k
 | yld l=>obtain⟨i,h1,h2⟩:=k;exact⟨i,h _ _ h1,h2⟩
mutual
theorem uA.mono{μ ν:Mu}(h:μ.lw ν):∀(a:zA) (v:Value),uA μ a v->uA ν a v
 | .bool _,_,k=>k
 | .int _ _,_,k=>k
 | .str _,_,k=>k
 | .nilptr,_,k=>k
 | .ptr _ _,_,⟨i,h1,h2⟩=>⟨i,h _ _ h1,h2⟩
 | .nilslice,_,k=>k
 | .slice _ _ _ _,_,.inl ⟨i,c,h1,h2⟩=>.inl ⟨i,c,h _ _ h1,h2⟩
 | .slice _ _ _ _,_,.inr k=>.inr k
 | .nilmap,_,k=>k
 | .map _,_,⟨i,h1,h2⟩=>⟨i,h _ _ h1,h2⟩
 | .func _ a c,_,⟨fn,a',c',h1,h2,h3,h4⟩=>⟨fn,a',c',h1,h2.mono h,oB.mono h a _ h3,oB.mono h c _ h4⟩
 | .nilfunc,_,k=>k
 | .iface _ x,_,⟨x',h1,h2⟩=>⟨x',h1,uA.mono h x _ h2⟩
 | .niliface,_,k=>k
 | .agg l,_,⟨cs,h1,h2⟩=>⟨cs,h1,oB.mono h l _ h2⟩
 | .tup l,_,⟨cs,h1,h2⟩=>⟨cs,h1,oB.mono h l _ h2⟩
theorem oB.mono{μ ν:Mu}(h:μ.lw ν):∀(l:List zA) (m:List Value),oB μ l m->oB ν l m
 | [],_,k=>k
 | a::l,_,⟨v,r,h1,h2,h3⟩=>⟨v,r,h1,uA.mono h a v h2,oB.mono h l r h3⟩
end
theorem oB.length{μ:Mu}{l:List zA}:∀ {m:List Value},oB μ l m->m.length=l.length:=by
 induction l with
 | nil=>grind [oB]
 | cons a l ih=>grind [oB]
theorem oB.get{μ:Mu}{l:List zA}:∀ {m:List Value} {i:Nat} {a:zA},oB μ l m->l[i]?=some a->∃v,m[i]?=some v/\uA μ a v:=by
 induction l with
 | nil=>simp_all
 | cons b l ih=>
  grind [oB]
theorem oB.mk{μ:Mu}{l:List zA}:∀ {m:List Value},m.length=l.length->(∀(i:Nat) a v,l[i]?=some a->m[i]?=some v->uA μ a v)->oB μ l m:=by
 induction l with
 | nil=>grind [oB]
 | cons a l ih=>
  intro m h k
  cases m with
  | nil=>simp at h
  | cons v r=>
   rw[oB];exact⟨v,r,rfl,k 0 a v (by simp) (by simp),ih (by grind) fun i a v h1 h2=>k (i+1) a v (by simp_all) (by simp_all)⟩
theorem oB.append{μ:Mu}{l l':List zA}:∀ {m m':List Value},oB μ l m->oB μ l' m'->oB μ (l++l') (m++m'):=by
 induction l with
 | nil=>grind [oB]
 | cons a l ih=>grind [oB]
theorem oB.drop{μ:Mu}{l:List zA}{m:List Value}(h:oB μ l m)(n:Nat):oB μ (l.drop n) (m.drop n):=by
 refine oB.mk (by simp[h.length]) fun i a v h1 h2=>?_
 rw[yde]at h1 h2;obtain⟨u,hu,hr⟩:=h.get h1
 simp_all
theorem oB.take{μ:Mu}{l:List zA}{m:List Value}(h:oB μ l m)(n:Nat):oB μ (l.take n) (m.take n):=by
 refine oB.mk (by simp[h.length]) fun i a v h1 h2=>?_
 rw[ydf]at h1 h2;split at h1
 ·rename_i hi
  rw[yab hi]at h2;obtain⟨u,hu,hr⟩:=h.get h1
  simp_all
 grind
theorem oB.nil{μ:Mu}:oB μ [] []:=by rw[oB]
theorem oB.cons{μ:Mu}{a:zA}{l:List zA}{v:Value}{m:List Value}(h:uA μ a v)(k:oB μ l m):oB μ (a::l) (v::m):=by grind [oB]
def oB.single{μ:Mu}{a:zA}{v:Value}(h:uA μ a v):oB μ [a] [v]:=.cons h .nil
theorem Dl{v:zA}{b:Bool}:v.asBool=some b ↔ v=.bool b:=by cases v<;>simp[zA.asBool]
def CA{v:zA}{n:Int}:v.asInt=some n ↔ ∃k,v=.int k n:=by cases v<;>simp[zA.asInt]
theorem zX{v:zA}{p:IntKind × Int}:v.asIntK=some p ↔ v=.int p.1 p.2:=by cases v<;>simp[zA.asIntK,Prod.ext_iff]
theorem aW{v:zA}{l:List Nat}:v.asStr=some l ↔ v=.str l:=by cases v<;>simp[zA.asStr]
def Gq{v:zA}{p:Nat × Nat}:v.asPtr=some p ↔ v=.ptr p.1 p.2:=by cases v<;>simp[zA.asPtr,Prod.ext_iff]
def Dk{v:zA}{p:Nat × Nat × Nat × Nat}:v.asSlice=some p ↔ v=.slice p.1 p.2.1 p.2.2.1 p.2.2.2:=by cases v<;>simp[zA.asSlice,Prod.ext_iff]
def Uc{v:zA}{b:Nat}:v.asMap=some b ↔ v=.map b:=by cases v<;>simp[zA.asMap]
theorem Jr{v:zA}{l:List zA}:v.asAgg=some l ↔ v=.agg l:=by cases v<;>simp[zA.asAgg]
def ZL{v:zA}{l:List zA}:v.asTup=some l ↔ v=.tup l:=by cases v<;>simp[zA.asTup]
theorem QI{v:zA}{p:AFn × List zA × List zA}:v.asFunc=some p ↔ v=.func p.1 p.2.1 p.2.2:=by cases v<;>simp[zA.asFunc,Prod.ext_iff]
def QH{v:zA}{p:Nat × zA}:v.asIface=some p ↔ v=.iface p.1 p.2:=by cases v<;>simp[zA.asIface,Prod.ext_iff]
theorem Ub{v:zA}{n:Nat}:v.asNat=some n ↔ ∃k,v=.int k (n:Int):=by
 simp_all [zA.asNat,sA,CA,Mk]
theorem oV{v:zA}:(v.tag=3 ↔ v=.nilptr)/\(v.tag=5 ↔ v=.nilslice)/\(v.tag=7 ↔ v=.nilmap)/\(v.tag=10 ↔ v=.nilfunc)/\(v.tag=12 ↔ v=.niliface):=by
 cases v<;>simp[zA.tag]
theorem uA.notAgg{μ:Mu}{a:zA}{v:Value}(h:uA μ a v)(ha:a.asAgg=none):v.cells = #[v]:=by
 cases a<;>rw[uA]at h<;>first
  | (subst h;rfl)
  | (rcases h with⟨_,_,_,rfl,_⟩ | ⟨_,_,_,_,_,rfl,_⟩<;>rfl)
  | (obtain⟨_,rfl,_⟩:=h;rfl)
  | (obtain⟨_,_,rfl⟩:=h;rfl)
  | (obtain⟨_,_,_,rfl,_⟩:=h;rfl)
  | grind [zA.asAgg]
theorem uA.one{μ:Mu}{a:zA}{v:Value}(h:uA μ a v)(ha:a.one=true):v.oneCell'=true:=by
 cases a<;>rw[uA]at h<;>first
  | (subst h;rfl)
  | (rcases h with⟨_,_,_,rfl,_⟩ | ⟨_,_,_,_,_,rfl,_⟩<;>rfl)
  | (obtain⟨_,rfl,_⟩:=h;rfl)
  | (obtain⟨_,_,rfl⟩:=h;rfl)
  | (obtain⟨_,_,_,rfl,_⟩:=h;rfl)
  | (revert ha;decide)
  | (have:=nC.1 ha;grind [zA.tag])
def To{μ:Mu}{a:zA}{v:Value}(h:uA μ a v):oB μ a.cells v.cells.toList:=by
 unfold zA.cells
 cases ha:a.asAgg with
 | none=>rw[h.notAgg ha];exact oB.single h
 | some l=>rw[Jr.1 ha,uA]at h;obtain⟨cs,rfl,h⟩:=h;exact h
def nP(P:Program)(t:Nat):xE:=
 match P.underlying t with
 | some .bool=>.bool
 | some (.int k)=>.int k
 | some .string=>.string
 | some (.pointer e)=>.ptr e
 | some (.slice e)=>.slice e
 | some (.array n e)=>.arr n e
 | some (.map k e)=>.map k e
 | some (.struct fs)=>.struct (fs.toList.map fun f=>(f.offset,f.type,P.cellsOf f.type))
 | some (.func ..)=>.func
 | some (.interface _)=>.iface
 | _=>.other
def Sh:Value->Bool
 | .agg _=>true
 | _=>false
def zeb(P:Program)(t:Nat):Bool:=(P.fieldsOf t).toList.all fun f=>(P.info? f.type).isSome
def tyOf (P:Program)(t:Nat):Option mD:=
 match P.info? t with
 | some i=>match i.zero with
  | some z=>ob (aF Fi z.cells.toList) fun l=>wB (bEq (Sh z) (nP P t).isAgg&&(P.underlying t).isSome&&zeb P t)
    (some ⟨nP P t, i.size, i.bytes, l, !P.stoodInHeld t && !P.eqGuardType P.depth t && (P.fieldsOf t).toList.all (fun f => f.name != "_")⟩)
  | none=>none
 | none=>none
def rF(P:Program)(C:lA):Prop:=∀t ty,C.tys.get t=some ty->tyOf P t=some ty
theorem Tu{a b:ByteArray}(h:tF a=tF b):a=b:=by
 have h1:a.data.toList=b.data.toList:=by
  grind [tF,List.map_inj_right,UInt8.toNat_inj]
 have h2:a.data=b.data:=yax.1 h1
 cases a;simp_all
theorem IK{μ:Mu}{v:Value}{a:zA}(h:Fi v=some a):uA μ a v/\a.one=true:=by
 unfold Fi at h;split at h<;>cases h<;>refine⟨?_,rfl⟩<;>rw[uA]
 simp_all
theorem IJ{μ:Mu}{m:List Value}:∀ {l:List zA},aF Fi m=some l->oB μ l m:=by
 induction m with
 | nil=>grind [Fp,oB.nil]
 | cons v m ih=>
  intro l h;rw[fN,sA]at h;obtain⟨a,ha,h⟩:=h
  rw[sA]at h;obtain⟨r,hr,h⟩:=h
  cases h;exact .cons (IK ha).1 (ih hr)
theorem VS{μ:Mu}{v:Value}{a:zA}(h:Yq v=some a):uA μ a v:=by
 unfold Yq at h;split at h
 ·rename_i cs hc
  rw[sA]at h;obtain⟨l,hl,h⟩:=h
  cases h
  cases v<;>simp[zj0]at hc
  grind [uA,IJ]
 grind [IK]
structure sM (P:Program) (t:Nat) (ty:mD):Prop where
 info:∃i,P.info? t=some i/\i.size=ty.size/\i.bytes=ty.bytes/\∃z,i.zero=some z/\aF Fi z.cells.toList=some ty.zero/\Sh z=ty.desc.isAgg
 desc:nP P t=ty.desc
 und:∃d,P.underlying t=some d
 fields:∀f∈(P.fieldsOf t).toList,∃i,P.info? f.type=some i
 eqOk : ty.eqOk = true -> P.stoodInHeld t = false /\ P.eqGuardType P.depth t = false /\ ∀ f ∈ (P.fieldsOf t).toList, f.name ≠ "_"
theorem SO{P:Program}{t:Nat}{ty:mD}(h:tyOf P t=some ty):sM P t ty:=by
 unfold tyOf at h;split at h
 ·rename_i i hi
  split at h
  ·rename_i z hz
   rw[sA]at h;obtain⟨l,hl,h⟩:=h
   rw[vB]at h;obtain⟨hb,h⟩:=h
   cases h;rw[ybb,ybb]at hb;refine⟨⟨i,hi,rfl,rfl,z,hz,hl,?_⟩,rfl,Option.isSome_iff_exists.1 hb.1.2,fun f hf=>Option.isSome_iff_exists.1 (ycb.1 hb.2 f hf),fun h=>?_⟩
   all_goals grind [xV]
  ·cases h
 ·cases h
def rF.facts{P:Program}{C:lA}(h:rF P C){t:Nat}{ty:mD}(k:C.tys.get t=some ty):sM P t ty:=SO (h t ty k)
section
variable {P:Program}{w:World}{t:Nat}{ty:mD}
def Ew{i:TypeInfo}(h:P.info? t=some i):(typeInfo t).run P w=.ok i w:=by
 simp[typeInfo,h]
def wF{d:TypeDesc}(h:P.underlying t=some d):(underlying t).run P w=.ok d w:=by
 simp[underlying,h]
theorem sM.size(h:sM P t ty):(sizeOf t).run P w=.ok ty.size w:=by
 obtain⟨i,h1,h2,_⟩:=h.info
 simp[sizeOf,Ew h1,h2]
theorem sM.zero(h:sM P t ty){μ:Mu}:∃z,(∀w,(zeroValue t).run P w=.ok z w)/\uA μ (sX ty) z/\oB μ ty.zero z.cells.toList:=by
 obtain⟨i,h1,_,_,z,h2,h3,h4⟩:=h.info
 have hl:oB μ ty.zero z.cells.toList:=IJ h3
 refine⟨z,fun w=>by simp[zeroValue,Ew h1,h2],?_,hl⟩
 unfold sX
 cases hd:ty.desc.isAgg with
 | true=>
  rw[hd]at h4
  cases z<;>simp[Sh]at h4
  show uA μ (.agg ty.zero) _
  rw[uA];exact⟨_,rfl,hl⟩
 | false=>
  rw[hd]at h4;have hc:z.cells = #[z]:=by cases z<;>first | rfl | simp[Sh]at h4
  grind [oB]
def sM.isAgg(h:sM P t ty):(Go.isAgg t).run P w=.ok ty.desc.isAgg w:=by
 obtain⟨d,hd⟩:=h.und
 have h0:=h.desc
 unfold nP at h0;rw[hd]at h0;unfold Go.isAgg;rw[yad,wF hd,yac,<- h0]
 cases d<;>rfl
theorem Ge(h:sM P t ty){fs:List (Nat × Nat × Nat)}(k:ty.desc.asStruct=some fs):∃g,P.underlying t=some (.struct g)/\fs=g.toList.map fun f=>(f.offset,f.type,P.cellsOf f.type):=by
 obtain⟨d,hd⟩:=h.und
 have h0:=h.desc
 grind [nP,xE.asStruct]
def kT(h:sM P t ty){e:Nat}(k:ty.desc.asSlice=some e):P.underlying t=some (.slice e):=by
 obtain⟨d,hd⟩:=h.und
 have h0:=h.desc
 unfold nP at h0;rw[hd]at h0;rw[<- h0]at k
 cases d<;>simp[xE.asSlice]at k
 rw[hd,k]
def Th(h:sM P t ty){p:Nat × Nat}(k:ty.desc.asArr=some p):P.underlying t=some (.array p.1 p.2):=by
 obtain⟨d,hd⟩:=h.und
 have h0:=h.desc
 unfold nP at h0;rw[hd]at h0;rw[<- h0]at k
 cases d<;>simp[xE.asArr]at k
 rw[hd,<- k]
def OP(h:sM P t ty){p:Nat × Nat}(k:ty.desc.asMap=some p):P.underlying t=some (.map p.1 p.2):=by
 obtain⟨d,hd⟩:=h.und
 have h0:=h.desc
 unfold nP at h0;rw[hd]at h0;rw[<- h0]at k
 cases d<;>simp[xE.asMap]at k
 rw[hd,<- k]
def BJ(h:sM P t ty){k:IntKind}(e:ty.desc.asInt=some k):P.underlying t=some (.int k):=by
 obtain⟨d,hd⟩:=h.und
 have h0:=h.desc
 unfold nP at h0;rw[hd]at h0;rw[<- h0]at e
 cases d<;>simp[xE.asInt]at e
 rw[hd,e]
theorem Tg(h:sM P t ty)(e:ty.desc.isString=true):P.underlying t=some .string:=by
 obtain⟨d,hd⟩:=h.und
 have h0:=h.desc
 grind [nP,xE.isString,xE.tag,Nat.beq]
theorem OO(h:sM P t ty)(e:Nat.blt ty.desc.tag 9=true):∃d,P.underlying t=some d/\∀ms,d≠.interface ms:=by
 obtain⟨d,hd⟩:=h.und
 refine⟨d,hd,fun ms hm=>?_⟩
 subst hm;have h0:=h.desc
 grind [nP,nC,xE.tag]
end
structure Bs (μ:Mu) (d:vH) (e:Deferred):Prop where
 rel:match d.fn with
  | none=>∃i,μ d.r=some i/\e={ target:=.collected i.b,args := #[] }
  | some f=>∃fn cap as,e={ target:=.fn fn cap,args:=as }/\Ka μ f fn/\oB μ d.args (as++cap).toList
def dE(μ:Mu)(n:Nat)(tm:Tm)(tmps:Array Value):Prop:=tmps.size=n/\∀i v,tm.get i=some v->uA μ v (tmps.getD i undef)
structure Oq (μ:Mu) (l:fM) (r:Loop):Prop where
 state:r.state=l.state
 pending:r.pending=l.pending
 fn:r.fn=l.fn
 tm:dE μ l.n l.tm r.tmps
 params:r.params.toList=l.params
 assign:r.assign=l.assign
 body:r.body=l.body
 defers:∃i,μ l.defers=some i/\r.defers=i.b
inductive xD {α β:Type} (R:α->β->Prop):List α->List β->Prop
 | nil:xD R [] []
 | cons {a b l m}:R a b->xD R l m->xD R (a::l) (b::m)
def dI (μ:Mu)(i:BI):tA->Obj->Prop
 | .cells c n loose,o=>∃cs elem fr,o=.cells cs elem fr/\n<=cs.size/\(i.ro=true\/fr.2<=fr.1\/cs.size<=fr.1)/\(∀(j:Nat) v,c.get j=some v->j<n/\∃v',cs[j]?=some v'/\uA μ v v') ∧
   (match loose with | none=>i.tight=true | some lo=>i.tight=false/\i.es=lo.es/\i.room=cs.size/\∀t,lo=.ty t->elem=t)
 | .map l,o=>∃es clock l',o=.map es clock/\Jz l l'/\xD (fun p e=>uA μ p.1 e.key/\uA μ p.2 e.val) l' es.toList
 | .loop l,o=>∃r,o=.loop r/\Oq μ l r
 | .deferred l,o=>∃l',o=.deferred l'/\(match l,l' with | none,none=>True | some a,some b=>xD (Bs μ) a b | _,_=>False)
 | .siter s pos,o=>∃s',o=.stringIter s' pos/\tF s'=s
structure tB (B N:Nat) (μ:Mu) (H:xA) (w:World):Prop where
 base:256<=B
 glob:∀g,g<256->μ g=some ⟨g,true,0,0,true⟩
 low:∀a x i,a<B->H.t.get a=some x->μ a=some i->i.b<N/\x.asLoop=none/\x.asDeferred=none
 next:B<=H.next
 size:N<=w.heap.size
 fresh:∀a,H.next<=a->μ a=none/\H.t.get a=none
 blk:∀a x i,H.t.get a=some x->μ a=some i->∃o,w.heap[i.b]?=some o/\dI μ i x o
 own:∀a i,B<=a->μ a=some i->N<=i.b/\i.b<w.heap.size/\i.ro=false
 inj:∀a b x y i j,H.t.get a=some x->H.t.get b=some y->μ a=some i->μ b=some j->B<=a->B<=b->i.b=j.b->a=b
 pnd:∀a x t,μ.pd a=some (x,t)->μ a=none/\H.t.get a=some x/\B<=a
end Go.Am
namespace Go.Am
open Go
variable {a x:Operand}{b f off t:Nat}{p:Tr zA × Nat × Option Lo}{i:BI}{l:List zA}
def oF (μ:Mu)(e:vD)(ρ:Operand->Value):Prop:=∀x v,ev x e=some v->uA μ v (ρ x)
def oF.many{μ:Mu}{e:vD}{ρ:Operand->Value}(h:oF μ e ρ):∀ {l:List Operand} {r:List zA},dN l e=some r->oB μ r (l.map ρ):=by
 intro l;induction l with
 | nil=>intro r k;unfold dN at k;rw[Fp]at k;cases k;exact .nil
 | cons x l ih=>
  intro r k;unfold dN at k;rw[fN,sA]at k;obtain⟨a,ha,k⟩:=k
  rw[sA]at k;obtain⟨b,hb,k⟩:=k
  cases k
  exact .cons (h _ _ ha) (ih hb)
def oF.parts{μ:Mu}{e:vD}{ρ:Operand->Value}(h:oF μ e ρ):∀ {l:List (Nat × Operand)} {r:List (Nat × zA)},evp l e=some r →
  xD (fun p q=>p.1=q.1/\uA μ p.2 q.2) r (l.map fun x=>(x.1,ρ x.2)):=by
 intro l;induction l with
 | nil=>intro r k;unfold evp at k;rw[Fp]at k;cases k;exact .nil
 | cons x l ih=>
  intro r k;unfold evp at k;rw[fN,sA]at k;obtain⟨a,ha,k⟩:=k
  rw[sA]at ha;obtain⟨a',ha,ha'⟩:=ha
  cases ha'
  rw[sA]at k;obtain⟨b,hb,k⟩:=k
  cases k
  exact .cons ⟨rfl,h _ _ ha⟩ (ih hb)
def CK(μ:Mu):Option zA->Option Value->Prop
 | none,none=>True
 | some a,some v=>uA μ a v
 | _,_=>False
def oF.opt{μ:Mu}{e:vD}{ρ:Operand->Value}(h:oF μ e ρ){x:Option Operand}{r:Option zA}(k:evo x e=some r):CK μ r (x.map ρ):=by
 cases x with
 | none=>cases k;trivial
 | some x=>unfold evo at k;simp only[]at k;rw[sA]at k;obtain⟨a,ha,k⟩:=k;cases k;exact h _ _ ha
theorem dY(b off n:Nat):Addr.add ⟨b,off,none⟩ n=⟨b,off+n,none⟩:=by
 grind [Addr.add]
section
variable {P:Program}{C:lA}{B N:Nat}{μ:Mu}{H:xA}{w:World}
theorem Bi  (h:qD H b=some p):H.t.get b=some (.cells p.1 p.2.1 p.2.2):=by
 unfold qD at h;rw[sA]at h;obtain⟨x,hx,h⟩:=h
 cases x<;>simp[tA.asCells]at h
 grind
theorem tB.cellAt(hH:tB B N μ H w)  (h:qD H b=some p) (hi:μ b=some i){j:Nat}{v:zA}(hv:p.1.get j=some v) :
  ∃v',w.cell? ⟨i.b,j,none⟩=some v'/\uA μ v v':=by
 obtain⟨o,h2,h3⟩:=hH.blk _ _ _ (Bi h) hi
 obtain⟨cs,elem,fr,rfl,_,_,h4,_⟩:=h3
 grind [World.cell?]
theorem tB.manyAt(hH:tB B N μ H w)  (h:qD H b=some p) (hi:μ b=some i){n:Nat} (hl:p.1.many n off=some l) :
  ∃vs:List Value,vs.length=n/\oB μ l vs/\(loadCells ⟨i.b,off,none⟩ n).run P w=.ok vs.toArray w/\∀j,j<n->w.cell? ⟨i.b,off+j,none⟩=vs[j]?:=by
 obtain⟨h1,h2⟩:=Tr.many_some _ _ _ _ hl
 have key:∀j,j<n->∃v',w.cell? ⟨i.b,off+j,none⟩=some v'/\∃a,l[j]?=some a/\uA μ a v':=by
  intro j hj;have h3:=h2 j hj
  cases hlj:l[j]? with
  | none=>grind
  | some a=>
   rw[hlj]at h3;obtain⟨v',h4,h5⟩:=hH.cellAt h hi h3
   simp_all
 let f:Nat->Value:=fun j=>(w.cell? ⟨i.b,off+j,none⟩).getD undef
 have hf:∀j,j<n->w.cell? ⟨i.b,off+j,none⟩=some (f j):=by
  grind
 refine⟨(List.range n).map f,by simp,?_,?_,?_⟩
 all_goals grind [oB.mk,run_loadCells,dY]
theorem JP(hH:tB B N μ H w) {ty:mD}(hty:sM P t ty)  (h:qD H b=some p) (hi:μ b=some i) {v:zA}
  (hv:aR ty p.1 off=some v):∃v',(loadVar t ⟨i.b,off,none⟩).run P w=.ok v' w/\uA μ v v':=by
 unfold aR at hv;unfold loadVar;rw[yad,hty.isAgg,yac]
 cases ha:ty.desc.isAgg with
 | true=>
  rw[ha,cond_true,sA]at hv;obtain⟨l,hl,hv⟩:=hv
  cases hv;obtain⟨vs,_,h2,h3,_⟩:=hH.manyAt (P:=P) h hi hl
  refine⟨.agg vs.toArray,?_,by grind [uA]⟩
  rw[yab rfl,yad,hty.size,yac,yad,h3];rfl
 | false=>
  rw[ha,cond_false]at hv;obtain⟨v',h1,h2⟩:=hH.cellAt h hi hv
  refine⟨v',?_,h2⟩
  rw[yaa (by simp),run_load,h1]
theorem Ly(hT:rF P C)  {cs:Array Value}(hl:oB μ l cs.toList) {v:zA}(hv:xQ C t l off=some v) :
  ∃v',(part t cs off).run P w=.ok v' w/\uA μ v v':=by
 unfold xQ at hv;rw[sA]at hv;obtain⟨ty,hty,hv⟩:=hv
 have hF:=hT.facts hty
 unfold part;rw[yad,hF.isAgg,yac]
 cases ha:ty.desc.isAgg with
 | true=>
  rw[ha,cond_true]at hv
  cases hv;refine⟨.agg (cs.extract off (off+ty.size)),?_,?_⟩
  ·rw[yab rfl,yad,hF.size];rfl
  ·rw[uA];refine⟨_,rfl,?_⟩
   rw[bR,oQ,Array.toList_extract,List.extract_eq_take_drop,Nat.add_sub_cancel_left];exact(hl.drop _).take _
 | false=>
  rw[ha,cond_false,lG]at hv;obtain⟨v',h1,h2⟩:=hl.get hv
  simp_all
def nI (P:Program)(μ:Mu)(w:World)(ρ:Operand->Value)(o:Oper)(v:zA):Prop:=∃v',(execOp ρ o).run P w=.ok (.value v') w/\uA μ v v'
variable {e:vD}{ρ:Operand->Value}{dst:Option Tmp}{type:TypeId}{pos:String}{after:Array Edge}{guard:Option (Nat × Bool)}{v:zA}
def KK(hE:oF μ e ρ) (h:pP x C e H=some v):nI P μ w ρ ⟨dst,.move x,type,pos,after,guard⟩ v:=⟨ρ x,rfl,hE x v h⟩
def LH(hE:oF μ e ρ) (h:pP x C e H=some v):nI P μ w ρ ⟨dst,.assign x,type,pos,after,guard⟩ v:=⟨ρ x,rfl,hE x v h⟩
def KI(hE:oF μ e ρ){c b:Operand}(h:Mv c a b C e H=some v):nI P μ w ρ ⟨dst,.pick c a b,type,pos,after,guard⟩ v:=by
 unfold Mv at h;rw[sA]at h;obtain⟨cv,hc,h⟩:=h
 rw[sA]at h;obtain⟨cb,hb,h⟩:=h
 have h1:=hE _ _ hc
 rw[Dl.1 hb,uA]at h1;unfold nI execOp;simp only[h1,asBool]
 cases cb with
 | true=>exact⟨ρ a,rfl,hE _ _ h⟩
 | false=>exact⟨ρ b,rfl,hE _ _ h⟩
theorem KP(hT:rF P C)(hH:tB B N μ H w)(hE:oF μ e ρ)  (h:xW t a C e H=some v):nI P μ w ρ ⟨dst,.load t a,type,pos,after,guard⟩ v:=by
 unfold xW at h;simp only[sA,Gq]at h;obtain⟨av,ha,p,rfl,ty,hty,c,hc,h⟩:=h
 have h1:=hE _ _ ha
 rw[uA]at h1;obtain⟨i,hi,hv⟩:=h1
 obtain⟨v',h2,h3⟩:=JP (P:=P) hH (hT.facts hty) hc hi h
 refine⟨v',?_,h3⟩
 grind [execOp,Instr.loadAt,Instr.sureAddr,Sem.run_bind,Sem.run_pure,Result.andThen_ok]
theorem KJ(hE:oF μ e ρ) (h:Ag x C e H=some v):nI P μ w ρ ⟨dst,.nilCheck x,type,pos,after,guard⟩ v:=by
 unfold Ag at h;rw[sA]at h;obtain⟨a,ha,h⟩:=h
 rw[vB]at h;obtain⟨hb,h⟩:=h
 cases h;have h1:=hE _ _ ha
 refine⟨ρ x,?_,h1⟩
 cases v<;>simp[zA.tag,Nat.beq]at hb
 ·rw[uA]at h1
  obtain⟨i,_,hv⟩:=h1
  simp_all [execOp]
 ·rename_i fn a b
  rw[uA]at h1;obtain⟨fn',a',c',hv,hf,_⟩:=h1
  cases fn with
  | func f=>cases hf;simp_all [execOp]
  | yld l=>obtain⟨i,_,rfl⟩:=hf;simp_all [execOp]
def KW(hE:oF μ e ρ){fn:Fn}{a b:Array Operand}(h:(Cv fn a b).f C e H=some v):nI P μ w ρ ⟨dst,.makeFunc fn a b,type,pos,after,guard⟩ v:=by
 unfold Cv at h;split at h
 ·rename_i f
  simp only[Io,sA]at h;obtain⟨as,ha,bs,hb,h⟩:=h
  cases h;refine⟨.func (.func f) (a.map ρ) (b.map ρ),rfl,?_⟩
  rw[uA];exact⟨_,_,_,rfl,rfl,by simpa using hE.many ha,by simpa using hE.many hb⟩
 ·cases h
def KV(hT:rF P C)(hE:oF μ e ρ)  (h:Cu t x C e H=some v):nI P μ w ρ ⟨dst,.makeInterface t x,type,pos,after,guard⟩ v:=by
 unfold Cu at h;simp only[sA,vB]at h;obtain⟨ty,hty,hb,a,ha,h⟩:=h
 cases h;obtain⟨d,hd,hn⟩:=OO (hT.facts hty) hb
 refine⟨.iface t (ρ x),?_,by rw[uA];exact⟨_,rfl,hE _ _ ha⟩⟩
 simp only[execOp,Instr.makeInterface,yad,wF hd,yac]
 cases d<;>first | rfl | exact absurd rfl (hn _)
theorem LA(hE:oF μ e ρ){t:Operand}{i:Nat}(h:sW t i C e H=some v):nI P μ w ρ ⟨dst,.extract t i,type,pos,after,guard⟩ v:=by
 unfold sW at h;simp only[sA,ZL,lG]at h;obtain⟨a,ha,l,rfl,h⟩:=h
 have h1:=hE _ _ ha
 rw[uA]at h1;obtain⟨cs,hv,hl⟩:=h1
 obtain⟨v',h2,h3⟩:=hl.get h
 refine⟨v',?_,h3⟩
 simp_all [execOp,Instr.extract]
theorem KX(hT:rF P C)(hE:oF μ e ρ)   (h:Cw t x f C e H=some v):nI P μ w ρ ⟨dst,.field t x f,type,pos,after,guard⟩ v:=by
 unfold Cw at h;simp only[sA,Jr,lG]at h;obtain⟨ty,hty,fs,hfs,fd,hfd,a,ha,l,rfl,h⟩:=h
 obtain⟨g,hg,rfl⟩:=Ge (hT.facts hty) hfs
 have h1:=hE _ _ ha
 rw[uA]at h1;obtain⟨cs,hv,hl⟩:=h1
 rw[ybu]at hfd
 cases hgf:g.toList[f]? with
 | none=>simp_all
 | some fld=>
  rw[hgf]at hfd;simp at hfd;subst hfd;obtain⟨v',h2,h3⟩:=Ly (w:=w) hT hl h
  refine⟨v',?_,h3⟩
  simp_all [execOp,Instr.field,wF,asAgg]
theorem KZ(hT:rF P C)(hE:oF μ e ρ){s:Nat}  (h:tW s x f C e H=some v):nI P μ w ρ ⟨dst,.fieldAddr s x f,type,pos,after,guard⟩ v:=by
 unfold tW at h;simp only[sA,Gq,lG,vB]at h;obtain⟨ty,hty,fs,hfs,fd,hfd,hz,a,ha,p,rfl,h⟩:=h
 cases h;obtain⟨g,hg,rfl⟩:=Ge (hT.facts hty) hfs
 have h1:=hE _ _ ha
 rw[uA]at h1;obtain⟨i,hi,hv⟩:=h1
 rw[ybu]at hfd
 cases hgf:g.toList[f]? with
 | none=>simp_all
 | some fld=>
  rw[hgf]at hfd;simp at hfd;subst hfd;refine⟨.pointer (some ⟨i.b,p.2+fld.offset,none⟩),?_,by grind [uA]⟩
  have h4:g[f]?=some fld:=by simp_all
  have h5:P.cellsOf fld.type≠0:=by
   grind [beqf]
  have h6:(sizeOf fld.type).run P w=.ok (P.cellsOf fld.type) w:=by
   unfold Program.cellsOf at h5 ⊢
   cases hinf:P.info? fld.type with
   | none=>simp_all
   | some inf=>simp[sizeOf,Ew hinf]
  simp_all [execOp,Instr.fieldAt,wF,Instr.sureAddr,fieldPlace,dY]
end
end Go.Am
namespace Go.Am
open Go
section
variable {P:Program}{C:lA}{B N:Nat}{μ:Mu}{H:xA}{w:World}
variable {e:vD}{ρ:Operand->Value}{dst:Option Tmp}{type:TypeId}{pos:String}{after:Array Edge}{guard:Option (Nat × Bool)}{v:zA}
theorem Ed{k:IntKind}{n:Nat}(h:n<pG k):k.wrap (n:Int)=n:=by
 rw[<- aO];show(bif Nat.blt n (pG k)then Int.ofNat n else _)=_
 grind [nC]
def Zt(k:IntKind):∃m,pG k=2^m/\m<=k.bits:=by
 cases k
 ·exact⟨7,rfl,by decide⟩
 ·exact⟨15,rfl,by decide⟩
 ·exact⟨31,rfl,by decide⟩
 ·exact⟨63,rfl,by decide⟩
 ·exact⟨8,rfl,by decide⟩
 ·exact⟨16,rfl,by decide⟩
 ·exact⟨32,rfl,by decide⟩
 ·exact⟨64,rfl,by decide⟩
def Bg{k:IntKind}{n:Nat}(h:n<pG k):(BitVec.ofInt k.bits (n:Int)).toNat=n:=by
 obtain⟨m,hm,hle⟩:=Zt k
 rw[BitVec.toNat_ofInt];have:n<2^k.bits:=Nat.lt_of_lt_of_le (hm ▸ h) (yao (by omega) hle)
 rw[<- Int.natCast_emod,Int.toNat_natCast,Nat.mod_eq_of_lt this]
theorem Sm{f:Nat->Nat->Nat}{k:IntKind}{a b:Int}{v:zA}(h:rI f k a b=some v):∃x y:Nat,a=x/\b=y/\x<pG k/\y<pG k/\v=.int k (f x y:Nat):=by
 grind [rI,sA,Mk,vB,nC]
theorem zdb{op:BinOp}{k:IntKind}{a b:Int}(h:(BY op).f k a b=some v):op≠.shl/\op≠.shr/\∀t,∃v',(binOp op t (.int k a) (.int k b)).run P w=.ok v' w/\uA μ v v':=by
 cases op<;>simp only[BY]at h
 case add=>cases h;simp_all [binOp,Op.intArith,uA,aO]
 case sub=>cases h;simp_all [binOp,Op.intArith,uA,aO]
 case mul=>cases h;simp_all [binOp,Op.intArith,uA,aO]
 case quo=>
  unfold Ak at h;simp only[rD,lW]at h;split at h
  ·cases h
  ·rename_i hb;cases h
   simp_all [uA,aO,binOp,Op.intDiv]
 case rem=>
  unfold Aj at h;simp only[rD,lW]at h;split at h
  ·cases h
  ·rename_i hb;cases h
   simp_all [uA,binOp,Op.intDiv]
 case and=>
  unfold iAnd at h;split at h
  ·obtain⟨x,y,rfl,rfl,hx,hy,rfl⟩:=Sm h
   refine⟨by simp,by simp,fun t=>⟨.int k ((x &&& y:Nat):Int),?_,by rw[uA];rfl⟩⟩
   have h1:x &&& y<pG k:=yam Nat.and_le_left hx
   simp only[binOp,Op.intBits,BitVec.toNat_and,Bg hx,Bg hy,Ed h1];simp
  ·simp only[sA,Mk,vB,nC]at h
   obtain⟨y,rfl,hy,h⟩:=h
   cases h;have e:(BitVec.ofInt k.bits a).toNat=Int.toNat (Int.emod a (.ofNat (kW k))):=by
    rw[BitVec.toNat_ofInt]
    cases k<;>rfl
   generalize Int.toNat (Int.emod a (.ofNat (kW k)))=x at e ⊢
   refine⟨by simp,by simp,fun t=>⟨.int k ((x &&& y:Nat):Int),?_,by rw[uA];rfl⟩⟩
   have h1:x &&& y<pG k:=yam Nat.and_le_right hy
   simp only[binOp,Op.intBits,BitVec.toNat_and,e,Bg hy,Ed h1];simp
 case or=>
  obtain⟨x,y,rfl,rfl,hx,hy,rfl⟩:=Sm h
  obtain⟨m,hm,_⟩:=Zt k
  refine⟨by simp,by simp,fun t=>⟨.int k ((x ||| y:Nat):Int),?_,by rw[uA];rfl⟩⟩
  have h1:x ||| y<pG k:=by simp_all [Nat.or_lt_two_pow]
  simp only[binOp,Op.intBits,BitVec.toNat_or,Bg hx,Bg hy,Ed h1];simp
 case xor=>
  obtain⟨x,y,rfl,rfl,hx,hy,rfl⟩:=Sm h
  obtain⟨m,hm,_⟩:=Zt k
  refine⟨by simp,by simp,fun t=>⟨.int k ((x ^^^ y:Nat):Int),?_,by rw[uA];rfl⟩⟩
  have h1:x ^^^ y<pG k:=by simp_all [Nat.xor_lt_two_pow]
  simp only[binOp,Op.intBits,BitVec.toNat_xor,Bg hx,Bg hy,Ed h1];simp
 case eql=>cases h;simp_all [binOp,Op.intCmp,uA,Al]
 case neq=>cases h;exact⟨by simp,by simp,fun t=>⟨.bool (a != b),by simp[binOp,Op.intCmp],by rw[uA,Al];rfl⟩⟩
 case lss=>cases h;simp_all [binOp,Op.intCmp,uA,zjm]
 case leq=>cases h;simp_all [binOp,Op.intCmp,uA,zjn]
 case gtr=>cases h;simp_all [binOp,Op.intCmp,uA,zjm]
 case geq=>cases h;simp_all [binOp,Op.intCmp,uA,zjn]
 all_goals cases h
theorem Jn(s:ByteArray):(tF s).length=s.size:=by simp[tF]
theorem ZA(a b:ByteArray):tF (a++b)=tF a++tF b:=by simp[tF]
theorem YZ(s:ByteArray)(i:Nat):(tF s)[i]?=(s[i]?).map UInt8.toNat:=by
 unfold tF;rw[ybu];congr 1
 by_cases h:i<s.size
 all_goals simp_all [ByteArray.getElem_eq_getElem_data]
theorem QA(s:ByteArray)(l h:Nat):tF (s.extract l h)=((tF s).take h).drop l:=by
 unfold tF;rw[ByteArray.data_extract,Array.toList_extract,List.extract_eq_take_drop,<- List.map_take,<- List.map_drop,List.drop_take]
theorem QB{a b:ByteArray}:(a.toList == b.toList)=(wG (tF a) (tF b)):=by
 grind [Lib.toList_data,gK,tF,Tu]
theorem WJ(a:List UInt8):∀b:List UInt8,Op.bytesLess a b=Zg (a.map UInt8.toNat) (b.map UInt8.toNat):=by
 induction a with
 | nil=>intro b;cases b<;>rfl
 | cons x a ih=>
  intro b
  cases b with
  | nil=>rfl
  | cons y b=>
   show _=(bif Nat.blt x.toNat y.toNat then true else bif Nat.beq x.toNat y.toNat then Zg (a.map UInt8.toNat) (b.map UInt8.toNat)else false)
   grind [Op.bytesLess,nC,UInt8.lt_iff_toNat_lt,UInt8.toNat_inj,fC]
theorem zc9{op:BinOp}{a b:ByteArray}(h:(BV op).f (tF a) (tF b)=some v):op≠.shl/\op≠.shr/\∀t,∃v',(binOp op t (.string a) (.string b)).run P w=.ok v' w/\uA μ v v':=by
 cases op<;>simp only[BV]at h
 case add=>
  simp only[wJ,vB,nC,lD,kG,Jn]at h;obtain⟨h1,h⟩:=h
  cases h;refine⟨by simp,by simp,fun t=>⟨.string (a++b),?_,by grind [uA,ZA]⟩⟩
  have h2:¬ (((a.size+b.size:Nat):Int) > IntKind.i64.max):=by
   have:IntKind.i64.max=9223372036854775807:=by decide
   omega
  simp_all [binOp,Op.stringOp]
 case eql=>cases h;exact⟨by simp,by simp,fun t=>⟨.bool (a.toList == b.toList),rfl,by rw[uA,QB]⟩⟩
 case neq=>cases h;exact⟨by simp,by simp,fun t=>⟨.bool !(a.toList == b.toList),rfl,by rw[uA,QB]⟩⟩
 case lss=>cases h;exact⟨by simp,by simp,fun t=>⟨.bool (Op.bytesLess a.toList b.toList),rfl,by rw[uA,Lib.toList_data,Lib.toList_data,WJ];rfl⟩⟩
 all_goals cases h
theorem Np{op:BinOp}{t:TypeId}{x y:Operand}{a b:Value}(h1:¬ (a=.nilIface/\b=.nilIface)\/(Nd x||Nd y)=true)(h2:∀l m,¬ (a=.agg l/\b=.agg m)):(eqGuard op t x y a b).run P w=.ok () w:=by
 unfold eqGuard
 cases op
 case eql | neq=>
  rw[yaa (by simp)]
  split
  ·rcases h1 with h1 | h1
   ·simp_all
   ·cases x<;>cases y<;>simp[Nd]at h1 ⊢
  all_goals simp_all
 all_goals rfl
theorem XQ{op:BinOp}{t:TypeId}{x y:Operand}{l m:Array Value}(h:P.eqGuardType P.depth t=false):(eqGuard op t x y (.agg l) (.agg m)).run P w=.ok () w:=by
 simp_all [eqGuard]
theorem Hr{op:BinOp}{t yt:TypeId}{x y:Operand}{v':Value}(h1:(eqGuard op t x y (ρ x) (ρ y)).run P w=.ok () w)(h2:(binOp op t (ρ x) (ρ y)).run P w=.ok v' w) :
  (execOp ρ ⟨dst,.binOp op t x y yt,type,pos,after,guard⟩).run P w=.ok (.value v') w:=by
 simp_all [execOp]
theorem FQ{k:IntKind}{b:Int}{n:Nat}(h:Eu k b=some n):¬ b<0/\n=min b.toNat k.bits:=by
 grind [Eu,sA,Mk]
theorem QE{op:BinOp}{t yt:TypeId}{x y:Operand}{a b:zA}(hx:uA μ a (ρ x))(hy:uA μ b (ρ y))
  (h:(op=.shl/\Of mW a b=some v)\/(op=.shr/\Of Fv a b=some v)):nI P μ w ρ ⟨dst,.binOp op t x y yt,type,pos,after,guard⟩ v:=by
 rcases h with⟨rfl,h⟩ | ⟨rfl,h⟩
 all_goals
  unfold Of at h;simp only[sA,zX,CA]at h;obtain⟨p,rfl,n,⟨k',rfl⟩,h⟩:=h
  rw[uA]at hx hy
 ·unfold mW at h
  rw[sA]at h;obtain⟨m,hm,h⟩:=h
  cases h;obtain⟨h1,rfl⟩:=FQ hm
  refine⟨.int p.1 (p.1.wrap (p.2*2^(min n.toNat p.1.bits))),Hr (Np (.inl (by grind)) (by grind)) ?_,by rw[uA,aO];simp⟩
  rw[hx,hy];simp[binOp,Op.shift,h1]
 ·unfold Fv at h
  rw[sA]at h;obtain⟨m,hm,h⟩:=h
  cases h;obtain⟨h1,rfl⟩:=FQ hm
  refine⟨.int p.1 (p.2.fdiv (2^(min n.toNat p.1.bits))),Hr (Np (.inl (by grind)) (by grind)) ?_,by rw[uA];simp⟩
  rw[hx,hy];simp[binOp,Op.shift,h1]
theorem Nn{n m:Nat}{a b:zA}{r:Bool}(h:Df n m a b=some r):(a.tag=n/\b.tag=n/\r=true)\/(a.tag=n/\b.tag=m/\r=false)\/(a.tag=m/\b.tag=n/\r=false):=by
 grind [Df,fC,vB]
theorem zcc{t:Nat}{ty:mD}(hF:sM P t ty){a b:zA}{va vb:Value}(ha:uA μ a va)(hb:uA μ b vb){r:Bool}{d:Nat}(h:Nq ty.desc a b=some r) :
  (Op.equalIn (d+1) t va vb).run P w=.ok r w:=by
 obtain⟨D,hD⟩:=hF.und
 have h0:=hF.desc
 unfold nP at h0;rw[hD]at h0;unfold Op.equalIn;rw[yad,wF hD,yac];rw[<- h0]at h
 cases D<;>simp only[Nq]at h<;>try (cases h;done)
 case bool=>
  simp only[Jb,sA,Dl]at h;obtain⟨x,rfl,y,rfl,h⟩:=h
  simp_all [uA,xV]
 case int k=>
  simp only[znf,sA,zX,vB,uM]at h;obtain⟨x,rfl,y,rfl,hk,h⟩:=h
  simp_all [uA,Al]
 case string=>
  simp only[BA,sA,aW]at h;obtain⟨x,rfl,y,rfl,h⟩:=h
  cases h;rw[uA]at ha hb;obtain⟨s,rfl,rfl⟩:=ha
  obtain⟨u,rfl,rfl⟩:=hb
  have:(s == u)=wG (tF s) (tF u):=by
   rw[Bool.eq_iff_iff,gK];have h1:(s == u)=(s.data == u.data):=rfl
   grind [tF,Tu]
  simp_all
 case pointer el=>
  rcases Nn h with⟨h1,h2,rfl⟩ | ⟨h1,h2,rfl⟩ | ⟨h1,h2,rfl⟩<;>cases a<;>simp[zA.tag]at h1<;>cases b<;>simp[zA.tag]at h2<;>rw[uA]at ha<;>rw[uA]at hb
  ·simp_all
  ·obtain⟨i,_,hb⟩:=hb;simp_all
  ·obtain⟨i,_,ha⟩:=ha;simp_all
 case slice el=>
  rcases Nn h with⟨h1,h2,rfl⟩ | ⟨h1,h2,rfl⟩ | ⟨h1,h2,rfl⟩<;>cases a<;>simp[zA.tag]at h1<;>cases b<;>simp[zA.tag]at h2<;>rw[uA]at ha<;>rw[uA]at hb
  ·simp_all
  ·rcases hb with⟨i,_,_,hb,_⟩ | ⟨_,_,_,_,_,hb,_⟩ <;> (simp_all)
  ·rcases ha with⟨i,_,_,ha,_⟩ | ⟨_,_,_,_,_,ha,_⟩ <;> (simp_all)
 case map k el=>
  rcases Nn h with⟨h1,h2,rfl⟩ | ⟨h1,h2,rfl⟩ | ⟨h1,h2,rfl⟩<;>cases a<;>simp[zA.tag]at h1<;>cases b<;>simp[zA.tag]at h2<;>rw[uA]at ha<;>rw[uA]at hb
  ·simp_all
  ·obtain⟨i,_,hb⟩:=hb;simp_all
  ·obtain⟨i,_,ha⟩:=ha;simp_all
 case func ps rs vd=>
  rcases Nn h with⟨h1,h2,rfl⟩ | ⟨h1,h2,rfl⟩ | ⟨h1,h2,rfl⟩<;>cases a<;>simp[zA.tag]at h1<;>cases b<;>simp[zA.tag]at h2<;>rw[uA]at ha<;>rw[uA]at hb
  ·simp_all
  ·obtain⟨i,_,_,hb,_⟩:=hb;simp_all
  ·obtain⟨i,_,_,ha,_⟩:=ha;simp_all
 case interface ms=>
  rcases Nn h with⟨h1,h2,rfl⟩ | ⟨h1,h2,rfl⟩ | ⟨h1,h2,rfl⟩<;>cases a<;>simp[zA.tag]at h1<;>cases b<;>simp[zA.tag]at h2<;>rw[uA]at ha<;>rw[uA]at hb
  ·simp_all
  ·obtain⟨i,hb,_⟩:=hb;simp_all
  ·obtain⟨i,ha,_⟩:=ha;simp_all
theorem NW{t:Nat}{g:Array Field}(h:P.underlying t=some (.struct g)):P.fieldsOf t=g:=by unfold Program.fieldsOf;rw[h]
theorem zhc(hT:rF P C){D:Nat}{eq:Nat->zA->zA->Option Bool}(heq:∀t a b va vb r,uA μ a va->uA μ b vb->eq t a b=some r->(Op.equalIn D t va vb).run P w=.ok r w)
  {xs ys : List zA} {vx vy : Array Value} (hx : oB μ xs vx.toList) (hy : oB μ ys vy.toList) : ∀ (g : List Field) (r : Bool), (∀ f ∈ g, f.name ≠ "_") -> Jt C eq xs ys (g.map fun f => (f.offset, f.type, P.cellsOf f.type)) = some r →
   (Op.eqFields D vx vy g).run P w=.ok r w:=by
 intro g;induction g with
 | nil=>intro r _ h;cases h;rfl
 | cons f g ih=>
  intro r hn h;rw[ycm,Jt]at h;simp only[sA]at h;obtain⟨a,ha,b,hb,q,hq,h⟩:=h
  obtain⟨va,h1,h2⟩:=Ly (P:=P) (w:=w) hT hx ha
  obtain⟨vb,h3,h4⟩:=Ly (P:=P) (w:=w) hT hy hb
  have h5:=heq _ _ _ _ _ _ h2 h4 hq
  rw[Op.eqFields,yab (hn f (by simp))]
  simp only[yad,h1,yac,h3,h5]
  cases q with
  | true=>grind
  | false=>simp_all
theorem zj2(hT:rF P C):∀(d D t:Nat) (a b:zA) (va vb:Value) (r:Bool),d<=D->uA μ a va->uA μ b vb->aeq C d t a b=some r->(Op.equalIn D t va vb).run P w=.ok r w:=by
 intro d;induction d with
 | zero=>intro D t a b va vb r _ _ _ h;cases h
 | succ d ih=>
  intro D t a b va vb r hD ha hb h
  cases D with
  | zero=>omega
  | succ D=>
   rw[aeq,sA]at h;obtain⟨ty,hty,h⟩:=h
   have hF:=hT.facts hty
   split at h
   ·rename_i fs hfs
    simp only[vB,sA,Jr]at h;obtain⟨hok,xs,rfl,ys,rfl,h⟩:=h
    obtain⟨g,hg,rfl⟩:=Ge hF hfs
    obtain⟨h1,_,h3⟩:=hF.eqOk hok
    grind [uA,NW,run_equalIn_struct,zhc]
   grind [zcc]
theorem zn9(hT:rF P C){d t:Nat}{a b:zA}{l m:Array Value}{r:Bool}(ha:uA μ a (.agg l))(hb:uA μ b (.agg m))(h:aeq C d t a b=some r):P.eqGuardType P.depth t=false:=by
 cases d with
 | zero=>cases h
 | succ d=>
  rw[aeq,sA]at h;obtain⟨ty,hty,h⟩:=h
  split at h
  ·rw[vB]at h;exact((hT.facts hty).eqOk h.1).2.1
  ·exfalso
   have hag:∀(a:zA) (l:Array Value),uA μ a (.agg l)->a.tag=13:=by
    intro a l ha
    cases a<;>rw[uA]at ha<;>first | rfl | (exfalso;revert ha;simp)
   have h1:=hag _ _ ha
   have h2:=hag _ _ hb
   cases a<;>simp[zA.tag]at h1
   cases b<;>simp[zA.tag]at h2
   revert h
   cases ty.desc<;>simp[Nq,Jb,zA.asBool,znf,zA.asIntK,BA,zA.asStr,Df,Tc,zA.tag,wB,Nat.beq]
def DV{a:zA}{v:Value}(h:uA μ a v):v=.nilIface->a.tag=12:=by
 intro hv;subst hv
 cases a<;>rw[uA]at h<;>first | rfl | (exfalso;revert h;simp)
theorem QF(hT:rF P C){op:BinOp}{t yt:TypeId}{x y:Operand}{a b:zA}{neg:Bool}(hx:uA μ a (ρ x))(hy:uA μ b (ρ y))(ha:a.asIntK=none)(hs:a.asStr=none)
  (hop:(neg=false/\op=.eql)\/(neg=true/\op=.neq)) (h:Ua neg C t x y a b=some v):nI P μ w ρ ⟨dst,.binOp op t x y yt,type,pos,after,guard⟩ v:=by
 unfold Ua at h;simp only[vB,sA]at h;obtain⟨hg,r,hr,h⟩:=h
 cases h;have h1:(Op.equal t (ρ x) (ρ y)).run P w=.ok r w:=zj2 hT 20 10000 t a b _ _ r (by decide) hx hy hr
 have hG:(eqGuard op t x y (ρ x) (ρ y)).run P w=.ok () w:=by
  by_cases hag:∃l m,ρ x=.agg l/\ρ y=.agg m
  ·grind [XQ,zn9]
  ·refine Np ?_ fun l m hlm=>hag ⟨l,m,hlm⟩
   by_cases hn:ρ x=.nilIface/\ρ y=.nilIface
   ·right
    have h2:=DV hx hn.1
    have h3:=DV hy hn.2
    simp_all [OF]
   simp_all
 have hnx:∀k n,ρ x≠.int k n:=by
  intro k n hv;rw[hv]at hx
  cases a<;>rw[uA]at hx<;>first | (simp[zA.asIntK]at ha;done) | (revert hx;simp)
 have hsx:∀s,ρ x≠.string s:=by
  intro s hv;rw[hv]at hx
  cases a<;>rw[uA]at hx<;>first | (simp[zA.asStr]at hs;done) | (revert hx;simp)
 have hfx:∀k n,ρ x≠.float k n:=by
  intro k n hv;rw[hv]at hx
  cases a<;>rw[uA]at hx<;>revert hx<;>simp
 have hcx:∀k n m,ρ x≠.complex k n m:=by
  intro k n m hv;rw[hv]at hx
  cases a<;>rw[uA]at hx<;>revert hx<;>simp
 rcases hop with⟨rfl,rfl⟩ | ⟨rfl,rfl⟩
 ·refine⟨.bool r,Hr hG ?_,by rw[uA];rfl⟩
  revert h1 hnx hsx hfx hcx
  generalize ρ x=vx
  generalize ρ y=vy
  intro h1 hnx hsx hfx hcx
  cases vx<;>first
   | exact absurd rfl (hnx _ _)
   | exact absurd rfl (hsx _)
   | exact absurd rfl (hfx _ _)
   | exact absurd rfl (hcx _ _ _)
   | simp[binOp,h1]
 ·refine⟨.bool (!r),Hr hG ?_,by rw[uA];rfl⟩
  revert h1 hnx hsx hfx hcx
  generalize ρ x=vx
  generalize ρ y=vy
  intro h1 hnx hsx hfx hcx
  cases vx<;>first
   | exact absurd rfl (hnx _ _)
   | exact absurd rfl (hsx _)
   | exact absurd rfl (hfx _ _)
   | exact absurd rfl (hcx _ _ _)
   | simp[binOp,h1]
theorem LG(hT:rF P C)(hE:oF μ e ρ){op:BinOp}{t yt:Nat}{x y:Operand}(h:rW op t x y C e H=some v):nI P μ w ρ ⟨dst,.binOp op t x y yt,type,pos,after,guard⟩ v:=by
 unfold rW at h;simp only[sA]at h;obtain⟨a,ha,b,hb,h⟩:=h
 have hx:=hE _ _ ha
 have hy:=hE _ _ hb
 clear ha hb
 revert h
 have plain:∀op,op≠.shl->op≠.shr->BW op C t x y a b=some v->nI P μ w ρ ⟨dst,.binOp op t x y yt,type,pos,after,guard⟩ v:=by
  intro op _ _ h;unfold BW at h;split at h
  ·rename_i i hi
   simp only[sA,zX,vB,uM]at h;obtain⟨j,rfl,hk,h⟩:=h
   rw[zX]at hi;subst hi;rw[uA]at hx;rw[uA]at hy;obtain⟨_,_,h2⟩:=zdb (P:=P) (μ:=μ) (w:=w) h
   obtain⟨v',h3,h4⟩:=h2 t
   refine⟨v',Hr (Np (.inl (by grind)) (by grind)) ?_,h4⟩
   simp_all
  ·rename_i hi
   split at h
   ·rename_i s hs
    simp only[sA,aW]at h;obtain⟨u,rfl,h⟩:=h
    rw[aW]at hs;subst hs;rw[uA]at hx;rw[uA]at hy;obtain⟨sx,hx,rfl⟩:=hx
    obtain⟨sy,hy,rfl⟩:=hy
    obtain⟨_,_,h2⟩:=zc9 (P:=P) (μ:=μ) (w:=w) h
    obtain⟨v',h3,h4⟩:=h2 t
    refine⟨v',Hr (Np (.inl (by grind)) (by grind)) ?_,h4⟩
    simp_all
   ·rename_i hs
    cases op<;>simp only[zda]at h<;>first
     | exact QF hT hx hy hi hs (.inl ⟨rfl,rfl⟩) h
     | exact QF hT hx hy hi hs (.inr ⟨rfl,rfl⟩) h
     | (cases h;done)
 intro h
 cases op<;>simp only[Bk]at h<;>first
  | exact QE hx hy (.inl ⟨rfl,h⟩)
  | exact QE hx hy (.inr ⟨rfl,h⟩)
  | exact plain _ (by simp) (by simp) h
theorem Zs{k:IntKind}(h:kLo k=0):pG k=2^k.bits:=by
 cases k<;>first
  | (cases h;done)
  | rfl
theorem zim(hE:oF μ e ρ){op:UnOp}{t:Nat}{x:Operand}(h:lUn op x C e H=some v):nI P μ w ρ ⟨dst,.unOp op t x,type,pos,after,guard⟩ v:=by
 unfold lUn at h;simp only[sA]at h;obtain⟨a,ha,h⟩:=h
 have hx:=hE _ _ ha
 cases op<;>simp only[unA]at h<;>try (cases h;done)
 case neg=>
  simp only[unNeg,sA,zX]at h;obtain⟨p,rfl,h⟩:=h
  cases h;rw[uA]at hx;refine⟨.int p.1 (p.1.wrap (0-p.2)),?_,by rw[uA,aO]⟩
  simp[execOp,hx,Op.unary,Op.intArith]
 case xor=>
  simp only[El,sA,zX,vB,fC]at h;obtain⟨p,rfl,hk,h⟩:=h
  obtain⟨a,b,ha1,hb,hx1,hy,rfl⟩:=Sm h
  rw[uA]at hx;have h1:Nat.xor a b<pG p.1:=by
   have:Nat.xor a b<2^p.1.bits:=Nat.xor_lt_two_pow (by grind [Zs]) (by grind [Zs])
   grind [Zs]
  refine⟨.int p.1 (Nat.xor a b:Nat),?_,by rw[uA]⟩
  have hm:(if p.1.signed then(-1:Int)else p.1.max)=(a:Int):=by
   rw[<- ha1];revert hk
   cases p.1<;>intro hk<;>first
    | (cases hk;done)
    | rfl
  have e2:(Op.intBits .xor p.1 (if p.1.signed then -1 else p.1.max) p.2).run P w=.ok (.int p.1 (Nat.xor a b:Nat)) w:=by
   rw[hm,hb];simp only[Op.intBits,BitVec.toNat_xor,Bg hx1,Bg hy];rw[show(a ^^^ b:Nat)=Nat.xor a b from rfl,Ed h1]
   rfl
  simp_all [execOp,Op.unary]
 case not=>
  simp only[unNot,sA,Dl]at h;obtain⟨b,rfl,h⟩:=h
  cases h;rw[uA]at hx;refine⟨.bool (!b),?_,by rw[uA]⟩
  simp[execOp,hx,Op.unary]
end
end Go.Am
