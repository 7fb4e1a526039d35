/- -/
import Derived.Below
import Derived.Calls
import Derived.Laws.Cells
import Derived.Laws.Sem
import Derived.Laws.StructEq
import Derived.Laws.World
import Derived.Lib.Strings
set_option linter.all false
noncomputable section
namespace Go.Am
def yaa := @if_neg
def yab := @if_pos
def yac := @Result.andThen_ok
def yad := @Sem.run_bind
def yae := @Sem.run_pure
def yaf := @List.mem_append
def yag := @Nat.pow_succ
def yah := @List.nil_append
def yai := @Option.bind_some
def yaj := @Array.getElem?_append_left
def yak := @List.drop_eq_nil_iff
def yal := @Bool.or_eq_false_iff
def yam := @Nat.lt_of_le_of_lt
def yan := @Nat.le_mul_of_pos_left
def yao := @Nat.pow_le_pow_right
def yap := @Nat.add_comm
def yaq := @List.mem_map
def yar := @Option.map_eq_some_iff
def yas := @List.flatten_cons
def yat := @Nat.mul_zero
def yau := @Nat.lt_or_ge
def yav := @Nat.eq_zero_or_pos
def yaw := @Nat.zero_le
def yax := @Array.toList_inj
def yay := @Bool.and_false
def yaz := @List.getElem?_cons_zero
def yba := @List.getElem?_cons_succ
def ybb := @Bool.and_eq_true
def ybc := @List.getElem?_eq_some_iff
def ybd := @List.getElem?_eq_getElem
def ybe := @Array.getElem?_eq_some_iff
def ybf := @List.length_map
def ybg := @List.length_append
def ybh := @Nat.mul_comm
def ybi := @Nat.mul_le_mul_right
def ybj := @Nat.mul_assoc
def ybk := @Nat.le_refl
def ybl := @List.drop_eq_getElem_cons
def ybm := @Nat.mul_add
def ybn := @List.length_cons
def ybo := @Nat.add_mul
def ybp := @List.getElem?_append_right
def ybq := @Bool.false_eq_true
def ybr := @List.mem_cons_of_mem
def ybs := @List.mem_cons
def ybt := @List.drop_eq_nil_of_le
def ybu := @List.getElem?_map
def ybv := @Nat.mul_le_mul_left
def ybw := @Nat.zero_add
def ybx := @List.length_nil
def yby := @List.mem_cons_self
def ybz := @List.append_assoc
def yca := @List.take_of_length_le
def ycb := @List.all_eq_true
def ycc := @List.length_eq_zero_iff
def ycd := @List.append_nil
def yce := @Nat.dvd_mul_left_of_dvd
def ycf := @List.mem_append_right
def ycg := @List.all_cons
def ych := @Nat.div_add_mod
def yci := @Option.some.inj
def ycj := @List.getElem_mem
def yck := @List.all_nil
def ycl := @Bool.not_false
def ycm := @List.map_cons
def ycn := @Bool.true_and
def yco := @List.getElem?_append_left
def ycp := @Bool.not_eq_true'
def ycq := @Bool.or_eq_true
def ycr := @List.drop_zero
def ycs := @Array.getElem?_setIfInBounds
def yct := @Nat.add_zero
def ycu := @Nat.div_lt_of_lt_mul
def ycv := @List.mem_of_getElem?
def ycw := @List.getElem?_set
def ycx := @Array.getD_eq_getD_getElem?
def ycy := @Nat.mod_lt
def ycz := @Array.length_toList
def yda := @List.length_take
def ydb := @Nat.mul_le_mul
def ydc := @List.mem_append_left
def ydd := @List.mem_singleton
def yde := @List.getElem?_drop
def ydf := @List.getElem?_take
def ydg := @List.take_add_one
def ydh := @List.length_set
def ydi := @List.all_append
def ydj := @List.length_drop
end Go.Am
namespace Go.Am
inductive Tr (α:Type) where
 | leaf
 | node (l:Tr α) (v:Option α) (r:Tr α)
def ob {α β:Type}(x:Option α)(f:α->Option β):Option β:=Option.rec (motive:=fun _=>Option β) none f x
namespace Tr
variable {α:Type}
def get (t:Tr α):Nat->Option α:=
 Tr.rec (motive:=fun _=>Nat->Option α) (fun _=>none)
  (fun _ v _ gl gr n=>Bool.rec (motive:=fun _=>Option α) (Bool.rec (motive:=fun _=>Option α) (gr (Nat.pred (Nat.div n (nat_lit 2)))) (gl (Nat.div n (nat_lit 2))) (Nat.beq (Nat.mod n (nat_lit 2)) (nat_lit 1))) v (Nat.beq n (nat_lit 0))) t
def mk (f:Nat):Nat->α->Tr α:=
 Nat.rec (motive:=fun _=>Nat->α->Tr α) (fun _ _=>leaf)
  (fun _ g n v=>Bool.rec (motive:=fun _=>Tr α) (Bool.rec (motive:=fun _=>Tr α) (node leaf none (g (Nat.pred (Nat.div n (nat_lit 2))) v)) (node (g (Nat.div n (nat_lit 2)) v) none leaf) (Nat.beq (Nat.mod n (nat_lit 2)) (nat_lit 1))) (node leaf (some v) leaf) (Nat.beq n (nat_lit 0))) f
def set (t:Tr α):Nat->α->Tr α:=
 Tr.rec (motive:=fun _=>Nat->α->Tr α) (fun n v=>mk (Nat.succ n) n v)
  (fun l x r gl gr n v=>Bool.rec (motive:=fun _=>Tr α) (Bool.rec (motive:=fun _=>Tr α) (node l x (gr (Nat.pred (Nat.div n (nat_lit 2))) v)) (node (gl (Nat.div n (nat_lit 2)) v) x r) (Nat.beq (Nat.mod n (nat_lit 2)) (nat_lit 1))) (node l (some v) r) (Nat.beq n (nat_lit 0))) t
def del (t:Tr α):Nat->Tr α:=
 Tr.rec (motive:=fun _=>Nat->Tr α) (fun _=>leaf)
  (fun l x r gl gr n=>Bool.rec (motive:=fun _=>Tr α) (Bool.rec (motive:=fun _=>Tr α) (node l x (gr (Nat.pred (Nat.div n (nat_lit 2))))) (node (gl (Nat.div n (nat_lit 2))) x r) (Nat.beq (Nat.mod n (nat_lit 2)) (nat_lit 1))) (node l none r) (Nat.beq n (nat_lit 0))) t
def many (t:Tr α)(n:Nat):Nat->Option (List α):=
 Nat.rec (motive:=fun _=>Nat->Option (List α)) (fun _=>some [])
  (fun _ g i=>ob (t.get i) fun v=>ob (g (i+1)) fun l=>some (v::l)) n
def setMany(l:List α):Tr α->Nat->Tr α:=
 List.rec (motive:=fun _=>Tr α->Nat->Tr α) (fun t _=>t) (fun v _ g t i=>g (t.set i v) (i+1)) l
def ofList(l:List α):Tr α:=setMany l leaf 0
end Tr
def fC {α:Type}(l:List α):Nat->Option α:=
 List.rec (motive:=fun _=>Nat->Option α) (fun _=>none) (fun a _ g n=>Bool.rec (motive:=fun _=>Option α) (g (Nat.pred n)) (some a) (Nat.beq n (nat_lit 0))) l
def wP{α:Type}(l:List α):Nat->List α:=
 List.rec (motive:=fun _=>Nat->List α) (fun _=>[]) (fun a l g n=>bif Nat.beq n 0 then a::l else g (n-1)) l
def kX{α:Type}(l:List α):Nat->List α:=
 List.rec (motive:=fun _=>Nat->List α) (fun _=>[]) (fun a _ g n=>bif Nat.beq n 0 then []else a::g (n-1)) l
def bA {α:Type}(l:List α):Nat:=List.rec (motive:=fun _=>Nat) 0 (fun _ _ n=>n+1) l
def qD {α:Type}(l m:List α):List α:=List.rec (motive:=fun _=>List α) m (fun a _ g=>a::g) l
def cB {α:Type}(p:α->Bool)(l:List α):Bool:=List.rec (motive:=fun _=>Bool) true (fun a _ g=>bif p a then g else false) l
def lG{α β:Type}(f:α->Option β)(l:List α):Option (List β):=
 List.rec (motive:=fun _=>Option (List β)) (some []) (fun a _ g=>ob (f a) fun b=>ob g fun r=>some (b::r)) l
def bC(a:List Nat):List Nat->Bool:=
 List.rec (motive:=fun _=>List Nat->Bool) (fun b=>b.isEmpty) (fun x _ g b=>List.rec (motive:=fun _=>Bool) false (fun y b _=>bif Nat.beq x y then g b else false) b) a
def kIdx:IntKind->Nat
 | .i8=>0 | .i16=>1 | .i32=>2 | .i64=>3 | .u8=>4 | .u16=>5 | .u32=>6 | .u64=>7
def eL (a b:IntKind):Bool:=Nat.beq (kIdx a) (kIdx b)
def bEq:Bool->Bool->Bool
 | true,b=>b
 | false,b => !b
def tC:Int->Int->Bool
 | .ofNat a,.ofNat b=>Nat.beq a b
 | .negSucc a,.negSucc b=>Nat.beq a b
 | _,_=>false
def aF:Int->Int->Bool
 | .ofNat a,.ofNat b=>Nat.ble a b
 | .ofNat _,.negSucc _=>false
 | .negSucc _,.ofNat _=>true
 | .negSucc a,.negSucc b=>Nat.ble b a
def yC:Int->Int->Bool
 | .ofNat a,.ofNat b=>Nat.blt a b
 | .ofNat _,.negSucc _=>false
 | .negSucc _,.ofNat _=>true
 | .negSucc a,.negSucc b=>Nat.blt b a
def cF:IntKind->Nat
 | .i8=>128 | .i16=>32768 | .i32=>2147483648 | .i64=>9223372036854775808 | .u8=>256 | .u16=>65536 | .u32=>4294967296 | .u64=>18446744073709551616
def kLo:IntKind->Nat
 | .i8=>128 | .i16=>32768 | .i32=>2147483648 | .i64=>9223372036854775808 | _=>0
def lA(k:IntKind):Int->Int
 | .ofNat n=>bif Nat.blt n (cF k)then .ofNat n else k.wrap (.ofNat n)
 | .negSucc n=>bif Nat.blt n (kLo k)then .negSucc n else k.wrap (.negSucc n)
inductive oT where
 | func (f:Nat)
 | yld (l:Nat)
inductive zA where
 | bool (b:Bool)
 | int (k:IntKind) (n:Int)
 | str (l:List Nat)
 | nilptr
 | ptr (b off:Nat)
 | nilslice
 | slice (b off len cap:Nat)
 | nilmap
 | map (b:Nat)
 | func (fn:oT) (first captured:List zA)
 | nilfunc
 | iface (t:Nat) (v:zA)
 | niliface
 | agg (l:List zA)
 | tup (l:List zA)
structure Tm where
 k:Nat
 v:Tr zA
 t:List (Nat × zA)
def assoc(i:Nat)(l:List (Nat × zA)):Option zA:=
 List.rec (motive:=fun _=>Option zA) none (fun a _ g=>Bool.rec (motive:=fun _=>Option zA) g (some a.2) (Nat.beq i a.1)) l
def Tm.get(t:Tm)(i:Nat):Option zA:=Bool.rec (motive:=fun _=>Option zA) (assoc i t.t) (t.v.get i) (Nat.blt i t.k)
def Tm.set(t:Tm)(i:Nat)(x:zA):Tm:=Bool.rec (motive:=fun _=>Tm) ⟨t.k,t.v,(i,x)::t.t⟩ ⟨t.k,t.v.set i x,t.t⟩ (Nat.blt i t.k)
def Tm.cut(t:Tm):Tm:=⟨t.k,t.v,[]⟩
structure jG where
 fn:Option oT
 r:Nat
 args:List zA
structure lL where
 state:LoopState
 pending:Option Code
 fn:Nat
 n:Nat
 tm:Tm
 params:List Nat
 assign:Code
 body:Code
 defers:Nat
inductive Lo where
 | sz (n:Nat)
 | ty (t:Nat)
def Lo.es:Lo->Nat | .sz n=>n | .ty _=>1
def loEq:Lo->Lo->Bool
 | .sz a,.sz b=>Nat.beq a b
 | .ty a,.ty b=>Nat.beq a b
 | _,_=>false
inductive vA where
 | cells (c:Tr zA) (n:Nat) (loose:Option Lo)
 | map (l:List (zA × zA))
 | loop (l:lL)
 | deferred (l:Option (List jG))
 | siter (s:List Nat) (pos:Nat)
structure xA where
 next:Nat
 t:Tr vA
inductive yE where
 | bool | int (k:IntKind) | string
 | ptr (e:Nat) | slice (e:Nat) | arr (n e:Nat) | map (k e:Nat)
 | struct (fs:List (Nat × Nat × Nat))
 | func | iface | other
structure rC where
 desc:yE
 size:Nat
 bytes:Nat
 zero:List zA
 eqOk:Bool
structure iE where
 heavy:Nat
 lights:List Nat
 again:List Nat
structure Plan where
 first:List Nat
 stages:List iE
 olds:List (Nat × List Nat)
structure rA where
 fns:Tr Func
 ks:Tr Nat
 tys:Tr rC
 plans:Tr (Tr Plan)
 prims:Tr (List zA->xA->Option (zA × xA))
 base:Nat
 root:Nat
inductive mD where
 | code (c:Code)
 | inBlock (id:Nat)
 | inLoop (c:Code)
 | inScope (c:Code)
 | ops (all:Array Oper) (rest:List Oper)
 | reg (all:Array Oper) (old:Tm) (olds:List (Nat × List Nat)) (stages:List iE)
 | inRange (l:Nat)
 | endRange (l:Nat)
 | beginRound
structure Bf where
 v:zA
 recovered:Bool
inductive qT where
 | run | returning
 | panicking (chain:List Bf)
structure kI where
 fn:Nat
 n:Nat
 defers:List jG
 mode:qT
 deferred:Bool
 roundOf:Option Nat
structure pB where
 todo:List mD
 tm:Tm
 R:kI
structure iP where
 fr:pB
 cs:List pB
 H:xA
inductive yF where
 | next (s:iP)
 | done (v:zA) (H:xA)
 | fail (why:Nat)
def zA.asBool:zA->Option Bool | .bool b=>some b | _=>none
def zA.asInt:zA->Option Int | .int _ n=>some n | _=>none
def zA.asIntK:zA->Option (IntKind × Int) | .int k n=>some (k,n) | _=>none
def zA.asStr:zA->Option (List Nat) | .str l=>some l | _=>none
def zA.asPtr:zA->Option (Nat × Nat) | .ptr b o=>some (b,o) | _=>none
def zA.asSlice:zA->Option (Nat × Nat × Nat × Nat) | .slice b o l c=>some (b,o,l,c) | _=>none
def zA.asMap:zA->Option Nat | .map b=>some b | _=>none
def zA.asAgg:zA->Option (List zA) | .agg l=>some l | _=>none
def zA.asTup:zA->Option (List zA) | .tup l=>some l | _=>none
def zA.asFunc:zA->Option (oT × List zA × List zA) | .func f a b=>some (f,a,b) | _=>none
def zA.asIface:zA->Option (Nat × zA) | .iface t v=>some (t,v) | _=>none
def zA.tag:zA->Nat
 | .bool _=>0 | .int _ _=>1 | .str _=>2 | .nilptr=>3 | .ptr _ _=>4 | .nilslice=>5 | .slice _ _ _ _=>6 | .nilmap=>7 | .map _=>8
 | .func _ _ _=>9 | .nilfunc=>10 | .iface _ _=>11 | .niliface=>12 | .agg _=>13 | .tup _=>14
def gL:Int->Option Nat | .ofNat n=>some n | .negSucc _=>none
def zA.asNat(v:zA):Option Nat:=ob v.asInt gL
def zA.cells(v:zA):List zA:=
 match v.asAgg with
 | some l=>l
 | none=>[v]
def zA.one(v:zA):Bool:=Nat.blt v.tag 13
def yE.asInt:yE->Option IntKind | .int k=>some k | _=>none
def yE.asSlice:yE->Option Nat | .slice e=>some e | _=>none
def yE.asArr:yE->Option (Nat × Nat) | .arr n e=>some (n,e) | _=>none
def yE.asMap:yE->Option (Nat × Nat) | .map k e=>some (k,e) | _=>none
def yE.asStruct:yE->Option (List (Nat × Nat × Nat)) | .struct fs=>some fs | _=>none
def yE.tag:yE->Nat
 | .bool=>0 | .int _=>1 | .string=>2 | .ptr _=>3 | .slice _=>4 | .arr _ _=>5 | .map _ _=>6 | .struct _=>7 | .func=>8 | .iface=>9 | .other=>10
def yE.isAgg(d:yE):Bool:=bif Nat.beq d.tag 5 then true else Nat.beq d.tag 7
def yE.isString(d:yE):Bool:=Nat.beq d.tag 2
def vA.asCells:vA->Option (Tr zA × Nat × Option Lo) | .cells c n l=>some (c,n,l) | _=>none
def vA.asMap:vA->Option (List (zA × zA)) | .map l=>some l | _=>none
def vA.asLoop:vA->Option lL | .loop l=>some l | _=>none
def vA.asDeferred:vA->Option (Option (List jG)) | .deferred l=>some l | _=>none
def vA.asIter:vA->Option (List Nat × Nat) | .siter s p=>some (s,p) | _=>none
def yB{α:Type}(b:Bool)(x:Option α):Option α:=Bool.rec (motive:=fun _=>Option α) none x b
def rD:zA:=.tup []
def aE(s:ByteArray):List Nat:=s.data.toList.map UInt8.toNat
def Ch:Value->Option zA
 | .bool b=>some (.bool b)
 | .int k n=>some (.int k n)
 | .string s=>some (.str (aE s))
 | .pointer none=>some .nilptr
 | .slice none 0 0=>some .nilslice
 | .map none=>some .nilmap
 | .nilFunc=>some .nilfunc
 | .nilIface=>some .niliface
 | _=>none
def zbk:Value->Option (Array Value)
 | .agg cs=>some cs
 | _=>none
def Vt(v:Value):Option zA:=
 match zbk v with
 | some cs=>ob (lG Ch cs.toList) fun l=>some (.agg l)
 | none=>Ch v
inductive kC where
 | now (tm:Tm)
 | mixed (tm old:Tm) (olds names:List Nat)
def bG(i:Nat)(l:List Nat):Bool:=List.rec (motive:=fun _=>Bool) false (fun j _ g=>bif Nat.beq i j then true else g) l
def sV (t:Nat)(e:kC):Option zA:=
 match e with
 | .now tm=>tm.get t
 | .mixed tm old olds names=>bif bG t names then Tm.get (bif bG t olds then old else tm) t else none
def xConst(v:Value)(_:kC):Option zA:=Vt v
def Ri(g:Nat)(_:kC):Option zA:=bif Nat.blt g 256 then some (.ptr g 0)else none
def xFunc(f:Nat)(_:kC):Option zA:=some (.func (.func f) [] [])
structure EB where f:kC->Option zA
def evB:Operand->EB
 | .tmp t=>⟨sV t⟩
 | .const v=>⟨xConst v⟩
 | .global g=>⟨Ri g⟩
 | .func f=>⟨xFunc f⟩
def ev (x:Operand)(e:kC):Option zA:=(evB x).f e
def lM (l:List Operand)(e:kC):Option (List zA):=lG (fun x=>ev x e) l
def jR (x:Option Operand)(e:kC):Option (Option zA):=
 match x with
 | none=>some none
 | some x=>ob (ev x e) fun v=>some (some v)
def kR (l:List (Nat × Operand))(e:kC):Option (List (Nat × zA)):=lG (fun x=>ob (ev x.2 e) fun v=>some (x.1,v)) l
def bD(H:xA)(b:Nat):Option (Tr zA × Nat × Option Lo):=ob (H.t.get b) vA.asCells
def lJ(H:xA)(b:Nat):Option (List (zA × zA)):=ob (H.t.get b) vA.asMap
def sQ(ty:rC)(c:Tr zA)(off:Nat):Option zA:=
 bif ty.desc.isAgg then ob (c.many ty.size off) fun l=>some (.agg l)else c.get off
def eO(C:rA)(t:Nat)(l:List zA)(off:Nat):Option zA:=
 ob (C.tys.get t) fun ty=>bif ty.desc.isAgg then some (.agg (kX (wP l off) ty.size))else fC l off
def uV(ty:rC):zA:=
 bif ty.desc.isAgg then .agg ty.zero else match ty.zero with
  | v::_=>v
  | []=>rD
def Wl(a:List Nat):List Nat->Bool:=
 List.rec (motive:=fun _=>List Nat->Bool) (fun b => !b.isEmpty)
  (fun x _ g b=>List.rec (motive:=fun _=>Bool) false (fun y b _=>bif Nat.blt x y then true else bif Nat.beq x y then g b else false) b) a
def Fj(a b:zA):Option Bool:=ob a.asBool fun x=>ob b.asBool fun y=>some (bEq x y)
def zdn(a b:zA):Option Bool:=ob a.asIntK fun x=>ob b.asIntK fun y=>yB (eL x.1 y.1) (some (tC x.2 y.2))
def Xz(a b:zA):Option Bool:=ob a.asStr fun x=>ob b.asStr fun y=>some (bC x y)
def An(n m:Nat)(a b:zA):Option Bool:=
 bif Nat.beq a.tag n then(bif Nat.beq b.tag n then some true else yB (Nat.beq b.tag m) (some false))
 else yB (Nat.beq a.tag m&&Nat.beq b.tag n) (some false)
def Py(_ _:zA):Option Bool:=none
def Kn:yE->zA->zA->Option Bool
 | .bool=>Fj
 | .int _=>zdn
 | .string=>Xz
 | .ptr _=>An 3 4
 | .iface=>An 12 11
 | .slice _=>An 5 6
 | .map _ _=>An 7 8
 | .func=>An 10 9
 | .arr _ _=>Py
 | .struct _=>Py
 | .other=>Py
def Gc(C:rA)(eq:Nat->zA->zA->Option Bool)(xs ys:List zA):List (Nat × Nat × Nat)->Option Bool
 | []=>some true
 | f::fs=>ob (eO C f.2.1 xs f.1) fun a=>ob (eO C f.2.1 ys f.1) fun b=>ob (eq f.2.1 a b) fun r=>bif r then Gc C eq xs ys fs else some false
def aeq (C:rA):Nat->Nat->zA->zA->Option Bool
 | 0,_,_,_=>none
 | d+1,t,x,y=>ob (C.tys.get t) fun ty=>
  match ty.desc.asStruct with
  | some fs=>yB ty.eqOk (ob x.asAgg fun xs=>ob y.asAgg fun ys=>Gc C (aeq C d) xs ys fs)
  | none=>Kn ty.desc x y
def iAdd (k:IntKind)(a b:Int):Option zA:=some (.int k (lA k (a+b)))
def iSub (k:IntKind)(a b:Int):Option zA:=some (.int k (lA k (a-b)))
def iMul (k:IntKind)(a b:Int):Option zA:=some (.int k (lA k (a*b)))
def aX (k:IntKind)(a b:Int):Option zA:=bif tC b 0 then none else some (.int k (lA k (a.tdiv b)))
def bX (k:IntKind)(a b:Int):Option zA:=bif tC b 0 then none else some (.int k (a.tmod b))
def mH(f:Nat->Nat->Nat)(k:IntKind)(a b:Int):Option zA:=ob (gL a) fun x=>ob (gL b) fun y=>yB (Nat.blt x (cF k)&&Nat.blt y (cF k)) (some (.int k (.ofNat (f x y))))
def kW:IntKind->Nat
 | .i8=>256 | .u8=>256 | .i16=>65536 | .u16=>65536 | .i32=>4294967296 | .u32=>4294967296 | .i64=>18446744073709551616 | .u64=>18446744073709551616
def Ka (k:IntKind)(a b:Int):Option zA:=
 match gL a with
 | some _=>mH Nat.land k a b
 | none=>ob (gL b) fun y=>yB (Nat.blt y (cF k)) (some (.int k (.ofNat (Nat.land (Int.toNat (Int.emod a (.ofNat (kW k)))) y))))
def iEql (_:IntKind)(a b:Int):Option zA:=some (.bool (tC a b))
def iNeq (_:IntKind)(a b:Int):Option zA:=some (.bool (!tC a b))
def iLss (_:IntKind)(a b:Int):Option zA:=some (.bool (yC a b))
def iLeq (_:IntKind)(a b:Int):Option zA:=some (.bool (aF a b))
def iGtr (_:IntKind)(a b:Int):Option zA:=some (.bool (yC b a))
def iGeq (_:IntKind)(a b:Int):Option zA:=some (.bool (aF b a))
def iNone(_:IntKind)(_ _:Int):Option zA:=none
structure IB where f:IntKind->Int->Int->Option zA
def Yr:BinOp->IB
 | .add=>⟨iAdd⟩ | .sub=>⟨iSub⟩ | .mul=>⟨iMul⟩ | .quo=>⟨aX⟩ | .rem=>⟨bX⟩
 | .and=>⟨Ka⟩ | .or=>⟨mH Nat.lor⟩ | .xor=>⟨mH Nat.xor⟩
 | .eql=>⟨iEql⟩ | .neq=>⟨iNeq⟩ | .lss=>⟨iLss⟩ | .leq=>⟨iLeq⟩ | .gtr=>⟨iGtr⟩ | .geq=>⟨iGeq⟩
 | _=>⟨iNone⟩
def aP (a b:List Nat):Option zA:=yB (Nat.blt (bA a+bA b) 4611686018427387904) (some (.str (qD a b)))
def sEql (a b:List Nat):Option zA:=some (.bool (bC a b))
def sNeq (a b:List Nat):Option zA:=some (.bool (!bC a b))
def sLss (a b:List Nat):Option zA:=some (.bool (Wl a b))
def sNone(_ _:List Nat):Option zA:=none
structure SB where f:List Nat->List Nat->Option zA
def Yp:BinOp->SB
 | .add=>⟨aP⟩ | .eql=>⟨sEql⟩ | .neq=>⟨sNeq⟩ | .lss=>⟨sLss⟩
 | _=>⟨sNone⟩
def Jz:Operand->Bool
 | .const _=>true
 | _=>false
def Bz(k:IntKind)(b:Int):Option Nat:=ob (gL b) fun n=>some (min n k.bits)
def kU (k:IntKind)(a b:Int):Option zA:=ob (Bz k b) fun n=>some (.int k (lA k (a*.ofNat (2^n))))
def Co (k:IntKind)(a b:Int):Option zA:=ob (Bz k b) fun n=>some (.int k (a.fdiv (.ofNat (2^n))))
def Kx(f:IntKind->Int->Int->Option zA)(a b:zA):Option zA:=ob a.asIntK fun x=>ob b.asInt fun y=>f x.1 x.2 y
def JT(x y:Operand)(a b:zA):Bool:=
 bif Nat.beq a.tag 12&&Nat.beq b.tag 12 then Jz x||Jz y else true
def Qs(neg:Bool)(C:rA)(t:Nat)(x y:Operand)(a b:zA):Option zA:=
 yB (JT x y a b) (ob (aeq C 20 t a b) fun r=>some (.bool (bif neg then !r else r)))
def binNo(_:rA)(_:Nat)(_ _:Operand)(_ _:zA):Option zA:=none
structure BB where f:rA->Nat->Operand->Operand->zA->zA->Option zA
def LJ:BinOp->BB
 | .eql=>⟨Qs false⟩
 | .neq=>⟨Qs true⟩
 | _=>⟨binNo⟩
def Yq(op:BinOp)(C:rA)(t:Nat)(x y:Operand)(a b:zA):Option zA:=
 match a.asIntK with
 | some i=>ob b.asIntK fun j=>yB (eL i.1 j.1) ((Yr op).f i.1 i.2 j.2)
 | none=>match a.asStr with
  | some s=>ob b.asStr fun u=>(Yp op).f s u
  | none=>(LJ op).f C t x y a b
def binShl(_:rA)(_:Nat)(_ _:Operand)(a b:zA):Option zA:=Kx kU a b
def binShr(_:rA)(_:Nat)(_ _:Operand)(a b:zA):Option zA:=Kx Co a b
def rW:BinOp->BB
 | .shl=>⟨binShl⟩
 | .shr=>⟨binShr⟩
 | op=>⟨Yq op⟩
def unNeg(a:zA):Option zA:=ob a.asIntK fun x=>some (.int x.1 (lA x.1 (0-x.2)))
def unNot(a:zA):Option zA:=ob a.asBool fun b=>some (.bool (!b))
def Bq(a:zA):Option zA:=ob a.asIntK fun x=>yB (Nat.beq (kLo x.1) 0) (mH Nat.xor x.1 (.ofNat (cF x.1-1)) x.2)
def unNone(_:zA):Option zA:=none
structure UB where f:zA->Option zA
def unA:UnOp->UB
 | .neg=>⟨unNeg⟩
 | .xor=>⟨Bq⟩
 | .not=>⟨unNot⟩
 | _=>⟨unNone⟩
def Ql(v:zA):Option Nat:=ob v.asIntK fun x=>yB (eL x.1 .u8) (ob (gL x.2) fun n=>yB (Nat.blt n 256) (some n))
def Ku(H:xA)(a:zA):Option zA:=
 match a.asSlice with
 | some x=>ob (bD H x.1) fun c=>ob (c.1.many x.2.2.1 x.2.1) fun l=>ob (lG Ql l) fun r=>some (.str r)
 | none=>yB (Nat.beq a.tag 5) (some (.str []))
def yT(C:rA)(s d:rC)(a:zA)(H:xA):Option zA:=
 match d.desc.asInt with
 | some k=>ob a.asInt fun n=>some (.int k (lA k n))
 | none=>yB d.desc.isString (bif Nat.beq a.tag 2 then some a else
   ob s.desc.asSlice fun e=>ob (C.tys.get e) fun et=>ob et.desc.asInt fun k=>yB (eL k .u8) (Ku H a))
def eU(y:Nat)(v:zA):Option Nat:=ob v.asNat fun n=>yB (Nat.ble n y) (some n)
def dY(y dflt:Nat)(v:Option zA):Option Nat:=
 match v with
 | some v=>eU y v
 | none=>some dflt
def pP(len cap:Nat)(lo hi:Option zA):Option (Nat × Nat):=
 ob (dY cap len hi) fun h=>ob (dY h 0 lo) fun l=>some (l,h)
def wN(H:xA)(b size cap l:Nat)(arr:Bool):Bool:=
 match bD H b with
 | some c=>match c.2.2 with
  | none=>true
  | some es => !arr&&Nat.beq es.es size&&(!Nat.beq cap l||Nat.beq l 0)
 | none=>false
def sM(H:xA)(b size cap l:Nat)(arr:Bool):Bool:=
 match bD H b with
 | some c=>match c.2.2 with
  | none=>false
  | some es => !arr&&Nat.beq es.es size&&Nat.beq cap l && !Nat.beq l 0
 | none=>false
def jO(C:rA)(H:xA)(arr:Bool)(e b off len cap:Nat)(lo hi:Option zA):Option zA:=
 ob (C.tys.get e) fun et=>ob (pP len cap lo hi) fun x=>
  bif Nat.ble x.2 cap&&Nat.ble x.1 x.2&&sM H b et.size cap x.1 arr then some (.slice 0 1 0 0)else
  yB (Nat.ble x.2 cap&&wN H b et.size cap x.1 arr) (some (.slice b (bif Nat.beq cap x.1 then off else off+x.1*et.size) (x.2-x.1) (cap-x.1)))
def Hx(s:List Nat)(lo hi:Option zA):Option zA:=
 let n:=bA s
 ob (pP n n lo hi) fun x=>some (.str (wP (kX s x.2) x.1))
def rM(C:rA)(H:xA)(ty:rC)(x:zA)(lo hi:Option zA):Option zA:=
 match x.asStr with
 | some s=>yB ty.desc.isString (Hx s lo hi)
 | none=>match x.asSlice with
  | some r=>ob ty.desc.asSlice fun e=>jO C H false e r.1 r.2.1 r.2.2.1 r.2.2.2 lo hi
  | none=>match x.asPtr with
   | some p=>ob ty.desc.asArr fun a=>jO C H true a.2 p.1 p.2 a.1 a.1 lo hi
   | none=>yB (Nat.beq x.tag 5) (ob ty.desc.asSlice fun e=>ob (C.tys.get e) fun _=>ob (pP 0 0 lo hi) fun _=>some .nilslice)
def aS(cells:List zA)(off size:Nat)(v:zA):Option (List zA):=
 let vc:=v.cells
 let n:=bA vc
 yB (Nat.beq n size&&Nat.ble (off+n) (bA cells)) (some (qD (kX cells off) (qD vc (wP cells (off+n)))))
def yK(place:Nat->Option (Nat × Nat)):List (Nat × zA)->List zA->Option (List zA)
 | [],cells=>some cells
 | p::rest,cells=>ob (place p.1) fun q=>ob (aS cells q.1 q.2 p.2) fun cells=>yK place rest cells
def iS(d:yE):Bool:=Nat.ble d.tag 2
def keyTag(v:zA):Nat:=v.tag
def Cm(d:yE)(v:zA):Bool:=Nat.beq d.tag (keyTag v)
def sY(C:rA):List (Nat × Nat × Nat)->Nat->Bool
 | [],_=>true
 | f::fs,i=>bif Nat.beq f.1 i then(match C.tys.get f.2.1 with
  | some ty=>bif iS ty.desc then sY C fs (i+1)else false
  | none=>false)else false
def jS(C:rA)(ty:rC):Bool:=bif iS ty.desc then true else match ty.desc.asStruct with
 | some fs=>bif ty.eqOk then sY C fs 0 else false
 | none=>false
def pY(C:rA):List (Nat × Nat × Nat)->List zA->Bool
 | [],[]=>true
 | f::fs,v::l=>(match C.tys.get f.2.1 with
  | some ty=>bif Cm ty.desc v then pY C fs l else false
  | none=>false)
 | _,_=>false
def qQ(C:rA)(ty:rC)(v:zA):Bool:=bif iS ty.desc then Cm ty.desc v else match ty.desc.asStruct with
 | some fs=>(match v.asAgg with
  | some l=>pY C fs l
  | none=>false)
 | none=>false
def uP(a b:zA):Option Bool:=
 match a.asIntK with
 | some x=>ob b.asIntK fun y=>yB (eL x.1 y.1) (some (tC x.2 y.2))
 | none=>match a.asStr with
  | some x=>ob b.asStr fun y=>some (bC x y)
  | none=>Fj a b
def lS:List zA->List zA->Option Bool
 | [],[]=>some true
 | a::x,b::y=>ob (uP a b) fun r=>ob (lS x y) fun s=>some (r&&s)
 | _,_=>none
def nH(a b:zA):Option Bool:=
 match a.asAgg with
 | some x=>ob b.asAgg fun y=>lS x y
 | none=>uP a b
def mJ(k:zA):List (zA × zA)->Option (Option zA)
 | []=>some none
 | e::l=>ob (nH k e.1) fun r=>bif r then some (some e.2)else mJ k l
def qM(k v:zA):List (zA × zA)->Option (List (zA × zA))
 | []=>some [(k,v)]
 | e::l=>ob (nH k e.1) fun r=>bif r then some ((k,v)::l)else ob (qM k v l) fun l=>some (e::l)
abbrev mI:=rA->kC->xA->Option zA
def eX:mI:=fun _ _ _=>none
def mM(x:Operand):mI:=fun _ e _=>ev x e
def Js(c a b:Operand):mI:=fun _ e _=>ob (ev c e) fun c=>ob c.asBool fun c=>bif c then ev a e else ev b e
def sU(t:Nat)(a:Operand):mI:=fun C e H=>ob (ev a e) fun v=>ob v.asPtr fun p=>ob (C.tys.get t) fun ty=>ob (bD H p.1) fun c=>sQ ty c.1 p.2
def dX (x:Operand):mI:=fun _ e _=>ob (ev x e) fun v=>yB (Nat.beq v.tag 4||Nat.beq v.tag 9) (some v)
def nU (op:BinOp)(t:Nat)(x y:Operand):mI:=fun C e _=>ob (ev x e) fun a=>ob (ev y e) fun b=>(rW op).f C t x y a b
def lUn (op:UnOp)(x:Operand):mI:=fun _ e _=>ob (ev x e) fun a=>(unA op).f a
def cN(s d:Nat)(x:Operand):mI:=fun C e H=>ob (ev x e) fun a=>ob (C.tys.get s) fun s=>ob (C.tys.get d) fun d=>yT C s d a H
def Ad(t:Nat)(x:Operand):mI:=fun C e _=>ob (C.tys.get t) fun ty=>yB (Nat.blt ty.desc.tag 9) (ob (ev x e) fun v=>some (.iface t v))
def Ew(f:Nat)(a b:Array Operand):mI:=fun _ e _=>ob (lM a.toList e) fun a=>ob (lM b.toList e) fun b=>some (.func (.func f) a b)
structure LB where f:mI
def Ae(fn:Fn)(a b:Array Operand):LB:=
 match fn with
 | .func f=>⟨Ew f a b⟩
 | _=>⟨eX⟩
def fX(t:Nat)(x:Operand)(lo hi:Option Operand):mI:=fun C e H=>
 ob (ev x e) fun a=>ob (jR lo e) fun l=>ob (jR hi e) fun h=>ob (C.tys.get t) fun ty=>rM C H ty a l h
def Jr(t:Nat)(x:Operand)(lo hi mx:Option Operand):LB:=
 match mx with
 | none=>⟨fX t x lo hi⟩
 | some _=>⟨eX⟩
def pU(s:Nat)(x:Operand)(f:Nat):mI:=fun C e _=>
 ob (C.tys.get s) fun ty=>ob ty.desc.asStruct fun fs=>ob (fC fs f) fun fd=>yB (!Nat.beq fd.2.2 0) (ob (ev x e) fun v=>ob v.asPtr fun p=>some (.ptr p.1 (p.2+fd.1)))
def Af(t:Nat)(x:Operand)(f:Nat):mI:=fun C e _=>
 ob (C.tys.get t) fun ty=>ob ty.desc.asStruct fun fs=>ob (fC fs f) fun fd=>ob (ev x e) fun v=>ob v.asAgg fun l=>eO C fd.2.1 l fd.1
def rU(t:Nat)(x i:Operand):mI:=fun C e _=>
 ob (C.tys.get t) fun ty=>ob (ev x e) fun v=>ob (ev i e) fun i=>ob i.asNat fun i=>
  match v.asSlice with
  | some s=>ob ty.desc.asSlice fun el=>ob (C.tys.get el) fun et=>yB (Nat.blt i s.2.2.1) (some (.ptr s.1 (s.2.1+i*et.size)))
  | none=>ob v.asPtr fun p=>ob ty.desc.asArr fun a=>ob (C.tys.get a.2) fun et=>yB (Nat.blt i a.1) (some (.ptr p.1 (p.2+i*et.size)))
def qU(t:Nat)(x i:Operand):mI:=fun C e _=>
 ob (C.tys.get t) fun ty=>ob (ev x e) fun v=>ob (ev i e) fun i=>ob i.asNat fun i=>
  match v.asStr with
  | some s=>yB ty.desc.isString (ob (fC s i) fun b=>some (.int .u8 (.ofNat b)))
  | none=>ob v.asAgg fun l=>ob ty.desc.asArr fun a=>ob (C.tys.get a.2) fun et=>yB (Nat.blt i a.1) (eO C a.2 l (i*et.size))
def oU(t:Operand)(i:Nat):mI:=fun _ e _=>ob (ev t e) fun v=>ob v.asTup fun l=>fC l i
def gV(t:Nat)(parts:Array (Nat × Operand)):mI:=fun C e _=>
 ob (C.tys.get t) fun ty=>ob (kR parts.toList e) fun ps=>
  match ty.desc.asStruct with
  | some fs=>ob (yK (fun i=>ob (fC fs i) fun x=>some (x.1,x.2.2)) ps ty.zero) fun l=>some (.agg l)
  | none=>ob ty.desc.asArr fun a=>ob (C.tys.get a.2) fun et=>ob (yK (fun i=>some (i*et.size,et.size)) ps ty.zero) fun l=>some (.agg l)
def mU(x:Operand)(asserted:Nat)(ok:Bool):mI:=fun C e _=>
 ob (C.tys.get asserted) fun ty=>yB (Nat.blt ty.desc.tag 9) (ob (ev x e) fun v=>
  match v.asIface with
  | some p=>bif Nat.beq p.1 asserted then some (bif ok then .tup [p.2,.bool true]else p.2)else yB ok (some (.tup [uV ty,.bool false]))
  | none=>yB (Nat.beq v.tag 12&&ok) (some (.tup [uV ty,.bool false])))
def yU(H:xA)(v:zA):Option (List (zA × zA)):=
 match v.asMap with
 | some b=>lJ H b
 | none=>yB (Nat.beq v.tag 7) (some [])
def tU(t:Nat)(x i:Operand)(ok:Bool):mI:=fun C e H=>
 ob (C.tys.get t) fun ty=>ob ty.desc.asMap fun ke=>ob (C.tys.get ke.1) fun kty=>yB (jS C kty) (ob (C.tys.get ke.2) fun ety=>
  ob (ev x e) fun m=>ob (yU H m) fun es=>ob (ev i e) fun k=>yB (qQ C kty k) (ob (mJ k es) fun r=>
   match r with
   | some v=>some (bif ok then .tup [v,.bool true]else v)
   | none=>some (bif ok then .tup [uV ety,.bool false]else uV ety)))
def mS (H:xA)(ty:rC)(v:zA):Option Nat:=
 match v.asStr with
 | some s=>yB ty.desc.isString (some (bA s))
 | none=>match v.asSlice with
  | some s=>yB (Nat.beq ty.desc.tag 4) (some s.2.2.1)
  | none=>match ty.desc.asArr with
   | some a=>some a.1
   | none=>match v.asMap with
    | some b=>yB (Nat.beq ty.desc.tag 6) (ob (lJ H b) fun l=>some (bA l))
    | none=>yB ((Nat.beq ty.desc.tag 4&&Nat.beq v.tag 5)||(Nat.beq ty.desc.tag 6&&Nat.beq v.tag 7)) (some 0)
def vP (c:Call):mI:=fun C e H=>
 ob (fC c.argTypes.toList 0) fun t=>ob (fC c.args.toList 0) fun x=>ob (C.tys.get t) fun ty=>ob (ev x e) fun v=>ob (mS H ty v) fun n=>some (.int .i64 (.ofNat n))
def two (c:Call)(e:kC):Option (zA × zA):=
 match c.args.toList with
 | [x,y]=>ob (ev x e) fun a=>ob (ev y e) fun b=>some (a,b)
 | _=>none
def vU (c:Call):mI:=fun _ e _=>ob (two c e) fun p=>ob p.1.asIntK fun x=>ob p.2.asIntK fun y=>some (.int x.1 (bif yC x.2 y.2 then y.2 else x.2))
def wU (c:Call):mI:=fun _ e _=>ob (two c e) fun p=>ob p.1.asIntK fun x=>ob p.2.asIntK fun y=>some (.int x.1 (bif yC y.2 x.2 then y.2 else x.2))
def Pd(c:Call):Builtin->LB
 | .len=>⟨vP c⟩
 | .max=>⟨vU c⟩
 | .min=>⟨wU c⟩
 | _=>⟨eX⟩
def mR(c:Call):Callee->LB
 | .builtin b=>Pd c b
 | _=>⟨eX⟩
def Wp(c:Call):LB:=mR c c.callee
def vF:Op->LB
 | .move x=>⟨mM x⟩
 | .assign x=>⟨mM x⟩
 | .pick c a b=>⟨Js c a b⟩
 | .load t a=>⟨sU t a⟩
 | .nilCheck x=>⟨dX x⟩
 | .binOp op t x y _=>⟨nU op t x y⟩
 | .unOp op _ x=>⟨lUn op x⟩
 | .convert s d x=>⟨cN s d x⟩
 | .makeInterface t x=>⟨Ad t x⟩
 | .makeFunc fn a b=>Ae fn a b
 | .slice t x lo hi mx=>Jr t x lo hi mx
 | .fieldAddr s x f=>⟨pU s x f⟩
 | .field t x f=>⟨Af t x f⟩
 | .indexAddr t x i=>⟨rU t x i⟩
 | .index t x i=>⟨qU t x i⟩
 | .extract t i=>⟨oU t i⟩
 | .build t ps=>⟨gV t ps⟩
 | .typeAssert x _ u ok=>⟨mU x u ok⟩
 | .lookup t x i ok=>⟨tU t x i ok⟩
 | .call c=>Wp c
 | _=>⟨eX⟩
inductive iI where
 | val (v:zA) (H:xA)
 | enter (f:Nat) (args:List zA)
 | round (l:Nat) (args:List zA)
 | defer (d:jG)
 | panic (v:zA)
 | recover
 | fail
abbrev kP:=rA->kC->xA->iI
structure HB where f:kP
def fJ (x:Option (zA × xA)):iI:=
 match x with
 | some p=>.val p.1 p.2
 | none=>.fail
def xX (x:Option iI):iI:=
 match x with
 | some r=>r
 | none=>.fail
def lv (f:mI):kP:=fun C e H=>
 match f C e H with
 | some v=>.val v H
 | none=>.fail
def newBlk(H:xA)(b:vA):xA:=⟨H.next+1,H.t.set H.next b⟩
def dE(H:xA)(l:List zA)(loose:Option Lo):xA:=newBlk H (.cells (Tr.ofList l) (bA l) loose)
def setBlk(H:xA)(b:Nat)(x:vA):xA:=⟨H.next,H.t.set b x⟩
def pH (zero:List zA):Nat->List zA
 | 0=>[]
 | n+1=>qD zero (pH zero n)
def Ev(v:zA):Option Nat:=
 match v.asSlice with
 | some s=>some s.2.2.1
 | none=>match v.asStr with
  | some s=>some (bA s)
  | none=>yB (Nat.beq v.tag 5) (some 0)
def tW(l:List Nat):List zA:=l.map fun n=>zA.int .u8 (Int.ofNat n)
def oY(H:xA)(size n:Nat)(v:zA):Option (List zA):=
 match v.asSlice with
 | some s=>ob (bD H s.1) fun c=>c.1.many (n*size) s.2.1
 | none=>match v.asStr with
  | some s=>some (tW (kX s n))
  | none=>yB (Nat.beq v.tag 5) (some [])
def wI(C:rA)(H:xA)(b off:Nat)(l:List zA):Option xA:=
 yB (!Nat.blt b C.base) (ob (bD H b) fun c=>
  yB (Nat.ble (off+bA l) c.2.1&&cB zA.one l) (some (setBlk H b (.cells (c.1.setMany l off) c.2.1 c.2.2))))
def wY(et:rC)(len cap n:Nat)(new:List zA):Bool:=
 Nat.blt (len+n+cap) 1000000000&&Nat.blt ((len+n+cap)*et.bytes) 1000000000&&Nat.blt et.bytes 1000000000 && !Nat.beq et.size 0&&Nat.beq (bA new) (n*et.size)&&Nat.beq (bA et.zero) et.size
def IK(et:rC):Bool:=match et.desc with | .int .u8=>true | _=>false
def yO(e:Nat)(et:rC):Lo:=bif Nat.beq et.size 1&&IK et then .ty e else .sz et.size
def aV(H:xA)(e:Nat)(et:rC)(n:Nat)(new:List zA):Option (zA × xA):=
 bif Nat.beq n 0 then some (.nilslice,H)else
  yB (wY et 0 0 n new) (some (.slice H.next 0 n n,dE H new (some (yO e et))))
def xY(C:rA)(H:xA)(et:rC)(n:Nat)(new:List zA)(s:Nat × Nat × Nat × Nat):Option (zA × xA):=
 match new with
 | []=>some (.slice s.1 s.2.1 (s.2.2.1+n) s.2.2.2,H)
 | _::_=>ob (wI C H s.1 (s.2.1+s.2.2.1*et.size) new) fun H'=>some (.slice s.1 s.2.1 (s.2.2.1+n) s.2.2.2,H')
def Fdzx(H:xA)(e:Nat)(et:rC)(n:Nat)(new:List zA)(s:Nat × Nat × Nat × Nat)(c:Tr zA):Option (zA × xA):=
 ob (c.many (s.2.2.1*et.size) s.2.1) fun old=>some (.slice H.next 0 (s.2.2.1+n) (s.2.2.1+n),dE H (qD old new) (some (yO e et)))
def Fe(C:rA)(H:xA)(e:Nat)(et:rC)(n:Nat)(new:List zA)(s:Nat × Nat × Nat × Nat)(c:Tr zA)(m:Nat)(lo:Lo):Option (zA × xA):=
 yB (Nat.beq s.2.1 0&&loEq lo (yO e et)&&Nat.ble (s.2.2.1*et.size) m&&Nat.ble m ((s.2.2.1+n)*et.size)&&cB zA.one new && !Nat.blt s.1 C.base)
  (some (.slice H.next 0 (s.2.2.1+n) (s.2.2.1+n),⟨H.next+1,(H.t.del s.1).set H.next (.cells (c.setMany new (s.2.2.1*et.size)) ((s.2.2.1+n)*et.size) (some lo))⟩))
def vY(C:rA)(H:xA)(e:Nat)(et:rC)(n:Nat)(new:List zA)(s:Nat × Nat × Nat × Nat):Option (zA × xA):=
 yB (!(Nat.beq s.2.1 1&&Nat.beq s.2.2.2 0)) (yB (wY et s.2.2.1 s.2.2.2 n new) (ob (bD H s.1) fun c=>
  match c.2.2 with
  | none=>Fdzx H e et n new s c.1
  | some lo=>Fe C H e et n new s c.1 c.2.1 lo))
def oW(C:rA)(H:xA)(ty:rC)(s x:zA):Option (zA × xA):=
 ob ty.desc.asSlice fun e=>ob (C.tys.get e) fun et=>ob (Ev x) fun n=>ob (oY H et.size n x) fun new=>
  match s.asSlice with
  | some s=>bif Nat.ble (s.2.2.1+n) s.2.2.2 then xY C H et n new s else vY C H e et n new s
  | none=>yB (Nat.beq s.tag 5) (aV H e et n new)
def isBld(C:rA)(t:Nat):Bool:=
 match ob (C.tys.get t) fun ty=>ob ty.desc.asStruct fun fs=>ob (fC fs 0) fun f=>ob (C.tys.get f.2.1) fun tf=>some tf.desc with
 | some (.ptr e)=>Nat.beq e t
 | _=>false
def qJ(C:rA)(t:Nat):Option Lo:=
 bif isBld C t then some (.ty t)else
 match ob (C.tys.get t) fun ty=>ob ty.desc.asStruct fun fs=>ob (fC fs 0) fun f=>some (isBld C f.2.1)with
 | some true=>some (.ty t)
 | _=>none
def Aj(t:Nat):kP:=fun C _ H=>fJ (ob (C.tys.get t) fun ty=>some (.ptr H.next 0,dE H ty.zero (qJ C t)))
def yY (t:Nat)(x:Operand):kP:=fun C e H=>fJ (ob (ev x e) fun v=>some (.ptr H.next 0,dE H v.cells (qJ C t)))
def jX (C:rA):Op->Option Lo
 | .alloc t=>qJ C t
 | .box t _=>qJ C t
 | _=>none
def Ai(t len:Nat)(parts:Array (Nat × Operand)):kP:=fun C e H=>fJ (ob (C.tys.get t) fun ty=>ob ty.desc.asSlice fun el=>ob (C.tys.get el) fun et=>
 yB (Nat.blt (len*et.size) 1000000&&Nat.beq (bA et.zero) et.size) (ob (kR parts.toList e) fun ps=>ob (yK (fun i=>some (i*et.size,et.size)) ps (pH et.zero len)) fun l=>some (.slice H.next 0 len len,dE H l none)))
def Kb(t:Nat)(a x:Operand):kP:=fun C e H=>fJ (ob (C.tys.get t) fun ty=>ob (ev a e) fun a=>ob a.asPtr fun p=>ob (ev x e) fun v=>
 let l:=v.cells
 yB (Nat.beq (bA l) ty.size) (ob (wI C H p.1 p.2 l) fun H'=>some (rD,H')))
def Ke(r:Option Operand):kP:=fun _ _ H=>
 match r with
 | none=>.val (.map H.next) (newBlk H (.map []))
 | some _=>.fail
def Ah(t:Nat)(m k x:Operand):kP:=fun C e H=>fJ (ob (C.tys.get t) fun ty=>ob ty.desc.asMap fun ke=>ob (C.tys.get ke.1) fun kty=>yB (jS C kty)
 (ob (ev m e) fun m=>ob m.asMap fun b=>yB (!Nat.blt b C.base) (ob (lJ H b) fun l=>ob (ev k e) fun k=>yB (qQ C kty k) (ob (ev x e) fun v=>ob (qM k v l) fun l'=>some (rD,setBlk H b (.map l'))))))
def Xh(t:Nat)(l c:Operand):kP:=fun C e H=>fJ (ob (C.tys.get t) fun ty=>ob ty.desc.asSlice fun el=>ob (C.tys.get el) fun et=>
 ob (ev l e) fun l=>ob l.asNat fun l=>ob (ev c e) fun c=>ob c.asNat fun c=>
  yB (Nat.ble l c&&Nat.blt c 1000000&&Nat.blt (c*et.bytes) 1000000000&&Nat.beq (bA et.zero) et.size) (some (.slice H.next 0 l c,dE H (pH et.zero c) none)))
def bV(s d:Nat)(x:Operand):kP:=fun C e H=>
 match cN s d x C e H with
 | some v=>.val v H
 | none=>fJ (ob (C.tys.get s) fun _=>ob (C.tys.get d) fun ty=>ob ty.desc.asSlice fun el=>ob (C.tys.get el) fun et=>ob et.desc.asInt fun k=>yB (eL k .u8) (ob (ev x e) fun v=>ob v.asStr fun l=>
   some (.slice H.next 0 (bA l) (bA l),dE H (tW l) (some (.ty el)))))
def Kc(x:Operand):kP:=fun _ e _=>xX (ob (ev x e) fun v=>ob v.asIface fun p=>some (.panic (.iface p.1 p.2)))
def yQ(f:Operand)(args:Array Operand)(e:kC):Option (oT × List zA × List zA):=
 ob (ev f e) fun v=>ob v.asFunc fun p=>ob (lM args.toList e) fun as=>some (p.1,qD p.2.1 as,p.2.2)
def Pp(c:Call):Callee->HB
 | .value f=>⟨fun _ e _=>xX (ob (yQ f c.args e) fun p=>some (.defer ⟨some p.1,0,qD p.2.1 p.2.2⟩))⟩
 | _=>⟨fun _ _ _=>.fail⟩
def hDefer(c:Call):HB:=Pp c c.callee
def vN(g:List zA->xA->Option zA):List zA->xA->Option (zA × xA):=fun args H=>ob (g args H) fun v=>some (v,H)
def Fs(_:rA)(H:xA)(args:List zA)(f:Nat):Option (List zA->xA->Option (zA × xA))->iI
 | some g=>match g args H with
  | some p=>.val p.1 p.2
  | none=>.fail
 | none=>.enter f args
def LA(l:Nat)(args:List zA):List zA->iI
 | []=>.round l args
 | _::_=>.fail
def zd5(C:rA)(H:xA)(args cap:List zA):oT->iI
 | .func f=>Fs C H (qD args cap) f (C.prims.get f)
 | .yld l=>LA l args cap
def Cp(f:Operand)(args:Array Operand):kP:=fun C e H=>xX (ob (yQ f args e) fun p=>some (zd5 C H p.2.1 p.2.2 p.1))
def Fc(c:Call):kP:=fun C e H=>fJ (ob (fC c.argTypes.toList 0) fun t=>ob (C.tys.get t) fun ty=>ob (fC c.argTypes.toList 1) fun u=>ob (C.tys.get u) fun uty=>
 yB (!Nat.beq uty.desc.tag 1) (ob (two c e) fun p=>oW C H ty p.1 p.2))
def zc6:kP:=fun _ _ _=>.fail
def zaa:kP:=fun _ _ _=>.recover
def zab(c:Call):Builtin->HB
 | .append=>⟨Fc c⟩
 | .len=>⟨lv (vP c)⟩
 | .max=>⟨lv (vU c)⟩
 | .min=>⟨lv (wU c)⟩
 | .recover=>⟨zaa⟩
 | _=>⟨zc6⟩
def Fb(c:Call):Callee->HB
 | .value f=>⟨Cp f c.args⟩
 | .builtin b=>zab c b
 | _=>⟨zc6⟩
def hCall(c:Call):HB:=Fb c c.callee
def lvB (b:LB):HB:=⟨lv b.f⟩
def rE:Op->HB
 | .move x=>⟨lv (mM x)⟩
 | .assign x=>⟨lv (mM x)⟩
 | .pick c a b=>⟨lv (Js c a b)⟩
 | .load t a=>⟨lv (sU t a)⟩
 | .nilCheck x=>⟨lv (dX x)⟩
 | .binOp op t x y _=>⟨lv (nU op t x y)⟩
 | .unOp op _ x=>⟨lv (lUn op x)⟩
 | .makeInterface t x=>⟨lv (Ad t x)⟩
 | .makeFunc fn a b=>lvB (Ae fn a b)
 | .slice t x lo hi mx=>lvB (Jr t x lo hi mx)
 | .fieldAddr s x f=>⟨lv (pU s x f)⟩
 | .field t x f=>⟨lv (Af t x f)⟩
 | .indexAddr t x i=>⟨lv (rU t x i)⟩
 | .index t x i=>⟨lv (qU t x i)⟩
 | .extract t i=>⟨lv (oU t i)⟩
 | .build t ps=>⟨lv (gV t ps)⟩
 | .typeAssert x _ u ok=>⟨lv (mU x u ok)⟩
 | .lookup t x i ok=>⟨lv (tU t x i ok)⟩
 | .convert s d x=>⟨bV s d x⟩
 | .alloc t=>⟨Aj t⟩
 | .box t x=>⟨yY t x⟩
 | .buildSlice t len ps=>⟨Ai t len ps⟩
 | .store t a x=>⟨Kb t a x⟩
 | .makeMap _ r=>⟨Ke r⟩
 | .insert t m k x=>⟨Ah t m k x⟩
 | .mapUpdate t m k x=>⟨Ah t m k x⟩
 | .makeSlice t l c=>⟨Xh t l c⟩
 | .panic x=>⟨Kc x⟩
 | .defer c=>hDefer c
 | .call c=>hCall c
 | _=>⟨zc6⟩
structure GB where f:Tm->Option Bool
def zbu(_:Tm):Option Bool:=some true
def Gz(d:Option Nat)(w:Bool)(tm:Tm):Option Bool:=
 ob d fun d=>ob (tm.get d) fun v=>match v.asBool with
  | some b=>some (bEq b w)
  | none=>some false
def Ha(g:Option (Nat × Bool))(all:Array Oper):GB:=
 match g with
 | none=>⟨zbu⟩
 | some jw=>⟨Gz (ob (fC all.toList jw.1) fun o=>o.dst) jw.2⟩
def tF(g:Option (Nat × Bool))(all:Array Oper)(tm:Tm):Option Bool:=(Ha g all).f tm
structure PB where f:Nat->Tm->zA->Tm
def Ej(d n:Nat)(tm:Tm)(v:zA):Tm:=bif Nat.blt d n then tm.set d v else tm
def putNo(_:Nat)(tm:Tm)(_:zA):Tm:=tm
def putB (dst:Option Nat):PB:=
 match dst with
 | some d=>⟨Ej d⟩
 | none=>⟨putNo⟩
def putA (n:Nat)(tm:Tm)(dst:Option Nat)(v:zA):Tm:=(putB dst).f n tm v
def qT.running:qT->Bool | .run=>true | _=>false
def mD.blockId:mD->Option Nat | .inBlock id=>some id | _=>none
def lR(id:Nat):List mD->Option (List mD)
 | []=>none
 | x::k=>match x.blockId with
  | some i=>bif Nat.beq i id then some k else lR id k
  | none=>lR id k
def zbb(all:Array Oper)(rest:List Oper)(k:List mD)(tm:Tm)(R:kI)(v:zA):Option pB:=
 match rest with
 | o::rest=>some ⟨.ops all rest::k,putA R.n tm o.dst v,R⟩
 | []=>none
def Xu(all:Array Oper)(old:Tm)(olds:List (Nat × List Nat))(stages:List iE)(k:List mD)(tm:Tm)(R:kI)(v:zA):Option pB:=
 match stages with
 | st::stages=>ob (fC all.toList st.heavy) fun o=>some ⟨.reg all old olds (⟨all.size,st.lights,st.again⟩::stages)::k,putA R.n tm o.dst v,R⟩
 | []=>none
def zag(l:Nat)(k:List mD)(tm:Tm)(R:kI)(_:zA):Option pB:=some ⟨.endRange l::k,tm,R⟩
def zah(k:List mD)(tm:Tm)(R:kI)(_:zA):Option pB:=some ⟨k,tm,R⟩
def zdf(_:List mD)(_:Tm)(_:kI)(_:zA):Option pB:=none
def Pv:mD->List mD->Tm->kI->zA->Option pB
 | .ops all rest=>zbb all rest
 | .reg all old olds stages=>Xu all old olds stages
 | .inRange l=>zag l
 | .beginRound=>zah
 | _=>zdf
def iG(fr:pB)(v:zA):Option pB:=
 match fr.todo with
 | []=>none
 | x::k=>bif fr.R.mode.running then Pv x k fr.tm fr.R v else none
def eI(C:rA)(f:Nat)(args:List zA)(deferred:Bool):Option pB:=
 ob (C.fns.get f) fun fn=>ob fn.body fun c=>ob (C.ks.get f) fun k=>yB (Nat.ble (bA args) k&&Nat.ble (bA args) fn.ntmps) (some ⟨[.code c],⟨k,Tr.ofList args,[]⟩,⟨f,fn.ntmps,[],.run,deferred,none⟩⟩)
def aW(n:Nat):List Nat->List zA->Tm->Option (Tm)
 | [],[],tm=>some tm
 | p::ps,a::as,tm=>aW n ps as (putA n tm (some p) a)
 | _,_,_=>none
def Sb:List Operand->List Nat
 | []=>[]
 | .tmp t::l=>t::Sb l
 | _::l=>Sb l
def cG(o:Op):List Nat:=Sb o.operands.toList
def eE(i:Nat):List (Nat × List Nat)->List Nat
 | []=>[]
 | x::r=>bif Nat.beq i x.1 then x.2 else eE i r
def same:Nat->zA->zA->Bool
 | _,.bool a,.bool b=>bEq a b
 | _,.int j a,.int k b=>eL j k&&tC a b
 | _,.str a,.str b=>bC a b
 | _,.nilptr,.nilptr=>true
 | _,.ptr a b,.ptr c d=>Nat.beq a c&&Nat.beq b d
 | _,.nilslice,.nilslice=>true
 | _,.slice a b c d,.slice e f g h=>Nat.beq a e&&Nat.beq b f&&Nat.beq c g&&Nat.beq d h
 | _,.nilmap,.nilmap=>true
 | _,.map a,.map b=>Nat.beq a b
 | _,.nilfunc,.nilfunc=>true
 | _,.niliface,.niliface=>true
 | d+1,.agg a,.agg b=>sames d a b
 | d+1,.tup a,.tup b=>sames d a b
 | _,_,_=>false
where
 sames (d:Nat):List zA->List zA->Bool
  | [],[]=>true
  | a::x,b::y=>same d a b&&sames d x y
  | _,_=>false
def rQ(C:rA)(H:xA)(all:Array Oper)(n:Nat)(old:Tm)(olds:List (Nat × List Nat)):List Nat->Tm->Option (Tm)
 | [],tm=>some tm
 | i::l,tm=>ob (fC all.toList i) fun o=>ob (tF o.guard all tm) fun w=>ob (bif w then(vF o.op).f C (.mixed tm old (eE i olds) (cG o.op)) H else some rD) fun v=>
   rQ C H all n old olds l (putA n tm o.dst v)
def Ax(C:rA)(H:xA)(all:Array Oper)(old:Tm)(olds:List (Nat × List Nat))(tm:Tm):List Nat->Bool
 | []=>true
 | i::l=>match (ob (fC all.toList i) fun o=>ob o.dst fun d=>ob (tF o.guard all tm) fun w=>bif w then(ob ((vF o.op).f C (.mixed tm old (eE i olds) (cG o.op)) H) fun v=>ob (tm.get d) fun u=>some (same 10 v u))else some true)with
  | some true=>Ax C H all old olds tm l
  | _=>false
def qT.chain:qT->Option (List Bf) | .panicking c=>some c | _=>none
def Fm:List Oper->Tr zA->Tr zA
 | [],t=>t
 | o::l,t=>match o.dst with
  | some j=>Fm l (t.del j)
  | none=>Fm l t
def Jn(todo:List mD)(tm:Tm):Tm:=
 match todo with
 | .reg all _ _ _::_=>⟨tm.k,Fm all.toList tm.v,[]⟩
 | _=>tm
def aT(fr:pB)(l:List Bf):pB:=
 ⟨[],Jn fr.todo fr.tm,⟨fr.R.fn,fr.R.n,fr.R.defers,.panicking (match fr.R.mode.chain with | some c=>qD l c | none=>l),fr.R.deferred,fr.R.roundOf⟩⟩
def bJ(x:Option iP)(why:Nat):yF:=
 match x with
 | some s=>.next s
 | none=>.fail why
def eH(H:xA)(l:Nat):Option lL:=yB (Nat.ble (nat_lit 256) l) (ob (H.t.get l) vA.asLoop)
def gU(H:xA)(l:Nat):Option (Option (List jG)):=yB (Nat.ble (nat_lit 256) l) (ob (H.t.get l) vA.asDeferred)
def Ce (v:zA)(H':xA)(_:rA)(fr:pB)(cs:List pB)(_:xA):yF:=bJ (ob (iG fr v) fun fr=>some ⟨fr,cs,H'⟩) 1
def Io(f:Nat)(args:List zA)(C:rA)(fr:pB)(cs:List pB)(H:xA):yF:=bJ (ob (eI C f args false) fun g=>some ⟨g,fr::cs,H⟩) 2
def Il(l:Nat)(args:List zA)(_:rA)(fr:pB)(cs:List pB)(H:xA):yF:=
 bJ (ob (eH H l) fun r=>ob (aW r.n r.params args r.tm) fun tm=>some ⟨⟨[.code r.assign,.beginRound,.code r.body],tm,⟨r.fn,r.n,[],.run,false,some l⟩⟩,fr::cs,H⟩) 3
def Ve(d:jG)(_:rA)(fr:pB)(cs:List pB)(H:xA):yF:=
 bJ (match fr.R.roundOf with
  | none=>ob (iG fr rD) fun g=>some ⟨⟨g.todo,g.tm,⟨g.R.fn,g.R.n,d::g.R.defers,g.R.mode,g.R.deferred,g.R.roundOf⟩⟩,cs,H⟩
  | some _=>none) 4
def DI(v:zA)(_:rA)(fr:pB)(cs:List pB)(H:xA):yF:=.next ⟨aT fr [⟨v,false⟩],cs,H⟩
def Im(_:rA)(fr:pB)(cs:List pB)(H:xA):yF:=
 bJ (match fr.R.roundOf,fr.R.deferred,cs with
  | none,true,c::rest=>match c.R.mode with
   | .panicking (⟨v,false⟩::older)=>ob (iG fr v) fun fr=>some ⟨fr,⟨c.todo,c.tm,⟨c.R.fn,c.R.n,c.R.defers,.panicking (⟨v,true⟩::older),c.R.deferred,c.R.roundOf⟩⟩::rest,H⟩
   | .panicking _=>none
   | _=>ob (iG fr .niliface) fun fr=>some ⟨fr,cs,H⟩
  | _,_,_=>none) 5
def rFail(_:rA)(_:pB)(_:List pB)(_:xA):yF:=.fail 6
def Gb:iI->rA->pB->List pB->xA->yF
 | .val v H'=>Ce v H'
 | .enter f args=>Io f args
 | .round l args=>Il l args
 | .defer d=>Ve d
 | .panic v=>DI v
 | .recover=>Im
 | .fail=>rFail
def zQ(C:rA)(H:xA)(tm:Tm):ResultVar->Option zA
 | .tmp t=>tm.get t
 | .cell a t=>ob (ob (tm.get a) zA.asPtr) fun p=>ob (C.tys.get t) fun ty=>ob (bD H p.1) fun c=>sQ ty c.1 p.2
def rS(C:rA)(H:xA)(tm:Tm)(l:List ResultVar):Option (List zA):=lG (zQ C H tm) l
def Uu(jump:Option Code):Bool:=
 match jump with
 | none=>true
 | some .ret=>true
 | _=>false
def zX(fr:pB)(m:qT):pB:=⟨fr.todo,fr.tm,⟨fr.R.fn,fr.R.n,fr.R.defers,m,fr.R.deferred,fr.R.roundOf⟩⟩
def oR(jump:Option Code)(_:rA)(fr:pB)(cs:List pB)(H:xA):yF:=
 bJ (match fr.R.roundOf with
  | none=>yB (Uu jump) (some ⟨zX fr .returning,cs,H⟩)
  | some l=>ob (eH H l) fun r=>match cs with
   | c::rest=>yB (!fr.R.deferred) <| ob (iG c (.bool jump.isNone)) fun c=>some ⟨c,rest,setBlk H l (.loop ⟨if jump.isNone then .ready else .done,jump,r.fn,r.n,r.tm,r.params,r.assign,r.body,r.defers⟩)⟩
   | []=>none) 7
abbrev bL:=rA->List mD->Tm->kI->List pB->xA->yF
structure XB where f:bL
def xGo (todo:List mD)(tm:Tm)(R:kI)(cs:List pB)(H:xA):yF:=.next ⟨⟨todo,tm,R⟩,cs,H⟩
def Bh:bL:=fun _ k tm R cs H=>xGo k tm R cs H
def Gv(c:Operand)(x y:Code):bL:=fun _ k tm R cs H=>
 match ob (ev c (.now tm)) zA.asBool with
 | some b=>xGo (.code (bif b then x else y)::k) tm R cs H
 | none=>.fail 8
def Zd(id:Nat)(c:Code):bL:=fun _ k tm R cs H=>xGo (.code c::.inBlock id::k) tm R cs H
def Rh(c:Code):bL:=fun _ k tm R cs H=>xGo (.code c::.inLoop c::k) tm R cs H
def xScope(c:Code):bL:=fun _ k tm R cs H=>xGo (.code c::.inScope c::k) tm R cs H
def tZ(id:Nat):bL:=fun C k tm R cs H=>
 match lR id k with
 | some k'=>xGo k' tm R cs H
 | none=>oR (some (.exit id)) C ⟨.code (.exit id)::k,tm,R⟩ cs H
def xRet:bL:=fun C k tm R cs H=>oR (some .ret) C ⟨.code .ret::k,tm,R⟩ cs H
def Rj:bL:=fun _ _ _ _ _ _=>.fail 9
def Dc(e:Edge):Bool:=
 match e.ground with
 | .textOnly _=>false
 | .gcOnly _=>false
 | _=>true
def tb (m i:Nat):Bool:=Nat.beq (Nat.mod (Nat.shiftRight m i) (nat_lit 2)) (nat_lit 1)
def bY(i:Nat):Nat:=Nat.shiftLeft (nat_lit 1) i
def tI (t:Tr Nat)(i:Nat):Nat:=
 match t.get i with
 | some m=>m
 | none=>0
def Eu(t:Tr Nat):List Edge->Nat
 | []=>0
 | e::l=>bif Dc e then Nat.lor (Nat.lor (bY e.on) (tI t e.on)) (Eu t l)else Eu t l
def zeb:List Oper->Nat->Tr Nat->Tr Nat
 | [],_,t=>t
 | o::r,i,t=>zeb r (i+1) (t.set i (Eu t o.after.toList))
def Oa:List Oper->Nat->Bool
 | [],_=>true
 | o::r,i=>bif cB (fun e=>bif Dc e then Nat.blt e.on i else true) o.after.toList then Oa r (i+1)else false
def Dl:List Oper->Nat->Tr Nat->Option (Tr Nat)
 | [],_,t=>some t
 | o::r,i,t=>match o.dst with
  | none=>Dl r (i+1) t
  | some d=>match t.get d with
   | none=>Dl r (i+1) (t.set d i)
   | some _=>none
def jD{α:Type}:Option α->Bool | none=>true | some _=>false
def Vr(wr anc:Tr Nat)(i:Nat)(olds:List Nat)(t:Nat):Bool:=
 match wr.get t with
 | none=>true
 | some j=>bif bG t olds then(bif Nat.beq j i then true else tb (tI anc j) i)else tb (tI anc i) j
def Vs(anc:Nat):Option (Nat × Bool)->Bool
 | none=>true
 | some g=>tb anc g.1
def Ny(wr anc:Tr Nat)(olds:List (Nat × List Nat)):List Oper->Nat->Bool
 | [],_=>true
 | o::r,i=>bif Vs (tI anc i) o.guard then(bif cB (Vr wr anc i (eE i olds)) (cG o.op)then Ny wr anc olds r (i+1)else false)else false
def qS:Op->Bool
 | .move _=>true
 | .assign _=>true
 | .pick _ _ _=>true
 | .nilCheck _=>true
 | .binOp _ _ _ _ _=>true
 | .unOp _ _ _=>true
 | .makeInterface _ _=>true
 | .makeFunc _ _ _=>true
 | .fieldAddr _ _ _=>true
 | .field _ _ _=>true
 | .indexAddr _ _ _=>true
 | .index _ _ _=>true
 | .extract _ _=>true
 | .build _ _=>true
 | .typeAssert _ _ _ _=>true
 | _=>false
def cW (D:Nat)(o:Oper):Bool:=cB (fun e=>bif Dc e then tb D e.on else true) o.after.toList
def Nz(h D:Nat):List Oper->Nat->Bool
 | [],_=>true
 | o::r,i=>bif (bif tb D i then true else bif Nat.beq i h then true else !cW D o)then Nz h D r (i+1)else false
def zK:Op->Bool
 | .alloc _=>true
 | .box _ _=>true
 | .buildSlice _ _ _=>true
 | _=>false
def Od(m D:Nat)(again:List Nat):List Oper->Nat->Bool
 | [],_=>true
 | o::r,i=>bif (bif tb D i then(bif tb m i then true else bif qS o.op then true else bif zK o.op then true else bG i again)else true)then Od m D again r (i+1)else false
def lV(ops:List Oper)(i D:Nat):Option Nat:=
 ob (fC ops i) fun o=>yB (bif tb D i then false else cW D o) (some (Nat.lor D (bY i)))
def bO(ops:List Oper):List Nat->Nat->Option Nat
 | [],D=>some D
 | i::l,D=>ob (lV ops i D) fun D=>bO ops l D
def Ob(D:Nat):List Oper->Nat->Bool
 | [],_=>true
 | _::r,i=>bif tb D i then Ob D r (i+1)else false
def zc4:Option Oper->Bool
 | some o=>zK o.op
 | none=>false
def okG (ops:List Oper)(D:Nat):List Nat->Nat->Option Nat
 | [],E=>some E
 | i::l,E=>ob (fC ops i) fun o=>yB (!tb E i&&cW D o&&jD o.dst) (okG ops D l (Nat.lor E (bY i)))
def Nx(anc:Tr Nat)(D1:Nat)(G:List Nat):List Oper->Nat->Bool
 | [],_=>true
 | o::r,i=>bif (bif tb D1 i then true else bif cB (fun g=>tb (tI anc i) g) G then true else !cW D1 o)then Nx anc D1 G r (i+1)else false
def Jx(o:Op):Bool:=
 match o with
 | .call c=>(match c.callee with
  | .builtin .len=>true
  | _=>false)
 | _=>false
def Oc(anc:Tr Nat)(D:Nat)(G:List Nat):List Oper->Nat->Bool
 | [],_=>true
 | o::r,i=>bif (bif tb D i then(bif qS o.op then true else bif zK o.op then true else bif Jx o.op then true else cB (fun g=>tb (tI anc g) i) G)else true)then Oc anc D G r (i+1)else false
def EG(ops:List Oper)(anc:Tr Nat)(D:Nat)(st:iE):Option Nat:=
 ob (okG ops D st.again D) fun D1=>yB (Nx anc D1 st.again ops 0&&Oc anc D st.again ops 0) (bO ops st.lights D1)
def pI(ops:List Oper)(anc:Tr Nat):List iE->Nat->Bool
 | [],D=>Ob D ops 0
 | st::r,D=>bif Nat.blt (bA ops) st.heavy then(bif Nat.blt (bA ops+bA ops) st.heavy then(match EG ops anc D st with
   | some D=>pI ops anc r D
   | none=>false)else bif zc4 (fC ops (Nat.sub st.heavy (Nat.succ (bA ops))))then
   (match ob (lV ops (Nat.sub st.heavy (Nat.succ (bA ops))) D) fun D=>bO ops st.lights D with
   | some D=>pI ops anc r D
   | none=>false)else false)else bif Nz st.heavy D ops 0 then(bif Od (tI anc st.heavy) D st.again ops 0 then
   (match ob (lV ops st.heavy D) fun D=>bO ops st.lights D with
   | some D=>pI ops anc r D
   | none=>false)else false)else false
def Vq(ops:List Oper)(p:Plan):Bool:=
 bif Oa ops 0 then
  (match Dl ops 0 .leaf with
  | none=>false
  | some wr=>
   (fun anc=>bif Ny wr anc p.olds ops 0 then(match bO ops p.first 0 with
    | some D=>pI ops anc p.stages D
    | none=>false)else false) (zeb ops 0 .leaf))else false
structure OkB where b:Bool
def nS(all:Array Oper)(p:Plan):Bool:=(OkB.mk (Vq all.toList p)).b
def Gu(id:Nat)(all:Array Oper):bL:=fun C k tm R cs H=>
 bJ (ob (ob (C.plans.get R.fn) fun t=>t.get id) fun p=>yB (nS all p) <| ob (rQ C H all R.n tm.cut p.olds p.first tm.cut) fun tm'=>some ⟨⟨.reg all tm.cut p.olds p.stages::k,tm',R⟩,cs,H⟩) 10
def iI.asVal:iI->Option (zA × xA) | .val v H=>some (v,H) | _=>none
def lK(C:rA)(all:Array Oper)(k:List mD)(R:kI)(cs:List pB)(l:List Oper):Tm->xA->yF:=
 List.rec (motive:=fun _=>Tm->xA->yF) (fun tm H=>xGo k tm R cs H)
  (fun o rest g tm H=>
   match tF o.guard all tm with
   | some w=>Bool.rec (motive:=fun _=>yF) (g (putA R.n tm o.dst rD) H)
     (let r:=(rE o.op).f C (.now tm) H
     match r.asVal with
     | some p=>g (putA R.n tm o.dst p.1) p.2
     | none=>Gb r C ⟨.ops all (o::rest)::k,tm,R⟩ cs H) w
   | none=>.fail 20) l
def xOps (all:Array Oper)(rest:List Oper):bL:=fun C k tm R cs H=>lK C all k R cs rest tm H
def zbr(id:Nat)(all:Array Oper)(draw:Bool):XB:=
 match draw with
 | true=>⟨Gu id all⟩
 | false=>⟨fun C k tm R cs H=>lK C all k R cs all.toList tm.cut H⟩
def Ll(all:Array Oper)(old:Tm)(olds:List (Nat × List Nat))(st:iE)(stages:List iE)(o:Oper):bL:=fun C k tm R cs H=>
 match tF o.guard all tm with
 | some w=>Gb (bif w then(rE o.op).f C (.mixed tm old (eE st.heavy olds) (cG o.op)) H else .val rD H) C ⟨.reg all old olds (st::stages)::k,tm,R⟩ cs H
 | none=>.fail 21
def Gs(all:Array Oper)(old:Tm)(olds:List (Nat × List Nat))(st:iE)(stages:List iE):bL:=fun C k tm R cs H=>
 bJ (yB (Ax C H all old olds tm st.again) (ob (rQ C H all R.n old olds st.lights tm) fun tm=>some ⟨⟨.reg all old olds stages::k,tm,R⟩,cs,H⟩)) 11
def Ln(all:Array Oper)(old:Tm)(olds:List (Nat × List Nat))(st:iE)(stages:List iE)(i:Nat):bL:=fun C k tm R cs H=>
 bJ (ob (fC all.toList i) fun o=>ob (tF o.guard all tm) fun w=>yB (w&&jD (jX C o.op)) (ob ((rE o.op).f C (.mixed tm old (eE i olds) (cG o.op)) H).asVal fun p=>
  ob (rQ C p.2 all R.n old olds st.lights (putA R.n tm o.dst p.1)) fun tm'=>some ⟨⟨.reg all old olds stages::k,tm',R⟩,cs,p.2⟩)) 23
inductive mL where
 | store (t:Nat) (a v:zA)
 | upd (t:Nat) (m k v:zA)
inductive RE where
 | st (b off:Nat) (l:List zA)
 | up (b:Nat) (k v:zA)
def nY(op:Op)(e:kC):Option mL:=
 match op with
 | .store t a x=>ob (ev a e) fun a=>ob (ev x e) fun v=>some (.store t a v)
 | .mapUpdate t m k x=>ob (ev m e) fun m=>ob (ev k e) fun k=>ob (ev x e) fun v=>some (.upd t m k v)
 | .insert t m k x=>ob (ev m e) fun m=>ob (ev k e) fun k=>ob (ev x e) fun v=>some (.upd t m k v)
 | _=>none
def cT (C:rA)(e:mL):Option RE:=
 match e with
 | .store t a v=>ob (C.tys.get t) fun ty=>ob a.asPtr fun p=>yB (Nat.beq (bA v.cells) ty.size) (some (.st p.1 p.2 v.cells))
 | .upd t m k v=>ob (C.tys.get t) fun ty=>ob ty.desc.asMap fun ke=>ob (C.tys.get ke.1) fun kty=>yB (jS C kty&&qQ C kty k) (ob m.asMap fun b=>some (.up b k v))
def RE.blk:RE->Nat
 | .st b _ _=>b
 | .up b _ _=>b
def EL(a b:zA):Bool:=
 match nH a b with
 | some r => !r
 | none=>false
def Yv(a b:RE):Bool:=bif Nat.beq a.blk b.blk then(match a with
 | .st _ _ _=>false
 | .up _ k _=>(match b with
  | .st _ _ _=>false
  | .up _ k' _=>EL k k'))else true
def Qw:List RE->Bool
 | []=>true
 | a::l=>cB (Yv a) l&&Qw l
def yZ(C:rA)(H:xA)(e:RE):Option xA:=
 match e with
 | .st b off l=>wI C H b off l
 | .up b k v=>yB (!Nat.blt b C.base) (ob (lJ H b) fun m=>some (setBlk H b (.map (qD m [(k,v)]))))
def Eh(C:rA)(H:xA)(e:RE):Bool:=
 match e with
 | .st b off l => !jD (wI C H b off l)
 | .up b _ _ => !Nat.blt b C.base&&(match lJ H b with
  | some []=>true
  | _=>false)
def De(C:rA):List RE->xA->Option xA
 | [],H=>some H
 | e::l,H=>ob (yZ C H e) fun H=>De C l H
def tY(C:rA)(es:List mL)(H:xA):Option xA:=ob (lG (cT C) es) fun rs=>yB (Qw rs&&cB (Eh C H) rs) (De C rs H)
def xW(all:Array Oper)(old:Tm)(olds:List (Nat × List Nat))(tm:Tm)(i:Nat):Option mL:=
 ob (fC all.toList i) fun o=>ob (tF o.guard all tm) fun w=>yB w (nY o.op (.mixed tm old (eE i olds) (cG o.op)))
def Pc(C:rA)(o:Oper):Bool:=
 match o.op with
 | .call c=>(match c.callee with
  | .builtin .len=>(match ob (fC c.argTypes.toList 0) fun t=>C.tys.get t with
   | some ty => !Nat.beq ty.desc.tag 6
   | none=>false)
  | _=>true)
 | _=>true
def iV(C:rA)(all:Array Oper):Bool:=cB (Pc C) all.toList
def Fl(all:Array Oper)(old:Tm)(olds:List (Nat × List Nat))(tm:Tm)(l:List Nat):Option (List mL):=lG (xW all old olds tm) l
def Lm(all:Array Oper)(old:Tm)(olds:List (Nat × List Nat))(st:iE)(stages:List iE):bL:=fun C k tm R cs H=>
 bJ (yB (iV C all) (ob (Fl all old olds tm st.again) fun es=>ob (tY C es H) fun H'=>ob (rQ C H' all R.n old olds st.lights tm) fun tm'=>some ⟨⟨.reg all old olds stages::k,tm',R⟩,cs,H'⟩)) 24
def cQ (all:Array Oper)(old:Tm)(olds:List (Nat × List Nat))(stages:List iE):bL:=
 match stages with
 | []=>Bh
 | st::stages=>match fC all.toList st.heavy with
  | some o=>Ll all old olds st stages o
  | none=>bif Nat.blt (bA all.toList) st.heavy then(bif Nat.blt (bA all.toList+bA all.toList) st.heavy then Lm all old olds st stages else Ln all old olds st stages (Nat.sub st.heavy (Nat.succ (bA all.toList))))else Gs all old olds st stages
def wX(C:rA)(l:Nat)(f:zA):Option pB:=
 ob f.asFunc fun p=>match p.1 with
  | .func g=>match C.prims.get g with
   | none=>eI C g (qD p.2.1 (.func (.yld l) [] []::p.2.2)) false
   | some _=>none
  | .yld _=>none
def Gr(f:Operand)(params:Array Nat)(assign body:Code):bL:=fun C k tm R cs H=>
 bJ (ob (ev f (.now tm)) fun v=>match R.roundOf with
  | none=>
   let r:=H.next
   let l:=r+1
   ob (wX C l v) fun h=>
    some ⟨h,⟨.inRange l::k,tm,⟨R.fn,R.n,⟨none,r,[]⟩::R.defers,R.mode,R.deferred,R.roundOf⟩⟩::cs,
     newBlk (newBlk H (.deferred (some []))) (.loop ⟨.ready,none,R.fn,R.n,tm,params.toList,assign,body,r⟩)⟩
  | some outer=>ob (eH H outer) fun o=>
   let l:=H.next
   ob (wX C l v) fun h=>
    some ⟨h,⟨.inRange l::k,tm,R⟩::cs,newBlk H (.loop ⟨.ready,none,R.fn,R.n,tm,params.toList,assign,body,o.defers⟩)⟩) 12
def LoopState.tag:LoopState->Nat | .ready=>0 | .busy=>1 | .done=>2 | .exhausted=>3
def Gw:bL:=fun _ k tm R cs H=>
 bJ (ob R.roundOf fun l=>ob (eH H l) fun r=>yB (Nat.beq (LoopState.tag r.state) 0)
  (some ⟨⟨k,tm,R⟩,cs,setBlk H l (.loop ⟨.busy,r.pending,r.fn,r.n,r.tm,r.params,r.assign,r.body,r.defers⟩)⟩)) 13
def Gt(l:Nat):bL:=fun _ k tm R cs H=>
 bJ (ob (eH H l) fun r=>yB (!Nat.beq (LoopState.tag r.state) 1)
  (some ⟨⟨(match r.pending with | some c=>.code c::k | none=>k),tm,R⟩,cs,setBlk H l (.loop ⟨.exhausted,r.pending,r.fn,r.n,r.tm,r.params,r.assign,r.body,r.defers⟩)⟩)) 14
def Rk:Code->XB
 | .skip=>⟨Bh⟩
 | .region id ops d=>zbr id ops d
 | .seq a b=>⟨fun C k tm R cs H=>(Rk a).f C (.code b::k) tm R cs H⟩
 | .cond c x y=>⟨Gv c x y⟩
 | .block id c=>⟨Zd id c⟩
 | .loop c=>⟨Rh c⟩
 | .rangeFunc f ps a b=>⟨Gr f ps a b⟩
 | .exit id=>⟨tZ id⟩
 | .scope c=>⟨xScope c⟩
 | .label _=>⟨Bh⟩
 | .goto _=>⟨Rj⟩
 | .ret=>⟨xRet⟩
 | .refuse _=>⟨Rj⟩
def xItem:mD->XB
 | .code c=>Rk c
 | .inBlock _=>⟨Bh⟩
 | .inLoop c=>⟨Rh c⟩
 | .inScope _=>⟨Bh⟩
 | .ops all rest=>⟨xOps all rest⟩
 | .reg all old olds stages=>⟨cQ all old olds stages⟩
 | .inRange _=>⟨Rj⟩
 | .endRange l=>⟨Gt l⟩
 | .beginRound=>⟨Gw⟩
def lQ(C:rA)(todo:List mD)(tm:Tm)(R:kI)(cs:List pB)(H:xA):yF:=
 match todo with
 | []=>oR none C ⟨[],tm,R⟩ cs H
 | x::k=>(xItem x).f C k tm R cs H
def CC(fr:pB)(d:List jG):pB:=⟨fr.todo,fr.tm,⟨fr.R.fn,fr.R.n,d,fr.R.mode,fr.R.deferred,fr.R.roundOf⟩⟩
def Bs(C:rA)(d:jG)(ds:List jG)(fr:pB)(cs:List pB)(H:xA):yF:=
 bJ (match d.fn with
  | none=>ob (gU H d.r) fun l=>ob l fun l=>some ⟨CC fr (qD l ds),cs,setBlk H d.r (.deferred none)⟩
  | some (.func f)=>match C.prims.get f with
   | none=>ob (eI C f d.args true) fun g=>some ⟨g,CC fr ds::cs,H⟩
   | some _=>none
  | some (.yld _)=>none) 15
def Bt(l:List zA):zA:=
 match l with
 | [v]=>v
 | l=>.tup l
def Br(C:rA)(fr:pB)(cs:List pB)(H:xA):yF:=
 match ob (C.fns.get fr.R.fn) fun fn=>rS C H fr.tm fn.results.toList with
 | none=>.fail 16
 | some l=>
  match cs with
  | []=>bif fr.R.deferred then .fail 17 else bif Nat.beq fr.R.fn C.root then .done (Bt l) H else .fail 22
  | c::rest=>bJ (bif fr.R.deferred then
    (match c.R.mode with
    | .panicking (⟨_,true⟩::_)=>some ⟨zX c .returning,rest,H⟩
    | _=>yB (!c.R.mode.running) (some ⟨c,rest,H⟩))
   else ob (iG c (Bt l)) fun c=>some ⟨c,rest,H⟩) 18
def Md(C:rA)(fr:pB)(cs:List pB)(H:xA):yF:=
 match fr.R.defers with
 | d::ds=>Bs C d ds fr cs H
 | []=>match fr.R.mode.chain with
  | some chain=>bJ (ob (C.fns.get fr.R.fn) fun _=>match cs with | c::rest=>some ⟨aT c chain,rest,H⟩ | []=>none) 19
  | none=>Br C fr cs H
def stepA(C:rA)(s:iP):yF:=
 match s with
 | ⟨⟨todo,tm,R⟩,cs,H⟩=>bif R.mode.running then lQ C todo tm R cs H else Md C ⟨todo,tm,R⟩ cs H
def tS(C:rA)(o:yF):yF:=
 match o with
 | .next s=>stepA C s
 | .done v H=>.done v H
 | .fail n=>.fail n
def Cc (C:rA)(n:Nat):yF->yF:=
 Nat.rec (motive:=fun _=>yF->yF) (fun o=>tS C o) (fun _ g o=>g (g o)) n
end Go.Am
namespace Go.Am
open Go
theorem tA{α β:Type}{x:Option α}{f:α->Option β}{b:β}:ob x f=some b ↔ ∃a,x=some a/\f a=some b:=by
 cases x with
 | none=>simp[ob]
 | some a=>exact⟨fun h=>⟨a,rfl,h⟩,fun⟨_,h,k⟩=>by cases h;exact k⟩
@[simp] theorem zcd {α β:Type} {f:α->Option β}:ob none f=none:=rfl
@[simp] theorem qA {α β:Type} {a:α} {f:α->Option β}:ob (some a) f=f a:=rfl
theorem xB{α:Type}{b:Bool}{x:Option α}{a:α}:yB b x=some a ↔ b=true/\x=some a:=by
 cases b with
 | false=>simp[yB]
 | true=>simp[yB]
theorem bI{α:Type}(a b:α)(c:Bool):(Bool.rec (motive:=fun _=>α) a b c:α)=if c=true then b else a:=by cases c<;>rfl
theorem sC{n m:Nat}:(Nat.beq n m=true) ↔ n=m:=⟨Nat.eq_of_beq_eq_true,fun h=>by simp_all⟩
theorem beqf{n m:Nat}:(Nat.beq n m=false) ↔ n≠m:=by
 rw[<- Bool.not_eq_true,sC]
theorem qE{n m:Nat}:(Nat.ble n m=true) ↔ n<=m:=Iff.of_eq Nat.ble_eq
theorem vC{n m:Nat}:(Nat.blt n m=true) ↔ n<m:=Iff.of_eq Nat.ble_eq
theorem dC{α:Type}(c:Bool)(a b:α):(bif c then a else b)=if c=true then a else b:=by cases c<;>rfl
namespace Tr
variable {α:Type}
theorem get_leaf(n:Nat):(leaf:Tr α).get n=none:=rfl
theorem get_node(l:Tr α)(v:Option α)(r:Tr α)(n:Nat) :
  (node l v r).get n=if n=0 then v else if n%2=1 then l.get (n / 2)else r.get (n / 2-1):=by
 show Bool.rec (motive:=fun _=>Option α) (Bool.rec (motive:=fun _=>Option α) (r.get (n / 2-1)) (l.get (n / 2)) (Nat.beq (n%2) 1)) v (Nat.beq n 0)=_
 grind [bI,sC]
theorem Oj(f n:Nat)(v:α):mk (f+1) n v=if n=0 then node leaf (some v) leaf else if n%2=1 then node (mk f (n / 2) v) none leaf else node leaf none (mk f (n / 2-1) v):=by
 show Bool.rec (motive:=fun _=>Tr α) (Bool.rec (motive:=fun _=>Tr α) (node leaf none (mk f (n / 2-1) v)) (node (mk f (n / 2) v) none leaf) (Nat.beq (n%2) 1)) (node leaf (some v) leaf) (Nat.beq n 0)=_
 grind [bI,sC]
theorem Nd(n:Nat)(v:α):(leaf:Tr α).set n v=mk (n+1) n v:=rfl
theorem dG(l:Tr α)(x:Option α)(r:Tr α)(n:Nat)(v:α) :
  (node l x r).set n v=if n=0 then node l (some v) r else if n%2=1 then node (l.set (n / 2) v) x r else node l x (r.set (n / 2-1) v):=by
 show Bool.rec (motive:=fun _=>Tr α) (Bool.rec (motive:=fun _=>Tr α) (node l x (r.set (n / 2-1) v)) (node (l.set (n / 2) v) x r) (Nat.beq (n%2) 1)) (node l (some v) r) (Nat.beq n 0)=_
 grind [bI,sC]
theorem zap(l:Tr α)(x:Option α)(r:Tr α)(n:Nat) :
  (node l x r).del n=if n=0 then node l none r else if n%2=1 then node (l.del (n / 2)) x r else node l x (r.del (n / 2-1)):=by
 show Bool.rec (motive:=fun _=>Tr α) (Bool.rec (motive:=fun _=>Tr α) (node l x (r.del (n / 2-1))) (node (l.del (n / 2)) x r) (Nat.beq (n%2) 1)) (node l none r) (Nat.beq n 0)=_
 grind [bI,sC]
theorem get_mk(f:Nat):∀(n m:Nat) (v:α),n<f->(mk f n v).get m=if m=n then some v else none:=by
 induction f with
 | zero=>omega
 | succ f ih=>
  grind [Oj,get_node,get_leaf]
theorem get_set(t:Tr α):∀(n m:Nat) (v:α),(t.set n v).get m=if m=n then some v else t.get m:=by
 induction t with
 | leaf=>intro n m v;rw[Nd,get_mk _ _ _ _ (by omega),get_leaf]
 | node l x r ihl ihr=>
  grind [dG,get_node]
theorem EV:∀(f g n:Nat) (v:α),n<f->n<g->mk f n v=mk g n v:=by
 intro f;induction f with
 | zero=>omega
 | succ f ih=>
  intro g n v h1 h2
  cases g with
  | zero=>omega
  | succ g=>
   rw[Oj,Oj];split
   ·rfl
   ·split
    ·rw[ih g _ v (by omega) (by omega)]
    ·rw[ih g _ v (by omega) (by omega)]
theorem BY(n:Nat)(v:α):(leaf:Tr α).set n v=if n=0 then node leaf (some v) leaf else if n%2=1 then node (leaf.set (n / 2) v) none leaf else node leaf none (leaf.set (n / 2-1) v):=by
 rw[Nd,Oj];split
 ·rfl
 ·split
  ·rw[Nd,EV n (n / 2+1) _ v (by omega) (by omega)]
  ·rw[Nd,EV n (n / 2-1+1) _ v (by omega) (by omega)]
theorem PT:∀(s n m:Nat) (x y:α),n+m<=s->n≠m->((leaf:Tr α).set n x).set m y=((leaf:Tr α).set m y).set n x:=by
 intro s;induction s with
 | zero=>omega
 | succ s ih=>
  intro n m x y hs hne;rw[BY n x,BY m y];by_cases h1:n=0
  ·have h2:m≠0:=by omega
   rw[yab h1,yaa h2,dG,yaa h2];split
   ·rw[dG,yab h1]
   ·rw[dG,yab h1]
  ·rw[yaa h1]
   by_cases h2:m=0
   ·rw[yab h2]
    split
    ·rw[dG,yab h2,dG,yaa h1];rename_i h;rw[yab h]
    ·rw[dG,yab h2,dG,yaa h1];rename_i h;rw[yaa h]
   ·rw[yaa h2]
    by_cases h3:n%2=1<;>by_cases h4:m%2=1
    ·rw[yab h3,yab h4,dG,yaa h2,yab h4,dG,yaa h1,yab h3,ih _ _ x y (by omega) (by omega)]
    ·rw[yab h3,yaa h4,dG,yaa h2,yaa h4,dG,yaa h1,yab h3]
    ·rw[yaa h3,yab h4,dG,yaa h2,yab h4,dG,yaa h1,yaa h3]
    ·rw[yaa h3,yaa h4,dG,yaa h2,yaa h4,dG,yaa h1,yaa h3,ih _ _ x y (by omega) (by omega)]
theorem set_comm(t:Tr α):∀(n m:Nat) (x y:α),n≠m->(t.set n x).set m y=(t.set m y).set n x:=by
 induction t with
 | leaf=>exact fun n m x y h=>PT (n+m) n m x y (ybk _) h
 | node l v r ihl ihr=>
  intro n m x y hne;rw[dG l v r n x,dG l v r m y];by_cases h1:n=0
  ·have h2:m≠0:=by omega
   rw[yab h1,yaa h2,dG,yaa h2];split
   ·rw[dG,yab h1]
   ·rw[dG,yab h1]
  ·rw[yaa h1]
   by_cases h2:m=0
   ·rw[yab h2]
    split
    ·rw[dG,yab h2,dG,yaa h1];rename_i h;rw[yab h]
    ·rw[dG,yab h2,dG,yaa h1];rename_i h;rw[yaa h]
   ·rw[yaa h2]
    by_cases h3:n%2=1<;>by_cases h4:m%2=1
    ·rw[yab h3,yab h4,dG,yaa h2,yab h4,dG,yaa h1,yab h3,ihl _ _ x y (by omega)]
    ·rw[yab h3,yaa h4,dG,yaa h2,yaa h4,dG,yaa h1,yab h3]
    ·rw[yaa h3,yab h4,dG,yaa h2,yab h4,dG,yaa h1,yaa h3]
    ·rw[yaa h3,yaa h4,dG,yaa h2,yaa h4,dG,yaa h1,yaa h3,ihr _ _ x y (by omega)]
theorem get_del(t:Tr α):∀(n m:Nat),(t.del n).get m=if m=n then none else t.get m:=by
 induction t with
 | leaf=>intro n m;show(leaf:Tr α).get m=_;rw[get_leaf];split<;>rfl
 | node l x r ihl ihr=>
  grind [zap,get_node]
theorem many_succ(t:Tr α)(n i:Nat):t.many (n+1) i=ob (t.get i) fun v=>ob (t.many n (i+1)) fun l=>some (v::l):=rfl
theorem many_some(t:Tr α)(n:Nat):∀(i:Nat) (l:List α),t.many n i=some l->l.length=n/\∀j,j<n->t.get (i+j)=l[j]?:=by
 induction n with
 | zero=>intro i l h;cases h;simp_all
 | succ n ih=>
  intro i l h;rw[many_succ,tA]at h;obtain⟨v,hv,h⟩:=h
  rw[tA]at h;grind
theorem PZ(v:α)(l:List α)(t:Tr α)(i:Nat):setMany (v::l) t i=setMany l (t.set i v) (i+1):=rfl
theorem get_setMany(l:List α):∀(t:Tr α) (i m:Nat),(setMany l t i).get m=if i<=m/\m<i+l.length then l[m-i]? else t.get m:=by
 induction l with
 | nil=>intro t i m;rw[yaa (by simp)];rfl
 | cons v l ih=>
  grind [PZ,get_set]
theorem get_ofList(l:List α)(m:Nat):(ofList l).get m=l[m]?:=by
 grind [ofList,get_setMany,get_leaf]
end Tr
theorem zG{α:Type}(l:List α):∀n,fC l n=l[n]?:=by
 induction l with
 | nil=>intro n;rfl
 | cons a l ih=>
  intro n
  cases n with
  | zero=>rfl
  | succ n=>show fC l n=_;grind
theorem xP{α:Type}(l:List α):∀n,wP l n=l.drop n:=by
 induction l with
 | nil=>intro n;simp;rfl
 | cons a l ih=>
  intro n
  cases n with
  | zero=>rfl
  | succ n=>show wP l n=_;grind
theorem rR{α:Type}(l:List α):∀n,kX l n=l.take n:=by
 induction l with
 | nil=>intro n;simp;rfl
 | cons a l ih=>
  intro n
  cases n with
  | zero=>rfl
  | succ n=>show a::kX l n=_;grind
theorem sD{α:Type}(l:List α):bA l=l.length:=by
 induction l with
 | nil=>rfl
 | cons a l ih=>grind [bA]
theorem xG{α:Type}(l m:List α):qD l m=l++m:=by
 induction l with
 | nil=>rfl
 | cons a l ih=>grind [qD]
theorem dH{α:Type}(p:α->Bool)(l:List α):cB p l=l.all p:=by
 induction l with
 | nil=>rfl
 | cons a l ih=>show(bif p a then cB p l else false)=_;rw[ih];cases h:p a<;>simp[h]
theorem zP{α β:Type}(f:α->Option β)(a:α)(l:List α):lG f (a::l)=ob (f a) fun b=>ob (lG f l) fun r=>some (b::r):=rfl
theorem Ck{α β:Type}(f:α->Option β):lG f []=some []:=rfl
theorem lX(i:Nat)(l:List Nat):bG i l=true ↔ i∈l:=by
 induction l with
 | nil=>exact⟨fun h=>(by cases h),fun h=>(by cases h)⟩
 | cons j l ih=>
  grind [bG,sC]
theorem bN(a:List Nat):∀b,bC a b=true ↔ a=b:=by
 induction a with
 | nil=>intro b;cases b with
  | nil=>exact⟨fun _=>rfl,fun _=>rfl⟩
  | cons y b=>exact⟨fun h=>(by cases h),fun h=>(by cases h)⟩
 | cons x a ih=>
  intro b
  cases b with
  | nil=>exact⟨fun h=>(by cases h),fun h=>(by cases h)⟩
  | cons y b=>
   simp_all [bC]
theorem qN{a b:IntKind}:eL a b=true ↔ a=b:=by cases a<;>cases b<;>simp[eL,kIdx]
theorem zZ(a b:Bool):bEq a b=(a == b):=by cases a<;>cases b<;>rfl
theorem zY(a b:Int):tC a b=true ↔ a=b:=by
 cases a<;>cases b<;>simp only[tC,sC] <;> (try simp)<;>omega
theorem IS(a b:Int):aF a b=true ↔ a<=b:=by
 cases a<;>cases b<;>simp only[aF,qE] <;> (try simp)<;>omega
theorem Pm(a b:Int):yC a b=true ↔ a<b:=by
 cases a<;>cases b<;>simp only[yC,vC] <;> (try simp)<;>omega
theorem Ag(a b:Int):tC a b=(a == b):=by grind [zY]
theorem IT(a b:Int):aF a b=decide (a<=b):=by grind [IS]
theorem IR(a b:Int):yC a b=decide (a<b):=by grind [Pm]
theorem kN(k:IntKind)(n:Int):lA k n=k.wrap n:=by
 cases n with
 | ofNat n=>
  show(bif Nat.blt n (cF k)then Int.ofNat n else _)=_
  rw[dC];by_cases h:Nat.blt n (cF k)=true
  ·rw[yab h]
   have h':=vC.1 h
   cases k<;>simp only[cF]at h'<;>simp only[IntKind.wrap,IntKind.bits,IntKind.signed]<;>simp<;>omega
  grind
 | negSucc n=>
  show(bif Nat.blt n (kLo k)then Int.negSucc n else _)=_
  rw[dC];by_cases h:Nat.blt n (kLo k)=true
  ·rw[yab h]
   have h':=vC.1 h
   cases k<;>simp only[kLo]at h'<;>simp only[IntKind.wrap,IntKind.bits,IntKind.signed]<;>simp<;>omega
  grind
theorem Jg{n:Int}{m:Nat}:gL n=some m ↔ n=(m:Int):=by
 cases n with
 | ofNat a=>grind [gL]
 | negSucc a=>grind [gL]
end Go.Am
namespace Go.Am
open Go
theorem Ey{a b:zA}{r:Bool}(h:uP a b=some r) :
  (∃k x y,a=.int k x/\b=.int k y/\r=(x == y))\/(∃x y,a=.str x/\b=.str y/\r=bC x y)\/(∃x y,a=.bool x/\b=.bool y/\r=(x == y)):=by
 cases a<;>simp only[uP,zA.asIntK,zA.asStr,Fj,zA.asBool]at h<;>try (cases h;done)
 case bool x=>
  rw[qA,tA]at h;grind [zZ]
 all_goals grind [tA,xB,qN,Ag]
theorem GY{a b:zA}(h:uP a b=some true):a=b:=by
 grind [Ey,bN]
theorem GZ{a b:zA}{r:Bool}(h:uP a b=some r):uP b a=some r:=by
 rcases Ey h with⟨k,x,y,rfl,rfl,hr⟩ | ⟨x,y,rfl,rfl,hr⟩ | ⟨x,y,rfl,rfl,hr⟩
 ·have e:tC y x=(x == y):=by grind [Ag]
  show yB (eL k k) (some (tC y x))=_
  grind [xB,qN]
 ·grind [uP,zA.asIntK,zA.asStr,qA,bN]
 ·simp only[uP,zA.asIntK,zA.asStr,Fj,zA.asBool,zZ,qA,hr]
  rw[show(y == x)=(x == y) by cases x<;>cases y<;>rfl]
theorem GR:∀ {x y:List zA},lS x y=some true->x=y
 | [],[],_=>rfl
 | a::x,b::y,h=>by
  simp only[lS,tA]at h;obtain⟨r,hr,s,hs,h⟩:=h
  cases r<;>cases s<;>simp at h
  rw[GY hr,GR hs]
 | [],_::_,h=>by cases h
 | _::_,[],h=>by cases h
theorem GS:∀ {x y:List zA} {r:Bool},lS x y=some r->lS y x=some r
 | [],[],_,h=>h
 | a::x,b::y,r,h=>by
  simp only[lS,tA]at h ⊢
  obtain⟨r1,hr,s,hs,h⟩:=h
  exact⟨r1,GZ hr,s,GS hs,h⟩
 | [],_::_,_,h=>by cases h
 | _::_,[],_,h=>by cases h
theorem Jv{a b:zA}{r:Bool}(h:nH a b=some r):(∃x y,a=.agg x/\b=.agg y/\lS x y=some r)\/(a.asAgg=none/\uP a b=some r):=by
 unfold nH at h;split at h
 ·rename_i x hx
  rw[tA]at h;obtain⟨y,hy,h⟩:=h
  cases a<;>simp[zA.asAgg]at hx
  cases b<;>simp[zA.asAgg]at hy
  simp_all
 simp_all
theorem UQ{a b:zA}{r:Bool}(h:uP a b=some r):nH a b=some r:=by
 rcases Ey h with⟨k,x,y,rfl,rfl,hr⟩ | ⟨x,y,rfl,rfl,hr⟩ | ⟨x,y,rfl,rfl,hr⟩<;>exact h
theorem GX{a b:zA}(h:nH a b=some true):a=b:=by
 rcases Jv h with⟨x,y,rfl,rfl,h⟩ | ⟨_,h⟩
 ·rw[GR h]
 ·exact GY h
theorem Ju{a b:zA}{r:Bool}(h:nH a b=some r):nH b a=some r:=by
 rcases Jv h with⟨x,y,rfl,rfl,h⟩ | ⟨_,h⟩
 ·exact GS h
 ·exact UQ (GZ h)
def DK (l:List (zA × zA)):Prop:=l.Pairwise fun p q=>nH p.1 q.1=some false
def Gk(l l':List (zA × zA)):Prop:=l'=l\/(l.Perm l'/\DK l)
theorem DK.perm{l l':List (zA × zA)}(h:DK l)(p:l.Perm l'):DK l':=(p.pairwise_iff (fun hab=>Ju hab)).1 h
theorem Xs{k:zA}:∀ {l:List (zA × zA)},mJ k l=some none ↔ ∀e∈l,nH k e.1=some false
 | []=>by simp[mJ]
 | e::l=>by
  rw[mJ,tA];constructor
  ·rintro⟨r,hr,h⟩
   cases r with
   | true=>cases h
   | false=>
    rw[cond_false]at h;intro x hx;rcases ybs.1 hx with rfl | hx
    ·exact hr
    ·exact Xs.1 h x hx
  ·intro h
   exact⟨false,h e (.head _),Xs.2 fun x hx=>h x (.tail _ hx)⟩
theorem JL{k v:zA}:∀ {l:List (zA × zA)},mJ k l=some (some v)->(k,v)∈l/\nH k k=some true
 | [],h=>by cases h
 | e::l,h=>by
  rw[mJ,tA]at h;obtain⟨r,hr,h⟩:=h
  cases r with
  | true=>
   grind [GX]
  | false=>
   rw[cond_false]at h;obtain⟨h1,h2⟩:=JL h
   simp_all
theorem DK.split{k v:zA}{l m:List (zA × zA)}(h:DK (l++(k,v)::m)):(∀e∈l,nH k e.1=some false)/\∀e∈m,nH k e.1=some false:=by
 unfold DK at h;rw[List.pairwise_append]at h;obtain⟨_,h2,h3⟩:=h
 rw[List.pairwise_cons]at h2;exact⟨fun e he=>Ju (h3 e he (k,v) (.head _)),fun e he=>h2.1 e he⟩
theorem WA{k:zA}{l m:List (zA × zA)}(h:∀e∈l,nH k e.1=some false):mJ k (l++m)=mJ k m:=by
 induction l with
 | nil=>rfl
 | cons e l ih=>
  grind [mJ,qA]
theorem WB{k:zA}{l l':List (zA × zA)}{r:Option zA}(h:Gk l l')(hf:mJ k l=some r):mJ k l'=some r:=by
 rcases h with rfl | ⟨p,d⟩
 ·exact hf
 cases r with
 | none=>
  grind [Xs]
 | some v=>
  obtain⟨h1,h2⟩:=JL hf
  obtain⟨a,b,rfl⟩:=List.append_of_mem (p.mem_iff.1 h1)
  rw[WA (d.perm p).split.1,mJ,h2,qA,cond_true]
theorem Uk{k v:zA}:∀ {l:List (zA × zA)},(∀e∈l,nH k e.1=some false)->qM k v l=some (l++[(k,v)])
 | [],_=>rfl
 | e::l,h=>by
  rw[qM,h e (.head _),qA,cond_false,Uk fun x hx=>h x (.tail _ hx)]
  rfl
theorem CA{k v u:zA}{m:List (zA × zA)}(hk:nH k k=some true):∀ {l:List (zA × zA)},(∀e∈l,nH k e.1=some false)->qM k v (l++(k,u)::m)=some (l++(k,v)::m)
 | [],_=>by simp_all [qM]
 | e::l,h=>by
  rw[List.cons_append,qM,h e (.head _),qA,cond_false,CA hk fun x hx=>h x (.tail _ hx)]
  rfl
theorem BZ{k v:zA}:∀ {l r:List (zA × zA)},qM k v l=some r->((∀e∈l,nH k e.1=some false)/\r=l++[(k,v)])\/(nH k k=some true/\∃a u b,l=a++(k,u)::b/\r=a++(k,v)::b)
 | [],r,h=>by cases h;simp_all
 | e::l,r,h=>by
  rw[qM,tA]at h;obtain⟨q,hq,h⟩:=h
  cases q with
  | true=>
   rw[cond_true]at h
   cases h;have:=GX hq
   refine .inr ⟨by simp_all,[],e.2,l,?_,rfl⟩
   rw[yah,this]
  | false=>
   rw[cond_false,tA]at h;obtain⟨r',hr,h⟩:=h
   cases h;rcases BZ hr with⟨h1,rfl⟩ | ⟨h0,a,u,b,rfl,rfl⟩
   all_goals grind
theorem PX{k v:zA}{l l' r:List (zA × zA)}(h:Gk l l')(hs:qM k v l=some r):∃r',qM k v l'=some r'/\Gk r r':=by
 rcases h with rfl | ⟨p,d⟩
 ·exact⟨r,hs,.inl rfl⟩
 rcases BZ hs with⟨h1,rfl⟩ | ⟨h0,a,u,b,rfl,rfl⟩
 ·refine⟨_,Uk fun e he=>h1 e (p.mem_iff.2 he),.inr ⟨p.append_right _,?_⟩⟩
  unfold DK;rw[List.pairwise_append];exact⟨d,by simp,fun x hx y hy=>by grind [Ju]⟩
 ·obtain⟨a',b',rfl⟩:=List.append_of_mem (p.mem_iff.1 (ycf a (.head b)))
  refine⟨_,CA h0 (d.perm p).split.1,.inr ⟨?_,?_⟩⟩
  ·have p1:(a++b).Perm (a'++b'):=by
    have q1:(a++(k,u)::b).Perm ((k,u)::(a++b)):=List.perm_middle
    have q2:(a'++(k,u)::b').Perm ((k,u)::(a'++b')):=List.perm_middle
    exact(q1.symm.trans (p.trans q2)).cons_inv
   exact List.perm_middle.trans ((p1.cons _).trans List.perm_middle.symm)
  ·unfold DK at d ⊢
   rw[List.pairwise_append,List.pairwise_cons]at d ⊢
   obtain⟨d1,⟨d2,d3⟩,d4⟩:=d
   refine⟨d1,⟨d2,d3⟩,fun x hx y hy=>?_⟩
   rcases ybs.1 hy with rfl | hy
   ·exact d4 x hx (k,u) (.head _)
   grind
end Go.Am
namespace Go.Am
open Go
structure BI where
 b:Nat
 tight:Bool
 es:Nat
 room:Nat
 ro:Bool
structure Mu where
 m:Nat->Option BI
 pd:Nat->Option (vA × Nat × Nat)
instance:CoeFun Mu fun _=>Nat->Option BI:=⟨Mu.m⟩
def Mu.lw(μ ν:Mu):Prop:=∀a i,μ a=some i->ν a=some i
structure Mu.le (μ ν:Mu):Prop where
 f:∀a i,μ a=some i->ν a=some i
 pd:ν.pd=μ.pd
instance {μ ν:Mu}:CoeFun (μ.le ν) fun _=>∀a i,μ a=some i->ν a=some i:=⟨Mu.le.f⟩
instance {μ ν:Mu}:Coe (μ.le ν) (μ.lw ν):=⟨Mu.le.f⟩
theorem Mu.le_refl(μ:Mu):μ.le μ:=⟨fun _ _ h=>h,rfl⟩
theorem Mu.le_trans{a b c:Mu}(h:a.le b)(k:b.le c):a.le c:=⟨fun x i hx=>k.f x i (h.f x i hx),k.pd.trans h.pd⟩
def Gl(μ:Mu):oT->Fn->Prop
 | .func f,fn=>fn=.func f
 | .yld l,fn=>∃i,μ l=some i/\fn=.yield i.b
mutual
def uA (μ:Mu):zA->Value->Prop
 | .bool b,v=>v=.bool b
 | .int k n,v=>v=.int k n
 | .str l,v=>∃s,v=.string s/\aE s=l
 | .nilptr,v=>v=.pointer none
 | .ptr b off,v=>∃i,μ b=some i/\v=.pointer (some ⟨i.b,off,none⟩)
 | .nilslice,v=>v=.slice none 0 0
 | .slice b off len cap,v=>(∃i cap',μ b=some i/\v=.slice (some ⟨i.b,off,none⟩) len cap'/\cap<=cap'/\(i.tight=true->cap'=cap)/\(i.tight=false->off+cap'*i.es<=i.room))\/(b=0/\len=0/\cap=0/\∃a c,v=.slice (some a) 0 c/\(off=0/\c=0\/off=1))
 | .nilmap,v=>v=.map none
 | .map b,v=>∃i,μ b=some i/\v=.map (some i.b)
 | .func f a c,v=>∃fn a' c',v=.func fn a' c'/\Gl μ f fn/\rB μ a a'.toList/\rB μ c c'.toList
 | .nilfunc,v=>v=.nilFunc
 | .iface t x,v=>∃x',v=.iface t x'/\uA μ x x'
 | .niliface,v=>v=.nilIface
 | .agg l,v=>∃cs,v=.agg cs/\rB μ l cs.toList
 | .tup l,v=>∃cs,v=.tuple cs/\rB μ l cs.toList
def rB (μ:Mu):List zA->List Value->Prop
 | [],m=>m=[]
 | a::l,m=>∃v r,m=v::r/\uA μ a v/\rB μ l r
end
theorem Gl.mono{μ ν:Mu}(h:μ.lw ν){f:oT}{g:Fn}(k:Gl μ f g):Gl ν f g:=by
 cases f with
 | func f=>exact k
 | yld l=>obtain⟨i,h1,h2⟩:=k;exact⟨i,h _ _ h1,h2⟩
mutual
theorem uA.mono{μ ν:Mu}(h:μ.lw ν):∀(a:zA) (v:Value),uA μ a v->uA ν a v
 | .bool _,_,k=>k
 | .int _ _,_,k=>k
 | .str _,_,k=>k
 | .nilptr,_,k=>k
 | .ptr _ _,_,⟨i,h1,h2⟩=>⟨i,h _ _ h1,h2⟩
 | .nilslice,_,k=>k
 | .slice _ _ _ _,_,.inl ⟨i,c,h1,h2⟩=>.inl ⟨i,c,h _ _ h1,h2⟩
 | .slice _ _ _ _,_,.inr k=>.inr k
 | .nilmap,_,k=>k
 | .map _,_,⟨i,h1,h2⟩=>⟨i,h _ _ h1,h2⟩
 | .func _ a c,_,⟨fn,a',c',h1,h2,h3,h4⟩=>⟨fn,a',c',h1,h2.mono h,rB.mono h a _ h3,rB.mono h c _ h4⟩
 | .nilfunc,_,k=>k
 | .iface _ x,_,⟨x',h1,h2⟩=>⟨x',h1,uA.mono h x _ h2⟩
 | .niliface,_,k=>k
 | .agg l,_,⟨cs,h1,h2⟩=>⟨cs,h1,rB.mono h l _ h2⟩
 | .tup l,_,⟨cs,h1,h2⟩=>⟨cs,h1,rB.mono h l _ h2⟩
theorem rB.mono{μ ν:Mu}(h:μ.lw ν):∀(l:List zA) (m:List Value),rB μ l m->rB ν l m
 | [],_,k=>k
 | a::l,_,⟨v,r,h1,h2,h3⟩=>⟨v,r,h1,uA.mono h a v h2,rB.mono h l r h3⟩
end
theorem rB.length{μ:Mu}{l:List zA}:∀ {m:List Value},rB μ l m->m.length=l.length:=by
 induction l with
 | nil=>grind [rB]
 | cons a l ih=>grind [rB]
theorem rB.get{μ:Mu}{l:List zA}:∀ {m:List Value} {i:Nat} {a:zA},rB μ l m->l[i]?=some a->∃v,m[i]?=some v/\uA μ a v:=by
 induction l with
 | nil=>simp_all
 | cons b l ih=>
  grind [rB]
theorem rB.mk{μ:Mu}{l:List zA}:∀ {m:List Value},m.length=l.length->(∀(i:Nat) a v,l[i]?=some a->m[i]?=some v->uA μ a v)->rB μ l m:=by
 induction l with
 | nil=>grind [rB]
 | cons a l ih=>
  intro m h k
  cases m with
  | nil=>simp at h
  | cons v r=>
   rw[rB];exact⟨v,r,rfl,k 0 a v (by simp) (by simp),ih (by grind) fun i a v h1 h2=>k (i+1) a v (by simp_all) (by simp_all)⟩
theorem rB.append{μ:Mu}{l l':List zA}:∀ {m m':List Value},rB μ l m->rB μ l' m'->rB μ (l++l') (m++m'):=by
 induction l with
 | nil=>grind [rB]
 | cons a l ih=>grind [rB]
theorem rB.drop{μ:Mu}{l:List zA}{m:List Value}(h:rB μ l m)(n:Nat):rB μ (l.drop n) (m.drop n):=by
 refine rB.mk (by simp[h.length]) fun i a v h1 h2=>?_
 rw[yde]at h1 h2;obtain⟨u,hu,hr⟩:=h.get h1
 simp_all
theorem rB.take{μ:Mu}{l:List zA}{m:List Value}(h:rB μ l m)(n:Nat):rB μ (l.take n) (m.take n):=by
 refine rB.mk (by simp[h.length]) fun i a v h1 h2=>?_
 rw[ydf]at h1 h2;split at h1
 ·rename_i hi
  rw[yab hi]at h2;obtain⟨u,hu,hr⟩:=h.get h1
  simp_all
 grind
theorem rB.nil{μ:Mu}:rB μ [] []:=by rw[rB]
theorem rB.cons{μ:Mu}{a:zA}{l:List zA}{v:Value}{m:List Value}(h:uA μ a v)(k:rB μ l m):rB μ (a::l) (v::m):=by grind [rB]
theorem rB.single{μ:Mu}{a:zA}{v:Value}(h:uA μ a v):rB μ [a] [v]:=.cons h .nil
theorem Au{v:zA}{b:Bool}:v.asBool=some b ↔ v=.bool b:=by cases v<;>simp[zA.asBool]
theorem Yt{v:zA}{n:Int}:v.asInt=some n ↔ ∃k,v=.int k n:=by cases v<;>simp[zA.asInt]
theorem bU{v:zA}{p:IntKind × Int}:v.asIntK=some p ↔ v=.int p.1 p.2:=by cases v<;>simp[zA.asIntK,Prod.ext_iff]
theorem cU{v:zA}{l:List Nat}:v.asStr=some l ↔ v=.str l:=by cases v<;>simp[zA.asStr]
theorem Dd{v:zA}{p:Nat × Nat}:v.asPtr=some p ↔ v=.ptr p.1 p.2:=by cases v<;>simp[zA.asPtr,Prod.ext_iff]
theorem As{v:zA}{p:Nat × Nat × Nat × Nat}:v.asSlice=some p ↔ v=.slice p.1 p.2.1 p.2.2.1 p.2.2.2:=by cases v<;>simp[zA.asSlice,Prod.ext_iff]
theorem Qv{v:zA}{b:Nat}:v.asMap=some b ↔ v=.map b:=by cases v<;>simp[zA.asMap]
theorem Fy{v:zA}{l:List zA}:v.asAgg=some l ↔ v=.agg l:=by cases v<;>simp[zA.asAgg]
theorem ZB{v:zA}{l:List zA}:v.asTup=some l ↔ v=.tup l:=by cases v<;>simp[zA.asTup]
theorem LM{v:zA}{p:oT × List zA × List zA}:v.asFunc=some p ↔ v=.func p.1 p.2.1 p.2.2:=by cases v<;>simp[zA.asFunc,Prod.ext_iff]
theorem LL{v:zA}{p:Nat × zA}:v.asIface=some p ↔ v=.iface p.1 p.2:=by cases v<;>simp[zA.asIface,Prod.ext_iff]
theorem Qu{v:zA}{n:Nat}:v.asNat=some n ↔ ∃k,v=.int k (n:Int):=by
 simp_all [zA.asNat,tA,Yt,Jg]
theorem jT{v:zA}:(v.tag=3 ↔ v=.nilptr)/\(v.tag=5 ↔ v=.nilslice)/\(v.tag=7 ↔ v=.nilmap)/\(v.tag=10 ↔ v=.nilfunc)/\(v.tag=12 ↔ v=.niliface):=by
 cases v<;>simp[zA.tag]
theorem uA.notAgg{μ:Mu}{a:zA}{v:Value}(h:uA μ a v)(ha:a.asAgg=none):v.cells = #[v]:=by
 cases a<;>rw[uA]at h<;>first
  | (subst h;rfl)
  | (rcases h with⟨_,_,_,rfl,_⟩ | ⟨_,_,_,_,_,rfl,_⟩<;>rfl)
  | (obtain⟨_,rfl,_⟩:=h;rfl)
  | (obtain⟨_,_,rfl⟩:=h;rfl)
  | (obtain⟨_,_,_,rfl,_⟩:=h;rfl)
  | grind [zA.asAgg]
theorem uA.one{μ:Mu}{a:zA}{v:Value}(h:uA μ a v)(ha:a.one=true):v.oneCell'=true:=by
 cases a<;>rw[uA]at h<;>first
  | (subst h;rfl)
  | (rcases h with⟨_,_,_,rfl,_⟩ | ⟨_,_,_,_,_,rfl,_⟩<;>rfl)
  | (obtain⟨_,rfl,_⟩:=h;rfl)
  | (obtain⟨_,_,rfl⟩:=h;rfl)
  | (obtain⟨_,_,_,rfl,_⟩:=h;rfl)
  | (revert ha;decide)
  | (have:=vC.1 ha;grind [zA.tag])
theorem Qj{μ:Mu}{a:zA}{v:Value}(h:uA μ a v):rB μ a.cells v.cells.toList:=by
 unfold zA.cells
 cases ha:a.asAgg with
 | none=>rw[h.notAgg ha];exact rB.single h
 | some l=>rw[Fy.1 ha,uA]at h;obtain⟨cs,rfl,h⟩:=h;exact h
def aN(P:Program)(t:Nat):yE:=
 match P.underlying t with
 | some .bool=>.bool
 | some (.int k)=>.int k
 | some .string=>.string
 | some (.pointer e)=>.ptr e
 | some (.slice e)=>.slice e
 | some (.array n e)=>.arr n e
 | some (.map k e)=>.map k e
 | some (.struct fs)=>.struct (fs.toList.map fun f=>(f.offset,f.type,P.cellsOf f.type))
 | some (.func ..)=>.func
 | some (.interface _)=>.iface
 | _=>.other
def Pj:Value->Bool
 | .agg _=>true
 | _=>false
def OH(P:Program)(t:Nat):Bool:=(P.fieldsOf t).toList.all fun f=>(P.info? f.type).isSome
def Hk (P:Program)(t:Nat):Option rC:=
 match P.info? t with
 | some i=>match i.zero with
  | some z=>ob (lG Ch z.cells.toList) fun l=>yB (bEq (Pj z) (aN P t).isAgg&&(P.underlying t).isSome&&OH P t)
    (some ⟨aN P t, i.size, i.bytes, l, !P.stoodInHeld t && !P.eqGuardType P.depth t && (P.fieldsOf t).toList.all (fun f => f.name != "_")⟩)
  | none=>none
 | none=>none
def zF(P:Program)(C:rA):Prop:=∀t ty,C.tys.get t=some ty->Hk P t=some ty
theorem Qk{a b:ByteArray}(h:aE a=aE b):a=b:=by
 have h1:a.data.toList=b.data.toList:=by
  grind [aE,List.map_inj_right,UInt8.toNat_inj]
 have h2:a.data=b.data:=yax.1 h1
 cases a;simp_all
theorem EI{μ:Mu}{v:Value}{a:zA}(h:Ch v=some a):uA μ a v/\a.one=true:=by
 unfold Ch at h;split at h<;>cases h<;>refine⟨?_,rfl⟩<;>rw[uA]
 simp_all
theorem EH{μ:Mu}{m:List Value}:∀ {l:List zA},lG Ch m=some l->rB μ l m:=by
 induction m with
 | nil=>grind [Ck,rB.nil]
 | cons v m ih=>
  intro l h;rw[zP,tA]at h;obtain⟨a,ha,h⟩:=h
  rw[tA]at h;obtain⟨r,hr,h⟩:=h
  cases h;exact .cons (EI ha).1 (ih hr)
theorem SV{μ:Mu}{v:Value}{a:zA}(h:Vt v=some a):uA μ a v:=by
 unfold Vt at h;split at h
 ·rename_i cs hc
  rw[tA]at h;obtain⟨l,hl,h⟩:=h
  cases h
  cases v<;>simp[zbk]at hc
  grind [uA,EH]
 grind [EI]
structure cK (P:Program) (t:Nat) (ty:rC):Prop where
 info:∃i,P.info? t=some i/\i.size=ty.size/\i.bytes=ty.bytes/\∃z,i.zero=some z/\lG Ch z.cells.toList=some ty.zero/\Pj z=ty.desc.isAgg
 desc:aN P t=ty.desc
 und:∃d,P.underlying t=some d
 fields:∀f∈(P.fieldsOf t).toList,∃i,P.info? f.type=some i
 eqOk : ty.eqOk = true -> P.stoodInHeld t = false /\ P.eqGuardType P.depth t = false /\ ∀ f ∈ (P.fieldsOf t).toList, f.name ≠ "_"
theorem NJ{P:Program}{t:Nat}{ty:rC}(h:Hk P t=some ty):cK P t ty:=by
 unfold Hk at h;split at h
 ·rename_i i hi
  split at h
  ·rename_i z hz
   rw[tA]at h;obtain⟨l,hl,h⟩:=h
   rw[xB]at h;obtain⟨hb,h⟩:=h
   cases h;rw[ybb,ybb]at hb;refine⟨⟨i,hi,rfl,rfl,z,hz,hl,?_⟩,rfl,Option.isSome_iff_exists.1 hb.1.2,fun f hf=>Option.isSome_iff_exists.1 (ycb.1 hb.2 f hf),fun h=>?_⟩
   all_goals grind [zZ]
  ·cases h
 ·cases h
theorem zF.facts{P:Program}{C:rA}(h:zF P C){t:Nat}{ty:rC}(k:C.tys.get t=some ty):cK P t ty:=NJ (h t ty k)
section
variable {P:Program}{w:World}{t:Nat}{ty:rC}
theorem Cb{i:TypeInfo}(h:P.info? t=some i):(typeInfo t).run P w=.ok i w:=by
 simp[typeInfo,h]
theorem gE{d:TypeDesc}(h:P.underlying t=some d):(underlying t).run P w=.ok d w:=by
 simp[underlying,h]
theorem cK.size(h:cK P t ty):(sizeOf t).run P w=.ok ty.size w:=by
 obtain⟨i,h1,h2,_⟩:=h.info
 simp[sizeOf,Cb h1,h2]
theorem cK.zero(h:cK P t ty){μ:Mu}:∃z,(∀w,(zeroValue t).run P w=.ok z w)/\uA μ (uV ty) z/\rB μ ty.zero z.cells.toList:=by
 obtain⟨i,h1,_,_,z,h2,h3,h4⟩:=h.info
 have hl:rB μ ty.zero z.cells.toList:=EH h3
 refine⟨z,fun w=>by simp[zeroValue,Cb h1,h2],?_,hl⟩
 unfold uV
 cases hd:ty.desc.isAgg with
 | true=>
  rw[hd]at h4
  cases z<;>simp[Pj]at h4
  show uA μ (.agg ty.zero) _
  rw[uA];exact⟨_,rfl,hl⟩
 | false=>
  rw[hd]at h4;have hc:z.cells = #[z]:=by cases z<;>first | rfl | simp[Pj]at h4
  grind [rB]
theorem cK.isAgg(h:cK P t ty):(Go.isAgg t).run P w=.ok ty.desc.isAgg w:=by
 obtain⟨d,hd⟩:=h.und
 have h0:=h.desc
 unfold aN at h0;rw[hd]at h0;unfold Go.isAgg;rw[yad,gE hd,yac,<- h0]
 cases d<;>rfl
theorem Cw(h:cK P t ty){fs:List (Nat × Nat × Nat)}(k:ty.desc.asStruct=some fs):∃g,P.underlying t=some (.struct g)/\fs=g.toList.map fun f=>(f.offset,f.type,P.cellsOf f.type):=by
 obtain⟨d,hd⟩:=h.und
 have h0:=h.desc
 grind [aN,yE.asStruct]
theorem iR(h:cK P t ty){e:Nat}(k:ty.desc.asSlice=some e):P.underlying t=some (.slice e):=by
 obtain⟨d,hd⟩:=h.und
 have h0:=h.desc
 unfold aN at h0;rw[hd]at h0;rw[<- h0]at k
 cases d<;>simp[yE.asSlice]at k
 rw[hd,k]
theorem Qe(h:cK P t ty){p:Nat × Nat}(k:ty.desc.asArr=some p):P.underlying t=some (.array p.1 p.2):=by
 obtain⟨d,hd⟩:=h.und
 have h0:=h.desc
 unfold aN at h0;rw[hd]at h0;rw[<- h0]at k
 cases d<;>simp[yE.asArr]at k
 rw[hd,<- k]
theorem KB(h:cK P t ty){p:Nat × Nat}(k:ty.desc.asMap=some p):P.underlying t=some (.map p.1 p.2):=by
 obtain⟨d,hd⟩:=h.und
 have h0:=h.desc
 unfold aN at h0;rw[hd]at h0;rw[<- h0]at k
 cases d<;>simp[yE.asMap]at k
 rw[hd,<- k]
theorem Yf(h:cK P t ty){k:IntKind}(e:ty.desc.asInt=some k):P.underlying t=some (.int k):=by
 obtain⟨d,hd⟩:=h.und
 have h0:=h.desc
 unfold aN at h0;rw[hd]at h0;rw[<- h0]at e
 cases d<;>simp[yE.asInt]at e
 rw[hd,e]
theorem Qc(h:cK P t ty)(e:ty.desc.isString=true):P.underlying t=some .string:=by
 obtain⟨d,hd⟩:=h.und
 have h0:=h.desc
 grind [aN,yE.isString,yE.tag,Nat.beq]
theorem JZ(h:cK P t ty)(e:Nat.blt ty.desc.tag 9=true):∃d,P.underlying t=some d/\∀ms,d≠.interface ms:=by
 obtain⟨d,hd⟩:=h.und
 refine⟨d,hd,fun ms hm=>?_⟩
 subst hm;have h0:=h.desc
 grind [aN,vC,yE.tag]
end
structure vZ (μ:Mu) (d:jG) (e:Deferred):Prop where
 rel:match d.fn with
  | none=>∃i,μ d.r=some i/\e={ target:=.collected i.b,args := #[] }
  | some f=>∃fn cap as,e={ target:=.fn fn cap,args:=as }/\Gl μ f fn/\rB μ d.args (as++cap).toList
def lE(μ:Mu)(n:Nat)(tm:Tm)(tmps:Array Value):Prop:=tmps.size=n/\∀i v,tm.get i=some v->uA μ v (tmps.getD i undef)
structure Lh (μ:Mu) (l:lL) (r:Loop):Prop where
 state:r.state=l.state
 pending:r.pending=l.pending
 fn:r.fn=l.fn
 tm:lE μ l.n l.tm r.tmps
 params:r.params.toList=l.params
 assign:r.assign=l.assign
 body:r.body=l.body
 defers:∃i,μ l.defers=some i/\r.defers=i.b
inductive uD {α β:Type} (R:α->β->Prop):List α->List β->Prop
 | nil:uD R [] []
 | cons {a b l m}:R a b->uD R l m->uD R (a::l) (b::m)
def yI (μ:Mu)(i:BI):vA->Obj->Prop
 | .cells c n loose,o=>∃cs elem fr,o=.cells cs elem fr/\n<=cs.size/\(i.ro=true\/fr.2<=fr.1\/cs.size<=fr.1)/\(∀(j:Nat) v,c.get j=some v->j<n/\∃v',cs[j]?=some v'/\uA μ v v') ∧
   (match loose with | none=>i.tight=true | some lo=>i.tight=false/\i.es=lo.es/\i.room=cs.size/\∀t,lo=.ty t->elem=t)
 | .map l,o=>∃es clock l',o=.map es clock/\Gk l l'/\uD (fun p e=>uA μ p.1 e.key/\uA μ p.2 e.val) l' es.toList
 | .loop l,o=>∃r,o=.loop r/\Lh μ l r
 | .deferred l,o=>∃l',o=.deferred l'/\(match l,l' with | none,none=>True | some a,some b=>uD (vZ μ) a b | _,_=>False)
 | .siter s pos,o=>∃s',o=.stringIter s' pos/\aE s'=s
structure wB (B N:Nat) (μ:Mu) (H:xA) (w:World):Prop where
 base:256<=B
 glob:∀g,g<256->μ g=some ⟨g,true,0,0,true⟩
 low:∀a x i,a<B->H.t.get a=some x->μ a=some i->i.b<N/\x.asLoop=none/\x.asDeferred=none
 next:B<=H.next
 size:N<=w.heap.size
 fresh:∀a,H.next<=a->μ a=none/\H.t.get a=none
 blk:∀a x i,H.t.get a=some x->μ a=some i->∃o,w.heap[i.b]?=some o/\yI μ i x o
 own:∀a i,B<=a->μ a=some i->N<=i.b/\i.b<w.heap.size/\i.ro=false
 inj:∀a b x y i j,H.t.get a=some x->H.t.get b=some y->μ a=some i->μ b=some j->B<=a->B<=b->i.b=j.b->a=b
 pnd:∀a x t,μ.pd a=some (x,t)->μ a=none/\H.t.get a=some x/\B<=a
end Go.Am
namespace Go.Am
open Go
def uF (μ:Mu)(e:kC)(ρ:Operand->Value):Prop:=∀x v,ev x e=some v->uA μ v (ρ x)
theorem uF.many{μ:Mu}{e:kC}{ρ:Operand->Value}(h:uF μ e ρ):∀ {l:List Operand} {r:List zA},lM l e=some r->rB μ r (l.map ρ):=by
 intro l;induction l with
 | nil=>intro r k;unfold lM at k;rw[Ck]at k;cases k;exact .nil
 | cons x l ih=>
  intro r k;unfold lM at k;rw[zP,tA]at k;obtain⟨a,ha,k⟩:=k
  rw[tA]at k;obtain⟨b,hb,k⟩:=k
  cases k
  exact .cons (h _ _ ha) (ih hb)
theorem uF.parts{μ:Mu}{e:kC}{ρ:Operand->Value}(h:uF μ e ρ):∀ {l:List (Nat × Operand)} {r:List (Nat × zA)},kR l e=some r →
  uD (fun p q=>p.1=q.1/\uA μ p.2 q.2) r (l.map fun x=>(x.1,ρ x.2)):=by
 intro l;induction l with
 | nil=>intro r k;unfold kR at k;rw[Ck]at k;cases k;exact .nil
 | cons x l ih=>
  intro r k;unfold kR at k;rw[zP,tA]at k;obtain⟨a,ha,k⟩:=k
  rw[tA]at ha;obtain⟨a',ha,ha'⟩:=ha
  cases ha'
  rw[tA]at k;obtain⟨b,hb,k⟩:=k
  cases k
  exact .cons ⟨rfl,h _ _ ha⟩ (ih hb)
def Yz(μ:Mu):Option zA->Option Value->Prop
 | none,none=>True
 | some a,some v=>uA μ a v
 | _,_=>False
theorem uF.opt{μ:Mu}{e:kC}{ρ:Operand->Value}(h:uF μ e ρ){x:Option Operand}{r:Option zA}(k:jR x e=some r):Yz μ r (x.map ρ):=by
 cases x with
 | none=>cases k;trivial
 | some x=>unfold jR at k;simp only[]at k;rw[tA]at k;obtain⟨a,ha,k⟩:=k;cases k;exact h _ _ ha
theorem lW(b off n:Nat):Addr.add ⟨b,off,none⟩ n=⟨b,off+n,none⟩:=by
 grind [Addr.add]
section
variable {P:Program}{C:rA}{B N:Nat}{μ:Mu}{H:xA}{w:World}
theorem Ar{b:Nat}{p:Tr zA × Nat × Option Lo}(h:bD H b=some p):H.t.get b=some (.cells p.1 p.2.1 p.2.2):=by
 unfold bD at h;rw[tA]at h;obtain⟨x,hx,h⟩:=h
 cases x<;>simp[vA.asCells]at h
 grind
theorem wB.cellAt(hH:wB B N μ H w){b:Nat}{p:Tr zA × Nat × Option Lo}(h:bD H b=some p){i:BI}(hi:μ b=some i){j:Nat}{v:zA}(hv:p.1.get j=some v) :
  ∃v',w.cell? ⟨i.b,j,none⟩=some v'/\uA μ v v':=by
 obtain⟨o,h2,h3⟩:=hH.blk _ _ _ (Ar h) hi
 obtain⟨cs,elem,fr,rfl,_,_,h4,_⟩:=h3
 grind [World.cell?]
theorem wB.manyAt(hH:wB B N μ H w){b:Nat}{p:Tr zA × Nat × Option Lo}(h:bD H b=some p){i:BI}(hi:μ b=some i){n off:Nat}{l:List zA}(hl:p.1.many n off=some l) :
  ∃vs:List Value,vs.length=n/\rB μ l vs/\(loadCells ⟨i.b,off,none⟩ n).run P w=.ok vs.toArray w/\∀j,j<n->w.cell? ⟨i.b,off+j,none⟩=vs[j]?:=by
 obtain⟨h1,h2⟩:=Tr.many_some _ _ _ _ hl
 have key:∀j,j<n->∃v',w.cell? ⟨i.b,off+j,none⟩=some v'/\∃a,l[j]?=some a/\uA μ a v':=by
  intro j hj;have h3:=h2 j hj
  cases hlj:l[j]? with
  | none=>grind
  | some a=>
   rw[hlj]at h3;obtain⟨v',h4,h5⟩:=hH.cellAt h hi h3
   simp_all
 let f:Nat->Value:=fun j=>(w.cell? ⟨i.b,off+j,none⟩).getD undef
 have hf:∀j,j<n->w.cell? ⟨i.b,off+j,none⟩=some (f j):=by
  grind
 refine⟨(List.range n).map f,by simp,?_,?_,?_⟩
 all_goals grind [rB.mk,run_loadCells,lW]
theorem FA(hH:wB B N μ H w){t:Nat}{ty:rC}(hty:cK P t ty){b:Nat}{p:Tr zA × Nat × Option Lo}(h:bD H b=some p){i:BI}(hi:μ b=some i){off:Nat}{v:zA}
  (hv:sQ ty p.1 off=some v):∃v',(loadVar t ⟨i.b,off,none⟩).run P w=.ok v' w/\uA μ v v':=by
 unfold sQ at hv;unfold loadVar;rw[yad,hty.isAgg,yac]
 cases ha:ty.desc.isAgg with
 | true=>
  rw[ha,cond_true,tA]at hv;obtain⟨l,hl,hv⟩:=hv
  cases hv;obtain⟨vs,_,h2,h3,_⟩:=hH.manyAt (P:=P) h hi hl
  refine⟨.agg vs.toArray,?_,by grind [uA]⟩
  rw[yab rfl,yad,hty.size,yac,yad,h3];rfl
 | false=>
  rw[ha,cond_false]at hv;obtain⟨v',h1,h2⟩:=hH.cellAt h hi hv
  refine⟨v',?_,h2⟩
  rw[yaa (by simp),run_load,h1]
theorem It(hT:zF P C){t:Nat}{l:List zA}{cs:Array Value}(hl:rB μ l cs.toList){off:Nat}{v:zA}(hv:eO C t l off=some v) :
  ∃v',(part t cs off).run P w=.ok v' w/\uA μ v v':=by
 unfold eO at hv;rw[tA]at hv;obtain⟨ty,hty,hv⟩:=hv
 have hF:=hT.facts hty
 unfold part;rw[yad,hF.isAgg,yac]
 cases ha:ty.desc.isAgg with
 | true=>
  rw[ha,cond_true]at hv
  cases hv;refine⟨.agg (cs.extract off (off+ty.size)),?_,?_⟩
  ·rw[yab rfl,yad,hF.size];rfl
  ·rw[uA];refine⟨_,rfl,?_⟩
   rw[rR,xP,Array.toList_extract,List.extract_eq_take_drop,Nat.add_sub_cancel_left];exact(hl.drop _).take _
 | false=>
  rw[ha,cond_false,zG]at hv;obtain⟨v',h1,h2⟩:=hl.get hv
  simp_all
def kH (P:Program)(μ:Mu)(w:World)(ρ:Operand->Value)(o:Oper)(v:zA):Prop:=∃v',(execOp ρ o).run P w=.ok (.value v') w/\uA μ v v'
variable {e:kC}{ρ:Operand->Value}{dst:Option Tmp}{type:TypeId}{pos:String}{after:Array Edge}{guard:Option (Nat × Bool)}{v:zA}
theorem FQ(hE:uF μ e ρ){x:Operand}(h:mM x C e H=some v):kH P μ w ρ ⟨dst,.move x,type,pos,after,guard⟩ v:=⟨ρ x,rfl,hE x v h⟩
theorem GN(hE:uF μ e ρ){x:Operand}(h:mM x C e H=some v):kH P μ w ρ ⟨dst,.assign x,type,pos,after,guard⟩ v:=⟨ρ x,rfl,hE x v h⟩
theorem FN(hE:uF μ e ρ){c a b:Operand}(h:Js c a b C e H=some v):kH P μ w ρ ⟨dst,.pick c a b,type,pos,after,guard⟩ v:=by
 unfold Js at h;rw[tA]at h;obtain⟨cv,hc,h⟩:=h
 rw[tA]at h;obtain⟨cb,hb,h⟩:=h
 have h1:=hE _ _ hc
 rw[Au.1 hb,uA]at h1;unfold kH execOp;simp only[h1,asBool]
 cases cb with
 | true=>exact⟨ρ a,rfl,hE _ _ h⟩
 | false=>exact⟨ρ b,rfl,hE _ _ h⟩
theorem FW(hT:zF P C)(hH:wB B N μ H w)(hE:uF μ e ρ){t:Nat}{a:Operand}(h:sU t a C e H=some v):kH P μ w ρ ⟨dst,.load t a,type,pos,after,guard⟩ v:=by
 unfold sU at h;simp only[tA,Dd]at h;obtain⟨av,ha,p,rfl,ty,hty,c,hc,h⟩:=h
 have h1:=hE _ _ ha
 rw[uA]at h1;obtain⟨i,hi,hv⟩:=h1
 obtain⟨v',h2,h3⟩:=FA (P:=P) hH (hT.facts hty) hc hi h
 refine⟨v',?_,h3⟩
 grind [execOp,Instr.loadAt,Instr.sureAddr,Sem.run_bind,Sem.run_pure,Result.andThen_ok]
theorem FP(hE:uF μ e ρ){x:Operand}(h:dX x C e H=some v):kH P μ w ρ ⟨dst,.nilCheck x,type,pos,after,guard⟩ v:=by
 unfold dX at h;rw[tA]at h;obtain⟨a,ha,h⟩:=h
 rw[xB]at h;obtain⟨hb,h⟩:=h
 cases h;have h1:=hE _ _ ha
 refine⟨ρ x,?_,h1⟩
 cases v<;>simp[zA.tag,Nat.beq]at hb
 ·rw[uA]at h1
  obtain⟨i,_,hv⟩:=h1
  simp_all [execOp]
 ·rename_i fn a b
  rw[uA]at h1;obtain⟨fn',a',c',hv,hf,_⟩:=h1
  cases fn with
  | func f=>cases hf;simp_all [execOp]
  | yld l=>obtain⟨i,_,rfl⟩:=hf;simp_all [execOp]
theorem GD(hE:uF μ e ρ){fn:Fn}{a b:Array Operand}(h:(Ae fn a b).f C e H=some v):kH P μ w ρ ⟨dst,.makeFunc fn a b,type,pos,after,guard⟩ v:=by
 unfold Ae at h;split at h
 ·rename_i f
  simp only[Ew,tA]at h;obtain⟨as,ha,bs,hb,h⟩:=h
  cases h;refine⟨.func (.func f) (a.map ρ) (b.map ρ),rfl,?_⟩
  rw[uA];exact⟨_,_,_,rfl,rfl,by simpa using hE.many ha,by simpa using hE.many hb⟩
 ·cases h
theorem GC(hT:zF P C)(hE:uF μ e ρ){t:Nat}{x:Operand}(h:Ad t x C e H=some v):kH P μ w ρ ⟨dst,.makeInterface t x,type,pos,after,guard⟩ v:=by
 unfold Ad at h;simp only[tA,xB]at h;obtain⟨ty,hty,hb,a,ha,h⟩:=h
 cases h;obtain⟨d,hd,hn⟩:=JZ (hT.facts hty) hb
 refine⟨.iface t (ρ x),?_,by rw[uA];exact⟨_,rfl,hE _ _ ha⟩⟩
 simp only[execOp,Instr.makeInterface,yad,gE hd,yac]
 cases d<;>first | rfl | exact absurd rfl (hn _)
theorem GI(hE:uF μ e ρ){t:Operand}{i:Nat}(h:oU t i C e H=some v):kH P μ w ρ ⟨dst,.extract t i,type,pos,after,guard⟩ v:=by
 unfold oU at h;simp only[tA,ZB,zG]at h;obtain⟨a,ha,l,rfl,h⟩:=h
 have h1:=hE _ _ ha
 rw[uA]at h1;obtain⟨cs,hv,hl⟩:=h1
 obtain⟨v',h2,h3⟩:=hl.get h
 refine⟨v',?_,h3⟩
 simp_all [execOp,Instr.extract]
theorem GF(hT:zF P C)(hE:uF μ e ρ){t:Nat}{x:Operand}{f:Nat}(h:Af t x f C e H=some v):kH P μ w ρ ⟨dst,.field t x f,type,pos,after,guard⟩ v:=by
 unfold Af at h;simp only[tA,Fy,zG]at h;obtain⟨ty,hty,fs,hfs,fd,hfd,a,ha,l,rfl,h⟩:=h
 obtain⟨g,hg,rfl⟩:=Cw (hT.facts hty) hfs
 have h1:=hE _ _ ha
 rw[uA]at h1;obtain⟨cs,hv,hl⟩:=h1
 rw[ybu]at hfd
 cases hgf:g.toList[f]? with
 | none=>simp_all
 | some fld=>
  rw[hgf]at hfd;simp at hfd;subst hfd;obtain⟨v',h2,h3⟩:=It (w:=w) hT hl h
  refine⟨v',?_,h3⟩
  simp_all [execOp,Instr.field,gE,asAgg]
theorem GH(hT:zF P C)(hE:uF μ e ρ){s:Nat}{x:Operand}{f:Nat}(h:pU s x f C e H=some v):kH P μ w ρ ⟨dst,.fieldAddr s x f,type,pos,after,guard⟩ v:=by
 unfold pU at h;simp only[tA,Dd,zG,xB]at h;obtain⟨ty,hty,fs,hfs,fd,hfd,hz,a,ha,p,rfl,h⟩:=h
 cases h;obtain⟨g,hg,rfl⟩:=Cw (hT.facts hty) hfs
 have h1:=hE _ _ ha
 rw[uA]at h1;obtain⟨i,hi,hv⟩:=h1
 rw[ybu]at hfd
 cases hgf:g.toList[f]? with
 | none=>simp_all
 | some fld=>
  rw[hgf]at hfd;simp at hfd;subst hfd;refine⟨.pointer (some ⟨i.b,p.2+fld.offset,none⟩),?_,by grind [uA]⟩
  have h4:g[f]?=some fld:=by simp_all
  have h5:P.cellsOf fld.type≠0:=by
   grind [beqf]
  have h6:(sizeOf fld.type).run P w=.ok (P.cellsOf fld.type) w:=by
   unfold Program.cellsOf at h5 ⊢
   cases hinf:P.info? fld.type with
   | none=>simp_all
   | some inf=>simp[sizeOf,Cb hinf]
  simp_all [execOp,Instr.fieldAt,gE,Instr.sureAddr,fieldPlace,lW]
end
end Go.Am
namespace Go.Am
open Go
section
variable {P:Program}{C:rA}{B N:Nat}{μ:Mu}{H:xA}{w:World}
variable {e:kC}{ρ:Operand->Value}{dst:Option Tmp}{type:TypeId}{pos:String}{after:Array Edge}{guard:Option (Nat × Bool)}{v:zA}
theorem Bj{k:IntKind}{n:Nat}(h:n<cF k):k.wrap (n:Int)=n:=by
 rw[<- kN];show(bif Nat.blt n (cF k)then Int.ofNat n else _)=_
 grind [vC]
theorem Ww(k:IntKind):∃m,cF k=2^m/\m<=k.bits:=by
 cases k
 ·exact⟨7,rfl,by decide⟩
 ·exact⟨15,rfl,by decide⟩
 ·exact⟨31,rfl,by decide⟩
 ·exact⟨63,rfl,by decide⟩
 ·exact⟨8,rfl,by decide⟩
 ·exact⟨16,rfl,by decide⟩
 ·exact⟨32,rfl,by decide⟩
 ·exact⟨64,rfl,by decide⟩
theorem eY{k:IntKind}{n:Nat}(h:n<cF k):(BitVec.ofInt k.bits (n:Int)).toNat=n:=by
 obtain⟨m,hm,hle⟩:=Ww k
 rw[BitVec.toNat_ofInt];have:n<2^k.bits:=Nat.lt_of_lt_of_le (hm ▸ h) (yao (by omega) hle)
 rw[<- Int.natCast_emod,Int.toNat_natCast,Nat.mod_eq_of_lt this]
theorem Pn{f:Nat->Nat->Nat}{k:IntKind}{a b:Int}{v:zA}(h:mH f k a b=some v):∃x y:Nat,a=x/\b=y/\x<cF k/\y<cF k/\v=.int k (f x y:Nat):=by
 grind [mH,tA,Jg,xB,vC]
theorem YW{op:BinOp}{k:IntKind}{a b:Int}(h:(Yr op).f k a b=some v):op≠.shl/\op≠.shr/\∀t,∃v',(binOp op t (.int k a) (.int k b)).run P w=.ok v' w/\uA μ v v':=by
 cases op<;>simp only[Yr]at h
 case add=>cases h;simp_all [binOp,Op.intArith,uA,kN]
 case sub=>cases h;simp_all [binOp,Op.intArith,uA,kN]
 case mul=>cases h;simp_all [binOp,Op.intArith,uA,kN]
 case quo=>
  unfold aX at h;simp only[dC,zY]at h;split at h
  ·cases h
  ·rename_i hb;cases h
   simp_all [uA,kN,binOp,Op.intDiv]
 case rem=>
  unfold bX at h;simp only[dC,zY]at h;split at h
  ·cases h
  ·rename_i hb;cases h
   simp_all [uA,binOp,Op.intDiv]
 case and=>
  unfold Ka at h;split at h
  ·obtain⟨x,y,rfl,rfl,hx,hy,rfl⟩:=Pn h
   refine⟨by simp,by simp,fun t=>⟨.int k ((x &&& y:Nat):Int),?_,by rw[uA];rfl⟩⟩
   have h1:x &&& y<cF k:=yam Nat.and_le_left hx
   simp only[binOp,Op.intBits,BitVec.toNat_and,eY hx,eY hy,Bj h1];simp
  ·simp only[tA,Jg,xB,vC]at h
   obtain⟨y,rfl,hy,h⟩:=h
   cases h;have e:(BitVec.ofInt k.bits a).toNat=Int.toNat (Int.emod a (.ofNat (kW k))):=by
    rw[BitVec.toNat_ofInt]
    cases k<;>rfl
   generalize Int.toNat (Int.emod a (.ofNat (kW k)))=x at e ⊢
   refine⟨by simp,by simp,fun t=>⟨.int k ((x &&& y:Nat):Int),?_,by rw[uA];rfl⟩⟩
   have h1:x &&& y<cF k:=yam Nat.and_le_right hy
   simp only[binOp,Op.intBits,BitVec.toNat_and,e,eY hy,Bj h1];simp
 case or=>
  obtain⟨x,y,rfl,rfl,hx,hy,rfl⟩:=Pn h
  obtain⟨m,hm,_⟩:=Ww k
  refine⟨by simp,by simp,fun t=>⟨.int k ((x ||| y:Nat):Int),?_,by rw[uA];rfl⟩⟩
  have h1:x ||| y<cF k:=by simp_all [Nat.or_lt_two_pow]
  simp only[binOp,Op.intBits,BitVec.toNat_or,eY hx,eY hy,Bj h1];simp
 case xor=>
  obtain⟨x,y,rfl,rfl,hx,hy,rfl⟩:=Pn h
  obtain⟨m,hm,_⟩:=Ww k
  refine⟨by simp,by simp,fun t=>⟨.int k ((x ^^^ y:Nat):Int),?_,by rw[uA];rfl⟩⟩
  have h1:x ^^^ y<cF k:=by simp_all [Nat.xor_lt_two_pow]
  simp only[binOp,Op.intBits,BitVec.toNat_xor,eY hx,eY hy,Bj h1];simp
 case eql=>cases h;simp_all [binOp,Op.intCmp,uA,Ag]
 case neq=>cases h;exact⟨by simp,by simp,fun t=>⟨.bool (a != b),by simp[binOp,Op.intCmp],by rw[uA,Ag];rfl⟩⟩
 case lss=>cases h;simp_all [binOp,Op.intCmp,uA,IR]
 case leq=>cases h;simp_all [binOp,Op.intCmp,uA,IT]
 case gtr=>cases h;simp_all [binOp,Op.intCmp,uA,IR]
 case geq=>cases h;simp_all [binOp,Op.intCmp,uA,IT]
 all_goals cases h
theorem Fu(s:ByteArray):(aE s).length=s.size:=by simp[aE]
theorem YL(a b:ByteArray):aE (a++b)=aE a++aE b:=by simp[aE]
theorem YK(s:ByteArray)(i:Nat):(aE s)[i]?=(s[i]?).map UInt8.toNat:=by
 unfold aE;rw[ybu];congr 1
 by_cases h:i<s.size
 all_goals simp_all [ByteArray.getElem_eq_getElem_data]
theorem LD(s:ByteArray)(l h:Nat):aE (s.extract l h)=((aE s).take h).drop l:=by
 unfold aE;rw[ByteArray.data_extract,Array.toList_extract,List.extract_eq_take_drop,<- List.map_take,<- List.map_drop,List.drop_take]
theorem LF{a b:ByteArray}:(a.toList == b.toList)=(bC (aE a) (aE b)):=by
 grind [Lib.toList_data,bN,aE,Qk]
theorem UC(a:List UInt8):∀b:List UInt8,Op.bytesLess a b=Wl (a.map UInt8.toNat) (b.map UInt8.toNat):=by
 induction a with
 | nil=>intro b;cases b<;>rfl
 | cons x a ih=>
  intro b
  cases b with
  | nil=>rfl
  | cons y b=>
   show _=(bif Nat.blt x.toNat y.toNat then true else bif Nat.beq x.toNat y.toNat then Wl (a.map UInt8.toNat) (b.map UInt8.toNat)else false)
   grind [Op.bytesLess,vC,UInt8.lt_iff_toNat_lt,UInt8.toNat_inj,sC]
theorem YV{op:BinOp}{a b:ByteArray}(h:(Yp op).f (aE a) (aE b)=some v):op≠.shl/\op≠.shr/\∀t,∃v',(binOp op t (.string a) (.string b)).run P w=.ok v' w/\uA μ v v':=by
 cases op<;>simp only[Yp]at h
 case add=>
  simp only[aP,xB,vC,sD,xG,Fu]at h;obtain⟨h1,h⟩:=h
  cases h;refine⟨by simp,by simp,fun t=>⟨.string (a++b),?_,by grind [uA,YL]⟩⟩
  have h2:¬ (((a.size+b.size:Nat):Int) > IntKind.i64.max):=by
   have:IntKind.i64.max=9223372036854775807:=by decide
   omega
  simp_all [binOp,Op.stringOp]
 case eql=>cases h;exact⟨by simp,by simp,fun t=>⟨.bool (a.toList == b.toList),rfl,by rw[uA,LF]⟩⟩
 case neq=>cases h;exact⟨by simp,by simp,fun t=>⟨.bool !(a.toList == b.toList),rfl,by rw[uA,LF]⟩⟩
 case lss=>cases h;exact⟨by simp,by simp,fun t=>⟨.bool (Op.bytesLess a.toList b.toList),rfl,by rw[uA,Lib.toList_data,Lib.toList_data,UC];rfl⟩⟩
 all_goals cases h
theorem Km{op:BinOp}{t:TypeId}{x y:Operand}{a b:Value}(h1:¬ (a=.nilIface/\b=.nilIface)\/(Jz x||Jz y)=true)(h2:∀l m,¬ (a=.agg l/\b=.agg m)):(eqGuard op t x y a b).run P w=.ok () w:=by
 unfold eqGuard
 cases op
 case eql | neq=>
  rw[yaa (by simp)]
  split
  ·rcases h1 with h1 | h1
   ·simp_all
   ·cases x<;>cases y<;>simp[Jz]at h1 ⊢
  all_goals simp_all
 all_goals rfl
theorem WJ{op:BinOp}{t:TypeId}{x y:Operand}{l m:Array Value}(h:P.eqGuardType P.depth t=false):(eqGuard op t x y (.agg l) (.agg m)).run P w=.ok () w:=by
 simp_all [eqGuard]
theorem Eb{op:BinOp}{t yt:TypeId}{x y:Operand}{v':Value}(h1:(eqGuard op t x y (ρ x) (ρ y)).run P w=.ok () w)(h2:(binOp op t (ρ x) (ρ y)).run P w=.ok v' w) :
  (execOp ρ ⟨dst,.binOp op t x y yt,type,pos,after,guard⟩).run P w=.ok (.value v') w:=by
 simp_all [execOp]
theorem BW{k:IntKind}{b:Int}{n:Nat}(h:Bz k b=some n):¬ b<0/\n=min b.toNat k.bits:=by
 grind [Bz,tA,Jg]
theorem LI{op:BinOp}{t yt:TypeId}{x y:Operand}{a b:zA}(hx:uA μ a (ρ x))(hy:uA μ b (ρ y))
  (h:(op=.shl/\Kx kU a b=some v)\/(op=.shr/\Kx Co a b=some v)):kH P μ w ρ ⟨dst,.binOp op t x y yt,type,pos,after,guard⟩ v:=by
 rcases h with⟨rfl,h⟩ | ⟨rfl,h⟩
 all_goals
  unfold Kx at h;simp only[tA,bU,Yt]at h;obtain⟨p,rfl,n,⟨k',rfl⟩,h⟩:=h
  rw[uA]at hx hy
 ·unfold kU at h
  rw[tA]at h;obtain⟨m,hm,h⟩:=h
  cases h;obtain⟨h1,rfl⟩:=BW hm
  refine⟨.int p.1 (p.1.wrap (p.2*2^(min n.toNat p.1.bits))),Eb (Km (.inl (by grind)) (by grind)) ?_,by rw[uA,kN];simp⟩
  rw[hx,hy];simp[binOp,Op.shift,h1]
 ·unfold Co at h
  rw[tA]at h;obtain⟨m,hm,h⟩:=h
  cases h;obtain⟨h1,rfl⟩:=BW hm
  refine⟨.int p.1 (p.2.fdiv (2^(min n.toNat p.1.bits))),Eb (Km (.inl (by grind)) (by grind)) ?_,by rw[uA];simp⟩
  rw[hx,hy];simp[binOp,Op.shift,h1]
theorem Kl{n m:Nat}{a b:zA}{r:Bool}(h:An n m a b=some r):(a.tag=n/\b.tag=n/\r=true)\/(a.tag=n/\b.tag=m/\r=false)\/(a.tag=m/\b.tag=n/\r=false):=by
 grind [An,sC,xB]
theorem WL{t:Nat}{ty:rC}(hF:cK P t ty){a b:zA}{va vb:Value}(ha:uA μ a va)(hb:uA μ b vb){r:Bool}{d:Nat}(h:Kn ty.desc a b=some r) :
  (Op.equalIn (d+1) t va vb).run P w=.ok r w:=by
 obtain⟨D,hD⟩:=hF.und
 have h0:=hF.desc
 unfold aN at h0;rw[hD]at h0;unfold Op.equalIn;rw[yad,gE hD,yac];rw[<- h0]at h
 cases D<;>simp only[Kn]at h<;>try (cases h;done)
 case bool=>
  simp only[Fj,tA,Au]at h;obtain⟨x,rfl,y,rfl,h⟩:=h
  simp_all [uA,zZ]
 case int k=>
  simp only[zdn,tA,bU,xB,qN]at h;obtain⟨x,rfl,y,rfl,hk,h⟩:=h
  simp_all [uA,Ag]
 case string=>
  simp only[Xz,tA,cU]at h;obtain⟨x,rfl,y,rfl,h⟩:=h
  cases h;rw[uA]at ha hb;obtain⟨s,rfl,rfl⟩:=ha
  obtain⟨u,rfl,rfl⟩:=hb
  have:(s == u)=bC (aE s) (aE u):=by
   rw[Bool.eq_iff_iff,bN];have h1:(s == u)=(s.data == u.data):=rfl
   grind [aE,Qk]
  simp_all
 case pointer el=>
  rcases Kl h with⟨h1,h2,rfl⟩ | ⟨h1,h2,rfl⟩ | ⟨h1,h2,rfl⟩<;>cases a<;>simp[zA.tag]at h1<;>cases b<;>simp[zA.tag]at h2<;>rw[uA]at ha<;>rw[uA]at hb
  ·simp_all
  ·obtain⟨i,_,hb⟩:=hb;simp_all
  ·obtain⟨i,_,ha⟩:=ha;simp_all
 case slice el=>
  rcases Kl h with⟨h1,h2,rfl⟩ | ⟨h1,h2,rfl⟩ | ⟨h1,h2,rfl⟩<;>cases a<;>simp[zA.tag]at h1<;>cases b<;>simp[zA.tag]at h2<;>rw[uA]at ha<;>rw[uA]at hb
  ·simp_all
  ·rcases hb with⟨i,_,_,hb,_⟩ | ⟨_,_,_,_,_,hb,_⟩ <;> (simp_all)
  ·rcases ha with⟨i,_,_,ha,_⟩ | ⟨_,_,_,_,_,ha,_⟩ <;> (simp_all)
 case map k el=>
  rcases Kl h with⟨h1,h2,rfl⟩ | ⟨h1,h2,rfl⟩ | ⟨h1,h2,rfl⟩<;>cases a<;>simp[zA.tag]at h1<;>cases b<;>simp[zA.tag]at h2<;>rw[uA]at ha<;>rw[uA]at hb
  ·simp_all
  ·obtain⟨i,_,hb⟩:=hb;simp_all
  ·obtain⟨i,_,ha⟩:=ha;simp_all
 case func ps rs vd=>
  rcases Kl h with⟨h1,h2,rfl⟩ | ⟨h1,h2,rfl⟩ | ⟨h1,h2,rfl⟩<;>cases a<;>simp[zA.tag]at h1<;>cases b<;>simp[zA.tag]at h2<;>rw[uA]at ha<;>rw[uA]at hb
  ·simp_all
  ·obtain⟨i,_,_,hb,_⟩:=hb;simp_all
  ·obtain⟨i,_,_,ha,_⟩:=ha;simp_all
 case interface ms=>
  rcases Kl h with⟨h1,h2,rfl⟩ | ⟨h1,h2,rfl⟩ | ⟨h1,h2,rfl⟩<;>cases a<;>simp[zA.tag]at h1<;>cases b<;>simp[zA.tag]at h2<;>rw[uA]at ha<;>rw[uA]at hb
  ·simp_all
  ·obtain⟨i,hb,_⟩:=hb;simp_all
  ·obtain⟨i,ha,_⟩:=ha;simp_all
theorem JO{t:Nat}{g:Array Field}(h:P.underlying t=some (.struct g)):P.fieldsOf t=g:=by unfold Program.fieldsOf;rw[h]
theorem za7(hT:zF P C){D:Nat}{eq:Nat->zA->zA->Option Bool}(heq:∀t a b va vb r,uA μ a va->uA μ b vb->eq t a b=some r->(Op.equalIn D t va vb).run P w=.ok r w)
  {xs ys : List zA} {vx vy : Array Value} (hx : rB μ xs vx.toList) (hy : rB μ ys vy.toList) : ∀ (g : List Field) (r : Bool), (∀ f ∈ g, f.name ≠ "_") -> Gc C eq xs ys (g.map fun f => (f.offset, f.type, P.cellsOf f.type)) = some r →
   (Op.eqFields D vx vy g).run P w=.ok r w:=by
 intro g;induction g with
 | nil=>intro r _ h;cases h;rfl
 | cons f g ih=>
  intro r hn h;rw[ycm,Gc]at h;simp only[tA]at h;obtain⟨a,ha,b,hb,q,hq,h⟩:=h
  obtain⟨va,h1,h2⟩:=It (P:=P) (w:=w) hT hx ha
  obtain⟨vb,h3,h4⟩:=It (P:=P) (w:=w) hT hy hb
  have h5:=heq _ _ _ _ _ _ h2 h4 hq
  rw[Op.eqFields,yab (hn f (by simp))]
  simp only[yad,h1,yac,h3,h5]
  cases q with
  | true=>grind
  | false=>simp_all
theorem zbm(hT:zF P C):∀(d D t:Nat) (a b:zA) (va vb:Value) (r:Bool),d<=D->uA μ a va->uA μ b vb->aeq C d t a b=some r->(Op.equalIn D t va vb).run P w=.ok r w:=by
 intro d;induction d with
 | zero=>intro D t a b va vb r _ _ _ h;cases h
 | succ d ih=>
  intro D t a b va vb r hD ha hb h
  cases D with
  | zero=>omega
  | succ D=>
   rw[aeq,tA]at h;obtain⟨ty,hty,h⟩:=h
   have hF:=hT.facts hty
   split at h
   ·rename_i fs hfs
    simp only[xB,tA,Fy]at h;obtain⟨hok,xs,rfl,ys,rfl,h⟩:=h
    obtain⟨g,hg,rfl⟩:=Cw hF hfs
    obtain⟨h1,_,h3⟩:=hF.eqOk hok
    grind [uA,JO,run_equalIn_struct,za7]
   grind [WL]
theorem zed(hT:zF P C){d t:Nat}{a b:zA}{l m:Array Value}{r:Bool}(ha:uA μ a (.agg l))(hb:uA μ b (.agg m))(h:aeq C d t a b=some r):P.eqGuardType P.depth t=false:=by
 cases d with
 | zero=>cases h
 | succ d=>
  rw[aeq,tA]at h;obtain⟨ty,hty,h⟩:=h
  split at h
  ·rw[xB]at h;exact((hT.facts hty).eqOk h.1).2.1
  ·exfalso
   have hag:∀(a:zA) (l:Array Value),uA μ a (.agg l)->a.tag=13:=by
    intro a l ha
    cases a<;>rw[uA]at ha<;>first | rfl | (exfalso;revert ha;simp)
   have h1:=hag _ _ ha
   have h2:=hag _ _ hb
   cases a<;>simp[zA.tag]at h1
   cases b<;>simp[zA.tag]at h2
   revert h
   cases ty.desc<;>simp[Kn,Fj,zA.asBool,zdn,zA.asIntK,Xz,zA.asStr,An,Py,zA.tag,yB,Nat.beq]
theorem Zy{a:zA}{v:Value}(h:uA μ a v):v=.nilIface->a.tag=12:=by
 intro hv;subst hv
 cases a<;>rw[uA]at h<;>first | rfl | (exfalso;revert h;simp)
theorem LK(hT:zF P C){op:BinOp}{t yt:TypeId}{x y:Operand}{a b:zA}{neg:Bool}(hx:uA μ a (ρ x))(hy:uA μ b (ρ y))(ha:a.asIntK=none)(hs:a.asStr=none)
  (hop:(neg=false/\op=.eql)\/(neg=true/\op=.neq)) (h:Qs neg C t x y a b=some v):kH P μ w ρ ⟨dst,.binOp op t x y yt,type,pos,after,guard⟩ v:=by
 unfold Qs at h;simp only[xB,tA]at h;obtain⟨hg,r,hr,h⟩:=h
 cases h;have h1:(Op.equal t (ρ x) (ρ y)).run P w=.ok r w:=zbm hT 20 10000 t a b _ _ r (by decide) hx hy hr
 have hG:(eqGuard op t x y (ρ x) (ρ y)).run P w=.ok () w:=by
  by_cases hag:∃l m,ρ x=.agg l/\ρ y=.agg m
  ·grind [WJ,zed]
  ·refine Km ?_ fun l m hlm=>hag ⟨l,m,hlm⟩
   by_cases hn:ρ x=.nilIface/\ρ y=.nilIface
   ·right
    have h2:=Zy hx hn.1
    have h3:=Zy hy hn.2
    simp_all [JT]
   simp_all
 have hnx:∀k n,ρ x≠.int k n:=by
  intro k n hv;rw[hv]at hx
  cases a<;>rw[uA]at hx<;>first | (simp[zA.asIntK]at ha;done) | (revert hx;simp)
 have hsx:∀s,ρ x≠.string s:=by
  intro s hv;rw[hv]at hx
  cases a<;>rw[uA]at hx<;>first | (simp[zA.asStr]at hs;done) | (revert hx;simp)
 have hfx:∀k n,ρ x≠.float k n:=by
  intro k n hv;rw[hv]at hx
  cases a<;>rw[uA]at hx<;>revert hx<;>simp
 have hcx:∀k n m,ρ x≠.complex k n m:=by
  intro k n m hv;rw[hv]at hx
  cases a<;>rw[uA]at hx<;>revert hx<;>simp
 rcases hop with⟨rfl,rfl⟩ | ⟨rfl,rfl⟩
 ·refine⟨.bool r,Eb hG ?_,by rw[uA];rfl⟩
  revert h1 hnx hsx hfx hcx
  generalize ρ x=vx
  generalize ρ y=vy
  intro h1 hnx hsx hfx hcx
  cases vx<;>first
   | exact absurd rfl (hnx _ _)
   | exact absurd rfl (hsx _)
   | exact absurd rfl (hfx _ _)
   | exact absurd rfl (hcx _ _ _)
   | simp[binOp,h1]
 ·refine⟨.bool (!r),Eb hG ?_,by rw[uA];rfl⟩
  revert h1 hnx hsx hfx hcx
  generalize ρ x=vx
  generalize ρ y=vy
  intro h1 hnx hsx hfx hcx
  cases vx<;>first
   | exact absurd rfl (hnx _ _)
   | exact absurd rfl (hsx _)
   | exact absurd rfl (hfx _ _)
   | exact absurd rfl (hcx _ _ _)
   | simp[binOp,h1]
theorem GM(hT:zF P C)(hE:uF μ e ρ){op:BinOp}{t yt:Nat}{x y:Operand}(h:nU op t x y C e H=some v):kH P μ w ρ ⟨dst,.binOp op t x y yt,type,pos,after,guard⟩ v:=by
 unfold nU at h;simp only[tA]at h;obtain⟨a,ha,b,hb,h⟩:=h
 have hx:=hE _ _ ha
 have hy:=hE _ _ hb
 clear ha hb
 revert h
 have plain:∀op,op≠.shl->op≠.shr->Yq op C t x y a b=some v->kH P μ w ρ ⟨dst,.binOp op t x y yt,type,pos,after,guard⟩ v:=by
  intro op _ _ h;unfold Yq at h;split at h
  ·rename_i i hi
   simp only[tA,bU,xB,qN]at h;obtain⟨j,rfl,hk,h⟩:=h
   rw[bU]at hi;subst hi;rw[uA]at hx;rw[uA]at hy;obtain⟨_,_,h2⟩:=YW (P:=P) (μ:=μ) (w:=w) h
   obtain⟨v',h3,h4⟩:=h2 t
   refine⟨v',Eb (Km (.inl (by grind)) (by grind)) ?_,h4⟩
   simp_all
  ·rename_i hi
   split at h
   ·rename_i s hs
    simp only[tA,cU]at h;obtain⟨u,rfl,h⟩:=h
    rw[cU]at hs;subst hs;rw[uA]at hx;rw[uA]at hy;obtain⟨sx,hx,rfl⟩:=hx
    obtain⟨sy,hy,rfl⟩:=hy
    obtain⟨_,_,h2⟩:=YV (P:=P) (μ:=μ) (w:=w) h
    obtain⟨v',h3,h4⟩:=h2 t
    refine⟨v',Eb (Km (.inl (by grind)) (by grind)) ?_,h4⟩
    simp_all
   ·rename_i hs
    cases op<;>simp only[LJ]at h<;>first
     | exact LK hT hx hy hi hs (.inl ⟨rfl,rfl⟩) h
     | exact LK hT hx hy hi hs (.inr ⟨rfl,rfl⟩) h
     | (cases h;done)
 intro h
 cases op<;>simp only[rW]at h<;>first
  | exact LI hx hy (.inl ⟨rfl,h⟩)
  | exact LI hx hy (.inr ⟨rfl,h⟩)
  | exact plain _ (by simp) (by simp) h
theorem Wv{k:IntKind}(h:kLo k=0):cF k=2^k.bits:=by
 cases k<;>first
  | (cases h;done)
  | rfl
theorem FK(hE:uF μ e ρ){op:UnOp}{t:Nat}{x:Operand}(h:lUn op x C e H=some v):kH P μ w ρ ⟨dst,.unOp op t x,type,pos,after,guard⟩ v:=by
 unfold lUn at h;simp only[tA]at h;obtain⟨a,ha,h⟩:=h
 have hx:=hE _ _ ha
 cases op<;>simp only[unA]at h<;>try (cases h;done)
 case neg=>
  simp only[unNeg,tA,bU]at h;obtain⟨p,rfl,h⟩:=h
  cases h;rw[uA]at hx;refine⟨.int p.1 (p.1.wrap (0-p.2)),?_,by rw[uA,kN]⟩
  simp[execOp,hx,Op.unary,Op.intArith]
 case xor=>
  simp only[Bq,tA,bU,xB,sC]at h;obtain⟨p,rfl,hk,h⟩:=h
  obtain⟨a,b,ha1,hb,hx1,hy,rfl⟩:=Pn h
  rw[uA]at hx;have h1:Nat.xor a b<cF p.1:=by
   have:Nat.xor a b<2^p.1.bits:=Nat.xor_lt_two_pow (by grind [Wv]) (by grind [Wv])
   grind [Wv]
  refine⟨.int p.1 (Nat.xor a b:Nat),?_,by rw[uA]⟩
  have hm:(if p.1.signed then(-1:Int)else p.1.max)=(a:Int):=by
   rw[<- ha1];revert hk
   cases p.1<;>intro hk<;>first
    | (cases hk;done)
    | rfl
  have e2:(Op.intBits .xor p.1 (if p.1.signed then -1 else p.1.max) p.2).run P w=.ok (.int p.1 (Nat.xor a b:Nat)) w:=by
   rw[hm,hb];simp only[Op.intBits,BitVec.toNat_xor,eY hx1,eY hy];rw[show(a ^^^ b:Nat)=Nat.xor a b from rfl,Bj h1]
   rfl
  simp_all [execOp,Op.unary]
 case not=>
  simp only[unNot,tA,Au]at h;obtain⟨b,rfl,h⟩:=h
  cases h;rw[uA]at hx;refine⟨.bool (!b),?_,by rw[uA]⟩
  simp[execOp,hx,Op.unary]
end
end Go.Am
