/- -/
import Derived.Below
import Derived.Calls
import Derived.Laws.Cells
import Derived.Laws.Sem
import Derived.Laws.StructEq
import Derived.Laws.World
import Derived.Lib.Strings
set_option linter.all false
noncomputable section
namespace Go.Am
def yaa := @if_neg
def yab := @if_pos
def yac := @Result.andThen_ok
def yad := @Sem.run_bind
def yae := @Sem.run_pure
def yaf := @List.mem_append
def yag := @Nat.pow_succ
def yah := @List.nil_append
def yai := @Option.bind_some
def yaj := @Array.getElem?_append_left
def yak := @List.drop_eq_nil_iff
def yal := @Bool.or_eq_false_iff
def yam := @Nat.lt_of_le_of_lt
def yan := @Nat.le_mul_of_pos_left
def yao := @Nat.pow_le_pow_right
def yap := @Nat.add_comm
def yaq := @List.mem_map
def yar := @Option.map_eq_some_iff
def yas := @List.flatten_cons
def yat := @Nat.mul_zero
def yau := @Nat.lt_or_ge
def yav := @Nat.eq_zero_or_pos
def yaw := @Nat.zero_le
def yax := @Array.toList_inj
def yay := @Bool.and_false
def yaz := @List.getElem?_cons_zero
def yba := @List.getElem?_cons_succ
def ybb := @Bool.and_eq_true
def ybc := @List.getElem?_eq_some_iff
def ybd := @List.getElem?_eq_getElem
def ybe := @Array.getElem?_eq_some_iff
def ybf := @List.length_map
def ybg := @List.length_append
def ybh := @Nat.mul_comm
def ybi := @Nat.mul_le_mul_right
def ybj := @Nat.mul_assoc
def ybk := @Nat.le_refl
def ybl := @List.drop_eq_getElem_cons
def ybm := @Nat.mul_add
def ybn := @List.length_cons
def ybo := @Nat.add_mul
def ybp := @List.getElem?_append_right
def ybq := @Bool.false_eq_true
def ybr := @List.mem_cons_of_mem
def ybs := @List.mem_cons
def ybt := @List.drop_eq_nil_of_le
def ybu := @List.getElem?_map
def ybv := @Nat.mul_le_mul_left
def ybw := @Nat.zero_add
def ybx := @List.length_nil
def yby := @List.mem_cons_self
def ybz := @List.append_assoc
def yca := @List.take_of_length_le
def ycb := @List.all_eq_true
def ycc := @List.length_eq_zero_iff
def ycd := @List.append_nil
def yce := @Nat.dvd_mul_left_of_dvd
def ycf := @List.mem_append_right
def ycg := @List.all_cons
def ych := @Nat.div_add_mod
def yci := @Option.some.inj
def ycj := @List.getElem_mem
def yck := @List.all_nil
def ycl := @Bool.not_false
def ycm := @List.map_cons
def ycn := @Bool.true_and
def yco := @List.getElem?_append_left
def ycp := @Bool.not_eq_true'
def ycq := @Bool.or_eq_true
def ycr := @List.drop_zero
def ycs := @Array.getElem?_setIfInBounds
def yct := @Nat.add_zero
def ycu := @Nat.div_lt_of_lt_mul
def ycv := @List.mem_of_getElem?
def ycw := @List.getElem?_set
def ycx := @Array.getD_eq_getD_getElem?
def ycy := @Nat.mod_lt
def ycz := @Array.length_toList
def yda := @List.length_take
def ydb := @Nat.mul_le_mul
def ydc := @List.mem_append_left
def ydd := @List.mem_singleton
def yde := @List.getElem?_drop
def ydf := @List.getElem?_take
def ydg := @List.take_add_one
def ydh := @List.length_set
def ydi := @List.all_append
def ydj := @List.length_drop
end Go.Am
namespace Go.Am
inductive Tr (α:Type) where
 | leaf
 | node (l:Tr α) (v:Option α) (r:Tr α)
def ob {α β:Type}(x:Option α)(f:α->Option β):Option β:=Option.rec (motive:=fun _=>Option β) none f x
namespace Tr
variable {α:Type}
def get (t:Tr α):Nat->Option α:=
 Tr.rec (motive:=fun _=>Nat->Option α) (fun _=>none)
  (fun _ v _ gl gr n=>Bool.rec (motive:=fun _=>Option α) (Bool.rec (motive:=fun _=>Option α) (gr (Nat.pred (Nat.div n (nat_lit 2)))) (gl (Nat.div n (nat_lit 2))) (Nat.beq (Nat.mod n (nat_lit 2)) (nat_lit 1))) v (Nat.beq n (nat_lit 0))) t
def mk (f:Nat):Nat->α->Tr α:=
 Nat.rec (motive:=fun _=>Nat->α->Tr α) (fun _ _=>leaf)
  (fun _ g n v=>Bool.rec (motive:=fun _=>Tr α) (Bool.rec (motive:=fun _=>Tr α) (node leaf none (g (Nat.pred (Nat.div n (nat_lit 2))) v)) (node (g (Nat.div n (nat_lit 2)) v) none leaf) (Nat.beq (Nat.mod n (nat_lit 2)) (nat_lit 1))) (node leaf (some v) leaf) (Nat.beq n (nat_lit 0))) f
def set (t:Tr α):Nat->α->Tr α:=
 Tr.rec (motive:=fun _=>Nat->α->Tr α) (fun n v=>mk (Nat.succ n) n v)
  (fun l x r gl gr n v=>Bool.rec (motive:=fun _=>Tr α) (Bool.rec (motive:=fun _=>Tr α) (node l x (gr (Nat.pred (Nat.div n (nat_lit 2))) v)) (node (gl (Nat.div n (nat_lit 2)) v) x r) (Nat.beq (Nat.mod n (nat_lit 2)) (nat_lit 1))) (node l (some v) r) (Nat.beq n (nat_lit 0))) t
def del (t:Tr α):Nat->Tr α:=
 Tr.rec (motive:=fun _=>Nat->Tr α) (fun _=>leaf)
  (fun l x r gl gr n=>Bool.rec (motive:=fun _=>Tr α) (Bool.rec (motive:=fun _=>Tr α) (node l x (gr (Nat.pred (Nat.div n (nat_lit 2))))) (node (gl (Nat.div n (nat_lit 2))) x r) (Nat.beq (Nat.mod n (nat_lit 2)) (nat_lit 1))) (node l none r) (Nat.beq n (nat_lit 0))) t
def many (t:Tr α)(n:Nat):Nat->Option (List α):=
 Nat.rec (motive:=fun _=>Nat->Option (List α)) (fun _=>some [])
  (fun _ g i=>ob (t.get i) fun v=>ob (g (i+1)) fun l=>some (v::l)) n
def setMany(l:List α):Tr α->Nat->Tr α:=
 List.rec (motive:=fun _=>Tr α->Nat->Tr α) (fun t _=>t) (fun v _ g t i=>g (t.set i v) (i+1)) l
def ofList(l:List α):Tr α:=setMany l leaf 0
end Tr
def sD {α:Type}(l:List α):Nat->Option α:=
 List.rec (motive:=fun _=>Nat->Option α) (fun _=>none) (fun a _ g n=>Bool.rec (motive:=fun _=>Option α) (g (Nat.pred n)) (some a) (Nat.beq n (nat_lit 0))) l
def lQ{α:Type}(l:List α):Nat->List α:=
 List.rec (motive:=fun _=>Nat->List α) (fun _=>[]) (fun a l g n=>bif Nat.beq n 0 then a::l else g (n-1)) l
def qZ{α:Type}(l:List α):Nat->List α:=
 List.rec (motive:=fun _=>Nat->List α) (fun _=>[]) (fun a _ g n=>bif Nat.beq n 0 then []else a::g (n-1)) l
def zB {α:Type}(l:List α):Nat:=List.rec (motive:=fun _=>Nat) 0 (fun _ _ n=>n+1) l
def fD {α:Type}(l m:List α):List α:=List.rec (motive:=fun _=>List α) m (fun a _ g=>a::g) l
def fB {α:Type}(p:α->Bool)(l:List α):Bool:=List.rec (motive:=fun _=>Bool) true (fun a _ g=>bif p a then g else false) l
def kH{α β:Type}(f:α->Option β)(l:List α):Option (List β):=
 List.rec (motive:=fun _=>Option (List β)) (some []) (fun a _ g=>ob (f a) fun b=>ob g fun r=>some (b::r)) l
def qG(a:List Nat):List Nat->Bool:=
 List.rec (motive:=fun _=>List Nat->Bool) (fun b=>b.isEmpty) (fun x _ g b=>List.rec (motive:=fun _=>Bool) false (fun y b _=>bif Nat.beq x y then g b else false) b) a
def kIdx:IntKind->Nat
 | .i8=>0 | .i16=>1 | .i32=>2 | .i64=>3 | .u8=>4 | .u16=>5 | .u32=>6 | .u64=>7
def uN (a b:IntKind):Bool:=Nat.beq (kIdx a) (kIdx b)
def bEq:Bool->Bool->Bool
 | true,b=>b
 | false,b => !b
def tC:Int->Int->Bool
 | .ofNat a,.ofNat b=>Nat.beq a b
 | .negSucc a,.negSucc b=>Nat.beq a b
 | _,_=>false
def bG:Int->Int->Bool
 | .ofNat a,.ofNat b=>Nat.ble a b
 | .ofNat _,.negSucc _=>false
 | .negSucc _,.ofNat _=>true
 | .negSucc a,.negSucc b=>Nat.ble b a
def iB:Int->Int->Bool
 | .ofNat a,.ofNat b=>Nat.blt a b
 | .ofNat _,.negSucc _=>false
 | .negSucc _,.ofNat _=>true
 | .negSucc a,.negSucc b=>Nat.blt b a
def cG:IntKind->Nat
 | .i8=>128 | .i16=>32768 | .i32=>2147483648 | .i64=>9223372036854775808 | .u8=>256 | .u16=>65536 | .u32=>4294967296 | .u64=>18446744073709551616
def kLo:IntKind->Nat
 | .i8=>128 | .i16=>32768 | .i32=>2147483648 | .i64=>9223372036854775808 | _=>0
def cA(k:IntKind):Int->Int
 | .ofNat n=>bif Nat.blt n (cG k)then .ofNat n else k.wrap (.ofNat n)
 | .negSucc n=>bif Nat.blt n (kLo k)then .negSucc n else k.wrap (.negSucc n)
inductive AFn where
 | func (f:Nat)
 | yld (l:Nat)
inductive zA where
 | bool (b:Bool)
 | int (k:IntKind) (n:Int)
 | str (l:List Nat)
 | nilptr
 | ptr (b off:Nat)
 | nilslice
 | slice (b off len cap:Nat)
 | nilmap
 | map (b:Nat)
 | func (fn:AFn) (first captured:List zA)
 | nilfunc
 | iface (t:Nat) (v:zA)
 | niliface
 | agg (l:List zA)
 | tup (l:List zA)
structure Tm where
 k:Nat
 v:Tr zA
 t:List (Nat × zA)
def assoc(i:Nat)(l:List (Nat × zA)):Option zA:=
 List.rec (motive:=fun _=>Option zA) none (fun a _ g=>Bool.rec (motive:=fun _=>Option zA) g (some a.2) (Nat.beq i a.1)) l
def Tm.get(t:Tm)(i:Nat):Option zA:=Bool.rec (motive:=fun _=>Option zA) (assoc i t.t) (t.v.get i) (Nat.blt i t.k)
def Tm.set(t:Tm)(i:Nat)(x:zA):Tm:=Bool.rec (motive:=fun _=>Tm) ⟨t.k,t.v,(i,x)::t.t⟩ ⟨t.k,t.v.set i x,t.t⟩ (Nat.blt i t.k)
def Tm.cut(t:Tm):Tm:=⟨t.k,t.v,[]⟩
structure gH where
 fn:Option AFn
 r:Nat
 args:List zA
structure xN where
 state:LoopState
 pending:Option Code
 fn:Nat
 n:Nat
 tm:Tm
 params:List Nat
 assign:Code
 body:Code
 defers:Nat
inductive Lo where
 | sz (n:Nat)
 | ty (t:Nat)
def Lo.es:Lo->Nat | .sz n=>n | .ty _=>1
def loEq:Lo->Lo->Bool
 | .sz a,.sz b=>Nat.beq a b
 | .ty a,.ty b=>Nat.beq a b
 | _,_=>false
inductive vA where
 | cells (c:Tr zA) (n:Nat) (loose:Option Lo)
 | map (l:List (zA × zA))
 | loop (l:xN)
 | deferred (l:Option (List gH))
 | siter (s:List Nat) (pos:Nat)
structure xA where
 next:Nat
 t:Tr vA
inductive jE where
 | bool | int (k:IntKind) | string
 | ptr (e:Nat) | slice (e:Nat) | arr (n e:Nat) | map (k e:Nat)
 | struct (fs:List (Nat × Nat × Nat))
 | func | iface | other
structure lD where
 desc:jE
 size:Nat
 bytes:Nat
 zero:List zA
 eqOk:Bool
structure gG where
 heavy:Nat
 lights:List Nat
 again:List Nat
structure Plan where
 first:List Nat
 stages:List gG
 olds:List (Nat × List Nat)
structure oA where
 fns:Tr Func
 ks:Tr Nat
 tys:Tr lD
 plans:Tr (Tr Plan)
 prims:Tr (List zA->xA->Option (zA × xA))
 base:Nat
 root:Nat
inductive mE where
 | code (c:Code)
 | inBlock (id:Nat)
 | inLoop (c:Code)
 | inScope (c:Code)
 | ops (all:Array Oper) (rest:List Oper)
 | reg (all:Array Oper) (old:Tm) (olds:List (Nat × List Nat)) (stages:List gG)
 | inRange (l:Nat)
 | endRange (l:Nat)
 | beginRound
structure Cx where
 v:zA
 recovered:Bool
inductive aU where
 | run | returning
 | panicking (chain:List Cx)
structure wK where
 fn:Nat
 n:Nat
 defers:List gH
 mode:aU
 deferred:Bool
 roundOf:Option Nat
structure lB where
 todo:List mE
 tm:Tm
 R:wK
structure wR where
 fr:lB
 cs:List lB
 H:xA
inductive xG where
 | next (s:wR)
 | done (v:zA) (H:xA)
 | fail (why:Nat)
def zA.asBool:zA->Option Bool | .bool b=>some b | _=>none
def zA.asInt:zA->Option Int | .int _ n=>some n | _=>none
def zA.asIntK:zA->Option (IntKind × Int) | .int k n=>some (k,n) | _=>none
def zA.asStr:zA->Option (List Nat) | .str l=>some l | _=>none
def zA.asPtr:zA->Option (Nat × Nat) | .ptr b o=>some (b,o) | _=>none
def zA.asSlice:zA->Option (Nat × Nat × Nat × Nat) | .slice b o l c=>some (b,o,l,c) | _=>none
def zA.asMap:zA->Option Nat | .map b=>some b | _=>none
def zA.asAgg:zA->Option (List zA) | .agg l=>some l | _=>none
def zA.asTup:zA->Option (List zA) | .tup l=>some l | _=>none
def zA.asFunc:zA->Option (AFn × List zA × List zA) | .func f a b=>some (f,a,b) | _=>none
def zA.asIface:zA->Option (Nat × zA) | .iface t v=>some (t,v) | _=>none
def zA.tag:zA->Nat
 | .bool _=>0 | .int _ _=>1 | .str _=>2 | .nilptr=>3 | .ptr _ _=>4 | .nilslice=>5 | .slice _ _ _ _=>6 | .nilmap=>7 | .map _=>8
 | .func _ _ _=>9 | .nilfunc=>10 | .iface _ _=>11 | .niliface=>12 | .agg _=>13 | .tup _=>14
def vN:Int->Option Nat | .ofNat n=>some n | .negSucc _=>none
def zA.asNat(v:zA):Option Nat:=ob v.asInt vN
def zA.cells(v:zA):List zA:=
 match v.asAgg with
 | some l=>l
 | none=>[v]
def zA.one(v:zA):Bool:=Nat.blt v.tag 13
def jE.asInt:jE->Option IntKind | .int k=>some k | _=>none
def jE.asSlice:jE->Option Nat | .slice e=>some e | _=>none
def jE.asArr:jE->Option (Nat × Nat) | .arr n e=>some (n,e) | _=>none
def jE.asMap:jE->Option (Nat × Nat) | .map k e=>some (k,e) | _=>none
def jE.asStruct:jE->Option (List (Nat × Nat × Nat)) | .struct fs=>some fs | _=>none
def jE.tag:jE->Nat
 | .bool=>0 | .int _=>1 | .string=>2 | .ptr _=>3 | .slice _=>4 | .arr _ _=>5 | .map _ _=>6 | .struct _=>7 | .func=>8 | .iface=>9 | .other=>10
def jE.isAgg(d:jE):Bool:=bif Nat.beq d.tag 5 then true else Nat.beq d.tag 7
def jE.isString(d:jE):Bool:=Nat.beq d.tag 2
def vA.asCells:vA->Option (Tr zA × Nat × Option Lo) | .cells c n l=>some (c,n,l) | _=>none
def vA.asMap:vA->Option (List (zA × zA)) | .map l=>some l | _=>none
def vA.asLoop:vA->Option xN | .loop l=>some l | _=>none
def vA.asDeferred:vA->Option (Option (List gH)) | .deferred l=>some l | _=>none
def vA.asIter:vA->Option (List Nat × Nat) | .siter s p=>some (s,p) | _=>none
def xB{α:Type}(b:Bool)(x:Option α):Option α:=Bool.rec (motive:=fun _=>Option α) none x b
def dD:zA:=.tup []
def rF(s:ByteArray):List Nat:=s.data.toList.map UInt8.toNat
def Ef:Value->Option zA
 | .bool b=>some (.bool b)
 | .int k n=>some (.int k n)
 | .string s=>some (.str (rF s))
 | .pointer none=>some .nilptr
 | .slice none 0 0=>some .nilslice
 | .map none=>some .nilmap
 | .nilFunc=>some .nilfunc
 | .nilIface=>some .niliface
 | _=>none
def zfy:Value->Option (Array Value)
 | .agg cs=>some cs
 | _=>none
def Xp(v:Value):Option zA:=
 match zfy v with
 | some cs=>ob (kH Ef cs.toList) fun l=>some (.agg l)
 | none=>Ef v
inductive vD where
 | now (tm:Tm)
 | mixed (tm old:Tm) (olds names:List Nat)
def aH(i:Nat)(l:List Nat):Bool:=List.rec (motive:=fun _=>Bool) false (fun j _ g=>bif Nat.beq i j then true else g) l
def sX (t:Nat)(e:vD):Option zA:=
 match e with
 | .now tm=>tm.get t
 | .mixed tm old olds names=>bif aH t names then Tm.get (bif aH t olds then old else tm) t else none
def xConst(v:Value)(_:vD):Option zA:=Xp v
def Tq(g:Nat)(_:vD):Option zA:=bif Nat.blt g 256 then some (.ptr g 0)else none
def xFunc(f:Nat)(_:vD):Option zA:=some (.func (.func f) [] [])
structure EB where f:vD->Option zA
def evB:Operand->EB
 | .tmp t=>⟨sX t⟩
 | .const v=>⟨xConst v⟩
 | .global g=>⟨Tq g⟩
 | .func f=>⟨xFunc f⟩
def ev (x:Operand)(e:vD):Option zA:=(evB x).f e
def aN (l:List Operand)(e:vD):Option (List zA):=kH (fun x=>ev x e) l
def vT (x:Option Operand)(e:vD):Option (Option zA):=
 match x with
 | none=>some none
 | some x=>ob (ev x e) fun v=>some (some v)
def wT (l:List (Nat × Operand))(e:vD):Option (List (Nat × zA)):=kH (fun x=>ob (ev x.2 e) fun v=>some (x.1,v)) l
def qE(H:xA)(b:Nat):Option (Tr zA × Nat × Option Lo):=ob (H.t.get b) vA.asCells
def yL(H:xA)(b:Nat):Option (List (zA × zA)):=ob (H.t.get b) vA.asMap
def fR(ty:lD)(c:Tr zA)(off:Nat):Option zA:=
 bif ty.desc.isAgg then ob (c.many ty.size off) fun l=>some (.agg l)else c.get off
def sQ(C:oA)(t:Nat)(l:List zA)(off:Nat):Option zA:=
 ob (C.tys.get t) fun ty=>bif ty.desc.isAgg then some (.agg (qZ (lQ l off) ty.size))else sD l off
def vX(ty:lD):zA:=
 bif ty.desc.isAgg then .agg ty.zero else match ty.zero with
  | v::_=>v
  | []=>dD
def Yl(a:List Nat):List Nat->Bool:=
 List.rec (motive:=fun _=>List Nat->Bool) (fun b => !b.isEmpty)
  (fun x _ g b=>List.rec (motive:=fun _=>Bool) false (fun y b _=>bif Nat.blt x y then true else bif Nat.beq x y then g b else false) b) a
def Hz(a b:zA):Option Bool:=ob a.asBool fun x=>ob b.asBool fun y=>some (bEq x y)
def zja(a b:zA):Option Bool:=ob a.asIntK fun x=>ob b.asIntK fun y=>xB (uN x.1 y.1) (some (tC x.2 y.2))
def Zx(a b:zA):Option Bool:=ob a.asStr fun x=>ob b.asStr fun y=>some (qG x y)
def Ch(n m:Nat)(a b:zA):Option Bool:=
 bif Nat.beq a.tag n then(bif Nat.beq b.tag n then some true else xB (Nat.beq b.tag m) (some false))
 else xB (Nat.beq a.tag m&&Nat.beq b.tag n) (some false)
def Sc(_ _:zA):Option Bool:=none
def Ml:jE->zA->zA->Option Bool
 | .bool=>Hz
 | .int _=>zja
 | .string=>Zx
 | .ptr _=>Ch 3 4
 | .iface=>Ch 12 11
 | .slice _=>Ch 5 6
 | .map _ _=>Ch 7 8
 | .func=>Ch 10 9
 | .arr _ _=>Sc
 | .struct _=>Sc
 | .other=>Sc
def Ir(C:oA)(eq:Nat->zA->zA->Option Bool)(xs ys:List zA):List (Nat × Nat × Nat)->Option Bool
 | []=>some true
 | f::fs=>ob (sQ C f.2.1 xs f.1) fun a=>ob (sQ C f.2.1 ys f.1) fun b=>ob (eq f.2.1 a b) fun r=>bif r then Ir C eq xs ys fs else some false
def aeq (C:oA):Nat->Nat->zA->zA->Option Bool
 | 0,_,_,_=>none
 | d+1,t,x,y=>ob (C.tys.get t) fun ty=>
  match ty.desc.asStruct with
  | some fs=>xB ty.eqOk (ob x.asAgg fun xs=>ob y.asAgg fun ys=>Ir C (aeq C d) xs ys fs)
  | none=>Ml ty.desc x y
def iAdd (k:IntKind)(a b:Int):Option zA:=some (.int k (cA k (a+b)))
def iSub (k:IntKind)(a b:Int):Option zA:=some (.int k (cA k (a-b)))
def iMul (k:IntKind)(a b:Int):Option zA:=some (.int k (cA k (a*b)))
def hZ (k:IntKind)(a b:Int):Option zA:=bif tC b 0 then none else some (.int k (cA k (a.tdiv b)))
def iZ (k:IntKind)(a b:Int):Option zA:=bif tC b 0 then none else some (.int k (a.tmod b))
def kI(f:Nat->Nat->Nat)(k:IntKind)(a b:Int):Option zA:=ob (vN a) fun x=>ob (vN b) fun y=>xB (Nat.blt x (cG k)&&Nat.blt y (cG k)) (some (.int k (.ofNat (f x y))))
def kW:IntKind->Nat
 | .i8=>256 | .u8=>256 | .i16=>65536 | .u16=>65536 | .i32=>4294967296 | .u32=>4294967296 | .i64=>18446744073709551616 | .u64=>18446744073709551616
def iAnd (k:IntKind)(a b:Int):Option zA:=
 match vN a with
 | some _=>kI Nat.land k a b
 | none=>ob (vN b) fun y=>xB (Nat.blt y (cG k)) (some (.int k (.ofNat (Nat.land (Int.toNat (Int.emod a (.ofNat (kW k)))) y))))
def iEql (_:IntKind)(a b:Int):Option zA:=some (.bool (tC a b))
def iNeq (_:IntKind)(a b:Int):Option zA:=some (.bool (!tC a b))
def iLss (_:IntKind)(a b:Int):Option zA:=some (.bool (iB a b))
def iLeq (_:IntKind)(a b:Int):Option zA:=some (.bool (bG a b))
def iGtr (_:IntKind)(a b:Int):Option zA:=some (.bool (iB b a))
def iGeq (_:IntKind)(a b:Int):Option zA:=some (.bool (bG b a))
def iNone(_:IntKind)(_ _:Int):Option zA:=none
structure IB where f:IntKind->Int->Int->Option zA
def AR:BinOp->IB
 | .add=>⟨iAdd⟩ | .sub=>⟨iSub⟩ | .mul=>⟨iMul⟩ | .quo=>⟨hZ⟩ | .rem=>⟨iZ⟩
 | .and=>⟨iAnd⟩ | .or=>⟨kI Nat.lor⟩ | .xor=>⟨kI Nat.xor⟩
 | .eql=>⟨iEql⟩ | .neq=>⟨iNeq⟩ | .lss=>⟨iLss⟩ | .leq=>⟨iLeq⟩ | .gtr=>⟨iGtr⟩ | .geq=>⟨iGeq⟩
 | _=>⟨iNone⟩
def mX (a b:List Nat):Option zA:=xB (Nat.blt (zB a+zB b) 4611686018427387904) (some (.str (fD a b)))
def sEql (a b:List Nat):Option zA:=some (.bool (qG a b))
def sNeq (a b:List Nat):Option zA:=some (.bool (!qG a b))
def sLss (a b:List Nat):Option zA:=some (.bool (Yl a b))
def sNone(_ _:List Nat):Option zA:=none
structure SB where f:List Nat->List Nat->Option zA
def AP:BinOp->SB
 | .add=>⟨mX⟩ | .eql=>⟨sEql⟩ | .neq=>⟨sNeq⟩ | .lss=>⟨sLss⟩
 | _=>⟨sNone⟩
def Mb:Operand->Bool
 | .const _=>true
 | _=>false
def Dt(k:IntKind)(b:Int):Option Nat:=ob (vN b) fun n=>some (min n k.bits)
def sW (k:IntKind)(a b:Int):Option zA:=ob (Dt k b) fun n=>some (.int k (cA k (a*.ofNat (2^n))))
def Ey (k:IntKind)(a b:Int):Option zA:=ob (Dt k b) fun n=>some (.int k (a.fdiv (.ofNat (2^n))))
def Na(f:IntKind->Int->Int->Option zA)(a b:zA):Option zA:=ob a.asIntK fun x=>ob b.asInt fun y=>f x.1 x.2 y
def KV(x y:Operand)(a b:zA):Bool:=
 bif Nat.beq a.tag 12&&Nat.beq b.tag 12 then Mb x||Mb y else true
def Sz(neg:Bool)(C:oA)(t:Nat)(x y:Operand)(a b:zA):Option zA:=
 xB (KV x y a b) (ob (aeq C 20 t a b) fun r=>some (.bool (bif neg then !r else r)))
def binNo(_:oA)(_:Nat)(_ _:Operand)(_ _:zA):Option zA:=none
structure BB where f:oA->Nat->Operand->Operand->zA->zA->Option zA
def MZ:BinOp->BB
 | .eql=>⟨Sz false⟩
 | .neq=>⟨Sz true⟩
 | _=>⟨binNo⟩
def AQ(op:BinOp)(C:oA)(t:Nat)(x y:Operand)(a b:zA):Option zA:=
 match a.asIntK with
 | some i=>ob b.asIntK fun j=>xB (uN i.1 j.1) ((AR op).f i.1 i.2 j.2)
 | none=>match a.asStr with
  | some s=>ob b.asStr fun u=>(AP op).f s u
  | none=>(MZ op).f C t x y a b
def binShl(_:oA)(_:Nat)(_ _:Operand)(a b:zA):Option zA:=Na sW a b
def binShr(_:oA)(_:Nat)(_ _:Operand)(a b:zA):Option zA:=Na Ey a b
def gP:BinOp->BB
 | .shl=>⟨binShl⟩
 | .shr=>⟨binShr⟩
 | op=>⟨AQ op⟩
def unNeg(a:zA):Option zA:=ob a.asIntK fun x=>some (.int x.1 (cA x.1 (0-x.2)))
def unNot(a:zA):Option zA:=ob a.asBool fun b=>some (.bool (!b))
def Dh(a:zA):Option zA:=ob a.asIntK fun x=>xB (Nat.beq (kLo x.1) 0) (kI Nat.xor x.1 (.ofNat (cG x.1-1)) x.2)
def unNone(_:zA):Option zA:=none
structure UB where f:zA->Option zA
def unA:UnOp->UB
 | .neg=>⟨unNeg⟩
 | .xor=>⟨Dh⟩
 | .not=>⟨unNot⟩
 | _=>⟨unNone⟩
def Ss(v:zA):Option Nat:=ob v.asIntK fun x=>xB (uN x.1 .u8) (ob (vN x.2) fun n=>xB (Nat.blt n 256) (some n))
def Mw(H:xA)(a:zA):Option zA:=
 match a.asSlice with
 | some x=>ob (qE H x.1) fun c=>ob (c.1.many x.2.2.1 x.2.1) fun l=>ob (kH Ss l) fun r=>some (.str r)
 | none=>xB (Nat.beq a.tag 5) (some (.str []))
def iU(C:oA)(s d:lD)(a:zA)(H:xA):Option zA:=
 match d.desc.asInt with
 | some k=>ob a.asInt fun n=>some (.int k (cA k n))
 | none=>xB d.desc.isString (bif Nat.beq a.tag 2 then some a else
   ob s.desc.asSlice fun e=>ob (C.tys.get e) fun et=>ob et.desc.asInt fun k=>xB (uN k .u8) (Mw H a))
def jW(y:Nat)(v:zA):Option Nat:=ob v.asNat fun n=>xB (Nat.ble n y) (some n)
def Aj(y dflt:Nat)(v:Option zA):Option Nat:=
 match v with
 | some v=>jW y v
 | none=>some dflt
def dQ(len cap:Nat)(lo hi:Option zA):Option (Nat × Nat):=
 ob (Aj cap len hi) fun h=>ob (Aj h 0 lo) fun l=>some (l,h)
def mO(H:xA)(b size cap l:Nat)(arr:Bool):Bool:=
 match qE H b with
 | some c=>match c.2.2 with
  | none=>true
  | some es => !arr&&Nat.beq es.es size&&(!Nat.beq cap l||Nat.beq l 0)
 | none=>false
def iN(H:xA)(b size cap l:Nat)(arr:Bool):Bool:=
 match qE H b with
 | some c=>match c.2.2 with
  | none=>false
  | some es => !arr&&Nat.beq es.es size&&Nat.beq cap l && !Nat.beq l 0
 | none=>false
def uQ(C:oA)(H:xA)(arr:Bool)(e b off len cap:Nat)(lo hi:Option zA):Option zA:=
 ob (C.tys.get e) fun et=>ob (dQ len cap lo hi) fun x=>
  bif Nat.ble x.2 cap&&Nat.ble x.1 x.2&&iN H b et.size cap x.1 arr then some (.slice 0 1 0 0)else
  xB (Nat.ble x.2 cap&&mO H b et.size cap x.1 arr) (some (.slice b (bif Nat.beq cap x.1 then off else off+x.1*et.size) (x.2-x.1) (cap-x.1)))
def Kg(s:List Nat)(lo hi:Option zA):Option zA:=
 let n:=zB s
 ob (dQ n n lo hi) fun x=>some (.str (lQ (qZ s x.2) x.1))
def gN(C:oA)(H:xA)(ty:lD)(x:zA)(lo hi:Option zA):Option zA:=
 match x.asStr with
 | some s=>xB ty.desc.isString (Kg s lo hi)
 | none=>match x.asSlice with
  | some r=>ob ty.desc.asSlice fun e=>uQ C H false e r.1 r.2.1 r.2.2.1 r.2.2.2 lo hi
  | none=>match x.asPtr with
   | some p=>ob ty.desc.asArr fun a=>uQ C H true a.2 p.1 p.2 a.1 a.1 lo hi
   | none=>xB (Nat.beq x.tag 5) (ob ty.desc.asSlice fun e=>ob (C.tys.get e) fun _=>ob (dQ 0 0 lo hi) fun _=>some .nilslice)
def yT(cells:List zA)(off size:Nat)(v:zA):Option (List zA):=
 let vc:=v.cells
 let n:=zB vc
 xB (Nat.beq n size&&Nat.ble (off+n) (zB cells)) (some (fD (qZ cells off) (fD vc (lQ cells (off+n)))))
def kK(place:Nat->Option (Nat × Nat)):List (Nat × zA)->List zA->Option (List zA)
 | [],cells=>some cells
 | p::rest,cells=>ob (place p.1) fun q=>ob (yT cells q.1 q.2 p.2) fun cells=>kK place rest cells
def pU(d:jE):Bool:=Nat.ble d.tag 2
def keyTag(v:zA):Nat:=v.tag
def Eu(d:jE)(v:zA):Bool:=Nat.beq d.tag (keyTag v)
def dZ(C:oA):List (Nat × Nat × Nat)->Nat->Bool
 | [],_=>true
 | f::fs,i=>bif Nat.beq f.1 i then(match C.tys.get f.2.1 with
  | some ty=>bif pU ty.desc then dZ C fs (i+1)else false
  | none=>false)else false
def qU(C:oA)(ty:lD):Bool:=bif pU ty.desc then true else match ty.desc.asStruct with
 | some fs=>bif ty.eqOk then dZ C fs 0 else false
 | none=>false
def aZ(C:oA):List (Nat × Nat × Nat)->List zA->Bool
 | [],[]=>true
 | f::fs,v::l=>(match C.tys.get f.2.1 with
  | some ty=>bif Eu ty.desc v then aZ C fs l else false
  | none=>false)
 | _,_=>false
def dR(C:oA)(ty:lD)(v:zA):Bool:=bif pU ty.desc then Eu ty.desc v else match ty.desc.asStruct with
 | some fs=>(match v.asAgg with
  | some l=>aZ C fs l
  | none=>false)
 | none=>false
def jQ(a b:zA):Option Bool:=
 match a.asIntK with
 | some x=>ob b.asIntK fun y=>xB (uN x.1 y.1) (some (tC x.2 y.2))
 | none=>match a.asStr with
  | some x=>ob b.asStr fun y=>some (qG x y)
  | none=>Hz a b
def tU:List zA->List zA->Option Bool
 | [],[]=>some true
 | a::x,b::y=>ob (jQ a b) fun r=>ob (tU x y) fun s=>some (r&&s)
 | _,_=>none
def lI(a b:zA):Option Bool:=
 match a.asAgg with
 | some x=>ob b.asAgg fun y=>tU x y
 | none=>jQ a b
def zL(k:zA):List (zA × zA)->Option (Option zA)
 | []=>some none
 | e::l=>ob (lI k e.1) fun r=>bif r then some (some e.2)else zL k l
def fN(k v:zA):List (zA × zA)->Option (List (zA × zA))
 | []=>some [(k,v)]
 | e::l=>ob (lI k e.1) fun r=>bif r then some ((k,v)::l)else ob (fN k v l) fun l=>some (e::l)
abbrev yK:=oA->vD->xA->Option zA
def lZ:yK:=fun _ _ _=>none
def cN(x:Operand):yK:=fun _ e _=>ev x e
def Lt(c a b:Operand):yK:=fun _ e _=>ob (ev c e) fun c=>ob c.asBool fun c=>bif c then ev a e else ev b e
def dV(t:Nat)(a:Operand):yK:=fun C e H=>ob (ev a e) fun v=>ob v.asPtr fun p=>ob (C.tys.get t) fun ty=>ob (qE H p.1) fun c=>fR ty c.1 p.2
def kZ (x:Operand):yK:=fun _ e _=>ob (ev x e) fun v=>xB (Nat.beq v.tag 4||Nat.beq v.tag 9) (some v)
def wW (op:BinOp)(t:Nat)(x y:Operand):yK:=fun C e _=>ob (ev x e) fun a=>ob (ev y e) fun b=>(gP op).f C t x y a b
def lUn (op:UnOp)(x:Operand):yK:=fun _ e _=>ob (ev x e) fun a=>(unA op).f a
def lP(s d:Nat)(x:Operand):yK:=fun C e H=>ob (ev x e) fun a=>ob (C.tys.get s) fun s=>ob (C.tys.get d) fun d=>iU C s d a H
def Bw(t:Nat)(x:Operand):yK:=fun C e _=>ob (C.tys.get t) fun ty=>xB (Nat.blt ty.desc.tag 9) (ob (ev x e) fun v=>some (.iface t v))
def Hk(f:Nat)(a b:Array Operand):yK:=fun _ e _=>ob (aN a.toList e) fun a=>ob (aN b.toList e) fun b=>some (.func (.func f) a b)
structure LB where f:yK
def Bx(fn:Fn)(a b:Array Operand):LB:=
 match fn with
 | .func f=>⟨Hk f a b⟩
 | _=>⟨lZ⟩
def mZ(t:Nat)(x:Operand)(lo hi:Option Operand):yK:=fun C e H=>
 ob (ev x e) fun a=>ob (vT lo e) fun l=>ob (vT hi e) fun h=>ob (C.tys.get t) fun ty=>gN C H ty a l h
def Ls(t:Nat)(x:Operand)(lo hi mx:Option Operand):LB:=
 match mx with
 | none=>⟨mZ t x lo hi⟩
 | some _=>⟨lZ⟩
def yW(s:Nat)(x:Operand)(f:Nat):yK:=fun C e _=>
 ob (C.tys.get s) fun ty=>ob ty.desc.asStruct fun fs=>ob (sD fs f) fun fd=>xB (!Nat.beq fd.2.2 0) (ob (ev x e) fun v=>ob v.asPtr fun p=>some (.ptr p.1 (p.2+fd.1)))
def Bz(t:Nat)(x:Operand)(f:Nat):yK:=fun C e _=>
 ob (C.tys.get t) fun ty=>ob ty.desc.asStruct fun fs=>ob (sD fs f) fun fd=>ob (ev x e) fun v=>ob v.asAgg fun l=>sQ C fd.2.1 l fd.1
def bV(t:Nat)(x i:Operand):yK:=fun C e _=>
 ob (C.tys.get t) fun ty=>ob (ev x e) fun v=>ob (ev i e) fun i=>ob i.asNat fun i=>
  match v.asSlice with
  | some s=>ob ty.desc.asSlice fun el=>ob (C.tys.get el) fun et=>xB (Nat.blt i s.2.2.1) (some (.ptr s.1 (s.2.1+i*et.size)))
  | none=>ob v.asPtr fun p=>ob ty.desc.asArr fun a=>ob (C.tys.get a.2) fun et=>xB (Nat.blt i a.1) (some (.ptr p.1 (p.2+i*et.size)))
def aV(t:Nat)(x i:Operand):yK:=fun C e _=>
 ob (C.tys.get t) fun ty=>ob (ev x e) fun v=>ob (ev i e) fun i=>ob i.asNat fun i=>
  match v.asStr with
  | some s=>xB ty.desc.isString (ob (sD s i) fun b=>some (.int .u8 (.ofNat b)))
  | none=>ob v.asAgg fun l=>ob ty.desc.asArr fun a=>ob (C.tys.get a.2) fun et=>xB (Nat.blt i a.1) (sQ C a.2 l (i*et.size))
def xW(t:Operand)(i:Nat):yK:=fun _ e _=>ob (ev t e) fun v=>ob v.asTup fun l=>sD l i
def eX(t:Nat)(parts:Array (Nat × Operand)):yK:=fun C e _=>
 ob (C.tys.get t) fun ty=>ob (wT parts.toList e) fun ps=>
  match ty.desc.asStruct with
  | some fs=>ob (kK (fun i=>ob (sD fs i) fun x=>some (x.1,x.2.2)) ps ty.zero) fun l=>some (.agg l)
  | none=>ob ty.desc.asArr fun a=>ob (C.tys.get a.2) fun et=>ob (kK (fun i=>some (i*et.size,et.size)) ps ty.zero) fun l=>some (.agg l)
def vW(x:Operand)(asserted:Nat)(ok:Bool):yK:=fun C e _=>
 ob (C.tys.get asserted) fun ty=>xB (Nat.blt ty.desc.tag 9) (ob (ev x e) fun v=>
  match v.asIface with
  | some p=>bif Nat.beq p.1 asserted then some (bif ok then .tup [p.2,.bool true]else p.2)else xB ok (some (.tup [vX ty,.bool false]))
  | none=>xB (Nat.beq v.tag 12&&ok) (some (.tup [vX ty,.bool false])))
def kV(H:xA)(v:zA):Option (List (zA × zA)):=
 match v.asMap with
 | some b=>yL H b
 | none=>xB (Nat.beq v.tag 7) (some [])
def eV(t:Nat)(x i:Operand)(ok:Bool):yK:=fun C e H=>
 ob (C.tys.get t) fun ty=>ob ty.desc.asMap fun ke=>ob (C.tys.get ke.1) fun kty=>xB (qU C kty) (ob (C.tys.get ke.2) fun ety=>
  ob (ev x e) fun m=>ob (kV H m) fun es=>ob (ev i e) fun k=>xB (dR C kty k) (ob (zL k es) fun r=>
   match r with
   | some v=>some (bif ok then .tup [v,.bool true]else v)
   | none=>some (bif ok then .tup [vX ety,.bool false]else vX ety)))
def vU (H:xA)(ty:lD)(v:zA):Option Nat:=
 match v.asStr with
 | some s=>xB ty.desc.isString (some (zB s))
 | none=>match v.asSlice with
  | some s=>xB (Nat.beq ty.desc.tag 4) (some s.2.2.1)
  | none=>match ty.desc.asArr with
   | some a=>some a.1
   | none=>match v.asMap with
    | some b=>xB (Nat.beq ty.desc.tag 6) (ob (yL H b) fun l=>some (zB l))
    | none=>xB ((Nat.beq ty.desc.tag 4&&Nat.beq v.tag 5)||(Nat.beq ty.desc.tag 6&&Nat.beq v.tag 7)) (some 0)
def kQ (c:Call):yK:=fun C e H=>
 ob (sD c.argTypes.toList 0) fun t=>ob (sD c.args.toList 0) fun x=>ob (C.tys.get t) fun ty=>ob (ev x e) fun v=>ob (vU H ty v) fun n=>some (.int .i64 (.ofNat n))
def two (c:Call)(e:vD):Option (zA × zA):=
 match c.args.toList with
 | [x,y]=>ob (ev x e) fun a=>ob (ev y e) fun b=>some (a,b)
 | _=>none
def fV (c:Call):yK:=fun _ e _=>ob (two c e) fun p=>ob p.1.asIntK fun x=>ob p.2.asIntK fun y=>some (.int x.1 (bif iB x.2 y.2 then y.2 else x.2))
def gV (c:Call):yK:=fun _ e _=>ob (two c e) fun p=>ob p.1.asIntK fun x=>ob p.2.asIntK fun y=>some (.int x.1 (bif iB y.2 x.2 then y.2 else x.2))
def Rf(c:Call):Builtin->LB
 | .len=>⟨kQ c⟩
 | .max=>⟨fV c⟩
 | .min=>⟨gV c⟩
 | _=>⟨lZ⟩
def zT(c:Call):Callee->LB
 | .builtin b=>Rf c b
 | _=>⟨lZ⟩
def zic(c:Call):LB:=zT c c.callee
def cF:Op->LB
 | .move x=>⟨cN x⟩
 | .assign x=>⟨cN x⟩
 | .pick c a b=>⟨Lt c a b⟩
 | .load t a=>⟨dV t a⟩
 | .nilCheck x=>⟨kZ x⟩
 | .binOp op t x y _=>⟨wW op t x y⟩
 | .unOp op _ x=>⟨lUn op x⟩
 | .convert s d x=>⟨lP s d x⟩
 | .makeInterface t x=>⟨Bw t x⟩
 | .makeFunc fn a b=>Bx fn a b
 | .slice t x lo hi mx=>Ls t x lo hi mx
 | .fieldAddr s x f=>⟨yW s x f⟩
 | .field t x f=>⟨Bz t x f⟩
 | .indexAddr t x i=>⟨bV t x i⟩
 | .index t x i=>⟨aV t x i⟩
 | .extract t i=>⟨xW t i⟩
 | .build t ps=>⟨eX t ps⟩
 | .typeAssert x _ u ok=>⟨vW x u ok⟩
 | .lookup t x i ok=>⟨eV t x i ok⟩
 | .call c=>zic c
 | _=>⟨lZ⟩
inductive oK where
 | val (v:zA) (H:xA)
 | enter (f:Nat) (args:List zA)
 | round (l:Nat) (args:List zA)
 | defer (d:gH)
 | panic (v:zA)
 | recover
 | fail
abbrev yR:=oA->vD->xA->oK
structure HB where f:yR
def pL (x:Option (zA × xA)):oK:=
 match x with
 | some p=>.val p.1 p.2
 | none=>.fail
def cY (x:Option oK):oK:=
 match x with
 | some r=>r
 | none=>.fail
def lv (f:yK):yR:=fun C e H=>
 match f C e H with
 | some v=>.val v H
 | none=>.fail
def newBlk(H:xA)(b:vA):xA:=⟨H.next+1,H.t.set H.next b⟩
def yG(H:xA)(l:List zA)(loose:Option Lo):xA:=newBlk H (.cells (Tr.ofList l) (zB l) loose)
def setBlk(H:xA)(b:Nat)(x:vA):xA:=⟨H.next,H.t.set b x⟩
def tI (zero:List zA):Nat->List zA
 | 0=>[]
 | n+1=>fD zero (tI zero n)
def Er(v:zA):Option Nat:=
 match v.asSlice with
 | some s=>some s.2.2.1
 | none=>match v.asStr with
  | some s=>some (zB s)
  | none=>xB (Nat.beq v.tag 5) (some 0)
def xY(l:List Nat):List zA:=l.map fun n=>zA.int .u8 (Int.ofNat n)
def zY(H:xA)(size n:Nat)(v:zA):Option (List zA):=
 match v.asSlice with
 | some s=>ob (qE H s.1) fun c=>c.1.many (n*size) s.2.1
 | none=>match v.asStr with
  | some s=>some (xY (qZ s n))
  | none=>xB (Nat.beq v.tag 5) (some [])
def yJ(C:oA)(H:xA)(b off:Nat)(l:List zA):Option xA:=
 xB (!Nat.blt b C.base) (ob (qE H b) fun c=>
  xB (Nat.ble (off+zB l) c.2.1&&fB zA.one l) (some (setBlk H b (.cells (c.1.setMany l off) c.2.1 c.2.2))))
def aR(et:lD)(len cap n:Nat)(new:List zA):Bool:=
 Nat.blt (len+n+cap) 1000000000&&Nat.blt ((len+n+cap)*et.bytes) 1000000000&&Nat.blt et.bytes 1000000000 && !Nat.beq et.size 0&&Nat.beq (zB new) (n*et.size)&&Nat.beq (zB et.zero) et.size
def JH(et:lD):Bool:=match et.desc with | .int .u8=>true | _=>false
def dM(e:Nat)(et:lD):Lo:=bif Nat.beq et.size 1&&JH et then .ty e else .sz et.size
def gQ(H:xA)(e:Nat)(et:lD)(n:Nat)(new:List zA):Option (zA × xA):=
 bif Nat.beq n 0 then some (.nilslice,H)else
  xB (aR et 0 0 n new) (some (.slice H.next 0 n n,yG H new (some (dM e et))))
def rW(C:oA)(H:xA)(et:lD)(n:Nat)(new:List zA)(s:Nat × Nat × Nat × Nat):Option (zA × xA):=
 match new with
 | []=>some (.slice s.1 s.2.1 (s.2.2.1+n) s.2.2.2,H)
 | _::_=>ob (yJ C H s.1 (s.2.1+s.2.2.1*et.size) new) fun H'=>some (.slice s.1 s.2.1 (s.2.2.1+n) s.2.2.2,H')
def Ht(H:xA)(e:Nat)(et:lD)(n:Nat)(new:List zA)(s:Nat × Nat × Nat × Nat)(c:Tr zA):Option (zA × xA):=
 ob (c.many (s.2.2.1*et.size) s.2.1) fun old=>some (.slice H.next 0 (s.2.2.1+n) (s.2.2.1+n),yG H (fD old new) (some (dM e et)))
def Fa(C:oA)(H:xA)(e:Nat)(et:lD)(n:Nat)(new:List zA)(s:Nat × Nat × Nat × Nat)(c:Tr zA)(m:Nat)(lo:Lo):Option (zA × xA):=
 xB (Nat.beq s.2.1 0&&loEq lo (dM e et)&&Nat.ble (s.2.2.1*et.size) m&&Nat.ble m ((s.2.2.1+n)*et.size)&&fB zA.one new && !Nat.blt s.1 C.base)
  (some (.slice H.next 0 (s.2.2.1+n) (s.2.2.1+n),⟨H.next+1,(H.t.del s.1).set H.next (.cells (c.setMany new (s.2.2.1*et.size)) ((s.2.2.1+n)*et.size) (some lo))⟩))
def qW(C:oA)(H:xA)(e:Nat)(et:lD)(n:Nat)(new:List zA)(s:Nat × Nat × Nat × Nat):Option (zA × xA):=
 xB (!(Nat.beq s.2.1 1&&Nat.beq s.2.2.2 0)) (xB (aR et s.2.2.1 s.2.2.2 n new) (ob (qE H s.1) fun c=>
  match c.2.2 with
  | none=>Ht H e et n new s c.1
  | some lo=>Fa C H e et n new s c.1 c.2.1 lo))
def sS(C:oA)(H:xA)(ty:lD)(s x:zA):Option (zA × xA):=
 ob ty.desc.asSlice fun e=>ob (C.tys.get e) fun et=>ob (Er x) fun n=>ob (zY H et.size n x) fun new=>
  match s.asSlice with
  | some s=>bif Nat.ble (s.2.2.1+n) s.2.2.2 then rW C H et n new s else qW C H e et n new s
  | none=>xB (Nat.beq s.tag 5) (gQ H e et n new)
def isBld(C:oA)(t:Nat):Bool:=
 match ob (C.tys.get t) fun ty=>ob ty.desc.asStruct fun fs=>ob (sD fs 0) fun f=>ob (C.tys.get f.2.1) fun tf=>some tf.desc with
 | some (.ptr e)=>Nat.beq e t
 | _=>false
def dK(C:oA)(t:Nat):Option Lo:=
 bif isBld C t then some (.ty t)else
 match ob (C.tys.get t) fun ty=>ob ty.desc.asStruct fun fs=>ob (sD fs 0) fun f=>some (isBld C f.2.1)with
 | some true=>some (.ty t)
 | _=>none
def Cd(t:Nat):yR:=fun C _ H=>pL (ob (C.tys.get t) fun ty=>some (.ptr H.next 0,yG H ty.zero (dK C t)))
def fZ (t:Nat)(x:Operand):yR:=fun C e H=>pL (ob (ev x e) fun v=>some (.ptr H.next 0,yG H v.cells (dK C t)))
def oZ (C:oA):Op->Option Lo
 | .alloc t=>dK C t
 | .box t _=>dK C t
 | _=>none
def Cc(t len:Nat)(parts:Array (Nat × Operand)):yR:=fun C e H=>pL (ob (C.tys.get t) fun ty=>ob ty.desc.asSlice fun el=>ob (C.tys.get el) fun et=>
 xB (Nat.blt (len*et.size) 1000000&&Nat.beq (zB et.zero) et.size) (ob (wT parts.toList e) fun ps=>ob (kK (fun i=>some (i*et.size,et.size)) ps (tI et.zero len)) fun l=>some (.slice H.next 0 len len,yG H l none)))
def Md(t:Nat)(a x:Operand):yR:=fun C e H=>pL (ob (C.tys.get t) fun ty=>ob (ev a e) fun a=>ob a.asPtr fun p=>ob (ev x e) fun v=>
 let l:=v.cells
 xB (Nat.beq (zB l) ty.size) (ob (yJ C H p.1 p.2 l) fun H'=>some (dD,H')))
def Mf(r:Option Operand):yR:=fun _ _ H=>
 match r with
 | none=>.val (.map H.next) (newBlk H (.map []))
 | some _=>.fail
def Cb(t:Nat)(m k x:Operand):yR:=fun C e H=>pL (ob (C.tys.get t) fun ty=>ob ty.desc.asMap fun ke=>ob (C.tys.get ke.1) fun kty=>xB (qU C kty)
 (ob (ev m e) fun m=>ob m.asMap fun b=>xB (!Nat.blt b C.base) (ob (yL H b) fun l=>ob (ev k e) fun k=>xB (dR C kty k) (ob (ev x e) fun v=>ob (fN k v l) fun l'=>some (dD,setBlk H b (.map l'))))))
def Zf(t:Nat)(l c:Operand):yR:=fun C e H=>pL (ob (C.tys.get t) fun ty=>ob ty.desc.asSlice fun el=>ob (C.tys.get el) fun et=>
 ob (ev l e) fun l=>ob l.asNat fun l=>ob (ev c e) fun c=>ob c.asNat fun c=>
  xB (Nat.ble l c&&Nat.blt c 1000000&&Nat.blt (c*et.bytes) 1000000000&&Nat.beq (zB et.zero) et.size) (some (.slice H.next 0 l c,yG H (tI et.zero c) none)))
def bX(s d:Nat)(x:Operand):yR:=fun C e H=>
 match lP s d x C e H with
 | some v=>.val v H
 | none=>pL (ob (C.tys.get s) fun _=>ob (C.tys.get d) fun ty=>ob ty.desc.asSlice fun el=>ob (C.tys.get el) fun et=>ob et.desc.asInt fun k=>xB (uN k .u8) (ob (ev x e) fun v=>ob v.asStr fun l=>
   some (.slice H.next 0 (zB l) (zB l),yG H (xY l) (some (.ty el)))))
def Me(x:Operand):yR:=fun _ e _=>cY (ob (ev x e) fun v=>ob v.asIface fun p=>some (.panic (.iface p.1 p.2)))
def sR(f:Operand)(args:Array Operand)(e:vD):Option (AFn × List zA × List zA):=
 ob (ev f e) fun v=>ob v.asFunc fun p=>ob (aN args.toList e) fun as=>some (p.1,fD p.2.1 as,p.2.2)
def Rq(c:Call):Callee->HB
 | .value f=>⟨fun _ e _=>cY (ob (sR f c.args e) fun p=>some (.defer ⟨some p.1,0,fD p.2.1 p.2.2⟩))⟩
 | _=>⟨fun _ _ _=>.fail⟩
def hDefer(c:Call):HB:=Rq c c.callee
def lO(g:List zA->xA->Option zA):List zA->xA->Option (zA × xA):=fun args H=>ob (g args H) fun v=>some (v,H)
def Ik(_:oA)(H:xA)(args:List zA)(f:Nat):Option (List zA->xA->Option (zA × xA))->oK
 | some g=>match g args H with
  | some p=>.val p.1 p.2
  | none=>.fail
 | none=>.enter f args
def MQ(l:Nat)(args:List zA):List zA->oK
 | []=>.round l args
 | _::_=>.fail
def zju(C:oA)(H:xA)(args cap:List zA):AFn->oK
 | .func f=>Ik C H (fD args cap) f (C.prims.get f)
 | .yld l=>MQ l args cap
def Ez(f:Operand)(args:Array Operand):yR:=fun C e H=>cY (ob (sR f args e) fun p=>some (zju C H p.2.1 p.2.2 p.1))
def Hr(c:Call):yR:=fun C e H=>pL (ob (sD c.argTypes.toList 0) fun t=>ob (C.tys.get t) fun ty=>ob (sD c.argTypes.toList 1) fun u=>ob (C.tys.get u) fun uty=>
 xB (!Nat.beq uty.desc.tag 1) (ob (two c e) fun p=>sS C H ty p.1 p.2))
def ziw:yR:=fun _ _ _=>.fail
def zcp:yR:=fun _ _ _=>.recover
def zcq(c:Call):Builtin->HB
 | .append=>⟨Hr c⟩
 | .len=>⟨lv (kQ c)⟩
 | .max=>⟨lv (fV c)⟩
 | .min=>⟨lv (gV c)⟩
 | .recover=>⟨zcp⟩
 | _=>⟨ziw⟩
def Hq(c:Call):Callee->HB
 | .value f=>⟨Ez f c.args⟩
 | .builtin b=>zcq c b
 | _=>⟨ziw⟩
def hCall(c:Call):HB:=Hq c c.callee
def lvB (b:LB):HB:=⟨lv b.f⟩
def bE:Op->HB
 | .move x=>⟨lv (cN x)⟩
 | .assign x=>⟨lv (cN x)⟩
 | .pick c a b=>⟨lv (Lt c a b)⟩
 | .load t a=>⟨lv (dV t a)⟩
 | .nilCheck x=>⟨lv (kZ x)⟩
 | .binOp op t x y _=>⟨lv (wW op t x y)⟩
 | .unOp op _ x=>⟨lv (lUn op x)⟩
 | .makeInterface t x=>⟨lv (Bw t x)⟩
 | .makeFunc fn a b=>lvB (Bx fn a b)
 | .slice t x lo hi mx=>lvB (Ls t x lo hi mx)
 | .fieldAddr s x f=>⟨lv (yW s x f)⟩
 | .field t x f=>⟨lv (Bz t x f)⟩
 | .indexAddr t x i=>⟨lv (bV t x i)⟩
 | .index t x i=>⟨lv (aV t x i)⟩
 | .extract t i=>⟨lv (xW t i)⟩
 | .build t ps=>⟨lv (eX t ps)⟩
 | .typeAssert x _ u ok=>⟨lv (vW x u ok)⟩
 | .lookup t x i ok=>⟨lv (eV t x i ok)⟩
 | .convert s d x=>⟨bX s d x⟩
 | .alloc t=>⟨Cd t⟩
 | .box t x=>⟨fZ t x⟩
 | .buildSlice t len ps=>⟨Cc t len ps⟩
 | .store t a x=>⟨Md t a x⟩
 | .makeMap _ r=>⟨Mf r⟩
 | .insert t m k x=>⟨Cb t m k x⟩
 | .mapUpdate t m k x=>⟨Cb t m k x⟩
 | .makeSlice t l c=>⟨Zf t l c⟩
 | .panic x=>⟨Me x⟩
 | .defer c=>hDefer c
 | .call c=>hCall c
 | _=>⟨ziw⟩
structure GB where f:Tm->Option Bool
def zgb(_:Tm):Option Bool:=some true
def Jk(d:Option Nat)(w:Bool)(tm:Tm):Option Bool:=
 ob d fun d=>ob (tm.get d) fun v=>match v.asBool with
  | some b=>some (bEq b w)
  | none=>some false
def Jl(g:Option (Nat × Bool))(all:Array Oper):GB:=
 match g with
 | none=>⟨zgb⟩
 | some jw=>⟨Jk (ob (sD all.toList jw.1) fun o=>o.dst) jw.2⟩
def wG(g:Option (Nat × Bool))(all:Array Oper)(tm:Tm):Option Bool:=(Jl g all).f tm
structure PB where f:Nat->Tm->zA->Tm
def Ha(d n:Nat)(tm:Tm)(v:zA):Tm:=bif Nat.blt d n then tm.set d v else tm
def putNo(_:Nat)(tm:Tm)(_:zA):Tm:=tm
def putB (dst:Option Nat):PB:=
 match dst with
 | some d=>⟨Ha d⟩
 | none=>⟨putNo⟩
def putA (n:Nat)(tm:Tm)(dst:Option Nat)(v:zA):Tm:=(putB dst).f n tm v
def aU.running:aU->Bool | .run=>true | _=>false
def mE.blockId:mE->Option Nat | .inBlock id=>some id | _=>none
def xT(id:Nat):List mE->Option (List mE)
 | []=>none
 | x::k=>match x.blockId with
  | some i=>bif Nat.beq i id then some k else xT id k
  | none=>xT id k
def zfp(all:Array Oper)(rest:List Oper)(k:List mE)(tm:Tm)(R:wK)(v:zA):Option lB:=
 match rest with
 | o::rest=>some ⟨.ops all rest::k,putA R.n tm o.dst v,R⟩
 | []=>none
def Zs(all:Array Oper)(old:Tm)(olds:List (Nat × List Nat))(stages:List gG)(k:List mE)(tm:Tm)(R:wK)(v:zA):Option lB:=
 match stages with
 | st::stages=>ob (sD all.toList st.heavy) fun o=>some ⟨.reg all old olds (⟨all.size,st.lights,st.again⟩::stages)::k,putA R.n tm o.dst v,R⟩
 | []=>none
def zcw(l:Nat)(k:List mE)(tm:Tm)(R:wK)(_:zA):Option lB:=some ⟨.endRange l::k,tm,R⟩
def zcx(k:List mE)(tm:Tm)(R:wK)(_:zA):Option lB:=some ⟨k,tm,R⟩
def zi4(_:List mE)(_:Tm)(_:wK)(_:zA):Option lB:=none
def Ry:mE->List mE->Tm->wK->zA->Option lB
 | .ops all rest=>zfp all rest
 | .reg all old olds stages=>Zs all old olds stages
 | .inRange l=>zcw l
 | .beginRound=>zcx
 | _=>zi4
def fH(fr:lB)(v:zA):Option lB:=
 match fr.todo with
 | []=>none
 | x::k=>bif fr.R.mode.running then Ry x k fr.tm fr.R v else none
def rK(C:oA)(f:Nat)(args:List zA)(deferred:Bool):Option lB:=
 ob (C.fns.get f) fun fn=>ob fn.body fun c=>ob (C.ks.get f) fun k=>xB (Nat.ble (zB args) k&&Nat.ble (zB args) fn.ntmps) (some ⟨[.code c],⟨k,Tr.ofList args,[]⟩,⟨f,fn.ntmps,[],.run,deferred,none⟩⟩)
def fY(n:Nat):List Nat->List zA->Tm->Option (Tm)
 | [],[],tm=>some tm
 | p::ps,a::as,tm=>fY n ps as (putA n tm (some p) a)
 | _,_,_=>none
def Uh:List Operand->List Nat
 | []=>[]
 | .tmp t::l=>t::Uh l
 | _::l=>Uh l
def bH(o:Op):List Nat:=Uh o.operands.toList
def nF(i:Nat):List (Nat × List Nat)->List Nat
 | []=>[]
 | x::r=>bif Nat.beq i x.1 then x.2 else nF i r
def same:Nat->zA->zA->Bool
 | _,.bool a,.bool b=>bEq a b
 | _,.int j a,.int k b=>uN j k&&tC a b
 | _,.str a,.str b=>qG a b
 | _,.nilptr,.nilptr=>true
 | _,.ptr a b,.ptr c d=>Nat.beq a c&&Nat.beq b d
 | _,.nilslice,.nilslice=>true
 | _,.slice a b c d,.slice e f g h=>Nat.beq a e&&Nat.beq b f&&Nat.beq c g&&Nat.beq d h
 | _,.nilmap,.nilmap=>true
 | _,.map a,.map b=>Nat.beq a b
 | _,.nilfunc,.nilfunc=>true
 | _,.niliface,.niliface=>true
 | d+1,.agg a,.agg b=>sames d a b
 | d+1,.tup a,.tup b=>sames d a b
 | _,_,_=>false
where
 sames (d:Nat):List zA->List zA->Bool
  | [],[]=>true
  | a::x,b::y=>same d a b&&sames d x y
  | _,_=>false
def eR(C:oA)(H:xA)(all:Array Oper)(n:Nat)(old:Tm)(olds:List (Nat × List Nat)):List Nat->Tm->Option (Tm)
 | [],tm=>some tm
 | i::l,tm=>ob (sD all.toList i) fun o=>ob (wG o.guard all tm) fun w=>ob (bif w then(cF o.op).f C (.mixed tm old (nF i olds) (bH o.op)) H else some dD) fun v=>
   eR C H all n old olds l (putA n tm o.dst v)
def Cp(C:oA)(H:xA)(all:Array Oper)(old:Tm)(olds:List (Nat × List Nat))(tm:Tm):List Nat->Bool
 | []=>true
 | i::l=>match (ob (sD all.toList i) fun o=>ob o.dst fun d=>ob (wG o.guard all tm) fun w=>bif w then(ob ((cF o.op).f C (.mixed tm old (nF i olds) (bH o.op)) H) fun v=>ob (tm.get d) fun u=>some (same 10 v u))else some true)with
  | some true=>Cp C H all old olds tm l
  | _=>false
def aU.chain:aU->Option (List Cx) | .panicking c=>some c | _=>none
def Ie:List Oper->Tr zA->Tr zA
 | [],t=>t
 | o::l,t=>match o.dst with
  | some j=>Ie l (t.del j)
  | none=>Ie l t
def Lp(todo:List mE)(tm:Tm):Tm:=
 match todo with
 | .reg all _ _ _::_=>⟨tm.k,Ie all.toList tm.v,[]⟩
 | _=>tm
def nV(fr:lB)(l:List Cx):lB:=
 ⟨[],Lp fr.todo fr.tm,⟨fr.R.fn,fr.R.n,fr.R.defers,.panicking (match fr.R.mode.chain with | some c=>fD l c | none=>l),fr.R.deferred,fr.R.roundOf⟩⟩
def lL(x:Option wR)(why:Nat):xG:=
 match x with
 | some s=>.next s
 | none=>.fail why
def wJ(H:xA)(l:Nat):Option xN:=xB (Nat.ble (nat_lit 256) l) (ob (H.t.get l) vA.asLoop)
def mW(H:xA)(l:Nat):Option (Option (List gH)):=xB (Nat.ble (nat_lit 256) l) (ob (H.t.get l) vA.asDeferred)
def Ea (v:zA)(H':xA)(_:oA)(fr:lB)(cs:List lB)(_:xA):xG:=lL (ob (fH fr v) fun fr=>some ⟨fr,cs,H'⟩) 1
def Kw(f:Nat)(args:List zA)(C:oA)(fr:lB)(cs:List lB)(H:xA):xG:=lL (ob (rK C f args false) fun g=>some ⟨g,fr::cs,H⟩) 2
def Ku(l:Nat)(args:List zA)(_:oA)(fr:lB)(cs:List lB)(H:xA):xG:=
 lL (ob (wJ H l) fun r=>ob (fY r.n r.params args r.tm) fun tm=>some ⟨⟨[.code r.assign,.beginRound,.code r.body],tm,⟨r.fn,r.n,[],.run,false,some l⟩⟩,fr::cs,H⟩) 3
def Wz(d:gH)(_:oA)(fr:lB)(cs:List lB)(H:xA):xG:=
 lL (match fr.R.roundOf with
  | none=>ob (fH fr dD) fun g=>some ⟨⟨g.todo,g.tm,⟨g.R.fn,g.R.n,d::g.R.defers,g.R.mode,g.R.deferred,g.R.roundOf⟩⟩,cs,H⟩
  | some _=>none) 4
def zep(v:zA)(_:oA)(fr:lB)(cs:List lB)(H:xA):xG:=.next ⟨nV fr [⟨v,false⟩],cs,H⟩
def Kv(_:oA)(fr:lB)(cs:List lB)(H:xA):xG:=
 lL (match fr.R.roundOf,fr.R.deferred,cs with
  | none,true,c::rest=>match c.R.mode with
   | .panicking (⟨v,false⟩::older)=>ob (fH fr v) fun fr=>some ⟨fr,⟨c.todo,c.tm,⟨c.R.fn,c.R.n,c.R.defers,.panicking (⟨v,true⟩::older),c.R.deferred,c.R.roundOf⟩⟩::rest,H⟩
   | .panicking _=>none
   | _=>ob (fH fr .niliface) fun fr=>some ⟨fr,cs,H⟩
  | _,_,_=>none) 5
def rFail(_:oA)(_:lB)(_:List lB)(_:xA):xG:=.fail 6
def Iq:oK->oA->lB->List lB->xA->xG
 | .val v H'=>Ea v H'
 | .enter f args=>Kw f args
 | .round l args=>Ku l args
 | .defer d=>Wz d
 | .panic v=>zep v
 | .recover=>Kv
 | .fail=>rFail
def tR(C:oA)(H:xA)(tm:Tm):ResultVar->Option zA
 | .tmp t=>tm.get t
 | .cell a t=>ob (ob (tm.get a) zA.asPtr) fun p=>ob (C.tys.get t) fun ty=>ob (qE H p.1) fun c=>fR ty c.1 p.2
def aT(C:oA)(H:xA)(tm:Tm)(l:List ResultVar):Option (List zA):=kH (tR C H tm) l
def Wp(jump:Option Code):Bool:=
 match jump with
 | none=>true
 | some .ret=>true
 | _=>false
def eY(fr:lB)(m:aU):lB:=⟨fr.todo,fr.tm,⟨fr.R.fn,fr.R.n,fr.R.defers,m,fr.R.deferred,fr.R.roundOf⟩⟩
def bS(jump:Option Code)(_:oA)(fr:lB)(cs:List lB)(H:xA):xG:=
 lL (match fr.R.roundOf with
  | none=>xB (Wp jump) (some ⟨eY fr .returning,cs,H⟩)
  | some l=>ob (wJ H l) fun r=>match cs with
   | c::rest=>xB (!fr.R.deferred) <| ob (fH c (.bool jump.isNone)) fun c=>some ⟨c,rest,setBlk H l (.loop ⟨if jump.isNone then .ready else .done,jump,r.fn,r.n,r.tm,r.params,r.assign,r.body,r.defers⟩)⟩
   | []=>none) 7
abbrev oN:=oA->List mE->Tm->wK->List lB->xA->xG
structure XB where f:oN
def xGo (todo:List mE)(tm:Tm)(R:wK)(cs:List lB)(H:xA):xG:=.next ⟨⟨todo,tm,R⟩,cs,H⟩
def Cz:oN:=fun _ k tm R cs H=>xGo k tm R cs H
def Jg(c:Operand)(x y:Code):oN:=fun _ k tm R cs H=>
 match ob (ev c (.now tm)) zA.asBool with
 | some b=>xGo (.code (bif b then x else y)::k) tm R cs H
 | none=>.fail 8
def zdo(id:Nat)(c:Code):oN:=fun _ k tm R cs H=>xGo (.code c::.inBlock id::k) tm R cs H
def zf7(c:Code):oN:=fun _ k tm R cs H=>xGo (.code c::.inLoop c::k) tm R cs H
def xScope(c:Code):oN:=fun _ k tm R cs H=>xGo (.code c::.inScope c::k) tm R cs H
def As(id:Nat):oN:=fun C k tm R cs H=>
 match xT id k with
 | some k'=>xGo k' tm R cs H
 | none=>bS (some (.exit id)) C ⟨.code (.exit id)::k,tm,R⟩ cs H
def xRet:oN:=fun C k tm R cs H=>bS (some .ret) C ⟨.code .ret::k,tm,R⟩ cs H
def zf8:oN:=fun _ _ _ _ _ _=>.fail 9
def Fs(e:Edge):Bool:=
 match e.ground with
 | .textOnly _=>false
 | .gcOnly _=>false
 | _=>true
def tb (m i:Nat):Bool:=Nat.beq (Nat.mod (Nat.shiftRight m i) (nat_lit 2)) (nat_lit 1)
def Al(i:Nat):Nat:=Nat.shiftLeft (nat_lit 1) i
def mJ (t:Tr Nat)(i:Nat):Nat:=
 match t.get i with
 | some m=>m
 | none=>0
def Hh(t:Tr Nat):List Edge->Nat
 | []=>0
 | e::l=>bif Fs e then Nat.lor (Nat.lor (Al e.on) (mJ t e.on)) (Hh t l)else Hh t l
def zjy:List Oper->Nat->Tr Nat->Tr Nat
 | [],_,t=>t
 | o::r,i,t=>zjy r (i+1) (t.set i (Hh t o.after.toList))
def Qg:List Oper->Nat->Bool
 | [],_=>true
 | o::r,i=>bif fB (fun e=>bif Fs e then Nat.blt e.on i else true) o.after.toList then Qg r (i+1)else false
def Gd:List Oper->Nat->Tr Nat->Option (Tr Nat)
 | [],_,t=>some t
 | o::r,i,t=>match o.dst with
  | none=>Gd r (i+1) t
  | some d=>match t.get d with
   | none=>Gd r (i+1) (t.set d i)
   | some _=>none
def sE{α:Type}:Option α->Bool | none=>true | some _=>false
def Xn(wr anc:Tr Nat)(i:Nat)(olds:List Nat)(t:Nat):Bool:=
 match wr.get t with
 | none=>true
 | some j=>bif aH t olds then(bif Nat.beq j i then true else tb (mJ anc j) i)else tb (mJ anc i) j
def Xo(anc:Nat):Option (Nat × Bool)->Bool
 | none=>true
 | some g=>tb anc g.1
def Qe(wr anc:Tr Nat)(olds:List (Nat × List Nat)):List Oper->Nat->Bool
 | [],_=>true
 | o::r,i=>bif Xo (mJ anc i) o.guard then(bif fB (Xn wr anc i (nF i olds)) (bH o.op)then Qe wr anc olds r (i+1)else false)else false
def zU:Op->Bool
 | .move _=>true
 | .assign _=>true
 | .pick _ _ _=>true
 | .nilCheck _=>true
 | .binOp _ _ _ _ _=>true
 | .unOp _ _ _=>true
 | .makeInterface _ _=>true
 | .makeFunc _ _ _=>true
 | .fieldAddr _ _ _=>true
 | .field _ _ _=>true
 | .indexAddr _ _ _=>true
 | .index _ _ _=>true
 | .extract _ _=>true
 | .build _ _=>true
 | .typeAssert _ _ _ _=>true
 | _=>false
def kY (D:Nat)(o:Oper):Bool:=fB (fun e=>bif Fs e then tb D e.on else true) o.after.toList
def Qf(h D:Nat):List Oper->Nat->Bool
 | [],_=>true
 | o::r,i=>bif (bif tb D i then true else bif Nat.beq i h then true else !kY D o)then Qf h D r (i+1)else false
def jL:Op->Bool
 | .alloc _=>true
 | .box _ _=>true
 | .buildSlice _ _ _=>true
 | _=>false
def Qj(m D:Nat)(again:List Nat):List Oper->Nat->Bool
 | [],_=>true
 | o::r,i=>bif (bif tb D i then(bif tb m i then true else bif zU o.op then true else bif jL o.op then true else aH i again)else true)then Qj m D again r (i+1)else false
def iX(ops:List Oper)(i D:Nat):Option Nat:=
 ob (sD ops i) fun o=>xB (bif tb D i then false else kY D o) (some (Nat.lor D (Al i)))
def rQ(ops:List Oper):List Nat->Nat->Option Nat
 | [],D=>some D
 | i::l,D=>ob (iX ops i D) fun D=>rQ ops l D
def Qh(D:Nat):List Oper->Nat->Bool
 | [],_=>true
 | _::r,i=>bif tb D i then Qh D r (i+1)else false
def zit:Option Oper->Bool
 | some o=>jL o.op
 | none=>false
def okG (ops:List Oper)(D:Nat):List Nat->Nat->Option Nat
 | [],E=>some E
 | i::l,E=>ob (sD ops i) fun o=>xB (!tb E i&&kY D o&&sE o.dst) (okG ops D l (Nat.lor E (Al i)))
def Qc(anc:Tr Nat)(D1:Nat)(G:List Nat):List Oper->Nat->Bool
 | [],_=>true
 | o::r,i=>bif (bif tb D1 i then true else bif fB (fun g=>tb (mJ anc i) g) G then true else !kY D1 o)then Qc anc D1 G r (i+1)else false
def Lz(o:Op):Bool:=
 match o with
 | .call c=>(match c.callee with
  | .builtin .len=>true
  | _=>false)
 | _=>false
def Qi(anc:Tr Nat)(D:Nat)(G:List Nat):List Oper->Nat->Bool
 | [],_=>true
 | o::r,i=>bif (bif tb D i then(bif zU o.op then true else bif jL o.op then true else bif Lz o.op then true else fB (fun g=>tb (mJ anc g) i) G)else true)then Qi anc D G r (i+1)else false
def FZ(ops:List Oper)(anc:Tr Nat)(D:Nat)(st:gG):Option Nat:=
 ob (okG ops D st.again D) fun D1=>xB (Qc anc D1 st.again ops 0&&Qi anc D st.again ops 0) (rQ ops st.lights D1)
def cJ(ops:List Oper)(anc:Tr Nat):List gG->Nat->Bool
 | [],D=>Qh D ops 0
 | st::r,D=>bif Nat.blt (zB ops) st.heavy then(bif Nat.blt (zB ops+zB ops) st.heavy then(match FZ ops anc D st with
   | some D=>cJ ops anc r D
   | none=>false)else bif zit (sD ops (Nat.sub st.heavy (Nat.succ (zB ops))))then
   (match ob (iX ops (Nat.sub st.heavy (Nat.succ (zB ops))) D) fun D=>rQ ops st.lights D with
   | some D=>cJ ops anc r D
   | none=>false)else false)else bif Qf st.heavy D ops 0 then(bif Qj (mJ anc st.heavy) D st.again ops 0 then
   (match ob (iX ops st.heavy D) fun D=>rQ ops st.lights D with
   | some D=>cJ ops anc r D
   | none=>false)else false)else false
def Xm(ops:List Oper)(p:Plan):Bool:=
 bif Qg ops 0 then
  (match Gd ops 0 .leaf with
  | none=>false
  | some wr=>
   (fun anc=>bif Qe wr anc p.olds ops 0 then(match rQ ops p.first 0 with
    | some D=>cJ ops anc p.stages D
    | none=>false)else false) (zjy ops 0 .leaf))else false
structure OkB where b:Bool
def xU(all:Array Oper)(p:Plan):Bool:=(OkB.mk (Xm all.toList p)).b
def Jf(id:Nat)(all:Array Oper):oN:=fun C k tm R cs H=>
 lL (ob (ob (C.plans.get R.fn) fun t=>t.get id) fun p=>xB (xU all p) <| ob (eR C H all R.n tm.cut p.olds p.first tm.cut) fun tm'=>some ⟨⟨.reg all tm.cut p.olds p.stages::k,tm',R⟩,cs,H⟩) 10
def oK.asVal:oK->Option (zA × xA) | .val v H=>some (v,H) | _=>none
def yM(C:oA)(all:Array Oper)(k:List mE)(R:wK)(cs:List lB)(l:List Oper):Tm->xA->xG:=
 List.rec (motive:=fun _=>Tm->xA->xG) (fun tm H=>xGo k tm R cs H)
  (fun o rest g tm H=>
   match wG o.guard all tm with
   | some w=>Bool.rec (motive:=fun _=>xG) (g (putA R.n tm o.dst dD) H)
     (let r:=(bE o.op).f C (.now tm) H
     match r.asVal with
     | some p=>g (putA R.n tm o.dst p.1) p.2
     | none=>Iq r C ⟨.ops all (o::rest)::k,tm,R⟩ cs H) w
   | none=>.fail 20) l
def xOps (all:Array Oper)(rest:List Oper):oN:=fun C k tm R cs H=>yM C all k R cs rest tm H
def zf6(id:Nat)(all:Array Oper)(draw:Bool):XB:=
 match draw with
 | true=>⟨Jf id all⟩
 | false=>⟨fun C k tm R cs H=>yM C all k R cs all.toList tm.cut H⟩
def Nr(all:Array Oper)(old:Tm)(olds:List (Nat × List Nat))(st:gG)(stages:List gG)(o:Oper):oN:=fun C k tm R cs H=>
 match wG o.guard all tm with
 | some w=>Iq (bif w then(bE o.op).f C (.mixed tm old (nF st.heavy olds) (bH o.op)) H else .val dD H) C ⟨.reg all old olds (st::stages)::k,tm,R⟩ cs H
 | none=>.fail 21
def Jd(all:Array Oper)(old:Tm)(olds:List (Nat × List Nat))(st:gG)(stages:List gG):oN:=fun C k tm R cs H=>
 lL (xB (Cp C H all old olds tm st.again) (ob (eR C H all R.n old olds st.lights tm) fun tm=>some ⟨⟨.reg all old olds stages::k,tm,R⟩,cs,H⟩)) 11
def Nt(all:Array Oper)(old:Tm)(olds:List (Nat × List Nat))(st:gG)(stages:List gG)(i:Nat):oN:=fun C k tm R cs H=>
 lL (ob (sD all.toList i) fun o=>ob (wG o.guard all tm) fun w=>xB (w&&sE (oZ C o.op)) (ob ((bE o.op).f C (.mixed tm old (nF i olds) (bH o.op)) H).asVal fun p=>
  ob (eR C p.2 all R.n old olds st.lights (putA R.n tm o.dst p.1)) fun tm'=>some ⟨⟨.reg all old olds stages::k,tm',R⟩,cs,p.2⟩)) 23
inductive mN where
 | store (t:Nat) (a v:zA)
 | upd (t:Nat) (m k v:zA)
inductive RE where
 | st (b off:Nat) (l:List zA)
 | up (b:Nat) (k v:zA)
def Ab(op:Op)(e:vD):Option mN:=
 match op with
 | .store t a x=>ob (ev a e) fun a=>ob (ev x e) fun v=>some (.store t a v)
 | .mapUpdate t m k x=>ob (ev m e) fun m=>ob (ev k e) fun k=>ob (ev x e) fun v=>some (.upd t m k v)
 | .insert t m k x=>ob (ev m e) fun m=>ob (ev k e) fun k=>ob (ev x e) fun v=>some (.upd t m k v)
 | _=>none
def oV (C:oA)(e:mN):Option RE:=
 match e with
 | .store t a v=>ob (C.tys.get t) fun ty=>ob a.asPtr fun p=>xB (Nat.beq (zB v.cells) ty.size) (some (.st p.1 p.2 v.cells))
 | .upd t m k v=>ob (C.tys.get t) fun ty=>ob ty.desc.asMap fun ke=>ob (C.tys.get ke.1) fun kty=>xB (qU C kty&&dR C kty k) (ob m.asMap fun b=>some (.up b k v))
def RE.blk:RE->Nat
 | .st b _ _=>b
 | .up b _ _=>b
def GI(a b:zA):Bool:=
 match lI a b with
 | some r => !r
 | none=>false
def AW(a b:RE):Bool:=bif Nat.beq a.blk b.blk then(match a with
 | .st _ _ _=>false
 | .up _ k _=>(match b with
  | .st _ _ _=>false
  | .up _ k' _=>GI k k'))else true
def Te:List RE->Bool
 | []=>true
 | a::l=>fB (AW a) l&&Te l
def Ao(C:oA)(H:xA)(e:RE):Option xA:=
 match e with
 | .st b off l=>yJ C H b off l
 | .up b k v=>xB (!Nat.blt b C.base) (ob (yL H b) fun m=>some (setBlk H b (.map (fD m [(k,v)]))))
def Gy(C:oA)(H:xA)(e:RE):Bool:=
 match e with
 | .st b off l => !sE (yJ C H b off l)
 | .up b _ _ => !Nat.blt b C.base&&(match yL H b with
  | some []=>true
  | _=>false)
def Fv(C:oA):List RE->xA->Option xA
 | [],H=>some H
 | e::l,H=>ob (Ao C H e) fun H=>Fv C l H
def eZ(C:oA)(es:List mN)(H:xA):Option xA:=ob (kH (oV C) es) fun rs=>xB (Te rs&&fB (Gy C H) rs) (Fv C rs H)
def yY(all:Array Oper)(old:Tm)(olds:List (Nat × List Nat))(tm:Tm)(i:Nat):Option mN:=
 ob (sD all.toList i) fun o=>ob (wG o.guard all tm) fun w=>xB w (Ab o.op (.mixed tm old (nF i olds) (bH o.op)))
def Re(C:oA)(o:Oper):Bool:=
 match o.op with
 | .call c=>(match c.callee with
  | .builtin .len=>(match ob (sD c.argTypes.toList 0) fun t=>C.tys.get t with
   | some ty => !Nat.beq ty.desc.tag 6
   | none=>false)
  | _=>true)
 | _=>true
def fX(C:oA)(all:Array Oper):Bool:=fB (Re C) all.toList
def Ic(all:Array Oper)(old:Tm)(olds:List (Nat × List Nat))(tm:Tm)(l:List Nat):Option (List mN):=kH (yY all old olds tm) l
def Ns(all:Array Oper)(old:Tm)(olds:List (Nat × List Nat))(st:gG)(stages:List gG):oN:=fun C k tm R cs H=>
 lL (xB (fX C all) (ob (Ic all old olds tm st.again) fun es=>ob (eZ C es H) fun H'=>ob (eR C H' all R.n old olds st.lights tm) fun tm'=>some ⟨⟨.reg all old olds stages::k,tm',R⟩,cs,H'⟩)) 24
def lS (all:Array Oper)(old:Tm)(olds:List (Nat × List Nat))(stages:List gG):oN:=
 match stages with
 | []=>Cz
 | st::stages=>match sD all.toList st.heavy with
  | some o=>Nr all old olds st stages o
  | none=>bif Nat.blt (zB all.toList) st.heavy then(bif Nat.blt (zB all.toList+zB all.toList) st.heavy then Ns all old olds st stages else Nt all old olds st stages (Nat.sub st.heavy (Nat.succ (zB all.toList))))else Jd all old olds st stages
def aY(C:oA)(l:Nat)(f:zA):Option lB:=
 ob f.asFunc fun p=>match p.1 with
  | .func g=>match C.prims.get g with
   | none=>rK C g (fD p.2.1 (.func (.yld l) [] []::p.2.2)) false
   | some _=>none
  | .yld _=>none
def Jc(f:Operand)(params:Array Nat)(assign body:Code):oN:=fun C k tm R cs H=>
 lL (ob (ev f (.now tm)) fun v=>match R.roundOf with
  | none=>
   let r:=H.next
   let l:=r+1
   ob (aY C l v) fun h=>
    some ⟨h,⟨.inRange l::k,tm,⟨R.fn,R.n,⟨none,r,[]⟩::R.defers,R.mode,R.deferred,R.roundOf⟩⟩::cs,
     newBlk (newBlk H (.deferred (some []))) (.loop ⟨.ready,none,R.fn,R.n,tm,params.toList,assign,body,r⟩)⟩
  | some outer=>ob (wJ H outer) fun o=>
   let l:=H.next
   ob (aY C l v) fun h=>
    some ⟨h,⟨.inRange l::k,tm,R⟩::cs,newBlk H (.loop ⟨.ready,none,R.fn,R.n,tm,params.toList,assign,body,o.defers⟩)⟩) 12
def LoopState.tag:LoopState->Nat | .ready=>0 | .busy=>1 | .done=>2 | .exhausted=>3
def Jh:oN:=fun _ k tm R cs H=>
 lL (ob R.roundOf fun l=>ob (wJ H l) fun r=>xB (Nat.beq (LoopState.tag r.state) 0)
  (some ⟨⟨k,tm,R⟩,cs,setBlk H l (.loop ⟨.busy,r.pending,r.fn,r.n,r.tm,r.params,r.assign,r.body,r.defers⟩)⟩)) 13
def Je(l:Nat):oN:=fun _ k tm R cs H=>
 lL (ob (wJ H l) fun r=>xB (!Nat.beq (LoopState.tag r.state) 1)
  (some ⟨⟨(match r.pending with | some c=>.code c::k | none=>k),tm,R⟩,cs,setBlk H l (.loop ⟨.exhausted,r.pending,r.fn,r.n,r.tm,r.params,r.assign,r.body,r.defers⟩)⟩)) 14
def zf9:Code->XB
 | .skip=>⟨Cz⟩
 | .region id ops d=>zf6 id ops d
 | .seq a b=>⟨fun C k tm R cs H=>(zf9 a).f C (.code b::k) tm R cs H⟩
 | .cond c x y=>⟨Jg c x y⟩
 | .block id c=>⟨zdo id c⟩
 | .loop c=>⟨zf7 c⟩
 | .rangeFunc f ps a b=>⟨Jc f ps a b⟩
 | .exit id=>⟨As id⟩
 | .scope c=>⟨xScope c⟩
 | .label _=>⟨Cz⟩
 | .goto _=>⟨zf8⟩
 | .ret=>⟨xRet⟩
 | .refuse _=>⟨zf8⟩
def xItem:mE->XB
 | .code c=>zf9 c
 | .inBlock _=>⟨Cz⟩
 | .inLoop c=>⟨zf7 c⟩
 | .inScope _=>⟨Cz⟩
 | .ops all rest=>⟨xOps all rest⟩
 | .reg all old olds stages=>⟨lS all old olds stages⟩
 | .inRange _=>⟨zf8⟩
 | .endRange l=>⟨Je l⟩
 | .beginRound=>⟨Jh⟩
def wS(C:oA)(todo:List mE)(tm:Tm)(R:wK)(cs:List lB)(H:xA):xG:=
 match todo with
 | []=>bS none C ⟨[],tm,R⟩ cs H
 | x::k=>(xItem x).f C k tm R cs H
def EE(fr:lB)(d:List gH):lB:=⟨fr.todo,fr.tm,⟨fr.R.fn,fr.R.n,d,fr.R.mode,fr.R.deferred,fr.R.roundOf⟩⟩
def Dj(C:oA)(d:gH)(ds:List gH)(fr:lB)(cs:List lB)(H:xA):xG:=
 lL (match d.fn with
  | none=>ob (mW H d.r) fun l=>ob l fun l=>some ⟨EE fr (fD l ds),cs,setBlk H d.r (.deferred none)⟩
  | some (.func f)=>match C.prims.get f with
   | none=>ob (rK C f d.args true) fun g=>some ⟨g,EE fr ds::cs,H⟩
   | some _=>none
  | some (.yld _)=>none) 15
def Dk(l:List zA):zA:=
 match l with
 | [v]=>v
 | l=>.tup l
def Di(C:oA)(fr:lB)(cs:List lB)(H:xA):xG:=
 match ob (C.fns.get fr.R.fn) fun fn=>aT C H fr.tm fn.results.toList with
 | none=>.fail 16
 | some l=>
  match cs with
  | []=>bif fr.R.deferred then .fail 17 else bif Nat.beq fr.R.fn C.root then .done (Dk l) H else .fail 22
  | c::rest=>lL (bif fr.R.deferred then
    (match c.R.mode with
    | .panicking (⟨_,true⟩::_)=>some ⟨eY c .returning,rest,H⟩
    | _=>xB (!c.R.mode.running) (some ⟨c,rest,H⟩))
   else ob (fH c (Dk l)) fun c=>some ⟨c,rest,H⟩) 18
def Ob(C:oA)(fr:lB)(cs:List lB)(H:xA):xG:=
 match fr.R.defers with
 | d::ds=>Dj C d ds fr cs H
 | []=>match fr.R.mode.chain with
  | some chain=>lL (ob (C.fns.get fr.R.fn) fun _=>match cs with | c::rest=>some ⟨nV c chain,rest,H⟩ | []=>none) 19
  | none=>Di C fr cs H
def stepA(C:oA)(s:wR):xG:=
 match s with
 | ⟨⟨todo,tm,R⟩,cs,H⟩=>bif R.mode.running then wS C todo tm R cs H else Ob C ⟨todo,tm,R⟩ cs H
def cT(C:oA)(o:xG):xG:=
 match o with
 | .next s=>stepA C s
 | .done v H=>.done v H
 | .fail n=>.fail n
def Dw (C:oA)(n:Nat):xG->xG:=
 Nat.rec (motive:=fun _=>xG->xG) (fun o=>cT C o) (fun _ g o=>g (g o)) n
end Go.Am
namespace Go.Am
open Go
theorem tA{α β:Type}{x:Option α}{f:α->Option β}{b:β}:ob x f=some b ↔ ∃a,x=some a/\f a=some b:=by
 cases x with
 | none=>simp[ob]
 | some a=>exact⟨fun h=>⟨a,rfl,h⟩,fun⟨_,h,k⟩=>by cases h;exact k⟩
@[simp] theorem zhq {α β:Type} {f:α->Option β}:ob none f=none:=rfl
@[simp] theorem qA {α β:Type} {a:α} {f:α->Option β}:ob (some a) f=f a:=rfl
theorem wB{α:Type}{b:Bool}{x:Option α}{a:α}:xB b x=some a ↔ b=true/\x=some a:=by
 cases b with
 | false=>simp[xB]
 | true=>simp[xB]
theorem qK{α:Type}(a b:α)(c:Bool):(Bool.rec (motive:=fun _=>α) a b c:α)=if c=true then b else a:=by cases c<;>rfl
theorem mC{n m:Nat}:(Nat.beq n m=true) ↔ n=m:=⟨Nat.eq_of_beq_eq_true,fun h=>by simp_all⟩
theorem beqf{n m:Nat}:(Nat.beq n m=false) ↔ n≠m:=by
 rw[<- Bool.not_eq_true,mC]
theorem oE{n m:Nat}:(Nat.ble n m=true) ↔ n<=m:=Iff.of_eq Nat.ble_eq
theorem qC{n m:Nat}:(Nat.blt n m=true) ↔ n<m:=Iff.of_eq Nat.ble_eq
def qD{α:Type}(c:Bool)(a b:α):(bif c then a else b)=if c=true then a else b:=by cases c<;>rfl
namespace Tr
variable {α:Type}
theorem get_leaf(n:Nat):(leaf:Tr α).get n=none:=rfl
theorem get_node(l:Tr α)(v:Option α)(r:Tr α)(n:Nat) :
  (node l v r).get n=if n=0 then v else if n%2=1 then l.get (n / 2)else r.get (n / 2-1):=by
 show Bool.rec (motive:=fun _=>Option α) (Bool.rec (motive:=fun _=>Option α) (r.get (n / 2-1)) (l.get (n / 2)) (Nat.beq (n%2) 1)) v (Nat.beq n 0)=_
 grind [qK,mC]
theorem Qo(f n:Nat)(v:α):mk (f+1) n v=if n=0 then node leaf (some v) leaf else if n%2=1 then node (mk f (n / 2) v) none leaf else node leaf none (mk f (n / 2-1) v):=by
 show Bool.rec (motive:=fun _=>Tr α) (Bool.rec (motive:=fun _=>Tr α) (node leaf none (mk f (n / 2-1) v)) (node (mk f (n / 2) v) none leaf) (Nat.beq (n%2) 1)) (node leaf (some v) leaf) (Nat.beq n 0)=_
 grind [qK,mC]
def Pc(n:Nat)(v:α):(leaf:Tr α).set n v=mk (n+1) n v:=rfl
theorem cH(l:Tr α)(x:Option α)(r:Tr α)(n:Nat)(v:α) :
  (node l x r).set n v=if n=0 then node l (some v) r else if n%2=1 then node (l.set (n / 2) v) x r else node l x (r.set (n / 2-1) v):=by
 show Bool.rec (motive:=fun _=>Tr α) (Bool.rec (motive:=fun _=>Tr α) (node l x (r.set (n / 2-1) v)) (node (l.set (n / 2) v) x r) (Nat.beq (n%2) 1)) (node l (some v) r) (Nat.beq n 0)=_
 grind [qK,mC]
theorem zc3(l:Tr α)(x:Option α)(r:Tr α)(n:Nat) :
  (node l x r).del n=if n=0 then node l none r else if n%2=1 then node (l.del (n / 2)) x r else node l x (r.del (n / 2-1)):=by
 show Bool.rec (motive:=fun _=>Tr α) (Bool.rec (motive:=fun _=>Tr α) (node l x (r.del (n / 2-1))) (node (l.del (n / 2)) x r) (Nat.beq (n%2) 1)) (node l none r) (Nat.beq n 0)=_
 grind [qK,mC]
theorem get_mk(f:Nat):∀(n m:Nat) (v:α),n<f->(mk f n v).get m=if m=n then some v else none:=by
 induction f with
 | zero=>omega
 | succ f ih=>
  grind [Qo,get_node,get_leaf]
theorem get_set(t:Tr α):∀(n m:Nat) (v:α),(t.set n v).get m=if m=n then some v else t.get m:=by
 induction t with
 | leaf=>intro n m v;rw[Pc,get_mk _ _ _ _ (by omega),get_leaf]
 | node l x r ihl ihr=>
  grind [cH,get_node]
def zes:∀(f g n:Nat) (v:α),n<f->n<g->mk f n v=mk g n v:=by
 intro f;induction f with
 | zero=>omega
 | succ f ih=>
  intro g n v h1 h2
  cases g with
  | zero=>omega
  | succ g=>
   rw[Qo,Qo];split
   ·rfl
   ·split
    ·rw[ih g _ v (by omega) (by omega)]
    ·rw[ih g _ v (by omega) (by omega)]
def DZ(n:Nat)(v:α):(leaf:Tr α).set n v=if n=0 then node leaf (some v) leaf else if n%2=1 then node (leaf.set (n / 2) v) none leaf else node leaf none (leaf.set (n / 2-1) v):=by
 rw[Pc,Qo];split
 ·rfl
 ·split
  ·rw[Pc,zes n (n / 2+1) _ v (by omega) (by omega)]
  ·rw[Pc,zes n (n / 2-1+1) _ v (by omega) (by omega)]
def QL:∀(s n m:Nat) (x y:α),n+m<=s->n≠m->((leaf:Tr α).set n x).set m y=((leaf:Tr α).set m y).set n x:=by
 intro s;induction s with
 | zero=>omega
 | succ s ih=>
  intro n m x y hs hne;rw[DZ n x,DZ m y];by_cases h1:n=0
  ·have h2:m≠0:=by omega
   rw[yab h1,yaa h2,cH,yaa h2];split
   ·rw[cH,yab h1]
   ·rw[cH,yab h1]
  ·rw[yaa h1]
   by_cases h2:m=0
   ·rw[yab h2]
    split
    ·rw[cH,yab h2,cH,yaa h1];rename_i h;rw[yab h]
    ·rw[cH,yab h2,cH,yaa h1];rename_i h;rw[yaa h]
   ·rw[yaa h2]
    by_cases h3:n%2=1<;>by_cases h4:m%2=1
    ·rw[yab h3,yab h4,cH,yaa h2,yab h4,cH,yaa h1,yab h3,ih _ _ x y (by omega) (by omega)]
    ·rw[yab h3,yaa h4,cH,yaa h2,yaa h4,cH,yaa h1,yab h3]
    ·rw[yaa h3,yab h4,cH,yaa h2,yab h4,cH,yaa h1,yaa h3]
    ·rw[yaa h3,yaa h4,cH,yaa h2,yaa h4,cH,yaa h1,yaa h3,ih _ _ x y (by omega) (by omega)]
def set_comm(t:Tr α):∀(n m:Nat) (x y:α),n≠m->(t.set n x).set m y=(t.set m y).set n x:=by
 induction t with
 | leaf=>exact fun n m x y h=>QL (n+m) n m x y (ybk _) h
 | node l v r ihl ihr=>
  intro n m x y hne;rw[cH l v r n x,cH l v r m y];by_cases h1:n=0
  ·have h2:m≠0:=by omega
   rw[yab h1,yaa h2,cH,yaa h2];split
   ·rw[cH,yab h1]
   ·rw[cH,yab h1]
  ·rw[yaa h1]
   by_cases h2:m=0
   ·rw[yab h2]
    split
    ·rw[cH,yab h2,cH,yaa h1];rename_i h;rw[yab h]
    ·rw[cH,yab h2,cH,yaa h1];rename_i h;rw[yaa h]
   ·rw[yaa h2]
    by_cases h3:n%2=1<;>by_cases h4:m%2=1
    ·rw[yab h3,yab h4,cH,yaa h2,yab h4,cH,yaa h1,yab h3,ihl _ _ x y (by omega)]
    ·rw[yab h3,yaa h4,cH,yaa h2,yaa h4,cH,yaa h1,yab h3]
    ·rw[yaa h3,yab h4,cH,yaa h2,yab h4,cH,yaa h1,yaa h3]
    ·rw[yaa h3,yaa h4,cH,yaa h2,yaa h4,cH,yaa h1,yaa h3,ihr _ _ x y (by omega)]
theorem get_del(t:Tr α):∀(n m:Nat),(t.del n).get m=if m=n then none else t.get m:=by
 induction t with
 | leaf=>intro n m;show(leaf:Tr α).get m=_;rw[get_leaf];split<;>rfl
 | node l x r ihl ihr=>
  grind [zc3,get_node]
def many_succ(t:Tr α)(n i:Nat):t.many (n+1) i=ob (t.get i) fun v=>ob (t.many n (i+1)) fun l=>some (v::l):=rfl
theorem many_some(t:Tr α)(n:Nat):∀(i:Nat) (l:List α),t.many n i=some l->l.length=n/\∀j,j<n->t.get (i+j)=l[j]?:=by
 induction n with
 | zero=>intro i l h;cases h;simp_all
 | succ n ih=>
  intro i l h;rw[many_succ,tA]at h;obtain⟨v,hv,h⟩:=h
  rw[tA]at h;grind
theorem QP(v:α)(l:List α)(t:Tr α)(i:Nat):setMany (v::l) t i=setMany l (t.set i v) (i+1):=rfl
theorem get_setMany(l:List α):∀(t:Tr α) (i m:Nat),(setMany l t i).get m=if i<=m/\m<i+l.length then l[m-i]? else t.get m:=by
 induction l with
 | nil=>intro t i m;rw[yaa (by simp)];rfl
 | cons v l ih=>
  grind [QP,get_set]
theorem get_ofList(l:List α)(m:Nat):(ofList l).get m=l[m]?:=by
 grind [ofList,get_setMany,get_leaf]
end Tr
theorem xH{α:Type}(l:List α):∀n,sD l n=l[n]?:=by
 induction l with
 | nil=>intro n;rfl
 | cons a l ih=>
  intro n
  cases n with
  | zero=>rfl
  | succ n=>show sD l n=_;grind
theorem mP{α:Type}(l:List α):∀n,lQ l n=l.drop n:=by
 induction l with
 | nil=>intro n;simp;rfl
 | cons a l ih=>
  intro n
  cases n with
  | zero=>rfl
  | succ n=>show lQ l n=_;grind
theorem iR{α:Type}(l:List α):∀n,qZ l n=l.take n:=by
 induction l with
 | nil=>intro n;simp;rfl
 | cons a l ih=>
  intro n
  cases n with
  | zero=>rfl
  | succ n=>show a::qZ l n=_;grind
theorem oD{α:Type}(l:List α):zB l=l.length:=by
 induction l with
 | nil=>rfl
 | cons a l ih=>grind [zB]
theorem iG{α:Type}(l m:List α):fD l m=l++m:=by
 induction l with
 | nil=>rfl
 | cons a l ih=>grind [fD]
theorem jH{α:Type}(p:α->Bool)(l:List α):fB p l=l.all p:=by
 induction l with
 | nil=>rfl
 | cons a l ih=>show(bif p a then fB p l else false)=_;rw[ih];cases h:p a<;>simp[h]
theorem nQ{α β:Type}(f:α->Option β)(a:α)(l:List α):kH f (a::l)=ob (f a) fun b=>ob (kH f l) fun r=>some (b::r):=rfl
theorem Eo{α β:Type}(f:α->Option β):kH f []=some []:=rfl
theorem rZ(i:Nat)(l:List Nat):aH i l=true ↔ i∈l:=by
 induction l with
 | nil=>exact⟨fun h=>(by cases h),fun h=>(by cases h)⟩
 | cons j l ih=>
  grind [aH,mC]
theorem uM(a:List Nat):∀b,qG a b=true ↔ a=b:=by
 induction a with
 | nil=>intro b;cases b with
  | nil=>exact⟨fun _=>rfl,fun _=>rfl⟩
  | cons y b=>exact⟨fun h=>(by cases h),fun h=>(by cases h)⟩
 | cons x a ih=>
  intro b
  cases b with
  | nil=>exact⟨fun h=>(by cases h),fun h=>(by cases h)⟩
  | cons y b=>
   simp_all [qG]
theorem dO{a b:IntKind}:uN a b=true ↔ a=b:=by cases a<;>cases b<;>simp[uN,kIdx]
theorem fU(a b:Bool):bEq a b=(a == b):=by cases a<;>cases b<;>rfl
theorem gZ(a b:Int):tC a b=true ↔ a=b:=by
 cases a<;>cases b<;>simp only[tC,mC] <;> (try simp)<;>omega
theorem JP(a b:Int):bG a b=true ↔ a<=b:=by
 cases a<;>cases b<;>simp only[bG,oE] <;> (try simp)<;>omega
theorem Rn(a b:Int):iB a b=true ↔ a<b:=by
 cases a<;>cases b<;>simp only[iB,qC] <;> (try simp)<;>omega
theorem Ca(a b:Int):tC a b=(a == b):=by grind [gZ]
theorem zfn(a b:Int):bG a b=decide (a<=b):=by grind [JP]
theorem zfm(a b:Int):iB a b=decide (a<b):=by grind [Rn]
theorem wP(k:IntKind)(n:Int):cA k n=k.wrap n:=by
 cases n with
 | ofNat n=>
  show(bif Nat.blt n (cG k)then Int.ofNat n else _)=_
  rw[qD];by_cases h:Nat.blt n (cG k)=true
  ·rw[yab h]
   have h':=qC.1 h
   cases k<;>simp only[cG]at h'<;>simp only[IntKind.wrap,IntKind.bits,IntKind.signed]<;>simp<;>omega
  grind
 | negSucc n=>
  show(bif Nat.blt n (kLo k)then Int.negSucc n else _)=_
  rw[qD];by_cases h:Nat.blt n (kLo k)=true
  ·rw[yab h]
   have h':=qC.1 h
   cases k<;>simp only[kLo]at h'<;>simp only[IntKind.wrap,IntKind.bits,IntKind.signed]<;>simp<;>omega
  grind
theorem Li{n:Int}{m:Nat}:vN n=some m ↔ n=(m:Int):=by
 cases n with
 | ofNat a=>grind [vN]
 | negSucc a=>grind [vN]
end Go.Am
namespace Go.Am
open Go
variable {a b k v:zA}{r:Bool}{l l' m:List (zA × zA)}
theorem Hm  (h:jQ a b=some r) :
  (∃k x y,a=.int k x/\b=.int k y/\r=(x == y))\/(∃x y,a=.str x/\b=.str y/\r=qG x y)\/(∃x y,a=.bool x/\b=.bool y/\r=(x == y)):=by
 cases a<;>simp only[jQ,zA.asIntK,zA.asStr,Hz,zA.asBool]at h<;>try (cases h;done)
 case bool x=>
  rw[qA,tA]at h;grind [fU]
 all_goals grind [tA,wB,dO,Ca]
def IZ (h:jQ a b=some true):a=b:=by
 grind [Hm,uM]
def JA  (h:jQ a b=some r):jQ b a=some r:=by
 rcases Hm h with⟨k,x,y,rfl,rfl,hr⟩ | ⟨x,y,rfl,rfl,hr⟩ | ⟨x,y,rfl,rfl,hr⟩
 ·have e:tC y x=(x == y):=by grind [Ca]
  show xB (uN k k) (some (tC y x))=_
  grind [wB,dO]
 ·grind [jQ,zA.asIntK,zA.asStr,qA,uM]
 ·simp only[jQ,zA.asIntK,zA.asStr,Hz,zA.asBool,fU,qA,hr]
  rw[show(y == x)=(x == y) by cases x<;>cases y<;>rfl]
def IR:∀ {x y:List zA},tU x y=some true->x=y
 | [],[],_=>rfl
 | a::x,b::y,h=>by
  simp only[tU,tA]at h;obtain⟨r,hr,s,hs,h⟩:=h
  cases r<;>cases s<;>simp at h
  rw[IZ hr,IR hs]
 | [],_::_,h=>by cases h
 | _::_,[],h=>by cases h
def IS:∀ {x y:List zA} {r:Bool},tU x y=some r->tU y x=some r
 | [],[],_,h=>h
 | a::x,b::y,r,h=>by
  simp only[tU,tA]at h ⊢
  obtain⟨r1,hr,s,hs,h⟩:=h
  exact⟨r1,JA hr,s,IS hs,h⟩
 | [],_::_,_,h=>by cases h
 | _::_,[],_,h=>by cases h
def Lx  (h:lI a b=some r):(∃x y,a=.agg x/\b=.agg y/\tU x y=some r)\/(a.asAgg=none/\jQ a b=some r):=by
 unfold lI at h;split at h
 ·rename_i x hx
  rw[tA]at h;obtain⟨y,hy,h⟩:=h
  cases a<;>simp[zA.asAgg]at hx
  cases b<;>simp[zA.asAgg]at hy
  simp_all
 simp_all
def VA  (h:jQ a b=some r):lI a b=some r:=by
 rcases Hm h with⟨k,x,y,rfl,rfl,hr⟩ | ⟨x,y,rfl,rfl,hr⟩ | ⟨x,y,rfl,rfl,hr⟩<;>exact h
theorem IY (h:lI a b=some true):a=b:=by
 rcases Lx h with⟨x,y,rfl,rfl,h⟩ | ⟨_,h⟩
 ·rw[IR h]
 ·exact IZ h
theorem Lw  (h:lI a b=some r):lI b a=some r:=by
 rcases Lx h with⟨x,y,rfl,rfl,h⟩ | ⟨_,h⟩
 ·exact IS h
 ·exact VA (JA h)
def DK (l:List (zA × zA)):Prop:=l.Pairwise fun p q=>lI p.1 q.1=some false
def Iw(l l':List (zA × zA)):Prop:=l'=l\/(l.Perm l'/\DK l)
def DK.perm (h:DK l)(p:l.Perm l'):DK l':=(p.pairwise_iff (fun hab=>Lw hab)).1 h
theorem Zr{k:zA}:∀ {l:List (zA × zA)},zL k l=some none ↔ ∀e∈l,lI k e.1=some false
 | []=>by simp[zL]
 | e::l=>by
  rw[zL,tA];constructor
  ·rintro⟨r,hr,h⟩
   cases r with
   | true=>cases h
   | false=>
    rw[cond_false]at h;intro x hx;rcases ybs.1 hx with rfl | hx
    ·exact hr
    ·exact Zr.1 h x hx
  ·intro h
   exact⟨false,h e (.head _),Zr.2 fun x hx=>h x (.tail _ hx)⟩
def KH{k v:zA}:∀ {l:List (zA × zA)},zL k l=some (some v)->(k,v)∈l/\lI k k=some true
 | [],h=>by cases h
 | e::l,h=>by
  rw[zL,tA]at h;obtain⟨r,hr,h⟩:=h
  cases r with
  | true=>
   grind [IY]
  | false=>
   rw[cond_false]at h;obtain⟨h1,h2⟩:=KH h
   simp_all
def DK.split  (h:DK (l++(k,v)::m)):(∀e∈l,lI k e.1=some false)/\∀e∈m,lI k e.1=some false:=by
 unfold DK at h;rw[List.pairwise_append]at h;obtain⟨_,h2,h3⟩:=h
 rw[List.pairwise_cons]at h2;exact⟨fun e he=>Lw (h3 e he (k,v) (.head _)),fun e he=>h2.1 e he⟩
def WF  (h:∀e∈l,lI k e.1=some false):zL k (l++m)=zL k m:=by
 induction l with
 | nil=>rfl
 | cons e l ih=>
  grind [zL,qA]
def WG  {r:Option zA}(h:Iw l l')(hf:zL k l=some r):zL k l'=some r:=by
 rcases h with rfl | ⟨p,d⟩
 ·exact hf
 cases r with
 | none=>
  grind [Zr]
 | some v=>
  obtain⟨h1,h2⟩:=KH hf
  obtain⟨a,b,rfl⟩:=List.append_of_mem (p.mem_iff.1 h1)
  rw[WF (d.perm p).split.1,zL,h2,qA,cond_true]
def Wd{k v:zA}:∀ {l:List (zA × zA)},(∀e∈l,lI k e.1=some false)->fN k v l=some (l++[(k,v)])
 | [],_=>rfl
 | e::l,h=>by
  rw[fN,h e (.head _),qA,cond_false,Wd fun x hx=>h x (.tail _ hx)]
  rfl
def EC{k v u:zA}{m:List (zA × zA)}(hk:lI k k=some true):∀ {l:List (zA × zA)},(∀e∈l,lI k e.1=some false)->fN k v (l++(k,u)::m)=some (l++(k,v)::m)
 | [],_=>by simp_all [fN]
 | e::l,h=>by
  rw[List.cons_append,fN,h e (.head _),qA,cond_false,EC hk fun x hx=>h x (.tail _ hx)]
  rfl
def EA{k v:zA}:∀ {l r:List (zA × zA)},fN k v l=some r->((∀e∈l,lI k e.1=some false)/\r=l++[(k,v)])\/(lI k k=some true/\∃a u b,l=a++(k,u)::b/\r=a++(k,v)::b)
 | [],r,h=>by cases h;simp_all
 | e::l,r,h=>by
  rw[fN,tA]at h;obtain⟨q,hq,h⟩:=h
  cases q with
  | true=>
   rw[cond_true]at h
   cases h;have:=IY hq
   refine .inr ⟨by simp_all,[],e.2,l,?_,rfl⟩
   rw[yah,this]
  | false=>
   rw[cond_false,tA]at h;obtain⟨r',hr,h⟩:=h
   cases h;rcases EA hr with⟨h1,rfl⟩ | ⟨h0,a,u,b,rfl,rfl⟩
   all_goals grind
def QN {r:List (zA × zA)}(h:Iw l l')(hs:fN k v l=some r):∃r',fN k v l'=some r'/\Iw r r':=by
 rcases h with rfl | ⟨p,d⟩
 ·exact⟨r,hs,.inl rfl⟩
 rcases EA hs with⟨h1,rfl⟩ | ⟨h0,a,u,b,rfl,rfl⟩
 ·refine⟨_,Wd fun e he=>h1 e (p.mem_iff.2 he),.inr ⟨p.append_right _,?_⟩⟩
  unfold DK;rw[List.pairwise_append];exact⟨d,by simp,fun x hx y hy=>by grind [Lw]⟩
 ·obtain⟨a',b',rfl⟩:=List.append_of_mem (p.mem_iff.1 (ycf a (.head b)))
  refine⟨_,EC h0 (d.perm p).split.1,.inr ⟨?_,?_⟩⟩
  ·have p1:(a++b).Perm (a'++b'):=by
    have q1:(a++(k,u)::b).Perm ((k,u)::(a++b)):=List.perm_middle
    have q2:(a'++(k,u)::b').Perm ((k,u)::(a'++b')):=List.perm_middle
    exact(q1.symm.trans (p.trans q2)).cons_inv
   exact List.perm_middle.trans ((p1.cons _).trans List.perm_middle.symm)
  ·unfold DK at d ⊢
   rw[List.pairwise_append,List.pairwise_cons]at d ⊢
   obtain⟨d1,⟨d2,d3⟩,d4⟩:=d
   refine⟨d1,⟨d2,d3⟩,fun x hx y hy=>?_⟩
   rcases ybs.1 hy with rfl | hy
   ·exact d4 x hx (k,u) (.head _)
   grind
end Go.Am
namespace Go.Am
open Go
structure BI where
 b:Nat
 tight:Bool
 es:Nat
 room:Nat
 ro:Bool
structure Mu where
 m:Nat->Option BI
 pd:Nat->Option (vA × Nat × Nat)
instance:CoeFun Mu fun _=>Nat->Option BI:=⟨Mu.m⟩
def Mu.lw(μ ν:Mu):Prop:=∀a i,μ a=some i->ν a=some i
structure Mu.le (μ ν:Mu):Prop where
 f:∀a i,μ a=some i->ν a=some i
 pd:ν.pd=μ.pd
instance {μ ν:Mu}:CoeFun (μ.le ν) fun _=>∀a i,μ a=some i->ν a=some i:=⟨Mu.le.f⟩
instance {μ ν:Mu}:Coe (μ.le ν) (μ.lw ν):=⟨Mu.le.f⟩
def Mu.le_refl(μ:Mu):μ.le μ:=⟨fun _ _ h=>h,rfl⟩
def Mu.le_trans{a b c:Mu}(h:a.le b)(k:b.le c):a.le c:=⟨fun x i hx=>k.f x i (h.f x i hx),k.pd.trans h.pd⟩
def Ix(μ:Mu):AFn->Fn->Prop
 | .func f,fn=>fn=.func f
 | .yld l,fn=>∃i,μ l=some i/\fn=.yield i.b
mutual
def uA (μ:Mu):zA->Value->Prop
 | .bool b,v=>v=.bool b
 | .int k n,v=>v=.int k n
 | .str l,v=>∃s,v=.string s/\rF s=l
 | .nilptr,v=>v=.pointer none
 | .ptr b off,v=>∃i,μ b=some i/\v=.pointer (some ⟨i.b,off,none⟩)
 | .nilslice,v=>v=.slice none 0 0
 | .slice b off len cap,v=>(∃i cap',μ b=some i/\v=.slice (some ⟨i.b,off,none⟩) len cap'/\cap<=cap'/\(i.tight=true->cap'=cap)/\(i.tight=false->off+cap'*i.es<=i.room))\/(b=0/\len=0/\cap=0/\∃a c,v=.slice (some a) 0 c/\(off=0/\c=0\/off=1))
 | .nilmap,v=>v=.map none
 | .map b,v=>∃i,μ b=some i/\v=.map (some i.b)
 | .func f a c,v=>∃fn a' c',v=.func fn a' c'/\Ix μ f fn/\tB μ a a'.toList/\tB μ c c'.toList
 | .nilfunc,v=>v=.nilFunc
 | .iface t x,v=>∃x',v=.iface t x'/\uA μ x x'
 | .niliface,v=>v=.nilIface
 | .agg l,v=>∃cs,v=.agg cs/\tB μ l cs.toList
 | .tup l,v=>∃cs,v=.tuple cs/\tB μ l cs.toList
def tB (μ:Mu):List zA->List Value->Prop
 | [],m=>m=[]
 | a::l,m=>∃v r,m=v::r/\uA μ a v/\tB μ l r
end
theorem Ix.mono{μ ν:Mu}(h:μ.lw ν){f:AFn}{g:Fn}(k:Ix μ f g):Ix ν f g:=by
 cases f with
 | func f=>exact k
 | yld l=>obtain⟨i,h1,h2⟩:=k;exact⟨i,h _ _ h1,h2⟩
mutual
theorem uA.mono{μ ν:Mu}(h:μ.lw ν):∀(a:zA) (v:Value),uA μ a v->uA ν a v
 | .bool _,_,k=>k
 | .int _ _,_,k=>k
 | .str _,_,k=>k
 | .nilptr,_,k=>k
 | .ptr _ _,_,⟨i,h1,h2⟩=>⟨i,h _ _ h1,h2⟩
 | .nilslice,_,k=>k
 | .slice _ _ _ _,_,.inl ⟨i,c,h1,h2⟩=>.inl ⟨i,c,h _ _ h1,h2⟩
 | .slice _ _ _ _,_,.inr k=>.inr k
 | .nilmap,_,k=>k
 | .map _,_,⟨i,h1,h2⟩=>⟨i,h _ _ h1,h2⟩
 | .func _ a c,_,⟨fn,a',c',h1,h2,h3,h4⟩=>⟨fn,a',c',h1,h2.mono h,tB.mono h a _ h3,tB.mono h c _ h4⟩
 | .nilfunc,_,k=>k
 | .iface _ x,_,⟨x',h1,h2⟩=>⟨x',h1,uA.mono h x _ h2⟩
 | .niliface,_,k=>k
 | .agg l,_,⟨cs,h1,h2⟩=>⟨cs,h1,tB.mono h l _ h2⟩
 | .tup l,_,⟨cs,h1,h2⟩=>⟨cs,h1,tB.mono h l _ h2⟩
theorem tB.mono{μ ν:Mu}(h:μ.lw ν):∀(l:List zA) (m:List Value),tB μ l m->tB ν l m
 | [],_,k=>k
 | a::l,_,⟨v,r,h1,h2,h3⟩=>⟨v,r,h1,uA.mono h a v h2,tB.mono h l r h3⟩
end
theorem tB.length{μ:Mu}{l:List zA}:∀ {m:List Value},tB μ l m->m.length=l.length:=by
 induction l with
 | nil=>grind [tB]
 | cons a l ih=>grind [tB]
theorem tB.get{μ:Mu}{l:List zA}:∀ {m:List Value} {i:Nat} {a:zA},tB μ l m->l[i]?=some a->∃v,m[i]?=some v/\uA μ a v:=by
 induction l with
 | nil=>simp_all
 | cons b l ih=>
  grind [tB]
theorem tB.mk{μ:Mu}{l:List zA}:∀ {m:List Value},m.length=l.length->(∀(i:Nat) a v,l[i]?=some a->m[i]?=some v->uA μ a v)->tB μ l m:=by
 induction l with
 | nil=>grind [tB]
 | cons a l ih=>
  intro m h k
  cases m with
  | nil=>simp at h
  | cons v r=>
   rw[tB];exact⟨v,r,rfl,k 0 a v (by simp) (by simp),ih (by grind) fun i a v h1 h2=>k (i+1) a v (by simp_all) (by simp_all)⟩
theorem tB.append{μ:Mu}{l l':List zA}:∀ {m m':List Value},tB μ l m->tB μ l' m'->tB μ (l++l') (m++m'):=by
 induction l with
 | nil=>grind [tB]
 | cons a l ih=>grind [tB]
theorem tB.drop{μ:Mu}{l:List zA}{m:List Value}(h:tB μ l m)(n:Nat):tB μ (l.drop n) (m.drop n):=by
 refine tB.mk (by simp[h.length]) fun i a v h1 h2=>?_
 rw[yde]at h1 h2;obtain⟨u,hu,hr⟩:=h.get h1
 simp_all
theorem tB.take{μ:Mu}{l:List zA}{m:List Value}(h:tB μ l m)(n:Nat):tB μ (l.take n) (m.take n):=by
 refine tB.mk (by simp[h.length]) fun i a v h1 h2=>?_
 rw[ydf]at h1 h2;split at h1
 ·rename_i hi
  rw[yab hi]at h2;obtain⟨u,hu,hr⟩:=h.get h1
  simp_all
 grind
theorem tB.nil{μ:Mu}:tB μ [] []:=by rw[tB]
theorem tB.cons{μ:Mu}{a:zA}{l:List zA}{v:Value}{m:List Value}(h:uA μ a v)(k:tB μ l m):tB μ (a::l) (v::m):=by grind [tB]
def tB.single{μ:Mu}{a:zA}{v:Value}(h:uA μ a v):tB μ [a] [v]:=.cons h .nil
theorem Cm{v:zA}{b:Bool}:v.asBool=some b ↔ v=.bool b:=by cases v<;>simp[zA.asBool]
def AU{v:zA}{n:Int}:v.asInt=some n ↔ ∃k,v=.int k n:=by cases v<;>simp[zA.asInt]
theorem eW{v:zA}{p:IntKind × Int}:v.asIntK=some p ↔ v=.int p.1 p.2:=by cases v<;>simp[zA.asIntK,Prod.ext_iff]
theorem fW{v:zA}{l:List Nat}:v.asStr=some l ↔ v=.str l:=by cases v<;>simp[zA.asStr]
def Fu{v:zA}{p:Nat × Nat}:v.asPtr=some p ↔ v=.ptr p.1 p.2:=by cases v<;>simp[zA.asPtr,Prod.ext_iff]
def Cl{v:zA}{p:Nat × Nat × Nat × Nat}:v.asSlice=some p ↔ v=.slice p.1 p.2.1 p.2.2.1 p.2.2.2:=by cases v<;>simp[zA.asSlice,Prod.ext_iff]
def Tc{v:zA}{b:Nat}:v.asMap=some b ↔ v=.map b:=by cases v<;>simp[zA.asMap]
theorem Ip{v:zA}{l:List zA}:v.asAgg=some l ↔ v=.agg l:=by cases v<;>simp[zA.asAgg]
def ZJ{v:zA}{l:List zA}:v.asTup=some l ↔ v=.tup l:=by cases v<;>simp[zA.asTup]
theorem NF{v:zA}{p:AFn × List zA × List zA}:v.asFunc=some p ↔ v=.func p.1 p.2.1 p.2.2:=by cases v<;>simp[zA.asFunc,Prod.ext_iff]
def ND{v:zA}{p:Nat × zA}:v.asIface=some p ↔ v=.iface p.1 p.2:=by cases v<;>simp[zA.asIface,Prod.ext_iff]
theorem Tb{v:zA}{n:Nat}:v.asNat=some n ↔ ∃k,v=.int k (n:Int):=by
 simp_all [zA.asNat,tA,AU,Li]
theorem uV{v:zA}:(v.tag=3 ↔ v=.nilptr)/\(v.tag=5 ↔ v=.nilslice)/\(v.tag=7 ↔ v=.nilmap)/\(v.tag=10 ↔ v=.nilfunc)/\(v.tag=12 ↔ v=.niliface):=by
 cases v<;>simp[zA.tag]
theorem uA.notAgg{μ:Mu}{a:zA}{v:Value}(h:uA μ a v)(ha:a.asAgg=none):v.cells = #[v]:=by
 cases a<;>rw[uA]at h<;>first
  | (subst h;rfl)
  | (rcases h with⟨_,_,_,rfl,_⟩ | ⟨_,_,_,_,_,rfl,_⟩<;>rfl)
  | (obtain⟨_,rfl,_⟩:=h;rfl)
  | (obtain⟨_,_,rfl⟩:=h;rfl)
  | (obtain⟨_,_,_,rfl,_⟩:=h;rfl)
  | grind [zA.asAgg]
theorem uA.one{μ:Mu}{a:zA}{v:Value}(h:uA μ a v)(ha:a.one=true):v.oneCell'=true:=by
 cases a<;>rw[uA]at h<;>first
  | (subst h;rfl)
  | (rcases h with⟨_,_,_,rfl,_⟩ | ⟨_,_,_,_,_,rfl,_⟩<;>rfl)
  | (obtain⟨_,rfl,_⟩:=h;rfl)
  | (obtain⟨_,_,rfl⟩:=h;rfl)
  | (obtain⟨_,_,_,rfl,_⟩:=h;rfl)
  | (revert ha;decide)
  | (have:=qC.1 ha;grind [zA.tag])
def Sq{μ:Mu}{a:zA}{v:Value}(h:uA μ a v):tB μ a.cells v.cells.toList:=by
 unfold zA.cells
 cases ha:a.asAgg with
 | none=>rw[h.notAgg ha];exact tB.single h
 | some l=>rw[Ip.1 ha,uA]at h;obtain⟨cs,rfl,h⟩:=h;exact h
def jP(P:Program)(t:Nat):jE:=
 match P.underlying t with
 | some .bool=>.bool
 | some (.int k)=>.int k
 | some .string=>.string
 | some (.pointer e)=>.ptr e
 | some (.slice e)=>.slice e
 | some (.array n e)=>.arr n e
 | some (.map k e)=>.map k e
 | some (.struct fs)=>.struct (fs.toList.map fun f=>(f.offset,f.type,P.cellsOf f.type))
 | some (.func ..)=>.func
 | some (.interface _)=>.iface
 | _=>.other
def Rk:Value->Bool
 | .agg _=>true
 | _=>false
def zbe(P:Program)(t:Nat):Bool:=(P.fieldsOf t).toList.all fun f=>(P.info? f.type).isSome
def tyOf (P:Program)(t:Nat):Option lD:=
 match P.info? t with
 | some i=>match i.zero with
  | some z=>ob (kH Ef z.cells.toList) fun l=>xB (bEq (Rk z) (jP P t).isAgg&&(P.underlying t).isSome&&zbe P t)
    (some ⟨jP P t, i.size, i.bytes, l, !P.stoodInHeld t && !P.eqGuardType P.depth t && (P.fieldsOf t).toList.all (fun f => f.name != "_")⟩)
  | none=>none
 | none=>none
def iF(P:Program)(C:oA):Prop:=∀t ty,C.tys.get t=some ty->tyOf P t=some ty
theorem Sr{a b:ByteArray}(h:rF a=rF b):a=b:=by
 have h1:a.data.toList=b.data.toList:=by
  grind [rF,List.map_inj_right,UInt8.toNat_inj]
 have h2:a.data=b.data:=yax.1 h1
 cases a;simp_all
theorem GC{μ:Mu}{v:Value}{a:zA}(h:Ef v=some a):uA μ a v/\a.one=true:=by
 unfold Ef at h;split at h<;>cases h<;>refine⟨?_,rfl⟩<;>rw[uA]
 simp_all
theorem GA{μ:Mu}{m:List Value}:∀ {l:List zA},kH Ef m=some l->tB μ l m:=by
 induction m with
 | nil=>grind [Eo,tB.nil]
 | cons v m ih=>
  intro l h;rw[nQ,tA]at h;obtain⟨a,ha,h⟩:=h
  rw[tA]at h;obtain⟨r,hr,h⟩:=h
  cases h;exact .cons (GC ha).1 (ih hr)
theorem TH{μ:Mu}{v:Value}{a:zA}(h:Xp v=some a):uA μ a v:=by
 unfold Xp at h;split at h
 ·rename_i cs hc
  rw[tA]at h;obtain⟨l,hl,h⟩:=h
  cases h
  cases v<;>simp[zfy]at hc
  grind [uA,GA]
 grind [GC]
structure qM (P:Program) (t:Nat) (ty:lD):Prop where
 info:∃i,P.info? t=some i/\i.size=ty.size/\i.bytes=ty.bytes/\∃z,i.zero=some z/\kH Ef z.cells.toList=some ty.zero/\Rk z=ty.desc.isAgg
 desc:jP P t=ty.desc
 und:∃d,P.underlying t=some d
 fields:∀f∈(P.fieldsOf t).toList,∃i,P.info? f.type=some i
 eqOk : ty.eqOk = true -> P.stoodInHeld t = false /\ P.eqGuardType P.depth t = false /\ ∀ f ∈ (P.fieldsOf t).toList, f.name ≠ "_"
theorem OT{P:Program}{t:Nat}{ty:lD}(h:tyOf P t=some ty):qM P t ty:=by
 unfold tyOf at h;split at h
 ·rename_i i hi
  split at h
  ·rename_i z hz
   rw[tA]at h;obtain⟨l,hl,h⟩:=h
   rw[wB]at h;obtain⟨hb,h⟩:=h
   cases h;rw[ybb,ybb]at hb;refine⟨⟨i,hi,rfl,rfl,z,hz,hl,?_⟩,rfl,Option.isSome_iff_exists.1 hb.1.2,fun f hf=>Option.isSome_iff_exists.1 (ycb.1 hb.2 f hf),fun h=>?_⟩
   all_goals grind [fU]
  ·cases h
 ·cases h
def iF.facts{P:Program}{C:oA}(h:iF P C){t:Nat}{ty:lD}(k:C.tys.get t=some ty):qM P t ty:=OT (h t ty k)
section
variable {P:Program}{w:World}{t:Nat}{ty:lD}
def Dv{i:TypeInfo}(h:P.info? t=some i):(typeInfo t).run P w=.ok i w:=by
 simp[typeInfo,h]
def oF{d:TypeDesc}(h:P.underlying t=some d):(underlying t).run P w=.ok d w:=by
 simp[underlying,h]
def qM.size(h:qM P t ty):(sizeOf t).run P w=.ok ty.size w:=by
 obtain⟨i,h1,h2,_⟩:=h.info
 simp[sizeOf,Dv h1,h2]
theorem qM.zero(h:qM P t ty){μ:Mu}:∃z,(∀w,(zeroValue t).run P w=.ok z w)/\uA μ (vX ty) z/\tB μ ty.zero z.cells.toList:=by
 obtain⟨i,h1,_,_,z,h2,h3,h4⟩:=h.info
 have hl:tB μ ty.zero z.cells.toList:=GA h3
 refine⟨z,fun w=>by simp[zeroValue,Dv h1,h2],?_,hl⟩
 unfold vX
 cases hd:ty.desc.isAgg with
 | true=>
  rw[hd]at h4
  cases z<;>simp[Rk]at h4
  show uA μ (.agg ty.zero) _
  rw[uA];exact⟨_,rfl,hl⟩
 | false=>
  rw[hd]at h4;have hc:z.cells = #[z]:=by cases z<;>first | rfl | simp[Rk]at h4
  grind [tB]
def qM.isAgg(h:qM P t ty):(Go.isAgg t).run P w=.ok ty.desc.isAgg w:=by
 obtain⟨d,hd⟩:=h.und
 have h0:=h.desc
 unfold jP at h0;rw[hd]at h0;unfold Go.isAgg;rw[yad,oF hd,yac,<- h0]
 cases d<;>rfl
theorem Fg(h:qM P t ty){fs:List (Nat × Nat × Nat)}(k:ty.desc.asStruct=some fs):∃g,P.underlying t=some (.struct g)/\fs=g.toList.map fun f=>(f.offset,f.type,P.cellsOf f.type):=by
 obtain⟨d,hd⟩:=h.und
 have h0:=h.desc
 grind [jP,jE.asStruct]
def uT(h:qM P t ty){e:Nat}(k:ty.desc.asSlice=some e):P.underlying t=some (.slice e):=by
 obtain⟨d,hd⟩:=h.und
 have h0:=h.desc
 unfold jP at h0;rw[hd]at h0;rw[<- h0]at k
 cases d<;>simp[jE.asSlice]at k
 rw[hd,k]
def Si(h:qM P t ty){p:Nat × Nat}(k:ty.desc.asArr=some p):P.underlying t=some (.array p.1 p.2):=by
 obtain⟨d,hd⟩:=h.und
 have h0:=h.desc
 unfold jP at h0;rw[hd]at h0;rw[<- h0]at k
 cases d<;>simp[jE.asArr]at k
 rw[hd,<- k]
def LA(h:qM P t ty){p:Nat × Nat}(k:ty.desc.asMap=some p):P.underlying t=some (.map p.1 p.2):=by
 obtain⟨d,hd⟩:=h.und
 have h0:=h.desc
 unfold jP at h0;rw[hd]at h0;rw[<- h0]at k
 cases d<;>simp[jE.asMap]at k
 rw[hd,<- k]
def AD(h:qM P t ty){k:IntKind}(e:ty.desc.asInt=some k):P.underlying t=some (.int k):=by
 obtain⟨d,hd⟩:=h.und
 have h0:=h.desc
 unfold jP at h0;rw[hd]at h0;rw[<- h0]at e
 cases d<;>simp[jE.asInt]at e
 rw[hd,e]
theorem Sh(h:qM P t ty)(e:ty.desc.isString=true):P.underlying t=some .string:=by
 obtain⟨d,hd⟩:=h.und
 have h0:=h.desc
 grind [jP,jE.isString,jE.tag,Nat.beq]
theorem KZ(h:qM P t ty)(e:Nat.blt ty.desc.tag 9=true):∃d,P.underlying t=some d/\∀ms,d≠.interface ms:=by
 obtain⟨d,hd⟩:=h.und
 refine⟨d,hd,fun ms hm=>?_⟩
 subst hm;have h0:=h.desc
 grind [jP,qC,jE.tag]
end
structure Ar (μ:Mu) (d:gH) (e:Deferred):Prop where
 rel:match d.fn with
  | none=>∃i,μ d.r=some i/\e={ target:=.collected i.b,args := #[] }
  | some f=>∃fn cap as,e={ target:=.fn fn cap,args:=as }/\Ix μ f fn/\tB μ d.args (as++cap).toList
def vF(μ:Mu)(n:Nat)(tm:Tm)(tmps:Array Value):Prop:=tmps.size=n/\∀i v,tm.get i=some v->uA μ v (tmps.getD i undef)
structure Nm (μ:Mu) (l:xN) (r:Loop):Prop where
 state:r.state=l.state
 pending:r.pending=l.pending
 fn:r.fn=l.fn
 tm:vF μ l.n l.tm r.tmps
 params:r.params.toList=l.params
 assign:r.assign=l.assign
 body:r.body=l.body
 defers:∃i,μ l.defers=some i/\r.defers=i.b
inductive iD {α β:Type} (R:α->β->Prop):List α->List β->Prop
 | nil:iD R [] []
 | cons {a b l m}:R a b->iD R l m->iD R (a::l) (b::m)
def sJ (μ:Mu)(i:BI):vA->Obj->Prop
 | .cells c n loose,o=>∃cs elem fr,o=.cells cs elem fr/\n<=cs.size/\(i.ro=true\/fr.2<=fr.1\/cs.size<=fr.1)/\(∀(j:Nat) v,c.get j=some v->j<n/\∃v',cs[j]?=some v'/\uA μ v v') ∧
   (match loose with | none=>i.tight=true | some lo=>i.tight=false/\i.es=lo.es/\i.room=cs.size/\∀t,lo=.ty t->elem=t)
 | .map l,o=>∃es clock l',o=.map es clock/\Iw l l'/\iD (fun p e=>uA μ p.1 e.key/\uA μ p.2 e.val) l' es.toList
 | .loop l,o=>∃r,o=.loop r/\Nm μ l r
 | .deferred l,o=>∃l',o=.deferred l'/\(match l,l' with | none,none=>True | some a,some b=>iD (Ar μ) a b | _,_=>False)
 | .siter s pos,o=>∃s',o=.stringIter s' pos/\rF s'=s
structure vB (B N:Nat) (μ:Mu) (H:xA) (w:World):Prop where
 base:256<=B
 glob:∀g,g<256->μ g=some ⟨g,true,0,0,true⟩
 low:∀a x i,a<B->H.t.get a=some x->μ a=some i->i.b<N/\x.asLoop=none/\x.asDeferred=none
 next:B<=H.next
 size:N<=w.heap.size
 fresh:∀a,H.next<=a->μ a=none/\H.t.get a=none
 blk:∀a x i,H.t.get a=some x->μ a=some i->∃o,w.heap[i.b]?=some o/\sJ μ i x o
 own:∀a i,B<=a->μ a=some i->N<=i.b/\i.b<w.heap.size/\i.ro=false
 inj:∀a b x y i j,H.t.get a=some x->H.t.get b=some y->μ a=some i->μ b=some j->B<=a->B<=b->i.b=j.b->a=b
 pnd:∀a x t,μ.pd a=some (x,t)->μ a=none/\H.t.get a=some x/\B<=a
end Go.Am
namespace Go.Am
open Go
variable {a x:Operand}{b f off t:Nat}{p:Tr zA × Nat × Option Lo}{i:BI}{l:List zA}
def aF (μ:Mu)(e:vD)(ρ:Operand->Value):Prop:=∀x v,ev x e=some v->uA μ v (ρ x)
def aF.many{μ:Mu}{e:vD}{ρ:Operand->Value}(h:aF μ e ρ):∀ {l:List Operand} {r:List zA},aN l e=some r->tB μ r (l.map ρ):=by
 intro l;induction l with
 | nil=>intro r k;unfold aN at k;rw[Eo]at k;cases k;exact .nil
 | cons x l ih=>
  intro r k;unfold aN at k;rw[nQ,tA]at k;obtain⟨a,ha,k⟩:=k
  rw[tA]at k;obtain⟨b,hb,k⟩:=k
  cases k
  exact .cons (h _ _ ha) (ih hb)
def aF.parts{μ:Mu}{e:vD}{ρ:Operand->Value}(h:aF μ e ρ):∀ {l:List (Nat × Operand)} {r:List (Nat × zA)},wT l e=some r →
  iD (fun p q=>p.1=q.1/\uA μ p.2 q.2) r (l.map fun x=>(x.1,ρ x.2)):=by
 intro l;induction l with
 | nil=>intro r k;unfold wT at k;rw[Eo]at k;cases k;exact .nil
 | cons x l ih=>
  intro r k;unfold wT at k;rw[nQ,tA]at k;obtain⟨a,ha,k⟩:=k
  rw[tA]at ha;obtain⟨a',ha,ha'⟩:=ha
  cases ha'
  rw[tA]at k;obtain⟨b,hb,k⟩:=k
  cases k
  exact .cons ⟨rfl,h _ _ ha⟩ (ih hb)
def BF(μ:Mu):Option zA->Option Value->Prop
 | none,none=>True
 | some a,some v=>uA μ a v
 | _,_=>False
def aF.opt{μ:Mu}{e:vD}{ρ:Operand->Value}(h:aF μ e ρ){x:Option Operand}{r:Option zA}(k:vT x e=some r):BF μ r (x.map ρ):=by
 cases x with
 | none=>cases k;trivial
 | some x=>unfold vT at k;simp only[]at k;rw[tA]at k;obtain⟨a,ha,k⟩:=k;cases k;exact h _ _ ha
theorem rY(b off n:Nat):Addr.add ⟨b,off,none⟩ n=⟨b,off+n,none⟩:=by
 grind [Addr.add]
section
variable {P:Program}{C:oA}{B N:Nat}{μ:Mu}{H:xA}{w:World}
theorem Ak  (h:qE H b=some p):H.t.get b=some (.cells p.1 p.2.1 p.2.2):=by
 unfold qE at h;rw[tA]at h;obtain⟨x,hx,h⟩:=h
 cases x<;>simp[vA.asCells]at h
 grind
theorem vB.cellAt(hH:vB B N μ H w)  (h:qE H b=some p) (hi:μ b=some i){j:Nat}{v:zA}(hv:p.1.get j=some v) :
  ∃v',w.cell? ⟨i.b,j,none⟩=some v'/\uA μ v v':=by
 obtain⟨o,h2,h3⟩:=hH.blk _ _ _ (Ak h) hi
 obtain⟨cs,elem,fr,rfl,_,_,h4,_⟩:=h3
 grind [World.cell?]
theorem vB.manyAt(hH:vB B N μ H w)  (h:qE H b=some p) (hi:μ b=some i){n:Nat} (hl:p.1.many n off=some l) :
  ∃vs:List Value,vs.length=n/\tB μ l vs/\(loadCells ⟨i.b,off,none⟩ n).run P w=.ok vs.toArray w/\∀j,j<n->w.cell? ⟨i.b,off+j,none⟩=vs[j]?:=by
 obtain⟨h1,h2⟩:=Tr.many_some _ _ _ _ hl
 have key:∀j,j<n->∃v',w.cell? ⟨i.b,off+j,none⟩=some v'/\∃a,l[j]?=some a/\uA μ a v':=by
  intro j hj;have h3:=h2 j hj
  cases hlj:l[j]? with
  | none=>grind
  | some a=>
   rw[hlj]at h3;obtain⟨v',h4,h5⟩:=hH.cellAt h hi h3
   simp_all
 let f:Nat->Value:=fun j=>(w.cell? ⟨i.b,off+j,none⟩).getD undef
 have hf:∀j,j<n->w.cell? ⟨i.b,off+j,none⟩=some (f j):=by
  grind
 refine⟨(List.range n).map f,by simp,?_,?_,?_⟩
 all_goals grind [tB.mk,run_loadCells,rY]
theorem GW(hH:vB B N μ H w) {ty:lD}(hty:qM P t ty)  (h:qE H b=some p) (hi:μ b=some i) {v:zA}
  (hv:fR ty p.1 off=some v):∃v',(loadVar t ⟨i.b,off,none⟩).run P w=.ok v' w/\uA μ v v':=by
 unfold fR at hv;unfold loadVar;rw[yad,hty.isAgg,yac]
 cases ha:ty.desc.isAgg with
 | true=>
  rw[ha,cond_true,tA]at hv;obtain⟨l,hl,hv⟩:=hv
  cases hv;obtain⟨vs,_,h2,h3,_⟩:=hH.manyAt (P:=P) h hi hl
  refine⟨.agg vs.toArray,?_,by grind [uA]⟩
  rw[yab rfl,yad,hty.size,yac,yad,h3];rfl
 | false=>
  rw[ha,cond_false]at hv;obtain⟨v',h1,h2⟩:=hH.cellAt h hi hv
  refine⟨v',?_,h2⟩
  rw[yaa (by simp),run_load,h1]
theorem Ky(hT:iF P C)  {cs:Array Value}(hl:tB μ l cs.toList) {v:zA}(hv:sQ C t l off=some v) :
  ∃v',(part t cs off).run P w=.ok v' w/\uA μ v v':=by
 unfold sQ at hv;rw[tA]at hv;obtain⟨ty,hty,hv⟩:=hv
 have hF:=hT.facts hty
 unfold part;rw[yad,hF.isAgg,yac]
 cases ha:ty.desc.isAgg with
 | true=>
  rw[ha,cond_true]at hv
  cases hv;refine⟨.agg (cs.extract off (off+ty.size)),?_,?_⟩
  ·rw[yab rfl,yad,hF.size];rfl
  ·rw[uA];refine⟨_,rfl,?_⟩
   rw[iR,mP,Array.toList_extract,List.extract_eq_take_drop,Nat.add_sub_cancel_left];exact(hl.drop _).take _
 | false=>
  rw[ha,cond_false,xH]at hv;obtain⟨v',h1,h2⟩:=hl.get hv
  simp_all
def iI (P:Program)(μ:Mu)(w:World)(ρ:Operand->Value)(o:Oper)(v:zA):Prop:=∃v',(execOp ρ o).run P w=.ok (.value v') w/\uA μ v v'
variable {e:vD}{ρ:Operand->Value}{dst:Option Tmp}{type:TypeId}{pos:String}{after:Array Edge}{guard:Option (Nat × Bool)}{v:zA}
def HR(hE:aF μ e ρ) (h:cN x C e H=some v):iI P μ w ρ ⟨dst,.move x,type,pos,after,guard⟩ v:=⟨ρ x,rfl,hE x v h⟩
def IM(hE:aF μ e ρ) (h:cN x C e H=some v):iI P μ w ρ ⟨dst,.assign x,type,pos,after,guard⟩ v:=⟨ρ x,rfl,hE x v h⟩
def HP(hE:aF μ e ρ){c b:Operand}(h:Lt c a b C e H=some v):iI P μ w ρ ⟨dst,.pick c a b,type,pos,after,guard⟩ v:=by
 unfold Lt at h;rw[tA]at h;obtain⟨cv,hc,h⟩:=h
 rw[tA]at h;obtain⟨cb,hb,h⟩:=h
 have h1:=hE _ _ hc
 rw[Cm.1 hb,uA]at h1;unfold iI execOp;simp only[h1,asBool]
 cases cb with
 | true=>exact⟨ρ a,rfl,hE _ _ h⟩
 | false=>exact⟨ρ b,rfl,hE _ _ h⟩
theorem HW(hT:iF P C)(hH:vB B N μ H w)(hE:aF μ e ρ)  (h:dV t a C e H=some v):iI P μ w ρ ⟨dst,.load t a,type,pos,after,guard⟩ v:=by
 unfold dV at h;simp only[tA,Fu]at h;obtain⟨av,ha,p,rfl,ty,hty,c,hc,h⟩:=h
 have h1:=hE _ _ ha
 rw[uA]at h1;obtain⟨i,hi,hv⟩:=h1
 obtain⟨v',h2,h3⟩:=GW (P:=P) hH (hT.facts hty) hc hi h
 refine⟨v',?_,h3⟩
 grind [execOp,Instr.loadAt,Instr.sureAddr,Sem.run_bind,Sem.run_pure,Result.andThen_ok]
theorem HQ(hE:aF μ e ρ) (h:kZ x C e H=some v):iI P μ w ρ ⟨dst,.nilCheck x,type,pos,after,guard⟩ v:=by
 unfold kZ at h;rw[tA]at h;obtain⟨a,ha,h⟩:=h
 rw[wB]at h;obtain⟨hb,h⟩:=h
 cases h;have h1:=hE _ _ ha
 refine⟨ρ x,?_,h1⟩
 cases v<;>simp[zA.tag,Nat.beq]at hb
 ·rw[uA]at h1
  obtain⟨i,_,hv⟩:=h1
  simp_all [execOp]
 ·rename_i fn a b
  rw[uA]at h1;obtain⟨fn',a',c',hv,hf,_⟩:=h1
  cases fn with
  | func f=>cases hf;simp_all [execOp]
  | yld l=>obtain⟨i,_,rfl⟩:=hf;simp_all [execOp]
def ID(hE:aF μ e ρ){fn:Fn}{a b:Array Operand}(h:(Bx fn a b).f C e H=some v):iI P μ w ρ ⟨dst,.makeFunc fn a b,type,pos,after,guard⟩ v:=by
 unfold Bx at h;split at h
 ·rename_i f
  simp only[Hk,tA]at h;obtain⟨as,ha,bs,hb,h⟩:=h
  cases h;refine⟨.func (.func f) (a.map ρ) (b.map ρ),rfl,?_⟩
  rw[uA];exact⟨_,_,_,rfl,rfl,by simpa using hE.many ha,by simpa using hE.many hb⟩
 ·cases h
def IC(hT:iF P C)(hE:aF μ e ρ)  (h:Bw t x C e H=some v):iI P μ w ρ ⟨dst,.makeInterface t x,type,pos,after,guard⟩ v:=by
 unfold Bw at h;simp only[tA,wB]at h;obtain⟨ty,hty,hb,a,ha,h⟩:=h
 cases h;obtain⟨d,hd,hn⟩:=KZ (hT.facts hty) hb
 refine⟨.iface t (ρ x),?_,by rw[uA];exact⟨_,rfl,hE _ _ ha⟩⟩
 simp only[execOp,Instr.makeInterface,yad,oF hd,yac]
 cases d<;>first | rfl | exact absurd rfl (hn _)
theorem IH(hE:aF μ e ρ){t:Operand}{i:Nat}(h:xW t i C e H=some v):iI P μ w ρ ⟨dst,.extract t i,type,pos,after,guard⟩ v:=by
 unfold xW at h;simp only[tA,ZJ,xH]at h;obtain⟨a,ha,l,rfl,h⟩:=h
 have h1:=hE _ _ ha
 rw[uA]at h1;obtain⟨cs,hv,hl⟩:=h1
 obtain⟨v',h2,h3⟩:=hl.get h
 refine⟨v',?_,h3⟩
 simp_all [execOp,Instr.extract]
theorem IE(hT:iF P C)(hE:aF μ e ρ)   (h:Bz t x f C e H=some v):iI P μ w ρ ⟨dst,.field t x f,type,pos,after,guard⟩ v:=by
 unfold Bz at h;simp only[tA,Ip,xH]at h;obtain⟨ty,hty,fs,hfs,fd,hfd,a,ha,l,rfl,h⟩:=h
 obtain⟨g,hg,rfl⟩:=Fg (hT.facts hty) hfs
 have h1:=hE _ _ ha
 rw[uA]at h1;obtain⟨cs,hv,hl⟩:=h1
 rw[ybu]at hfd
 cases hgf:g.toList[f]? with
 | none=>simp_all
 | some fld=>
  rw[hgf]at hfd;simp at hfd;subst hfd;obtain⟨v',h2,h3⟩:=Ky (w:=w) hT hl h
  refine⟨v',?_,h3⟩
  simp_all [execOp,Instr.field,oF,asAgg]
theorem IG(hT:iF P C)(hE:aF μ e ρ){s:Nat}  (h:yW s x f C e H=some v):iI P μ w ρ ⟨dst,.fieldAddr s x f,type,pos,after,guard⟩ v:=by
 unfold yW at h;simp only[tA,Fu,xH,wB]at h;obtain⟨ty,hty,fs,hfs,fd,hfd,hz,a,ha,p,rfl,h⟩:=h
 cases h;obtain⟨g,hg,rfl⟩:=Fg (hT.facts hty) hfs
 have h1:=hE _ _ ha
 rw[uA]at h1;obtain⟨i,hi,hv⟩:=h1
 rw[ybu]at hfd
 cases hgf:g.toList[f]? with
 | none=>simp_all
 | some fld=>
  rw[hgf]at hfd;simp at hfd;subst hfd;refine⟨.pointer (some ⟨i.b,p.2+fld.offset,none⟩),?_,by grind [uA]⟩
  have h4:g[f]?=some fld:=by simp_all
  have h5:P.cellsOf fld.type≠0:=by
   grind [beqf]
  have h6:(sizeOf fld.type).run P w=.ok (P.cellsOf fld.type) w:=by
   unfold Program.cellsOf at h5 ⊢
   cases hinf:P.info? fld.type with
   | none=>simp_all
   | some inf=>simp[sizeOf,Dv hinf]
  simp_all [execOp,Instr.fieldAt,oF,Instr.sureAddr,fieldPlace,rY]
end
end Go.Am
namespace Go.Am
open Go
section
variable {P:Program}{C:oA}{B N:Nat}{μ:Mu}{H:xA}{w:World}
variable {e:vD}{ρ:Operand->Value}{dst:Option Tmp}{type:TypeId}{pos:String}{after:Array Edge}{guard:Option (Nat × Bool)}{v:zA}
theorem Db{k:IntKind}{n:Nat}(h:n<cG k):k.wrap (n:Int)=n:=by
 rw[<- wP];show(bif Nat.blt n (cG k)then Int.ofNat n else _)=_
 grind [qC]
def Yv(k:IntKind):∃m,cG k=2^m/\m<=k.bits:=by
 cases k
 ·exact⟨7,rfl,by decide⟩
 ·exact⟨15,rfl,by decide⟩
 ·exact⟨31,rfl,by decide⟩
 ·exact⟨63,rfl,by decide⟩
 ·exact⟨8,rfl,by decide⟩
 ·exact⟨16,rfl,by decide⟩
 ·exact⟨32,rfl,by decide⟩
 ·exact⟨64,rfl,by decide⟩
def Ai{k:IntKind}{n:Nat}(h:n<cG k):(BitVec.ofInt k.bits (n:Int)).toNat=n:=by
 obtain⟨m,hm,hle⟩:=Yv k
 rw[BitVec.toNat_ofInt];have:n<2^k.bits:=Nat.lt_of_lt_of_le (hm ▸ h) (yao (by omega) hle)
 rw[<- Int.natCast_emod,Int.toNat_natCast,Nat.mod_eq_of_lt this]
theorem Ro{f:Nat->Nat->Nat}{k:IntKind}{a b:Int}{v:zA}(h:kI f k a b=some v):∃x y:Nat,a=x/\b=y/\x<cG k/\y<cG k/\v=.int k (f x y:Nat):=by
 grind [kI,tA,Li,wB,qC]
theorem zaf{op:BinOp}{k:IntKind}{a b:Int}(h:(AR op).f k a b=some v):op≠.shl/\op≠.shr/\∀t,∃v',(binOp op t (.int k a) (.int k b)).run P w=.ok v' w/\uA μ v v':=by
 cases op<;>simp only[AR]at h
 case add=>cases h;simp_all [binOp,Op.intArith,uA,wP]
 case sub=>cases h;simp_all [binOp,Op.intArith,uA,wP]
 case mul=>cases h;simp_all [binOp,Op.intArith,uA,wP]
 case quo=>
  unfold hZ at h;simp only[qD,gZ]at h;split at h
  ·cases h
  ·rename_i hb;cases h
   simp_all [uA,wP,binOp,Op.intDiv]
 case rem=>
  unfold iZ at h;simp only[qD,gZ]at h;split at h
  ·cases h
  ·rename_i hb;cases h
   simp_all [uA,binOp,Op.intDiv]
 case and=>
  unfold iAnd at h;split at h
  ·obtain⟨x,y,rfl,rfl,hx,hy,rfl⟩:=Ro h
   refine⟨by simp,by simp,fun t=>⟨.int k ((x &&& y:Nat):Int),?_,by rw[uA];rfl⟩⟩
   have h1:x &&& y<cG k:=yam Nat.and_le_left hx
   simp only[binOp,Op.intBits,BitVec.toNat_and,Ai hx,Ai hy,Db h1];simp
  ·simp only[tA,Li,wB,qC]at h
   obtain⟨y,rfl,hy,h⟩:=h
   cases h;have e:(BitVec.ofInt k.bits a).toNat=Int.toNat (Int.emod a (.ofNat (kW k))):=by
    rw[BitVec.toNat_ofInt]
    cases k<;>rfl
   generalize Int.toNat (Int.emod a (.ofNat (kW k)))=x at e ⊢
   refine⟨by simp,by simp,fun t=>⟨.int k ((x &&& y:Nat):Int),?_,by rw[uA];rfl⟩⟩
   have h1:x &&& y<cG k:=yam Nat.and_le_right hy
   simp only[binOp,Op.intBits,BitVec.toNat_and,e,Ai hy,Db h1];simp
 case or=>
  obtain⟨x,y,rfl,rfl,hx,hy,rfl⟩:=Ro h
  obtain⟨m,hm,_⟩:=Yv k
  refine⟨by simp,by simp,fun t=>⟨.int k ((x ||| y:Nat):Int),?_,by rw[uA];rfl⟩⟩
  have h1:x ||| y<cG k:=by simp_all [Nat.or_lt_two_pow]
  simp only[binOp,Op.intBits,BitVec.toNat_or,Ai hx,Ai hy,Db h1];simp
 case xor=>
  obtain⟨x,y,rfl,rfl,hx,hy,rfl⟩:=Ro h
  obtain⟨m,hm,_⟩:=Yv k
  refine⟨by simp,by simp,fun t=>⟨.int k ((x ^^^ y:Nat):Int),?_,by rw[uA];rfl⟩⟩
  have h1:x ^^^ y<cG k:=by simp_all [Nat.xor_lt_two_pow]
  simp only[binOp,Op.intBits,BitVec.toNat_xor,Ai hx,Ai hy,Db h1];simp
 case eql=>cases h;simp_all [binOp,Op.intCmp,uA,Ca]
 case neq=>cases h;exact⟨by simp,by simp,fun t=>⟨.bool (a != b),by simp[binOp,Op.intCmp],by rw[uA,Ca];rfl⟩⟩
 case lss=>cases h;simp_all [binOp,Op.intCmp,uA,zfm]
 case leq=>cases h;simp_all [binOp,Op.intCmp,uA,zfn]
 case gtr=>cases h;simp_all [binOp,Op.intCmp,uA,zfm]
 case geq=>cases h;simp_all [binOp,Op.intCmp,uA,zfn]
 all_goals cases h
theorem Il(s:ByteArray):(rF s).length=s.size:=by simp[rF]
theorem YZ(a b:ByteArray):rF (a++b)=rF a++rF b:=by simp[rF]
theorem YY(s:ByteArray)(i:Nat):(rF s)[i]?=(s[i]?).map UInt8.toNat:=by
 unfold rF;rw[ybu];congr 1
 by_cases h:i<s.size
 all_goals simp_all [ByteArray.getElem_eq_getElem_data]
theorem MT(s:ByteArray)(l h:Nat):rF (s.extract l h)=((rF s).take h).drop l:=by
 unfold rF;rw[ByteArray.data_extract,Array.toList_extract,List.extract_eq_take_drop,<- List.map_take,<- List.map_drop,List.drop_take]
theorem MU{a b:ByteArray}:(a.toList == b.toList)=(qG (rF a) (rF b)):=by
 grind [Lib.toList_data,uM,rF,Sr]
theorem UQ(a:List UInt8):∀b:List UInt8,Op.bytesLess a b=Yl (a.map UInt8.toNat) (b.map UInt8.toNat):=by
 induction a with
 | nil=>intro b;cases b<;>rfl
 | cons x a ih=>
  intro b
  cases b with
  | nil=>rfl
  | cons y b=>
   show _=(bif Nat.blt x.toNat y.toNat then true else bif Nat.beq x.toNat y.toNat then Yl (a.map UInt8.toNat) (b.map UInt8.toNat)else false)
   grind [Op.bytesLess,qC,UInt8.lt_iff_toNat_lt,UInt8.toNat_inj,mC]
theorem zae{op:BinOp}{a b:ByteArray}(h:(AP op).f (rF a) (rF b)=some v):op≠.shl/\op≠.shr/\∀t,∃v',(binOp op t (.string a) (.string b)).run P w=.ok v' w/\uA μ v v':=by
 cases op<;>simp only[AP]at h
 case add=>
  simp only[mX,wB,qC,oD,iG,Il]at h;obtain⟨h1,h⟩:=h
  cases h;refine⟨by simp,by simp,fun t=>⟨.string (a++b),?_,by grind [uA,YZ]⟩⟩
  have h2:¬ (((a.size+b.size:Nat):Int) > IntKind.i64.max):=by
   have:IntKind.i64.max=9223372036854775807:=by decide
   omega
  simp_all [binOp,Op.stringOp]
 case eql=>cases h;exact⟨by simp,by simp,fun t=>⟨.bool (a.toList == b.toList),rfl,by rw[uA,MU]⟩⟩
 case neq=>cases h;exact⟨by simp,by simp,fun t=>⟨.bool !(a.toList == b.toList),rfl,by rw[uA,MU]⟩⟩
 case lss=>cases h;exact⟨by simp,by simp,fun t=>⟨.bool (Op.bytesLess a.toList b.toList),rfl,by rw[uA,Lib.toList_data,Lib.toList_data,UQ];rfl⟩⟩
 all_goals cases h
theorem Mk{op:BinOp}{t:TypeId}{x y:Operand}{a b:Value}(h1:¬ (a=.nilIface/\b=.nilIface)\/(Mb x||Mb y)=true)(h2:∀l m,¬ (a=.agg l/\b=.agg m)):(eqGuard op t x y a b).run P w=.ok () w:=by
 unfold eqGuard
 cases op
 case eql | neq=>
  rw[yaa (by simp)]
  split
  ·rcases h1 with h1 | h1
   ·simp_all
   ·cases x<;>cases y<;>simp[Mb]at h1 ⊢
  all_goals simp_all
 all_goals rfl
theorem WS{op:BinOp}{t:TypeId}{x y:Operand}{l m:Array Value}(h:P.eqGuardType P.depth t=false):(eqGuard op t x y (.agg l) (.agg m)).run P w=.ok () w:=by
 simp_all [eqGuard]
theorem Gs{op:BinOp}{t yt:TypeId}{x y:Operand}{v':Value}(h1:(eqGuard op t x y (ρ x) (ρ y)).run P w=.ok () w)(h2:(binOp op t (ρ x) (ρ y)).run P w=.ok v' w) :
  (execOp ρ ⟨dst,.binOp op t x y yt,type,pos,after,guard⟩).run P w=.ok (.value v') w:=by
 simp_all [execOp]
theorem DW{k:IntKind}{b:Int}{n:Nat}(h:Dt k b=some n):¬ b<0/\n=min b.toNat k.bits:=by
 grind [Dt,tA,Li]
theorem MY{op:BinOp}{t yt:TypeId}{x y:Operand}{a b:zA}(hx:uA μ a (ρ x))(hy:uA μ b (ρ y))
  (h:(op=.shl/\Na sW a b=some v)\/(op=.shr/\Na Ey a b=some v)):iI P μ w ρ ⟨dst,.binOp op t x y yt,type,pos,after,guard⟩ v:=by
 rcases h with⟨rfl,h⟩ | ⟨rfl,h⟩
 all_goals
  unfold Na at h;simp only[tA,eW,AU]at h;obtain⟨p,rfl,n,⟨k',rfl⟩,h⟩:=h
  rw[uA]at hx hy
 ·unfold sW at h
  rw[tA]at h;obtain⟨m,hm,h⟩:=h
  cases h;obtain⟨h1,rfl⟩:=DW hm
  refine⟨.int p.1 (p.1.wrap (p.2*2^(min n.toNat p.1.bits))),Gs (Mk (.inl (by grind)) (by grind)) ?_,by rw[uA,wP];simp⟩
  rw[hx,hy];simp[binOp,Op.shift,h1]
 ·unfold Ey at h
  rw[tA]at h;obtain⟨m,hm,h⟩:=h
  cases h;obtain⟨h1,rfl⟩:=DW hm
  refine⟨.int p.1 (p.2.fdiv (2^(min n.toNat p.1.bits))),Gs (Mk (.inl (by grind)) (by grind)) ?_,by rw[uA];simp⟩
  rw[hx,hy];simp[binOp,Op.shift,h1]
theorem Mj{n m:Nat}{a b:zA}{r:Bool}(h:Ch n m a b=some r):(a.tag=n/\b.tag=n/\r=true)\/(a.tag=n/\b.tag=m/\r=false)\/(a.tag=m/\b.tag=n/\r=false):=by
 grind [Ch,mC,wB]
theorem WU{t:Nat}{ty:lD}(hF:qM P t ty){a b:zA}{va vb:Value}(ha:uA μ a va)(hb:uA μ b vb){r:Bool}{d:Nat}(h:Ml ty.desc a b=some r) :
  (Op.equalIn (d+1) t va vb).run P w=.ok r w:=by
 obtain⟨D,hD⟩:=hF.und
 have h0:=hF.desc
 unfold jP at h0;rw[hD]at h0;unfold Op.equalIn;rw[yad,oF hD,yac];rw[<- h0]at h
 cases D<;>simp only[Ml]at h<;>try (cases h;done)
 case bool=>
  simp only[Hz,tA,Cm]at h;obtain⟨x,rfl,y,rfl,h⟩:=h
  simp_all [uA,fU]
 case int k=>
  simp only[zja,tA,eW,wB,dO]at h;obtain⟨x,rfl,y,rfl,hk,h⟩:=h
  simp_all [uA,Ca]
 case string=>
  simp only[Zx,tA,fW]at h;obtain⟨x,rfl,y,rfl,h⟩:=h
  cases h;rw[uA]at ha hb;obtain⟨s,rfl,rfl⟩:=ha
  obtain⟨u,rfl,rfl⟩:=hb
  have:(s == u)=qG (rF s) (rF u):=by
   rw[Bool.eq_iff_iff,uM];have h1:(s == u)=(s.data == u.data):=rfl
   grind [rF,Sr]
  simp_all
 case pointer el=>
  rcases Mj h with⟨h1,h2,rfl⟩ | ⟨h1,h2,rfl⟩ | ⟨h1,h2,rfl⟩<;>cases a<;>simp[zA.tag]at h1<;>cases b<;>simp[zA.tag]at h2<;>rw[uA]at ha<;>rw[uA]at hb
  ·simp_all
  ·obtain⟨i,_,hb⟩:=hb;simp_all
  ·obtain⟨i,_,ha⟩:=ha;simp_all
 case slice el=>
  rcases Mj h with⟨h1,h2,rfl⟩ | ⟨h1,h2,rfl⟩ | ⟨h1,h2,rfl⟩<;>cases a<;>simp[zA.tag]at h1<;>cases b<;>simp[zA.tag]at h2<;>rw[uA]at ha<;>rw[uA]at hb
  ·simp_all
  ·rcases hb with⟨i,_,_,hb,_⟩ | ⟨_,_,_,_,_,hb,_⟩ <;> (simp_all)
  ·rcases ha with⟨i,_,_,ha,_⟩ | ⟨_,_,_,_,_,ha,_⟩ <;> (simp_all)
 case map k el=>
  rcases Mj h with⟨h1,h2,rfl⟩ | ⟨h1,h2,rfl⟩ | ⟨h1,h2,rfl⟩<;>cases a<;>simp[zA.tag]at h1<;>cases b<;>simp[zA.tag]at h2<;>rw[uA]at ha<;>rw[uA]at hb
  ·simp_all
  ·obtain⟨i,_,hb⟩:=hb;simp_all
  ·obtain⟨i,_,ha⟩:=ha;simp_all
 case func ps rs vd=>
  rcases Mj h with⟨h1,h2,rfl⟩ | ⟨h1,h2,rfl⟩ | ⟨h1,h2,rfl⟩<;>cases a<;>simp[zA.tag]at h1<;>cases b<;>simp[zA.tag]at h2<;>rw[uA]at ha<;>rw[uA]at hb
  ·simp_all
  ·obtain⟨i,_,_,hb,_⟩:=hb;simp_all
  ·obtain⟨i,_,_,ha,_⟩:=ha;simp_all
 case interface ms=>
  rcases Mj h with⟨h1,h2,rfl⟩ | ⟨h1,h2,rfl⟩ | ⟨h1,h2,rfl⟩<;>cases a<;>simp[zA.tag]at h1<;>cases b<;>simp[zA.tag]at h2<;>rw[uA]at ha<;>rw[uA]at hb
  ·simp_all
  ·obtain⟨i,hb,_⟩:=hb;simp_all
  ·obtain⟨i,ha,_⟩:=ha;simp_all
theorem KK{t:Nat}{g:Array Field}(h:P.underlying t=some (.struct g)):P.fieldsOf t=g:=by unfold Program.fieldsOf;rw[h]
theorem zdl(hT:iF P C){D:Nat}{eq:Nat->zA->zA->Option Bool}(heq:∀t a b va vb r,uA μ a va->uA μ b vb->eq t a b=some r->(Op.equalIn D t va vb).run P w=.ok r w)
  {xs ys : List zA} {vx vy : Array Value} (hx : tB μ xs vx.toList) (hy : tB μ ys vy.toList) : ∀ (g : List Field) (r : Bool), (∀ f ∈ g, f.name ≠ "_") -> Ir C eq xs ys (g.map fun f => (f.offset, f.type, P.cellsOf f.type)) = some r →
   (Op.eqFields D vx vy g).run P w=.ok r w:=by
 intro g;induction g with
 | nil=>intro r _ h;cases h;rfl
 | cons f g ih=>
  intro r hn h;rw[ycm,Ir]at h;simp only[tA]at h;obtain⟨a,ha,b,hb,q,hq,h⟩:=h
  obtain⟨va,h1,h2⟩:=Ky (P:=P) (w:=w) hT hx ha
  obtain⟨vb,h3,h4⟩:=Ky (P:=P) (w:=w) hT hy hb
  have h5:=heq _ _ _ _ _ _ h2 h4 hq
  rw[Op.eqFields,yab (hn f (by simp))]
  simp only[yad,h1,yac,h3,h5]
  cases q with
  | true=>grind
  | false=>simp_all
theorem zf0(hT:iF P C):∀(d D t:Nat) (a b:zA) (va vb:Value) (r:Bool),d<=D->uA μ a va->uA μ b vb->aeq C d t a b=some r->(Op.equalIn D t va vb).run P w=.ok r w:=by
 intro d;induction d with
 | zero=>intro D t a b va vb r _ _ _ h;cases h
 | succ d ih=>
  intro D t a b va vb r hD ha hb h
  cases D with
  | zero=>omega
  | succ D=>
   rw[aeq,tA]at h;obtain⟨ty,hty,h⟩:=h
   have hF:=hT.facts hty
   split at h
   ·rename_i fs hfs
    simp only[wB,tA,Ip]at h;obtain⟨hok,xs,rfl,ys,rfl,h⟩:=h
    obtain⟨g,hg,rfl⟩:=Fg hF hfs
    obtain⟨h1,_,h3⟩:=hF.eqOk hok
    grind [uA,KK,run_equalIn_struct,zdl]
   grind [WU]
theorem zj0(hT:iF P C){d t:Nat}{a b:zA}{l m:Array Value}{r:Bool}(ha:uA μ a (.agg l))(hb:uA μ b (.agg m))(h:aeq C d t a b=some r):P.eqGuardType P.depth t=false:=by
 cases d with
 | zero=>cases h
 | succ d=>
  rw[aeq,tA]at h;obtain⟨ty,hty,h⟩:=h
  split at h
  ·rw[wB]at h;exact((hT.facts hty).eqOk h.1).2.1
  ·exfalso
   have hag:∀(a:zA) (l:Array Value),uA μ a (.agg l)->a.tag=13:=by
    intro a l ha
    cases a<;>rw[uA]at ha<;>first | rfl | (exfalso;revert ha;simp)
   have h1:=hag _ _ ha
   have h2:=hag _ _ hb
   cases a<;>simp[zA.tag]at h1
   cases b<;>simp[zA.tag]at h2
   revert h
   cases ty.desc<;>simp[Ml,Hz,zA.asBool,zja,zA.asIntK,Zx,zA.asStr,Ch,Sc,zA.tag,xB,Nat.beq]
def CL{a:zA}{v:Value}(h:uA μ a v):v=.nilIface->a.tag=12:=by
 intro hv;subst hv
 cases a<;>rw[uA]at h<;>first | rfl | (exfalso;revert h;simp)
theorem NA(hT:iF P C){op:BinOp}{t yt:TypeId}{x y:Operand}{a b:zA}{neg:Bool}(hx:uA μ a (ρ x))(hy:uA μ b (ρ y))(ha:a.asIntK=none)(hs:a.asStr=none)
  (hop:(neg=false/\op=.eql)\/(neg=true/\op=.neq)) (h:Sz neg C t x y a b=some v):iI P μ w ρ ⟨dst,.binOp op t x y yt,type,pos,after,guard⟩ v:=by
 unfold Sz at h;simp only[wB,tA]at h;obtain⟨hg,r,hr,h⟩:=h
 cases h;have h1:(Op.equal t (ρ x) (ρ y)).run P w=.ok r w:=zf0 hT 20 10000 t a b _ _ r (by decide) hx hy hr
 have hG:(eqGuard op t x y (ρ x) (ρ y)).run P w=.ok () w:=by
  by_cases hag:∃l m,ρ x=.agg l/\ρ y=.agg m
  ·grind [WS,zj0]
  ·refine Mk ?_ fun l m hlm=>hag ⟨l,m,hlm⟩
   by_cases hn:ρ x=.nilIface/\ρ y=.nilIface
   ·right
    have h2:=CL hx hn.1
    have h3:=CL hy hn.2
    simp_all [KV]
   simp_all
 have hnx:∀k n,ρ x≠.int k n:=by
  intro k n hv;rw[hv]at hx
  cases a<;>rw[uA]at hx<;>first | (simp[zA.asIntK]at ha;done) | (revert hx;simp)
 have hsx:∀s,ρ x≠.string s:=by
  intro s hv;rw[hv]at hx
  cases a<;>rw[uA]at hx<;>first | (simp[zA.asStr]at hs;done) | (revert hx;simp)
 have hfx:∀k n,ρ x≠.float k n:=by
  intro k n hv;rw[hv]at hx
  cases a<;>rw[uA]at hx<;>revert hx<;>simp
 have hcx:∀k n m,ρ x≠.complex k n m:=by
  intro k n m hv;rw[hv]at hx
  cases a<;>rw[uA]at hx<;>revert hx<;>simp
 rcases hop with⟨rfl,rfl⟩ | ⟨rfl,rfl⟩
 ·refine⟨.bool r,Gs hG ?_,by rw[uA];rfl⟩
  revert h1 hnx hsx hfx hcx
  generalize ρ x=vx
  generalize ρ y=vy
  intro h1 hnx hsx hfx hcx
  cases vx<;>first
   | exact absurd rfl (hnx _ _)
   | exact absurd rfl (hsx _)
   | exact absurd rfl (hfx _ _)
   | exact absurd rfl (hcx _ _ _)
   | simp[binOp,h1]
 ·refine⟨.bool (!r),Gs hG ?_,by rw[uA];rfl⟩
  revert h1 hnx hsx hfx hcx
  generalize ρ x=vx
  generalize ρ y=vy
  intro h1 hnx hsx hfx hcx
  cases vx<;>first
   | exact absurd rfl (hnx _ _)
   | exact absurd rfl (hsx _)
   | exact absurd rfl (hfx _ _)
   | exact absurd rfl (hcx _ _ _)
   | simp[binOp,h1]
theorem IL(hT:iF P C)(hE:aF μ e ρ){op:BinOp}{t yt:Nat}{x y:Operand}(h:wW op t x y C e H=some v):iI P μ w ρ ⟨dst,.binOp op t x y yt,type,pos,after,guard⟩ v:=by
 unfold wW at h;simp only[tA]at h;obtain⟨a,ha,b,hb,h⟩:=h
 have hx:=hE _ _ ha
 have hy:=hE _ _ hb
 clear ha hb
 revert h
 have plain:∀op,op≠.shl->op≠.shr->AQ op C t x y a b=some v->iI P μ w ρ ⟨dst,.binOp op t x y yt,type,pos,after,guard⟩ v:=by
  intro op _ _ h;unfold AQ at h;split at h
  ·rename_i i hi
   simp only[tA,eW,wB,dO]at h;obtain⟨j,rfl,hk,h⟩:=h
   rw[eW]at hi;subst hi;rw[uA]at hx;rw[uA]at hy;obtain⟨_,_,h2⟩:=zaf (P:=P) (μ:=μ) (w:=w) h
   obtain⟨v',h3,h4⟩:=h2 t
   refine⟨v',Gs (Mk (.inl (by grind)) (by grind)) ?_,h4⟩
   simp_all
  ·rename_i hi
   split at h
   ·rename_i s hs
    simp only[tA,fW]at h;obtain⟨u,rfl,h⟩:=h
    rw[fW]at hs;subst hs;rw[uA]at hx;rw[uA]at hy;obtain⟨sx,hx,rfl⟩:=hx
    obtain⟨sy,hy,rfl⟩:=hy
    obtain⟨_,_,h2⟩:=zae (P:=P) (μ:=μ) (w:=w) h
    obtain⟨v',h3,h4⟩:=h2 t
    refine⟨v',Gs (Mk (.inl (by grind)) (by grind)) ?_,h4⟩
    simp_all
   ·rename_i hs
    cases op<;>simp only[MZ]at h<;>first
     | exact NA hT hx hy hi hs (.inl ⟨rfl,rfl⟩) h
     | exact NA hT hx hy hi hs (.inr ⟨rfl,rfl⟩) h
     | (cases h;done)
 intro h
 cases op<;>simp only[gP]at h<;>first
  | exact MY hx hy (.inl ⟨rfl,h⟩)
  | exact MY hx hy (.inr ⟨rfl,h⟩)
  | exact plain _ (by simp) (by simp) h
theorem Yu{k:IntKind}(h:kLo k=0):cG k=2^k.bits:=by
 cases k<;>first
  | (cases h;done)
  | rfl
theorem zeu(hE:aF μ e ρ){op:UnOp}{t:Nat}{x:Operand}(h:lUn op x C e H=some v):iI P μ w ρ ⟨dst,.unOp op t x,type,pos,after,guard⟩ v:=by
 unfold lUn at h;simp only[tA]at h;obtain⟨a,ha,h⟩:=h
 have hx:=hE _ _ ha
 cases op<;>simp only[unA]at h<;>try (cases h;done)
 case neg=>
  simp only[unNeg,tA,eW]at h;obtain⟨p,rfl,h⟩:=h
  cases h;rw[uA]at hx;refine⟨.int p.1 (p.1.wrap (0-p.2)),?_,by rw[uA,wP]⟩
  simp[execOp,hx,Op.unary,Op.intArith]
 case xor=>
  simp only[Dh,tA,eW,wB,mC]at h;obtain⟨p,rfl,hk,h⟩:=h
  obtain⟨a,b,ha1,hb,hx1,hy,rfl⟩:=Ro h
  rw[uA]at hx;have h1:Nat.xor a b<cG p.1:=by
   have:Nat.xor a b<2^p.1.bits:=Nat.xor_lt_two_pow (by grind [Yu]) (by grind [Yu])
   grind [Yu]
  refine⟨.int p.1 (Nat.xor a b:Nat),?_,by rw[uA]⟩
  have hm:(if p.1.signed then(-1:Int)else p.1.max)=(a:Int):=by
   rw[<- ha1];revert hk
   cases p.1<;>intro hk<;>first
    | (cases hk;done)
    | rfl
  have e2:(Op.intBits .xor p.1 (if p.1.signed then -1 else p.1.max) p.2).run P w=.ok (.int p.1 (Nat.xor a b:Nat)) w:=by
   rw[hm,hb];simp only[Op.intBits,BitVec.toNat_xor,Ai hx1,Ai hy];rw[show(a ^^^ b:Nat)=Nat.xor a b from rfl,Db h1]
   rfl
  simp_all [execOp,Op.unary]
 case not=>
  simp only[unNot,tA,Cm]at h;obtain⟨b,rfl,h⟩:=h
  cases h;rw[uA]at hx;refine⟨.bool (!b),?_,by rw[uA]⟩
  simp[execOp,hx,Op.unary]
end
end Go.Am
