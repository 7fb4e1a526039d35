/- -/
import Derived.Below
import Derived.Calls
import Derived.Laws.Cells
import Derived.Laws.Sem
import Derived.Laws.StructEq
import Derived.Laws.World
import Derived.Lib.Strings
set_option linter.all false
noncomputable section
namespace Go.Am
def yaa := @if_neg
def yab := @if_pos
def yac := @Result.andThen_ok
def yad := @Sem.run_bind
def yae := @Sem.run_pure
def yaf := @List.mem_append
def yag := @Nat.pow_succ
def yah := @List.nil_append
def yai := @Option.bind_some
def yaj := @Array.getElem?_append_left
def yak := @List.drop_eq_nil_iff
def yal := @Bool.or_eq_false_iff
def yam := @Nat.lt_of_le_of_lt
def yan := @Nat.le_mul_of_pos_left
def yao := @Nat.pow_le_pow_right
def yap := @Nat.add_comm
def yaq := @List.mem_map
def yar := @Option.map_eq_some_iff
def yas := @List.flatten_cons
def yat := @Nat.mul_zero
def yau := @Nat.lt_or_ge
def yav := @Nat.eq_zero_or_pos
def yaw := @Nat.zero_le
def yax := @Array.toList_inj
def yay := @Bool.and_false
def yaz := @List.getElem?_cons_zero
def yba := @List.getElem?_cons_succ
def ybb := @Bool.and_eq_true
def ybc := @List.getElem?_eq_some_iff
def ybd := @List.getElem?_eq_getElem
def ybe := @Array.getElem?_eq_some_iff
def ybf := @List.length_map
def ybg := @List.length_append
def ybh := @Nat.mul_comm
def ybi := @Nat.mul_le_mul_right
def ybj := @Nat.mul_assoc
def ybk := @Nat.le_refl
def ybl := @List.drop_eq_getElem_cons
def ybm := @Nat.mul_add
def ybn := @List.length_cons
def ybo := @Nat.add_mul
def ybp := @List.getElem?_append_right
def ybq := @Bool.false_eq_true
def ybr := @List.mem_cons_of_mem
def ybs := @List.mem_cons
def ybt := @List.drop_eq_nil_of_le
def ybu := @List.getElem?_map
def ybv := @Nat.mul_le_mul_left
def ybw := @Nat.zero_add
def ybx := @List.length_nil
def yby := @List.mem_cons_self
def ybz := @List.append_assoc
def yca := @List.take_of_length_le
def ycb := @List.all_eq_true
def ycc := @List.length_eq_zero_iff
def ycd := @List.append_nil
def yce := @Nat.dvd_mul_left_of_dvd
def ycf := @List.mem_append_right
def ycg := @List.all_cons
def ych := @Nat.div_add_mod
def yci := @Option.some.inj
def ycj := @List.getElem_mem
def yck := @List.all_nil
def ycl := @Bool.not_false
def ycm := @List.map_cons
def ycn := @Bool.true_and
def yco := @List.getElem?_append_left
def ycp := @Bool.not_eq_true'
def ycq := @Bool.or_eq_true
def ycr := @List.drop_zero
def ycs := @Array.getElem?_setIfInBounds
def yct := @Nat.add_zero
def ycu := @Nat.div_lt_of_lt_mul
def ycv := @List.mem_of_getElem?
def ycw := @List.getElem?_set
def ycx := @Array.getD_eq_getD_getElem?
def ycy := @Nat.mod_lt
def ycz := @Array.length_toList
def yda := @List.length_take
def ydb := @Nat.mul_le_mul
def ydc := @List.mem_append_left
def ydd := @List.mem_singleton
def yde := @List.getElem?_drop
def ydf := @List.getElem?_take
def ydg := @List.take_add_one
def ydh := @List.length_set
def ydi := @List.all_append
def ydj := @List.length_drop
end Go.Am
namespace Go.Am
inductive Tr (α:Type) where
 | leaf
 | node (l:Tr α) (v:Option α) (r:Tr α)
def ob {α β:Type}(x:Option α)(f:α->Option β):Option β:=Option.rec (motive:=fun _=>Option β) none f x
namespace Tr
variable {α:Type}
def get (t:Tr α):Nat->Option α:=
 Tr.rec (motive:=fun _=>Nat->Option α) (fun _=>none)
  (fun _ v _ gl gr n=>Bool.rec (motive:=fun _=>Option α) (Bool.rec (motive:=fun _=>Option α) (gr (Nat.pred (Nat.div n (nat_lit 2)))) (gl (Nat.div n (nat_lit 2))) (Nat.beq (Nat.mod n (nat_lit 2)) (nat_lit 1))) v (Nat.beq n (nat_lit 0))) t
def mk (f:Nat):Nat->α->Tr α:=
 Nat.rec (motive:=fun _=>Nat->α->Tr α) (fun _ _=>leaf)
  (fun _ g n v=>Bool.rec (motive:=fun _=>Tr α) (Bool.rec (motive:=fun _=>Tr α) (node leaf none (g (Nat.pred (Nat.div n (nat_lit 2))) v)) (node (g (Nat.div n (nat_lit 2)) v) none leaf) (Nat.beq (Nat.mod n (nat_lit 2)) (nat_lit 1))) (node leaf (some v) leaf) (Nat.beq n (nat_lit 0))) f
def set (t:Tr α):Nat->α->Tr α:=
 Tr.rec (motive:=fun _=>Nat->α->Tr α) (fun n v=>mk (Nat.succ n) n v)
  (fun l x r gl gr n v=>Bool.rec (motive:=fun _=>Tr α) (Bool.rec (motive:=fun _=>Tr α) (node l x (gr (Nat.pred (Nat.div n (nat_lit 2))) v)) (node (gl (Nat.div n (nat_lit 2)) v) x r) (Nat.beq (Nat.mod n (nat_lit 2)) (nat_lit 1))) (node l (some v) r) (Nat.beq n (nat_lit 0))) t
def del (t:Tr α):Nat->Tr α:=
 Tr.rec (motive:=fun _=>Nat->Tr α) (fun _=>leaf)
  (fun l x r gl gr n=>Bool.rec (motive:=fun _=>Tr α) (Bool.rec (motive:=fun _=>Tr α) (node l x (gr (Nat.pred (Nat.div n (nat_lit 2))))) (node (gl (Nat.div n (nat_lit 2))) x r) (Nat.beq (Nat.mod n (nat_lit 2)) (nat_lit 1))) (node l none r) (Nat.beq n (nat_lit 0))) t
def many (t:Tr α)(n:Nat):Nat->Option (List α):=
 Nat.rec (motive:=fun _=>Nat->Option (List α)) (fun _=>some [])
  (fun _ g i=>ob (t.get i) fun v=>ob (g (i+1)) fun l=>some (v::l)) n
def setMany(l:List α):Tr α->Nat->Tr α:=
 List.rec (motive:=fun _=>Tr α->Nat->Tr α) (fun t _=>t) (fun v _ g t i=>g (t.set i v) (i+1)) l
def ofList(l:List α):Tr α:=setMany l leaf 0
end Tr
def tD {α:Type}(l:List α):Nat->Option α:=
 List.rec (motive:=fun _=>Nat->Option α) (fun _=>none) (fun a _ g n=>Bool.rec (motive:=fun _=>Option α) (g (Nat.pred n)) (some a) (Nat.beq n (nat_lit 0))) l
def uR{α:Type}(l:List α):Nat->List α:=
 List.rec (motive:=fun _=>Nat->List α) (fun _=>[]) (fun a l g n=>bif Nat.beq n 0 then a::l else g (n-1)) l
def Bm{α:Type}(l:List α):Nat->List α:=
 List.rec (motive:=fun _=>Nat->List α) (fun _=>[]) (fun a _ g n=>bif Nat.beq n 0 then []else a::g (n-1)) l
def yB {α:Type}(l:List α):Nat:=List.rec (motive:=fun _=>Nat) 0 (fun _ _ n=>n+1) l
def fD {α:Type}(l m:List α):List α:=List.rec (motive:=fun _=>List α) m (fun a _ g=>a::g) l
def sD {α:Type}(p:α->Bool)(l:List α):Bool:=List.rec (motive:=fun _=>Bool) true (fun a _ g=>bif p a then g else false) l
def pG{α β:Type}(f:α->Option β)(l:List α):Option (List β):=
 List.rec (motive:=fun _=>Option (List β)) (some []) (fun a _ g=>ob (f a) fun b=>ob g fun r=>some (b::r)) l
def qF(a:List Nat):List Nat->Bool:=
 List.rec (motive:=fun _=>List Nat->Bool) (fun b=>b.isEmpty) (fun x _ g b=>List.rec (motive:=fun _=>Bool) false (fun y b _=>bif Nat.beq x y then g b else false) b) a
def kIdx:IntKind->Nat
 | .i8=>0 | .i16=>1 | .i32=>2 | .i64=>3 | .u8=>4 | .u16=>5 | .u32=>6 | .u64=>7
def gN (a b:IntKind):Bool:=Nat.beq (kIdx a) (kIdx b)
def bEq:Bool->Bool->Bool
 | true,b=>b
 | false,b => !b
def lB:Int->Int->Bool
 | .ofNat a,.ofNat b=>Nat.beq a b
 | .negSucc a,.negSucc b=>Nat.beq a b
 | _,_=>false
def gE:Int->Int->Bool
 | .ofNat a,.ofNat b=>Nat.ble a b
 | .ofNat _,.negSucc _=>false
 | .negSucc _,.ofNat _=>true
 | .negSucc a,.negSucc b=>Nat.ble b a
def fB:Int->Int->Bool
 | .ofNat a,.ofNat b=>Nat.blt a b
 | .ofNat _,.negSucc _=>false
 | .negSucc _,.ofNat _=>true
 | .negSucc a,.negSucc b=>Nat.blt b a
def gG:IntKind->Nat
 | .i8=>128 | .i16=>32768 | .i32=>2147483648 | .i64=>9223372036854775808 | .u8=>256 | .u16=>65536 | .u32=>4294967296 | .u64=>18446744073709551616
def kLo:IntKind->Nat
 | .i8=>128 | .i16=>32768 | .i32=>2147483648 | .i64=>9223372036854775808 | _=>0
def fA(k:IntKind):Int->Int
 | .ofNat n=>bif Nat.blt n (gG k)then .ofNat n else k.wrap (.ofNat n)
 | .negSucc n=>bif Nat.blt n (kLo k)then .negSucc n else k.wrap (.negSucc n)
inductive AFn where
 | func (f:Nat)
 | yld (l:Nat)
inductive zA where
 | bool (b:Bool)
 | int (k:IntKind) (n:Int)
 | str (l:List Nat)
 | nilptr
 | ptr (b off:Nat)
 | nilslice
 | slice (b off len cap:Nat)
 | nilmap
 | map (b:Nat)
 | func (fn:AFn) (first captured:List zA)
 | nilfunc
 | iface (t:Nat) (v:zA)
 | niliface
 | agg (l:List zA)
 | tup (l:List zA)
structure Tm where
 k:Nat
 v:Tr zA
 t:List (Nat × zA)
def assoc(i:Nat)(l:List (Nat × zA)):Option zA:=
 List.rec (motive:=fun _=>Option zA) none (fun a _ g=>Bool.rec (motive:=fun _=>Option zA) g (some a.2) (Nat.beq i a.1)) l
def Tm.get(t:Tm)(i:Nat):Option zA:=Bool.rec (motive:=fun _=>Option zA) (assoc i t.t) (t.v.get i) (Nat.blt i t.k)
def Tm.set(t:Tm)(i:Nat)(x:zA):Tm:=Bool.rec (motive:=fun _=>Tm) ⟨t.k,t.v,(i,x)::t.t⟩ ⟨t.k,t.v.set i x,t.t⟩ (Nat.blt i t.k)
def Tm.cut(t:Tm):Tm:=⟨t.k,t.v,[]⟩
structure mH where
 fn:Option AFn
 r:Nat
 args:List zA
structure mN where
 state:LoopState
 pending:Option Code
 fn:Nat
 n:Nat
 tm:Tm
 params:List Nat
 assign:Code
 body:Code
 defers:Nat
inductive Lo where
 | sz (n:Nat)
 | ty (t:Nat)
def Lo.es:Lo->Nat | .sz n=>n | .ty _=>1
def loEq:Lo->Lo->Bool
 | .sz a,.sz b=>Nat.beq a b
 | .ty a,.ty b=>Nat.beq a b
 | _,_=>false
inductive tA where
 | cells (c:Tr zA) (n:Nat) (loose:Option Lo)
 | map (l:List (zA × zA))
 | loop (l:mN)
 | deferred (l:Option (List mH))
 | siter (s:List Nat) (pos:Nat)
structure xA where
 next:Nat
 t:Tr tA
inductive vE where
 | bool | int (k:IntKind) | string
 | ptr (e:Nat) | slice (e:Nat) | arr (n e:Nat) | map (k e:Nat)
 | struct (fs:List (Nat × Nat × Nat))
 | func | iface | other
structure lD where
 desc:vE
 size:Nat
 bytes:Nat
 zero:List zA
 eqOk:Bool
structure lG where
 heavy:Nat
 lights:List Nat
 again:List Nat
structure Plan where
 first:List Nat
 stages:List lG
 olds:List (Nat × List Nat)
structure iA where
 fns:Tr Func
 ks:Tr Nat
 tys:Tr lD
 plans:Tr (Tr Plan)
 prims:Tr (List zA->xA->Option (zA × xA))
 base:Nat
 root:Nat
inductive oE where
 | code (c:Code)
 | inBlock (id:Nat)
 | inLoop (c:Code)
 | inScope (c:Code)
 | ops (all:Array Oper) (rest:List Oper)
 | reg (all:Array Oper) (old:Tm) (olds:List (Nat × List Nat)) (stages:List lG)
 | inRange (l:Nat)
 | endRange (l:Nat)
 | beginRound
structure Fv where
 v:zA
 recovered:Bool
inductive bW where
 | run | returning
 | panicking (chain:List Fv)
structure bJ where
 fn:Nat
 n:Nat
 defers:List mH
 mode:bW
 deferred:Bool
 roundOf:Option Nat
structure xC where
 todo:List oE
 tm:Tm
 R:bJ
structure oS where
 fr:xC
 cs:List xC
 H:xA
inductive dF where
 | next (s:oS)
 | done (v:zA) (H:xA)
 | fail (why:Nat)
def zA.asBool:zA->Option Bool | .bool b=>some b | _=>none
def zA.asInt:zA->Option Int | .int _ n=>some n | _=>none
def zA.asIntK:zA->Option (IntKind × Int) | .int k n=>some (k,n) | _=>none
def zA.asStr:zA->Option (List Nat) | .str l=>some l | _=>none
def zA.asPtr:zA->Option (Nat × Nat) | .ptr b o=>some (b,o) | _=>none
def zA.asSlice:zA->Option (Nat × Nat × Nat × Nat) | .slice b o l c=>some (b,o,l,c) | _=>none
def zA.asMap:zA->Option Nat | .map b=>some b | _=>none
def zA.asAgg:zA->Option (List zA) | .agg l=>some l | _=>none
def zA.asTup:zA->Option (List zA) | .tup l=>some l | _=>none
def zA.asFunc:zA->Option (AFn × List zA × List zA) | .func f a b=>some (f,a,b) | _=>none
def zA.asIface:zA->Option (Nat × zA) | .iface t v=>some (t,v) | _=>none
def zA.tag:zA->Nat
 | .bool _=>0 | .int _ _=>1 | .str _=>2 | .nilptr=>3 | .ptr _ _=>4 | .nilslice=>5 | .slice _ _ _ _=>6 | .nilmap=>7 | .map _=>8
 | .func _ _ _=>9 | .nilfunc=>10 | .iface _ _=>11 | .niliface=>12 | .agg _=>13 | .tup _=>14
def mM:Int->Option Nat | .ofNat n=>some n | .negSucc _=>none
def zA.asNat(v:zA):Option Nat:=ob v.asInt mM
def zA.cells(v:zA):List zA:=
 match v.asAgg with
 | some l=>l
 | none=>[v]
def zA.one(v:zA):Bool:=Nat.blt v.tag 13
def vE.asInt:vE->Option IntKind | .int k=>some k | _=>none
def vE.asSlice:vE->Option Nat | .slice e=>some e | _=>none
def vE.asArr:vE->Option (Nat × Nat) | .arr n e=>some (n,e) | _=>none
def vE.asMap:vE->Option (Nat × Nat) | .map k e=>some (k,e) | _=>none
def vE.asStruct:vE->Option (List (Nat × Nat × Nat)) | .struct fs=>some fs | _=>none
def vE.tag:vE->Nat
 | .bool=>0 | .int _=>1 | .string=>2 | .ptr _=>3 | .slice _=>4 | .arr _ _=>5 | .map _ _=>6 | .struct _=>7 | .func=>8 | .iface=>9 | .other=>10
def vE.isAgg(d:vE):Bool:=bif Nat.beq d.tag 5 then true else Nat.beq d.tag 7
def vE.isString(d:vE):Bool:=Nat.beq d.tag 2
def tA.asCells:tA->Option (Tr zA × Nat × Option Lo) | .cells c n l=>some (c,n,l) | _=>none
def tA.asMap:tA->Option (List (zA × zA)) | .map l=>some l | _=>none
def tA.asLoop:tA->Option mN | .loop l=>some l | _=>none
def tA.asDeferred:tA->Option (Option (List mH)) | .deferred l=>some l | _=>none
def tA.asIter:tA->Option (List Nat × Nat) | .siter s p=>some (s,p) | _=>none
def tB{α:Type}(b:Bool)(x:Option α):Option α:=Bool.rec (motive:=fun _=>Option α) none x b
def pD:zA:=.tup []
def pF(s:ByteArray):List Nat:=s.data.toList.map UInt8.toNat
def Hc:Value->Option zA
 | .bool b=>some (.bool b)
 | .int k n=>some (.int k n)
 | .string s=>some (.str (pF s))
 | .pointer none=>some .nilptr
 | .slice none 0 0=>some .nilslice
 | .map none=>some .nilmap
 | .nilFunc=>some .nilfunc
 | .nilIface=>some .niliface
 | _=>none
def zmz:Value->Option (Array Value)
 | .agg cs=>some cs
 | _=>none
def AG(v:Value):Option zA:=
 match zmz v with
 | some cs=>ob (pG Hc cs.toList) fun l=>some (.agg l)
 | none=>Hc v
inductive vD where
 | now (tm:Tm)
 | mixed (tm old:Tm) (olds names:List Nat)
def dH(i:Nat)(l:List Nat):Bool:=List.rec (motive:=fun _=>Bool) false (fun j _ g=>bif Nat.beq i j then true else g) l
def aY (t:Nat)(e:vD):Option zA:=
 match e with
 | .now tm=>tm.get t
 | .mixed tm old olds names=>bif dH t names then Tm.get (bif dH t olds then old else tm) t else none
def xConst(v:Value)(_:vD):Option zA:=AG v
def Wd(g:Nat)(_:vD):Option zA:=bif Nat.blt g 256 then some (.ptr g 0)else none
def xFunc(f:Nat)(_:vD):Option zA:=some (.func (.func f) [] [])
structure EB where f:vD->Option zA
def evB:Operand->EB
 | .tmp t=>⟨aY t⟩
 | .const v=>⟨xConst v⟩
 | .global g=>⟨Wd g⟩
 | .func f=>⟨xFunc f⟩
def ev (x:Operand)(e:vD):Option zA:=(evB x).f e
def kO (l:List Operand)(e:vD):Option (List zA):=pG (fun x=>ev x e) l
def evo (x:Option Operand)(e:vD):Option (Option zA):=
 match x with
 | none=>some none
 | some x=>ob (ev x e) fun v=>some (some v)
def evp (l:List (Nat × Operand))(e:vD):Option (List (Nat × zA)):=pG (fun x=>ob (ev x.2 e) fun v=>some (x.1,v)) l
def qD(H:xA)(b:Nat):Option (Tr zA × Nat × Option Lo):=ob (H.t.get b) tA.asCells
def nL(H:xA)(b:Nat):Option (List (zA × zA)):=ob (H.t.get b) tA.asMap
def wT(ty:lD)(c:Tr zA)(off:Nat):Option zA:=
 bif ty.desc.isAgg then ob (c.many ty.size off) fun l=>some (.agg l)else c.get off
def eQ(C:iA)(t:Nat)(l:List zA)(off:Nat):Option zA:=
 ob (C.tys.get t) fun ty=>bif ty.desc.isAgg then some (.agg (Bm (uR l off) ty.size))else tD l off
def cY(ty:lD):zA:=
 bif ty.desc.isAgg then .agg ty.zero else match ty.zero with
  | v::_=>v
  | []=>pD
def AY(a:List Nat):List Nat->Bool:=
 List.rec (motive:=fun _=>List Nat->Bool) (fun b => !b.isEmpty)
  (fun x _ g b=>List.rec (motive:=fun _=>Bool) false (fun y b _=>bif Nat.blt x y then true else bif Nat.beq x y then g b else false) b) a
def Ky(a b:zA):Option Bool:=ob a.asBool fun x=>ob b.asBool fun y=>some (bEq x y)
def zp8(a b:zA):Option Bool:=ob a.asIntK fun x=>ob b.asIntK fun y=>tB (gN x.1 y.1) (some (lB x.2 y.2))
def CX(a b:zA):Option Bool:=ob a.asStr fun x=>ob b.asStr fun y=>some (qF x y)
def Fdzx(n m:Nat)(a b:zA):Option Bool:=
 bif Nat.beq a.tag n then(bif Nat.beq b.tag n then some true else tB (Nat.beq b.tag m) (some false))
 else tB (Nat.beq a.tag m&&Nat.beq b.tag n) (some false)
def Uq(_ _:zA):Option Bool:=none
def Pv:vE->zA->zA->Option Bool
 | .bool=>Ky
 | .int _=>zp8
 | .string=>CX
 | .ptr _=>Fdzx 3 4
 | .iface=>Fdzx 12 11
 | .slice _=>Fdzx 5 6
 | .map _ _=>Fdzx 7 8
 | .func=>Fdzx 10 9
 | .arr _ _=>Uq
 | .struct _=>Uq
 | .other=>Uq
def Ls(C:iA)(eq:Nat->zA->zA->Option Bool)(xs ys:List zA):List (Nat × Nat × Nat)->Option Bool
 | []=>some true
 | f::fs=>ob (eQ C f.2.1 xs f.1) fun a=>ob (eQ C f.2.1 ys f.1) fun b=>ob (eq f.2.1 a b) fun r=>bif r then Ls C eq xs ys fs else some false
def aeq (C:iA):Nat->Nat->zA->zA->Option Bool
 | 0,_,_,_=>none
 | d+1,t,x,y=>ob (C.tys.get t) fun ty=>
  match ty.desc.asStruct with
  | some fs=>tB ty.eqOk (ob x.asAgg fun xs=>ob y.asAgg fun ys=>Ls C (aeq C d) xs ys fs)
  | none=>Pv ty.desc x y
def iAdd (k:IntKind)(a b:Int):Option zA:=some (.int k (fA k (a+b)))
def iSub (k:IntKind)(a b:Int):Option zA:=some (.int k (fA k (a-b)))
def iMul (k:IntKind)(a b:Int):Option zA:=some (.int k (fA k (a*b)))
def Bu (k:IntKind)(a b:Int):Option zA:=bif lB b 0 then none else some (.int k (fA k (a.tdiv b)))
def Bt (k:IntKind)(a b:Int):Option zA:=bif lB b 0 then none else some (.int k (a.tmod b))
def jI(f:Nat->Nat->Nat)(k:IntKind)(a b:Int):Option zA:=ob (mM a) fun x=>ob (mM b) fun y=>tB (Nat.blt x (gG k)&&Nat.blt y (gG k)) (some (.int k (.ofNat (f x y))))
def kW:IntKind->Nat
 | .i8=>256 | .u8=>256 | .i16=>65536 | .u16=>65536 | .i32=>4294967296 | .u32=>4294967296 | .i64=>18446744073709551616 | .u64=>18446744073709551616
def iAnd (k:IntKind)(a b:Int):Option zA:=
 match mM a with
 | some _=>jI Nat.land k a b
 | none=>ob (mM b) fun y=>tB (Nat.blt y (gG k)) (some (.int k (.ofNat (Nat.land (Int.toNat (Int.emod a (.ofNat (kW k)))) y))))
def iEql (_:IntKind)(a b:Int):Option zA:=some (.bool (lB a b))
def iNeq (_:IntKind)(a b:Int):Option zA:=some (.bool (!lB a b))
def iLss (_:IntKind)(a b:Int):Option zA:=some (.bool (fB a b))
def iLeq (_:IntKind)(a b:Int):Option zA:=some (.bool (gE a b))
def iGtr (_:IntKind)(a b:Int):Option zA:=some (.bool (fB b a))
def iGeq (_:IntKind)(a b:Int):Option zA:=some (.bool (gE b a))
def iNone(_:IntKind)(_ _:Int):Option zA:=none
structure IB where f:IntKind->Int->Int->Option zA
def DS:BinOp->IB
 | .add=>⟨iAdd⟩ | .sub=>⟨iSub⟩ | .mul=>⟨iMul⟩ | .quo=>⟨Bu⟩ | .rem=>⟨Bt⟩
 | .and=>⟨iAnd⟩ | .or=>⟨jI Nat.lor⟩ | .xor=>⟨jI Nat.xor⟩
 | .eql=>⟨iEql⟩ | .neq=>⟨iNeq⟩ | .lss=>⟨iLss⟩ | .leq=>⟨iLeq⟩ | .gtr=>⟨iGtr⟩ | .geq=>⟨iGeq⟩
 | _=>⟨iNone⟩
def jN (a b:List Nat):Option zA:=tB (Nat.blt (yB a+yB b) 4611686018427387904) (some (.str (fD a b)))
def sEql (a b:List Nat):Option zA:=some (.bool (qF a b))
def sNeq (a b:List Nat):Option zA:=some (.bool (!qF a b))
def sLss (a b:List Nat):Option zA:=some (.bool (AY a b))
def sNone(_ _:List Nat):Option zA:=none
structure SB where f:List Nat->List Nat->Option zA
def DQ:BinOp->SB
 | .add=>⟨jN⟩ | .eql=>⟨sEql⟩ | .neq=>⟨sNeq⟩ | .lss=>⟨sLss⟩
 | _=>⟨sNone⟩
def Pj:Operand->Bool
 | .const _=>true
 | _=>false
def Gq(k:IntKind)(b:Int):Option Nat:=ob (mM b) fun n=>some (min n k.bits)
def tY (k:IntKind)(a b:Int):Option zA:=ob (Gq k b) fun n=>some (.int k (fA k (a*.ofNat (2^n))))
def Ho (k:IntKind)(a b:Int):Option zA:=ob (Gq k b) fun n=>some (.int k (a.fdiv (.ofNat (2^n))))
def Qn(f:IntKind->Int->Int->Option zA)(a b:zA):Option zA:=ob a.asIntK fun x=>ob b.asInt fun y=>f x.1 x.2 y
def OF(x y:Operand)(a b:zA):Bool:=
 bif Nat.beq a.tag 12&&Nat.beq b.tag 12 then Pj x||Pj y else true
def Vp(neg:Bool)(C:iA)(t:Nat)(x y:Operand)(a b:zA):Option zA:=
 tB (OF x y a b) (ob (aeq C 20 t a b) fun r=>some (.bool (bif neg then !r else r)))
def binNo(_:iA)(_:Nat)(_ _:Operand)(_ _:zA):Option zA:=none
structure BB where f:iA->Nat->Operand->Operand->zA->zA->Option zA
def zfl:BinOp->BB
 | .eql=>⟨Vp false⟩
 | .neq=>⟨Vp true⟩
 | _=>⟨binNo⟩
def DR(op:BinOp)(C:iA)(t:Nat)(x y:Operand)(a b:zA):Option zA:=
 match a.asIntK with
 | some i=>ob b.asIntK fun j=>tB (gN i.1 j.1) ((DS op).f i.1 i.2 j.2)
 | none=>match a.asStr with
  | some s=>ob b.asStr fun u=>(DQ op).f s u
  | none=>(zfl op).f C t x y a b
def binShl(_:iA)(_:Nat)(_ _:Operand)(a b:zA):Option zA:=Qn tY a b
def binShr(_:iA)(_:Nat)(_ _:Operand)(a b:zA):Option zA:=Qn Ho a b
def Cu:BinOp->BB
 | .shl=>⟨binShl⟩
 | .shr=>⟨binShr⟩
 | op=>⟨DR op⟩
def unNeg(a:zA):Option zA:=ob a.asIntK fun x=>some (.int x.1 (fA x.1 (0-x.2)))
def unNot(a:zA):Option zA:=ob a.asBool fun b=>some (.bool (!b))
def Gj(a:zA):Option zA:=ob a.asIntK fun x=>tB (Nat.beq (kLo x.1) 0) (jI Nat.xor x.1 (.ofNat (gG x.1-1)) x.2)
def unNone(_:zA):Option zA:=none
structure UB where f:zA->Option zA
def unA:UnOp->UB
 | .neg=>⟨unNeg⟩
 | .xor=>⟨Gj⟩
 | .not=>⟨unNot⟩
 | _=>⟨unNone⟩
def jW(v:zA):Option Nat:=ob v.asIntK fun x=>tB (gN x.1 .u8) (ob (mM x.2) fun n=>tB (Nat.blt n 256) (some n))
def Ib(H:xA)(a:zA):Option zA:=
 match a.asSlice with
 | some x=>ob (qD H x.1) fun c=>ob (c.1.many x.2.2.1 x.2.1) fun l=>ob (pG jW l) fun r=>some (.str r)
 | none=>tB (Nat.beq a.tag 5) (some (.str []))
def gT(C:iA)(s d:lD)(a:zA)(H:xA):Option zA:=
 match d.desc.asInt with
 | some k=>ob a.asInt fun n=>some (.int k (fA k n))
 | none=>tB d.desc.isString (bif Nat.beq a.tag 2 then some a else
   ob s.desc.asSlice fun e=>ob (C.tys.get e) fun et=>ob et.desc.asInt fun k=>tB (gN k .u8) (Ib H a))
def nY(y:Nat)(v:zA):Option Nat:=ob v.asNat fun n=>tB (Nat.ble n y) (some n)
def Cr(y dflt:Nat)(v:Option zA):Option Nat:=
 match v with
 | some v=>nY y v
 | none=>some dflt
def nQ(len cap:Nat)(lo hi:Option zA):Option (Nat × Nat):=
 ob (Cr cap len hi) fun h=>ob (Cr h 0 lo) fun l=>some (l,h)
def rO(H:xA)(b size cap l:Nat)(arr:Bool):Bool:=
 match qD H b with
 | some c=>match c.2.2 with
  | none=>true
  | some es => !arr&&Nat.beq es.es size&&(!Nat.beq cap l||Nat.beq l 0)
 | none=>false
def lN(H:xA)(b size cap l:Nat)(arr:Bool):Bool:=
 match qD H b with
 | some c=>match c.2.2 with
  | none=>false
  | some es => !arr&&Nat.beq es.es size&&Nat.beq cap l && !Nat.beq l 0
 | none=>false
def zQ(C:iA)(H:xA)(arr:Bool)(e b off len cap:Nat)(lo hi:Option zA):Option zA:=
 ob (C.tys.get e) fun et=>ob (nQ len cap lo hi) fun x=>
  bif Nat.ble x.2 cap&&Nat.ble x.1 x.2&&lN H b et.size cap x.1 arr then some (.slice 0 1 0 0)else
  tB (Nat.ble x.2 cap&&rO H b et.size cap x.1 arr) (some (.slice b (bif Nat.beq cap x.1 then off else off+x.1*et.size) (x.2-x.1) (cap-x.1)))
def Nj(s:List Nat)(lo hi:Option zA):Option zA:=
 let n:=yB s
 ob (nQ n n lo hi) fun x=>some (.str (uR (Bm s x.2) x.1))
def kN(C:iA)(H:xA)(ty:lD)(x:zA)(lo hi:Option zA):Option zA:=
 match x.asStr with
 | some s=>tB ty.desc.isString (Nj s lo hi)
 | none=>match x.asSlice with
  | some r=>ob ty.desc.asSlice fun e=>zQ C H false e r.1 r.2.1 r.2.2.1 r.2.2.2 lo hi
  | none=>match x.asPtr with
   | some p=>ob ty.desc.asArr fun a=>zQ C H true a.2 p.1 p.2 a.1 a.1 lo hi
   | none=>tB (Nat.beq x.tag 5) (ob ty.desc.asSlice fun e=>ob (C.tys.get e) fun _=>ob (nQ 0 0 lo hi) fun _=>some .nilslice)
def nW(cells:List zA)(off size:Nat)(v:zA):Option (List zA):=
 let vc:=v.cells
 let n:=yB vc
 tB (Nat.beq n size&&Nat.ble (off+n) (yB cells)) (some (fD (Bm cells off) (fD vc (uR cells (off+n)))))
def vM(place:Nat->Option (Nat × Nat)):List (Nat × zA)->List zA->Option (List zA)
 | [],cells=>some cells
 | p::rest,cells=>ob (place p.1) fun q=>ob (nW cells q.1 q.2 p.2) fun cells=>vM place rest cells
def vW(d:vE):Bool:=Nat.ble d.tag 2
def keyTag(v:zA):Nat:=v.tag
def Hk(d:vE)(v:zA):Bool:=Nat.beq d.tag (keyTag v)
def Cd(C:iA):List (Nat × Nat × Nat)->Nat->Bool
 | [],_=>true
 | f::fs,i=>bif Nat.beq f.1 i then(match C.tys.get f.2.1 with
  | some ty=>bif vW ty.desc then Cd C fs (i+1)else false
  | none=>false)else false
def wW(C:iA)(ty:lD):Bool:=bif vW ty.desc then true else match ty.desc.asStruct with
 | some fs=>bif ty.eqOk then Cd C fs 0 else false
 | none=>false
def Ci(C:iA):List (Nat × Nat × Nat)->List zA->Bool
 | [],[]=>true
 | f::fs,v::l=>(match C.tys.get f.2.1 with
  | some ty=>bif Hk ty.desc v then Ci C fs l else false
  | none=>false)
 | _,_=>false
def rT(C:iA)(ty:lD)(v:zA):Bool:=bif vW ty.desc then Hk ty.desc v else match ty.desc.asStruct with
 | some fs=>(match v.asAgg with
  | some l=>Ci C fs l
  | none=>false)
 | none=>false
def rR(a b:zA):Option Bool:=
 match a.asIntK with
 | some x=>ob b.asIntK fun y=>tB (gN x.1 y.1) (some (lB x.2 y.2))
 | none=>match a.asStr with
  | some x=>ob b.asStr fun y=>some (qF x y)
  | none=>Ky a b
def xW:List zA->List zA->Option Bool
 | [],[]=>some true
 | a::x,b::y=>ob (rR a b) fun r=>ob (xW x y) fun s=>some (r&&s)
 | _,_=>none
def lI(a b:zA):Option Bool:=
 match a.asAgg with
 | some x=>ob b.asAgg fun y=>xW x y
 | none=>rR a b
def pL(k:zA):List (zA × zA)->Option (Option zA)
 | []=>some none
 | e::l=>ob (lI k e.1) fun r=>bif r then some (some e.2)else pL k l
def qO(k v:zA):List (zA × zA)->Option (List (zA × zA))
 | []=>some [(k,v)]
 | e::l=>ob (lI k e.1) fun r=>bif r then some ((k,v)::l)else ob (qO k v l) fun l=>some (e::l)
abbrev eJ:=iA->vD->xA->Option zA
def Bp:eJ:=fun _ _ _=>none
def tQ(x:Operand):eJ:=fun _ e _=>ev x e
def Pb(c a b:Operand):eJ:=fun _ e _=>ob (ev c e) fun c=>ob c.asBool fun c=>bif c then ev a e else ev b e
def dX(t:Nat)(a:Operand):eJ:=fun C e H=>ob (ev a e) fun v=>ob v.asPtr fun p=>ob (C.tys.get t) fun ty=>ob (qD H p.1) fun c=>wT ty c.1 p.2
def Bq (x:Operand):eJ:=fun _ e _=>ob (ev x e) fun v=>tB (Nat.beq v.tag 4||Nat.beq v.tag 9) (some v)
def yY (op:BinOp)(t:Nat)(x y:Operand):eJ:=fun C e _=>ob (ev x e) fun a=>ob (ev y e) fun b=>(Cu op).f C t x y a b
def lUn (op:UnOp)(x:Operand):eJ:=fun _ e _=>ob (ev x e) fun a=>(unA op).f a
def sQ(s d:Nat)(x:Operand):eJ:=fun C e H=>ob (ev x e) fun a=>ob (C.tys.get s) fun s=>ob (C.tys.get d) fun d=>gT C s d a H
def En(t:Nat)(x:Operand):eJ:=fun C e _=>ob (C.tys.get t) fun ty=>tB (Nat.blt ty.desc.tag 9) (ob (ev x e) fun v=>some (.iface t v))
def Kn(f:Nat)(a b:Array Operand):eJ:=fun _ e _=>ob (kO a.toList e) fun a=>ob (kO b.toList e) fun b=>some (.func (.func f) a b)
structure LB where f:eJ
def Eo(fn:Fn)(a b:Array Operand):LB:=
 match fn with
 | .func f=>⟨Kn f a b⟩
 | _=>⟨Bp⟩
def Bo(t:Nat)(x:Operand)(lo hi:Option Operand):eJ:=fun C e H=>
 ob (ev x e) fun a=>ob (evo lo e) fun l=>ob (evo hi e) fun h=>ob (C.tys.get t) fun ty=>kN C H ty a l h
def Pa(t:Nat)(x:Operand)(lo hi mx:Option Operand):LB:=
 match mx with
 | none=>⟨Bo t x lo hi⟩
 | some _=>⟨Bp⟩
def aX(s:Nat)(x:Operand)(f:Nat):eJ:=fun C e _=>
 ob (C.tys.get s) fun ty=>ob ty.desc.asStruct fun fs=>ob (tD fs f) fun fd=>tB (!Nat.beq fd.2.2 0) (ob (ev x e) fun v=>ob v.asPtr fun p=>some (.ptr p.1 (p.2+fd.1)))
def Ep(t:Nat)(x:Operand)(f:Nat):eJ:=fun C e _=>
 ob (C.tys.get t) fun ty=>ob ty.desc.asStruct fun fs=>ob (tD fs f) fun fd=>ob (ev x e) fun v=>ob v.asAgg fun l=>eQ C fd.2.1 l fd.1
def cX(t:Nat)(x i:Operand):eJ:=fun C e _=>
 ob (C.tys.get t) fun ty=>ob (ev x e) fun v=>ob (ev i e) fun i=>ob i.asNat fun i=>
  match v.asSlice with
  | some s=>ob ty.desc.asSlice fun el=>ob (C.tys.get el) fun et=>tB (Nat.blt i s.2.2.1) (some (.ptr s.1 (s.2.1+i*et.size)))
  | none=>ob v.asPtr fun p=>ob ty.desc.asArr fun a=>ob (C.tys.get a.2) fun et=>tB (Nat.blt i a.1) (some (.ptr p.1 (p.2+i*et.size)))
def bX(t:Nat)(x i:Operand):eJ:=fun C e _=>
 ob (C.tys.get t) fun ty=>ob (ev x e) fun v=>ob (ev i e) fun i=>ob i.asNat fun i=>
  match v.asStr with
  | some s=>tB ty.desc.isString (ob (tD s i) fun b=>some (.int .u8 (.ofNat b)))
  | none=>ob v.asAgg fun l=>ob ty.desc.asArr fun a=>ob (C.tys.get a.2) fun et=>tB (Nat.blt i a.1) (eQ C a.2 l (i*et.size))
def zY(t:Operand)(i:Nat):eJ:=fun _ e _=>ob (ev t e) fun v=>ob v.asTup fun l=>tD l i
def lZ(t:Nat)(parts:Array (Nat × Operand)):eJ:=fun C e _=>
 ob (C.tys.get t) fun ty=>ob (evp parts.toList e) fun ps=>
  match ty.desc.asStruct with
  | some fs=>ob (vM (fun i=>ob (tD fs i) fun x=>some (x.1,x.2.2)) ps ty.zero) fun l=>some (.agg l)
  | none=>ob ty.desc.asArr fun a=>ob (C.tys.get a.2) fun et=>ob (vM (fun i=>some (i*et.size,et.size)) ps ty.zero) fun l=>some (.agg l)
def xY(x:Operand)(asserted:Nat)(ok:Bool):eJ:=fun C e _=>
 ob (C.tys.get asserted) fun ty=>tB (Nat.blt ty.desc.tag 9) (ob (ev x e) fun v=>
  match v.asIface with
  | some p=>bif Nat.beq p.1 asserted then some (bif ok then .tup [p.2,.bool true]else p.2)else tB ok (some (.tup [cY ty,.bool false]))
  | none=>tB (Nat.beq v.tag 12&&ok) (some (.tup [cY ty,.bool false])))
def lX(H:xA)(v:zA):Option (List (zA × zA)):=
 match v.asMap with
 | some b=>nL H b
 | none=>tB (Nat.beq v.tag 7) (some [])
def eX(t:Nat)(x i:Operand)(ok:Bool):eJ:=fun C e H=>
 ob (C.tys.get t) fun ty=>ob ty.desc.asMap fun ke=>ob (C.tys.get ke.1) fun kty=>tB (wW C kty) (ob (C.tys.get ke.2) fun ety=>
  ob (ev x e) fun m=>ob (lX H m) fun es=>ob (ev i e) fun k=>tB (rT C kty k) (ob (pL k es) fun r=>
   match r with
   | some v=>some (bif ok then .tup [v,.bool true]else v)
   | none=>some (bif ok then .tup [cY ety,.bool false]else cY ety)))
def yW (H:xA)(ty:lD)(v:zA):Option Nat:=
 match v.asStr with
 | some s=>tB ty.desc.isString (some (yB s))
 | none=>match v.asSlice with
  | some s=>tB (Nat.beq ty.desc.tag 4) (some s.2.2.1)
  | none=>match ty.desc.asArr with
   | some a=>some a.1
   | none=>match v.asMap with
    | some b=>tB (Nat.beq ty.desc.tag 6) (ob (nL H b) fun l=>some (yB l))
    | none=>tB ((Nat.beq ty.desc.tag 4&&Nat.beq v.tag 5)||(Nat.beq ty.desc.tag 6&&Nat.beq v.tag 7)) (some 0)
def tR (c:Call):eJ:=fun C e H=>
 ob (tD c.argTypes.toList 0) fun t=>ob (tD c.args.toList 0) fun x=>ob (C.tys.get t) fun ty=>ob (ev x e) fun v=>ob (yW H ty v) fun n=>some (.int .i64 (.ofNat n))
def two (c:Call)(e:vD):Option (zA × zA):=
 match c.args.toList with
 | [x,y]=>ob (ev x e) fun a=>ob (ev y e) fun b=>some (a,b)
 | _=>none
def fX (c:Call):eJ:=fun _ e _=>ob (two c e) fun p=>ob p.1.asIntK fun x=>ob p.2.asIntK fun y=>some (.int x.1 (bif fB x.2 y.2 then y.2 else x.2))
def iX (c:Call):eJ:=fun _ e _=>ob (two c e) fun p=>ob p.1.asIntK fun x=>ob p.2.asIntK fun y=>some (.int x.1 (bif fB y.2 x.2 then y.2 else x.2))
def Tp(c:Call):Builtin->LB
 | .len=>⟨tR c⟩
 | .max=>⟨fX c⟩
 | .min=>⟨iX c⟩
 | _=>⟨Bp⟩
def dU(c:Call):Callee->LB
 | .builtin b=>Tp c b
 | _=>⟨Bp⟩
def zpb(c:Call):LB:=dU c c.callee
def jF:Op->LB
 | .move x=>⟨tQ x⟩
 | .assign x=>⟨tQ x⟩
 | .pick c a b=>⟨Pb c a b⟩
 | .load t a=>⟨dX t a⟩
 | .nilCheck x=>⟨Bq x⟩
 | .binOp op t x y _=>⟨yY op t x y⟩
 | .unOp op _ x=>⟨lUn op x⟩
 | .convert s d x=>⟨sQ s d x⟩
 | .makeInterface t x=>⟨En t x⟩
 | .makeFunc fn a b=>Eo fn a b
 | .slice t x lo hi mx=>Pa t x lo hi mx
 | .fieldAddr s x f=>⟨aX s x f⟩
 | .field t x f=>⟨Ep t x f⟩
 | .indexAddr t x i=>⟨cX t x i⟩
 | .index t x i=>⟨bX t x i⟩
 | .extract t i=>⟨zY t i⟩
 | .build t ps=>⟨lZ t ps⟩
 | .typeAssert x _ u ok=>⟨xY x u ok⟩
 | .lookup t x i ok=>⟨eX t x i ok⟩
 | .call c=>zpb c
 | _=>⟨Bp⟩
inductive sK where
 | val (v:zA) (H:xA)
 | enter (f:Nat) (args:List zA)
 | round (l:Nat) (args:List zA)
 | defer (d:mH)
 | panic (v:zA)
 | recover
 | fail
abbrev rS:=iA->vD->xA->sK
structure HB where f:rS
def dL (x:Option (zA × xA)):sK:=
 match x with
 | some p=>.val p.1 p.2
 | none=>.fail
def Ba (x:Option sK):sK:=
 match x with
 | some r=>r
 | none=>.fail
def lv (f:eJ):rS:=fun C e H=>
 match f C e H with
 | some v=>.val v H
 | none=>.fail
def newBlk(H:xA)(b:tA):xA:=⟨H.next+1,H.t.set H.next b⟩
def rF(H:xA)(l:List zA)(loose:Option Lo):xA:=newBlk H (.cells (Tr.ofList l) (yB l) loose)
def setBlk(H:xA)(b:Nat)(x:tA):xA:=⟨H.next,H.t.set b x⟩
def oI (zero:List zA):Nat->List zA
 | 0=>[]
 | n+1=>fD zero (oI zero n)
def Em(v:zA):Option Nat:=
 match v.asSlice with
 | some s=>some s.2.2.1
 | none=>match v.asStr with
  | some s=>some (yB s)
  | none=>tB (Nat.beq v.tag 5) (some 0)
def eZ(l:List Nat):List zA:=l.map fun n=>zA.int .u8 (Int.ofNat n)
def oW(H:xA)(size n:Nat)(v:zA):Option (List zA):=
 match v.asSlice with
 | some s=>ob (qD H s.1) fun c=>c.1.many (n*size) s.2.1
 | none=>match v.asStr with
  | some s=>some (eZ (Bm s n))
  | none=>tB (Nat.beq v.tag 5) (some [])
def sJ(C:iA)(H:xA)(b off:Nat)(l:List zA):Option xA:=
 tB (!Nat.blt b C.base) (ob (qD H b) fun c=>
  tB (Nat.ble (off+yB l) c.2.1&&sD zA.one l) (some (setBlk H b (.cells (c.1.setMany l off) c.2.1 c.2.2))))
def Bz(et:lD)(len cap n:Nat)(new:List zA):Bool:=
 Nat.blt (len+n+cap) 1000000000&&Nat.blt ((len+n+cap)*et.bytes) 1000000000&&Nat.blt et.bytes 1000000000 && !Nat.beq et.size 0&&Nat.beq (yB new) (n*et.size)&&Nat.beq (yB et.zero) et.size
def zdt(et:lD):Bool:=match et.desc with | .int .u8=>true | _=>false
def qN(e:Nat)(et:lD):Lo:=bif Nat.beq et.size 1&&zdt et then .ty e else .sz et.size
def jZ(H:xA)(e:Nat)(et:lD)(n:Nat)(new:List zA):Option (zA × xA):=
 bif Nat.beq n 0 then some (.nilslice,H)else
  tB (Bz et 0 0 n new) (some (.slice H.next 0 n n,rF H new (some (qN e et))))
def Bx(C:iA)(H:xA)(et:lD)(n:Nat)(new:List zA)(s:Nat × Nat × Nat × Nat):Option (zA × xA):=
 match new with
 | []=>some (.slice s.1 s.2.1 (s.2.2.1+n) s.2.2.2,H)
 | _::_=>ob (sJ C H s.1 (s.2.1+s.2.2.1*et.size) new) fun H'=>some (.slice s.1 s.2.1 (s.2.2.1+n) s.2.2.2,H')
def Kv(H:xA)(e:Nat)(et:lD)(n:Nat)(new:List zA)(s:Nat × Nat × Nat × Nat)(c:Tr zA):Option (zA × xA):=
 ob (c.many (s.2.2.1*et.size) s.2.1) fun old=>some (.slice H.next 0 (s.2.2.1+n) (s.2.2.1+n),rF H (fD old new) (some (qN e et)))
def Kw(C:iA)(H:xA)(e:Nat)(et:lD)(n:Nat)(new:List zA)(s:Nat × Nat × Nat × Nat)(c:Tr zA)(m:Nat)(lo:Lo):Option (zA × xA):=
 tB (Nat.beq s.2.1 0&&loEq lo (qN e et)&&Nat.ble (s.2.2.1*et.size) m&&Nat.ble m ((s.2.2.1+n)*et.size)&&sD zA.one new && !Nat.blt s.1 C.base)
  (some (.slice H.next 0 (s.2.2.1+n) (s.2.2.1+n),⟨H.next+1,(H.t.del s.1).set H.next (.cells (c.setMany new (s.2.2.1*et.size)) ((s.2.2.1+n)*et.size) (some lo))⟩))
def Ca(C:iA)(H:xA)(e:Nat)(et:lD)(n:Nat)(new:List zA)(s:Nat × Nat × Nat × Nat):Option (zA × xA):=
 tB (!(Nat.beq s.2.1 1&&Nat.beq s.2.2.2 0)) (tB (Bz et s.2.2.1 s.2.2.2 n new) (ob (qD H s.1) fun c=>
  match c.2.2 with
  | none=>Kv H e et n new s c.1
  | some lo=>Kw C H e et n new s c.1 c.2.1 lo))
def Aa(C:iA)(H:xA)(ty:lD)(s x:zA):Option (zA × xA):=
 ob ty.desc.asSlice fun e=>ob (C.tys.get e) fun et=>ob (Em x) fun n=>ob (oW H et.size n x) fun new=>
  match s.asSlice with
  | some s=>bif Nat.ble (s.2.2.1+n) s.2.2.2 then Bx C H et n new s else Ca C H e et n new s
  | none=>tB (Nat.beq s.tag 5) (jZ H e et n new)
def isBld(C:iA)(t:Nat):Bool:=
 match ob (C.tys.get t) fun ty=>ob ty.desc.asStruct fun fs=>ob (tD fs 0) fun f=>ob (C.tys.get f.2.1) fun tf=>some tf.desc with
 | some (.ptr e)=>Nat.beq e t
 | _=>false
def pK(C:iA)(t:Nat):Option Lo:=
 bif isBld C t then some (.ty t)else
 match ob (C.tys.get t) fun ty=>ob ty.desc.asStruct fun fs=>ob (tD fs 0) fun f=>some (isBld C f.2.1)with
 | some true=>some (.ty t)
 | _=>none
def Ey(t:Nat):rS:=fun C _ H=>dL (ob (C.tys.get t) fun ty=>some (.ptr H.next 0,rF H ty.zero (pK C t)))
def Bw (t:Nat)(x:Operand):rS:=fun C e H=>dL (ob (ev x e) fun v=>some (.ptr H.next 0,rF H v.cells (pK C t)))
def Bn (C:iA):Op->Option Lo
 | .alloc t=>pK C t
 | .box t _=>pK C t
 | _=>none
def Ew(t len:Nat)(parts:Array (Nat × Operand)):rS:=fun C e H=>dL (ob (C.tys.get t) fun ty=>ob ty.desc.asSlice fun el=>ob (C.tys.get el) fun et=>
 tB (Nat.blt (len*et.size) 1000000&&Nat.beq (yB et.zero) et.size) (ob (evp parts.toList e) fun ps=>ob (vM (fun i=>some (i*et.size,et.size)) ps (oI et.zero len)) fun l=>some (.slice H.next 0 len len,rF H l none)))
def Pk(t:Nat)(a x:Operand):rS:=fun C e H=>dL (ob (C.tys.get t) fun ty=>ob (ev a e) fun a=>ob a.asPtr fun p=>ob (ev x e) fun v=>
 let l:=v.cells
 tB (Nat.beq (yB l) ty.size) (ob (sJ C H p.1 p.2 l) fun H'=>some (pD,H')))
def Pm(r:Option Operand):rS:=fun _ _ H=>
 match r with
 | none=>.val (.map H.next) (newBlk H (.map []))
 | some _=>.fail
def Ev(t:Nat)(m k x:Operand):rS:=fun C e H=>dL (ob (C.tys.get t) fun ty=>ob ty.desc.asMap fun ke=>ob (C.tys.get ke.1) fun kty=>tB (wW C kty)
 (ob (ev m e) fun m=>ob m.asMap fun b=>tB (!Nat.blt b C.base) (ob (nL H b) fun l=>ob (ev k e) fun k=>tB (rT C kty k) (ob (ev x e) fun v=>ob (qO k v l) fun l'=>some (pD,setBlk H b (.map l'))))))
def CC(t:Nat)(l c:Operand):rS:=fun C e H=>dL (ob (C.tys.get t) fun ty=>ob ty.desc.asSlice fun el=>ob (C.tys.get el) fun et=>
 ob (ev l e) fun l=>ob l.asNat fun l=>ob (ev c e) fun c=>ob c.asNat fun c=>
  tB (Nat.ble l c&&Nat.blt c 1000000&&Nat.blt (c*et.bytes) 1000000000&&Nat.beq (yB et.zero) et.size) (some (.slice H.next 0 l c,rF H (oI et.zero c) none)))
def kZ(s d:Nat)(x:Operand):rS:=fun C e H=>
 match sQ s d x C e H with
 | some v=>.val v H
 | none=>dL (ob (C.tys.get s) fun _=>ob (C.tys.get d) fun ty=>ob ty.desc.asSlice fun el=>ob (C.tys.get el) fun et=>ob et.desc.asInt fun k=>tB (gN k .u8) (ob (ev x e) fun v=>ob v.asStr fun l=>
   some (.slice H.next 0 (yB l) (yB l),rF H (eZ l) (some (.ty el)))))
def Pl(x:Operand):rS:=fun _ e _=>Ba (ob (ev x e) fun v=>ob v.asIface fun p=>some (.panic (.iface p.1 p.2)))
def eS(f:Operand)(args:Array Operand)(e:vD):Option (AFn × List zA × List zA):=
 ob (ev f e) fun v=>ob v.asFunc fun p=>ob (kO args.toList e) fun as=>some (p.1,fD p.2.1 as,p.2.2)
def Ud(c:Call):Callee->HB
 | .value f=>⟨fun _ e _=>Ba (ob (eS f c.args e) fun p=>some (.defer ⟨some p.1,0,fD p.2.1 p.2.2⟩))⟩
 | _=>⟨fun _ _ _=>.fail⟩
def hDefer(c:Call):HB:=Ud c c.callee
def bL(g:List zA->xA->Option zA):List zA->xA->Option (zA × xA):=fun args H=>ob (g args H) fun v=>some (v,H)
def Li(_:iA)(H:xA)(args:List zA)(f:Nat):Option (List zA->xA->Option (zA × xA))->sK
 | some g=>match g args H with
  | some p=>.val p.1 p.2
  | none=>.fail
 | none=>.enter f args
def PU(l:Nat)(args:List zA):List zA->sK
 | []=>.round l args
 | _::_=>.fail
def zqr(C:iA)(H:xA)(args cap:List zA):AFn->sK
 | .func f=>Li C H (fD args cap) f (C.prims.get f)
 | .yld l=>PU l args cap
def Hq(f:Operand)(args:Array Operand):rS:=fun C e H=>Ba (ob (eS f args e) fun p=>some (zqr C H p.2.1 p.2.2 p.1))
def Ku(c:Call):rS:=fun C e H=>dL (ob (tD c.argTypes.toList 0) fun t=>ob (C.tys.get t) fun ty=>ob (tD c.argTypes.toList 1) fun u=>ob (C.tys.get u) fun uty=>
 tB (!Nat.beq uty.desc.tag 1) (ob (two c e) fun p=>Aa C H ty p.1 p.2))
def zpt:rS:=fun _ _ _=>.fail
def ziy:rS:=fun _ _ _=>.recover
def ziz(c:Call):Builtin->HB
 | .append=>⟨Ku c⟩
 | .len=>⟨lv (tR c)⟩
 | .max=>⟨lv (fX c)⟩
 | .min=>⟨lv (iX c)⟩
 | .recover=>⟨ziy⟩
 | _=>⟨zpt⟩
def Ks(c:Call):Callee->HB
 | .value f=>⟨Hq f c.args⟩
 | .builtin b=>ziz c b
 | _=>⟨zpt⟩
def hCall(c:Call):HB:=Ks c c.callee
def lvB (b:LB):HB:=⟨lv b.f⟩
def eE:Op->HB
 | .move x=>⟨lv (tQ x)⟩
 | .assign x=>⟨lv (tQ x)⟩
 | .pick c a b=>⟨lv (Pb c a b)⟩
 | .load t a=>⟨lv (dX t a)⟩
 | .nilCheck x=>⟨lv (Bq x)⟩
 | .binOp op t x y _=>⟨lv (yY op t x y)⟩
 | .unOp op _ x=>⟨lv (lUn op x)⟩
 | .makeInterface t x=>⟨lv (En t x)⟩
 | .makeFunc fn a b=>lvB (Eo fn a b)
 | .slice t x lo hi mx=>lvB (Pa t x lo hi mx)
 | .fieldAddr s x f=>⟨lv (aX s x f)⟩
 | .field t x f=>⟨lv (Ep t x f)⟩
 | .indexAddr t x i=>⟨lv (cX t x i)⟩
 | .index t x i=>⟨lv (bX t x i)⟩
 | .extract t i=>⟨lv (zY t i)⟩
 | .build t ps=>⟨lv (lZ t ps)⟩
 | .typeAssert x _ u ok=>⟨lv (xY x u ok)⟩
 | .lookup t x i ok=>⟨lv (eX t x i ok)⟩
 | .convert s d x=>⟨kZ s d x⟩
 | .alloc t=>⟨Ey t⟩
 | .box t x=>⟨Bw t x⟩
 | .buildSlice t len ps=>⟨Ew t len ps⟩
 | .store t a x=>⟨Pk t a x⟩
 | .makeMap _ r=>⟨Pm r⟩
 | .insert t m k x=>⟨Ev t m k x⟩
 | .mapUpdate t m k x=>⟨Ev t m k x⟩
 | .makeSlice t l c=>⟨CC t l c⟩
 | .panic x=>⟨Pl x⟩
 | .defer c=>hDefer c
 | .call c=>hCall c
 | _=>⟨zpt⟩
structure GB where f:Tm->Option Bool
def znf(_:Tm):Option Bool:=some true
def Mo(d:Option Nat)(w:Bool)(tm:Tm):Option Bool:=
 ob d fun d=>ob (tm.get d) fun v=>match v.asBool with
  | some b=>some (bEq b w)
  | none=>some false
def Mp(g:Option (Nat × Bool))(all:Array Oper):GB:=
 match g with
 | none=>⟨znf⟩
 | some jw=>⟨Mo (ob (tD all.toList jw.1) fun o=>o.dst) jw.2⟩
def cF(g:Option (Nat × Bool))(all:Array Oper)(tm:Tm):Option Bool:=(Mp g all).f tm
structure PB where f:Nat->Tm->zA->Tm
def Jz(d n:Nat)(tm:Tm)(v:zA):Tm:=bif Nat.blt d n then tm.set d v else tm
def putNo(_:Nat)(tm:Tm)(_:zA):Tm:=tm
def putB (dst:Option Nat):PB:=
 match dst with
 | some d=>⟨Jz d⟩
 | none=>⟨putNo⟩
def putA (n:Nat)(tm:Tm)(dst:Option Nat)(v:zA):Tm:=(putB dst).f n tm v
def bW.running:bW->Bool | .run=>true | _=>false
def oE.blockId:oE->Option Nat | .inBlock id=>some id | _=>none
def yV(id:Nat):List oE->Option (List oE)
 | []=>none
 | x::k=>match x.blockId with
  | some i=>bif Nat.beq i id then some k else yV id k
  | none=>yV id k
def zmm(all:Array Oper)(rest:List Oper)(k:List oE)(tm:Tm)(R:bJ)(v:zA):Option xC:=
 match rest with
 | o::rest=>some ⟨.ops all rest::k,putA R.n tm o.dst v,R⟩
 | []=>none
def CS(all:Array Oper)(old:Tm)(olds:List (Nat × List Nat))(stages:List lG)(k:List oE)(tm:Tm)(R:bJ)(v:zA):Option xC:=
 match stages with
 | st::stages=>ob (tD all.toList st.heavy) fun o=>some ⟨.reg all old olds (⟨all.size,st.lights,st.again⟩::stages)::k,putA R.n tm o.dst v,R⟩
 | []=>none
def zi4(l:Nat)(k:List oE)(tm:Tm)(R:bJ)(_:zA):Option xC:=some ⟨.endRange l::k,tm,R⟩
def zi5(k:List oE)(tm:Tm)(R:bJ)(_:zA):Option xC:=some ⟨k,tm,R⟩
def zp0(_:List oE)(_:Tm)(_:bJ)(_:zA):Option xC:=none
def Um:oE->List oE->Tm->bJ->zA->Option xC
 | .ops all rest=>zmm all rest
 | .reg all old olds stages=>CS all old olds stages
 | .inRange l=>zi4 l
 | .beginRound=>zi5
 | _=>zp0
def kH(fr:xC)(v:zA):Option xC:=
 match fr.todo with
 | []=>none
 | x::k=>bif fr.R.mode.running then Um x k fr.tm fr.R v else none
def yK(C:iA)(f:Nat)(args:List zA)(deferred:Bool):Option xC:=
 ob (C.fns.get f) fun fn=>ob fn.body fun c=>ob (C.ks.get f) fun k=>tB (Nat.ble (yB args) k&&Nat.ble (yB args) fn.ntmps) (some ⟨[.code c],⟨k,Tr.ofList args,[]⟩,⟨f,fn.ntmps,[],.run,deferred,none⟩⟩)
def Ax(n:Nat):List Nat->List zA->Tm->Option (Tm)
 | [],[],tm=>some tm
 | p::ps,a::as,tm=>Ax n ps as (putA n tm (some p) a)
 | _,_,_=>none
def Wv:List Operand->List Nat
 | []=>[]
 | .tmp t::l=>t::Wv l
 | _::l=>Wv l
def eH(o:Op):List Nat:=Wv o.operands.toList
def sF(i:Nat):List (Nat × List Nat)->List Nat
 | []=>[]
 | x::r=>bif Nat.beq i x.1 then x.2 else sF i r
def same:Nat->zA->zA->Bool
 | _,.bool a,.bool b=>bEq a b
 | _,.int j a,.int k b=>gN j k&&lB a b
 | _,.str a,.str b=>qF a b
 | _,.nilptr,.nilptr=>true
 | _,.ptr a b,.ptr c d=>Nat.beq a c&&Nat.beq b d
 | _,.nilslice,.nilslice=>true
 | _,.slice a b c d,.slice e f g h=>Nat.beq a e&&Nat.beq b f&&Nat.beq c g&&Nat.beq d h
 | _,.nilmap,.nilmap=>true
 | _,.map a,.map b=>Nat.beq a b
 | _,.nilfunc,.nilfunc=>true
 | _,.niliface,.niliface=>true
 | d+1,.agg a,.agg b=>sames d a b
 | d+1,.tup a,.tup b=>sames d a b
 | _,_,_=>false
where
 sames (d:Nat):List zA->List zA->Bool
  | [],[]=>true
  | a::x,b::y=>same d a b&&sames d x y
  | _,_=>false
def vT(C:iA)(H:xA)(all:Array Oper)(n:Nat)(old:Tm)(olds:List (Nat × List Nat)):List Nat->Tm->Option (Tm)
 | [],tm=>some tm
 | i::l,tm=>ob (tD all.toList i) fun o=>ob (cF o.guard all tm) fun w=>ob (bif w then(jF o.op).f C (.mixed tm old (sF i olds) (eH o.op)) H else some pD) fun v=>
   vT C H all n old olds l (putA n tm o.dst v)
def Fm(C:iA)(H:xA)(all:Array Oper)(old:Tm)(olds:List (Nat × List Nat))(tm:Tm):List Nat->Bool
 | []=>true
 | i::l=>match (ob (tD all.toList i) fun o=>ob o.dst fun d=>ob (cF o.guard all tm) fun w=>bif w then(ob ((jF o.op).f C (.mixed tm old (sF i olds) (eH o.op)) H) fun v=>ob (tm.get d) fun u=>some (same 10 v u))else some true)with
  | some true=>Fm C H all old olds tm l
  | _=>false
def bW.chain:bW->Option (List Fv) | .panicking c=>some c | _=>none
def Lc:List Oper->Tr zA->Tr zA
 | [],t=>t
 | o::l,t=>match o.dst with
  | some j=>Lc l (t.del j)
  | none=>Lc l t
def Oy(todo:List oE)(tm:Tm):Tm:=
 match todo with
 | .reg all _ _ _::_=>⟨tm.k,Lc all.toList tm.v,[]⟩
 | _=>tm
def nX(fr:xC)(l:List Fv):xC:=
 ⟨[],Oy fr.todo fr.tm,⟨fr.R.fn,fr.R.n,fr.R.defers,.panicking (match fr.R.mode.chain with | some c=>fD l c | none=>l),fr.R.deferred,fr.R.roundOf⟩⟩
def yM(x:Option oS)(why:Nat):dF:=
 match x with
 | some s=>.next s
 | none=>.fail why
def xJ(H:xA)(l:Nat):Option mN:=tB (Nat.ble (nat_lit 256) l) (ob (H.t.get l) tA.asLoop)
def pY(H:xA)(l:Nat):Option (Option (List mH)):=tB (Nat.ble (nat_lit 256) l) (ob (H.t.get l) tA.asDeferred)
def Gu (v:zA)(H':xA)(_:iA)(fr:xC)(cs:List xC)(_:xA):dF:=yM (ob (kH fr v) fun fr=>some ⟨fr,cs,H'⟩) 1
def Nv(f:Nat)(args:List zA)(C:iA)(fr:xC)(cs:List xC)(H:xA):dF:=yM (ob (yK C f args false) fun g=>some ⟨g,fr::cs,H⟩) 2
def Nt(l:Nat)(args:List zA)(_:iA)(fr:xC)(cs:List xC)(H:xA):dF:=
 yM (ob (xJ H l) fun r=>ob (Ax r.n r.params args r.tm) fun tm=>some ⟨⟨[.code r.assign,.beginRound,.code r.body],tm,⟨r.fn,r.n,[],.run,false,some l⟩⟩,fr::cs,H⟩) 3
def Zs(d:mH)(_:iA)(fr:xC)(cs:List xC)(H:xA):dF:=
 yM (match fr.R.roundOf with
  | none=>ob (kH fr pD) fun g=>some ⟨⟨g.todo,g.tm,⟨g.R.fn,g.R.n,d::g.R.defers,g.R.mode,g.R.deferred,g.R.roundOf⟩⟩,cs,H⟩
  | some _=>none) 4
def zlb(v:zA)(_:iA)(fr:xC)(cs:List xC)(H:xA):dF:=.next ⟨nX fr [⟨v,false⟩],cs,H⟩
def Nu(_:iA)(fr:xC)(cs:List xC)(H:xA):dF:=
 yM (match fr.R.roundOf,fr.R.deferred,cs with
  | none,true,c::rest=>match c.R.mode with
   | .panicking (⟨v,false⟩::older)=>ob (kH fr v) fun fr=>some ⟨fr,⟨c.todo,c.tm,⟨c.R.fn,c.R.n,c.R.defers,.panicking (⟨v,true⟩::older),c.R.deferred,c.R.roundOf⟩⟩::rest,H⟩
   | .panicking _=>none
   | _=>ob (kH fr .niliface) fun fr=>some ⟨fr,cs,H⟩
  | _,_,_=>none) 5
def rFail(_:iA)(_:xC)(_:List xC)(_:xA):dF:=.fail 6
def Lr:sK->iA->xC->List xC->xA->dF
 | .val v H'=>Gu v H'
 | .enter f args=>Nv f args
 | .round l args=>Nt l args
 | .defer d=>Zs d
 | .panic v=>zlb v
 | .recover=>Nu
 | .fail=>rFail
def fS(C:iA)(H:xA)(tm:Tm):ResultVar->Option zA
 | .tmp t=>tm.get t
 | .cell a t=>ob (ob (tm.get a) zA.asPtr) fun p=>ob (C.tys.get t) fun ty=>ob (qD H p.1) fun c=>wT ty c.1 p.2
def rX(C:iA)(H:xA)(tm:Tm)(l:List ResultVar):Option (List zA):=pG (fS C H tm) l
def Zm(jump:Option Code):Bool:=
 match jump with
 | none=>true
 | some .ret=>true
 | _=>false
def Ay(fr:xC)(m:bW):xC:=⟨fr.todo,fr.tm,⟨fr.R.fn,fr.R.n,fr.R.defers,m,fr.R.deferred,fr.R.roundOf⟩⟩
def fU(jump:Option Code)(_:iA)(fr:xC)(cs:List xC)(H:xA):dF:=
 yM (match fr.R.roundOf with
  | none=>tB (Zm jump) (some ⟨Ay fr .returning,cs,H⟩)
  | some l=>ob (xJ H l) fun r=>match cs with
   | c::rest=>tB (!fr.R.deferred) <| ob (kH c (.bool jump.isNone)) fun c=>some ⟨c,rest,setBlk H l (.loop ⟨if jump.isNone then .ready else .done,jump,r.fn,r.n,r.tm,r.params,r.assign,r.body,r.defers⟩)⟩
   | []=>none) 7
abbrev yO:=iA->List oE->Tm->bJ->List xC->xA->dF
structure XB where f:yO
def xGo (todo:List oE)(tm:Tm)(R:bJ)(cs:List xC)(H:xA):dF:=.next ⟨⟨todo,tm,R⟩,cs,H⟩
def Fy:yO:=fun _ k tm R cs H=>xGo k tm R cs H
def Mk(c:Operand)(x y:Code):yO:=fun _ k tm R cs H=>
 match ob (ev c (.now tm)) zA.asBool with
 | some b=>xGo (.code (bif b then x else y)::k) tm R cs H
 | none=>.fail 8
def zke(id:Nat)(c:Code):yO:=fun _ k tm R cs H=>xGo (.code c::.inBlock id::k) tm R cs H
def zna(c:Code):yO:=fun _ k tm R cs H=>xGo (.code c::.inLoop c::k) tm R cs H
def xScope(c:Code):yO:=fun _ k tm R cs H=>xGo (.code c::.inScope c::k) tm R cs H
def Df(id:Nat):yO:=fun C k tm R cs H=>
 match yV id k with
 | some k'=>xGo k' tm R cs H
 | none=>fU (some (.exit id)) C ⟨.code (.exit id)::k,tm,R⟩ cs H
def xRet:yO:=fun C k tm R cs H=>fU (some .ret) C ⟨.code .ret::k,tm,R⟩ cs H
def znb:yO:=fun _ _ _ _ _ _=>.fail 9
def Ij(e:Edge):Bool:=
 match e.ground with
 | .textOnly _=>false
 | .gcOnly _=>false
 | _=>true
def tb (m i:Nat):Bool:=Nat.beq (Nat.mod (Nat.shiftRight m i) (nat_lit 2)) (nat_lit 1)
def Ct(i:Nat):Nat:=Nat.shiftLeft (nat_lit 1) i
def pJ (t:Tr Nat)(i:Nat):Nat:=
 match t.get i with
 | some m=>m
 | none=>0
def Kk(t:Tr Nat):List Edge->Nat
 | []=>0
 | e::l=>bif Ij e then Nat.lor (Nat.lor (Ct e.on) (pJ t e.on)) (Kk t l)else Kk t l
def zqw:List Oper->Nat->Tr Nat->Tr Nat
 | [],_,t=>t
 | o::r,i,t=>zqw r (i+1) (t.set i (Kk t o.after.toList))
def Ta:List Oper->Nat->Bool
 | [],_=>true
 | o::r,i=>bif sD (fun e=>bif Ij e then Nat.blt e.on i else true) o.after.toList then Ta r (i+1)else false
def wrOf:List Oper->Nat->Tr Nat->Option (Tr Nat)
 | [],_,t=>some t
 | o::r,i,t=>match o.dst with
  | none=>wrOf r (i+1) t
  | some d=>match t.get d with
   | none=>wrOf r (i+1) (t.set d i)
   | some _=>none
def rE{α:Type}:Option α->Bool | none=>true | some _=>false
def AE(wr anc:Tr Nat)(i:Nat)(olds:List Nat)(t:Nat):Bool:=
 match wr.get t with
 | none=>true
 | some j=>bif dH t olds then(bif Nat.beq j i then true else tb (pJ anc j) i)else tb (pJ anc i) j
def AF(anc:Nat):Option (Nat × Bool)->Bool
 | none=>true
 | some g=>tb anc g.1
def zhr(wr anc:Tr Nat)(olds:List (Nat × List Nat)):List Oper->Nat->Bool
 | [],_=>true
 | o::r,i=>bif AF (pJ anc i) o.guard then(bif sD (AE wr anc i (sF i olds)) (eH o.op)then zhr wr anc olds r (i+1)else false)else false
def fV:Op->Bool
 | .move _=>true
 | .assign _=>true
 | .pick _ _ _=>true
 | .nilCheck _=>true
 | .binOp _ _ _ _ _=>true
 | .unOp _ _ _=>true
 | .makeInterface _ _=>true
 | .makeFunc _ _ _=>true
 | .fieldAddr _ _ _=>true
 | .field _ _ _=>true
 | .indexAddr _ _ _=>true
 | .index _ _ _=>true
 | .extract _ _=>true
 | .build _ _=>true
 | .typeAssert _ _ _ _=>true
 | _=>false
def Al (D:Nat)(o:Oper):Bool:=sD (fun e=>bif Ij e then tb D e.on else true) o.after.toList
def Sz(h D:Nat):List Oper->Nat->Bool
 | [],_=>true
 | o::r,i=>bif (bif tb D i then true else bif Nat.beq i h then true else !Al D o)then Sz h D r (i+1)else false
def wM:Op->Bool
 | .alloc _=>true
 | .box _ _=>true
 | .buildSlice _ _ _=>true
 | _=>false
def Tc(m D:Nat)(again:List Nat):List Oper->Nat->Bool
 | [],_=>true
 | o::r,i=>bif (bif tb D i then(bif tb m i then true else bif fV o.op then true else bif wM o.op then true else dH i again)else true)then Tc m D again r (i+1)else false
def rZ(ops:List Oper)(i D:Nat):Option Nat:=
 ob (tD ops i) fun o=>tB (bif tb D i then false else Al D o) (some (Nat.lor D (Ct i)))
def cQ(ops:List Oper):List Nat->Nat->Option Nat
 | [],D=>some D
 | i::l,D=>ob (rZ ops i D) fun D=>cQ ops l D
def zht(D:Nat):List Oper->Nat->Bool
 | [],_=>true
 | _::r,i=>bif tb D i then zht D r (i+1)else false
def zpr:Option Oper->Bool
 | some o=>wM o.op
 | none=>false
def okG (ops:List Oper)(D:Nat):List Nat->Nat->Option Nat
 | [],E=>some E
 | i::l,E=>ob (tD ops i) fun o=>tB (!tb E i&&Al D o&&rE o.dst) (okG ops D l (Nat.lor E (Ct i)))
def Sy(anc:Tr Nat)(D1:Nat)(G:List Nat):List Oper->Nat->Bool
 | [],_=>true
 | o::r,i=>bif (bif tb D1 i then true else bif sD (fun g=>tb (pJ anc i) g) G then true else !Al D1 o)then Sy anc D1 G r (i+1)else false
def Ph(o:Op):Bool:=
 match o with
 | .call c=>(match c.callee with
  | .builtin .len=>true
  | _=>false)
 | _=>false
def Tb(anc:Tr Nat)(D:Nat)(G:List Nat):List Oper->Nat->Bool
 | [],_=>true
 | o::r,i=>bif (bif tb D i then(bif fV o.op then true else bif wM o.op then true else bif Ph o.op then true else sD (fun g=>tb (pJ anc g) i) G)else true)then Tb anc D G r (i+1)else false
def zcf(ops:List Oper)(anc:Tr Nat)(D:Nat)(st:lG):Option Nat:=
 ob (okG ops D st.again D) fun D1=>tB (Sy anc D1 st.again ops 0&&Tb anc D st.again ops 0) (cQ ops st.lights D1)
def lJ(ops:List Oper)(anc:Tr Nat):List lG->Nat->Bool
 | [],D=>zht D ops 0
 | st::r,D=>bif Nat.blt (yB ops) st.heavy then(bif Nat.blt (yB ops+yB ops) st.heavy then(match zcf ops anc D st with
   | some D=>lJ ops anc r D
   | none=>false)else bif zpr (tD ops (Nat.sub st.heavy (Nat.succ (yB ops))))then
   (match ob (rZ ops (Nat.sub st.heavy (Nat.succ (yB ops))) D) fun D=>cQ ops st.lights D with
   | some D=>lJ ops anc r D
   | none=>false)else false)else bif Sz st.heavy D ops 0 then(bif Tc (pJ anc st.heavy) D st.again ops 0 then
   (match ob (rZ ops st.heavy D) fun D=>cQ ops st.lights D with
   | some D=>lJ ops anc r D
   | none=>false)else false)else false
def AD(ops:List Oper)(p:Plan):Bool:=
 bif Ta ops 0 then
  (match wrOf ops 0 .leaf with
  | none=>false
  | some wr=>
   (fun anc=>bif zhr wr anc p.olds ops 0 then(match cQ ops p.first 0 with
    | some D=>lJ ops anc p.stages D
    | none=>false)else false) (zqw ops 0 .leaf))else false
structure OkB where b:Bool
def dV(all:Array Oper)(p:Plan):Bool:=(OkB.mk (AD all.toList p)).b
def Mj(id:Nat)(all:Array Oper):yO:=fun C k tm R cs H=>
 yM (ob (ob (C.plans.get R.fn) fun t=>t.get id) fun p=>tB (dV all p) <| ob (vT C H all R.n tm.cut p.olds p.first tm.cut) fun tm'=>some ⟨⟨.reg all tm.cut p.olds p.stages::k,tm',R⟩,cs,H⟩) 10
def sK.asVal:sK->Option (zA × xA) | .val v H=>some (v,H) | _=>none
def pM(C:iA)(all:Array Oper)(k:List oE)(R:bJ)(cs:List xC)(l:List Oper):Tm->xA->dF:=
 List.rec (motive:=fun _=>Tm->xA->dF) (fun tm H=>xGo k tm R cs H)
  (fun o rest g tm H=>
   match cF o.guard all tm with
   | some w=>Bool.rec (motive:=fun _=>dF) (g (putA R.n tm o.dst pD) H)
     (let r:=(eE o.op).f C (.now tm) H
     match r.asVal with
     | some p=>g (putA R.n tm o.dst p.1) p.2
     | none=>Lr r C ⟨.ops all (o::rest)::k,tm,R⟩ cs H) w
   | none=>.fail 20) l
def xOps (all:Array Oper)(rest:List Oper):yO:=fun C k tm R cs H=>pM C all k R cs rest tm H
def zm9(id:Nat)(all:Array Oper)(draw:Bool):XB:=
 match draw with
 | true=>⟨Mj id all⟩
 | false=>⟨fun C k tm R cs H=>pM C all k R cs all.toList tm.cut H⟩
def Rd(all:Array Oper)(old:Tm)(olds:List (Nat × List Nat))(st:lG)(stages:List lG)(o:Oper):yO:=fun C k tm R cs H=>
 match cF o.guard all tm with
 | some w=>Lr (bif w then(eE o.op).f C (.mixed tm old (sF st.heavy olds) (eH o.op)) H else .val pD H) C ⟨.reg all old olds (st::stages)::k,tm,R⟩ cs H
 | none=>.fail 21
def Mh(all:Array Oper)(old:Tm)(olds:List (Nat × List Nat))(st:lG)(stages:List lG):yO:=fun C k tm R cs H=>
 yM (tB (Fm C H all old olds tm st.again) (ob (vT C H all R.n old olds st.lights tm) fun tm=>some ⟨⟨.reg all old olds stages::k,tm,R⟩,cs,H⟩)) 11
def Rf(all:Array Oper)(old:Tm)(olds:List (Nat × List Nat))(st:lG)(stages:List lG)(i:Nat):yO:=fun C k tm R cs H=>
 yM (ob (tD all.toList i) fun o=>ob (cF o.guard all tm) fun w=>tB (w&&rE (Bn C o.op)) (ob ((eE o.op).f C (.mixed tm old (sF i olds) (eH o.op)) H).asVal fun p=>
  ob (vT C p.2 all R.n old olds st.lights (putA R.n tm o.dst p.1)) fun tm'=>some ⟨⟨.reg all old olds stages::k,tm',R⟩,cs,p.2⟩)) 23
inductive wO where
 | store (t:Nat) (a v:zA)
 | upd (t:Nat) (m k v:zA)
inductive RE where
 | st (b off:Nat) (l:List zA)
 | up (b:Nat) (k v:zA)
def Cj(op:Op)(e:vD):Option wO:=
 match op with
 | .store t a x=>ob (ev a e) fun a=>ob (ev x e) fun v=>some (.store t a v)
 | .mapUpdate t m k x=>ob (ev m e) fun m=>ob (ev k e) fun k=>ob (ev x e) fun v=>some (.upd t m k v)
 | .insert t m k x=>ob (ev m e) fun m=>ob (ev k e) fun k=>ob (ev x e) fun v=>some (.upd t m k v)
 | _=>none
def qX (C:iA)(e:wO):Option RE:=
 match e with
 | .store t a v=>ob (C.tys.get t) fun ty=>ob a.asPtr fun p=>tB (Nat.beq (yB v.cells) ty.size) (some (.st p.1 p.2 v.cells))
 | .upd t m k v=>ob (C.tys.get t) fun ty=>ob ty.desc.asMap fun ke=>ob (C.tys.get ke.1) fun kty=>tB (wW C kty&&rT C kty k) (ob m.asMap fun b=>some (.up b k v))
def RE.blk:RE->Nat
 | .st b _ _=>b
 | .up b _ _=>b
def zck(a b:zA):Bool:=
 match lI a b with
 | some r => !r
 | none=>false
def DV(a b:RE):Bool:=bif Nat.beq a.blk b.blk then(match a with
 | .st _ _ _=>false
 | .up _ k _=>(match b with
  | .st _ _ _=>false
  | .up _ k' _=>zck k k'))else true
def Vu:List RE->Bool
 | []=>true
 | a::l=>sD (DV a) l&&Vu l
def Cx(C:iA)(H:xA)(e:RE):Option xA:=
 match e with
 | .st b off l=>sJ C H b off l
 | .up b k v=>tB (!Nat.blt b C.base) (ob (nL H b) fun m=>some (setBlk H b (.map (fD m [(k,v)]))))
def Jw(C:iA)(H:xA)(e:RE):Bool:=
 match e with
 | .st b off l => !rE (sJ C H b off l)
 | .up b _ _ => !Nat.blt b C.base&&(match nL H b with
  | some []=>true
  | _=>false)
def Im(C:iA):List RE->xA->Option xA
 | [],H=>some H
 | e::l,H=>ob (Cx C H e) fun H=>Im C l H
def Cb(C:iA)(es:List wO)(H:xA):Option xA:=ob (pG (qX C) es) fun rs=>tB (Vu rs&&sD (Jw C H) rs) (Im C rs H)
def iZ(all:Array Oper)(old:Tm)(olds:List (Nat × List Nat))(tm:Tm)(i:Nat):Option wO:=
 ob (tD all.toList i) fun o=>ob (cF o.guard all tm) fun w=>tB w (Cj o.op (.mixed tm old (sF i olds) (eH o.op)))
def To(C:iA)(o:Oper):Bool:=
 match o.op with
 | .call c=>(match c.callee with
  | .builtin .len=>(match ob (tD c.argTypes.toList 0) fun t=>C.tys.get t with
   | some ty => !Nat.beq ty.desc.tag 6
   | none=>false)
  | _=>true)
 | _=>true
def mZ(C:iA)(all:Array Oper):Bool:=sD (To C) all.toList
def La(all:Array Oper)(old:Tm)(olds:List (Nat × List Nat))(tm:Tm)(l:List Nat):Option (List wO):=pG (iZ all old olds tm) l
def Re(all:Array Oper)(old:Tm)(olds:List (Nat × List Nat))(st:lG)(stages:List lG):yO:=fun C k tm R cs H=>
 yM (tB (mZ C all) (ob (La all old olds tm st.again) fun es=>ob (Cb C es H) fun H'=>ob (vT C H' all R.n old olds st.lights tm) fun tm'=>some ⟨⟨.reg all old olds stages::k,tm',R⟩,cs,H'⟩)) 24
def tU (all:Array Oper)(old:Tm)(olds:List (Nat × List Nat))(stages:List lG):yO:=
 match stages with
 | []=>Fy
 | st::stages=>match tD all.toList st.heavy with
  | some o=>Rd all old olds st stages o
  | none=>bif Nat.blt (yB all.toList) st.heavy then(bif Nat.blt (yB all.toList+yB all.toList) st.heavy then Re all old olds st stages else Rf all old olds st stages (Nat.sub st.heavy (Nat.succ (yB all.toList))))else Mh all old olds st stages
def Bb(C:iA)(l:Nat)(f:zA):Option xC:=
 ob f.asFunc fun p=>match p.1 with
  | .func g=>match C.prims.get g with
   | none=>yK C g (fD p.2.1 (.func (.yld l) [] []::p.2.2)) false
   | some _=>none
  | .yld _=>none
def Mg(f:Operand)(params:Array Nat)(assign body:Code):yO:=fun C k tm R cs H=>
 yM (ob (ev f (.now tm)) fun v=>match R.roundOf with
  | none=>
   let r:=H.next
   let l:=r+1
   ob (Bb C l v) fun h=>
    some ⟨h,⟨.inRange l::k,tm,⟨R.fn,R.n,⟨none,r,[]⟩::R.defers,R.mode,R.deferred,R.roundOf⟩⟩::cs,
     newBlk (newBlk H (.deferred (some []))) (.loop ⟨.ready,none,R.fn,R.n,tm,params.toList,assign,body,r⟩)⟩
  | some outer=>ob (xJ H outer) fun o=>
   let l:=H.next
   ob (Bb C l v) fun h=>
    some ⟨h,⟨.inRange l::k,tm,R⟩::cs,newBlk H (.loop ⟨.ready,none,R.fn,R.n,tm,params.toList,assign,body,o.defers⟩)⟩) 12
def LoopState.tag:LoopState->Nat | .ready=>0 | .busy=>1 | .done=>2 | .exhausted=>3
def Ml:yO:=fun _ k tm R cs H=>
 yM (ob R.roundOf fun l=>ob (xJ H l) fun r=>tB (Nat.beq (LoopState.tag r.state) 0)
  (some ⟨⟨k,tm,R⟩,cs,setBlk H l (.loop ⟨.busy,r.pending,r.fn,r.n,r.tm,r.params,r.assign,r.body,r.defers⟩)⟩)) 13
def Mi(l:Nat):yO:=fun _ k tm R cs H=>
 yM (ob (xJ H l) fun r=>tB (!Nat.beq (LoopState.tag r.state) 1)
  (some ⟨⟨(match r.pending with | some c=>.code c::k | none=>k),tm,R⟩,cs,setBlk H l (.loop ⟨.exhausted,r.pending,r.fn,r.n,r.tm,r.params,r.assign,r.body,r.defers⟩)⟩)) 14
def znc:Code->XB
 | .skip=>⟨Fy⟩
 | .region id ops d=>zm9 id ops d
 | .seq a b=>⟨fun C k tm R cs H=>(znc a).f C (.code b::k) tm R cs H⟩
 | .cond c x y=>⟨Mk c x y⟩
 | .block id c=>⟨zke id c⟩
 | .loop c=>⟨zna c⟩
 | .rangeFunc f ps a b=>⟨Mg f ps a b⟩
 | .exit id=>⟨Df id⟩
 | .scope c=>⟨xScope c⟩
 | .label _=>⟨Fy⟩
 | .goto _=>⟨znb⟩
 | .ret=>⟨xRet⟩
 | .refuse _=>⟨znb⟩
def xItem:oE->XB
 | .code c=>znc c
 | .inBlock _=>⟨Fy⟩
 | .inLoop c=>⟨zna c⟩
 | .inScope _=>⟨Fy⟩
 | .ops all rest=>⟨xOps all rest⟩
 | .reg all old olds stages=>⟨tU all old olds stages⟩
 | .inRange _=>⟨znb⟩
 | .endRange l=>⟨Mi l⟩
 | .beginRound=>⟨Ml⟩
def iT(C:iA)(todo:List oE)(tm:Tm)(R:bJ)(cs:List xC)(H:xA):dF:=
 match todo with
 | []=>fU none C ⟨[],tm,R⟩ cs H
 | x::k=>(xItem x).f C k tm R cs H
def GZ(fr:xC)(d:List mH):xC:=⟨fr.todo,fr.tm,⟨fr.R.fn,fr.R.n,d,fr.R.mode,fr.R.deferred,fr.R.roundOf⟩⟩
def Gl(C:iA)(d:mH)(ds:List mH)(fr:xC)(cs:List xC)(H:xA):dF:=
 yM (match d.fn with
  | none=>ob (pY H d.r) fun l=>ob l fun l=>some ⟨GZ fr (fD l ds),cs,setBlk H d.r (.deferred none)⟩
  | some (.func f)=>match C.prims.get f with
   | none=>ob (yK C f d.args true) fun g=>some ⟨g,GZ fr ds::cs,H⟩
   | some _=>none
  | some (.yld _)=>none) 15
def Gm(l:List zA):zA:=
 match l with
 | [v]=>v
 | l=>.tup l
def Gk(C:iA)(fr:xC)(cs:List xC)(H:xA):dF:=
 match ob (C.fns.get fr.R.fn) fun fn=>rX C H fr.tm fn.results.toList with
 | none=>.fail 16
 | some l=>
  match cs with
  | []=>bif fr.R.deferred then .fail 17 else bif Nat.beq fr.R.fn C.root then .done (Gm l) H else .fail 22
  | c::rest=>yM (bif fr.R.deferred then
    (match c.R.mode with
    | .panicking (⟨_,true⟩::_)=>some ⟨Ay c .returning,rest,H⟩
    | _=>tB (!c.R.mode.running) (some ⟨c,rest,H⟩))
   else ob (kH c (Gm l)) fun c=>some ⟨c,rest,H⟩) 18
def Rr(C:iA)(fr:xC)(cs:List xC)(H:xA):dF:=
 match fr.R.defers with
 | d::ds=>Gl C d ds fr cs H
 | []=>match fr.R.mode.chain with
  | some chain=>yM (ob (C.fns.get fr.R.fn) fun _=>match cs with | c::rest=>some ⟨nX c chain,rest,H⟩ | []=>none) 19
  | none=>Gk C fr cs H
def stepA(C:iA)(s:oS):dF:=
 match s with
 | ⟨⟨todo,tm,R⟩,cs,H⟩=>bif R.mode.running then iT C todo tm R cs H else Rr C ⟨todo,tm,R⟩ cs H
def lV(C:iA)(o:dF):dF:=
 match o with
 | .next s=>stepA C s
 | .done v H=>.done v H
 | .fail n=>.fail n
def nU (C:iA)(n:Nat):dF->dF:=
 Nat.rec (motive:=fun _=>dF->dF) (fun o=>lV C o) (fun _ g o=>g (g o)) n
end Go.Am
namespace Go.Am
open Go
theorem sA{α β:Type}{x:Option α}{f:α->Option β}{b:β}:ob x f=some b ↔ ∃a,x=some a/\f a=some b:=by
 cases x with
 | none=>simp[ob]
 | some a=>exact⟨fun h=>⟨a,rfl,h⟩,fun⟨_,h,k⟩=>by cases h;exact k⟩
@[simp] theorem zoo {α β:Type} {f:α->Option β}:ob none f=none:=rfl
@[simp] theorem pA {α β:Type} {a:α} {f:α->Option β}:ob (some a) f=f a:=rfl
theorem sB{α:Type}{b:Bool}{x:Option α}{a:α}:tB b x=some a ↔ b=true/\x=some a:=by
 cases b with
 | false=>simp[tB]
 | true=>simp[tB]
theorem vK{α:Type}(a b:α)(c:Bool):(Bool.rec (motive:=fun _=>α) a b c:α)=if c=true then b else a:=by cases c<;>rfl
theorem gC{n m:Nat}:(Nat.beq n m=true) ↔ n=m:=⟨Nat.eq_of_beq_eq_true,fun h=>by simp_all⟩
theorem beqf{n m:Nat}:(Nat.beq n m=false) ↔ n≠m:=by
 rw[<- Bool.not_eq_true,gC]
theorem aE{n m:Nat}:(Nat.ble n m=true) ↔ n<=m:=Iff.of_eq Nat.ble_eq
theorem qC{n m:Nat}:(Nat.blt n m=true) ↔ n<m:=Iff.of_eq Nat.ble_eq
def rD{α:Type}(c:Bool)(a b:α):(bif c then a else b)=if c=true then a else b:=by cases c<;>rfl
namespace Tr
variable {α:Type}
theorem get_leaf(n:Nat):(leaf:Tr α).get n=none:=rfl
theorem get_node(l:Tr α)(v:Option α)(r:Tr α)(n:Nat) :
  (node l v r).get n=if n=0 then v else if n%2=1 then l.get (n / 2)else r.get (n / 2-1):=by
 show Bool.rec (motive:=fun _=>Option α) (Bool.rec (motive:=fun _=>Option α) (r.get (n / 2-1)) (l.get (n / 2)) (Nat.beq (n%2) 1)) v (Nat.beq n 0)=_
 grind [vK,gC]
theorem Te(f n:Nat)(v:α):mk (f+1) n v=if n=0 then node leaf (some v) leaf else if n%2=1 then node (mk f (n / 2) v) none leaf else node leaf none (mk f (n / 2-1) v):=by
 show Bool.rec (motive:=fun _=>Tr α) (Bool.rec (motive:=fun _=>Tr α) (node leaf none (mk f (n / 2-1) v)) (node (mk f (n / 2) v) none leaf) (Nat.beq (n%2) 1)) (node leaf (some v) leaf) (Nat.beq n 0)=_
 grind [vK,gC]
def Sd(n:Nat)(v:α):(leaf:Tr α).set n v=mk (n+1) n v:=rfl
theorem fH(l:Tr α)(x:Option α)(r:Tr α)(n:Nat)(v:α) :
  (node l x r).set n v=if n=0 then node l (some v) r else if n%2=1 then node (l.set (n / 2) v) x r else node l x (r.set (n / 2-1) v):=by
 show Bool.rec (motive:=fun _=>Tr α) (Bool.rec (motive:=fun _=>Tr α) (node l x (r.set (n / 2-1) v)) (node (l.set (n / 2) v) x r) (Nat.beq (n%2) 1)) (node l (some v) r) (Nat.beq n 0)=_
 grind [vK,gC]
theorem zjj(l:Tr α)(x:Option α)(r:Tr α)(n:Nat) :
  (node l x r).del n=if n=0 then node l none r else if n%2=1 then node (l.del (n / 2)) x r else node l x (r.del (n / 2-1)):=by
 show Bool.rec (motive:=fun _=>Tr α) (Bool.rec (motive:=fun _=>Tr α) (node l x (r.del (n / 2-1))) (node (l.del (n / 2)) x r) (Nat.beq (n%2) 1)) (node l none r) (Nat.beq n 0)=_
 grind [vK,gC]
theorem get_mk(f:Nat):∀(n m:Nat) (v:α),n<f->(mk f n v).get m=if m=n then some v else none:=by
 induction f with
 | zero=>omega
 | succ f ih=>
  grind [Te,get_node,get_leaf]
theorem get_set(t:Tr α):∀(n m:Nat) (v:α),(t.set n v).get m=if m=n then some v else t.get m:=by
 induction t with
 | leaf=>intro n m v;rw[Sd,get_mk _ _ _ _ (by omega),get_leaf]
 | node l x r ihl ihr=>
  grind [fH,get_node]
def zlf:∀(f g n:Nat) (v:α),n<f->n<g->mk f n v=mk g n v:=by
 intro f;induction f with
 | zero=>omega
 | succ f ih=>
  intro g n v h1 h2
  cases g with
  | zero=>omega
  | succ g=>
   rw[Te,Te];split
   ·rfl
   ·split
    ·rw[ih g _ v (by omega) (by omega)]
    ·rw[ih g _ v (by omega) (by omega)]
def GU(n:Nat)(v:α):(leaf:Tr α).set n v=if n=0 then node leaf (some v) leaf else if n%2=1 then node (leaf.set (n / 2) v) none leaf else node leaf none (leaf.set (n / 2-1) v):=by
 rw[Sd,Te];split
 ·rfl
 ·split
  ·rw[Sd,zlf n (n / 2+1) _ v (by omega) (by omega)]
  ·rw[Sd,zlf n (n / 2-1+1) _ v (by omega) (by omega)]
def TT:∀(s n m:Nat) (x y:α),n+m<=s->n≠m->((leaf:Tr α).set n x).set m y=((leaf:Tr α).set m y).set n x:=by
 intro s;induction s with
 | zero=>omega
 | succ s ih=>
  intro n m x y hs hne;rw[GU n x,GU m y];by_cases h1:n=0
  ·have h2:m≠0:=by omega
   rw[yab h1,yaa h2,fH,yaa h2];split
   ·rw[fH,yab h1]
   ·rw[fH,yab h1]
  ·rw[yaa h1]
   by_cases h2:m=0
   ·rw[yab h2]
    split
    ·rw[fH,yab h2,fH,yaa h1];rename_i h;rw[yab h]
    ·rw[fH,yab h2,fH,yaa h1];rename_i h;rw[yaa h]
   ·rw[yaa h2]
    by_cases h3:n%2=1<;>by_cases h4:m%2=1
    ·rw[yab h3,yab h4,fH,yaa h2,yab h4,fH,yaa h1,yab h3,ih _ _ x y (by omega) (by omega)]
    ·rw[yab h3,yaa h4,fH,yaa h2,yaa h4,fH,yaa h1,yab h3]
    ·rw[yaa h3,yab h4,fH,yaa h2,yab h4,fH,yaa h1,yaa h3]
    ·rw[yaa h3,yaa h4,fH,yaa h2,yaa h4,fH,yaa h1,yaa h3,ih _ _ x y (by omega) (by omega)]
def set_comm(t:Tr α):∀(n m:Nat) (x y:α),n≠m->(t.set n x).set m y=(t.set m y).set n x:=by
 induction t with
 | leaf=>exact fun n m x y h=>TT (n+m) n m x y (ybk _) h
 | node l v r ihl ihr=>
  intro n m x y hne;rw[fH l v r n x,fH l v r m y];by_cases h1:n=0
  ·have h2:m≠0:=by omega
   rw[yab h1,yaa h2,fH,yaa h2];split
   ·rw[fH,yab h1]
   ·rw[fH,yab h1]
  ·rw[yaa h1]
   by_cases h2:m=0
   ·rw[yab h2]
    split
    ·rw[fH,yab h2,fH,yaa h1];rename_i h;rw[yab h]
    ·rw[fH,yab h2,fH,yaa h1];rename_i h;rw[yaa h]
   ·rw[yaa h2]
    by_cases h3:n%2=1<;>by_cases h4:m%2=1
    ·rw[yab h3,yab h4,fH,yaa h2,yab h4,fH,yaa h1,yab h3,ihl _ _ x y (by omega)]
    ·rw[yab h3,yaa h4,fH,yaa h2,yaa h4,fH,yaa h1,yab h3]
    ·rw[yaa h3,yab h4,fH,yaa h2,yab h4,fH,yaa h1,yaa h3]
    ·rw[yaa h3,yaa h4,fH,yaa h2,yaa h4,fH,yaa h1,yaa h3,ihr _ _ x y (by omega)]
theorem get_del(t:Tr α):∀(n m:Nat),(t.del n).get m=if m=n then none else t.get m:=by
 induction t with
 | leaf=>intro n m;show(leaf:Tr α).get m=_;rw[get_leaf];split<;>rfl
 | node l x r ihl ihr=>
  grind [zjj,get_node]
def many_succ(t:Tr α)(n i:Nat):t.many (n+1) i=ob (t.get i) fun v=>ob (t.many n (i+1)) fun l=>some (v::l):=rfl
theorem many_some(t:Tr α)(n:Nat):∀(i:Nat) (l:List α),t.many n i=some l->l.length=n/\∀j,j<n->t.get (i+j)=l[j]?:=by
 induction n with
 | zero=>intro i l h;cases h;simp_all
 | succ n ih=>
  intro i l h;rw[many_succ,sA]at h;obtain⟨v,hv,h⟩:=h
  rw[sA]at h;grind
theorem TY(v:α)(l:List α)(t:Tr α)(i:Nat):setMany (v::l) t i=setMany l (t.set i v) (i+1):=rfl
theorem get_setMany(l:List α):∀(t:Tr α) (i m:Nat),(setMany l t i).get m=if i<=m/\m<i+l.length then l[m-i]? else t.get m:=by
 induction l with
 | nil=>intro t i m;rw[yaa (by simp)];rfl
 | cons v l ih=>
  grind [TY,get_set]
theorem get_ofList(l:List α)(m:Nat):(ofList l).get m=l[m]?:=by
 grind [ofList,get_setMany,get_leaf]
end Tr
theorem bG{α:Type}(l:List α):∀n,tD l n=l[n]?:=by
 induction l with
 | nil=>intro n;rfl
 | cons a l ih=>
  intro n
  cases n with
  | zero=>rfl
  | succ n=>show tD l n=_;grind
theorem vR{α:Type}(l:List α):∀n,uR l n=l.drop n:=by
 induction l with
 | nil=>intro n;simp;rfl
 | cons a l ih=>
  intro n
  cases n with
  | zero=>rfl
  | succ n=>show uR l n=_;grind
theorem xT{α:Type}(l:List α):∀n,Bm l n=l.take n:=by
 induction l with
 | nil=>intro n;simp;rfl
 | cons a l ih=>
  intro n
  cases n with
  | zero=>rfl
  | succ n=>show a::Bm l n=_;grind
theorem kD{α:Type}(l:List α):yB l=l.length:=by
 induction l with
 | nil=>rfl
 | cons a l ih=>grind [yB]
theorem aG{α:Type}(l m:List α):fD l m=l++m:=by
 induction l with
 | nil=>rfl
 | cons a l ih=>grind [fD]
theorem mI{α:Type}(p:α->Bool)(l:List α):sD p l=l.all p:=by
 induction l with
 | nil=>rfl
 | cons a l ih=>show(bif p a then sD p l else false)=_;rw[ih];cases h:p a<;>simp[h]
theorem lO{α β:Type}(f:α->Option β)(a:α)(l:List α):pG f (a::l)=ob (f a) fun b=>ob (pG f l) fun r=>some (b::r):=rfl
theorem Hh{α β:Type}(f:α->Option β):pG f []=some []:=rfl
theorem Bl(i:Nat)(l:List Nat):dH i l=true ↔ i∈l:=by
 induction l with
 | nil=>exact⟨fun h=>(by cases h),fun h=>(by cases h)⟩
 | cons j l ih=>
  grind [dH,gC]
theorem sN(a:List Nat):∀b,qF a b=true ↔ a=b:=by
 induction a with
 | nil=>intro b;cases b with
  | nil=>exact⟨fun _=>rfl,fun _=>rfl⟩
  | cons y b=>exact⟨fun h=>(by cases h),fun h=>(by cases h)⟩
 | cons x a ih=>
  intro b
  cases b with
  | nil=>exact⟨fun h=>(by cases h),fun h=>(by cases h)⟩
  | cons y b=>
   simp_all [qF]
theorem iM{a b:IntKind}:gN a b=true ↔ a=b:=by cases a<;>cases b<;>simp[gN,kIdx]
theorem aZ(a b:Bool):bEq a b=(a == b):=by cases a<;>cases b<;>rfl
theorem sY(a b:Int):lB a b=true ↔ a=b:=by
 cases a<;>cases b<;>simp only[lB,gC] <;> (try simp)<;>omega
theorem Ua(a b:Int):gE a b=true ↔ a<=b:=by
 cases a<;>cases b<;>simp only[gE,aE] <;> (try simp)<;>omega
theorem Hp(a b:Int):fB a b=true ↔ a<b:=by
 cases a<;>cases b<;>simp only[fB,qC] <;> (try simp)<;>omega
theorem Bv(a b:Int):lB a b=(a == b):=by grind [sY]
theorem zmk(a b:Int):gE a b=decide (a<=b):=by grind [Ua]
theorem zmj(a b:Int):fB a b=decide (a<b):=by grind [Hp]
theorem gP(k:IntKind)(n:Int):fA k n=k.wrap n:=by
 cases n with
 | ofNat n=>
  show(bif Nat.blt n (gG k)then Int.ofNat n else _)=_
  rw[rD];by_cases h:Nat.blt n (gG k)=true
  ·rw[yab h]
   have h':=qC.1 h
   cases k<;>simp only[gG]at h'<;>simp only[IntKind.wrap,IntKind.bits,IntKind.signed]<;>simp<;>omega
  grind
 | negSucc n=>
  show(bif Nat.blt n (kLo k)then Int.negSucc n else _)=_
  rw[rD];by_cases h:Nat.blt n (kLo k)=true
  ·rw[yab h]
   have h':=qC.1 h
   cases k<;>simp only[kLo]at h'<;>simp only[IntKind.wrap,IntKind.bits,IntKind.signed]<;>simp<;>omega
  grind
theorem Oj{n:Int}{m:Nat}:mM n=some m ↔ n=(m:Int):=by
 cases n with
 | ofNat a=>grind [mM]
 | negSucc a=>grind [mM]
end Go.Am
namespace Go.Am
open Go
variable {a b k v:zA}{r:Bool}{l l' m:List (zA × zA)}
theorem Kp  (h:rR a b=some r) :
  (∃k x y,a=.int k x/\b=.int k y/\r=(x == y))\/(∃x y,a=.str x/\b=.str y/\r=qF x y)\/(∃x y,a=.bool x/\b=.bool y/\r=(x == y)):=by
 cases a<;>simp only[rR,zA.asIntK,zA.asStr,Ky,zA.asBool]at h<;>try (cases h;done)
 case bool x=>
  rw[pA,sA]at h;grind [aZ]
 all_goals grind [sA,sB,iM,Bv]
def LY (h:rR a b=some true):a=b:=by
 grind [Kp,sN]
def LZ  (h:rR a b=some r):rR b a=some r:=by
 rcases Kp h with⟨k,x,y,rfl,rfl,hr⟩ | ⟨x,y,rfl,rfl,hr⟩ | ⟨x,y,rfl,rfl,hr⟩
 ·have e:lB y x=(x == y):=by grind [Bv]
  show tB (gN k k) (some (lB y x))=_
  grind [sB,iM]
 ·grind [rR,zA.asIntK,zA.asStr,pA,sN]
 ·simp only[rR,zA.asIntK,zA.asStr,Ky,zA.asBool,aZ,pA,hr]
  rw[show(y == x)=(x == y) by cases x<;>cases y<;>rfl]
def LQ:∀ {x y:List zA},xW x y=some true->x=y
 | [],[],_=>rfl
 | a::x,b::y,h=>by
  simp only[xW,sA]at h;obtain⟨r,hr,s,hs,h⟩:=h
  cases r<;>cases s<;>simp at h
  rw[LY hr,LQ hs]
 | [],_::_,h=>by cases h
 | _::_,[],h=>by cases h
def LS:∀ {x y:List zA} {r:Bool},xW x y=some r->xW y x=some r
 | [],[],_,h=>h
 | a::x,b::y,r,h=>by
  simp only[xW,sA]at h ⊢
  obtain⟨r1,hr,s,hs,h⟩:=h
  exact⟨r1,LZ hr,s,LS hs,h⟩
 | [],_::_,_,h=>by cases h
 | _::_,[],_,h=>by cases h
def Pf  (h:lI a b=some r):(∃x y,a=.agg x/\b=.agg y/\xW x y=some r)\/(a.asAgg=none/\rR a b=some r):=by
 unfold lI at h;split at h
 ·rename_i x hx
  rw[sA]at h;obtain⟨y,hy,h⟩:=h
  cases a<;>simp[zA.asAgg]at hx
  cases b<;>simp[zA.asAgg]at hy
  simp_all
 simp_all
def zdm  (h:rR a b=some r):lI a b=some r:=by
 rcases Kp h with⟨k,x,y,rfl,rfl,hr⟩ | ⟨x,y,rfl,rfl,hr⟩ | ⟨x,y,rfl,rfl,hr⟩<;>exact h
theorem LX (h:lI a b=some true):a=b:=by
 rcases Pf h with⟨x,y,rfl,rfl,h⟩ | ⟨_,h⟩
 ·rw[LQ h]
 ·exact LY h
theorem Pe  (h:lI a b=some r):lI b a=some r:=by
 rcases Pf h with⟨x,y,rfl,rfl,h⟩ | ⟨_,h⟩
 ·exact LS h
 ·exact zdm (LZ h)
def DK (l:List (zA × zA)):Prop:=l.Pairwise fun p q=>lI p.1 q.1=some false
def Lz(l l':List (zA × zA)):Prop:=l'=l\/(l.Perm l'/\DK l)
def DK.perm (h:DK l)(p:l.Perm l'):DK l':=(p.pairwise_iff (fun hab=>Pe hab)).1 h
theorem CR{k:zA}:∀ {l:List (zA × zA)},pL k l=some none ↔ ∀e∈l,lI k e.1=some false
 | []=>by simp[pL]
 | e::l=>by
  rw[pL,sA];constructor
  ·rintro⟨r,hr,h⟩
   cases r with
   | true=>cases h
   | false=>
    rw[cond_false]at h;intro x hx;rcases ybs.1 hx with rfl | hx
    ·exact hr
    ·exact CR.1 h x hx
  ·intro h
   exact⟨false,h e (.head _),CR.2 fun x hx=>h x (.tail _ hx)⟩
def NQ{k v:zA}:∀ {l:List (zA × zA)},pL k l=some (some v)->(k,v)∈l/\lI k k=some true
 | [],h=>by cases h
 | e::l,h=>by
  rw[pL,sA]at h;obtain⟨r,hr,h⟩:=h
  cases r with
  | true=>
   grind [LX]
  | false=>
   rw[cond_false]at h;obtain⟨h1,h2⟩:=NQ h
   simp_all
def DK.split  (h:DK (l++(k,v)::m)):(∀e∈l,lI k e.1=some false)/\∀e∈m,lI k e.1=some false:=by
 unfold DK at h;rw[List.pairwise_append]at h;obtain⟨_,h2,h3⟩:=h
 rw[List.pairwise_cons]at h2;exact⟨fun e he=>Pe (h3 e he (k,v) (.head _)),fun e he=>h2.1 e he⟩
def XC  (h:∀e∈l,lI k e.1=some false):pL k (l++m)=pL k m:=by
 induction l with
 | nil=>rfl
 | cons e l ih=>
  grind [pL,pA]
def XD  {r:Option zA}(h:Lz l l')(hf:pL k l=some r):pL k l'=some r:=by
 rcases h with rfl | ⟨p,d⟩
 ·exact hf
 cases r with
 | none=>
  grind [CR]
 | some v=>
  obtain⟨h1,h2⟩:=NQ hf
  obtain⟨a,b,rfl⟩:=List.append_of_mem (p.mem_iff.1 h1)
  rw[XC (d.perm p).split.1,pL,h2,pA,cond_true]
def Zb{k v:zA}:∀ {l:List (zA × zA)},(∀e∈l,lI k e.1=some false)->qO k v l=some (l++[(k,v)])
 | [],_=>rfl
 | e::l,h=>by
  rw[qO,h e (.head _),pA,cond_false,Zb fun x hx=>h x (.tail _ hx)]
  rfl
def GX{k v u:zA}{m:List (zA × zA)}(hk:lI k k=some true):∀ {l:List (zA × zA)},(∀e∈l,lI k e.1=some false)->qO k v (l++(k,u)::m)=some (l++(k,v)::m)
 | [],_=>by simp_all [qO]
 | e::l,h=>by
  rw[List.cons_append,qO,h e (.head _),pA,cond_false,GX hk fun x hx=>h x (.tail _ hx)]
  rfl
def GW{k v:zA}:∀ {l r:List (zA × zA)},qO k v l=some r->((∀e∈l,lI k e.1=some false)/\r=l++[(k,v)])\/(lI k k=some true/\∃a u b,l=a++(k,u)::b/\r=a++(k,v)::b)
 | [],r,h=>by cases h;simp_all
 | e::l,r,h=>by
  rw[qO,sA]at h;obtain⟨q,hq,h⟩:=h
  cases q with
  | true=>
   rw[cond_true]at h
   cases h;have:=LX hq
   refine .inr ⟨by simp_all,[],e.2,l,?_,rfl⟩
   rw[yah,this]
  | false=>
   rw[cond_false,sA]at h;obtain⟨r',hr,h⟩:=h
   cases h;rcases GW hr with⟨h1,rfl⟩ | ⟨h0,a,u,b,rfl,rfl⟩
   all_goals grind
def TV {r:List (zA × zA)}(h:Lz l l')(hs:qO k v l=some r):∃r',qO k v l'=some r'/\Lz r r':=by
 rcases h with rfl | ⟨p,d⟩
 ·exact⟨r,hs,.inl rfl⟩
 rcases GW hs with⟨h1,rfl⟩ | ⟨h0,a,u,b,rfl,rfl⟩
 ·refine⟨_,Zb fun e he=>h1 e (p.mem_iff.2 he),.inr ⟨p.append_right _,?_⟩⟩
  unfold DK;rw[List.pairwise_append];exact⟨d,by simp,fun x hx y hy=>by grind [Pe]⟩
 ·obtain⟨a',b',rfl⟩:=List.append_of_mem (p.mem_iff.1 (ycf a (.head b)))
  refine⟨_,GX h0 (d.perm p).split.1,.inr ⟨?_,?_⟩⟩
  ·have p1:(a++b).Perm (a'++b'):=by
    have q1:(a++(k,u)::b).Perm ((k,u)::(a++b)):=List.perm_middle
    have q2:(a'++(k,u)::b').Perm ((k,u)::(a'++b')):=List.perm_middle
    exact(q1.symm.trans (p.trans q2)).cons_inv
   exact List.perm_middle.trans ((p1.cons _).trans List.perm_middle.symm)
  ·unfold DK at d ⊢
   rw[List.pairwise_append,List.pairwise_cons]at d ⊢
   obtain⟨d1,⟨d2,d3⟩,d4⟩:=d
   refine⟨d1,⟨d2,d3⟩,fun x hx y hy=>?_⟩
   rcases ybs.1 hy with rfl | hy
   ·exact d4 x hx (k,u) (.head _)
   grind
end Go.Am
namespace Go.Am
open Go
structure BI where
 b:Nat
 tight:Bool
 es:Nat
 room:Nat
 ro:Bool
structure Mu where
 m:Nat->Option BI
 pd:Nat->Option (tA × Nat × Nat)
instance:CoeFun Mu fun _=>Nat->Option BI:=⟨Mu.m⟩
def Mu.lw(μ ν:Mu):Prop:=∀a i,μ a=some i->ν a=some i
structure Mu.le (μ ν:Mu):Prop where
 f:∀a i,μ a=some i->ν a=some i
 pd:ν.pd=μ.pd
instance {μ ν:Mu}:CoeFun (μ.le ν) fun _=>∀a i,μ a=some i->ν a=some i:=⟨Mu.le.f⟩
instance {μ ν:Mu}:Coe (μ.le ν) (μ.lw ν):=⟨Mu.le.f⟩
def Mu.le_refl(μ:Mu):μ.le μ:=⟨fun _ _ h=>h,rfl⟩
def Mu.le_trans{a b c:Mu}(h:a.le b)(k:b.le c):a.le c:=⟨fun x i hx=>k.f x i (h.f x i hx),k.pd.trans h.pd⟩
def Mb(μ:Mu):AFn->Fn->Prop
 | .func f,fn=>fn=.func f
 | .yld l,fn=>∃i,μ l=some i/\fn=.yield i.b
mutual
def vA (μ:Mu):zA->Value->Prop
 | .bool b,v=>v=.bool b
 | .int k n,v=>v=.int k n
 | .str l,v=>∃s,v=.string s/\pF s=l
 | .nilptr,v=>v=.pointer none
 | .ptr b off,v=>∃i,μ b=some i/\v=.pointer (some ⟨i.b,off,none⟩)
 | .nilslice,v=>v=.slice none 0 0
 | .slice b off len cap,v=>(∃i cap',μ b=some i/\v=.slice (some ⟨i.b,off,none⟩) len cap'/\cap<=cap'/\(i.tight=true->cap'=cap)/\(i.tight=false->off+cap'*i.es<=i.room))\/(b=0/\len=0/\cap=0/\∃a c,v=.slice (some a) 0 c/\(off=0/\c=0\/off=1))
 | .nilmap,v=>v=.map none
 | .map b,v=>∃i,μ b=some i/\v=.map (some i.b)
 | .func f a c,v=>∃fn a' c',v=.func fn a' c'/\Mb μ f fn/\pB μ a a'.toList/\pB μ c c'.toList
 | .nilfunc,v=>v=.nilFunc
 | .iface t x,v=>∃x',v=.iface t x'/\vA μ x x'
 | .niliface,v=>v=.nilIface
 | .agg l,v=>∃cs,v=.agg cs/\pB μ l cs.toList
 | .tup l,v=>∃cs,v=.tuple cs/\pB μ l cs.toList
def pB (μ:Mu):List zA->List Value->Prop
 | [],m=>m=[]
 | a::l,m=>∃v r,m=v::r/\vA μ a v/\pB μ l r
end
theorem Mb.mono{μ ν:Mu}(h:μ.lw ν){f:AFn}{g:Fn}(k:Mb μ f g):Mb ν f g:=by
 cases f with
 | func f=>exact k
 | yld l=>obtain⟨i,h1,h2⟩:=k;exact⟨i,h _ _ h1,h2⟩
mutual
theorem vA.mono{μ ν:Mu}(h:μ.lw ν):∀(a:zA) (v:Value),vA μ a v->vA ν a v
 | .bool _,_,k=>k
 | .int _ _,_,k=>k
 | .str _,_,k=>k
 | .nilptr,_,k=>k
 | .ptr _ _,_,⟨i,h1,h2⟩=>⟨i,h _ _ h1,h2⟩
 | .nilslice,_,k=>k
 | .slice _ _ _ _,_,.inl ⟨i,c,h1,h2⟩=>.inl ⟨i,c,h _ _ h1,h2⟩
 | .slice _ _ _ _,_,.inr k=>.inr k
 | .nilmap,_,k=>k
 | .map _,_,⟨i,h1,h2⟩=>⟨i,h _ _ h1,h2⟩
 | .func _ a c,_,⟨fn,a',c',h1,h2,h3,h4⟩=>⟨fn,a',c',h1,h2.mono h,pB.mono h a _ h3,pB.mono h c _ h4⟩
 | .nilfunc,_,k=>k
 | .iface _ x,_,⟨x',h1,h2⟩=>⟨x',h1,vA.mono h x _ h2⟩
 | .niliface,_,k=>k
 | .agg l,_,⟨cs,h1,h2⟩=>⟨cs,h1,pB.mono h l _ h2⟩
 | .tup l,_,⟨cs,h1,h2⟩=>⟨cs,h1,pB.mono h l _ h2⟩
theorem pB.mono{μ ν:Mu}(h:μ.lw ν):∀(l:List zA) (m:List Value),pB μ l m->pB ν l m
 | [],_,k=>k
 | a::l,_,⟨v,r,h1,h2,h3⟩=>⟨v,r,h1,vA.mono h a v h2,pB.mono h l r h3⟩
end
theorem pB.length{μ:Mu}{l:List zA}:∀ {m:List Value},pB μ l m->m.length=l.length:=by
 induction l with
 | nil=>grind [pB]
 | cons a l ih=>grind [pB]
theorem pB.get{μ:Mu}{l:List zA}:∀ {m:List Value} {i:Nat} {a:zA},pB μ l m->l[i]?=some a->∃v,m[i]?=some v/\vA μ a v:=by
 induction l with
 | nil=>simp_all
 | cons b l ih=>
  grind [pB]
theorem pB.mk{μ:Mu}{l:List zA}:∀ {m:List Value},m.length=l.length->(∀(i:Nat) a v,l[i]?=some a->m[i]?=some v->vA μ a v)->pB μ l m:=by
 induction l with
 | nil=>grind [pB]
 | cons a l ih=>
  intro m h k
  cases m with
  | nil=>simp at h
  | cons v r=>
   rw[pB];exact⟨v,r,rfl,k 0 a v (by simp) (by simp),ih (by grind) fun i a v h1 h2=>k (i+1) a v (by simp_all) (by simp_all)⟩
theorem pB.append{μ:Mu}{l l':List zA}:∀ {m m':List Value},pB μ l m->pB μ l' m'->pB μ (l++l') (m++m'):=by
 induction l with
 | nil=>grind [pB]
 | cons a l ih=>grind [pB]
theorem pB.drop{μ:Mu}{l:List zA}{m:List Value}(h:pB μ l m)(n:Nat):pB μ (l.drop n) (m.drop n):=by
 refine pB.mk (by simp[h.length]) fun i a v h1 h2=>?_
 rw[yde]at h1 h2;obtain⟨u,hu,hr⟩:=h.get h1
 simp_all
theorem pB.take{μ:Mu}{l:List zA}{m:List Value}(h:pB μ l m)(n:Nat):pB μ (l.take n) (m.take n):=by
 refine pB.mk (by simp[h.length]) fun i a v h1 h2=>?_
 rw[ydf]at h1 h2;split at h1
 ·rename_i hi
  rw[yab hi]at h2;obtain⟨u,hu,hr⟩:=h.get h1
  simp_all
 grind
theorem pB.nil{μ:Mu}:pB μ [] []:=by rw[pB]
theorem pB.cons{μ:Mu}{a:zA}{l:List zA}{v:Value}{m:List Value}(h:vA μ a v)(k:pB μ l m):pB μ (a::l) (v::m):=by grind [pB]
def pB.single{μ:Mu}{a:zA}{v:Value}(h:vA μ a v):pB μ [a] [v]:=.cons h .nil
theorem Fj{v:zA}{b:Bool}:v.asBool=some b ↔ v=.bool b:=by cases v<;>simp[zA.asBool]
def DU{v:zA}{n:Int}:v.asInt=some n ↔ ∃k,v=.int k n:=by cases v<;>simp[zA.asInt]
theorem kY{v:zA}{p:IntKind × Int}:v.asIntK=some p ↔ v=.int p.1 p.2:=by cases v<;>simp[zA.asIntK,Prod.ext_iff]
theorem lY{v:zA}{l:List Nat}:v.asStr=some l ↔ v=.str l:=by cases v<;>simp[zA.asStr]
def Il{v:zA}{p:Nat × Nat}:v.asPtr=some p ↔ v=.ptr p.1 p.2:=by cases v<;>simp[zA.asPtr,Prod.ext_iff]
def Fi{v:zA}{p:Nat × Nat × Nat × Nat}:v.asSlice=some p ↔ v=.slice p.1 p.2.1 p.2.2.1 p.2.2.2:=by cases v<;>simp[zA.asSlice,Prod.ext_iff]
def Vr{v:zA}{b:Nat}:v.asMap=some b ↔ v=.map b:=by cases v<;>simp[zA.asMap]
theorem Lp{v:zA}{l:List zA}:v.asAgg=some l ↔ v=.agg l:=by cases v<;>simp[zA.asAgg]
def ZL{v:zA}{l:List zA}:v.asTup=some l ↔ v=.tup l:=by cases v<;>simp[zA.asTup]
theorem QG{v:zA}{p:AFn × List zA × List zA}:v.asFunc=some p ↔ v=.func p.1 p.2.1 p.2.2:=by cases v<;>simp[zA.asFunc,Prod.ext_iff]
def QF{v:zA}{p:Nat × zA}:v.asIface=some p ↔ v=.iface p.1 p.2:=by cases v<;>simp[zA.asIface,Prod.ext_iff]
theorem Vq{v:zA}{n:Nat}:v.asNat=some n ↔ ∃k,v=.int k (n:Int):=by
 simp_all [zA.asNat,sA,DU,Oj]
theorem xX{v:zA}:(v.tag=3 ↔ v=.nilptr)/\(v.tag=5 ↔ v=.nilslice)/\(v.tag=7 ↔ v=.nilmap)/\(v.tag=10 ↔ v=.nilfunc)/\(v.tag=12 ↔ v=.niliface):=by
 cases v<;>simp[zA.tag]
theorem vA.notAgg{μ:Mu}{a:zA}{v:Value}(h:vA μ a v)(ha:a.asAgg=none):v.cells = #[v]:=by
 cases a<;>rw[vA]at h<;>first
  | (subst h;rfl)
  | (rcases h with⟨_,_,_,rfl,_⟩ | ⟨_,_,_,_,_,rfl,_⟩<;>rfl)
  | (obtain⟨_,rfl,_⟩:=h;rfl)
  | (obtain⟨_,_,rfl⟩:=h;rfl)
  | (obtain⟨_,_,_,rfl,_⟩:=h;rfl)
  | grind [zA.asAgg]
theorem vA.one{μ:Mu}{a:zA}{v:Value}(h:vA μ a v)(ha:a.one=true):v.oneCell'=true:=by
 cases a<;>rw[vA]at h<;>first
  | (subst h;rfl)
  | (rcases h with⟨_,_,_,rfl,_⟩ | ⟨_,_,_,_,_,rfl,_⟩<;>rfl)
  | (obtain⟨_,rfl,_⟩:=h;rfl)
  | (obtain⟨_,_,rfl⟩:=h;rfl)
  | (obtain⟨_,_,_,rfl,_⟩:=h;rfl)
  | (revert ha;decide)
  | (have:=qC.1 ha;grind [zA.tag])
def Vg{μ:Mu}{a:zA}{v:Value}(h:vA μ a v):pB μ a.cells v.cells.toList:=by
 unfold zA.cells
 cases ha:a.asAgg with
 | none=>rw[h.notAgg ha];exact pB.single h
 | some l=>rw[Lp.1 ha,vA]at h;obtain⟨cs,rfl,h⟩:=h;exact h
def qQ(P:Program)(t:Nat):vE:=
 match P.underlying t with
 | some .bool=>.bool
 | some (.int k)=>.int k
 | some .string=>.string
 | some (.pointer e)=>.ptr e
 | some (.slice e)=>.slice e
 | some (.array n e)=>.arr n e
 | some (.map k e)=>.map k e
 | some (.struct fs)=>.struct (fs.toList.map fun f=>(f.offset,f.type,P.cellsOf f.type))
 | some (.func ..)=>.func
 | some (.interface _)=>.iface
 | _=>.other
def Tw:Value->Bool
 | .agg _=>true
 | _=>false
def zg0(P:Program)(t:Nat):Bool:=(P.fieldsOf t).toList.all fun f=>(P.info? f.type).isSome
def tyOf (P:Program)(t:Nat):Option lD:=
 match P.info? t with
 | some i=>match i.zero with
  | some z=>ob (pG Hc z.cells.toList) fun l=>tB (bEq (Tw z) (qQ P t).isAgg&&(P.underlying t).isSome&&zg0 P t)
    (some ⟨qQ P t, i.size, i.bytes, l, !P.stoodInHeld t && !P.eqGuardType P.depth t && (P.fieldsOf t).toList.all (fun f => f.name != "_")⟩)
  | none=>none
 | none=>none
def mF(P:Program)(C:iA):Prop:=∀t ty,C.tys.get t=some ty->tyOf P t=some ty
theorem Vk{a b:ByteArray}(h:pF a=pF b):a=b:=by
 have h1:a.data.toList=b.data.toList:=by
  grind [pF,List.map_inj_right,UInt8.toNat_inj]
 have h2:a.data=b.data:=yax.1 h1
 cases a;simp_all
theorem JJ{μ:Mu}{v:Value}{a:zA}(h:Hc v=some a):vA μ a v/\a.one=true:=by
 unfold Hc at h;split at h<;>cases h<;>refine⟨?_,rfl⟩<;>rw[vA]
 simp_all
theorem JI{μ:Mu}{m:List Value}:∀ {l:List zA},pG Hc m=some l->pB μ l m:=by
 induction m with
 | nil=>grind [Hh,pB.nil]
 | cons v m ih=>
  intro l h;rw[lO,sA]at h;obtain⟨a,ha,h⟩:=h
  rw[sA]at h;obtain⟨r,hr,h⟩:=h
  cases h;exact .cons (JJ ha).1 (ih hr)
theorem VM{μ:Mu}{v:Value}{a:zA}(h:AG v=some a):vA μ a v:=by
 unfold AG at h;split at h
 ·rename_i cs hc
  rw[sA]at h;obtain⟨l,hl,h⟩:=h
  cases h
  cases v<;>simp[zmz]at hc
  grind [vA,JI]
 grind [JJ]
structure eM (P:Program) (t:Nat) (ty:lD):Prop where
 info:∃i,P.info? t=some i/\i.size=ty.size/\i.bytes=ty.bytes/\∃z,i.zero=some z/\pG Hc z.cells.toList=some ty.zero/\Tw z=ty.desc.isAgg
 desc:qQ P t=ty.desc
 und:∃d,P.underlying t=some d
 fields:∀f∈(P.fieldsOf t).toList,∃i,P.info? f.type=some i
 eqOk : ty.eqOk = true -> P.stoodInHeld t = false /\ P.eqGuardType P.depth t = false /\ ∀ f ∈ (P.fieldsOf t).toList, f.name ≠ "_"
theorem SL{P:Program}{t:Nat}{ty:lD}(h:tyOf P t=some ty):eM P t ty:=by
 unfold tyOf at h;split at h
 ·rename_i i hi
  split at h
  ·rename_i z hz
   rw[sA]at h;obtain⟨l,hl,h⟩:=h
   rw[sB]at h;obtain⟨hb,h⟩:=h
   cases h;rw[ybb,ybb]at hb;refine⟨⟨i,hi,rfl,rfl,z,hz,hl,?_⟩,rfl,Option.isSome_iff_exists.1 hb.1.2,fun f hf=>Option.isSome_iff_exists.1 (ycb.1 hb.2 f hf),fun h=>?_⟩
   all_goals grind [aZ]
  ·cases h
 ·cases h
def mF.facts{P:Program}{C:iA}(h:mF P C){t:Nat}{ty:lD}(k:C.tys.get t=some ty):eM P t ty:=SL (h t ty k)
section
variable {P:Program}{w:World}{t:Nat}{ty:lD}
def Gs{i:TypeInfo}(h:P.info? t=some i):(typeInfo t).run P w=.ok i w:=by
 simp[typeInfo,h]
def tF{d:TypeDesc}(h:P.underlying t=some d):(underlying t).run P w=.ok d w:=by
 simp[underlying,h]
theorem eM.size(h:eM P t ty):(sizeOf t).run P w=.ok ty.size w:=by
 obtain⟨i,h1,h2,_⟩:=h.info
 simp[sizeOf,Gs h1,h2]
theorem eM.zero(h:eM P t ty){μ:Mu}:∃z,(∀w,(zeroValue t).run P w=.ok z w)/\vA μ (cY ty) z/\pB μ ty.zero z.cells.toList:=by
 obtain⟨i,h1,_,_,z,h2,h3,h4⟩:=h.info
 have hl:pB μ ty.zero z.cells.toList:=JI h3
 refine⟨z,fun w=>by simp[zeroValue,Gs h1,h2],?_,hl⟩
 unfold cY
 cases hd:ty.desc.isAgg with
 | true=>
  rw[hd]at h4
  cases z<;>simp[Tw]at h4
  show vA μ (.agg ty.zero) _
  rw[vA];exact⟨_,rfl,hl⟩
 | false=>
  rw[hd]at h4;have hc:z.cells = #[z]:=by cases z<;>first | rfl | simp[Tw]at h4
  grind [pB]
def eM.isAgg(h:eM P t ty):(Go.isAgg t).run P w=.ok ty.desc.isAgg w:=by
 obtain⟨d,hd⟩:=h.und
 have h0:=h.desc
 unfold qQ at h0;rw[hd]at h0;unfold Go.isAgg;rw[yad,tF hd,yac,<- h0]
 cases d<;>rfl
theorem Hy(h:eM P t ty){fs:List (Nat × Nat × Nat)}(k:ty.desc.asStruct=some fs):∃g,P.underlying t=some (.struct g)/\fs=g.toList.map fun f=>(f.offset,f.type,P.cellsOf f.type):=by
 obtain⟨d,hd⟩:=h.und
 have h0:=h.desc
 grind [qQ,vE.asStruct]
def xV(h:eM P t ty){e:Nat}(k:ty.desc.asSlice=some e):P.underlying t=some (.slice e):=by
 obtain⟨d,hd⟩:=h.und
 have h0:=h.desc
 unfold qQ at h0;rw[hd]at h0;rw[<- h0]at k
 cases d<;>simp[vE.asSlice]at k
 rw[hd,k]
def Ux(h:eM P t ty){p:Nat × Nat}(k:ty.desc.asArr=some p):P.underlying t=some (.array p.1 p.2):=by
 obtain⟨d,hd⟩:=h.und
 have h0:=h.desc
 unfold qQ at h0;rw[hd]at h0;rw[<- h0]at k
 cases d<;>simp[vE.asArr]at k
 rw[hd,<- k]
def OP(h:eM P t ty){p:Nat × Nat}(k:ty.desc.asMap=some p):P.underlying t=some (.map p.1 p.2):=by
 obtain⟨d,hd⟩:=h.und
 have h0:=h.desc
 unfold qQ at h0;rw[hd]at h0;rw[<- h0]at k
 cases d<;>simp[vE.asMap]at k
 rw[hd,<- k]
def DD(h:eM P t ty){k:IntKind}(e:ty.desc.asInt=some k):P.underlying t=some (.int k):=by
 obtain⟨d,hd⟩:=h.und
 have h0:=h.desc
 unfold qQ at h0;rw[hd]at h0;rw[<- h0]at e
 cases d<;>simp[vE.asInt]at e
 rw[hd,e]
theorem Uw(h:eM P t ty)(e:ty.desc.isString=true):P.underlying t=some .string:=by
 obtain⟨d,hd⟩:=h.und
 have h0:=h.desc
 grind [qQ,vE.isString,vE.tag,Nat.beq]
theorem OO(h:eM P t ty)(e:Nat.blt ty.desc.tag 9=true):∃d,P.underlying t=some d/\∀ms,d≠.interface ms:=by
 obtain⟨d,hd⟩:=h.und
 refine⟨d,hd,fun ms hm=>?_⟩
 subst hm;have h0:=h.desc
 grind [qQ,qC,vE.tag]
end
structure Dc (μ:Mu) (d:mH) (e:Deferred):Prop where
 rel:match d.fn with
  | none=>∃i,μ d.r=some i/\e={ target:=.collected i.b,args := #[] }
  | some f=>∃fn cap as,e={ target:=.fn fn cap,args:=as }/\Mb μ f fn/\pB μ d.args (as++cap).toList
def yF(μ:Mu)(n:Nat)(tm:Tm)(tmps:Array Value):Prop:=tmps.size=n/\∀i v,tm.get i=some v->vA μ v (tmps.getD i undef)
structure Qy (μ:Mu) (l:mN) (r:Loop):Prop where
 state:r.state=l.state
 pending:r.pending=l.pending
 fn:r.fn=l.fn
 tm:yF μ l.n l.tm r.tmps
 params:r.params.toList=l.params
 assign:r.assign=l.assign
 body:r.body=l.body
 defers:∃i,μ l.defers=some i/\r.defers=i.b
inductive xD {α β:Type} (R:α->β->Prop):List α->List β->Prop
 | nil:xD R [] []
 | cons {a b l m}:R a b->xD R l m->xD R (a::l) (b::m)
def uJ (μ:Mu)(i:BI):tA->Obj->Prop
 | .cells c n loose,o=>∃cs elem fr,o=.cells cs elem fr/\n<=cs.size/\(i.ro=true\/fr.2<=fr.1\/cs.size<=fr.1)/\(∀(j:Nat) v,c.get j=some v->j<n/\∃v',cs[j]?=some v'/\vA μ v v') ∧
   (match loose with | none=>i.tight=true | some lo=>i.tight=false/\i.es=lo.es/\i.room=cs.size/\∀t,lo=.ty t->elem=t)
 | .map l,o=>∃es clock l',o=.map es clock/\Lz l l'/\xD (fun p e=>vA μ p.1 e.key/\vA μ p.2 e.val) l' es.toList
 | .loop l,o=>∃r,o=.loop r/\Qy μ l r
 | .deferred l,o=>∃l',o=.deferred l'/\(match l,l' with | none,none=>True | some a,some b=>xD (Dc μ) a b | _,_=>False)
 | .siter s pos,o=>∃s',o=.stringIter s' pos/\pF s'=s
structure rB (B N:Nat) (μ:Mu) (H:xA) (w:World):Prop where
 base:256<=B
 glob:∀g,g<256->μ g=some ⟨g,true,0,0,true⟩
 low:∀a x i,a<B->H.t.get a=some x->μ a=some i->i.b<N/\x.asLoop=none/\x.asDeferred=none
 next:B<=H.next
 size:N<=w.heap.size
 fresh:∀a,H.next<=a->μ a=none/\H.t.get a=none
 blk:∀a x i,H.t.get a=some x->μ a=some i->∃o,w.heap[i.b]?=some o/\uJ μ i x o
 own:∀a i,B<=a->μ a=some i->N<=i.b/\i.b<w.heap.size/\i.ro=false
 inj:∀a b x y i j,H.t.get a=some x->H.t.get b=some y->μ a=some i->μ b=some j->B<=a->B<=b->i.b=j.b->a=b
 pnd:∀a x t,μ.pd a=some (x,t)->μ a=none/\H.t.get a=some x/\B<=a
end Go.Am
namespace Go.Am
open Go
variable {a x:Operand}{b f off t:Nat}{p:Tr zA × Nat × Option Lo}{i:BI}{l:List zA}
def gF (μ:Mu)(e:vD)(ρ:Operand->Value):Prop:=∀x v,ev x e=some v->vA μ v (ρ x)
def gF.many{μ:Mu}{e:vD}{ρ:Operand->Value}(h:gF μ e ρ):∀ {l:List Operand} {r:List zA},kO l e=some r->pB μ r (l.map ρ):=by
 intro l;induction l with
 | nil=>intro r k;unfold kO at k;rw[Hh]at k;cases k;exact .nil
 | cons x l ih=>
  intro r k;unfold kO at k;rw[lO,sA]at k;obtain⟨a,ha,k⟩:=k
  rw[sA]at k;obtain⟨b,hb,k⟩:=k
  cases k
  exact .cons (h _ _ ha) (ih hb)
def gF.parts{μ:Mu}{e:vD}{ρ:Operand->Value}(h:gF μ e ρ):∀ {l:List (Nat × Operand)} {r:List (Nat × zA)},evp l e=some r →
  xD (fun p q=>p.1=q.1/\vA μ p.2 q.2) r (l.map fun x=>(x.1,ρ x.2)):=by
 intro l;induction l with
 | nil=>intro r k;unfold evp at k;rw[Hh]at k;cases k;exact .nil
 | cons x l ih=>
  intro r k;unfold evp at k;rw[lO,sA]at k;obtain⟨a,ha,k⟩:=k
  rw[sA]at ha;obtain⟨a',ha,ha'⟩:=ha
  cases ha'
  rw[sA]at k;obtain⟨b,hb,k⟩:=k
  cases k
  exact .cons ⟨rfl,h _ _ ha⟩ (ih hb)
def EE(μ:Mu):Option zA->Option Value->Prop
 | none,none=>True
 | some a,some v=>vA μ a v
 | _,_=>False
def gF.opt{μ:Mu}{e:vD}{ρ:Operand->Value}(h:gF μ e ρ){x:Option Operand}{r:Option zA}(k:evo x e=some r):EE μ r (x.map ρ):=by
 cases x with
 | none=>cases k;trivial
 | some x=>unfold evo at k;simp only[]at k;rw[sA]at k;obtain⟨a,ha,k⟩:=k;cases k;exact h _ _ ha
theorem Ae(b off n:Nat):Addr.add ⟨b,off,none⟩ n=⟨b,off+n,none⟩:=by
 grind [Addr.add]
section
variable {P:Program}{C:iA}{B N:Nat}{μ:Mu}{H:xA}{w:World}
theorem Cs  (h:qD H b=some p):H.t.get b=some (.cells p.1 p.2.1 p.2.2):=by
 unfold qD at h;rw[sA]at h;obtain⟨x,hx,h⟩:=h
 cases x<;>simp[tA.asCells]at h
 grind
theorem rB.cellAt(hH:rB B N μ H w)  (h:qD H b=some p) (hi:μ b=some i){j:Nat}{v:zA}(hv:p.1.get j=some v) :
  ∃v',w.cell? ⟨i.b,j,none⟩=some v'/\vA μ v v':=by
 obtain⟨o,h2,h3⟩:=hH.blk _ _ _ (Cs h) hi
 obtain⟨cs,elem,fr,rfl,_,_,h4,_⟩:=h3
 grind [World.cell?]
theorem rB.manyAt(hH:rB B N μ H w)  (h:qD H b=some p) (hi:μ b=some i){n:Nat} (hl:p.1.many n off=some l) :
  ∃vs:List Value,vs.length=n/\pB μ l vs/\(loadCells ⟨i.b,off,none⟩ n).run P w=.ok vs.toArray w/\∀j,j<n->w.cell? ⟨i.b,off+j,none⟩=vs[j]?:=by
 obtain⟨h1,h2⟩:=Tr.many_some _ _ _ _ hl
 have key:∀j,j<n->∃v',w.cell? ⟨i.b,off+j,none⟩=some v'/\∃a,l[j]?=some a/\vA μ a v':=by
  intro j hj;have h3:=h2 j hj
  cases hlj:l[j]? with
  | none=>grind
  | some a=>
   rw[hlj]at h3;obtain⟨v',h4,h5⟩:=hH.cellAt h hi h3
   simp_all
 let f:Nat->Value:=fun j=>(w.cell? ⟨i.b,off+j,none⟩).getD undef
 have hf:∀j,j<n->w.cell? ⟨i.b,off+j,none⟩=some (f j):=by
  grind
 refine⟨(List.range n).map f,by simp,?_,?_,?_⟩
 all_goals grind [pB.mk,run_loadCells,Ae]
theorem KG(hH:rB B N μ H w) {ty:lD}(hty:eM P t ty)  (h:qD H b=some p) (hi:μ b=some i) {v:zA}
  (hv:wT ty p.1 off=some v):∃v',(loadVar t ⟨i.b,off,none⟩).run P w=.ok v' w/\vA μ v v':=by
 unfold wT at hv;unfold loadVar;rw[yad,hty.isAgg,yac]
 cases ha:ty.desc.isAgg with
 | true=>
  rw[ha,cond_true,sA]at hv;obtain⟨l,hl,hv⟩:=hv
  cases hv;obtain⟨vs,_,h2,h3,_⟩:=hH.manyAt (P:=P) h hi hl
  refine⟨.agg vs.toArray,?_,by grind [vA]⟩
  rw[yab rfl,yad,hty.size,yac,yad,h3];rfl
 | false=>
  rw[ha,cond_false]at hv;obtain⟨v',h1,h2⟩:=hH.cellAt h hi hv
  refine⟨v',?_,h2⟩
  rw[yaa (by simp),run_load,h1]
theorem Nx(hT:mF P C)  {cs:Array Value}(hl:pB μ l cs.toList) {v:zA}(hv:eQ C t l off=some v) :
  ∃v',(part t cs off).run P w=.ok v' w/\vA μ v v':=by
 unfold eQ at hv;rw[sA]at hv;obtain⟨ty,hty,hv⟩:=hv
 have hF:=hT.facts hty
 unfold part;rw[yad,hF.isAgg,yac]
 cases ha:ty.desc.isAgg with
 | true=>
  rw[ha,cond_true]at hv
  cases hv;refine⟨.agg (cs.extract off (off+ty.size)),?_,?_⟩
  ·rw[yab rfl,yad,hF.size];rfl
  ·rw[vA];refine⟨_,rfl,?_⟩
   rw[xT,vR,Array.toList_extract,List.extract_eq_take_drop,Nat.add_sub_cancel_left];exact(hl.drop _).take _
 | false=>
  rw[ha,cond_false,bG]at hv;obtain⟨v',h1,h2⟩:=hl.get hv
  simp_all
def eI (P:Program)(μ:Mu)(w:World)(ρ:Operand->Value)(o:Oper)(v:zA):Prop:=∃v',(execOp ρ o).run P w=.ok (.value v') w/\vA μ v v'
variable {e:vD}{ρ:Operand->Value}{dst:Option Tmp}{type:TypeId}{pos:String}{after:Array Edge}{guard:Option (Nat × Bool)}{v:zA}
def KX(hE:gF μ e ρ) (h:tQ x C e H=some v):eI P μ w ρ ⟨dst,.move x,type,pos,after,guard⟩ v:=⟨ρ x,rfl,hE x v h⟩
def LN(hE:gF μ e ρ) (h:tQ x C e H=some v):eI P μ w ρ ⟨dst,.assign x,type,pos,after,guard⟩ v:=⟨ρ x,rfl,hE x v h⟩
def KW(hE:gF μ e ρ){c b:Operand}(h:Pb c a b C e H=some v):eI P μ w ρ ⟨dst,.pick c a b,type,pos,after,guard⟩ v:=by
 unfold Pb at h;rw[sA]at h;obtain⟨cv,hc,h⟩:=h
 rw[sA]at h;obtain⟨cb,hb,h⟩:=h
 have h1:=hE _ _ hc
 rw[Fj.1 hb,vA]at h1;unfold eI execOp;simp only[h1,asBool]
 cases cb with
 | true=>exact⟨ρ a,rfl,hE _ _ h⟩
 | false=>exact⟨ρ b,rfl,hE _ _ h⟩
theorem KZ(hT:mF P C)(hH:rB B N μ H w)(hE:gF μ e ρ)  (h:dX t a C e H=some v):eI P μ w ρ ⟨dst,.load t a,type,pos,after,guard⟩ v:=by
 unfold dX at h;simp only[sA,Il]at h;obtain⟨av,ha,p,rfl,ty,hty,c,hc,h⟩:=h
 have h1:=hE _ _ ha
 rw[vA]at h1;obtain⟨i,hi,hv⟩:=h1
 obtain⟨v',h2,h3⟩:=KG (P:=P) hH (hT.facts hty) hc hi h
 refine⟨v',?_,h3⟩
 grind [execOp,Instr.loadAt,Instr.sureAddr,Sem.run_bind,Sem.run_pure,Result.andThen_ok]
theorem zdc(hE:gF μ e ρ) (h:Bq x C e H=some v):eI P μ w ρ ⟨dst,.nilCheck x,type,pos,after,guard⟩ v:=by
 unfold Bq at h;rw[sA]at h;obtain⟨a,ha,h⟩:=h
 rw[sB]at h;obtain⟨hb,h⟩:=h
 cases h;have h1:=hE _ _ ha
 refine⟨ρ x,?_,h1⟩
 cases v<;>simp[zA.tag,Nat.beq]at hb
 ·rw[vA]at h1
  obtain⟨i,_,hv⟩:=h1
  simp_all [execOp]
 ·rename_i fn a b
  rw[vA]at h1;obtain⟨fn',a',c',hv,hf,_⟩:=h1
  cases fn with
  | func f=>cases hf;simp_all [execOp]
  | yld l=>obtain⟨i,_,rfl⟩:=hf;simp_all [execOp]
def LG(hE:gF μ e ρ){fn:Fn}{a b:Array Operand}(h:(Eo fn a b).f C e H=some v):eI P μ w ρ ⟨dst,.makeFunc fn a b,type,pos,after,guard⟩ v:=by
 unfold Eo at h;split at h
 ·rename_i f
  simp only[Kn,sA]at h;obtain⟨as,ha,bs,hb,h⟩:=h
  cases h;refine⟨.func (.func f) (a.map ρ) (b.map ρ),rfl,?_⟩
  rw[vA];exact⟨_,_,_,rfl,rfl,by simpa using hE.many ha,by simpa using hE.many hb⟩
 ·cases h
def LF(hT:mF P C)(hE:gF μ e ρ)  (h:En t x C e H=some v):eI P μ w ρ ⟨dst,.makeInterface t x,type,pos,after,guard⟩ v:=by
 unfold En at h;simp only[sA,sB]at h;obtain⟨ty,hty,hb,a,ha,h⟩:=h
 cases h;obtain⟨d,hd,hn⟩:=OO (hT.facts hty) hb
 refine⟨.iface t (ρ x),?_,by rw[vA];exact⟨_,rfl,hE _ _ ha⟩⟩
 simp only[execOp,Instr.makeInterface,yad,tF hd,yac]
 cases d<;>first | rfl | exact absurd rfl (hn _)
theorem LK(hE:gF μ e ρ){t:Operand}{i:Nat}(h:zY t i C e H=some v):eI P μ w ρ ⟨dst,.extract t i,type,pos,after,guard⟩ v:=by
 unfold zY at h;simp only[sA,ZL,bG]at h;obtain⟨a,ha,l,rfl,h⟩:=h
 have h1:=hE _ _ ha
 rw[vA]at h1;obtain⟨cs,hv,hl⟩:=h1
 obtain⟨v',h2,h3⟩:=hl.get h
 refine⟨v',?_,h3⟩
 simp_all [execOp,Instr.extract]
theorem LH(hT:mF P C)(hE:gF μ e ρ)   (h:Ep t x f C e H=some v):eI P μ w ρ ⟨dst,.field t x f,type,pos,after,guard⟩ v:=by
 unfold Ep at h;simp only[sA,Lp,bG]at h;obtain⟨ty,hty,fs,hfs,fd,hfd,a,ha,l,rfl,h⟩:=h
 obtain⟨g,hg,rfl⟩:=Hy (hT.facts hty) hfs
 have h1:=hE _ _ ha
 rw[vA]at h1;obtain⟨cs,hv,hl⟩:=h1
 rw[ybu]at hfd
 cases hgf:g.toList[f]? with
 | none=>simp_all
 | some fld=>
  rw[hgf]at hfd;simp at hfd;subst hfd;obtain⟨v',h2,h3⟩:=Nx (w:=w) hT hl h
  refine⟨v',?_,h3⟩
  simp_all [execOp,Instr.field,tF,asAgg]
theorem LJ(hT:mF P C)(hE:gF μ e ρ){s:Nat}  (h:aX s x f C e H=some v):eI P μ w ρ ⟨dst,.fieldAddr s x f,type,pos,after,guard⟩ v:=by
 unfold aX at h;simp only[sA,Il,bG,sB]at h;obtain⟨ty,hty,fs,hfs,fd,hfd,hz,a,ha,p,rfl,h⟩:=h
 cases h;obtain⟨g,hg,rfl⟩:=Hy (hT.facts hty) hfs
 have h1:=hE _ _ ha
 rw[vA]at h1;obtain⟨i,hi,hv⟩:=h1
 rw[ybu]at hfd
 cases hgf:g.toList[f]? with
 | none=>simp_all
 | some fld=>
  rw[hgf]at hfd;simp at hfd;subst hfd;refine⟨.pointer (some ⟨i.b,p.2+fld.offset,none⟩),?_,by grind [vA]⟩
  have h4:g[f]?=some fld:=by simp_all
  have h5:P.cellsOf fld.type≠0:=by
   grind [beqf]
  have h6:(sizeOf fld.type).run P w=.ok (P.cellsOf fld.type) w:=by
   unfold Program.cellsOf at h5 ⊢
   cases hinf:P.info? fld.type with
   | none=>simp_all
   | some inf=>simp[sizeOf,Gs hinf]
  simp_all [execOp,Instr.fieldAt,tF,Instr.sureAddr,fieldPlace,Ae]
end
end Go.Am
namespace Go.Am
open Go
section
variable {P:Program}{C:iA}{B N:Nat}{μ:Mu}{H:xA}{w:World}
variable {e:vD}{ρ:Operand->Value}{dst:Option Tmp}{type:TypeId}{pos:String}{after:Array Edge}{guard:Option (Nat × Bool)}{v:zA}
theorem Ga{k:IntKind}{n:Nat}(h:n<gG k):k.wrap (n:Int)=n:=by
 rw[<- gP];show(bif Nat.blt n (gG k)then Int.ofNat n else _)=_
 grind [qC]
def BM(k:IntKind):∃m,gG k=2^m/\m<=k.bits:=by
 cases k
 ·exact⟨7,rfl,by decide⟩
 ·exact⟨15,rfl,by decide⟩
 ·exact⟨31,rfl,by decide⟩
 ·exact⟨63,rfl,by decide⟩
 ·exact⟨8,rfl,by decide⟩
 ·exact⟨16,rfl,by decide⟩
 ·exact⟨32,rfl,by decide⟩
 ·exact⟨64,rfl,by decide⟩
def Cq{k:IntKind}{n:Nat}(h:n<gG k):(BitVec.ofInt k.bits (n:Int)).toNat=n:=by
 obtain⟨m,hm,hle⟩:=BM k
 rw[BitVec.toNat_ofInt];have:n<2^k.bits:=Nat.lt_of_lt_of_le (hm ▸ h) (yao (by omega) hle)
 rw[<- Int.natCast_emod,Int.toNat_natCast,Nat.mod_eq_of_lt this]
theorem Ub{f:Nat->Nat->Nat}{k:IntKind}{a b:Int}{v:zA}(h:jI f k a b=some v):∃x y:Nat,a=x/\b=y/\x<gG k/\y<gG k/\v=.int k (f x y:Nat):=by
 grind [jI,sA,Oj,sB,qC]
theorem zfm{op:BinOp}{k:IntKind}{a b:Int}(h:(DS op).f k a b=some v):op≠.shl/\op≠.shr/\∀t,∃v',(binOp op t (.int k a) (.int k b)).run P w=.ok v' w/\vA μ v v':=by
 cases op<;>simp only[DS]at h
 case add=>cases h;simp_all [binOp,Op.intArith,vA,gP]
 case sub=>cases h;simp_all [binOp,Op.intArith,vA,gP]
 case mul=>cases h;simp_all [binOp,Op.intArith,vA,gP]
 case quo=>
  unfold Bu at h;simp only[rD,sY]at h;split at h
  ·cases h
  ·rename_i hb;cases h
   simp_all [vA,gP,binOp,Op.intDiv]
 case rem=>
  unfold Bt at h;simp only[rD,sY]at h;split at h
  ·cases h
  ·rename_i hb;cases h
   simp_all [vA,binOp,Op.intDiv]
 case and=>
  unfold iAnd at h;split at h
  ·obtain⟨x,y,rfl,rfl,hx,hy,rfl⟩:=Ub h
   refine⟨by simp,by simp,fun t=>⟨.int k ((x &&& y:Nat):Int),?_,by rw[vA];rfl⟩⟩
   have h1:x &&& y<gG k:=yam Nat.and_le_left hx
   simp only[binOp,Op.intBits,BitVec.toNat_and,Cq hx,Cq hy,Ga h1];simp
  ·simp only[sA,Oj,sB,qC]at h
   obtain⟨y,rfl,hy,h⟩:=h
   cases h;have e:(BitVec.ofInt k.bits a).toNat=Int.toNat (Int.emod a (.ofNat (kW k))):=by
    rw[BitVec.toNat_ofInt]
    cases k<;>rfl
   generalize Int.toNat (Int.emod a (.ofNat (kW k)))=x at e ⊢
   refine⟨by simp,by simp,fun t=>⟨.int k ((x &&& y:Nat):Int),?_,by rw[vA];rfl⟩⟩
   have h1:x &&& y<gG k:=yam Nat.and_le_right hy
   simp only[binOp,Op.intBits,BitVec.toNat_and,e,Cq hy,Ga h1];simp
 case or=>
  obtain⟨x,y,rfl,rfl,hx,hy,rfl⟩:=Ub h
  obtain⟨m,hm,_⟩:=BM k
  refine⟨by simp,by simp,fun t=>⟨.int k ((x ||| y:Nat):Int),?_,by rw[vA];rfl⟩⟩
  have h1:x ||| y<gG k:=by simp_all [Nat.or_lt_two_pow]
  simp only[binOp,Op.intBits,BitVec.toNat_or,Cq hx,Cq hy,Ga h1];simp
 case xor=>
  obtain⟨x,y,rfl,rfl,hx,hy,rfl⟩:=Ub h
  obtain⟨m,hm,_⟩:=BM k
  refine⟨by simp,by simp,fun t=>⟨.int k ((x ^^^ y:Nat):Int),?_,by rw[vA];rfl⟩⟩
  have h1:x ^^^ y<gG k:=by simp_all [Nat.xor_lt_two_pow]
  simp only[binOp,Op.intBits,BitVec.toNat_xor,Cq hx,Cq hy,Ga h1];simp
 case eql=>cases h;simp_all [binOp,Op.intCmp,vA,Bv]
 case neq=>cases h;exact⟨by simp,by simp,fun t=>⟨.bool (a != b),by simp[binOp,Op.intCmp],by rw[vA,Bv];rfl⟩⟩
 case lss=>cases h;simp_all [binOp,Op.intCmp,vA,zmj]
 case leq=>cases h;simp_all [binOp,Op.intCmp,vA,zmk]
 case gtr=>cases h;simp_all [binOp,Op.intCmp,vA,zmj]
 case geq=>cases h;simp_all [binOp,Op.intCmp,vA,zmk]
 all_goals cases h
theorem Lk(s:ByteArray):(pF s).length=s.size:=by simp[pF]
theorem ZA(a b:ByteArray):pF (a++b)=pF a++pF b:=by simp[pF]
theorem YZ(s:ByteArray)(i:Nat):(pF s)[i]?=(s[i]?).map UInt8.toNat:=by
 unfold pF;rw[ybu];congr 1
 by_cases h:i<s.size
 all_goals simp_all [ByteArray.getElem_eq_getElem_data]
theorem PY(s:ByteArray)(l h:Nat):pF (s.extract l h)=((pF s).take h).drop l:=by
 unfold pF;rw[ByteArray.data_extract,Array.toList_extract,List.extract_eq_take_drop,<- List.map_take,<- List.map_drop,List.drop_take]
theorem PZ{a b:ByteArray}:(a.toList == b.toList)=(qF (pF a) (pF b)):=by
 grind [Lib.toList_data,sN,pF,Vk]
theorem WE(a:List UInt8):∀b:List UInt8,Op.bytesLess a b=AY (a.map UInt8.toNat) (b.map UInt8.toNat):=by
 induction a with
 | nil=>intro b;cases b<;>rfl
 | cons x a ih=>
  intro b
  cases b with
  | nil=>rfl
  | cons y b=>
   show _=(bif Nat.blt x.toNat y.toNat then true else bif Nat.beq x.toNat y.toNat then AY (a.map UInt8.toNat) (b.map UInt8.toNat)else false)
   grind [Op.bytesLess,qC,UInt8.lt_iff_toNat_lt,UInt8.toNat_inj,gC]
theorem zfk{op:BinOp}{a b:ByteArray}(h:(DQ op).f (pF a) (pF b)=some v):op≠.shl/\op≠.shr/\∀t,∃v',(binOp op t (.string a) (.string b)).run P w=.ok v' w/\vA μ v v':=by
 cases op<;>simp only[DQ]at h
 case add=>
  simp only[jN,sB,qC,kD,aG,Lk]at h;obtain⟨h1,h⟩:=h
  cases h;refine⟨by simp,by simp,fun t=>⟨.string (a++b),?_,by grind [vA,ZA]⟩⟩
  have h2:¬ (((a.size+b.size:Nat):Int) > IntKind.i64.max):=by
   have:IntKind.i64.max=9223372036854775807:=by decide
   omega
  simp_all [binOp,Op.stringOp]
 case eql=>cases h;exact⟨by simp,by simp,fun t=>⟨.bool (a.toList == b.toList),rfl,by rw[vA,PZ]⟩⟩
 case neq=>cases h;exact⟨by simp,by simp,fun t=>⟨.bool !(a.toList == b.toList),rfl,by rw[vA,PZ]⟩⟩
 case lss=>cases h;exact⟨by simp,by simp,fun t=>⟨.bool (Op.bytesLess a.toList b.toList),rfl,by rw[vA,Lib.toList_data,Lib.toList_data,WE];rfl⟩⟩
 all_goals cases h
theorem Pu{op:BinOp}{t:TypeId}{x y:Operand}{a b:Value}(h1:¬ (a=.nilIface/\b=.nilIface)\/(Pj x||Pj y)=true)(h2:∀l m,¬ (a=.agg l/\b=.agg m)):(eqGuard op t x y a b).run P w=.ok () w:=by
 unfold eqGuard
 cases op
 case eql | neq=>
  rw[yaa (by simp)]
  split
  ·rcases h1 with h1 | h1
   ·simp_all
   ·cases x<;>cases y<;>simp[Pj]at h1 ⊢
  all_goals simp_all
 all_goals rfl
theorem XL{op:BinOp}{t:TypeId}{x y:Operand}{l m:Array Value}(h:P.eqGuardType P.depth t=false):(eqGuard op t x y (.agg l) (.agg m)).run P w=.ok () w:=by
 simp_all [eqGuard]
theorem Js{op:BinOp}{t yt:TypeId}{x y:Operand}{v':Value}(h1:(eqGuard op t x y (ρ x) (ρ y)).run P w=.ok () w)(h2:(binOp op t (ρ x) (ρ y)).run P w=.ok v' w) :
  (execOp ρ ⟨dst,.binOp op t x y yt,type,pos,after,guard⟩).run P w=.ok (.value v') w:=by
 simp_all [execOp]
theorem GS{k:IntKind}{b:Int}{n:Nat}(h:Gq k b=some n):¬ b<0/\n=min b.toNat k.bits:=by
 grind [Gq,sA,Oj]
theorem QC{op:BinOp}{t yt:TypeId}{x y:Operand}{a b:zA}(hx:vA μ a (ρ x))(hy:vA μ b (ρ y))
  (h:(op=.shl/\Qn tY a b=some v)\/(op=.shr/\Qn Ho a b=some v)):eI P μ w ρ ⟨dst,.binOp op t x y yt,type,pos,after,guard⟩ v:=by
 rcases h with⟨rfl,h⟩ | ⟨rfl,h⟩
 all_goals
  unfold Qn at h;simp only[sA,kY,DU]at h;obtain⟨p,rfl,n,⟨k',rfl⟩,h⟩:=h
  rw[vA]at hx hy
 ·unfold tY at h
  rw[sA]at h;obtain⟨m,hm,h⟩:=h
  cases h;obtain⟨h1,rfl⟩:=GS hm
  refine⟨.int p.1 (p.1.wrap (p.2*2^(min n.toNat p.1.bits))),Js (Pu (.inl (by grind)) (by grind)) ?_,by rw[vA,gP];simp⟩
  rw[hx,hy];simp[binOp,Op.shift,h1]
 ·unfold Ho at h
  rw[sA]at h;obtain⟨m,hm,h⟩:=h
  cases h;obtain⟨h1,rfl⟩:=GS hm
  refine⟨.int p.1 (p.2.fdiv (2^(min n.toNat p.1.bits))),Js (Pu (.inl (by grind)) (by grind)) ?_,by rw[vA];simp⟩
  rw[hx,hy];simp[binOp,Op.shift,h1]
theorem Pt{n m:Nat}{a b:zA}{r:Bool}(h:Fdzx n m a b=some r):(a.tag=n/\b.tag=n/\r=true)\/(a.tag=n/\b.tag=m/\r=false)\/(a.tag=m/\b.tag=n/\r=false):=by
 grind [Fdzx,gC,sB]
theorem zei{t:Nat}{ty:lD}(hF:eM P t ty){a b:zA}{va vb:Value}(ha:vA μ a va)(hb:vA μ b vb){r:Bool}{d:Nat}(h:Pv ty.desc a b=some r) :
  (Op.equalIn (d+1) t va vb).run P w=.ok r w:=by
 obtain⟨D,hD⟩:=hF.und
 have h0:=hF.desc
 unfold qQ at h0;rw[hD]at h0;unfold Op.equalIn;rw[yad,tF hD,yac];rw[<- h0]at h
 cases D<;>simp only[Pv]at h<;>try (cases h;done)
 case bool=>
  simp only[Ky,sA,Fj]at h;obtain⟨x,rfl,y,rfl,h⟩:=h
  simp_all [vA,aZ]
 case int k=>
  simp only[zp8,sA,kY,sB,iM]at h;obtain⟨x,rfl,y,rfl,hk,h⟩:=h
  simp_all [vA,Bv]
 case string=>
  simp only[CX,sA,lY]at h;obtain⟨x,rfl,y,rfl,h⟩:=h
  cases h;rw[vA]at ha hb;obtain⟨s,rfl,rfl⟩:=ha
  obtain⟨u,rfl,rfl⟩:=hb
  have:(s == u)=qF (pF s) (pF u):=by
   rw[Bool.eq_iff_iff,sN];have h1:(s == u)=(s.data == u.data):=rfl
   grind [pF,Vk]
  simp_all
 case pointer el=>
  rcases Pt h with⟨h1,h2,rfl⟩ | ⟨h1,h2,rfl⟩ | ⟨h1,h2,rfl⟩<;>cases a<;>simp[zA.tag]at h1<;>cases b<;>simp[zA.tag]at h2<;>rw[vA]at ha<;>rw[vA]at hb
  ·simp_all
  ·obtain⟨i,_,hb⟩:=hb;simp_all
  ·obtain⟨i,_,ha⟩:=ha;simp_all
 case slice el=>
  rcases Pt h with⟨h1,h2,rfl⟩ | ⟨h1,h2,rfl⟩ | ⟨h1,h2,rfl⟩<;>cases a<;>simp[zA.tag]at h1<;>cases b<;>simp[zA.tag]at h2<;>rw[vA]at ha<;>rw[vA]at hb
  ·simp_all
  ·rcases hb with⟨i,_,_,hb,_⟩ | ⟨_,_,_,_,_,hb,_⟩ <;> (simp_all)
  ·rcases ha with⟨i,_,_,ha,_⟩ | ⟨_,_,_,_,_,ha,_⟩ <;> (simp_all)
 case map k el=>
  rcases Pt h with⟨h1,h2,rfl⟩ | ⟨h1,h2,rfl⟩ | ⟨h1,h2,rfl⟩<;>cases a<;>simp[zA.tag]at h1<;>cases b<;>simp[zA.tag]at h2<;>rw[vA]at ha<;>rw[vA]at hb
  ·simp_all
  ·obtain⟨i,_,hb⟩:=hb;simp_all
  ·obtain⟨i,_,ha⟩:=ha;simp_all
 case func ps rs vd=>
  rcases Pt h with⟨h1,h2,rfl⟩ | ⟨h1,h2,rfl⟩ | ⟨h1,h2,rfl⟩<;>cases a<;>simp[zA.tag]at h1<;>cases b<;>simp[zA.tag]at h2<;>rw[vA]at ha<;>rw[vA]at hb
  ·simp_all
  ·obtain⟨i,_,_,hb,_⟩:=hb;simp_all
  ·obtain⟨i,_,_,ha,_⟩:=ha;simp_all
 case interface ms=>
  rcases Pt h with⟨h1,h2,rfl⟩ | ⟨h1,h2,rfl⟩ | ⟨h1,h2,rfl⟩<;>cases a<;>simp[zA.tag]at h1<;>cases b<;>simp[zA.tag]at h2<;>rw[vA]at ha<;>rw[vA]at hb
  ·simp_all
  ·obtain⟨i,hb,_⟩:=hb;simp_all
  ·obtain⟨i,ha,_⟩:=ha;simp_all
theorem NT{t:Nat}{g:Array Field}(h:P.underlying t=some (.struct g)):P.fieldsOf t=g:=by unfold Program.fieldsOf;rw[h]
theorem zka(hT:mF P C){D:Nat}{eq:Nat->zA->zA->Option Bool}(heq:∀t a b va vb r,vA μ a va->vA μ b vb->eq t a b=some r->(Op.equalIn D t va vb).run P w=.ok r w)
  {xs ys : List zA} {vx vy : Array Value} (hx : pB μ xs vx.toList) (hy : pB μ ys vy.toList) : ∀ (g : List Field) (r : Bool), (∀ f ∈ g, f.name ≠ "_") -> Ls C eq xs ys (g.map fun f => (f.offset, f.type, P.cellsOf f.type)) = some r →
   (Op.eqFields D vx vy g).run P w=.ok r w:=by
 intro g;induction g with
 | nil=>intro r _ h;cases h;rfl
 | cons f g ih=>
  intro r hn h;rw[ycm,Ls]at h;simp only[sA]at h;obtain⟨a,ha,b,hb,q,hq,h⟩:=h
  obtain⟨va,h1,h2⟩:=Nx (P:=P) (w:=w) hT hx ha
  obtain⟨vb,h3,h4⟩:=Nx (P:=P) (w:=w) hT hy hb
  have h5:=heq _ _ _ _ _ _ h2 h4 hq
  rw[Op.eqFields,yab (hn f (by simp))]
  simp only[yad,h1,yac,h3,h5]
  cases q with
  | true=>grind
  | false=>simp_all
theorem zm1(hT:mF P C):∀(d D t:Nat) (a b:zA) (va vb:Value) (r:Bool),d<=D->vA μ a va->vA μ b vb->aeq C d t a b=some r->(Op.equalIn D t va vb).run P w=.ok r w:=by
 intro d;induction d with
 | zero=>intro D t a b va vb r _ _ _ h;cases h
 | succ d ih=>
  intro D t a b va vb r hD ha hb h
  cases D with
  | zero=>omega
  | succ D=>
   rw[aeq,sA]at h;obtain⟨ty,hty,h⟩:=h
   have hF:=hT.facts hty
   split at h
   ·rename_i fs hfs
    simp only[sB,sA,Lp]at h;obtain⟨hok,xs,rfl,ys,rfl,h⟩:=h
    obtain⟨g,hg,rfl⟩:=Hy hF hfs
    obtain⟨h1,_,h3⟩:=hF.eqOk hok
    grind [vA,NT,run_equalIn_struct,zka]
   grind [zei]
theorem zqy(hT:mF P C){d t:Nat}{a b:zA}{l m:Array Value}{r:Bool}(ha:vA μ a (.agg l))(hb:vA μ b (.agg m))(h:aeq C d t a b=some r):P.eqGuardType P.depth t=false:=by
 cases d with
 | zero=>cases h
 | succ d=>
  rw[aeq,sA]at h;obtain⟨ty,hty,h⟩:=h
  split at h
  ·rw[sB]at h;exact((hT.facts hty).eqOk h.1).2.1
  ·exfalso
   have hag:∀(a:zA) (l:Array Value),vA μ a (.agg l)->a.tag=13:=by
    intro a l ha
    cases a<;>rw[vA]at ha<;>first | rfl | (exfalso;revert ha;simp)
   have h1:=hag _ _ ha
   have h2:=hag _ _ hb
   cases a<;>simp[zA.tag]at h1
   cases b<;>simp[zA.tag]at h2
   revert h
   cases ty.desc<;>simp[Pv,Ky,zA.asBool,zp8,zA.asIntK,CX,zA.asStr,Fdzx,Uq,zA.tag,tB,Nat.beq]
def FP{a:zA}{v:Value}(h:vA μ a v):v=.nilIface->a.tag=12:=by
 intro hv;subst hv
 cases a<;>rw[vA]at h<;>first | rfl | (exfalso;revert h;simp)
theorem QD(hT:mF P C){op:BinOp}{t yt:TypeId}{x y:Operand}{a b:zA}{neg:Bool}(hx:vA μ a (ρ x))(hy:vA μ b (ρ y))(ha:a.asIntK=none)(hs:a.asStr=none)
  (hop:(neg=false/\op=.eql)\/(neg=true/\op=.neq)) (h:Vp neg C t x y a b=some v):eI P μ w ρ ⟨dst,.binOp op t x y yt,type,pos,after,guard⟩ v:=by
 unfold Vp at h;simp only[sB,sA]at h;obtain⟨hg,r,hr,h⟩:=h
 cases h;have h1:(Op.equal t (ρ x) (ρ y)).run P w=.ok r w:=zm1 hT 20 10000 t a b _ _ r (by decide) hx hy hr
 have hG:(eqGuard op t x y (ρ x) (ρ y)).run P w=.ok () w:=by
  by_cases hag:∃l m,ρ x=.agg l/\ρ y=.agg m
  ·grind [XL,zqy]
  ·refine Pu ?_ fun l m hlm=>hag ⟨l,m,hlm⟩
   by_cases hn:ρ x=.nilIface/\ρ y=.nilIface
   ·right
    have h2:=FP hx hn.1
    have h3:=FP hy hn.2
    simp_all [OF]
   simp_all
 have hnx:∀k n,ρ x≠.int k n:=by
  intro k n hv;rw[hv]at hx
  cases a<;>rw[vA]at hx<;>first | (simp[zA.asIntK]at ha;done) | (revert hx;simp)
 have hsx:∀s,ρ x≠.string s:=by
  intro s hv;rw[hv]at hx
  cases a<;>rw[vA]at hx<;>first | (simp[zA.asStr]at hs;done) | (revert hx;simp)
 have hfx:∀k n,ρ x≠.float k n:=by
  intro k n hv;rw[hv]at hx
  cases a<;>rw[vA]at hx<;>revert hx<;>simp
 have hcx:∀k n m,ρ x≠.complex k n m:=by
  intro k n m hv;rw[hv]at hx
  cases a<;>rw[vA]at hx<;>revert hx<;>simp
 rcases hop with⟨rfl,rfl⟩ | ⟨rfl,rfl⟩
 ·refine⟨.bool r,Js hG ?_,by rw[vA];rfl⟩
  revert h1 hnx hsx hfx hcx
  generalize ρ x=vx
  generalize ρ y=vy
  intro h1 hnx hsx hfx hcx
  cases vx<;>first
   | exact absurd rfl (hnx _ _)
   | exact absurd rfl (hsx _)
   | exact absurd rfl (hfx _ _)
   | exact absurd rfl (hcx _ _ _)
   | simp[binOp,h1]
 ·refine⟨.bool (!r),Js hG ?_,by rw[vA];rfl⟩
  revert h1 hnx hsx hfx hcx
  generalize ρ x=vx
  generalize ρ y=vy
  intro h1 hnx hsx hfx hcx
  cases vx<;>first
   | exact absurd rfl (hnx _ _)
   | exact absurd rfl (hsx _)
   | exact absurd rfl (hfx _ _)
   | exact absurd rfl (hcx _ _ _)
   | simp[binOp,h1]
theorem zdj(hT:mF P C)(hE:gF μ e ρ){op:BinOp}{t yt:Nat}{x y:Operand}(h:yY op t x y C e H=some v):eI P μ w ρ ⟨dst,.binOp op t x y yt,type,pos,after,guard⟩ v:=by
 unfold yY at h;simp only[sA]at h;obtain⟨a,ha,b,hb,h⟩:=h
 have hx:=hE _ _ ha
 have hy:=hE _ _ hb
 clear ha hb
 revert h
 have plain:∀op,op≠.shl->op≠.shr->DR op C t x y a b=some v->eI P μ w ρ ⟨dst,.binOp op t x y yt,type,pos,after,guard⟩ v:=by
  intro op _ _ h;unfold DR at h;split at h
  ·rename_i i hi
   simp only[sA,kY,sB,iM]at h;obtain⟨j,rfl,hk,h⟩:=h
   rw[kY]at hi;subst hi;rw[vA]at hx;rw[vA]at hy;obtain⟨_,_,h2⟩:=zfm (P:=P) (μ:=μ) (w:=w) h
   obtain⟨v',h3,h4⟩:=h2 t
   refine⟨v',Js (Pu (.inl (by grind)) (by grind)) ?_,h4⟩
   simp_all
  ·rename_i hi
   split at h
   ·rename_i s hs
    simp only[sA,lY]at h;obtain⟨u,rfl,h⟩:=h
    rw[lY]at hs;subst hs;rw[vA]at hx;rw[vA]at hy;obtain⟨sx,hx,rfl⟩:=hx
    obtain⟨sy,hy,rfl⟩:=hy
    obtain⟨_,_,h2⟩:=zfk (P:=P) (μ:=μ) (w:=w) h
    obtain⟨v',h3,h4⟩:=h2 t
    refine⟨v',Js (Pu (.inl (by grind)) (by grind)) ?_,h4⟩
    simp_all
   ·rename_i hs
    cases op<;>simp only[zfl]at h<;>first
     | exact QD hT hx hy hi hs (.inl ⟨rfl,rfl⟩) h
     | exact QD hT hx hy hi hs (.inr ⟨rfl,rfl⟩) h
     | (cases h;done)
 intro h
 cases op<;>simp only[Cu]at h<;>first
  | exact QC hx hy (.inl ⟨rfl,h⟩)
  | exact QC hx hy (.inr ⟨rfl,h⟩)
  | exact plain _ (by simp) (by simp) h
theorem BK{k:IntKind}(h:kLo k=0):gG k=2^k.bits:=by
 cases k<;>first
  | (cases h;done)
  | rfl
theorem zlj(hE:gF μ e ρ){op:UnOp}{t:Nat}{x:Operand}(h:lUn op x C e H=some v):eI P μ w ρ ⟨dst,.unOp op t x,type,pos,after,guard⟩ v:=by
 unfold lUn at h;simp only[sA]at h;obtain⟨a,ha,h⟩:=h
 have hx:=hE _ _ ha
 cases op<;>simp only[unA]at h<;>try (cases h;done)
 case neg=>
  simp only[unNeg,sA,kY]at h;obtain⟨p,rfl,h⟩:=h
  cases h;rw[vA]at hx;refine⟨.int p.1 (p.1.wrap (0-p.2)),?_,by rw[vA,gP]⟩
  simp[execOp,hx,Op.unary,Op.intArith]
 case xor=>
  simp only[Gj,sA,kY,sB,gC]at h;obtain⟨p,rfl,hk,h⟩:=h
  obtain⟨a,b,ha1,hb,hx1,hy,rfl⟩:=Ub h
  rw[vA]at hx;have h1:Nat.xor a b<gG p.1:=by
   have:Nat.xor a b<2^p.1.bits:=Nat.xor_lt_two_pow (by grind [BK]) (by grind [BK])
   grind [BK]
  refine⟨.int p.1 (Nat.xor a b:Nat),?_,by rw[vA]⟩
  have hm:(if p.1.signed then(-1:Int)else p.1.max)=(a:Int):=by
   rw[<- ha1];revert hk
   cases p.1<;>intro hk<;>first
    | (cases hk;done)
    | rfl
  have e2:(Op.intBits .xor p.1 (if p.1.signed then -1 else p.1.max) p.2).run P w=.ok (.int p.1 (Nat.xor a b:Nat)) w:=by
   rw[hm,hb];simp only[Op.intBits,BitVec.toNat_xor,Cq hx1,Cq hy];rw[show(a ^^^ b:Nat)=Nat.xor a b from rfl,Ga h1]
   rfl
  simp_all [execOp,Op.unary]
 case not=>
  simp only[unNot,sA,Fj]at h;obtain⟨b,rfl,h⟩:=h
  cases h;rw[vA]at hx;refine⟨.bool (!b),?_,by rw[vA]⟩
  simp[execOp,hx,Op.unary]
end
end Go.Am
