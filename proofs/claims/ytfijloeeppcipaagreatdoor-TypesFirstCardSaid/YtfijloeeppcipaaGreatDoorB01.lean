/- -/
import Derived.Below
import Derived.Calls
import Derived.Laws.Cells
import Derived.Laws.Sem
import Derived.Laws.StructEq
import Derived.Laws.World
set_option linter.all false
noncomputable section
namespace Go.Am
def yaa := @List.getElem?_cons_zero
def yab := @List.getElem?_cons_succ
def yac := @Bool.and_eq_true
def yad := @List.getElem?_eq_some_iff
def yae := @List.getElem?_eq_getElem
def yaf := @Array.getElem?_eq_some_iff
def yag := @List.length_map
def yah := @List.length_append
def yai := @Nat.mul_comm
def yaj := @Nat.mul_le_mul_right
def yak := @Nat.mul_assoc
def yal := @Nat.le_refl
def yam := @List.drop_eq_getElem_cons
def yan := @Nat.mul_add
def yao := @List.length_cons
def yap := @Nat.add_mul
def yaq := @List.getElem?_append_right
def yar := @Bool.false_eq_true
def yas := @List.mem_cons_of_mem
def yat := @List.mem_cons
def yau := @List.drop_eq_nil_of_le
def yav := @List.getElem?_map
def yaw := @Nat.mul_le_mul_left
def yax := @Nat.zero_add
def yay := @List.length_nil
def yaz := @List.mem_cons_self
def yba := @List.append_assoc
def ybb := @List.take_of_length_le
def ybc := @List.all_eq_true
def ybd := @List.length_eq_zero_iff
def ybe := @List.append_nil
def ybf := @Nat.dvd_mul_left_of_dvd
def ybg := @List.mem_append_right
def ybh := @List.all_cons
def ybi := @Nat.div_add_mod
def ybj := @Option.some.inj
def ybk := @List.getElem_mem
def ybl := @List.all_nil
def ybm := @Bool.not_false
def ybn := @List.map_cons
def ybo := @Bool.true_and
def ybp := @List.getElem?_append_left
def ybq := @Bool.not_eq_true'
def ybr := @Bool.or_eq_true
def ybs := @List.drop_zero
def ybt := @Array.getElem?_setIfInBounds
def ybu := @Nat.add_zero
def ybv := @Nat.div_lt_of_lt_mul
def ybw := @List.mem_of_getElem?
def ybx := @List.getElem?_set
def yby := @Array.getD_eq_getD_getElem?
def ybz := @Nat.mod_lt
def yca := @Array.length_toList
def ycb := @List.length_take
def ycc := @Nat.mul_le_mul
def ycd := @List.mem_append_left
def yce := @List.mem_singleton
def ycf := @List.getElem?_drop
def ycg := @List.getElem?_take
def ych := @List.take_add_one
def yci := @List.length_set
def ycj := @List.all_append
def yck := @List.length_drop
end Go.Am
namespace Go.Am
inductive Tr (α:Type) where
 | leaf
 | node (l:Tr α) (v:Option α) (r:Tr α)
def ob {α β:Type}(x:Option α)(f:α->Option β):Option β:=Option.rec (motive:=fun _=>Option β) none f x
namespace Tr
variable {α:Type}
def get (t:Tr α):Nat->Option α:=
 Tr.rec (motive:=fun _=>Nat->Option α) (fun _=>none)
  (fun _ v _ gl gr n=>Bool.rec (motive:=fun _=>Option α) (Bool.rec (motive:=fun _=>Option α) (gr (Nat.pred (Nat.div n (nat_lit 2)))) (gl (Nat.div n (nat_lit 2))) (Nat.beq (Nat.mod n (nat_lit 2)) (nat_lit 1))) v (Nat.beq n (nat_lit 0))) t
def mk (f:Nat):Nat->α->Tr α:=
 Nat.rec (motive:=fun _=>Nat->α->Tr α) (fun _ _=>leaf)
  (fun _ g n v=>Bool.rec (motive:=fun _=>Tr α) (Bool.rec (motive:=fun _=>Tr α) (node leaf none (g (Nat.pred (Nat.div n (nat_lit 2))) v)) (node (g (Nat.div n (nat_lit 2)) v) none leaf) (Nat.beq (Nat.mod n (nat_lit 2)) (nat_lit 1))) (node leaf (some v) leaf) (Nat.beq n (nat_lit 0))) f
def set (t:Tr α):Nat->α->Tr α:=
 Tr.rec (motive:=fun _=>Nat->α->Tr α) (fun n v=>mk (Nat.succ n) n v)
  (fun l x r gl gr n v=>Bool.rec (motive:=fun _=>Tr α) (Bool.rec (motive:=fun _=>Tr α) (node l x (gr (Nat.pred (Nat.div n (nat_lit 2))) v)) (node (gl (Nat.div n (nat_lit 2)) v) x r) (Nat.beq (Nat.mod n (nat_lit 2)) (nat_lit 1))) (node l (some v) r) (Nat.beq n (nat_lit 0))) t
def del (t:Tr α):Nat->Tr α:=
 Tr.rec (motive:=fun _=>Nat->Tr α) (fun _=>leaf)
  (fun l x r gl gr n=>Bool.rec (motive:=fun _=>Tr α) (Bool.rec (motive:=fun _=>Tr α) (node l x (gr (Nat.pred (Nat.div n (nat_lit 2))))) (node (gl (Nat.div n (nat_lit 2))) x r) (Nat.beq (Nat.mod n (nat_lit 2)) (nat_lit 1))) (node l none r) (Nat.beq n (nat_lit 0))) t
def many (t:Tr α)(n:Nat):Nat->Option (List α):=
 Nat.rec (motive:=fun _=>Nat->Option (List α)) (fun _=>some [])
  (fun _ g i=>ob (t.get i) fun v=>ob (g (i+1)) fun l=>some (v::l)) n
def setMany(l:List α):Tr α->Nat->Tr α:=
 List.rec (motive:=fun _=>Tr α->Nat->Tr α) (fun t _=>t) (fun v _ g t i=>g (t.set i v) (i+1)) l
def ofList(l:List α):Tr α:=setMany l leaf 0
end Tr
def mC {α:Type}(l:List α):Nat->Option α:=
 List.rec (motive:=fun _=>Nat->Option α) (fun _=>none) (fun a _ g n=>Bool.rec (motive:=fun _=>Option α) (g (Nat.pred n)) (some a) (Nat.beq n (nat_lit 0))) l
def gL{α:Type}(l:List α):Nat->List α:=
 List.rec (motive:=fun _=>Nat->List α) (fun _=>[]) (fun a l g n=>bif Nat.beq n 0 then a::l else g (n-1)) l
def ze7{α:Type}(l:List α):Nat->List α:=
 List.rec (motive:=fun _=>Nat->List α) (fun _=>[]) (fun a _ g n=>bif Nat.beq n 0 then []else a::g (n-1)) l
def dA {α:Type}(l:List α):Nat:=List.rec (motive:=fun _=>Nat) 0 (fun _ _ n=>n+1) l
def eC {α:Type}(l m:List α):List α:=List.rec (motive:=fun _=>List α) m (fun a _ g=>a::g) l
def tC {α:Type}(p:α->Bool)(l:List α):Bool:=List.rec (motive:=fun _=>Bool) true (fun a _ g=>bif p a then g else false) l
def qF{α β:Type}(f:α->Option β)(l:List α):Option (List β):=
 List.rec (motive:=fun _=>Option (List β)) (some []) (fun a _ g=>ob (f a) fun b=>ob g fun r=>some (b::r)) l
def iF(a:List Nat):List Nat->Bool:=
 List.rec (motive:=fun _=>List Nat->Bool) (fun b=>b.isEmpty) (fun x _ g b=>List.rec (motive:=fun _=>Bool) false (fun y b _=>bif Nat.beq x y then g b else false) b) a
def kIdx:IntKind->Nat
 | .i8=>0 | .i16=>1 | .i32=>2 | .i64=>3 | .u8=>4 | .u16=>5 | .u32=>6 | .u64=>7
def kEq (a b:IntKind):Bool:=Nat.beq (kIdx a) (kIdx b)
def bEq:Bool->Bool->Bool
 | true,b=>b
 | false,b => !b
def lA:Int->Int->Bool
 | .ofNat a,.ofNat b=>Nat.beq a b
 | .negSucc a,.negSucc b=>Nat.beq a b
 | _,_=>false
def rC:Int->Int->Bool
 | .ofNat a,.ofNat b=>Nat.ble a b
 | .ofNat _,.negSucc _=>false
 | .negSucc _,.ofNat _=>true
 | .negSucc a,.negSucc b=>Nat.ble b a
def vC:Int->Int->Bool
 | .ofNat a,.ofNat b=>Nat.blt a b
 | .ofNat _,.negSucc _=>false
 | .negSucc _,.ofNat _=>true
 | .negSucc a,.negSucc b=>Nat.blt b a
def oF:IntKind->Nat
 | .i8=>128 | .i16=>32768 | .i32=>2147483648 | .i64=>9223372036854775808 | .u8=>256 | .u16=>65536 | .u32=>4294967296 | .u64=>18446744073709551616
def kLo:IntKind->Nat
 | .i8=>128 | .i16=>32768 | .i32=>2147483648 | .i64=>9223372036854775808 | _=>0
def wA(k:IntKind):Int->Int
 | .ofNat n=>bif Nat.blt n (oF k)then .ofNat n else k.wrap (.ofNat n)
 | .negSucc n=>bif Nat.blt n (kLo k)then .negSucc n else k.wrap (.negSucc n)
inductive AFn where
 | func (f:Nat)
 | yld (l:Nat)
inductive zA where
 | bool (b:Bool)
 | int (k:IntKind) (n:Int)
 | str (l:List Nat)
 | nilptr
 | ptr (b off:Nat)
 | nilslice
 | slice (b off len cap:Nat)
 | nilmap
 | map (b:Nat)
 | func (fn:AFn) (first captured:List zA)
 | nilfunc
 | iface (t:Nat) (v:zA)
 | niliface
 | agg (l:List zA)
 | tup (l:List zA)
structure Tm where
 k:Nat
 v:Tr zA
 t:List (Nat × zA)
def z4r(i:Nat)(l:List (Nat × zA)):Option zA:=
 List.rec (motive:=fun _=>Option zA) none (fun a _ g=>Bool.rec (motive:=fun _=>Option zA) g (some a.2) (Nat.beq i a.1)) l
def Tm.get(t:Tm)(i:Nat):Option zA:=Bool.rec (motive:=fun _=>Option zA) (z4r i t.t) (t.v.get i) (Nat.blt i t.k)
def Tm.set(t:Tm)(i:Nat)(x:zA):Tm:=Bool.rec (motive:=fun _=>Tm) ⟨t.k,t.v,(i,x)::t.t⟩ ⟨t.k,t.v.set i x,t.t⟩ (Nat.blt i t.k)
def Tm.cut(t:Tm):Tm:=⟨t.k,t.v,[]⟩
structure gH where
 fn:Option AFn
 r:Nat
 args:List zA
structure qL where
 state:LoopState
 pending:Option Code
 fn:Nat
 n:Nat
 tm:Tm
 params:List Nat
 assign:Code
 body:Code
 defers:Nat
inductive Lo where
 | sz (n:Nat)
 | ty (t:Nat)
def Lo.es:Lo->Nat | .sz n=>n | .ty _=>1
def loEq:Lo->Lo->Bool
 | .sz a,.sz b=>Nat.beq a b
 | .ty a,.ty b=>Nat.beq a b
 | _,_=>false
inductive rA where
 | cells (c:Tr zA) (n:Nat) (loose:Option Lo)
 | map (l:List (zA × zA))
 | loop (l:qL)
 | deferred (l:Option (List gH))
 | siter (s:List Nat) (pos:Nat)
structure xA where
 next:Nat
 t:Tr rA
inductive qD where
 | bool | int (k:IntKind) | string
 | ptr (e:Nat) | slice (e:Nat) | arr (n e:Nat) | map (k e:Nat)
 | struct (fs:List (Nat × Nat × Nat))
 | func | iface | other
structure uC where
 desc:qD
 size:Nat
 bytes:Nat
 zero:List zA
 eqOk:Bool
structure wE where
 heavy:Nat
 lights:List Nat
 again:List Nat
structure Plan where
 first:List Nat
 stages:List wE
 olds:List (Nat × List Nat)
structure pA where
 fns:Tr Func
 ks:Tr Nat
 tys:Tr uC
 plans:Tr (Tr Plan)
 prims:Tr (List zA->xA->Option (zA × xA))
 base:Nat
 root:Nat
inductive oD where
 | code (c:Code)
 | inBlock (id:Nat)
 | inLoop (c:Code)
 | inScope (c:Code)
 | ops (all:Array Oper) (rest:List Oper)
 | reg (all:Array Oper) (old:Tm) (olds:List (Nat × List Nat)) (stages:List wE)
 | inRange (l:Nat)
 | endRange (l:Nat)
 | beginRound
structure iS where
 v:zA
 recovered:Bool
inductive zfc where
 | run | returning
 | panicking (chain:List iS)
structure aH where
 fn:Nat
 n:Nat
 defers:List gH
 mode:zfc
 deferred:Bool
 roundOf:Option Nat
structure iB where
 todo:List oD
 tm:Tm
 R:aH
structure rM where
 fr:iB
 cs:List iB
 H:xA
inductive aD where
 | next (s:rM)
 | done (v:zA) (H:xA)
 | fail (why:Nat)
def zA.asBool:zA->Option Bool | .bool b=>some b | _=>none
def zA.asInt:zA->Option Int | .int _ n=>some n | _=>none
def zA.asIntK:zA->Option (IntKind × Int) | .int k n=>some (k,n) | _=>none
def zA.asStr:zA->Option (List Nat) | .str l=>some l | _=>none
def zA.asPtr:zA->Option (Nat × Nat) | .ptr b o=>some (b,o) | _=>none
def zA.asSlice:zA->Option (Nat × Nat × Nat × Nat) | .slice b o l c=>some (b,o,l,c) | _=>none
def zA.asMap:zA->Option Nat | .map b=>some b | _=>none
def zA.asAgg:zA->Option (List zA) | .agg l=>some l | _=>none
def zA.asTup:zA->Option (List zA) | .tup l=>some l | _=>none
def zA.asFunc:zA->Option (AFn × List zA × List zA) | .func f a b=>some (f,a,b) | _=>none
def zA.asIface:zA->Option (Nat × zA) | .iface t v=>some (t,v) | _=>none
def zA.tag:zA->Nat
 | .bool _=>0 | .int _ _=>1 | .str _=>2 | .nilptr=>3 | .ptr _ _=>4 | .nilslice=>5 | .slice _ _ _ _=>6 | .nilmap=>7 | .map _=>8
 | .func _ _ _=>9 | .nilfunc=>10 | .iface _ _=>11 | .niliface=>12 | .agg _=>13 | .tup _=>14
def aI:Int->Option Nat | .ofNat n=>some n | .negSucc _=>none
def zA.asNat(v:zA):Option Nat:=ob v.asInt aI
def zA.cells(v:zA):List zA:=
 match v.asAgg with
 | some l=>l
 | none=>[v]
def zA.one(v:zA):Bool:=Nat.blt v.tag 13
def qD.asInt:qD->Option IntKind | .int k=>some k | _=>none
def qD.asSlice:qD->Option Nat | .slice e=>some e | _=>none
def qD.asArr:qD->Option (Nat × Nat) | .arr n e=>some (n,e) | _=>none
def qD.asMap:qD->Option (Nat × Nat) | .map k e=>some (k,e) | _=>none
def qD.asStruct:qD->Option (List (Nat × Nat × Nat)) | .struct fs=>some fs | _=>none
def qD.tag:qD->Nat
 | .bool=>0 | .int _=>1 | .string=>2 | .ptr _=>3 | .slice _=>4 | .arr _ _=>5 | .map _ _=>6 | .struct _=>7 | .func=>8 | .iface=>9 | .other=>10
def qD.isAgg(d:qD):Bool:=bif Nat.beq d.tag 5 then true else Nat.beq d.tag 7
def qD.isString(d:qD):Bool:=Nat.beq d.tag 2
def rA.asCells:rA->Option (Tr zA × Nat × Option Lo) | .cells c n l=>some (c,n,l) | _=>none
def rA.asMap:rA->Option (List (zA × zA)) | .map l=>some l | _=>none
def rA.asLoop:rA->Option qL | .loop l=>some l | _=>none
def rA.asDeferred:rA->Option (Option (List gH)) | .deferred l=>some l | _=>none
def rA.asIter:rA->Option (List Nat × Nat) | .siter s p=>some (s,p) | _=>none
def iA{α:Type}(b:Bool)(x:Option α):Option α:=Bool.rec (motive:=fun _=>Option α) none x b
def pD:zA:=.tup []
def xE(s:ByteArray):List Nat:=s.data.toList.map UInt8.toNat
def wT:Value->Option zA
 | .bool b=>some (.bool b)
 | .int k n=>some (.int k n)
 | .string s=>some (.str (xE s))
 | .pointer none=>some .nilptr
 | .slice none 0 0=>some .nilslice
 | .map none=>some .nilmap
 | .nilFunc=>some .nilfunc
 | .nilIface=>some .niliface
 | _=>none
def z6s:Value->Option (Array Value)
 | .agg cs=>some cs
 | _=>none
def znk(v:Value):Option zA:=
 match z6s v with
 | some cs=>ob (qF wT cs.toList) fun l=>some (.agg l)
 | none=>wT v
inductive pC where
 | now (tm:Tm)
 | mixed (tm old:Tm) (olds names:List Nat)
def iE(i:Nat)(l:List Nat):Bool:=List.rec (motive:=fun _=>Bool) false (fun j _ g=>bif Nat.beq i j then true else g) l
def z05 (t:Nat)(e:pC):Option zA:=
 match e with
 | .now tm=>tm.get t
 | .mixed tm old olds names=>bif iE t names then Tm.get (bif iE t olds then old else tm) t else none
def xConst(v:Value)(_:pC):Option zA:=znk v
def zmf(g:Nat)(_:pC):Option zA:=bif Nat.blt g 256 then some (.ptr g 0)else none
def xFunc(f:Nat)(_:pC):Option zA:=some (.func (.func f) [] [])
structure EB where f:pC->Option zA
def evB:Operand->EB
 | .tmp t=>⟨z05 t⟩
 | .const v=>⟨xConst v⟩
 | .global g=>⟨zmf g⟩
 | .func f=>⟨xFunc f⟩
def ev (x:Operand)(e:pC):Option zA:=(evB x).f e
def evs (l:List Operand)(e:pC):Option (List zA):=qF (fun x=>ev x e) l
def evo (x:Option Operand)(e:pC):Option (Option zA):=
 match x with
 | none=>some none
 | some x=>ob (ev x e) fun v=>some (some v)
def evp (l:List (Nat × Operand))(e:pC):Option (List (Nat × zA)):=qF (fun x=>ob (ev x.2 e) fun v=>some (x.1,v)) l
def uD(H:xA)(b:Nat):Option (Tr zA × Nat × Option Lo):=ob (H.t.get b) rA.asCells
def oG(H:xA)(b:Nat):Option (List (zA × zA)):=ob (H.t.get b) rA.asMap
def fM(ty:uC)(c:Tr zA)(off:Nat):Option zA:=
 bif ty.desc.isAgg then ob (c.many ty.size off) fun l=>some (.agg l)else c.get off
def aK(C:pA)(t:Nat)(l:List zA)(off:Nat):Option zA:=
 ob (C.tys.get t) fun ty=>bif ty.desc.isAgg then some (.agg (ze7 (gL l off) ty.size))else mC l off
def sN(ty:uC):zA:=
 bif ty.desc.isAgg then .agg ty.zero else match ty.zero with
  | v::_=>v
  | []=>pD
def znv(a:List Nat):List Nat->Bool:=
 List.rec (motive:=fun _=>List Nat->Bool) (fun b => !b.isEmpty)
  (fun x _ g b=>List.rec (motive:=fun _=>Bool) false (fun y b _=>bif Nat.blt x y then true else bif Nat.beq x y then g b else false) b) a
def zgk(a b:zA):Option Bool:=ob a.asBool fun x=>ob b.asBool fun y=>some (bEq x y)
def z9a(a b:zA):Option Bool:=ob a.asIntK fun x=>ob b.asIntK fun y=>iA (kEq x.1 y.1) (some (lA x.2 y.2))
def zin(a b:zA):Option Bool:=ob a.asStr fun x=>ob b.asStr fun y=>some (iF x y)
def zlb(n m:Nat)(a b:zA):Option Bool:=
 bif Nat.beq a.tag n then(bif Nat.beq b.tag n then some true else iA (Nat.beq b.tag m) (some false))
 else iA (Nat.beq a.tag m&&Nat.beq b.tag n) (some false)
def zrf(_ _:zA):Option Bool:=none
def zlc:qD->zA->zA->Option Bool
 | .bool=>zgk
 | .int _=>z9a
 | .string=>zin
 | .ptr _=>zlb 3 4
 | .iface=>zlb 12 11
 | .slice _=>zlb 5 6
 | .map _ _=>zlb 7 8
 | .func=>zlb 10 9
 | .arr _ _=>zrf
 | .struct _=>zrf
 | .other=>zrf
def zt4(C:pA)(eq:Nat->zA->zA->Option Bool)(xs ys:List zA):List (Nat × Nat × Nat)->Option Bool
 | []=>some true
 | f::fs=>ob (aK C f.2.1 xs f.1) fun a=>ob (aK C f.2.1 ys f.1) fun b=>ob (eq f.2.1 a b) fun r=>bif r then zt4 C eq xs ys fs else some false
def aeq (C:pA):Nat->Nat->zA->zA->Option Bool
 | 0,_,_,_=>none
 | d+1,t,x,y=>ob (C.tys.get t) fun ty=>
  match ty.desc.asStruct with
  | some fs=>iA ty.eqOk (ob x.asAgg fun xs=>ob y.asAgg fun ys=>zt4 C (aeq C d) xs ys fs)
  | none=>zlc ty.desc x y
def iAdd (k:IntKind)(a b:Int):Option zA:=some (.int k (wA k (a+b)))
def iSub (k:IntKind)(a b:Int):Option zA:=some (.int k (wA k (a-b)))
def iMul (k:IntKind)(a b:Int):Option zA:=some (.int k (wA k (a*b)))
def z3i (k:IntKind)(a b:Int):Option zA:=bif lA b 0 then none else some (.int k (wA k (a.tdiv b)))
def z3h (k:IntKind)(a b:Int):Option zA:=bif lA b 0 then none else some (.int k (a.tmod b))
def yH(f:Nat->Nat->Nat)(k:IntKind)(a b:Int):Option zA:=ob (aI a) fun x=>ob (aI b) fun y=>iA (Nat.blt x (oF k)&&Nat.blt y (oF k)) (some (.int k (.ofNat (f x y))))
def kW:IntKind->Nat
 | .i8=>256 | .u8=>256 | .i16=>65536 | .u16=>65536 | .i32=>4294967296 | .u32=>4294967296 | .i64=>18446744073709551616 | .u64=>18446744073709551616
def iAnd (k:IntKind)(a b:Int):Option zA:=
 match aI a with
 | some _=>yH Nat.land k a b
 | none=>ob (aI b) fun y=>iA (Nat.blt y (oF k)) (some (.int k (.ofNat (Nat.land (Int.toNat (Int.emod a (.ofNat (kW k)))) y))))
def iEql (_:IntKind)(a b:Int):Option zA:=some (.bool (lA a b))
def iNeq (_:IntKind)(a b:Int):Option zA:=some (.bool (!lA a b))
def iLss (_:IntKind)(a b:Int):Option zA:=some (.bool (vC a b))
def iLeq (_:IntKind)(a b:Int):Option zA:=some (.bool (rC a b))
def iGtr (_:IntKind)(a b:Int):Option zA:=some (.bool (vC b a))
def iGeq (_:IntKind)(a b:Int):Option zA:=some (.bool (rC b a))
def iNone(_:IntKind)(_ _:Int):Option zA:=none
structure IB where f:IntKind->Int->Int->Option zA
def z0l:BinOp->IB
 | .add=>⟨iAdd⟩ | .sub=>⟨iSub⟩ | .mul=>⟨iMul⟩ | .quo=>⟨z3i⟩ | .rem=>⟨z3h⟩
 | .and=>⟨iAnd⟩ | .or=>⟨yH Nat.lor⟩ | .xor=>⟨yH Nat.xor⟩
 | .eql=>⟨iEql⟩ | .neq=>⟨iNeq⟩ | .lss=>⟨iLss⟩ | .leq=>⟨iLeq⟩ | .gtr=>⟨iGtr⟩ | .geq=>⟨iGeq⟩
 | _=>⟨iNone⟩
def uJ (a b:List Nat):Option zA:=iA (Nat.blt (dA a+dA b) 4611686018427387904) (some (.str (eC a b)))
def sEql (a b:List Nat):Option zA:=some (.bool (iF a b))
def sNeq (a b:List Nat):Option zA:=some (.bool (!iF a b))
def sLss (a b:List Nat):Option zA:=some (.bool (znv a b))
def sNone(_ _:List Nat):Option zA:=none
structure SB where f:List Nat->List Nat->Option zA
def z0i:BinOp->SB
 | .add=>⟨uJ⟩ | .eql=>⟨sEql⟩ | .neq=>⟨sNeq⟩ | .lss=>⟨sLss⟩
 | _=>⟨sNone⟩
def lW:Operand->Bool
 | .const _=>true
 | _=>false
def zc0(k:IntKind)(b:Int):Option Nat:=ob (aI b) fun n=>some (min n k.bits)
def zyy (k:IntKind)(a b:Int):Option zA:=ob (zc0 k b) fun n=>some (.int k (wA k (a*.ofNat (2^n))))
def z8v (k:IntKind)(a b:Int):Option zA:=ob (zc0 k b) fun n=>some (.int k (a.fdiv (.ofNat (2^n))))
def dW(f:IntKind->Int->Int->Option zA)(a b:zA):Option zA:=ob a.asIntK fun x=>ob b.asInt fun y=>f x.1 x.2 y
def zre(x y:Operand)(a b:zA):Bool:=
 bif Nat.beq a.tag 12&&Nat.beq b.tag 12 then lW x||lW y else true
def zcd(neg:Bool)(C:pA)(t:Nat)(x y:Operand)(a b:zA):Option zA:=
 iA (zre x y a b) (ob (aeq C 20 t a b) fun r=>some (.bool (bif neg then !r else r)))
def binNo(_:pA)(_:Nat)(_ _:Operand)(_ _:zA):Option zA:=none
structure BB where f:pA->Nat->Operand->Operand->zA->zA->Option zA
def z0j:BinOp->BB
 | .eql=>⟨zcd false⟩
 | .neq=>⟨zcd true⟩
 | _=>⟨binNo⟩
def ziw(op:BinOp)(C:pA)(t:Nat)(x y:Operand)(a b:zA):Option zA:=
 match a.asIntK with
 | some i=>ob b.asIntK fun j=>iA (kEq i.1 j.1) ((z0l op).f i.1 i.2 j.2)
 | none=>match a.asStr with
  | some s=>ob b.asStr fun u=>(z0i op).f s u
  | none=>(z0j op).f C t x y a b
def binShl(_:pA)(_:Nat)(_ _:Operand)(a b:zA):Option zA:=dW zyy a b
def binShr(_:pA)(_:Nat)(_ _:Operand)(a b:zA):Option zA:=dW z8v a b
def binA:BinOp->BB
 | .shl=>⟨binShl⟩
 | .shr=>⟨binShr⟩
 | op=>⟨ziw op⟩
def unNeg(a:zA):Option zA:=ob a.asIntK fun x=>some (.int x.1 (wA x.1 (0-x.2)))
def unNot(a:zA):Option zA:=ob a.asBool fun b=>some (.bool (!b))
def zmo(a:zA):Option zA:=ob a.asIntK fun x=>iA (Nat.beq (kLo x.1) 0) (yH Nat.xor x.1 (.ofNat (oF x.1-1)) x.2)
def unNone(_:zA):Option zA:=none
structure UB where f:zA->Option zA
def unA:UnOp->UB
 | .neg=>⟨unNeg⟩
 | .xor=>⟨zmo⟩
 | .not=>⟨unNot⟩
 | _=>⟨unNone⟩
def aN(v:zA):Option Nat:=ob v.asIntK fun x=>iA (kEq x.1 .u8) (ob (aI x.2) fun n=>iA (Nat.blt n 256) (some n))
def kT(H:xA)(a:zA):Option zA:=
 match a.asSlice with
 | some x=>ob (uD H x.1) fun c=>ob (c.1.many x.2.2.1 x.2.1) fun l=>ob (qF aN l) fun r=>some (.str r)
 | none=>iA (Nat.beq a.tag 5) (some (.str []))
def bL(C:pA)(s d:uC)(a:zA)(H:xA):Option zA:=
 match d.desc.asInt with
 | some k=>ob a.asInt fun n=>some (.int k (wA k n))
 | none=>iA d.desc.isString (bif Nat.beq a.tag 2 then some a else
   ob s.desc.asSlice fun e=>ob (C.tys.get e) fun et=>ob et.desc.asInt fun k=>iA (kEq k .u8) (kT H a))
def dQ(y:Nat)(v:zA):Option Nat:=ob v.asNat fun n=>iA (Nat.ble n y) (some n)
def zek(y dflt:Nat)(v:Option zA):Option Nat:=
 match v with
 | some v=>dQ y v
 | none=>some dflt
def xM(len cap:Nat)(lo hi:Option zA):Option (Nat × Nat):=
 ob (zek cap len hi) fun h=>ob (zek h 0 lo) fun l=>some (l,h)
def pH(H:xA)(b size cap l:Nat)(arr:Bool):Bool:=
 match uD H b with
 | some c=>match c.2.2 with
  | none=>true
  | some es => !arr&&Nat.beq es.es size&&(!Nat.beq cap l||Nat.beq l 0)
 | none=>false
def kI(H:xA)(b size cap l:Nat)(arr:Bool):Bool:=
 match uD H b with
 | some c=>match c.2.2 with
  | none=>false
  | some es => !arr&&Nat.beq es.es size&&Nat.beq cap l && !Nat.beq l 0
 | none=>false
def dK(C:pA)(H:xA)(arr:Bool)(e b off len cap:Nat)(lo hi:Option zA):Option zA:=
 ob (C.tys.get e) fun et=>ob (xM len cap lo hi) fun x=>
  bif Nat.ble x.2 cap&&Nat.ble x.1 x.2&&kI H b et.size cap x.1 arr then some (.slice 0 1 0 0)else
  iA (Nat.ble x.2 cap&&pH H b et.size cap x.1 arr) (some (.slice b (bif Nat.beq cap x.1 then off else off+x.1*et.size) (x.2-x.1) (cap-x.1)))
def zbz(s:List Nat)(lo hi:Option zA):Option zA:=
 let n:=dA s
 ob (xM n n lo hi) fun x=>some (.str (gL (ze7 s x.2) x.1))
def zK(C:pA)(H:xA)(ty:uC)(x:zA)(lo hi:Option zA):Option zA:=
 match x.asStr with
 | some s=>iA ty.desc.isString (zbz s lo hi)
 | none=>match x.asSlice with
  | some r=>ob ty.desc.asSlice fun e=>dK C H false e r.1 r.2.1 r.2.2.1 r.2.2.2 lo hi
  | none=>match x.asPtr with
   | some p=>ob ty.desc.asArr fun a=>dK C H true a.2 p.1 p.2 a.1 a.1 lo hi
   | none=>iA (Nat.beq x.tag 5) (ob ty.desc.asSlice fun e=>ob (C.tys.get e) fun _=>ob (xM 0 0 lo hi) fun _=>some .nilslice)
def wN(cells:List zA)(off size:Nat)(v:zA):Option (List zA):=
 let vc:=v.cells
 let n:=dA vc
 iA (Nat.beq n size&&Nat.ble (off+n) (dA cells)) (some (eC (ze7 cells off) (eC vc (gL cells (off+n)))))
def fJ(place:Nat->Option (Nat × Nat)):List (Nat × zA)->List zA->Option (List zA)
 | [],cells=>some cells
 | p::rest,cells=>ob (place p.1) fun q=>ob (wN cells q.1 q.2 p.2) fun cells=>fJ place rest cells
def zN(d:qD):Bool:=Nat.ble d.tag 2
def keyTag(v:zA):Nat:=v.tag
def zdt(d:qD)(v:zA):Bool:=Nat.beq d.tag (keyTag v)
def fQ(C:pA):List (Nat × Nat × Nat)->Nat->Bool
 | [],_=>true
 | f::fs,i=>bif Nat.beq f.1 i then(match C.tys.get f.2.1 with
  | some ty=>bif zN ty.desc then fQ C fs (i+1)else false
  | none=>false)else false
def iN(C:pA)(ty:uC):Bool:=bif zN ty.desc then true else match ty.desc.asStruct with
 | some fs=>bif ty.eqOk then fQ C fs 0 else false
 | none=>false
def zii(C:pA):List (Nat × Nat × Nat)->List zA->Bool
 | [],[]=>true
 | f::fs,v::l=>(match C.tys.get f.2.1 with
  | some ty=>bif zdt ty.desc v then zii C fs l else false
  | none=>false)
 | _,_=>false
def fL(C:pA)(ty:uC)(v:zA):Bool:=bif zN ty.desc then zdt ty.desc v else match ty.desc.asStruct with
 | some fs=>(match v.asAgg with
  | some l=>zii C fs l
  | none=>false)
 | none=>false
def iK(a b:zA):Option Bool:=
 match a.asIntK with
 | some x=>ob b.asIntK fun y=>iA (kEq x.1 y.1) (some (lA x.2 y.2))
 | none=>match a.asStr with
  | some x=>ob b.asStr fun y=>some (iF x y)
  | none=>zgk a b
def cM:List zA->List zA->Option Bool
 | [],[]=>some true
 | a::x,b::y=>ob (iK a b) fun r=>ob (cM x y) fun s=>some (r&&s)
 | _,_=>none
def rG(a b:zA):Option Bool:=
 match a.asAgg with
 | some x=>ob b.asAgg fun y=>cM x y
 | none=>iK a b
def nH(k:zA):List (zA × zA)->Option (Option zA)
 | []=>some none
 | e::l=>ob (rG k e.1) fun r=>bif r then some (some e.2)else nH k l
def kG(k v:zA):List (zA × zA)->Option (List (zA × zA))
 | []=>some [(k,v)]
 | e::l=>ob (rG k e.1) fun r=>bif r then some ((k,v)::l)else ob (kG k v l) fun l=>some (e::l)
abbrev LOp:=pA->pC->xA->Option zA
def zh6:LOp:=fun _ _ _=>none
def sO(x:Operand):LOp:=fun _ e _=>ev x e
def zx2(c a b:Operand):LOp:=fun _ e _=>ob (ev c e) fun c=>ob c.asBool fun c=>bif c then ev a e else ev b e
def qO(t:Nat)(a:Operand):LOp:=fun C e H=>ob (ev a e) fun v=>ob v.asPtr fun p=>ob (C.tys.get t) fun ty=>ob (uD H p.1) fun c=>fM ty c.1 p.2
def z28 (x:Operand):LOp:=fun _ e _=>ob (ev x e) fun v=>iA (Nat.beq v.tag 4||Nat.beq v.tag 9) (some v)
def zye (op:BinOp)(t:Nat)(x y:Operand):LOp:=fun C e _=>ob (ev x e) fun a=>ob (ev y e) fun b=>(binA op).f C t x y a b
def lUn (op:UnOp)(x:Operand):LOp:=fun _ e _=>ob (ev x e) fun a=>(unA op).f a
def jK(s d:Nat)(x:Operand):LOp:=fun C e H=>ob (ev x e) fun a=>ob (C.tys.get s) fun s=>ob (C.tys.get d) fun d=>bL C s d a H
def iR(t:Nat)(x:Operand):LOp:=fun C e _=>ob (C.tys.get t) fun ty=>iA (Nat.blt ty.desc.tag 9) (ob (ev x e) fun v=>some (.iface t v))
def zyb(f:Nat)(a b:Array Operand):LOp:=fun _ e _=>ob (evs a.toList e) fun a=>ob (evs b.toList e) fun b=>some (.func (.func f) a b)
structure LB where f:LOp
def fR(fn:Fn)(a b:Array Operand):LB:=
 match fn with
 | .func f=>⟨zyb f a b⟩
 | _=>⟨zh6⟩
def jQ(t:Nat)(x:Operand)(lo hi:Option Operand):LOp:=fun C e H=>
 ob (ev x e) fun a=>ob (evo lo e) fun l=>ob (evo hi e) fun h=>ob (C.tys.get t) fun ty=>zK C H ty a l h
def oW(t:Nat)(x:Operand)(lo hi mx:Option Operand):LB:=
 match mx with
 | none=>⟨jQ t x lo hi⟩
 | some _=>⟨zh6⟩
def nO(s:Nat)(x:Operand)(f:Nat):LOp:=fun C e _=>
 ob (C.tys.get s) fun ty=>ob ty.desc.asStruct fun fs=>ob (mC fs f) fun fd=>iA (!Nat.beq fd.2.2 0) (ob (ev x e) fun v=>ob v.asPtr fun p=>some (.ptr p.1 (p.2+fd.1)))
def eR(t:Nat)(x:Operand)(f:Nat):LOp:=fun C e _=>
 ob (C.tys.get t) fun ty=>ob ty.desc.asStruct fun fs=>ob (mC fs f) fun fd=>ob (ev x e) fun v=>ob v.asAgg fun l=>aK C fd.2.1 l fd.1
def pO(t:Nat)(x i:Operand):LOp:=fun C e _=>
 ob (C.tys.get t) fun ty=>ob (ev x e) fun v=>ob (ev i e) fun i=>ob i.asNat fun i=>
  match v.asSlice with
  | some s=>ob ty.desc.asSlice fun el=>ob (C.tys.get el) fun et=>iA (Nat.blt i s.2.2.1) (some (.ptr s.1 (s.2.1+i*et.size)))
  | none=>ob v.asPtr fun p=>ob ty.desc.asArr fun a=>ob (C.tys.get a.2) fun et=>iA (Nat.blt i a.1) (some (.ptr p.1 (p.2+i*et.size)))
def oO(t:Nat)(x i:Operand):LOp:=fun C e _=>
 ob (C.tys.get t) fun ty=>ob (ev x e) fun v=>ob (ev i e) fun i=>ob i.asNat fun i=>
  match v.asStr with
  | some s=>iA ty.desc.isString (ob (mC s i) fun b=>some (.int .u8 (.ofNat b)))
  | none=>ob v.asAgg fun l=>ob ty.desc.asArr fun a=>ob (C.tys.get a.2) fun et=>iA (Nat.blt i a.1) (aK C a.2 l (i*et.size))
def mO(t:Operand)(i:Nat):LOp:=fun _ e _=>ob (ev t e) fun v=>ob v.asTup fun l=>mC l i
def lP(t:Nat)(parts:Array (Nat × Operand)):LOp:=fun C e _=>
 ob (C.tys.get t) fun ty=>ob (evp parts.toList e) fun ps=>
  match ty.desc.asStruct with
  | some fs=>ob (fJ (fun i=>ob (mC fs i) fun x=>some (x.1,x.2.2)) ps ty.zero) fun l=>some (.agg l)
  | none=>ob ty.desc.asArr fun a=>ob (C.tys.get a.2) fun et=>ob (fJ (fun i=>some (i*et.size,et.size)) ps ty.zero) fun l=>some (.agg l)
def lO(x:Operand)(asserted:Nat)(ok:Bool):LOp:=fun C e _=>
 ob (C.tys.get asserted) fun ty=>iA (Nat.blt ty.desc.tag 9) (ob (ev x e) fun v=>
  match v.asIface with
  | some p=>bif Nat.beq p.1 asserted then some (bif ok then .tup [p.2,.bool true]else p.2)else iA ok (some (.tup [sN ty,.bool false]))
  | none=>iA (Nat.beq v.tag 12&&ok) (some (.tup [sN ty,.bool false])))
def jM(H:xA)(v:zA):Option (List (zA × zA)):=
 match v.asMap with
 | some b=>oG H b
 | none=>iA (Nat.beq v.tag 7) (some [])
def rO(t:Nat)(x i:Operand)(ok:Bool):LOp:=fun C e H=>
 ob (C.tys.get t) fun ty=>ob ty.desc.asMap fun ke=>ob (C.tys.get ke.1) fun kty=>iA (iN C kty) (ob (C.tys.get ke.2) fun ety=>
  ob (ev x e) fun m=>ob (jM H m) fun es=>ob (ev i e) fun k=>iA (fL C kty k) (ob (nH k es) fun r=>
   match r with
   | some v=>some (bif ok then .tup [v,.bool true]else v)
   | none=>some (bif ok then .tup [sN ety,.bool false]else sN ety)))
def zue (H:xA)(ty:uC)(v:zA):Option Nat:=
 match v.asStr with
 | some s=>iA ty.desc.isString (some (dA s))
 | none=>match v.asSlice with
  | some s=>iA (Nat.beq ty.desc.tag 4) (some s.2.2.1)
  | none=>match ty.desc.asArr with
   | some a=>some a.1
   | none=>match v.asMap with
    | some b=>iA (Nat.beq ty.desc.tag 6) (ob (oG H b) fun l=>some (dA l))
    | none=>iA ((Nat.beq ty.desc.tag 4&&Nat.beq v.tag 5)||(Nat.beq ty.desc.tag 6&&Nat.beq v.tag 7)) (some 0)
def zny (c:Call):LOp:=fun C e H=>
 ob (mC c.argTypes.toList 0) fun t=>ob (mC c.args.toList 0) fun x=>ob (C.tys.get t) fun ty=>ob (ev x e) fun v=>ob (zue H ty v) fun n=>some (.int .i64 (.ofNat n))
def two (c:Call)(e:pC):Option (zA × zA):=
 match c.args.toList with
 | [x,y]=>ob (ev x e) fun a=>ob (ev y e) fun b=>some (a,b)
 | _=>none
def zx7 (c:Call):LOp:=fun _ e _=>ob (two c e) fun p=>ob p.1.asIntK fun x=>ob p.2.asIntK fun y=>some (.int x.1 (bif vC x.2 y.2 then y.2 else x.2))
def zx5 (c:Call):LOp:=fun _ e _=>ob (two c e) fun p=>ob p.1.asIntK fun x=>ob p.2.asIntK fun y=>some (.int x.1 (bif vC y.2 x.2 then y.2 else x.2))
def zb5(c:Call):Builtin->LB
 | .len=>⟨zny c⟩
 | .max=>⟨zx7 c⟩
 | .min=>⟨zx5 c⟩
 | _=>⟨zh6⟩
def dM(c:Call):Callee->LB
 | .builtin b=>zb5 c b
 | _=>⟨zh6⟩
def z8i(c:Call):LB:=dM c c.callee
def qE:Op->LB
 | .move x=>⟨sO x⟩
 | .assign x=>⟨sO x⟩
 | .pick c a b=>⟨zx2 c a b⟩
 | .load t a=>⟨qO t a⟩
 | .nilCheck x=>⟨z28 x⟩
 | .binOp op t x y _=>⟨zye op t x y⟩
 | .unOp op _ x=>⟨lUn op x⟩
 | .convert s d x=>⟨jK s d x⟩
 | .makeInterface t x=>⟨iR t x⟩
 | .makeFunc fn a b=>fR fn a b
 | .slice t x lo hi mx=>oW t x lo hi mx
 | .fieldAddr s x f=>⟨nO s x f⟩
 | .field t x f=>⟨eR t x f⟩
 | .indexAddr t x i=>⟨pO t x i⟩
 | .index t x i=>⟨oO t x i⟩
 | .extract t i=>⟨mO t i⟩
 | .build t ps=>⟨lP t ps⟩
 | .typeAssert x _ u ok=>⟨lO x u ok⟩
 | .lookup t x i ok=>⟨rO t x i ok⟩
 | .call c=>z8i c
 | _=>⟨zh6⟩
inductive nI where
 | val (v:zA) (H:xA)
 | enter (f:Nat) (args:List zA)
 | round (l:Nat) (args:List zA)
 | defer (d:gH)
 | panic (v:zA)
 | recover
 | fail
abbrev HOp:=pA->pC->xA->nI
structure HB where f:HOp
def tJ (x:Option (zA × xA)):nI:=
 match x with
 | some p=>.val p.1 p.2
 | none=>.fail
def z5o (x:Option nI):nI:=
 match x with
 | some r=>r
 | none=>.fail
def lv (f:LOp):HOp:=fun C e H=>
 match f C e H with
 | some v=>.val v H
 | none=>.fail
def newBlk(H:xA)(b:rA):xA:=⟨H.next+1,H.t.set H.next b⟩
def dD(H:xA)(l:List zA)(loose:Option Lo):xA:=newBlk H (.cells (Tr.ofList l) (dA l) loose)
def setBlk(H:xA)(b:Nat)(x:rA):xA:=⟨H.next,H.t.set b x⟩
def gI (zero:List zA):Nat->List zA
 | 0=>[]
 | n+1=>eC zero (gI zero n)
def jR(v:zA):Option Nat:=
 match v.asSlice with
 | some s=>some s.2.2.1
 | none=>match v.asStr with
  | some s=>some (dA s)
  | none=>iA (Nat.beq v.tag 5) (some 0)
def eO(l:List Nat):List zA:=l.map fun n=>zA.int .u8 (Int.ofNat n)
def cN(H:xA)(size n:Nat)(v:zA):Option (List zA):=
 match v.asSlice with
 | some s=>ob (uD H s.1) fun c=>c.1.many (n*size) s.2.1
 | none=>match v.asStr with
  | some s=>some (eO (ze7 s n))
  | none=>iA (Nat.beq v.tag 5) (some [])
def uI(C:pA)(H:xA)(b off:Nat)(l:List zA):Option xA:=
 iA (!Nat.blt b C.base) (ob (uD H b) fun c=>
  iA (Nat.ble (off+dA l) c.2.1&&tC zA.one l) (some (setBlk H b (.cells (c.1.setMany l off) c.2.1 c.2.2))))
def jO(et:uC)(len cap n:Nat)(new:List zA):Bool:=
 Nat.blt (len+n+cap) 1000000000&&Nat.blt ((len+n+cap)*et.bytes) 1000000000&&Nat.blt et.bytes 1000000000 && !Nat.beq et.size 0&&Nat.beq (dA new) (n*et.size)&&Nat.beq (dA et.zero) et.size
def zyu(et:uC):Bool:=match et.desc with | .int .u8=>true | _=>false
def bH(e:Nat)(et:uC):Lo:=bif Nat.beq et.size 1&&zyu et then .ty e else .sz et.size
def eL(H:xA)(e:Nat)(et:uC)(n:Nat)(new:List zA):Option (zA × xA):=
 bif Nat.beq n 0 then some (.nilslice,H)else
  iA (jO et 0 0 n new) (some (.slice H.next 0 n n,dD H new (some (bH e et))))
def xS(C:pA)(H:xA)(et:uC)(n:Nat)(new:List zA)(s:Nat × Nat × Nat × Nat):Option (zA × xA):=
 match new with
 | []=>some (.slice s.1 s.2.1 (s.2.2.1+n) s.2.2.2,H)
 | _::_=>ob (uI C H s.1 (s.2.1+s.2.2.1*et.size) new) fun H'=>some (.slice s.1 s.2.1 (s.2.2.1+n) s.2.2.2,H')
def zV(H:xA)(e:Nat)(et:uC)(n:Nat)(new:List zA)(s:Nat × Nat × Nat × Nat)(c:Tr zA):Option (zA × xA):=
 ob (c.many (s.2.2.1*et.size) s.2.1) fun old=>some (.slice H.next 0 (s.2.2.1+n) (s.2.2.1+n),dD H (eC old new) (some (bH e et)))
def yV(C:pA)(H:xA)(e:Nat)(et:uC)(n:Nat)(new:List zA)(s:Nat × Nat × Nat × Nat)(c:Tr zA)(m:Nat)(lo:Lo):Option (zA × xA):=
 iA (Nat.beq s.2.1 0&&loEq lo (bH e et)&&Nat.ble (s.2.2.1*et.size) m&&Nat.ble m ((s.2.2.1+n)*et.size)&&tC zA.one new && !Nat.blt s.1 C.base)
  (some (.slice H.next 0 (s.2.2.1+n) (s.2.2.1+n),⟨H.next+1,(H.t.del s.1).set H.next (.cells (c.setMany new (s.2.2.1*et.size)) ((s.2.2.1+n)*et.size) (some lo))⟩))
def gQ(C:pA)(H:xA)(e:Nat)(et:uC)(n:Nat)(new:List zA)(s:Nat × Nat × Nat × Nat):Option (zA × xA):=
 iA (!(Nat.beq s.2.1 1&&Nat.beq s.2.2.2 0)) (iA (jO et s.2.2.1 s.2.2.2 n new) (ob (uD H s.1) fun c=>
  match c.2.2 with
  | none=>zV H e et n new s c.1
  | some lo=>yV C H e et n new s c.1 c.2.1 lo))
def aP(C:pA)(H:xA)(ty:uC)(s x:zA):Option (zA × xA):=
 ob ty.desc.asSlice fun e=>ob (C.tys.get e) fun et=>ob (jR x) fun n=>ob (cN H et.size n x) fun new=>
  match s.asSlice with
  | some s=>bif Nat.ble (s.2.2.1+n) s.2.2.2 then xS C H et n new s else gQ C H e et n new s
  | none=>iA (Nat.beq s.tag 5) (eL H e et n new)
def isBld(C:pA)(t:Nat):Bool:=
 match ob (C.tys.get t) fun ty=>ob ty.desc.asStruct fun fs=>ob (mC fs 0) fun f=>ob (C.tys.get f.2.1) fun tf=>some tf.desc with
 | some (.ptr e)=>Nat.beq e t
 | _=>false
def mI(C:pA)(t:Nat):Option Lo:=
 bif isBld C t then some (.ty t)else
 match ob (C.tys.get t) fun ty=>ob ty.desc.asStruct fun fs=>ob (mC fs 0) fun f=>some (isBld C f.2.1)with
 | some true=>some (.ty t)
 | _=>none
def zS(t:Nat):HOp:=fun C _ H=>tJ (ob (C.tys.get t) fun ty=>some (.ptr H.next 0,dD H ty.zero (mI C t)))
def z3o (t:Nat)(x:Operand):HOp:=fun C e H=>tJ (ob (ev x e) fun v=>some (.ptr H.next 0,dD H v.cells (mI C t)))
def z2u (C:pA):Op->Option Lo
 | .alloc t=>mI C t
 | .box t _=>mI C t
 | _=>none
def aR(t len:Nat)(parts:Array (Nat × Operand)):HOp:=fun C e H=>tJ (ob (C.tys.get t) fun ty=>ob ty.desc.asSlice fun el=>ob (C.tys.get el) fun et=>
 iA (Nat.blt (len*et.size) 1000000&&Nat.beq (dA et.zero) et.size) (ob (evp parts.toList e) fun ps=>ob (fJ (fun i=>some (i*et.size,et.size)) ps (gI et.zero len)) fun l=>some (.slice H.next 0 len len,dD H l none)))
def zk1(t:Nat)(a x:Operand):HOp:=fun C e H=>tJ (ob (C.tys.get t) fun ty=>ob (ev a e) fun a=>ob a.asPtr fun p=>ob (ev x e) fun v=>
 let l:=v.cells
 iA (Nat.beq (dA l) ty.size) (ob (uI C H p.1 p.2 l) fun H'=>some (pD,H')))
def jW(r:Option Operand):HOp:=fun _ _ H=>
 match r with
 | none=>.val (.map H.next) (newBlk H (.map []))
 | some _=>.fail
def bR(t:Nat)(m k x:Operand):HOp:=fun C e H=>tJ (ob (C.tys.get t) fun ty=>ob ty.desc.asMap fun ke=>ob (C.tys.get ke.1) fun kty=>iA (iN C kty)
 (ob (ev m e) fun m=>ob m.asMap fun b=>iA (!Nat.blt b C.base) (ob (oG H b) fun l=>ob (ev k e) fun k=>iA (fL C kty k) (ob (ev x e) fun v=>ob (kG k v l) fun l'=>some (pD,setBlk H b (.map l'))))))
def za3(t:Nat)(l c:Operand):HOp:=fun C e H=>tJ (ob (C.tys.get t) fun ty=>ob ty.desc.asSlice fun el=>ob (C.tys.get el) fun et=>
 ob (ev l e) fun l=>ob l.asNat fun l=>ob (ev c e) fun c=>ob c.asNat fun c=>
  iA (Nat.ble l c&&Nat.blt c 1000000&&Nat.blt (c*et.bytes) 1000000000&&Nat.beq (dA et.zero) et.size) (some (.slice H.next 0 l c,dD H (gI et.zero c) none)))
def gP(s d:Nat)(x:Operand):HOp:=fun C e H=>
 match jK s d x C e H with
 | some v=>.val v H
 | none=>tJ (ob (C.tys.get s) fun _=>ob (C.tys.get d) fun ty=>ob ty.desc.asSlice fun el=>ob (C.tys.get el) fun et=>ob et.desc.asInt fun k=>iA (kEq k .u8) (ob (ev x e) fun v=>ob v.asStr fun l=>
   some (.slice H.next 0 (dA l) (dA l),dD H (eO l) (some (.ty el)))))
def zy4(x:Operand):HOp:=fun _ e _=>z5o (ob (ev x e) fun v=>ob v.asIface fun p=>some (.panic (.iface p.1 p.2)))
def xO(f:Operand)(args:Array Operand)(e:pC):Option (AFn × List zA × List zA):=
 ob (ev f e) fun v=>ob v.asFunc fun p=>ob (evs args.toList e) fun as=>some (p.1,eC p.2.1 as,p.2.2)
def zb7(c:Call):Callee->HB
 | .value f=>⟨fun _ e _=>z5o (ob (xO f c.args e) fun p=>some (.defer ⟨some p.1,0,eC p.2.1 p.2.2⟩))⟩
 | _=>⟨fun _ _ _=>.fail⟩
def hDefer(c:Call):HB:=zb7 c c.callee
def xK(g:List zA->xA->Option zA):List zA->xA->Option (zA × xA):=fun args H=>ob (g args H) fun v=>some (v,H)
def zgs(_:pA)(H:xA)(args:List zA)(f:Nat):Option (List zA->xA->Option (zA × xA))->nI
 | some g=>match g args H with
  | some p=>.val p.1 p.2
  | none=>.fail
 | none=>.enter f args
def zln(l:Nat)(args:List zA):List zA->nI
 | []=>.round l args
 | _::_=>.fail
def z9n(C:pA)(H:xA)(args cap:List zA):AFn->nI
 | .func f=>zgs C H (eC args cap) f (C.prims.get f)
 | .yld l=>zln l args cap
def zd2(f:Operand)(args:Array Operand):HOp:=fun C e H=>z5o (ob (xO f args e) fun p=>some (z9n C H p.2.1 p.2.2 p.1))
def aU(c:Call):HOp:=fun C e H=>tJ (ob (mC c.argTypes.toList 0) fun t=>ob (C.tys.get t) fun ty=>ob (mC c.argTypes.toList 1) fun u=>ob (C.tys.get u) fun uty=>
 iA (!Nat.beq uty.desc.tag 1) (ob (two c e) fun p=>aP C H ty p.1 p.2))
def z8y:HOp:=fun _ _ _=>.fail
def z3m:HOp:=fun _ _ _=>.recover
def z3n(c:Call):Builtin->HB
 | .append=>⟨aU c⟩
 | .len=>⟨lv (zny c)⟩
 | .max=>⟨lv (zx7 c)⟩
 | .min=>⟨lv (zx5 c)⟩
 | .recover=>⟨z3m⟩
 | _=>⟨z8y⟩
def bU(c:Call):Callee->HB
 | .value f=>⟨zd2 f c.args⟩
 | .builtin b=>z3n c b
 | _=>⟨z8y⟩
def hCall(c:Call):HB:=bU c c.callee
def lvB (b:LB):HB:=⟨lv b.f⟩
def cE:Op->HB
 | .move x=>⟨lv (sO x)⟩
 | .assign x=>⟨lv (sO x)⟩
 | .pick c a b=>⟨lv (zx2 c a b)⟩
 | .load t a=>⟨lv (qO t a)⟩
 | .nilCheck x=>⟨lv (z28 x)⟩
 | .binOp op t x y _=>⟨lv (zye op t x y)⟩
 | .unOp op _ x=>⟨lv (lUn op x)⟩
 | .makeInterface t x=>⟨lv (iR t x)⟩
 | .makeFunc fn a b=>lvB (fR fn a b)
 | .slice t x lo hi mx=>lvB (oW t x lo hi mx)
 | .fieldAddr s x f=>⟨lv (nO s x f)⟩
 | .field t x f=>⟨lv (eR t x f)⟩
 | .indexAddr t x i=>⟨lv (pO t x i)⟩
 | .index t x i=>⟨lv (oO t x i)⟩
 | .extract t i=>⟨lv (mO t i)⟩
 | .build t ps=>⟨lv (lP t ps)⟩
 | .typeAssert x _ u ok=>⟨lv (lO x u ok)⟩
 | .lookup t x i ok=>⟨lv (rO t x i ok)⟩
 | .convert s d x=>⟨gP s d x⟩
 | .alloc t=>⟨zS t⟩
 | .box t x=>⟨z3o t x⟩
 | .buildSlice t len ps=>⟨aR t len ps⟩
 | .store t a x=>⟨zk1 t a x⟩
 | .makeMap _ r=>⟨jW r⟩
 | .insert t m k x=>⟨bR t m k x⟩
 | .mapUpdate t m k x=>⟨bR t m k x⟩
 | .makeSlice t l c=>⟨za3 t l c⟩
 | .panic x=>⟨zy4 x⟩
 | .defer c=>hDefer c
 | .call c=>hCall c
 | _=>⟨z8y⟩
structure GB where f:Tm->Option Bool
def z65(_:Tm):Option Bool:=some true
def zi5(d:Option Nat)(w:Bool)(tm:Tm):Option Bool:=
 ob d fun d=>ob (tm.get d) fun v=>match v.asBool with
  | some b=>some (bEq b w)
  | none=>some false
def zuo(g:Option (Nat × Bool))(all:Array Oper):GB:=
 match g with
 | none=>⟨z65⟩
 | some jw=>⟨zi5 (ob (mC all.toList jw.1) fun o=>o.dst) jw.2⟩
def nE(g:Option (Nat × Bool))(all:Array Oper)(tm:Tm):Option Bool:=(zuo g all).f tm
structure PB where f:Nat->Tm->zA->Tm
def z2d(d n:Nat)(tm:Tm)(v:zA):Tm:=bif Nat.blt d n then tm.set d v else tm
def putNo(_:Nat)(tm:Tm)(_:zA):Tm:=tm
def putB (dst:Option Nat):PB:=
 match dst with
 | some d=>⟨z2d d⟩
 | none=>⟨putNo⟩
def putA (n:Nat)(tm:Tm)(dst:Option Nat)(v:zA):Tm:=(putB dst).f n tm v
def zfc.running:zfc->Bool | .run=>true | _=>false
def oD.blockId:oD->Option Nat | .inBlock id=>some id | _=>none
def vK(id:Nat):List oD->Option (List oD)
 | []=>none
 | x::k=>match x.blockId with
  | some i=>bif Nat.beq i id then some k else vK id k
  | none=>vK id k
def z6o(all:Array Oper)(rest:List Oper)(k:List oD)(tm:Tm)(R:aH)(v:zA):Option iB:=
 match rest with
 | o::rest=>some ⟨.ops all rest::k,putA R.n tm o.dst v,R⟩
 | []=>none
def zzf(all:Array Oper)(old:Tm)(olds:List (Nat × List Nat))(stages:List wE)(k:List oD)(tm:Tm)(R:aH)(v:zA):Option iB:=
 match stages with
 | st::stages=>ob (mC all.toList st.heavy) fun o=>some ⟨.reg all old olds (⟨all.size,st.lights,st.again⟩::stages)::k,putA R.n tm o.dst v,R⟩
 | []=>none
def z3y(l:Nat)(k:List oD)(tm:Tm)(R:aH)(_:zA):Option iB:=some ⟨.endRange l::k,tm,R⟩
def z3z(k:List oD)(tm:Tm)(R:aH)(_:zA):Option iB:=some ⟨k,tm,R⟩
def z85(_:List oD)(_:Tm)(_:aH)(_:zA):Option iB:=none
def zik:oD->List oD->Tm->aH->zA->Option iB
 | .ops all rest=>z6o all rest
 | .reg all old olds stages=>zzf all old olds stages
 | .inRange l=>z3y l
 | .beginRound=>z3z
 | _=>z85
def qG(fr:iB)(v:zA):Option iB:=
 match fr.todo with
 | []=>none
 | x::k=>bif fr.R.mode.running then zik x k fr.tm fr.R v else none
def qJ(C:pA)(f:Nat)(args:List zA)(deferred:Bool):Option iB:=
 ob (C.fns.get f) fun fn=>ob fn.body fun c=>ob (C.ks.get f) fun k=>iA (Nat.ble (dA args) k&&Nat.ble (dA args) fn.ntmps) (some ⟨[.code c],⟨k,Tr.ofList args,[]⟩,⟨f,fn.ntmps,[],.run,deferred,none⟩⟩)
def pQ(n:Nat):List Nat->List zA->Tm->Option (Tm)
 | [],[],tm=>some tm
 | p::ps,a::as,tm=>pQ n ps as (putA n tm (some p) a)
 | _,_,_=>none
def zvb:List Operand->List Nat
 | []=>[]
 | .tmp t::l=>t::zvb l
 | _::l=>zvb l
def eF(o:Op):List Nat:=zvb o.operands.toList
def lD(i:Nat):List (Nat × List Nat)->List Nat
 | []=>[]
 | x::r=>bif Nat.beq i x.1 then x.2 else lD i r
def same:Nat->zA->zA->Bool
 | _,.bool a,.bool b=>bEq a b
 | _,.int j a,.int k b=>kEq j k&&lA a b
 | _,.str a,.str b=>iF a b
 | _,.nilptr,.nilptr=>true
 | _,.ptr a b,.ptr c d=>Nat.beq a c&&Nat.beq b d
 | _,.nilslice,.nilslice=>true
 | _,.slice a b c d,.slice e f g h=>Nat.beq a e&&Nat.beq b f&&Nat.beq c g&&Nat.beq d h
 | _,.nilmap,.nilmap=>true
 | _,.map a,.map b=>Nat.beq a b
 | _,.nilfunc,.nilfunc=>true
 | _,.niliface,.niliface=>true
 | d+1,.agg a,.agg b=>sames d a b
 | d+1,.tup a,.tup b=>sames d a b
 | _,_,_=>false
where
 sames (d:Nat):List zA->List zA->Bool
  | [],[]=>true
  | a::x,b::y=>same d a b&&sames d x y
  | _,_=>false
def iL(C:pA)(H:xA)(all:Array Oper)(n:Nat)(old:Tm)(olds:List (Nat × List Nat)):List Nat->Tm->Option (Tm)
 | [],tm=>some tm
 | i::l,tm=>ob (mC all.toList i) fun o=>ob (nE o.guard all tm) fun w=>ob (bif w then(qE o.op).f C (.mixed tm old (lD i olds) (eF o.op)) H else some pD) fun v=>
   iL C H all n old olds l (putA n tm o.dst v)
def oS(C:pA)(H:xA)(all:Array Oper)(old:Tm)(olds:List (Nat × List Nat))(tm:Tm):List Nat->Bool
 | []=>true
 | i::l=>match (ob (mC all.toList i) fun o=>ob o.dst fun d=>ob (nE o.guard all tm) fun w=>bif w then(ob ((qE o.op).f C (.mixed tm old (lD i olds) (eF o.op)) H) fun v=>ob (tm.get d) fun u=>some (same 10 v u))else some true)with
  | some true=>oS C H all old olds tm l
  | _=>false
def zfc.chain:zfc->Option (List iS) | .panicking c=>some c | _=>none
def zgm:List Oper->Tr zA->Tr zA
 | [],t=>t
 | o::l,t=>match o.dst with
  | some j=>zgm l (t.del j)
  | none=>zgm l t
def zkn(todo:List oD)(tm:Tm):Tm:=
 match todo with
 | .reg all _ _ _::_=>⟨tm.k,zgm all.toList tm.v,[]⟩
 | _=>tm
def zp2(fr:iB)(l:List iS):iB:=
 ⟨[],zkn fr.todo fr.tm,⟨fr.R.fn,fr.R.n,fr.R.defers,.panicking (match fr.R.mode.chain with | some c=>eC l c | none=>l),fr.R.deferred,fr.R.roundOf⟩⟩
def eI(x:Option rM)(why:Nat):aD:=
 match x with
 | some s=>.next s
 | none=>.fail why
def yI(H:xA)(l:Nat):Option qL:=iA (Nat.ble (nat_lit 256) l) (ob (H.t.get l) rA.asLoop)
def dP(H:xA)(l:Nat):Option (Option (List gH)):=iA (Nat.ble (nat_lit 256) l) (ob (H.t.get l) rA.asDeferred)
def z7s (v:zA)(H':xA)(_:pA)(fr:iB)(cs:List iB)(_:xA):aD:=eI (ob (qG fr v) fun fr=>some ⟨fr,cs,H'⟩) 1
def zj2(f:Nat)(args:List zA)(C:pA)(fr:iB)(cs:List iB)(H:xA):aD:=eI (ob (qJ C f args false) fun g=>some ⟨g,fr::cs,H⟩) 2
def zj1(l:Nat)(args:List zA)(_:pA)(fr:iB)(cs:List iB)(H:xA):aD:=
 eI (ob (yI H l) fun r=>ob (pQ r.n r.params args r.tm) fun tm=>some ⟨⟨[.code r.assign,.beginRound,.code r.body],tm,⟨r.fn,r.n,[],.run,false,some l⟩⟩,fr::cs,H⟩) 3
def zwv(d:gH)(_:pA)(fr:iB)(cs:List iB)(H:xA):aD:=
 eI (match fr.R.roundOf with
  | none=>ob (qG fr pD) fun g=>some ⟨⟨g.todo,g.tm,⟨g.R.fn,g.R.n,d::g.R.defers,g.R.mode,g.R.deferred,g.R.roundOf⟩⟩,cs,H⟩
  | some _=>none) 4
def z5r(v:zA)(_:pA)(fr:iB)(cs:List iB)(H:xA):aD:=.next ⟨zp2 fr [⟨v,false⟩],cs,H⟩
def zhp(_:pA)(fr:iB)(cs:List iB)(H:xA):aD:=
 eI (match fr.R.roundOf,fr.R.deferred,cs with
  | none,true,c::rest=>match c.R.mode with
   | .panicking (⟨v,false⟩::older)=>ob (qG fr v) fun fr=>some ⟨fr,⟨c.todo,c.tm,⟨c.R.fn,c.R.n,c.R.defers,.panicking (⟨v,true⟩::older),c.R.deferred,c.R.roundOf⟩⟩::rest,H⟩
   | .panicking _=>none
   | _=>ob (qG fr .niliface) fun fr=>some ⟨fr,cs,H⟩
  | _,_,_=>none) 5
def rFail(_:pA)(_:iB)(_:List iB)(_:xA):aD:=.fail 6
def za9:nI->pA->iB->List iB->xA->aD
 | .val v H'=>z7s v H'
 | .enter f args=>zj2 f args
 | .round l args=>zj1 l args
 | .defer d=>zwv d
 | .panic v=>z5r v
 | .recover=>zhp
 | .fail=>rFail
def oR(C:pA)(H:xA)(tm:Tm):ResultVar->Option zA
 | .tmp t=>tm.get t
 | .cell a t=>ob (ob (tm.get a) zA.asPtr) fun p=>ob (C.tys.get t) fun ty=>ob (uD H p.1) fun c=>fM ty c.1 p.2
def nQ(C:pA)(H:xA)(tm:Tm)(l:List ResultVar):Option (List zA):=qF (oR C H tm) l
def zwg(jump:Option Code):Bool:=
 match jump with
 | none=>true
 | some .ret=>true
 | _=>false
def zc1(fr:iB)(m:zfc):iB:=⟨fr.todo,fr.tm,⟨fr.R.fn,fr.R.n,fr.R.defers,m,fr.R.deferred,fr.R.roundOf⟩⟩
def eM(jump:Option Code)(_:pA)(fr:iB)(cs:List iB)(H:xA):aD:=
 eI (match fr.R.roundOf with
  | none=>iA (zwg jump) (some ⟨zc1 fr .returning,cs,H⟩)
  | some l=>ob (yI H l) fun r=>match cs with
   | c::rest=>iA (!fr.R.deferred) <| ob (qG c (.bool jump.isNone)) fun c=>some ⟨c,rest,setBlk H l (.loop ⟨if jump.isNone then .ready else .done,jump,r.fn,r.n,r.tm,r.params,r.assign,r.body,r.defers⟩)⟩
   | []=>none) 7
abbrev oJ:=pA->List oD->Tm->aH->List iB->xA->aD
structure XB where f:oJ
def xGo (todo:List oD)(tm:Tm)(R:aH)(cs:List iB)(H:xA):aD:=.next ⟨⟨todo,tm,R⟩,cs,H⟩
def zme:oJ:=fun _ k tm R cs H=>xGo k tm R cs H
def zul(c:Operand)(x y:Code):oJ:=fun _ k tm R cs H=>
 match ob (ev c (.now tm)) zA.asBool with
 | some b=>xGo (.code (bif b then x else y)::k) tm R cs H
 | none=>.fail 8
def z45(id:Nat)(c:Code):oJ:=fun _ k tm R cs H=>xGo (.code c::.inBlock id::k) tm R cs H
def z60(c:Code):oJ:=fun _ k tm R cs H=>xGo (.code c::.inLoop c::k) tm R cs H
def xScope(c:Code):oJ:=fun _ k tm R cs H=>xGo (.code c::.inScope c::k) tm R cs H
def zi1(id:Nat):oJ:=fun C k tm R cs H=>
 match vK id k with
 | some k'=>xGo k' tm R cs H
 | none=>eM (some (.exit id)) C ⟨.code (.exit id)::k,tm,R⟩ cs H
def xRet:oJ:=fun C k tm R cs H=>eM (some .ret) C ⟨.code .ret::k,tm,R⟩ cs H
def z61:oJ:=fun _ _ _ _ _ _=>.fail 9
def rS(e:Edge):Bool:=
 match e.ground with
 | .textOnly _=>false
 | .gcOnly _=>false
 | _=>true
def tb (m i:Nat):Bool:=Nat.beq (Nat.mod (Nat.shiftRight m i) (nat_lit 2)) (nat_lit 1)
def ziv(i:Nat):Nat:=Nat.shiftLeft (nat_lit 1) i
def wH (t:Tr Nat)(i:Nat):Nat:=
 match t.get i with
 | some m=>m
 | none=>0
def zf7(t:Tr Nat):List Edge->Nat
 | []=>0
 | e::l=>bif rS e then Nat.lor (Nat.lor (ziv e.on) (wH t e.on)) (zf7 t l)else zf7 t l
def z9r:List Oper->Nat->Tr Nat->Tr Nat
 | [],_,t=>t
 | o::r,i,t=>z9r r (i+1) (t.set i (zf7 t o.after.toList))
def zqh:List Oper->Nat->Bool
 | [],_=>true
 | o::r,i=>bif tC (fun e=>bif rS e then Nat.blt e.on i else true) o.after.toList then zqh r (i+1)else false
def wrOf:List Oper->Nat->Tr Nat->Option (Tr Nat)
 | [],_,t=>some t
 | o::r,i,t=>match o.dst with
  | none=>wrOf r (i+1) t
  | some d=>match t.get d with
   | none=>wrOf r (i+1) (t.set d i)
   | some _=>none
def fG{α:Type}:Option α->Bool | none=>true | some _=>false
def zxd(wr anc:Tr Nat)(i:Nat)(olds:List Nat)(t:Nat):Bool:=
 match wr.get t with
 | none=>true
 | some j=>bif iE t olds then(bif Nat.beq j i then true else tb (wH anc j) i)else tb (wH anc i) j
def znh(anc:Nat):Option (Nat × Bool)->Bool
 | none=>true
 | some g=>tb anc g.1
def z2k(wr anc:Tr Nat)(olds:List (Nat × List Nat)):List Oper->Nat->Bool
 | [],_=>true
 | o::r,i=>bif znh (wH anc i) o.guard then(bif tC (zxd wr anc i (lD i olds)) (eF o.op)then z2k wr anc olds r (i+1)else false)else false
def nN:Op->Bool
 | .move _=>true
 | .assign _=>true
 | .pick _ _ _=>true
 | .nilCheck _=>true
 | .binOp _ _ _ _ _=>true
 | .unOp _ _ _=>true
 | .makeInterface _ _=>true
 | .makeFunc _ _ _=>true
 | .fieldAddr _ _ _=>true
 | .field _ _ _=>true
 | .indexAddr _ _ _=>true
 | .index _ _ _=>true
 | .extract _ _=>true
 | .build _ _=>true
 | .typeAssert _ _ _ _=>true
 | _=>false
def z1i (D:Nat)(o:Oper):Bool:=tC (fun e=>bif rS e then tb D e.on else true) o.after.toList
def zqg(h D:Nat):List Oper->Nat->Bool
 | [],_=>true
 | o::r,i=>bif (bif tb D i then true else bif Nat.beq i h then true else !z1i D o)then zqg h D r (i+1)else false
def sI:Op->Bool
 | .alloc _=>true
 | .box _ _=>true
 | .buildSlice _ _ _=>true
 | _=>false
def zhw(m D:Nat)(again:List Nat):List Oper->Nat->Bool
 | [],_=>true
 | o::r,i=>bif (bif tb D i then(bif tb m i then true else bif nN o.op then true else bif sI o.op then true else iE i again)else true)then zhw m D again r (i+1)else false
def pP(ops:List Oper)(i D:Nat):Option Nat:=
 ob (mC ops i) fun o=>iA (bif tb D i then false else z1i D o) (some (Nat.lor D (ziv i)))
def lK(ops:List Oper):List Nat->Nat->Option Nat
 | [],D=>some D
 | i::l,D=>ob (pP ops i D) fun D=>lK ops l D
def z2m(D:Nat):List Oper->Nat->Bool
 | [],_=>true
 | _::r,i=>bif tb D i then z2m D r (i+1)else false
def z8s:Option Oper->Bool
 | some o=>sI o.op
 | none=>false
def okG (ops:List Oper)(D:Nat):List Nat->Nat->Option Nat
 | [],E=>some E
 | i::l,E=>ob (mC ops i) fun o=>iA (!tb E i&&z1i D o&&fG o.dst) (okG ops D l (Nat.lor E (ziv i)))
def zqf(anc:Tr Nat)(D1:Nat)(G:List Nat):List Oper->Nat->Bool
 | [],_=>true
 | o::r,i=>bif (bif tb D1 i then true else bif tC (fun g=>tb (wH anc i) g) G then true else !z1i D1 o)then zqf anc D1 G r (i+1)else false
def zky(o:Op):Bool:=
 match o with
 | .call c=>(match c.callee with
  | .builtin .len=>true
  | _=>false)
 | _=>false
def zb2(anc:Tr Nat)(D:Nat)(G:List Nat):List Oper->Nat->Bool
 | [],_=>true
 | o::r,i=>bif (bif tb D i then(bif nN o.op then true else bif sI o.op then true else bif zky o.op then true else tC (fun g=>tb (wH anc g) i) G)else true)then zb2 anc D G r (i+1)else false
def zxe(ops:List Oper)(anc:Tr Nat)(D:Nat)(st:wE):Option Nat:=
 ob (okG ops D st.again D) fun D1=>iA (zqf anc D1 st.again ops 0&&zb2 anc D st.again ops 0) (lK ops st.lights D1)
def oH(ops:List Oper)(anc:Tr Nat):List wE->Nat->Bool
 | [],D=>z2m D ops 0
 | st::r,D=>bif Nat.blt (dA ops) st.heavy then(bif Nat.blt (dA ops+dA ops) st.heavy then(match zxe ops anc D st with
   | some D=>oH ops anc r D
   | none=>false)else bif z8s (mC ops (Nat.sub st.heavy (Nat.succ (dA ops))))then
   (match ob (pP ops (Nat.sub st.heavy (Nat.succ (dA ops))) D) fun D=>lK ops st.lights D with
   | some D=>oH ops anc r D
   | none=>false)else false)else bif zqg st.heavy D ops 0 then(bif zhw (wH anc st.heavy) D st.again ops 0 then
   (match ob (pP ops st.heavy D) fun D=>lK ops st.lights D with
   | some D=>oH ops anc r D
   | none=>false)else false)else false
def zng(ops:List Oper)(p:Plan):Bool:=
 bif zqh ops 0 then
  (match wrOf ops 0 .leaf with
  | none=>false
  | some wr=>
   (fun anc=>bif z2k wr anc p.olds ops 0 then(match lK ops p.first 0 with
    | some D=>oH ops anc p.stages D
    | none=>false)else false) (z9r ops 0 .leaf))else false
structure OkB where b:Bool
def kN(all:Array Oper)(p:Plan):Bool:=(OkB.mk (zng all.toList p)).b
def zuk(id:Nat)(all:Array Oper):oJ:=fun C k tm R cs H=>
 eI (ob (ob (C.plans.get R.fn) fun t=>t.get id) fun p=>iA (kN all p) <| ob (iL C H all R.n tm.cut p.olds p.first tm.cut) fun tm'=>some ⟨⟨.reg all tm.cut p.olds p.stages::k,tm',R⟩,cs,H⟩) 10
def nI.asVal:nI->Option (zA × xA) | .val v H=>some (v,H) | _=>none
def yO(C:pA)(all:Array Oper)(k:List oD)(R:aH)(cs:List iB)(l:List Oper):Tm->xA->aD:=
 List.rec (motive:=fun _=>Tm->xA->aD) (fun tm H=>xGo k tm R cs H)
  (fun o rest g tm H=>
   match nE o.guard all tm with
   | some w=>Bool.rec (motive:=fun _=>aD) (g (putA R.n tm o.dst pD) H)
     (let r:=(cE o.op).f C (.now tm) H
     match r.asVal with
     | some p=>g (putA R.n tm o.dst p.1) p.2
     | none=>za9 r C ⟨.ops all (o::rest)::k,tm,R⟩ cs H) w
   | none=>.fail 20) l
def xOps (all:Array Oper)(rest:List Oper):oJ:=fun C k tm R cs H=>yO C all k R cs rest tm H
def z6z(id:Nat)(all:Array Oper)(draw:Bool):XB:=
 match draw with
 | true=>⟨zuk id all⟩
 | false=>⟨fun C k tm R cs H=>yO C all k R cs all.toList tm.cut H⟩
def zo8(all:Array Oper)(old:Tm)(olds:List (Nat × List Nat))(st:wE)(stages:List wE)(o:Oper):oJ:=fun C k tm R cs H=>
 match nE o.guard all tm with
 | some w=>za9 (bif w then(cE o.op).f C (.mixed tm old (lD st.heavy olds) (eF o.op)) H else .val pD H) C ⟨.reg all old olds (st::stages)::k,tm,R⟩ cs H
 | none=>.fail 21
def zcf(all:Array Oper)(old:Tm)(olds:List (Nat × List Nat))(st:wE)(stages:List wE):oJ:=fun C k tm R cs H=>
 eI (iA (oS C H all old olds tm st.again) (ob (iL C H all R.n old olds st.lights tm) fun tm=>some ⟨⟨.reg all old olds stages::k,tm,R⟩,cs,H⟩)) 11
def zpa(all:Array Oper)(old:Tm)(olds:List (Nat × List Nat))(st:wE)(stages:List wE)(i:Nat):oJ:=fun C k tm R cs H=>
 eI (ob (mC all.toList i) fun o=>ob (nE o.guard all tm) fun w=>iA (w&&fG (z2u C o.op)) (ob ((cE o.op).f C (.mixed tm old (lD i olds) (eF o.op)) H).asVal fun p=>
  ob (iL C p.2 all R.n old olds st.lights (putA R.n tm o.dst p.1)) fun tm'=>some ⟨⟨.reg all old olds stages::k,tm',R⟩,cs,p.2⟩)) 23
inductive Eff where
 | store (t:Nat) (a v:zA)
 | upd (t:Nat) (m k v:zA)
inductive RE where
 | st (b off:Nat) (l:List zA)
 | up (b:Nat) (k v:zA)
def gO(op:Op)(e:pC):Option Eff:=
 match op with
 | .store t a x=>ob (ev a e) fun a=>ob (ev x e) fun v=>some (.store t a v)
 | .mapUpdate t m k x=>ob (ev m e) fun m=>ob (ev k e) fun k=>ob (ev x e) fun v=>some (.upd t m k v)
 | .insert t m k x=>ob (ev m e) fun m=>ob (ev k e) fun k=>ob (ev x e) fun v=>some (.upd t m k v)
 | _=>none
def zpx (C:pA)(e:Eff):Option RE:=
 match e with
 | .store t a v=>ob (C.tys.get t) fun ty=>ob a.asPtr fun p=>iA (Nat.beq (dA v.cells) ty.size) (some (.st p.1 p.2 v.cells))
 | .upd t m k v=>ob (C.tys.get t) fun ty=>ob ty.desc.asMap fun ke=>ob (C.tys.get ke.1) fun kty=>iA (iN C kty&&fL C kty k) (ob m.asMap fun b=>some (.up b k v))
def RE.blk:RE->Nat
 | .st b _ _=>b
 | .up b _ _=>b
def zh1(a b:zA):Bool:=
 match rG a b with
 | some r => !r
 | none=>false
def z0p(a b:RE):Bool:=bif Nat.beq a.blk b.blk then(match a with
 | .st _ _ _=>false
 | .up _ k _=>(match b with
  | .st _ _ _=>false
  | .up _ k' _=>zh1 k k'))else true
def zgz:List RE->Bool
 | []=>true
 | a::l=>tC (z0p a) l&&zgz l
def bP(C:pA)(H:xA)(e:RE):Option xA:=
 match e with
 | .st b off l=>uI C H b off l
 | .up b k v=>iA (!Nat.blt b C.base) (ob (oG H b) fun m=>some (setBlk H b (.map (eC m [(k,v)]))))
def zc8(C:pA)(H:xA)(e:RE):Bool:=
 match e with
 | .st b off l => !fG (uI C H b off l)
 | .up b _ _ => !Nat.blt b C.base&&(match oG H b with
  | some []=>true
  | _=>false)
def yR(C:pA):List RE->xA->Option xA
 | [],H=>some H
 | e::l,H=>ob (bP C H e) fun H=>yR C l H
def fP(C:pA)(es:List Eff)(H:xA):Option xA:=ob (qF (zpx C) es) fun rs=>iA (zgz rs&&tC (zc8 C H) rs) (yR C rs H)
def ze9(all:Array Oper)(old:Tm)(olds:List (Nat × List Nat))(tm:Tm)(i:Nat):Option Eff:=
 ob (mC all.toList i) fun o=>ob (nE o.guard all tm) fun w=>iA w (gO o.op (.mixed tm old (lD i olds) (eF o.op)))
def zqn(C:pA)(o:Oper):Bool:=
 match o.op with
 | .call c=>(match c.callee with
  | .builtin .len=>(match ob (mC c.argTypes.toList 0) fun t=>C.tys.get t with
   | some ty => !Nat.beq ty.desc.tag 6
   | none=>false)
  | _=>true)
 | _=>true
def mP(C:pA)(all:Array Oper):Bool:=tC (zqn C) all.toList
def ztq(all:Array Oper)(old:Tm)(olds:List (Nat × List Nat))(tm:Tm)(l:List Nat):Option (List Eff):=qF (ze9 all old olds tm) l
def zo9(all:Array Oper)(old:Tm)(olds:List (Nat × List Nat))(st:wE)(stages:List wE):oJ:=fun C k tm R cs H=>
 eI (iA (mP C all) (ob (ztq all old olds tm st.again) fun es=>ob (fP C es H) fun H'=>ob (iL C H' all R.n old olds st.lights tm) fun tm'=>some ⟨⟨.reg all old olds stages::k,tm',R⟩,cs,H'⟩)) 24
def zrx (all:Array Oper)(old:Tm)(olds:List (Nat × List Nat))(stages:List wE):oJ:=
 match stages with
 | []=>zme
 | st::stages=>match mC all.toList st.heavy with
  | some o=>zo8 all old olds st stages o
  | none=>bif Nat.blt (dA all.toList) st.heavy then(bif Nat.blt (dA all.toList+dA all.toList) st.heavy then zo9 all old olds st stages else zpa all old olds st stages (Nat.sub st.heavy (Nat.succ (dA all.toList))))else zcf all old olds st stages
def mQ(C:pA)(l:Nat)(f:zA):Option iB:=
 ob f.asFunc fun p=>match p.1 with
  | .func g=>match C.prims.get g with
   | none=>qJ C g (eC p.2.1 (.func (.yld l) [] []::p.2.2)) false
   | some _=>none
  | .yld _=>none
def zi0(f:Operand)(params:Array Nat)(assign body:Code):oJ:=fun C k tm R cs H=>
 eI (ob (ev f (.now tm)) fun v=>match R.roundOf with
  | none=>
   let r:=H.next
   let l:=r+1
   ob (mQ C l v) fun h=>
    some ⟨h,⟨.inRange l::k,tm,⟨R.fn,R.n,⟨none,r,[]⟩::R.defers,R.mode,R.deferred,R.roundOf⟩⟩::cs,
     newBlk (newBlk H (.deferred (some []))) (.loop ⟨.ready,none,R.fn,R.n,tm,params.toList,assign,body,r⟩)⟩
  | some outer=>ob (yI H outer) fun o=>
   let l:=H.next
   ob (mQ C l v) fun h=>
    some ⟨h,⟨.inRange l::k,tm,R⟩::cs,newBlk H (.loop ⟨.ready,none,R.fn,R.n,tm,params.toList,assign,body,o.defers⟩)⟩) 12
def LoopState.tag:LoopState->Nat | .ready=>0 | .busy=>1 | .done=>2 | .exhausted=>3
def zi2:oJ:=fun _ k tm R cs H=>
 eI (ob R.roundOf fun l=>ob (yI H l) fun r=>iA (Nat.beq (LoopState.tag r.state) 0)
  (some ⟨⟨k,tm,R⟩,cs,setBlk H l (.loop ⟨.busy,r.pending,r.fn,r.n,r.tm,r.params,r.assign,r.body,r.defers⟩)⟩)) 13
def pV(l:Nat):oJ:=fun _ k tm R cs H=>
 eI (ob (yI H l) fun r=>iA (!Nat.beq (LoopState.tag r.state) 1)
  (some ⟨⟨(match r.pending with | some c=>.code c::k | none=>k),tm,R⟩,cs,setBlk H l (.loop ⟨.exhausted,r.pending,r.fn,r.n,r.tm,r.params,r.assign,r.body,r.defers⟩)⟩)) 14
def z62:Code->XB
 | .skip=>⟨zme⟩
 | .region id ops d=>z6z id ops d
 | .seq a b=>⟨fun C k tm R cs H=>(z62 a).f C (.code b::k) tm R cs H⟩
 | .cond c x y=>⟨zul c x y⟩
 | .block id c=>⟨z45 id c⟩
 | .loop c=>⟨z60 c⟩
 | .rangeFunc f ps a b=>⟨zi0 f ps a b⟩
 | .exit id=>⟨zi1 id⟩
 | .scope c=>⟨xScope c⟩
 | .label _=>⟨zme⟩
 | .goto _=>⟨z61⟩
 | .ret=>⟨xRet⟩
 | .refuse _=>⟨z61⟩
def xItem:oD->XB
 | .code c=>z62 c
 | .inBlock _=>⟨zme⟩
 | .inLoop c=>⟨z60 c⟩
 | .inScope _=>⟨zme⟩
 | .ops all rest=>⟨xOps all rest⟩
 | .reg all old olds stages=>⟨zrx all old olds stages⟩
 | .inRange _=>⟨z61⟩
 | .endRange l=>⟨pV l⟩
 | .beginRound=>⟨zi2⟩
def dL(C:pA)(todo:List oD)(tm:Tm)(R:aH)(cs:List iB)(H:xA):aD:=
 match todo with
 | []=>eM none C ⟨[],tm,R⟩ cs H
 | x::k=>(xItem x).f C k tm R cs H
def zjt(fr:iB)(d:List gH):iB:=⟨fr.todo,fr.tm,⟨fr.R.fn,fr.R.n,d,fr.R.mode,fr.R.deferred,fr.R.roundOf⟩⟩
def zjg(C:pA)(d:gH)(ds:List gH)(fr:iB)(cs:List iB)(H:xA):aD:=
 eI (match d.fn with
  | none=>ob (dP H d.r) fun l=>ob l fun l=>some ⟨zjt fr (eC l ds),cs,setBlk H d.r (.deferred none)⟩
  | some (.func f)=>match C.prims.get f with
   | none=>ob (qJ C f d.args true) fun g=>some ⟨g,zjt fr ds::cs,H⟩
   | some _=>none
  | some (.yld _)=>none) 15
def cS(l:List zA):zA:=
 match l with
 | [v]=>v
 | l=>.tup l
def zco(C:pA)(fr:iB)(cs:List iB)(H:xA):aD:=
 match ob (C.fns.get fr.R.fn) fun fn=>nQ C H fr.tm fn.results.toList with
 | none=>.fail 16
 | some l=>
  match cs with
  | []=>bif fr.R.deferred then .fail 17 else bif Nat.beq fr.R.fn C.root then .done (cS l) H else .fail 22
  | c::rest=>eI (bif fr.R.deferred then
    (match c.R.mode with
    | .panicking (⟨_,true⟩::_)=>some ⟨zc1 c .returning,rest,H⟩
    | _=>iA (!c.R.mode.running) (some ⟨c,rest,H⟩))
   else ob (qG c (cS l)) fun c=>some ⟨c,rest,H⟩) 18
def zg7(C:pA)(fr:iB)(cs:List iB)(H:xA):aD:=
 match fr.R.defers with
 | d::ds=>zjg C d ds fr cs H
 | []=>match fr.R.mode.chain with
  | some chain=>eI (ob (C.fns.get fr.R.fn) fun _=>match cs with | c::rest=>some ⟨zp2 c chain,rest,H⟩ | []=>none) 19
  | none=>zco C fr cs H
def stepA(C:pA)(s:rM):aD:=
 match s with
 | ⟨⟨todo,tm,R⟩,cs,H⟩=>bif R.mode.running then dL C todo tm R cs H else zg7 C ⟨todo,tm,R⟩ cs H
def zse(C:pA)(o:aD):aD:=
 match o with
 | .next s=>stepA C s
 | .done v H=>.done v H
 | .fail n=>.fail n
def zpu (C:pA)(n:Nat):aD->aD:=
 Nat.rec (motive:=fun _=>aD->aD) (fun o=>zse C o) (fun _ g o=>g (g o)) n
end Go.Am
namespace Go.Am
open Go
theorem sA{α β:Type}{x:Option α}{f:α->Option β}{b:β}:ob x f=some b ↔ ∃a,x=some a/\f a=some b:=by
 cases x with
 | none=>simp[ob]
 | some a=>exact⟨fun h=>⟨a,rfl,h⟩,fun⟨_,h,k⟩=>by cases h;exact k⟩
@[simp] theorem z73 {α β:Type} {f:α->Option β}:ob none f=none:=rfl
@[simp] theorem uA {α β:Type} {a:α} {f:α->Option β}:ob (some a) f=f a:=rfl
theorem xB{α:Type}{b:Bool}{x:Option α}{a:α}:iA b x=some a ↔ b=true/\x=some a:=by
 cases b with
 | false=>simp[iA]
 | true=>simp[iA]
theorem bG{α:Type}(a b:α)(c:Bool):(Bool.rec (motive:=fun _=>α) a b c:α)=if c=true then b else a:=by cases c<;>rfl
theorem mB{n m:Nat}:(Nat.beq n m=true) ↔ n=m:=⟨Nat.eq_of_beq_eq_true,fun h=>by subst h;exact Nat.beq_refl n⟩
theorem beqf{n m:Nat}:(Nat.beq n m=false) ↔ n≠m:=by
 rw[<- Bool.not_eq_true,mB]
theorem eD{n m:Nat}:(Nat.ble n m=true) ↔ n<=m:=Iff.of_eq Nat.ble_eq
theorem dB{n m:Nat}:(Nat.blt n m=true) ↔ n<m:=Iff.of_eq Nat.ble_eq
theorem jB{α:Type}(c:Bool)(a b:α):(bif c then a else b)=if c=true then a else b:=by cases c<;>rfl
namespace Tr
variable {α:Type}
theorem get_leaf(n:Nat):(leaf:Tr α).get n=none:=rfl
theorem get_node(l:Tr α)(v:Option α)(r:Tr α)(n:Nat) :
  (node l v r).get n=if n=0 then v else if n%2=1 then l.get (n / 2)else r.get (n / 2-1):=by
 show Bool.rec (motive:=fun _=>Option α) (Bool.rec (motive:=fun _=>Option α) (r.get (n / 2-1)) (l.get (n / 2)) (Nat.beq (n%2) 1)) v (Nat.beq n 0)=_
 rw[bG,bG];simp only[mB]
theorem z76(f n:Nat)(v:α):mk (f+1) n v=if n=0 then node leaf (some v) leaf else if n%2=1 then node (mk f (n / 2) v) none leaf else node leaf none (mk f (n / 2-1) v):=by
 show Bool.rec (motive:=fun _=>Tr α) (Bool.rec (motive:=fun _=>Tr α) (node leaf none (mk f (n / 2-1) v)) (node (mk f (n / 2) v) none leaf) (Nat.beq (n%2) 1)) (node leaf (some v) leaf) (Nat.beq n 0)=_
 rw[bG,bG];simp only[mB]
theorem z13(n:Nat)(v:α):(leaf:Tr α).set n v=mk (n+1) n v:=rfl
theorem z12(l:Tr α)(x:Option α)(r:Tr α)(n:Nat)(v:α) :
  (node l x r).set n v=if n=0 then node l (some v) r else if n%2=1 then node (l.set (n / 2) v) x r else node l x (r.set (n / 2-1) v):=by
 show Bool.rec (motive:=fun _=>Tr α) (Bool.rec (motive:=fun _=>Tr α) (node l x (r.set (n / 2-1) v)) (node (l.set (n / 2) v) x r) (Nat.beq (n%2) 1)) (node l (some v) r) (Nat.beq n 0)=_
 rw[bG,bG];simp only[mB]
theorem z4d(l:Tr α)(x:Option α)(r:Tr α)(n:Nat) :
  (node l x r).del n=if n=0 then node l none r else if n%2=1 then node (l.del (n / 2)) x r else node l x (r.del (n / 2-1)):=by
 show Bool.rec (motive:=fun _=>Tr α) (Bool.rec (motive:=fun _=>Tr α) (node l x (r.del (n / 2-1))) (node (l.del (n / 2)) x r) (Nat.beq (n%2) 1)) (node l none r) (Nat.beq n 0)=_
 rw[bG,bG];simp only[mB]
theorem get_mk(f:Nat):∀(n m:Nat) (v:α),n<f->(mk f n v).get m=if m=n then some v else none:=by
 induction f with
 | zero=>intro n m v h;omega
 | succ f ih=>
  intro n m v h;rw[z76];by_cases h0:n=0
  ·rw[if_pos h0,get_node];subst h0;split<;>simp[get_leaf]
  ·rw[if_neg h0]
   by_cases h1:n%2=1
   ·rw[if_pos h1,get_node]
    by_cases m0:m=0
    ·rw[if_pos m0,if_neg (by omega)]
    ·rw[if_neg m0]
     by_cases m1:m%2=1
     ·rw[if_pos m1,ih _ _ _ (by omega)];by_cases e:m=n
      ·subst e;simp
      ·rw[if_neg e,if_neg (by omega)]
     ·rw[if_neg m1,get_leaf,if_neg (by omega)]
   ·rw[if_neg h1,get_node]
    by_cases m0:m=0
    ·rw[if_pos m0,if_neg (by omega)]
    ·rw[if_neg m0]
     by_cases m1:m%2=1
     ·rw[if_pos m1,get_leaf,if_neg (by omega)]
     ·rw[if_neg m1,ih _ _ _ (by omega)];by_cases e:m=n
      ·subst e;simp
      ·rw[if_neg e,if_neg (by omega)]
theorem get_set(t:Tr α):∀(n m:Nat) (v:α),(t.set n v).get m=if m=n then some v else t.get m:=by
 induction t with
 | leaf=>intro n m v;rw[z13,get_mk _ _ _ _ (by omega),get_leaf]
 | node l x r ihl ihr=>
  intro n m v;rw[z12];by_cases h0:n=0
  ·rw[if_pos h0,get_node,get_node];subst h0;by_cases m0:m=0<;>simp[m0]
  ·rw[if_neg h0]
   by_cases h1:n%2=1
   ·rw[if_pos h1,get_node,get_node]
    by_cases m0:m=0
    ·rw[if_pos m0,if_pos m0,if_neg (by omega)]
    ·rw[if_neg m0,if_neg m0]
     by_cases m1:m%2=1
     ·rw[if_pos m1,if_pos m1,ihl];by_cases e:m=n
      ·subst e;simp
      ·rw[if_neg e,if_neg (by omega)]
     ·rw[if_neg m1,if_neg m1,if_neg (by omega)]
   ·rw[if_neg h1,get_node,get_node]
    by_cases m0:m=0
    ·rw[if_pos m0,if_pos m0,if_neg (by omega)]
    ·rw[if_neg m0,if_neg m0]
     by_cases m1:m%2=1
     ·rw[if_pos m1,if_pos m1,if_neg (by omega)]
     ·rw[if_neg m1,if_neg m1,ihr];by_cases e:m=n
      ·subst e;simp
      ·rw[if_neg e,if_neg (by omega)]
theorem get_del(t:Tr α):∀(n m:Nat),(t.del n).get m=if m=n then none else t.get m:=by
 induction t with
 | leaf=>intro n m;show(leaf:Tr α).get m=_;rw[get_leaf];split<;>rfl
 | node l x r ihl ihr=>
  intro n m;rw[z4d];by_cases h0:n=0
  ·rw[if_pos h0,get_node,get_node];subst h0;by_cases m0:m=0<;>simp[m0]
  ·rw[if_neg h0]
   by_cases h1:n%2=1
   ·rw[if_pos h1,get_node,get_node]
    by_cases m0:m=0
    ·rw[if_pos m0,if_pos m0,if_neg (by omega)]
    ·rw[if_neg m0,if_neg m0]
     by_cases m1:m%2=1
     ·rw[if_pos m1,if_pos m1,ihl];by_cases e:m=n
      ·subst e;simp
      ·rw[if_neg e,if_neg (by omega)]
     ·rw[if_neg m1,if_neg m1,if_neg (by omega)]
   ·rw[if_neg h1,get_node,get_node]
    by_cases m0:m=0
    ·rw[if_pos m0,if_pos m0,if_neg (by omega)]
    ·rw[if_neg m0,if_neg m0]
     by_cases m1:m%2=1
     ·rw[if_pos m1,if_pos m1,if_neg (by omega)]
     ·rw[if_neg m1,if_neg m1,ihr];by_cases e:m=n
      ·subst e;simp
      ·rw[if_neg e,if_neg (by omega)]
theorem many_succ(t:Tr α)(n i:Nat):t.many (n+1) i=ob (t.get i) fun v=>ob (t.many n (i+1)) fun l=>some (v::l):=rfl
theorem many_some(t:Tr α)(n:Nat):∀(i:Nat) (l:List α),t.many n i=some l->l.length=n/\∀j,j<n->t.get (i+j)=l[j]?:=by
 induction n with
 | zero=>intro i l h;cases h;exact⟨rfl,fun j hj=>by omega⟩
 | succ n ih=>
  intro i l h;rw[many_succ,sA]at h;obtain⟨v,hv,h⟩:=h
  rw[sA]at h;obtain⟨m,hm,h⟩:=h
  cases h;obtain⟨h1,h2⟩:=ih _ _ hm
  refine⟨by simp[h1],fun j hj=>?_⟩
  cases j with
  | zero=>simpa using hv
  | succ j=>have:=h2 j (by omega);rw[show i+1+j=i+(j+1) by omega]at this;simpa using this
theorem zjs(v:α)(l:List α)(t:Tr α)(i:Nat):setMany (v::l) t i=setMany l (t.set i v) (i+1):=rfl
theorem get_setMany(l:List α):∀(t:Tr α) (i m:Nat),(setMany l t i).get m=if i<=m/\m<i+l.length then l[m-i]? else t.get m:=by
 induction l with
 | nil=>intro t i m;rw[if_neg (by simp)];rfl
 | cons v l ih=>
  intro t i m;rw[zjs,ih,get_set];by_cases h:i+1<=m/\m<i+1+l.length
  ·rw[if_pos h,if_pos (by simp;omega)]
   rw[show m-i=(m-(i+1))+1 by omega];simp
  ·rw[if_neg h]
   by_cases e:m=i
   ·subst e;simp
   ·rw[if_neg e,if_neg (by simp;omega)]
theorem get_ofList(l:List α)(m:Nat):(ofList l).get m=l[m]?:=by
 unfold ofList;rw[get_setMany];split
 ·simp
 ·rename_i h;rw[get_leaf,List.getElem?_eq_none (by omega)]
end Tr
theorem pF{α:Type}(l:List α):∀n,mC l n=l[n]?:=by
 induction l with
 | nil=>intro n;rfl
 | cons a l ih=>
  intro n
  cases n with
  | zero=>rfl
  | succ n=>show mC l n=_;rw[ih];simp
theorem jN{α:Type}(l:List α):∀n,gL l n=l.drop n:=by
 induction l with
 | nil=>intro n;simp;rfl
 | cons a l ih=>
  intro n
  cases n with
  | zero=>rfl
  | succ n=>show gL l n=_;rw[ih];simp
theorem iM{α:Type}(l:List α):∀n,ze7 l n=l.take n:=by
 induction l with
 | nil=>intro n;simp;rfl
 | cons a l ih=>
  intro n
  cases n with
  | zero=>rfl
  | succ n=>show a::ze7 l n=_;rw[ih];simp
theorem jC{α:Type}(l:List α):dA l=l.length:=by
 induction l with
 | nil=>rfl
 | cons a l ih=>show dA l+1=_;rw[ih];rfl
theorem jF{α:Type}(l m:List α):eC l m=l++m:=by
 induction l with
 | nil=>rfl
 | cons a l ih=>show a::eC l m=_;rw[ih];rfl
theorem gG{α:Type}(p:α->Bool)(l:List α):tC p l=l.all p:=by
 induction l with
 | nil=>rfl
 | cons a l ih=>show(bif p a then tC p l else false)=_;rw[ih];cases h:p a<;>simp[h]
theorem wK{α β:Type}(f:α->Option β)(a:α)(l:List α):qF f (a::l)=ob (f a) fun b=>ob (qF f l) fun r=>some (b::r):=rfl
theorem tT{α β:Type}(f:α->Option β):qF f []=some []:=rfl
theorem tO(i:Nat)(l:List Nat):iE i l=true ↔ i∈l:=by
 induction l with
 | nil=>exact⟨fun h=>(by cases h),fun h=>(by cases h)⟩
 | cons j l ih=>
  show(bif Nat.beq i j then true else iE i l)=true ↔ _
  rw[jB,yat];by_cases h:Nat.beq i j=true
  ·rw[if_pos h];exact⟨fun _=>.inl (mB.1 h),fun _=>rfl⟩
  ·rw[if_neg h,ih];exact⟨.inr,fun k=>k.resolve_left fun e=>h (mB.2 e)⟩
theorem cL(a:List Nat):∀b,iF a b=true ↔ a=b:=by
 induction a with
 | nil=>intro b;cases b with
  | nil=>exact⟨fun _=>rfl,fun _=>rfl⟩
  | cons y b=>exact⟨fun h=>(by cases h),fun h=>(by cases h)⟩
 | cons x a ih=>
  intro b
  cases b with
  | nil=>exact⟨fun h=>(by cases h),fun h=>(by cases h)⟩
  | cons y b=>
   show(bif Nat.beq x y then iF a b else false)=true ↔ _
   rw[jB];by_cases h:Nat.beq x y=true
   ·rw[if_pos h,ih,mB.1 h];simp
   ·rw[if_neg h];exact⟨fun h=>(by cases h),fun e=>(h (by rw[mB];injection e)).elim⟩
theorem tI{a b:IntKind}:kEq a b=true ↔ a=b:=by cases a<;>cases b<;>simp[kEq,kIdx]
theorem aQ(a b:Bool):bEq a b=(a == b):=by cases a<;>cases b<;>rfl
theorem jP(a b:Int):lA a b=true ↔ a=b:=by
 cases a<;>cases b<;>simp only[lA,mB] <;> (try simp)<;>omega
theorem zid(a b:Int):rC a b=true ↔ a<=b:=by
 cases a<;>cases b<;>simp only[rC,eD] <;> (try simp)<;>omega
theorem cU(a b:Int):vC a b=true ↔ a<b:=by
 cases a<;>cases b<;>simp only[vC,dB] <;> (try simp)<;>omega
theorem iP(a b:Int):lA a b=(a == b):=by rw[Bool.eq_iff_iff,jP];simp
theorem z6m(a b:Int):rC a b=decide (a<=b):=by rw[Bool.eq_iff_iff,zid];simp
theorem z6l(a b:Int):vC a b=decide (a<b):=by rw[Bool.eq_iff_iff,cU];simp
theorem pK(k:IntKind)(n:Int):wA k n=k.wrap n:=by
 cases n with
 | ofNat n=>
  show(bif Nat.blt n (oF k)then Int.ofNat n else _)=_
  rw[jB];by_cases h:Nat.blt n (oF k)=true
  ·rw[if_pos h]
   have h':=dB.1 h
   cases k<;>simp only[oF]at h'<;>simp only[IntKind.wrap,IntKind.bits,IntKind.signed]<;>simp<;>omega
  ·rw[if_neg h]
 | negSucc n=>
  show(bif Nat.blt n (kLo k)then Int.negSucc n else _)=_
  rw[jB];by_cases h:Nat.blt n (kLo k)=true
  ·rw[if_pos h]
   have h':=dB.1 h
   cases k<;>simp only[kLo]at h'<;>simp only[IntKind.wrap,IntKind.bits,IntKind.signed]<;>simp<;>omega
  ·rw[if_neg h]
theorem rW{n:Int}{m:Nat}:aI n=some m ↔ n=(m:Int):=by
 cases n with
 | ofNat a=>simp only[aI,Option.some.injEq];exact⟨fun h=>(by rw[h];rfl),fun h=>Int.ofNat.inj h⟩
 | negSucc a=>simp only[aI];exact⟨fun h=>(by cases h),fun h=>(by cases h)⟩
end Go.Am
namespace Go.Am
open Go
theorem dU{a b:zA}{r:Bool}(h:iK a b=some r) :
  (∃k x y,a=.int k x/\b=.int k y/\r=(x == y))\/(∃x y,a=.str x/\b=.str y/\r=iF x y)\/(∃x y,a=.bool x/\b=.bool y/\r=(x == y)):=by
 cases a<;>simp only[iK,zA.asIntK,zA.asStr,zgk,zA.asBool]at h<;>try (cases h;done)
 case bool x=>
  rw[uA,sA]at h;obtain⟨y,hy,h⟩:=h
  cases b<;>simp[zA.asBool]at hy
  cases h;exact .inr (.inr ⟨_,_,rfl,rfl,by rw[hy];exact aQ _ _⟩)
 case int k x=>
  rw[sA]at h;obtain⟨y,hy,h⟩:=h
  cases b<;>simp[zA.asIntK]at hy
  rw[xB]at h;obtain⟨hk,h⟩:=h
  cases h;rw[tI]at hk;subst hy;refine .inl ⟨k,x,_,rfl,?_,iP _ _⟩
  rw[show k=_ from hk]
 case str x=>
  rw[sA]at h;obtain⟨y,hy,h⟩:=h
  cases b<;>simp[zA.asStr]at hy
  cases h;subst hy;exact .inr (.inl ⟨_,_,rfl,rfl,rfl⟩)
theorem zdv{a b:zA}(h:iK a b=some true):a=b:=by
 rcases dU h with⟨k,x,y,rfl,rfl,hr⟩ | ⟨x,y,rfl,rfl,hr⟩ | ⟨x,y,rfl,rfl,hr⟩
 ·rw[eq_of_beq hr.symm]
 ·rw[(cL _ _).1 hr.symm]
 ·rw[eq_of_beq hr.symm]
theorem zdw{a b:zA}{r:Bool}(h:iK a b=some r):iK b a=some r:=by
 rcases dU h with⟨k,x,y,rfl,rfl,hr⟩ | ⟨x,y,rfl,rfl,hr⟩ | ⟨x,y,rfl,rfl,hr⟩
 ·have e:lA y x=(x == y):=by rw[iP,Bool.eq_iff_iff,beq_iff_eq,beq_iff_eq];exact eq_comm
  show iA (kEq k k) (some (lA y x))=_
  rw[e,hr];exact xB.2 ⟨tI.2 rfl,rfl⟩
 ·simp only[iK,zA.asIntK,zA.asStr,uA]
  rw[hr];congr 1
  rw[Bool.eq_iff_iff,cL,cL];exact eq_comm
 ·simp only[iK,zA.asIntK,zA.asStr,zgk,zA.asBool,aQ,uA,hr]
  rw[show(y == x)=(x == y) by cases x<;>cases y<;>rfl]
theorem zdq:∀ {x y:List zA},cM x y=some true->x=y
 | [],[],_=>rfl
 | a::x,b::y,h=>by
  simp only[cM,sA]at h;obtain⟨r,hr,s,hs,h⟩:=h
  cases r<;>cases s<;>simp at h
  rw[zdv hr,zdq hs]
 | [],_::_,h=>by cases h
 | _::_,[],h=>by cases h
theorem zdr:∀ {x y:List zA} {r:Bool},cM x y=some r->cM y x=some r
 | [],[],_,h=>h
 | a::x,b::y,r,h=>by
  simp only[cM,sA]at h ⊢
  obtain⟨r1,hr,s,hs,h⟩:=h
  exact⟨r1,zdw hr,s,zdr hs,h⟩
 | [],_::_,_,h=>by cases h
 | _::_,[],_,h=>by cases h
theorem mW{a b:zA}{r:Bool}(h:rG a b=some r):(∃x y,a=.agg x/\b=.agg y/\cM x y=some r)\/(a.asAgg=none/\iK a b=some r):=by
 unfold rG at h;split at h
 ·rename_i x hx
  rw[sA]at h;obtain⟨y,hy,h⟩:=h
  cases a<;>simp[zA.asAgg]at hx
  cases b<;>simp[zA.asAgg]at hy
  subst hx;subst hy;exact .inl ⟨_,_,rfl,rfl,h⟩
 ·rename_i hx
  exact .inr ⟨hx,h⟩
theorem zyg{a b:zA}{r:Bool}(h:iK a b=some r):rG a b=some r:=by
 rcases dU h with⟨k,x,y,rfl,rfl,hr⟩ | ⟨x,y,rfl,rfl,hr⟩ | ⟨x,y,rfl,rfl,hr⟩<;>exact h
theorem zgd{a b:zA}(h:rG a b=some true):a=b:=by
 rcases mW h with⟨x,y,rfl,rfl,h⟩ | ⟨_,h⟩
 ·rw[zdq h]
 ·exact zdv h
theorem nW{a b:zA}{r:Bool}(h:rG a b=some r):rG b a=some r:=by
 rcases mW h with⟨x,y,rfl,rfl,h⟩ | ⟨_,h⟩
 ·exact zdr h
 ·exact zyg (zdw h)
def DK (l:List (zA × zA)):Prop:=l.Pairwise fun p q=>rG p.1 q.1=some false
def zba(l l':List (zA × zA)):Prop:=l'=l\/(l.Perm l'/\DK l)
theorem DK.perm{l l':List (zA × zA)}(h:DK l)(p:l.Perm l'):DK l':=(p.pairwise_iff (fun hab=>nW hab)).1 h
theorem za5{k:zA}:∀ {l:List (zA × zA)},nH k l=some none ↔ ∀e∈l,rG k e.1=some false
 | []=>by simp[nH]
 | e::l=>by
  rw[nH,sA];constructor
  ·rintro⟨r,hr,h⟩
   cases r with
   | true=>cases h
   | false=>
    rw[cond_false]at h;intro x hx;rcases yat.1 hx with rfl | hx
    ·exact hr
    ·exact za5.1 h x hx
  ·intro h
   exact⟨false,h e (.head _),za5.2 fun x hx=>h x (.tail _ hx)⟩
theorem zd9{k v:zA}:∀ {l:List (zA × zA)},nH k l=some (some v)->(k,v)∈l/\rG k k=some true
 | [],h=>by cases h
 | e::l,h=>by
  rw[nH,sA]at h;obtain⟨r,hr,h⟩:=h
  cases r with
  | true=>
   rw[cond_true]at h
   cases h;have:=zgd hr
   refine⟨?_,by rw[<- this]at hr;exact hr⟩
   have e0:(k,e.2)=e:=by rw[this]
   rw[e0];exact .head _
  | false=>
   rw[cond_false]at h;obtain⟨h1,h2⟩:=zd9 h
   exact⟨.tail _ h1,h2⟩
theorem DK.split{k v:zA}{l m:List (zA × zA)}(h:DK (l++(k,v)::m)):(∀e∈l,rG k e.1=some false)/\∀e∈m,rG k e.1=some false:=by
 unfold DK at h;rw[List.pairwise_append]at h;obtain⟨_,h2,h3⟩:=h
 rw[List.pairwise_cons]at h2;exact⟨fun e he=>nW (h3 e he (k,v) (.head _)),fun e he=>h2.1 e he⟩
theorem ztl{k:zA}{l m:List (zA × zA)}(h:∀e∈l,rG k e.1=some false):nH k (l++m)=nH k m:=by
 induction l with
 | nil=>rfl
 | cons e l ih=>
  rw[List.cons_append,nH,h e (.head _),uA,cond_false]
  exact ih fun x hx=>h x (.tail _ hx)
theorem ztm{k:zA}{l l':List (zA × zA)}{r:Option zA}(h:zba l l')(hf:nH k l=some r):nH k l'=some r:=by
 rcases h with rfl | ⟨p,d⟩
 ·exact hf
 cases r with
 | none=>
  rw[za5]at hf ⊢
  exact fun e he=>hf e (p.mem_iff.2 he)
 | some v=>
  obtain⟨h1,h2⟩:=zd9 hf
  obtain⟨a,b,rfl⟩:=List.append_of_mem (p.mem_iff.1 h1)
  rw[ztl (d.perm p).split.1,nH,h2,uA,cond_true]
theorem tZ{k v:zA}:∀ {l:List (zA × zA)},(∀e∈l,rG k e.1=some false)->kG k v l=some (l++[(k,v)])
 | [],_=>rfl
 | e::l,h=>by
  rw[kG,h e (.head _),uA,cond_false,tZ fun x hx=>h x (.tail _ hx)]
  rfl
theorem zc2{k v u:zA}{m:List (zA × zA)}(hk:rG k k=some true):∀ {l:List (zA × zA)},(∀e∈l,rG k e.1=some false)->kG k v (l++(k,u)::m)=some (l++(k,v)::m)
 | [],_=>by rw[List.nil_append,kG,hk];rfl
 | e::l,h=>by
  rw[List.cons_append,kG,h e (.head _),uA,cond_false,zc2 hk fun x hx=>h x (.tail _ hx)]
  rfl
theorem zbf{k v:zA}:∀ {l r:List (zA × zA)},kG k v l=some r->((∀e∈l,rG k e.1=some false)/\r=l++[(k,v)])\/(rG k k=some true/\∃a u b,l=a++(k,u)::b/\r=a++(k,v)::b)
 | [],r,h=>by cases h;exact .inl ⟨fun e he=>(by cases he),rfl⟩
 | e::l,r,h=>by
  rw[kG,sA]at h;obtain⟨q,hq,h⟩:=h
  cases q with
  | true=>
   rw[cond_true]at h
   cases h;have:=zgd hq
   refine .inr ⟨by rw[<- this]at hq;exact hq,[],e.2,l,?_,rfl⟩
   rw[List.nil_append,this]
  | false=>
   rw[cond_false,sA]at h;obtain⟨r',hr,h⟩:=h
   cases h;rcases zbf hr with⟨h1,rfl⟩ | ⟨h0,a,u,b,rfl,rfl⟩
   ·refine .inl ⟨fun x hx=>?_,rfl⟩
    rcases yat.1 hx with rfl | hx
    ·exact hq
    ·exact h1 x hx
   ·exact .inr ⟨h0,e::a,u,b,rfl,rfl⟩
theorem zjr{k v:zA}{l l' r:List (zA × zA)}(h:zba l l')(hs:kG k v l=some r):∃r',kG k v l'=some r'/\zba r r':=by
 rcases h with rfl | ⟨p,d⟩
 ·exact⟨r,hs,.inl rfl⟩
 rcases zbf hs with⟨h1,rfl⟩ | ⟨h0,a,u,b,rfl,rfl⟩
 ·refine⟨_,tZ fun e he=>h1 e (p.mem_iff.2 he),.inr ⟨p.append_right _,?_⟩⟩
  unfold DK;rw[List.pairwise_append];exact⟨d,by simp,fun x hx y hy=>by simp at hy;subst hy;exact nW (h1 x hx)⟩
 ·obtain⟨a',b',rfl⟩:=List.append_of_mem (p.mem_iff.1 (ybg a (.head b)))
  refine⟨_,zc2 h0 (d.perm p).split.1,.inr ⟨?_,?_⟩⟩
  ·have p1:(a++b).Perm (a'++b'):=by
    have q1:(a++(k,u)::b).Perm ((k,u)::(a++b)):=List.perm_middle
    have q2:(a'++(k,u)::b').Perm ((k,u)::(a'++b')):=List.perm_middle
    exact(q1.symm.trans (p.trans q2)).cons_inv
   exact List.perm_middle.trans ((p1.cons _).trans List.perm_middle.symm)
  ·unfold DK at d ⊢
   rw[List.pairwise_append,List.pairwise_cons]at d ⊢
   obtain⟨d1,⟨d2,d3⟩,d4⟩:=d
   refine⟨d1,⟨d2,d3⟩,fun x hx y hy=>?_⟩
   rcases yat.1 hy with rfl | hy
   ·exact d4 x hx (k,u) (.head _)
   ·exact d4 x hx y (.tail _ hy)
end Go.Am
namespace Go.Am
open Go
structure BI where
 b:Nat
 tight:Bool
 es:Nat
 room:Nat
 ro:Bool
structure Mu where
 m:Nat->Option BI
 pd:Nat->Option (rA × Nat × Nat)
instance:CoeFun Mu fun _=>Nat->Option BI:=⟨Mu.m⟩
def Mu.lw(μ ν:Mu):Prop:=∀a i,μ a=some i->ν a=some i
structure Mu.le (μ ν:Mu):Prop where
 f:∀a i,μ a=some i->ν a=some i
 pd:ν.pd=μ.pd
instance {μ ν:Mu}:CoeFun (μ.le ν) fun _=>∀a i,μ a=some i->ν a=some i:=⟨Mu.le.f⟩
instance {μ ν:Mu}:Coe (μ.le ν) (μ.lw ν):=⟨Mu.le.f⟩
theorem Mu.le_refl(μ:Mu):μ.le μ:=⟨fun _ _ h=>h,rfl⟩
theorem Mu.le_trans{a b c:Mu}(h:a.le b)(k:b.le c):a.le c:=⟨fun x i hx=>k.f x i (h.f x i hx),k.pd.trans h.pd⟩
def zt7(μ:Mu):AFn->Fn->Prop
 | .func f,fn=>fn=.func f
 | .yld l,fn=>∃i,μ l=some i/\fn=.yield i.b
mutual
def vA (μ:Mu):zA->Value->Prop
 | .bool b,v=>v=.bool b
 | .int k n,v=>v=.int k n
 | .str l,v=>∃s,v=.string s/\xE s=l
 | .nilptr,v=>v=.pointer none
 | .ptr b off,v=>∃i,μ b=some i/\v=.pointer (some ⟨i.b,off,none⟩)
 | .nilslice,v=>v=.slice none 0 0
 | .slice b off len cap,v=>(∃i cap',μ b=some i/\v=.slice (some ⟨i.b,off,none⟩) len cap'/\cap<=cap'/\(i.tight=true->cap'=cap)/\(i.tight=false->off+cap'*i.es<=i.room))\/(b=0/\len=0/\cap=0/\∃a c,v=.slice (some a) 0 c/\(off=0/\c=0\/off=1))
 | .nilmap,v=>v=.map none
 | .map b,v=>∃i,μ b=some i/\v=.map (some i.b)
 | .func f a c,v=>∃fn a' c',v=.func fn a' c'/\zt7 μ f fn/\yB μ a a'.toList/\yB μ c c'.toList
 | .nilfunc,v=>v=.nilFunc
 | .iface t x,v=>∃x',v=.iface t x'/\vA μ x x'
 | .niliface,v=>v=.nilIface
 | .agg l,v=>∃cs,v=.agg cs/\yB μ l cs.toList
 | .tup l,v=>∃cs,v=.tuple cs/\yB μ l cs.toList
def yB (μ:Mu):List zA->List Value->Prop
 | [],m=>m=[]
 | a::l,m=>∃v r,m=v::r/\vA μ a v/\yB μ l r
end
theorem zt7.mono{μ ν:Mu}(h:μ.lw ν){f:AFn}{g:Fn}(k:zt7 μ f g):zt7 ν f g:=by
 cases f with
 | func f=>exact k
 | yld l=>obtain⟨i,h1,h2⟩:=k;exact⟨i,h _ _ h1,h2⟩
mutual
theorem vA.mono{μ ν:Mu}(h:μ.lw ν):∀(a:zA) (v:Value),vA μ a v->vA ν a v
 | .bool _,_,k=>k
 | .int _ _,_,k=>k
 | .str _,_,k=>k
 | .nilptr,_,k=>k
 | .ptr _ _,_,⟨i,h1,h2⟩=>⟨i,h _ _ h1,h2⟩
 | .nilslice,_,k=>k
 | .slice _ _ _ _,_,.inl ⟨i,c,h1,h2⟩=>.inl ⟨i,c,h _ _ h1,h2⟩
 | .slice _ _ _ _,_,.inr k=>.inr k
 | .nilmap,_,k=>k
 | .map _,_,⟨i,h1,h2⟩=>⟨i,h _ _ h1,h2⟩
 | .func _ a c,_,⟨fn,a',c',h1,h2,h3,h4⟩=>⟨fn,a',c',h1,h2.mono h,yB.mono h a _ h3,yB.mono h c _ h4⟩
 | .nilfunc,_,k=>k
 | .iface _ x,_,⟨x',h1,h2⟩=>⟨x',h1,vA.mono h x _ h2⟩
 | .niliface,_,k=>k
 | .agg l,_,⟨cs,h1,h2⟩=>⟨cs,h1,yB.mono h l _ h2⟩
 | .tup l,_,⟨cs,h1,h2⟩=>⟨cs,h1,yB.mono h l _ h2⟩
theorem yB.mono{μ ν:Mu}(h:μ.lw ν):∀(l:List zA) (m:List Value),yB μ l m->yB ν l m
 | [],_,k=>k
 | a::l,_,⟨v,r,h1,h2,h3⟩=>⟨v,r,h1,vA.mono h a v h2,yB.mono h l r h3⟩
end
theorem yB.length{μ:Mu}{l:List zA}:∀ {m:List Value},yB μ l m->m.length=l.length:=by
 induction l with
 | nil=>intro m h;rw[yB]at h;rw[h];rfl
 | cons a l ih=>intro m h;rw[yB]at h;obtain⟨v,r,rfl,_,h3⟩:=h;simp[ih h3]
theorem yB.get{μ:Mu}{l:List zA}:∀ {m:List Value} {i:Nat} {a:zA},yB μ l m->l[i]?=some a->∃v,m[i]?=some v/\vA μ a v:=by
 induction l with
 | nil=>intro m i a _ h;simp at h
 | cons b l ih=>
  intro m i a h hi;rw[yB]at h;obtain⟨v,r,rfl,h2,h3⟩:=h
  cases i with
  | zero=>simp at hi;subst hi;exact⟨v,by simp,h2⟩
  | succ i=>simp at hi;obtain⟨u,hu,hr⟩:=ih h3 hi;exact⟨u,by simpa using hu,hr⟩
theorem yB.mk{μ:Mu}{l:List zA}:∀ {m:List Value},m.length=l.length->(∀(i:Nat) a v,l[i]?=some a->m[i]?=some v->vA μ a v)->yB μ l m:=by
 induction l with
 | nil=>intro m h _;rw[yB];simpa using h
 | cons a l ih=>
  intro m h k
  cases m with
  | nil=>simp at h
  | cons v r=>
   rw[yB];exact⟨v,r,rfl,k 0 a v (by simp) (by simp),ih (by simpa using h) fun i a v h1 h2=>k (i+1) a v (by simpa using h1) (by simpa using h2)⟩
theorem yB.append{μ:Mu}{l l':List zA}:∀ {m m':List Value},yB μ l m->yB μ l' m'->yB μ (l++l') (m++m'):=by
 induction l with
 | nil=>intro m m' h h';rw[yB]at h;subst h;exact h'
 | cons a l ih=>intro m m' h h';rw[yB]at h;obtain⟨v,r,rfl,h2,h3⟩:=h;rw[List.cons_append,yB];exact⟨v,r++m',rfl,h2,ih h3 h'⟩
theorem yB.drop{μ:Mu}{l:List zA}{m:List Value}(h:yB μ l m)(n:Nat):yB μ (l.drop n) (m.drop n):=by
 refine yB.mk (by simp[h.length]) fun i a v h1 h2=>?_
 rw[ycf]at h1 h2;obtain⟨u,hu,hr⟩:=h.get h1
 rw[hu]at h2;cases h2;exact hr
theorem yB.take{μ:Mu}{l:List zA}{m:List Value}(h:yB μ l m)(n:Nat):yB μ (l.take n) (m.take n):=by
 refine yB.mk (by simp[h.length]) fun i a v h1 h2=>?_
 rw[ycg]at h1 h2;split at h1
 ·rename_i hi
  rw[if_pos hi]at h2;obtain⟨u,hu,hr⟩:=h.get h1
  rw[hu]at h2;cases h2;exact hr
 ·cases h1
theorem yB.nil{μ:Mu}:yB μ [] []:=by rw[yB]
theorem yB.cons{μ:Mu}{a:zA}{l:List zA}{v:Value}{m:List Value}(h:vA μ a v)(k:yB μ l m):yB μ (a::l) (v::m):=by rw[yB];exact⟨v,m,rfl,h,k⟩
theorem yB.single{μ:Mu}{a:zA}{v:Value}(h:vA μ a v):yB μ [a] [v]:=.cons h .nil
theorem zR{v:zA}{b:Bool}:v.asBool=some b ↔ v=.bool b:=by cases v<;>simp[zA.asBool]
theorem za8{v:zA}{n:Int}:v.asInt=some n ↔ ∃k,v=.int k n:=by cases v<;>simp[zA.asInt]
theorem cO{v:zA}{p:IntKind × Int}:v.asIntK=some p ↔ v=.int p.1 p.2:=by cases v<;>simp[zA.asIntK,Prod.ext_iff]
theorem dO{v:zA}{l:List Nat}:v.asStr=some l ↔ v=.str l:=by cases v<;>simp[zA.asStr]
theorem cT{v:zA}{p:Nat × Nat}:v.asPtr=some p ↔ v=.ptr p.1 p.2:=by cases v<;>simp[zA.asPtr,Prod.ext_iff]
theorem qS{v:zA}{p:Nat × Nat × Nat × Nat}:v.asSlice=some p ↔ v=.slice p.1 p.2.1 p.2.2.1 p.2.2.2:=by cases v<;>simp[zA.asSlice,Prod.ext_iff]
theorem aY{v:zA}{b:Nat}:v.asMap=some b ↔ v=.map b:=by cases v<;>simp[zA.asMap]
theorem qV{v:zA}{l:List zA}:v.asAgg=some l ↔ v=.agg l:=by cases v<;>simp[zA.asAgg]
theorem zt1{v:zA}{l:List zA}:v.asTup=some l ↔ v=.tup l:=by cases v<;>simp[zA.asTup]
theorem zen{v:zA}{p:AFn × List zA × List zA}:v.asFunc=some p ↔ v=.func p.1 p.2.1 p.2.2:=by cases v<;>simp[zA.asFunc,Prod.ext_iff]
theorem zbp{v:zA}{p:Nat × zA}:v.asIface=some p ↔ v=.iface p.1 p.2:=by cases v<;>simp[zA.asIface,Prod.ext_iff]
theorem cY{v:zA}{n:Nat}:v.asNat=some n ↔ ∃k,v=.int k (n:Int):=by
 unfold zA.asNat;rw[sA];constructor
 ·rintro⟨a,h1,h2⟩;rw[za8]at h1;obtain⟨k,rfl⟩:=h1;exact⟨k,by rw[rW.1 h2]⟩
 ·rintro⟨k,rfl⟩;exact⟨n,rfl,rfl⟩
theorem sP{v:zA}:(v.tag=3 ↔ v=.nilptr)/\(v.tag=5 ↔ v=.nilslice)/\(v.tag=7 ↔ v=.nilmap)/\(v.tag=10 ↔ v=.nilfunc)/\(v.tag=12 ↔ v=.niliface):=by
 cases v<;>simp[zA.tag]
theorem vA.notAgg{μ:Mu}{a:zA}{v:Value}(h:vA μ a v)(ha:a.asAgg=none):v.cells = #[v]:=by
 cases a<;>rw[vA]at h<;>first
  | (subst h;rfl)
  | (rcases h with⟨_,_,_,rfl,_⟩ | ⟨_,_,_,_,_,rfl,_⟩<;>rfl)
  | (obtain⟨_,rfl,_⟩:=h;rfl)
  | (obtain⟨_,_,rfl⟩:=h;rfl)
  | (obtain⟨_,_,_,rfl,_⟩:=h;rfl)
  | (simp[zA.asAgg]at ha)
theorem vA.one{μ:Mu}{a:zA}{v:Value}(h:vA μ a v)(ha:a.one=true):v.oneCell'=true:=by
 cases a<;>rw[vA]at h<;>first
  | (subst h;rfl)
  | (rcases h with⟨_,_,_,rfl,_⟩ | ⟨_,_,_,_,_,rfl,_⟩<;>rfl)
  | (obtain⟨_,rfl,_⟩:=h;rfl)
  | (obtain⟨_,_,rfl⟩:=h;rfl)
  | (obtain⟨_,_,_,rfl,_⟩:=h;rfl)
  | (revert ha;decide)
  | (have:=dB.1 ha;simp[zA.tag]at this)
theorem zan{μ:Mu}{a:zA}{v:Value}(h:vA μ a v):yB μ a.cells v.cells.toList:=by
 unfold zA.cells
 cases ha:a.asAgg with
 | none=>rw[h.notAgg ha];exact yB.single h
 | some l=>rw[qV.1 ha,vA]at h;obtain⟨cs,rfl,h⟩:=h;exact h
def gK(P:Program)(t:Nat):qD:=
 match P.underlying t with
 | some .bool=>.bool
 | some (.int k)=>.int k
 | some .string=>.string
 | some (.pointer e)=>.ptr e
 | some (.slice e)=>.slice e
 | some (.array n e)=>.arr n e
 | some (.map k e)=>.map k e
 | some (.struct fs)=>.struct (fs.toList.map fun f=>(f.offset,f.type,P.cellsOf f.type))
 | some (.func ..)=>.func
 | some (.interface _)=>.iface
 | _=>.other
def zq0:Value->Bool
 | .agg _=>true
 | _=>false
def z1q(P:Program)(t:Nat):Bool:=(P.fieldsOf t).toList.all fun f=>(P.info? f.type).isSome
def tyOf (P:Program)(t:Nat):Option uC:=
 match P.info? t with
 | some i=>match i.zero with
  | some z=>ob (qF wT z.cells.toList) fun l=>iA (bEq (zq0 z) (gK P t).isAgg&&(P.underlying t).isSome&&z1q P t)
    (some ⟨gK P t, i.size, i.bytes, l, !P.stoodInHeld t && !P.eqGuardType P.depth t && (P.fieldsOf t).toList.all (fun f => f.name != "_")⟩)
  | none=>none
 | none=>none
def tE(P:Program)(C:pA):Prop:=∀t ty,C.tys.get t=some ty->tyOf P t=some ty
theorem fY{a b:ByteArray}(h:xE a=xE b):a=b:=by
 have h1:a.data.toList=b.data.toList:=by
  unfold xE at h;exact(List.map_inj_right (fun x y hxy=>UInt8.toNat_inj.1 hxy)).1 h
 have h2:a.data=b.data:=Array.toList_inj.1 h1
 cases a;cases b;simpa using h2
theorem zbh{μ:Mu}{v:Value}{a:zA}(h:wT v=some a):vA μ a v/\a.one=true:=by
 unfold wT at h;split at h<;>cases h<;>refine⟨?_,rfl⟩<;>rw[vA]
 exact⟨_,rfl,rfl⟩
theorem zaf{μ:Mu}{m:List Value}:∀ {l:List zA},qF wT m=some l->yB μ l m:=by
 induction m with
 | nil=>intro l h;rw[tT]at h;cases h;exact yB.nil
 | cons v m ih=>
  intro l h;rw[wK,sA]at h;obtain⟨a,ha,h⟩:=h
  rw[sA]at h;obtain⟨r,hr,h⟩:=h
  cases h;exact .cons (zbh ha).1 (ih hr)
theorem znj{μ:Mu}{v:Value}{a:zA}(h:znk v=some a):vA μ a v:=by
 unfold znk at h;split at h
 ·rename_i cs hc
  rw[sA]at h;obtain⟨l,hl,h⟩:=h
  cases h
  cases v<;>simp[z6s]at hc
  subst hc;rw[vA];exact⟨_,rfl,zaf hl⟩
 ·exact(zbh h).1
structure cI (P:Program) (t:Nat) (ty:uC):Prop where
 info:∃i,P.info? t=some i/\i.size=ty.size/\i.bytes=ty.bytes/\∃z,i.zero=some z/\qF wT z.cells.toList=some ty.zero/\zq0 z=ty.desc.isAgg
 desc:gK P t=ty.desc
 und:∃d,P.underlying t=some d
 fields:∀f∈(P.fieldsOf t).toList,∃i,P.info? f.type=some i
 eqOk : ty.eqOk = true -> P.stoodInHeld t = false /\ P.eqGuardType P.depth t = false /\ ∀ f ∈ (P.fieldsOf t).toList, f.name ≠ "_"
theorem zr7{P:Program}{t:Nat}{ty:uC}(h:tyOf P t=some ty):cI P t ty:=by
 unfold tyOf at h;split at h
 ·rename_i i hi
  split at h
  ·rename_i z hz
   rw[sA]at h;obtain⟨l,hl,h⟩:=h
   rw[xB]at h;obtain⟨hb,h⟩:=h
   cases h;rw[yac,yac]at hb;refine⟨⟨i,hi,rfl,rfl,z,hz,hl,?_⟩,rfl,Option.isSome_iff_exists.1 hb.1.2,fun f hf=>Option.isSome_iff_exists.1 (ybc.1 hb.2 f hf),fun h=>?_⟩
   ·have:=hb.1.1;rw[aQ]at this;simpa using this
   ·simp only[yac,ybq,ybc,bne_iff_ne]at h;exact⟨h.1.1,h.1.2,h.2⟩
  ·cases h
 ·cases h
theorem tE.facts{P:Program}{C:pA}(h:tE P C){t:Nat}{ty:uC}(k:C.tys.get t=some ty):cI P t ty:=zr7 (h t ty k)
section
variable {P:Program}{w:World}{t:Nat}{ty:uC}
theorem yT{i:TypeInfo}(h:P.info? t=some i):(typeInfo t).run P w=.ok i w:=by
 simp[typeInfo,h]
theorem vE{d:TypeDesc}(h:P.underlying t=some d):(underlying t).run P w=.ok d w:=by
 simp[underlying,h]
theorem cI.size(h:cI P t ty):(sizeOf t).run P w=.ok ty.size w:=by
 obtain⟨i,h1,h2,_⟩:=h.info
 simp[sizeOf,yT h1,h2]
theorem cI.zero(h:cI P t ty){μ:Mu}:∃z,(∀w,(zeroValue t).run P w=.ok z w)/\vA μ (sN ty) z/\yB μ ty.zero z.cells.toList:=by
 obtain⟨i,h1,_,_,z,h2,h3,h4⟩:=h.info
 have hl:yB μ ty.zero z.cells.toList:=zaf h3
 refine⟨z,fun w=>by simp[zeroValue,yT h1,h2],?_,hl⟩
 unfold sN
 cases hd:ty.desc.isAgg with
 | true=>
  rw[hd]at h4
  cases z<;>simp[zq0]at h4
  show vA μ (.agg ty.zero) _
  rw[vA];exact⟨_,rfl,hl⟩
 | false=>
  rw[hd]at h4;have hc:z.cells = #[z]:=by cases z<;>first | rfl | simp[zq0]at h4
  rw[hc]at hl
  cases hz:ty.zero with
  | nil=>rw[hz,yB]at hl;simp at hl
  | cons a l=>rw[hz,yB]at hl;obtain⟨v,r,hv,hr,_⟩:=hl;simp at hv;rw[<- hv.1]at hr;exact hr
theorem cI.isAgg(h:cI P t ty):(Go.isAgg t).run P w=.ok ty.desc.isAgg w:=by
 obtain⟨d,hd⟩:=h.und
 have h0:=h.desc
 unfold gK at h0;rw[hd]at h0;unfold Go.isAgg;rw[Sem.run_bind,vE hd,Result.andThen_ok,<- h0]
 cases d<;>rfl
theorem mT(h:cI P t ty){fs:List (Nat × Nat × Nat)}(k:ty.desc.asStruct=some fs):∃g,P.underlying t=some (.struct g)/\fs=g.toList.map fun f=>(f.offset,f.type,P.cellsOf f.type):=by
 obtain⟨d,hd⟩:=h.und
 have h0:=h.desc
 unfold gK at h0;rw[hd]at h0;rw[<- h0]at k
 cases d<;>simp[qD.asStruct]at k
 exact⟨_,hd,k.symm⟩
theorem vN(h:cI P t ty){e:Nat}(k:ty.desc.asSlice=some e):P.underlying t=some (.slice e):=by
 obtain⟨d,hd⟩:=h.und
 have h0:=h.desc
 unfold gK at h0;rw[hd]at h0;rw[<- h0]at k
 cases d<;>simp[qD.asSlice]at k
 rw[hd,k]
theorem zcc(h:cI P t ty){p:Nat × Nat}(k:ty.desc.asArr=some p):P.underlying t=some (.array p.1 p.2):=by
 obtain⟨d,hd⟩:=h.und
 have h0:=h.desc
 unfold gK at h0;rw[hd]at h0;rw[<- h0]at k
 cases d<;>simp[qD.asArr]at k
 rw[hd,<- k]
theorem zrh(h:cI P t ty){p:Nat × Nat}(k:ty.desc.asMap=some p):P.underlying t=some (.map p.1 p.2):=by
 obtain⟨d,hd⟩:=h.und
 have h0:=h.desc
 unfold gK at h0;rw[hd]at h0;rw[<- h0]at k
 cases d<;>simp[qD.asMap]at k
 rw[hd,<- k]
theorem ziq(h:cI P t ty){k:IntKind}(e:ty.desc.asInt=some k):P.underlying t=some (.int k):=by
 obtain⟨d,hd⟩:=h.und
 have h0:=h.desc
 unfold gK at h0;rw[hd]at h0;rw[<- h0]at e
 cases d<;>simp[qD.asInt]at e
 rw[hd,e]
theorem lY(h:cI P t ty)(e:ty.desc.isString=true):P.underlying t=some .string:=by
 obtain⟨d,hd⟩:=h.und
 have h0:=h.desc
 unfold gK at h0;rw[hd]at h0;rw[<- h0]at e
 cases d<;>simp[qD.isString,qD.tag,Nat.beq]at e
 exact hd
theorem zam(h:cI P t ty)(e:Nat.blt ty.desc.tag 9=true):∃d,P.underlying t=some d/\∀ms,d≠.interface ms:=by
 obtain⟨d,hd⟩:=h.und
 refine⟨d,hd,fun ms hm=>?_⟩
 subst hm;have h0:=h.desc
 unfold gK at h0;rw[hd]at h0;rw[<- h0]at e;exact absurd (dB.1 e) (by simp[qD.tag])
end
structure tR (μ:Mu) (d:gH) (e:Deferred):Prop where
 rel:match d.fn with
  | none=>∃i,μ d.r=some i/\e={ target:=.collected i.b,args := #[] }
  | some f=>∃fn cap as,e={ target:=.fn fn cap,args:=as }/\zt7 μ f fn/\yB μ d.args (as++cap).toList
def gD(μ:Mu)(n:Nat)(tm:Tm)(tmps:Array Value):Prop:=tmps.size=n/\∀i v,tm.get i=some v->vA μ v (tmps.getD i undef)
structure zew (μ:Mu) (l:qL) (r:Loop):Prop where
 state:r.state=l.state
 pending:r.pending=l.pending
 fn:r.fn=l.fn
 tm:gD μ l.n l.tm r.tmps
 params:r.params.toList=l.params
 assign:r.assign=l.assign
 body:r.body=l.body
 defers:∃i,μ l.defers=some i/\r.defers=i.b
inductive sC {α β:Type} (R:α->β->Prop):List α->List β->Prop
 | nil:sC R [] []
 | cons {a b l m}:R a b->sC R l m->sC R (a::l) (b::m)
def zH (μ:Mu)(i:BI):rA->Obj->Prop
 | .cells c n loose,o=>∃cs elem fr,o=.cells cs elem fr/\n<=cs.size/\(i.ro=true\/fr.2<=fr.1\/cs.size<=fr.1)/\(∀(j:Nat) v,c.get j=some v->j<n/\∃v',cs[j]?=some v'/\vA μ v v') ∧
   (match loose with | none=>i.tight=true | some lo=>i.tight=false/\i.es=lo.es/\i.room=cs.size/\∀t,lo=.ty t->elem=t)
 | .map l,o=>∃es clock l',o=.map es clock/\zba l l'/\sC (fun p e=>vA μ p.1 e.key/\vA μ p.2 e.val) l' es.toList
 | .loop l,o=>∃r,o=.loop r/\zew μ l r
 | .deferred l,o=>∃l',o=.deferred l'/\(match l,l' with | none,none=>True | some a,some b=>sC (tR μ) a b | _,_=>False)
 | .siter s pos,o=>∃s',o=.stringIter s' pos/\xE s'=s
structure aA (B N:Nat) (μ:Mu) (H:xA) (w:World):Prop where
 base:256<=B
 glob:∀g,g<256->μ g=some ⟨g,true,0,0,true⟩
 low:∀a x i,a<B->H.t.get a=some x->μ a=some i->i.b<N/\x.asLoop=none/\x.asDeferred=none
 next:B<=H.next
 size:N<=w.heap.size
 fresh:∀a,H.next<=a->μ a=none/\H.t.get a=none
 blk:∀a x i,H.t.get a=some x->μ a=some i->∃o,w.heap[i.b]?=some o/\zH μ i x o
 own:∀a i,B<=a->μ a=some i->N<=i.b/\i.b<w.heap.size/\i.ro=false
 inj:∀a b x y i j,H.t.get a=some x->H.t.get b=some y->μ a=some i->μ b=some j->B<=a->B<=b->i.b=j.b->a=b
 pnd:∀a x t,μ.pd a=some (x,t)->μ a=none/\H.t.get a=some x/\B<=a
end Go.Am
namespace Go.Am
open Go
def oE (μ:Mu)(e:pC)(ρ:Operand->Value):Prop:=∀x v,ev x e=some v->vA μ v (ρ x)
theorem oE.many{μ:Mu}{e:pC}{ρ:Operand->Value}(h:oE μ e ρ):∀ {l:List Operand} {r:List zA},evs l e=some r->yB μ r (l.map ρ):=by
 intro l;induction l with
 | nil=>intro r k;unfold evs at k;rw[tT]at k;cases k;exact .nil
 | cons x l ih=>
  intro r k;unfold evs at k;rw[wK,sA]at k;obtain⟨a,ha,k⟩:=k
  rw[sA]at k;obtain⟨b,hb,k⟩:=k
  cases k
  exact .cons (h _ _ ha) (ih hb)
theorem oE.parts{μ:Mu}{e:pC}{ρ:Operand->Value}(h:oE μ e ρ):∀ {l:List (Nat × Operand)} {r:List (Nat × zA)},evp l e=some r →
  sC (fun p q=>p.1=q.1/\vA μ p.2 q.2) r (l.map fun x=>(x.1,ρ x.2)):=by
 intro l;induction l with
 | nil=>intro r k;unfold evp at k;rw[tT]at k;cases k;exact .nil
 | cons x l ih=>
  intro r k;unfold evp at k;rw[wK,sA]at k;obtain⟨a,ha,k⟩:=k
  rw[sA]at ha;obtain⟨a',ha,ha'⟩:=ha
  cases ha'
  rw[sA]at k;obtain⟨b,hb,k⟩:=k
  cases k
  exact .cons ⟨rfl,h _ _ ha⟩ (ih hb)
def z0x(μ:Mu):Option zA->Option Value->Prop
 | none,none=>True
 | some a,some v=>vA μ a v
 | _,_=>False
theorem oE.opt{μ:Mu}{e:pC}{ρ:Operand->Value}(h:oE μ e ρ){x:Option Operand}{r:Option zA}(k:evo x e=some r):z0x μ r (x.map ρ):=by
 cases x with
 | none=>cases k;trivial
 | some x=>unfold evo at k;simp only[]at k;rw[sA]at k;obtain⟨a,ha,k⟩:=k;cases k;exact h _ _ ha
theorem xQ(b off n:Nat):Addr.add ⟨b,off,none⟩ n=⟨b,off+n,none⟩:=by
 unfold Addr.add;split
 ·rename_i h;subst h;rfl
 ·rfl
section
variable {P:Program}{C:pA}{B N:Nat}{μ:Mu}{H:xA}{w:World}
theorem sS{b:Nat}{p:Tr zA × Nat × Option Lo}(h:uD H b=some p):H.t.get b=some (.cells p.1 p.2.1 p.2.2):=by
 unfold uD at h;rw[sA]at h;obtain⟨x,hx,h⟩:=h
 cases x<;>simp[rA.asCells]at h
 subst h;exact hx
theorem aA.cellAt(hH:aA B N μ H w){b:Nat}{p:Tr zA × Nat × Option Lo}(h:uD H b=some p){i:BI}(hi:μ b=some i){j:Nat}{v:zA}(hv:p.1.get j=some v) :
  ∃v',w.cell? ⟨i.b,j,none⟩=some v'/\vA μ v v':=by
 obtain⟨o,h2,h3⟩:=hH.blk _ _ _ (sS h) hi
 obtain⟨cs,elem,fr,rfl,_,_,h4,_⟩:=h3
 obtain⟨_,v',h6,h7⟩:=h4 j v hv
 exact⟨v',by simp[World.cell?,h2,h6],h7⟩
theorem aA.manyAt(hH:aA B N μ H w){b:Nat}{p:Tr zA × Nat × Option Lo}(h:uD H b=some p){i:BI}(hi:μ b=some i){n off:Nat}{l:List zA}(hl:p.1.many n off=some l) :
  ∃vs:List Value,vs.length=n/\yB μ l vs/\(loadCells ⟨i.b,off,none⟩ n).run P w=.ok vs.toArray w/\∀j,j<n->w.cell? ⟨i.b,off+j,none⟩=vs[j]?:=by
 obtain⟨h1,h2⟩:=Tr.many_some _ _ _ _ hl
 have key:∀j,j<n->∃v',w.cell? ⟨i.b,off+j,none⟩=some v'/\∃a,l[j]?=some a/\vA μ a v':=by
  intro j hj;have h3:=h2 j hj
  cases hlj:l[j]? with
  | none=>rw[List.getElem?_eq_none_iff]at hlj;omega
  | some a=>
   rw[hlj]at h3;obtain⟨v',h4,h5⟩:=hH.cellAt h hi h3
   exact⟨v',h4,a,rfl,h5⟩
 let f:Nat->Value:=fun j=>(w.cell? ⟨i.b,off+j,none⟩).getD undef
 have hf:∀j,j<n->w.cell? ⟨i.b,off+j,none⟩=some (f j):=by
  intro j hj;obtain⟨v',h3,_⟩:=key j hj
  simp[f,h3]
 refine⟨(List.range n).map f,by simp,?_,?_,?_⟩
 ·refine yB.mk (by simp[h1]) fun j a v ha hv=>?_
  have hj:j<n:=by rw[<- h1];exact(yad.1 ha).1
  obtain⟨v',h3,a',h4,h5⟩:=key j hj
  rw[ha]at h4;cases h4;rw[yav,List.getElem?_range hj]at hv;have h6:=hf j hj
  rw[h3]at h6;cases h6;simp at hv;rw[<- hv];exact h5
 ·exact run_loadCells w _ n f fun j hj=>by rw[xQ];exact hf j hj
 ·intro j hj;rw[hf j hj,yav,List.getElem?_range hj];rfl
theorem zql(hH:aA B N μ H w){t:Nat}{ty:uC}(hty:cI P t ty){b:Nat}{p:Tr zA × Nat × Option Lo}(h:uD H b=some p){i:BI}(hi:μ b=some i){off:Nat}{v:zA}
  (hv:fM ty p.1 off=some v):∃v',(loadVar t ⟨i.b,off,none⟩).run P w=.ok v' w/\vA μ v v':=by
 unfold fM at hv;unfold loadVar;rw[Sem.run_bind,hty.isAgg,Result.andThen_ok]
 cases ha:ty.desc.isAgg with
 | true=>
  rw[ha,cond_true,sA]at hv;obtain⟨l,hl,hv⟩:=hv
  cases hv;obtain⟨vs,_,h2,h3,_⟩:=hH.manyAt (P:=P) h hi hl
  refine⟨.agg vs.toArray,?_,by rw[vA];exact⟨_,rfl,h2⟩⟩
  rw[if_pos rfl,Sem.run_bind,hty.size,Result.andThen_ok,Sem.run_bind,h3];rfl
 | false=>
  rw[ha,cond_false]at hv;obtain⟨v',h1,h2⟩:=hH.cellAt h hi hv
  refine⟨v',?_,h2⟩
  rw[if_neg (by simp),run_load,h1]
theorem uW(hT:tE P C){t:Nat}{l:List zA}{cs:Array Value}(hl:yB μ l cs.toList){off:Nat}{v:zA}(hv:aK C t l off=some v) :
  ∃v',(part t cs off).run P w=.ok v' w/\vA μ v v':=by
 unfold aK at hv;rw[sA]at hv;obtain⟨ty,hty,hv⟩:=hv
 have hF:=hT.facts hty
 unfold part;rw[Sem.run_bind,hF.isAgg,Result.andThen_ok]
 cases ha:ty.desc.isAgg with
 | true=>
  rw[ha,cond_true]at hv
  cases hv;refine⟨.agg (cs.extract off (off+ty.size)),?_,?_⟩
  ·rw[if_pos rfl,Sem.run_bind,hF.size];rfl
  ·rw[vA];refine⟨_,rfl,?_⟩
   rw[iM,jN,Array.toList_extract,List.extract_eq_take_drop,Nat.add_sub_cancel_left];exact(hl.drop _).take _
 | false=>
  rw[ha,cond_false,pF]at hv;obtain⟨v',h1,h2⟩:=hl.get hv
  refine⟨v',?_,h2⟩
  rw[if_neg (by simp)]
  have:cs[off]?=some v':=by simpa using h1
  rw[this];rfl
def LOk (P:Program)(μ:Mu)(w:World)(ρ:Operand->Value)(o:Oper)(v:zA):Prop:=∃v',(execOp ρ o).run P w=.ok (.value v') w/\vA μ v v'
variable {e:pC}{ρ:Operand->Value}{dst:Option Tmp}{type:TypeId}{pos:String}{after:Array Edge}{guard:Option (Nat × Bool)}{v:zA}
theorem zqs(hE:oE μ e ρ){x:Operand}(h:sO x C e H=some v):LOk P μ w ρ ⟨dst,.move x,type,pos,after,guard⟩ v:=⟨ρ x,rfl,hE x v h⟩
theorem zga(hE:oE μ e ρ){x:Operand}(h:sO x C e H=some v):LOk P μ w ρ ⟨dst,.assign x,type,pos,after,guard⟩ v:=⟨ρ x,rfl,hE x v h⟩
theorem zqr(hE:oE μ e ρ){c a b:Operand}(h:zx2 c a b C e H=some v):LOk P μ w ρ ⟨dst,.pick c a b,type,pos,after,guard⟩ v:=by
 unfold zx2 at h;rw[sA]at h;obtain⟨cv,hc,h⟩:=h
 rw[sA]at h;obtain⟨cb,hb,h⟩:=h
 have h1:=hE _ _ hc
 rw[zR.1 hb,vA]at h1;unfold LOk execOp;simp only[h1,asBool]
 cases cb with
 | true=>exact⟨ρ a,rfl,hE _ _ h⟩
 | false=>exact⟨ρ b,rfl,hE _ _ h⟩
theorem zqt(hT:tE P C)(hH:aA B N μ H w)(hE:oE μ e ρ){t:Nat}{a:Operand}(h:qO t a C e H=some v):LOk P μ w ρ ⟨dst,.load t a,type,pos,after,guard⟩ v:=by
 unfold qO at h;simp only[sA,cT]at h;obtain⟨av,ha,p,rfl,ty,hty,c,hc,h⟩:=h
 have h1:=hE _ _ ha
 rw[vA]at h1;obtain⟨i,hi,hv⟩:=h1
 obtain⟨v',h2,h3⟩:=zql (P:=P) hH (hT.facts hty) hc hi h
 refine⟨v',?_,h3⟩
 simp only[execOp,Instr.loadAt,hv,Instr.sureAddr,Sem.run_bind,Sem.run_pure,Result.andThen_ok,h2]
theorem zx3(hE:oE μ e ρ){x:Operand}(h:z28 x C e H=some v):LOk P μ w ρ ⟨dst,.nilCheck x,type,pos,after,guard⟩ v:=by
 unfold z28 at h;rw[sA]at h;obtain⟨a,ha,h⟩:=h
 rw[xB]at h;obtain⟨hb,h⟩:=h
 cases h;have h1:=hE _ _ ha
 refine⟨ρ x,?_,h1⟩
 cases v<;>simp[zA.tag,Nat.beq]at hb
 ·rw[vA]at h1
  obtain⟨i,_,hv⟩:=h1
  simp only[execOp,hv];rfl
 ·rename_i fn a b
  rw[vA]at h1;obtain⟨fn',a',c',hv,hf,_⟩:=h1
  cases fn with
  | func f=>cases hf;simp only[execOp,hv];rfl
  | yld l=>obtain⟨i,_,rfl⟩:=hf;simp only[execOp,hv];rfl
theorem zqu(hE:oE μ e ρ){fn:Fn}{a b:Array Operand}(h:(fR fn a b).f C e H=some v):LOk P μ w ρ ⟨dst,.makeFunc fn a b,type,pos,after,guard⟩ v:=by
 unfold fR at h;split at h
 ·rename_i f
  simp only[zyb,sA]at h;obtain⟨as,ha,bs,hb,h⟩:=h
  cases h;refine⟨.func (.func f) (a.map ρ) (b.map ρ),rfl,?_⟩
  rw[vA];exact⟨_,_,_,rfl,rfl,by simpa using hE.many ha,by simpa using hE.many hb⟩
 ·cases h
theorem zkq(hT:tE P C)(hE:oE μ e ρ){t:Nat}{x:Operand}(h:iR t x C e H=some v):LOk P μ w ρ ⟨dst,.makeInterface t x,type,pos,after,guard⟩ v:=by
 unfold iR at h;simp only[sA,xB]at h;obtain⟨ty,hty,hb,a,ha,h⟩:=h
 cases h;obtain⟨d,hd,hn⟩:=zam (hT.facts hty) hb
 refine⟨.iface t (ρ x),?_,by rw[vA];exact⟨_,rfl,hE _ _ ha⟩⟩
 simp only[execOp,Instr.makeInterface,Sem.run_bind,vE hd,Result.andThen_ok]
 cases d<;>first | rfl | exact absurd rfl (hn _)
theorem zdp(hE:oE μ e ρ){t:Operand}{i:Nat}(h:mO t i C e H=some v):LOk P μ w ρ ⟨dst,.extract t i,type,pos,after,guard⟩ v:=by
 unfold mO at h;simp only[sA,zt1,pF]at h;obtain⟨a,ha,l,rfl,h⟩:=h
 have h1:=hE _ _ ha
 rw[vA]at h1;obtain⟨cs,hv,hl⟩:=h1
 obtain⟨v',h2,h3⟩:=hl.get h
 refine⟨v',?_,h3⟩
 have h4:cs[i]?=some v':=by simpa using h2
 simp only[execOp,hv,Instr.extract,h4];rfl
theorem zkr(hT:tE P C)(hE:oE μ e ρ){t:Nat}{x:Operand}{f:Nat}(h:eR t x f C e H=some v):LOk P μ w ρ ⟨dst,.field t x f,type,pos,after,guard⟩ v:=by
 unfold eR at h;simp only[sA,qV,pF]at h;obtain⟨ty,hty,fs,hfs,fd,hfd,a,ha,l,rfl,h⟩:=h
 obtain⟨g,hg,rfl⟩:=mT (hT.facts hty) hfs
 have h1:=hE _ _ ha
 rw[vA]at h1;obtain⟨cs,hv,hl⟩:=h1
 rw[yav]at hfd
 cases hgf:g.toList[f]? with
 | none=>rw[hgf]at hfd;cases hfd
 | some fld=>
  rw[hgf]at hfd;simp at hfd;subst hfd;obtain⟨v',h2,h3⟩:=uW (w:=w) hT hl h
  refine⟨v',?_,h3⟩
  have h4:g[f]?=some fld:=by simpa using hgf
  simp only[execOp,hv,Instr.field,Sem.run_bind,vE hg,Result.andThen_ok,h4,asAgg,Sem.run_pure,h2]
theorem zai(hT:tE P C)(hE:oE μ e ρ){s:Nat}{x:Operand}{f:Nat}(h:nO s x f C e H=some v):LOk P μ w ρ ⟨dst,.fieldAddr s x f,type,pos,after,guard⟩ v:=by
 unfold nO at h;simp only[sA,cT,pF,xB]at h;obtain⟨ty,hty,fs,hfs,fd,hfd,hz,a,ha,p,rfl,h⟩:=h
 cases h;obtain⟨g,hg,rfl⟩:=mT (hT.facts hty) hfs
 have h1:=hE _ _ ha
 rw[vA]at h1;obtain⟨i,hi,hv⟩:=h1
 rw[yav]at hfd
 cases hgf:g.toList[f]? with
 | none=>rw[hgf]at hfd;cases hfd
 | some fld=>
  rw[hgf]at hfd;simp at hfd;subst hfd;refine⟨.pointer (some ⟨i.b,p.2+fld.offset,none⟩),?_,by rw[vA];exact⟨i,hi,rfl⟩⟩
  have h4:g[f]?=some fld:=by simpa using hgf
  have h5:P.cellsOf fld.type≠0:=by
   have h6:Nat.beq (P.cellsOf fld.type) 0=false:=by simpa using hz
   exact beqf.1 h6
  have h6:(sizeOf fld.type).run P w=.ok (P.cellsOf fld.type) w:=by
   unfold Program.cellsOf at h5 ⊢
   cases hinf:P.info? fld.type with
   | none=>rw[hinf]at h5;exact absurd rfl h5
   | some inf=>simp[sizeOf,yT hinf]
  simp only[execOp,hv,Instr.fieldAt,Sem.run_bind,vE hg,Result.andThen_ok,h4,Instr.sureAddr,Sem.run_pure,fieldPlace,h6,Sem.run_ite,if_neg h5,xQ]
end
end Go.Am
