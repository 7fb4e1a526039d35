/- -/
import Derived.Below
import Derived.Calls
import Derived.Laws.Cells
import Derived.Laws.Sem
import Derived.Laws.StructEq
import Derived.Laws.World
set_option linter.all false
noncomputable section
namespace Go.Am
def yaa := @if_neg
def yab := @if_pos
def yac := @Result.andThen_ok
def yad := @Sem.run_bind
def yae := @Sem.run_pure
def yaf := @List.mem_append
def yag := @Nat.pow_succ
def yah := @List.nil_append
def yai := @Option.bind_some
def yaj := @Array.getElem?_append_left
def yak := @List.drop_eq_nil_iff
def yal := @Bool.or_eq_false_iff
def yam := @Nat.lt_of_le_of_lt
def yan := @Nat.le_mul_of_pos_left
def yao := @Nat.pow_le_pow_right
def yap := @Nat.add_comm
def yaq := @List.mem_map
def yar := @Option.map_eq_some_iff
def yas := @List.flatten_cons
def yat := @Nat.mul_zero
def yau := @Nat.lt_or_ge
def yav := @Nat.eq_zero_or_pos
def yaw := @Nat.zero_le
def yax := @Array.toList_inj
def yay := @Bool.and_false
def yaz := @List.getElem?_cons_zero
def yba := @List.getElem?_cons_succ
def ybb := @Bool.and_eq_true
def ybc := @List.getElem?_eq_some_iff
def ybd := @List.getElem?_eq_getElem
def ybe := @Array.getElem?_eq_some_iff
def ybf := @List.length_map
def ybg := @List.length_append
def ybh := @Nat.mul_comm
def ybi := @Nat.mul_le_mul_right
def ybj := @Nat.mul_assoc
def ybk := @Nat.le_refl
def ybl := @List.drop_eq_getElem_cons
def ybm := @Nat.mul_add
def ybn := @List.length_cons
def ybo := @Nat.add_mul
def ybp := @List.getElem?_append_right
def ybq := @Bool.false_eq_true
def ybr := @List.mem_cons_of_mem
def ybs := @List.mem_cons
def ybt := @List.drop_eq_nil_of_le
def ybu := @List.getElem?_map
def ybv := @Nat.mul_le_mul_left
def ybw := @Nat.zero_add
def ybx := @List.length_nil
def yby := @List.mem_cons_self
def ybz := @List.append_assoc
def yca := @List.take_of_length_le
def ycb := @List.all_eq_true
def ycc := @List.length_eq_zero_iff
def ycd := @List.append_nil
def yce := @Nat.dvd_mul_left_of_dvd
def ycf := @List.mem_append_right
def ycg := @List.all_cons
def ych := @Nat.div_add_mod
def yci := @Option.some.inj
def ycj := @List.getElem_mem
def yck := @List.all_nil
def ycl := @Bool.not_false
def ycm := @List.map_cons
def ycn := @Bool.true_and
def yco := @List.getElem?_append_left
def ycp := @Bool.not_eq_true'
def ycq := @Bool.or_eq_true
def ycr := @List.drop_zero
def ycs := @Array.getElem?_setIfInBounds
def yct := @Nat.add_zero
def ycu := @Nat.div_lt_of_lt_mul
def ycv := @List.mem_of_getElem?
def ycw := @List.getElem?_set
def ycx := @Array.getD_eq_getD_getElem?
def ycy := @Nat.mod_lt
def ycz := @Array.length_toList
def yda := @List.length_take
def ydb := @Nat.mul_le_mul
def ydc := @List.mem_append_left
def ydd := @List.mem_singleton
def yde := @List.getElem?_drop
def ydf := @List.getElem?_take
def ydg := @List.take_add_one
def ydh := @List.length_set
def ydi := @List.all_append
def ydj := @List.length_drop
end Go.Am
namespace Go.Am
inductive Tr (α:Type) where
 | leaf
 | node (l:Tr α) (v:Option α) (r:Tr α)
def ob {α β:Type}(x:Option α)(f:α->Option β):Option β:=Option.rec (motive:=fun _=>Option β) none f x
namespace Tr
variable {α:Type}
def get (t:Tr α):Nat->Option α:=
 Tr.rec (motive:=fun _=>Nat->Option α) (fun _=>none)
  (fun _ v _ gl gr n=>Bool.rec (motive:=fun _=>Option α) (Bool.rec (motive:=fun _=>Option α) (gr (Nat.pred (Nat.div n (nat_lit 2)))) (gl (Nat.div n (nat_lit 2))) (Nat.beq (Nat.mod n (nat_lit 2)) (nat_lit 1))) v (Nat.beq n (nat_lit 0))) t
def mk (f:Nat):Nat->α->Tr α:=
 Nat.rec (motive:=fun _=>Nat->α->Tr α) (fun _ _=>leaf)
  (fun _ g n v=>Bool.rec (motive:=fun _=>Tr α) (Bool.rec (motive:=fun _=>Tr α) (node leaf none (g (Nat.pred (Nat.div n (nat_lit 2))) v)) (node (g (Nat.div n (nat_lit 2)) v) none leaf) (Nat.beq (Nat.mod n (nat_lit 2)) (nat_lit 1))) (node leaf (some v) leaf) (Nat.beq n (nat_lit 0))) f
def set (t:Tr α):Nat->α->Tr α:=
 Tr.rec (motive:=fun _=>Nat->α->Tr α) (fun n v=>mk (Nat.succ n) n v)
  (fun l x r gl gr n v=>Bool.rec (motive:=fun _=>Tr α) (Bool.rec (motive:=fun _=>Tr α) (node l x (gr (Nat.pred (Nat.div n (nat_lit 2))) v)) (node (gl (Nat.div n (nat_lit 2)) v) x r) (Nat.beq (Nat.mod n (nat_lit 2)) (nat_lit 1))) (node l (some v) r) (Nat.beq n (nat_lit 0))) t
def del (t:Tr α):Nat->Tr α:=
 Tr.rec (motive:=fun _=>Nat->Tr α) (fun _=>leaf)
  (fun l x r gl gr n=>Bool.rec (motive:=fun _=>Tr α) (Bool.rec (motive:=fun _=>Tr α) (node l x (gr (Nat.pred (Nat.div n (nat_lit 2))))) (node (gl (Nat.div n (nat_lit 2))) x r) (Nat.beq (Nat.mod n (nat_lit 2)) (nat_lit 1))) (node l none r) (Nat.beq n (nat_lit 0))) t
def many (t:Tr α)(n:Nat):Nat->Option (List α):=
 Nat.rec (motive:=fun _=>Nat->Option (List α)) (fun _=>some [])
  (fun _ g i=>ob (t.get i) fun v=>ob (g (i+1)) fun l=>some (v::l)) n
def setMany(l:List α):Tr α->Nat->Tr α:=
 List.rec (motive:=fun _=>Tr α->Nat->Tr α) (fun t _=>t) (fun v _ g t i=>g (t.set i v) (i+1)) l
def ofList(l:List α):Tr α:=setMany l leaf 0
end Tr
def lC {α:Type}(l:List α):Nat->Option α:=
 List.rec (motive:=fun _=>Nat->Option α) (fun _=>none) (fun a _ g n=>Bool.rec (motive:=fun _=>Option α) (g (Nat.pred n)) (some a) (Nat.beq n (nat_lit 0))) l
def nL{α:Type}(l:List α):Nat->List α:=
 List.rec (motive:=fun _=>Nat->List α) (fun _=>[]) (fun a l g n=>bif Nat.beq n 0 then a::l else g (n-1)) l
def zes{α:Type}(l:List α):Nat->List α:=
 List.rec (motive:=fun _=>Nat->List α) (fun _=>[]) (fun a _ g n=>bif Nat.beq n 0 then []else a::g (n-1)) l
def aA {α:Type}(l:List α):Nat:=List.rec (motive:=fun _=>Nat) 0 (fun _ _ n=>n+1) l
def eC {α:Type}(l m:List α):List α:=List.rec (motive:=fun _=>List α) m (fun a _ g=>a::g) l
def tC {α:Type}(p:α->Bool)(l:List α):Bool:=List.rec (motive:=fun _=>Bool) true (fun a _ g=>bif p a then g else false) l
def tF{α β:Type}(f:α->Option β)(l:List α):Option (List β):=
 List.rec (motive:=fun _=>Option (List β)) (some []) (fun a _ g=>ob (f a) fun b=>ob g fun r=>some (b::r)) l
def xG(a:List Nat):List Nat->Bool:=
 List.rec (motive:=fun _=>List Nat->Bool) (fun b=>b.isEmpty) (fun x _ g b=>List.rec (motive:=fun _=>Bool) false (fun y b _=>bif Nat.beq x y then g b else false) b) a
def kIdx:IntKind->Nat
 | .i8=>0 | .i16=>1 | .i32=>2 | .i64=>3 | .u8=>4 | .u16=>5 | .u32=>6 | .u64=>7
def kEq (a b:IntKind):Bool:=Nat.beq (kIdx a) (kIdx b)
def bEq:Bool->Bool->Bool
 | true,b=>b
 | false,b => !b
def uB:Int->Int->Bool
 | .ofNat a,.ofNat b=>Nat.beq a b
 | .negSucc a,.negSucc b=>Nat.beq a b
 | _,_=>false
def sD:Int->Int->Bool
 | .ofNat a,.ofNat b=>Nat.ble a b
 | .ofNat _,.negSucc _=>false
 | .negSucc _,.ofNat _=>true
 | .negSucc a,.negSucc b=>Nat.ble b a
def vC:Int->Int->Bool
 | .ofNat a,.ofNat b=>Nat.blt a b
 | .ofNat _,.negSucc _=>false
 | .negSucc _,.ofNat _=>true
 | .negSucc a,.negSucc b=>Nat.blt b a
def nF:IntKind->Nat
 | .i8=>128 | .i16=>32768 | .i32=>2147483648 | .i64=>9223372036854775808 | .u8=>256 | .u16=>65536 | .u32=>4294967296 | .u64=>18446744073709551616
def kLo:IntKind->Nat
 | .i8=>128 | .i16=>32768 | .i32=>2147483648 | .i64=>9223372036854775808 | _=>0
def tA(k:IntKind):Int->Int
 | .ofNat n=>bif Nat.blt n (nF k)then .ofNat n else k.wrap (.ofNat n)
 | .negSucc n=>bif Nat.blt n (kLo k)then .negSucc n else k.wrap (.negSucc n)
inductive AFn where
 | func (f:Nat)
 | yld (l:Nat)
inductive zA where
 | bool (b:Bool)
 | int (k:IntKind) (n:Int)
 | str (l:List Nat)
 | nilptr
 | ptr (b off:Nat)
 | nilslice
 | slice (b off len cap:Nat)
 | nilmap
 | map (b:Nat)
 | func (fn:AFn) (first captured:List zA)
 | nilfunc
 | iface (t:Nat) (v:zA)
 | niliface
 | agg (l:List zA)
 | tup (l:List zA)
structure Tm where
 k:Nat
 v:Tr zA
 t:List (Nat × zA)
def z2x(i:Nat)(l:List (Nat × zA)):Option zA:=
 List.rec (motive:=fun _=>Option zA) none (fun a _ g=>Bool.rec (motive:=fun _=>Option zA) g (some a.2) (Nat.beq i a.1)) l
def Tm.get(t:Tm)(i:Nat):Option zA:=Bool.rec (motive:=fun _=>Option zA) (z2x i t.t) (t.v.get i) (Nat.blt i t.k)
def Tm.set(t:Tm)(i:Nat)(x:zA):Tm:=Bool.rec (motive:=fun _=>Tm) ⟨t.k,t.v,(i,x)::t.t⟩ ⟨t.k,t.v.set i x,t.t⟩ (Nat.blt i t.k)
def Tm.cut(t:Tm):Tm:=⟨t.k,t.v,[]⟩
structure jH where
 fn:Option AFn
 r:Nat
 args:List zA
structure wL where
 state:LoopState
 pending:Option Code
 fn:Nat
 n:Nat
 tm:Tm
 params:List Nat
 assign:Code
 body:Code
 defers:Nat
inductive Lo where
 | sz (n:Nat)
 | ty (t:Nat)
def Lo.es:Lo->Nat | .sz n=>n | .ty _=>1
def loEq:Lo->Lo->Bool
 | .sz a,.sz b=>Nat.beq a b
 | .ty a,.ty b=>Nat.beq a b
 | _,_=>false
inductive qA where
 | cells (c:Tr zA) (n:Nat) (loose:Option Lo)
 | map (l:List (zA × zA))
 | loop (l:wL)
 | deferred (l:Option (List jH))
 | siter (s:List Nat) (pos:Nat)
structure xA where
 next:Nat
 t:Tr qA
inductive rD where
 | bool | int (k:IntKind) | string
 | ptr (e:Nat) | slice (e:Nat) | arr (n e:Nat) | map (k e:Nat)
 | struct (fs:List (Nat × Nat × Nat))
 | func | iface | other
structure uC where
 desc:rD
 size:Nat
 bytes:Nat
 zero:List zA
 eqOk:Bool
structure xE where
 heavy:Nat
 lights:List Nat
 again:List Nat
structure Plan where
 first:List Nat
 stages:List xE
 olds:List (Nat × List Nat)
structure oA where
 fns:Tr Func
 ks:Tr Nat
 tys:Tr uC
 plans:Tr (Tr Plan)
 prims:Tr (List zA->xA->Option (zA × xA))
 base:Nat
 root:Nat
inductive oD where
 | code (c:Code)
 | inBlock (id:Nat)
 | inLoop (c:Code)
 | inScope (c:Code)
 | ops (all:Array Oper) (rest:List Oper)
 | reg (all:Array Oper) (old:Tm) (olds:List (Nat × List Nat)) (stages:List xE)
 | inRange (l:Nat)
 | endRange (l:Nat)
 | beginRound
structure qS where
 v:zA
 recovered:Bool
inductive zey where
 | run | returning
 | panicking (chain:List qS)
structure fH where
 fn:Nat
 n:Nat
 defers:List jH
 mode:zey
 deferred:Bool
 roundOf:Option Nat
structure fB where
 todo:List oD
 tm:Tm
 R:fH
structure zM where
 fr:fB
 cs:List fB
 H:xA
inductive qE where
 | next (s:zM)
 | done (v:zA) (H:xA)
 | fail (why:Nat)
def zA.asBool:zA->Option Bool | .bool b=>some b | _=>none
def zA.asInt:zA->Option Int | .int _ n=>some n | _=>none
def zA.asIntK:zA->Option (IntKind × Int) | .int k n=>some (k,n) | _=>none
def zA.asStr:zA->Option (List Nat) | .str l=>some l | _=>none
def zA.asPtr:zA->Option (Nat × Nat) | .ptr b o=>some (b,o) | _=>none
def zA.asSlice:zA->Option (Nat × Nat × Nat × Nat) | .slice b o l c=>some (b,o,l,c) | _=>none
def zA.asMap:zA->Option Nat | .map b=>some b | _=>none
def zA.asAgg:zA->Option (List zA) | .agg l=>some l | _=>none
def zA.asTup:zA->Option (List zA) | .tup l=>some l | _=>none
def zA.asFunc:zA->Option (AFn × List zA × List zA) | .func f a b=>some (f,a,b) | _=>none
def zA.asIface:zA->Option (Nat × zA) | .iface t v=>some (t,v) | _=>none
def zA.tag:zA->Nat
 | .bool _=>0 | .int _ _=>1 | .str _=>2 | .nilptr=>3 | .ptr _ _=>4 | .nilslice=>5 | .slice _ _ _ _=>6 | .nilmap=>7 | .map _=>8
 | .func _ _ _=>9 | .nilfunc=>10 | .iface _ _=>11 | .niliface=>12 | .agg _=>13 | .tup _=>14
def jI:Int->Option Nat | .ofNat n=>some n | .negSucc _=>none
def zA.asNat(v:zA):Option Nat:=ob v.asInt jI
def zA.cells(v:zA):List zA:=
 match v.asAgg with
 | some l=>l
 | none=>[v]
def zA.one(v:zA):Bool:=Nat.blt v.tag 13
def rD.asInt:rD->Option IntKind | .int k=>some k | _=>none
def rD.asSlice:rD->Option Nat | .slice e=>some e | _=>none
def rD.asArr:rD->Option (Nat × Nat) | .arr n e=>some (n,e) | _=>none
def rD.asMap:rD->Option (Nat × Nat) | .map k e=>some (k,e) | _=>none
def rD.asStruct:rD->Option (List (Nat × Nat × Nat)) | .struct fs=>some fs | _=>none
def rD.tag:rD->Nat
 | .bool=>0 | .int _=>1 | .string=>2 | .ptr _=>3 | .slice _=>4 | .arr _ _=>5 | .map _ _=>6 | .struct _=>7 | .func=>8 | .iface=>9 | .other=>10
def rD.isAgg(d:rD):Bool:=bif Nat.beq d.tag 5 then true else Nat.beq d.tag 7
def rD.isString(d:rD):Bool:=Nat.beq d.tag 2
def qA.asCells:qA->Option (Tr zA × Nat × Option Lo) | .cells c n l=>some (c,n,l) | _=>none
def qA.asMap:qA->Option (List (zA × zA)) | .map l=>some l | _=>none
def qA.asLoop:qA->Option wL | .loop l=>some l | _=>none
def qA.asDeferred:qA->Option (Option (List jH)) | .deferred l=>some l | _=>none
def qA.asIter:qA->Option (List Nat × Nat) | .siter s p=>some (s,p) | _=>none
def jA{α:Type}(b:Bool)(x:Option α):Option α:=Bool.rec (motive:=fun _=>Option α) none x b
def tD:zA:=.tup []
def aD(s:ByteArray):List Nat:=s.data.toList.map UInt8.toNat
def fS:Value->Option zA
 | .bool b=>some (.bool b)
 | .int k n=>some (.int k n)
 | .string s=>some (.str (aD s))
 | .pointer none=>some .nilptr
 | .slice none 0 0=>some .nilslice
 | .map none=>some .nilmap
 | .nilFunc=>some .nilfunc
 | .nilIface=>some .niliface
 | _=>none
def z4q:Value->Option (Array Value)
 | .agg cs=>some cs
 | _=>none
def zml(v:Value):Option zA:=
 match z4q v with
 | some cs=>ob (tF fS cs.toList) fun l=>some (.agg l)
 | none=>fS v
inductive nC where
 | now (tm:Tm)
 | mixed (tm old:Tm) (olds names:List Nat)
def pF(i:Nat)(l:List Nat):Bool:=List.rec (motive:=fun _=>Bool) false (fun j _ g=>bif Nat.beq i j then true else g) l
def zzj (t:Nat)(e:nC):Option zA:=
 match e with
 | .now tm=>tm.get t
 | .mixed tm old olds names=>bif pF t names then Tm.get (bif pF t olds then old else tm) t else none
def xConst(v:Value)(_:nC):Option zA:=zml v
def zlb(g:Nat)(_:nC):Option zA:=bif Nat.blt g 256 then some (.ptr g 0)else none
def xFunc(f:Nat)(_:nC):Option zA:=some (.func (.func f) [] [])
structure EB where f:nC->Option zA
def evB:Operand->EB
 | .tmp t=>⟨zzj t⟩
 | .const v=>⟨xConst v⟩
 | .global g=>⟨zlb g⟩
 | .func f=>⟨xFunc f⟩
def ev (x:Operand)(e:nC):Option zA:=(evB x).f e
def evs (l:List Operand)(e:nC):Option (List zA):=tF (fun x=>ev x e) l
def evo (x:Option Operand)(e:nC):Option (Option zA):=
 match x with
 | none=>some none
 | some x=>ob (ev x e) fun v=>some (some v)
def evp (l:List (Nat × Operand))(e:nC):Option (List (Nat × zA)):=tF (fun x=>ob (ev x.2 e) fun v=>some (x.1,v)) l
def fC(H:xA)(b:Nat):Option (Tr zA × Nat × Option Lo):=ob (H.t.get b) qA.asCells
def bH(H:xA)(b:Nat):Option (List (zA × zA)):=ob (H.t.get b) qA.asMap
def mM(ty:uC)(c:Tr zA)(off:Nat):Option zA:=
 bif ty.desc.isAgg then ob (c.many ty.size off) fun l=>some (.agg l)else c.get off
def dK(C:oA)(t:Nat)(l:List zA)(off:Nat):Option zA:=
 ob (C.tys.get t) fun ty=>bif ty.desc.isAgg then some (.agg (zes (nL l off) ty.size))else lC l off
def bO(ty:uC):zA:=
 bif ty.desc.isAgg then .agg ty.zero else match ty.zero with
  | v::_=>v
  | []=>tD
def zmw(a:List Nat):List Nat->Bool:=
 List.rec (motive:=fun _=>List Nat->Bool) (fun b => !b.isEmpty)
  (fun x _ g b=>List.rec (motive:=fun _=>Bool) false (fun y b _=>bif Nat.blt x y then true else bif Nat.beq x y then g b else false) b) a
def zf6(a b:zA):Option Bool:=ob a.asBool fun x=>ob b.asBool fun y=>some (bEq x y)
def z6v(a b:zA):Option Bool:=ob a.asIntK fun x=>ob b.asIntK fun y=>jA (kEq x.1 y.1) (some (uB x.2 y.2))
def zh2(a b:zA):Option Bool:=ob a.asStr fun x=>ob b.asStr fun y=>some (xG x y)
def zkf(n m:Nat)(a b:zA):Option Bool:=
 bif Nat.beq a.tag n then(bif Nat.beq b.tag n then some true else jA (Nat.beq b.tag m) (some false))
 else jA (Nat.beq a.tag m&&Nat.beq b.tag n) (some false)
def zp8(_ _:zA):Option Bool:=none
def zkg:rD->zA->zA->Option Bool
 | .bool=>zf6
 | .int _=>z6v
 | .string=>zh2
 | .ptr _=>zkf 3 4
 | .iface=>zkf 12 11
 | .slice _=>zkf 5 6
 | .map _ _=>zkf 7 8
 | .func=>zkf 10 9
 | .arr _ _=>zp8
 | .struct _=>zp8
 | .other=>zp8
def zs8(C:oA)(eq:Nat->zA->zA->Option Bool)(xs ys:List zA):List (Nat × Nat × Nat)->Option Bool
 | []=>some true
 | f::fs=>ob (dK C f.2.1 xs f.1) fun a=>ob (dK C f.2.1 ys f.1) fun b=>ob (eq f.2.1 a b) fun r=>bif r then zs8 C eq xs ys fs else some false
def aeq (C:oA):Nat->Nat->zA->zA->Option Bool
 | 0,_,_,_=>none
 | d+1,t,x,y=>ob (C.tys.get t) fun ty=>
  match ty.desc.asStruct with
  | some fs=>jA ty.eqOk (ob x.asAgg fun xs=>ob y.asAgg fun ys=>zs8 C (aeq C d) xs ys fs)
  | none=>zkg ty.desc x y
def iAdd (k:IntKind)(a b:Int):Option zA:=some (.int k (tA k (a+b)))
def iSub (k:IntKind)(a b:Int):Option zA:=some (.int k (tA k (a-b)))
def iMul (k:IntKind)(a b:Int):Option zA:=some (.int k (tA k (a*b)))
def z1r (k:IntKind)(a b:Int):Option zA:=bif uB b 0 then none else some (.int k (tA k (a.tdiv b)))
def zzo (k:IntKind)(a b:Int):Option zA:=bif uB b 0 then none else some (.int k (a.tmod b))
def zH(f:Nat->Nat->Nat)(k:IntKind)(a b:Int):Option zA:=ob (jI a) fun x=>ob (jI b) fun y=>jA (Nat.blt x (nF k)&&Nat.blt y (nF k)) (some (.int k (.ofNat (f x y))))
def kW:IntKind->Nat
 | .i8=>256 | .u8=>256 | .i16=>65536 | .u16=>65536 | .i32=>4294967296 | .u32=>4294967296 | .i64=>18446744073709551616 | .u64=>18446744073709551616
def iAnd (k:IntKind)(a b:Int):Option zA:=
 match jI a with
 | some _=>zH Nat.land k a b
 | none=>ob (jI b) fun y=>jA (Nat.blt y (nF k)) (some (.int k (.ofNat (Nat.land (Int.toNat (Int.emod a (.ofNat (kW k)))) y))))
def iEql (_:IntKind)(a b:Int):Option zA:=some (.bool (uB a b))
def iNeq (_:IntKind)(a b:Int):Option zA:=some (.bool (!uB a b))
def iLss (_:IntKind)(a b:Int):Option zA:=some (.bool (vC a b))
def iLeq (_:IntKind)(a b:Int):Option zA:=some (.bool (sD a b))
def iGtr (_:IntKind)(a b:Int):Option zA:=some (.bool (vC b a))
def iGeq (_:IntKind)(a b:Int):Option zA:=some (.bool (sD b a))
def iNone(_:IntKind)(_ _:Int):Option zA:=none
structure IB where f:IntKind->Int->Int->Option zA
def zy1:BinOp->IB
 | .add=>⟨iAdd⟩ | .sub=>⟨iSub⟩ | .mul=>⟨iMul⟩ | .quo=>⟨z1r⟩ | .rem=>⟨zzo⟩
 | .and=>⟨iAnd⟩ | .or=>⟨zH Nat.lor⟩ | .xor=>⟨zH Nat.xor⟩
 | .eql=>⟨iEql⟩ | .neq=>⟨iNeq⟩ | .lss=>⟨iLss⟩ | .leq=>⟨iLeq⟩ | .gtr=>⟨iGtr⟩ | .geq=>⟨iGeq⟩
 | _=>⟨iNone⟩
def zI (a b:List Nat):Option zA:=jA (Nat.blt (aA a+aA b) 4611686018427387904) (some (.str (eC a b)))
def sEql (a b:List Nat):Option zA:=some (.bool (xG a b))
def sNeq (a b:List Nat):Option zA:=some (.bool (!xG a b))
def sLss (a b:List Nat):Option zA:=some (.bool (zmw a b))
def sNone(_ _:List Nat):Option zA:=none
structure SB where f:List Nat->List Nat->Option zA
def zyy:BinOp->SB
 | .add=>⟨zI⟩ | .eql=>⟨sEql⟩ | .neq=>⟨sNeq⟩ | .lss=>⟨sLss⟩
 | _=>⟨sNone⟩
def uW:Operand->Bool
 | .const _=>true
 | _=>false
def zcr(k:IntKind)(b:Int):Option Nat:=ob (jI b) fun n=>some (min n k.bits)
def zxi (k:IntKind)(a b:Int):Option zA:=ob (zcr k b) fun n=>some (.int k (tA k (a*.ofNat (2^n))))
def z6g (k:IntKind)(a b:Int):Option zA:=ob (zcr k b) fun n=>some (.int k (a.fdiv (.ofNat (2^n))))
def mW(f:IntKind->Int->Int->Option zA)(a b:zA):Option zA:=ob a.asIntK fun x=>ob b.asInt fun y=>f x.1 x.2 y
def zp7(x y:Operand)(a b:zA):Bool:=
 bif Nat.beq a.tag 12&&Nat.beq b.tag 12 then uW x||uW y else true
def zb1(neg:Bool)(C:oA)(t:Nat)(x y:Operand)(a b:zA):Option zA:=
 jA (zp7 x y a b) (ob (aeq C 20 t a b) fun r=>some (.bool (bif neg then !r else r)))
def binNo(_:oA)(_:Nat)(_ _:Operand)(_ _:zA):Option zA:=none
structure BB where f:oA->Nat->Operand->Operand->zA->zA->Option zA
def zyz:BinOp->BB
 | .eql=>⟨zb1 false⟩
 | .neq=>⟨zb1 true⟩
 | _=>⟨binNo⟩
def zh9(op:BinOp)(C:oA)(t:Nat)(x y:Operand)(a b:zA):Option zA:=
 match a.asIntK with
 | some i=>ob b.asIntK fun j=>jA (kEq i.1 j.1) ((zy1 op).f i.1 i.2 j.2)
 | none=>match a.asStr with
  | some s=>ob b.asStr fun u=>(zyy op).f s u
  | none=>(zyz op).f C t x y a b
def binShl(_:oA)(_:Nat)(_ _:Operand)(a b:zA):Option zA:=mW zxi a b
def binShr(_:oA)(_:Nat)(_ _:Operand)(a b:zA):Option zA:=mW z6g a b
def binA:BinOp->BB
 | .shl=>⟨binShl⟩
 | .shr=>⟨binShr⟩
 | op=>⟨zh9 op⟩
def unNeg(a:zA):Option zA:=ob a.asIntK fun x=>some (.int x.1 (tA x.1 (0-x.2)))
def unNot(a:zA):Option zA:=ob a.asBool fun b=>some (.bool (!b))
def zlp(a:zA):Option zA:=ob a.asIntK fun x=>jA (Nat.beq (kLo x.1) 0) (zH Nat.xor x.1 (.ofNat (nF x.1-1)) x.2)
def unNone(_:zA):Option zA:=none
structure UB where f:zA->Option zA
def unA:UnOp->UB
 | .neg=>⟨unNeg⟩
 | .xor=>⟨zlp⟩
 | .not=>⟨unNot⟩
 | _=>⟨unNone⟩
def nN(v:zA):Option Nat:=ob v.asIntK fun x=>jA (kEq x.1 .u8) (ob (jI x.2) fun n=>jA (Nat.blt n 256) (some n))
def uT(H:xA)(a:zA):Option zA:=
 match a.asSlice with
 | some x=>ob (fC H x.1) fun c=>ob (c.1.many x.2.2.1 x.2.1) fun l=>ob (tF nN l) fun r=>some (.str r)
 | none=>jA (Nat.beq a.tag 5) (some (.str []))
def gL(C:oA)(s d:uC)(a:zA)(H:xA):Option zA:=
 match d.desc.asInt with
 | some k=>ob a.asInt fun n=>some (.int k (tA k n))
 | none=>jA d.desc.isString (bif Nat.beq a.tag 2 then some a else
   ob s.desc.asSlice fun e=>ob (C.tys.get e) fun et=>ob et.desc.asInt fun k=>jA (kEq k .u8) (uT H a))
def iQ(y:Nat)(v:zA):Option Nat:=ob v.asNat fun n=>jA (Nat.ble n y) (some n)
def zd6(y dflt:Nat)(v:Option zA):Option Nat:=
 match v with
 | some v=>iQ y v
 | none=>some dflt
def dL(len cap:Nat)(lo hi:Option zA):Option (Nat × Nat):=
 ob (zd6 cap len hi) fun h=>ob (zd6 h 0 lo) fun l=>some (l,h)
def sH(H:xA)(b size cap l:Nat)(arr:Bool):Bool:=
 match fC H b with
 | some c=>match c.2.2 with
  | none=>true
  | some es => !arr&&Nat.beq es.es size&&(!Nat.beq cap l||Nat.beq l 0)
 | none=>false
def rI(H:xA)(b size cap l:Nat)(arr:Bool):Bool:=
 match fC H b with
 | some c=>match c.2.2 with
  | none=>false
  | some es => !arr&&Nat.beq es.es size&&Nat.beq cap l && !Nat.beq l 0
 | none=>false
def fK(C:oA)(H:xA)(arr:Bool)(e b off len cap:Nat)(lo hi:Option zA):Option zA:=
 ob (C.tys.get e) fun et=>ob (dL len cap lo hi) fun x=>
  bif Nat.ble x.2 cap&&Nat.ble x.1 x.2&&rI H b et.size cap x.1 arr then some (.slice 0 1 0 0)else
  jA (Nat.ble x.2 cap&&sH H b et.size cap x.1 arr) (some (.slice b (bif Nat.beq cap x.1 then off else off+x.1*et.size) (x.2-x.1) (cap-x.1)))
def zbn(s:List Nat)(lo hi:Option zA):Option zA:=
 let n:=aA s
 ob (dL n n lo hi) fun x=>some (.str (nL (zes s x.2) x.1))
def iJ(C:oA)(H:xA)(ty:uC)(x:zA)(lo hi:Option zA):Option zA:=
 match x.asStr with
 | some s=>jA ty.desc.isString (zbn s lo hi)
 | none=>match x.asSlice with
  | some r=>ob ty.desc.asSlice fun e=>fK C H false e r.1 r.2.1 r.2.2.1 r.2.2.2 lo hi
  | none=>match x.asPtr with
   | some p=>ob ty.desc.asArr fun a=>fK C H true a.2 p.1 p.2 a.1 a.1 lo hi
   | none=>jA (Nat.beq x.tag 5) (ob ty.desc.asSlice fun e=>ob (C.tys.get e) fun _=>ob (dL 0 0 lo hi) fun _=>some .nilslice)
def xT(cells:List zA)(off size:Nat)(v:zA):Option (List zA):=
 let vc:=v.cells
 let n:=aA vc
 jA (Nat.beq n size&&Nat.ble (off+n) (aA cells)) (some (eC (zes cells off) (eC vc (nL cells (off+n)))))
def kL(place:Nat->Option (Nat × Nat)):List (Nat × zA)->List zA->Option (List zA)
 | [],cells=>some cells
 | p::rest,cells=>ob (place p.1) fun q=>ob (xT cells q.1 q.2 p.2) fun cells=>kL place rest cells
def iM(d:rD):Bool:=Nat.ble d.tag 2
def keyTag(v:zA):Nat:=v.tag
def zdk(d:rD)(v:zA):Bool:=Nat.beq d.tag (keyTag v)
def kQ(C:oA):List (Nat × Nat × Nat)->Nat->Bool
 | [],_=>true
 | f::fs,i=>bif Nat.beq f.1 i then(match C.tys.get f.2.1 with
  | some ty=>bif iM ty.desc then kQ C fs (i+1)else false
  | none=>false)else false
def sN(C:oA)(ty:uC):Bool:=bif iM ty.desc then true else match ty.desc.asStruct with
 | some fs=>bif ty.eqOk then kQ C fs 0 else false
 | none=>false
def zhw(C:oA):List (Nat × Nat × Nat)->List zA->Bool
 | [],[]=>true
 | f::fs,v::l=>(match C.tys.get f.2.1 with
  | some ty=>bif zdk ty.desc v then zhw C fs l else false
  | none=>false)
 | _,_=>false
def mL(C:oA)(ty:uC)(v:zA):Bool:=bif iM ty.desc then zdk ty.desc v else match ty.desc.asStruct with
 | some fs=>(match v.asAgg with
  | some l=>zhw C fs l
  | none=>false)
 | none=>false
def bK(a b:zA):Option Bool:=
 match a.asIntK with
 | some x=>ob b.asIntK fun y=>jA (kEq x.1 y.1) (some (uB x.2 y.2))
 | none=>match a.asStr with
  | some x=>ob b.asStr fun y=>some (xG x y)
  | none=>zf6 a b
def uN:List zA->List zA->Option Bool
 | [],[]=>some true
 | a::x,b::y=>ob (bK a b) fun r=>ob (uN x y) fun s=>some (r&&s)
 | _,_=>none
def kG(a b:zA):Option Bool:=
 match a.asAgg with
 | some x=>ob b.asAgg fun y=>uN x y
 | none=>bK a b
def cH(k:zA):List (zA × zA)->Option (Option zA)
 | []=>some none
 | e::l=>ob (kG k e.1) fun r=>bif r then some (some e.2)else cH k l
def sJ(k v:zA):List (zA × zA)->Option (List (zA × zA))
 | []=>some [(k,v)]
 | e::l=>ob (kG k e.1) fun r=>bif r then some ((k,v)::l)else ob (sJ k v l) fun l=>some (e::l)
abbrev LOp:=oA->nC->xA->Option zA
def zhk:LOp:=fun _ _ _=>none
def wO(x:Operand):LOp:=fun _ e _=>ev x e
def zwq(c a b:Operand):LOp:=fun _ e _=>ob (ev c e) fun c=>ob c.asBool fun c=>bif c then ev a e else ev b e
def uO(t:Nat)(a:Operand):LOp:=fun C e H=>ob (ev a e) fun v=>ob v.asPtr fun p=>ob (C.tys.get t) fun ty=>ob (fC H p.1) fun c=>mM ty c.1 p.2
def z1i (x:Operand):LOp:=fun _ e _=>ob (ev x e) fun v=>jA (Nat.beq v.tag 4||Nat.beq v.tag 9) (some v)
def zw2 (op:BinOp)(t:Nat)(x y:Operand):LOp:=fun C e _=>ob (ev x e) fun a=>ob (ev y e) fun b=>(binA op).f C t x y a b
def lUn (op:UnOp)(x:Operand):LOp:=fun _ e _=>ob (ev x e) fun a=>(unA op).f a
def oK(s d:Nat)(x:Operand):LOp:=fun C e H=>ob (ev x e) fun a=>ob (C.tys.get s) fun s=>ob (C.tys.get d) fun d=>gL C s d a H
def pR(t:Nat)(x:Operand):LOp:=fun C e _=>ob (C.tys.get t) fun ty=>jA (Nat.blt ty.desc.tag 9) (ob (ev x e) fun v=>some (.iface t v))
def zwz(f:Nat)(a b:Array Operand):LOp:=fun _ e _=>ob (evs a.toList e) fun a=>ob (evs b.toList e) fun b=>some (.func (.func f) a b)
structure LB where f:LOp
def oR(fn:Fn)(a b:Array Operand):LB:=
 match fn with
 | .func f=>⟨zwz f a b⟩
 | _=>⟨zhk⟩
def nQ(t:Nat)(x:Operand)(lo hi:Option Operand):LOp:=fun C e H=>
 ob (ev x e) fun a=>ob (evo lo e) fun l=>ob (evo hi e) fun h=>ob (C.tys.get t) fun ty=>iJ C H ty a l h
def xW(t:Nat)(x:Operand)(lo hi mx:Option Operand):LB:=
 match mx with
 | none=>⟨nQ t x lo hi⟩
 | some _=>⟨zhk⟩
def rO(s:Nat)(x:Operand)(f:Nat):LOp:=fun C e _=>
 ob (C.tys.get s) fun ty=>ob ty.desc.asStruct fun fs=>ob (lC fs f) fun fd=>jA (!Nat.beq fd.2.2 0) (ob (ev x e) fun v=>ob v.asPtr fun p=>some (.ptr p.1 (p.2+fd.1)))
def nR(t:Nat)(x:Operand)(f:Nat):LOp:=fun C e _=>
 ob (C.tys.get t) fun ty=>ob ty.desc.asStruct fun fs=>ob (lC fs f) fun fd=>ob (ev x e) fun v=>ob v.asAgg fun l=>dK C fd.2.1 l fd.1
def tO(t:Nat)(x i:Operand):LOp:=fun C e _=>
 ob (C.tys.get t) fun ty=>ob (ev x e) fun v=>ob (ev i e) fun i=>ob i.asNat fun i=>
  match v.asSlice with
  | some s=>ob ty.desc.asSlice fun el=>ob (C.tys.get el) fun et=>jA (Nat.blt i s.2.2.1) (some (.ptr s.1 (s.2.1+i*et.size)))
  | none=>ob v.asPtr fun p=>ob ty.desc.asArr fun a=>ob (C.tys.get a.2) fun et=>jA (Nat.blt i a.1) (some (.ptr p.1 (p.2+i*et.size)))
def sO(t:Nat)(x i:Operand):LOp:=fun C e _=>
 ob (C.tys.get t) fun ty=>ob (ev x e) fun v=>ob (ev i e) fun i=>ob i.asNat fun i=>
  match v.asStr with
  | some s=>jA ty.desc.isString (ob (lC s i) fun b=>some (.int .u8 (.ofNat b)))
  | none=>ob v.asAgg fun l=>ob ty.desc.asArr fun a=>ob (C.tys.get a.2) fun et=>jA (Nat.blt i a.1) (dK C a.2 l (i*et.size))
def qO(t:Operand)(i:Nat):LOp:=fun _ e _=>ob (ev t e) fun v=>ob v.asTup fun l=>lC l i
def qP(t:Nat)(parts:Array (Nat × Operand)):LOp:=fun C e _=>
 ob (C.tys.get t) fun ty=>ob (evp parts.toList e) fun ps=>
  match ty.desc.asStruct with
  | some fs=>ob (kL (fun i=>ob (lC fs i) fun x=>some (x.1,x.2.2)) ps ty.zero) fun l=>some (.agg l)
  | none=>ob ty.desc.asArr fun a=>ob (C.tys.get a.2) fun et=>ob (kL (fun i=>some (i*et.size,et.size)) ps ty.zero) fun l=>some (.agg l)
def pO(x:Operand)(asserted:Nat)(ok:Bool):LOp:=fun C e _=>
 ob (C.tys.get asserted) fun ty=>jA (Nat.blt ty.desc.tag 9) (ob (ev x e) fun v=>
  match v.asIface with
  | some p=>bif Nat.beq p.1 asserted then some (bif ok then .tup [p.2,.bool true]else p.2)else jA ok (some (.tup [bO ty,.bool false]))
  | none=>jA (Nat.beq v.tag 12&&ok) (some (.tup [bO ty,.bool false])))
def zO(H:xA)(v:zA):Option (List (zA × zA)):=
 match v.asMap with
 | some b=>bH H b
 | none=>jA (Nat.beq v.tag 7) (some [])
def vO(t:Nat)(x i:Operand)(ok:Bool):LOp:=fun C e H=>
 ob (C.tys.get t) fun ty=>ob ty.desc.asMap fun ke=>ob (C.tys.get ke.1) fun kty=>jA (sN C kty) (ob (C.tys.get ke.2) fun ety=>
  ob (ev x e) fun m=>ob (zO H m) fun es=>ob (ev i e) fun k=>jA (mL C kty k) (ob (cH k es) fun r=>
   match r with
   | some v=>some (bif ok then .tup [v,.bool true]else v)
   | none=>some (bif ok then .tup [bO ety,.bool false]else bO ety)))
def zth (H:xA)(ty:uC)(v:zA):Option Nat:=
 match v.asStr with
 | some s=>jA ty.desc.isString (some (aA s))
 | none=>match v.asSlice with
  | some s=>jA (Nat.beq ty.desc.tag 4) (some s.2.2.1)
  | none=>match ty.desc.asArr with
   | some a=>some a.1
   | none=>match v.asMap with
    | some b=>jA (Nat.beq ty.desc.tag 6) (ob (bH H b) fun l=>some (aA l))
    | none=>jA ((Nat.beq ty.desc.tag 4&&Nat.beq v.tag 5)||(Nat.beq ty.desc.tag 6&&Nat.beq v.tag 7)) (some 0)
def zmz (c:Call):LOp:=fun C e H=>
 ob (lC c.argTypes.toList 0) fun t=>ob (lC c.args.toList 0) fun x=>ob (C.tys.get t) fun ty=>ob (ev x e) fun v=>ob (zth H ty v) fun n=>some (.int .i64 (.ofNat n))
def two (c:Call)(e:nC):Option (zA × zA):=
 match c.args.toList with
 | [x,y]=>ob (ev x e) fun a=>ob (ev y e) fun b=>some (a,b)
 | _=>none
def zwv (c:Call):LOp:=fun _ e _=>ob (two c e) fun p=>ob p.1.asIntK fun x=>ob p.2.asIntK fun y=>some (.int x.1 (bif vC x.2 y.2 then y.2 else x.2))
def zwt (c:Call):LOp:=fun _ e _=>ob (two c e) fun p=>ob p.1.asIntK fun x=>ob p.2.asIntK fun y=>some (.int x.1 (bif vC y.2 x.2 then y.2 else x.2))
def zbt(c:Call):Builtin->LB
 | .len=>⟨zmz c⟩
 | .max=>⟨zwv c⟩
 | .min=>⟨zwt c⟩
 | _=>⟨zhk⟩
def kM(c:Call):Callee->LB
 | .builtin b=>zbt c b
 | _=>⟨zhk⟩
def z55(c:Call):LB:=kM c c.callee
def mE:Op->LB
 | .move x=>⟨wO x⟩
 | .assign x=>⟨wO x⟩
 | .pick c a b=>⟨zwq c a b⟩
 | .load t a=>⟨uO t a⟩
 | .nilCheck x=>⟨z1i x⟩
 | .binOp op t x y _=>⟨zw2 op t x y⟩
 | .unOp op _ x=>⟨lUn op x⟩
 | .convert s d x=>⟨oK s d x⟩
 | .makeInterface t x=>⟨pR t x⟩
 | .makeFunc fn a b=>oR fn a b
 | .slice t x lo hi mx=>xW t x lo hi mx
 | .fieldAddr s x f=>⟨rO s x f⟩
 | .field t x f=>⟨nR t x f⟩
 | .indexAddr t x i=>⟨tO t x i⟩
 | .index t x i=>⟨sO t x i⟩
 | .extract t i=>⟨qO t i⟩
 | .build t ps=>⟨qP t ps⟩
 | .typeAssert x _ u ok=>⟨pO x u ok⟩
 | .lookup t x i ok=>⟨vO t x i ok⟩
 | .call c=>z55 c
 | _=>⟨zhk⟩
inductive uI where
 | val (v:zA) (H:xA)
 | enter (f:Nat) (args:List zA)
 | round (l:Nat) (args:List zA)
 | defer (d:jH)
 | panic (v:zA)
 | recover
 | fail
abbrev HOp:=oA->nC->xA->uI
structure HB where f:HOp
def eI (x:Option (zA × xA)):uI:=
 match x with
 | some p=>.val p.1 p.2
 | none=>.fail
def z3u (x:Option uI):uI:=
 match x with
 | some r=>r
 | none=>.fail
def lv (f:LOp):HOp:=fun C e H=>
 match f C e H with
 | some v=>.val v H
 | none=>.fail
def newBlk(H:xA)(b:qA):xA:=⟨H.next+1,H.t.set H.next b⟩
def bD(H:xA)(l:List zA)(loose:Option Lo):xA:=newBlk H (.cells (Tr.ofList l) (aA l) loose)
def setBlk(H:xA)(b:Nat)(x:qA):xA:=⟨H.next,H.t.set b x⟩
def dI (zero:List zA):Nat->List zA
 | 0=>[]
 | n+1=>eC zero (dI zero n)
def qR(v:zA):Option Nat:=
 match v.asSlice with
 | some s=>some s.2.2.1
 | none=>match v.asStr with
  | some s=>some (aA s)
  | none=>jA (Nat.beq v.tag 5) (some 0)
def jO(l:List Nat):List zA:=l.map fun n=>zA.int .u8 (Int.ofNat n)
def oN(H:xA)(size n:Nat)(v:zA):Option (List zA):=
 match v.asSlice with
 | some s=>ob (fC H s.1) fun c=>c.1.many (n*size) s.2.1
 | none=>match v.asStr with
  | some s=>some (jO (zes s n))
  | none=>jA (Nat.beq v.tag 5) (some [])
def lH(C:oA)(H:xA)(b off:Nat)(l:List zA):Option xA:=
 jA (!Nat.blt b C.base) (ob (fC H b) fun c=>
  jA (Nat.ble (off+aA l) c.2.1&&tC zA.one l) (some (setBlk H b (.cells (c.1.setMany l off) c.2.1 c.2.2))))
def lL(et:uC)(len cap n:Nat)(new:List zA):Bool:=
 Nat.blt (len+n+cap) 1000000000&&Nat.blt ((len+n+cap)*et.bytes) 1000000000&&Nat.blt et.bytes 1000000000 && !Nat.beq et.size 0&&Nat.beq (aA new) (n*et.size)&&Nat.beq (aA et.zero) et.size
def zxe(et:uC):Bool:=match et.desc with | .int .u8=>true | _=>false
def qH(e:Nat)(et:uC):Lo:=bif Nat.beq et.size 1&&zxe et then .ty e else .sz et.size
def cJ(H:xA)(e:Nat)(et:uC)(n:Nat)(new:List zA):Option (zA × xA):=
 bif Nat.beq n 0 then some (.nilslice,H)else
  jA (lL et 0 0 n new) (some (.slice H.next 0 n n,bD H new (some (qH e et))))
def lQ(C:oA)(H:xA)(et:uC)(n:Nat)(new:List zA)(s:Nat × Nat × Nat × Nat):Option (zA × xA):=
 match new with
 | []=>some (.slice s.1 s.2.1 (s.2.2.1+n) s.2.2.2,H)
 | _::_=>ob (lH C H s.1 (s.2.1+s.2.2.1*et.size) new) fun H'=>some (.slice s.1 s.2.1 (s.2.2.1+n) s.2.2.2,H')
def jU(H:xA)(e:Nat)(et:uC)(n:Nat)(new:List zA)(s:Nat × Nat × Nat × Nat)(c:Tr zA):Option (zA × xA):=
 ob (c.many (s.2.2.1*et.size) s.2.1) fun old=>some (.slice H.next 0 (s.2.2.1+n) (s.2.2.1+n),bD H (eC old new) (some (qH e et)))
def bS(C:oA)(H:xA)(e:Nat)(et:uC)(n:Nat)(new:List zA)(s:Nat × Nat × Nat × Nat)(c:Tr zA)(m:Nat)(lo:Lo):Option (zA × xA):=
 jA (Nat.beq s.2.1 0&&loEq lo (qH e et)&&Nat.ble (s.2.2.1*et.size) m&&Nat.ble m ((s.2.2.1+n)*et.size)&&tC zA.one new && !Nat.blt s.1 C.base)
  (some (.slice H.next 0 (s.2.2.1+n) (s.2.2.1+n),⟨H.next+1,(H.t.del s.1).set H.next (.cells (c.setMany new (s.2.2.1*et.size)) ((s.2.2.1+n)*et.size) (some lo))⟩))
def nO(C:oA)(H:xA)(e:Nat)(et:uC)(n:Nat)(new:List zA)(s:Nat × Nat × Nat × Nat):Option (zA × xA):=
 jA (!(Nat.beq s.2.1 1&&Nat.beq s.2.2.2 0)) (jA (lL et s.2.2.1 s.2.2.2 n new) (ob (fC H s.1) fun c=>
  match c.2.2 with
  | none=>jU H e et n new s c.1
  | some lo=>bS C H e et n new s c.1 c.2.1 lo))
def gO(C:oA)(H:xA)(ty:uC)(s x:zA):Option (zA × xA):=
 ob ty.desc.asSlice fun e=>ob (C.tys.get e) fun et=>ob (qR x) fun n=>ob (oN H et.size n x) fun new=>
  match s.asSlice with
  | some s=>bif Nat.ble (s.2.2.1+n) s.2.2.2 then lQ C H et n new s else nO C H e et n new s
  | none=>jA (Nat.beq s.tag 5) (cJ H e et n new)
def isBld(C:oA)(t:Nat):Bool:=
 match ob (C.tys.get t) fun ty=>ob ty.desc.asStruct fun fs=>ob (lC fs 0) fun f=>ob (C.tys.get f.2.1) fun tf=>some tf.desc with
 | some (.ptr e)=>Nat.beq e t
 | _=>false
def tI(C:oA)(t:Nat):Option Lo:=
 bif isBld C t then some (.ty t)else
 match ob (C.tys.get t) fun ty=>ob ty.desc.asStruct fun fs=>ob (lC fs 0) fun f=>some (isBld C f.2.1)with
 | some true=>some (.ty t)
 | _=>none
def kR(t:Nat):HOp:=fun C _ H=>eI (ob (C.tys.get t) fun ty=>some (.ptr H.next 0,bD H ty.zero (tI C t)))
def z1x (t:Nat)(x:Operand):HOp:=fun C e H=>eI (ob (ev x e) fun v=>some (.ptr H.next 0,bD H v.cells (tI C t)))
def z06 (C:oA):Op->Option Lo
 | .alloc t=>tI C t
 | .box t _=>tI C t
 | _=>none
def lR(t len:Nat)(parts:Array (Nat × Operand)):HOp:=fun C e H=>eI (ob (C.tys.get t) fun ty=>ob ty.desc.asSlice fun el=>ob (C.tys.get el) fun et=>
 jA (Nat.blt (len*et.size) 1000000&&Nat.beq (aA et.zero) et.size) (ob (evp parts.toList e) fun ps=>ob (kL (fun i=>some (i*et.size,et.size)) ps (dI et.zero len)) fun l=>some (.slice H.next 0 len len,bD H l none)))
def zka(t:Nat)(a x:Operand):HOp:=fun C e H=>eI (ob (C.tys.get t) fun ty=>ob (ev a e) fun a=>ob a.asPtr fun p=>ob (ev x e) fun v=>
 let l:=v.cells
 jA (Nat.beq (aA l) ty.size) (ob (lH C H p.1 p.2 l) fun H'=>some (tD,H')))
def sW(r:Option Operand):HOp:=fun _ _ H=>
 match r with
 | none=>.val (.map H.next) (newBlk H (.map []))
 | some _=>.fail
def mR(t:Nat)(m k x:Operand):HOp:=fun C e H=>eI (ob (C.tys.get t) fun ty=>ob ty.desc.asMap fun ke=>ob (C.tys.get ke.1) fun kty=>jA (sN C kty)
 (ob (ev m e) fun m=>ob m.asMap fun b=>jA (!Nat.blt b C.base) (ob (bH H b) fun l=>ob (ev k e) fun k=>jA (mL C kty k) (ob (ev x e) fun v=>ob (sJ k v l) fun l'=>some (tD,setBlk H b (.map l'))))))
def zav(t:Nat)(l c:Operand):HOp:=fun C e H=>eI (ob (C.tys.get t) fun ty=>ob ty.desc.asSlice fun el=>ob (C.tys.get el) fun et=>
 ob (ev l e) fun l=>ob l.asNat fun l=>ob (ev c e) fun c=>ob c.asNat fun c=>
  jA (Nat.ble l c&&Nat.blt c 1000000&&Nat.blt (c*et.bytes) 1000000000&&Nat.beq (aA et.zero) et.size) (some (.slice H.next 0 l c,bD H (dI et.zero c) none)))
def kP(s d:Nat)(x:Operand):HOp:=fun C e H=>
 match oK s d x C e H with
 | some v=>.val v H
 | none=>eI (ob (C.tys.get s) fun _=>ob (C.tys.get d) fun ty=>ob ty.desc.asSlice fun el=>ob (C.tys.get el) fun et=>ob et.desc.asInt fun k=>jA (kEq k .u8) (ob (ev x e) fun v=>ob v.asStr fun l=>
   some (.slice H.next 0 (aA l) (aA l),bD H (jO l) (some (.ty el)))))
def zxn(x:Operand):HOp:=fun _ e _=>z3u (ob (ev x e) fun v=>ob v.asIface fun p=>some (.panic (.iface p.1 p.2)))
def eN(f:Operand)(args:Array Operand)(e:nC):Option (AFn × List zA × List zA):=
 ob (ev f e) fun v=>ob v.asFunc fun p=>ob (evs args.toList e) fun as=>some (p.1,eC p.2.1 as,p.2.2)
def zbu(c:Call):Callee->HB
 | .value f=>⟨fun _ e _=>z3u (ob (eN f c.args e) fun p=>some (.defer ⟨some p.1,0,eC p.2.1 p.2.2⟩))⟩
 | _=>⟨fun _ _ _=>.fail⟩
def hDefer(c:Call):HB:=zbu c c.callee
def tK(g:List zA->xA->Option zA):List zA->xA->Option (zA × xA):=fun args H=>ob (g args H) fun v=>some (v,H)
def zgd(_:oA)(H:xA)(args:List zA)(f:Nat):Option (List zA->xA->Option (zA × xA))->uI
 | some g=>match g args H with
  | some p=>.val p.1 p.2
  | none=>.fail
 | none=>.enter f args
def zkr(l:Nat)(args:List zA):List zA->uI
 | []=>.round l args
 | _::_=>.fail
def z69(C:oA)(H:xA)(args cap:List zA):AFn->uI
 | .func f=>zgd C H (eC args cap) f (C.prims.get f)
 | .yld l=>zkr l args cap
def zds(f:Operand)(args:Array Operand):HOp:=fun C e H=>z3u (ob (eN f args e) fun p=>some (z69 C H p.2.1 p.2.2 p.1))
def kU(c:Call):HOp:=fun C e H=>eI (ob (lC c.argTypes.toList 0) fun t=>ob (C.tys.get t) fun ty=>ob (lC c.argTypes.toList 1) fun u=>ob (C.tys.get u) fun uty=>
 jA (!Nat.beq uty.desc.tag 1) (ob (two c e) fun p=>gO C H ty p.1 p.2))
def z6l:HOp:=fun _ _ _=>.fail
def z1v:HOp:=fun _ _ _=>.recover
def z1w(c:Call):Builtin->HB
 | .append=>⟨kU c⟩
 | .len=>⟨lv (zmz c)⟩
 | .max=>⟨lv (zwv c)⟩
 | .min=>⟨lv (zwt c)⟩
 | .recover=>⟨z1v⟩
 | _=>⟨z6l⟩
def lU(c:Call):Callee->HB
 | .value f=>⟨zds f c.args⟩
 | .builtin b=>z1w c b
 | _=>⟨z6l⟩
def hCall(c:Call):HB:=lU c c.callee
def lvB (b:LB):HB:=⟨lv b.f⟩
def aE:Op->HB
 | .move x=>⟨lv (wO x)⟩
 | .assign x=>⟨lv (wO x)⟩
 | .pick c a b=>⟨lv (zwq c a b)⟩
 | .load t a=>⟨lv (uO t a)⟩
 | .nilCheck x=>⟨lv (z1i x)⟩
 | .binOp op t x y _=>⟨lv (zw2 op t x y)⟩
 | .unOp op _ x=>⟨lv (lUn op x)⟩
 | .makeInterface t x=>⟨lv (pR t x)⟩
 | .makeFunc fn a b=>lvB (oR fn a b)
 | .slice t x lo hi mx=>lvB (xW t x lo hi mx)
 | .fieldAddr s x f=>⟨lv (rO s x f)⟩
 | .field t x f=>⟨lv (nR t x f)⟩
 | .indexAddr t x i=>⟨lv (tO t x i)⟩
 | .index t x i=>⟨lv (sO t x i)⟩
 | .extract t i=>⟨lv (qO t i)⟩
 | .build t ps=>⟨lv (qP t ps)⟩
 | .typeAssert x _ u ok=>⟨lv (pO x u ok)⟩
 | .lookup t x i ok=>⟨lv (vO t x i ok)⟩
 | .convert s d x=>⟨kP s d x⟩
 | .alloc t=>⟨kR t⟩
 | .box t x=>⟨z1x t x⟩
 | .buildSlice t len ps=>⟨lR t len ps⟩
 | .store t a x=>⟨zka t a x⟩
 | .makeMap _ r=>⟨sW r⟩
 | .insert t m k x=>⟨mR t m k x⟩
 | .mapUpdate t m k x=>⟨mR t m k x⟩
 | .makeSlice t l c=>⟨zav t l c⟩
 | .panic x=>⟨zxn x⟩
 | .defer c=>hDefer c
 | .call c=>hCall c
 | _=>⟨z6l⟩
structure GB where f:Tm->Option Bool
def z41(_:Tm):Option Bool:=some true
def zij(d:Option Nat)(w:Bool)(tm:Tm):Option Bool:=
 ob d fun d=>ob (tm.get d) fun v=>match v.asBool with
  | some b=>some (bEq b w)
  | none=>some false
def zto(g:Option (Nat × Bool))(all:Array Oper):GB:=
 match g with
 | none=>⟨z41⟩
 | some jw=>⟨zij (ob (lC all.toList jw.1) fun o=>o.dst) jw.2⟩
def jE(g:Option (Nat × Bool))(all:Array Oper)(tm:Tm):Option Bool:=(zto g all).f tm
structure PB where f:Nat->Tm->zA->Tm
def z0q(d n:Nat)(tm:Tm)(v:zA):Tm:=bif Nat.blt d n then tm.set d v else tm
def putNo(_:Nat)(tm:Tm)(_:zA):Tm:=tm
def putB (dst:Option Nat):PB:=
 match dst with
 | some d=>⟨z0q d⟩
 | none=>⟨putNo⟩
def putA (n:Nat)(tm:Tm)(dst:Option Nat)(v:zA):Tm:=(putB dst).f n tm v
def zey.running:zey->Bool | .run=>true | _=>false
def oD.blockId:oD->Option Nat | .inBlock id=>some id | _=>none
def bJ(id:Nat):List oD->Option (List oD)
 | []=>none
 | x::k=>match x.blockId with
  | some i=>bif Nat.beq i id then some k else bJ id k
  | none=>bJ id k
def z4n(all:Array Oper)(rest:List Oper)(k:List oD)(tm:Tm)(R:fH)(v:zA):Option fB:=
 match rest with
 | o::rest=>some ⟨.ops all rest::k,putA R.n tm o.dst v,R⟩
 | []=>none
def zx0(all:Array Oper)(old:Tm)(olds:List (Nat × List Nat))(stages:List xE)(k:List oD)(tm:Tm)(R:fH)(v:zA):Option fB:=
 match stages with
 | st::stages=>ob (lC all.toList st.heavy) fun o=>some ⟨.reg all old olds (⟨all.size,st.lights,st.again⟩::stages)::k,putA R.n tm o.dst v,R⟩
 | []=>none
def z17(l:Nat)(k:List oD)(tm:Tm)(R:fH)(_:zA):Option fB:=some ⟨.endRange l::k,tm,R⟩
def z18(k:List oD)(tm:Tm)(R:fH)(_:zA):Option fB:=some ⟨k,tm,R⟩
def z6r(_:List oD)(_:Tm)(_:fH)(_:zA):Option fB:=none
def zhy:oD->List oD->Tm->fH->zA->Option fB
 | .ops all rest=>z4n all rest
 | .reg all old olds stages=>zx0 all old olds stages
 | .inRange l=>z17 l
 | .beginRound=>z18
 | _=>z6r
def tG(fr:fB)(v:zA):Option fB:=
 match fr.todo with
 | []=>none
 | x::k=>bif fr.R.mode.running then zhy x k fr.tm fr.R v else none
def bI(C:oA)(f:Nat)(args:List zA)(deferred:Bool):Option fB:=
 ob (C.fns.get f) fun fn=>ob fn.body fun c=>ob (C.ks.get f) fun k=>jA (Nat.ble (aA args) k&&Nat.ble (aA args) fn.ntmps) (some ⟨[.code c],⟨k,Tr.ofList args,[]⟩,⟨f,fn.ntmps,[],.run,deferred,none⟩⟩)
def uQ(n:Nat):List Nat->List zA->Tm->Option (Tm)
 | [],[],tm=>some tm
 | p::ps,a::as,tm=>uQ n ps as (putA n tm (some p) a)
 | _,_,_=>none
def zud:List Operand->List Nat
 | []=>[]
 | .tmp t::l=>t::zud l
 | _::l=>zud l
def iF(o:Op):List Nat:=zud o.operands.toList
def kD(i:Nat):List (Nat × List Nat)->List Nat
 | []=>[]
 | x::r=>bif Nat.beq i x.1 then x.2 else kD i r
def same:Nat->zA->zA->Bool
 | _,.bool a,.bool b=>bEq a b
 | _,.int j a,.int k b=>kEq j k&&uB a b
 | _,.str a,.str b=>xG a b
 | _,.nilptr,.nilptr=>true
 | _,.ptr a b,.ptr c d=>Nat.beq a c&&Nat.beq b d
 | _,.nilslice,.nilslice=>true
 | _,.slice a b c d,.slice e f g h=>Nat.beq a e&&Nat.beq b f&&Nat.beq c g&&Nat.beq d h
 | _,.nilmap,.nilmap=>true
 | _,.map a,.map b=>Nat.beq a b
 | _,.nilfunc,.nilfunc=>true
 | _,.niliface,.niliface=>true
 | d+1,.agg a,.agg b=>sames d a b
 | d+1,.tup a,.tup b=>sames d a b
 | _,_,_=>false
where
 sames (d:Nat):List zA->List zA->Bool
  | [],[]=>true
  | a::x,b::y=>same d a b&&sames d x y
  | _,_=>false
def oL(C:oA)(H:xA)(all:Array Oper)(n:Nat)(old:Tm)(olds:List (Nat × List Nat)):List Nat->Tm->Option (Tm)
 | [],tm=>some tm
 | i::l,tm=>ob (lC all.toList i) fun o=>ob (jE o.guard all tm) fun w=>ob (bif w then(mE o.op).f C (.mixed tm old (kD i olds) (iF o.op)) H else some tD) fun v=>
   oL C H all n old olds l (putA n tm o.dst v)
def wS(C:oA)(H:xA)(all:Array Oper)(old:Tm)(olds:List (Nat × List Nat))(tm:Tm):List Nat->Bool
 | []=>true
 | i::l=>match (ob (lC all.toList i) fun o=>ob o.dst fun d=>ob (jE o.guard all tm) fun w=>bif w then(ob ((mE o.op).f C (.mixed tm old (kD i olds) (iF o.op)) H) fun v=>ob (tm.get d) fun u=>some (same 10 v u))else some true)with
  | some true=>wS C H all old olds tm l
  | _=>false
def zey.chain:zey->Option (List qS) | .panicking c=>some c | _=>none
def zf8:List Oper->Tr zA->Tr zA
 | [],t=>t
 | o::l,t=>match o.dst with
  | some j=>zf8 l (t.del j)
  | none=>zf8 l t
def zjz(todo:List oD)(tm:Tm):Tm:=
 match todo with
 | .reg all _ _ _::_=>⟨tm.k,zf8 all.toList tm.v,[]⟩
 | _=>tm
def zoz(fr:fB)(l:List qS):fB:=
 ⟨[],zjz fr.todo fr.tm,⟨fr.R.fn,fr.R.n,fr.R.defers,.panicking (match fr.R.mode.chain with | some c=>eC l c | none=>l),fr.R.deferred,fr.R.roundOf⟩⟩
def pI(x:Option zM)(why:Nat):qE:=
 match x with
 | some s=>.next s
 | none=>.fail why
def dH(H:xA)(l:Nat):Option wL:=jA (Nat.ble (nat_lit 256) l) (ob (H.t.get l) qA.asLoop)
def iP(H:xA)(l:Nat):Option (Option (List jH)):=jA (Nat.ble (nat_lit 256) l) (ob (H.t.get l) qA.asDeferred)
def z5m (v:zA)(H':xA)(_:oA)(fr:fB)(cs:List fB)(_:xA):qE:=pI (ob (tG fr v) fun fr=>some ⟨fr,cs,H'⟩) 1
def zjd(f:Nat)(args:List zA)(C:oA)(fr:fB)(cs:List fB)(H:xA):qE:=pI (ob (bI C f args false) fun g=>some ⟨g,fr::cs,H⟩) 2
def zjc(l:Nat)(args:List zA)(_:oA)(fr:fB)(cs:List fB)(H:xA):qE:=
 pI (ob (dH H l) fun r=>ob (uQ r.n r.params args r.tm) fun tm=>some ⟨⟨[.code r.assign,.beginRound,.code r.body],tm,⟨r.fn,r.n,[],.run,false,some l⟩⟩,fr::cs,H⟩) 3
def zvn(d:jH)(_:oA)(fr:fB)(cs:List fB)(H:xA):qE:=
 pI (match fr.R.roundOf with
  | none=>ob (tG fr tD) fun g=>some ⟨⟨g.todo,g.tm,⟨g.R.fn,g.R.n,d::g.R.defers,g.R.mode,g.R.deferred,g.R.roundOf⟩⟩,cs,H⟩
  | some _=>none) 4
def z3w(v:zA)(_:oA)(fr:fB)(cs:List fB)(H:xA):qE:=.next ⟨zoz fr [⟨v,false⟩],cs,H⟩
def zg9(_:oA)(fr:fB)(cs:List fB)(H:xA):qE:=
 pI (match fr.R.roundOf,fr.R.deferred,cs with
  | none,true,c::rest=>match c.R.mode with
   | .panicking (⟨v,false⟩::older)=>ob (tG fr v) fun fr=>some ⟨fr,⟨c.todo,c.tm,⟨c.R.fn,c.R.n,c.R.defers,.panicking (⟨v,true⟩::older),c.R.deferred,c.R.roundOf⟩⟩::rest,H⟩
   | .panicking _=>none
   | _=>ob (tG fr .niliface) fun fr=>some ⟨fr,cs,H⟩
  | _,_,_=>none) 5
def rFail(_:oA)(_:fB)(_:List fB)(_:xA):qE:=.fail 6
def zV:uI->oA->fB->List fB->xA->qE
 | .val v H'=>z5m v H'
 | .enter f args=>zjd f args
 | .round l args=>zjc l args
 | .defer d=>zvn d
 | .panic v=>z3w v
 | .recover=>zg9
 | .fail=>rFail
def vR(C:oA)(H:xA)(tm:Tm):ResultVar->Option zA
 | .tmp t=>tm.get t
 | .cell a t=>ob (ob (tm.get a) zA.asPtr) fun p=>ob (C.tys.get t) fun ty=>ob (fC H p.1) fun c=>mM ty c.1 p.2
def sQ(C:oA)(H:xA)(tm:Tm)(l:List ResultVar):Option (List zA):=tF (vR C H tm) l
def zu8(jump:Option Code):Bool:=
 match jump with
 | none=>true
 | some .ret=>true
 | _=>false
def zcs(fr:fB)(m:zey):fB:=⟨fr.todo,fr.tm,⟨fr.R.fn,fr.R.n,fr.R.defers,m,fr.R.deferred,fr.R.roundOf⟩⟩
def lM(jump:Option Code)(_:oA)(fr:fB)(cs:List fB)(H:xA):qE:=
 pI (match fr.R.roundOf with
  | none=>jA (zu8 jump) (some ⟨zcs fr .returning,cs,H⟩)
  | some l=>ob (dH H l) fun r=>match cs with
   | c::rest=>jA (!fr.R.deferred) <| ob (tG c (.bool jump.isNone)) fun c=>some ⟨c,rest,setBlk H l (.loop ⟨if jump.isNone then .ready else .done,jump,r.fn,r.n,r.tm,r.params,r.assign,r.body,r.defers⟩)⟩
   | []=>none) 7
abbrev zJ:=oA->List oD->Tm->fH->List fB->xA->qE
structure XB where f:zJ
def xGo (todo:List oD)(tm:Tm)(R:fH)(cs:List fB)(H:xA):qE:=.next ⟨⟨todo,tm,R⟩,cs,H⟩
def zla:zJ:=fun _ k tm R cs H=>xGo k tm R cs H
def ztk(c:Operand)(x y:Code):zJ:=fun _ k tm R cs H=>
 match ob (ev c (.now tm)) zA.asBool with
 | some b=>xGo (.code (bif b then x else y)::k) tm R cs H
 | none=>.fail 8
def z3a(id:Nat)(c:Code):zJ:=fun _ k tm R cs H=>xGo (.code c::.inBlock id::k) tm R cs H
def z4x(c:Code):zJ:=fun _ k tm R cs H=>xGo (.code c::.inLoop c::k) tm R cs H
def xScope(c:Code):zJ:=fun _ k tm R cs H=>xGo (.code c::.inScope c::k) tm R cs H
def zif(id:Nat):zJ:=fun C k tm R cs H=>
 match bJ id k with
 | some k'=>xGo k' tm R cs H
 | none=>lM (some (.exit id)) C ⟨.code (.exit id)::k,tm,R⟩ cs H
def xRet:zJ:=fun C k tm R cs H=>lM (some .ret) C ⟨.code .ret::k,tm,R⟩ cs H
def z4y:zJ:=fun _ _ _ _ _ _=>.fail 9
def bR(e:Edge):Bool:=
 match e.ground with
 | .textOnly _=>false
 | .gcOnly _=>false
 | _=>true
def tb (m i:Nat):Bool:=Nat.beq (Nat.mod (Nat.shiftRight m i) (nat_lit 2)) (nat_lit 1)
def zh8(i:Nat):Nat:=Nat.shiftLeft (nat_lit 1) i
def xH (t:Tr Nat)(i:Nat):Nat:=
 match t.get i with
 | some m=>m
 | none=>0
def zft(t:Tr Nat):List Edge->Nat
 | []=>0
 | e::l=>bif bR e then Nat.lor (Nat.lor (zh8 e.on) (xH t e.on)) (zft t l)else zft t l
def z7d:List Oper->Nat->Tr Nat->Tr Nat
 | [],_,t=>t
 | o::r,i,t=>z7d r (i+1) (t.set i (zft t o.after.toList))
def zpa:List Oper->Nat->Bool
 | [],_=>true
 | o::r,i=>bif tC (fun e=>bif bR e then Nat.blt e.on i else true) o.after.toList then zpa r (i+1)else false
def wrOf:List Oper->Nat->Tr Nat->Option (Tr Nat)
 | [],_,t=>some t
 | o::r,i,t=>match o.dst with
  | none=>wrOf r (i+1) t
  | some d=>match t.get d with
   | none=>wrOf r (i+1) (t.set d i)
   | some _=>none
def gG{α:Type}:Option α->Bool | none=>true | some _=>false
def zv1(wr anc:Tr Nat)(i:Nat)(olds:List Nat)(t:Nat):Bool:=
 match wr.get t with
 | none=>true
 | some j=>bif pF t olds then(bif Nat.beq j i then true else tb (xH anc j) i)else tb (xH anc i) j
def zmi(anc:Nat):Option (Nat × Bool)->Bool
 | none=>true
 | some g=>tb anc g.1
def z0w(wr anc:Tr Nat)(olds:List (Nat × List Nat)):List Oper->Nat->Bool
 | [],_=>true
 | o::r,i=>bif zmi (xH anc i) o.guard then(bif tC (zv1 wr anc i (kD i olds)) (iF o.op)then z0w wr anc olds r (i+1)else false)else false
def xN:Op->Bool
 | .move _=>true
 | .assign _=>true
 | .pick _ _ _=>true
 | .nilCheck _=>true
 | .binOp _ _ _ _ _=>true
 | .unOp _ _ _=>true
 | .makeInterface _ _=>true
 | .makeFunc _ _ _=>true
 | .fieldAddr _ _ _=>true
 | .field _ _ _=>true
 | .indexAddr _ _ _=>true
 | .index _ _ _=>true
 | .extract _ _=>true
 | .build _ _=>true
 | .typeAssert _ _ _ _=>true
 | _=>false
def zzy (D:Nat)(o:Oper):Bool:=tC (fun e=>bif bR e then tb D e.on else true) o.after.toList
def zo9(h D:Nat):List Oper->Nat->Bool
 | [],_=>true
 | o::r,i=>bif (bif tb D i then true else bif Nat.beq i h then true else !zzy D o)then zo9 h D r (i+1)else false
def wI:Op->Bool
 | .alloc _=>true
 | .box _ _=>true
 | .buildSlice _ _ _=>true
 | _=>false
def zhe(m D:Nat)(again:List Nat):List Oper->Nat->Bool
 | [],_=>true
 | o::r,i=>bif (bif tb D i then(bif tb m i then true else bif xN o.op then true else bif wI o.op then true else pF i again)else true)then zhe m D again r (i+1)else false
def wP(ops:List Oper)(i D:Nat):Option Nat:=
 ob (lC ops i) fun o=>jA (bif tb D i then false else zzy D o) (some (Nat.lor D (zh8 i)))
def sK(ops:List Oper):List Nat->Nat->Option Nat
 | [],D=>some D
 | i::l,D=>ob (wP ops i D) fun D=>sK ops l D
def z0y(D:Nat):List Oper->Nat->Bool
 | [],_=>true
 | _::r,i=>bif tb D i then z0y D r (i+1)else false
def z6e:Option Oper->Bool
 | some o=>wI o.op
 | none=>false
def okG (ops:List Oper)(D:Nat):List Nat->Nat->Option Nat
 | [],E=>some E
 | i::l,E=>ob (lC ops i) fun o=>jA (!tb E i&&zzy D o&&gG o.dst) (okG ops D l (Nat.lor E (zh8 i)))
def zo8(anc:Tr Nat)(D1:Nat)(G:List Nat):List Oper->Nat->Bool
 | [],_=>true
 | o::r,i=>bif (bif tb D1 i then true else bif tC (fun g=>tb (xH anc i) g) G then true else !zzy D1 o)then zo8 anc D1 G r (i+1)else false
def zj7(o:Op):Bool:=
 match o with
 | .call c=>(match c.callee with
  | .builtin .len=>true
  | _=>false)
 | _=>false
def zbq(anc:Tr Nat)(D:Nat)(G:List Nat):List Oper->Nat->Bool
 | [],_=>true
 | o::r,i=>bif (bif tb D i then(bif xN o.op then true else bif wI o.op then true else bif zj7 o.op then true else tC (fun g=>tb (xH anc g) i) G)else true)then zbq anc D G r (i+1)else false
def zv2(ops:List Oper)(anc:Tr Nat)(D:Nat)(st:xE):Option Nat:=
 ob (okG ops D st.again D) fun D1=>jA (zo8 anc D1 st.again ops 0&&zbq anc D st.again ops 0) (sK ops st.lights D1)
def rH(ops:List Oper)(anc:Tr Nat):List xE->Nat->Bool
 | [],D=>z0y D ops 0
 | st::r,D=>bif Nat.blt (aA ops) st.heavy then(bif Nat.blt (aA ops+aA ops) st.heavy then(match zv2 ops anc D st with
   | some D=>rH ops anc r D
   | none=>false)else bif z6e (lC ops (Nat.sub st.heavy (Nat.succ (aA ops))))then
   (match ob (wP ops (Nat.sub st.heavy (Nat.succ (aA ops))) D) fun D=>sK ops st.lights D with
   | some D=>rH ops anc r D
   | none=>false)else false)else bif zo9 st.heavy D ops 0 then(bif zhe (xH anc st.heavy) D st.again ops 0 then
   (match ob (wP ops st.heavy D) fun D=>sK ops st.lights D with
   | some D=>rH ops anc r D
   | none=>false)else false)else false
def zmh(ops:List Oper)(p:Plan):Bool:=
 bif zpa ops 0 then
  (match wrOf ops 0 .leaf with
  | none=>false
  | some wr=>
   (fun anc=>bif z0w wr anc p.olds ops 0 then(match sK ops p.first 0 with
    | some D=>rH ops anc p.stages D
    | none=>false)else false) (z7d ops 0 .leaf))else false
structure OkB where b:Bool
def vN(all:Array Oper)(p:Plan):Bool:=(OkB.mk (zmh all.toList p)).b
def ztj(id:Nat)(all:Array Oper):zJ:=fun C k tm R cs H=>
 pI (ob (ob (C.plans.get R.fn) fun t=>t.get id) fun p=>jA (vN all p) <| ob (oL C H all R.n tm.cut p.olds p.first tm.cut) fun tm'=>some ⟨⟨.reg all tm.cut p.olds p.stages::k,tm',R⟩,cs,H⟩) 10
def uI.asVal:uI->Option (zA × xA) | .val v H=>some (v,H) | _=>none
def fN(C:oA)(all:Array Oper)(k:List oD)(R:fH)(cs:List fB)(l:List Oper):Tm->xA->qE:=
 List.rec (motive:=fun _=>Tm->xA->qE) (fun tm H=>xGo k tm R cs H)
  (fun o rest g tm H=>
   match jE o.guard all tm with
   | some w=>Bool.rec (motive:=fun _=>qE) (g (putA R.n tm o.dst tD) H)
     (let r:=(aE o.op).f C (.now tm) H
     match r.asVal with
     | some p=>g (putA R.n tm o.dst p.1) p.2
     | none=>zV r C ⟨.ops all (o::rest)::k,tm,R⟩ cs H) w
   | none=>.fail 20) l
def xOps (all:Array Oper)(rest:List Oper):zJ:=fun C k tm R cs H=>fN C all k R cs rest tm H
def z4w(id:Nat)(all:Array Oper)(draw:Bool):XB:=
 match draw with
 | true=>⟨ztj id all⟩
 | false=>⟨fun C k tm R cs H=>fN C all k R cs all.toList tm.cut H⟩
def zn9(all:Array Oper)(old:Tm)(olds:List (Nat × List Nat))(st:xE)(stages:List xE)(o:Oper):zJ:=fun C k tm R cs H=>
 match jE o.guard all tm with
 | some w=>zV (bif w then(aE o.op).f C (.mixed tm old (kD st.heavy olds) (iF o.op)) H else .val tD H) C ⟨.reg all old olds (st::stages)::k,tm,R⟩ cs H
 | none=>.fail 21
def zb4(all:Array Oper)(old:Tm)(olds:List (Nat × List Nat))(st:xE)(stages:List xE):zJ:=fun C k tm R cs H=>
 pI (jA (wS C H all old olds tm st.again) (ob (oL C H all R.n old olds st.lights tm) fun tm=>some ⟨⟨.reg all old olds stages::k,tm,R⟩,cs,H⟩)) 11
def zob(all:Array Oper)(old:Tm)(olds:List (Nat × List Nat))(st:xE)(stages:List xE)(i:Nat):zJ:=fun C k tm R cs H=>
 pI (ob (lC all.toList i) fun o=>ob (jE o.guard all tm) fun w=>jA (w&&gG (z06 C o.op)) (ob ((aE o.op).f C (.mixed tm old (kD i olds) (iF o.op)) H).asVal fun p=>
  ob (oL C p.2 all R.n old olds st.lights (putA R.n tm o.dst p.1)) fun tm'=>some ⟨⟨.reg all old olds stages::k,tm',R⟩,cs,p.2⟩)) 23
inductive Eff where
 | store (t:Nat) (a v:zA)
 | upd (t:Nat) (m k v:zA)
inductive RE where
 | st (b off:Nat) (l:List zA)
 | up (b:Nat) (k v:zA)
def lO(op:Op)(e:nC):Option Eff:=
 match op with
 | .store t a x=>ob (ev a e) fun a=>ob (ev x e) fun v=>some (.store t a v)
 | .mapUpdate t m k x=>ob (ev m e) fun m=>ob (ev k e) fun k=>ob (ev x e) fun v=>some (.upd t m k v)
 | .insert t m k x=>ob (ev m e) fun m=>ob (ev k e) fun k=>ob (ev x e) fun v=>some (.upd t m k v)
 | _=>none
def uK (C:oA)(e:Eff):Option RE:=
 match e with
 | .store t a v=>ob (C.tys.get t) fun ty=>ob a.asPtr fun p=>jA (Nat.beq (aA v.cells) ty.size) (some (.st p.1 p.2 v.cells))
 | .upd t m k v=>ob (C.tys.get t) fun ty=>ob ty.desc.asMap fun ke=>ob (C.tys.get ke.1) fun kty=>jA (sN C kty&&mL C kty k) (ob m.asMap fun b=>some (.up b k v))
def RE.blk:RE->Nat
 | .st b _ _=>b
 | .up b _ _=>b
def zv7(a b:zA):Bool:=
 match kG a b with
 | some r => !r
 | none=>false
def zk0(a b:RE):Bool:=bif Nat.beq a.blk b.blk then(match a with
 | .st _ _ _=>false
 | .up _ k _=>(match b with
  | .st _ _ _=>false
  | .up _ k' _=>zv7 k k'))else true
def zgi:List RE->Bool
 | []=>true
 | a::l=>tC (zk0 a) l&&zgi l
def fP(C:oA)(H:xA)(e:RE):Option xA:=
 match e with
 | .st b off l=>lH C H b off l
 | .up b k v=>jA (!Nat.blt b C.base) (ob (bH H b) fun m=>some (setBlk H b (.map (eC m [(k,v)]))))
def tR(C:oA)(H:xA)(e:RE):Bool:=
 match e with
 | .st b off l => !gG (lH C H b off l)
 | .up b _ _ => !Nat.blt b C.base&&(match bH H b with
  | some []=>true
  | _=>false)
def zS(C:oA):List RE->xA->Option xA
 | [],H=>some H
 | e::l,H=>ob (fP C H e) fun H=>zS C l H
def jP(C:oA)(es:List Eff)(H:xA):Option xA:=ob (tF (uK C) es) fun rs=>jA (zgi rs&&tC (tR C H) rs) (zS C rs H)
def zev(all:Array Oper)(old:Tm)(olds:List (Nat × List Nat))(tm:Tm)(i:Nat):Option Eff:=
 ob (lC all.toList i) fun o=>ob (jE o.guard all tm) fun w=>jA w (lO o.op (.mixed tm old (kD i olds) (iF o.op)))
def zpe(C:oA)(o:Oper):Bool:=
 match o.op with
 | .call c=>(match c.callee with
  | .builtin .len=>(match ob (lC c.argTypes.toList 0) fun t=>C.tys.get t with
   | some ty => !Nat.beq ty.desc.tag 6
   | none=>false)
  | _=>true)
 | _=>true
def sP(C:oA)(all:Array Oper):Bool:=tC (zpe C) all.toList
def zsp(all:Array Oper)(old:Tm)(olds:List (Nat × List Nat))(tm:Tm)(l:List Nat):Option (List Eff):=tF (zev all old olds tm) l
def zoa(all:Array Oper)(old:Tm)(olds:List (Nat × List Nat))(st:xE)(stages:List xE):zJ:=fun C k tm R cs H=>
 pI (jA (sP C all) (ob (zsp all old olds tm st.again) fun es=>ob (jP C es H) fun H'=>ob (oL C H' all R.n old olds st.lights tm) fun tm'=>some ⟨⟨.reg all old olds stages::k,tm',R⟩,cs,H'⟩)) 24
def zqr (all:Array Oper)(old:Tm)(olds:List (Nat × List Nat))(stages:List xE):zJ:=
 match stages with
 | []=>zla
 | st::stages=>match lC all.toList st.heavy with
  | some o=>zn9 all old olds st stages o
  | none=>bif Nat.blt (aA all.toList) st.heavy then(bif Nat.blt (aA all.toList+aA all.toList) st.heavy then zoa all old olds st stages else zob all old olds st stages (Nat.sub st.heavy (Nat.succ (aA all.toList))))else zb4 all old olds st stages
def rQ(C:oA)(l:Nat)(f:zA):Option fB:=
 ob f.asFunc fun p=>match p.1 with
  | .func g=>match C.prims.get g with
   | none=>bI C g (eC p.2.1 (.func (.yld l) [] []::p.2.2)) false
   | some _=>none
  | .yld _=>none
def zie(f:Operand)(params:Array Nat)(assign body:Code):zJ:=fun C k tm R cs H=>
 pI (ob (ev f (.now tm)) fun v=>match R.roundOf with
  | none=>
   let r:=H.next
   let l:=r+1
   ob (rQ C l v) fun h=>
    some ⟨h,⟨.inRange l::k,tm,⟨R.fn,R.n,⟨none,r,[]⟩::R.defers,R.mode,R.deferred,R.roundOf⟩⟩::cs,
     newBlk (newBlk H (.deferred (some []))) (.loop ⟨.ready,none,R.fn,R.n,tm,params.toList,assign,body,r⟩)⟩
  | some outer=>ob (dH H outer) fun o=>
   let l:=H.next
   ob (rQ C l v) fun h=>
    some ⟨h,⟨.inRange l::k,tm,R⟩::cs,newBlk H (.loop ⟨.ready,none,R.fn,R.n,tm,params.toList,assign,body,o.defers⟩)⟩) 12
def LoopState.tag:LoopState->Nat | .ready=>0 | .busy=>1 | .done=>2 | .exhausted=>3
def zig:zJ:=fun _ k tm R cs H=>
 pI (ob R.roundOf fun l=>ob (dH H l) fun r=>jA (Nat.beq (LoopState.tag r.state) 0)
  (some ⟨⟨k,tm,R⟩,cs,setBlk H l (.loop ⟨.busy,r.pending,r.fn,r.n,r.tm,r.params,r.assign,r.body,r.defers⟩)⟩)) 13
def vV(l:Nat):zJ:=fun _ k tm R cs H=>
 pI (ob (dH H l) fun r=>jA (!Nat.beq (LoopState.tag r.state) 1)
  (some ⟨⟨(match r.pending with | some c=>.code c::k | none=>k),tm,R⟩,cs,setBlk H l (.loop ⟨.exhausted,r.pending,r.fn,r.n,r.tm,r.params,r.assign,r.body,r.defers⟩)⟩)) 14
def z4z:Code->XB
 | .skip=>⟨zla⟩
 | .region id ops d=>z4w id ops d
 | .seq a b=>⟨fun C k tm R cs H=>(z4z a).f C (.code b::k) tm R cs H⟩
 | .cond c x y=>⟨ztk c x y⟩
 | .block id c=>⟨z3a id c⟩
 | .loop c=>⟨z4x c⟩
 | .rangeFunc f ps a b=>⟨zie f ps a b⟩
 | .exit id=>⟨zif id⟩
 | .scope c=>⟨xScope c⟩
 | .label _=>⟨zla⟩
 | .goto _=>⟨z4y⟩
 | .ret=>⟨xRet⟩
 | .refuse _=>⟨z4y⟩
def xItem:oD->XB
 | .code c=>z4z c
 | .inBlock _=>⟨zla⟩
 | .inLoop c=>⟨z4x c⟩
 | .inScope _=>⟨zla⟩
 | .ops all rest=>⟨xOps all rest⟩
 | .reg all old olds stages=>⟨zqr all old olds stages⟩
 | .inRange _=>⟨z4y⟩
 | .endRange l=>⟨vV l⟩
 | .beginRound=>⟨zig⟩
def jL(C:oA)(todo:List oD)(tm:Tm)(R:fH)(cs:List fB)(H:xA):qE:=
 match todo with
 | []=>lM none C ⟨[],tm,R⟩ cs H
 | x::k=>(xItem x).f C k tm R cs H
def zi5(fr:fB)(d:List jH):fB:=⟨fr.todo,fr.tm,⟨fr.R.fn,fr.R.n,d,fr.R.mode,fr.R.deferred,fr.R.roundOf⟩⟩
def ziu(C:oA)(d:jH)(ds:List jH)(fr:fB)(cs:List fB)(H:xA):qE:=
 pI (match d.fn with
  | none=>ob (iP H d.r) fun l=>ob l fun l=>some ⟨zi5 fr (eC l ds),cs,setBlk H d.r (.deferred none)⟩
  | some (.func f)=>match C.prims.get f with
   | none=>ob (bI C f d.args true) fun g=>some ⟨g,zi5 fr ds::cs,H⟩
   | some _=>none
  | some (.yld _)=>none) 15
def lS(l:List zA):zA:=
 match l with
 | [v]=>v
 | l=>.tup l
def zcd(C:oA)(fr:fB)(cs:List fB)(H:xA):qE:=
 match ob (C.fns.get fr.R.fn) fun fn=>sQ C H fr.tm fn.results.toList with
 | none=>.fail 16
 | some l=>
  match cs with
  | []=>bif fr.R.deferred then .fail 17 else bif Nat.beq fr.R.fn C.root then .done (lS l) H else .fail 22
  | c::rest=>pI (bif fr.R.deferred then
    (match c.R.mode with
    | .panicking (⟨_,true⟩::_)=>some ⟨zcs c .returning,rest,H⟩
    | _=>jA (!c.R.mode.running) (some ⟨c,rest,H⟩))
   else ob (tG c (lS l)) fun c=>some ⟨c,rest,H⟩) 18
def zgq(C:oA)(fr:fB)(cs:List fB)(H:xA):qE:=
 match fr.R.defers with
 | d::ds=>ziu C d ds fr cs H
 | []=>match fr.R.mode.chain with
  | some chain=>pI (ob (C.fns.get fr.R.fn) fun _=>match cs with | c::rest=>some ⟨zoz c chain,rest,H⟩ | []=>none) 19
  | none=>zcd C fr cs H
def stepA(C:oA)(s:zM):qE:=
 match s with
 | ⟨⟨todo,tm,R⟩,cs,H⟩=>bif R.mode.running then jL C todo tm R cs H else zgq C ⟨todo,tm,R⟩ cs H
def zrd(C:oA)(o:qE):qE:=
 match o with
 | .next s=>stepA C s
 | .done v H=>.done v H
 | .fail n=>.fail n
def zrj (C:oA)(n:Nat):qE->qE:=
 Nat.rec (motive:=fun _=>qE->qE) (fun o=>zrd C o) (fun _ g o=>g (g o)) n
end Go.Am
namespace Go.Am
open Go
def uA{α β:Type}{x:Option α}{f:α->Option β}{b:β}:ob x f=some b ↔ ∃a,x=some a/\f a=some b:=by
 cases x with
 | none=>simp[ob]
 | some a=>exact⟨fun h=>⟨a,rfl,h⟩,fun⟨_,h,k⟩=>by cases h;exact k⟩
@[simp] theorem z5s {α β:Type} {f:α->Option β}:ob none f=none:=rfl
@[simp] theorem vA {α β:Type} {a:α} {f:α->Option β}:ob (some a) f=f a:=rfl
def zB{α:Type}{b:Bool}{x:Option α}{a:α}:jA b x=some a ↔ b=true/\x=some a:=by
 cases b with
 | false=>simp[jA]
 | true=>simp[jA]
def bG{α:Type}(a b:α)(c:Bool):(Bool.rec (motive:=fun _=>α) a b c:α)=if c=true then b else a:=by cases c<;>rfl
def pB{n m:Nat}:(Nat.beq n m=true) ↔ n=m:=⟨Nat.eq_of_beq_eq_true,fun h=>by subst h;exact Nat.beq_refl n⟩
def beqf{n m:Nat}:(Nat.beq n m=false) ↔ n≠m:=by
 rw[<- Bool.not_eq_true,pB]
def vE{n m:Nat}:(Nat.ble n m=true) ↔ n<=m:=Iff.of_eq Nat.ble_eq
def dB{n m:Nat}:(Nat.blt n m=true) ↔ n<m:=Iff.of_eq Nat.ble_eq
def iB{α:Type}(c:Bool)(a b:α):(bif c then a else b)=if c=true then a else b:=by cases c<;>rfl
namespace Tr
variable {α:Type}
def get_leaf(n:Nat):(leaf:Tr α).get n=none:=rfl
def get_node(l:Tr α)(v:Option α)(r:Tr α)(n:Nat) :
  (node l v r).get n=if n=0 then v else if n%2=1 then l.get (n / 2)else r.get (n / 2-1):=by
 show Bool.rec (motive:=fun _=>Option α) (Bool.rec (motive:=fun _=>Option α) (r.get (n / 2-1)) (l.get (n / 2)) (Nat.beq (n%2) 1)) v (Nat.beq n 0)=_
 rw[bG,bG];simp only[pB]
def z5u(f n:Nat)(v:α):mk (f+1) n v=if n=0 then node leaf (some v) leaf else if n%2=1 then node (mk f (n / 2) v) none leaf else node leaf none (mk f (n / 2-1) v):=by
 show Bool.rec (motive:=fun _=>Tr α) (Bool.rec (motive:=fun _=>Tr α) (node leaf none (mk f (n / 2-1) v)) (node (mk f (n / 2) v) none leaf) (Nat.beq (n%2) 1)) (node leaf (some v) leaf) (Nat.beq n 0)=_
 rw[bG,bG];simp only[pB]
def z0g(n:Nat)(v:α):(leaf:Tr α).set n v=mk (n+1) n v:=rfl
def z0f(l:Tr α)(x:Option α)(r:Tr α)(n:Nat)(v:α) :
  (node l x r).set n v=if n=0 then node l (some v) r else if n%2=1 then node (l.set (n / 2) v) x r else node l x (r.set (n / 2-1) v):=by
 show Bool.rec (motive:=fun _=>Tr α) (Bool.rec (motive:=fun _=>Tr α) (node l x (r.set (n / 2-1) v)) (node (l.set (n / 2) v) x r) (Nat.beq (n%2) 1)) (node l (some v) r) (Nat.beq n 0)=_
 rw[bG,bG];simp only[pB]
def z2j(l:Tr α)(x:Option α)(r:Tr α)(n:Nat) :
  (node l x r).del n=if n=0 then node l none r else if n%2=1 then node (l.del (n / 2)) x r else node l x (r.del (n / 2-1)):=by
 show Bool.rec (motive:=fun _=>Tr α) (Bool.rec (motive:=fun _=>Tr α) (node l x (r.del (n / 2-1))) (node (l.del (n / 2)) x r) (Nat.beq (n%2) 1)) (node l none r) (Nat.beq n 0)=_
 rw[bG,bG];simp only[pB]
def get_mk(f:Nat):∀(n m:Nat) (v:α),n<f->(mk f n v).get m=if m=n then some v else none:=by
 induction f with
 | zero=>intro n m v h;omega
 | succ f ih=>
  intro n m v h;rw[z5u];by_cases h0:n=0
  ·rw[yab h0,get_node];subst h0;split<;>simp[get_leaf]
  ·rw[yaa h0]
   by_cases h1:n%2=1
   ·rw[yab h1,get_node]
    by_cases m0:m=0
    ·rw[yab m0,yaa (by omega)]
    ·rw[yaa m0]
     by_cases m1:m%2=1
     ·rw[yab m1,ih _ _ _ (by omega)];by_cases e:m=n
      ·subst e;simp
      ·rw[yaa e,yaa (by omega)]
     ·rw[yaa m1,get_leaf,yaa (by omega)]
   ·rw[yaa h1,get_node]
    by_cases m0:m=0
    ·rw[yab m0,yaa (by omega)]
    ·rw[yaa m0]
     by_cases m1:m%2=1
     ·rw[yab m1,get_leaf,yaa (by omega)]
     ·rw[yaa m1,ih _ _ _ (by omega)];by_cases e:m=n
      ·subst e;simp
      ·rw[yaa e,yaa (by omega)]
def get_set(t:Tr α):∀(n m:Nat) (v:α),(t.set n v).get m=if m=n then some v else t.get m:=by
 induction t with
 | leaf=>intro n m v;rw[z0g,get_mk _ _ _ _ (by omega),get_leaf]
 | node l x r ihl ihr=>
  intro n m v;rw[z0f];by_cases h0:n=0
  ·rw[yab h0,get_node,get_node];subst h0;by_cases m0:m=0<;>simp[m0]
  ·rw[yaa h0]
   by_cases h1:n%2=1
   ·rw[yab h1,get_node,get_node]
    by_cases m0:m=0
    ·rw[yab m0,yab m0,yaa (by omega)]
    ·rw[yaa m0,yaa m0]
     by_cases m1:m%2=1
     ·rw[yab m1,yab m1,ihl];by_cases e:m=n
      ·subst e;simp
      ·rw[yaa e,yaa (by omega)]
     ·rw[yaa m1,yaa m1,yaa (by omega)]
   ·rw[yaa h1,get_node,get_node]
    by_cases m0:m=0
    ·rw[yab m0,yab m0,yaa (by omega)]
    ·rw[yaa m0,yaa m0]
     by_cases m1:m%2=1
     ·rw[yab m1,yab m1,yaa (by omega)]
     ·rw[yaa m1,yaa m1,ihr];by_cases e:m=n
      ·subst e;simp
      ·rw[yaa e,yaa (by omega)]
def get_del(t:Tr α):∀(n m:Nat),(t.del n).get m=if m=n then none else t.get m:=by
 induction t with
 | leaf=>intro n m;show(leaf:Tr α).get m=_;rw[get_leaf];split<;>rfl
 | node l x r ihl ihr=>
  intro n m;rw[z2j];by_cases h0:n=0
  ·rw[yab h0,get_node,get_node];subst h0;by_cases m0:m=0<;>simp[m0]
  ·rw[yaa h0]
   by_cases h1:n%2=1
   ·rw[yab h1,get_node,get_node]
    by_cases m0:m=0
    ·rw[yab m0,yab m0,yaa (by omega)]
    ·rw[yaa m0,yaa m0]
     by_cases m1:m%2=1
     ·rw[yab m1,yab m1,ihl];by_cases e:m=n
      ·subst e;simp
      ·rw[yaa e,yaa (by omega)]
     ·rw[yaa m1,yaa m1,yaa (by omega)]
   ·rw[yaa h1,get_node,get_node]
    by_cases m0:m=0
    ·rw[yab m0,yab m0,yaa (by omega)]
    ·rw[yaa m0,yaa m0]
     by_cases m1:m%2=1
     ·rw[yab m1,yab m1,yaa (by omega)]
     ·rw[yaa m1,yaa m1,ihr];by_cases e:m=n
      ·subst e;simp
      ·rw[yaa e,yaa (by omega)]
def many_succ(t:Tr α)(n i:Nat):t.many (n+1) i=ob (t.get i) fun v=>ob (t.many n (i+1)) fun l=>some (v::l):=rfl
def many_some(t:Tr α)(n:Nat):∀(i:Nat) (l:List α),t.many n i=some l->l.length=n/\∀j,j<n->t.get (i+j)=l[j]?:=by
 induction n with
 | zero=>intro i l h;cases h;exact⟨rfl,fun j hj=>by omega⟩
 | succ n ih=>
  intro i l h;rw[many_succ,uA]at h;obtain⟨v,hv,h⟩:=h
  rw[uA]at h;obtain⟨m,hm,h⟩:=h
  cases h;obtain⟨h1,h2⟩:=ih _ _ hm
  refine⟨by simp[h1],fun j hj=>?_⟩
  cases j with
  | zero=>simpa using hv
  | succ j=>have:=h2 j (by omega);rw[show i+1+j=i+(j+1) by omega]at this;simpa using this
def zi4(v:α)(l:List α)(t:Tr α)(i:Nat):setMany (v::l) t i=setMany l (t.set i v) (i+1):=rfl
def get_setMany(l:List α):∀(t:Tr α) (i m:Nat),(setMany l t i).get m=if i<=m/\m<i+l.length then l[m-i]? else t.get m:=by
 induction l with
 | nil=>intro t i m;rw[yaa (by simp)];rfl
 | cons v l ih=>
  intro t i m;rw[zi4,ih,get_set];by_cases h:i+1<=m/\m<i+1+l.length
  ·rw[yab h,yab (by simp;omega)]
   rw[show m-i=(m-(i+1))+1 by omega];simp
  ·rw[yaa h]
   by_cases e:m=i
   ·subst e;simp
   ·rw[yaa e,yaa (by simp;omega)]
def get_ofList(l:List α)(m:Nat):(ofList l).get m=l[m]?:=by
 unfold ofList;rw[get_setMany];split
 ·simp
 ·rename_i h;rw[get_leaf,List.getElem?_eq_none (by omega)]
end Tr
def oF{α:Type}(l:List α):∀n,lC l n=l[n]?:=by
 induction l with
 | nil=>intro n;rfl
 | cons a l ih=>
  intro n
  cases n with
  | zero=>rfl
  | succ n=>show lC l n=_;rw[ih];simp
def rP{α:Type}(l:List α):∀n,nL l n=l.drop n:=by
 induction l with
 | nil=>intro n;simp;rfl
 | cons a l ih=>
  intro n
  cases n with
  | zero=>rfl
  | succ n=>show nL l n=_;rw[ih];simp
def yO{α:Type}(l:List α):∀n,zes l n=l.take n:=by
 induction l with
 | nil=>intro n;simp;rfl
 | cons a l ih=>
  intro n
  cases n with
  | zero=>rfl
  | succ n=>show a::zes l n=_;rw[ih];simp
def gC{α:Type}(l:List α):aA l=l.length:=by
 induction l with
 | nil=>rfl
 | cons a l ih=>show aA l+1=_;rw[ih];rfl
def oG{α:Type}(l m:List α):eC l m=l++m:=by
 induction l with
 | nil=>rfl
 | cons a l ih=>show a::eC l m=_;rw[ih];rfl
def cG{α:Type}(p:α->Bool)(l:List α):tC p l=l.all p:=by
 induction l with
 | nil=>rfl
 | cons a l ih=>show(bif p a then tC p l else false)=_;rw[ih];cases h:p a<;>simp[h]
def pK{α β:Type}(f:α->Option β)(a:α)(l:List α):tF f (a::l)=ob (f a) fun b=>ob (tF f l) fun r=>some (b::r):=rfl
def dS{α β:Type}(f:α->Option β):tF f []=some []:=rfl
def aN(i:Nat)(l:List Nat):pF i l=true ↔ i∈l:=by
 induction l with
 | nil=>exact⟨fun h=>(by cases h),fun h=>(by cases h)⟩
 | cons j l ih=>
  show(bif Nat.beq i j then true else pF i l)=true ↔ _
  rw[iB,ybs];by_cases h:Nat.beq i j=true
  ·rw[yab h];exact⟨fun _=>.inl (pB.1 h),fun _=>rfl⟩
  ·rw[yaa h,ih];exact⟨.inr,fun k=>k.resolve_left fun e=>h (pB.2 e)⟩
def mK(a:List Nat):∀b,xG a b=true ↔ a=b:=by
 induction a with
 | nil=>intro b;cases b with
  | nil=>exact⟨fun _=>rfl,fun _=>rfl⟩
  | cons y b=>exact⟨fun h=>(by cases h),fun h=>(by cases h)⟩
 | cons x a ih=>
  intro b
  cases b with
  | nil=>exact⟨fun h=>(by cases h),fun h=>(by cases h)⟩
  | cons y b=>
   show(bif Nat.beq x y then xG a b else false)=true ↔ _
   rw[iB];by_cases h:Nat.beq x y=true
   ·rw[yab h,ih,pB.1 h];simp
   ·rw[yaa h];exact⟨fun h=>(by cases h),fun e=>(h (by rw[pB];injection e)).elim⟩
def nI{a b:IntKind}:kEq a b=true ↔ a=b:=by cases a<;>cases b<;>simp[kEq,kIdx]
def fQ(a b:Bool):bEq a b=(a == b):=by cases a<;>cases b<;>rfl
def mP(a b:Int):uB a b=true ↔ a=b:=by
 cases a<;>cases b<;>simp only[uB,pB] <;> (try simp)<;>omega
def zhr(a b:Int):sD a b=true ↔ a<=b:=by
 cases a<;>cases b<;>simp only[sD,vE] <;> (try simp)<;>omega
def mU(a b:Int):vC a b=true ↔ a<b:=by
 cases a<;>cases b<;>simp only[vC,dB] <;> (try simp)<;>omega
def lP(a b:Int):uB a b=(a == b):=by rw[Bool.eq_iff_iff,mP];simp
def z4l(a b:Int):sD a b=decide (a<=b):=by rw[Bool.eq_iff_iff,zhr];simp
def z4k(a b:Int):vC a b=decide (a<b):=by rw[Bool.eq_iff_iff,mU];simp
def zK(k:IntKind)(n:Int):tA k n=k.wrap n:=by
 cases n with
 | ofNat n=>
  show(bif Nat.blt n (nF k)then Int.ofNat n else _)=_
  rw[iB];by_cases h:Nat.blt n (nF k)=true
  ·rw[yab h]
   have h':=dB.1 h
   cases k<;>simp only[nF]at h'<;>simp only[IntKind.wrap,IntKind.bits,IntKind.signed]<;>simp<;>omega
  ·rw[yaa h]
 | negSucc n=>
  show(bif Nat.blt n (kLo k)then Int.negSucc n else _)=_
  rw[iB];by_cases h:Nat.blt n (kLo k)=true
  ·rw[yab h]
   have h':=dB.1 h
   cases k<;>simp only[kLo]at h'<;>simp only[IntKind.wrap,IntKind.bits,IntKind.signed]<;>simp<;>omega
  ·rw[yaa h]
def bV{n:Int}{m:Nat}:jI n=some m ↔ n=(m:Int):=by
 cases n with
 | ofNat a=>simp only[jI,Option.some.injEq];exact⟨fun h=>(by rw[h];rfl),fun h=>Int.ofNat.inj h⟩
 | negSucc a=>simp only[jI];exact⟨fun h=>(by cases h),fun h=>(by cases h)⟩
end Go.Am
namespace Go.Am
open Go
def nU{a b:zA}{r:Bool}(h:bK a b=some r) :
  (∃k x y,a=.int k x/\b=.int k y/\r=(x == y))\/(∃x y,a=.str x/\b=.str y/\r=xG x y)\/(∃x y,a=.bool x/\b=.bool y/\r=(x == y)):=by
 cases a<;>simp only[bK,zA.asIntK,zA.asStr,zf6,zA.asBool]at h<;>try (cases h;done)
 case bool x=>
  rw[vA,uA]at h;obtain⟨y,hy,h⟩:=h
  cases b<;>simp[zA.asBool]at hy
  cases h;exact .inr (.inr ⟨_,_,rfl,rfl,by rw[hy];exact fQ _ _⟩)
 case int k x=>
  rw[uA]at h;obtain⟨y,hy,h⟩:=h
  cases b<;>simp[zA.asIntK]at hy
  rw[zB]at h;obtain⟨hk,h⟩:=h
  cases h;rw[nI]at hk;subst hy;refine .inl ⟨k,x,_,rfl,?_,lP _ _⟩
  rw[show k=_ from hk]
 case str x=>
  rw[uA]at h;obtain⟨y,hy,h⟩:=h
  cases b<;>simp[zA.asStr]at hy
  cases h;subst hy;exact .inr (.inl ⟨_,_,rfl,rfl,rfl⟩)
def zdm{a b:zA}(h:bK a b=some true):a=b:=by
 rcases nU h with⟨k,x,y,rfl,rfl,hr⟩ | ⟨x,y,rfl,rfl,hr⟩ | ⟨x,y,rfl,rfl,hr⟩
 ·rw[eq_of_beq hr.symm]
 ·rw[(mK _ _).1 hr.symm]
 ·rw[eq_of_beq hr.symm]
def zdn{a b:zA}{r:Bool}(h:bK a b=some r):bK b a=some r:=by
 rcases nU h with⟨k,x,y,rfl,rfl,hr⟩ | ⟨x,y,rfl,rfl,hr⟩ | ⟨x,y,rfl,rfl,hr⟩
 ·have e:uB y x=(x == y):=by rw[lP,Bool.eq_iff_iff,beq_iff_eq,beq_iff_eq];exact eq_comm
  show jA (kEq k k) (some (uB y x))=_
  rw[e,hr];exact zB.2 ⟨nI.2 rfl,rfl⟩
 ·simp only[bK,zA.asIntK,zA.asStr,vA]
  rw[hr];congr 1
  rw[Bool.eq_iff_iff,mK,mK];exact eq_comm
 ·simp only[bK,zA.asIntK,zA.asStr,zf6,zA.asBool,fQ,vA,hr]
  rw[show(y == x)=(x == y) by cases x<;>cases y<;>rfl]
def zdg:∀ {x y:List zA},uN x y=some true->x=y
 | [],[],_=>rfl
 | a::x,b::y,h=>by
  simp only[uN,uA]at h;obtain⟨r,hr,s,hs,h⟩:=h
  cases r<;>cases s<;>simp at h
  rw[zdm hr,zdg hs]
 | [],_::_,h=>by cases h
 | _::_,[],h=>by cases h
def zdh:∀ {x y:List zA} {r:Bool},uN x y=some r->uN y x=some r
 | [],[],_,h=>h
 | a::x,b::y,r,h=>by
  simp only[uN,uA]at h ⊢
  obtain⟨r1,hr,s,hs,h⟩:=h
  exact⟨r1,zdn hr,s,zdh hs,h⟩
 | [],_::_,_,h=>by cases h
 | _::_,[],_,h=>by cases h
def vW{a b:zA}{r:Bool}(h:kG a b=some r):(∃x y,a=.agg x/\b=.agg y/\uN x y=some r)\/(a.asAgg=none/\bK a b=some r):=by
 unfold kG at h;split at h
 ·rename_i x hx
  rw[uA]at h;obtain⟨y,hy,h⟩:=h
  cases a<;>simp[zA.asAgg]at hx
  cases b<;>simp[zA.asAgg]at hy
  subst hx;subst hy;exact .inl ⟨_,_,rfl,rfl,h⟩
 ·rename_i hx
  exact .inr ⟨hx,h⟩
def zw5{a b:zA}{r:Bool}(h:bK a b=some r):kG a b=some r:=by
 rcases nU h with⟨k,x,y,rfl,rfl,hr⟩ | ⟨x,y,rfl,rfl,hr⟩ | ⟨x,y,rfl,rfl,hr⟩<;>exact h
def zfz{a b:zA}(h:kG a b=some true):a=b:=by
 rcases vW h with⟨x,y,rfl,rfl,h⟩ | ⟨_,h⟩
 ·rw[zdg h]
 ·exact zdm h
def wW{a b:zA}{r:Bool}(h:kG a b=some r):kG b a=some r:=by
 rcases vW h with⟨x,y,rfl,rfl,h⟩ | ⟨_,h⟩
 ·exact zdh h
 ·exact zw5 (zdn h)
def DK (l:List (zA × zA)):Prop:=l.Pairwise fun p q=>kG p.1 q.1=some false
def xV(l l':List (zA × zA)):Prop:=l'=l\/(l.Perm l'/\DK l)
def DK.perm{l l':List (zA × zA)}(h:DK l)(p:l.Perm l'):DK l':=(p.pairwise_iff (fun hab=>wW hab)).1 h
def zaw{k:zA}:∀ {l:List (zA × zA)},cH k l=some none ↔ ∀e∈l,kG k e.1=some false
 | []=>by simp[cH]
 | e::l=>by
  rw[cH,uA];constructor
  ·rintro⟨r,hr,h⟩
   cases r with
   | true=>cases h
   | false=>
    rw[cond_false]at h;intro x hx;rcases ybs.1 hx with rfl | hx
    ·exact hr
    ·exact zaw.1 h x hx
  ·intro h
   exact⟨false,h e (.head _),zaw.2 fun x hx=>h x (.tail _ hx)⟩
def zdy{k v:zA}:∀ {l:List (zA × zA)},cH k l=some (some v)->(k,v)∈l/\kG k k=some true
 | [],h=>by cases h
 | e::l,h=>by
  rw[cH,uA]at h;obtain⟨r,hr,h⟩:=h
  cases r with
  | true=>
   rw[cond_true]at h
   cases h;have:=zfz hr
   refine⟨?_,by rw[<- this]at hr;exact hr⟩
   have e0:(k,e.2)=e:=by rw[this]
   rw[e0];exact .head _
  | false=>
   rw[cond_false]at h;obtain⟨h1,h2⟩:=zdy h
   exact⟨.tail _ h1,h2⟩
def DK.split{k v:zA}{l m:List (zA × zA)}(h:DK (l++(k,v)::m)):(∀e∈l,kG k e.1=some false)/\∀e∈m,kG k e.1=some false:=by
 unfold DK at h;rw[List.pairwise_append]at h;obtain⟨_,h2,h3⟩:=h
 rw[List.pairwise_cons]at h2;exact⟨fun e he=>wW (h3 e he (k,v) (.head _)),fun e he=>h2.1 e he⟩
def zsi{k:zA}{l m:List (zA × zA)}(h:∀e∈l,kG k e.1=some false):cH k (l++m)=cH k m:=by
 induction l with
 | nil=>rfl
 | cons e l ih=>
  rw[List.cons_append,cH,h e (.head _),vA,cond_false]
  exact ih fun x hx=>h x (.tail _ hx)
def zsj{k:zA}{l l':List (zA × zA)}{r:Option zA}(h:xV l l')(hf:cH k l=some r):cH k l'=some r:=by
 rcases h with rfl | ⟨p,d⟩
 ·exact hf
 cases r with
 | none=>
  rw[zaw]at hf ⊢
  exact fun e he=>hf e (p.mem_iff.2 he)
 | some v=>
  obtain⟨h1,h2⟩:=zdy hf
  obtain⟨a,b,rfl⟩:=List.append_of_mem (p.mem_iff.1 h1)
  rw[zsi (d.perm p).split.1,cH,h2,vA,cond_true]
def yZ{k v:zA}:∀ {l:List (zA × zA)},(∀e∈l,kG k e.1=some false)->sJ k v l=some (l++[(k,v)])
 | [],_=>rfl
 | e::l,h=>by
  rw[sJ,h e (.head _),vA,cond_false,yZ fun x hx=>h x (.tail _ hx)]
  rfl
def zct{k v u:zA}{m:List (zA × zA)}(hk:kG k k=some true):∀ {l:List (zA × zA)},(∀e∈l,kG k e.1=some false)->sJ k v (l++(k,u)::m)=some (l++(k,v)::m)
 | [],_=>by rw[yah,sJ,hk];rfl
 | e::l,h=>by
  rw[List.cons_append,sJ,h e (.head _),vA,cond_false,zct hk fun x hx=>h x (.tail _ hx)]
  rfl
def za2{k v:zA}:∀ {l r:List (zA × zA)},sJ k v l=some r->((∀e∈l,kG k e.1=some false)/\r=l++[(k,v)])\/(kG k k=some true/\∃a u b,l=a++(k,u)::b/\r=a++(k,v)::b)
 | [],r,h=>by cases h;exact .inl ⟨fun e he=>(by cases he),rfl⟩
 | e::l,r,h=>by
  rw[sJ,uA]at h;obtain⟨q,hq,h⟩:=h
  cases q with
  | true=>
   rw[cond_true]at h
   cases h;have:=zfz hq
   refine .inr ⟨by rw[<- this]at hq;exact hq,[],e.2,l,?_,rfl⟩
   rw[yah,this]
  | false=>
   rw[cond_false,uA]at h;obtain⟨r',hr,h⟩:=h
   cases h;rcases za2 hr with⟨h1,rfl⟩ | ⟨h0,a,u,b,rfl,rfl⟩
   ·refine .inl ⟨fun x hx=>?_,rfl⟩
    rcases ybs.1 hx with rfl | hx
    ·exact hq
    ·exact h1 x hx
   ·exact .inr ⟨h0,e::a,u,b,rfl,rfl⟩
def zi3{k v:zA}{l l' r:List (zA × zA)}(h:xV l l')(hs:sJ k v l=some r):∃r',sJ k v l'=some r'/\xV r r':=by
 rcases h with rfl | ⟨p,d⟩
 ·exact⟨r,hs,.inl rfl⟩
 rcases za2 hs with⟨h1,rfl⟩ | ⟨h0,a,u,b,rfl,rfl⟩
 ·refine⟨_,yZ fun e he=>h1 e (p.mem_iff.2 he),.inr ⟨p.append_right _,?_⟩⟩
  unfold DK;rw[List.pairwise_append];exact⟨d,by simp,fun x hx y hy=>by simp at hy;subst hy;exact wW (h1 x hx)⟩
 ·obtain⟨a',b',rfl⟩:=List.append_of_mem (p.mem_iff.1 (ycf a (.head b)))
  refine⟨_,zct h0 (d.perm p).split.1,.inr ⟨?_,?_⟩⟩
  ·have p1:(a++b).Perm (a'++b'):=by
    have q1:(a++(k,u)::b).Perm ((k,u)::(a++b)):=List.perm_middle
    have q2:(a'++(k,u)::b').Perm ((k,u)::(a'++b')):=List.perm_middle
    exact(q1.symm.trans (p.trans q2)).cons_inv
   exact List.perm_middle.trans ((p1.cons _).trans List.perm_middle.symm)
  ·unfold DK at d ⊢
   rw[List.pairwise_append,List.pairwise_cons]at d ⊢
   obtain⟨d1,⟨d2,d3⟩,d4⟩:=d
   refine⟨d1,⟨d2,d3⟩,fun x hx y hy=>?_⟩
   rcases ybs.1 hy with rfl | hy
   ·exact d4 x hx (k,u) (.head _)
   ·exact d4 x hx y (.tail _ hy)
end Go.Am
namespace Go.Am
open Go
structure BI where
 b:Nat
 tight:Bool
 es:Nat
 room:Nat
 ro:Bool
structure Mu where
 m:Nat->Option BI
 pd:Nat->Option (qA × Nat × Nat)
instance:CoeFun Mu fun _=>Nat->Option BI:=⟨Mu.m⟩
def Mu.lw(μ ν:Mu):Prop:=∀a i,μ a=some i->ν a=some i
structure Mu.le (μ ν:Mu):Prop where
 f:∀a i,μ a=some i->ν a=some i
 pd:ν.pd=μ.pd
instance {μ ν:Mu}:CoeFun (μ.le ν) fun _=>∀a i,μ a=some i->ν a=some i:=⟨Mu.le.f⟩
instance {μ ν:Mu}:Coe (μ.le ν) (μ.lw ν):=⟨Mu.le.f⟩
def Mu.le_refl(μ:Mu):μ.le μ:=⟨fun _ _ h=>h,rfl⟩
def Mu.le_trans{a b c:Mu}(h:a.le b)(k:b.le c):a.le c:=⟨fun x i hx=>k.f x i (h.f x i hx),k.pd.trans h.pd⟩
def zta(μ:Mu):AFn->Fn->Prop
 | .func f,fn=>fn=.func f
 | .yld l,fn=>∃i,μ l=some i/\fn=.yield i.b
mutual
def wA (μ:Mu):zA->Value->Prop
 | .bool b,v=>v=.bool b
 | .int k n,v=>v=.int k n
 | .str l,v=>∃s,v=.string s/\aD s=l
 | .nilptr,v=>v=.pointer none
 | .ptr b off,v=>∃i,μ b=some i/\v=.pointer (some ⟨i.b,off,none⟩)
 | .nilslice,v=>v=.slice none 0 0
 | .slice b off len cap,v=>(∃i cap',μ b=some i/\v=.slice (some ⟨i.b,off,none⟩) len cap'/\cap<=cap'/\(i.tight=true->cap'=cap)/\(i.tight=false->off+cap'*i.es<=i.room))\/(b=0/\len=0/\cap=0/\∃a c,v=.slice (some a) 0 c/\(off=0/\c=0\/off=1))
 | .nilmap,v=>v=.map none
 | .map b,v=>∃i,μ b=some i/\v=.map (some i.b)
 | .func f a c,v=>∃fn a' c',v=.func fn a' c'/\zta μ f fn/\yB μ a a'.toList/\yB μ c c'.toList
 | .nilfunc,v=>v=.nilFunc
 | .iface t x,v=>∃x',v=.iface t x'/\wA μ x x'
 | .niliface,v=>v=.nilIface
 | .agg l,v=>∃cs,v=.agg cs/\yB μ l cs.toList
 | .tup l,v=>∃cs,v=.tuple cs/\yB μ l cs.toList
def yB (μ:Mu):List zA->List Value->Prop
 | [],m=>m=[]
 | a::l,m=>∃v r,m=v::r/\wA μ a v/\yB μ l r
end
def zta.mono{μ ν:Mu}(h:μ.lw ν){f:AFn}{g:Fn}(k:zta μ f g):zta ν f g:=by
 cases f with
 | func f=>exact k
 | yld l=>obtain⟨i,h1,h2⟩:=k;exact⟨i,h _ _ h1,h2⟩
mutual
def wA.mono{μ ν:Mu}(h:μ.lw ν):∀(a:zA) (v:Value),wA μ a v->wA ν a v
 | .bool _,_,k=>k
 | .int _ _,_,k=>k
 | .str _,_,k=>k
 | .nilptr,_,k=>k
 | .ptr _ _,_,⟨i,h1,h2⟩=>⟨i,h _ _ h1,h2⟩
 | .nilslice,_,k=>k
 | .slice _ _ _ _,_,.inl ⟨i,c,h1,h2⟩=>.inl ⟨i,c,h _ _ h1,h2⟩
 | .slice _ _ _ _,_,.inr k=>.inr k
 | .nilmap,_,k=>k
 | .map _,_,⟨i,h1,h2⟩=>⟨i,h _ _ h1,h2⟩
 | .func _ a c,_,⟨fn,a',c',h1,h2,h3,h4⟩=>⟨fn,a',c',h1,h2.mono h,yB.mono h a _ h3,yB.mono h c _ h4⟩
 | .nilfunc,_,k=>k
 | .iface _ x,_,⟨x',h1,h2⟩=>⟨x',h1,wA.mono h x _ h2⟩
 | .niliface,_,k=>k
 | .agg l,_,⟨cs,h1,h2⟩=>⟨cs,h1,yB.mono h l _ h2⟩
 | .tup l,_,⟨cs,h1,h2⟩=>⟨cs,h1,yB.mono h l _ h2⟩
def yB.mono{μ ν:Mu}(h:μ.lw ν):∀(l:List zA) (m:List Value),yB μ l m->yB ν l m
 | [],_,k=>k
 | a::l,_,⟨v,r,h1,h2,h3⟩=>⟨v,r,h1,wA.mono h a v h2,yB.mono h l r h3⟩
end
def yB.length{μ:Mu}{l:List zA}:∀ {m:List Value},yB μ l m->m.length=l.length:=by
 induction l with
 | nil=>intro m h;rw[yB]at h;rw[h];rfl
 | cons a l ih=>intro m h;rw[yB]at h;obtain⟨v,r,rfl,_,h3⟩:=h;simp[ih h3]
def yB.get{μ:Mu}{l:List zA}:∀ {m:List Value} {i:Nat} {a:zA},yB μ l m->l[i]?=some a->∃v,m[i]?=some v/\wA μ a v:=by
 induction l with
 | nil=>intro m i a _ h;simp at h
 | cons b l ih=>
  intro m i a h hi;rw[yB]at h;obtain⟨v,r,rfl,h2,h3⟩:=h
  cases i with
  | zero=>simp at hi;subst hi;exact⟨v,by simp,h2⟩
  | succ i=>simp at hi;obtain⟨u,hu,hr⟩:=ih h3 hi;exact⟨u,by simpa using hu,hr⟩
def yB.mk{μ:Mu}{l:List zA}:∀ {m:List Value},m.length=l.length->(∀(i:Nat) a v,l[i]?=some a->m[i]?=some v->wA μ a v)->yB μ l m:=by
 induction l with
 | nil=>intro m h _;rw[yB];simpa using h
 | cons a l ih=>
  intro m h k
  cases m with
  | nil=>simp at h
  | cons v r=>
   rw[yB];exact⟨v,r,rfl,k 0 a v (by simp) (by simp),ih (by simpa using h) fun i a v h1 h2=>k (i+1) a v (by simpa using h1) (by simpa using h2)⟩
def yB.append{μ:Mu}{l l':List zA}:∀ {m m':List Value},yB μ l m->yB μ l' m'->yB μ (l++l') (m++m'):=by
 induction l with
 | nil=>intro m m' h h';rw[yB]at h;subst h;exact h'
 | cons a l ih=>intro m m' h h';rw[yB]at h;obtain⟨v,r,rfl,h2,h3⟩:=h;rw[List.cons_append,yB];exact⟨v,r++m',rfl,h2,ih h3 h'⟩
def yB.drop{μ:Mu}{l:List zA}{m:List Value}(h:yB μ l m)(n:Nat):yB μ (l.drop n) (m.drop n):=by
 refine yB.mk (by simp[h.length]) fun i a v h1 h2=>?_
 rw[yde]at h1 h2;obtain⟨u,hu,hr⟩:=h.get h1
 rw[hu]at h2;cases h2;exact hr
def yB.take{μ:Mu}{l:List zA}{m:List Value}(h:yB μ l m)(n:Nat):yB μ (l.take n) (m.take n):=by
 refine yB.mk (by simp[h.length]) fun i a v h1 h2=>?_
 rw[ydf]at h1 h2;split at h1
 ·rename_i hi
  rw[yab hi]at h2;obtain⟨u,hu,hr⟩:=h.get h1
  rw[hu]at h2;cases h2;exact hr
 ·cases h1
def yB.nil{μ:Mu}:yB μ [] []:=by rw[yB]
def yB.cons{μ:Mu}{a:zA}{l:List zA}{v:Value}{m:List Value}(h:wA μ a v)(k:yB μ l m):yB μ (a::l) (v::m):=by rw[yB];exact⟨v,m,rfl,h,k⟩
def yB.single{μ:Mu}{a:zA}{v:Value}(h:wA μ a v):yB μ [a] [v]:=.cons h .nil
def eQ{v:zA}{b:Bool}:v.asBool=some b ↔ v=.bool b:=by cases v<;>simp[zA.asBool]
def zay{v:zA}{n:Int}:v.asInt=some n ↔ ∃k,v=.int k n:=by cases v<;>simp[zA.asInt]
def hO{v:zA}{p:IntKind × Int}:v.asIntK=some p ↔ v=.int p.1 p.2:=by cases v<;>simp[zA.asIntK,Prod.ext_iff]
def iO{v:zA}{l:List Nat}:v.asStr=some l ↔ v=.str l:=by cases v<;>simp[zA.asStr]
def kT{v:zA}{p:Nat × Nat}:v.asPtr=some p ↔ v=.ptr p.1 p.2:=by cases v<;>simp[zA.asPtr,Prod.ext_iff]
def aR{v:zA}{p:Nat × Nat × Nat × Nat}:v.asSlice=some p ↔ v=.slice p.1 p.2.1 p.2.2.1 p.2.2.2:=by cases v<;>simp[zA.asSlice,Prod.ext_iff]
def kY{v:zA}{b:Nat}:v.asMap=some b ↔ v=.map b:=by cases v<;>simp[zA.asMap]
def bU{v:zA}{l:List zA}:v.asAgg=some l ↔ v=.agg l:=by cases v<;>simp[zA.asAgg]
def zs3{v:zA}{l:List zA}:v.asTup=some l ↔ v=.tup l:=by cases v<;>simp[zA.asTup]
def zea{v:zA}{p:AFn × List zA × List zA}:v.asFunc=some p ↔ v=.func p.1 p.2.1 p.2.2:=by cases v<;>simp[zA.asFunc,Prod.ext_iff]
def zbd{v:zA}{p:Nat × zA}:v.asIface=some p ↔ v=.iface p.1 p.2:=by cases v<;>simp[zA.asIface,Prod.ext_iff]
def lY{v:zA}{n:Nat}:v.asNat=some n ↔ ∃k,v=.int k (n:Int):=by
 unfold zA.asNat;rw[uA];constructor
 ·rintro⟨a,h1,h2⟩;rw[zay]at h1;obtain⟨k,rfl⟩:=h1;exact⟨k,by rw[bV.1 h2]⟩
 ·rintro⟨k,rfl⟩;exact⟨n,rfl,rfl⟩
def xP{v:zA}:(v.tag=3 ↔ v=.nilptr)/\(v.tag=5 ↔ v=.nilslice)/\(v.tag=7 ↔ v=.nilmap)/\(v.tag=10 ↔ v=.nilfunc)/\(v.tag=12 ↔ v=.niliface):=by
 cases v<;>simp[zA.tag]
def wA.notAgg{μ:Mu}{a:zA}{v:Value}(h:wA μ a v)(ha:a.asAgg=none):v.cells = #[v]:=by
 cases a<;>rw[wA]at h<;>first
  | (subst h;rfl)
  | (rcases h with⟨_,_,_,rfl,_⟩ | ⟨_,_,_,_,_,rfl,_⟩<;>rfl)
  | (obtain⟨_,rfl,_⟩:=h;rfl)
  | (obtain⟨_,_,rfl⟩:=h;rfl)
  | (obtain⟨_,_,_,rfl,_⟩:=h;rfl)
  | (simp[zA.asAgg]at ha)
def wA.one{μ:Mu}{a:zA}{v:Value}(h:wA μ a v)(ha:a.one=true):v.oneCell'=true:=by
 cases a<;>rw[wA]at h<;>first
  | (subst h;rfl)
  | (rcases h with⟨_,_,_,rfl,_⟩ | ⟨_,_,_,_,_,rfl,_⟩<;>rfl)
  | (obtain⟨_,rfl,_⟩:=h;rfl)
  | (obtain⟨_,_,rfl⟩:=h;rfl)
  | (obtain⟨_,_,_,rfl,_⟩:=h;rfl)
  | (revert ha;decide)
  | (have:=dB.1 ha;simp[zA.tag]at this)
def sY{μ:Mu}{a:zA}{v:Value}(h:wA μ a v):yB μ a.cells v.cells.toList:=by
 unfold zA.cells
 cases ha:a.asAgg with
 | none=>rw[h.notAgg ha];exact yB.single h
 | some l=>rw[bU.1 ha,wA]at h;obtain⟨cs,rfl,h⟩:=h;exact h
def lK(P:Program)(t:Nat):rD:=
 match P.underlying t with
 | some .bool=>.bool
 | some (.int k)=>.int k
 | some .string=>.string
 | some (.pointer e)=>.ptr e
 | some (.slice e)=>.slice e
 | some (.array n e)=>.arr n e
 | some (.map k e)=>.map k e
 | some (.struct fs)=>.struct (fs.toList.map fun f=>(f.offset,f.type,P.cellsOf f.type))
 | some (.func ..)=>.func
 | some (.interface _)=>.iface
 | _=>.other
def zps:Value->Bool
 | .agg _=>true
 | _=>false
def zz7(P:Program)(t:Nat):Bool:=(P.fieldsOf t).toList.all fun f=>(P.info? f.type).isSome
def tyOf (P:Program)(t:Nat):Option uC:=
 match P.info? t with
 | some i=>match i.zero with
  | some z=>ob (tF fS z.cells.toList) fun l=>jA (bEq (zps z) (lK P t).isAgg&&(P.underlying t).isSome&&zz7 P t)
    (some ⟨lK P t, i.size, i.bytes, l, !P.stoodInHeld t && !P.eqGuardType P.depth t && (P.fieldsOf t).toList.all (fun f => f.name != "_")⟩)
  | none=>none
 | none=>none
def rE(P:Program)(C:oA):Prop:=∀t ty,C.tys.get t=some ty->tyOf P t=some ty
def oY{a b:ByteArray}(h:aD a=aD b):a=b:=by
 have h1:a.data.toList=b.data.toList:=by
  unfold aD at h;exact(List.map_inj_right (fun x y hxy=>UInt8.toNat_inj.1 hxy)).1 h
 have h2:a.data=b.data:=yax.1 h1
 cases a;cases b;simpa using h2
def za5{μ:Mu}{v:Value}{a:zA}(h:fS v=some a):wA μ a v/\a.one=true:=by
 unfold fS at h;split at h<;>cases h<;>refine⟨?_,rfl⟩<;>rw[wA]
 exact⟨_,rfl,rfl⟩
def zac{μ:Mu}{m:List Value}:∀ {l:List zA},tF fS m=some l->yB μ l m:=by
 induction m with
 | nil=>intro l h;rw[dS]at h;cases h;exact yB.nil
 | cons v m ih=>
  intro l h;rw[pK,uA]at h;obtain⟨a,ha,h⟩:=h
  rw[uA]at h;obtain⟨r,hr,h⟩:=h
  cases h;exact .cons (za5 ha).1 (ih hr)
def zmk{μ:Mu}{v:Value}{a:zA}(h:zml v=some a):wA μ a v:=by
 unfold zml at h;split at h
 ·rename_i cs hc
  rw[uA]at h;obtain⟨l,hl,h⟩:=h
  cases h
  cases v<;>simp[z4q]at hc
  subst hc;rw[wA];exact⟨_,rfl,zac hl⟩
 ·exact(za5 h).1
structure mI (P:Program) (t:Nat) (ty:uC):Prop where
 info:∃i,P.info? t=some i/\i.size=ty.size/\i.bytes=ty.bytes/\∃z,i.zero=some z/\tF fS z.cells.toList=some ty.zero/\zps z=ty.desc.isAgg
 desc:lK P t=ty.desc
 und:∃d,P.underlying t=some d
 fields:∀f∈(P.fieldsOf t).toList,∃i,P.info? f.type=some i
 eqOk : ty.eqOk = true -> P.stoodInHeld t = false /\ P.eqGuardType P.depth t = false /\ ∀ f ∈ (P.fieldsOf t).toList, f.name ≠ "_"
def zq6{P:Program}{t:Nat}{ty:uC}(h:tyOf P t=some ty):mI P t ty:=by
 unfold tyOf at h;split at h
 ·rename_i i hi
  split at h
  ·rename_i z hz
   rw[uA]at h;obtain⟨l,hl,h⟩:=h
   rw[zB]at h;obtain⟨hb,h⟩:=h
   cases h;rw[ybb,ybb]at hb;refine⟨⟨i,hi,rfl,rfl,z,hz,hl,?_⟩,rfl,Option.isSome_iff_exists.1 hb.1.2,fun f hf=>Option.isSome_iff_exists.1 (ycb.1 hb.2 f hf),fun h=>?_⟩
   ·have:=hb.1.1;rw[fQ]at this;simpa using this
   ·simp only[ybb,ycp,ycb,bne_iff_ne]at h;exact⟨h.1.1,h.1.2,h.2⟩
  ·cases h
 ·cases h
def rE.facts{P:Program}{C:oA}(h:rE P C){t:Nat}{ty:uC}(k:C.tys.get t=some ty):mI P t ty:=zq6 (h t ty k)
section
variable {P:Program}{w:World}{t:Nat}{ty:uC}
def iS{i:TypeInfo}(h:P.info? t=some i):(typeInfo t).run P w=.ok i w:=by
 simp[typeInfo,h]
def wE{d:TypeDesc}(h:P.underlying t=some d):(underlying t).run P w=.ok d w:=by
 simp[underlying,h]
def mI.size(h:mI P t ty):(sizeOf t).run P w=.ok ty.size w:=by
 obtain⟨i,h1,h2,_⟩:=h.info
 simp[sizeOf,iS h1,h2]
def mI.zero(h:mI P t ty){μ:Mu}:∃z,(∀w,(zeroValue t).run P w=.ok z w)/\wA μ (bO ty) z/\yB μ ty.zero z.cells.toList:=by
 obtain⟨i,h1,_,_,z,h2,h3,h4⟩:=h.info
 have hl:yB μ ty.zero z.cells.toList:=zac h3
 refine⟨z,fun w=>by simp[zeroValue,iS h1,h2],?_,hl⟩
 unfold bO
 cases hd:ty.desc.isAgg with
 | true=>
  rw[hd]at h4
  cases z<;>simp[zps]at h4
  show wA μ (.agg ty.zero) _
  rw[wA];exact⟨_,rfl,hl⟩
 | false=>
  rw[hd]at h4;have hc:z.cells = #[z]:=by cases z<;>first | rfl | simp[zps]at h4
  rw[hc]at hl
  cases hz:ty.zero with
  | nil=>rw[hz,yB]at hl;simp at hl
  | cons a l=>rw[hz,yB]at hl;obtain⟨v,r,hv,hr,_⟩:=hl;simp at hv;rw[<- hv.1]at hr;exact hr
def mI.isAgg(h:mI P t ty):(Go.isAgg t).run P w=.ok ty.desc.isAgg w:=by
 obtain⟨d,hd⟩:=h.und
 have h0:=h.desc
 unfold lK at h0;rw[hd]at h0;unfold Go.isAgg;rw[yad,wE hd,yac,<- h0]
 cases d<;>rfl
def wT(h:mI P t ty){fs:List (Nat × Nat × Nat)}(k:ty.desc.asStruct=some fs):∃g,P.underlying t=some (.struct g)/\fs=g.toList.map fun f=>(f.offset,f.type,P.cellsOf f.type):=by
 obtain⟨d,hd⟩:=h.und
 have h0:=h.desc
 unfold lK at h0;rw[hd]at h0;rw[<- h0]at k
 cases d<;>simp[rD.asStruct]at k
 exact⟨_,hd,k.symm⟩
def fM(h:mI P t ty){e:Nat}(k:ty.desc.asSlice=some e):P.underlying t=some (.slice e):=by
 obtain⟨d,hd⟩:=h.und
 have h0:=h.desc
 unfold lK at h0;rw[hd]at h0;rw[<- h0]at k
 cases d<;>simp[rD.asSlice]at k
 rw[hd,k]
def zb0(h:mI P t ty){p:Nat × Nat}(k:ty.desc.asArr=some p):P.underlying t=some (.array p.1 p.2):=by
 obtain⟨d,hd⟩:=h.und
 have h0:=h.desc
 unfold lK at h0;rw[hd]at h0;rw[<- h0]at k
 cases d<;>simp[rD.asArr]at k
 rw[hd,<- k]
def zqa(h:mI P t ty){p:Nat × Nat}(k:ty.desc.asMap=some p):P.underlying t=some (.map p.1 p.2):=by
 obtain⟨d,hd⟩:=h.und
 have h0:=h.desc
 unfold lK at h0;rw[hd]at h0;rw[<- h0]at k
 cases d<;>simp[rD.asMap]at k
 rw[hd,<- k]
def zh4(h:mI P t ty){k:IntKind}(e:ty.desc.asInt=some k):P.underlying t=some (.int k):=by
 obtain⟨d,hd⟩:=h.und
 have h0:=h.desc
 unfold lK at h0;rw[hd]at h0;rw[<- h0]at e
 cases d<;>simp[rD.asInt]at e
 rw[hd,e]
def uY(h:mI P t ty)(e:ty.desc.isString=true):P.underlying t=some .string:=by
 obtain⟨d,hd⟩:=h.und
 have h0:=h.desc
 unfold lK at h0;rw[hd]at h0;rw[<- h0]at e
 cases d<;>simp[rD.isString,rD.tag,Nat.beq]at e
 exact hd
def zah(h:mI P t ty)(e:Nat.blt ty.desc.tag 9=true):∃d,P.underlying t=some d/\∀ms,d≠.interface ms:=by
 obtain⟨d,hd⟩:=h.und
 refine⟨d,hd,fun ms hm=>?_⟩
 subst hm;have h0:=h.desc
 unfold lK at h0;rw[hd]at h0;rw[<- h0]at e;exact absurd (dB.1 e) (by simp[rD.tag])
end
structure zR (μ:Mu) (d:jH) (e:Deferred):Prop where
 rel:match d.fn with
  | none=>∃i,μ d.r=some i/\e={ target:=.collected i.b,args := #[] }
  | some f=>∃fn cap as,e={ target:=.fn fn cap,args:=as }/\zta μ f fn/\yB μ d.args (as++cap).toList
def fD(μ:Mu)(n:Nat)(tm:Tm)(tmps:Array Value):Prop:=tmps.size=n/\∀i v,tm.get i=some v->wA μ v (tmps.getD i undef)
structure zeg (μ:Mu) (l:wL) (r:Loop):Prop where
 state:r.state=l.state
 pending:r.pending=l.pending
 fn:r.fn=l.fn
 tm:fD μ l.n l.tm r.tmps
 params:r.params.toList=l.params
 assign:r.assign=l.assign
 body:r.body=l.body
 defers:∃i,μ l.defers=some i/\r.defers=i.b
inductive rC {α β:Type} (R:α->β->Prop):List α->List β->Prop
 | nil:rC R [] []
 | cons {a b l m}:R a b->rC R l m->rC R (a::l) (b::m)
def aG (μ:Mu)(i:BI):qA->Obj->Prop
 | .cells c n loose,o=>∃cs elem fr,o=.cells cs elem fr/\n<=cs.size/\(i.ro=true\/fr.2<=fr.1\/cs.size<=fr.1)/\(∀(j:Nat) v,c.get j=some v->j<n/\∃v',cs[j]?=some v'/\wA μ v v') ∧
   (match loose with | none=>i.tight=true | some lo=>i.tight=false/\i.es=lo.es/\i.room=cs.size/\∀t,lo=.ty t->elem=t)
 | .map l,o=>∃es clock l',o=.map es clock/\xV l l'/\rC (fun p e=>wA μ p.1 e.key/\wA μ p.2 e.val) l' es.toList
 | .loop l,o=>∃r,o=.loop r/\zeg μ l r
 | .deferred l,o=>∃l',o=.deferred l'/\(match l,l' with | none,none=>True | some a,some b=>rC (zR μ) a b | _,_=>False)
 | .siter s pos,o=>∃s',o=.stringIter s' pos/\aD s'=s
structure cA (B N:Nat) (μ:Mu) (H:xA) (w:World):Prop where
 base:256<=B
 glob:∀g,g<256->μ g=some ⟨g,true,0,0,true⟩
 low:∀a x i,a<B->H.t.get a=some x->μ a=some i->i.b<N/\x.asLoop=none/\x.asDeferred=none
 next:B<=H.next
 size:N<=w.heap.size
 fresh:∀a,H.next<=a->μ a=none/\H.t.get a=none
 blk:∀a x i,H.t.get a=some x->μ a=some i->∃o,w.heap[i.b]?=some o/\aG μ i x o
 own:∀a i,B<=a->μ a=some i->N<=i.b/\i.b<w.heap.size/\i.ro=false
 inj:∀a b x y i j,H.t.get a=some x->H.t.get b=some y->μ a=some i->μ b=some j->B<=a->B<=b->i.b=j.b->a=b
 pnd:∀a x t,μ.pd a=some (x,t)->μ a=none/\H.t.get a=some x/\B<=a
end Go.Am
namespace Go.Am
open Go
def kE (μ:Mu)(e:nC)(ρ:Operand->Value):Prop:=∀x v,ev x e=some v->wA μ v (ρ x)
def kE.many{μ:Mu}{e:nC}{ρ:Operand->Value}(h:kE μ e ρ):∀ {l:List Operand} {r:List zA},evs l e=some r->yB μ r (l.map ρ):=by
 intro l;induction l with
 | nil=>intro r k;unfold evs at k;rw[dS]at k;cases k;exact .nil
 | cons x l ih=>
  intro r k;unfold evs at k;rw[pK,uA]at k;obtain⟨a,ha,k⟩:=k
  rw[uA]at k;obtain⟨b,hb,k⟩:=k
  cases k
  exact .cons (h _ _ ha) (ih hb)
def kE.parts{μ:Mu}{e:nC}{ρ:Operand->Value}(h:kE μ e ρ):∀ {l:List (Nat × Operand)} {r:List (Nat × zA)},evp l e=some r →
  rC (fun p q=>p.1=q.1/\wA μ p.2 q.2) r (l.map fun x=>(x.1,ρ x.2)):=by
 intro l;induction l with
 | nil=>intro r k;unfold evp at k;rw[dS]at k;cases k;exact .nil
 | cons x l ih=>
  intro r k;unfold evp at k;rw[pK,uA]at k;obtain⟨a,ha,k⟩:=k
  rw[uA]at ha;obtain⟨a',ha,ha'⟩:=ha
  cases ha'
  rw[uA]at k;obtain⟨b,hb,k⟩:=k
  cases k
  exact .cons ⟨rfl,h _ _ ha⟩ (ih hb)
def zzc(μ:Mu):Option zA->Option Value->Prop
 | none,none=>True
 | some a,some v=>wA μ a v
 | _,_=>False
def kE.opt{μ:Mu}{e:nC}{ρ:Operand->Value}(h:kE μ e ρ){x:Option Operand}{r:Option zA}(k:evo x e=some r):zzc μ r (x.map ρ):=by
 cases x with
 | none=>cases k;trivial
 | some x=>unfold evo at k;simp only[]at k;rw[uA]at k;obtain⟨a,ha,k⟩:=k;cases k;exact h _ _ ha
def dP(b off n:Nat):Addr.add ⟨b,off,none⟩ n=⟨b,off+n,none⟩:=by
 unfold Addr.add;split
 ·rename_i h;subst h;rfl
 ·rfl
section
variable {P:Program}{C:oA}{B N:Nat}{μ:Mu}{H:xA}{w:World}
def dR{b:Nat}{p:Tr zA × Nat × Option Lo}(h:fC H b=some p):H.t.get b=some (.cells p.1 p.2.1 p.2.2):=by
 unfold fC at h;rw[uA]at h;obtain⟨x,hx,h⟩:=h
 cases x<;>simp[qA.asCells]at h
 subst h;exact hx
def cA.cellAt(hH:cA B N μ H w){b:Nat}{p:Tr zA × Nat × Option Lo}(h:fC H b=some p){i:BI}(hi:μ b=some i){j:Nat}{v:zA}(hv:p.1.get j=some v) :
  ∃v',w.cell? ⟨i.b,j,none⟩=some v'/\wA μ v v':=by
 obtain⟨o,h2,h3⟩:=hH.blk _ _ _ (dR h) hi
 obtain⟨cs,elem,fr,rfl,_,_,h4,_⟩:=h3
 obtain⟨_,v',h6,h7⟩:=h4 j v hv
 exact⟨v',by simp[World.cell?,h2,h6],h7⟩
def cA.manyAt(hH:cA B N μ H w){b:Nat}{p:Tr zA × Nat × Option Lo}(h:fC H b=some p){i:BI}(hi:μ b=some i){n off:Nat}{l:List zA}(hl:p.1.many n off=some l) :
  ∃vs:List Value,vs.length=n/\yB μ l vs/\(loadCells ⟨i.b,off,none⟩ n).run P w=.ok vs.toArray w/\∀j,j<n->w.cell? ⟨i.b,off+j,none⟩=vs[j]?:=by
 obtain⟨h1,h2⟩:=Tr.many_some _ _ _ _ hl
 have key:∀j,j<n->∃v',w.cell? ⟨i.b,off+j,none⟩=some v'/\∃a,l[j]?=some a/\wA μ a v':=by
  intro j hj;have h3:=h2 j hj
  cases hlj:l[j]? with
  | none=>rw[List.getElem?_eq_none_iff]at hlj;omega
  | some a=>
   rw[hlj]at h3;obtain⟨v',h4,h5⟩:=hH.cellAt h hi h3
   exact⟨v',h4,a,rfl,h5⟩
 let f:Nat->Value:=fun j=>(w.cell? ⟨i.b,off+j,none⟩).getD undef
 have hf:∀j,j<n->w.cell? ⟨i.b,off+j,none⟩=some (f j):=by
  intro j hj;obtain⟨v',h3,_⟩:=key j hj
  simp[f,h3]
 refine⟨(List.range n).map f,by simp,?_,?_,?_⟩
 ·refine yB.mk (by simp[h1]) fun j a v ha hv=>?_
  have hj:j<n:=by rw[<- h1];exact(ybc.1 ha).1
  obtain⟨v',h3,a',h4,h5⟩:=key j hj
  rw[ha]at h4;cases h4;rw[ybu,List.getElem?_range hj]at hv;have h6:=hf j hj
  rw[h3]at h6;cases h6;simp at hv;rw[<- hv];exact h5
 ·exact run_loadCells w _ n f fun j hj=>by rw[dP];exact hf j hj
 ·intro j hj;rw[hf j hj,ybu,List.getElem?_range hj];rfl
def zpc(hH:cA B N μ H w){t:Nat}{ty:uC}(hty:mI P t ty){b:Nat}{p:Tr zA × Nat × Option Lo}(h:fC H b=some p){i:BI}(hi:μ b=some i){off:Nat}{v:zA}
  (hv:mM ty p.1 off=some v):∃v',(loadVar t ⟨i.b,off,none⟩).run P w=.ok v' w/\wA μ v v':=by
 unfold mM at hv;unfold loadVar;rw[yad,hty.isAgg,yac]
 cases ha:ty.desc.isAgg with
 | true=>
  rw[ha,cond_true,uA]at hv;obtain⟨l,hl,hv⟩:=hv
  cases hv;obtain⟨vs,_,h2,h3,_⟩:=hH.manyAt (P:=P) h hi hl
  refine⟨.agg vs.toArray,?_,by rw[wA];exact⟨_,rfl,h2⟩⟩
  rw[yab rfl,yad,hty.size,yac,yad,h3];rfl
 | false=>
  rw[ha,cond_false]at hv;obtain⟨v',h1,h2⟩:=hH.cellAt h hi hv
  refine⟨v',?_,h2⟩
  rw[yaa (by simp),run_load,h1]
def eV(hT:rE P C){t:Nat}{l:List zA}{cs:Array Value}(hl:yB μ l cs.toList){off:Nat}{v:zA}(hv:dK C t l off=some v) :
  ∃v',(part t cs off).run P w=.ok v' w/\wA μ v v':=by
 unfold dK at hv;rw[uA]at hv;obtain⟨ty,hty,hv⟩:=hv
 have hF:=hT.facts hty
 unfold part;rw[yad,hF.isAgg,yac]
 cases ha:ty.desc.isAgg with
 | true=>
  rw[ha,cond_true]at hv
  cases hv;refine⟨.agg (cs.extract off (off+ty.size)),?_,?_⟩
  ·rw[yab rfl,yad,hF.size];rfl
  ·rw[wA];refine⟨_,rfl,?_⟩
   rw[yO,rP,Array.toList_extract,List.extract_eq_take_drop,Nat.add_sub_cancel_left];exact(hl.drop _).take _
 | false=>
  rw[ha,cond_false,oF]at hv;obtain⟨v',h1,h2⟩:=hl.get hv
  refine⟨v',?_,h2⟩
  rw[yaa (by simp)]
  have:cs[off]?=some v':=by simpa using h1
  rw[this];rfl
def LOk (P:Program)(μ:Mu)(w:World)(ρ:Operand->Value)(o:Oper)(v:zA):Prop:=∃v',(execOp ρ o).run P w=.ok (.value v') w/\wA μ v v'
variable {e:nC}{ρ:Operand->Value}{dst:Option Tmp}{type:TypeId}{pos:String}{after:Array Edge}{guard:Option (Nat × Bool)}{v:zA}
def zpj(hE:kE μ e ρ){x:Operand}(h:wO x C e H=some v):LOk P μ w ρ ⟨dst,.move x,type,pos,after,guard⟩ v:=⟨ρ x,rfl,hE x v h⟩
def zfw(hE:kE μ e ρ){x:Operand}(h:wO x C e H=some v):LOk P μ w ρ ⟨dst,.assign x,type,pos,after,guard⟩ v:=⟨ρ x,rfl,hE x v h⟩
def zpi(hE:kE μ e ρ){c a b:Operand}(h:zwq c a b C e H=some v):LOk P μ w ρ ⟨dst,.pick c a b,type,pos,after,guard⟩ v:=by
 unfold zwq at h;rw[uA]at h;obtain⟨cv,hc,h⟩:=h
 rw[uA]at h;obtain⟨cb,hb,h⟩:=h
 have h1:=hE _ _ hc
 rw[eQ.1 hb,wA]at h1;unfold LOk execOp;simp only[h1,asBool]
 cases cb with
 | true=>exact⟨ρ a,rfl,hE _ _ h⟩
 | false=>exact⟨ρ b,rfl,hE _ _ h⟩
def zpk(hT:rE P C)(hH:cA B N μ H w)(hE:kE μ e ρ){t:Nat}{a:Operand}(h:uO t a C e H=some v):LOk P μ w ρ ⟨dst,.load t a,type,pos,after,guard⟩ v:=by
 unfold uO at h;simp only[uA,kT]at h;obtain⟨av,ha,p,rfl,ty,hty,c,hc,h⟩:=h
 have h1:=hE _ _ ha
 rw[wA]at h1;obtain⟨i,hi,hv⟩:=h1
 obtain⟨v',h2,h3⟩:=zpc (P:=P) hH (hT.facts hty) hc hi h
 refine⟨v',?_,h3⟩
 simp only[execOp,Instr.loadAt,hv,Instr.sureAddr,yad,yae,yac,h2]
def zwr(hE:kE μ e ρ){x:Operand}(h:z1i x C e H=some v):LOk P μ w ρ ⟨dst,.nilCheck x,type,pos,after,guard⟩ v:=by
 unfold z1i at h;rw[uA]at h;obtain⟨a,ha,h⟩:=h
 rw[zB]at h;obtain⟨hb,h⟩:=h
 cases h;have h1:=hE _ _ ha
 refine⟨ρ x,?_,h1⟩
 cases v<;>simp[zA.tag,Nat.beq]at hb
 ·rw[wA]at h1
  obtain⟨i,_,hv⟩:=h1
  simp only[execOp,hv];rfl
 ·rename_i fn a b
  rw[wA]at h1;obtain⟨fn',a',c',hv,hf,_⟩:=h1
  cases fn with
  | func f=>cases hf;simp only[execOp,hv];rfl
  | yld l=>obtain⟨i,_,rfl⟩:=hf;simp only[execOp,hv];rfl
def zpl(hE:kE μ e ρ){fn:Fn}{a b:Array Operand}(h:(oR fn a b).f C e H=some v):LOk P μ w ρ ⟨dst,.makeFunc fn a b,type,pos,after,guard⟩ v:=by
 unfold oR at h;split at h
 ·rename_i f
  simp only[zwz,uA]at h;obtain⟨as,ha,bs,hb,h⟩:=h
  cases h;refine⟨.func (.func f) (a.map ρ) (b.map ρ),rfl,?_⟩
  rw[wA];exact⟨_,_,_,rfl,rfl,by simpa using hE.many ha,by simpa using hE.many hb⟩
 ·cases h
def zj2(hT:rE P C)(hE:kE μ e ρ){t:Nat}{x:Operand}(h:pR t x C e H=some v):LOk P μ w ρ ⟨dst,.makeInterface t x,type,pos,after,guard⟩ v:=by
 unfold pR at h;simp only[uA,zB]at h;obtain⟨ty,hty,hb,a,ha,h⟩:=h
 cases h;obtain⟨d,hd,hn⟩:=zah (hT.facts hty) hb
 refine⟨.iface t (ρ x),?_,by rw[wA];exact⟨_,rfl,hE _ _ ha⟩⟩
 simp only[execOp,Instr.makeInterface,yad,wE hd,yac]
 cases d<;>first | rfl | exact absurd rfl (hn _)
def zdf(hE:kE μ e ρ){t:Operand}{i:Nat}(h:qO t i C e H=some v):LOk P μ w ρ ⟨dst,.extract t i,type,pos,after,guard⟩ v:=by
 unfold qO at h;simp only[uA,zs3,oF]at h;obtain⟨a,ha,l,rfl,h⟩:=h
 have h1:=hE _ _ ha
 rw[wA]at h1;obtain⟨cs,hv,hl⟩:=h1
 obtain⟨v',h2,h3⟩:=hl.get h
 refine⟨v',?_,h3⟩
 have h4:cs[i]?=some v':=by simpa using h2
 simp only[execOp,hv,Instr.extract,h4];rfl
def zj3(hT:rE P C)(hE:kE μ e ρ){t:Nat}{x:Operand}{f:Nat}(h:nR t x f C e H=some v):LOk P μ w ρ ⟨dst,.field t x f,type,pos,after,guard⟩ v:=by
 unfold nR at h;simp only[uA,bU,oF]at h;obtain⟨ty,hty,fs,hfs,fd,hfd,a,ha,l,rfl,h⟩:=h
 obtain⟨g,hg,rfl⟩:=wT (hT.facts hty) hfs
 have h1:=hE _ _ ha
 rw[wA]at h1;obtain⟨cs,hv,hl⟩:=h1
 rw[ybu]at hfd
 cases hgf:g.toList[f]? with
 | none=>rw[hgf]at hfd;cases hfd
 | some fld=>
  rw[hgf]at hfd;simp at hfd;subst hfd;obtain⟨v',h2,h3⟩:=eV (w:=w) hT hl h
  refine⟨v',?_,h3⟩
  have h4:g[f]?=some fld:=by simpa using hgf
  simp only[execOp,hv,Instr.field,yad,wE hg,yac,h4,asAgg,yae,h2]
def zag(hT:rE P C)(hE:kE μ e ρ){s:Nat}{x:Operand}{f:Nat}(h:rO s x f C e H=some v):LOk P μ w ρ ⟨dst,.fieldAddr s x f,type,pos,after,guard⟩ v:=by
 unfold rO at h;simp only[uA,kT,oF,zB]at h;obtain⟨ty,hty,fs,hfs,fd,hfd,hz,a,ha,p,rfl,h⟩:=h
 cases h;obtain⟨g,hg,rfl⟩:=wT (hT.facts hty) hfs
 have h1:=hE _ _ ha
 rw[wA]at h1;obtain⟨i,hi,hv⟩:=h1
 rw[ybu]at hfd
 cases hgf:g.toList[f]? with
 | none=>rw[hgf]at hfd;cases hfd
 | some fld=>
  rw[hgf]at hfd;simp at hfd;subst hfd;refine⟨.pointer (some ⟨i.b,p.2+fld.offset,none⟩),?_,by rw[wA];exact⟨i,hi,rfl⟩⟩
  have h4:g[f]?=some fld:=by simpa using hgf
  have h5:P.cellsOf fld.type≠0:=by
   have h6:Nat.beq (P.cellsOf fld.type) 0=false:=by simpa using hz
   exact beqf.1 h6
  have h6:(sizeOf fld.type).run P w=.ok (P.cellsOf fld.type) w:=by
   unfold Program.cellsOf at h5 ⊢
   cases hinf:P.info? fld.type with
   | none=>rw[hinf]at h5;exact absurd rfl h5
   | some inf=>simp[sizeOf,iS hinf]
  simp only[execOp,hv,Instr.fieldAt,yad,wE hg,yac,h4,Instr.sureAddr,yae,fieldPlace,h6,Sem.run_ite,yaa h5,dP]
end
end Go.Am
