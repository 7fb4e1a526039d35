/- -/
import Derived.Below
import Derived.Calls
import Derived.Laws.Cells
import Derived.Laws.Sem
import Derived.Laws.StructEq
import Derived.Laws.World
set_option linter.all false
noncomputable section
namespace Go.Am
def yaa := @List.getElem?_cons_zero
def yab := @List.getElem?_cons_succ
def yac := @Bool.and_eq_true
def yad := @List.getElem?_eq_some_iff
def yae := @List.getElem?_eq_getElem
def yaf := @Array.getElem?_eq_some_iff
def yag := @List.length_map
def yah := @List.length_append
def yai := @Nat.mul_comm
def yaj := @Nat.mul_le_mul_right
def yak := @Nat.mul_assoc
def yal := @Nat.le_refl
def yam := @List.drop_eq_getElem_cons
def yan := @Nat.mul_add
def yao := @List.length_cons
def yap := @Nat.add_mul
def yaq := @List.getElem?_append_right
def yar := @Bool.false_eq_true
def yas := @List.mem_cons_of_mem
def yat := @List.mem_cons
def yau := @List.drop_eq_nil_of_le
def yav := @List.getElem?_map
def yaw := @Nat.mul_le_mul_left
def yax := @Nat.zero_add
def yay := @List.length_nil
def yaz := @List.mem_cons_self
def yba := @List.append_assoc
def ybb := @List.take_of_length_le
def ybc := @List.all_eq_true
def ybd := @List.length_eq_zero_iff
def ybe := @List.append_nil
def ybf := @Nat.dvd_mul_left_of_dvd
def ybg := @List.mem_append_right
def ybh := @List.all_cons
def ybi := @Nat.div_add_mod
def ybj := @Option.some.inj
def ybk := @List.getElem_mem
def ybl := @List.all_nil
def ybm := @Bool.not_false
def ybn := @List.map_cons
def ybo := @Bool.true_and
def ybp := @List.getElem?_append_left
def ybq := @Bool.not_eq_true'
def ybr := @Bool.or_eq_true
def ybs := @List.drop_zero
def ybt := @Array.getElem?_setIfInBounds
def ybu := @Nat.add_zero
def ybv := @Nat.div_lt_of_lt_mul
def ybw := @List.mem_of_getElem?
def ybx := @List.getElem?_set
def yby := @Array.getD_eq_getD_getElem?
def ybz := @Nat.mod_lt
def yca := @Array.length_toList
def ycb := @List.length_take
def ycc := @Nat.mul_le_mul
def ycd := @List.mem_append_left
def yce := @List.mem_singleton
def ycf := @List.getElem?_drop
def ycg := @List.getElem?_take
def ych := @List.take_add_one
def yci := @List.length_set
def ycj := @List.all_append
def yck := @List.length_drop
end Go.Am
namespace Go.Am
inductive Tr (α:Type) where
 | leaf
 | node (l:Tr α) (v:Option α) (r:Tr α)
def ob {α β:Type}(x:Option α)(f:α->Option β):Option β:=Option.rec (motive:=fun _=>Option β) none f x
namespace Tr
variable {α:Type}
def get (t:Tr α):Nat->Option α:=
 Tr.rec (motive:=fun _=>Nat->Option α) (fun _=>none)
  (fun _ v _ gl gr n=>Bool.rec (motive:=fun _=>Option α) (Bool.rec (motive:=fun _=>Option α) (gr (Nat.pred (Nat.div n (nat_lit 2)))) (gl (Nat.div n (nat_lit 2))) (Nat.beq (Nat.mod n (nat_lit 2)) (nat_lit 1))) v (Nat.beq n (nat_lit 0))) t
def mk (f:Nat):Nat->α->Tr α:=
 Nat.rec (motive:=fun _=>Nat->α->Tr α) (fun _ _=>leaf)
  (fun _ g n v=>Bool.rec (motive:=fun _=>Tr α) (Bool.rec (motive:=fun _=>Tr α) (node leaf none (g (Nat.pred (Nat.div n (nat_lit 2))) v)) (node (g (Nat.div n (nat_lit 2)) v) none leaf) (Nat.beq (Nat.mod n (nat_lit 2)) (nat_lit 1))) (node leaf (some v) leaf) (Nat.beq n (nat_lit 0))) f
def set (t:Tr α):Nat->α->Tr α:=
 Tr.rec (motive:=fun _=>Nat->α->Tr α) (fun n v=>mk (Nat.succ n) n v)
  (fun l x r gl gr n v=>Bool.rec (motive:=fun _=>Tr α) (Bool.rec (motive:=fun _=>Tr α) (node l x (gr (Nat.pred (Nat.div n (nat_lit 2))) v)) (node (gl (Nat.div n (nat_lit 2)) v) x r) (Nat.beq (Nat.mod n (nat_lit 2)) (nat_lit 1))) (node l (some v) r) (Nat.beq n (nat_lit 0))) t
def del (t:Tr α):Nat->Tr α:=
 Tr.rec (motive:=fun _=>Nat->Tr α) (fun _=>leaf)
  (fun l x r gl gr n=>Bool.rec (motive:=fun _=>Tr α) (Bool.rec (motive:=fun _=>Tr α) (node l x (gr (Nat.pred (Nat.div n (nat_lit 2))))) (node (gl (Nat.div n (nat_lit 2))) x r) (Nat.beq (Nat.mod n (nat_lit 2)) (nat_lit 1))) (node l none r) (Nat.beq n (nat_lit 0))) t
def many (t:Tr α)(n:Nat):Nat->Option (List α):=
 Nat.rec (motive:=fun _=>Nat->Option (List α)) (fun _=>some [])
  (fun _ g i=>ob (t.get i) fun v=>ob (g (i+1)) fun l=>some (v::l)) n
def setMany(l:List α):Tr α->Nat->Tr α:=
 List.rec (motive:=fun _=>Tr α->Nat->Tr α) (fun t _=>t) (fun v _ g t i=>g (t.set i v) (i+1)) l
def ofList(l:List α):Tr α:=setMany l leaf 0
end Tr
def iC {α:Type}(l:List α):Nat->Option α:=
 List.rec (motive:=fun _=>Nat->Option α) (fun _=>none) (fun a _ g n=>Bool.rec (motive:=fun _=>Option α) (g (Nat.pred n)) (some a) (Nat.beq n (nat_lit 0))) l
def aL{α:Type}(l:List α):Nat->List α:=
 List.rec (motive:=fun _=>Nat->List α) (fun _=>[]) (fun a l g n=>bif Nat.beq n 0 then a::l else g (n-1)) l
def ze8{α:Type}(l:List α):Nat->List α:=
 List.rec (motive:=fun _=>Nat->List α) (fun _=>[]) (fun a _ g n=>bif Nat.beq n 0 then []else a::g (n-1)) l
def wB {α:Type}(l:List α):Nat:=List.rec (motive:=fun _=>Nat) 0 (fun _ _ n=>n+1) l
def aC {α:Type}(l m:List α):List α:=List.rec (motive:=fun _=>List α) m (fun a _ g=>a::g) l
def tC {α:Type}(p:α->Bool)(l:List α):Bool:=List.rec (motive:=fun _=>Bool) true (fun a _ g=>bif p a then g else false) l
def mF{α β:Type}(f:α->Option β)(l:List α):Option (List β):=
 List.rec (motive:=fun _=>Option (List β)) (some []) (fun a _ g=>ob (f a) fun b=>ob g fun r=>some (b::r)) l
def zF(a:List Nat):List Nat->Bool:=
 List.rec (motive:=fun _=>List Nat->Bool) (fun b=>b.isEmpty) (fun x _ g b=>List.rec (motive:=fun _=>Bool) false (fun y b _=>bif Nat.beq x y then g b else false) b) a
def kIdx:IntKind->Nat
 | .i8=>0 | .i16=>1 | .i32=>2 | .i64=>3 | .u8=>4 | .u16=>5 | .u32=>6 | .u64=>7
def kEq (a b:IntKind):Bool:=Nat.beq (kIdx a) (kIdx b)
def bEq:Bool->Bool->Bool
 | true,b=>b
 | false,b => !b
def mA:Int->Int->Bool
 | .ofNat a,.ofNat b=>Nat.beq a b
 | .negSucc a,.negSucc b=>Nat.beq a b
 | _,_=>false
def jC:Int->Int->Bool
 | .ofNat a,.ofNat b=>Nat.ble a b
 | .ofNat _,.negSucc _=>false
 | .negSucc _,.ofNat _=>true
 | .negSucc a,.negSucc b=>Nat.ble b a
def dB:Int->Int->Bool
 | .ofNat a,.ofNat b=>Nat.blt a b
 | .ofNat _,.negSucc _=>false
 | .negSucc _,.ofNat _=>true
 | .negSucc a,.negSucc b=>Nat.blt b a
def kF:IntKind->Nat
 | .i8=>128 | .i16=>32768 | .i32=>2147483648 | .i64=>9223372036854775808 | .u8=>256 | .u16=>65536 | .u32=>4294967296 | .u64=>18446744073709551616
def kLo:IntKind->Nat
 | .i8=>128 | .i16=>32768 | .i32=>2147483648 | .i64=>9223372036854775808 | _=>0
def vA(k:IntKind):Int->Int
 | .ofNat n=>bif Nat.blt n (kF k)then .ofNat n else k.wrap (.ofNat n)
 | .negSucc n=>bif Nat.blt n (kLo k)then .negSucc n else k.wrap (.negSucc n)
inductive AFn where
 | func (f:Nat)
 | yld (l:Nat)
inductive zA where
 | bool (b:Bool)
 | int (k:IntKind) (n:Int)
 | str (l:List Nat)
 | nilptr
 | ptr (b off:Nat)
 | nilslice
 | slice (b off len cap:Nat)
 | nilmap
 | map (b:Nat)
 | func (fn:AFn) (first captured:List zA)
 | nilfunc
 | iface (t:Nat) (v:zA)
 | niliface
 | agg (l:List zA)
 | tup (l:List zA)
structure Tm where
 k:Nat
 v:Tr zA
 t:List (Nat × zA)
def z4k(i:Nat)(l:List (Nat × zA)):Option zA:=
 List.rec (motive:=fun _=>Option zA) none (fun a _ g=>Bool.rec (motive:=fun _=>Option zA) g (some a.2) (Nat.beq i a.1)) l
def Tm.get(t:Tm)(i:Nat):Option zA:=Bool.rec (motive:=fun _=>Option zA) (z4k i t.t) (t.v.get i) (Nat.blt i t.k)
def Tm.set(t:Tm)(i:Nat)(x:zA):Tm:=Bool.rec (motive:=fun _=>Tm) ⟨t.k,t.v,(i,x)::t.t⟩ ⟨t.k,t.v.set i x,t.t⟩ (Nat.blt i t.k)
def Tm.cut(t:Tm):Tm:=⟨t.k,t.v,[]⟩
structure fH where
 fn:Option AFn
 r:Nat
 args:List zA
structure jL where
 state:LoopState
 pending:Option Code
 fn:Nat
 n:Nat
 tm:Tm
 params:List Nat
 assign:Code
 body:Code
 defers:Nat
inductive Lo where
 | sz (n:Nat)
 | ty (t:Nat)
def Lo.es:Lo->Nat | .sz n=>n | .ty _=>1
def loEq:Lo->Lo->Bool
 | .sz a,.sz b=>Nat.beq a b
 | .ty a,.ty b=>Nat.beq a b
 | _,_=>false
inductive rA where
 | cells (c:Tr zA) (n:Nat) (loose:Option Lo)
 | map (l:List (zA × zA))
 | loop (l:jL)
 | deferred (l:Option (List fH))
 | siter (s:List Nat) (pos:Nat)
structure xA where
 next:Nat
 t:Tr rA
inductive qD where
 | bool | int (k:IntKind) | string
 | ptr (e:Nat) | slice (e:Nat) | arr (n e:Nat) | map (k e:Nat)
 | struct (fs:List (Nat × Nat × Nat))
 | func | iface | other
structure qC where
 desc:qD
 size:Nat
 bytes:Nat
 zero:List zA
 eqOk:Bool
structure sE where
 heavy:Nat
 lights:List Nat
 again:List Nat
structure Plan where
 first:List Nat
 stages:List sE
 olds:List (Nat × List Nat)
structure qA where
 fns:Tr Func
 ks:Tr Nat
 tys:Tr qC
 plans:Tr (Tr Plan)
 prims:Tr (List zA->xA->Option (zA × xA))
 base:Nat
 root:Nat
inductive lD where
 | code (c:Code)
 | inBlock (id:Nat)
 | inLoop (c:Code)
 | inScope (c:Code)
 | ops (all:Array Oper) (rest:List Oper)
 | reg (all:Array Oper) (old:Tm) (olds:List (Nat × List Nat)) (stages:List sE)
 | inRange (l:Nat)
 | endRange (l:Nat)
 | beginRound
structure iS where
 v:zA
 recovered:Bool
inductive zfc where
 | run | returning
 | panicking (chain:List iS)
structure aH where
 fn:Nat
 n:Nat
 defers:List fH
 mode:zfc
 deferred:Bool
 roundOf:Option Nat
structure zC where
 todo:List lD
 tm:Tm
 R:aH
structure lM where
 fr:zC
 cs:List zC
 H:xA
inductive wE where
 | next (s:lM)
 | done (v:zA) (H:xA)
 | fail (why:Nat)
def zA.asBool:zA->Option Bool | .bool b=>some b | _=>none
def zA.asInt:zA->Option Int | .int _ n=>some n | _=>none
def zA.asIntK:zA->Option (IntKind × Int) | .int k n=>some (k,n) | _=>none
def zA.asStr:zA->Option (List Nat) | .str l=>some l | _=>none
def zA.asPtr:zA->Option (Nat × Nat) | .ptr b o=>some (b,o) | _=>none
def zA.asSlice:zA->Option (Nat × Nat × Nat × Nat) | .slice b o l c=>some (b,o,l,c) | _=>none
def zA.asMap:zA->Option Nat | .map b=>some b | _=>none
def zA.asAgg:zA->Option (List zA) | .agg l=>some l | _=>none
def zA.asTup:zA->Option (List zA) | .tup l=>some l | _=>none
def zA.asFunc:zA->Option (AFn × List zA × List zA) | .func f a b=>some (f,a,b) | _=>none
def zA.asIface:zA->Option (Nat × zA) | .iface t v=>some (t,v) | _=>none
def zA.tag:zA->Nat
 | .bool _=>0 | .int _ _=>1 | .str _=>2 | .nilptr=>3 | .ptr _ _=>4 | .nilslice=>5 | .slice _ _ _ _=>6 | .nilmap=>7 | .map _=>8
 | .func _ _ _=>9 | .nilfunc=>10 | .iface _ _=>11 | .niliface=>12 | .agg _=>13 | .tup _=>14
def bI:Int->Option Nat | .ofNat n=>some n | .negSucc _=>none
def zA.asNat(v:zA):Option Nat:=ob v.asInt bI
def zA.cells(v:zA):List zA:=
 match v.asAgg with
 | some l=>l
 | none=>[v]
def zA.one(v:zA):Bool:=Nat.blt v.tag 13
def qD.asInt:qD->Option IntKind | .int k=>some k | _=>none
def qD.asSlice:qD->Option Nat | .slice e=>some e | _=>none
def qD.asArr:qD->Option (Nat × Nat) | .arr n e=>some (n,e) | _=>none
def qD.asMap:qD->Option (Nat × Nat) | .map k e=>some (k,e) | _=>none
def qD.asStruct:qD->Option (List (Nat × Nat × Nat)) | .struct fs=>some fs | _=>none
def qD.tag:qD->Nat
 | .bool=>0 | .int _=>1 | .string=>2 | .ptr _=>3 | .slice _=>4 | .arr _ _=>5 | .map _ _=>6 | .struct _=>7 | .func=>8 | .iface=>9 | .other=>10
def qD.isAgg(d:qD):Bool:=bif Nat.beq d.tag 5 then true else Nat.beq d.tag 7
def qD.isString(d:qD):Bool:=Nat.beq d.tag 2
def rA.asCells:rA->Option (Tr zA × Nat × Option Lo) | .cells c n l=>some (c,n,l) | _=>none
def rA.asMap:rA->Option (List (zA × zA)) | .map l=>some l | _=>none
def rA.asLoop:rA->Option jL | .loop l=>some l | _=>none
def rA.asDeferred:rA->Option (Option (List fH)) | .deferred l=>some l | _=>none
def rA.asIter:rA->Option (List Nat × Nat) | .siter s p=>some (s,p) | _=>none
def cA{α:Type}(b:Bool)(x:Option α):Option α:=Bool.rec (motive:=fun _=>Option α) none x b
def oD:zA:=.tup []
def uE(s:ByteArray):List Nat:=s.data.toList.map UInt8.toNat
def xT:Value->Option zA
 | .bool b=>some (.bool b)
 | .int k n=>some (.int k n)
 | .string s=>some (.str (uE s))
 | .pointer none=>some .nilptr
 | .slice none 0 0=>some .nilslice
 | .map none=>some .nilmap
 | .nilFunc=>some .nilfunc
 | .nilIface=>some .niliface
 | _=>none
def z6g:Value->Option (Array Value)
 | .agg cs=>some cs
 | _=>none
def znn(v:Value):Option zA:=
 match z6g v with
 | some cs=>ob (mF xT cs.toList) fun l=>some (.agg l)
 | none=>xT v
inductive mC where
 | now (tm:Tm)
 | mixed (tm old:Tm) (olds names:List Nat)
def cE(i:Nat)(l:List Nat):Bool:=List.rec (motive:=fun _=>Bool) false (fun j _ g=>bif Nat.beq i j then true else g) l
def z01 (t:Nat)(e:mC):Option zA:=
 match e with
 | .now tm=>tm.get t
 | .mixed tm old olds names=>bif cE t names then Tm.get (bif cE t olds then old else tm) t else none
def xConst(v:Value)(_:mC):Option zA:=znn v
def zmh(g:Nat)(_:mC):Option zA:=bif Nat.blt g 256 then some (.ptr g 0)else none
def xFunc(f:Nat)(_:mC):Option zA:=some (.func (.func f) [] [])
structure EB where f:mC->Option zA
def evB:Operand->EB
 | .tmp t=>⟨z01 t⟩
 | .const v=>⟨xConst v⟩
 | .global g=>⟨zmh g⟩
 | .func f=>⟨xFunc f⟩
def ev (x:Operand)(e:mC):Option zA:=(evB x).f e
def evs (l:List Operand)(e:mC):Option (List zA):=mF (fun x=>ev x e) l
def evo (x:Option Operand)(e:mC):Option (Option zA):=
 match x with
 | none=>some none
 | some x=>ob (ev x e) fun v=>some (some v)
def evp (l:List (Nat × Operand))(e:mC):Option (List (Nat × zA)):=mF (fun x=>ob (ev x.2 e) fun v=>some (x.1,v)) l
def tD(H:xA)(b:Nat):Option (Tr zA × Nat × Option Lo):=ob (H.t.get b) rA.asCells
def lG(H:xA)(b:Nat):Option (List (zA × zA)):=ob (H.t.get b) rA.asMap
def zN(ty:qC)(c:Tr zA)(off:Nat):Option zA:=
 bif ty.desc.isAgg then ob (c.many ty.size off) fun l=>some (.agg l)else c.get off
def rL(C:qA)(t:Nat)(l:List zA)(off:Nat):Option zA:=
 ob (C.tys.get t) fun ty=>bif ty.desc.isAgg then some (.agg (ze8 (aL l off) ty.size))else iC l off
def oN(ty:qC):zA:=
 bif ty.desc.isAgg then .agg ty.zero else match ty.zero with
  | v::_=>v
  | []=>oD
def znx(a:List Nat):List Nat->Bool:=
 List.rec (motive:=fun _=>List Nat->Bool) (fun b => !b.isEmpty)
  (fun x _ g b=>List.rec (motive:=fun _=>Bool) false (fun y b _=>bif Nat.blt x y then true else bif Nat.beq x y then g b else false) b) a
def zgo(a b:zA):Option Bool:=ob a.asBool fun x=>ob b.asBool fun y=>some (bEq x y)
def z80(a b:zA):Option Bool:=ob a.asIntK fun x=>ob b.asIntK fun y=>cA (kEq x.1 y.1) (some (mA x.2 y.2))
def zis(a b:zA):Option Bool:=ob a.asStr fun x=>ob b.asStr fun y=>some (zF x y)
def zli(n m:Nat)(a b:zA):Option Bool:=
 bif Nat.beq a.tag n then(bif Nat.beq b.tag n then some true else cA (Nat.beq b.tag m) (some false))
 else cA (Nat.beq a.tag m&&Nat.beq b.tag n) (some false)
def zrf(_ _:zA):Option Bool:=none
def zlj:qD->zA->zA->Option Bool
 | .bool=>zgo
 | .int _=>z80
 | .string=>zis
 | .ptr _=>zli 3 4
 | .iface=>zli 12 11
 | .slice _=>zli 5 6
 | .map _ _=>zli 7 8
 | .func=>zli 10 9
 | .arr _ _=>zrf
 | .struct _=>zrf
 | .other=>zrf
def zua(C:qA)(eq:Nat->zA->zA->Option Bool)(xs ys:List zA):List (Nat × Nat × Nat)->Option Bool
 | []=>some true
 | f::fs=>ob (rL C f.2.1 xs f.1) fun a=>ob (rL C f.2.1 ys f.1) fun b=>ob (eq f.2.1 a b) fun r=>bif r then zua C eq xs ys fs else some false
def aeq (C:qA):Nat->Nat->zA->zA->Option Bool
 | 0,_,_,_=>none
 | d+1,t,x,y=>ob (C.tys.get t) fun ty=>
  match ty.desc.asStruct with
  | some fs=>cA ty.eqOk (ob x.asAgg fun xs=>ob y.asAgg fun ys=>zua C (aeq C d) xs ys fs)
  | none=>zlj ty.desc x y
def iAdd (k:IntKind)(a b:Int):Option zA:=some (.int k (vA k (a+b)))
def iSub (k:IntKind)(a b:Int):Option zA:=some (.int k (vA k (a-b)))
def iMul (k:IntKind)(a b:Int):Option zA:=some (.int k (vA k (a*b)))
def z3e (k:IntKind)(a b:Int):Option zA:=bif mA b 0 then none else some (.int k (vA k (a.tdiv b)))
def z3d (k:IntKind)(a b:Int):Option zA:=bif mA b 0 then none else some (.int k (a.tmod b))
def sH(f:Nat->Nat->Nat)(k:IntKind)(a b:Int):Option zA:=ob (bI a) fun x=>ob (bI b) fun y=>cA (Nat.blt x (kF k)&&Nat.blt y (kF k)) (some (.int k (.ofNat (f x y))))
def kW:IntKind->Nat
 | .i8=>256 | .u8=>256 | .i16=>65536 | .u16=>65536 | .i32=>4294967296 | .u32=>4294967296 | .i64=>18446744073709551616 | .u64=>18446744073709551616
def iAnd (k:IntKind)(a b:Int):Option zA:=
 match bI a with
 | some _=>sH Nat.land k a b
 | none=>ob (bI b) fun y=>cA (Nat.blt y (kF k)) (some (.int k (.ofNat (Nat.land (Int.toNat (Int.emod a (.ofNat (kW k)))) y))))
def iEql (_:IntKind)(a b:Int):Option zA:=some (.bool (mA a b))
def iNeq (_:IntKind)(a b:Int):Option zA:=some (.bool (!mA a b))
def iLss (_:IntKind)(a b:Int):Option zA:=some (.bool (dB a b))
def iLeq (_:IntKind)(a b:Int):Option zA:=some (.bool (jC a b))
def iGtr (_:IntKind)(a b:Int):Option zA:=some (.bool (dB b a))
def iGeq (_:IntKind)(a b:Int):Option zA:=some (.bool (jC b a))
def iNone(_:IntKind)(_ _:Int):Option zA:=none
structure IB where f:IntKind->Int->Int->Option zA
def z0f:BinOp->IB
 | .add=>⟨iAdd⟩ | .sub=>⟨iSub⟩ | .mul=>⟨iMul⟩ | .quo=>⟨z3e⟩ | .rem=>⟨z3d⟩
 | .and=>⟨iAnd⟩ | .or=>⟨sH Nat.lor⟩ | .xor=>⟨sH Nat.xor⟩
 | .eql=>⟨iEql⟩ | .neq=>⟨iNeq⟩ | .lss=>⟨iLss⟩ | .leq=>⟨iLeq⟩ | .gtr=>⟨iGtr⟩ | .geq=>⟨iGeq⟩
 | _=>⟨iNone⟩
def xJ (a b:List Nat):Option zA:=cA (Nat.blt (wB a+wB b) 4611686018427387904) (some (.str (aC a b)))
def sEql (a b:List Nat):Option zA:=some (.bool (zF a b))
def sNeq (a b:List Nat):Option zA:=some (.bool (!zF a b))
def sLss (a b:List Nat):Option zA:=some (.bool (znx a b))
def sNone(_ _:List Nat):Option zA:=none
structure SB where f:List Nat->List Nat->Option zA
def z0c:BinOp->SB
 | .add=>⟨xJ⟩ | .eql=>⟨sEql⟩ | .neq=>⟨sNeq⟩ | .lss=>⟨sLss⟩
 | _=>⟨sNone⟩
def sW:Operand->Bool
 | .const _=>true
 | _=>false
def zcx(k:IntKind)(b:Int):Option Nat:=ob (bI b) fun n=>some (min n k.bits)
def zyw (k:IntKind)(a b:Int):Option zA:=ob (zcx k b) fun n=>some (.int k (vA k (a*.ofNat (2^n))))
def z8m (k:IntKind)(a b:Int):Option zA:=ob (zcx k b) fun n=>some (.int k (a.fdiv (.ofNat (2^n))))
def jW(f:IntKind->Int->Int->Option zA)(a b:zA):Option zA:=ob a.asIntK fun x=>ob b.asInt fun y=>f x.1 x.2 y
def zre(x y:Operand)(a b:zA):Bool:=
 bif Nat.beq a.tag 12&&Nat.beq b.tag 12 then sW x||sW y else true
def zb8(neg:Bool)(C:qA)(t:Nat)(x y:Operand)(a b:zA):Option zA:=
 cA (zre x y a b) (ob (aeq C 20 t a b) fun r=>some (.bool (bif neg then !r else r)))
def binNo(_:qA)(_:Nat)(_ _:Operand)(_ _:zA):Option zA:=none
structure BB where f:qA->Nat->Operand->Operand->zA->zA->Option zA
def z0d:BinOp->BB
 | .eql=>⟨zb8 false⟩
 | .neq=>⟨zb8 true⟩
 | _=>⟨binNo⟩
def ziz(op:BinOp)(C:qA)(t:Nat)(x y:Operand)(a b:zA):Option zA:=
 match a.asIntK with
 | some i=>ob b.asIntK fun j=>cA (kEq i.1 j.1) ((z0f op).f i.1 i.2 j.2)
 | none=>match a.asStr with
  | some s=>ob b.asStr fun u=>(z0c op).f s u
  | none=>(z0d op).f C t x y a b
def binShl(_:qA)(_:Nat)(_ _:Operand)(a b:zA):Option zA:=jW zyw a b
def binShr(_:qA)(_:Nat)(_ _:Operand)(a b:zA):Option zA:=jW z8m a b
def binA:BinOp->BB
 | .shl=>⟨binShl⟩
 | .shr=>⟨binShr⟩
 | op=>⟨ziz op⟩
def unNeg(a:zA):Option zA:=ob a.asIntK fun x=>some (.int x.1 (vA x.1 (0-x.2)))
def unNot(a:zA):Option zA:=ob a.asBool fun b=>some (.bool (!b))
def zmr(a:zA):Option zA:=ob a.asIntK fun x=>cA (Nat.beq (kLo x.1) 0) (sH Nat.xor x.1 (.ofNat (kF x.1-1)) x.2)
def unNone(_:zA):Option zA:=none
structure UB where f:zA->Option zA
def unA:UnOp->UB
 | .neg=>⟨unNeg⟩
 | .xor=>⟨zmr⟩
 | .not=>⟨unNot⟩
 | _=>⟨unNone⟩
def bN(v:zA):Option Nat:=ob v.asIntK fun x=>cA (kEq x.1 .u8) (ob (bI x.2) fun n=>cA (Nat.blt n 256) (some n))
def kT(H:xA)(a:zA):Option zA:=
 match a.asSlice with
 | some x=>ob (tD H x.1) fun c=>ob (c.1.many x.2.2.1 x.2.1) fun l=>ob (mF bN l) fun r=>some (.str r)
 | none=>cA (Nat.beq a.tag 5) (some (.str []))
def uM(C:qA)(s d:qC)(a:zA)(H:xA):Option zA:=
 match d.desc.asInt with
 | some k=>ob a.asInt fun n=>some (.int k (vA k n))
 | none=>cA d.desc.isString (bif Nat.beq a.tag 2 then some a else
   ob s.desc.asSlice fun e=>ob (C.tys.get e) fun et=>ob et.desc.asInt fun k=>cA (kEq k .u8) (kT H a))
def bQ(y:Nat)(v:zA):Option Nat:=ob v.asNat fun n=>cA (Nat.ble n y) (some n)
def zei(y dflt:Nat)(v:Option zA):Option Nat:=
 match v with
 | some v=>bQ y v
 | none=>some dflt
def rM(len cap:Nat)(lo hi:Option zA):Option (Nat × Nat):=
 ob (zei cap len hi) fun h=>ob (zei h 0 lo) fun l=>some (l,h)
def mH(H:xA)(b size cap l:Nat)(arr:Bool):Bool:=
 match tD H b with
 | some c=>match c.2.2 with
  | none=>true
  | some es => !arr&&Nat.beq es.es size&&(!Nat.beq cap l||Nat.beq l 0)
 | none=>false
def jI(H:xA)(b size cap l:Nat)(arr:Bool):Bool:=
 match tD H b with
 | some c=>match c.2.2 with
  | none=>false
  | some es => !arr&&Nat.beq es.es size&&Nat.beq cap l && !Nat.beq l 0
 | none=>false
def vL(C:qA)(H:xA)(arr:Bool)(e b off len cap:Nat)(lo hi:Option zA):Option zA:=
 ob (C.tys.get e) fun et=>ob (rM len cap lo hi) fun x=>
  bif Nat.ble x.2 cap&&Nat.ble x.1 x.2&&jI H b et.size cap x.1 arr then some (.slice 0 1 0 0)else
  cA (Nat.ble x.2 cap&&mH H b et.size cap x.1 arr) (some (.slice b (bif Nat.beq cap x.1 then off else off+x.1*et.size) (x.2-x.1) (cap-x.1)))
def zbu(s:List Nat)(lo hi:Option zA):Option zA:=
 let n:=wB s
 ob (rM n n lo hi) fun x=>some (.str (aL (ze8 s x.2) x.1))
def bJ(C:qA)(H:xA)(ty:qC)(x:zA)(lo hi:Option zA):Option zA:=
 match x.asStr with
 | some s=>cA ty.desc.isString (zbu s lo hi)
 | none=>match x.asSlice with
  | some r=>ob ty.desc.asSlice fun e=>vL C H false e r.1 r.2.1 r.2.2.1 r.2.2.2 lo hi
  | none=>match x.asPtr with
   | some p=>ob ty.desc.asArr fun a=>vL C H true a.2 p.1 p.2 a.1 a.1 lo hi
   | none=>cA (Nat.beq x.tag 5) (ob ty.desc.asSlice fun e=>ob (C.tys.get e) fun _=>ob (rM 0 0 lo hi) fun _=>some .nilslice)
def nT(cells:List zA)(off size:Nat)(v:zA):Option (List zA):=
 let vc:=v.cells
 let n:=wB vc
 cA (Nat.beq n size&&Nat.ble (off+n) (wB cells)) (some (aC (ze8 cells off) (aC vc (aL cells (off+n)))))
def wM(place:Nat->Option (Nat × Nat)):List (Nat × zA)->List zA->Option (List zA)
 | [],cells=>some cells
 | p::rest,cells=>ob (place p.1) fun q=>ob (nT cells q.1 q.2 p.2) fun cells=>wM place rest cells
def uN(d:qD):Bool:=Nat.ble d.tag 2
def keyTag(v:zA):Nat:=v.tag
def zdr(d:qD)(v:zA):Bool:=Nat.beq d.tag (keyTag v)
def dQ(C:qA):List (Nat × Nat × Nat)->Nat->Bool
 | [],_=>true
 | f::fs,i=>bif Nat.beq f.1 i then(match C.tys.get f.2.1 with
  | some ty=>bif uN ty.desc then dQ C fs (i+1)else false
  | none=>false)else false
def gN(C:qA)(ty:qC):Bool:=bif uN ty.desc then true else match ty.desc.asStruct with
 | some fs=>bif ty.eqOk then dQ C fs 0 else false
 | none=>false
def zil(C:qA):List (Nat × Nat × Nat)->List zA->Bool
 | [],[]=>true
 | f::fs,v::l=>(match C.tys.get f.2.1 with
  | some ty=>bif zdr ty.desc v then zil C fs l else false
  | none=>false)
 | _,_=>false
def yM(C:qA)(ty:qC)(v:zA):Bool:=bif uN ty.desc then zdr ty.desc v else match ty.desc.asStruct with
 | some fs=>(match v.asAgg with
  | some l=>zil C fs l
  | none=>false)
 | none=>false
def fK(a b:zA):Option Bool:=
 match a.asIntK with
 | some x=>ob b.asIntK fun y=>cA (kEq x.1 y.1) (some (mA x.2 y.2))
 | none=>match a.asStr with
  | some x=>ob b.asStr fun y=>some (zF x y)
  | none=>zgo a b
def vN:List zA->List zA->Option Bool
 | [],[]=>some true
 | a::x,b::y=>ob (fK a b) fun r=>ob (vN x y) fun s=>some (r&&s)
 | _,_=>none
def bF(a b:zA):Option Bool:=
 match a.asAgg with
 | some x=>ob b.asAgg fun y=>vN x y
 | none=>fK a b
def cG(k:zA):List (zA × zA)->Option (Option zA)
 | []=>some none
 | e::l=>ob (bF k e.1) fun r=>bif r then some (some e.2)else cG k l
def tG(k v:zA):List (zA × zA)->Option (List (zA × zA))
 | []=>some [(k,v)]
 | e::l=>ob (bF k e.1) fun r=>bif r then some ((k,v)::l)else ob (tG k v l) fun l=>some (e::l)
abbrev LOp:=qA->mC->xA->Option zA
def zia:LOp:=fun _ _ _=>none
def nO(x:Operand):LOp:=fun _ e _=>ev x e
def zx1(c a b:Operand):LOp:=fun _ e _=>ob (ev c e) fun c=>ob c.asBool fun c=>bif c then ev a e else ev b e
def lO(t:Nat)(a:Operand):LOp:=fun C e H=>ob (ev a e) fun v=>ob v.asPtr fun p=>ob (C.tys.get t) fun ty=>ob (tD H p.1) fun c=>zN ty c.1 p.2
def z24 (x:Operand):LOp:=fun _ e _=>ob (ev x e) fun v=>cA (Nat.beq v.tag 4||Nat.beq v.tag 9) (some v)
def zyd (op:BinOp)(t:Nat)(x y:Operand):LOp:=fun C e _=>ob (ev x e) fun a=>ob (ev y e) fun b=>(binA op).f C t x y a b
def lUn (op:UnOp)(x:Operand):LOp:=fun _ e _=>ob (ev x e) fun a=>(unA op).f a
def gK(s d:Nat)(x:Operand):LOp:=fun C e H=>ob (ev x e) fun a=>ob (C.tys.get s) fun s=>ob (C.tys.get d) fun d=>uM C s d a H
def iR(t:Nat)(x:Operand):LOp:=fun C e _=>ob (C.tys.get t) fun ty=>cA (Nat.blt ty.desc.tag 9) (ob (ev x e) fun v=>some (.iface t v))
def zya(f:Nat)(a b:Array Operand):LOp:=fun _ e _=>ob (evs a.toList e) fun a=>ob (evs b.toList e) fun b=>some (.func (.func f) a b)
structure LB where f:LOp
def fR(fn:Fn)(a b:Array Operand):LB:=
 match fn with
 | .func f=>⟨zya f a b⟩
 | _=>⟨zia⟩
def jQ(t:Nat)(x:Operand)(lo hi:Option Operand):LOp:=fun C e H=>
 ob (ev x e) fun a=>ob (evo lo e) fun l=>ob (evo hi e) fun h=>ob (C.tys.get t) fun ty=>bJ C H ty a l h
def vW(t:Nat)(x:Operand)(lo hi mx:Option Operand):LB:=
 match mx with
 | none=>⟨jQ t x lo hi⟩
 | some _=>⟨zia⟩
def iO(s:Nat)(x:Operand)(f:Nat):LOp:=fun C e _=>
 ob (C.tys.get s) fun ty=>ob ty.desc.asStruct fun fs=>ob (iC fs f) fun fd=>cA (!Nat.beq fd.2.2 0) (ob (ev x e) fun v=>ob v.asPtr fun p=>some (.ptr p.1 (p.2+fd.1)))
def eR(t:Nat)(x:Operand)(f:Nat):LOp:=fun C e _=>
 ob (C.tys.get t) fun ty=>ob ty.desc.asStruct fun fs=>ob (iC fs f) fun fd=>ob (ev x e) fun v=>ob v.asAgg fun l=>rL C fd.2.1 l fd.1
def kO(t:Nat)(x i:Operand):LOp:=fun C e _=>
 ob (C.tys.get t) fun ty=>ob (ev x e) fun v=>ob (ev i e) fun i=>ob i.asNat fun i=>
  match v.asSlice with
  | some s=>ob ty.desc.asSlice fun el=>ob (C.tys.get el) fun et=>cA (Nat.blt i s.2.2.1) (some (.ptr s.1 (s.2.1+i*et.size)))
  | none=>ob v.asPtr fun p=>ob ty.desc.asArr fun a=>ob (C.tys.get a.2) fun et=>cA (Nat.blt i a.1) (some (.ptr p.1 (p.2+i*et.size)))
def jO(t:Nat)(x i:Operand):LOp:=fun C e _=>
 ob (C.tys.get t) fun ty=>ob (ev x e) fun v=>ob (ev i e) fun i=>ob i.asNat fun i=>
  match v.asStr with
  | some s=>cA ty.desc.isString (ob (iC s i) fun b=>some (.int .u8 (.ofNat b)))
  | none=>ob v.asAgg fun l=>ob ty.desc.asArr fun a=>ob (C.tys.get a.2) fun et=>cA (Nat.blt i a.1) (rL C a.2 l (i*et.size))
def hO(t:Operand)(i:Nat):LOp:=fun _ e _=>ob (ev t e) fun v=>ob v.asTup fun l=>iC l i
def gP(t:Nat)(parts:Array (Nat × Operand)):LOp:=fun C e _=>
 ob (C.tys.get t) fun ty=>ob (evp parts.toList e) fun ps=>
  match ty.desc.asStruct with
  | some fs=>ob (wM (fun i=>ob (iC fs i) fun x=>some (x.1,x.2.2)) ps ty.zero) fun l=>some (.agg l)
  | none=>ob ty.desc.asArr fun a=>ob (C.tys.get a.2) fun et=>ob (wM (fun i=>some (i*et.size,et.size)) ps ty.zero) fun l=>some (.agg l)
def gO(x:Operand)(asserted:Nat)(ok:Bool):LOp:=fun C e _=>
 ob (C.tys.get asserted) fun ty=>cA (Nat.blt ty.desc.tag 9) (ob (ev x e) fun v=>
  match v.asIface with
  | some p=>bif Nat.beq p.1 asserted then some (bif ok then .tup [p.2,.bool true]else p.2)else cA ok (some (.tup [oN ty,.bool false]))
  | none=>cA (Nat.beq v.tag 12&&ok) (some (.tup [oN ty,.bool false])))
def bM(H:xA)(v:zA):Option (List (zA × zA)):=
 match v.asMap with
 | some b=>lG H b
 | none=>cA (Nat.beq v.tag 7) (some [])
def mO(t:Nat)(x i:Operand)(ok:Bool):LOp:=fun C e H=>
 ob (C.tys.get t) fun ty=>ob ty.desc.asMap fun ke=>ob (C.tys.get ke.1) fun kty=>cA (gN C kty) (ob (C.tys.get ke.2) fun ety=>
  ob (ev x e) fun m=>ob (bM H m) fun es=>ob (ev i e) fun k=>cA (yM C kty k) (ob (cG k es) fun r=>
   match r with
   | some v=>some (bif ok then .tup [v,.bool true]else v)
   | none=>some (bif ok then .tup [oN ety,.bool false]else oN ety)))
def zuj (H:xA)(ty:qC)(v:zA):Option Nat:=
 match v.asStr with
 | some s=>cA ty.desc.isString (some (wB s))
 | none=>match v.asSlice with
  | some s=>cA (Nat.beq ty.desc.tag 4) (some s.2.2.1)
  | none=>match ty.desc.asArr with
   | some a=>some a.1
   | none=>match v.asMap with
    | some b=>cA (Nat.beq ty.desc.tag 6) (ob (lG H b) fun l=>some (wB l))
    | none=>cA ((Nat.beq ty.desc.tag 4&&Nat.beq v.tag 5)||(Nat.beq ty.desc.tag 6&&Nat.beq v.tag 7)) (some 0)
def zn0 (c:Call):LOp:=fun C e H=>
 ob (iC c.argTypes.toList 0) fun t=>ob (iC c.args.toList 0) fun x=>ob (C.tys.get t) fun ty=>ob (ev x e) fun v=>ob (zuj H ty v) fun n=>some (.int .i64 (.ofNat n))
def two (c:Call)(e:mC):Option (zA × zA):=
 match c.args.toList with
 | [x,y]=>ob (ev x e) fun a=>ob (ev y e) fun b=>some (a,b)
 | _=>none
def zx6 (c:Call):LOp:=fun _ e _=>ob (two c e) fun p=>ob p.1.asIntK fun x=>ob p.2.asIntK fun y=>some (.int x.1 (bif dB x.2 y.2 then y.2 else x.2))
def zx4 (c:Call):LOp:=fun _ e _=>ob (two c e) fun p=>ob p.1.asIntK fun x=>ob p.2.asIntK fun y=>some (.int x.1 (bif dB y.2 x.2 then y.2 else x.2))
def zb0(c:Call):Builtin->LB
 | .len=>⟨zn0 c⟩
 | .max=>⟨zx6 c⟩
 | .min=>⟨zx4 c⟩
 | _=>⟨zia⟩
def xN(c:Call):Callee->LB
 | .builtin b=>zb0 c b
 | _=>⟨zia⟩
def z76(c:Call):LB:=xN c c.callee
def nE:Op->LB
 | .move x=>⟨nO x⟩
 | .assign x=>⟨nO x⟩
 | .pick c a b=>⟨zx1 c a b⟩
 | .load t a=>⟨lO t a⟩
 | .nilCheck x=>⟨z24 x⟩
 | .binOp op t x y _=>⟨zyd op t x y⟩
 | .unOp op _ x=>⟨lUn op x⟩
 | .convert s d x=>⟨gK s d x⟩
 | .makeInterface t x=>⟨iR t x⟩
 | .makeFunc fn a b=>fR fn a b
 | .slice t x lo hi mx=>vW t x lo hi mx
 | .fieldAddr s x f=>⟨iO s x f⟩
 | .field t x f=>⟨eR t x f⟩
 | .indexAddr t x i=>⟨kO t x i⟩
 | .index t x i=>⟨jO t x i⟩
 | .extract t i=>⟨hO t i⟩
 | .build t ps=>⟨gP t ps⟩
 | .typeAssert x _ u ok=>⟨gO x u ok⟩
 | .lookup t x i ok=>⟨mO t x i ok⟩
 | .call c=>z76 c
 | _=>⟨zia⟩
inductive mI where
 | val (v:zA) (H:xA)
 | enter (f:Nat) (args:List zA)
 | round (l:Nat) (args:List zA)
 | defer (d:fH)
 | panic (v:zA)
 | recover
 | fail
abbrev HOp:=qA->mC->xA->mI
structure HB where f:HOp
def wJ (x:Option (zA × xA)):mI:=
 match x with
 | some p=>.val p.1 p.2
 | none=>.fail
def z5f (x:Option mI):mI:=
 match x with
 | some r=>r
 | none=>.fail
def lv (f:LOp):HOp:=fun C e H=>
 match f C e H with
 | some v=>.val v H
 | none=>.fail
def newBlk(H:xA)(b:rA):xA:=⟨H.next+1,H.t.set H.next b⟩
def zE(H:xA)(l:List zA)(loose:Option Lo):xA:=newBlk H (.cells (Tr.ofList l) (wB l) loose)
def setBlk(H:xA)(b:Nat)(x:rA):xA:=⟨H.next,H.t.set b x⟩
def vJ (zero:List zA):Nat->List zA
 | 0=>[]
 | n+1=>aC zero (vJ zero n)
def jR(v:zA):Option Nat:=
 match v.asSlice with
 | some s=>some s.2.2.1
 | none=>match v.asStr with
  | some s=>some (wB s)
  | none=>cA (Nat.beq v.tag 5) (some 0)
def yP(l:List Nat):List zA:=l.map fun n=>zA.int .u8 (Int.ofNat n)
def cN(H:xA)(size n:Nat)(v:zA):Option (List zA):=
 match v.asSlice with
 | some s=>ob (tD H s.1) fun c=>c.1.many (n*size) s.2.1
 | none=>match v.asStr with
  | some s=>some (yP (ze8 s n))
  | none=>cA (Nat.beq v.tag 5) (some [])
def uI(C:qA)(H:xA)(b off:Nat)(l:List zA):Option xA:=
 cA (!Nat.blt b C.base) (ob (tD H b) fun c=>
  cA (Nat.ble (off+wB l) c.2.1&&tC zA.one l) (some (setBlk H b (.cells (c.1.setMany l off) c.2.1 c.2.2))))
def fQ(et:qC)(len cap n:Nat)(new:List zA):Bool:=
 Nat.blt (len+n+cap) 1000000000&&Nat.blt ((len+n+cap)*et.bytes) 1000000000&&Nat.blt et.bytes 1000000000 && !Nat.beq et.size 0&&Nat.beq (wB new) (n*et.size)&&Nat.beq (wB et.zero) et.size
def zyt(et:qC):Bool:=match et.desc with | .int .u8=>true | _=>false
def qI(e:Nat)(et:qC):Lo:=bif Nat.beq et.size 1&&zyt et then .ty e else .sz et.size
def dN(H:xA)(e:Nat)(et:qC)(n:Nat)(new:List zA):Option (zA × xA):=
 bif Nat.beq n 0 then some (.nilslice,H)else
  cA (fQ et 0 0 n new) (some (.slice H.next 0 n n,zE H new (some (qI e et))))
def xS(C:qA)(H:xA)(et:qC)(n:Nat)(new:List zA)(s:Nat × Nat × Nat × Nat):Option (zA × xA):=
 match new with
 | []=>some (.slice s.1 s.2.1 (s.2.2.1+n) s.2.2.2,H)
 | _::_=>ob (uI C H s.1 (s.2.1+s.2.2.1*et.size) new) fun H'=>some (.slice s.1 s.2.1 (s.2.2.1+n) s.2.2.2,H')
def eU(H:xA)(e:Nat)(et:qC)(n:Nat)(new:List zA)(s:Nat × Nat × Nat × Nat)(c:Tr zA):Option (zA × xA):=
 ob (c.many (s.2.2.1*et.size) s.2.1) fun old=>some (.slice H.next 0 (s.2.2.1+n) (s.2.2.1+n),zE H (aC old new) (some (qI e et)))
def dU(C:qA)(H:xA)(e:Nat)(et:qC)(n:Nat)(new:List zA)(s:Nat × Nat × Nat × Nat)(c:Tr zA)(m:Nat)(lo:Lo):Option (zA × xA):=
 cA (Nat.beq s.2.1 0&&loEq lo (qI e et)&&Nat.ble (s.2.2.1*et.size) m&&Nat.ble m ((s.2.2.1+n)*et.size)&&tC zA.one new && !Nat.blt s.1 C.base)
  (some (.slice H.next 0 (s.2.2.1+n) (s.2.2.1+n),⟨H.next+1,(H.t.del s.1).set H.next (.cells (c.setMany new (s.2.2.1*et.size)) ((s.2.2.1+n)*et.size) (some lo))⟩))
def eQ(C:qA)(H:xA)(e:Nat)(et:qC)(n:Nat)(new:List zA)(s:Nat × Nat × Nat × Nat):Option (zA × xA):=
 cA (!(Nat.beq s.2.1 1&&Nat.beq s.2.2.2 0)) (cA (fQ et s.2.2.1 s.2.2.2 n new) (ob (tD H s.1) fun c=>
  match c.2.2 with
  | none=>eU H e et n new s c.1
  | some lo=>dU C H e et n new s c.1 c.2.1 lo))
def wR(C:qA)(H:xA)(ty:qC)(s x:zA):Option (zA × xA):=
 ob ty.desc.asSlice fun e=>ob (C.tys.get e) fun et=>ob (jR x) fun n=>ob (cN H et.size n x) fun new=>
  match s.asSlice with
  | some s=>bif Nat.ble (s.2.2.1+n) s.2.2.2 then xS C H et n new s else eQ C H e et n new s
  | none=>cA (Nat.beq s.tag 5) (dN H e et n new)
def isBld(C:qA)(t:Nat):Bool:=
 match ob (C.tys.get t) fun ty=>ob ty.desc.asStruct fun fs=>ob (iC fs 0) fun f=>ob (C.tys.get f.2.1) fun tf=>some tf.desc with
 | some (.ptr e)=>Nat.beq e t
 | _=>false
def lI(C:qA)(t:Nat):Option Lo:=
 bif isBld C t then some (.ty t)else
 match ob (C.tys.get t) fun ty=>ob ty.desc.asStruct fun fs=>ob (iC fs 0) fun f=>some (isBld C f.2.1)with
 | some true=>some (.ty t)
 | _=>none
def zS(t:Nat):HOp:=fun C _ H=>wJ (ob (C.tys.get t) fun ty=>some (.ptr H.next 0,zE H ty.zero (lI C t)))
def z3k (t:Nat)(x:Operand):HOp:=fun C e H=>wJ (ob (ev x e) fun v=>some (.ptr H.next 0,zE H v.cells (lI C t)))
def z2q (C:qA):Op->Option Lo
 | .alloc t=>lI C t
 | .box t _=>lI C t
 | _=>none
def aR(t len:Nat)(parts:Array (Nat × Operand)):HOp:=fun C e H=>wJ (ob (C.tys.get t) fun ty=>ob ty.desc.asSlice fun el=>ob (C.tys.get el) fun et=>
 cA (Nat.blt (len*et.size) 1000000&&Nat.beq (wB et.zero) et.size) (ob (evp parts.toList e) fun ps=>ob (wM (fun i=>some (i*et.size,et.size)) ps (vJ et.zero len)) fun l=>some (.slice H.next 0 len len,zE H l none)))
def zk9(t:Nat)(a x:Operand):HOp:=fun C e H=>wJ (ob (C.tys.get t) fun ty=>ob (ev a e) fun a=>ob a.asPtr fun p=>ob (ev x e) fun v=>
 let l:=v.cells
 cA (Nat.beq (wB l) ty.size) (ob (uI C H p.1 p.2 l) fun H'=>some (oD,H')))
def rW(r:Option Operand):HOp:=fun _ _ H=>
 match r with
 | none=>.val (.map H.next) (newBlk H (.map []))
 | some _=>.fail
def bR(t:Nat)(m k x:Operand):HOp:=fun C e H=>wJ (ob (C.tys.get t) fun ty=>ob ty.desc.asMap fun ke=>ob (C.tys.get ke.1) fun kty=>cA (gN C kty)
 (ob (ev m e) fun m=>ob m.asMap fun b=>cA (!Nat.blt b C.base) (ob (lG H b) fun l=>ob (ev k e) fun k=>cA (yM C kty k) (ob (ev x e) fun v=>ob (tG k v l) fun l'=>some (oD,setBlk H b (.map l'))))))
def za0(t:Nat)(l c:Operand):HOp:=fun C e H=>wJ (ob (C.tys.get t) fun ty=>ob ty.desc.asSlice fun el=>ob (C.tys.get el) fun et=>
 ob (ev l e) fun l=>ob l.asNat fun l=>ob (ev c e) fun c=>ob c.asNat fun c=>
  cA (Nat.ble l c&&Nat.blt c 1000000&&Nat.blt (c*et.bytes) 1000000000&&Nat.beq (wB et.zero) et.size) (some (.slice H.next 0 l c,zE H (vJ et.zero c) none)))
def dP(s d:Nat)(x:Operand):HOp:=fun C e H=>
 match gK s d x C e H with
 | some v=>.val v H
 | none=>wJ (ob (C.tys.get s) fun _=>ob (C.tys.get d) fun ty=>ob ty.desc.asSlice fun el=>ob (C.tys.get el) fun et=>ob et.desc.asInt fun k=>cA (kEq k .u8) (ob (ev x e) fun v=>ob v.asStr fun l=>
   some (.slice H.next 0 (wB l) (wB l),zE H (yP l) (some (.ty el)))))
def zy3(x:Operand):HOp:=fun _ e _=>z5f (ob (ev x e) fun v=>ob v.asIface fun p=>some (.panic (.iface p.1 p.2)))
def uO(f:Operand)(args:Array Operand)(e:mC):Option (AFn × List zA × List zA):=
 ob (ev f e) fun v=>ob v.asFunc fun p=>ob (evs args.toList e) fun as=>some (p.1,aC p.2.1 as,p.2.2)
def zb2(c:Call):Callee->HB
 | .value f=>⟨fun _ e _=>z5f (ob (uO f c.args e) fun p=>some (.defer ⟨some p.1,0,aC p.2.1 p.2.2⟩))⟩
 | _=>⟨fun _ _ _=>.fail⟩
def hDefer(c:Call):HB:=zb2 c c.callee
def zK(g:List zA->xA->Option zA):List zA->xA->Option (zA × xA):=fun args H=>ob (g args H) fun v=>some (v,H)
def zgu(_:qA)(H:xA)(args:List zA)(f:Nat):Option (List zA->xA->Option (zA × xA))->mI
 | some g=>match g args H with
  | some p=>.val p.1 p.2
  | none=>.fail
 | none=>.enter f args
def zlw(l:Nat)(args:List zA):List zA->mI
 | []=>.round l args
 | _::_=>.fail
def z9d(C:qA)(H:xA)(args cap:List zA):AFn->mI
 | .func f=>zgu C H (aC args cap) f (C.prims.get f)
 | .yld l=>zlw l args cap
def zd0(f:Operand)(args:Array Operand):HOp:=fun C e H=>z5f (ob (uO f args e) fun p=>some (z9d C H p.2.1 p.2.2 p.1))
def fU(c:Call):HOp:=fun C e H=>wJ (ob (iC c.argTypes.toList 0) fun t=>ob (C.tys.get t) fun ty=>ob (iC c.argTypes.toList 1) fun u=>ob (C.tys.get u) fun uty=>
 cA (!Nat.beq uty.desc.tag 1) (ob (two c e) fun p=>wR C H ty p.1 p.2))
def z8p:HOp:=fun _ _ _=>.fail
def z3i:HOp:=fun _ _ _=>.recover
def z3j(c:Call):Builtin->HB
 | .append=>⟨fU c⟩
 | .len=>⟨lv (zn0 c)⟩
 | .max=>⟨lv (zx6 c)⟩
 | .min=>⟨lv (zx4 c)⟩
 | .recover=>⟨z3i⟩
 | _=>⟨z8p⟩
def gU(c:Call):Callee->HB
 | .value f=>⟨zd0 f c.args⟩
 | .builtin b=>z3j c b
 | _=>⟨z8p⟩
def hCall(c:Call):HB:=gU c c.callee
def lvB (b:LB):HB:=⟨lv b.f⟩
def xF:Op->HB
 | .move x=>⟨lv (nO x)⟩
 | .assign x=>⟨lv (nO x)⟩
 | .pick c a b=>⟨lv (zx1 c a b)⟩
 | .load t a=>⟨lv (lO t a)⟩
 | .nilCheck x=>⟨lv (z24 x)⟩
 | .binOp op t x y _=>⟨lv (zyd op t x y)⟩
 | .unOp op _ x=>⟨lv (lUn op x)⟩
 | .makeInterface t x=>⟨lv (iR t x)⟩
 | .makeFunc fn a b=>lvB (fR fn a b)
 | .slice t x lo hi mx=>lvB (vW t x lo hi mx)
 | .fieldAddr s x f=>⟨lv (iO s x f)⟩
 | .field t x f=>⟨lv (eR t x f)⟩
 | .indexAddr t x i=>⟨lv (kO t x i)⟩
 | .index t x i=>⟨lv (jO t x i)⟩
 | .extract t i=>⟨lv (hO t i)⟩
 | .build t ps=>⟨lv (gP t ps)⟩
 | .typeAssert x _ u ok=>⟨lv (gO x u ok)⟩
 | .lookup t x i ok=>⟨lv (mO t x i ok)⟩
 | .convert s d x=>⟨dP s d x⟩
 | .alloc t=>⟨zS t⟩
 | .box t x=>⟨z3k t x⟩
 | .buildSlice t len ps=>⟨aR t len ps⟩
 | .store t a x=>⟨zk9 t a x⟩
 | .makeMap _ r=>⟨rW r⟩
 | .insert t m k x=>⟨bR t m k x⟩
 | .mapUpdate t m k x=>⟨bR t m k x⟩
 | .makeSlice t l c=>⟨za0 t l c⟩
 | .panic x=>⟨zy3 x⟩
 | .defer c=>hDefer c
 | .call c=>hCall c
 | _=>⟨z8p⟩
structure GB where f:Tm->Option Bool
def z6s(_:Tm):Option Bool:=some true
def zi9(d:Option Nat)(w:Bool)(tm:Tm):Option Bool:=
 ob d fun d=>ob (tm.get d) fun v=>match v.asBool with
  | some b=>some (bEq b w)
  | none=>some false
def zuq(g:Option (Nat × Bool))(all:Array Oper):GB:=
 match g with
 | none=>⟨z6s⟩
 | some jw=>⟨zi9 (ob (iC all.toList jw.1) fun o=>o.dst) jw.2⟩
def lE(g:Option (Nat × Bool))(all:Array Oper)(tm:Tm):Option Bool:=(zuq g all).f tm
structure PB where f:Nat->Tm->zA->Tm
def z18(d n:Nat)(tm:Tm)(v:zA):Tm:=bif Nat.blt d n then tm.set d v else tm
def putNo(_:Nat)(tm:Tm)(_:zA):Tm:=tm
def putB (dst:Option Nat):PB:=
 match dst with
 | some d=>⟨z18 d⟩
 | none=>⟨putNo⟩
def putA (n:Nat)(tm:Tm)(dst:Option Nat)(v:zA):Tm:=(putB dst).f n tm v
def zfc.running:zfc->Bool | .run=>true | _=>false
def lD.blockId:lD->Option Nat | .inBlock id=>some id | _=>none
def wK(id:Nat):List lD->Option (List lD)
 | []=>none
 | x::k=>match x.blockId with
  | some i=>bif Nat.beq i id then some k else wK id k
  | none=>wK id k
def z6c(all:Array Oper)(rest:List Oper)(k:List lD)(tm:Tm)(R:aH)(v:zA):Option zC:=
 match rest with
 | o::rest=>some ⟨.ops all rest::k,putA R.n tm o.dst v,R⟩
 | []=>none
def zzd(all:Array Oper)(old:Tm)(olds:List (Nat × List Nat))(stages:List sE)(k:List lD)(tm:Tm)(R:aH)(v:zA):Option zC:=
 match stages with
 | st::stages=>ob (iC all.toList st.heavy) fun o=>some ⟨.reg all old olds (⟨all.size,st.lights,st.again⟩::stages)::k,putA R.n tm o.dst v,R⟩
 | []=>none
def z3t(l:Nat)(k:List lD)(tm:Tm)(R:aH)(_:zA):Option zC:=some ⟨.endRange l::k,tm,R⟩
def z3u(k:List lD)(tm:Tm)(R:aH)(_:zA):Option zC:=some ⟨k,tm,R⟩
def z8v(_:List lD)(_:Tm)(_:aH)(_:zA):Option zC:=none
def zin:lD->List lD->Tm->aH->zA->Option zC
 | .ops all rest=>z6c all rest
 | .reg all old olds stages=>zzd all old olds stages
 | .inRange l=>z3t l
 | .beginRound=>z3u
 | _=>z8v
def qG(fr:zC)(v:zA):Option zC:=
 match fr.todo with
 | []=>none
 | x::k=>bif fr.R.mode.running then zin x k fr.tm fr.R v else none
def rJ(C:qA)(f:Nat)(args:List zA)(deferred:Bool):Option zC:=
 ob (C.fns.get f) fun fn=>ob fn.body fun c=>ob (C.ks.get f) fun k=>cA (Nat.ble (wB args) k&&Nat.ble (wB args) fn.ntmps) (some ⟨[.code c],⟨k,Tr.ofList args,[]⟩,⟨f,fn.ntmps,[],.run,deferred,none⟩⟩)
def qQ(n:Nat):List Nat->List zA->Tm->Option (Tm)
 | [],[],tm=>some tm
 | p::ps,a::as,tm=>qQ n ps as (putA n tm (some p) a)
 | _,_,_=>none
def zvi:List Operand->List Nat
 | []=>[]
 | .tmp t::l=>t::zvi l
 | _::l=>zvi l
def cF(o:Op):List Nat:=zvi o.operands.toList
def jD(i:Nat):List (Nat × List Nat)->List Nat
 | []=>[]
 | x::r=>bif Nat.beq i x.1 then x.2 else jD i r
def same:Nat->zA->zA->Bool
 | _,.bool a,.bool b=>bEq a b
 | _,.int j a,.int k b=>kEq j k&&mA a b
 | _,.str a,.str b=>zF a b
 | _,.nilptr,.nilptr=>true
 | _,.ptr a b,.ptr c d=>Nat.beq a c&&Nat.beq b d
 | _,.nilslice,.nilslice=>true
 | _,.slice a b c d,.slice e f g h=>Nat.beq a e&&Nat.beq b f&&Nat.beq c g&&Nat.beq d h
 | _,.nilmap,.nilmap=>true
 | _,.map a,.map b=>Nat.beq a b
 | _,.nilfunc,.nilfunc=>true
 | _,.niliface,.niliface=>true
 | d+1,.agg a,.agg b=>sames d a b
 | d+1,.tup a,.tup b=>sames d a b
 | _,_,_=>false
where
 sames (d:Nat):List zA->List zA->Bool
  | [],[]=>true
  | a::x,b::y=>same d a b&&sames d x y
  | _,_=>false
def bL(C:qA)(H:xA)(all:Array Oper)(n:Nat)(old:Tm)(olds:List (Nat × List Nat)):List Nat->Tm->Option (Tm)
 | [],tm=>some tm
 | i::l,tm=>ob (iC all.toList i) fun o=>ob (lE o.guard all tm) fun w=>ob (bif w then(nE o.op).f C (.mixed tm old (jD i olds) (cF o.op)) H else some oD) fun v=>
   bL C H all n old olds l (putA n tm o.dst v)
def oS(C:qA)(H:xA)(all:Array Oper)(old:Tm)(olds:List (Nat × List Nat))(tm:Tm):List Nat->Bool
 | []=>true
 | i::l=>match (ob (iC all.toList i) fun o=>ob o.dst fun d=>ob (lE o.guard all tm) fun w=>bif w then(ob ((nE o.op).f C (.mixed tm old (jD i olds) (cF o.op)) H) fun v=>ob (tm.get d) fun u=>some (same 10 v u))else some true)with
  | some true=>oS C H all old olds tm l
  | _=>false
def zfc.chain:zfc->Option (List iS) | .panicking c=>some c | _=>none
def zgp:List Oper->Tr zA->Tr zA
 | [],t=>t
 | o::l,t=>match o.dst with
  | some j=>zgp l (t.del j)
  | none=>zgp l t
def zkt(todo:List lD)(tm:Tm):Tm:=
 match todo with
 | .reg all _ _ _::_=>⟨tm.k,zgp all.toList tm.v,[]⟩
 | _=>tm
def zp2(fr:zC)(l:List iS):zC:=
 ⟨[],zkt fr.todo fr.tm,⟨fr.R.fn,fr.R.n,fr.R.defers,.panicking (match fr.R.mode.chain with | some c=>aC l c | none=>l),fr.R.deferred,fr.R.roundOf⟩⟩
def gI(x:Option lM)(why:Nat):wE:=
 match x with
 | some s=>.next s
 | none=>.fail why
def yI(H:xA)(l:Nat):Option jL:=cA (Nat.ble (nat_lit 256) l) (ob (H.t.get l) rA.asLoop)
def aP(H:xA)(l:Nat):Option (Option (List fH)):=cA (Nat.ble (nat_lit 256) l) (ob (H.t.get l) rA.asDeferred)
def z7g (v:zA)(H':xA)(_:qA)(fr:zC)(cs:List zC)(_:xA):wE:=gI (ob (qG fr v) fun fr=>some ⟨fr,cs,H'⟩) 1
def zj4(f:Nat)(args:List zA)(C:qA)(fr:zC)(cs:List zC)(H:xA):wE:=gI (ob (rJ C f args false) fun g=>some ⟨g,fr::cs,H⟩) 2
def zj3(l:Nat)(args:List zA)(_:qA)(fr:zC)(cs:List zC)(H:xA):wE:=
 gI (ob (yI H l) fun r=>ob (qQ r.n r.params args r.tm) fun tm=>some ⟨⟨[.code r.assign,.beginRound,.code r.body],tm,⟨r.fn,r.n,[],.run,false,some l⟩⟩,fr::cs,H⟩) 3
def zwv(d:fH)(_:qA)(fr:zC)(cs:List zC)(H:xA):wE:=
 gI (match fr.R.roundOf with
  | none=>ob (qG fr oD) fun g=>some ⟨⟨g.todo,g.tm,⟨g.R.fn,g.R.n,d::g.R.defers,g.R.mode,g.R.deferred,g.R.roundOf⟩⟩,cs,H⟩
  | some _=>none) 4
def z5h(v:zA)(_:qA)(fr:zC)(cs:List zC)(H:xA):wE:=.next ⟨zp2 fr [⟨v,false⟩],cs,H⟩
def zhr(_:qA)(fr:zC)(cs:List zC)(H:xA):wE:=
 gI (match fr.R.roundOf,fr.R.deferred,cs with
  | none,true,c::rest=>match c.R.mode with
   | .panicking (⟨v,false⟩::older)=>ob (qG fr v) fun fr=>some ⟨fr,⟨c.todo,c.tm,⟨c.R.fn,c.R.n,c.R.defers,.panicking (⟨v,true⟩::older),c.R.deferred,c.R.roundOf⟩⟩::rest,H⟩
   | .panicking _=>none
   | _=>ob (qG fr .niliface) fun fr=>some ⟨fr,cs,H⟩
  | _,_,_=>none) 5
def rFail(_:qA)(_:zC)(_:List zC)(_:xA):wE:=.fail 6
def uV:mI->qA->zC->List zC->xA->wE
 | .val v H'=>z7g v H'
 | .enter f args=>zj4 f args
 | .round l args=>zj3 l args
 | .defer d=>zwv d
 | .panic v=>z5h v
 | .recover=>zhr
 | .fail=>rFail
def nR(C:qA)(H:xA)(tm:Tm):ResultVar->Option zA
 | .tmp t=>tm.get t
 | .cell a t=>ob (ob (tm.get a) zA.asPtr) fun p=>ob (C.tys.get t) fun ty=>ob (tD H p.1) fun c=>zN ty c.1 p.2
def oQ(C:qA)(H:xA)(tm:Tm)(l:List ResultVar):Option (List zA):=mF (nR C H tm) l
def zwh(jump:Option Code):Bool:=
 match jump with
 | none=>true
 | some .ret=>true
 | _=>false
def zcy(fr:zC)(m:zfc):zC:=⟨fr.todo,fr.tm,⟨fr.R.fn,fr.R.n,fr.R.defers,m,fr.R.deferred,fr.R.roundOf⟩⟩
def yN(jump:Option Code)(_:qA)(fr:zC)(cs:List zC)(H:xA):wE:=
 gI (match fr.R.roundOf with
  | none=>cA (zwh jump) (some ⟨zcy fr .returning,cs,H⟩)
  | some l=>ob (yI H l) fun r=>match cs with
   | c::rest=>cA (!fr.R.deferred) <| ob (qG c (.bool jump.isNone)) fun c=>some ⟨c,rest,setBlk H l (.loop ⟨if jump.isNone then .ready else .done,jump,r.fn,r.n,r.tm,r.params,r.assign,r.body,r.defers⟩)⟩
   | []=>none) 7
abbrev pJ:=qA->List lD->Tm->aH->List zC->xA->wE
structure XB where f:pJ
def xGo (todo:List lD)(tm:Tm)(R:aH)(cs:List zC)(H:xA):wE:=.next ⟨⟨todo,tm,R⟩,cs,H⟩
def zmg:pJ:=fun _ k tm R cs H=>xGo k tm R cs H
def zun(c:Operand)(x y:Code):pJ:=fun _ k tm R cs H=>
 match ob (ev c (.now tm)) zA.asBool with
 | some b=>xGo (.code (bif b then x else y)::k) tm R cs H
 | none=>.fail 8
def z4w(id:Nat)(c:Code):pJ:=fun _ k tm R cs H=>xGo (.code c::.inBlock id::k) tm R cs H
def z6o(c:Code):pJ:=fun _ k tm R cs H=>xGo (.code c::.inLoop c::k) tm R cs H
def xScope(c:Code):pJ:=fun _ k tm R cs H=>xGo (.code c::.inScope c::k) tm R cs H
def zi5(id:Nat):pJ:=fun C k tm R cs H=>
 match wK id k with
 | some k'=>xGo k' tm R cs H
 | none=>yN (some (.exit id)) C ⟨.code (.exit id)::k,tm,R⟩ cs H
def xRet:pJ:=fun C k tm R cs H=>yN (some .ret) C ⟨.code .ret::k,tm,R⟩ cs H
def z6p:pJ:=fun _ _ _ _ _ _=>.fail 9
def sS(e:Edge):Bool:=
 match e.ground with
 | .textOnly _=>false
 | .gcOnly _=>false
 | _=>true
def tb (m i:Nat):Bool:=Nat.beq (Nat.mod (Nat.shiftRight m i) (nat_lit 2)) (nat_lit 1)
def ziy(i:Nat):Nat:=Nat.shiftLeft (nat_lit 1) i
def qH (t:Tr Nat)(i:Nat):Nat:=
 match t.get i with
 | some m=>m
 | none=>0
def zgc(t:Tr Nat):List Edge->Nat
 | []=>0
 | e::l=>bif sS e then Nat.lor (Nat.lor (ziy e.on) (qH t e.on)) (zgc t l)else zgc t l
def z9h:List Oper->Nat->Tr Nat->Tr Nat
 | [],_,t=>t
 | o::r,i,t=>z9h r (i+1) (t.set i (zgc t o.after.toList))
def zqe:List Oper->Nat->Bool
 | [],_=>true
 | o::r,i=>bif tC (fun e=>bif sS e then Nat.blt e.on i else true) o.after.toList then zqe r (i+1)else false
def wrOf:List Oper->Nat->Tr Nat->Option (Tr Nat)
 | [],_,t=>some t
 | o::r,i,t=>match o.dst with
  | none=>wrOf r (i+1) t
  | some d=>match t.get d with
   | none=>wrOf r (i+1) (t.set d i)
   | some _=>none
def dG{α:Type}:Option α->Bool | none=>true | some _=>false
def zxd(wr anc:Tr Nat)(i:Nat)(olds:List Nat)(t:Nat):Bool:=
 match wr.get t with
 | none=>true
 | some j=>bif cE t olds then(bif Nat.beq j i then true else tb (qH anc j) i)else tb (qH anc i) j
def znk(anc:Nat):Option (Nat × Bool)->Bool
 | none=>true
 | some g=>tb anc g.1
def z2g(wr anc:Tr Nat)(olds:List (Nat × List Nat)):List Oper->Nat->Bool
 | [],_=>true
 | o::r,i=>bif znk (qH anc i) o.guard then(bif tC (zxd wr anc i (jD i olds)) (cF o.op)then z2g wr anc olds r (i+1)else false)else false
def lN:Op->Bool
 | .move _=>true
 | .assign _=>true
 | .pick _ _ _=>true
 | .nilCheck _=>true
 | .binOp _ _ _ _ _=>true
 | .unOp _ _ _=>true
 | .makeInterface _ _=>true
 | .makeFunc _ _ _=>true
 | .fieldAddr _ _ _=>true
 | .field _ _ _=>true
 | .indexAddr _ _ _=>true
 | .index _ _ _=>true
 | .extract _ _=>true
 | .build _ _=>true
 | .typeAssert _ _ _ _=>true
 | _=>false
def z1e (D:Nat)(o:Oper):Bool:=tC (fun e=>bif sS e then tb D e.on else true) o.after.toList
def zqd(h D:Nat):List Oper->Nat->Bool
 | [],_=>true
 | o::r,i=>bif (bif tb D i then true else bif Nat.beq i h then true else !z1e D o)then zqd h D r (i+1)else false
def rI:Op->Bool
 | .alloc _=>true
 | .box _ _=>true
 | .buildSlice _ _ _=>true
 | _=>false
def zhz(m D:Nat)(again:List Nat):List Oper->Nat->Bool
 | [],_=>true
 | o::r,i=>bif (bif tb D i then(bif tb m i then true else bif lN o.op then true else bif rI o.op then true else cE i again)else true)then zhz m D again r (i+1)else false
def mP(ops:List Oper)(i D:Nat):Option Nat:=
 ob (iC ops i) fun o=>cA (bif tb D i then false else z1e D o) (some (Nat.lor D (ziy i)))
def jK(ops:List Oper):List Nat->Nat->Option Nat
 | [],D=>some D
 | i::l,D=>ob (mP ops i D) fun D=>jK ops l D
def z2i(D:Nat):List Oper->Nat->Bool
 | [],_=>true
 | _::r,i=>bif tb D i then z2i D r (i+1)else false
def z8j:Option Oper->Bool
 | some o=>rI o.op
 | none=>false
def okG (ops:List Oper)(D:Nat):List Nat->Nat->Option Nat
 | [],E=>some E
 | i::l,E=>ob (iC ops i) fun o=>cA (!tb E i&&z1e D o&&dG o.dst) (okG ops D l (Nat.lor E (ziy i)))
def zqc(anc:Tr Nat)(D1:Nat)(G:List Nat):List Oper->Nat->Bool
 | [],_=>true
 | o::r,i=>bif (bif tb D1 i then true else bif tC (fun g=>tb (qH anc i) g) G then true else !z1e D1 o)then zqc anc D1 G r (i+1)else false
def zk5(o:Op):Bool:=
 match o with
 | .call c=>(match c.callee with
  | .builtin .len=>true
  | _=>false)
 | _=>false
def zby(anc:Tr Nat)(D:Nat)(G:List Nat):List Oper->Nat->Bool
 | [],_=>true
 | o::r,i=>bif (bif tb D i then(bif lN o.op then true else bif rI o.op then true else bif zk5 o.op then true else tC (fun g=>tb (qH anc g) i) G)else true)then zby anc D G r (i+1)else false
def zxe(ops:List Oper)(anc:Tr Nat)(D:Nat)(st:sE):Option Nat:=
 ob (okG ops D st.again D) fun D1=>cA (zqc anc D1 st.again ops 0&&zby anc D st.again ops 0) (jK ops st.lights D1)
def lH(ops:List Oper)(anc:Tr Nat):List sE->Nat->Bool
 | [],D=>z2i D ops 0
 | st::r,D=>bif Nat.blt (wB ops) st.heavy then(bif Nat.blt (wB ops+wB ops) st.heavy then(match zxe ops anc D st with
   | some D=>lH ops anc r D
   | none=>false)else bif z8j (iC ops (Nat.sub st.heavy (Nat.succ (wB ops))))then
   (match ob (mP ops (Nat.sub st.heavy (Nat.succ (wB ops))) D) fun D=>jK ops st.lights D with
   | some D=>lH ops anc r D
   | none=>false)else false)else bif zqd st.heavy D ops 0 then(bif zhz (qH anc st.heavy) D st.again ops 0 then
   (match ob (mP ops st.heavy D) fun D=>jK ops st.lights D with
   | some D=>lH ops anc r D
   | none=>false)else false)else false
def znj(ops:List Oper)(p:Plan):Bool:=
 bif zqe ops 0 then
  (match wrOf ops 0 .leaf with
  | none=>false
  | some wr=>
   (fun anc=>bif z2g wr anc p.olds ops 0 then(match jK ops p.first 0 with
    | some D=>lH ops anc p.stages D
    | none=>false)else false) (z9h ops 0 .leaf))else false
structure OkB where b:Bool
def iN(all:Array Oper)(p:Plan):Bool:=(OkB.mk (znj all.toList p)).b
def zum(id:Nat)(all:Array Oper):pJ:=fun C k tm R cs H=>
 gI (ob (ob (C.plans.get R.fn) fun t=>t.get id) fun p=>cA (iN all p) <| ob (bL C H all R.n tm.cut p.olds p.first tm.cut) fun tm'=>some ⟨⟨.reg all tm.cut p.olds p.stages::k,tm',R⟩,cs,H⟩) 10
def mI.asVal:mI->Option (zA × xA) | .val v H=>some (v,H) | _=>none
def vO(C:qA)(all:Array Oper)(k:List lD)(R:aH)(cs:List zC)(l:List Oper):Tm->xA->wE:=
 List.rec (motive:=fun _=>Tm->xA->wE) (fun tm H=>xGo k tm R cs H)
  (fun o rest g tm H=>
   match lE o.guard all tm with
   | some w=>Bool.rec (motive:=fun _=>wE) (g (putA R.n tm o.dst oD) H)
     (let r:=(xF o.op).f C (.now tm) H
     match r.asVal with
     | some p=>g (putA R.n tm o.dst p.1) p.2
     | none=>uV r C ⟨.ops all (o::rest)::k,tm,R⟩ cs H) w
   | none=>.fail 20) l
def xOps (all:Array Oper)(rest:List Oper):pJ:=fun C k tm R cs H=>vO C all k R cs rest tm H
def z6n(id:Nat)(all:Array Oper)(draw:Bool):XB:=
 match draw with
 | true=>⟨zum id all⟩
 | false=>⟨fun C k tm R cs H=>vO C all k R cs all.toList tm.cut H⟩
def zo9(all:Array Oper)(old:Tm)(olds:List (Nat × List Nat))(st:sE)(stages:List sE)(o:Oper):pJ:=fun C k tm R cs H=>
 match lE o.guard all tm with
 | some w=>uV (bif w then(xF o.op).f C (.mixed tm old (jD st.heavy olds) (cF o.op)) H else .val oD H) C ⟨.reg all old olds (st::stages)::k,tm,R⟩ cs H
 | none=>.fail 21
def zcb(all:Array Oper)(old:Tm)(olds:List (Nat × List Nat))(st:sE)(stages:List sE):pJ:=fun C k tm R cs H=>
 gI (cA (oS C H all old olds tm st.again) (ob (bL C H all R.n old olds st.lights tm) fun tm=>some ⟨⟨.reg all old olds stages::k,tm,R⟩,cs,H⟩)) 11
def zpb(all:Array Oper)(old:Tm)(olds:List (Nat × List Nat))(st:sE)(stages:List sE)(i:Nat):pJ:=fun C k tm R cs H=>
 gI (ob (iC all.toList i) fun o=>ob (lE o.guard all tm) fun w=>cA (w&&dG (z2q C o.op)) (ob ((xF o.op).f C (.mixed tm old (jD i olds) (cF o.op)) H).asVal fun p=>
  ob (bL C p.2 all R.n old olds st.lights (putA R.n tm o.dst p.1)) fun tm'=>some ⟨⟨.reg all old olds stages::k,tm',R⟩,cs,p.2⟩)) 23
inductive Eff where
 | store (t:Nat) (a v:zA)
 | upd (t:Nat) (m k v:zA)
inductive RE where
 | st (b off:Nat) (l:List zA)
 | up (b:Nat) (k v:zA)
def cO(op:Op)(e:mC):Option Eff:=
 match op with
 | .store t a x=>ob (ev a e) fun a=>ob (ev x e) fun v=>some (.store t a v)
 | .mapUpdate t m k x=>ob (ev m e) fun m=>ob (ev k e) fun k=>ob (ev x e) fun v=>some (.upd t m k v)
 | .insert t m k x=>ob (ev m e) fun m=>ob (ev k e) fun k=>ob (ev x e) fun v=>some (.upd t m k v)
 | _=>none
def zpy (C:qA)(e:Eff):Option RE:=
 match e with
 | .store t a v=>ob (C.tys.get t) fun ty=>ob a.asPtr fun p=>cA (Nat.beq (wB v.cells) ty.size) (some (.st p.1 p.2 v.cells))
 | .upd t m k v=>ob (C.tys.get t) fun ty=>ob ty.desc.asMap fun ke=>ob (C.tys.get ke.1) fun kty=>cA (gN C kty&&yM C kty k) (ob m.asMap fun b=>some (.up b k v))
def RE.blk:RE->Nat
 | .st b _ _=>b
 | .up b _ _=>b
def zh4(a b:zA):Bool:=
 match bF a b with
 | some r => !r
 | none=>false
def z0j(a b:RE):Bool:=bif Nat.beq a.blk b.blk then(match a with
 | .st _ _ _=>false
 | .up _ k _=>(match b with
  | .st _ _ _=>false
  | .up _ k' _=>zh4 k k'))else true
def zg0:List RE->Bool
 | []=>true
 | a::l=>tC (z0j a) l&&zg0 l
def yQ(C:qA)(H:xA)(e:RE):Option xA:=
 match e with
 | .st b off l=>uI C H b off l
 | .up b k v=>cA (!Nat.blt b C.base) (ob (lG H b) fun m=>some (setBlk H b (.map (aC m [(k,v)]))))
def zc5(C:qA)(H:xA)(e:RE):Bool:=
 match e with
 | .st b off l => !dG (uI C H b off l)
 | .up b _ _ => !Nat.blt b C.base&&(match lG H b with
  | some []=>true
  | _=>false)
def xR(C:qA):List RE->xA->Option xA
 | [],H=>some H
 | e::l,H=>ob (yQ C H e) fun H=>xR C l H
def cP(C:qA)(es:List Eff)(H:xA):Option xA:=ob (mF (zpy C) es) fun rs=>cA (zg0 rs&&tC (zc5 C H) rs) (xR C rs H)
def zfa(all:Array Oper)(old:Tm)(olds:List (Nat × List Nat))(tm:Tm)(i:Nat):Option Eff:=
 ob (iC all.toList i) fun o=>ob (lE o.guard all tm) fun w=>cA w (cO o.op (.mixed tm old (jD i olds) (cF o.op)))
def zqk(C:qA)(o:Oper):Bool:=
 match o.op with
 | .call c=>(match c.callee with
  | .builtin .len=>(match ob (iC c.argTypes.toList 0) fun t=>C.tys.get t with
   | some ty => !Nat.beq ty.desc.tag 6
   | none=>false)
  | _=>true)
 | _=>true
def jP(C:qA)(all:Array Oper):Bool:=tC (zqk C) all.toList
def ztu(all:Array Oper)(old:Tm)(olds:List (Nat × List Nat))(tm:Tm)(l:List Nat):Option (List Eff):=mF (zfa all old olds tm) l
def zpa(all:Array Oper)(old:Tm)(olds:List (Nat × List Nat))(st:sE)(stages:List sE):pJ:=fun C k tm R cs H=>
 gI (cA (jP C all) (ob (ztu all old olds tm st.again) fun es=>ob (cP C es H) fun H'=>ob (bL C H' all R.n old olds st.lights tm) fun tm'=>some ⟨⟨.reg all old olds stages::k,tm',R⟩,cs,H'⟩)) 24
def zrz (all:Array Oper)(old:Tm)(olds:List (Nat × List Nat))(stages:List sE):pJ:=
 match stages with
 | []=>zmg
 | st::stages=>match iC all.toList st.heavy with
  | some o=>zo9 all old olds st stages o
  | none=>bif Nat.blt (wB all.toList) st.heavy then(bif Nat.blt (wB all.toList+wB all.toList) st.heavy then zpa all old olds st stages else zpb all old olds st stages (Nat.sub st.heavy (Nat.succ (wB all.toList))))else zcb all old olds st stages
def mQ(C:qA)(l:Nat)(f:zA):Option zC:=
 ob f.asFunc fun p=>match p.1 with
  | .func g=>match C.prims.get g with
   | none=>rJ C g (aC p.2.1 (.func (.yld l) [] []::p.2.2)) false
   | some _=>none
  | .yld _=>none
def zi4(f:Operand)(params:Array Nat)(assign body:Code):pJ:=fun C k tm R cs H=>
 gI (ob (ev f (.now tm)) fun v=>match R.roundOf with
  | none=>
   let r:=H.next
   let l:=r+1
   ob (mQ C l v) fun h=>
    some ⟨h,⟨.inRange l::k,tm,⟨R.fn,R.n,⟨none,r,[]⟩::R.defers,R.mode,R.deferred,R.roundOf⟩⟩::cs,
     newBlk (newBlk H (.deferred (some []))) (.loop ⟨.ready,none,R.fn,R.n,tm,params.toList,assign,body,r⟩)⟩
  | some outer=>ob (yI H outer) fun o=>
   let l:=H.next
   ob (mQ C l v) fun h=>
    some ⟨h,⟨.inRange l::k,tm,R⟩::cs,newBlk H (.loop ⟨.ready,none,R.fn,R.n,tm,params.toList,assign,body,o.defers⟩)⟩) 12
def LoopState.tag:LoopState->Nat | .ready=>0 | .busy=>1 | .done=>2 | .exhausted=>3
def zi6:pJ:=fun _ k tm R cs H=>
 gI (ob R.roundOf fun l=>ob (yI H l) fun r=>cA (Nat.beq (LoopState.tag r.state) 0)
  (some ⟨⟨k,tm,R⟩,cs,setBlk H l (.loop ⟨.busy,r.pending,r.fn,r.n,r.tm,r.params,r.assign,r.body,r.defers⟩)⟩)) 13
def rV(l:Nat):pJ:=fun _ k tm R cs H=>
 gI (ob (yI H l) fun r=>cA (!Nat.beq (LoopState.tag r.state) 1)
  (some ⟨⟨(match r.pending with | some c=>.code c::k | none=>k),tm,R⟩,cs,setBlk H l (.loop ⟨.exhausted,r.pending,r.fn,r.n,r.tm,r.params,r.assign,r.body,r.defers⟩)⟩)) 14
def z6q:Code->XB
 | .skip=>⟨zmg⟩
 | .region id ops d=>z6n id ops d
 | .seq a b=>⟨fun C k tm R cs H=>(z6q a).f C (.code b::k) tm R cs H⟩
 | .cond c x y=>⟨zun c x y⟩
 | .block id c=>⟨z4w id c⟩
 | .loop c=>⟨z6o c⟩
 | .rangeFunc f ps a b=>⟨zi4 f ps a b⟩
 | .exit id=>⟨zi5 id⟩
 | .scope c=>⟨xScope c⟩
 | .label _=>⟨zmg⟩
 | .goto _=>⟨z6p⟩
 | .ret=>⟨xRet⟩
 | .refuse _=>⟨z6p⟩
def xItem:lD->XB
 | .code c=>z6q c
 | .inBlock _=>⟨zmg⟩
 | .inLoop c=>⟨z6o c⟩
 | .inScope _=>⟨zmg⟩
 | .ops all rest=>⟨xOps all rest⟩
 | .reg all old olds stages=>⟨zrz all old olds stages⟩
 | .inRange _=>⟨z6p⟩
 | .endRange l=>⟨rV l⟩
 | .beginRound=>⟨zi6⟩
def vM(C:qA)(todo:List lD)(tm:Tm)(R:aH)(cs:List zC)(H:xA):wE:=
 match todo with
 | []=>yN none C ⟨[],tm,R⟩ cs H
 | x::k=>(xItem x).f C k tm R cs H
def zju(fr:zC)(d:List fH):zC:=⟨fr.todo,fr.tm,⟨fr.R.fn,fr.R.n,d,fr.R.mode,fr.R.deferred,fr.R.roundOf⟩⟩
def zjj(C:qA)(d:fH)(ds:List fH)(fr:zC)(cs:List zC)(H:xA):wE:=
 gI (match d.fn with
  | none=>ob (aP H d.r) fun l=>ob l fun l=>some ⟨zju fr (aC l ds),cs,setBlk H d.r (.deferred none)⟩
  | some (.func f)=>match C.prims.get f with
   | none=>ob (rJ C f d.args true) fun g=>some ⟨g,zju fr ds::cs,H⟩
   | some _=>none
  | some (.yld _)=>none) 15
def cS(l:List zA):zA:=
 match l with
 | [v]=>v
 | l=>.tup l
def zcj(C:qA)(fr:zC)(cs:List zC)(H:xA):wE:=
 match ob (C.fns.get fr.R.fn) fun fn=>oQ C H fr.tm fn.results.toList with
 | none=>.fail 16
 | some l=>
  match cs with
  | []=>bif fr.R.deferred then .fail 17 else bif Nat.beq fr.R.fn C.root then .done (cS l) H else .fail 22
  | c::rest=>gI (bif fr.R.deferred then
    (match c.R.mode with
    | .panicking (⟨_,true⟩::_)=>some ⟨zcy c .returning,rest,H⟩
    | _=>cA (!c.R.mode.running) (some ⟨c,rest,H⟩))
   else ob (qG c (cS l)) fun c=>some ⟨c,rest,H⟩) 18
def zha(C:qA)(fr:zC)(cs:List zC)(H:xA):wE:=
 match fr.R.defers with
 | d::ds=>zjj C d ds fr cs H
 | []=>match fr.R.mode.chain with
  | some chain=>gI (ob (C.fns.get fr.R.fn) fun _=>match cs with | c::rest=>some ⟨zp2 c chain,rest,H⟩ | []=>none) 19
  | none=>zcj C fr cs H
def stepA(C:qA)(s:lM):wE:=
 match s with
 | ⟨⟨todo,tm,R⟩,cs,H⟩=>bif R.mode.running then vM C todo tm R cs H else zha C ⟨todo,tm,R⟩ cs H
def zsi(C:qA)(o:wE):wE:=
 match o with
 | .next s=>stepA C s
 | .done v H=>.done v H
 | .fail n=>.fail n
def zpv (C:qA)(n:Nat):wE->wE:=
 Nat.rec (motive:=fun _=>wE->wE) (fun o=>zsi C o) (fun _ g o=>g (g o)) n
end Go.Am
namespace Go.Am
open Go
theorem tA{α β:Type}{x:Option α}{f:α->Option β}{b:β}:ob x f=some b ↔ ∃a,x=some a/\f a=some b:=by
 cases x with
 | none=>simp[ob]
 | some a=>exact⟨fun h=>⟨a,rfl,h⟩,fun⟨_,h,k⟩=>by cases h;exact k⟩
@[simp] theorem z7q {α β:Type} {f:α->Option β}:ob none f=none:=rfl
@[simp] theorem uA {α β:Type} {a:α} {f:α->Option β}:ob (some a) f=f a:=rfl
theorem yB{α:Type}{b:Bool}{x:Option α}{a:α}:cA b x=some a ↔ b=true/\x=some a:=by
 cases b with
 | false=>simp[cA]
 | true=>simp[cA]
theorem yH{α:Type}(a b:α)(c:Bool):(Bool.rec (motive:=fun _=>α) a b c:α)=if c=true then b else a:=by cases c<;>rfl
theorem fB{n m:Nat}:(Nat.beq n m=true) ↔ n=m:=⟨Nat.eq_of_beq_eq_true,fun h=>by subst h;exact Nat.beq_refl n⟩
theorem beqf{n m:Nat}:(Nat.beq n m=false) ↔ n≠m:=by
 rw[<- Bool.not_eq_true,fB]
theorem tE{n m:Nat}:(Nat.ble n m=true) ↔ n<=m:=Iff.of_eq Nat.ble_eq
theorem xC{n m:Nat}:(Nat.blt n m=true) ↔ n<m:=Iff.of_eq Nat.ble_eq
theorem aB{α:Type}(c:Bool)(a b:α):(bif c then a else b)=if c=true then a else b:=by cases c<;>rfl
namespace Tr
variable {α:Type}
theorem get_leaf(n:Nat):(leaf:Tr α).get n=none:=rfl
theorem get_node(l:Tr α)(v:Option α)(r:Tr α)(n:Nat) :
  (node l v r).get n=if n=0 then v else if n%2=1 then l.get (n / 2)else r.get (n / 2-1):=by
 show Bool.rec (motive:=fun _=>Option α) (Bool.rec (motive:=fun _=>Option α) (r.get (n / 2-1)) (l.get (n / 2)) (Nat.beq (n%2) 1)) v (Nat.beq n 0)=_
 rw[yH,yH];simp only[fB]
theorem z7s(f n:Nat)(v:α):mk (f+1) n v=if n=0 then node leaf (some v) leaf else if n%2=1 then node (mk f (n / 2) v) none leaf else node leaf none (mk f (n / 2-1) v):=by
 show Bool.rec (motive:=fun _=>Tr α) (Bool.rec (motive:=fun _=>Tr α) (node leaf none (mk f (n / 2-1) v)) (node (mk f (n / 2) v) none leaf) (Nat.beq (n%2) 1)) (node leaf (some v) leaf) (Nat.beq n 0)=_
 rw[yH,yH];simp only[fB]
theorem z1x(n:Nat)(v:α):(leaf:Tr α).set n v=mk (n+1) n v:=rfl
theorem z1w(l:Tr α)(x:Option α)(r:Tr α)(n:Nat)(v:α) :
  (node l x r).set n v=if n=0 then node l (some v) r else if n%2=1 then node (l.set (n / 2) v) x r else node l x (r.set (n / 2-1) v):=by
 show Bool.rec (motive:=fun _=>Tr α) (Bool.rec (motive:=fun _=>Tr α) (node l x (r.set (n / 2-1) v)) (node (l.set (n / 2) v) x r) (Nat.beq (n%2) 1)) (node l (some v) r) (Nat.beq n 0)=_
 rw[yH,yH];simp only[fB]
theorem z35(l:Tr α)(x:Option α)(r:Tr α)(n:Nat) :
  (node l x r).del n=if n=0 then node l none r else if n%2=1 then node (l.del (n / 2)) x r else node l x (r.del (n / 2-1)):=by
 show Bool.rec (motive:=fun _=>Tr α) (Bool.rec (motive:=fun _=>Tr α) (node l x (r.del (n / 2-1))) (node (l.del (n / 2)) x r) (Nat.beq (n%2) 1)) (node l none r) (Nat.beq n 0)=_
 rw[yH,yH];simp only[fB]
theorem get_mk(f:Nat):∀(n m:Nat) (v:α),n<f->(mk f n v).get m=if m=n then some v else none:=by
 induction f with
 | zero=>intro n m v h;omega
 | succ f ih=>
  intro n m v h;rw[z7s];by_cases h0:n=0
  ·rw[if_pos h0,get_node];subst h0;split<;>simp[get_leaf]
  ·rw[if_neg h0]
   by_cases h1:n%2=1
   ·rw[if_pos h1,get_node]
    by_cases m0:m=0
    ·rw[if_pos m0,if_neg (by omega)]
    ·rw[if_neg m0]
     by_cases m1:m%2=1
     ·rw[if_pos m1,ih _ _ _ (by omega)];by_cases e:m=n
      ·subst e;simp
      ·rw[if_neg e,if_neg (by omega)]
     ·rw[if_neg m1,get_leaf,if_neg (by omega)]
   ·rw[if_neg h1,get_node]
    by_cases m0:m=0
    ·rw[if_pos m0,if_neg (by omega)]
    ·rw[if_neg m0]
     by_cases m1:m%2=1
     ·rw[if_pos m1,get_leaf,if_neg (by omega)]
     ·rw[if_neg m1,ih _ _ _ (by omega)];by_cases e:m=n
      ·subst e;simp
      ·rw[if_neg e,if_neg (by omega)]
theorem get_set(t:Tr α):∀(n m:Nat) (v:α),(t.set n v).get m=if m=n then some v else t.get m:=by
 induction t with
 | leaf=>intro n m v;rw[z1x,get_mk _ _ _ _ (by omega),get_leaf]
 | node l x r ihl ihr=>
  intro n m v;rw[z1w];by_cases h0:n=0
  ·rw[if_pos h0,get_node,get_node];subst h0;by_cases m0:m=0<;>simp[m0]
  ·rw[if_neg h0]
   by_cases h1:n%2=1
   ·rw[if_pos h1,get_node,get_node]
    by_cases m0:m=0
    ·rw[if_pos m0,if_pos m0,if_neg (by omega)]
    ·rw[if_neg m0,if_neg m0]
     by_cases m1:m%2=1
     ·rw[if_pos m1,if_pos m1,ihl];by_cases e:m=n
      ·subst e;simp
      ·rw[if_neg e,if_neg (by omega)]
     ·rw[if_neg m1,if_neg m1,if_neg (by omega)]
   ·rw[if_neg h1,get_node,get_node]
    by_cases m0:m=0
    ·rw[if_pos m0,if_pos m0,if_neg (by omega)]
    ·rw[if_neg m0,if_neg m0]
     by_cases m1:m%2=1
     ·rw[if_pos m1,if_pos m1,if_neg (by omega)]
     ·rw[if_neg m1,if_neg m1,ihr];by_cases e:m=n
      ·subst e;simp
      ·rw[if_neg e,if_neg (by omega)]
theorem get_del(t:Tr α):∀(n m:Nat),(t.del n).get m=if m=n then none else t.get m:=by
 induction t with
 | leaf=>intro n m;show(leaf:Tr α).get m=_;rw[get_leaf];split<;>rfl
 | node l x r ihl ihr=>
  intro n m;rw[z35];by_cases h0:n=0
  ·rw[if_pos h0,get_node,get_node];subst h0;by_cases m0:m=0<;>simp[m0]
  ·rw[if_neg h0]
   by_cases h1:n%2=1
   ·rw[if_pos h1,get_node,get_node]
    by_cases m0:m=0
    ·rw[if_pos m0,if_pos m0,if_neg (by omega)]
    ·rw[if_neg m0,if_neg m0]
     by_cases m1:m%2=1
     ·rw[if_pos m1,if_pos m1,ihl];by_cases e:m=n
      ·subst e;simp
      ·rw[if_neg e,if_neg (by omega)]
     ·rw[if_neg m1,if_neg m1,if_neg (by omega)]
   ·rw[if_neg h1,get_node,get_node]
    by_cases m0:m=0
    ·rw[if_pos m0,if_pos m0,if_neg (by omega)]
    ·rw[if_neg m0,if_neg m0]
     by_cases m1:m%2=1
     ·rw[if_pos m1,if_pos m1,if_neg (by omega)]
     ·rw[if_neg m1,if_neg m1,ihr];by_cases e:m=n
      ·subst e;simp
      ·rw[if_neg e,if_neg (by omega)]
theorem many_succ(t:Tr α)(n i:Nat):t.many (n+1) i=ob (t.get i) fun v=>ob (t.many n (i+1)) fun l=>some (v::l):=rfl
theorem many_some(t:Tr α)(n:Nat):∀(i:Nat) (l:List α),t.many n i=some l->l.length=n/\∀j,j<n->t.get (i+j)=l[j]?:=by
 induction n with
 | zero=>intro i l h;cases h;exact⟨rfl,fun j hj=>by omega⟩
 | succ n ih=>
  intro i l h;rw[many_succ,tA]at h;obtain⟨v,hv,h⟩:=h
  rw[tA]at h;obtain⟨m,hm,h⟩:=h
  cases h;obtain⟨h1,h2⟩:=ih _ _ hm
  refine⟨by simp[h1],fun j hj=>?_⟩
  cases j with
  | zero=>simpa using hv
  | succ j=>have:=h2 j (by omega);rw[show i+1+j=i+(j+1) by omega]at this;simpa using this
theorem zjt(v:α)(l:List α)(t:Tr α)(i:Nat):setMany (v::l) t i=setMany l (t.set i v) (i+1):=rfl
theorem get_setMany(l:List α):∀(t:Tr α) (i m:Nat),(setMany l t i).get m=if i<=m/\m<i+l.length then l[m-i]? else t.get m:=by
 induction l with
 | nil=>intro t i m;rw[if_neg (by simp)];rfl
 | cons v l ih=>
  intro t i m;rw[zjt,ih,get_set];by_cases h:i+1<=m/\m<i+1+l.length
  ·rw[if_pos h,if_pos (by simp;omega)]
   rw[show m-i=(m-(i+1))+1 by omega];simp
  ·rw[if_neg h]
   by_cases e:m=i
   ·subst e;simp
   ·rw[if_neg e,if_neg (by simp;omega)]
theorem get_ofList(l:List α)(m:Nat):(ofList l).get m=l[m]?:=by
 unfold ofList;rw[get_setMany];split
 ·simp
 ·rename_i h;rw[get_leaf,List.getElem?_eq_none (by omega)]
end Tr
theorem lF{α:Type}(l:List α):∀n,iC l n=l[n]?:=by
 induction l with
 | nil=>intro n;rfl
 | cons a l ih=>
  intro n
  cases n with
  | zero=>rfl
  | succ n=>show iC l n=_;rw[ih];simp
theorem iP{α:Type}(l:List α):∀n,aL l n=l.drop n:=by
 induction l with
 | nil=>intro n;simp;rfl
 | cons a l ih=>
  intro n
  cases n with
  | zero=>rfl
  | succ n=>show aL l n=_;rw[ih];simp
theorem pO{α:Type}(l:List α):∀n,ze8 l n=l.take n:=by
 induction l with
 | nil=>intro n;simp;rfl
 | cons a l ih=>
  intro n
  cases n with
  | zero=>rfl
  | succ n=>show a::ze8 l n=_;rw[ih];simp
theorem bC{α:Type}(l:List α):wB l=l.length:=by
 induction l with
 | nil=>rfl
 | cons a l ih=>show wB l+1=_;rw[ih];rfl
theorem rG{α:Type}(l m:List α):aC l m=l++m:=by
 induction l with
 | nil=>rfl
 | cons a l ih=>show a::aC l m=_;rw[ih];rfl
theorem aG{α:Type}(p:α->Bool)(l:List α):tC p l=l.all p:=by
 induction l with
 | nil=>rfl
 | cons a l ih=>show(bif p a then tC p l else false)=_;rw[ih];cases h:p a<;>simp[h]
theorem yK{α β:Type}(f:α->Option β)(a:α)(l:List α):mF f (a::l)=ob (f a) fun b=>ob (mF f l) fun r=>some (b::r):=rfl
theorem uT{α β:Type}(f:α->Option β):mF f []=some []:=rfl
theorem qO(i:Nat)(l:List Nat):cE i l=true ↔ i∈l:=by
 induction l with
 | nil=>exact⟨fun h=>(by cases h),fun h=>(by cases h)⟩
 | cons j l ih=>
  show(bif Nat.beq i j then true else cE i l)=true ↔ _
  rw[aB,yat];by_cases h:Nat.beq i j=true
  ·rw[if_pos h];exact⟨fun _=>.inl (fB.1 h),fun _=>rfl⟩
  ·rw[if_neg h,ih];exact⟨.inr,fun k=>k.resolve_left fun e=>h (fB.2 e)⟩
theorem dK(a:List Nat):∀b,zF a b=true ↔ a=b:=by
 induction a with
 | nil=>intro b;cases b with
  | nil=>exact⟨fun _=>rfl,fun _=>rfl⟩
  | cons y b=>exact⟨fun h=>(by cases h),fun h=>(by cases h)⟩
 | cons x a ih=>
  intro b
  cases b with
  | nil=>exact⟨fun h=>(by cases h),fun h=>(by cases h)⟩
  | cons y b=>
   show(bif Nat.beq x y then zF a b else false)=true ↔ _
   rw[aB];by_cases h:Nat.beq x y=true
   ·rw[if_pos h,ih,fB.1 h];simp
   ·rw[if_neg h];exact⟨fun h=>(by cases h),fun e=>(h (by rw[fB];injection e)).elim⟩
theorem sI{a b:IntKind}:kEq a b=true ↔ a=b:=by cases a<;>cases b<;>simp[kEq,kIdx]
theorem zR(a b:Bool):bEq a b=(a == b):=by cases a<;>cases b<;>rfl
theorem fP(a b:Int):mA a b=true ↔ a=b:=by
 cases a<;>cases b<;>simp only[mA,fB] <;> (try simp)<;>omega
theorem zii(a b:Int):jC a b=true ↔ a<=b:=by
 cases a<;>cases b<;>simp only[jC,tE] <;> (try simp)<;>omega
theorem iU(a b:Int):dB a b=true ↔ a<b:=by
 cases a<;>cases b<;>simp only[dB,xC] <;> (try simp)<;>omega
theorem eP(a b:Int):mA a b=(a == b):=by rw[Bool.eq_iff_iff,fP];simp
theorem z6a(a b:Int):jC a b=decide (a<=b):=by rw[Bool.eq_iff_iff,zii];simp
theorem z59(a b:Int):dB a b=decide (a<b):=by rw[Bool.eq_iff_iff,iU];simp
theorem rK(k:IntKind)(n:Int):vA k n=k.wrap n:=by
 cases n with
 | ofNat n=>
  show(bif Nat.blt n (kF k)then Int.ofNat n else _)=_
  rw[aB];by_cases h:Nat.blt n (kF k)=true
  ·rw[if_pos h]
   have h':=xC.1 h
   cases k<;>simp only[kF]at h'<;>simp only[IntKind.wrap,IntKind.bits,IntKind.signed]<;>simp<;>omega
  ·rw[if_neg h]
 | negSucc n=>
  show(bif Nat.blt n (kLo k)then Int.negSucc n else _)=_
  rw[aB];by_cases h:Nat.blt n (kLo k)=true
  ·rw[if_pos h]
   have h':=xC.1 h
   cases k<;>simp only[kLo]at h'<;>simp only[IntKind.wrap,IntKind.bits,IntKind.signed]<;>simp<;>omega
  ·rw[if_neg h]
theorem xW{n:Int}{m:Nat}:bI n=some m ↔ n=(m:Int):=by
 cases n with
 | ofNat a=>simp only[bI,Option.some.injEq];exact⟨fun h=>(by rw[h];rfl),fun h=>Int.ofNat.inj h⟩
 | negSucc a=>simp only[bI];exact⟨fun h=>(by cases h),fun h=>(by cases h)⟩
end Go.Am
namespace Go.Am
open Go
theorem jU{a b:zA}{r:Bool}(h:fK a b=some r) :
  (∃k x y,a=.int k x/\b=.int k y/\r=(x == y))\/(∃x y,a=.str x/\b=.str y/\r=zF x y)\/(∃x y,a=.bool x/\b=.bool y/\r=(x == y)):=by
 cases a<;>simp only[fK,zA.asIntK,zA.asStr,zgo,zA.asBool]at h<;>try (cases h;done)
 case bool x=>
  rw[uA,tA]at h;obtain⟨y,hy,h⟩:=h
  cases b<;>simp[zA.asBool]at hy
  cases h;exact .inr (.inr ⟨_,_,rfl,rfl,by rw[hy];exact zR _ _⟩)
 case int k x=>
  rw[tA]at h;obtain⟨y,hy,h⟩:=h
  cases b<;>simp[zA.asIntK]at hy
  rw[yB]at h;obtain⟨hk,h⟩:=h
  cases h;rw[sI]at hk;subst hy;refine .inl ⟨k,x,_,rfl,?_,eP _ _⟩
  rw[show k=_ from hk]
 case str x=>
  rw[tA]at h;obtain⟨y,hy,h⟩:=h
  cases b<;>simp[zA.asStr]at hy
  cases h;subst hy;exact .inr (.inl ⟨_,_,rfl,rfl,rfl⟩)
theorem zdt{a b:zA}(h:fK a b=some true):a=b:=by
 rcases jU h with⟨k,x,y,rfl,rfl,hr⟩ | ⟨x,y,rfl,rfl,hr⟩ | ⟨x,y,rfl,rfl,hr⟩
 ·rw[eq_of_beq hr.symm]
 ·rw[(dK _ _).1 hr.symm]
 ·rw[eq_of_beq hr.symm]
theorem zdu{a b:zA}{r:Bool}(h:fK a b=some r):fK b a=some r:=by
 rcases jU h with⟨k,x,y,rfl,rfl,hr⟩ | ⟨x,y,rfl,rfl,hr⟩ | ⟨x,y,rfl,rfl,hr⟩
 ·have e:mA y x=(x == y):=by rw[eP,Bool.eq_iff_iff,beq_iff_eq,beq_iff_eq];exact eq_comm
  show cA (kEq k k) (some (mA y x))=_
  rw[e,hr];exact yB.2 ⟨sI.2 rfl,rfl⟩
 ·simp only[fK,zA.asIntK,zA.asStr,uA]
  rw[hr];congr 1
  rw[Bool.eq_iff_iff,dK,dK];exact eq_comm
 ·simp only[fK,zA.asIntK,zA.asStr,zgo,zA.asBool,zR,uA,hr]
  rw[show(y == x)=(x == y) by cases x<;>cases y<;>rfl]
theorem zdo:∀ {x y:List zA},vN x y=some true->x=y
 | [],[],_=>rfl
 | a::x,b::y,h=>by
  simp only[vN,tA]at h;obtain⟨r,hr,s,hs,h⟩:=h
  cases r<;>cases s<;>simp at h
  rw[zdt hr,zdo hs]
 | [],_::_,h=>by cases h
 | _::_,[],h=>by cases h
theorem zdp:∀ {x y:List zA} {r:Bool},vN x y=some r->vN y x=some r
 | [],[],_,h=>h
 | a::x,b::y,r,h=>by
  simp only[vN,tA]at h ⊢
  obtain⟨r1,hr,s,hs,h⟩:=h
  exact⟨r1,zdu hr,s,zdp hs,h⟩
 | [],_::_,_,h=>by cases h
 | _::_,[],_,h=>by cases h
theorem tW{a b:zA}{r:Bool}(h:bF a b=some r):(∃x y,a=.agg x/\b=.agg y/\vN x y=some r)\/(a.asAgg=none/\fK a b=some r):=by
 unfold bF at h;split at h
 ·rename_i x hx
  rw[tA]at h;obtain⟨y,hy,h⟩:=h
  cases a<;>simp[zA.asAgg]at hx
  cases b<;>simp[zA.asAgg]at hy
  subst hx;subst hy;exact .inl ⟨_,_,rfl,rfl,h⟩
 ·rename_i hx
  exact .inr ⟨hx,h⟩
theorem zyf{a b:zA}{r:Bool}(h:fK a b=some r):bF a b=some r:=by
 rcases jU h with⟨k,x,y,rfl,rfl,hr⟩ | ⟨x,y,rfl,rfl,hr⟩ | ⟨x,y,rfl,rfl,hr⟩<;>exact h
theorem zgh{a b:zA}(h:bF a b=some true):a=b:=by
 rcases tW h with⟨x,y,rfl,rfl,h⟩ | ⟨_,h⟩
 ·rw[zdo h]
 ·exact zdt h
theorem uW{a b:zA}{r:Bool}(h:bF a b=some r):bF b a=some r:=by
 rcases tW h with⟨x,y,rfl,rfl,h⟩ | ⟨_,h⟩
 ·exact zdp h
 ·exact zyf (zdu h)
def DK (l:List (zA × zA)):Prop:=l.Pairwise fun p q=>bF p.1 q.1=some false
def tV(l l':List (zA × zA)):Prop:=l'=l\/(l.Perm l'/\DK l)
theorem DK.perm{l l':List (zA × zA)}(h:DK l)(p:l.Perm l'):DK l':=(p.pairwise_iff (fun hab=>uW hab)).1 h
theorem za2{k:zA}:∀ {l:List (zA × zA)},cG k l=some none ↔ ∀e∈l,bF k e.1=some false
 | []=>by simp[cG]
 | e::l=>by
  rw[cG,tA];constructor
  ·rintro⟨r,hr,h⟩
   cases r with
   | true=>cases h
   | false=>
    rw[cond_false]at h;intro x hx;rcases yat.1 hx with rfl | hx
    ·exact hr
    ·exact za2.1 h x hx
  ·intro h
   exact⟨false,h e (.head _),za2.2 fun x hx=>h x (.tail _ hx)⟩
theorem zd8{k v:zA}:∀ {l:List (zA × zA)},cG k l=some (some v)->(k,v)∈l/\bF k k=some true
 | [],h=>by cases h
 | e::l,h=>by
  rw[cG,tA]at h;obtain⟨r,hr,h⟩:=h
  cases r with
  | true=>
   rw[cond_true]at h
   cases h;have:=zgh hr
   refine⟨?_,by rw[<- this]at hr;exact hr⟩
   have e0:(k,e.2)=e:=by rw[this]
   rw[e0];exact .head _
  | false=>
   rw[cond_false]at h;obtain⟨h1,h2⟩:=zd8 h
   exact⟨.tail _ h1,h2⟩
theorem DK.split{k v:zA}{l m:List (zA × zA)}(h:DK (l++(k,v)::m)):(∀e∈l,bF k e.1=some false)/\∀e∈m,bF k e.1=some false:=by
 unfold DK at h;rw[List.pairwise_append]at h;obtain⟨_,h2,h3⟩:=h
 rw[List.pairwise_cons]at h2;exact⟨fun e he=>uW (h3 e he (k,v) (.head _)),fun e he=>h2.1 e he⟩
theorem zto{k:zA}{l m:List (zA × zA)}(h:∀e∈l,bF k e.1=some false):cG k (l++m)=cG k m:=by
 induction l with
 | nil=>rfl
 | cons e l ih=>
  rw[List.cons_append,cG,h e (.head _),uA,cond_false]
  exact ih fun x hx=>h x (.tail _ hx)
theorem ztp{k:zA}{l l':List (zA × zA)}{r:Option zA}(h:tV l l')(hf:cG k l=some r):cG k l'=some r:=by
 rcases h with rfl | ⟨p,d⟩
 ·exact hf
 cases r with
 | none=>
  rw[za2]at hf ⊢
  exact fun e he=>hf e (p.mem_iff.2 he)
 | some v=>
  obtain⟨h1,h2⟩:=zd8 hf
  obtain⟨a,b,rfl⟩:=List.append_of_mem (p.mem_iff.1 h1)
  rw[zto (d.perm p).split.1,cG,h2,uA,cond_true]
theorem wZ{k v:zA}:∀ {l:List (zA × zA)},(∀e∈l,bF k e.1=some false)->tG k v l=some (l++[(k,v)])
 | [],_=>rfl
 | e::l,h=>by
  rw[tG,h e (.head _),uA,cond_false,wZ fun x hx=>h x (.tail _ hx)]
  rfl
theorem zcz{k v u:zA}{m:List (zA × zA)}(hk:bF k k=some true):∀ {l:List (zA × zA)},(∀e∈l,bF k e.1=some false)->tG k v (l++(k,u)::m)=some (l++(k,v)::m)
 | [],_=>by rw[List.nil_append,tG,hk];rfl
 | e::l,h=>by
  rw[List.cons_append,tG,h e (.head _),uA,cond_false,zcz hk fun x hx=>h x (.tail _ hx)]
  rfl
theorem za8{k v:zA}:∀ {l r:List (zA × zA)},tG k v l=some r->((∀e∈l,bF k e.1=some false)/\r=l++[(k,v)])\/(bF k k=some true/\∃a u b,l=a++(k,u)::b/\r=a++(k,v)::b)
 | [],r,h=>by cases h;exact .inl ⟨fun e he=>(by cases he),rfl⟩
 | e::l,r,h=>by
  rw[tG,tA]at h;obtain⟨q,hq,h⟩:=h
  cases q with
  | true=>
   rw[cond_true]at h
   cases h;have:=zgh hq
   refine .inr ⟨by rw[<- this]at hq;exact hq,[],e.2,l,?_,rfl⟩
   rw[List.nil_append,this]
  | false=>
   rw[cond_false,tA]at h;obtain⟨r',hr,h⟩:=h
   cases h;rcases za8 hr with⟨h1,rfl⟩ | ⟨h0,a,u,b,rfl,rfl⟩
   ·refine .inl ⟨fun x hx=>?_,rfl⟩
    rcases yat.1 hx with rfl | hx
    ·exact hq
    ·exact h1 x hx
   ·exact .inr ⟨h0,e::a,u,b,rfl,rfl⟩
theorem zjs{k v:zA}{l l' r:List (zA × zA)}(h:tV l l')(hs:tG k v l=some r):∃r',tG k v l'=some r'/\tV r r':=by
 rcases h with rfl | ⟨p,d⟩
 ·exact⟨r,hs,.inl rfl⟩
 rcases za8 hs with⟨h1,rfl⟩ | ⟨h0,a,u,b,rfl,rfl⟩
 ·refine⟨_,wZ fun e he=>h1 e (p.mem_iff.2 he),.inr ⟨p.append_right _,?_⟩⟩
  unfold DK;rw[List.pairwise_append];exact⟨d,by simp,fun x hx y hy=>by simp at hy;subst hy;exact uW (h1 x hx)⟩
 ·obtain⟨a',b',rfl⟩:=List.append_of_mem (p.mem_iff.1 (ybg a (.head b)))
  refine⟨_,zcz h0 (d.perm p).split.1,.inr ⟨?_,?_⟩⟩
  ·have p1:(a++b).Perm (a'++b'):=by
    have q1:(a++(k,u)::b).Perm ((k,u)::(a++b)):=List.perm_middle
    have q2:(a'++(k,u)::b').Perm ((k,u)::(a'++b')):=List.perm_middle
    exact(q1.symm.trans (p.trans q2)).cons_inv
   exact List.perm_middle.trans ((p1.cons _).trans List.perm_middle.symm)
  ·unfold DK at d ⊢
   rw[List.pairwise_append,List.pairwise_cons]at d ⊢
   obtain⟨d1,⟨d2,d3⟩,d4⟩:=d
   refine⟨d1,⟨d2,d3⟩,fun x hx y hy=>?_⟩
   rcases yat.1 hy with rfl | hy
   ·exact d4 x hx (k,u) (.head _)
   ·exact d4 x hx y (.tail _ hy)
end Go.Am
namespace Go.Am
open Go
structure BI where
 b:Nat
 tight:Bool
 es:Nat
 room:Nat
 ro:Bool
structure Mu where
 m:Nat->Option BI
 pd:Nat->Option (rA × Nat × Nat)
instance:CoeFun Mu fun _=>Nat->Option BI:=⟨Mu.m⟩
def Mu.lw(μ ν:Mu):Prop:=∀a i,μ a=some i->ν a=some i
structure Mu.le (μ ν:Mu):Prop where
 f:∀a i,μ a=some i->ν a=some i
 pd:ν.pd=μ.pd
instance {μ ν:Mu}:CoeFun (μ.le ν) fun _=>∀a i,μ a=some i->ν a=some i:=⟨Mu.le.f⟩
instance {μ ν:Mu}:Coe (μ.le ν) (μ.lw ν):=⟨Mu.le.f⟩
theorem Mu.le_refl(μ:Mu):μ.le μ:=⟨fun _ _ h=>h,rfl⟩
theorem Mu.le_trans{a b c:Mu}(h:a.le b)(k:b.le c):a.le c:=⟨fun x i hx=>k.f x i (h.f x i hx),k.pd.trans h.pd⟩
def zud(μ:Mu):AFn->Fn->Prop
 | .func f,fn=>fn=.func f
 | .yld l,fn=>∃i,μ l=some i/\fn=.yield i.b
mutual
def wA (μ:Mu):zA->Value->Prop
 | .bool b,v=>v=.bool b
 | .int k n,v=>v=.int k n
 | .str l,v=>∃s,v=.string s/\uE s=l
 | .nilptr,v=>v=.pointer none
 | .ptr b off,v=>∃i,μ b=some i/\v=.pointer (some ⟨i.b,off,none⟩)
 | .nilslice,v=>v=.slice none 0 0
 | .slice b off len cap,v=>(∃i cap',μ b=some i/\v=.slice (some ⟨i.b,off,none⟩) len cap'/\cap<=cap'/\(i.tight=true->cap'=cap)/\(i.tight=false->off+cap'*i.es<=i.room))\/(b=0/\len=0/\cap=0/\∃a c,v=.slice (some a) 0 c/\(off=0/\c=0\/off=1))
 | .nilmap,v=>v=.map none
 | .map b,v=>∃i,μ b=some i/\v=.map (some i.b)
 | .func f a c,v=>∃fn a' c',v=.func fn a' c'/\zud μ f fn/\zB μ a a'.toList/\zB μ c c'.toList
 | .nilfunc,v=>v=.nilFunc
 | .iface t x,v=>∃x',v=.iface t x'/\wA μ x x'
 | .niliface,v=>v=.nilIface
 | .agg l,v=>∃cs,v=.agg cs/\zB μ l cs.toList
 | .tup l,v=>∃cs,v=.tuple cs/\zB μ l cs.toList
def zB (μ:Mu):List zA->List Value->Prop
 | [],m=>m=[]
 | a::l,m=>∃v r,m=v::r/\wA μ a v/\zB μ l r
end
theorem zud.mono{μ ν:Mu}(h:μ.lw ν){f:AFn}{g:Fn}(k:zud μ f g):zud ν f g:=by
 cases f with
 | func f=>exact k
 | yld l=>obtain⟨i,h1,h2⟩:=k;exact⟨i,h _ _ h1,h2⟩
mutual
theorem wA.mono{μ ν:Mu}(h:μ.lw ν):∀(a:zA) (v:Value),wA μ a v->wA ν a v
 | .bool _,_,k=>k
 | .int _ _,_,k=>k
 | .str _,_,k=>k
 | .nilptr,_,k=>k
 | .ptr _ _,_,⟨i,h1,h2⟩=>⟨i,h _ _ h1,h2⟩
 | .nilslice,_,k=>k
 | .slice _ _ _ _,_,.inl ⟨i,c,h1,h2⟩=>.inl ⟨i,c,h _ _ h1,h2⟩
 | .slice _ _ _ _,_,.inr k=>.inr k
 | .nilmap,_,k=>k
 | .map _,_,⟨i,h1,h2⟩=>⟨i,h _ _ h1,h2⟩
 | .func _ a c,_,⟨fn,a',c',h1,h2,h3,h4⟩=>⟨fn,a',c',h1,h2.mono h,zB.mono h a _ h3,zB.mono h c _ h4⟩
 | .nilfunc,_,k=>k
 | .iface _ x,_,⟨x',h1,h2⟩=>⟨x',h1,wA.mono h x _ h2⟩
 | .niliface,_,k=>k
 | .agg l,_,⟨cs,h1,h2⟩=>⟨cs,h1,zB.mono h l _ h2⟩
 | .tup l,_,⟨cs,h1,h2⟩=>⟨cs,h1,zB.mono h l _ h2⟩
theorem zB.mono{μ ν:Mu}(h:μ.lw ν):∀(l:List zA) (m:List Value),zB μ l m->zB ν l m
 | [],_,k=>k
 | a::l,_,⟨v,r,h1,h2,h3⟩=>⟨v,r,h1,wA.mono h a v h2,zB.mono h l r h3⟩
end
theorem zB.length{μ:Mu}{l:List zA}:∀ {m:List Value},zB μ l m->m.length=l.length:=by
 induction l with
 | nil=>intro m h;rw[zB]at h;rw[h];rfl
 | cons a l ih=>intro m h;rw[zB]at h;obtain⟨v,r,rfl,_,h3⟩:=h;simp[ih h3]
theorem zB.get{μ:Mu}{l:List zA}:∀ {m:List Value} {i:Nat} {a:zA},zB μ l m->l[i]?=some a->∃v,m[i]?=some v/\wA μ a v:=by
 induction l with
 | nil=>intro m i a _ h;simp at h
 | cons b l ih=>
  intro m i a h hi;rw[zB]at h;obtain⟨v,r,rfl,h2,h3⟩:=h
  cases i with
  | zero=>simp at hi;subst hi;exact⟨v,by simp,h2⟩
  | succ i=>simp at hi;obtain⟨u,hu,hr⟩:=ih h3 hi;exact⟨u,by simpa using hu,hr⟩
theorem zB.mk{μ:Mu}{l:List zA}:∀ {m:List Value},m.length=l.length->(∀(i:Nat) a v,l[i]?=some a->m[i]?=some v->wA μ a v)->zB μ l m:=by
 induction l with
 | nil=>intro m h _;rw[zB];simpa using h
 | cons a l ih=>
  intro m h k
  cases m with
  | nil=>simp at h
  | cons v r=>
   rw[zB];exact⟨v,r,rfl,k 0 a v (by simp) (by simp),ih (by simpa using h) fun i a v h1 h2=>k (i+1) a v (by simpa using h1) (by simpa using h2)⟩
theorem zB.append{μ:Mu}{l l':List zA}:∀ {m m':List Value},zB μ l m->zB μ l' m'->zB μ (l++l') (m++m'):=by
 induction l with
 | nil=>intro m m' h h';rw[zB]at h;subst h;exact h'
 | cons a l ih=>intro m m' h h';rw[zB]at h;obtain⟨v,r,rfl,h2,h3⟩:=h;rw[List.cons_append,zB];exact⟨v,r++m',rfl,h2,ih h3 h'⟩
theorem zB.drop{μ:Mu}{l:List zA}{m:List Value}(h:zB μ l m)(n:Nat):zB μ (l.drop n) (m.drop n):=by
 refine zB.mk (by simp[h.length]) fun i a v h1 h2=>?_
 rw[ycf]at h1 h2;obtain⟨u,hu,hr⟩:=h.get h1
 rw[hu]at h2;cases h2;exact hr
theorem zB.take{μ:Mu}{l:List zA}{m:List Value}(h:zB μ l m)(n:Nat):zB μ (l.take n) (m.take n):=by
 refine zB.mk (by simp[h.length]) fun i a v h1 h2=>?_
 rw[ycg]at h1 h2;split at h1
 ·rename_i hi
  rw[if_pos hi]at h2;obtain⟨u,hu,hr⟩:=h.get h1
  rw[hu]at h2;cases h2;exact hr
 ·cases h1
theorem zB.nil{μ:Mu}:zB μ [] []:=by rw[zB]
theorem zB.cons{μ:Mu}{a:zA}{l:List zA}{v:Value}{m:List Value}(h:wA μ a v)(k:zB μ l m):zB μ (a::l) (v::m):=by rw[zB];exact⟨v,m,rfl,h,k⟩
theorem zB.single{μ:Mu}{a:zA}{v:Value}(h:wA μ a v):zB μ [a] [v]:=.cons h .nil
theorem yR{v:zA}{b:Bool}:v.asBool=some b ↔ v=.bool b:=by cases v<;>simp[zA.asBool]
theorem za4{v:zA}{n:Int}:v.asInt=some n ↔ ∃k,v=.int k n:=by cases v<;>simp[zA.asInt]
theorem wP{v:zA}{p:IntKind × Int}:v.asIntK=some p ↔ v=.int p.1 p.2:=by cases v<;>simp[zA.asIntK,Prod.ext_iff]
theorem xP{v:zA}{l:List Nat}:v.asStr=some l ↔ v=.str l:=by cases v<;>simp[zA.asStr]
theorem dT{v:zA}{p:Nat × Nat}:v.asPtr=some p ↔ v=.ptr p.1 p.2:=by cases v<;>simp[zA.asPtr,Prod.ext_iff]
theorem rS{v:zA}{p:Nat × Nat × Nat × Nat}:v.asSlice=some p ↔ v=.slice p.1 p.2.1 p.2.2.1 p.2.2.2:=by cases v<;>simp[zA.asSlice,Prod.ext_iff]
theorem iY{v:zA}{b:Nat}:v.asMap=some b ↔ v=.map b:=by cases v<;>simp[zA.asMap]
theorem vV{v:zA}{l:List zA}:v.asAgg=some l ↔ v=.agg l:=by cases v<;>simp[zA.asAgg]
theorem zt6{v:zA}{l:List zA}:v.asTup=some l ↔ v=.tup l:=by cases v<;>simp[zA.asTup]
theorem zem{v:zA}{p:AFn × List zA × List zA}:v.asFunc=some p ↔ v=.func p.1 p.2.1 p.2.2:=by cases v<;>simp[zA.asFunc,Prod.ext_iff]
theorem zbl{v:zA}{p:Nat × zA}:v.asIface=some p ↔ v=.iface p.1 p.2:=by cases v<;>simp[zA.asIface,Prod.ext_iff]
theorem jY{v:zA}{n:Nat}:v.asNat=some n ↔ ∃k,v=.int k (n:Int):=by
 unfold zA.asNat;rw[tA];constructor
 ·rintro⟨a,h1,h2⟩;rw[za4]at h1;obtain⟨k,rfl⟩:=h1;exact⟨k,by rw[xW.1 h2]⟩
 ·rintro⟨k,rfl⟩;exact⟨n,rfl,rfl⟩
theorem pP{v:zA}:(v.tag=3 ↔ v=.nilptr)/\(v.tag=5 ↔ v=.nilslice)/\(v.tag=7 ↔ v=.nilmap)/\(v.tag=10 ↔ v=.nilfunc)/\(v.tag=12 ↔ v=.niliface):=by
 cases v<;>simp[zA.tag]
theorem wA.notAgg{μ:Mu}{a:zA}{v:Value}(h:wA μ a v)(ha:a.asAgg=none):v.cells = #[v]:=by
 cases a<;>rw[wA]at h<;>first
  | (subst h;rfl)
  | (rcases h with⟨_,_,_,rfl,_⟩ | ⟨_,_,_,_,_,rfl,_⟩<;>rfl)
  | (obtain⟨_,rfl,_⟩:=h;rfl)
  | (obtain⟨_,_,rfl⟩:=h;rfl)
  | (obtain⟨_,_,_,rfl,_⟩:=h;rfl)
  | (simp[zA.asAgg]at ha)
theorem wA.one{μ:Mu}{a:zA}{v:Value}(h:wA μ a v)(ha:a.one=true):v.oneCell'=true:=by
 cases a<;>rw[wA]at h<;>first
  | (subst h;rfl)
  | (rcases h with⟨_,_,_,rfl,_⟩ | ⟨_,_,_,_,_,rfl,_⟩<;>rfl)
  | (obtain⟨_,rfl,_⟩:=h;rfl)
  | (obtain⟨_,_,rfl⟩:=h;rfl)
  | (obtain⟨_,_,_,rfl,_⟩:=h;rfl)
  | (revert ha;decide)
  | (have:=xC.1 ha;simp[zA.tag]at this)
theorem pY{μ:Mu}{a:zA}{v:Value}(h:wA μ a v):zB μ a.cells v.cells.toList:=by
 unfold zA.cells
 cases ha:a.asAgg with
 | none=>rw[h.notAgg ha];exact zB.single h
 | some l=>rw[vV.1 ha,wA]at h;obtain⟨cs,rfl,h⟩:=h;exact h
def cK(P:Program)(t:Nat):qD:=
 match P.underlying t with
 | some .bool=>.bool
 | some (.int k)=>.int k
 | some .string=>.string
 | some (.pointer e)=>.ptr e
 | some (.slice e)=>.slice e
 | some (.array n e)=>.arr n e
 | some (.map k e)=>.map k e
 | some (.struct fs)=>.struct (fs.toList.map fun f=>(f.offset,f.type,P.cellsOf f.type))
 | some (.func ..)=>.func
 | some (.interface _)=>.iface
 | _=>.other
def zqz:Value->Bool
 | .agg _=>true
 | _=>false
def z1n(P:Program)(t:Nat):Bool:=(P.fieldsOf t).toList.all fun f=>(P.info? f.type).isSome
def tyOf (P:Program)(t:Nat):Option qC:=
 match P.info? t with
 | some i=>match i.zero with
  | some z=>ob (mF xT z.cells.toList) fun l=>cA (bEq (zqz z) (cK P t).isAgg&&(P.underlying t).isSome&&z1n P t)
    (some ⟨cK P t, i.size, i.bytes, l, !P.stoodInHeld t && !P.eqGuardType P.depth t && (P.fieldsOf t).toList.all (fun f => f.name != "_")⟩)
  | none=>none
 | none=>none
def pE(P:Program)(C:qA):Prop:=∀t ty,C.tys.get t=some ty->tyOf P t=some ty
theorem mY{a b:ByteArray}(h:uE a=uE b):a=b:=by
 have h1:a.data.toList=b.data.toList:=by
  unfold uE at h;exact(List.map_inj_right (fun x y hxy=>UInt8.toNat_inj.1 hxy)).1 h
 have h2:a.data=b.data:=Array.toList_inj.1 h1
 cases a;cases b;simpa using h2
theorem zbc{μ:Mu}{v:Value}{a:zA}(h:xT v=some a):wA μ a v/\a.one=true:=by
 unfold xT at h;split at h<;>cases h<;>refine⟨?_,rfl⟩<;>rw[wA]
 exact⟨_,rfl,rfl⟩
theorem zaf{μ:Mu}{m:List Value}:∀ {l:List zA},mF xT m=some l->zB μ l m:=by
 induction m with
 | nil=>intro l h;rw[uT]at h;cases h;exact zB.nil
 | cons v m ih=>
  intro l h;rw[yK,tA]at h;obtain⟨a,ha,h⟩:=h
  rw[tA]at h;obtain⟨r,hr,h⟩:=h
  cases h;exact .cons (zbc ha).1 (ih hr)
theorem znm{μ:Mu}{v:Value}{a:zA}(h:znn v=some a):wA μ a v:=by
 unfold znn at h;split at h
 ·rename_i cs hc
  rw[tA]at h;obtain⟨l,hl,h⟩:=h
  cases h
  cases v<;>simp[z6g]at hc
  subst hc;rw[wA];exact⟨_,rfl,zaf hl⟩
 ·exact(zbc h).1
structure dI (P:Program) (t:Nat) (ty:qC):Prop where
 info:∃i,P.info? t=some i/\i.size=ty.size/\i.bytes=ty.bytes/\∃z,i.zero=some z/\mF xT z.cells.toList=some ty.zero/\zqz z=ty.desc.isAgg
 desc:cK P t=ty.desc
 und:∃d,P.underlying t=some d
 fields:∀f∈(P.fieldsOf t).toList,∃i,P.info? f.type=some i
 eqOk : ty.eqOk = true -> P.stoodInHeld t = false /\ P.eqGuardType P.depth t = false /\ ∀ f ∈ (P.fieldsOf t).toList, f.name ≠ "_"
theorem zsb{P:Program}{t:Nat}{ty:qC}(h:tyOf P t=some ty):dI P t ty:=by
 unfold tyOf at h;split at h
 ·rename_i i hi
  split at h
  ·rename_i z hz
   rw[tA]at h;obtain⟨l,hl,h⟩:=h
   rw[yB]at h;obtain⟨hb,h⟩:=h
   cases h;rw[yac,yac]at hb;refine⟨⟨i,hi,rfl,rfl,z,hz,hl,?_⟩,rfl,Option.isSome_iff_exists.1 hb.1.2,fun f hf=>Option.isSome_iff_exists.1 (ybc.1 hb.2 f hf),fun h=>?_⟩
   ·have:=hb.1.1;rw[zR]at this;simpa using this
   ·simp only[yac,ybq,ybc,bne_iff_ne]at h;exact⟨h.1.1,h.1.2,h.2⟩
  ·cases h
 ·cases h
theorem pE.facts{P:Program}{C:qA}(h:pE P C){t:Nat}{ty:qC}(k:C.tys.get t=some ty):dI P t ty:=zsb (h t ty k)
section
variable {P:Program}{w:World}{t:Nat}{ty:qC}
theorem zT{i:TypeInfo}(h:P.info? t=some i):(typeInfo t).run P w=.ok i w:=by
 simp[typeInfo,h]
theorem qE{d:TypeDesc}(h:P.underlying t=some d):(underlying t).run P w=.ok d w:=by
 simp[underlying,h]
theorem dI.size(h:dI P t ty):(sizeOf t).run P w=.ok ty.size w:=by
 obtain⟨i,h1,h2,_⟩:=h.info
 simp[sizeOf,zT h1,h2]
theorem dI.zero(h:dI P t ty){μ:Mu}:∃z,(∀w,(zeroValue t).run P w=.ok z w)/\wA μ (oN ty) z/\zB μ ty.zero z.cells.toList:=by
 obtain⟨i,h1,_,_,z,h2,h3,h4⟩:=h.info
 have hl:zB μ ty.zero z.cells.toList:=zaf h3
 refine⟨z,fun w=>by simp[zeroValue,zT h1,h2],?_,hl⟩
 unfold oN
 cases hd:ty.desc.isAgg with
 | true=>
  rw[hd]at h4
  cases z<;>simp[zqz]at h4
  show wA μ (.agg ty.zero) _
  rw[wA];exact⟨_,rfl,hl⟩
 | false=>
  rw[hd]at h4;have hc:z.cells = #[z]:=by cases z<;>first | rfl | simp[zqz]at h4
  rw[hc]at hl
  cases hz:ty.zero with
  | nil=>rw[hz,zB]at hl;simp at hl
  | cons a l=>rw[hz,zB]at hl;obtain⟨v,r,hv,hr,_⟩:=hl;simp at hv;rw[<- hv.1]at hr;exact hr
theorem dI.isAgg(h:dI P t ty):(Go.isAgg t).run P w=.ok ty.desc.isAgg w:=by
 obtain⟨d,hd⟩:=h.und
 have h0:=h.desc
 unfold cK at h0;rw[hd]at h0;unfold Go.isAgg;rw[Sem.run_bind,qE hd,Result.andThen_ok,<- h0]
 cases d<;>rfl
theorem mT(h:dI P t ty){fs:List (Nat × Nat × Nat)}(k:ty.desc.asStruct=some fs):∃g,P.underlying t=some (.struct g)/\fs=g.toList.map fun f=>(f.offset,f.type,P.cellsOf f.type):=by
 obtain⟨d,hd⟩:=h.und
 have h0:=h.desc
 unfold cK at h0;rw[hd]at h0;rw[<- h0]at k
 cases d<;>simp[qD.asStruct]at k
 exact⟨_,hd,k.symm⟩
theorem rN(h:dI P t ty){e:Nat}(k:ty.desc.asSlice=some e):P.underlying t=some (.slice e):=by
 obtain⟨d,hd⟩:=h.und
 have h0:=h.desc
 unfold cK at h0;rw[hd]at h0;rw[<- h0]at k
 cases d<;>simp[qD.asSlice]at k
 rw[hd,k]
theorem zb7(h:dI P t ty){p:Nat × Nat}(k:ty.desc.asArr=some p):P.underlying t=some (.array p.1 p.2):=by
 obtain⟨d,hd⟩:=h.und
 have h0:=h.desc
 unfold cK at h0;rw[hd]at h0;rw[<- h0]at k
 cases d<;>simp[qD.asArr]at k
 rw[hd,<- k]
theorem zrh(h:dI P t ty){p:Nat × Nat}(k:ty.desc.asMap=some p):P.underlying t=some (.map p.1 p.2):=by
 obtain⟨d,hd⟩:=h.und
 have h0:=h.desc
 unfold cK at h0;rw[hd]at h0;rw[<- h0]at k
 cases d<;>simp[qD.asMap]at k
 rw[hd,<- k]
theorem ziu(h:dI P t ty){k:IntKind}(e:ty.desc.asInt=some k):P.underlying t=some (.int k):=by
 obtain⟨d,hd⟩:=h.und
 have h0:=h.desc
 unfold cK at h0;rw[hd]at h0;rw[<- h0]at e
 cases d<;>simp[qD.asInt]at e
 rw[hd,e]
theorem rY(h:dI P t ty)(e:ty.desc.isString=true):P.underlying t=some .string:=by
 obtain⟨d,hd⟩:=h.und
 have h0:=h.desc
 unfold cK at h0;rw[hd]at h0;rw[<- h0]at e
 cases d<;>simp[qD.isString,qD.tag,Nat.beq]at e
 exact hd
theorem zal(h:dI P t ty)(e:Nat.blt ty.desc.tag 9=true):∃d,P.underlying t=some d/\∀ms,d≠.interface ms:=by
 obtain⟨d,hd⟩:=h.und
 refine⟨d,hd,fun ms hm=>?_⟩
 subst hm;have h0:=h.desc
 unfold cK at h0;rw[hd]at h0;rw[<- h0]at e;exact absurd (xC.1 e) (by simp[qD.tag])
end
structure sR (μ:Mu) (d:fH) (e:Deferred):Prop where
 rel:match d.fn with
  | none=>∃i,μ d.r=some i/\e={ target:=.collected i.b,args := #[] }
  | some f=>∃fn cap as,e={ target:=.fn fn cap,args:=as }/\zud μ f fn/\zB μ d.args (as++cap).toList
def dD(μ:Mu)(n:Nat)(tm:Tm)(tmps:Array Value):Prop:=tmps.size=n/\∀i v,tm.get i=some v->wA μ v (tmps.getD i undef)
structure zeu (μ:Mu) (l:jL) (r:Loop):Prop where
 state:r.state=l.state
 pending:r.pending=l.pending
 fn:r.fn=l.fn
 tm:dD μ l.n l.tm r.tmps
 params:r.params.toList=l.params
 assign:r.assign=l.assign
 body:r.body=l.body
 defers:∃i,μ l.defers=some i/\r.defers=i.b
inductive pC {α β:Type} (R:α->β->Prop):List α->List β->Prop
 | nil:pC R [] []
 | cons {a b l m}:R a b->pC R l m->pC R (a::l) (b::m)
def vH (μ:Mu)(i:BI):rA->Obj->Prop
 | .cells c n loose,o=>∃cs elem fr,o=.cells cs elem fr/\n<=cs.size/\(i.ro=true\/fr.2<=fr.1\/cs.size<=fr.1)/\(∀(j:Nat) v,c.get j=some v->j<n/\∃v',cs[j]?=some v'/\wA μ v v') ∧
   (match loose with | none=>i.tight=true | some lo=>i.tight=false/\i.es=lo.es/\i.room=cs.size/\∀t,lo=.ty t->elem=t)
 | .map l,o=>∃es clock l',o=.map es clock/\tV l l'/\pC (fun p e=>wA μ p.1 e.key/\wA μ p.2 e.val) l' es.toList
 | .loop l,o=>∃r,o=.loop r/\zeu μ l r
 | .deferred l,o=>∃l',o=.deferred l'/\(match l,l' with | none,none=>True | some a,some b=>pC (sR μ) a b | _,_=>False)
 | .siter s pos,o=>∃s',o=.stringIter s' pos/\uE s'=s
structure aA (B N:Nat) (μ:Mu) (H:xA) (w:World):Prop where
 base:256<=B
 glob:∀g,g<256->μ g=some ⟨g,true,0,0,true⟩
 low:∀a x i,a<B->H.t.get a=some x->μ a=some i->i.b<N/\x.asLoop=none/\x.asDeferred=none
 next:B<=H.next
 size:N<=w.heap.size
 fresh:∀a,H.next<=a->μ a=none/\H.t.get a=none
 blk:∀a x i,H.t.get a=some x->μ a=some i->∃o,w.heap[i.b]?=some o/\vH μ i x o
 own:∀a i,B<=a->μ a=some i->N<=i.b/\i.b<w.heap.size/\i.ro=false
 inj:∀a b x y i j,H.t.get a=some x->H.t.get b=some y->μ a=some i->μ b=some j->B<=a->B<=b->i.b=j.b->a=b
 pnd:∀a x t,μ.pd a=some (x,t)->μ a=none/\H.t.get a=some x/\B<=a
end Go.Am
namespace Go.Am
open Go
def mE (μ:Mu)(e:mC)(ρ:Operand->Value):Prop:=∀x v,ev x e=some v->wA μ v (ρ x)
theorem mE.many{μ:Mu}{e:mC}{ρ:Operand->Value}(h:mE μ e ρ):∀ {l:List Operand} {r:List zA},evs l e=some r->zB μ r (l.map ρ):=by
 intro l;induction l with
 | nil=>intro r k;unfold evs at k;rw[uT]at k;cases k;exact .nil
 | cons x l ih=>
  intro r k;unfold evs at k;rw[yK,tA]at k;obtain⟨a,ha,k⟩:=k
  rw[tA]at k;obtain⟨b,hb,k⟩:=k
  cases k
  exact .cons (h _ _ ha) (ih hb)
theorem mE.parts{μ:Mu}{e:mC}{ρ:Operand->Value}(h:mE μ e ρ):∀ {l:List (Nat × Operand)} {r:List (Nat × zA)},evp l e=some r →
  pC (fun p q=>p.1=q.1/\wA μ p.2 q.2) r (l.map fun x=>(x.1,ρ x.2)):=by
 intro l;induction l with
 | nil=>intro r k;unfold evp at k;rw[uT]at k;cases k;exact .nil
 | cons x l ih=>
  intro r k;unfold evp at k;rw[yK,tA]at k;obtain⟨a,ha,k⟩:=k
  rw[tA]at ha;obtain⟨a',ha,ha'⟩:=ha
  cases ha'
  rw[tA]at k;obtain⟨b,hb,k⟩:=k
  cases k
  exact .cons ⟨rfl,h _ _ ha⟩ (ih hb)
def z0r(μ:Mu):Option zA->Option Value->Prop
 | none,none=>True
 | some a,some v=>wA μ a v
 | _,_=>False
theorem mE.opt{μ:Mu}{e:mC}{ρ:Operand->Value}(h:mE μ e ρ){x:Option Operand}{r:Option zA}(k:evo x e=some r):z0r μ r (x.map ρ):=by
 cases x with
 | none=>cases k;trivial
 | some x=>unfold evo at k;simp only[]at k;rw[tA]at k;obtain⟨a,ha,k⟩:=k;cases k;exact h _ _ ha
theorem wQ(b off n:Nat):Addr.add ⟨b,off,none⟩ n=⟨b,off+n,none⟩:=by
 unfold Addr.add;split
 ·rename_i h;subst h;rfl
 ·rfl
section
variable {P:Program}{C:qA}{B N:Nat}{μ:Mu}{H:xA}{w:World}
theorem tS{b:Nat}{p:Tr zA × Nat × Option Lo}(h:tD H b=some p):H.t.get b=some (.cells p.1 p.2.1 p.2.2):=by
 unfold tD at h;rw[tA]at h;obtain⟨x,hx,h⟩:=h
 cases x<;>simp[rA.asCells]at h
 subst h;exact hx
theorem aA.cellAt(hH:aA B N μ H w){b:Nat}{p:Tr zA × Nat × Option Lo}(h:tD H b=some p){i:BI}(hi:μ b=some i){j:Nat}{v:zA}(hv:p.1.get j=some v) :
  ∃v',w.cell? ⟨i.b,j,none⟩=some v'/\wA μ v v':=by
 obtain⟨o,h2,h3⟩:=hH.blk _ _ _ (tS h) hi
 obtain⟨cs,elem,fr,rfl,_,_,h4,_⟩:=h3
 obtain⟨_,v',h6,h7⟩:=h4 j v hv
 exact⟨v',by simp[World.cell?,h2,h6],h7⟩
theorem aA.manyAt(hH:aA B N μ H w){b:Nat}{p:Tr zA × Nat × Option Lo}(h:tD H b=some p){i:BI}(hi:μ b=some i){n off:Nat}{l:List zA}(hl:p.1.many n off=some l) :
  ∃vs:List Value,vs.length=n/\zB μ l vs/\(loadCells ⟨i.b,off,none⟩ n).run P w=.ok vs.toArray w/\∀j,j<n->w.cell? ⟨i.b,off+j,none⟩=vs[j]?:=by
 obtain⟨h1,h2⟩:=Tr.many_some _ _ _ _ hl
 have key:∀j,j<n->∃v',w.cell? ⟨i.b,off+j,none⟩=some v'/\∃a,l[j]?=some a/\wA μ a v':=by
  intro j hj;have h3:=h2 j hj
  cases hlj:l[j]? with
  | none=>rw[List.getElem?_eq_none_iff]at hlj;omega
  | some a=>
   rw[hlj]at h3;obtain⟨v',h4,h5⟩:=hH.cellAt h hi h3
   exact⟨v',h4,a,rfl,h5⟩
 let f:Nat->Value:=fun j=>(w.cell? ⟨i.b,off+j,none⟩).getD undef
 have hf:∀j,j<n->w.cell? ⟨i.b,off+j,none⟩=some (f j):=by
  intro j hj;obtain⟨v',h3,_⟩:=key j hj
  simp[f,h3]
 refine⟨(List.range n).map f,by simp,?_,?_,?_⟩
 ·refine zB.mk (by simp[h1]) fun j a v ha hv=>?_
  have hj:j<n:=by rw[<- h1];exact(yad.1 ha).1
  obtain⟨v',h3,a',h4,h5⟩:=key j hj
  rw[ha]at h4;cases h4;rw[yav,List.getElem?_range hj]at hv;have h6:=hf j hj
  rw[h3]at h6;cases h6;simp at hv;rw[<- hv];exact h5
 ·exact run_loadCells w _ n f fun j hj=>by rw[wQ];exact hf j hj
 ·intro j hj;rw[hf j hj,yav,List.getElem?_range hj];rfl
theorem zqi(hH:aA B N μ H w){t:Nat}{ty:qC}(hty:dI P t ty){b:Nat}{p:Tr zA × Nat × Option Lo}(h:tD H b=some p){i:BI}(hi:μ b=some i){off:Nat}{v:zA}
  (hv:zN ty p.1 off=some v):∃v',(loadVar t ⟨i.b,off,none⟩).run P w=.ok v' w/\wA μ v v':=by
 unfold zN at hv;unfold loadVar;rw[Sem.run_bind,hty.isAgg,Result.andThen_ok]
 cases ha:ty.desc.isAgg with
 | true=>
  rw[ha,cond_true,tA]at hv;obtain⟨l,hl,hv⟩:=hv
  cases hv;obtain⟨vs,_,h2,h3,_⟩:=hH.manyAt (P:=P) h hi hl
  refine⟨.agg vs.toArray,?_,by rw[wA];exact⟨_,rfl,h2⟩⟩
  rw[if_pos rfl,Sem.run_bind,hty.size,Result.andThen_ok,Sem.run_bind,h3];rfl
 | false=>
  rw[ha,cond_false]at hv;obtain⟨v',h1,h2⟩:=hH.cellAt h hi hv
  refine⟨v',?_,h2⟩
  rw[if_neg (by simp),run_load,h1]
theorem aV(hT:pE P C){t:Nat}{l:List zA}{cs:Array Value}(hl:zB μ l cs.toList){off:Nat}{v:zA}(hv:rL C t l off=some v) :
  ∃v',(part t cs off).run P w=.ok v' w/\wA μ v v':=by
 unfold rL at hv;rw[tA]at hv;obtain⟨ty,hty,hv⟩:=hv
 have hF:=hT.facts hty
 unfold part;rw[Sem.run_bind,hF.isAgg,Result.andThen_ok]
 cases ha:ty.desc.isAgg with
 | true=>
  rw[ha,cond_true]at hv
  cases hv;refine⟨.agg (cs.extract off (off+ty.size)),?_,?_⟩
  ·rw[if_pos rfl,Sem.run_bind,hF.size];rfl
  ·rw[wA];refine⟨_,rfl,?_⟩
   rw[pO,iP,Array.toList_extract,List.extract_eq_take_drop,Nat.add_sub_cancel_left];exact(hl.drop _).take _
 | false=>
  rw[ha,cond_false,lF]at hv;obtain⟨v',h1,h2⟩:=hl.get hv
  refine⟨v',?_,h2⟩
  rw[if_neg (by simp)]
  have:cs[off]?=some v':=by simpa using h1
  rw[this];rfl
def LOk (P:Program)(μ:Mu)(w:World)(ρ:Operand->Value)(o:Oper)(v:zA):Prop:=∃v',(execOp ρ o).run P w=.ok (.value v') w/\wA μ v v'
variable {e:mC}{ρ:Operand->Value}{dst:Option Tmp}{type:TypeId}{pos:String}{after:Array Edge}{guard:Option (Nat × Bool)}{v:zA}
theorem zqp(hE:mE μ e ρ){x:Operand}(h:nO x C e H=some v):LOk P μ w ρ ⟨dst,.move x,type,pos,after,guard⟩ v:=⟨ρ x,rfl,hE x v h⟩
theorem zgf(hE:mE μ e ρ){x:Operand}(h:nO x C e H=some v):LOk P μ w ρ ⟨dst,.assign x,type,pos,after,guard⟩ v:=⟨ρ x,rfl,hE x v h⟩
theorem zqo(hE:mE μ e ρ){c a b:Operand}(h:zx1 c a b C e H=some v):LOk P μ w ρ ⟨dst,.pick c a b,type,pos,after,guard⟩ v:=by
 unfold zx1 at h;rw[tA]at h;obtain⟨cv,hc,h⟩:=h
 rw[tA]at h;obtain⟨cb,hb,h⟩:=h
 have h1:=hE _ _ hc
 rw[yR.1 hb,wA]at h1;unfold LOk execOp;simp only[h1,asBool]
 cases cb with
 | true=>exact⟨ρ a,rfl,hE _ _ h⟩
 | false=>exact⟨ρ b,rfl,hE _ _ h⟩
theorem zqq(hT:pE P C)(hH:aA B N μ H w)(hE:mE μ e ρ){t:Nat}{a:Operand}(h:lO t a C e H=some v):LOk P μ w ρ ⟨dst,.load t a,type,pos,after,guard⟩ v:=by
 unfold lO at h;simp only[tA,dT]at h;obtain⟨av,ha,p,rfl,ty,hty,c,hc,h⟩:=h
 have h1:=hE _ _ ha
 rw[wA]at h1;obtain⟨i,hi,hv⟩:=h1
 obtain⟨v',h2,h3⟩:=zqi (P:=P) hH (hT.facts hty) hc hi h
 refine⟨v',?_,h3⟩
 simp only[execOp,Instr.loadAt,hv,Instr.sureAddr,Sem.run_bind,Sem.run_pure,Result.andThen_ok,h2]
theorem zx2(hE:mE μ e ρ){x:Operand}(h:z24 x C e H=some v):LOk P μ w ρ ⟨dst,.nilCheck x,type,pos,after,guard⟩ v:=by
 unfold z24 at h;rw[tA]at h;obtain⟨a,ha,h⟩:=h
 rw[yB]at h;obtain⟨hb,h⟩:=h
 cases h;have h1:=hE _ _ ha
 refine⟨ρ x,?_,h1⟩
 cases v<;>simp[zA.tag,Nat.beq]at hb
 ·rw[wA]at h1
  obtain⟨i,_,hv⟩:=h1
  simp only[execOp,hv];rfl
 ·rename_i fn a b
  rw[wA]at h1;obtain⟨fn',a',c',hv,hf,_⟩:=h1
  cases fn with
  | func f=>cases hf;simp only[execOp,hv];rfl
  | yld l=>obtain⟨i,_,rfl⟩:=hf;simp only[execOp,hv];rfl
theorem zqr(hE:mE μ e ρ){fn:Fn}{a b:Array Operand}(h:(fR fn a b).f C e H=some v):LOk P μ w ρ ⟨dst,.makeFunc fn a b,type,pos,after,guard⟩ v:=by
 unfold fR at h;split at h
 ·rename_i f
  simp only[zya,tA]at h;obtain⟨as,ha,bs,hb,h⟩:=h
  cases h;refine⟨.func (.func f) (a.map ρ) (b.map ρ),rfl,?_⟩
  rw[wA];exact⟨_,_,_,rfl,rfl,by simpa using hE.many ha,by simpa using hE.many hb⟩
 ·cases h
theorem zkw(hT:pE P C)(hE:mE μ e ρ){t:Nat}{x:Operand}(h:iR t x C e H=some v):LOk P μ w ρ ⟨dst,.makeInterface t x,type,pos,after,guard⟩ v:=by
 unfold iR at h;simp only[tA,yB]at h;obtain⟨ty,hty,hb,a,ha,h⟩:=h
 cases h;obtain⟨d,hd,hn⟩:=zal (hT.facts hty) hb
 refine⟨.iface t (ρ x),?_,by rw[wA];exact⟨_,rfl,hE _ _ ha⟩⟩
 simp only[execOp,Instr.makeInterface,Sem.run_bind,qE hd,Result.andThen_ok]
 cases d<;>first | rfl | exact absurd rfl (hn _)
theorem zdm(hE:mE μ e ρ){t:Operand}{i:Nat}(h:hO t i C e H=some v):LOk P μ w ρ ⟨dst,.extract t i,type,pos,after,guard⟩ v:=by
 unfold hO at h;simp only[tA,zt6,lF]at h;obtain⟨a,ha,l,rfl,h⟩:=h
 have h1:=hE _ _ ha
 rw[wA]at h1;obtain⟨cs,hv,hl⟩:=h1
 obtain⟨v',h2,h3⟩:=hl.get h
 refine⟨v',?_,h3⟩
 have h4:cs[i]?=some v':=by simpa using h2
 simp only[execOp,hv,Instr.extract,h4];rfl
theorem zkx(hT:pE P C)(hE:mE μ e ρ){t:Nat}{x:Operand}{f:Nat}(h:eR t x f C e H=some v):LOk P μ w ρ ⟨dst,.field t x f,type,pos,after,guard⟩ v:=by
 unfold eR at h;simp only[tA,vV,lF]at h;obtain⟨ty,hty,fs,hfs,fd,hfd,a,ha,l,rfl,h⟩:=h
 obtain⟨g,hg,rfl⟩:=mT (hT.facts hty) hfs
 have h1:=hE _ _ ha
 rw[wA]at h1;obtain⟨cs,hv,hl⟩:=h1
 rw[yav]at hfd
 cases hgf:g.toList[f]? with
 | none=>rw[hgf]at hfd;cases hfd
 | some fld=>
  rw[hgf]at hfd;simp at hfd;subst hfd;obtain⟨v',h2,h3⟩:=aV (w:=w) hT hl h
  refine⟨v',?_,h3⟩
  have h4:g[f]?=some fld:=by simpa using hgf
  simp only[execOp,hv,Instr.field,Sem.run_bind,qE hg,Result.andThen_ok,h4,asAgg,Sem.run_pure,h2]
theorem zaj(hT:pE P C)(hE:mE μ e ρ){s:Nat}{x:Operand}{f:Nat}(h:iO s x f C e H=some v):LOk P μ w ρ ⟨dst,.fieldAddr s x f,type,pos,after,guard⟩ v:=by
 unfold iO at h;simp only[tA,dT,lF,yB]at h;obtain⟨ty,hty,fs,hfs,fd,hfd,hz,a,ha,p,rfl,h⟩:=h
 cases h;obtain⟨g,hg,rfl⟩:=mT (hT.facts hty) hfs
 have h1:=hE _ _ ha
 rw[wA]at h1;obtain⟨i,hi,hv⟩:=h1
 rw[yav]at hfd
 cases hgf:g.toList[f]? with
 | none=>rw[hgf]at hfd;cases hfd
 | some fld=>
  rw[hgf]at hfd;simp at hfd;subst hfd;refine⟨.pointer (some ⟨i.b,p.2+fld.offset,none⟩),?_,by rw[wA];exact⟨i,hi,rfl⟩⟩
  have h4:g[f]?=some fld:=by simpa using hgf
  have h5:P.cellsOf fld.type≠0:=by
   have h6:Nat.beq (P.cellsOf fld.type) 0=false:=by simpa using hz
   exact beqf.1 h6
  have h6:(sizeOf fld.type).run P w=.ok (P.cellsOf fld.type) w:=by
   unfold Program.cellsOf at h5 ⊢
   cases hinf:P.info? fld.type with
   | none=>rw[hinf]at h5;exact absurd rfl h5
   | some inf=>simp[sizeOf,zT hinf]
  simp only[execOp,hv,Instr.fieldAt,Sem.run_bind,qE hg,Result.andThen_ok,h4,Instr.sureAddr,Sem.run_pure,fieldPlace,h6,Sem.run_ite,if_neg h5,wQ]
end
end Go.Am
