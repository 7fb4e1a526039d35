/- -/
import Derived.Below
import Derived.Calls
import Derived.Laws.Cells
import Derived.Laws.Sem
import Derived.Laws.StructEq
import Derived.Laws.World
set_option linter.all false
noncomputable section
namespace Go.Am
def yaa := @if_neg
def yab := @if_pos
def yac := @Result.andThen_ok
def yad := @Sem.run_bind
def yae := @Sem.run_pure
def yaf := @List.mem_append
def yag := @Nat.pow_succ
def yah := @List.nil_append
def yai := @Option.bind_some
def yaj := @Array.getElem?_append_left
def yak := @List.drop_eq_nil_iff
def yal := @Bool.or_eq_false_iff
def yam := @Nat.lt_of_le_of_lt
def yan := @Nat.le_mul_of_pos_left
def yao := @Nat.pow_le_pow_right
def yap := @Nat.add_comm
def yaq := @List.mem_map
def yar := @Option.map_eq_some_iff
def yas := @List.flatten_cons
def yat := @Nat.mul_zero
def yau := @Nat.lt_or_ge
def yav := @Nat.eq_zero_or_pos
def yaw := @Nat.zero_le
def yax := @Array.toList_inj
def yay := @Bool.and_false
def yaz := @List.getElem?_cons_zero
def yba := @List.getElem?_cons_succ
def ybb := @Bool.and_eq_true
def ybc := @List.getElem?_eq_some_iff
def ybd := @List.getElem?_eq_getElem
def ybe := @Array.getElem?_eq_some_iff
def ybf := @List.length_map
def ybg := @List.length_append
def ybh := @Nat.mul_comm
def ybi := @Nat.mul_le_mul_right
def ybj := @Nat.mul_assoc
def ybk := @Nat.le_refl
def ybl := @List.drop_eq_getElem_cons
def ybm := @Nat.mul_add
def ybn := @List.length_cons
def ybo := @Nat.add_mul
def ybp := @List.getElem?_append_right
def ybq := @Bool.false_eq_true
def ybr := @List.mem_cons_of_mem
def ybs := @List.mem_cons
def ybt := @List.drop_eq_nil_of_le
def ybu := @List.getElem?_map
def ybv := @Nat.mul_le_mul_left
def ybw := @Nat.zero_add
def ybx := @List.length_nil
def yby := @List.mem_cons_self
def ybz := @List.append_assoc
def yca := @List.take_of_length_le
def ycb := @List.all_eq_true
def ycc := @List.length_eq_zero_iff
def ycd := @List.append_nil
def yce := @Nat.dvd_mul_left_of_dvd
def ycf := @List.mem_append_right
def ycg := @List.all_cons
def ych := @Nat.div_add_mod
def yci := @Option.some.inj
def ycj := @List.getElem_mem
def yck := @List.all_nil
def ycl := @Bool.not_false
def ycm := @List.map_cons
def ycn := @Bool.true_and
def yco := @List.getElem?_append_left
def ycp := @Bool.not_eq_true'
def ycq := @Bool.or_eq_true
def ycr := @List.drop_zero
def ycs := @Array.getElem?_setIfInBounds
def yct := @Nat.add_zero
def ycu := @Nat.div_lt_of_lt_mul
def ycv := @List.mem_of_getElem?
def ycw := @List.getElem?_set
def ycx := @Array.getD_eq_getD_getElem?
def ycy := @Nat.mod_lt
def ycz := @Array.length_toList
def yda := @List.length_take
def ydb := @Nat.mul_le_mul
def ydc := @List.mem_append_left
def ydd := @List.mem_singleton
def yde := @List.getElem?_drop
def ydf := @List.getElem?_take
def ydg := @List.take_add_one
def ydh := @List.length_set
def ydi := @List.all_append
def ydj := @List.length_drop
end Go.Am
namespace Go.Am
inductive Tr (α:Type) where
 | leaf
 | node (l:Tr α) (v:Option α) (r:Tr α)
def ob {α β:Type}(x:Option α)(f:α->Option β):Option β:=Option.rec (motive:=fun _=>Option β) none f x
namespace Tr
variable {α:Type}
def get (t:Tr α):Nat->Option α:=
 Tr.rec (motive:=fun _=>Nat->Option α) (fun _=>none)
  (fun _ v _ gl gr n=>Bool.rec (motive:=fun _=>Option α) (Bool.rec (motive:=fun _=>Option α) (gr (Nat.pred (Nat.div n (nat_lit 2)))) (gl (Nat.div n (nat_lit 2))) (Nat.beq (Nat.mod n (nat_lit 2)) (nat_lit 1))) v (Nat.beq n (nat_lit 0))) t
def mk (f:Nat):Nat->α->Tr α:=
 Nat.rec (motive:=fun _=>Nat->α->Tr α) (fun _ _=>leaf)
  (fun _ g n v=>Bool.rec (motive:=fun _=>Tr α) (Bool.rec (motive:=fun _=>Tr α) (node leaf none (g (Nat.pred (Nat.div n (nat_lit 2))) v)) (node (g (Nat.div n (nat_lit 2)) v) none leaf) (Nat.beq (Nat.mod n (nat_lit 2)) (nat_lit 1))) (node leaf (some v) leaf) (Nat.beq n (nat_lit 0))) f
def set (t:Tr α):Nat->α->Tr α:=
 Tr.rec (motive:=fun _=>Nat->α->Tr α) (fun n v=>mk (Nat.succ n) n v)
  (fun l x r gl gr n v=>Bool.rec (motive:=fun _=>Tr α) (Bool.rec (motive:=fun _=>Tr α) (node l x (gr (Nat.pred (Nat.div n (nat_lit 2))) v)) (node (gl (Nat.div n (nat_lit 2)) v) x r) (Nat.beq (Nat.mod n (nat_lit 2)) (nat_lit 1))) (node l (some v) r) (Nat.beq n (nat_lit 0))) t
def del (t:Tr α):Nat->Tr α:=
 Tr.rec (motive:=fun _=>Nat->Tr α) (fun _=>leaf)
  (fun l x r gl gr n=>Bool.rec (motive:=fun _=>Tr α) (Bool.rec (motive:=fun _=>Tr α) (node l x (gr (Nat.pred (Nat.div n (nat_lit 2))))) (node (gl (Nat.div n (nat_lit 2))) x r) (Nat.beq (Nat.mod n (nat_lit 2)) (nat_lit 1))) (node l none r) (Nat.beq n (nat_lit 0))) t
def many (t:Tr α)(n:Nat):Nat->Option (List α):=
 Nat.rec (motive:=fun _=>Nat->Option (List α)) (fun _=>some [])
  (fun _ g i=>ob (t.get i) fun v=>ob (g (i+1)) fun l=>some (v::l)) n
def setMany(l:List α):Tr α->Nat->Tr α:=
 List.rec (motive:=fun _=>Tr α->Nat->Tr α) (fun t _=>t) (fun v _ g t i=>g (t.set i v) (i+1)) l
def ofList(l:List α):Tr α:=setMany l leaf 0
end Tr
def gC {α:Type}(l:List α):Nat->Option α:=
 List.rec (motive:=fun _=>Nat->Option α) (fun _=>none) (fun a _ g n=>Bool.rec (motive:=fun _=>Option α) (g (Nat.pred n)) (some a) (Nat.beq n (nat_lit 0))) l
def xM{α:Type}(l:List α):Nat->List α:=
 List.rec (motive:=fun _=>Nat->List α) (fun _=>[]) (fun a l g n=>bif Nat.beq n 0 then a::l else g (n-1)) l
def zfr{α:Type}(l:List α):Nat->List α:=
 List.rec (motive:=fun _=>Nat->List α) (fun _=>[]) (fun a _ g n=>bif Nat.beq n 0 then []else a::g (n-1)) l
def yB {α:Type}(l:List α):Nat:=List.rec (motive:=fun _=>Nat) 0 (fun _ _ n=>n+1) l
def xD {α:Type}(l m:List α):List α:=List.rec (motive:=fun _=>List α) m (fun a _ g=>a::g) l
def kB {α:Type}(p:α->Bool)(l:List α):Bool:=List.rec (motive:=fun _=>Bool) true (fun a _ g=>bif p a then g else false) l
def uG{α β:Type}(f:α->Option β)(l:List α):Option (List β):=
 List.rec (motive:=fun _=>Option (List β)) (some []) (fun a _ g=>ob (f a) fun b=>ob g fun r=>some (b::r)) l
def wE(a:List Nat):List Nat->Bool:=
 List.rec (motive:=fun _=>List Nat->Bool) (fun b=>b.isEmpty) (fun x _ g b=>List.rec (motive:=fun _=>Bool) false (fun y b _=>bif Nat.beq x y then g b else false) b) a
def kIdx:IntKind->Nat
 | .i8=>0 | .i16=>1 | .i32=>2 | .i64=>3 | .u8=>4 | .u16=>5 | .u32=>6 | .u64=>7
def kEq (a b:IntKind):Bool:=Nat.beq (kIdx a) (kIdx b)
def bEq:Bool->Bool->Bool
 | true,b=>b
 | false,b => !b
def jA:Int->Int->Bool
 | .ofNat a,.ofNat b=>Nat.beq a b
 | .negSucc a,.negSucc b=>Nat.beq a b
 | _,_=>false
def jC:Int->Int->Bool
 | .ofNat a,.ofNat b=>Nat.ble a b
 | .ofNat _,.negSucc _=>false
 | .negSucc _,.ofNat _=>true
 | .negSucc a,.negSucc b=>Nat.ble b a
def bB:Int->Int->Bool
 | .ofNat a,.ofNat b=>Nat.blt a b
 | .ofNat _,.negSucc _=>false
 | .negSucc _,.ofNat _=>true
 | .negSucc a,.negSucc b=>Nat.blt b a
def dF:IntKind->Nat
 | .i8=>128 | .i16=>32768 | .i32=>2147483648 | .i64=>9223372036854775808 | .u8=>256 | .u16=>65536 | .u32=>4294967296 | .u64=>18446744073709551616
def kLo:IntKind->Nat
 | .i8=>128 | .i16=>32768 | .i32=>2147483648 | .i64=>9223372036854775808 | _=>0
def tA(k:IntKind):Int->Int
 | .ofNat n=>bif Nat.blt n (dF k)then .ofNat n else k.wrap (.ofNat n)
 | .negSucc n=>bif Nat.blt n (kLo k)then .negSucc n else k.wrap (.negSucc n)
inductive AFn where
 | func (f:Nat)
 | yld (l:Nat)
inductive zA where
 | bool (b:Bool)
 | int (k:IntKind) (n:Int)
 | str (l:List Nat)
 | nilptr
 | ptr (b off:Nat)
 | nilslice
 | slice (b off len cap:Nat)
 | nilmap
 | map (b:Nat)
 | func (fn:AFn) (first captured:List zA)
 | nilfunc
 | iface (t:Nat) (v:zA)
 | niliface
 | agg (l:List zA)
 | tup (l:List zA)
structure Tm where
 k:Nat
 v:Tr zA
 t:List (Nat × zA)
def z6h(i:Nat)(l:List (Nat × zA)):Option zA:=
 List.rec (motive:=fun _=>Option zA) none (fun a _ g=>Bool.rec (motive:=fun _=>Option zA) g (some a.2) (Nat.beq i a.1)) l
def Tm.get(t:Tm)(i:Nat):Option zA:=Bool.rec (motive:=fun _=>Option zA) (z6h i t.t) (t.v.get i) (Nat.blt i t.k)
def Tm.set(t:Tm)(i:Nat)(x:zA):Tm:=Bool.rec (motive:=fun _=>Tm) ⟨t.k,t.v,(i,x)::t.t⟩ ⟨t.k,t.v.set i x,t.t⟩ (Nat.blt i t.k)
def Tm.cut(t:Tm):Tm:=⟨t.k,t.v,[]⟩
structure sI where
 fn:Option AFn
 r:Nat
 args:List zA
structure gL where
 state:LoopState
 pending:Option Code
 fn:Nat
 n:Nat
 tm:Tm
 params:List Nat
 assign:Code
 body:Code
 defers:Nat
inductive Lo where
 | sz (n:Nat)
 | ty (t:Nat)
def Lo.es:Lo->Nat | .sz n=>n | .ty _=>1
def loEq:Lo->Lo->Bool
 | .sz a,.sz b=>Nat.beq a b
 | .ty a,.ty b=>Nat.beq a b
 | _,_=>false
inductive rA where
 | cells (c:Tr zA) (n:Nat) (loose:Option Lo)
 | map (l:List (zA × zA))
 | loop (l:gL)
 | deferred (l:Option (List sI))
 | siter (s:List Nat) (pos:Nat)
structure xA where
 next:Nat
 t:Tr rA
inductive bD where
 | bool | int (k:IntKind) | string
 | ptr (e:Nat) | slice (e:Nat) | arr (n e:Nat) | map (k e:Nat)
 | struct (fs:List (Nat × Nat × Nat))
 | func | iface | other
structure tC where
 desc:bD
 size:Nat
 bytes:Nat
 zero:List zA
 eqOk:Bool
structure pE where
 heavy:Nat
 lights:List Nat
 again:List Nat
structure Plan where
 first:List Nat
 stages:List pE
 olds:List (Nat × List Nat)
structure oA where
 fns:Tr Func
 ks:Tr Nat
 tys:Tr tC
 plans:Tr (Tr Plan)
 prims:Tr (List zA->xA->Option (zA × xA))
 base:Nat
 root:Nat
inductive fD where
 | code (c:Code)
 | inBlock (id:Nat)
 | inLoop (c:Code)
 | inScope (c:Code)
 | ops (all:Array Oper) (rest:List Oper)
 | reg (all:Array Oper) (old:Tm) (olds:List (Nat × List Nat)) (stages:List pE)
 | inRange (l:Nat)
 | endRange (l:Nat)
 | beginRound
structure zca where
 v:zA
 recovered:Bool
inductive zfw where
 | run | returning
 | panicking (chain:List zca)
structure nI where
 fn:Nat
 n:Nat
 defers:List sI
 mode:zfw
 deferred:Bool
 roundOf:Option Nat
structure xC where
 todo:List fD
 tm:Tm
 R:nI
structure lM where
 fr:xC
 cs:List xC
 H:xA
inductive rE where
 | next (s:lM)
 | done (v:zA) (H:xA)
 | fail (why:Nat)
def zA.asBool:zA->Option Bool | .bool b=>some b | _=>none
def zA.asInt:zA->Option Int | .int _ n=>some n | _=>none
def zA.asIntK:zA->Option (IntKind × Int) | .int k n=>some (k,n) | _=>none
def zA.asStr:zA->Option (List Nat) | .str l=>some l | _=>none
def zA.asPtr:zA->Option (Nat × Nat) | .ptr b o=>some (b,o) | _=>none
def zA.asSlice:zA->Option (Nat × Nat × Nat × Nat) | .slice b o l c=>some (b,o,l,c) | _=>none
def zA.asMap:zA->Option Nat | .map b=>some b | _=>none
def zA.asAgg:zA->Option (List zA) | .agg l=>some l | _=>none
def zA.asTup:zA->Option (List zA) | .tup l=>some l | _=>none
def zA.asFunc:zA->Option (AFn × List zA × List zA) | .func f a b=>some (f,a,b) | _=>none
def zA.asIface:zA->Option (Nat × zA) | .iface t v=>some (t,v) | _=>none
def zA.tag:zA->Nat
 | .bool _=>0 | .int _ _=>1 | .str _=>2 | .nilptr=>3 | .ptr _ _=>4 | .nilslice=>5 | .slice _ _ _ _=>6 | .nilmap=>7 | .map _=>8
 | .func _ _ _=>9 | .nilfunc=>10 | .iface _ _=>11 | .niliface=>12 | .agg _=>13 | .tup _=>14
def fJ:Int->Option Nat | .ofNat n=>some n | .negSucc _=>none
def zA.asNat(v:zA):Option Nat:=ob v.asInt fJ
def zA.cells(v:zA):List zA:=
 match v.asAgg with
 | some l=>l
 | none=>[v]
def zA.one(v:zA):Bool:=Nat.blt v.tag 13
def bD.asInt:bD->Option IntKind | .int k=>some k | _=>none
def bD.asSlice:bD->Option Nat | .slice e=>some e | _=>none
def bD.asArr:bD->Option (Nat × Nat) | .arr n e=>some (n,e) | _=>none
def bD.asMap:bD->Option (Nat × Nat) | .map k e=>some (k,e) | _=>none
def bD.asStruct:bD->Option (List (Nat × Nat × Nat)) | .struct fs=>some fs | _=>none
def bD.tag:bD->Nat
 | .bool=>0 | .int _=>1 | .string=>2 | .ptr _=>3 | .slice _=>4 | .arr _ _=>5 | .map _ _=>6 | .struct _=>7 | .func=>8 | .iface=>9 | .other=>10
def bD.isAgg(d:bD):Bool:=bif Nat.beq d.tag 5 then true else Nat.beq d.tag 7
def bD.isString(d:bD):Bool:=Nat.beq d.tag 2
def rA.asCells:rA->Option (Tr zA × Nat × Option Lo) | .cells c n l=>some (c,n,l) | _=>none
def rA.asMap:rA->Option (List (zA × zA)) | .map l=>some l | _=>none
def rA.asLoop:rA->Option gL | .loop l=>some l | _=>none
def rA.asDeferred:rA->Option (Option (List sI)) | .deferred l=>some l | _=>none
def rA.asIter:rA->Option (List Nat × Nat) | .siter s p=>some (s,p) | _=>none
def cA{α:Type}(b:Bool)(x:Option α):Option α:=Bool.rec (motive:=fun _=>Option α) none x b
def nD:zA:=.tup []
def qE(s:ByteArray):List Nat:=s.data.toList.map UInt8.toNat
def cT:Value->Option zA
 | .bool b=>some (.bool b)
 | .int k n=>some (.int k n)
 | .string s=>some (.str (qE s))
 | .pointer none=>some .nilptr
 | .slice none 0 0=>some .nilslice
 | .map none=>some .nilmap
 | .nilFunc=>some .nilfunc
 | .nilIface=>some .niliface
 | _=>none
def z8i:Value->Option (Array Value)
 | .agg cs=>some cs
 | _=>none
def zou(v:Value):Option zA:=
 match z8i v with
 | some cs=>ob (uG cT cs.toList) fun l=>some (.agg l)
 | none=>cT v
inductive iC where
 | now (tm:Tm)
 | mixed (tm old:Tm) (olds names:List Nat)
def aE(i:Nat)(l:List Nat):Bool:=List.rec (motive:=fun _=>Bool) false (fun j _ g=>bif Nat.beq i j then true else g) l
def z2m (t:Nat)(e:iC):Option zA:=
 match e with
 | .now tm=>tm.get t
 | .mixed tm old olds names=>bif aE t names then Tm.get (bif aE t olds then old else tm) t else none
def xConst(v:Value)(_:iC):Option zA:=zou v
def znm(g:Nat)(_:iC):Option zA:=bif Nat.blt g 256 then some (.ptr g 0)else none
def xFunc(f:Nat)(_:iC):Option zA:=some (.func (.func f) [] [])
structure EB where f:iC->Option zA
def evB:Operand->EB
 | .tmp t=>⟨z2m t⟩
 | .const v=>⟨xConst v⟩
 | .global g=>⟨znm g⟩
 | .func f=>⟨xFunc f⟩
def ev (x:Operand)(e:iC):Option zA:=(evB x).f e
def evs (l:List Operand)(e:iC):Option (List zA):=uG (fun x=>ev x e) l
def evo (x:Option Operand)(e:iC):Option (Option zA):=
 match x with
 | none=>some none
 | some x=>ob (ev x e) fun v=>some (some v)
def evp (l:List (Nat × Operand))(e:iC):Option (List (Nat × zA)):=uG (fun x=>ob (ev x.2 e) fun v=>some (x.1,v)) l
def vE(H:xA)(b:Nat):Option (Tr zA × Nat × Option Lo):=ob (H.t.get b) rA.asCells
def bG(H:xA)(b:Nat):Option (List (zA × zA)):=ob (H.t.get b) rA.asMap
def wN(ty:tC)(c:Tr zA)(off:Nat):Option zA:=
 bif ty.desc.isAgg then ob (c.many ty.size off) fun l=>some (.agg l)else c.get off
def oL(C:oA)(t:Nat)(l:List zA)(off:Nat):Option zA:=
 ob (C.tys.get t) fun ty=>bif ty.desc.isAgg then some (.agg (zfr (xM l off) ty.size))else gC l off
def gN(ty:tC):zA:=
 bif ty.desc.isAgg then .agg ty.zero else match ty.zero with
  | v::_=>v
  | []=>nD
def zo2(a:List Nat):List Nat->Bool:=
 List.rec (motive:=fun _=>List Nat->Bool) (fun b => !b.isEmpty)
  (fun x _ g b=>List.rec (motive:=fun _=>Bool) false (fun y b _=>bif Nat.blt x y then true else bif Nat.beq x y then g b else false) b) a
def zhg(a b:zA):Option Bool:=ob a.asBool fun x=>ob b.asBool fun y=>some (bEq x y)
def zza6(a b:zA):Option Bool:=ob a.asIntK fun x=>ob b.asIntK fun y=>cA (kEq x.1 y.1) (some (jA x.2 y.2))
def zjp(a b:zA):Option Bool:=ob a.asStr fun x=>ob b.asStr fun y=>some (wE x y)
def zmh(n m:Nat)(a b:zA):Option Bool:=
 bif Nat.beq a.tag n then(bif Nat.beq b.tag n then some true else cA (Nat.beq b.tag m) (some false))
 else cA (Nat.beq a.tag m&&Nat.beq b.tag n) (some false)
def zsm(_ _:zA):Option Bool:=none
def zmi:bD->zA->zA->Option Bool
 | .bool=>zhg
 | .int _=>zza6
 | .string=>zjp
 | .ptr _=>zmh 3 4
 | .iface=>zmh 12 11
 | .slice _=>zmh 5 6
 | .map _ _=>zmh 7 8
 | .func=>zmh 10 9
 | .arr _ _=>zsm
 | .struct _=>zsm
 | .other=>zsm
def zvk(C:oA)(eq:Nat->zA->zA->Option Bool)(xs ys:List zA):List (Nat × Nat × Nat)->Option Bool
 | []=>some true
 | f::fs=>ob (oL C f.2.1 xs f.1) fun a=>ob (oL C f.2.1 ys f.1) fun b=>ob (eq f.2.1 a b) fun r=>bif r then zvk C eq xs ys fs else some false
def aeq (C:oA):Nat->Nat->zA->zA->Option Bool
 | 0,_,_,_=>none
 | d+1,t,x,y=>ob (C.tys.get t) fun ty=>
  match ty.desc.asStruct with
  | some fs=>cA ty.eqOk (ob x.asAgg fun xs=>ob y.asAgg fun ys=>zvk C (aeq C d) xs ys fs)
  | none=>zmi ty.desc x y
def iAdd (k:IntKind)(a b:Int):Option zA:=some (.int k (tA k (a+b)))
def iSub (k:IntKind)(a b:Int):Option zA:=some (.int k (tA k (a-b)))
def iMul (k:IntKind)(a b:Int):Option zA:=some (.int k (tA k (a*b)))
def z49 (k:IntKind)(a b:Int):Option zA:=bif jA b 0 then none else some (.int k (tA k (a.tdiv b)))
def zvu (k:IntKind)(a b:Int):Option zA:=bif jA b 0 then none else some (.int k (a.tmod b))
def gH(f:Nat->Nat->Nat)(k:IntKind)(a b:Int):Option zA:=ob (fJ a) fun x=>ob (fJ b) fun y=>cA (Nat.blt x (dF k)&&Nat.blt y (dF k)) (some (.int k (.ofNat (f x y))))
def kW:IntKind->Nat
 | .i8=>256 | .u8=>256 | .i16=>65536 | .u16=>65536 | .i32=>4294967296 | .u32=>4294967296 | .i64=>18446744073709551616 | .u64=>18446744073709551616
def iAnd (k:IntKind)(a b:Int):Option zA:=
 match fJ a with
 | some _=>gH Nat.land k a b
 | none=>ob (fJ b) fun y=>cA (Nat.blt y (dF k)) (some (.int k (.ofNat (Nat.land (Int.toNat (Int.emod a (.ofNat (kW k)))) y))))
def iEql (_:IntKind)(a b:Int):Option zA:=some (.bool (jA a b))
def iNeq (_:IntKind)(a b:Int):Option zA:=some (.bool (!jA a b))
def iLss (_:IntKind)(a b:Int):Option zA:=some (.bool (bB a b))
def iLeq (_:IntKind)(a b:Int):Option zA:=some (.bool (jC a b))
def iGtr (_:IntKind)(a b:Int):Option zA:=some (.bool (bB b a))
def iGeq (_:IntKind)(a b:Int):Option zA:=some (.bool (jC b a))
def iNone(_:IntKind)(_ _:Int):Option zA:=none
structure IB where f:IntKind->Int->Int->Option zA
def z11:BinOp->IB
 | .add=>⟨iAdd⟩ | .sub=>⟨iSub⟩ | .mul=>⟨iMul⟩ | .quo=>⟨z49⟩ | .rem=>⟨zvu⟩
 | .and=>⟨iAnd⟩ | .or=>⟨gH Nat.lor⟩ | .xor=>⟨gH Nat.xor⟩
 | .eql=>⟨iEql⟩ | .neq=>⟨iNeq⟩ | .lss=>⟨iLss⟩ | .leq=>⟨iLeq⟩ | .gtr=>⟨iGtr⟩ | .geq=>⟨iGeq⟩
 | _=>⟨iNone⟩
def z7b (a b:List Nat):Option zA:=cA (Nat.blt (yB a+yB b) 4611686018427387904) (some (.str (xD a b)))
def sEql (a b:List Nat):Option zA:=some (.bool (wE a b))
def sNeq (a b:List Nat):Option zA:=some (.bool (!wE a b))
def sLss (a b:List Nat):Option zA:=some (.bool (zo2 a b))
def sNone(_ _:List Nat):Option zA:=none
structure SB where f:List Nat->List Nat->Option zA
def z1x:BinOp->SB
 | .add=>⟨z7b⟩ | .eql=>⟨sEql⟩ | .neq=>⟨sNeq⟩ | .lss=>⟨sLss⟩
 | _=>⟨sNone⟩
def fW:Operand->Bool
 | .const _=>true
 | _=>false
def zdi(k:IntKind)(b:Int):Option Nat:=ob (fJ b) fun n=>some (min n k.bits)
def zz8 (k:IntKind)(a b:Int):Option zA:=ob (zdi k b) fun n=>some (.int k (tA k (a*.ofNat (2^n))))
def zzap (k:IntKind)(a b:Int):Option zA:=ob (zdi k b) fun n=>some (.int k (a.fdiv (.ofNat (2^n))))
def vX(f:IntKind->Int->Int->Option zA)(a b:zA):Option zA:=ob a.asIntK fun x=>ob b.asInt fun y=>f x.1 x.2 y
def zsl(x y:Operand)(a b:zA):Bool:=
 bif Nat.beq a.tag 12&&Nat.beq b.tag 12 then fW x||fW y else true
def zcx(neg:Bool)(C:oA)(t:Nat)(x y:Operand)(a b:zA):Option zA:=
 cA (zsl x y a b) (ob (aeq C 20 t a b) fun r=>some (.bool (bif neg then !r else r)))
def binNo(_:oA)(_:Nat)(_ _:Operand)(_ _:zA):Option zA:=none
structure BB where f:oA->Nat->Operand->Operand->zA->zA->Option zA
def z1y:BinOp->BB
 | .eql=>⟨zcx false⟩
 | .neq=>⟨zcx true⟩
 | _=>⟨binNo⟩
def zjy(op:BinOp)(C:oA)(t:Nat)(x y:Operand)(a b:zA):Option zA:=
 match a.asIntK with
 | some i=>ob b.asIntK fun j=>cA (kEq i.1 j.1) ((z11 op).f i.1 i.2 j.2)
 | none=>match a.asStr with
  | some s=>ob b.asStr fun u=>(z1x op).f s u
  | none=>(z1y op).f C t x y a b
def binShl(_:oA)(_:Nat)(_ _:Operand)(a b:zA):Option zA:=vX zz8 a b
def binShr(_:oA)(_:Nat)(_ _:Operand)(a b:zA):Option zA:=vX zzap a b
def binA:BinOp->BB
 | .shl=>⟨binShl⟩
 | .shr=>⟨binShr⟩
 | op=>⟨zjy op⟩
def unNeg(a:zA):Option zA:=ob a.asIntK fun x=>some (.int x.1 (tA x.1 (0-x.2)))
def unNot(a:zA):Option zA:=ob a.asBool fun b=>some (.bool (!b))
def znw(a:zA):Option zA:=ob a.asIntK fun x=>cA (Nat.beq (kLo x.1) 0) (gH Nat.xor x.1 (.ofNat (dF x.1-1)) x.2)
def unNone(_:zA):Option zA:=none
structure UB where f:zA->Option zA
def unA:UnOp->UB
 | .neg=>⟨unNeg⟩
 | .xor=>⟨znw⟩
 | .not=>⟨unNot⟩
 | _=>⟨unNone⟩
def aS(v:zA):Option Nat:=ob v.asIntK fun x=>cA (kEq x.1 .u8) (ob (fJ x.2) fun n=>cA (Nat.blt n 256) (some n))
def mV(H:xA)(a:zA):Option zA:=
 match a.asSlice with
 | some x=>ob (vE H x.1) fun c=>ob (c.1.many x.2.2.1 x.2.1) fun l=>ob (uG aS l) fun r=>some (.str r)
 | none=>cA (Nat.beq a.tag 5) (some (.str []))
def nN(C:oA)(s d:tC)(a:zA)(H:xA):Option zA:=
 match d.desc.asInt with
 | some k=>ob a.asInt fun n=>some (.int k (tA k n))
 | none=>cA d.desc.isString (bif Nat.beq a.tag 2 then some a else
   ob s.desc.asSlice fun e=>ob (C.tys.get e) fun et=>ob et.desc.asInt fun k=>cA (kEq k .u8) (mV H a))
def kR(y:Nat)(v:zA):Option Nat:=ob v.asNat fun n=>cA (Nat.ble n y) (some n)
def ze2(y dflt:Nat)(v:Option zA):Option Nat:=
 match v with
 | some v=>kR y v
 | none=>some dflt
def lN(len cap:Nat)(lo hi:Option zA):Option (Nat × Nat):=
 ob (ze2 cap len hi) fun h=>ob (ze2 h 0 lo) fun l=>some (l,h)
def vI(H:xA)(b size cap l:Nat)(arr:Bool):Bool:=
 match vE H b with
 | some c=>match c.2.2 with
  | none=>true
  | some es => !arr&&Nat.beq es.es size&&(!Nat.beq cap l||Nat.beq l 0)
 | none=>false
def qJ(H:xA)(b size cap l:Nat)(arr:Bool):Bool:=
 match vE H b with
 | some c=>match c.2.2 with
  | none=>false
  | some es => !arr&&Nat.beq es.es size&&Nat.beq cap l && !Nat.beq l 0
 | none=>false
def eL(C:oA)(H:xA)(arr:Bool)(e b off len cap:Nat)(lo hi:Option zA):Option zA:=
 ob (C.tys.get e) fun et=>ob (lN len cap lo hi) fun x=>
  bif Nat.ble x.2 cap&&Nat.ble x.1 x.2&&qJ H b et.size cap x.1 arr then some (.slice 0 1 0 0)else
  cA (Nat.ble x.2 cap&&vI H b et.size cap x.1 arr) (some (.slice b (bif Nat.beq cap x.1 then off else off+x.1*et.size) (x.2-x.1) (cap-x.1)))
def zcj(s:List Nat)(lo hi:Option zA):Option zA:=
 let n:=yB s
 ob (lN n n lo hi) fun x=>some (.str (xM (zfr s x.2) x.1))
def aK(C:oA)(H:xA)(ty:tC)(x:zA)(lo hi:Option zA):Option zA:=
 match x.asStr with
 | some s=>cA ty.desc.isString (zcj s lo hi)
 | none=>match x.asSlice with
  | some r=>ob ty.desc.asSlice fun e=>eL C H false e r.1 r.2.1 r.2.2.1 r.2.2.2 lo hi
  | none=>match x.asPtr with
   | some p=>ob ty.desc.asArr fun a=>eL C H true a.2 p.1 p.2 a.1 a.1 lo hi
   | none=>cA (Nat.beq x.tag 5) (ob ty.desc.asSlice fun e=>ob (C.tys.get e) fun _=>ob (lN 0 0 lo hi) fun _=>some .nilslice)
def sU(cells:List zA)(off size:Nat)(v:zA):Option (List zA):=
 let vc:=v.cells
 let n:=yB vc
 cA (Nat.beq n size&&Nat.ble (off+n) (yB cells)) (some (xD (zfr cells off) (xD vc (xM cells (off+n)))))
def tM(place:Nat->Option (Nat × Nat)):List (Nat × zA)->List zA->Option (List zA)
 | [],cells=>some cells
 | p::rest,cells=>ob (place p.1) fun q=>ob (sU cells q.1 q.2 p.2) fun cells=>tM place rest cells
def sN(d:bD):Bool:=Nat.ble d.tag 2
def keyTag(v:zA):Nat:=v.tag
def zef(d:bD)(v:zA):Bool:=Nat.beq d.tag (keyTag v)
def pR(C:oA):List (Nat × Nat × Nat)->Nat->Bool
 | [],_=>true
 | f::fs,i=>bif Nat.beq f.1 i then(match C.tys.get f.2.1 with
  | some ty=>bif sN ty.desc then pR C fs (i+1)else false
  | none=>false)else false
def wO(C:oA)(ty:tC):Bool:=bif sN ty.desc then true else match ty.desc.asStruct with
 | some fs=>bif ty.eqOk then pR C fs 0 else false
 | none=>false
def zjk(C:oA):List (Nat × Nat × Nat)->List zA->Bool
 | [],[]=>true
 | f::fs,v::l=>(match C.tys.get f.2.1 with
  | some ty=>bif zef ty.desc v then zjk C fs l else false
  | none=>false)
 | _,_=>false
def vM(C:oA)(ty:tC)(v:zA):Bool:=bif sN ty.desc then zef ty.desc v else match ty.desc.asStruct with
 | some fs=>(match v.asAgg with
  | some l=>zjk C fs l
  | none=>false)
 | none=>false
def sL(a b:zA):Option Bool:=
 match a.asIntK with
 | some x=>ob b.asIntK fun y=>cA (kEq x.1 y.1) (some (jA x.2 y.2))
 | none=>match a.asStr with
  | some x=>ob b.asStr fun y=>some (wE x y)
  | none=>zhg a b
def tN:List zA->List zA->Option Bool
 | [],[]=>some true
 | a::x,b::y=>ob (sL a b) fun r=>ob (tN x y) fun s=>some (r&&s)
 | _,_=>none
def xG(a b:zA):Option Bool:=
 match a.asAgg with
 | some x=>ob b.asAgg fun y=>tN x y
 | none=>sL a b
def pH(k:zA):List (zA × zA)->Option (Option zA)
 | []=>some none
 | e::l=>ob (xG k e.1) fun r=>bif r then some (some e.2)else pH k l
def nG(k v:zA):List (zA × zA)->Option (List (zA × zA))
 | []=>some [(k,v)]
 | e::l=>ob (xG k e.1) fun r=>bif r then some ((k,v)::l)else ob (nG k v l) fun l=>some (e::l)
abbrev LOp:=oA->iC->xA->Option zA
def zi9:LOp:=fun _ _ _=>none
def dO(x:Operand):LOp:=fun _ e _=>ev x e
def zzd(c a b:Operand):LOp:=fun _ e _=>ob (ev c e) fun c=>ob c.asBool fun c=>bif c then ev a e else ev b e
def bO(t:Nat)(a:Operand):LOp:=fun C e H=>ob (ev a e) fun v=>ob v.asPtr fun p=>ob (C.tys.get t) fun ty=>ob (vE H p.1) fun c=>wN ty c.1 p.2
def z41 (x:Operand):LOp:=fun _ e _=>ob (ev x e) fun v=>cA (Nat.beq v.tag 4||Nat.beq v.tag 9) (some v)
def zzp (op:BinOp)(t:Nat)(x y:Operand):LOp:=fun C e _=>ob (ev x e) fun a=>ob (ev y e) fun b=>(binA op).f C t x y a b
def lUn (op:UnOp)(x:Operand):LOp:=fun _ e _=>ob (ev x e) fun a=>(unA op).f a
def uL(s d:Nat)(x:Operand):LOp:=fun C e H=>ob (ev x e) fun a=>ob (C.tys.get s) fun s=>ob (C.tys.get d) fun d=>nN C s d a H
def mS(t:Nat)(x:Operand):LOp:=fun C e _=>ob (C.tys.get t) fun ty=>cA (Nat.blt ty.desc.tag 9) (ob (ev x e) fun v=>some (.iface t v))
def zzm(f:Nat)(a b:Array Operand):LOp:=fun _ e _=>ob (evs a.toList e) fun a=>ob (evs b.toList e) fun b=>some (.func (.func f) a b)
structure LB where f:LOp
def lS(fn:Fn)(a b:Array Operand):LB:=
 match fn with
 | .func f=>⟨zzm f a b⟩
 | _=>⟨zi9⟩
def tR(t:Nat)(x:Operand)(lo hi:Option Operand):LOp:=fun C e H=>
 ob (ev x e) fun a=>ob (evo lo e) fun l=>ob (evo hi e) fun h=>ob (C.tys.get t) fun ty=>aK C H ty a l h
def lW(t:Nat)(x:Operand)(lo hi mx:Option Operand):LB:=
 match mx with
 | none=>⟨tR t x lo hi⟩
 | some _=>⟨zi9⟩
def yP(s:Nat)(x:Operand)(f:Nat):LOp:=fun C e _=>
 ob (C.tys.get s) fun ty=>ob ty.desc.asStruct fun fs=>ob (gC fs f) fun fd=>cA (!Nat.beq fd.2.2 0) (ob (ev x e) fun v=>ob v.asPtr fun p=>some (.ptr p.1 (p.2+fd.1)))
def kS(t:Nat)(x:Operand)(f:Nat):LOp:=fun C e _=>
 ob (C.tys.get t) fun ty=>ob ty.desc.asStruct fun fs=>ob (gC fs f) fun fd=>ob (ev x e) fun v=>ob v.asAgg fun l=>oL C fd.2.1 l fd.1
def aO(t:Nat)(x i:Operand):LOp:=fun C e _=>
 ob (C.tys.get t) fun ty=>ob (ev x e) fun v=>ob (ev i e) fun i=>ob i.asNat fun i=>
  match v.asSlice with
  | some s=>ob ty.desc.asSlice fun el=>ob (C.tys.get el) fun et=>cA (Nat.blt i s.2.2.1) (some (.ptr s.1 (s.2.1+i*et.size)))
  | none=>ob v.asPtr fun p=>ob ty.desc.asArr fun a=>ob (C.tys.get a.2) fun et=>cA (Nat.blt i a.1) (some (.ptr p.1 (p.2+i*et.size)))
def zP(t:Nat)(x i:Operand):LOp:=fun C e _=>
 ob (C.tys.get t) fun ty=>ob (ev x e) fun v=>ob (ev i e) fun i=>ob i.asNat fun i=>
  match v.asStr with
  | some s=>cA ty.desc.isString (ob (gC s i) fun b=>some (.int .u8 (.ofNat b)))
  | none=>ob v.asAgg fun l=>ob ty.desc.asArr fun a=>ob (C.tys.get a.2) fun et=>cA (Nat.blt i a.1) (oL C a.2 l (i*et.size))
def xP(t:Operand)(i:Nat):LOp:=fun _ e _=>ob (ev t e) fun v=>ob v.asTup fun l=>gC l i
def uQ(t:Nat)(parts:Array (Nat × Operand)):LOp:=fun C e _=>
 ob (C.tys.get t) fun ty=>ob (evp parts.toList e) fun ps=>
  match ty.desc.asStruct with
  | some fs=>ob (tM (fun i=>ob (gC fs i) fun x=>some (x.1,x.2.2)) ps ty.zero) fun l=>some (.agg l)
  | none=>ob ty.desc.asArr fun a=>ob (C.tys.get a.2) fun et=>ob (tM (fun i=>some (i*et.size,et.size)) ps ty.zero) fun l=>some (.agg l)
def wP(x:Operand)(asserted:Nat)(ok:Bool):LOp:=fun C e _=>
 ob (C.tys.get asserted) fun ty=>cA (Nat.blt ty.desc.tag 9) (ob (ev x e) fun v=>
  match v.asIface with
  | some p=>bif Nat.beq p.1 asserted then some (bif ok then .tup [p.2,.bool true]else p.2)else cA ok (some (.tup [gN ty,.bool false]))
  | none=>cA (Nat.beq v.tag 12&&ok) (some (.tup [gN ty,.bool false])))
def xN(H:xA)(v:zA):Option (List (zA × zA)):=
 match v.asMap with
 | some b=>bG H b
 | none=>cA (Nat.beq v.tag 7) (some [])
def cO(t:Nat)(x i:Operand)(ok:Bool):LOp:=fun C e H=>
 ob (C.tys.get t) fun ty=>ob ty.desc.asMap fun ke=>ob (C.tys.get ke.1) fun kty=>cA (wO C kty) (ob (C.tys.get ke.2) fun ety=>
  ob (ev x e) fun m=>ob (xN H m) fun es=>ob (ev i e) fun k=>cA (vM C kty k) (ob (pH k es) fun r=>
   match r with
   | some v=>some (bif ok then .tup [v,.bool true]else v)
   | none=>some (bif ok then .tup [gN ety,.bool false]else gN ety)))
def zvt (H:xA)(ty:tC)(v:zA):Option Nat:=
 match v.asStr with
 | some s=>cA ty.desc.isString (some (yB s))
 | none=>match v.asSlice with
  | some s=>cA (Nat.beq ty.desc.tag 4) (some s.2.2.1)
  | none=>match ty.desc.asArr with
   | some a=>some a.1
   | none=>match v.asMap with
    | some b=>cA (Nat.beq ty.desc.tag 6) (ob (bG H b) fun l=>some (yB l))
    | none=>cA ((Nat.beq ty.desc.tag 4&&Nat.beq v.tag 5)||(Nat.beq ty.desc.tag 6&&Nat.beq v.tag 7)) (some 0)
def zo3 (c:Call):LOp:=fun C e H=>
 ob (gC c.argTypes.toList 0) fun t=>ob (gC c.args.toList 0) fun x=>ob (C.tys.get t) fun ty=>ob (ev x e) fun v=>ob (zvt H ty v) fun n=>some (.int .i64 (.ofNat n))
def two (c:Call)(e:iC):Option (zA × zA):=
 match c.args.toList with
 | [x,y]=>ob (ev x e) fun a=>ob (ev y e) fun b=>some (a,b)
 | _=>none
def zzi (c:Call):LOp:=fun _ e _=>ob (two c e) fun p=>ob p.1.asIntK fun x=>ob p.2.asIntK fun y=>some (.int x.1 (bif bB x.2 y.2 then y.2 else x.2))
def zzg (c:Call):LOp:=fun _ e _=>ob (two c e) fun p=>ob p.1.asIntK fun x=>ob p.2.asIntK fun y=>some (.int x.1 (bif bB y.2 x.2 then y.2 else x.2))
def zcp(c:Call):Builtin->LB
 | .len=>⟨zo3 c⟩
 | .max=>⟨zzi c⟩
 | .min=>⟨zzg c⟩
 | _=>⟨zi9⟩
def uN(c:Call):Callee->LB
 | .builtin b=>zcp c b
 | _=>⟨zi9⟩
def zzaa(c:Call):LB:=uN c c.callee
def gE:Op->LB
 | .move x=>⟨dO x⟩
 | .assign x=>⟨dO x⟩
 | .pick c a b=>⟨zzd c a b⟩
 | .load t a=>⟨bO t a⟩
 | .nilCheck x=>⟨z41 x⟩
 | .binOp op t x y _=>⟨zzp op t x y⟩
 | .unOp op _ x=>⟨lUn op x⟩
 | .convert s d x=>⟨uL s d x⟩
 | .makeInterface t x=>⟨mS t x⟩
 | .makeFunc fn a b=>lS fn a b
 | .slice t x lo hi mx=>lW t x lo hi mx
 | .fieldAddr s x f=>⟨yP s x f⟩
 | .field t x f=>⟨kS t x f⟩
 | .indexAddr t x i=>⟨aO t x i⟩
 | .index t x i=>⟨zP t x i⟩
 | .extract t i=>⟨xP t i⟩
 | .build t ps=>⟨uQ t ps⟩
 | .typeAssert x _ u ok=>⟨wP x u ok⟩
 | .lookup t x i ok=>⟨cO t x i ok⟩
 | .call c=>zzaa c
 | _=>⟨zi9⟩
inductive aI where
 | val (v:zA) (H:xA)
 | enter (f:Nat) (args:List zA)
 | round (l:Nat) (args:List zA)
 | defer (d:sI)
 | panic (v:zA)
 | recover
 | fail
abbrev HOp:=oA->iC->xA->aI
structure HB where f:HOp
def iJ (x:Option (zA × xA)):aI:=
 match x with
 | some p=>.val p.1 p.2
 | none=>.fail
def z7c (x:Option aI):aI:=
 match x with
 | some r=>r
 | none=>.fail
def lv (f:LOp):HOp:=fun C e H=>
 match f C e H with
 | some v=>.val v H
 | none=>.fail
def newBlk(H:xA)(b:rA):xA:=⟨H.next+1,H.t.set H.next b⟩
def mE(H:xA)(l:List zA)(loose:Option Lo):xA:=newBlk H (.cells (Tr.ofList l) (yB l) loose)
def setBlk(H:xA)(b:Nat)(x:rA):xA:=⟨H.next,H.t.set b x⟩
def gJ (zero:List zA):Nat->List zA
 | 0=>[]
 | n+1=>xD zero (gJ zero n)
def nS(v:zA):Option Nat:=
 match v.asSlice with
 | some s=>some s.2.2.1
 | none=>match v.asStr with
  | some s=>some (yB s)
  | none=>cA (Nat.beq v.tag 5) (some 0)
def oP(l:List Nat):List zA:=l.map fun n=>zA.int .u8 (Int.ofNat n)
def sO(H:xA)(size n:Nat)(v:zA):Option (List zA):=
 match v.asSlice with
 | some s=>ob (vE H s.1) fun c=>c.1.many (n*size) s.2.1
 | none=>match v.asStr with
  | some s=>some (oP (zfr s n))
  | none=>cA (Nat.beq v.tag 5) (some [])
def eI(C:oA)(H:xA)(b off:Nat)(l:List zA):Option xA:=
 cA (!Nat.blt b C.base) (ob (vE H b) fun c=>
  cA (Nat.ble (off+yB l) c.2.1&&kB zA.one l) (some (setBlk H b (.cells (c.1.setMany l off) c.2.1 c.2.2))))
def sP(et:tC)(len cap n:Nat)(new:List zA):Bool:=
 Nat.blt (len+n+cap) 1000000000&&Nat.blt ((len+n+cap)*et.bytes) 1000000000&&Nat.blt et.bytes 1000000000 && !Nat.beq et.size 0&&Nat.beq (yB new) (n*et.size)&&Nat.beq (yB et.zero) et.size
def zz5(et:tC):Bool:=match et.desc with | .int .u8=>true | _=>false
def oI(e:Nat)(et:tC):Lo:=bif Nat.beq et.size 1&&zz5 et then .ty e else .sz et.size
def uM(H:xA)(e:Nat)(et:tC)(n:Nat)(new:List zA):Option (zA × xA):=
 bif Nat.beq n 0 then some (.nilslice,H)else
  cA (sP et 0 0 n new) (some (.slice H.next 0 n n,mE H new (some (oI e et))))
def dS(C:oA)(H:xA)(et:tC)(n:Nat)(new:List zA)(s:Nat × Nat × Nat × Nat):Option (zA × xA):=
 match new with
 | []=>some (.slice s.1 s.2.1 (s.2.2.1+n) s.2.2.2,H)
 | _::_=>ob (eI C H s.1 (s.2.1+s.2.2.1*et.size) new) fun H'=>some (.slice s.1 s.2.1 (s.2.2.1+n) s.2.2.2,H')
def qV(H:xA)(e:Nat)(et:tC)(n:Nat)(new:List zA)(s:Nat × Nat × Nat × Nat)(c:Tr zA):Option (zA × xA):=
 ob (c.many (s.2.2.1*et.size) s.2.1) fun old=>some (.slice H.next 0 (s.2.2.1+n) (s.2.2.1+n),mE H (xD old new) (some (oI e et)))
def pV(C:oA)(H:xA)(e:Nat)(et:tC)(n:Nat)(new:List zA)(s:Nat × Nat × Nat × Nat)(c:Tr zA)(m:Nat)(lo:Lo):Option (zA × xA):=
 cA (Nat.beq s.2.1 0&&loEq lo (oI e et)&&Nat.ble (s.2.2.1*et.size) m&&Nat.ble m ((s.2.2.1+n)*et.size)&&kB zA.one new && !Nat.blt s.1 C.base)
  (some (.slice H.next 0 (s.2.2.1+n) (s.2.2.1+n),⟨H.next+1,(H.t.del s.1).set H.next (.cells (c.setMany new (s.2.2.1*et.size)) ((s.2.2.1+n)*et.size) (some lo))⟩))
def rR(C:oA)(H:xA)(e:Nat)(et:tC)(n:Nat)(new:List zA)(s:Nat × Nat × Nat × Nat):Option (zA × xA):=
 cA (!(Nat.beq s.2.1 1&&Nat.beq s.2.2.2 0)) (cA (sP et s.2.2.1 s.2.2.2 n new) (ob (vE H s.1) fun c=>
  match c.2.2 with
  | none=>qV H e et n new s c.1
  | some lo=>pV C H e et n new s c.1 c.2.1 lo))
def kP(C:oA)(H:xA)(ty:tC)(s x:zA):Option (zA × xA):=
 ob ty.desc.asSlice fun e=>ob (C.tys.get e) fun et=>ob (nS x) fun n=>ob (sO H et.size n x) fun new=>
  match s.asSlice with
  | some s=>bif Nat.ble (s.2.2.1+n) s.2.2.2 then dS C H et n new s else rR C H e et n new s
  | none=>cA (Nat.beq s.tag 5) (uM H e et n new)
def isBld(C:oA)(t:Nat):Bool:=
 match ob (C.tys.get t) fun ty=>ob ty.desc.asStruct fun fs=>ob (gC fs 0) fun f=>ob (C.tys.get f.2.1) fun tf=>some tf.desc with
 | some (.ptr e)=>Nat.beq e t
 | _=>false
def rJ(C:oA)(t:Nat):Option Lo:=
 bif isBld C t then some (.ty t)else
 match ob (C.tys.get t) fun ty=>ob ty.desc.asStruct fun fs=>ob (gC fs 0) fun f=>some (isBld C f.2.1)with
 | some true=>some (.ty t)
 | _=>none
def eS(t:Nat):HOp:=fun C _ H=>iJ (ob (C.tys.get t) fun ty=>some (.ptr H.next 0,mE H ty.zero (rJ C t)))
def z5f (t:Nat)(x:Operand):HOp:=fun C e H=>iJ (ob (ev x e) fun v=>some (.ptr H.next 0,mE H v.cells (rJ C t)))
def z4p (C:oA):Op->Option Lo
 | .alloc t=>rJ C t
 | .box t _=>rJ C t
 | _=>none
def fS(t len:Nat)(parts:Array (Nat × Operand)):HOp:=fun C e H=>iJ (ob (C.tys.get t) fun ty=>ob ty.desc.asSlice fun el=>ob (C.tys.get el) fun et=>
 cA (Nat.blt (len*et.size) 1000000&&Nat.beq (yB et.zero) et.size) (ob (evp parts.toList e) fun ps=>ob (tM (fun i=>some (i*et.size,et.size)) ps (gJ et.zero len)) fun l=>some (.slice H.next 0 len len,mE H l none)))
def zl8(t:Nat)(a x:Operand):HOp:=fun C e H=>iJ (ob (C.tys.get t) fun ty=>ob (ev a e) fun a=>ob a.asPtr fun p=>ob (ev x e) fun v=>
 let l:=v.cells
 cA (Nat.beq (yB l) ty.size) (ob (eI C H p.1 p.2 l) fun H'=>some (nD,H')))
def eW(r:Option Operand):HOp:=fun _ _ H=>
 match r with
 | none=>.val (.map H.next) (newBlk H (.map []))
 | some _=>.fail
def gS(t:Nat)(m k x:Operand):HOp:=fun C e H=>iJ (ob (C.tys.get t) fun ty=>ob ty.desc.asMap fun ke=>ob (C.tys.get ke.1) fun kty=>cA (wO C kty)
 (ob (ev m e) fun m=>ob m.asMap fun b=>cA (!Nat.blt b C.base) (ob (bG H b) fun l=>ob (ev k e) fun k=>cA (vM C kty k) (ob (ev x e) fun v=>ob (nG k v l) fun l'=>some (nD,setBlk H b (.map l'))))))
def zbl(t:Nat)(l c:Operand):HOp:=fun C e H=>iJ (ob (C.tys.get t) fun ty=>ob ty.desc.asSlice fun el=>ob (C.tys.get el) fun et=>
 ob (ev l e) fun l=>ob l.asNat fun l=>ob (ev c e) fun c=>ob c.asNat fun c=>
  cA (Nat.ble l c&&Nat.blt c 1000000&&Nat.blt (c*et.bytes) 1000000000&&Nat.beq (yB et.zero) et.size) (some (.slice H.next 0 l c,mE H (gJ et.zero c) none)))
def rQ(s d:Nat)(x:Operand):HOp:=fun C e H=>
 match uL s d x C e H with
 | some v=>.val v H
 | none=>iJ (ob (C.tys.get s) fun _=>ob (C.tys.get d) fun ty=>ob ty.desc.asSlice fun el=>ob (C.tys.get el) fun et=>ob et.desc.asInt fun k=>cA (kEq k .u8) (ob (ev x e) fun v=>ob v.asStr fun l=>
   some (.slice H.next 0 (yB l) (yB l),mE H (oP l) (some (.ty el)))))
def z0f(x:Operand):HOp:=fun _ e _=>z7c (ob (ev x e) fun v=>ob v.asIface fun p=>some (.panic (.iface p.1 p.2)))
def jO(f:Operand)(args:Array Operand)(e:iC):Option (AFn × List zA × List zA):=
 ob (ev f e) fun v=>ob v.asFunc fun p=>ob (evs args.toList e) fun as=>some (p.1,xD p.2.1 as,p.2.2)
def zcs(c:Call):Callee->HB
 | .value f=>⟨fun _ e _=>z7c (ob (jO f c.args e) fun p=>some (.defer ⟨some p.1,0,xD p.2.1 p.2.2⟩))⟩
 | _=>⟨fun _ _ _=>.fail⟩
def hDefer(c:Call):HB:=zcs c c.callee
def xL(g:List zA->xA->Option zA):List zA->xA->Option (zA × xA):=fun args H=>ob (g args H) fun v=>some (v,H)
def zho(_:oA)(H:xA)(args:List zA)(f:Nat):Option (List zA->xA->Option (zA × xA))->aI
 | some g=>match g args H with
  | some p=>.val p.1 p.2
  | none=>.fail
 | none=>.enter f args
def zmv(l:Nat)(args:List zA):List zA->aI
 | []=>.round l args
 | _::_=>.fail
def zzbm(C:oA)(H:xA)(args cap:List zA):AFn->aI
 | .func f=>zho C H (xD args cap) f (C.prims.get f)
 | .yld l=>zmv l args cap
def zen(f:Operand)(args:Array Operand):HOp:=fun C e H=>z7c (ob (jO f args e) fun p=>some (zzbm C H p.2.1 p.2.2 p.1))
def zbn(c:Call):HOp:=fun C e H=>iJ (ob (gC c.argTypes.toList 0) fun t=>ob (C.tys.get t) fun ty=>ob (gC c.argTypes.toList 1) fun u=>ob (C.tys.get u) fun uty=>
 cA (!Nat.beq uty.desc.tag 1) (ob (two c e) fun p=>kP C H ty p.1 p.2))
def zzat:HOp:=fun _ _ _=>.fail
def z5d:HOp:=fun _ _ _=>.recover
def z5e(c:Call):Builtin->HB
 | .append=>⟨zbn c⟩
 | .len=>⟨lv (zo3 c)⟩
 | .max=>⟨lv (zzi c)⟩
 | .min=>⟨lv (zzg c)⟩
 | .recover=>⟨z5d⟩
 | _=>⟨zzat⟩
def zbm(c:Call):Callee->HB
 | .value f=>⟨zen f c.args⟩
 | .builtin b=>z5e c b
 | _=>⟨zzat⟩
def hCall(c:Call):HB:=zbm c c.callee
def lvB (b:LB):HB:=⟨lv b.f⟩
def sF:Op->HB
 | .move x=>⟨lv (dO x)⟩
 | .assign x=>⟨lv (dO x)⟩
 | .pick c a b=>⟨lv (zzd c a b)⟩
 | .load t a=>⟨lv (bO t a)⟩
 | .nilCheck x=>⟨lv (z41 x)⟩
 | .binOp op t x y _=>⟨lv (zzp op t x y)⟩
 | .unOp op _ x=>⟨lv (lUn op x)⟩
 | .makeInterface t x=>⟨lv (mS t x)⟩
 | .makeFunc fn a b=>lvB (lS fn a b)
 | .slice t x lo hi mx=>lvB (lW t x lo hi mx)
 | .fieldAddr s x f=>⟨lv (yP s x f)⟩
 | .field t x f=>⟨lv (kS t x f)⟩
 | .indexAddr t x i=>⟨lv (aO t x i)⟩
 | .index t x i=>⟨lv (zP t x i)⟩
 | .extract t i=>⟨lv (xP t i)⟩
 | .build t ps=>⟨lv (uQ t ps)⟩
 | .typeAssert x _ u ok=>⟨lv (wP x u ok)⟩
 | .lookup t x i ok=>⟨lv (cO t x i ok)⟩
 | .convert s d x=>⟨rQ s d x⟩
 | .alloc t=>⟨eS t⟩
 | .box t x=>⟨z5f t x⟩
 | .buildSlice t len ps=>⟨fS t len ps⟩
 | .store t a x=>⟨zl8 t a x⟩
 | .makeMap _ r=>⟨eW r⟩
 | .insert t m k x=>⟨gS t m k x⟩
 | .mapUpdate t m k x=>⟨gS t m k x⟩
 | .makeSlice t l c=>⟨zbl t l c⟩
 | .panic x=>⟨z0f x⟩
 | .defer c=>hDefer c
 | .call c=>hCall c
 | _=>⟨zzat⟩
structure GB where f:Tm->Option Bool
def z8s(_:Tm):Option Bool:=some true
def zj5(d:Option Nat)(w:Bool)(tm:Tm):Option Bool:=
 ob d fun d=>ob (tm.get d) fun v=>match v.asBool with
  | some b=>some (bEq b w)
  | none=>some false
def zv3(g:Option (Nat × Bool))(all:Array Oper):GB:=
 match g with
 | none=>⟨z8s⟩
 | some jw=>⟨zj5 (ob (gC all.toList jw.1) fun o=>o.dst) jw.2⟩
def eE(g:Option (Nat × Bool))(all:Array Oper)(tm:Tm):Option Bool:=(zv3 g all).f tm
structure PB where f:Nat->Tm->zA->Tm
def z34(d n:Nat)(tm:Tm)(v:zA):Tm:=bif Nat.blt d n then tm.set d v else tm
def putNo(_:Nat)(tm:Tm)(_:zA):Tm:=tm
def putB (dst:Option Nat):PB:=
 match dst with
 | some d=>⟨z34 d⟩
 | none=>⟨putNo⟩
def putA (n:Nat)(tm:Tm)(dst:Option Nat)(v:zA):Tm:=(putB dst).f n tm v
def zfw.running:zfw->Bool | .run=>true | _=>false
def fD.blockId:fD->Option Nat | .inBlock id=>some id | _=>none
def eK(id:Nat):List fD->Option (List fD)
 | []=>none
 | x::k=>match x.blockId with
  | some i=>bif Nat.beq i id then some k else eK id k
  | none=>eK id k
def z8e(all:Array Oper)(rest:List Oper)(k:List fD)(tm:Tm)(R:nI)(v:zA):Option xC:=
 match rest with
 | o::rest=>some ⟨.ops all rest::k,putA R.n tm o.dst v,R⟩
 | []=>none
def z0q(all:Array Oper)(old:Tm)(olds:List (Nat × List Nat))(stages:List pE)(k:List fD)(tm:Tm)(R:nI)(v:zA):Option xC:=
 match stages with
 | st::stages=>ob (gC all.toList st.heavy) fun o=>some ⟨.reg all old olds (⟨all.size,st.lights,st.again⟩::stages)::k,putA R.n tm o.dst v,R⟩
 | []=>none
def z5p(l:Nat)(k:List fD)(tm:Tm)(R:nI)(_:zA):Option xC:=some ⟨.endRange l::k,tm,R⟩
def z5q(k:List fD)(tm:Tm)(R:nI)(_:zA):Option xC:=some ⟨k,tm,R⟩
def zzay(_:List fD)(_:Tm)(_:nI)(_:zA):Option xC:=none
def zjm:fD->List fD->Tm->nI->zA->Option xC
 | .ops all rest=>z8e all rest
 | .reg all old olds stages=>z0q all old olds stages
 | .inRange l=>z5p l
 | .beginRound=>z5q
 | _=>zzay
def gG(fr:xC)(v:zA):Option xC:=
 match fr.todo with
 | []=>none
 | x::k=>bif fr.R.mode.running then zjm x k fr.tm fr.R v else none
def cJ(C:oA)(f:Nat)(args:List zA)(deferred:Bool):Option xC:=
 ob (C.fns.get f) fun fn=>ob fn.body fun c=>ob (C.ks.get f) fun k=>cA (Nat.ble (yB args) k&&Nat.ble (yB args) fn.ntmps) (some ⟨[.code c],⟨k,Tr.ofList args,[]⟩,⟨f,fn.ntmps,[],.run,deferred,none⟩⟩)
def aQ(n:Nat):List Nat->List zA->Tm->Option (Tm)
 | [],[],tm=>some tm
 | p::ps,a::as,tm=>aQ n ps as (putA n tm (some p) a)
 | _,_,_=>none
def zwp:List Operand->List Nat
 | []=>[]
 | .tmp t::l=>t::zwp l
 | _::l=>zwp l
def zG(o:Op):List Nat:=zwp o.operands.toList
def aD(i:Nat):List (Nat × List Nat)->List Nat
 | []=>[]
 | x::r=>bif Nat.beq i x.1 then x.2 else aD i r
def same:Nat->zA->zA->Bool
 | _,.bool a,.bool b=>bEq a b
 | _,.int j a,.int k b=>kEq j k&&jA a b
 | _,.str a,.str b=>wE a b
 | _,.nilptr,.nilptr=>true
 | _,.ptr a b,.ptr c d=>Nat.beq a c&&Nat.beq b d
 | _,.nilslice,.nilslice=>true
 | _,.slice a b c d,.slice e f g h=>Nat.beq a e&&Nat.beq b f&&Nat.beq c g&&Nat.beq d h
 | _,.nilmap,.nilmap=>true
 | _,.map a,.map b=>Nat.beq a b
 | _,.nilfunc,.nilfunc=>true
 | _,.niliface,.niliface=>true
 | d+1,.agg a,.agg b=>sames d a b
 | d+1,.tup a,.tup b=>sames d a b
 | _,_,_=>false
where
 sames (d:Nat):List zA->List zA->Bool
  | [],[]=>true
  | a::x,b::y=>same d a b&&sames d x y
  | _,_=>false
def yM(C:oA)(H:xA)(all:Array Oper)(n:Nat)(old:Tm)(olds:List (Nat × List Nat)):List Nat->Tm->Option (Tm)
 | [],tm=>some tm
 | i::l,tm=>ob (gC all.toList i) fun o=>ob (eE o.guard all tm) fun w=>ob (bif w then(gE o.op).f C (.mixed tm old (aD i olds) (zG o.op)) H else some nD) fun v=>
   yM C H all n old olds l (putA n tm o.dst v)
def vT(C:oA)(H:xA)(all:Array Oper)(old:Tm)(olds:List (Nat × List Nat))(tm:Tm):List Nat->Bool
 | []=>true
 | i::l=>match (ob (gC all.toList i) fun o=>ob o.dst fun d=>ob (eE o.guard all tm) fun w=>bif w then(ob ((gE o.op).f C (.mixed tm old (aD i olds) (zG o.op)) H) fun v=>ob (tm.get d) fun u=>some (same 10 v u))else some true)with
  | some true=>vT C H all old olds tm l
  | _=>false
def zfw.chain:zfw->Option (List zca) | .panicking c=>some c | _=>none
def zhh:List Oper->Tr zA->Tr zA
 | [],t=>t
 | o::l,t=>match o.dst with
  | some j=>zhh l (t.del j)
  | none=>zhh l t
def zlu(todo:List fD)(tm:Tm):Tm:=
 match todo with
 | .reg all _ _ _::_=>⟨tm.k,zhh all.toList tm.v,[]⟩
 | _=>tm
def zrc(fr:xC)(l:List zca):xC:=
 ⟨[],zlu fr.todo fr.tm,⟨fr.R.fn,fr.R.n,fr.R.defers,.panicking (match fr.R.mode.chain with | some c=>xD l c | none=>l),fr.R.deferred,fr.R.roundOf⟩⟩
def wJ(x:Option lM)(why:Nat):rE:=
 match x with
 | some s=>.next s
 | none=>.fail why
def jI(H:xA)(l:Nat):Option gL:=cA (Nat.ble (nat_lit 256) l) (ob (H.t.get l) rA.asLoop)
def oQ(H:xA)(l:Nat):Option (Option (List sI)):=cA (Nat.ble (nat_lit 256) l) (ob (H.t.get l) rA.asDeferred)
def z9l (v:zA)(H':xA)(_:oA)(fr:xC)(cs:List xC)(_:xA):rE:=wJ (ob (gG fr v) fun fr=>some ⟨fr,cs,H'⟩) 1
def zk1(f:Nat)(args:List zA)(C:oA)(fr:xC)(cs:List xC)(H:xA):rE:=wJ (ob (cJ C f args false) fun g=>some ⟨g,fr::cs,H⟩) 2
def zk0(l:Nat)(args:List zA)(_:oA)(fr:xC)(cs:List xC)(H:xA):rE:=
 wJ (ob (jI H l) fun r=>ob (aQ r.n r.params args r.tm) fun tm=>some ⟨⟨[.code r.assign,.beginRound,.code r.body],tm,⟨r.fn,r.n,[],.run,false,some l⟩⟩,fr::cs,H⟩) 3
def zx7(d:sI)(_:oA)(fr:xC)(cs:List xC)(H:xA):rE:=
 wJ (match fr.R.roundOf with
  | none=>ob (gG fr nD) fun g=>some ⟨⟨g.todo,g.tm,⟨g.R.fn,g.R.n,d::g.R.defers,g.R.mode,g.R.deferred,g.R.roundOf⟩⟩,cs,H⟩
  | some _=>none) 4
def z7f(v:zA)(_:oA)(fr:xC)(cs:List xC)(H:xA):rE:=.next ⟨zrc fr [⟨v,false⟩],cs,H⟩
def zim(_:oA)(fr:xC)(cs:List xC)(H:xA):rE:=
 wJ (match fr.R.roundOf,fr.R.deferred,cs with
  | none,true,c::rest=>match c.R.mode with
   | .panicking (⟨v,false⟩::older)=>ob (gG fr v) fun fr=>some ⟨fr,⟨c.todo,c.tm,⟨c.R.fn,c.R.n,c.R.defers,.panicking (⟨v,true⟩::older),c.R.deferred,c.R.roundOf⟩⟩::rest,H⟩
   | .panicking _=>none
   | _=>ob (gG fr .niliface) fun fr=>some ⟨fr,cs,H⟩
  | _,_,_=>none) 5
def rFail(_:oA)(_:xC)(_:List xC)(_:xA):rE:=.fail 6
def zbs:aI->oA->xC->List xC->xA->rE
 | .val v H'=>z9l v H'
 | .enter f args=>zk1 f args
 | .round l args=>zk0 l args
 | .defer d=>zx7 d
 | .panic v=>z7f v
 | .recover=>zim
 | .fail=>rFail
def rS(C:oA)(H:xA)(tm:Tm):ResultVar->Option zA
 | .tmp t=>tm.get t
 | .cell a t=>ob (ob (tm.get a) zA.asPtr) fun p=>ob (C.tys.get t) fun ty=>ob (vE H p.1) fun c=>wN ty c.1 p.2
def yR(C:oA)(H:xA)(tm:Tm)(l:List ResultVar):Option (List zA):=uG (rS C H tm) l
def zxt(jump:Option Code):Bool:=
 match jump with
 | none=>true
 | some .ret=>true
 | _=>false
def zdj(fr:xC)(m:zfw):xC:=⟨fr.todo,fr.tm,⟨fr.R.fn,fr.R.n,fr.R.defers,m,fr.R.deferred,fr.R.roundOf⟩⟩
def vN(jump:Option Code)(_:oA)(fr:xC)(cs:List xC)(H:xA):rE:=
 wJ (match fr.R.roundOf with
  | none=>cA (zxt jump) (some ⟨zdj fr .returning,cs,H⟩)
  | some l=>ob (jI H l) fun r=>match cs with
   | c::rest=>cA (!fr.R.deferred) <| ob (gG c (.bool jump.isNone)) fun c=>some ⟨c,rest,setBlk H l (.loop ⟨if jump.isNone then .ready else .done,jump,r.fn,r.n,r.tm,r.params,r.assign,r.body,r.defers⟩)⟩
   | []=>none) 7
abbrev yK:=oA->List fD->Tm->nI->List xC->xA->rE
structure XB where f:yK
def xGo (todo:List fD)(tm:Tm)(R:nI)(cs:List xC)(H:xA):rE:=.next ⟨⟨todo,tm,R⟩,cs,H⟩
def znl:yK:=fun _ k tm R cs H=>xGo k tm R cs H
def zvz(c:Operand)(x y:Code):yK:=fun _ k tm R cs H=>
 match ob (ev c (.now tm)) zA.asBool with
 | some b=>xGo (.code (bif b then x else y)::k) tm R cs H
 | none=>.fail 8
def z6t(id:Nat)(c:Code):yK:=fun _ k tm R cs H=>xGo (.code c::.inBlock id::k) tm R cs H
def z8o(c:Code):yK:=fun _ k tm R cs H=>xGo (.code c::.inLoop c::k) tm R cs H
def xScope(c:Code):yK:=fun _ k tm R cs H=>xGo (.code c::.inScope c::k) tm R cs H
def zj3(id:Nat):yK:=fun C k tm R cs H=>
 match eK id k with
 | some k'=>xGo k' tm R cs H
 | none=>vN (some (.exit id)) C ⟨.code (.exit id)::k,tm,R⟩ cs H
def xRet:yK:=fun C k tm R cs H=>vN (some .ret) C ⟨.code .ret::k,tm,R⟩ cs H
def z8p:yK:=fun _ _ _ _ _ _=>.fail 9
def yT(e:Edge):Bool:=
 match e.ground with
 | .textOnly _=>false
 | .gcOnly _=>false
 | _=>true
def tb (m i:Nat):Bool:=Nat.beq (Nat.mod (Nat.shiftRight m i) (nat_lit 2)) (nat_lit 1)
def zjx(i:Nat):Nat:=Nat.shiftLeft (nat_lit 1) i
def eH (t:Tr Nat)(i:Nat):Nat:=
 match t.get i with
 | some m=>m
 | none=>0
def zg1(t:Tr Nat):List Edge->Nat
 | []=>0
 | e::l=>bif yT e then Nat.lor (Nat.lor (zjx e.on) (eH t e.on)) (zg1 t l)else zg1 t l
def zzbq:List Oper->Nat->Tr Nat->Tr Nat
 | [],_,t=>t
 | o::r,i,t=>zzbq r (i+1) (t.set i (zg1 t o.after.toList))
def zro:List Oper->Nat->Bool
 | [],_=>true
 | o::r,i=>bif kB (fun e=>bif yT e then Nat.blt e.on i else true) o.after.toList then zro r (i+1)else false
def wrOf:List Oper->Nat->Tr Nat->Option (Tr Nat)
 | [],_,t=>some t
 | o::r,i,t=>match o.dst with
  | none=>wrOf r (i+1) t
  | some d=>match t.get d with
   | none=>wrOf r (i+1) (t.set d i)
   | some _=>none
def qH{α:Type}:Option α->Bool | none=>true | some _=>false
def zyo(wr anc:Tr Nat)(i:Nat)(olds:List Nat)(t:Nat):Bool:=
 match wr.get t with
 | none=>true
 | some j=>bif aE t olds then(bif Nat.beq j i then true else tb (eH anc j) i)else tb (eH anc i) j
def zor(anc:Nat):Option (Nat × Bool)->Bool
 | none=>true
 | some g=>tb anc g.1
def z4f(wr anc:Tr Nat)(olds:List (Nat × List Nat)):List Oper->Nat->Bool
 | [],_=>true
 | o::r,i=>bif zor (eH anc i) o.guard then(bif kB (zyo wr anc i (aD i olds)) (zG o.op)then z4f wr anc olds r (i+1)else false)else false
def bN:Op->Bool
 | .move _=>true
 | .assign _=>true
 | .pick _ _ _=>true
 | .nilCheck _=>true
 | .binOp _ _ _ _ _=>true
 | .unOp _ _ _=>true
 | .makeInterface _ _=>true
 | .makeFunc _ _ _=>true
 | .fieldAddr _ _ _=>true
 | .field _ _ _=>true
 | .indexAddr _ _ _=>true
 | .index _ _ _=>true
 | .extract _ _=>true
 | .build _ _=>true
 | .typeAssert _ _ _ _=>true
 | _=>false
def z21 (D:Nat)(o:Oper):Bool:=kB (fun e=>bif yT e then tb D e.on else true) o.after.toList
def zrn(h D:Nat):List Oper->Nat->Bool
 | [],_=>true
 | o::r,i=>bif (bif tb D i then true else bif Nat.beq i h then true else !z21 D o)then zrn h D r (i+1)else false
def dI:Op->Bool
 | .alloc _=>true
 | .box _ _=>true
 | .buildSlice _ _ _=>true
 | _=>false
def ziv(m D:Nat)(again:List Nat):List Oper->Nat->Bool
 | [],_=>true
 | o::r,i=>bif (bif tb D i then(bif tb m i then true else bif bN o.op then true else bif dI o.op then true else aE i again)else true)then ziv m D again r (i+1)else false
def yQ(ops:List Oper)(i D:Nat):Option Nat:=
 ob (gC ops i) fun o=>cA (bif tb D i then false else z21 D o) (some (Nat.lor D (zjx i)))
def wL(ops:List Oper):List Nat->Nat->Option Nat
 | [],D=>some D
 | i::l,D=>ob (yQ ops i D) fun D=>wL ops l D
def z4h(D:Nat):List Oper->Nat->Bool
 | [],_=>true
 | _::r,i=>bif tb D i then z4h D r (i+1)else false
def zzam:Option Oper->Bool
 | some o=>dI o.op
 | none=>false
def okG (ops:List Oper)(D:Nat):List Nat->Nat->Option Nat
 | [],E=>some E
 | i::l,E=>ob (gC ops i) fun o=>cA (!tb E i&&z21 D o&&qH o.dst) (okG ops D l (Nat.lor E (zjx i)))
def zrm(anc:Tr Nat)(D1:Nat)(G:List Nat):List Oper->Nat->Bool
 | [],_=>true
 | o::r,i=>bif (bif tb D1 i then true else bif kB (fun g=>tb (eH anc i) g) G then true else !z21 D1 o)then zrm anc D1 G r (i+1)else false
def zl4(o:Op):Bool:=
 match o with
 | .call c=>(match c.callee with
  | .builtin .len=>true
  | _=>false)
 | _=>false
def zcm(anc:Tr Nat)(D:Nat)(G:List Nat):List Oper->Nat->Bool
 | [],_=>true
 | o::r,i=>bif (bif tb D i then(bif bN o.op then true else bif dI o.op then true else bif zl4 o.op then true else kB (fun g=>tb (eH anc g) i) G)else true)then zcm anc D G r (i+1)else false
def zyp(ops:List Oper)(anc:Tr Nat)(D:Nat)(st:pE):Option Nat:=
 ob (okG ops D st.again D) fun D1=>cA (zrm anc D1 st.again ops 0&&zcm anc D st.again ops 0) (wL ops st.lights D1)
def zI(ops:List Oper)(anc:Tr Nat):List pE->Nat->Bool
 | [],D=>z4h D ops 0
 | st::r,D=>bif Nat.blt (yB ops) st.heavy then(bif Nat.blt (yB ops+yB ops) st.heavy then(match zyp ops anc D st with
   | some D=>zI ops anc r D
   | none=>false)else bif zzam (gC ops (Nat.sub st.heavy (Nat.succ (yB ops))))then
   (match ob (yQ ops (Nat.sub st.heavy (Nat.succ (yB ops))) D) fun D=>wL ops st.lights D with
   | some D=>zI ops anc r D
   | none=>false)else false)else bif zrn st.heavy D ops 0 then(bif ziv (eH anc st.heavy) D st.again ops 0 then
   (match ob (yQ ops st.heavy D) fun D=>wL ops st.lights D with
   | some D=>zI ops anc r D
   | none=>false)else false)else false
def zoq(ops:List Oper)(p:Plan):Bool:=
 bif zro ops 0 then
  (match wrOf ops 0 .leaf with
  | none=>false
  | some wr=>
   (fun anc=>bif z4f wr anc p.olds ops 0 then(match wL ops p.first 0 with
    | some D=>zI ops anc p.stages D
    | none=>false)else false) (zzbq ops 0 .leaf))else false
structure OkB where b:Bool
def yO(all:Array Oper)(p:Plan):Bool:=(OkB.mk (zoq all.toList p)).b
def zvy(id:Nat)(all:Array Oper):yK:=fun C k tm R cs H=>
 wJ (ob (ob (C.plans.get R.fn) fun t=>t.get id) fun p=>cA (yO all p) <| ob (yM C H all R.n tm.cut p.olds p.first tm.cut) fun tm'=>some ⟨⟨.reg all tm.cut p.olds p.stages::k,tm',R⟩,cs,H⟩) 10
def aI.asVal:aI->Option (zA × xA) | .val v H=>some (v,H) | _=>none
def kO(C:oA)(all:Array Oper)(k:List fD)(R:nI)(cs:List xC)(l:List Oper):Tm->xA->rE:=
 List.rec (motive:=fun _=>Tm->xA->rE) (fun tm H=>xGo k tm R cs H)
  (fun o rest g tm H=>
   match eE o.guard all tm with
   | some w=>Bool.rec (motive:=fun _=>rE) (g (putA R.n tm o.dst nD) H)
     (let r:=(sF o.op).f C (.now tm) H
     match r.asVal with
     | some p=>g (putA R.n tm o.dst p.1) p.2
     | none=>zbs r C ⟨.ops all (o::rest)::k,tm,R⟩ cs H) w
   | none=>.fail 20) l
def xOps (all:Array Oper)(rest:List Oper):yK:=fun C k tm R cs H=>kO C all k R cs rest tm H
def z8n(id:Nat)(all:Array Oper)(draw:Bool):XB:=
 match draw with
 | true=>⟨zvy id all⟩
 | false=>⟨fun C k tm R cs H=>kO C all k R cs all.toList tm.cut H⟩
def zqi(all:Array Oper)(old:Tm)(olds:List (Nat × List Nat))(st:pE)(stages:List pE)(o:Oper):yK:=fun C k tm R cs H=>
 match eE o.guard all tm with
 | some w=>zbs (bif w then(sF o.op).f C (.mixed tm old (aD st.heavy olds) (zG o.op)) H else .val nD H) C ⟨.reg all old olds (st::stages)::k,tm,R⟩ cs H
 | none=>.fail 21
def zc0(all:Array Oper)(old:Tm)(olds:List (Nat × List Nat))(st:pE)(stages:List pE):yK:=fun C k tm R cs H=>
 wJ (cA (vT C H all old olds tm st.again) (ob (yM C H all R.n old olds st.lights tm) fun tm=>some ⟨⟨.reg all old olds stages::k,tm,R⟩,cs,H⟩)) 11
def zqk(all:Array Oper)(old:Tm)(olds:List (Nat × List Nat))(st:pE)(stages:List pE)(i:Nat):yK:=fun C k tm R cs H=>
 wJ (ob (gC all.toList i) fun o=>ob (eE o.guard all tm) fun w=>cA (w&&qH (z4p C o.op)) (ob ((sF o.op).f C (.mixed tm old (aD i olds) (zG o.op)) H).asVal fun p=>
  ob (yM C p.2 all R.n old olds st.lights (putA R.n tm o.dst p.1)) fun tm'=>some ⟨⟨.reg all old olds stages::k,tm',R⟩,cs,p.2⟩)) 23
inductive Eff where
 | store (t:Nat) (a v:zA)
 | upd (t:Nat) (m k v:zA)
inductive RE where
 | st (b off:Nat) (l:List zA)
 | up (b:Nat) (k v:zA)
def qP(op:Op)(e:iC):Option Eff:=
 match op with
 | .store t a x=>ob (ev a e) fun a=>ob (ev x e) fun v=>some (.store t a v)
 | .mapUpdate t m k x=>ob (ev m e) fun m=>ob (ev k e) fun k=>ob (ev x e) fun v=>some (.upd t m k v)
 | .insert t m k x=>ob (ev m e) fun m=>ob (ev k e) fun k=>ob (ev x e) fun v=>some (.upd t m k v)
 | _=>none
def zq7 (C:oA)(e:Eff):Option RE:=
 match e with
 | .store t a v=>ob (C.tys.get t) fun ty=>ob a.asPtr fun p=>cA (Nat.beq (yB v.cells) ty.size) (some (.st p.1 p.2 v.cells))
 | .upd t m k v=>ob (C.tys.get t) fun ty=>ob ty.desc.asMap fun ke=>ob (C.tys.get ke.1) fun kty=>cA (wO C kty&&vM C kty k) (ob m.asMap fun b=>some (.up b k v))
def RE.blk:RE->Nat
 | .st b _ _=>b
 | .up b _ _=>b
def ziy(a b:zA):Bool:=
 match xG a b with
 | some r => !r
 | none=>false
def z15(a b:RE):Bool:=bif Nat.beq a.blk b.blk then(match a with
 | .st _ _ _=>false
 | .up _ k _=>(match b with
  | .st _ _ _=>false
  | .up _ k' _=>ziy k k'))else true
def zhs:List RE->Bool
 | []=>true
 | a::l=>kB (z15 a) l&&zhs l
def mQ(C:oA)(H:xA)(e:RE):Option xA:=
 match e with
 | .st b off l=>eI C H b off l
 | .up b k v=>cA (!Nat.blt b C.base) (ob (bG H b) fun m=>some (setBlk H b (.map (xD m [(k,v)]))))
def zdp(C:oA)(H:xA)(e:RE):Bool:=
 match e with
 | .st b off l => !qH (eI C H b off l)
 | .up b _ _ => !Nat.blt b C.base&&(match bG H b with
  | some []=>true
  | _=>false)
def eR(C:oA):List RE->xA->Option xA
 | [],H=>some H
 | e::l,H=>ob (mQ C H e) fun H=>eR C l H
def qQ(C:oA)(es:List Eff)(H:xA):Option xA:=ob (uG (zq7 C) es) fun rs=>cA (zhs rs&&kB (zdp C H) rs) (eR C rs H)
def zfu(all:Array Oper)(old:Tm)(olds:List (Nat × List Nat))(tm:Tm)(i:Nat):Option Eff:=
 ob (gC all.toList i) fun o=>ob (eE o.guard all tm) fun w=>cA w (qP o.op (.mixed tm old (aD i olds) (zG o.op)))
def zrs(C:oA)(o:Oper):Bool:=
 match o.op with
 | .call c=>(match c.callee with
  | .builtin .len=>(match ob (gC c.argTypes.toList 0) fun t=>C.tys.get t with
   | some ty => !Nat.beq ty.desc.tag 6
   | none=>false)
  | _=>true)
 | _=>true
def wQ(C:oA)(all:Array Oper):Bool:=kB (zrs C) all.toList
def zu0(all:Array Oper)(old:Tm)(olds:List (Nat × List Nat))(tm:Tm)(l:List Nat):Option (List Eff):=uG (zfu all old olds tm) l
def zqj(all:Array Oper)(old:Tm)(olds:List (Nat × List Nat))(st:pE)(stages:List pE):yK:=fun C k tm R cs H=>
 wJ (cA (wQ C all) (ob (zu0 all old olds tm st.again) fun es=>ob (qQ C es H) fun H'=>ob (yM C H' all R.n old olds st.lights tm) fun tm'=>some ⟨⟨.reg all old olds stages::k,tm',R⟩,cs,H'⟩)) 24
def zs7 (all:Array Oper)(old:Tm)(olds:List (Nat × List Nat))(stages:List pE):yK:=
 match stages with
 | []=>znl
 | st::stages=>match gC all.toList st.heavy with
  | some o=>zqi all old olds st stages o
  | none=>bif Nat.blt (yB all.toList) st.heavy then(bif Nat.blt (yB all.toList+yB all.toList) st.heavy then zqj all old olds st stages else zqk all old olds st stages (Nat.sub st.heavy (Nat.succ (yB all.toList))))else zc0 all old olds st stages
def wR(C:oA)(l:Nat)(f:zA):Option xC:=
 ob f.asFunc fun p=>match p.1 with
  | .func g=>match C.prims.get g with
   | none=>cJ C g (xD p.2.1 (.func (.yld l) [] []::p.2.2)) false
   | some _=>none
  | .yld _=>none
def zj2(f:Operand)(params:Array Nat)(assign body:Code):yK:=fun C k tm R cs H=>
 wJ (ob (ev f (.now tm)) fun v=>match R.roundOf with
  | none=>
   let r:=H.next
   let l:=r+1
   ob (wR C l v) fun h=>
    some ⟨h,⟨.inRange l::k,tm,⟨R.fn,R.n,⟨none,r,[]⟩::R.defers,R.mode,R.deferred,R.roundOf⟩⟩::cs,
     newBlk (newBlk H (.deferred (some []))) (.loop ⟨.ready,none,R.fn,R.n,tm,params.toList,assign,body,r⟩)⟩
  | some outer=>ob (jI H outer) fun o=>
   let l:=H.next
   ob (wR C l v) fun h=>
    some ⟨h,⟨.inRange l::k,tm,R⟩::cs,newBlk H (.loop ⟨.ready,none,R.fn,R.n,tm,params.toList,assign,body,o.defers⟩)⟩) 12
def LoopState.tag:LoopState->Nat | .ready=>0 | .busy=>1 | .done=>2 | .exhausted=>3
def zj4:yK:=fun _ k tm R cs H=>
 wJ (ob R.roundOf fun l=>ob (jI H l) fun r=>cA (Nat.beq (LoopState.tag r.state) 0)
  (some ⟨⟨k,tm,R⟩,cs,setBlk H l (.loop ⟨.busy,r.pending,r.fn,r.n,r.tm,r.params,r.assign,r.body,r.defers⟩)⟩)) 13
def iV(l:Nat):yK:=fun _ k tm R cs H=>
 wJ (ob (jI H l) fun r=>cA (!Nat.beq (LoopState.tag r.state) 1)
  (some ⟨⟨(match r.pending with | some c=>.code c::k | none=>k),tm,R⟩,cs,setBlk H l (.loop ⟨.exhausted,r.pending,r.fn,r.n,r.tm,r.params,r.assign,r.body,r.defers⟩)⟩)) 14
def z8q:Code->XB
 | .skip=>⟨znl⟩
 | .region id ops d=>z8n id ops d
 | .seq a b=>⟨fun C k tm R cs H=>(z8q a).f C (.code b::k) tm R cs H⟩
 | .cond c x y=>⟨zvz c x y⟩
 | .block id c=>⟨z6t id c⟩
 | .loop c=>⟨z8o c⟩
 | .rangeFunc f ps a b=>⟨zj2 f ps a b⟩
 | .exit id=>⟨zj3 id⟩
 | .scope c=>⟨xScope c⟩
 | .label _=>⟨znl⟩
 | .goto _=>⟨z8p⟩
 | .ret=>⟨xRet⟩
 | .refuse _=>⟨z8p⟩
def xItem:fD->XB
 | .code c=>z8q c
 | .inBlock _=>⟨znl⟩
 | .inLoop c=>⟨z8o c⟩
 | .inScope _=>⟨znl⟩
 | .ops all rest=>⟨xOps all rest⟩
 | .reg all old olds stages=>⟨zs7 all old olds stages⟩
 | .inRange _=>⟨z8p⟩
 | .endRange l=>⟨iV l⟩
 | .beginRound=>⟨zj4⟩
def sM(C:oA)(todo:List fD)(tm:Tm)(R:nI)(cs:List xC)(H:xA):rE:=
 match todo with
 | []=>vN none C ⟨[],tm,R⟩ cs H
 | x::k=>(xItem x).f C k tm R cs H
def zkq(fr:xC)(d:List sI):xC:=⟨fr.todo,fr.tm,⟨fr.R.fn,fr.R.n,d,fr.R.mode,fr.R.deferred,fr.R.roundOf⟩⟩
def zkf(C:oA)(d:sI)(ds:List sI)(fr:xC)(cs:List xC)(H:xA):rE:=
 wJ (match d.fn with
  | none=>ob (oQ H d.r) fun l=>ob l fun l=>some ⟨zkq fr (xD l ds),cs,setBlk H d.r (.deferred none)⟩
  | some (.func f)=>match C.prims.get f with
   | none=>ob (cJ C f d.args true) fun g=>some ⟨g,zkq fr ds::cs,H⟩
   | some _=>none
  | some (.yld _)=>none) 15
def jT(l:List zA):zA:=
 match l with
 | [v]=>v
 | l=>.tup l
def zc6(C:oA)(fr:xC)(cs:List xC)(H:xA):rE:=
 match ob (C.fns.get fr.R.fn) fun fn=>yR C H fr.tm fn.results.toList with
 | none=>.fail 16
 | some l=>
  match cs with
  | []=>bif fr.R.deferred then .fail 17 else bif Nat.beq fr.R.fn C.root then .done (jT l) H else .fail 22
  | c::rest=>wJ (bif fr.R.deferred then
    (match c.R.mode with
    | .panicking (⟨_,true⟩::_)=>some ⟨zdj c .returning,rest,H⟩
    | _=>cA (!c.R.mode.running) (some ⟨c,rest,H⟩))
   else ob (gG c (jT l)) fun c=>some ⟨c,rest,H⟩) 18
def zh2(C:oA)(fr:xC)(cs:List xC)(H:xA):rE:=
 match fr.R.defers with
 | d::ds=>zkf C d ds fr cs H
 | []=>match fr.R.mode.chain with
  | some chain=>wJ (ob (C.fns.get fr.R.fn) fun _=>match cs with | c::rest=>some ⟨zrc c chain,rest,H⟩ | []=>none) 19
  | none=>zc6 C fr cs H
def stepA(C:oA)(s:lM):rE:=
 match s with
 | ⟨⟨todo,tm,R⟩,cs,H⟩=>bif R.mode.running then sM C todo tm R cs H else zh2 C ⟨todo,tm,R⟩ cs H
def zto(C:oA)(o:rE):rE:=
 match o with
 | .next s=>stepA C s
 | .done v H=>.done v H
 | .fail n=>.fail n
def zq3 (C:oA)(n:Nat):rE->rE:=
 Nat.rec (motive:=fun _=>rE->rE) (fun o=>zto C o) (fun _ g o=>g (g o)) n
end Go.Am
namespace Go.Am
open Go
def uA{α β:Type}{x:Option α}{f:α->Option β}{b:β}:ob x f=some b ↔ ∃a,x=some a/\f a=some b:=by
 cases x with
 | none=>simp[ob]
 | some a=>exact⟨fun h=>⟨a,rfl,h⟩,fun⟨_,h,k⟩=>by cases h;exact k⟩
@[simp] theorem z9v {α β:Type} {f:α->Option β}:ob none f=none:=rfl
@[simp] theorem sA {α β:Type} {a:α} {f:α->Option β}:ob (some a) f=f a:=rfl
def wB{α:Type}{b:Bool}{x:Option α}{a:α}:cA b x=some a ↔ b=true/\x=some a:=by
 cases b with
 | false=>simp[cA]
 | true=>simp[cA]
def nH{α:Type}(a b:α)(c:Bool):(Bool.rec (motive:=fun _=>α) a b c:α)=if c=true then b else a:=by cases c<;>rfl
def fB{n m:Nat}:(Nat.beq n m=true) ↔ n=m:=⟨Nat.eq_of_beq_eq_true,fun h=>by subst h;exact Nat.beq_refl n⟩
def beqf{n m:Nat}:(Nat.beq n m=false) ↔ n≠m:=by
 rw[<- Bool.not_eq_true,fB]
def kE{n m:Nat}:(Nat.ble n m=true) ↔ n<=m:=Iff.of_eq Nat.ble_eq
def vC{n m:Nat}:(Nat.blt n m=true) ↔ n<m:=Iff.of_eq Nat.ble_eq
def zC{α:Type}(c:Bool)(a b:α):(bif c then a else b)=if c=true then a else b:=by cases c<;>rfl
namespace Tr
variable {α:Type}
def get_leaf(n:Nat):(leaf:Tr α).get n=none:=rfl
def get_node(l:Tr α)(v:Option α)(r:Tr α)(n:Nat) :
  (node l v r).get n=if n=0 then v else if n%2=1 then l.get (n / 2)else r.get (n / 2-1):=by
 show Bool.rec (motive:=fun _=>Option α) (Bool.rec (motive:=fun _=>Option α) (r.get (n / 2-1)) (l.get (n / 2)) (Nat.beq (n%2) 1)) v (Nat.beq n 0)=_
 rw[nH,nH];simp only[fB]
def z9y(f n:Nat)(v:α):mk (f+1) n v=if n=0 then node leaf (some v) leaf else if n%2=1 then node (mk f (n / 2) v) none leaf else node leaf none (mk f (n / 2-1) v):=by
 show Bool.rec (motive:=fun _=>Tr α) (Bool.rec (motive:=fun _=>Tr α) (node leaf none (mk f (n / 2-1) v)) (node (mk f (n / 2) v) none leaf) (Nat.beq (n%2) 1)) (node leaf (some v) leaf) (Nat.beq n 0)=_
 rw[nH,nH];simp only[fB]
def z3s(n:Nat)(v:α):(leaf:Tr α).set n v=mk (n+1) n v:=rfl
def z3q(l:Tr α)(x:Option α)(r:Tr α)(n:Nat)(v:α) :
  (node l x r).set n v=if n=0 then node l (some v) r else if n%2=1 then node (l.set (n / 2) v) x r else node l x (r.set (n / 2-1) v):=by
 show Bool.rec (motive:=fun _=>Tr α) (Bool.rec (motive:=fun _=>Tr α) (node l x (r.set (n / 2-1) v)) (node (l.set (n / 2) v) x r) (Nat.beq (n%2) 1)) (node l (some v) r) (Nat.beq n 0)=_
 rw[nH,nH];simp only[fB]
def z52(l:Tr α)(x:Option α)(r:Tr α)(n:Nat) :
  (node l x r).del n=if n=0 then node l none r else if n%2=1 then node (l.del (n / 2)) x r else node l x (r.del (n / 2-1)):=by
 show Bool.rec (motive:=fun _=>Tr α) (Bool.rec (motive:=fun _=>Tr α) (node l x (r.del (n / 2-1))) (node (l.del (n / 2)) x r) (Nat.beq (n%2) 1)) (node l none r) (Nat.beq n 0)=_
 rw[nH,nH];simp only[fB]
def get_mk(f:Nat):∀(n m:Nat) (v:α),n<f->(mk f n v).get m=if m=n then some v else none:=by
 induction f with
 | zero=>intro n m v h;omega
 | succ f ih=>
  intro n m v h;rw[z9y];by_cases h0:n=0
  ·rw[yab h0,get_node];subst h0;split<;>simp[get_leaf]
  ·rw[yaa h0]
   by_cases h1:n%2=1
   ·rw[yab h1,get_node]
    by_cases m0:m=0
    ·rw[yab m0,yaa (by omega)]
    ·rw[yaa m0]
     by_cases m1:m%2=1
     ·rw[yab m1,ih _ _ _ (by omega)];by_cases e:m=n
      ·subst e;simp
      ·rw[yaa e,yaa (by omega)]
     ·rw[yaa m1,get_leaf,yaa (by omega)]
   ·rw[yaa h1,get_node]
    by_cases m0:m=0
    ·rw[yab m0,yaa (by omega)]
    ·rw[yaa m0]
     by_cases m1:m%2=1
     ·rw[yab m1,get_leaf,yaa (by omega)]
     ·rw[yaa m1,ih _ _ _ (by omega)];by_cases e:m=n
      ·subst e;simp
      ·rw[yaa e,yaa (by omega)]
def get_set(t:Tr α):∀(n m:Nat) (v:α),(t.set n v).get m=if m=n then some v else t.get m:=by
 induction t with
 | leaf=>intro n m v;rw[z3s,get_mk _ _ _ _ (by omega),get_leaf]
 | node l x r ihl ihr=>
  intro n m v;rw[z3q];by_cases h0:n=0
  ·rw[yab h0,get_node,get_node];subst h0;by_cases m0:m=0<;>simp[m0]
  ·rw[yaa h0]
   by_cases h1:n%2=1
   ·rw[yab h1,get_node,get_node]
    by_cases m0:m=0
    ·rw[yab m0,yab m0,yaa (by omega)]
    ·rw[yaa m0,yaa m0]
     by_cases m1:m%2=1
     ·rw[yab m1,yab m1,ihl];by_cases e:m=n
      ·subst e;simp
      ·rw[yaa e,yaa (by omega)]
     ·rw[yaa m1,yaa m1,yaa (by omega)]
   ·rw[yaa h1,get_node,get_node]
    by_cases m0:m=0
    ·rw[yab m0,yab m0,yaa (by omega)]
    ·rw[yaa m0,yaa m0]
     by_cases m1:m%2=1
     ·rw[yab m1,yab m1,yaa (by omega)]
     ·rw[yaa m1,yaa m1,ihr];by_cases e:m=n
      ·subst e;simp
      ·rw[yaa e,yaa (by omega)]
def get_del(t:Tr α):∀(n m:Nat),(t.del n).get m=if m=n then none else t.get m:=by
 induction t with
 | leaf=>intro n m;show(leaf:Tr α).get m=_;rw[get_leaf];split<;>rfl
 | node l x r ihl ihr=>
  intro n m;rw[z52];by_cases h0:n=0
  ·rw[yab h0,get_node,get_node];subst h0;by_cases m0:m=0<;>simp[m0]
  ·rw[yaa h0]
   by_cases h1:n%2=1
   ·rw[yab h1,get_node,get_node]
    by_cases m0:m=0
    ·rw[yab m0,yab m0,yaa (by omega)]
    ·rw[yaa m0,yaa m0]
     by_cases m1:m%2=1
     ·rw[yab m1,yab m1,ihl];by_cases e:m=n
      ·subst e;simp
      ·rw[yaa e,yaa (by omega)]
     ·rw[yaa m1,yaa m1,yaa (by omega)]
   ·rw[yaa h1,get_node,get_node]
    by_cases m0:m=0
    ·rw[yab m0,yab m0,yaa (by omega)]
    ·rw[yaa m0,yaa m0]
     by_cases m1:m%2=1
     ·rw[yab m1,yab m1,yaa (by omega)]
     ·rw[yaa m1,yaa m1,ihr];by_cases e:m=n
      ·subst e;simp
      ·rw[yaa e,yaa (by omega)]
def many_succ(t:Tr α)(n i:Nat):t.many (n+1) i=ob (t.get i) fun v=>ob (t.many n (i+1)) fun l=>some (v::l):=rfl
def many_some(t:Tr α)(n:Nat):∀(i:Nat) (l:List α),t.many n i=some l->l.length=n/\∀j,j<n->t.get (i+j)=l[j]?:=by
 induction n with
 | zero=>intro i l h;cases h;exact⟨rfl,fun j hj=>by omega⟩
 | succ n ih=>
  intro i l h;rw[many_succ,uA]at h;obtain⟨v,hv,h⟩:=h
  rw[uA]at h;obtain⟨m,hm,h⟩:=h
  cases h;obtain⟨h1,h2⟩:=ih _ _ hm
  refine⟨by simp[h1],fun j hj=>?_⟩
  cases j with
  | zero=>simpa using hv
  | succ j=>have:=h2 j (by omega);rw[show i+1+j=i+(j+1) by omega]at this;simpa using this
def zkp(v:α)(l:List α)(t:Tr α)(i:Nat):setMany (v::l) t i=setMany l (t.set i v) (i+1):=rfl
def get_setMany(l:List α):∀(t:Tr α) (i m:Nat),(setMany l t i).get m=if i<=m/\m<i+l.length then l[m-i]? else t.get m:=by
 induction l with
 | nil=>intro t i m;rw[yaa (by simp)];rfl
 | cons v l ih=>
  intro t i m;rw[zkp,ih,get_set];by_cases h:i+1<=m/\m<i+1+l.length
  ·rw[yab h,yab (by simp;omega)]
   rw[show m-i=(m-(i+1))+1 by omega];simp
  ·rw[yaa h]
   by_cases e:m=i
   ·subst e;simp
   ·rw[yaa e,yaa (by simp;omega)]
def get_ofList(l:List α)(m:Nat):(ofList l).get m=l[m]?:=by
 unfold ofList;rw[get_setMany];split
 ·simp
 ·rename_i h;rw[get_leaf,List.getElem?_eq_none (by omega)]
end Tr
def eF{α:Type}(l:List α):∀n,gC l n=l[n]?:=by
 induction l with
 | nil=>intro n;rfl
 | cons a l ih=>
  intro n
  cases n with
  | zero=>rfl
  | succ n=>show gC l n=_;rw[ih];simp
def vQ{α:Type}(l:List α):∀n,xM l n=l.drop n:=by
 induction l with
 | nil=>intro n;simp;rfl
 | cons a l ih=>
  intro n
  cases n with
  | zero=>rfl
  | succ n=>show xM l n=_;rw[ih];simp
def eO{α:Type}(l:List α):∀n,zfr l n=l.take n:=by
 induction l with
 | nil=>intro n;simp;rfl
 | cons a l ih=>
  intro n
  cases n with
  | zero=>rfl
  | succ n=>show a::zfr l n=_;rw[ih];simp
def bC{α:Type}(l:List α):yB l=l.length:=by
 induction l with
 | nil=>rfl
 | cons a l ih=>show yB l+1=_;rw[ih];rfl
def iG{α:Type}(l m:List α):xD l m=l++m:=by
 induction l with
 | nil=>rfl
 | cons a l ih=>show a::xD l m=_;rw[ih];rfl
def yG{α:Type}(p:α->Bool)(l:List α):kB p l=l.all p:=by
 induction l with
 | nil=>rfl
 | cons a l ih=>show(bif p a then kB p l else false)=_;rw[ih];cases h:p a<;>simp[h]
def mL{α β:Type}(f:α->Option β)(a:α)(l:List α):uG f (a::l)=ob (f a) fun b=>ob (uG f l) fun r=>some (b::r):=rfl
def yU{α β:Type}(f:α->Option β):uG f []=some []:=rfl
def fO(i:Nat)(l:List Nat):aE i l=true ↔ i∈l:=by
 induction l with
 | nil=>exact⟨fun h=>(by cases h),fun h=>(by cases h)⟩
 | cons j l ih=>
  show(bif Nat.beq i j then true else aE i l)=true ↔ _
  rw[zC,ybs];by_cases h:Nat.beq i j=true
  ·rw[yab h];exact⟨fun _=>.inl (fB.1 h),fun _=>rfl⟩
  ·rw[yaa h,ih];exact⟨.inr,fun k=>k.resolve_left fun e=>h (fB.2 e)⟩
def dJ(a:List Nat):∀b,wE a b=true ↔ a=b:=by
 induction a with
 | nil=>intro b;cases b with
  | nil=>exact⟨fun _=>rfl,fun _=>rfl⟩
  | cons y b=>exact⟨fun h=>(by cases h),fun h=>(by cases h)⟩
 | cons x a ih=>
  intro b
  cases b with
  | nil=>exact⟨fun h=>(by cases h),fun h=>(by cases h)⟩
  | cons y b=>
   show(bif Nat.beq x y then wE a b else false)=true ↔ _
   rw[zC];by_cases h:Nat.beq x y=true
   ·rw[yab h,ih,fB.1 h];simp
   ·rw[yaa h];exact⟨fun h=>(by cases h),fun e=>(h (by rw[fB];injection e)).elim⟩
def oJ{a b:IntKind}:kEq a b=true ↔ a=b:=by cases a<;>cases b<;>simp[kEq,kIdx]
def nP(a b:Bool):bEq a b=(a == b):=by cases a<;>cases b<;>rfl
def tQ(a b:Int):jA a b=true ↔ a=b:=by
 cases a<;>cases b<;>simp only[jA,fB] <;> (try simp)<;>omega
def zjg(a b:Int):jC a b=true ↔ a<=b:=by
 cases a<;>cases b<;>simp only[jC,kE] <;> (try simp)<;>omega
def zbj(a b:Int):bB a b=true ↔ a<b:=by
 cases a<;>cases b<;>simp only[bB,vC] <;> (try simp)<;>omega
def sQ(a b:Int):jA a b=(a == b):=by rw[Bool.eq_iff_iff,tQ];simp
def z8b(a b:Int):jC a b=decide (a<=b):=by rw[Bool.eq_iff_iff,zjg];simp
def z8a(a b:Int):bB a b=decide (a<b):=by rw[Bool.eq_iff_iff,zbj];simp
def cK(k:IntKind)(n:Int):tA k n=k.wrap n:=by
 cases n with
 | ofNat n=>
  show(bif Nat.blt n (dF k)then Int.ofNat n else _)=_
  rw[zC];by_cases h:Nat.blt n (dF k)=true
  ·rw[yab h]
   have h':=vC.1 h
   cases k<;>simp only[dF]at h'<;>simp only[IntKind.wrap,IntKind.bits,IntKind.signed]<;>simp<;>omega
  ·rw[yaa h]
 | negSucc n=>
  show(bif Nat.blt n (kLo k)then Int.negSucc n else _)=_
  rw[zC];by_cases h:Nat.blt n (kLo k)=true
  ·rw[yab h]
   have h':=vC.1 h
   cases k<;>simp only[kLo]at h'<;>simp only[IntKind.wrap,IntKind.bits,IntKind.signed]<;>simp<;>omega
  ·rw[yaa h]
def oW{n:Int}{m:Nat}:fJ n=some m ↔ n=(m:Int):=by
 cases n with
 | ofNat a=>simp only[fJ,Option.some.injEq];exact⟨fun h=>(by rw[h];rfl),fun h=>Int.ofNat.inj h⟩
 | negSucc a=>simp only[fJ];exact⟨fun h=>(by cases h),fun h=>(by cases h)⟩
end Go.Am
namespace Go.Am
open Go
def rV{a b:zA}{r:Bool}(h:sL a b=some r) :
  (∃k x y,a=.int k x/\b=.int k y/\r=(x == y))\/(∃x y,a=.str x/\b=.str y/\r=wE x y)\/(∃x y,a=.bool x/\b=.bool y/\r=(x == y)):=by
 cases a<;>simp only[sL,zA.asIntK,zA.asStr,zhg,zA.asBool]at h<;>try (cases h;done)
 case bool x=>
  rw[sA,uA]at h;obtain⟨y,hy,h⟩:=h
  cases b<;>simp[zA.asBool]at hy
  cases h;exact .inr (.inr ⟨_,_,rfl,rfl,by rw[hy];exact nP _ _⟩)
 case int k x=>
  rw[uA]at h;obtain⟨y,hy,h⟩:=h
  cases b<;>simp[zA.asIntK]at hy
  rw[wB]at h;obtain⟨hk,h⟩:=h
  cases h;rw[oJ]at hk;subst hy;refine .inl ⟨k,x,_,rfl,?_,sQ _ _⟩
  rw[show k=_ from hk]
 case str x=>
  rw[uA]at h;obtain⟨y,hy,h⟩:=h
  cases b<;>simp[zA.asStr]at hy
  cases h;subst hy;exact .inr (.inl ⟨_,_,rfl,rfl,rfl⟩)
def zeh{a b:zA}(h:sL a b=some true):a=b:=by
 rcases rV h with⟨k,x,y,rfl,rfl,hr⟩ | ⟨x,y,rfl,rfl,hr⟩ | ⟨x,y,rfl,rfl,hr⟩
 ·rw[eq_of_beq hr.symm]
 ·rw[(dJ _ _).1 hr.symm]
 ·rw[eq_of_beq hr.symm]
def zei{a b:zA}{r:Bool}(h:sL a b=some r):sL b a=some r:=by
 rcases rV h with⟨k,x,y,rfl,rfl,hr⟩ | ⟨x,y,rfl,rfl,hr⟩ | ⟨x,y,rfl,rfl,hr⟩
 ·have e:jA y x=(x == y):=by rw[sQ,Bool.eq_iff_iff,beq_iff_eq,beq_iff_eq];exact eq_comm
  show cA (kEq k k) (some (jA y x))=_
  rw[e,hr];exact wB.2 ⟨oJ.2 rfl,rfl⟩
 ·simp only[sL,zA.asIntK,zA.asStr,sA]
  rw[hr];congr 1
  rw[Bool.eq_iff_iff,dJ,dJ];exact eq_comm
 ·simp only[sL,zA.asIntK,zA.asStr,zhg,zA.asBool,nP,sA,hr]
  rw[show(y == x)=(x == y) by cases x<;>cases y<;>rfl]
def zec:∀ {x y:List zA},tN x y=some true->x=y
 | [],[],_=>rfl
 | a::x,b::y,h=>by
  simp only[tN,uA]at h;obtain⟨r,hr,s,hs,h⟩:=h
  cases r<;>cases s<;>simp at h
  rw[zeh hr,zec hs]
 | [],_::_,h=>by cases h
 | _::_,[],h=>by cases h
def zed:∀ {x y:List zA} {r:Bool},tN x y=some r->tN y x=some r
 | [],[],_,h=>h
 | a::x,b::y,r,h=>by
  simp only[tN,uA]at h ⊢
  obtain⟨r1,hr,s,hs,h⟩:=h
  exact⟨r1,zei hr,s,zed hs,h⟩
 | [],_::_,_,h=>by cases h
 | _::_,[],_,h=>by cases h
def gW{a b:zA}{r:Bool}(h:xG a b=some r):(∃x y,a=.agg x/\b=.agg y/\tN x y=some r)\/(a.asAgg=none/\sL a b=some r):=by
 unfold xG at h;split at h
 ·rename_i x hx
  rw[uA]at h;obtain⟨y,hy,h⟩:=h
  cases a<;>simp[zA.asAgg]at hx
  cases b<;>simp[zA.asAgg]at hy
  subst hx;subst hy;exact .inl ⟨_,_,rfl,rfl,h⟩
 ·rename_i hx
  exact .inr ⟨hx,h⟩
def zzs{a b:zA}{r:Bool}(h:sL a b=some r):xG a b=some r:=by
 rcases rV h with⟨k,x,y,rfl,rfl,hr⟩ | ⟨x,y,rfl,rfl,hr⟩ | ⟨x,y,rfl,rfl,hr⟩<;>exact h
def zg6{a b:zA}(h:xG a b=some true):a=b:=by
 rcases gW h with⟨x,y,rfl,rfl,h⟩ | ⟨_,h⟩
 ·rw[zec h]
 ·exact zeh h
def iW{a b:zA}{r:Bool}(h:xG a b=some r):xG b a=some r:=by
 rcases gW h with⟨x,y,rfl,rfl,h⟩ | ⟨_,h⟩
 ·exact zed h
 ·exact zzs (zei h)
def DK (l:List (zA × zA)):Prop:=l.Pairwise fun p q=>xG p.1 q.1=some false
def zbt(l l':List (zA × zA)):Prop:=l'=l\/(l.Perm l'/\DK l)
def DK.perm{l l':List (zA × zA)}(h:DK l)(p:l.Perm l'):DK l':=(p.pairwise_iff (fun hab=>iW hab)).1 h
def zbp{k:zA}:∀ {l:List (zA × zA)},pH k l=some none ↔ ∀e∈l,xG k e.1=some false
 | []=>by simp[pH]
 | e::l=>by
  rw[pH,uA];constructor
  ·rintro⟨r,hr,h⟩
   cases r with
   | true=>cases h
   | false=>
    rw[cond_false]at h;intro x hx;rcases ybs.1 hx with rfl | hx
    ·exact hr
    ·exact zbp.1 h x hx
  ·intro h
   exact⟨false,h e (.head _),zbp.2 fun x hx=>h x (.tail _ hx)⟩
def zes{k v:zA}:∀ {l:List (zA × zA)},pH k l=some (some v)->(k,v)∈l/\xG k k=some true
 | [],h=>by cases h
 | e::l,h=>by
  rw[pH,uA]at h;obtain⟨r,hr,h⟩:=h
  cases r with
  | true=>
   rw[cond_true]at h
   cases h;have:=zg6 hr
   refine⟨?_,by rw[<- this]at hr;exact hr⟩
   have e0:(k,e.2)=e:=by rw[this]
   rw[e0];exact .head _
  | false=>
   rw[cond_false]at h;obtain⟨h1,h2⟩:=zes h
   exact⟨.tail _ h1,h2⟩
def DK.split{k v:zA}{l m:List (zA × zA)}(h:DK (l++(k,v)::m)):(∀e∈l,xG k e.1=some false)/\∀e∈m,xG k e.1=some false:=by
 unfold DK at h;rw[List.pairwise_append]at h;obtain⟨_,h2,h3⟩:=h
 rw[List.pairwise_cons]at h2;exact⟨fun e he=>iW (h3 e he (k,v) (.head _)),fun e he=>h2.1 e he⟩
def zut{k:zA}{l m:List (zA × zA)}(h:∀e∈l,xG k e.1=some false):pH k (l++m)=pH k m:=by
 induction l with
 | nil=>rfl
 | cons e l ih=>
  rw[List.cons_append,pH,h e (.head _),sA,cond_false]
  exact ih fun x hx=>h x (.tail _ hx)
def zuu{k:zA}{l l':List (zA × zA)}{r:Option zA}(h:zbt l l')(hf:pH k l=some r):pH k l'=some r:=by
 rcases h with rfl | ⟨p,d⟩
 ·exact hf
 cases r with
 | none=>
  rw[zbp]at hf ⊢
  exact fun e he=>hf e (p.mem_iff.2 he)
 | some v=>
  obtain⟨h1,h2⟩:=zes hf
  obtain⟨a,b,rfl⟩:=List.append_of_mem (p.mem_iff.1 h1)
  rw[zut (d.perm p).split.1,pH,h2,sA,cond_true]
def yZ{k v:zA}:∀ {l:List (zA × zA)},(∀e∈l,xG k e.1=some false)->nG k v l=some (l++[(k,v)])
 | [],_=>rfl
 | e::l,h=>by
  rw[nG,h e (.head _),sA,cond_false,yZ fun x hx=>h x (.tail _ hx)]
  rfl
def zdk{k v u:zA}{m:List (zA × zA)}(hk:xG k k=some true):∀ {l:List (zA × zA)},(∀e∈l,xG k e.1=some false)->nG k v (l++(k,u)::m)=some (l++(k,v)::m)
 | [],_=>by rw[yah,nG,hk];rfl
 | e::l,h=>by
  rw[List.cons_append,nG,h e (.head _),sA,cond_false,zdk hk fun x hx=>h x (.tail _ hx)]
  rfl
def zby{k v:zA}:∀ {l r:List (zA × zA)},nG k v l=some r->((∀e∈l,xG k e.1=some false)/\r=l++[(k,v)])\/(xG k k=some true/\∃a u b,l=a++(k,u)::b/\r=a++(k,v)::b)
 | [],r,h=>by cases h;exact .inl ⟨fun e he=>(by cases he),rfl⟩
 | e::l,r,h=>by
  rw[nG,uA]at h;obtain⟨q,hq,h⟩:=h
  cases q with
  | true=>
   rw[cond_true]at h
   cases h;have:=zg6 hq
   refine .inr ⟨by rw[<- this]at hq;exact hq,[],e.2,l,?_,rfl⟩
   rw[yah,this]
  | false=>
   rw[cond_false,uA]at h;obtain⟨r',hr,h⟩:=h
   cases h;rcases zby hr with⟨h1,rfl⟩ | ⟨h0,a,u,b,rfl,rfl⟩
   ·refine .inl ⟨fun x hx=>?_,rfl⟩
    rcases ybs.1 hx with rfl | hx
    ·exact hq
    ·exact h1 x hx
   ·exact .inr ⟨h0,e::a,u,b,rfl,rfl⟩
def zko{k v:zA}{l l' r:List (zA × zA)}(h:zbt l l')(hs:nG k v l=some r):∃r',nG k v l'=some r'/\zbt r r':=by
 rcases h with rfl | ⟨p,d⟩
 ·exact⟨r,hs,.inl rfl⟩
 rcases zby hs with⟨h1,rfl⟩ | ⟨h0,a,u,b,rfl,rfl⟩
 ·refine⟨_,yZ fun e he=>h1 e (p.mem_iff.2 he),.inr ⟨p.append_right _,?_⟩⟩
  unfold DK;rw[List.pairwise_append];exact⟨d,by simp,fun x hx y hy=>by simp at hy;subst hy;exact iW (h1 x hx)⟩
 ·obtain⟨a',b',rfl⟩:=List.append_of_mem (p.mem_iff.1 (ycf a (.head b)))
  refine⟨_,zdk h0 (d.perm p).split.1,.inr ⟨?_,?_⟩⟩
  ·have p1:(a++b).Perm (a'++b'):=by
    have q1:(a++(k,u)::b).Perm ((k,u)::(a++b)):=List.perm_middle
    have q2:(a'++(k,u)::b').Perm ((k,u)::(a'++b')):=List.perm_middle
    exact(q1.symm.trans (p.trans q2)).cons_inv
   exact List.perm_middle.trans ((p1.cons _).trans List.perm_middle.symm)
  ·unfold DK at d ⊢
   rw[List.pairwise_append,List.pairwise_cons]at d ⊢
   obtain⟨d1,⟨d2,d3⟩,d4⟩:=d
   refine⟨d1,⟨d2,d3⟩,fun x hx y hy=>?_⟩
   rcases ybs.1 hy with rfl | hy
   ·exact d4 x hx (k,u) (.head _)
   ·exact d4 x hx y (.tail _ hy)
end Go.Am
namespace Go.Am
open Go
structure BI where
 b:Nat
 tight:Bool
 es:Nat
 room:Nat
 ro:Bool
structure Mu where
 m:Nat->Option BI
 pd:Nat->Option (rA × Nat × Nat)
instance:CoeFun Mu fun _=>Nat->Option BI:=⟨Mu.m⟩
def Mu.lw(μ ν:Mu):Prop:=∀a i,μ a=some i->ν a=some i
structure Mu.le (μ ν:Mu):Prop where
 f:∀a i,μ a=some i->ν a=some i
 pd:ν.pd=μ.pd
instance {μ ν:Mu}:CoeFun (μ.le ν) fun _=>∀a i,μ a=some i->ν a=some i:=⟨Mu.le.f⟩
instance {μ ν:Mu}:Coe (μ.le ν) (μ.lw ν):=⟨Mu.le.f⟩
def Mu.le_refl(μ:Mu):μ.le μ:=⟨fun _ _ h=>h,rfl⟩
def Mu.le_trans{a b c:Mu}(h:a.le b)(k:b.le c):a.le c:=⟨fun x i hx=>k.f x i (h.f x i hx),k.pd.trans h.pd⟩
def zvm(μ:Mu):AFn->Fn->Prop
 | .func f,fn=>fn=.func f
 | .yld l,fn=>∃i,μ l=some i/\fn=.yield i.b
mutual
def vA (μ:Mu):zA->Value->Prop
 | .bool b,v=>v=.bool b
 | .int k n,v=>v=.int k n
 | .str l,v=>∃s,v=.string s/\qE s=l
 | .nilptr,v=>v=.pointer none
 | .ptr b off,v=>∃i,μ b=some i/\v=.pointer (some ⟨i.b,off,none⟩)
 | .nilslice,v=>v=.slice none 0 0
 | .slice b off len cap,v=>(∃i cap',μ b=some i/\v=.slice (some ⟨i.b,off,none⟩) len cap'/\cap<=cap'/\(i.tight=true->cap'=cap)/\(i.tight=false->off+cap'*i.es<=i.room))\/(b=0/\len=0/\cap=0/\∃a c,v=.slice (some a) 0 c/\(off=0/\c=0\/off=1))
 | .nilmap,v=>v=.map none
 | .map b,v=>∃i,μ b=some i/\v=.map (some i.b)
 | .func f a c,v=>∃fn a' c',v=.func fn a' c'/\zvm μ f fn/\zB μ a a'.toList/\zB μ c c'.toList
 | .nilfunc,v=>v=.nilFunc
 | .iface t x,v=>∃x',v=.iface t x'/\vA μ x x'
 | .niliface,v=>v=.nilIface
 | .agg l,v=>∃cs,v=.agg cs/\zB μ l cs.toList
 | .tup l,v=>∃cs,v=.tuple cs/\zB μ l cs.toList
def zB (μ:Mu):List zA->List Value->Prop
 | [],m=>m=[]
 | a::l,m=>∃v r,m=v::r/\vA μ a v/\zB μ l r
end
def zvm.mono{μ ν:Mu}(h:μ.lw ν){f:AFn}{g:Fn}(k:zvm μ f g):zvm ν f g:=by
 cases f with
 | func f=>exact k
 | yld l=>obtain⟨i,h1,h2⟩:=k;exact⟨i,h _ _ h1,h2⟩
mutual
def vA.mono{μ ν:Mu}(h:μ.lw ν):∀(a:zA) (v:Value),vA μ a v->vA ν a v
 | .bool _,_,k=>k
 | .int _ _,_,k=>k
 | .str _,_,k=>k
 | .nilptr,_,k=>k
 | .ptr _ _,_,⟨i,h1,h2⟩=>⟨i,h _ _ h1,h2⟩
 | .nilslice,_,k=>k
 | .slice _ _ _ _,_,.inl ⟨i,c,h1,h2⟩=>.inl ⟨i,c,h _ _ h1,h2⟩
 | .slice _ _ _ _,_,.inr k=>.inr k
 | .nilmap,_,k=>k
 | .map _,_,⟨i,h1,h2⟩=>⟨i,h _ _ h1,h2⟩
 | .func _ a c,_,⟨fn,a',c',h1,h2,h3,h4⟩=>⟨fn,a',c',h1,h2.mono h,zB.mono h a _ h3,zB.mono h c _ h4⟩
 | .nilfunc,_,k=>k
 | .iface _ x,_,⟨x',h1,h2⟩=>⟨x',h1,vA.mono h x _ h2⟩
 | .niliface,_,k=>k
 | .agg l,_,⟨cs,h1,h2⟩=>⟨cs,h1,zB.mono h l _ h2⟩
 | .tup l,_,⟨cs,h1,h2⟩=>⟨cs,h1,zB.mono h l _ h2⟩
def zB.mono{μ ν:Mu}(h:μ.lw ν):∀(l:List zA) (m:List Value),zB μ l m->zB ν l m
 | [],_,k=>k
 | a::l,_,⟨v,r,h1,h2,h3⟩=>⟨v,r,h1,vA.mono h a v h2,zB.mono h l r h3⟩
end
def zB.length{μ:Mu}{l:List zA}:∀ {m:List Value},zB μ l m->m.length=l.length:=by
 induction l with
 | nil=>intro m h;rw[zB]at h;rw[h];rfl
 | cons a l ih=>intro m h;rw[zB]at h;obtain⟨v,r,rfl,_,h3⟩:=h;simp[ih h3]
def zB.get{μ:Mu}{l:List zA}:∀ {m:List Value} {i:Nat} {a:zA},zB μ l m->l[i]?=some a->∃v,m[i]?=some v/\vA μ a v:=by
 induction l with
 | nil=>intro m i a _ h;simp at h
 | cons b l ih=>
  intro m i a h hi;rw[zB]at h;obtain⟨v,r,rfl,h2,h3⟩:=h
  cases i with
  | zero=>simp at hi;subst hi;exact⟨v,by simp,h2⟩
  | succ i=>simp at hi;obtain⟨u,hu,hr⟩:=ih h3 hi;exact⟨u,by simpa using hu,hr⟩
def zB.mk{μ:Mu}{l:List zA}:∀ {m:List Value},m.length=l.length->(∀(i:Nat) a v,l[i]?=some a->m[i]?=some v->vA μ a v)->zB μ l m:=by
 induction l with
 | nil=>intro m h _;rw[zB];simpa using h
 | cons a l ih=>
  intro m h k
  cases m with
  | nil=>simp at h
  | cons v r=>
   rw[zB];exact⟨v,r,rfl,k 0 a v (by simp) (by simp),ih (by simpa using h) fun i a v h1 h2=>k (i+1) a v (by simpa using h1) (by simpa using h2)⟩
def zB.append{μ:Mu}{l l':List zA}:∀ {m m':List Value},zB μ l m->zB μ l' m'->zB μ (l++l') (m++m'):=by
 induction l with
 | nil=>intro m m' h h';rw[zB]at h;subst h;exact h'
 | cons a l ih=>intro m m' h h';rw[zB]at h;obtain⟨v,r,rfl,h2,h3⟩:=h;rw[List.cons_append,zB];exact⟨v,r++m',rfl,h2,ih h3 h'⟩
def zB.drop{μ:Mu}{l:List zA}{m:List Value}(h:zB μ l m)(n:Nat):zB μ (l.drop n) (m.drop n):=by
 refine zB.mk (by simp[h.length]) fun i a v h1 h2=>?_
 rw[yde]at h1 h2;obtain⟨u,hu,hr⟩:=h.get h1
 rw[hu]at h2;cases h2;exact hr
def zB.take{μ:Mu}{l:List zA}{m:List Value}(h:zB μ l m)(n:Nat):zB μ (l.take n) (m.take n):=by
 refine zB.mk (by simp[h.length]) fun i a v h1 h2=>?_
 rw[ydf]at h1 h2;split at h1
 ·rename_i hi
  rw[yab hi]at h2;obtain⟨u,hu,hr⟩:=h.get h1
  rw[hu]at h2;cases h2;exact hr
 ·cases h1
def zB.nil{μ:Mu}:zB μ [] []:=by rw[zB]
def zB.cons{μ:Mu}{a:zA}{l:List zA}{v:Value}{m:List Value}(h:vA μ a v)(k:zB μ l m):zB μ (a::l) (v::m):=by rw[zB];exact⟨v,m,rfl,h,k⟩
def zB.single{μ:Mu}{a:zA}{v:Value}(h:vA μ a v):zB μ [a] [v]:=.cons h .nil
def fR{v:zA}{b:Bool}:v.asBool=some b ↔ v=.bool b:=by cases v<;>simp[zA.asBool]
def zbr{v:zA}{n:Int}:v.asInt=some n ↔ ∃k,v=.int k n:=by cases v<;>simp[zA.asInt]
def lP{v:zA}{p:IntKind × Int}:v.asIntK=some p ↔ v=.int p.1 p.2:=by cases v<;>simp[zA.asIntK,Prod.ext_iff]
def mP{v:zA}{l:List Nat}:v.asStr=some l ↔ v=.str l:=by cases v<;>simp[zA.asStr]
def kU{v:zA}{p:Nat × Nat}:v.asPtr=some p ↔ v=.ptr p.1 p.2:=by cases v<;>simp[zA.asPtr,Prod.ext_iff]
def xT{v:zA}{p:Nat × Nat × Nat × Nat}:v.asSlice=some p ↔ v=.slice p.1 p.2.1 p.2.2.1 p.2.2.2:=by cases v<;>simp[zA.asSlice,Prod.ext_iff]
def fY{v:zA}{b:Nat}:v.asMap=some b ↔ v=.map b:=by cases v<;>simp[zA.asMap]
def jV{v:zA}{l:List zA}:v.asAgg=some l ↔ v=.agg l:=by cases v<;>simp[zA.asAgg]
def zvf{v:zA}{l:List zA}:v.asTup=some l ↔ v=.tup l:=by cases v<;>simp[zA.asTup]
def ze5{v:zA}{p:AFn × List zA × List zA}:v.asFunc=some p ↔ v=.func p.1 p.2.1 p.2.2:=by cases v<;>simp[zA.asFunc,Prod.ext_iff]
def zb8{v:zA}{p:Nat × zA}:v.asIface=some p ↔ v=.iface p.1 p.2:=by cases v<;>simp[zA.asIface,Prod.ext_iff]
def iY{v:zA}{n:Nat}:v.asNat=some n ↔ ∃k,v=.int k (n:Int):=by
 unfold zA.asNat;rw[uA];constructor
 ·rintro⟨a,h1,h2⟩;rw[zbr]at h1;obtain⟨k,rfl⟩:=h1;exact⟨k,by rw[oW.1 h2]⟩
 ·rintro⟨k,rfl⟩;exact⟨n,rfl,rfl⟩
def bP{v:zA}:(v.tag=3 ↔ v=.nilptr)/\(v.tag=5 ↔ v=.nilslice)/\(v.tag=7 ↔ v=.nilmap)/\(v.tag=10 ↔ v=.nilfunc)/\(v.tag=12 ↔ v=.niliface):=by
 cases v<;>simp[zA.tag]
def vA.notAgg{μ:Mu}{a:zA}{v:Value}(h:vA μ a v)(ha:a.asAgg=none):v.cells = #[v]:=by
 cases a<;>rw[vA]at h<;>first
  | (subst h;rfl)
  | (rcases h with⟨_,_,_,rfl,_⟩ | ⟨_,_,_,_,_,rfl,_⟩<;>rfl)
  | (obtain⟨_,rfl,_⟩:=h;rfl)
  | (obtain⟨_,_,rfl⟩:=h;rfl)
  | (obtain⟨_,_,_,rfl,_⟩:=h;rfl)
  | (simp[zA.asAgg]at ha)
def vA.one{μ:Mu}{a:zA}{v:Value}(h:vA μ a v)(ha:a.one=true):v.oneCell'=true:=by
 cases a<;>rw[vA]at h<;>first
  | (subst h;rfl)
  | (rcases h with⟨_,_,_,rfl,_⟩ | ⟨_,_,_,_,_,rfl,_⟩<;>rfl)
  | (obtain⟨_,rfl,_⟩:=h;rfl)
  | (obtain⟨_,_,rfl⟩:=h;rfl)
  | (obtain⟨_,_,_,rfl,_⟩:=h;rfl)
  | (revert ha;decide)
  | (have:=vC.1 ha;simp[zA.tag]at this)
def zax{μ:Mu}{a:zA}{v:Value}(h:vA μ a v):zB μ a.cells v.cells.toList:=by
 unfold zA.cells
 cases ha:a.asAgg with
 | none=>rw[h.notAgg ha];exact zB.single h
 | some l=>rw[jV.1 ha,vA]at h;obtain⟨cs,rfl,h⟩:=h;exact h
def rL(P:Program)(t:Nat):bD:=
 match P.underlying t with
 | some .bool=>.bool
 | some (.int k)=>.int k
 | some .string=>.string
 | some (.pointer e)=>.ptr e
 | some (.slice e)=>.slice e
 | some (.array n e)=>.arr n e
 | some (.map k e)=>.map k e
 | some (.struct fs)=>.struct (fs.toList.map fun f=>(f.offset,f.type,P.cellsOf f.type))
 | some (.func ..)=>.func
 | some (.interface _)=>.iface
 | _=>.other
def zr7:Value->Bool
 | .agg _=>true
 | _=>false
def z3b(P:Program)(t:Nat):Bool:=(P.fieldsOf t).toList.all fun f=>(P.info? f.type).isSome
def tyOf (P:Program)(t:Nat):Option tC:=
 match P.info? t with
 | some i=>match i.zero with
  | some z=>ob (uG cT z.cells.toList) fun l=>cA (bEq (zr7 z) (rL P t).isAgg&&(P.underlying t).isSome&&z3b P t)
    (some ⟨rL P t, i.size, i.bytes, l, !P.stoodInHeld t && !P.eqGuardType P.depth t && (P.fieldsOf t).toList.all (fun f => f.name != "_")⟩)
  | none=>none
 | none=>none
def jE(P:Program)(C:oA):Prop:=∀t ty,C.tys.get t=some ty->tyOf P t=some ty
def lY{a b:ByteArray}(h:qE a=qE b):a=b:=by
 have h1:a.data.toList=b.data.toList:=by
  unfold qE at h;exact(List.map_inj_right (fun x y hxy=>UInt8.toNat_inj.1 hxy)).1 h
 have h2:a.data=b.data:=yax.1 h1
 cases a;cases b;simpa using h2
def zb2{μ:Mu}{v:Value}{a:zA}(h:cT v=some a):vA μ a v/\a.one=true:=by
 unfold cT at h;split at h<;>cases h<;>refine⟨?_,rfl⟩<;>rw[vA]
 exact⟨_,rfl,rfl⟩
def zaj{μ:Mu}{m:List Value}:∀ {l:List zA},uG cT m=some l->zB μ l m:=by
 induction m with
 | nil=>intro l h;rw[yU]at h;cases h;exact zB.nil
 | cons v m ih=>
  intro l h;rw[mL,uA]at h;obtain⟨a,ha,h⟩:=h
  rw[uA]at h;obtain⟨r,hr,h⟩:=h
  cases h;exact .cons (zb2 ha).1 (ih hr)
def zot{μ:Mu}{v:Value}{a:zA}(h:zou v=some a):vA μ a v:=by
 unfold zou at h;split at h
 ·rename_i cs hc
  rw[uA]at h;obtain⟨l,hl,h⟩:=h
  cases h
  cases v<;>simp[z8i]at hc
  subst hc;rw[vA];exact⟨_,rfl,zaj hl⟩
 ·exact(zb2 h).1
structure tJ (P:Program) (t:Nat) (ty:tC):Prop where
 info:∃i,P.info? t=some i/\i.size=ty.size/\i.bytes=ty.bytes/\∃z,i.zero=some z/\uG cT z.cells.toList=some ty.zero/\zr7 z=ty.desc.isAgg
 desc:rL P t=ty.desc
 und:∃d,P.underlying t=some d
 fields:∀f∈(P.fieldsOf t).toList,∃i,P.info? f.type=some i
 eqOk : ty.eqOk = true -> P.stoodInHeld t = false /\ P.eqGuardType P.depth t = false /\ ∀ f ∈ (P.fieldsOf t).toList, f.name ≠ "_"
def ztg{P:Program}{t:Nat}{ty:tC}(h:tyOf P t=some ty):tJ P t ty:=by
 unfold tyOf at h;split at h
 ·rename_i i hi
  split at h
  ·rename_i z hz
   rw[uA]at h;obtain⟨l,hl,h⟩:=h
   rw[wB]at h;obtain⟨hb,h⟩:=h
   cases h;rw[ybb,ybb]at hb;refine⟨⟨i,hi,rfl,rfl,z,hz,hl,?_⟩,rfl,Option.isSome_iff_exists.1 hb.1.2,fun f hf=>Option.isSome_iff_exists.1 (ycb.1 hb.2 f hf),fun h=>?_⟩
   ·have:=hb.1.1;rw[nP]at this;simpa using this
   ·simp only[ybb,ycp,ycb,bne_iff_ne]at h;exact⟨h.1.1,h.1.2,h.2⟩
  ·cases h
 ·cases h
def jE.facts{P:Program}{C:oA}(h:jE P C){t:Nat}{ty:tC}(k:C.tys.get t=some ty):tJ P t ty:=ztg (h t ty k)
section
variable {P:Program}{w:World}{t:Nat}{ty:tC}
def eT{i:TypeInfo}(h:P.info? t=some i):(typeInfo t).run P w=.ok i w:=by
 simp[typeInfo,h]
def nE{d:TypeDesc}(h:P.underlying t=some d):(underlying t).run P w=.ok d w:=by
 simp[underlying,h]
def tJ.size(h:tJ P t ty):(sizeOf t).run P w=.ok ty.size w:=by
 obtain⟨i,h1,h2,_⟩:=h.info
 simp[sizeOf,eT h1,h2]
def tJ.zero(h:tJ P t ty){μ:Mu}:∃z,(∀w,(zeroValue t).run P w=.ok z w)/\vA μ (gN ty) z/\zB μ ty.zero z.cells.toList:=by
 obtain⟨i,h1,_,_,z,h2,h3,h4⟩:=h.info
 have hl:zB μ ty.zero z.cells.toList:=zaj h3
 refine⟨z,fun w=>by simp[zeroValue,eT h1,h2],?_,hl⟩
 unfold gN
 cases hd:ty.desc.isAgg with
 | true=>
  rw[hd]at h4
  cases z<;>simp[zr7]at h4
  show vA μ (.agg ty.zero) _
  rw[vA];exact⟨_,rfl,hl⟩
 | false=>
  rw[hd]at h4;have hc:z.cells = #[z]:=by cases z<;>first | rfl | simp[zr7]at h4
  rw[hc]at hl
  cases hz:ty.zero with
  | nil=>rw[hz,zB]at hl;simp at hl
  | cons a l=>rw[hz,zB]at hl;obtain⟨v,r,hv,hr,_⟩:=hl;simp at hv;rw[<- hv.1]at hr;exact hr
def tJ.isAgg(h:tJ P t ty):(Go.isAgg t).run P w=.ok ty.desc.isAgg w:=by
 obtain⟨d,hd⟩:=h.und
 have h0:=h.desc
 unfold rL at h0;rw[hd]at h0;unfold Go.isAgg;rw[yad,nE hd,yac,<- h0]
 cases d<;>rfl
def rU(h:tJ P t ty){fs:List (Nat × Nat × Nat)}(k:ty.desc.asStruct=some fs):∃g,P.underlying t=some (.struct g)/\fs=g.toList.map fun f=>(f.offset,f.type,P.cellsOf f.type):=by
 obtain⟨d,hd⟩:=h.und
 have h0:=h.desc
 unfold rL at h0;rw[hd]at h0;rw[<- h0]at k
 cases d<;>simp[bD.asStruct]at k
 exact⟨_,hd,k.symm⟩
def pN(h:tJ P t ty){e:Nat}(k:ty.desc.asSlice=some e):P.underlying t=some (.slice e):=by
 obtain⟨d,hd⟩:=h.und
 have h0:=h.desc
 unfold rL at h0;rw[hd]at h0;rw[<- h0]at k
 cases d<;>simp[bD.asSlice]at k
 rw[hd,k]
def zcw(h:tJ P t ty){p:Nat × Nat}(k:ty.desc.asArr=some p):P.underlying t=some (.array p.1 p.2):=by
 obtain⟨d,hd⟩:=h.und
 have h0:=h.desc
 unfold rL at h0;rw[hd]at h0;rw[<- h0]at k
 cases d<;>simp[bD.asArr]at k
 rw[hd,<- k]
def zsp(h:tJ P t ty){p:Nat × Nat}(k:ty.desc.asMap=some p):P.underlying t=some (.map p.1 p.2):=by
 obtain⟨d,hd⟩:=h.und
 have h0:=h.desc
 unfold rL at h0;rw[hd]at h0;rw[<- h0]at k
 cases d<;>simp[bD.asMap]at k
 rw[hd,<- k]
def zjr(h:tJ P t ty){k:IntKind}(e:ty.desc.asInt=some k):P.underlying t=some (.int k):=by
 obtain⟨d,hd⟩:=h.und
 have h0:=h.desc
 unfold rL at h0;rw[hd]at h0;rw[<- h0]at e
 cases d<;>simp[bD.asInt]at e
 rw[hd,e]
def oY(h:tJ P t ty)(e:ty.desc.isString=true):P.underlying t=some .string:=by
 obtain⟨d,hd⟩:=h.und
 have h0:=h.desc
 unfold rL at h0;rw[hd]at h0;rw[<- h0]at e
 cases d<;>simp[bD.isString,bD.tag,Nat.beq]at e
 exact hd
def zaw(h:tJ P t ty)(e:Nat.blt ty.desc.tag 9=true):∃d,P.underlying t=some d/\∀ms,d≠.interface ms:=by
 obtain⟨d,hd⟩:=h.und
 refine⟨d,hd,fun ms hm=>?_⟩
 subst hm;have h0:=h.desc
 unfold rL at h0;rw[hd]at h0;rw[<- h0]at e;exact absurd (vC.1 e) (by simp[bD.tag])
end
structure xS (μ:Mu) (d:sI) (e:Deferred):Prop where
 rel:match d.fn with
  | none=>∃i,μ d.r=some i/\e={ target:=.collected i.b,args := #[] }
  | some f=>∃fn cap as,e={ target:=.fn fn cap,args:=as }/\zvm μ f fn/\zB μ d.args (as++cap).toList
def tE(μ:Mu)(n:Nat)(tm:Tm)(tmps:Array Value):Prop:=tmps.size=n/\∀i v,tm.get i=some v->vA μ v (tmps.getD i undef)
structure zfe (μ:Mu) (l:gL) (r:Loop):Prop where
 state:r.state=l.state
 pending:r.pending=l.pending
 fn:r.fn=l.fn
 tm:tE μ l.n l.tm r.tmps
 params:r.params.toList=l.params
 assign:r.assign=l.assign
 body:r.body=l.body
 defers:∃i,μ l.defers=some i/\r.defers=i.b
inductive qC {α β:Type} (R:α->β->Prop):List α->List β->Prop
 | nil:qC R [] []
 | cons {a b l m}:R a b->qC R l m->qC R (a::l) (b::m)
def lH (μ:Mu)(i:BI):rA->Obj->Prop
 | .cells c n loose,o=>∃cs elem fr,o=.cells cs elem fr/\n<=cs.size/\(i.ro=true\/fr.2<=fr.1\/cs.size<=fr.1)/\(∀(j:Nat) v,c.get j=some v->j<n/\∃v',cs[j]?=some v'/\vA μ v v') ∧
   (match loose with | none=>i.tight=true | some lo=>i.tight=false/\i.es=lo.es/\i.room=cs.size/\∀t,lo=.ty t->elem=t)
 | .map l,o=>∃es clock l',o=.map es clock/\zbt l l'/\qC (fun p e=>vA μ p.1 e.key/\vA μ p.2 e.val) l' es.toList
 | .loop l,o=>∃r,o=.loop r/\zfe μ l r
 | .deferred l,o=>∃l',o=.deferred l'/\(match l,l' with | none,none=>True | some a,some b=>qC (xS μ) a b | _,_=>False)
 | .siter s pos,o=>∃s',o=.stringIter s' pos/\qE s'=s
structure aA (B N:Nat) (μ:Mu) (H:xA) (w:World):Prop where
 base:256<=B
 glob:∀g,g<256->μ g=some ⟨g,true,0,0,true⟩
 low:∀a x i,a<B->H.t.get a=some x->μ a=some i->i.b<N/\x.asLoop=none/\x.asDeferred=none
 next:B<=H.next
 size:N<=w.heap.size
 fresh:∀a,H.next<=a->μ a=none/\H.t.get a=none
 blk:∀a x i,H.t.get a=some x->μ a=some i->∃o,w.heap[i.b]?=some o/\lH μ i x o
 own:∀a i,B<=a->μ a=some i->N<=i.b/\i.b<w.heap.size/\i.ro=false
 inj:∀a b x y i j,H.t.get a=some x->H.t.get b=some y->μ a=some i->μ b=some j->B<=a->B<=b->i.b=j.b->a=b
 pnd:∀a x t,μ.pd a=some (x,t)->μ a=none/\H.t.get a=some x/\B<=a
end Go.Am
namespace Go.Am
open Go
def fE (μ:Mu)(e:iC)(ρ:Operand->Value):Prop:=∀x v,ev x e=some v->vA μ v (ρ x)
def fE.many{μ:Mu}{e:iC}{ρ:Operand->Value}(h:fE μ e ρ):∀ {l:List Operand} {r:List zA},evs l e=some r->zB μ r (l.map ρ):=by
 intro l;induction l with
 | nil=>intro r k;unfold evs at k;rw[yU]at k;cases k;exact .nil
 | cons x l ih=>
  intro r k;unfold evs at k;rw[mL,uA]at k;obtain⟨a,ha,k⟩:=k
  rw[uA]at k;obtain⟨b,hb,k⟩:=k
  cases k
  exact .cons (h _ _ ha) (ih hb)
def fE.parts{μ:Mu}{e:iC}{ρ:Operand->Value}(h:fE μ e ρ):∀ {l:List (Nat × Operand)} {r:List (Nat × zA)},evp l e=some r →
  qC (fun p q=>p.1=q.1/\vA μ p.2 q.2) r (l.map fun x=>(x.1,ρ x.2)):=by
 intro l;induction l with
 | nil=>intro r k;unfold evp at k;rw[yU]at k;cases k;exact .nil
 | cons x l ih=>
  intro r k;unfold evp at k;rw[mL,uA]at k;obtain⟨a,ha,k⟩:=k
  rw[uA]at ha;obtain⟨a',ha,ha'⟩:=ha
  cases ha'
  rw[uA]at k;obtain⟨b,hb,k⟩:=k
  cases k
  exact .cons ⟨rfl,h _ _ ha⟩ (ih hb)
def z2d(μ:Mu):Option zA->Option Value->Prop
 | none,none=>True
 | some a,some v=>vA μ a v
 | _,_=>False
def fE.opt{μ:Mu}{e:iC}{ρ:Operand->Value}(h:fE μ e ρ){x:Option Operand}{r:Option zA}(k:evo x e=some r):z2d μ r (x.map ρ):=by
 cases x with
 | none=>cases k;trivial
 | some x=>unfold evo at k;simp only[]at k;rw[uA]at k;obtain⟨a,ha,k⟩:=k;cases k;exact h _ _ ha
def kQ(b off n:Nat):Addr.add ⟨b,off,none⟩ n=⟨b,off+n,none⟩:=by
 unfold Addr.add;split
 ·rename_i h;subst h;rfl
 ·rfl
section
variable {P:Program}{C:oA}{B N:Nat}{μ:Mu}{H:xA}{w:World}
def zT{b:Nat}{p:Tr zA × Nat × Option Lo}(h:vE H b=some p):H.t.get b=some (.cells p.1 p.2.1 p.2.2):=by
 unfold vE at h;rw[uA]at h;obtain⟨x,hx,h⟩:=h
 cases x<;>simp[rA.asCells]at h
 subst h;exact hx
def aA.cellAt(hH:aA B N μ H w){b:Nat}{p:Tr zA × Nat × Option Lo}(h:vE H b=some p){i:BI}(hi:μ b=some i){j:Nat}{v:zA}(hv:p.1.get j=some v) :
  ∃v',w.cell? ⟨i.b,j,none⟩=some v'/\vA μ v v':=by
 obtain⟨o,h2,h3⟩:=hH.blk _ _ _ (zT h) hi
 obtain⟨cs,elem,fr,rfl,_,_,h4,_⟩:=h3
 obtain⟨_,v',h6,h7⟩:=h4 j v hv
 exact⟨v',by simp[World.cell?,h2,h6],h7⟩
def aA.manyAt(hH:aA B N μ H w){b:Nat}{p:Tr zA × Nat × Option Lo}(h:vE H b=some p){i:BI}(hi:μ b=some i){n off:Nat}{l:List zA}(hl:p.1.many n off=some l) :
  ∃vs:List Value,vs.length=n/\zB μ l vs/\(loadCells ⟨i.b,off,none⟩ n).run P w=.ok vs.toArray w/\∀j,j<n->w.cell? ⟨i.b,off+j,none⟩=vs[j]?:=by
 obtain⟨h1,h2⟩:=Tr.many_some _ _ _ _ hl
 have key:∀j,j<n->∃v',w.cell? ⟨i.b,off+j,none⟩=some v'/\∃a,l[j]?=some a/\vA μ a v':=by
  intro j hj;have h3:=h2 j hj
  cases hlj:l[j]? with
  | none=>rw[List.getElem?_eq_none_iff]at hlj;omega
  | some a=>
   rw[hlj]at h3;obtain⟨v',h4,h5⟩:=hH.cellAt h hi h3
   exact⟨v',h4,a,rfl,h5⟩
 let f:Nat->Value:=fun j=>(w.cell? ⟨i.b,off+j,none⟩).getD undef
 have hf:∀j,j<n->w.cell? ⟨i.b,off+j,none⟩=some (f j):=by
  intro j hj;obtain⟨v',h3,_⟩:=key j hj
  simp[f,h3]
 refine⟨(List.range n).map f,by simp,?_,?_,?_⟩
 ·refine zB.mk (by simp[h1]) fun j a v ha hv=>?_
  have hj:j<n:=by rw[<- h1];exact(ybc.1 ha).1
  obtain⟨v',h3,a',h4,h5⟩:=key j hj
  rw[ha]at h4;cases h4;rw[ybu,List.getElem?_range hj]at hv;have h6:=hf j hj
  rw[h3]at h6;cases h6;simp at hv;rw[<- hv];exact h5
 ·exact run_loadCells w _ n f fun j hj=>by rw[kQ];exact hf j hj
 ·intro j hj;rw[hf j hj,ybu,List.getElem?_range hj];rfl
def zrq(hH:aA B N μ H w){t:Nat}{ty:tC}(hty:tJ P t ty){b:Nat}{p:Tr zA × Nat × Option Lo}(h:vE H b=some p){i:BI}(hi:μ b=some i){off:Nat}{v:zA}
  (hv:wN ty p.1 off=some v):∃v',(loadVar t ⟨i.b,off,none⟩).run P w=.ok v' w/\vA μ v v':=by
 unfold wN at hv;unfold loadVar;rw[yad,hty.isAgg,yac]
 cases ha:ty.desc.isAgg with
 | true=>
  rw[ha,cond_true,uA]at hv;obtain⟨l,hl,hv⟩:=hv
  cases hv;obtain⟨vs,_,h2,h3,_⟩:=hH.manyAt (P:=P) h hi hl
  refine⟨.agg vs.toArray,?_,by rw[vA];exact⟨_,rfl,h2⟩⟩
  rw[yab rfl,yad,hty.size,yac,yad,h3];rfl
 | false=>
  rw[ha,cond_false]at hv;obtain⟨v',h1,h2⟩:=hH.cellAt h hi hv
  refine⟨v',?_,h2⟩
  rw[yaa (by simp),run_load,h1]
def rW(hT:jE P C){t:Nat}{l:List zA}{cs:Array Value}(hl:zB μ l cs.toList){off:Nat}{v:zA}(hv:oL C t l off=some v) :
  ∃v',(part t cs off).run P w=.ok v' w/\vA μ v v':=by
 unfold oL at hv;rw[uA]at hv;obtain⟨ty,hty,hv⟩:=hv
 have hF:=hT.facts hty
 unfold part;rw[yad,hF.isAgg,yac]
 cases ha:ty.desc.isAgg with
 | true=>
  rw[ha,cond_true]at hv
  cases hv;refine⟨.agg (cs.extract off (off+ty.size)),?_,?_⟩
  ·rw[yab rfl,yad,hF.size];rfl
  ·rw[vA];refine⟨_,rfl,?_⟩
   rw[eO,vQ,Array.toList_extract,List.extract_eq_take_drop,Nat.add_sub_cancel_left];exact(hl.drop _).take _
 | false=>
  rw[ha,cond_false,eF]at hv;obtain⟨v',h1,h2⟩:=hl.get hv
  refine⟨v',?_,h2⟩
  rw[yaa (by simp)]
  have:cs[off]?=some v':=by simpa using h1
  rw[this];rfl
def LOk (P:Program)(μ:Mu)(w:World)(ρ:Operand->Value)(o:Oper)(v:zA):Prop:=∃v',(execOp ρ o).run P w=.ok (.value v') w/\vA μ v v'
variable {e:iC}{ρ:Operand->Value}{dst:Option Tmp}{type:TypeId}{pos:String}{after:Array Edge}{guard:Option (Nat × Bool)}{v:zA}
def zru(hE:fE μ e ρ){x:Operand}(h:dO x C e H=some v):LOk P μ w ρ ⟨dst,.move x,type,pos,after,guard⟩ v:=⟨ρ x,rfl,hE x v h⟩
def zg3(hE:fE μ e ρ){x:Operand}(h:dO x C e H=some v):LOk P μ w ρ ⟨dst,.assign x,type,pos,after,guard⟩ v:=⟨ρ x,rfl,hE x v h⟩
def zrt(hE:fE μ e ρ){c a b:Operand}(h:zzd c a b C e H=some v):LOk P μ w ρ ⟨dst,.pick c a b,type,pos,after,guard⟩ v:=by
 unfold zzd at h;rw[uA]at h;obtain⟨cv,hc,h⟩:=h
 rw[uA]at h;obtain⟨cb,hb,h⟩:=h
 have h1:=hE _ _ hc
 rw[fR.1 hb,vA]at h1;unfold LOk execOp;simp only[h1,asBool]
 cases cb with
 | true=>exact⟨ρ a,rfl,hE _ _ h⟩
 | false=>exact⟨ρ b,rfl,hE _ _ h⟩
def zrv(hT:jE P C)(hH:aA B N μ H w)(hE:fE μ e ρ){t:Nat}{a:Operand}(h:bO t a C e H=some v):LOk P μ w ρ ⟨dst,.load t a,type,pos,after,guard⟩ v:=by
 unfold bO at h;simp only[uA,kU]at h;obtain⟨av,ha,p,rfl,ty,hty,c,hc,h⟩:=h
 have h1:=hE _ _ ha
 rw[vA]at h1;obtain⟨i,hi,hv⟩:=h1
 obtain⟨v',h2,h3⟩:=zrq (P:=P) hH (hT.facts hty) hc hi h
 refine⟨v',?_,h3⟩
 simp only[execOp,Instr.loadAt,hv,Instr.sureAddr,yad,yae,yac,h2]
def zze(hE:fE μ e ρ){x:Operand}(h:z41 x C e H=some v):LOk P μ w ρ ⟨dst,.nilCheck x,type,pos,after,guard⟩ v:=by
 unfold z41 at h;rw[uA]at h;obtain⟨a,ha,h⟩:=h
 rw[wB]at h;obtain⟨hb,h⟩:=h
 cases h;have h1:=hE _ _ ha
 refine⟨ρ x,?_,h1⟩
 cases v<;>simp[zA.tag,Nat.beq]at hb
 ·rw[vA]at h1
  obtain⟨i,_,hv⟩:=h1
  simp only[execOp,hv];rfl
 ·rename_i fn a b
  rw[vA]at h1;obtain⟨fn',a',c',hv,hf,_⟩:=h1
  cases fn with
  | func f=>cases hf;simp only[execOp,hv];rfl
  | yld l=>obtain⟨i,_,rfl⟩:=hf;simp only[execOp,hv];rfl
def zrw(hE:fE μ e ρ){fn:Fn}{a b:Array Operand}(h:(lS fn a b).f C e H=some v):LOk P μ w ρ ⟨dst,.makeFunc fn a b,type,pos,after,guard⟩ v:=by
 unfold lS at h;split at h
 ·rename_i f
  simp only[zzm,uA]at h;obtain⟨as,ha,bs,hb,h⟩:=h
  cases h;refine⟨.func (.func f) (a.map ρ) (b.map ρ),rfl,?_⟩
  rw[vA];exact⟨_,_,_,rfl,rfl,by simpa using hE.many ha,by simpa using hE.many hb⟩
 ·cases h
def zlx(hT:jE P C)(hE:fE μ e ρ){t:Nat}{x:Operand}(h:mS t x C e H=some v):LOk P μ w ρ ⟨dst,.makeInterface t x,type,pos,after,guard⟩ v:=by
 unfold mS at h;simp only[uA,wB]at h;obtain⟨ty,hty,hb,a,ha,h⟩:=h
 cases h;obtain⟨d,hd,hn⟩:=zaw (hT.facts hty) hb
 refine⟨.iface t (ρ x),?_,by rw[vA];exact⟨_,rfl,hE _ _ ha⟩⟩
 simp only[execOp,Instr.makeInterface,yad,nE hd,yac]
 cases d<;>first | rfl | exact absurd rfl (hn _)
def zd9(hE:fE μ e ρ){t:Operand}{i:Nat}(h:xP t i C e H=some v):LOk P μ w ρ ⟨dst,.extract t i,type,pos,after,guard⟩ v:=by
 unfold xP at h;simp only[uA,zvf,eF]at h;obtain⟨a,ha,l,rfl,h⟩:=h
 have h1:=hE _ _ ha
 rw[vA]at h1;obtain⟨cs,hv,hl⟩:=h1
 obtain⟨v',h2,h3⟩:=hl.get h
 refine⟨v',?_,h3⟩
 have h4:cs[i]?=some v':=by simpa using h2
 simp only[execOp,hv,Instr.extract,h4];rfl
def zly(hT:jE P C)(hE:fE μ e ρ){t:Nat}{x:Operand}{f:Nat}(h:kS t x f C e H=some v):LOk P μ w ρ ⟨dst,.field t x f,type,pos,after,guard⟩ v:=by
 unfold kS at h;simp only[uA,jV,eF]at h;obtain⟨ty,hty,fs,hfs,fd,hfd,a,ha,l,rfl,h⟩:=h
 obtain⟨g,hg,rfl⟩:=rU (hT.facts hty) hfs
 have h1:=hE _ _ ha
 rw[vA]at h1;obtain⟨cs,hv,hl⟩:=h1
 rw[ybu]at hfd
 cases hgf:g.toList[f]? with
 | none=>rw[hgf]at hfd;cases hfd
 | some fld=>
  rw[hgf]at hfd;simp at hfd;subst hfd;obtain⟨v',h2,h3⟩:=rW (w:=w) hT hl h
  refine⟨v',?_,h3⟩
  have h4:g[f]?=some fld:=by simpa using hgf
  simp only[execOp,hv,Instr.field,yad,nE hg,yac,h4,asAgg,yae,h2]
def zao(hT:jE P C)(hE:fE μ e ρ){s:Nat}{x:Operand}{f:Nat}(h:yP s x f C e H=some v):LOk P μ w ρ ⟨dst,.fieldAddr s x f,type,pos,after,guard⟩ v:=by
 unfold yP at h;simp only[uA,kU,eF,wB]at h;obtain⟨ty,hty,fs,hfs,fd,hfd,hz,a,ha,p,rfl,h⟩:=h
 cases h;obtain⟨g,hg,rfl⟩:=rU (hT.facts hty) hfs
 have h1:=hE _ _ ha
 rw[vA]at h1;obtain⟨i,hi,hv⟩:=h1
 rw[ybu]at hfd
 cases hgf:g.toList[f]? with
 | none=>rw[hgf]at hfd;cases hfd
 | some fld=>
  rw[hgf]at hfd;simp at hfd;subst hfd;refine⟨.pointer (some ⟨i.b,p.2+fld.offset,none⟩),?_,by rw[vA];exact⟨i,hi,rfl⟩⟩
  have h4:g[f]?=some fld:=by simpa using hgf
  have h5:P.cellsOf fld.type≠0:=by
   have h6:Nat.beq (P.cellsOf fld.type) 0=false:=by simpa using hz
   exact beqf.1 h6
  have h6:(sizeOf fld.type).run P w=.ok (P.cellsOf fld.type) w:=by
   unfold Program.cellsOf at h5 ⊢
   cases hinf:P.info? fld.type with
   | none=>rw[hinf]at h5;exact absurd rfl h5
   | some inf=>simp[sizeOf,eT hinf]
  simp only[execOp,hv,Instr.fieldAt,yad,nE hg,yac,h4,Instr.sureAddr,yae,fieldPlace,h6,Sem.run_ite,yaa h5,kQ]
end
end Go.Am
