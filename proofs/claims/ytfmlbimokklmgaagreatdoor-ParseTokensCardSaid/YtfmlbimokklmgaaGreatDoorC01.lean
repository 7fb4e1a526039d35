/- -/
import Derived.Below
import Derived.Calls
import Derived.Laws.Cells
import Derived.Laws.Sem
import Derived.Laws.StructEq
import Derived.Laws.World
import Derived.Lib.Strings
set_option linter.all false
noncomputable section
namespace Go.Am
def yaa := @if_neg
def yab := @if_pos
def yac := @Result.andThen_ok
def yad := @Sem.run_bind
def yae := @Sem.run_pure
def yaf := @List.mem_append
def yag := @Nat.pow_succ
def yah := @List.nil_append
def yai := @Option.bind_some
def yaj := @Array.getElem?_append_left
def yak := @List.drop_eq_nil_iff
def yal := @Bool.or_eq_false_iff
def yam := @Nat.lt_of_le_of_lt
def yan := @Nat.le_mul_of_pos_left
def yao := @Nat.pow_le_pow_right
def yap := @Nat.add_comm
def yaq := @List.mem_map
def yar := @Option.map_eq_some_iff
def yas := @List.flatten_cons
def yat := @Nat.mul_zero
def yau := @Nat.lt_or_ge
def yav := @Nat.eq_zero_or_pos
def yaw := @Nat.zero_le
def yax := @Array.toList_inj
def yay := @Bool.and_false
def yaz := @List.getElem?_cons_zero
def yba := @List.getElem?_cons_succ
def ybb := @Bool.and_eq_true
def ybc := @List.getElem?_eq_some_iff
def ybd := @List.getElem?_eq_getElem
def ybe := @Array.getElem?_eq_some_iff
def ybf := @List.length_map
def ybg := @List.length_append
def ybh := @Nat.mul_comm
def ybi := @Nat.mul_le_mul_right
def ybj := @Nat.mul_assoc
def ybk := @Nat.le_refl
def ybl := @List.drop_eq_getElem_cons
def ybm := @Nat.mul_add
def ybn := @List.length_cons
def ybo := @Nat.add_mul
def ybp := @List.getElem?_append_right
def ybq := @Bool.false_eq_true
def ybr := @List.mem_cons_of_mem
def ybs := @List.mem_cons
def ybt := @List.drop_eq_nil_of_le
def ybu := @List.getElem?_map
def ybv := @Nat.mul_le_mul_left
def ybw := @Nat.zero_add
def ybx := @List.length_nil
def yby := @List.mem_cons_self
def ybz := @List.append_assoc
def yca := @List.take_of_length_le
def ycb := @List.all_eq_true
def ycc := @List.length_eq_zero_iff
def ycd := @List.append_nil
def yce := @Nat.dvd_mul_left_of_dvd
def ycf := @List.mem_append_right
def ycg := @List.all_cons
def ych := @Nat.div_add_mod
def yci := @Option.some.inj
def ycj := @List.getElem_mem
def yck := @List.all_nil
def ycl := @Bool.not_false
def ycm := @List.map_cons
def ycn := @Bool.true_and
def yco := @List.getElem?_append_left
def ycp := @Bool.not_eq_true'
def ycq := @Bool.or_eq_true
def ycr := @List.drop_zero
def ycs := @Array.getElem?_setIfInBounds
def yct := @Nat.add_zero
def ycu := @Nat.div_lt_of_lt_mul
def ycv := @List.mem_of_getElem?
def ycw := @List.getElem?_set
def ycx := @Array.getD_eq_getD_getElem?
def ycy := @Nat.mod_lt
def ycz := @Array.length_toList
def yda := @List.length_take
def ydb := @Nat.mul_le_mul
def ydc := @List.mem_append_left
def ydd := @List.mem_singleton
def yde := @List.getElem?_drop
def ydf := @List.getElem?_take
def ydg := @List.take_add_one
def ydh := @List.length_set
def ydi := @List.all_append
def ydj := @List.length_drop
end Go.Am
namespace Go.Am
inductive Tr (α:Type) where
 | leaf
 | node (l:Tr α) (v:Option α) (r:Tr α)
def ob {α β:Type}(x:Option α)(f:α->Option β):Option β:=Option.rec (motive:=fun _=>Option β) none f x
namespace Tr
variable {α:Type}
def get (t:Tr α):Nat->Option α:=
 Tr.rec (motive:=fun _=>Nat->Option α) (fun _=>none)
  (fun _ v _ gl gr n=>Bool.rec (motive:=fun _=>Option α) (Bool.rec (motive:=fun _=>Option α) (gr (Nat.pred (Nat.div n (nat_lit 2)))) (gl (Nat.div n (nat_lit 2))) (Nat.beq (Nat.mod n (nat_lit 2)) (nat_lit 1))) v (Nat.beq n (nat_lit 0))) t
def mk (f:Nat):Nat->α->Tr α:=
 Nat.rec (motive:=fun _=>Nat->α->Tr α) (fun _ _=>leaf)
  (fun _ g n v=>Bool.rec (motive:=fun _=>Tr α) (Bool.rec (motive:=fun _=>Tr α) (node leaf none (g (Nat.pred (Nat.div n (nat_lit 2))) v)) (node (g (Nat.div n (nat_lit 2)) v) none leaf) (Nat.beq (Nat.mod n (nat_lit 2)) (nat_lit 1))) (node leaf (some v) leaf) (Nat.beq n (nat_lit 0))) f
def set (t:Tr α):Nat->α->Tr α:=
 Tr.rec (motive:=fun _=>Nat->α->Tr α) (fun n v=>mk (Nat.succ n) n v)
  (fun l x r gl gr n v=>Bool.rec (motive:=fun _=>Tr α) (Bool.rec (motive:=fun _=>Tr α) (node l x (gr (Nat.pred (Nat.div n (nat_lit 2))) v)) (node (gl (Nat.div n (nat_lit 2)) v) x r) (Nat.beq (Nat.mod n (nat_lit 2)) (nat_lit 1))) (node l (some v) r) (Nat.beq n (nat_lit 0))) t
def del (t:Tr α):Nat->Tr α:=
 Tr.rec (motive:=fun _=>Nat->Tr α) (fun _=>leaf)
  (fun l x r gl gr n=>Bool.rec (motive:=fun _=>Tr α) (Bool.rec (motive:=fun _=>Tr α) (node l x (gr (Nat.pred (Nat.div n (nat_lit 2))))) (node (gl (Nat.div n (nat_lit 2))) x r) (Nat.beq (Nat.mod n (nat_lit 2)) (nat_lit 1))) (node l none r) (Nat.beq n (nat_lit 0))) t
def many (t:Tr α)(n:Nat):Nat->Option (List α):=
 Nat.rec (motive:=fun _=>Nat->Option (List α)) (fun _=>some [])
  (fun _ g i=>ob (t.get i) fun v=>ob (g (i+1)) fun l=>some (v::l)) n
def setMany(l:List α):Tr α->Nat->Tr α:=
 List.rec (motive:=fun _=>Tr α->Nat->Tr α) (fun t _=>t) (fun v _ g t i=>g (t.set i v) (i+1)) l
def ofList(l:List α):Tr α:=setMany l leaf 0
end Tr
def vD {α:Type}(l:List α):Nat->Option α:=
 List.rec (motive:=fun _=>Nat->Option α) (fun _=>none) (fun a _ g n=>Bool.rec (motive:=fun _=>Option α) (g (Nat.pred n)) (some a) (Nat.beq n (nat_lit 0))) l
def dQ{α:Type}(l:List α):Nat->List α:=
 List.rec (motive:=fun _=>Nat->List α) (fun _=>[]) (fun a l g n=>bif Nat.beq n 0 then a::l else g (n-1)) l
def gZ{α:Type}(l:List α):Nat->List α:=
 List.rec (motive:=fun _=>Nat->List α) (fun _=>[]) (fun a _ g n=>bif Nat.beq n 0 then []else a::g (n-1)) l
def zB {α:Type}(l:List α):Nat:=List.rec (motive:=fun _=>Nat) 0 (fun _ _ n=>n+1) l
def iD {α:Type}(l m:List α):List α:=List.rec (motive:=fun _=>List α) m (fun a _ g=>a::g) l
def kB {α:Type}(p:α->Bool)(l:List α):Bool:=List.rec (motive:=fun _=>Bool) true (fun a _ g=>bif p a then g else false) l
def xH{α β:Type}(f:α->Option β)(l:List α):Option (List β):=
 List.rec (motive:=fun _=>Option (List β)) (some []) (fun a _ g=>ob (f a) fun b=>ob g fun r=>some (b::r)) l
def oG(a:List Nat):List Nat->Bool:=
 List.rec (motive:=fun _=>List Nat->Bool) (fun b=>b.isEmpty) (fun x _ g b=>List.rec (motive:=fun _=>Bool) false (fun y b _=>bif Nat.beq x y then g b else false) b) a
def kIdx:IntKind->Nat
 | .i8=>0 | .i16=>1 | .i32=>2 | .i64=>3 | .u8=>4 | .u16=>5 | .u32=>6 | .u64=>7
def tN (a b:IntKind):Bool:=Nat.beq (kIdx a) (kIdx b)
def bEq:Bool->Bool->Bool
 | true,b=>b
 | false,b => !b
def aB:Int->Int->Bool
 | .ofNat a,.ofNat b=>Nat.beq a b
 | .negSucc a,.negSucc b=>Nat.beq a b
 | _,_=>false
def gG:Int->Int->Bool
 | .ofNat a,.ofNat b=>Nat.ble a b
 | .ofNat _,.negSucc _=>false
 | .negSucc _,.ofNat _=>true
 | .negSucc a,.negSucc b=>Nat.ble b a
def bB:Int->Int->Bool
 | .ofNat a,.ofNat b=>Nat.blt a b
 | .ofNat _,.negSucc _=>false
 | .negSucc _,.ofNat _=>true
 | .negSucc a,.negSucc b=>Nat.blt b a
def iG:IntKind->Nat
 | .i8=>128 | .i16=>32768 | .i32=>2147483648 | .i64=>9223372036854775808 | .u8=>256 | .u16=>65536 | .u32=>4294967296 | .u64=>18446744073709551616
def kLo:IntKind->Nat
 | .i8=>128 | .i16=>32768 | .i32=>2147483648 | .i64=>9223372036854775808 | _=>0
def iA(k:IntKind):Int->Int
 | .ofNat n=>bif Nat.blt n (iG k)then .ofNat n else k.wrap (.ofNat n)
 | .negSucc n=>bif Nat.blt n (kLo k)then .negSucc n else k.wrap (.negSucc n)
inductive AFn where
 | func (f:Nat)
 | yld (l:Nat)
inductive zA where
 | bool (b:Bool)
 | int (k:IntKind) (n:Int)
 | str (l:List Nat)
 | nilptr
 | ptr (b off:Nat)
 | nilslice
 | slice (b off len cap:Nat)
 | nilmap
 | map (b:Nat)
 | func (fn:AFn) (first captured:List zA)
 | nilfunc
 | iface (t:Nat) (v:zA)
 | niliface
 | agg (l:List zA)
 | tup (l:List zA)
structure Tm where
 k:Nat
 v:Tr zA
 t:List (Nat × zA)
def assoc(i:Nat)(l:List (Nat × zA)):Option zA:=
 List.rec (motive:=fun _=>Option zA) none (fun a _ g=>Bool.rec (motive:=fun _=>Option zA) g (some a.2) (Nat.beq i a.1)) l
def Tm.get(t:Tm)(i:Nat):Option zA:=Bool.rec (motive:=fun _=>Option zA) (assoc i t.t) (t.v.get i) (Nat.blt i t.k)
def Tm.set(t:Tm)(i:Nat)(x:zA):Tm:=Bool.rec (motive:=fun _=>Tm) ⟨t.k,t.v,(i,x)::t.t⟩ ⟨t.k,t.v.set i x,t.t⟩ (Nat.blt i t.k)
def Tm.cut(t:Tm):Tm:=⟨t.k,t.v,[]⟩
structure mH where
 fn:Option AFn
 r:Nat
 args:List zA
structure vN where
 state:LoopState
 pending:Option Code
 fn:Nat
 n:Nat
 tm:Tm
 params:List Nat
 assign:Code
 body:Code
 defers:Nat
inductive Lo where
 | sz (n:Nat)
 | ty (t:Nat)
def Lo.es:Lo->Nat | .sz n=>n | .ty _=>1
def loEq:Lo->Lo->Bool
 | .sz a,.sz b=>Nat.beq a b
 | .ty a,.ty b=>Nat.beq a b
 | _,_=>false
inductive vA where
 | cells (c:Tr zA) (n:Nat) (loose:Option Lo)
 | map (l:List (zA × zA))
 | loop (l:vN)
 | deferred (l:Option (List mH))
 | siter (s:List Nat) (pos:Nat)
structure xA where
 next:Nat
 t:Tr vA
inductive mE where
 | bool | int (k:IntKind) | string
 | ptr (e:Nat) | slice (e:Nat) | arr (n e:Nat) | map (k e:Nat)
 | struct (fs:List (Nat × Nat × Nat))
 | func | iface | other
structure nD where
 desc:mE
 size:Nat
 bytes:Nat
 zero:List zA
 eqOk:Bool
structure lG where
 heavy:Nat
 lights:List Nat
 again:List Nat
structure Plan where
 first:List Nat
 stages:List lG
 olds:List (Nat × List Nat)
structure lA where
 fns:Tr Func
 ks:Tr Nat
 tys:Tr nD
 plans:Tr (Tr Plan)
 prims:Tr (List zA->xA->Option (zA × xA))
 base:Nat
 root:Nat
inductive nE where
 | code (c:Code)
 | inBlock (id:Nat)
 | inLoop (c:Code)
 | inScope (c:Code)
 | ops (all:Array Oper) (rest:List Oper)
 | reg (all:Array Oper) (old:Tm) (olds:List (Nat × List Nat)) (stages:List lG)
 | inRange (l:Nat)
 | endRange (l:Nat)
 | beginRound
structure Dk where
 v:zA
 recovered:Bool
inductive pV where
 | run | returning
 | panicking (chain:List Dk)
structure sK where
 fn:Nat
 n:Nat
 defers:List mH
 mode:pV
 deferred:Bool
 roundOf:Option Nat
structure iB where
 todo:List nE
 tm:Tm
 R:sK
structure oR where
 fr:iB
 cs:List iB
 H:xA
inductive xG where
 | next (s:oR)
 | done (v:zA) (H:xA)
 | fail (why:Nat)
def zA.asBool:zA->Option Bool | .bool b=>some b | _=>none
def zA.asInt:zA->Option Int | .int _ n=>some n | _=>none
def zA.asIntK:zA->Option (IntKind × Int) | .int k n=>some (k,n) | _=>none
def zA.asStr:zA->Option (List Nat) | .str l=>some l | _=>none
def zA.asPtr:zA->Option (Nat × Nat) | .ptr b o=>some (b,o) | _=>none
def zA.asSlice:zA->Option (Nat × Nat × Nat × Nat) | .slice b o l c=>some (b,o,l,c) | _=>none
def zA.asMap:zA->Option Nat | .map b=>some b | _=>none
def zA.asAgg:zA->Option (List zA) | .agg l=>some l | _=>none
def zA.asTup:zA->Option (List zA) | .tup l=>some l | _=>none
def zA.asFunc:zA->Option (AFn × List zA × List zA) | .func f a b=>some (f,a,b) | _=>none
def zA.asIface:zA->Option (Nat × zA) | .iface t v=>some (t,v) | _=>none
def zA.tag:zA->Nat
 | .bool _=>0 | .int _ _=>1 | .str _=>2 | .nilptr=>3 | .ptr _ _=>4 | .nilslice=>5 | .slice _ _ _ _=>6 | .nilmap=>7 | .map _=>8
 | .func _ _ _=>9 | .nilfunc=>10 | .iface _ _=>11 | .niliface=>12 | .agg _=>13 | .tup _=>14
def uN:Int->Option Nat | .ofNat n=>some n | .negSucc _=>none
def zA.asNat(v:zA):Option Nat:=ob v.asInt uN
def zA.cells(v:zA):List zA:=
 match v.asAgg with
 | some l=>l
 | none=>[v]
def zA.one(v:zA):Bool:=Nat.blt v.tag 13
def mE.asInt:mE->Option IntKind | .int k=>some k | _=>none
def mE.asSlice:mE->Option Nat | .slice e=>some e | _=>none
def mE.asArr:mE->Option (Nat × Nat) | .arr n e=>some (n,e) | _=>none
def mE.asMap:mE->Option (Nat × Nat) | .map k e=>some (k,e) | _=>none
def mE.asStruct:mE->Option (List (Nat × Nat × Nat)) | .struct fs=>some fs | _=>none
def mE.tag:mE->Nat
 | .bool=>0 | .int _=>1 | .string=>2 | .ptr _=>3 | .slice _=>4 | .arr _ _=>5 | .map _ _=>6 | .struct _=>7 | .func=>8 | .iface=>9 | .other=>10
def mE.isAgg(d:mE):Bool:=bif Nat.beq d.tag 5 then true else Nat.beq d.tag 7
def mE.isString(d:mE):Bool:=Nat.beq d.tag 2
def vA.asCells:vA->Option (Tr zA × Nat × Option Lo) | .cells c n l=>some (c,n,l) | _=>none
def vA.asMap:vA->Option (List (zA × zA)) | .map l=>some l | _=>none
def vA.asLoop:vA->Option vN | .loop l=>some l | _=>none
def vA.asDeferred:vA->Option (Option (List mH)) | .deferred l=>some l | _=>none
def vA.asIter:vA->Option (List Nat × Nat) | .siter s p=>some (s,p) | _=>none
def xB{α:Type}(b:Bool)(x:Option α):Option α:=Bool.rec (motive:=fun _=>Option α) none x b
def jD:zA:=.tup []
def nF(s:ByteArray):List Nat:=s.data.toList.map UInt8.toNat
def Ev:Value->Option zA
 | .bool b=>some (.bool b)
 | .int k n=>some (.int k n)
 | .string s=>some (.str (nF s))
 | .pointer none=>some .nilptr
 | .slice none 0 0=>some .nilslice
 | .map none=>some .nilmap
 | .nilFunc=>some .nilfunc
 | .nilIface=>some .niliface
 | _=>none
def zgv:Value->Option (Array Value)
 | .agg cs=>some cs
 | _=>none
def Xq(v:Value):Option zA:=
 match zgv v with
 | some cs=>ob (xH Ev cs.toList) fun l=>some (.agg l)
 | none=>Ev v
inductive yD where
 | now (tm:Tm)
 | mixed (tm old:Tm) (olds names:List Nat)
def dH(i:Nat)(l:List Nat):Bool:=List.rec (motive:=fun _=>Bool) false (fun j _ g=>bif Nat.beq i j then true else g) l
def kX (t:Nat)(e:yD):Option zA:=
 match e with
 | .now tm=>tm.get t
 | .mixed tm old olds names=>bif dH t names then Tm.get (bif dH t olds then old else tm) t else none
def xConst(v:Value)(_:yD):Option zA:=Xq v
def Tl(g:Nat)(_:yD):Option zA:=bif Nat.blt g 256 then some (.ptr g 0)else none
def xFunc(f:Nat)(_:yD):Option zA:=some (.func (.func f) [] [])
structure EB where f:yD->Option zA
def evB:Operand->EB
 | .tmp t=>⟨kX t⟩
 | .const v=>⟨xConst v⟩
 | .global g=>⟨Tl g⟩
 | .func f=>⟨xFunc f⟩
def ev (x:Operand)(e:yD):Option zA:=(evB x).f e
def wO (l:List Operand)(e:yD):Option (List zA):=xH (fun x=>ev x e) l
def kT (x:Option Operand)(e:yD):Option (Option zA):=
 match x with
 | none=>some none
 | some x=>ob (ev x e) fun v=>some (some v)
def lT (l:List (Nat × Operand))(e:yD):Option (List (Nat × zA)):=xH (fun x=>ob (ev x.2 e) fun v=>some (x.1,v)) l
def mD(H:xA)(b:Nat):Option (Tr zA × Nat × Option Lo):=ob (H.t.get b) vA.asCells
def rL(H:xA)(b:Nat):Option (List (zA × zA)):=ob (H.t.get b) vA.asMap
def wS(ty:nD)(c:Tr zA)(off:Nat):Option zA:=
 bif ty.desc.isAgg then ob (c.many ty.size off) fun l=>some (.agg l)else c.get off
def jQ(C:lA)(t:Nat)(l:List zA)(off:Nat):Option zA:=
 ob (C.tys.get t) fun ty=>bif ty.desc.isAgg then some (.agg (gZ (dQ l off) ty.size))else vD l off
def mX(ty:nD):zA:=
 bif ty.desc.isAgg then .agg ty.zero else match ty.zero with
  | v::_=>v
  | []=>jD
def Ye(a:List Nat):List Nat->Bool:=
 List.rec (motive:=fun _=>List Nat->Bool) (fun b => !b.isEmpty)
  (fun x _ g b=>List.rec (motive:=fun _=>Bool) false (fun y b _=>bif Nat.blt x y then true else bif Nat.beq x y then g b else false) b) a
def Io(a b:zA):Option Bool:=ob a.asBool fun x=>ob b.asBool fun y=>some (bEq x y)
def zkf(a b:zA):Option Bool:=ob a.asIntK fun x=>ob b.asIntK fun y=>xB (tN x.1 y.1) (some (aB x.2 y.2))
def Zu(a b:zA):Option Bool:=ob a.asStr fun x=>ob b.asStr fun y=>some (oG x y)
def Cv(n m:Nat)(a b:zA):Option Bool:=
 bif Nat.beq a.tag n then(bif Nat.beq b.tag n then some true else xB (Nat.beq b.tag m) (some false))
 else xB (Nat.beq a.tag m&&Nat.beq b.tag n) (some false)
def Se(_ _:zA):Option Bool:=none
def My:mE->zA->zA->Option Bool
 | .bool=>Io
 | .int _=>zkf
 | .string=>Zu
 | .ptr _=>Cv 3 4
 | .iface=>Cv 12 11
 | .slice _=>Cv 5 6
 | .map _ _=>Cv 7 8
 | .func=>Cv 10 9
 | .arr _ _=>Se
 | .struct _=>Se
 | .other=>Se
def Je(C:lA)(eq:Nat->zA->zA->Option Bool)(xs ys:List zA):List (Nat × Nat × Nat)->Option Bool
 | []=>some true
 | f::fs=>ob (jQ C f.2.1 xs f.1) fun a=>ob (jQ C f.2.1 ys f.1) fun b=>ob (eq f.2.1 a b) fun r=>bif r then Je C eq xs ys fs else some false
def aeq (C:lA):Nat->Nat->zA->zA->Option Bool
 | 0,_,_,_=>none
 | d+1,t,x,y=>ob (C.tys.get t) fun ty=>
  match ty.desc.asStruct with
  | some fs=>xB ty.eqOk (ob x.asAgg fun xs=>ob y.asAgg fun ys=>Je C (aeq C d) xs ys fs)
  | none=>My ty.desc x y
def iAdd (k:IntKind)(a b:Int):Option zA:=some (.int k (iA k (a+b)))
def iSub (k:IntKind)(a b:Int):Option zA:=some (.int k (iA k (a-b)))
def iMul (k:IntKind)(a b:Int):Option zA:=some (.int k (iA k (a*b)))
def Ab (k:IntKind)(a b:Int):Option zA:=bif aB b 0 then none else some (.int k (iA k (a.tdiv b)))
def Aa (k:IntKind)(a b:Int):Option zA:=bif aB b 0 then none else some (.int k (a.tmod b))
def lI(f:Nat->Nat->Nat)(k:IntKind)(a b:Int):Option zA:=ob (uN a) fun x=>ob (uN b) fun y=>xB (Nat.blt x (iG k)&&Nat.blt y (iG k)) (some (.int k (.ofNat (f x y))))
def kW:IntKind->Nat
 | .i8=>256 | .u8=>256 | .i16=>65536 | .u16=>65536 | .i32=>4294967296 | .u32=>4294967296 | .i64=>18446744073709551616 | .u64=>18446744073709551616
def iAnd (k:IntKind)(a b:Int):Option zA:=
 match uN a with
 | some _=>lI Nat.land k a b
 | none=>ob (uN b) fun y=>xB (Nat.blt y (iG k)) (some (.int k (.ofNat (Nat.land (Int.toNat (Int.emod a (.ofNat (kW k)))) y))))
def iEql (_:IntKind)(a b:Int):Option zA:=some (.bool (aB a b))
def iNeq (_:IntKind)(a b:Int):Option zA:=some (.bool (!aB a b))
def iLss (_:IntKind)(a b:Int):Option zA:=some (.bool (bB a b))
def iLeq (_:IntKind)(a b:Int):Option zA:=some (.bool (gG a b))
def iGtr (_:IntKind)(a b:Int):Option zA:=some (.bool (bB b a))
def iGeq (_:IntKind)(a b:Int):Option zA:=some (.bool (gG b a))
def iNone(_:IntKind)(_ _:Int):Option zA:=none
structure IB where f:IntKind->Int->Int->Option zA
def AR:BinOp->IB
 | .add=>⟨iAdd⟩ | .sub=>⟨iSub⟩ | .mul=>⟨iMul⟩ | .quo=>⟨Ab⟩ | .rem=>⟨Aa⟩
 | .and=>⟨iAnd⟩ | .or=>⟨lI Nat.lor⟩ | .xor=>⟨lI Nat.xor⟩
 | .eql=>⟨iEql⟩ | .neq=>⟨iNeq⟩ | .lss=>⟨iLss⟩ | .leq=>⟨iLeq⟩ | .gtr=>⟨iGtr⟩ | .geq=>⟨iGeq⟩
 | _=>⟨iNone⟩
def Gz (a b:List Nat):Option zA:=xB (Nat.blt (zB a+zB b) 4611686018427387904) (some (.str (iD a b)))
def sEql (a b:List Nat):Option zA:=some (.bool (oG a b))
def sNeq (a b:List Nat):Option zA:=some (.bool (!oG a b))
def sLss (a b:List Nat):Option zA:=some (.bool (Ye a b))
def sNone(_ _:List Nat):Option zA:=none
structure SB where f:List Nat->List Nat->Option zA
def AP:BinOp->SB
 | .add=>⟨Gz⟩ | .eql=>⟨sEql⟩ | .neq=>⟨sNeq⟩ | .lss=>⟨sLss⟩
 | _=>⟨sNone⟩
def Mo:Operand->Bool
 | .const _=>true
 | _=>false
def Eh(k:IntKind)(b:Int):Option Nat:=ob (uN b) fun n=>some (min n k.bits)
def gW (k:IntKind)(a b:Int):Option zA:=ob (Eh k b) fun n=>some (.int k (iA k (a*.ofNat (2^n))))
def Fh (k:IntKind)(a b:Int):Option zA:=ob (Eh k b) fun n=>some (.int k (a.fdiv (.ofNat (2^n))))
def Nl(f:IntKind->Int->Int->Option zA)(a b:zA):Option zA:=ob a.asIntK fun x=>ob b.asInt fun y=>f x.1 x.2 y
def LN(x y:Operand)(a b:zA):Bool:=
 bif Nat.beq a.tag 12&&Nat.beq b.tag 12 then Mo x||Mo y else true
def Sz(neg:Bool)(C:lA)(t:Nat)(x y:Operand)(a b:zA):Option zA:=
 xB (LN x y a b) (ob (aeq C 20 t a b) fun r=>some (.bool (bif neg then !r else r)))
def binNo(_:lA)(_:Nat)(_ _:Operand)(_ _:zA):Option zA:=none
structure BB where f:lA->Nat->Operand->Operand->zA->zA->Option zA
def NQ:BinOp->BB
 | .eql=>⟨Sz false⟩
 | .neq=>⟨Sz true⟩
 | _=>⟨binNo⟩
def AQ(op:BinOp)(C:lA)(t:Nat)(x y:Operand)(a b:zA):Option zA:=
 match a.asIntK with
 | some i=>ob b.asIntK fun j=>xB (tN i.1 j.1) ((AR op).f i.1 i.2 j.2)
 | none=>match a.asStr with
  | some s=>ob b.asStr fun u=>(AP op).f s u
  | none=>(NQ op).f C t x y a b
def binShl(_:lA)(_:Nat)(_ _:Operand)(a b:zA):Option zA:=Nl gW a b
def binShr(_:lA)(_:Nat)(_ _:Operand)(a b:zA):Option zA:=Nl Fh a b
def aP:BinOp->BB
 | .shl=>⟨binShl⟩
 | .shr=>⟨binShr⟩
 | op=>⟨AQ op⟩
def unNeg(a:zA):Option zA:=ob a.asIntK fun x=>some (.int x.1 (iA x.1 (0-x.2)))
def unNot(a:zA):Option zA:=ob a.asBool fun b=>some (.bool (!b))
def Dz(a:zA):Option zA:=ob a.asIntK fun x=>xB (Nat.beq (kLo x.1) 0) (lI Nat.xor x.1 (.ofNat (iG x.1-1)) x.2)
def unNone(_:zA):Option zA:=none
structure UB where f:zA->Option zA
def unA:UnOp->UB
 | .neg=>⟨unNeg⟩
 | .xor=>⟨Dz⟩
 | .not=>⟨unNot⟩
 | _=>⟨unNone⟩
def Ss(v:zA):Option Nat:=ob v.asIntK fun x=>xB (tN x.1 .u8) (ob (uN x.2) fun n=>xB (Nat.blt n 256) (some n))
def Ni(H:xA)(a:zA):Option zA:=
 match a.asSlice with
 | some x=>ob (mD H x.1) fun c=>ob (c.1.many x.2.2.1 x.2.1) fun l=>ob (xH Ss l) fun r=>some (.str r)
 | none=>xB (Nat.beq a.tag 5) (some (.str []))
def wV(C:lA)(s d:nD)(a:zA)(H:xA):Option zA:=
 match d.desc.asInt with
 | some k=>ob a.asInt fun n=>some (.int k (iA k n))
 | none=>xB d.desc.isString (bif Nat.beq a.tag 2 then some a else
   ob s.desc.asSlice fun e=>ob (C.tys.get e) fun et=>ob et.desc.asInt fun k=>xB (tN k .u8) (Ni H a))
def aW(y:Nat)(v:zA):Option Nat:=ob v.asNat fun n=>xB (Nat.ble n y) (some n)
def Ax(y dflt:Nat)(v:Option zA):Option Nat:=
 match v with
 | some v=>aW y v
 | none=>some dflt
def vR(len cap:Nat)(lo hi:Option zA):Option (Nat × Nat):=
 ob (Ax cap len hi) fun h=>ob (Ax h 0 lo) fun l=>some (l,h)
def hO(H:xA)(b size cap l:Nat)(arr:Bool):Bool:=
 match mD H b with
 | some c=>match c.2.2 with
  | none=>true
  | some es => !arr&&Nat.beq es.es size&&(!Nat.beq cap l||Nat.beq l 0)
 | none=>false
def eN(H:xA)(b size cap l:Nat)(arr:Bool):Bool:=
 match mD H b with
 | some c=>match c.2.2 with
  | none=>false
  | some es => !arr&&Nat.beq es.es size&&Nat.beq cap l && !Nat.beq l 0
 | none=>false
def lQ(C:lA)(H:xA)(arr:Bool)(e b off len cap:Nat)(lo hi:Option zA):Option zA:=
 ob (C.tys.get e) fun et=>ob (vR len cap lo hi) fun x=>
  bif Nat.ble x.2 cap&&Nat.ble x.1 x.2&&eN H b et.size cap x.1 arr then some (.slice 0 1 0 0)else
  xB (Nat.ble x.2 cap&&hO H b et.size cap x.1 arr) (some (.slice b (bif Nat.beq cap x.1 then off else off+x.1*et.size) (x.2-x.1) (cap-x.1)))
def Ks(s:List Nat)(lo hi:Option zA):Option zA:=
 let n:=zB s
 ob (vR n n lo hi) fun x=>some (.str (dQ (gZ s x.2) x.1))
def dN(C:lA)(H:xA)(ty:nD)(x:zA)(lo hi:Option zA):Option zA:=
 match x.asStr with
 | some s=>xB ty.desc.isString (Ks s lo hi)
 | none=>match x.asSlice with
  | some r=>ob ty.desc.asSlice fun e=>lQ C H false e r.1 r.2.1 r.2.2.1 r.2.2.2 lo hi
  | none=>match x.asPtr with
   | some p=>ob ty.desc.asArr fun a=>lQ C H true a.2 p.1 p.2 a.1 a.1 lo hi
   | none=>xB (Nat.beq x.tag 5) (ob ty.desc.asSlice fun e=>ob (C.tys.get e) fun _=>ob (vR 0 0 lo hi) fun _=>some .nilslice)
def bU(cells:List zA)(off size:Nat)(v:zA):Option (List zA):=
 let vc:=v.cells
 let n:=zB vc
 xB (Nat.beq n size&&Nat.ble (off+n) (zB cells)) (some (iD (gZ cells off) (iD vc (dQ cells (off+n)))))
def dL(place:Nat->Option (Nat × Nat)):List (Nat × zA)->List zA->Option (List zA)
 | [],cells=>some cells
 | p::rest,cells=>ob (place p.1) fun q=>ob (bU cells q.1 q.2 p.2) fun cells=>dL place rest cells
def jU(d:mE):Bool:=Nat.ble d.tag 2
def keyTag(v:zA):Nat:=v.tag
def Ff(d:mE)(v:zA):Bool:=Nat.beq d.tag (keyTag v)
def Ah(C:lA):List (Nat × Nat × Nat)->Nat->Bool
 | [],_=>true
 | f::fs,i=>bif Nat.beq f.1 i then(match C.tys.get f.2.1 with
  | some ty=>bif jU ty.desc then Ah C fs (i+1)else false
  | none=>false)else false
def kU(C:lA)(ty:nD):Bool:=bif jU ty.desc then true else match ty.desc.asStruct with
 | some fs=>bif ty.eqOk then Ah C fs 0 else false
 | none=>false
def Ak(C:lA):List (Nat × Nat × Nat)->List zA->Bool
 | [],[]=>true
 | f::fs,v::l=>(match C.tys.get f.2.1 with
  | some ty=>bif Ff ty.desc v then Ak C fs l else false
  | none=>false)
 | _,_=>false
def tS(C:lA)(ty:nD)(v:zA):Bool:=bif jU ty.desc then Ff ty.desc v else match ty.desc.asStruct with
 | some fs=>(match v.asAgg with
  | some l=>Ak C fs l
  | none=>false)
 | none=>false
def aQ(a b:zA):Option Bool:=
 match a.asIntK with
 | some x=>ob b.asIntK fun y=>xB (tN x.1 y.1) (some (aB x.2 y.2))
 | none=>match a.asStr with
  | some x=>ob b.asStr fun y=>some (oG x y)
  | none=>Io a b
def nU:List zA->List zA->Option Bool
 | [],[]=>some true
 | a::x,b::y=>ob (aQ a b) fun r=>ob (nU x y) fun s=>some (r&&s)
 | _,_=>none
def mI(a b:zA):Option Bool:=
 match a.asAgg with
 | some x=>ob b.asAgg fun y=>nU x y
 | none=>aQ a b
def sL(k:zA):List (zA × zA)->Option (Option zA)
 | []=>some none
 | e::l=>ob (mI k e.1) fun r=>bif r then some (some e.2)else sL k l
def bN(k v:zA):List (zA × zA)->Option (List (zA × zA))
 | []=>some [(k,v)]
 | e::l=>ob (mI k e.1) fun r=>bif r then some ((k,v)::l)else ob (bN k v l) fun l=>some (e::l)
abbrev uK:=lA->yD->xA->Option zA
def cZ:uK:=fun _ _ _=>none
def yO(x:Operand):uK:=fun _ e _=>ev x e
def Mg(c a b:Operand):uK:=fun _ e _=>ob (ev c e) fun c=>ob c.asBool fun c=>bif c then ev a e else ev b e
def qW(t:Nat)(a:Operand):uK:=fun C e H=>ob (ev a e) fun v=>ob v.asPtr fun p=>ob (C.tys.get t) fun ty=>ob (mD H p.1) fun c=>wS ty c.1 p.2
def bZ (x:Operand):uK:=fun _ e _=>ob (ev x e) fun v=>xB (Nat.beq v.tag 4||Nat.beq v.tag 9) (some v)
def jW (op:BinOp)(t:Nat)(x y:Operand):uK:=fun C e _=>ob (ev x e) fun a=>ob (ev y e) fun b=>(aP op).f C t x y a b
def lUn (op:UnOp)(x:Operand):uK:=fun _ e _=>ob (ev x e) fun a=>(unA op).f a
def gP(s d:Nat)(x:Operand):uK:=fun C e H=>ob (ev x e) fun a=>ob (C.tys.get s) fun s=>ob (C.tys.get d) fun d=>wV C s d a H
def Cl(t:Nat)(x:Operand):uK:=fun C e _=>ob (C.tys.get t) fun ty=>xB (Nat.blt ty.desc.tag 9) (ob (ev x e) fun v=>some (.iface t v))
def Ia(f:Nat)(a b:Array Operand):uK:=fun _ e _=>ob (wO a.toList e) fun a=>ob (wO b.toList e) fun b=>some (.func (.func f) a b)
structure LB where f:uK
def Cm(fn:Fn)(a b:Array Operand):LB:=
 match fn with
 | .func f=>⟨Ia f a b⟩
 | _=>⟨cZ⟩
def dZ(t:Nat)(x:Operand)(lo hi:Option Operand):uK:=fun C e H=>
 ob (ev x e) fun a=>ob (kT lo e) fun l=>ob (kT hi e) fun h=>ob (C.tys.get t) fun ty=>dN C H ty a l h
def Mf(t:Nat)(x:Operand)(lo hi mx:Option Operand):LB:=
 match mx with
 | none=>⟨dZ t x lo hi⟩
 | some _=>⟨cZ⟩
def mW(s:Nat)(x:Operand)(f:Nat):uK:=fun C e _=>
 ob (C.tys.get s) fun ty=>ob ty.desc.asStruct fun fs=>ob (vD fs f) fun fd=>xB (!Nat.beq fd.2.2 0) (ob (ev x e) fun v=>ob v.asPtr fun p=>some (.ptr p.1 (p.2+fd.1)))
def Cn(t:Nat)(x:Operand)(f:Nat):uK:=fun C e _=>
 ob (C.tys.get t) fun ty=>ob ty.desc.asStruct fun fs=>ob (vD fs f) fun fd=>ob (ev x e) fun v=>ob v.asAgg fun l=>jQ C fd.2.1 l fd.1
def oW(t:Nat)(x i:Operand):uK:=fun C e _=>
 ob (C.tys.get t) fun ty=>ob (ev x e) fun v=>ob (ev i e) fun i=>ob i.asNat fun i=>
  match v.asSlice with
  | some s=>ob ty.desc.asSlice fun el=>ob (C.tys.get el) fun et=>xB (Nat.blt i s.2.2.1) (some (.ptr s.1 (s.2.1+i*et.size)))
  | none=>ob v.asPtr fun p=>ob ty.desc.asArr fun a=>ob (C.tys.get a.2) fun et=>xB (Nat.blt i a.1) (some (.ptr p.1 (p.2+i*et.size)))
def nW(t:Nat)(x i:Operand):uK:=fun C e _=>
 ob (C.tys.get t) fun ty=>ob (ev x e) fun v=>ob (ev i e) fun i=>ob i.asNat fun i=>
  match v.asStr with
  | some s=>xB ty.desc.isString (ob (vD s i) fun b=>some (.int .u8 (.ofNat b)))
  | none=>ob v.asAgg fun l=>ob ty.desc.asArr fun a=>ob (C.tys.get a.2) fun et=>xB (Nat.blt i a.1) (jQ C a.2 l (i*et.size))
def lW(t:Operand)(i:Nat):uK:=fun _ e _=>ob (ev t e) fun v=>ob v.asTup fun l=>vD l i
def vY(t:Nat)(parts:Array (Nat × Operand)):uK:=fun C e _=>
 ob (C.tys.get t) fun ty=>ob (lT parts.toList e) fun ps=>
  match ty.desc.asStruct with
  | some fs=>ob (dL (fun i=>ob (vD fs i) fun x=>some (x.1,x.2.2)) ps ty.zero) fun l=>some (.agg l)
  | none=>ob ty.desc.asArr fun a=>ob (C.tys.get a.2) fun et=>ob (dL (fun i=>some (i*et.size,et.size)) ps ty.zero) fun l=>some (.agg l)
def iW(x:Operand)(asserted:Nat)(ok:Bool):uK:=fun C e _=>
 ob (C.tys.get asserted) fun ty=>xB (Nat.blt ty.desc.tag 9) (ob (ev x e) fun v=>
  match v.asIface with
  | some p=>bif Nat.beq p.1 asserted then some (bif ok then .tup [p.2,.bool true]else p.2)else xB ok (some (.tup [mX ty,.bool false]))
  | none=>xB (Nat.beq v.tag 12&&ok) (some (.tup [mX ty,.bool false])))
def xW(H:xA)(v:zA):Option (List (zA × zA)):=
 match v.asMap with
 | some b=>rL H b
 | none=>xB (Nat.beq v.tag 7) (some [])
def rW(t:Nat)(x i:Operand)(ok:Bool):uK:=fun C e H=>
 ob (C.tys.get t) fun ty=>ob ty.desc.asMap fun ke=>ob (C.tys.get ke.1) fun kty=>xB (kU C kty) (ob (C.tys.get ke.2) fun ety=>
  ob (ev x e) fun m=>ob (xW H m) fun es=>ob (ev i e) fun k=>xB (tS C kty k) (ob (sL k es) fun r=>
   match r with
   | some v=>some (bif ok then .tup [v,.bool true]else v)
   | none=>some (bif ok then .tup [mX ety,.bool false]else mX ety)))
def oU (H:xA)(ty:nD)(v:zA):Option Nat:=
 match v.asStr with
 | some s=>xB ty.desc.isString (some (zB s))
 | none=>match v.asSlice with
  | some s=>xB (Nat.beq ty.desc.tag 4) (some s.2.2.1)
  | none=>match ty.desc.asArr with
   | some a=>some a.1
   | none=>match v.asMap with
    | some b=>xB (Nat.beq ty.desc.tag 6) (ob (rL H b) fun l=>some (zB l))
    | none=>xB ((Nat.beq ty.desc.tag 4&&Nat.beq v.tag 5)||(Nat.beq ty.desc.tag 6&&Nat.beq v.tag 7)) (some 0)
def cQ (c:Call):uK:=fun C e H=>
 ob (vD c.argTypes.toList 0) fun t=>ob (vD c.args.toList 0) fun x=>ob (C.tys.get t) fun ty=>ob (ev x e) fun v=>ob (oU H ty v) fun n=>some (.int .i64 (.ofNat n))
def two (c:Call)(e:yD):Option (zA × zA):=
 match c.args.toList with
 | [x,y]=>ob (ev x e) fun a=>ob (ev y e) fun b=>some (a,b)
 | _=>none
def sW (c:Call):uK:=fun _ e _=>ob (two c e) fun p=>ob p.1.asIntK fun x=>ob p.2.asIntK fun y=>some (.int x.1 (bif bB x.2 y.2 then y.2 else x.2))
def tW (c:Call):uK:=fun _ e _=>ob (two c e) fun p=>ob p.1.asIntK fun x=>ob p.2.asIntK fun y=>some (.int x.1 (bif bB y.2 x.2 then y.2 else x.2))
def Ri(c:Call):Builtin->LB
 | .len=>⟨cQ c⟩
 | .max=>⟨sW c⟩
 | .min=>⟨tW c⟩
 | _=>⟨cZ⟩
def oT(c:Call):Callee->LB
 | .builtin b=>Ri c b
 | _=>⟨cZ⟩
def zjj(c:Call):LB:=oT c c.callee
def eF:Op->LB
 | .move x=>⟨yO x⟩
 | .assign x=>⟨yO x⟩
 | .pick c a b=>⟨Mg c a b⟩
 | .load t a=>⟨qW t a⟩
 | .nilCheck x=>⟨bZ x⟩
 | .binOp op t x y _=>⟨jW op t x y⟩
 | .unOp op _ x=>⟨lUn op x⟩
 | .convert s d x=>⟨gP s d x⟩
 | .makeInterface t x=>⟨Cl t x⟩
 | .makeFunc fn a b=>Cm fn a b
 | .slice t x lo hi mx=>Mf t x lo hi mx
 | .fieldAddr s x f=>⟨mW s x f⟩
 | .field t x f=>⟨Cn t x f⟩
 | .indexAddr t x i=>⟨oW t x i⟩
 | .index t x i=>⟨nW t x i⟩
 | .extract t i=>⟨lW t i⟩
 | .build t ps=>⟨vY t ps⟩
 | .typeAssert x _ u ok=>⟨iW x u ok⟩
 | .lookup t x i ok=>⟨rW t x i ok⟩
 | .call c=>zjj c
 | _=>⟨cZ⟩
inductive kK where
 | val (v:zA) (H:xA)
 | enter (f:Nat) (args:List zA)
 | round (l:Nat) (args:List zA)
 | defer (d:mH)
 | panic (v:zA)
 | recover
 | fail
abbrev rR:=lA->yD->xA->kK
structure HB where f:rR
def mL (x:Option (zA × xA)):kK:=
 match x with
 | some p=>.val p.1 p.2
 | none=>.fail
def qZ (x:Option kK):kK:=
 match x with
 | some r=>r
 | none=>.fail
def lv (f:uK):rR:=fun C e H=>
 match f C e H with
 | some v=>.val v H
 | none=>.fail
def newBlk(H:xA)(b:vA):xA:=⟨H.next+1,H.t.set H.next b⟩
def fF(H:xA)(l:List zA)(loose:Option Lo):xA:=newBlk H (.cells (Tr.ofList l) (zB l) loose)
def setBlk(H:xA)(b:Nat)(x:vA):xA:=⟨H.next,H.t.set b x⟩
def pI (zero:List zA):Nat->List zA
 | 0=>[]
 | n+1=>iD zero (pI zero n)
def Ck(v:zA):Option Nat:=
 match v.asSlice with
 | some s=>some s.2.2.1
 | none=>match v.asStr with
  | some s=>some (zB s)
  | none=>xB (Nat.beq v.tag 5) (some 0)
def oY(l:List Nat):List zA:=l.map fun n=>zA.int .u8 (Int.ofNat n)
def eW(H:xA)(size n:Nat)(v:zA):Option (List zA):=
 match v.asSlice with
 | some s=>ob (mD H s.1) fun c=>c.1.many (n*size) s.2.1
 | none=>match v.asStr with
  | some s=>some (oY (gZ s n))
  | none=>xB (Nat.beq v.tag 5) (some [])
def mJ(C:lA)(H:xA)(b off:Nat)(l:List zA):Option xA:=
 xB (!Nat.blt b C.base) (ob (mD H b) fun c=>
  xB (Nat.ble (off+zB l) c.2.1&&kB zA.one l) (some (setBlk H b (.cells (c.1.setMany l off) c.2.1 c.2.2))))
def dU(et:nD)(len cap n:Nat)(new:List zA):Bool:=
 Nat.blt (len+n+cap) 1000000000&&Nat.blt ((len+n+cap)*et.bytes) 1000000000&&Nat.blt et.bytes 1000000000 && !Nat.beq et.size 0&&Nat.beq (zB new) (n*et.size)&&Nat.beq (zB et.zero) et.size
def JR(et:nD):Bool:=match et.desc with | .int .u8=>true | _=>false
def bM(e:Nat)(et:nD):Lo:=bif Nat.beq et.size 1&&JR et then .ty e else .sz et.size
def nT(H:xA)(e:Nat)(et:nD)(n:Nat)(new:List zA):Option (zA × xA):=
 bif Nat.beq n 0 then some (.nilslice,H)else
  xB (dU et 0 0 n new) (some (.slice H.next 0 n n,fF H new (some (bM e et))))
def rY(C:lA)(H:xA)(et:nD)(n:Nat)(new:List zA)(s:Nat × Nat × Nat × Nat):Option (zA × xA):=
 match new with
 | []=>some (.slice s.1 s.2.1 (s.2.2.1+n) s.2.2.2,H)
 | _::_=>ob (mJ C H s.1 (s.2.1+s.2.2.1*et.size) new) fun H'=>some (.slice s.1 s.2.1 (s.2.2.1+n) s.2.2.2,H')
def Ij(H:xA)(e:Nat)(et:nD)(n:Nat)(new:List zA)(s:Nat × Nat × Nat × Nat)(c:Tr zA):Option (zA × xA):=
 ob (c.many (s.2.2.1*et.size) s.2.1) fun old=>some (.slice H.next 0 (s.2.2.1+n) (s.2.2.1+n),fF H (iD old new) (some (bM e et)))
def Fj(C:lA)(H:xA)(e:Nat)(et:nD)(n:Nat)(new:List zA)(s:Nat × Nat × Nat × Nat)(c:Tr zA)(m:Nat)(lo:Lo):Option (zA × xA):=
 xB (Nat.beq s.2.1 0&&loEq lo (bM e et)&&Nat.ble (s.2.2.1*et.size) m&&Nat.ble m ((s.2.2.1+n)*et.size)&&kB zA.one new && !Nat.blt s.1 C.base)
  (some (.slice H.next 0 (s.2.2.1+n) (s.2.2.1+n),⟨H.next+1,(H.t.del s.1).set H.next (.cells (c.setMany new (s.2.2.1*et.size)) ((s.2.2.1+n)*et.size) (some lo))⟩))
def fW(C:lA)(H:xA)(e:Nat)(et:nD)(n:Nat)(new:List zA)(s:Nat × Nat × Nat × Nat):Option (zA × xA):=
 xB (!(Nat.beq s.2.1 1&&Nat.beq s.2.2.2 0)) (xB (dU et s.2.2.1 s.2.2.2 n new) (ob (mD H s.1) fun c=>
  match c.2.2 with
  | none=>Ij H e et n new s c.1
  | some lo=>Fj C H e et n new s c.1 c.2.1 lo))
def wX(C:lA)(H:xA)(ty:nD)(s x:zA):Option (zA × xA):=
 ob ty.desc.asSlice fun e=>ob (C.tys.get e) fun et=>ob (Ck x) fun n=>ob (eW H et.size n x) fun new=>
  match s.asSlice with
  | some s=>bif Nat.ble (s.2.2.1+n) s.2.2.2 then rY C H et n new s else fW C H e et n new s
  | none=>xB (Nat.beq s.tag 5) (nT H e et n new)
def isBld(C:lA)(t:Nat):Bool:=
 match ob (C.tys.get t) fun ty=>ob ty.desc.asStruct fun fs=>ob (vD fs 0) fun f=>ob (C.tys.get f.2.1) fun tf=>some tf.desc with
 | some (.ptr e)=>Nat.beq e t
 | _=>false
def jK(C:lA)(t:Nat):Option Lo:=
 bif isBld C t then some (.ty t)else
 match ob (C.tys.get t) fun ty=>ob ty.desc.asStruct fun fs=>ob (vD fs 0) fun f=>some (isBld C f.2.1)with
 | some true=>some (.ty t)
 | _=>none
def Cs(t:Nat):rR:=fun C _ H=>mL (ob (C.tys.get t) fun ty=>some (.ptr H.next 0,fF H ty.zero (jK C t)))
def Ae (t:Nat)(x:Operand):rR:=fun C e H=>mL (ob (ev x e) fun v=>some (.ptr H.next 0,fF H v.cells (jK C t)))
def fZ (C:lA):Op->Option Lo
 | .alloc t=>jK C t
 | .box t _=>jK C t
 | _=>none
def Cr(t len:Nat)(parts:Array (Nat × Operand)):rR:=fun C e H=>mL (ob (C.tys.get t) fun ty=>ob ty.desc.asSlice fun el=>ob (C.tys.get el) fun et=>
 xB (Nat.blt (len*et.size) 1000000&&Nat.beq (zB et.zero) et.size) (ob (lT parts.toList e) fun ps=>ob (dL (fun i=>some (i*et.size,et.size)) ps (pI et.zero len)) fun l=>some (.slice H.next 0 len len,fF H l none)))
def Mp(t:Nat)(a x:Operand):rR:=fun C e H=>mL (ob (C.tys.get t) fun ty=>ob (ev a e) fun a=>ob a.asPtr fun p=>ob (ev x e) fun v=>
 let l:=v.cells
 xB (Nat.beq (zB l) ty.size) (ob (mJ C H p.1 p.2 l) fun H'=>some (jD,H')))
def Mr(r:Option Operand):rR:=fun _ _ H=>
 match r with
 | none=>.val (.map H.next) (newBlk H (.map []))
 | some _=>.fail
def Cq(t:Nat)(m k x:Operand):rR:=fun C e H=>mL (ob (C.tys.get t) fun ty=>ob ty.desc.asMap fun ke=>ob (C.tys.get ke.1) fun kty=>xB (kU C kty)
 (ob (ev m e) fun m=>ob m.asMap fun b=>xB (!Nat.blt b C.base) (ob (rL H b) fun l=>ob (ev k e) fun k=>xB (tS C kty k) (ob (ev x e) fun v=>ob (bN k v l) fun l'=>some (jD,setBlk H b (.map l'))))))
def Za(t:Nat)(l c:Operand):rR:=fun C e H=>mL (ob (C.tys.get t) fun ty=>ob ty.desc.asSlice fun el=>ob (C.tys.get el) fun et=>
 ob (ev l e) fun l=>ob l.asNat fun l=>ob (ev c e) fun c=>ob c.asNat fun c=>
  xB (Nat.ble l c&&Nat.blt c 1000000&&Nat.blt (c*et.bytes) 1000000000&&Nat.beq (zB et.zero) et.size) (some (.slice H.next 0 l c,fF H (pI et.zero c) none)))
def sY(s d:Nat)(x:Operand):rR:=fun C e H=>
 match gP s d x C e H with
 | some v=>.val v H
 | none=>mL (ob (C.tys.get s) fun _=>ob (C.tys.get d) fun ty=>ob ty.desc.asSlice fun el=>ob (C.tys.get el) fun et=>ob et.desc.asInt fun k=>xB (tN k .u8) (ob (ev x e) fun v=>ob v.asStr fun l=>
   some (.slice H.next 0 (zB l) (zB l),fF H (oY l) (some (.ty el)))))
def Mq(x:Operand):rR:=fun _ e _=>qZ (ob (ev x e) fun v=>ob v.asIface fun p=>some (.panic (.iface p.1 p.2)))
def jR(f:Operand)(args:Array Operand)(e:yD):Option (AFn × List zA × List zA):=
 ob (ev f e) fun v=>ob v.asFunc fun p=>ob (wO args.toList e) fun as=>some (p.1,iD p.2.1 as,p.2.2)
def Rt(c:Call):Callee->HB
 | .value f=>⟨fun _ e _=>qZ (ob (jR f c.args e) fun p=>some (.defer ⟨some p.1,0,iD p.2.1 p.2.2⟩))⟩
 | _=>⟨fun _ _ _=>.fail⟩
def hDefer(c:Call):HB:=Rt c c.callee
def eO(g:List zA->xA->Option zA):List zA->xA->Option (zA × xA):=fun args H=>ob (g args H) fun v=>some (v,H)
def Ix(_:lA)(H:xA)(args:List zA)(f:Nat):Option (List zA->xA->Option (zA × xA))->kK
 | some g=>match g args H with
  | some p=>.val p.1 p.2
  | none=>.fail
 | none=>.enter f args
def NI(l:Nat)(args:List zA):List zA->kK
 | []=>.round l args
 | _::_=>.fail
def zkv(C:lA)(H:xA)(args cap:List zA):AFn->kK
 | .func f=>Ix C H (iD args cap) f (C.prims.get f)
 | .yld l=>NI l args cap
def Fi(f:Operand)(args:Array Operand):rR:=fun C e H=>qZ (ob (jR f args e) fun p=>some (zkv C H p.2.1 p.2.2 p.1))
def Ii(c:Call):rR:=fun C e H=>mL (ob (vD c.argTypes.toList 0) fun t=>ob (C.tys.get t) fun ty=>ob (vD c.argTypes.toList 1) fun u=>ob (C.tys.get u) fun uty=>
 xB (!Nat.beq uty.desc.tag 1) (ob (two c e) fun p=>wX C H ty p.1 p.2))
def zj2:rR:=fun _ _ _=>.fail
def zdl:rR:=fun _ _ _=>.recover
def zdm(c:Call):Builtin->HB
 | .append=>⟨Ii c⟩
 | .len=>⟨lv (cQ c)⟩
 | .max=>⟨lv (sW c)⟩
 | .min=>⟨lv (tW c)⟩
 | .recover=>⟨zdl⟩
 | _=>⟨zj2⟩
def Ih(c:Call):Callee->HB
 | .value f=>⟨Fi f c.args⟩
 | .builtin b=>zdm c b
 | _=>⟨zj2⟩
def hCall(c:Call):HB:=Ih c c.callee
def lvB (b:LB):HB:=⟨lv b.f⟩
def gE:Op->HB
 | .move x=>⟨lv (yO x)⟩
 | .assign x=>⟨lv (yO x)⟩
 | .pick c a b=>⟨lv (Mg c a b)⟩
 | .load t a=>⟨lv (qW t a)⟩
 | .nilCheck x=>⟨lv (bZ x)⟩
 | .binOp op t x y _=>⟨lv (jW op t x y)⟩
 | .unOp op _ x=>⟨lv (lUn op x)⟩
 | .makeInterface t x=>⟨lv (Cl t x)⟩
 | .makeFunc fn a b=>lvB (Cm fn a b)
 | .slice t x lo hi mx=>lvB (Mf t x lo hi mx)
 | .fieldAddr s x f=>⟨lv (mW s x f)⟩
 | .field t x f=>⟨lv (Cn t x f)⟩
 | .indexAddr t x i=>⟨lv (oW t x i)⟩
 | .index t x i=>⟨lv (nW t x i)⟩
 | .extract t i=>⟨lv (lW t i)⟩
 | .build t ps=>⟨lv (vY t ps)⟩
 | .typeAssert x _ u ok=>⟨lv (iW x u ok)⟩
 | .lookup t x i ok=>⟨lv (rW t x i ok)⟩
 | .convert s d x=>⟨sY s d x⟩
 | .alloc t=>⟨Cs t⟩
 | .box t x=>⟨Ae t x⟩
 | .buildSlice t len ps=>⟨Cr t len ps⟩
 | .store t a x=>⟨Mp t a x⟩
 | .makeMap _ r=>⟨Mr r⟩
 | .insert t m k x=>⟨Cq t m k x⟩
 | .mapUpdate t m k x=>⟨Cq t m k x⟩
 | .makeSlice t l c=>⟨Za t l c⟩
 | .panic x=>⟨Mq x⟩
 | .defer c=>hDefer c
 | .call c=>hCall c
 | _=>⟨zj2⟩
structure GB where f:Tm->Option Bool
def zg9(_:Tm):Option Bool:=some true
def Kb(d:Option Nat)(w:Bool)(tm:Tm):Option Bool:=
 ob d fun d=>ob (tm.get d) fun v=>match v.asBool with
  | some b=>some (bEq b w)
  | none=>some false
def Kc(g:Option (Nat × Bool))(all:Array Oper):GB:=
 match g with
 | none=>⟨zg9⟩
 | some jw=>⟨Kb (ob (vD all.toList jw.1) fun o=>o.dst) jw.2⟩
def wG(g:Option (Nat × Bool))(all:Array Oper)(tm:Tm):Option Bool:=(Kc g all).f tm
structure PB where f:Nat->Tm->zA->Tm
def Hj(d n:Nat)(tm:Tm)(v:zA):Tm:=bif Nat.blt d n then tm.set d v else tm
def putNo(_:Nat)(tm:Tm)(_:zA):Tm:=tm
def putB (dst:Option Nat):PB:=
 match dst with
 | some d=>⟨Hj d⟩
 | none=>⟨putNo⟩
def putA (n:Nat)(tm:Tm)(dst:Option Nat)(v:zA):Tm:=(putB dst).f n tm v
def pV.running:pV->Bool | .run=>true | _=>false
def nE.blockId:nE->Option Nat | .inBlock id=>some id | _=>none
def mT(id:Nat):List nE->Option (List nE)
 | []=>none
 | x::k=>match x.blockId with
  | some i=>bif Nat.beq i id then some k else mT id k
  | none=>mT id k
def zgm(all:Array Oper)(rest:List Oper)(k:List nE)(tm:Tm)(R:sK)(v:zA):Option iB:=
 match rest with
 | o::rest=>some ⟨.ops all rest::k,putA R.n tm o.dst v,R⟩
 | []=>none
def Zo(all:Array Oper)(old:Tm)(olds:List (Nat × List Nat))(stages:List lG)(k:List nE)(tm:Tm)(R:sK)(v:zA):Option iB:=
 match stages with
 | st::stages=>ob (vD all.toList st.heavy) fun o=>some ⟨.reg all old olds (⟨all.size,st.lights,st.again⟩::stages)::k,putA R.n tm o.dst v,R⟩
 | []=>none
def zds(l:Nat)(k:List nE)(tm:Tm)(R:sK)(_:zA):Option iB:=some ⟨.endRange l::k,tm,R⟩
def zdt(k:List nE)(tm:Tm)(R:sK)(_:zA):Option iB:=some ⟨k,tm,R⟩
def zka(_:List nE)(_:Tm)(_:sK)(_:zA):Option iB:=none
def Sa:nE->List nE->Tm->sK->zA->Option iB
 | .ops all rest=>zgm all rest
 | .reg all old olds stages=>Zo all old olds stages
 | .inRange l=>zds l
 | .beginRound=>zdt
 | _=>zka
def lH(fr:iB)(v:zA):Option iB:=
 match fr.todo with
 | []=>none
 | x::k=>bif fr.R.mode.running then Sa x k fr.tm fr.R v else none
def pK(C:lA)(f:Nat)(args:List zA)(deferred:Bool):Option iB:=
 ob (C.fns.get f) fun fn=>ob fn.body fun c=>ob (C.ks.get f) fun k=>xB (Nat.ble (zB args) k&&Nat.ble (zB args) fn.ntmps) (some ⟨[.code c],⟨k,Tr.ofList args,[]⟩,⟨f,fn.ntmps,[],.run,deferred,none⟩⟩)
def tZ(n:Nat):List Nat->List zA->Tm->Option (Tm)
 | [],[],tm=>some tm
 | p::ps,a::as,tm=>tZ n ps as (putA n tm (some p) a)
 | _,_,_=>none
def Ue:List Operand->List Nat
 | []=>[]
 | .tmp t::l=>t::Ue l
 | _::l=>Ue l
def eH(o:Op):List Nat:=Ue o.operands.toList
def oF(i:Nat):List (Nat × List Nat)->List Nat
 | []=>[]
 | x::r=>bif Nat.beq i x.1 then x.2 else oF i r
def same:Nat->zA->zA->Bool
 | _,.bool a,.bool b=>bEq a b
 | _,.int j a,.int k b=>tN j k&&aB a b
 | _,.str a,.str b=>oG a b
 | _,.nilptr,.nilptr=>true
 | _,.ptr a b,.ptr c d=>Nat.beq a c&&Nat.beq b d
 | _,.nilslice,.nilslice=>true
 | _,.slice a b c d,.slice e f g h=>Nat.beq a e&&Nat.beq b f&&Nat.beq c g&&Nat.beq d h
 | _,.nilmap,.nilmap=>true
 | _,.map a,.map b=>Nat.beq a b
 | _,.nilfunc,.nilfunc=>true
 | _,.niliface,.niliface=>true
 | d+1,.agg a,.agg b=>sames d a b
 | d+1,.tup a,.tup b=>sames d a b
 | _,_,_=>false
where
 sames (d:Nat):List zA->List zA->Bool
  | [],[]=>true
  | a::x,b::y=>same d a b&&sames d x y
  | _,_=>false
def vS(C:lA)(H:xA)(all:Array Oper)(n:Nat)(old:Tm)(olds:List (Nat × List Nat)):List Nat->Tm->Option (Tm)
 | [],tm=>some tm
 | i::l,tm=>ob (vD all.toList i) fun o=>ob (wG o.guard all tm) fun w=>ob (bif w then(eF o.op).f C (.mixed tm old (oF i olds) (eH o.op)) H else some jD) fun v=>
   vS C H all n old olds l (putA n tm o.dst v)
def Dd(C:lA)(H:xA)(all:Array Oper)(old:Tm)(olds:List (Nat × List Nat))(tm:Tm):List Nat->Bool
 | []=>true
 | i::l=>match (ob (vD all.toList i) fun o=>ob o.dst fun d=>ob (wG o.guard all tm) fun w=>bif w then(ob ((eF o.op).f C (.mixed tm old (oF i olds) (eH o.op)) H) fun v=>ob (tm.get d) fun u=>some (same 10 v u))else some true)with
  | some true=>Dd C H all old olds tm l
  | _=>false
def pV.chain:pV->Option (List Dk) | .panicking c=>some c | _=>none
def Ir:List Oper->Tr zA->Tr zA
 | [],t=>t
 | o::l,t=>match o.dst with
  | some j=>Ir l (t.del j)
  | none=>Ir l t
def Md(todo:List nE)(tm:Tm):Tm:=
 match todo with
 | .reg all _ _ _::_=>⟨tm.k,Ir all.toList tm.v,[]⟩
 | _=>tm
def aV(fr:iB)(l:List Dk):iB:=
 ⟨[],Md fr.todo fr.tm,⟨fr.R.fn,fr.R.n,fr.R.defers,.panicking (match fr.R.mode.chain with | some c=>iD l c | none=>l),fr.R.deferred,fr.R.roundOf⟩⟩
def gL(x:Option oR)(why:Nat):xG:=
 match x with
 | some s=>.next s
 | none=>.fail why
def tJ(H:xA)(l:Nat):Option vN:=xB (Nat.ble (nat_lit 256) l) (ob (H.t.get l) vA.asLoop)
def cW(H:xA)(l:Nat):Option (Option (List mH)):=xB (Nat.ble (nat_lit 256) l) (ob (H.t.get l) vA.asDeferred)
def Eo (v:zA)(H':xA)(_:lA)(fr:iB)(cs:List iB)(_:xA):xG:=gL (ob (lH fr v) fun fr=>some ⟨fr,cs,H'⟩) 1
def Li(f:Nat)(args:List zA)(C:lA)(fr:iB)(cs:List iB)(H:xA):xG:=gL (ob (pK C f args false) fun g=>some ⟨g,fr::cs,H⟩) 2
def Lg(l:Nat)(args:List zA)(_:lA)(fr:iB)(cs:List iB)(H:xA):xG:=
 gL (ob (tJ H l) fun r=>ob (tZ r.n r.params args r.tm) fun tm=>some ⟨⟨[.code r.assign,.beginRound,.code r.body],tm,⟨r.fn,r.n,[],.run,false,some l⟩⟩,fr::cs,H⟩) 3
def Xb(d:mH)(_:lA)(fr:iB)(cs:List iB)(H:xA):xG:=
 gL (match fr.R.roundOf with
  | none=>ob (lH fr jD) fun g=>some ⟨⟨g.todo,g.tm,⟨g.R.fn,g.R.n,d::g.R.defers,g.R.mode,g.R.deferred,g.R.roundOf⟩⟩,cs,H⟩
  | some _=>none) 4
def zfl(v:zA)(_:lA)(fr:iB)(cs:List iB)(H:xA):xG:=.next ⟨aV fr [⟨v,false⟩],cs,H⟩
def Lh(_:lA)(fr:iB)(cs:List iB)(H:xA):xG:=
 gL (match fr.R.roundOf,fr.R.deferred,cs with
  | none,true,c::rest=>match c.R.mode with
   | .panicking (⟨v,false⟩::older)=>ob (lH fr v) fun fr=>some ⟨fr,⟨c.todo,c.tm,⟨c.R.fn,c.R.n,c.R.defers,.panicking (⟨v,true⟩::older),c.R.deferred,c.R.roundOf⟩⟩::rest,H⟩
   | .panicking _=>none
   | _=>ob (lH fr .niliface) fun fr=>some ⟨fr,cs,H⟩
  | _,_,_=>none) 5
def rFail(_:lA)(_:iB)(_:List iB)(_:xA):xG:=.fail 6
def Jd:kK->lA->iB->List iB->xA->xG
 | .val v H'=>Eo v H'
 | .enter f args=>Li f args
 | .round l args=>Lg l args
 | .defer d=>Xb d
 | .panic v=>zfl v
 | .recover=>Lh
 | .fail=>rFail
def kR(C:lA)(H:xA)(tm:Tm):ResultVar->Option zA
 | .tmp t=>tm.get t
 | .cell a t=>ob (ob (tm.get a) zA.asPtr) fun p=>ob (C.tys.get t) fun ty=>ob (mD H p.1) fun c=>wS ty c.1 p.2
def vU(C:lA)(H:xA)(tm:Tm)(l:List ResultVar):Option (List zA):=xH (kR C H tm) l
def Wp(jump:Option Code):Bool:=
 match jump with
 | none=>true
 | some .ret=>true
 | _=>false
def sZ(fr:iB)(m:pV):iB:=⟨fr.todo,fr.tm,⟨fr.R.fn,fr.R.n,fr.R.defers,m,fr.R.deferred,fr.R.roundOf⟩⟩
def rT(jump:Option Code)(_:lA)(fr:iB)(cs:List iB)(H:xA):xG:=
 gL (match fr.R.roundOf with
  | none=>xB (Wp jump) (some ⟨sZ fr .returning,cs,H⟩)
  | some l=>ob (tJ H l) fun r=>match cs with
   | c::rest=>xB (!fr.R.deferred) <| ob (lH c (.bool jump.isNone)) fun c=>some ⟨c,rest,setBlk H l (.loop ⟨if jump.isNone then .ready else .done,jump,r.fn,r.n,r.tm,r.params,r.assign,r.body,r.defers⟩)⟩
   | []=>none) 7
abbrev mN:=lA->List nE->Tm->sK->List iB->xA->xG
structure XB where f:mN
def xGo (todo:List nE)(tm:Tm)(R:sK)(cs:List iB)(H:xA):xG:=.next ⟨⟨todo,tm,R⟩,cs,H⟩
def Dn:mN:=fun _ k tm R cs H=>xGo k tm R cs H
def Jx(c:Operand)(x y:Code):mN:=fun _ k tm R cs H=>
 match ob (ev c (.now tm)) zA.asBool with
 | some b=>xGo (.code (bif b then x else y)::k) tm R cs H
 | none=>.fail 8
def zel(id:Nat)(c:Code):mN:=fun _ k tm R cs H=>xGo (.code c::.inBlock id::k) tm R cs H
def zg4(c:Code):mN:=fun _ k tm R cs H=>xGo (.code c::.inLoop c::k) tm R cs H
def xScope(c:Code):mN:=fun _ k tm R cs H=>xGo (.code c::.inScope c::k) tm R cs H
def Bg(id:Nat):mN:=fun C k tm R cs H=>
 match mT id k with
 | some k'=>xGo k' tm R cs H
 | none=>rT (some (.exit id)) C ⟨.code (.exit id)::k,tm,R⟩ cs H
def xRet:mN:=fun C k tm R cs H=>rT (some .ret) C ⟨.code .ret::k,tm,R⟩ cs H
def zg5:mN:=fun _ _ _ _ _ _=>.fail 9
def Gc(e:Edge):Bool:=
 match e.ground with
 | .textOnly _=>false
 | .gcOnly _=>false
 | _=>true
def tb (m i:Nat):Bool:=Nat.beq (Nat.mod (Nat.shiftRight m i) (nat_lit 2)) (nat_lit 1)
def Az(i:Nat):Nat:=Nat.shiftLeft (nat_lit 1) i
def iJ (t:Tr Nat)(i:Nat):Nat:=
 match t.get i with
 | some m=>m
 | none=>0
def Hy(t:Tr Nat):List Edge->Nat
 | []=>0
 | e::l=>bif Gc e then Nat.lor (Nat.lor (Az e.on) (iJ t e.on)) (Hy t l)else Hy t l
def zk0:List Oper->Nat->Tr Nat->Tr Nat
 | [],_,t=>t
 | o::r,i,t=>zk0 r (i+1) (t.set i (Hy t o.after.toList))
def Qn:List Oper->Nat->Bool
 | [],_=>true
 | o::r,i=>bif kB (fun e=>bif Gc e then Nat.blt e.on i else true) o.after.toList then Qn r (i+1)else false
def Gm:List Oper->Nat->Tr Nat->Option (Tr Nat)
 | [],_,t=>some t
 | o::r,i,t=>match o.dst with
  | none=>Gm r (i+1) t
  | some d=>match t.get d with
   | none=>Gm r (i+1) (t.set d i)
   | some _=>none
def tE{α:Type}:Option α->Bool | none=>true | some _=>false
def Xo(wr anc:Tr Nat)(i:Nat)(olds:List Nat)(t:Nat):Bool:=
 match wr.get t with
 | none=>true
 | some j=>bif dH t olds then(bif Nat.beq j i then true else tb (iJ anc j) i)else tb (iJ anc i) j
def Xp(anc:Nat):Option (Nat × Bool)->Bool
 | none=>true
 | some g=>tb anc g.1
def Ql(wr anc:Tr Nat)(olds:List (Nat × List Nat)):List Oper->Nat->Bool
 | [],_=>true
 | o::r,i=>bif Xp (iJ anc i) o.guard then(bif kB (Xo wr anc i (oF i olds)) (eH o.op)then Ql wr anc olds r (i+1)else false)else false
def tU:Op->Bool
 | .move _=>true
 | .assign _=>true
 | .pick _ _ _=>true
 | .nilCheck _=>true
 | .binOp _ _ _ _ _=>true
 | .unOp _ _ _=>true
 | .makeInterface _ _=>true
 | .makeFunc _ _ _=>true
 | .fieldAddr _ _ _=>true
 | .field _ _ _=>true
 | .indexAddr _ _ _=>true
 | .index _ _ _=>true
 | .extract _ _=>true
 | .build _ _=>true
 | .typeAssert _ _ _ _=>true
 | _=>false
def yZ (D:Nat)(o:Oper):Bool:=kB (fun e=>bif Gc e then tb D e.on else true) o.after.toList
def Qm(h D:Nat):List Oper->Nat->Bool
 | [],_=>true
 | o::r,i=>bif (bif tb D i then true else bif Nat.beq i h then true else !yZ D o)then Qm h D r (i+1)else false
def eL:Op->Bool
 | .alloc _=>true
 | .box _ _=>true
 | .buildSlice _ _ _=>true
 | _=>false
def Qq(m D:Nat)(again:List Nat):List Oper->Nat->Bool
 | [],_=>true
 | o::r,i=>bif (bif tb D i then(bif tb m i then true else bif tU o.op then true else bif eL o.op then true else dH i again)else true)then Qq m D again r (i+1)else false
def zY(ops:List Oper)(i D:Nat):Option Nat:=
 ob (vD ops i) fun o=>xB (bif tb D i then false else yZ D o) (some (Nat.lor D (Az i)))
def iQ(ops:List Oper):List Nat->Nat->Option Nat
 | [],D=>some D
 | i::l,D=>ob (zY ops i D) fun D=>iQ ops l D
def Qo(D:Nat):List Oper->Nat->Bool
 | [],_=>true
 | _::r,i=>bif tb D i then Qo D r (i+1)else false
def zjz:Option Oper->Bool
 | some o=>eL o.op
 | none=>false
def okG (ops:List Oper)(D:Nat):List Nat->Nat->Option Nat
 | [],E=>some E
 | i::l,E=>ob (vD ops i) fun o=>xB (!tb E i&&yZ D o&&tE o.dst) (okG ops D l (Nat.lor E (Az i)))
def Qk(anc:Tr Nat)(D1:Nat)(G:List Nat):List Oper->Nat->Bool
 | [],_=>true
 | o::r,i=>bif (bif tb D1 i then true else bif kB (fun g=>tb (iJ anc i) g) G then true else !yZ D1 o)then Qk anc D1 G r (i+1)else false
def Mm(o:Op):Bool:=
 match o with
 | .call c=>(match c.callee with
  | .builtin .len=>true
  | _=>false)
 | _=>false
def Qp(anc:Tr Nat)(D:Nat)(G:List Nat):List Oper->Nat->Bool
 | [],_=>true
 | o::r,i=>bif (bif tb D i then(bif tU o.op then true else bif eL o.op then true else bif Mm o.op then true else kB (fun g=>tb (iJ anc g) i) G)else true)then Qp anc D G r (i+1)else false
def GH(ops:List Oper)(anc:Tr Nat)(D:Nat)(st:lG):Option Nat:=
 ob (okG ops D st.again D) fun D1=>xB (Qk anc D1 st.again ops 0&&Qp anc D st.again ops 0) (iQ ops st.lights D1)
def yK(ops:List Oper)(anc:Tr Nat):List lG->Nat->Bool
 | [],D=>Qo D ops 0
 | st::r,D=>bif Nat.blt (zB ops) st.heavy then(bif Nat.blt (zB ops+zB ops) st.heavy then(match GH ops anc D st with
   | some D=>yK ops anc r D
   | none=>false)else bif zjz (vD ops (Nat.sub st.heavy (Nat.succ (zB ops))))then
   (match ob (zY ops (Nat.sub st.heavy (Nat.succ (zB ops))) D) fun D=>iQ ops st.lights D with
   | some D=>yK ops anc r D
   | none=>false)else false)else bif Qm st.heavy D ops 0 then(bif Qq (iJ anc st.heavy) D st.again ops 0 then
   (match ob (zY ops st.heavy D) fun D=>iQ ops st.lights D with
   | some D=>yK ops anc r D
   | none=>false)else false)else false
def Xn(ops:List Oper)(p:Plan):Bool:=
 bif Qn ops 0 then
  (match Gm ops 0 .leaf with
  | none=>false
  | some wr=>
   (fun anc=>bif Ql wr anc p.olds ops 0 then(match iQ ops p.first 0 with
    | some D=>yK ops anc p.stages D
    | none=>false)else false) (zk0 ops 0 .leaf))else false
structure OkB where b:Bool
def qU(all:Array Oper)(p:Plan):Bool:=(OkB.mk (Xn all.toList p)).b
def Jw(id:Nat)(all:Array Oper):mN:=fun C k tm R cs H=>
 gL (ob (ob (C.plans.get R.fn) fun t=>t.get id) fun p=>xB (qU all p) <| ob (vS C H all R.n tm.cut p.olds p.first tm.cut) fun tm'=>some ⟨⟨.reg all tm.cut p.olds p.stages::k,tm',R⟩,cs,H⟩) 10
def kK.asVal:kK->Option (zA × xA) | .val v H=>some (v,H) | _=>none
def wM(C:lA)(all:Array Oper)(k:List nE)(R:sK)(cs:List iB)(l:List Oper):Tm->xA->xG:=
 List.rec (motive:=fun _=>Tm->xA->xG) (fun tm H=>xGo k tm R cs H)
  (fun o rest g tm H=>
   match wG o.guard all tm with
   | some w=>Bool.rec (motive:=fun _=>xG) (g (putA R.n tm o.dst jD) H)
     (let r:=(gE o.op).f C (.now tm) H
     match r.asVal with
     | some p=>g (putA R.n tm o.dst p.1) p.2
     | none=>Jd r C ⟨.ops all (o::rest)::k,tm,R⟩ cs H) w
   | none=>.fail 20) l
def xOps (all:Array Oper)(rest:List Oper):mN:=fun C k tm R cs H=>wM C all k R cs rest tm H
def zg3(id:Nat)(all:Array Oper)(draw:Bool):XB:=
 match draw with
 | true=>⟨Jw id all⟩
 | false=>⟨fun C k tm R cs H=>wM C all k R cs all.toList tm.cut H⟩
def Ob(all:Array Oper)(old:Tm)(olds:List (Nat × List Nat))(st:lG)(stages:List lG)(o:Oper):mN:=fun C k tm R cs H=>
 match wG o.guard all tm with
 | some w=>Jd (bif w then(gE o.op).f C (.mixed tm old (oF st.heavy olds) (eH o.op)) H else .val jD H) C ⟨.reg all old olds (st::stages)::k,tm,R⟩ cs H
 | none=>.fail 21
def Ju(all:Array Oper)(old:Tm)(olds:List (Nat × List Nat))(st:lG)(stages:List lG):mN:=fun C k tm R cs H=>
 gL (xB (Dd C H all old olds tm st.again) (ob (vS C H all R.n old olds st.lights tm) fun tm=>some ⟨⟨.reg all old olds stages::k,tm,R⟩,cs,H⟩)) 11
def Od(all:Array Oper)(old:Tm)(olds:List (Nat × List Nat))(st:lG)(stages:List lG)(i:Nat):mN:=fun C k tm R cs H=>
 gL (ob (vD all.toList i) fun o=>ob (wG o.guard all tm) fun w=>xB (w&&tE (fZ C o.op)) (ob ((gE o.op).f C (.mixed tm old (oF i olds) (eH o.op)) H).asVal fun p=>
  ob (vS C p.2 all R.n old olds st.lights (putA R.n tm o.dst p.1)) fun tm'=>some ⟨⟨.reg all old olds stages::k,tm',R⟩,cs,p.2⟩)) 23
inductive kN where
 | store (t:Nat) (a v:zA)
 | upd (t:Nat) (m k v:zA)
inductive RE where
 | st (b off:Nat) (l:List zA)
 | up (b:Nat) (k v:zA)
def Ao(op:Op)(e:yD):Option kN:=
 match op with
 | .store t a x=>ob (ev a e) fun a=>ob (ev x e) fun v=>some (.store t a v)
 | .mapUpdate t m k x=>ob (ev m e) fun m=>ob (ev k e) fun k=>ob (ev x e) fun v=>some (.upd t m k v)
 | .insert t m k x=>ob (ev m e) fun m=>ob (ev k e) fun k=>ob (ev x e) fun v=>some (.upd t m k v)
 | _=>none
def dV (C:lA)(e:kN):Option RE:=
 match e with
 | .store t a v=>ob (C.tys.get t) fun ty=>ob a.asPtr fun p=>xB (Nat.beq (zB v.cells) ty.size) (some (.st p.1 p.2 v.cells))
 | .upd t m k v=>ob (C.tys.get t) fun ty=>ob ty.desc.asMap fun ke=>ob (C.tys.get ke.1) fun kty=>xB (kU C kty&&tS C kty k) (ob m.asMap fun b=>some (.up b k v))
def RE.blk:RE->Nat
 | .st b _ _=>b
 | .up b _ _=>b
def GO(a b:zA):Bool:=
 match mI a b with
 | some r => !r
 | none=>false
def AW(a b:RE):Bool:=bif Nat.beq a.blk b.blk then(match a with
 | .st _ _ _=>false
 | .up _ k _=>(match b with
  | .st _ _ _=>false
  | .up _ k' _=>GO k k'))else true
def Td:List RE->Bool
 | []=>true
 | a::l=>kB (AW a) l&&Td l
def Bb(C:lA)(H:xA)(e:RE):Option xA:=
 match e with
 | .st b off l=>mJ C H b off l
 | .up b k v=>xB (!Nat.blt b C.base) (ob (rL H b) fun m=>some (setBlk H b (.map (iD m [(k,v)]))))
def Hh(C:lA)(H:xA)(e:RE):Bool:=
 match e with
 | .st b off l => !tE (mJ C H b off l)
 | .up b _ _ => !Nat.blt b C.base&&(match rL H b with
  | some []=>true
  | _=>false)
def Gf(C:lA):List RE->xA->Option xA
 | [],H=>some H
 | e::l,H=>ob (Bb C H e) fun H=>Gf C l H
def Af(C:lA)(es:List kN)(H:xA):Option xA:=ob (xH (dV C) es) fun rs=>xB (Td rs&&kB (Hh C H) rs) (Gf C rs H)
def pY(all:Array Oper)(old:Tm)(olds:List (Nat × List Nat))(tm:Tm)(i:Nat):Option kN:=
 ob (vD all.toList i) fun o=>ob (wG o.guard all tm) fun w=>xB w (Ao o.op (.mixed tm old (oF i olds) (eH o.op)))
def Rh(C:lA)(o:Oper):Bool:=
 match o.op with
 | .call c=>(match c.callee with
  | .builtin .len=>(match ob (vD c.argTypes.toList 0) fun t=>C.tys.get t with
   | some ty => !Nat.beq ty.desc.tag 6
   | none=>false)
  | _=>true)
 | _=>true
def wY(C:lA)(all:Array Oper):Bool:=kB (Rh C) all.toList
def Iq(all:Array Oper)(old:Tm)(olds:List (Nat × List Nat))(tm:Tm)(l:List Nat):Option (List kN):=xH (pY all old olds tm) l
def Oc(all:Array Oper)(old:Tm)(olds:List (Nat × List Nat))(st:lG)(stages:List lG):mN:=fun C k tm R cs H=>
 gL (xB (wY C all) (ob (Iq all old olds tm st.again) fun es=>ob (Af C es H) fun H'=>ob (vS C H' all R.n old olds st.lights tm) fun tm'=>some ⟨⟨.reg all old olds stages::k,tm',R⟩,cs,H'⟩)) 24
def dS (all:Array Oper)(old:Tm)(olds:List (Nat × List Nat))(stages:List lG):mN:=
 match stages with
 | []=>Dn
 | st::stages=>match vD all.toList st.heavy with
  | some o=>Ob all old olds st stages o
  | none=>bif Nat.blt (zB all.toList) st.heavy then(bif Nat.blt (zB all.toList+zB all.toList) st.heavy then Oc all old olds st stages else Od all old olds st stages (Nat.sub st.heavy (Nat.succ (zB all.toList))))else Ju all old olds st stages
def pZ(C:lA)(l:Nat)(f:zA):Option iB:=
 ob f.asFunc fun p=>match p.1 with
  | .func g=>match C.prims.get g with
   | none=>pK C g (iD p.2.1 (.func (.yld l) [] []::p.2.2)) false
   | some _=>none
  | .yld _=>none
def Jt(f:Operand)(params:Array Nat)(assign body:Code):mN:=fun C k tm R cs H=>
 gL (ob (ev f (.now tm)) fun v=>match R.roundOf with
  | none=>
   let r:=H.next
   let l:=r+1
   ob (pZ C l v) fun h=>
    some ⟨h,⟨.inRange l::k,tm,⟨R.fn,R.n,⟨none,r,[]⟩::R.defers,R.mode,R.deferred,R.roundOf⟩⟩::cs,
     newBlk (newBlk H (.deferred (some []))) (.loop ⟨.ready,none,R.fn,R.n,tm,params.toList,assign,body,r⟩)⟩
  | some outer=>ob (tJ H outer) fun o=>
   let l:=H.next
   ob (pZ C l v) fun h=>
    some ⟨h,⟨.inRange l::k,tm,R⟩::cs,newBlk H (.loop ⟨.ready,none,R.fn,R.n,tm,params.toList,assign,body,o.defers⟩)⟩) 12
def LoopState.tag:LoopState->Nat | .ready=>0 | .busy=>1 | .done=>2 | .exhausted=>3
def Jy:mN:=fun _ k tm R cs H=>
 gL (ob R.roundOf fun l=>ob (tJ H l) fun r=>xB (Nat.beq (LoopState.tag r.state) 0)
  (some ⟨⟨k,tm,R⟩,cs,setBlk H l (.loop ⟨.busy,r.pending,r.fn,r.n,r.tm,r.params,r.assign,r.body,r.defers⟩)⟩)) 13
def Jv(l:Nat):mN:=fun _ k tm R cs H=>
 gL (ob (tJ H l) fun r=>xB (!Nat.beq (LoopState.tag r.state) 1)
  (some ⟨⟨(match r.pending with | some c=>.code c::k | none=>k),tm,R⟩,cs,setBlk H l (.loop ⟨.exhausted,r.pending,r.fn,r.n,r.tm,r.params,r.assign,r.body,r.defers⟩)⟩)) 14
def zg6:Code->XB
 | .skip=>⟨Dn⟩
 | .region id ops d=>zg3 id ops d
 | .seq a b=>⟨fun C k tm R cs H=>(zg6 a).f C (.code b::k) tm R cs H⟩
 | .cond c x y=>⟨Jx c x y⟩
 | .block id c=>⟨zel id c⟩
 | .loop c=>⟨zg4 c⟩
 | .rangeFunc f ps a b=>⟨Jt f ps a b⟩
 | .exit id=>⟨Bg id⟩
 | .scope c=>⟨xScope c⟩
 | .label _=>⟨Dn⟩
 | .goto _=>⟨zg5⟩
 | .ret=>⟨xRet⟩
 | .refuse _=>⟨zg5⟩
def xItem:nE->XB
 | .code c=>zg6 c
 | .inBlock _=>⟨Dn⟩
 | .inLoop c=>⟨zg4 c⟩
 | .inScope _=>⟨Dn⟩
 | .ops all rest=>⟨xOps all rest⟩
 | .reg all old olds stages=>⟨dS all old olds stages⟩
 | .inRange _=>⟨zg5⟩
 | .endRange l=>⟨Jv l⟩
 | .beginRound=>⟨Jy⟩
def mS(C:lA)(todo:List nE)(tm:Tm)(R:sK)(cs:List iB)(H:xA):xG:=
 match todo with
 | []=>rT none C ⟨[],tm,R⟩ cs H
 | x::k=>(xItem x).f C k tm R cs H
def ED(fr:iB)(d:List mH):iB:=⟨fr.todo,fr.tm,⟨fr.R.fn,fr.R.n,d,fr.R.mode,fr.R.deferred,fr.R.roundOf⟩⟩
def Eb(C:lA)(d:mH)(ds:List mH)(fr:iB)(cs:List iB)(H:xA):xG:=
 gL (match d.fn with
  | none=>ob (cW H d.r) fun l=>ob l fun l=>some ⟨ED fr (iD l ds),cs,setBlk H d.r (.deferred none)⟩
  | some (.func f)=>match C.prims.get f with
   | none=>ob (pK C f d.args true) fun g=>some ⟨g,ED fr ds::cs,H⟩
   | some _=>none
  | some (.yld _)=>none) 15
def Ec(l:List zA):zA:=
 match l with
 | [v]=>v
 | l=>.tup l
def Ea(C:lA)(fr:iB)(cs:List iB)(H:xA):xG:=
 match ob (C.fns.get fr.R.fn) fun fn=>vU C H fr.tm fn.results.toList with
 | none=>.fail 16
 | some l=>
  match cs with
  | []=>bif fr.R.deferred then .fail 17 else bif Nat.beq fr.R.fn C.root then .done (Ec l) H else .fail 22
  | c::rest=>gL (bif fr.R.deferred then
    (match c.R.mode with
    | .panicking (⟨_,true⟩::_)=>some ⟨sZ c .returning,rest,H⟩
    | _=>xB (!c.R.mode.running) (some ⟨c,rest,H⟩))
   else ob (lH c (Ec l)) fun c=>some ⟨c,rest,H⟩) 18
def Om(C:lA)(fr:iB)(cs:List iB)(H:xA):xG:=
 match fr.R.defers with
 | d::ds=>Eb C d ds fr cs H
 | []=>match fr.R.mode.chain with
  | some chain=>gL (ob (C.fns.get fr.R.fn) fun _=>match cs with | c::rest=>some ⟨aV c chain,rest,H⟩ | []=>none) 19
  | none=>Ea C fr cs H
def stepA(C:lA)(s:oR):xG:=
 match s with
 | ⟨⟨todo,tm,R⟩,cs,H⟩=>bif R.mode.running then mS C todo tm R cs H else Om C ⟨todo,tm,R⟩ cs H
def xU(C:lA)(o:xG):xG:=
 match o with
 | .next s=>stepA C s
 | .done v H=>.done v H
 | .fail n=>.fail n
def El (C:lA)(n:Nat):xG->xG:=
 Nat.rec (motive:=fun _=>xG->xG) (fun o=>xU C o) (fun _ g o=>g (g o)) n
end Go.Am
namespace Go.Am
open Go
theorem tA{α β:Type}{x:Option α}{f:α->Option β}{b:β}:ob x f=some b ↔ ∃a,x=some a/\f a=some b:=by
 cases x with
 | none=>simp[ob]
 | some a=>exact⟨fun h=>⟨a,rfl,h⟩,fun⟨_,h,k⟩=>by cases h;exact k⟩
@[simp] theorem zit {α β:Type} {f:α->Option β}:ob none f=none:=rfl
@[simp] theorem oA {α β:Type} {a:α} {f:α->Option β}:ob (some a) f=f a:=rfl
theorem wB{α:Type}{b:Bool}{x:Option α}{a:α}:xB b x=some a ↔ b=true/\x=some a:=by
 cases b with
 | false=>simp[xB]
 | true=>simp[xB]
theorem oK{α:Type}(a b:α)(c:Bool):(Bool.rec (motive:=fun _=>α) a b c:α)=if c=true then b else a:=by cases c<;>rfl
theorem kC{n m:Nat}:(Nat.beq n m=true) ↔ n=m:=⟨Nat.eq_of_beq_eq_true,fun h=>by simp_all⟩
theorem beqf{n m:Nat}:(Nat.beq n m=false) ↔ n≠m:=by
 rw[<- Bool.not_eq_true,kC]
theorem qE{n m:Nat}:(Nat.ble n m=true) ↔ n<=m:=Iff.of_eq Nat.ble_eq
theorem qC{n m:Nat}:(Nat.blt n m=true) ↔ n<m:=Iff.of_eq Nat.ble_eq
def sD{α:Type}(c:Bool)(a b:α):(bif c then a else b)=if c=true then a else b:=by cases c<;>rfl
namespace Tr
variable {α:Type}
theorem get_leaf(n:Nat):(leaf:Tr α).get n=none:=rfl
theorem get_node(l:Tr α)(v:Option α)(r:Tr α)(n:Nat) :
  (node l v r).get n=if n=0 then v else if n%2=1 then l.get (n / 2)else r.get (n / 2-1):=by
 show Bool.rec (motive:=fun _=>Option α) (Bool.rec (motive:=fun _=>Option α) (r.get (n / 2-1)) (l.get (n / 2)) (Nat.beq (n%2) 1)) v (Nat.beq n 0)=_
 grind [oK,kC]
theorem Qu(f n:Nat)(v:α):mk (f+1) n v=if n=0 then node leaf (some v) leaf else if n%2=1 then node (mk f (n / 2) v) none leaf else node leaf none (mk f (n / 2-1) v):=by
 show Bool.rec (motive:=fun _=>Tr α) (Bool.rec (motive:=fun _=>Tr α) (node leaf none (mk f (n / 2-1) v)) (node (mk f (n / 2) v) none leaf) (Nat.beq (n%2) 1)) (node leaf (some v) leaf) (Nat.beq n 0)=_
 grind [oK,kC]
def Pp(n:Nat)(v:α):(leaf:Tr α).set n v=mk (n+1) n v:=rfl
theorem fH(l:Tr α)(x:Option α)(r:Tr α)(n:Nat)(v:α) :
  (node l x r).set n v=if n=0 then node l (some v) r else if n%2=1 then node (l.set (n / 2) v) x r else node l x (r.set (n / 2-1) v):=by
 show Bool.rec (motive:=fun _=>Tr α) (Bool.rec (motive:=fun _=>Tr α) (node l x (r.set (n / 2-1) v)) (node (l.set (n / 2) v) x r) (Nat.beq (n%2) 1)) (node l (some v) r) (Nat.beq n 0)=_
 grind [oK,kC]
theorem zd0(l:Tr α)(x:Option α)(r:Tr α)(n:Nat) :
  (node l x r).del n=if n=0 then node l none r else if n%2=1 then node (l.del (n / 2)) x r else node l x (r.del (n / 2-1)):=by
 show Bool.rec (motive:=fun _=>Tr α) (Bool.rec (motive:=fun _=>Tr α) (node l x (r.del (n / 2-1))) (node (l.del (n / 2)) x r) (Nat.beq (n%2) 1)) (node l none r) (Nat.beq n 0)=_
 grind [oK,kC]
theorem get_mk(f:Nat):∀(n m:Nat) (v:α),n<f->(mk f n v).get m=if m=n then some v else none:=by
 induction f with
 | zero=>omega
 | succ f ih=>
  grind [Qu,get_node,get_leaf]
theorem get_set(t:Tr α):∀(n m:Nat) (v:α),(t.set n v).get m=if m=n then some v else t.get m:=by
 induction t with
 | leaf=>intro n m v;rw[Pp,get_mk _ _ _ _ (by omega),get_leaf]
 | node l x r ihl ihr=>
  grind [fH,get_node]
def zfo:∀(f g n:Nat) (v:α),n<f->n<g->mk f n v=mk g n v:=by
 intro f;induction f with
 | zero=>omega
 | succ f ih=>
  intro g n v h1 h2
  cases g with
  | zero=>omega
  | succ g=>
   rw[Qu,Qu];split
   ·rfl
   ·split
    ·rw[ih g _ v (by omega) (by omega)]
    ·rw[ih g _ v (by omega) (by omega)]
def DX(n:Nat)(v:α):(leaf:Tr α).set n v=if n=0 then node leaf (some v) leaf else if n%2=1 then node (leaf.set (n / 2) v) none leaf else node leaf none (leaf.set (n / 2-1) v):=by
 rw[Pp,Qu];split
 ·rfl
 ·split
  ·rw[Pp,zfo n (n / 2+1) _ v (by omega) (by omega)]
  ·rw[Pp,zfo n (n / 2-1+1) _ v (by omega) (by omega)]
def RK:∀(s n m:Nat) (x y:α),n+m<=s->n≠m->((leaf:Tr α).set n x).set m y=((leaf:Tr α).set m y).set n x:=by
 intro s;induction s with
 | zero=>omega
 | succ s ih=>
  intro n m x y hs hne;rw[DX n x,DX m y];by_cases h1:n=0
  ·have h2:m≠0:=by omega
   rw[yab h1,yaa h2,fH,yaa h2];split
   ·rw[fH,yab h1]
   ·rw[fH,yab h1]
  ·rw[yaa h1]
   by_cases h2:m=0
   ·rw[yab h2]
    split
    ·rw[fH,yab h2,fH,yaa h1];rename_i h;rw[yab h]
    ·rw[fH,yab h2,fH,yaa h1];rename_i h;rw[yaa h]
   ·rw[yaa h2]
    by_cases h3:n%2=1<;>by_cases h4:m%2=1
    ·rw[yab h3,yab h4,fH,yaa h2,yab h4,fH,yaa h1,yab h3,ih _ _ x y (by omega) (by omega)]
    ·rw[yab h3,yaa h4,fH,yaa h2,yaa h4,fH,yaa h1,yab h3]
    ·rw[yaa h3,yab h4,fH,yaa h2,yab h4,fH,yaa h1,yaa h3]
    ·rw[yaa h3,yaa h4,fH,yaa h2,yaa h4,fH,yaa h1,yaa h3,ih _ _ x y (by omega) (by omega)]
def set_comm(t:Tr α):∀(n m:Nat) (x y:α),n≠m->(t.set n x).set m y=(t.set m y).set n x:=by
 induction t with
 | leaf=>exact fun n m x y h=>RK (n+m) n m x y (ybk _) h
 | node l v r ihl ihr=>
  intro n m x y hne;rw[fH l v r n x,fH l v r m y];by_cases h1:n=0
  ·have h2:m≠0:=by omega
   rw[yab h1,yaa h2,fH,yaa h2];split
   ·rw[fH,yab h1]
   ·rw[fH,yab h1]
  ·rw[yaa h1]
   by_cases h2:m=0
   ·rw[yab h2]
    split
    ·rw[fH,yab h2,fH,yaa h1];rename_i h;rw[yab h]
    ·rw[fH,yab h2,fH,yaa h1];rename_i h;rw[yaa h]
   ·rw[yaa h2]
    by_cases h3:n%2=1<;>by_cases h4:m%2=1
    ·rw[yab h3,yab h4,fH,yaa h2,yab h4,fH,yaa h1,yab h3,ihl _ _ x y (by omega)]
    ·rw[yab h3,yaa h4,fH,yaa h2,yaa h4,fH,yaa h1,yab h3]
    ·rw[yaa h3,yab h4,fH,yaa h2,yab h4,fH,yaa h1,yaa h3]
    ·rw[yaa h3,yaa h4,fH,yaa h2,yaa h4,fH,yaa h1,yaa h3,ihr _ _ x y (by omega)]
theorem get_del(t:Tr α):∀(n m:Nat),(t.del n).get m=if m=n then none else t.get m:=by
 induction t with
 | leaf=>intro n m;show(leaf:Tr α).get m=_;rw[get_leaf];split<;>rfl
 | node l x r ihl ihr=>
  grind [zd0,get_node]
def many_succ(t:Tr α)(n i:Nat):t.many (n+1) i=ob (t.get i) fun v=>ob (t.many n (i+1)) fun l=>some (v::l):=rfl
theorem many_some(t:Tr α)(n:Nat):∀(i:Nat) (l:List α),t.many n i=some l->l.length=n/\∀j,j<n->t.get (i+j)=l[j]?:=by
 induction n with
 | zero=>intro i l h;cases h;simp_all
 | succ n ih=>
  intro i l h;rw[many_succ,tA]at h;obtain⟨v,hv,h⟩:=h
  rw[tA]at h;grind
theorem RO(v:α)(l:List α)(t:Tr α)(i:Nat):setMany (v::l) t i=setMany l (t.set i v) (i+1):=rfl
theorem get_setMany(l:List α):∀(t:Tr α) (i m:Nat),(setMany l t i).get m=if i<=m/\m<i+l.length then l[m-i]? else t.get m:=by
 induction l with
 | nil=>intro t i m;rw[yaa (by simp)];rfl
 | cons v l ih=>
  grind [RO,get_set]
theorem get_ofList(l:List α)(m:Nat):(ofList l).get m=l[m]?:=by
 grind [ofList,get_setMany,get_leaf]
end Tr
theorem dG{α:Type}(l:List α):∀n,vD l n=l[n]?:=by
 induction l with
 | nil=>intro n;rfl
 | cons a l ih=>
  intro n
  cases n with
  | zero=>rfl
  | succ n=>show vD l n=_;grind
theorem eQ{α:Type}(l:List α):∀n,dQ l n=l.drop n:=by
 induction l with
 | nil=>intro n;simp;rfl
 | cons a l ih=>
  intro n
  cases n with
  | zero=>rfl
  | succ n=>show dQ l n=_;grind
theorem xS{α:Type}(l:List α):∀n,gZ l n=l.take n:=by
 induction l with
 | nil=>intro n;simp;rfl
 | cons a l ih=>
  intro n
  cases n with
  | zero=>rfl
  | succ n=>show a::gZ l n=_;grind
theorem qD{α:Type}(l:List α):zB l=l.length:=by
 induction l with
 | nil=>rfl
 | cons a l ih=>grind [zB]
theorem cG{α:Type}(l m:List α):iD l m=l++m:=by
 induction l with
 | nil=>rfl
 | cons a l ih=>grind [iD]
theorem nI{α:Type}(p:α->Bool)(l:List α):kB p l=l.all p:=by
 induction l with
 | nil=>rfl
 | cons a l ih=>show(bif p a then kB p l else false)=_;rw[ih];cases h:p a<;>simp[h]
theorem jP{α β:Type}(f:α->Option β)(a:α)(l:List α):xH f (a::l)=ob (f a) fun b=>ob (xH f l) fun r=>some (b::r):=rfl
theorem Fb{α β:Type}(f:α->Option β):xH f []=some []:=rfl
theorem hZ(i:Nat)(l:List Nat):dH i l=true ↔ i∈l:=by
 induction l with
 | nil=>exact⟨fun h=>(by cases h),fun h=>(by cases h)⟩
 | cons j l ih=>
  grind [dH,kC]
theorem rN(a:List Nat):∀b,oG a b=true ↔ a=b:=by
 induction a with
 | nil=>intro b;cases b with
  | nil=>exact⟨fun _=>rfl,fun _=>rfl⟩
  | cons y b=>exact⟨fun h=>(by cases h),fun h=>(by cases h)⟩
 | cons x a ih=>
  intro b
  cases b with
  | nil=>exact⟨fun h=>(by cases h),fun h=>(by cases h)⟩
  | cons y b=>
   simp_all [oG]
theorem yP{a b:IntKind}:tN a b=true ↔ a=b:=by cases a<;>cases b<;>simp[tN,kIdx]
theorem uV(a b:Bool):bEq a b=(a == b):=by cases a<;>cases b<;>rfl
theorem Ad(a b:Int):aB a b=true ↔ a=b:=by
 cases a<;>cases b<;>simp only[aB,kC] <;> (try simp)<;>omega
theorem KC(a b:Int):gG a b=true ↔ a<=b:=by
 cases a<;>cases b<;>simp only[gG,qE] <;> (try simp)<;>omega
theorem Rq(a b:Int):bB a b=true ↔ a<b:=by
 cases a<;>cases b<;>simp only[bB,qC] <;> (try simp)<;>omega
theorem Cp(a b:Int):aB a b=(a == b):=by grind [Ad]
theorem zgk(a b:Int):gG a b=decide (a<=b):=by grind [KC]
theorem zgj(a b:Int):bB a b=decide (a<b):=by grind [Rq]
theorem rP(k:IntKind)(n:Int):iA k n=k.wrap n:=by
 cases n with
 | ofNat n=>
  show(bif Nat.blt n (iG k)then Int.ofNat n else _)=_
  rw[sD];by_cases h:Nat.blt n (iG k)=true
  ·rw[yab h]
   have h':=qC.1 h
   cases k<;>simp only[iG]at h'<;>simp only[IntKind.wrap,IntKind.bits,IntKind.signed]<;>simp<;>omega
  grind
 | negSucc n=>
  show(bif Nat.blt n (kLo k)then Int.negSucc n else _)=_
  rw[sD];by_cases h:Nat.blt n (kLo k)=true
  ·rw[yab h]
   have h':=qC.1 h
   cases k<;>simp only[kLo]at h'<;>simp only[IntKind.wrap,IntKind.bits,IntKind.signed]<;>simp<;>omega
  grind
theorem Ly{n:Int}{m:Nat}:uN n=some m ↔ n=(m:Int):=by
 cases n with
 | ofNat a=>grind [uN]
 | negSucc a=>grind [uN]
end Go.Am
namespace Go.Am
open Go
variable {a b k v:zA}{r:Bool}{l l' m:List (zA × zA)}
theorem Ic  (h:aQ a b=some r) :
  (∃k x y,a=.int k x/\b=.int k y/\r=(x == y))\/(∃x y,a=.str x/\b=.str y/\r=oG x y)\/(∃x y,a=.bool x/\b=.bool y/\r=(x == y)):=by
 cases a<;>simp only[aQ,zA.asIntK,zA.asStr,Io,zA.asBool]at h<;>try (cases h;done)
 case bool x=>
  rw[oA,tA]at h;grind [uV]
 all_goals grind [tA,wB,yP,Cp]
def JF (h:aQ a b=some true):a=b:=by
 grind [Ic,rN]
def JG  (h:aQ a b=some r):aQ b a=some r:=by
 rcases Ic h with⟨k,x,y,rfl,rfl,hr⟩ | ⟨x,y,rfl,rfl,hr⟩ | ⟨x,y,rfl,rfl,hr⟩
 ·have e:aB y x=(x == y):=by grind [Cp]
  show xB (tN k k) (some (aB y x))=_
  grind [wB,yP]
 ·grind [aQ,zA.asIntK,zA.asStr,oA,rN]
 ·simp only[aQ,zA.asIntK,zA.asStr,Io,zA.asBool,uV,oA,hr]
  rw[show(y == x)=(x == y) by cases x<;>cases y<;>rfl]
def IX:∀ {x y:List zA},nU x y=some true->x=y
 | [],[],_=>rfl
 | a::x,b::y,h=>by
  simp only[nU,tA]at h;obtain⟨r,hr,s,hs,h⟩:=h
  cases r<;>cases s<;>simp at h
  rw[JF hr,IX hs]
 | [],_::_,h=>by cases h
 | _::_,[],h=>by cases h
def IY:∀ {x y:List zA} {r:Bool},nU x y=some r->nU y x=some r
 | [],[],_,h=>h
 | a::x,b::y,r,h=>by
  simp only[nU,tA]at h ⊢
  obtain⟨r1,hr,s,hs,h⟩:=h
  exact⟨r1,JG hr,s,IY hs,h⟩
 | [],_::_,_,h=>by cases h
 | _::_,[],_,h=>by cases h
def Mk  (h:mI a b=some r):(∃x y,a=.agg x/\b=.agg y/\nU x y=some r)\/(a.asAgg=none/\aQ a b=some r):=by
 unfold mI at h;split at h
 ·rename_i x hx
  rw[tA]at h;obtain⟨y,hy,h⟩:=h
  cases a<;>simp[zA.asAgg]at hx
  cases b<;>simp[zA.asAgg]at hy
  simp_all
 simp_all
def VZ  (h:aQ a b=some r):mI a b=some r:=by
 rcases Ic h with⟨k,x,y,rfl,rfl,hr⟩ | ⟨x,y,rfl,rfl,hr⟩ | ⟨x,y,rfl,rfl,hr⟩<;>exact h
theorem JE (h:mI a b=some true):a=b:=by
 rcases Mk h with⟨x,y,rfl,rfl,h⟩ | ⟨_,h⟩
 ·rw[IX h]
 ·exact JF h
theorem Mj  (h:mI a b=some r):mI b a=some r:=by
 rcases Mk h with⟨x,y,rfl,rfl,h⟩ | ⟨_,h⟩
 ·exact IY h
 ·exact VZ (JG h)
def DK (l:List (zA × zA)):Prop:=l.Pairwise fun p q=>mI p.1 q.1=some false
def Jl(l l':List (zA × zA)):Prop:=l'=l\/(l.Perm l'/\DK l)
def DK.perm (h:DK l)(p:l.Perm l'):DK l':=(p.pairwise_iff (fun hab=>Mj hab)).1 h
theorem Zn{k:zA}:∀ {l:List (zA × zA)},sL k l=some none ↔ ∀e∈l,mI k e.1=some false
 | []=>by simp[sL]
 | e::l=>by
  rw[sL,tA];constructor
  ·rintro⟨r,hr,h⟩
   cases r with
   | true=>cases h
   | false=>
    rw[cond_false]at h;intro x hx;rcases ybs.1 hx with rfl | hx
    ·exact hr
    ·exact Zn.1 h x hx
  ·intro h
   exact⟨false,h e (.head _),Zn.2 fun x hx=>h x (.tail _ hx)⟩
def KU{k v:zA}:∀ {l:List (zA × zA)},sL k l=some (some v)->(k,v)∈l/\mI k k=some true
 | [],h=>by cases h
 | e::l,h=>by
  rw[sL,tA]at h;obtain⟨r,hr,h⟩:=h
  cases r with
  | true=>
   grind [JE]
  | false=>
   rw[cond_false]at h;obtain⟨h1,h2⟩:=KU h
   simp_all
def DK.split  (h:DK (l++(k,v)::m)):(∀e∈l,mI k e.1=some false)/\∀e∈m,mI k e.1=some false:=by
 unfold DK at h;rw[List.pairwise_append]at h;obtain⟨_,h2,h3⟩:=h
 rw[List.pairwise_cons]at h2;exact⟨fun e he=>Mj (h3 e he (k,v) (.head _)),fun e he=>h2.1 e he⟩
def XC  (h:∀e∈l,mI k e.1=some false):sL k (l++m)=sL k m:=by
 induction l with
 | nil=>rfl
 | cons e l ih=>
  grind [sL,oA]
def XD  {r:Option zA}(h:Jl l l')(hf:sL k l=some r):sL k l'=some r:=by
 rcases h with rfl | ⟨p,d⟩
 ·exact hf
 cases r with
 | none=>
  grind [Zn]
 | some v=>
  obtain⟨h1,h2⟩:=KU hf
  obtain⟨a,b,rfl⟩:=List.append_of_mem (p.mem_iff.1 h1)
  rw[XC (d.perm p).split.1,sL,h2,oA,cond_true]
def Wa{k v:zA}:∀ {l:List (zA × zA)},(∀e∈l,mI k e.1=some false)->bN k v l=some (l++[(k,v)])
 | [],_=>rfl
 | e::l,h=>by
  rw[bN,h e (.head _),oA,cond_false,Wa fun x hx=>h x (.tail _ hx)]
  rfl
def EA{k v u:zA}{m:List (zA × zA)}(hk:mI k k=some true):∀ {l:List (zA × zA)},(∀e∈l,mI k e.1=some false)->bN k v (l++(k,u)::m)=some (l++(k,v)::m)
 | [],_=>by simp_all [bN]
 | e::l,h=>by
  rw[List.cons_append,bN,h e (.head _),oA,cond_false,EA hk fun x hx=>h x (.tail _ hx)]
  rfl
def DZ{k v:zA}:∀ {l r:List (zA × zA)},bN k v l=some r->((∀e∈l,mI k e.1=some false)/\r=l++[(k,v)])\/(mI k k=some true/\∃a u b,l=a++(k,u)::b/\r=a++(k,v)::b)
 | [],r,h=>by cases h;simp_all
 | e::l,r,h=>by
  rw[bN,tA]at h;obtain⟨q,hq,h⟩:=h
  cases q with
  | true=>
   rw[cond_true]at h
   cases h;have:=JE hq
   refine .inr ⟨by simp_all,[],e.2,l,?_,rfl⟩
   rw[yah,this]
  | false=>
   rw[cond_false,tA]at h;obtain⟨r',hr,h⟩:=h
   cases h;rcases DZ hr with⟨h1,rfl⟩ | ⟨h0,a,u,b,rfl,rfl⟩
   all_goals grind
def RM {r:List (zA × zA)}(h:Jl l l')(hs:bN k v l=some r):∃r',bN k v l'=some r'/\Jl r r':=by
 rcases h with rfl | ⟨p,d⟩
 ·exact⟨r,hs,.inl rfl⟩
 rcases DZ hs with⟨h1,rfl⟩ | ⟨h0,a,u,b,rfl,rfl⟩
 ·refine⟨_,Wa fun e he=>h1 e (p.mem_iff.2 he),.inr ⟨p.append_right _,?_⟩⟩
  unfold DK;rw[List.pairwise_append];exact⟨d,by simp,fun x hx y hy=>by grind [Mj]⟩
 ·obtain⟨a',b',rfl⟩:=List.append_of_mem (p.mem_iff.1 (ycf a (.head b)))
  refine⟨_,EA h0 (d.perm p).split.1,.inr ⟨?_,?_⟩⟩
  ·have p1:(a++b).Perm (a'++b'):=by
    have q1:(a++(k,u)::b).Perm ((k,u)::(a++b)):=List.perm_middle
    have q2:(a'++(k,u)::b').Perm ((k,u)::(a'++b')):=List.perm_middle
    exact(q1.symm.trans (p.trans q2)).cons_inv
   exact List.perm_middle.trans ((p1.cons _).trans List.perm_middle.symm)
  ·unfold DK at d ⊢
   rw[List.pairwise_append,List.pairwise_cons]at d ⊢
   obtain⟨d1,⟨d2,d3⟩,d4⟩:=d
   refine⟨d1,⟨d2,d3⟩,fun x hx y hy=>?_⟩
   rcases ybs.1 hy with rfl | hy
   ·exact d4 x hx (k,u) (.head _)
   grind
end Go.Am
namespace Go.Am
open Go
structure BI where
 b:Nat
 tight:Bool
 es:Nat
 room:Nat
 ro:Bool
structure Mu where
 m:Nat->Option BI
 pd:Nat->Option (vA × Nat × Nat)
instance:CoeFun Mu fun _=>Nat->Option BI:=⟨Mu.m⟩
def Mu.lw(μ ν:Mu):Prop:=∀a i,μ a=some i->ν a=some i
structure Mu.le (μ ν:Mu):Prop where
 f:∀a i,μ a=some i->ν a=some i
 pd:ν.pd=μ.pd
instance {μ ν:Mu}:CoeFun (μ.le ν) fun _=>∀a i,μ a=some i->ν a=some i:=⟨Mu.le.f⟩
instance {μ ν:Mu}:Coe (μ.le ν) (μ.lw ν):=⟨Mu.le.f⟩
def Mu.le_refl(μ:Mu):μ.le μ:=⟨fun _ _ h=>h,rfl⟩
def Mu.le_trans{a b c:Mu}(h:a.le b)(k:b.le c):a.le c:=⟨fun x i hx=>k.f x i (h.f x i hx),k.pd.trans h.pd⟩
def Jm(μ:Mu):AFn->Fn->Prop
 | .func f,fn=>fn=.func f
 | .yld l,fn=>∃i,μ l=some i/\fn=.yield i.b
mutual
def uA (μ:Mu):zA->Value->Prop
 | .bool b,v=>v=.bool b
 | .int k n,v=>v=.int k n
 | .str l,v=>∃s,v=.string s/\nF s=l
 | .nilptr,v=>v=.pointer none
 | .ptr b off,v=>∃i,μ b=some i/\v=.pointer (some ⟨i.b,off,none⟩)
 | .nilslice,v=>v=.slice none 0 0
 | .slice b off len cap,v=>(∃i cap',μ b=some i/\v=.slice (some ⟨i.b,off,none⟩) len cap'/\cap<=cap'/\(i.tight=true->cap'=cap)/\(i.tight=false->off+cap'*i.es<=i.room))\/(b=0/\len=0/\cap=0/\∃a c,v=.slice (some a) 0 c/\(off=0/\c=0\/off=1))
 | .nilmap,v=>v=.map none
 | .map b,v=>∃i,μ b=some i/\v=.map (some i.b)
 | .func f a c,v=>∃fn a' c',v=.func fn a' c'/\Jm μ f fn/\rB μ a a'.toList/\rB μ c c'.toList
 | .nilfunc,v=>v=.nilFunc
 | .iface t x,v=>∃x',v=.iface t x'/\uA μ x x'
 | .niliface,v=>v=.nilIface
 | .agg l,v=>∃cs,v=.agg cs/\rB μ l cs.toList
 | .tup l,v=>∃cs,v=.tuple cs/\rB μ l cs.toList
def rB (μ:Mu):List zA->List Value->Prop
 | [],m=>m=[]
 | a::l,m=>∃v r,m=v::r/\uA μ a v/\rB μ l r
end
theorem Jm.mono{μ ν:Mu}(h:μ.lw ν){f:AFn}{g:Fn}(k:Jm μ f g):Jm ν f g:=by
 cases f with
 | func f=>exact k
 | yld l=>obtain⟨i,h1,h2⟩:=k;exact⟨i,h _ _ h1,h2⟩
mutual
theorem uA.mono{μ ν:Mu}(h:μ.lw ν):∀(a:zA) (v:Value),uA μ a v->uA ν a v
 | .bool _,_,k=>k
 | .int _ _,_,k=>k
 | .str _,_,k=>k
 | .nilptr,_,k=>k
 | .ptr _ _,_,⟨i,h1,h2⟩=>⟨i,h _ _ h1,h2⟩
 | .nilslice,_,k=>k
 | .slice _ _ _ _,_,.inl ⟨i,c,h1,h2⟩=>.inl ⟨i,c,h _ _ h1,h2⟩
 | .slice _ _ _ _,_,.inr k=>.inr k
 | .nilmap,_,k=>k
 | .map _,_,⟨i,h1,h2⟩=>⟨i,h _ _ h1,h2⟩
 | .func _ a c,_,⟨fn,a',c',h1,h2,h3,h4⟩=>⟨fn,a',c',h1,h2.mono h,rB.mono h a _ h3,rB.mono h c _ h4⟩
 | .nilfunc,_,k=>k
 | .iface _ x,_,⟨x',h1,h2⟩=>⟨x',h1,uA.mono h x _ h2⟩
 | .niliface,_,k=>k
 | .agg l,_,⟨cs,h1,h2⟩=>⟨cs,h1,rB.mono h l _ h2⟩
 | .tup l,_,⟨cs,h1,h2⟩=>⟨cs,h1,rB.mono h l _ h2⟩
theorem rB.mono{μ ν:Mu}(h:μ.lw ν):∀(l:List zA) (m:List Value),rB μ l m->rB ν l m
 | [],_,k=>k
 | a::l,_,⟨v,r,h1,h2,h3⟩=>⟨v,r,h1,uA.mono h a v h2,rB.mono h l r h3⟩
end
theorem rB.length{μ:Mu}{l:List zA}:∀ {m:List Value},rB μ l m->m.length=l.length:=by
 induction l with
 | nil=>grind [rB]
 | cons a l ih=>grind [rB]
theorem rB.get{μ:Mu}{l:List zA}:∀ {m:List Value} {i:Nat} {a:zA},rB μ l m->l[i]?=some a->∃v,m[i]?=some v/\uA μ a v:=by
 induction l with
 | nil=>simp_all
 | cons b l ih=>
  grind [rB]
theorem rB.mk{μ:Mu}{l:List zA}:∀ {m:List Value},m.length=l.length->(∀(i:Nat) a v,l[i]?=some a->m[i]?=some v->uA μ a v)->rB μ l m:=by
 induction l with
 | nil=>grind [rB]
 | cons a l ih=>
  intro m h k
  cases m with
  | nil=>simp at h
  | cons v r=>
   rw[rB];exact⟨v,r,rfl,k 0 a v (by simp) (by simp),ih (by grind) fun i a v h1 h2=>k (i+1) a v (by simp_all) (by simp_all)⟩
theorem rB.append{μ:Mu}{l l':List zA}:∀ {m m':List Value},rB μ l m->rB μ l' m'->rB μ (l++l') (m++m'):=by
 induction l with
 | nil=>grind [rB]
 | cons a l ih=>grind [rB]
theorem rB.drop{μ:Mu}{l:List zA}{m:List Value}(h:rB μ l m)(n:Nat):rB μ (l.drop n) (m.drop n):=by
 refine rB.mk (by simp[h.length]) fun i a v h1 h2=>?_
 rw[yde]at h1 h2;obtain⟨u,hu,hr⟩:=h.get h1
 simp_all
theorem rB.take{μ:Mu}{l:List zA}{m:List Value}(h:rB μ l m)(n:Nat):rB μ (l.take n) (m.take n):=by
 refine rB.mk (by simp[h.length]) fun i a v h1 h2=>?_
 rw[ydf]at h1 h2;split at h1
 ·rename_i hi
  rw[yab hi]at h2;obtain⟨u,hu,hr⟩:=h.get h1
  simp_all
 grind
theorem rB.nil{μ:Mu}:rB μ [] []:=by rw[rB]
theorem rB.cons{μ:Mu}{a:zA}{l:List zA}{v:Value}{m:List Value}(h:uA μ a v)(k:rB μ l m):rB μ (a::l) (v::m):=by grind [rB]
def rB.single{μ:Mu}{a:zA}{v:Value}(h:uA μ a v):rB μ [a] [v]:=.cons h .nil
theorem Da{v:zA}{b:Bool}:v.asBool=some b ↔ v=.bool b:=by cases v<;>simp[zA.asBool]
def AU{v:zA}{n:Int}:v.asInt=some n ↔ ∃k,v=.int k n:=by cases v<;>simp[zA.asInt]
theorem xX{v:zA}{p:IntKind × Int}:v.asIntK=some p ↔ v=.int p.1 p.2:=by cases v<;>simp[zA.asIntK,Prod.ext_iff]
theorem yX{v:zA}{l:List Nat}:v.asStr=some l ↔ v=.str l:=by cases v<;>simp[zA.asStr]
def Ge{v:zA}{p:Nat × Nat}:v.asPtr=some p ↔ v=.ptr p.1 p.2:=by cases v<;>simp[zA.asPtr,Prod.ext_iff]
def Cz{v:zA}{p:Nat × Nat × Nat × Nat}:v.asSlice=some p ↔ v=.slice p.1 p.2.1 p.2.2.1 p.2.2.2:=by cases v<;>simp[zA.asSlice,Prod.ext_iff]
def Tc{v:zA}{b:Nat}:v.asMap=some b ↔ v=.map b:=by cases v<;>simp[zA.asMap]
theorem Jc{v:zA}{l:List zA}:v.asAgg=some l ↔ v=.agg l:=by cases v<;>simp[zA.asAgg]
def ZL{v:zA}{l:List zA}:v.asTup=some l ↔ v=.tup l:=by cases v<;>simp[zA.asTup]
theorem NU{v:zA}{p:AFn × List zA × List zA}:v.asFunc=some p ↔ v=.func p.1 p.2.1 p.2.2:=by cases v<;>simp[zA.asFunc,Prod.ext_iff]
def NT{v:zA}{p:Nat × zA}:v.asIface=some p ↔ v=.iface p.1 p.2:=by cases v<;>simp[zA.asIface,Prod.ext_iff]
theorem Tb{v:zA}{n:Nat}:v.asNat=some n ↔ ∃k,v=.int k (n:Int):=by
 simp_all [zA.asNat,tA,AU,Ly]
theorem kV{v:zA}:(v.tag=3 ↔ v=.nilptr)/\(v.tag=5 ↔ v=.nilslice)/\(v.tag=7 ↔ v=.nilmap)/\(v.tag=10 ↔ v=.nilfunc)/\(v.tag=12 ↔ v=.niliface):=by
 cases v<;>simp[zA.tag]
theorem uA.notAgg{μ:Mu}{a:zA}{v:Value}(h:uA μ a v)(ha:a.asAgg=none):v.cells = #[v]:=by
 cases a<;>rw[uA]at h<;>first
  | (subst h;rfl)
  | (rcases h with⟨_,_,_,rfl,_⟩ | ⟨_,_,_,_,_,rfl,_⟩<;>rfl)
  | (obtain⟨_,rfl,_⟩:=h;rfl)
  | (obtain⟨_,_,rfl⟩:=h;rfl)
  | (obtain⟨_,_,_,rfl,_⟩:=h;rfl)
  | grind [zA.asAgg]
theorem uA.one{μ:Mu}{a:zA}{v:Value}(h:uA μ a v)(ha:a.one=true):v.oneCell'=true:=by
 cases a<;>rw[uA]at h<;>first
  | (subst h;rfl)
  | (rcases h with⟨_,_,_,rfl,_⟩ | ⟨_,_,_,_,_,rfl,_⟩<;>rfl)
  | (obtain⟨_,rfl,_⟩:=h;rfl)
  | (obtain⟨_,_,rfl⟩:=h;rfl)
  | (obtain⟨_,_,_,rfl,_⟩:=h;rfl)
  | (revert ha;decide)
  | (have:=qC.1 ha;grind [zA.tag])
def Sq{μ:Mu}{a:zA}{v:Value}(h:uA μ a v):rB μ a.cells v.cells.toList:=by
 unfold zA.cells
 cases ha:a.asAgg with
 | none=>rw[h.notAgg ha];exact rB.single h
 | some l=>rw[Jc.1 ha,uA]at h;obtain⟨cs,rfl,h⟩:=h;exact h
def dP(P:Program)(t:Nat):mE:=
 match P.underlying t with
 | some .bool=>.bool
 | some (.int k)=>.int k
 | some .string=>.string
 | some (.pointer e)=>.ptr e
 | some (.slice e)=>.slice e
 | some (.array n e)=>.arr n e
 | some (.map k e)=>.map k e
 | some (.struct fs)=>.struct (fs.toList.map fun f=>(f.offset,f.type,P.cellsOf f.type))
 | some (.func ..)=>.func
 | some (.interface _)=>.iface
 | _=>.other
def Rn:Value->Bool
 | .agg _=>true
 | _=>false
def zb3(P:Program)(t:Nat):Bool:=(P.fieldsOf t).toList.all fun f=>(P.info? f.type).isSome
def tyOf (P:Program)(t:Nat):Option nD:=
 match P.info? t with
 | some i=>match i.zero with
  | some z=>ob (xH Ev z.cells.toList) fun l=>xB (bEq (Rn z) (dP P t).isAgg&&(P.underlying t).isSome&&zb3 P t)
    (some ⟨dP P t, i.size, i.bytes, l, !P.stoodInHeld t && !P.eqGuardType P.depth t && (P.fieldsOf t).toList.all (fun f => f.name != "_")⟩)
  | none=>none
 | none=>none
def kF(P:Program)(C:lA):Prop:=∀t ty,C.tys.get t=some ty->tyOf P t=some ty
theorem Sr{a b:ByteArray}(h:nF a=nF b):a=b:=by
 have h1:a.data.toList=b.data.toList:=by
  grind [nF,List.map_inj_right,UInt8.toNat_inj]
 have h2:a.data=b.data:=yax.1 h1
 cases a;simp_all
theorem GJ{μ:Mu}{v:Value}{a:zA}(h:Ev v=some a):uA μ a v/\a.one=true:=by
 unfold Ev at h;split at h<;>cases h<;>refine⟨?_,rfl⟩<;>rw[uA]
 simp_all
theorem GI{μ:Mu}{m:List Value}:∀ {l:List zA},xH Ev m=some l->rB μ l m:=by
 induction m with
 | nil=>grind [Fb,rB.nil]
 | cons v m ih=>
  intro l h;rw[jP,tA]at h;obtain⟨a,ha,h⟩:=h
  rw[tA]at h;obtain⟨r,hr,h⟩:=h
  cases h;exact .cons (GJ ha).1 (ih hr)
theorem UG{μ:Mu}{v:Value}{a:zA}(h:Xq v=some a):uA μ a v:=by
 unfold Xq at h;split at h
 ·rename_i cs hc
  rw[tA]at h;obtain⟨l,hl,h⟩:=h
  cases h
  cases v<;>simp[zgv]at hc
  grind [uA,GI]
 grind [GJ]
structure mM (P:Program) (t:Nat) (ty:nD):Prop where
 info:∃i,P.info? t=some i/\i.size=ty.size/\i.bytes=ty.bytes/\∃z,i.zero=some z/\xH Ev z.cells.toList=some ty.zero/\Rn z=ty.desc.isAgg
 desc:dP P t=ty.desc
 und:∃d,P.underlying t=some d
 fields:∀f∈(P.fieldsOf t).toList,∃i,P.info? f.type=some i
 eqOk : ty.eqOk = true -> P.stoodInHeld t = false /\ P.eqGuardType P.depth t = false /\ ∀ f ∈ (P.fieldsOf t).toList, f.name ≠ "_"
theorem PO{P:Program}{t:Nat}{ty:nD}(h:tyOf P t=some ty):mM P t ty:=by
 unfold tyOf at h;split at h
 ·rename_i i hi
  split at h
  ·rename_i z hz
   rw[tA]at h;obtain⟨l,hl,h⟩:=h
   rw[wB]at h;obtain⟨hb,h⟩:=h
   cases h;rw[ybb,ybb]at hb;refine⟨⟨i,hi,rfl,rfl,z,hz,hl,?_⟩,rfl,Option.isSome_iff_exists.1 hb.1.2,fun f hf=>Option.isSome_iff_exists.1 (ycb.1 hb.2 f hf),fun h=>?_⟩
   all_goals grind [uV]
  ·cases h
 ·cases h
def kF.facts{P:Program}{C:lA}(h:kF P C){t:Nat}{ty:nD}(k:C.tys.get t=some ty):mM P t ty:=PO (h t ty k)
section
variable {P:Program}{w:World}{t:Nat}{ty:nD}
def Ej{i:TypeInfo}(h:P.info? t=some i):(typeInfo t).run P w=.ok i w:=by
 simp[typeInfo,h]
def pF{d:TypeDesc}(h:P.underlying t=some d):(underlying t).run P w=.ok d w:=by
 simp[underlying,h]
def mM.size(h:mM P t ty):(sizeOf t).run P w=.ok ty.size w:=by
 obtain⟨i,h1,h2,_⟩:=h.info
 simp[sizeOf,Ej h1,h2]
theorem mM.zero(h:mM P t ty){μ:Mu}:∃z,(∀w,(zeroValue t).run P w=.ok z w)/\uA μ (mX ty) z/\rB μ ty.zero z.cells.toList:=by
 obtain⟨i,h1,_,_,z,h2,h3,h4⟩:=h.info
 have hl:rB μ ty.zero z.cells.toList:=GI h3
 refine⟨z,fun w=>by simp[zeroValue,Ej h1,h2],?_,hl⟩
 unfold mX
 cases hd:ty.desc.isAgg with
 | true=>
  rw[hd]at h4
  cases z<;>simp[Rn]at h4
  show uA μ (.agg ty.zero) _
  rw[uA];exact⟨_,rfl,hl⟩
 | false=>
  rw[hd]at h4;have hc:z.cells = #[z]:=by cases z<;>first | rfl | simp[Rn]at h4
  grind [rB]
def mM.isAgg(h:mM P t ty):(Go.isAgg t).run P w=.ok ty.desc.isAgg w:=by
 obtain⟨d,hd⟩:=h.und
 have h0:=h.desc
 unfold dP at h0;rw[hd]at h0;unfold Go.isAgg;rw[yad,pF hd,yac,<- h0]
 cases d<;>rfl
theorem Ft(h:mM P t ty){fs:List (Nat × Nat × Nat)}(k:ty.desc.asStruct=some fs):∃g,P.underlying t=some (.struct g)/\fs=g.toList.map fun f=>(f.offset,f.type,P.cellsOf f.type):=by
 obtain⟨d,hd⟩:=h.und
 have h0:=h.desc
 grind [dP,mE.asStruct]
def jT(h:mM P t ty){e:Nat}(k:ty.desc.asSlice=some e):P.underlying t=some (.slice e):=by
 obtain⟨d,hd⟩:=h.und
 have h0:=h.desc
 unfold dP at h0;rw[hd]at h0;rw[<- h0]at k
 cases d<;>simp[mE.asSlice]at k
 rw[hd,k]
def Sj(h:mM P t ty){p:Nat × Nat}(k:ty.desc.asArr=some p):P.underlying t=some (.array p.1 p.2):=by
 obtain⟨d,hd⟩:=h.und
 have h0:=h.desc
 unfold dP at h0;rw[hd]at h0;rw[<- h0]at k
 cases d<;>simp[mE.asArr]at k
 rw[hd,<- k]
def LV(h:mM P t ty){p:Nat × Nat}(k:ty.desc.asMap=some p):P.underlying t=some (.map p.1 p.2):=by
 obtain⟨d,hd⟩:=h.und
 have h0:=h.desc
 unfold dP at h0;rw[hd]at h0;rw[<- h0]at k
 cases d<;>simp[mE.asMap]at k
 rw[hd,<- k]
def AB(h:mM P t ty){k:IntKind}(e:ty.desc.asInt=some k):P.underlying t=some (.int k):=by
 obtain⟨d,hd⟩:=h.und
 have h0:=h.desc
 unfold dP at h0;rw[hd]at h0;rw[<- h0]at e
 cases d<;>simp[mE.asInt]at e
 rw[hd,e]
theorem Si(h:mM P t ty)(e:ty.desc.isString=true):P.underlying t=some .string:=by
 obtain⟨d,hd⟩:=h.und
 have h0:=h.desc
 grind [dP,mE.isString,mE.tag,Nat.beq]
theorem LU(h:mM P t ty)(e:Nat.blt ty.desc.tag 9=true):∃d,P.underlying t=some d/\∀ms,d≠.interface ms:=by
 obtain⟨d,hd⟩:=h.und
 refine⟨d,hd,fun ms hm=>?_⟩
 subst hm;have h0:=h.desc
 grind [dP,qC,mE.tag]
end
structure Bf (μ:Mu) (d:mH) (e:Deferred):Prop where
 rel:match d.fn with
  | none=>∃i,μ d.r=some i/\e={ target:=.collected i.b,args := #[] }
  | some f=>∃fn cap as,e={ target:=.fn fn cap,args:=as }/\Jm μ f fn/\rB μ d.args (as++cap).toList
def aE(μ:Mu)(n:Nat)(tm:Tm)(tmps:Array Value):Prop:=tmps.size=n/\∀i v,tm.get i=some v->uA μ v (tmps.getD i undef)
structure Nw (μ:Mu) (l:vN) (r:Loop):Prop where
 state:r.state=l.state
 pending:r.pending=l.pending
 fn:r.fn=l.fn
 tm:aE μ l.n l.tm r.tmps
 params:r.params.toList=l.params
 assign:r.assign=l.assign
 body:r.body=l.body
 defers:∃i,μ l.defers=some i/\r.defers=i.b
inductive kD {α β:Type} (R:α->β->Prop):List α->List β->Prop
 | nil:kD R [] []
 | cons {a b l m}:R a b->kD R l m->kD R (a::l) (b::m)
def rJ (μ:Mu)(i:BI):vA->Obj->Prop
 | .cells c n loose,o=>∃cs elem fr,o=.cells cs elem fr/\n<=cs.size/\(i.ro=true\/fr.2<=fr.1\/cs.size<=fr.1)/\(∀(j:Nat) v,c.get j=some v->j<n/\∃v',cs[j]?=some v'/\uA μ v v') ∧
   (match loose with | none=>i.tight=true | some lo=>i.tight=false/\i.es=lo.es/\i.room=cs.size/\∀t,lo=.ty t->elem=t)
 | .map l,o=>∃es clock l',o=.map es clock/\Jl l l'/\kD (fun p e=>uA μ p.1 e.key/\uA μ p.2 e.val) l' es.toList
 | .loop l,o=>∃r,o=.loop r/\Nw μ l r
 | .deferred l,o=>∃l',o=.deferred l'/\(match l,l' with | none,none=>True | some a,some b=>kD (Bf μ) a b | _,_=>False)
 | .siter s pos,o=>∃s',o=.stringIter s' pos/\nF s'=s
structure vB (B N:Nat) (μ:Mu) (H:xA) (w:World):Prop where
 base:256<=B
 glob:∀g,g<256->μ g=some ⟨g,true,0,0,true⟩
 low:∀a x i,a<B->H.t.get a=some x->μ a=some i->i.b<N/\x.asLoop=none/\x.asDeferred=none
 next:B<=H.next
 size:N<=w.heap.size
 fresh:∀a,H.next<=a->μ a=none/\H.t.get a=none
 blk:∀a x i,H.t.get a=some x->μ a=some i->∃o,w.heap[i.b]?=some o/\rJ μ i x o
 own:∀a i,B<=a->μ a=some i->N<=i.b/\i.b<w.heap.size/\i.ro=false
 inj:∀a b x y i j,H.t.get a=some x->H.t.get b=some y->μ a=some i->μ b=some j->B<=a->B<=b->i.b=j.b->a=b
 pnd:∀a x t,μ.pd a=some (x,t)->μ a=none/\H.t.get a=some x/\B<=a
end Go.Am
namespace Go.Am
open Go
variable {a x:Operand}{b f off t:Nat}{p:Tr zA × Nat × Option Lo}{i:BI}{l:List zA}
def cF (μ:Mu)(e:yD)(ρ:Operand->Value):Prop:=∀x v,ev x e=some v->uA μ v (ρ x)
def cF.many{μ:Mu}{e:yD}{ρ:Operand->Value}(h:cF μ e ρ):∀ {l:List Operand} {r:List zA},wO l e=some r->rB μ r (l.map ρ):=by
 intro l;induction l with
 | nil=>intro r k;unfold wO at k;rw[Fb]at k;cases k;exact .nil
 | cons x l ih=>
  intro r k;unfold wO at k;rw[jP,tA]at k;obtain⟨a,ha,k⟩:=k
  rw[tA]at k;obtain⟨b,hb,k⟩:=k
  cases k
  exact .cons (h _ _ ha) (ih hb)
def cF.parts{μ:Mu}{e:yD}{ρ:Operand->Value}(h:cF μ e ρ):∀ {l:List (Nat × Operand)} {r:List (Nat × zA)},lT l e=some r →
  kD (fun p q=>p.1=q.1/\uA μ p.2 q.2) r (l.map fun x=>(x.1,ρ x.2)):=by
 intro l;induction l with
 | nil=>intro r k;unfold lT at k;rw[Fb]at k;cases k;exact .nil
 | cons x l ih=>
  intro r k;unfold lT at k;rw[jP,tA]at k;obtain⟨a,ha,k⟩:=k
  rw[tA]at ha;obtain⟨a',ha,ha'⟩:=ha
  cases ha'
  rw[tA]at k;obtain⟨b,hb,k⟩:=k
  cases k
  exact .cons ⟨rfl,h _ _ ha⟩ (ih hb)
def BF(μ:Mu):Option zA->Option Value->Prop
 | none,none=>True
 | some a,some v=>uA μ a v
 | _,_=>False
def cF.opt{μ:Mu}{e:yD}{ρ:Operand->Value}(h:cF μ e ρ){x:Option Operand}{r:Option zA}(k:kT x e=some r):BF μ r (x.map ρ):=by
 cases x with
 | none=>cases k;trivial
 | some x=>unfold kT at k;simp only[]at k;rw[tA]at k;obtain⟨a,ha,k⟩:=k;cases k;exact h _ _ ha
theorem iY(b off n:Nat):Addr.add ⟨b,off,none⟩ n=⟨b,off+n,none⟩:=by
 grind [Addr.add]
section
variable {P:Program}{C:lA}{B N:Nat}{μ:Mu}{H:xA}{w:World}
theorem Ay  (h:mD H b=some p):H.t.get b=some (.cells p.1 p.2.1 p.2.2):=by
 unfold mD at h;rw[tA]at h;obtain⟨x,hx,h⟩:=h
 cases x<;>simp[vA.asCells]at h
 grind
theorem vB.cellAt(hH:vB B N μ H w)  (h:mD H b=some p) (hi:μ b=some i){j:Nat}{v:zA}(hv:p.1.get j=some v) :
  ∃v',w.cell? ⟨i.b,j,none⟩=some v'/\uA μ v v':=by
 obtain⟨o,h2,h3⟩:=hH.blk _ _ _ (Ay h) hi
 obtain⟨cs,elem,fr,rfl,_,_,h4,_⟩:=h3
 grind [World.cell?]
theorem vB.manyAt(hH:vB B N μ H w)  (h:mD H b=some p) (hi:μ b=some i){n:Nat} (hl:p.1.many n off=some l) :
  ∃vs:List Value,vs.length=n/\rB μ l vs/\(loadCells ⟨i.b,off,none⟩ n).run P w=.ok vs.toArray w/\∀j,j<n->w.cell? ⟨i.b,off+j,none⟩=vs[j]?:=by
 obtain⟨h1,h2⟩:=Tr.many_some _ _ _ _ hl
 have key:∀j,j<n->∃v',w.cell? ⟨i.b,off+j,none⟩=some v'/\∃a,l[j]?=some a/\uA μ a v':=by
  intro j hj;have h3:=h2 j hj
  cases hlj:l[j]? with
  | none=>grind
  | some a=>
   rw[hlj]at h3;obtain⟨v',h4,h5⟩:=hH.cellAt h hi h3
   simp_all
 let f:Nat->Value:=fun j=>(w.cell? ⟨i.b,off+j,none⟩).getD undef
 have hf:∀j,j<n->w.cell? ⟨i.b,off+j,none⟩=some (f j):=by
  grind
 refine⟨(List.range n).map f,by simp,?_,?_,?_⟩
 all_goals grind [rB.mk,run_loadCells,iY]
theorem HF(hH:vB B N μ H w) {ty:nD}(hty:mM P t ty)  (h:mD H b=some p) (hi:μ b=some i) {v:zA}
  (hv:wS ty p.1 off=some v):∃v',(loadVar t ⟨i.b,off,none⟩).run P w=.ok v' w/\uA μ v v':=by
 unfold wS at hv;unfold loadVar;rw[yad,hty.isAgg,yac]
 cases ha:ty.desc.isAgg with
 | true=>
  rw[ha,cond_true,tA]at hv;obtain⟨l,hl,hv⟩:=hv
  cases hv;obtain⟨vs,_,h2,h3,_⟩:=hH.manyAt (P:=P) h hi hl
  refine⟨.agg vs.toArray,?_,by grind [uA]⟩
  rw[yab rfl,yad,hty.size,yac,yad,h3];rfl
 | false=>
  rw[ha,cond_false]at hv;obtain⟨v',h1,h2⟩:=hH.cellAt h hi hv
  refine⟨v',?_,h2⟩
  rw[yaa (by simp),run_load,h1]
theorem Ll(hT:kF P C)  {cs:Array Value}(hl:rB μ l cs.toList) {v:zA}(hv:jQ C t l off=some v) :
  ∃v',(part t cs off).run P w=.ok v' w/\uA μ v v':=by
 unfold jQ at hv;rw[tA]at hv;obtain⟨ty,hty,hv⟩:=hv
 have hF:=hT.facts hty
 unfold part;rw[yad,hF.isAgg,yac]
 cases ha:ty.desc.isAgg with
 | true=>
  rw[ha,cond_true]at hv
  cases hv;refine⟨.agg (cs.extract off (off+ty.size)),?_,?_⟩
  ·rw[yab rfl,yad,hF.size];rfl
  ·rw[uA];refine⟨_,rfl,?_⟩
   rw[xS,eQ,Array.toList_extract,List.extract_eq_take_drop,Nat.add_sub_cancel_left];exact(hl.drop _).take _
 | false=>
  rw[ha,cond_false,dG]at hv;obtain⟨v',h1,h2⟩:=hl.get hv
  simp_all
def cI (P:Program)(μ:Mu)(w:World)(ρ:Operand->Value)(o:Oper)(v:zA):Prop:=∃v',(execOp ρ o).run P w=.ok (.value v') w/\uA μ v v'
variable {e:yD}{ρ:Operand->Value}{dst:Option Tmp}{type:TypeId}{pos:String}{after:Array Edge}{guard:Option (Nat × Bool)}{v:zA}
def HX(hE:cF μ e ρ) (h:yO x C e H=some v):cI P μ w ρ ⟨dst,.move x,type,pos,after,guard⟩ v:=⟨ρ x,rfl,hE x v h⟩
def IT(hE:cF μ e ρ) (h:yO x C e H=some v):cI P μ w ρ ⟨dst,.assign x,type,pos,after,guard⟩ v:=⟨ρ x,rfl,hE x v h⟩
def HV(hE:cF μ e ρ){c b:Operand}(h:Mg c a b C e H=some v):cI P μ w ρ ⟨dst,.pick c a b,type,pos,after,guard⟩ v:=by
 unfold Mg at h;rw[tA]at h;obtain⟨cv,hc,h⟩:=h
 rw[tA]at h;obtain⟨cb,hb,h⟩:=h
 have h1:=hE _ _ hc
 rw[Da.1 hb,uA]at h1;unfold cI execOp;simp only[h1,asBool]
 cases cb with
 | true=>exact⟨ρ a,rfl,hE _ _ h⟩
 | false=>exact⟨ρ b,rfl,hE _ _ h⟩
theorem ID(hT:kF P C)(hH:vB B N μ H w)(hE:cF μ e ρ)  (h:qW t a C e H=some v):cI P μ w ρ ⟨dst,.load t a,type,pos,after,guard⟩ v:=by
 unfold qW at h;simp only[tA,Ge]at h;obtain⟨av,ha,p,rfl,ty,hty,c,hc,h⟩:=h
 have h1:=hE _ _ ha
 rw[uA]at h1;obtain⟨i,hi,hv⟩:=h1
 obtain⟨v',h2,h3⟩:=HF (P:=P) hH (hT.facts hty) hc hi h
 refine⟨v',?_,h3⟩
 grind [execOp,Instr.loadAt,Instr.sureAddr,Sem.run_bind,Sem.run_pure,Result.andThen_ok]
theorem HW(hE:cF μ e ρ) (h:bZ x C e H=some v):cI P μ w ρ ⟨dst,.nilCheck x,type,pos,after,guard⟩ v:=by
 unfold bZ at h;rw[tA]at h;obtain⟨a,ha,h⟩:=h
 rw[wB]at h;obtain⟨hb,h⟩:=h
 cases h;have h1:=hE _ _ ha
 refine⟨ρ x,?_,h1⟩
 cases v<;>simp[zA.tag,Nat.beq]at hb
 ·rw[uA]at h1
  obtain⟨i,_,hv⟩:=h1
  simp_all [execOp]
 ·rename_i fn a b
  rw[uA]at h1;obtain⟨fn',a',c',hv,hf,_⟩:=h1
  cases fn with
  | func f=>cases hf;simp_all [execOp]
  | yld l=>obtain⟨i,_,rfl⟩:=hf;simp_all [execOp]
def IJ(hE:cF μ e ρ){fn:Fn}{a b:Array Operand}(h:(Cm fn a b).f C e H=some v):cI P μ w ρ ⟨dst,.makeFunc fn a b,type,pos,after,guard⟩ v:=by
 unfold Cm at h;split at h
 ·rename_i f
  simp only[Ia,tA]at h;obtain⟨as,ha,bs,hb,h⟩:=h
  cases h;refine⟨.func (.func f) (a.map ρ) (b.map ρ),rfl,?_⟩
  rw[uA];exact⟨_,_,_,rfl,rfl,by simpa using hE.many ha,by simpa using hE.many hb⟩
 ·cases h
def II(hT:kF P C)(hE:cF μ e ρ)  (h:Cl t x C e H=some v):cI P μ w ρ ⟨dst,.makeInterface t x,type,pos,after,guard⟩ v:=by
 unfold Cl at h;simp only[tA,wB]at h;obtain⟨ty,hty,hb,a,ha,h⟩:=h
 cases h;obtain⟨d,hd,hn⟩:=LU (hT.facts hty) hb
 refine⟨.iface t (ρ x),?_,by rw[uA];exact⟨_,rfl,hE _ _ ha⟩⟩
 simp only[execOp,Instr.makeInterface,yad,pF hd,yac]
 cases d<;>first | rfl | exact absurd rfl (hn _)
theorem IN(hE:cF μ e ρ){t:Operand}{i:Nat}(h:lW t i C e H=some v):cI P μ w ρ ⟨dst,.extract t i,type,pos,after,guard⟩ v:=by
 unfold lW at h;simp only[tA,ZL,dG]at h;obtain⟨a,ha,l,rfl,h⟩:=h
 have h1:=hE _ _ ha
 rw[uA]at h1;obtain⟨cs,hv,hl⟩:=h1
 obtain⟨v',h2,h3⟩:=hl.get h
 refine⟨v',?_,h3⟩
 simp_all [execOp,Instr.extract]
theorem IK(hT:kF P C)(hE:cF μ e ρ)   (h:Cn t x f C e H=some v):cI P μ w ρ ⟨dst,.field t x f,type,pos,after,guard⟩ v:=by
 unfold Cn at h;simp only[tA,Jc,dG]at h;obtain⟨ty,hty,fs,hfs,fd,hfd,a,ha,l,rfl,h⟩:=h
 obtain⟨g,hg,rfl⟩:=Ft (hT.facts hty) hfs
 have h1:=hE _ _ ha
 rw[uA]at h1;obtain⟨cs,hv,hl⟩:=h1
 rw[ybu]at hfd
 cases hgf:g.toList[f]? with
 | none=>simp_all
 | some fld=>
  rw[hgf]at hfd;simp at hfd;subst hfd;obtain⟨v',h2,h3⟩:=Ll (w:=w) hT hl h
  refine⟨v',?_,h3⟩
  simp_all [execOp,Instr.field,pF,asAgg]
theorem IM(hT:kF P C)(hE:cF μ e ρ){s:Nat}  (h:mW s x f C e H=some v):cI P μ w ρ ⟨dst,.fieldAddr s x f,type,pos,after,guard⟩ v:=by
 unfold mW at h;simp only[tA,Ge,dG,wB]at h;obtain⟨ty,hty,fs,hfs,fd,hfd,hz,a,ha,p,rfl,h⟩:=h
 cases h;obtain⟨g,hg,rfl⟩:=Ft (hT.facts hty) hfs
 have h1:=hE _ _ ha
 rw[uA]at h1;obtain⟨i,hi,hv⟩:=h1
 rw[ybu]at hfd
 cases hgf:g.toList[f]? with
 | none=>simp_all
 | some fld=>
  rw[hgf]at hfd;simp at hfd;subst hfd;refine⟨.pointer (some ⟨i.b,p.2+fld.offset,none⟩),?_,by grind [uA]⟩
  have h4:g[f]?=some fld:=by simp_all
  have h5:P.cellsOf fld.type≠0:=by
   grind [beqf]
  have h6:(sizeOf fld.type).run P w=.ok (P.cellsOf fld.type) w:=by
   unfold Program.cellsOf at h5 ⊢
   cases hinf:P.info? fld.type with
   | none=>simp_all
   | some inf=>simp[sizeOf,Ej hinf]
  simp_all [execOp,Instr.fieldAt,pF,Instr.sureAddr,fieldPlace,iY]
end
end Go.Am
namespace Go.Am
open Go
section
variable {P:Program}{C:lA}{B N:Nat}{μ:Mu}{H:xA}{w:World}
variable {e:yD}{ρ:Operand->Value}{dst:Option Tmp}{type:TypeId}{pos:String}{after:Array Edge}{guard:Option (Nat × Bool)}{v:zA}
theorem Dq{k:IntKind}{n:Nat}(h:n<iG k):k.wrap (n:Int)=n:=by
 rw[<- rP];show(bif Nat.blt n (iG k)then Int.ofNat n else _)=_
 grind [qC]
def Yp(k:IntKind):∃m,iG k=2^m/\m<=k.bits:=by
 cases k
 ·exact⟨7,rfl,by decide⟩
 ·exact⟨15,rfl,by decide⟩
 ·exact⟨31,rfl,by decide⟩
 ·exact⟨63,rfl,by decide⟩
 ·exact⟨8,rfl,by decide⟩
 ·exact⟨16,rfl,by decide⟩
 ·exact⟨32,rfl,by decide⟩
 ·exact⟨64,rfl,by decide⟩
def Aw{k:IntKind}{n:Nat}(h:n<iG k):(BitVec.ofInt k.bits (n:Int)).toNat=n:=by
 obtain⟨m,hm,hle⟩:=Yp k
 rw[BitVec.toNat_ofInt];have:n<2^k.bits:=Nat.lt_of_lt_of_le (hm ▸ h) (yao (by omega) hle)
 rw[<- Int.natCast_emod,Int.toNat_natCast,Nat.mod_eq_of_lt this]
theorem Rr{f:Nat->Nat->Nat}{k:IntKind}{a b:Int}{v:zA}(h:lI f k a b=some v):∃x y:Nat,a=x/\b=y/\x<iG k/\y<iG k/\v=.int k (f x y:Nat):=by
 grind [lI,tA,Ly,wB,qC]
theorem zaw{op:BinOp}{k:IntKind}{a b:Int}(h:(AR op).f k a b=some v):op≠.shl/\op≠.shr/\∀t,∃v',(binOp op t (.int k a) (.int k b)).run P w=.ok v' w/\uA μ v v':=by
 cases op<;>simp only[AR]at h
 case add=>cases h;simp_all [binOp,Op.intArith,uA,rP]
 case sub=>cases h;simp_all [binOp,Op.intArith,uA,rP]
 case mul=>cases h;simp_all [binOp,Op.intArith,uA,rP]
 case quo=>
  unfold Ab at h;simp only[sD,Ad]at h;split at h
  ·cases h
  ·rename_i hb;cases h
   simp_all [uA,rP,binOp,Op.intDiv]
 case rem=>
  unfold Aa at h;simp only[sD,Ad]at h;split at h
  ·cases h
  ·rename_i hb;cases h
   simp_all [uA,binOp,Op.intDiv]
 case and=>
  unfold iAnd at h;split at h
  ·obtain⟨x,y,rfl,rfl,hx,hy,rfl⟩:=Rr h
   refine⟨by simp,by simp,fun t=>⟨.int k ((x &&& y:Nat):Int),?_,by rw[uA];rfl⟩⟩
   have h1:x &&& y<iG k:=yam Nat.and_le_left hx
   simp only[binOp,Op.intBits,BitVec.toNat_and,Aw hx,Aw hy,Dq h1];simp
  ·simp only[tA,Ly,wB,qC]at h
   obtain⟨y,rfl,hy,h⟩:=h
   cases h;have e:(BitVec.ofInt k.bits a).toNat=Int.toNat (Int.emod a (.ofNat (kW k))):=by
    rw[BitVec.toNat_ofInt]
    cases k<;>rfl
   generalize Int.toNat (Int.emod a (.ofNat (kW k)))=x at e ⊢
   refine⟨by simp,by simp,fun t=>⟨.int k ((x &&& y:Nat):Int),?_,by rw[uA];rfl⟩⟩
   have h1:x &&& y<iG k:=yam Nat.and_le_right hy
   simp only[binOp,Op.intBits,BitVec.toNat_and,e,Aw hy,Dq h1];simp
 case or=>
  obtain⟨x,y,rfl,rfl,hx,hy,rfl⟩:=Rr h
  obtain⟨m,hm,_⟩:=Yp k
  refine⟨by simp,by simp,fun t=>⟨.int k ((x ||| y:Nat):Int),?_,by rw[uA];rfl⟩⟩
  have h1:x ||| y<iG k:=by simp_all [Nat.or_lt_two_pow]
  simp only[binOp,Op.intBits,BitVec.toNat_or,Aw hx,Aw hy,Dq h1];simp
 case xor=>
  obtain⟨x,y,rfl,rfl,hx,hy,rfl⟩:=Rr h
  obtain⟨m,hm,_⟩:=Yp k
  refine⟨by simp,by simp,fun t=>⟨.int k ((x ^^^ y:Nat):Int),?_,by rw[uA];rfl⟩⟩
  have h1:x ^^^ y<iG k:=by simp_all [Nat.xor_lt_two_pow]
  simp only[binOp,Op.intBits,BitVec.toNat_xor,Aw hx,Aw hy,Dq h1];simp
 case eql=>cases h;simp_all [binOp,Op.intCmp,uA,Cp]
 case neq=>cases h;exact⟨by simp,by simp,fun t=>⟨.bool (a != b),by simp[binOp,Op.intCmp],by rw[uA,Cp];rfl⟩⟩
 case lss=>cases h;simp_all [binOp,Op.intCmp,uA,zgj]
 case leq=>cases h;simp_all [binOp,Op.intCmp,uA,zgk]
 case gtr=>cases h;simp_all [binOp,Op.intCmp,uA,zgj]
 case geq=>cases h;simp_all [binOp,Op.intCmp,uA,zgk]
 all_goals cases h
theorem Iz(s:ByteArray):(nF s).length=s.size:=by simp[nF]
theorem ZB(a b:ByteArray):nF (a++b)=nF a++nF b:=by simp[nF]
theorem ZA(s:ByteArray)(i:Nat):(nF s)[i]?=(s[i]?).map UInt8.toNat:=by
 unfold nF;rw[ybu];congr 1
 by_cases h:i<s.size
 all_goals simp_all [ByteArray.getElem_eq_getElem_data]
theorem NK(s:ByteArray)(l h:Nat):nF (s.extract l h)=((nF s).take h).drop l:=by
 unfold nF;rw[ByteArray.data_extract,Array.toList_extract,List.extract_eq_take_drop,<- List.map_take,<- List.map_drop,List.drop_take]
theorem NL{a b:ByteArray}:(a.toList == b.toList)=(oG (nF a) (nF b)):=by
 grind [Lib.toList_data,rN,nF,Sr]
theorem VM(a:List UInt8):∀b:List UInt8,Op.bytesLess a b=Ye (a.map UInt8.toNat) (b.map UInt8.toNat):=by
 induction a with
 | nil=>intro b;cases b<;>rfl
 | cons x a ih=>
  intro b
  cases b with
  | nil=>rfl
  | cons y b=>
   show _=(bif Nat.blt x.toNat y.toNat then true else bif Nat.beq x.toNat y.toNat then Ye (a.map UInt8.toNat) (b.map UInt8.toNat)else false)
   grind [Op.bytesLess,qC,UInt8.lt_iff_toNat_lt,UInt8.toNat_inj,kC]
theorem zav{op:BinOp}{a b:ByteArray}(h:(AP op).f (nF a) (nF b)=some v):op≠.shl/\op≠.shr/\∀t,∃v',(binOp op t (.string a) (.string b)).run P w=.ok v' w/\uA μ v v':=by
 cases op<;>simp only[AP]at h
 case add=>
  simp only[Gz,wB,qC,qD,cG,Iz]at h;obtain⟨h1,h⟩:=h
  cases h;refine⟨by simp,by simp,fun t=>⟨.string (a++b),?_,by grind [uA,ZB]⟩⟩
  have h2:¬ (((a.size+b.size:Nat):Int) > IntKind.i64.max):=by
   have:IntKind.i64.max=9223372036854775807:=by decide
   omega
  simp_all [binOp,Op.stringOp]
 case eql=>cases h;exact⟨by simp,by simp,fun t=>⟨.bool (a.toList == b.toList),rfl,by rw[uA,NL]⟩⟩
 case neq=>cases h;exact⟨by simp,by simp,fun t=>⟨.bool !(a.toList == b.toList),rfl,by rw[uA,NL]⟩⟩
 case lss=>cases h;exact⟨by simp,by simp,fun t=>⟨.bool (Op.bytesLess a.toList b.toList),rfl,by rw[uA,Lib.toList_data,Lib.toList_data,VM];rfl⟩⟩
 all_goals cases h
theorem Mx{op:BinOp}{t:TypeId}{x y:Operand}{a b:Value}(h1:¬ (a=.nilIface/\b=.nilIface)\/(Mo x||Mo y)=true)(h2:∀l m,¬ (a=.agg l/\b=.agg m)):(eqGuard op t x y a b).run P w=.ok () w:=by
 unfold eqGuard
 cases op
 case eql | neq=>
  rw[yaa (by simp)]
  split
  ·rcases h1 with h1 | h1
   ·simp_all
   ·cases x<;>cases y<;>simp[Mo]at h1 ⊢
  all_goals simp_all
 all_goals rfl
theorem XL{op:BinOp}{t:TypeId}{x y:Operand}{l m:Array Value}(h:P.eqGuardType P.depth t=false):(eqGuard op t x y (.agg l) (.agg m)).run P w=.ok () w:=by
 simp_all [eqGuard]
theorem Hb{op:BinOp}{t yt:TypeId}{x y:Operand}{v':Value}(h1:(eqGuard op t x y (ρ x) (ρ y)).run P w=.ok () w)(h2:(binOp op t (ρ x) (ρ y)).run P w=.ok v' w) :
  (execOp ρ ⟨dst,.binOp op t x y yt,type,pos,after,guard⟩).run P w=.ok (.value v') w:=by
 simp_all [execOp]
theorem DU{k:IntKind}{b:Int}{n:Nat}(h:Eh k b=some n):¬ b<0/\n=min b.toNat k.bits:=by
 grind [Eh,tA,Ly]
theorem NP{op:BinOp}{t yt:TypeId}{x y:Operand}{a b:zA}(hx:uA μ a (ρ x))(hy:uA μ b (ρ y))
  (h:(op=.shl/\Nl gW a b=some v)\/(op=.shr/\Nl Fh a b=some v)):cI P μ w ρ ⟨dst,.binOp op t x y yt,type,pos,after,guard⟩ v:=by
 rcases h with⟨rfl,h⟩ | ⟨rfl,h⟩
 all_goals
  unfold Nl at h;simp only[tA,xX,AU]at h;obtain⟨p,rfl,n,⟨k',rfl⟩,h⟩:=h
  rw[uA]at hx hy
 ·unfold gW at h
  rw[tA]at h;obtain⟨m,hm,h⟩:=h
  cases h;obtain⟨h1,rfl⟩:=DU hm
  refine⟨.int p.1 (p.1.wrap (p.2*2^(min n.toNat p.1.bits))),Hb (Mx (.inl (by grind)) (by grind)) ?_,by rw[uA,rP];simp⟩
  rw[hx,hy];simp[binOp,Op.shift,h1]
 ·unfold Fh at h
  rw[tA]at h;obtain⟨m,hm,h⟩:=h
  cases h;obtain⟨h1,rfl⟩:=DU hm
  refine⟨.int p.1 (p.2.fdiv (2^(min n.toNat p.1.bits))),Hb (Mx (.inl (by grind)) (by grind)) ?_,by rw[uA];simp⟩
  rw[hx,hy];simp[binOp,Op.shift,h1]
theorem Mw{n m:Nat}{a b:zA}{r:Bool}(h:Cv n m a b=some r):(a.tag=n/\b.tag=n/\r=true)\/(a.tag=n/\b.tag=m/\r=false)\/(a.tag=m/\b.tag=n/\r=false):=by
 grind [Cv,kC,wB]
theorem XN{t:Nat}{ty:nD}(hF:mM P t ty){a b:zA}{va vb:Value}(ha:uA μ a va)(hb:uA μ b vb){r:Bool}{d:Nat}(h:My ty.desc a b=some r) :
  (Op.equalIn (d+1) t va vb).run P w=.ok r w:=by
 obtain⟨D,hD⟩:=hF.und
 have h0:=hF.desc
 unfold dP at h0;rw[hD]at h0;unfold Op.equalIn;rw[yad,pF hD,yac];rw[<- h0]at h
 cases D<;>simp only[My]at h<;>try (cases h;done)
 case bool=>
  simp only[Io,tA,Da]at h;obtain⟨x,rfl,y,rfl,h⟩:=h
  simp_all [uA,uV]
 case int k=>
  simp only[zkf,tA,xX,wB,yP]at h;obtain⟨x,rfl,y,rfl,hk,h⟩:=h
  simp_all [uA,Cp]
 case string=>
  simp only[Zu,tA,yX]at h;obtain⟨x,rfl,y,rfl,h⟩:=h
  cases h;rw[uA]at ha hb;obtain⟨s,rfl,rfl⟩:=ha
  obtain⟨u,rfl,rfl⟩:=hb
  have:(s == u)=oG (nF s) (nF u):=by
   rw[Bool.eq_iff_iff,rN];have h1:(s == u)=(s.data == u.data):=rfl
   grind [nF,Sr]
  simp_all
 case pointer el=>
  rcases Mw h with⟨h1,h2,rfl⟩ | ⟨h1,h2,rfl⟩ | ⟨h1,h2,rfl⟩<;>cases a<;>simp[zA.tag]at h1<;>cases b<;>simp[zA.tag]at h2<;>rw[uA]at ha<;>rw[uA]at hb
  ·simp_all
  ·obtain⟨i,_,hb⟩:=hb;simp_all
  ·obtain⟨i,_,ha⟩:=ha;simp_all
 case slice el=>
  rcases Mw h with⟨h1,h2,rfl⟩ | ⟨h1,h2,rfl⟩ | ⟨h1,h2,rfl⟩<;>cases a<;>simp[zA.tag]at h1<;>cases b<;>simp[zA.tag]at h2<;>rw[uA]at ha<;>rw[uA]at hb
  ·simp_all
  ·rcases hb with⟨i,_,_,hb,_⟩ | ⟨_,_,_,_,_,hb,_⟩ <;> (simp_all)
  ·rcases ha with⟨i,_,_,ha,_⟩ | ⟨_,_,_,_,_,ha,_⟩ <;> (simp_all)
 case map k el=>
  rcases Mw h with⟨h1,h2,rfl⟩ | ⟨h1,h2,rfl⟩ | ⟨h1,h2,rfl⟩<;>cases a<;>simp[zA.tag]at h1<;>cases b<;>simp[zA.tag]at h2<;>rw[uA]at ha<;>rw[uA]at hb
  ·simp_all
  ·obtain⟨i,_,hb⟩:=hb;simp_all
  ·obtain⟨i,_,ha⟩:=ha;simp_all
 case func ps rs vd=>
  rcases Mw h with⟨h1,h2,rfl⟩ | ⟨h1,h2,rfl⟩ | ⟨h1,h2,rfl⟩<;>cases a<;>simp[zA.tag]at h1<;>cases b<;>simp[zA.tag]at h2<;>rw[uA]at ha<;>rw[uA]at hb
  ·simp_all
  ·obtain⟨i,_,_,hb,_⟩:=hb;simp_all
  ·obtain⟨i,_,_,ha,_⟩:=ha;simp_all
 case interface ms=>
  rcases Mw h with⟨h1,h2,rfl⟩ | ⟨h1,h2,rfl⟩ | ⟨h1,h2,rfl⟩<;>cases a<;>simp[zA.tag]at h1<;>cases b<;>simp[zA.tag]at h2<;>rw[uA]at ha<;>rw[uA]at hb
  ·simp_all
  ·obtain⟨i,hb,_⟩:=hb;simp_all
  ·obtain⟨i,ha,_⟩:=ha;simp_all
theorem KX{t:Nat}{g:Array Field}(h:P.underlying t=some (.struct g)):P.fieldsOf t=g:=by unfold Program.fieldsOf;rw[h]
theorem zei(hT:kF P C){D:Nat}{eq:Nat->zA->zA->Option Bool}(heq:∀t a b va vb r,uA μ a va->uA μ b vb->eq t a b=some r->(Op.equalIn D t va vb).run P w=.ok r w)
  {xs ys : List zA} {vx vy : Array Value} (hx : rB μ xs vx.toList) (hy : rB μ ys vy.toList) : ∀ (g : List Field) (r : Bool), (∀ f ∈ g, f.name ≠ "_") -> Je C eq xs ys (g.map fun f => (f.offset, f.type, P.cellsOf f.type)) = some r →
   (Op.eqFields D vx vy g).run P w=.ok r w:=by
 intro g;induction g with
 | nil=>intro r _ h;cases h;rfl
 | cons f g ih=>
  intro r hn h;rw[ycm,Je]at h;simp only[tA]at h;obtain⟨a,ha,b,hb,q,hq,h⟩:=h
  obtain⟨va,h1,h2⟩:=Ll (P:=P) (w:=w) hT hx ha
  obtain⟨vb,h3,h4⟩:=Ll (P:=P) (w:=w) hT hy hb
  have h5:=heq _ _ _ _ _ _ h2 h4 hq
  rw[Op.eqFields,yab (hn f (by simp))]
  simp only[yad,h1,yac,h3,h5]
  cases q with
  | true=>grind
  | false=>simp_all
theorem zgx(hT:kF P C):∀(d D t:Nat) (a b:zA) (va vb:Value) (r:Bool),d<=D->uA μ a va->uA μ b vb->aeq C d t a b=some r->(Op.equalIn D t va vb).run P w=.ok r w:=by
 intro d;induction d with
 | zero=>intro D t a b va vb r _ _ _ h;cases h
 | succ d ih=>
  intro D t a b va vb r hD ha hb h
  cases D with
  | zero=>omega
  | succ D=>
   rw[aeq,tA]at h;obtain⟨ty,hty,h⟩:=h
   have hF:=hT.facts hty
   split at h
   ·rename_i fs hfs
    simp only[wB,tA,Jc]at h;obtain⟨hok,xs,rfl,ys,rfl,h⟩:=h
    obtain⟨g,hg,rfl⟩:=Ft hF hfs
    obtain⟨h1,_,h3⟩:=hF.eqOk hok
    grind [uA,KX,run_equalIn_struct,zei]
   grind [XN]
theorem zk2(hT:kF P C){d t:Nat}{a b:zA}{l m:Array Value}{r:Bool}(ha:uA μ a (.agg l))(hb:uA μ b (.agg m))(h:aeq C d t a b=some r):P.eqGuardType P.depth t=false:=by
 cases d with
 | zero=>cases h
 | succ d=>
  rw[aeq,tA]at h;obtain⟨ty,hty,h⟩:=h
  split at h
  ·rw[wB]at h;exact((hT.facts hty).eqOk h.1).2.1
  ·exfalso
   have hag:∀(a:zA) (l:Array Value),uA μ a (.agg l)->a.tag=13:=by
    intro a l ha
    cases a<;>rw[uA]at ha<;>first | rfl | (exfalso;revert ha;simp)
   have h1:=hag _ _ ha
   have h2:=hag _ _ hb
   cases a<;>simp[zA.tag]at h1
   cases b<;>simp[zA.tag]at h2
   revert h
   cases ty.desc<;>simp[My,Io,zA.asBool,zkf,zA.asIntK,Zu,zA.asStr,Cv,Se,zA.tag,xB,Nat.beq]
def CJ{a:zA}{v:Value}(h:uA μ a v):v=.nilIface->a.tag=12:=by
 intro hv;subst hv
 cases a<;>rw[uA]at h<;>first | rfl | (exfalso;revert h;simp)
theorem NR(hT:kF P C){op:BinOp}{t yt:TypeId}{x y:Operand}{a b:zA}{neg:Bool}(hx:uA μ a (ρ x))(hy:uA μ b (ρ y))(ha:a.asIntK=none)(hs:a.asStr=none)
  (hop:(neg=false/\op=.eql)\/(neg=true/\op=.neq)) (h:Sz neg C t x y a b=some v):cI P μ w ρ ⟨dst,.binOp op t x y yt,type,pos,after,guard⟩ v:=by
 unfold Sz at h;simp only[wB,tA]at h;obtain⟨hg,r,hr,h⟩:=h
 cases h;have h1:(Op.equal t (ρ x) (ρ y)).run P w=.ok r w:=zgx hT 20 10000 t a b _ _ r (by decide) hx hy hr
 have hG:(eqGuard op t x y (ρ x) (ρ y)).run P w=.ok () w:=by
  by_cases hag:∃l m,ρ x=.agg l/\ρ y=.agg m
  ·grind [XL,zk2]
  ·refine Mx ?_ fun l m hlm=>hag ⟨l,m,hlm⟩
   by_cases hn:ρ x=.nilIface/\ρ y=.nilIface
   ·right
    have h2:=CJ hx hn.1
    have h3:=CJ hy hn.2
    simp_all [LN]
   simp_all
 have hnx:∀k n,ρ x≠.int k n:=by
  intro k n hv;rw[hv]at hx
  cases a<;>rw[uA]at hx<;>first | (simp[zA.asIntK]at ha;done) | (revert hx;simp)
 have hsx:∀s,ρ x≠.string s:=by
  intro s hv;rw[hv]at hx
  cases a<;>rw[uA]at hx<;>first | (simp[zA.asStr]at hs;done) | (revert hx;simp)
 have hfx:∀k n,ρ x≠.float k n:=by
  intro k n hv;rw[hv]at hx
  cases a<;>rw[uA]at hx<;>revert hx<;>simp
 have hcx:∀k n m,ρ x≠.complex k n m:=by
  intro k n m hv;rw[hv]at hx
  cases a<;>rw[uA]at hx<;>revert hx<;>simp
 rcases hop with⟨rfl,rfl⟩ | ⟨rfl,rfl⟩
 ·refine⟨.bool r,Hb hG ?_,by rw[uA];rfl⟩
  revert h1 hnx hsx hfx hcx
  generalize ρ x=vx
  generalize ρ y=vy
  intro h1 hnx hsx hfx hcx
  cases vx<;>first
   | exact absurd rfl (hnx _ _)
   | exact absurd rfl (hsx _)
   | exact absurd rfl (hfx _ _)
   | exact absurd rfl (hcx _ _ _)
   | simp[binOp,h1]
 ·refine⟨.bool (!r),Hb hG ?_,by rw[uA];rfl⟩
  revert h1 hnx hsx hfx hcx
  generalize ρ x=vx
  generalize ρ y=vy
  intro h1 hnx hsx hfx hcx
  cases vx<;>first
   | exact absurd rfl (hnx _ _)
   | exact absurd rfl (hsx _)
   | exact absurd rfl (hfx _ _)
   | exact absurd rfl (hcx _ _ _)
   | simp[binOp,h1]
theorem IS(hT:kF P C)(hE:cF μ e ρ){op:BinOp}{t yt:Nat}{x y:Operand}(h:jW op t x y C e H=some v):cI P μ w ρ ⟨dst,.binOp op t x y yt,type,pos,after,guard⟩ v:=by
 unfold jW at h;simp only[tA]at h;obtain⟨a,ha,b,hb,h⟩:=h
 have hx:=hE _ _ ha
 have hy:=hE _ _ hb
 clear ha hb
 revert h
 have plain:∀op,op≠.shl->op≠.shr->AQ op C t x y a b=some v->cI P μ w ρ ⟨dst,.binOp op t x y yt,type,pos,after,guard⟩ v:=by
  intro op _ _ h;unfold AQ at h;split at h
  ·rename_i i hi
   simp only[tA,xX,wB,yP]at h;obtain⟨j,rfl,hk,h⟩:=h
   rw[xX]at hi;subst hi;rw[uA]at hx;rw[uA]at hy;obtain⟨_,_,h2⟩:=zaw (P:=P) (μ:=μ) (w:=w) h
   obtain⟨v',h3,h4⟩:=h2 t
   refine⟨v',Hb (Mx (.inl (by grind)) (by grind)) ?_,h4⟩
   simp_all
  ·rename_i hi
   split at h
   ·rename_i s hs
    simp only[tA,yX]at h;obtain⟨u,rfl,h⟩:=h
    rw[yX]at hs;subst hs;rw[uA]at hx;rw[uA]at hy;obtain⟨sx,hx,rfl⟩:=hx
    obtain⟨sy,hy,rfl⟩:=hy
    obtain⟨_,_,h2⟩:=zav (P:=P) (μ:=μ) (w:=w) h
    obtain⟨v',h3,h4⟩:=h2 t
    refine⟨v',Hb (Mx (.inl (by grind)) (by grind)) ?_,h4⟩
    simp_all
   ·rename_i hs
    cases op<;>simp only[NQ]at h<;>first
     | exact NR hT hx hy hi hs (.inl ⟨rfl,rfl⟩) h
     | exact NR hT hx hy hi hs (.inr ⟨rfl,rfl⟩) h
     | (cases h;done)
 intro h
 cases op<;>simp only[aP]at h<;>first
  | exact NP hx hy (.inl ⟨rfl,h⟩)
  | exact NP hx hy (.inr ⟨rfl,h⟩)
  | exact plain _ (by simp) (by simp) h
theorem Yo{k:IntKind}(h:kLo k=0):iG k=2^k.bits:=by
 cases k<;>first
  | (cases h;done)
  | rfl
theorem zfr(hE:cF μ e ρ){op:UnOp}{t:Nat}{x:Operand}(h:lUn op x C e H=some v):cI P μ w ρ ⟨dst,.unOp op t x,type,pos,after,guard⟩ v:=by
 unfold lUn at h;simp only[tA]at h;obtain⟨a,ha,h⟩:=h
 have hx:=hE _ _ ha
 cases op<;>simp only[unA]at h<;>try (cases h;done)
 case neg=>
  simp only[unNeg,tA,xX]at h;obtain⟨p,rfl,h⟩:=h
  cases h;rw[uA]at hx;refine⟨.int p.1 (p.1.wrap (0-p.2)),?_,by rw[uA,rP]⟩
  simp[execOp,hx,Op.unary,Op.intArith]
 case xor=>
  simp only[Dz,tA,xX,wB,kC]at h;obtain⟨p,rfl,hk,h⟩:=h
  obtain⟨a,b,ha1,hb,hx1,hy,rfl⟩:=Rr h
  rw[uA]at hx;have h1:Nat.xor a b<iG p.1:=by
   have:Nat.xor a b<2^p.1.bits:=Nat.xor_lt_two_pow (by grind [Yo]) (by grind [Yo])
   grind [Yo]
  refine⟨.int p.1 (Nat.xor a b:Nat),?_,by rw[uA]⟩
  have hm:(if p.1.signed then(-1:Int)else p.1.max)=(a:Int):=by
   rw[<- ha1];revert hk
   cases p.1<;>intro hk<;>first
    | (cases hk;done)
    | rfl
  have e2:(Op.intBits .xor p.1 (if p.1.signed then -1 else p.1.max) p.2).run P w=.ok (.int p.1 (Nat.xor a b:Nat)) w:=by
   rw[hm,hb];simp only[Op.intBits,BitVec.toNat_xor,Aw hx1,Aw hy];rw[show(a ^^^ b:Nat)=Nat.xor a b from rfl,Dq h1]
   rfl
  simp_all [execOp,Op.unary]
 case not=>
  simp only[unNot,tA,Da]at h;obtain⟨b,rfl,h⟩:=h
  cases h;rw[uA]at hx;refine⟨.bool (!b),?_,by rw[uA]⟩
  simp[execOp,hx,Op.unary]
end
end Go.Am
