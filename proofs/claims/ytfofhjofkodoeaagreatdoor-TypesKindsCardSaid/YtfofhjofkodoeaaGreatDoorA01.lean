/- -/
import Derived.Below
import Derived.Calls
import Derived.Laws.Cells
import Derived.Laws.Sem
import Derived.Laws.StructEq
import Derived.Laws.World
import Derived.Lib.Strings
set_option linter.all false
noncomputable section
namespace Go.Am
def yaa := @if_neg
def yab := @if_pos
def yac := @Result.andThen_ok
def yad := @Sem.run_bind
def yae := @Sem.run_pure
def yaf := @List.mem_append
def yag := @Nat.pow_succ
def yah := @List.nil_append
def yai := @Option.bind_some
def yaj := @Array.getElem?_append_left
def yak := @List.drop_eq_nil_iff
def yal := @Bool.or_eq_false_iff
def yam := @Nat.lt_of_le_of_lt
def yan := @Nat.le_mul_of_pos_left
def yao := @Nat.pow_le_pow_right
def yap := @Nat.add_comm
def yaq := @List.mem_map
def yar := @Option.map_eq_some_iff
def yas := @List.flatten_cons
def yat := @Nat.mul_zero
def yau := @Nat.lt_or_ge
def yav := @Nat.eq_zero_or_pos
def yaw := @Nat.zero_le
def yax := @Array.toList_inj
def yay := @Bool.and_false
def yaz := @List.getElem?_cons_zero
def yba := @List.getElem?_cons_succ
def ybb := @Bool.and_eq_true
def ybc := @List.getElem?_eq_some_iff
def ybd := @List.getElem?_eq_getElem
def ybe := @Array.getElem?_eq_some_iff
def ybf := @List.length_map
def ybg := @List.length_append
def ybh := @Nat.mul_comm
def ybi := @Nat.mul_le_mul_right
def ybj := @Nat.mul_assoc
def ybk := @Nat.le_refl
def ybl := @List.drop_eq_getElem_cons
def ybm := @Nat.mul_add
def ybn := @List.length_cons
def ybo := @Nat.add_mul
def ybp := @List.getElem?_append_right
def ybq := @Bool.false_eq_true
def ybr := @List.mem_cons_of_mem
def ybs := @List.mem_cons
def ybt := @List.drop_eq_nil_of_le
def ybu := @List.getElem?_map
def ybv := @Nat.mul_le_mul_left
def ybw := @Nat.zero_add
def ybx := @List.length_nil
def yby := @List.mem_cons_self
def ybz := @List.append_assoc
def yca := @List.take_of_length_le
def ycb := @List.all_eq_true
def ycc := @List.length_eq_zero_iff
def ycd := @List.append_nil
def yce := @Nat.dvd_mul_left_of_dvd
def ycf := @List.mem_append_right
def ycg := @List.all_cons
def ych := @Nat.div_add_mod
def yci := @Option.some.inj
def ycj := @List.getElem_mem
def yck := @List.all_nil
def ycl := @Bool.not_false
def ycm := @List.map_cons
def ycn := @Bool.true_and
def yco := @List.getElem?_append_left
def ycp := @Bool.not_eq_true'
def ycq := @Bool.or_eq_true
def ycr := @List.drop_zero
def ycs := @Array.getElem?_setIfInBounds
def yct := @Nat.add_zero
def ycu := @Nat.div_lt_of_lt_mul
def ycv := @List.mem_of_getElem?
def ycw := @List.getElem?_set
def ycx := @Array.getD_eq_getD_getElem?
def ycy := @Nat.mod_lt
def ycz := @Array.length_toList
def yda := @List.length_take
def ydb := @Nat.mul_le_mul
def ydc := @List.mem_append_left
def ydd := @List.mem_singleton
def yde := @List.getElem?_drop
def ydf := @List.getElem?_take
def ydg := @List.take_add_one
def ydh := @List.length_set
def ydi := @List.all_append
def ydj := @List.length_drop
end Go.Am
namespace Go.Am
inductive Tr (α:Type) where
 | leaf
 | node (l:Tr α) (v:Option α) (r:Tr α)
def ob {α β:Type}(x:Option α)(f:α->Option β):Option β:=Option.rec (motive:=fun _=>Option β) none f x
namespace Tr
variable {α:Type}
def get (t:Tr α):Nat->Option α:=
 Tr.rec (motive:=fun _=>Nat->Option α) (fun _=>none)
  (fun _ v _ gl gr n=>Bool.rec (motive:=fun _=>Option α) (Bool.rec (motive:=fun _=>Option α) (gr (Nat.pred (Nat.div n (nat_lit 2)))) (gl (Nat.div n (nat_lit 2))) (Nat.beq (Nat.mod n (nat_lit 2)) (nat_lit 1))) v (Nat.beq n (nat_lit 0))) t
def mk (f:Nat):Nat->α->Tr α:=
 Nat.rec (motive:=fun _=>Nat->α->Tr α) (fun _ _=>leaf)
  (fun _ g n v=>Bool.rec (motive:=fun _=>Tr α) (Bool.rec (motive:=fun _=>Tr α) (node leaf none (g (Nat.pred (Nat.div n (nat_lit 2))) v)) (node (g (Nat.div n (nat_lit 2)) v) none leaf) (Nat.beq (Nat.mod n (nat_lit 2)) (nat_lit 1))) (node leaf (some v) leaf) (Nat.beq n (nat_lit 0))) f
def set (t:Tr α):Nat->α->Tr α:=
 Tr.rec (motive:=fun _=>Nat->α->Tr α) (fun n v=>mk (Nat.succ n) n v)
  (fun l x r gl gr n v=>Bool.rec (motive:=fun _=>Tr α) (Bool.rec (motive:=fun _=>Tr α) (node l x (gr (Nat.pred (Nat.div n (nat_lit 2))) v)) (node (gl (Nat.div n (nat_lit 2)) v) x r) (Nat.beq (Nat.mod n (nat_lit 2)) (nat_lit 1))) (node l (some v) r) (Nat.beq n (nat_lit 0))) t
def del (t:Tr α):Nat->Tr α:=
 Tr.rec (motive:=fun _=>Nat->Tr α) (fun _=>leaf)
  (fun l x r gl gr n=>Bool.rec (motive:=fun _=>Tr α) (Bool.rec (motive:=fun _=>Tr α) (node l x (gr (Nat.pred (Nat.div n (nat_lit 2))))) (node (gl (Nat.div n (nat_lit 2))) x r) (Nat.beq (Nat.mod n (nat_lit 2)) (nat_lit 1))) (node l none r) (Nat.beq n (nat_lit 0))) t
def many (t:Tr α)(n:Nat):Nat->Option (List α):=
 Nat.rec (motive:=fun _=>Nat->Option (List α)) (fun _=>some [])
  (fun _ g i=>ob (t.get i) fun v=>ob (g (i+1)) fun l=>some (v::l)) n
def setMany(l:List α):Tr α->Nat->Tr α:=
 List.rec (motive:=fun _=>Tr α->Nat->Tr α) (fun t _=>t) (fun v _ g t i=>g (t.set i v) (i+1)) l
def ofList(l:List α):Tr α:=setMany l leaf 0
end Tr
def xD {α:Type}(l:List α):Nat->Option α:=
 List.rec (motive:=fun _=>Nat->Option α) (fun _=>none) (fun a _ g n=>Bool.rec (motive:=fun _=>Option α) (g (Nat.pred n)) (some a) (Nat.beq n (nat_lit 0))) l
def fP{α:Type}(l:List α):Nat->List α:=
 List.rec (motive:=fun _=>Nat->List α) (fun _=>[]) (fun a l g n=>bif Nat.beq n 0 then a::l else g (n-1)) l
def wX{α:Type}(l:List α):Nat->List α:=
 List.rec (motive:=fun _=>Nat->List α) (fun _=>[]) (fun a _ g n=>bif Nat.beq n 0 then []else a::g (n-1)) l
def oB {α:Type}(l:List α):Nat:=List.rec (motive:=fun _=>Nat) 0 (fun _ _ n=>n+1) l
def bD {α:Type}(l m:List α):List α:=List.rec (motive:=fun _=>List α) m (fun a _ g=>a::g) l
def eE {α:Type}(p:α->Bool)(l:List α):Bool:=List.rec (motive:=fun _=>Bool) true (fun a _ g=>bif p a then g else false) l
def fG{α β:Type}(f:α->Option β)(l:List α):Option (List β):=
 List.rec (motive:=fun _=>Option (List β)) (some []) (fun a _ g=>ob (f a) fun b=>ob g fun r=>some (b::r)) l
def fC(a:List Nat):List Nat->Bool:=
 List.rec (motive:=fun _=>List Nat->Bool) (fun b=>b.isEmpty) (fun x _ g b=>List.rec (motive:=fun _=>Bool) false (fun y b _=>bif Nat.beq x y then g b else false) b) a
def kIdx:IntKind->Nat
 | .i8=>0 | .i16=>1 | .i32=>2 | .i64=>3 | .u8=>4 | .u16=>5 | .u32=>6 | .u64=>7
def cM (a b:IntKind):Bool:=Nat.beq (kIdx a) (kIdx b)
def jH:Bool->Bool->Bool
 | true,b=>b
 | false,b => !b
def tA:Int->Int->Bool
 | .ofNat a,.ofNat b=>Nat.beq a b
 | .negSucc a,.negSucc b=>Nat.beq a b
 | _,_=>false
def xC:Int->Int->Bool
 | .ofNat a,.ofNat b=>Nat.ble a b
 | .ofNat _,.negSucc _=>false
 | .negSucc _,.ofNat _=>true
 | .negSucc a,.negSucc b=>Nat.ble b a
def kB:Int->Int->Bool
 | .ofNat a,.ofNat b=>Nat.blt a b
 | .ofNat _,.negSucc _=>false
 | .negSucc _,.ofNat _=>true
 | .negSucc a,.negSucc b=>Nat.blt b a
def yH:IntKind->Nat
 | .i8=>128 | .i16=>32768 | .i32=>2147483648 | .i64=>9223372036854775808 | .u8=>256 | .u16=>65536 | .u32=>4294967296 | .u64=>18446744073709551616
def kLo:IntKind->Nat
 | .i8=>128 | .i16=>32768 | .i32=>2147483648 | .i64=>9223372036854775808 | _=>0
def jA(k:IntKind):Int->Int
 | .ofNat n=>bif Nat.blt n (yH k)then .ofNat n else k.wrap (.ofNat n)
 | .negSucc n=>bif Nat.blt n (kLo k)then .negSucc n else k.wrap (.negSucc n)
inductive AFn where
 | func (f:Nat)
 | yld (l:Nat)
inductive zA where
 | bool (b:Bool)
 | int (k:IntKind) (n:Int)
 | str (l:List Nat)
 | nilptr
 | ptr (b off:Nat)
 | nilslice
 | slice (b off len cap:Nat)
 | nilmap
 | map (b:Nat)
 | func (fn:AFn) (first captured:List zA)
 | nilfunc
 | iface (t:Nat) (v:zA)
 | niliface
 | agg (l:List zA)
 | tup (l:List zA)
structure Tm where
 k:Nat
 v:Tr zA
 t:List (Nat × zA)
def assoc(i:Nat)(l:List (Nat × zA)):Option zA:=
 List.rec (motive:=fun _=>Option zA) none (fun a _ g=>Bool.rec (motive:=fun _=>Option zA) g (some a.2) (Nat.beq i a.1)) l
def Tm.get(t:Tm)(i:Nat):Option zA:=Bool.rec (motive:=fun _=>Option zA) (assoc i t.t) (t.v.get i) (Nat.blt i t.k)
def Tm.set(t:Tm)(i:Nat)(x:zA):Tm:=Bool.rec (motive:=fun _=>Tm) ⟨t.k,t.v,(i,x)::t.t⟩ ⟨t.k,t.v.set i x,t.t⟩ (Nat.blt i t.k)
def Tm.cut(t:Tm):Tm:=⟨t.k,t.v,[]⟩
structure mJ where
 fn:Option AFn
 r:Nat
 args:List zA
structure bO where
 state:LoopState
 pending:Option Code
 fn:Nat
 n:Nat
 tm:Tm
 params:List Nat
 assign:Code
 body:Code
 defers:Nat
inductive Lo where
 | sz (n:Nat)
 | ty (t:Nat)
def Lo.es:Lo->Nat | .sz n=>n | .ty _=>1
def loEq:Lo->Lo->Bool
 | .sz a,.sz b=>Nat.beq a b
 | .ty a,.ty b=>Nat.beq a b
 | _,_=>false
inductive qA where
 | cells (c:Tr zA) (n:Nat) (loose:Option Lo)
 | map (l:List (zA × zA))
 | loop (l:bO)
 | deferred (l:Option (List mJ))
 | siter (s:List Nat) (pos:Nat)
structure wA where
 next:Nat
 t:Tr qA
inductive jD where
 | bool | int (k:IntKind) | string
 | ptr (e:Nat) | slice (e:Nat) | arr (n e:Nat) | map (k e:Nat)
 | struct (fs:List (Nat × Nat × Nat))
 | func | iface | other
structure mC where
 desc:jD
 size:Nat
 bytes:Nat
 zero:List zA
 eqOk:Bool
structure xF where
 heavy:Nat
 lights:List Nat
 again:List Nat
structure Plan where
 first:List Nat
 stages:List xF
 olds:List (Nat × List Nat)
structure dA where
 fns:Tr Func
 ks:Tr Nat
 tys:Tr mC
 plans:Tr (Tr Plan)
 prims:Tr (List zA->wA->Option (zA × wA))
 base:Nat
 root:Nat
inductive tE where
 | code (c:Code)
 | inBlock (id:Nat)
 | inLoop (c:Code)
 | inScope (c:Code)
 | ops (all:Array Oper) (rest:List Oper)
 | reg (all:Array Oper) (old:Tm) (olds:List (Nat × List Nat)) (stages:List xF)
 | inRange (l:Nat)
 | endRange (l:Nat)
 | beginRound
structure Au where
 v:zA
 recovered:Bool
inductive rW where
 | run | returning
 | panicking (chain:List Au)
structure fJ where
 fn:Nat
 n:Nat
 defers:List mJ
 mode:rW
 deferred:Bool
 roundOf:Option Nat
structure tC where
 todo:List tE
 tm:Tm
 R:fJ
structure pQ where
 fr:tC
 cs:List tC
 H:wA
inductive aE where
 | next (s:pQ)
 | done (v:zA) (H:wA)
 | fail (why:Nat)
def zA.asBool:zA->Option Bool | .bool b=>some b | _=>none
def zA.asInt:zA->Option Int | .int _ n=>some n | _=>none
def zA.asIntK:zA->Option (IntKind × Int) | .int k n=>some (k,n) | _=>none
def zA.asStr:zA->Option (List Nat) | .str l=>some l | _=>none
def zA.asPtr:zA->Option (Nat × Nat) | .ptr b o=>some (b,o) | _=>none
def zA.asSlice:zA->Option (Nat × Nat × Nat × Nat) | .slice b o l c=>some (b,o,l,c) | _=>none
def zA.asMap:zA->Option Nat | .map b=>some b | _=>none
def zA.asAgg:zA->Option (List zA) | .agg l=>some l | _=>none
def zA.asTup:zA->Option (List zA) | .tup l=>some l | _=>none
def zA.asFunc:zA->Option (AFn × List zA × List zA) | .func f a b=>some (f,a,b) | _=>none
def zA.asIface:zA->Option (Nat × zA) | .iface t v=>some (t,v) | _=>none
def zA.tag:zA->Nat
 | .bool _=>0 | .int _ _=>1 | .str _=>2 | .nilptr=>3 | .ptr _ _=>4 | .nilslice=>5 | .slice _ _ _ _=>6 | .nilmap=>7 | .map _=>8
 | .func _ _ _=>9 | .nilfunc=>10 | .iface _ _=>11 | .niliface=>12 | .agg _=>13 | .tup _=>14
def sL:Int->Option Nat | .ofNat n=>some n | .negSucc _=>none
def zA.asNat(v:zA):Option Nat:=ob v.asInt sL
def zA.cells(v:zA):List zA:=
 match v.asAgg with
 | some l=>l
 | none=>[v]
def zA.one(v:zA):Bool:=Nat.blt v.tag 13
def jD.asInt:jD->Option IntKind | .int k=>some k | _=>none
def jD.asSlice:jD->Option Nat | .slice e=>some e | _=>none
def jD.asArr:jD->Option (Nat × Nat) | .arr n e=>some (n,e) | _=>none
def jD.asMap:jD->Option (Nat × Nat) | .map k e=>some (k,e) | _=>none
def jD.asStruct:jD->Option (List (Nat × Nat × Nat)) | .struct fs=>some fs | _=>none
def jD.tag:jD->Nat
 | .bool=>0 | .int _=>1 | .string=>2 | .ptr _=>3 | .slice _=>4 | .arr _ _=>5 | .map _ _=>6 | .struct _=>7 | .func=>8 | .iface=>9 | .other=>10
def jD.isAgg(d:jD):Bool:=bif Nat.beq d.tag 5 then true else Nat.beq d.tag 7
def jD.isString(d:jD):Bool:=Nat.beq d.tag 2
def qA.asCells:qA->Option (Tr zA × Nat × Option Lo) | .cells c n l=>some (c,n,l) | _=>none
def qA.asMap:qA->Option (List (zA × zA)) | .map l=>some l | _=>none
def qA.asLoop:qA->Option bO | .loop l=>some l | _=>none
def qA.asDeferred:qA->Option (Option (List mJ)) | .deferred l=>some l | _=>none
def qA.asIter:qA->Option (List Nat × Nat) | .siter s p=>some (s,p) | _=>none
def pB{α:Type}(b:Bool)(x:Option α):Option α:=Bool.rec (motive:=fun _=>Option α) none x b
def xE:zA:=.tup []
def iF(s:ByteArray):List Nat:=s.data.toList.map UInt8.toNat
def Ca:Value->Option zA
 | .bool b=>some (.bool b)
 | .int k n=>some (.int k n)
 | .string s=>some (.str (iF s))
 | .pointer none=>some .nilptr
 | .slice none 0 0=>some .nilslice
 | .map none=>some .nilmap
 | .nilFunc=>some .nilfunc
 | .nilIface=>some .niliface
 | _=>none
def zfr:Value->Option (Array Value)
 | .agg cs=>some cs
 | _=>none
def Wa(v:Value):Option zA:=
 match zfr v with
 | some cs=>ob (fG Ca cs.toList) fun l=>some (.agg l)
 | none=>Ca v
inductive aC where
 | now (tm:Tm)
 | mixed (tm old:Tm) (olds names:List Nat)
def sH(i:Nat)(l:List Nat):Bool:=List.rec (motive:=fun _=>Bool) false (fun j _ g=>bif Nat.beq i j then true else g) l
def kU (t:Nat)(e:aC):Option zA:=
 match e with
 | .now tm=>tm.get t
 | .mixed tm old olds names=>bif sH t names then Tm.get (bif sH t olds then old else tm) t else none
def xConst(v:Value)(_:aC):Option zA:=Wa v
def Rw(g:Nat)(_:aC):Option zA:=bif Nat.blt g 256 then some (.ptr g 0)else none
def xFunc(f:Nat)(_:aC):Option zA:=some (.func (.func f) [] [])
structure EB where f:aC->Option zA
def evB:Operand->EB
 | .tmp t=>⟨kU t⟩
 | .const v=>⟨xConst v⟩
 | .global g=>⟨Rw g⟩
 | .func f=>⟨xFunc f⟩
def ev (x:Operand)(e:aC):Option zA:=(evB x).f e
def bP (l:List Operand)(e:aC):Option (List zA):=fG (fun x=>ev x e) l
def nR (x:Option Operand)(e:aC):Option (Option zA):=
 match x with
 | none=>some none
 | some x=>ob (ev x e) fun v=>some (some v)
def oR (l:List (Nat × Operand))(e:aC):Option (List (Nat × zA)):=fG (fun x=>ob (ev x.2 e) fun v=>some (x.1,v)) l
def mD(H:wA)(b:Nat):Option (Tr zA × Nat × Option Lo):=ob (H.t.get b) qA.asCells
def cH(H:wA)(b:Nat):Option (List (zA × zA)):=ob (H.t.get b) qA.asMap
def zR(ty:mC)(c:Tr zA)(off:Nat):Option zA:=
 bif ty.desc.isAgg then ob (c.many ty.size off) fun l=>some (.agg l)else c.get off
def vO(C:dA)(t:Nat)(l:List zA)(off:Nat):Option zA:=
 ob (C.tys.get t) fun ty=>bif ty.desc.isAgg then some (.agg (wX (fP l off) ty.size))else xD l off
def dR(ty:mC):zA:=
 bif ty.desc.isAgg then .agg ty.zero else match ty.zero with
  | v::_=>v
  | []=>xE
def Wn(a:List Nat):List Nat->Bool:=
 List.rec (motive:=fun _=>List Nat->Bool) (fun b => !b.isEmpty)
  (fun x _ g b=>List.rec (motive:=fun _=>Bool) false (fun y b _=>bif Nat.blt x y then true else bif Nat.beq x y then g b else false) b) a
def Gg(a b:zA):Option Bool:=ob a.asBool fun x=>ob b.asBool fun y=>some (jH x y)
def ziv(a b:zA):Option Bool:=ob a.asIntK fun x=>ob b.asIntK fun y=>pB (cM x.1 y.1) (some (tA x.2 y.2))
def Yk(a b:zA):Option Bool:=ob a.asStr fun x=>ob b.asStr fun y=>some (fC x y)
def bZ(n m:Nat)(a b:zA):Option Bool:=
 bif Nat.beq a.tag n then(bif Nat.beq b.tag n then some true else pB (Nat.beq b.tag m) (some false))
 else pB (Nat.beq a.tag m&&Nat.beq b.tag n) (some false)
def Qp(_ _:zA):Option Bool:=none
def Kz:jD->zA->zA->Option Bool
 | .bool=>Gg
 | .int _=>ziv
 | .string=>Yk
 | .ptr _=>bZ 3 4
 | .iface=>bZ 12 11
 | .slice _=>bZ 5 6
 | .map _ _=>bZ 7 8
 | .func=>bZ 10 9
 | .arr _ _=>Qp
 | .struct _=>Qp
 | .other=>Qp
def Hc(C:dA)(eq:Nat->zA->zA->Option Bool)(xs ys:List zA):List (Nat × Nat × Nat)->Option Bool
 | []=>some true
 | f::fs=>ob (vO C f.2.1 xs f.1) fun a=>ob (vO C f.2.1 ys f.1) fun b=>ob (eq f.2.1 a b) fun r=>bif r then Hc C eq xs ys fs else some false
def aeq (C:dA):Nat->Nat->zA->zA->Option Bool
 | 0,_,_,_=>none
 | d+1,t,x,y=>ob (C.tys.get t) fun ty=>
  match ty.desc.asStruct with
  | some fs=>pB ty.eqOk (ob x.asAgg fun xs=>ob y.asAgg fun ys=>Hc C (aeq C d) xs ys fs)
  | none=>Kz ty.desc x y
def iAdd (k:IntKind)(a b:Int):Option zA:=some (.int k (jA k (a+b)))
def iSub (k:IntKind)(a b:Int):Option zA:=some (.int k (jA k (a-b)))
def iMul (k:IntKind)(a b:Int):Option zA:=some (.int k (jA k (a*b)))
def oV (k:IntKind)(a b:Int):Option zA:=bif tA b 0 then none else some (.int k (jA k (a.tdiv b)))
def pV (k:IntKind)(a b:Int):Option zA:=bif tA b 0 then none else some (.int k (a.tmod b))
def cI(f:Nat->Nat->Nat)(k:IntKind)(a b:Int):Option zA:=ob (sL a) fun x=>ob (sL b) fun y=>pB (Nat.blt x (yH k)&&Nat.blt y (yH k)) (some (.int k (.ofNat (f x y))))
def kW:IntKind->Nat
 | .i8=>256 | .u8=>256 | .i16=>65536 | .u16=>65536 | .i32=>4294967296 | .u32=>4294967296 | .i64=>18446744073709551616 | .u64=>18446744073709551616
def iAnd (k:IntKind)(a b:Int):Option zA:=
 match sL a with
 | some _=>cI Nat.land k a b
 | none=>ob (sL b) fun y=>pB (Nat.blt y (yH k)) (some (.int k (.ofNat (Nat.land (Int.toNat (Int.emod a (.ofNat (kW k)))) y))))
def iEql (_:IntKind)(a b:Int):Option zA:=some (.bool (tA a b))
def iNeq (_:IntKind)(a b:Int):Option zA:=some (.bool (!tA a b))
def iLss (_:IntKind)(a b:Int):Option zA:=some (.bool (kB a b))
def iLeq (_:IntKind)(a b:Int):Option zA:=some (.bool (xC a b))
def iGtr (_:IntKind)(a b:Int):Option zA:=some (.bool (kB b a))
def iGeq (_:IntKind)(a b:Int):Option zA:=some (.bool (xC b a))
def iNone(_:IntKind)(_ _:Int):Option zA:=none
structure IB where f:IntKind->Int->Int->Option zA
def Zd:BinOp->IB
 | .add=>⟨iAdd⟩ | .sub=>⟨iSub⟩ | .mul=>⟨iMul⟩ | .quo=>⟨oV⟩ | .rem=>⟨pV⟩
 | .and=>⟨iAnd⟩ | .or=>⟨cI Nat.lor⟩ | .xor=>⟨cI Nat.xor⟩
 | .eql=>⟨iEql⟩ | .neq=>⟨iNeq⟩ | .lss=>⟨iLss⟩ | .leq=>⟨iLeq⟩ | .gtr=>⟨iGtr⟩ | .geq=>⟨iGeq⟩
 | _=>⟨iNone⟩
def zH (a b:List Nat):Option zA:=pB (Nat.blt (oB a+oB b) 4611686018427387904) (some (.str (bD a b)))
def sEql (a b:List Nat):Option zA:=some (.bool (fC a b))
def sNeq (a b:List Nat):Option zA:=some (.bool (!fC a b))
def sLss (a b:List Nat):Option zA:=some (.bool (Wn a b))
def sNone(_ _:List Nat):Option zA:=none
structure SB where f:List Nat->List Nat->Option zA
def Zb:BinOp->SB
 | .add=>⟨zH⟩ | .eql=>⟨sEql⟩ | .neq=>⟨sNeq⟩ | .lss=>⟨sLss⟩
 | _=>⟨sNone⟩
def Km:Operand->Bool
 | .const _=>true
 | _=>false
def Bo(k:IntKind)(b:Int):Option Nat:=ob (sL b) fun n=>some (min n k.bits)
def zU (k:IntKind)(a b:Int):Option zA:=ob (Bo k b) fun n=>some (.int k (jA k (a*.ofNat (2^n))))
def Cm (k:IntKind)(a b:Int):Option zA:=ob (Bo k b) fun n=>some (.int k (a.fdiv (.ofNat (2^n))))
def Lh(f:IntKind->Int->Int->Option zA)(a b:zA):Option zA:=ob a.asIntK fun x=>ob b.asInt fun y=>f x.1 x.2 y
def KU(x y:Operand)(a b:zA):Bool:=
 bif Nat.beq a.tag 12&&Nat.beq b.tag 12 then Km x||Km y else true
def Rk(neg:Bool)(C:dA)(t:Nat)(x y:Operand)(a b:zA):Option zA:=
 pB (KU x y a b) (ob (aeq C 20 t a b) fun r=>some (.bool (bif neg then !r else r)))
def binNo(_:dA)(_:Nat)(_ _:Operand)(_ _:zA):Option zA:=none
structure BB where f:dA->Nat->Operand->Operand->zA->zA->Option zA
def MO:BinOp->BB
 | .eql=>⟨Rk false⟩
 | .neq=>⟨Rk true⟩
 | _=>⟨binNo⟩
def Zc(op:BinOp)(C:dA)(t:Nat)(x y:Operand)(a b:zA):Option zA:=
 match a.asIntK with
 | some i=>ob b.asIntK fun j=>pB (cM i.1 j.1) ((Zd op).f i.1 i.2 j.2)
 | none=>match a.asStr with
  | some s=>ob b.asStr fun u=>(Zb op).f s u
  | none=>(MO op).f C t x y a b
def binShl(_:dA)(_:Nat)(_ _:Operand)(a b:zA):Option zA:=Lh zU a b
def binShr(_:dA)(_:Nat)(_ _:Operand)(a b:zA):Option zA:=Lh Cm a b
def zN:BinOp->BB
 | .shl=>⟨binShl⟩
 | .shr=>⟨binShr⟩
 | op=>⟨Zc op⟩
def unNeg(a:zA):Option zA:=ob a.asIntK fun x=>some (.int x.1 (jA x.1 (0-x.2)))
def unNot(a:zA):Option zA:=ob a.asBool fun b=>some (.bool (!b))
def Bg(a:zA):Option zA:=ob a.asIntK fun x=>pB (Nat.beq (kLo x.1) 0) (cI Nat.xor x.1 (.ofNat (yH x.1-1)) x.2)
def unNone(_:zA):Option zA:=none
structure UB where f:zA->Option zA
def unA:UnOp->UB
 | .neg=>⟨unNeg⟩
 | .xor=>⟨Bg⟩
 | .not=>⟨unNot⟩
 | _=>⟨unNone⟩
def jS(v:zA):Option Nat:=ob v.asIntK fun x=>pB (cM x.1 .u8) (ob (sL x.2) fun n=>pB (Nat.blt n 256) (some n))
def Cx(H:wA)(a:zA):Option zA:=
 match a.asSlice with
 | some x=>ob (mD H x.1) fun c=>ob (c.1.many x.2.2.1 x.2.1) fun l=>ob (fG jS l) fun r=>some (.str r)
 | none=>pB (Nat.beq a.tag 5) (some (.str []))
def aP(C:dA)(s d:mC)(a:zA)(H:wA):Option zA:=
 match d.desc.asInt with
 | some k=>ob a.asInt fun n=>some (.int k (jA k n))
 | none=>pB d.desc.isString (bif Nat.beq a.tag 2 then some a else
   ob s.desc.asSlice fun e=>ob (C.tys.get e) fun et=>ob et.desc.asInt fun k=>pB (cM k .u8) (Cx H a))
def eV(y:Nat)(v:zA):Option Nat:=ob v.asNat fun n=>pB (Nat.ble n y) (some n)
def Ac(y dflt:Nat)(v:Option zA):Option Nat:=
 match v with
 | some v=>eV y v
 | none=>some dflt
def iO(len cap:Nat)(lo hi:Option zA):Option (Nat × Nat):=
 ob (Ac cap len hi) fun h=>ob (Ac h 0 lo) fun l=>some (l,h)
def wM(H:wA)(b size cap l:Nat)(arr:Bool):Bool:=
 match mD H b with
 | some c=>match c.2.2 with
  | none=>true
  | some es => !arr&&Nat.beq es.es size&&(!Nat.beq cap l||Nat.beq l 0)
 | none=>false
def nL(H:wA)(b size cap l:Nat)(arr:Bool):Bool:=
 match mD H b with
 | some c=>match c.2.2 with
  | none=>false
  | some es => !arr&&Nat.beq es.es size&&Nat.beq cap l && !Nat.beq l 0
 | none=>false
def sN(C:dA)(H:wA)(arr:Bool)(e b off len cap:Nat)(lo hi:Option zA):Option zA:=
 ob (C.tys.get e) fun et=>ob (iO len cap lo hi) fun x=>
  bif Nat.ble x.2 cap&&Nat.ble x.1 x.2&&nL H b et.size cap x.1 arr then some (.slice 0 1 0 0)else
  pB (Nat.ble x.2 cap&&wM H b et.size cap x.1 arr) (some (.slice b (bif Nat.beq cap x.1 then off else off+x.1*et.size) (x.2-x.1) (cap-x.1)))
def Nd(s:List Nat)(lo hi:Option zA):Option zA:=
 let n:=oB s
 ob (iO n n lo hi) fun x=>some (.str (fP (wX s x.2) x.1))
def vM(C:dA)(H:wA)(ty:mC)(x:zA)(lo hi:Option zA):Option zA:=
 match x.asStr with
 | some s=>pB ty.desc.isString (Nd s lo hi)
 | none=>match x.asSlice with
  | some r=>ob ty.desc.asSlice fun e=>sN C H false e r.1 r.2.1 r.2.2.1 r.2.2.2 lo hi
  | none=>match x.asPtr with
   | some p=>ob ty.desc.asArr fun a=>sN C H true a.2 p.1 p.2 a.1 a.1 lo hi
   | none=>pB (Nat.beq x.tag 5) (ob ty.desc.asSlice fun e=>ob (C.tys.get e) fun _=>ob (iO 0 0 lo hi) fun _=>some .nilslice)
def eZ(cells:List zA)(off size:Nat)(v:zA):Option (List zA):=
 let vc:=v.cells
 let n:=oB vc
 pB (Nat.beq n size&&Nat.ble (off+n) (oB cells)) (some (bD (wX cells off) (bD vc (fP cells (off+n)))))
def kN(place:Nat->Option (Nat × Nat)):List (Nat × zA)->List zA->Option (List zA)
 | [],cells=>some cells
 | p::rest,cells=>ob (place p.1) fun q=>ob (eZ cells q.1 q.2 p.2) fun cells=>kN place rest cells
def qS(d:jD):Bool:=Nat.ble d.tag 2
def keyTag(v:zA):Nat:=v.tag
def Ci(d:jD)(v:zA):Bool:=Nat.beq d.tag (keyTag v)
def cX(C:dA):List (Nat × Nat × Nat)->Nat->Bool
 | [],_=>true
 | f::fs,i=>bif Nat.beq f.1 i then(match C.tys.get f.2.1 with
  | some ty=>bif qS ty.desc then cX C fs (i+1)else false
  | none=>false)else false
def rS(C:dA)(ty:mC):Bool:=bif qS ty.desc then true else match ty.desc.asStruct with
 | some fs=>bif ty.eqOk then cX C fs 0 else false
 | none=>false
def aX(C:dA):List (Nat × Nat × Nat)->List zA->Bool
 | [],[]=>true
 | f::fs,v::l=>(match C.tys.get f.2.1 with
  | some ty=>bif Ci ty.desc v then aX C fs l else false
  | none=>false)
 | _,_=>false
def dP(C:dA)(ty:mC)(v:zA):Bool:=bif qS ty.desc then Ci ty.desc v else match ty.desc.asStruct with
 | some fs=>(match v.asAgg with
  | some l=>aX C fs l
  | none=>false)
 | none=>false
def mN(a b:zA):Option Bool:=
 match a.asIntK with
 | some x=>ob b.asIntK fun y=>pB (cM x.1 y.1) (some (tA x.2 y.2))
 | none=>match a.asStr with
  | some x=>ob b.asStr fun y=>some (fC x y)
  | none=>Gg a b
def vR:List zA->List zA->Option Bool
 | [],[]=>some true
 | a::x,b::y=>ob (mN a b) fun r=>ob (vR x y) fun s=>some (r&&s)
 | _,_=>none
def lH(a b:zA):Option Bool:=
 match a.asAgg with
 | some x=>ob b.asAgg fun y=>vR x y
 | none=>mN a b
def uJ(k:zA):List (zA × zA)->Option (Option zA)
 | []=>some none
 | e::l=>ob (lH k e.1) fun r=>bif r then some (some e.2)else uJ k l
def fH(k v:zA):List (zA × zA)->Option (List (zA × zA))
 | []=>some [(k,v)]
 | e::l=>ob (lH k e.1) fun r=>bif r then some ((k,v)::l)else ob (fH k v l) fun l=>some (e::l)
abbrev tJ:=dA->aC->wA->Option zA
def nX:tJ:=fun _ _ _=>none
def rV(x:Operand):tJ:=fun _ e _=>ev x e
def Ke(c a b:Operand):tJ:=fun _ e _=>ob (ev c e) fun c=>ob c.asBool fun c=>bif c then ev a e else ev b e
def kT(t:Nat)(a:Operand):tJ:=fun C e H=>ob (ev a e) fun v=>ob v.asPtr fun p=>ob (C.tys.get t) fun ty=>ob (mD H p.1) fun c=>zR ty c.1 p.2
def mX (x:Operand):tJ:=fun _ e _=>ob (ev x e) fun v=>pB (Nat.beq v.tag 4||Nat.beq v.tag 9) (some v)
def dT (op:BinOp)(t:Nat)(x y:Operand):tJ:=fun C e _=>ob (ev x e) fun a=>ob (ev y e) fun b=>(zN op).f C t x y a b
def lUn (op:UnOp)(x:Operand):tJ:=fun _ e _=>ob (ev x e) fun a=>(unA op).f a
def nN(s d:Nat)(x:Operand):tJ:=fun C e H=>ob (ev x e) fun a=>ob (C.tys.get s) fun s=>ob (C.tys.get d) fun d=>aP C s d a H
def qZ(t:Nat)(x:Operand):tJ:=fun C e _=>ob (C.tys.get t) fun ty=>pB (Nat.blt ty.desc.tag 9) (ob (ev x e) fun v=>some (.iface t v))
def Po(f:Nat)(a b:Array Operand):tJ:=fun _ e _=>ob (bP a.toList e) fun a=>ob (bP b.toList e) fun b=>some (.func (.func f) a b)
structure LB where f:tJ
def pZ(fn:Fn)(a b:Array Operand):LB:=
 match fn with
 | .func f=>⟨Po f a b⟩
 | _=>⟨nX⟩
def oX(t:Nat)(x:Operand)(lo hi:Option Operand):tJ:=fun C e H=>
 ob (ev x e) fun a=>ob (nR lo e) fun l=>ob (nR hi e) fun h=>ob (C.tys.get t) fun ty=>vM C H ty a l h
def Kc(t:Nat)(x:Operand)(lo hi mx:Option Operand):LB:=
 match mx with
 | none=>⟨oX t x lo hi⟩
 | some _=>⟨nX⟩
def gT(s:Nat)(x:Operand)(f:Nat):tJ:=fun C e _=>
 ob (C.tys.get s) fun ty=>ob ty.desc.asStruct fun fs=>ob (xD fs f) fun fd=>pB (!Nat.beq fd.2.2 0) (ob (ev x e) fun v=>ob v.asPtr fun p=>some (.ptr p.1 (p.2+fd.1)))
def oZ(t:Nat)(x:Operand)(f:Nat):tJ:=fun C e _=>
 ob (C.tys.get t) fun ty=>ob ty.desc.asStruct fun fs=>ob (xD fs f) fun fd=>ob (ev x e) fun v=>ob v.asAgg fun l=>vO C fd.2.1 l fd.1
def jT(t:Nat)(x i:Operand):tJ:=fun C e _=>
 ob (C.tys.get t) fun ty=>ob (ev x e) fun v=>ob (ev i e) fun i=>ob i.asNat fun i=>
  match v.asSlice with
  | some s=>ob ty.desc.asSlice fun el=>ob (C.tys.get el) fun et=>pB (Nat.blt i s.2.2.1) (some (.ptr s.1 (s.2.1+i*et.size)))
  | none=>ob v.asPtr fun p=>ob ty.desc.asArr fun a=>ob (C.tys.get a.2) fun et=>pB (Nat.blt i a.1) (some (.ptr p.1 (p.2+i*et.size)))
def iT(t:Nat)(x i:Operand):tJ:=fun C e _=>
 ob (C.tys.get t) fun ty=>ob (ev x e) fun v=>ob (ev i e) fun i=>ob i.asNat fun i=>
  match v.asStr with
  | some s=>pB ty.desc.isString (ob (xD s i) fun b=>some (.int .u8 (.ofNat b)))
  | none=>ob v.asAgg fun l=>ob ty.desc.asArr fun a=>ob (C.tys.get a.2) fun et=>pB (Nat.blt i a.1) (vO C a.2 l (i*et.size))
def eT(t:Operand)(i:Nat):tJ:=fun _ e _=>ob (ev t e) fun v=>ob v.asTup fun l=>xD l i
def qV(t:Nat)(parts:Array (Nat × Operand)):tJ:=fun C e _=>
 ob (C.tys.get t) fun ty=>ob (oR parts.toList e) fun ps=>
  match ty.desc.asStruct with
  | some fs=>ob (kN (fun i=>ob (xD fs i) fun x=>some (x.1,x.2.2)) ps ty.zero) fun l=>some (.agg l)
  | none=>ob ty.desc.asArr fun a=>ob (C.tys.get a.2) fun et=>ob (kN (fun i=>some (i*et.size,et.size)) ps ty.zero) fun l=>some (.agg l)
def cT(x:Operand)(asserted:Nat)(ok:Bool):tJ:=fun C e _=>
 ob (C.tys.get asserted) fun ty=>pB (Nat.blt ty.desc.tag 9) (ob (ev x e) fun v=>
  match v.asIface with
  | some p=>bif Nat.beq p.1 asserted then some (bif ok then .tup [p.2,.bool true]else p.2)else pB ok (some (.tup [dR ty,.bool false]))
  | none=>pB (Nat.beq v.tag 12&&ok) (some (.tup [dR ty,.bool false])))
def bQ(H:wA)(v:zA):Option (List (zA × zA)):=
 match v.asMap with
 | some b=>cH H b
 | none=>pB (Nat.beq v.tag 7) (some [])
def lT(t:Nat)(x i:Operand)(ok:Bool):tJ:=fun C e H=>
 ob (C.tys.get t) fun ty=>ob ty.desc.asMap fun ke=>ob (C.tys.get ke.1) fun kty=>pB (rS C kty) (ob (C.tys.get ke.2) fun ety=>
  ob (ev x e) fun m=>ob (bQ H m) fun es=>ob (ev i e) fun k=>pB (dP C kty k) (ob (uJ k es) fun r=>
   match r with
   | some v=>some (bif ok then .tup [v,.bool true]else v)
   | none=>some (bif ok then .tup [dR ety,.bool false]else dR ety)))
def sS (H:wA)(ty:mC)(v:zA):Option Nat:=
 match v.asStr with
 | some s=>pB ty.desc.isString (some (oB s))
 | none=>match v.asSlice with
  | some s=>pB (Nat.beq ty.desc.tag 4) (some s.2.2.1)
  | none=>match ty.desc.asArr with
   | some a=>some a.1
   | none=>match v.asMap with
    | some b=>pB (Nat.beq ty.desc.tag 6) (ob (cH H b) fun l=>some (oB l))
    | none=>pB ((Nat.beq ty.desc.tag 4&&Nat.beq v.tag 5)||(Nat.beq ty.desc.tag 6&&Nat.beq v.tag 7)) (some 0)
def qO (c:Call):tJ:=fun C e H=>
 ob (xD c.argTypes.toList 0) fun t=>ob (xD c.args.toList 0) fun x=>ob (C.tys.get t) fun ty=>ob (ev x e) fun v=>ob (sS H ty v) fun n=>some (.int .i64 (.ofNat n))
def two (c:Call)(e:aC):Option (zA × zA):=
 match c.args.toList with
 | [x,y]=>ob (ev x e) fun a=>ob (ev y e) fun b=>some (a,b)
 | _=>none
def mT (c:Call):tJ:=fun _ e _=>ob (two c e) fun p=>ob p.1.asIntK fun x=>ob p.2.asIntK fun y=>some (.int x.1 (bif kB x.2 y.2 then y.2 else x.2))
def nT (c:Call):tJ:=fun _ e _=>ob (two c e) fun p=>ob p.1.asIntK fun x=>ob p.2.asIntK fun y=>some (.int x.1 (bif kB y.2 x.2 then y.2 else x.2))
def Pp(c:Call):Builtin->LB
 | .len=>⟨qO c⟩
 | .max=>⟨mT c⟩
 | .min=>⟨nT c⟩
 | _=>⟨nX⟩
def xR(c:Call):Callee->LB
 | .builtin b=>Pp c b
 | _=>⟨nX⟩
def zhr(c:Call):LB:=xR c c.callee
def mF:Op->LB
 | .move x=>⟨rV x⟩
 | .assign x=>⟨rV x⟩
 | .pick c a b=>⟨Ke c a b⟩
 | .load t a=>⟨kT t a⟩
 | .nilCheck x=>⟨mX x⟩
 | .binOp op t x y _=>⟨dT op t x y⟩
 | .unOp op _ x=>⟨lUn op x⟩
 | .convert s d x=>⟨nN s d x⟩
 | .makeInterface t x=>⟨qZ t x⟩
 | .makeFunc fn a b=>pZ fn a b
 | .slice t x lo hi mx=>Kc t x lo hi mx
 | .fieldAddr s x f=>⟨gT s x f⟩
 | .field t x f=>⟨oZ t x f⟩
 | .indexAddr t x i=>⟨jT t x i⟩
 | .index t x i=>⟨iT t x i⟩
 | .extract t i=>⟨eT t i⟩
 | .build t ps=>⟨qV t ps⟩
 | .typeAssert x _ u ok=>⟨cT x u ok⟩
 | .lookup t x i ok=>⟨lT t x i ok⟩
 | .call c=>zhr c
 | _=>⟨nX⟩
inductive nK where
 | val (v:zA) (H:wA)
 | enter (f:Nat) (args:List zA)
 | round (l:Nat) (args:List zA)
 | defer (d:mJ)
 | panic (v:zA)
 | recover
 | fail
abbrev cO:=dA->aC->wA->nK
structure HB where f:cO
def mL (x:Option (zA × wA)):nK:=
 match x with
 | some p=>.val p.1 p.2
 | none=>.fail
def zZ (x:Option nK):nK:=
 match x with
 | some r=>r
 | none=>.fail
def lv (f:tJ):cO:=fun C e H=>
 match f C e H with
 | some v=>.val v H
 | none=>.fail
def newBlk(H:wA)(b:qA):wA:=⟨H.next+1,H.t.set H.next b⟩
def yF(H:wA)(l:List zA)(loose:Option Lo):wA:=newBlk H (.cells (Tr.ofList l) (oB l) loose)
def setBlk(H:wA)(b:Nat)(x:qA):wA:=⟨H.next,H.t.set b x⟩
def lJ (zero:List zA):Nat->List zA
 | 0=>[]
 | n+1=>bD zero (lJ zero n)
def rX(v:zA):Option Nat:=
 match v.asSlice with
 | some s=>some s.2.2.1
 | none=>match v.asStr with
  | some s=>some (oB s)
  | none=>pB (Nat.beq v.tag 5) (some 0)
def fV(l:List Nat):List zA:=l.map fun n=>zA.int .u8 (Int.ofNat n)
def qR(H:wA)(size n:Nat)(v:zA):Option (List zA):=
 match v.asSlice with
 | some s=>ob (mD H s.1) fun c=>c.1.many (n*size) s.2.1
 | none=>match v.asStr with
  | some s=>some (fV (wX s n))
  | none=>pB (Nat.beq v.tag 5) (some [])
def rJ(C:dA)(H:wA)(b off:Nat)(l:List zA):Option wA:=
 pB (!Nat.blt b C.base) (ob (mD H b) fun c=>
  pB (Nat.ble (off+oB l) c.2.1&&eE zA.one l) (some (setBlk H b (.cells (c.1.setMany l off) c.2.1 c.2.2))))
def eX(et:mC)(len cap n:Nat)(new:List zA):Bool:=
 Nat.blt (len+n+cap) 1000000000&&Nat.blt ((len+n+cap)*et.bytes) 1000000000&&Nat.blt et.bytes 1000000000 && !Nat.beq et.size 0&&Nat.beq (oB new) (n*et.size)&&Nat.beq (oB et.zero) et.size
def IV(et:mC):Bool:=match et.desc with | .int .u8=>true | _=>false
def aK(e:Nat)(et:mC):Lo:=bif Nat.beq et.size 1&&IV et then .ty e else .sz et.size
def lV(H:wA)(e:Nat)(et:mC)(n:Nat)(new:List zA):Option (zA × wA):=
 bif Nat.beq n 0 then some (.nilslice,H)else
  pB (eX et 0 0 n new) (some (.slice H.next 0 n n,yF H new (some (aK e et))))
def fX(C:dA)(H:wA)(et:mC)(n:Nat)(new:List zA)(s:Nat × Nat × Nat × Nat):Option (zA × wA):=
 match new with
 | []=>some (.slice s.1 s.2.1 (s.2.2.1+n) s.2.2.2,H)
 | _::_=>ob (rJ C H s.1 (s.2.1+s.2.2.1*et.size) new) fun H'=>some (.slice s.1 s.2.1 (s.2.2.1+n) s.2.2.2,H')
def Fz(H:wA)(e:Nat)(et:mC)(n:Nat)(new:List zA)(s:Nat × Nat × Nat × Nat)(c:Tr zA):Option (zA × wA):=
 ob (c.many (s.2.2.1*et.size) s.2.1) fun old=>some (.slice H.next 0 (s.2.2.1+n) (s.2.2.1+n),yF H (bD old new) (some (aK e et)))
def Ga(C:dA)(H:wA)(e:Nat)(et:mC)(n:Nat)(new:List zA)(s:Nat × Nat × Nat × Nat)(c:Tr zA)(m:Nat)(lo:Lo):Option (zA × wA):=
 pB (Nat.beq s.2.1 0&&loEq lo (aK e et)&&Nat.ble (s.2.2.1*et.size) m&&Nat.ble m ((s.2.2.1+n)*et.size)&&eE zA.one new && !Nat.blt s.1 C.base)
  (some (.slice H.next 0 (s.2.2.1+n) (s.2.2.1+n),⟨H.next+1,(H.t.del s.1).set H.next (.cells (c.setMany new (s.2.2.1*et.size)) ((s.2.2.1+n)*et.size) (some lo))⟩))
def dX(C:dA)(H:wA)(e:Nat)(et:mC)(n:Nat)(new:List zA)(s:Nat × Nat × Nat × Nat):Option (zA × wA):=
 pB (!(Nat.beq s.2.1 1&&Nat.beq s.2.2.2 0)) (pB (eX et s.2.2.1 s.2.2.2 n new) (ob (mD H s.1) fun c=>
  match c.2.2 with
  | none=>Fz H e et n new s c.1
  | some lo=>Ga C H e et n new s c.1 c.2.1 lo))
def aV(C:dA)(H:wA)(ty:mC)(s x:zA):Option (zA × wA):=
 ob ty.desc.asSlice fun e=>ob (C.tys.get e) fun et=>ob (rX x) fun n=>ob (qR H et.size n x) fun new=>
  match s.asSlice with
  | some s=>bif Nat.ble (s.2.2.1+n) s.2.2.2 then fX C H et n new s else dX C H e et n new s
  | none=>pB (Nat.beq s.tag 5) (lV H e et n new)
def isBld(C:dA)(t:Nat):Bool:=
 match ob (C.tys.get t) fun ty=>ob ty.desc.asStruct fun fs=>ob (xD fs 0) fun f=>ob (C.tys.get f.2.1) fun tf=>some tf.desc with
 | some (.ptr e)=>Nat.beq e t
 | _=>false
def jK(C:dA)(t:Nat):Option Lo:=
 bif isBld C t then some (.ty t)else
 match ob (C.tys.get t) fun ty=>ob ty.desc.asStruct fun fs=>ob (xD fs 0) fun f=>some (isBld C f.2.1)with
 | some true=>some (.ty t)
 | _=>none
def gZ(t:Nat):cO:=fun C _ H=>mL (ob (C.tys.get t) fun ty=>some (.ptr H.next 0,yF H ty.zero (jK C t)))
def iX (t:Nat)(x:Operand):cO:=fun C e H=>mL (ob (ev x e) fun v=>some (.ptr H.next 0,yF H v.cells (jK C t)))
def tX (C:dA):Op->Option Lo
 | .alloc t=>jK C t
 | .box t _=>jK C t
 | _=>none
def hZ(t len:Nat)(parts:Array (Nat × Operand)):cO:=fun C e H=>mL (ob (C.tys.get t) fun ty=>ob ty.desc.asSlice fun el=>ob (C.tys.get el) fun et=>
 pB (Nat.blt (len*et.size) 1000000&&Nat.beq (oB et.zero) et.size) (ob (oR parts.toList e) fun ps=>ob (kN (fun i=>some (i*et.size,et.size)) ps (lJ et.zero len)) fun l=>some (.slice H.next 0 len len,yF H l none)))
def Kr(t:Nat)(a x:Operand):cO:=fun C e H=>mL (ob (C.tys.get t) fun ty=>ob (ev a e) fun a=>ob a.asPtr fun p=>ob (ev x e) fun v=>
 let l:=v.cells
 pB (Nat.beq (oB l) ty.size) (ob (rJ C H p.1 p.2 l) fun H'=>some (xE,H')))
def Ks(r:Option Operand):cO:=fun _ _ H=>
 match r with
 | none=>.val (.map H.next) (newBlk H (.map []))
 | some _=>.fail
def iZ(t:Nat)(m k x:Operand):cO:=fun C e H=>mL (ob (C.tys.get t) fun ty=>ob ty.desc.asMap fun ke=>ob (C.tys.get ke.1) fun kty=>pB (rS C kty)
 (ob (ev m e) fun m=>ob m.asMap fun b=>pB (!Nat.blt b C.base) (ob (cH H b) fun l=>ob (ev k e) fun k=>pB (dP C kty k) (ob (ev x e) fun v=>ob (fH k v l) fun l'=>some (xE,setBlk H b (.map l'))))))
def Xw(t:Nat)(l c:Operand):cO:=fun C e H=>mL (ob (C.tys.get t) fun ty=>ob ty.desc.asSlice fun el=>ob (C.tys.get el) fun et=>
 ob (ev l e) fun l=>ob l.asNat fun l=>ob (ev c e) fun c=>ob c.asNat fun c=>
  pB (Nat.ble l c&&Nat.blt c 1000000&&Nat.blt (c*et.bytes) 1000000000&&Nat.beq (oB et.zero) et.size) (some (.slice H.next 0 l c,yF H (lJ et.zero c) none)))
def mV(s d:Nat)(x:Operand):cO:=fun C e H=>
 match nN s d x C e H with
 | some v=>.val v H
 | none=>mL (ob (C.tys.get s) fun _=>ob (C.tys.get d) fun ty=>ob ty.desc.asSlice fun el=>ob (C.tys.get el) fun et=>ob et.desc.asInt fun k=>pB (cM k .u8) (ob (ev x e) fun v=>ob v.asStr fun l=>
   some (.slice H.next 0 (oB l) (oB l),yF H (fV l) (some (.ty el)))))
def Xv(x:Operand):cO:=fun _ e _=>zZ (ob (ev x e) fun v=>ob v.asIface fun p=>some (.panic (.iface p.1 p.2)))
def xT(f:Operand)(args:Array Operand)(e:aC):Option (AFn × List zA × List zA):=
 ob (ev f e) fun v=>ob v.asFunc fun p=>ob (bP args.toList e) fun as=>some (p.1,bD p.2.1 as,p.2.2)
def Qc(c:Call):Callee->HB
 | .value f=>⟨fun _ e _=>zZ (ob (xT f c.args e) fun p=>some (.defer ⟨some p.1,0,bD p.2.1 p.2.2⟩))⟩
 | _=>⟨fun _ _ _=>.fail⟩
def hDefer(c:Call):HB:=Qc c c.callee
def gM(g:List zA->wA->Option zA):List zA->wA->Option (zA × wA):=fun args H=>ob (g args H) fun v=>some (v,H)
def Gs(_:dA)(H:wA)(args:List zA)(f:Nat):Option (List zA->wA->Option (zA × wA))->nK
 | some g=>match g args H with
  | some p=>.val p.1 p.2
  | none=>.fail
 | none=>.enter f args
def MF(l:Nat)(args:List zA):List zA->nK
 | []=>.round l args
 | _::_=>.fail
def zi6(C:dA)(H:wA)(args cap:List zA):AFn->nK
 | .func f=>Gs C H (bD args cap) f (C.prims.get f)
 | .yld l=>MF l args cap
def Cn(f:Operand)(args:Array Operand):cO:=fun C e H=>zZ (ob (xT f args e) fun p=>some (zi6 C H p.2.1 p.2.2 p.1))
def Fy(c:Call):cO:=fun C e H=>mL (ob (xD c.argTypes.toList 0) fun t=>ob (C.tys.get t) fun ty=>ob (xD c.argTypes.toList 1) fun u=>ob (C.tys.get u) fun uty=>
 pB (!Nat.beq uty.desc.tag 1) (ob (two c e) fun p=>aV C H ty p.1 p.2))
def zif:cO:=fun _ _ _=>.fail
def zco:cO:=fun _ _ _=>.recover
def zcp(c:Call):Builtin->HB
 | .append=>⟨Fy c⟩
 | .len=>⟨lv (qO c)⟩
 | .max=>⟨lv (mT c)⟩
 | .min=>⟨lv (nT c)⟩
 | .recover=>⟨zco⟩
 | _=>⟨zif⟩
def Fx(c:Call):Callee->HB
 | .value f=>⟨Cn f c.args⟩
 | .builtin b=>zcp c b
 | _=>⟨zif⟩
def hCall(c:Call):HB:=Fx c c.callee
def lvB (b:LB):HB:=⟨lv b.f⟩
def sG:Op->HB
 | .move x=>⟨lv (rV x)⟩
 | .assign x=>⟨lv (rV x)⟩
 | .pick c a b=>⟨lv (Ke c a b)⟩
 | .load t a=>⟨lv (kT t a)⟩
 | .nilCheck x=>⟨lv (mX x)⟩
 | .binOp op t x y _=>⟨lv (dT op t x y)⟩
 | .unOp op _ x=>⟨lv (lUn op x)⟩
 | .makeInterface t x=>⟨lv (qZ t x)⟩
 | .makeFunc fn a b=>lvB (pZ fn a b)
 | .slice t x lo hi mx=>lvB (Kc t x lo hi mx)
 | .fieldAddr s x f=>⟨lv (gT s x f)⟩
 | .field t x f=>⟨lv (oZ t x f)⟩
 | .indexAddr t x i=>⟨lv (jT t x i)⟩
 | .index t x i=>⟨lv (iT t x i)⟩
 | .extract t i=>⟨lv (eT t i)⟩
 | .build t ps=>⟨lv (qV t ps)⟩
 | .typeAssert x _ u ok=>⟨lv (cT x u ok)⟩
 | .lookup t x i ok=>⟨lv (lT t x i ok)⟩
 | .convert s d x=>⟨mV s d x⟩
 | .alloc t=>⟨gZ t⟩
 | .box t x=>⟨iX t x⟩
 | .buildSlice t len ps=>⟨hZ t len ps⟩
 | .store t a x=>⟨Kr t a x⟩
 | .makeMap _ r=>⟨Ks r⟩
 | .insert t m k x=>⟨iZ t m k x⟩
 | .mapUpdate t m k x=>⟨iZ t m k x⟩
 | .makeSlice t l c=>⟨Xw t l c⟩
 | .panic x=>⟨Xv x⟩
 | .defer c=>hDefer c
 | .call c=>hCall c
 | _=>⟨zif⟩
structure GB where f:Tm->Option Bool
def zf2(_:Tm):Option Bool:=some true
def Hw(d:Option Nat)(w:Bool)(tm:Tm):Option Bool:=
 ob d fun d=>ob (tm.get d) fun v=>match v.asBool with
  | some b=>some (jH b w)
  | none=>some false
def Hx(g:Option (Nat × Bool))(all:Array Oper):GB:=
 match g with
 | none=>⟨zf2⟩
 | some jw=>⟨Hw (ob (xD all.toList jw.1) fun o=>o.dst) jw.2⟩
def gF(g:Option (Nat × Bool))(all:Array Oper)(tm:Tm):Option Bool:=(Hx g all).f tm
structure PB where f:Nat->Tm->zA->Tm
def Nw(d n:Nat)(tm:Tm)(v:zA):Tm:=bif Nat.blt d n then tm.set d v else tm
def putNo(_:Nat)(tm:Tm)(_:zA):Tm:=tm
def putB (dst:Option Nat):PB:=
 match dst with
 | some d=>⟨Nw d⟩
 | none=>⟨putNo⟩
def putA (n:Nat)(tm:Tm)(dst:Option Nat)(v:zA):Tm:=(putB dst).f n tm v
def rW.running:rW->Bool | .run=>true | _=>false
def tE.blockId:tE->Option Nat | .inBlock id=>some id | _=>none
def pR(id:Nat):List tE->Option (List tE)
 | []=>none
 | x::k=>match x.blockId with
  | some i=>bif Nat.beq i id then some k else pR id k
  | none=>pR id k
def zfn(all:Array Oper)(rest:List Oper)(k:List tE)(tm:Tm)(R:fJ)(v:zA):Option tC:=
 match rest with
 | o::rest=>some ⟨.ops all rest::k,putA R.n tm o.dst v,R⟩
 | []=>none
def Yg(all:Array Oper)(old:Tm)(olds:List (Nat × List Nat))(stages:List xF)(k:List tE)(tm:Tm)(R:fJ)(v:zA):Option tC:=
 match stages with
 | st::stages=>ob (xD all.toList st.heavy) fun o=>some ⟨.reg all old olds (⟨all.size,st.lights,st.again⟩::stages)::k,putA R.n tm o.dst v,R⟩
 | []=>none
def zcv(l:Nat)(k:List tE)(tm:Tm)(R:fJ)(_:zA):Option tC:=some ⟨.endRange l::k,tm,R⟩
def zcw(k:List tE)(tm:Tm)(R:fJ)(_:zA):Option tC:=some ⟨k,tm,R⟩
def zim(_:List tE)(_:Tm)(_:fJ)(_:zA):Option tC:=none
def Qk:tE->List tE->Tm->fJ->zA->Option tC
 | .ops all rest=>zfn all rest
 | .reg all old olds stages=>Yg all old olds stages
 | .inRange l=>zcv l
 | .beginRound=>zcw
 | _=>zim
def kH(fr:tC)(v:zA):Option tC:=
 match fr.todo with
 | []=>none
 | x::k=>bif fr.R.mode.running then Qk x k fr.tm fr.R v else none
def gL(C:dA)(f:Nat)(args:List zA)(deferred:Bool):Option tC:=
 ob (C.fns.get f) fun fn=>ob fn.body fun c=>ob (C.ks.get f) fun k=>pB (Nat.ble (oB args) k&&Nat.ble (oB args) fn.ntmps) (some ⟨[.code c],⟨k,Tr.ofList args,[]⟩,⟨f,fn.ntmps,[],.run,deferred,none⟩⟩)
def jW(n:Nat):List Nat->List zA->Tm->Option (Tm)
 | [],[],tm=>some tm
 | p::ps,a::as,tm=>jW n ps as (putA n tm (some p) a)
 | _,_,_=>none
def Sl:List Operand->List Nat
 | []=>[]
 | .tmp t::l=>t::Sl l
 | _::l=>Sl l
def pH(o:Op):List Nat:=Sl o.operands.toList
def vF(i:Nat):List (Nat × List Nat)->List Nat
 | []=>[]
 | x::r=>bif Nat.beq i x.1 then x.2 else vF i r
def same:Nat->zA->zA->Bool
 | _,.bool a,.bool b=>jH a b
 | _,.int j a,.int k b=>cM j k&&tA a b
 | _,.str a,.str b=>fC a b
 | _,.nilptr,.nilptr=>true
 | _,.ptr a b,.ptr c d=>Nat.beq a c&&Nat.beq b d
 | _,.nilslice,.nilslice=>true
 | _,.slice a b c d,.slice e f g h=>Nat.beq a e&&Nat.beq b f&&Nat.beq c g&&Nat.beq d h
 | _,.nilmap,.nilmap=>true
 | _,.map a,.map b=>Nat.beq a b
 | _,.nilfunc,.nilfunc=>true
 | _,.niliface,.niliface=>true
 | d+1,.agg a,.agg b=>sames d a b
 | d+1,.tup a,.tup b=>sames d a b
 | _,_,_=>false
where
 sames (d:Nat):List zA->List zA->Bool
  | [],[]=>true
  | a::x,b::y=>same d a b&&sames d x y
  | _,_=>false
def iP(C:dA)(H:wA)(all:Array Oper)(n:Nat)(old:Tm)(olds:List (Nat × List Nat)):List Nat->Tm->Option (Tm)
 | [],tm=>some tm
 | i::l,tm=>ob (xD all.toList i) fun o=>ob (gF o.guard all tm) fun w=>ob (bif w then(mF o.op).f C (.mixed tm old (vF i olds) (pH o.op)) H else some xE) fun v=>
   iP C H all n old olds l (putA n tm o.dst v)
def Ai(C:dA)(H:wA)(all:Array Oper)(old:Tm)(olds:List (Nat × List Nat))(tm:Tm):List Nat->Bool
 | []=>true
 | i::l=>match (ob (xD all.toList i) fun o=>ob o.dst fun d=>ob (gF o.guard all tm) fun w=>bif w then(ob ((mF o.op).f C (.mixed tm old (vF i olds) (pH o.op)) H) fun v=>ob (tm.get d) fun u=>some (same 10 v u))else some true)with
  | some true=>Ai C H all old olds tm l
  | _=>false
def rW.chain:rW->Option (List Au) | .panicking c=>some c | _=>none
def Gl:List Oper->Tr zA->Tr zA
 | [],t=>t
 | o::l,t=>match o.dst with
  | some j=>Gl l (t.del j)
  | none=>Gl l t
def Ka(todo:List tE)(tm:Tm):Tm:=
 match todo with
 | .reg all _ _ _::_=>⟨tm.k,Gl all.toList tm.v,[]⟩
 | _=>tm
def Nt(fr:tC)(l:List Au):tC:=
 ⟨[],Ka fr.todo fr.tm,⟨fr.R.fn,fr.R.n,fr.R.defers,.panicking (match fr.R.mode.chain with | some c=>bD l c | none=>l),fr.R.deferred,fr.R.roundOf⟩⟩
def eK(x:Option pQ)(why:Nat):aE:=
 match x with
 | some s=>.next s
 | none=>.fail why
def aJ(H:wA)(l:Nat):Option bO:=pB (Nat.ble (nat_lit 256) l) (ob (H.t.get l) qA.asLoop)
def gV(H:wA)(l:Nat):Option (Option (List mJ)):=pB (Nat.ble (nat_lit 256) l) (ob (H.t.get l) qA.asDeferred)
def Bu (v:zA)(H':wA)(_:dA)(fr:tC)(cs:List tC)(_:wA):aE:=eK (ob (kH fr v) fun fr=>some ⟨fr,cs,H'⟩) 1
def Ji(f:Nat)(args:List zA)(C:dA)(fr:tC)(cs:List tC)(H:wA):aE:=eK (ob (gL C f args false) fun g=>some ⟨g,fr::cs,H⟩) 2
def Jh(l:Nat)(args:List zA)(_:dA)(fr:tC)(cs:List tC)(H:wA):aE:=
 eK (ob (aJ H l) fun r=>ob (jW r.n r.params args r.tm) fun tm=>some ⟨⟨[.code r.assign,.beginRound,.code r.body],tm,⟨r.fn,r.n,[],.run,false,some l⟩⟩,fr::cs,H⟩) 3
def Vk(d:mJ)(_:dA)(fr:tC)(cs:List tC)(H:wA):aE:=
 eK (match fr.R.roundOf with
  | none=>ob (kH fr xE) fun g=>some ⟨⟨g.todo,g.tm,⟨g.R.fn,g.R.n,d::g.R.defers,g.R.mode,g.R.deferred,g.R.roundOf⟩⟩,cs,H⟩
  | some _=>none) 4
def zea(v:zA)(_:dA)(fr:tC)(cs:List tC)(H:wA):aE:=.next ⟨Nt fr [⟨v,false⟩],cs,H⟩
def Vj(_:dA)(fr:tC)(cs:List tC)(H:wA):aE:=
 eK (match fr.R.roundOf,fr.R.deferred,cs with
  | none,true,c::rest=>match c.R.mode with
   | .panicking (⟨v,false⟩::older)=>ob (kH fr v) fun fr=>some ⟨fr,⟨c.todo,c.tm,⟨c.R.fn,c.R.n,c.R.defers,.panicking (⟨v,true⟩::older),c.R.deferred,c.R.roundOf⟩⟩::rest,H⟩
   | .panicking _=>none
   | _=>ob (kH fr .niliface) fun fr=>some ⟨fr,cs,H⟩
  | _,_,_=>none) 5
def rFail(_:dA)(_:tC)(_:List tC)(_:wA):aE:=.fail 6
def Hb:nK->dA->tC->List tC->wA->aE
 | .val v H'=>Bu v H'
 | .enter f args=>Ji f args
 | .round l args=>Jh l args
 | .defer d=>Vk d
 | .panic v=>zea v
 | .recover=>Vj
 | .fail=>rFail
def bY(C:dA)(H:wA)(tm:Tm):ResultVar->Option zA
 | .tmp t=>tm.get t
 | .cell a t=>ob (ob (tm.get a) zA.asPtr) fun p=>ob (C.tys.get t) fun ty=>ob (mD H p.1) fun c=>zR ty c.1 p.2
def gW(C:dA)(H:wA)(tm:Tm)(l:List ResultVar):Option (List zA):=fG (bY C H tm) l
def Vf(jump:Option Code):Bool:=
 match jump with
 | none=>true
 | some .ret=>true
 | _=>false
def Iv(fr:tC)(m:rW):tC:=⟨fr.todo,fr.tm,⟨fr.R.fn,fr.R.n,fr.R.defers,m,fr.R.deferred,fr.R.roundOf⟩⟩
def yR(jump:Option Code)(_:dA)(fr:tC)(cs:List tC)(H:wA):aE:=
 eK (match fr.R.roundOf with
  | none=>pB (Vf jump) (some ⟨Iv fr .returning,cs,H⟩)
  | some l=>ob (aJ H l) fun r=>match cs with
   | c::rest=>pB (!fr.R.deferred) <| ob (kH c (.bool jump.isNone)) fun c=>some ⟨c,rest,setBlk H l (.loop ⟨if jump.isNone then .ready else .done,jump,r.fn,r.n,r.tm,r.params,r.assign,r.body,r.defers⟩)⟩
   | []=>none) 7
abbrev eL:=dA->List tE->Tm->fJ->List tC->wA->aE
structure XB where f:eL
def xGo (todo:List tE)(tm:Tm)(R:fJ)(cs:List tC)(H:wA):aE:=.next ⟨⟨todo,tm,R⟩,cs,H⟩
def Aw:eL:=fun _ k tm R cs H=>xGo k tm R cs H
def Hq(c:Operand)(x y:Code):eL:=fun _ k tm R cs H=>
 match ob (ev c (.now tm)) zA.asBool with
 | some b=>xGo (.code (bif b then x else y)::k) tm R cs H
 | none=>.fail 8
def zdk(id:Nat)(c:Code):eL:=fun _ k tm R cs H=>xGo (.code c::.inBlock id::k) tm R cs H
def zfy(c:Code):eL:=fun _ k tm R cs H=>xGo (.code c::.inLoop c::k) tm R cs H
def xScope(c:Code):eL:=fun _ k tm R cs H=>xGo (.code c::.inScope c::k) tm R cs H
def jY(id:Nat):eL:=fun C k tm R cs H=>
 match pR id k with
 | some k'=>xGo k' tm R cs H
 | none=>yR (some (.exit id)) C ⟨.code (.exit id)::k,tm,R⟩ cs H
def xRet:eL:=fun C k tm R cs H=>yR (some .ret) C ⟨.code .ret::k,tm,R⟩ cs H
def zfz:eL:=fun _ _ _ _ _ _=>.fail 9
def Db(e:Edge):Bool:=
 match e.ground with
 | .textOnly _=>false
 | .gcOnly _=>false
 | _=>true
def tb (m i:Nat):Bool:=Nat.beq (Nat.mod (Nat.shiftRight m i) (nat_lit 2)) (nat_lit 1)
def rY(i:Nat):Nat:=Nat.shiftLeft (nat_lit 1) i
def bI (t:Tr Nat)(i:Nat):Nat:=
 match t.get i with
 | some m=>m
 | none=>0
def Fk(t:Tr Nat):List Edge->Nat
 | []=>0
 | e::l=>bif Db e then Nat.lor (Nat.lor (rY e.on) (bI t e.on)) (Fk t l)else Fk t l
def zjb:List Oper->Nat->Tr Nat->Tr Nat
 | [],_,t=>t
 | o::r,i,t=>zjb r (i+1) (t.set i (Fk t o.after.toList))
def Ok:List Oper->Nat->Bool
 | [],_=>true
 | o::r,i=>bif eE (fun e=>bif Db e then Nat.blt e.on i else true) o.after.toList then Ok r (i+1)else false
def Dl:List Oper->Nat->Tr Nat->Option (Tr Nat)
 | [],_,t=>some t
 | o::r,i,t=>match o.dst with
  | none=>Dl r (i+1) t
  | some d=>match t.get d with
   | none=>Dl r (i+1) (t.set d i)
   | some _=>none
def oH{α:Type}:Option α->Bool | none=>true | some _=>false
def Vy(wr anc:Tr Nat)(i:Nat)(olds:List Nat)(t:Nat):Bool:=
 match wr.get t with
 | none=>true
 | some j=>bif sH t olds then(bif Nat.beq j i then true else tb (bI anc j) i)else tb (bI anc i) j
def Vz(anc:Nat):Option (Nat × Bool)->Bool
 | none=>true
 | some g=>tb anc g.1
def Oi(wr anc:Tr Nat)(olds:List (Nat × List Nat)):List Oper->Nat->Bool
 | [],_=>true
 | o::r,i=>bif Vz (bI anc i) o.guard then(bif eE (Vy wr anc i (vF i olds)) (pH o.op)then Oi wr anc olds r (i+1)else false)else false
def zS:Op->Bool
 | .move _=>true
 | .assign _=>true
 | .pick _ _ _=>true
 | .nilCheck _=>true
 | .binOp _ _ _ _ _=>true
 | .unOp _ _ _=>true
 | .makeInterface _ _=>true
 | .makeFunc _ _ _=>true
 | .fieldAddr _ _ _=>true
 | .field _ _ _=>true
 | .indexAddr _ _ _=>true
 | .index _ _ _=>true
 | .extract _ _=>true
 | .build _ _=>true
 | .typeAssert _ _ _ _=>true
 | _=>false
def pW (D:Nat)(o:Oper):Bool:=eE (fun e=>bif Db e then tb D e.on else true) o.after.toList
def Oj(h D:Nat):List Oper->Nat->Bool
 | [],_=>true
 | o::r,i=>bif (bif tb D i then true else bif Nat.beq i h then true else !pW D o)then Oj h D r (i+1)else false
def rK:Op->Bool
 | .alloc _=>true
 | .box _ _=>true
 | .buildSlice _ _ _=>true
 | _=>false
def Oo(m D:Nat)(again:List Nat):List Oper->Nat->Bool
 | [],_=>true
 | o::r,i=>bif (bif tb D i then(bif tb m i then true else bif zS o.op then true else bif rK o.op then true else sH i again)else true)then Oo m D again r (i+1)else false
def wV(ops:List Oper)(i D:Nat):Option Nat:=
 ob (xD ops i) fun o=>pB (bif tb D i then false else pW D o) (some (Nat.lor D (rY i)))
def uO(ops:List Oper):List Nat->Nat->Option Nat
 | [],D=>some D
 | i::l,D=>ob (wV ops i D) fun D=>uO ops l D
def Ol(D:Nat):List Oper->Nat->Bool
 | [],_=>true
 | _::r,i=>bif tb D i then Ol D r (i+1)else false
def zic:Option Oper->Bool
 | some o=>rK o.op
 | none=>false
def okG (ops:List Oper)(D:Nat):List Nat->Nat->Option Nat
 | [],E=>some E
 | i::l,E=>ob (xD ops i) fun o=>pB (!tb E i&&pW D o&&oH o.dst) (okG ops D l (Nat.lor E (rY i)))
def Oh(anc:Tr Nat)(D1:Nat)(G:List Nat):List Oper->Nat->Bool
 | [],_=>true
 | o::r,i=>bif (bif tb D1 i then true else bif eE (fun g=>tb (bI anc i) g) G then true else !pW D1 o)then Oh anc D1 G r (i+1)else false
def Kl(o:Op):Bool:=
 match o with
 | .call c=>(match c.callee with
  | .builtin .len=>true
  | _=>false)
 | _=>false
def Om(anc:Tr Nat)(D:Nat)(G:List Nat):List Oper->Nat->Bool
 | [],_=>true
 | o::r,i=>bif (bif tb D i then(bif zS o.op then true else bif rK o.op then true else bif Kl o.op then true else eE (fun g=>tb (bI anc g) i) G)else true)then Om anc D G r (i+1)else false
def FI(ops:List Oper)(anc:Tr Nat)(D:Nat)(st:xF):Option Nat:=
 ob (okG ops D st.again D) fun D1=>pB (Oh anc D1 st.again ops 0&&Om anc D st.again ops 0) (uO ops st.lights D1)
def vJ(ops:List Oper)(anc:Tr Nat):List xF->Nat->Bool
 | [],D=>Ol D ops 0
 | st::r,D=>bif Nat.blt (oB ops) st.heavy then(bif Nat.blt (oB ops+oB ops) st.heavy then(match FI ops anc D st with
   | some D=>vJ ops anc r D
   | none=>false)else bif zic (xD ops (Nat.sub st.heavy (Nat.succ (oB ops))))then
   (match ob (wV ops (Nat.sub st.heavy (Nat.succ (oB ops))) D) fun D=>uO ops st.lights D with
   | some D=>vJ ops anc r D
   | none=>false)else false)else bif Oj st.heavy D ops 0 then(bif Oo (bI anc st.heavy) D st.again ops 0 then
   (match ob (wV ops st.heavy D) fun D=>uO ops st.lights D with
   | some D=>vJ ops anc r D
   | none=>false)else false)else false
def Vx(ops:List Oper)(p:Plan):Bool:=
 bif Ok ops 0 then
  (match Dl ops 0 .leaf with
  | none=>false
  | some wr=>
   (fun anc=>bif Oi wr anc p.olds ops 0 then(match uO ops p.first 0 with
    | some D=>vJ ops anc p.stages D
    | none=>false)else false) (zjb ops 0 .leaf))else false
structure OkB where b:Bool
def vS(all:Array Oper)(p:Plan):Bool:=(OkB.mk (Vx all.toList p)).b
def Hp(id:Nat)(all:Array Oper):eL:=fun C k tm R cs H=>
 eK (ob (ob (C.plans.get R.fn) fun t=>t.get id) fun p=>pB (vS all p) <| ob (iP C H all R.n tm.cut p.olds p.first tm.cut) fun tm'=>some ⟨⟨.reg all tm.cut p.olds p.stages::k,tm',R⟩,cs,H⟩) 10
def nK.asVal:nK->Option (zA × wA) | .val v H=>some (v,H) | _=>none
def yT(C:dA)(all:Array Oper)(k:List tE)(R:fJ)(cs:List tC)(l:List Oper):Tm->wA->aE:=
 List.rec (motive:=fun _=>Tm->wA->aE) (fun tm H=>xGo k tm R cs H)
  (fun o rest g tm H=>
   match gF o.guard all tm with
   | some w=>Bool.rec (motive:=fun _=>aE) (g (putA R.n tm o.dst xE) H)
     (let r:=(sG o.op).f C (.now tm) H
     match r.asVal with
     | some p=>g (putA R.n tm o.dst p.1) p.2
     | none=>Hb r C ⟨.ops all (o::rest)::k,tm,R⟩ cs H) w
   | none=>.fail 20) l
def xOps (all:Array Oper)(rest:List Oper):eL:=fun C k tm R cs H=>yT C all k R cs rest tm H
def zfx(id:Nat)(all:Array Oper)(draw:Bool):XB:=
 match draw with
 | true=>⟨Hp id all⟩
 | false=>⟨fun C k tm R cs H=>yT C all k R cs all.toList tm.cut H⟩
def Lx(all:Array Oper)(old:Tm)(olds:List (Nat × List Nat))(st:xF)(stages:List xF)(o:Oper):eL:=fun C k tm R cs H=>
 match gF o.guard all tm with
 | some w=>Hb (bif w then(sG o.op).f C (.mixed tm old (vF st.heavy olds) (pH o.op)) H else .val xE H) C ⟨.reg all old olds (st::stages)::k,tm,R⟩ cs H
 | none=>.fail 21
def Hm(all:Array Oper)(old:Tm)(olds:List (Nat × List Nat))(st:xF)(stages:List xF):eL:=fun C k tm R cs H=>
 eK (pB (Ai C H all old olds tm st.again) (ob (iP C H all R.n old olds st.lights tm) fun tm=>some ⟨⟨.reg all old olds stages::k,tm,R⟩,cs,H⟩)) 11
def Lz(all:Array Oper)(old:Tm)(olds:List (Nat × List Nat))(st:xF)(stages:List xF)(i:Nat):eL:=fun C k tm R cs H=>
 eK (ob (xD all.toList i) fun o=>ob (gF o.guard all tm) fun w=>pB (w&&oH (tX C o.op)) (ob ((sG o.op).f C (.mixed tm old (vF i olds) (pH o.op)) H).asVal fun p=>
  ob (iP C p.2 all R.n old olds st.lights (putA R.n tm o.dst p.1)) fun tm'=>some ⟨⟨.reg all old olds stages::k,tm',R⟩,cs,p.2⟩)) 23
inductive xK where
 | store (t:Nat) (a v:zA)
 | upd (t:Nat) (m k v:zA)
inductive RE where
 | st (b off:Nat) (l:List zA)
 | up (b:Nat) (k v:zA)
def yY(op:Op)(e:aC):Option xK:=
 match op with
 | .store t a x=>ob (ev a e) fun a=>ob (ev x e) fun v=>some (.store t a v)
 | .mapUpdate t m k x=>ob (ev m e) fun m=>ob (ev k e) fun k=>ob (ev x e) fun v=>some (.upd t m k v)
 | .insert t m k x=>ob (ev m e) fun m=>ob (ev k e) fun k=>ob (ev x e) fun v=>some (.upd t m k v)
 | _=>none
def oP (C:dA)(e:xK):Option RE:=
 match e with
 | .store t a v=>ob (C.tys.get t) fun ty=>ob a.asPtr fun p=>pB (Nat.beq (oB v.cells) ty.size) (some (.st p.1 p.2 v.cells))
 | .upd t m k v=>ob (C.tys.get t) fun ty=>ob ty.desc.asMap fun ke=>ob (C.tys.get ke.1) fun kty=>pB (rS C kty&&dP C kty k) (ob m.asMap fun b=>some (.up b k v))
def RE.blk:RE->Nat
 | .st b _ _=>b
 | .up b _ _=>b
def Ow(a b:zA):Bool:=
 match lH a b with
 | some r => !r
 | none=>false
def Zi(a b:RE):Bool:=bif Nat.beq a.blk b.blk then(match a with
 | .st _ _ _=>false
 | .up _ k _=>(match b with
  | .st _ _ _=>false
  | .up _ k' _=>Ow k k'))else true
def Ha:List RE->Bool
 | []=>true
 | a::l=>eE (Zi a) l&&Ha l
def bV(C:dA)(H:wA)(e:RE):Option wA:=
 match e with
 | .st b off l=>rJ C H b off l
 | .up b k v=>pB (!Nat.blt b C.base) (ob (cH H b) fun m=>some (setBlk H b (.map (bD m [(k,v)]))))
def Bt(C:dA)(H:wA)(e:RE):Bool:=
 match e with
 | .st b off l => !oH (rJ C H b off l)
 | .up b _ _ => !Nat.blt b C.base&&(match cH H b with
  | some []=>true
  | _=>false)
def pY(C:dA):List RE->wA->Option wA
 | [],H=>some H
 | e::l,H=>ob (bV C H e) fun H=>pY C l H
def kV(C:dA)(es:List xK)(H:wA):Option wA:=ob (fG (oP C) es) fun rs=>pB (Ha rs&&eE (Bt C H) rs) (pY C rs H)
def iV(all:Array Oper)(old:Tm)(olds:List (Nat × List Nat))(tm:Tm)(i:Nat):Option xK:=
 ob (xD all.toList i) fun o=>ob (gF o.guard all tm) fun w=>pB w (yY o.op (.mixed tm old (vF i olds) (pH o.op)))
def Pl(C:dA)(o:Oper):Bool:=
 match o.op with
 | .call c=>(match c.callee with
  | .builtin .len=>(match ob (xD c.argTypes.toList 0) fun t=>C.tys.get t with
   | some ty => !Nat.beq ty.desc.tag 6
   | none=>false)
  | _=>true)
 | _=>true
def sV(C:dA)(all:Array Oper):Bool:=eE (Pl C) all.toList
def Gj(all:Array Oper)(old:Tm)(olds:List (Nat × List Nat))(tm:Tm)(l:List Nat):Option (List xK):=fG (iV all old olds tm) l
def Ly(all:Array Oper)(old:Tm)(olds:List (Nat × List Nat))(st:xF)(stages:List xF):eL:=fun C k tm R cs H=>
 eK (pB (sV C all) (ob (Gj all old olds tm st.again) fun es=>ob (kV C es H) fun H'=>ob (iP C H' all R.n old olds st.lights tm) fun tm'=>some ⟨⟨.reg all old olds stages::k,tm',R⟩,cs,H'⟩)) 24
def oQ (all:Array Oper)(old:Tm)(olds:List (Nat × List Nat))(stages:List xF):eL:=
 match stages with
 | []=>Aw
 | st::stages=>match xD all.toList st.heavy with
  | some o=>Lx all old olds st stages o
  | none=>bif Nat.blt (oB all.toList) st.heavy then(bif Nat.blt (oB all.toList+oB all.toList) st.heavy then Ly all old olds st stages else Lz all old olds st stages (Nat.sub st.heavy (Nat.succ (oB all.toList))))else Hm all old olds st stages
def eW(C:dA)(l:Nat)(f:zA):Option tC:=
 ob f.asFunc fun p=>match p.1 with
  | .func g=>match C.prims.get g with
   | none=>gL C g (bD p.2.1 (.func (.yld l) [] []::p.2.2)) false
   | some _=>none
  | .yld _=>none
def Hl(f:Operand)(params:Array Nat)(assign body:Code):eL:=fun C k tm R cs H=>
 eK (ob (ev f (.now tm)) fun v=>match R.roundOf with
  | none=>
   let r:=H.next
   let l:=r+1
   ob (eW C l v) fun h=>
    some ⟨h,⟨.inRange l::k,tm,⟨R.fn,R.n,⟨none,r,[]⟩::R.defers,R.mode,R.deferred,R.roundOf⟩⟩::cs,
     newBlk (newBlk H (.deferred (some []))) (.loop ⟨.ready,none,R.fn,R.n,tm,params.toList,assign,body,r⟩)⟩
  | some outer=>ob (aJ H outer) fun o=>
   let l:=H.next
   ob (eW C l v) fun h=>
    some ⟨h,⟨.inRange l::k,tm,R⟩::cs,newBlk H (.loop ⟨.ready,none,R.fn,R.n,tm,params.toList,assign,body,o.defers⟩)⟩) 12
def LoopState.tag:LoopState->Nat | .ready=>0 | .busy=>1 | .done=>2 | .exhausted=>3
def Hr:eL:=fun _ k tm R cs H=>
 eK (ob R.roundOf fun l=>ob (aJ H l) fun r=>pB (Nat.beq (LoopState.tag r.state) 0)
  (some ⟨⟨k,tm,R⟩,cs,setBlk H l (.loop ⟨.busy,r.pending,r.fn,r.n,r.tm,r.params,r.assign,r.body,r.defers⟩)⟩)) 13
def Ho(l:Nat):eL:=fun _ k tm R cs H=>
 eK (ob (aJ H l) fun r=>pB (!Nat.beq (LoopState.tag r.state) 1)
  (some ⟨⟨(match r.pending with | some c=>.code c::k | none=>k),tm,R⟩,cs,setBlk H l (.loop ⟨.exhausted,r.pending,r.fn,r.n,r.tm,r.params,r.assign,r.body,r.defers⟩)⟩)) 14
def zf0:Code->XB
 | .skip=>⟨Aw⟩
 | .region id ops d=>zfx id ops d
 | .seq a b=>⟨fun C k tm R cs H=>(zf0 a).f C (.code b::k) tm R cs H⟩
 | .cond c x y=>⟨Hq c x y⟩
 | .block id c=>⟨zdk id c⟩
 | .loop c=>⟨zfy c⟩
 | .rangeFunc f ps a b=>⟨Hl f ps a b⟩
 | .exit id=>⟨jY id⟩
 | .scope c=>⟨xScope c⟩
 | .label _=>⟨Aw⟩
 | .goto _=>⟨zfz⟩
 | .ret=>⟨xRet⟩
 | .refuse _=>⟨zfz⟩
def xItem:tE->XB
 | .code c=>zf0 c
 | .inBlock _=>⟨Aw⟩
 | .inLoop c=>⟨zfy c⟩
 | .inScope _=>⟨Aw⟩
 | .ops all rest=>⟨xOps all rest⟩
 | .reg all old olds stages=>⟨oQ all old olds stages⟩
 | .inRange _=>⟨zfz⟩
 | .endRange l=>⟨Ho l⟩
 | .beginRound=>⟨Hr⟩
def cP(C:dA)(todo:List tE)(tm:Tm)(R:fJ)(cs:List tC)(H:wA):aE:=
 match todo with
 | []=>yR none C ⟨[],tm,R⟩ cs H
 | x::k=>(xItem x).f C k tm R cs H
def CS(fr:tC)(d:List mJ):tC:=⟨fr.todo,fr.tm,⟨fr.R.fn,fr.R.n,d,fr.R.mode,fr.R.deferred,fr.R.roundOf⟩⟩
def Ie(C:dA)(d:mJ)(ds:List mJ)(fr:tC)(cs:List tC)(H:wA):aE:=
 eK (match d.fn with
  | none=>ob (gV H d.r) fun l=>ob l fun l=>some ⟨CS fr (bD l ds),cs,setBlk H d.r (.deferred none)⟩
  | some (.func f)=>match C.prims.get f with
   | none=>ob (gL C f d.args true) fun g=>some ⟨g,CS fr ds::cs,H⟩
   | some _=>none
  | some (.yld _)=>none) 15
def Bk(l:List zA):zA:=
 match l with
 | [v]=>v
 | l=>.tup l
def Ic(C:dA)(fr:tC)(cs:List tC)(H:wA):aE:=
 match ob (C.fns.get fr.R.fn) fun fn=>gW C H fr.tm fn.results.toList with
 | none=>.fail 16
 | some l=>
  match cs with
  | []=>bif fr.R.deferred then .fail 17 else bif Nat.beq fr.R.fn C.root then .done (Bk l) H else .fail 22
  | c::rest=>eK (bif fr.R.deferred then
    (match c.R.mode with
    | .panicking (⟨_,true⟩::_)=>some ⟨Iv c .returning,rest,H⟩
    | _=>pB (!c.R.mode.running) (some ⟨c,rest,H⟩))
   else ob (kH c (Bk l)) fun c=>some ⟨c,rest,H⟩) 18
def Mg(C:dA)(fr:tC)(cs:List tC)(H:wA):aE:=
 match fr.R.defers with
 | d::ds=>Ie C d ds fr cs H
 | []=>match fr.R.mode.chain with
  | some chain=>eK (ob (C.fns.get fr.R.fn) fun _=>match cs with | c::rest=>some ⟨Nt c chain,rest,H⟩ | []=>none) 19
  | none=>Ic C fr cs H
def stepA(C:dA)(s:pQ):aE:=
 match s with
 | ⟨⟨todo,tm,R⟩,cs,H⟩=>bif R.mode.running then cP C todo tm R cs H else Mg C ⟨todo,tm,R⟩ cs H
def Ee(C:dA)(o:aE):aE:=
 match o with
 | .next s=>stepA C s
 | .done v H=>.done v H
 | .fail n=>.fail n
def rP (C:dA)(n:Nat):aE->aE:=
 Nat.rec (motive:=fun _=>aE->aE) (fun o=>Ee C o) (fun _ g o=>g (g o)) n
end Go.Am
namespace Go.Am
open Go
theorem mA{α β:Type}{x:Option α}{f:α->Option β}{b:β}:ob x f=some b ↔ ∃a,x=some a/\f a=some b:=by
 cases x with
 | none=>simp[ob]
 | some a=>exact⟨fun h=>⟨a,rfl,h⟩,fun⟨_,h,k⟩=>by cases h;exact k⟩
@[simp] theorem zg6 {α β:Type} {f:α->Option β}:ob none f=none:=rfl
@[simp] theorem pA {α β:Type} {a:α} {f:α->Option β}:ob (some a) f=f a:=rfl
theorem jB{α:Type}{b:Bool}{x:Option α}{a:α}:pB b x=some a ↔ b=true/\x=some a:=by
 cases b with
 | false=>simp[pB]
 | true=>simp[pB]
theorem iJ{α:Type}(a b:α)(c:Bool):(Bool.rec (motive:=fun _=>α) a b c:α)=if c=true then b else a:=by cases c<;>rfl
theorem oC{n m:Nat}:(Nat.beq n m=true) ↔ n=m:=⟨Nat.eq_of_beq_eq_true,fun h=>by simp_all⟩
theorem beqf{n m:Nat}:(Nat.beq n m=false) ↔ n≠m:=by
 rw[<- Bool.not_eq_true,oC]
theorem mE{n m:Nat}:(Nat.ble n m=true) ↔ n<=m:=Iff.of_eq Nat.ble_eq
theorem pC{n m:Nat}:(Nat.blt n m=true) ↔ n<m:=Iff.of_eq Nat.ble_eq
def rD{α:Type}(c:Bool)(a b:α):(bif c then a else b)=if c=true then a else b:=by cases c<;>rfl
namespace Tr
variable {α:Type}
theorem get_leaf(n:Nat):(leaf:Tr α).get n=none:=rfl
theorem get_node(l:Tr α)(v:Option α)(r:Tr α)(n:Nat) :
  (node l v r).get n=if n=0 then v else if n%2=1 then l.get (n / 2)else r.get (n / 2-1):=by
 show Bool.rec (motive:=fun _=>Option α) (Bool.rec (motive:=fun _=>Option α) (r.get (n / 2-1)) (l.get (n / 2)) (Nat.beq (n%2) 1)) v (Nat.beq n 0)=_
 grind [iJ,oC]
theorem zg9(f n:Nat)(v:α):mk (f+1) n v=if n=0 then node leaf (some v) leaf else if n%2=1 then node (mk f (n / 2) v) none leaf else node leaf none (mk f (n / 2-1) v):=by
 show Bool.rec (motive:=fun _=>Tr α) (Bool.rec (motive:=fun _=>Tr α) (node leaf none (mk f (n / 2-1) v)) (node (mk f (n / 2) v) none leaf) (Nat.beq (n%2) 1)) (node leaf (some v) leaf) (Nat.beq n 0)=_
 grind [iJ,oC]
def zba(n:Nat)(v:α):(leaf:Tr α).set n v=mk (n+1) n v:=rfl
theorem za9(l:Tr α)(x:Option α)(r:Tr α)(n:Nat)(v:α) :
  (node l x r).set n v=if n=0 then node l (some v) r else if n%2=1 then node (l.set (n / 2) v) x r else node l x (r.set (n / 2-1) v):=by
 show Bool.rec (motive:=fun _=>Tr α) (Bool.rec (motive:=fun _=>Tr α) (node l x (r.set (n / 2-1) v)) (node (l.set (n / 2) v) x r) (Nat.beq (n%2) 1)) (node l (some v) r) (Nat.beq n 0)=_
 grind [iJ,oC]
theorem zc6(l:Tr α)(x:Option α)(r:Tr α)(n:Nat) :
  (node l x r).del n=if n=0 then node l none r else if n%2=1 then node (l.del (n / 2)) x r else node l x (r.del (n / 2-1)):=by
 show Bool.rec (motive:=fun _=>Tr α) (Bool.rec (motive:=fun _=>Tr α) (node l x (r.del (n / 2-1))) (node (l.del (n / 2)) x r) (Nat.beq (n%2) 1)) (node l none r) (Nat.beq n 0)=_
 grind [iJ,oC]
theorem get_mk(f:Nat):∀(n m:Nat) (v:α),n<f->(mk f n v).get m=if m=n then some v else none:=by
 induction f with
 | zero=>omega
 | succ f ih=>
  grind [zg9,get_node,get_leaf]
theorem get_set(t:Tr α):∀(n m:Nat) (v:α),(t.set n v).get m=if m=n then some v else t.get m:=by
 induction t with
 | leaf=>intro n m v;rw[zba,get_mk _ _ _ _ (by omega),get_leaf]
 | node l x r ihl ihr=>
  grind [za9,get_node]
theorem get_del(t:Tr α):∀(n m:Nat),(t.del n).get m=if m=n then none else t.get m:=by
 induction t with
 | leaf=>intro n m;show(leaf:Tr α).get m=_;rw[get_leaf];split<;>rfl
 | node l x r ihl ihr=>
  grind [zc6,get_node]
def many_succ(t:Tr α)(n i:Nat):t.many (n+1) i=ob (t.get i) fun v=>ob (t.many n (i+1)) fun l=>some (v::l):=rfl
theorem many_some(t:Tr α)(n:Nat):∀(i:Nat) (l:List α),t.many n i=some l->l.length=n/\∀j,j<n->t.get (i+j)=l[j]?:=by
 induction n with
 | zero=>intro i l h;cases h;simp_all
 | succ n ih=>
  intro i l h;rw[many_succ,mA]at h;obtain⟨v,hv,h⟩:=h;rw[mA]at h;grind
theorem QY(v:α)(l:List α)(t:Tr α)(i:Nat):setMany (v::l) t i=setMany l (t.set i v) (i+1):=rfl
theorem get_setMany(l:List α):∀(t:Tr α) (i m:Nat),(setMany l t i).get m=if i<=m/\m<i+l.length then l[m-i]? else t.get m:=by
 induction l with
 | nil=>intro t i m;rw[yaa (by simp)];rfl
 | cons v l ih=>
  grind [QY,get_set]
theorem get_ofList(l:List α)(m:Nat):(ofList l).get m=l[m]?:=by
 grind [ofList,get_setMany,get_leaf]
end Tr
theorem dG{α:Type}(l:List α):∀n,xD l n=l[n]?:=by
 induction l with
 | nil=>intro n;rfl
 | cons a l ih=>
  intro n
  cases n with
  | zero=>rfl
  | succ n=>show xD l n=_;grind
theorem oT{α:Type}(l:List α):∀n,fP l n=l.drop n:=by
 induction l with
 | nil=>intro n;simp;rfl
 | cons a l ih=>
  intro n
  cases n with
  | zero=>rfl
  | succ n=>show fP l n=_;grind
theorem tS{α:Type}(l:List α):∀n,wX l n=l.take n:=by
 induction l with
 | nil=>intro n;simp;rfl
 | cons a l ih=>
  intro n
  cases n with
  | zero=>rfl
  | succ n=>show a::wX l n=_;grind
theorem pD{α:Type}(l:List α):oB l=l.length:=by
 induction l with
 | nil=>rfl
 | cons a l ih=>grind [oB]
theorem wH{α:Type}(l m:List α):bD l m=l++m:=by
 induction l with
 | nil=>rfl
 | cons a l ih=>grind [bD]
theorem mI{α:Type}(p:α->Bool)(l:List α):eE p l=l.all p:=by
 induction l with
 | nil=>rfl
 | cons a l ih=>show(bif p a then eE p l else false)=_;rw[ih];cases h:p a<;>simp[h]
theorem dM{α β:Type}(f:α->Option β)(a:α)(l:List α):fG f (a::l)=ob (f a) fun b=>ob (fG f l) fun r=>some (b::r):=rfl
theorem Ce{α β:Type}(f:α->Option β):fG f []=some []:=rfl
theorem tZ(i:Nat)(l:List Nat):sH i l=true ↔ i∈l:=by
 induction l with
 | nil=>exact⟨fun h=>(by cases h),fun h=>(by cases h)⟩
 | cons j l ih=>
  grind [sH,oC]
theorem aI(a:List Nat):∀b,fC a b=true ↔ a=b:=by
 induction a with
 | nil=>intro b;cases b with
  | nil=>exact⟨fun _=>rfl,fun _=>rfl⟩
  | cons y b=>exact⟨fun h=>(by cases h),fun h=>(by cases h)⟩
 | cons x a ih=>
  intro b
  cases b with
  | nil=>exact⟨fun h=>(by cases h),fun h=>(by cases h)⟩
  | cons y b=>
   simp_all [fC]
theorem sK{a b:IntKind}:cM a b=true ↔ a=b:=by cases a<;>cases b<;>simp[cM,kIdx]
theorem lR(a b:Bool):jH a b=(a == b):=by cases a<;>cases b<;>rfl
theorem nV(a b:Int):tA a b=true ↔ a=b:=by
 cases a<;>cases b<;>simp only[tA,oC] <;> (try simp)<;>omega
theorem Pz(a b:Int):xC a b=true ↔ a<=b:=by
 cases a<;>cases b<;>simp only[xC,mE] <;> (try simp)<;>omega
theorem Fv(a b:Int):kB a b=true ↔ a<b:=by
 cases a<;>cases b<;>simp only[kB,pC] <;> (try simp)<;>omega
theorem jX(a b:Int):tA a b=(a == b):=by grind [nV]
theorem zfk(a b:Int):xC a b=decide (a<=b):=by grind [Pz]
theorem zfj(a b:Int):kB a b=decide (a<b):=by grind [Fv]
theorem vN(k:IntKind)(n:Int):jA k n=k.wrap n:=by
 cases n with
 | ofNat n=>
  show(bif Nat.blt n (yH k)then Int.ofNat n else _)=_;rw[rD];by_cases h:Nat.blt n (yH k)=true
  ·rw[yab h];have h':=pC.1 h;cases k<;>simp only[yH]at h'<;>simp only[IntKind.wrap,IntKind.bits,IntKind.signed]<;>simp<;>omega
  grind
 | negSucc n=>
  show(bif Nat.blt n (kLo k)then Int.negSucc n else _)=_;rw[rD];by_cases h:Nat.blt n (kLo k)=true
  ·rw[yab h];have h':=pC.1 h;cases k<;>simp only[kLo]at h'<;>simp only[IntKind.wrap,IntKind.bits,IntKind.signed]<;>simp<;>omega
  grind
theorem Js{n:Int}{m:Nat}:sL n=some m ↔ n=(m:Int):=by
 cases n with
 | ofNat a=>grind [sL]
 | negSucc a=>grind [sL]
end Go.Am
namespace Go.Am
open Go
theorem Fp{a b:zA}{r:Bool}(h:mN a b=some r) :
  (∃k x y,a=.int k x/\b=.int k y/\r=(x == y))\/(∃x y,a=.str x/\b=.str y/\r=fC x y)\/(∃x y,a=.bool x/\b=.bool y/\r=(x == y)):=by
 cases a<;>simp only[mN,zA.asIntK,zA.asStr,Gg,zA.asBool]at h<;>try (cases h;done)
 case bool x=>
  rw[pA,mA]at h;grind [lR]
 all_goals grind [mA,jB,sK,jX]
def IK{a b:zA}(h:mN a b=some true):a=b:=by
 grind [Fp,aI]
def IL{a b:zA}{r:Bool}(h:mN a b=some r):mN b a=some r:=by
 rcases Fp h with⟨k,x,y,rfl,rfl,hr⟩ | ⟨x,y,rfl,rfl,hr⟩ | ⟨x,y,rfl,rfl,hr⟩
 ·have e:tA y x=(x == y):=by grind [jX]
  show pB (cM k k) (some (tA y x))=_
  grind [jB,sK]
 ·grind [mN,zA.asIntK,zA.asStr,pA,aI]
 ·simp only[mN,zA.asIntK,zA.asStr,Gg,zA.asBool,lR,pA,hr];rw[show(y == x)=(x == y) by cases x<;>cases y<;>rfl]
def IF:∀ {x y:List zA},vR x y=some true->x=y
 | [],[],_=>rfl
 | a::x,b::y,h=>by
  simp only[vR,mA]at h;obtain⟨r,hr,s,hs,h⟩:=h;cases r<;>cases s<;>simp at h;rw[IK hr,IF hs]
 | [],_::_,h=>by cases h
 | _::_,[],h=>by cases h
def IG:∀ {x y:List zA} {r:Bool},vR x y=some r->vR y x=some r
 | [],[],_,h=>h
 | a::x,b::y,r,h=>by
  simp only[vR,mA]at h ⊢;obtain⟨r1,hr,s,hs,h⟩:=h;exact⟨r1,IL hr,s,IG hs,h⟩
 | [],_::_,_,h=>by cases h
 | _::_,[],_,h=>by cases h
def Kh{a b:zA}{r:Bool}(h:lH a b=some r):(∃x y,a=.agg x/\b=.agg y/\vR x y=some r)\/(a.asAgg=none/\mN a b=some r):=by
 unfold lH at h;split at h
 ·rename_i x hx;rw[mA]at h;obtain⟨y,hy,h⟩:=h;cases a<;>simp[zA.asAgg]at hx;cases b<;>simp[zA.asAgg]at hy
  simp_all
 simp_all
def VM{a b:zA}{r:Bool}(h:mN a b=some r):lH a b=some r:=by
 rcases Fp h with⟨k,x,y,rfl,rfl,hr⟩ | ⟨x,y,rfl,rfl,hr⟩ | ⟨x,y,rfl,rfl,hr⟩<;>exact h
theorem IJ{a b:zA}(h:lH a b=some true):a=b:=by
 rcases Kh h with⟨x,y,rfl,rfl,h⟩ | ⟨_,h⟩
 ·rw[IF h]
 ·exact IK h
theorem Kg{a b:zA}{r:Bool}(h:lH a b=some r):lH b a=some r:=by
 rcases Kh h with⟨x,y,rfl,rfl,h⟩ | ⟨_,h⟩
 ·exact IG h
 ·exact VM (IL h)
def DK (l:List (zA × zA)):Prop:=l.Pairwise fun p q=>lH p.1 q.1=some false
def Hf(l l':List (zA × zA)):Prop:=l'=l\/(l.Perm l'/\DK l)
def DK.perm{l l':List (zA × zA)}(h:DK l)(p:l.Perm l'):DK l':=(p.pairwise_iff (fun hab=>Kg hab)).1 h
theorem Ye{k:zA}:∀ {l:List (zA × zA)},uJ k l=some none ↔ ∀e∈l,lH k e.1=some false
 | []=>by simp[uJ]
 | e::l=>by
  rw[uJ,mA];constructor
  ·rintro⟨r,hr,h⟩
   cases r with
   | true=>cases h
   | false=>
    rw[cond_false]at h;intro x hx;rcases ybs.1 hx with rfl | hx
    ·exact hr
    ·exact Ye.1 h x hx
  ·intro h;exact⟨false,h e (.head _),Ye.2 fun x hx=>h x (.tail _ hx)⟩
def KF{k v:zA}:∀ {l:List (zA × zA)},uJ k l=some (some v)->(k,v)∈l/\lH k k=some true
 | [],h=>by cases h
 | e::l,h=>by
  rw[uJ,mA]at h;obtain⟨r,hr,h⟩:=h
  cases r with
  | true=>
   grind [IJ]
  | false=>
   rw[cond_false]at h;obtain⟨h1,h2⟩:=KF h
   simp_all
def DK.split{k v:zA}{l m:List (zA × zA)}(h:DK (l++(k,v)::m)):(∀e∈l,lH k e.1=some false)/\∀e∈m,lH k e.1=some false:=by
 unfold DK at h;rw[List.pairwise_append]at h;obtain⟨_,h2,h3⟩:=h;rw[List.pairwise_cons]at h2;exact⟨fun e he=>Kg (h3 e he (k,v) (.head _)),fun e he=>h2.1 e he⟩
def WU{k:zA}{l m:List (zA × zA)}(h:∀e∈l,lH k e.1=some false):uJ k (l++m)=uJ k m:=by
 induction l with
 | nil=>rfl
 | cons e l ih=>
  grind [uJ,pA]
def WV{k:zA}{l l':List (zA × zA)}{r:Option zA}(h:Hf l l')(hf:uJ k l=some r):uJ k l'=some r:=by
 rcases h with rfl | ⟨p,d⟩
 ·exact hf
 cases r with
 | none=>
  grind [Ye]
 | some v=>
  obtain⟨h1,h2⟩:=KF hf;obtain⟨a,b,rfl⟩:=List.append_of_mem (p.mem_iff.1 h1);rw[WU (d.perm p).split.1,uJ,h2,pA,cond_true]
def Um{k v:zA}:∀ {l:List (zA × zA)},(∀e∈l,lH k e.1=some false)->fH k v l=some (l++[(k,v)])
 | [],_=>rfl
 | e::l,h=>by
  rw[fH,h e (.head _),pA,cond_false,Um fun x hx=>h x (.tail _ hx)];rfl
def CQ{k v u:zA}{m:List (zA × zA)}(hk:lH k k=some true):∀ {l:List (zA × zA)},(∀e∈l,lH k e.1=some false)->fH k v (l++(k,u)::m)=some (l++(k,v)::m)
 | [],_=>by simp_all [fH]
 | e::l,h=>by
  rw[List.cons_append,fH,h e (.head _),pA,cond_false,CQ hk fun x hx=>h x (.tail _ hx)];rfl
def CP{k v:zA}:∀ {l r:List (zA × zA)},fH k v l=some r->((∀e∈l,lH k e.1=some false)/\r=l++[(k,v)])\/(lH k k=some true/\∃a u b,l=a++(k,u)::b/\r=a++(k,v)::b)
 | [],r,h=>by cases h;simp_all
 | e::l,r,h=>by
  rw[fH,mA]at h;obtain⟨q,hq,h⟩:=h
  cases q with
  | true=>
   rw[cond_true]at h;cases h;have:=IJ hq;refine .inr ⟨by simp_all,[],e.2,l,?_,rfl⟩;rw[yah,this]
  | false=>
   rw[cond_false,mA]at h;obtain⟨r',hr,h⟩:=h;cases h;rcases CP hr with⟨h1,rfl⟩ | ⟨h0,a,u,b,rfl,rfl⟩
   all_goals grind
def QW{k v:zA}{l l' r:List (zA × zA)}(h:Hf l l')(hs:fH k v l=some r):∃r',fH k v l'=some r'/\Hf r r':=by
 rcases h with rfl | ⟨p,d⟩
 ·exact⟨r,hs,.inl rfl⟩
 rcases CP hs with⟨h1,rfl⟩ | ⟨h0,a,u,b,rfl,rfl⟩
 ·refine⟨_,Um fun e he=>h1 e (p.mem_iff.2 he),.inr ⟨p.append_right _,?_⟩⟩;unfold DK;rw[List.pairwise_append];exact⟨d,by simp,fun x hx y hy=>by grind [Kg]⟩
 ·obtain⟨a',b',rfl⟩:=List.append_of_mem (p.mem_iff.1 (ycf a (.head b)));refine⟨_,CQ h0 (d.perm p).split.1,.inr ⟨?_,?_⟩⟩
  ·have p1:(a++b).Perm (a'++b'):=by
    have q1:(a++(k,u)::b).Perm ((k,u)::(a++b)):=List.perm_middle;have q2:(a'++(k,u)::b').Perm ((k,u)::(a'++b')):=List.perm_middle;exact(q1.symm.trans (p.trans q2)).cons_inv
   exact List.perm_middle.trans ((p1.cons _).trans List.perm_middle.symm)
  ·unfold DK at d ⊢;rw[List.pairwise_append,List.pairwise_cons]at d ⊢;obtain⟨d1,⟨d2,d3⟩,d4⟩:=d;refine⟨d1,⟨d2,d3⟩,fun x hx y hy=>?_⟩;rcases ybs.1 hy with rfl | hy
   ·exact d4 x hx (k,u) (.head _)
   grind
end Go.Am
namespace Go.Am
open Go
structure BI where
 b:Nat
 tight:Bool
 es:Nat
 room:Nat
 ro:Bool
structure Mu where
 m:Nat->Option BI
 pd:Nat->Option (qA × Nat × Nat)
instance:CoeFun Mu fun _=>Nat->Option BI:=⟨Mu.m⟩
def Mu.lw(μ ν:Mu):Prop:=∀a i,μ a=some i->ν a=some i
structure Mu.le (μ ν:Mu):Prop where
 f:∀a i,μ a=some i->ν a=some i
 pd:ν.pd=μ.pd
instance {μ ν:Mu}:CoeFun (μ.le ν) fun _=>∀a i,μ a=some i->ν a=some i:=⟨Mu.le.f⟩
instance {μ ν:Mu}:Coe (μ.le ν) (μ.lw ν):=⟨Mu.le.f⟩
def Mu.le_refl(μ:Mu):μ.le μ:=⟨fun _ _ h=>h,rfl⟩
def Mu.le_trans{a b c:Mu}(h:a.le b)(k:b.le c):a.le c:=⟨fun x i hx=>k.f x i (h.f x i hx),k.pd.trans h.pd⟩
def Hg(μ:Mu):AFn->Fn->Prop
 | .func f,fn=>fn=.func f
 | .yld l,fn=>∃i,μ l=some i/\fn=.yield i.b
mutual
def vA (μ:Mu):zA->Value->Prop
 | .bool b,v=>v=.bool b
 | .int k n,v=>v=.int k n
 | .str l,v=>∃s,v=.string s/\iF s=l
 | .nilptr,v=>v=.pointer none
 | .ptr b off,v=>∃i,μ b=some i/\v=.pointer (some ⟨i.b,off,none⟩)
 | .nilslice,v=>v=.slice none 0 0
 | .slice b off len cap,v=>(∃i cap',μ b=some i/\v=.slice (some ⟨i.b,off,none⟩) len cap'/\cap<=cap'/\(i.tight=true->cap'=cap)/\(i.tight=false->off+cap'*i.es<=i.room))\/(b=0/\len=0/\cap=0/\∃a c,v=.slice (some a) 0 c/\(off=0/\c=0\/off=1))
 | .nilmap,v=>v=.map none
 | .map b,v=>∃i,μ b=some i/\v=.map (some i.b)
 | .func f a c,v=>∃fn a' c',v=.func fn a' c'/\Hg μ f fn/\lB μ a a'.toList/\lB μ c c'.toList
 | .nilfunc,v=>v=.nilFunc
 | .iface t x,v=>∃x',v=.iface t x'/\vA μ x x'
 | .niliface,v=>v=.nilIface
 | .agg l,v=>∃cs,v=.agg cs/\lB μ l cs.toList
 | .tup l,v=>∃cs,v=.tuple cs/\lB μ l cs.toList
def lB (μ:Mu):List zA->List Value->Prop
 | [],m=>m=[]
 | a::l,m=>∃v r,m=v::r/\vA μ a v/\lB μ l r
end
theorem Hg.mono{μ ν:Mu}(h:μ.lw ν){f:AFn}{g:Fn}(k:Hg μ f g):Hg ν f g:=by
 cases f with
 | func f=>exact k
 | yld l=>obtain⟨i,h1,h2⟩:=k;exact⟨i,h _ _ h1,h2⟩
mutual
theorem vA.mono{μ ν:Mu}(h:μ.lw ν):∀(a:zA) (v:Value),vA μ a v->vA ν a v
 | .bool _,_,k=>k
 | .int _ _,_,k=>k
 | .str _,_,k=>k
 | .nilptr,_,k=>k
 | .ptr _ _,_,⟨i,h1,h2⟩=>⟨i,h _ _ h1,h2⟩
 | .nilslice,_,k=>k
 | .slice _ _ _ _,_,.inl ⟨i,c,h1,h2⟩=>.inl ⟨i,c,h _ _ h1,h2⟩
 | .slice _ _ _ _,_,.inr k=>.inr k
 | .nilmap,_,k=>k
 | .map _,_,⟨i,h1,h2⟩=>⟨i,h _ _ h1,h2⟩
 | .func _ a c,_,⟨fn,a',c',h1,h2,h3,h4⟩=>⟨fn,a',c',h1,h2.mono h,lB.mono h a _ h3,lB.mono h c _ h4⟩
 | .nilfunc,_,k=>k
 | .iface _ x,_,⟨x',h1,h2⟩=>⟨x',h1,vA.mono h x _ h2⟩
 | .niliface,_,k=>k
 | .agg l,_,⟨cs,h1,h2⟩=>⟨cs,h1,lB.mono h l _ h2⟩
 | .tup l,_,⟨cs,h1,h2⟩=>⟨cs,h1,lB.mono h l _ h2⟩
theorem lB.mono{μ ν:Mu}(h:μ.lw ν):∀(l:List zA) (m:List Value),lB μ l m->lB ν l m
 | [],_,k=>k
 | a::l,_,⟨v,r,h1,h2,h3⟩=>⟨v,r,h1,vA.mono h a v h2,lB.mono h l r h3⟩
end
theorem lB.length{μ:Mu}{l:List zA}:∀ {m:List Value},lB μ l m->m.length=l.length:=by
 induction l with
 | nil=>grind [lB]
 | cons a l ih=>grind [lB]
theorem lB.get{μ:Mu}{l:List zA}:∀ {m:List Value} {i:Nat} {a:zA},lB μ l m->l[i]?=some a->∃v,m[i]?=some v/\vA μ a v:=by
 induction l with
 | nil=>simp_all
 | cons b l ih=>
  grind [lB]
theorem lB.mk{μ:Mu}{l:List zA}:∀ {m:List Value},m.length=l.length->(∀(i:Nat) a v,l[i]?=some a->m[i]?=some v->vA μ a v)->lB μ l m:=by
 induction l with
 | nil=>grind [lB]
 | cons a l ih=>
  intro m h k
  cases m with
  | nil=>simp at h
  | cons v r=>
   rw[lB];exact⟨v,r,rfl,k 0 a v (by simp) (by simp),ih (by grind) fun i a v h1 h2=>k (i+1) a v (by simp_all) (by simp_all)⟩
theorem lB.append{μ:Mu}{l l':List zA}:∀ {m m':List Value},lB μ l m->lB μ l' m'->lB μ (l++l') (m++m'):=by
 induction l with
 | nil=>grind [lB]
 | cons a l ih=>grind [lB]
theorem lB.drop{μ:Mu}{l:List zA}{m:List Value}(h:lB μ l m)(n:Nat):lB μ (l.drop n) (m.drop n):=by
 refine lB.mk (by simp[h.length]) fun i a v h1 h2=>?_;rw[yde]at h1 h2;obtain⟨u,hu,hr⟩:=h.get h1
 simp_all
theorem lB.take{μ:Mu}{l:List zA}{m:List Value}(h:lB μ l m)(n:Nat):lB μ (l.take n) (m.take n):=by
 refine lB.mk (by simp[h.length]) fun i a v h1 h2=>?_;rw[ydf]at h1 h2;split at h1
 ·rename_i hi;rw[yab hi]at h2;obtain⟨u,hu,hr⟩:=h.get h1
  simp_all
 grind
theorem lB.nil{μ:Mu}:lB μ [] []:=by rw[lB]
theorem lB.cons{μ:Mu}{a:zA}{l:List zA}{v:Value}{m:List Value}(h:vA μ a v)(k:lB μ l m):lB μ (a::l) (v::m):=by grind [lB]
def lB.single{μ:Mu}{a:zA}{v:Value}(h:vA μ a v):lB μ [a] [v]:=.cons h .nil
theorem Af{v:zA}{b:Bool}:v.asBool=some b ↔ v=.bool b:=by cases v<;>simp[zA.asBool]
def Zf{v:zA}{n:Int}:v.asInt=some n ↔ ∃k,v=.int k n:=by cases v<;>simp[zA.asInt]
theorem rU{v:zA}{p:IntKind × Int}:v.asIntK=some p ↔ v=.int p.1 p.2:=by cases v<;>simp[zA.asIntK,Prod.ext_iff]
theorem sU{v:zA}{l:List Nat}:v.asStr=some l ↔ v=.str l:=by cases v<;>simp[zA.asStr]
def Dc{v:zA}{p:Nat × Nat}:v.asPtr=some p ↔ v=.ptr p.1 p.2:=by cases v<;>simp[zA.asPtr,Prod.ext_iff]
def Ae{v:zA}{p:Nat × Nat × Nat × Nat}:v.asSlice=some p ↔ v=.slice p.1 p.2.1 p.2.2.1 p.2.2.2:=by cases v<;>simp[zA.asSlice,Prod.ext_iff]
def Rn{v:zA}{b:Nat}:v.asMap=some b ↔ v=.map b:=by cases v<;>simp[zA.asMap]
theorem Gz{v:zA}{l:List zA}:v.asAgg=some l ↔ v=.agg l:=by cases v<;>simp[zA.asAgg]
def ZL{v:zA}{l:List zA}:v.asTup=some l ↔ v=.tup l:=by cases v<;>simp[zA.asTup]
theorem MT{v:zA}{p:AFn × List zA × List zA}:v.asFunc=some p ↔ v=.func p.1 p.2.1 p.2.2:=by cases v<;>simp[zA.asFunc,Prod.ext_iff]
def MS{v:zA}{p:Nat × zA}:v.asIface=some p ↔ v=.iface p.1 p.2:=by cases v<;>simp[zA.asIface,Prod.ext_iff]
theorem Rm{v:zA}{n:Nat}:v.asNat=some n ↔ ∃k,v=.int k (n:Int):=by
 simp_all [zA.asNat,mA,Zf,Js]
theorem dU{v:zA}:(v.tag=3 ↔ v=.nilptr)/\(v.tag=5 ↔ v=.nilslice)/\(v.tag=7 ↔ v=.nilmap)/\(v.tag=10 ↔ v=.nilfunc)/\(v.tag=12 ↔ v=.niliface):=by
 cases v<;>simp[zA.tag]
theorem vA.notAgg{μ:Mu}{a:zA}{v:Value}(h:vA μ a v)(ha:a.asAgg=none):v.cells = #[v]:=by
 cases a<;>rw[vA]at h<;>first
  | (subst h;rfl)
  | (rcases h with⟨_,_,_,rfl,_⟩ | ⟨_,_,_,_,_,rfl,_⟩<;>rfl)
  | (obtain⟨_,rfl,_⟩:=h;rfl)
  | (obtain⟨_,_,rfl⟩:=h;rfl)
  | (obtain⟨_,_,_,rfl,_⟩:=h;rfl)
  | grind [zA.asAgg]
theorem vA.one{μ:Mu}{a:zA}{v:Value}(h:vA μ a v)(ha:a.one=true):v.oneCell'=true:=by
 cases a<;>rw[vA]at h<;>first
  | (subst h;rfl)
  | (rcases h with⟨_,_,_,rfl,_⟩ | ⟨_,_,_,_,_,rfl,_⟩<;>rfl)
  | (obtain⟨_,rfl,_⟩:=h;rfl)
  | (obtain⟨_,_,rfl⟩:=h;rfl)
  | (obtain⟨_,_,_,rfl,_⟩:=h;rfl)
  | (revert ha;decide)
  | (have:=pC.1 ha;grind [zA.tag])
def Qz{μ:Mu}{a:zA}{v:Value}(h:vA μ a v):lB μ a.cells v.cells.toList:=by
 unfold zA.cells
 cases ha:a.asAgg with
 | none=>rw[h.notAgg ha];exact lB.single h
 | some l=>rw[Gz.1 ha,vA]at h;obtain⟨cs,rfl,h⟩:=h;exact h
def jN(P:Program)(t:Nat):jD:=
 match P.underlying t with
 | some .bool=>.bool
 | some (.int k)=>.int k
 | some .string=>.string
 | some (.pointer e)=>.ptr e
 | some (.slice e)=>.slice e
 | some (.array n e)=>.arr n e
 | some (.map k e)=>.map k e
 | some (.struct fs)=>.struct (fs.toList.map fun f=>(f.offset,f.type,P.cellsOf f.type))
 | some (.func ..)=>.func
 | some (.interface _)=>.iface
 | _=>.other
def Pv:Value->Bool
 | .agg _=>true
 | _=>false
def za0(P:Program)(t:Nat):Bool:=(P.fieldsOf t).toList.all fun f=>(P.info? f.type).isSome
def tyOf (P:Program)(t:Nat):Option mC:=
 match P.info? t with
 | some i=>match i.zero with
  | some z=>ob (fG Ca z.cells.toList) fun l=>pB (jH (Pv z) (jN P t).isAgg&&(P.underlying t).isSome&&za0 P t)
    (some ⟨jN P t, i.size, i.bytes, l, !P.stoodInHeld t && !P.eqGuardType P.depth t && (P.fieldsOf t).toList.all (fun f => f.name != "_")⟩)
  | none=>none
 | none=>none
def qF(P:Program)(C:dA):Prop:=∀t ty,C.tys.get t=some ty->tyOf P t=some ty
theorem Re{a b:ByteArray}(h:iF a=iF b):a=b:=by
 have h1:a.data.toList=b.data.toList:=by
  grind [iF,List.map_inj_right,UInt8.toNat_inj]
 have h2:a.data=b.data:=yax.1 h1;cases a;simp_all
theorem FK{μ:Mu}{v:Value}{a:zA}(h:Ca v=some a):vA μ a v/\a.one=true:=by
 unfold Ca at h;split at h<;>cases h<;>refine⟨?_,rfl⟩<;>rw[vA]
 simp_all
theorem FJ{μ:Mu}{m:List Value}:∀ {l:List zA},fG Ca m=some l->lB μ l m:=by
 induction m with
 | nil=>grind [Ce,lB.nil]
 | cons v m ih=>
  intro l h;rw[dM,mA]at h;obtain⟨a,ha,h⟩:=h;rw[mA]at h;obtain⟨r,hr,h⟩:=h;cases h;exact .cons (FK ha).1 (ih hr)
theorem UG{μ:Mu}{v:Value}{a:zA}(h:Wa v=some a):vA μ a v:=by
 unfold Wa at h;split at h
 ·rename_i cs hc;rw[mA]at h;obtain⟨l,hl,h⟩:=h;cases h;cases v<;>simp[zfr]at hc
  grind [vA,FJ]
 grind [FK]
structure zL (P:Program) (t:Nat) (ty:mC):Prop where
 info:∃i,P.info? t=some i/\i.size=ty.size/\i.bytes=ty.bytes/\∃z,i.zero=some z/\fG Ca z.cells.toList=some ty.zero/\Pv z=ty.desc.isAgg
 desc:jN P t=ty.desc
 und:∃d,P.underlying t=some d
 fields:∀f∈(P.fieldsOf t).toList,∃i,P.info? f.type=some i
 eqOk : ty.eqOk = true -> P.stoodInHeld t = false /\ P.eqGuardType P.depth t = false /\ ∀ f ∈ (P.fieldsOf t).toList, f.name ≠ "_"
theorem PE{P:Program}{t:Nat}{ty:mC}(h:tyOf P t=some ty):zL P t ty:=by
 unfold tyOf at h;split at h
 ·rename_i i hi;split at h
  ·rename_i z hz;rw[mA]at h;obtain⟨l,hl,h⟩:=h;rw[jB]at h;obtain⟨hb,h⟩:=h;cases h;rw[ybb,ybb]at hb;refine⟨⟨i,hi,rfl,rfl,z,hz,hl,?_⟩,rfl,Option.isSome_iff_exists.1 hb.1.2,fun f hf=>Option.isSome_iff_exists.1 (ycb.1 hb.2 f hf),fun h=>?_⟩
   all_goals grind [lR]
  ·cases h
 ·cases h
def qF.facts{P:Program}{C:dA}(h:qF P C){t:Nat}{ty:mC}(k:C.tys.get t=some ty):zL P t ty:=PE (h t ty k)
section
variable {P:Program}{w:World}{t:Nat}{ty:mC}
def Bq{i:TypeInfo}(h:P.info? t=some i):(typeInfo t).run P w=.ok i w:=by
 simp[typeInfo,h]
def wF{d:TypeDesc}(h:P.underlying t=some d):(underlying t).run P w=.ok d w:=by
 simp[underlying,h]
theorem zL.size(h:zL P t ty):(sizeOf t).run P w=.ok ty.size w:=by
 obtain⟨i,h1,h2,_⟩:=h.info;simp[sizeOf,Bq h1,h2]
theorem zL.zero(h:zL P t ty){μ:Mu}:∃z,(∀w,(zeroValue t).run P w=.ok z w)/\vA μ (dR ty) z/\lB μ ty.zero z.cells.toList:=by
 obtain⟨i,h1,_,_,z,h2,h3,h4⟩:=h.info;have hl:lB μ ty.zero z.cells.toList:=FJ h3;refine⟨z,fun w=>by simp[zeroValue,Bq h1,h2],?_,hl⟩;unfold dR
 cases hd:ty.desc.isAgg with
 | true=>
  rw[hd]at h4;cases z<;>simp[Pv]at h4;show vA μ (.agg ty.zero) _;rw[vA];exact⟨_,rfl,hl⟩
 | false=>
  rw[hd]at h4;have hc:z.cells = #[z]:=by cases z<;>first | rfl | simp[Pv]at h4
  grind [lB]
def zL.isAgg(h:zL P t ty):(Go.isAgg t).run P w=.ok ty.desc.isAgg w:=by
 obtain⟨d,hd⟩:=h.und;have h0:=h.desc;unfold jN at h0;rw[hd]at h0;unfold Go.isAgg;rw[yad,wF hd,yac,<- h0];cases d<;>rfl
theorem Cv(h:zL P t ty){fs:List (Nat × Nat × Nat)}(k:ty.desc.asStruct=some fs):∃g,P.underlying t=some (.struct g)/\fs=g.toList.map fun f=>(f.offset,f.type,P.cellsOf f.type):=by
 obtain⟨d,hd⟩:=h.und;have h0:=h.desc
 grind [jN,jD.asStruct]
def mR(h:zL P t ty){e:Nat}(k:ty.desc.asSlice=some e):P.underlying t=some (.slice e):=by
 obtain⟨d,hd⟩:=h.und;have h0:=h.desc;unfold jN at h0;rw[hd]at h0;rw[<- h0]at k;cases d<;>simp[jD.asSlice]at k;rw[hd,k]
def Qv(h:zL P t ty){p:Nat × Nat}(k:ty.desc.asArr=some p):P.underlying t=some (.array p.1 p.2):=by
 obtain⟨d,hd⟩:=h.und;have h0:=h.desc;unfold jN at h0;rw[hd]at h0;rw[<- h0]at k;cases d<;>simp[jD.asArr]at k;rw[hd,<- k]
def LG(h:zL P t ty){p:Nat × Nat}(k:ty.desc.asMap=some p):P.underlying t=some (.map p.1 p.2):=by
 obtain⟨d,hd⟩:=h.und;have h0:=h.desc;unfold jN at h0;rw[hd]at h0;rw[<- h0]at k;cases d<;>simp[jD.asMap]at k;rw[hd,<- k]
def Yq(h:zL P t ty){k:IntKind}(e:ty.desc.asInt=some k):P.underlying t=some (.int k):=by
 obtain⟨d,hd⟩:=h.und;have h0:=h.desc;unfold jN at h0;rw[hd]at h0;rw[<- h0]at e;cases d<;>simp[jD.asInt]at e;rw[hd,e]
theorem Qu(h:zL P t ty)(e:ty.desc.isString=true):P.underlying t=some .string:=by
 obtain⟨d,hd⟩:=h.und;have h0:=h.desc
 grind [jN,jD.isString,jD.tag,Nat.beq]
theorem LF(h:zL P t ty)(e:Nat.blt ty.desc.tag 9=true):∃d,P.underlying t=some d/\∀ms,d≠.interface ms:=by
 obtain⟨d,hd⟩:=h.und;refine⟨d,hd,fun ms hm=>?_⟩;subst hm;have h0:=h.desc
 grind [jN,pC,jD.tag]
end
structure lY (μ:Mu) (d:mJ) (e:Deferred):Prop where
 rel:match d.fn with
  | none=>∃i,μ d.r=some i/\e={ target:=.collected i.b,args := #[] }
  | some f=>∃fn cap as,e={ target:=.fn fn cap,args:=as }/\Hg μ f fn/\lB μ d.args (as++cap).toList
def iE(μ:Mu)(n:Nat)(tm:Tm)(tmps:Array Value):Prop:=tmps.size=n/\∀i v,tm.get i=some v->vA μ v (tmps.getD i undef)
structure Lt (μ:Mu) (l:bO) (r:Loop):Prop where
 state:r.state=l.state
 pending:r.pending=l.pending
 fn:r.fn=l.fn
 tm:iE μ l.n l.tm r.tmps
 params:r.params.toList=l.params
 assign:r.assign=l.assign
 body:r.body=l.body
 defers:∃i,μ l.defers=some i/\r.defers=i.b
inductive eC {α β:Type} (R:α->β->Prop):List α->List β->Prop
 | nil:eC R [] []
 | cons {a b l m}:R a b->eC R l m->eC R (a::l) (b::m)
def jI (μ:Mu)(i:BI):qA->Obj->Prop
 | .cells c n loose,o=>∃cs elem fr,o=.cells cs elem fr/\n<=cs.size/\(i.ro=true\/fr.2<=fr.1\/cs.size<=fr.1)/\(∀(j:Nat) v,c.get j=some v->j<n/\∃v',cs[j]?=some v'/\vA μ v v') ∧
   (match loose with | none=>i.tight=true | some lo=>i.tight=false/\i.es=lo.es/\i.room=cs.size/\∀t,lo=.ty t->elem=t)
 | .map l,o=>∃es clock l',o=.map es clock/\Hf l l'/\eC (fun p e=>vA μ p.1 e.key/\vA μ p.2 e.val) l' es.toList
 | .loop l,o=>∃r,o=.loop r/\Lt μ l r
 | .deferred l,o=>∃l',o=.deferred l'/\(match l,l' with | none,none=>True | some a,some b=>eC (lY μ) a b | _,_=>False)
 | .siter s pos,o=>∃s',o=.stringIter s' pos/\iF s'=s
structure mB (B N:Nat) (μ:Mu) (H:wA) (w:World):Prop where
 base:256<=B
 glob:∀g,g<256->μ g=some ⟨g,true,0,0,true⟩
 low:∀a x i,a<B->H.t.get a=some x->μ a=some i->i.b<N/\x.asLoop=none/\x.asDeferred=none
 next:B<=H.next
 size:N<=w.heap.size
 fresh:∀a,H.next<=a->μ a=none/\H.t.get a=none
 blk:∀a x i,H.t.get a=some x->μ a=some i->∃o,w.heap[i.b]?=some o/\jI μ i x o
 own:∀a i,B<=a->μ a=some i->N<=i.b/\i.b<w.heap.size/\i.ro=false
 inj:∀a b x y i j,H.t.get a=some x->H.t.get b=some y->μ a=some i->μ b=some j->B<=a->B<=b->i.b=j.b->a=b
 pnd:∀a x t,μ.pd a=some (x,t)->μ a=none/\H.t.get a=some x/\B<=a
end Go.Am
namespace Go.Am
open Go
def kF (μ:Mu)(e:aC)(ρ:Operand->Value):Prop:=∀x v,ev x e=some v->vA μ v (ρ x)
def kF.many{μ:Mu}{e:aC}{ρ:Operand->Value}(h:kF μ e ρ):∀ {l:List Operand} {r:List zA},bP l e=some r->lB μ r (l.map ρ):=by
 intro l;induction l with
 | nil=>intro r k;unfold bP at k;rw[Ce]at k;cases k;exact .nil
 | cons x l ih=>
  intro r k;unfold bP at k;rw[dM,mA]at k;obtain⟨a,ha,k⟩:=k;rw[mA]at k;obtain⟨b,hb,k⟩:=k;cases k;exact .cons (h _ _ ha) (ih hb)
def kF.parts{μ:Mu}{e:aC}{ρ:Operand->Value}(h:kF μ e ρ):∀ {l:List (Nat × Operand)} {r:List (Nat × zA)},oR l e=some r →
  eC (fun p q=>p.1=q.1/\vA μ p.2 q.2) r (l.map fun x=>(x.1,ρ x.2)):=by
 intro l;induction l with
 | nil=>intro r k;unfold oR at k;rw[Ce]at k;cases k;exact .nil
 | cons x l ih=>
  intro r k;unfold oR at k;rw[dM,mA]at k;obtain⟨a,ha,k⟩:=k;rw[mA]at ha;obtain⟨a',ha,ha'⟩:=ha;cases ha';rw[mA]at k;obtain⟨b,hb,k⟩:=k;cases k;exact .cons ⟨rfl,h _ _ ha⟩ (ih hb)
def Zn(μ:Mu):Option zA->Option Value->Prop
 | none,none=>True
 | some a,some v=>vA μ a v
 | _,_=>False
def kF.opt{μ:Mu}{e:aC}{ρ:Operand->Value}(h:kF μ e ρ){x:Option Operand}{r:Option zA}(k:nR x e=some r):Zn μ r (x.map ρ):=by
 cases x with
 | none=>cases k;trivial
 | some x=>unfold nR at k;simp only[]at k;rw[mA]at k;obtain⟨a,ha,k⟩:=k;cases k;exact h _ _ ha
theorem yW(b off n:Nat):Addr.add ⟨b,off,none⟩ n=⟨b,off+n,none⟩:=by
 grind [Addr.add]
section
variable {P:Program}{C:dA}{B N:Nat}{μ:Mu}{H:wA}{w:World}
theorem Ad{b:Nat}{p:Tr zA × Nat × Option Lo}(h:mD H b=some p):H.t.get b=some (.cells p.1 p.2.1 p.2.2):=by
 unfold mD at h;rw[mA]at h;obtain⟨x,hx,h⟩:=h;cases x<;>simp[qA.asCells]at h
 grind
theorem mB.cellAt(hH:mB B N μ H w){b:Nat}{p:Tr zA × Nat × Option Lo}(h:mD H b=some p){i:BI}(hi:μ b=some i){j:Nat}{v:zA}(hv:p.1.get j=some v) :
  ∃v',w.cell? ⟨i.b,j,none⟩=some v'/\vA μ v v':=by
 obtain⟨o,h2,h3⟩:=hH.blk _ _ _ (Ad h) hi;obtain⟨cs,elem,fr,rfl,_,_,h4,_⟩:=h3
 grind [World.cell?]
theorem mB.manyAt(hH:mB B N μ H w){b:Nat}{p:Tr zA × Nat × Option Lo}(h:mD H b=some p){i:BI}(hi:μ b=some i){n off:Nat}{l:List zA}(hl:p.1.many n off=some l) :
  ∃vs:List Value,vs.length=n/\lB μ l vs/\(loadCells ⟨i.b,off,none⟩ n).run P w=.ok vs.toArray w/\∀j,j<n->w.cell? ⟨i.b,off+j,none⟩=vs[j]?:=by
 obtain⟨h1,h2⟩:=Tr.many_some _ _ _ _ hl;have key:∀j,j<n->∃v',w.cell? ⟨i.b,off+j,none⟩=some v'/\∃a,l[j]?=some a/\vA μ a v':=by
  intro j hj;have h3:=h2 j hj
  cases hlj:l[j]? with
  | none=>grind
  | some a=>
   rw[hlj]at h3;obtain⟨v',h4,h5⟩:=hH.cellAt h hi h3
   simp_all
 let f:Nat->Value:=fun j=>(w.cell? ⟨i.b,off+j,none⟩).getD undef
 have hf:∀j,j<n->w.cell? ⟨i.b,off+j,none⟩=some (f j):=by
  grind
 refine⟨(List.range n).map f,by simp,?_,?_,?_⟩
 all_goals grind [lB.mk,run_loadCells,yW]
theorem GH(hH:mB B N μ H w){t:Nat}{ty:mC}(hty:zL P t ty){b:Nat}{p:Tr zA × Nat × Option Lo}(h:mD H b=some p){i:BI}(hi:μ b=some i){off:Nat}{v:zA}
  (hv:zR ty p.1 off=some v):∃v',(loadVar t ⟨i.b,off,none⟩).run P w=.ok v' w/\vA μ v v':=by
 unfold zR at hv;unfold loadVar;rw[yad,hty.isAgg,yac]
 cases ha:ty.desc.isAgg with
 | true=>
  rw[ha,cond_true,mA]at hv;obtain⟨l,hl,hv⟩:=hv;cases hv;obtain⟨vs,_,h2,h3,_⟩:=hH.manyAt (P:=P) h hi hl;refine⟨.agg vs.toArray,?_,by grind [vA]⟩;rw[yab rfl,yad,hty.size,yac,yad,h3];rfl
 | false=>
  rw[ha,cond_false]at hv;obtain⟨v',h1,h2⟩:=hH.cellAt h hi hv;refine⟨v',?_,h2⟩;rw[yaa (by simp),run_load,h1]
theorem Jk(hT:qF P C){t:Nat}{l:List zA}{cs:Array Value}(hl:lB μ l cs.toList){off:Nat}{v:zA}(hv:vO C t l off=some v) :
  ∃v',(part t cs off).run P w=.ok v' w/\vA μ v v':=by
 unfold vO at hv;rw[mA]at hv;obtain⟨ty,hty,hv⟩:=hv;have hF:=hT.facts hty;unfold part;rw[yad,hF.isAgg,yac]
 cases ha:ty.desc.isAgg with
 | true=>
  rw[ha,cond_true]at hv;cases hv;refine⟨.agg (cs.extract off (off+ty.size)),?_,?_⟩
  ·rw[yab rfl,yad,hF.size];rfl
  ·rw[vA];refine⟨_,rfl,?_⟩;rw[tS,oT,Array.toList_extract,List.extract_eq_take_drop,Nat.add_sub_cancel_left];exact(hl.drop _).take _
 | false=>
  rw[ha,cond_false,dG]at hv;obtain⟨v',h1,h2⟩:=hl.get hv
  simp_all
def bH (P:Program)(μ:Mu)(w:World)(ρ:Operand->Value)(o:Oper)(v:zA):Prop:=∃v',(execOp ρ o).run P w=.ok (.value v') w/\vA μ v v'
variable {e:aC}{ρ:Operand->Value}{dst:Option Tmp}{type:TypeId}{pos:String}{after:Array Edge}{guard:Option (Nat × Bool)}{v:zA}
def HF(hE:kF μ e ρ){x:Operand}(h:rV x C e H=some v):bH P μ w ρ ⟨dst,.move x,type,pos,after,guard⟩ v:=⟨ρ x,rfl,hE x v h⟩
def IA(hE:kF μ e ρ){x:Operand}(h:rV x C e H=some v):bH P μ w ρ ⟨dst,.assign x,type,pos,after,guard⟩ v:=⟨ρ x,rfl,hE x v h⟩
def HD(hE:kF μ e ρ){c a b:Operand}(h:Ke c a b C e H=some v):bH P μ w ρ ⟨dst,.pick c a b,type,pos,after,guard⟩ v:=by
 unfold Ke at h;rw[mA]at h;obtain⟨cv,hc,h⟩:=h;rw[mA]at h;obtain⟨cb,hb,h⟩:=h;have h1:=hE _ _ hc;rw[Af.1 hb,vA]at h1;unfold bH execOp;simp only[h1,asBool]
 cases cb with
 | true=>exact⟨ρ a,rfl,hE _ _ h⟩
 | false=>exact⟨ρ b,rfl,hE _ _ h⟩
theorem HK(hT:qF P C)(hH:mB B N μ H w)(hE:kF μ e ρ){t:Nat}{a:Operand}(h:kT t a C e H=some v):bH P μ w ρ ⟨dst,.load t a,type,pos,after,guard⟩ v:=by
 unfold kT at h;simp only[mA,Dc]at h;obtain⟨av,ha,p,rfl,ty,hty,c,hc,h⟩:=h;have h1:=hE _ _ ha;rw[vA]at h1;obtain⟨i,hi,hv⟩:=h1;obtain⟨v',h2,h3⟩:=GH (P:=P) hH (hT.facts hty) hc hi h;refine⟨v',?_,h3⟩
 grind [execOp,Instr.loadAt,Instr.sureAddr,Sem.run_bind,Sem.run_pure,Result.andThen_ok]
theorem HE(hE:kF μ e ρ){x:Operand}(h:mX x C e H=some v):bH P μ w ρ ⟨dst,.nilCheck x,type,pos,after,guard⟩ v:=by
 unfold mX at h;rw[mA]at h;obtain⟨a,ha,h⟩:=h;rw[jB]at h;obtain⟨hb,h⟩:=h;cases h;have h1:=hE _ _ ha;refine⟨ρ x,?_,h1⟩;cases v<;>simp[zA.tag,Nat.beq]at hb
 ·rw[vA]at h1;obtain⟨i,_,hv⟩:=h1
  simp_all [execOp]
 ·rename_i fn a b;rw[vA]at h1;obtain⟨fn',a',c',hv,hf,_⟩:=h1
  cases fn with
  | func f=>cases hf;simp_all [execOp]
  | yld l=>obtain⟨i,_,rfl⟩:=hf;simp_all [execOp]
def HR(hE:kF μ e ρ){fn:Fn}{a b:Array Operand}(h:(pZ fn a b).f C e H=some v):bH P μ w ρ ⟨dst,.makeFunc fn a b,type,pos,after,guard⟩ v:=by
 unfold pZ at h;split at h
 ·rename_i f;simp only[Po,mA]at h;obtain⟨as,ha,bs,hb,h⟩:=h;cases h;refine⟨.func (.func f) (a.map ρ) (b.map ρ),rfl,?_⟩;rw[vA];exact⟨_,_,_,rfl,rfl,by simpa using hE.many ha,by simpa using hE.many hb⟩
 ·cases h
def HQ(hT:qF P C)(hE:kF μ e ρ){t:Nat}{x:Operand}(h:qZ t x C e H=some v):bH P μ w ρ ⟨dst,.makeInterface t x,type,pos,after,guard⟩ v:=by
 unfold qZ at h;simp only[mA,jB]at h;obtain⟨ty,hty,hb,a,ha,h⟩:=h;cases h;obtain⟨d,hd,hn⟩:=LF (hT.facts hty) hb;refine⟨.iface t (ρ x),?_,by rw[vA];exact⟨_,rfl,hE _ _ ha⟩⟩;simp only[execOp,Instr.makeInterface,yad,wF hd,yac];cases d<;>first | rfl | exact absurd rfl (hn _)
theorem HV(hE:kF μ e ρ){t:Operand}{i:Nat}(h:eT t i C e H=some v):bH P μ w ρ ⟨dst,.extract t i,type,pos,after,guard⟩ v:=by
 unfold eT at h;simp only[mA,ZL,dG]at h;obtain⟨a,ha,l,rfl,h⟩:=h;have h1:=hE _ _ ha;rw[vA]at h1;obtain⟨cs,hv,hl⟩:=h1;obtain⟨v',h2,h3⟩:=hl.get h;refine⟨v',?_,h3⟩
 simp_all [execOp,Instr.extract]
theorem HS(hT:qF P C)(hE:kF μ e ρ){t:Nat}{x:Operand}{f:Nat}(h:oZ t x f C e H=some v):bH P μ w ρ ⟨dst,.field t x f,type,pos,after,guard⟩ v:=by
 unfold oZ at h;simp only[mA,Gz,dG]at h;obtain⟨ty,hty,fs,hfs,fd,hfd,a,ha,l,rfl,h⟩:=h;obtain⟨g,hg,rfl⟩:=Cv (hT.facts hty) hfs;have h1:=hE _ _ ha;rw[vA]at h1;obtain⟨cs,hv,hl⟩:=h1;rw[ybu]at hfd
 cases hgf:g.toList[f]? with
 | none=>simp_all
 | some fld=>
  rw[hgf]at hfd;simp at hfd;subst hfd;obtain⟨v',h2,h3⟩:=Jk (w:=w) hT hl h;refine⟨v',?_,h3⟩
  simp_all [execOp,Instr.field,wF,asAgg]
theorem HU(hT:qF P C)(hE:kF μ e ρ){s:Nat}{x:Operand}{f:Nat}(h:gT s x f C e H=some v):bH P μ w ρ ⟨dst,.fieldAddr s x f,type,pos,after,guard⟩ v:=by
 unfold gT at h;simp only[mA,Dc,dG,jB]at h;obtain⟨ty,hty,fs,hfs,fd,hfd,hz,a,ha,p,rfl,h⟩:=h;cases h;obtain⟨g,hg,rfl⟩:=Cv (hT.facts hty) hfs;have h1:=hE _ _ ha;rw[vA]at h1;obtain⟨i,hi,hv⟩:=h1;rw[ybu]at hfd
 cases hgf:g.toList[f]? with
 | none=>simp_all
 | some fld=>
  rw[hgf]at hfd;simp at hfd;subst hfd;refine⟨.pointer (some ⟨i.b,p.2+fld.offset,none⟩),?_,by grind [vA]⟩;have h4:g[f]?=some fld:=by simp_all
  have h5:P.cellsOf fld.type≠0:=by
   grind [beqf]
  have h6:(sizeOf fld.type).run P w=.ok (P.cellsOf fld.type) w:=by
   unfold Program.cellsOf at h5 ⊢
   cases hinf:P.info? fld.type with
   | none=>simp_all
   | some inf=>simp[sizeOf,Bq hinf]
  simp_all [execOp,Instr.fieldAt,wF,Instr.sureAddr,fieldPlace,yW]
end
end Go.Am
namespace Go.Am
open Go
section
variable {P:Program}{C:dA}{B N:Nat}{μ:Mu}{H:wA}{w:World}
variable {e:aC}{ρ:Operand->Value}{dst:Option Tmp}{type:TypeId}{pos:String}{after:Array Edge}{guard:Option (Nat × Bool)}{v:zA}
theorem Az{k:IntKind}{n:Nat}(h:n<yH k):k.wrap (n:Int)=n:=by
 rw[<- vN];show(bif Nat.blt n (yH k)then Int.ofNat n else _)=_
 grind [pC]
def Wz(k:IntKind):∃m,yH k=2^m/\m<=k.bits:=by
 cases k
 ·exact⟨7,rfl,by decide⟩
 ·exact⟨15,rfl,by decide⟩
 ·exact⟨31,rfl,by decide⟩
 ·exact⟨63,rfl,by decide⟩
 ·exact⟨8,rfl,by decide⟩
 ·exact⟨16,rfl,by decide⟩
 ·exact⟨32,rfl,by decide⟩
 ·exact⟨64,rfl,by decide⟩
def tY{k:IntKind}{n:Nat}(h:n<yH k):(BitVec.ofInt k.bits (n:Int)).toNat=n:=by
 obtain⟨m,hm,hle⟩:=Wz k;rw[BitVec.toNat_ofInt];have:n<2^k.bits:=Nat.lt_of_lt_of_le (hm ▸ h) (yao (by omega) hle);rw[<- Int.natCast_emod,Int.toNat_natCast,Nat.mod_eq_of_lt this]
theorem Qa{f:Nat->Nat->Nat}{k:IntKind}{a b:Int}{v:zA}(h:cI f k a b=some v):∃x y:Nat,a=x/\b=y/\x<yH k/\y<yH k/\v=.int k (f x y:Nat):=by
 grind [cI,mA,Js,jB,pC]
theorem zaa{op:BinOp}{k:IntKind}{a b:Int}(h:(Zd op).f k a b=some v):op≠.shl/\op≠.shr/\∀t,∃v',(binOp op t (.int k a) (.int k b)).run P w=.ok v' w/\vA μ v v':=by
 cases op<;>simp only[Zd]at h
 case add=>cases h;simp_all [binOp,Op.intArith,vA,vN]
 case sub=>cases h;simp_all [binOp,Op.intArith,vA,vN]
 case mul=>cases h;simp_all [binOp,Op.intArith,vA,vN]
 case quo=>
  unfold oV at h;simp only[rD,nV]at h;split at h
  ·cases h
  ·rename_i hb;cases h
   simp_all [vA,vN,binOp,Op.intDiv]
 case rem=>
  unfold pV at h;simp only[rD,nV]at h;split at h
  ·cases h
  ·rename_i hb;cases h
   simp_all [vA,binOp,Op.intDiv]
 case and=>
  unfold iAnd at h;split at h
  ·obtain⟨x,y,rfl,rfl,hx,hy,rfl⟩:=Qa h;refine⟨by simp,by simp,fun t=>⟨.int k ((x &&& y:Nat):Int),?_,by rw[vA];rfl⟩⟩;have h1:x &&& y<yH k:=yam Nat.and_le_left hx;simp only[binOp,Op.intBits,BitVec.toNat_and,tY hx,tY hy,Az h1];simp
  ·simp only[mA,Js,jB,pC]at h;obtain⟨y,rfl,hy,h⟩:=h;cases h;have e:(BitVec.ofInt k.bits a).toNat=Int.toNat (Int.emod a (.ofNat (kW k))):=by
    rw[BitVec.toNat_ofInt];cases k<;>rfl
   generalize Int.toNat (Int.emod a (.ofNat (kW k)))=x at e ⊢;refine⟨by simp,by simp,fun t=>⟨.int k ((x &&& y:Nat):Int),?_,by rw[vA];rfl⟩⟩;have h1:x &&& y<yH k:=yam Nat.and_le_right hy;simp only[binOp,Op.intBits,BitVec.toNat_and,e,tY hy,Az h1];simp
 case or=>
  obtain⟨x,y,rfl,rfl,hx,hy,rfl⟩:=Qa h;obtain⟨m,hm,_⟩:=Wz k;refine⟨by simp,by simp,fun t=>⟨.int k ((x ||| y:Nat):Int),?_,by rw[vA];rfl⟩⟩;have h1:x ||| y<yH k:=by simp_all [Nat.or_lt_two_pow]
  simp only[binOp,Op.intBits,BitVec.toNat_or,tY hx,tY hy,Az h1];simp
 case xor=>
  obtain⟨x,y,rfl,rfl,hx,hy,rfl⟩:=Qa h;obtain⟨m,hm,_⟩:=Wz k;refine⟨by simp,by simp,fun t=>⟨.int k ((x ^^^ y:Nat):Int),?_,by rw[vA];rfl⟩⟩;have h1:x ^^^ y<yH k:=by simp_all [Nat.xor_lt_two_pow]
  simp only[binOp,Op.intBits,BitVec.toNat_xor,tY hx,tY hy,Az h1];simp
 case eql=>cases h;simp_all [binOp,Op.intCmp,vA,jX]
 case neq=>cases h;exact⟨by simp,by simp,fun t=>⟨.bool (a != b),by simp[binOp,Op.intCmp],by rw[vA,jX];rfl⟩⟩
 case lss=>cases h;simp_all [binOp,Op.intCmp,vA,zfj]
 case leq=>cases h;simp_all [binOp,Op.intCmp,vA,zfk]
 case gtr=>cases h;simp_all [binOp,Op.intCmp,vA,zfj]
 case geq=>cases h;simp_all [binOp,Op.intCmp,vA,zfk]
 all_goals cases h
theorem Gu(s:ByteArray):(iF s).length=s.size:=by simp[iF]
theorem ZB(a b:ByteArray):iF (a++b)=iF a++iF b:=by simp[iF]
theorem ZA(s:ByteArray)(i:Nat):(iF s)[i]?=(s[i]?).map UInt8.toNat:=by
 unfold iF;rw[ybu];congr 1;by_cases h:i<s.size
 all_goals simp_all [ByteArray.getElem_eq_getElem_data]
theorem MI(s:ByteArray)(l h:Nat):iF (s.extract l h)=((iF s).take h).drop l:=by
 unfold iF;rw[ByteArray.data_extract,Array.toList_extract,List.extract_eq_take_drop,<- List.map_take,<- List.map_drop,List.drop_take]
theorem MJ{a b:ByteArray}:(a.toList == b.toList)=(fC (iF a) (iF b)):=by
 grind [Lib.toList_data,aI,iF,Re]
theorem VE(a:List UInt8):∀b:List UInt8,Op.bytesLess a b=Wn (a.map UInt8.toNat) (b.map UInt8.toNat):=by
 induction a with
 | nil=>intro b;cases b<;>rfl
 | cons x a ih=>
  intro b
  cases b with
  | nil=>rfl
  | cons y b=>
   show _=(bif Nat.blt x.toNat y.toNat then true else bif Nat.beq x.toNat y.toNat then Wn (a.map UInt8.toNat) (b.map UInt8.toNat)else false)
   grind [Op.bytesLess,pC,UInt8.lt_iff_toNat_lt,UInt8.toNat_inj,oC]
theorem ZI{op:BinOp}{a b:ByteArray}(h:(Zb op).f (iF a) (iF b)=some v):op≠.shl/\op≠.shr/\∀t,∃v',(binOp op t (.string a) (.string b)).run P w=.ok v' w/\vA μ v v':=by
 cases op<;>simp only[Zb]at h
 case add=>
  simp only[zH,jB,pC,pD,wH,Gu]at h;obtain⟨h1,h⟩:=h;cases h;refine⟨by simp,by simp,fun t=>⟨.string (a++b),?_,by grind [vA,ZB]⟩⟩;have h2:¬ (((a.size+b.size:Nat):Int) > IntKind.i64.max):=by
   have:IntKind.i64.max=9223372036854775807:=by decide
   omega
  simp_all [binOp,Op.stringOp]
 case eql=>cases h;exact⟨by simp,by simp,fun t=>⟨.bool (a.toList == b.toList),rfl,by rw[vA,MJ]⟩⟩
 case neq=>cases h;exact⟨by simp,by simp,fun t=>⟨.bool !(a.toList == b.toList),rfl,by rw[vA,MJ]⟩⟩
 case lss=>cases h;exact⟨by simp,by simp,fun t=>⟨.bool (Op.bytesLess a.toList b.toList),rfl,by rw[vA,Lib.toList_data,Lib.toList_data,VE];rfl⟩⟩
 all_goals cases h
theorem Ky{op:BinOp}{t:TypeId}{x y:Operand}{a b:Value}(h1:¬ (a=.nilIface/\b=.nilIface)\/(Km x||Km y)=true)(h2:∀l m,¬ (a=.agg l/\b=.agg m)):(eqGuard op t x y a b).run P w=.ok () w:=by
 unfold eqGuard;cases op
 case eql | neq=>
  rw[yaa (by simp)];split
  ·rcases h1 with h1 | h1
   ·simp_all
   ·cases x<;>cases y<;>simp[Km]at h1 ⊢
  all_goals simp_all
 all_goals rfl
theorem XG{op:BinOp}{t:TypeId}{x y:Operand}{l m:Array Value}(h:P.eqGuardType P.depth t=false):(eqGuard op t x y (.agg l) (.agg m)).run P w=.ok () w:=by
 simp_all [eqGuard]
theorem Eo{op:BinOp}{t yt:TypeId}{x y:Operand}{v':Value}(h1:(eqGuard op t x y (ρ x) (ρ y)).run P w=.ok () w)(h2:(binOp op t (ρ x) (ρ y)).run P w=.ok v' w) :
  (execOp ρ ⟨dst,.binOp op t x y yt,type,pos,after,guard⟩).run P w=.ok (.value v') w:=by
 simp_all [execOp]
theorem CK{k:IntKind}{b:Int}{n:Nat}(h:Bo k b=some n):¬ b<0/\n=min b.toNat k.bits:=by
 grind [Bo,mA,Js]
theorem MN{op:BinOp}{t yt:TypeId}{x y:Operand}{a b:zA}(hx:vA μ a (ρ x))(hy:vA μ b (ρ y))
  (h:(op=.shl/\Lh zU a b=some v)\/(op=.shr/\Lh Cm a b=some v)):bH P μ w ρ ⟨dst,.binOp op t x y yt,type,pos,after,guard⟩ v:=by
 rcases h with⟨rfl,h⟩ | ⟨rfl,h⟩
 all_goals
  unfold Lh at h;simp only[mA,rU,Zf]at h;obtain⟨p,rfl,n,⟨k',rfl⟩,h⟩:=h;rw[vA]at hx hy
 ·unfold zU at h;rw[mA]at h;obtain⟨m,hm,h⟩:=h;cases h;obtain⟨h1,rfl⟩:=CK hm;refine⟨.int p.1 (p.1.wrap (p.2*2^(min n.toNat p.1.bits))),Eo (Ky (.inl (by grind)) (by grind)) ?_,by rw[vA,vN];simp⟩;rw[hx,hy];simp[binOp,Op.shift,h1]
 ·unfold Cm at h;rw[mA]at h;obtain⟨m,hm,h⟩:=h;cases h;obtain⟨h1,rfl⟩:=CK hm;refine⟨.int p.1 (p.2.fdiv (2^(min n.toNat p.1.bits))),Eo (Ky (.inl (by grind)) (by grind)) ?_,by rw[vA];simp⟩;rw[hx,hy];simp[binOp,Op.shift,h1]
theorem Kx{n m:Nat}{a b:zA}{r:Bool}(h:bZ n m a b=some r):(a.tag=n/\b.tag=n/\r=true)\/(a.tag=n/\b.tag=m/\r=false)\/(a.tag=m/\b.tag=n/\r=false):=by
 grind [bZ,oC,jB]
theorem XI{t:Nat}{ty:mC}(hF:zL P t ty){a b:zA}{va vb:Value}(ha:vA μ a va)(hb:vA μ b vb){r:Bool}{d:Nat}(h:Kz ty.desc a b=some r) :
  (Op.equalIn (d+1) t va vb).run P w=.ok r w:=by
 obtain⟨D,hD⟩:=hF.und;have h0:=hF.desc;unfold jN at h0;rw[hD]at h0;unfold Op.equalIn;rw[yad,wF hD,yac];rw[<- h0]at h;cases D<;>simp only[Kz]at h<;>try (cases h;done)
 case bool=>
  simp only[Gg,mA,Af]at h;obtain⟨x,rfl,y,rfl,h⟩:=h
  simp_all [vA,lR]
 case int k=>
  simp only[ziv,mA,rU,jB,sK]at h;obtain⟨x,rfl,y,rfl,hk,h⟩:=h
  simp_all [vA,jX]
 case string=>
  simp only[Yk,mA,sU]at h;obtain⟨x,rfl,y,rfl,h⟩:=h;cases h;rw[vA]at ha hb;obtain⟨s,rfl,rfl⟩:=ha;obtain⟨u,rfl,rfl⟩:=hb;have:(s == u)=fC (iF s) (iF u):=by
   rw[Bool.eq_iff_iff,aI];have h1:(s == u)=(s.data == u.data):=rfl
   grind [iF,Re]
  simp_all
 case pointer el=>
  rcases Kx h with⟨h1,h2,rfl⟩ | ⟨h1,h2,rfl⟩ | ⟨h1,h2,rfl⟩<;>cases a<;>simp[zA.tag]at h1<;>cases b<;>simp[zA.tag]at h2<;>rw[vA]at ha<;>rw[vA]at hb
  ·simp_all
  ·obtain⟨i,_,hb⟩:=hb;simp_all
  ·obtain⟨i,_,ha⟩:=ha;simp_all
 case slice el=>
  rcases Kx h with⟨h1,h2,rfl⟩ | ⟨h1,h2,rfl⟩ | ⟨h1,h2,rfl⟩<;>cases a<;>simp[zA.tag]at h1<;>cases b<;>simp[zA.tag]at h2<;>rw[vA]at ha<;>rw[vA]at hb
  ·simp_all
  ·rcases hb with⟨i,_,_,hb,_⟩ | ⟨_,_,_,_,_,hb,_⟩ <;> (simp_all)
  ·rcases ha with⟨i,_,_,ha,_⟩ | ⟨_,_,_,_,_,ha,_⟩ <;> (simp_all)
 case map k el=>
  rcases Kx h with⟨h1,h2,rfl⟩ | ⟨h1,h2,rfl⟩ | ⟨h1,h2,rfl⟩<;>cases a<;>simp[zA.tag]at h1<;>cases b<;>simp[zA.tag]at h2<;>rw[vA]at ha<;>rw[vA]at hb
  ·simp_all
  ·obtain⟨i,_,hb⟩:=hb;simp_all
  ·obtain⟨i,_,ha⟩:=ha;simp_all
 case func ps rs vd=>
  rcases Kx h with⟨h1,h2,rfl⟩ | ⟨h1,h2,rfl⟩ | ⟨h1,h2,rfl⟩<;>cases a<;>simp[zA.tag]at h1<;>cases b<;>simp[zA.tag]at h2<;>rw[vA]at ha<;>rw[vA]at hb
  ·simp_all
  ·obtain⟨i,_,_,hb,_⟩:=hb;simp_all
  ·obtain⟨i,_,_,ha,_⟩:=ha;simp_all
 case interface ms=>
  rcases Kx h with⟨h1,h2,rfl⟩ | ⟨h1,h2,rfl⟩ | ⟨h1,h2,rfl⟩<;>cases a<;>simp[zA.tag]at h1<;>cases b<;>simp[zA.tag]at h2<;>rw[vA]at ha<;>rw[vA]at hb
  ·simp_all
  ·obtain⟨i,hb,_⟩:=hb;simp_all
  ·obtain⟨i,ha,_⟩:=ha;simp_all
theorem KK{t:Nat}{g:Array Field}(h:P.underlying t=some (.struct g)):P.fieldsOf t=g:=by unfold Program.fieldsOf;rw[h]
theorem zdi(hT:qF P C){D:Nat}{eq:Nat->zA->zA->Option Bool}(heq:∀t a b va vb r,vA μ a va->vA μ b vb->eq t a b=some r->(Op.equalIn D t va vb).run P w=.ok r w)
  {xs ys : List zA} {vx vy : Array Value} (hx : lB μ xs vx.toList) (hy : lB μ ys vy.toList) : ∀ (g : List Field) (r : Bool), (∀ f ∈ g, f.name ≠ "_") -> Hc C eq xs ys (g.map fun f => (f.offset, f.type, P.cellsOf f.type)) = some r →
   (Op.eqFields D vx vy g).run P w=.ok r w:=by
 intro g;induction g with
 | nil=>intro r _ h;cases h;rfl
 | cons f g ih=>
  intro r hn h;rw[ycm,Hc]at h;simp only[mA]at h;obtain⟨a,ha,b,hb,q,hq,h⟩:=h;obtain⟨va,h1,h2⟩:=Jk (P:=P) (w:=w) hT hx ha;obtain⟨vb,h3,h4⟩:=Jk (P:=P) (w:=w) hT hy hb;have h5:=heq _ _ _ _ _ _ h2 h4 hq;rw[Op.eqFields,yab (hn f (by simp))];simp only[yad,h1,yac,h3,h5]
  cases q with
  | true=>grind
  | false=>simp_all
theorem zft(hT:qF P C):∀(d D t:Nat) (a b:zA) (va vb:Value) (r:Bool),d<=D->vA μ a va->vA μ b vb->aeq C d t a b=some r->(Op.equalIn D t va vb).run P w=.ok r w:=by
 intro d;induction d with
 | zero=>intro D t a b va vb r _ _ _ h;cases h
 | succ d ih=>
  intro D t a b va vb r hD ha hb h
  cases D with
  | zero=>omega
  | succ D=>
   rw[aeq,mA]at h;obtain⟨ty,hty,h⟩:=h;have hF:=hT.facts hty;split at h
   ·rename_i fs hfs;simp only[jB,mA,Gz]at h;obtain⟨hok,xs,rfl,ys,rfl,h⟩:=h;obtain⟨g,hg,rfl⟩:=Cv hF hfs;obtain⟨h1,_,h3⟩:=hF.eqOk hok
    grind [vA,KK,run_equalIn_struct,zdi]
   grind [XI]
theorem zje(hT:qF P C){d t:Nat}{a b:zA}{l m:Array Value}{r:Bool}(ha:vA μ a (.agg l))(hb:vA μ b (.agg m))(h:aeq C d t a b=some r):P.eqGuardType P.depth t=false:=by
 cases d with
 | zero=>cases h
 | succ d=>
  rw[aeq,mA]at h;obtain⟨ty,hty,h⟩:=h;split at h
  ·rw[jB]at h;exact((hT.facts hty).eqOk h.1).2.1
  ·exfalso;have hag:∀(a:zA) (l:Array Value),vA μ a (.agg l)->a.tag=13:=by
    intro a l ha;cases a<;>rw[vA]at ha<;>first | rfl | (exfalso;revert ha;simp)
   have h1:=hag _ _ ha;have h2:=hag _ _ hb;cases a<;>simp[zA.tag]at h1;cases b<;>simp[zA.tag]at h2;revert h;cases ty.desc<;>simp[Kz,Gg,zA.asBool,ziv,zA.asIntK,Yk,zA.asStr,bZ,Qp,zA.tag,pB,Nat.beq]
def AS{a:zA}{v:Value}(h:vA μ a v):v=.nilIface->a.tag=12:=by
 intro hv;subst hv;cases a<;>rw[vA]at h<;>first | rfl | (exfalso;revert h;simp)
theorem MP(hT:qF P C){op:BinOp}{t yt:TypeId}{x y:Operand}{a b:zA}{neg:Bool}(hx:vA μ a (ρ x))(hy:vA μ b (ρ y))(ha:a.asIntK=none)(hs:a.asStr=none)
  (hop:(neg=false/\op=.eql)\/(neg=true/\op=.neq)) (h:Rk neg C t x y a b=some v):bH P μ w ρ ⟨dst,.binOp op t x y yt,type,pos,after,guard⟩ v:=by
 unfold Rk at h;simp only[jB,mA]at h;obtain⟨hg,r,hr,h⟩:=h;cases h;have h1:(Op.equal t (ρ x) (ρ y)).run P w=.ok r w:=zft hT 20 10000 t a b _ _ r (by decide) hx hy hr;have hG:(eqGuard op t x y (ρ x) (ρ y)).run P w=.ok () w:=by
  by_cases hag:∃l m,ρ x=.agg l/\ρ y=.agg m
  ·grind [XG,zje]
  ·refine Ky ?_ fun l m hlm=>hag ⟨l,m,hlm⟩;by_cases hn:ρ x=.nilIface/\ρ y=.nilIface
   ·right
    have h2:=AS hx hn.1;have h3:=AS hy hn.2
    simp_all [KU]
   simp_all
 have hnx:∀k n,ρ x≠.int k n:=by
  intro k n hv;rw[hv]at hx;cases a<;>rw[vA]at hx<;>first | (simp[zA.asIntK]at ha;done) | (revert hx;simp)
 have hsx:∀s,ρ x≠.string s:=by
  intro s hv;rw[hv]at hx;cases a<;>rw[vA]at hx<;>first | (simp[zA.asStr]at hs;done) | (revert hx;simp)
 have hfx:∀k n,ρ x≠.float k n:=by
  intro k n hv;rw[hv]at hx;cases a<;>rw[vA]at hx<;>revert hx<;>simp
 have hcx:∀k n m,ρ x≠.complex k n m:=by
  intro k n m hv;rw[hv]at hx;cases a<;>rw[vA]at hx<;>revert hx<;>simp
 rcases hop with⟨rfl,rfl⟩ | ⟨rfl,rfl⟩
 ·refine⟨.bool r,Eo hG ?_,by rw[vA];rfl⟩;revert h1 hnx hsx hfx hcx;generalize ρ x=vx;generalize ρ y=vy;intro h1 hnx hsx hfx hcx;cases vx<;>first
   | exact absurd rfl (hnx _ _)
   | exact absurd rfl (hsx _)
   | exact absurd rfl (hfx _ _)
   | exact absurd rfl (hcx _ _ _)
   | simp[binOp,h1]
 ·refine⟨.bool (!r),Eo hG ?_,by rw[vA];rfl⟩;revert h1 hnx hsx hfx hcx;generalize ρ x=vx;generalize ρ y=vy;intro h1 hnx hsx hfx hcx;cases vx<;>first
   | exact absurd rfl (hnx _ _)
   | exact absurd rfl (hsx _)
   | exact absurd rfl (hfx _ _)
   | exact absurd rfl (hcx _ _ _)
   | simp[binOp,h1]
theorem HZ(hT:qF P C)(hE:kF μ e ρ){op:BinOp}{t yt:Nat}{x y:Operand}(h:dT op t x y C e H=some v):bH P μ w ρ ⟨dst,.binOp op t x y yt,type,pos,after,guard⟩ v:=by
 unfold dT at h;simp only[mA]at h;obtain⟨a,ha,b,hb,h⟩:=h;have hx:=hE _ _ ha;have hy:=hE _ _ hb;clear ha hb;revert h;have plain:∀op,op≠.shl->op≠.shr->Zc op C t x y a b=some v->bH P μ w ρ ⟨dst,.binOp op t x y yt,type,pos,after,guard⟩ v:=by
  intro op _ _ h;unfold Zc at h;split at h
  ·rename_i i hi;simp only[mA,rU,jB,sK]at h;obtain⟨j,rfl,hk,h⟩:=h;rw[rU]at hi;subst hi;rw[vA]at hx;rw[vA]at hy;obtain⟨_,_,h2⟩:=zaa (P:=P) (μ:=μ) (w:=w) h;obtain⟨v',h3,h4⟩:=h2 t;refine⟨v',Eo (Ky (.inl (by grind)) (by grind)) ?_,h4⟩
   simp_all
  ·rename_i hi;split at h
   ·rename_i s hs;simp only[mA,sU]at h;obtain⟨u,rfl,h⟩:=h;rw[sU]at hs;subst hs;rw[vA]at hx;rw[vA]at hy;obtain⟨sx,hx,rfl⟩:=hx;obtain⟨sy,hy,rfl⟩:=hy;obtain⟨_,_,h2⟩:=ZI (P:=P) (μ:=μ) (w:=w) h;obtain⟨v',h3,h4⟩:=h2 t;refine⟨v',Eo (Ky (.inl (by grind)) (by grind)) ?_,h4⟩
    simp_all
   ·rename_i hs;cases op<;>simp only[MO]at h<;>first
     | exact MP hT hx hy hi hs (.inl ⟨rfl,rfl⟩) h
     | exact MP hT hx hy hi hs (.inr ⟨rfl,rfl⟩) h
     | (cases h;done)
 intro h;cases op<;>simp only[zN]at h<;>first
  | exact MN hx hy (.inl ⟨rfl,h⟩)
  | exact MN hx hy (.inr ⟨rfl,h⟩)
  | exact plain _ (by simp) (by simp) h
theorem Wy{k:IntKind}(h:kLo k=0):yH k=2^k.bits:=by
 cases k<;>first
  | (cases h;done)
  | rfl
theorem zeh(hE:kF μ e ρ){op:UnOp}{t:Nat}{x:Operand}(h:lUn op x C e H=some v):bH P μ w ρ ⟨dst,.unOp op t x,type,pos,after,guard⟩ v:=by
 unfold lUn at h;simp only[mA]at h;obtain⟨a,ha,h⟩:=h;have hx:=hE _ _ ha;cases op<;>simp only[unA]at h<;>try (cases h;done)
 case neg=>
  simp only[unNeg,mA,rU]at h;obtain⟨p,rfl,h⟩:=h;cases h;rw[vA]at hx;refine⟨.int p.1 (p.1.wrap (0-p.2)),?_,by rw[vA,vN]⟩;simp[execOp,hx,Op.unary,Op.intArith]
 case xor=>
  simp only[Bg,mA,rU,jB,oC]at h;obtain⟨p,rfl,hk,h⟩:=h;obtain⟨a,b,ha1,hb,hx1,hy,rfl⟩:=Qa h;rw[vA]at hx;have h1:Nat.xor a b<yH p.1:=by
   have:Nat.xor a b<2^p.1.bits:=Nat.xor_lt_two_pow (by grind [Wy]) (by grind [Wy])
   grind [Wy]
  refine⟨.int p.1 (Nat.xor a b:Nat),?_,by rw[vA]⟩;have hm:(if p.1.signed then(-1:Int)else p.1.max)=(a:Int):=by
   rw[<- ha1];revert hk;cases p.1<;>intro hk<;>first
    | (cases hk;done)
    | rfl
  have e2:(Op.intBits .xor p.1 (if p.1.signed then -1 else p.1.max) p.2).run P w=.ok (.int p.1 (Nat.xor a b:Nat)) w:=by
   rw[hm,hb];simp only[Op.intBits,BitVec.toNat_xor,tY hx1,tY hy];rw[show(a ^^^ b:Nat)=Nat.xor a b from rfl,Az h1];rfl
  simp_all [execOp,Op.unary]
 case not=>
  simp only[unNot,mA,Af]at h;obtain⟨b,rfl,h⟩:=h;cases h;rw[vA]at hx;refine⟨.bool (!b),?_,by rw[vA]⟩;simp[execOp,hx,Op.unary]
end
end Go.Am
