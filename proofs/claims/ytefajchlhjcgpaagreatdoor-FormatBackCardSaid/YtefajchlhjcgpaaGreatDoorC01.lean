/- -/
import Derived.Below
import Derived.Calls
import Derived.Laws.Cells
import Derived.Laws.Sem
import Derived.Laws.StructEq
import Derived.Laws.World
import Derived.Lib.Strings
set_option linter.all false
noncomputable section
namespace Go.Am
def A3 := @if_neg
def A5 := @if_pos
def C1 := @Result.andThen_ok
def C0 := @Sem.run_bind
def E0 := @Sem.run_pure
def F5 := @List.mem_append
def K1 := @Nat.pow_succ
def E8 := @List.nil_append
def Z3 := @Option.bind_some
def yaj := @Array.getElem?_append_left
def yak := @List.drop_eq_nil_iff
def Z4 := @Bool.or_eq_false_iff
def P5 := @Nat.lt_of_le_of_lt
def T4 := @Nat.le_mul_of_pos_left
def O8 := @Nat.pow_le_pow_right
def T5 := @Nat.add_comm
def G6 := @List.mem_map
def Z5 := @Option.map_eq_some_iff
def Z6 := @List.flatten_cons
def se := @Nat.mul_zero
def P6 := @Nat.lt_or_ge
def Z7 := @Nat.eq_zero_or_pos
def H4 := @Nat.zero_le
def mr := @Array.toList_inj
def E5 := @Bool.and_false
def If := @List.getElem?_cons_zero
def In := @List.getElem?_cons_succ
def B2 := @Bool.and_eq_true
def F6 := @List.getElem?_eq_some_iff
def C6 := @List.getElem?_eq_getElem
def G3 := @Array.getElem?_eq_some_iff
def C4 := @List.length_map
def E1 := @List.length_append
def E7 := @Nat.mul_comm
def D3 := @Nat.mul_le_mul_right
def E9 := @Nat.mul_assoc
def B3 := @Nat.le_refl
def G0 := @List.drop_eq_getElem_cons
def K3 := @Nat.mul_add
def Do := @List.length_cons
def D5 := @Nat.add_mul
def T6 := @List.getElem?_append_right
def F0 := @Bool.false_eq_true
def C7 := @List.mem_cons_of_mem
def C3 := @List.mem_cons
def E3 := @List.drop_eq_nil_of_le
def F7 := @List.getElem?_map
def F1 := @Nat.mul_le_mul_left
def D8 := @Nat.zero_add
def G1 := @List.length_nil
def C5 := @List.mem_cons_self
def D4 := @List.append_assoc
def L0 := @List.take_of_length_le
def C9 := @List.all_eq_true
def ma := @List.length_eq_zero_iff
def C8 := @List.append_nil
def yce := @Nat.dvd_mul_left_of_dvd
def D9 := @List.mem_append_right
def Z8 := @List.all_cons
def P7 := @Nat.div_add_mod
def D6 := @Option.some.inj
def F2 := @List.getElem_mem
def sf := @List.all_nil
def K4 := @Bool.not_false
def G4 := @List.map_cons
def F3 := @Bool.true_and
def mu := @List.getElem?_append_left
def F4 := @Bool.not_eq_true'
def G7 := @Bool.or_eq_true
def G8 := @List.drop_zero
def mw := @Array.getElem?_setIfInBounds
def L1 := @Nat.add_zero
def P8 := @Nat.div_lt_of_lt_mul
def O9 := @List.mem_of_getElem?
def ycw := @List.getElem?_set
def my := @Array.getD_eq_getD_getElem?
def G2 := @Nat.mod_lt
def P0 := @Array.length_toList
def mz := @List.length_take
def G5 := @Nat.mul_le_mul
def L2 := @List.mem_append_left
def ydd := @List.mem_singleton
def mb := @List.getElem?_drop
def uo := @List.getElem?_take
def ydg := @List.take_add_one
def ydh := @List.length_set
def uq := @List.all_append
def m5 := @List.length_drop
end Go.Am
namespace Go.Am
inductive G (α:Type) where
 | aj
 | ak (l:G α) (v:Option α) (r:G α)
def ob {b a:Type}(x:Option b)(f:b->Option a):Option a:=Option.rec (motive:=λ_=>Option a) none f x
namespace G
variable {a:Type}
def c (t:G a):Nat->Option a:=
 G.rec (motive:=λ_=>Nat->Option a) (λ_=>none)
  (λ_ v _ b d n=>Bool.rec (motive:=λ_=>Option a) (Bool.rec (motive:=λ_=>Option a) (d (Nat.pred (Nat.div n (nat_lit 2)))) (b (Nat.div n (nat_lit 2))) (Nat.beq (Nat.mod n (nat_lit 2)) (nat_lit 1))) v (Nat.beq n (nat_lit 0))) t
def mk (f:Nat):Nat->a->G a:=
 Nat.rec (motive:=λ_=>Nat->a->G a) (λ_ _=>aj)
  (λ_ g n v=>Bool.rec (motive:=λ_=>G a) (Bool.rec (motive:=λ_=>G a) (ak aj none (g (Nat.pred (Nat.div n (nat_lit 2))) v)) (ak (g (Nat.div n (nat_lit 2)) v) none aj) (Nat.beq (Nat.mod n (nat_lit 2)) (nat_lit 1))) (ak aj (some v) aj) (Nat.beq n (nat_lit 0))) f
def d (t:G a):Nat->a->G a:=
 G.rec (motive:=λ_=>Nat->a->G a) (λn v=>mk (Nat.succ n) n v)
  (λl x r b c n v=>Bool.rec (motive:=λ_=>G a) (Bool.rec (motive:=λ_=>G a) (ak l x (c (Nat.pred (Nat.div n (nat_lit 2))) v)) (ak (b (Nat.div n (nat_lit 2)) v) x r) (Nat.beq (Nat.mod n (nat_lit 2)) (nat_lit 1))) (ak l (some v) r) (Nat.beq n (nat_lit 0))) t
def q (t:G a):Nat->G a:=
 G.rec (motive:=λ_=>Nat->G a) (λ_=>aj)
  (λl x r b c n=>Bool.rec (motive:=λ_=>G a) (Bool.rec (motive:=λ_=>G a) (ak l x (c (Nat.pred (Nat.div n (nat_lit 2))))) (ak (b (Nat.div n (nat_lit 2))) x r) (Nat.beq (Nat.mod n (nat_lit 2)) (nat_lit 1))) (ak l none r) (Nat.beq n (nat_lit 0))) t
def u (t:G a)(n:Nat):Nat->Option (List a):=
 Nat.rec (motive:=λ_=>Nat->Option (List a)) (λ_=>some [])
  (λ_ g i=>ob (t.c i) λv=>ob (g (i+1)) λl=>some (v::l)) n
def am(l:List a):G a->Nat->G a:=
 List.rec (motive:=λ_=>G a->Nat->G a) (λt _=>t) (λv _ g t i=>g (t.d i v) (i+1)) l
def ac(l:List a):G a:=am l aj 0
end G
def lD {b:Type}(l:List b):Nat->Option b:=
 List.rec (motive:=λ_=>Nat->Option b) (λ_=>none) (λa _ g n=>Bool.rec (motive:=λ_=>Option b) (g (Nat.pred n)) (some a) (Nat.beq n (nat_lit 0))) l
def lT{b:Type}(l:List b):Nat->List b:=
 List.rec (motive:=λ_=>Nat->List b) (λ_=>[]) (λa l g n=>bif Nat.beq n 0 then a::l else g (n-1)) l
def Ef{b:Type}(l:List b):Nat->List b:=
 List.rec (motive:=λ_=>Nat->List b) (λ_=>[]) (λa _ g n=>bif Nat.beq n 0 then []else a::g (n-1)) l
def wB {a:Type}(l:List a):Nat:=List.rec (motive:=λ_=>Nat) 0 (λ_ _ n=>n+1) l
def tE {b:Type}(l m:List b):List b:=List.rec (motive:=λ_=>List b) m (λa _ g=>a::g) l
def oD {b:Type}(p:b->Bool)(l:List b):Bool:=List.rec (motive:=λ_=>Bool) true (λa _ g=>bif p a then g else false) l
def kH{d c:Type}(f:d->Option c)(l:List d):Option (List c):=
 List.rec (motive:=λ_=>Option (List c)) (some []) (λa _ g=>ob (f a) λb=>ob g λr=>some (b::r)) l
def sF(a:List Nat):List Nat->Bool:=
 List.rec (motive:=λ_=>List Nat->Bool) (λb=>b.isEmpty) (λx _ g b=>List.rec (motive:=λ_=>Bool) false (λy b _=>bif Nat.beq x y then g b else false) b) a
def fh:IntKind->Nat
 | .i8=>0 | .i16=>1 | .i32=>2 | .i64=>3 | .u8=>4 | .u16=>5 | .u32=>6 | .u64=>7
def oP (a b:IntKind):Bool:=Nat.beq (fh a) (fh b)
def K5:Bool->Bool->Bool
 | true,b=>b
 | false,b => !b
def kB:Int->Int->Bool
 | .ofNat a,.ofNat b=>Nat.beq a b
 | .negSucc a,.negSucc b=>Nat.beq a b
 | _,_=>false
def sE:Int->Int->Bool
 | .ofNat a,.ofNat b=>Nat.ble a b
 | .ofNat _,.negSucc _=>false
 | .negSucc _,.ofNat _=>true
 | .negSucc a,.negSucc b=>Nat.ble b a
def bB:Int->Int->Bool
 | .ofNat a,.ofNat b=>Nat.blt a b
 | .ofNat _,.negSucc _=>false
 | .negSucc _,.ofNat _=>true
 | .negSucc a,.negSucc b=>Nat.blt b a
def aH:IntKind->Nat
 | .i8=>128 | .i16=>32768 | .i32=>2147483648 | .i64=>9223372036854775808 | .u8=>256 | .u16=>65536 | .u32=>4294967296 | .u64=>18446744073709551616
def Z9:IntKind->Nat
 | .i8=>128 | .i16=>32768 | .i32=>2147483648 | .i64=>9223372036854775808 | _=>0
def cA(k:IntKind):Int->Int
 | .ofNat n=>bif Nat.blt n (aH k)then .ofNat n else k.wrap (.ofNat n)
 | .negSucc n=>bif Nat.blt n (Z9 k)then .negSucc n else k.wrap (.negSucc n)
inductive K6 where
 | aa (f:Nat)
 | ac (l:Nat)
inductive O where
 | d (b:Bool)
 | e (k:IntKind) (n:Int)
 | h (l:List Nat)
 | y
 | j (b off:Nat)
 | g
 | m (b off len cap:Nat)
 | ax
 | bc (b:Nat)
 | q (fn:K6) (first captured:List O)
 | ap
 | aw (t:Nat) (v:O)
 | x
 | i (l:List O)
 | p (l:List O)
structure Tm where
 k:Nat
 v:G O
 t:List (Nat × O)
def V0(i:Nat)(l:List (Nat × O)):Option O:=
 List.rec (motive:=λ_=>Option O) none (λa _ g=>Bool.rec (motive:=λ_=>Option O) g (some a.2) (Nat.beq i a.1)) l
def Tm.a(t:Tm)(i:Nat):Option O:=Bool.rec (motive:=λ_=>Option O) (V0 i t.t) (t.v.c i) (Nat.blt i t.k)
def Tm.c(t:Tm)(i:Nat)(x:O):Tm:=Bool.rec (motive:=λ_=>Tm) ⟨t.k,t.v,(i,x)::t.t⟩ ⟨t.k,t.v.d i x,t.t⟩ (Nat.blt i t.k)
def Tm.b(t:Tm):Tm:=⟨t.k,t.v,[]⟩
structure kI where
 b:Option K6
 r:Nat
 a:List O
structure iO where
 e:LoopState
 a:Option Code
 g:Nat
 n:Nat
 h:Tm
 b:List Nat
 c:Code
 f:Code
 d:Nat
inductive Lo where
 | b (n:Nat)
 | a (t:Nat)
def Lo.c:Lo->Nat | .b n=>n | .a _=>1
def M2:Lo->Lo->Bool
 | .b a,.b b=>Nat.beq a b
 | .a a,.a b=>Nat.beq a b
 | _,_=>false
inductive vA where
 | aa (c:G O) (n:Nat) (loose:Option Lo)
 | aj (l:List (O × O))
 | ac (l:iO)
 | ah (l:Option (List kI))
 | ak (s:List Nat) (pos:Nat)
structure sA where
 a:Nat
 t:G vA
inductive lE where
 | r | m (k:IntKind) | j
 | v (e:Nat) | i (e:Nat) | q (n e:Nat) | w (k e:Nat)
 | f (fs:List (Nat × Nat × Nat))
 | u | s | t
structure jD where
 a:lE
 b:Nat
 d:Nat
 c:List O
 e:Bool
structure eH where
 a:Nat
 b:List Nat
 c:List Nat
structure M3 where
 c:List Nat
 a:List eH
 b:List (Nat × List Nat)
structure fA where
 d:G Func
 g:G Nat
 b:G jD
 e:G (G M3)
 c:G (List O->sA->Option (O × sA))
 a:Nat
 f:Nat
inductive aE where
 | a (c:Code)
 | f (id:Nat)
 | i (c:Code)
 | k (c:Code)
 | h (all:Array Oper) (rest:List Oper)
 | d (all:Array Oper) (old:Tm) (olds:List (Nat × List Nat)) (stages:List eH)
 | e (l:Nat)
 | g (l:Nat)
 | b
structure Iw where
 v:O
 a:Bool
inductive sZ where
 | ah | aa
 | ac (chain:List Iw)
structure qL where
 e:Nat
 n:Nat
 d:List kI
 a:sZ
 b:Bool
 c:Option Nat
structure pC where
 a:List aE
 b:Tm
 R:qL
structure kU where
 b:pC
 a:List pC
 H:sA
inductive fG where
 | aa (s:kU)
 | ah (v:O) (H:sA)
 | ac (why:Nat)
def O.r:O->Option Bool | .d b=>some b | _=>none
def O.ba:O->Option Int | .e _ n=>some n | _=>none
def O.ac:O->Option (IntKind × Int) | .e k n=>some (k,n) | _=>none
def O.w:O->Option (List Nat) | .h l=>some l | _=>none
def O.ah:O->Option (Nat × Nat) | .j b o=>some (b,o) | _=>none
def O.u:O->Option (Nat × Nat × Nat × Nat) | .m b o l c=>some (b,o,l,c) | _=>none
def O.az:O->Option Nat | .bc b=>some b | _=>none
def O.ak:O->Option (List O) | .i l=>some l | _=>none
def O.ay:O->Option (List O) | .p l=>some l | _=>none
def O.am:O->Option (K6 × List O × List O) | .q f a b=>some (f,a,b) | _=>none
def O.au:O->Option (Nat × O) | .aw t v=>some (t,v) | _=>none
def O.aa:O->Nat
 | .d _=>0 | .e _ _=>1 | .h _=>2 | .y=>3 | .j _ _=>4 | .g=>5 | .m _ _ _ _=>6 | .ax=>7 | .bc _=>8
 | .q _ _ _=>9 | .ap=>10 | .aw _ _=>11 | .x=>12 | .i _=>13 | .p _=>14
def wO:Int->Option Nat | .ofNat n=>some n | .negSucc _=>none
def O.aj(v:O):Option Nat:=ob v.ba wO
def O.s(v:O):List O:=
 match v.ak with
 | some l=>l
 | none=>[v]
def O.z(v:O):Bool:=Nat.blt v.aa 13
def lE.o:lE->Option IntKind | .m k=>some k | _=>none
def lE.a:lE->Option Nat | .i e=>some e | _=>none
def lE.g:lE->Option (Nat × Nat) | .q n e=>some (n,e) | _=>none
def lE.p:lE->Option (Nat × Nat) | .w k e=>some (k,e) | _=>none
def lE.b:lE->Option (List (Nat × Nat × Nat)) | .f fs=>some fs | _=>none
def lE.l:lE->Nat
 | .r=>0 | .m _=>1 | .j=>2 | .v _=>3 | .i _=>4 | .q _ _=>5 | .w _ _=>6 | .f _=>7 | .u=>8 | .s=>9 | .t=>10
def lE.h(d:lE):Bool:=bif Nat.beq d.l 5 then true else Nat.beq d.l 7
def lE.c(d:lE):Bool:=Nat.beq d.l 2
def vA.a:vA->Option (G O × Nat × Option Lo) | .aa c n l=>some (c,n,l) | _=>none
def vA.e:vA->Option (List (O × O)) | .aj l=>some l | _=>none
def vA.d:vA->Option iO | .ac l=>some l | _=>none
def vA.b:vA->Option (Option (List kI)) | .ah l=>some l | _=>none
def vA.f:vA->Option (List Nat × Nat) | .ak s p=>some (s,p) | _=>none
def tB{a:Type}(b:Bool)(x:Option a):Option a:=Bool.rec (motive:=λ_=>Option a) none x b
def aD:O:=.p []
def sG(s:ByteArray):List Nat:=s.data.toList.map UInt8.toNat
def Km:Value->Option O
 | .bool b=>some (.d b)
 | .int k n=>some (.e k n)
 | .string s=>some (.h (sG s))
 | .pointer none=>some .y
 | .slice none 0 0=>some .g
 | .map none=>some .ax
 | .nilFunc=>some .ap
 | .nilIface=>some .x
 | _=>none
def zrq:Value->Option (Array Value)
 | .agg a=>some a
 | _=>none
def DD(v:Value):Option O:=
 match zrq v with
 | some a=>ob (kH Km a.toList) λl=>some (.i l)
 | none=>Km v
inductive mD where
 | b (tm:Tm)
 | c (tm old:Tm) (olds names:List Nat)
def yJ(i:Nat)(l:List Nat):Bool:=List.rec (motive:=λ_=>Bool) false (λj _ g=>bif Nat.beq i j then true else g) l
def Bk (t:Nat)(e:mD):Option O:=
 match e with
 | .b d=>d.a t
 | .c d c b a=>bif yJ t a then Tm.a (bif yJ t b then c else d) t else none
def ig(v:Value)(_:mD):Option O:=DD v
def AG(g:Nat)(_:mD):Option O:=bif Nat.blt g 256 then some (.j g 0)else none
def V1(f:Nat)(_:mD):Option O:=some (.q (.aa f) [] [])
structure EB where f:mD->Option O
def evB:Operand->EB
 | .tmp t=>⟨Bk t⟩
 | .const v=>⟨ig v⟩
 | .global g=>⟨AG g⟩
 | .func f=>⟨V1 f⟩
def ev (x:Operand)(e:mD):Option O:=(evB x).f e
def lQ (l:List Operand)(e:mD):Option (List O):=kH (λx=>ev x e) l
def I0 (x:Option Operand)(e:mD):Option (Option O):=
 match x with
 | none=>some none
 | some x=>ob (ev x e) λv=>some (some v)
def I1 (l:List (Nat × Operand))(e:mD):Option (List (Nat × O)):=kH (λx=>ob (ev x.2 e) λv=>some (x.1,v)) l
def fD(H:sA)(b:Nat):Option (G O × Nat × Option Lo):=ob (H.t.c b) vA.a
def zN(H:sA)(b:Nat):Option (List (O × O)):=ob (H.t.c b) vA.e
def qV(ty:jD)(c:G O)(off:Nat):Option O:=
 bif ty.a.h then ob (c.u ty.b off) λl=>some (.i l)else c.c off
def wT(C:fA)(t:Nat)(l:List O)(off:Nat):Option O:=
 ob (C.b.c t) λa=>bif a.a.h then some (.i (Ef (lT l off) a.b))else lD l off
def Bi(ty:jD):O:=
 bif ty.a.h then .i ty.c else match ty.c with
  | v::_=>v
  | []=>aD
def DU(a:List Nat):List Nat->Bool:=
 List.rec (motive:=λ_=>List Nat->Bool) (λb => !b.isEmpty)
  (λx _ g b=>List.rec (motive:=λ_=>Bool) false (λy b _=>bif Nat.blt x y then true else bif Nat.beq x y then g b else false) b) a
def Oj(a b:O):Option Bool:=ob a.r λx=>ob b.r λy=>some (K5 x y)
def uu(a b:O):Option Bool:=ob a.ac λx=>ob b.ac λy=>tB (oP x.1 y.1) (some (kB x.2 y.2))
def FO(a b:O):Option Bool:=ob a.w λx=>ob b.w λy=>some (sF x y)
def Ic(n m:Nat)(a b:O):Option Bool:=
 bif Nat.beq a.aa n then(bif Nat.beq b.aa n then some true else tB (Nat.beq b.aa m) (some false))
 else tB (Nat.beq a.aa m&&Nat.beq b.aa n) (some false)
def Yr(_ _:O):Option Bool:=none
def To:lE->O->O->Option Bool
 | .r=>Oj
 | .m _=>uu
 | .j=>FO
 | .v _=>Ic 3 4
 | .s=>Ic 12 11
 | .i _=>Ic 5 6
 | .w _ _=>Ic 7 8
 | .u=>Ic 10 9
 | .q _ _=>Yr
 | .f _=>Yr
 | .t=>Yr
def Pi(C:fA)(c:Nat->O->O->Option Bool)(d e:List O):List (Nat × Nat × Nat)->Option Bool
 | []=>some true
 | f::g=>ob (wT C f.2.1 d f.1) λa=>ob (wT C f.2.1 e f.1) λb=>ob (c f.2.1 a b) λr=>bif r then Pi C c d e g else some false
def P1 (C:fA):Nat->Nat->O->O->Option Bool
 | 0,_,_,_=>none
 | d+1,t,x,y=>ob (C.b.c t) λa=>
  match a.a.b with
  | some b=>tB a.e (ob x.ak λc=>ob y.ak λe=>Pi C (P1 C d) c e b)
  | none=>To a.a x y
def iAdd (k:IntKind)(a b:Int):Option O:=some (.e k (cA k (a+b)))
def iSub (k:IntKind)(a b:Int):Option O:=some (.e k (cA k (a-b)))
def iMul (k:IntKind)(a b:Int):Option O:=some (.e k (cA k (a*b)))
def Eo (k:IntKind)(a b:Int):Option O:=bif kB b 0 then none else some (.e k (cA k (a.tdiv b)))
def En (k:IntKind)(a b:Int):Option O:=bif kB b 0 then none else some (.e k (a.tmod b))
def jJ(f:Nat->Nat->Nat)(k:IntKind)(a b:Int):Option O:=ob (wO a) λx=>ob (wO b) λy=>tB (Nat.blt x (aH k)&&Nat.blt y (aH k)) (some (.e k (.ofNat (f x y))))
def kW:IntKind->Nat
 | .i8=>256 | .u8=>256 | .i16=>65536 | .u16=>65536 | .i32=>4294967296 | .u32=>4294967296 | .i64=>18446744073709551616 | .u64=>18446744073709551616
def M4 (k:IntKind)(a b:Int):Option O:=
 match wO a with
 | some _=>jJ Nat.land k a b
 | none=>ob (wO b) λy=>tB (Nat.blt y (aH k)) (some (.e k (.ofNat (Nat.land (Int.toNat (Int.emod a (.ofNat (kW k)))) y))))
def iEql (_:IntKind)(a b:Int):Option O:=some (.d (kB a b))
def iNeq (_:IntKind)(a b:Int):Option O:=some (.d (!kB a b))
def iLss (_:IntKind)(a b:Int):Option O:=some (.d (bB a b))
def iLeq (_:IntKind)(a b:Int):Option O:=some (.d (sE a b))
def iGtr (_:IntKind)(a b:Int):Option O:=some (.d (bB b a))
def iGeq (_:IntKind)(a b:Int):Option O:=some (.d (sE b a))
def oz(_:IntKind)(_ _:Int):Option O:=none
structure IB where f:IntKind->Int->Int->Option O
def uv:BinOp->IB
 | .add=>⟨iAdd⟩ | .sub=>⟨iSub⟩ | .mul=>⟨iMul⟩ | .quo=>⟨Eo⟩ | .rem=>⟨En⟩
 | .and=>⟨M4⟩ | .or=>⟨jJ Nat.lor⟩ | .xor=>⟨jJ Nat.xor⟩
 | .eql=>⟨iEql⟩ | .neq=>⟨iNeq⟩ | .lss=>⟨iLss⟩ | .leq=>⟨iLeq⟩ | .gtr=>⟨iGtr⟩ | .geq=>⟨iGeq⟩
 | _=>⟨oz⟩
def lG (a b:List Nat):Option O:=tB (Nat.blt (wB a+wB b) 4611686018427387904) (some (.h (tE a b)))
def sEql (a b:List Nat):Option O:=some (.d (sF a b))
def sNeq (a b:List Nat):Option O:=some (.d (!sF a b))
def sLss (a b:List Nat):Option O:=some (.d (DU a b))
def o9(_ _:List Nat):Option O:=none
structure SB where f:List Nat->List Nat->Option O
def uw:BinOp->SB
 | .add=>⟨lG⟩ | .eql=>⟨sEql⟩ | .neq=>⟨sNeq⟩ | .lss=>⟨sLss⟩
 | _=>⟨o9⟩
def Tb:Operand->Bool
 | .const _=>true
 | _=>false
def Jz(k:IntKind)(b:Int):Option Nat:=ob (wO b) λn=>some (min n k.bits)
def Al (k:IntKind)(a b:Int):Option O:=ob (Jz k b) λn=>some (.e k (cA k (a*.ofNat (2^n))))
def dw (k:IntKind)(a b:Int):Option O:=ob (Jz k b) λn=>some (.e k (a.fdiv (.ofNat (2^n))))
def Uj(f:IntKind->Int->Int->Option O)(a b:O):Option O:=ob a.ac λx=>ob b.ba λy=>f x.1 x.2 y
def QS(x y:Operand)(a b:O):Bool:=
 bif Nat.beq a.aa 12&&Nat.beq b.aa 12 then Tb x||Tb y else true
def Zs(neg:Bool)(C:fA)(t:Nat)(x y:Operand)(a b:O):Option O:=
 tB (QS x y a b) (ob (P1 C 20 t a b) λr=>some (.d (bif neg then !r else r)))
def pe(_:fA)(_:Nat)(_ _:Operand)(_ _:O):Option O:=none
structure BB where f:fA->Nat->Operand->Operand->O->O->Option O
def zjp:BinOp->BB
 | .eql=>⟨Zs false⟩
 | .neq=>⟨Zs true⟩
 | _=>⟨pe⟩
def GM(op:BinOp)(C:fA)(t:Nat)(x y:Operand)(a b:O):Option O:=
 match a.ac with
 | some i=>ob b.ac λj=>tB (oP i.1 j.1) ((uv op).f i.1 i.2 j.2)
 | none=>match a.w with
  | some s=>ob b.w λu=>(uw op).f s u
  | none=>(zjp op).f C t x y a b
def ii(_:fA)(_:Nat)(_ _:Operand)(a b:O):Option O:=Uj Al a b
def ij(_:fA)(_:Nat)(_ _:Operand)(a b:O):Option O:=Uj dw a b
def rU:BinOp->BB
 | .shl=>⟨ii⟩
 | .shr=>⟨ij⟩
 | a=>⟨GM a⟩
def V2(a:O):Option O:=ob a.ac λx=>some (.e x.1 (cA x.1 (0-x.2)))
def V3(a:O):Option O:=ob a.r λb=>some (.d (!b))
def Jn(a:O):Option O:=ob a.ac λx=>tB (Nat.beq (Z9 x.1) 0) (jJ Nat.xor x.1 (.ofNat (aH x.1-1)) x.2)
def ik(_:O):Option O:=none
structure UB where f:O->Option O
def unA:UnOp->UB
 | .neg=>⟨V2⟩
 | .xor=>⟨Jn⟩
 | .not=>⟨V3⟩
 | _=>⟨ik⟩
def yZ(v:O):Option Nat:=ob v.ac λx=>tB (oP x.1 .u8) (ob (wO x.2) λn=>tB (Nat.blt n 256) (some n))
def Lm(H:sA)(a:O):Option O:=
 match a.u with
 | some x=>ob (fD H x.1) λc=>ob (c.1.u x.2.2.1 x.2.1) λl=>ob (kH yZ l) λr=>some (.h r)
 | none=>tB (Nat.beq a.aa 5) (some (.h []))
def gV(C:fA)(s d:jD)(a:O)(H:sA):Option O:=
 match d.a.o with
 | some k=>ob a.ba λn=>some (.e k (cA k n))
 | none=>tB d.a.c (bif Nat.beq a.aa 2 then some a else
   ob s.a.a λe=>ob (C.b.c e) λb=>ob b.a.o λk=>tB (oP k .u8) (Lm H a))
def Aw(y:Nat)(v:O):Option Nat:=ob v.aj λn=>tB (Nat.ble n y) (some n)
def Fl(y a:Nat)(v:Option O):Option Nat:=
 match v with
 | some v=>Aw y v
 | none=>some a
def gS(a cap:Nat)(lo hi:Option O):Option (Nat × Nat):=
 ob (Fl cap a hi) λh=>ob (Fl h 0 lo) λl=>some (l,h)
def vQ(H:sA)(b size cap l:Nat)(arr:Bool):Bool:=
 match fD H b with
 | some c=>match c.2.2 with
  | none=>true
  | some es => !arr&&Nat.beq es.c size&&(!Nat.beq cap l||Nat.beq l 0)
 | none=>false
def tP(H:sA)(b size cap l:Nat)(arr:Bool):Bool:=
 match fD H b with
 | some c=>match c.2.2 with
  | none=>false
  | some es => !arr&&Nat.beq es.c size&&Nat.beq cap l && !Nat.beq l 0
 | none=>false
def aR(C:fA)(H:sA)(a:Bool)(e b off d cap:Nat)(lo hi:Option O):Option O:=
 ob (C.b.c e) λc=>ob (gS d cap lo hi) λx=>
  bif Nat.ble x.2 cap&&Nat.ble x.1 x.2&&tP H b c.b cap x.1 a then some (.m 0 1 0 0)else
  tB (Nat.ble x.2 cap&&vQ H b c.b cap x.1 a) (some (.m b (bif Nat.beq cap x.1 then off else off+x.1*c.b) (x.2-x.1) (cap-x.1)))
def Qz(s:List Nat)(lo hi:Option O):Option O:=
 let n:=wB s
 ob (gS n n lo hi) λx=>some (.h (lT (Ef s x.2) x.1))
def sP(C:fA)(H:sA)(ty:jD)(x:O)(lo hi:Option O):Option O:=
 match x.w with
 | some s=>tB ty.a.c (Qz s lo hi)
 | none=>match x.u with
  | some r=>ob ty.a.a λe=>aR C H false e r.1 r.2.1 r.2.2.1 r.2.2.2 lo hi
  | none=>match x.ah with
   | some p=>ob ty.a.g λa=>aR C H true a.2 p.1 p.2 a.1 a.1 lo hi
   | none=>tB (Nat.beq x.aa 5) (ob ty.a.a λe=>ob (C.b.c e) λ_=>ob (gS 0 0 lo hi) λ_=>some .g)
def cY(a:List O)(off b:Nat)(v:O):Option (List O):=
 let c:=v.s
 let n:=wB c
 tB (Nat.beq n b&&Nat.ble (off+n) (wB a)) (some (tE (Ef a off) (tE c (lT a (off+n)))))
def mN(b:Nat->Option (Nat × Nat)):List (Nat × O)->List O->Option (List O)
 | [],a=>some a
 | p::c,a=>ob (b p.1) λq=>ob (cY a q.1 q.2 p.2) λa=>mN b c a
def nY(d:lE):Bool:=Nat.ble d.l 2
def il(v:O):Nat:=v.aa
def Kz(d:lE)(v:O):Bool:=Nat.beq d.l (il v)
def Ev(C:fA):List (Nat × Nat × Nat)->Nat->Bool
 | [],_=>true
 | f::a,i=>bif Nat.beq f.1 i then(match C.b.c f.2.1 with
  | some b=>bif nY b.a then Ev C a (i+1)else false
  | none=>false)else false
def oY(C:fA)(ty:jD):Bool:=bif nY ty.a then true else match ty.a.b with
 | some a=>bif ty.e then Ev C a 0 else false
 | none=>false
def Ey(C:fA):List (Nat × Nat × Nat)->List O->Bool
 | [],[]=>true
 | f::a,v::l=>(match C.b.c f.2.1 with
  | some b=>bif Kz b.a v then Ey C a l else false
  | none=>false)
 | _,_=>false
def nV(C:fA)(ty:jD)(v:O):Bool:=bif nY ty.a then Kz ty.a v else match ty.a.b with
 | some a=>(match v.ak with
  | some l=>Ey C a l
  | none=>false)
 | none=>false
def iT(a b:O):Option Bool:=
 match a.ac with
 | some x=>ob b.ac λy=>tB (oP x.1 y.1) (some (kB x.2 y.2))
 | none=>match a.w with
  | some x=>ob b.w λy=>some (sF x y)
  | none=>Oj a b
def pY:List O->List O->Option Bool
 | [],[]=>some true
 | a::x,b::y=>ob (iT a b) λr=>ob (pY x y) λs=>some (r&&s)
 | _,_=>none
def kJ(a b:O):Option Bool:=
 match a.ak with
 | some x=>ob b.ak λy=>pY x y
 | none=>iT a b
def aM(k:O):List (O × O)->Option (Option O)
 | []=>some none
 | e::l=>ob (kJ k e.1) λr=>bif r then some (some e.2)else aM k l
def uQ(k v:O):List (O × O)->Option (List (O × O))
 | []=>some [(k,v)]
 | e::l=>ob (kJ k e.1) λr=>bif r then some ((k,v)::l)else ob (uQ k v l) λl=>some (e::l)
abbrev sL:=fA->mD->sA->Option O
def Ei:sL:=λ_ _ _=>none
def oS(x:Operand):sL:=λ_ e _=>ev x e
def Sr(c a b:Operand):sL:=λ_ e _=>ob (ev c e) λc=>ob c.r λc=>bif c then ev a e else ev b e
def Ab(t:Nat)(a:Operand):sL:=λC e H=>ob (ev a e) λv=>ob v.ah λp=>ob (C.b.c t) λb=>ob (fD H p.1) λc=>qV b c.1 p.2
def Ej (x:Operand):sL:=λ_ e _=>ob (ev x e) λv=>tB (Nat.beq v.aa 4||Nat.beq v.aa 9) (some v)
def Ah (op:BinOp)(t:Nat)(x y:Operand):sL:=λC e _=>ob (ev x e) λa=>ob (ev y e) λb=>(rU op).f C t x y a b
def P2 (op:UnOp)(x:Operand):sL:=λ_ e _=>ob (ev x e) λa=>(unA op).f a
def nS(s d:Nat)(x:Operand):sL:=λC e H=>ob (ev x e) λa=>ob (C.b.c s) λs=>ob (C.b.c d) λd=>gV C s d a H
def Hq(t:Nat)(x:Operand):sL:=λC e _=>ob (C.b.c t) λa=>tB (Nat.blt a.a.l 9) (ob (ev x e) λv=>some (.aw t v))
def Ny(f:Nat)(a b:Array Operand):sL:=λ_ e _=>ob (lQ a.toList e) λa=>ob (lQ b.toList e) λb=>some (.q (.aa f) a b)
structure LB where f:sL
def Hr(fn:Fn)(a b:Array Operand):LB:=
 match fn with
 | .func f=>⟨Ny f a b⟩
 | _=>⟨Ei⟩
def Eh(t:Nat)(x:Operand)(lo hi:Option Operand):sL:=λC e H=>
 ob (ev x e) λa=>ob (I0 lo e) λl=>ob (I0 hi e) λh=>ob (C.b.c t) λb=>sP C H b a l h
def Sq(t:Nat)(x:Operand)(lo hi a:Option Operand):LB:=
 match a with
 | none=>⟨Eh t x lo hi⟩
 | some _=>⟨Ei⟩
def Af(s:Nat)(x:Operand)(f:Nat):sL:=λC e _=>
 ob (C.b.c s) λc=>ob c.a.b λb=>ob (lD b f) λa=>tB (!Nat.beq a.2.2 0) (ob (ev x e) λv=>ob v.ah λp=>some (.j p.1 (p.2+a.1)))
def Ht(t:Nat)(x:Operand)(f:Nat):sL:=λC e _=>
 ob (C.b.c t) λc=>ob c.a.b λb=>ob (lD b f) λa=>ob (ev x e) λv=>ob v.ak λl=>wT C a.2.1 l a.1
def Ad(t:Nat)(x i:Operand):sL:=λC e _=>
 ob (C.b.c t) λc=>ob (ev x e) λv=>ob (ev i e) λi=>ob i.aj λi=>
  match v.u with
  | some s=>ob c.a.a λd=>ob (C.b.c d) λb=>tB (Nat.blt i s.2.2.1) (some (.j s.1 (s.2.1+i*b.b)))
  | none=>ob v.ah λp=>ob c.a.g λa=>ob (C.b.c a.2) λb=>tB (Nat.blt i a.1) (some (.j p.1 (p.2+i*b.b)))
def Ae(t:Nat)(x i:Operand):sL:=λC e _=>
 ob (C.b.c t) λc=>ob (ev x e) λv=>ob (ev i e) λi=>ob i.aj λi=>
  match v.w with
  | some s=>tB c.a.c (ob (lD s i) λb=>some (.e .u8 (.ofNat b)))
  | none=>ob v.ak λl=>ob c.a.g λa=>ob (C.b.c a.2) λd=>tB (Nat.blt i a.1) (wT C a.2 l (i*d.b))
def Ag(t:Operand)(i:Nat):sL:=λ_ e _=>ob (ev t e) λv=>ob v.ay λl=>lD l i
def Cc(t:Nat)(b:Array (Nat × Operand)):sL:=λC e _=>
 ob (C.b.c t) λc=>ob (I1 b.toList e) λf=>
  match c.a.b with
  | some g=>ob (mN (λi=>ob (lD g i) λx=>some (x.1,x.2.2)) f c.c) λl=>some (.i l)
  | none=>ob c.a.g λa=>ob (C.b.c a.2) λd=>ob (mN (λi=>some (i*d.b,d.b)) f c.c) λl=>some (.i l)
def Ai(x:Operand)(a:Nat)(ok:Bool):sL:=λC e _=>
 ob (C.b.c a) λb=>tB (Nat.blt b.a.l 9) (ob (ev x e) λv=>
  match v.au with
  | some p=>bif Nat.beq p.1 a then some (bif ok then .p [p.2,.d true]else p.2)else tB ok (some (.p [Bi b,.d false]))
  | none=>tB (Nat.beq v.aa 12&&ok) (some (.p [Bi b,.d false])))
def dZ(H:sA)(v:O):Option (List (O × O)):=
 match v.az with
 | some b=>zN H b
 | none=>tB (Nat.beq v.aa 7) (some [])
def Aa(t:Nat)(x i:Operand)(ok:Bool):sL:=λC e H=>
 ob (C.b.c t) λf=>ob f.a.p λc=>ob (C.b.c c.1) λb=>tB (oY C b) (ob (C.b.c c.2) λa=>
  ob (ev x e) λm=>ob (dZ H m) λd=>ob (ev i e) λk=>tB (nV C b k) (ob (aM k d) λr=>
   match r with
   | some v=>some (bif ok then .p [v,.d true]else v)
   | none=>some (bif ok then .p [Bi a,.d false]else Bi a)))
def qY (H:sA)(ty:jD)(v:O):Option Nat:=
 match v.w with
 | some s=>tB ty.a.c (some (wB s))
 | none=>match v.u with
  | some s=>tB (Nat.beq ty.a.l 4) (some s.2.2.1)
  | none=>match ty.a.g with
   | some a=>some a.1
   | none=>match v.az with
    | some b=>tB (Nat.beq ty.a.l 6) (ob (zN H b) λl=>some (wB l))
    | none=>tB ((Nat.beq ty.a.l 4&&Nat.beq v.aa 5)||(Nat.beq ty.a.l 6&&Nat.beq v.aa 7)) (some 0)
def kT (c:Call):sL:=λC e H=>
 ob (lD c.argTypes.toList 0) λt=>ob (lD c.args.toList 0) λx=>ob (C.b.c t) λa=>ob (ev x e) λv=>ob (qY H a v) λn=>some (.e .i64 (.ofNat n))
def K7 (c:Call)(e:mD):Option (O × O):=
 match c.args.toList with
 | [x,y]=>ob (ev x e) λa=>ob (ev y e) λb=>some (a,b)
 | _=>none
def aZ (c:Call):sL:=λ_ e _=>ob (K7 c e) λp=>ob p.1.ac λx=>ob p.2.ac λy=>some (.e x.1 (bif bB x.2 y.2 then y.2 else x.2))
def bZ (c:Call):sL:=λ_ e _=>ob (K7 c e) λp=>ob p.1.ac λx=>ob p.2.ac λy=>some (.e x.1 (bif bB y.2 x.2 then y.2 else x.2))
def Xp(c:Call):Builtin->LB
 | .len=>⟨kT c⟩
 | .max=>⟨aZ c⟩
 | .min=>⟨bZ c⟩
 | _=>⟨Ei⟩
def bW(c:Call):Callee->LB
 | .builtin b=>Xp c b
 | _=>⟨Ei⟩
def ux(c:Call):LB:=bW c c.callee
def kG:Op->LB
 | .move x=>⟨oS x⟩
 | .assign x=>⟨oS x⟩
 | .pick c a b=>⟨Sr c a b⟩
 | .load t a=>⟨Ab t a⟩
 | .nilCheck x=>⟨Ej x⟩
 | .binOp g t x y _=>⟨Ah g t x y⟩
 | .unOp g _ x=>⟨P2 g x⟩
 | .convert s d x=>⟨nS s d x⟩
 | .makeInterface t x=>⟨Hq t x⟩
 | .makeFunc h a b=>Hr h a b
 | .slice t x k j l=>Sq t x k j l
 | .fieldAddr s x f=>⟨Af s x f⟩
 | .field t x f=>⟨Ht t x f⟩
 | .indexAddr t x i=>⟨Ad t x i⟩
 | .index t x i=>⟨Ae t x i⟩
 | .extract t i=>⟨Ag t i⟩
 | .build t m=>⟨Cc t m⟩
 | .typeAssert x _ u e=>⟨Ai x u e⟩
 | .lookup t x i e=>⟨Aa t x i e⟩
 | .call c=>ux c
 | _=>⟨Ei⟩
inductive zM where
 | aa (v:O) (H:sA)
 | am (f:Nat) (args:List O)
 | ak (l:Nat) (args:List O)
 | ah (d:kI)
 | ap (v:O)
 | aj
 | ac
abbrev G9:=fA->mD->sA->zM
structure HB where f:G9
def sN (x:Option (O × sA)):zM:=
 match x with
 | some p=>.aa p.1 p.2
 | none=>.ac
def Dr (x:Option zM):zM:=
 match x with
 | some r=>r
 | none=>.ac
def lv (f:sL):G9:=λC e H=>
 match f C e H with
 | some v=>.aa v H
 | none=>.ac
def B0(H:sA)(b:vA):sA:=⟨H.a+1,H.t.d H.a b⟩
def tG(H:sA)(l:List O)(a:Option Lo):sA:=B0 H (.aa (G.ac l) (wB l) a)
def A7(H:sA)(b:Nat)(x:vA):sA:=⟨H.a,H.t.d b x⟩
def mJ (zero:List O):Nat->List O
 | 0=>[]
 | n+1=>tE zero (mJ zero n)
def Hp(v:O):Option Nat:=
 match v.u with
 | some s=>some s.2.2.1
 | none=>match v.w with
  | some s=>some (wB s)
  | none=>tB (Nat.beq v.aa 5) (some 0)
def Cq(l:List Nat):List O:=l.map λn=>O.e .u8 (Int.ofNat n)
def dY(H:sA)(a n:Nat)(v:O):Option (List O):=
 match v.u with
 | some s=>ob (fD H s.1) λc=>c.1.u (n*a) s.2.1
 | none=>match v.w with
  | some s=>some (Cq (Ef s n))
  | none=>tB (Nat.beq v.aa 5) (some [])
def kK(C:fA)(H:sA)(b off:Nat)(l:List O):Option sA:=
 tB (!Nat.blt b C.a) (ob (fD H b) λc=>
  tB (Nat.ble (off+wB l) c.2.1&&oD O.z l) (some (A7 H b (.aa (c.1.am l off) c.2.1 c.2.2))))
def fY(a:jD)(b cap n:Nat)(new:List O):Bool:=
 Nat.blt (b+n+cap) 1000000000&&Nat.blt ((b+n+cap)*a.d) 1000000000&&Nat.blt a.d 1000000000 && !Nat.beq a.b 0&&Nat.beq (wB new) (n*a.b)&&Nat.beq (wB a.c) a.b
def zhm(a:jD):Bool:=match a.a with | .m .u8=>true | _=>false
def lN(e:Nat)(a:jD):Lo:=bif Nat.beq a.b 1&&zhm a then .a e else .b a.b
def zX(H:sA)(e:Nat)(a:jD)(n:Nat)(new:List O):Option (O × sA):=
 bif Nat.beq n 0 then some (.g,H)else
  tB (fY a 0 0 n new) (some (.m H.a 0 n n,tG H new (some (lN e a))))
def Cj(C:fA)(H:sA)(b:jD)(n:Nat)(new:List O)(s:Nat × Nat × Nat × Nat):Option (O × sA):=
 match new with
 | []=>some (.m s.1 s.2.1 (s.2.2.1+n) s.2.2.2,H)
 | _::_=>ob (kK C H s.1 (s.2.1+s.2.2.1*b.b) new) λa=>some (.m s.1 s.2.1 (s.2.2.1+n) s.2.2.2,a)
def Of(H:sA)(e:Nat)(b:jD)(n:Nat)(new:List O)(s:Nat × Nat × Nat × Nat)(c:G O):Option (O × sA):=
 ob (c.u (s.2.2.1*b.b) s.2.1) λa=>some (.m H.a 0 (s.2.2.1+n) (s.2.2.1+n),tG H (tE a new) (some (lN e b)))
def Ld(C:fA)(H:sA)(e:Nat)(a:jD)(n:Nat)(new:List O)(s:Nat × Nat × Nat × Nat)(c:G O)(m:Nat)(lo:Lo):Option (O × sA):=
 tB (Nat.beq s.2.1 0&&M2 lo (lN e a)&&Nat.ble (s.2.2.1*a.b) m&&Nat.ble m ((s.2.2.1+n)*a.b)&&oD O.z new && !Nat.blt s.1 C.a)
  (some (.m H.a 0 (s.2.2.1+n) (s.2.2.1+n),⟨H.a+1,(H.t.q s.1).d H.a (.aa (c.am new (s.2.2.1*a.b)) ((s.2.2.1+n)*a.b) (some lo))⟩))
def Ao(C:fA)(H:sA)(e:Nat)(a:jD)(n:Nat)(new:List O)(s:Nat × Nat × Nat × Nat):Option (O × sA):=
 tB (!(Nat.beq s.2.1 1&&Nat.beq s.2.2.2 0)) (tB (fY a s.2.2.1 s.2.2.2 n new) (ob (fD H s.1) λc=>
  match c.2.2 with
  | none=>Of H e a n new s c.1
  | some b=>Ld C H e a n new s c.1 c.2.1 b))
def Ba(C:fA)(H:sA)(ty:jD)(s x:O):Option (O × sA):=
 ob ty.a.a λe=>ob (C.b.c e) λb=>ob (Hp x) λn=>ob (dY H b.b n x) λa=>
  match s.u with
  | some s=>bif Nat.ble (s.2.2.1+n) s.2.2.2 then Cj C H b n a s else Ao C H e b n a s
  | none=>tB (Nat.beq s.aa 5) (zX H e b n a)
def V4(C:fA)(t:Nat):Bool:=
 match ob (C.b.c t) λc=>ob c.a.b λa=>ob (lD a 0) λf=>ob (C.b.c f.2.1) λb=>some b.a with
 | some (.v e)=>Nat.beq e t
 | _=>false
def lL(C:fA)(t:Nat):Option Lo:=
 bif V4 C t then some (.a t)else
 match ob (C.b.c t) λb=>ob b.a.b λa=>ob (lD a 0) λf=>some (V4 C f.2.1)with
 | some true=>some (.a t)
 | _=>none
def Hz(t:Nat):G9:=λC _ H=>sN (ob (C.b.c t) λa=>some (.j H.a 0,tG H a.c (lL C t)))
def Er (t:Nat)(x:Operand):G9:=λC e H=>sN (ob (ev x e) λv=>some (.j H.a 0,tG H v.s (lL C t)))
def Eg (C:fA):Op->Option Lo
 | .alloc t=>lL C t
 | .box t _=>lL C t
 | _=>none
def Hy(t a:Nat)(b:Array (Nat × Operand)):G9:=λC e H=>sN (ob (C.b.c t) λg=>ob g.a.a λd=>ob (C.b.c d) λc=>
 tB (Nat.blt (a*c.b) 1000000&&Nat.beq (wB c.c) c.b) (ob (I1 b.toList e) λf=>ob (mN (λi=>some (i*c.b,c.b)) f (mJ c.c a)) λl=>some (.m H.a 0 a a,tG H l none)))
def Td(t:Nat)(a x:Operand):G9:=λC e H=>sN (ob (C.b.c t) λc=>ob (ev a e) λa=>ob a.ah λp=>ob (ev x e) λv=>
 let l:=v.s
 tB (Nat.beq (wB l) c.b) (ob (kK C H p.1 p.2 l) λb=>some (aD,b)))
def Tf(r:Option Operand):G9:=λ_ _ H=>
 match r with
 | none=>.aa (.bc H.a) (B0 H (.aj []))
 | some _=>.ac
def Hx(t:Nat)(m k x:Operand):G9:=λC e H=>sN (ob (C.b.c t) λf=>ob f.a.p λc=>ob (C.b.c c.1) λa=>tB (oY C a)
 (ob (ev m e) λm=>ob m.az λb=>tB (!Nat.blt b C.a) (ob (zN H b) λl=>ob (ev k e) λk=>tB (nV C a k) (ob (ev x e) λv=>ob (uQ k v l) λd=>some (aD,A7 H b (.aj d))))))
def EP(t:Nat)(l c:Operand):G9:=λC e H=>sN (ob (C.b.c t) λd=>ob d.a.a λb=>ob (C.b.c b) λa=>
 ob (ev l e) λl=>ob l.aj λl=>ob (ev c e) λc=>ob c.aj λc=>
  tB (Nat.ble l c&&Nat.blt c 1000000&&Nat.blt (c*a.d) 1000000000&&Nat.beq (wB a.c) a.b) (some (.m H.a 0 l c,tG H (mJ a.c c) none)))
def Ci(s d:Nat)(x:Operand):G9:=λC e H=>
 match nS s d x C e H with
 | some v=>.aa v H
 | none=>sN (ob (C.b.c s) λ_=>ob (C.b.c d) λc=>ob c.a.a λa=>ob (C.b.c a) λb=>ob b.a.o λk=>tB (oP k .u8) (ob (ev x e) λv=>ob v.w λl=>
   some (.m H.a 0 (wB l) (wB l),tG H (Cq l) (some (.a a)))))
def Te(x:Operand):G9:=λ_ e _=>Dr (ob (ev x e) λv=>ob v.au λp=>some (.ap (.aw p.1 p.2)))
def bU(f:Operand)(args:Array Operand)(e:mD):Option (K6 × List O × List O):=
 ob (ev f e) λv=>ob v.am λp=>ob (lQ args.toList e) λa=>some (p.1,tE p.2.1 a,p.2.2)
def Yd(c:Call):Callee->HB
 | .value f=>⟨λ_ e _=>Dr (ob (bU f c.args e) λp=>some (.ah ⟨some p.1,0,tE p.2.1 p.2.2⟩))⟩
 | _=>⟨λ_ _ _=>.ac⟩
def im(c:Call):HB:=Yd c c.callee
def rN(g:List O->sA->Option O):List O->sA->Option (O × sA):=λa H=>ob (g a H) λv=>some (v,H)
def Oz(_:fA)(H:sA)(args:List O)(f:Nat):Option (List O->sA->Option (O × sA))->zM
 | some g=>match g args H with
  | some p=>.aa p.1 p.2
  | none=>.ac
 | none=>.am f args
def SN(l:Nat)(args:List O):List O->zM
 | []=>.ak l args
 | _::_=>.ac
def uy(C:fA)(H:sA)(args cap:List O):K6->zM
 | .aa f=>Oz C H (tE args cap) f (C.c.c f)
 | .ac l=>SN l args cap
def Lc(f:Operand)(args:Array Operand):G9:=λC e H=>Dr (ob (bU f args e) λp=>some (uy C H p.2.1 p.2.2 p.1))
def Oe(c:Call):G9:=λC e H=>sN (ob (lD c.argTypes.toList 0) λt=>ob (C.b.c t) λb=>ob (lD c.argTypes.toList 1) λu=>ob (C.b.c u) λa=>
 tB (!Nat.beq a.a.l 1) (ob (K7 c e) λp=>Ba C H b p.1 p.2))
def uz:G9:=λ_ _ _=>.ac
def zni:G9:=λ_ _ _=>.aj
def znj(c:Call):Builtin->HB
 | .append=>⟨Oe c⟩
 | .len=>⟨lv (kT c)⟩
 | .max=>⟨lv (aZ c)⟩
 | .min=>⟨lv (bZ c)⟩
 | .recover=>⟨zni⟩
 | _=>⟨uz⟩
def Od(c:Call):Callee->HB
 | .value f=>⟨Lc f c.args⟩
 | .builtin b=>znj c b
 | _=>⟨uz⟩
def pf(c:Call):HB:=Od c c.callee
def lvB (b:LB):HB:=⟨lv b.f⟩
def kF:Op->HB
 | .move x=>⟨lv (oS x)⟩
 | .assign x=>⟨lv (oS x)⟩
 | .pick c a b=>⟨lv (Sr c a b)⟩
 | .load t a=>⟨lv (Ab t a)⟩
 | .nilCheck x=>⟨lv (Ej x)⟩
 | .binOp h t x y _=>⟨lv (Ah h t x y)⟩
 | .unOp h _ x=>⟨lv (P2 h x)⟩
 | .makeInterface t x=>⟨lv (Hq t x)⟩
 | .makeFunc n a b=>lvB (Hr n a b)
 | .slice t x p o q=>lvB (Sq t x p o q)
 | .fieldAddr s x f=>⟨lv (Af s x f)⟩
 | .field t x f=>⟨lv (Ht t x f)⟩
 | .indexAddr t x i=>⟨lv (Ad t x i)⟩
 | .index t x i=>⟨lv (Ae t x i)⟩
 | .extract t i=>⟨lv (Ag t i)⟩
 | .build t j=>⟨lv (Cc t j)⟩
 | .typeAssert x _ u g=>⟨lv (Ai x u g)⟩
 | .lookup t x i g=>⟨lv (Aa t x i g)⟩
 | .convert s d x=>⟨Ci s d x⟩
 | .alloc t=>⟨Hz t⟩
 | .box t x=>⟨Er t x⟩
 | .buildSlice t e j=>⟨Hy t e j⟩
 | .store t a x=>⟨Td t a x⟩
 | .makeMap _ r=>⟨Tf r⟩
 | .insert t m k x=>⟨Hx t m k x⟩
 | .mapUpdate t m k x=>⟨Hx t m k x⟩
 | .makeSlice t l c=>⟨EP t l c⟩
 | .panic x=>⟨Te x⟩
 | .defer c=>im c
 | .call c=>pf c
 | _=>⟨uz⟩
structure GB where f:Tm->Option Bool
def zr3(_:Tm):Option Bool:=some true
def Qc(d:Option Nat)(w:Bool)(tm:Tm):Option Bool:=
 ob d λd=>ob (tm.a d) λv=>match v.r with
  | some b=>some (K5 b w)
  | none=>some false
def Qe(g:Option (Nat × Bool))(all:Array Oper):GB:=
 match g with
 | none=>⟨zr3⟩
 | some a=>⟨Qc (ob (lD all.toList a.1) λo=>o.dst) a.2⟩
def dG(g:Option (Nat × Bool))(all:Array Oper)(tm:Tm):Option Bool:=(Qe g all).f tm
structure PB where f:Nat->Tm->O->Tm
def Nk(d n:Nat)(tm:Tm)(v:O):Tm:=bif Nat.blt d n then tm.c d v else tm
def V5(_:Nat)(tm:Tm)(_:O):Tm:=tm
def Q8 (dst:Option Nat):PB:=
 match dst with
 | some d=>⟨Nk d⟩
 | none=>⟨V5⟩
def A9 (n:Nat)(tm:Tm)(dst:Option Nat)(v:O):Tm:=(Q8 dst).f n tm v
def sZ.a:sZ->Bool | .ah=>true | _=>false
def aE.j:aE->Option Nat | .f c=>some c | _=>none
def xX(a:Nat):List aE->Option (List aE)
 | []=>none
 | x::k=>match x.j with
  | some i=>bif Nat.beq i a then some k else xX a k
  | none=>xX a k
def zre(all:Array Oper)(rest:List Oper)(k:List aE)(tm:Tm)(R:qL)(v:O):Option pC:=
 match rest with
 | o::rest=>some ⟨.h all rest::k,A9 R.n tm o.dst v,R⟩
 | []=>none
def u7(all:Array Oper)(old:Tm)(olds:List (Nat × List Nat))(a:List eH)(k:List aE)(tm:Tm)(R:qL)(v:O):Option pC:=
 match a with
 | b::a=>ob (lD all.toList b.a) λo=>some ⟨.d all old olds (⟨all.size,b.b,b.c⟩::a)::k,A9 R.n tm o.dst v,R⟩
 | []=>none
def znp(l:Nat)(k:List aE)(tm:Tm)(R:qL)(_:O):Option pC:=some ⟨.g l::k,tm,R⟩
def znq(k:List aE)(tm:Tm)(R:qL)(_:O):Option pC:=some ⟨k,tm,R⟩
def zvj(_:List aE)(_:Tm)(_:qL)(_:O):Option pC:=none
def Yp:aE->List aE->Tm->qL->O->Option pC
 | .h b d=>zre b d
 | .d b e c a=>u7 b e c a
 | .e l=>znp l
 | .b=>znq
 | _=>zvj
def eI(a:pC)(v:O):Option pC:=
 match a.a with
 | []=>none
 | x::k=>bif a.R.a.a then Yp x k a.b a.R v else none
def iL(C:fA)(f:Nat)(args:List O)(a:Bool):Option pC:=
 ob (C.d.c f) λb=>ob b.body λc=>ob (C.g.c f) λk=>tB (Nat.ble (wB args) k&&Nat.ble (wB args) b.ntmps) (some ⟨[.a c],⟨k,G.ac args,[]⟩,⟨f,b.ntmps,[],.ah,a,none⟩⟩)
def Dn(n:Nat):List Nat->List O->Tm->Option (Tm)
 | [],[],b=>some b
 | p::d,a::c,b=>Dn n d c (A9 n b (some p) a)
 | _,_,_=>none
def AY:List Operand->List Nat
 | []=>[]
 | .tmp t::l=>t::AY l
 | _::l=>AY l
def aI(o:Op):List Nat:=AY o.operands.toList
def vG(i:Nat):List (Nat × List Nat)->List Nat
 | []=>[]
 | x::r=>bif Nat.beq i x.1 then x.2 else vG i r
def A8:Nat->O->O->Bool
 | _,.d a,.d b=>K5 a b
 | _,.e j a,.e k b=>oP j k&&kB a b
 | _,.h a,.h b=>sF a b
 | _,.y,.y=>true
 | _,.j a b,.j c d=>Nat.beq a c&&Nat.beq b d
 | _,.g,.g=>true
 | _,.m a b c d,.m e f g h=>Nat.beq a e&&Nat.beq b f&&Nat.beq c g&&Nat.beq d h
 | _,.ax,.ax=>true
 | _,.bc a,.bc b=>Nat.beq a b
 | _,.ap,.ap=>true
 | _,.x,.x=>true
 | d+1,.i a,.i b=>sames d a b
 | d+1,.p a,.p b=>sames d a b
 | _,_,_=>false
where
 sames (d:Nat):List O->List O->Bool
  | [],[]=>true
  | a::x,b::y=>A8 d a b&&sames d x y
  | _,_=>false
def pV(C:fA)(H:sA)(all:Array Oper)(n:Nat)(old:Tm)(olds:List (Nat × List Nat)):List Nat->Tm->Option (Tm)
 | [],a=>some a
 | i::l,a=>ob (lD all.toList i) λo=>ob (dG o.guard all a) λw=>ob (bif w then(kG o.op).f C (.c a old (vG i olds) (aI o.op)) H else some aD) λv=>
   pV C H all n old olds l (A9 n a o.dst v)
def Io(C:fA)(H:sA)(all:Array Oper)(old:Tm)(olds:List (Nat × List Nat))(tm:Tm):List Nat->Bool
 | []=>true
 | i::l=>match (ob (lD all.toList i) λo=>ob o.dst λd=>ob (dG o.guard all tm) λw=>bif w then(ob ((kG o.op).f C (.c tm old (vG i olds) (aI o.op)) H) λv=>ob (tm.a d) λu=>some (A8 10 v u))else some true)with
  | some true=>Io C H all old olds tm l
  | _=>false
def sZ.b:sZ->Option (List Iw) | .ac c=>some c | _=>none
def Oq:List Oper->G O->G O
 | [],t=>t
 | o::l,t=>match o.dst with
  | some j=>Oq l (t.q j)
  | none=>Oq l t
def Sn(a:List aE)(tm:Tm):Tm:=
 match a with
 | .d b _ _ _::_=>⟨tm.k,Oq b.toList tm.v,[]⟩
 | _=>tm
def gZ(a:pC)(l:List Iw):pC:=
 ⟨[],Sn a.a a.b,⟨a.R.e,a.R.n,a.R.d,.ac (match a.R.a.b with | some c=>tE l c | none=>l),a.R.b,a.R.c⟩⟩
def oN(x:Option kU)(a:Nat):fG:=
 match x with
 | some s=>.aa s
 | none=>.ac a
def tK(H:sA)(l:Nat):Option iO:=tB (Nat.ble (nat_lit 256) l) (ob (H.t.c l) vA.d)
def As(H:sA)(l:Nat):Option (Option (List kI)):=tB (Nat.ble (nat_lit 256) l) (ob (H.t.c l) vA.b)
def dx (v:O)(H':sA)(_:fA)(a:pC)(cs:List pC)(_:sA):fG:=oN (ob (eI a v) λa=>some ⟨a,cs,H'⟩) 1
def Rr(f:Nat)(args:List O)(C:fA)(a:pC)(cs:List pC)(H:sA):fG:=oN (ob (iL C f args false) λg=>some ⟨g,a::cs,H⟩) 2
def Rp(l:Nat)(args:List O)(_:fA)(a:pC)(cs:List pC)(H:sA):fG:=
 oN (ob (tK H l) λr=>ob (Dn r.n r.b args r.h) λb=>some ⟨⟨[.a r.c,.b,.a r.f],b,⟨r.g,r.n,[],.ah,false,some l⟩⟩,a::cs,H⟩) 3
def ve(d:kI)(_:fA)(a:pC)(cs:List pC)(H:sA):fG:=
 oN (match a.R.c with
  | none=>ob (eI a aD) λg=>some ⟨⟨g.a,g.b,⟨g.R.e,g.R.n,d::g.R.d,g.R.a,g.R.b,g.R.c⟩⟩,cs,H⟩
  | some _=>none) 4
def zpz(v:O)(_:fA)(a:pC)(cs:List pC)(H:sA):fG:=.aa ⟨gZ a [⟨v,false⟩],cs,H⟩
def Rq(_:fA)(a:pC)(cs:List pC)(H:sA):fG:=
 oN (match a.R.c,a.R.b,cs with
  | none,true,c::d=>match c.R.a with
   | .ac (⟨v,false⟩::b)=>ob (eI a v) λa=>some ⟨a,⟨c.a,c.b,⟨c.R.e,c.R.n,c.R.d,.ac (⟨v,true⟩::b),c.R.b,c.R.c⟩⟩::d,H⟩
   | .ac _=>none
   | _=>ob (eI a .x) λa=>some ⟨a,cs,H⟩
  | _,_,_=>none) 5
def pg(_:fA)(_:pC)(_:List pC)(_:sA):fG:=.ac 6
def Ph:zM->fA->pC->List pC->sA->fG
 | .aa v b=>dx v b
 | .am f a=>Rr f a
 | .ak l a=>Rp l a
 | .ah d=>ve d
 | .ap v=>zpz v
 | .aj=>Rq
 | .ac=>pg
def cU(C:fA)(H:sA)(tm:Tm):ResultVar->Option O
 | .tmp t=>tm.a t
 | .cell a t=>ob (ob (tm.a a) O.ah) λp=>ob (C.b.c t) λb=>ob (fD H p.1) λc=>qV b c.1 p.2
def iZ(C:fA)(H:sA)(tm:Tm)(l:List ResultVar):Option (List O):=kH (cU C H tm) l
def vf(a:Option Code):Bool:=
 match a with
 | none=>true
 | some .ret=>true
 | _=>false
def Dp(a:pC)(m:sZ):pC:=⟨a.a,a.b,⟨a.R.e,a.R.n,a.R.d,m,a.R.b,a.R.c⟩⟩
def dW(jump:Option Code)(_:fA)(fr:pC)(cs:List pC)(H:sA):fG:=
 oN (match fr.R.c with
  | none=>tB (vf jump) (some ⟨Dp fr .aa,cs,H⟩)
  | some l=>ob (tK H l) λr=>match cs with
   | c::rest=>tB (!fr.R.b) <| ob (eI c (.d jump.isNone)) λc=>some ⟨c,rest,A7 H l (.ac ⟨if jump.isNone then .ready else .done,jump,r.g,r.n,r.h,r.b,r.c,r.f,r.d⟩)⟩
   | []=>none) 7
abbrev fP:=fA->List aE->Tm->qL->List pC->sA->fG
structure XB where f:fP
def P9 (a:List aE)(tm:Tm)(R:qL)(cs:List pC)(H:sA):fG:=.aa ⟨⟨a,tm,R⟩,cs,H⟩
def Iy:fP:=λ_ k b R a H=>P9 k b R a H
def Py(c:Operand)(x y:Code):fP:=λ_ k a R d H=>
 match ob (ev c (.b a)) O.r with
 | some b=>P9 (.a (bif b then x else y)::k) a R d H
 | none=>.ac 8
def zoy(b:Nat)(c:Code):fP:=λ_ k d R a H=>P9 (.a c::.f b::k) d R a H
def vg(c:Code):fP:=λ_ k b R a H=>P9 (.a c::.i c::k) b R a H
def iq(c:Code):fP:=λ_ k b R a H=>P9 (.a c::.k c::k) b R a H
def Gc(a:Nat):fP:=λC k c R b H=>
 match xX a k with
 | some d=>P9 d c R b H
 | none=>dW (some (.exit a)) C ⟨.a (.exit a)::k,c,R⟩ b H
def ns:fP:=λC k b R a H=>dW (some .ret) C ⟨.a .ret::k,b,R⟩ a H
def vh:fP:=λ_ _ _ _ _ _=>.ac 9
def Ls(e:Edge):Bool:=
 match e.ground with
 | .textOnly _=>false
 | .gcOnly _=>false
 | _=>true
def tb (m i:Nat):Bool:=Nat.beq (Nat.mod (Nat.shiftRight m i) (nat_lit 2)) (nat_lit 1)
def Fp(i:Nat):Nat:=Nat.shiftLeft (nat_lit 1) i
def gK (t:G Nat)(i:Nat):Nat:=
 match t.c i with
 | some m=>m
 | none=>0
def Nu(t:G Nat):List Edge->Nat
 | []=>0
 | e::l=>bif Ls e then Nat.lor (Nat.lor (Fp e.on) (gK t e.on)) (Nu t l)else Nu t l
def vi:List Oper->Nat->G Nat->G Nat
 | [],_,t=>t
 | o::r,i,t=>vi r (i+1) (t.d i (Nu t o.after.toList))
def Wy:List Oper->Nat->Bool
 | [],_=>true
 | o::r,i=>bif oD (λe=>bif Ls e then Nat.blt e.on i else true) o.after.toList then Wy r (i+1)else false
def I4:List Oper->Nat->G Nat->Option (G Nat)
 | [],_,t=>some t
 | o::r,i,t=>match o.dst with
  | none=>I4 r (i+1) t
  | some d=>match t.c d with
   | none=>I4 r (i+1) (t.d d i)
   | some _=>none
def iE{a:Type}:Option a->Bool | none=>true | some _=>false
def vj(b a:G Nat)(i:Nat)(olds:List Nat)(t:Nat):Bool:=
 match b.c t with
 | none=>true
 | some j=>bif yJ t olds then(bif Nat.beq j i then true else tb (gK a j) i)else tb (gK a i) j
def DC(a:Nat):Option (Nat × Bool)->Bool
 | none=>true
 | some g=>tb a g.1
def sh(b a:G Nat)(olds:List (Nat × List Nat)):List Oper->Nat->Bool
 | [],_=>true
 | o::r,i=>bif DC (gK a i) o.guard then(bif oD (vj b a i (vG i olds)) (aI o.op)then sh b a olds r (i+1)else false)else false
def xY:Op->Bool
 | .move _=>true
 | .assign _=>true
 | .pick _ _ _=>true
 | .nilCheck _=>true
 | .binOp _ _ _ _ _=>true
 | .unOp _ _ _=>true
 | .makeInterface _ _=>true
 | .makeFunc _ _ _=>true
 | .fieldAddr _ _ _=>true
 | .field _ _ _=>true
 | .indexAddr _ _ _=>true
 | .index _ _ _=>true
 | .extract _ _=>true
 | .build _ _=>true
 | .typeAssert _ _ _ _=>true
 | _=>false
def De (D:Nat)(o:Oper):Bool:=oD (λe=>bif Ls e then tb D e.on else true) o.after.toList
def Wx(h D:Nat):List Oper->Nat->Bool
 | [],_=>true
 | o::r,i=>bif (bif tb D i then true else bif Nat.beq i h then true else !De D o)then Wx h D r (i+1)else false
def nN:Op->Bool
 | .alloc _=>true
 | .box _ _=>true
 | .buildSlice _ _ _=>true
 | _=>false
def Xa(m D:Nat)(a:List Nat):List Oper->Nat->Bool
 | [],_=>true
 | o::r,i=>bif (bif tb D i then(bif tb m i then true else bif xY o.op then true else bif nN o.op then true else yJ i a)else true)then Xa m D a r (i+1)else false
def Bv(a:List Oper)(i D:Nat):Option Nat:=
 ob (lD a i) λo=>tB (bif tb D i then false else De D o) (some (Nat.lor D (Fp i)))
def uT(a:List Oper):List Nat->Nat->Option Nat
 | [],D=>some D
 | i::l,D=>ob (Bv a i D) λD=>uT a l D
def si(D:Nat):List Oper->Nat->Bool
 | [],_=>true
 | _::r,i=>bif tb D i then si D r (i+1)else false
def zu6:Option Oper->Bool
 | some o=>nN o.op
 | none=>false
def sj (a:List Oper)(D:Nat):List Nat->Nat->Option Nat
 | [],E=>some E
 | i::l,E=>ob (lD a i) λo=>tB (!tb E i&&De D o&&iE o.dst) (sj a D l (Nat.lor E (Fp i)))
def Ww(b:G Nat)(c:Nat)(a:List Nat):List Oper->Nat->Bool
 | [],_=>true
 | o::r,i=>bif (bif tb c i then true else bif oD (λg=>tb (gK b i) g) a then true else !De c o)then Ww b c a r (i+1)else false
def Sz(o:Op):Bool:=
 match o with
 | .call c=>(match c.callee with
  | .builtin .len=>true
  | _=>false)
 | _=>false
def Wz(b:G Nat)(D:Nat)(a:List Nat):List Oper->Nat->Bool
 | [],_=>true
 | o::r,i=>bif (bif tb D i then(bif xY o.op then true else bif nN o.op then true else bif Sz o.op then true else oD (λg=>tb (gK b g) i) a)else true)then Wz b D a r (i+1)else false
def zfy(a:List Oper)(b:G Nat)(D:Nat)(c:eH):Option Nat:=
 ob (sj a D c.c D) λd=>tB (Ww b d c.c a 0&&Wz b D c.c a 0) (uT a c.b d)
def yL(a:List Oper)(b:G Nat):List eH->Nat->Bool
 | [],D=>si D a 0
 | c::r,D=>bif Nat.blt (wB a) c.a then(bif Nat.blt (wB a+wB a) c.a then(match zfy a b D c with
   | some D=>yL a b r D
   | none=>false)else bif zu6 (lD a (Nat.sub c.a (Nat.succ (wB a))))then
   (match ob (Bv a (Nat.sub c.a (Nat.succ (wB a))) D) λD=>uT a c.b D with
   | some D=>yL a b r D
   | none=>false)else false)else bif Wx c.a D a 0 then(bif Xa (gK b c.a) D c.c a 0 then
   (match ob (Bv a c.a D) λD=>uT a c.b D with
   | some D=>yL a b r D
   | none=>false)else false)else false
def DB(a:List Oper)(p:M3):Bool:=
 bif Wy a 0 then
  (match I4 a 0 .aj with
  | none=>false
  | some c=>
   (λb=>bif sh c b p.b a 0 then(match uT a p.c 0 with
    | some D=>yL a b p.a D
    | none=>false)else false) (vi a 0 .aj))else false
structure OkB where b:Bool
def tY(all:Array Oper)(p:M3):Bool:=(OkB.mk (DB all.toList p)).b
def Px(d:Nat)(all:Array Oper):fP:=λC k a R c H=>
 oN (ob (ob (C.e.c R.e) λt=>t.c d) λp=>tB (tY all p) <| ob (pV C H all R.n a.b p.b p.c a.b) λb=>some ⟨⟨.d all a.b p.b p.a::k,b,R⟩,c,H⟩) 10
def zM.a:zM->Option (O × sA) | .aa v H=>some (v,H) | _=>none
def zO(C:fA)(all:Array Oper)(k:List aE)(R:qL)(cs:List pC)(l:List Oper):Tm->sA->fG:=
 List.rec (motive:=λ_=>Tm->sA->fG) (λa H=>P9 k a R cs H)
  (λo b g a H=>
   match dG o.guard all a with
   | some w=>Bool.rec (motive:=λ_=>fG) (g (A9 R.n a o.dst aD) H)
     (let r:=(kF o.op).f C (.b a) H
     match r.a with
     | some p=>g (A9 R.n a o.dst p.1) p.2
     | none=>Ph r C ⟨.h all (o::b)::k,a,R⟩ cs H) w
   | none=>.ac 20) l
def xOps (all:Array Oper)(rest:List Oper):fP:=λC k b R a H=>zO C all k R a rest b H
def zry(c:Nat)(all:Array Oper)(a:Bool):XB:=
 match a with
 | true=>⟨Px c all⟩
 | false=>⟨λC k d R b H=>zO C all k R b all.toList d.b H⟩
def Uy(all:Array Oper)(old:Tm)(olds:List (Nat × List Nat))(c:eH)(a:List eH)(o:Oper):fP:=λC k b R d H=>
 match dG o.guard all b with
 | some w=>Ph (bif w then(kF o.op).f C (.c b old (vG c.a olds) (aI o.op)) H else .aa aD H) C ⟨.d all old olds (c::a)::k,b,R⟩ d H
 | none=>.ac 21
def Pv(all:Array Oper)(old:Tm)(olds:List (Nat × List Nat))(c:eH)(a:List eH):fP:=λC k b R d H=>
 oN (tB (Io C H all old olds b c.c) (ob (pV C H all R.n old olds c.b b) λb=>some ⟨⟨.d all old olds a::k,b,R⟩,d,H⟩)) 11
def Vc(all:Array Oper)(old:Tm)(olds:List (Nat × List Nat))(e:eH)(a:List eH)(i:Nat):fP:=λC k b R d H=>
 oN (ob (lD all.toList i) λo=>ob (dG o.guard all b) λw=>tB (w&&iE (Eg C o.op)) (ob ((kF o.op).f C (.c b old (vG i olds) (aI o.op)) H).a λp=>
  ob (pV C p.2 all R.n old olds e.b (A9 R.n b o.dst p.1)) λc=>some ⟨⟨.d all old olds a::k,c,R⟩,d,p.2⟩)) 23
inductive dP where
 | b (t:Nat) (a v:O)
 | c (t:Nat) (m k v:O)
inductive RE where
 | st (b off:Nat) (l:List O)
 | up (b:Nat) (k v:O)
def Fa(op:Op)(e:mD):Option dP:=
 match op with
 | .store t a x=>ob (ev a e) λa=>ob (ev x e) λv=>some (.b t a v)
 | .mapUpdate t m k x=>ob (ev m e) λm=>ob (ev k e) λk=>ob (ev x e) λv=>some (.c t m k v)
 | .insert t m k x=>ob (ev m e) λm=>ob (ev k e) λk=>ob (ev x e) λv=>some (.c t m k v)
 | _=>none
def hZ (C:fA)(e:dP):Option RE:=
 match e with
 | .b t a v=>ob (C.b.c t) λd=>ob a.ah λp=>tB (Nat.beq (wB v.s) d.b) (some (.st p.1 p.2 v.s))
 | .c t m k v=>ob (C.b.c t) λd=>ob d.a.p λf=>ob (C.b.c f.1) λc=>tB (oY C c&&nV C c k) (ob m.az λb=>some (.up b k v))
def RE.a:RE->Nat
 | .st b _ _=>b
 | .up b _ _=>b
def zf3(a b:O):Bool:=
 match kJ a b with
 | some r => !r
 | none=>false
def vk(a b:RE):Bool:=bif Nat.beq a.a b.a then(match a with
 | .st _ _ _=>false
 | .up _ k _=>(match b with
  | .st _ _ _=>false
  | .up _ c _=>zf3 k c))else true
def Zx:List RE->Bool
 | []=>true
 | a::l=>oD (vk a) l&&Zx l
def Fs(C:fA)(H:sA)(e:RE):Option sA:=
 match e with
 | .st b a l=>kK C H b a l
 | .up b k v=>tB (!Nat.blt b C.a) (ob (zN H b) λm=>some (A7 H b (.aj (tE m [(k,v)]))))
def Nd(C:fA)(H:sA)(e:RE):Bool:=
 match e with
 | .st b a l => !iE (kK C H b a l)
 | .up b _ _ => !Nat.blt b C.a&&(match zN H b with
  | some []=>true
  | _=>false)
def Lv(C:fA):List RE->sA->Option sA
 | [],H=>some H
 | e::l,H=>ob (Fs C H e) λH=>Lv C l H
def Es(C:fA)(es:List dP)(H:sA):Option sA:=ob (kH (hZ C) es) λa=>tB (Zx a&&oD (Nd C H) a) (Lv C a H)
def Cl(all:Array Oper)(old:Tm)(olds:List (Nat × List Nat))(tm:Tm)(i:Nat):Option dP:=
 ob (lD all.toList i) λo=>ob (dG o.guard all tm) λw=>tB w (Fa o.op (.c tm old (vG i olds) (aI o.op)))
def Xo(C:fA)(o:Oper):Bool:=
 match o.op with
 | .call c=>(match c.callee with
  | .builtin .len=>(match ob (lD c.argTypes.toList 0) λt=>C.b.c t with
   | some a => !Nat.beq a.a.l 6
   | none=>false)
  | _=>true)
 | _=>true
def Cb(C:fA)(all:Array Oper):Bool:=oD (Xo C) all.toList
def Om(all:Array Oper)(old:Tm)(olds:List (Nat × List Nat))(tm:Tm)(l:List Nat):Option (List dP):=kH (Cl all old olds tm) l
def Uz(all:Array Oper)(old:Tm)(olds:List (Nat × List Nat))(d:eH)(a:List eH):fP:=λC k e R f H=>
 oN (tB (Cb C all) (ob (Om all old olds e d.c) λg=>ob (Es C g H) λc=>ob (pV C c all R.n old olds d.b e) λb=>some ⟨⟨.d all old olds a::k,b,R⟩,f,c⟩)) 24
def tW (all:Array Oper)(old:Tm)(olds:List (Nat × List Nat))(a:List eH):fP:=
 match a with
 | []=>Iy
 | b::a=>match lD all.toList b.a with
  | some o=>Uy all old olds b a o
  | none=>bif Nat.blt (wB all.toList) b.a then(bif Nat.blt (wB all.toList+wB all.toList) b.a then Uz all old olds b a else Vc all old olds b a (Nat.sub b.a (Nat.succ (wB all.toList))))else Pv all old olds b a
def Du(C:fA)(l:Nat)(f:O):Option pC:=
 ob f.am λp=>match p.1 with
  | .aa g=>match C.c.c g with
   | none=>iL C g (tE p.2.1 (.q (.ac l) [] []::p.2.2)) false
   | some _=>none
  | .ac _=>none
def Pu(f:Operand)(b:Array Nat)(a c:Code):fP:=λC k e R g H=>
 oN (ob (ev f (.b e)) λv=>match R.c with
  | none=>
   let r:=H.a
   let l:=r+1
   ob (Du C l v) λh=>
    some ⟨h,⟨.e l::k,e,⟨R.e,R.n,⟨none,r,[]⟩::R.d,R.a,R.b,R.c⟩⟩::g,
     B0 (B0 H (.ah (some []))) (.ac ⟨.ready,none,R.e,R.n,e,b.toList,a,c,r⟩)⟩
  | some d=>ob (tK H d) λo=>
   let l:=H.a
   ob (Du C l v) λh=>
    some ⟨h,⟨.e l::k,e,R⟩::g,B0 H (.ac ⟨.ready,none,R.e,R.n,e,b.toList,a,c,o.d⟩)⟩) 12
def LoopState.a:LoopState->Nat | .ready=>0 | .busy=>1 | .done=>2 | .exhausted=>3
def Pz:fP:=λ_ k b R a H=>
 oN (ob R.c λl=>ob (tK H l) λr=>tB (Nat.beq (LoopState.a r.e) 0)
  (some ⟨⟨k,b,R⟩,a,A7 H l (.ac ⟨.busy,r.a,r.g,r.n,r.h,r.b,r.c,r.f,r.d⟩)⟩)) 13
def Pw(l:Nat):fP:=λ_ k b R a H=>
 oN (ob (tK H l) λr=>tB (!Nat.beq (LoopState.a r.e) 1)
  (some ⟨⟨(match r.a with | some c=>.a c::k | none=>k),b,R⟩,a,A7 H l (.ac ⟨.exhausted,r.a,r.g,r.n,r.h,r.b,r.c,r.f,r.d⟩)⟩)) 14
def vl:Code->XB
 | .skip=>⟨Iy⟩
 | .region e g d=>zry e g d
 | .seq a b=>⟨λC k j R h H=>(vl a).f C (.a b::k) j R h H⟩
 | .cond c x y=>⟨Py c x y⟩
 | .block e c=>⟨zoy e c⟩
 | .loop c=>⟨vg c⟩
 | .rangeFunc f i a b=>⟨Pu f i a b⟩
 | .exit e=>⟨Gc e⟩
 | .scope c=>⟨iq c⟩
 | .label _=>⟨Iy⟩
 | .goto _=>⟨vh⟩
 | .ret=>⟨ns⟩
 | .refuse _=>⟨vh⟩
def ph:aE->XB
 | .a c=>vl c
 | .f _=>⟨Iy⟩
 | .i c=>⟨vg c⟩
 | .k _=>⟨Iy⟩
 | .h b e=>⟨xOps b e⟩
 | .d b f d a=>⟨tW b f d a⟩
 | .e _=>⟨vh⟩
 | .g l=>⟨Pw l⟩
 | .b=>⟨Pz⟩
def iV(C:fA)(a:List aE)(tm:Tm)(R:qL)(cs:List pC)(H:sA):fG:=
 match a with
 | []=>dW none C ⟨[],tm,R⟩ cs H
 | x::k=>(ph x).f C k tm R cs H
def JK(a:pC)(d:List kI):pC:=⟨a.a,a.b,⟨a.R.e,a.R.n,d,a.R.a,a.R.b,a.R.c⟩⟩
def Jp(C:fA)(d:kI)(ds:List kI)(a:pC)(cs:List pC)(H:sA):fG:=
 oN (match d.b with
  | none=>ob (As H d.r) λl=>ob l λl=>some ⟨JK a (tE l ds),cs,A7 H d.r (.ah none)⟩
  | some (.aa f)=>match C.c.c f with
   | none=>ob (iL C f d.a true) λg=>some ⟨g,JK a ds::cs,H⟩
   | some _=>none
  | some (.ac _)=>none) 15
def Ju(l:List O):O:=
 match l with
 | [v]=>v
 | l=>.p l
def Jo(C:fA)(b:pC)(cs:List pC)(H:sA):fG:=
 match ob (C.d.c b.R.e) λd=>iZ C H b.b d.results.toList with
 | none=>.ac 16
 | some l=>
  match cs with
  | []=>bif b.R.b then .ac 17 else bif Nat.beq b.R.e C.f then .ah (Ju l) H else .ac 22
  | c::a=>oN (bif b.R.b then
    (match c.R.a with
    | .ac (⟨_,true⟩::_)=>some ⟨Dp c .aa,a,H⟩
    | _=>tB (!c.R.a.a) (some ⟨c,a,H⟩))
   else ob (eI c (Ju l)) λc=>some ⟨c,a,H⟩) 18
def Vl(C:fA)(b:pC)(cs:List pC)(H:sA):fG:=
 match b.R.d with
 | d::f=>Jp C d f b cs H
 | []=>match b.R.a.b with
  | some a=>oN (ob (C.d.c b.R.e) λ_=>match cs with | c::e=>some ⟨gZ c a,e,H⟩ | []=>none) 19
  | none=>Jo C b cs H
def V6(C:fA)(s:kU):fG:=
 match s with
 | ⟨⟨a,c,R⟩,b,H⟩=>bif R.a.a then iV C a c R b H else Vl C ⟨a,c,R⟩ b H
def eX(C:fA)(o:fG):fG:=
 match o with
 | .aa s=>V6 C s
 | .ah v H=>.ah v H
 | .ac n=>.ac n
def jW (C:fA)(n:Nat):fG->fG:=
 Nat.rec (motive:=λ_=>fG->fG) (λo=>eX C o) (λ_ g o=>g (g o)) n
end Go.Am
namespace Go.Am
open Go
theorem pA{c d:Type}{x:Option c}{f:c->Option d}{b:d}:ob x f=some b ↔ ∃a,x=some a/\f a=some b:=by
 cases x with
 | none=>simp[ob]
 | some a=>exact⟨λh=>⟨a,rfl,h⟩,fun⟨_,h,k⟩=>by cases h;exact k⟩
@[simp] theorem zts {a b:Type} {f:a->Option b}:ob none f=none:=rfl
@[simp] theorem mA {b c:Type} {a:b} {f:b->Option c}:ob (some a) f=f a:=rfl
theorem qB{c:Type}{b:Bool}{x:Option c}{a:c}:tB b x=some a ↔ b=true/\x=some a:=by
 cases b with
 | false=>simp[tB]
 | true=>simp[tB]
theorem eL{d:Type}(a b:d)(c:Bool):(Bool.rec (motive:=λ_=>d) a b c:d)=if c=true then b else a:=by cases c<;>rfl
theorem bC{n m:Nat}:(Nat.beq n m=true) ↔ n=m:=⟨Nat.eq_of_beq_eq_true,λh=>by simp_all⟩
theorem Q9{n m:Nat}:(Nat.beq n m=false) ↔ n≠m:=by
 rw[<- Bool.not_eq_true,bC]
theorem rF{n m:Nat}:(Nat.ble n m=true) ↔ n<=m:=Iff.of_eq Nat.ble_eq
theorem gC{n m:Nat}:(Nat.blt n m=true) ↔ n<m:=Iff.of_eq Nat.ble_eq
def bD{d:Type}(c:Bool)(a b:d):(bif c then a else b)=if c=true then a else b:=by cases c<;>rfl
namespace G
variable {a:Type}
theorem ah(n:Nat):(aj:G a).c n=none:=rfl
theorem au(l:G a)(v:Option a)(r:G a)(n:Nat) :
  (ak l v r).c n=if n=0 then v else if n%2=1 then l.c (n / 2)else r.c (n / 2-1):=by
 show Bool.rec (motive:=λ_=>Option a) (Bool.rec (motive:=λ_=>Option a) (r.c (n / 2-1)) (l.c (n / 2)) (Nat.beq (n%2) 1)) v (Nat.beq n 0)=_
 grind [eL,bC]
theorem Xc(f n:Nat)(v:a):mk (f+1) n v=if n=0 then ak aj (some v) aj else if n%2=1 then ak (mk f (n / 2) v) none aj else ak aj none (mk f (n / 2-1) v):=by
 show Bool.rec (motive:=λ_=>G a) (Bool.rec (motive:=λ_=>G a) (ak aj none (mk f (n / 2-1) v)) (ak (mk f (n / 2) v) none aj) (Nat.beq (n%2) 1)) (ak aj (some v) aj) (Nat.beq n 0)=_
 grind [eL,bC]
def Vz(n:Nat)(v:a):(aj:G a).d n v=mk (n+1) n v:=rfl
theorem bI(l:G a)(x:Option a)(r:G a)(n:Nat)(v:a) :
  (ak l x r).d n v=if n=0 then ak l (some v) r else if n%2=1 then ak (l.d (n / 2) v) x r else ak l x (r.d (n / 2-1) v):=by
 show Bool.rec (motive:=λ_=>G a) (Bool.rec (motive:=λ_=>G a) (ak l x (r.d (n / 2-1) v)) (ak (l.d (n / 2) v) x r) (Nat.beq (n%2) 1)) (ak l (some v) r) (Nat.beq n 0)=_
 grind [eL,bC]
theorem bh(l:G a)(x:Option a)(r:G a)(n:Nat) :
  (ak l x r).q n=if n=0 then ak l none r else if n%2=1 then ak (l.q (n / 2)) x r else ak l x (r.q (n / 2-1)):=by
 show Bool.rec (motive:=λ_=>G a) (Bool.rec (motive:=λ_=>G a) (ak l x (r.q (n / 2-1))) (ak (l.q (n / 2)) x r) (Nat.beq (n%2) 1)) (ak l none r) (Nat.beq n 0)=_
 grind [eL,bC]
def ba(f:Nat):∀(n m:Nat) (v:a),n<f->(mk f n v).c m=if m=n then some v else none:=by
 induction f with
 | zero=>omega
 | succ f b=>
  grind [Xc,au,ah]
theorem aa(t:G a):∀(n m:Nat) (v:a),(t.d n v).c m=if m=n then some v else t.c m:=by
 induction t with
 | aj=>intro n m v;rw[Vz,ba _ _ _ _ (by omega),ah]
 | ak l x r b c=>
  grind [bI,au]
def be:∀(f g n:Nat) (v:a),n<f->n<g->mk f n v=mk g n v:=by
 intro f;induction f with
 | zero=>omega
 | succ f b=>
  intro g n v c d
  cases g with
  | zero=>omega
  | succ g=>
   rw[Xc,Xc];split
   .rfl
   .split
    .rw[b g _ v (by omega) (by omega)]
    .rw[b g _ v (by omega) (by omega)]
def JG(n:Nat)(v:a):(aj:G a).d n v=if n=0 then ak aj (some v) aj else if n%2=1 then ak (aj.d (n / 2) v) none aj else ak aj none (aj.d (n / 2-1) v):=by
 rw[Vz,Xc];split
 .rfl
 .split
  .rw[Vz,be n (n / 2+1) _ v (by omega) (by omega)]
  .rw[Vz,be n (n / 2-1+1) _ v (by omega) (by omega)]
def WI:∀(s n m:Nat) (x y:a),n+m<=s->n≠m->((aj:G a).d n x).d m y=((aj:G a).d m y).d n x:=by
 intro s;induction s with
 | zero=>omega
 | succ s f=>
  intro n m x y i g;rw[JG n x,JG m y];by_cases c:n=0
  .have b:m≠0:=by omega
   rw[A5 c,A3 b,bI,A3 b];split
   .rw[bI,A5 c]
   .rw[bI,A5 c]
  .rw[A3 c];by_cases b:m=0
   .rw[A5 b];split
    .rw[bI,A5 b,bI,A3 c];rename_i h;rw[A5 h]
    .rw[bI,A5 b,bI,A3 c];rename_i h;rw[A3 h]
   .rw[A3 b];by_cases d:n%2=1<;>by_cases e:m%2=1
    .rw[A5 d,A5 e,bI,A3 b,A5 e,bI,A3 c,A5 d,f _ _ x y (by omega) (by omega)]
    .rw[A5 d,A3 e,bI,A3 b,A3 e,bI,A3 c,A5 d]
    .rw[A3 d,A5 e,bI,A3 b,A5 e,bI,A3 c,A3 d]
    .rw[A3 d,A3 e,bI,A3 b,A3 e,bI,A3 c,A3 d,f _ _ x y (by omega) (by omega)]
def ay(t:G a):∀(n m:Nat) (x y:a),n≠m->(t.d n x).d m y=(t.d m y).d n x:=by
 induction t with
 | aj=>exact λn m x y h=>WI (n+m) n m x y (B3 _) h
 | ak l v r f g=>
  intro n m x y i;rw[bI l v r n x,bI l v r m y];by_cases c:n=0
  .have b:m≠0:=by omega
   rw[A5 c,A3 b,bI,A3 b];split
   .rw[bI,A5 c]
   .rw[bI,A5 c]
  .rw[A3 c];by_cases b:m=0
   .rw[A5 b];split
    .rw[bI,A5 b,bI,A3 c];rename_i h;rw[A5 h]
    .rw[bI,A5 b,bI,A3 c];rename_i h;rw[A3 h]
   .rw[A3 b];by_cases d:n%2=1<;>by_cases e:m%2=1
    .rw[A5 d,A5 e,bI,A3 b,A5 e,bI,A3 c,A5 d,f _ _ x y (by omega)]
    .rw[A5 d,A3 e,bI,A3 b,A3 e,bI,A3 c,A5 d]
    .rw[A3 d,A5 e,bI,A3 b,A5 e,bI,A3 c,A3 d]
    .rw[A3 d,A3 e,bI,A3 b,A3 e,bI,A3 c,A3 d,g _ _ x y (by omega)]
theorem e(t:G a):∀(n m:Nat),(t.q n).c m=if m=n then none else t.c m:=by
 induction t with
 | aj=>intro n m;show(aj:G a).c m=_;rw[ah];split<;>rfl
 | ak l x r b c=>
  grind [bh,au]
def aw(t:G a)(n i:Nat):t.u (n+1) i=ob (t.c i) λv=>ob (t.u n (i+1)) λl=>some (v::l):=rfl
def w(t:G a)(n:Nat):∀(i:Nat) (l:List a),t.u n i=some l->l.length=n/\∀j,j<n->t.c (i+j)=l[j]?:=by
 induction n with
 | zero=>intro i l h;cases h;simp_all
 | succ n c=>
  intro i l h;rw[aw,pA]at h;obtain⟨v,b,h⟩:=h;rw[pA]at h;grind
theorem WM(v:a)(l:List a)(t:G a)(i:Nat):am (v::l) t i=am l (t.d i v) (i+1):=rfl
theorem ap(l:List a):∀(t:G a) (i m:Nat),(am l t i).c m=if i<=m/\m<i+l.length then l[m-i]? else t.c m:=by
 induction l with
 | nil=>intro t i m;rw[A3 (by simp)];rfl
 | cons v l b=>
  grind [WM,aa]
theorem o(l:List a)(m:Nat):(ac l).c m=l[m]?:=by
 grind [ac,ap,ah]
end G
theorem yI{b:Type}(l:List b):∀n,lD l n=l[n]?:=by
 induction l with
 | nil=>intro n;rfl
 | cons a l c=>
  intro n
  cases n with
  | zero=>rfl
  | succ n=>show lD l n=_;grind
theorem mT{b:Type}(l:List b):∀n,lT l n=l.drop n:=by
 induction l with
 | nil=>intro n;simp;rfl
 | cons a l c=>
  intro n
  cases n with
  | zero=>rfl
  | succ n=>show lT l n=_;grind
theorem rV{b:Type}(l:List b):∀n,Ef l n=l.take n:=by
 induction l with
 | nil=>intro n;simp;rfl
 | cons a l c=>
  intro n
  cases n with
  | zero=>rfl
  | succ n=>show a::Ef l n=_;grind
theorem eD{b:Type}(l:List b):wB l=l.length:=by
 induction l with
 | nil=>rfl
 | cons a l c=>grind [wB]
theorem xI{b:Type}(l m:List b):tE l m=l++m:=by
 induction l with
 | nil=>rfl
 | cons a l c=>grind [tE]
theorem gI{b:Type}(p:b->Bool)(l:List b):oD p l=l.all p:=by
 induction l with
 | nil=>rfl
 | cons a l c=>show(bif p a then oD p l else false)=_;rw[c];cases h:p a<;>simp[h]
theorem oQ{c d:Type}(f:c->Option d)(a:c)(l:List c):kH f (a::l)=ob (f a) λb=>ob (kH f l) λr=>some (b::r):=rfl
theorem Kw{a b:Type}(f:a->Option b):kH f []=some []:=rfl
theorem Ee(i:Nat)(l:List Nat):yJ i l=true ↔ i∈l:=by
 induction l with
 | nil=>exact⟨λh=>(by cases h),λh=>(by cases h)⟩
 | cons j l a=>
  grind [yJ,bC]
theorem bJ(a:List Nat):∀b,sF a b=true ↔ a=b:=by
 induction a with
 | nil=>intro b;cases b with
  | nil=>exact⟨λ_=>rfl,λ_=>rfl⟩
  | cons y b=>exact⟨λh=>(by cases h),λh=>(by cases h)⟩
 | cons x a c=>
  intro b
  cases b with
  | nil=>exact⟨λh=>(by cases h),λh=>(by cases h)⟩
  | cons y b=>
   simp_all [sF]
theorem sO{a b:IntKind}:oP a b=true ↔ a=b:=by cases a<;>cases b<;>simp[oP,fh]
theorem xZ(a b:Bool):K5 a b=(a == b):=by cases a<;>cases b<;>rfl
theorem An(a b:Int):kB a b=true ↔ a=b:=by
 cases a<;>cases b<;>simp only[kB,bC] <;> (try simp)<;>omega
theorem Ya(a b:Int):sE a b=true ↔ a<=b:=by
 cases a<;>cases b<;>simp only[sE,rF] <;> (try simp)<;>omega
theorem Lb(a b:Int):bB a b=true ↔ a<b:=by
 cases a<;>cases b<;>simp only[bB,gC] <;> (try simp)<;>omega
theorem Ep(a b:Int):kB a b=(a == b):=by grind [An]
def zrc(a b:Int):sE a b=decide (a<=b):=by grind [Ya]
def zrb(a b:Int):bB a b=decide (a<b):=by grind [Lb]
theorem iR(k:IntKind)(n:Int):cA k n=k.wrap n:=by
 cases n with
 | ofNat n=>
  show(bif Nat.blt n (aH k)then Int.ofNat n else _)=_;rw[bD];by_cases h:Nat.blt n (aH k)=true
  .rw[A5 h];have a:=gC.1 h;cases k<;>simp only[aH]at a<;>simp only[IntKind.wrap,IntKind.bits,IntKind.signed]<;>simp<;>omega
  grind
 | negSucc n=>
  show(bif Nat.blt n (Z9 k)then Int.negSucc n else _)=_;rw[bD];by_cases h:Nat.blt n (Z9 k)=true
  .rw[A5 h];have a:=gC.1 h;cases k<;>simp only[Z9]at a<;>simp only[IntKind.wrap,IntKind.bits,IntKind.signed]<;>simp<;>omega
  grind
theorem Sd{n:Int}{m:Nat}:wO n=some m ↔ n=(m:Int):=by
 cases n with
 | ofNat a=>grind [wO]
 | negSucc a=>grind [wO]
end Go.Am
namespace Go.Am
open Go
variable {a b k v:O}{r:Bool}{l f m:List (O × O)}
theorem Oa  (h:iT a b=some r) :
  (∃k x y,a=.e k x/\b=.e k y/\r=(x == y))\/(∃x y,a=.h x/\b=.h y/\r=sF x y)\/(∃x y,a=.d x/\b=.d y/\r=(x == y)):=by
 cases a<;>simp only[iT,O.ac,O.w,Oj,O.r]at h<;>try (cases h;done)
 case d x=>
  rw[mA,pA]at h;grind [xZ]
 all_goals grind [pA,qB,sO,Ep]
def OD (h:iT a b=some true):a=b:=by
 grind [Oa,bJ]
def OE  (h:iT a b=some r):iT b a=some r:=by
 rcases Oa h with⟨k,x,y,rfl,rfl,c⟩ | ⟨x,y,rfl,rfl,c⟩ | ⟨x,y,rfl,rfl,c⟩
 .have e:kB y x=(x == y):=by grind [Ep]
  show tB (oP k k) (some (kB y x))=_
  grind [qB,sO]
 .grind [iT,O.ac,O.w,mA,bJ]
 .simp only[iT,O.ac,O.w,Oj,O.r,xZ,mA,c];rw[show(y == x)=(x == y) by cases x<;>cases y<;>rfl]
def NX:∀ {x y:List O},pY x y=some true->x=y
 | [],[],_=>rfl
 | a::x,b::y,h=>by
  simp only[pY,pA]at h;obtain⟨r,c,s,d,h⟩:=h;cases r<;>cases s<;>simp at h;rw[OD c,NX d]
 | [],_::_,h=>by cases h
 | _::_,[],h=>by cases h
def NY:∀ {x y:List O} {r:Bool},pY x y=some r->pY y x=some r
 | [],[],_,h=>h
 | a::x,b::y,r,h=>by
  simp only[pY,pA]at h ⊢;obtain⟨e,c,s,d,h⟩:=h;exact⟨e,OE c,s,NY d,h⟩
 | [],_::_,_,h=>by cases h
 | _::_,[],_,h=>by cases h
def Sx  (h:kJ a b=some r):(∃x y,a=.i x/\b=.i y/\pY x y=some r)\/(a.ak=none/\iT a b=some r):=by
 unfold kJ at h;split at h
 .rename_i x c;rw[pA]at h;obtain⟨y,d,h⟩:=h;cases a<;>simp[O.ak]at c;cases b<;>simp[O.ak]at d
  simp_all
 simp_all
def zhd  (h:iT a b=some r):kJ a b=some r:=by
 rcases Oa h with⟨k,x,y,rfl,rfl,c⟩ | ⟨x,y,rfl,rfl,c⟩ | ⟨x,y,rfl,rfl,c⟩<;>exact h
theorem OC (h:kJ a b=some true):a=b:=by
 rcases Sx h with⟨x,y,rfl,rfl,h⟩ | ⟨_,h⟩
 .rw[NX h]
 .exact OD h
theorem Sw  (h:kJ a b=some r):kJ b a=some r:=by
 rcases Sx h with⟨x,y,rfl,rfl,h⟩ | ⟨_,h⟩
 .exact NY h
 .exact zhd (OE h)
def DK (l:List (O × O)):Prop:=l.Pairwise λp q=>kJ p.1 q.1=some false
def Pn(l f:List (O × O)):Prop:=f=l\/(l.Perm f/\DK l)
def DK.c (h:DK l)(p:l.Perm f):DK f:=(p.pairwise_iff (λa=>Sw a)).1 h
theorem FE{k:O}:∀ {l:List (O × O)},aM k l=some none ↔ ∀e∈l,kJ k e.1=some false
 | []=>by simp[aM]
 | e::l=>by
  rw[aM,pA];constructor
  .rintro⟨r,b,h⟩
   cases r with
   | true=>cases h
   | false=>
    rw[cond_false]at h;intro x a;rcases C3.1 a with rfl | a
    .exact b
    .exact FE.1 h x a
  .intro h;exact⟨false,h e (.head _),FE.2 λx a=>h x (.tail _ a)⟩
def QC{k v:O}:∀ {l:List (O × O)},aM k l=some (some v)->(k,v)∈l/\kJ k k=some true
 | [],h=>by cases h
 | e::l,h=>by
  rw[aM,pA]at h;obtain⟨r,c,h⟩:=h
  cases r with
  | true=>
   grind [OC]
  | false=>
   rw[cond_false]at h;obtain⟨a,b⟩:=QC h
   simp_all
def DK.d  (h:DK (l++(k,v)::m)):(∀e∈l,kJ k e.1=some false)/\∀e∈m,kJ k e.1=some false:=by
 unfold DK at h;rw[List.pairwise_append]at h;obtain⟨_,b,c⟩:=h;rw[List.pairwise_cons]at b;exact⟨λe a=>Sw (c e a (k,v) (.head _)),λe a=>b.1 e a⟩
def zbh  (h:∀e∈l,kJ k e.1=some false):aM k (l++m)=aM k m:=by
 induction l with
 | nil=>rfl
 | cons e l a=>
  grind [aM,mA]
def zbi  {r:Option O}(h:Pn l f)(c:aM k l=some r):aM k f=some r:=by
 rcases h with rfl | ⟨p,d⟩
 .exact c
 cases r with
 | none=>
  grind [FE]
 | some v=>
  obtain⟨e,g⟩:=QC c;obtain⟨a,b,rfl⟩:=List.append_of_mem (p.mem_iff.1 e);rw[zbh (d.c p).d.1,aM,g,mA,cond_true]
def CB{k v:O}:∀ {l:List (O × O)},(∀e∈l,kJ k e.1=some false)->uQ k v l=some (l++[(k,v)])
 | [],_=>rfl
 | e::l,h=>by
  rw[uQ,h e (.head _),mA,cond_false,CB λx a=>h x (.tail _ a)];rfl
def JI{k v u:O}{m:List (O × O)}(a:kJ k k=some true):∀ {l:List (O × O)},(∀e∈l,kJ k e.1=some false)->uQ k v (l++(k,u)::m)=some (l++(k,v)::m)
 | [],_=>by simp_all [uQ]
 | e::l,h=>by
  rw[List.cons_append,uQ,h e (.head _),mA,cond_false,JI a λx b=>h x (.tail _ b)];rfl
def JH{k v:O}:∀ {l r:List (O × O)},uQ k v l=some r->((∀e∈l,kJ k e.1=some false)/\r=l++[(k,v)])\/(kJ k k=some true/\∃a u b,l=a++(k,u)::b/\r=a++(k,v)::b)
 | [],r,h=>by cases h;simp_all
 | e::l,r,h=>by
  rw[uQ,pA]at h;obtain⟨q,c,h⟩:=h
  cases q with
  | true=>
   rw[cond_true]at h;cases h;have:=OC c;refine .inr ⟨by simp_all,[],e.2,l,?_,rfl⟩;rw[E8,this]
  | false=>
   rw[cond_false,pA]at h;obtain⟨i,d,h⟩:=h;cases h;rcases JH d with⟨g,rfl⟩ | ⟨f,a,u,b,rfl,rfl⟩
   all_goals grind
def WK {r:List (O × O)}(h:Pn l f)(j:uQ k v l=some r):∃n,uQ k v f=some n/\Pn r n:=by
 rcases h with rfl | ⟨p,d⟩
 .exact⟨r,j,.inl rfl⟩
 rcases JH j with⟨z,rfl⟩ | ⟨w,a,u,b,rfl,rfl⟩
 .refine⟨_,CB λe A=>z e (p.mem_iff.2 A),.inr ⟨p.append_right _,?_⟩⟩;unfold DK;rw[List.pairwise_append];exact⟨d,by simp,λx m y i=>by grind [Sw]⟩
 .obtain⟨c,g,rfl⟩:=List.append_of_mem (p.mem_iff.1 (D9 a (.head b)));refine⟨_,JI w (d.c p).d.1,.inr ⟨?_,?_⟩⟩
  .have B:(a++b).Perm (c++g):=by
    have C:(a++(k,u)::b).Perm ((k,u)::(a++b)):=List.perm_middle;have D:(c++(k,u)::g).Perm ((k,u)::(c++g)):=List.perm_middle;exact(C.symm.trans (p.trans D)).cons_inv
   exact List.perm_middle.trans ((B.cons _).trans List.perm_middle.symm)
  .unfold DK at d ⊢;rw[List.pairwise_append,List.pairwise_cons]at d ⊢;obtain⟨o,⟨q,s⟩,t⟩:=d;refine⟨o,⟨q,s⟩,λx m y i=>?_⟩;rcases C3.1 i with rfl | i
   .exact t x m (k,u) (.head _)
   grind
end Go.Am
namespace Go.Am
open Go
structure BI where
 b:Nat
 a:Bool
 d:Nat
 c:Nat
 e:Bool
structure Mu where
 m:Nat->Option BI
 n:Nat->Option (vA × Nat × Nat)
instance:CoeFun Mu λ_=>Nat->Option BI:=⟨Mu.m⟩
def Mu.l(μ ν:Mu):Prop:=∀a i,μ a=some i->ν a=some i
structure Mu.le (μ ν:Mu):Prop where
 f:∀a i,μ a=some i->ν a=some i
 c:ν.n=μ.n
instance {μ ν:Mu}:CoeFun (μ.le ν) λ_=>∀a i,μ a=some i->ν a=some i:=⟨Mu.le.f⟩
instance {μ ν:Mu}:Coe (μ.le ν) (μ.l ν):=⟨Mu.le.f⟩
def Mu.g(μ:Mu):μ.le μ:=⟨λ_ _ h=>h,rfl⟩
def Mu.o{a b c:Mu}(h:a.le b)(k:b.le c):a.le c:=⟨λx i d=>k.f x i (h.f x i d),k.c.trans h.c⟩
def Pp(μ:Mu):K6->Fn->Prop
 | .aa f,a=>a=.func f
 | .ac l,a=>∃i,μ l=some i/\a=.yield i.b
mutual
def rA (μ:Mu):O->Value->Prop
 | .d b,v=>v=.bool b
 | .e k n,v=>v=.int k n
 | .h l,v=>∃s,v=.string s/\sG s=l
 | .y,v=>v=.pointer none
 | .j b off,v=>∃i,μ b=some i/\v=.pointer (some ⟨i.b,off,none⟩)
 | .g,v=>v=.slice none 0 0
 | .m b off d cap,v=>(∃i cap',μ b=some i/\v=.slice (some ⟨i.b,off,none⟩) d cap'/\cap<=cap'/\(i.a=true->cap'=cap)/\(i.a=false->off+cap'*i.d<=i.c))\/(b=0/\d=0/\cap=0/\∃a c,v=.slice (some a) 0 c/\(off=0/\c=0\/off=1))
 | .ax,v=>v=.map none
 | .bc b,v=>∃i,μ b=some i/\v=.map (some i.b)
 | .q f a c,v=>∃fn a' c',v=.func fn a' c'/\Pp μ f fn/\jB μ a a'.toList/\jB μ c c'.toList
 | .ap,v=>v=.nilFunc
 | .aw t x,v=>∃x',v=.iface t x'/\rA μ x x'
 | .x,v=>v=.nilIface
 | .i l,v=>∃cs,v=.agg cs/\jB μ l cs.toList
 | .p l,v=>∃cs,v=.tuple cs/\jB μ l cs.toList
def jB (μ:Mu):List O->List Value->Prop
 | [],m=>m=[]
 | a::l,m=>∃v r,m=v::r/\rA μ a v/\jB μ l r
end
theorem Pp.a{μ ν:Mu}(h:μ.l ν){f:K6}{g:Fn}(k:Pp μ f g):Pp ν f g:=by
 cases f with
 | aa f=>exact k
 | ac l=>obtain⟨i,a,b⟩:=k;exact⟨i,h _ _ a,b⟩
mutual
theorem rA.d{μ ν:Mu}(h:μ.l ν):∀(a:O) (v:Value),rA μ a v->rA ν a v
 | .d _,_,k=>k
 | .e _ _,_,k=>k
 | .h _,_,k=>k
 | .y,_,k=>k
 | .j _ _,_,⟨i,b,d⟩=>⟨i,h _ _ b,d⟩
 | .g,_,k=>k
 | .m _ _ _ _,_,.inl ⟨i,c,b,d⟩=>.inl ⟨i,c,h _ _ b,d⟩
 | .m _ _ _ _,_,.inr k=>.inr k
 | .ax,_,k=>k
 | .bc _,_,⟨i,b,d⟩=>⟨i,h _ _ b,d⟩
 | .q _ a c,_,⟨fn,a',c',b,d,e,f⟩=>⟨fn,a',c',b,d.a h,jB.q h a _ e,jB.q h c _ f⟩
 | .ap,_,k=>k
 | .aw _ x,_,⟨x',b,d⟩=>⟨x',b,rA.d h x _ d⟩
 | .x,_,k=>k
 | .i l,_,⟨cs,b,d⟩=>⟨cs,b,jB.q h l _ d⟩
 | .p l,_,⟨cs,b,d⟩=>⟨cs,b,jB.q h l _ d⟩
theorem jB.q{μ ν:Mu}(h:μ.l ν):∀(l:List O) (m:List Value),jB μ l m->jB ν l m
 | [],_,k=>k
 | a::l,_,⟨v,r,b,d,e⟩=>⟨v,r,b,rA.d h a v d,jB.q h l r e⟩
end
def jB.d{μ:Mu}{l:List O}:∀ {m:List Value},jB μ l m->m.length=l.length:=by
 induction l with
 | nil=>grind [jB]
 | cons a l b=>grind [jB]
theorem jB.w{μ:Mu}{l:List O}:∀ {m:List Value} {i:Nat} {a:O},jB μ l m->l[i]?=some a->∃v,m[i]?=some v/\rA μ a v:=by
 induction l with
 | nil=>simp_all
 | cons b l c=>
  grind [jB]
theorem jB.mk{μ:Mu}{l:List O}:∀ {m:List Value},m.length=l.length->(∀(i:Nat) a v,l[i]?=some a->m[i]?=some v->rA μ a v)->jB μ l m:=by
 induction l with
 | nil=>grind [jB]
 | cons a l b=>
  intro m h k
  cases m with
  | nil=>simp at h
  | cons v r=>
   rw[jB];exact⟨v,r,rfl,k 0 a v (by simp) (by simp),b (by grind) λi a v c d=>k (i+1) a v (by simp_all) (by simp_all)⟩
def jB.o{μ:Mu}{l b:List O}:∀ {m c:List Value},jB μ l m->jB μ b c->jB μ (l++b) (m++c):=by
 induction l with
 | nil=>grind [jB]
 | cons a l d=>grind [jB]
def jB.z{μ:Mu}{l:List O}{m:List Value}(h:jB μ l m)(n:Nat):jB μ (l.drop n) (m.drop n):=by
 refine jB.mk (by simp[h.d]) λi a v b c=>?_;rw[mb]at b c;obtain⟨u,e,d⟩:=h.w b
 simp_all
def jB.aa{μ:Mu}{l:List O}{m:List Value}(h:jB μ l m)(n:Nat):jB μ (l.take n) (m.take n):=by
 refine jB.mk (by simp[h.d]) λi a v b c=>?_;rw[uo]at b c;split at b
 .rename_i d;rw[A5 d]at c;obtain⟨u,f,e⟩:=h.w b
  simp_all
 grind
theorem jB.p{μ:Mu}:jB μ [] []:=by rw[jB]
def jB.e{μ:Mu}{a:O}{l:List O}{v:Value}{m:List Value}(h:rA μ a v)(k:jB μ l m):jB μ (a::l) (v::m):=by grind [jB]
def jB.g{μ:Mu}{a:O}{v:Value}(h:rA μ a v):jB μ [a] [v]:=.e h .p
theorem Ik{v:O}{b:Bool}:v.r=some b ↔ v=.d b:=by cases v<;>simp[O.r]
def GN{v:O}{n:Int}:v.ba=some n ↔ ∃k,v=.e k n:=by cases v<;>simp[O.ba]
theorem Az{v:O}{p:IntKind × Int}:v.ac=some p ↔ v=.e p.1 p.2:=by cases v<;>simp[O.ac,Prod.ext_iff]
theorem Ay{v:O}{l:List Nat}:v.w=some l ↔ v=.h l:=by cases v<;>simp[O.w]
def Lu{v:O}{p:Nat × Nat}:v.ah=some p ↔ v=.j p.1 p.2:=by cases v<;>simp[O.ah,Prod.ext_iff]
def Ij{v:O}{p:Nat × Nat × Nat × Nat}:v.u=some p ↔ v=.m p.1 p.2.1 p.2.2.1 p.2.2.2:=by cases v<;>simp[O.u,Prod.ext_iff]
def Zu{v:O}{b:Nat}:v.az=some b ↔ v=.bc b:=by cases v<;>simp[O.az]
theorem Pg{v:O}{l:List O}:v.ak=some l ↔ v=.i l:=by cases v<;>simp[O.ak]
def zb9{v:O}{l:List O}:v.ay=some l ↔ v=.p l:=by cases v<;>simp[O.ay]
theorem SZ{v:O}{p:K6 × List O × List O}:v.am=some p ↔ v=.q p.1 p.2.1 p.2.2:=by cases v<;>simp[O.am,Prod.ext_iff]
def SY{v:O}{p:Nat × O}:v.au=some p ↔ v=.aw p.1 p.2:=by cases v<;>simp[O.au,Prod.ext_iff]
theorem Zt{v:O}{n:Nat}:v.aj=some n ↔ ∃k,v=.e k (n:Int):=by
 simp_all [O.aj,pA,GN,Sd]
theorem pZ{v:O}:(v.aa=3 ↔ v=.y)/\(v.aa=5 ↔ v=.g)/\(v.aa=7 ↔ v=.ax)/\(v.aa=10 ↔ v=.ap)/\(v.aa=12 ↔ v=.x):=by
 cases v<;>simp[O.aa]
def rA.e{μ:Mu}{a:O}{v:Value}(h:rA μ a v)(b:a.ak=none):v.cells = #[v]:=by
 cases a<;>rw[rA]at h<;>first
  | (subst h;rfl)
  | (rcases h with⟨_,_,_,rfl,_⟩ | ⟨_,_,_,_,_,rfl,_⟩<;>rfl)
  | (obtain⟨_,rfl,_⟩:=h;rfl)
  | (obtain⟨_,_,rfl⟩:=h;rfl)
  | (obtain⟨_,_,_,rfl,_⟩:=h;rfl)
  | grind [O.ak]
def rA.g{μ:Mu}{a:O}{v:Value}(h:rA μ a v)(b:a.z=true):v.oneCell'=true:=by
 cases a<;>rw[rA]at h<;>first
  | (subst h;rfl)
  | (rcases h with⟨_,_,_,rfl,_⟩ | ⟨_,_,_,_,_,rfl,_⟩<;>rfl)
  | (obtain⟨_,rfl,_⟩:=h;rfl)
  | (obtain⟨_,_,rfl⟩:=h;rfl)
  | (obtain⟨_,_,_,rfl,_⟩:=h;rfl)
  | (revert b;decide)
  | (have:=gC.1 b;grind [O.aa])
def Zj{μ:Mu}{a:O}{v:Value}(h:rA μ a v):jB μ a.s v.cells.toList:=by
 unfold O.s
 cases b:a.ak with
 | none=>rw[h.e b];exact jB.g h
 | some l=>rw[Pg.1 b,rA]at h;obtain⟨c,rfl,h⟩:=h;exact h
def kS(P:Program)(t:Nat):lE:=
 match P.underlying t with
 | some .bool=>.r
 | some (.int k)=>.m k
 | some .string=>.j
 | some (.pointer e)=>.v e
 | some (.slice e)=>.i e
 | some (.array n e)=>.q n e
 | some (.map k e)=>.w k e
 | some (.struct a)=>.f (a.toList.map λf=>(f.offset,f.type,P.cellsOf f.type))
 | some (.func ..)=>.u
 | some (.interface _)=>.s
 | _=>.t
def Xw:Value->Bool
 | .agg _=>true
 | _=>false
def zk7(P:Program)(t:Nat):Bool:=(P.fieldsOf t).toList.all λf=>(P.info? f.type).isSome
def R0 (P:Program)(t:Nat):Option jD:=
 match P.info? t with
 | some i=>match i.zero with
  | some z=>ob (kH Km z.cells.toList) λl=>tB (K5 (Xw z) (kS P t).h&&(P.underlying t).isSome&&zk7 P t)
    (some ⟨kS P t, i.size, i.bytes, l, !P.stoodInHeld t && !P.eqGuardType P.depth t && (P.fieldsOf t).toList.all (λf => f.name != "_")⟩)
  | none=>none
 | none=>none
def nG(P:Program)(C:fA):Prop:=∀t a,C.b.c t=some a->R0 P t=some a
theorem Zn{a b:ByteArray}(h:sG a=sG b):a=b:=by
 have c:a.data.toList=b.data.toList:=by
  grind [sG,List.map_inj_right,UInt8.toNat_inj]
 have d:a.data=b.data:=mr.1 c;cases a;simp_all
theorem LV{μ:Mu}{v:Value}{a:O}(h:Km v=some a):rA μ a v/\a.z=true:=by
 unfold Km at h;split at h<;>cases h<;>refine⟨?_,rfl⟩<;>rw[rA]
 simp_all
theorem LU{μ:Mu}{m:List Value}:∀ {l:List O},kH Km m=some l->jB μ l m:=by
 induction m with
 | nil=>grind [Kw,jB.p]
 | cons v m d=>
  intro l h;rw[oQ,pA]at h;obtain⟨a,b,h⟩:=h;rw[pA]at h;obtain⟨r,c,h⟩:=h;cases h;exact .e (LV b).1 (d c)
def XP{μ:Mu}{v:Value}{a:O}(h:DD v=some a):rA μ a v:=by
 unfold DD at h;split at h
 .rename_i c b;rw[pA]at h;obtain⟨l,d,h⟩:=h;cases h;cases v<;>simp[zrq]at b
  grind [rA,LU]
 grind [LV]
structure lO (P:Program) (t:Nat) (ty:jD):Prop where
 g:∃i,P.info? t=some i/\i.size=ty.b/\i.bytes=ty.d/\∃z,i.zero=some z/\kH Km z.cells.toList=some ty.c/\Xw z=ty.a.h
 b:kS P t=ty.a
 c:∃d,P.underlying t=some d
 k:∀f∈(P.fieldsOf t).toList,∃i,P.info? f.type=some i
 l : ty.e = true -> P.stoodInHeld t = false /\ P.eqGuardType P.depth t = false /\ ∀ f ∈ (P.fieldsOf t).toList, f.name ≠ "_"
def VB{P:Program}{t:Nat}{ty:jD}(h:R0 P t=some ty):lO P t ty:=by
 unfold R0 at h;split at h
 .rename_i i c;split at h
  .rename_i z e;rw[pA]at h;obtain⟨l,d,h⟩:=h;rw[qB]at h;obtain⟨a,h⟩:=h;cases h;rw[B2,B2]at a;refine⟨⟨i,c,rfl,rfl,z,e,d,?_⟩,rfl,Option.isSome_iff_exists.1 a.1.2,λf b=>Option.isSome_iff_exists.1 (C9.1 a.2 f b),λh=>?_⟩
   all_goals grind [xZ]
  .cases h
 .cases h
def nG.a{P:Program}{C:fA}(h:nG P C){t:Nat}{ty:jD}(k:C.b.c t=some ty):lO P t ty:=VB (h t ty k)
section
variable {P:Program}{w:World}{t:Nat}{ty:jD}
def Kb{i:TypeInfo}(h:P.info? t=some i):(typeInfo t).run P w=.ok i w:=by
 simp[typeInfo,h]
def wG{d:TypeDesc}(h:P.underlying t=some d):(underlying t).run P w=.ok d w:=by
 simp[underlying,h]
def lO.a(h:lO P t ty):(sizeOf t).run P w=.ok ty.b w:=by
 obtain⟨i,a,b,_⟩:=h.g;simp[sizeOf,Kb a,b]
def lO.e(h:lO P t ty){μ:Mu}:∃z,(∀w,(zeroValue t).run P w=.ok z w)/\rA μ (Bi ty) z/\jB μ ty.c z.cells.toList:=by
 obtain⟨i,d,_,_,z,e,f,a⟩:=h.g;have c:jB μ ty.c z.cells.toList:=LU f;refine⟨z,λw=>by simp[zeroValue,Kb d,e],?_,c⟩;unfold Bi
 cases b:ty.a.h with
 | true=>
  rw[b]at a;cases z<;>simp[Xw]at a;show rA μ (.i ty.c) _;rw[rA];exact⟨_,rfl,c⟩
 | false=>
  rw[b]at a;have g:z.cells = #[z]:=by cases z<;>first | rfl | simp[Xw]at a
  grind [jB]
def lO.j(h:lO P t ty):(Go.isAgg t).run P w=.ok ty.a.h w:=by
 obtain⟨d,b⟩:=h.c;have a:=h.b;unfold kS at a;rw[b]at a;unfold Go.isAgg;rw[C0,wG b,C1,<- a];cases d<;>rfl
def Lk(h:lO P t ty){fs:List (Nat × Nat × Nat)}(k:ty.a.b=some fs):∃g,P.underlying t=some (.struct g)/\fs=g.toList.map λf=>(f.offset,f.type,P.cellsOf f.type):=by
 obtain⟨d,b⟩:=h.c;have a:=h.b
 grind [kS,lE.b]
def wX(h:lO P t ty){e:Nat}(k:ty.a.a=some e):P.underlying t=some (.slice e):=by
 obtain⟨d,b⟩:=h.c;have a:=h.b;unfold kS at a;rw[b]at a;rw[<- a]at k;cases d<;>simp[lE.a]at k;rw[b,k]
def Yy(h:lO P t ty){p:Nat × Nat}(k:ty.a.g=some p):P.underlying t=some (.array p.1 p.2):=by
 obtain⟨d,b⟩:=h.c;have a:=h.b;unfold kS at a;rw[b]at a;rw[<- a]at k;cases d<;>simp[lE.g]at k;rw[b,<- k]
def RC(h:lO P t ty){p:Nat × Nat}(k:ty.a.p=some p):P.underlying t=some (.map p.1 p.2):=by
 obtain⟨d,b⟩:=h.c;have a:=h.b;unfold kS at a;rw[b]at a;rw[<- a]at k;cases d<;>simp[lE.p]at k;rw[b,<- k]
def FT(h:lO P t ty){k:IntKind}(e:ty.a.o=some k):P.underlying t=some (.int k):=by
 obtain⟨d,b⟩:=h.c;have a:=h.b;unfold kS at a;rw[b]at a;rw[<- a]at e;cases d<;>simp[lE.o]at e;rw[b,e]
def Yx(h:lO P t ty)(e:ty.a.c=true):P.underlying t=some .string:=by
 obtain⟨d,b⟩:=h.c;have a:=h.b
 grind [kS,lE.c,lE.l,Nat.beq]
def RB(h:lO P t ty)(e:Nat.blt ty.a.l 9=true):∃d,P.underlying t=some d/\∀a,d≠.interface a:=by
 obtain⟨d,b⟩:=h.c;refine⟨d,b,λa c=>?_⟩;subst c;have f:=h.b
 grind [kS,gC,lE.l]
end
structure Fx (μ:Mu) (d:kI) (e:Deferred):Prop where
 a:match d.b with
  | none=>∃i,μ d.r=some i/\e={ target:=.collected i.b,args := #[] }
  | some f=>∃fn cap as,e={ target:=.fn fn cap,args:=as }/\Pp μ f fn/\jB μ d.a (as++cap).toList
def eF(μ:Mu)(n:Nat)(tm:Tm)(tmps:Array Value):Prop:=tmps.size=n/\∀i v,tm.a i=some v->rA μ v (tmps.getD i undef)
structure Uu (μ:Mu) (l:iO) (r:Loop):Prop where
 f:r.state=l.e
 a:r.pending=l.a
 g:r.fn=l.g
 j:eF μ l.n l.h r.tmps
 b:r.params.toList=l.b
 c:r.assign=l.c
 e:r.body=l.f
 d:∃i,μ l.d=some i/\r.defers=i.b
inductive tD {α β:Type} (R:α->β->Prop):List α->List β->Prop
 | ac:tD R [] []
 | aa {a b l m}:R a b->tD R l m->tD R (a::l) (b::m)
def mK (μ:Mu)(i:BI):vA->Obj->Prop
 | .aa c n g,o=>∃h d m,o=.cells h d m/\n<=h.size/\(i.e=true\/m.2<=m.1\/h.size<=m.1)/\(∀(j:Nat) v,c.c j=some v->j<n/\∃y,h[j]?=some y/\rA μ v y) ∧
   (match g with | none=>i.a=true | some w=>i.a=false/\i.d=w.c/\i.c=h.size/\∀t,w=.a t->d=t)
 | .aj l,o=>∃u f k,o=.map u f/\Pn l k/\tD (λp e=>rA μ p.1 e.key/\rA μ p.2 e.val) k u.toList
 | .ac l,o=>∃r,o=.loop r/\Uu μ l r
 | .ah l,o=>∃k,o=.deferred k/\(match l,k with | none,none=>True | some a,some b=>tD (Fx μ) a b | _,_=>False)
 | .ak s q,o=>∃x,o=.stringIter x q/\sG x=s
structure mB (B N:Nat) (μ:Mu) (H:sA) (w:World):Prop where
 ak:256<=B
 ac:∀g,g<256->μ g=some ⟨g,true,0,0,true⟩
 aw:∀a x i,a<B->H.t.c a=some x->μ a=some i->i.b<N/\x.d=none/\x.b=none
 ah:B<=H.a
 aa:N<=w.heap.size
 r:∀a,H.a<=a->μ a=none/\H.t.c a=none
 am:∀a x i,H.t.c a=some x->μ a=some i->∃o,w.heap[i.b]?=some o/\mK μ i x o
 aj:∀a i,B<=a->μ a=some i->N<=i.b/\i.b<w.heap.size/\i.e=false
 inj:∀a b x y i j,H.t.c a=some x->H.t.c b=some y->μ a=some i->μ b=some j->B<=a->B<=b->i.b=j.b->a=b
 ax:∀a x t,μ.n a=some (x,t)->μ a=none/\H.t.c a=some x/\B<=a
end Go.Am
namespace Go.Am
open Go
variable {a x:Operand}{b f off t:Nat}{p:G O × Nat × Option Lo}{i:BI}{l:List O}
def jG (μ:Mu)(e:mD)(a:Operand->Value):Prop:=∀x v,ev x e=some v->rA μ v (a x)
def jG.d{μ:Mu}{e:mD}{c:Operand->Value}(h:jG μ e c):∀ {l:List Operand} {r:List O},lQ l e=some r->jB μ r (l.map c):=by
 intro l;induction l with
 | nil=>intro r k;unfold lQ at k;rw[Kw]at k;cases k;exact .p
 | cons x l g=>
  intro r k;unfold lQ at k;rw[oQ,pA]at k;obtain⟨a,d,k⟩:=k;rw[pA]at k;obtain⟨b,f,k⟩:=k;cases k;exact .e (h _ _ d) (g f)
def jG.c{μ:Mu}{e:mD}{f:Operand->Value}(h:jG μ e f):∀ {l:List (Nat × Operand)} {r:List (Nat × O)},I1 l e=some r →
  tD (λp q=>p.1=q.1/\rA μ p.2 q.2) r (l.map λx=>(x.1,f x.2)):=by
 intro l;induction l with
 | nil=>intro r k;unfold I1 at k;rw[Kw]at k;cases k;exact .ac
 | cons x l i=>
  intro r k;unfold I1 at k;rw[oQ,pA]at k;obtain⟨a,c,k⟩:=k;rw[pA]at c;obtain⟨j,c,d⟩:=c;cases d;rw[pA]at k;obtain⟨b,g,k⟩:=k;cases k;exact .aa ⟨rfl,h _ _ c⟩ (i g)
def vm(μ:Mu):Option O->Option Value->Prop
 | none,none=>True
 | some a,some v=>rA μ a v
 | _,_=>False
def jG.g{μ:Mu}{e:mD}{b:Operand->Value}(h:jG μ e b){x:Option Operand}{r:Option O}(k:I0 x e=some r):vm μ r (x.map b):=by
 cases x with
 | none=>cases k;trivial
 | some x=>unfold I0 at k;simp only[]at k;rw[pA]at k;obtain⟨a,c,k⟩:=k;cases k;exact h _ _ c
theorem Cw(b off n:Nat):Addr.add ⟨b,off,none⟩ n=⟨b,off+n,none⟩:=by
 grind [Addr.add]
section
variable {P:Program}{C:fA}{B N:Nat}{μ:Mu}{H:sA}{w:World}
def Fo  (h:fD H b=some p):H.t.c b=some (.aa p.1 p.2.1 p.2.2):=by
 unfold fD at h;rw[pA]at h;obtain⟨x,a,h⟩:=h;cases x<;>simp[vA.a]at h
 grind
def mB.bh(d:mB B N μ H w)  (h:fD H b=some p) (hi:μ b=some i){j:Nat}{v:O}(l:p.1.c j=some v) :
  ∃v',w.cell? ⟨i.b,j,none⟩=some v'/\rA μ v v':=by
 obtain⟨o,g,c⟩:=d.am _ _ _ (Fo h) hi;obtain⟨e,a,f,rfl,_,_,k,_⟩:=c
 grind [World.cell?]
def mB.ba(m:mB B N μ H w)  (h:fD H b=some p) (hi:μ b=some i){n:Nat} (q:p.1.u n off=some l) :
  ∃c:List Value,c.length=n/\jB μ l c/\(loadCells ⟨i.b,off,none⟩ n).run P w=.ok c.toArray w/\∀j,j<n->w.cell? ⟨i.b,off+j,none⟩=c[j]?:=by
 obtain⟨s,k⟩:=G.w _ _ _ _ q;have r:∀j,j<n->∃e,w.cell? ⟨i.b,off+j,none⟩=some e/\∃a,l[j]?=some a/\rA μ a e:=by
  intro j o;have g:=k j o
  cases d:l[j]? with
  | none=>grind
  | some a=>
   rw[d]at g;obtain⟨e,t,u⟩:=m.bh h hi g
   simp_all
 let f:Nat->Value:=λj=>(w.cell? ⟨i.b,off+j,none⟩).getD undef
 have v:∀j,j<n->w.cell? ⟨i.b,off+j,none⟩=some (f j):=by
  grind
 refine⟨(List.range n).map f,by simp,?_,?_,?_⟩
 all_goals grind [jB.mk,run_loadCells,Cw]
def MJ(e:mB B N μ H w) {ty:jD}(c:lO P t ty)  (h:fD H b=some p) (hi:μ b=some i) {v:O}
  (a:qV ty p.1 off=some v):∃v',(loadVar t ⟨i.b,off,none⟩).run P w=.ok v' w/\rA μ v v':=by
 unfold qV at a;unfold loadVar;rw[C0,c.j,C1]
 cases f:ty.a.h with
 | true=>
  rw[f,cond_true,pA]at a;obtain⟨l,k,a⟩:=a;cases a;obtain⟨m,_,d,j,_⟩:=e.ba (P:=P) h hi k;refine⟨.agg m.toArray,?_,by grind [rA]⟩;rw[A5 rfl,C0,c.a,C1,C0,j];rfl
 | false=>
  rw[f,cond_false]at a;obtain⟨v',g,d⟩:=e.bh h hi a;refine⟨v',?_,d⟩;rw[A3 (by simp),run_load,g]
def Rs(g:nG P C)  {cs:Array Value}(e:jB μ l cs.toList) {v:O}(a:wT C t l off=some v) :
  ∃v',(part t cs off).run P w=.ok v' w/\rA μ v v':=by
 unfold wT at a;rw[pA]at a;obtain⟨f,b,a⟩:=a;have c:=g.a b;unfold part;rw[C0,c.j,C1]
 cases d:f.a.h with
 | true=>
  rw[d,cond_true]at a;cases a;refine⟨.agg (cs.extract off (off+f.b)),?_,?_⟩
  .rw[A5 rfl,C0,c.a];rfl
  .rw[rA];refine⟨_,rfl,?_⟩;rw[rV,mT,Array.toList_extract,List.extract_eq_take_drop,Nat.add_sub_cancel_left];exact(e.z _).aa _
 | false=>
  rw[d,cond_false,yI]at a;obtain⟨v',h,i⟩:=e.w a
  simp_all
def cJ (P:Program)(μ:Mu)(w:World)(b:Operand->Value)(o:Oper)(v:O):Prop:=∃a,(execOp b o).run P w=.ok (.value a) w/\rA μ v a
variable {e:mD}{m:Operand->Value}{dst:Option Tmp}{type:TypeId}{n:String}{j:Array Edge}{k:Option (Nat × Bool)}{v:O}
def NA(a:jG μ e m) (h:oS x C e H=some v):cJ P μ w m ⟨dst,.move x,type,n,j,k⟩ v:=⟨m x,rfl,a x v h⟩
def NQ(a:jG μ e m) (h:oS x C e H=some v):cJ P μ w m ⟨dst,.assign x,type,n,j,k⟩ v:=⟨m x,rfl,a x v h⟩
def MZ(d:jG μ e m){c b:Operand}(h:Sr c a b C e H=some v):cJ P μ w m ⟨dst,.pick c a b,type,n,j,k⟩ v:=by
 unfold Sr at h;rw[pA]at h;obtain⟨o,l,h⟩:=h;rw[pA]at h;obtain⟨g,i,h⟩:=h;have f:=d _ _ l;rw[Ik.1 i,rA]at f;unfold cJ execOp;simp only[f,asBool]
 cases g with
 | true=>exact⟨m a,rfl,d _ _ h⟩
 | false=>exact⟨m b,rfl,d _ _ h⟩
def ND(o:nG P C)(l:mB B N μ H w)(g:jG μ e m)  (h:Ab t a C e H=some v):cJ P μ w m ⟨dst,.load t a,type,n,j,k⟩ v:=by
 unfold Ab at h;simp only[pA,Lu]at h;obtain⟨x,q,p,rfl,A,b,c,r,h⟩:=h;have d:=g _ _ q;rw[rA]at d;obtain⟨i,s,z⟩:=d;obtain⟨u,y,f⟩:=MJ (P:=P) l (o.a b) r s h;refine⟨u,?_,f⟩
 grind [execOp,Instr.loadAt,Instr.sureAddr,Sem.run_bind,Sem.run_pure,Result.andThen_ok]
def zgy(p:jG μ e m) (h:Ej x C e H=some v):cJ P μ w m ⟨dst,.nilCheck x,type,n,j,k⟩ v:=by
 unfold Ej at h;rw[pA]at h;obtain⟨a,q,h⟩:=h;rw[qB]at h;obtain⟨r,h⟩:=h;cases h;have c:=p _ _ q;refine⟨m x,?_,c⟩;cases v<;>simp[O.aa,Nat.beq]at r
 .rw[rA]at c;obtain⟨i,_,s⟩:=c
  simp_all [execOp]
 .rename_i g a b;rw[rA]at c;obtain⟨o,t,u,s,d,_⟩:=c
  cases g with
  | aa f=>cases d;simp_all [execOp]
  | ac l=>obtain⟨i,_,rfl⟩:=d;simp_all [execOp]
def NJ(c:jG μ e m){fn:Fn}{a b:Array Operand}(h:(Hr fn a b).f C e H=some v):cJ P μ w m ⟨dst,.makeFunc fn a b,type,n,j,k⟩ v:=by
 unfold Hr at h;split at h
 .rename_i f;simp only[Ny,pA]at h;obtain⟨i,d,l,g,h⟩:=h;cases h;refine⟨.func (.func f) (a.map m) (b.map m),rfl,?_⟩;rw[rA];exact⟨_,_,_,rfl,rfl,by simpa using c.d d,by simpa using c.d g⟩
 .cases h
def NI(f:nG P C)(c:jG μ e m)  (h:Hq t x C e H=some v):cJ P μ w m ⟨dst,.makeInterface t x,type,n,j,k⟩ v:=by
 unfold Hq at h;simp only[pA,qB]at h;obtain⟨p,b,i,a,g,h⟩:=h;cases h;obtain⟨d,l,o⟩:=RB (f.a b) i;refine⟨.iface t (m x),?_,by rw[rA];exact⟨_,rfl,c _ _ g⟩⟩;simp only[execOp,Instr.makeInterface,C0,wG l,C1];cases d<;>first | rfl | exact absurd rfl (o _)
def NN(d:jG μ e m){t:Operand}{i:Nat}(h:Ag t i C e H=some v):cJ P μ w m ⟨dst,.extract t i,type,n,j,k⟩ v:=by
 unfold Ag at h;simp only[pA,zb9,yI]at h;obtain⟨a,f,l,rfl,h⟩:=h;have b:=d _ _ f;rw[rA]at b;obtain⟨p,r,g⟩:=b;obtain⟨o,q,c⟩:=g.w h;refine⟨o,?_,c⟩
 simp_all [execOp,Instr.extract]
def NK(p:nG P C)(s:jG μ e m)   (h:Ht t x f C e H=some v):cJ P μ w m ⟨dst,.field t x f,type,n,j,k⟩ v:=by
 unfold Ht at h;simp only[pA,Pg,yI]at h;obtain⟨J,i,D,c,B,b,a,u,l,rfl,h⟩:=h;obtain⟨g,F,rfl⟩:=Lk (p.a i) c;have o:=s _ _ u;rw[rA]at o;obtain⟨A,I,y⟩:=o;rw[F7]at b
 cases d:g.toList[f]? with
 | none=>simp_all
 | some q=>
  rw[d]at b;simp at b;subst b;obtain⟨z,E,r⟩:=Rs (w:=w) p y h;refine⟨z,?_,r⟩
  simp_all [execOp,Instr.field,wG,asAgg]
def NM(y:nG P C)(u:jG μ e m){s:Nat}  (h:Af s x f C e H=some v):cJ P μ w m ⟨dst,.fieldAddr s x f,type,n,j,k⟩ v:=by
 unfold Af at h;simp only[pA,Lu,yI,qB]at h;obtain⟨M,q,D,l,B,c,L,a,z,p,rfl,h⟩:=h;cases h;obtain⟨g,I,rfl⟩:=Lk (y.a q) l;have r:=u _ _ z;rw[rA]at r;obtain⟨i,J,K⟩:=r;rw[F7]at c
 cases o:g.toList[f]? with
 | none=>simp_all
 | some b=>
  rw[o]at c;simp at c;subst c;refine⟨.pointer (some ⟨i.b,p.2+b.offset,none⟩),?_,by grind [rA]⟩;have E:g[f]?=some b:=by simp_all
  have t:P.cellsOf b.type≠0:=by
   grind [Q9]
  have F:(sizeOf b.type).run P w=.ok (P.cellsOf b.type) w:=by
   unfold Program.cellsOf at t ⊢
   cases d:P.info? b.type with
   | none=>simp_all
   | some A=>simp[sizeOf,Kb d]
  simp_all [execOp,Instr.fieldAt,wG,Instr.sureAddr,fieldPlace,Cw]
end
end Go.Am
namespace Go.Am
open Go
section
variable {P:Program}{C:fA}{B N:Nat}{μ:Mu}{H:sA}{w:World}
variable {e:mD}{c:Operand->Value}{dst:Option Tmp}{type:TypeId}{A:String}{o:Array Edge}{z:Option (Nat × Bool)}{v:O}
def Ja{k:IntKind}{n:Nat}(h:n<aH k):k.wrap (n:Int)=n:=by
 rw[<- iR];show(bif Nat.blt n (aH k)then Int.ofNat n else _)=_
 grind [gC]
def ED(k:IntKind):∃m,aH k=2^m/\m<=k.bits:=by
 cases k
 .exact⟨7,rfl,by decide⟩
 .exact⟨15,rfl,by decide⟩
 .exact⟨31,rfl,by decide⟩
 .exact⟨63,rfl,by decide⟩
 .exact⟨8,rfl,by decide⟩
 .exact⟨16,rfl,by decide⟩
 .exact⟨32,rfl,by decide⟩
 .exact⟨64,rfl,by decide⟩
def Fk{k:IntKind}{n:Nat}(h:n<aH k):(BitVec.ofInt k.bits (n:Int)).toNat=n:=by
 obtain⟨m,b,a⟩:=ED k;rw[BitVec.toNat_ofInt];have:n<2^k.bits:=Nat.lt_of_lt_of_le (b ▸ h) (O8 (by omega) a);rw[<- Int.natCast_emod,Int.toNat_natCast,Nat.mod_eq_of_lt this]
def Yb{f:Nat->Nat->Nat}{k:IntKind}{a b:Int}{v:O}(h:jJ f k a b=some v):∃x y:Nat,a=x/\b=y/\x<aH k/\y<aH k/\v=.e k (f x y:Nat):=by
 grind [jJ,pA,Sd,qB,gC]
def zjq{op:BinOp}{k:IntKind}{a b:Int}(h:(uv op).f k a b=some v):op≠.shl/\op≠.shr/\∀t,∃v',(binOp op t (.int k a) (.int k b)).run P w=.ok v' w/\rA μ v v':=by
 cases op<;>simp only[uv]at h
 case add=>cases h;simp_all [binOp,Op.intArith,rA,iR]
 case sub=>cases h;simp_all [binOp,Op.intArith,rA,iR]
 case mul=>cases h;simp_all [binOp,Op.intArith,rA,iR]
 case quo=>
  unfold Eo at h;simp only[bD,An]at h;split at h
  .cases h
  .rename_i g;cases h
   simp_all [rA,iR,binOp,Op.intDiv]
 case rem=>
  unfold En at h;simp only[bD,An]at h;split at h
  .cases h
  .rename_i g;cases h
   simp_all [rA,binOp,Op.intDiv]
 case and=>
  unfold M4 at h;split at h
  .obtain⟨x,y,rfl,rfl,f,c,rfl⟩:=Yb h;refine⟨by simp,by simp,λt=>⟨.int k ((x &&& y:Nat):Int),?_,by rw[rA];rfl⟩⟩;have d:x &&& y<aH k:=P5 Nat.and_le_left f;simp only[binOp,Op.intBits,BitVec.toNat_and,Fk f,Fk c,Ja d];simp
  .simp only[pA,Sd,qB,gC]at h;obtain⟨y,rfl,c,h⟩:=h;cases h;have e:(BitVec.ofInt k.bits a).toNat=Int.toNat (Int.emod a (.ofNat (kW k))):=by
    rw[BitVec.toNat_ofInt];cases k<;>rfl
   generalize Int.toNat (Int.emod a (.ofNat (kW k)))=x at e ⊢;refine⟨by simp,by simp,λt=>⟨.int k ((x &&& y:Nat):Int),?_,by rw[rA];rfl⟩⟩;have d:x &&& y<aH k:=P5 Nat.and_le_right c;simp only[binOp,Op.intBits,BitVec.toNat_and,e,Fk c,Ja d];simp
 case or=>
  obtain⟨x,y,rfl,rfl,f,c,rfl⟩:=Yb h;obtain⟨m,i,_⟩:=ED k;refine⟨by simp,by simp,λt=>⟨.int k ((x ||| y:Nat):Int),?_,by rw[rA];rfl⟩⟩;have d:x ||| y<aH k:=by simp_all [Nat.or_lt_two_pow]
  simp only[binOp,Op.intBits,BitVec.toNat_or,Fk f,Fk c,Ja d];simp
 case xor=>
  obtain⟨x,y,rfl,rfl,f,c,rfl⟩:=Yb h;obtain⟨m,i,_⟩:=ED k;refine⟨by simp,by simp,λt=>⟨.int k ((x ^^^ y:Nat):Int),?_,by rw[rA];rfl⟩⟩;have d:x ^^^ y<aH k:=by simp_all [Nat.xor_lt_two_pow]
  simp only[binOp,Op.intBits,BitVec.toNat_xor,Fk f,Fk c,Ja d];simp
 case eql=>cases h;simp_all [binOp,Op.intCmp,rA,Ep]
 case neq=>cases h;exact⟨by simp,by simp,λt=>⟨.bool (a != b),by simp[binOp,Op.intCmp],by rw[rA,Ep];rfl⟩⟩
 case lss=>cases h;simp_all [binOp,Op.intCmp,rA,zrb]
 case leq=>cases h;simp_all [binOp,Op.intCmp,rA,zrc]
 case gtr=>cases h;simp_all [binOp,Op.intCmp,rA,zrb]
 case geq=>cases h;simp_all [binOp,Op.intCmp,rA,zrc]
 all_goals cases h
theorem Pc(s:ByteArray):(sG s).length=s.size:=by simp[sG]
theorem ZH(a b:ByteArray):sG (a++b)=sG a++sG b:=by simp[sG]
def zb4(s:ByteArray)(i:Nat):(sG s)[i]?=(s[i]?).map UInt8.toNat:=by
 unfold sG;rw[F7];congr 1;by_cases h:i<s.size
 all_goals simp_all [ByteArray.getElem_eq_getElem_data]
theorem SQ(s:ByteArray)(l h:Nat):sG (s.extract l h)=((sG s).take h).drop l:=by
 unfold sG;rw[ByteArray.data_extract,Array.toList_extract,List.extract_eq_take_drop,<- List.map_take,<- List.map_drop,List.drop_take]
def SR{a b:ByteArray}:(a.toList == b.toList)=(sF (sG a) (sG b)):=by
 grind [Lib.toList_data,bJ,sG,Zn]
def za1(a:List UInt8):∀b:List UInt8,Op.bytesLess a b=DU (a.map UInt8.toNat) (b.map UInt8.toNat):=by
 induction a with
 | nil=>intro b;cases b<;>rfl
 | cons x a c=>
  intro b
  cases b with
  | nil=>rfl
  | cons y b=>
   show _=(bif Nat.blt x.toNat y.toNat then true else bif Nat.beq x.toNat y.toNat then DU (a.map UInt8.toNat) (b.map UInt8.toNat)else false)
   grind [Op.bytesLess,gC,UInt8.lt_iff_toNat_lt,UInt8.toNat_inj,bC]
def zjn{op:BinOp}{a b:ByteArray}(h:(uw op).f (sG a) (sG b)=some v):op≠.shl/\op≠.shr/\∀t,∃v',(binOp op t (.string a) (.string b)).run P w=.ok v' w/\rA μ v v':=by
 cases op<;>simp only[uw]at h
 case add=>
  simp only[lG,qB,gC,eD,xI,Pc]at h;obtain⟨c,h⟩:=h;cases h;refine⟨by simp,by simp,λt=>⟨.string (a++b),?_,by grind [rA,ZH]⟩⟩;have d:¬ (((a.size+b.size:Nat):Int) > IntKind.i64.max):=by
   have:IntKind.i64.max=9223372036854775807:=by decide
   omega
  simp_all [binOp,Op.stringOp]
 case eql=>cases h;exact⟨by simp,by simp,λt=>⟨.bool (a.toList == b.toList),rfl,by rw[rA,SR]⟩⟩
 case neq=>cases h;exact⟨by simp,by simp,λt=>⟨.bool !(a.toList == b.toList),rfl,by rw[rA,SR]⟩⟩
 case lss=>cases h;exact⟨by simp,by simp,λt=>⟨.bool (Op.bytesLess a.toList b.toList),rfl,by rw[rA,Lib.toList_data,Lib.toList_data,za1];rfl⟩⟩
 all_goals cases h
def Tn{op:BinOp}{t:TypeId}{x y:Operand}{a b:Value}(c:¬ (a=.nilIface/\b=.nilIface)\/(Tb x||Tb y)=true)(d:∀l m,¬ (a=.agg l/\b=.agg m)):(eqGuard op t x y a b).run P w=.ok () w:=by
 unfold eqGuard;cases op
 case eql | neq=>
  rw[A3 (by simp)];split
  .rcases c with c | c
   .simp_all
   .cases x<;>cases y<;>simp[Tb]at c ⊢
  all_goals simp_all
 all_goals rfl
theorem YK{op:BinOp}{t:TypeId}{x y:Operand}{l m:Array Value}(h:P.eqGuardType P.depth t=false):(eqGuard op t x y (.agg l) (.agg m)).run P w=.ok () w:=by
 simp_all [eqGuard]
def Mz{op:BinOp}{t a:TypeId}{x y:Operand}{v':Value}(b:(eqGuard op t x y (c x) (c y)).run P w=.ok () w)(d:(binOp op t (c x) (c y)).run P w=.ok v' w) :
  (execOp c ⟨dst,.binOp op t x y a,type,A,o,z⟩).run P w=.ok (.value v') w:=by
 simp_all [execOp]
def JF{k:IntKind}{b:Int}{n:Nat}(h:Jz k b=some n):¬ b<0/\n=min b.toNat k.bits:=by
 grind [Jz,pA,Sd]
def SU{op:BinOp}{t i:TypeId}{x y:Operand}{a b:O}(f:rA μ a (c x))(g:rA μ b (c y))
  (h:(op=.shl/\Uj Al a b=some v)\/(op=.shr/\Uj dw a b=some v)):cJ P μ w c ⟨dst,.binOp op t x y i,type,A,o,z⟩ v:=by
 rcases h with⟨rfl,h⟩ | ⟨rfl,h⟩
 all_goals
  unfold Uj at h;simp only[pA,Az,GN]at h;obtain⟨p,rfl,n,⟨j,rfl⟩,h⟩:=h;rw[rA]at f g
 .unfold Al at h;rw[pA]at h;obtain⟨m,e,h⟩:=h;cases h;obtain⟨d,rfl⟩:=JF e;refine⟨.int p.1 (p.1.wrap (p.2*2^(min n.toNat p.1.bits))),Mz (Tn (.inl (by grind)) (by grind)) ?_,by rw[rA,iR];simp⟩;rw[f,g];simp[binOp,Op.shift,d]
 .unfold dw at h;rw[pA]at h;obtain⟨m,e,h⟩:=h;cases h;obtain⟨d,rfl⟩:=JF e;refine⟨.int p.1 (p.2.fdiv (2^(min n.toNat p.1.bits))),Mz (Tn (.inl (by grind)) (by grind)) ?_,by rw[rA];simp⟩;rw[f,g];simp[binOp,Op.shift,d]
def Tl{n m:Nat}{a b:O}{r:Bool}(h:Ic n m a b=some r):(a.aa=n/\b.aa=n/\r=true)\/(a.aa=n/\b.aa=m/\r=false)\/(a.aa=m/\b.aa=n/\r=false):=by
 grind [Ic,bC,qB]
theorem zif{t:Nat}{ty:jD}(n:lO P t ty){a b:O}{o p:Value}(f:rA μ a o)(g:rA μ b p){r:Bool}{d:Nat}(h:To ty.a a b=some r) :
  (Op.equalIn (d+1) t o p).run P w=.ok r w:=by
 obtain⟨D,m⟩:=n.c;have j:=n.b;unfold kS at j;rw[m]at j;unfold Op.equalIn;rw[C0,wG m,C1];rw[<- j]at h;cases D<;>simp only[To]at h<;>try (cases h;done)
 case bool=>
  simp only[Oj,pA,Ik]at h;obtain⟨x,rfl,y,rfl,h⟩:=h
  simp_all [rA,xZ]
 case int k=>
  simp only[uu,pA,Az,qB,sO]at h;obtain⟨x,rfl,y,rfl,q,h⟩:=h
  simp_all [rA,Ep]
 case string=>
  simp only[FO,pA,Ay]at h;obtain⟨x,rfl,y,rfl,h⟩:=h;cases h;rw[rA]at f g;obtain⟨s,rfl,rfl⟩:=f;obtain⟨u,rfl,rfl⟩:=g;have:(s == u)=sF (sG s) (sG u):=by
   rw[Bool.eq_iff_iff,bJ];have c:(s == u)=(s.data == u.data):=rfl
   grind [sG,Zn]
  simp_all
 case pointer l=>
  rcases Tl h with⟨c,e,rfl⟩ | ⟨c,e,rfl⟩ | ⟨c,e,rfl⟩<;>cases a<;>simp[O.aa]at c<;>cases b<;>simp[O.aa]at e<;>rw[rA]at f<;>rw[rA]at g
  .simp_all
  .obtain⟨i,_,g⟩:=g;simp_all
  .obtain⟨i,_,f⟩:=f;simp_all
 case slice l=>
  rcases Tl h with⟨c,e,rfl⟩ | ⟨c,e,rfl⟩ | ⟨c,e,rfl⟩<;>cases a<;>simp[O.aa]at c<;>cases b<;>simp[O.aa]at e<;>rw[rA]at f<;>rw[rA]at g
  .simp_all
  .rcases g with⟨i,_,_,g,_⟩ | ⟨_,_,_,_,_,g,_⟩ <;> (simp_all)
  .rcases f with⟨i,_,_,f,_⟩ | ⟨_,_,_,_,_,f,_⟩ <;> (simp_all)
 case map k l=>
  rcases Tl h with⟨c,e,rfl⟩ | ⟨c,e,rfl⟩ | ⟨c,e,rfl⟩<;>cases a<;>simp[O.aa]at c<;>cases b<;>simp[O.aa]at e<;>rw[rA]at f<;>rw[rA]at g
  .simp_all
  .obtain⟨i,_,g⟩:=g;simp_all
  .obtain⟨i,_,f⟩:=f;simp_all
 case func z A B=>
  rcases Tl h with⟨c,e,rfl⟩ | ⟨c,e,rfl⟩ | ⟨c,e,rfl⟩<;>cases a<;>simp[O.aa]at c<;>cases b<;>simp[O.aa]at e<;>rw[rA]at f<;>rw[rA]at g
  .simp_all
  .obtain⟨i,_,_,g,_⟩:=g;simp_all
  .obtain⟨i,_,_,f,_⟩:=f;simp_all
 case interface v=>
  rcases Tl h with⟨c,e,rfl⟩ | ⟨c,e,rfl⟩ | ⟨c,e,rfl⟩<;>cases a<;>simp[O.aa]at c<;>cases b<;>simp[O.aa]at e<;>rw[rA]at f<;>rw[rA]at g
  .simp_all
  .obtain⟨i,g,_⟩:=g;simp_all
  .obtain⟨i,f,_⟩:=f;simp_all
theorem QF{t:Nat}{g:Array Field}(h:P.underlying t=some (.struct g)):P.fieldsOf t=g:=by unfold Program.fieldsOf;rw[h]
theorem zot(j:nG P C){D:Nat}{i:Nat->O->O->Option Bool}(c:∀t a b d e r,rA μ a d->rA μ b e->i t a b=some r->(Op.equalIn D t d e).run P w=.ok r w)
  {m n : List O} {k l : Array Value} (B : jB μ m k.toList) (E : jB μ n l.toList) : ∀ (g : List Field) (r : Bool), (∀ f ∈ g, f.name ≠ "_") -> Pi C i m n (g.map λf => (f.offset, f.type, P.cellsOf f.type)) = some r →
   (Op.eqFields D k l g).run P w=.ok r w:=by
 intro g;induction g with
 | nil=>intro r _ h;cases h;rfl
 | cons f g F=>
  intro r z h;rw[G4,Pi]at h;simp only[pA]at h;obtain⟨a,x,b,y,q,A,h⟩:=h;obtain⟨d,o,p⟩:=Rs (P:=P) (w:=w) j B x;obtain⟨e,s,u⟩:=Rs (P:=P) (w:=w) j E y;have v:=c _ _ _ _ _ _ p u A;rw[Op.eqFields,A5 (z f (by simp))];simp only[C0,o,C1,s,v]
  cases q with
  | true=>grind
  | false=>simp_all
def zrs(l:nG P C):∀(d D t:Nat) (a b:O) (c e:Value) (r:Bool),d<=D->rA μ a c->rA μ b e->P1 C d t a b=some r->(Op.equalIn D t c e).run P w=.ok r w:=by
 intro d;induction d with
 | zero=>intro D t a b c e r _ _ _ h;cases h
 | succ d v=>
  intro D t a b c e r p q s h
  cases D with
  | zero=>omega
  | succ D=>
   rw[P1,pA]at h;obtain⟨x,j,h⟩:=h;have k:=l.a j;split at h
   .rename_i m f;simp only[qB,pA,Pg]at h;obtain⟨i,y,rfl,z,rfl,h⟩:=h;obtain⟨g,u,rfl⟩:=Lk k f;obtain⟨n,_,o⟩:=k.l i
    grind [rA,QF,run_equalIn_struct,zot]
   grind [zif]
theorem zwj(j:nG P C){d t:Nat}{a b:O}{l m:Array Value}{r:Bool}(e:rA μ a (.agg l))(k:rA μ b (.agg m))(h:P1 C d t a b=some r):P.eqGuardType P.depth t=false:=by
 cases d with
 | zero=>cases h
 | succ d=>
  rw[P1,pA]at h;obtain⟨n,f,h⟩:=h;split at h
  .rw[qB]at h;exact((j.a f).l h.1).2.1
  .exfalso;have c:∀(a:O) (l:Array Value),rA μ a (.agg l)->a.aa=13:=by
    intro a l e;cases a<;>rw[rA]at e<;>first | rfl | (exfalso;revert e;simp)
   have g:=c _ _ e;have i:=c _ _ k;cases a<;>simp[O.aa]at g;cases b<;>simp[O.aa]at i;revert h;cases n.a<;>simp[To,Oj,O.r,uu,O.ac,FO,O.w,Ic,Yr,O.aa,tB,Nat.beq]
def ID{a:O}{v:Value}(h:rA μ a v):v=.nilIface->a.aa=12:=by
 intro b;subst b;cases a<;>rw[rA]at h<;>first | rfl | (exfalso;revert h;simp)
def SV(I:nG P C){op:BinOp}{t N:TypeId}{x y:Operand}{a b:O}{neg:Bool}(d:rA μ a (c x))(H:rA μ b (c y))(J:a.ac=none)(L:a.w=none)
  (B:(neg=false/\op=.eql)\/(neg=true/\op=.neq)) (h:Zs neg C t x y a b=some v):cJ P μ w c ⟨dst,.binOp op t x y N,type,A,o,z⟩ v:=by
 unfold Zs at h;simp only[qB,pA]at h;obtain⟨S,r,K,h⟩:=h;cases h;have p:(Op.equal t (c x) (c y)).run P w=.ok r w:=zrs I 20 10000 t a b _ _ r (by decide) d H K;have E:(eqGuard op t x y (c x) (c y)).run P w=.ok () w:=by
  by_cases q:∃l m,c x=.agg l/\c y=.agg m
  .grind [YK,zwj]
  .refine Tn ?_ λl m u=>q ⟨l,m,u⟩;by_cases F:c x=.nilIface/\c y=.nilIface
   .right
    have Q:=ID d F.1;have R:=ID H F.2
    simp_all [QS]
   simp_all
 have g:∀k n,c x≠.int k n:=by
  intro k n j;rw[j]at d;cases a<;>rw[rA]at d<;>first | (simp[O.ac]at J;done) | (revert d;simp)
 have i:∀s,c x≠.string s:=by
  intro s j;rw[j]at d;cases a<;>rw[rA]at d<;>first | (simp[O.w]at L;done) | (revert d;simp)
 have f:∀k n,c x≠.float k n:=by
  intro k n j;rw[j]at d;cases a<;>rw[rA]at d<;>revert d<;>simp
 have e:∀k n m,c x≠.complex k n m:=by
  intro k n m j;rw[j]at d;cases a<;>rw[rA]at d<;>revert d<;>simp
 rcases B with⟨rfl,rfl⟩ | ⟨rfl,rfl⟩
 .refine⟨.bool r,Mz E ?_,by rw[rA];rfl⟩;revert p g i f e;generalize c x=D;generalize c y=M;intro p g i f e;cases D<;>first
   | exact absurd rfl (g _ _)
   | exact absurd rfl (i _)
   | exact absurd rfl (f _ _)
   | exact absurd rfl (e _ _ _)
   | simp[binOp,p]
 .refine⟨.bool (!r),Mz E ?_,by rw[rA];rfl⟩;revert p g i f e;generalize c x=D;generalize c y=M;intro p g i f e;cases D<;>first
   | exact absurd rfl (g _ _)
   | exact absurd rfl (i _)
   | exact absurd rfl (f _ _)
   | exact absurd rfl (e _ _ _)
   | simp[binOp,p]
def zg5(r:nG P C)(q:jG μ e c){op:BinOp}{t E:Nat}{x y:Operand}(h:Ah op t x y C e H=some v):cJ P μ w c ⟨dst,.binOp op t x y E,type,A,o,z⟩ v:=by
 unfold Ah at h;simp only[pA]at h;obtain⟨a,B,b,D,h⟩:=h;have d:=q _ _ B;have f:=q _ _ D;clear B D;revert h;have g:∀op,op≠.shl->op≠.shr->GM op C t x y a b=some v->cJ P μ w c ⟨dst,.binOp op t x y E,type,A,o,z⟩ v:=by
  intro op _ _ h;unfold GM at h;split at h
  .rename_i i k;simp only[pA,Az,qB,sO]at h;obtain⟨j,rfl,I,h⟩:=h;rw[Az]at k;subst k;rw[rA]at d;rw[rA]at f;obtain⟨_,_,m⟩:=zjq (P:=P) (μ:=μ) (w:=w) h;obtain⟨p,F,n⟩:=m t;refine⟨p,Mz (Tn (.inl (by grind)) (by grind)) ?_,n⟩
   simp_all
  .rename_i k;split at h
   .rename_i s l;simp only[pA,Ay]at h;obtain⟨u,rfl,h⟩:=h;rw[Ay]at l;subst l;rw[rA]at d;rw[rA]at f;obtain⟨J,d,rfl⟩:=d;obtain⟨K,f,rfl⟩:=f;obtain⟨_,_,m⟩:=zjn (P:=P) (μ:=μ) (w:=w) h;obtain⟨p,F,n⟩:=m t;refine⟨p,Mz (Tn (.inl (by grind)) (by grind)) ?_,n⟩
    simp_all
   .rename_i l;cases op<;>simp only[zjp]at h<;>first
     | exact SV r d f k l (.inl ⟨rfl,rfl⟩) h
     | exact SV r d f k l (.inr ⟨rfl,rfl⟩) h
     | (cases h;done)
 intro h;cases op<;>simp only[rU]at h<;>first
  | exact SU d f (.inl ⟨rfl,h⟩)
  | exact SU d f (.inr ⟨rfl,h⟩)
  | exact g _ (by simp) (by simp) h
theorem vp{k:IntKind}(h:Z9 k=0):aH k=2^k.bits:=by
 cases k<;>first
  | (cases h;done)
  | rfl
def zp5(k:jG μ e c){op:UnOp}{t:Nat}{x:Operand}(h:P2 op x C e H=some v):cJ P μ w c ⟨dst,.unOp op t x,type,A,o,z⟩ v:=by
 unfold P2 at h;simp only[pA]at h;obtain⟨a,l,h⟩:=h;have d:=k _ _ l;cases op<;>simp only[unA]at h<;>try (cases h;done)
 case neg=>
  simp only[V2,pA,Az]at h;obtain⟨p,rfl,h⟩:=h;cases h;rw[rA]at d;refine⟨.int p.1 (p.1.wrap (0-p.2)),?_,by rw[rA,iR]⟩;simp[execOp,d,Op.unary,Op.intArith]
 case xor=>
  simp only[Jn,pA,Az,qB,bC]at h;obtain⟨p,rfl,g,h⟩:=h;obtain⟨a,b,f,m,i,q,rfl⟩:=Yb h;rw[rA]at d;have j:Nat.xor a b<aH p.1:=by
   have:Nat.xor a b<2^p.1.bits:=Nat.xor_lt_two_pow (by grind [vp]) (by grind [vp])
   grind [vp]
  refine⟨.int p.1 (Nat.xor a b:Nat),?_,by rw[rA]⟩;have n:(if p.1.signed then(-1:Int)else p.1.max)=(a:Int):=by
   rw[<- f];revert g;cases p.1<;>intro g<;>first
    | (cases g;done)
    | rfl
  have r:(Op.intBits .xor p.1 (if p.1.signed then -1 else p.1.max) p.2).run P w=.ok (.int p.1 (Nat.xor a b:Nat)) w:=by
   rw[n,m];simp only[Op.intBits,BitVec.toNat_xor,Fk i,Fk q];rw[show(a ^^^ b:Nat)=Nat.xor a b from rfl,Ja j];rfl
  simp_all [execOp,Op.unary]
 case not=>
  simp only[V3,pA,Ik]at h;obtain⟨b,rfl,h⟩:=h;cases h;rw[rA]at d;refine⟨.bool (!b),?_,by rw[rA]⟩;simp[execOp,d,Op.unary]
end
end Go.Am
