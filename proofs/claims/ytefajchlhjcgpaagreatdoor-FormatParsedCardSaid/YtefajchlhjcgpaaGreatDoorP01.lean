/- -/
import Derived.Below
import Derived.Calls
import Derived.Laws.Cells
import Derived.Laws.Sem
import Derived.Laws.StructEq
import Derived.Laws.World
import Derived.Lib.Strings
set_option linter.all false
noncomputable section
namespace Go.Am
def A3 := @if_neg
def A5 := @if_pos
def C3 := @Result.andThen_ok
def C2 := @Sem.run_bind
def E4 := @Sem.run_pure
def F7 := @List.mem_append
def K7 := @Nat.pow_succ
def F3 := @List.nil_append
def Z6 := @Option.bind_some
def yaj := @Array.getElem?_append_left
def yak := @List.drop_eq_nil_iff
def Z7 := @Bool.or_eq_false_iff
def K8 := @Nat.lt_of_le_of_lt
def T7 := @Nat.le_mul_of_pos_left
def L7 := @Nat.pow_le_pow_right
def T8 := @Nat.add_comm
def G6 := @List.mem_map
def Z8 := @Option.map_eq_some_iff
def lj := @List.flatten_cons
def r9 := @Nat.mul_zero
def Q2 := @Nat.lt_or_ge
def Z9 := @Nat.eq_zero_or_pos
def I1 := @Nat.zero_le
def mf := @Array.toList_inj
def E9 := @Bool.and_false
def I2 := @List.getElem?_cons_zero
def I3 := @List.getElem?_cons_succ
def B3 := @Bool.and_eq_true
def G1 := @List.getElem?_eq_some_iff
def D0 := @List.getElem?_eq_getElem
def H4 := @Array.getElem?_eq_some_iff
def C5 := @List.length_map
def E1 := @List.length_append
def F0 := @Nat.mul_comm
def D4 := @Nat.mul_le_mul_right
def F4 := @Nat.mul_assoc
def B4 := @Nat.le_refl
def F8 := @List.drop_eq_getElem_cons
def K9 := @Nat.mul_add
def D6 := @List.length_cons
def D7 := @Nat.add_mul
def T9 := @List.getElem?_append_right
def F5 := @Bool.false_eq_true
def C9 := @List.mem_cons_of_mem
def C6 := @List.mem_cons
def F1 := @List.drop_eq_nil_of_le
def G4 := @List.getElem?_map
def F6 := @Nat.mul_le_mul_left
def D8 := @Nat.zero_add
def G2 := @List.length_nil
def C7 := @List.mem_cons_self
def D5 := @List.append_assoc
def L8 := @List.take_of_length_le
def C8 := @List.all_eq_true
def lk := @List.length_eq_zero_iff
def Do := @List.append_nil
def yce := @Nat.dvd_mul_left_of_dvd
def E3 := @List.mem_append_right
def ce := @List.all_cons
def Q3 := @Nat.div_add_mod
def D9 := @Option.some.inj
def F2 := @List.getElem_mem
def sa := @List.all_nil
def L0 := @Bool.not_false
def L1 := @List.map_cons
def E5 := @Bool.true_and
def mg := @List.getElem?_append_left
def E7 := @Bool.not_eq_true'
def H5 := @Bool.or_eq_true
def H6 := @List.drop_zero
def mh := @Array.getElem?_setIfInBounds
def L9 := @Nat.add_zero
def Q4 := @Nat.div_lt_of_lt_mul
def Q5 := @List.mem_of_getElem?
def ycw := @List.getElem?_set
def mi := @Array.getD_eq_getD_getElem?
def G3 := @Nat.mod_lt
def P6 := @Array.length_toList
def mj := @List.length_take
def G5 := @Nat.mul_le_mul
def M0 := @List.mem_append_left
def ydd := @List.mem_singleton
def lm := @List.getElem?_drop
def ul := @List.getElem?_take
def ydg := @List.take_add_one
def ydh := @List.length_set
def ydi := @List.all_append
def mm := @List.length_drop
end Go.Am
namespace Go.Am
inductive G (α:Type) where
 | aj
 | ak (l:G α) (v:Option α) (r:G α)
def ob {b a:Type}(x:Option b)(f:b->Option a):Option a:=Option.rec (motive:=λ_=>Option a) none f x
namespace G
variable {a:Type}
def c (t:G a):Nat->Option a:=
 G.rec (motive:=λ_=>Nat->Option a) (λ_=>none)
  (λ_ v _ b d n=>Bool.rec (motive:=λ_=>Option a) (Bool.rec (motive:=λ_=>Option a) (d (Nat.pred (Nat.div n (nat_lit 2)))) (b (Nat.div n (nat_lit 2))) (Nat.beq (Nat.mod n (nat_lit 2)) (nat_lit 1))) v (Nat.beq n (nat_lit 0))) t
def mk (f:Nat):Nat->a->G a:=
 Nat.rec (motive:=λ_=>Nat->a->G a) (λ_ _=>aj)
  (λ_ g n v=>Bool.rec (motive:=λ_=>G a) (Bool.rec (motive:=λ_=>G a) (ak aj none (g (Nat.pred (Nat.div n (nat_lit 2))) v)) (ak (g (Nat.div n (nat_lit 2)) v) none aj) (Nat.beq (Nat.mod n (nat_lit 2)) (nat_lit 1))) (ak aj (some v) aj) (Nat.beq n (nat_lit 0))) f
def d (t:G a):Nat->a->G a:=
 G.rec (motive:=λ_=>Nat->a->G a) (λn v=>mk (Nat.succ n) n v)
  (λl x r b c n v=>Bool.rec (motive:=λ_=>G a) (Bool.rec (motive:=λ_=>G a) (ak l x (c (Nat.pred (Nat.div n (nat_lit 2))) v)) (ak (b (Nat.div n (nat_lit 2)) v) x r) (Nat.beq (Nat.mod n (nat_lit 2)) (nat_lit 1))) (ak l (some v) r) (Nat.beq n (nat_lit 0))) t
def q (t:G a):Nat->G a:=
 G.rec (motive:=λ_=>Nat->G a) (λ_=>aj)
  (λl x r b c n=>Bool.rec (motive:=λ_=>G a) (Bool.rec (motive:=λ_=>G a) (ak l x (c (Nat.pred (Nat.div n (nat_lit 2))))) (ak (b (Nat.div n (nat_lit 2))) x r) (Nat.beq (Nat.mod n (nat_lit 2)) (nat_lit 1))) (ak l none r) (Nat.beq n (nat_lit 0))) t
def u (t:G a)(n:Nat):Nat->Option (List a):=
 Nat.rec (motive:=λ_=>Nat->Option (List a)) (λ_=>some [])
  (λ_ g i=>ob (t.c i) λv=>ob (g (i+1)) λl=>some (v::l)) n
def am(l:List a):G a->Nat->G a:=
 List.rec (motive:=λ_=>G a->Nat->G a) (λt _=>t) (λv _ g t i=>g (t.d i v) (i+1)) l
def ac(l:List a):G a:=am l aj 0
end G
def lD {b:Type}(l:List b):Nat->Option b:=
 List.rec (motive:=λ_=>Nat->Option b) (λ_=>none) (λa _ g n=>Bool.rec (motive:=λ_=>Option b) (g (Nat.pred n)) (some a) (Nat.beq n (nat_lit 0))) l
def tU{b:Type}(l:List b):Nat->List b:=
 List.rec (motive:=λ_=>Nat->List b) (λ_=>[]) (λa l g n=>bif Nat.beq n 0 then a::l else g (n-1)) l
def Et{b:Type}(l:List b):Nat->List b:=
 List.rec (motive:=λ_=>Nat->List b) (λ_=>[]) (λa _ g n=>bif Nat.beq n 0 then []else a::g (n-1)) l
def vB {a:Type}(l:List a):Nat:=List.rec (motive:=λ_=>Nat) 0 (λ_ _ n=>n+1) l
def oE {b:Type}(l m:List b):List b:=List.rec (motive:=λ_=>List b) m (λa _ g=>a::g) l
def nD {b:Type}(p:b->Bool)(l:List b):Bool:=List.rec (motive:=λ_=>Bool) true (λa _ g=>bif p a then g else false) l
def jH{d c:Type}(f:d->Option c)(l:List d):Option (List c):=
 List.rec (motive:=λ_=>Option (List c)) (some []) (λa _ g=>ob (f a) λb=>ob g λr=>some (b::r)) l
def sF(a:List Nat):List Nat->Bool:=
 List.rec (motive:=λ_=>List Nat->Bool) (λb=>b.isEmpty) (λx _ g b=>List.rec (motive:=λ_=>Bool) false (λy b _=>bif Nat.beq x y then g b else false) b) a
def dw:IntKind->Nat
 | .i8=>0 | .i16=>1 | .i32=>2 | .i64=>3 | .u8=>4 | .u16=>5 | .u32=>6 | .u64=>7
def dP (a b:IntKind):Bool:=Nat.beq (dw a) (dw b)
def H7:Bool->Bool->Bool
 | true,b=>b
 | false,b => !b
def kB:Int->Int->Bool
 | .ofNat a,.ofNat b=>Nat.beq a b
 | .negSucc a,.negSucc b=>Nat.beq a b
 | _,_=>false
def vE:Int->Int->Bool
 | .ofNat a,.ofNat b=>Nat.ble a b
 | .ofNat _,.negSucc _=>false
 | .negSucc _,.ofNat _=>true
 | .negSucc a,.negSucc b=>Nat.ble b a
def fB:Int->Int->Bool
 | .ofNat a,.ofNat b=>Nat.blt a b
 | .ofNat _,.negSucc _=>false
 | .negSucc _,.ofNat _=>true
 | .negSucc a,.negSucc b=>Nat.blt b a
def zI:IntKind->Nat
 | .i8=>128 | .i16=>32768 | .i32=>2147483648 | .i64=>9223372036854775808 | .u8=>256 | .u16=>65536 | .u32=>4294967296 | .u64=>18446744073709551616
def cg:IntKind->Nat
 | .i8=>128 | .i16=>32768 | .i32=>2147483648 | .i64=>9223372036854775808 | _=>0
def cA(k:IntKind):Int->Int
 | .ofNat n=>bif Nat.blt n (zI k)then .ofNat n else k.wrap (.ofNat n)
 | .negSucc n=>bif Nat.blt n (cg k)then .negSucc n else k.wrap (.negSucc n)
inductive L2 where
 | aa (f:Nat)
 | ac (l:Nat)
inductive O where
 | d (b:Bool)
 | e (k:IntKind) (n:Int)
 | h (l:List Nat)
 | y
 | j (b off:Nat)
 | g
 | m (b off len cap:Nat)
 | ax
 | bc (b:Nat)
 | q (fn:L2) (first captured:List O)
 | ap
 | aw (t:Nat) (v:O)
 | x
 | i (l:List O)
 | p (l:List O)
structure Tm where
 k:Nat
 v:G O
 t:List (Nat × O)
def V2(i:Nat)(l:List (Nat × O)):Option O:=
 List.rec (motive:=λ_=>Option O) none (λa _ g=>Bool.rec (motive:=λ_=>Option O) g (some a.2) (Nat.beq i a.1)) l
def Tm.a(t:Tm)(i:Nat):Option O:=Bool.rec (motive:=λ_=>Option O) (V2 i t.t) (t.v.c i) (Nat.blt i t.k)
def Tm.c(t:Tm)(i:Nat)(x:O):Tm:=Bool.rec (motive:=λ_=>Tm) ⟨t.k,t.v,(i,x)::t.t⟩ ⟨t.k,t.v.d i x,t.t⟩ (Nat.blt i t.k)
def Tm.b(t:Tm):Tm:=⟨t.k,t.v,[]⟩
structure kI where
 b:Option L2
 r:Nat
 a:List O
structure yP where
 e:LoopState
 a:Option Code
 g:Nat
 n:Nat
 h:Tm
 b:List Nat
 c:Code
 f:Code
 d:Nat
inductive Lo where
 | b (n:Nat)
 | a (t:Nat)
def Lo.c:Lo->Nat | .b n=>n | .a _=>1
def M8:Lo->Lo->Bool
 | .b a,.b b=>Nat.beq a b
 | .a a,.a b=>Nat.beq a b
 | _,_=>false
inductive uA where
 | aa (c:G O) (n:Nat) (loose:Option Lo)
 | aj (l:List (O × O))
 | ac (l:yP)
 | ah (l:Option (List kI))
 | ak (s:List Nat) (pos:Nat)
structure sA where
 a:Nat
 t:G uA
inductive jE where
 | r | m (k:IntKind) | j
 | v (e:Nat) | i (e:Nat) | q (n e:Nat) | w (k e:Nat)
 | f (fs:List (Nat × Nat × Nat))
 | u | s | t
structure jD where
 a:jE
 b:Nat
 d:Nat
 c:List O
 e:Bool
structure dH where
 a:Nat
 b:List Nat
 c:List Nat
structure M9 where
 c:List Nat
 a:List dH
 b:List (Nat × List Nat)
structure fA where
 d:G Func
 g:G Nat
 b:G jD
 e:G (G M9)
 c:G (List O->sA->Option (O × sA))
 a:Nat
 f:Nat
inductive yF where
 | a (c:Code)
 | f (id:Nat)
 | i (c:Code)
 | k (c:Code)
 | h (all:Array Oper) (rest:List Oper)
 | d (all:Array Oper) (old:Tm) (olds:List (Nat × List Nat)) (stages:List dH)
 | e (l:Nat)
 | g (l:Nat)
 | b
structure Je where
 v:O
 a:Bool
inductive fZ where
 | ah | aa
 | ac (chain:List Je)
structure eL where
 e:Nat
 n:Nat
 d:List kI
 a:fZ
 b:Bool
 c:Option Nat
structure pC where
 a:List yF
 b:Tm
 R:eL
structure xV where
 b:pC
 a:List pC
 H:sA
inductive dG where
 | aa (s:xV)
 | ah (v:O) (H:sA)
 | ac (why:Nat)
def O.r:O->Option Bool | .d b=>some b | _=>none
def O.ba:O->Option Int | .e _ n=>some n | _=>none
def O.ac:O->Option (IntKind × Int) | .e k n=>some (k,n) | _=>none
def O.w:O->Option (List Nat) | .h l=>some l | _=>none
def O.ah:O->Option (Nat × Nat) | .j b o=>some (b,o) | _=>none
def O.u:O->Option (Nat × Nat × Nat × Nat) | .m b o l c=>some (b,o,l,c) | _=>none
def O.az:O->Option Nat | .bc b=>some b | _=>none
def O.ak:O->Option (List O) | .i l=>some l | _=>none
def O.ay:O->Option (List O) | .p l=>some l | _=>none
def O.am:O->Option (L2 × List O × List O) | .q f a b=>some (f,a,b) | _=>none
def O.au:O->Option (Nat × O) | .aw t v=>some (t,v) | _=>none
def O.aa:O->Nat
 | .d _=>0 | .e _ _=>1 | .h _=>2 | .y=>3 | .j _ _=>4 | .g=>5 | .m _ _ _ _=>6 | .ax=>7 | .bc _=>8
 | .q _ _ _=>9 | .ap=>10 | .aw _ _=>11 | .x=>12 | .i _=>13 | .p _=>14
def kO:Int->Option Nat | .ofNat n=>some n | .negSucc _=>none
def O.aj(v:O):Option Nat:=ob v.ba kO
def O.s(v:O):List O:=
 match v.ak with
 | some l=>l
 | none=>[v]
def O.z(v:O):Bool:=Nat.blt v.aa 13
def jE.o:jE->Option IntKind | .m k=>some k | _=>none
def jE.a:jE->Option Nat | .i e=>some e | _=>none
def jE.g:jE->Option (Nat × Nat) | .q n e=>some (n,e) | _=>none
def jE.p:jE->Option (Nat × Nat) | .w k e=>some (k,e) | _=>none
def jE.b:jE->Option (List (Nat × Nat × Nat)) | .f a=>some a | _=>none
def jE.l:jE->Nat
 | .r=>0 | .m _=>1 | .j=>2 | .v _=>3 | .i _=>4 | .q _ _=>5 | .w _ _=>6 | .f _=>7 | .u=>8 | .s=>9 | .t=>10
def jE.h(d:jE):Bool:=bif Nat.beq d.l 5 then true else Nat.beq d.l 7
def jE.c(d:jE):Bool:=Nat.beq d.l 2
def uA.a:uA->Option (G O × Nat × Option Lo) | .aa c n l=>some (c,n,l) | _=>none
def uA.e:uA->Option (List (O × O)) | .aj l=>some l | _=>none
def uA.d:uA->Option yP | .ac l=>some l | _=>none
def uA.b:uA->Option (Option (List kI)) | .ah l=>some l | _=>none
def uA.f:uA->Option (List Nat × Nat) | .ak s p=>some (s,p) | _=>none
def sB{a:Type}(b:Bool)(x:Option a):Option a:=Bool.rec (motive:=λ_=>Option a) none x b
def aD:O:=.p []
def rG(s:ByteArray):List Nat:=s.data.toList.map UInt8.toNat
def Kq:Value->Option O
 | .bool b=>some (.d b)
 | .int k n=>some (.e k n)
 | .string s=>some (.h (rG s))
 | .pointer none=>some .y
 | .slice none 0 0=>some .g
 | .map none=>some .ax
 | .nilFunc=>some .ap
 | .nilIface=>some .x
 | _=>none
def zta:Value->Option (Array Value)
 | .agg a=>some a
 | _=>none
def DA(v:Value):Option O:=
 match zta v with
 | some a=>ob (jH Kq a.toList) λl=>some (.i l)
 | none=>Kq v
inductive mD where
 | b (tm:Tm)
 | c (tm old:Tm) (olds names:List Nat)
def yJ(i:Nat)(l:List Nat):Bool:=List.rec (motive:=λ_=>Bool) false (λj _ g=>bif Nat.beq i j then true else g) l
def Cb (t:Nat)(e:mD):Option O:=
 match e with
 | .b d=>d.a t
 | .c d c b a=>bif yJ t a then Tm.a (bif yJ t b then c else d) t else none
def gh(v:Value)(_:mD):Option O:=DA v
def AM(g:Nat)(_:mD):Option O:=bif Nat.blt g 256 then some (.j g 0)else none
def V3(f:Nat)(_:mD):Option O:=some (.q (.aa f) [] [])
structure EB where f:mD->Option O
def evB:Operand->EB
 | .tmp t=>⟨Cb t⟩
 | .const v=>⟨gh v⟩
 | .global g=>⟨AM g⟩
 | .func f=>⟨V3 f⟩
def ev (x:Operand)(e:mD):Option O:=(evB x).f e
def eQ (l:List Operand)(e:mD):Option (List O):=jH (λx=>ev x e) l
def I4 (x:Option Operand)(e:mD):Option (Option O):=
 match x with
 | none=>some none
 | some x=>ob (ev x e) λv=>some (some v)
def I5 (l:List (Nat × Operand))(e:mD):Option (List (Nat × O)):=jH (λx=>ob (ev x.2 e) λv=>some (x.1,v)) l
def eD(H:sA)(b:Nat):Option (G O × Nat × Option Lo):=ob (H.t.c b) uA.a
def pN(H:sA)(b:Nat):Option (List (O × O)):=ob (H.t.c b) uA.e
def dV(ty:jD)(c:G O)(off:Nat):Option O:=
 bif ty.a.h then ob (c.u ty.b off) λl=>some (.i l)else c.c off
def eT(C:fA)(t:Nat)(l:List O)(off:Nat):Option O:=
 ob (C.b.c t) λa=>bif a.a.h then some (.i (Et (tU l off) a.b))else lD l off
def Bz(ty:jD):O:=
 bif ty.a.h then .i ty.c else match ty.c with
  | v::_=>v
  | []=>aD
def DR(a:List Nat):List Nat->Bool:=
 List.rec (motive:=λ_=>List Nat->Bool) (λb => !b.isEmpty)
  (λx _ g b=>List.rec (motive:=λ_=>Bool) false (λy b _=>bif Nat.blt x y then true else bif Nat.beq x y then g b else false) b) a
def Ot(a b:O):Option Bool:=ob a.r λx=>ob b.r λy=>some (H7 x y)
def um(a b:O):Option Bool:=ob a.ac λx=>ob b.ac λy=>sB (dP x.1 y.1) (some (kB x.2 y.2))
def FN(a b:O):Option Bool:=ob a.w λx=>ob b.w λy=>some (sF x y)
def Im(n m:Nat)(a b:O):Option Bool:=
 bif Nat.beq a.aa n then(bif Nat.beq b.aa n then some true else sB (Nat.beq b.aa m) (some false))
 else sB (Nat.beq a.aa m&&Nat.beq b.aa n) (some false)
def Yx(_ _:O):Option Bool:=none
def Tt:jE->O->O->Option Bool
 | .r=>Ot
 | .m _=>um
 | .j=>FN
 | .v _=>Im 3 4
 | .s=>Im 12 11
 | .i _=>Im 5 6
 | .w _ _=>Im 7 8
 | .u=>Im 10 9
 | .q _ _=>Yx
 | .f _=>Yx
 | .t=>Yx
def Pn(C:fA)(c:Nat->O->O->Option Bool)(d e:List O):List (Nat × Nat × Nat)->Option Bool
 | []=>some true
 | f::g=>ob (eT C f.2.1 d f.1) λa=>ob (eT C f.2.1 e f.1) λb=>ob (c f.2.1 a b) λr=>bif r then Pn C c d e g else some false
def P7 (C:fA):Nat->Nat->O->O->Option Bool
 | 0,_,_,_=>none
 | d+1,t,x,y=>ob (C.b.c t) λa=>
  match a.a.b with
  | some b=>sB a.e (ob x.ak λc=>ob y.ak λe=>Pn C (P7 C d) c e b)
  | none=>Tt a.a x y
def iAdd (k:IntKind)(a b:Int):Option O:=some (.e k (cA k (a+b)))
def iSub (k:IntKind)(a b:Int):Option O:=some (.e k (cA k (a-b)))
def iMul (k:IntKind)(a b:Int):Option O:=some (.e k (cA k (a*b)))
def F9 (k:IntKind)(a b:Int):Option O:=bif kB b 0 then none else some (.e k (cA k (a.tdiv b)))
def Fc (k:IntKind)(a b:Int):Option O:=bif kB b 0 then none else some (.e k (a.tmod b))
def fJ(f:Nat->Nat->Nat)(k:IntKind)(a b:Int):Option O:=ob (kO a) λx=>ob (kO b) λy=>sB (Nat.blt x (zI k)&&Nat.blt y (zI k)) (some (.e k (.ofNat (f x y))))
def kW:IntKind->Nat
 | .i8=>256 | .u8=>256 | .i16=>65536 | .u16=>65536 | .i32=>4294967296 | .u32=>4294967296 | .i64=>18446744073709551616 | .u64=>18446744073709551616
def No (k:IntKind)(a b:Int):Option O:=
 match kO a with
 | some _=>fJ Nat.land k a b
 | none=>ob (kO b) λy=>sB (Nat.blt y (zI k)) (some (.e k (.ofNat (Nat.land (Int.toNat (Int.emod a (.ofNat (kW k)))) y))))
def iEql (_:IntKind)(a b:Int):Option O:=some (.d (kB a b))
def iNeq (_:IntKind)(a b:Int):Option O:=some (.d (!kB a b))
def iLss (_:IntKind)(a b:Int):Option O:=some (.d (fB a b))
def iLeq (_:IntKind)(a b:Int):Option O:=some (.d (vE a b))
def iGtr (_:IntKind)(a b:Int):Option O:=some (.d (fB b a))
def iGeq (_:IntKind)(a b:Int):Option O:=some (.d (vE b a))
def ou(_:IntKind)(_ _:Int):Option O:=none
structure IB where f:IntKind->Int->Int->Option O
def uo:BinOp->IB
 | .add=>⟨iAdd⟩ | .sub=>⟨iSub⟩ | .mul=>⟨iMul⟩ | .quo=>⟨F9⟩ | .rem=>⟨Fc⟩
 | .and=>⟨No⟩ | .or=>⟨fJ Nat.lor⟩ | .xor=>⟨fJ Nat.xor⟩
 | .eql=>⟨iEql⟩ | .neq=>⟨iNeq⟩ | .lss=>⟨iLss⟩ | .leq=>⟨iLeq⟩ | .gtr=>⟨iGtr⟩ | .geq=>⟨iGeq⟩
 | _=>⟨ou⟩
def kG (a b:List Nat):Option O:=sB (Nat.blt (vB a+vB b) 4611686018427387904) (some (.h (oE a b)))
def sEql (a b:List Nat):Option O:=some (.d (sF a b))
def sNeq (a b:List Nat):Option O:=some (.d (!sF a b))
def sLss (a b:List Nat):Option O:=some (.d (DR a b))
def ow(_ _:List Nat):Option O:=none
structure SB where f:List Nat->List Nat->Option O
def uq:BinOp->SB
 | .add=>⟨kG⟩ | .eql=>⟨sEql⟩ | .neq=>⟨sNeq⟩ | .lss=>⟨sLss⟩
 | _=>⟨ow⟩
def Tf:Operand->Bool
 | .const _=>true
 | _=>false
def Kc(k:IntKind)(b:Int):Option Nat:=ob (kO b) λn=>some (min n k.bits)
def Az (k:IntKind)(a b:Int):Option O:=ob (Kc k b) λn=>some (.e k (cA k (a*.ofNat (2^n))))
def ci (k:IntKind)(a b:Int):Option O:=ob (Kc k b) λn=>some (.e k (a.fdiv (.ofNat (2^n))))
def Uq(f:IntKind->Int->Int->Option O)(a b:O):Option O:=ob a.ac λx=>ob b.ba λy=>f x.1 x.2 y
def RN(x y:Operand)(a b:O):Bool:=
 bif Nat.beq a.aa 12&&Nat.beq b.aa 12 then Tf x||Tf y else true
def Zz(neg:Bool)(C:fA)(t:Nat)(x y:Operand)(a b:O):Option O:=
 sB (RN x y a b) (ob (P7 C 20 t a b) λr=>some (.d (bif neg then !r else r)))
def ox(_:fA)(_:Nat)(_ _:Operand)(_ _:O):Option O:=none
structure BB where f:fA->Nat->Operand->Operand->O->O->Option O
def zkn:BinOp->BB
 | .eql=>⟨Zz false⟩
 | .neq=>⟨Zz true⟩
 | _=>⟨ox⟩
def GS(op:BinOp)(C:fA)(t:Nat)(x y:Operand)(a b:O):Option O:=
 match a.ac with
 | some i=>ob b.ac λj=>sB (dP i.1 j.1) ((uo op).f i.1 i.2 j.2)
 | none=>match a.w with
  | some s=>ob b.w λu=>(uq op).f s u
  | none=>(zkn op).f C t x y a b
def gi(_:fA)(_:Nat)(_ _:Operand)(a b:O):Option O:=Uq Az a b
def gj(_:fA)(_:Nat)(_ _:Operand)(a b:O):Option O:=Uq ci a b
def dX:BinOp->BB
 | .shl=>⟨gi⟩
 | .shr=>⟨gj⟩
 | a=>⟨GS a⟩
def V4(a:O):Option O:=ob a.ac λx=>some (.e x.1 (cA x.1 (0-x.2)))
def V5(a:O):Option O:=ob a.r λb=>some (.d (!b))
def Jt(a:O):Option O:=ob a.ac λx=>sB (Nat.beq (cg x.1) 0) (fJ Nat.xor x.1 (.ofNat (zI x.1-1)) x.2)
def gk(_:O):Option O:=none
structure UB where f:O->Option O
def unA:UnOp->UB
 | .neg=>⟨V4⟩
 | .xor=>⟨Jt⟩
 | .not=>⟨V5⟩
 | _=>⟨gk⟩
def lZ(v:O):Option Nat:=ob v.ac λx=>sB (dP x.1 .u8) (ob (kO x.2) λn=>sB (Nat.blt n 256) (some n))
def Lt(H:sA)(a:O):Option O:=
 match a.u with
 | some x=>ob (eD H x.1) λc=>ob (c.1.u x.2.2.1 x.2.1) λl=>ob (jH lZ l) λr=>some (.h r)
 | none=>sB (Nat.beq a.aa 5) (some (.h []))
def rW(C:fA)(s d:jD)(a:O)(H:sA):Option O:=
 match d.a.o with
 | some k=>ob a.ba λn=>some (.e k (cA k n))
 | none=>sB d.a.c (bif Nat.beq a.aa 2 then some a else
   ob s.a.a λe=>ob (C.b.c e) λb=>ob b.a.o λk=>sB (dP k .u8) (Lt H a))
def Bm(y:Nat)(v:O):Option Nat:=ob v.aj λn=>sB (Nat.ble n y) (some n)
def Fy(y a:Nat)(v:Option O):Option Nat:=
 match v with
 | some v=>Bm y v
 | none=>some a
def xT(a cap:Nat)(lo hi:Option O):Option (Nat × Nat):=
 ob (Fy cap a hi) λh=>ob (Fy h 0 lo) λl=>some (l,h)
def mQ(H:sA)(b a cap l:Nat)(d:Bool):Bool:=
 match eD H b with
 | some c=>match c.2.2 with
  | none=>true
  | some e => !d&&Nat.beq e.c a&&(!Nat.beq cap l||Nat.beq l 0)
 | none=>false
def iP(H:sA)(b a cap l:Nat)(d:Bool):Bool:=
 match eD H b with
 | some c=>match c.2.2 with
  | none=>false
  | some e => !d&&Nat.beq e.c a&&Nat.beq cap l && !Nat.beq l 0
 | none=>false
def oS(C:fA)(H:sA)(a:Bool)(e b off d cap:Nat)(lo hi:Option O):Option O:=
 ob (C.b.c e) λc=>ob (xT d cap lo hi) λx=>
  bif Nat.ble x.2 cap&&Nat.ble x.1 x.2&&iP H b c.b cap x.1 a then some (.m 0 1 0 0)else
  sB (Nat.ble x.2 cap&&mQ H b c.b cap x.1 a) (some (.m b (bif Nat.beq cap x.1 then off else off+x.1*c.b) (x.2-x.1) (cap-x.1)))
def Re(s:List Nat)(lo hi:Option O):Option O:=
 let n:=vB s
 ob (xT n n lo hi) λx=>some (.h (tU (Et s x.2) x.1))
def gP(C:fA)(H:sA)(ty:jD)(x:O)(lo hi:Option O):Option O:=
 match x.w with
 | some s=>sB ty.a.c (Re s lo hi)
 | none=>match x.u with
  | some r=>ob ty.a.a λe=>oS C H false e r.1 r.2.1 r.2.2.1 r.2.2.2 lo hi
  | none=>match x.ah with
   | some p=>ob ty.a.g λa=>oS C H true a.2 p.1 p.2 a.1 a.1 lo hi
   | none=>sB (Nat.beq x.aa 5) (ob ty.a.a λe=>ob (C.b.c e) λ_=>ob (xT 0 0 lo hi) λ_=>some .g)
def pZ(a:List O)(off b:Nat)(v:O):Option (List O):=
 let c:=v.s
 let n:=vB c
 sB (Nat.beq n b&&Nat.ble (off+n) (vB a)) (some (oE (Et a off) (oE c (tU a (off+n)))))
def yO(b:Nat->Option (Nat × Nat)):List (Nat × O)->List O->Option (List O)
 | [],a=>some a
 | p::c,a=>ob (b p.1) λq=>ob (pZ a q.1 q.2 p.2) λa=>yO b c a
def zZ(d:jE):Bool:=Nat.ble d.l 2
def gn(v:O):Nat:=v.aa
def Le(d:jE)(v:O):Bool:=Nat.beq d.l (gn v)
def Fk(C:fA):List (Nat × Nat × Nat)->Nat->Bool
 | [],_=>true
 | f::a,i=>bif Nat.beq f.1 i then(match C.b.c f.2.1 with
  | some b=>bif zZ b.a then Fk C a (i+1)else false
  | none=>false)else false
def aY(C:fA)(ty:jD):Bool:=bif zZ ty.a then true else match ty.a.b with
 | some a=>bif ty.e then Fk C a 0 else false
 | none=>false
def Fm(C:fA):List (Nat × Nat × Nat)->List O->Bool
 | [],[]=>true
 | f::a,v::l=>(match C.b.c f.2.1 with
  | some b=>bif Le b.a v then Fm C a l else false
  | none=>false)
 | _,_=>false
def xW(C:fA)(ty:jD)(v:O):Bool:=bif zZ ty.a then Le ty.a v else match ty.a.b with
 | some a=>(match v.ak with
  | some l=>Fm C a l
  | none=>false)
 | none=>false
def qU(a b:O):Option Bool:=
 match a.ac with
 | some x=>ob b.ac λy=>sB (dP x.1 y.1) (some (kB x.2 y.2))
 | none=>match a.w with
  | some x=>ob b.w λy=>some (sF x y)
  | none=>Ot a b
def cY:List O->List O->Option Bool
 | [],[]=>some true
 | a::x,b::y=>ob (qU a b) λr=>ob (cY x y) λs=>some (r&&s)
 | _,_=>none
def iJ(a b:O):Option Bool:=
 match a.ak with
 | some x=>ob b.ak λy=>cY x y
 | none=>qU a b
def rN(k:O):List (O × O)->Option (Option O)
 | []=>some none
 | e::l=>ob (iJ k e.1) λr=>bif r then some (some e.2)else rN k l
def lQ(k v:O):List (O × O)->Option (List (O × O))
 | []=>some [(k,v)]
 | e::l=>ob (iJ k e.1) λr=>bif r then some ((k,v)::l)else ob (lQ k v l) λl=>some (e::l)
abbrev gL:=fA->mD->sA->Option O
def Ew:gL:=λ_ _ _=>none
def fS(x:Operand):gL:=λ_ e _=>ev x e
def Sw(c a b:Operand):gL:=λ_ e _=>ob (ev c e) λc=>ob c.r λc=>bif c then ev a e else ev b e
def Aq(t:Nat)(a:Operand):gL:=λC e H=>ob (ev a e) λv=>ob v.ah λp=>ob (C.b.c t) λb=>ob (eD H p.1) λc=>dV b c.1 p.2
def Ey (x:Operand):gL:=λ_ e _=>ob (ev x e) λv=>sB (Nat.beq v.aa 4||Nat.beq v.aa 9) (some v)
def Aw (op:BinOp)(t:Nat)(x y:Operand):gL:=λC e _=>ob (ev x e) λa=>ob (ev y e) λb=>(dX op).f C t x y a b
def P8 (op:UnOp)(x:Operand):gL:=λ_ e _=>ob (ev x e) λa=>(unA op).f a
def eS(s d:Nat)(x:Operand):gL:=λC e H=>ob (ev x e) λa=>ob (C.b.c s) λs=>ob (C.b.c d) λd=>rW C s d a H
def Ia(t:Nat)(x:Operand):gL:=λC e _=>ob (C.b.c t) λa=>sB (Nat.blt a.a.l 9) (ob (ev x e) λv=>some (.aw t v))
def Oc(f:Nat)(a b:Array Operand):gL:=λ_ e _=>ob (eQ a.toList e) λa=>ob (eQ b.toList e) λb=>some (.q (.aa f) a b)
structure LB where f:gL
def Ib(fn:Fn)(a b:Array Operand):LB:=
 match fn with
 | .func f=>⟨Oc f a b⟩
 | _=>⟨Ew⟩
def Ev(t:Nat)(x:Operand)(lo hi:Option Operand):gL:=λC e H=>
 ob (ev x e) λa=>ob (I4 lo e) λl=>ob (I4 hi e) λh=>ob (C.b.c t) λb=>gP C H b a l h
def Sv(t:Nat)(x:Operand)(lo hi a:Option Operand):LB:=
 match a with
 | none=>⟨Ev t x lo hi⟩
 | some _=>⟨Ew⟩
def Au(s:Nat)(x:Operand)(f:Nat):gL:=λC e _=>
 ob (C.b.c s) λc=>ob c.a.b λb=>ob (lD b f) λa=>sB (!Nat.beq a.2.2 0) (ob (ev x e) λv=>ob v.ah λp=>some (.j p.1 (p.2+a.1)))
def Ic(t:Nat)(x:Operand)(f:Nat):gL:=λC e _=>
 ob (C.b.c t) λc=>ob c.a.b λb=>ob (lD b f) λa=>ob (ev x e) λv=>ob v.ak λl=>eT C a.2.1 l a.1
def Ar(t:Nat)(x i:Operand):gL:=λC e _=>
 ob (C.b.c t) λc=>ob (ev x e) λv=>ob (ev i e) λi=>ob i.aj λi=>
  match v.u with
  | some s=>ob c.a.a λd=>ob (C.b.c d) λb=>sB (Nat.blt i s.2.2.1) (some (.j s.1 (s.2.1+i*b.b)))
  | none=>ob v.ah λp=>ob c.a.g λa=>ob (C.b.c a.2) λb=>sB (Nat.blt i a.1) (some (.j p.1 (p.2+i*b.b)))
def As(t:Nat)(x i:Operand):gL:=λC e _=>
 ob (C.b.c t) λc=>ob (ev x e) λv=>ob (ev i e) λi=>ob i.aj λi=>
  match v.w with
  | some s=>sB c.a.c (ob (lD s i) λb=>some (.e .u8 (.ofNat b)))
  | none=>ob v.ak λl=>ob c.a.g λa=>ob (C.b.c a.2) λd=>sB (Nat.blt i a.1) (eT C a.2 l (i*d.b))
def Av(t:Operand)(i:Nat):gL:=λ_ e _=>ob (ev t e) λv=>ob v.ay λl=>lD l i
def Cu(t:Nat)(b:Array (Nat × Operand)):gL:=λC e _=>
 ob (C.b.c t) λc=>ob (I5 b.toList e) λf=>
  match c.a.b with
  | some g=>ob (yO (λi=>ob (lD g i) λx=>some (x.1,x.2.2)) f c.c) λl=>some (.i l)
  | none=>ob c.a.g λa=>ob (C.b.c a.2) λd=>ob (yO (λi=>some (i*d.b,d.b)) f c.c) λl=>some (.i l)
def Ax(x:Operand)(a:Nat)(ok:Bool):gL:=λC e _=>
 ob (C.b.c a) λb=>sB (Nat.blt b.a.l 9) (ob (ev x e) λv=>
  match v.au with
  | some p=>bif Nat.beq p.1 a then some (bif ok then .p [p.2,.d true]else p.2)else sB ok (some (.p [Bz b,.d false]))
  | none=>sB (Nat.beq v.aa 12&&ok) (some (.p [Bz b,.d false])))
def Ak(H:sA)(v:O):Option (List (O × O)):=
 match v.az with
 | some b=>pN H b
 | none=>sB (Nat.beq v.aa 7) (some [])
def Ap(t:Nat)(x i:Operand)(ok:Bool):gL:=λC e H=>
 ob (C.b.c t) λf=>ob f.a.p λc=>ob (C.b.c c.1) λb=>sB (aY C b) (ob (C.b.c c.2) λa=>
  ob (ev x e) λm=>ob (Ak H m) λd=>ob (ev i e) λk=>sB (xW C b k) (ob (rN k d) λr=>
   match r with
   | some v=>some (bif ok then .p [v,.d true]else v)
   | none=>some (bif ok then .p [Bz a,.d false]else Bz a)))
def dY (H:sA)(ty:jD)(v:O):Option Nat:=
 match v.w with
 | some s=>sB ty.a.c (some (vB s))
 | none=>match v.u with
  | some s=>sB (Nat.beq ty.a.l 4) (some s.2.2.1)
  | none=>match ty.a.g with
   | some a=>some a.1
   | none=>match v.az with
    | some b=>sB (Nat.beq ty.a.l 6) (ob (pN H b) λl=>some (vB l))
    | none=>sB ((Nat.beq ty.a.l 4&&Nat.beq v.aa 5)||(Nat.beq ty.a.l 6&&Nat.beq v.aa 7)) (some 0)
def sU (c:Call):gL:=λC e H=>
 ob (lD c.argTypes.toList 0) λt=>ob (lD c.args.toList 0) λx=>ob (C.b.c t) λa=>ob (ev x e) λv=>ob (dY H a v) λn=>some (.e .i64 (.ofNat n))
def L4 (c:Call)(e:mD):Option (O × O):=
 match c.args.toList with
 | [x,y]=>ob (ev x e) λa=>ob (ev y e) λb=>some (a,b)
 | _=>none
def Ao (c:Call):gL:=λ_ e _=>ob (L4 c e) λp=>ob p.1.ac λx=>ob p.2.ac λy=>some (.e x.1 (bif fB x.2 y.2 then y.2 else x.2))
def An (c:Call):gL:=λ_ e _=>ob (L4 c e) λp=>ob p.1.ac λx=>ob p.2.ac λy=>some (.e x.1 (bif fB y.2 x.2 then y.2 else x.2))
def Xv(c:Call):Builtin->LB
 | .len=>⟨sU c⟩
 | .max=>⟨Ao c⟩
 | .min=>⟨An c⟩
 | _=>⟨Ew⟩
def lX(c:Call):Callee->LB
 | .builtin b=>Xv c b
 | _=>⟨Ew⟩
def uu(c:Call):LB:=lX c c.callee
def jG:Op->LB
 | .move x=>⟨fS x⟩
 | .assign x=>⟨fS x⟩
 | .pick c a b=>⟨Sw c a b⟩
 | .load t a=>⟨Aq t a⟩
 | .nilCheck x=>⟨Ey x⟩
 | .binOp g t x y _=>⟨Aw g t x y⟩
 | .unOp g _ x=>⟨P8 g x⟩
 | .convert s d x=>⟨eS s d x⟩
 | .makeInterface t x=>⟨Ia t x⟩
 | .makeFunc h a b=>Ib h a b
 | .slice t x k j l=>Sv t x k j l
 | .fieldAddr s x f=>⟨Au s x f⟩
 | .field t x f=>⟨Ic t x f⟩
 | .indexAddr t x i=>⟨Ar t x i⟩
 | .index t x i=>⟨As t x i⟩
 | .extract t i=>⟨Av t i⟩
 | .build t m=>⟨Cu t m⟩
 | .typeAssert x _ u e=>⟨Ax x u e⟩
 | .lookup t x i e=>⟨Ap t x i e⟩
 | .call c=>uu c
 | _=>⟨Ew⟩
inductive pM where
 | aa (v:O) (H:sA)
 | am (f:Nat) (args:List O)
 | ak (l:Nat) (args:List O)
 | ah (d:kI)
 | ap (v:O)
 | aj
 | ac
abbrev G7:=fA->mD->sA->pM
structure HB where f:G7
def kN (x:Option (O × sA)):pM:=
 match x with
 | some p=>.aa p.1 p.2
 | none=>.ac
def Eg (x:Option pM):pM:=
 match x with
 | some r=>r
 | none=>.ac
def lv (f:gL):G7:=λC e H=>
 match f C e H with
 | some v=>.aa v H
 | none=>.ac
def B2(H:sA)(b:uA):sA:=⟨H.a+1,H.t.d H.a b⟩
def sG(H:sA)(l:List O)(a:Option Lo):sA:=B2 H (.aa (G.ac l) (vB l) a)
def A7(H:sA)(b:Nat)(x:uA):sA:=⟨H.a,H.t.d b x⟩
def kJ (zero:List O):Nat->List O
 | 0=>[]
 | n+1=>oE zero (kJ zero n)
def Hz(v:O):Option Nat:=
 match v.u with
 | some s=>some s.2.2.1
 | none=>match v.w with
  | some s=>some (vB s)
  | none=>sB (Nat.beq v.aa 5) (some 0)
def De(l:List Nat):List O:=l.map λn=>O.e .u8 (Int.ofNat n)
def qZ(H:sA)(a n:Nat)(v:O):Option (List O):=
 match v.u with
 | some s=>ob (eD H s.1) λc=>c.1.u (n*a) s.2.1
 | none=>match v.w with
  | some s=>some (De (Et s n))
  | none=>sB (Nat.beq v.aa 5) (some [])
def gK(C:fA)(H:sA)(b off:Nat)(l:List O):Option sA:=
 sB (!Nat.blt b C.a) (ob (eD H b) λc=>
  sB (Nat.ble (off+vB l) c.2.1&&nD O.z l) (some (A7 H b (.aa (c.1.am l off) c.2.1 c.2.2))))
def sZ(a:jD)(b cap n:Nat)(new:List O):Bool:=
 Nat.blt (b+n+cap) 1000000000&&Nat.blt ((b+n+cap)*a.d) 1000000000&&Nat.blt a.d 1000000000 && !Nat.beq a.b 0&&Nat.beq (vB new) (n*a.b)&&Nat.beq (vB a.c) a.b
def zih(a:jD):Bool:=match a.a with | .m .u8=>true | _=>false
def wO(e:Nat)(a:jD):Lo:=bif Nat.beq a.b 1&&zih a then .a e else .b a.b
def jX(H:sA)(e:Nat)(a:jD)(n:Nat)(new:List O):Option (O × sA):=
 bif Nat.beq n 0 then some (.g,H)else
  sB (sZ a 0 0 n new) (some (.m H.a 0 n n,sG H new (some (wO e a))))
def Cz(C:fA)(H:sA)(b:jD)(n:Nat)(new:List O)(s:Nat × Nat × Nat × Nat):Option (O × sA):=
 match new with
 | []=>some (.m s.1 s.2.1 (s.2.2.1+n) s.2.2.2,H)
 | _::_=>ob (gK C H s.1 (s.2.1+s.2.2.1*b.b) new) λa=>some (.m s.1 s.2.1 (s.2.2.1+n) s.2.2.2,a)
def Oj(H:sA)(e:Nat)(b:jD)(n:Nat)(new:List O)(s:Nat × Nat × Nat × Nat)(c:G O):Option (O × sA):=
 ob (c.u (s.2.2.1*b.b) s.2.1) λa=>some (.m H.a 0 (s.2.2.1+n) (s.2.2.1+n),sG H (oE a new) (some (wO e b)))
def Lj(C:fA)(H:sA)(e:Nat)(a:jD)(n:Nat)(new:List O)(s:Nat × Nat × Nat × Nat)(c:G O)(m:Nat)(lo:Lo):Option (O × sA):=
 sB (Nat.beq s.2.1 0&&M8 lo (wO e a)&&Nat.ble (s.2.2.1*a.b) m&&Nat.ble m ((s.2.2.1+n)*a.b)&&nD O.z new && !Nat.blt s.1 C.a)
  (some (.m H.a 0 (s.2.2.1+n) (s.2.2.1+n),⟨H.a+1,(H.t.q s.1).d H.a (.aa (c.am new (s.2.2.1*a.b)) ((s.2.2.1+n)*a.b) (some lo))⟩))
def Bb(C:fA)(H:sA)(e:Nat)(a:jD)(n:Nat)(new:List O)(s:Nat × Nat × Nat × Nat):Option (O × sA):=
 sB (!(Nat.beq s.2.1 1&&Nat.beq s.2.2.2 0)) (sB (sZ a s.2.2.1 s.2.2.2 n new) (ob (eD H s.1) λc=>
  match c.2.2 with
  | none=>Oj H e a n new s c.1
  | some b=>Lj C H e a n new s c.1 c.2.1 b))
def Br(C:fA)(H:sA)(ty:jD)(s x:O):Option (O × sA):=
 ob ty.a.a λe=>ob (C.b.c e) λb=>ob (Hz x) λn=>ob (qZ H b.b n x) λa=>
  match s.u with
  | some s=>bif Nat.ble (s.2.2.1+n) s.2.2.2 then Cz C H b n a s else Bb C H e b n a s
  | none=>sB (Nat.beq s.aa 5) (jX H e b n a)
def V6(C:fA)(t:Nat):Bool:=
 match ob (C.b.c t) λc=>ob c.a.b λa=>ob (lD a 0) λf=>ob (C.b.c f.2.1) λb=>some b.a with
 | some (.v e)=>Nat.beq e t
 | _=>false
def bL(C:fA)(t:Nat):Option Lo:=
 bif V6 C t then some (.a t)else
 match ob (C.b.c t) λb=>ob b.a.b λa=>ob (lD a 0) λf=>some (V6 C f.2.1)with
 | some true=>some (.a t)
 | _=>none
def Ij(t:Nat):G7:=λC _ H=>kN (ob (C.b.c t) λa=>some (.j H.a 0,sG H a.c (bL C t)))
def Ff (t:Nat)(x:Operand):G7:=λC e H=>kN (ob (ev x e) λv=>some (.j H.a 0,sG H v.s (bL C t)))
def Eu (C:fA):Op->Option Lo
 | .alloc t=>bL C t
 | .box t _=>bL C t
 | _=>none
def Ii(t a:Nat)(b:Array (Nat × Operand)):G7:=λC e H=>kN (ob (C.b.c t) λg=>ob g.a.a λd=>ob (C.b.c d) λc=>
 sB (Nat.blt (a*c.b) 1000000&&Nat.beq (vB c.c) c.b) (ob (I5 b.toList e) λf=>ob (yO (λi=>some (i*c.b,c.b)) f (kJ c.c a)) λl=>some (.m H.a 0 a a,sG H l none)))
def Th(t:Nat)(a x:Operand):G7:=λC e H=>kN (ob (C.b.c t) λc=>ob (ev a e) λa=>ob a.ah λp=>ob (ev x e) λv=>
 let l:=v.s
 sB (Nat.beq (vB l) c.b) (ob (gK C H p.1 p.2 l) λb=>some (aD,b)))
def Tj(r:Option Operand):G7:=λ_ _ H=>
 match r with
 | none=>.aa (.bc H.a) (B2 H (.aj []))
 | some _=>.ac
def Ih(t:Nat)(m k x:Operand):G7:=λC e H=>kN (ob (C.b.c t) λf=>ob f.a.p λc=>ob (C.b.c c.1) λa=>sB (aY C a)
 (ob (ev m e) λm=>ob m.az λb=>sB (!Nat.blt b C.a) (ob (pN H b) λl=>ob (ev k e) λk=>sB (xW C a k) (ob (ev x e) λv=>ob (lQ k v l) λd=>some (aD,A7 H b (.aj d))))))
def EM(t:Nat)(l c:Operand):G7:=λC e H=>kN (ob (C.b.c t) λd=>ob d.a.a λb=>ob (C.b.c b) λa=>
 ob (ev l e) λl=>ob l.aj λl=>ob (ev c e) λc=>ob c.aj λc=>
  sB (Nat.ble l c&&Nat.blt c 1000000&&Nat.blt (c*a.d) 1000000000&&Nat.beq (vB a.c) a.b) (some (.m H.a 0 l c,sG H (kJ a.c c) none)))
def Cy(s d:Nat)(x:Operand):G7:=λC e H=>
 match eS s d x C e H with
 | some v=>.aa v H
 | none=>kN (ob (C.b.c s) λ_=>ob (C.b.c d) λc=>ob c.a.a λa=>ob (C.b.c a) λb=>ob b.a.o λk=>sB (dP k .u8) (ob (ev x e) λv=>ob v.w λl=>
   some (.m H.a 0 (vB l) (vB l),sG H (De l) (some (.a a)))))
def Ti(x:Operand):G7:=λ_ e _=>Eg (ob (ev x e) λv=>ob v.au λp=>some (.ap (.aw p.1 p.2)))
def pV(f:Operand)(args:Array Operand)(e:mD):Option (L2 × List O × List O):=
 ob (ev f e) λv=>ob v.am λp=>ob (eQ args.toList e) λa=>some (p.1,oE p.2.1 a,p.2.2)
def Yj(c:Call):Callee->HB
 | .value f=>⟨λ_ e _=>Eg (ob (pV f c.args e) λp=>some (.ah ⟨some p.1,0,oE p.2.1 p.2.2⟩))⟩
 | _=>⟨λ_ _ _=>.ac⟩
def gp(c:Call):HB:=Yj c c.callee
def jN(g:List O->sA->Option O):List O->sA->Option (O × sA):=λa H=>ob (g a H) λv=>some (v,H)
def Pe(_:fA)(H:sA)(args:List O)(f:Nat):Option (List O->sA->Option (O × sA))->pM
 | some g=>match g args H with
  | some p=>.aa p.1 p.2
  | none=>.ac
 | none=>.am f args
def TD(l:Nat)(args:List O):List O->pM
 | []=>.ak l args
 | _::_=>.ac
def uv(C:fA)(H:sA)(args cap:List O):L2->pM
 | .aa f=>Pe C H (oE args cap) f (C.c.c f)
 | .ac l=>TD l args cap
def Lh(f:Operand)(args:Array Operand):G7:=λC e H=>Eg (ob (pV f args e) λp=>some (uv C H p.2.1 p.2.2 p.1))
def Oi(c:Call):G7:=λC e H=>kN (ob (lD c.argTypes.toList 0) λt=>ob (C.b.c t) λb=>ob (lD c.argTypes.toList 1) λu=>ob (C.b.c u) λa=>
 sB (!Nat.beq a.a.l 1) (ob (L4 c e) λp=>Br C H b p.1 p.2))
def uw:G7:=λ_ _ _=>.ac
def zof:G7:=λ_ _ _=>.aj
def zog(c:Call):Builtin->HB
 | .append=>⟨Oi c⟩
 | .len=>⟨lv (sU c)⟩
 | .max=>⟨lv (Ao c)⟩
 | .min=>⟨lv (An c)⟩
 | .recover=>⟨zof⟩
 | _=>⟨uw⟩
def Oh(c:Call):Callee->HB
 | .value f=>⟨Lh f c.args⟩
 | .builtin b=>zog c b
 | _=>⟨uw⟩
def oy(c:Call):HB:=Oh c c.callee
def lvB (b:LB):HB:=⟨lv b.f⟩
def iF:Op->HB
 | .move x=>⟨lv (fS x)⟩
 | .assign x=>⟨lv (fS x)⟩
 | .pick c a b=>⟨lv (Sw c a b)⟩
 | .load t a=>⟨lv (Aq t a)⟩
 | .nilCheck x=>⟨lv (Ey x)⟩
 | .binOp h t x y _=>⟨lv (Aw h t x y)⟩
 | .unOp h _ x=>⟨lv (P8 h x)⟩
 | .makeInterface t x=>⟨lv (Ia t x)⟩
 | .makeFunc n a b=>lvB (Ib n a b)
 | .slice t x p o q=>lvB (Sv t x p o q)
 | .fieldAddr s x f=>⟨lv (Au s x f)⟩
 | .field t x f=>⟨lv (Ic t x f)⟩
 | .indexAddr t x i=>⟨lv (Ar t x i)⟩
 | .index t x i=>⟨lv (As t x i)⟩
 | .extract t i=>⟨lv (Av t i)⟩
 | .build t j=>⟨lv (Cu t j)⟩
 | .typeAssert x _ u g=>⟨lv (Ax x u g)⟩
 | .lookup t x i g=>⟨lv (Ap t x i g)⟩
 | .convert s d x=>⟨Cy s d x⟩
 | .alloc t=>⟨Ij t⟩
 | .box t x=>⟨Ff t x⟩
 | .buildSlice t e j=>⟨Ii t e j⟩
 | .store t a x=>⟨Th t a x⟩
 | .makeMap _ r=>⟨Tj r⟩
 | .insert t m k x=>⟨Ih t m k x⟩
 | .mapUpdate t m k x=>⟨Ih t m k x⟩
 | .makeSlice t l c=>⟨EM t l c⟩
 | .panic x=>⟨Ti x⟩
 | .defer c=>gp c
 | .call c=>oy c
 | _=>⟨uw⟩
structure GB where f:Tm->Option Bool
def zto(_:Tm):Option Bool:=some true
def Qj(d:Option Nat)(w:Bool)(tm:Tm):Option Bool:=
 ob d λd=>ob (tm.a d) λv=>match v.r with
  | some b=>some (H7 b w)
  | none=>some false
def Qk(g:Option (Nat × Bool))(all:Array Oper):GB:=
 match g with
 | none=>⟨zto⟩
 | some a=>⟨Qj (ob (lD all.toList a.1) λo=>o.dst) a.2⟩
def cG(g:Option (Nat × Bool))(all:Array Oper)(tm:Tm):Option Bool:=(Qk g all).f tm
structure PB where f:Nat->Tm->O->Tm
def Nn(d n:Nat)(tm:Tm)(v:O):Tm:=bif Nat.blt d n then tm.c d v else tm
def V7(_:Nat)(tm:Tm)(_:O):Tm:=tm
def R4 (dst:Option Nat):PB:=
 match dst with
 | some d=>⟨Nn d⟩
 | none=>⟨V7⟩
def By (n:Nat)(tm:Tm)(dst:Option Nat)(v:O):Tm:=(R4 dst).f n tm v
def fZ.a:fZ->Bool | .ah=>true | _=>false
def yF.j:yF->Option Nat | .f c=>some c | _=>none
def iX(a:Nat):List yF->Option (List yF)
 | []=>none
 | x::k=>match x.j with
  | some i=>bif Nat.beq i a then some k else iX a k
  | none=>iX a k
def zsw(all:Array Oper)(rest:List Oper)(k:List yF)(tm:Tm)(R:eL)(v:O):Option pC:=
 match rest with
 | o::rest=>some ⟨.h all rest::k,By R.n tm o.dst v,R⟩
 | []=>none
def ux(all:Array Oper)(old:Tm)(olds:List (Nat × List Nat))(a:List dH)(k:List yF)(tm:Tm)(R:eL)(v:O):Option pC:=
 match a with
 | b::a=>ob (lD all.toList b.a) λo=>some ⟨.d all old olds (⟨all.size,b.b,b.c⟩::a)::k,By R.n tm o.dst v,R⟩
 | []=>none
def zop(l:Nat)(k:List yF)(tm:Tm)(R:eL)(_:O):Option pC:=some ⟨.g l::k,tm,R⟩
def zoq(k:List yF)(tm:Tm)(R:eL)(_:O):Option pC:=some ⟨k,tm,R⟩
def zw6(_:List yF)(_:Tm)(_:eL)(_:O):Option pC:=none
def Yv:yF->List yF->Tm->eL->O->Option pC
 | .h b d=>zsw b d
 | .d b e c a=>ux b e c a
 | .e l=>zop l
 | .b=>zoq
 | _=>zw6
def fI(a:pC)(v:O):Option pC:=
 match a.a with
 | []=>none
 | x::k=>bif a.R.a.a then Yv x k a.b a.R v else none
def xM(C:fA)(f:Nat)(args:List O)(a:Bool):Option pC:=
 ob (C.d.c f) λb=>ob b.body λc=>ob (C.g.c f) λk=>sB (Nat.ble (vB args) k&&Nat.ble (vB args) b.ntmps) (some ⟨[.a c],⟨k,G.ac args,[]⟩,⟨f,b.ntmps,[],.ah,a,none⟩⟩)
def Ed(n:Nat):List Nat->List O->Tm->Option (Tm)
 | [],[],b=>some b
 | p::d,a::c,b=>Ed n d c (By n b (some p) a)
 | _,_,_=>none
def uy:List Operand->List Nat
 | []=>[]
 | .tmp t::l=>t::uy l
 | _::l=>uy l
def aI(o:Op):List Nat:=uy o.operands.toList
def tG(i:Nat):List (Nat × List Nat)->List Nat
 | []=>[]
 | x::r=>bif Nat.beq i x.1 then x.2 else tG i r
def A8:Nat->O->O->Bool
 | _,.d a,.d b=>H7 a b
 | _,.e j a,.e k b=>dP j k&&kB a b
 | _,.h a,.h b=>sF a b
 | _,.y,.y=>true
 | _,.j a b,.j c d=>Nat.beq a c&&Nat.beq b d
 | _,.g,.g=>true
 | _,.m a b c d,.m e f g h=>Nat.beq a e&&Nat.beq b f&&Nat.beq c g&&Nat.beq d h
 | _,.ax,.ax=>true
 | _,.bc a,.bc b=>Nat.beq a b
 | _,.ap,.ap=>true
 | _,.x,.x=>true
 | d+1,.i a,.i b=>sames d a b
 | d+1,.p a,.p b=>sames d a b
 | _,_,_=>false
where
 sames (d:Nat):List O->List O->Bool
  | [],[]=>true
  | a::x,b::y=>A8 d a b&&sames d x y
  | _,_=>false
def bV(C:fA)(H:sA)(all:Array Oper)(n:Nat)(old:Tm)(olds:List (Nat × List Nat)):List Nat->Tm->Option (Tm)
 | [],a=>some a
 | i::l,a=>ob (lD all.toList i) λo=>ob (cG o.guard all a) λw=>ob (bif w then(jG o.op).f C (.c a old (tG i olds) (aI o.op)) H else some aD) λv=>
   bV C H all n old olds l (By n a o.dst v)
def Ix(C:fA)(H:sA)(all:Array Oper)(old:Tm)(olds:List (Nat × List Nat))(tm:Tm):List Nat->Bool
 | []=>true
 | i::l=>match (ob (lD all.toList i) λo=>ob o.dst λd=>ob (cG o.guard all tm) λw=>bif w then(ob ((jG o.op).f C (.c tm old (tG i olds) (aI o.op)) H) λv=>ob (tm.a d) λu=>some (A8 10 v u))else some true)with
  | some true=>Ix C H all old olds tm l
  | _=>false
def fZ.b:fZ->Option (List Je) | .ac c=>some c | _=>none
def Oy:List Oper->G O->G O
 | [],t=>t
 | o::l,t=>match o.dst with
  | some j=>Oy l (t.q j)
  | none=>Oy l t
def Ss(a:List yF)(tm:Tm):Tm:=
 match a with
 | .d b _ _ _::_=>⟨tm.k,Oy b.toList tm.v,[]⟩
 | _=>tm
def Ah(a:pC)(l:List Je):pC:=
 ⟨[],Ss a.a a.b,⟨a.R.e,a.R.n,a.R.d,.ac (match a.R.a.b with | some c=>oE l c | none=>l),a.R.b,a.R.c⟩⟩
def dN(x:Option xV)(a:Nat):dG:=
 match x with
 | some s=>.aa s
 | none=>.ac a
def rK(H:sA)(l:Nat):Option yP:=sB (Nat.ble (nat_lit 256) l) (ob (H.t.c l) uA.d)
def Bh(H:sA)(l:Nat):Option (Option (List kI)):=sB (Nat.ble (nat_lit 256) l) (ob (H.t.c l) uA.b)
def cj (v:O)(H':sA)(_:fA)(a:pC)(cs:List pC)(_:sA):dG:=dN (ob (fI a v) λa=>some ⟨a,cs,H'⟩) 1
def Rw(f:Nat)(args:List O)(C:fA)(a:pC)(cs:List pC)(H:sA):dG:=dN (ob (xM C f args false) λg=>some ⟨g,a::cs,H⟩) 2
def Ru(l:Nat)(args:List O)(_:fA)(a:pC)(cs:List pC)(H:sA):dG:=
 dN (ob (rK H l) λr=>ob (Ed r.n r.b args r.h) λb=>some ⟨⟨[.a r.c,.b,.a r.f],b,⟨r.g,r.n,[],.ah,false,some l⟩⟩,a::cs,H⟩) 3
def uz(d:kI)(_:fA)(a:pC)(cs:List pC)(H:sA):dG:=
 dN (match a.R.c with
  | none=>ob (fI a aD) λg=>some ⟨⟨g.a,g.b,⟨g.R.e,g.R.n,d::g.R.d,g.R.a,g.R.b,g.R.c⟩⟩,cs,H⟩
  | some _=>none) 4
def zq6(v:O)(_:fA)(a:pC)(cs:List pC)(H:sA):dG:=.aa ⟨Ah a [⟨v,false⟩],cs,H⟩
def Rv(_:fA)(a:pC)(cs:List pC)(H:sA):dG:=
 dN (match a.R.c,a.R.b,cs with
  | none,true,c::d=>match c.R.a with
   | .ac (⟨v,false⟩::b)=>ob (fI a v) λa=>some ⟨a,⟨c.a,c.b,⟨c.R.e,c.R.n,c.R.d,.ac (⟨v,true⟩::b),c.R.b,c.R.c⟩⟩::d,H⟩
   | .ac _=>none
   | _=>ob (fI a .x) λa=>some ⟨a,cs,H⟩
  | _,_,_=>none) 5
def oz(_:fA)(_:pC)(_:List pC)(_:sA):dG:=.ac 6
def Pm:pM->fA->pC->List pC->sA->dG
 | .aa v b=>cj v b
 | .am f a=>Rw f a
 | .ak l a=>Ru l a
 | .ah d=>uz d
 | .ap v=>zq6 v
 | .aj=>Rv
 | .ac=>oz
def qV(C:fA)(H:sA)(tm:Tm):ResultVar->Option O
 | .tmp t=>tm.a t
 | .cell a t=>ob (ob (tm.a a) O.ah) λp=>ob (C.b.c t) λb=>ob (eD H p.1) λc=>dV b c.1 p.2
def Af(C:fA)(H:sA)(tm:Tm)(l:List ResultVar):Option (List O):=jH (qV C H tm) l
def u7(a:Option Code):Bool:=
 match a with
 | none=>true
 | some .ret=>true
 | _=>false
def Ee(a:pC)(m:fZ):pC:=⟨a.a,a.b,⟨a.R.e,a.R.n,a.R.d,m,a.R.b,a.R.c⟩⟩
def nX(a:Option Code)(_:fA)(d:pC)(cs:List pC)(H:sA):dG:=
 dN (match d.R.c with
  | none=>sB (u7 a) (some ⟨Ee d .aa,cs,H⟩)
  | some l=>ob (rK H l) λr=>match cs with
   | c::b=>sB (!d.R.b) <| ob (fI c (.d a.isNone)) λc=>some ⟨c,b,A7 H l (.ac ⟨if a.isNone then .ready else .done,a,r.g,r.n,r.h,r.b,r.c,r.f,r.d⟩)⟩
   | []=>none) 7
abbrev wQ:=fA->List yF->Tm->eL->List pC->sA->dG
structure XB where f:wQ
def Q6 (a:List yF)(tm:Tm)(R:eL)(cs:List pC)(H:sA):dG:=.aa ⟨⟨a,tm,R⟩,cs,H⟩
def Jg:wQ:=λ_ k b R a H=>Q6 k b R a H
def Qf(c:Operand)(x y:Code):wQ:=λ_ k a R d H=>
 match ob (ev c (.b a)) O.r with
 | some b=>Q6 (.a (bif b then x else y)::k) a R d H
 | none=>.ac 8
def zp3(b:Nat)(c:Code):wQ:=λ_ k d R a H=>Q6 (.a c::.f b::k) d R a H
def ve(c:Code):wQ:=λ_ k b R a H=>Q6 (.a c::.i c::k) b R a H
def gq(c:Code):wQ:=λ_ k b R a H=>Q6 (.a c::.k c::k) b R a H
def Gl(a:Nat):wQ:=λC k c R b H=>
 match iX a k with
 | some d=>Q6 d c R b H
 | none=>nX (some (.exit a)) C ⟨.a (.exit a)::k,c,R⟩ b H
def nj:wQ:=λC k b R a H=>nX (some .ret) C ⟨.a .ret::k,b,R⟩ a H
def vf:wQ:=λ_ _ _ _ _ _=>.ac 9
def Ly(e:Edge):Bool:=
 match e.ground with
 | .textOnly _=>false
 | .gcOnly _=>false
 | _=>true
def tb (m i:Nat):Bool:=Nat.beq (Nat.mod (Nat.shiftRight m i) (nat_lit 2)) (nat_lit 1)
def Gb(i:Nat):Nat:=Nat.shiftLeft (nat_lit 1) i
def bK (t:G Nat)(i:Nat):Nat:=
 match t.c i with
 | some m=>m
 | none=>0
def Ny(t:G Nat):List Edge->Nat
 | []=>0
 | e::l=>bif Ly e then Nat.lor (Nat.lor (Gb e.on) (bK t e.on)) (Ny t l)else Ny t l
def vg:List Oper->Nat->G Nat->G Nat
 | [],_,t=>t
 | o::r,i,t=>vg r (i+1) (t.d i (Ny t o.after.toList))
def Xd:List Oper->Nat->Bool
 | [],_=>true
 | o::r,i=>bif nD (λe=>bif Ly e then Nat.blt e.on i else true) o.after.toList then Xd r (i+1)else false
def I8:List Oper->Nat->G Nat->Option (G Nat)
 | [],_,t=>some t
 | o::r,i,t=>match o.dst with
  | none=>I8 r (i+1) t
  | some d=>match t.c d with
   | none=>I8 r (i+1) (t.d d i)
   | some _=>none
def dE{a:Type}:Option a->Bool | none=>true | some _=>false
def vh(b a:G Nat)(i:Nat)(olds:List Nat)(t:Nat):Bool:=
 match b.c t with
 | none=>true
 | some j=>bif yJ t olds then(bif Nat.beq j i then true else tb (bK a j) i)else tb (bK a i) j
def CZ(a:Nat):Option (Nat × Bool)->Bool
 | none=>true
 | some g=>tb a g.1
def sd(b a:G Nat)(olds:List (Nat × List Nat)):List Oper->Nat->Bool
 | [],_=>true
 | o::r,i=>bif CZ (bK a i) o.guard then(bif nD (vh b a i (tG i olds)) (aI o.op)then sd b a olds r (i+1)else false)else false
def lY:Op->Bool
 | .move _=>true
 | .assign _=>true
 | .pick _ _ _=>true
 | .nilCheck _=>true
 | .binOp _ _ _ _ _=>true
 | .unOp _ _ _=>true
 | .makeInterface _ _=>true
 | .makeFunc _ _ _=>true
 | .fieldAddr _ _ _=>true
 | .field _ _ _=>true
 | .indexAddr _ _ _=>true
 | .index _ _ _=>true
 | .extract _ _=>true
 | .build _ _=>true
 | .typeAssert _ _ _ _=>true
 | _=>false
def Dw (D:Nat)(o:Oper):Bool:=nD (λe=>bif Ly e then tb D e.on else true) o.after.toList
def Xc(h D:Nat):List Oper->Nat->Bool
 | [],_=>true
 | o::r,i=>bif (bif tb D i then true else bif Nat.beq i h then true else !Dw D o)then Xc h D r (i+1)else false
def zO:Op->Bool
 | .alloc _=>true
 | .box _ _=>true
 | .buildSlice _ _ _=>true
 | _=>false
def Xf(m D:Nat)(a:List Nat):List Oper->Nat->Bool
 | [],_=>true
 | o::r,i=>bif (bif tb D i then(bif tb m i then true else bif lY o.op then true else bif zO o.op then true else yJ i a)else true)then Xf m D a r (i+1)else false
def Cq(a:List Oper)(i D:Nat):Option Nat:=
 ob (lD a i) λo=>sB (bif tb D i then false else Dw D o) (some (Nat.lor D (Gb i)))
def cT(a:List Oper):List Nat->Nat->Option Nat
 | [],D=>some D
 | i::l,D=>ob (Cq a i D) λD=>cT a l D
def se(D:Nat):List Oper->Nat->Bool
 | [],_=>true
 | _::r,i=>bif tb D i then se D r (i+1)else false
def zwt:Option Oper->Bool
 | some o=>zO o.op
 | none=>false
def sf (a:List Oper)(D:Nat):List Nat->Nat->Option Nat
 | [],E=>some E
 | i::l,E=>ob (lD a i) λo=>sB (!tb E i&&Dw D o&&dE o.dst) (sf a D l (Nat.lor E (Gb i)))
def Xb(b:G Nat)(c:Nat)(a:List Nat):List Oper->Nat->Bool
 | [],_=>true
 | o::r,i=>bif (bif tb c i then true else bif nD (λg=>tb (bK b i) g) a then true else !Dw c o)then Xb b c a r (i+1)else false
def Td(o:Op):Bool:=
 match o with
 | .call c=>(match c.callee with
  | .builtin .len=>true
  | _=>false)
 | _=>false
def Xe(b:G Nat)(D:Nat)(a:List Nat):List Oper->Nat->Bool
 | [],_=>true
 | o::r,i=>bif (bif tb D i then(bif lY o.op then true else bif zO o.op then true else bif Td o.op then true else nD (λg=>tb (bK b g) i) a)else true)then Xe b D a r (i+1)else false
def zgr(a:List Oper)(b:G Nat)(D:Nat)(c:dH):Option Nat:=
 ob (sf a D c.c D) λd=>sB (Xb b d c.c a 0&&Xe b D c.c a 0) (cT a c.b d)
def pL(a:List Oper)(b:G Nat):List dH->Nat->Bool
 | [],D=>se D a 0
 | c::r,D=>bif Nat.blt (vB a) c.a then(bif Nat.blt (vB a+vB a) c.a then(match zgr a b D c with
   | some D=>pL a b r D
   | none=>false)else bif zwt (lD a (Nat.sub c.a (Nat.succ (vB a))))then
   (match ob (Cq a (Nat.sub c.a (Nat.succ (vB a))) D) λD=>cT a c.b D with
   | some D=>pL a b r D
   | none=>false)else false)else bif Xc c.a D a 0 then(bif Xf (bK b c.a) D c.c a 0 then
   (match ob (Cq a c.a D) λD=>cT a c.b D with
   | some D=>pL a b r D
   | none=>false)else false)else false
def CY(a:List Oper)(p:M9):Bool:=
 bif Xd a 0 then
  (match I8 a 0 .aj with
  | none=>false
  | some c=>
   (λb=>bif sd c b p.b a 0 then(match cT a p.c 0 with
    | some D=>pL a b p.a D
    | none=>false)else false) (vg a 0 .aj))else false
structure OkB where b:Bool
def jY(all:Array Oper)(p:M9):Bool:=(OkB.mk (CY all.toList p)).b
def Qe(d:Nat)(all:Array Oper):wQ:=λC k a R c H=>
 dN (ob (ob (C.e.c R.e) λt=>t.c d) λp=>sB (jY all p) <| ob (bV C H all R.n a.b p.b p.c a.b) λb=>some ⟨⟨.d all a.b p.b p.a::k,b,R⟩,c,H⟩) 10
def pM.a:pM->Option (O × sA) | .aa v H=>some (v,H) | _=>none
def nO(C:fA)(all:Array Oper)(k:List yF)(R:eL)(cs:List pC)(l:List Oper):Tm->sA->dG:=
 List.rec (motive:=λ_=>Tm->sA->dG) (λa H=>Q6 k a R cs H)
  (λo b g a H=>
   match cG o.guard all a with
   | some w=>Bool.rec (motive:=λ_=>dG) (g (By R.n a o.dst aD) H)
     (let r:=(iF o.op).f C (.b a) H
     match r.a with
     | some p=>g (By R.n a o.dst p.1) p.2
     | none=>Pm r C ⟨.h all (o::b)::k,a,R⟩ cs H) w
   | none=>.ac 20) l
def xOps (all:Array Oper)(rest:List Oper):wQ:=λC k b R a H=>nO C all k R a rest b H
def ztj(c:Nat)(all:Array Oper)(a:Bool):XB:=
 match a with
 | true=>⟨Qe c all⟩
 | false=>⟨λC k d R b H=>nO C all k R b all.toList d.b H⟩
def Vh(all:Array Oper)(old:Tm)(olds:List (Nat × List Nat))(c:dH)(a:List dH)(o:Oper):wQ:=λC k b R d H=>
 match cG o.guard all b with
 | some w=>Pm (bif w then(iF o.op).f C (.c b old (tG c.a olds) (aI o.op)) H else .aa aD H) C ⟨.d all old olds (c::a)::k,b,R⟩ d H
 | none=>.ac 21
def Qb(all:Array Oper)(old:Tm)(olds:List (Nat × List Nat))(c:dH)(a:List dH):wQ:=λC k b R d H=>
 dN (sB (Ix C H all old olds b c.c) (ob (bV C H all R.n old olds c.b b) λb=>some ⟨⟨.d all old olds a::k,b,R⟩,d,H⟩)) 11
def Vj(all:Array Oper)(old:Tm)(olds:List (Nat × List Nat))(e:dH)(a:List dH)(i:Nat):wQ:=λC k b R d H=>
 dN (ob (lD all.toList i) λo=>ob (cG o.guard all b) λw=>sB (w&&dE (Eu C o.op)) (ob ((iF o.op).f C (.c b old (tG i olds) (aI o.op)) H).a λp=>
  ob (bV C p.2 all R.n old olds e.b (By R.n b o.dst p.1)) λc=>some ⟨⟨.d all old olds a::k,c,R⟩,d,p.2⟩)) 23
inductive uQ where
 | b (t:Nat) (a v:O)
 | c (t:Nat) (m k v:O)
inductive RE where
 | st (b off:Nat) (l:List O)
 | up (b:Nat) (k v:O)
def Fp(op:Op)(e:mD):Option uQ:=
 match op with
 | .store t a x=>ob (ev a e) λa=>ob (ev x e) λv=>some (.b t a v)
 | .mapUpdate t m k x=>ob (ev m e) λm=>ob (ev k e) λk=>ob (ev x e) λv=>some (.c t m k v)
 | .insert t m k x=>ob (ev m e) λm=>ob (ev k e) λk=>ob (ev x e) λv=>some (.c t m k v)
 | _=>none
def Ag (C:fA)(e:uQ):Option RE:=
 match e with
 | .b t a v=>ob (C.b.c t) λd=>ob a.ah λp=>sB (Nat.beq (vB v.s) d.b) (some (.st p.1 p.2 v.s))
 | .c t m k v=>ob (C.b.c t) λd=>ob d.a.p λf=>ob (C.b.c f.1) λc=>sB (aY C c&&xW C c k) (ob m.az λb=>some (.up b k v))
def RE.a:RE->Nat
 | .st b _ _=>b
 | .up b _ _=>b
def zgx(a b:O):Bool:=
 match iJ a b with
 | some r => !r
 | none=>false
def vi(a b:RE):Bool:=bif Nat.beq a.a b.a then(match a with
 | .st _ _ _=>false
 | .up _ k _=>(match b with
  | .st _ _ _=>false
  | .up _ c _=>zgx k c))else true
def AE:List RE->Bool
 | []=>true
 | a::l=>nD (vi a) l&&AE l
def Gd(C:fA)(H:sA)(e:RE):Option sA:=
 match e with
 | .st b a l=>gK C H b a l
 | .up b k v=>sB (!Nat.blt b C.a) (ob (pN H b) λm=>some (A7 H b (.aj (oE m [(k,v)]))))
def Ni(C:fA)(H:sA)(e:RE):Bool:=
 match e with
 | .st b a l => !dE (gK C H b a l)
 | .up b _ _ => !Nat.blt b C.a&&(match pN H b with
  | some []=>true
  | _=>false)
def Mb(C:fA):List RE->sA->Option sA
 | [],H=>some H
 | e::l,H=>ob (Gd C H e) λH=>Mb C l H
def Fg(C:fA)(es:List uQ)(H:sA):Option sA:=ob (jH (Ag C) es) λa=>sB (AE a&&nD (Ni C H) a) (Mb C a H)
def Db(all:Array Oper)(old:Tm)(olds:List (Nat × List Nat))(tm:Tm)(i:Nat):Option uQ:=
 ob (lD all.toList i) λo=>ob (cG o.guard all tm) λw=>sB w (Fp o.op (.c tm old (tG i olds) (aI o.op)))
def Xu(C:fA)(o:Oper):Bool:=
 match o.op with
 | .call c=>(match c.callee with
  | .builtin .len=>(match ob (lD c.argTypes.toList 0) λt=>C.b.c t with
   | some a => !Nat.beq a.a.l 6
   | none=>false)
  | _=>true)
 | _=>true
def Ct(C:fA)(all:Array Oper):Bool:=nD (Xu C) all.toList
def Ow(all:Array Oper)(old:Tm)(olds:List (Nat × List Nat))(tm:Tm)(l:List Nat):Option (List uQ):=jH (Db all old olds tm) l
def Vi(all:Array Oper)(old:Tm)(olds:List (Nat × List Nat))(d:dH)(a:List dH):wQ:=λC k e R f H=>
 dN (sB (Ct C all) (ob (Ow all old olds e d.c) λg=>ob (Fg C g H) λc=>ob (bV C c all R.n old olds d.b e) λb=>some ⟨⟨.d all old olds a::k,b,R⟩,f,c⟩)) 24
def dW (all:Array Oper)(old:Tm)(olds:List (Nat × List Nat))(a:List dH):wQ:=
 match a with
 | []=>Jg
 | b::a=>match lD all.toList b.a with
  | some o=>Vh all old olds b a o
  | none=>bif Nat.blt (vB all.toList) b.a then(bif Nat.blt (vB all.toList+vB all.toList) b.a then Vi all old olds b a else Vj all old olds b a (Nat.sub b.a (Nat.succ (vB all.toList))))else Qb all old olds b a
def Eh(C:fA)(l:Nat)(f:O):Option pC:=
 ob f.am λp=>match p.1 with
  | .aa g=>match C.c.c g with
   | none=>xM C g (oE p.2.1 (.q (.ac l) [] []::p.2.2)) false
   | some _=>none
  | .ac _=>none
def Qa(f:Operand)(b:Array Nat)(a c:Code):wQ:=λC k e R g H=>
 dN (ob (ev f (.b e)) λv=>match R.c with
  | none=>
   let r:=H.a
   let l:=r+1
   ob (Eh C l v) λh=>
    some ⟨h,⟨.e l::k,e,⟨R.e,R.n,⟨none,r,[]⟩::R.d,R.a,R.b,R.c⟩⟩::g,
     B2 (B2 H (.ah (some []))) (.ac ⟨.ready,none,R.e,R.n,e,b.toList,a,c,r⟩)⟩
  | some d=>ob (rK H d) λo=>
   let l:=H.a
   ob (Eh C l v) λh=>
    some ⟨h,⟨.e l::k,e,R⟩::g,B2 H (.ac ⟨.ready,none,R.e,R.n,e,b.toList,a,c,o.d⟩)⟩) 12
def LoopState.a:LoopState->Nat | .ready=>0 | .busy=>1 | .done=>2 | .exhausted=>3
def Qg:wQ:=λ_ k b R a H=>
 dN (ob R.c λl=>ob (rK H l) λr=>sB (Nat.beq (LoopState.a r.e) 0)
  (some ⟨⟨k,b,R⟩,a,A7 H l (.ac ⟨.busy,r.a,r.g,r.n,r.h,r.b,r.c,r.f,r.d⟩)⟩)) 13
def Qc(l:Nat):wQ:=λ_ k b R a H=>
 dN (ob (rK H l) λr=>sB (!Nat.beq (LoopState.a r.e) 1)
  (some ⟨⟨(match r.a with | some c=>.a c::k | none=>k),b,R⟩,a,A7 H l (.ac ⟨.exhausted,r.a,r.g,r.n,r.h,r.b,r.c,r.f,r.d⟩)⟩)) 14
def vj:Code->XB
 | .skip=>⟨Jg⟩
 | .region e g d=>ztj e g d
 | .seq a b=>⟨λC k j R h H=>(vj a).f C (.a b::k) j R h H⟩
 | .cond c x y=>⟨Qf c x y⟩
 | .block e c=>⟨zp3 e c⟩
 | .loop c=>⟨ve c⟩
 | .rangeFunc f i a b=>⟨Qa f i a b⟩
 | .exit e=>⟨Gl e⟩
 | .scope c=>⟨gq c⟩
 | .label _=>⟨Jg⟩
 | .goto _=>⟨vf⟩
 | .ret=>⟨nj⟩
 | .refuse _=>⟨vf⟩
def o9:yF->XB
 | .a c=>vj c
 | .f _=>⟨Jg⟩
 | .i c=>⟨ve c⟩
 | .k _=>⟨Jg⟩
 | .h b e=>⟨xOps b e⟩
 | .d b f d a=>⟨dW b f d a⟩
 | .e _=>⟨vf⟩
 | .g l=>⟨Qc l⟩
 | .b=>⟨Qg⟩
def sW(C:fA)(a:List yF)(tm:Tm)(R:eL)(cs:List pC)(H:sA):dG:=
 match a with
 | []=>nX none C ⟨[],tm,R⟩ cs H
 | x::k=>(o9 x).f C k tm R cs H
def JP(a:pC)(d:List kI):pC:=⟨a.a,a.b,⟨a.R.e,a.R.n,d,a.R.a,a.R.b,a.R.c⟩⟩
def Jv(C:fA)(d:kI)(ds:List kI)(a:pC)(cs:List pC)(H:sA):dG:=
 dN (match d.b with
  | none=>ob (Bh H d.r) λl=>ob l λl=>some ⟨JP a (oE l ds),cs,A7 H d.r (.ah none)⟩
  | some (.aa f)=>match C.c.c f with
   | none=>ob (xM C f d.a true) λg=>some ⟨g,JP a ds::cs,H⟩
   | some _=>none
  | some (.ac _)=>none) 15
def Jw(l:List O):O:=
 match l with
 | [v]=>v
 | l=>.p l
def Ju(C:fA)(b:pC)(cs:List pC)(H:sA):dG:=
 match ob (C.d.c b.R.e) λd=>Af C H b.b d.results.toList with
 | none=>.ac 16
 | some l=>
  match cs with
  | []=>bif b.R.b then .ac 17 else bif Nat.beq b.R.e C.f then .ah (Jw l) H else .ac 22
  | c::a=>dN (bif b.R.b then
    (match c.R.a with
    | .ac (⟨_,true⟩::_)=>some ⟨Ee c .aa,a,H⟩
    | _=>sB (!c.R.a.a) (some ⟨c,a,H⟩))
   else ob (fI c (Jw l)) λc=>some ⟨c,a,H⟩) 18
def Vs(C:fA)(b:pC)(cs:List pC)(H:sA):dG:=
 match b.R.d with
 | d::f=>Jv C d f b cs H
 | []=>match b.R.a.b with
  | some a=>dN (ob (C.d.c b.R.e) λ_=>match cs with | c::e=>some ⟨Ah c a,e,H⟩ | []=>none) 19
  | none=>Ju C b cs H
def V8(C:fA)(s:xV):dG:=
 match s with
 | ⟨⟨a,c,R⟩,b,H⟩=>bif R.a.a then sW C a c R b H else Vs C ⟨a,c,R⟩ b H
def pY(C:fA)(o:dG):dG:=
 match o with
 | .aa s=>V8 C s
 | .ah v H=>.ah v H
 | .ac n=>.ac n
def sX (C:fA)(n:Nat):dG->dG:=
 Nat.rec (motive:=λ_=>dG->dG) (λo=>pY C o) (λ_ g o=>g (g o)) n
end Go.Am
namespace Go.Am
open Go
theorem mA{c d:Type}{x:Option c}{f:c->Option d}{b:d}:ob x f=some b ↔ ∃a,x=some a/\f a=some b:=by
 cases x with
 | none=>simp[ob]
 | some a=>exact⟨λh=>⟨a,rfl,h⟩,fun⟨_,h,k⟩=>by cases h;exact k⟩
@[simp] theorem zvd {a b:Type} {f:a->Option b}:ob none f=none:=rfl
@[simp] theorem lA {b c:Type} {a:b} {f:b->Option c}:ob (some a) f=f a:=rfl
theorem qB{c:Type}{b:Bool}{x:Option c}{a:c}:sB b x=some a ↔ b=true/\x=some a:=by
 cases b with
 | false=>simp[sB]
 | true=>simp[sB]
theorem uM{d:Type}(a b:d)(c:Bool):(Bool.rec (motive:=λ_=>d) a b c:d)=if c=true then b else a:=by cases c<;>rfl
theorem zD{n m:Nat}:(Nat.beq n m=true) ↔ n=m:=⟨Nat.eq_of_beq_eq_true,λh=>by simp_all⟩
theorem R5{n m:Nat}:(Nat.beq n m=false) ↔ n≠m:=by
 rw[<- Bool.not_eq_true,zD]
theorem mF{n m:Nat}:(Nat.ble n m=true) ↔ n<=m:=Iff.of_eq Nat.ble_eq
theorem eC{n m:Nat}:(Nat.blt n m=true) ↔ n<m:=Iff.of_eq Nat.ble_eq
def bD{d:Type}(c:Bool)(a b:d):(bif c then a else b)=if c=true then a else b:=by cases c<;>rfl
namespace G
variable {a:Type}
theorem ah(n:Nat):(aj:G a).c n=none:=rfl
theorem au(l:G a)(v:Option a)(r:G a)(n:Nat) :
  (ak l v r).c n=if n=0 then v else if n%2=1 then l.c (n / 2)else r.c (n / 2-1):=by
 show Bool.rec (motive:=λ_=>Option a) (Bool.rec (motive:=λ_=>Option a) (r.c (n / 2-1)) (l.c (n / 2)) (Nat.beq (n%2) 1)) v (Nat.beq n 0)=_
 grind [uM,zD]
theorem Xh(f n:Nat)(v:a):mk (f+1) n v=if n=0 then ak aj (some v) aj else if n%2=1 then ak (mk f (n / 2) v) none aj else ak aj none (mk f (n / 2-1) v):=by
 show Bool.rec (motive:=λ_=>G a) (Bool.rec (motive:=λ_=>G a) (ak aj none (mk f (n / 2-1) v)) (ak (mk f (n / 2) v) none aj) (Nat.beq (n%2) 1)) (ak aj (some v) aj) (Nat.beq n 0)=_
 grind [uM,zD]
def Wh(n:Nat)(v:a):(aj:G a).d n v=mk (n+1) n v:=rfl
theorem cI(l:G a)(x:Option a)(r:G a)(n:Nat)(v:a) :
  (ak l x r).d n v=if n=0 then ak l (some v) r else if n%2=1 then ak (l.d (n / 2) v) x r else ak l x (r.d (n / 2-1) v):=by
 show Bool.rec (motive:=λ_=>G a) (Bool.rec (motive:=λ_=>G a) (ak l x (r.d (n / 2-1) v)) (ak (l.d (n / 2) v) x r) (Nat.beq (n%2) 1)) (ak l (some v) r) (Nat.beq n 0)=_
 grind [uM,zD]
theorem bh(l:G a)(x:Option a)(r:G a)(n:Nat) :
  (ak l x r).q n=if n=0 then ak l none r else if n%2=1 then ak (l.q (n / 2)) x r else ak l x (r.q (n / 2-1)):=by
 show Bool.rec (motive:=λ_=>G a) (Bool.rec (motive:=λ_=>G a) (ak l x (r.q (n / 2-1))) (ak (l.q (n / 2)) x r) (Nat.beq (n%2) 1)) (ak l none r) (Nat.beq n 0)=_
 grind [uM,zD]
def ba(f:Nat):∀(n m:Nat) (v:a),n<f->(mk f n v).c m=if m=n then some v else none:=by
 induction f with
 | zero=>omega
 | succ f b=>
  grind [Xh,au,ah]
theorem aa(t:G a):∀(n m:Nat) (v:a),(t.d n v).c m=if m=n then some v else t.c m:=by
 induction t with
 | aj=>intro n m v;rw[Wh,ba _ _ _ _ (by omega),ah]
 | ak l x r b c=>
  grind [cI,au]
def be:∀(f g n:Nat) (v:a),n<f->n<g->mk f n v=mk g n v:=by
 intro f;induction f with
 | zero=>omega
 | succ f b=>
  intro g n v c d
  cases g with
  | zero=>omega
  | succ g=>
   rw[Xh,Xh];split
   .rfl
   .split
    .rw[b g _ v (by omega) (by omega)]
    .rw[b g _ v (by omega) (by omega)]
def JL(n:Nat)(v:a):(aj:G a).d n v=if n=0 then ak aj (some v) aj else if n%2=1 then ak (aj.d (n / 2) v) none aj else ak aj none (aj.d (n / 2-1) v):=by
 rw[Wh,Xh];split
 .rfl
 .split
  .rw[Wh,be n (n / 2+1) _ v (by omega) (by omega)]
  .rw[Wh,be n (n / 2-1+1) _ v (by omega) (by omega)]
def WI:∀(s n m:Nat) (x y:a),n+m<=s->n≠m->((aj:G a).d n x).d m y=((aj:G a).d m y).d n x:=by
 intro s;induction s with
 | zero=>omega
 | succ s f=>
  intro n m x y i g;rw[JL n x,JL m y];by_cases c:n=0
  .have b:m≠0:=by omega
   rw[A5 c,A3 b,cI,A3 b];split
   .rw[cI,A5 c]
   .rw[cI,A5 c]
  .rw[A3 c];by_cases b:m=0
   .rw[A5 b];split
    .rw[cI,A5 b,cI,A3 c];rename_i h;rw[A5 h]
    .rw[cI,A5 b,cI,A3 c];rename_i h;rw[A3 h]
   .rw[A3 b];by_cases d:n%2=1<;>by_cases e:m%2=1
    .rw[A5 d,A5 e,cI,A3 b,A5 e,cI,A3 c,A5 d,f _ _ x y (by omega) (by omega)]
    .rw[A5 d,A3 e,cI,A3 b,A3 e,cI,A3 c,A5 d]
    .rw[A3 d,A5 e,cI,A3 b,A5 e,cI,A3 c,A3 d]
    .rw[A3 d,A3 e,cI,A3 b,A3 e,cI,A3 c,A3 d,f _ _ x y (by omega) (by omega)]
def ay(t:G a):∀(n m:Nat) (x y:a),n≠m->(t.d n x).d m y=(t.d m y).d n x:=by
 induction t with
 | aj=>exact λn m x y h=>WI (n+m) n m x y (B4 _) h
 | ak l v r f g=>
  intro n m x y i;rw[cI l v r n x,cI l v r m y];by_cases c:n=0
  .have b:m≠0:=by omega
   rw[A5 c,A3 b,cI,A3 b];split
   .rw[cI,A5 c]
   .rw[cI,A5 c]
  .rw[A3 c];by_cases b:m=0
   .rw[A5 b];split
    .rw[cI,A5 b,cI,A3 c];rename_i h;rw[A5 h]
    .rw[cI,A5 b,cI,A3 c];rename_i h;rw[A3 h]
   .rw[A3 b];by_cases d:n%2=1<;>by_cases e:m%2=1
    .rw[A5 d,A5 e,cI,A3 b,A5 e,cI,A3 c,A5 d,f _ _ x y (by omega)]
    .rw[A5 d,A3 e,cI,A3 b,A3 e,cI,A3 c,A5 d]
    .rw[A3 d,A5 e,cI,A3 b,A5 e,cI,A3 c,A3 d]
    .rw[A3 d,A3 e,cI,A3 b,A3 e,cI,A3 c,A3 d,g _ _ x y (by omega)]
theorem e(t:G a):∀(n m:Nat),(t.q n).c m=if m=n then none else t.c m:=by
 induction t with
 | aj=>intro n m;show(aj:G a).c m=_;rw[ah];split<;>rfl
 | ak l x r b c=>
  grind [bh,au]
def aw(t:G a)(n i:Nat):t.u (n+1) i=ob (t.c i) λv=>ob (t.u n (i+1)) λl=>some (v::l):=rfl
def w(t:G a)(n:Nat):∀(i:Nat) (l:List a),t.u n i=some l->l.length=n/\∀j,j<n->t.c (i+j)=l[j]?:=by
 induction n with
 | zero=>intro i l h;cases h;simp_all
 | succ n c=>
  intro i l h;rw[aw,mA]at h;obtain⟨v,b,h⟩:=h;rw[mA]at h;grind
theorem WM(v:a)(l:List a)(t:G a)(i:Nat):am (v::l) t i=am l (t.d i v) (i+1):=rfl
theorem ap(l:List a):∀(t:G a) (i m:Nat),(am l t i).c m=if i<=m/\m<i+l.length then l[m-i]? else t.c m:=by
 induction l with
 | nil=>intro t i m;rw[A3 (by simp)];rfl
 | cons v l b=>
  grind [WM,aa]
theorem o(l:List a)(m:Nat):(ac l).c m=l[m]?:=by
 grind [ac,ap,ah]
end G
theorem xI{b:Type}(l:List b):∀n,lD l n=l[n]?:=by
 induction l with
 | nil=>intro n;rfl
 | cons a l c=>
  intro n
  cases n with
  | zero=>rfl
  | succ n=>show lD l n=_;grind
theorem vU{b:Type}(l:List b):∀n,tU l n=l.drop n:=by
 induction l with
 | nil=>intro n;simp;rfl
 | cons a l c=>
  intro n
  cases n with
  | zero=>rfl
  | succ n=>show tU l n=_;grind
theorem eV{b:Type}(l:List b):∀n,Et l n=l.take n:=by
 induction l with
 | nil=>intro n;simp;rfl
 | cons a l c=>
  intro n
  cases n with
  | zero=>rfl
  | succ n=>show a::Et l n=_;grind
theorem dD{b:Type}(l:List b):vB l=l.length:=by
 induction l with
 | nil=>rfl
 | cons a l c=>grind [vB]
theorem wI{b:Type}(l m:List b):oE l m=l++m:=by
 induction l with
 | nil=>rfl
 | cons a l c=>grind [oE]
theorem gI{b:Type}(p:b->Bool)(l:List b):nD p l=l.all p:=by
 induction l with
 | nil=>rfl
 | cons a l c=>show(bif p a then nD p l else false)=_;rw[c];cases h:p a<;>simp[h]
theorem iQ{c d:Type}(f:c->Option d)(a:c)(l:List c):jH f (a::l)=ob (f a) λb=>ob (jH f l) λr=>some (b::r):=rfl
theorem Lb{a b:Type}(f:a->Option b):jH f []=some []:=rfl
theorem Es(i:Nat)(l:List Nat):yJ i l=true ↔ i∈l:=by
 induction l with
 | nil=>exact⟨λh=>(by cases h),λh=>(by cases h)⟩
 | cons j l a=>
  grind [yJ,zD]
theorem eJ(a:List Nat):∀b,sF a b=true ↔ a=b:=by
 induction a with
 | nil=>intro b;cases b with
  | nil=>exact⟨λ_=>rfl,λ_=>rfl⟩
  | cons y b=>exact⟨λh=>(by cases h),λh=>(by cases h)⟩
 | cons x a c=>
  intro b
  cases b with
  | nil=>exact⟨λh=>(by cases h),λh=>(by cases h)⟩
  | cons y b=>
   simp_all [sF]
theorem hO{a b:IntKind}:dP a b=true ↔ a=b:=by cases a<;>cases b<;>simp[dP,dw]
theorem kZ(a b:Bool):H7 a b=(a == b):=by cases a<;>cases b<;>rfl
theorem Ba(a b:Int):kB a b=true ↔ a=b:=by
 cases a<;>cases b<;>simp only[kB,zD] <;> (try simp)<;>omega
theorem Yg(a b:Int):vE a b=true ↔ a<=b:=by
 cases a<;>cases b<;>simp only[vE,mF] <;> (try simp)<;>omega
theorem Lg(a b:Int):fB a b=true ↔ a<b:=by
 cases a<;>cases b<;>simp only[fB,eC] <;> (try simp)<;>omega
theorem Fe(a b:Int):kB a b=(a == b):=by grind [Ba]
def zsp(a b:Int):vE a b=decide (a<=b):=by grind [Yg]
def zso(a b:Int):fB a b=decide (a<b):=by grind [Lg]
theorem vS(k:IntKind)(n:Int):cA k n=k.wrap n:=by
 cases n with
 | ofNat n=>
  show(bif Nat.blt n (zI k)then Int.ofNat n else _)=_;rw[bD];by_cases h:Nat.blt n (zI k)=true
  .rw[A5 h];have a:=eC.1 h;cases k<;>simp only[zI]at a<;>simp only[IntKind.wrap,IntKind.bits,IntKind.signed]<;>simp<;>omega
  grind
 | negSucc n=>
  show(bif Nat.blt n (cg k)then Int.negSucc n else _)=_;rw[bD];by_cases h:Nat.blt n (cg k)=true
  .rw[A5 h];have a:=eC.1 h;cases k<;>simp only[cg]at a<;>simp only[IntKind.wrap,IntKind.bits,IntKind.signed]<;>simp<;>omega
  grind
theorem Si{n:Int}{m:Nat}:kO n=some m ↔ n=(m:Int):=by
 cases n with
 | ofNat a=>grind [kO]
 | negSucc a=>grind [kO]
end Go.Am
namespace Go.Am
open Go
variable {a b k v:O}{r:Bool}{l f m:List (O × O)}
theorem Oe  (h:qU a b=some r) :
  (∃k x y,a=.e k x/\b=.e k y/\r=(x == y))\/(∃x y,a=.h x/\b=.h y/\r=sF x y)\/(∃x y,a=.d x/\b=.d y/\r=(x == y)):=by
 cases a<;>simp only[qU,O.ac,O.w,Ot,O.r]at h<;>try (cases h;done)
 case d x=>
  rw[lA,mA]at h;grind [kZ]
 all_goals grind [mA,qB,hO,Fe]
def OR (h:qU a b=some true):a=b:=by
 grind [Oe,eJ]
def OS  (h:qU a b=some r):qU b a=some r:=by
 rcases Oe h with⟨k,x,y,rfl,rfl,c⟩ | ⟨x,y,rfl,rfl,c⟩ | ⟨x,y,rfl,rfl,c⟩
 .have e:kB y x=(x == y):=by grind [Fe]
  show sB (dP k k) (some (kB y x))=_
  grind [qB,hO]
 .grind [qU,O.ac,O.w,lA,eJ]
 .simp only[qU,O.ac,O.w,Ot,O.r,kZ,lA,c];rw[show(y == x)=(x == y) by cases x<;>cases y<;>rfl]
def OL:∀ {x y:List O},cY x y=some true->x=y
 | [],[],_=>rfl
 | a::x,b::y,h=>by
  simp only[cY,mA]at h;obtain⟨r,c,s,d,h⟩:=h;cases r<;>cases s<;>simp at h;rw[OR c,OL d]
 | [],_::_,h=>by cases h
 | _::_,[],h=>by cases h
def OM:∀ {x y:List O} {r:Bool},cY x y=some r->cY y x=some r
 | [],[],_,h=>h
 | a::x,b::y,r,h=>by
  simp only[cY,mA]at h ⊢;obtain⟨e,c,s,d,h⟩:=h;exact⟨e,OS c,s,OM d,h⟩
 | [],_::_,_,h=>by cases h
 | _::_,[],_,h=>by cases h
def Tb  (h:iJ a b=some r):(∃x y,a=.i x/\b=.i y/\cY x y=some r)\/(a.ak=none/\qU a b=some r):=by
 unfold iJ at h;split at h
 .rename_i x c;rw[mA]at h;obtain⟨y,d,h⟩:=h;cases a<;>simp[O.ak]at c;cases b<;>simp[O.ak]at d
  simp_all
 simp_all
def zh8  (h:qU a b=some r):iJ a b=some r:=by
 rcases Oe h with⟨k,x,y,rfl,rfl,c⟩ | ⟨x,y,rfl,rfl,c⟩ | ⟨x,y,rfl,rfl,c⟩<;>exact h
theorem OQ (h:iJ a b=some true):a=b:=by
 rcases Tb h with⟨x,y,rfl,rfl,h⟩ | ⟨_,h⟩
 .rw[OL h]
 .exact OR h
theorem Ta  (h:iJ a b=some r):iJ b a=some r:=by
 rcases Tb h with⟨x,y,rfl,rfl,h⟩ | ⟨_,h⟩
 .exact OM h
 .exact zh8 (OS h)
def DK (l:List (O × O)):Prop:=l.Pairwise λp q=>iJ p.1 q.1=some false
def Ps(l f:List (O × O)):Prop:=f=l\/(l.Perm f/\DK l)
def DK.c (h:DK l)(p:l.Perm f):DK f:=(p.pairwise_iff (λa=>Ta a)).1 h
theorem FB{k:O}:∀ {l:List (O × O)},rN k l=some none ↔ ∀e∈l,iJ k e.1=some false
 | []=>by simp[rN]
 | e::l=>by
  rw[rN,mA];constructor
  .rintro⟨r,b,h⟩
   cases r with
   | true=>cases h
   | false=>
    rw[cond_false]at h;intro x a;rcases C6.1 a with rfl | a
    .exact b
    .exact FB.1 h x a
  .intro h;exact⟨false,h e (.head _),FB.2 λx a=>h x (.tail _ a)⟩
def QR{k v:O}:∀ {l:List (O × O)},rN k l=some (some v)->(k,v)∈l/\iJ k k=some true
 | [],h=>by cases h
 | e::l,h=>by
  rw[rN,mA]at h;obtain⟨r,c,h⟩:=h
  cases r with
  | true=>
   grind [OQ]
  | false=>
   rw[cond_false]at h;obtain⟨a,b⟩:=QR h
   simp_all
def DK.d  (h:DK (l++(k,v)::m)):(∀e∈l,iJ k e.1=some false)/\∀e∈m,iJ k e.1=some false:=by
 unfold DK at h;rw[List.pairwise_append]at h;obtain⟨_,b,c⟩:=h;rw[List.pairwise_cons]at b;exact⟨λe a=>Ta (c e a (k,v) (.head _)),λe a=>b.1 e a⟩
def zbw  (h:∀e∈l,iJ k e.1=some false):rN k (l++m)=rN k m:=by
 induction l with
 | nil=>rfl
 | cons e l a=>
  grind [rN,lA]
def zbx  {r:Option O}(h:Ps l f)(c:rN k l=some r):rN k f=some r:=by
 rcases h with rfl | ⟨p,d⟩
 .exact c
 cases r with
 | none=>
  grind [FB]
 | some v=>
  obtain⟨e,g⟩:=QR c;obtain⟨a,b,rfl⟩:=List.append_of_mem (p.mem_iff.1 e);rw[zbw (d.c p).d.1,rN,g,lA,cond_true]
def BV{k v:O}:∀ {l:List (O × O)},(∀e∈l,iJ k e.1=some false)->lQ k v l=some (l++[(k,v)])
 | [],_=>rfl
 | e::l,h=>by
  rw[lQ,h e (.head _),lA,cond_false,BV λx a=>h x (.tail _ a)];rfl
def JN{k v u:O}{m:List (O × O)}(a:iJ k k=some true):∀ {l:List (O × O)},(∀e∈l,iJ k e.1=some false)->lQ k v (l++(k,u)::m)=some (l++(k,v)::m)
 | [],_=>by simp_all [lQ]
 | e::l,h=>by
  rw[List.cons_append,lQ,h e (.head _),lA,cond_false,JN a λx b=>h x (.tail _ b)];rfl
def JM{k v:O}:∀ {l r:List (O × O)},lQ k v l=some r->((∀e∈l,iJ k e.1=some false)/\r=l++[(k,v)])\/(iJ k k=some true/\∃a u b,l=a++(k,u)::b/\r=a++(k,v)::b)
 | [],r,h=>by cases h;simp_all
 | e::l,r,h=>by
  rw[lQ,mA]at h;obtain⟨q,c,h⟩:=h
  cases q with
  | true=>
   rw[cond_true]at h;cases h;have:=OQ c;refine .inr ⟨by simp_all,[],e.2,l,?_,rfl⟩;rw[F3,this]
  | false=>
   rw[cond_false,mA]at h;obtain⟨i,d,h⟩:=h;cases h;rcases JM d with⟨g,rfl⟩ | ⟨f,a,u,b,rfl,rfl⟩
   all_goals grind
def WK {r:List (O × O)}(h:Ps l f)(j:lQ k v l=some r):∃n,lQ k v f=some n/\Ps r n:=by
 rcases h with rfl | ⟨p,d⟩
 .exact⟨r,j,.inl rfl⟩
 rcases JM j with⟨z,rfl⟩ | ⟨w,a,u,b,rfl,rfl⟩
 .refine⟨_,BV λe A=>z e (p.mem_iff.2 A),.inr ⟨p.append_right _,?_⟩⟩;unfold DK;rw[List.pairwise_append];exact⟨d,by simp,λx m y i=>by grind [Ta]⟩
 .obtain⟨c,g,rfl⟩:=List.append_of_mem (p.mem_iff.1 (E3 a (.head b)));refine⟨_,JN w (d.c p).d.1,.inr ⟨?_,?_⟩⟩
  .have B:(a++b).Perm (c++g):=by
    have C:(a++(k,u)::b).Perm ((k,u)::(a++b)):=List.perm_middle;have D:(c++(k,u)::g).Perm ((k,u)::(c++g)):=List.perm_middle;exact(C.symm.trans (p.trans D)).cons_inv
   exact List.perm_middle.trans ((B.cons _).trans List.perm_middle.symm)
  .unfold DK at d ⊢;rw[List.pairwise_append,List.pairwise_cons]at d ⊢;obtain⟨o,⟨q,s⟩,t⟩:=d;refine⟨o,⟨q,s⟩,λx m y i=>?_⟩;rcases C6.1 i with rfl | i
   .exact t x m (k,u) (.head _)
   grind
end Go.Am
namespace Go.Am
open Go
structure BI where
 b:Nat
 a:Bool
 d:Nat
 c:Nat
 e:Bool
structure Mu where
 m:Nat->Option BI
 n:Nat->Option (uA × Nat × Nat)
instance:CoeFun Mu λ_=>Nat->Option BI:=⟨Mu.m⟩
def Mu.l(μ ν:Mu):Prop:=∀a i,μ a=some i->ν a=some i
structure Mu.le (μ ν:Mu):Prop where
 f:∀a i,μ a=some i->ν a=some i
 c:ν.n=μ.n
instance {μ ν:Mu}:CoeFun (μ.le ν) λ_=>∀a i,μ a=some i->ν a=some i:=⟨Mu.le.f⟩
instance {μ ν:Mu}:Coe (μ.le ν) (μ.l ν):=⟨Mu.le.f⟩
def Mu.g(μ:Mu):μ.le μ:=⟨λ_ _ h=>h,rfl⟩
def Mu.o{a b c:Mu}(h:a.le b)(k:b.le c):a.le c:=⟨λx i d=>k.f x i (h.f x i d),k.c.trans h.c⟩
def Pu(μ:Mu):L2->Fn->Prop
 | .aa f,a=>a=.func f
 | .ac l,a=>∃i,μ l=some i/\a=.yield i.b
mutual
def rA (μ:Mu):O->Value->Prop
 | .d b,v=>v=.bool b
 | .e k n,v=>v=.int k n
 | .h l,v=>∃s,v=.string s/\rG s=l
 | .y,v=>v=.pointer none
 | .j b off,v=>∃i,μ b=some i/\v=.pointer (some ⟨i.b,off,none⟩)
 | .g,v=>v=.slice none 0 0
 | .m b off d cap,v=>(∃i cap',μ b=some i/\v=.slice (some ⟨i.b,off,none⟩) d cap'/\cap<=cap'/\(i.a=true->cap'=cap)/\(i.a=false->off+cap'*i.d<=i.c))\/(b=0/\d=0/\cap=0/\∃a c,v=.slice (some a) 0 c/\(off=0/\c=0\/off=1))
 | .ax,v=>v=.map none
 | .bc b,v=>∃i,μ b=some i/\v=.map (some i.b)
 | .q f a c,v=>∃fn a' c',v=.func fn a' c'/\Pu μ f fn/\bB μ a a'.toList/\bB μ c c'.toList
 | .ap,v=>v=.nilFunc
 | .aw t x,v=>∃x',v=.iface t x'/\rA μ x x'
 | .x,v=>v=.nilIface
 | .i l,v=>∃cs,v=.agg cs/\bB μ l cs.toList
 | .p l,v=>∃cs,v=.tuple cs/\bB μ l cs.toList
def bB (μ:Mu):List O->List Value->Prop
 | [],m=>m=[]
 | a::l,m=>∃v r,m=v::r/\rA μ a v/\bB μ l r
end
theorem Pu.a{μ ν:Mu}(h:μ.l ν){f:L2}{g:Fn}(k:Pu μ f g):Pu ν f g:=by
 cases f with
 | aa f=>exact k
 | ac l=>obtain⟨i,a,b⟩:=k;exact⟨i,h _ _ a,b⟩
mutual
theorem rA.d{μ ν:Mu}(h:μ.l ν):∀(a:O) (v:Value),rA μ a v->rA ν a v
 | .d _,_,k=>k
 | .e _ _,_,k=>k
 | .h _,_,k=>k
 | .y,_,k=>k
 | .j _ _,_,⟨i,b,d⟩=>⟨i,h _ _ b,d⟩
 | .g,_,k=>k
 | .m _ _ _ _,_,.inl ⟨i,c,b,d⟩=>.inl ⟨i,c,h _ _ b,d⟩
 | .m _ _ _ _,_,.inr k=>.inr k
 | .ax,_,k=>k
 | .bc _,_,⟨i,b,d⟩=>⟨i,h _ _ b,d⟩
 | .q _ a c,_,⟨fn,a',c',b,d,e,f⟩=>⟨fn,a',c',b,d.a h,bB.q h a _ e,bB.q h c _ f⟩
 | .ap,_,k=>k
 | .aw _ x,_,⟨x',b,d⟩=>⟨x',b,rA.d h x _ d⟩
 | .x,_,k=>k
 | .i l,_,⟨cs,b,d⟩=>⟨cs,b,bB.q h l _ d⟩
 | .p l,_,⟨cs,b,d⟩=>⟨cs,b,bB.q h l _ d⟩
theorem bB.q{μ ν:Mu}(h:μ.l ν):∀(l:List O) (m:List Value),bB μ l m->bB ν l m
 | [],_,k=>k
 | a::l,_,⟨v,r,b,d,e⟩=>⟨v,r,b,rA.d h a v d,bB.q h l r e⟩
end
def bB.d{μ:Mu}{l:List O}:∀ {m:List Value},bB μ l m->m.length=l.length:=by
 induction l with
 | nil=>grind [bB]
 | cons a l b=>grind [bB]
theorem bB.w{μ:Mu}{l:List O}:∀ {m:List Value} {i:Nat} {a:O},bB μ l m->l[i]?=some a->∃v,m[i]?=some v/\rA μ a v:=by
 induction l with
 | nil=>simp_all
 | cons b l c=>
  grind [bB]
theorem bB.mk{μ:Mu}{l:List O}:∀ {m:List Value},m.length=l.length->(∀(i:Nat) a v,l[i]?=some a->m[i]?=some v->rA μ a v)->bB μ l m:=by
 induction l with
 | nil=>grind [bB]
 | cons a l b=>
  intro m h k
  cases m with
  | nil=>simp at h
  | cons v r=>
   rw[bB];exact⟨v,r,rfl,k 0 a v (by simp) (by simp),b (by grind) λi a v c d=>k (i+1) a v (by simp_all) (by simp_all)⟩
def bB.o{μ:Mu}{l b:List O}:∀ {m c:List Value},bB μ l m->bB μ b c->bB μ (l++b) (m++c):=by
 induction l with
 | nil=>grind [bB]
 | cons a l d=>grind [bB]
def bB.z{μ:Mu}{l:List O}{m:List Value}(h:bB μ l m)(n:Nat):bB μ (l.drop n) (m.drop n):=by
 refine bB.mk (by simp[h.d]) λi a v b c=>?_;rw[lm]at b c;obtain⟨u,e,d⟩:=h.w b
 simp_all
def bB.aa{μ:Mu}{l:List O}{m:List Value}(h:bB μ l m)(n:Nat):bB μ (l.take n) (m.take n):=by
 refine bB.mk (by simp[h.d]) λi a v b c=>?_;rw[ul]at b c;split at b
 .rename_i d;rw[A5 d]at c;obtain⟨u,f,e⟩:=h.w b
  simp_all
 grind
theorem bB.p{μ:Mu}:bB μ [] []:=by rw[bB]
def bB.e{μ:Mu}{a:O}{l:List O}{v:Value}{m:List Value}(h:rA μ a v)(k:bB μ l m):bB μ (a::l) (v::m):=by grind [bB]
def bB.g{μ:Mu}{a:O}{v:Value}(h:rA μ a v):bB μ [a] [v]:=.e h .p
theorem Iu{v:O}{b:Bool}:v.r=some b ↔ v=.d b:=by cases v<;>simp[O.r]
def GU{v:O}{n:Int}:v.ba=some n ↔ ∃k,v=.e k n:=by cases v<;>simp[O.ba]
theorem Bq{v:O}{p:IntKind × Int}:v.ac=some p ↔ v=.e p.1 p.2:=by cases v<;>simp[O.ac,Prod.ext_iff]
theorem Bp{v:O}{l:List Nat}:v.w=some l ↔ v=.h l:=by cases v<;>simp[O.w]
def Ma{v:O}{p:Nat × Nat}:v.ah=some p ↔ v=.j p.1 p.2:=by cases v<;>simp[O.ah,Prod.ext_iff]
def It{v:O}{p:Nat × Nat × Nat × Nat}:v.u=some p ↔ v=.m p.1 p.2.1 p.2.2.1 p.2.2.2:=by cases v<;>simp[O.u,Prod.ext_iff]
def AB{v:O}{b:Nat}:v.az=some b ↔ v=.bc b:=by cases v<;>simp[O.az]
theorem Pl{v:O}{l:List O}:v.ak=some l ↔ v=.i l:=by cases v<;>simp[O.ak]
def zcp{v:O}{l:List O}:v.ay=some l ↔ v=.p l:=by cases v<;>simp[O.ay]
theorem TQ{v:O}{p:L2 × List O × List O}:v.am=some p ↔ v=.q p.1 p.2.1 p.2.2:=by cases v<;>simp[O.am,Prod.ext_iff]
def TP{v:O}{p:Nat × O}:v.au=some p ↔ v=.aw p.1 p.2:=by cases v<;>simp[O.au,Prod.ext_iff]
theorem AA{v:O}{n:Nat}:v.aj=some n ↔ ∃k,v=.e k (n:Int):=by
 simp_all [O.aj,mA,GU,Si]
theorem bZ{v:O}:(v.aa=3 ↔ v=.y)/\(v.aa=5 ↔ v=.g)/\(v.aa=7 ↔ v=.ax)/\(v.aa=10 ↔ v=.ap)/\(v.aa=12 ↔ v=.x):=by
 cases v<;>simp[O.aa]
def rA.e{μ:Mu}{a:O}{v:Value}(h:rA μ a v)(b:a.ak=none):v.cells = #[v]:=by
 cases a<;>rw[rA]at h<;>first
  | (subst h;rfl)
  | (rcases h with⟨_,_,_,rfl,_⟩ | ⟨_,_,_,_,_,rfl,_⟩<;>rfl)
  | (obtain⟨_,rfl,_⟩:=h;rfl)
  | (obtain⟨_,_,rfl⟩:=h;rfl)
  | (obtain⟨_,_,_,rfl,_⟩:=h;rfl)
  | grind [O.ak]
def rA.g{μ:Mu}{a:O}{v:Value}(h:rA μ a v)(b:a.z=true):v.oneCell'=true:=by
 cases a<;>rw[rA]at h<;>first
  | (subst h;rfl)
  | (rcases h with⟨_,_,_,rfl,_⟩ | ⟨_,_,_,_,_,rfl,_⟩<;>rfl)
  | (obtain⟨_,rfl,_⟩:=h;rfl)
  | (obtain⟨_,_,rfl⟩:=h;rfl)
  | (obtain⟨_,_,_,rfl,_⟩:=h;rfl)
  | (revert b;decide)
  | (have:=eC.1 b;grind [O.aa])
def Zq{μ:Mu}{a:O}{v:Value}(h:rA μ a v):bB μ a.s v.cells.toList:=by
 unfold O.s
 cases b:a.ak with
 | none=>rw[h.e b];exact bB.g h
 | some l=>rw[Pl.1 b,rA]at h;obtain⟨c,rfl,h⟩:=h;exact h
def aS(P:Program)(t:Nat):jE:=
 match P.underlying t with
 | some .bool=>.r
 | some (.int k)=>.m k
 | some .string=>.j
 | some (.pointer e)=>.v e
 | some (.slice e)=>.i e
 | some (.array n e)=>.q n e
 | some (.map k e)=>.w k e
 | some (.struct a)=>.f (a.toList.map λf=>(f.offset,f.type,P.cellsOf f.type))
 | some (.func ..)=>.u
 | some (.interface _)=>.s
 | _=>.t
def Yc:Value->Bool
 | .agg _=>true
 | _=>false
def zl5(P:Program)(t:Nat):Bool:=(P.fieldsOf t).toList.all λf=>(P.info? f.type).isSome
def R6 (P:Program)(t:Nat):Option jD:=
 match P.info? t with
 | some i=>match i.zero with
  | some z=>ob (jH Kq z.cells.toList) λl=>sB (H7 (Yc z) (aS P t).h&&(P.underlying t).isSome&&zl5 P t)
    (some ⟨aS P t, i.size, i.bytes, l, !P.stoodInHeld t && !P.eqGuardType P.depth t && (P.fieldsOf t).toList.all (λf => f.name != "_")⟩)
  | none=>none
 | none=>none
def nG(P:Program)(C:fA):Prop:=∀t a,C.b.c t=some a->R6 P t=some a
theorem Zu{a b:ByteArray}(h:rG a=rG b):a=b:=by
 have c:a.data.toList=b.data.toList:=by
  grind [rG,List.map_inj_right,UInt8.toNat_inj]
 have d:a.data=b.data:=mf.1 c;cases a;simp_all
theorem ME{μ:Mu}{v:Value}{a:O}(h:Kq v=some a):rA μ a v/\a.z=true:=by
 unfold Kq at h;split at h<;>cases h<;>refine⟨?_,rfl⟩<;>rw[rA]
 simp_all
theorem MD{μ:Mu}{m:List Value}:∀ {l:List O},jH Kq m=some l->bB μ l m:=by
 induction m with
 | nil=>grind [Lb,bB.p]
 | cons v m d=>
  intro l h;rw[iQ,mA]at h;obtain⟨a,b,h⟩:=h;rw[mA]at h;obtain⟨r,c,h⟩:=h;cases h;exact .e (ME b).1 (d c)
def XO{μ:Mu}{v:Value}{a:O}(h:DA v=some a):rA μ a v:=by
 unfold DA at h;split at h
 .rename_i c b;rw[mA]at h;obtain⟨l,d,h⟩:=h;cases h;cases v<;>simp[zta]at b
  grind [rA,MD]
 grind [ME]
structure bO (P:Program) (t:Nat) (ty:jD):Prop where
 g:∃i,P.info? t=some i/\i.size=ty.b/\i.bytes=ty.d/\∃z,i.zero=some z/\jH Kq z.cells.toList=some ty.c/\Yc z=ty.a.h
 b:aS P t=ty.a
 c:∃d,P.underlying t=some d
 k:∀f∈(P.fieldsOf t).toList,∃i,P.info? f.type=some i
 l : ty.e = true -> P.stoodInHeld t = false /\ P.eqGuardType P.depth t = false /\ ∀ f ∈ (P.fieldsOf t).toList, f.name ≠ "_"
def zaj{P:Program}{t:Nat}{ty:jD}(h:R6 P t=some ty):bO P t ty:=by
 unfold R6 at h;split at h
 .rename_i i c;split at h
  .rename_i z e;rw[mA]at h;obtain⟨l,d,h⟩:=h;rw[qB]at h;obtain⟨a,h⟩:=h;cases h;rw[B3,B3]at a;refine⟨⟨i,c,rfl,rfl,z,e,d,?_⟩,rfl,Option.isSome_iff_exists.1 a.1.2,λf b=>Option.isSome_iff_exists.1 (C8.1 a.2 f b),λh=>?_⟩
   all_goals grind [kZ]
  .cases h
 .cases h
def nG.a{P:Program}{C:fA}(h:nG P C){t:Nat}{ty:jD}(k:C.b.c t=some ty):bO P t ty:=zaj (h t ty k)
section
variable {P:Program}{w:World}{t:Nat}{ty:jD}
def Kf{i:TypeInfo}(h:P.info? t=some i):(typeInfo t).run P w=.ok i w:=by
 simp[typeInfo,h]
def vG{d:TypeDesc}(h:P.underlying t=some d):(underlying t).run P w=.ok d w:=by
 simp[underlying,h]
def bO.a(h:bO P t ty):(sizeOf t).run P w=.ok ty.b w:=by
 obtain⟨i,a,b,_⟩:=h.g;simp[sizeOf,Kf a,b]
def bO.e(h:bO P t ty){μ:Mu}:∃z,(∀w,(zeroValue t).run P w=.ok z w)/\rA μ (Bz ty) z/\bB μ ty.c z.cells.toList:=by
 obtain⟨i,d,_,_,z,e,f,a⟩:=h.g;have c:bB μ ty.c z.cells.toList:=MD f;refine⟨z,λw=>by simp[zeroValue,Kf d,e],?_,c⟩;unfold Bz
 cases b:ty.a.h with
 | true=>
  rw[b]at a;cases z<;>simp[Yc]at a;show rA μ (.i ty.c) _;rw[rA];exact⟨_,rfl,c⟩
 | false=>
  rw[b]at a;have g:z.cells = #[z]:=by cases z<;>first | rfl | simp[Yc]at a
  grind [bB]
def bO.j(h:bO P t ty):(Go.isAgg t).run P w=.ok ty.a.h w:=by
 obtain⟨d,b⟩:=h.c;have a:=h.b;unfold aS at a;rw[b]at a;unfold Go.isAgg;rw[C2,vG b,C3,<- a];cases d<;>rfl
def Lr(h:bO P t ty){a:List (Nat × Nat × Nat)}(k:ty.a.b=some a):∃g,P.underlying t=some (.struct g)/\a=g.toList.map λf=>(f.offset,f.type,P.cellsOf f.type):=by
 obtain⟨d,c⟩:=h.c;have b:=h.b
 grind [aS,jE.b]
def fX(h:bO P t ty){e:Nat}(k:ty.a.a=some e):P.underlying t=some (.slice e):=by
 obtain⟨d,b⟩:=h.c;have a:=h.b;unfold aS at a;rw[b]at a;rw[<- a]at k;cases d<;>simp[jE.a]at k;rw[b,k]
def Ze(h:bO P t ty){p:Nat × Nat}(k:ty.a.g=some p):P.underlying t=some (.array p.1 p.2):=by
 obtain⟨d,b⟩:=h.c;have a:=h.b;unfold aS at a;rw[b]at a;rw[<- a]at k;cases d<;>simp[jE.g]at k;rw[b,<- k]
def RX(h:bO P t ty){p:Nat × Nat}(k:ty.a.p=some p):P.underlying t=some (.map p.1 p.2):=by
 obtain⟨d,b⟩:=h.c;have a:=h.b;unfold aS at a;rw[b]at a;rw[<- a]at k;cases d<;>simp[jE.p]at k;rw[b,<- k]
def FU(h:bO P t ty){k:IntKind}(e:ty.a.o=some k):P.underlying t=some (.int k):=by
 obtain⟨d,b⟩:=h.c;have a:=h.b;unfold aS at a;rw[b]at a;rw[<- a]at e;cases d<;>simp[jE.o]at e;rw[b,e]
def Zd(h:bO P t ty)(e:ty.a.c=true):P.underlying t=some .string:=by
 obtain⟨d,b⟩:=h.c;have a:=h.b
 grind [aS,jE.c,jE.l,Nat.beq]
def RW(h:bO P t ty)(e:Nat.blt ty.a.l 9=true):∃d,P.underlying t=some d/\∀a,d≠.interface a:=by
 obtain⟨d,b⟩:=h.c;refine⟨d,b,λa c=>?_⟩;subst c;have f:=h.b
 grind [aS,eC,jE.l]
end
structure Gj (μ:Mu) (d:kI) (e:Deferred):Prop where
 a:match d.b with
  | none=>∃i,μ d.r=some i/\e={ target:=.collected i.b,args := #[] }
  | some f=>∃fn cap as,e={ target:=.fn fn cap,args:=as }/\Pu μ f fn/\bB μ d.a (as++cap).toList
def cF(μ:Mu)(n:Nat)(tm:Tm)(tmps:Array Value):Prop:=tmps.size=n/\∀i v,tm.a i=some v->rA μ v (tmps.getD i undef)
structure Vc (μ:Mu) (l:yP) (r:Loop):Prop where
 f:r.state=l.e
 a:r.pending=l.a
 g:r.fn=l.g
 j:cF μ l.n l.h r.tmps
 b:r.params.toList=l.b
 c:r.assign=l.c
 e:r.body=l.f
 d:∃i,μ l.d=some i/\r.defers=i.b
inductive qE {α β:Type} (R:α->β->Prop):List α->List β->Prop
 | ac:qE R [] []
 | aa {a b l m}:R a b->qE R l m->qE R (a::l) (b::m)
def kK (μ:Mu)(i:BI):uA->Obj->Prop
 | .aa c n g,o=>∃h d m,o=.cells h d m/\n<=h.size/\(i.e=true\/m.2<=m.1\/h.size<=m.1)/\(∀(j:Nat) v,c.c j=some v->j<n/\∃y,h[j]?=some y/\rA μ v y) ∧
   (match g with | none=>i.a=true | some w=>i.a=false/\i.d=w.c/\i.c=h.size/\∀t,w=.a t->d=t)
 | .aj l,o=>∃u f k,o=.map u f/\Ps l k/\qE (λp e=>rA μ p.1 e.key/\rA μ p.2 e.val) k u.toList
 | .ac l,o=>∃r,o=.loop r/\Vc μ l r
 | .ah l,o=>∃k,o=.deferred k/\(match l,k with | none,none=>True | some a,some b=>qE (Gj μ) a b | _,_=>False)
 | .ak s q,o=>∃x,o=.stringIter x q/\rG x=s
structure lB (B N:Nat) (μ:Mu) (H:sA) (w:World):Prop where
 ak:256<=B
 ac:∀g,g<256->μ g=some ⟨g,true,0,0,true⟩
 aw:∀a x i,a<B->H.t.c a=some x->μ a=some i->i.b<N/\x.d=none/\x.b=none
 ah:B<=H.a
 aa:N<=w.heap.size
 r:∀a,H.a<=a->μ a=none/\H.t.c a=none
 am:∀a x i,H.t.c a=some x->μ a=some i->∃o,w.heap[i.b]?=some o/\kK μ i x o
 aj:∀a i,B<=a->μ a=some i->N<=i.b/\i.b<w.heap.size/\i.e=false
 inj:∀a b x y i j,H.t.c a=some x->H.t.c b=some y->μ a=some i->μ b=some j->B<=a->B<=b->i.b=j.b->a=b
 ax:∀a x t,μ.n a=some (x,t)->μ a=none/\H.t.c a=some x/\B<=a
end Go.Am
namespace Go.Am
open Go
variable {a x:Operand}{b f off t:Nat}{p:G O × Nat × Option Lo}{i:BI}{l:List O}
def iG (μ:Mu)(e:mD)(a:Operand->Value):Prop:=∀x v,ev x e=some v->rA μ v (a x)
def iG.d{μ:Mu}{e:mD}{c:Operand->Value}(h:iG μ e c):∀ {l:List Operand} {r:List O},eQ l e=some r->bB μ r (l.map c):=by
 intro l;induction l with
 | nil=>intro r k;unfold eQ at k;rw[Lb]at k;cases k;exact .p
 | cons x l g=>
  intro r k;unfold eQ at k;rw[iQ,mA]at k;obtain⟨a,d,k⟩:=k;rw[mA]at k;obtain⟨b,f,k⟩:=k;cases k;exact .e (h _ _ d) (g f)
def iG.c{μ:Mu}{e:mD}{f:Operand->Value}(h:iG μ e f):∀ {l:List (Nat × Operand)} {r:List (Nat × O)},I5 l e=some r →
  qE (λp q=>p.1=q.1/\rA μ p.2 q.2) r (l.map λx=>(x.1,f x.2)):=by
 intro l;induction l with
 | nil=>intro r k;unfold I5 at k;rw[Lb]at k;cases k;exact .ac
 | cons x l i=>
  intro r k;unfold I5 at k;rw[iQ,mA]at k;obtain⟨a,c,k⟩:=k;rw[mA]at c;obtain⟨j,c,d⟩:=c;cases d;rw[mA]at k;obtain⟨b,g,k⟩:=k;cases k;exact .aa ⟨rfl,h _ _ c⟩ (i g)
def vk(μ:Mu):Option O->Option Value->Prop
 | none,none=>True
 | some a,some v=>rA μ a v
 | _,_=>False
def iG.g{μ:Mu}{e:mD}{b:Operand->Value}(h:iG μ e b){x:Option Operand}{r:Option O}(k:I4 x e=some r):vk μ r (x.map b):=by
 cases x with
 | none=>cases k;trivial
 | some x=>unfold I4 at k;simp only[]at k;rw[mA]at k;obtain⟨a,c,k⟩:=k;cases k;exact h _ _ c
theorem Dj(b off n:Nat):Addr.add ⟨b,off,none⟩ n=⟨b,off+n,none⟩:=by
 grind [Addr.add]
section
variable {P:Program}{C:fA}{B N:Nat}{μ:Mu}{H:sA}{w:World}
def Ga  (h:eD H b=some p):H.t.c b=some (.aa p.1 p.2.1 p.2.2):=by
 unfold eD at h;rw[mA]at h;obtain⟨x,a,h⟩:=h;cases x<;>simp[uA.a]at h
 grind
def lB.bh(d:lB B N μ H w)  (h:eD H b=some p) (hi:μ b=some i){j:Nat}{v:O}(l:p.1.c j=some v) :
  ∃v',w.cell? ⟨i.b,j,none⟩=some v'/\rA μ v v':=by
 obtain⟨o,g,c⟩:=d.am _ _ _ (Ga h) hi;obtain⟨e,a,f,rfl,_,_,k,_⟩:=c
 grind [World.cell?]
def lB.ba(m:lB B N μ H w)  (h:eD H b=some p) (hi:μ b=some i){n:Nat} (q:p.1.u n off=some l) :
  ∃c:List Value,c.length=n/\bB μ l c/\(loadCells ⟨i.b,off,none⟩ n).run P w=.ok c.toArray w/\∀j,j<n->w.cell? ⟨i.b,off+j,none⟩=c[j]?:=by
 obtain⟨s,k⟩:=G.w _ _ _ _ q;have r:∀j,j<n->∃e,w.cell? ⟨i.b,off+j,none⟩=some e/\∃a,l[j]?=some a/\rA μ a e:=by
  intro j o;have g:=k j o
  cases d:l[j]? with
  | none=>grind
  | some a=>
   rw[d]at g;obtain⟨e,t,u⟩:=m.bh h hi g
   simp_all
 let f:Nat->Value:=λj=>(w.cell? ⟨i.b,off+j,none⟩).getD undef
 have v:∀j,j<n->w.cell? ⟨i.b,off+j,none⟩=some (f j):=by
  grind
 refine⟨(List.range n).map f,by simp,?_,?_,?_⟩
 all_goals grind [bB.mk,run_loadCells,Dj]
def MT(e:lB B N μ H w) {ty:jD}(c:bO P t ty)  (h:eD H b=some p) (hi:μ b=some i) {v:O}
  (a:dV ty p.1 off=some v):∃v',(loadVar t ⟨i.b,off,none⟩).run P w=.ok v' w/\rA μ v v':=by
 unfold dV at a;unfold loadVar;rw[C2,c.j,C3]
 cases f:ty.a.h with
 | true=>
  rw[f,cond_true,mA]at a;obtain⟨l,k,a⟩:=a;cases a;obtain⟨m,_,d,j,_⟩:=e.ba (P:=P) h hi k;refine⟨.agg m.toArray,?_,by grind [rA]⟩;rw[A5 rfl,C2,c.a,C3,C2,j];rfl
 | false=>
  rw[f,cond_false]at a;obtain⟨v',g,d⟩:=e.bh h hi a;refine⟨v',?_,d⟩;rw[A3 (by simp),run_load,g]
def Rx(g:nG P C)  {cs:Array Value}(e:bB μ l cs.toList) {v:O}(a:eT C t l off=some v) :
  ∃v',(part t cs off).run P w=.ok v' w/\rA μ v v':=by
 unfold eT at a;rw[mA]at a;obtain⟨f,b,a⟩:=a;have c:=g.a b;unfold part;rw[C2,c.j,C3]
 cases d:f.a.h with
 | true=>
  rw[d,cond_true]at a;cases a;refine⟨.agg (cs.extract off (off+f.b)),?_,?_⟩
  .rw[A5 rfl,C2,c.a];rfl
  .rw[rA];refine⟨_,rfl,?_⟩;rw[eV,vU,Array.toList_extract,List.extract_eq_take_drop,Nat.add_sub_cancel_left];exact(e.z _).aa _
 | false=>
  rw[d,cond_false,xI]at a;obtain⟨v',h,i⟩:=e.w a
  simp_all
def aJ (P:Program)(μ:Mu)(w:World)(b:Operand->Value)(o:Oper)(v:O):Prop:=∃a,(execOp b o).run P w=.ok (.value a) w/\rA μ v a
variable {e:mD}{m:Operand->Value}{dst:Option Tmp}{type:TypeId}{n:String}{j:Array Edge}{k:Option (Nat × Bool)}{v:O}
def NP(a:iG μ e m) (h:fS x C e H=some v):aJ P μ w m ⟨dst,.move x,type,n,j,k⟩ v:=⟨m x,rfl,a x v h⟩
def OD(a:iG μ e m) (h:fS x C e H=some v):aJ P μ w m ⟨dst,.assign x,type,n,j,k⟩ v:=⟨m x,rfl,a x v h⟩
def NO(d:iG μ e m){c b:Operand}(h:Sw c a b C e H=some v):aJ P μ w m ⟨dst,.pick c a b,type,n,j,k⟩ v:=by
 unfold Sw at h;rw[mA]at h;obtain⟨o,l,h⟩:=h;rw[mA]at h;obtain⟨g,i,h⟩:=h;have f:=d _ _ l;rw[Iu.1 i,rA]at f;unfold aJ execOp;simp only[f,asBool]
 cases g with
 | true=>exact⟨m a,rfl,d _ _ h⟩
 | false=>exact⟨m b,rfl,d _ _ h⟩
def NR(o:nG P C)(l:lB B N μ H w)(g:iG μ e m)  (h:Aq t a C e H=some v):aJ P μ w m ⟨dst,.load t a,type,n,j,k⟩ v:=by
 unfold Aq at h;simp only[mA,Ma]at h;obtain⟨x,q,p,rfl,A,b,c,r,h⟩:=h;have d:=g _ _ q;rw[rA]at d;obtain⟨i,s,z⟩:=d;obtain⟨u,y,f⟩:=MT (P:=P) l (o.a b) r s h;refine⟨u,?_,f⟩
 grind [execOp,Instr.loadAt,Instr.sureAddr,Sem.run_bind,Sem.run_pure,Result.andThen_ok]
def zhu(p:iG μ e m) (h:Ey x C e H=some v):aJ P μ w m ⟨dst,.nilCheck x,type,n,j,k⟩ v:=by
 unfold Ey at h;rw[mA]at h;obtain⟨a,q,h⟩:=h;rw[qB]at h;obtain⟨r,h⟩:=h;cases h;have c:=p _ _ q;refine⟨m x,?_,c⟩;cases v<;>simp[O.aa,Nat.beq]at r
 .rw[rA]at c;obtain⟨i,_,s⟩:=c
  simp_all [execOp]
 .rename_i g a b;rw[rA]at c;obtain⟨o,t,u,s,d,_⟩:=c
  cases g with
  | aa f=>cases d;simp_all [execOp]
  | ac l=>obtain⟨i,_,rfl⟩:=d;simp_all [execOp]
def NW(c:iG μ e m){fn:Fn}{a b:Array Operand}(h:(Ib fn a b).f C e H=some v):aJ P μ w m ⟨dst,.makeFunc fn a b,type,n,j,k⟩ v:=by
 unfold Ib at h;split at h
 .rename_i f;simp only[Oc,mA]at h;obtain⟨i,d,l,g,h⟩:=h;cases h;refine⟨.func (.func f) (a.map m) (b.map m),rfl,?_⟩;rw[rA];exact⟨_,_,_,rfl,rfl,by simpa using c.d d,by simpa using c.d g⟩
 .cases h
def NV(f:nG P C)(c:iG μ e m)  (h:Ia t x C e H=some v):aJ P μ w m ⟨dst,.makeInterface t x,type,n,j,k⟩ v:=by
 unfold Ia at h;simp only[mA,qB]at h;obtain⟨p,b,i,a,g,h⟩:=h;cases h;obtain⟨d,l,o⟩:=RW (f.a b) i;refine⟨.iface t (m x),?_,by rw[rA];exact⟨_,rfl,c _ _ g⟩⟩;simp only[execOp,Instr.makeInterface,C2,vG l,C3];cases d<;>first | rfl | exact absurd rfl (o _)
def OA(d:iG μ e m){t:Operand}{i:Nat}(h:Av t i C e H=some v):aJ P μ w m ⟨dst,.extract t i,type,n,j,k⟩ v:=by
 unfold Av at h;simp only[mA,zcp,xI]at h;obtain⟨a,f,l,rfl,h⟩:=h;have b:=d _ _ f;rw[rA]at b;obtain⟨p,r,g⟩:=b;obtain⟨o,q,c⟩:=g.w h;refine⟨o,?_,c⟩
 simp_all [execOp,Instr.extract]
def NX(p:nG P C)(s:iG μ e m)   (h:Ic t x f C e H=some v):aJ P μ w m ⟨dst,.field t x f,type,n,j,k⟩ v:=by
 unfold Ic at h;simp only[mA,Pl,xI]at h;obtain⟨J,i,D,c,B,b,a,u,l,rfl,h⟩:=h;obtain⟨g,F,rfl⟩:=Lr (p.a i) c;have o:=s _ _ u;rw[rA]at o;obtain⟨A,I,y⟩:=o;rw[G4]at b
 cases d:g.toList[f]? with
 | none=>simp_all
 | some q=>
  rw[d]at b;simp at b;subst b;obtain⟨z,E,r⟩:=Rx (w:=w) p y h;refine⟨z,?_,r⟩
  simp_all [execOp,Instr.field,vG,asAgg]
def NZ(y:nG P C)(u:iG μ e m){s:Nat}  (h:Au s x f C e H=some v):aJ P μ w m ⟨dst,.fieldAddr s x f,type,n,j,k⟩ v:=by
 unfold Au at h;simp only[mA,Ma,xI,qB]at h;obtain⟨M,q,D,l,B,c,L,a,z,p,rfl,h⟩:=h;cases h;obtain⟨g,I,rfl⟩:=Lr (y.a q) l;have r:=u _ _ z;rw[rA]at r;obtain⟨i,J,K⟩:=r;rw[G4]at c
 cases o:g.toList[f]? with
 | none=>simp_all
 | some b=>
  rw[o]at c;simp at c;subst c;refine⟨.pointer (some ⟨i.b,p.2+b.offset,none⟩),?_,by grind [rA]⟩;have E:g[f]?=some b:=by simp_all
  have t:P.cellsOf b.type≠0:=by
   grind [R5]
  have F:(sizeOf b.type).run P w=.ok (P.cellsOf b.type) w:=by
   unfold Program.cellsOf at t ⊢
   cases d:P.info? b.type with
   | none=>simp_all
   | some A=>simp[sizeOf,Kf d]
  simp_all [execOp,Instr.fieldAt,vG,Instr.sureAddr,fieldPlace,Dj]
end
end Go.Am
namespace Go.Am
open Go
section
variable {P:Program}{C:fA}{B N:Nat}{μ:Mu}{H:sA}{w:World}
variable {e:mD}{c:Operand->Value}{dst:Option Tmp}{type:TypeId}{A:String}{o:Array Edge}{z:Option (Nat × Bool)}{v:O}
def Ji{k:IntKind}{n:Nat}(h:n<zI k):k.wrap (n:Int)=n:=by
 rw[<- vS];show(bif Nat.blt n (zI k)then Int.ofNat n else _)=_
 grind [eC]
def DZ(k:IntKind):∃m,zI k=2^m/\m<=k.bits:=by
 cases k
 .exact⟨7,rfl,by decide⟩
 .exact⟨15,rfl,by decide⟩
 .exact⟨31,rfl,by decide⟩
 .exact⟨63,rfl,by decide⟩
 .exact⟨8,rfl,by decide⟩
 .exact⟨16,rfl,by decide⟩
 .exact⟨32,rfl,by decide⟩
 .exact⟨64,rfl,by decide⟩
def Fx{k:IntKind}{n:Nat}(h:n<zI k):(BitVec.ofInt k.bits (n:Int)).toNat=n:=by
 obtain⟨m,b,a⟩:=DZ k;rw[BitVec.toNat_ofInt];have:n<2^k.bits:=Nat.lt_of_lt_of_le (b ▸ h) (L7 (by omega) a);rw[<- Int.natCast_emod,Int.toNat_natCast,Nat.mod_eq_of_lt this]
def Yh{f:Nat->Nat->Nat}{k:IntKind}{a b:Int}{v:O}(h:fJ f k a b=some v):∃x y:Nat,a=x/\b=y/\x<zI k/\y<zI k/\v=.e k (f x y:Nat):=by
 grind [fJ,mA,Si,qB,eC]
def zko{op:BinOp}{k:IntKind}{a b:Int}(h:(uo op).f k a b=some v):op≠.shl/\op≠.shr/\∀t,∃v',(binOp op t (.int k a) (.int k b)).run P w=.ok v' w/\rA μ v v':=by
 cases op<;>simp only[uo]at h
 case add=>cases h;simp_all [binOp,Op.intArith,rA,vS]
 case sub=>cases h;simp_all [binOp,Op.intArith,rA,vS]
 case mul=>cases h;simp_all [binOp,Op.intArith,rA,vS]
 case quo=>
  unfold F9 at h;simp only[bD,Ba]at h;split at h
  .cases h
  .rename_i g;cases h
   simp_all [rA,vS,binOp,Op.intDiv]
 case rem=>
  unfold Fc at h;simp only[bD,Ba]at h;split at h
  .cases h
  .rename_i g;cases h
   simp_all [rA,binOp,Op.intDiv]
 case and=>
  unfold No at h;split at h
  .obtain⟨x,y,rfl,rfl,f,c,rfl⟩:=Yh h;refine⟨by simp,by simp,λt=>⟨.int k ((x &&& y:Nat):Int),?_,by rw[rA];rfl⟩⟩;have d:x &&& y<zI k:=K8 Nat.and_le_left f;simp only[binOp,Op.intBits,BitVec.toNat_and,Fx f,Fx c,Ji d];simp
  .simp only[mA,Si,qB,eC]at h;obtain⟨y,rfl,c,h⟩:=h;cases h;have e:(BitVec.ofInt k.bits a).toNat=Int.toNat (Int.emod a (.ofNat (kW k))):=by
    rw[BitVec.toNat_ofInt];cases k<;>rfl
   generalize Int.toNat (Int.emod a (.ofNat (kW k)))=x at e ⊢;refine⟨by simp,by simp,λt=>⟨.int k ((x &&& y:Nat):Int),?_,by rw[rA];rfl⟩⟩;have d:x &&& y<zI k:=K8 Nat.and_le_right c;simp only[binOp,Op.intBits,BitVec.toNat_and,e,Fx c,Ji d];simp
 case or=>
  obtain⟨x,y,rfl,rfl,f,c,rfl⟩:=Yh h;obtain⟨m,i,_⟩:=DZ k;refine⟨by simp,by simp,λt=>⟨.int k ((x ||| y:Nat):Int),?_,by rw[rA];rfl⟩⟩;have d:x ||| y<zI k:=by simp_all [Nat.or_lt_two_pow]
  simp only[binOp,Op.intBits,BitVec.toNat_or,Fx f,Fx c,Ji d];simp
 case xor=>
  obtain⟨x,y,rfl,rfl,f,c,rfl⟩:=Yh h;obtain⟨m,i,_⟩:=DZ k;refine⟨by simp,by simp,λt=>⟨.int k ((x ^^^ y:Nat):Int),?_,by rw[rA];rfl⟩⟩;have d:x ^^^ y<zI k:=by simp_all [Nat.xor_lt_two_pow]
  simp only[binOp,Op.intBits,BitVec.toNat_xor,Fx f,Fx c,Ji d];simp
 case eql=>cases h;simp_all [binOp,Op.intCmp,rA,Fe]
 case neq=>cases h;exact⟨by simp,by simp,λt=>⟨.bool (a != b),by simp[binOp,Op.intCmp],by rw[rA,Fe];rfl⟩⟩
 case lss=>cases h;simp_all [binOp,Op.intCmp,rA,zso]
 case leq=>cases h;simp_all [binOp,Op.intCmp,rA,zsp]
 case gtr=>cases h;simp_all [binOp,Op.intCmp,rA,zso]
 case geq=>cases h;simp_all [binOp,Op.intCmp,rA,zsp]
 all_goals cases h
theorem Ph(s:ByteArray):(rG s).length=s.size:=by simp[rG]
theorem ZH(a b:ByteArray):rG (a++b)=rG a++rG b:=by simp[rG]
def zck(s:ByteArray)(i:Nat):(rG s)[i]?=(s[i]?).map UInt8.toNat:=by
 unfold rG;rw[G4];congr 1;by_cases h:i<s.size
 all_goals simp_all [ByteArray.getElem_eq_getElem_data]
theorem TG(s:ByteArray)(l h:Nat):rG (s.extract l h)=((rG s).take h).drop l:=by
 unfold rG;rw[ByteArray.data_extract,Array.toList_extract,List.extract_eq_take_drop,<- List.map_take,<- List.map_drop,List.drop_take]
def TH{a b:ByteArray}:(a.toList == b.toList)=(sF (rG a) (rG b)):=by
 grind [Lib.toList_data,eJ,rG,Zu]
def zbg(a:List UInt8):∀b:List UInt8,Op.bytesLess a b=DR (a.map UInt8.toNat) (b.map UInt8.toNat):=by
 induction a with
 | nil=>intro b;cases b<;>rfl
 | cons x a c=>
  intro b
  cases b with
  | nil=>rfl
  | cons y b=>
   show _=(bif Nat.blt x.toNat y.toNat then true else bif Nat.beq x.toNat y.toNat then DR (a.map UInt8.toNat) (b.map UInt8.toNat)else false)
   grind [Op.bytesLess,eC,UInt8.lt_iff_toNat_lt,UInt8.toNat_inj,zD]
def zkl{op:BinOp}{a b:ByteArray}(h:(uq op).f (rG a) (rG b)=some v):op≠.shl/\op≠.shr/\∀t,∃v',(binOp op t (.string a) (.string b)).run P w=.ok v' w/\rA μ v v':=by
 cases op<;>simp only[uq]at h
 case add=>
  simp only[kG,qB,eC,dD,wI,Ph]at h;obtain⟨c,h⟩:=h;cases h;refine⟨by simp,by simp,λt=>⟨.string (a++b),?_,by grind [rA,ZH]⟩⟩;have d:¬ (((a.size+b.size:Nat):Int) > IntKind.i64.max):=by
   have:IntKind.i64.max=9223372036854775807:=by decide
   omega
  simp_all [binOp,Op.stringOp]
 case eql=>cases h;exact⟨by simp,by simp,λt=>⟨.bool (a.toList == b.toList),rfl,by rw[rA,TH]⟩⟩
 case neq=>cases h;exact⟨by simp,by simp,λt=>⟨.bool !(a.toList == b.toList),rfl,by rw[rA,TH]⟩⟩
 case lss=>cases h;exact⟨by simp,by simp,λt=>⟨.bool (Op.bytesLess a.toList b.toList),rfl,by rw[rA,Lib.toList_data,Lib.toList_data,zbg];rfl⟩⟩
 all_goals cases h
def Tq{op:BinOp}{t:TypeId}{x y:Operand}{a b:Value}(c:¬ (a=.nilIface/\b=.nilIface)\/(Tf x||Tf y)=true)(d:∀l m,¬ (a=.agg l/\b=.agg m)):(eqGuard op t x y a b).run P w=.ok () w:=by
 unfold eqGuard;cases op
 case eql | neq=>
  rw[A3 (by simp)];split
  .rcases c with c | c
   .simp_all
   .cases x<;>cases y<;>simp[Tf]at c ⊢
  all_goals simp_all
 all_goals rfl
theorem YK{op:BinOp}{t:TypeId}{x y:Operand}{l m:Array Value}(h:P.eqGuardType P.depth t=false):(eqGuard op t x y (.agg l) (.agg m)).run P w=.ok () w:=by
 simp_all [eqGuard]
def Nd{op:BinOp}{t a:TypeId}{x y:Operand}{v':Value}(b:(eqGuard op t x y (c x) (c y)).run P w=.ok () w)(d:(binOp op t (c x) (c y)).run P w=.ok v' w) :
  (execOp c ⟨dst,.binOp op t x y a,type,A,o,z⟩).run P w=.ok (.value v') w:=by
 simp_all [execOp]
def JK{k:IntKind}{b:Int}{n:Nat}(h:Kc k b=some n):¬ b<0/\n=min b.toNat k.bits:=by
 grind [Kc,mA,Si]
def TK{op:BinOp}{t i:TypeId}{x y:Operand}{a b:O}(f:rA μ a (c x))(g:rA μ b (c y))
  (h:(op=.shl/\Uq Az a b=some v)\/(op=.shr/\Uq ci a b=some v)):aJ P μ w c ⟨dst,.binOp op t x y i,type,A,o,z⟩ v:=by
 rcases h with⟨rfl,h⟩ | ⟨rfl,h⟩
 all_goals
  unfold Uq at h;simp only[mA,Bq,GU]at h;obtain⟨p,rfl,n,⟨j,rfl⟩,h⟩:=h;rw[rA]at f g
 .unfold Az at h;rw[mA]at h;obtain⟨m,e,h⟩:=h;cases h;obtain⟨d,rfl⟩:=JK e;refine⟨.int p.1 (p.1.wrap (p.2*2^(min n.toNat p.1.bits))),Nd (Tq (.inl (by grind)) (by grind)) ?_,by rw[rA,vS];simp⟩;rw[f,g];simp[binOp,Op.shift,d]
 .unfold ci at h;rw[mA]at h;obtain⟨m,e,h⟩:=h;cases h;obtain⟨d,rfl⟩:=JK e;refine⟨.int p.1 (p.2.fdiv (2^(min n.toNat p.1.bits))),Nd (Tq (.inl (by grind)) (by grind)) ?_,by rw[rA];simp⟩;rw[f,g];simp[binOp,Op.shift,d]
def Tp{n m:Nat}{a b:O}{r:Bool}(h:Im n m a b=some r):(a.aa=n/\b.aa=n/\r=true)\/(a.aa=n/\b.aa=m/\r=false)\/(a.aa=m/\b.aa=n/\r=false):=by
 grind [Im,zD,qB]
theorem zjc{t:Nat}{ty:jD}(n:bO P t ty){a b:O}{o p:Value}(f:rA μ a o)(g:rA μ b p){r:Bool}{d:Nat}(h:Tt ty.a a b=some r) :
  (Op.equalIn (d+1) t o p).run P w=.ok r w:=by
 obtain⟨D,m⟩:=n.c;have j:=n.b;unfold aS at j;rw[m]at j;unfold Op.equalIn;rw[C2,vG m,C3];rw[<- j]at h;cases D<;>simp only[Tt]at h<;>try (cases h;done)
 case bool=>
  simp only[Ot,mA,Iu]at h;obtain⟨x,rfl,y,rfl,h⟩:=h
  simp_all [rA,kZ]
 case int k=>
  simp only[um,mA,Bq,qB,hO]at h;obtain⟨x,rfl,y,rfl,q,h⟩:=h
  simp_all [rA,Fe]
 case string=>
  simp only[FN,mA,Bp]at h;obtain⟨x,rfl,y,rfl,h⟩:=h;cases h;rw[rA]at f g;obtain⟨s,rfl,rfl⟩:=f;obtain⟨u,rfl,rfl⟩:=g;have:(s == u)=sF (rG s) (rG u):=by
   rw[Bool.eq_iff_iff,eJ];have c:(s == u)=(s.data == u.data):=rfl
   grind [rG,Zu]
  simp_all
 case pointer l=>
  rcases Tp h with⟨c,e,rfl⟩ | ⟨c,e,rfl⟩ | ⟨c,e,rfl⟩<;>cases a<;>simp[O.aa]at c<;>cases b<;>simp[O.aa]at e<;>rw[rA]at f<;>rw[rA]at g
  .simp_all
  .obtain⟨i,_,g⟩:=g;simp_all
  .obtain⟨i,_,f⟩:=f;simp_all
 case slice l=>
  rcases Tp h with⟨c,e,rfl⟩ | ⟨c,e,rfl⟩ | ⟨c,e,rfl⟩<;>cases a<;>simp[O.aa]at c<;>cases b<;>simp[O.aa]at e<;>rw[rA]at f<;>rw[rA]at g
  .simp_all
  .rcases g with⟨i,_,_,g,_⟩ | ⟨_,_,_,_,_,g,_⟩ <;> (simp_all)
  .rcases f with⟨i,_,_,f,_⟩ | ⟨_,_,_,_,_,f,_⟩ <;> (simp_all)
 case map k l=>
  rcases Tp h with⟨c,e,rfl⟩ | ⟨c,e,rfl⟩ | ⟨c,e,rfl⟩<;>cases a<;>simp[O.aa]at c<;>cases b<;>simp[O.aa]at e<;>rw[rA]at f<;>rw[rA]at g
  .simp_all
  .obtain⟨i,_,g⟩:=g;simp_all
  .obtain⟨i,_,f⟩:=f;simp_all
 case func z A B=>
  rcases Tp h with⟨c,e,rfl⟩ | ⟨c,e,rfl⟩ | ⟨c,e,rfl⟩<;>cases a<;>simp[O.aa]at c<;>cases b<;>simp[O.aa]at e<;>rw[rA]at f<;>rw[rA]at g
  .simp_all
  .obtain⟨i,_,_,g,_⟩:=g;simp_all
  .obtain⟨i,_,_,f,_⟩:=f;simp_all
 case interface v=>
  rcases Tp h with⟨c,e,rfl⟩ | ⟨c,e,rfl⟩ | ⟨c,e,rfl⟩<;>cases a<;>simp[O.aa]at c<;>cases b<;>simp[O.aa]at e<;>rw[rA]at f<;>rw[rA]at g
  .simp_all
  .obtain⟨i,g,_⟩:=g;simp_all
  .obtain⟨i,f,_⟩:=f;simp_all
theorem QU{t:Nat}{g:Array Field}(h:P.underlying t=some (.struct g)):P.fieldsOf t=g:=by unfold Program.fieldsOf;rw[h]
theorem zpx(j:nG P C){D:Nat}{i:Nat->O->O->Option Bool}(c:∀t a b d e r,rA μ a d->rA μ b e->i t a b=some r->(Op.equalIn D t d e).run P w=.ok r w)
  {m n : List O} {k l : Array Value} (B : bB μ m k.toList) (E : bB μ n l.toList) : ∀ (g : List Field) (r : Bool), (∀ f ∈ g, f.name ≠ "_") -> Pn C i m n (g.map λf => (f.offset, f.type, P.cellsOf f.type)) = some r →
   (Op.eqFields D k l g).run P w=.ok r w:=by
 intro g;induction g with
 | nil=>intro r _ h;cases h;rfl
 | cons f g F=>
  intro r z h;rw[L1,Pn]at h;simp only[mA]at h;obtain⟨a,x,b,y,q,A,h⟩:=h;obtain⟨d,o,p⟩:=Rx (P:=P) (w:=w) j B x;obtain⟨e,s,u⟩:=Rx (P:=P) (w:=w) j E y;have v:=c _ _ _ _ _ _ p u A;rw[Op.eqFields,A5 (z f (by simp))];simp only[C2,o,C3,s,v]
  cases q with
  | true=>grind
  | false=>simp_all
def ztc(l:nG P C):∀(d D t:Nat) (a b:O) (c e:Value) (r:Bool),d<=D->rA μ a c->rA μ b e->P7 C d t a b=some r->(Op.equalIn D t c e).run P w=.ok r w:=by
 intro d;induction d with
 | zero=>intro D t a b c e r _ _ _ h;cases h
 | succ d v=>
  intro D t a b c e r p q s h
  cases D with
  | zero=>omega
  | succ D=>
   rw[P7,mA]at h;obtain⟨x,j,h⟩:=h;have k:=l.a j;split at h
   .rename_i m f;simp only[qB,mA,Pl]at h;obtain⟨i,y,rfl,z,rfl,h⟩:=h;obtain⟨g,u,rfl⟩:=Lr k f;obtain⟨n,_,o⟩:=k.l i
    grind [rA,QU,run_equalIn_struct,zpx]
   grind [zjc]
theorem zyf(j:nG P C){d t:Nat}{a b:O}{l m:Array Value}{r:Bool}(e:rA μ a (.agg l))(k:rA μ b (.agg m))(h:P7 C d t a b=some r):P.eqGuardType P.depth t=false:=by
 cases d with
 | zero=>cases h
 | succ d=>
  rw[P7,mA]at h;obtain⟨n,f,h⟩:=h;split at h
  .rw[qB]at h;exact((j.a f).l h.1).2.1
  .exfalso;have c:∀(a:O) (l:Array Value),rA μ a (.agg l)->a.aa=13:=by
    intro a l e;cases a<;>rw[rA]at e<;>first | rfl | (exfalso;revert e;simp)
   have g:=c _ _ e;have i:=c _ _ k;cases a<;>simp[O.aa]at g;cases b<;>simp[O.aa]at i;revert h;cases n.a<;>simp[Tt,Ot,O.r,um,O.ac,FN,O.w,Im,Yx,O.aa,sB,Nat.beq]
def IH{a:O}{v:Value}(h:rA μ a v):v=.nilIface->a.aa=12:=by
 intro b;subst b;cases a<;>rw[rA]at h<;>first | rfl | (exfalso;revert h;simp)
def TL(I:nG P C){op:BinOp}{t N:TypeId}{x y:Operand}{a b:O}{neg:Bool}(d:rA μ a (c x))(H:rA μ b (c y))(J:a.ac=none)(L:a.w=none)
  (B:(neg=false/\op=.eql)\/(neg=true/\op=.neq)) (h:Zz neg C t x y a b=some v):aJ P μ w c ⟨dst,.binOp op t x y N,type,A,o,z⟩ v:=by
 unfold Zz at h;simp only[qB,mA]at h;obtain⟨S,r,K,h⟩:=h;cases h;have p:(Op.equal t (c x) (c y)).run P w=.ok r w:=ztc I 20 10000 t a b _ _ r (by decide) d H K;have E:(eqGuard op t x y (c x) (c y)).run P w=.ok () w:=by
  by_cases q:∃l m,c x=.agg l/\c y=.agg m
  .grind [YK,zyf]
  .refine Tq ?_ λl m u=>q ⟨l,m,u⟩;by_cases F:c x=.nilIface/\c y=.nilIface
   .right
    have Q:=IH d F.1;have R:=IH H F.2
    simp_all [RN]
   simp_all
 have g:∀k n,c x≠.int k n:=by
  intro k n j;rw[j]at d;cases a<;>rw[rA]at d<;>first | (simp[O.ac]at J;done) | (revert d;simp)
 have i:∀s,c x≠.string s:=by
  intro s j;rw[j]at d;cases a<;>rw[rA]at d<;>first | (simp[O.w]at L;done) | (revert d;simp)
 have f:∀k n,c x≠.float k n:=by
  intro k n j;rw[j]at d;cases a<;>rw[rA]at d<;>revert d<;>simp
 have e:∀k n m,c x≠.complex k n m:=by
  intro k n m j;rw[j]at d;cases a<;>rw[rA]at d<;>revert d<;>simp
 rcases B with⟨rfl,rfl⟩ | ⟨rfl,rfl⟩
 .refine⟨.bool r,Nd E ?_,by rw[rA];rfl⟩;revert p g i f e;generalize c x=D;generalize c y=M;intro p g i f e;cases D<;>first
   | exact absurd rfl (g _ _)
   | exact absurd rfl (i _)
   | exact absurd rfl (f _ _)
   | exact absurd rfl (e _ _ _)
   | simp[binOp,p]
 .refine⟨.bool (!r),Nd E ?_,by rw[rA];rfl⟩;revert p g i f e;generalize c x=D;generalize c y=M;intro p g i f e;cases D<;>first
   | exact absurd rfl (g _ _)
   | exact absurd rfl (i _)
   | exact absurd rfl (f _ _)
   | exact absurd rfl (e _ _ _)
   | simp[binOp,p]
def zh1(r:nG P C)(q:iG μ e c){op:BinOp}{t E:Nat}{x y:Operand}(h:Aw op t x y C e H=some v):aJ P μ w c ⟨dst,.binOp op t x y E,type,A,o,z⟩ v:=by
 unfold Aw at h;simp only[mA]at h;obtain⟨a,B,b,D,h⟩:=h;have d:=q _ _ B;have f:=q _ _ D;clear B D;revert h;have g:∀op,op≠.shl->op≠.shr->GS op C t x y a b=some v->aJ P μ w c ⟨dst,.binOp op t x y E,type,A,o,z⟩ v:=by
  intro op _ _ h;unfold GS at h;split at h
  .rename_i i k;simp only[mA,Bq,qB,hO]at h;obtain⟨j,rfl,I,h⟩:=h;rw[Bq]at k;subst k;rw[rA]at d;rw[rA]at f;obtain⟨_,_,m⟩:=zko (P:=P) (μ:=μ) (w:=w) h;obtain⟨p,F,n⟩:=m t;refine⟨p,Nd (Tq (.inl (by grind)) (by grind)) ?_,n⟩
   simp_all
  .rename_i k;split at h
   .rename_i s l;simp only[mA,Bp]at h;obtain⟨u,rfl,h⟩:=h;rw[Bp]at l;subst l;rw[rA]at d;rw[rA]at f;obtain⟨J,d,rfl⟩:=d;obtain⟨K,f,rfl⟩:=f;obtain⟨_,_,m⟩:=zkl (P:=P) (μ:=μ) (w:=w) h;obtain⟨p,F,n⟩:=m t;refine⟨p,Nd (Tq (.inl (by grind)) (by grind)) ?_,n⟩
    simp_all
   .rename_i l;cases op<;>simp only[zkn]at h<;>first
     | exact TL r d f k l (.inl ⟨rfl,rfl⟩) h
     | exact TL r d f k l (.inr ⟨rfl,rfl⟩) h
     | (cases h;done)
 intro h;cases op<;>simp only[dX]at h<;>first
  | exact TK d f (.inl ⟨rfl,h⟩)
  | exact TK d f (.inr ⟨rfl,h⟩)
  | exact g _ (by simp) (by simp) h
theorem vl{k:IntKind}(h:cg k=0):zI k=2^k.bits:=by
 cases k<;>first
  | (cases h;done)
  | rfl
def zre(k:iG μ e c){op:UnOp}{t:Nat}{x:Operand}(h:P8 op x C e H=some v):aJ P μ w c ⟨dst,.unOp op t x,type,A,o,z⟩ v:=by
 unfold P8 at h;simp only[mA]at h;obtain⟨a,l,h⟩:=h;have d:=k _ _ l;cases op<;>simp only[unA]at h<;>try (cases h;done)
 case neg=>
  simp only[V4,mA,Bq]at h;obtain⟨p,rfl,h⟩:=h;cases h;rw[rA]at d;refine⟨.int p.1 (p.1.wrap (0-p.2)),?_,by rw[rA,vS]⟩;simp[execOp,d,Op.unary,Op.intArith]
 case xor=>
  simp only[Jt,mA,Bq,qB,zD]at h;obtain⟨p,rfl,g,h⟩:=h;obtain⟨a,b,f,m,i,q,rfl⟩:=Yh h;rw[rA]at d;have j:Nat.xor a b<zI p.1:=by
   have:Nat.xor a b<2^p.1.bits:=Nat.xor_lt_two_pow (by grind [vl]) (by grind [vl])
   grind [vl]
  refine⟨.int p.1 (Nat.xor a b:Nat),?_,by rw[rA]⟩;have n:(if p.1.signed then(-1:Int)else p.1.max)=(a:Int):=by
   rw[<- f];revert g;cases p.1<;>intro g<;>first
    | (cases g;done)
    | rfl
  have r:(Op.intBits .xor p.1 (if p.1.signed then -1 else p.1.max) p.2).run P w=.ok (.int p.1 (Nat.xor a b:Nat)) w:=by
   rw[n,m];simp only[Op.intBits,BitVec.toNat_xor,Fx i,Fx q];rw[show(a ^^^ b:Nat)=Nat.xor a b from rfl,Ji j];rfl
  simp_all [execOp,Op.unary]
 case not=>
  simp only[V5,mA,Iu]at h;obtain⟨b,rfl,h⟩:=h;cases h;rw[rA]at d;refine⟨.bool (!b),?_,by rw[rA]⟩;simp[execOp,d,Op.unary]
end
end Go.Am
