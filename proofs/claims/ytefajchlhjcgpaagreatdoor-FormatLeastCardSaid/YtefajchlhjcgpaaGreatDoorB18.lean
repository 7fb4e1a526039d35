/- The trees of functions. (Printed by a tool; the kernel agrees.) -/
import Derived.Test.YtefajchlhjcgpaaGreatDoorB17
set_option linter.all false
noncomputable section
set_option maxRecDepth 100000
namespace Go.Proofs
open Go Go.Am
variable [rC]{m:Tr tA}{Q:mB}
abbrev tK:List zA:=[.int .u8 0,.str [],.bool false,.int .i64 0,.int .i64 0,.int .i64 0,.int .i64 0,.int .i64 0]
abbrev uK:List zA:=[.bool false,.nilslice]
abbrev nN:List zA:=[.int .u8 0,.str [],.int .u8 0,.bool false,.nilslice,.bool false,.nilslice,.int .i64 0,.nilslice]
abbrev xZ:List zA:=[.int .i64 0,.int .i64 0]
abbrev Dz:List zA:=[.int .u8 0,.int .u8 0,.int .u8 0,.int .u8 0,.int .u8 0,.int .u8 0,.int .u8 0,.int .u8 0,.int .u8 0,.int .u8 0]
abbrev zz5z:List zA:=[.bool false,.nilslice,.bool false,.nilslice]
abbrev zz6z:List zA:=[.str [],.str [],.int .i64 0,.int .i64 0,.int .i64 0,.bool false,.int .u8 0,.str [],.int .u8 0,.bool false,.nilslice,.bool false,.nilslice,.int .i64 0,.nilslice,.int .u8 0,.str [],.int .u8 0,.bool false,.nilslice,.bool false,.nilslice,.int .i64 0,.nilslice]
abbrev zz7z:List zA:=[.str [],.nilslice,.nilslice,.nilslice]
abbrev zz8z:List zA:=[.str [],.int .u8 0,.bool false]
abbrev zz9z:List zA:=[.str [],.bool false,.nilslice]
abbrev Gx:List zA:=[.int .u8 0,.str [],.int .i64 0,.int .i64 0]
abbrev zz11z:List zA:=[.int .i64 0,.int .i64 0,.int .i64 0,.bool false,.nilslice,.bool false,.nilslice]
abbrev zz12z:List zA:=[.int .u8 0,.bool false,.nilslice,.bool false,.nilslice,.int .i64 0]
abbrev zW(f:Nat)(T:T)(x:List zA):Prop:=∀ {m Q},wp f T m Q->Wf f x m Q
abbrev zJ(f i:Nat)(T:T)(x:List zA):Prop:=∀ {m Q},wp f T m Q->jp f i x m Q
def wA{f:Nat}{x:List zA}{T:T}(h1:okB f=true:=by kernel_rfl)(h2:(Nat.ble (aA x) (ko f)&&Nat.ble (aA x) (fo f).ntmps)=true:=by kernel_rfl)(h3:entT yA (fo f) (ko f) f (ao f) x=T:=by kernel_rfl):zW f T x:=fun k=>zob (bF f h1) h2 (by rw[h3];exact k)
def jA{f i:Nat}{x:List zA}{T:T}(h1:okB f=true:=by kernel_rfl)(h2:Ff (ptsT yA (fo f) (ko f) f (ao f)) i x=[T]:=by kernel_rfl):zJ f i T x:=fun k=>Jq_of1 (bF f h1) h2 k
def uI (k:Int->T)(a:zA):T:=.asI .i64 a k
def uU (k:Int->T)(a:zA):T:=.asI .u8 a k
def uL (k:Int->T)(a:zA):T:=.asI .u32 a k
def uE (k:Int->T)(a:zA):T:=.asI .u64 a k
def uH (k:Int->T)(a:zA):T:=.asI .u16 a k
def uB (k:Bool->T)(a:zA):T:=.asB a k
def uS (k:List Nat->T)(a:zA):T:=.asS a k
def uG (z:List zA)(k:jI->T)(a:zA):T:=.asG z a k
def yC (l:List zA):Bool:=fD zA.one l
abbrev vC(i:Int):zA:=.int .i64 (fA .i64 (i+1))
def bB:T:=.ret (.bool false)
def gG:T:=.ret (.bool true)
def oC (v:zA):Option zA:=Bx v
def uX (n:Nat)(v:zA):Option zA:=iI n v
abbrev uZ(n:Int):zA:=.int .i64 n
abbrev uY(n:Int):zA:=.int .u8 n
abbrev uW(n:Int):Int:=fA .i64 n
def zH (X:jI):List zA:=[.bool (X.b 0),X.v 1]
def mH (X:jI):zA:=.agg [.bool (X.b 0),X.v 1]
def eF (X:jI):List zA:=[.int .u8 (X.i 0),.str (X.s 1),.int .u8 (X.i 2),.bool (X.b 3),X.v 4,.bool (X.b 5),X.v 6,.int .i64 (X.i 7),X.v 8]
def kD (X:jI):zA:=.agg [.int .u8 (X.i 0),.str (X.s 1),.int .u8 (X.i 2),.bool (X.b 3),X.v 4,.bool (X.b 5),X.v 6,.int .i64 (X.i 7),X.v 8]
def uM2 (X:jI):List zA:=[.bool (X.b 0),X.v 1,.bool (X.b 2),X.v 3]
def uA2 (X:jI):zA:=.agg [.bool (X.b 0),X.v 1,.bool (X.b 2),X.v 3]
def uA4 (X:jI):zA:=.agg [.int .i64 (X.i 0),.int .i64 (X.i 1)]
def uA6 (X:jI):zA:=.agg [.int .u8 (X.i 0),.int .u8 (X.i 1),.int .u8 (X.i 2),.int .u8 (X.i 3),.int .u8 (X.i 4),.int .u8 (X.i 5),.int .u8 (X.i 6),.int .u8 (X.i 7),.int .u8 (X.i 8),.int .u8 (X.i 9)]
def uM9 (X:jI):List zA:=[.int .u8 (X.i 0),.bool (X.b 1),X.v 2,.bool (X.b 3),X.v 4,.int .i64 (X.i 5)]
def uA9 (X:jI):zA:=.agg [.int .u8 (X.i 0),.bool (X.b 1),X.v 2,.bool (X.b 3),X.v 4,.int .i64 (X.i 5)]
def uA11 (X:jI):zA:=.agg [.int .u8 (X.i 0),.str (X.s 1),.int .i64 (X.i 2),.int .i64 (X.i 3)]
def uQ1 (i1:Int)(g0:Bool)(x1:zA)(g1:Bool)(x2:zA)(i2:Int)(i0:Int)(i3:Int)(x0:zA)(l0:List Nat)(x3:zA):T :=.ite (yC [uY i1,.bool g0,x1,.bool g1,x2,uZ i2]) (.ite (kB i0 1) (.call 34 [.agg [uY i1,.bool g0,x1,.bool g1,x2,uZ i2]]<|uB fun b=>.ret (.bool b)) (.ite (kB i0 19) (.ite (jB i2 1) bB (.ite (jB 6 i2) bB (.ite true (.jump 33 [uZ i3,x0,uY i0,.str l0,uY i1,.bool g0,x1,.bool g1,x2,uZ i2,x3,uY i1,.bool g0,x1,.bool g1,x2,uZ 0]) .fail))) (.jump 33 [uZ i3,x0,uY i0,.str l0,uY i1,.bool g0,x1,.bool g1,x2,uZ i2,x3,uY i1,.bool g0,x1,.bool g1,x2,uZ i2]))) .fail
def uQ2 (n13:Int)(x0:zA)(X:jI):T :=.call 169 [uY n13]<|uB fun b=>.ite b (.call 174 [x0]<|uS fun s=>.call 228 [.str s] fun a=>.opt (uX 0 a)<|uS fun s=>.opt (uX 1 a)<|uI fun n=>.jump 37 [x0,uY 2,.str s,uZ n,uY 0,.str [],uZ 0,uZ 0,uZ (X.i 0),uZ (X.i 1)]) (.call 229 [.str [40,41,44,43,45,42,47,60,61],uY n13]<|uI fun n=>.ite (mE 0 n) (.call 174 [x0]<|uS fun s=>.opt (iD yA 9 iG (.str s) none (some (uZ 1)))<|uS fun s=>.jump 37 [x0,uY 4,.str s,uZ 0,uY 0,.str [],uZ 0,uZ 0,uZ (X.i 0),uZ (X.i 1)]) (.jump 37 [x0,uY 0,.str [],uZ 110,uY 0,.str [],uZ 0,uZ 0,uZ (X.i 0),uZ (X.i 1)]))
def uQ3 (i0:Int)(g0:Bool)(x0:zA)(g1:Bool)(x1:zA)(i1:Int):T :=.ite (kB i0 1) (.call 70 [.agg [.bool g0,x0,.bool g1,x1]]<|uB fun b=>.ite b (.ite (kB i1 0) gG (.ret (.bool (kB i1 1)))) bB) (.ite (kB i0 4) (.call 70 [.agg [.bool g0,x0,.bool g1,x1]]<|uB fun b=>.ite b (.call 71 [uZ i1]<|uB fun b=>.ret (.bool b)) bB) (.ite (kB i0 5) (.ite (kB i0 5) (.call 70 [.agg [.bool g0,x0,.bool g1,x1]]<|uB fun b=>.ite b (.ite (mE (-1048576) i1) (.ret (.bool (mE i1 1048576))) bB) bB) bB) (.ite (kB i0 6) (.call 70 [.agg [.bool g0,x0,.bool g1,x1]]<|uB fun b=>.ite b (.ite (mE (-1048576) i1) (.ret (.bool (mE i1 1048576))) bB) bB) bB)))
def uQ5  : T :=.ite true (.ite true (.ret (.tup [.agg [.bool false,.nilslice],uZ 10])) .fail) .fail
def uQ6 (l0:List Nat):T :=.opt (iD yA 9 iG (.str l0) none (some (uZ 10)))<|uS fun s=>.call 138 [.str s] fun a=>.opt (uX 0 a)<|uI fun n=>.opt (uX 1 a)<|uI fun n=>.ite (!kB n 0) (.ret (.tup [.str [],uZ 113])) (.opt (iD yA 9 iG (.str l0) none (some (uZ 10)))<|uS fun s=>.ret (.tup [.str s,uZ 0]))
def uQ7 (X:jI)(l0:List Nat)(x0:zA):T :=.ite (wG (X.s 1) l0) (.opt (oC x0) fun a=>.opt (pC yA 141 1 a) fun a=>.light (fun m=>iA yA 3 ⟨0,m⟩ a)<|uI fun n=>.opt (oC x0) fun a=>.opt (pC yA 141 1 a) fun a=>.heavy (sC yA 3 a (vC n)) fun _=>.ret (.bool (wG (X.s 1) l0))) (.ret (.bool (wG (X.s 1) l0)))
def uQ9 (l0:List Nat)(i0:Int)(i1:Int)(l1:List Nat)(i2:Int)(g0:Bool)(x0:zA)(g1:Bool)(x1:zA)(i3:Int)(x2:zA):T :=.jump 2 [.str l0,(vC i0),uY i1,.str l1,uY i2,.bool g0,x0,.bool g1,x1,uZ i3,x2]
def uQ10  : T :=.ite true (.ite true (.ret (.tup [.agg [.bool false,.nilslice,.bool false,.nilslice],uZ 2])) .fail) .fail
def uQ11 (l1:List Nat)(l2:List Nat)(l0:List Nat)(i0:Int):T :=.call 261 [.str l1]<|uB fun b=>.ite b (.ret (.tup [.str [],uZ 112])) (.call 261 [.str l2]<|uB fun b=>.ite b (.ret (.tup [.str [],uZ 112])) (.ite (wG l2 [48]) (.ret (.tup [.str [],uZ 112])) (.opt (iD yA 9 iG (.str l0) none (some (uZ i0)))<|uS fun s=>.ret (.tup [.str s,uZ 0]))))
def uQ13 (i3:Int)(i1:Int)(x0:zA)(x1:zA)(i0:Int)(i2:Int):T :=.ite (mE 4294967296 (fA .u64 (i3+i1))) (.jump 19 [x0,x1,uZ i0,(.int .u64 (fA .u64 (i2-1)))]) (.jump 2 [x0,x1,uZ i0,.int .u64 i1,(.int .u64 (fA .u64 (i2-1))),(.int .u64 (fA .u64 (i3+i1)))])
def uQ14 (g0:Bool)(x0:zA)(g1:Bool)(x1:zA):T :=.call 69 [.agg [.bool g0,x0,.bool g1,x1]]<|uB fun b=>.ret (.bool b)
def uQ15 (x0:zA)(s:List Nat):T :=.light (fun m=>iA yA 96 ⟨0,m⟩ x0) fun a=>.heavy (aG yA 96 9 a (.str s)) fun a=>.heavy (sC yA 96 x0 a) fun _=>.ret (.bool true)
def uQ16 (i1:Int):T :=.opt (tC yA 304 (.ptr 3 0) (uZ (uW (i1-1)))) fun a=>.light (fun m=>iA yA 3 ⟨0,m⟩ a)<|uI fun n=>.ret (uZ n)
def uQ17 (x0:zA):T :=.opt (tC yA 22 x0 (uZ 0)) fun a=>.light (fun m=>iA yA 261 ⟨0,m⟩ a)<|uH fun n=>.ret (.bool (kB n 1))
def uQ18  : T :=.ite true (.ite true (.ret (.tup [.agg [.bool false,.nilslice],uZ 3])) .fail) .fail
def uQ19 (l0:List Nat)(i0:Int):T :=.opt (bG yA 9 (.str l0) (uZ i0))<|uU fun n=>.ite (!kB n 45) bB (.jump 2 [.str l0,(vC i0)])
variable (i0 i1 i2 i3 i4 i5 i6 i7 i8 i9 j0 j1 j2 j3 j4 j5 j6 j7:Int)(l0 l1 l2 l3 l4 l5 l6 l7:List Nat)(x0 x1 x2 x3 x4 x5 x6 x7 x8 x9 y0 y1:zA)(g0 g1 g2 g3 g4 g5 g6 g7 g8 g9:Bool)
def t3:T:=.call 7 []<|uB fun b=>.ite (!b) bB (.call 8 [.agg [uY i0,.str l0,uY i1,.bool g0,x0,.bool g1,x1,uZ i2,x2],uZ 400]<|uI fun n=>.ite (jB 400 n) gG (.call 9 [.agg [uY i0,.str l0,uY i1,.bool g0,x0,.bool g1,x1,uZ i2,x2]] fun a=>.opt (uX 0 a)<|uS fun s=>.opt (uX 1 a)<|uI fun n=>.ite (!kB n 0) gG (.ite (jB 1000 (Int.ofNat (aA s))) gG (.jump 2 [.str s,uZ 0,uY i0,.str l0,uY i1,.bool g0,x0,.bool g1,x1,uZ i2,x2]))))
def t3_2:T:=.ite (jB i0 (Int.ofNat (aA l0))) (.opt (bG yA 9 (.str l0) (uZ i0))<|uU fun n=>.ite (!kB n 40) (uQ9 l0 i0 i1 l1 i2 g0 x0 g1 x1 i3 x2) (.ite (jB 0 i0) (.opt (bG yA 9 (.str l0) (uZ (uW (i0-1))))<|uU fun n=>.ite (!kB n 32) (.opt (bG yA 9 (.str l0) (uZ (uW (i0-1))))<|uU fun n=>.ite (!kB n 40) (uQ9 l0 i0 i1 l1 i2 g0 x0 g1 x1 i3 x2) (.call 10 [.str l0,uZ i0]<|uI fun n=>.ite (jB n 0) bB (.opt (iD yA 9 iG (.str l0) none (some (uZ i0)))<|uS fun s9=>.opt (iD yA 9 iG (.str l0) (some (vC i0)) (some (uZ n)))<|uS fun s=>.opt (wJ s9 s)<|uS fun s13=>.opt (iD yA 9 iG (.str l0) (some (vC n)) none)<|uS fun s=>.opt (wJ s13 s)<|uS fun s=>.heavy (yI yA 31) fun a18=>.heavy (yI yA 39) fun a19=>.call 11 [.str s] fun a=>.opt (uX 0 a)<|uG nN fun X22=>.opt (uX 1 a)<|uG xZ fun X=>.opt (uX 2 a)<|uI fun n=>.heavy (sC yA 31 a18 (kD X22)) fun _=>.heavy (sC yA 39 a19 (uA4 X)) fun _=>.ite (kB n 0) (.light (fun m=>iA yA 31 ⟨0,m⟩ a18)<|uG nN fun X=>.call 12 [.agg [uY i1,.str l1,uY i2,.bool g0,x0,.bool g1,x1,uZ i3,x2],(kD X)]<|uB fun b=>.ite b bB (uQ9 l0 i0 i1 l1 i2 g0 x0 g1 x1 i3 x2)) (uQ9 l0 i0 i1 l1 i2 g0 x0 g1 x1 i3 x2)))) (.call 10 [.str l0,uZ i0]<|uI fun n=>.ite (jB n 0) bB (.opt (iD yA 9 iG (.str l0) none (some (uZ i0)))<|uS fun s34=>.opt (iD yA 9 iG (.str l0) (some (vC i0)) (some (uZ n)))<|uS fun s=>.opt (wJ s34 s)<|uS fun s38=>.opt (iD yA 9 iG (.str l0) (some (vC n)) none)<|uS fun s=>.opt (wJ s38 s)<|uS fun s=>.heavy (yI yA 31) fun a43=>.heavy (yI yA 39) fun a44=>.call 11 [.str s] fun a=>.opt (uX 0 a)<|uG nN fun X47=>.opt (uX 1 a)<|uG xZ fun X=>.opt (uX 2 a)<|uI fun n=>.heavy (sC yA 31 a43 (kD X47)) fun _=>.heavy (sC yA 39 a44 (uA4 X)) fun _=>.ite (kB n 0) (.light (fun m=>iA yA 31 ⟨0,m⟩ a43)<|uG nN fun X=>.call 12 [.agg [uY i1,.str l1,uY i2,.bool g0,x0,.bool g1,x1,uZ i3,x2],(kD X)]<|uB fun b=>.ite b bB (uQ9 l0 i0 i1 l1 i2 g0 x0 g1 x1 i3 x2)) (uQ9 l0 i0 i1 l1 i2 g0 x0 g1 x1 i3 x2)))) (.call 10 [.str l0,uZ i0]<|uI fun n=>.ite (jB n 0) bB (.opt (iD yA 9 iG (.str l0) none (some (uZ i0)))<|uS fun s59=>.opt (iD yA 9 iG (.str l0) (some (vC i0)) (some (uZ n)))<|uS fun s=>.opt (wJ s59 s)<|uS fun s63=>.opt (iD yA 9 iG (.str l0) (some (vC n)) none)<|uS fun s=>.opt (wJ s63 s)<|uS fun s=>.heavy (yI yA 31) fun a68=>.heavy (yI yA 39) fun a69=>.call 11 [.str s] fun a=>.opt (uX 0 a)<|uG nN fun X72=>.opt (uX 1 a)<|uG xZ fun X=>.opt (uX 2 a)<|uI fun n=>.heavy (sC yA 31 a68 (kD X72)) fun _=>.heavy (sC yA 39 a69 (uA4 X)) fun _=>.ite (kB n 0) (.light (fun m=>iA yA 31 ⟨0,m⟩ a68)<|uG nN fun X=>.call 12 [.agg [uY i1,.str l1,uY i2,.bool g0,x0,.bool g1,x1,uZ i3,x2],(kD X)]<|uB fun b=>.ite b bB (uQ9 l0 i0 i1 l1 i2 g0 x0 g1 x1 i3 x2)) (uQ9 l0 i0 i1 l1 i2 g0 x0 g1 x1 i3 x2))))) gG
def t8:T:=.call 25 [.agg [.bool g0,x0,.bool g1,x1]]<|uI fun n=>.ite (same 10 (.str l0) (.str l0)) (.ite (same 10 (uZ (Int.ofNat (aA l0))) (uZ (Int.ofNat (aA l0)))) (.jump 2 [uZ i3,(uZ (uW (n+(uW (Int.tdiv (Int.ofNat (aA l0)) 30))))),uZ 0,uY i0,.str l0,uY i1,.bool g0,x0,.bool g1,x1,uZ i2,x2]) .fail) .fail
def t8_2:T:=.opt (qC x2)<|uI fun n=>.ite (jB i2 n) (.ite (mE i1 i0) (.opt (tC yA 29 x2 (uZ i2)) fun a=>.light (fun m=>iA yA 31 ⟨0,m⟩ a)<|uG nN fun X=>.call 8 [(kD X),(uZ (uW (i0-i1)))]<|uI fun n=>.jump 2 [uZ i0,(uZ (uW (i1+n))),(vC i2),uY i3,.str l0,uY i4,.bool g0,x0,.bool g1,x1,uZ i5,x2]) (.ret (uZ i1))) (.ret (uZ i1))
def t9:T:=.call 26 []<|uG [.nilptr] fun X=>.ite (same 10 (.agg [uY i0,.str l0,uY i1,.bool g0,x0,.bool g1,x1,uZ i2,x2]) (.agg [uY i0,.str l0,uY i1,.bool g0,x0,.bool g1,x1,uZ i2,x2])) (.call 27 [(.agg [X.v 0]),.agg [uY i0,.str l0,uY i1,.bool g0,x0,.bool g1,x1,uZ i2,x2],uZ 1]<|uB fun b=>.ite (!b) (.ret (.tup [.str [],uZ 2])) (.call 28 [.agg [uY i0,.str l0,uY i1,.bool g0,x0,.bool g1,x1,uZ i2,x2]]<|uS fun s=>.ite (jB 65536 (Int.ofNat (aA s))) (.ret (.tup [.str [],uZ 3])) (.ret (.tup [.str s,uZ 0])))) .fail
def t10:T:=.jump 2 [.str l0,uZ 0,uZ i0]
def zk3:T:=.ite (jB i1 (Int.ofNat (aA l0))) (.opt (bG yA 9 (.str l0) (uZ i1))<|uU fun n=>.ite (kB n 40) (.jump 2 [.str l0,(vC i0),(vC i1)]) (.ite (kB n 41) (.ite (kB (uW (i0-1)) 0) (.ret (uZ i1)) (.jump 2 [.str l0,(uZ (uW (i0-1))),(vC i1)])) (.jump 2 [.str l0,uZ i0,(vC i1)]))) (.ret (uZ (-1)))
def t11:T:=.call 29 [.str l0,(.func (.func 30) [] [])] fun a=>.opt (uX 0 a)<|uG nN fun X2=>.opt (uX 1 a)<|uG xZ fun X=>.opt (uX 2 a)<|uI fun n=>.ite (yC (eF X2)) (.ite true (.ret (.tup [(kD X2),(uA4 X),uZ n])) .fail) .fail
def t12:T:=.ite (kB i0 i3) (.ite (wG l0 l1) (.call 15 [.agg [uY i1,.bool g0,x0,.bool g1,x1,uZ i2],.agg [uY i4,.bool g2,x3,.bool g3,x4,uZ i5]]<|uB fun b=>.ite b (.call 33 [x2,x5]<|uB fun b=>.ret (.bool b)) bB) bB) bB
def t15:T:=.ite (kB i0 i2) (.call 40 [.agg [.bool g0,x0,.bool g1,x1],.agg [.bool g2,x2,.bool g3,x3]]<|uB fun b=>.ite b (.ret (.bool (kB i1 i3))) bB) bB
def t25:T:=.opt (qC x0)<|uI fun n1=>.opt (qC x1)<|uI fun n=>.ret (uZ (uW ((uW (1+n1))+n)))
def t26:T:=.call 59 [] fun a=>.ite (yC [a]) (.ite (yC [a]) (.ret (.agg [a])) .fail) .fail
def t27:T:=.ite (jB 24 i3) bB (.ite (mE 27 (uW i0)) bB (.opt (oC x0) fun a=>.opt (tC yA 191 a (uY i0)) fun a1=>.opt (oC a1) fun a=>.opt (pC yA 131 0 a) fun a=>.light (fun m=>iA yA 5 ⟨0,m⟩ a)<|uU fun n=>.ite (kB n 0) bB (.opt (qC x3)<|uI fun n7=>.opt (oC a1) fun a=>.opt (pC yA 131 3 a) fun a=>.light (fun m=>iA yA 3 ⟨0,m⟩ a)<|uI fun n=>.ite (jB n7 n) bB (.opt (qC x3)<|uI fun n13=>.opt (oC a1) fun a=>.opt (pC yA 131 4 a) fun a=>.light (fun m=>iA yA 3 ⟨0,m⟩ a)<|uI fun n=>.ite (jB n n13) bB (.opt (oC a1) fun a=>.opt (pC yA 131 2 a) fun a=>.light (fun m=>iA yA 4 ⟨0,m⟩ a)<|uB fun b=>.ite b (.call 60 [.str l0]<|uB fun b=>.ite (!b) bB (.opt (oC a1) fun a=>.opt (pC yA 131 2 a) fun a=>.light (fun m=>iA yA 4 ⟨0,m⟩ a)<|uB fun b=>.ite (!b) (.ite (!wG l0 []) bB (uQ1 i1 g0 x1 g1 x2 i2 i0 i3 x0 l0 x3)) (uQ1 i1 g0 x1 g1 x2 i2 i0 i3 x0 l0 x3))) (.opt (oC a1) fun a=>.opt (pC yA 131 2 a) fun a=>.light (fun m=>iA yA 4 ⟨0,m⟩ a)<|uB fun b=>.ite (!b) (.ite (!wG l0 []) bB (uQ1 i1 g0 x1 g1 x2 i2 i0 i3 x0 l0 x3)) (uQ1 i1 g0 x1 g1 x2 i2 i0 i3 x0 l0 x3)))))))
def zhz:T:=.call 61 [.agg [uY i4,.bool g2,x4,.bool g3,x5,uZ i5]]<|uB fun b=>.ite (!b) bB (.opt (qC x3)<|uI fun n=>.jump 4 [uZ i0,x3,uZ n,uZ 0,x0])
def zk2:T:=.ite (jB i2 i1) (.opt (tC yA 29 x0 (uZ i2)) fun a=>.light (fun m=>iA yA 31 ⟨0,m⟩ a)<|uG nN fun X=>.ite (yC (eF X)) (.call 27 [.agg [x1],(kD X),(vC i0)]<|uB fun b=>.ite (!b) bB (.jump 4 [uZ i0,x0,uZ i1,(vC i2),x1])) .fail) gG
def t28:T:=.call 59 [] fun a=>.ite (yC [a]) (.heavy (Hf yA 134 (.agg [.nilptr,.nilslice,a])) fun a1=>.call 62 [a1,.agg [uY i0,.str l0,uY i1,.bool g0,x0,.bool g1,x1,uZ i2,x2]] fun a=>.opt (oC a1) fun a=>.opt (pC yA 134 0 a) fun a=>.call 44 [a]<|uS fun s=>.ret (.str s)) .fail
def t33:T:=.opt (qC x0)<|uI fun n1=>.opt (qC x1)<|uI fun n=>.ite (!kB n1 n) bB (.jump 2 [x0,x1,uZ 0])
def t33_2:T:=.opt (qC x0)<|uI fun n=>.ite (jB i0 n) (.opt (tC yA 29 x0 (uZ i0)) fun a=>.light (fun m=>iA yA 31 ⟨0,m⟩ a)<|uG nN fun X4=>.opt (tC yA 29 x1 (uZ i0)) fun a=>.light (fun m=>iA yA 31 ⟨0,m⟩ a)<|uG nN fun X=>.call 12 [(kD X4),(kD X)]<|uB fun b=>.ite (!b) bB (.jump 2 [x0,x1,(vC i0)])) gG
def t34:T:=.ite (kB i0 2) (.ite (kB i0 2) (.ite (kB i1 0) (uQ14 g0 x0 g1 x1) bB) (uQ3 i0 g0 x0 g1 x1 i1)) (.ite (kB i0 3) (.ite (kB i1 0) (uQ14 g0 x0 g1 x1) bB) (uQ3 i0 g0 x0 g1 x1 i1))
def t35:T:=.ite (kB i0 1) (.call 72 [(.bool (kB i1 1))]<|uS fun s=>.ret (.str s)) (.ite (kB i0 2) (.call 73 [.agg [.bool g0,x0,.bool g1,x1]]<|uS fun s=>.ret (.str s)) (.ite (kB i0 3) (.call 73 [.agg [.bool g0,x0,.bool g1,x1]]<|uS fun s=>.opt (wJ [109,111,110,101,121,32] s)<|uS fun s=>.ret (.str s)) (.ite (kB i0 4) (.call 74 [uZ i1]<|uS fun s=>.ret (.str s)) (.ite (kB i0 5) (.call 75 [uZ i1]<|uS fun s=>.opt (wJ s [32,100,97,121,115])<|uS fun s=>.ret (.str s)) (.ite (kB i0 6) (.call 75 [uZ i1]<|uS fun s=>.opt (wJ s [32,109,111,110,116,104,115])<|uS fun s=>.ret (.str s)) (.ret (.str [])))))))
def t40:T:=.call 82 [.agg [.bool g0,x0],.agg [.bool g2,x2]]<|uB fun b=>.ite b (.call 82 [.agg [.bool g1,x1],.agg [.bool g3,x3]]<|uB fun b=>.ret (.bool b)) bB
def t42:T:=.call 87 [x0] fun a=>.opt (oC x0) fun a=>.opt (pC yA 98 1 a) fun a=>.light (fun m=>iA yA 96 ⟨0,m⟩ a) fun a=>.heavy (aG yA 96 9 a (.str l0)) fun a4=>.opt (oC x0) fun a=>.opt (pC yA 98 1 a) fun a=>.heavy (sC yA 96 a a4) fun _=>.ret (.tup [(uZ (Int.ofNat (aA l0))),.niliface])
def t43:T:=.opt (oC x0) fun a=>.opt (pC yA 98 1 a) fun a=>.light (fun m=>iA yA 96 ⟨0,m⟩ a) fun a=>.opt (qC a)<|uI fun n=>.ret (uZ n)
def t59:T:=.ite true (.ite true (.callv (.func (.func 117) [] []) [.str [102,97,99,116,32]]<|uG tK fun X1=>.callv (.func (.func 117) [] []) [.str [104,97,115,32]]<|uG tK fun X3=>.callv (.func (.func 117) [] []) [.str []]<|uG tK fun X5=>.callv (.func (.func 116) [] []) [.str [108,111,111,107],.bool true,uZ 1,uZ 2]<|uG tK fun X7=>.callv (.func (.func 118) [] []) [.str [43],uZ 5,uZ 5,uZ 6]<|uG tK fun X9=>.callv (.func (.func 118) [] []) [.str [45],uZ 5,uZ 5,uZ 6]<|uG tK fun X11=>.callv (.func (.func 118) [] []) [.str [42],uZ 6,uZ 6,uZ 7]<|uG tK fun X13=>.callv (.func (.func 118) [] []) [.str [47],uZ 6,uZ 6,uZ 7]<|uG tK fun X15=>.callv (.func (.func 116) [] []) [.str [109,105,110],.bool false,uZ 2,uZ 2]<|uG tK fun X17=>.callv (.func (.func 116) [] []) [.str [109,97,120],.bool false,uZ 2,uZ 2]<|uG tK fun X19=>.callv (.func (.func 118) [] []) [.str [60],uZ 4,uZ 5,uZ 5]<|uG tK fun X21=>.callv (.func (.func 118) [] []) [.str [61],uZ 4,uZ 5,uZ 5]<|uG tK fun X23=>.callv (.func (.func 118) [] []) [.str [97,110,100],uZ 2,uZ 2,uZ 3]<|uG tK fun X25=>.callv (.func (.func 118) [] []) [.str [111,114],uZ 1,uZ 1,uZ 2]<|uG tK fun X27=>.ite true (.callv (.func (.func 116) [] []) [.str [105,102],.bool false,uZ 3,uZ 3]<|uG tK fun X29=>.callv (.func (.func 116) [] []) [.str [114,111,117,110,100],.bool false,uZ 2,uZ 2]<|uG tK fun X31=>.callv (.func (.func 116) [] []) [.str [98,101,116,119,101,101,110],.bool false,uZ 2,uZ 2]<|uG tK fun X33=>.callv (.func (.func 116) [] []) [.str [115,101,114,118,105,99,101],.bool true,uZ 2,uZ 2]<|uG tK fun X35=>.callv (.func (.func 116) [] []) [.str [98,101,115,116],.bool true,uZ 3,uZ 3]<|uG tK fun X37=>.callv (.func (.func 116) [] []) [.str [103,114,111,119],.bool true,uZ 2,uZ 2]<|uG tK fun X39=>.callv (.func (.func 116) [] []) [.str [109,111,110,116,104,115],.bool false,uZ 1,uZ 1]<|uG tK fun X41=>.callv (.func (.func 116) [] []) [.str [110,117,109,98,101,114],.bool false,uZ 1,uZ 1]<|uG tK fun X43=>.callv (.func (.func 116) [] []) [.str [115,116,97,114,116],.bool false,uZ 1,uZ 1]<|uG tK fun X=>.ite true (.heavy (zL (.agg [uY 0,.str [],.bool false,uZ 0,uZ 0,uZ 0,uZ 0,uZ 0,uY 1,.str [],.bool false,uZ 0,uZ 0,uZ 7,uZ 0,uZ 0,uY 2,.str [116,111,100,97,121],.bool false,uZ 0,uZ 0,uZ 7,uZ 0,uZ 0,uY (X1.i 0),.str (X1.s 1),.bool (X1.b 2),uZ (X1.i 3),uZ (X1.i 4),uZ (X1.i 5),uZ (X1.i 6),uZ (X1.i 7),uY (X3.i 0),.str (X3.s 1),.bool (X3.b 2),uZ (X3.i 3),uZ (X3.i 4),uZ (X3.i 5),uZ (X3.i 6),uZ (X3.i 7),uY (X5.i 0),.str (X5.s 1),.bool (X5.b 2),uZ (X5.i 3),uZ (X5.i 4),uZ (X5.i 5),uZ (X5.i 6),uZ (X5.i 7),uY (X7.i 0),.str (X7.s 1),.bool (X7.b 2),uZ (X7.i 3),uZ (X7.i 4),uZ (X7.i 5),uZ (X7.i 6),uZ (X7.i 7),uY (X9.i 0),.str (X9.s 1),.bool (X9.b 2),uZ (X9.i 3),uZ (X9.i 4),uZ (X9.i 5),uZ (X9.i 6),uZ (X9.i 7),uY (X11.i 0),.str (X11.s 1),.bool (X11.b 2),uZ (X11.i 3),uZ (X11.i 4),uZ (X11.i 5),uZ (X11.i 6),uZ (X11.i 7),uY (X13.i 0),.str (X13.s 1),.bool (X13.b 2),uZ (X13.i 3),uZ (X13.i 4),uZ (X13.i 5),uZ (X13.i 6),uZ (X13.i 7),uY (X15.i 0),.str (X15.s 1),.bool (X15.b 2),uZ (X15.i 3),uZ (X15.i 4),uZ (X15.i 5),uZ (X15.i 6),uZ (X15.i 7),uY (X17.i 0),.str (X17.s 1),.bool (X17.b 2),uZ (X17.i 3),uZ (X17.i 4),uZ (X17.i 5),uZ (X17.i 6),uZ (X17.i 7),uY (X19.i 0),.str (X19.s 1),.bool (X19.b 2),uZ (X19.i 3),uZ (X19.i 4),uZ (X19.i 5),uZ (X19.i 6),uZ (X19.i 7),uY (X21.i 0),.str (X21.s 1),.bool (X21.b 2),uZ (X21.i 3),uZ (X21.i 4),uZ (X21.i 5),uZ (X21.i 6),uZ (X21.i 7),uY (X23.i 0),.str (X23.s 1),.bool (X23.b 2),uZ (X23.i 3),uZ (X23.i 4),uZ (X23.i 5),uZ (X23.i 6),uZ (X23.i 7),uY (X25.i 0),.str (X25.s 1),.bool (X25.b 2),uZ (X25.i 3),uZ (X25.i 4),uZ (X25.i 5),uZ (X25.i 6),uZ (X25.i 7),uY (X27.i 0),.str (X27.s 1),.bool (X27.b 2),uZ (X27.i 3),uZ (X27.i 4),uZ (X27.i 5),uZ (X27.i 6),uZ (X27.i 7),uY 5,.str [110,111,116,32],.bool false,uZ 1,uZ 1,uZ 3,uZ 3,uZ 3,uY (X29.i 0),.str (X29.s 1),.bool (X29.b 2),uZ (X29.i 3),uZ (X29.i 4),uZ (X29.i 5),uZ (X29.i 6),uZ (X29.i 7),uY (X31.i 0),.str (X31.s 1),.bool (X31.b 2),uZ (X31.i 3),uZ (X31.i 4),uZ (X31.i 5),uZ (X31.i 6),uZ (X31.i 7),uY (X33.i 0),.str (X33.s 1),.bool (X33.b 2),uZ (X33.i 3),uZ (X33.i 4),uZ (X33.i 5),uZ (X33.i 6),uZ (X33.i 7),uY (X35.i 0),.str (X35.s 1),.bool (X35.b 2),uZ (X35.i 3),uZ (X35.i 4),uZ (X35.i 5),uZ (X35.i 6),uZ (X35.i 7),uY (X37.i 0),.str (X37.s 1),.bool (X37.b 2),uZ (X37.i 3),uZ (X37.i 4),uZ (X37.i 5),uZ (X37.i 6),uZ (X37.i 7),uY (X39.i 0),.str (X39.s 1),.bool (X39.b 2),uZ (X39.i 3),uZ (X39.i 4),uZ (X39.i 5),uZ (X39.i 6),uZ (X39.i 7),uY (X41.i 0),.str (X41.s 1),.bool (X41.b 2),uZ (X41.i 3),uZ (X41.i 4),uZ (X41.i 5),uZ (X41.i 6),uZ (X41.i 7),uY (X43.i 0),.str (X43.s 1),.bool (X43.b 2),uZ (X43.i 3),uZ (X43.i 4),uZ (X43.i 5),uZ (X43.i 6),uZ (X43.i 7),uY (X.i 0),.str (X.s 1),.bool (X.b 2),uZ (X.i 3),uZ (X.i 4),uZ (X.i 5),uZ (X.i 6),uZ (X.i 7)])) fun a=>.ret a) .fail) .fail) .fail) .fail
def t60:T:=.ite (wG l0 []) bB (.ite (jB 24 (Int.ofNat (aA l0))) bB (.opt (bG yA 9 (.str l0) (uZ 0))<|uU fun n=>.call 119 [uY n]<|uB fun b=>.ite (!b) bB (.call 120 [.str l0,(.func (.func 121) [] [])]<|uS fun s=>.ite (wG s l0) (.call 122 [.str l0]<|uB fun b=>.ret (.bool (!b))) bB)))
def t61:T:=.ite (kB i0 0) (.ite (kB i1 0) (.call 70 [.agg [.bool g0,x0,.bool g1,x1]]<|uB fun b=>.ret (.bool b)) bB) bB
def t62:T:=.opt (oC x0) fun a=>.opt (pC yA 134 0 a) fun a=>.call 43 [a]<|uI fun n=>.ite (jB 65536 n) (.ret (.tup [])) (.opt (oC x0) fun a=>.opt (pC yA 134 1 a) fun a=>.light (fun m=>iA yA 69 ⟨0,m⟩ a) fun a=>.opt (oC a) fun a=>.opt (tC yA 191 a (uY i0)) fun a8=>.opt (oC a8) fun a=>.opt (pC yA 131 0 a) fun a=>.light (fun m=>iA yA 5 ⟨0,m⟩ a)<|uU fun n12=>.ite (kB n12 1) (.opt (oC x0) fun a=>.opt (pC yA 134 0 a) fun a=>.call 35 [.agg [uY i1,.bool g0,x1,.bool g1,x2,uZ i2]]<|uS fun s=>.call 42 [a,.str s] fun a=>.ret (.tup [])) (.ite (kB n12 2) (.opt (oC x0) fun a=>.opt (pC yA 134 0 a) fun a19=>.opt (oC a8) fun a=>.opt (pC yA 131 1 a) fun a=>.light (fun m=>iA yA 9 ⟨0,m⟩ a)<|uS fun s=>.call 42 [a19,.str s] fun a=>.ret (.tup [])) (.ite (kB n12 3) (.opt (oC x0) fun a=>.opt (pC yA 134 0 a) fun a26=>.opt (oC a8) fun a=>.opt (pC yA 131 1 a) fun a=>.light (fun m=>iA yA 9 ⟨0,m⟩ a)<|uS fun s=>.opt (wJ s l0)<|uS fun s=>.opt (wJ s [32,97,116,32])<|uS fun s=>.call 42 [a26,.str s] fun a=>.opt (tC yA 29 x3 (uZ 0)) fun a=>.light (fun m=>iA yA 31 ⟨0,m⟩ a)<|uG nN fun X=>.opt (oC a8) fun a=>.opt (pC yA 131 6 a) fun a=>.light (fun m=>iA yA 3 ⟨0,m⟩ a)<|uI fun n=>.call 123 [x0,(kD X),uZ n] fun a=>.ret (.tup [])) (.ite (kB n12 4) (.opt (tC yA 29 x3 (uZ 0)) fun a=>.light (fun m=>iA yA 31 ⟨0,m⟩ a)<|uG nN fun X=>.opt (oC a8) fun a=>.opt (pC yA 131 6 a) fun a=>.light (fun m=>iA yA 3 ⟨0,m⟩ a)<|uI fun n=>.call 123 [x0,(kD X),uZ n] fun a=>.opt (oC x0) fun a=>.opt (pC yA 134 0 a) fun a53=>.opt (oC a8) fun a=>.opt (pC yA 131 1 a) fun a=>.light (fun m=>iA yA 9 ⟨0,m⟩ a)<|uS fun s=>.opt (wJ [32] s)<|uS fun s=>.opt (wJ s [32])<|uS fun s=>.call 42 [a53,.str s] fun a=>.opt (tC yA 29 x3 (uZ 1)) fun a=>.light (fun m=>iA yA 31 ⟨0,m⟩ a)<|uG nN fun X=>.opt (oC a8) fun a=>.opt (pC yA 131 7 a) fun a=>.light (fun m=>iA yA 3 ⟨0,m⟩ a)<|uI fun n=>.call 123 [x0,(kD X),uZ n] fun a=>.ret (.tup [])) (.ite (kB n12 5) (.opt (oC x0) fun a=>.opt (pC yA 134 0 a) fun a72=>.opt (oC a8) fun a=>.opt (pC yA 131 1 a) fun a=>.light (fun m=>iA yA 9 ⟨0,m⟩ a)<|uS fun s=>.call 42 [a72,.str s] fun a=>.opt (tC yA 29 x3 (uZ 0)) fun a=>.light (fun m=>iA yA 31 ⟨0,m⟩ a)<|uG nN fun X=>.opt (oC a8) fun a=>.opt (pC yA 131 6 a) fun a=>.light (fun m=>iA yA 3 ⟨0,m⟩ a)<|uI fun n=>.call 123 [x0,(kD X),uZ n] fun a=>.ret (.tup [])) (.ite (kB n12 6) (.call 124 [x0,.agg [uY i0,.str l0,uY i1,.bool g0,x1,.bool g1,x2,uZ i2,x3],a8] fun a=>.ret (.tup [])) (.ret (.tup []))))))))
def t63:T:=.heavy (yI yA 136) fun a0=>.heavy (yI yA 39) fun a1=>.heavy (yI yA 34) fun a2=>.ite (jB 65536 (Int.ofNat (aA l0))) (.ite true (.heavy (sC yA 136 a0 .nilslice) fun _=>.heavy (sC yA 39 a1 (.agg [uZ 0,uZ 0])) fun _=>.heavy (sC yA 34 a2 (uZ 3)) fun _=>.light (fun m=>iA yA 136 ⟨0,m⟩ a0) fun a3=>.light (fun m=>iA yA 39 ⟨0,m⟩ a1) fun a4=>.light (fun m=>iA yA 34 ⟨0,m⟩ a2) fun a=>.ret (.tup [a3,a4,a])) .fail) (.heavy (yI yA 136) fun a6=>.call 125 [.str l0] fun a=>.range (uQ yA) a 2 2 [a0,a1,a2,a6] (.light (fun m=>iA yA 136 ⟨0,m⟩ a6) fun a=>.ite true (.heavy (sC yA 136 a0 a) fun _=>.heavy (sC yA 39 a1 (.agg [uZ 0,uZ 0])) fun _=>.heavy (sC yA 34 a2 (uZ 0)) fun _=>.light (fun m=>iA yA 136 ⟨0,m⟩ a0) fun a9=>.light (fun m=>iA yA 39 ⟨0,m⟩ a1) fun a10=>.light (fun m=>iA yA 34 ⟨0,m⟩ a2) fun a=>.ret (.tup [a9,a10,a])) .fail) (.light (fun m=>iA yA 136 ⟨0,m⟩ a0) fun a12=>.light (fun m=>iA yA 39 ⟨0,m⟩ a1) fun a13=>.light (fun m=>iA yA 34 ⟨0,m⟩ a2) fun a=>.ret (.tup [a12,a13,a])))
def zk1:T:=.ite true (.ite (!kB i3 0) (.heavy (sC yA 136 x0 .nilslice) fun _=>.ite (same 10 (.agg [uZ i1,uZ i2]) (.agg [uZ i1,uZ i2])) (.heavy (sC yA 39 x1 (.agg [uZ i1,uZ i2])) fun _=>.heavy (sC yA 34 x2 (uZ i3)) fun _=>.ret (.bool false)) .fail) (.light (fun m=>iA yA 136 ⟨0,m⟩ x3) fun a0=>.heavy (wE yA 136 1 [(0,(.agg [uY i0,.str l0,uZ i1,uZ i2]))]) fun a=>.heavy (aG yA 136 136 a0 a) fun a=>.heavy (sC yA 136 x3 a) fun _=>.ret (.bool true))) .fail
def t64:T:=.ite (jB i0 0) (.ite true (.ite true (.ret (.agg [uZ 0,uZ 0])) .fail) .fail) (.opt (iD yA 9 iG (.str l0) none (some (uZ (bif jB (Int.ofNat (aA l0)) i0 then(Int.ofNat (aA l0))else i0))))<|uS fun s=>.call 126 [.str s,.str [10]]<|uI fun n3=>.call 127 [.str s,uY 10]<|uI fun n=>.ite true (.ite true (.ret (.agg [(vC n3),(uZ (uW ((Int.ofNat (aA s))-n)))])) .fail) .fail)
def t69:T:=.opt (qC x0)<|uI fun n=>.ite (jB 42 n) bB (.opt (qC x1)<|uI fun n=>.ite (jB 42 n) bB (.call 130 [.agg [.bool g0,x0,.bool g1,x1]]<|uB fun b=>.ite (!b) bB (.call 131 [.agg [.bool g0,x0,.bool g1,x1]] fun a=>.opt (uX 0 a)<|uS fun s=>.opt (uX 1 a)<|uI fun n=>.ite (kB n 0) (.call 132 [.str s,.str [45]]<|uS fun s=>.ret (.bool (mE (Int.ofNat (aA s)) 200))) bB)))
def t70:T:=.ite (!g0) (.ite (!g1) (.opt (qC x0)<|uI fun n1=>.opt (qC x1)<|uI fun n=>.ret (.bool (kB (uW (n1+n)) 0))) bB) bB
def t71:T:=.ite (mE 0 i0) (.ret (.bool (jB i0 65536))) bB
def t72:T:=.call 133 [.bool g0]<|uS fun s=>.ret (.str s)
def t73:T:=.call 131 [.agg [.bool g0,x0,.bool g1,x1]] fun a=>.opt (uX 0 a)<|uS fun s=>.opt (uX 1 a)<|uI fun n=>.call 134 [.str s]<|uS fun s=>.ret (.str s)
def t74:T:=.call 135 [uZ i0] fun a=>.opt (uX 0 a)<|uI fun n2=>.opt (uX 1 a)<|uI fun n4=>.opt (uX 2 a)<|uI fun n6=>.opt (uX 3 a)<|uI fun n=>.ite (!kB n 0) (.ret (.str [])) (.ite true (.heavy (yI yA 209) fun a=>.heavy (sC yA 209 a (.agg [uY 0,uY 0,uY 0,uY 0,uY 45,uY 0,uY 0,uY 45,uY 0,uY 0])) fun _=>.light (fun m=>iA yA 209 ⟨0,m⟩ a)<|uG Dz fun X=>.call 136 [(uA6 X),uZ 0,uZ 4,uZ n2]<|uG Dz fun X=>.heavy (sC yA 209 a (uA6 X)) fun _=>.light (fun m=>iA yA 209 ⟨0,m⟩ a)<|uG Dz fun X=>.call 136 [(uA6 X),uZ 5,uZ 2,uZ n4]<|uG Dz fun X=>.heavy (sC yA 209 a (uA6 X)) fun _=>.light (fun m=>iA yA 209 ⟨0,m⟩ a)<|uG Dz fun X=>.call 136 [(uA6 X),uZ 8,uZ 2,uZ n6]<|uG Dz fun X=>.heavy (sC yA 209 a (uA6 X)) fun _=>.light (fun m=>iD yA 209 ⟨0,m⟩ a none none) fun a=>.light (fun m=>xP yA 96 9 ⟨0,m⟩ a)<|uS fun s=>.ret (.str s)) .fail)
def t75:T:=.call 137 [uZ i0]<|uS fun s=>.call 134 [.str s]<|uS fun s=>.ret (.str s)
def t77:T:=.opt (oC x0) fun a=>.opt (pC yA 141 1 a) fun a=>.light (fun m=>iA yA 3 ⟨0,m⟩ a)<|uI fun n3=>.opt (oC x0) fun a=>.opt (pC yA 141 0 a) fun a=>.light (fun m=>iA yA 136 ⟨0,m⟩ a) fun a=>.opt (qC a)<|uI fun n=>.ite (jB n3 n) (.opt (oC x0) fun a=>.opt (pC yA 141 0 a) fun a=>.light (fun m=>iA yA 136 ⟨0,m⟩ a) fun a11=>.opt (oC x0) fun a=>.opt (pC yA 141 1 a) fun a=>.light (fun m=>iA yA 3 ⟨0,m⟩ a)<|uI fun n=>.opt (tC yA 136 a11 (uZ n)) fun a=>.light (fun m=>iA yA 149 ⟨0,m⟩ a)<|uG Gx fun X=>.ite true (.ret (uA11 X)) .fail) (.opt (oC x0) fun a=>.opt (pC yA 141 3 a) fun a=>.light (fun m=>iA yA 39 ⟨0,m⟩ a)<|uG xZ fun X=>.ite true (.ite true (.ret (.agg [uY 0,.str [],uZ (X.i 0),uZ (X.i 1)])) .fail) .fail)
def t78:T:=.call 77 [x0]<|uG Gx fun X=>.ite true (.ite (kB (X.i 0) 1) (uQ7 X l0 x0) (.ite (kB (X.i 0) 4) (uQ7 X l0 x0) bB)) .fail
def t80:T:=.call 139 [.str l0,.str [47]] fun a=>.opt (uX 0 a)<|uS fun s2=>.opt (uX 1 a)<|uS fun s=>.opt (uX 2 a)<|uB fun b=>.ite (!b) (.jump 9 [.bool g0,.str s2,.str [49],.bool false,.nilslice,.bool false,.nilslice]) (.jump 9 [.bool g0,.str s2,.str s,.bool false,.nilslice,.bool false,.nilslice])
def t80_9:T:=.call 140 [.str l0] fun a=>.opt (uX 0 a)<|uG uK fun X2=>.opt (uX 1 a)<|uI fun n=>.ite (yC (zH X2)) (.call 140 [.str l1] fun a=>.opt (uX 0 a)<|uG uK fun X=>.opt (uX 1 a)<|uI fun n=>.ite (yC (zH X)) (.call 141 [(mH X2),(mH X)] fun a=>.opt (uX 0 a)<|uG zz5z fun X12=>.opt (uX 1 a)<|uI fun n=>.ite (yC (uM2 X12)) (.ite g0 (.call 142 [(uA2 X12)] fun a=>.opt (uX 0 a)<|uG zz5z fun X=>.opt (uX 1 a)<|uI fun n=>.ite (yC (uM2 X)) (.ite (yC (uM2 X)) (.ret (uA2 X)) .fail) .fail) (.ite (yC (uM2 X12)) (.ret (uA2 X12)) .fail)) .fail) .fail) .fail
def t82:T:=.ite (bEq g0 g1) (.call 145 [x0,x1]<|uB fun b=>.ret (.bool b)) bB
def t116:T:=.ite true (.ite true (.ret (.agg [uY 6,.str l0,.bool g0,uZ i0,uZ i1,uZ 7,uZ 1,uZ 1])) .fail) .fail
def t117:T:=.ite true (.ite true (.ret (.agg [uY 3,.str l0,.bool true,uZ 1,uZ 1,uZ 7,uZ 7,uZ 7])) .fail) .fail
def t118:T:=.ite true (.ite true (.ret (.agg [uY 4,.str l0,.bool false,uZ 2,uZ 2,uZ i0,uZ i1,uZ i2])) .fail) .fail
def t119:T:=.ite (mE 65 i0) (.ite (mE i0 90) gG (.ite (mE 97 i0) (.ret (.bool (mE i0 122))) bB)) (.ite (mE 97 i0) (.ret (.bool (mE i0 122))) bB)
def t120:T:=.jump 2 [.str l0,x0,uZ 0]
def Wy:T:=.ite (jB i0 (Int.ofNat (aA l0))) (.opt (bG yA 9 (.str l0) (uZ i0))<|uU fun n=>.callv x0 [uY n]<|uB fun b=>.ite b (.jump 2 [.str l0,x0,(vC i0)]) (.opt (iD yA 9 iG (.str l0) none (some (uZ i0)))<|uS fun s=>.ret (.str s))) (.opt (iD yA 9 iG (.str l0) none (some (uZ i0)))<|uS fun s=>.ret (.str s))
def t121:T:=.call 119 [uY i0]<|uB fun b=>.ite b gG (.call 169 [uY i0]<|uB fun b=>.ite b gG (.ret (.bool (kB i0 95))))
def t122:T:=.ite (jB (Int.ofNat (aA l0)) 2) bB (.ite (jB 7 (Int.ofNat (aA l0))) bB (.call 120 [.str l0,(.func (.func 119) [] [])]<|uS fun s=>.ite (!wG s l0) bB (.heavy Pk fun a=>.heavy (cS yA 236 a (uZ 2) (.str [32,116,111,32,105,115,32,97,116,32,105,102,32,111,114,32,117,112,32])) fun _=>.heavy (cS yA 236 a (uZ 3) (.str [32,100,101,102,32,114,111,119,32,111,110,101,32,116,119,111,32,101,110,100,32,111,102,102,32,104,97,115,32,109,105,110,32,109,97,120,32,97,110,100,32,110,111,116,32])) fun _=>.heavy (cS yA 236 a (uZ 4) (.str [32,112,108,97,110,32,102,97,99,116,32,102,114,111,109,32,119,104,101,110,32,116,104,101,110,32,100,97,116,101,32,100,97,121,115,32,116,114,117,101,32,108,111,111,107,32,98,101,115,116,32,103,114,111,119,32,100,111,119,110,32,99,101,105,108,32,104,97,108,102,32,101,118,101,110,32])) fun _=>.heavy (cS yA 236 a (uZ 5) (.str [32,116,97,98,108,101,32,107,110,111,119,110,32,116,114,117,116,104,32,109,111,110,101,121,32,102,97,108,115,101,32,109,105,110,117,115,32,116,111,100,97,121,32,114,111,117,110,100,32,115,116,97,114,116,32,102,108,111,111,114,32])) fun _=>.heavy (cS yA 236 a (uZ 6) (.str [32,99,108,97,117,115,101,32,110,117,109,98,101,114,32,109,111,110,116,104,115,32])) fun _=>.heavy (cS yA 236 a (uZ 7) (.str [32,98,101,116,119,101,101,110,32,115,101,114,118,105,99,101,32])) fun _=>.light (fun m=>mX yA 236 ⟨0,m⟩ a (uZ (Int.ofNat (aA l0))) false)<|uS fun s4=>.opt (wJ [32] l0)<|uS fun s=>.opt (wJ s [32])<|uS fun s=>.call 143 [.str s4,.str s]<|uB fun b=>.ret (.bool b))))
def t123:T:=.opt (oC x0) fun a=>.opt (pC yA 134 1 a) fun a=>.light (fun m=>iA yA 69 ⟨0,m⟩ a) fun a=>.opt (oC a) fun a=>.opt (tC yA 191 a (uY i0)) fun a=>.opt (pC yA 131 5 a) fun a=>.light (fun m=>iA yA 3 ⟨0,m⟩ a)<|uI fun n=>.ite (mE i3 n) (.call 62 [x0,.agg [uY i0,.str l0,uY i1,.bool g0,x1,.bool g1,x2,uZ i2,x3]] fun a=>.ret (.tup [])) (.opt (oC x0) fun a=>.opt (pC yA 134 0 a) fun a=>.call 42 [a,.str [40]] fun a=>.call 62 [x0,.agg [uY i0,.str l0,uY i1,.bool g0,x1,.bool g1,x2,uZ i2,x3]] fun a=>.opt (oC x0) fun a=>.opt (pC yA 134 0 a) fun a=>.call 42 [a,.str [41]] fun a=>.ret (.tup []))
def t124:T:=.opt (oC x0) fun a=>.opt (pC yA 134 0 a) fun a1=>.opt (oC x4) fun a=>.opt (pC yA 131 1 a) fun a=>.light (fun m=>iA yA 9 ⟨0,m⟩ a)<|uS fun s=>.opt (wJ s [40])<|uS fun s=>.call 42 [a1,.str s] fun a=>.opt (oC x4) fun a=>.opt (pC yA 131 2 a) fun a=>.light (fun m=>iA yA 4 ⟨0,m⟩ a)<|uB fun b=>.ite b (.opt (oC x0) fun a=>.opt (pC yA 134 0 a) fun a=>.opt (wJ l0 [44,32])<|uS fun s=>.call 42 [a,.str s] fun a=>.jump 9 [x0,uY i0,.str l0,uY i1,.bool g0,x1,.bool g1,x2,uZ i2,x3]) (.jump 9 [x0,uY i0,.str l0,uY i1,.bool g0,x1,.bool g1,x2,uZ i2,x3])
def zh6:T:=.opt (qC x3)<|uI fun n=>.jump 2 [x0,x3,uZ n,uZ 0,uY i0,.str l0,uY i1,.bool g0,x1,.bool g1,x2,uZ i2,x3]
def Wx:T:=.ite (jB i1 i0) (.opt (tC yA 29 x1 (uZ i1)) fun a=>.light (fun m=>iA yA 31 ⟨0,m⟩ a)<|uG nN fun X=>.ite (yC (eF X)) (.ite (jB 0 i1) (.opt (oC x0) fun a=>.opt (pC yA 134 0 a) fun a=>.call 42 [a,.str [44,32]] fun a=>.call 62 [x0,(kD X)] fun a=>.jump 2 [x0,x1,uZ i0,(vC i1),uY i2,.str l0,uY i3,.bool g0,x2,.bool g1,x3,uZ i4,x4]) (.call 62 [x0,(kD X)] fun a=>.jump 2 [x0,x1,uZ i0,(vC i1),uY i2,.str l0,uY i3,.bool g0,x2,.bool g1,x3,uZ i4,x4])) .fail) (.ite (kB i2 19) (.opt (oC x0) fun a=>.opt (pC yA 134 0 a) fun a=>.call 170 [(uY (fA .u8 i4))]<|uS fun s=>.opt (wJ [44,32] s)<|uS fun s=>.call 42 [a,.str s] fun a=>.opt (oC x0) fun a=>.opt (pC yA 134 0 a) fun a=>.call 42 [a,.str [41]] fun a=>.ret (.tup [])) (.opt (oC x0) fun a=>.opt (pC yA 134 0 a) fun a=>.call 42 [a,.str [41]] fun a=>.ret (.tup [])))
def t125:T:=.heavy (zL (.str l0)) fun a=>.ret (.func (.func 171) [] [a])
def t127:T:=.call 180 [.str l0,uY i0]<|uI fun n=>.ret (uZ n)
def t128:T:=.opt (qC x1)<|uI fun n=>.jump 2 [x0,x1,uZ n,uZ 0]
def Ww:T:=.ite (jB i1 i0) (.opt (tC yA 201 x1 (uZ i1)) fun a=>.light (fun m=>iA yA 147 ⟨0,m⟩ a)<|uG [.str [],uY 0] fun X=>.ite true (.call 78 [x0,.str (X.s 0)]<|uB fun b=>.ite b (.ret (.tup [uY (X.i 1),.bool true])) (.jump 2 [x0,x1,uZ i0,(vC i1)])) .fail) (.ret (.tup [uY 0,.bool false]))
def t130:T:=.ite true (.call 182 [.agg [.bool g0,x0,.bool g1,x1]]<|uB fun b=>.ret (.bool b)) .fail
def t131:T:=.call 130 [.agg [.bool g0,x0,.bool g1,x1]]<|uB fun b=>.ite (!b) (.ret (.tup [.str [],uZ 2])) (.call 183 [.agg [.bool g0,x0]] fun a=>.opt (uX 0 a)<|uS fun s4=>.opt (uX 1 a)<|uI fun n=>.ite true (.call 184 [.agg [.bool g0,x0,.bool g1,x1]]<|uB fun b=>.ite (!b) (.call 183 [.agg [.bool g1,x1]] fun a=>.opt (uX 0 a)<|uS fun s=>.opt (uX 1 a)<|uI fun n=>.opt (wJ [47] s)<|uS fun s=>.opt (wJ s4 s)<|uS fun s=>.ret (.tup [.str s,uZ 0])) (.ret (.tup [.str s4,uZ 0]))) .fail)
def t132:T:=.call 185 [.str l0,.str l1]<|uS fun s=>.ret (.str s)
def t133:T:=.ite g0 (.ret (.str [116,114,117,101])) (.ret (.str [102,97,108,115,101]))
def t134:T:=.call 186 [.str l0,.str [45]] fun a=>.opt (uX 0 a)<|uS fun s=>.opt (uX 1 a)<|uB fun b=>.ite b (.opt (wJ [109,105,110,117,115,32] s)<|uS fun s=>.ret (.str s)) (.ret (.str l0))
def t135:T:=.call 187 [uZ i0]<|uB fun b=>.ite (!b) (.ret (.tup [uZ 0,uZ 0,uZ 0,uZ 2])) (.call 188 [uZ i0]<|uI fun n3=>.call 189 [uZ n3]<|uI fun n=>.ret (.tup [(uZ (uW (1900+(uW (Int.tdiv n3 12))))),(uZ (uW ((Int.tmod n3 12)+1))),(uZ (uW ((uW (i0-n))+1))),uZ 0]))
def t136:T:=.heavy (zL (.agg [uY i0,uY i1,uY i2,uY i3,uY i4,uY i5,uY i6,uY i7,uY i8,uY i9])) fun a=>.jump 2 [uZ j0,uZ j2,a,(uZ (uW ((uW (j0+j1))-1))),uY 0,uY 0,uY 0,uY 0,uY 0,uY 0,uY 0,uY 0,uY 0,uY 0]
def t136_2:T:=.ite (mE i0 i2) (.opt (tC yA 209 x0 (uZ i2)) fun a=>.heavy (sC yA 5 a (uY (fA .u8 (uW (48+(Int.tmod i1 10)))))) fun _=>.jump 2 [uZ i0,(uZ (uW (Int.tdiv i1 10))),x0,(uZ (uW (i2-1))),uY i3,uY i4,uY i5,uY i6,uY i7,uY i8,uY i9,uY j0,uY j1,uY j2]) (.light (fun m=>iA yA 209 ⟨0,m⟩ x0)<|uG Dz fun X=>.ite true (.ret (uA6 X)) .fail)
def t138:T:=.ite (!kB (Int.ofNat (aA l0)) 10) (.ret (.tup [uZ 0,uZ 2])) (.opt (bG yA 9 (.str l0) (uZ 4))<|uU fun n=>.ite (!kB n 45) (.ret (.tup [uZ 0,uZ 2])) (.opt (bG yA 9 (.str l0) (uZ 7))<|uU fun n=>.ite (!kB n 45) (.ret (.tup [uZ 0,uZ 2])) (.opt (iD yA 9 iG (.str l0) none (some (uZ 4)))<|uS fun s5=>.opt (iD yA 9 iG (.str l0) (some (uZ 5)) (some (uZ 7)))<|uS fun s7=>.opt (iD yA 9 iG (.str l0) (some (uZ 8)) none)<|uS fun s=>.heavy (wE yA 62 3 [(0,(.str s5)),(1,(.str s7)),(2,(.str s))]) fun a=>.call 191 [a] fun a11=>.opt (uX 0 a11) fun a12=>.opt (uX 1 a11)<|uB fun b=>.ite (!b) (.ret (.tup [uZ 0,uZ 2])) (.opt (tC yA 249 a12 (uZ 0)) fun a=>.light (fun m=>iA yA 3 ⟨0,m⟩ a)<|uI fun n17=>.opt (tC yA 249 a12 (uZ 1)) fun a=>.light (fun m=>iA yA 3 ⟨0,m⟩ a)<|uI fun n20=>.opt (tC yA 249 a12 (uZ 2)) fun a=>.light (fun m=>iA yA 3 ⟨0,m⟩ a)<|uI fun n=>.call 192 [uZ n17,uZ n20,uZ n] fun a=>.opt (uX 0 a)<|uI fun n26=>.opt (uX 1 a)<|uI fun n=>.ret (.tup [uZ n26,uZ n])))))
def t140:T:=.ite (jB 0 (Int.ofNat (aA l0))) (.opt (bG yA 9 (.str l0) (uZ 0))<|uU fun n=>.ite (kB n 45) (.opt (iD yA 9 iG (.str l0) (some (uZ 1)) none)<|uS fun s=>.jump 11 [.str s,(.bool (kB n 45)),.bool false,.nilslice]) (.jump 11 [.str l0,(.bool (kB n 45)),.bool false,.nilslice])) (.jump 11 [.str l0,.bool false,.bool false,.nilslice])
def EO:T:=.ite (kB (Int.ofNat (aA l0)) 0) uQ5 (.opt (bG yA 9 (.str l0) (uZ 0))<|uU fun n=>.ite (kB n 48) (.ite g0 uQ5 (.ite (jB 1 (Int.ofNat (aA l0))) uQ5 (.jump 2 [.str l0,.bool g0,(uZ (Int.ofNat (aA l0))),uZ 0,.bool g1,x0]))) (.jump 2 [.str l0,.bool g0,(uZ (Int.ofNat (aA l0))),uZ 0,.bool g1,x0]))
def Ws:T:=.ite (jB i1 i0) (.opt (bG yA 9 (.str l0) (uZ i1))<|uU fun n=>.ite (jB n 48) uQ5 (.opt (bG yA 9 (.str l0) (uZ i1))<|uU fun n=>.ite (jB 57 n) uQ5 (.jump 2 [.str l0,.bool g0,uZ i0,(vC i1),.bool g1,x0]))) (.ite (jB 4933 (Int.ofNat (aA l0))) uQ18 (.jump 6 [.str l0,.bool g0,.nilslice,.bool g1,x0]))
def Wp:T:=.ite (jB 0 (Int.ofNat (aA l0))) (.jump 10 [.str l0,.bool g0,x0,(uZ (bif jB (Int.ofNat (aA l0)) 9 then(Int.ofNat (aA l0))else 9)),.int .u32 1,.int .u32 0,(uZ (bif jB (Int.ofNat (aA l0)) 9 then(Int.ofNat (aA l0))else 9)),uZ 0,.bool g1,x1]) (.call 195 [.bool g0,x0] fun a=>.opt (uX 0 a)<|uG uK fun X=>.opt (uX 1 a)<|uI fun n=>.ite (yC (zH X)) (.ret (.tup [(mH X),uZ n])) .fail)
def Wt:T:=.ite (jB i4 i3) (.opt (bG yA 9 (.str l0) (uZ i4))<|uU fun n=>.jump 10 [.str l0,.bool g0,x0,uZ i0,(.int .u32 (fA .u32 (i1*10))),(.int .u32 (fA .u32 ((fA .u32 (i2*10))+(fA .u32 (fA .u8 (n-48)))))),uZ i3,(vC i4),.bool g1,x1]) (.call 194 [x0,.int .u32 i1,.int .u32 i2] fun a=>.opt (iD yA 9 iG (.str l0) (some (uZ i0)) none)<|uS fun s=>.jump 6 [.str s,.bool g0,a,.bool g1,x1])
def t141:T:=.call 196 [.agg [.bool g0,x0]]<|uB fun b=>.ite (!b) uQ10 (.call 196 [.agg [.bool g1,x1]]<|uB fun b=>.ite (!b) uQ10 (.opt (qC x1)<|uI fun n=>.ite (kB n 0) (.ite true (.ite true (.ret (.tup [.agg [.bool false,.nilslice,.bool false,.nilslice],uZ 20])) .fail) .fail) (.call 197 [.agg [.bool g0,x0],.agg [.bool g1,x1]]<|uG zz5z fun X=>.call 198 [(uA2 X)] fun a=>.opt (uX 0 a)<|uG zz5z fun X=>.opt (uX 1 a)<|uI fun n=>.ite (yC (uM2 X)) (.ret (.tup [(uA2 X),uZ n])) .fail)))
def t142:T:=.call 130 [.agg [.bool g0,x0,.bool g1,x1]]<|uB fun b=>.ite (!b) uQ10 (.call 199 [.agg [.bool g0,x0]]<|uG uK fun X3=>.ite (same 10 (.agg [.bool g1,x1]) (.agg [.bool g1,x1])) (.call 199 [.agg [.bool g1,x1]]<|uG uK fun X=>.call 199 [(mH X)]<|uG uK fun X=>.ite true (.ite (yC [.bool (X3.b 0),X3.v 1,.bool (X.b 0),X.v 1]) (.ret (.tup [(.agg [.bool (X3.b 0),X3.v 1,.bool (X.b 0),X.v 1]),uZ 0])) .fail) .fail) .fail)
def t144:T:=.call 140 [.str l0] fun a=>.opt (uX 0 a)<|uG uK fun X=>.opt (uX 1 a)<|uI fun n=>.ite (yC (zH X)) (.call 200 [(mH X)] fun a=>.opt (uX 0 a)<|uI fun n7=>.opt (uX 1 a)<|uI fun n=>.ite (!kB n 0) (.ret (.tup [uZ 0,.bool false])) (.ite g0 (.jump 15 [uZ i0,uZ i1,(uZ (uW (0-n7)))]) (.jump 15 [uZ i0,uZ i1,uZ n7]))) .fail
def EN:T:=.ite (mE i0 i2) (.ret (.tup [uZ i2,(.bool (mE i2 i1))])) (.ret (.tup [uZ i2,.bool false]))
def t145:T:=.opt (qC x0)<|uI fun n1=>.opt (qC x1)<|uI fun n=>.ite (!kB n1 n) bB (.jump 2 [x0,x1,uZ 0])
def Qe:T:=.opt (qC x0)<|uI fun n=>.ite (jB i0 n) (.opt (tC yA 22 x0 (uZ i0)) fun a=>.light (fun m=>iA yA 261 ⟨0,m⟩ a)<|uH fun n4=>.opt (tC yA 22 x1 (uZ i0)) fun a=>.light (fun m=>iA yA 261 ⟨0,m⟩ a)<|uH fun n=>.ite (!kB n4 n) bB (.jump 2 [x0,x1,(vC i0)])) gG
def t151:T:=.call 77 [x0]<|uG Gx fun X=>.ite true (.ite (kB (X.i 0) 1) (.call 60 [.str (X.s 1)]<|uB fun b=>.ret (.bool b)) bB) .fail
def t169:T:=.ite (mE 48 i0) (.ret (.bool (mE i0 57))) bB
def t170:T:=.ite (jB (uW i0) 7) (.opt (tC yA 223 (.ptr 1 0) (uY i0)) fun a=>.light (fun m=>iA yA 9 ⟨0,m⟩ a)<|uS fun s=>.ret (.str s)) (.ret (.str []))
def t171:T:=.ite true (.light (fun m=>iA yA 9 ⟨0,m⟩ x1)<|uS fun s=>.ite true (.heavy (yI yA 239) fun a=>.heavy (sC yA 239 a (.agg [uZ 1,uZ 1,.str s,uZ 0])) fun _=>.jump 2 [x0,x1,a,.bool false,uZ 0,uZ 0]) .fail) .fail
def zh5:T:=.opt (pC yA 239 2 x2) fun a=>.light (fun m=>iA yA 3 ⟨0,m⟩ a)<|uI fun n=>.light (fun m=>iA yA 9 ⟨0,m⟩ x1)<|uS fun s=>.ite (jB n (Int.ofNat (aA s))) (.light (fun m=>iA yA 9 ⟨0,m⟩ x1)<|uS fun s=>.opt (pC yA 239 2 x2) fun a=>.light (fun m=>iA yA 3 ⟨0,m⟩ a)<|uI fun n=>.opt (bG yA 9 (.str s) (uZ n))<|uU fun n=>.ite (kB n 10) (.ite g0 (.ite true (.callv x0 [.agg [uY 5,.str [],uZ i0,uZ i1],uZ 0]<|uB fun b=>.ite (!b) (.ret (.tup [])) (.call 172 [x2] fun a=>.jump 2 [x0,x1,x2,.bool false,uZ i0,uZ i1])) .fail) (.call 172 [x2] fun a=>.jump 2 [x0,x1,x2,.bool false,uZ i0,uZ i1])) (.ite (kB n 32) (.call 173 [x2,uZ 1] fun a=>.jump 2 [x0,x1,x2,.bool g0,uZ i0,uZ i1]) (.ite (kB n 9) (.call 173 [x2,uZ 1] fun a=>.jump 2 [x0,x1,x2,.bool g0,uZ i0,uZ i1]) (.ite (kB n 35) (.call 174 [x2]<|uS fun s=>.call 120 [.str s,(.func (.func 175) [] [])]<|uS fun s=>.call 173 [x2,(uZ (Int.ofNat (aA s)))] fun a=>.jump 2 [x0,x1,x2,.bool g0,uZ i0,uZ i1]) (.call 176 [x2] fun a=>.opt (uX 0 a)<|uG Gx fun X=>.opt (uX 1 a)<|uI fun n=>.ite true (.callv x0 [(uA11 X),uZ n]<|uB fun b=>.ite (!b) (.ret (.tup [])) (.ite (!kB n 0) (.ret (.tup [])) (.opt (pC yA 239 0 x2) fun a=>.light (fun m=>iA yA 39 ⟨0,m⟩ a)<|uG xZ fun X=>.ite true (.jump 2 [x0,x1,x2,.bool true,uZ (X.i 0),uZ (X.i 1)]) .fail))) .fail))))) (.ite g0 (.ite true (.callv x0 [.agg [uY 5,.str [],uZ i0,uZ i1],uZ 0]<|uB fun b=>.ret (.tup [])) .fail) (.ret (.tup [])))
def t172:T:=.opt (oC x0) fun a=>.opt (pC yA 239 2 a) fun a=>.light (fun m=>iA yA 3 ⟨0,m⟩ a)<|uI fun n=>.opt (oC x0) fun a=>.opt (pC yA 239 2 a) fun a=>.heavy (sC yA 3 a (vC n)) fun _=>.opt (oC x0) fun a=>.opt (pC yA 239 0 a) fun a=>.opt (pC yA 39 0 a) fun a=>.light (fun m=>iA yA 3 ⟨0,m⟩ a)<|uI fun n=>.opt (oC x0) fun a=>.opt (pC yA 239 0 a) fun a=>.opt (pC yA 39 0 a) fun a=>.heavy (sC yA 3 a (vC n)) fun _=>.opt (oC x0) fun a=>.opt (pC yA 239 0 a) fun a=>.opt (pC yA 39 1 a) fun a=>.heavy (sC yA 3 a (uZ 1)) fun _=>.ret (.tup [])
def t173:T:=.opt (oC x0) fun a=>.opt (pC yA 239 2 a) fun a=>.light (fun m=>iA yA 3 ⟨0,m⟩ a)<|uI fun n=>.opt (oC x0) fun a=>.opt (pC yA 239 2 a) fun a=>.heavy (sC yA 3 a (uZ (uW (n+i0)))) fun _=>.opt (oC x0) fun a=>.opt (pC yA 239 0 a) fun a=>.opt (pC yA 39 1 a) fun a=>.light (fun m=>iA yA 3 ⟨0,m⟩ a)<|uI fun n=>.opt (oC x0) fun a=>.opt (pC yA 239 0 a) fun a=>.opt (pC yA 39 1 a) fun a=>.heavy (sC yA 3 a (uZ (uW (n+i0)))) fun _=>.ret (.tup [])
def t174:T:=.opt (oC x0) fun a=>.opt (pC yA 239 1 a) fun a=>.light (fun m=>iA yA 9 ⟨0,m⟩ a)<|uS fun s=>.opt (oC x0) fun a=>.opt (pC yA 239 2 a) fun a=>.light (fun m=>iA yA 3 ⟨0,m⟩ a)<|uI fun n=>.opt (iD yA 9 iG (.str s) (some (uZ n)) none)<|uS fun s=>.ret (.str s)
def t175:T:=.ret (.bool (!kB i0 10))
def t176:T:=.opt (oC x0) fun a=>.opt (pC yA 239 0 a) fun a=>.light (fun m=>iA yA 39 ⟨0,m⟩ a)<|uG xZ fun X=>.ite true (.opt (oC x0) fun a=>.opt (pC yA 239 1 a) fun a=>.light (fun m=>iA yA 9 ⟨0,m⟩ a)<|uS fun s=>.opt (oC x0) fun a=>.opt (pC yA 239 2 a) fun a=>.light (fun m=>iA yA 3 ⟨0,m⟩ a)<|uI fun n=>.opt (bG yA 9 (.str s) (uZ n))<|uU fun n13=>.call 119 [uY n13]<|uB fun b=>.ite b (.call 174 [x0]<|uS fun s=>.call 225 [.str s] fun a=>.opt (uX 0 a)<|uS fun s=>.opt (uX 1 a)<|uI fun n=>.jump 37 [x0,uY 1,.str s,uZ n,uY 0,.str [],uZ 0,uZ 0,uZ (X.i 0),uZ (X.i 1)]) (.call 169 [uY n13]<|uB fun b=>.ite b (.call 174 [x0]<|uS fun s=>.call 226 [.str s]<|uB fun b=>.ite b (.call 174 [x0]<|uS fun s=>.call 227 [.str s] fun a=>.opt (uX 0 a)<|uS fun s=>.opt (uX 1 a)<|uI fun n=>.jump 37 [x0,uY 3,.str s,uZ n,uY 0,.str [],uZ 0,uZ 0,uZ (X.i 0),uZ (X.i 1)]) (uQ2 n13 x0 X)) (uQ2 n13 x0 X))) .fail
def EM:T:=.ite (!kB i1 0) (.ite true (.ite true (.ret (.tup [.agg [uY 0,.str [],uZ i5,uZ i6],uZ i1])) .fail) .fail) (.call 173 [x0,(uZ (Int.ofNat (aA l0)))] fun a=>.ite true (.ite true (.ret (.tup [.agg [uY i0,.str l0,uZ i5,uZ i6],uZ 0])) .fail) .fail)
def t180:T:=.jump 2 [.str l0,uY i0,(uZ (uW ((Int.ofNat (aA l0))-1)))]
def Wo:T:=.ite (mE 0 i1) (.opt (bG yA 9 (.str l0) (uZ i1))<|uU fun n=>.ite (kB n i0) (.ret (uZ i1)) (.jump 2 [.str l0,uY i0,(uZ (uW (i1-1)))])) (.ret (uZ (-1)))
def t182:T:=.call 232 [.agg [.bool g0,x0,.bool g1,x1]]<|uB fun b=>.ite b bB (.call 196 [.agg [.bool g0,x0]]<|uB fun b=>.ite (!b) bB (.call 196 [.agg [.bool g1,x1]]<|uB fun b=>.ite (!b) bB (.ite g1 bB (.opt (qC x1)<|uI fun n=>.ite (kB n 0) bB (.call 184 [.agg [.bool g0,x0,.bool g1,x1]]<|uB fun b=>.ite b gG (.call 234 [.agg [.bool g0,x0],.agg [.bool g1,x1]]<|uG uK fun X=>.call 233 [(mH X)]<|uB fun b=>.ret (.bool b)))))))
def t183:T:=.call 196 [.agg [.bool g0,x0]]<|uB fun b=>.ite (!b) (.ret (.tup [.str [],uZ 2])) (.opt (qC x0)<|uI fun n=>.ite (kB n 0) (.ret (.tup [.str [48],uZ 0])) (.call 235 [x0] fun a=>.jump 2 [.str [],uZ 0,.nilslice,a,.bool g0,x0]))
def Wm:T:=.opt (qC x1)<|uI fun n=>.ite (jB 0 n) (.call 236 [x1,.int .u32 1000000000] fun a2=>.opt (uX 0 a2) fun a3=>.opt (uX 1 a2)<|uL fun n=>.heavy (wE yA 253 1 [(0,(.int .u32 n))]) fun a=>.heavy (aG yA 253 253 x0 a) fun a=>.jump 2 [.str l0,uZ i0,a,a3,.bool g0,x2]) (.heavy (yI yA 96) fun a8=>.ite g0 (.light (fun m=>iA yA 96 ⟨0,m⟩ a8) fun a9=>.heavy (wE yA 96 1 [(0,(uY 45))]) fun a=>.heavy (aG yA 96 96 a9 a) fun a=>.heavy (sC yA 96 a8 a) fun _=>.jump 29 [.str l0,uZ i0,x0,a8]) (.jump 29 [.str l0,uZ i0,x0,a8]))
def EL:T:=.call 237 [x0] fun a=>.range (uQ yA) a 6 1 [x1] (.light (fun m=>iA yA 96 ⟨0,m⟩ x1) fun a=>.light (fun m=>xP yA 96 9 ⟨0,m⟩ a)<|uS fun s=>.ret (.tup [.str s,uZ 0])) (.ret (.tup [.str l0,uZ i0]))
def zh4:T:=.call 238 [(.int .u64 (fA .u64 i0)),uZ 10]<|uS fun s=>.light (fun m=>iA yA 96 ⟨0,m⟩ x0) fun a=>.opt (qC a)<|uI fun n=>.ite (jB 1 n) (.jump 10 [x0,.str s,(uZ (uW (9-(Int.ofNat (aA s))))),uZ 0]) (.light (fun m=>iA yA 96 ⟨0,m⟩ x0) fun a=>.opt (qC a)<|uI fun n=>.ite (kB n 1) (.light (fun m=>iA yA 96 ⟨0,m⟩ x0) fun a=>.opt (tC yA 96 a (uZ 0)) fun a=>.light (fun m=>iA yA 5 ⟨0,m⟩ a)<|uU fun n=>.ite (!kB n 45) (.jump 10 [x0,.str s,(uZ (uW (9-(Int.ofNat (aA s))))),uZ 0]) (uQ15 x0 s)) (uQ15 x0 s))
def Wn:T:=.ite (jB i1 i0) (.light (fun m=>iA yA 96 ⟨0,m⟩ x0) fun a0=>.heavy (wE yA 96 1 [(0,(uY 48))]) fun a=>.heavy (aG yA 96 96 a0 a) fun a=>.heavy (sC yA 96 x0 a) fun _=>.jump 10 [x0,.str l0,uZ i0,(vC i1)]) (.light (fun m=>iA yA 96 ⟨0,m⟩ x0) fun a=>.heavy (aG yA 96 9 a (.str l0)) fun a=>.heavy (sC yA 96 x0 a) fun _=>.ret (.bool true))
def t184:T:=.call 233 [.agg [.bool g1,x1]]<|uB fun b=>.ret (.bool b)
def t185:T:=.call 239 [.str l0,.str l1]<|uB fun b=>.ite b (.opt (iD yA 9 iG (.str l0) (some (uZ (Int.ofNat (aA l1)))) none)<|uS fun s=>.ret (.str s)) (.ret (.str l0))
def t186:T:=.call 240 [.str l0,.str l1] fun a=>.opt (uX 0 a)<|uS fun s=>.opt (uX 1 a)<|uB fun b=>.ret (.tup [.str s,.bool b])
def t187:T:=.ite (mE 0 i0) (.ret (.bool (jB i0 65536))) bB
def t188:T:=.heavy (zL (uZ i0)) fun a=>.call 241 [uZ 2154,(.func (.func 242) [] [a])]<|uI fun n=>.ret (uZ n)
def t189:T:=.call 243 [(uZ (uW ((uW (1900+(uW (Int.tdiv i0 12))))-1)))]<|uI fun n1=>.call 243 [uZ 1899]<|uI fun n=>.jump 2 [uZ i0,(uZ (uW (1900+(uW (Int.tdiv i0 12))))),(uZ (uW ((uW ((uW (365*(uW ((uW (1900+(uW (Int.tdiv i0 12))))-1900))))+n1))-n))),uZ 1]
def Wl:T:=.ite (mE i3 (Int.tmod i0 12)) (.call 244 [uZ i1,uZ i3]<|uI fun n=>.jump 2 [uZ i0,uZ i1,(uZ (uW (i2+n))),(vC i3)]) (.ret (uZ i2))
def t191:T:=.opt (qC x0)<|uI fun n=>.heavy (yP yA 249 (uZ n) (uZ n)) fun a=>.opt (qC x0)<|uI fun n=>.jump 2 [a,x0,uZ n,uZ 0]
def Wk:T:=.ite (jB i1 i0) (.opt (tC yA 62 x1 (uZ i1)) fun a=>.light (fun m=>iA yA 9 ⟨0,m⟩ a)<|uS fun s=>.jump 6 [x0,uZ i1,.str s,x1,uZ i0,uZ i1,(uZ (Int.ofNat (aA s))),uZ 0]) (.ret (.tup [x0,.bool true]))
def Wj:T:=.ite (jB i4 i3) (.opt (bG yA 9 (.str l0) (uZ i4))<|uU fun n=>.ite (jB n 48) (.ret (.tup [.nilslice,.bool false])) (.opt (bG yA 9 (.str l0) (uZ i4))<|uU fun n=>.ite (jB 57 n) (.ret (.tup [.nilslice,.bool false])) (.opt (tC yA 249 x0 (uZ i0)) fun a=>.light (fun m=>iA yA 3 ⟨0,m⟩ a)<|uI fun n6=>.opt (bG yA 9 (.str l0) (uZ i4))<|uU fun n=>.opt (tC yA 249 x0 (uZ i0)) fun a=>.heavy (sC yA 3 a (uZ (uW ((uW (10*n6))+(uW (fA .u8 (n-48))))))) fun _=>.jump 6 [x0,uZ i0,.str l0,x1,uZ i1,uZ i2,uZ i3,(vC i4)]))) (.jump 2 [x0,x1,uZ i1,(vC i2)])
def t192:T:=.ite (jB i0 1900) (.ret (.tup [uZ 0,uZ 2])) (.ite (jB 2079 i0) (.ret (.tup [uZ 0,uZ 2])) (.ite (jB i2 1) (.ret (.tup [uZ 0,uZ 2])) (.call 244 [uZ i0,uZ i1]<|uI fun n=>.ite (jB n i2) (.ret (.tup [uZ 0,uZ 2])) (.call 189 [(uZ (uW ((uW ((uW (12*(uW (i0-1900))))+i1))-1)))]<|uI fun n=>.call 187 [(uZ (uW ((uW (n+i2))-1)))]<|uB fun b=>.ite (!b) (.ret (.tup [uZ 0,uZ 2])) (.ret (.tup [(uZ (uW ((uW (n+i2))-1))),uZ 0]))))))
def t194:T:=.opt (qC x0)<|uI fun n=>.heavy (yP yA 253 (uZ 0) (vC n)) fun a2=>.heavy (yI yA 253) fun a3=>.heavy (sC yA 253 a3 a2) fun _=>.call 246 [a3] fun a=>.opt (qC x0)<|uI fun n=>.jump 2 [.int .u32 i0,a3,a,(.int .u64 (fA .u64 i1)),x0,uZ n,uZ 0]
def Wi:T:=.ite (jB i3 i2) (.opt (tC yA 253 x2 (uZ i3)) fun a=>.light (fun m=>iA yA 254 ⟨0,m⟩ a)<|uL fun n=>.callv x1 [(.int .u64 (fA .u64 ((fA .u64 ((fA .u64 n)*(fA .u64 i0)))+i1)))] fun a=>.jump 2 [.int .u32 i0,x0,x1,.int .u64 0,x2,uZ i2,(vC i3)]) (.callv x1 [.int .u64 i1] fun a=>.light (fun m=>iA yA 253 ⟨0,m⟩ x0) fun a=>.call 247 [a] fun a=>.ret a)
def t195:T:=.call 248 [.bool g0,x0]<|uG uK fun X=>.ite (yC (zH X)) (.opt (qC (X.v 1))<|uI fun n=>.ite (jB 1024 n) uQ18 (.ite (yC (zH X)) (.ret (.tup [(mH X),uZ 0])) .fail)) .fail
def t196:T:=.opt (qC x0)<|uI fun n=>.ite (kB n 0) (.ret (.bool (!g0))) (.ite (mE n 1024) (.opt (tC yA 22 x0 (uZ (uW (n-1)))) fun a=>.light (fun m=>iA yA 261 ⟨0,m⟩ a)<|uH fun n=>.ret (.bool (!kB n 0))) bB)
def t197:T:=.ite g1 (.call 199 [.agg [.bool g0,x0]]<|uG uK fun X1=>.ite (same 10 (.agg [.bool g1,x1]) (.agg [.bool g1,x1])) (.call 199 [.agg [.bool g1,x1]]<|uG uK fun X=>.ite (yC (zH X1)) (.ite (yC (zH X)) (.jump 7 [.bool (X1.b 0),X1.v 1,.bool (X.b 0),X.v 1,.bool false,.nilslice,.bool false,.nilslice]) .fail) .fail) .fail) (.jump 7 [.bool g0,x0,.bool g1,x1,.bool false,.nilslice,.bool false,.nilslice])
def zh3:T:=.call 234 [.agg [.bool g0,x0],.agg [.bool g1,x1]]<|uG uK fun X1=>.ite (yC (zH X1)) (.call 249 [.agg [.bool g0,x0],(mH X1)] fun a=>.opt (uX 0 a)<|uG uK fun X4=>.opt (uX 1 a)<|uG uK fun X=>.ite (yC (zH X4)) (.call 249 [.agg [.bool g1,x1],(mH X1)] fun a=>.opt (uX 0 a)<|uG uK fun X9=>.opt (uX 1 a)<|uG uK fun X=>.ite (yC (zH X9)) (.ite true (.ite true (.ite (yC [.bool (X4.b 0),X4.v 1,.bool (X9.b 0),X9.v 1]) (.ret (.agg [.bool (X4.b 0),X4.v 1,.bool (X9.b 0),X9.v 1])) .fail) .fail) .fail) .fail) .fail) .fail
def t198:T:=.call 232 [.agg [.bool g0,x0,.bool g1,x1]]<|uB fun b=>.ite b (.ite true (.ite true (.ret (.tup [.agg [.bool false,.nilslice,.bool false,.nilslice],uZ 3])) .fail) .fail) (.ite (yC [.bool g0,x0,.bool g1,x1]) (.ret (.tup [.agg [.bool g0,x0,.bool g1,x1],uZ 0])) .fail)
def t199:T:=.ite (!g0) (.opt (qC x0)<|uI fun n=>.call 250 [x0] fun a2=>.ite (same 10 x0 x0) (.opt (qC x0) fun a=>.ite (same 10 a (uZ n)) (.ite (yC [(.bool (jB 0 n)),a2]) (.ite (yC [(.bool (jB 0 n)),a2]) (.ret (.agg [(.bool (jB 0 n)),a2])) .fail) .fail) .fail) .fail) (.call 250 [x0] fun a=>.ite (yC [.bool false,a]) (.ite (yC [.bool false,a]) (.ret (.agg [.bool false,a])) .fail) .fail)
def t200:T:=.call 196 [.agg [.bool g0,x0]]<|uB fun b=>.ite (!b) (.ret (.tup [uZ 0,uZ 2])) (.opt (qC x0)<|uI fun n=>.ite (jB 4 n) (.ret (.tup [uZ 0,uZ 3])) (.heavy (yI yA 270) fun a4=>.heavy (sC yA 270 a4 (.int .u64 0)) fun _=>.call 251 [x0] fun a=>.range (uQ yA) a 2 1 [a4] (.ite g0 (.light (fun m=>iA yA 270 ⟨0,m⟩ a4)<|uE fun n=>.ite (jB 9223372036854775808 n) (.ret (.tup [uZ 0,uZ 3])) (.light (fun m=>iA yA 270 ⟨0,m⟩ a4)<|uE fun n=>.ret (.tup [(uZ (uW (fA .u64 (0-n)))),uZ 0]))) (.light (fun m=>iA yA 270 ⟨0,m⟩ a4)<|uE fun n=>.ite (mE 9223372036854775808 n) (.ret (.tup [uZ 0,uZ 3])) (.light (fun m=>iA yA 270 ⟨0,m⟩ a4)<|uE fun n=>.ret (.tup [(uZ (uW n)),uZ 0])))) (.ret (.tup [uZ 0,uZ 0]))))
def zh1:T:=.light (fun m=>iA yA 270 ⟨0,m⟩ x0)<|uE fun n=>.opt (rI Nat.lor .u64 (fA .u64 (n*65536)) (fA .u64 i0))<|uE fun n=>.heavy (sC yA 270 x0 (.int .u64 n)) fun _=>.ret (.bool true)
def t225:T:=.call 120 [.str l0,(.func (.func 121) [] [])]<|uS fun s=>.ite (jB 24 (Int.ofNat (aA s))) (.ret (.tup [.str [],uZ 111])) (.ret (.tup [.str s,uZ 0]))
def t226:T:=.ite (jB (Int.ofNat (aA l0)) 10) bB (.jump 2 [.str l0,uZ 0])
def Wg:T:=.ite (jB i0 10) (.ite (kB i0 4) (uQ19 l0 i0) (.ite (kB i0 7) (uQ19 l0 i0) (.opt (bG yA 9 (.str l0) (uZ i0))<|uU fun n=>.call 169 [uY n]<|uB fun b=>.ite (!b) bB (.jump 2 [.str l0,(vC i0)])))) gG
def t227:T:=.ite (jB 10 (Int.ofNat (aA l0))) (.opt (bG yA 9 (.str l0) (uZ 10))<|uU fun n=>.call 121 [uY n]<|uB fun b=>.ite b (.ret (.tup [.str [],uZ 113])) (uQ6 l0)) (uQ6 l0)
def t228:T:=.call 120 [.str l0,(.func (.func 169) [] [])]<|uS fun s1=>.ite (jB (Int.ofNat (aA s1)) (Int.ofNat (aA l0))) (.opt (bG yA 9 (.str l0) (uZ (Int.ofNat (aA s1))))<|uU fun n=>.ite (kB n 47) (.opt (iD yA 9 iG (.str l0) (some (uZ (uW ((Int.ofNat (aA s1))+1)))) none)<|uS fun s=>.call 120 [.str s,(.func (.func 169) [] [])]<|uS fun s=>.jump 13 [.str l0,.str s1,(uZ (Int.ofNat (aA s1))),.str s]) (.jump 13 [.str l0,.str s1,(uZ (Int.ofNat (aA s1))),.str []])) (.jump 13 [.str l0,.str s1,(uZ (Int.ofNat (aA s1))),.str []])
def EK:T:=.ite (!wG l2 []) (.jump 17 [.str l0,.str l1,(uZ (uW (i0+(uW (1+(Int.ofNat (aA l2))))))),.str l2]) (.jump 17 [.str l0,.str l1,uZ i0,.str l2])
def EJ:T:=.ite (jB i0 (Int.ofNat (aA l0))) (.opt (bG yA 9 (.str l0) (uZ i0))<|uU fun n=>.call 121 [uY n]<|uB fun b=>.ite (jB 200 i0) (.ret (.tup [.str [],uZ 112])) (.ite b (.ret (.tup [.str [],uZ 112])) (uQ11 l1 l2 l0 i0))) (.ite (jB 200 i0) (.ret (.tup [.str [],uZ 112])) (uQ11 l1 l2 l0 i0))
def t232:T:=.opt (qC x0)<|uI fun n=>.ite (jB 256 n) gG (.opt (qC x1)<|uI fun n=>.ret (.bool (jB 256 n)))
def t233:T:=.ite (!g0) (.opt (qC x0)<|uI fun n=>.ite (kB n 1) (uQ17 x0) bB) bB
def t234:T:=.call 267 [.agg [.bool g0,x0],.agg [.bool g1,x1]] fun a=>.opt (uX 0 a)<|uG uK fun X=>.opt (uX 1 a)<|uI fun n=>.ite (yC (zH X)) (.ite (yC (zH X)) (.ret (mH X)) .fail) .fail
def t235:T:=.opt (qC x0)<|uI fun n=>.heavy (yP yA 253 (uZ (uW (Int.tdiv (uW (n+1)) 2))) (uZ (uW (Int.tdiv (uW (n+1)) 2)))) fun a=>.opt (qC x0)<|uI fun n=>.jump 2 [a,x0,uZ n,uZ 0]
def We:T:=.ite (jB i1 i0) (.opt (tC yA 22 x1 (uZ i1)) fun a=>.light (fun m=>iA yA 261 ⟨0,m⟩ a)<|uH fun n2=>.opt (tC yA 253 x0 (uZ (uW (Int.tdiv i1 2)))) fun a=>.light (fun m=>iA yA 254 ⟨0,m⟩ a)<|uL fun n5=>.opt (mW .u32 (fA .u32 n2) (uW (16*(Int.tmod i1 2))))<|uL fun n=>.opt (rI Nat.lor .u32 n5 n)<|uL fun n=>.opt (tC yA 253 x0 (uZ (uW (Int.tdiv i1 2)))) fun a=>.heavy (sC yA 254 a (.int .u32 n)) fun _=>.jump 2 [x0,x1,uZ i0,(vC i1)]) (.ret x0)
def t236:T:=.opt (qC x0)<|uI fun n=>.heavy (yP yA 253 (uZ n) (uZ n)) fun a=>.opt (qC x0)<|uI fun n=>.jump 2 [x0,.int .u32 i0,a,.int .u32 0,(uZ (uW (n-1)))]
def Wd:T:=.ite (mE 0 i2) (.opt (tC yA 253 x0 (uZ i2)) fun a=>.light (fun m=>iA yA 254 ⟨0,m⟩ a)<|uL fun n=>.call 268 [.int .u32 i1,.int .u32 n,.int .u32 i0] fun a=>.opt (uX 0 a)<|uL fun n5=>.opt (uX 1 a)<|uL fun n=>.opt (tC yA 253 x1 (uZ i2)) fun a=>.heavy (sC yA 254 a (.int .u32 n5)) fun _=>.jump 2 [x0,.int .u32 i0,x1,.int .u32 n,(uZ (uW (i2-1)))]) (.call 247 [x1] fun a=>.ret (.tup [a,.int .u32 i1]))
def t237:T:=.heavy (zL x0) fun a=>.ret (.func (.func 269) [] [a])
def t239:T:=.ite (mE (Int.ofNat (aA l1)) (Int.ofNat (aA l0))) (.opt (iD yA 9 iG (.str l0) none (some (uZ (Int.ofNat (aA l1)))))<|uS fun s=>.ret (.bool (wG s l1))) bB
def t240:T:=.call 239 [.str l0,.str l1]<|uB fun b=>.ite (!b) (.ret (.tup [.str l0,.bool false])) (.opt (iD yA 9 iG (.str l0) (some (uZ (Int.ofNat (aA l1)))) none)<|uS fun s=>.ret (.tup [.str s,.bool true]))
def t241:T:=.jump 2 [x0,uZ 0,uZ i0]
def t241_2:T:=.ite (jB i0 i1) (.callv x0 [(uZ (uW (Int.fdiv (fA .u64 (uW (i0+i1))) 2)))]<|uB fun b=>.ite (!b) (.jump 2 [x0,(uZ (uW ((uW (Int.fdiv (fA .u64 (uW (i0+i1))) 2))+1))),uZ i1]) (.jump 2 [x0,uZ i0,(uZ (uW (Int.fdiv (fA .u64 (uW (i0+i1))) 2)))])) (.ret (uZ i0))
def t242:T:=.light (fun m=>iA yA 3 ⟨0,m⟩ x0)<|uI fun n1=>.call 189 [(vC i0)]<|uI fun n=>.light (fun m=>iA yA 3 ⟨0,m⟩ x0) fun a=>.ite (same 10 a (uZ n1)) (.ret (.bool (jB n1 n))) .fail
def t243:T:=.ret (uZ (uW ((uW ((uW (Int.tdiv i0 4))-(uW (Int.tdiv i0 100))))+(uW (Int.tdiv i0 400)))))
def t244:T:=.ite (jB i1 1) (.ret (uZ 0)) (.ite (jB 12 i1) (.ret (uZ 0)) (.ite (kB i1 2) (.call 271 [uZ i0]<|uB fun b=>.ite b (.ret (uZ 29)) (uQ16 i1)) (uQ16 i1)))
def t246:T:=.heavy (zL x0) fun a0=>.heavy (yI yA 270) fun a=>.heavy (sC yA 270 a (.int .u64 0)) fun _=>.ret (.func (.func 276) [] [a,a0])
def t247:T:=.jump 2 [x0]
def Qc:T:=.opt (qC x0)<|uI fun n=>.ite (jB 0 n) (.opt (qC x0)<|uI fun n=>.opt (tC yA 253 x0 (uZ (uW (n-1)))) fun a=>.light (fun m=>iA yA 254 ⟨0,m⟩ a)<|uL fun n=>.ite (kB n 0) (.opt (qC x0)<|uI fun n=>.light (fun m=>iD yA 253 ⟨0,m⟩ x0 none (some (uZ (uW (n-1))))) fun a=>.jump 2 [a]) (.ret x0)) (.ret x0)
def t248:T:=.call 247 [x0] fun a0=>.opt (qC a0)<|uI fun n=>.ite (kB n 0) (.ite true (.ite true (.ret (.agg [.bool false,.nilslice])) .fail) .fail) (.opt (qC a0)<|uI fun n=>.heavy (yP yA 22 (uZ (uW (2*n))) (uZ (uW (2*n)))) fun a=>.opt (qC a0)<|uI fun n=>.jump 2 [.bool g0,a,a0,uZ n,uZ 0,.bool false,.nilslice])
def Wb:T:=.ite (jB i1 i0) (.opt (tC yA 253 x1 (uZ i1)) fun a=>.light (fun m=>iA yA 254 ⟨0,m⟩ a)<|uL fun n=>.opt (tC yA 22 x0 (uZ (uW (2*i1)))) fun a=>.heavy (sC yA 261 a (.int .u16 (fA .u16 n))) fun _=>.opt (tC yA 22 x0 (uZ (uW ((uW (2*i1))+1)))) fun a=>.heavy (sC yA 261 a (.int .u16 (fA .u16 (Int.fdiv n 65536)))) fun _=>.jump 2 [.bool g0,x0,x1,uZ i0,(vC i1),.bool g1,x2]) (.opt (qC x0)<|uI fun n=>.opt (tC yA 22 x0 (uZ (uW (n-1)))) fun a=>.light (fun m=>iA yA 261 ⟨0,m⟩ a)<|uH fun n=>.ite (kB n 0) (.opt (qC x0)<|uI fun n=>.light (fun m=>iD yA 22 ⟨0,m⟩ x0 none (some (uZ (uW (n-1))))) fun a=>.ite (yC [.bool g0,a]) (.ite (yC [.bool g0,a]) (.ret (.agg [.bool g0,a])) .fail) .fail) (.ite (yC [.bool g0,x0]) (.ite (yC [.bool g0,x0]) (.ret (.agg [.bool g0,x0])) .fail) .fail))
def t249:T:=.call 277 [.agg [.bool g0,x0],.agg [.bool g1,x1]] fun a=>.opt (uX 0 a)<|uG uK fun X2=>.opt (uX 1 a)<|uG uK fun X=>.opt (uX 2 a)<|uI fun n=>.ite (yC (zH X2)) (.ite (yC (zH X)) (.ite (yC (zH X2)) (.ite (same 10 (mH X) (mH X)) (.ite (yC (zH X)) (.ret (.tup [(mH X2),(mH X)])) .fail) .fail) .fail) .fail) .fail
def t250:T:=.opt ((Bk .eql).f yA 22 (.tmp 3) (.const (.slice none 0 0)) x0 .nilslice)<|uB fun b=>.ite b (.ret .nilslice) (.heavy (wE yA 22 0 []) fun a=>.heavy (aG yA 22 22 a x0) fun a=>.ret a)
def t251:T:=.heavy (zL x0) fun a=>.ret (.func (.func 278) [] [a])
def t261:T:=.ite (jB 1 (Int.ofNat (aA l0)))
 (.opt (bG yA 9 (.str l0) (.int .i64 0)) fun a0=>.asI .u8 a0 fun n1=>.ret (.bool (kB n1 48)))
 (.ret (.bool false))
def t267:T:=.heavy (wE yA 323 2 [(0,(.agg [.bool g0,x0])),(1,(.agg [.bool g1,x1]))]) fun a=>.call 288 [a]<|uB fun b=>.ite (!b) (.ite true (.ite true (.ret (.tup [.agg [.bool false,.nilslice],uZ 2])) .fail) .fail) (.call 235 [x0] fun a3=>.ite (same 10 x1 x1) (.call 235 [x1] fun a=>.call 289 [a3,a] fun a=>.call 248 [.bool false,a]<|uG uK fun X=>.ite (yC (zH X)) (.ret (.tup [(mH X),uZ 0])) .fail) .fail)
def t268:T:=.ite (!kB i2 0) (.ite (mE i2 i0) (.light (fun m=>iA yA 103 ⟨0,m⟩ (.ptr 4 0)) fun a=>uC (zA.asIface a) fun p=>.call pn [.iface p.1 p.2] fun a=>.jump 7 [.int .u32 i0,.int .u32 i1,.int .u32 i2]) (.jump 7 [.int .u32 i0,.int .u32 i1,.int .u32 i2])) (.jump 7 [.int .u32 i0,.int .u32 i1,.int .u32 i2])
def zh0:T:=.opt (rI Nat.lor .u64 (fA .u64 ((fA .u64 i0)*4294967296)) (fA .u64 i1))<|uE fun n1=>.opt (Ak .u64 n1 (fA .u64 i2))<|uE fun n3=>.opt (Aj .u64 n1 (fA .u64 i2))<|uE fun n=>.ret (.tup [(.int .u32 (fA .u32 n3)),(.int .u32 (fA .u32 n))])
def t269:T:=.light (fun m=>iA yA 253 ⟨0,m⟩ x1) fun a=>.opt (qC a)<|uI fun n=>.jump 2 [x0,x1,(uZ (uW (n-1)))]
def Wa:T:=.ite (mE 0 i0) (.light (fun m=>iA yA 253 ⟨0,m⟩ x1) fun a=>.opt (tC yA 253 a (uZ i0)) fun a=>.light (fun m=>iA yA 254 ⟨0,m⟩ a)<|uL fun n=>.callv x0 [.int .u32 n]<|uB fun b=>.ite (!b) (.ret (.tup [])) (.jump 2 [x0,x1,(uZ (uW (i0-1)))])) (.ret (.tup []))
def t271:T:=.ite (kB (Int.tmod i0 4) 0) (.ite (!kB (Int.tmod i0 100) 0) gG (.ret (.bool (kB (Int.tmod i0 400) 0)))) bB
def t276:T:=.light (fun m=>iA yA 270 ⟨0,m⟩ x0)<|uE fun n=>.light (fun m=>iA yA 287 ⟨0,m⟩ x1) fun a2=>.light (fun m=>iA yA 287 ⟨0,m⟩ x1) fun a3=>.opt (oC a3) fun a4=>.light (fun m=>iA yA 253 ⟨0,m⟩ a4) fun a5=>.heavy (wE yA 253 1 [(0,(.int .u32 (fA .u32 (fA .u64 (i0+n)))))]) fun a6=>.light (fun m=>iA yA 287 ⟨0,m⟩ x1) fun a=>.ite (same 10 a a2) (.light (fun m=>iA yA 287 ⟨0,m⟩ x1) fun a=>.ite (same 10 a a3) (.light (fun m=>iA yA 253 ⟨0,m⟩ a4) fun a=>.ite (same 10 a a5) (.heavy (aG yA 253 253 a5 a6) fun a10=>.light (fun m=>iA yA 287 ⟨0,m⟩ x1) fun a=>.ite (same 10 a a2) (.opt (oC a2) fun a=>.heavy (sC yA 253 a a10) fun _=>.heavy (sC yA 270 x0 (.int .u64 (Int.fdiv (fA .u64 (i0+n)) 4294967296))) fun _=>.ret (.tup [])) .fail) .fail) .fail) .fail
def t277:T:=.heavy (wE yA 323 2 [(0,(.agg [.bool g0,x0])),(1,(.agg [.bool g1,x1]))]) fun a=>.call 288 [a]<|uB fun b=>.ite (!b) (.ite true (.ite true (.ite true (.ite true (.ret (.tup [.agg [.bool false,.nilslice],.agg [.bool false,.nilslice],uZ 2])) .fail) .fail) .fail) .fail) (.opt (qC x1)<|uI fun n=>.ite (kB n 0) (.ite true (.ite true (.ite true (.ite true (.ret (.tup [.agg [.bool false,.nilslice],.agg [.bool false,.nilslice],uZ 11])) .fail) .fail) .fail) .fail) (.call 235 [x1] fun a5=>.call 235 [x0] fun a=>.call 295 [a,a5] fun a7=>.opt (uX 0 a7) fun a8=>.opt (uX 1 a7) fun a9=>.ite (!bEq g0 g1) (.opt (qC a9)<|uI fun n=>.ite (jB 0 n) (.heavy (wE yA 253 1 [(0,(.int .u32 1))]) fun a=>.call 296 [a8,a] fun a13=>.call 297 [a5,a9] fun a=>.jump 21 [a13,a,.bool g0,x0,.bool g1,x1,.bool false,.nilslice,.bool false,.nilslice]) (.jump 21 [a8,a9,.bool g0,x0,.bool g1,x1,.bool false,.nilslice,.bool false,.nilslice])) (.jump 21 [a8,a9,.bool g0,x0,.bool g1,x1,.bool false,.nilslice,.bool false,.nilslice])))
def EI:T:=.call 248 [(.bool (!bEq g0 g1)),x0]<|uG uK fun X1=>.ite (same 10 (.bool g1) (.bool g1)) (.call 248 [.bool g1,x1]<|uG uK fun X=>.ite (yC (zH X1)) (.ite (yC (zH X)) (.ret (.tup [(mH X1),(mH X),uZ 0])) .fail) .fail) .fail
def t278:T:=.light (fun m=>iA yA 22 ⟨0,m⟩ x1) fun a=>.opt (qC a)<|uI fun n=>.jump 2 [x0,x1,(uZ (uW (n-1)))]
def Vz:T:=.ite (mE 0 i0) (.light (fun m=>iA yA 22 ⟨0,m⟩ x1) fun a=>.opt (tC yA 22 a (uZ i0)) fun a=>.light (fun m=>iA yA 261 ⟨0,m⟩ a)<|uH fun n=>.callv x0 [.int .u16 n]<|uB fun b=>.ite (!b) (.ret (.tup [])) (.jump 2 [x0,x1,(uZ (uW (i0-1)))])) (.ret (.tup []))
def t288:T:=.opt (qC x0)<|uI fun n=>.jump 2 [x0,uZ n,uZ 0]
def Vy:T:=.ite (jB i1 i0) (.opt (tC yA 323 x0 (uZ i1)) fun a=>.light (fun m=>iA yA 24 ⟨0,m⟩ a)<|uG uK fun X=>.ite (yC (zH X)) (.call 196 [(mH X)]<|uB fun b=>.ite (!b) bB (.jump 2 [x0,uZ i0,(vC i1)])) .fail) gG
def t289:T:=.call 300 [x0,x1]<|uI fun n=>.ite (jB n 0) (.jump 2 [x1,x0]) (.jump 2 [x0,x1])
def zhx:T:=.opt (qC x1)<|uI fun n=>.ite (jB 2 n) (.call 301 [x0,x1]<|uG [.int .u64 0,.int .u64 0,.int .u64 0,.int .u64 0,.bool false] fun X=>.ite true (.ite (kB (X.i 2) 0) (.call 295 [x0,x1] fun a4=>.opt (uX 0 a4) fun a=>.opt (uX 1 a4) fun a=>.jump 2 [x1,a]) (.ite (X.b 4) (.call 302 [.int .u64 (X.i 0),x0,.int .u64 (X.i 2),x1] fun a7=>.ite (same 10 (.int .u64 (X.i 3)) (.int .u64 (X.i 3))) (.ite (same 10 (.int .u64 (X.i 1)) (.int .u64 (X.i 1))) (.call 302 [.int .u64 (X.i 3),x1,.int .u64 (X.i 1),x0] fun a=>.jump 2 [a7,a]) .fail) .fail) (.call 302 [.int .u64 (X.i 2),x1,.int .u64 (X.i 0),x0] fun a9=>.ite (same 10 (.int .u64 (X.i 1)) (.int .u64 (X.i 1))) (.ite (same 10 (.int .u64 (X.i 3)) (.int .u64 (X.i 3))) (.call 302 [.int .u64 (X.i 1),x0,.int .u64 (X.i 3),x1] fun a=>.jump 2 [a9,a]) .fail) .fail))) .fail) (.opt (qC x1)<|uI fun n=>.ite (kB n 0) (.ret x0) (.opt (qC x0)<|uI fun n=>.ite (jB 2 n) (.call 295 [x0,x1] fun a15=>.opt (uX 0 a15) fun a=>.opt (uX 1 a15) fun a=>.jump 33 [x1,a]) (.jump 33 [x0,x1])))
def EH:T:=.call 303 [x0]<|uE fun n1=>.call 303 [x1]<|uE fun n=>.jump 6 [.int .u64 n1,.int .u64 n]
def zhw:T:=.ite (!kB i1 0) (.opt (Aj .u64 i0 i1)<|uE fun n=>.jump 6 [.int .u64 i1,.int .u64 n]) (.call 304 [.int .u64 i0] fun a=>.ret a)
def t295:T:=.call 300 [x0,x1]<|uI fun n=>.ite (jB n 0) (.call 307 [x0] fun a=>.ret (.tup [.nilslice,a])) (.opt (qC x1)<|uI fun n=>.ite (kB n 1) (.opt (tC yA 253 x1 (uZ 0)) fun a=>.light (fun m=>iA yA 254 ⟨0,m⟩ a)<|uL fun n=>.call 236 [x0,.int .u32 n] fun a8=>.opt (uX 0 a8) fun a9=>.opt (uX 1 a8)<|uL fun n=>.heavy (wE yA 253 1 [(0,(.int .u32 n))]) fun a=>.call 247 [a] fun a=>.ret (.tup [a9,a])) (.opt (qC x1)<|uI fun n15=>.opt (tC yA 253 x1 (uZ (uW (n15-1)))) fun a=>.light (fun m=>iA yA 254 ⟨0,m⟩ a)<|uL fun n=>.call 308 [.int .u32 n]<|uI fun n20=>.call 309 [x1,uZ n20] fun a=>.light (fun m=>iD yA 253 ⟨0,m⟩ a none (some (uZ n15))) fun a22=>.call 309 [x0,uZ n20] fun a23=>.opt (qC x0)<|uI fun n=>.heavy (yP yA 253 (uZ (uW ((uW (n-n15))+1))) (uZ (uW ((uW (n-n15))+1)))) fun a=>.opt (qC a)<|uI fun n=>.jump 2 [uZ n15,uZ n20,a22,a23,a,(uZ (uW (n-1)))]))
def Vx:T:=.ite (mE 0 i2) (.light (fun m=>iD yA 253 ⟨0,m⟩ x1 (some (uZ i2)) (some (uZ (uW ((uW (i2+i0))+1))))) fun a=>.call 310 [a,x0]<|uL fun n=>.opt (tC yA 253 x2 (uZ i2)) fun a=>.heavy (sC yA 254 a (.int .u32 n)) fun _=>.jump 2 [uZ i0,uZ i1,x0,x1,x2,(uZ (uW (i2-1)))]) (.jump 6 [uZ i0,uZ i1,x1,x2,uZ i0,uZ 0])
def Vw:T:=.ite (jB i3 i2) (.opt (tC yA 253 x0 (vC i3)) fun a=>.light (fun m=>iA yA 254 ⟨0,m⟩ a)<|uL fun n2=>.opt (tC yA 253 x0 (uZ i3)) fun a=>.light (fun m=>iA yA 254 ⟨0,m⟩ a)<|uL fun n=>.opt (rI Nat.lor .u64 (fA .u64 ((fA .u64 n2)*4294967296)) (fA .u64 n))<|uE fun n=>.opt (Fv .u64 n i1)<|uE fun n=>.opt (tC yA 253 x0 (uZ i3)) fun a=>.heavy (sC yA 254 a (.int .u32 (fA .u32 n))) fun _=>.jump 6 [uZ i0,uZ i1,x0,x1,uZ i2,(vC i3)]) (.light (fun m=>iD yA 253 ⟨0,m⟩ x0 none (some (uZ i0))) fun a11=>.call 247 [x1] fun a12=>.light (fun m=>iD yA 253 ⟨0,m⟩ x0 none (some (uZ i0))) fun a=>.ite (same 10 a a11) (.call 247 [a11] fun a=>.ret (.tup [a12,a])) .fail)
def t300:T:=.opt (qC x0)<|uI fun n1=>.opt (qC x1)<|uI fun n=>.ite (!kB n1 n) (.opt (qC x0)<|uI fun n5=>.opt (qC x1)<|uI fun n=>.ite (jB n5 n) (.ret (uZ (-1))) (.ret (uZ 1))) (.opt (qC x0)<|uI fun n=>.jump 2 [x0,x1,(uZ (uW (n-1)))])
def Vu:T:=.ite (mE 0 i0) (.opt (tC yA 253 x0 (uZ i0)) fun a=>.light (fun m=>iA yA 254 ⟨0,m⟩ a)<|uL fun n2=>.opt (tC yA 253 x1 (uZ i0)) fun a=>.light (fun m=>iA yA 254 ⟨0,m⟩ a)<|uL fun n=>.ite (!kB n2 n) (.opt (tC yA 253 x0 (uZ i0)) fun a=>.light (fun m=>iA yA 254 ⟨0,m⟩ a)<|uL fun n8=>.opt (tC yA 253 x1 (uZ i0)) fun a=>.light (fun m=>iA yA 254 ⟨0,m⟩ a)<|uL fun n=>.ite (jB n8 n) (.ret (uZ (-1))) (.ret (uZ 1))) (.jump 2 [x0,x1,(uZ (uW (i0-1)))])) (.ret (uZ 0))
def t301:T:=.opt (qC x0)<|uI fun n1=>.opt (tC yA 253 x0 (uZ (uW (n1-1)))) fun a=>.light (fun m=>iA yA 254 ⟨0,m⟩ a)<|uL fun n=>.call 308 [.int .u32 n]<|uI fun n6=>.call 315 [x0,uZ n1,uZ n6]<|uE fun n8=>.call 315 [x1,uZ n1,uZ n6]<|uE fun n=>.ite true (.ite true (.jump 2 [.int .u64 n8,.int .u64 n,.int .u64 0,.int .u64 1,.int .u64 0,.int .u64 0,.int .u64 0,.int .u64 0,.bool false,.int .u64 0,.int .u64 1,.int .u64 0,.int .u64 0,.bool false]) .fail) .fail
def zhv:T:=.ite (mE i3 i1) (.ite (mE (fA .u64 (j1+i3)) (fA .u64 (i0-i1))) (.opt (Ak .u64 i0 i1)<|uE fun n1=>.opt (Aj .u64 i0 i1)<|uE fun n=>.ite true (.ite true (.ite true (.ite true (.ite true (.jump 2 [.int .u64 i1,.int .u64 n,(.int .u64 (fA .u64 (i9+(fA .u64 (n1*i2))))),(.int .u64 (fA .u64 (j1+(fA .u64 (n1*i3))))),.int .u64 i4,.int .u64 i5,.int .u64 i6,.int .u64 i7,.bool g0,.int .u64 i9,.int .u64 i2,.int .u64 j1,.int .u64 i3,(.bool (!g1))]) .fail) .fail) .fail) .fail) .fail) (.ite true (.ret (.agg [.int .u64 i8,.int .u64 i9,.int .u64 j0,.int .u64 j1,.bool g1])) .fail)) (.ite true (.ret (.agg [.int .u64 i8,.int .u64 i9,.int .u64 j0,.int .u64 j1,.bool g1])) .fail)
def t302:T:=.opt (qC x0)<|uI fun n1=>.opt (qC x1)<|uI fun n=>.heavy (yP yA 253 (uZ (uW ((bif jB n1 n then n else n1)+1))) (uZ (uW ((bif jB n1 n then n else n1)+1)))) fun a=>.opt (qC a)<|uI fun n=>.jump 2 [.int .u64 i0,x0,.int .u64 i1,x1,a,.int .u64 0,.int .u64 0,.int .u32 0,uZ n,uZ 0]
def Vt:T:=.ite (jB i6 i5) (.opt (qC x0)<|uI fun n=>.ite (jB i6 n) (.opt (tC yA 253 x0 (uZ i6)) fun a=>.light (fun m=>iA yA 254 ⟨0,m⟩ a)<|uL fun n=>.jump 17 [.int .u64 i0,x0,.int .u64 i1,x1,x2,(.int .u64 (fA .u64 (i2+(fA .u64 (i0*(fA .u64 n)))))),.int .u64 i3,.int .u32 i4,uZ i6,uZ i5,uZ i6]) (.jump 17 [.int .u64 i0,x0,.int .u64 i1,x1,x2,.int .u64 i2,.int .u64 i3,.int .u32 i4,uZ i6,uZ i5,uZ i6])) (.call 247 [x2] fun a=>.ret a)
def EG:T:=.opt (qC x1)<|uI fun n=>.ite (jB i5 n) (.opt (tC yA 253 x1 (uZ i5)) fun a=>.light (fun m=>iA yA 254 ⟨0,m⟩ a)<|uL fun n=>.jump 21 [.int .u64 i0,x0,.int .u64 i1,x1,x2,.int .u64 i2,(.int .u64 (fA .u64 (i3+(fA .u64 (i1*(fA .u64 n)))))),.int .u32 i4,uZ i5,uZ i6,uZ i7]) (.jump 21 [.int .u64 i0,x0,.int .u64 i1,x1,x2,.int .u64 i2,.int .u64 i3,.int .u32 i4,uZ i5,uZ i6,uZ i7])
def EF:T:=.call 311 [(.int .u32 (fA .u32 i2)),(.int .u32 (fA .u32 i3)),.int .u32 i4] fun a=>.opt (uX 0 a)<|uL fun n2=>.opt (uX 1 a)<|uL fun n=>.opt (tC yA 253 x2 (uZ i5)) fun a=>.heavy (sC yA 254 a (.int .u32 n2)) fun _=>.jump 2 [.int .u64 i0,x0,.int .u64 i1,x1,x2,(.int .u64 (Int.fdiv i2 4294967296)),(.int .u64 (Int.fdiv i3 4294967296)),.int .u32 n,uZ i6,(vC i7)]
def t303:T:=.heavy (yI yA 270) fun a0=>.heavy (sC yA 270 a0 (.int .u64 0)) fun _=>.call 237 [x0] fun a=>.range (uQ yA) a 2 1 [a0] (.light (fun m=>iA yA 270 ⟨0,m⟩ a0)<|uE fun n=>.ret (.int .u64 n)) (.ret (.int .u64 0))
def zhu:T:=.light (fun m=>iA yA 270 ⟨0,m⟩ x0)<|uE fun n=>.opt (rI Nat.lor .u64 (fA .u64 (n*4294967296)) (fA .u64 i0))<|uE fun n=>.heavy (sC yA 270 x0 (.int .u64 n)) fun _=>.ret (.bool true)
def t304:T:=.heavy (wE yA 253 2 [(0,(.int .u32 (fA .u32 i0))),(1,(.int .u32 (fA .u32 (Int.fdiv i0 4294967296))))]) fun a=>.call 247 [a] fun a=>.ret a
def t307:T:=.opt ((Bk .eql).f yA 253 (.tmp 3) (.const (.slice none 0 0)) x0 .nilslice)<|uB fun b=>.ite b (.ret .nilslice) (.heavy (wE yA 253 0 []) fun a=>.heavy (aG yA 253 253 a x0) fun a=>.ret a)
def t308:T:=.call 316 [.int .u32 i0]<|uI fun n=>.ret (uZ (uW (32-n)))
def t309:T:=.opt (qC x0)<|uI fun n=>.heavy (yP yA 253 (vC n) (vC n)) fun a=>.opt (qC x0)<|uI fun n=>.jump 2 [uZ i0,a,x0,uZ n,uZ 0]
def Vs:T:=.ite (jB i2 i1) (.opt (tC yA 253 x1 (uZ i2)) fun a=>.light (fun m=>iA yA 254 ⟨0,m⟩ a)<|uL fun n=>.opt (mW .u64 (fA .u64 n) i0)<|uE fun n4=>.opt (tC yA 253 x0 (uZ i2)) fun a=>.light (fun m=>iA yA 254 ⟨0,m⟩ a)<|uL fun n=>.opt (rI Nat.lor .u32 n (fA .u32 n4))<|uL fun n=>.opt (tC yA 253 x0 (uZ i2)) fun a=>.heavy (sC yA 254 a (.int .u32 n)) fun _=>.opt (tC yA 253 x0 (vC i2)) fun a=>.heavy (sC yA 254 a (.int .u32 (fA .u32 (Int.fdiv n4 4294967296)))) fun _=>.jump 2 [uZ i0,x0,x1,uZ i1,(vC i2)]) (.ret x0)
def t310:T:=.opt (qC x1)<|uI fun n1=>.opt (tC yA 253 x0 (uZ n1)) fun a=>.light (fun m=>iA yA 254 ⟨0,m⟩ a)<|uL fun n4=>.opt (tC yA 253 x0 (uZ (uW (n1-1)))) fun a=>.light (fun m=>iA yA 254 ⟨0,m⟩ a)<|uL fun n=>.opt (rI Nat.lor .u64 (fA .u64 ((fA .u64 n4)*4294967296)) (fA .u64 n))<|uE fun n9=>.opt (tC yA 253 x1 (uZ (uW (n1-1)))) fun a=>.light (fun m=>iA yA 254 ⟨0,m⟩ a)<|uL fun n12=>.opt (Ak .u64 n9 (fA .u64 n12))<|uE fun n14=>.opt (Aj .u64 n9 (fA .u64 n12))<|uE fun n=>.jump 2 [x0,x1,uZ n1,(.int .u64 (fA .u64 n12)),.int .u64 n14,.int .u64 n]
def Vq:T:=.ite (mE 4294967296 i2) (uQ13 i3 i1 x0 x1 i0 i2) (.opt (tC yA 253 x1 (uZ (uW (i0-2)))) fun a=>.light (fun m=>iA yA 254 ⟨0,m⟩ a)<|uL fun n2=>.opt (tC yA 253 x0 (uZ (uW (i0-2)))) fun a=>.light (fun m=>iA yA 254 ⟨0,m⟩ a)<|uL fun n=>.opt (rI Nat.lor .u64 (fA .u64 (i3*4294967296)) (fA .u64 n))<|uE fun n=>.ite (jB n (fA .u64 (i2*(fA .u64 n2)))) (uQ13 i3 i1 x0 x1 i0 i2) (.jump 19 [x0,x1,uZ i0,.int .u64 i2]))
def EE:T:=.opt (qC x1)<|uI fun n=>.jump 6 [x0,x1,uZ i0,.int .u64 i1,.int .u64 0,.int .u64 0,x1,uZ n,uZ 0]
def Vp:T:=.ite (jB i5 i4) (.opt (tC yA 253 x2 (uZ i5)) fun a=>.light (fun m=>iA yA 254 ⟨0,m⟩ a)<|uL fun n2=>.opt (tC yA 253 x0 (uZ i5)) fun a=>.light (fun m=>iA yA 254 ⟨0,m⟩ a)<|uL fun n=>.opt (tC yA 253 x0 (uZ i5)) fun a=>.heavy (sC yA 254 a (.int .u32 (fA .u32 (fA .u64 ((fA .u64 ((fA .u64 n)-(fA .u64 (fA .u32 (fA .u64 ((fA .u64 (i1*(fA .u64 n2)))+i2))))))-i3))))) fun _=>.jump 6 [x0,x1,uZ i0,.int .u64 i1,(.int .u64 (Int.fdiv (fA .u64 ((fA .u64 (i1*(fA .u64 n2)))+i2)) 4294967296)),(.int .u64 (Int.fdiv (fA .u64 ((fA .u64 ((fA .u64 n)-(fA .u64 (fA .u32 (fA .u64 ((fA .u64 (i1*(fA .u64 n2)))+i2))))))-i3)) 9223372036854775808)),x2,uZ i4,(vC i5)]) (.opt (tC yA 253 x0 (uZ i0)) fun a=>.light (fun m=>iA yA 254 ⟨0,m⟩ a)<|uL fun n=>.opt (tC yA 253 x0 (uZ i0)) fun a=>.heavy (sC yA 254 a (.int .u32 (fA .u32 (fA .u64 ((fA .u64 ((fA .u64 n)-i2))-i3))))) fun _=>.ite (kB (Int.fdiv (fA .u64 ((fA .u64 ((fA .u64 n)-i2))-i3)) 9223372036854775808) 0) (.ret (.int .u32 (fA .u32 i1))) (.opt (qC x1)<|uI fun n=>.jump 10 [x0,uZ i0,.int .u64 i1,.int .u32 0,x1,uZ n,uZ 0]))
def Vr:T:=.ite (jB i4 i3) (.opt (tC yA 253 x1 (uZ i4)) fun a=>.light (fun m=>iA yA 254 ⟨0,m⟩ a)<|uL fun n2=>.opt (tC yA 253 x0 (uZ i4)) fun a=>.light (fun m=>iA yA 254 ⟨0,m⟩ a)<|uL fun n=>.call 317 [.int .u32 n,.int .u32 n2,.int .u32 i2] fun a=>.opt (uX 0 a)<|uL fun n8=>.opt (uX 1 a)<|uL fun n=>.opt (tC yA 253 x0 (uZ i4)) fun a=>.heavy (sC yA 254 a (.int .u32 n8)) fun _=>.jump 10 [x0,uZ i0,.int .u64 i1,.int .u32 n,x1,uZ i3,(vC i4)]) (.opt (tC yA 253 x0 (uZ i0)) fun a=>.light (fun m=>iA yA 254 ⟨0,m⟩ a)<|uL fun n=>.opt (tC yA 253 x0 (uZ i0)) fun a=>.heavy (sC yA 254 a (.int .u32 (fA .u32 (n+i2)))) fun _=>.ret (.int .u32 (fA .u32 (fA .u64 (i1-1)))))
def t311:T:=.opt (El (.int .u32 i0))<|uL fun n=>.opt (iAnd .u32 n i1)<|uL fun n3=>.opt (rI Nat.xor .u32 i0 i1)<|uL fun n=>.opt (El (.int .u32 n))<|uL fun n=>.opt (iAnd .u32 n (fA .u32 ((fA .u32 (i0-i1))-i2)))<|uL fun n=>.opt (rI Nat.lor .u32 n3 n)<|uL fun n=>.ret (.tup [(.int .u32 (fA .u32 ((fA .u32 (i0-i1))-i2))),(.int .u32 (Int.fdiv n 2147483648))])
def t315:T:=.heavy (zL x0) fun a=>.callv (.func (.func 320) [] [a]) [(uZ (uW (i0-1)))]<|uE fun n2=>.callv (.func (.func 320) [] [a]) [(uZ (uW (i0-2)))]<|uE fun n=>.opt (rI Nat.lor .u64 (fA .u64 (n2*4294967296)) n)<|uE fun n=>.opt (mW .u64 n i1)<|uE fun n8=>.callv (.func (.func 320) [] [a]) [(uZ (uW (i0-3)))]<|uE fun n=>.opt (Fv .u64 n (uW (32-i1)))<|uE fun n=>.opt (rI Nat.lor .u64 n8 n)<|uE fun n=>.ret (.int .u64 n)
def t316:T:=.ite (mE 65536 i0) (.jump 9 [(.int .u32 (Int.fdiv i0 65536)),uZ 16]) (.jump 9 [.int .u32 i0,uZ 0])
def Vm:T:=.ite (mE 256 i0) (.jump 15 [(.int .u32 (Int.fdiv i0 256)),(uZ (uW (i1+8)))]) (.jump 15 [.int .u32 i0,uZ i1])
def EA:T:=.opt (bG yA 9 (.str [0,1,2,2,3,3,3,3,4,4,4,4,4,4,4,4,5,5,5,5,5,5,5,5,5,5,5,5,5,5,5,5,6,6,6,6,6,6,6,6,6,6,6,6,6,6,6,6,6,6,6,6,6,6,6,6,6,6,6,6,6,6,6,6,7,7,7,7,7,7,7,7,7,7,7,7,7,7,7,7,7,7,7,7,7,7,7,7,7,7,7,7,7,7,7,7,7,7,7,7,7,7,7,7,7,7,7,7,7,7,7,7,7,7,7,7,7,7,7,7,7,7,7,7,7,7,7,7,8,8,8,8,8,8,8,8,8,8,8,8,8,8,8,8,8,8,8,8,8,8,8,8,8,8,8,8,8,8,8,8,8,8,8,8,8,8,8,8,8,8,8,8,8,8,8,8,8,8,8,8,8,8,8,8,8,8,8,8,8,8,8,8,8,8,8,8,8,8,8,8,8,8,8,8,8,8,8,8,8,8,8,8,8,8,8,8,8,8,8,8,8,8,8,8,8,8,8,8,8,8,8,8,8,8,8,8,8,8,8,8,8,8,8,8,8,8,8,8,8,8,8,8,8,8,8,8]) (uY (fA .u8 i0)))<|uU fun n=>.ret (uZ (uW (i1+(uW n))))
def t317:T:=.ret (.tup [(.int .u32 (fA .u32 (fA .u64 ((fA .u64 ((fA .u64 i0)+(fA .u64 i1)))+(fA .u64 i2))))),(.int .u32 (fA .u32 (Int.fdiv (fA .u64 ((fA .u64 ((fA .u64 i0)+(fA .u64 i1)))+(fA .u64 i2))) 4294967296)))])
def t320:T:=.light (fun m=>iA yA 253 ⟨0,m⟩ x0) fun a=>.opt (qC a)<|uI fun n=>.ite (mE n i0) (.ret (.int .u64 0)) (.light (fun m=>iA yA 253 ⟨0,m⟩ x0) fun a=>.opt (tC yA 253 a (uZ i0)) fun a=>.light (fun m=>iA yA 254 ⟨0,m⟩ a)<|uL fun n=>.ret (.int .u64 (fA .u64 n)))
def e307(p0:zA):entT yA (fo 307) (ko 307) 307 (ao 307) [p0]=t307 p0:=by kernel_rfl
def e317(p0 p1 p2:Int):entT yA (fo 317) (ko 317) 317 (ao 317) [.int .u32 p0,.int .u32 p1,.int .u32 p2]=t317 p0 p1 p2:=by kernel_rfl
variable {i0 i1 i2 i3 i4 i5 i6 i7 i8 i9 j0 j1 j2 j3 j4 j5 j6 j7}{l0 l1 l2 l3 l4 l5 l6 l7}{x0 x1 x2 x3 x4 x5 x6 x7 x8 x9 y0 y1}{g0 g1 g2 g3 g4 g5 g6 g7 g8 g9}
def w3:zW 3 (t3 i0 i1 i2 l0 x0 x1 x2 g0 g1) [.agg [uY i0,.str l0,uY i1,.bool g0,x0,.bool g1,x1,uZ i2,x2]]:=wA
def j3_2:zJ 3 2 (t3_2 i0 i1 i2 i3 l0 l1 x0 x1 x2 g0 g1) [.str l0,uZ i0,uY i1,.str l1,uY i2,.bool g0,x0,.bool g1,x1,uZ i3,x2]:=jA
def w8:zW 8 (t8 i0 i1 i2 i3 l0 x0 x1 x2 g0 g1) [.agg [uY i0,.str l0,uY i1,.bool g0,x0,.bool g1,x1,uZ i2,x2],uZ i3]:=wA
def j8_2:zJ 8 2 (t8_2 i0 i1 i2 i3 i4 i5 l0 x0 x1 x2 g0 g1) [uZ i0,uZ i1,uZ i2,uY i3,.str l0,uY i4,.bool g0,x0,.bool g1,x1,uZ i5,x2]:=jA
def w9:zW 9 (t9 i0 i1 i2 l0 x0 x1 x2 g0 g1) [.agg [uY i0,.str l0,uY i1,.bool g0,x0,.bool g1,x1,uZ i2,x2]]:=wA
def w10:zW 10 (t10 i0 l0) [.str l0,uZ i0]:=wA
def j10_2:zJ 10 2 (zk3 i0 i1 l0) [.str l0,uZ i0,uZ i1]:=jA
def w11:zW 11 (t11 l0) [.str l0]:=wA
def w12:zW 12 (t12 i0 i1 i2 i3 i4 i5 l0 l1 x0 x1 x2 x3 x4 x5 g0 g1 g2 g3) [.agg [uY i0,.str l0,uY i1,.bool g0,x0,.bool g1,x1,uZ i2,x2],.agg [uY i3,.str l1,uY i4,.bool g2,x3,.bool g3,x4,uZ i5,x5]]:=wA
def w15:zW 15 (t15 i0 i1 i2 i3 x0 x1 x2 x3 g0 g1 g2 g3) [.agg [uY i0,.bool g0,x0,.bool g1,x1,uZ i1],.agg [uY i2,.bool g2,x2,.bool g3,x3,uZ i3]]:=wA
def w25:zW 25 (t25 x0 x1) [.agg [.bool g0,x0,.bool g1,x1]]:=wA
def w26:zW 26 (t26 ) []:=wA
def w27:zW 27 (t27 i0 i1 i2 i3 l0 x0 x1 x2 x3 g0 g1) [.agg [x0],.agg [uY i0,.str l0,uY i1,.bool g0,x1,.bool g1,x2,uZ i2,x3],uZ i3]:=wA
def j27_33:zJ 27 33 (zhz i0 i4 i5 x0 x3 x4 x5 g2 g3) [uZ i0,x0,uY i1,.str l0,uY i2,.bool g0,x1,.bool g1,x2,uZ i3,x3,uY i4,.bool g2,x4,.bool g3,x5,uZ i5]:=jA
def j27_4:zJ 27 4 (zk2 i0 i1 i2 x0 x1) [uZ i0,x0,uZ i1,uZ i2,x1]:=jA
def w28:zW 28 (t28 i0 i1 i2 l0 x0 x1 x2 g0 g1) [.agg [uY i0,.str l0,uY i1,.bool g0,x0,.bool g1,x1,uZ i2,x2]]:=wA
def w33:zW 33 (t33 x0 x1) [x0,x1]:=wA
def j33_2:zJ 33 2 (t33_2 i0 x0 x1) [x0,x1,uZ i0]:=jA
def w34:zW 34 (t34 i0 i1 x0 x1 g0 g1) [.agg [uY i0,.bool g0,x0,.bool g1,x1,uZ i1]]:=wA
def w35:zW 35 (t35 i0 i1 x0 x1 g0 g1) [.agg [uY i0,.bool g0,x0,.bool g1,x1,uZ i1]]:=wA
def w40:zW 40 (t40 x0 x1 x2 x3 g0 g1 g2 g3) [.agg [.bool g0,x0,.bool g1,x1],.agg [.bool g2,x2,.bool g3,x3]]:=wA
def w42:zW 42 (t42 l0 x0) [x0,.str l0]:=wA
def w43:zW 43 (t43 x0) [x0]:=wA
def w59:zW 59 (t59 ) []:=wA
def w60:zW 60 (t60 l0) [.str l0]:=wA
def w61:zW 61 (t61 i0 i1 x0 x1 g0 g1) [.agg [uY i0,.bool g0,x0,.bool g1,x1,uZ i1]]:=wA
def w62:zW 62 (t62 i0 i1 i2 l0 x0 x1 x2 x3 g0 g1) [x0,.agg [uY i0,.str l0,uY i1,.bool g0,x1,.bool g1,x2,uZ i2,x3]]:=wA
def w63:zW 63 (t63 l0) [.str l0]:=wA
def j63_2:zJ 63 2 (zk1 i0 i1 i2 i3 l0 x0 x1 x2 x3) [x0,x1,x2,x3,.agg [uY i0,.str l0,uZ i1,uZ i2],uZ i3]:=jA
def w64:zW 64 (t64 i0 l0) [.str l0,uZ i0]:=wA
def w69:zW 69 (t69 x0 x1 g0 g1) [.agg [.bool g0,x0,.bool g1,x1]]:=wA
def w70:zW 70 (t70 x0 x1 g0 g1) [.agg [.bool g0,x0,.bool g1,x1]]:=wA
def w71:zW 71 (t71 i0) [uZ i0]:=wA
def w72:zW 72 (t72 g0) [.bool g0]:=wA
def w73:zW 73 (t73 x0 x1 g0 g1) [.agg [.bool g0,x0,.bool g1,x1]]:=wA
def w74:zW 74 (t74 i0) [uZ i0]:=wA
def w75:zW 75 (t75 i0) [uZ i0]:=wA
def w77:zW 77 (t77 x0) [x0]:=wA
def w78:zW 78 (t78 l0 x0) [x0,.str l0]:=wA
def w80:zW 80 (t80 l0 g0) [.str l0,.bool g0]:=wA
def j80_9:zJ 80 9 (t80_9 l0 l1 g0) [.bool g0,.str l0,.str l1,.bool g1,x0,.bool g2,x1]:=jA
def w82:zW 82 (t82 x0 x1 g0 g1) [.agg [.bool g0,x0],.agg [.bool g1,x1]]:=wA
def w116:zW 116 (t116 i0 i1 l0 g0) [.str l0,.bool g0,uZ i0,uZ i1]:=wA
def w117:zW 117 (t117 l0) [.str l0]:=wA
def w118:zW 118 (t118 i0 i1 i2 l0) [.str l0,uZ i0,uZ i1,uZ i2]:=wA
def w119:zW 119 (t119 i0) [uY i0]:=wA
def w120:zW 120 (t120 l0 x0) [.str l0,x0]:=wA
def zjk:zJ 120 2 (Wy i0 l0 x0) [.str l0,x0,uZ i0]:=jA
def w121:zW 121 (t121 i0) [uY i0]:=wA
def w122:zW 122 (t122 l0) [.str l0]:=wA
def w123:zW 123 (t123 i0 i1 i2 i3 l0 x0 x1 x2 x3 g0 g1) [x0,.agg [uY i0,.str l0,uY i1,.bool g0,x1,.bool g1,x2,uZ i2,x3],uZ i3]:=wA
def w124:zW 124 (t124 i0 i1 i2 l0 x0 x1 x2 x3 x4 g0 g1) [x0,.agg [uY i0,.str l0,uY i1,.bool g0,x1,.bool g1,x2,uZ i2,x3],x4]:=wA
def j124_9:zJ 124 9 (zh6 i0 i1 i2 l0 x0 x1 x2 x3 g0 g1) [x0,uY i0,.str l0,uY i1,.bool g0,x1,.bool g1,x2,uZ i2,x3]:=jA
def zjj:zJ 124 2 (Wx i0 i1 i2 i3 i4 l0 x0 x1 x2 x3 x4 g0 g1) [x0,x1,uZ i0,uZ i1,uY i2,.str l0,uY i3,.bool g0,x2,.bool g1,x3,uZ i4,x4]:=jA
def w125:zW 125 (t125 l0) [.str l0]:=wA
def w127:zW 127 (t127 i0 l0) [.str l0,uY i0]:=wA
def w128:zW 128 (t128 x0 x1) [x0,x1]:=wA
def zji:zJ 128 2 (Ww i0 i1 x0 x1) [x0,x1,uZ i0,uZ i1]:=jA
def w130:zW 130 (t130 x0 x1 g0 g1) [.agg [.bool g0,x0,.bool g1,x1]]:=wA
def w131:zW 131 (t131 x0 x1 g0 g1) [.agg [.bool g0,x0,.bool g1,x1]]:=wA
def w132:zW 132 (t132 l0 l1) [.str l0,.str l1]:=wA
def w133:zW 133 (t133 g0) [.bool g0]:=wA
def w134:zW 134 (t134 l0) [.str l0]:=wA
def w135:zW 135 (t135 i0) [uZ i0]:=wA
def w136:zW 136 (t136 i0 i1 i2 i3 i4 i5 i6 i7 i8 i9 j0 j1 j2) [.agg [uY i0,uY i1,uY i2,uY i3,uY i4,uY i5,uY i6,uY i7,uY i8,uY i9],uZ j0,uZ j1,uZ j2]:=wA
def zjf:zJ 136 2 (t136_2 i0 i1 i2 i3 i4 i5 i6 i7 i8 i9 j0 j1 j2 x0) [uZ i0,uZ i1,x0,uZ i2,uY i3,uY i4,uY i5,uY i6,uY i7,uY i8,uY i9,uY j0,uY j1,uY j2]:=jA
def w138:zW 138 (t138 l0) [.str l0]:=wA
def w140:zW 140 (t140 l0) [.str l0]:=wA
def zmu:zJ 140 11 (EO l0 x0 g0 g1) [.str l0,.bool g0,.bool g1,x0]:=jA
def zje:zJ 140 2 (Ws i0 i1 l0 x0 g0 g1) [.str l0,.bool g0,uZ i0,uZ i1,.bool g1,x0]:=jA
def zjd:zJ 140 6 (Wp l0 x0 x1 g0 g1) [.str l0,.bool g0,x0,.bool g1,x1]:=jA
def LY:zJ 140 10 (Wt i0 i1 i2 i3 i4 l0 x0 x1 g0 g1) [.str l0,.bool g0,x0,uZ i0,.int .u32 i1,.int .u32 i2,uZ i3,uZ i4,.bool g1,x1]:=jA
def w141:zW 141 (t141 x0 x1 g0 g1) [.agg [.bool g0,x0],.agg [.bool g1,x1]]:=wA
def w142:zW 142 (t142 x0 x1 g0 g1) [.agg [.bool g0,x0,.bool g1,x1]]:=wA
def w144:zW 144 (t144 i0 i1 l0 g0) [.str l0,.bool g0,uZ i0,uZ i1]:=wA
def zmt:zJ 144 15 (EN i0 i1 i2) [uZ i0,uZ i1,uZ i2]:=jA
def w145:zW 145 (t145 x0 x1) [x0,x1]:=wA
def Zx:zJ 145 2 (Qe i0 x0 x1) [x0,x1,uZ i0]:=jA
def w151:zW 151 (t151 x0) [x0]:=wA
def w169:zW 169 (t169 i0) [uY i0]:=wA
def w170:zW 170 (t170 i0) [uY i0]:=wA
def w171:zW 171 (t171 x0 x1) [x0,x1]:=wA
def j171_2:zJ 171 2 (zh5 i0 i1 x0 x1 x2 g0) [x0,x1,x2,.bool g0,uZ i0,uZ i1]:=jA
def w172:zW 172 (t172 x0) [x0]:=wA
def w173:zW 173 (t173 i0 x0) [x0,uZ i0]:=wA
def w174:zW 174 (t174 x0) [x0]:=wA
def w175:zW 175 (t175 i0) [uY i0]:=wA
def w176:zW 176 (t176 x0) [x0]:=wA
def zms:zJ 176 37 (EM i0 i1 i5 i6 l0 x0) [x0,uY i0,.str l0,uZ i1,uY i2,.str l1,uZ i3,uZ i4,uZ i5,uZ i6]:=jA
def w180:zW 180 (t180 i0 l0) [.str l0,uY i0]:=wA
def zjc:zJ 180 2 (Wo i0 i1 l0) [.str l0,uY i0,uZ i1]:=jA
def w182:zW 182 (t182 x0 x1 g0 g1) [.agg [.bool g0,x0,.bool g1,x1]]:=wA
def w183:zW 183 (t183 x0 g0) [.agg [.bool g0,x0]]:=wA
def zjb:zJ 183 2 (Wm i0 l0 x0 x1 x2 g0) [.str l0,uZ i0,x0,x1,.bool g0,x2]:=jA
def zmr:zJ 183 29 (EL i0 l0 x0 x1) [.str l0,uZ i0,x0,x1]:=jA
def j183_6:zJ 183 6 (zh4 i0 x0) [x0,.int .u32 i0]:=jA
def LX:zJ 183 10 (Wn i0 i1 l0 x0) [x0,.str l0,uZ i0,uZ i1]:=jA
def w184:zW 184 (t184 x1 g1) [.agg [.bool g0,x0,.bool g1,x1]]:=wA
def w185:zW 185 (t185 l0 l1) [.str l0,.str l1]:=wA
def w186:zW 186 (t186 l0 l1) [.str l0,.str l1]:=wA
def w187:zW 187 (t187 i0) [uZ i0]:=wA
def w188:zW 188 (t188 i0) [uZ i0]:=wA
def w189:zW 189 (t189 i0) [uZ i0]:=wA
def Mz:zJ 189 2 (Wl i0 i1 i2 i3) [uZ i0,uZ i1,uZ i2,uZ i3]:=jA
def w191:zW 191 (t191 x0) [x0]:=wA
def zja:zJ 191 2 (Wk i0 i1 x0 x1) [x0,x1,uZ i0,uZ i1]:=jA
def zi9:zJ 191 6 (Wj i0 i1 i2 i3 i4 l0 x0 x1) [x0,uZ i0,.str l0,x1,uZ i1,uZ i2,uZ i3,uZ i4]:=jA
def w192:zW 192 (t192 i0 i1 i2) [uZ i0,uZ i1,uZ i2]:=wA
def w194:zW 194 (t194 i0 i1 x0) [x0,.int .u32 i0,.int .u32 i1]:=wA
def zi8:zJ 194 2 (Wi i0 i1 i2 i3 x0 x1 x2) [.int .u32 i0,x0,x1,.int .u64 i1,x2,uZ i2,uZ i3]:=jA
def w195:zW 195 (t195 x0 g0) [.bool g0,x0]:=wA
def w196:zW 196 (t196 x0 g0) [.agg [.bool g0,x0]]:=wA
def w197:zW 197 (t197 x0 x1 g0 g1) [.agg [.bool g0,x0],.agg [.bool g1,x1]]:=wA
def j197_7:zJ 197 7 (zh3 x0 x1 g0 g1) [.bool g0,x0,.bool g1,x1,.bool g2,x2,.bool g3,x3]:=jA
def w198:zW 198 (t198 x0 x1 g0 g1) [.agg [.bool g0,x0,.bool g1,x1]]:=wA
def w199:zW 199 (t199 x0 g0) [.agg [.bool g0,x0]]:=wA
def w200:zW 200 (t200 x0 g0) [.agg [.bool g0,x0]]:=wA
def j200_2:zJ 200 2 (zh1 i0 x0) [x0,.int .u16 i0]:=jA
def w225:zW 225 (t225 l0) [.str l0]:=wA
def w226:zW 226 (t226 l0) [.str l0]:=wA
def zi6:zJ 226 2 (Wg i0 l0) [.str l0,uZ i0]:=jA
def w227:zW 227 (t227 l0) [.str l0]:=wA
def w228:zW 228 (t228 l0) [.str l0]:=wA
def zmq:zJ 228 13 (EK i0 l0 l1 l2) [.str l0,.str l1,uZ i0,.str l2]:=jA
def zmp:zJ 228 17 (EJ i0 l0 l1 l2) [.str l0,.str l1,uZ i0,.str l2]:=jA
def w232:zW 232 (t232 x0 x1) [.agg [.bool g0,x0,.bool g1,x1]]:=wA
def w233:zW 233 (t233 x0 g0) [.agg [.bool g0,x0]]:=wA
def w234:zW 234 (t234 x0 x1 g0 g1) [.agg [.bool g0,x0],.agg [.bool g1,x1]]:=wA
def w235:zW 235 (t235 x0) [x0]:=wA
def zi5:zJ 235 2 (We i0 i1 x0 x1) [x0,x1,uZ i0,uZ i1]:=jA
def w236:zW 236 (t236 i0 x0) [x0,.int .u32 i0]:=wA
def zi4:zJ 236 2 (Wd i0 i1 i2 x0 x1) [x0,.int .u32 i0,x1,.int .u32 i1,uZ i2]:=jA
def w237:zW 237 (t237 x0) [x0]:=wA
def w239:zW 239 (t239 l0 l1) [.str l0,.str l1]:=wA
def w240:zW 240 (t240 l0 l1) [.str l0,.str l1]:=wA
def w241:zW 241 (t241 i0 x0) [uZ i0,x0]:=wA
def Zw:zJ 241 2 (t241_2 i0 i1 x0) [x0,uZ i0,uZ i1]:=jA
def w242:zW 242 (t242 i0 x0) [uZ i0,x0]:=wA
def w243:zW 243 (t243 i0) [uZ i0]:=wA
def w244:zW 244 (t244 i0 i1) [uZ i0,uZ i1]:=wA
def w246:zW 246 (t246 x0) [x0]:=wA
def w247:zW 247 (t247 x0) [x0]:=wA
def Zv:zJ 247 2 (Qc x0) [x0]:=jA
def w248:zW 248 (t248 x0 g0) [.bool g0,x0]:=wA
def zi3:zJ 248 2 (Wb i0 i1 x0 x1 x2 g0 g1) [.bool g0,x0,x1,uZ i0,uZ i1,.bool g1,x2]:=jA
def w249:zW 249 (t249 x0 x1 g0 g1) [.agg [.bool g0,x0],.agg [.bool g1,x1]]:=wA
def w250:zW 250 (t250 x0) [x0]:=wA
def w251:zW 251 (t251 x0) [x0]:=wA
def w261:zW 261 (t261 l0) [.str l0]:=wA
def w267:zW 267 (t267 x0 x1 g0 g1) [.agg [.bool g0,x0],.agg [.bool g1,x1]]:=wA
def w268:zW 268 (t268 i0 i1 i2) [.int .u32 i0,.int .u32 i1,.int .u32 i2]:=wA
def j268_7:zJ 268 7 (zh0 i0 i1 i2) [.int .u32 i0,.int .u32 i1,.int .u32 i2]:=jA
def w269:zW 269 (t269 x0 x1) [x0,x1]:=wA
def zi2:zJ 269 2 (Wa i0 x0 x1) [x0,x1,uZ i0]:=jA
def w271:zW 271 (t271 i0) [uZ i0]:=wA
def w276:zW 276 (t276 i0 x0 x1) [.int .u64 i0,x0,x1]:=wA
def w277:zW 277 (t277 x0 x1 g0 g1) [.agg [.bool g0,x0],.agg [.bool g1,x1]]:=wA
def zmo:zJ 277 21 (EI x0 x1 g0 g1) [x0,x1,.bool g0,x2,.bool g1,x3,.bool g2,x4,.bool g3,x5]:=jA
def w278:zW 278 (t278 x0 x1) [x0,x1]:=wA
def zi1:zJ 278 2 (Vz i0 x0 x1) [x0,x1,uZ i0]:=jA
def w288:zW 288 (t288 x0) [x0]:=wA
def zi0:zJ 288 2 (Vy i0 i1 x0) [x0,uZ i0,uZ i1]:=jA
def w289:zW 289 (t289 x0 x1) [x0,x1]:=wA
def j289_2:zJ 289 2 (zhx x0 x1) [x0,x1]:=jA
def zmn:zJ 289 33 (EH x0 x1) [x0,x1]:=jA
def j289_6:zJ 289 6 (zhw i0 i1) [.int .u64 i0,.int .u64 i1]:=jA
def w295:zW 295 (t295 x0 x1) [x0,x1]:=wA
def ziz:zJ 295 2 (Vx i0 i1 i2 x0 x1 x2) [uZ i0,uZ i1,x0,x1,x2,uZ i2]:=jA
def ziy:zJ 295 6 (Vw i0 i1 i2 i3 x0 x1) [uZ i0,uZ i1,x0,x1,uZ i2,uZ i3]:=jA
def w300:zW 300 (t300 x0 x1) [x0,x1]:=wA
def zix:zJ 300 2 (Vu i0 x0 x1) [x0,x1,uZ i0]:=jA
def w301:zW 301 (t301 x0 x1) [x0,x1]:=wA
def j301_2:zJ 301 2 (zhv i0 i1 i2 i3 i4 i5 i6 i7 i8 i9 j0 j1 g0 g1) [.int .u64 i0,.int .u64 i1,.int .u64 i2,.int .u64 i3,.int .u64 i4,.int .u64 i5,.int .u64 i6,.int .u64 i7,.bool g0,.int .u64 i8,.int .u64 i9,.int .u64 j0,.int .u64 j1,.bool g1]:=jA
def w302:zW 302 (t302 i0 i1 x0 x1) [.int .u64 i0,x0,.int .u64 i1,x1]:=wA
def ziw:zJ 302 2 (Vt i0 i1 i2 i3 i4 i5 i6 x0 x1 x2) [.int .u64 i0,x0,.int .u64 i1,x1,x2,.int .u64 i2,.int .u64 i3,.int .u32 i4,uZ i5,uZ i6]:=jA
def zmm:zJ 302 17 (EG i0 i1 i2 i3 i4 i5 i6 i7 x0 x1 x2) [.int .u64 i0,x0,.int .u64 i1,x1,x2,.int .u64 i2,.int .u64 i3,.int .u32 i4,uZ i5,uZ i6,uZ i7]:=jA
def zml:zJ 302 21 (EF i0 i1 i2 i3 i4 i5 i6 i7 x0 x1 x2) [.int .u64 i0,x0,.int .u64 i1,x1,x2,.int .u64 i2,.int .u64 i3,.int .u32 i4,uZ i5,uZ i6,uZ i7]:=jA
def w303:zW 303 (t303 x0) [x0]:=wA
def j303_2:zJ 303 2 (zhu i0 x0) [x0,.int .u32 i0]:=jA
def w304:zW 304 (t304 i0) [.int .u64 i0]:=wA
def w307(h:wp 307 (t307 x0) m Q):Wf 307 [x0] m Q:=zob (bF 307) (by kernel_rfl) (by rw[e307];exact h)
def w308:zW 308 (t308 i0) [.int .u32 i0]:=wA
def w309:zW 309 (t309 i0 x0) [x0,uZ i0]:=wA
def ziv:zJ 309 2 (Vs i0 i1 i2 x0 x1) [uZ i0,x0,x1,uZ i1,uZ i2]:=jA
def w310:zW 310 (t310 x0 x1) [x0,x1]:=wA
def ziu:zJ 310 2 (Vq i0 i1 i2 i3 x0 x1) [x0,x1,uZ i0,.int .u64 i1,.int .u64 i2,.int .u64 i3]:=jA
def zmk:zJ 310 19 (EE i0 i1 x0 x1) [x0,x1,uZ i0,.int .u64 i1]:=jA
def zit:zJ 310 6 (Vp i0 i1 i2 i3 i4 i5 x0 x1 x2) [x0,x1,uZ i0,.int .u64 i1,.int .u64 i2,.int .u64 i3,x2,uZ i4,uZ i5]:=jA
def LW:zJ 310 10 (Vr i0 i1 i2 i3 i4 x0 x1) [x0,uZ i0,.int .u64 i1,.int .u32 i2,x1,uZ i3,uZ i4]:=jA
def w311:zW 311 (t311 i0 i1 i2) [.int .u32 i0,.int .u32 i1,.int .u32 i2]:=wA
def w315:zW 315 (t315 i0 i1 x0) [x0,uZ i0,uZ i1]:=wA
def w316:zW 316 (t316 i0) [.int .u32 i0]:=wA
def ziq:zJ 316 9 (Vm i0 i1) [.int .u32 i0,uZ i1]:=jA
def zmh:zJ 316 15 (EA i0 i1) [.int .u32 i0,uZ i1]:=jA
def w317(h:wp 317 (t317 i0 i1 i2) m Q):Wf 317 [.int .u32 i0,.int .u32 i1,.int .u32 i2] m Q:=zob (bF 317) (by kernel_rfl) (by rw[e317];exact h)
def w320:zW 320 (t320 i0 x0) [uZ i0,x0]:=wA
end Go.Proofs
