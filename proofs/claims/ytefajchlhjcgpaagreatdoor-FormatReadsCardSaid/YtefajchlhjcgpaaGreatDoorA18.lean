/- The trees of functions. (Printed by a tool; the kernel agrees.) -/
import Derived.Test.YtefajchlhjcgpaaGreatDoorA17
set_option linter.all false
noncomputable section
set_option maxRecDepth 100000
namespace Go.Proofs
open Go Go.Am
variable [nC]{m:Tr tA}{Q:mB}
abbrev aK:List zA:=[.int .u8 0,.str [],.bool false,.int .i64 0,.int .i64 0,.int .i64 0,.int .i64 0,.int .i64 0]
abbrev bK:List zA:=[.bool false,.nilslice]
abbrev vU:List zA:=[.int .u8 0,.str [],.int .u8 0,.bool false,.nilslice,.bool false,.nilslice,.int .i64 0,.nilslice]
abbrev sV:List zA:=[.int .i64 0,.int .i64 0]
abbrev Fw:List zA:=[.int .u8 0,.int .u8 0,.int .u8 0,.int .u8 0,.int .u8 0,.int .u8 0,.int .u8 0,.int .u8 0,.int .u8 0,.int .u8 0]
abbrev zz5z:List zA:=[.bool false,.nilslice,.bool false,.nilslice]
abbrev zz6z:List zA:=[.str [],.str [],.int .i64 0,.int .i64 0,.int .i64 0,.bool false,.int .u8 0,.str [],.int .u8 0,.bool false,.nilslice,.bool false,.nilslice,.int .i64 0,.nilslice,.int .u8 0,.str [],.int .u8 0,.bool false,.nilslice,.bool false,.nilslice,.int .i64 0,.nilslice]
abbrev zz7z:List zA:=[.str [],.nilslice,.nilslice,.nilslice]
abbrev zz8z:List zA:=[.str [],.int .u8 0,.bool false]
abbrev zz9z:List zA:=[.str [],.bool false,.nilslice]
abbrev Iv:List zA:=[.int .u8 0,.str [],.int .i64 0,.int .i64 0]
abbrev zz11z:List zA:=[.int .i64 0,.int .i64 0,.int .i64 0,.bool false,.nilslice,.bool false,.nilslice]
abbrev Rb:List zA:=[.int .u8 0,.bool false,.nilslice,.bool false,.nilslice,.int .i64 0]
abbrev zW(f:Nat)(T:T)(x:List zA):Prop:=∀ {m Q},wp f T m Q->Wf f x m Q
abbrev zJ(f i:Nat)(T:T)(x:List zA):Prop:=∀ {m Q},wp f T m Q->jp f i x m Q
def wA{f:Nat}{x:List zA}{T:T}(h1:okB f=true:=by kernel_rfl)(h2:(Nat.ble (yB x) (ko f)&&Nat.ble (yB x) (fo f).ntmps)=true:=by kernel_rfl)(h3:entT yA (fo f) (ko f) f (ao f) x=T:=by kernel_rfl):zW f T x:=fun k=>zq0 (sG f h1) h2 (by rw[h3];exact k)
def jA{f i:Nat}{x:List zA}{T:T}(h1:okB f=true:=by kernel_rfl)(h2:Gy (ptsT yA (fo f) (ko f) f (ao f)) i x=[T]:=by kernel_rfl):zJ f i T x:=fun k=>Jq_of1 (sG f h1) h2 k
def uI (k:Int->T)(a:zA):T:=.asI .i64 a k
def uU (k:Int->T)(a:zA):T:=.asI .u8 a k
def uL (k:Int->T)(a:zA):T:=.asI .u32 a k
def uE (k:Int->T)(a:zA):T:=.asI .u64 a k
def uH (k:Int->T)(a:zA):T:=.asI .u16 a k
def uB (k:Bool->T)(a:zA):T:=.asB a k
def uS (k:List Nat->T)(a:zA):T:=.asS a k
def uG (z:List zA)(k:sI->T)(a:zA):T:=.asG z a k
def jB (l:List zA):Bool:=sD zA.one l
abbrev kC(i:Int):zA:=.int .i64 (fA .i64 (i+1))
def wC:T:=.ret (.bool false)
def yI:T:=.ret (.bool true)
def sC (v:zA):Option zA:=Dl v
def uX (n:Nat)(v:zA):Option zA:=aI n v
abbrev uZ(n:Int):zA:=.int .i64 n
abbrev uY(n:Int):zA:=.int .u8 n
abbrev uW(n:Int):Int:=fA .i64 n
def rH (X:sI):List zA:=[.bool (X.b 0),X.v 1]
def gH (X:sI):zA:=.agg [.bool (X.b 0),X.v 1]
def lF (X:sI):List zA:=[.int .u8 (X.i 0),.str (X.s 1),.int .u8 (X.i 2),.bool (X.b 3),X.v 4,.bool (X.b 5),X.v 6,.int .i64 (X.i 7),X.v 8]
def nE (X:sI):zA:=.agg [.int .u8 (X.i 0),.str (X.s 1),.int .u8 (X.i 2),.bool (X.b 3),X.v 4,.bool (X.b 5),X.v 6,.int .i64 (X.i 7),X.v 8]
def uM2 (X:sI):List zA:=[.bool (X.b 0),X.v 1,.bool (X.b 2),X.v 3]
def uA2 (X:sI):zA:=.agg [.bool (X.b 0),X.v 1,.bool (X.b 2),X.v 3]
def uA4 (X:sI):zA:=.agg [.int .i64 (X.i 0),.int .i64 (X.i 1)]
def uA6 (X:sI):zA:=.agg [.int .u8 (X.i 0),.int .u8 (X.i 1),.int .u8 (X.i 2),.int .u8 (X.i 3),.int .u8 (X.i 4),.int .u8 (X.i 5),.int .u8 (X.i 6),.int .u8 (X.i 7),.int .u8 (X.i 8),.int .u8 (X.i 9)]
def dP (X:sI):List zA:=[.int .u8 (X.i 0),.bool (X.b 1),X.v 2,.bool (X.b 3),X.v 4,.int .i64 (X.i 5)]
def uA9 (X:sI):zA:=.agg [.int .u8 (X.i 0),.bool (X.b 1),X.v 2,.bool (X.b 3),X.v 4,.int .i64 (X.i 5)]
def uA11 (X:sI):zA:=.agg [.int .u8 (X.i 0),.str (X.s 1),.int .i64 (X.i 2),.int .i64 (X.i 3)]
def uQ1 (i1:Int)(g0:Bool)(x1:zA)(g1:Bool)(x2:zA)(i2:Int)(i0:Int)(i3:Int)(x0:zA)(l0:List Nat)(x3:zA):T :=.ite (jB [uY i1,.bool g0,x1,.bool g1,x2,uZ i2]) (.ite (lB i0 1) (.call 34 [.agg [uY i1,.bool g0,x1,.bool g1,x2,uZ i2]]<|uB fun b=>.ret (.bool b)) (.ite (lB i0 19) (.ite (fB i2 1) wC (.ite (fB 6 i2) wC (.ite true (.jump 33 [uZ i3,x0,uY i0,.str l0,uY i1,.bool g0,x1,.bool g1,x2,uZ i2,x3,uY i1,.bool g0,x1,.bool g1,x2,uZ 0]) .fail))) (.jump 33 [uZ i3,x0,uY i0,.str l0,uY i1,.bool g0,x1,.bool g1,x2,uZ i2,x3,uY i1,.bool g0,x1,.bool g1,x2,uZ i2]))) .fail
def uQ2 (n13:Int)(x0:zA)(X:sI):T :=.call 169 [uY n13]<|uB fun b=>.ite b (.call 174 [x0]<|uS fun s=>.call 228 [.str s] fun a=>.opt (uX 0 a)<|uS fun s=>.opt (uX 1 a)<|uI fun n=>.jump 37 [x0,uY 2,.str s,uZ n,uY 0,.str [],uZ 0,uZ 0,uZ (X.i 0),uZ (X.i 1)]) (.call 229 [.str [40,41,44,43,45,42,47,60,61],uY n13]<|uI fun n=>.ite (gE 0 n) (.call 174 [x0]<|uS fun s=>.opt (vF yA 9 kL (.str s) none (some (uZ 1)))<|uS fun s=>.jump 37 [x0,uY 4,.str s,uZ 0,uY 0,.str [],uZ 0,uZ 0,uZ (X.i 0),uZ (X.i 1)]) (.jump 37 [x0,uY 0,.str [],uZ 110,uY 0,.str [],uZ 0,uZ 0,uZ (X.i 0),uZ (X.i 1)]))
def uQ3 (i0:Int)(g0:Bool)(x0:zA)(g1:Bool)(x1:zA)(i1:Int):T :=.ite (lB i0 1) (.call 70 [.agg [.bool g0,x0,.bool g1,x1]]<|uB fun b=>.ite b (.ite (lB i1 0) yI (.ret (.bool (lB i1 1)))) wC) (.ite (lB i0 4) (.call 70 [.agg [.bool g0,x0,.bool g1,x1]]<|uB fun b=>.ite b (.call 71 [uZ i1]<|uB fun b=>.ret (.bool b)) wC) (.ite (lB i0 5) (.ite (lB i0 5) (.call 70 [.agg [.bool g0,x0,.bool g1,x1]]<|uB fun b=>.ite b (.ite (gE (-1048576) i1) (.ret (.bool (gE i1 1048576))) wC) wC) wC) (.ite (lB i0 6) (.call 70 [.agg [.bool g0,x0,.bool g1,x1]]<|uB fun b=>.ite b (.ite (gE (-1048576) i1) (.ret (.bool (gE i1 1048576))) wC) wC) wC)))
def uQ5  : T :=.ite true (.ite true (.ret (.tup [.agg [.bool false,.nilslice],uZ 10])) .fail) .fail
def uQ6 (l0:List Nat):T :=.opt (vF yA 9 kL (.str l0) none (some (uZ 10)))<|uS fun s=>.call 138 [.str s] fun a=>.opt (uX 0 a)<|uI fun n=>.opt (uX 1 a)<|uI fun n=>.ite (!lB n 0) (.ret (.tup [.str [],uZ 113])) (.opt (vF yA 9 kL (.str l0) none (some (uZ 10)))<|uS fun s=>.ret (.tup [.str s,uZ 0]))
def uQ7 (X:sI)(l0:List Nat)(x0:zA):T :=.ite (qF (X.s 1) l0) (.opt (sC x0) fun a=>.opt (tC yA 141 1 a) fun a=>.light (fun m=>cA yA 3 ⟨0,m⟩ a)<|uI fun n=>.opt (sC x0) fun a=>.opt (tC yA 141 1 a) fun a=>.heavy (mC yA 3 a (kC n)) fun _=>.ret (.bool (qF (X.s 1) l0))) (.ret (.bool (qF (X.s 1) l0)))
def uQ10  : T :=.ite true (.ite true (.ret (.tup [.agg [.bool false,.nilslice,.bool false,.nilslice],uZ 2])) .fail) .fail
def uQ11 (l1:List Nat)(l2:List Nat)(l0:List Nat)(i0:Int):T :=.call 261 [.str l1]<|uB fun b=>.ite b (.ret (.tup [.str [],uZ 112])) (.call 261 [.str l2]<|uB fun b=>.ite b (.ret (.tup [.str [],uZ 112])) (.ite (qF l2 [48]) (.ret (.tup [.str [],uZ 112])) (.opt (vF yA 9 kL (.str l0) none (some (uZ i0)))<|uS fun s=>.ret (.tup [.str s,uZ 0]))))
def uQ13 (i3:Int)(i1:Int)(x0:zA)(x1:zA)(i0:Int)(i2:Int):T :=.ite (gE 4294967296 (fA .u64 (i3+i1))) (.jump 19 [x0,x1,uZ i0,(.int .u64 (fA .u64 (i2-1)))]) (.jump 2 [x0,x1,uZ i0,.int .u64 i1,(.int .u64 (fA .u64 (i2-1))),(.int .u64 (fA .u64 (i3+i1)))])
def uQ14 (g0:Bool)(x0:zA)(g1:Bool)(x1:zA):T :=.call 69 [.agg [.bool g0,x0,.bool g1,x1]]<|uB fun b=>.ret (.bool b)
def uQ15 (x0:zA)(s:List Nat):T :=.light (fun m=>cA yA 96 ⟨0,m⟩ x0) fun a=>.heavy (sH yA 96 9 a (.str s)) fun a=>.heavy (mC yA 96 x0 a) fun _=>.ret (.bool true)
def uQ16 (i1:Int):T :=.opt (uC yA 304 (.ptr 3 0) (uZ (uW (i1-1)))) fun a=>.light (fun m=>cA yA 3 ⟨0,m⟩ a)<|uI fun n=>.ret (uZ n)
def uQ17 (x0:zA):T :=.opt (uC yA 22 x0 (uZ 0)) fun a=>.light (fun m=>cA yA 261 ⟨0,m⟩ a)<|uH fun n=>.ret (.bool (lB n 1))
def uQ18  : T :=.ite true (.ite true (.ret (.tup [.agg [.bool false,.nilslice],uZ 3])) .fail) .fail
def uQ19 (l0:List Nat)(i0:Int):T :=.opt (rI yA 9 (.str l0) (uZ i0))<|uU fun n=>.ite (!lB n 45) wC (.jump 2 [.str l0,(kC i0)])
variable (i0 i1 i2 i3 i4 i5 i6 i7 i8 i9 j0 j1 j2 j3 j4 j5 j6 j7:Int)(l0 l1 l2 l3 l4 l5 l6 l7:List Nat)(x0 x1 x2 x3 x4 x5 x6 x7 x8 x9 y0 y1:zA)(g0 g1 g2 g3 g4 g5 g6 g7 g8 g9:Bool)
def t4:T:=.call 7 []<|uB fun b=>.ite (!b) wC (.call 8 [.agg [uY i0,.str l0,uY i1,.bool g0,x0,.bool g1,x1,uZ i2,x2],uZ 400]<|uI fun n=>.ite (fB 400 n) yI (.call 9 [.agg [uY i0,.str l0,uY i1,.bool g0,x0,.bool g1,x1,uZ i2,x2]] fun a=>.opt (uX 0 a)<|uS fun s6=>.opt (uX 1 a)<|uI fun n8=>.call 13 [.agg [uY i1,.bool g0,x0,.bool g1,x1,uZ i2]] fun a=>.opt (uX 0 a)<|uS fun s=>.opt (uX 1 a)<|uI fun n13=>.ite (lB n8 0) (.call 11 [.str s6] fun a=>.opt (uX 0 a)<|uG vU fun X16=>.opt (uX 1 a)<|uG sV fun X=>.opt (uX 2 a)<|uI fun n=>.ite (jB (lF X16)) (.ite true (.ite (!lB n 0) wC (.call 12 [.agg [uY i0,.str l0,uY i1,.bool g0,x0,.bool g1,x1,uZ i2,x2],(nE X16)]<|uB fun b=>.ite (!b) wC (.jump 27 [uZ n8,.str s,uZ n13,uY i0,.str l0,uY i1,.bool g0,x0,.bool g1,x1,uZ i2,x2]))) .fail) .fail) (.ite (!qF s6 []) wC (.ite (!lB n8 2) (.ite (!lB n8 3) wC (.jump 27 [uZ n8,.str s,uZ n13,uY i0,.str l0,uY i1,.bool g0,x0,.bool g1,x1,uZ i2,x2])) (.jump 27 [uZ n8,.str s,uZ n13,uY i0,.str l0,uY i1,.bool g0,x0,.bool g1,x1,uZ i2,x2])))))
def t4_27:T:=.ite (!lB i1 0) (.ite (lB i1 2) (.ite (qF l0 []) (.ite (!lB i2 1) yI (.ret (.bool (lB i0 2)))) wC) wC) (.call 14 [.str l0] fun a=>.opt (uX 0 a)<|uG Rb fun X2=>.opt (uX 1 a)<|uG sV fun X=>.opt (uX 2 a)<|uI fun n=>.ite (jB (dP X2)) (.ite true (.ite (lB n 0) (.call 15 [(uA9 X2),.agg [uY i3,.bool g0,x0,.bool g1,x1,uZ i4]]<|uB fun b=>.ret (.bool b)) wC) .fail) .fail)
def t8:T:=.call 25 [.agg [.bool g0,x0,.bool g1,x1]]<|uI fun n=>.ite (same 10 (.str l0) (.str l0)) (.ite (same 10 (uZ (Int.ofNat (yB l0))) (uZ (Int.ofNat (yB l0)))) (.jump 2 [uZ i3,(uZ (uW (n+(uW (Int.tdiv (Int.ofNat (yB l0)) 30))))),uZ 0,uY i0,.str l0,uY i1,.bool g0,x0,.bool g1,x1,uZ i2,x2]) .fail) .fail
def t8_2:T:=.opt (pC x2)<|uI fun n=>.ite (fB i2 n) (.ite (gE i1 i0) (.opt (uC yA 29 x2 (uZ i2)) fun a=>.light (fun m=>cA yA 31 ⟨0,m⟩ a)<|uG vU fun X=>.call 8 [(nE X),(uZ (uW (i0-i1)))]<|uI fun n=>.jump 2 [uZ i0,(uZ (uW (i1+n))),(kC i2),uY i3,.str l0,uY i4,.bool g0,x0,.bool g1,x1,uZ i5,x2]) (.ret (uZ i1))) (.ret (uZ i1))
def t9:T:=.call 26 []<|uG [.nilptr] fun X=>.ite (same 10 (.agg [uY i0,.str l0,uY i1,.bool g0,x0,.bool g1,x1,uZ i2,x2]) (.agg [uY i0,.str l0,uY i1,.bool g0,x0,.bool g1,x1,uZ i2,x2])) (.call 27 [(.agg [X.v 0]),.agg [uY i0,.str l0,uY i1,.bool g0,x0,.bool g1,x1,uZ i2,x2],uZ 1]<|uB fun b=>.ite (!b) (.ret (.tup [.str [],uZ 2])) (.call 28 [.agg [uY i0,.str l0,uY i1,.bool g0,x0,.bool g1,x1,uZ i2,x2]]<|uS fun s=>.ite (fB 65536 (Int.ofNat (yB s))) (.ret (.tup [.str [],uZ 3])) (.ret (.tup [.str s,uZ 0])))) .fail
def t11:T:=.call 29 [.str l0,(.func (.func 30) [] [])] fun a=>.opt (uX 0 a)<|uG vU fun X2=>.opt (uX 1 a)<|uG sV fun X=>.opt (uX 2 a)<|uI fun n=>.ite (jB (lF X2)) (.ite true (.ret (.tup [(nE X2),(uA4 X),uZ n])) .fail) .fail
def t12:T:=.ite (lB i0 i3) (.ite (qF l0 l1) (.call 15 [.agg [uY i1,.bool g0,x0,.bool g1,x1,uZ i2],.agg [uY i4,.bool g2,x3,.bool g3,x4,uZ i5]]<|uB fun b=>.ite b (.call 33 [x2,x5]<|uB fun b=>.ret (.bool b)) wC) wC) wC
def t13:T:=.call 34 [.agg [uY i0,.bool g0,x0,.bool g1,x1,uZ i1]]<|uB fun b=>.ite (!b) (.ret (.tup [.str [],uZ 2])) (.call 35 [.agg [uY i0,.bool g0,x0,.bool g1,x1,uZ i1]]<|uS fun s=>.ret (.tup [.str s,uZ 0]))
def t14:T:=.call 36 [.str l0,(.func (.func 37) [] [])] fun a=>.opt (uX 0 a)<|uG Rb fun X2=>.opt (uX 1 a)<|uG sV fun X=>.opt (uX 2 a)<|uI fun n=>.ite (jB (dP X2)) (.ite true (.ret (.tup [(uA9 X2),(uA4 X),uZ n])) .fail) .fail
def t15:T:=.ite (lB i0 i2) (.call 40 [.agg [.bool g0,x0,.bool g1,x1],.agg [.bool g2,x2,.bool g3,x3]]<|uB fun b=>.ite b (.ret (.bool (lB i1 i3))) wC) wC
def t25:T:=.opt (pC x0)<|uI fun n1=>.opt (pC x1)<|uI fun n=>.ret (uZ (uW ((uW (1+n1))+n)))
def t26:T:=.call 59 [] fun a=>.ite (jB [a]) (.ite (jB [a]) (.ret (.agg [a])) .fail) .fail
def t27:T:=.ite (fB 24 i3) wC (.ite (gE 27 (uW i0)) wC (.opt (sC x0) fun a=>.opt (uC yA 191 a (uY i0)) fun a1=>.opt (sC a1) fun a=>.opt (tC yA 131 0 a) fun a=>.light (fun m=>cA yA 5 ⟨0,m⟩ a)<|uU fun n=>.ite (lB n 0) wC (.opt (pC x3)<|uI fun n7=>.opt (sC a1) fun a=>.opt (tC yA 131 3 a) fun a=>.light (fun m=>cA yA 3 ⟨0,m⟩ a)<|uI fun n=>.ite (fB n7 n) wC (.opt (pC x3)<|uI fun n13=>.opt (sC a1) fun a=>.opt (tC yA 131 4 a) fun a=>.light (fun m=>cA yA 3 ⟨0,m⟩ a)<|uI fun n=>.ite (fB n n13) wC (.opt (sC a1) fun a=>.opt (tC yA 131 2 a) fun a=>.light (fun m=>cA yA 4 ⟨0,m⟩ a)<|uB fun b=>.ite b (.call 60 [.str l0]<|uB fun b=>.ite (!b) wC (.opt (sC a1) fun a=>.opt (tC yA 131 2 a) fun a=>.light (fun m=>cA yA 4 ⟨0,m⟩ a)<|uB fun b=>.ite (!b) (.ite (!qF l0 []) wC (uQ1 i1 g0 x1 g1 x2 i2 i0 i3 x0 l0 x3)) (uQ1 i1 g0 x1 g1 x2 i2 i0 i3 x0 l0 x3))) (.opt (sC a1) fun a=>.opt (tC yA 131 2 a) fun a=>.light (fun m=>cA yA 4 ⟨0,m⟩ a)<|uB fun b=>.ite (!b) (.ite (!qF l0 []) wC (uQ1 i1 g0 x1 g1 x2 i2 i0 i3 x0 l0 x3)) (uQ1 i1 g0 x1 g1 x2 i2 i0 i3 x0 l0 x3)))))))
def zkw:T:=.call 61 [.agg [uY i4,.bool g2,x4,.bool g3,x5,uZ i5]]<|uB fun b=>.ite (!b) wC (.opt (pC x3)<|uI fun n=>.jump 4 [uZ i0,x3,uZ n,uZ 0,x0])
def zn4:T:=.ite (fB i2 i1) (.opt (uC yA 29 x0 (uZ i2)) fun a=>.light (fun m=>cA yA 31 ⟨0,m⟩ a)<|uG vU fun X=>.ite (jB (lF X)) (.call 27 [.agg [x1],(nE X),(kC i0)]<|uB fun b=>.ite (!b) wC (.jump 4 [uZ i0,x0,uZ i1,(kC i2),x1])) .fail) yI
def t28:T:=.call 59 [] fun a=>.ite (jB [a]) (.heavy (Jg yA 134 (.agg [.nilptr,.nilslice,a])) fun a1=>.call 62 [a1,.agg [uY i0,.str l0,uY i1,.bool g0,x0,.bool g1,x1,uZ i2,x2]] fun a=>.opt (sC a1) fun a=>.opt (tC yA 134 0 a) fun a=>.call 44 [a]<|uS fun s=>.ret (.str s)) .fail
def t33:T:=.opt (pC x0)<|uI fun n1=>.opt (pC x1)<|uI fun n=>.ite (!lB n1 n) wC (.jump 2 [x0,x1,uZ 0])
def t33_2:T:=.opt (pC x0)<|uI fun n=>.ite (fB i0 n) (.opt (uC yA 29 x0 (uZ i0)) fun a=>.light (fun m=>cA yA 31 ⟨0,m⟩ a)<|uG vU fun X4=>.opt (uC yA 29 x1 (uZ i0)) fun a=>.light (fun m=>cA yA 31 ⟨0,m⟩ a)<|uG vU fun X=>.call 12 [(nE X4),(nE X)]<|uB fun b=>.ite (!b) wC (.jump 2 [x0,x1,(kC i0)])) yI
def t34:T:=.ite (lB i0 2) (.ite (lB i0 2) (.ite (lB i1 0) (uQ14 g0 x0 g1 x1) wC) (uQ3 i0 g0 x0 g1 x1 i1)) (.ite (lB i0 3) (.ite (lB i1 0) (uQ14 g0 x0 g1 x1) wC) (uQ3 i0 g0 x0 g1 x1 i1))
def t35:T:=.ite (lB i0 1) (.call 72 [(.bool (lB i1 1))]<|uS fun s=>.ret (.str s)) (.ite (lB i0 2) (.call 73 [.agg [.bool g0,x0,.bool g1,x1]]<|uS fun s=>.ret (.str s)) (.ite (lB i0 3) (.call 73 [.agg [.bool g0,x0,.bool g1,x1]]<|uS fun s=>.opt (jN [109,111,110,101,121,32] s)<|uS fun s=>.ret (.str s)) (.ite (lB i0 4) (.call 74 [uZ i1]<|uS fun s=>.ret (.str s)) (.ite (lB i0 5) (.call 75 [uZ i1]<|uS fun s=>.opt (jN s [32,100,97,121,115])<|uS fun s=>.ret (.str s)) (.ite (lB i0 6) (.call 75 [uZ i1]<|uS fun s=>.opt (jN s [32,109,111,110,116,104,115])<|uS fun s=>.ret (.str s)) (.ret (.str [])))))))
def t40:T:=.call 82 [.agg [.bool g0,x0],.agg [.bool g2,x2]]<|uB fun b=>.ite b (.call 82 [.agg [.bool g1,x1],.agg [.bool g3,x3]]<|uB fun b=>.ret (.bool b)) wC
def t42:T:=.call 87 [x0] fun a=>.opt (sC x0) fun a=>.opt (tC yA 98 1 a) fun a=>.light (fun m=>cA yA 96 ⟨0,m⟩ a) fun a=>.heavy (sH yA 96 9 a (.str l0)) fun a4=>.opt (sC x0) fun a=>.opt (tC yA 98 1 a) fun a=>.heavy (mC yA 96 a a4) fun _=>.ret (.tup [(uZ (Int.ofNat (yB l0))),.niliface])
def t43:T:=.opt (sC x0) fun a=>.opt (tC yA 98 1 a) fun a=>.light (fun m=>cA yA 96 ⟨0,m⟩ a) fun a=>.opt (pC a)<|uI fun n=>.ret (uZ n)
def t59:T:=.ite true (.ite true (.callv (.func (.func 117) [] []) [.str [102,97,99,116,32]]<|uG aK fun X1=>.callv (.func (.func 117) [] []) [.str [104,97,115,32]]<|uG aK fun X3=>.callv (.func (.func 117) [] []) [.str []]<|uG aK fun X5=>.callv (.func (.func 116) [] []) [.str [108,111,111,107],.bool true,uZ 1,uZ 2]<|uG aK fun X7=>.callv (.func (.func 118) [] []) [.str [43],uZ 5,uZ 5,uZ 6]<|uG aK fun X9=>.callv (.func (.func 118) [] []) [.str [45],uZ 5,uZ 5,uZ 6]<|uG aK fun X11=>.callv (.func (.func 118) [] []) [.str [42],uZ 6,uZ 6,uZ 7]<|uG aK fun X13=>.callv (.func (.func 118) [] []) [.str [47],uZ 6,uZ 6,uZ 7]<|uG aK fun X15=>.callv (.func (.func 116) [] []) [.str [109,105,110],.bool false,uZ 2,uZ 2]<|uG aK fun X17=>.callv (.func (.func 116) [] []) [.str [109,97,120],.bool false,uZ 2,uZ 2]<|uG aK fun X19=>.callv (.func (.func 118) [] []) [.str [60],uZ 4,uZ 5,uZ 5]<|uG aK fun X21=>.callv (.func (.func 118) [] []) [.str [61],uZ 4,uZ 5,uZ 5]<|uG aK fun X23=>.callv (.func (.func 118) [] []) [.str [97,110,100],uZ 2,uZ 2,uZ 3]<|uG aK fun X25=>.callv (.func (.func 118) [] []) [.str [111,114],uZ 1,uZ 1,uZ 2]<|uG aK fun X27=>.ite true (.callv (.func (.func 116) [] []) [.str [105,102],.bool false,uZ 3,uZ 3]<|uG aK fun X29=>.callv (.func (.func 116) [] []) [.str [114,111,117,110,100],.bool false,uZ 2,uZ 2]<|uG aK fun X31=>.callv (.func (.func 116) [] []) [.str [98,101,116,119,101,101,110],.bool false,uZ 2,uZ 2]<|uG aK fun X33=>.callv (.func (.func 116) [] []) [.str [115,101,114,118,105,99,101],.bool true,uZ 2,uZ 2]<|uG aK fun X35=>.callv (.func (.func 116) [] []) [.str [98,101,115,116],.bool true,uZ 3,uZ 3]<|uG aK fun X37=>.callv (.func (.func 116) [] []) [.str [103,114,111,119],.bool true,uZ 2,uZ 2]<|uG aK fun X39=>.callv (.func (.func 116) [] []) [.str [109,111,110,116,104,115],.bool false,uZ 1,uZ 1]<|uG aK fun X41=>.callv (.func (.func 116) [] []) [.str [110,117,109,98,101,114],.bool false,uZ 1,uZ 1]<|uG aK fun X43=>.callv (.func (.func 116) [] []) [.str [115,116,97,114,116],.bool false,uZ 1,uZ 1]<|uG aK fun X=>.ite true (.heavy (jL (.agg [uY 0,.str [],.bool false,uZ 0,uZ 0,uZ 0,uZ 0,uZ 0,uY 1,.str [],.bool false,uZ 0,uZ 0,uZ 7,uZ 0,uZ 0,uY 2,.str [116,111,100,97,121],.bool false,uZ 0,uZ 0,uZ 7,uZ 0,uZ 0,uY (X1.i 0),.str (X1.s 1),.bool (X1.b 2),uZ (X1.i 3),uZ (X1.i 4),uZ (X1.i 5),uZ (X1.i 6),uZ (X1.i 7),uY (X3.i 0),.str (X3.s 1),.bool (X3.b 2),uZ (X3.i 3),uZ (X3.i 4),uZ (X3.i 5),uZ (X3.i 6),uZ (X3.i 7),uY (X5.i 0),.str (X5.s 1),.bool (X5.b 2),uZ (X5.i 3),uZ (X5.i 4),uZ (X5.i 5),uZ (X5.i 6),uZ (X5.i 7),uY (X7.i 0),.str (X7.s 1),.bool (X7.b 2),uZ (X7.i 3),uZ (X7.i 4),uZ (X7.i 5),uZ (X7.i 6),uZ (X7.i 7),uY (X9.i 0),.str (X9.s 1),.bool (X9.b 2),uZ (X9.i 3),uZ (X9.i 4),uZ (X9.i 5),uZ (X9.i 6),uZ (X9.i 7),uY (X11.i 0),.str (X11.s 1),.bool (X11.b 2),uZ (X11.i 3),uZ (X11.i 4),uZ (X11.i 5),uZ (X11.i 6),uZ (X11.i 7),uY (X13.i 0),.str (X13.s 1),.bool (X13.b 2),uZ (X13.i 3),uZ (X13.i 4),uZ (X13.i 5),uZ (X13.i 6),uZ (X13.i 7),uY (X15.i 0),.str (X15.s 1),.bool (X15.b 2),uZ (X15.i 3),uZ (X15.i 4),uZ (X15.i 5),uZ (X15.i 6),uZ (X15.i 7),uY (X17.i 0),.str (X17.s 1),.bool (X17.b 2),uZ (X17.i 3),uZ (X17.i 4),uZ (X17.i 5),uZ (X17.i 6),uZ (X17.i 7),uY (X19.i 0),.str (X19.s 1),.bool (X19.b 2),uZ (X19.i 3),uZ (X19.i 4),uZ (X19.i 5),uZ (X19.i 6),uZ (X19.i 7),uY (X21.i 0),.str (X21.s 1),.bool (X21.b 2),uZ (X21.i 3),uZ (X21.i 4),uZ (X21.i 5),uZ (X21.i 6),uZ (X21.i 7),uY (X23.i 0),.str (X23.s 1),.bool (X23.b 2),uZ (X23.i 3),uZ (X23.i 4),uZ (X23.i 5),uZ (X23.i 6),uZ (X23.i 7),uY (X25.i 0),.str (X25.s 1),.bool (X25.b 2),uZ (X25.i 3),uZ (X25.i 4),uZ (X25.i 5),uZ (X25.i 6),uZ (X25.i 7),uY (X27.i 0),.str (X27.s 1),.bool (X27.b 2),uZ (X27.i 3),uZ (X27.i 4),uZ (X27.i 5),uZ (X27.i 6),uZ (X27.i 7),uY 5,.str [110,111,116,32],.bool false,uZ 1,uZ 1,uZ 3,uZ 3,uZ 3,uY (X29.i 0),.str (X29.s 1),.bool (X29.b 2),uZ (X29.i 3),uZ (X29.i 4),uZ (X29.i 5),uZ (X29.i 6),uZ (X29.i 7),uY (X31.i 0),.str (X31.s 1),.bool (X31.b 2),uZ (X31.i 3),uZ (X31.i 4),uZ (X31.i 5),uZ (X31.i 6),uZ (X31.i 7),uY (X33.i 0),.str (X33.s 1),.bool (X33.b 2),uZ (X33.i 3),uZ (X33.i 4),uZ (X33.i 5),uZ (X33.i 6),uZ (X33.i 7),uY (X35.i 0),.str (X35.s 1),.bool (X35.b 2),uZ (X35.i 3),uZ (X35.i 4),uZ (X35.i 5),uZ (X35.i 6),uZ (X35.i 7),uY (X37.i 0),.str (X37.s 1),.bool (X37.b 2),uZ (X37.i 3),uZ (X37.i 4),uZ (X37.i 5),uZ (X37.i 6),uZ (X37.i 7),uY (X39.i 0),.str (X39.s 1),.bool (X39.b 2),uZ (X39.i 3),uZ (X39.i 4),uZ (X39.i 5),uZ (X39.i 6),uZ (X39.i 7),uY (X41.i 0),.str (X41.s 1),.bool (X41.b 2),uZ (X41.i 3),uZ (X41.i 4),uZ (X41.i 5),uZ (X41.i 6),uZ (X41.i 7),uY (X43.i 0),.str (X43.s 1),.bool (X43.b 2),uZ (X43.i 3),uZ (X43.i 4),uZ (X43.i 5),uZ (X43.i 6),uZ (X43.i 7),uY (X.i 0),.str (X.s 1),.bool (X.b 2),uZ (X.i 3),uZ (X.i 4),uZ (X.i 5),uZ (X.i 6),uZ (X.i 7)])) fun a=>.ret a) .fail) .fail) .fail) .fail
def t60:T:=.ite (qF l0 []) wC (.ite (fB 24 (Int.ofNat (yB l0))) wC (.opt (rI yA 9 (.str l0) (uZ 0))<|uU fun n=>.call 119 [uY n]<|uB fun b=>.ite (!b) wC (.call 120 [.str l0,(.func (.func 121) [] [])]<|uS fun s=>.ite (qF s l0) (.call 122 [.str l0]<|uB fun b=>.ret (.bool (!b))) wC)))
def t61:T:=.ite (lB i0 0) (.ite (lB i1 0) (.call 70 [.agg [.bool g0,x0,.bool g1,x1]]<|uB fun b=>.ret (.bool b)) wC) wC
def t62:T:=.opt (sC x0) fun a=>.opt (tC yA 134 0 a) fun a=>.call 43 [a]<|uI fun n=>.ite (fB 65536 n) (.ret (.tup [])) (.opt (sC x0) fun a=>.opt (tC yA 134 1 a) fun a=>.light (fun m=>cA yA 69 ⟨0,m⟩ a) fun a=>.opt (sC a) fun a=>.opt (uC yA 191 a (uY i0)) fun a8=>.opt (sC a8) fun a=>.opt (tC yA 131 0 a) fun a=>.light (fun m=>cA yA 5 ⟨0,m⟩ a)<|uU fun n12=>.ite (lB n12 1) (.opt (sC x0) fun a=>.opt (tC yA 134 0 a) fun a=>.call 35 [.agg [uY i1,.bool g0,x1,.bool g1,x2,uZ i2]]<|uS fun s=>.call 42 [a,.str s] fun a=>.ret (.tup [])) (.ite (lB n12 2) (.opt (sC x0) fun a=>.opt (tC yA 134 0 a) fun a19=>.opt (sC a8) fun a=>.opt (tC yA 131 1 a) fun a=>.light (fun m=>cA yA 9 ⟨0,m⟩ a)<|uS fun s=>.call 42 [a19,.str s] fun a=>.ret (.tup [])) (.ite (lB n12 3) (.opt (sC x0) fun a=>.opt (tC yA 134 0 a) fun a26=>.opt (sC a8) fun a=>.opt (tC yA 131 1 a) fun a=>.light (fun m=>cA yA 9 ⟨0,m⟩ a)<|uS fun s=>.opt (jN s l0)<|uS fun s=>.opt (jN s [32,97,116,32])<|uS fun s=>.call 42 [a26,.str s] fun a=>.opt (uC yA 29 x3 (uZ 0)) fun a=>.light (fun m=>cA yA 31 ⟨0,m⟩ a)<|uG vU fun X=>.opt (sC a8) fun a=>.opt (tC yA 131 6 a) fun a=>.light (fun m=>cA yA 3 ⟨0,m⟩ a)<|uI fun n=>.call 123 [x0,(nE X),uZ n] fun a=>.ret (.tup [])) (.ite (lB n12 4) (.opt (uC yA 29 x3 (uZ 0)) fun a=>.light (fun m=>cA yA 31 ⟨0,m⟩ a)<|uG vU fun X=>.opt (sC a8) fun a=>.opt (tC yA 131 6 a) fun a=>.light (fun m=>cA yA 3 ⟨0,m⟩ a)<|uI fun n=>.call 123 [x0,(nE X),uZ n] fun a=>.opt (sC x0) fun a=>.opt (tC yA 134 0 a) fun a53=>.opt (sC a8) fun a=>.opt (tC yA 131 1 a) fun a=>.light (fun m=>cA yA 9 ⟨0,m⟩ a)<|uS fun s=>.opt (jN [32] s)<|uS fun s=>.opt (jN s [32])<|uS fun s=>.call 42 [a53,.str s] fun a=>.opt (uC yA 29 x3 (uZ 1)) fun a=>.light (fun m=>cA yA 31 ⟨0,m⟩ a)<|uG vU fun X=>.opt (sC a8) fun a=>.opt (tC yA 131 7 a) fun a=>.light (fun m=>cA yA 3 ⟨0,m⟩ a)<|uI fun n=>.call 123 [x0,(nE X),uZ n] fun a=>.ret (.tup [])) (.ite (lB n12 5) (.opt (sC x0) fun a=>.opt (tC yA 134 0 a) fun a72=>.opt (sC a8) fun a=>.opt (tC yA 131 1 a) fun a=>.light (fun m=>cA yA 9 ⟨0,m⟩ a)<|uS fun s=>.call 42 [a72,.str s] fun a=>.opt (uC yA 29 x3 (uZ 0)) fun a=>.light (fun m=>cA yA 31 ⟨0,m⟩ a)<|uG vU fun X=>.opt (sC a8) fun a=>.opt (tC yA 131 6 a) fun a=>.light (fun m=>cA yA 3 ⟨0,m⟩ a)<|uI fun n=>.call 123 [x0,(nE X),uZ n] fun a=>.ret (.tup [])) (.ite (lB n12 6) (.call 124 [x0,.agg [uY i0,.str l0,uY i1,.bool g0,x1,.bool g1,x2,uZ i2,x3],a8] fun a=>.ret (.tup [])) (.ret (.tup []))))))))
def t63:T:=.heavy (iL yA 136) fun a0=>.heavy (iL yA 39) fun a1=>.heavy (iL yA 34) fun a2=>.ite (fB 65536 (Int.ofNat (yB l0))) (.ite true (.heavy (mC yA 136 a0 .nilslice) fun _=>.heavy (mC yA 39 a1 (.agg [uZ 0,uZ 0])) fun _=>.heavy (mC yA 34 a2 (uZ 3)) fun _=>.light (fun m=>cA yA 136 ⟨0,m⟩ a0) fun a3=>.light (fun m=>cA yA 39 ⟨0,m⟩ a1) fun a4=>.light (fun m=>cA yA 34 ⟨0,m⟩ a2) fun a=>.ret (.tup [a3,a4,a])) .fail) (.heavy (iL yA 136) fun a6=>.call 125 [.str l0] fun a=>.range (bQ yA) a 2 2 [a0,a1,a2,a6] (.light (fun m=>cA yA 136 ⟨0,m⟩ a6) fun a=>.ite true (.heavy (mC yA 136 a0 a) fun _=>.heavy (mC yA 39 a1 (.agg [uZ 0,uZ 0])) fun _=>.heavy (mC yA 34 a2 (uZ 0)) fun _=>.light (fun m=>cA yA 136 ⟨0,m⟩ a0) fun a9=>.light (fun m=>cA yA 39 ⟨0,m⟩ a1) fun a10=>.light (fun m=>cA yA 34 ⟨0,m⟩ a2) fun a=>.ret (.tup [a9,a10,a])) .fail) (.light (fun m=>cA yA 136 ⟨0,m⟩ a0) fun a12=>.light (fun m=>cA yA 39 ⟨0,m⟩ a1) fun a13=>.light (fun m=>cA yA 34 ⟨0,m⟩ a2) fun a=>.ret (.tup [a12,a13,a])))
def zn3:T:=.ite true (.ite (!lB i3 0) (.heavy (mC yA 136 x0 .nilslice) fun _=>.ite (same 10 (.agg [uZ i1,uZ i2]) (.agg [uZ i1,uZ i2])) (.heavy (mC yA 39 x1 (.agg [uZ i1,uZ i2])) fun _=>.heavy (mC yA 34 x2 (uZ i3)) fun _=>.ret (.bool false)) .fail) (.light (fun m=>cA yA 136 ⟨0,m⟩ x3) fun a0=>.heavy (tE yA 136 1 [(0,(.agg [uY i0,.str l0,uZ i1,uZ i2]))]) fun a=>.heavy (sH yA 136 136 a0 a) fun a=>.heavy (mC yA 136 x3 a) fun _=>.ret (.bool true))) .fail
def t64:T:=.ite (fB i0 0) (.ite true (.ite true (.ret (.agg [uZ 0,uZ 0])) .fail) .fail) (.opt (vF yA 9 kL (.str l0) none (some (uZ (bif fB (Int.ofNat (yB l0)) i0 then(Int.ofNat (yB l0))else i0))))<|uS fun s=>.call 126 [.str s,.str [10]]<|uI fun n3=>.call 127 [.str s,uY 10]<|uI fun n=>.ite true (.ite true (.ret (.agg [(kC n3),(uZ (uW ((Int.ofNat (yB s))-n)))])) .fail) .fail)
def t69:T:=.opt (pC x0)<|uI fun n=>.ite (fB 42 n) wC (.opt (pC x1)<|uI fun n=>.ite (fB 42 n) wC (.call 130 [.agg [.bool g0,x0,.bool g1,x1]]<|uB fun b=>.ite (!b) wC (.call 131 [.agg [.bool g0,x0,.bool g1,x1]] fun a=>.opt (uX 0 a)<|uS fun s=>.opt (uX 1 a)<|uI fun n=>.ite (lB n 0) (.call 132 [.str s,.str [45]]<|uS fun s=>.ret (.bool (gE (Int.ofNat (yB s)) 200))) wC)))
def t70:T:=.ite (!g0) (.ite (!g1) (.opt (pC x0)<|uI fun n1=>.opt (pC x1)<|uI fun n=>.ret (.bool (lB (uW (n1+n)) 0))) wC) wC
def t71:T:=.ite (gE 0 i0) (.ret (.bool (fB i0 65536))) wC
def t72:T:=.call 133 [.bool g0]<|uS fun s=>.ret (.str s)
def t73:T:=.call 131 [.agg [.bool g0,x0,.bool g1,x1]] fun a=>.opt (uX 0 a)<|uS fun s=>.opt (uX 1 a)<|uI fun n=>.call 134 [.str s]<|uS fun s=>.ret (.str s)
def t74:T:=.call 135 [uZ i0] fun a=>.opt (uX 0 a)<|uI fun n2=>.opt (uX 1 a)<|uI fun n4=>.opt (uX 2 a)<|uI fun n6=>.opt (uX 3 a)<|uI fun n=>.ite (!lB n 0) (.ret (.str [])) (.ite true (.heavy (iL yA 209) fun a=>.heavy (mC yA 209 a (.agg [uY 0,uY 0,uY 0,uY 0,uY 45,uY 0,uY 0,uY 45,uY 0,uY 0])) fun _=>.light (fun m=>cA yA 209 ⟨0,m⟩ a)<|uG Fw fun X=>.call 136 [(uA6 X),uZ 0,uZ 4,uZ n2]<|uG Fw fun X=>.heavy (mC yA 209 a (uA6 X)) fun _=>.light (fun m=>cA yA 209 ⟨0,m⟩ a)<|uG Fw fun X=>.call 136 [(uA6 X),uZ 5,uZ 2,uZ n4]<|uG Fw fun X=>.heavy (mC yA 209 a (uA6 X)) fun _=>.light (fun m=>cA yA 209 ⟨0,m⟩ a)<|uG Fw fun X=>.call 136 [(uA6 X),uZ 8,uZ 2,uZ n6]<|uG Fw fun X=>.heavy (mC yA 209 a (uA6 X)) fun _=>.light (fun m=>vF yA 209 ⟨0,m⟩ a none none) fun a=>.light (fun m=>eP yA 96 9 ⟨0,m⟩ a)<|uS fun s=>.ret (.str s)) .fail)
def t75:T:=.call 137 [uZ i0]<|uS fun s=>.call 134 [.str s]<|uS fun s=>.ret (.str s)
def t77:T:=.opt (sC x0) fun a=>.opt (tC yA 141 1 a) fun a=>.light (fun m=>cA yA 3 ⟨0,m⟩ a)<|uI fun n3=>.opt (sC x0) fun a=>.opt (tC yA 141 0 a) fun a=>.light (fun m=>cA yA 136 ⟨0,m⟩ a) fun a=>.opt (pC a)<|uI fun n=>.ite (fB n3 n) (.opt (sC x0) fun a=>.opt (tC yA 141 0 a) fun a=>.light (fun m=>cA yA 136 ⟨0,m⟩ a) fun a11=>.opt (sC x0) fun a=>.opt (tC yA 141 1 a) fun a=>.light (fun m=>cA yA 3 ⟨0,m⟩ a)<|uI fun n=>.opt (uC yA 136 a11 (uZ n)) fun a=>.light (fun m=>cA yA 149 ⟨0,m⟩ a)<|uG Iv fun X=>.ite true (.ret (uA11 X)) .fail) (.opt (sC x0) fun a=>.opt (tC yA 141 3 a) fun a=>.light (fun m=>cA yA 39 ⟨0,m⟩ a)<|uG sV fun X=>.ite true (.ite true (.ret (.agg [uY 0,.str [],uZ (X.i 0),uZ (X.i 1)])) .fail) .fail)
def t78:T:=.call 77 [x0]<|uG Iv fun X=>.ite true (.ite (lB (X.i 0) 1) (uQ7 X l0 x0) (.ite (lB (X.i 0) 4) (uQ7 X l0 x0) wC)) .fail
def t80:T:=.call 139 [.str l0,.str [47]] fun a=>.opt (uX 0 a)<|uS fun s2=>.opt (uX 1 a)<|uS fun s=>.opt (uX 2 a)<|uB fun b=>.ite (!b) (.jump 9 [.bool g0,.str s2,.str [49],.bool false,.nilslice,.bool false,.nilslice]) (.jump 9 [.bool g0,.str s2,.str s,.bool false,.nilslice,.bool false,.nilslice])
def t80_9:T:=.call 140 [.str l0] fun a=>.opt (uX 0 a)<|uG bK fun X2=>.opt (uX 1 a)<|uI fun n=>.ite (jB (rH X2)) (.call 140 [.str l1] fun a=>.opt (uX 0 a)<|uG bK fun X=>.opt (uX 1 a)<|uI fun n=>.ite (jB (rH X)) (.call 141 [(gH X2),(gH X)] fun a=>.opt (uX 0 a)<|uG zz5z fun X12=>.opt (uX 1 a)<|uI fun n=>.ite (jB (uM2 X12)) (.ite g0 (.call 142 [(uA2 X12)] fun a=>.opt (uX 0 a)<|uG zz5z fun X=>.opt (uX 1 a)<|uI fun n=>.ite (jB (uM2 X)) (.ite (jB (uM2 X)) (.ret (uA2 X)) .fail) .fail) (.ite (jB (uM2 X12)) (.ret (uA2 X12)) .fail)) .fail) .fail) .fail
def t82:T:=.ite (bEq g0 g1) (.call 145 [x0,x1]<|uB fun b=>.ret (.bool b)) wC
def t116:T:=.ite true (.ite true (.ret (.agg [uY 6,.str l0,.bool g0,uZ i0,uZ i1,uZ 7,uZ 1,uZ 1])) .fail) .fail
def t117:T:=.ite true (.ite true (.ret (.agg [uY 3,.str l0,.bool true,uZ 1,uZ 1,uZ 7,uZ 7,uZ 7])) .fail) .fail
def t118:T:=.ite true (.ite true (.ret (.agg [uY 4,.str l0,.bool false,uZ 2,uZ 2,uZ i0,uZ i1,uZ i2])) .fail) .fail
def t119:T:=.ite (gE 65 i0) (.ite (gE i0 90) yI (.ite (gE 97 i0) (.ret (.bool (gE i0 122))) wC)) (.ite (gE 97 i0) (.ret (.bool (gE i0 122))) wC)
def t120:T:=.jump 2 [.str l0,x0,uZ 0]
def Yn:T:=.ite (fB i0 (Int.ofNat (yB l0))) (.opt (rI yA 9 (.str l0) (uZ i0))<|uU fun n=>.callv x0 [uY n]<|uB fun b=>.ite b (.jump 2 [.str l0,x0,(kC i0)]) (.opt (vF yA 9 kL (.str l0) none (some (uZ i0)))<|uS fun s=>.ret (.str s))) (.opt (vF yA 9 kL (.str l0) none (some (uZ i0)))<|uS fun s=>.ret (.str s))
def t121:T:=.call 119 [uY i0]<|uB fun b=>.ite b yI (.call 169 [uY i0]<|uB fun b=>.ite b yI (.ret (.bool (lB i0 95))))
def t122:T:=.ite (fB (Int.ofNat (yB l0)) 2) wC (.ite (fB 7 (Int.ofNat (yB l0))) wC (.call 120 [.str l0,(.func (.func 119) [] [])]<|uS fun s=>.ite (!qF s l0) wC (.heavy Rn fun a=>.heavy (rU yA 236 a (uZ 2) (.str [32,116,111,32,105,115,32,97,116,32,105,102,32,111,114,32,117,112,32])) fun _=>.heavy (rU yA 236 a (uZ 3) (.str [32,100,101,102,32,114,111,119,32,111,110,101,32,116,119,111,32,101,110,100,32,111,102,102,32,104,97,115,32,109,105,110,32,109,97,120,32,97,110,100,32,110,111,116,32])) fun _=>.heavy (rU yA 236 a (uZ 4) (.str [32,112,108,97,110,32,102,97,99,116,32,102,114,111,109,32,119,104,101,110,32,116,104,101,110,32,100,97,116,101,32,100,97,121,115,32,116,114,117,101,32,108,111,111,107,32,98,101,115,116,32,103,114,111,119,32,100,111,119,110,32,99,101,105,108,32,104,97,108,102,32,101,118,101,110,32])) fun _=>.heavy (rU yA 236 a (uZ 5) (.str [32,116,97,98,108,101,32,107,110,111,119,110,32,116,114,117,116,104,32,109,111,110,101,121,32,102,97,108,115,101,32,109,105,110,117,115,32,116,111,100,97,121,32,114,111,117,110,100,32,115,116,97,114,116,32,102,108,111,111,114,32])) fun _=>.heavy (rU yA 236 a (uZ 6) (.str [32,99,108,97,117,115,101,32,110,117,109,98,101,114,32,109,111,110,116,104,115,32])) fun _=>.heavy (rU yA 236 a (uZ 7) (.str [32,98,101,116,119,101,101,110,32,115,101,114,118,105,99,101,32])) fun _=>.light (fun m=>xZ yA 236 ⟨0,m⟩ a (uZ (Int.ofNat (yB l0))) false)<|uS fun s4=>.opt (jN [32] l0)<|uS fun s=>.opt (jN s [32])<|uS fun s=>.call 143 [.str s4,.str s]<|uB fun b=>.ret (.bool b))))
def t123:T:=.opt (sC x0) fun a=>.opt (tC yA 134 1 a) fun a=>.light (fun m=>cA yA 69 ⟨0,m⟩ a) fun a=>.opt (sC a) fun a=>.opt (uC yA 191 a (uY i0)) fun a=>.opt (tC yA 131 5 a) fun a=>.light (fun m=>cA yA 3 ⟨0,m⟩ a)<|uI fun n=>.ite (gE i3 n) (.call 62 [x0,.agg [uY i0,.str l0,uY i1,.bool g0,x1,.bool g1,x2,uZ i2,x3]] fun a=>.ret (.tup [])) (.opt (sC x0) fun a=>.opt (tC yA 134 0 a) fun a=>.call 42 [a,.str [40]] fun a=>.call 62 [x0,.agg [uY i0,.str l0,uY i1,.bool g0,x1,.bool g1,x2,uZ i2,x3]] fun a=>.opt (sC x0) fun a=>.opt (tC yA 134 0 a) fun a=>.call 42 [a,.str [41]] fun a=>.ret (.tup []))
def t124:T:=.opt (sC x0) fun a=>.opt (tC yA 134 0 a) fun a1=>.opt (sC x4) fun a=>.opt (tC yA 131 1 a) fun a=>.light (fun m=>cA yA 9 ⟨0,m⟩ a)<|uS fun s=>.opt (jN s [40])<|uS fun s=>.call 42 [a1,.str s] fun a=>.opt (sC x4) fun a=>.opt (tC yA 131 2 a) fun a=>.light (fun m=>cA yA 4 ⟨0,m⟩ a)<|uB fun b=>.ite b (.opt (sC x0) fun a=>.opt (tC yA 134 0 a) fun a=>.opt (jN l0 [44,32])<|uS fun s=>.call 42 [a,.str s] fun a=>.jump 9 [x0,uY i0,.str l0,uY i1,.bool g0,x1,.bool g1,x2,uZ i2,x3]) (.jump 9 [x0,uY i0,.str l0,uY i1,.bool g0,x1,.bool g1,x2,uZ i2,x3])
def zk3:T:=.opt (pC x3)<|uI fun n=>.jump 2 [x0,x3,uZ n,uZ 0,uY i0,.str l0,uY i1,.bool g0,x1,.bool g1,x2,uZ i2,x3]
def Ym:T:=.ite (fB i1 i0) (.opt (uC yA 29 x1 (uZ i1)) fun a=>.light (fun m=>cA yA 31 ⟨0,m⟩ a)<|uG vU fun X=>.ite (jB (lF X)) (.ite (fB 0 i1) (.opt (sC x0) fun a=>.opt (tC yA 134 0 a) fun a=>.call 42 [a,.str [44,32]] fun a=>.call 62 [x0,(nE X)] fun a=>.jump 2 [x0,x1,uZ i0,(kC i1),uY i2,.str l0,uY i3,.bool g0,x2,.bool g1,x3,uZ i4,x4]) (.call 62 [x0,(nE X)] fun a=>.jump 2 [x0,x1,uZ i0,(kC i1),uY i2,.str l0,uY i3,.bool g0,x2,.bool g1,x3,uZ i4,x4])) .fail) (.ite (lB i2 19) (.opt (sC x0) fun a=>.opt (tC yA 134 0 a) fun a=>.call 170 [(uY (fA .u8 i4))]<|uS fun s=>.opt (jN [44,32] s)<|uS fun s=>.call 42 [a,.str s] fun a=>.opt (sC x0) fun a=>.opt (tC yA 134 0 a) fun a=>.call 42 [a,.str [41]] fun a=>.ret (.tup [])) (.opt (sC x0) fun a=>.opt (tC yA 134 0 a) fun a=>.call 42 [a,.str [41]] fun a=>.ret (.tup [])))
def t125:T:=.heavy (jL (.str l0)) fun a=>.ret (.func (.func 171) [] [a])
def t127:T:=.call 180 [.str l0,uY i0]<|uI fun n=>.ret (uZ n)
def t128:T:=.opt (pC x1)<|uI fun n=>.jump 2 [x0,x1,uZ n,uZ 0]
def Yl:T:=.ite (fB i1 i0) (.opt (uC yA 201 x1 (uZ i1)) fun a=>.light (fun m=>cA yA 147 ⟨0,m⟩ a)<|uG [.str [],uY 0] fun X=>.ite true (.call 78 [x0,.str (X.s 0)]<|uB fun b=>.ite b (.ret (.tup [uY (X.i 1),.bool true])) (.jump 2 [x0,x1,uZ i0,(kC i1)])) .fail) (.ret (.tup [uY 0,.bool false]))
def t130:T:=.ite true (.call 182 [.agg [.bool g0,x0,.bool g1,x1]]<|uB fun b=>.ret (.bool b)) .fail
def t131:T:=.call 130 [.agg [.bool g0,x0,.bool g1,x1]]<|uB fun b=>.ite (!b) (.ret (.tup [.str [],uZ 2])) (.call 183 [.agg [.bool g0,x0]] fun a=>.opt (uX 0 a)<|uS fun s4=>.opt (uX 1 a)<|uI fun n=>.ite true (.call 184 [.agg [.bool g0,x0,.bool g1,x1]]<|uB fun b=>.ite (!b) (.call 183 [.agg [.bool g1,x1]] fun a=>.opt (uX 0 a)<|uS fun s=>.opt (uX 1 a)<|uI fun n=>.opt (jN [47] s)<|uS fun s=>.opt (jN s4 s)<|uS fun s=>.ret (.tup [.str s,uZ 0])) (.ret (.tup [.str s4,uZ 0]))) .fail)
def t132:T:=.call 185 [.str l0,.str l1]<|uS fun s=>.ret (.str s)
def t133:T:=.ite g0 (.ret (.str [116,114,117,101])) (.ret (.str [102,97,108,115,101]))
def t134:T:=.call 186 [.str l0,.str [45]] fun a=>.opt (uX 0 a)<|uS fun s=>.opt (uX 1 a)<|uB fun b=>.ite b (.opt (jN [109,105,110,117,115,32] s)<|uS fun s=>.ret (.str s)) (.ret (.str l0))
def t135:T:=.call 187 [uZ i0]<|uB fun b=>.ite (!b) (.ret (.tup [uZ 0,uZ 0,uZ 0,uZ 2])) (.call 188 [uZ i0]<|uI fun n3=>.call 189 [uZ n3]<|uI fun n=>.ret (.tup [(uZ (uW (1900+(uW (Int.tdiv n3 12))))),(uZ (uW ((Int.tmod n3 12)+1))),(uZ (uW ((uW (i0-n))+1))),uZ 0]))
def t136:T:=.heavy (jL (.agg [uY i0,uY i1,uY i2,uY i3,uY i4,uY i5,uY i6,uY i7,uY i8,uY i9])) fun a=>.jump 2 [uZ j0,uZ j2,a,(uZ (uW ((uW (j0+j1))-1))),uY 0,uY 0,uY 0,uY 0,uY 0,uY 0,uY 0,uY 0,uY 0,uY 0]
def t136_2:T:=.ite (gE i0 i2) (.opt (uC yA 209 x0 (uZ i2)) fun a=>.heavy (mC yA 5 a (uY (fA .u8 (uW (48+(Int.tmod i1 10)))))) fun _=>.jump 2 [uZ i0,(uZ (uW (Int.tdiv i1 10))),x0,(uZ (uW (i2-1))),uY i3,uY i4,uY i5,uY i6,uY i7,uY i8,uY i9,uY j0,uY j1,uY j2]) (.light (fun m=>cA yA 209 ⟨0,m⟩ x0)<|uG Fw fun X=>.ite true (.ret (uA6 X)) .fail)
def t138:T:=.ite (!lB (Int.ofNat (yB l0)) 10) (.ret (.tup [uZ 0,uZ 2])) (.opt (rI yA 9 (.str l0) (uZ 4))<|uU fun n=>.ite (!lB n 45) (.ret (.tup [uZ 0,uZ 2])) (.opt (rI yA 9 (.str l0) (uZ 7))<|uU fun n=>.ite (!lB n 45) (.ret (.tup [uZ 0,uZ 2])) (.opt (vF yA 9 kL (.str l0) none (some (uZ 4)))<|uS fun s5=>.opt (vF yA 9 kL (.str l0) (some (uZ 5)) (some (uZ 7)))<|uS fun s7=>.opt (vF yA 9 kL (.str l0) (some (uZ 8)) none)<|uS fun s=>.heavy (tE yA 62 3 [(0,(.str s5)),(1,(.str s7)),(2,(.str s))]) fun a=>.call 191 [a] fun a11=>.opt (uX 0 a11) fun a12=>.opt (uX 1 a11)<|uB fun b=>.ite (!b) (.ret (.tup [uZ 0,uZ 2])) (.opt (uC yA 249 a12 (uZ 0)) fun a=>.light (fun m=>cA yA 3 ⟨0,m⟩ a)<|uI fun n17=>.opt (uC yA 249 a12 (uZ 1)) fun a=>.light (fun m=>cA yA 3 ⟨0,m⟩ a)<|uI fun n20=>.opt (uC yA 249 a12 (uZ 2)) fun a=>.light (fun m=>cA yA 3 ⟨0,m⟩ a)<|uI fun n=>.call 192 [uZ n17,uZ n20,uZ n] fun a=>.opt (uX 0 a)<|uI fun n26=>.opt (uX 1 a)<|uI fun n=>.ret (.tup [uZ n26,uZ n])))))
def t140:T:=.ite (fB 0 (Int.ofNat (yB l0))) (.opt (rI yA 9 (.str l0) (uZ 0))<|uU fun n=>.ite (lB n 45) (.opt (vF yA 9 kL (.str l0) (some (uZ 1)) none)<|uS fun s=>.jump 11 [.str s,(.bool (lB n 45)),.bool false,.nilslice]) (.jump 11 [.str l0,(.bool (lB n 45)),.bool false,.nilslice])) (.jump 11 [.str l0,.bool false,.bool false,.nilslice])
def zbc:T:=.ite (lB (Int.ofNat (yB l0)) 0) uQ5 (.opt (rI yA 9 (.str l0) (uZ 0))<|uU fun n=>.ite (lB n 48) (.ite g0 uQ5 (.ite (fB 1 (Int.ofNat (yB l0))) uQ5 (.jump 2 [.str l0,.bool g0,(uZ (Int.ofNat (yB l0))),uZ 0,.bool g1,x0]))) (.jump 2 [.str l0,.bool g0,(uZ (Int.ofNat (yB l0))),uZ 0,.bool g1,x0]))
def Yh:T:=.ite (fB i1 i0) (.opt (rI yA 9 (.str l0) (uZ i1))<|uU fun n=>.ite (fB n 48) uQ5 (.opt (rI yA 9 (.str l0) (uZ i1))<|uU fun n=>.ite (fB 57 n) uQ5 (.jump 2 [.str l0,.bool g0,uZ i0,(kC i1),.bool g1,x0]))) (.ite (fB 4933 (Int.ofNat (yB l0))) uQ18 (.jump 6 [.str l0,.bool g0,.nilslice,.bool g1,x0]))
def Yg:T:=.ite (fB 0 (Int.ofNat (yB l0))) (.jump 10 [.str l0,.bool g0,x0,(uZ (bif fB (Int.ofNat (yB l0)) 9 then(Int.ofNat (yB l0))else 9)),.int .u32 1,.int .u32 0,(uZ (bif fB (Int.ofNat (yB l0)) 9 then(Int.ofNat (yB l0))else 9)),uZ 0,.bool g1,x1]) (.call 195 [.bool g0,x0] fun a=>.opt (uX 0 a)<|uG bK fun X=>.opt (uX 1 a)<|uI fun n=>.ite (jB (rH X)) (.ret (.tup [(gH X),uZ n])) .fail)
def Yi:T:=.ite (fB i4 i3) (.opt (rI yA 9 (.str l0) (uZ i4))<|uU fun n=>.jump 10 [.str l0,.bool g0,x0,uZ i0,(.int .u32 (fA .u32 (i1*10))),(.int .u32 (fA .u32 ((fA .u32 (i2*10))+(fA .u32 (fA .u8 (n-48)))))),uZ i3,(kC i4),.bool g1,x1]) (.call 194 [x0,.int .u32 i1,.int .u32 i2] fun a=>.opt (vF yA 9 kL (.str l0) (some (uZ i0)) none)<|uS fun s=>.jump 6 [.str s,.bool g0,a,.bool g1,x1])
def t141:T:=.call 196 [.agg [.bool g0,x0]]<|uB fun b=>.ite (!b) uQ10 (.call 196 [.agg [.bool g1,x1]]<|uB fun b=>.ite (!b) uQ10 (.opt (pC x1)<|uI fun n=>.ite (lB n 0) (.ite true (.ite true (.ret (.tup [.agg [.bool false,.nilslice,.bool false,.nilslice],uZ 20])) .fail) .fail) (.call 197 [.agg [.bool g0,x0],.agg [.bool g1,x1]]<|uG zz5z fun X=>.call 198 [(uA2 X)] fun a=>.opt (uX 0 a)<|uG zz5z fun X=>.opt (uX 1 a)<|uI fun n=>.ite (jB (uM2 X)) (.ret (.tup [(uA2 X),uZ n])) .fail)))
def t142:T:=.call 130 [.agg [.bool g0,x0,.bool g1,x1]]<|uB fun b=>.ite (!b) uQ10 (.call 199 [.agg [.bool g0,x0]]<|uG bK fun X3=>.ite (same 10 (.agg [.bool g1,x1]) (.agg [.bool g1,x1])) (.call 199 [.agg [.bool g1,x1]]<|uG bK fun X=>.call 199 [(gH X)]<|uG bK fun X=>.ite true (.ite (jB [.bool (X3.b 0),X3.v 1,.bool (X.b 0),X.v 1]) (.ret (.tup [(.agg [.bool (X3.b 0),X3.v 1,.bool (X.b 0),X.v 1]),uZ 0])) .fail) .fail) .fail)
def t144:T:=.call 140 [.str l0] fun a=>.opt (uX 0 a)<|uG bK fun X=>.opt (uX 1 a)<|uI fun n=>.ite (jB (rH X)) (.call 200 [(gH X)] fun a=>.opt (uX 0 a)<|uI fun n7=>.opt (uX 1 a)<|uI fun n=>.ite (!lB n 0) (.ret (.tup [uZ 0,.bool false])) (.ite g0 (.jump 15 [uZ i0,uZ i1,(uZ (uW (0-n7)))]) (.jump 15 [uZ i0,uZ i1,uZ n7]))) .fail
def zbb:T:=.ite (gE i0 i2) (.ret (.tup [uZ i2,(.bool (gE i2 i1))])) (.ret (.tup [uZ i2,.bool false]))
def t145:T:=.opt (pC x0)<|uI fun n1=>.opt (pC x1)<|uI fun n=>.ite (!lB n1 n) wC (.jump 2 [x0,x1,uZ 0])
def Yf:T:=.opt (pC x0)<|uI fun n=>.ite (fB i0 n) (.opt (uC yA 22 x0 (uZ i0)) fun a=>.light (fun m=>cA yA 261 ⟨0,m⟩ a)<|uH fun n4=>.opt (uC yA 22 x1 (uZ i0)) fun a=>.light (fun m=>cA yA 261 ⟨0,m⟩ a)<|uH fun n=>.ite (!lB n4 n) wC (.jump 2 [x0,x1,(kC i0)])) yI
def t151:T:=.call 77 [x0]<|uG Iv fun X=>.ite true (.ite (lB (X.i 0) 1) (.call 60 [.str (X.s 1)]<|uB fun b=>.ret (.bool b)) wC) .fail
def t169:T:=.ite (gE 48 i0) (.ret (.bool (gE i0 57))) wC
def t170:T:=.ite (fB (uW i0) 7) (.opt (uC yA 223 (.ptr 1 0) (uY i0)) fun a=>.light (fun m=>cA yA 9 ⟨0,m⟩ a)<|uS fun s=>.ret (.str s)) (.ret (.str []))
def t171:T:=.ite true (.light (fun m=>cA yA 9 ⟨0,m⟩ x1)<|uS fun s=>.ite true (.heavy (iL yA 239) fun a=>.heavy (mC yA 239 a (.agg [uZ 1,uZ 1,.str s,uZ 0])) fun _=>.jump 2 [x0,x1,a,.bool false,uZ 0,uZ 0]) .fail) .fail
def zk2:T:=.opt (tC yA 239 2 x2) fun a=>.light (fun m=>cA yA 3 ⟨0,m⟩ a)<|uI fun n=>.light (fun m=>cA yA 9 ⟨0,m⟩ x1)<|uS fun s=>.ite (fB n (Int.ofNat (yB s))) (.light (fun m=>cA yA 9 ⟨0,m⟩ x1)<|uS fun s=>.opt (tC yA 239 2 x2) fun a=>.light (fun m=>cA yA 3 ⟨0,m⟩ a)<|uI fun n=>.opt (rI yA 9 (.str s) (uZ n))<|uU fun n=>.ite (lB n 10) (.ite g0 (.ite true (.callv x0 [.agg [uY 5,.str [],uZ i0,uZ i1],uZ 0]<|uB fun b=>.ite (!b) (.ret (.tup [])) (.call 172 [x2] fun a=>.jump 2 [x0,x1,x2,.bool false,uZ i0,uZ i1])) .fail) (.call 172 [x2] fun a=>.jump 2 [x0,x1,x2,.bool false,uZ i0,uZ i1])) (.ite (lB n 32) (.call 173 [x2,uZ 1] fun a=>.jump 2 [x0,x1,x2,.bool g0,uZ i0,uZ i1]) (.ite (lB n 9) (.call 173 [x2,uZ 1] fun a=>.jump 2 [x0,x1,x2,.bool g0,uZ i0,uZ i1]) (.ite (lB n 35) (.call 174 [x2]<|uS fun s=>.call 120 [.str s,(.func (.func 175) [] [])]<|uS fun s=>.call 173 [x2,(uZ (Int.ofNat (yB s)))] fun a=>.jump 2 [x0,x1,x2,.bool g0,uZ i0,uZ i1]) (.call 176 [x2] fun a=>.opt (uX 0 a)<|uG Iv fun X=>.opt (uX 1 a)<|uI fun n=>.ite true (.callv x0 [(uA11 X),uZ n]<|uB fun b=>.ite (!b) (.ret (.tup [])) (.ite (!lB n 0) (.ret (.tup [])) (.opt (tC yA 239 0 x2) fun a=>.light (fun m=>cA yA 39 ⟨0,m⟩ a)<|uG sV fun X=>.ite true (.jump 2 [x0,x1,x2,.bool true,uZ (X.i 0),uZ (X.i 1)]) .fail))) .fail))))) (.ite g0 (.ite true (.callv x0 [.agg [uY 5,.str [],uZ i0,uZ i1],uZ 0]<|uB fun b=>.ret (.tup [])) .fail) (.ret (.tup [])))
def t172:T:=.opt (sC x0) fun a=>.opt (tC yA 239 2 a) fun a=>.light (fun m=>cA yA 3 ⟨0,m⟩ a)<|uI fun n=>.opt (sC x0) fun a=>.opt (tC yA 239 2 a) fun a=>.heavy (mC yA 3 a (kC n)) fun _=>.opt (sC x0) fun a=>.opt (tC yA 239 0 a) fun a=>.opt (tC yA 39 0 a) fun a=>.light (fun m=>cA yA 3 ⟨0,m⟩ a)<|uI fun n=>.opt (sC x0) fun a=>.opt (tC yA 239 0 a) fun a=>.opt (tC yA 39 0 a) fun a=>.heavy (mC yA 3 a (kC n)) fun _=>.opt (sC x0) fun a=>.opt (tC yA 239 0 a) fun a=>.opt (tC yA 39 1 a) fun a=>.heavy (mC yA 3 a (uZ 1)) fun _=>.ret (.tup [])
def t173:T:=.opt (sC x0) fun a=>.opt (tC yA 239 2 a) fun a=>.light (fun m=>cA yA 3 ⟨0,m⟩ a)<|uI fun n=>.opt (sC x0) fun a=>.opt (tC yA 239 2 a) fun a=>.heavy (mC yA 3 a (uZ (uW (n+i0)))) fun _=>.opt (sC x0) fun a=>.opt (tC yA 239 0 a) fun a=>.opt (tC yA 39 1 a) fun a=>.light (fun m=>cA yA 3 ⟨0,m⟩ a)<|uI fun n=>.opt (sC x0) fun a=>.opt (tC yA 239 0 a) fun a=>.opt (tC yA 39 1 a) fun a=>.heavy (mC yA 3 a (uZ (uW (n+i0)))) fun _=>.ret (.tup [])
def t174:T:=.opt (sC x0) fun a=>.opt (tC yA 239 1 a) fun a=>.light (fun m=>cA yA 9 ⟨0,m⟩ a)<|uS fun s=>.opt (sC x0) fun a=>.opt (tC yA 239 2 a) fun a=>.light (fun m=>cA yA 3 ⟨0,m⟩ a)<|uI fun n=>.opt (vF yA 9 kL (.str s) (some (uZ n)) none)<|uS fun s=>.ret (.str s)
def t175:T:=.ret (.bool (!lB i0 10))
def t176:T:=.opt (sC x0) fun a=>.opt (tC yA 239 0 a) fun a=>.light (fun m=>cA yA 39 ⟨0,m⟩ a)<|uG sV fun X=>.ite true (.opt (sC x0) fun a=>.opt (tC yA 239 1 a) fun a=>.light (fun m=>cA yA 9 ⟨0,m⟩ a)<|uS fun s=>.opt (sC x0) fun a=>.opt (tC yA 239 2 a) fun a=>.light (fun m=>cA yA 3 ⟨0,m⟩ a)<|uI fun n=>.opt (rI yA 9 (.str s) (uZ n))<|uU fun n13=>.call 119 [uY n13]<|uB fun b=>.ite b (.call 174 [x0]<|uS fun s=>.call 225 [.str s] fun a=>.opt (uX 0 a)<|uS fun s=>.opt (uX 1 a)<|uI fun n=>.jump 37 [x0,uY 1,.str s,uZ n,uY 0,.str [],uZ 0,uZ 0,uZ (X.i 0),uZ (X.i 1)]) (.call 169 [uY n13]<|uB fun b=>.ite b (.call 174 [x0]<|uS fun s=>.call 226 [.str s]<|uB fun b=>.ite b (.call 174 [x0]<|uS fun s=>.call 227 [.str s] fun a=>.opt (uX 0 a)<|uS fun s=>.opt (uX 1 a)<|uI fun n=>.jump 37 [x0,uY 3,.str s,uZ n,uY 0,.str [],uZ 0,uZ 0,uZ (X.i 0),uZ (X.i 1)]) (uQ2 n13 x0 X)) (uQ2 n13 x0 X))) .fail
def zba:T:=.ite (!lB i1 0) (.ite true (.ite true (.ret (.tup [.agg [uY 0,.str [],uZ i5,uZ i6],uZ i1])) .fail) .fail) (.call 173 [x0,(uZ (Int.ofNat (yB l0)))] fun a=>.ite true (.ite true (.ret (.tup [.agg [uY i0,.str l0,uZ i5,uZ i6],uZ 0])) .fail) .fail)
def t180:T:=.jump 2 [.str l0,uY i0,(uZ (uW ((Int.ofNat (yB l0))-1)))]
def Ye:T:=.ite (gE 0 i1) (.opt (rI yA 9 (.str l0) (uZ i1))<|uU fun n=>.ite (lB n i0) (.ret (uZ i1)) (.jump 2 [.str l0,uY i0,(uZ (uW (i1-1)))])) (.ret (uZ (-1)))
def t182:T:=.call 232 [.agg [.bool g0,x0,.bool g1,x1]]<|uB fun b=>.ite b wC (.call 196 [.agg [.bool g0,x0]]<|uB fun b=>.ite (!b) wC (.call 196 [.agg [.bool g1,x1]]<|uB fun b=>.ite (!b) wC (.ite g1 wC (.opt (pC x1)<|uI fun n=>.ite (lB n 0) wC (.call 184 [.agg [.bool g0,x0,.bool g1,x1]]<|uB fun b=>.ite b yI (.call 234 [.agg [.bool g0,x0],.agg [.bool g1,x1]]<|uG bK fun X=>.call 233 [(gH X)]<|uB fun b=>.ret (.bool b)))))))
def t183:T:=.call 196 [.agg [.bool g0,x0]]<|uB fun b=>.ite (!b) (.ret (.tup [.str [],uZ 2])) (.opt (pC x0)<|uI fun n=>.ite (lB n 0) (.ret (.tup [.str [48],uZ 0])) (.call 235 [x0] fun a=>.jump 2 [.str [],uZ 0,.nilslice,a,.bool g0,x0]))
def Yc:T:=.opt (pC x1)<|uI fun n=>.ite (fB 0 n) (.call 236 [x1,.int .u32 1000000000] fun a2=>.opt (uX 0 a2) fun a3=>.opt (uX 1 a2)<|uL fun n=>.heavy (tE yA 253 1 [(0,(.int .u32 n))]) fun a=>.heavy (sH yA 253 253 x0 a) fun a=>.jump 2 [.str l0,uZ i0,a,a3,.bool g0,x2]) (.heavy (iL yA 96) fun a8=>.ite g0 (.light (fun m=>cA yA 96 ⟨0,m⟩ a8) fun a9=>.heavy (tE yA 96 1 [(0,(uY 45))]) fun a=>.heavy (sH yA 96 96 a9 a) fun a=>.heavy (mC yA 96 a8 a) fun _=>.jump 29 [.str l0,uZ i0,x0,a8]) (.jump 29 [.str l0,uZ i0,x0,a8]))
def za9:T:=.call 237 [x0] fun a=>.range (bQ yA) a 6 1 [x1] (.light (fun m=>cA yA 96 ⟨0,m⟩ x1) fun a=>.light (fun m=>eP yA 96 9 ⟨0,m⟩ a)<|uS fun s=>.ret (.tup [.str s,uZ 0])) (.ret (.tup [.str l0,uZ i0]))
def zk1:T:=.call 238 [(.int .u64 (fA .u64 i0)),uZ 10]<|uS fun s=>.light (fun m=>cA yA 96 ⟨0,m⟩ x0) fun a=>.opt (pC a)<|uI fun n=>.ite (fB 1 n) (.jump 10 [x0,.str s,(uZ (uW (9-(Int.ofNat (yB s))))),uZ 0]) (.light (fun m=>cA yA 96 ⟨0,m⟩ x0) fun a=>.opt (pC a)<|uI fun n=>.ite (lB n 1) (.light (fun m=>cA yA 96 ⟨0,m⟩ x0) fun a=>.opt (uC yA 96 a (uZ 0)) fun a=>.light (fun m=>cA yA 5 ⟨0,m⟩ a)<|uU fun n=>.ite (!lB n 45) (.jump 10 [x0,.str s,(uZ (uW (9-(Int.ofNat (yB s))))),uZ 0]) (uQ15 x0 s)) (uQ15 x0 s))
def Yd:T:=.ite (fB i1 i0) (.light (fun m=>cA yA 96 ⟨0,m⟩ x0) fun a0=>.heavy (tE yA 96 1 [(0,(uY 48))]) fun a=>.heavy (sH yA 96 96 a0 a) fun a=>.heavy (mC yA 96 x0 a) fun _=>.jump 10 [x0,.str l0,uZ i0,(kC i1)]) (.light (fun m=>cA yA 96 ⟨0,m⟩ x0) fun a=>.heavy (sH yA 96 9 a (.str l0)) fun a=>.heavy (mC yA 96 x0 a) fun _=>.ret (.bool true))
def t184:T:=.call 233 [.agg [.bool g1,x1]]<|uB fun b=>.ret (.bool b)
def t185:T:=.call 239 [.str l0,.str l1]<|uB fun b=>.ite b (.opt (vF yA 9 kL (.str l0) (some (uZ (Int.ofNat (yB l1)))) none)<|uS fun s=>.ret (.str s)) (.ret (.str l0))
def t186:T:=.call 240 [.str l0,.str l1] fun a=>.opt (uX 0 a)<|uS fun s=>.opt (uX 1 a)<|uB fun b=>.ret (.tup [.str s,.bool b])
def t187:T:=.ite (gE 0 i0) (.ret (.bool (fB i0 65536))) wC
def t188:T:=.heavy (jL (uZ i0)) fun a=>.call 241 [uZ 2154,(.func (.func 242) [] [a])]<|uI fun n=>.ret (uZ n)
def t189:T:=.call 243 [(uZ (uW ((uW (1900+(uW (Int.tdiv i0 12))))-1)))]<|uI fun n1=>.call 243 [uZ 1899]<|uI fun n=>.jump 2 [uZ i0,(uZ (uW (1900+(uW (Int.tdiv i0 12))))),(uZ (uW ((uW ((uW (365*(uW ((uW (1900+(uW (Int.tdiv i0 12))))-1900))))+n1))-n))),uZ 1]
def Yb:T:=.ite (gE i3 (Int.tmod i0 12)) (.call 244 [uZ i1,uZ i3]<|uI fun n=>.jump 2 [uZ i0,uZ i1,(uZ (uW (i2+n))),(kC i3)]) (.ret (uZ i2))
def t191:T:=.opt (pC x0)<|uI fun n=>.heavy (fP yA 249 (uZ n) (uZ n)) fun a=>.opt (pC x0)<|uI fun n=>.jump 2 [a,x0,uZ n,uZ 0]
def Ya:T:=.ite (fB i1 i0) (.opt (uC yA 62 x1 (uZ i1)) fun a=>.light (fun m=>cA yA 9 ⟨0,m⟩ a)<|uS fun s=>.jump 6 [x0,uZ i1,.str s,x1,uZ i0,uZ i1,(uZ (Int.ofNat (yB s))),uZ 0]) (.ret (.tup [x0,.bool true]))
def Xz:T:=.ite (fB i4 i3) (.opt (rI yA 9 (.str l0) (uZ i4))<|uU fun n=>.ite (fB n 48) (.ret (.tup [.nilslice,.bool false])) (.opt (rI yA 9 (.str l0) (uZ i4))<|uU fun n=>.ite (fB 57 n) (.ret (.tup [.nilslice,.bool false])) (.opt (uC yA 249 x0 (uZ i0)) fun a=>.light (fun m=>cA yA 3 ⟨0,m⟩ a)<|uI fun n6=>.opt (rI yA 9 (.str l0) (uZ i4))<|uU fun n=>.opt (uC yA 249 x0 (uZ i0)) fun a=>.heavy (mC yA 3 a (uZ (uW ((uW (10*n6))+(uW (fA .u8 (n-48))))))) fun _=>.jump 6 [x0,uZ i0,.str l0,x1,uZ i1,uZ i2,uZ i3,(kC i4)]))) (.jump 2 [x0,x1,uZ i1,(kC i2)])
def t192:T:=.ite (fB i0 1900) (.ret (.tup [uZ 0,uZ 2])) (.ite (fB 2079 i0) (.ret (.tup [uZ 0,uZ 2])) (.ite (fB i2 1) (.ret (.tup [uZ 0,uZ 2])) (.call 244 [uZ i0,uZ i1]<|uI fun n=>.ite (fB n i2) (.ret (.tup [uZ 0,uZ 2])) (.call 189 [(uZ (uW ((uW ((uW (12*(uW (i0-1900))))+i1))-1)))]<|uI fun n=>.call 187 [(uZ (uW ((uW (n+i2))-1)))]<|uB fun b=>.ite (!b) (.ret (.tup [uZ 0,uZ 2])) (.ret (.tup [(uZ (uW ((uW (n+i2))-1))),uZ 0]))))))
def t194:T:=.opt (pC x0)<|uI fun n=>.heavy (fP yA 253 (uZ 0) (kC n)) fun a2=>.heavy (iL yA 253) fun a3=>.heavy (mC yA 253 a3 a2) fun _=>.call 246 [a3] fun a=>.opt (pC x0)<|uI fun n=>.jump 2 [.int .u32 i0,a3,a,(.int .u64 (fA .u64 i1)),x0,uZ n,uZ 0]
def Xy:T:=.ite (fB i3 i2) (.opt (uC yA 253 x2 (uZ i3)) fun a=>.light (fun m=>cA yA 254 ⟨0,m⟩ a)<|uL fun n=>.callv x1 [(.int .u64 (fA .u64 ((fA .u64 ((fA .u64 n)*(fA .u64 i0)))+i1)))] fun a=>.jump 2 [.int .u32 i0,x0,x1,.int .u64 0,x2,uZ i2,(kC i3)]) (.callv x1 [.int .u64 i1] fun a=>.light (fun m=>cA yA 253 ⟨0,m⟩ x0) fun a=>.call 247 [a] fun a=>.ret a)
def t195:T:=.call 248 [.bool g0,x0]<|uG bK fun X=>.ite (jB (rH X)) (.opt (pC (X.v 1))<|uI fun n=>.ite (fB 1024 n) uQ18 (.ite (jB (rH X)) (.ret (.tup [(gH X),uZ 0])) .fail)) .fail
def t196:T:=.opt (pC x0)<|uI fun n=>.ite (lB n 0) (.ret (.bool (!g0))) (.ite (gE n 1024) (.opt (uC yA 22 x0 (uZ (uW (n-1)))) fun a=>.light (fun m=>cA yA 261 ⟨0,m⟩ a)<|uH fun n=>.ret (.bool (!lB n 0))) wC)
def t197:T:=.ite g1 (.call 199 [.agg [.bool g0,x0]]<|uG bK fun X1=>.ite (same 10 (.agg [.bool g1,x1]) (.agg [.bool g1,x1])) (.call 199 [.agg [.bool g1,x1]]<|uG bK fun X=>.ite (jB (rH X1)) (.ite (jB (rH X)) (.jump 7 [.bool (X1.b 0),X1.v 1,.bool (X.b 0),X.v 1,.bool false,.nilslice,.bool false,.nilslice]) .fail) .fail) .fail) (.jump 7 [.bool g0,x0,.bool g1,x1,.bool false,.nilslice,.bool false,.nilslice])
def zk0:T:=.call 234 [.agg [.bool g0,x0],.agg [.bool g1,x1]]<|uG bK fun X1=>.ite (jB (rH X1)) (.call 249 [.agg [.bool g0,x0],(gH X1)] fun a=>.opt (uX 0 a)<|uG bK fun X4=>.opt (uX 1 a)<|uG bK fun X=>.ite (jB (rH X4)) (.call 249 [.agg [.bool g1,x1],(gH X1)] fun a=>.opt (uX 0 a)<|uG bK fun X9=>.opt (uX 1 a)<|uG bK fun X=>.ite (jB (rH X9)) (.ite true (.ite true (.ite (jB [.bool (X4.b 0),X4.v 1,.bool (X9.b 0),X9.v 1]) (.ret (.agg [.bool (X4.b 0),X4.v 1,.bool (X9.b 0),X9.v 1])) .fail) .fail) .fail) .fail) .fail) .fail
def t198:T:=.call 232 [.agg [.bool g0,x0,.bool g1,x1]]<|uB fun b=>.ite b (.ite true (.ite true (.ret (.tup [.agg [.bool false,.nilslice,.bool false,.nilslice],uZ 3])) .fail) .fail) (.ite (jB [.bool g0,x0,.bool g1,x1]) (.ret (.tup [.agg [.bool g0,x0,.bool g1,x1],uZ 0])) .fail)
def t199:T:=.ite (!g0) (.opt (pC x0)<|uI fun n=>.call 250 [x0] fun a2=>.ite (same 10 x0 x0) (.opt (pC x0) fun a=>.ite (same 10 a (uZ n)) (.ite (jB [(.bool (fB 0 n)),a2]) (.ite (jB [(.bool (fB 0 n)),a2]) (.ret (.agg [(.bool (fB 0 n)),a2])) .fail) .fail) .fail) .fail) (.call 250 [x0] fun a=>.ite (jB [.bool false,a]) (.ite (jB [.bool false,a]) (.ret (.agg [.bool false,a])) .fail) .fail)
def t200:T:=.call 196 [.agg [.bool g0,x0]]<|uB fun b=>.ite (!b) (.ret (.tup [uZ 0,uZ 2])) (.opt (pC x0)<|uI fun n=>.ite (fB 4 n) (.ret (.tup [uZ 0,uZ 3])) (.heavy (iL yA 270) fun a4=>.heavy (mC yA 270 a4 (.int .u64 0)) fun _=>.call 251 [x0] fun a=>.range (bQ yA) a 2 1 [a4] (.ite g0 (.light (fun m=>cA yA 270 ⟨0,m⟩ a4)<|uE fun n=>.ite (fB 9223372036854775808 n) (.ret (.tup [uZ 0,uZ 3])) (.light (fun m=>cA yA 270 ⟨0,m⟩ a4)<|uE fun n=>.ret (.tup [(uZ (uW (fA .u64 (0-n)))),uZ 0]))) (.light (fun m=>cA yA 270 ⟨0,m⟩ a4)<|uE fun n=>.ite (gE 9223372036854775808 n) (.ret (.tup [uZ 0,uZ 3])) (.light (fun m=>cA yA 270 ⟨0,m⟩ a4)<|uE fun n=>.ret (.tup [(uZ (uW n)),uZ 0])))) (.ret (.tup [uZ 0,uZ 0]))))
def zky:T:=.light (fun m=>cA yA 270 ⟨0,m⟩ x0)<|uE fun n=>.opt (jI Nat.lor .u64 (fA .u64 (n*65536)) (fA .u64 i0))<|uE fun n=>.heavy (mC yA 270 x0 (.int .u64 n)) fun _=>.ret (.bool true)
def t225:T:=.call 120 [.str l0,(.func (.func 121) [] [])]<|uS fun s=>.ite (fB 24 (Int.ofNat (yB s))) (.ret (.tup [.str [],uZ 111])) (.ret (.tup [.str s,uZ 0]))
def t226:T:=.ite (fB (Int.ofNat (yB l0)) 10) wC (.jump 2 [.str l0,uZ 0])
def Xw:T:=.ite (fB i0 10) (.ite (lB i0 4) (uQ19 l0 i0) (.ite (lB i0 7) (uQ19 l0 i0) (.opt (rI yA 9 (.str l0) (uZ i0))<|uU fun n=>.call 169 [uY n]<|uB fun b=>.ite (!b) wC (.jump 2 [.str l0,(kC i0)])))) yI
def t227:T:=.ite (fB 10 (Int.ofNat (yB l0))) (.opt (rI yA 9 (.str l0) (uZ 10))<|uU fun n=>.call 121 [uY n]<|uB fun b=>.ite b (.ret (.tup [.str [],uZ 113])) (uQ6 l0)) (uQ6 l0)
def t228:T:=.call 120 [.str l0,(.func (.func 169) [] [])]<|uS fun s1=>.ite (fB (Int.ofNat (yB s1)) (Int.ofNat (yB l0))) (.opt (rI yA 9 (.str l0) (uZ (Int.ofNat (yB s1))))<|uU fun n=>.ite (lB n 47) (.opt (vF yA 9 kL (.str l0) (some (uZ (uW ((Int.ofNat (yB s1))+1)))) none)<|uS fun s=>.call 120 [.str s,(.func (.func 169) [] [])]<|uS fun s=>.jump 13 [.str l0,.str s1,(uZ (Int.ofNat (yB s1))),.str s]) (.jump 13 [.str l0,.str s1,(uZ (Int.ofNat (yB s1))),.str []])) (.jump 13 [.str l0,.str s1,(uZ (Int.ofNat (yB s1))),.str []])
def za8:T:=.ite (!qF l2 []) (.jump 17 [.str l0,.str l1,(uZ (uW (i0+(uW (1+(Int.ofNat (yB l2))))))),.str l2]) (.jump 17 [.str l0,.str l1,uZ i0,.str l2])
def za7:T:=.ite (fB i0 (Int.ofNat (yB l0))) (.opt (rI yA 9 (.str l0) (uZ i0))<|uU fun n=>.call 121 [uY n]<|uB fun b=>.ite (fB 200 i0) (.ret (.tup [.str [],uZ 112])) (.ite b (.ret (.tup [.str [],uZ 112])) (uQ11 l1 l2 l0 i0))) (.ite (fB 200 i0) (.ret (.tup [.str [],uZ 112])) (uQ11 l1 l2 l0 i0))
def t232:T:=.opt (pC x0)<|uI fun n=>.ite (fB 256 n) yI (.opt (pC x1)<|uI fun n=>.ret (.bool (fB 256 n)))
def t233:T:=.ite (!g0) (.opt (pC x0)<|uI fun n=>.ite (lB n 1) (uQ17 x0) wC) wC
def t234:T:=.call 267 [.agg [.bool g0,x0],.agg [.bool g1,x1]] fun a=>.opt (uX 0 a)<|uG bK fun X=>.opt (uX 1 a)<|uI fun n=>.ite (jB (rH X)) (.ite (jB (rH X)) (.ret (gH X)) .fail) .fail
def t235:T:=.opt (pC x0)<|uI fun n=>.heavy (fP yA 253 (uZ (uW (Int.tdiv (uW (n+1)) 2))) (uZ (uW (Int.tdiv (uW (n+1)) 2)))) fun a=>.opt (pC x0)<|uI fun n=>.jump 2 [a,x0,uZ n,uZ 0]
def Xv:T:=.ite (fB i1 i0) (.opt (uC yA 22 x1 (uZ i1)) fun a=>.light (fun m=>cA yA 261 ⟨0,m⟩ a)<|uH fun n2=>.opt (uC yA 253 x0 (uZ (uW (Int.tdiv i1 2)))) fun a=>.light (fun m=>cA yA 254 ⟨0,m⟩ a)<|uL fun n5=>.opt (tY .u32 (fA .u32 n2) (uW (16*(Int.tmod i1 2))))<|uL fun n=>.opt (jI Nat.lor .u32 n5 n)<|uL fun n=>.opt (uC yA 253 x0 (uZ (uW (Int.tdiv i1 2)))) fun a=>.heavy (mC yA 254 a (.int .u32 n)) fun _=>.jump 2 [x0,x1,uZ i0,(kC i1)]) (.ret x0)
def t236:T:=.opt (pC x0)<|uI fun n=>.heavy (fP yA 253 (uZ n) (uZ n)) fun a=>.opt (pC x0)<|uI fun n=>.jump 2 [x0,.int .u32 i0,a,.int .u32 0,(uZ (uW (n-1)))]
def Xu:T:=.ite (gE 0 i2) (.opt (uC yA 253 x0 (uZ i2)) fun a=>.light (fun m=>cA yA 254 ⟨0,m⟩ a)<|uL fun n=>.call 268 [.int .u32 i1,.int .u32 n,.int .u32 i0] fun a=>.opt (uX 0 a)<|uL fun n5=>.opt (uX 1 a)<|uL fun n=>.opt (uC yA 253 x1 (uZ i2)) fun a=>.heavy (mC yA 254 a (.int .u32 n5)) fun _=>.jump 2 [x0,.int .u32 i0,x1,.int .u32 n,(uZ (uW (i2-1)))]) (.call 247 [x1] fun a=>.ret (.tup [a,.int .u32 i1]))
def t237:T:=.heavy (jL x0) fun a=>.ret (.func (.func 269) [] [a])
def t239:T:=.ite (gE (Int.ofNat (yB l1)) (Int.ofNat (yB l0))) (.opt (vF yA 9 kL (.str l0) none (some (uZ (Int.ofNat (yB l1)))))<|uS fun s=>.ret (.bool (qF s l1))) wC
def t240:T:=.call 239 [.str l0,.str l1]<|uB fun b=>.ite (!b) (.ret (.tup [.str l0,.bool false])) (.opt (vF yA 9 kL (.str l0) (some (uZ (Int.ofNat (yB l1)))) none)<|uS fun s=>.ret (.tup [.str s,.bool true]))
def t241:T:=.jump 2 [x0,uZ 0,uZ i0]
def t241_2:T:=.ite (fB i0 i1) (.callv x0 [(uZ (uW (Int.fdiv (fA .u64 (uW (i0+i1))) 2)))]<|uB fun b=>.ite (!b) (.jump 2 [x0,(uZ (uW ((uW (Int.fdiv (fA .u64 (uW (i0+i1))) 2))+1))),uZ i1]) (.jump 2 [x0,uZ i0,(uZ (uW (Int.fdiv (fA .u64 (uW (i0+i1))) 2)))])) (.ret (uZ i0))
def t242:T:=.light (fun m=>cA yA 3 ⟨0,m⟩ x0)<|uI fun n1=>.call 189 [(kC i0)]<|uI fun n=>.light (fun m=>cA yA 3 ⟨0,m⟩ x0) fun a=>.ite (same 10 a (uZ n1)) (.ret (.bool (fB n1 n))) .fail
def t243:T:=.ret (uZ (uW ((uW ((uW (Int.tdiv i0 4))-(uW (Int.tdiv i0 100))))+(uW (Int.tdiv i0 400)))))
def t244:T:=.ite (fB i1 1) (.ret (uZ 0)) (.ite (fB 12 i1) (.ret (uZ 0)) (.ite (lB i1 2) (.call 271 [uZ i0]<|uB fun b=>.ite b (.ret (uZ 29)) (uQ16 i1)) (uQ16 i1)))
def t246:T:=.heavy (jL x0) fun a0=>.heavy (iL yA 270) fun a=>.heavy (mC yA 270 a (.int .u64 0)) fun _=>.ret (.func (.func 276) [] [a,a0])
def t247:T:=.jump 2 [x0]
def Ry:T:=.opt (pC x0)<|uI fun n=>.ite (fB 0 n) (.opt (pC x0)<|uI fun n=>.opt (uC yA 253 x0 (uZ (uW (n-1)))) fun a=>.light (fun m=>cA yA 254 ⟨0,m⟩ a)<|uL fun n=>.ite (lB n 0) (.opt (pC x0)<|uI fun n=>.light (fun m=>vF yA 253 ⟨0,m⟩ x0 none (some (uZ (uW (n-1))))) fun a=>.jump 2 [a]) (.ret x0)) (.ret x0)
def t248:T:=.call 247 [x0] fun a0=>.opt (pC a0)<|uI fun n=>.ite (lB n 0) (.ite true (.ite true (.ret (.agg [.bool false,.nilslice])) .fail) .fail) (.opt (pC a0)<|uI fun n=>.heavy (fP yA 22 (uZ (uW (2*n))) (uZ (uW (2*n)))) fun a=>.opt (pC a0)<|uI fun n=>.jump 2 [.bool g0,a,a0,uZ n,uZ 0,.bool false,.nilslice])
def Xs:T:=.ite (fB i1 i0) (.opt (uC yA 253 x1 (uZ i1)) fun a=>.light (fun m=>cA yA 254 ⟨0,m⟩ a)<|uL fun n=>.opt (uC yA 22 x0 (uZ (uW (2*i1)))) fun a=>.heavy (mC yA 261 a (.int .u16 (fA .u16 n))) fun _=>.opt (uC yA 22 x0 (uZ (uW ((uW (2*i1))+1)))) fun a=>.heavy (mC yA 261 a (.int .u16 (fA .u16 (Int.fdiv n 65536)))) fun _=>.jump 2 [.bool g0,x0,x1,uZ i0,(kC i1),.bool g1,x2]) (.opt (pC x0)<|uI fun n=>.opt (uC yA 22 x0 (uZ (uW (n-1)))) fun a=>.light (fun m=>cA yA 261 ⟨0,m⟩ a)<|uH fun n=>.ite (lB n 0) (.opt (pC x0)<|uI fun n=>.light (fun m=>vF yA 22 ⟨0,m⟩ x0 none (some (uZ (uW (n-1))))) fun a=>.ite (jB [.bool g0,a]) (.ite (jB [.bool g0,a]) (.ret (.agg [.bool g0,a])) .fail) .fail) (.ite (jB [.bool g0,x0]) (.ite (jB [.bool g0,x0]) (.ret (.agg [.bool g0,x0])) .fail) .fail))
def t249:T:=.call 277 [.agg [.bool g0,x0],.agg [.bool g1,x1]] fun a=>.opt (uX 0 a)<|uG bK fun X2=>.opt (uX 1 a)<|uG bK fun X=>.opt (uX 2 a)<|uI fun n=>.ite (jB (rH X2)) (.ite (jB (rH X)) (.ite (jB (rH X2)) (.ite (same 10 (gH X) (gH X)) (.ite (jB (rH X)) (.ret (.tup [(gH X2),(gH X)])) .fail) .fail) .fail) .fail) .fail
def t250:T:=.opt ((Cu .eql).f yA 22 (.tmp 3) (.const (.slice none 0 0)) x0 .nilslice)<|uB fun b=>.ite b (.ret .nilslice) (.heavy (tE yA 22 0 []) fun a=>.heavy (sH yA 22 22 a x0) fun a=>.ret a)
def t251:T:=.heavy (jL x0) fun a=>.ret (.func (.func 278) [] [a])
def t261:T:=.ite (fB 1 (Int.ofNat (yB l0)))
 (.opt (rI yA 9 (.str l0) (.int .i64 0)) fun a0=>.asI .u8 a0 fun n1=>.ret (.bool (lB n1 48)))
 (.ret (.bool false))
def t267:T:=.heavy (tE yA 323 2 [(0,(.agg [.bool g0,x0])),(1,(.agg [.bool g1,x1]))]) fun a=>.call 288 [a]<|uB fun b=>.ite (!b) (.ite true (.ite true (.ret (.tup [.agg [.bool false,.nilslice],uZ 2])) .fail) .fail) (.call 235 [x0] fun a3=>.ite (same 10 x1 x1) (.call 235 [x1] fun a=>.call 289 [a3,a] fun a=>.call 248 [.bool false,a]<|uG bK fun X=>.ite (jB (rH X)) (.ret (.tup [(gH X),uZ 0])) .fail) .fail)
def t268:T:=.ite (!lB i2 0) (.ite (gE i2 i0) (.light (fun m=>cA yA 103 ⟨0,m⟩ (.ptr 4 0)) fun a=>vC (zA.asIface a) fun p=>.call pn [.iface p.1 p.2] fun a=>.jump 7 [.int .u32 i0,.int .u32 i1,.int .u32 i2]) (.jump 7 [.int .u32 i0,.int .u32 i1,.int .u32 i2])) (.jump 7 [.int .u32 i0,.int .u32 i1,.int .u32 i2])
def zkx:T:=.opt (jI Nat.lor .u64 (fA .u64 ((fA .u64 i0)*4294967296)) (fA .u64 i1))<|uE fun n1=>.opt (Bu .u64 n1 (fA .u64 i2))<|uE fun n3=>.opt (Bt .u64 n1 (fA .u64 i2))<|uE fun n=>.ret (.tup [(.int .u32 (fA .u32 n3)),(.int .u32 (fA .u32 n))])
def t269:T:=.light (fun m=>cA yA 253 ⟨0,m⟩ x1) fun a=>.opt (pC a)<|uI fun n=>.jump 2 [x0,x1,(uZ (uW (n-1)))]
def Xr:T:=.ite (gE 0 i0) (.light (fun m=>cA yA 253 ⟨0,m⟩ x1) fun a=>.opt (uC yA 253 a (uZ i0)) fun a=>.light (fun m=>cA yA 254 ⟨0,m⟩ a)<|uL fun n=>.callv x0 [.int .u32 n]<|uB fun b=>.ite (!b) (.ret (.tup [])) (.jump 2 [x0,x1,(uZ (uW (i0-1)))])) (.ret (.tup []))
def t271:T:=.ite (lB (Int.tmod i0 4) 0) (.ite (!lB (Int.tmod i0 100) 0) yI (.ret (.bool (lB (Int.tmod i0 400) 0)))) wC
def t276:T:=.light (fun m=>cA yA 270 ⟨0,m⟩ x0)<|uE fun n=>.light (fun m=>cA yA 287 ⟨0,m⟩ x1) fun a2=>.light (fun m=>cA yA 287 ⟨0,m⟩ x1) fun a3=>.opt (sC a3) fun a4=>.light (fun m=>cA yA 253 ⟨0,m⟩ a4) fun a5=>.heavy (tE yA 253 1 [(0,(.int .u32 (fA .u32 (fA .u64 (i0+n)))))]) fun a6=>.light (fun m=>cA yA 287 ⟨0,m⟩ x1) fun a=>.ite (same 10 a a2) (.light (fun m=>cA yA 287 ⟨0,m⟩ x1) fun a=>.ite (same 10 a a3) (.light (fun m=>cA yA 253 ⟨0,m⟩ a4) fun a=>.ite (same 10 a a5) (.heavy (sH yA 253 253 a5 a6) fun a10=>.light (fun m=>cA yA 287 ⟨0,m⟩ x1) fun a=>.ite (same 10 a a2) (.opt (sC a2) fun a=>.heavy (mC yA 253 a a10) fun _=>.heavy (mC yA 270 x0 (.int .u64 (Int.fdiv (fA .u64 (i0+n)) 4294967296))) fun _=>.ret (.tup [])) .fail) .fail) .fail) .fail
def t277:T:=.heavy (tE yA 323 2 [(0,(.agg [.bool g0,x0])),(1,(.agg [.bool g1,x1]))]) fun a=>.call 288 [a]<|uB fun b=>.ite (!b) (.ite true (.ite true (.ite true (.ite true (.ret (.tup [.agg [.bool false,.nilslice],.agg [.bool false,.nilslice],uZ 2])) .fail) .fail) .fail) .fail) (.opt (pC x1)<|uI fun n=>.ite (lB n 0) (.ite true (.ite true (.ite true (.ite true (.ret (.tup [.agg [.bool false,.nilslice],.agg [.bool false,.nilslice],uZ 11])) .fail) .fail) .fail) .fail) (.call 235 [x1] fun a5=>.call 235 [x0] fun a=>.call 295 [a,a5] fun a7=>.opt (uX 0 a7) fun a8=>.opt (uX 1 a7) fun a9=>.ite (!bEq g0 g1) (.opt (pC a9)<|uI fun n=>.ite (fB 0 n) (.heavy (tE yA 253 1 [(0,(.int .u32 1))]) fun a=>.call 296 [a8,a] fun a13=>.call 297 [a5,a9] fun a=>.jump 21 [a13,a,.bool g0,x0,.bool g1,x1,.bool false,.nilslice,.bool false,.nilslice]) (.jump 21 [a8,a9,.bool g0,x0,.bool g1,x1,.bool false,.nilslice,.bool false,.nilslice])) (.jump 21 [a8,a9,.bool g0,x0,.bool g1,x1,.bool false,.nilslice,.bool false,.nilslice])))
def za6:T:=.call 248 [(.bool (!bEq g0 g1)),x0]<|uG bK fun X1=>.ite (same 10 (.bool g1) (.bool g1)) (.call 248 [.bool g1,x1]<|uG bK fun X=>.ite (jB (rH X1)) (.ite (jB (rH X)) (.ret (.tup [(gH X1),(gH X),uZ 0])) .fail) .fail) .fail
def t278:T:=.light (fun m=>cA yA 22 ⟨0,m⟩ x1) fun a=>.opt (pC a)<|uI fun n=>.jump 2 [x0,x1,(uZ (uW (n-1)))]
def Xq:T:=.ite (gE 0 i0) (.light (fun m=>cA yA 22 ⟨0,m⟩ x1) fun a=>.opt (uC yA 22 a (uZ i0)) fun a=>.light (fun m=>cA yA 261 ⟨0,m⟩ a)<|uH fun n=>.callv x0 [.int .u16 n]<|uB fun b=>.ite (!b) (.ret (.tup [])) (.jump 2 [x0,x1,(uZ (uW (i0-1)))])) (.ret (.tup []))
def t288:T:=.opt (pC x0)<|uI fun n=>.jump 2 [x0,uZ n,uZ 0]
def Xp:T:=.ite (fB i1 i0) (.opt (uC yA 323 x0 (uZ i1)) fun a=>.light (fun m=>cA yA 24 ⟨0,m⟩ a)<|uG bK fun X=>.ite (jB (rH X)) (.call 196 [(gH X)]<|uB fun b=>.ite (!b) wC (.jump 2 [x0,uZ i0,(kC i1)])) .fail) yI
def t289:T:=.call 300 [x0,x1]<|uI fun n=>.ite (fB n 0) (.jump 2 [x1,x0]) (.jump 2 [x0,x1])
def zku:T:=.opt (pC x1)<|uI fun n=>.ite (fB 2 n) (.call 301 [x0,x1]<|uG [.int .u64 0,.int .u64 0,.int .u64 0,.int .u64 0,.bool false] fun X=>.ite true (.ite (lB (X.i 2) 0) (.call 295 [x0,x1] fun a4=>.opt (uX 0 a4) fun a=>.opt (uX 1 a4) fun a=>.jump 2 [x1,a]) (.ite (X.b 4) (.call 302 [.int .u64 (X.i 0),x0,.int .u64 (X.i 2),x1] fun a7=>.ite (same 10 (.int .u64 (X.i 3)) (.int .u64 (X.i 3))) (.ite (same 10 (.int .u64 (X.i 1)) (.int .u64 (X.i 1))) (.call 302 [.int .u64 (X.i 3),x1,.int .u64 (X.i 1),x0] fun a=>.jump 2 [a7,a]) .fail) .fail) (.call 302 [.int .u64 (X.i 2),x1,.int .u64 (X.i 0),x0] fun a9=>.ite (same 10 (.int .u64 (X.i 1)) (.int .u64 (X.i 1))) (.ite (same 10 (.int .u64 (X.i 3)) (.int .u64 (X.i 3))) (.call 302 [.int .u64 (X.i 1),x0,.int .u64 (X.i 3),x1] fun a=>.jump 2 [a9,a]) .fail) .fail))) .fail) (.opt (pC x1)<|uI fun n=>.ite (lB n 0) (.ret x0) (.opt (pC x0)<|uI fun n=>.ite (fB 2 n) (.call 295 [x0,x1] fun a15=>.opt (uX 0 a15) fun a=>.opt (uX 1 a15) fun a=>.jump 33 [x1,a]) (.jump 33 [x0,x1])))
def za5:T:=.call 303 [x0]<|uE fun n1=>.call 303 [x1]<|uE fun n=>.jump 6 [.int .u64 n1,.int .u64 n]
def zkt:T:=.ite (!lB i1 0) (.opt (Bt .u64 i0 i1)<|uE fun n=>.jump 6 [.int .u64 i1,.int .u64 n]) (.call 304 [.int .u64 i0] fun a=>.ret a)
def t295:T:=.call 300 [x0,x1]<|uI fun n=>.ite (fB n 0) (.call 307 [x0] fun a=>.ret (.tup [.nilslice,a])) (.opt (pC x1)<|uI fun n=>.ite (lB n 1) (.opt (uC yA 253 x1 (uZ 0)) fun a=>.light (fun m=>cA yA 254 ⟨0,m⟩ a)<|uL fun n=>.call 236 [x0,.int .u32 n] fun a8=>.opt (uX 0 a8) fun a9=>.opt (uX 1 a8)<|uL fun n=>.heavy (tE yA 253 1 [(0,(.int .u32 n))]) fun a=>.call 247 [a] fun a=>.ret (.tup [a9,a])) (.opt (pC x1)<|uI fun n15=>.opt (uC yA 253 x1 (uZ (uW (n15-1)))) fun a=>.light (fun m=>cA yA 254 ⟨0,m⟩ a)<|uL fun n=>.call 308 [.int .u32 n]<|uI fun n20=>.call 309 [x1,uZ n20] fun a=>.light (fun m=>vF yA 253 ⟨0,m⟩ a none (some (uZ n15))) fun a22=>.call 309 [x0,uZ n20] fun a23=>.opt (pC x0)<|uI fun n=>.heavy (fP yA 253 (uZ (uW ((uW (n-n15))+1))) (uZ (uW ((uW (n-n15))+1)))) fun a=>.opt (pC a)<|uI fun n=>.jump 2 [uZ n15,uZ n20,a22,a23,a,(uZ (uW (n-1)))]))
def Xo:T:=.ite (gE 0 i2) (.light (fun m=>vF yA 253 ⟨0,m⟩ x1 (some (uZ i2)) (some (uZ (uW ((uW (i2+i0))+1))))) fun a=>.call 310 [a,x0]<|uL fun n=>.opt (uC yA 253 x2 (uZ i2)) fun a=>.heavy (mC yA 254 a (.int .u32 n)) fun _=>.jump 2 [uZ i0,uZ i1,x0,x1,x2,(uZ (uW (i2-1)))]) (.jump 6 [uZ i0,uZ i1,x1,x2,uZ i0,uZ 0])
def Xn:T:=.ite (fB i3 i2) (.opt (uC yA 253 x0 (kC i3)) fun a=>.light (fun m=>cA yA 254 ⟨0,m⟩ a)<|uL fun n2=>.opt (uC yA 253 x0 (uZ i3)) fun a=>.light (fun m=>cA yA 254 ⟨0,m⟩ a)<|uL fun n=>.opt (jI Nat.lor .u64 (fA .u64 ((fA .u64 n2)*4294967296)) (fA .u64 n))<|uE fun n=>.opt (Ho .u64 n i1)<|uE fun n=>.opt (uC yA 253 x0 (uZ i3)) fun a=>.heavy (mC yA 254 a (.int .u32 (fA .u32 n))) fun _=>.jump 6 [uZ i0,uZ i1,x0,x1,uZ i2,(kC i3)]) (.light (fun m=>vF yA 253 ⟨0,m⟩ x0 none (some (uZ i0))) fun a11=>.call 247 [x1] fun a12=>.light (fun m=>vF yA 253 ⟨0,m⟩ x0 none (some (uZ i0))) fun a=>.ite (same 10 a a11) (.call 247 [a11] fun a=>.ret (.tup [a12,a])) .fail)
def t300:T:=.opt (pC x0)<|uI fun n1=>.opt (pC x1)<|uI fun n=>.ite (!lB n1 n) (.opt (pC x0)<|uI fun n5=>.opt (pC x1)<|uI fun n=>.ite (fB n5 n) (.ret (uZ (-1))) (.ret (uZ 1))) (.opt (pC x0)<|uI fun n=>.jump 2 [x0,x1,(uZ (uW (n-1)))])
def Xl:T:=.ite (gE 0 i0) (.opt (uC yA 253 x0 (uZ i0)) fun a=>.light (fun m=>cA yA 254 ⟨0,m⟩ a)<|uL fun n2=>.opt (uC yA 253 x1 (uZ i0)) fun a=>.light (fun m=>cA yA 254 ⟨0,m⟩ a)<|uL fun n=>.ite (!lB n2 n) (.opt (uC yA 253 x0 (uZ i0)) fun a=>.light (fun m=>cA yA 254 ⟨0,m⟩ a)<|uL fun n8=>.opt (uC yA 253 x1 (uZ i0)) fun a=>.light (fun m=>cA yA 254 ⟨0,m⟩ a)<|uL fun n=>.ite (fB n8 n) (.ret (uZ (-1))) (.ret (uZ 1))) (.jump 2 [x0,x1,(uZ (uW (i0-1)))])) (.ret (uZ 0))
def t301:T:=.opt (pC x0)<|uI fun n1=>.opt (uC yA 253 x0 (uZ (uW (n1-1)))) fun a=>.light (fun m=>cA yA 254 ⟨0,m⟩ a)<|uL fun n=>.call 308 [.int .u32 n]<|uI fun n6=>.call 315 [x0,uZ n1,uZ n6]<|uE fun n8=>.call 315 [x1,uZ n1,uZ n6]<|uE fun n=>.ite true (.ite true (.jump 2 [.int .u64 n8,.int .u64 n,.int .u64 0,.int .u64 1,.int .u64 0,.int .u64 0,.int .u64 0,.int .u64 0,.bool false,.int .u64 0,.int .u64 1,.int .u64 0,.int .u64 0,.bool false]) .fail) .fail
def zks:T:=.ite (gE i3 i1) (.ite (gE (fA .u64 (j1+i3)) (fA .u64 (i0-i1))) (.opt (Bu .u64 i0 i1)<|uE fun n1=>.opt (Bt .u64 i0 i1)<|uE fun n=>.ite true (.ite true (.ite true (.ite true (.ite true (.jump 2 [.int .u64 i1,.int .u64 n,(.int .u64 (fA .u64 (i9+(fA .u64 (n1*i2))))),(.int .u64 (fA .u64 (j1+(fA .u64 (n1*i3))))),.int .u64 i4,.int .u64 i5,.int .u64 i6,.int .u64 i7,.bool g0,.int .u64 i9,.int .u64 i2,.int .u64 j1,.int .u64 i3,(.bool (!g1))]) .fail) .fail) .fail) .fail) .fail) (.ite true (.ret (.agg [.int .u64 i8,.int .u64 i9,.int .u64 j0,.int .u64 j1,.bool g1])) .fail)) (.ite true (.ret (.agg [.int .u64 i8,.int .u64 i9,.int .u64 j0,.int .u64 j1,.bool g1])) .fail)
def t302:T:=.opt (pC x0)<|uI fun n1=>.opt (pC x1)<|uI fun n=>.heavy (fP yA 253 (uZ (uW ((bif fB n1 n then n else n1)+1))) (uZ (uW ((bif fB n1 n then n else n1)+1)))) fun a=>.opt (pC a)<|uI fun n=>.jump 2 [.int .u64 i0,x0,.int .u64 i1,x1,a,.int .u64 0,.int .u64 0,.int .u32 0,uZ n,uZ 0]
def Xk:T:=.ite (fB i6 i5) (.opt (pC x0)<|uI fun n=>.ite (fB i6 n) (.opt (uC yA 253 x0 (uZ i6)) fun a=>.light (fun m=>cA yA 254 ⟨0,m⟩ a)<|uL fun n=>.jump 17 [.int .u64 i0,x0,.int .u64 i1,x1,x2,(.int .u64 (fA .u64 (i2+(fA .u64 (i0*(fA .u64 n)))))),.int .u64 i3,.int .u32 i4,uZ i6,uZ i5,uZ i6]) (.jump 17 [.int .u64 i0,x0,.int .u64 i1,x1,x2,.int .u64 i2,.int .u64 i3,.int .u32 i4,uZ i6,uZ i5,uZ i6])) (.call 247 [x2] fun a=>.ret a)
def za4:T:=.opt (pC x1)<|uI fun n=>.ite (fB i5 n) (.opt (uC yA 253 x1 (uZ i5)) fun a=>.light (fun m=>cA yA 254 ⟨0,m⟩ a)<|uL fun n=>.jump 21 [.int .u64 i0,x0,.int .u64 i1,x1,x2,.int .u64 i2,(.int .u64 (fA .u64 (i3+(fA .u64 (i1*(fA .u64 n)))))),.int .u32 i4,uZ i5,uZ i6,uZ i7]) (.jump 21 [.int .u64 i0,x0,.int .u64 i1,x1,x2,.int .u64 i2,.int .u64 i3,.int .u32 i4,uZ i5,uZ i6,uZ i7])
def za3:T:=.call 311 [(.int .u32 (fA .u32 i2)),(.int .u32 (fA .u32 i3)),.int .u32 i4] fun a=>.opt (uX 0 a)<|uL fun n2=>.opt (uX 1 a)<|uL fun n=>.opt (uC yA 253 x2 (uZ i5)) fun a=>.heavy (mC yA 254 a (.int .u32 n2)) fun _=>.jump 2 [.int .u64 i0,x0,.int .u64 i1,x1,x2,(.int .u64 (Int.fdiv i2 4294967296)),(.int .u64 (Int.fdiv i3 4294967296)),.int .u32 n,uZ i6,(kC i7)]
def t303:T:=.heavy (iL yA 270) fun a0=>.heavy (mC yA 270 a0 (.int .u64 0)) fun _=>.call 237 [x0] fun a=>.range (bQ yA) a 2 1 [a0] (.light (fun m=>cA yA 270 ⟨0,m⟩ a0)<|uE fun n=>.ret (.int .u64 n)) (.ret (.int .u64 0))
def zkr:T:=.light (fun m=>cA yA 270 ⟨0,m⟩ x0)<|uE fun n=>.opt (jI Nat.lor .u64 (fA .u64 (n*4294967296)) (fA .u64 i0))<|uE fun n=>.heavy (mC yA 270 x0 (.int .u64 n)) fun _=>.ret (.bool true)
def t304:T:=.heavy (tE yA 253 2 [(0,(.int .u32 (fA .u32 i0))),(1,(.int .u32 (fA .u32 (Int.fdiv i0 4294967296))))]) fun a=>.call 247 [a] fun a=>.ret a
def t307:T:=.opt ((Cu .eql).f yA 253 (.tmp 3) (.const (.slice none 0 0)) x0 .nilslice)<|uB fun b=>.ite b (.ret .nilslice) (.heavy (tE yA 253 0 []) fun a=>.heavy (sH yA 253 253 a x0) fun a=>.ret a)
def t308:T:=.call 316 [.int .u32 i0]<|uI fun n=>.ret (uZ (uW (32-n)))
def t309:T:=.opt (pC x0)<|uI fun n=>.heavy (fP yA 253 (kC n) (kC n)) fun a=>.opt (pC x0)<|uI fun n=>.jump 2 [uZ i0,a,x0,uZ n,uZ 0]
def Xj:T:=.ite (fB i2 i1) (.opt (uC yA 253 x1 (uZ i2)) fun a=>.light (fun m=>cA yA 254 ⟨0,m⟩ a)<|uL fun n=>.opt (tY .u64 (fA .u64 n) i0)<|uE fun n4=>.opt (uC yA 253 x0 (uZ i2)) fun a=>.light (fun m=>cA yA 254 ⟨0,m⟩ a)<|uL fun n=>.opt (jI Nat.lor .u32 n (fA .u32 n4))<|uL fun n=>.opt (uC yA 253 x0 (uZ i2)) fun a=>.heavy (mC yA 254 a (.int .u32 n)) fun _=>.opt (uC yA 253 x0 (kC i2)) fun a=>.heavy (mC yA 254 a (.int .u32 (fA .u32 (Int.fdiv n4 4294967296)))) fun _=>.jump 2 [uZ i0,x0,x1,uZ i1,(kC i2)]) (.ret x0)
def t310:T:=.opt (pC x1)<|uI fun n1=>.opt (uC yA 253 x0 (uZ n1)) fun a=>.light (fun m=>cA yA 254 ⟨0,m⟩ a)<|uL fun n4=>.opt (uC yA 253 x0 (uZ (uW (n1-1)))) fun a=>.light (fun m=>cA yA 254 ⟨0,m⟩ a)<|uL fun n=>.opt (jI Nat.lor .u64 (fA .u64 ((fA .u64 n4)*4294967296)) (fA .u64 n))<|uE fun n9=>.opt (uC yA 253 x1 (uZ (uW (n1-1)))) fun a=>.light (fun m=>cA yA 254 ⟨0,m⟩ a)<|uL fun n12=>.opt (Bu .u64 n9 (fA .u64 n12))<|uE fun n14=>.opt (Bt .u64 n9 (fA .u64 n12))<|uE fun n=>.jump 2 [x0,x1,uZ n1,(.int .u64 (fA .u64 n12)),.int .u64 n14,.int .u64 n]
def Xh:T:=.ite (gE 4294967296 i2) (uQ13 i3 i1 x0 x1 i0 i2) (.opt (uC yA 253 x1 (uZ (uW (i0-2)))) fun a=>.light (fun m=>cA yA 254 ⟨0,m⟩ a)<|uL fun n2=>.opt (uC yA 253 x0 (uZ (uW (i0-2)))) fun a=>.light (fun m=>cA yA 254 ⟨0,m⟩ a)<|uL fun n=>.opt (jI Nat.lor .u64 (fA .u64 (i3*4294967296)) (fA .u64 n))<|uE fun n=>.ite (fB n (fA .u64 (i2*(fA .u64 n2)))) (uQ13 i3 i1 x0 x1 i0 i2) (.jump 19 [x0,x1,uZ i0,.int .u64 i2]))
def za2:T:=.opt (pC x1)<|uI fun n=>.jump 6 [x0,x1,uZ i0,.int .u64 i1,.int .u64 0,.int .u64 0,x1,uZ n,uZ 0]
def Xg:T:=.ite (fB i5 i4) (.opt (uC yA 253 x2 (uZ i5)) fun a=>.light (fun m=>cA yA 254 ⟨0,m⟩ a)<|uL fun n2=>.opt (uC yA 253 x0 (uZ i5)) fun a=>.light (fun m=>cA yA 254 ⟨0,m⟩ a)<|uL fun n=>.opt (uC yA 253 x0 (uZ i5)) fun a=>.heavy (mC yA 254 a (.int .u32 (fA .u32 (fA .u64 ((fA .u64 ((fA .u64 n)-(fA .u64 (fA .u32 (fA .u64 ((fA .u64 (i1*(fA .u64 n2)))+i2))))))-i3))))) fun _=>.jump 6 [x0,x1,uZ i0,.int .u64 i1,(.int .u64 (Int.fdiv (fA .u64 ((fA .u64 (i1*(fA .u64 n2)))+i2)) 4294967296)),(.int .u64 (Int.fdiv (fA .u64 ((fA .u64 ((fA .u64 n)-(fA .u64 (fA .u32 (fA .u64 ((fA .u64 (i1*(fA .u64 n2)))+i2))))))-i3)) 9223372036854775808)),x2,uZ i4,(kC i5)]) (.opt (uC yA 253 x0 (uZ i0)) fun a=>.light (fun m=>cA yA 254 ⟨0,m⟩ a)<|uL fun n=>.opt (uC yA 253 x0 (uZ i0)) fun a=>.heavy (mC yA 254 a (.int .u32 (fA .u32 (fA .u64 ((fA .u64 ((fA .u64 n)-i2))-i3))))) fun _=>.ite (lB (Int.fdiv (fA .u64 ((fA .u64 ((fA .u64 n)-i2))-i3)) 9223372036854775808) 0) (.ret (.int .u32 (fA .u32 i1))) (.opt (pC x1)<|uI fun n=>.jump 10 [x0,uZ i0,.int .u64 i1,.int .u32 0,x1,uZ n,uZ 0]))
def Xi:T:=.ite (fB i4 i3) (.opt (uC yA 253 x1 (uZ i4)) fun a=>.light (fun m=>cA yA 254 ⟨0,m⟩ a)<|uL fun n2=>.opt (uC yA 253 x0 (uZ i4)) fun a=>.light (fun m=>cA yA 254 ⟨0,m⟩ a)<|uL fun n=>.call 317 [.int .u32 n,.int .u32 n2,.int .u32 i2] fun a=>.opt (uX 0 a)<|uL fun n8=>.opt (uX 1 a)<|uL fun n=>.opt (uC yA 253 x0 (uZ i4)) fun a=>.heavy (mC yA 254 a (.int .u32 n8)) fun _=>.jump 10 [x0,uZ i0,.int .u64 i1,.int .u32 n,x1,uZ i3,(kC i4)]) (.opt (uC yA 253 x0 (uZ i0)) fun a=>.light (fun m=>cA yA 254 ⟨0,m⟩ a)<|uL fun n=>.opt (uC yA 253 x0 (uZ i0)) fun a=>.heavy (mC yA 254 a (.int .u32 (fA .u32 (n+i2)))) fun _=>.ret (.int .u32 (fA .u32 (fA .u64 (i1-1)))))
def t311:T:=.opt (Gj (.int .u32 i0))<|uL fun n=>.opt (iAnd .u32 n i1)<|uL fun n3=>.opt (jI Nat.xor .u32 i0 i1)<|uL fun n=>.opt (Gj (.int .u32 n))<|uL fun n=>.opt (iAnd .u32 n (fA .u32 ((fA .u32 (i0-i1))-i2)))<|uL fun n=>.opt (jI Nat.lor .u32 n3 n)<|uL fun n=>.ret (.tup [(.int .u32 (fA .u32 ((fA .u32 (i0-i1))-i2))),(.int .u32 (Int.fdiv n 2147483648))])
def t315:T:=.heavy (jL x0) fun a=>.callv (.func (.func 320) [] [a]) [(uZ (uW (i0-1)))]<|uE fun n2=>.callv (.func (.func 320) [] [a]) [(uZ (uW (i0-2)))]<|uE fun n=>.opt (jI Nat.lor .u64 (fA .u64 (n2*4294967296)) n)<|uE fun n=>.opt (tY .u64 n i1)<|uE fun n8=>.callv (.func (.func 320) [] [a]) [(uZ (uW (i0-3)))]<|uE fun n=>.opt (Ho .u64 n (uW (32-i1)))<|uE fun n=>.opt (jI Nat.lor .u64 n8 n)<|uE fun n=>.ret (.int .u64 n)
def t316:T:=.ite (gE 65536 i0) (.jump 9 [(.int .u32 (Int.fdiv i0 65536)),uZ 16]) (.jump 9 [.int .u32 i0,uZ 0])
def Xd:T:=.ite (gE 256 i0) (.jump 15 [(.int .u32 (Int.fdiv i0 256)),(uZ (uW (i1+8)))]) (.jump 15 [.int .u32 i0,uZ i1])
def zaz:T:=.opt (rI yA 9 (.str [0,1,2,2,3,3,3,3,4,4,4,4,4,4,4,4,5,5,5,5,5,5,5,5,5,5,5,5,5,5,5,5,6,6,6,6,6,6,6,6,6,6,6,6,6,6,6,6,6,6,6,6,6,6,6,6,6,6,6,6,6,6,6,6,7,7,7,7,7,7,7,7,7,7,7,7,7,7,7,7,7,7,7,7,7,7,7,7,7,7,7,7,7,7,7,7,7,7,7,7,7,7,7,7,7,7,7,7,7,7,7,7,7,7,7,7,7,7,7,7,7,7,7,7,7,7,7,7,8,8,8,8,8,8,8,8,8,8,8,8,8,8,8,8,8,8,8,8,8,8,8,8,8,8,8,8,8,8,8,8,8,8,8,8,8,8,8,8,8,8,8,8,8,8,8,8,8,8,8,8,8,8,8,8,8,8,8,8,8,8,8,8,8,8,8,8,8,8,8,8,8,8,8,8,8,8,8,8,8,8,8,8,8,8,8,8,8,8,8,8,8,8,8,8,8,8,8,8,8,8,8,8,8,8,8,8,8,8,8,8,8,8,8,8,8,8,8,8,8,8,8,8,8,8,8,8]) (uY (fA .u8 i0)))<|uU fun n=>.ret (uZ (uW (i1+(uW n))))
def t317:T:=.ret (.tup [(.int .u32 (fA .u32 (fA .u64 ((fA .u64 ((fA .u64 i0)+(fA .u64 i1)))+(fA .u64 i2))))),(.int .u32 (fA .u32 (Int.fdiv (fA .u64 ((fA .u64 ((fA .u64 i0)+(fA .u64 i1)))+(fA .u64 i2))) 4294967296)))])
def t320:T:=.light (fun m=>cA yA 253 ⟨0,m⟩ x0) fun a=>.opt (pC a)<|uI fun n=>.ite (gE n i0) (.ret (.int .u64 0)) (.light (fun m=>cA yA 253 ⟨0,m⟩ x0) fun a=>.opt (uC yA 253 a (uZ i0)) fun a=>.light (fun m=>cA yA 254 ⟨0,m⟩ a)<|uL fun n=>.ret (.int .u64 (fA .u64 n)))
def e307(p0:zA):entT yA (fo 307) (ko 307) 307 (ao 307) [p0]=t307 p0:=by kernel_rfl
def e317(p0 p1 p2:Int):entT yA (fo 317) (ko 317) 317 (ao 317) [.int .u32 p0,.int .u32 p1,.int .u32 p2]=t317 p0 p1 p2:=by kernel_rfl
variable {i0 i1 i2 i3 i4 i5 i6 i7 i8 i9 j0 j1 j2 j3 j4 j5 j6 j7}{l0 l1 l2 l3 l4 l5 l6 l7}{x0 x1 x2 x3 x4 x5 x6 x7 x8 x9 y0 y1}{g0 g1 g2 g3 g4 g5 g6 g7 g8 g9}
def w4:zW 4 (t4 i0 i1 i2 l0 x0 x1 x2 g0 g1) [.agg [uY i0,.str l0,uY i1,.bool g0,x0,.bool g1,x1,uZ i2,x2]]:=wA
def j4_27:zJ 4 27 (t4_27 i0 i1 i2 i3 i4 l0 x0 x1 g0 g1) [uZ i0,.str l0,uZ i1,uY i2,.str l1,uY i3,.bool g0,x0,.bool g1,x1,uZ i4,x2]:=jA
def w8:zW 8 (t8 i0 i1 i2 i3 l0 x0 x1 x2 g0 g1) [.agg [uY i0,.str l0,uY i1,.bool g0,x0,.bool g1,x1,uZ i2,x2],uZ i3]:=wA
def j8_2:zJ 8 2 (t8_2 i0 i1 i2 i3 i4 i5 l0 x0 x1 x2 g0 g1) [uZ i0,uZ i1,uZ i2,uY i3,.str l0,uY i4,.bool g0,x0,.bool g1,x1,uZ i5,x2]:=jA
def w9:zW 9 (t9 i0 i1 i2 l0 x0 x1 x2 g0 g1) [.agg [uY i0,.str l0,uY i1,.bool g0,x0,.bool g1,x1,uZ i2,x2]]:=wA
def w11:zW 11 (t11 l0) [.str l0]:=wA
def w12:zW 12 (t12 i0 i1 i2 i3 i4 i5 l0 l1 x0 x1 x2 x3 x4 x5 g0 g1 g2 g3) [.agg [uY i0,.str l0,uY i1,.bool g0,x0,.bool g1,x1,uZ i2,x2],.agg [uY i3,.str l1,uY i4,.bool g2,x3,.bool g3,x4,uZ i5,x5]]:=wA
def w13:zW 13 (t13 i0 i1 x0 x1 g0 g1) [.agg [uY i0,.bool g0,x0,.bool g1,x1,uZ i1]]:=wA
def w14:zW 14 (t14 l0) [.str l0]:=wA
def w15:zW 15 (t15 i0 i1 i2 i3 x0 x1 x2 x3 g0 g1 g2 g3) [.agg [uY i0,.bool g0,x0,.bool g1,x1,uZ i1],.agg [uY i2,.bool g2,x2,.bool g3,x3,uZ i3]]:=wA
def w25:zW 25 (t25 x0 x1) [.agg [.bool g0,x0,.bool g1,x1]]:=wA
def w26:zW 26 (t26 ) []:=wA
def w27:zW 27 (t27 i0 i1 i2 i3 l0 x0 x1 x2 x3 g0 g1) [.agg [x0],.agg [uY i0,.str l0,uY i1,.bool g0,x1,.bool g1,x2,uZ i2,x3],uZ i3]:=wA
def j27_33:zJ 27 33 (zkw i0 i4 i5 x0 x3 x4 x5 g2 g3) [uZ i0,x0,uY i1,.str l0,uY i2,.bool g0,x1,.bool g1,x2,uZ i3,x3,uY i4,.bool g2,x4,.bool g3,x5,uZ i5]:=jA
def j27_4:zJ 27 4 (zn4 i0 i1 i2 x0 x1) [uZ i0,x0,uZ i1,uZ i2,x1]:=jA
def w28:zW 28 (t28 i0 i1 i2 l0 x0 x1 x2 g0 g1) [.agg [uY i0,.str l0,uY i1,.bool g0,x0,.bool g1,x1,uZ i2,x2]]:=wA
def w33:zW 33 (t33 x0 x1) [x0,x1]:=wA
def j33_2:zJ 33 2 (t33_2 i0 x0 x1) [x0,x1,uZ i0]:=jA
def w34:zW 34 (t34 i0 i1 x0 x1 g0 g1) [.agg [uY i0,.bool g0,x0,.bool g1,x1,uZ i1]]:=wA
def w35:zW 35 (t35 i0 i1 x0 x1 g0 g1) [.agg [uY i0,.bool g0,x0,.bool g1,x1,uZ i1]]:=wA
def w40:zW 40 (t40 x0 x1 x2 x3 g0 g1 g2 g3) [.agg [.bool g0,x0,.bool g1,x1],.agg [.bool g2,x2,.bool g3,x3]]:=wA
def w42:zW 42 (t42 l0 x0) [x0,.str l0]:=wA
def w43:zW 43 (t43 x0) [x0]:=wA
def w59:zW 59 (t59 ) []:=wA
def w60:zW 60 (t60 l0) [.str l0]:=wA
def w61:zW 61 (t61 i0 i1 x0 x1 g0 g1) [.agg [uY i0,.bool g0,x0,.bool g1,x1,uZ i1]]:=wA
def w62:zW 62 (t62 i0 i1 i2 l0 x0 x1 x2 x3 g0 g1) [x0,.agg [uY i0,.str l0,uY i1,.bool g0,x1,.bool g1,x2,uZ i2,x3]]:=wA
def w63:zW 63 (t63 l0) [.str l0]:=wA
def j63_2:zJ 63 2 (zn3 i0 i1 i2 i3 l0 x0 x1 x2 x3) [x0,x1,x2,x3,.agg [uY i0,.str l0,uZ i1,uZ i2],uZ i3]:=jA
def w64:zW 64 (t64 i0 l0) [.str l0,uZ i0]:=wA
def w69:zW 69 (t69 x0 x1 g0 g1) [.agg [.bool g0,x0,.bool g1,x1]]:=wA
def w70:zW 70 (t70 x0 x1 g0 g1) [.agg [.bool g0,x0,.bool g1,x1]]:=wA
def w71:zW 71 (t71 i0) [uZ i0]:=wA
def w72:zW 72 (t72 g0) [.bool g0]:=wA
def w73:zW 73 (t73 x0 x1 g0 g1) [.agg [.bool g0,x0,.bool g1,x1]]:=wA
def w74:zW 74 (t74 i0) [uZ i0]:=wA
def w75:zW 75 (t75 i0) [uZ i0]:=wA
def w77:zW 77 (t77 x0) [x0]:=wA
def w78:zW 78 (t78 l0 x0) [x0,.str l0]:=wA
def w80:zW 80 (t80 l0 g0) [.str l0,.bool g0]:=wA
def j80_9:zJ 80 9 (t80_9 l0 l1 g0) [.bool g0,.str l0,.str l1,.bool g1,x0,.bool g2,x1]:=jA
def w82:zW 82 (t82 x0 x1 g0 g1) [.agg [.bool g0,x0],.agg [.bool g1,x1]]:=wA
def w116:zW 116 (t116 i0 i1 l0 g0) [.str l0,.bool g0,uZ i0,uZ i1]:=wA
def w117:zW 117 (t117 l0) [.str l0]:=wA
def w118:zW 118 (t118 i0 i1 i2 l0) [.str l0,uZ i0,uZ i1,uZ i2]:=wA
def w119:zW 119 (t119 i0) [uY i0]:=wA
def w120:zW 120 (t120 l0 x0) [.str l0,x0]:=wA
def zmh:zJ 120 2 (Yn i0 l0 x0) [.str l0,x0,uZ i0]:=jA
def w121:zW 121 (t121 i0) [uY i0]:=wA
def w122:zW 122 (t122 l0) [.str l0]:=wA
def w123:zW 123 (t123 i0 i1 i2 i3 l0 x0 x1 x2 x3 g0 g1) [x0,.agg [uY i0,.str l0,uY i1,.bool g0,x1,.bool g1,x2,uZ i2,x3],uZ i3]:=wA
def w124:zW 124 (t124 i0 i1 i2 l0 x0 x1 x2 x3 x4 g0 g1) [x0,.agg [uY i0,.str l0,uY i1,.bool g0,x1,.bool g1,x2,uZ i2,x3],x4]:=wA
def j124_9:zJ 124 9 (zk3 i0 i1 i2 l0 x0 x1 x2 x3 g0 g1) [x0,uY i0,.str l0,uY i1,.bool g0,x1,.bool g1,x2,uZ i2,x3]:=jA
def zmg:zJ 124 2 (Ym i0 i1 i2 i3 i4 l0 x0 x1 x2 x3 x4 g0 g1) [x0,x1,uZ i0,uZ i1,uY i2,.str l0,uY i3,.bool g0,x2,.bool g1,x3,uZ i4,x4]:=jA
def w125:zW 125 (t125 l0) [.str l0]:=wA
def w127:zW 127 (t127 i0 l0) [.str l0,uY i0]:=wA
def w128:zW 128 (t128 x0 x1) [x0,x1]:=wA
def zmf:zJ 128 2 (Yl i0 i1 x0 x1) [x0,x1,uZ i0,uZ i1]:=jA
def w130:zW 130 (t130 x0 x1 g0 g1) [.agg [.bool g0,x0,.bool g1,x1]]:=wA
def w131:zW 131 (t131 x0 x1 g0 g1) [.agg [.bool g0,x0,.bool g1,x1]]:=wA
def w132:zW 132 (t132 l0 l1) [.str l0,.str l1]:=wA
def w133:zW 133 (t133 g0) [.bool g0]:=wA
def w134:zW 134 (t134 l0) [.str l0]:=wA
def w135:zW 135 (t135 i0) [uZ i0]:=wA
def w136:zW 136 (t136 i0 i1 i2 i3 i4 i5 i6 i7 i8 i9 j0 j1 j2) [.agg [uY i0,uY i1,uY i2,uY i3,uY i4,uY i5,uY i6,uY i7,uY i8,uY i9],uZ j0,uZ j1,uZ j2]:=wA
def zmc:zJ 136 2 (t136_2 i0 i1 i2 i3 i4 i5 i6 i7 i8 i9 j0 j1 j2 x0) [uZ i0,uZ i1,x0,uZ i2,uY i3,uY i4,uY i5,uY i6,uY i7,uY i8,uY i9,uY j0,uY j1,uY j2]:=jA
def w138:zW 138 (t138 l0) [.str l0]:=wA
def w140:zW 140 (t140 l0) [.str l0]:=wA
def zpp:zJ 140 11 (zbc l0 x0 g0 g1) [.str l0,.bool g0,.bool g1,x0]:=jA
def zmb:zJ 140 2 (Yh i0 i1 l0 x0 g0 g1) [.str l0,.bool g0,uZ i0,uZ i1,.bool g1,x0]:=jA
def zma:zJ 140 6 (Yg l0 x0 x1 g0 g1) [.str l0,.bool g0,x0,.bool g1,x1]:=jA
def zdq:zJ 140 10 (Yi i0 i1 i2 i3 i4 l0 x0 x1 g0 g1) [.str l0,.bool g0,x0,uZ i0,.int .u32 i1,.int .u32 i2,uZ i3,uZ i4,.bool g1,x1]:=jA
def w141:zW 141 (t141 x0 x1 g0 g1) [.agg [.bool g0,x0],.agg [.bool g1,x1]]:=wA
def w142:zW 142 (t142 x0 x1 g0 g1) [.agg [.bool g0,x0,.bool g1,x1]]:=wA
def w144:zW 144 (t144 i0 i1 l0 g0) [.str l0,.bool g0,uZ i0,uZ i1]:=wA
def zpo:zJ 144 15 (zbb i0 i1 i2) [uZ i0,uZ i1,uZ i2]:=jA
def w145:zW 145 (t145 x0 x1) [x0,x1]:=wA
def zl9:zJ 145 2 (Yf i0 x0 x1) [x0,x1,uZ i0]:=jA
def w151:zW 151 (t151 x0) [x0]:=wA
def w169:zW 169 (t169 i0) [uY i0]:=wA
def w170:zW 170 (t170 i0) [uY i0]:=wA
def w171:zW 171 (t171 x0 x1) [x0,x1]:=wA
def j171_2:zJ 171 2 (zk2 i0 i1 x0 x1 x2 g0) [x0,x1,x2,.bool g0,uZ i0,uZ i1]:=jA
def w172:zW 172 (t172 x0) [x0]:=wA
def w173:zW 173 (t173 i0 x0) [x0,uZ i0]:=wA
def w174:zW 174 (t174 x0) [x0]:=wA
def w175:zW 175 (t175 i0) [uY i0]:=wA
def w176:zW 176 (t176 x0) [x0]:=wA
def zpn:zJ 176 37 (zba i0 i1 i5 i6 l0 x0) [x0,uY i0,.str l0,uZ i1,uY i2,.str l1,uZ i3,uZ i4,uZ i5,uZ i6]:=jA
def w180:zW 180 (t180 i0 l0) [.str l0,uY i0]:=wA
def zl8:zJ 180 2 (Ye i0 i1 l0) [.str l0,uY i0,uZ i1]:=jA
def w182:zW 182 (t182 x0 x1 g0 g1) [.agg [.bool g0,x0,.bool g1,x1]]:=wA
def w183:zW 183 (t183 x0 g0) [.agg [.bool g0,x0]]:=wA
def zl7:zJ 183 2 (Yc i0 l0 x0 x1 x2 g0) [.str l0,uZ i0,x0,x1,.bool g0,x2]:=jA
def zpm:zJ 183 29 (za9 i0 l0 x0 x1) [.str l0,uZ i0,x0,x1]:=jA
def j183_6:zJ 183 6 (zk1 i0 x0) [x0,.int .u32 i0]:=jA
def zdp:zJ 183 10 (Yd i0 i1 l0 x0) [x0,.str l0,uZ i0,uZ i1]:=jA
def w184:zW 184 (t184 x1 g1) [.agg [.bool g0,x0,.bool g1,x1]]:=wA
def w185:zW 185 (t185 l0 l1) [.str l0,.str l1]:=wA
def w186:zW 186 (t186 l0 l1) [.str l0,.str l1]:=wA
def w187:zW 187 (t187 i0) [uZ i0]:=wA
def w188:zW 188 (t188 i0) [uZ i0]:=wA
def w189:zW 189 (t189 i0) [uZ i0]:=wA
def Pg:zJ 189 2 (Yb i0 i1 i2 i3) [uZ i0,uZ i1,uZ i2,uZ i3]:=jA
def w191:zW 191 (t191 x0) [x0]:=wA
def zl6:zJ 191 2 (Ya i0 i1 x0 x1) [x0,x1,uZ i0,uZ i1]:=jA
def zl5:zJ 191 6 (Xz i0 i1 i2 i3 i4 l0 x0 x1) [x0,uZ i0,.str l0,x1,uZ i1,uZ i2,uZ i3,uZ i4]:=jA
def w192:zW 192 (t192 i0 i1 i2) [uZ i0,uZ i1,uZ i2]:=wA
def w194:zW 194 (t194 i0 i1 x0) [x0,.int .u32 i0,.int .u32 i1]:=wA
def zl4:zJ 194 2 (Xy i0 i1 i2 i3 x0 x1 x2) [.int .u32 i0,x0,x1,.int .u64 i1,x2,uZ i2,uZ i3]:=jA
def w195:zW 195 (t195 x0 g0) [.bool g0,x0]:=wA
def w196:zW 196 (t196 x0 g0) [.agg [.bool g0,x0]]:=wA
def w197:zW 197 (t197 x0 x1 g0 g1) [.agg [.bool g0,x0],.agg [.bool g1,x1]]:=wA
def j197_7:zJ 197 7 (zk0 x0 x1 g0 g1) [.bool g0,x0,.bool g1,x1,.bool g2,x2,.bool g3,x3]:=jA
def w198:zW 198 (t198 x0 x1 g0 g1) [.agg [.bool g0,x0,.bool g1,x1]]:=wA
def w199:zW 199 (t199 x0 g0) [.agg [.bool g0,x0]]:=wA
def w200:zW 200 (t200 x0 g0) [.agg [.bool g0,x0]]:=wA
def j200_2:zJ 200 2 (zky i0 x0) [x0,.int .u16 i0]:=jA
def w225:zW 225 (t225 l0) [.str l0]:=wA
def w226:zW 226 (t226 l0) [.str l0]:=wA
def zl2:zJ 226 2 (Xw i0 l0) [.str l0,uZ i0]:=jA
def w227:zW 227 (t227 l0) [.str l0]:=wA
def w228:zW 228 (t228 l0) [.str l0]:=wA
def zpl:zJ 228 13 (za8 i0 l0 l1 l2) [.str l0,.str l1,uZ i0,.str l2]:=jA
def zpk:zJ 228 17 (za7 i0 l0 l1 l2) [.str l0,.str l1,uZ i0,.str l2]:=jA
def w232:zW 232 (t232 x0 x1) [.agg [.bool g0,x0,.bool g1,x1]]:=wA
def w233:zW 233 (t233 x0 g0) [.agg [.bool g0,x0]]:=wA
def w234:zW 234 (t234 x0 x1 g0 g1) [.agg [.bool g0,x0],.agg [.bool g1,x1]]:=wA
def w235:zW 235 (t235 x0) [x0]:=wA
def zl1:zJ 235 2 (Xv i0 i1 x0 x1) [x0,x1,uZ i0,uZ i1]:=jA
def w236:zW 236 (t236 i0 x0) [x0,.int .u32 i0]:=wA
def zl0:zJ 236 2 (Xu i0 i1 i2 x0 x1) [x0,.int .u32 i0,x1,.int .u32 i1,uZ i2]:=jA
def w237:zW 237 (t237 x0) [x0]:=wA
def w239:zW 239 (t239 l0 l1) [.str l0,.str l1]:=wA
def w240:zW 240 (t240 l0 l1) [.str l0,.str l1]:=wA
def w241:zW 241 (t241 i0 x0) [uZ i0,x0]:=wA
def BP:zJ 241 2 (t241_2 i0 i1 x0) [x0,uZ i0,uZ i1]:=jA
def w242:zW 242 (t242 i0 x0) [uZ i0,x0]:=wA
def w243:zW 243 (t243 i0) [uZ i0]:=wA
def w244:zW 244 (t244 i0 i1) [uZ i0,uZ i1]:=wA
def w246:zW 246 (t246 x0) [x0]:=wA
def w247:zW 247 (t247 x0) [x0]:=wA
def BO:zJ 247 2 (Ry x0) [x0]:=jA
def w248:zW 248 (t248 x0 g0) [.bool g0,x0]:=wA
def zlz:zJ 248 2 (Xs i0 i1 x0 x1 x2 g0 g1) [.bool g0,x0,x1,uZ i0,uZ i1,.bool g1,x2]:=jA
def w249:zW 249 (t249 x0 x1 g0 g1) [.agg [.bool g0,x0],.agg [.bool g1,x1]]:=wA
def w250:zW 250 (t250 x0) [x0]:=wA
def w251:zW 251 (t251 x0) [x0]:=wA
def w261:zW 261 (t261 l0) [.str l0]:=wA
def w267:zW 267 (t267 x0 x1 g0 g1) [.agg [.bool g0,x0],.agg [.bool g1,x1]]:=wA
def w268:zW 268 (t268 i0 i1 i2) [.int .u32 i0,.int .u32 i1,.int .u32 i2]:=wA
def j268_7:zJ 268 7 (zkx i0 i1 i2) [.int .u32 i0,.int .u32 i1,.int .u32 i2]:=jA
def w269:zW 269 (t269 x0 x1) [x0,x1]:=wA
def zly:zJ 269 2 (Xr i0 x0 x1) [x0,x1,uZ i0]:=jA
def w271:zW 271 (t271 i0) [uZ i0]:=wA
def w276:zW 276 (t276 i0 x0 x1) [.int .u64 i0,x0,x1]:=wA
def w277:zW 277 (t277 x0 x1 g0 g1) [.agg [.bool g0,x0],.agg [.bool g1,x1]]:=wA
def zpj:zJ 277 21 (za6 x0 x1 g0 g1) [x0,x1,.bool g0,x2,.bool g1,x3,.bool g2,x4,.bool g3,x5]:=jA
def w278:zW 278 (t278 x0 x1) [x0,x1]:=wA
def zlx:zJ 278 2 (Xq i0 x0 x1) [x0,x1,uZ i0]:=jA
def w288:zW 288 (t288 x0) [x0]:=wA
def zlw:zJ 288 2 (Xp i0 i1 x0) [x0,uZ i0,uZ i1]:=jA
def w289:zW 289 (t289 x0 x1) [x0,x1]:=wA
def j289_2:zJ 289 2 (zku x0 x1) [x0,x1]:=jA
def zpi:zJ 289 33 (za5 x0 x1) [x0,x1]:=jA
def j289_6:zJ 289 6 (zkt i0 i1) [.int .u64 i0,.int .u64 i1]:=jA
def w295:zW 295 (t295 x0 x1) [x0,x1]:=wA
def zlv:zJ 295 2 (Xo i0 i1 i2 x0 x1 x2) [uZ i0,uZ i1,x0,x1,x2,uZ i2]:=jA
def zlu:zJ 295 6 (Xn i0 i1 i2 i3 x0 x1) [uZ i0,uZ i1,x0,x1,uZ i2,uZ i3]:=jA
def w300:zW 300 (t300 x0 x1) [x0,x1]:=wA
def zlt:zJ 300 2 (Xl i0 x0 x1) [x0,x1,uZ i0]:=jA
def w301:zW 301 (t301 x0 x1) [x0,x1]:=wA
def j301_2:zJ 301 2 (zks i0 i1 i2 i3 i4 i5 i6 i7 i8 i9 j0 j1 g0 g1) [.int .u64 i0,.int .u64 i1,.int .u64 i2,.int .u64 i3,.int .u64 i4,.int .u64 i5,.int .u64 i6,.int .u64 i7,.bool g0,.int .u64 i8,.int .u64 i9,.int .u64 j0,.int .u64 j1,.bool g1]:=jA
def w302:zW 302 (t302 i0 i1 x0 x1) [.int .u64 i0,x0,.int .u64 i1,x1]:=wA
def zls:zJ 302 2 (Xk i0 i1 i2 i3 i4 i5 i6 x0 x1 x2) [.int .u64 i0,x0,.int .u64 i1,x1,x2,.int .u64 i2,.int .u64 i3,.int .u32 i4,uZ i5,uZ i6]:=jA
def zph:zJ 302 17 (za4 i0 i1 i2 i3 i4 i5 i6 i7 x0 x1 x2) [.int .u64 i0,x0,.int .u64 i1,x1,x2,.int .u64 i2,.int .u64 i3,.int .u32 i4,uZ i5,uZ i6,uZ i7]:=jA
def zpg:zJ 302 21 (za3 i0 i1 i2 i3 i4 i5 i6 i7 x0 x1 x2) [.int .u64 i0,x0,.int .u64 i1,x1,x2,.int .u64 i2,.int .u64 i3,.int .u32 i4,uZ i5,uZ i6,uZ i7]:=jA
def w303:zW 303 (t303 x0) [x0]:=wA
def j303_2:zJ 303 2 (zkr i0 x0) [x0,.int .u32 i0]:=jA
def w304:zW 304 (t304 i0) [.int .u64 i0]:=wA
def w307(h:wp 307 (t307 x0) m Q):Wf 307 [x0] m Q:=zq0 (sG 307) (by kernel_rfl) (by rw[e307];exact h)
def w308:zW 308 (t308 i0) [.int .u32 i0]:=wA
def w309:zW 309 (t309 i0 x0) [x0,uZ i0]:=wA
def zlr:zJ 309 2 (Xj i0 i1 i2 x0 x1) [uZ i0,x0,x1,uZ i1,uZ i2]:=jA
def w310:zW 310 (t310 x0 x1) [x0,x1]:=wA
def zlq:zJ 310 2 (Xh i0 i1 i2 i3 x0 x1) [x0,x1,uZ i0,.int .u64 i1,.int .u64 i2,.int .u64 i3]:=jA
def zpf:zJ 310 19 (za2 i0 i1 x0 x1) [x0,x1,uZ i0,.int .u64 i1]:=jA
def zlp:zJ 310 6 (Xg i0 i1 i2 i3 i4 i5 x0 x1 x2) [x0,x1,uZ i0,.int .u64 i1,.int .u64 i2,.int .u64 i3,x2,uZ i4,uZ i5]:=jA
def zdo:zJ 310 10 (Xi i0 i1 i2 i3 i4 x0 x1) [x0,uZ i0,.int .u64 i1,.int .u32 i2,x1,uZ i3,uZ i4]:=jA
def w311:zW 311 (t311 i0 i1 i2) [.int .u32 i0,.int .u32 i1,.int .u32 i2]:=wA
def w315:zW 315 (t315 i0 i1 x0) [x0,uZ i0,uZ i1]:=wA
def w316:zW 316 (t316 i0) [.int .u32 i0]:=wA
def zlm:zJ 316 9 (Xd i0 i1) [.int .u32 i0,uZ i1]:=jA
def zpc:zJ 316 15 (zaz i0 i1) [.int .u32 i0,uZ i1]:=jA
def w317(h:wp 317 (t317 i0 i1 i2) m Q):Wf 317 [.int .u32 i0,.int .u32 i1,.int .u32 i2] m Q:=zq0 (sG 317) (by kernel_rfl) (by rw[e317];exact h)
def w320:zW 320 (t320 i0 x0) [uZ i0,x0]:=wA
end Go.Proofs
