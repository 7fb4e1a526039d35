/- The trees of functions. (Printed by a tool; the kernel agrees.) -/
import Derived.Test.YtfmlbimokklmgaaGreatDoorF12
set_option linter.all false
noncomputable section
set_option maxRecDepth 100000
namespace Go.Proofs
open Go Go.Am
variable [eC]{m:Tr vA}{Q:sB}
abbrev xX:List zA:=[.int .i64 0,.int .i64 0]
abbrev vK:List zA:=[.bool false,.nilslice]
abbrev Gc:List zA:=[.int .u8 0,.str [],.int .u8 0,.bool false,.nilslice,.bool false,.nilslice,.int .i64 0,.nilslice]
abbrev zz3z:List zA:=[.int .u8 0,.bool false,.nilslice,.bool false,.nilslice,.int .i64 0]
abbrev Cy:List zA:=[.str [],.nilslice,.nilslice,.nilslice]
abbrev Gb:List zA:=[.bool false,.nilslice,.bool false,.nilslice]
abbrev Ga:List zA:=[.int .u8 0,.str [],.int .i64 0,.int .i64 0]
abbrev zz7z:List zA:=[.str [],.bool false,.nilslice]
abbrev zz8z:List zA:=[.str [],.str [],.int .i64 0,.int .i64 0,.int .i64 0,.bool false,.int .u8 0,.str [],.int .u8 0,.bool false,.nilslice,.bool false,.nilslice,.int .i64 0,.nilslice,.int .u8 0,.str [],.int .u8 0,.bool false,.nilslice,.bool false,.nilslice,.int .i64 0,.nilslice]
abbrev zz9z:List zA:=[.int .i64 0,.int .i64 0,.int .i64 0,.bool false,.nilslice,.bool false,.nilslice]
abbrev zW(f:Nat)(T:T)(x:List zA):Prop:=∀ {m Q},wp f T m Q->Wf f x m Q
abbrev zJ(f i:Nat)(T:T)(x:List zA):Prop:=∀ {m Q},wp f T m Q->jp f i x m Q
def wA{f:Nat}{x:List zA}{T:T}(h1:okB f=true:=by kernel_rfl)(h2:(Nat.ble (zB x) (ko f)&&Nat.ble (zB x) (fo f).ntmps)=true:=by kernel_rfl)(h3:entT yA (fo f) (ko f) f (ao f) x=T:=by kernel_rfl):zW f T x:=fun k=>Wc_of (mF f h1) h2 (by rw[h3];exact k)
def jA{f i:Nat}{x:List zA}{T:T}(h1:okB f=true:=by kernel_rfl)(h2:Ec (ptsT yA (fo f) (ko f) f (ao f)) i x=[T]:=by kernel_rfl):zJ f i T x:=fun k=>Jq_of1 (mF f h1) h2 k
def uI (k:Int->T)(a:zA):T:=.asI .i64 a k
def uU (k:Int->T)(a:zA):T:=.asI .u8 a k
def uL (k:Int->T)(a:zA):T:=.asI .u32 a k
def uE (k:Int->T)(a:zA):T:=.asI .u64 a k
def uH (k:Int->T)(a:zA):T:=.asI .u16 a k
def uB (k:Bool->T)(a:zA):T:=.asB a k
def uS (k:List Nat->T)(a:zA):T:=.asS a k
def uG (z:List zA)(k:kG->T)(a:zA):T:=.asG z a k
def gC (l:List zA):Bool:=fB zA.one l
abbrev tD(i:Int):zA:=.int .i64 (cA .i64 (i+1))
def oC:T:=.ret (.bool false)
def gI:T:=.ret (.bool true)
def fI (v:zA):Option zA:=zG v
def uX (n:Nat)(v:zA):Option zA:=yH n v
abbrev uZ(n:Int):zA:=.int .i64 n
abbrev uY(n:Int):zA:=.int .u8 n
abbrev uW(n:Int):Int:=cA .i64 n
def aI (X:kG):List zA:=[.bool (X.b 0),X.v 1]
def eK (X:kG):zA:=.agg [.bool (X.b 0),X.v 1]
def uM1 (X:kG):List zA:=[.int .u8 (X.i 0),.str (X.s 1),.int .u8 (X.i 2),.bool (X.b 3),X.v 4,.bool (X.b 5),X.v 6,.int .i64 (X.i 7),X.v 8]
def uA1 (X:kG):zA:=.agg [.int .u8 (X.i 0),.str (X.s 1),.int .u8 (X.i 2),.bool (X.b 3),X.v 4,.bool (X.b 5),X.v 6,.int .i64 (X.i 7),X.v 8]
def uA2 (X:kG):zA:=.agg [.int .i64 (X.i 0),.int .i64 (X.i 1)]
def uM3 (X:kG):List zA:=[.str (X.s 0),X.v 1,X.v 2,X.v 3]
def uA3 (X:kG):zA:=.agg [.str (X.s 0),X.v 1,X.v 2,X.v 3]
def uM4 (X:kG):List zA:=[.int .u8 (X.i 0),.bool (X.b 1),X.v 2,.bool (X.b 3),X.v 4,.int .i64 (X.i 5)]
def uM5 (X:kG):List zA:=[.bool (X.b 0),X.v 1,.bool (X.b 2),X.v 3]
def uA5 (X:kG):zA:=.agg [.bool (X.b 0),X.v 1,.bool (X.b 2),X.v 3]
def uM6 (X:kG):List zA:=[.str (X.s 0),.bool (X.b 1),X.v 2]
def uA6 (X:kG):zA:=.agg [.str (X.s 0),.bool (X.b 1),X.v 2]
def uM7 (X:kG):List zA:=[.str (X.s 0),.str (X.s 1),.int .i64 (X.i 2),.int .i64 (X.i 3),.int .i64 (X.i 4),.bool (X.b 5),.int .u8 (X.i 6),.str (X.s 7),.int .u8 (X.i 8),.bool (X.b 9),X.v 10,.bool (X.b 11),X.v 12,.int .i64 (X.i 13),X.v 14,.int .u8 (X.i 15),.str (X.s 16),.int .u8 (X.i 17),.bool (X.b 18),X.v 19,.bool (X.b 20),X.v 21,.int .i64 (X.i 22),X.v 23]
def uA7 (X:kG):zA:=.agg [.str (X.s 0),.str (X.s 1),.int .i64 (X.i 2),.int .i64 (X.i 3),.int .i64 (X.i 4),.bool (X.b 5),.int .u8 (X.i 6),.str (X.s 7),.int .u8 (X.i 8),.bool (X.b 9),X.v 10,.bool (X.b 11),X.v 12,.int .i64 (X.i 13),X.v 14,.int .u8 (X.i 15),.str (X.s 16),.int .u8 (X.i 17),.bool (X.b 18),X.v 19,.bool (X.b 20),X.v 21,.int .i64 (X.i 22),X.v 23]
def uM8 (X:kG):List zA:=[.int .i64 (X.i 0),.int .i64 (X.i 1),.int .i64 (X.i 2),.bool (X.b 3),X.v 4,.bool (X.b 5),X.v 6]
def uA8 (X:kG):zA:=.agg [.int .i64 (X.i 0),.int .i64 (X.i 1),.int .i64 (X.i 2),.bool (X.b 3),X.v 4,.bool (X.b 5),X.v 6]
def uA9 (X:kG):zA:=.agg [.str (X.s 0),.int .u8 (X.i 1),.bool (X.b 2)]
def uA10 (X:kG):zA:=.agg [.int .u8 (X.i 0),.str (X.s 1),.int .i64 (X.i 2),.int .i64 (X.i 3)]
def uQ1 (n13:Int)(x0:zA)(X:kG):T :=.call 65 [uY n13]<|uB fun b=>.ite b (.call 79 [x0]<|uS fun s=>.call 106 [.str s] fun a=>.opt (uX 0 a)<|uS fun s=>.opt (uX 1 a)<|uI fun n=>.jump 37 [x0,uY 2,.str s,uZ n,uY 0,.str [],uZ 0,uZ 0,uZ (X.i 0),uZ (X.i 1)]) (.call 107 [.str [40,41,44,43,45,42,47,60,61],uY n13]<|uI fun n=>.ite (bG 0 n) (.call 79 [x0]<|uS fun s=>.opt (vG yA 9 yN (.str s) none (some (uZ 1)))<|uS fun s=>.jump 37 [x0,uY 4,.str s,uZ 0,uY 0,.str [],uZ 0,uZ 0,uZ (X.i 0),uZ (X.i 1)]) (.jump 37 [x0,uY 0,.str [],uZ 110,uY 0,.str [],uZ 0,uZ 0,uZ (X.i 0),uZ (X.i 1)]))
def uQ3  : T :=.ite true (.ite true (.ret (.tup [.agg [.bool false,.nilslice],uZ 10])) .fail) .fail
def uQ6 (l0:List Nat):T :=.opt (vG yA 9 yN (.str l0) none (some (uZ 10)))<|uS fun s=>.call 97 [.str s] fun a=>.opt (uX 0 a)<|uI fun n=>.opt (uX 1 a)<|uI fun n=>.ite (!tC n 0) (.ret (.tup [.str [],uZ 113])) (.opt (vG yA 9 yN (.str l0) none (some (uZ 10)))<|uS fun s=>.ret (.tup [.str s,uZ 0]))
def uQ7 (X:kG)(l0:List Nat)(x0:zA):T :=.ite (qG (X.s 1) l0) (.opt (fI x0) fun a=>.opt (kC yA 121 1 a) fun a=>.light (fun m=>mA yA 3 ⟨0,m⟩ a)<|uI fun n=>.opt (fI x0) fun a=>.opt (kC yA 121 1 a) fun a=>.heavy (zC yA 3 a (tD n)) fun _=>.ret (.bool (qG (X.s 1) l0))) (.ret (.bool (qG (X.s 1) l0)))
def uQ8  : T :=.ite true (.ite true (.ret (.tup [.agg [.bool false,.nilslice,.bool false,.nilslice],uZ 2])) .fail) .fail
def uQ9 (l1:List Nat)(l2:List Nat)(l0:List Nat)(i0:Int):T :=.call 129 [.str l1]<|uB fun b=>.ite b (.ret (.tup [.str [],uZ 112])) (.call 129 [.str l2]<|uB fun b=>.ite b (.ret (.tup [.str [],uZ 112])) (.ite (qG l2 [48]) (.ret (.tup [.str [],uZ 112])) (.opt (vG yA 9 yN (.str l0) none (some (uZ i0)))<|uS fun s=>.ret (.tup [.str s,uZ 0]))))
def uQ11 (i3:Int)(i1:Int)(x0:zA)(x1:zA)(i0:Int)(i2:Int):T :=.ite (bG 4294967296 (cA .u64 (i3+i1))) (.jump 19 [x0,x1,uZ i0,(.int .u64 (cA .u64 (i2-1)))]) (.jump 2 [x0,x1,uZ i0,.int .u64 i1,(.int .u64 (cA .u64 (i2-1))),(.int .u64 (cA .u64 (i3+i1)))])
def uQ13 (i1:Int):T :=.opt (xC yA 219 (.ptr 2 0) (uZ (uW (i1-1)))) fun a=>.light (fun m=>mA yA 3 ⟨0,m⟩ a)<|uI fun n=>.ret (uZ n)
def uQ14  : T :=.ite true (.ite true (.ret (.tup [.agg [.bool false,.nilslice],uZ 3])) .fail) .fail
def uQ15 (l0:List Nat)(i0:Int):T :=.opt (nI yA 9 (.str l0) (uZ i0))<|uU fun n=>.ite (!tC n 45) oC (.jump 2 [.str l0,(tD i0)])
variable (i0 i1 i2 i3 i4 i5 i6 i7 i8 i9 j0 j1 j2 j3 j4 j5 j6 j7:Int)(l0 l1 l2 l3 l4 l5 l6 l7:List Nat)(x0 x1 x2 x3 x4 x5 x6 x7 x8 x9 y0 y1:zA)(g0 g1 g2 g3 g4 g5 g6 g7 g8 g9:Bool)
def t3:T:=.call 9 []<|uB fun b=>.ite (!b) oC (.ite (iB 1500 (Int.ofNat (zB l0))) gI (.ite (iB 1500 (Int.ofNat (zB l1))) gI (.call 10 [.str l0] fun a=>.opt (uX 0 a)<|uG Cy fun X4=>.opt (uX 1 a)<|uG xX fun X=>.opt (uX 2 a)<|uI fun n8=>.ite (gC (uM3 X4)) (.ite true (.opt (mX [112,108,97,110,32,122,10] l1)<|uS fun s=>.call 10 [.str s] fun a=>.opt (uX 0 a)<|uG Cy fun X13=>.opt (uX 1 a)<|uG xX fun X=>.opt (uX 2 a)<|uI fun n17=>.ite (gC (uM3 X13)) (.ite true (.opt (mX l0 [10])<|uS fun s=>.opt (mX s l1)<|uS fun s=>.call 10 [.str s] fun a=>.opt (uX 0 a)<|uG Cy fun X24=>.opt (uX 1 a)<|uG xX fun X=>.opt (uX 2 a)<|uI fun n=>.ite (gC (uM3 X24)) (.ite true (.ite (!tC n8 0) gI (.ite (!tC n17 0) gI (.call 11 [(uA3 X4)]<|uG Cy fun X=>.ite (gC (uM3 X)) (.heavy (gE yA 23 23 (X.v 1) (X13.v 1)) fun a31=>.ite (gC [a31]) (.heavy (gE yA 24 24 (X.v 2) (X13.v 2)) fun a32=>.ite (gC [a32]) (.heavy (gE yA 25 25 (X.v 3) (X13.v 3)) fun a=>.ite (gC [a]) (.ite (tC n 0) (.call 12 [(uA3 X24),(.agg [.str (X.s 0),a31,a32,a])]<|uB fun b=>.ret (.bool b)) oC) .fail) .fail) .fail) .fail))) .fail) .fail) .fail) .fail) .fail) .fail)))
def t10:T:=.call 28 [.str l0,(.func (.func 29) [] [])] fun a=>.opt (uX 0 a)<|uG Cy fun X2=>.opt (uX 1 a)<|uG xX fun X=>.opt (uX 2 a)<|uI fun n=>.ite (gC (uM3 X2)) (.ite true (.ret (.tup [(uA3 X2),(uA2 X),uZ n])) .fail) .fail
def t11:T:=.call 30 [x0] fun a0=>.ite (gC [a0]) (.call 31 [x1] fun a1=>.ite (gC [a1]) (.call 32 [x2] fun a=>.ite (gC [a]) (.ite (gC [.str l0,a0,a1,a]) (.ret (.agg [.str l0,a0,a1,a])) .fail) .fail) .fail) .fail
def t12:T:=.ite (qG l0 l1) (.call 33 [x0,x3]<|uB fun b=>.ite b (.call 34 [x1,x4]<|uB fun b=>.ite b (.call 35 [x2,x5]<|uB fun b=>.ret (.bool b)) oC) oC) oC
def t13:T:=.ite (qG l0 []) oC (.ite (iB 24 (Int.ofNat (zB l0))) oC (.opt (nI yA 9 (.str l0) (uZ 0))<|uU fun n=>.call 36 [uY n]<|uB fun b=>.ite (!b) oC (.call 37 [.str l0,(.func (.func 38) [] [])]<|uS fun s=>.ite (qG s l0) (.call 39 [.str l0]<|uB fun b=>.ret (.bool (!b))) oC)))
def t16:T:=.ite (tC i0 i3) (.ite (qG l0 l1) (.call 24 [.agg [uY i1,.bool g0,x0,.bool g1,x1,uZ i2],.agg [uY i4,.bool g2,x3,.bool g3,x4,uZ i5]]<|uB fun b=>.ite b (.call 44 [x2,x5]<|uB fun b=>.ret (.bool b)) oC) oC) oC
def t22:T:=.heavy (nK yA 66) fun a0=>.heavy (nK yA 29) fun a1=>.heavy (nK yA 30) fun a2=>.ite (iB 65536 (Int.ofNat (zB l0))) (.ite true (.heavy (zC yA 66 a0 .nilslice) fun _=>.heavy (zC yA 29 a1 (.agg [uZ 0,uZ 0])) fun _=>.heavy (zC yA 30 a2 (uZ 3)) fun _=>.light (fun m=>mA yA 66 ⟨0,m⟩ a0) fun a3=>.light (fun m=>mA yA 29 ⟨0,m⟩ a1) fun a4=>.light (fun m=>mA yA 30 ⟨0,m⟩ a2) fun a=>.ret (.tup [a3,a4,a])) .fail) (.heavy (nK yA 66) fun a6=>.call 49 [.str l0] fun a=>.range (kR yA) a 2 2 [a0,a1,a2,a6] (.light (fun m=>mA yA 66 ⟨0,m⟩ a6) fun a=>.ite true (.heavy (zC yA 66 a0 a) fun _=>.heavy (zC yA 29 a1 (.agg [uZ 0,uZ 0])) fun _=>.heavy (zC yA 30 a2 (uZ 0)) fun _=>.light (fun m=>mA yA 66 ⟨0,m⟩ a0) fun a9=>.light (fun m=>mA yA 29 ⟨0,m⟩ a1) fun a10=>.light (fun m=>mA yA 30 ⟨0,m⟩ a2) fun a=>.ret (.tup [a9,a10,a])) .fail) (.light (fun m=>mA yA 66 ⟨0,m⟩ a0) fun a12=>.light (fun m=>mA yA 29 ⟨0,m⟩ a1) fun a13=>.light (fun m=>mA yA 30 ⟨0,m⟩ a2) fun a=>.ret (.tup [a12,a13,a])))
def zg9:T:=.ite true (.ite (!tC i3 0) (.heavy (zC yA 66 x0 .nilslice) fun _=>.ite (same 10 (.agg [uZ i1,uZ i2]) (.agg [uZ i1,uZ i2])) (.heavy (zC yA 29 x1 (.agg [uZ i1,uZ i2])) fun _=>.heavy (zC yA 30 x2 (uZ i3)) fun _=>.ret (.bool false)) .fail) (.light (fun m=>mA yA 66 ⟨0,m⟩ x3) fun a0=>.heavy (cC yA 66 1 [(0,(.agg [uY i0,.str l0,uZ i1,uZ i2]))]) fun a=>.heavy (gE yA 66 66 a0 a) fun a=>.heavy (zC yA 66 x3 a) fun _=>.ret (.bool true))) .fail
def t24:T:=.ite (tC i0 i2) (.call 53 [.agg [.bool g0,x0,.bool g1,x1],.agg [.bool g2,x2,.bool g3,x3]]<|uB fun b=>.ite b (.ret (.bool (tC i1 i3))) oC) oC
def t25:T:=.ite (iB i0 0) (.ite true (.ite true (.ret (.agg [uZ 0,uZ 0])) .fail) .fail) (.opt (vG yA 9 yN (.str l0) none (some (uZ (bif iB (Int.ofNat (zB l0)) i0 then(Int.ofNat (zB l0))else i0))))<|uS fun s=>.call 54 [.str s,.str [10]]<|uI fun n3=>.call 55 [.str s,uY 10]<|uI fun n=>.ite true (.ite true (.ret (.agg [(tD n3),(uZ (uW ((Int.ofNat (zB s))-n)))])) .fail) .fail)
def t26:T:=.opt (pC x0)<|uI fun n1=>.opt (pC x1)<|uI fun n=>.ite (!tC n1 n) oC (.jump 2 [x0,x1,uZ 0])
def zg8:T:=.opt (pC x0)<|uI fun n=>.ite (iB i0 n) (.opt (xC yA 41 x0 (uZ i0)) fun a=>.light (fun m=>mA yA 79 ⟨0,m⟩ a)<|uH fun n4=>.opt (xC yA 41 x1 (uZ i0)) fun a=>.light (fun m=>mA yA 79 ⟨0,m⟩ a)<|uH fun n=>.ite (!tC n4 n) oC (.jump 2 [x0,x1,(tD i0)])) gI
def t30:T:=.heavy (gE yA 23 23 .nilslice x0) fun a=>.ret a
def t31:T:=.jump 2 [x0,.nilslice,uZ 0]
def t31_2:T:=.opt (pC x0)<|uI fun n=>.ite (iB i0 n) (.opt (xC yA 24 x0 (uZ i0)) fun a=>.light (fun m=>mA yA 130 ⟨0,m⟩ a)<|uG zz7z fun X=>.call 61 [(uA6 X)]<|uG zz7z fun X=>.ite (gC (uM6 X)) (.heavy (cC yA 24 1 [(0,(uA6 X))]) fun a=>.heavy (gE yA 24 24 x1 a) fun a=>.jump 2 [x0,a,(tD i0)]) .fail) (.ret x1)
def t32:T:=.jump 2 [x0,.nilslice,uZ 0]
def t32_2:T:=.opt (pC x0)<|uI fun n=>.ite (iB i0 n) (.opt (xC yA 25 x0 (uZ i0)) fun a=>.light (fun m=>mA yA 72 ⟨0,m⟩ a)<|uG zz8z fun X=>.call 62 [(uA7 X)]<|uG zz8z fun X=>.ite (gC (uM7 X)) (.heavy (cC yA 25 1 [(0,(uA7 X))]) fun a=>.heavy (gE yA 25 25 x1 a) fun a=>.jump 2 [x0,a,(tD i0)]) .fail) (.ret x1)
def t33:T:=.opt (pC x0)<|uI fun n1=>.opt (pC x1)<|uI fun n=>.ite (!tC n1 n) oC (.jump 2 [x0,x1,uZ 0])
def t33_2:T:=.opt (pC x0)<|uI fun n=>.ite (iB i0 n) (.opt (xC yA 23 x0 (uZ i0)) fun a=>.light (fun m=>mA yA 77 ⟨0,m⟩ a)<|uG [.str [],uY 0,.bool false] fun X4=>.opt (xC yA 23 x1 (uZ i0)) fun a=>.light (fun m=>mA yA 77 ⟨0,m⟩ a)<|uG [.str [],uY 0,.bool false] fun X=>.opt ((gP .neq).f yA 77 (.tmp 20) (.tmp 24) (uA9 X4) (uA9 X))<|uB fun b=>.ite b oC (.jump 2 [x0,x1,(tD i0)])) gI
def t34:T:=.opt (pC x0)<|uI fun n1=>.opt (pC x1)<|uI fun n=>.ite (!tC n1 n) oC (.jump 2 [x0,x1,uZ 0])
def t34_2:T:=.opt (pC x0)<|uI fun n=>.ite (iB i0 n) (.opt (xC yA 24 x0 (uZ i0)) fun a=>.light (fun m=>mA yA 130 ⟨0,m⟩ a)<|uG zz7z fun X4=>.opt (xC yA 24 x1 (uZ i0)) fun a=>.light (fun m=>mA yA 130 ⟨0,m⟩ a)<|uG zz7z fun X=>.call 63 [(uA6 X4),(uA6 X)]<|uB fun b=>.ite (!b) oC (.jump 2 [x0,x1,(tD i0)])) gI
def t35:T:=.opt (pC x0)<|uI fun n1=>.opt (pC x1)<|uI fun n=>.ite (!tC n1 n) oC (.jump 2 [x0,x1,uZ 0])
def t35_2:T:=.opt (pC x0)<|uI fun n=>.ite (iB i0 n) (.opt (xC yA 25 x0 (uZ i0)) fun a=>.light (fun m=>mA yA 72 ⟨0,m⟩ a)<|uG zz8z fun X4=>.opt (xC yA 25 x1 (uZ i0)) fun a=>.light (fun m=>mA yA 72 ⟨0,m⟩ a)<|uG zz8z fun X=>.call 64 [(uA7 X4),(uA7 X)]<|uB fun b=>.ite (!b) oC (.jump 2 [x0,x1,(tD i0)])) gI
def t36:T:=.ite (bG 65 i0) (.ite (bG i0 90) gI (.ite (bG 97 i0) (.ret (.bool (bG i0 122))) oC)) (.ite (bG 97 i0) (.ret (.bool (bG i0 122))) oC)
def t37:T:=.jump 2 [.str l0,x0,uZ 0]
def zg7:T:=.ite (iB i0 (Int.ofNat (zB l0))) (.opt (nI yA 9 (.str l0) (uZ i0))<|uU fun n=>.callv x0 [uY n]<|uB fun b=>.ite b (.jump 2 [.str l0,x0,(tD i0)]) (.opt (vG yA 9 yN (.str l0) none (some (uZ i0)))<|uS fun s=>.ret (.str s))) (.opt (vG yA 9 yN (.str l0) none (some (uZ i0)))<|uS fun s=>.ret (.str s))
def t38:T:=.call 36 [uY i0]<|uB fun b=>.ite b gI (.call 65 [uY i0]<|uB fun b=>.ite b gI (.ret (.bool (tC i0 95))))
def t39:T:=.ite (iB (Int.ofNat (zB l0)) 2) oC (.ite (iB 7 (Int.ofNat (zB l0))) oC (.call 37 [.str l0,(.func (.func 36) [] [])]<|uS fun s=>.ite (!qG s l0) oC (.heavy Nz fun a=>.heavy (kS yA 135 a (uZ 2) (.str [32,116,111,32,105,115,32,97,116,32,105,102,32,111,114,32,117,112,32])) fun _=>.heavy (kS yA 135 a (uZ 3) (.str [32,100,101,102,32,114,111,119,32,111,110,101,32,116,119,111,32,101,110,100,32,111,102,102,32,104,97,115,32,109,105,110,32,109,97,120,32,97,110,100,32,110,111,116,32])) fun _=>.heavy (kS yA 135 a (uZ 4) (.str [32,112,108,97,110,32,102,97,99,116,32,102,114,111,109,32,119,104,101,110,32,116,104,101,110,32,100,97,116,101,32,100,97,121,115,32,116,114,117,101,32,108,111,111,107,32,98,101,115,116,32,103,114,111,119,32,100,111,119,110,32,99,101,105,108,32,104,97,108,102,32,101,118,101,110,32])) fun _=>.heavy (kS yA 135 a (uZ 5) (.str [32,116,97,98,108,101,32,107,110,111,119,110,32,116,114,117,116,104,32,109,111,110,101,121,32,102,97,108,115,101,32,109,105,110,117,115,32,116,111,100,97,121,32,114,111,117,110,100,32,115,116,97,114,116,32,102,108,111,111,114,32])) fun _=>.heavy (kS yA 135 a (uZ 6) (.str [32,99,108,97,117,115,101,32,110,117,109,98,101,114,32,109,111,110,116,104,115,32])) fun _=>.heavy (kS yA 135 a (uZ 7) (.str [32,98,101,116,119,101,101,110,32,115,101,114,118,105,99,101,32])) fun _=>.light (fun m=>oX yA 135 ⟨0,m⟩ a (uZ (Int.ofNat (zB l0))) false)<|uS fun s4=>.opt (mX [32] l0)<|uS fun s=>.opt (mX s [32])<|uS fun s=>.call 66 [.str s4,.str s]<|uB fun b=>.ret (.bool b))))
def t44:T:=.opt (pC x0)<|uI fun n1=>.opt (pC x1)<|uI fun n=>.ite (!tC n1 n) oC (.jump 2 [x0,x1,uZ 0])
def t44_2:T:=.opt (pC x0)<|uI fun n=>.ite (iB i0 n) (.opt (xC yA 48 x0 (uZ i0)) fun a=>.light (fun m=>mA yA 50 ⟨0,m⟩ a)<|uG Gc fun X4=>.opt (xC yA 48 x1 (uZ i0)) fun a=>.light (fun m=>mA yA 50 ⟨0,m⟩ a)<|uG Gc fun X=>.call 16 [(uA1 X4),(uA1 X)]<|uB fun b=>.ite (!b) oC (.jump 2 [x0,x1,(tD i0)])) gI
def t49:T:=.heavy (wN (.str l0)) fun a=>.ret (.func (.func 76) [] [a])
def t53:T:=.call 83 [.agg [.bool g0,x0],.agg [.bool g2,x2]]<|uB fun b=>.ite b (.call 83 [.agg [.bool g1,x1],.agg [.bool g3,x3]]<|uB fun b=>.ret (.bool b)) oC
def t55:T:=.call 87 [.str l0,uY i0]<|uI fun n=>.ret (uZ n)
def t61:T:=.call 92 [x0] fun a=>.ite (gC [a]) (.ite (gC [.str l0,.bool g0,a]) (.ret (.agg [.str l0,.bool g0,a])) .fail) .fail
def t62:T:=.call 93 [.agg [uY i3,.str l2,uY i4,.bool g1,x0,.bool g2,x1,uZ i5,x2]]<|uG Gc fun X1=>.ite (gC (uM1 X1)) (.call 93 [.agg [uY i6,.str l3,uY i7,.bool g3,x3,.bool g4,x4,uZ i8,x5]]<|uG Gc fun X=>.ite (gC (uM1 X)) (.ite (gC [.str l0,.str l1,uZ i0,uZ i1,uZ i2,.bool g0,uY (X1.i 0),.str (X1.s 1),uY (X1.i 2),.bool (X1.b 3),X1.v 4,.bool (X1.b 5),X1.v 6,uZ (X1.i 7),X1.v 8,uY (X.i 0),.str (X.s 1),uY (X.i 2),.bool (X.b 3),X.v 4,.bool (X.b 5),X.v 6,uZ (X.i 7),X.v 8]) (.ret (.agg [.str l0,.str l1,uZ i0,uZ i1,uZ i2,.bool g0,uY (X1.i 0),.str (X1.s 1),uY (X1.i 2),.bool (X1.b 3),X1.v 4,.bool (X1.b 5),X1.v 6,uZ (X1.i 7),X1.v 8,uY (X.i 0),.str (X.s 1),uY (X.i 2),.bool (X.b 3),X.v 4,.bool (X.b 5),X.v 6,uZ (X.i 7),X.v 8])) .fail) .fail) .fail
def t63:T:=.ite (qG l0 l1) (.ite (bEq g0 g1) (.call 94 [x0,x1]<|uB fun b=>.ret (.bool b)) oC) oC
def t64:T:=.ite (qG l0 l4) (.ite (qG l1 l5) (.ite (tC i0 i9) (.ite (tC i1 j0) (.ite (tC i2 j1) (.ite (bEq g0 g5) (.call 16 [.agg [uY i3,.str l2,uY i4,.bool g1,x0,.bool g2,x1,uZ i5,x2],.agg [uY j2,.str l6,uY j3,.bool g6,x6,.bool g7,x7,uZ j4,x8]]<|uB fun b=>.ite b (.call 16 [.agg [uY i6,.str l3,uY i7,.bool g3,x3,.bool g4,x4,uZ i8,x5],.agg [uY j5,.str l7,uY j6,.bool g8,x9,.bool g9,y0,uZ j7,y1]]<|uB fun b=>.ret (.bool b)) oC) oC) oC) oC) oC) oC) oC
def t65:T:=.ite (bG 48 i0) (.ret (.bool (bG i0 57))) oC
def t71:T:=.opt (fI x0) fun a=>.opt (kC yA 121 1 a) fun a=>.light (fun m=>mA yA 3 ⟨0,m⟩ a)<|uI fun n3=>.opt (fI x0) fun a=>.opt (kC yA 121 0 a) fun a=>.light (fun m=>mA yA 66 ⟨0,m⟩ a) fun a=>.opt (pC a)<|uI fun n=>.ite (iB n3 n) (.opt (fI x0) fun a=>.opt (kC yA 121 0 a) fun a=>.light (fun m=>mA yA 66 ⟨0,m⟩ a) fun a11=>.opt (fI x0) fun a=>.opt (kC yA 121 1 a) fun a=>.light (fun m=>mA yA 3 ⟨0,m⟩ a)<|uI fun n=>.opt (xC yA 66 a11 (uZ n)) fun a=>.light (fun m=>mA yA 75 ⟨0,m⟩ a)<|uG Ga fun X=>.ite true (.ret (uA10 X)) .fail) (.opt (fI x0) fun a=>.opt (kC yA 121 3 a) fun a=>.light (fun m=>mA yA 29 ⟨0,m⟩ a)<|uG xX fun X=>.ite true (.ite true (.ret (.agg [uY 0,.str [],uZ (X.i 0),uZ (X.i 1)])) .fail) .fail)
def t72:T:=.call 71 [x0]<|uG Ga fun X=>.ite true (.ite (tC (X.i 0) 1) (uQ7 X l0 x0) (.ite (tC (X.i 0) 4) (uQ7 X l0 x0) oC)) .fail
def t74:T:=.call 98 [.str l0,.str [47]] fun a=>.opt (uX 0 a)<|uS fun s2=>.opt (uX 1 a)<|uS fun s=>.opt (uX 2 a)<|uB fun b=>.ite (!b) (.jump 9 [.bool g0,.str s2,.str [49],.bool false,.nilslice,.bool false,.nilslice]) (.jump 9 [.bool g0,.str s2,.str s,.bool false,.nilslice,.bool false,.nilslice])
def t74_9:T:=.call 99 [.str l0] fun a=>.opt (uX 0 a)<|uG vK fun X2=>.opt (uX 1 a)<|uI fun n=>.ite (gC (aI X2)) (.call 99 [.str l1] fun a=>.opt (uX 0 a)<|uG vK fun X=>.opt (uX 1 a)<|uI fun n=>.ite (gC (aI X)) (.call 100 [(eK X2),(eK X)] fun a=>.opt (uX 0 a)<|uG Gb fun X12=>.opt (uX 1 a)<|uI fun n=>.ite (gC (uM5 X12)) (.ite g0 (.call 101 [(uA5 X12)] fun a=>.opt (uX 0 a)<|uG Gb fun X=>.opt (uX 1 a)<|uI fun n=>.ite (gC (uM5 X)) (.ite (gC (uM5 X)) (.ret (uA5 X)) .fail) .fail) (.ite (gC (uM5 X12)) (.ret (uA5 X12)) .fail)) .fail) .fail) .fail
def t76:T:=.ite true (.light (fun m=>mA yA 9 ⟨0,m⟩ x1)<|uS fun s=>.ite true (.heavy (nK yA 145) fun a=>.heavy (zC yA 145 a (.agg [uZ 1,uZ 1,.str s,uZ 0])) fun _=>.jump 2 [x0,x1,a,.bool false,uZ 0,uZ 0]) .fail) .fail
def t76_2:T:=.opt (kC yA 145 2 x2) fun a=>.light (fun m=>mA yA 3 ⟨0,m⟩ a)<|uI fun n=>.light (fun m=>mA yA 9 ⟨0,m⟩ x1)<|uS fun s=>.ite (iB n (Int.ofNat (zB s))) (.light (fun m=>mA yA 9 ⟨0,m⟩ x1)<|uS fun s=>.opt (kC yA 145 2 x2) fun a=>.light (fun m=>mA yA 3 ⟨0,m⟩ a)<|uI fun n=>.opt (nI yA 9 (.str s) (uZ n))<|uU fun n=>.ite (tC n 10) (.ite g0 (.ite true (.callv x0 [.agg [uY 5,.str [],uZ i0,uZ i1],uZ 0]<|uB fun b=>.ite (!b) (.ret (.tup [])) (.call 77 [x2] fun a=>.jump 2 [x0,x1,x2,.bool false,uZ i0,uZ i1])) .fail) (.call 77 [x2] fun a=>.jump 2 [x0,x1,x2,.bool false,uZ i0,uZ i1])) (.ite (tC n 32) (.call 78 [x2,uZ 1] fun a=>.jump 2 [x0,x1,x2,.bool g0,uZ i0,uZ i1]) (.ite (tC n 9) (.call 78 [x2,uZ 1] fun a=>.jump 2 [x0,x1,x2,.bool g0,uZ i0,uZ i1]) (.ite (tC n 35) (.call 79 [x2]<|uS fun s=>.call 37 [.str s,(.func (.func 80) [] [])]<|uS fun s=>.call 78 [x2,(uZ (Int.ofNat (zB s)))] fun a=>.jump 2 [x0,x1,x2,.bool g0,uZ i0,uZ i1]) (.call 81 [x2] fun a=>.opt (uX 0 a)<|uG Ga fun X=>.opt (uX 1 a)<|uI fun n=>.ite true (.callv x0 [(uA10 X),uZ n]<|uB fun b=>.ite (!b) (.ret (.tup [])) (.ite (!tC n 0) (.ret (.tup [])) (.opt (kC yA 145 0 x2) fun a=>.light (fun m=>mA yA 29 ⟨0,m⟩ a)<|uG xX fun X=>.ite true (.jump 2 [x0,x1,x2,.bool true,uZ (X.i 0),uZ (X.i 1)]) .fail))) .fail))))) (.ite g0 (.ite true (.callv x0 [.agg [uY 5,.str [],uZ i0,uZ i1],uZ 0]<|uB fun b=>.ret (.tup [])) .fail) (.ret (.tup [])))
def t77:T:=.opt (fI x0) fun a=>.opt (kC yA 145 2 a) fun a=>.light (fun m=>mA yA 3 ⟨0,m⟩ a)<|uI fun n=>.opt (fI x0) fun a=>.opt (kC yA 145 2 a) fun a=>.heavy (zC yA 3 a (tD n)) fun _=>.opt (fI x0) fun a=>.opt (kC yA 145 0 a) fun a=>.opt (kC yA 29 0 a) fun a=>.light (fun m=>mA yA 3 ⟨0,m⟩ a)<|uI fun n=>.opt (fI x0) fun a=>.opt (kC yA 145 0 a) fun a=>.opt (kC yA 29 0 a) fun a=>.heavy (zC yA 3 a (tD n)) fun _=>.opt (fI x0) fun a=>.opt (kC yA 145 0 a) fun a=>.opt (kC yA 29 1 a) fun a=>.heavy (zC yA 3 a (uZ 1)) fun _=>.ret (.tup [])
def t78:T:=.opt (fI x0) fun a=>.opt (kC yA 145 2 a) fun a=>.light (fun m=>mA yA 3 ⟨0,m⟩ a)<|uI fun n=>.opt (fI x0) fun a=>.opt (kC yA 145 2 a) fun a=>.heavy (zC yA 3 a (uZ (uW (n+i0)))) fun _=>.opt (fI x0) fun a=>.opt (kC yA 145 0 a) fun a=>.opt (kC yA 29 1 a) fun a=>.light (fun m=>mA yA 3 ⟨0,m⟩ a)<|uI fun n=>.opt (fI x0) fun a=>.opt (kC yA 145 0 a) fun a=>.opt (kC yA 29 1 a) fun a=>.heavy (zC yA 3 a (uZ (uW (n+i0)))) fun _=>.ret (.tup [])
def t79:T:=.opt (fI x0) fun a=>.opt (kC yA 145 1 a) fun a=>.light (fun m=>mA yA 9 ⟨0,m⟩ a)<|uS fun s=>.opt (fI x0) fun a=>.opt (kC yA 145 2 a) fun a=>.light (fun m=>mA yA 3 ⟨0,m⟩ a)<|uI fun n=>.opt (vG yA 9 yN (.str s) (some (uZ n)) none)<|uS fun s=>.ret (.str s)
def t80:T:=.ret (.bool (!tC i0 10))
def t81:T:=.opt (fI x0) fun a=>.opt (kC yA 145 0 a) fun a=>.light (fun m=>mA yA 29 ⟨0,m⟩ a)<|uG xX fun X=>.ite true (.opt (fI x0) fun a=>.opt (kC yA 145 1 a) fun a=>.light (fun m=>mA yA 9 ⟨0,m⟩ a)<|uS fun s=>.opt (fI x0) fun a=>.opt (kC yA 145 2 a) fun a=>.light (fun m=>mA yA 3 ⟨0,m⟩ a)<|uI fun n=>.opt (nI yA 9 (.str s) (uZ n))<|uU fun n13=>.call 36 [uY n13]<|uB fun b=>.ite b (.call 79 [x0]<|uS fun s=>.call 103 [.str s] fun a=>.opt (uX 0 a)<|uS fun s=>.opt (uX 1 a)<|uI fun n=>.jump 37 [x0,uY 1,.str s,uZ n,uY 0,.str [],uZ 0,uZ 0,uZ (X.i 0),uZ (X.i 1)]) (.call 65 [uY n13]<|uB fun b=>.ite b (.call 79 [x0]<|uS fun s=>.call 104 [.str s]<|uB fun b=>.ite b (.call 79 [x0]<|uS fun s=>.call 105 [.str s] fun a=>.opt (uX 0 a)<|uS fun s=>.opt (uX 1 a)<|uI fun n=>.jump 37 [x0,uY 3,.str s,uZ n,uY 0,.str [],uZ 0,uZ 0,uZ (X.i 0),uZ (X.i 1)]) (uQ1 n13 x0 X)) (uQ1 n13 x0 X))) .fail
def zd3:T:=.ite (!tC i1 0) (.ite true (.ite true (.ret (.tup [.agg [uY 0,.str [],uZ i5,uZ i6],uZ i1])) .fail) .fail) (.call 78 [x0,(uZ (Int.ofNat (zB l0)))] fun a=>.ite true (.ite true (.ret (.tup [.agg [uY i0,.str l0,uZ i5,uZ i6],uZ 0])) .fail) .fail)
def t83:T:=.ite (bEq g0 g1) (.call 26 [x0,x1]<|uB fun b=>.ret (.bool b)) oC
def t87:T:=.jump 2 [.str l0,uY i0,(uZ (uW ((Int.ofNat (zB l0))-1)))]
def zg4:T:=.ite (bG 0 i1) (.opt (nI yA 9 (.str l0) (uZ i1))<|uU fun n=>.ite (tC n i0) (.ret (uZ i1)) (.jump 2 [.str l0,uY i0,(uZ (uW (i1-1)))])) (.ret (uZ (-1)))
def t88:T:=.call 71 [x0]<|uG Ga fun X=>.ite true (.ite (tC (X.i 0) 1) (.call 13 [.str (X.s 1)]<|uB fun b=>.ret (.bool b)) oC) .fail
def t92:T:=.jump 2 [x0,.nilslice,uZ 0]
def t92_2:T:=.opt (pC x0)<|uI fun n=>.ite (iB i0 n) (.opt (xC yA 128 x0 (uZ i0)) fun a=>.light (fun m=>mA yA 155 ⟨0,m⟩ a)<|uG zz9z fun X=>.call 113 [(uA8 X)]<|uG zz9z fun X=>.ite (gC (uM8 X)) (.heavy (cC yA 128 1 [(0,(uA8 X))]) fun a=>.heavy (gE yA 128 128 x1 a) fun a=>.jump 2 [x0,a,(tD i0)]) .fail) (.ret x1)
def t93:T:=.call 114 [.agg [uY i1,.bool g0,x0,.bool g1,x1,uZ i2]]<|uG zz3z fun X=>.ite (gC (uM4 X)) (.call 115 [x2] fun a=>.ite (gC [a]) (.ite (gC [uY i0,.str l0,uY (X.i 0),.bool (X.b 1),X.v 2,.bool (X.b 3),X.v 4,uZ (X.i 5),a]) (.ret (.agg [uY i0,.str l0,uY (X.i 0),.bool (X.b 1),X.v 2,.bool (X.b 3),X.v 4,uZ (X.i 5),a])) .fail) .fail) .fail
def t94:T:=.opt (pC x0)<|uI fun n1=>.opt (pC x1)<|uI fun n=>.ite (!tC n1 n) oC (.jump 2 [x0,x1,uZ 0])
def t94_2:T:=.opt (pC x0)<|uI fun n=>.ite (iB i0 n) (.opt (xC yA 128 x0 (uZ i0)) fun a=>.light (fun m=>mA yA 155 ⟨0,m⟩ a)<|uG zz9z fun X4=>.opt (xC yA 128 x1 (uZ i0)) fun a=>.light (fun m=>mA yA 155 ⟨0,m⟩ a)<|uG zz9z fun X=>.call 116 [(uA8 X4),(uA8 X)]<|uB fun b=>.ite (!b) oC (.jump 2 [x0,x1,(tD i0)])) gI
def t95:T:=.opt (pC x1)<|uI fun n=>.jump 2 [x0,x1,uZ n,uZ 0]
def zg3:T:=.ite (iB i1 i0) (.opt (xC yA 161 x1 (uZ i1)) fun a=>.light (fun m=>mA yA 138 ⟨0,m⟩ a)<|uG [.str [],uY 0] fun X=>.ite true (.call 72 [x0,.str (X.s 0)]<|uB fun b=>.ite b (.ret (.tup [uY (X.i 1),.bool true])) (.jump 2 [x0,x1,uZ i0,(tD i1)])) .fail) (.ret (.tup [uY 0,.bool false]))
def t97:T:=.ite (!tC (Int.ofNat (zB l0)) 10) (.ret (.tup [uZ 0,uZ 2])) (.opt (nI yA 9 (.str l0) (uZ 4))<|uU fun n=>.ite (!tC n 45) (.ret (.tup [uZ 0,uZ 2])) (.opt (nI yA 9 (.str l0) (uZ 7))<|uU fun n=>.ite (!tC n 45) (.ret (.tup [uZ 0,uZ 2])) (.opt (vG yA 9 yN (.str l0) none (some (uZ 4)))<|uS fun s5=>.opt (vG yA 9 yN (.str l0) (some (uZ 5)) (some (uZ 7)))<|uS fun s7=>.opt (vG yA 9 yN (.str l0) (some (uZ 8)) none)<|uS fun s=>.heavy (cC yA 93 3 [(0,(.str s5)),(1,(.str s7)),(2,(.str s))]) fun a=>.call 118 [a] fun a11=>.opt (uX 0 a11) fun a12=>.opt (uX 1 a11)<|uB fun b=>.ite (!b) (.ret (.tup [uZ 0,uZ 2])) (.opt (xC yA 94 a12 (uZ 0)) fun a=>.light (fun m=>mA yA 3 ⟨0,m⟩ a)<|uI fun n17=>.opt (xC yA 94 a12 (uZ 1)) fun a=>.light (fun m=>mA yA 3 ⟨0,m⟩ a)<|uI fun n20=>.opt (xC yA 94 a12 (uZ 2)) fun a=>.light (fun m=>mA yA 3 ⟨0,m⟩ a)<|uI fun n=>.call 119 [uZ n17,uZ n20,uZ n] fun a=>.opt (uX 0 a)<|uI fun n26=>.opt (uX 1 a)<|uI fun n=>.ret (.tup [uZ n26,uZ n])))))
def t99:T:=.ite (iB 0 (Int.ofNat (zB l0))) (.opt (nI yA 9 (.str l0) (uZ 0))<|uU fun n=>.ite (tC n 45) (.opt (vG yA 9 yN (.str l0) (some (uZ 1)) none)<|uS fun s=>.jump 11 [.str s,(.bool (tC n 45)),.bool false,.nilslice]) (.jump 11 [.str l0,(.bool (tC n 45)),.bool false,.nilslice])) (.jump 11 [.str l0,.bool false,.bool false,.nilslice])
def zd0:T:=.ite (tC (Int.ofNat (zB l0)) 0) uQ3 (.opt (nI yA 9 (.str l0) (uZ 0))<|uU fun n=>.ite (tC n 48) (.ite g0 uQ3 (.ite (iB 1 (Int.ofNat (zB l0))) uQ3 (.jump 2 [.str l0,.bool g0,(uZ (Int.ofNat (zB l0))),uZ 0,.bool g1,x0]))) (.jump 2 [.str l0,.bool g0,(uZ (Int.ofNat (zB l0))),uZ 0,.bool g1,x0]))
def zg0:T:=.ite (iB i1 i0) (.opt (nI yA 9 (.str l0) (uZ i1))<|uU fun n=>.ite (iB n 48) uQ3 (.opt (nI yA 9 (.str l0) (uZ i1))<|uU fun n=>.ite (iB 57 n) uQ3 (.jump 2 [.str l0,.bool g0,uZ i0,(tD i1),.bool g1,x0]))) (.ite (iB 4933 (Int.ofNat (zB l0))) uQ14 (.jump 6 [.str l0,.bool g0,.nilslice,.bool g1,x0]))
def zgz:T:=.ite (iB 0 (Int.ofNat (zB l0))) (.jump 10 [.str l0,.bool g0,x0,(uZ (bif iB (Int.ofNat (zB l0)) 9 then(Int.ofNat (zB l0))else 9)),.int .u32 1,.int .u32 0,(uZ (bif iB (Int.ofNat (zB l0)) 9 then(Int.ofNat (zB l0))else 9)),uZ 0,.bool g1,x1]) (.call 122 [.bool g0,x0] fun a=>.opt (uX 0 a)<|uG vK fun X=>.opt (uX 1 a)<|uI fun n=>.ite (gC (aI X)) (.ret (.tup [(eK X),uZ n])) .fail)
def Uo:T:=.ite (iB i4 i3) (.opt (nI yA 9 (.str l0) (uZ i4))<|uU fun n=>.jump 10 [.str l0,.bool g0,x0,uZ i0,(.int .u32 (cA .u32 (i1*10))),(.int .u32 (cA .u32 ((cA .u32 (i2*10))+(cA .u32 (cA .u8 (n-48)))))),uZ i3,(tD i4),.bool g1,x1]) (.call 121 [x0,.int .u32 i1,.int .u32 i2] fun a=>.opt (vG yA 9 yN (.str l0) (some (uZ i0)) none)<|uS fun s=>.jump 6 [.str s,.bool g0,a,.bool g1,x1])
def t100:T:=.call 123 [.agg [.bool g0,x0]]<|uB fun b=>.ite (!b) uQ8 (.call 123 [.agg [.bool g1,x1]]<|uB fun b=>.ite (!b) uQ8 (.opt (pC x1)<|uI fun n=>.ite (tC n 0) (.ite true (.ite true (.ret (.tup [.agg [.bool false,.nilslice,.bool false,.nilslice],uZ 20])) .fail) .fail) (.call 124 [.agg [.bool g0,x0],.agg [.bool g1,x1]]<|uG Gb fun X=>.call 125 [(uA5 X)] fun a=>.opt (uX 0 a)<|uG Gb fun X=>.opt (uX 1 a)<|uI fun n=>.ite (gC (uM5 X)) (.ret (.tup [(uA5 X),uZ n])) .fail)))
def t101:T:=.call 126 [.agg [.bool g0,x0,.bool g1,x1]]<|uB fun b=>.ite (!b) uQ8 (.call 127 [.agg [.bool g0,x0]]<|uG vK fun X3=>.ite (same 10 (.agg [.bool g1,x1]) (.agg [.bool g1,x1])) (.call 127 [.agg [.bool g1,x1]]<|uG vK fun X=>.call 127 [(eK X)]<|uG vK fun X=>.ite true (.ite (gC [.bool (X3.b 0),X3.v 1,.bool (X.b 0),X.v 1]) (.ret (.tup [(.agg [.bool (X3.b 0),X3.v 1,.bool (X.b 0),X.v 1]),uZ 0])) .fail) .fail) .fail)
def t102:T:=.call 99 [.str l0] fun a=>.opt (uX 0 a)<|uG vK fun X=>.opt (uX 1 a)<|uI fun n=>.ite (gC (aI X)) (.call 128 [(eK X)] fun a=>.opt (uX 0 a)<|uI fun n7=>.opt (uX 1 a)<|uI fun n=>.ite (!tC n 0) (.ret (.tup [uZ 0,.bool false])) (.ite g0 (.jump 15 [uZ i0,uZ i1,(uZ (uW (0-n7)))]) (.jump 15 [uZ i0,uZ i1,uZ n7]))) .fail
def DE:T:=.ite (bG i0 i2) (.ret (.tup [uZ i2,(.bool (bG i2 i1))])) (.ret (.tup [uZ i2,.bool false]))
def t103:T:=.call 37 [.str l0,(.func (.func 38) [] [])]<|uS fun s=>.ite (iB 24 (Int.ofNat (zB s))) (.ret (.tup [.str [],uZ 111])) (.ret (.tup [.str s,uZ 0]))
def t104:T:=.ite (iB (Int.ofNat (zB l0)) 10) oC (.jump 2 [.str l0,uZ 0])
def Vq:T:=.ite (iB i0 10) (.ite (tC i0 4) (uQ15 l0 i0) (.ite (tC i0 7) (uQ15 l0 i0) (.opt (nI yA 9 (.str l0) (uZ i0))<|uU fun n=>.call 65 [uY n]<|uB fun b=>.ite (!b) oC (.jump 2 [.str l0,(tD i0)])))) gI
def t105:T:=.ite (iB 10 (Int.ofNat (zB l0))) (.opt (nI yA 9 (.str l0) (uZ 10))<|uU fun n=>.call 38 [uY n]<|uB fun b=>.ite b (.ret (.tup [.str [],uZ 113])) (uQ6 l0)) (uQ6 l0)
def t106:T:=.call 37 [.str l0,(.func (.func 65) [] [])]<|uS fun s1=>.ite (iB (Int.ofNat (zB s1)) (Int.ofNat (zB l0))) (.opt (nI yA 9 (.str l0) (uZ (Int.ofNat (zB s1))))<|uU fun n=>.ite (tC n 47) (.opt (vG yA 9 yN (.str l0) (some (uZ (uW ((Int.ofNat (zB s1))+1)))) none)<|uS fun s=>.call 37 [.str s,(.func (.func 65) [] [])]<|uS fun s=>.jump 13 [.str l0,.str s1,(uZ (Int.ofNat (zB s1))),.str s]) (.jump 13 [.str l0,.str s1,(uZ (Int.ofNat (zB s1))),.str []])) (.jump 13 [.str l0,.str s1,(uZ (Int.ofNat (zB s1))),.str []])
def DD:T:=.ite (!qG l2 []) (.jump 17 [.str l0,.str l1,(uZ (uW (i0+(uW (1+(Int.ofNat (zB l2))))))),.str l2]) (.jump 17 [.str l0,.str l1,uZ i0,.str l2])
def DC:T:=.ite (iB i0 (Int.ofNat (zB l0))) (.opt (nI yA 9 (.str l0) (uZ i0))<|uU fun n=>.call 38 [uY n]<|uB fun b=>.ite (iB 200 i0) (.ret (.tup [.str [],uZ 112])) (.ite b (.ret (.tup [.str [],uZ 112])) (uQ9 l1 l2 l0 i0))) (.ite (iB 200 i0) (.ret (.tup [.str [],uZ 112])) (uQ9 l1 l2 l0 i0))
def t111:T:=.ite (iB (uW i0) 7) (.opt (xC yA 201 (.ptr 1 0) (uY i0)) fun a=>.light (fun m=>mA yA 9 ⟨0,m⟩ a)<|uS fun s=>.ret (.str s)) (.ret (.str []))
def t113:T:=.call 134 [.agg [.bool g0,x0,.bool g1,x1]]<|uG Gb fun X=>.ite (gC (uM5 X)) (.ite (gC [uZ i0,uZ i1,uZ i2,.bool (X.b 0),X.v 1,.bool (X.b 2),X.v 3]) (.ret (.agg [uZ i0,uZ i1,uZ i2,.bool (X.b 0),X.v 1,.bool (X.b 2),X.v 3])) .fail) .fail
def t114:T:=.call 134 [.agg [.bool g0,x0,.bool g1,x1]]<|uG Gb fun X=>.ite (gC (uM5 X)) (.ite (gC [uY i0,.bool (X.b 0),X.v 1,.bool (X.b 2),X.v 3,uZ i1]) (.ret (.agg [uY i0,.bool (X.b 0),X.v 1,.bool (X.b 2),X.v 3,uZ i1])) .fail) .fail
def t115:T:=.jump 2 [x0,.nilslice,uZ 0]
def t115_2:T:=.opt (pC x0)<|uI fun n=>.ite (iB i0 n) (.opt (xC yA 48 x0 (uZ i0)) fun a=>.light (fun m=>mA yA 50 ⟨0,m⟩ a)<|uG Gc fun X=>.call 93 [(uA1 X)]<|uG Gc fun X=>.ite (gC (uM1 X)) (.heavy (cC yA 48 1 [(0,(uA1 X))]) fun a=>.heavy (gE yA 48 48 x1 a) fun a=>.jump 2 [x0,a,(tD i0)]) .fail) (.ret x1)
def t116:T:=.ite (tC i0 i3) (.ite (tC i1 i4) (.ite (tC i2 i5) (.call 53 [.agg [.bool g0,x0,.bool g1,x1],.agg [.bool g2,x2,.bool g3,x3]]<|uB fun b=>.ret (.bool b)) oC) oC) oC
def t118:T:=.opt (pC x0)<|uI fun n=>.heavy (uP yA 94 (uZ n) (uZ n)) fun a=>.opt (pC x0)<|uI fun n=>.jump 2 [a,x0,uZ n,uZ 0]
def Vo:T:=.ite (iB i1 i0) (.opt (xC yA 93 x1 (uZ i1)) fun a=>.light (fun m=>mA yA 9 ⟨0,m⟩ a)<|uS fun s=>.jump 6 [x0,uZ i1,.str s,x1,uZ i0,uZ i1,(uZ (Int.ofNat (zB s))),uZ 0]) (.ret (.tup [x0,.bool true]))
def Vn:T:=.ite (iB i4 i3) (.opt (nI yA 9 (.str l0) (uZ i4))<|uU fun n=>.ite (iB n 48) (.ret (.tup [.nilslice,.bool false])) (.opt (nI yA 9 (.str l0) (uZ i4))<|uU fun n=>.ite (iB 57 n) (.ret (.tup [.nilslice,.bool false])) (.opt (xC yA 94 x0 (uZ i0)) fun a=>.light (fun m=>mA yA 3 ⟨0,m⟩ a)<|uI fun n6=>.opt (nI yA 9 (.str l0) (uZ i4))<|uU fun n=>.opt (xC yA 94 x0 (uZ i0)) fun a=>.heavy (zC yA 3 a (uZ (uW ((uW (10*n6))+(uW (cA .u8 (n-48))))))) fun _=>.jump 6 [x0,uZ i0,.str l0,x1,uZ i1,uZ i2,uZ i3,(tD i4)]))) (.jump 2 [x0,x1,uZ i1,(tD i2)])
def t119:T:=.ite (iB i0 1900) (.ret (.tup [uZ 0,uZ 2])) (.ite (iB 2079 i0) (.ret (.tup [uZ 0,uZ 2])) (.ite (iB i2 1) (.ret (.tup [uZ 0,uZ 2])) (.call 136 [uZ i0,uZ i1]<|uI fun n=>.ite (iB n i2) (.ret (.tup [uZ 0,uZ 2])) (.call 137 [(uZ (uW ((uW ((uW (12*(uW (i0-1900))))+i1))-1)))]<|uI fun n=>.call 138 [(uZ (uW ((uW (n+i2))-1)))]<|uB fun b=>.ite (!b) (.ret (.tup [uZ 0,uZ 2])) (.ret (.tup [(uZ (uW ((uW (n+i2))-1))),uZ 0]))))))
def t121:T:=.opt (pC x0)<|uI fun n=>.heavy (uP yA 189 (uZ 0) (tD n)) fun a2=>.heavy (nK yA 189) fun a3=>.heavy (zC yA 189 a3 a2) fun _=>.call 139 [a3] fun a=>.opt (pC x0)<|uI fun n=>.jump 2 [.int .u32 i0,a3,a,(.int .u64 (cA .u64 i1)),x0,uZ n,uZ 0]
def Vm:T:=.ite (iB i3 i2) (.opt (xC yA 189 x2 (uZ i3)) fun a=>.light (fun m=>mA yA 56 ⟨0,m⟩ a)<|uL fun n=>.callv x1 [(.int .u64 (cA .u64 ((cA .u64 ((cA .u64 n)*(cA .u64 i0)))+i1)))] fun a=>.jump 2 [.int .u32 i0,x0,x1,.int .u64 0,x2,uZ i2,(tD i3)]) (.callv x1 [.int .u64 i1] fun a=>.light (fun m=>mA yA 189 ⟨0,m⟩ x0) fun a=>.call 140 [a] fun a=>.ret a)
def t122:T:=.call 141 [.bool g0,x0]<|uG vK fun X=>.ite (gC (aI X)) (.opt (pC (X.v 1))<|uI fun n=>.ite (iB 1024 n) uQ14 (.ite (gC (aI X)) (.ret (.tup [(eK X),uZ 0])) .fail)) .fail
def t123:T:=.opt (pC x0)<|uI fun n=>.ite (tC n 0) (.ret (.bool (!g0))) (.ite (bG n 1024) (.opt (xC yA 41 x0 (uZ (uW (n-1)))) fun a=>.light (fun m=>mA yA 79 ⟨0,m⟩ a)<|uH fun n=>.ret (.bool (!tC n 0))) oC)
def t124:T:=.ite g1 (.call 127 [.agg [.bool g0,x0]]<|uG vK fun X1=>.ite (same 10 (.agg [.bool g1,x1]) (.agg [.bool g1,x1])) (.call 127 [.agg [.bool g1,x1]]<|uG vK fun X=>.ite (gC (aI X1)) (.ite (gC (aI X)) (.jump 7 [.bool (X1.b 0),X1.v 1,.bool (X.b 0),X.v 1,.bool false,.nilslice,.bool false,.nilslice]) .fail) .fail) .fail) (.jump 7 [.bool g0,x0,.bool g1,x1,.bool false,.nilslice,.bool false,.nilslice])
def zeg:T:=.call 142 [.agg [.bool g0,x0],.agg [.bool g1,x1]]<|uG vK fun X1=>.ite (gC (aI X1)) (.call 143 [.agg [.bool g0,x0],(eK X1)] fun a=>.opt (uX 0 a)<|uG vK fun X4=>.opt (uX 1 a)<|uG vK fun X=>.ite (gC (aI X4)) (.call 143 [.agg [.bool g1,x1],(eK X1)] fun a=>.opt (uX 0 a)<|uG vK fun X9=>.opt (uX 1 a)<|uG vK fun X=>.ite (gC (aI X9)) (.ite true (.ite true (.ite (gC [.bool (X4.b 0),X4.v 1,.bool (X9.b 0),X9.v 1]) (.ret (.agg [.bool (X4.b 0),X4.v 1,.bool (X9.b 0),X9.v 1])) .fail) .fail) .fail) .fail) .fail) .fail
def t125:T:=.call 144 [.agg [.bool g0,x0,.bool g1,x1]]<|uB fun b=>.ite b (.ite true (.ite true (.ret (.tup [.agg [.bool false,.nilslice,.bool false,.nilslice],uZ 3])) .fail) .fail) (.ite (gC [.bool g0,x0,.bool g1,x1]) (.ret (.tup [.agg [.bool g0,x0,.bool g1,x1],uZ 0])) .fail)
def t126:T:=.ite true (.call 145 [.agg [.bool g0,x0,.bool g1,x1]]<|uB fun b=>.ret (.bool b)) .fail
def t127:T:=.ite (!g0) (.opt (pC x0)<|uI fun n=>.call 146 [x0] fun a2=>.ite (same 10 x0 x0) (.opt (pC x0) fun a=>.ite (same 10 a (uZ n)) (.ite (gC [(.bool (iB 0 n)),a2]) (.ite (gC [(.bool (iB 0 n)),a2]) (.ret (.agg [(.bool (iB 0 n)),a2])) .fail) .fail) .fail) .fail) (.call 146 [x0] fun a=>.ite (gC [.bool false,a]) (.ite (gC [.bool false,a]) (.ret (.agg [.bool false,a])) .fail) .fail)
def t128:T:=.call 123 [.agg [.bool g0,x0]]<|uB fun b=>.ite (!b) (.ret (.tup [uZ 0,uZ 2])) (.opt (pC x0)<|uI fun n=>.ite (iB 4 n) (.ret (.tup [uZ 0,uZ 3])) (.heavy (nK yA 207) fun a4=>.heavy (zC yA 207 a4 (.int .u64 0)) fun _=>.call 147 [x0] fun a=>.range (kR yA) a 2 1 [a4] (.ite g0 (.light (fun m=>mA yA 207 ⟨0,m⟩ a4)<|uE fun n=>.ite (iB 9223372036854775808 n) (.ret (.tup [uZ 0,uZ 3])) (.light (fun m=>mA yA 207 ⟨0,m⟩ a4)<|uE fun n=>.ret (.tup [(uZ (uW (cA .u64 (0-n)))),uZ 0]))) (.light (fun m=>mA yA 207 ⟨0,m⟩ a4)<|uE fun n=>.ite (bG 9223372036854775808 n) (.ret (.tup [uZ 0,uZ 3])) (.light (fun m=>mA yA 207 ⟨0,m⟩ a4)<|uE fun n=>.ret (.tup [(uZ (uW n)),uZ 0])))) (.ret (.tup [uZ 0,uZ 0]))))
def zef:T:=.light (fun m=>mA yA 207 ⟨0,m⟩ x0)<|uE fun n=>.opt (kI Nat.lor .u64 (cA .u64 (n*65536)) (cA .u64 i0))<|uE fun n=>.heavy (zC yA 207 x0 (.int .u64 n)) fun _=>.ret (.bool true)
def t129:T:=.ite (iB 1 (Int.ofNat (zB l0))) (.opt (nI yA 9 (.str l0) (uZ 0))<|uU fun n=>.ret (.bool (tC n 48))) oC
def t134:T:=.call 150 [.agg [.bool g0,x0]]<|uG vK fun X1=>.ite (gC (aI X1)) (.call 150 [.agg [.bool g1,x1]]<|uG vK fun X=>.ite (gC (aI X)) (.ite (gC [.bool (X1.b 0),X1.v 1,.bool (X.b 0),X.v 1]) (.ret (.agg [.bool (X1.b 0),X1.v 1,.bool (X.b 0),X.v 1])) .fail) .fail) .fail
def t136:T:=.ite (iB i1 1) (.ret (uZ 0)) (.ite (iB 12 i1) (.ret (uZ 0)) (.ite (tC i1 2) (.call 152 [uZ i0]<|uB fun b=>.ite b (.ret (uZ 29)) (uQ13 i1)) (uQ13 i1)))
def t137:T:=.call 153 [(uZ (uW ((uW (1900+(uW (Int.tdiv i0 12))))-1)))]<|uI fun n1=>.call 153 [uZ 1899]<|uI fun n=>.jump 2 [uZ i0,(uZ (uW (1900+(uW (Int.tdiv i0 12))))),(uZ (uW ((uW ((uW (365*(uW ((uW (1900+(uW (Int.tdiv i0 12))))-1900))))+n1))-n))),uZ 1]
def Vl:T:=.ite (bG i3 (Int.tmod i0 12)) (.call 136 [uZ i1,uZ i3]<|uI fun n=>.jump 2 [uZ i0,uZ i1,(uZ (uW (i2+n))),(tD i3)]) (.ret (uZ i2))
def t138:T:=.ite (bG 0 i0) (.ret (.bool (iB i0 65536))) oC
def t139:T:=.heavy (wN x0) fun a0=>.heavy (nK yA 207) fun a=>.heavy (zC yA 207 a (.int .u64 0)) fun _=>.ret (.func (.func 154) [] [a,a0])
def t140:T:=.jump 2 [x0]
def Oy:T:=.opt (pC x0)<|uI fun n=>.ite (iB 0 n) (.opt (pC x0)<|uI fun n=>.opt (xC yA 189 x0 (uZ (uW (n-1)))) fun a=>.light (fun m=>mA yA 56 ⟨0,m⟩ a)<|uL fun n=>.ite (tC n 0) (.opt (pC x0)<|uI fun n=>.light (fun m=>vG yA 189 ⟨0,m⟩ x0 none (some (uZ (uW (n-1))))) fun a=>.jump 2 [a]) (.ret x0)) (.ret x0)
def t141:T:=.call 140 [x0] fun a0=>.opt (pC a0)<|uI fun n=>.ite (tC n 0) (.ite true (.ite true (.ret (.agg [.bool false,.nilslice])) .fail) .fail) (.opt (pC a0)<|uI fun n=>.heavy (uP yA 41 (uZ (uW (2*n))) (uZ (uW (2*n)))) fun a=>.opt (pC a0)<|uI fun n=>.jump 2 [.bool g0,a,a0,uZ n,uZ 0,.bool false,.nilslice])
def Vk:T:=.ite (iB i1 i0) (.opt (xC yA 189 x1 (uZ i1)) fun a=>.light (fun m=>mA yA 56 ⟨0,m⟩ a)<|uL fun n=>.opt (xC yA 41 x0 (uZ (uW (2*i1)))) fun a=>.heavy (zC yA 79 a (.int .u16 (cA .u16 n))) fun _=>.opt (xC yA 41 x0 (uZ (uW ((uW (2*i1))+1)))) fun a=>.heavy (zC yA 79 a (.int .u16 (cA .u16 (Int.fdiv n 65536)))) fun _=>.jump 2 [.bool g0,x0,x1,uZ i0,(tD i1),.bool g1,x2]) (.opt (pC x0)<|uI fun n=>.opt (xC yA 41 x0 (uZ (uW (n-1)))) fun a=>.light (fun m=>mA yA 79 ⟨0,m⟩ a)<|uH fun n=>.ite (tC n 0) (.opt (pC x0)<|uI fun n=>.light (fun m=>vG yA 41 ⟨0,m⟩ x0 none (some (uZ (uW (n-1))))) fun a=>.ite (gC [.bool g0,a]) (.ite (gC [.bool g0,a]) (.ret (.agg [.bool g0,a])) .fail) .fail) (.ite (gC [.bool g0,x0]) (.ite (gC [.bool g0,x0]) (.ret (.agg [.bool g0,x0])) .fail) .fail))
def t142:T:=.call 155 [.agg [.bool g0,x0],.agg [.bool g1,x1]] fun a=>.opt (uX 0 a)<|uG vK fun X=>.opt (uX 1 a)<|uI fun n=>.ite (gC (aI X)) (.ite (gC (aI X)) (.ret (eK X)) .fail) .fail
def t143:T:=.call 156 [.agg [.bool g0,x0],.agg [.bool g1,x1]] fun a=>.opt (uX 0 a)<|uG vK fun X2=>.opt (uX 1 a)<|uG vK fun X=>.opt (uX 2 a)<|uI fun n=>.ite (gC (aI X2)) (.ite (gC (aI X)) (.ite (gC (aI X2)) (.ite (same 10 (eK X) (eK X)) (.ite (gC (aI X)) (.ret (.tup [(eK X2),(eK X)])) .fail) .fail) .fail) .fail) .fail
def t144:T:=.opt (pC x0)<|uI fun n=>.ite (iB 256 n) gI (.opt (pC x1)<|uI fun n=>.ret (.bool (iB 256 n)))
def t145:T:=.call 144 [.agg [.bool g0,x0,.bool g1,x1]]<|uB fun b=>.ite b oC (.call 123 [.agg [.bool g0,x0]]<|uB fun b=>.ite (!b) oC (.call 123 [.agg [.bool g1,x1]]<|uB fun b=>.ite (!b) oC (.ite g1 oC (.opt (pC x1)<|uI fun n=>.ite (tC n 0) oC (.call 157 [.agg [.bool g0,x0,.bool g1,x1]]<|uB fun b=>.ite b gI (.call 142 [.agg [.bool g0,x0],.agg [.bool g1,x1]]<|uG vK fun X=>.call 158 [(eK X)]<|uB fun b=>.ret (.bool b)))))))
def t146:T:=.opt ((gP .eql).f yA 41 (.tmp 3) (.const (.slice none 0 0)) x0 .nilslice)<|uB fun b=>.ite b (.ret .nilslice) (.heavy (cC yA 41 0 []) fun a=>.heavy (gE yA 41 41 a x0) fun a=>.ret a)
def t147:T:=.heavy (wN x0) fun a=>.ret (.func (.func 159) [] [a])
def t150:T:=.call 160 [x0] fun a=>.ite (gC [a]) (.ite (gC [.bool g0,a]) (.ret (.agg [.bool g0,a])) .fail) .fail
def t152:T:=.ite (tC (Int.tmod i0 4) 0) (.ite (!tC (Int.tmod i0 100) 0) gI (.ret (.bool (tC (Int.tmod i0 400) 0)))) oC
def t153:T:=.ret (uZ (uW ((uW ((uW (Int.tdiv i0 4))-(uW (Int.tdiv i0 100))))+(uW (Int.tdiv i0 400)))))
def t154:T:=.light (fun m=>mA yA 207 ⟨0,m⟩ x0)<|uE fun n=>.light (fun m=>mA yA 206 ⟨0,m⟩ x1) fun a2=>.light (fun m=>mA yA 206 ⟨0,m⟩ x1) fun a3=>.opt (fI a3) fun a4=>.light (fun m=>mA yA 189 ⟨0,m⟩ a4) fun a5=>.heavy (cC yA 189 1 [(0,(.int .u32 (cA .u32 (cA .u64 (i0+n)))))]) fun a6=>.light (fun m=>mA yA 206 ⟨0,m⟩ x1) fun a=>.ite (same 10 a a2) (.light (fun m=>mA yA 206 ⟨0,m⟩ x1) fun a=>.ite (same 10 a a3) (.light (fun m=>mA yA 189 ⟨0,m⟩ a4) fun a=>.ite (same 10 a a5) (.heavy (gE yA 189 189 a5 a6) fun a10=>.light (fun m=>mA yA 206 ⟨0,m⟩ x1) fun a=>.ite (same 10 a a2) (.opt (fI a2) fun a=>.heavy (zC yA 189 a a10) fun _=>.heavy (zC yA 207 x0 (.int .u64 (Int.fdiv (cA .u64 (i0+n)) 4294967296))) fun _=>.ret (.tup [])) .fail) .fail) .fail) .fail
def t155:T:=.heavy (cC yA 229 2 [(0,(.agg [.bool g0,x0])),(1,(.agg [.bool g1,x1]))]) fun a=>.call 162 [a]<|uB fun b=>.ite (!b) (.ite true (.ite true (.ret (.tup [.agg [.bool false,.nilslice],uZ 2])) .fail) .fail) (.call 164 [x0] fun a3=>.ite (same 10 x1 x1) (.call 164 [x1] fun a=>.call 163 [a3,a] fun a=>.call 141 [.bool false,a]<|uG vK fun X=>.ite (gC (aI X)) (.ret (.tup [(eK X),uZ 0])) .fail) .fail)
def t156:T:=.heavy (cC yA 229 2 [(0,(.agg [.bool g0,x0])),(1,(.agg [.bool g1,x1]))]) fun a=>.call 162 [a]<|uB fun b=>.ite (!b) (.ite true (.ite true (.ite true (.ite true (.ret (.tup [.agg [.bool false,.nilslice],.agg [.bool false,.nilslice],uZ 2])) .fail) .fail) .fail) .fail) (.opt (pC x1)<|uI fun n=>.ite (tC n 0) (.ite true (.ite true (.ite true (.ite true (.ret (.tup [.agg [.bool false,.nilslice],.agg [.bool false,.nilslice],uZ 11])) .fail) .fail) .fail) .fail) (.call 164 [x1] fun a5=>.call 164 [x0] fun a=>.call 165 [a,a5] fun a7=>.opt (uX 0 a7) fun a8=>.opt (uX 1 a7) fun a9=>.ite (!bEq g0 g1) (.opt (pC a9)<|uI fun n=>.ite (iB 0 n) (.heavy (cC yA 189 1 [(0,(.int .u32 1))]) fun a=>.call 166 [a8,a] fun a13=>.call 167 [a5,a9] fun a=>.jump 21 [a13,a,.bool g0,x0,.bool g1,x1,.bool false,.nilslice,.bool false,.nilslice]) (.jump 21 [a8,a9,.bool g0,x0,.bool g1,x1,.bool false,.nilslice,.bool false,.nilslice])) (.jump 21 [a8,a9,.bool g0,x0,.bool g1,x1,.bool false,.nilslice,.bool false,.nilslice])))
def CZ:T:=.call 141 [(.bool (!bEq g0 g1)),x0]<|uG vK fun X1=>.ite (same 10 (.bool g1) (.bool g1)) (.call 141 [.bool g1,x1]<|uG vK fun X=>.ite (gC (aI X1)) (.ite (gC (aI X)) (.ret (.tup [(eK X1),(eK X),uZ 0])) .fail) .fail) .fail
def t157:T:=.call 158 [.agg [.bool g1,x1]]<|uB fun b=>.ret (.bool b)
def t158:T:=.ite (!g0) (.opt (pC x0)<|uI fun n=>.ite (tC n 1) (.opt (xC yA 41 x0 (uZ 0)) fun a=>.light (fun m=>mA yA 79 ⟨0,m⟩ a)<|uH fun n=>.ret (.bool (tC n 1))) oC) oC
def t159:T:=.light (fun m=>mA yA 41 ⟨0,m⟩ x1) fun a=>.opt (pC a)<|uI fun n=>.jump 2 [x0,x1,(uZ (uW (n-1)))]
def Vj:T:=.ite (bG 0 i0) (.light (fun m=>mA yA 41 ⟨0,m⟩ x1) fun a=>.opt (xC yA 41 a (uZ i0)) fun a=>.light (fun m=>mA yA 79 ⟨0,m⟩ a)<|uH fun n=>.callv x0 [.int .u16 n]<|uB fun b=>.ite (!b) (.ret (.tup [])) (.jump 2 [x0,x1,(uZ (uW (i0-1)))])) (.ret (.tup []))
def t160:T:=.heavy (gE yA 41 41 .nilslice x0) fun a=>.ret a
def t162:T:=.opt (pC x0)<|uI fun n=>.jump 2 [x0,uZ n,uZ 0]
def Vi:T:=.ite (iB i1 i0) (.opt (xC yA 229 x0 (uZ i1)) fun a=>.light (fun m=>mA yA 43 ⟨0,m⟩ a)<|uG vK fun X=>.ite (gC (aI X)) (.call 123 [(eK X)]<|uB fun b=>.ite (!b) oC (.jump 2 [x0,uZ i0,(tD i1)])) .fail) gI
def t163:T:=.call 169 [x0,x1]<|uI fun n=>.ite (iB n 0) (.jump 2 [x1,x0]) (.jump 2 [x0,x1])
def zed:T:=.opt (pC x1)<|uI fun n=>.ite (iB 2 n) (.call 170 [x0,x1]<|uG [.int .u64 0,.int .u64 0,.int .u64 0,.int .u64 0,.bool false] fun X=>.ite true (.ite (tC (X.i 2) 0) (.call 165 [x0,x1] fun a4=>.opt (uX 0 a4) fun a=>.opt (uX 1 a4) fun a=>.jump 2 [x1,a]) (.ite (X.b 4) (.call 171 [.int .u64 (X.i 0),x0,.int .u64 (X.i 2),x1] fun a7=>.ite (same 10 (.int .u64 (X.i 3)) (.int .u64 (X.i 3))) (.ite (same 10 (.int .u64 (X.i 1)) (.int .u64 (X.i 1))) (.call 171 [.int .u64 (X.i 3),x1,.int .u64 (X.i 1),x0] fun a=>.jump 2 [a7,a]) .fail) .fail) (.call 171 [.int .u64 (X.i 2),x1,.int .u64 (X.i 0),x0] fun a9=>.ite (same 10 (.int .u64 (X.i 1)) (.int .u64 (X.i 1))) (.ite (same 10 (.int .u64 (X.i 3)) (.int .u64 (X.i 3))) (.call 171 [.int .u64 (X.i 1),x0,.int .u64 (X.i 3),x1] fun a=>.jump 2 [a9,a]) .fail) .fail))) .fail) (.opt (pC x1)<|uI fun n=>.ite (tC n 0) (.ret x0) (.opt (pC x0)<|uI fun n=>.ite (iB 2 n) (.call 165 [x0,x1] fun a15=>.opt (uX 0 a15) fun a=>.opt (uX 1 a15) fun a=>.jump 33 [x1,a]) (.jump 33 [x0,x1])))
def CY:T:=.call 172 [x0]<|uE fun n1=>.call 172 [x1]<|uE fun n=>.jump 6 [.int .u64 n1,.int .u64 n]
def zec:T:=.ite (!tC i1 0) (.opt (iZ .u64 i0 i1)<|uE fun n=>.jump 6 [.int .u64 i1,.int .u64 n]) (.call 173 [.int .u64 i0] fun a=>.ret a)
def t164:T:=.opt (pC x0)<|uI fun n=>.heavy (uP yA 189 (uZ (uW (Int.tdiv (uW (n+1)) 2))) (uZ (uW (Int.tdiv (uW (n+1)) 2)))) fun a=>.opt (pC x0)<|uI fun n=>.jump 2 [a,x0,uZ n,uZ 0]
def Vh:T:=.ite (iB i1 i0) (.opt (xC yA 41 x1 (uZ i1)) fun a=>.light (fun m=>mA yA 79 ⟨0,m⟩ a)<|uH fun n2=>.opt (xC yA 189 x0 (uZ (uW (Int.tdiv i1 2)))) fun a=>.light (fun m=>mA yA 56 ⟨0,m⟩ a)<|uL fun n5=>.opt (sW .u32 (cA .u32 n2) (uW (16*(Int.tmod i1 2))))<|uL fun n=>.opt (kI Nat.lor .u32 n5 n)<|uL fun n=>.opt (xC yA 189 x0 (uZ (uW (Int.tdiv i1 2)))) fun a=>.heavy (zC yA 56 a (.int .u32 n)) fun _=>.jump 2 [x0,x1,uZ i0,(tD i1)]) (.ret x0)
def t165:T:=.call 169 [x0,x1]<|uI fun n=>.ite (iB n 0) (.call 174 [x0] fun a=>.ret (.tup [.nilslice,a])) (.opt (pC x1)<|uI fun n=>.ite (tC n 1) (.opt (xC yA 189 x1 (uZ 0)) fun a=>.light (fun m=>mA yA 56 ⟨0,m⟩ a)<|uL fun n=>.call 175 [x0,.int .u32 n] fun a8=>.opt (uX 0 a8) fun a9=>.opt (uX 1 a8)<|uL fun n=>.heavy (cC yA 189 1 [(0,(.int .u32 n))]) fun a=>.call 140 [a] fun a=>.ret (.tup [a9,a])) (.opt (pC x1)<|uI fun n15=>.opt (xC yA 189 x1 (uZ (uW (n15-1)))) fun a=>.light (fun m=>mA yA 56 ⟨0,m⟩ a)<|uL fun n=>.call 176 [.int .u32 n]<|uI fun n20=>.call 177 [x1,uZ n20] fun a=>.light (fun m=>vG yA 189 ⟨0,m⟩ a none (some (uZ n15))) fun a22=>.call 177 [x0,uZ n20] fun a23=>.opt (pC x0)<|uI fun n=>.heavy (uP yA 189 (uZ (uW ((uW (n-n15))+1))) (uZ (uW ((uW (n-n15))+1)))) fun a=>.opt (pC a)<|uI fun n=>.jump 2 [uZ n15,uZ n20,a22,a23,a,(uZ (uW (n-1)))]))
def Vg:T:=.ite (bG 0 i2) (.light (fun m=>vG yA 189 ⟨0,m⟩ x1 (some (uZ i2)) (some (uZ (uW ((uW (i2+i0))+1))))) fun a=>.call 178 [a,x0]<|uL fun n=>.opt (xC yA 189 x2 (uZ i2)) fun a=>.heavy (zC yA 56 a (.int .u32 n)) fun _=>.jump 2 [uZ i0,uZ i1,x0,x1,x2,(uZ (uW (i2-1)))]) (.jump 6 [uZ i0,uZ i1,x1,x2,uZ i0,uZ 0])
def Vf:T:=.ite (iB i3 i2) (.opt (xC yA 189 x0 (tD i3)) fun a=>.light (fun m=>mA yA 56 ⟨0,m⟩ a)<|uL fun n2=>.opt (xC yA 189 x0 (uZ i3)) fun a=>.light (fun m=>mA yA 56 ⟨0,m⟩ a)<|uL fun n=>.opt (kI Nat.lor .u64 (cA .u64 ((cA .u64 n2)*4294967296)) (cA .u64 n))<|uE fun n=>.opt (Ey .u64 n i1)<|uE fun n=>.opt (xC yA 189 x0 (uZ i3)) fun a=>.heavy (zC yA 56 a (.int .u32 (cA .u32 n))) fun _=>.jump 6 [uZ i0,uZ i1,x0,x1,uZ i2,(tD i3)]) (.light (fun m=>vG yA 189 ⟨0,m⟩ x0 none (some (uZ i0))) fun a11=>.call 140 [x1] fun a12=>.light (fun m=>vG yA 189 ⟨0,m⟩ x0 none (some (uZ i0))) fun a=>.ite (same 10 a a11) (.call 140 [a11] fun a=>.ret (.tup [a12,a])) .fail)
def t169:T:=.opt (pC x0)<|uI fun n1=>.opt (pC x1)<|uI fun n=>.ite (!tC n1 n) (.opt (pC x0)<|uI fun n5=>.opt (pC x1)<|uI fun n=>.ite (iB n5 n) (.ret (uZ (-1))) (.ret (uZ 1))) (.opt (pC x0)<|uI fun n=>.jump 2 [x0,x1,(uZ (uW (n-1)))])
def Ve:T:=.ite (bG 0 i0) (.opt (xC yA 189 x0 (uZ i0)) fun a=>.light (fun m=>mA yA 56 ⟨0,m⟩ a)<|uL fun n2=>.opt (xC yA 189 x1 (uZ i0)) fun a=>.light (fun m=>mA yA 56 ⟨0,m⟩ a)<|uL fun n=>.ite (!tC n2 n) (.opt (xC yA 189 x0 (uZ i0)) fun a=>.light (fun m=>mA yA 56 ⟨0,m⟩ a)<|uL fun n8=>.opt (xC yA 189 x1 (uZ i0)) fun a=>.light (fun m=>mA yA 56 ⟨0,m⟩ a)<|uL fun n=>.ite (iB n8 n) (.ret (uZ (-1))) (.ret (uZ 1))) (.jump 2 [x0,x1,(uZ (uW (i0-1)))])) (.ret (uZ 0))
def t170:T:=.opt (pC x0)<|uI fun n1=>.opt (xC yA 189 x0 (uZ (uW (n1-1)))) fun a=>.light (fun m=>mA yA 56 ⟨0,m⟩ a)<|uL fun n=>.call 176 [.int .u32 n]<|uI fun n6=>.call 182 [x0,uZ n1,uZ n6]<|uE fun n8=>.call 182 [x1,uZ n1,uZ n6]<|uE fun n=>.ite true (.ite true (.jump 2 [.int .u64 n8,.int .u64 n,.int .u64 0,.int .u64 1,.int .u64 0,.int .u64 0,.int .u64 0,.int .u64 0,.bool false,.int .u64 0,.int .u64 1,.int .u64 0,.int .u64 0,.bool false]) .fail) .fail
def zeb:T:=.ite (bG i3 i1) (.ite (bG (cA .u64 (j1+i3)) (cA .u64 (i0-i1))) (.opt (hZ .u64 i0 i1)<|uE fun n1=>.opt (iZ .u64 i0 i1)<|uE fun n=>.ite true (.ite true (.ite true (.ite true (.ite true (.jump 2 [.int .u64 i1,.int .u64 n,(.int .u64 (cA .u64 (i9+(cA .u64 (n1*i2))))),(.int .u64 (cA .u64 (j1+(cA .u64 (n1*i3))))),.int .u64 i4,.int .u64 i5,.int .u64 i6,.int .u64 i7,.bool g0,.int .u64 i9,.int .u64 i2,.int .u64 j1,.int .u64 i3,(.bool (!g1))]) .fail) .fail) .fail) .fail) .fail) (.ite true (.ret (.agg [.int .u64 i8,.int .u64 i9,.int .u64 j0,.int .u64 j1,.bool g1])) .fail)) (.ite true (.ret (.agg [.int .u64 i8,.int .u64 i9,.int .u64 j0,.int .u64 j1,.bool g1])) .fail)
def t171:T:=.opt (pC x0)<|uI fun n1=>.opt (pC x1)<|uI fun n=>.heavy (uP yA 189 (uZ (uW ((bif iB n1 n then n else n1)+1))) (uZ (uW ((bif iB n1 n then n else n1)+1)))) fun a=>.opt (pC a)<|uI fun n=>.jump 2 [.int .u64 i0,x0,.int .u64 i1,x1,a,.int .u64 0,.int .u64 0,.int .u32 0,uZ n,uZ 0]
def Vd:T:=.ite (iB i6 i5) (.opt (pC x0)<|uI fun n=>.ite (iB i6 n) (.opt (xC yA 189 x0 (uZ i6)) fun a=>.light (fun m=>mA yA 56 ⟨0,m⟩ a)<|uL fun n=>.jump 17 [.int .u64 i0,x0,.int .u64 i1,x1,x2,(.int .u64 (cA .u64 (i2+(cA .u64 (i0*(cA .u64 n)))))),.int .u64 i3,.int .u32 i4,uZ i6,uZ i5,uZ i6]) (.jump 17 [.int .u64 i0,x0,.int .u64 i1,x1,x2,.int .u64 i2,.int .u64 i3,.int .u32 i4,uZ i6,uZ i5,uZ i6])) (.call 140 [x2] fun a=>.ret a)
def CX:T:=.opt (pC x1)<|uI fun n=>.ite (iB i5 n) (.opt (xC yA 189 x1 (uZ i5)) fun a=>.light (fun m=>mA yA 56 ⟨0,m⟩ a)<|uL fun n=>.jump 21 [.int .u64 i0,x0,.int .u64 i1,x1,x2,.int .u64 i2,(.int .u64 (cA .u64 (i3+(cA .u64 (i1*(cA .u64 n)))))),.int .u32 i4,uZ i5,uZ i6,uZ i7]) (.jump 21 [.int .u64 i0,x0,.int .u64 i1,x1,x2,.int .u64 i2,.int .u64 i3,.int .u32 i4,uZ i5,uZ i6,uZ i7])
def CW:T:=.call 179 [(.int .u32 (cA .u32 i2)),(.int .u32 (cA .u32 i3)),.int .u32 i4] fun a=>.opt (uX 0 a)<|uL fun n2=>.opt (uX 1 a)<|uL fun n=>.opt (xC yA 189 x2 (uZ i5)) fun a=>.heavy (zC yA 56 a (.int .u32 n2)) fun _=>.jump 2 [.int .u64 i0,x0,.int .u64 i1,x1,x2,(.int .u64 (Int.fdiv i2 4294967296)),(.int .u64 (Int.fdiv i3 4294967296)),.int .u32 n,uZ i6,(tD i7)]
def t172:T:=.heavy (nK yA 207) fun a0=>.heavy (zC yA 207 a0 (.int .u64 0)) fun _=>.call 183 [x0] fun a=>.range (kR yA) a 2 1 [a0] (.light (fun m=>mA yA 207 ⟨0,m⟩ a0)<|uE fun n=>.ret (.int .u64 n)) (.ret (.int .u64 0))
def zea:T:=.light (fun m=>mA yA 207 ⟨0,m⟩ x0)<|uE fun n=>.opt (kI Nat.lor .u64 (cA .u64 (n*4294967296)) (cA .u64 i0))<|uE fun n=>.heavy (zC yA 207 x0 (.int .u64 n)) fun _=>.ret (.bool true)
def t173:T:=.heavy (cC yA 189 2 [(0,(.int .u32 (cA .u32 i0))),(1,(.int .u32 (cA .u32 (Int.fdiv i0 4294967296))))]) fun a=>.call 140 [a] fun a=>.ret a
def t174:T:=.opt ((gP .eql).f yA 189 (.tmp 3) (.const (.slice none 0 0)) x0 .nilslice)<|uB fun b=>.ite b (.ret .nilslice) (.heavy (cC yA 189 0 []) fun a=>.heavy (gE yA 189 189 a x0) fun a=>.ret a)
def t175:T:=.opt (pC x0)<|uI fun n=>.heavy (uP yA 189 (uZ n) (uZ n)) fun a=>.opt (pC x0)<|uI fun n=>.jump 2 [x0,.int .u32 i0,a,.int .u32 0,(uZ (uW (n-1)))]
def Vc:T:=.ite (bG 0 i2) (.opt (xC yA 189 x0 (uZ i2)) fun a=>.light (fun m=>mA yA 56 ⟨0,m⟩ a)<|uL fun n=>.call 184 [.int .u32 i1,.int .u32 n,.int .u32 i0] fun a=>.opt (uX 0 a)<|uL fun n5=>.opt (uX 1 a)<|uL fun n=>.opt (xC yA 189 x1 (uZ i2)) fun a=>.heavy (zC yA 56 a (.int .u32 n5)) fun _=>.jump 2 [x0,.int .u32 i0,x1,.int .u32 n,(uZ (uW (i2-1)))]) (.call 140 [x1] fun a=>.ret (.tup [a,.int .u32 i1]))
def t176:T:=.call 185 [.int .u32 i0]<|uI fun n=>.ret (uZ (uW (32-n)))
def t177:T:=.opt (pC x0)<|uI fun n=>.heavy (uP yA 189 (tD n) (tD n)) fun a=>.opt (pC x0)<|uI fun n=>.jump 2 [uZ i0,a,x0,uZ n,uZ 0]
def Uz:T:=.ite (iB i2 i1) (.opt (xC yA 189 x1 (uZ i2)) fun a=>.light (fun m=>mA yA 56 ⟨0,m⟩ a)<|uL fun n=>.opt (sW .u64 (cA .u64 n) i0)<|uE fun n4=>.opt (xC yA 189 x0 (uZ i2)) fun a=>.light (fun m=>mA yA 56 ⟨0,m⟩ a)<|uL fun n=>.opt (kI Nat.lor .u32 n (cA .u32 n4))<|uL fun n=>.opt (xC yA 189 x0 (uZ i2)) fun a=>.heavy (zC yA 56 a (.int .u32 n)) fun _=>.opt (xC yA 189 x0 (tD i2)) fun a=>.heavy (zC yA 56 a (.int .u32 (cA .u32 (Int.fdiv n4 4294967296)))) fun _=>.jump 2 [uZ i0,x0,x1,uZ i1,(tD i2)]) (.ret x0)
def t178:T:=.opt (pC x1)<|uI fun n1=>.opt (xC yA 189 x0 (uZ n1)) fun a=>.light (fun m=>mA yA 56 ⟨0,m⟩ a)<|uL fun n4=>.opt (xC yA 189 x0 (uZ (uW (n1-1)))) fun a=>.light (fun m=>mA yA 56 ⟨0,m⟩ a)<|uL fun n=>.opt (kI Nat.lor .u64 (cA .u64 ((cA .u64 n4)*4294967296)) (cA .u64 n))<|uE fun n9=>.opt (xC yA 189 x1 (uZ (uW (n1-1)))) fun a=>.light (fun m=>mA yA 56 ⟨0,m⟩ a)<|uL fun n12=>.opt (hZ .u64 n9 (cA .u64 n12))<|uE fun n14=>.opt (iZ .u64 n9 (cA .u64 n12))<|uE fun n=>.jump 2 [x0,x1,uZ n1,(.int .u64 (cA .u64 n12)),.int .u64 n14,.int .u64 n]
def Ux:T:=.ite (bG 4294967296 i2) (uQ11 i3 i1 x0 x1 i0 i2) (.opt (xC yA 189 x1 (uZ (uW (i0-2)))) fun a=>.light (fun m=>mA yA 56 ⟨0,m⟩ a)<|uL fun n2=>.opt (xC yA 189 x0 (uZ (uW (i0-2)))) fun a=>.light (fun m=>mA yA 56 ⟨0,m⟩ a)<|uL fun n=>.opt (kI Nat.lor .u64 (cA .u64 (i3*4294967296)) (cA .u64 n))<|uE fun n=>.ite (iB n (cA .u64 (i2*(cA .u64 n2)))) (uQ11 i3 i1 x0 x1 i0 i2) (.jump 19 [x0,x1,uZ i0,.int .u64 i2]))
def CV:T:=.opt (pC x1)<|uI fun n=>.jump 6 [x0,x1,uZ i0,.int .u64 i1,.int .u64 0,.int .u64 0,x1,uZ n,uZ 0]
def Uw:T:=.ite (iB i5 i4) (.opt (xC yA 189 x2 (uZ i5)) fun a=>.light (fun m=>mA yA 56 ⟨0,m⟩ a)<|uL fun n2=>.opt (xC yA 189 x0 (uZ i5)) fun a=>.light (fun m=>mA yA 56 ⟨0,m⟩ a)<|uL fun n=>.opt (xC yA 189 x0 (uZ i5)) fun a=>.heavy (zC yA 56 a (.int .u32 (cA .u32 (cA .u64 ((cA .u64 ((cA .u64 n)-(cA .u64 (cA .u32 (cA .u64 ((cA .u64 (i1*(cA .u64 n2)))+i2))))))-i3))))) fun _=>.jump 6 [x0,x1,uZ i0,.int .u64 i1,(.int .u64 (Int.fdiv (cA .u64 ((cA .u64 (i1*(cA .u64 n2)))+i2)) 4294967296)),(.int .u64 (Int.fdiv (cA .u64 ((cA .u64 ((cA .u64 n)-(cA .u64 (cA .u32 (cA .u64 ((cA .u64 (i1*(cA .u64 n2)))+i2))))))-i3)) 9223372036854775808)),x2,uZ i4,(tD i5)]) (.opt (xC yA 189 x0 (uZ i0)) fun a=>.light (fun m=>mA yA 56 ⟨0,m⟩ a)<|uL fun n=>.opt (xC yA 189 x0 (uZ i0)) fun a=>.heavy (zC yA 56 a (.int .u32 (cA .u32 (cA .u64 ((cA .u64 ((cA .u64 n)-i2))-i3))))) fun _=>.ite (tC (Int.fdiv (cA .u64 ((cA .u64 ((cA .u64 n)-i2))-i3)) 9223372036854775808) 0) (.ret (.int .u32 (cA .u32 i1))) (.opt (pC x1)<|uI fun n=>.jump 10 [x0,uZ i0,.int .u64 i1,.int .u32 0,x1,uZ n,uZ 0]))
def Uy:T:=.ite (iB i4 i3) (.opt (xC yA 189 x1 (uZ i4)) fun a=>.light (fun m=>mA yA 56 ⟨0,m⟩ a)<|uL fun n2=>.opt (xC yA 189 x0 (uZ i4)) fun a=>.light (fun m=>mA yA 56 ⟨0,m⟩ a)<|uL fun n=>.call 186 [.int .u32 n,.int .u32 n2,.int .u32 i2] fun a=>.opt (uX 0 a)<|uL fun n8=>.opt (uX 1 a)<|uL fun n=>.opt (xC yA 189 x0 (uZ i4)) fun a=>.heavy (zC yA 56 a (.int .u32 n8)) fun _=>.jump 10 [x0,uZ i0,.int .u64 i1,.int .u32 n,x1,uZ i3,(tD i4)]) (.opt (xC yA 189 x0 (uZ i0)) fun a=>.light (fun m=>mA yA 56 ⟨0,m⟩ a)<|uL fun n=>.opt (xC yA 189 x0 (uZ i0)) fun a=>.heavy (zC yA 56 a (.int .u32 (cA .u32 (n+i2)))) fun _=>.ret (.int .u32 (cA .u32 (cA .u64 (i1-1)))))
def t179:T:=.opt (Dh (.int .u32 i0))<|uL fun n=>.opt (iAnd .u32 n i1)<|uL fun n3=>.opt (kI Nat.xor .u32 i0 i1)<|uL fun n=>.opt (Dh (.int .u32 n))<|uL fun n=>.opt (iAnd .u32 n (cA .u32 ((cA .u32 (i0-i1))-i2)))<|uL fun n=>.opt (kI Nat.lor .u32 n3 n)<|uL fun n=>.ret (.tup [(.int .u32 (cA .u32 ((cA .u32 (i0-i1))-i2))),(.int .u32 (Int.fdiv n 2147483648))])
def t182:T:=.heavy (wN x0) fun a=>.callv (.func (.func 189) [] [a]) [(uZ (uW (i0-1)))]<|uE fun n2=>.callv (.func (.func 189) [] [a]) [(uZ (uW (i0-2)))]<|uE fun n=>.opt (kI Nat.lor .u64 (cA .u64 (n2*4294967296)) n)<|uE fun n=>.opt (sW .u64 n i1)<|uE fun n8=>.callv (.func (.func 189) [] [a]) [(uZ (uW (i0-3)))]<|uE fun n=>.opt (Ey .u64 n (uW (32-i1)))<|uE fun n=>.opt (kI Nat.lor .u64 n8 n)<|uE fun n=>.ret (.int .u64 n)
def t183:T:=.heavy (wN x0) fun a=>.ret (.func (.func 190) [] [a])
def t184:T:=.ite (!tC i2 0) (.ite (bG i2 i0) (.light (fun m=>mA yA 112 ⟨0,m⟩ (.ptr 3 0)) fun a=>cB (zA.asIface a) fun p=>.call pn [.iface p.1 p.2] fun a=>.jump 7 [.int .u32 i0,.int .u32 i1,.int .u32 i2]) (.jump 7 [.int .u32 i0,.int .u32 i1,.int .u32 i2])) (.jump 7 [.int .u32 i0,.int .u32 i1,.int .u32 i2])
def zd9:T:=.opt (kI Nat.lor .u64 (cA .u64 ((cA .u64 i0)*4294967296)) (cA .u64 i1))<|uE fun n1=>.opt (hZ .u64 n1 (cA .u64 i2))<|uE fun n3=>.opt (iZ .u64 n1 (cA .u64 i2))<|uE fun n=>.ret (.tup [(.int .u32 (cA .u32 n3)),(.int .u32 (cA .u32 n))])
def t185:T:=.ite (bG 65536 i0) (.jump 9 [(.int .u32 (Int.fdiv i0 65536)),uZ 16]) (.jump 9 [.int .u32 i0,uZ 0])
def Ut:T:=.ite (bG 256 i0) (.jump 15 [(.int .u32 (Int.fdiv i0 256)),(uZ (uW (i1+8)))]) (.jump 15 [.int .u32 i0,uZ i1])
def CS:T:=.opt (nI yA 9 (.str [0,1,2,2,3,3,3,3,4,4,4,4,4,4,4,4,5,5,5,5,5,5,5,5,5,5,5,5,5,5,5,5,6,6,6,6,6,6,6,6,6,6,6,6,6,6,6,6,6,6,6,6,6,6,6,6,6,6,6,6,6,6,6,6,7,7,7,7,7,7,7,7,7,7,7,7,7,7,7,7,7,7,7,7,7,7,7,7,7,7,7,7,7,7,7,7,7,7,7,7,7,7,7,7,7,7,7,7,7,7,7,7,7,7,7,7,7,7,7,7,7,7,7,7,7,7,7,7,8,8,8,8,8,8,8,8,8,8,8,8,8,8,8,8,8,8,8,8,8,8,8,8,8,8,8,8,8,8,8,8,8,8,8,8,8,8,8,8,8,8,8,8,8,8,8,8,8,8,8,8,8,8,8,8,8,8,8,8,8,8,8,8,8,8,8,8,8,8,8,8,8,8,8,8,8,8,8,8,8,8,8,8,8,8,8,8,8,8,8,8,8,8,8,8,8,8,8,8,8,8,8,8,8,8,8,8,8,8,8,8,8,8,8,8,8,8,8,8,8,8,8,8,8,8,8,8]) (uY (cA .u8 i0)))<|uU fun n=>.ret (uZ (uW (i1+(uW n))))
def t186:T:=.ret (.tup [(.int .u32 (cA .u32 (cA .u64 ((cA .u64 ((cA .u64 i0)+(cA .u64 i1)))+(cA .u64 i2))))),(.int .u32 (cA .u32 (Int.fdiv (cA .u64 ((cA .u64 ((cA .u64 i0)+(cA .u64 i1)))+(cA .u64 i2))) 4294967296)))])
def t188:T:=.ite (iB (uW i0) 7) (.opt (xC yA 201 (.ptr 4 0) (uY i0)) fun a=>.light (fun m=>mA yA 9 ⟨0,m⟩ a)<|uS fun s=>.ret (.str s)) (.ret (.str []))
def t189:T:=.light (fun m=>mA yA 189 ⟨0,m⟩ x0) fun a=>.opt (pC a)<|uI fun n=>.ite (bG n i0) (.ret (.int .u64 0)) (.light (fun m=>mA yA 189 ⟨0,m⟩ x0) fun a=>.opt (xC yA 189 a (uZ i0)) fun a=>.light (fun m=>mA yA 56 ⟨0,m⟩ a)<|uL fun n=>.ret (.int .u64 (cA .u64 n)))
def t190:T:=.light (fun m=>mA yA 189 ⟨0,m⟩ x1) fun a=>.opt (pC a)<|uI fun n=>.jump 2 [x0,x1,(uZ (uW (n-1)))]
def Ur:T:=.ite (bG 0 i0) (.light (fun m=>mA yA 189 ⟨0,m⟩ x1) fun a=>.opt (xC yA 189 a (uZ i0)) fun a=>.light (fun m=>mA yA 56 ⟨0,m⟩ a)<|uL fun n=>.callv x0 [.int .u32 n]<|uB fun b=>.ite (!b) (.ret (.tup [])) (.jump 2 [x0,x1,(uZ (uW (i0-1)))])) (.ret (.tup []))
variable {i0 i1 i2 i3 i4 i5 i6 i7 i8 i9 j0 j1 j2 j3 j4 j5 j6 j7}{l0 l1 l2 l3 l4 l5 l6 l7}{x0 x1 x2 x3 x4 x5 x6 x7 x8 x9 y0 y1}{g0 g1 g2 g3 g4 g5 g6 g7 g8 g9}
def w3:zW 3 (t3 l0 l1) [.str l0,.str l1]:=wA
def w10:zW 10 (t10 l0) [.str l0]:=wA
def w11:zW 11 (t11 l0 x0 x1 x2) [.agg [.str l0,x0,x1,x2]]:=wA
def w12:zW 12 (t12 l0 l1 x0 x1 x2 x3 x4 x5) [.agg [.str l0,x0,x1,x2],.agg [.str l1,x3,x4,x5]]:=wA
def w13:zW 13 (t13 l0) [.str l0]:=wA
def w16:zW 16 (t16 i0 i1 i2 i3 i4 i5 l0 l1 x0 x1 x2 x3 x4 x5 g0 g1 g2 g3) [.agg [uY i0,.str l0,uY i1,.bool g0,x0,.bool g1,x1,uZ i2,x2],.agg [uY i3,.str l1,uY i4,.bool g2,x3,.bool g3,x4,uZ i5,x5]]:=wA
def w22:zW 22 (t22 l0) [.str l0]:=wA
def j22_2:zJ 22 2 (zg9 i0 i1 i2 i3 l0 x0 x1 x2 x3) [x0,x1,x2,x3,.agg [uY i0,.str l0,uZ i1,uZ i2],uZ i3]:=jA
def w24:zW 24 (t24 i0 i1 i2 i3 x0 x1 x2 x3 g0 g1 g2 g3) [.agg [uY i0,.bool g0,x0,.bool g1,x1,uZ i1],.agg [uY i2,.bool g2,x2,.bool g3,x3,uZ i3]]:=wA
def w25:zW 25 (t25 i0 l0) [.str l0,uZ i0]:=wA
def w26:zW 26 (t26 x0 x1) [x0,x1]:=wA
def j26_2:zJ 26 2 (zg8 i0 x0 x1) [x0,x1,uZ i0]:=jA
def w30:zW 30 (t30 x0) [x0]:=wA
def w31:zW 31 (t31 x0) [x0]:=wA
def j31_2:zJ 31 2 (t31_2 i0 x0 x1) [x0,x1,uZ i0]:=jA
def w32:zW 32 (t32 x0) [x0]:=wA
def j32_2:zJ 32 2 (t32_2 i0 x0 x1) [x0,x1,uZ i0]:=jA
def w33:zW 33 (t33 x0 x1) [x0,x1]:=wA
def j33_2:zJ 33 2 (t33_2 i0 x0 x1) [x0,x1,uZ i0]:=jA
def w34:zW 34 (t34 x0 x1) [x0,x1]:=wA
def j34_2:zJ 34 2 (t34_2 i0 x0 x1) [x0,x1,uZ i0]:=jA
def w35:zW 35 (t35 x0 x1) [x0,x1]:=wA
def j35_2:zJ 35 2 (t35_2 i0 x0 x1) [x0,x1,uZ i0]:=jA
def w36:zW 36 (t36 i0) [uY i0]:=wA
def w37:zW 37 (t37 l0 x0) [.str l0,x0]:=wA
def j37_2:zJ 37 2 (zg7 i0 l0 x0) [.str l0,x0,uZ i0]:=jA
def w38:zW 38 (t38 i0) [uY i0]:=wA
def w39:zW 39 (t39 l0) [.str l0]:=wA
def w44:zW 44 (t44 x0 x1) [x0,x1]:=wA
def j44_2:zJ 44 2 (t44_2 i0 x0 x1) [x0,x1,uZ i0]:=jA
def w49:zW 49 (t49 l0) [.str l0]:=wA
def w53:zW 53 (t53 x0 x1 x2 x3 g0 g1 g2 g3) [.agg [.bool g0,x0,.bool g1,x1],.agg [.bool g2,x2,.bool g3,x3]]:=wA
def w55:zW 55 (t55 i0 l0) [.str l0,uY i0]:=wA
def w61:zW 61 (t61 l0 x0 g0) [.agg [.str l0,.bool g0,x0]]:=wA
def w62:zW 62 (t62 i0 i1 i2 i3 i4 i5 i6 i7 i8 l0 l1 l2 l3 x0 x1 x2 x3 x4 x5 g0 g1 g2 g3 g4) [.agg [.str l0,.str l1,uZ i0,uZ i1,uZ i2,.bool g0,uY i3,.str l2,uY i4,.bool g1,x0,.bool g2,x1,uZ i5,x2,uY i6,.str l3,uY i7,.bool g3,x3,.bool g4,x4,uZ i8,x5]]:=wA
def w63:zW 63 (t63 l0 l1 x0 x1 g0 g1) [.agg [.str l0,.bool g0,x0],.agg [.str l1,.bool g1,x1]]:=wA
def w64:zW 64 (t64 i0 i1 i2 i3 i4 i5 i6 i7 i8 i9 j0 j1 j2 j3 j4 j5 j6 j7 l0 l1 l2 l3 l4 l5 l6 l7 x0 x1 x2 x3 x4 x5 x6 x7 x8 x9 y0 y1 g0 g1 g2 g3 g4 g5 g6 g7 g8 g9) [.agg [.str l0,.str l1,uZ i0,uZ i1,uZ i2,.bool g0,uY i3,.str l2,uY i4,.bool g1,x0,.bool g2,x1,uZ i5,x2,uY i6,.str l3,uY i7,.bool g3,x3,.bool g4,x4,uZ i8,x5],.agg [.str l4,.str l5,uZ i9,uZ j0,uZ j1,.bool g5,uY j2,.str l6,uY j3,.bool g6,x6,.bool g7,x7,uZ j4,x8,uY j5,.str l7,uY j6,.bool g8,x9,.bool g9,y0,uZ j7,y1]]:=wA
def w65:zW 65 (t65 i0) [uY i0]:=wA
def w71:zW 71 (t71 x0) [x0]:=wA
def w72:zW 72 (t72 l0 x0) [x0,.str l0]:=wA
def w74:zW 74 (t74 l0 g0) [.str l0,.bool g0]:=wA
def j74_9:zJ 74 9 (t74_9 l0 l1 g0) [.bool g0,.str l0,.str l1,.bool g1,x0,.bool g2,x1]:=jA
def w76:zW 76 (t76 x0 x1) [x0,x1]:=wA
def j76_2:zJ 76 2 (t76_2 i0 i1 x0 x1 x2 g0) [x0,x1,x2,.bool g0,uZ i0,uZ i1]:=jA
def w77:zW 77 (t77 x0) [x0]:=wA
def w78:zW 78 (t78 i0 x0) [x0,uZ i0]:=wA
def w79:zW 79 (t79 x0) [x0]:=wA
def w80:zW 80 (t80 i0) [uY i0]:=wA
def w81:zW 81 (t81 x0) [x0]:=wA
def j81_37:zJ 81 37 (zd3 i0 i1 i5 i6 l0 x0) [x0,uY i0,.str l0,uZ i1,uY i2,.str l1,uZ i3,uZ i4,uZ i5,uZ i6]:=jA
def w83:zW 83 (t83 x0 x1 g0 g1) [.agg [.bool g0,x0],.agg [.bool g1,x1]]:=wA
def w87:zW 87 (t87 i0 l0) [.str l0,uY i0]:=wA
def j87_2:zJ 87 2 (zg4 i0 i1 l0) [.str l0,uY i0,uZ i1]:=jA
def w88:zW 88 (t88 x0) [x0]:=wA
def w92:zW 92 (t92 x0) [x0]:=wA
def j92_2:zJ 92 2 (t92_2 i0 x0 x1) [x0,x1,uZ i0]:=jA
def w93:zW 93 (t93 i0 i1 i2 l0 x0 x1 x2 g0 g1) [.agg [uY i0,.str l0,uY i1,.bool g0,x0,.bool g1,x1,uZ i2,x2]]:=wA
def w94:zW 94 (t94 x0 x1) [x0,x1]:=wA
def j94_2:zJ 94 2 (t94_2 i0 x0 x1) [x0,x1,uZ i0]:=jA
def w95:zW 95 (t95 x0 x1) [x0,x1]:=wA
def j95_2:zJ 95 2 (zg3 i0 i1 x0 x1) [x0,x1,uZ i0,uZ i1]:=jA
def w97:zW 97 (t97 l0) [.str l0]:=wA
def w99:zW 99 (t99 l0) [.str l0]:=wA
def j99_11:zJ 99 11 (zd0 l0 x0 g0 g1) [.str l0,.bool g0,.bool g1,x0]:=jA
def j99_2:zJ 99 2 (zg0 i0 i1 l0 x0 g0 g1) [.str l0,.bool g0,uZ i0,uZ i1,.bool g1,x0]:=jA
def j99_6:zJ 99 6 (zgz l0 x0 x1 g0 g1) [.str l0,.bool g0,x0,.bool g1,x1]:=jA
def zex:zJ 99 10 (Uo i0 i1 i2 i3 i4 l0 x0 x1 g0 g1) [.str l0,.bool g0,x0,uZ i0,.int .u32 i1,.int .u32 i2,uZ i3,uZ i4,.bool g1,x1]:=jA
def w100:zW 100 (t100 x0 x1 g0 g1) [.agg [.bool g0,x0],.agg [.bool g1,x1]]:=wA
def w101:zW 101 (t101 x0 x1 g0 g1) [.agg [.bool g0,x0,.bool g1,x1]]:=wA
def w102:zW 102 (t102 i0 i1 l0 g0) [.str l0,.bool g0,uZ i0,uZ i1]:=wA
def zis:zJ 102 15 (DE i0 i1 i2) [uZ i0,uZ i1,uZ i2]:=jA
def w103:zW 103 (t103 l0) [.str l0]:=wA
def w104:zW 104 (t104 l0) [.str l0]:=wA
def zfk:zJ 104 2 (Vq i0 l0) [.str l0,uZ i0]:=jA
def w105:zW 105 (t105 l0) [.str l0]:=wA
def w106:zW 106 (t106 l0) [.str l0]:=wA
def zir:zJ 106 13 (DD i0 l0 l1 l2) [.str l0,.str l1,uZ i0,.str l2]:=jA
def ziq:zJ 106 17 (DC i0 l0 l1 l2) [.str l0,.str l1,uZ i0,.str l2]:=jA
def w111:zW 111 (t111 i0) [uY i0]:=wA
def w113:zW 113 (t113 i0 i1 i2 x0 x1 g0 g1) [.agg [uZ i0,uZ i1,uZ i2,.bool g0,x0,.bool g1,x1]]:=wA
def w114:zW 114 (t114 i0 i1 x0 x1 g0 g1) [.agg [uY i0,.bool g0,x0,.bool g1,x1,uZ i1]]:=wA
def w115:zW 115 (t115 x0) [x0]:=wA
def j115_2:zJ 115 2 (t115_2 i0 x0 x1) [x0,x1,uZ i0]:=jA
def w116:zW 116 (t116 i0 i1 i2 i3 i4 i5 x0 x1 x2 x3 g0 g1 g2 g3) [.agg [uZ i0,uZ i1,uZ i2,.bool g0,x0,.bool g1,x1],.agg [uZ i3,uZ i4,uZ i5,.bool g2,x2,.bool g3,x3]]:=wA
def w118:zW 118 (t118 x0) [x0]:=wA
def zfi:zJ 118 2 (Vo i0 i1 x0 x1) [x0,x1,uZ i0,uZ i1]:=jA
def zfh:zJ 118 6 (Vn i0 i1 i2 i3 i4 l0 x0 x1) [x0,uZ i0,.str l0,x1,uZ i1,uZ i2,uZ i3,uZ i4]:=jA
def w119:zW 119 (t119 i0 i1 i2) [uZ i0,uZ i1,uZ i2]:=wA
def w121:zW 121 (t121 i0 i1 x0) [x0,.int .u32 i0,.int .u32 i1]:=wA
def zfg:zJ 121 2 (Vm i0 i1 i2 i3 x0 x1 x2) [.int .u32 i0,x0,x1,.int .u64 i1,x2,uZ i2,uZ i3]:=jA
def w122:zW 122 (t122 x0 g0) [.bool g0,x0]:=wA
def w123:zW 123 (t123 x0 g0) [.agg [.bool g0,x0]]:=wA
def w124:zW 124 (t124 x0 x1 g0 g1) [.agg [.bool g0,x0],.agg [.bool g1,x1]]:=wA
def j124_7:zJ 124 7 (zeg x0 x1 g0 g1) [.bool g0,x0,.bool g1,x1,.bool g2,x2,.bool g3,x3]:=jA
def w125:zW 125 (t125 x0 x1 g0 g1) [.agg [.bool g0,x0,.bool g1,x1]]:=wA
def w126:zW 126 (t126 x0 x1 g0 g1) [.agg [.bool g0,x0,.bool g1,x1]]:=wA
def w127:zW 127 (t127 x0 g0) [.agg [.bool g0,x0]]:=wA
def w128:zW 128 (t128 x0 g0) [.agg [.bool g0,x0]]:=wA
def j128_2:zJ 128 2 (zef i0 x0) [x0,.int .u16 i0]:=jA
def w129:zW 129 (t129 l0) [.str l0]:=wA
def w134:zW 134 (t134 x0 x1 g0 g1) [.agg [.bool g0,x0,.bool g1,x1]]:=wA
def w136:zW 136 (t136 i0 i1) [uZ i0,uZ i1]:=wA
def w137:zW 137 (t137 i0) [uZ i0]:=wA
def zff:zJ 137 2 (Vl i0 i1 i2 i3) [uZ i0,uZ i1,uZ i2,uZ i3]:=jA
def w138:zW 138 (t138 i0) [uZ i0]:=wA
def w139:zW 139 (t139 x0) [x0]:=wA
def w140:zW 140 (t140 x0) [x0]:=wA
def Yx:zJ 140 2 (Oy x0) [x0]:=jA
def w141:zW 141 (t141 x0 g0) [.bool g0,x0]:=wA
def zfe:zJ 141 2 (Vk i0 i1 x0 x1 x2 g0 g1) [.bool g0,x0,x1,uZ i0,uZ i1,.bool g1,x2]:=jA
def w142:zW 142 (t142 x0 x1 g0 g1) [.agg [.bool g0,x0],.agg [.bool g1,x1]]:=wA
def w143:zW 143 (t143 x0 x1 g0 g1) [.agg [.bool g0,x0],.agg [.bool g1,x1]]:=wA
def w144:zW 144 (t144 x0 x1) [.agg [.bool g0,x0,.bool g1,x1]]:=wA
def w145:zW 145 (t145 x0 x1 g0 g1) [.agg [.bool g0,x0,.bool g1,x1]]:=wA
def w146:zW 146 (t146 x0) [x0]:=wA
def w147:zW 147 (t147 x0) [x0]:=wA
def w150:zW 150 (t150 x0 g0) [.agg [.bool g0,x0]]:=wA
def w152:zW 152 (t152 i0) [uZ i0]:=wA
def w153:zW 153 (t153 i0) [uZ i0]:=wA
def w154:zW 154 (t154 i0 x0 x1) [.int .u64 i0,x0,x1]:=wA
def w155:zW 155 (t155 x0 x1 g0 g1) [.agg [.bool g0,x0],.agg [.bool g1,x1]]:=wA
def w156:zW 156 (t156 x0 x1 g0 g1) [.agg [.bool g0,x0],.agg [.bool g1,x1]]:=wA
def zim:zJ 156 21 (CZ x0 x1 g0 g1) [x0,x1,.bool g0,x2,.bool g1,x3,.bool g2,x4,.bool g3,x5]:=jA
def w157:zW 157 (t157 x1 g1) [.agg [.bool g0,x0,.bool g1,x1]]:=wA
def w158:zW 158 (t158 x0 g0) [.agg [.bool g0,x0]]:=wA
def w159:zW 159 (t159 x0 x1) [x0,x1]:=wA
def zfd:zJ 159 2 (Vj i0 x0 x1) [x0,x1,uZ i0]:=jA
def w160:zW 160 (t160 x0) [x0]:=wA
def w162:zW 162 (t162 x0) [x0]:=wA
def zfc:zJ 162 2 (Vi i0 i1 x0) [x0,uZ i0,uZ i1]:=jA
def w163:zW 163 (t163 x0 x1) [x0,x1]:=wA
def j163_2:zJ 163 2 (zed x0 x1) [x0,x1]:=jA
def zil:zJ 163 33 (CY x0 x1) [x0,x1]:=jA
def j163_6:zJ 163 6 (zec i0 i1) [.int .u64 i0,.int .u64 i1]:=jA
def w164:zW 164 (t164 x0) [x0]:=wA
def zfb:zJ 164 2 (Vh i0 i1 x0 x1) [x0,x1,uZ i0,uZ i1]:=jA
def w165:zW 165 (t165 x0 x1) [x0,x1]:=wA
def zfa:zJ 165 2 (Vg i0 i1 i2 x0 x1 x2) [uZ i0,uZ i1,x0,x1,x2,uZ i2]:=jA
def ze9:zJ 165 6 (Vf i0 i1 i2 i3 x0 x1) [uZ i0,uZ i1,x0,x1,uZ i2,uZ i3]:=jA
def w169:zW 169 (t169 x0 x1) [x0,x1]:=wA
def ze8:zJ 169 2 (Ve i0 x0 x1) [x0,x1,uZ i0]:=jA
def w170:zW 170 (t170 x0 x1) [x0,x1]:=wA
def j170_2:zJ 170 2 (zeb i0 i1 i2 i3 i4 i5 i6 i7 i8 i9 j0 j1 g0 g1) [.int .u64 i0,.int .u64 i1,.int .u64 i2,.int .u64 i3,.int .u64 i4,.int .u64 i5,.int .u64 i6,.int .u64 i7,.bool g0,.int .u64 i8,.int .u64 i9,.int .u64 j0,.int .u64 j1,.bool g1]:=jA
def w171:zW 171 (t171 i0 i1 x0 x1) [.int .u64 i0,x0,.int .u64 i1,x1]:=wA
def ze7:zJ 171 2 (Vd i0 i1 i2 i3 i4 i5 i6 x0 x1 x2) [.int .u64 i0,x0,.int .u64 i1,x1,x2,.int .u64 i2,.int .u64 i3,.int .u32 i4,uZ i5,uZ i6]:=jA
def zik:zJ 171 17 (CX i0 i1 i2 i3 i4 i5 i6 i7 x0 x1 x2) [.int .u64 i0,x0,.int .u64 i1,x1,x2,.int .u64 i2,.int .u64 i3,.int .u32 i4,uZ i5,uZ i6,uZ i7]:=jA
def zij:zJ 171 21 (CW i0 i1 i2 i3 i4 i5 i6 i7 x0 x1 x2) [.int .u64 i0,x0,.int .u64 i1,x1,x2,.int .u64 i2,.int .u64 i3,.int .u32 i4,uZ i5,uZ i6,uZ i7]:=jA
def w172:zW 172 (t172 x0) [x0]:=wA
def j172_2:zJ 172 2 (zea i0 x0) [x0,.int .u32 i0]:=jA
def w173:zW 173 (t173 i0) [.int .u64 i0]:=wA
def w174:zW 174 (t174 x0) [x0]:=wA
def w175:zW 175 (t175 i0 x0) [x0,.int .u32 i0]:=wA
def ze6:zJ 175 2 (Vc i0 i1 i2 x0 x1) [x0,.int .u32 i0,x1,.int .u32 i1,uZ i2]:=jA
def w176:zW 176 (t176 i0) [.int .u32 i0]:=wA
def w177:zW 177 (t177 i0 x0) [x0,uZ i0]:=wA
def ze5:zJ 177 2 (Uz i0 i1 i2 x0 x1) [uZ i0,x0,x1,uZ i1,uZ i2]:=jA
def w178:zW 178 (t178 x0 x1) [x0,x1]:=wA
def ze4:zJ 178 2 (Ux i0 i1 i2 i3 x0 x1) [x0,x1,uZ i0,.int .u64 i1,.int .u64 i2,.int .u64 i3]:=jA
def zii:zJ 178 19 (CV i0 i1 x0 x1) [x0,x1,uZ i0,.int .u64 i1]:=jA
def ze3:zJ 178 6 (Uw i0 i1 i2 i3 i4 i5 x0 x1 x2) [x0,x1,uZ i0,.int .u64 i1,.int .u64 i2,.int .u64 i3,x2,uZ i4,uZ i5]:=jA
def JC:zJ 178 10 (Uy i0 i1 i2 i3 i4 x0 x1) [x0,uZ i0,.int .u64 i1,.int .u32 i2,x1,uZ i3,uZ i4]:=jA
def w179:zW 179 (t179 i0 i1 i2) [.int .u32 i0,.int .u32 i1,.int .u32 i2]:=wA
def w182:zW 182 (t182 i0 i1 x0) [x0,uZ i0,uZ i1]:=wA
def w183:zW 183 (t183 x0) [x0]:=wA
def w184:zW 184 (t184 i0 i1 i2) [.int .u32 i0,.int .u32 i1,.int .u32 i2]:=wA
def j184_7:zJ 184 7 (zd9 i0 i1 i2) [.int .u32 i0,.int .u32 i1,.int .u32 i2]:=jA
def w185:zW 185 (t185 i0) [.int .u32 i0]:=wA
def ze0:zJ 185 9 (Ut i0 i1) [.int .u32 i0,uZ i1]:=jA
def zif:zJ 185 15 (CS i0 i1) [.int .u32 i0,uZ i1]:=jA
def w186:zW 186 (t186 i0 i1 i2) [.int .u32 i0,.int .u32 i1,.int .u32 i2]:=wA
def w188:zW 188 (t188 i0) [uY i0]:=wA
def w189:zW 189 (t189 i0 x0) [uZ i0,x0]:=wA
def w190:zW 190 (t190 x0 x1) [x0,x1]:=wA
def zey:zJ 190 2 (Ur i0 x0 x1) [x0,x1,uZ i0]:=jA
end Go.Proofs
