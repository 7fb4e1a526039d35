/- The trees of functions. (Printed by a tool; the kernel agrees.) -/
import Derived.Test.YtmmedgeabnpnhaaGreatDoorA17
set_option linter.all false
noncomputable section
set_option maxRecDepth 100000
namespace Go.Proofs
open Go Go.Am
variable [sC]{m:Tr sA}{Q:dB}
abbrev qJ:List zA:=[.int .u8 0,.str [],.int .u8 0,.bool false,.nilslice,.bool false,.nilslice,.int .i64 0,.nilslice]
abbrev iI:List zA:=[.int .u8 0,.str [],.bool false,.int .i64 0,.int .i64 0,.int .i64 0,.int .i64 0,.int .i64 0]
abbrev zz2z:List zA:=[.str [],.str [],.int .i64 0,.int .i64 0,.int .i64 0,.bool false,.int .u8 0,.str [],.int .u8 0,.bool false,.nilslice,.bool false,.nilslice,.int .i64 0,.nilslice,.int .u8 0,.str [],.int .u8 0,.bool false,.nilslice,.bool false,.nilslice,.int .i64 0,.nilslice]
abbrev zz3z:List zA:=[.str [],.bool false,.nilslice]
abbrev zz4z:List zA:=[.int .i64 0,.int .i64 0,.int .i64 0,.bool false,.nilslice,.bool false,.nilslice]
abbrev zz5z:List zA:=[.str [],.int .u8 0,.bool false]
abbrev mW:List zA:=[.bool false,.nilslice]
abbrev kY:List zA:=[.int .u8 0,.int .u8 0,.int .u8 0,.int .u8 0,.int .u8 0,.int .u8 0,.int .u8 0,.int .u8 0,.int .u8 0,.int .u8 0]
abbrev zz8z:List zA:=[.bool false,.nilslice,.bool false,.nilslice]
def mB{f kf:Nat}{fn:Func}{A:wF}{x:List zA}{T:T}(h:sM yA F f fn kf A)(k:qA yA.base (Wq yA F jH) (Jq yA F f) T m Q)(h1:(Nat.ble (rB x) kf&&Nat.ble (rB x) fn.ntmps)=true:=by kernel_rfl)(h2:entT yA fn kf f A x=T:=by kernel_rfl):Wc yA F f x m Q:=ze3 h h1 (by rw[h2];exact k)
def iC{f kf i:Nat}{fn:Func}{A:wF}{x:List zA}{T:T}(h:sM yA F f fn kf A)(k:qA yA.base (Wq yA F jH) (Jq yA F f) T m Q)(h2:Gk (ptsT yA fn kf f A) i x=[T]:=by kernel_rfl):Jq yA F f i x m Q:=Jq_of1 h h2 k
def uI (k:Int->T)(a:zA):T:=.asI .i64 a k
def uU (k:Int->T)(a:zA):T:=.asI .u8 a k
def uL (k:Int->T)(a:zA):T:=.asI .u32 a k
def uE (k:Int->T)(a:zA):T:=.asI .u64 a k
def uH (k:Int->T)(a:zA):T:=.asI .u16 a k
def uB (k:Bool->T)(a:zA):T:=.asB a k
def uS (k:List Nat->T)(a:zA):T:=.asS a k
def uG (z:List zA)(k:jI->T)(a:zA):T:=.asG z a k
def kD (l:List zA):Bool:=vF zA.one l
abbrev yC(i:Int):zA:=.int .i64 (rA .i64 (i+1))
def zB:T:=.ret (.bool false)
def qF:T:=.ret (.bool true)
def bD (v:zA):Option zA:=Bn v
def uX (n:Nat)(v:zA):Option zA:=gI n v
abbrev uZ(n:Int):zA:=.int .i64 n
abbrev uY(n:Int):zA:=.int .u8 n
abbrev uW(n:Int):Int:=rA .i64 n
def uM0 (X:jI):List zA:=[.int .u8 (X.i 0),.str (X.s 1),.int .u8 (X.i 2),.bool (X.b 3),X.v 4,.bool (X.b 5),X.v 6,.int .i64 (X.i 7),X.v 8]
def cF (X:jI):zA:=.agg [.int .u8 (X.i 0),.str (X.s 1),.int .u8 (X.i 2),.bool (X.b 3),X.v 4,.bool (X.b 5),X.v 6,.int .i64 (X.i 7),X.v 8]
def pN (X:jI):List zA:=[.bool (X.b 0),X.v 1]
def oN (X:jI):zA:=.agg [.bool (X.b 0),X.v 1]
def uA6 (X:jI):zA:=.agg [.int .u8 (X.i 0),.int .u8 (X.i 1),.int .u8 (X.i 2),.int .u8 (X.i 3),.int .u8 (X.i 4),.int .u8 (X.i 5),.int .u8 (X.i 6),.int .u8 (X.i 7),.int .u8 (X.i 8),.int .u8 (X.i 9)]
def uM8 (X:jI):List zA:=[.bool (X.b 0),X.v 1,.bool (X.b 2),X.v 3]
def uQ9 (i1:Int)(i0:Int):T :=.ite (iA i1 2) (.call 224 [uZ i0]<|uB fun b=>.ite b (.ret (uZ 29)) (.ret (uZ 28))) (.ret (uZ 0))
def uQ1 (i1:Int)(i0:Int):T :=.ite (iA i1 4) (.ite (iA i1 4) (.ret (uZ 30)) (uQ9 i1 i0)) (.ite (iA i1 6) (.ite (iA i1 6) (.ret (uZ 30)) (uQ9 i1 i0)) (.ite (iA i1 9) (.ite (iA i1 9) (.ret (uZ 30)) (uQ9 i1 i0)) (.ite (iA i1 11) (.ret (uZ 30)) (uQ9 i1 i0))))
def uQ3 (i1:Int)(g0:Bool)(x1:zA)(g1:Bool)(x2:zA)(i2:Int)(i0:Int)(i3:Int)(x0:zA)(l0:List Nat)(x3:zA):T :=.ite (kD [uY i1,.bool g0,x1,.bool g1,x2,uZ i2]) (.ite (iA i0 1) (.call 39 [.agg [uY i1,.bool g0,x1,.bool g1,x2,uZ i2]]<|uB fun b=>.ret (.bool b)) (.ite (iA i0 19) (.ite (iB i2 1) zB (.ite (iB 6 i2) zB (.ite true (.jump 33 [uZ i3,x0,uY i0,.str l0,uY i1,.bool g0,x1,.bool g1,x2,uZ i2,x3,uY i1,.bool g0,x1,.bool g1,x2,uZ 0]) .fail))) (.jump 33 [uZ i3,x0,uY i0,.str l0,uY i1,.bool g0,x1,.bool g1,x2,uZ i2,x3,uY i1,.bool g0,x1,.bool g1,x2,uZ i2]))) .fail
def uQ4 (i0:Int)(g0:Bool)(x0:zA)(g1:Bool)(x1:zA)(i1:Int):T :=.ite (iA i0 1) (.call 90 [.agg [.bool g0,x0,.bool g1,x1]]<|uB fun b=>.ite b (.ite (iA i1 0) qF (.ret (.bool (iA i1 1)))) zB) (.ite (iA i0 4) (.call 90 [.agg [.bool g0,x0,.bool g1,x1]]<|uB fun b=>.ite b (.call 91 [uZ i1]<|uB fun b=>.ret (.bool b)) zB) (.ite (iA i0 5) (.ite (iA i0 5) (.call 90 [.agg [.bool g0,x0,.bool g1,x1]]<|uB fun b=>.ite b (.ite (uC (-1048576) i1) (.ret (.bool (uC i1 1048576))) zB) zB) zB) (.ite (iA i0 6) (.call 90 [.agg [.bool g0,x0,.bool g1,x1]]<|uB fun b=>.ite b (.ite (uC (-1048576) i1) (.ret (.bool (uC i1 1048576))) zB) zB) zB)))
def uQ7 (x0:zA)(i1:Int)(x1:zA)(x2:zA)(i0:Int):T :=.opt (vB x0)<|uI fun n=>.ite (iB i1 n) (.opt (jB yA 30 x0 (uZ i1)) fun a=>.light (fun m=>aA yA 72 ⟨0,m⟩ a)<|uH fun n=>.jump 17 [x0,x1,x2,(uZ (uW (i0+(uW n)))),uZ i1]) (.jump 17 [x0,x1,x2,uZ i0,uZ i1])
def uQ8 (i0:Int):T :=.ite (iA i0 9) (.ite (iA i0 9) (.ret (uZ 6)) (.ret (uZ 7))) (.ite (iA i0 10) (.ret (uZ 6)) (.ret (uZ 7)))
def uQ12 (i3:Int)(i1:Int)(x0:zA)(x1:zA)(i0:Int)(i2:Int):T :=.ite (uC 4294967296 (rA .u64 (i3+i1))) (.jump 19 [x0,x1,uZ i0,(.int .u64 (rA .u64 (i2-1)))]) (.jump 2 [x0,x1,uZ i0,.int .u64 i1,(.int .u64 (rA .u64 (i2-1))),(.int .u64 (rA .u64 (i3+i1)))])
def uQ13 (g0:Bool)(x0:zA)(g1:Bool)(x1:zA):T :=.call 89 [.agg [.bool g0,x0,.bool g1,x1]]<|uB fun b=>.ret (.bool b)
def uQ14 (x0:zA)(s:List Nat):T :=.light (fun m=>aA yA 90 ⟨0,m⟩ x0) fun a=>.heavy (nF yA 90 9 a (.str s)) fun a=>.heavy (kE yA 90 x0 a) fun _=>.ret (.bool true)
def uQ15 (i1:Int):T :=.opt (jB yA 257 (.ptr 2 0) (uZ (uW (i1-1)))) fun a=>.light (fun m=>aA yA 3 ⟨0,m⟩ a)<|uI fun n=>.ret (uZ n)
def Ff (x0:zA):T :=.opt (jB yA 30 x0 (uZ 0)) fun a=>.light (fun m=>aA yA 72 ⟨0,m⟩ a)<|uH fun n=>.ret (.bool (iA n 1))
def uQ17 (i0:Int):T :=.ite (iA i0 7) (.ite (iA i0 7) (.ret (uZ 5)) (uQ8 i0)) (.ite (iA i0 8) (.ret (uZ 5)) (uQ8 i0))
variable (i0 i1 i2 i3 i4 i5 i6 i7 i8 i9 j0 j1 j2 j3 j4 j5 j6 j7:Int)(l0 l1 l2 l3 l4 l5 l6 l7:List Nat)(x0 x1 x2 x3 x4 x5 x6 x7 x8 x9 y0 y1:zA)(g0 g1 g2 g3 g4 g5 g6 g7 g8 g9:Bool)
def t4:T:=.call 9 [.agg [uY i0,.str l0,uY i1,.bool g0,x0,.bool g1,x1,uZ i2,x2],uZ 400]<|uI fun n=>.ite (iB 400 n) (.call 7 []<|uB fun b=>.ret (.bool b)) (.call 10 [.agg [uY i0,.str l0,uY i1,.bool g0,x0,.bool g1,x1,uZ i2,x2]]<|uB fun b=>.ite b (.call 7 []<|uB fun b=>.ret (.bool b)) zB)
def t9:T:=.call 16 [.agg [.bool g0,x0,.bool g1,x1]]<|uI fun n=>.ite (same 10 (.str l0) (.str l0)) (.ite (same 10 (uZ (Int.ofNat (rB l0))) (uZ (Int.ofNat (rB l0)))) (.jump 2 [uZ i3,(uZ (uW (n+(uW (Int.tdiv (Int.ofNat (rB l0)) 30))))),uZ 0,uY i0,.str l0,uY i1,.bool g0,x0,.bool g1,x1,uZ i2,x2]) .fail) .fail
def t9_2:T:=.opt (vB x2)<|uI fun n=>.ite (iB i2 n) (.ite (uC i1 i0) (.opt (jB yA 37 x2 (uZ i2)) fun a=>.light (fun m=>aA yA 39 ⟨0,m⟩ a)<|uG qJ fun X=>.call 9 [(cF X),(uZ (uW (i0-i1)))]<|uI fun n=>.jump 2 [uZ i0,(uZ (uW (i1+n))),(yC i2),uY i3,.str l0,uY i4,.bool g0,x0,.bool g1,x1,uZ i5,x2]) (.ret (uZ i1))) (.ret (uZ i1))
def t10:T:=.call 27 [.agg [uY i0,.str l0,uY i1,.bool g0,x0,.bool g1,x1,uZ i2,x2]]<|uG qJ fun X=>.ite (kD (uM0 X)) (.call 28 [(cF X)] fun a=>.opt (uX 0 a)<|uS fun s4=>.opt (uX 1 a)<|uI fun n6=>.call 29 [.agg [uY i0,.str l0,uY i1,.bool g0,x0,.bool g1,x1,uZ i2,x2]] fun a=>.opt (uX 0 a)<|uS fun s9=>.opt (uX 1 a)<|uI fun n11=>.call 18 [(.agg [uY (X.i 2),.bool (X.b 3),X.v 4,.bool (X.b 5),X.v 6,uZ (X.i 7)])] fun a=>.opt (uX 0 a)<|uS fun s14=>.opt (uX 1 a)<|uI fun n=>.call 30 [.agg [uY i1,.bool g0,x0,.bool g1,x1,uZ i2]]<|uS fun s=>.ite (cC s []) (.jump 19 [.str s4,uZ n6,.str s9,uZ n11,.str s14,uZ n,.str s,uZ 2,uY i0,.str l0,uY i1,.bool g0,x0,.bool g1,x1,uZ i2,x2,uY (X.i 0),.str (X.s 1),uY (X.i 2),.bool (X.b 3),X.v 4,.bool (X.b 5),X.v 6,uZ (X.i 7),X.v 8]) (.jump 19 [.str s4,uZ n6,.str s9,uZ n11,.str s14,uZ n,.str s,uZ 0,uY i0,.str l0,uY i1,.bool g0,x0,.bool g1,x1,uZ i2,x2,uY (X.i 0),.str (X.s 1),uY (X.i 2),.bool (X.b 3),X.v 4,.bool (X.b 5),X.v 6,uZ (X.i 7),X.v 8])) .fail
def Zk:T:=.ite (cC l0 l1) (.ite (iA i0 i1) (.ite (cC l2 l3) (.ite (iA i2 i3) (.call 31 [.agg [uY i7,.str l5,uY i8,.bool g2,x3,.bool g3,x4,uZ i9,x5],.agg [uY i4,.str l4,uY i5,.bool g0,x0,.bool g1,x1,uZ i6,x2]]<|uB fun b=>.ret (.bool b)) zB) zB) zB) zB
def t16:T:=.opt (vB x0)<|uI fun n1=>.opt (vB x1)<|uI fun n=>.ret (uZ (uW ((uW (1+n1))+n)))
def t18:T:=.call 39 [.agg [uY i0,.bool g0,x0,.bool g1,x1,uZ i1]]<|uB fun b=>.ite (!b) (.ret (.tup [.str [],uZ 2])) (.call 40 [.agg [uY i0,.bool g0,x0,.bool g1,x1,uZ i1]]<|uS fun s=>.ret (.tup [.str s,uZ 0]))
def t27:T:=.call 66 [.agg [uY i1,.bool g0,x0,.bool g1,x1,uZ i2]]<|uG [uY 0,.bool false,.nilslice,.bool false,.nilslice,uZ 0] fun X=>.ite (kD [uY (X.i 0),.bool (X.b 1),X.v 2,.bool (X.b 3),X.v 4,uZ (X.i 5)]) (.call 67 [x2] fun a=>.ite (kD [a]) (.ite (kD [uY i0,.str l0,uY (X.i 0),.bool (X.b 1),X.v 2,.bool (X.b 3),X.v 4,uZ (X.i 5),a]) (.ret (.agg [uY i0,.str l0,uY (X.i 0),.bool (X.b 1),X.v 2,.bool (X.b 3),X.v 4,uZ (X.i 5),a])) .fail) .fail) .fail
def t28:T:=.call 48 []<|uG [.nilptr] fun X=>.ite (same 10 (.agg [uY i0,.str l0,uY i1,.bool g0,x0,.bool g1,x1,uZ i2,x2]) (.agg [uY i0,.str l0,uY i1,.bool g0,x0,.bool g1,x1,uZ i2,x2])) (.call 68 [(.agg [X.v 0]),.agg [uY i0,.str l0,uY i1,.bool g0,x0,.bool g1,x1,uZ i2,x2],uZ 1]<|uB fun b=>.ite (!b) (.ret (.tup [.str [],uZ 2])) (.call 69 [.agg [uY i0,.str l0,uY i1,.bool g0,x0,.bool g1,x1,uZ i2,x2]]<|uS fun s=>.ite (iB 65536 (Int.ofNat (rB s))) (.ret (.tup [.str [],uZ 3])) (.ret (.tup [.str s,uZ 0])))) .fail
def t29:T:=.call 70 [.agg [uY i0,.str l0,uY i1,.bool g0,x0,.bool g1,x1,uZ i2,x2],uZ 24]<|uB fun b=>.ite (!b) (.ret (.tup [.str [],uZ 2])) (.call 71 [.agg [uY i0,.str l0,uY i1,.bool g0,x0,.bool g1,x1,uZ i2,x2]]<|uS fun s=>.ite (iB 65536 (Int.ofNat (rB s))) (.ret (.tup [.str [],uZ 3])) (.ret (.tup [.str s,uZ 0])))
def t30:T:=.ite (iA i0 2) (.call 56 [.agg [.bool g0,x0,.bool g1,x1]]<|uS fun s1=>.ite (cC s1 []) (.ret (.str [])) (.ite (!iA i1 0) (.ret (.str [])) (.ite (iA i0 3) (.opt (iE [109,111,110,101,121,32] s1)<|uS fun s=>.ret (.str s)) (.ret (.str s1))))) (.ite (iA i0 3) (.call 56 [.agg [.bool g0,x0,.bool g1,x1]]<|uS fun s5=>.ite (cC s5 []) (.ret (.str [])) (.ite (!iA i1 0) (.ret (.str [])) (.ite (iA i0 3) (.opt (iE [109,111,110,101,121,32] s5)<|uS fun s=>.ret (.str s)) (.ret (.str s5))))) (.call 72 [.agg [.bool g0,x0,.bool g1,x1]]<|uB fun b=>.ite (!b) (.ret (.str [])) (.ite (iA i0 1) (.ite (iA i1 0) (.ret (.str [102,97,108,115,101])) (.ite (iA i1 1) (.ret (.str [116,114,117,101])) (.ret (.str [])))) (.ite (iA i0 4) (.call 55 [uZ i1]<|uS fun s=>.ret (.str s)) (.ite (iA i0 5) (.ite (uC (-1048576) i1) (.ite (uC i1 1048576) (.call 54 [uZ i1]<|uS fun s=>.opt (iE s [32,100,97,121,115])<|uS fun s=>.ret (.str s)) (.ret (.str []))) (.ret (.str []))) (.ite (iA i0 6) (.ite (uC (-1048576) i1) (.ite (uC i1 1048576) (.call 54 [uZ i1]<|uS fun s=>.opt (iE s [32,109,111,110,116,104,115])<|uS fun s=>.ret (.str s)) (.ret (.str []))) (.ret (.str []))) (.ret (.str []))))))))
def t31:T:=.call 73 [.agg [uY i0,.str l0,uY i1,.bool g0,x0,.bool g1,x1,uZ i2,x2],.agg [uY i3,.str l1,uY i4,.bool g2,x3,.bool g3,x4,uZ i5,x5]]<|uB fun b=>.ite b (.call 74 [.agg [uY i1,.bool g0,x0,.bool g1,x1,uZ i2],.agg [uY i4,.bool g2,x3,.bool g3,x4,uZ i5]]<|uB fun b=>.ite b (.call 75 [x2,x5]<|uB fun b=>.ret (.bool b)) zB) zB
def t39:T:=.ite (iA i0 2) (.ite (iA i0 2) (.ite (iA i1 0) (uQ13 g0 x0 g1 x1) zB) (uQ4 i0 g0 x0 g1 x1 i1)) (.ite (iA i0 3) (.ite (iA i1 0) (uQ13 g0 x0 g1 x1) zB) (uQ4 i0 g0 x0 g1 x1 i1))
def t40:T:=.ite (iA i0 1) (.call 92 [(.bool (iA i1 1))]<|uS fun s=>.ret (.str s)) (.ite (iA i0 2) (.call 93 [.agg [.bool g0,x0,.bool g1,x1]]<|uS fun s=>.ret (.str s)) (.ite (iA i0 3) (.call 93 [.agg [.bool g0,x0,.bool g1,x1]]<|uS fun s=>.opt (iE [109,111,110,101,121,32] s)<|uS fun s=>.ret (.str s)) (.ite (iA i0 4) (.call 94 [uZ i1]<|uS fun s=>.ret (.str s)) (.ite (iA i0 5) (.call 95 [uZ i1]<|uS fun s=>.opt (iE s [32,100,97,121,115])<|uS fun s=>.ret (.str s)) (.ite (iA i0 6) (.call 95 [uZ i1]<|uS fun s=>.opt (iE s [32,109,111,110,116,104,115])<|uS fun s=>.ret (.str s)) (.ret (.str [])))))))
def t45:T:=.call 104 [x0] fun a=>.opt (bD x0) fun a=>.opt (zE yA 92 1 a) fun a=>.light (fun m=>aA yA 90 ⟨0,m⟩ a) fun a=>.heavy (nF yA 90 9 a (.str l0)) fun a4=>.opt (bD x0) fun a=>.opt (zE yA 92 1 a) fun a=>.heavy (kE yA 90 a a4) fun _=>.ret (.tup [(uZ (Int.ofNat (rB l0))),.niliface])
def t46:T:=.opt (bD x0) fun a=>.opt (zE yA 92 1 a) fun a=>.light (fun m=>aA yA 90 ⟨0,m⟩ a) fun a=>.opt (vB a)<|uI fun n=>.ret (uZ n)
def t48:T:=.call 105 [] fun a=>.ite (kD [a]) (.ite (kD [a]) (.ret (.agg [a])) .fail) .fail
def t54:T:=.call 119 [uZ i0]<|uG mW fun X=>.call 118 [(oN X)] fun a=>.opt (uX 0 a)<|uS fun s4=>.opt (uX 1 a)<|uI fun n=>.ite (iB i0 0) (.opt (tE yA 9 eQ (.str s4) (some (uZ 1)) none)<|uS fun s=>.opt (iE [109,105,110,117,115,32] s)<|uS fun s=>.ret (.str s)) (.ret (.str s4))
def t55:T:=.call 120 [uZ i0] fun a=>.opt (uX 0 a)<|uI fun n2=>.opt (uX 1 a)<|uI fun n4=>.opt (uX 2 a)<|uI fun n6=>.opt (uX 3 a)<|uI fun n=>.ite (!iA n 0) (.ret (.str [])) (.call 121 [uZ n2,uZ 4]<|uS fun s=>.opt (iE s [45])<|uS fun s12=>.call 121 [uZ n4,uZ 2]<|uS fun s=>.opt (iE s12 s)<|uS fun s=>.opt (iE s [45])<|uS fun s18=>.call 121 [uZ n6,uZ 2]<|uS fun s=>.opt (iE s18 s)<|uS fun s=>.ret (.str s))
def t56:T:=.call 122 [.agg [.bool g0,x0,.bool g1,x1]] fun a=>.opt (uX 0 a)<|uS fun s2=>.opt (uX 1 a)<|uI fun n=>.ite (!iA n 0) (.ret (.str [])) (.opt (cP yA 9 (.str s2) (uZ 0))<|uU fun n=>.ite (iA n 45) (.opt (tE yA 9 eQ (.str s2) (some (uZ 1)) none)<|uS fun s=>.jump 17 [.str s,.str [109,105,110,117,115,32]]) (.jump 17 [.str s2,.str []]))
def Yq:T:=.ite (iB 200 (Int.ofNat (rB l0))) (.ret (.str [])) (.opt (iE l1 l0)<|uS fun s=>.ret (.str s))
def t58:T:=.ite (uC 1 (Int.ofNat (rB l0))) (.ite (uC (Int.ofNat (rB l0)) 24) (.opt (cP yA 9 (.str l0) (uZ 0))<|uU fun n=>.call 123 [uY n]<|uB fun b=>.ite b (.call 124 [.str l0,uZ 0]<|uI fun n=>.ite (iA n (Int.ofNat (rB l0))) (.call 125 [.str l0]<|uB fun b=>.ret (.bool (!b))) zB) zB) zB) zB
def t60:T:=.ite (uC 0 i0) (.ret (.bool (iB i0 65536))) zB
def t66:T:=.call 134 [.agg [.bool g0,x0,.bool g1,x1]]<|uG zz8z fun X=>.ite (kD (uM8 X)) (.ite (kD [uY i0,.bool (X.b 0),X.v 1,.bool (X.b 2),X.v 3,uZ i1]) (.ret (.agg [uY i0,.bool (X.b 0),X.v 1,.bool (X.b 2),X.v 3,uZ i1])) .fail) .fail
def t67:T:=.opt (vB x0)<|uI fun n=>.heavy (sK yA 37 (uZ 0) (uZ (uW (n+12)))) fun a=>.jump 2 [x0,a,uZ 0]
def t67_2:T:=.opt (vB x0)<|uI fun n=>.ite (iB i0 n) (.opt (jB yA 37 x0 (uZ i0)) fun a=>.light (fun m=>aA yA 39 ⟨0,m⟩ a)<|uG qJ fun X=>.call 27 [(cF X)]<|uG qJ fun X=>.ite (kD (uM0 X)) (.heavy (bE yA 37 1 [(0,(cF X))]) fun a=>.heavy (nF yA 37 37 x1 a) fun a=>.jump 2 [x0,a,(yC i0)]) .fail) (.jump 6 [x0,x1,uZ 0])
def Pq:T:=.ite (iB i0 12) (.call 135 [uZ 1,uZ i0]<|uG qJ fun X=>.heavy (bE yA 37 1 [(0,(cF X))]) fun a=>.heavy (nF yA 37 37 x1 a) fun a=>.jump 6 [x0,a,(yC i0)]) (.opt (vB x0)<|uI fun n=>.light (fun m=>tE yA 37 ⟨0,m⟩ x1 none (some (uZ n))) fun a=>.ret a)
def t68:T:=.ite (iB 24 i3) zB (.ite (uC 27 (uW i0)) zB (.opt (bD x0) fun a=>.opt (jB yA 201 a (uY i0)) fun a1=>.opt (bD a1) fun a=>.opt (zE yA 168 0 a) fun a=>.light (fun m=>aA yA 5 ⟨0,m⟩ a)<|uU fun n=>.ite (iA n 0) zB (.opt (vB x3)<|uI fun n7=>.opt (bD a1) fun a=>.opt (zE yA 168 3 a) fun a=>.light (fun m=>aA yA 3 ⟨0,m⟩ a)<|uI fun n=>.ite (iB n7 n) zB (.opt (vB x3)<|uI fun n13=>.opt (bD a1) fun a=>.opt (zE yA 168 4 a) fun a=>.light (fun m=>aA yA 3 ⟨0,m⟩ a)<|uI fun n=>.ite (iB n n13) zB (.opt (bD a1) fun a=>.opt (zE yA 168 2 a) fun a=>.light (fun m=>aA yA 4 ⟨0,m⟩ a)<|uB fun b=>.ite b (.call 107 [.str l0]<|uB fun b=>.ite (!b) zB (.opt (bD a1) fun a=>.opt (zE yA 168 2 a) fun a=>.light (fun m=>aA yA 4 ⟨0,m⟩ a)<|uB fun b=>.ite (!b) (.ite (!cC l0 []) zB (uQ3 i1 g0 x1 g1 x2 i2 i0 i3 x0 l0 x3)) (uQ3 i1 g0 x1 g1 x2 i2 i0 i3 x0 l0 x3))) (.opt (bD a1) fun a=>.opt (zE yA 168 2 a) fun a=>.light (fun m=>aA yA 4 ⟨0,m⟩ a)<|uB fun b=>.ite (!b) (.ite (!cC l0 []) zB (uQ3 i1 g0 x1 g1 x2 i2 i0 i3 x0 l0 x3)) (uQ3 i1 g0 x1 g1 x2 i2 i0 i3 x0 l0 x3)))))))
def Yp:T:=.call 136 [.agg [uY i4,.bool g2,x4,.bool g3,x5,uZ i5]]<|uB fun b=>.ite (!b) zB (.opt (vB x3)<|uI fun n=>.jump 4 [uZ i0,x3,uZ n,uZ 0,x0])
def Pp:T:=.ite (iB i2 i1) (.opt (jB yA 37 x0 (uZ i2)) fun a=>.light (fun m=>aA yA 39 ⟨0,m⟩ a)<|uG qJ fun X=>.ite (kD (uM0 X)) (.call 68 [.agg [x1],(cF X),(yC i0)]<|uB fun b=>.ite (!b) zB (.jump 4 [uZ i0,x0,uZ i1,(yC i2),x1])) .fail) qF
def t69:T:=.call 105 [] fun a=>.ite (kD [a]) (.heavy (Bq yA 171 (.agg [.nilptr,.nilslice,a])) fun a1=>.call 137 [a1,.agg [uY i0,.str l0,uY i1,.bool g0,x0,.bool g1,x1,uZ i2,x2]] fun a=>.opt (bD a1) fun a=>.opt (zE yA 171 0 a) fun a=>.call 47 [a]<|uS fun s=>.ret (.str s)) .fail
def t70:T:=.call 138 [uY i0] fun a=>.opt (uX 0 a)<|uI fun n2=>.opt (uX 1 a)<|uI fun n4=>.ite (iB i3 1) zB (.opt (vB x2)<|uI fun n=>.ite (iB n n2) zB (.opt (vB x2)<|uI fun n=>.ite (iB n4 n) zB (.call 139 [uY i0]<|uB fun b=>.ite b (.call 58 [.str l0]<|uB fun b=>.ite (!b) zB (.jump 19 [uZ i3,uY i0,.str l0,uY i1,.bool g0,x0,.bool g1,x1,uZ i2,x2])) (.ite (!cC l0 []) zB (.jump 19 [uZ i3,uY i0,.str l0,uY i1,.bool g0,x0,.bool g1,x1,uZ i2,x2])))))
def Yo:T:=.ite (iA i1 1) (.call 30 [.agg [uY i2,.bool g0,x0,.bool g1,x1,uZ i3]]<|uS fun s=>.ret (.bool (!cC s []))) (.ite (!iA i2 0) zB (.call 72 [.agg [.bool g0,x0,.bool g1,x1]]<|uB fun b=>.ite (!b) zB (.ite (iA i1 19) (.ite (iB i3 1) zB (.ite (iB 6 i3) zB (.jump 37 [uZ i0,uY i1,.str l0,uY i2,.bool g0,x0,.bool g1,x1,uZ i3,x2]))) (.ite (!iA i3 0) zB (.jump 37 [uZ i0,uY i1,.str l0,uY i2,.bool g0,x0,.bool g1,x1,uZ i3,x2])))))
def Yn:T:=.jump 2 [uZ i0,uZ 0,uY i1,.str l0,uY i2,.bool g0,x0,.bool g1,x1,uZ i3,x2]
def Po:T:=.opt (vB x2)<|uI fun n=>.ite (iB i1 n) (.opt (jB yA 37 x2 (uZ i1)) fun a=>.light (fun m=>aA yA 39 ⟨0,m⟩ a)<|uG qJ fun X=>.call 70 [(cF X),(uZ (uW (i0-1)))]<|uB fun b=>.ite (!b) zB (.jump 2 [uZ i0,(yC i1),uY i2,.str l0,uY i3,.bool g0,x0,.bool g1,x1,uZ i4,x2])) qF
def Ym:T:=.jump 4 [.str l0,uZ 0,uY i0,.str l1,uY i1,.bool g0,x0,.bool g1,x1,uZ i2,x2]
def Pn:T:=.opt (vB x2)<|uI fun n=>.ite (iB i0 n) (.ite (iB 0 i0) (.opt (iE l0 [44,32])<|uS fun s=>.jump 61 [.str s,uZ i0,uY i1,.str l1,uY i2,.bool g0,x0,.bool g1,x1,uZ i3,x2]) (.jump 61 [.str l0,uZ i0,uY i1,.str l1,uY i2,.bool g0,x0,.bool g1,x1,uZ i3,x2])) (.ite (iA i1 19) (.opt (iE l0 [44,32])<|uS fun s5=>.call 143 [(uY (rA .u8 i3))]<|uS fun s=>.opt (iE s5 s)<|uS fun s=>.opt (iE s [41])<|uS fun s=>.ret (.str s)) (.opt (iE l0 [41])<|uS fun s=>.ret (.str s)))
def t71_61:T:=.opt (jB yA 37 x2 (uZ i0)) fun a=>.light (fun m=>aA yA 39 ⟨0,m⟩ a)<|uG qJ fun X=>.call 71 [(cF X)]<|uS fun s=>.opt (iE l0 s)<|uS fun s=>.jump 4 [.str s,(yC i0),uY i1,.str l1,uY i2,.bool g0,x0,.bool g1,x1,uZ i3,x2]
def t72:T:=.ite (!g0) (.opt (vB x0)<|uI fun n=>.ite (iA n 0) (.ite (!g1) (.opt (vB x1)<|uI fun n=>.ret (.bool (iA n 0))) zB) zB) zB
def t73:T:=.ite (iA i0 i3) (.ite (cC l0 l1) (.call 144 [.agg [uY i1,.bool g0,x0,.bool g1,x1,uZ i2],.agg [uY i4,.bool g2,x3,.bool g3,x4,uZ i5]]<|uB fun b=>.ite b (.call 145 [x2,x5]<|uB fun b=>.ret (.bool b)) zB) zB) zB
def t74:T:=.call 144 [.agg [uY i0,.bool g0,x0,.bool g1,x1,uZ i1],.agg [uY i2,.bool g2,x2,.bool g3,x3,uZ i3]]<|uB fun b=>.ite b (.call 146 [.agg [.bool g0,x0,.bool g1,x1],.agg [.bool g2,x2,.bool g3,x3]]<|uB fun b=>.ret (.bool b)) zB
def t75:T:=.opt (vB x0)<|uI fun n1=>.opt (vB x1)<|uI fun n=>.ite (!iA n1 n) zB (.opt (vB x1)<|uI fun n=>.light (fun m=>tE yA 37 ⟨0,m⟩ x0 none (some (uZ (uW (n+12))))) fun a=>.jump 2 [x1,a,uZ 0])
def t75_2:T:=.opt (vB x1)<|uI fun n=>.ite (iB i0 n) (.opt (vB x0)<|uI fun n=>.ite (iB i0 n) (.opt (jB yA 37 x1 (uZ i0)) fun a=>.light (fun m=>aA yA 39 ⟨0,m⟩ a)<|uG qJ fun X6=>.opt (jB yA 37 x0 (uZ i0)) fun a=>.light (fun m=>aA yA 39 ⟨0,m⟩ a)<|uG qJ fun X=>.call 31 [(cF X6),(cF X)]<|uB fun b=>.ite (!b) zB (.opt (vB x0)<|uI fun n=>.ite (uC n i0) (.opt (jB yA 37 x1 (uZ i0)) fun a=>.light (fun m=>aA yA 39 ⟨0,m⟩ a)<|uG qJ fun X16=>.opt (vB x0)<|uI fun n=>.call 135 [uZ 1,(uZ (uW (i0-n)))]<|uG qJ fun X=>.light (fun m=>aA yA 39 ⟨0,m⟩ a) fun a=>.ite (same 10 a (cF X16)) (.call 73 [(cF X16),(cF X)]<|uB fun b=>.ite (!b) zB (.jump 2 [x0,x1,(yC i0)])) .fail) (.jump 2 [x0,x1,(yC i0)]))) (.opt (vB x0)<|uI fun n=>.ite (uC n i0) (.opt (jB yA 37 x1 (uZ i0)) fun a=>.light (fun m=>aA yA 39 ⟨0,m⟩ a)<|uG qJ fun X28=>.opt (vB x0)<|uI fun n=>.call 135 [uZ 1,(uZ (uW (i0-n)))]<|uG qJ fun X=>.light (fun m=>aA yA 39 ⟨0,m⟩ a) fun a=>.ite (same 10 a (cF X28)) (.call 73 [(cF X28),(cF X)]<|uB fun b=>.ite (!b) zB (.jump 2 [x0,x1,(yC i0)])) .fail) (.jump 2 [x0,x1,(yC i0)]))) qF
def t89:T:=.opt (vB x0)<|uI fun n=>.ite (iB 42 n) zB (.opt (vB x1)<|uI fun n=>.ite (iB 42 n) zB (.call 157 [.agg [.bool g0,x0,.bool g1,x1]]<|uB fun b=>.ite (!b) zB (.call 158 [.agg [.bool g0,x0,.bool g1,x1]] fun a=>.opt (uX 0 a)<|uS fun s=>.opt (uX 1 a)<|uI fun n=>.ite (iA n 0) (.call 159 [.str s,.str [45]]<|uS fun s=>.ret (.bool (uC (Int.ofNat (rB s)) 200))) zB)))
def t90:T:=.ite (!g0) (.ite (!g1) (.opt (vB x0)<|uI fun n1=>.opt (vB x1)<|uI fun n=>.ret (.bool (iA (uW (n1+n)) 0))) zB) zB
def t91:T:=.ite (uC 0 i0) (.ret (.bool (iB i0 65536))) zB
def t92:T:=.call 160 [.bool g0]<|uS fun s=>.ret (.str s)
def t93:T:=.call 158 [.agg [.bool g0,x0,.bool g1,x1]] fun a=>.opt (uX 0 a)<|uS fun s=>.opt (uX 1 a)<|uI fun n=>.call 161 [.str s]<|uS fun s=>.ret (.str s)
def t94:T:=.call 162 [uZ i0] fun a=>.opt (uX 0 a)<|uI fun n2=>.opt (uX 1 a)<|uI fun n4=>.opt (uX 2 a)<|uI fun n6=>.opt (uX 3 a)<|uI fun n=>.ite (!iA n 0) (.ret (.str [])) (.ite true (.heavy (mU yA 192) fun a=>.heavy (kE yA 192 a (.agg [uY 0,uY 0,uY 0,uY 0,uY 45,uY 0,uY 0,uY 45,uY 0,uY 0])) fun _=>.light (fun m=>aA yA 192 ⟨0,m⟩ a)<|uG kY fun X=>.call 163 [(uA6 X),uZ 0,uZ 4,uZ n2]<|uG kY fun X=>.heavy (kE yA 192 a (uA6 X)) fun _=>.light (fun m=>aA yA 192 ⟨0,m⟩ a)<|uG kY fun X=>.call 163 [(uA6 X),uZ 5,uZ 2,uZ n4]<|uG kY fun X=>.heavy (kE yA 192 a (uA6 X)) fun _=>.light (fun m=>aA yA 192 ⟨0,m⟩ a)<|uG kY fun X=>.call 163 [(uA6 X),uZ 8,uZ 2,uZ n6]<|uG kY fun X=>.heavy (kE yA 192 a (uA6 X)) fun _=>.light (fun m=>tE yA 192 ⟨0,m⟩ a none none) fun a=>.light (fun m=>nJ yA 90 9 ⟨0,m⟩ a)<|uS fun s=>.ret (.str s)) .fail)
def t95:T:=.call 164 [uZ i0]<|uS fun s=>.call 161 [.str s]<|uS fun s=>.ret (.str s)
def t105:T:=.ite true (.ite true (.callv (.func (.func 167) [] []) [.str [102,97,99,116,32]]<|uG iI fun X1=>.callv (.func (.func 167) [] []) [.str [104,97,115,32]]<|uG iI fun X3=>.callv (.func (.func 167) [] []) [.str []]<|uG iI fun X5=>.callv (.func (.func 166) [] []) [.str [108,111,111,107],.bool true,uZ 1,uZ 2]<|uG iI fun X7=>.callv (.func (.func 168) [] []) [.str [43],uZ 5,uZ 5,uZ 6]<|uG iI fun X9=>.callv (.func (.func 168) [] []) [.str [45],uZ 5,uZ 5,uZ 6]<|uG iI fun X11=>.callv (.func (.func 168) [] []) [.str [42],uZ 6,uZ 6,uZ 7]<|uG iI fun X13=>.callv (.func (.func 168) [] []) [.str [47],uZ 6,uZ 6,uZ 7]<|uG iI fun X15=>.callv (.func (.func 166) [] []) [.str [109,105,110],.bool false,uZ 2,uZ 2]<|uG iI fun X17=>.callv (.func (.func 166) [] []) [.str [109,97,120],.bool false,uZ 2,uZ 2]<|uG iI fun X19=>.callv (.func (.func 168) [] []) [.str [60],uZ 4,uZ 5,uZ 5]<|uG iI fun X21=>.callv (.func (.func 168) [] []) [.str [61],uZ 4,uZ 5,uZ 5]<|uG iI fun X23=>.callv (.func (.func 168) [] []) [.str [97,110,100],uZ 2,uZ 2,uZ 3]<|uG iI fun X25=>.callv (.func (.func 168) [] []) [.str [111,114],uZ 1,uZ 1,uZ 2]<|uG iI fun X27=>.ite true (.callv (.func (.func 166) [] []) [.str [105,102],.bool false,uZ 3,uZ 3]<|uG iI fun X29=>.callv (.func (.func 166) [] []) [.str [114,111,117,110,100],.bool false,uZ 2,uZ 2]<|uG iI fun X31=>.callv (.func (.func 166) [] []) [.str [98,101,116,119,101,101,110],.bool false,uZ 2,uZ 2]<|uG iI fun X33=>.callv (.func (.func 166) [] []) [.str [115,101,114,118,105,99,101],.bool true,uZ 2,uZ 2]<|uG iI fun X35=>.callv (.func (.func 166) [] []) [.str [98,101,115,116],.bool true,uZ 3,uZ 3]<|uG iI fun X37=>.callv (.func (.func 166) [] []) [.str [103,114,111,119],.bool true,uZ 2,uZ 2]<|uG iI fun X39=>.callv (.func (.func 166) [] []) [.str [109,111,110,116,104,115],.bool false,uZ 1,uZ 1]<|uG iI fun X41=>.callv (.func (.func 166) [] []) [.str [110,117,109,98,101,114],.bool false,uZ 1,uZ 1]<|uG iI fun X43=>.callv (.func (.func 166) [] []) [.str [115,116,97,114,116],.bool false,uZ 1,uZ 1]<|uG iI fun X=>.ite true (.heavy (bP (.agg [uY 0,.str [],.bool false,uZ 0,uZ 0,uZ 0,uZ 0,uZ 0,uY 1,.str [],.bool false,uZ 0,uZ 0,uZ 7,uZ 0,uZ 0,uY 2,.str [116,111,100,97,121],.bool false,uZ 0,uZ 0,uZ 7,uZ 0,uZ 0,uY (X1.i 0),.str (X1.s 1),.bool (X1.b 2),uZ (X1.i 3),uZ (X1.i 4),uZ (X1.i 5),uZ (X1.i 6),uZ (X1.i 7),uY (X3.i 0),.str (X3.s 1),.bool (X3.b 2),uZ (X3.i 3),uZ (X3.i 4),uZ (X3.i 5),uZ (X3.i 6),uZ (X3.i 7),uY (X5.i 0),.str (X5.s 1),.bool (X5.b 2),uZ (X5.i 3),uZ (X5.i 4),uZ (X5.i 5),uZ (X5.i 6),uZ (X5.i 7),uY (X7.i 0),.str (X7.s 1),.bool (X7.b 2),uZ (X7.i 3),uZ (X7.i 4),uZ (X7.i 5),uZ (X7.i 6),uZ (X7.i 7),uY (X9.i 0),.str (X9.s 1),.bool (X9.b 2),uZ (X9.i 3),uZ (X9.i 4),uZ (X9.i 5),uZ (X9.i 6),uZ (X9.i 7),uY (X11.i 0),.str (X11.s 1),.bool (X11.b 2),uZ (X11.i 3),uZ (X11.i 4),uZ (X11.i 5),uZ (X11.i 6),uZ (X11.i 7),uY (X13.i 0),.str (X13.s 1),.bool (X13.b 2),uZ (X13.i 3),uZ (X13.i 4),uZ (X13.i 5),uZ (X13.i 6),uZ (X13.i 7),uY (X15.i 0),.str (X15.s 1),.bool (X15.b 2),uZ (X15.i 3),uZ (X15.i 4),uZ (X15.i 5),uZ (X15.i 6),uZ (X15.i 7),uY (X17.i 0),.str (X17.s 1),.bool (X17.b 2),uZ (X17.i 3),uZ (X17.i 4),uZ (X17.i 5),uZ (X17.i 6),uZ (X17.i 7),uY (X19.i 0),.str (X19.s 1),.bool (X19.b 2),uZ (X19.i 3),uZ (X19.i 4),uZ (X19.i 5),uZ (X19.i 6),uZ (X19.i 7),uY (X21.i 0),.str (X21.s 1),.bool (X21.b 2),uZ (X21.i 3),uZ (X21.i 4),uZ (X21.i 5),uZ (X21.i 6),uZ (X21.i 7),uY (X23.i 0),.str (X23.s 1),.bool (X23.b 2),uZ (X23.i 3),uZ (X23.i 4),uZ (X23.i 5),uZ (X23.i 6),uZ (X23.i 7),uY (X25.i 0),.str (X25.s 1),.bool (X25.b 2),uZ (X25.i 3),uZ (X25.i 4),uZ (X25.i 5),uZ (X25.i 6),uZ (X25.i 7),uY (X27.i 0),.str (X27.s 1),.bool (X27.b 2),uZ (X27.i 3),uZ (X27.i 4),uZ (X27.i 5),uZ (X27.i 6),uZ (X27.i 7),uY 5,.str [110,111,116,32],.bool false,uZ 1,uZ 1,uZ 3,uZ 3,uZ 3,uY (X29.i 0),.str (X29.s 1),.bool (X29.b 2),uZ (X29.i 3),uZ (X29.i 4),uZ (X29.i 5),uZ (X29.i 6),uZ (X29.i 7),uY (X31.i 0),.str (X31.s 1),.bool (X31.b 2),uZ (X31.i 3),uZ (X31.i 4),uZ (X31.i 5),uZ (X31.i 6),uZ (X31.i 7),uY (X33.i 0),.str (X33.s 1),.bool (X33.b 2),uZ (X33.i 3),uZ (X33.i 4),uZ (X33.i 5),uZ (X33.i 6),uZ (X33.i 7),uY (X35.i 0),.str (X35.s 1),.bool (X35.b 2),uZ (X35.i 3),uZ (X35.i 4),uZ (X35.i 5),uZ (X35.i 6),uZ (X35.i 7),uY (X37.i 0),.str (X37.s 1),.bool (X37.b 2),uZ (X37.i 3),uZ (X37.i 4),uZ (X37.i 5),uZ (X37.i 6),uZ (X37.i 7),uY (X39.i 0),.str (X39.s 1),.bool (X39.b 2),uZ (X39.i 3),uZ (X39.i 4),uZ (X39.i 5),uZ (X39.i 6),uZ (X39.i 7),uY (X41.i 0),.str (X41.s 1),.bool (X41.b 2),uZ (X41.i 3),uZ (X41.i 4),uZ (X41.i 5),uZ (X41.i 6),uZ (X41.i 7),uY (X43.i 0),.str (X43.s 1),.bool (X43.b 2),uZ (X43.i 3),uZ (X43.i 4),uZ (X43.i 5),uZ (X43.i 6),uZ (X43.i 7),uY (X.i 0),.str (X.s 1),.bool (X.b 2),uZ (X.i 3),uZ (X.i 4),uZ (X.i 5),uZ (X.i 6),uZ (X.i 7)])) fun a=>.ret a) .fail) .fail) .fail) .fail
def t107:T:=.ite (cC l0 []) zB (.ite (iB 24 (Int.ofNat (rB l0))) zB (.opt (cP yA 9 (.str l0) (uZ 0))<|uU fun n=>.call 169 [uY n]<|uB fun b=>.ite (!b) zB (.call 170 [.str l0,(.func (.func 171) [] [])]<|uS fun s=>.ite (cC s l0) (.call 172 [.str l0]<|uB fun b=>.ret (.bool (!b))) zB)))
def t118:T:=.call 179 [.agg [.bool g0,x0]]<|uB fun b=>.ite (!b) (.ret (.tup [.str [],uZ 2])) (.call 180 [x0] fun a2=>.opt (uX 0 a2) fun a3=>.opt (uX 1 a2)<|uI fun n=>.heavy (bE yA 90 1 [(0,(uY (rA .u8 (uW (48+n)))))]) fun a=>.light (fun m=>nJ yA 90 9 ⟨0,m⟩ a)<|uS fun s=>.jump 2 [a3,.str s,.bool g0,x0])
def Zj:T:=.opt (vB x0)<|uI fun n=>.ite (iB 0 n) (.call 180 [x0] fun a2=>.opt (uX 0 a2) fun a3=>.opt (uX 1 a2)<|uI fun n=>.heavy (bE yA 90 1 [(0,(uY (rA .u8 (uW (48+n)))))]) fun a=>.light (fun m=>nJ yA 90 9 ⟨0,m⟩ a)<|uS fun s=>.opt (iE s l0)<|uS fun s=>.jump 2 [a3,.str s,.bool g0,x1]) (.ite g0 (.opt (iE [45] l0)<|uS fun s=>.ret (.tup [.str s,uZ 0])) (.ret (.tup [.str l0,uZ 0])))
def t119:T:=.ite (iB i0 0) (.jump 9 [uZ i0,(.int .u64 (rA .u64 (0-(rA .u64 i0)))),.bool false,.nilslice]) (.jump 9 [uZ i0,(.int .u64 (rA .u64 i0)),.bool false,.nilslice])
def Zi:T:=.jump 2 [uZ i0,.int .u64 i1,.nilslice,.bool g0,x0]
def Qy:T:=.ite (iB 0 i1) (.heavy (bE yA 30 1 [(0,(.int .u16 (rA .u16 (Int.tmod i1 65536))))]) fun a=>.heavy (nF yA 30 30 x0 a) fun a=>.jump 2 [uZ i0,(.int .u64 (rA .u64 (Int.tdiv i1 65536))),a,.bool g0,x1]) (.call 181 [(.bool (iB i0 0)),x0]<|uG mW fun X=>.ite (kD (pN X)) (.ret (oN X)) .fail)
def t120:T:=.call 60 [uZ i0]<|uB fun b=>.ite (!b) (.ret (.tup [uZ 0,uZ 0,uZ 0,uZ 2])) (.jump 2 [uZ 1900,uZ 1,uZ i0])
def Jt:T:=.call 182 [uZ i0,uZ i1]<|uI fun n=>.ite (uC n i2) (.call 182 [uZ i0,uZ i1]<|uI fun n=>.ite (iB 12 (uW (i1+1))) (.jump 2 [(yC i0),uZ 1,(uZ (uW (i2-n)))]) (.jump 2 [uZ i0,(yC i1),(uZ (uW (i2-n)))])) (.ret (.tup [uZ i0,uZ i1,(yC i2),uZ 0]))
def t121:T:=.jump 2 [uZ i0,uZ i1,.str [],uZ 0]
def Qx:T:=.ite (iB i2 i1) (.heavy (bE yA 90 1 [(0,(uY (rA .u8 (uW (48+(Int.tmod i0 10))))))]) fun a=>.light (fun m=>nJ yA 90 9 ⟨0,m⟩ a)<|uS fun s=>.opt (iE s l0)<|uS fun s=>.jump 2 [(uZ (uW (Int.tdiv i0 10))),uZ i1,.str s,(yC i2)]) (.ret (.str l0))
def t122:T:=.call 183 [.agg [.bool g0,x0,.bool g1,x1]]<|uB fun b=>.ite (!b) (.ret (.tup [.str [],uZ 2])) (.call 118 [.agg [.bool g0,x0]] fun a=>.opt (uX 0 a)<|uS fun s4=>.opt (uX 1 a)<|uI fun n=>.call 184 [x1]<|uB fun b=>.ite b (.ret (.tup [.str s4,uZ 0])) (.call 118 [.agg [.bool g1,x1]] fun a=>.opt (uX 0 a)<|uS fun s11=>.opt (uX 1 a)<|uI fun n=>.opt (iE s4 [47])<|uS fun s=>.opt (iE s s11)<|uS fun s=>.ret (.tup [.str s,uZ 0])))
def t123:T:=.ite (uC 97 i0) (.ite (uC i0 122) qF (.ite (uC 65 i0) (.ret (.bool (uC i0 90))) zB)) (.ite (uC 65 i0) (.ret (.bool (uC i0 90))) zB)
def t124:T:=.jump 2 [.str l0,uZ i0]
def Qw:T:=.call 149 [.str l0,uZ i0]<|uU fun n=>.call 185 [uY n]<|uB fun b=>.ite b (.jump 2 [.str l0,(yC i0)]) (.ret (uZ i0))
def t125:T:=.call 186 [] fun a=>.jump 2 [.str l0,a,uZ 0]
def Qv:T:=.opt (vB x0)<|uI fun n=>.ite (iB i0 n) (.opt (jB yA 42 x0 (uZ i0)) fun a=>.light (fun m=>aA yA 9 ⟨0,m⟩ a)<|uS fun s=>.ite (cC s l0) qF (.jump 2 [.str l0,x0,(yC i0)])) zB
def t134:T:=.call 189 [.agg [.bool g0,x0]]<|uG mW fun X1=>.ite (kD (pN X1)) (.call 189 [.agg [.bool g1,x1]]<|uG mW fun X=>.ite (kD (pN X)) (.ite (kD [.bool (X1.b 0),X1.v 1,.bool (X.b 0),X.v 1]) (.ret (.agg [.bool (X1.b 0),X1.v 1,.bool (X.b 0),X.v 1])) .fail) .fail) .fail
def t135:T:=.call 177 [uZ i0,uZ i1]<|uS fun s=>.ite true (.ite true (.ret (.agg [uY 0,.str s,uY 0,.bool false,.nilslice,.bool false,.nilslice,uZ 0,.nilslice])) .fail) .fail
def t136:T:=.ite (iA i0 0) (.ite (iA i1 0) (.call 90 [.agg [.bool g0,x0,.bool g1,x1]]<|uB fun b=>.ret (.bool b)) zB) zB
def t137:T:=.opt (bD x0) fun a=>.opt (zE yA 171 0 a) fun a=>.call 46 [a]<|uI fun n=>.ite (iB 65536 n) (.ret (.tup [])) (.opt (bD x0) fun a=>.opt (zE yA 171 1 a) fun a=>.light (fun m=>aA yA 101 ⟨0,m⟩ a) fun a=>.opt (bD a) fun a=>.opt (jB yA 201 a (uY i0)) fun a8=>.opt (bD a8) fun a=>.opt (zE yA 168 0 a) fun a=>.light (fun m=>aA yA 5 ⟨0,m⟩ a)<|uU fun n12=>.ite (iA n12 1) (.opt (bD x0) fun a=>.opt (zE yA 171 0 a) fun a=>.call 40 [.agg [uY i1,.bool g0,x1,.bool g1,x2,uZ i2]]<|uS fun s=>.call 45 [a,.str s] fun a=>.ret (.tup [])) (.ite (iA n12 2) (.opt (bD x0) fun a=>.opt (zE yA 171 0 a) fun a19=>.opt (bD a8) fun a=>.opt (zE yA 168 1 a) fun a=>.light (fun m=>aA yA 9 ⟨0,m⟩ a)<|uS fun s=>.call 45 [a19,.str s] fun a=>.ret (.tup [])) (.ite (iA n12 3) (.opt (bD x0) fun a=>.opt (zE yA 171 0 a) fun a26=>.opt (bD a8) fun a=>.opt (zE yA 168 1 a) fun a=>.light (fun m=>aA yA 9 ⟨0,m⟩ a)<|uS fun s=>.opt (iE s l0)<|uS fun s=>.opt (iE s [32,97,116,32])<|uS fun s=>.call 45 [a26,.str s] fun a=>.opt (jB yA 37 x3 (uZ 0)) fun a=>.light (fun m=>aA yA 39 ⟨0,m⟩ a)<|uG qJ fun X=>.opt (bD a8) fun a=>.opt (zE yA 168 6 a) fun a=>.light (fun m=>aA yA 3 ⟨0,m⟩ a)<|uI fun n=>.call 190 [x0,(cF X),uZ n] fun a=>.ret (.tup [])) (.ite (iA n12 4) (.opt (jB yA 37 x3 (uZ 0)) fun a=>.light (fun m=>aA yA 39 ⟨0,m⟩ a)<|uG qJ fun X=>.opt (bD a8) fun a=>.opt (zE yA 168 6 a) fun a=>.light (fun m=>aA yA 3 ⟨0,m⟩ a)<|uI fun n=>.call 190 [x0,(cF X),uZ n] fun a=>.opt (bD x0) fun a=>.opt (zE yA 171 0 a) fun a53=>.opt (bD a8) fun a=>.opt (zE yA 168 1 a) fun a=>.light (fun m=>aA yA 9 ⟨0,m⟩ a)<|uS fun s=>.opt (iE [32] s)<|uS fun s=>.opt (iE s [32])<|uS fun s=>.call 45 [a53,.str s] fun a=>.opt (jB yA 37 x3 (uZ 1)) fun a=>.light (fun m=>aA yA 39 ⟨0,m⟩ a)<|uG qJ fun X=>.opt (bD a8) fun a=>.opt (zE yA 168 7 a) fun a=>.light (fun m=>aA yA 3 ⟨0,m⟩ a)<|uI fun n=>.call 190 [x0,(cF X),uZ n] fun a=>.ret (.tup [])) (.ite (iA n12 5) (.opt (bD x0) fun a=>.opt (zE yA 171 0 a) fun a72=>.opt (bD a8) fun a=>.opt (zE yA 168 1 a) fun a=>.light (fun m=>aA yA 9 ⟨0,m⟩ a)<|uS fun s=>.call 45 [a72,.str s] fun a=>.opt (jB yA 37 x3 (uZ 0)) fun a=>.light (fun m=>aA yA 39 ⟨0,m⟩ a)<|uG qJ fun X=>.opt (bD a8) fun a=>.opt (zE yA 168 6 a) fun a=>.light (fun m=>aA yA 3 ⟨0,m⟩ a)<|uI fun n=>.call 190 [x0,(cF X),uZ n] fun a=>.ret (.tup [])) (.ite (iA n12 6) (.call 191 [x0,.agg [uY i0,.str l0,uY i1,.bool g0,x1,.bool g1,x2,uZ i2,x3],a8] fun a=>.ret (.tup [])) (.ret (.tup []))))))))
def t139:T:=.ite (uC 3 i0) (.ite (uC i0 6) qF (.ite (uC 21 i0) (.ret (.bool (uC i0 23))) zB)) (.ite (uC 21 i0) (.ret (.bool (uC i0 23))) zB)
def t140:T:=.ite (iA i0 3) (.ret (.str [102,97,99,116,32])) (.ite (iA i0 4) (.ret (.str [104,97,115,32])) (.ite (iA i0 6) (.ret (.str [108,111,111,107])) (.ite (iA i0 7) (.ret (.str [32,43,32])) (.ite (iA i0 8) (.ret (.str [32,45,32])) (.ite (iA i0 9) (.ret (.str [32,42,32])) (.ite (iA i0 10) (.ret (.str [32,47,32])) (.ite (iA i0 11) (.ret (.str [109,105,110])) (.ite (iA i0 12) (.ret (.str [109,97,120])) (.ite (iA i0 13) (.ret (.str [32,60,32])) (.ite (iA i0 14) (.ret (.str [32,61,32])) (.ite (iA i0 15) (.ret (.str [32,97,110,100,32])) (.ite (iA i0 16) (.ret (.str [32,111,114,32])) (.ite (iA i0 18) (.ret (.str [105,102])) (.ite (iA i0 19) (.ret (.str [114,111,117,110,100])) (.ite (iA i0 20) (.ret (.str [98,101,116,119,101,101,110])) (.ite (iA i0 21) (.ret (.str [115,101,114,118,105,99,101])) (.ite (iA i0 22) (.ret (.str [98,101,115,116])) (.ite (iA i0 23) (.ret (.str [103,114,111,119])) (.ite (iA i0 24) (.ret (.str [109,111,110,116,104,115])) (.ite (iA i0 25) (.ret (.str [110,117,109,98,101,114])) (.ite (iA i0 26) (.ret (.str [115,116,97,114,116])) (.ret (.str [])))))))))))))))))))))))
def t141:T:=.call 142 [.agg [uY i0,.str l0,uY i1,.bool g0,x0,.bool g1,x1,uZ i2,x2]]<|uI fun n=>.ite (iB n i3) (.call 71 [.agg [uY i0,.str l0,uY i1,.bool g0,x0,.bool g1,x1,uZ i2,x2]]<|uS fun s=>.opt (iE [40] s)<|uS fun s=>.opt (iE s [41])<|uS fun s=>.ret (.str s)) (.call 71 [.agg [uY i0,.str l0,uY i1,.bool g0,x0,.bool g1,x1,uZ i2,x2]]<|uS fun s=>.ret (.str s))
def t142:T:=.ite (iA i0 16) (.ret (uZ 1)) (.ite (iA i0 15) (.ret (uZ 2)) (.ite (iA i0 17) (.ret (uZ 3)) (.ite (iA i0 13) (.ite (iA i0 13) (.ret (uZ 4)) (uQ17 i0)) (.ite (iA i0 14) (.ret (uZ 4)) (uQ17 i0)))))
def t143:T:=.ite (iA i0 1) (.ret (.str [100,111,119,110])) (.ite (iA i0 2) (.ret (.str [117,112])) (.ite (iA i0 3) (.ret (.str [102,108,111,111,114])) (.ite (iA i0 4) (.ret (.str [99,101,105,108])) (.ite (iA i0 5) (.ret (.str [104,97,108,102])) (.ite (iA i0 6) (.ret (.str [101,118,101,110])) (.ret (.str [])))))))
def t144:T:=.ite (iA i0 i2) (.call 192 [.agg [.bool g0,x0,.bool g1,x1],.agg [.bool g2,x2,.bool g3,x3]]<|uB fun b=>.ite b (.ret (.bool (iA i1 i3))) zB) zB
def t145:T:=.opt (vB x0)<|uI fun n1=>.opt (vB x1)<|uI fun n=>.ite (!iA n1 n) zB (.jump 2 [x0,x1,uZ 0])
def t145_2:T:=.opt (vB x0)<|uI fun n=>.ite (iB i0 n) (.opt (jB yA 37 x0 (uZ i0)) fun a=>.light (fun m=>aA yA 39 ⟨0,m⟩ a)<|uG qJ fun X4=>.opt (jB yA 37 x1 (uZ i0)) fun a=>.light (fun m=>aA yA 39 ⟨0,m⟩ a)<|uG qJ fun X=>.call 73 [(cF X4),(cF X)]<|uB fun b=>.ite (!b) zB (.jump 2 [x0,x1,(yC i0)])) qF
def t146:T:=.call 192 [.agg [.bool g0,x0,.bool g1,x1],.agg [.bool g2,x2,.bool g3,x3]]<|uB fun b=>.ite b (.call 193 [.agg [.bool g0,x0],.agg [.bool g2,x2]]<|uB fun b=>.ite b (.call 193 [.agg [.bool g1,x1],.agg [.bool g3,x3]]<|uB fun b=>.ret (.bool b)) zB) zB
def t149:T:=.ite (iB i0 (Int.ofNat (rB l0))) (.opt (cP yA 9 (.str l0) (uZ i0))<|uU fun n=>.ret (uY n)) (.ret (uY 0))
def t157:T:=.ite true (.call 210 [.agg [.bool g0,x0,.bool g1,x1]]<|uB fun b=>.ret (.bool b)) .fail
def t158:T:=.call 157 [.agg [.bool g0,x0,.bool g1,x1]]<|uB fun b=>.ite (!b) (.ret (.tup [.str [],uZ 2])) (.call 211 [.agg [.bool g0,x0]] fun a=>.opt (uX 0 a)<|uS fun s4=>.opt (uX 1 a)<|uI fun n=>.ite true (.call 212 [.agg [.bool g0,x0,.bool g1,x1]]<|uB fun b=>.ite (!b) (.call 211 [.agg [.bool g1,x1]] fun a=>.opt (uX 0 a)<|uS fun s=>.opt (uX 1 a)<|uI fun n=>.opt (iE [47] s)<|uS fun s=>.opt (iE s4 s)<|uS fun s=>.ret (.tup [.str s,uZ 0])) (.ret (.tup [.str s4,uZ 0]))) .fail)
def t159:T:=.call 213 [.str l0,.str l1]<|uS fun s=>.ret (.str s)
def t160:T:=.ite g0 (.ret (.str [116,114,117,101])) (.ret (.str [102,97,108,115,101]))
def t161:T:=.call 214 [.str l0,.str [45]] fun a=>.opt (uX 0 a)<|uS fun s=>.opt (uX 1 a)<|uB fun b=>.ite b (.opt (iE [109,105,110,117,115,32] s)<|uS fun s=>.ret (.str s)) (.ret (.str l0))
def t162:T:=.call 215 [uZ i0]<|uB fun b=>.ite (!b) (.ret (.tup [uZ 0,uZ 0,uZ 0,uZ 2])) (.call 216 [uZ i0]<|uI fun n3=>.call 217 [uZ n3]<|uI fun n=>.ret (.tup [(uZ (uW (1900+(uW (Int.tdiv n3 12))))),(uZ (uW ((Int.tmod n3 12)+1))),(uZ (uW ((uW (i0-n))+1))),uZ 0]))
def t163:T:=.heavy (bP (.agg [uY i0,uY i1,uY i2,uY i3,uY i4,uY i5,uY i6,uY i7,uY i8,uY i9])) fun a=>.jump 2 [uZ j0,uZ j2,a,(uZ (uW ((uW (j0+j1))-1))),uY 0,uY 0,uY 0,uY 0,uY 0,uY 0,uY 0,uY 0,uY 0,uY 0]
def t163_2:T:=.ite (uC i0 i2) (.opt (jB yA 192 x0 (uZ i2)) fun a=>.heavy (kE yA 5 a (uY (rA .u8 (uW (48+(Int.tmod i1 10)))))) fun _=>.jump 2 [uZ i0,(uZ (uW (Int.tdiv i1 10))),x0,(uZ (uW (i2-1))),uY i3,uY i4,uY i5,uY i6,uY i7,uY i8,uY i9,uY j0,uY j1,uY j2]) (.light (fun m=>aA yA 192 ⟨0,m⟩ x0)<|uG kY fun X=>.ite true (.ret (uA6 X)) .fail)
def t166:T:=.ite true (.ite true (.ret (.agg [uY 6,.str l0,.bool g0,uZ i0,uZ i1,uZ 7,uZ 1,uZ 1])) .fail) .fail
def t167:T:=.ite true (.ite true (.ret (.agg [uY 3,.str l0,.bool true,uZ 1,uZ 1,uZ 7,uZ 7,uZ 7])) .fail) .fail
def t168:T:=.ite true (.ite true (.ret (.agg [uY 4,.str l0,.bool false,uZ 2,uZ 2,uZ i0,uZ i1,uZ i2])) .fail) .fail
def t169:T:=.ite (uC 65 i0) (.ite (uC i0 90) qF (.ite (uC 97 i0) (.ret (.bool (uC i0 122))) zB)) (.ite (uC 97 i0) (.ret (.bool (uC i0 122))) zB)
def t170:T:=.jump 2 [.str l0,x0,uZ 0]
def Qu:T:=.ite (iB i0 (Int.ofNat (rB l0))) (.opt (cP yA 9 (.str l0) (uZ i0))<|uU fun n=>.callv x0 [uY n]<|uB fun b=>.ite b (.jump 2 [.str l0,x0,(yC i0)]) (.opt (tE yA 9 eQ (.str l0) none (some (uZ i0)))<|uS fun s=>.ret (.str s))) (.opt (tE yA 9 eQ (.str l0) none (some (uZ i0)))<|uS fun s=>.ret (.str s))
def t171:T:=.call 169 [uY i0]<|uB fun b=>.ite b qF (.call 219 [uY i0]<|uB fun b=>.ite b qF (.ret (.bool (iA i0 95))))
def t172:T:=.ite (iB (Int.ofNat (rB l0)) 2) zB (.ite (iB 7 (Int.ofNat (rB l0))) zB (.call 170 [.str l0,(.func (.func 169) [] [])]<|uS fun s=>.ite (!cC s l0) zB (.heavy Jc fun a=>.heavy (eO yA 230 a (uZ 2) (.str [32,116,111,32,105,115,32,97,116,32,105,102,32,111,114,32,117,112,32])) fun _=>.heavy (eO yA 230 a (uZ 3) (.str [32,100,101,102,32,114,111,119,32,111,110,101,32,116,119,111,32,101,110,100,32,111,102,102,32,104,97,115,32,109,105,110,32,109,97,120,32,97,110,100,32,110,111,116,32])) fun _=>.heavy (eO yA 230 a (uZ 4) (.str [32,112,108,97,110,32,102,97,99,116,32,102,114,111,109,32,119,104,101,110,32,116,104,101,110,32,100,97,116,101,32,100,97,121,115,32,116,114,117,101,32,108,111,111,107,32,98,101,115,116,32,103,114,111,119,32,100,111,119,110,32,99,101,105,108,32,104,97,108,102,32,101,118,101,110,32])) fun _=>.heavy (eO yA 230 a (uZ 5) (.str [32,116,97,98,108,101,32,107,110,111,119,110,32,116,114,117,116,104,32,109,111,110,101,121,32,102,97,108,115,101,32,109,105,110,117,115,32,116,111,100,97,121,32,114,111,117,110,100,32,115,116,97,114,116,32,102,108,111,111,114,32])) fun _=>.heavy (eO yA 230 a (uZ 6) (.str [32,99,108,97,117,115,101,32,110,117,109,98,101,114,32,109,111,110,116,104,115,32])) fun _=>.heavy (eO yA 230 a (uZ 7) (.str [32,98,101,116,119,101,101,110,32,115,101,114,118,105,99,101,32])) fun _=>.light (fun m=>iS yA 230 ⟨0,m⟩ a (uZ (Int.ofNat (rB l0))) false)<|uS fun s4=>.opt (iE [32] l0)<|uS fun s=>.opt (iE s [32])<|uS fun s=>.call 220 [.str s4,.str s]<|uB fun b=>.ret (.bool b))))
def t177:T:=.heavy (bE yA 90 8 [(0,(uY 35)),(1,(uY (rA .u8 i0))),(2,(uY (rA .u8 (Int.fdiv i0 256)))),(3,(uY (rA .u8 (Int.fdiv i0 65536)))),(4,(uY 47)),(5,(uY (rA .u8 i1))),(6,(uY (rA .u8 (Int.fdiv i1 256)))),(7,(uY (rA .u8 (Int.fdiv i1 65536))))]) fun a=>.light (fun m=>nJ yA 90 9 ⟨0,m⟩ a)<|uS fun s=>.ret (.str s)
def t179:T:=.opt (vB x0)<|uI fun n=>.ite (iA n 0) (.ret (.bool (!g0))) (.opt (vB x0)<|uI fun n=>.ite (uC n 1024) (.opt (vB x0)<|uI fun n=>.opt (jB yA 30 x0 (uZ (uW (n-1)))) fun a=>.light (fun m=>aA yA 72 ⟨0,m⟩ a)<|uH fun n=>.ret (.bool (!iA n 0))) zB)
def t180:T:=.call 223 [x0,uZ 10] fun a0=>.opt (uX 0 a0) fun a1=>.opt (uX 1 a0) fun a=>.opt (vB a)<|uI fun n=>.ite (iA n 0) (.ret (.tup [a1,uZ 0])) (.opt (jB yA 30 a (uZ 0)) fun a=>.light (fun m=>aA yA 72 ⟨0,m⟩ a)<|uH fun n=>.ret (.tup [a1,(uZ (uW n))]))
def t181:T:=.ite g0 (.opt (vB x0)<|uI fun n=>.ite (kD [(.bool (iB 0 n)),x0]) (.ite (kD [(.bool (iB 0 n)),x0]) (.ret (.agg [(.bool (iB 0 n)),x0])) .fail) .fail) (.ite (kD [.bool false,x0]) (.ite (kD [.bool false,x0]) (.ret (.agg [.bool false,x0])) .fail) .fail)
def t182:T:=.ite (iA i1 1) (.ite (iA i1 1) (.ret (uZ 31)) (uQ1 i1 i0)) (.ite (iA i1 3) (.ite (iA i1 3) (.ret (uZ 31)) (uQ1 i1 i0)) (.ite (iA i1 5) (.ite (iA i1 5) (.ret (uZ 31)) (uQ1 i1 i0)) (.ite (iA i1 7) (.ite (iA i1 7) (.ret (uZ 31)) (uQ1 i1 i0)) (.ite (iA i1 8) (.ite (iA i1 8) (.ret (uZ 31)) (uQ1 i1 i0)) (.ite (iA i1 10) (.ite (iA i1 10) (.ret (uZ 31)) (uQ1 i1 i0)) (.ite (iA i1 12) (.ret (uZ 31)) (uQ1 i1 i0)))))))
def t183:T:=.call 179 [.agg [.bool g0,x0]]<|uB fun b=>.ite (!b) zB (.call 179 [.agg [.bool g1,x1]]<|uB fun b=>.ite (!b) zB (.call 225 [.agg [.bool g0,x0,.bool g1,x1]]<|uB fun b=>.ite (!b) zB (.ite g1 zB (.opt (vB x1)<|uI fun n=>.ite (iA n 0) zB (.call 226 [x0,x1] fun a=>.call 184 [a]<|uB fun b=>.ret (.bool b))))))
def t184:T:=.opt (vB x0)<|uI fun n=>.ite (iA n 1) (Ff x0) zB
def t185:T:=.call 123 [uY i0]<|uB fun b=>.ite b qF (.call 197 [uY i0]<|uB fun b=>.ite b qF (.ret (.bool (iA i0 95))))
def t186:T:=.heavy (bE yA 42 47 [(0,(.str [112,108,97,110])),(1,(.str [102,97,99,116])),(2,(.str [100,101,102])),(3,(.str [116,97,98,108,101])),(4,(.str [114,111,119])),(5,(.str [99,108,97,117,115,101])),(6,(.str [111,110,101])),(7,(.str [116,119,111])),(8,(.str [102,114,111,109])),(9,(.str [116,111])),(10,(.str [101,110,100])),(11,(.str [107,110,111,119,110])),(12,(.str [111,102,102])),(13,(.str [119,104,101,110])),(14,(.str [116,104,101,110])),(15,(.str [105,115])),(16,(.str [116,114,117,116,104])),(17,(.str [110,117,109,98,101,114])),(18,(.str [109,111,110,101,121])),(19,(.str [100,97,116,101])),(20,(.str [100,97,121,115])),(21,(.str [109,111,110,116,104,115])),(22,(.str [116,114,117,101])),(23,(.str [102,97,108,115,101])),(24,(.str [109,105,110,117,115])),(25,(.str [116,111,100,97,121])),(26,(.str [97,116])),(27,(.str [104,97,115])),(28,(.str [108,111,111,107])),(29,(.str [109,105,110])),(30,(.str [109,97,120])),(31,(.str [105,102])),(32,(.str [114,111,117,110,100])),(33,(.str [98,101,116,119,101,101,110])),(34,(.str [115,101,114,118,105,99,101])),(35,(.str [98,101,115,116])),(36,(.str [103,114,111,119])),(37,(.str [115,116,97,114,116])),(38,(.str [97,110,100])),(39,(.str [111,114])),(40,(.str [110,111,116])),(41,(.str [100,111,119,110])),(42,(.str [117,112])),(43,(.str [102,108,111,111,114])),(44,(.str [99,101,105,108])),(45,(.str [104,97,108,102])),(46,(.str [101,118,101,110]))]) fun a=>.ret a
def t189:T:=.call 229 [x0] fun a=>.ite (kD [a]) (.ite (kD [.bool g0,a]) (.ret (.agg [.bool g0,a])) .fail) .fail
def t190:T:=.opt (bD x0) fun a=>.opt (zE yA 171 1 a) fun a=>.light (fun m=>aA yA 101 ⟨0,m⟩ a) fun a=>.opt (bD a) fun a=>.opt (jB yA 201 a (uY i0)) fun a=>.opt (zE yA 168 5 a) fun a=>.light (fun m=>aA yA 3 ⟨0,m⟩ a)<|uI fun n=>.ite (uC i3 n) (.call 137 [x0,.agg [uY i0,.str l0,uY i1,.bool g0,x1,.bool g1,x2,uZ i2,x3]] fun a=>.ret (.tup [])) (.opt (bD x0) fun a=>.opt (zE yA 171 0 a) fun a=>.call 45 [a,.str [40]] fun a=>.call 137 [x0,.agg [uY i0,.str l0,uY i1,.bool g0,x1,.bool g1,x2,uZ i2,x3]] fun a=>.opt (bD x0) fun a=>.opt (zE yA 171 0 a) fun a=>.call 45 [a,.str [41]] fun a=>.ret (.tup []))
def t191:T:=.opt (bD x0) fun a=>.opt (zE yA 171 0 a) fun a1=>.opt (bD x4) fun a=>.opt (zE yA 168 1 a) fun a=>.light (fun m=>aA yA 9 ⟨0,m⟩ a)<|uS fun s=>.opt (iE s [40])<|uS fun s=>.call 45 [a1,.str s] fun a=>.opt (bD x4) fun a=>.opt (zE yA 168 2 a) fun a=>.light (fun m=>aA yA 4 ⟨0,m⟩ a)<|uB fun b=>.ite b (.opt (bD x0) fun a=>.opt (zE yA 171 0 a) fun a=>.opt (iE l0 [44,32])<|uS fun s=>.call 45 [a,.str s] fun a=>.jump 9 [x0,uY i0,.str l0,uY i1,.bool g0,x1,.bool g1,x2,uZ i2,x3]) (.jump 9 [x0,uY i0,.str l0,uY i1,.bool g0,x1,.bool g1,x2,uZ i2,x3])
def Zh:T:=.opt (vB x3)<|uI fun n=>.jump 2 [x0,x3,uZ n,uZ 0,uY i0,.str l0,uY i1,.bool g0,x1,.bool g1,x2,uZ i2,x3]
def Qt:T:=.ite (iB i1 i0) (.opt (jB yA 37 x1 (uZ i1)) fun a=>.light (fun m=>aA yA 39 ⟨0,m⟩ a)<|uG qJ fun X=>.ite (kD (uM0 X)) (.ite (iB 0 i1) (.opt (bD x0) fun a=>.opt (zE yA 171 0 a) fun a=>.call 45 [a,.str [44,32]] fun a=>.call 137 [x0,(cF X)] fun a=>.jump 2 [x0,x1,uZ i0,(yC i1),uY i2,.str l0,uY i3,.bool g0,x2,.bool g1,x3,uZ i4,x4]) (.call 137 [x0,(cF X)] fun a=>.jump 2 [x0,x1,uZ i0,(yC i1),uY i2,.str l0,uY i3,.bool g0,x2,.bool g1,x3,uZ i4,x4])) .fail) (.ite (iA i2 19) (.opt (bD x0) fun a=>.opt (zE yA 171 0 a) fun a=>.call 230 [(uY (rA .u8 i4))]<|uS fun s=>.opt (iE [44,32] s)<|uS fun s=>.call 45 [a,.str s] fun a=>.opt (bD x0) fun a=>.opt (zE yA 171 0 a) fun a=>.call 45 [a,.str [41]] fun a=>.ret (.tup [])) (.opt (bD x0) fun a=>.opt (zE yA 171 0 a) fun a=>.call 45 [a,.str [41]] fun a=>.ret (.tup [])))
def t192:T:=.call 231 [.agg [.bool g0,x0],.agg [.bool g2,x2]]<|uB fun b=>.ite b (.call 231 [.agg [.bool g1,x1],.agg [.bool g3,x3]]<|uB fun b=>.ret (.bool b)) zB
def t193:T:=.call 231 [.agg [.bool g0,x0],.agg [.bool g1,x1]]<|uB fun b=>.ite b (.call 232 [x0,x1]<|uB fun b=>.ret (.bool b)) zB
def t197:T:=.ite (uC 48 i0) (.ret (.bool (uC i0 57))) zB
def t201:T:=.jump 2 [x0,x1,.nilslice,uZ 0,uZ 0]
def Qs:T:=.opt (vB x0)<|uI fun n=>.ite (iB i1 n) (uQ7 x0 i1 x1 x2 i0) (.opt (vB x1)<|uI fun n=>.ite (iB i1 n) (uQ7 x0 i1 x1 x2 i0) (.ite (iB 0 i0) (uQ7 x0 i1 x1 x2 i0) (.ret x2)))
def Zg:T:=.opt (vB x1)<|uI fun n=>.ite (iB i1 n) (.opt (jB yA 30 x1 (uZ i1)) fun a=>.light (fun m=>aA yA 72 ⟨0,m⟩ a)<|uH fun n=>.jump 21 [x0,x1,x2,(uZ (uW (i0+(uW n)))),uZ i1]) (.jump 21 [x0,x1,x2,uZ i0,uZ i1])
def Zf:T:=.heavy (bE yA 30 1 [(0,(.int .u16 (rA .u16 (Int.tmod i0 65536))))]) fun a=>.heavy (nF yA 30 30 x2 a) fun a=>.jump 2 [x0,x1,a,(uZ (uW (Int.tdiv i0 65536))),(yC i1)]
def t203:T:=.opt (vB x0)<|uI fun n=>.jump 2 [x0,uZ n]
def Js:T:=.ite (iB 0 i0) (.opt (jB yA 30 x0 (uZ (uW (i0-1)))) fun a=>.light (fun m=>aA yA 72 ⟨0,m⟩ a)<|uH fun n=>.ite (iA n 0) (.jump 2 [x0,(uZ (uW (i0-1)))]) (.light (fun m=>tE yA 30 ⟨0,m⟩ x0 none (some (uZ i0))) fun a=>.ret a)) (.light (fun m=>tE yA 30 ⟨0,m⟩ x0 none (some (uZ i0))) fun a=>.ret a)
def t210:T:=.call 236 [.agg [.bool g0,x0,.bool g1,x1]]<|uB fun b=>.ite b zB (.call 237 [.agg [.bool g0,x0]]<|uB fun b=>.ite (!b) zB (.call 237 [.agg [.bool g1,x1]]<|uB fun b=>.ite (!b) zB (.ite g1 zB (.opt (vB x1)<|uI fun n=>.ite (iA n 0) zB (.call 212 [.agg [.bool g0,x0,.bool g1,x1]]<|uB fun b=>.ite b qF (.call 239 [.agg [.bool g0,x0],.agg [.bool g1,x1]]<|uG mW fun X=>.call 238 [(oN X)]<|uB fun b=>.ret (.bool b)))))))
def t211:T:=.call 237 [.agg [.bool g0,x0]]<|uB fun b=>.ite (!b) (.ret (.tup [.str [],uZ 2])) (.opt (vB x0)<|uI fun n=>.ite (iA n 0) (.ret (.tup [.str [48],uZ 0])) (.call 240 [x0] fun a=>.jump 2 [.str [],uZ 0,.nilslice,a,.bool g0,x0]))
def Qq:T:=.opt (vB x1)<|uI fun n=>.ite (iB 0 n) (.call 241 [x1,.int .u32 1000000000] fun a2=>.opt (uX 0 a2) fun a3=>.opt (uX 1 a2)<|uL fun n=>.heavy (bE yA 240 1 [(0,(.int .u32 n))]) fun a=>.heavy (nF yA 240 240 x0 a) fun a=>.jump 2 [.str l0,uZ i0,a,a3,.bool g0,x2]) (.heavy (mU yA 90) fun a8=>.ite g0 (.light (fun m=>aA yA 90 ⟨0,m⟩ a8) fun a9=>.heavy (bE yA 90 1 [(0,(uY 45))]) fun a=>.heavy (nF yA 90 90 a9 a) fun a=>.heavy (kE yA 90 a8 a) fun _=>.jump 29 [.str l0,uZ i0,x0,a8]) (.jump 29 [.str l0,uZ i0,x0,a8]))
def Ze:T:=.call 242 [x0] fun a=>.range (npC yA) a 6 1 [x1] (.light (fun m=>aA yA 90 ⟨0,m⟩ x1) fun a=>.light (fun m=>nJ yA 90 9 ⟨0,m⟩ a)<|uS fun s=>.ret (.tup [.str s,uZ 0])) (.ret (.tup [.str l0,uZ i0]))
def Zd:T:=.call 243 [(.int .u64 (rA .u64 i0)),uZ 10]<|uS fun s=>.light (fun m=>aA yA 90 ⟨0,m⟩ x0) fun a=>.opt (vB a)<|uI fun n=>.ite (iB 1 n) (.jump 10 [x0,.str s,(uZ (uW (9-(Int.ofNat (rB s))))),uZ 0]) (.light (fun m=>aA yA 90 ⟨0,m⟩ x0) fun a=>.opt (vB a)<|uI fun n=>.ite (iA n 1) (.light (fun m=>aA yA 90 ⟨0,m⟩ x0) fun a=>.opt (jB yA 90 a (uZ 0)) fun a=>.light (fun m=>aA yA 5 ⟨0,m⟩ a)<|uU fun n=>.ite (!iA n 45) (.jump 10 [x0,.str s,(uZ (uW (9-(Int.ofNat (rB s))))),uZ 0]) (uQ14 x0 s)) (uQ14 x0 s))
def Qr:T:=.ite (iB i1 i0) (.light (fun m=>aA yA 90 ⟨0,m⟩ x0) fun a0=>.heavy (bE yA 90 1 [(0,(uY 48))]) fun a=>.heavy (nF yA 90 90 a0 a) fun a=>.heavy (kE yA 90 x0 a) fun _=>.jump 10 [x0,.str l0,uZ i0,(yC i1)]) (.light (fun m=>aA yA 90 ⟨0,m⟩ x0) fun a=>.heavy (nF yA 90 9 a (.str l0)) fun a=>.heavy (kE yA 90 x0 a) fun _=>.ret (.bool true))
def t212:T:=.call 238 [.agg [.bool g1,x1]]<|uB fun b=>.ret (.bool b)
def t213:T:=.call 244 [.str l0,.str l1]<|uB fun b=>.ite b (.opt (tE yA 9 eQ (.str l0) (some (uZ (Int.ofNat (rB l1)))) none)<|uS fun s=>.ret (.str s)) (.ret (.str l0))
def t214:T:=.call 245 [.str l0,.str l1] fun a=>.opt (uX 0 a)<|uS fun s=>.opt (uX 1 a)<|uB fun b=>.ret (.tup [.str s,.bool b])
def t215:T:=.ite (uC 0 i0) (.ret (.bool (iB i0 65536))) zB
def t216:T:=.heavy (bP (uZ i0)) fun a=>.call 246 [uZ 2154,(.func (.func 247) [] [a])]<|uI fun n=>.ret (uZ n)
def t217:T:=.call 248 [(uZ (uW ((uW (1900+(uW (Int.tdiv i0 12))))-1)))]<|uI fun n1=>.call 248 [uZ 1899]<|uI fun n=>.jump 2 [uZ i0,(uZ (uW (1900+(uW (Int.tdiv i0 12))))),(uZ (uW ((uW ((uW (365*(uW ((uW (1900+(uW (Int.tdiv i0 12))))-1900))))+n1))-n))),uZ 1]
def t217_2:T:=.ite (uC i3 (Int.tmod i0 12)) (.call 249 [uZ i1,uZ i3]<|uI fun n=>.jump 2 [uZ i0,uZ i1,(uZ (uW (i2+n))),(yC i3)]) (.ret (uZ i2))
def t219:T:=.ite (uC 48 i0) (.ret (.bool (uC i0 57))) zB
def t223:T:=.opt (vB x0)<|uI fun n=>.heavy (sK yA 30 (uZ n) (uZ n)) fun a=>.opt (vB x0)<|uI fun n=>.jump 2 [x0,uZ i0,a,uZ 0,(uZ (uW (n-1)))]
def Qp:T:=.ite (uC 0 i2) (.opt (jB yA 30 x0 (uZ i2)) fun a=>.light (fun m=>aA yA 72 ⟨0,m⟩ a)<|uH fun n2=>.opt (mT .i64 (uW ((uW (i1*65536))+(uW n2))) i0)<|uI fun n=>.opt (jB yA 30 x1 (uZ i2)) fun a=>.heavy (kE yA 72 a (.int .u16 (rA .u16 n))) fun _=>.opt (nT .i64 (uW ((uW (i1*65536))+(uW n2))) i0)<|uI fun n=>.jump 2 [x0,uZ i0,x1,uZ n,(uZ (uW (i2-1)))]) (.call 203 [x1] fun a8=>.heavy (bE yA 30 1 [(0,(.int .u16 (rA .u16 i1)))]) fun a=>.call 203 [a] fun a=>.ret (.tup [a8,a]))
def t224:T:=.ite (iA (Int.tmod i0 400) 0) qF (.ite (iA (Int.tmod i0 4) 0) (.ret (.bool (!iA (Int.tmod i0 100) 0))) zB)
def t225:T:=.opt (vB x0)<|uI fun n=>.ite (uC n 256) (.opt (vB x1)<|uI fun n=>.ret (.bool (uC n 256))) zB
def t226:T:=.jump 2 [x0,x1]
def Zc:T:=.opt (vB x1)<|uI fun n=>.ite (iB 0 n) (.call 235 [x0,x1] fun a2=>.opt (uX 0 a2) fun a=>.opt (uX 1 a2) fun a=>.jump 2 [x1,a]) (.ret x0)
def t229:T:=.opt (vB x0)<|uI fun n=>.heavy (sK yA 30 (uZ 0) (uZ (uW (n+12)))) fun a=>.heavy (nF yA 30 30 a x0) fun a=>.jump 2 [x0,a,uZ 0]
def Qo:T:=.ite (iB i0 12) (.call 252 [uZ 1,uZ i0]<|uI fun n=>.heavy (bE yA 30 1 [(0,(.int .u16 (rA .u16 n)))]) fun a=>.heavy (nF yA 30 30 x1 a) fun a=>.jump 2 [x0,a,(yC i0)]) (.opt (vB x0)<|uI fun n=>.light (fun m=>tE yA 30 ⟨0,m⟩ x1 none (some (uZ n))) fun a=>.ret a)
def t230:T:=.ite (iB (uW i0) 7) (.opt (jB yA 194 (.ptr 1 0) (uY i0)) fun a=>.light (fun m=>aA yA 9 ⟨0,m⟩ a)<|uS fun s=>.ret (.str s)) (.ret (.str []))
def t231:T:=.ite (bEq g0 g1) (.call 253 [x0,x1]<|uB fun b=>.ret (.bool b)) zB
def t232:T:=.opt (vB x0)<|uI fun n1=>.opt (vB x1)<|uI fun n=>.ite (!iA n1 n) zB (.opt (vB x1)<|uI fun n=>.light (fun m=>tE yA 30 ⟨0,m⟩ x0 none (some (uZ (uW (n+12))))) fun a=>.jump 2 [x1,a,uZ 0])
def Qn:T:=.opt (vB x1)<|uI fun n=>.ite (iB i0 n) (.opt (vB x0)<|uI fun n=>.ite (iB i0 n) (.opt (jB yA 30 x1 (uZ i0)) fun a=>.light (fun m=>aA yA 72 ⟨0,m⟩ a)<|uH fun n6=>.opt (jB yA 30 x0 (uZ i0)) fun a=>.light (fun m=>aA yA 72 ⟨0,m⟩ a)<|uH fun n=>.ite (!(iA n6 n)) zB (.opt (vB x0)<|uI fun n=>.ite (uC n i0) (.opt (jB yA 30 x1 (uZ i0)) fun a=>.light (fun m=>aA yA 72 ⟨0,m⟩ a)<|uH fun n14=>.opt (vB x0)<|uI fun n=>.call 252 [uZ 1,(uZ (uW (i0-n)))]<|uI fun n=>.light (fun m=>aA yA 72 ⟨0,m⟩ a) fun a=>.ite (same 10 a (.int .u16 n14)) (.ite (!(iA n14 (rA .u16 n))) zB (.jump 2 [x0,x1,(yC i0)])) .fail) (.jump 2 [x0,x1,(yC i0)]))) (.opt (vB x0)<|uI fun n=>.ite (uC n i0) (.opt (jB yA 30 x1 (uZ i0)) fun a=>.light (fun m=>aA yA 72 ⟨0,m⟩ a)<|uH fun n24=>.opt (vB x0)<|uI fun n=>.call 252 [uZ 1,(uZ (uW (i0-n)))]<|uI fun n=>.light (fun m=>aA yA 72 ⟨0,m⟩ a) fun a=>.ite (same 10 a (.int .u16 n24)) (.ite (!(iA n24 (rA .u16 n))) zB (.jump 2 [x0,x1,(yC i0)])) .fail) (.jump 2 [x0,x1,(yC i0)]))) qF
def t235:T:=.opt (vB x1)<|uI fun n=>.ite (iA n 1) (.opt (jB yA 30 x1 (uZ 0)) fun a=>.light (fun m=>aA yA 72 ⟨0,m⟩ a)<|uH fun n=>.call 223 [x0,(uZ (uW n))] fun a5=>.opt (uX 0 a5) fun a6=>.opt (uX 1 a5) fun a=>.ret (.tup [a6,a])) (.jump 2 [x0,x1,uZ 0,x1])
def Ql:T:=.call 255 [x0,x2]<|uB fun b=>.ite (!b) (.call 201 [x2,x2] fun a=>.jump 2 [x0,x1,(yC i0),a]) (.jump 6 [x0,uZ i0,x1,uZ 0])
def Qk:T:=.ite (iB i1 i0) (.call 201 [x1,x1] fun a=>.jump 6 [x0,uZ i0,a,(yC i1)]) (.heavy (bE yA 30 0 []) fun a=>.heavy (nF yA 30 30 a x0) fun a=>.jump 10 [uZ i0,x1,.nilslice,a,uZ 0])
def Qm:T:=.ite (iB i1 i0) (.call 256 [x0] fun a0=>.call 201 [x1,x1] fun a1=>.call 255 [x2,a0]<|uB fun b=>.ite (!b) (.call 257 [x2,a0] fun a4=>.heavy (bE yA 30 1 [(0,(.int .u16 1))]) fun a=>.call 201 [a1,a] fun a=>.jump 10 [uZ i0,a0,a,a4,(yC i1)]) (.jump 10 [uZ i0,a0,a1,x2,(yC i1)])) (.ret (.tup [x1,x2]))
def t236:T:=.opt (vB x0)<|uI fun n=>.ite (iB 256 n) qF (.opt (vB x1)<|uI fun n=>.ret (.bool (iB 256 n)))
def t237:T:=.opt (vB x0)<|uI fun n=>.ite (iA n 0) (.ret (.bool (!g0))) (.ite (uC n 1024) (.opt (jB yA 30 x0 (uZ (uW (n-1)))) fun a=>.light (fun m=>aA yA 72 ⟨0,m⟩ a)<|uH fun n=>.ret (.bool (!iA n 0))) zB)
def t238:T:=.ite (!g0) (.opt (vB x0)<|uI fun n=>.ite (iA n 1) (Ff x0) zB) zB
def t239:T:=.call 258 [.agg [.bool g0,x0],.agg [.bool g1,x1]] fun a=>.opt (uX 0 a)<|uG mW fun X=>.opt (uX 1 a)<|uI fun n=>.ite (kD (pN X)) (.ite (kD (pN X)) (.ret (oN X)) .fail) .fail
def t240:T:=.opt (vB x0)<|uI fun n=>.heavy (sK yA 240 (uZ (uW (Int.tdiv (uW (n+1)) 2))) (uZ (uW (Int.tdiv (uW (n+1)) 2)))) fun a=>.opt (vB x0)<|uI fun n=>.jump 2 [a,x0,uZ n,uZ 0]
def Qj:T:=.ite (iB i1 i0) (.opt (jB yA 30 x1 (uZ i1)) fun a=>.light (fun m=>aA yA 72 ⟨0,m⟩ a)<|uH fun n2=>.opt (jB yA 240 x0 (uZ (uW (Int.tdiv i1 2)))) fun a=>.light (fun m=>aA yA 242 ⟨0,m⟩ a)<|uL fun n5=>.opt (wS .u32 (rA .u32 n2) (uW (16*(Int.tmod i1 2))))<|uL fun n=>.opt (iH Nat.lor .u32 n5 n)<|uL fun n=>.opt (jB yA 240 x0 (uZ (uW (Int.tdiv i1 2)))) fun a=>.heavy (kE yA 242 a (.int .u32 n)) fun _=>.jump 2 [x0,x1,uZ i0,(yC i1)]) (.ret x0)
def t241:T:=.opt (vB x0)<|uI fun n=>.heavy (sK yA 240 (uZ n) (uZ n)) fun a=>.opt (vB x0)<|uI fun n=>.jump 2 [x0,.int .u32 i0,a,.int .u32 0,(uZ (uW (n-1)))]
def Qi:T:=.ite (uC 0 i2) (.opt (jB yA 240 x0 (uZ i2)) fun a=>.light (fun m=>aA yA 242 ⟨0,m⟩ a)<|uL fun n=>.call 259 [.int .u32 i1,.int .u32 n,.int .u32 i0] fun a=>.opt (uX 0 a)<|uL fun n5=>.opt (uX 1 a)<|uL fun n=>.opt (jB yA 240 x1 (uZ i2)) fun a=>.heavy (kE yA 242 a (.int .u32 n5)) fun _=>.jump 2 [x0,.int .u32 i0,x1,.int .u32 n,(uZ (uW (i2-1)))]) (.call 260 [x1] fun a=>.ret (.tup [a,.int .u32 i1]))
def t242:T:=.heavy (bP x0) fun a=>.ret (.func (.func 261) [] [a])
def t244:T:=.ite (uC (Int.ofNat (rB l1)) (Int.ofNat (rB l0))) (.opt (tE yA 9 eQ (.str l0) none (some (uZ (Int.ofNat (rB l1)))))<|uS fun s=>.ret (.bool (cC s l1))) zB
def t245:T:=.call 244 [.str l0,.str l1]<|uB fun b=>.ite (!b) (.ret (.tup [.str l0,.bool false])) (.opt (tE yA 9 eQ (.str l0) (some (uZ (Int.ofNat (rB l1)))) none)<|uS fun s=>.ret (.tup [.str s,.bool true]))
def t246:T:=.jump 2 [x0,uZ 0,uZ i0]
def t246_2:T:=.ite (iB i0 i1) (.callv x0 [(uZ (uW (Int.fdiv (rA .u64 (uW (i0+i1))) 2)))]<|uB fun b=>.ite (!b) (.jump 2 [x0,(uZ (uW ((uW (Int.fdiv (rA .u64 (uW (i0+i1))) 2))+1))),uZ i1]) (.jump 2 [x0,uZ i0,(uZ (uW (Int.fdiv (rA .u64 (uW (i0+i1))) 2)))])) (.ret (uZ i0))
def t247:T:=.light (fun m=>aA yA 3 ⟨0,m⟩ x0)<|uI fun n1=>.call 217 [(yC i0)]<|uI fun n=>.light (fun m=>aA yA 3 ⟨0,m⟩ x0) fun a=>.ite (same 10 a (uZ n1)) (.ret (.bool (iB n1 n))) .fail
def t248:T:=.ret (uZ (uW ((uW ((uW (Int.tdiv i0 4))-(uW (Int.tdiv i0 100))))+(uW (Int.tdiv i0 400)))))
def t249:T:=.ite (iB i1 1) (.ret (uZ 0)) (.ite (iB 12 i1) (.ret (uZ 0)) (.ite (iA i1 2) (.call 263 [uZ i0]<|uB fun b=>.ite b (.ret (uZ 29)) (uQ15 i1)) (uQ15 i1)))
def t252:T:=.ret (uZ (uW ((uW (1000003*(uW (i0+7))))+i1)))
def t253:T:=.opt (vB x0)<|uI fun n1=>.opt (vB x1)<|uI fun n=>.ite (!iA n1 n) zB (.jump 2 [x0,x1,uZ 0])
def Qh:T:=.opt (vB x0)<|uI fun n=>.ite (iB i0 n) (.opt (jB yA 30 x0 (uZ i0)) fun a=>.light (fun m=>aA yA 72 ⟨0,m⟩ a)<|uH fun n4=>.opt (jB yA 30 x1 (uZ i0)) fun a=>.light (fun m=>aA yA 72 ⟨0,m⟩ a)<|uH fun n=>.ite (!iA n4 n) zB (.jump 2 [x0,x1,(yC i0)])) qF
def t255:T:=.opt (vB x0)<|uI fun n1=>.opt (vB x1)<|uI fun n=>.ite (!iA n1 n) (.opt (vB x0)<|uI fun n5=>.opt (vB x1)<|uI fun n=>.ret (.bool (iB n5 n))) (.opt (vB x0)<|uI fun n=>.jump 2 [x0,x1,(uZ (uW (n-1)))])
def Qg:T:=.ite (uC 0 i0) (.opt (jB yA 30 x0 (uZ i0)) fun a=>.light (fun m=>aA yA 72 ⟨0,m⟩ a)<|uH fun n2=>.opt (jB yA 30 x1 (uZ i0)) fun a=>.light (fun m=>aA yA 72 ⟨0,m⟩ a)<|uH fun n=>.ite (!iA n2 n) (.opt (jB yA 30 x0 (uZ i0)) fun a=>.light (fun m=>aA yA 72 ⟨0,m⟩ a)<|uH fun n8=>.opt (jB yA 30 x1 (uZ i0)) fun a=>.light (fun m=>aA yA 72 ⟨0,m⟩ a)<|uH fun n=>.ret (.bool (iB n8 n))) (.jump 2 [x0,x1,(uZ (uW (i0-1)))])) zB
def t256:T:=.opt (vB x0)<|uI fun n=>.heavy (sK yA 30 (uZ n) (uZ n)) fun a=>.opt (vB x0)<|uI fun n=>.jump 2 [x0,a,uZ 0,(uZ (uW (n-1)))]
def Qf:T:=.ite (uC 0 i1) (.opt (jB yA 30 x0 (uZ i1)) fun a=>.light (fun m=>aA yA 72 ⟨0,m⟩ a)<|uH fun n=>.opt (jB yA 30 x1 (uZ i1)) fun a=>.heavy (kE yA 72 a (.int .u16 (rA .u16 (uW (Int.tdiv (uW ((uW ((Int.tmod i0 2)*65536))+(uW n))) 2))))) fun _=>.jump 2 [x0,x1,(uZ (uW ((uW ((Int.tmod i0 2)*65536))+(uW n)))),(uZ (uW (i1-1)))]) (.call 203 [x1] fun a=>.ret a)
def t257:T:=.jump 2 [x0,x1,.nilslice,uZ 0,uZ 0]
def Qe:T:=.opt (vB x0)<|uI fun n=>.ite (iB i1 n) (.opt (jB yA 30 x0 (uZ i1)) fun a=>.light (fun m=>aA yA 72 ⟨0,m⟩ a)<|uH fun n4=>.opt (vB x1)<|uI fun n=>.ite (iB i1 n) (.opt (jB yA 30 x1 (uZ i1)) fun a=>.light (fun m=>aA yA 72 ⟨0,m⟩ a)<|uH fun n=>.jump 19 [x0,x1,x2,uZ i1,(uZ (uW ((uW ((uW (65536+(uW n4)))-i0))-(uW n))))]) (.jump 19 [x0,x1,x2,uZ i1,(uZ (uW ((uW (65536+(uW n4)))-i0)))])) (.call 203 [x2] fun a=>.ret a)
def Zb:T:=.heavy (bE yA 30 1 [(0,(.int .u16 (rA .u16 (Int.tmod i1 65536))))]) fun a=>.heavy (nF yA 30 30 x2 a) fun a=>.jump 2 [x0,x1,a,(uZ (uW (1-(uW (Int.tdiv i1 65536))))),(yC i0)]
def t258:T:=.heavy (bE yA 271 2 [(0,(.agg [.bool g0,x0])),(1,(.agg [.bool g1,x1]))]) fun a=>.call 270 [a]<|uB fun b=>.ite (!b) (.ite true (.ite true (.ret (.tup [.agg [.bool false,.nilslice],uZ 2])) .fail) .fail) (.call 240 [x0] fun a3=>.ite (same 10 x1 x1) (.call 240 [x1] fun a=>.call 272 [a3,a] fun a=>.call 271 [.bool false,a]<|uG mW fun X=>.ite (kD (pN X)) (.ret (.tup [(oN X),uZ 0])) .fail) .fail)
def t259:T:=.ite (!iA i2 0) (.ite (uC i2 i0) (.light (fun m=>aA yA 97 ⟨0,m⟩ (.ptr 3 0)) fun a=>.fail) (.jump 7 [.int .u32 i0,.int .u32 i1,.int .u32 i2])) (.jump 7 [.int .u32 i0,.int .u32 i1,.int .u32 i2])
def Za:T:=.opt (iH Nat.lor .u64 (rA .u64 ((rA .u64 i0)*4294967296)) (rA .u64 i1))<|uE fun n1=>.opt (mT .u64 n1 (rA .u64 i2))<|uE fun n3=>.opt (nT .u64 n1 (rA .u64 i2))<|uE fun n=>.ret (.tup [(.int .u32 (rA .u32 n3)),(.int .u32 (rA .u32 n))])
def t260:T:=.jump 2 [x0]
def Jr:T:=.opt (vB x0)<|uI fun n=>.ite (iB 0 n) (.opt (vB x0)<|uI fun n=>.opt (jB yA 240 x0 (uZ (uW (n-1)))) fun a=>.light (fun m=>aA yA 242 ⟨0,m⟩ a)<|uL fun n=>.ite (iA n 0) (.opt (vB x0)<|uI fun n=>.light (fun m=>tE yA 240 ⟨0,m⟩ x0 none (some (uZ (uW (n-1))))) fun a=>.jump 2 [a]) (.ret x0)) (.ret x0)
def t261:T:=.light (fun m=>aA yA 240 ⟨0,m⟩ x1) fun a0=>.opt (vB a0) fun a1=>.asI .i64 a1 fun n2=>.jump 2 [x0,x1,(.int .i64 (rA .i64 (n2-1)))]
def Qc:T:=.ite (uC 0 i0)
 (.light (fun m=>aA yA 240 ⟨0,m⟩ x1) fun a0=>.opt (jB yA 240 a0 (.int .i64 i0)) fun a1=>.light (fun m=>aA yA 242 ⟨0,m⟩ a1) fun a2=>.asI .u32 a2 fun n3=>.callv x0 [.int .u32 n3] fun a4=>
 .asB a4 fun b5=>.ite (!b5)
 (.ret (.tup []))
 (.jump 2 [x0,x1,(.int .i64 (rA .i64 (i0-1)))]))
 (.ret (.tup []))
def t263:T:=.ite (iA (Int.tmod i0 4) 0) (.ite (!iA (Int.tmod i0 100) 0) qF (.ret (.bool (iA (Int.tmod i0 400) 0)))) zB
def t270:T:=.opt (vB x0)<|uI fun n=>.jump 2 [x0,uZ n,uZ 0]
def Qb:T:=.ite (iB i1 i0) (.opt (jB yA 271 x0 (uZ i1)) fun a=>.light (fun m=>aA yA 32 ⟨0,m⟩ a)<|uG mW fun X=>.ite (kD (pN X)) (.call 237 [(oN X)]<|uB fun b=>.ite (!b) zB (.jump 2 [x0,uZ i0,(yC i1)])) .fail) qF
def t271:T:=.call 260 [x0] fun a0=>.opt (vB a0)<|uI fun n=>.ite (iA n 0) (.ite true (.ite true (.ret (.agg [.bool false,.nilslice])) .fail) .fail) (.opt (vB a0)<|uI fun n=>.heavy (sK yA 30 (uZ (uW (2*n))) (uZ (uW (2*n)))) fun a=>.opt (vB a0)<|uI fun n=>.jump 2 [.bool g0,a,a0,uZ n,uZ 0,.bool false,.nilslice])
def Qa:T:=.ite (iB i1 i0) (.opt (jB yA 240 x1 (uZ i1)) fun a=>.light (fun m=>aA yA 242 ⟨0,m⟩ a)<|uL fun n=>.opt (jB yA 30 x0 (uZ (uW (2*i1)))) fun a=>.heavy (kE yA 72 a (.int .u16 (rA .u16 n))) fun _=>.opt (jB yA 30 x0 (uZ (uW ((uW (2*i1))+1)))) fun a=>.heavy (kE yA 72 a (.int .u16 (rA .u16 (Int.fdiv n 65536)))) fun _=>.jump 2 [.bool g0,x0,x1,uZ i0,(yC i1),.bool g1,x2]) (.opt (vB x0)<|uI fun n=>.opt (jB yA 30 x0 (uZ (uW (n-1)))) fun a=>.light (fun m=>aA yA 72 ⟨0,m⟩ a)<|uH fun n=>.ite (iA n 0) (.opt (vB x0)<|uI fun n=>.light (fun m=>tE yA 30 ⟨0,m⟩ x0 none (some (uZ (uW (n-1))))) fun a=>.ite (kD [.bool g0,a]) (.ite (kD [.bool g0,a]) (.ret (.agg [.bool g0,a])) .fail) .fail) (.ite (kD [.bool g0,x0]) (.ite (kD [.bool g0,x0]) (.ret (.agg [.bool g0,x0])) .fail) .fail))
def t272:T:=.call 283 [x0,x1]<|uI fun n=>.ite (iB n 0) (.jump 2 [x1,x0]) (.jump 2 [x0,x1])
def Yz:T:=.opt (vB x1)<|uI fun n=>.ite (iB 2 n) (.call 284 [x0,x1]<|uG [.int .u64 0,.int .u64 0,.int .u64 0,.int .u64 0,.bool false] fun X=>.ite true (.ite (iA (X.i 2) 0) (.call 285 [x0,x1] fun a4=>.opt (uX 0 a4) fun a=>.opt (uX 1 a4) fun a=>.jump 2 [x1,a]) (.ite (X.b 4) (.call 286 [.int .u64 (X.i 0),x0,.int .u64 (X.i 2),x1] fun a7=>.ite (same 10 (.int .u64 (X.i 3)) (.int .u64 (X.i 3))) (.ite (same 10 (.int .u64 (X.i 1)) (.int .u64 (X.i 1))) (.call 286 [.int .u64 (X.i 3),x1,.int .u64 (X.i 1),x0] fun a=>.jump 2 [a7,a]) .fail) .fail) (.call 286 [.int .u64 (X.i 2),x1,.int .u64 (X.i 0),x0] fun a9=>.ite (same 10 (.int .u64 (X.i 1)) (.int .u64 (X.i 1))) (.ite (same 10 (.int .u64 (X.i 3)) (.int .u64 (X.i 3))) (.call 286 [.int .u64 (X.i 1),x0,.int .u64 (X.i 3),x1] fun a=>.jump 2 [a9,a]) .fail) .fail))) .fail) (.opt (vB x1)<|uI fun n=>.ite (iA n 0) (.ret x0) (.opt (vB x0)<|uI fun n=>.ite (iB 2 n) (.call 285 [x0,x1] fun a15=>.opt (uX 0 a15) fun a=>.opt (uX 1 a15) fun a=>.jump 33 [x1,a]) (.jump 33 [x0,x1])))
def Yy:T:=.call 287 [x0]<|uE fun n1=>.call 287 [x1]<|uE fun n=>.jump 6 [.int .u64 n1,.int .u64 n]
def Yx:T:=.ite (!iA i1 0) (.opt (nT .u64 i0 i1)<|uE fun n=>.jump 6 [.int .u64 i1,.int .u64 n]) (.call 288 [.int .u64 i0] fun a=>.ret a)
def t283:T:=.opt (vB x0)<|uI fun n1=>.opt (vB x1)<|uI fun n=>.ite (!iA n1 n) (.opt (vB x0)<|uI fun n5=>.opt (vB x1)<|uI fun n=>.ite (iB n5 n) (.ret (uZ (-1))) (.ret (uZ 1))) (.opt (vB x0)<|uI fun n=>.jump 2 [x0,x1,(uZ (uW (n-1)))])
def Pz:T:=.ite (uC 0 i0) (.opt (jB yA 240 x0 (uZ i0)) fun a=>.light (fun m=>aA yA 242 ⟨0,m⟩ a)<|uL fun n2=>.opt (jB yA 240 x1 (uZ i0)) fun a=>.light (fun m=>aA yA 242 ⟨0,m⟩ a)<|uL fun n=>.ite (!iA n2 n) (.opt (jB yA 240 x0 (uZ i0)) fun a=>.light (fun m=>aA yA 242 ⟨0,m⟩ a)<|uL fun n8=>.opt (jB yA 240 x1 (uZ i0)) fun a=>.light (fun m=>aA yA 242 ⟨0,m⟩ a)<|uL fun n=>.ite (iB n8 n) (.ret (uZ (-1))) (.ret (uZ 1))) (.jump 2 [x0,x1,(uZ (uW (i0-1)))])) (.ret (uZ 0))
def t284:T:=.opt (vB x0)<|uI fun n1=>.opt (jB yA 240 x0 (uZ (uW (n1-1)))) fun a=>.light (fun m=>aA yA 242 ⟨0,m⟩ a)<|uL fun n=>.call 294 [.int .u32 n]<|uI fun n6=>.call 295 [x0,uZ n1,uZ n6]<|uE fun n8=>.call 295 [x1,uZ n1,uZ n6]<|uE fun n=>.ite true (.ite true (.jump 2 [.int .u64 n8,.int .u64 n,.int .u64 0,.int .u64 1,.int .u64 0,.int .u64 0,.int .u64 0,.int .u64 0,.bool false,.int .u64 0,.int .u64 1,.int .u64 0,.int .u64 0,.bool false]) .fail) .fail
def Yw:T:=.ite (uC i3 i1) (.ite (uC (rA .u64 (j1+i3)) (rA .u64 (i0-i1))) (.opt (mT .u64 i0 i1)<|uE fun n1=>.opt (nT .u64 i0 i1)<|uE fun n=>.ite true (.ite true (.ite true (.ite true (.ite true (.jump 2 [.int .u64 i1,.int .u64 n,(.int .u64 (rA .u64 (i9+(rA .u64 (n1*i2))))),(.int .u64 (rA .u64 (j1+(rA .u64 (n1*i3))))),.int .u64 i4,.int .u64 i5,.int .u64 i6,.int .u64 i7,.bool g0,.int .u64 i9,.int .u64 i2,.int .u64 j1,.int .u64 i3,(.bool (!g1))]) .fail) .fail) .fail) .fail) .fail) (.ite true (.ret (.agg [.int .u64 i8,.int .u64 i9,.int .u64 j0,.int .u64 j1,.bool g1])) .fail)) (.ite true (.ret (.agg [.int .u64 i8,.int .u64 i9,.int .u64 j0,.int .u64 j1,.bool g1])) .fail)
def t285:T:=.call 283 [x0,x1]<|uI fun n=>.ite (iB n 0) (.call 296 [x0] fun a=>.ret (.tup [.nilslice,a])) (.opt (vB x1)<|uI fun n=>.ite (iA n 1) (.opt (jB yA 240 x1 (uZ 0)) fun a=>.light (fun m=>aA yA 242 ⟨0,m⟩ a)<|uL fun n=>.call 241 [x0,.int .u32 n] fun a8=>.opt (uX 0 a8) fun a9=>.opt (uX 1 a8)<|uL fun n=>.heavy (bE yA 240 1 [(0,(.int .u32 n))]) fun a=>.call 260 [a] fun a=>.ret (.tup [a9,a])) (.opt (vB x1)<|uI fun n15=>.opt (jB yA 240 x1 (uZ (uW (n15-1)))) fun a=>.light (fun m=>aA yA 242 ⟨0,m⟩ a)<|uL fun n=>.call 294 [.int .u32 n]<|uI fun n20=>.call 297 [x1,uZ n20] fun a=>.light (fun m=>tE yA 240 ⟨0,m⟩ a none (some (uZ n15))) fun a22=>.call 297 [x0,uZ n20] fun a23=>.opt (vB x0)<|uI fun n=>.heavy (sK yA 240 (uZ (uW ((uW (n-n15))+1))) (uZ (uW ((uW (n-n15))+1)))) fun a=>.opt (vB a)<|uI fun n=>.jump 2 [uZ n15,uZ n20,a22,a23,a,(uZ (uW (n-1)))]))
def Py:T:=.ite (uC 0 i2) (.light (fun m=>tE yA 240 ⟨0,m⟩ x1 (some (uZ i2)) (some (uZ (uW ((uW (i2+i0))+1))))) fun a=>.call 298 [a,x0]<|uL fun n=>.opt (jB yA 240 x2 (uZ i2)) fun a=>.heavy (kE yA 242 a (.int .u32 n)) fun _=>.jump 2 [uZ i0,uZ i1,x0,x1,x2,(uZ (uW (i2-1)))]) (.jump 6 [uZ i0,uZ i1,x1,x2,uZ i0,uZ 0])
def Px:T:=.ite (iB i3 i2) (.opt (jB yA 240 x0 (yC i3)) fun a=>.light (fun m=>aA yA 242 ⟨0,m⟩ a)<|uL fun n2=>.opt (jB yA 240 x0 (uZ i3)) fun a=>.light (fun m=>aA yA 242 ⟨0,m⟩ a)<|uL fun n=>.opt (iH Nat.lor .u64 (rA .u64 ((rA .u64 n2)*4294967296)) (rA .u64 n))<|uE fun n=>.opt (Ab .u64 n i1)<|uE fun n=>.opt (jB yA 240 x0 (uZ i3)) fun a=>.heavy (kE yA 242 a (.int .u32 (rA .u32 n))) fun _=>.jump 6 [uZ i0,uZ i1,x0,x1,uZ i2,(yC i3)]) (.light (fun m=>tE yA 240 ⟨0,m⟩ x0 none (some (uZ i0))) fun a11=>.call 260 [x1] fun a12=>.light (fun m=>tE yA 240 ⟨0,m⟩ x0 none (some (uZ i0))) fun a=>.ite (same 10 a a11) (.call 260 [a11] fun a=>.ret (.tup [a12,a])) .fail)
def t286:T:=.opt (vB x0)<|uI fun n1=>.opt (vB x1)<|uI fun n=>.heavy (sK yA 240 (uZ (uW ((bif iB n1 n then n else n1)+1))) (uZ (uW ((bif iB n1 n then n else n1)+1)))) fun a=>.opt (vB a)<|uI fun n=>.jump 2 [.int .u64 i0,x0,.int .u64 i1,x1,a,.int .u64 0,.int .u64 0,.int .u32 0,uZ n,uZ 0]
def Pw:T:=.ite (iB i6 i5) (.opt (vB x0)<|uI fun n=>.ite (iB i6 n) (.opt (jB yA 240 x0 (uZ i6)) fun a=>.light (fun m=>aA yA 242 ⟨0,m⟩ a)<|uL fun n=>.jump 17 [.int .u64 i0,x0,.int .u64 i1,x1,x2,(.int .u64 (rA .u64 (i2+(rA .u64 (i0*(rA .u64 n)))))),.int .u64 i3,.int .u32 i4,uZ i6,uZ i5,uZ i6]) (.jump 17 [.int .u64 i0,x0,.int .u64 i1,x1,x2,.int .u64 i2,.int .u64 i3,.int .u32 i4,uZ i6,uZ i5,uZ i6])) (.call 260 [x2] fun a=>.ret a)
def Yv:T:=.opt (vB x1)<|uI fun n=>.ite (iB i5 n) (.opt (jB yA 240 x1 (uZ i5)) fun a=>.light (fun m=>aA yA 242 ⟨0,m⟩ a)<|uL fun n=>.jump 21 [.int .u64 i0,x0,.int .u64 i1,x1,x2,.int .u64 i2,(.int .u64 (rA .u64 (i3+(rA .u64 (i1*(rA .u64 n)))))),.int .u32 i4,uZ i5,uZ i6,uZ i7]) (.jump 21 [.int .u64 i0,x0,.int .u64 i1,x1,x2,.int .u64 i2,.int .u64 i3,.int .u32 i4,uZ i5,uZ i6,uZ i7])
def Yu:T:=.call 299 [(.int .u32 (rA .u32 i2)),(.int .u32 (rA .u32 i3)),.int .u32 i4] fun a=>.opt (uX 0 a)<|uL fun n2=>.opt (uX 1 a)<|uL fun n=>.opt (jB yA 240 x2 (uZ i5)) fun a=>.heavy (kE yA 242 a (.int .u32 n2)) fun _=>.jump 2 [.int .u64 i0,x0,.int .u64 i1,x1,x2,(.int .u64 (Int.fdiv i2 4294967296)),(.int .u64 (Int.fdiv i3 4294967296)),.int .u32 n,uZ i6,(yC i7)]
def t287:T:=.heavy (mU yA 209) fun a0=>.heavy (kE yA 209 a0 (.int .u64 0)) fun _=>.call 242 [x0] fun a=>.range (npC yA) a 2 1 [a0] (.light (fun m=>aA yA 209 ⟨0,m⟩ a0)<|uE fun n=>.ret (.int .u64 n)) (.ret (.int .u64 0))
def Yt:T:=.light (fun m=>aA yA 209 ⟨0,m⟩ x0)<|uE fun n=>.opt (iH Nat.lor .u64 (rA .u64 (n*4294967296)) (rA .u64 i0))<|uE fun n=>.heavy (kE yA 209 x0 (.int .u64 n)) fun _=>.ret (.bool true)
def t288:T:=.heavy (bE yA 240 2 [(0,(.int .u32 (rA .u32 i0))),(1,(.int .u32 (rA .u32 (Int.fdiv i0 4294967296))))]) fun a=>.call 260 [a] fun a=>.ret a
def t294:T:=.call 301 [.int .u32 i0]<|uI fun n=>.ret (uZ (uW (32-n)))
def t295:T:=.heavy (bP x0) fun a=>.callv (.func (.func 302) [] [a]) [(uZ (uW (i0-1)))]<|uE fun n2=>.callv (.func (.func 302) [] [a]) [(uZ (uW (i0-2)))]<|uE fun n=>.opt (iH Nat.lor .u64 (rA .u64 (n2*4294967296)) n)<|uE fun n=>.opt (wS .u64 n i1)<|uE fun n8=>.callv (.func (.func 302) [] [a]) [(uZ (uW (i0-3)))]<|uE fun n=>.opt (Ab .u64 n (uW (32-i1)))<|uE fun n=>.opt (iH Nat.lor .u64 n8 n)<|uE fun n=>.ret (.int .u64 n)
def t296:T:=.opt ((Du .eql).f yA 240 (.tmp 3) (.const (.slice none 0 0)) x0 .nilslice)<|uB fun b=>.ite b (.ret .nilslice) (.heavy (bE yA 240 0 []) fun a=>.heavy (nF yA 240 240 a x0) fun a=>.ret a)
def t297:T:=.opt (vB x0)<|uI fun n=>.heavy (sK yA 240 (yC n) (yC n)) fun a=>.opt (vB x0)<|uI fun n=>.jump 2 [uZ i0,a,x0,uZ n,uZ 0]
def Pv:T:=.ite (iB i2 i1) (.opt (jB yA 240 x1 (uZ i2)) fun a=>.light (fun m=>aA yA 242 ⟨0,m⟩ a)<|uL fun n=>.opt (wS .u64 (rA .u64 n) i0)<|uE fun n4=>.opt (jB yA 240 x0 (uZ i2)) fun a=>.light (fun m=>aA yA 242 ⟨0,m⟩ a)<|uL fun n=>.opt (iH Nat.lor .u32 n (rA .u32 n4))<|uL fun n=>.opt (jB yA 240 x0 (uZ i2)) fun a=>.heavy (kE yA 242 a (.int .u32 n)) fun _=>.opt (jB yA 240 x0 (yC i2)) fun a=>.heavy (kE yA 242 a (.int .u32 (rA .u32 (Int.fdiv n4 4294967296)))) fun _=>.jump 2 [uZ i0,x0,x1,uZ i1,(yC i2)]) (.ret x0)
def t298:T:=.opt (vB x1)<|uI fun n1=>.opt (jB yA 240 x0 (uZ n1)) fun a=>.light (fun m=>aA yA 242 ⟨0,m⟩ a)<|uL fun n4=>.opt (jB yA 240 x0 (uZ (uW (n1-1)))) fun a=>.light (fun m=>aA yA 242 ⟨0,m⟩ a)<|uL fun n=>.opt (iH Nat.lor .u64 (rA .u64 ((rA .u64 n4)*4294967296)) (rA .u64 n))<|uE fun n9=>.opt (jB yA 240 x1 (uZ (uW (n1-1)))) fun a=>.light (fun m=>aA yA 242 ⟨0,m⟩ a)<|uL fun n12=>.opt (mT .u64 n9 (rA .u64 n12))<|uE fun n14=>.opt (nT .u64 n9 (rA .u64 n12))<|uE fun n=>.jump 2 [x0,x1,uZ n1,(.int .u64 (rA .u64 n12)),.int .u64 n14,.int .u64 n]
def Pt:T:=.ite (uC 4294967296 i2) (uQ12 i3 i1 x0 x1 i0 i2) (.opt (jB yA 240 x1 (uZ (uW (i0-2)))) fun a=>.light (fun m=>aA yA 242 ⟨0,m⟩ a)<|uL fun n2=>.opt (jB yA 240 x0 (uZ (uW (i0-2)))) fun a=>.light (fun m=>aA yA 242 ⟨0,m⟩ a)<|uL fun n=>.opt (iH Nat.lor .u64 (rA .u64 (i3*4294967296)) (rA .u64 n))<|uE fun n=>.ite (iB n (rA .u64 (i2*(rA .u64 n2)))) (uQ12 i3 i1 x0 x1 i0 i2) (.jump 19 [x0,x1,uZ i0,.int .u64 i2]))
def Ys:T:=.opt (vB x1)<|uI fun n=>.jump 6 [x0,x1,uZ i0,.int .u64 i1,.int .u64 0,.int .u64 0,x1,uZ n,uZ 0]
def Ps:T:=.ite (iB i5 i4) (.opt (jB yA 240 x2 (uZ i5)) fun a=>.light (fun m=>aA yA 242 ⟨0,m⟩ a)<|uL fun n2=>.opt (jB yA 240 x0 (uZ i5)) fun a=>.light (fun m=>aA yA 242 ⟨0,m⟩ a)<|uL fun n=>.opt (jB yA 240 x0 (uZ i5)) fun a=>.heavy (kE yA 242 a (.int .u32 (rA .u32 (rA .u64 ((rA .u64 ((rA .u64 n)-(rA .u64 (rA .u32 (rA .u64 ((rA .u64 (i1*(rA .u64 n2)))+i2))))))-i3))))) fun _=>.jump 6 [x0,x1,uZ i0,.int .u64 i1,(.int .u64 (Int.fdiv (rA .u64 ((rA .u64 (i1*(rA .u64 n2)))+i2)) 4294967296)),(.int .u64 (Int.fdiv (rA .u64 ((rA .u64 ((rA .u64 n)-(rA .u64 (rA .u32 (rA .u64 ((rA .u64 (i1*(rA .u64 n2)))+i2))))))-i3)) 9223372036854775808)),x2,uZ i4,(yC i5)]) (.opt (jB yA 240 x0 (uZ i0)) fun a=>.light (fun m=>aA yA 242 ⟨0,m⟩ a)<|uL fun n=>.opt (jB yA 240 x0 (uZ i0)) fun a=>.heavy (kE yA 242 a (.int .u32 (rA .u32 (rA .u64 ((rA .u64 ((rA .u64 n)-i2))-i3))))) fun _=>.ite (iA (Int.fdiv (rA .u64 ((rA .u64 ((rA .u64 n)-i2))-i3)) 9223372036854775808) 0) (.ret (.int .u32 (rA .u32 i1))) (.opt (vB x1)<|uI fun n=>.jump 10 [x0,uZ i0,.int .u64 i1,.int .u32 0,x1,uZ n,uZ 0]))
def Pu:T:=.ite (iB i4 i3) (.opt (jB yA 240 x1 (uZ i4)) fun a=>.light (fun m=>aA yA 242 ⟨0,m⟩ a)<|uL fun n2=>.opt (jB yA 240 x0 (uZ i4)) fun a=>.light (fun m=>aA yA 242 ⟨0,m⟩ a)<|uL fun n=>.call 303 [.int .u32 n,.int .u32 n2,.int .u32 i2] fun a=>.opt (uX 0 a)<|uL fun n8=>.opt (uX 1 a)<|uL fun n=>.opt (jB yA 240 x0 (uZ i4)) fun a=>.heavy (kE yA 242 a (.int .u32 n8)) fun _=>.jump 10 [x0,uZ i0,.int .u64 i1,.int .u32 n,x1,uZ i3,(yC i4)]) (.opt (jB yA 240 x0 (uZ i0)) fun a=>.light (fun m=>aA yA 242 ⟨0,m⟩ a)<|uL fun n=>.opt (jB yA 240 x0 (uZ i0)) fun a=>.heavy (kE yA 242 a (.int .u32 (rA .u32 (n+i2)))) fun _=>.ret (.int .u32 (rA .u32 (rA .u64 (i1-1)))))
def t299:T:=.opt (zZ (.int .u32 i0))<|uL fun n=>.opt (iAnd .u32 n i1)<|uL fun n3=>.opt (iH Nat.xor .u32 i0 i1)<|uL fun n=>.opt (zZ (.int .u32 n))<|uL fun n=>.opt (iAnd .u32 n (rA .u32 ((rA .u32 (i0-i1))-i2)))<|uL fun n=>.opt (iH Nat.lor .u32 n3 n)<|uL fun n=>.ret (.tup [(.int .u32 (rA .u32 ((rA .u32 (i0-i1))-i2))),(.int .u32 (Int.fdiv n 2147483648))])
def t301:T:=.ite (uC 65536 i0) (.jump 9 [(.int .u32 (Int.fdiv i0 65536)),uZ 16]) (.jump 9 [.int .u32 i0,uZ 0])
def Pr:T:=.ite (uC 256 i0) (.jump 15 [(.int .u32 (Int.fdiv i0 256)),(uZ (uW (i1+8)))]) (.jump 15 [.int .u32 i0,uZ i1])
def Yr:T:=.opt (cP yA 9 (.str [0,1,2,2,3,3,3,3,4,4,4,4,4,4,4,4,5,5,5,5,5,5,5,5,5,5,5,5,5,5,5,5,6,6,6,6,6,6,6,6,6,6,6,6,6,6,6,6,6,6,6,6,6,6,6,6,6,6,6,6,6,6,6,6,7,7,7,7,7,7,7,7,7,7,7,7,7,7,7,7,7,7,7,7,7,7,7,7,7,7,7,7,7,7,7,7,7,7,7,7,7,7,7,7,7,7,7,7,7,7,7,7,7,7,7,7,7,7,7,7,7,7,7,7,7,7,7,7,8,8,8,8,8,8,8,8,8,8,8,8,8,8,8,8,8,8,8,8,8,8,8,8,8,8,8,8,8,8,8,8,8,8,8,8,8,8,8,8,8,8,8,8,8,8,8,8,8,8,8,8,8,8,8,8,8,8,8,8,8,8,8,8,8,8,8,8,8,8,8,8,8,8,8,8,8,8,8,8,8,8,8,8,8,8,8,8,8,8,8,8,8,8,8,8,8,8,8,8,8,8,8,8,8,8,8,8,8,8,8,8,8,8,8,8,8,8,8,8,8,8,8,8,8,8,8,8]) (uY (rA .u8 i0)))<|uU fun n=>.ret (uZ (uW (i1+(uW n))))
def t302:T:=.light (fun m=>aA yA 240 ⟨0,m⟩ x0) fun a=>.opt (vB a)<|uI fun n=>.ite (uC n i0) (.ret (.int .u64 0)) (.light (fun m=>aA yA 240 ⟨0,m⟩ x0) fun a=>.opt (jB yA 240 a (uZ i0)) fun a=>.light (fun m=>aA yA 242 ⟨0,m⟩ a)<|uL fun n=>.ret (.int .u64 (rA .u64 n)))
def t303:T:=.ret (.tup [(.int .u32 (rA .u32 (rA .u64 ((rA .u64 ((rA .u64 i0)+(rA .u64 i1)))+(rA .u64 i2))))),(.int .u32 (rA .u32 (Int.fdiv (rA .u64 ((rA .u64 ((rA .u64 i0)+(rA .u64 i1)))+(rA .u64 i2))) 4294967296)))])
variable {i0 i1 i2 i3 i4 i5 i6 i7 i8 i9 j0 j1 j2 j3 j4 j5 j6 j7}{l0 l1 l2 l3 l4 l5 l6 l7}{x0 x1 x2 x3 x4 x5 x6 x7 x8 x9 y0 y1}{g0 g1 g2 g3 g4 g5 g6 g7 g8 g9}
def w4(h:wp 4 (t4 i0 i1 i2 l0 x0 x1 x2 g0 g1) m Q):Wf 4 [.agg [uY i0,.str l0,uY i1,.bool g0,x0,.bool g1,x1,uZ i2,x2]] m Q:=mB (jA 4) h
def w9(h:wp 9 (t9 i0 i1 i2 i3 l0 x0 x1 x2 g0 g1) m Q):Wf 9 [.agg [uY i0,.str l0,uY i1,.bool g0,x0,.bool g1,x1,uZ i2,x2],uZ i3] m Q:=mB (jA 9) h
def j9_2(h:wp 9 (t9_2 i0 i1 i2 i3 i4 i5 l0 x0 x1 x2 g0 g1) m Q):jp 9 2 [uZ i0,uZ i1,uZ i2,uY i3,.str l0,uY i4,.bool g0,x0,.bool g1,x1,uZ i5,x2] m Q:=iC (jA 9) h
def w10(h:wp 10 (t10 i0 i1 i2 l0 x0 x1 x2 g0 g1) m Q):Wf 10 [.agg [uY i0,.str l0,uY i1,.bool g0,x0,.bool g1,x1,uZ i2,x2]] m Q:=mB (jA 10) h
def j10_19(h:wp 10 (Zk i0 i1 i2 i3 i4 i5 i6 i7 i8 i9 l0 l1 l2 l3 l4 l5 x0 x1 x2 x3 x4 x5 g0 g1 g2 g3) m Q):jp 10 19 [.str l0,uZ i0,.str l1,uZ i1,.str l2,uZ i2,.str l3,uZ i3,uY i4,.str l4,uY i5,.bool g0,x0,.bool g1,x1,uZ i6,x2,uY i7,.str l5,uY i8,.bool g2,x3,.bool g3,x4,uZ i9,x5] m Q:=iC (jA 10) h
def w16(h:wp 16 (t16 x0 x1) m Q):Wf 16 [.agg [.bool g0,x0,.bool g1,x1]] m Q:=mB (jA 16) h
def w18(h:wp 18 (t18 i0 i1 x0 x1 g0 g1) m Q):Wf 18 [.agg [uY i0,.bool g0,x0,.bool g1,x1,uZ i1]] m Q:=mB (jA 18) h
def w27(h:wp 27 (t27 i0 i1 i2 l0 x0 x1 x2 g0 g1) m Q):Wf 27 [.agg [uY i0,.str l0,uY i1,.bool g0,x0,.bool g1,x1,uZ i2,x2]] m Q:=mB (jA 27) h
def w28(h:wp 28 (t28 i0 i1 i2 l0 x0 x1 x2 g0 g1) m Q):Wf 28 [.agg [uY i0,.str l0,uY i1,.bool g0,x0,.bool g1,x1,uZ i2,x2]] m Q:=mB (jA 28) h
def w29(h:wp 29 (t29 i0 i1 i2 l0 x0 x1 x2 g0 g1) m Q):Wf 29 [.agg [uY i0,.str l0,uY i1,.bool g0,x0,.bool g1,x1,uZ i2,x2]] m Q:=mB (jA 29) h
def w30(h:wp 30 (t30 i0 i1 x0 x1 g0 g1) m Q):Wf 30 [.agg [uY i0,.bool g0,x0,.bool g1,x1,uZ i1]] m Q:=mB (jA 30) h
def w31(h:wp 31 (t31 i0 i1 i2 i3 i4 i5 l0 l1 x0 x1 x2 x3 x4 x5 g0 g1 g2 g3) m Q):Wf 31 [.agg [uY i0,.str l0,uY i1,.bool g0,x0,.bool g1,x1,uZ i2,x2],.agg [uY i3,.str l1,uY i4,.bool g2,x3,.bool g3,x4,uZ i5,x5]] m Q:=mB (jA 31) h
def w39(h:wp 39 (t39 i0 i1 x0 x1 g0 g1) m Q):Wf 39 [.agg [uY i0,.bool g0,x0,.bool g1,x1,uZ i1]] m Q:=mB (jA 39) h
def w40(h:wp 40 (t40 i0 i1 x0 x1 g0 g1) m Q):Wf 40 [.agg [uY i0,.bool g0,x0,.bool g1,x1,uZ i1]] m Q:=mB (jA 40) h
def w45(h:wp 45 (t45 l0 x0) m Q):Wf 45 [x0,.str l0] m Q:=mB (jA 45) h
def w46(h:wp 46 (t46 x0) m Q):Wf 46 [x0] m Q:=mB (jA 46) h
def w48(h:wp 48 (t48 ) m Q):Wf 48 [] m Q:=mB (jA 48) h
def w54(h:wp 54 (t54 i0) m Q):Wf 54 [uZ i0] m Q:=mB (jA 54) h
def w55(h:wp 55 (t55 i0) m Q):Wf 55 [uZ i0] m Q:=mB (jA 55) h
def w56(h:wp 56 (t56 x0 x1 g0 g1) m Q):Wf 56 [.agg [.bool g0,x0,.bool g1,x1]] m Q:=mB (jA 56) h
def j56_17(h:wp 56 (Yq l0 l1) m Q):jp 56 17 [.str l0,.str l1] m Q:=iC (jA 56) h
def w58(h:wp 58 (t58 l0) m Q):Wf 58 [.str l0] m Q:=mB (jA 58) h
def w60(h:wp 60 (t60 i0) m Q):Wf 60 [uZ i0] m Q:=mB (jA 60) h
def w66(h:wp 66 (t66 i0 i1 x0 x1 g0 g1) m Q):Wf 66 [.agg [uY i0,.bool g0,x0,.bool g1,x1,uZ i1]] m Q:=mB (jA 66) h
def w67(h:wp 67 (t67 x0) m Q):Wf 67 [x0] m Q:=mB (jA 67) h
def j67_2(h:wp 67 (t67_2 i0 x0 x1) m Q):jp 67 2 [x0,x1,uZ i0] m Q:=iC (jA 67) h
def j67_6(h:wp 67 (Pq i0 x0 x1) m Q):jp 67 6 [x0,x1,uZ i0] m Q:=iC (jA 67) h
def w68(h:wp 68 (t68 i0 i1 i2 i3 l0 x0 x1 x2 x3 g0 g1) m Q):Wf 68 [.agg [x0],.agg [uY i0,.str l0,uY i1,.bool g0,x1,.bool g1,x2,uZ i2,x3],uZ i3] m Q:=mB (jA 68) h
def j68_33(h:wp 68 (Yp i0 i4 i5 x0 x3 x4 x5 g2 g3) m Q):jp 68 33 [uZ i0,x0,uY i1,.str l0,uY i2,.bool g0,x1,.bool g1,x2,uZ i3,x3,uY i4,.bool g2,x4,.bool g3,x5,uZ i5] m Q:=iC (jA 68) h
def j68_4(h:wp 68 (Pp i0 i1 i2 x0 x1) m Q):jp 68 4 [uZ i0,x0,uZ i1,uZ i2,x1] m Q:=iC (jA 68) h
def w69(h:wp 69 (t69 i0 i1 i2 l0 x0 x1 x2 g0 g1) m Q):Wf 69 [.agg [uY i0,.str l0,uY i1,.bool g0,x0,.bool g1,x1,uZ i2,x2]] m Q:=mB (jA 69) h
def w70(h:wp 70 (t70 i0 i1 i2 i3 l0 x0 x1 x2 g0 g1) m Q):Wf 70 [.agg [uY i0,.str l0,uY i1,.bool g0,x0,.bool g1,x1,uZ i2,x2],uZ i3] m Q:=mB (jA 70) h
def j70_19(h:wp 70 (Yo i0 i1 i2 i3 l0 x0 x1 x2 g0 g1) m Q):jp 70 19 [uZ i0,uY i1,.str l0,uY i2,.bool g0,x0,.bool g1,x1,uZ i3,x2] m Q:=iC (jA 70) h
def j70_37(h:wp 70 (Yn i0 i1 i2 i3 l0 x0 x1 x2 g0 g1) m Q):jp 70 37 [uZ i0,uY i1,.str l0,uY i2,.bool g0,x0,.bool g1,x1,uZ i3,x2] m Q:=iC (jA 70) h
def j70_2(h:wp 70 (Po i0 i1 i2 i3 i4 l0 x0 x1 x2 g0 g1) m Q):jp 70 2 [uZ i0,uZ i1,uY i2,.str l0,uY i3,.bool g0,x0,.bool g1,x1,uZ i4,x2] m Q:=iC (jA 70) h
def j71_51(h:wp 71 (Ym i0 i1 i2 l0 l1 x0 x1 x2 g0 g1) m Q):jp 71 51 [.str l0,uY i0,.str l1,uY i1,.bool g0,x0,.bool g1,x1,uZ i2,x2] m Q:=iC (jA 71) h
def j71_4(h:wp 71 (Pn i0 i1 i2 i3 l0 l1 x0 x1 x2 g0 g1) m Q):jp 71 4 [.str l0,uZ i0,uY i1,.str l1,uY i2,.bool g0,x0,.bool g1,x1,uZ i3,x2] m Q:=iC (jA 71) h
def j71_61(h:wp 71 (t71_61 i0 i1 i2 i3 l0 l1 x0 x1 x2 g0 g1) m Q):jp 71 61 [.str l0,uZ i0,uY i1,.str l1,uY i2,.bool g0,x0,.bool g1,x1,uZ i3,x2] m Q:=iC (jA 71) h
def w72(h:wp 72 (t72 x0 x1 g0 g1) m Q):Wf 72 [.agg [.bool g0,x0,.bool g1,x1]] m Q:=mB (jA 72) h
def w73(h:wp 73 (t73 i0 i1 i2 i3 i4 i5 l0 l1 x0 x1 x2 x3 x4 x5 g0 g1 g2 g3) m Q):Wf 73 [.agg [uY i0,.str l0,uY i1,.bool g0,x0,.bool g1,x1,uZ i2,x2],.agg [uY i3,.str l1,uY i4,.bool g2,x3,.bool g3,x4,uZ i5,x5]] m Q:=mB (jA 73) h
def w74(h:wp 74 (t74 i0 i1 i2 i3 x0 x1 x2 x3 g0 g1 g2 g3) m Q):Wf 74 [.agg [uY i0,.bool g0,x0,.bool g1,x1,uZ i1],.agg [uY i2,.bool g2,x2,.bool g3,x3,uZ i3]] m Q:=mB (jA 74) h
def w75(h:wp 75 (t75 x0 x1) m Q):Wf 75 [x0,x1] m Q:=mB (jA 75) h
def j75_2(h:wp 75 (t75_2 i0 x0 x1) m Q):jp 75 2 [x0,x1,uZ i0] m Q:=iC (jA 75) h
def w89(h:wp 89 (t89 x0 x1 g0 g1) m Q):Wf 89 [.agg [.bool g0,x0,.bool g1,x1]] m Q:=mB (jA 89) h
def w90(h:wp 90 (t90 x0 x1 g0 g1) m Q):Wf 90 [.agg [.bool g0,x0,.bool g1,x1]] m Q:=mB (jA 90) h
def w91(h:wp 91 (t91 i0) m Q):Wf 91 [uZ i0] m Q:=mB (jA 91) h
def w92(h:wp 92 (t92 g0) m Q):Wf 92 [.bool g0] m Q:=mB (jA 92) h
def w93(h:wp 93 (t93 x0 x1 g0 g1) m Q):Wf 93 [.agg [.bool g0,x0,.bool g1,x1]] m Q:=mB (jA 93) h
def w94(h:wp 94 (t94 i0) m Q):Wf 94 [uZ i0] m Q:=mB (jA 94) h
def w95(h:wp 95 (t95 i0) m Q):Wf 95 [uZ i0] m Q:=mB (jA 95) h
def w105(h:wp 105 (t105 ) m Q):Wf 105 [] m Q:=mB (jA 105) h
def w107(h:wp 107 (t107 l0) m Q):Wf 107 [.str l0] m Q:=mB (jA 107) h
def w118(h:wp 118 (t118 x0 g0) m Q):Wf 118 [.agg [.bool g0,x0]] m Q:=mB (jA 118) h
def j118_2(h:wp 118 (Zj l0 x0 x1 g0) m Q):jp 118 2 [x0,.str l0,.bool g0,x1] m Q:=iC (jA 118) h
def w119(h:wp 119 (t119 i0) m Q):Wf 119 [uZ i0] m Q:=mB (jA 119) h
def j119_9(h:wp 119 (Zi i0 i1 x0 g0) m Q):jp 119 9 [uZ i0,.int .u64 i1,.bool g0,x0] m Q:=iC (jA 119) h
def zci(h:wp 119 (Qy i0 i1 x0 x1 g0) m Q):jp 119 2 [uZ i0,.int .u64 i1,x0,.bool g0,x1] m Q:=iC (jA 119) h
def w120(h:wp 120 (t120 i0) m Q):Wf 120 [uZ i0] m Q:=mB (jA 120) h
def Uj(h:wp 120 (Jt i0 i1 i2) m Q):jp 120 2 [uZ i0,uZ i1,uZ i2] m Q:=iC (jA 120) h
def w121(h:wp 121 (t121 i0 i1) m Q):Wf 121 [uZ i0,uZ i1] m Q:=mB (jA 121) h
def zch(h:wp 121 (Qx i0 i1 i2 l0) m Q):jp 121 2 [uZ i0,uZ i1,.str l0,uZ i2] m Q:=iC (jA 121) h
def w122(h:wp 122 (t122 x0 x1 g0 g1) m Q):Wf 122 [.agg [.bool g0,x0,.bool g1,x1]] m Q:=mB (jA 122) h
def w123(h:wp 123 (t123 i0) m Q):Wf 123 [uY i0] m Q:=mB (jA 123) h
def w124(h:wp 124 (t124 i0 l0) m Q):Wf 124 [.str l0,uZ i0] m Q:=mB (jA 124) h
def zcg(h:wp 124 (Qw i0 l0) m Q):jp 124 2 [.str l0,uZ i0] m Q:=iC (jA 124) h
def w125(h:wp 125 (t125 l0) m Q):Wf 125 [.str l0] m Q:=mB (jA 125) h
def zcf(h:wp 125 (Qv i0 l0 x0) m Q):jp 125 2 [.str l0,x0,uZ i0] m Q:=iC (jA 125) h
def w134(h:wp 134 (t134 x0 x1 g0 g1) m Q):Wf 134 [.agg [.bool g0,x0,.bool g1,x1]] m Q:=mB (jA 134) h
def w135(h:wp 135 (t135 i0 i1) m Q):Wf 135 [uZ i0,uZ i1] m Q:=mB (jA 135) h
def w136(h:wp 136 (t136 i0 i1 x0 x1 g0 g1) m Q):Wf 136 [.agg [uY i0,.bool g0,x0,.bool g1,x1,uZ i1]] m Q:=mB (jA 136) h
def w137(h:wp 137 (t137 i0 i1 i2 l0 x0 x1 x2 x3 g0 g1) m Q):Wf 137 [x0,.agg [uY i0,.str l0,uY i1,.bool g0,x1,.bool g1,x2,uZ i2,x3]] m Q:=mB (jA 137) h
def w139(h:wp 139 (t139 i0) m Q):Wf 139 [uY i0] m Q:=mB (jA 139) h
def w140(h:wp 140 (t140 i0) m Q):Wf 140 [uY i0] m Q:=mB (jA 140) h
def w141(h:wp 141 (t141 i0 i1 i2 i3 l0 x0 x1 x2 g0 g1) m Q):Wf 141 [.agg [uY i0,.str l0,uY i1,.bool g0,x0,.bool g1,x1,uZ i2,x2],uZ i3] m Q:=mB (jA 141) h
def w142(h:wp 142 (t142 i0) m Q):Wf 142 [.agg [uY i0,.str l0,uY i1,.bool g0,x0,.bool g1,x1,uZ i2,x2]] m Q:=mB (jA 142) h
def w143(h:wp 143 (t143 i0) m Q):Wf 143 [uY i0] m Q:=mB (jA 143) h
def w144(h:wp 144 (t144 i0 i1 i2 i3 x0 x1 x2 x3 g0 g1 g2 g3) m Q):Wf 144 [.agg [uY i0,.bool g0,x0,.bool g1,x1,uZ i1],.agg [uY i2,.bool g2,x2,.bool g3,x3,uZ i3]] m Q:=mB (jA 144) h
def w145(h:wp 145 (t145 x0 x1) m Q):Wf 145 [x0,x1] m Q:=mB (jA 145) h
def j145_2(h:wp 145 (t145_2 i0 x0 x1) m Q):jp 145 2 [x0,x1,uZ i0] m Q:=iC (jA 145) h
def w146(h:wp 146 (t146 x0 x1 x2 x3 g0 g1 g2 g3) m Q):Wf 146 [.agg [.bool g0,x0,.bool g1,x1],.agg [.bool g2,x2,.bool g3,x3]] m Q:=mB (jA 146) h
def w149(h:wp 149 (t149 i0 l0) m Q):Wf 149 [.str l0,uZ i0] m Q:=mB (jA 149) h
def w157(h:wp 157 (t157 x0 x1 g0 g1) m Q):Wf 157 [.agg [.bool g0,x0,.bool g1,x1]] m Q:=mB (jA 157) h
def w158(h:wp 158 (t158 x0 x1 g0 g1) m Q):Wf 158 [.agg [.bool g0,x0,.bool g1,x1]] m Q:=mB (jA 158) h
def w159(h:wp 159 (t159 l0 l1) m Q):Wf 159 [.str l0,.str l1] m Q:=mB (jA 159) h
def w160(h:wp 160 (t160 g0) m Q):Wf 160 [.bool g0] m Q:=mB (jA 160) h
def w161(h:wp 161 (t161 l0) m Q):Wf 161 [.str l0] m Q:=mB (jA 161) h
def w162(h:wp 162 (t162 i0) m Q):Wf 162 [uZ i0] m Q:=mB (jA 162) h
def w163(h:wp 163 (t163 i0 i1 i2 i3 i4 i5 i6 i7 i8 i9 j0 j1 j2) m Q):Wf 163 [.agg [uY i0,uY i1,uY i2,uY i3,uY i4,uY i5,uY i6,uY i7,uY i8,uY i9],uZ j0,uZ j1,uZ j2] m Q:=mB (jA 163) h
def zce(h:wp 163 (t163_2 i0 i1 i2 i3 i4 i5 i6 i7 i8 i9 j0 j1 j2 x0) m Q):jp 163 2 [uZ i0,uZ i1,x0,uZ i2,uY i3,uY i4,uY i5,uY i6,uY i7,uY i8,uY i9,uY j0,uY j1,uY j2] m Q:=iC (jA 163) h
def w166(h:wp 166 (t166 i0 i1 l0 g0) m Q):Wf 166 [.str l0,.bool g0,uZ i0,uZ i1] m Q:=mB (jA 166) h
def w167(h:wp 167 (t167 l0) m Q):Wf 167 [.str l0] m Q:=mB (jA 167) h
def w168(h:wp 168 (t168 i0 i1 i2 l0) m Q):Wf 168 [.str l0,uZ i0,uZ i1,uZ i2] m Q:=mB (jA 168) h
def w169(h:wp 169 (t169 i0) m Q):Wf 169 [uY i0] m Q:=mB (jA 169) h
def w170(h:wp 170 (t170 l0 x0) m Q):Wf 170 [.str l0,x0] m Q:=mB (jA 170) h
def zcd(h:wp 170 (Qu i0 l0 x0) m Q):jp 170 2 [.str l0,x0,uZ i0] m Q:=iC (jA 170) h
def w171(h:wp 171 (t171 i0) m Q):Wf 171 [uY i0] m Q:=mB (jA 171) h
def w172(h:wp 172 (t172 l0) m Q):Wf 172 [.str l0] m Q:=mB (jA 172) h
def w177(h:wp 177 (t177 i0 i1) m Q):Wf 177 [uZ i0,uZ i1] m Q:=mB (jA 177) h
def w179(h:wp 179 (t179 x0 g0) m Q):Wf 179 [.agg [.bool g0,x0]] m Q:=mB (jA 179) h
def w180(h:wp 180 (t180 x0) m Q):Wf 180 [x0] m Q:=mB (jA 180) h
def w181(h:wp 181 (t181 x0 g0) m Q):Wf 181 [.bool g0,x0] m Q:=mB (jA 181) h
def w182(h:wp 182 (t182 i0 i1) m Q):Wf 182 [uZ i0,uZ i1] m Q:=mB (jA 182) h
def w183(h:wp 183 (t183 x0 x1 g0 g1) m Q):Wf 183 [.agg [.bool g0,x0,.bool g1,x1]] m Q:=mB (jA 183) h
def w184(h:wp 184 (t184 x0) m Q):Wf 184 [x0] m Q:=mB (jA 184) h
def w185(h:wp 185 (t185 i0) m Q):Wf 185 [uY i0] m Q:=mB (jA 185) h
def w186(h:wp 186 (t186 ) m Q):Wf 186 [] m Q:=mB (jA 186) h
def w189(h:wp 189 (t189 x0 g0) m Q):Wf 189 [.agg [.bool g0,x0]] m Q:=mB (jA 189) h
def w190(h:wp 190 (t190 i0 i1 i2 i3 l0 x0 x1 x2 x3 g0 g1) m Q):Wf 190 [x0,.agg [uY i0,.str l0,uY i1,.bool g0,x1,.bool g1,x2,uZ i2,x3],uZ i3] m Q:=mB (jA 190) h
def w191(h:wp 191 (t191 i0 i1 i2 l0 x0 x1 x2 x3 x4 g0 g1) m Q):Wf 191 [x0,.agg [uY i0,.str l0,uY i1,.bool g0,x1,.bool g1,x2,uZ i2,x3],x4] m Q:=mB (jA 191) h
def j191_9(h:wp 191 (Zh i0 i1 i2 l0 x0 x1 x2 x3 g0 g1) m Q):jp 191 9 [x0,uY i0,.str l0,uY i1,.bool g0,x1,.bool g1,x2,uZ i2,x3] m Q:=iC (jA 191) h
def zcc(h:wp 191 (Qt i0 i1 i2 i3 i4 l0 x0 x1 x2 x3 x4 g0 g1) m Q):jp 191 2 [x0,x1,uZ i0,uZ i1,uY i2,.str l0,uY i3,.bool g0,x2,.bool g1,x3,uZ i4,x4] m Q:=iC (jA 191) h
def w192(h:wp 192 (t192 x0 x1 x2 x3 g0 g1 g2 g3) m Q):Wf 192 [.agg [.bool g0,x0,.bool g1,x1],.agg [.bool g2,x2,.bool g3,x3]] m Q:=mB (jA 192) h
def w193(h:wp 193 (t193 x0 x1 g0 g1) m Q):Wf 193 [.agg [.bool g0,x0],.agg [.bool g1,x1]] m Q:=mB (jA 193) h
def w197(h:wp 197 (t197 i0) m Q):Wf 197 [uY i0] m Q:=mB (jA 197) h
def w201(h:wp 201 (t201 x0 x1) m Q):Wf 201 [x0,x1] m Q:=mB (jA 201) h
def zcb(h:wp 201 (Qs i0 i1 x0 x1 x2) m Q):jp 201 2 [x0,x1,x2,uZ i0,uZ i1] m Q:=iC (jA 201) h
def zd2(h:wp 201 (Zg i0 i1 x0 x1 x2) m Q):jp 201 17 [x0,x1,x2,uZ i0,uZ i1] m Q:=iC (jA 201) h
def zd1(h:wp 201 (Zf i0 i1 x0 x1 x2) m Q):jp 201 21 [x0,x1,x2,uZ i0,uZ i1] m Q:=iC (jA 201) h
def w203(h:wp 203 (t203 x0) m Q):Wf 203 [x0] m Q:=mB (jA 203) h
def Ui(h:wp 203 (Js i0 x0) m Q):jp 203 2 [x0,uZ i0] m Q:=iC (jA 203) h
def w210(h:wp 210 (t210 x0 x1 g0 g1) m Q):Wf 210 [.agg [.bool g0,x0,.bool g1,x1]] m Q:=mB (jA 210) h
def w211(h:wp 211 (t211 x0 g0) m Q):Wf 211 [.agg [.bool g0,x0]] m Q:=mB (jA 211) h
def zca(h:wp 211 (Qq i0 l0 x0 x1 x2 g0) m Q):jp 211 2 [.str l0,uZ i0,x0,x1,.bool g0,x2] m Q:=iC (jA 211) h
def zd0(h:wp 211 (Ze i0 l0 x0 x1) m Q):jp 211 29 [.str l0,uZ i0,x0,x1] m Q:=iC (jA 211) h
def j211_6(h:wp 211 (Zd i0 x0) m Q):jp 211 6 [x0,.int .u32 i0] m Q:=iC (jA 211) h
def GI(h:wp 211 (Qr i0 i1 l0 x0) m Q):jp 211 10 [x0,.str l0,uZ i0,uZ i1] m Q:=iC (jA 211) h
def w212(h:wp 212 (t212 x1 g1) m Q):Wf 212 [.agg [.bool g0,x0,.bool g1,x1]] m Q:=mB (jA 212) h
def w213(h:wp 213 (t213 l0 l1) m Q):Wf 213 [.str l0,.str l1] m Q:=mB (jA 213) h
def w214(h:wp 214 (t214 l0 l1) m Q):Wf 214 [.str l0,.str l1] m Q:=mB (jA 214) h
def w215(h:wp 215 (t215 i0) m Q):Wf 215 [uZ i0] m Q:=mB (jA 215) h
def w216(h:wp 216 (t216 i0) m Q):Wf 216 [uZ i0] m Q:=mB (jA 216) h
def w217(h:wp 217 (t217 i0) m Q):Wf 217 [uZ i0] m Q:=mB (jA 217) h
def Uh(h:wp 217 (t217_2 i0 i1 i2 i3) m Q):jp 217 2 [uZ i0,uZ i1,uZ i2,uZ i3] m Q:=iC (jA 217) h
def w219(h:wp 219 (t219 i0) m Q):Wf 219 [uY i0] m Q:=mB (jA 219) h
def w223(h:wp 223 (t223 i0 x0) m Q):Wf 223 [x0,uZ i0] m Q:=mB (jA 223) h
def zb9(h:wp 223 (Qp i0 i1 i2 x0 x1) m Q):jp 223 2 [x0,uZ i0,x1,uZ i1,uZ i2] m Q:=iC (jA 223) h
def w224(h:wp 224 (t224 i0) m Q):Wf 224 [uZ i0] m Q:=mB (jA 224) h
def w225(h:wp 225 (t225 x0 x1) m Q):Wf 225 [.agg [.bool g0,x0,.bool g1,x1]] m Q:=mB (jA 225) h
def w226(h:wp 226 (t226 x0 x1) m Q):Wf 226 [x0,x1] m Q:=mB (jA 226) h
def j226_2(h:wp 226 (Zc x0 x1) m Q):jp 226 2 [x0,x1] m Q:=iC (jA 226) h
def w229(h:wp 229 (t229 x0) m Q):Wf 229 [x0] m Q:=mB (jA 229) h
def zb8(h:wp 229 (Qo i0 x0 x1) m Q):jp 229 2 [x0,x1,uZ i0] m Q:=iC (jA 229) h
def w230(h:wp 230 (t230 i0) m Q):Wf 230 [uY i0] m Q:=mB (jA 230) h
def w231(h:wp 231 (t231 x0 x1 g0 g1) m Q):Wf 231 [.agg [.bool g0,x0],.agg [.bool g1,x1]] m Q:=mB (jA 231) h
def w232(h:wp 232 (t232 x0 x1) m Q):Wf 232 [x0,x1] m Q:=mB (jA 232) h
def zb7(h:wp 232 (Qn i0 x0 x1) m Q):jp 232 2 [x0,x1,uZ i0] m Q:=iC (jA 232) h
def w235(h:wp 235 (t235 x0 x1) m Q):Wf 235 [x0,x1] m Q:=mB (jA 235) h
def zb6(h:wp 235 (Ql i0 x0 x1 x2) m Q):jp 235 2 [x0,x1,uZ i0,x2] m Q:=iC (jA 235) h
def zb5(h:wp 235 (Qk i0 i1 x0 x1) m Q):jp 235 6 [x0,uZ i0,x1,uZ i1] m Q:=iC (jA 235) h
def GH(h:wp 235 (Qm i0 i1 x0 x1 x2) m Q):jp 235 10 [uZ i0,x0,x1,x2,uZ i1] m Q:=iC (jA 235) h
def w236(h:wp 236 (t236 x0 x1) m Q):Wf 236 [.agg [.bool g0,x0,.bool g1,x1]] m Q:=mB (jA 236) h
def w237(h:wp 237 (t237 x0 g0) m Q):Wf 237 [.agg [.bool g0,x0]] m Q:=mB (jA 237) h
def w238(h:wp 238 (t238 x0 g0) m Q):Wf 238 [.agg [.bool g0,x0]] m Q:=mB (jA 238) h
def w239(h:wp 239 (t239 x0 x1 g0 g1) m Q):Wf 239 [.agg [.bool g0,x0],.agg [.bool g1,x1]] m Q:=mB (jA 239) h
def w240(h:wp 240 (t240 x0) m Q):Wf 240 [x0] m Q:=mB (jA 240) h
def zb4(h:wp 240 (Qj i0 i1 x0 x1) m Q):jp 240 2 [x0,x1,uZ i0,uZ i1] m Q:=iC (jA 240) h
def w241(h:wp 241 (t241 i0 x0) m Q):Wf 241 [x0,.int .u32 i0] m Q:=mB (jA 241) h
def zb3(h:wp 241 (Qi i0 i1 i2 x0 x1) m Q):jp 241 2 [x0,.int .u32 i0,x1,.int .u32 i1,uZ i2] m Q:=iC (jA 241) h
def w242(h:wp 242 (t242 x0) m Q):Wf 242 [x0] m Q:=mB (jA 242) h
def w244(h:wp 244 (t244 l0 l1) m Q):Wf 244 [.str l0,.str l1] m Q:=mB (jA 244) h
def w245(h:wp 245 (t245 l0 l1) m Q):Wf 245 [.str l0,.str l1] m Q:=mB (jA 245) h
def w246(h:wp 246 (t246 i0 x0) m Q):Wf 246 [uZ i0,x0] m Q:=mB (jA 246) h
def Ug(h:wp 246 (t246_2 i0 i1 x0) m Q):jp 246 2 [x0,uZ i0,uZ i1] m Q:=iC (jA 246) h
def w247(h:wp 247 (t247 i0 x0) m Q):Wf 247 [uZ i0,x0] m Q:=mB (jA 247) h
def w248(h:wp 248 (t248 i0) m Q):Wf 248 [uZ i0] m Q:=mB (jA 248) h
def w249(h:wp 249 (t249 i0 i1) m Q):Wf 249 [uZ i0,uZ i1] m Q:=mB (jA 249) h
def w252(h:wp 252 (t252 i0 i1) m Q):Wf 252 [uZ i0,uZ i1] m Q:=mB (jA 252) h
def w253(h:wp 253 (t253 x0 x1) m Q):Wf 253 [x0,x1] m Q:=mB (jA 253) h
def zb2(h:wp 253 (Qh i0 x0 x1) m Q):jp 253 2 [x0,x1,uZ i0] m Q:=iC (jA 253) h
def w255(h:wp 255 (t255 x0 x1) m Q):Wf 255 [x0,x1] m Q:=mB (jA 255) h
def zb1(h:wp 255 (Qg i0 x0 x1) m Q):jp 255 2 [x0,x1,uZ i0] m Q:=iC (jA 255) h
def w256(h:wp 256 (t256 x0) m Q):Wf 256 [x0] m Q:=mB (jA 256) h
def zb0(h:wp 256 (Qf i0 i1 x0 x1) m Q):jp 256 2 [x0,x1,uZ i0,uZ i1] m Q:=iC (jA 256) h
def w257(h:wp 257 (t257 x0 x1) m Q):Wf 257 [x0,x1] m Q:=mB (jA 257) h
def zbz(h:wp 257 (Qe i0 i1 x0 x1 x2) m Q):jp 257 2 [x0,x1,x2,uZ i0,uZ i1] m Q:=iC (jA 257) h
def zdz(h:wp 257 (Zb i0 i1 x0 x1 x2) m Q):jp 257 19 [x0,x1,x2,uZ i0,uZ i1] m Q:=iC (jA 257) h
def w258(h:wp 258 (t258 x0 x1 g0 g1) m Q):Wf 258 [.agg [.bool g0,x0],.agg [.bool g1,x1]] m Q:=mB (jA 258) h
def w259(h:wp 259 (t259 i0 i1 i2) m Q):Wf 259 [.int .u32 i0,.int .u32 i1,.int .u32 i2] m Q:=mB (jA 259) h
def j259_7(h:wp 259 (Za i0 i1 i2) m Q):jp 259 7 [.int .u32 i0,.int .u32 i1,.int .u32 i2] m Q:=iC (jA 259) h
def w260(h:wp 260 (t260 x0) m Q):Wf 260 [x0] m Q:=mB (jA 260) h
def Uf(h:wp 260 (Jr x0) m Q):jp 260 2 [x0] m Q:=iC (jA 260) h
def w261(h:wp 261 (t261 x0 x1) m Q):Wf 261 [x0,x1] m Q:=mB (jA 261) h
def zby(h:wp 261 (Qc i0 x0 x1) m Q):jp 261 2 [x0,x1,uZ i0] m Q:=iC (jA 261) h
def w263(h:wp 263 (t263 i0) m Q):Wf 263 [uZ i0] m Q:=mB (jA 263) h
def w270(h:wp 270 (t270 x0) m Q):Wf 270 [x0] m Q:=mB (jA 270) h
def zbx(h:wp 270 (Qb i0 i1 x0) m Q):jp 270 2 [x0,uZ i0,uZ i1] m Q:=iC (jA 270) h
def w271(h:wp 271 (t271 x0 g0) m Q):Wf 271 [.bool g0,x0] m Q:=mB (jA 271) h
def zbw(h:wp 271 (Qa i0 i1 x0 x1 x2 g0 g1) m Q):jp 271 2 [.bool g0,x0,x1,uZ i0,uZ i1,.bool g1,x2] m Q:=iC (jA 271) h
def w272(h:wp 272 (t272 x0 x1) m Q):Wf 272 [x0,x1] m Q:=mB (jA 272) h
def j272_2(h:wp 272 (Yz x0 x1) m Q):jp 272 2 [x0,x1] m Q:=iC (jA 272) h
def zdy(h:wp 272 (Yy x0 x1) m Q):jp 272 33 [x0,x1] m Q:=iC (jA 272) h
def j272_6(h:wp 272 (Yx i0 i1) m Q):jp 272 6 [.int .u64 i0,.int .u64 i1] m Q:=iC (jA 272) h
def w283(h:wp 283 (t283 x0 x1) m Q):Wf 283 [x0,x1] m Q:=mB (jA 283) h
def zbv(h:wp 283 (Pz i0 x0 x1) m Q):jp 283 2 [x0,x1,uZ i0] m Q:=iC (jA 283) h
def w284(h:wp 284 (t284 x0 x1) m Q):Wf 284 [x0,x1] m Q:=mB (jA 284) h
def j284_2(h:wp 284 (Yw i0 i1 i2 i3 i4 i5 i6 i7 i8 i9 j0 j1 g0 g1) m Q):jp 284 2 [.int .u64 i0,.int .u64 i1,.int .u64 i2,.int .u64 i3,.int .u64 i4,.int .u64 i5,.int .u64 i6,.int .u64 i7,.bool g0,.int .u64 i8,.int .u64 i9,.int .u64 j0,.int .u64 j1,.bool g1] m Q:=iC (jA 284) h
def w285(h:wp 285 (t285 x0 x1) m Q):Wf 285 [x0,x1] m Q:=mB (jA 285) h
def zbu(h:wp 285 (Py i0 i1 i2 x0 x1 x2) m Q):jp 285 2 [uZ i0,uZ i1,x0,x1,x2,uZ i2] m Q:=iC (jA 285) h
def zbt(h:wp 285 (Px i0 i1 i2 i3 x0 x1) m Q):jp 285 6 [uZ i0,uZ i1,x0,x1,uZ i2,uZ i3] m Q:=iC (jA 285) h
def w286(h:wp 286 (t286 i0 i1 x0 x1) m Q):Wf 286 [.int .u64 i0,x0,.int .u64 i1,x1] m Q:=mB (jA 286) h
def zbs(h:wp 286 (Pw i0 i1 i2 i3 i4 i5 i6 x0 x1 x2) m Q):jp 286 2 [.int .u64 i0,x0,.int .u64 i1,x1,x2,.int .u64 i2,.int .u64 i3,.int .u32 i4,uZ i5,uZ i6] m Q:=iC (jA 286) h
def zdx(h:wp 286 (Yv i0 i1 i2 i3 i4 i5 i6 i7 x0 x1 x2) m Q):jp 286 17 [.int .u64 i0,x0,.int .u64 i1,x1,x2,.int .u64 i2,.int .u64 i3,.int .u32 i4,uZ i5,uZ i6,uZ i7] m Q:=iC (jA 286) h
def zdw(h:wp 286 (Yu i0 i1 i2 i3 i4 i5 i6 i7 x0 x1 x2) m Q):jp 286 21 [.int .u64 i0,x0,.int .u64 i1,x1,x2,.int .u64 i2,.int .u64 i3,.int .u32 i4,uZ i5,uZ i6,uZ i7] m Q:=iC (jA 286) h
def w287(h:wp 287 (t287 x0) m Q):Wf 287 [x0] m Q:=mB (jA 287) h
def j287_2(h:wp 287 (Yt i0 x0) m Q):jp 287 2 [x0,.int .u32 i0] m Q:=iC (jA 287) h
def w288(h:wp 288 (t288 i0) m Q):Wf 288 [.int .u64 i0] m Q:=mB (jA 288) h
def w294(h:wp 294 (t294 i0) m Q):Wf 294 [.int .u32 i0] m Q:=mB (jA 294) h
def w295(h:wp 295 (t295 i0 i1 x0) m Q):Wf 295 [x0,uZ i0,uZ i1] m Q:=mB (jA 295) h
def w296(h:wp 296 (t296 x0) m Q):Wf 296 [x0] m Q:=mB (jA 296) h
def w297(h:wp 297 (t297 i0 x0) m Q):Wf 297 [x0,uZ i0] m Q:=mB (jA 297) h
def zbr(h:wp 297 (Pv i0 i1 i2 x0 x1) m Q):jp 297 2 [uZ i0,x0,x1,uZ i1,uZ i2] m Q:=iC (jA 297) h
def w298(h:wp 298 (t298 x0 x1) m Q):Wf 298 [x0,x1] m Q:=mB (jA 298) h
def zbq(h:wp 298 (Pt i0 i1 i2 i3 x0 x1) m Q):jp 298 2 [x0,x1,uZ i0,.int .u64 i1,.int .u64 i2,.int .u64 i3] m Q:=iC (jA 298) h
def zdv(h:wp 298 (Ys i0 i1 x0 x1) m Q):jp 298 19 [x0,x1,uZ i0,.int .u64 i1] m Q:=iC (jA 298) h
def zbp(h:wp 298 (Ps i0 i1 i2 i3 i4 i5 x0 x1 x2) m Q):jp 298 6 [x0,x1,uZ i0,.int .u64 i1,.int .u64 i2,.int .u64 i3,x2,uZ i4,uZ i5] m Q:=iC (jA 298) h
def GG(h:wp 298 (Pu i0 i1 i2 i3 i4 x0 x1) m Q):jp 298 10 [x0,uZ i0,.int .u64 i1,.int .u32 i2,x1,uZ i3,uZ i4] m Q:=iC (jA 298) h
def w299(h:wp 299 (t299 i0 i1 i2) m Q):Wf 299 [.int .u32 i0,.int .u32 i1,.int .u32 i2] m Q:=mB (jA 299) h
def w301(h:wp 301 (t301 i0) m Q):Wf 301 [.int .u32 i0] m Q:=mB (jA 301) h
def zbo(h:wp 301 (Pr i0 i1) m Q):jp 301 9 [.int .u32 i0,uZ i1] m Q:=iC (jA 301) h
def zdu(h:wp 301 (Yr i0 i1) m Q):jp 301 15 [.int .u32 i0,uZ i1] m Q:=iC (jA 301) h
def w302(h:wp 302 (t302 i0 x0) m Q):Wf 302 [uZ i0,x0] m Q:=mB (jA 302) h
def w303(h:wp 303 (t303 i0 i1 i2) m Q):Wf 303 [.int .u32 i0,.int .u32 i1,.int .u32 i2] m Q:=mB (jA 303) h
end Go.Proofs
