/- The trees of functions. (Printed by a tool; the kernel agrees.) -/
import Derived.Test.YtmmedgeabnpnhaaGreatDoorB17
set_option linter.all false
noncomputable section
set_option maxRecDepth 100000
namespace Go.Proofs
open Go Go.Am
variable [kC]{m:Tr sA}{Q:wC}
abbrev xK:List zA:=[.int .u8 0,.str [],.int .u8 0,.bool false,.nilslice,.bool false,.nilslice,.int .i64 0,.nilslice]
abbrev gJ:List zA:=[.int .u8 0,.str [],.bool false,.int .i64 0,.int .i64 0,.int .i64 0,.int .i64 0,.int .i64 0]
abbrev xN:List zA:=[.str [],.str [],.int .i64 0,.int .i64 0,.int .i64 0,.bool false,.int .u8 0,.str [],.int .u8 0,.bool false,.nilslice,.bool false,.nilslice,.int .i64 0,.nilslice,.int .u8 0,.str [],.int .u8 0,.bool false,.nilslice,.bool false,.nilslice,.int .i64 0,.nilslice]
abbrev wO:List zA:=[.str [],.bool false,.nilslice]
abbrev xO:List zA:=[.int .i64 0,.int .i64 0,.int .i64 0,.bool false,.nilslice,.bool false,.nilslice]
abbrev xT:List zA:=[.str [],.int .u8 0,.bool false]
abbrev mZ:List zA:=[.bool false,.nilslice]
abbrev Bs:List zA:=[.int .u8 0,.int .u8 0,.int .u8 0,.int .u8 0,.int .u8 0,.int .u8 0,.int .u8 0,.int .u8 0,.int .u8 0,.int .u8 0]
abbrev zz8z:List zA:=[.bool false,.nilslice,.bool false,.nilslice]
def xB{f kf:Nat}{fn:Func}{A:eF}{x:List zA}{T:T}(h:zO yA F f fn kf A)(k:lA yA.base (Wq yA F gE) (Jq yA F f) T m Q)(h1:(Nat.ble (kB x) kf&&Nat.ble (kB x) fn.ntmps)=true:=by kernel_rfl)(h2:entT yA fn kf f A x=T:=by kernel_rfl):Wc yA F f x m Q:=zj7 h h1 (by rw[h2];exact k)
def vC{f kf i:Nat}{fn:Func}{A:eF}{x:List zA}{T:T}(h:zO yA F f fn kf A)(k:lA yA.base (Wq yA F gE) (Jq yA F f) T m Q)(h2:Jy (ptsT yA fn kf f A) i x=[T]:=by kernel_rfl):Jq yA F f i x m Q:=Jq_of1 h h2 k
def uI (k:Int->T)(a:zA):T:=.asI .i64 a k
def uU (k:Int->T)(a:zA):T:=.asI .u8 a k
def uL (k:Int->T)(a:zA):T:=.asI .u32 a k
def uE (k:Int->T)(a:zA):T:=.asI .u64 a k
def uH (k:Int->T)(a:zA):T:=.asI .u16 a k
def uB (k:Bool->T)(a:zA):T:=.asB a k
def uS (k:List Nat->T)(a:zA):T:=.asS a k
def uG (z:List zA)(k:kG->T)(a:zA):T:=.asG z a k
def mC (l:List zA):Bool:=nE zA.one l
abbrev qB(i:Int):zA:=.int .i64 (iA .i64 (i+1))
def jA:T:=.ret (.bool false)
def cD:T:=.ret (.bool true)
def aE (v:zA):Option zA:=Eo v
def uX (n:Nat)(v:zA):Option zA:=eJ n v
abbrev uZ(n:Int):zA:=.int .i64 n
abbrev uY(n:Int):zA:=.int .u8 n
abbrev uW(n:Int):Int:=iA .i64 n
def uM0 (X:kG):List zA:=[.int .u8 (X.i 0),.str (X.s 1),.int .u8 (X.i 2),.bool (X.b 3),X.v 4,.bool (X.b 5),X.v 6,.int .i64 (X.i 7),X.v 8]
def aG (X:kG):zA:=.agg [.int .u8 (X.i 0),.str (X.s 1),.int .u8 (X.i 2),.bool (X.b 3),X.v 4,.bool (X.b 5),X.v 6,.int .i64 (X.i 7),X.v 8]
def uM1 (X:kG):List zA:=[.str (X.s 0),.str (X.s 1),.int .i64 (X.i 2),.int .i64 (X.i 3),.int .i64 (X.i 4),.bool (X.b 5),.int .u8 (X.i 6),.str (X.s 7),.int .u8 (X.i 8),.bool (X.b 9),X.v 10,.bool (X.b 11),X.v 12,.int .i64 (X.i 13),X.v 14,.int .u8 (X.i 15),.str (X.s 16),.int .u8 (X.i 17),.bool (X.b 18),X.v 19,.bool (X.b 20),X.v 21,.int .i64 (X.i 22),X.v 23]
def wK (X:kG):zA:=.agg [.str (X.s 0),.str (X.s 1),.int .i64 (X.i 2),.int .i64 (X.i 3),.int .i64 (X.i 4),.bool (X.b 5),.int .u8 (X.i 6),.str (X.s 7),.int .u8 (X.i 8),.bool (X.b 9),X.v 10,.bool (X.b 11),X.v 12,.int .i64 (X.i 13),X.v 14,.int .u8 (X.i 15),.str (X.s 16),.int .u8 (X.i 17),.bool (X.b 18),X.v 19,.bool (X.b 20),X.v 21,.int .i64 (X.i 22),X.v 23]
def uM2 (X:kG):List zA:=[.int .i64 (X.i 0),.int .i64 (X.i 1),.int .i64 (X.i 2),.bool (X.b 3),X.v 4,.bool (X.b 5),X.v 6]
def dL (X:kG):zA:=.agg [.int .i64 (X.i 0),.int .i64 (X.i 1),.int .i64 (X.i 2),.bool (X.b 3),X.v 4,.bool (X.b 5),X.v 6]
def uM3 (X:kG):List zA:=[.str (X.s 0),.bool (X.b 1),X.v 2]
def uN (X:kG):zA:=.agg [.str (X.s 0),.bool (X.b 1),X.v 2]
def pP (X:kG):List zA:=[.bool (X.b 0),X.v 1]
def nP (X:kG):zA:=.agg [.bool (X.b 0),X.v 1]
def oP (X:kG):zA:=.agg [.str (X.s 0),.int .u8 (X.i 1),.bool (X.b 2)]
def uA6 (X:kG):zA:=.agg [.int .u8 (X.i 0),.int .u8 (X.i 1),.int .u8 (X.i 2),.int .u8 (X.i 3),.int .u8 (X.i 4),.int .u8 (X.i 5),.int .u8 (X.i 6),.int .u8 (X.i 7),.int .u8 (X.i 8),.int .u8 (X.i 9)]
def uM7 (X:kG):List zA:=[.str (X.s 0),X.v 1,X.v 2,X.v 3]
def uA7 (X:kG):zA:=.agg [.str (X.s 0),X.v 1,X.v 2,X.v 3]
def uM8 (X:kG):List zA:=[.bool (X.b 0),X.v 1,.bool (X.b 2),X.v 3]
def uA8 (X:kG):zA:=.agg [.bool (X.b 0),X.v 1,.bool (X.b 2),X.v 3]
def uQ9 (i1:Int)(i0:Int):T :=.ite (zB i1 2) (.call 224 [uZ i0]<|uB fun b=>.ite b (.ret (uZ 29)) (.ret (uZ 28))) (.ret (uZ 0))
def uQ1 (i1:Int)(i0:Int):T :=.ite (zB i1 4) (.ite (zB i1 4) (.ret (uZ 30)) (uQ9 i1 i0)) (.ite (zB i1 6) (.ite (zB i1 6) (.ret (uZ 30)) (uQ9 i1 i0)) (.ite (zB i1 9) (.ite (zB i1 9) (.ret (uZ 30)) (uQ9 i1 i0)) (.ite (zB i1 11) (.ret (uZ 30)) (uQ9 i1 i0))))
def uQ3 (i1:Int)(g0:Bool)(x1:zA)(g1:Bool)(x2:zA)(i2:Int)(i0:Int)(i3:Int)(x0:zA)(l0:List Nat)(x3:zA):T :=.ite (mC [uY i1,.bool g0,x1,.bool g1,x2,uZ i2]) (.ite (zB i0 1) (.call 39 [.agg [uY i1,.bool g0,x1,.bool g1,x2,uZ i2]]<|uB fun b=>.ret (.bool b)) (.ite (zB i0 19) (.ite (lB i2 1) jA (.ite (lB 6 i2) jA (.ite true (.jump 33 [uZ i3,x0,uY i0,.str l0,uY i1,.bool g0,x1,.bool g1,x2,uZ i2,x3,uY i1,.bool g0,x1,.bool g1,x2,uZ 0]) .fail))) (.jump 33 [uZ i3,x0,uY i0,.str l0,uY i1,.bool g0,x1,.bool g1,x2,uZ i2,x3,uY i1,.bool g0,x1,.bool g1,x2,uZ i2]))) .fail
def uQ4 (i0:Int)(g0:Bool)(x0:zA)(g1:Bool)(x1:zA)(i1:Int):T :=.ite (zB i0 1) (.call 90 [.agg [.bool g0,x0,.bool g1,x1]]<|uB fun b=>.ite b (.ite (zB i1 0) cD (.ret (.bool (zB i1 1)))) jA) (.ite (zB i0 4) (.call 90 [.agg [.bool g0,x0,.bool g1,x1]]<|uB fun b=>.ite b (.call 91 [uZ i1]<|uB fun b=>.ret (.bool b)) jA) (.ite (zB i0 5) (.ite (zB i0 5) (.call 90 [.agg [.bool g0,x0,.bool g1,x1]]<|uB fun b=>.ite b (.ite (qC (-1048576) i1) (.ret (.bool (qC i1 1048576))) jA) jA) jA) (.ite (zB i0 6) (.call 90 [.agg [.bool g0,x0,.bool g1,x1]]<|uB fun b=>.ite b (.ite (qC (-1048576) i1) (.ret (.bool (qC i1 1048576))) jA) jA) jA)))
def uQ7 (x0:zA)(i1:Int)(x1:zA)(x2:zA)(i0:Int):T :=.opt (aA x0)<|uI fun n=>.ite (lB i1 n) (.opt (rB yA 30 x0 (uZ i1)) fun a=>.light (fun m=>dA yA 72 ⟨0,m⟩ a)<|uH fun n=>.jump 17 [x0,x1,x2,(uZ (uW (i0+(uW n)))),uZ i1]) (.jump 17 [x0,x1,x2,uZ i0,uZ i1])
def uQ8 (i0:Int):T :=.ite (zB i0 9) (.ite (zB i0 9) (.ret (uZ 6)) (.ret (uZ 7))) (.ite (zB i0 10) (.ret (uZ 6)) (.ret (uZ 7)))
def uQ10 (g0:Bool)(i3:Int)(l2:List Nat)(i4:Int)(g1:Bool)(x1:zA)(g2:Bool)(x2:zA)(i5:Int)(x3:zA)(i6:Int)(l3:List Nat)(i7:Int)(g3:Bool)(x4:zA)(g4:Bool)(x5:zA)(i8:Int)(x6:zA)(x0:zA):T :=.ite g0 (.call 176 [.agg [uY i3,.str l2,uY i4,.bool g1,x1,.bool g2,x2,uZ i5,x3]]<|uB fun b=>.ite b (.call 176 [.agg [uY i6,.str l3,uY i7,.bool g3,x4,.bool g4,x5,uZ i8,x6]]<|uB fun b=>.ret (.bool b)) jA) (.call 68 [.agg [x0],.agg [uY i3,.str l2,uY i4,.bool g1,x1,.bool g2,x2,uZ i5,x3],uZ 1]<|uB fun b=>.ite b (.call 68 [.agg [x0],.agg [uY i6,.str l3,uY i7,.bool g3,x4,.bool g4,x5,uZ i8,x6],uZ 1]<|uB fun b=>.ret (.bool b)) jA)
def uQ11 (g0:Bool)(i3:Int)(l2:List Nat)(i4:Int)(g1:Bool)(x0:zA)(g2:Bool)(x1:zA)(i5:Int)(x2:zA)(i6:Int)(l3:List Nat)(i7:Int)(g3:Bool)(x3:zA)(g4:Bool)(x4:zA)(i8:Int)(x5:zA):T :=.ite g0 (.call 126 [.agg [uY i3,.str l2,uY i4,.bool g1,x0,.bool g2,x1,uZ i5,x2]]<|uB fun b=>.ite b (.call 126 [.agg [uY i6,.str l3,uY i7,.bool g3,x3,.bool g4,x4,uZ i8,x5]]<|uB fun b=>.ret (.bool b)) jA) (.call 70 [.agg [uY i3,.str l2,uY i4,.bool g1,x0,.bool g2,x1,uZ i5,x2],uZ 24]<|uB fun b=>.ite b (.call 70 [.agg [uY i6,.str l3,uY i7,.bool g3,x3,.bool g4,x4,uZ i8,x5],uZ 24]<|uB fun b=>.ret (.bool b)) jA)
def uQ12 (i3:Int)(i1:Int)(x0:zA)(x1:zA)(i0:Int)(i2:Int):T :=.ite (qC 4294967296 (iA .u64 (i3+i1))) (.jump 19 [x0,x1,uZ i0,(.int .u64 (iA .u64 (i2-1)))]) (.jump 2 [x0,x1,uZ i0,.int .u64 i1,(.int .u64 (iA .u64 (i2-1))),(.int .u64 (iA .u64 (i3+i1)))])
def Eu (g0:Bool)(x0:zA)(g1:Bool)(x1:zA):T :=.call 89 [.agg [.bool g0,x0,.bool g1,x1]]<|uB fun b=>.ret (.bool b)
def uQ14 (x0:zA)(s:List Nat):T :=.light (fun m=>dA yA 90 ⟨0,m⟩ x0) fun a=>.heavy (vF yA 90 9 a (.str s)) fun a=>.heavy (pE yA 90 x0 a) fun _=>.ret (.bool true)
def uQ15 (i1:Int):T :=.opt (rB yA 257 (.ptr 2 0) (uZ (uW (i1-1)))) fun a=>.light (fun m=>dA yA 3 ⟨0,m⟩ a)<|uI fun n=>.ret (uZ n)
def uQ16 (x0:zA):T :=.opt (rB yA 30 x0 (uZ 0)) fun a=>.light (fun m=>dA yA 72 ⟨0,m⟩ a)<|uH fun n=>.ret (.bool (zB n 1))
def uQ17 (i0:Int):T :=.ite (zB i0 7) (.ite (zB i0 7) (.ret (uZ 5)) (uQ8 i0)) (.ite (zB i0 8) (.ret (uZ 5)) (uQ8 i0))
def Et (X:kG)(i0:Int)(i1:Int)(l0:List Nat)(x0:zA)(x1:zA)(x2:zA)(l1:List Nat)(g0:Bool)(x3:zA):T :=.call 60 [uZ (X.i 2)]<|uB fun b=>.ite (!b) jA (.call 56 [(.agg [.bool (X.b 3),X.v 4,.bool (X.b 5),X.v 6])]<|uS fun s=>.ite (zD s []) jA (.jump 10 [uZ i0,(qB i1),.str l0,x0,x1,x2,.str l1,.bool g0,x3]))
variable (i0 i1 i2 i3 i4 i5 i6 i7 i8 i9 j0 j1 j2 j3 j4 j5 j6 j7:Int)(l0 l1 l2 l3 l4 l5 l6 l7:List Nat)(x0 x1 x2 x3 x4 x5 x6 x7 x8 x9 y0 y1:zA)(g0 g1 g2 g3 g4 g5 g6 g7 g8 g9:Bool)
def t3:T:=.call 6 [.agg [.str l0,x0,x1,x2],uZ 2000]<|uI fun n=>.ite (lB 2000 n) (.call 7 []<|uB fun b=>.ret (.bool b)) (.call 8 [.agg [.str l0,x0,x1,x2]]<|uB fun b=>.ite b (.call 7 []<|uB fun b=>.ret (.bool b)) jA)
def t6:T:=.opt (aA x0)<|uI fun n1=>.opt (aA x1)<|uI fun n3=>.opt (aA x2)<|uI fun n=>.jump 2 [uZ i0,(uZ (uW ((uW ((uW ((uW (1+(uW (Int.tdiv (Int.ofNat (kB l0)) 30))))+n1))+n3))+n))),uZ 0,.str l0,x0,x1,x2]
def t6_2:T:=.opt (aA x0)<|uI fun n=>.ite (lB i2 n) (.ite (qC i1 i0) (.opt (rB yA 22 x0 (uZ i2)) fun a=>.opt (dC yA 47 0 a) fun a=>.light (fun m=>dA yA 9 ⟨0,m⟩ a)<|uS fun s=>.jump 2 [uZ i0,(uZ (uW (i1+(uW (Int.tdiv (Int.ofNat (kB s)) 30))))),(qB i2),.str l0,x0,x1,x2]) (.jump 6 [uZ i0,uZ i1,uZ 0,.str l0,x0,x1,x2])) (.jump 6 [uZ i0,uZ i1,uZ 0,.str l0,x0,x1,x2])
def t6_6:T:=.opt (aA x1)<|uI fun n=>.ite (lB i2 n) (.ite (qC i1 i0) (.opt (rB yA 23 x1 (uZ i2)) fun a=>.opt (dC yA 50 0 a) fun a=>.light (fun m=>dA yA 9 ⟨0,m⟩ a)<|uS fun s=>.jump 10 [uZ i0,(uZ (uW (i1+(uW (Int.tdiv (Int.ofNat (kB s)) 30))))),uZ i2,uZ 0,.str l0,x0,x1,x2]) (.jump 14 [uZ i0,uZ i1,uZ 0,.str l0,x0,x1,x2])) (.jump 14 [uZ i0,uZ i1,uZ 0,.str l0,x0,x1,x2])
def zhf:T:=.opt (rB yA 23 x1 (uZ i2)) fun a=>.opt (dC yA 50 2 a) fun a=>.light (fun m=>dA yA 48 ⟨0,m⟩ a) fun a=>.opt (aA a)<|uI fun n=>.ite (lB i3 n) (.ite (qC i1 i0) (.opt (rB yA 23 x1 (uZ i2)) fun a=>.opt (dC yA 50 2 a) fun a=>.light (fun m=>dA yA 48 ⟨0,m⟩ a) fun a=>.opt (rB yA 48 a (uZ i3)) fun a=>.opt (dC yA 53 3 a) fun a=>.light (fun m=>dA yA 34 ⟨0,m⟩ a)<|uG zz8z fun X=>.call 16 [(uA8 X)]<|uI fun n=>.jump 10 [uZ i0,(uZ (uW (i1+n))),uZ i2,(qB i3),.str l0,x0,x1,x2]) (.jump 6 [uZ i0,uZ i1,(qB i2),.str l0,x0,x1,x2])) (.jump 6 [uZ i0,uZ i1,(qB i2),.str l0,x0,x1,x2])
def zhe:T:=.opt (aA x2)<|uI fun n=>.ite (lB i2 n) (.ite (qC i1 i0) (.opt (rB yA 24 x2 (uZ i2)) fun a=>.light (fun m=>dA yA 55 ⟨0,m⟩ a)<|uG xN fun X=>.ite (mC (uM1 X)) (.call 9 [(.agg [uY (X.i 6),.str (X.s 7),uY (X.i 8),.bool (X.b 9),X.v 10,.bool (X.b 11),X.v 12,uZ (X.i 13),X.v 14]),(uZ (uW (i0-i1)))]<|uI fun n6=>.ite (same 10 (.str (X.s 0)) (.str (X.s 0))) (.ite (same 10 (uZ (Int.ofNat (kB (X.s 0)))) (uZ (Int.ofNat (kB (X.s 0))))) (.ite (same 10 (.str (X.s 1)) (.str (X.s 1))) (.ite (same 10 (uZ (Int.ofNat (kB (X.s 1)))) (uZ (Int.ofNat (kB (X.s 1))))) (.ite (qC (uW (i1+(uW ((uW ((uW (Int.tdiv (Int.ofNat (kB (X.s 0))) 30))+(uW (Int.tdiv (Int.ofNat (kB (X.s 1))) 30))))+n6)))) i0) (.call 9 [(.agg [uY (X.i 15),.str (X.s 16),uY (X.i 17),.bool (X.b 18),X.v 19,.bool (X.b 20),X.v 21,uZ (X.i 22),X.v 23]),(uZ (uW (i0-(uW (i1+(uW ((uW ((uW (Int.tdiv (Int.ofNat (kB (X.s 0))) 30))+(uW (Int.tdiv (Int.ofNat (kB (X.s 1))) 30))))+n6)))))))]<|uI fun n=>.jump 14 [uZ i0,(uZ (uW ((uW (i1+(uW ((uW ((uW (Int.tdiv (Int.ofNat (kB (X.s 0))) 30))+(uW (Int.tdiv (Int.ofNat (kB (X.s 1))) 30))))+n6))))+n))),(qB i2),.str l0,x0,x1,x2]) (.jump 14 [uZ i0,(uZ (uW (i1+(uW ((uW ((uW (Int.tdiv (Int.ofNat (kB (X.s 0))) 30))+(uW (Int.tdiv (Int.ofNat (kB (X.s 1))) 30))))+n6))))),(qB i2),.str l0,x0,x1,x2])) .fail) .fail) .fail) .fail) .fail) (.ret (uZ i1))) (.ret (uZ i1))
def t8:T:=.call 23 [.agg [.str l0,x0,x1,x2]]<|uG [.str [],.nilslice,.nilslice,.nilslice] fun X=>.ite (mC (uM7 X)) (.call 20 [(uA7 X)] fun a=>.opt (uX 0 a)<|uS fun s4=>.opt (uX 1 a)<|uI fun n6=>.call 24 [.agg [.str l0,x0,x1,x2]] fun a=>.opt (uX 0 a)<|uS fun s=>.opt (uX 1 a)<|uI fun n=>.ite (zD s4 s) (.ite (zB n6 n) (.call 21 [(uA7 X)]<|uB fun b13=>.ite (same 10 (.agg [.str l0,x0,x1,x2]) (.agg [.str l0,x0,x1,x2])) (.call 25 [.agg [.str l0,x0,x1,x2]]<|uB fun b=>.ite (bEq b13 b) (.call 26 [(uA7 X),.agg [.str l0,x0,x1,x2]]<|uB fun b=>.ret (.bool b)) jA) .fail) jA) jA) .fail
def t9:T:=.call 16 [.agg [.bool g0,x0,.bool g1,x1]]<|uI fun n=>.ite (same 10 (.str l0) (.str l0)) (.ite (same 10 (uZ (Int.ofNat (kB l0))) (uZ (Int.ofNat (kB l0)))) (.jump 2 [uZ i3,(uZ (uW (n+(uW (Int.tdiv (Int.ofNat (kB l0)) 30))))),uZ 0,uY i0,.str l0,uY i1,.bool g0,x0,.bool g1,x1,uZ i2,x2]) .fail) .fail
def t9_2:T:=.opt (aA x2)<|uI fun n=>.ite (lB i2 n) (.ite (qC i1 i0) (.opt (rB yA 37 x2 (uZ i2)) fun a=>.light (fun m=>dA yA 39 ⟨0,m⟩ a)<|uG xK fun X=>.call 9 [(aG X),(uZ (uW (i0-i1)))]<|uI fun n=>.jump 2 [uZ i0,(uZ (uW (i1+n))),(qB i2),uY i3,.str l0,uY i4,.bool g0,x0,.bool g1,x1,uZ i5,x2]) (.ret (uZ i1))) (.ret (uZ i1))
def t16:T:=.opt (aA x0)<|uI fun n1=>.opt (aA x1)<|uI fun n=>.ret (uZ (uW ((uW (1+n1))+n)))
def t20:T:=.heavy (eR yA 9) fun a0=>.heavy (eR yA 56) fun a1=>.call 21 [.agg [.str l0,x0,x1,x2]]<|uB fun b=>.ite (!b) (.heavy (pE yA 9 a0 (.str [])) fun _=>.heavy (pE yA 56 a1 (uZ 2)) fun _=>.light (fun m=>dA yA 9 ⟨0,m⟩ a0) fun a4=>.light (fun m=>dA yA 56 ⟨0,m⟩ a1) fun a=>.ret (.tup [a4,a])) (.heavy (Cc yA 92) fun a6=>.call 44 [.agg [.str l0,x0,x1,x2]] fun a=>.range (npC yA) a 2 1 [a0,a1,a6] (.call 47 [a6]<|uS fun s=>.heavy (pE yA 9 a0 (.str s)) fun _=>.heavy (pE yA 56 a1 (uZ 0)) fun _=>.light (fun m=>dA yA 9 ⟨0,m⟩ a0) fun a10=>.light (fun m=>dA yA 56 ⟨0,m⟩ a1) fun a=>.ret (.tup [a10,a])) (.light (fun m=>dA yA 9 ⟨0,m⟩ a0) fun a12=>.light (fun m=>dA yA 56 ⟨0,m⟩ a1) fun a=>.ret (.tup [a12,a])))
def t20_2:T:=.call 45 [x2,.str l0] fun a=>.call 45 [x2,.str [10]] fun a=>.call 46 [x2]<|uI fun n=>.ite (lB 65536 n) (.heavy (pE yA 9 x0 (.str [])) fun _=>.heavy (pE yA 56 x1 (uZ 3)) fun _=>.ret (.bool false)) cD
def t21:T:=.call 48 []<|uG [.nilptr] fun X=>.ite (same 10 (.agg [.str l0,x0,x1,x2]) (.agg [.str l0,x0,x1,x2])) (.call 49 [(.agg [X.v 0]),.agg [.str l0,x0,x1,x2]]<|uB fun b=>.ret (.bool b)) .fail
def t23:T:=.call 50 [x0] fun a0=>.ite (mC [a0]) (.call 51 [x1] fun a1=>.ite (mC [a1]) (.call 52 [x2] fun a=>.ite (mC [a]) (.ite (mC [.str l0,a0,a1,a]) (.ret (.agg [.str l0,a0,a1,a])) .fail) .fail) .fail) .fail
def t24:T:=.call 25 [.agg [.str l0,x0,x1,x2]]<|uB fun b=>.ite (!b) (.ret (.tup [.str [],uZ 2])) (.opt (xC [112,108,97,110,32] l0)<|uS fun s=>.opt (xC s [10])<|uS fun s=>.jump 2 [.str s,uZ 0,.str l0,x0,x1,x2])
def zho:T:=.opt (aA x0)<|uI fun n=>.ite (lB i0 n) (.opt (rB yA 22 x0 (uZ i0)) fun a=>.opt (dC yA 47 2 a) fun a=>.light (fun m=>dA yA 4 ⟨0,m⟩ a)<|uB fun b=>.ite b (.opt (xC l0 [102,97,99,116,32])<|uS fun s=>.jump 21 [.str s,uZ i0,.str l1,x0,x1,x2]) (.opt (xC l0 [100,101,102,32])<|uS fun s=>.jump 21 [.str s,uZ i0,.str l1,x0,x1,x2])) (.jump 6 [.str l0,uZ 0,.str l1,x0,x1,x2])
def zev:T:=.opt (rB yA 22 x0 (uZ i0)) fun a=>.opt (dC yA 47 0 a) fun a1=>.light (fun m=>dA yA 9 ⟨0,m⟩ a1)<|uS fun s3=>.opt (xC l0 s3)<|uS fun s=>.opt (xC s [32])<|uS fun s7=>.opt (rB yA 22 x0 (uZ i0)) fun a=>.opt (dC yA 47 1 a) fun a=>.light (fun m=>dA yA 5 ⟨0,m⟩ a)<|uU fun n=>.call 53 [uY n]<|uS fun s=>.ite (same 10 x0 x0) (.light (fun m=>dA yA 9 ⟨0,m⟩ a1) fun a=>.ite (same 10 a (.str s3)) (.opt (xC s7 s)<|uS fun s=>.opt (xC s [10])<|uS fun s=>.jump 2 [.str s,(qB i0),.str l1,x0,x1,x2]) .fail) .fail
def zhn:T:=.opt (aA x1)<|uI fun n=>.ite (lB i0 n) (.opt (rB yA 23 x1 (uZ i0)) fun a=>.light (fun m=>dA yA 50 ⟨0,m⟩ a)<|uG wO fun X=>.ite (mC (uM3 X)) (.ite (X.b 1) (.opt (xC l0 [116,97,98,108,101,32])<|uS fun s=>.opt (xC s (X.s 0))<|uS fun s=>.opt (xC s [32,116,119,111,10])<|uS fun s=>.jump 37 [.str s,uZ i0,.str l1,x0,x1,x2,.str (X.s 0),.bool (X.b 1),X.v 2]) (.opt (xC l0 [116,97,98,108,101,32])<|uS fun s=>.opt (xC s (X.s 0))<|uS fun s=>.opt (xC s [32,111,110,101,10])<|uS fun s=>.jump 37 [.str s,uZ i0,.str l1,x0,x1,x2,.str (X.s 0),.bool (X.b 1),X.v 2])) .fail) (.jump 14 [.str l0,uZ 0,.str l1,x0,x1,x2])
def zeu:T:=.jump 10 [.str l0,uZ i0,uZ 0,.str l1,x0,x1,x2,.str l2,.bool g0,x3]
def Uf:T:=.opt (aA x3)<|uI fun n=>.ite (lB i1 n) (.opt (rB yA 48 x3 (uZ i1)) fun a=>.light (fun m=>dA yA 53 ⟨0,m⟩ a)<|uG xO fun X=>.ite (mC (uM2 X)) (.opt (xC l0 [114,111,119,32])<|uS fun s6=>.call 54 [uZ (X.i 0)]<|uS fun s=>.opt (xC s6 s)<|uS fun s10=>.ite g0 (.opt (xC s10 [32])<|uS fun s12=>.call 54 [uZ (X.i 1)]<|uS fun s=>.opt (xC s12 s)<|uS fun s=>.jump 51 [.str s,uZ i0,uZ i1,.str l1,x0,x1,x2,.str l2,.bool g0,x3,uZ (X.i 0),uZ (X.i 1),uZ (X.i 2),.bool (X.b 3),X.v 4,.bool (X.b 5),X.v 6]) (.jump 51 [.str s10,uZ i0,uZ i1,.str l1,x0,x1,x2,.str l2,.bool g0,x3,uZ (X.i 0),uZ (X.i 1),uZ (X.i 2),.bool (X.b 3),X.v 4,.bool (X.b 5),X.v 6])) .fail) (.jump 6 [.str l0,(qB i0),.str l1,x0,x1,x2])
def zet:T:=.opt (xC l0 [32,107,110,111,119,110,32])<|uS fun s1=>.call 55 [uZ i4]<|uS fun s=>.ite (same 10 (.agg [.bool g1,x4,.bool g2,x5]) (.agg [.bool g1,x4,.bool g2,x5])) (.opt (xC s1 s)<|uS fun s=>.opt (xC s [32,105,115,32])<|uS fun s7=>.call 56 [.agg [.bool g1,x4,.bool g2,x5]]<|uS fun s=>.opt (xC s7 s)<|uS fun s=>.opt (xC s [10])<|uS fun s=>.jump 10 [.str s,uZ i0,(qB i1),.str l1,x0,x1,x2,.str l2,.bool g0,x3]) .fail
def Ue:T:=.opt (aA x2)<|uI fun n=>.ite (lB i0 n) (.opt (rB yA 24 x2 (uZ i0)) fun a=>.light (fun m=>dA yA 55 ⟨0,m⟩ a)<|uG xN fun X=>.call 57 [(wK X)]<|uS fun s=>.opt (xC l0 s)<|uS fun s=>.jump 14 [.str s,(qB i0),.str l1,x0,x1,x2]) (.ite (lB 65536 (Int.ofNat (kB l0))) (.ret (.tup [.str [],uZ 3])) (.ret (.tup [.str l0,uZ 0])))
def t25:T:=.call 58 [.str l0]<|uB fun b=>.ite (!b) jA (.jump 2 [uZ 0,.str l0,x0,x1,x2])
def zhm:T:=.opt (aA x0)<|uI fun n=>.ite (lB i0 n) (.opt (rB yA 22 x0 (uZ i0)) fun a=>.opt (dC yA 47 0 a) fun a=>.light (fun m=>dA yA 9 ⟨0,m⟩ a)<|uS fun s=>.call 58 [.str s]<|uB fun b=>.ite (!b) jA (.opt (rB yA 22 x0 (uZ i0)) fun a=>.opt (dC yA 47 1 a) fun a=>.light (fun m=>dA yA 5 ⟨0,m⟩ a)<|uU fun n=>.call 53 [uY n]<|uS fun s=>.ite (zD s []) jA (.jump 2 [(qB i0),.str l0,x0,x1,x2]))) (.jump 6 [uZ 0,.str l0,x0,x1,x2])
def zhl:T:=.opt (aA x1)<|uI fun n=>.ite (lB i0 n) (.opt (rB yA 23 x1 (uZ i0)) fun a=>.light (fun m=>dA yA 50 ⟨0,m⟩ a)<|uG wO fun X=>.ite (mC (uM3 X)) (.call 58 [.str (X.s 0)]<|uB fun b=>.ite (!b) jA (.jump 10 [uZ i0,uZ 0,.str l0,x0,x1,x2,.str (X.s 0),.bool (X.b 1),X.v 2])) .fail) (.jump 14 [uZ 0,.str l0,x0,x1,x2])
def Tz:T:=.opt (aA x3)<|uI fun n=>.ite (lB i1 n) (.opt (rB yA 48 x3 (uZ i1)) fun a=>.light (fun m=>dA yA 53 ⟨0,m⟩ a)<|uG xO fun X=>.ite (mC (uM2 X)) (.call 59 [uZ (X.i 0)]<|uB fun b=>.ite (!b) jA (.call 59 [uZ (X.i 1)]<|uB fun b=>.ite (!b) jA (.ite (!g0) (.ite (!zB (X.i 1) 0) jA (Et X i0 i1 l0 x0 x1 x2 l1 g0 x3)) (Et X i0 i1 l0 x0 x1 x2 l1 g0 x3)))) .fail) (.jump 6 [(qB i0),.str l0,x0,x1,x2])
def Tx:T:=.opt (aA x2)<|uI fun n=>.ite (lB i0 n) (.opt (rB yA 24 x2 (uZ i0)) fun a=>.light (fun m=>dA yA 55 ⟨0,m⟩ a)<|uG xN fun X=>.call 61 [(wK X)]<|uB fun b=>.ite (!b) jA (.jump 14 [(qB i0),.str l0,x0,x1,x2])) cD
def t26:T:=.call 62 [.agg [.str l0,x0,x1,x2],.agg [.str l1,x3,x4,x5]]<|uB fun b=>.ite b (.call 63 [x0,x3]<|uB fun b=>.ite b (.call 64 [x1,x4]<|uB fun b=>.ite b (.call 65 [x2,x5]<|uB fun b=>.ret (.bool b)) jA) jA) jA
def t27:T:=.call 66 [.agg [uY i1,.bool g0,x0,.bool g1,x1,uZ i2]]<|uG [uY 0,.bool false,.nilslice,.bool false,.nilslice,uZ 0] fun X=>.ite (mC [uY (X.i 0),.bool (X.b 1),X.v 2,.bool (X.b 3),X.v 4,uZ (X.i 5)]) (.call 67 [x2] fun a=>.ite (mC [a]) (.ite (mC [uY i0,.str l0,uY (X.i 0),.bool (X.b 1),X.v 2,.bool (X.b 3),X.v 4,uZ (X.i 5),a]) (.ret (.agg [uY i0,.str l0,uY (X.i 0),.bool (X.b 1),X.v 2,.bool (X.b 3),X.v 4,uZ (X.i 5),a])) .fail) .fail) .fail
def t30:T:=.ite (zB i0 2) (.call 56 [.agg [.bool g0,x0,.bool g1,x1]]<|uS fun s1=>.ite (zD s1 []) (.ret (.str [])) (.ite (!zB i1 0) (.ret (.str [])) (.ite (zB i0 3) (.opt (xC [109,111,110,101,121,32] s1)<|uS fun s=>.ret (.str s)) (.ret (.str s1))))) (.ite (zB i0 3) (.call 56 [.agg [.bool g0,x0,.bool g1,x1]]<|uS fun s5=>.ite (zD s5 []) (.ret (.str [])) (.ite (!zB i1 0) (.ret (.str [])) (.ite (zB i0 3) (.opt (xC [109,111,110,101,121,32] s5)<|uS fun s=>.ret (.str s)) (.ret (.str s5))))) (.call 72 [.agg [.bool g0,x0,.bool g1,x1]]<|uB fun b=>.ite (!b) (.ret (.str [])) (.ite (zB i0 1) (.ite (zB i1 0) (.ret (.str [102,97,108,115,101])) (.ite (zB i1 1) (.ret (.str [116,114,117,101])) (.ret (.str [])))) (.ite (zB i0 4) (.call 55 [uZ i1]<|uS fun s=>.ret (.str s)) (.ite (zB i0 5) (.ite (qC (-1048576) i1) (.ite (qC i1 1048576) (.call 54 [uZ i1]<|uS fun s=>.opt (xC s [32,100,97,121,115])<|uS fun s=>.ret (.str s)) (.ret (.str []))) (.ret (.str []))) (.ite (zB i0 6) (.ite (qC (-1048576) i1) (.ite (qC i1 1048576) (.call 54 [uZ i1]<|uS fun s=>.opt (xC s [32,109,111,110,116,104,115])<|uS fun s=>.ret (.str s)) (.ret (.str []))) (.ret (.str []))) (.ret (.str []))))))))
def t31:T:=.call 73 [.agg [uY i0,.str l0,uY i1,.bool g0,x0,.bool g1,x1,uZ i2,x2],.agg [uY i3,.str l1,uY i4,.bool g2,x3,.bool g3,x4,uZ i5,x5]]<|uB fun b=>.ite b (.call 74 [.agg [uY i1,.bool g0,x0,.bool g1,x1,uZ i2],.agg [uY i4,.bool g2,x3,.bool g3,x4,uZ i5]]<|uB fun b=>.ite b (.call 75 [x2,x5]<|uB fun b=>.ret (.bool b)) jA) jA
def t39:T:=.ite (zB i0 2) (.ite (zB i0 2) (.ite (zB i1 0) (Eu g0 x0 g1 x1) jA) (uQ4 i0 g0 x0 g1 x1 i1)) (.ite (zB i0 3) (.ite (zB i1 0) (Eu g0 x0 g1 x1) jA) (uQ4 i0 g0 x0 g1 x1 i1))
def t40:T:=.ite (zB i0 1) (.call 92 [(.bool (zB i1 1))]<|uS fun s=>.ret (.str s)) (.ite (zB i0 2) (.call 93 [.agg [.bool g0,x0,.bool g1,x1]]<|uS fun s=>.ret (.str s)) (.ite (zB i0 3) (.call 93 [.agg [.bool g0,x0,.bool g1,x1]]<|uS fun s=>.opt (xC [109,111,110,101,121,32] s)<|uS fun s=>.ret (.str s)) (.ite (zB i0 4) (.call 94 [uZ i1]<|uS fun s=>.ret (.str s)) (.ite (zB i0 5) (.call 95 [uZ i1]<|uS fun s=>.opt (xC s [32,100,97,121,115])<|uS fun s=>.ret (.str s)) (.ite (zB i0 6) (.call 95 [uZ i1]<|uS fun s=>.opt (xC s [32,109,111,110,116,104,115])<|uS fun s=>.ret (.str s)) (.ret (.str [])))))))
def t44:T:=.heavy (tO (.agg [.str l0,x0,x1,x2])) fun a=>.ret (.func (.func 100) [] [a])
def t45:T:=.call 104 [x0] fun a=>.opt (aE x0) fun a=>.opt (dC yA 92 1 a) fun a=>.light (fun m=>dA yA 90 ⟨0,m⟩ a) fun a=>.heavy (vF yA 90 9 a (.str l0)) fun a4=>.opt (aE x0) fun a=>.opt (dC yA 92 1 a) fun a=>.heavy (pE yA 90 a a4) fun _=>.ret (.tup [(uZ (Int.ofNat (kB l0))),.niliface])
def t46:T:=.opt (aE x0) fun a=>.opt (dC yA 92 1 a) fun a=>.light (fun m=>dA yA 90 ⟨0,m⟩ a) fun a=>.opt (aA a)<|uI fun n=>.ret (uZ n)
def t48:T:=.call 105 [] fun a=>.ite (mC [a]) (.ite (mC [a]) (.ret (.agg [a])) .fail) .fail
def t49:T:=.call 107 [.str l0]<|uB fun b=>.ite b (.call 108 [x1,(.func (.func 106) [] [])]<|uB fun b=>.ite b (.call 109 [x2,(.func (.func 110) [] [])]<|uB fun b=>.ite b (.call 111 [x3,(.func (.func 112) [.agg [x0]] [])]<|uB fun b=>.ret (.bool b)) jA) jA) jA
def t50:T:=.opt (aA x0)<|uI fun n=>.heavy (fJ yA 22 (uZ 0) (uZ (uW (n+12)))) fun a=>.heavy (vF yA 22 22 a x0) fun a=>.jump 2 [x0,a,uZ 0]
def zhk:T:=.ite (lB i0 12) (.call 113 [uZ 1,uZ i0]<|uG xT fun X=>.heavy (jE yA 22 1 [(0,(oP X))]) fun a=>.heavy (vF yA 22 22 x1 a) fun a=>.jump 2 [x0,a,(qB i0)]) (.opt (aA x0)<|uI fun n=>.light (fun m=>zE yA 22 ⟨0,m⟩ x1 none (some (uZ n))) fun a=>.ret a)
def t51:T:=.opt (aA x0)<|uI fun n=>.heavy (fJ yA 23 (uZ 0) (uZ (uW (n+12)))) fun a=>.jump 2 [x0,a,uZ 0]
def t51_2:T:=.opt (aA x0)<|uI fun n=>.ite (lB i0 n) (.opt (rB yA 23 x0 (uZ i0)) fun a=>.light (fun m=>dA yA 50 ⟨0,m⟩ a)<|uG wO fun X=>.call 114 [(uN X)]<|uG wO fun X=>.ite (mC (uM3 X)) (.heavy (jE yA 23 1 [(0,(uN X))]) fun a=>.heavy (vF yA 23 23 x1 a) fun a=>.jump 2 [x0,a,(qB i0)]) .fail) (.jump 6 [x0,x1,uZ 0])
def zhj:T:=.ite (lB i0 12) (.call 115 [uZ 1,uZ i0]<|uG wO fun X=>.heavy (jE yA 23 1 [(0,(uN X))]) fun a=>.heavy (vF yA 23 23 x1 a) fun a=>.jump 6 [x0,a,(qB i0)]) (.opt (aA x0)<|uI fun n=>.light (fun m=>zE yA 23 ⟨0,m⟩ x1 none (some (uZ n))) fun a=>.ret a)
def t52:T:=.opt (aA x0)<|uI fun n=>.heavy (fJ yA 24 (uZ 0) (uZ (uW (n+12)))) fun a=>.jump 2 [x0,a,uZ 0]
def t52_2:T:=.opt (aA x0)<|uI fun n=>.ite (lB i0 n) (.opt (rB yA 24 x0 (uZ i0)) fun a=>.light (fun m=>dA yA 55 ⟨0,m⟩ a)<|uG xN fun X=>.call 116 [(wK X)]<|uG xN fun X=>.ite (mC (uM1 X)) (.heavy (jE yA 24 1 [(0,(wK X))]) fun a=>.heavy (vF yA 24 24 x1 a) fun a=>.jump 2 [x0,a,(qB i0)]) .fail) (.jump 6 [x0,x1,uZ 0])
def zhi:T:=.ite (lB i0 12) (.call 117 [uZ 1,uZ i0]<|uG xN fun X=>.heavy (jE yA 24 1 [(0,(wK X))]) fun a=>.heavy (vF yA 24 24 x1 a) fun a=>.jump 6 [x0,a,(qB i0)]) (.opt (aA x0)<|uI fun n=>.light (fun m=>zE yA 24 ⟨0,m⟩ x1 none (some (uZ n))) fun a=>.ret a)
def t53:T:=.ite (zB i0 1) (.ret (.str [116,114,117,116,104])) (.ite (zB i0 2) (.ret (.str [110,117,109,98,101,114])) (.ite (zB i0 3) (.ret (.str [109,111,110,101,121])) (.ite (zB i0 4) (.ret (.str [100,97,116,101])) (.ite (zB i0 5) (.ret (.str [100,97,121,115])) (.ite (zB i0 6) (.ret (.str [109,111,110,116,104,115])) (.ret (.str [])))))))
def t54:T:=.call 119 [uZ i0]<|uG mZ fun X=>.call 118 [(nP X)] fun a=>.opt (uX 0 a)<|uS fun s4=>.opt (uX 1 a)<|uI fun n=>.ite (lB i0 0) (.opt (zE yA 9 H0A (.str s4) (some (uZ 1)) none)<|uS fun s=>.opt (xC [109,105,110,117,115,32] s)<|uS fun s=>.ret (.str s)) (.ret (.str s4))
def t55:T:=.call 120 [uZ i0] fun a=>.opt (uX 0 a)<|uI fun n2=>.opt (uX 1 a)<|uI fun n4=>.opt (uX 2 a)<|uI fun n6=>.opt (uX 3 a)<|uI fun n=>.ite (!zB n 0) (.ret (.str [])) (.call 121 [uZ n2,uZ 4]<|uS fun s=>.opt (xC s [45])<|uS fun s12=>.call 121 [uZ n4,uZ 2]<|uS fun s=>.opt (xC s12 s)<|uS fun s=>.opt (xC s [45])<|uS fun s18=>.call 121 [uZ n6,uZ 2]<|uS fun s=>.opt (xC s18 s)<|uS fun s=>.ret (.str s))
def t56:T:=.call 122 [.agg [.bool g0,x0,.bool g1,x1]] fun a=>.opt (uX 0 a)<|uS fun s2=>.opt (uX 1 a)<|uI fun n=>.ite (!zB n 0) (.ret (.str [])) (.opt (fR yA 9 (.str s2) (uZ 0))<|uU fun n=>.ite (zB n 45) (.opt (zE yA 9 H0A (.str s2) (some (uZ 1)) none)<|uS fun s=>.jump 17 [.str s,.str [109,105,110,117,115,32]]) (.jump 17 [.str s2,.str []]))
def zen:T:=.ite (lB 200 (Int.ofNat (kB l0))) (.ret (.str [])) (.opt (xC l1 l0)<|uS fun s=>.ret (.str s))
def t57:T:=.ite (lB i1 65536) (.call 55 [uZ i1]<|uS fun s=>.jump 9 [.str s,.str l0,.str l1,uZ i0,uZ i1,uZ i2,.bool g0,uY i3,.str l2,uY i4,.bool g1,x0,.bool g2,x1,uZ i5,x2,uY i6,.str l3,uY i7,.bool g3,x3,.bool g4,x4,uZ i8,x5]) (.jump 9 [.str [101,110,100],.str l0,.str l1,uZ i0,uZ i1,uZ i2,.bool g0,uY i3,.str l2,uY i4,.bool g1,x0,.bool g2,x1,uZ i5,x2,uY i6,.str l3,uY i7,.bool g3,x3,.bool g4,x4,uZ i8,x5])
def t57_9:T:=.opt (xC [99,108,97,117,115,101,32] l1)<|uS fun s=>.opt (xC s [32])<|uS fun s=>.opt (xC s l2)<|uS fun s=>.opt (xC s [32,102,114,111,109,32])<|uS fun s7=>.call 55 [uZ i0]<|uS fun s=>.ite (same 10 (.str l1) (.str l1)) (.ite (same 10 (.str l2) (.str l2)) (.ite (same 10 (uZ i2) (uZ i2)) (.opt (xC s7 s)<|uS fun s=>.opt (xC s [32,116,111,32])<|uS fun s=>.opt (xC s l0)<|uS fun s=>.opt (xC s [32,107,110,111,119,110,32])<|uS fun s17=>.call 55 [uZ i2]<|uS fun s=>.ite (same 10 (.str l1) (.str l1)) (.ite (same 10 (.str l2) (.str l2)) (.opt (xC s17 s)<|uS fun s21=>.ite g0 (.opt (xC s21 [32,111,102,102,10])<|uS fun s=>.ret (.str s)) (.opt (xC s21 [32,119,104,101,110,32])<|uS fun s25=>.call 71 [.agg [uY i3,.str l3,uY i4,.bool g1,x0,.bool g2,x1,uZ i5,x2]]<|uS fun s=>.ite (same 10 (.agg [uY i6,.str l4,uY i7,.bool g3,x3,.bool g4,x4,uZ i8,x5]) (.agg [uY i6,.str l4,uY i7,.bool g3,x3,.bool g4,x4,uZ i8,x5])) (.opt (xC s25 s)<|uS fun s=>.opt (xC s [32,116,104,101,110,32])<|uS fun s31=>.call 71 [.agg [uY i6,.str l4,uY i7,.bool g3,x3,.bool g4,x4,uZ i8,x5]]<|uS fun s=>.opt (xC s31 s)<|uS fun s=>.opt (xC s [10])<|uS fun s=>.ret (.str s)) .fail)) .fail) .fail) .fail) .fail) .fail
def t58:T:=.ite (qC 1 (Int.ofNat (kB l0))) (.ite (qC (Int.ofNat (kB l0)) 24) (.opt (fR yA 9 (.str l0) (uZ 0))<|uU fun n=>.call 123 [uY n]<|uB fun b=>.ite b (.call 124 [.str l0,uZ 0]<|uI fun n=>.ite (zB n (Int.ofNat (kB l0))) (.call 125 [.str l0]<|uB fun b=>.ret (.bool (!b))) jA) jA) jA) jA
def t59:T:=.ite (qC (-2147483648) i0) (.ret (.bool (lB i0 2147483648))) jA
def t60:T:=.ite (qC 0 i0) (.ret (.bool (lB i0 65536))) jA
def t61:T:=.call 58 [.str l0]<|uB fun b=>.ite (!b) jA (.call 58 [.str l1]<|uB fun b=>.ite (!b) jA (.call 60 [uZ i0]<|uB fun b=>.ite (!b) jA (.call 60 [uZ i2]<|uB fun b=>.ite (!b) jA (.call 60 [uZ i1]<|uB fun b=>.ite (!b) (.ite (!zB i1 65536) jA (uQ11 g0 i3 l2 i4 g1 x0 g2 x1 i5 x2 i6 l3 i7 g3 x3 g4 x4 i8 x5)) (uQ11 g0 i3 l2 i4 g1 x0 g2 x1 i5 x2 i6 l3 i7 g3 x3 g4 x4 i8 x5)))))
def t62:T:=.ite (zD l0 l1) (.call 127 [x0,x3]<|uB fun b=>.ite b (.call 128 [x1,x4]<|uB fun b=>.ite b (.call 129 [x2,x5]<|uB fun b=>.ret (.bool b)) jA) jA) jA
def t63:T:=.opt (aA x0)<|uI fun n1=>.opt (aA x1)<|uI fun n=>.ite (!zB n1 n) jA (.opt (aA x1)<|uI fun n=>.light (fun m=>zE yA 22 ⟨0,m⟩ x0 none (some (uZ (uW (n+12))))) fun a=>.jump 2 [x1,a,uZ 0])
def t63_2:T:=.opt (aA x1)<|uI fun n=>.ite (lB i0 n) (.opt (aA x0)<|uI fun n=>.ite (lB i0 n) (.opt (rB yA 22 x1 (uZ i0)) fun a=>.light (fun m=>dA yA 47 ⟨0,m⟩ a)<|uG xT fun X6=>.opt (rB yA 22 x0 (uZ i0)) fun a=>.light (fun m=>dA yA 47 ⟨0,m⟩ a)<|uG xT fun X=>.opt ((zN .eql).f yA 47 (.tmp 31) (.tmp 35) (oP X6) (oP X))<|uB fun b=>.ite (!b) jA (.opt (aA x0)<|uI fun n=>.ite (qC n i0) (.opt (rB yA 22 x1 (uZ i0)) fun a=>.light (fun m=>dA yA 47 ⟨0,m⟩ a)<|uG xT fun X16=>.opt (aA x0)<|uI fun n=>.call 113 [uZ 1,(uZ (uW (i0-n)))]<|uG xT fun X=>.light (fun m=>dA yA 47 ⟨0,m⟩ a) fun a=>.ite (same 10 a (oP X16)) (.opt ((zN .eql).f yA 47 (.tmp 48) (.tmp 53) (oP X16) (oP X))<|uB fun b=>.ite (!b) jA (.jump 2 [x0,x1,(qB i0)])) .fail) (.jump 2 [x0,x1,(qB i0)]))) (.opt (aA x0)<|uI fun n=>.ite (qC n i0) (.opt (rB yA 22 x1 (uZ i0)) fun a=>.light (fun m=>dA yA 47 ⟨0,m⟩ a)<|uG xT fun X28=>.opt (aA x0)<|uI fun n=>.call 113 [uZ 1,(uZ (uW (i0-n)))]<|uG xT fun X=>.light (fun m=>dA yA 47 ⟨0,m⟩ a) fun a=>.ite (same 10 a (oP X28)) (.opt ((zN .eql).f yA 47 (.tmp 48) (.tmp 53) (oP X28) (oP X))<|uB fun b=>.ite (!b) jA (.jump 2 [x0,x1,(qB i0)])) .fail) (.jump 2 [x0,x1,(qB i0)]))) cD
def t64:T:=.opt (aA x0)<|uI fun n1=>.opt (aA x1)<|uI fun n=>.ite (!zB n1 n) jA (.opt (aA x1)<|uI fun n=>.light (fun m=>zE yA 23 ⟨0,m⟩ x0 none (some (uZ (uW (n+12))))) fun a=>.jump 2 [x1,a,uZ 0])
def t64_2:T:=.opt (aA x1)<|uI fun n=>.ite (lB i0 n) (.opt (aA x0)<|uI fun n=>.ite (lB i0 n) (.opt (rB yA 23 x1 (uZ i0)) fun a=>.light (fun m=>dA yA 50 ⟨0,m⟩ a)<|uG wO fun X6=>.opt (rB yA 23 x0 (uZ i0)) fun a=>.light (fun m=>dA yA 50 ⟨0,m⟩ a)<|uG wO fun X=>.call 130 [(uN X6),(uN X)]<|uB fun b=>.ite (!b) jA (.opt (aA x0)<|uI fun n=>.ite (qC n i0) (.opt (rB yA 23 x1 (uZ i0)) fun a=>.light (fun m=>dA yA 50 ⟨0,m⟩ a)<|uG wO fun X16=>.opt (aA x0)<|uI fun n=>.call 115 [uZ 1,(uZ (uW (i0-n)))]<|uG wO fun X=>.light (fun m=>dA yA 50 ⟨0,m⟩ a) fun a=>.ite (same 10 a (uN X16)) (.call 131 [(uN X16),(uN X)]<|uB fun b=>.ite (!b) jA (.jump 2 [x0,x1,(qB i0)])) .fail) (.jump 2 [x0,x1,(qB i0)]))) (.opt (aA x0)<|uI fun n=>.ite (qC n i0) (.opt (rB yA 23 x1 (uZ i0)) fun a=>.light (fun m=>dA yA 50 ⟨0,m⟩ a)<|uG wO fun X28=>.opt (aA x0)<|uI fun n=>.call 115 [uZ 1,(uZ (uW (i0-n)))]<|uG wO fun X=>.light (fun m=>dA yA 50 ⟨0,m⟩ a) fun a=>.ite (same 10 a (uN X28)) (.call 131 [(uN X28),(uN X)]<|uB fun b=>.ite (!b) jA (.jump 2 [x0,x1,(qB i0)])) .fail) (.jump 2 [x0,x1,(qB i0)]))) cD
def t65:T:=.opt (aA x0)<|uI fun n1=>.opt (aA x1)<|uI fun n=>.ite (!zB n1 n) jA (.opt (aA x1)<|uI fun n=>.light (fun m=>zE yA 24 ⟨0,m⟩ x0 none (some (uZ (uW (n+12))))) fun a=>.jump 2 [x1,a,uZ 0])
def t65_2:T:=.opt (aA x1)<|uI fun n=>.ite (lB i0 n) (.opt (aA x0)<|uI fun n=>.ite (lB i0 n) (.opt (rB yA 24 x1 (uZ i0)) fun a=>.light (fun m=>dA yA 55 ⟨0,m⟩ a)<|uG xN fun X6=>.opt (rB yA 24 x0 (uZ i0)) fun a=>.light (fun m=>dA yA 55 ⟨0,m⟩ a)<|uG xN fun X=>.call 132 [(wK X6),(wK X)]<|uB fun b=>.ite (!b) jA (.opt (aA x0)<|uI fun n=>.ite (qC n i0) (.opt (rB yA 24 x1 (uZ i0)) fun a=>.light (fun m=>dA yA 55 ⟨0,m⟩ a)<|uG xN fun X16=>.opt (aA x0)<|uI fun n=>.call 117 [uZ 1,(uZ (uW (i0-n)))]<|uG xN fun X=>.light (fun m=>dA yA 55 ⟨0,m⟩ a) fun a=>.ite (same 10 a (wK X16)) (.call 133 [(wK X16),(wK X)]<|uB fun b=>.ite (!b) jA (.jump 2 [x0,x1,(qB i0)])) .fail) (.jump 2 [x0,x1,(qB i0)]))) (.opt (aA x0)<|uI fun n=>.ite (qC n i0) (.opt (rB yA 24 x1 (uZ i0)) fun a=>.light (fun m=>dA yA 55 ⟨0,m⟩ a)<|uG xN fun X28=>.opt (aA x0)<|uI fun n=>.call 117 [uZ 1,(uZ (uW (i0-n)))]<|uG xN fun X=>.light (fun m=>dA yA 55 ⟨0,m⟩ a) fun a=>.ite (same 10 a (wK X28)) (.call 133 [(wK X28),(wK X)]<|uB fun b=>.ite (!b) jA (.jump 2 [x0,x1,(qB i0)])) .fail) (.jump 2 [x0,x1,(qB i0)]))) cD
def t66:T:=.call 134 [.agg [.bool g0,x0,.bool g1,x1]]<|uG zz8z fun X=>.ite (mC (uM8 X)) (.ite (mC [uY i0,.bool (X.b 0),X.v 1,.bool (X.b 2),X.v 3,uZ i1]) (.ret (.agg [uY i0,.bool (X.b 0),X.v 1,.bool (X.b 2),X.v 3,uZ i1])) .fail) .fail
def t67:T:=.opt (aA x0)<|uI fun n=>.heavy (fJ yA 37 (uZ 0) (uZ (uW (n+12)))) fun a=>.jump 2 [x0,a,uZ 0]
def t67_2:T:=.opt (aA x0)<|uI fun n=>.ite (lB i0 n) (.opt (rB yA 37 x0 (uZ i0)) fun a=>.light (fun m=>dA yA 39 ⟨0,m⟩ a)<|uG xK fun X=>.call 27 [(aG X)]<|uG xK fun X=>.ite (mC (uM0 X)) (.heavy (jE yA 37 1 [(0,(aG X))]) fun a=>.heavy (vF yA 37 37 x1 a) fun a=>.jump 2 [x0,a,(qB i0)]) .fail) (.jump 6 [x0,x1,uZ 0])
def zhh:T:=.ite (lB i0 12) (.call 135 [uZ 1,uZ i0]<|uG xK fun X=>.heavy (jE yA 37 1 [(0,(aG X))]) fun a=>.heavy (vF yA 37 37 x1 a) fun a=>.jump 6 [x0,a,(qB i0)]) (.opt (aA x0)<|uI fun n=>.light (fun m=>zE yA 37 ⟨0,m⟩ x1 none (some (uZ n))) fun a=>.ret a)
def t68:T:=.ite (lB 24 i3) jA (.ite (qC 27 (uW i0)) jA (.opt (aE x0) fun a=>.opt (rB yA 201 a (uY i0)) fun a1=>.opt (aE a1) fun a=>.opt (dC yA 168 0 a) fun a=>.light (fun m=>dA yA 5 ⟨0,m⟩ a)<|uU fun n=>.ite (zB n 0) jA (.opt (aA x3)<|uI fun n7=>.opt (aE a1) fun a=>.opt (dC yA 168 3 a) fun a=>.light (fun m=>dA yA 3 ⟨0,m⟩ a)<|uI fun n=>.ite (lB n7 n) jA (.opt (aA x3)<|uI fun n13=>.opt (aE a1) fun a=>.opt (dC yA 168 4 a) fun a=>.light (fun m=>dA yA 3 ⟨0,m⟩ a)<|uI fun n=>.ite (lB n n13) jA (.opt (aE a1) fun a=>.opt (dC yA 168 2 a) fun a=>.light (fun m=>dA yA 4 ⟨0,m⟩ a)<|uB fun b=>.ite b (.call 107 [.str l0]<|uB fun b=>.ite (!b) jA (.opt (aE a1) fun a=>.opt (dC yA 168 2 a) fun a=>.light (fun m=>dA yA 4 ⟨0,m⟩ a)<|uB fun b=>.ite (!b) (.ite (!zD l0 []) jA (uQ3 i1 g0 x1 g1 x2 i2 i0 i3 x0 l0 x3)) (uQ3 i1 g0 x1 g1 x2 i2 i0 i3 x0 l0 x3))) (.opt (aE a1) fun a=>.opt (dC yA 168 2 a) fun a=>.light (fun m=>dA yA 4 ⟨0,m⟩ a)<|uB fun b=>.ite (!b) (.ite (!zD l0 []) jA (uQ3 i1 g0 x1 g1 x2 i2 i0 i3 x0 l0 x3)) (uQ3 i1 g0 x1 g1 x2 i2 i0 i3 x0 l0 x3)))))))
def zem:T:=.call 136 [.agg [uY i4,.bool g2,x4,.bool g3,x5,uZ i5]]<|uB fun b=>.ite (!b) jA (.opt (aA x3)<|uI fun n=>.jump 4 [uZ i0,x3,uZ n,uZ 0,x0])
def zhg:T:=.ite (lB i2 i1) (.opt (rB yA 37 x0 (uZ i2)) fun a=>.light (fun m=>dA yA 39 ⟨0,m⟩ a)<|uG xK fun X=>.ite (mC (uM0 X)) (.call 68 [.agg [x1],(aG X),(qB i0)]<|uB fun b=>.ite (!b) jA (.jump 4 [uZ i0,x0,uZ i1,(qB i2),x1])) .fail) cD
def t69:T:=.call 105 [] fun a=>.ite (mC [a]) (.heavy (Es yA 171 (.agg [.nilptr,.nilslice,a])) fun a1=>.call 137 [a1,.agg [uY i0,.str l0,uY i1,.bool g0,x0,.bool g1,x1,uZ i2,x2]] fun a=>.opt (aE a1) fun a=>.opt (dC yA 171 0 a) fun a=>.call 47 [a]<|uS fun s=>.ret (.str s)) .fail
def t70:T:=.call 138 [uY i0] fun a=>.opt (uX 0 a)<|uI fun n2=>.opt (uX 1 a)<|uI fun n4=>.ite (lB i3 1) jA (.opt (aA x2)<|uI fun n=>.ite (lB n n2) jA (.opt (aA x2)<|uI fun n=>.ite (lB n4 n) jA (.call 139 [uY i0]<|uB fun b=>.ite b (.call 58 [.str l0]<|uB fun b=>.ite (!b) jA (.jump 19 [uZ i3,uY i0,.str l0,uY i1,.bool g0,x0,.bool g1,x1,uZ i2,x2])) (.ite (!zD l0 []) jA (.jump 19 [uZ i3,uY i0,.str l0,uY i1,.bool g0,x0,.bool g1,x1,uZ i2,x2])))))
def zel:T:=.ite (zB i1 1) (.call 30 [.agg [uY i2,.bool g0,x0,.bool g1,x1,uZ i3]]<|uS fun s=>.ret (.bool (!zD s []))) (.ite (!zB i2 0) jA (.call 72 [.agg [.bool g0,x0,.bool g1,x1]]<|uB fun b=>.ite (!b) jA (.ite (zB i1 19) (.ite (lB i3 1) jA (.ite (lB 6 i3) jA (.jump 37 [uZ i0,uY i1,.str l0,uY i2,.bool g0,x0,.bool g1,x1,uZ i3,x2]))) (.ite (!zB i3 0) jA (.jump 37 [uZ i0,uY i1,.str l0,uY i2,.bool g0,x0,.bool g1,x1,uZ i3,x2])))))
def zek:T:=.jump 2 [uZ i0,uZ 0,uY i1,.str l0,uY i2,.bool g0,x0,.bool g1,x1,uZ i3,x2]
def zhd:T:=.opt (aA x2)<|uI fun n=>.ite (lB i1 n) (.opt (rB yA 37 x2 (uZ i1)) fun a=>.light (fun m=>dA yA 39 ⟨0,m⟩ a)<|uG xK fun X=>.call 70 [(aG X),(uZ (uW (i0-1)))]<|uB fun b=>.ite (!b) jA (.jump 2 [uZ i0,(qB i1),uY i2,.str l0,uY i3,.bool g0,x0,.bool g1,x1,uZ i4,x2])) cD
def zej:T:=.jump 4 [.str l0,uZ 0,uY i0,.str l1,uY i1,.bool g0,x0,.bool g1,x1,uZ i2,x2]
def zhc:T:=.opt (aA x2)<|uI fun n=>.ite (lB i0 n) (.ite (lB 0 i0) (.opt (xC l0 [44,32])<|uS fun s=>.jump 61 [.str s,uZ i0,uY i1,.str l1,uY i2,.bool g0,x0,.bool g1,x1,uZ i3,x2]) (.jump 61 [.str l0,uZ i0,uY i1,.str l1,uY i2,.bool g0,x0,.bool g1,x1,uZ i3,x2])) (.ite (zB i1 19) (.opt (xC l0 [44,32])<|uS fun s5=>.call 143 [(uY (iA .u8 i3))]<|uS fun s=>.opt (xC s5 s)<|uS fun s=>.opt (xC s [41])<|uS fun s=>.ret (.str s)) (.opt (xC l0 [41])<|uS fun s=>.ret (.str s)))
def t71_61:T:=.opt (rB yA 37 x2 (uZ i0)) fun a=>.light (fun m=>dA yA 39 ⟨0,m⟩ a)<|uG xK fun X=>.call 71 [(aG X)]<|uS fun s=>.opt (xC l0 s)<|uS fun s=>.jump 4 [.str s,(qB i0),uY i1,.str l1,uY i2,.bool g0,x0,.bool g1,x1,uZ i3,x2]
def t72:T:=.ite (!g0) (.opt (aA x0)<|uI fun n=>.ite (zB n 0) (.ite (!g1) (.opt (aA x1)<|uI fun n=>.ret (.bool (zB n 0))) jA) jA) jA
def t73:T:=.ite (zB i0 i3) (.ite (zD l0 l1) (.call 144 [.agg [uY i1,.bool g0,x0,.bool g1,x1,uZ i2],.agg [uY i4,.bool g2,x3,.bool g3,x4,uZ i5]]<|uB fun b=>.ite b (.call 145 [x2,x5]<|uB fun b=>.ret (.bool b)) jA) jA) jA
def t74:T:=.call 144 [.agg [uY i0,.bool g0,x0,.bool g1,x1,uZ i1],.agg [uY i2,.bool g2,x2,.bool g3,x3,uZ i3]]<|uB fun b=>.ite b (.call 146 [.agg [.bool g0,x0,.bool g1,x1],.agg [.bool g2,x2,.bool g3,x3]]<|uB fun b=>.ret (.bool b)) jA
def t75:T:=.opt (aA x0)<|uI fun n1=>.opt (aA x1)<|uI fun n=>.ite (!zB n1 n) jA (.opt (aA x1)<|uI fun n=>.light (fun m=>zE yA 37 ⟨0,m⟩ x0 none (some (uZ (uW (n+12))))) fun a=>.jump 2 [x1,a,uZ 0])
def t75_2:T:=.opt (aA x1)<|uI fun n=>.ite (lB i0 n) (.opt (aA x0)<|uI fun n=>.ite (lB i0 n) (.opt (rB yA 37 x1 (uZ i0)) fun a=>.light (fun m=>dA yA 39 ⟨0,m⟩ a)<|uG xK fun X6=>.opt (rB yA 37 x0 (uZ i0)) fun a=>.light (fun m=>dA yA 39 ⟨0,m⟩ a)<|uG xK fun X=>.call 31 [(aG X6),(aG X)]<|uB fun b=>.ite (!b) jA (.opt (aA x0)<|uI fun n=>.ite (qC n i0) (.opt (rB yA 37 x1 (uZ i0)) fun a=>.light (fun m=>dA yA 39 ⟨0,m⟩ a)<|uG xK fun X16=>.opt (aA x0)<|uI fun n=>.call 135 [uZ 1,(uZ (uW (i0-n)))]<|uG xK fun X=>.light (fun m=>dA yA 39 ⟨0,m⟩ a) fun a=>.ite (same 10 a (aG X16)) (.call 73 [(aG X16),(aG X)]<|uB fun b=>.ite (!b) jA (.jump 2 [x0,x1,(qB i0)])) .fail) (.jump 2 [x0,x1,(qB i0)]))) (.opt (aA x0)<|uI fun n=>.ite (qC n i0) (.opt (rB yA 37 x1 (uZ i0)) fun a=>.light (fun m=>dA yA 39 ⟨0,m⟩ a)<|uG xK fun X28=>.opt (aA x0)<|uI fun n=>.call 135 [uZ 1,(uZ (uW (i0-n)))]<|uG xK fun X=>.light (fun m=>dA yA 39 ⟨0,m⟩ a) fun a=>.ite (same 10 a (aG X28)) (.call 73 [(aG X28),(aG X)]<|uB fun b=>.ite (!b) jA (.jump 2 [x0,x1,(qB i0)])) .fail) (.jump 2 [x0,x1,(qB i0)]))) cD
def t89:T:=.opt (aA x0)<|uI fun n=>.ite (lB 42 n) jA (.opt (aA x1)<|uI fun n=>.ite (lB 42 n) jA (.call 157 [.agg [.bool g0,x0,.bool g1,x1]]<|uB fun b=>.ite (!b) jA (.call 158 [.agg [.bool g0,x0,.bool g1,x1]] fun a=>.opt (uX 0 a)<|uS fun s=>.opt (uX 1 a)<|uI fun n=>.ite (zB n 0) (.call 159 [.str s,.str [45]]<|uS fun s=>.ret (.bool (qC (Int.ofNat (kB s)) 200))) jA)))
def t90:T:=.ite (!g0) (.ite (!g1) (.opt (aA x0)<|uI fun n1=>.opt (aA x1)<|uI fun n=>.ret (.bool (zB (uW (n1+n)) 0))) jA) jA
def t91:T:=.ite (qC 0 i0) (.ret (.bool (lB i0 65536))) jA
def t92:T:=.call 160 [.bool g0]<|uS fun s=>.ret (.str s)
def t93:T:=.call 158 [.agg [.bool g0,x0,.bool g1,x1]] fun a=>.opt (uX 0 a)<|uS fun s=>.opt (uX 1 a)<|uI fun n=>.call 161 [.str s]<|uS fun s=>.ret (.str s)
def t94:T:=.call 162 [uZ i0] fun a=>.opt (uX 0 a)<|uI fun n2=>.opt (uX 1 a)<|uI fun n4=>.opt (uX 2 a)<|uI fun n6=>.opt (uX 3 a)<|uI fun n=>.ite (!zB n 0) (.ret (.str [])) (.ite true (.heavy (eR yA 192) fun a=>.heavy (pE yA 192 a (.agg [uY 0,uY 0,uY 0,uY 0,uY 45,uY 0,uY 0,uY 45,uY 0,uY 0])) fun _=>.light (fun m=>dA yA 192 ⟨0,m⟩ a)<|uG Bs fun X=>.call 163 [(uA6 X),uZ 0,uZ 4,uZ n2]<|uG Bs fun X=>.heavy (pE yA 192 a (uA6 X)) fun _=>.light (fun m=>dA yA 192 ⟨0,m⟩ a)<|uG Bs fun X=>.call 163 [(uA6 X),uZ 5,uZ 2,uZ n4]<|uG Bs fun X=>.heavy (pE yA 192 a (uA6 X)) fun _=>.light (fun m=>dA yA 192 ⟨0,m⟩ a)<|uG Bs fun X=>.call 163 [(uA6 X),uZ 8,uZ 2,uZ n6]<|uG Bs fun X=>.heavy (pE yA 192 a (uA6 X)) fun _=>.light (fun m=>zE yA 192 ⟨0,m⟩ a none none) fun a=>.light (fun m=>kK yA 90 9 ⟨0,m⟩ a)<|uS fun s=>.ret (.str s)) .fail)
def t95:T:=.call 164 [uZ i0]<|uS fun s=>.call 161 [.str s]<|uS fun s=>.ret (.str s)
def t100:T:=.opt (dC yA 26 0 x1) fun a=>.light (fun m=>dA yA 9 ⟨0,m⟩ a)<|uS fun s=>.opt (xC [112,108,97,110,32] s)<|uS fun s=>.callv x0 [.str s]<|uB fun b=>.ite (!b) (.ret (.tup [])) (.opt (dC yA 26 1 x1) fun a=>.light (fun m=>dA yA 22 ⟨0,m⟩ a) fun a=>.opt (aA a)<|uI fun n=>.jump 2 [x0,x1,a,uZ n,uZ 0])
def Uz:T:=.ite (lB i1 i0) (.opt (rB yA 22 x2 (uZ i1)) fun a=>.light (fun m=>dA yA 47 ⟨0,m⟩ a)<|uG xT fun X=>.ite true (.ite (X.b 2) (.jump 15 [x0,x1,.str [102,97,99,116,32],x2,uZ i0,uZ i1,.str (X.s 0),uY (X.i 1),.bool (X.b 2)]) (.jump 15 [x0,x1,.str [100,101,102,32],x2,uZ i0,uZ i1,.str (X.s 0),uY (X.i 1),.bool (X.b 2)])) .fail) (.opt (dC yA 26 2 x1) fun a=>.light (fun m=>dA yA 23 ⟨0,m⟩ a) fun a=>.opt (aA a)<|uI fun n=>.jump 6 [x0,x1,a,uZ n,uZ 0])
def DC:T:=.opt (xC l0 l1)<|uS fun s=>.opt (xC s [32])<|uS fun s3=>.call 101 [uY i2]<|uS fun s=>.ite (same 10 (.str l1) (.str l1)) (.opt (xC s3 s)<|uS fun s=>.callv x0 [.str s]<|uB fun b=>.ite (!b) (.ret (.tup [])) (.jump 2 [x0,x1,x2,uZ i0,(qB i1)])) .fail
def Uy:T:=.ite (lB i1 i0) (.opt (rB yA 23 x2 (uZ i1)) fun a=>.light (fun m=>dA yA 50 ⟨0,m⟩ a)<|uG wO fun X=>.ite (mC (uM3 X)) (.ite (X.b 1) (.jump 31 [x0,x1,.str [32,116,119,111],x2,uZ i0,uZ i1,.str (X.s 0),.bool (X.b 1),X.v 2]) (.jump 31 [x0,x1,.str [32,111,110,101],x2,uZ i0,uZ i1,.str (X.s 0),.bool (X.b 1),X.v 2])) .fail) (.opt (dC yA 26 3 x1) fun a=>.light (fun m=>dA yA 24 ⟨0,m⟩ a) fun a=>.opt (aA a)<|uI fun n=>.jump 14 [x0,a,uZ n,uZ 0])
def DB:T:=.opt (xC [116,97,98,108,101,32] l1)<|uS fun s=>.opt (xC s l0)<|uS fun s=>.callv x0 [.str s]<|uB fun b=>.ite (!b) (.ret (.tup [])) (.opt (aA x3)<|uI fun n=>.jump 10 [x0,x1,x2,uZ i0,uZ i1,x3,uZ n,uZ 0,.str l1,.bool g0,x3])
def Vd:T:=.ite (lB i3 i2) (.opt (rB yA 48 x3 (uZ i3)) fun a=>.light (fun m=>dA yA 53 ⟨0,m⟩ a)<|uG xO fun X=>.ite (mC (uM2 X)) (.call 102 [(dL X),.bool g0]<|uS fun s=>.callv x0 [.str s]<|uB fun b=>.ite (!b) (.ret (.tup [])) (.jump 10 [x0,x1,x2,uZ i0,uZ i1,x3,uZ i2,(qB i3),.str l0,.bool g0,x4])) .fail) (.jump 6 [x0,x1,x2,uZ i0,(qB i1)])
def Vc:T:=.ite (lB i1 i0) (.opt (rB yA 24 x1 (uZ i1)) fun a=>.light (fun m=>dA yA 55 ⟨0,m⟩ a)<|uG xN fun X=>.ite (mC (uM1 X)) (.call 103 [(wK X)]<|uS fun s=>.callv x0 [.str s]<|uB fun b=>.ite (!b) (.ret (.tup [])) (.jump 14 [x0,x1,uZ i0,(qB i1)])) .fail) (.ret (.tup []))
def t101:T:=.ite (lB (uW i0) 7) (.opt (rB yA 194 (.ptr 0 0) (uY i0)) fun a=>.light (fun m=>dA yA 9 ⟨0,m⟩ a)<|uS fun s=>.ret (.str s)) (.ret (.str []))
def t102:T:=.call 95 [uZ i0]<|uS fun s1=>.ite g2 (.call 95 [uZ i1]<|uS fun s=>.opt (xC [32] s)<|uS fun s=>.opt (xC s1 s)<|uS fun s=>.jump 9 [.str s,uZ i0,uZ i1,uZ i2,.bool g0,x0,.bool g1,x1]) (.jump 9 [.str s1,uZ i0,uZ i1,uZ i2,.bool g0,x0,.bool g1,x1])
def ze2:T:=.opt (xC [114,111,119,32] l0)<|uS fun s=>.opt (xC s [32,107,110,111,119,110,32])<|uS fun s3=>.call 94 [uZ i2]<|uS fun s=>.ite (same 10 (.agg [.bool g0,x0,.bool g1,x1]) (.agg [.bool g0,x0,.bool g1,x1])) (.opt (xC s3 s)<|uS fun s=>.opt (xC s [32,105,115,32])<|uS fun s9=>.call 93 [.agg [.bool g0,x0,.bool g1,x1]]<|uS fun s=>.opt (xC s9 s)<|uS fun s=>.ret (.str s)) .fail
def t103:T:=.ite (lB i1 65536) (.call 94 [uZ i1]<|uS fun s=>.jump 9 [.str s,.str l0,.str l1,uZ i0,uZ i1,uZ i2,.bool g0,uY i3,.str l2,uY i4,.bool g1,x0,.bool g2,x1,uZ i5,x2,uY i6,.str l3,uY i7,.bool g3,x3,.bool g4,x4,uZ i8,x5]) (.jump 9 [.str [101,110,100],.str l0,.str l1,uZ i0,uZ i1,uZ i2,.bool g0,uY i3,.str l2,uY i4,.bool g1,x0,.bool g2,x1,uZ i5,x2,uY i6,.str l3,uY i7,.bool g3,x3,.bool g4,x4,uZ i8,x5])
def ze1:T:=.opt (xC [99,108,97,117,115,101,32] l1)<|uS fun s=>.opt (xC s [32])<|uS fun s=>.opt (xC s l2)<|uS fun s=>.opt (xC s [32,102,114,111,109,32])<|uS fun s7=>.call 94 [uZ i0]<|uS fun s=>.ite (same 10 (.str l1) (.str l1)) (.ite (same 10 (.str l2) (.str l2)) (.ite (same 10 (uZ i2) (uZ i2)) (.opt (xC s7 s)<|uS fun s=>.opt (xC s [32,116,111,32])<|uS fun s=>.opt (xC s l0)<|uS fun s=>.opt (xC s [32,107,110,111,119,110,32])<|uS fun s17=>.call 94 [uZ i2]<|uS fun s=>.ite (same 10 (.str l1) (.str l1)) (.ite (same 10 (.str l2) (.str l2)) (.opt (xC s17 s)<|uS fun s21=>.ite g0 (.opt (xC s21 [32,111,102,102])<|uS fun s=>.ret (.str s)) (.opt (xC s21 [32,119,104,101,110,32])<|uS fun s25=>.call 69 [.agg [uY i3,.str l3,uY i4,.bool g1,x0,.bool g2,x1,uZ i5,x2]]<|uS fun s=>.ite (same 10 (.agg [uY i6,.str l4,uY i7,.bool g3,x3,.bool g4,x4,uZ i8,x5]) (.agg [uY i6,.str l4,uY i7,.bool g3,x3,.bool g4,x4,uZ i8,x5])) (.opt (xC s25 s)<|uS fun s=>.opt (xC s [32,116,104,101,110,32])<|uS fun s31=>.call 69 [.agg [uY i6,.str l4,uY i7,.bool g3,x3,.bool g4,x4,uZ i8,x5]]<|uS fun s=>.opt (xC s31 s)<|uS fun s=>.ret (.str s)) .fail)) .fail) .fail) .fail) .fail) .fail
def t105:T:=.ite true (.ite true (.callv (.func (.func 167) [] []) [.str [102,97,99,116,32]]<|uG gJ fun X1=>.callv (.func (.func 167) [] []) [.str [104,97,115,32]]<|uG gJ fun X3=>.callv (.func (.func 167) [] []) [.str []]<|uG gJ fun X5=>.callv (.func (.func 166) [] []) [.str [108,111,111,107],.bool true,uZ 1,uZ 2]<|uG gJ fun X7=>.callv (.func (.func 168) [] []) [.str [43],uZ 5,uZ 5,uZ 6]<|uG gJ fun X9=>.callv (.func (.func 168) [] []) [.str [45],uZ 5,uZ 5,uZ 6]<|uG gJ fun X11=>.callv (.func (.func 168) [] []) [.str [42],uZ 6,uZ 6,uZ 7]<|uG gJ fun X13=>.callv (.func (.func 168) [] []) [.str [47],uZ 6,uZ 6,uZ 7]<|uG gJ fun X15=>.callv (.func (.func 166) [] []) [.str [109,105,110],.bool false,uZ 2,uZ 2]<|uG gJ fun X17=>.callv (.func (.func 166) [] []) [.str [109,97,120],.bool false,uZ 2,uZ 2]<|uG gJ fun X19=>.callv (.func (.func 168) [] []) [.str [60],uZ 4,uZ 5,uZ 5]<|uG gJ fun X21=>.callv (.func (.func 168) [] []) [.str [61],uZ 4,uZ 5,uZ 5]<|uG gJ fun X23=>.callv (.func (.func 168) [] []) [.str [97,110,100],uZ 2,uZ 2,uZ 3]<|uG gJ fun X25=>.callv (.func (.func 168) [] []) [.str [111,114],uZ 1,uZ 1,uZ 2]<|uG gJ fun X27=>.ite true (.callv (.func (.func 166) [] []) [.str [105,102],.bool false,uZ 3,uZ 3]<|uG gJ fun X29=>.callv (.func (.func 166) [] []) [.str [114,111,117,110,100],.bool false,uZ 2,uZ 2]<|uG gJ fun X31=>.callv (.func (.func 166) [] []) [.str [98,101,116,119,101,101,110],.bool false,uZ 2,uZ 2]<|uG gJ fun X33=>.callv (.func (.func 166) [] []) [.str [115,101,114,118,105,99,101],.bool true,uZ 2,uZ 2]<|uG gJ fun X35=>.callv (.func (.func 166) [] []) [.str [98,101,115,116],.bool true,uZ 3,uZ 3]<|uG gJ fun X37=>.callv (.func (.func 166) [] []) [.str [103,114,111,119],.bool true,uZ 2,uZ 2]<|uG gJ fun X39=>.callv (.func (.func 166) [] []) [.str [109,111,110,116,104,115],.bool false,uZ 1,uZ 1]<|uG gJ fun X41=>.callv (.func (.func 166) [] []) [.str [110,117,109,98,101,114],.bool false,uZ 1,uZ 1]<|uG gJ fun X43=>.callv (.func (.func 166) [] []) [.str [115,116,97,114,116],.bool false,uZ 1,uZ 1]<|uG gJ fun X=>.ite true (.heavy (tO (.agg [uY 0,.str [],.bool false,uZ 0,uZ 0,uZ 0,uZ 0,uZ 0,uY 1,.str [],.bool false,uZ 0,uZ 0,uZ 7,uZ 0,uZ 0,uY 2,.str [116,111,100,97,121],.bool false,uZ 0,uZ 0,uZ 7,uZ 0,uZ 0,uY (X1.i 0),.str (X1.s 1),.bool (X1.b 2),uZ (X1.i 3),uZ (X1.i 4),uZ (X1.i 5),uZ (X1.i 6),uZ (X1.i 7),uY (X3.i 0),.str (X3.s 1),.bool (X3.b 2),uZ (X3.i 3),uZ (X3.i 4),uZ (X3.i 5),uZ (X3.i 6),uZ (X3.i 7),uY (X5.i 0),.str (X5.s 1),.bool (X5.b 2),uZ (X5.i 3),uZ (X5.i 4),uZ (X5.i 5),uZ (X5.i 6),uZ (X5.i 7),uY (X7.i 0),.str (X7.s 1),.bool (X7.b 2),uZ (X7.i 3),uZ (X7.i 4),uZ (X7.i 5),uZ (X7.i 6),uZ (X7.i 7),uY (X9.i 0),.str (X9.s 1),.bool (X9.b 2),uZ (X9.i 3),uZ (X9.i 4),uZ (X9.i 5),uZ (X9.i 6),uZ (X9.i 7),uY (X11.i 0),.str (X11.s 1),.bool (X11.b 2),uZ (X11.i 3),uZ (X11.i 4),uZ (X11.i 5),uZ (X11.i 6),uZ (X11.i 7),uY (X13.i 0),.str (X13.s 1),.bool (X13.b 2),uZ (X13.i 3),uZ (X13.i 4),uZ (X13.i 5),uZ (X13.i 6),uZ (X13.i 7),uY (X15.i 0),.str (X15.s 1),.bool (X15.b 2),uZ (X15.i 3),uZ (X15.i 4),uZ (X15.i 5),uZ (X15.i 6),uZ (X15.i 7),uY (X17.i 0),.str (X17.s 1),.bool (X17.b 2),uZ (X17.i 3),uZ (X17.i 4),uZ (X17.i 5),uZ (X17.i 6),uZ (X17.i 7),uY (X19.i 0),.str (X19.s 1),.bool (X19.b 2),uZ (X19.i 3),uZ (X19.i 4),uZ (X19.i 5),uZ (X19.i 6),uZ (X19.i 7),uY (X21.i 0),.str (X21.s 1),.bool (X21.b 2),uZ (X21.i 3),uZ (X21.i 4),uZ (X21.i 5),uZ (X21.i 6),uZ (X21.i 7),uY (X23.i 0),.str (X23.s 1),.bool (X23.b 2),uZ (X23.i 3),uZ (X23.i 4),uZ (X23.i 5),uZ (X23.i 6),uZ (X23.i 7),uY (X25.i 0),.str (X25.s 1),.bool (X25.b 2),uZ (X25.i 3),uZ (X25.i 4),uZ (X25.i 5),uZ (X25.i 6),uZ (X25.i 7),uY (X27.i 0),.str (X27.s 1),.bool (X27.b 2),uZ (X27.i 3),uZ (X27.i 4),uZ (X27.i 5),uZ (X27.i 6),uZ (X27.i 7),uY 5,.str [110,111,116,32],.bool false,uZ 1,uZ 1,uZ 3,uZ 3,uZ 3,uY (X29.i 0),.str (X29.s 1),.bool (X29.b 2),uZ (X29.i 3),uZ (X29.i 4),uZ (X29.i 5),uZ (X29.i 6),uZ (X29.i 7),uY (X31.i 0),.str (X31.s 1),.bool (X31.b 2),uZ (X31.i 3),uZ (X31.i 4),uZ (X31.i 5),uZ (X31.i 6),uZ (X31.i 7),uY (X33.i 0),.str (X33.s 1),.bool (X33.b 2),uZ (X33.i 3),uZ (X33.i 4),uZ (X33.i 5),uZ (X33.i 6),uZ (X33.i 7),uY (X35.i 0),.str (X35.s 1),.bool (X35.b 2),uZ (X35.i 3),uZ (X35.i 4),uZ (X35.i 5),uZ (X35.i 6),uZ (X35.i 7),uY (X37.i 0),.str (X37.s 1),.bool (X37.b 2),uZ (X37.i 3),uZ (X37.i 4),uZ (X37.i 5),uZ (X37.i 6),uZ (X37.i 7),uY (X39.i 0),.str (X39.s 1),.bool (X39.b 2),uZ (X39.i 3),uZ (X39.i 4),uZ (X39.i 5),uZ (X39.i 6),uZ (X39.i 7),uY (X41.i 0),.str (X41.s 1),.bool (X41.b 2),uZ (X41.i 3),uZ (X41.i 4),uZ (X41.i 5),uZ (X41.i 6),uZ (X41.i 7),uY (X43.i 0),.str (X43.s 1),.bool (X43.b 2),uZ (X43.i 3),uZ (X43.i 4),uZ (X43.i 5),uZ (X43.i 6),uZ (X43.i 7),uY (X.i 0),.str (X.s 1),.bool (X.b 2),uZ (X.i 3),uZ (X.i 4),uZ (X.i 5),uZ (X.i 6),uZ (X.i 7)])) fun a=>.ret a) .fail) .fail) .fail) .fail
def t106:T:=.call 107 [.str l0]<|uB fun b=>.ite b (.ite (qC 1 i0) (.ret (.bool (qC i0 6))) jA) jA
def t107:T:=.ite (zD l0 []) jA (.ite (lB 24 (Int.ofNat (kB l0))) jA (.opt (fR yA 9 (.str l0) (uZ 0))<|uU fun n=>.call 169 [uY n]<|uB fun b=>.ite (!b) jA (.call 170 [.str l0,(.func (.func 171) [] [])]<|uS fun s=>.ite (zD s l0) (.call 172 [.str l0]<|uB fun b=>.ret (.bool (!b))) jA)))
def t108:T:=.opt (aA x0)<|uI fun n=>.jump 2 [x1,x0,uZ n,uZ 0]
def t108_2:T:=.ite (lB i1 i0) (.opt (rB yA 22 x1 (uZ i1)) fun a=>.light (fun m=>dA yA 47 ⟨0,m⟩ a)<|uG xT fun X=>.ite true (.callv x0 [(oP X)]<|uB fun b=>.ite (!b) jA (.jump 2 [x0,x1,uZ i0,(qB i1)])) .fail) cD
def t109:T:=.opt (aA x0)<|uI fun n=>.jump 2 [x1,x0,uZ n,uZ 0]
def t109_2:T:=.ite (lB i1 i0) (.opt (rB yA 23 x1 (uZ i1)) fun a=>.light (fun m=>dA yA 50 ⟨0,m⟩ a)<|uG wO fun X=>.ite (mC (uM3 X)) (.callv x0 [(uN X)]<|uB fun b=>.ite (!b) jA (.jump 2 [x0,x1,uZ i0,(qB i1)])) .fail) cD
def t110:T:=.heavy (tO (.agg [.str l0,.bool g0,x0])) fun a0=>.heavy (eR yA 112) fun a1=>.heavy (pE yA 112 a1 (.func (.func 173) [] [])) fun _=>.opt (dC yA 50 0 a0) fun a=>.light (fun m=>dA yA 9 ⟨0,m⟩ a)<|uS fun s=>.call 107 [.str s]<|uB fun b=>.ite b (.opt (dC yA 50 2 a0) fun a=>.light (fun m=>dA yA 48 ⟨0,m⟩ a) fun a=>.call 175 [a,(.func (.func 174) [] [a1,a0])]<|uB fun b=>.ret (.bool b)) jA
def t111:T:=.opt (aA x0)<|uI fun n=>.jump 2 [x1,x0,uZ n,uZ 0]
def t111_2:T:=.ite (lB i1 i0) (.opt (rB yA 24 x1 (uZ i1)) fun a=>.light (fun m=>dA yA 55 ⟨0,m⟩ a)<|uG xN fun X=>.ite (mC (uM1 X)) (.callv x0 [(wK X)]<|uB fun b=>.ite (!b) jA (.jump 2 [x0,x1,uZ i0,(qB i1)])) .fail) cD
def t112:T:=.call 107 [.str l0]<|uB fun b=>.ite (!b) jA (.call 107 [.str l1]<|uB fun b=>.ite (!b) jA (.call 91 [uZ i0]<|uB fun b=>.ite (!b) jA (.call 91 [uZ i2]<|uB fun b=>.ite (!b) jA (.call 91 [uZ i1]<|uB fun b=>.ite (!b) (.ite (!zB i1 65536) jA (uQ10 g0 i3 l2 i4 g1 x1 g2 x2 i5 x3 i6 l3 i7 g3 x4 g4 x5 i8 x6 x0)) (uQ10 g0 i3 l2 i4 g1 x1 g2 x2 i5 x3 i6 l3 i7 g3 x4 g4 x5 i8 x6 x0)))))
def t113:T:=.call 177 [uZ i0,uZ i1]<|uS fun s=>.ite true (.ite true (.ret (.agg [.str s,uY 0,.bool false])) .fail) .fail
def t114:T:=.call 178 [x0] fun a=>.ite (mC [a]) (.ite (mC [.str l0,.bool g0,a]) (.ret (.agg [.str l0,.bool g0,a])) .fail) .fail
def t115:T:=.call 177 [uZ i0,uZ i1]<|uS fun s=>.ite true (.ite true (.ret (.agg [.str s,.bool false,.nilslice])) .fail) .fail
def t116:T:=.call 27 [.agg [uY i3,.str l2,uY i4,.bool g1,x0,.bool g2,x1,uZ i5,x2]]<|uG xK fun X1=>.ite (mC (uM0 X1)) (.call 27 [.agg [uY i6,.str l3,uY i7,.bool g3,x3,.bool g4,x4,uZ i8,x5]]<|uG xK fun X=>.ite (mC (uM0 X)) (.ite (mC [.str l0,.str l1,uZ i0,uZ i1,uZ i2,.bool g0,uY (X1.i 0),.str (X1.s 1),uY (X1.i 2),.bool (X1.b 3),X1.v 4,.bool (X1.b 5),X1.v 6,uZ (X1.i 7),X1.v 8,uY (X.i 0),.str (X.s 1),uY (X.i 2),.bool (X.b 3),X.v 4,.bool (X.b 5),X.v 6,uZ (X.i 7),X.v 8]) (.ret (.agg [.str l0,.str l1,uZ i0,uZ i1,uZ i2,.bool g0,uY (X1.i 0),.str (X1.s 1),uY (X1.i 2),.bool (X1.b 3),X1.v 4,.bool (X1.b 5),X1.v 6,uZ (X1.i 7),X1.v 8,uY (X.i 0),.str (X.s 1),uY (X.i 2),.bool (X.b 3),X.v 4,.bool (X.b 5),X.v 6,uZ (X.i 7),X.v 8])) .fail) .fail) .fail
def t117:T:=.call 177 [uZ i0,uZ i1]<|uS fun s=>.ite true (.ite true (.ret (.agg [.str [],.str s,uZ 0,uZ 0,uZ 0,.bool false,uY 0,.str [],uY 0,.bool false,.nilslice,.bool false,.nilslice,uZ 0,.nilslice,uY 0,.str [],uY 0,.bool false,.nilslice,.bool false,.nilslice,uZ 0,.nilslice])) .fail) .fail
def t118:T:=.call 179 [.agg [.bool g0,x0]]<|uB fun b=>.ite (!b) (.ret (.tup [.str [],uZ 2])) (.call 180 [x0] fun a2=>.opt (uX 0 a2) fun a3=>.opt (uX 1 a2)<|uI fun n=>.heavy (jE yA 90 1 [(0,(uY (iA .u8 (uW (48+n)))))]) fun a=>.light (fun m=>kK yA 90 9 ⟨0,m⟩ a)<|uS fun s=>.jump 2 [a3,.str s,.bool g0,x0])
def ze0:T:=.opt (aA x0)<|uI fun n=>.ite (lB 0 n) (.call 180 [x0] fun a2=>.opt (uX 0 a2) fun a3=>.opt (uX 1 a2)<|uI fun n=>.heavy (jE yA 90 1 [(0,(uY (iA .u8 (uW (48+n)))))]) fun a=>.light (fun m=>kK yA 90 9 ⟨0,m⟩ a)<|uS fun s=>.opt (xC s l0)<|uS fun s=>.jump 2 [a3,.str s,.bool g0,x1]) (.ite g0 (.opt (xC [45] l0)<|uS fun s=>.ret (.tup [.str s,uZ 0])) (.ret (.tup [.str l0,uZ 0])))
def t119:T:=.ite (lB i0 0) (.jump 9 [uZ i0,(.int .u64 (iA .u64 (0-(iA .u64 i0)))),.bool false,.nilslice]) (.jump 9 [uZ i0,(.int .u64 (iA .u64 i0)),.bool false,.nilslice])
def zez:T:=.jump 2 [uZ i0,.int .u64 i1,.nilslice,.bool g0,x0]
def Ux:T:=.ite (lB 0 i1) (.heavy (jE yA 30 1 [(0,(.int .u16 (iA .u16 (Int.tmod i1 65536))))]) fun a=>.heavy (vF yA 30 30 x0 a) fun a=>.jump 2 [uZ i0,(.int .u64 (iA .u64 (Int.tdiv i1 65536))),a,.bool g0,x1]) (.call 181 [(.bool (lB i0 0)),x0]<|uG mZ fun X=>.ite (mC (pP X)) (.ret (nP X)) .fail)
def t120:T:=.call 60 [uZ i0]<|uB fun b=>.ite (!b) (.ret (.tup [uZ 0,uZ 0,uZ 0,uZ 2])) (.jump 2 [uZ 1900,uZ 1,uZ i0])
def Nk:T:=.call 182 [uZ i0,uZ i1]<|uI fun n=>.ite (qC n i2) (.call 182 [uZ i0,uZ i1]<|uI fun n=>.ite (lB 12 (uW (i1+1))) (.jump 2 [(qB i0),uZ 1,(uZ (uW (i2-n)))]) (.jump 2 [uZ i0,(qB i1),(uZ (uW (i2-n)))])) (.ret (.tup [uZ i0,uZ i1,(qB i2),uZ 0]))
def t121:T:=.jump 2 [uZ i0,uZ i1,.str [],uZ 0]
def Uw:T:=.ite (lB i2 i1) (.heavy (jE yA 90 1 [(0,(uY (iA .u8 (uW (48+(Int.tmod i0 10))))))]) fun a=>.light (fun m=>kK yA 90 9 ⟨0,m⟩ a)<|uS fun s=>.opt (xC s l0)<|uS fun s=>.jump 2 [(uZ (uW (Int.tdiv i0 10))),uZ i1,.str s,(qB i2)]) (.ret (.str l0))
def t122:T:=.call 183 [.agg [.bool g0,x0,.bool g1,x1]]<|uB fun b=>.ite (!b) (.ret (.tup [.str [],uZ 2])) (.call 118 [.agg [.bool g0,x0]] fun a=>.opt (uX 0 a)<|uS fun s4=>.opt (uX 1 a)<|uI fun n=>.call 184 [x1]<|uB fun b=>.ite b (.ret (.tup [.str s4,uZ 0])) (.call 118 [.agg [.bool g1,x1]] fun a=>.opt (uX 0 a)<|uS fun s11=>.opt (uX 1 a)<|uI fun n=>.opt (xC s4 [47])<|uS fun s=>.opt (xC s s11)<|uS fun s=>.ret (.tup [.str s,uZ 0])))
def t123:T:=.ite (qC 97 i0) (.ite (qC i0 122) cD (.ite (qC 65 i0) (.ret (.bool (qC i0 90))) jA)) (.ite (qC 65 i0) (.ret (.bool (qC i0 90))) jA)
def t124:T:=.jump 2 [.str l0,uZ i0]
def Uv:T:=.call 149 [.str l0,uZ i0]<|uU fun n=>.call 185 [uY n]<|uB fun b=>.ite b (.jump 2 [.str l0,(qB i0)]) (.ret (uZ i0))
def t125:T:=.call 186 [] fun a=>.jump 2 [.str l0,a,uZ 0]
def Uu:T:=.opt (aA x0)<|uI fun n=>.ite (lB i0 n) (.opt (rB yA 42 x0 (uZ i0)) fun a=>.light (fun m=>dA yA 9 ⟨0,m⟩ a)<|uS fun s=>.ite (zD s l0) cD (.jump 2 [.str l0,x0,(qB i0)])) jA
def t126:T:=.ite (zB i0 0) (.ite (zD l0 []) (.opt (aA x2)<|uI fun n=>.ite (zB n 0) (.ite (zB i1 0) (.ite (zB i2 0) (.call 72 [.agg [.bool g0,x0,.bool g1,x1]]<|uB fun b=>.ret (.bool b)) jA) jA) jA) jA) jA
def t127:T:=.opt (aA x0)<|uI fun n1=>.opt (aA x1)<|uI fun n=>.ite (!zB n1 n) jA (.jump 2 [x0,x1,uZ 0])
def t127_2:T:=.opt (aA x0)<|uI fun n=>.ite (lB i0 n) (.opt (rB yA 22 x0 (uZ i0)) fun a=>.light (fun m=>dA yA 47 ⟨0,m⟩ a)<|uG xT fun X4=>.opt (rB yA 22 x1 (uZ i0)) fun a=>.light (fun m=>dA yA 47 ⟨0,m⟩ a)<|uG xT fun X=>.opt ((zN .neq).f yA 47 (.tmp 20) (.tmp 24) (oP X4) (oP X))<|uB fun b=>.ite b jA (.jump 2 [x0,x1,(qB i0)])) cD
def t128:T:=.opt (aA x0)<|uI fun n1=>.opt (aA x1)<|uI fun n=>.ite (!zB n1 n) jA (.jump 2 [x0,x1,uZ 0])
def t128_2:T:=.opt (aA x0)<|uI fun n=>.ite (lB i0 n) (.opt (rB yA 23 x0 (uZ i0)) fun a=>.light (fun m=>dA yA 50 ⟨0,m⟩ a)<|uG wO fun X4=>.opt (rB yA 23 x1 (uZ i0)) fun a=>.light (fun m=>dA yA 50 ⟨0,m⟩ a)<|uG wO fun X=>.call 131 [(uN X4),(uN X)]<|uB fun b=>.ite (!b) jA (.jump 2 [x0,x1,(qB i0)])) cD
def t129:T:=.opt (aA x0)<|uI fun n1=>.opt (aA x1)<|uI fun n=>.ite (!zB n1 n) jA (.jump 2 [x0,x1,uZ 0])
def t129_2:T:=.opt (aA x0)<|uI fun n=>.ite (lB i0 n) (.opt (rB yA 24 x0 (uZ i0)) fun a=>.light (fun m=>dA yA 55 ⟨0,m⟩ a)<|uG xN fun X4=>.opt (rB yA 24 x1 (uZ i0)) fun a=>.light (fun m=>dA yA 55 ⟨0,m⟩ a)<|uG xN fun X=>.call 133 [(wK X4),(wK X)]<|uB fun b=>.ite (!b) jA (.jump 2 [x0,x1,(qB i0)])) cD
def t130:T:=.call 131 [.agg [.str l0,.bool g0,x0],.agg [.str l1,.bool g1,x1]]<|uB fun b=>.ite b (.call 187 [x0,x1]<|uB fun b=>.ret (.bool b)) jA
def t131:T:=.ite (zD l0 l1) (.ite (bEq g0 g1) (.call 188 [x0,x1]<|uB fun b=>.ret (.bool b)) jA) jA
def t132:T:=.call 133 [.agg [.str l0,.str l1,uZ i0,uZ i1,uZ i2,.bool g0,uY i3,.str l2,uY i4,.bool g1,x0,.bool g2,x1,uZ i5,x2,uY i6,.str l3,uY i7,.bool g3,x3,.bool g4,x4,uZ i8,x5],.agg [.str l4,.str l5,uZ i9,uZ j0,uZ j1,.bool g5,uY j2,.str l6,uY j3,.bool g6,x6,.bool g7,x7,uZ j4,x8,uY j5,.str l7,uY j6,.bool g8,x9,.bool g9,y0,uZ j7,y1]]<|uB fun b=>.ite b (.call 31 [.agg [uY i3,.str l2,uY i4,.bool g1,x0,.bool g2,x1,uZ i5,x2],.agg [uY j2,.str l6,uY j3,.bool g6,x6,.bool g7,x7,uZ j4,x8]]<|uB fun b=>.ite b (.call 31 [.agg [uY i6,.str l3,uY i7,.bool g3,x3,.bool g4,x4,uZ i8,x5],.agg [uY j5,.str l7,uY j6,.bool g8,x9,.bool g9,y0,uZ j7,y1]]<|uB fun b=>.ret (.bool b)) jA) jA
def t133:T:=.ite (zD l0 l4) (.ite (zD l1 l5) (.ite (zB i0 i9) (.ite (zB i1 j0) (.ite (zB i2 j1) (.ite (bEq g0 g5) (.call 73 [.agg [uY i3,.str l2,uY i4,.bool g1,x0,.bool g2,x1,uZ i5,x2],.agg [uY j2,.str l6,uY j3,.bool g6,x6,.bool g7,x7,uZ j4,x8]]<|uB fun b=>.ite b (.call 73 [.agg [uY i6,.str l3,uY i7,.bool g3,x3,.bool g4,x4,uZ i8,x5],.agg [uY j5,.str l7,uY j6,.bool g8,x9,.bool g9,y0,uZ j7,y1]]<|uB fun b=>.ret (.bool b)) jA) jA) jA) jA) jA) jA) jA
def t134:T:=.call 189 [.agg [.bool g0,x0]]<|uG mZ fun X1=>.ite (mC (pP X1)) (.call 189 [.agg [.bool g1,x1]]<|uG mZ fun X=>.ite (mC (pP X)) (.ite (mC [.bool (X1.b 0),X1.v 1,.bool (X.b 0),X.v 1]) (.ret (.agg [.bool (X1.b 0),X1.v 1,.bool (X.b 0),X.v 1])) .fail) .fail) .fail
def t135:T:=.call 177 [uZ i0,uZ i1]<|uS fun s=>.ite true (.ite true (.ret (.agg [uY 0,.str s,uY 0,.bool false,.nilslice,.bool false,.nilslice,uZ 0,.nilslice])) .fail) .fail
def t136:T:=.ite (zB i0 0) (.ite (zB i1 0) (.call 90 [.agg [.bool g0,x0,.bool g1,x1]]<|uB fun b=>.ret (.bool b)) jA) jA
def t137:T:=.opt (aE x0) fun a=>.opt (dC yA 171 0 a) fun a=>.call 46 [a]<|uI fun n=>.ite (lB 65536 n) (.ret (.tup [])) (.opt (aE x0) fun a=>.opt (dC yA 171 1 a) fun a=>.light (fun m=>dA yA 101 ⟨0,m⟩ a) fun a=>.opt (aE a) fun a=>.opt (rB yA 201 a (uY i0)) fun a8=>.opt (aE a8) fun a=>.opt (dC yA 168 0 a) fun a=>.light (fun m=>dA yA 5 ⟨0,m⟩ a)<|uU fun n12=>.ite (zB n12 1) (.opt (aE x0) fun a=>.opt (dC yA 171 0 a) fun a=>.call 40 [.agg [uY i1,.bool g0,x1,.bool g1,x2,uZ i2]]<|uS fun s=>.call 45 [a,.str s] fun a=>.ret (.tup [])) (.ite (zB n12 2) (.opt (aE x0) fun a=>.opt (dC yA 171 0 a) fun a19=>.opt (aE a8) fun a=>.opt (dC yA 168 1 a) fun a=>.light (fun m=>dA yA 9 ⟨0,m⟩ a)<|uS fun s=>.call 45 [a19,.str s] fun a=>.ret (.tup [])) (.ite (zB n12 3) (.opt (aE x0) fun a=>.opt (dC yA 171 0 a) fun a26=>.opt (aE a8) fun a=>.opt (dC yA 168 1 a) fun a=>.light (fun m=>dA yA 9 ⟨0,m⟩ a)<|uS fun s=>.opt (xC s l0)<|uS fun s=>.opt (xC s [32,97,116,32])<|uS fun s=>.call 45 [a26,.str s] fun a=>.opt (rB yA 37 x3 (uZ 0)) fun a=>.light (fun m=>dA yA 39 ⟨0,m⟩ a)<|uG xK fun X=>.opt (aE a8) fun a=>.opt (dC yA 168 6 a) fun a=>.light (fun m=>dA yA 3 ⟨0,m⟩ a)<|uI fun n=>.call 190 [x0,(aG X),uZ n] fun a=>.ret (.tup [])) (.ite (zB n12 4) (.opt (rB yA 37 x3 (uZ 0)) fun a=>.light (fun m=>dA yA 39 ⟨0,m⟩ a)<|uG xK fun X=>.opt (aE a8) fun a=>.opt (dC yA 168 6 a) fun a=>.light (fun m=>dA yA 3 ⟨0,m⟩ a)<|uI fun n=>.call 190 [x0,(aG X),uZ n] fun a=>.opt (aE x0) fun a=>.opt (dC yA 171 0 a) fun a53=>.opt (aE a8) fun a=>.opt (dC yA 168 1 a) fun a=>.light (fun m=>dA yA 9 ⟨0,m⟩ a)<|uS fun s=>.opt (xC [32] s)<|uS fun s=>.opt (xC s [32])<|uS fun s=>.call 45 [a53,.str s] fun a=>.opt (rB yA 37 x3 (uZ 1)) fun a=>.light (fun m=>dA yA 39 ⟨0,m⟩ a)<|uG xK fun X=>.opt (aE a8) fun a=>.opt (dC yA 168 7 a) fun a=>.light (fun m=>dA yA 3 ⟨0,m⟩ a)<|uI fun n=>.call 190 [x0,(aG X),uZ n] fun a=>.ret (.tup [])) (.ite (zB n12 5) (.opt (aE x0) fun a=>.opt (dC yA 171 0 a) fun a72=>.opt (aE a8) fun a=>.opt (dC yA 168 1 a) fun a=>.light (fun m=>dA yA 9 ⟨0,m⟩ a)<|uS fun s=>.call 45 [a72,.str s] fun a=>.opt (rB yA 37 x3 (uZ 0)) fun a=>.light (fun m=>dA yA 39 ⟨0,m⟩ a)<|uG xK fun X=>.opt (aE a8) fun a=>.opt (dC yA 168 6 a) fun a=>.light (fun m=>dA yA 3 ⟨0,m⟩ a)<|uI fun n=>.call 190 [x0,(aG X),uZ n] fun a=>.ret (.tup [])) (.ite (zB n12 6) (.call 191 [x0,.agg [uY i0,.str l0,uY i1,.bool g0,x1,.bool g1,x2,uZ i2,x3],a8] fun a=>.ret (.tup [])) (.ret (.tup []))))))))
def t139:T:=.ite (qC 3 i0) (.ite (qC i0 6) cD (.ite (qC 21 i0) (.ret (.bool (qC i0 23))) jA)) (.ite (qC 21 i0) (.ret (.bool (qC i0 23))) jA)
def t140:T:=.ite (zB i0 3) (.ret (.str [102,97,99,116,32])) (.ite (zB i0 4) (.ret (.str [104,97,115,32])) (.ite (zB i0 6) (.ret (.str [108,111,111,107])) (.ite (zB i0 7) (.ret (.str [32,43,32])) (.ite (zB i0 8) (.ret (.str [32,45,32])) (.ite (zB i0 9) (.ret (.str [32,42,32])) (.ite (zB i0 10) (.ret (.str [32,47,32])) (.ite (zB i0 11) (.ret (.str [109,105,110])) (.ite (zB i0 12) (.ret (.str [109,97,120])) (.ite (zB i0 13) (.ret (.str [32,60,32])) (.ite (zB i0 14) (.ret (.str [32,61,32])) (.ite (zB i0 15) (.ret (.str [32,97,110,100,32])) (.ite (zB i0 16) (.ret (.str [32,111,114,32])) (.ite (zB i0 18) (.ret (.str [105,102])) (.ite (zB i0 19) (.ret (.str [114,111,117,110,100])) (.ite (zB i0 20) (.ret (.str [98,101,116,119,101,101,110])) (.ite (zB i0 21) (.ret (.str [115,101,114,118,105,99,101])) (.ite (zB i0 22) (.ret (.str [98,101,115,116])) (.ite (zB i0 23) (.ret (.str [103,114,111,119])) (.ite (zB i0 24) (.ret (.str [109,111,110,116,104,115])) (.ite (zB i0 25) (.ret (.str [110,117,109,98,101,114])) (.ite (zB i0 26) (.ret (.str [115,116,97,114,116])) (.ret (.str [])))))))))))))))))))))))
def t141:T:=.call 142 [.agg [uY i0,.str l0,uY i1,.bool g0,x0,.bool g1,x1,uZ i2,x2]]<|uI fun n=>.ite (lB n i3) (.call 71 [.agg [uY i0,.str l0,uY i1,.bool g0,x0,.bool g1,x1,uZ i2,x2]]<|uS fun s=>.opt (xC [40] s)<|uS fun s=>.opt (xC s [41])<|uS fun s=>.ret (.str s)) (.call 71 [.agg [uY i0,.str l0,uY i1,.bool g0,x0,.bool g1,x1,uZ i2,x2]]<|uS fun s=>.ret (.str s))
def t142:T:=.ite (zB i0 16) (.ret (uZ 1)) (.ite (zB i0 15) (.ret (uZ 2)) (.ite (zB i0 17) (.ret (uZ 3)) (.ite (zB i0 13) (.ite (zB i0 13) (.ret (uZ 4)) (uQ17 i0)) (.ite (zB i0 14) (.ret (uZ 4)) (uQ17 i0)))))
def t143:T:=.ite (zB i0 1) (.ret (.str [100,111,119,110])) (.ite (zB i0 2) (.ret (.str [117,112])) (.ite (zB i0 3) (.ret (.str [102,108,111,111,114])) (.ite (zB i0 4) (.ret (.str [99,101,105,108])) (.ite (zB i0 5) (.ret (.str [104,97,108,102])) (.ite (zB i0 6) (.ret (.str [101,118,101,110])) (.ret (.str [])))))))
def t144:T:=.ite (zB i0 i2) (.call 192 [.agg [.bool g0,x0,.bool g1,x1],.agg [.bool g2,x2,.bool g3,x3]]<|uB fun b=>.ite b (.ret (.bool (zB i1 i3))) jA) jA
def t145:T:=.opt (aA x0)<|uI fun n1=>.opt (aA x1)<|uI fun n=>.ite (!zB n1 n) jA (.jump 2 [x0,x1,uZ 0])
def t145_2:T:=.opt (aA x0)<|uI fun n=>.ite (lB i0 n) (.opt (rB yA 37 x0 (uZ i0)) fun a=>.light (fun m=>dA yA 39 ⟨0,m⟩ a)<|uG xK fun X4=>.opt (rB yA 37 x1 (uZ i0)) fun a=>.light (fun m=>dA yA 39 ⟨0,m⟩ a)<|uG xK fun X=>.call 73 [(aG X4),(aG X)]<|uB fun b=>.ite (!b) jA (.jump 2 [x0,x1,(qB i0)])) cD
def t146:T:=.call 192 [.agg [.bool g0,x0,.bool g1,x1],.agg [.bool g2,x2,.bool g3,x3]]<|uB fun b=>.ite b (.call 193 [.agg [.bool g0,x0],.agg [.bool g2,x2]]<|uB fun b=>.ite b (.call 193 [.agg [.bool g1,x1],.agg [.bool g3,x3]]<|uB fun b=>.ret (.bool b)) jA) jA
def t149:T:=.ite (lB i0 (Int.ofNat (kB l0))) (.opt (fR yA 9 (.str l0) (uZ i0))<|uU fun n=>.ret (uY n)) (.ret (uY 0))
def t157:T:=.ite true (.call 210 [.agg [.bool g0,x0,.bool g1,x1]]<|uB fun b=>.ret (.bool b)) .fail
def t158:T:=.call 157 [.agg [.bool g0,x0,.bool g1,x1]]<|uB fun b=>.ite (!b) (.ret (.tup [.str [],uZ 2])) (.call 211 [.agg [.bool g0,x0]] fun a=>.opt (uX 0 a)<|uS fun s4=>.opt (uX 1 a)<|uI fun n=>.ite true (.call 212 [.agg [.bool g0,x0,.bool g1,x1]]<|uB fun b=>.ite (!b) (.call 211 [.agg [.bool g1,x1]] fun a=>.opt (uX 0 a)<|uS fun s=>.opt (uX 1 a)<|uI fun n=>.opt (xC [47] s)<|uS fun s=>.opt (xC s4 s)<|uS fun s=>.ret (.tup [.str s,uZ 0])) (.ret (.tup [.str s4,uZ 0]))) .fail)
def t159:T:=.call 213 [.str l0,.str l1]<|uS fun s=>.ret (.str s)
def t160:T:=.ite g0 (.ret (.str [116,114,117,101])) (.ret (.str [102,97,108,115,101]))
def t161:T:=.call 214 [.str l0,.str [45]] fun a=>.opt (uX 0 a)<|uS fun s=>.opt (uX 1 a)<|uB fun b=>.ite b (.opt (xC [109,105,110,117,115,32] s)<|uS fun s=>.ret (.str s)) (.ret (.str l0))
def t162:T:=.call 215 [uZ i0]<|uB fun b=>.ite (!b) (.ret (.tup [uZ 0,uZ 0,uZ 0,uZ 2])) (.call 216 [uZ i0]<|uI fun n3=>.call 217 [uZ n3]<|uI fun n=>.ret (.tup [(uZ (uW (1900+(uW (Int.tdiv n3 12))))),(uZ (uW ((Int.tmod n3 12)+1))),(uZ (uW ((uW (i0-n))+1))),uZ 0]))
def t163:T:=.heavy (tO (.agg [uY i0,uY i1,uY i2,uY i3,uY i4,uY i5,uY i6,uY i7,uY i8,uY i9])) fun a=>.jump 2 [uZ j0,uZ j2,a,(uZ (uW ((uW (j0+j1))-1))),uY 0,uY 0,uY 0,uY 0,uY 0,uY 0,uY 0,uY 0,uY 0,uY 0]
def t163_2:T:=.ite (qC i0 i2) (.opt (rB yA 192 x0 (uZ i2)) fun a=>.heavy (pE yA 5 a (uY (iA .u8 (uW (48+(Int.tmod i1 10)))))) fun _=>.jump 2 [uZ i0,(uZ (uW (Int.tdiv i1 10))),x0,(uZ (uW (i2-1))),uY i3,uY i4,uY i5,uY i6,uY i7,uY i8,uY i9,uY j0,uY j1,uY j2]) (.light (fun m=>dA yA 192 ⟨0,m⟩ x0)<|uG Bs fun X=>.ite true (.ret (uA6 X)) .fail)
def t166:T:=.ite true (.ite true (.ret (.agg [uY 6,.str l0,.bool g0,uZ i0,uZ i1,uZ 7,uZ 1,uZ 1])) .fail) .fail
def t167:T:=.ite true (.ite true (.ret (.agg [uY 3,.str l0,.bool true,uZ 1,uZ 1,uZ 7,uZ 7,uZ 7])) .fail) .fail
def t168:T:=.ite true (.ite true (.ret (.agg [uY 4,.str l0,.bool false,uZ 2,uZ 2,uZ i0,uZ i1,uZ i2])) .fail) .fail
def t169:T:=.ite (qC 65 i0) (.ite (qC i0 90) cD (.ite (qC 97 i0) (.ret (.bool (qC i0 122))) jA)) (.ite (qC 97 i0) (.ret (.bool (qC i0 122))) jA)
def t170:T:=.jump 2 [.str l0,x0,uZ 0]
def Ut:T:=.ite (lB i0 (Int.ofNat (kB l0))) (.opt (fR yA 9 (.str l0) (uZ i0))<|uU fun n=>.callv x0 [uY n]<|uB fun b=>.ite b (.jump 2 [.str l0,x0,(qB i0)]) (.opt (zE yA 9 H0A (.str l0) none (some (uZ i0)))<|uS fun s=>.ret (.str s))) (.opt (zE yA 9 H0A (.str l0) none (some (uZ i0)))<|uS fun s=>.ret (.str s))
def t171:T:=.call 169 [uY i0]<|uB fun b=>.ite b cD (.call 219 [uY i0]<|uB fun b=>.ite b cD (.ret (.bool (zB i0 95))))
def t172:T:=.ite (lB (Int.ofNat (kB l0)) 2) jA (.ite (lB 7 (Int.ofNat (kB l0))) jA (.call 170 [.str l0,(.func (.func 169) [] [])]<|uS fun s=>.ite (!zD s l0) jA (.heavy Mt fun a=>.heavy (fQ yA 230 a (uZ 2) (.str [32,116,111,32,105,115,32,97,116,32,105,102,32,111,114,32,117,112,32])) fun _=>.heavy (fQ yA 230 a (uZ 3) (.str [32,100,101,102,32,114,111,119,32,111,110,101,32,116,119,111,32,101,110,100,32,111,102,102,32,104,97,115,32,109,105,110,32,109,97,120,32,97,110,100,32,110,111,116,32])) fun _=>.heavy (fQ yA 230 a (uZ 4) (.str [32,112,108,97,110,32,102,97,99,116,32,102,114,111,109,32,119,104,101,110,32,116,104,101,110,32,100,97,116,101,32,100,97,121,115,32,116,114,117,101,32,108,111,111,107,32,98,101,115,116,32,103,114,111,119,32,100,111,119,110,32,99,101,105,108,32,104,97,108,102,32,101,118,101,110,32])) fun _=>.heavy (fQ yA 230 a (uZ 5) (.str [32,116,97,98,108,101,32,107,110,111,119,110,32,116,114,117,116,104,32,109,111,110,101,121,32,102,97,108,115,101,32,109,105,110,117,115,32,116,111,100,97,121,32,114,111,117,110,100,32,115,116,97,114,116,32,102,108,111,111,114,32])) fun _=>.heavy (fQ yA 230 a (uZ 6) (.str [32,99,108,97,117,115,101,32,110,117,109,98,101,114,32,109,111,110,116,104,115,32])) fun _=>.heavy (fQ yA 230 a (uZ 7) (.str [32,98,101,116,119,101,101,110,32,115,101,114,118,105,99,101,32])) fun _=>.light (fun m=>uV yA 230 ⟨0,m⟩ a (uZ (Int.ofNat (kB l0))) false)<|uS fun s4=>.opt (xC [32] l0)<|uS fun s=>.opt (xC s [32])<|uS fun s=>.call 220 [.str s4,.str s]<|uB fun b=>.ret (.bool b))))
def t173:T:=.ite (qC (-2147483648) i0) (.ret (.bool (lB i0 2147483648))) jA
def t174:T:=.light (fun m=>dA yA 112 ⟨0,m⟩ x2) fun a=>.callv a [uZ i0]<|uB fun b=>.ite b (.light (fun m=>dA yA 112 ⟨0,m⟩ x2) fun a=>.callv a [uZ i1]<|uB fun b=>.ite b (.opt (dC yA 50 1 x3) fun a=>.light (fun m=>dA yA 4 ⟨0,m⟩ a)<|uB fun b=>.ite b (.call 91 [uZ i2]<|uB fun b=>.ite b (Eu g0 x0 g1 x1) jA) (.ite (zB i1 0) (.call 91 [uZ i2]<|uB fun b=>.ite b (Eu g0 x0 g1 x1) jA) jA)) jA) jA
def t175:T:=.opt (aA x0)<|uI fun n=>.jump 2 [x1,x0,uZ n,uZ 0]
def t175_2:T:=.ite (lB i1 i0) (.opt (rB yA 48 x1 (uZ i1)) fun a=>.light (fun m=>dA yA 53 ⟨0,m⟩ a)<|uG xO fun X=>.ite (mC (uM2 X)) (.callv x0 [(dL X)]<|uB fun b=>.ite (!b) jA (.jump 2 [x0,x1,uZ i0,(qB i1)])) .fail) cD
def t176:T:=.ite (zB i0 0) (.ite (zD l0 []) (.opt (aA x2)<|uI fun n=>.ite (zB n 0) (.call 136 [.agg [uY i1,.bool g0,x0,.bool g1,x1,uZ i2]]<|uB fun b=>.ret (.bool b)) jA) jA) jA
def t177:T:=.heavy (jE yA 90 8 [(0,(uY 35)),(1,(uY (iA .u8 i0))),(2,(uY (iA .u8 (Int.fdiv i0 256)))),(3,(uY (iA .u8 (Int.fdiv i0 65536)))),(4,(uY 47)),(5,(uY (iA .u8 i1))),(6,(uY (iA .u8 (Int.fdiv i1 256)))),(7,(uY (iA .u8 (Int.fdiv i1 65536))))]) fun a=>.light (fun m=>kK yA 90 9 ⟨0,m⟩ a)<|uS fun s=>.ret (.str s)
def t178:T:=.opt (aA x0)<|uI fun n=>.heavy (fJ yA 48 (uZ 0) (uZ (uW (n+12)))) fun a=>.jump 2 [x0,a,uZ 0]
def t178_2:T:=.opt (aA x0)<|uI fun n=>.ite (lB i0 n) (.opt (rB yA 48 x0 (uZ i0)) fun a=>.light (fun m=>dA yA 53 ⟨0,m⟩ a)<|uG xO fun X=>.call 221 [(dL X)]<|uG xO fun X=>.ite (mC (uM2 X)) (.heavy (jE yA 48 1 [(0,(dL X))]) fun a=>.heavy (vF yA 48 48 x1 a) fun a=>.jump 2 [x0,a,(qB i0)]) .fail) (.jump 6 [x0,x1,uZ 0])
def Us:T:=.ite (lB i0 12) (.call 222 [uZ 1,uZ i0]<|uG xO fun X=>.heavy (jE yA 48 1 [(0,(dL X))]) fun a=>.heavy (vF yA 48 48 x1 a) fun a=>.jump 6 [x0,a,(qB i0)]) (.opt (aA x0)<|uI fun n=>.light (fun m=>zE yA 48 ⟨0,m⟩ x1 none (some (uZ n))) fun a=>.ret a)
def t179:T:=.opt (aA x0)<|uI fun n=>.ite (zB n 0) (.ret (.bool (!g0))) (.opt (aA x0)<|uI fun n=>.ite (qC n 1024) (.opt (aA x0)<|uI fun n=>.opt (rB yA 30 x0 (uZ (uW (n-1)))) fun a=>.light (fun m=>dA yA 72 ⟨0,m⟩ a)<|uH fun n=>.ret (.bool (!zB n 0))) jA)
def t180:T:=.call 223 [x0,uZ 10] fun a0=>.opt (uX 0 a0) fun a1=>.opt (uX 1 a0) fun a=>.opt (aA a)<|uI fun n=>.ite (zB n 0) (.ret (.tup [a1,uZ 0])) (.opt (rB yA 30 a (uZ 0)) fun a=>.light (fun m=>dA yA 72 ⟨0,m⟩ a)<|uH fun n=>.ret (.tup [a1,(uZ (uW n))]))
def t181:T:=.ite g0 (.opt (aA x0)<|uI fun n=>.ite (mC [(.bool (lB 0 n)),x0]) (.ite (mC [(.bool (lB 0 n)),x0]) (.ret (.agg [(.bool (lB 0 n)),x0])) .fail) .fail) (.ite (mC [.bool false,x0]) (.ite (mC [.bool false,x0]) (.ret (.agg [.bool false,x0])) .fail) .fail)
def t182:T:=.ite (zB i1 1) (.ite (zB i1 1) (.ret (uZ 31)) (uQ1 i1 i0)) (.ite (zB i1 3) (.ite (zB i1 3) (.ret (uZ 31)) (uQ1 i1 i0)) (.ite (zB i1 5) (.ite (zB i1 5) (.ret (uZ 31)) (uQ1 i1 i0)) (.ite (zB i1 7) (.ite (zB i1 7) (.ret (uZ 31)) (uQ1 i1 i0)) (.ite (zB i1 8) (.ite (zB i1 8) (.ret (uZ 31)) (uQ1 i1 i0)) (.ite (zB i1 10) (.ite (zB i1 10) (.ret (uZ 31)) (uQ1 i1 i0)) (.ite (zB i1 12) (.ret (uZ 31)) (uQ1 i1 i0)))))))
def t183:T:=.call 179 [.agg [.bool g0,x0]]<|uB fun b=>.ite (!b) jA (.call 179 [.agg [.bool g1,x1]]<|uB fun b=>.ite (!b) jA (.call 225 [.agg [.bool g0,x0,.bool g1,x1]]<|uB fun b=>.ite (!b) jA (.ite g1 jA (.opt (aA x1)<|uI fun n=>.ite (zB n 0) jA (.call 226 [x0,x1] fun a=>.call 184 [a]<|uB fun b=>.ret (.bool b))))))
def t184:T:=.opt (aA x0)<|uI fun n=>.ite (zB n 1) (uQ16 x0) jA
def t185:T:=.call 123 [uY i0]<|uB fun b=>.ite b cD (.call 197 [uY i0]<|uB fun b=>.ite b cD (.ret (.bool (zB i0 95))))
def t186:T:=.heavy (jE yA 42 47 [(0,(.str [112,108,97,110])),(1,(.str [102,97,99,116])),(2,(.str [100,101,102])),(3,(.str [116,97,98,108,101])),(4,(.str [114,111,119])),(5,(.str [99,108,97,117,115,101])),(6,(.str [111,110,101])),(7,(.str [116,119,111])),(8,(.str [102,114,111,109])),(9,(.str [116,111])),(10,(.str [101,110,100])),(11,(.str [107,110,111,119,110])),(12,(.str [111,102,102])),(13,(.str [119,104,101,110])),(14,(.str [116,104,101,110])),(15,(.str [105,115])),(16,(.str [116,114,117,116,104])),(17,(.str [110,117,109,98,101,114])),(18,(.str [109,111,110,101,121])),(19,(.str [100,97,116,101])),(20,(.str [100,97,121,115])),(21,(.str [109,111,110,116,104,115])),(22,(.str [116,114,117,101])),(23,(.str [102,97,108,115,101])),(24,(.str [109,105,110,117,115])),(25,(.str [116,111,100,97,121])),(26,(.str [97,116])),(27,(.str [104,97,115])),(28,(.str [108,111,111,107])),(29,(.str [109,105,110])),(30,(.str [109,97,120])),(31,(.str [105,102])),(32,(.str [114,111,117,110,100])),(33,(.str [98,101,116,119,101,101,110])),(34,(.str [115,101,114,118,105,99,101])),(35,(.str [98,101,115,116])),(36,(.str [103,114,111,119])),(37,(.str [115,116,97,114,116])),(38,(.str [97,110,100])),(39,(.str [111,114])),(40,(.str [110,111,116])),(41,(.str [100,111,119,110])),(42,(.str [117,112])),(43,(.str [102,108,111,111,114])),(44,(.str [99,101,105,108])),(45,(.str [104,97,108,102])),(46,(.str [101,118,101,110]))]) fun a=>.ret a
def t187:T:=.opt (aA x0)<|uI fun n1=>.opt (aA x1)<|uI fun n=>.ite (!zB n1 n) jA (.opt (aA x1)<|uI fun n=>.light (fun m=>zE yA 48 ⟨0,m⟩ x0 none (some (uZ (uW (n+12))))) fun a=>.jump 2 [x1,a,uZ 0])
def t187_2:T:=.opt (aA x1)<|uI fun n=>.ite (lB i0 n) (.opt (aA x0)<|uI fun n=>.ite (lB i0 n) (.opt (rB yA 48 x1 (uZ i0)) fun a=>.light (fun m=>dA yA 53 ⟨0,m⟩ a)<|uG xO fun X6=>.opt (rB yA 48 x0 (uZ i0)) fun a=>.light (fun m=>dA yA 53 ⟨0,m⟩ a)<|uG xO fun X=>.call 227 [(dL X6),(dL X)]<|uB fun b=>.ite (!b) jA (.opt (aA x0)<|uI fun n=>.ite (qC n i0) (.opt (rB yA 48 x1 (uZ i0)) fun a=>.light (fun m=>dA yA 53 ⟨0,m⟩ a)<|uG xO fun X16=>.opt (aA x0)<|uI fun n=>.call 222 [uZ 1,(uZ (uW (i0-n)))]<|uG xO fun X=>.light (fun m=>dA yA 53 ⟨0,m⟩ a) fun a=>.ite (same 10 a (dL X16)) (.call 228 [(dL X16),(dL X)]<|uB fun b=>.ite (!b) jA (.jump 2 [x0,x1,(qB i0)])) .fail) (.jump 2 [x0,x1,(qB i0)]))) (.opt (aA x0)<|uI fun n=>.ite (qC n i0) (.opt (rB yA 48 x1 (uZ i0)) fun a=>.light (fun m=>dA yA 53 ⟨0,m⟩ a)<|uG xO fun X28=>.opt (aA x0)<|uI fun n=>.call 222 [uZ 1,(uZ (uW (i0-n)))]<|uG xO fun X=>.light (fun m=>dA yA 53 ⟨0,m⟩ a) fun a=>.ite (same 10 a (dL X28)) (.call 228 [(dL X28),(dL X)]<|uB fun b=>.ite (!b) jA (.jump 2 [x0,x1,(qB i0)])) .fail) (.jump 2 [x0,x1,(qB i0)]))) cD
def t188:T:=.opt (aA x0)<|uI fun n1=>.opt (aA x1)<|uI fun n=>.ite (!zB n1 n) jA (.jump 2 [x0,x1,uZ 0])
def t188_2:T:=.opt (aA x0)<|uI fun n=>.ite (lB i0 n) (.opt (rB yA 48 x0 (uZ i0)) fun a=>.light (fun m=>dA yA 53 ⟨0,m⟩ a)<|uG xO fun X4=>.opt (rB yA 48 x1 (uZ i0)) fun a=>.light (fun m=>dA yA 53 ⟨0,m⟩ a)<|uG xO fun X=>.call 228 [(dL X4),(dL X)]<|uB fun b=>.ite (!b) jA (.jump 2 [x0,x1,(qB i0)])) cD
def t189:T:=.call 229 [x0] fun a=>.ite (mC [a]) (.ite (mC [.bool g0,a]) (.ret (.agg [.bool g0,a])) .fail) .fail
def t190:T:=.opt (aE x0) fun a=>.opt (dC yA 171 1 a) fun a=>.light (fun m=>dA yA 101 ⟨0,m⟩ a) fun a=>.opt (aE a) fun a=>.opt (rB yA 201 a (uY i0)) fun a=>.opt (dC yA 168 5 a) fun a=>.light (fun m=>dA yA 3 ⟨0,m⟩ a)<|uI fun n=>.ite (qC i3 n) (.call 137 [x0,.agg [uY i0,.str l0,uY i1,.bool g0,x1,.bool g1,x2,uZ i2,x3]] fun a=>.ret (.tup [])) (.opt (aE x0) fun a=>.opt (dC yA 171 0 a) fun a=>.call 45 [a,.str [40]] fun a=>.call 137 [x0,.agg [uY i0,.str l0,uY i1,.bool g0,x1,.bool g1,x2,uZ i2,x3]] fun a=>.opt (aE x0) fun a=>.opt (dC yA 171 0 a) fun a=>.call 45 [a,.str [41]] fun a=>.ret (.tup []))
def t191:T:=.opt (aE x0) fun a=>.opt (dC yA 171 0 a) fun a1=>.opt (aE x4) fun a=>.opt (dC yA 168 1 a) fun a=>.light (fun m=>dA yA 9 ⟨0,m⟩ a)<|uS fun s=>.opt (xC s [40])<|uS fun s=>.call 45 [a1,.str s] fun a=>.opt (aE x4) fun a=>.opt (dC yA 168 2 a) fun a=>.light (fun m=>dA yA 4 ⟨0,m⟩ a)<|uB fun b=>.ite b (.opt (aE x0) fun a=>.opt (dC yA 171 0 a) fun a=>.opt (xC l0 [44,32])<|uS fun s=>.call 45 [a,.str s] fun a=>.jump 9 [x0,uY i0,.str l0,uY i1,.bool g0,x1,.bool g1,x2,uZ i2,x3]) (.jump 9 [x0,uY i0,.str l0,uY i1,.bool g0,x1,.bool g1,x2,uZ i2,x3])
def zey:T:=.opt (aA x3)<|uI fun n=>.jump 2 [x0,x3,uZ n,uZ 0,uY i0,.str l0,uY i1,.bool g0,x1,.bool g1,x2,uZ i2,x3]
def Ur:T:=.ite (lB i1 i0) (.opt (rB yA 37 x1 (uZ i1)) fun a=>.light (fun m=>dA yA 39 ⟨0,m⟩ a)<|uG xK fun X=>.ite (mC (uM0 X)) (.ite (lB 0 i1) (.opt (aE x0) fun a=>.opt (dC yA 171 0 a) fun a=>.call 45 [a,.str [44,32]] fun a=>.call 137 [x0,(aG X)] fun a=>.jump 2 [x0,x1,uZ i0,(qB i1),uY i2,.str l0,uY i3,.bool g0,x2,.bool g1,x3,uZ i4,x4]) (.call 137 [x0,(aG X)] fun a=>.jump 2 [x0,x1,uZ i0,(qB i1),uY i2,.str l0,uY i3,.bool g0,x2,.bool g1,x3,uZ i4,x4])) .fail) (.ite (zB i2 19) (.opt (aE x0) fun a=>.opt (dC yA 171 0 a) fun a=>.call 230 [(uY (iA .u8 i4))]<|uS fun s=>.opt (xC [44,32] s)<|uS fun s=>.call 45 [a,.str s] fun a=>.opt (aE x0) fun a=>.opt (dC yA 171 0 a) fun a=>.call 45 [a,.str [41]] fun a=>.ret (.tup [])) (.opt (aE x0) fun a=>.opt (dC yA 171 0 a) fun a=>.call 45 [a,.str [41]] fun a=>.ret (.tup [])))
def t192:T:=.call 231 [.agg [.bool g0,x0],.agg [.bool g2,x2]]<|uB fun b=>.ite b (.call 231 [.agg [.bool g1,x1],.agg [.bool g3,x3]]<|uB fun b=>.ret (.bool b)) jA
def t193:T:=.call 231 [.agg [.bool g0,x0],.agg [.bool g1,x1]]<|uB fun b=>.ite b (.call 232 [x0,x1]<|uB fun b=>.ret (.bool b)) jA
def t197:T:=.ite (qC 48 i0) (.ret (.bool (qC i0 57))) jA
def t201:T:=.jump 2 [x0,x1,.nilslice,uZ 0,uZ 0]
def Uq:T:=.opt (aA x0)<|uI fun n=>.ite (lB i1 n) (uQ7 x0 i1 x1 x2 i0) (.opt (aA x1)<|uI fun n=>.ite (lB i1 n) (uQ7 x0 i1 x1 x2 i0) (.ite (lB 0 i0) (uQ7 x0 i1 x1 x2 i0) (.ret x2)))
def DA:T:=.opt (aA x1)<|uI fun n=>.ite (lB i1 n) (.opt (rB yA 30 x1 (uZ i1)) fun a=>.light (fun m=>dA yA 72 ⟨0,m⟩ a)<|uH fun n=>.jump 21 [x0,x1,x2,(uZ (uW (i0+(uW n)))),uZ i1]) (.jump 21 [x0,x1,x2,uZ i0,uZ i1])
def CZ:T:=.heavy (jE yA 30 1 [(0,(.int .u16 (iA .u16 (Int.tmod i0 65536))))]) fun a=>.heavy (vF yA 30 30 x2 a) fun a=>.jump 2 [x0,x1,a,(uZ (uW (Int.tdiv i0 65536))),(qB i1)]
def t203:T:=.opt (aA x0)<|uI fun n=>.jump 2 [x0,uZ n]
def Nj:T:=.ite (lB 0 i0) (.opt (rB yA 30 x0 (uZ (uW (i0-1)))) fun a=>.light (fun m=>dA yA 72 ⟨0,m⟩ a)<|uH fun n=>.ite (zB n 0) (.jump 2 [x0,(uZ (uW (i0-1)))]) (.light (fun m=>zE yA 30 ⟨0,m⟩ x0 none (some (uZ i0))) fun a=>.ret a)) (.light (fun m=>zE yA 30 ⟨0,m⟩ x0 none (some (uZ i0))) fun a=>.ret a)
def t210:T:=.call 236 [.agg [.bool g0,x0,.bool g1,x1]]<|uB fun b=>.ite b jA (.call 237 [.agg [.bool g0,x0]]<|uB fun b=>.ite (!b) jA (.call 237 [.agg [.bool g1,x1]]<|uB fun b=>.ite (!b) jA (.ite g1 jA (.opt (aA x1)<|uI fun n=>.ite (zB n 0) jA (.call 212 [.agg [.bool g0,x0,.bool g1,x1]]<|uB fun b=>.ite b cD (.call 239 [.agg [.bool g0,x0],.agg [.bool g1,x1]]<|uG mZ fun X=>.call 238 [(nP X)]<|uB fun b=>.ret (.bool b)))))))
def t211:T:=.call 237 [.agg [.bool g0,x0]]<|uB fun b=>.ite (!b) (.ret (.tup [.str [],uZ 2])) (.opt (aA x0)<|uI fun n=>.ite (zB n 0) (.ret (.tup [.str [48],uZ 0])) (.call 240 [x0] fun a=>.jump 2 [.str [],uZ 0,.nilslice,a,.bool g0,x0]))
def Uo:T:=.opt (aA x1)<|uI fun n=>.ite (lB 0 n) (.call 241 [x1,.int .u32 1000000000] fun a2=>.opt (uX 0 a2) fun a3=>.opt (uX 1 a2)<|uL fun n=>.heavy (jE yA 240 1 [(0,(.int .u32 n))]) fun a=>.heavy (vF yA 240 240 x0 a) fun a=>.jump 2 [.str l0,uZ i0,a,a3,.bool g0,x2]) (.heavy (eR yA 90) fun a8=>.ite g0 (.light (fun m=>dA yA 90 ⟨0,m⟩ a8) fun a9=>.heavy (jE yA 90 1 [(0,(uY 45))]) fun a=>.heavy (vF yA 90 90 a9 a) fun a=>.heavy (pE yA 90 a8 a) fun _=>.jump 29 [.str l0,uZ i0,x0,a8]) (.jump 29 [.str l0,uZ i0,x0,a8]))
def CY:T:=.call 242 [x0] fun a=>.range (npC yA) a 6 1 [x1] (.light (fun m=>dA yA 90 ⟨0,m⟩ x1) fun a=>.light (fun m=>kK yA 90 9 ⟨0,m⟩ a)<|uS fun s=>.ret (.tup [.str s,uZ 0])) (.ret (.tup [.str l0,uZ i0]))
def zex:T:=.call 243 [(.int .u64 (iA .u64 i0)),uZ 10]<|uS fun s=>.light (fun m=>dA yA 90 ⟨0,m⟩ x0) fun a=>.opt (aA a)<|uI fun n=>.ite (lB 1 n) (.jump 10 [x0,.str s,(uZ (uW (9-(Int.ofNat (kB s))))),uZ 0]) (.light (fun m=>dA yA 90 ⟨0,m⟩ x0) fun a=>.opt (aA a)<|uI fun n=>.ite (zB n 1) (.light (fun m=>dA yA 90 ⟨0,m⟩ x0) fun a=>.opt (rB yA 90 a (uZ 0)) fun a=>.light (fun m=>dA yA 5 ⟨0,m⟩ a)<|uU fun n=>.ite (!zB n 45) (.jump 10 [x0,.str s,(uZ (uW (9-(Int.ofNat (kB s))))),uZ 0]) (uQ14 x0 s)) (uQ14 x0 s))
def Up:T:=.ite (lB i1 i0) (.light (fun m=>dA yA 90 ⟨0,m⟩ x0) fun a0=>.heavy (jE yA 90 1 [(0,(uY 48))]) fun a=>.heavy (vF yA 90 90 a0 a) fun a=>.heavy (pE yA 90 x0 a) fun _=>.jump 10 [x0,.str l0,uZ i0,(qB i1)]) (.light (fun m=>dA yA 90 ⟨0,m⟩ x0) fun a=>.heavy (vF yA 90 9 a (.str l0)) fun a=>.heavy (pE yA 90 x0 a) fun _=>.ret (.bool true))
def t212:T:=.call 238 [.agg [.bool g1,x1]]<|uB fun b=>.ret (.bool b)
def t213:T:=.call 244 [.str l0,.str l1]<|uB fun b=>.ite b (.opt (zE yA 9 H0A (.str l0) (some (uZ (Int.ofNat (kB l1)))) none)<|uS fun s=>.ret (.str s)) (.ret (.str l0))
def t214:T:=.call 245 [.str l0,.str l1] fun a=>.opt (uX 0 a)<|uS fun s=>.opt (uX 1 a)<|uB fun b=>.ret (.tup [.str s,.bool b])
def t215:T:=.ite (qC 0 i0) (.ret (.bool (lB i0 65536))) jA
def t216:T:=.heavy (tO (uZ i0)) fun a=>.call 246 [uZ 2154,(.func (.func 247) [] [a])]<|uI fun n=>.ret (uZ n)
def t217:T:=.call 248 [(uZ (uW ((uW (1900+(uW (Int.tdiv i0 12))))-1)))]<|uI fun n1=>.call 248 [uZ 1899]<|uI fun n=>.jump 2 [uZ i0,(uZ (uW (1900+(uW (Int.tdiv i0 12))))),(uZ (uW ((uW ((uW (365*(uW ((uW (1900+(uW (Int.tdiv i0 12))))-1900))))+n1))-n))),uZ 1]
def t217_2:T:=.ite (qC i3 (Int.tmod i0 12)) (.call 249 [uZ i1,uZ i3]<|uI fun n=>.jump 2 [uZ i0,uZ i1,(uZ (uW (i2+n))),(qB i3)]) (.ret (uZ i2))
def t219:T:=.ite (qC 48 i0) (.ret (.bool (qC i0 57))) jA
def t221:T:=.call 134 [.agg [.bool g0,x0,.bool g1,x1]]<|uG zz8z fun X=>.ite (mC (uM8 X)) (.ite (mC [uZ i0,uZ i1,uZ i2,.bool (X.b 0),X.v 1,.bool (X.b 2),X.v 3]) (.ret (.agg [uZ i0,uZ i1,uZ i2,.bool (X.b 0),X.v 1,.bool (X.b 2),X.v 3])) .fail) .fail
def t222:T:=.call 252 [uZ i0,uZ i1]<|uI fun n=>.ite true (.ite true (.ret (.agg [uZ n,uZ 0,uZ 0,.bool false,.nilslice,.bool false,.nilslice])) .fail) .fail
def t223:T:=.opt (aA x0)<|uI fun n=>.heavy (fJ yA 30 (uZ n) (uZ n)) fun a=>.opt (aA x0)<|uI fun n=>.jump 2 [x0,uZ i0,a,uZ 0,(uZ (uW (n-1)))]
def Un:T:=.ite (qC 0 i2) (.opt (rB yA 30 x0 (uZ i2)) fun a=>.light (fun m=>dA yA 72 ⟨0,m⟩ a)<|uH fun n2=>.opt (wW .i64 (uW ((uW (i1*65536))+(uW n2))) i0)<|uI fun n=>.opt (rB yA 30 x1 (uZ i2)) fun a=>.heavy (pE yA 72 a (.int .u16 (iA .u16 n))) fun _=>.opt (xW .i64 (uW ((uW (i1*65536))+(uW n2))) i0)<|uI fun n=>.jump 2 [x0,uZ i0,x1,uZ n,(uZ (uW (i2-1)))]) (.call 203 [x1] fun a8=>.heavy (jE yA 30 1 [(0,(.int .u16 (iA .u16 i1)))]) fun a=>.call 203 [a] fun a=>.ret (.tup [a8,a]))
def t224:T:=.ite (zB (Int.tmod i0 400) 0) cD (.ite (zB (Int.tmod i0 4) 0) (.ret (.bool (!zB (Int.tmod i0 100) 0))) jA)
def t225:T:=.opt (aA x0)<|uI fun n=>.ite (qC n 256) (.opt (aA x1)<|uI fun n=>.ret (.bool (qC n 256))) jA
def t226:T:=.jump 2 [x0,x1]
def zew:T:=.opt (aA x1)<|uI fun n=>.ite (lB 0 n) (.call 235 [x0,x1] fun a2=>.opt (uX 0 a2) fun a=>.opt (uX 1 a2) fun a=>.jump 2 [x1,a]) (.ret x0)
def t227:T:=.call 228 [.agg [uZ i0,uZ i1,uZ i2,.bool g0,x0,.bool g1,x1],.agg [uZ i3,uZ i4,uZ i5,.bool g2,x2,.bool g3,x3]]<|uB fun b=>.ite b (.call 146 [.agg [.bool g0,x0,.bool g1,x1],.agg [.bool g2,x2,.bool g3,x3]]<|uB fun b=>.ret (.bool b)) jA
def t228:T:=.ite (zB i0 i3) (.ite (zB i1 i4) (.ite (zB i2 i5) (.call 192 [.agg [.bool g0,x0,.bool g1,x1],.agg [.bool g2,x2,.bool g3,x3]]<|uB fun b=>.ret (.bool b)) jA) jA) jA
def t229:T:=.opt (aA x0)<|uI fun n=>.heavy (fJ yA 30 (uZ 0) (uZ (uW (n+12)))) fun a=>.heavy (vF yA 30 30 a x0) fun a=>.jump 2 [x0,a,uZ 0]
def Um:T:=.ite (lB i0 12) (.call 252 [uZ 1,uZ i0]<|uI fun n=>.heavy (jE yA 30 1 [(0,(.int .u16 (iA .u16 n)))]) fun a=>.heavy (vF yA 30 30 x1 a) fun a=>.jump 2 [x0,a,(qB i0)]) (.opt (aA x0)<|uI fun n=>.light (fun m=>zE yA 30 ⟨0,m⟩ x1 none (some (uZ n))) fun a=>.ret a)
def t230:T:=.ite (lB (uW i0) 7) (.opt (rB yA 194 (.ptr 1 0) (uY i0)) fun a=>.light (fun m=>dA yA 9 ⟨0,m⟩ a)<|uS fun s=>.ret (.str s)) (.ret (.str []))
def t231:T:=.ite (bEq g0 g1) (.call 253 [x0,x1]<|uB fun b=>.ret (.bool b)) jA
def t232:T:=.opt (aA x0)<|uI fun n1=>.opt (aA x1)<|uI fun n=>.ite (!zB n1 n) jA (.opt (aA x1)<|uI fun n=>.light (fun m=>zE yA 30 ⟨0,m⟩ x0 none (some (uZ (uW (n+12))))) fun a=>.jump 2 [x1,a,uZ 0])
def Ul:T:=.opt (aA x1)<|uI fun n=>.ite (lB i0 n) (.opt (aA x0)<|uI fun n=>.ite (lB i0 n) (.opt (rB yA 30 x1 (uZ i0)) fun a=>.light (fun m=>dA yA 72 ⟨0,m⟩ a)<|uH fun n6=>.opt (rB yA 30 x0 (uZ i0)) fun a=>.light (fun m=>dA yA 72 ⟨0,m⟩ a)<|uH fun n=>.ite (!(zB n6 n)) jA (.opt (aA x0)<|uI fun n=>.ite (qC n i0) (.opt (rB yA 30 x1 (uZ i0)) fun a=>.light (fun m=>dA yA 72 ⟨0,m⟩ a)<|uH fun n14=>.opt (aA x0)<|uI fun n=>.call 252 [uZ 1,(uZ (uW (i0-n)))]<|uI fun n=>.light (fun m=>dA yA 72 ⟨0,m⟩ a) fun a=>.ite (same 10 a (.int .u16 n14)) (.ite (!(zB n14 (iA .u16 n))) jA (.jump 2 [x0,x1,(qB i0)])) .fail) (.jump 2 [x0,x1,(qB i0)]))) (.opt (aA x0)<|uI fun n=>.ite (qC n i0) (.opt (rB yA 30 x1 (uZ i0)) fun a=>.light (fun m=>dA yA 72 ⟨0,m⟩ a)<|uH fun n24=>.opt (aA x0)<|uI fun n=>.call 252 [uZ 1,(uZ (uW (i0-n)))]<|uI fun n=>.light (fun m=>dA yA 72 ⟨0,m⟩ a) fun a=>.ite (same 10 a (.int .u16 n24)) (.ite (!(zB n24 (iA .u16 n))) jA (.jump 2 [x0,x1,(qB i0)])) .fail) (.jump 2 [x0,x1,(qB i0)]))) cD
def t235:T:=.opt (aA x1)<|uI fun n=>.ite (zB n 1) (.opt (rB yA 30 x1 (uZ 0)) fun a=>.light (fun m=>dA yA 72 ⟨0,m⟩ a)<|uH fun n=>.call 223 [x0,(uZ (uW n))] fun a5=>.opt (uX 0 a5) fun a6=>.opt (uX 1 a5) fun a=>.ret (.tup [a6,a])) (.jump 2 [x0,x1,uZ 0,x1])
def Uj:T:=.call 255 [x0,x2]<|uB fun b=>.ite (!b) (.call 201 [x2,x2] fun a=>.jump 2 [x0,x1,(qB i0),a]) (.jump 6 [x0,uZ i0,x1,uZ 0])
def Ui:T:=.ite (lB i1 i0) (.call 201 [x1,x1] fun a=>.jump 6 [x0,uZ i0,a,(qB i1)]) (.heavy (jE yA 30 0 []) fun a=>.heavy (vF yA 30 30 a x0) fun a=>.jump 10 [uZ i0,x1,.nilslice,a,uZ 0])
def Uk:T:=.ite (lB i1 i0) (.call 256 [x0] fun a0=>.call 201 [x1,x1] fun a1=>.call 255 [x2,a0]<|uB fun b=>.ite (!b) (.call 257 [x2,a0] fun a4=>.heavy (jE yA 30 1 [(0,(.int .u16 1))]) fun a=>.call 201 [a1,a] fun a=>.jump 10 [uZ i0,a0,a,a4,(qB i1)]) (.jump 10 [uZ i0,a0,a1,x2,(qB i1)])) (.ret (.tup [x1,x2]))
def t236:T:=.opt (aA x0)<|uI fun n=>.ite (lB 256 n) cD (.opt (aA x1)<|uI fun n=>.ret (.bool (lB 256 n)))
def t237:T:=.opt (aA x0)<|uI fun n=>.ite (zB n 0) (.ret (.bool (!g0))) (.ite (qC n 1024) (.opt (rB yA 30 x0 (uZ (uW (n-1)))) fun a=>.light (fun m=>dA yA 72 ⟨0,m⟩ a)<|uH fun n=>.ret (.bool (!zB n 0))) jA)
def t238:T:=.ite (!g0) (.opt (aA x0)<|uI fun n=>.ite (zB n 1) (uQ16 x0) jA) jA
def t239:T:=.call 258 [.agg [.bool g0,x0],.agg [.bool g1,x1]] fun a=>.opt (uX 0 a)<|uG mZ fun X=>.opt (uX 1 a)<|uI fun n=>.ite (mC (pP X)) (.ite (mC (pP X)) (.ret (nP X)) .fail) .fail
def t240:T:=.opt (aA x0)<|uI fun n=>.heavy (fJ yA 240 (uZ (uW (Int.tdiv (uW (n+1)) 2))) (uZ (uW (Int.tdiv (uW (n+1)) 2)))) fun a=>.opt (aA x0)<|uI fun n=>.jump 2 [a,x0,uZ n,uZ 0]
def Uh:T:=.ite (lB i1 i0) (.opt (rB yA 30 x1 (uZ i1)) fun a=>.light (fun m=>dA yA 72 ⟨0,m⟩ a)<|uH fun n2=>.opt (rB yA 240 x0 (uZ (uW (Int.tdiv i1 2)))) fun a=>.light (fun m=>dA yA 242 ⟨0,m⟩ a)<|uL fun n5=>.opt (kU .u32 (iA .u32 n2) (uW (16*(Int.tmod i1 2))))<|uL fun n=>.opt (gI Nat.lor .u32 n5 n)<|uL fun n=>.opt (rB yA 240 x0 (uZ (uW (Int.tdiv i1 2)))) fun a=>.heavy (pE yA 242 a (.int .u32 n)) fun _=>.jump 2 [x0,x1,uZ i0,(qB i1)]) (.ret x0)
def t241:T:=.opt (aA x0)<|uI fun n=>.heavy (fJ yA 240 (uZ n) (uZ n)) fun a=>.opt (aA x0)<|uI fun n=>.jump 2 [x0,.int .u32 i0,a,.int .u32 0,(uZ (uW (n-1)))]
def Ug:T:=.ite (qC 0 i2) (.opt (rB yA 240 x0 (uZ i2)) fun a=>.light (fun m=>dA yA 242 ⟨0,m⟩ a)<|uL fun n=>.call 259 [.int .u32 i1,.int .u32 n,.int .u32 i0] fun a=>.opt (uX 0 a)<|uL fun n5=>.opt (uX 1 a)<|uL fun n=>.opt (rB yA 240 x1 (uZ i2)) fun a=>.heavy (pE yA 242 a (.int .u32 n5)) fun _=>.jump 2 [x0,.int .u32 i0,x1,.int .u32 n,(uZ (uW (i2-1)))]) (.call 260 [x1] fun a=>.ret (.tup [a,.int .u32 i1]))
def t242:T:=.heavy (tO x0) fun a=>.ret (.func (.func 261) [] [a])
def t244:T:=.ite (qC (Int.ofNat (kB l1)) (Int.ofNat (kB l0))) (.opt (zE yA 9 H0A (.str l0) none (some (uZ (Int.ofNat (kB l1)))))<|uS fun s=>.ret (.bool (zD s l1))) jA
def t245:T:=.call 244 [.str l0,.str l1]<|uB fun b=>.ite (!b) (.ret (.tup [.str l0,.bool false])) (.opt (zE yA 9 H0A (.str l0) (some (uZ (Int.ofNat (kB l1)))) none)<|uS fun s=>.ret (.tup [.str s,.bool true]))
def t246:T:=.jump 2 [x0,uZ 0,uZ i0]
def t246_2:T:=.ite (lB i0 i1) (.callv x0 [(uZ (uW (Int.fdiv (iA .u64 (uW (i0+i1))) 2)))]<|uB fun b=>.ite (!b) (.jump 2 [x0,(uZ (uW ((uW (Int.fdiv (iA .u64 (uW (i0+i1))) 2))+1))),uZ i1]) (.jump 2 [x0,uZ i0,(uZ (uW (Int.fdiv (iA .u64 (uW (i0+i1))) 2)))])) (.ret (uZ i0))
def t247:T:=.light (fun m=>dA yA 3 ⟨0,m⟩ x0)<|uI fun n1=>.call 217 [(qB i0)]<|uI fun n=>.light (fun m=>dA yA 3 ⟨0,m⟩ x0) fun a=>.ite (same 10 a (uZ n1)) (.ret (.bool (lB n1 n))) .fail
def t248:T:=.ret (uZ (uW ((uW ((uW (Int.tdiv i0 4))-(uW (Int.tdiv i0 100))))+(uW (Int.tdiv i0 400)))))
def t249:T:=.ite (lB i1 1) (.ret (uZ 0)) (.ite (lB 12 i1) (.ret (uZ 0)) (.ite (zB i1 2) (.call 263 [uZ i0]<|uB fun b=>.ite b (.ret (uZ 29)) (uQ15 i1)) (uQ15 i1)))
def t252:T:=.ret (uZ (uW ((uW (1000003*(uW (i0+7))))+i1)))
def t253:T:=.opt (aA x0)<|uI fun n1=>.opt (aA x1)<|uI fun n=>.ite (!zB n1 n) jA (.jump 2 [x0,x1,uZ 0])
def Ud:T:=.opt (aA x0)<|uI fun n=>.ite (lB i0 n) (.opt (rB yA 30 x0 (uZ i0)) fun a=>.light (fun m=>dA yA 72 ⟨0,m⟩ a)<|uH fun n4=>.opt (rB yA 30 x1 (uZ i0)) fun a=>.light (fun m=>dA yA 72 ⟨0,m⟩ a)<|uH fun n=>.ite (!zB n4 n) jA (.jump 2 [x0,x1,(qB i0)])) cD
def t255:T:=.opt (aA x0)<|uI fun n1=>.opt (aA x1)<|uI fun n=>.ite (!zB n1 n) (.opt (aA x0)<|uI fun n5=>.opt (aA x1)<|uI fun n=>.ret (.bool (lB n5 n))) (.opt (aA x0)<|uI fun n=>.jump 2 [x0,x1,(uZ (uW (n-1)))])
def Uc:T:=.ite (qC 0 i0) (.opt (rB yA 30 x0 (uZ i0)) fun a=>.light (fun m=>dA yA 72 ⟨0,m⟩ a)<|uH fun n2=>.opt (rB yA 30 x1 (uZ i0)) fun a=>.light (fun m=>dA yA 72 ⟨0,m⟩ a)<|uH fun n=>.ite (!zB n2 n) (.opt (rB yA 30 x0 (uZ i0)) fun a=>.light (fun m=>dA yA 72 ⟨0,m⟩ a)<|uH fun n8=>.opt (rB yA 30 x1 (uZ i0)) fun a=>.light (fun m=>dA yA 72 ⟨0,m⟩ a)<|uH fun n=>.ret (.bool (lB n8 n))) (.jump 2 [x0,x1,(uZ (uW (i0-1)))])) jA
def t256:T:=.opt (aA x0)<|uI fun n=>.heavy (fJ yA 30 (uZ n) (uZ n)) fun a=>.opt (aA x0)<|uI fun n=>.jump 2 [x0,a,uZ 0,(uZ (uW (n-1)))]
def Ub:T:=.ite (qC 0 i1) (.opt (rB yA 30 x0 (uZ i1)) fun a=>.light (fun m=>dA yA 72 ⟨0,m⟩ a)<|uH fun n=>.opt (rB yA 30 x1 (uZ i1)) fun a=>.heavy (pE yA 72 a (.int .u16 (iA .u16 (uW (Int.tdiv (uW ((uW ((Int.tmod i0 2)*65536))+(uW n))) 2))))) fun _=>.jump 2 [x0,x1,(uZ (uW ((uW ((Int.tmod i0 2)*65536))+(uW n)))),(uZ (uW (i1-1)))]) (.call 203 [x1] fun a=>.ret a)
def t257:T:=.jump 2 [x0,x1,.nilslice,uZ 0,uZ 0]
def Ua:T:=.opt (aA x0)<|uI fun n=>.ite (lB i1 n) (.opt (rB yA 30 x0 (uZ i1)) fun a=>.light (fun m=>dA yA 72 ⟨0,m⟩ a)<|uH fun n4=>.opt (aA x1)<|uI fun n=>.ite (lB i1 n) (.opt (rB yA 30 x1 (uZ i1)) fun a=>.light (fun m=>dA yA 72 ⟨0,m⟩ a)<|uH fun n=>.jump 19 [x0,x1,x2,uZ i1,(uZ (uW ((uW ((uW (65536+(uW n4)))-i0))-(uW n))))]) (.jump 19 [x0,x1,x2,uZ i1,(uZ (uW ((uW (65536+(uW n4)))-i0)))])) (.call 203 [x2] fun a=>.ret a)
def CX:T:=.heavy (jE yA 30 1 [(0,(.int .u16 (iA .u16 (Int.tmod i1 65536))))]) fun a=>.heavy (vF yA 30 30 x2 a) fun a=>.jump 2 [x0,x1,a,(uZ (uW (1-(uW (Int.tdiv i1 65536))))),(qB i0)]
def t258:T:=.heavy (jE yA 271 2 [(0,(.agg [.bool g0,x0])),(1,(.agg [.bool g1,x1]))]) fun a=>.call 270 [a]<|uB fun b=>.ite (!b) (.ite true (.ite true (.ret (.tup [.agg [.bool false,.nilslice],uZ 2])) .fail) .fail) (.call 240 [x0] fun a3=>.ite (same 10 x1 x1) (.call 240 [x1] fun a=>.call 272 [a3,a] fun a=>.call 271 [.bool false,a]<|uG mZ fun X=>.ite (mC (pP X)) (.ret (.tup [(nP X),uZ 0])) .fail) .fail)
def t259:T:=.ite (!zB i2 0) (.ite (qC i2 i0) (.light (fun m=>dA yA 97 ⟨0,m⟩ (.ptr 3 0)) fun a=>.fail) (.jump 7 [.int .u32 i0,.int .u32 i1,.int .u32 i2])) (.jump 7 [.int .u32 i0,.int .u32 i1,.int .u32 i2])
def zes:T:=.opt (gI Nat.lor .u64 (iA .u64 ((iA .u64 i0)*4294967296)) (iA .u64 i1))<|uE fun n1=>.opt (wW .u64 n1 (iA .u64 i2))<|uE fun n3=>.opt (xW .u64 n1 (iA .u64 i2))<|uE fun n=>.ret (.tup [(.int .u32 (iA .u32 n3)),(.int .u32 (iA .u32 n))])
def t260:T:=.jump 2 [x0]
def Ni:T:=.opt (aA x0)<|uI fun n=>.ite (lB 0 n) (.opt (aA x0)<|uI fun n=>.opt (rB yA 240 x0 (uZ (uW (n-1)))) fun a=>.light (fun m=>dA yA 242 ⟨0,m⟩ a)<|uL fun n=>.ite (zB n 0) (.opt (aA x0)<|uI fun n=>.light (fun m=>zE yA 240 ⟨0,m⟩ x0 none (some (uZ (uW (n-1))))) fun a=>.jump 2 [a]) (.ret x0)) (.ret x0)
def t261:T:=.light (fun m=>dA yA 240 ⟨0,m⟩ x1) fun a0=>.opt (aA a0) fun a1=>.asI .i64 a1 fun n2=>.jump 2 [x0,x1,(.int .i64 (iA .i64 (n2-1)))]
def Tw:T:=.ite (qC 0 i0)
 (.light (fun m=>dA yA 240 ⟨0,m⟩ x1) fun a0=>.opt (rB yA 240 a0 (.int .i64 i0)) fun a1=>.light (fun m=>dA yA 242 ⟨0,m⟩ a1) fun a2=>.asI .u32 a2 fun n3=>.callv x0 [.int .u32 n3] fun a4=>
 .asB a4 fun b5=>.ite (!b5)
 (.ret (.tup []))
 (.jump 2 [x0,x1,(.int .i64 (iA .i64 (i0-1)))]))
 (.ret (.tup []))
def t263:T:=.ite (zB (Int.tmod i0 4) 0) (.ite (!zB (Int.tmod i0 100) 0) cD (.ret (.bool (zB (Int.tmod i0 400) 0)))) jA
def t270:T:=.opt (aA x0)<|uI fun n=>.jump 2 [x0,uZ n,uZ 0]
def Tv:T:=.ite (lB i1 i0) (.opt (rB yA 271 x0 (uZ i1)) fun a=>.light (fun m=>dA yA 32 ⟨0,m⟩ a)<|uG mZ fun X=>.ite (mC (pP X)) (.call 237 [(nP X)]<|uB fun b=>.ite (!b) jA (.jump 2 [x0,uZ i0,(qB i1)])) .fail) cD
def t271:T:=.call 260 [x0] fun a0=>.opt (aA a0)<|uI fun n=>.ite (zB n 0) (.ite true (.ite true (.ret (.agg [.bool false,.nilslice])) .fail) .fail) (.opt (aA a0)<|uI fun n=>.heavy (fJ yA 30 (uZ (uW (2*n))) (uZ (uW (2*n)))) fun a=>.opt (aA a0)<|uI fun n=>.jump 2 [.bool g0,a,a0,uZ n,uZ 0,.bool false,.nilslice])
def Tu:T:=.ite (lB i1 i0) (.opt (rB yA 240 x1 (uZ i1)) fun a=>.light (fun m=>dA yA 242 ⟨0,m⟩ a)<|uL fun n=>.opt (rB yA 30 x0 (uZ (uW (2*i1)))) fun a=>.heavy (pE yA 72 a (.int .u16 (iA .u16 n))) fun _=>.opt (rB yA 30 x0 (uZ (uW ((uW (2*i1))+1)))) fun a=>.heavy (pE yA 72 a (.int .u16 (iA .u16 (Int.fdiv n 65536)))) fun _=>.jump 2 [.bool g0,x0,x1,uZ i0,(qB i1),.bool g1,x2]) (.opt (aA x0)<|uI fun n=>.opt (rB yA 30 x0 (uZ (uW (n-1)))) fun a=>.light (fun m=>dA yA 72 ⟨0,m⟩ a)<|uH fun n=>.ite (zB n 0) (.opt (aA x0)<|uI fun n=>.light (fun m=>zE yA 30 ⟨0,m⟩ x0 none (some (uZ (uW (n-1))))) fun a=>.ite (mC [.bool g0,a]) (.ite (mC [.bool g0,a]) (.ret (.agg [.bool g0,a])) .fail) .fail) (.ite (mC [.bool g0,x0]) (.ite (mC [.bool g0,x0]) (.ret (.agg [.bool g0,x0])) .fail) .fail))
def t272:T:=.call 283 [x0,x1]<|uI fun n=>.ite (lB n 0) (.jump 2 [x1,x0]) (.jump 2 [x0,x1])
def zer:T:=.opt (aA x1)<|uI fun n=>.ite (lB 2 n) (.call 284 [x0,x1]<|uG [.int .u64 0,.int .u64 0,.int .u64 0,.int .u64 0,.bool false] fun X=>.ite true (.ite (zB (X.i 2) 0) (.call 285 [x0,x1] fun a4=>.opt (uX 0 a4) fun a=>.opt (uX 1 a4) fun a=>.jump 2 [x1,a]) (.ite (X.b 4) (.call 286 [.int .u64 (X.i 0),x0,.int .u64 (X.i 2),x1] fun a7=>.ite (same 10 (.int .u64 (X.i 3)) (.int .u64 (X.i 3))) (.ite (same 10 (.int .u64 (X.i 1)) (.int .u64 (X.i 1))) (.call 286 [.int .u64 (X.i 3),x1,.int .u64 (X.i 1),x0] fun a=>.jump 2 [a7,a]) .fail) .fail) (.call 286 [.int .u64 (X.i 2),x1,.int .u64 (X.i 0),x0] fun a9=>.ite (same 10 (.int .u64 (X.i 1)) (.int .u64 (X.i 1))) (.ite (same 10 (.int .u64 (X.i 3)) (.int .u64 (X.i 3))) (.call 286 [.int .u64 (X.i 1),x0,.int .u64 (X.i 3),x1] fun a=>.jump 2 [a9,a]) .fail) .fail))) .fail) (.opt (aA x1)<|uI fun n=>.ite (zB n 0) (.ret x0) (.opt (aA x0)<|uI fun n=>.ite (lB 2 n) (.call 285 [x0,x1] fun a15=>.opt (uX 0 a15) fun a=>.opt (uX 1 a15) fun a=>.jump 33 [x1,a]) (.jump 33 [x0,x1])))
def CW:T:=.call 287 [x0]<|uE fun n1=>.call 287 [x1]<|uE fun n=>.jump 6 [.int .u64 n1,.int .u64 n]
def zeq:T:=.ite (!zB i1 0) (.opt (xW .u64 i0 i1)<|uE fun n=>.jump 6 [.int .u64 i1,.int .u64 n]) (.call 288 [.int .u64 i0] fun a=>.ret a)
def t283:T:=.opt (aA x0)<|uI fun n1=>.opt (aA x1)<|uI fun n=>.ite (!zB n1 n) (.opt (aA x0)<|uI fun n5=>.opt (aA x1)<|uI fun n=>.ite (lB n5 n) (.ret (uZ (-1))) (.ret (uZ 1))) (.opt (aA x0)<|uI fun n=>.jump 2 [x0,x1,(uZ (uW (n-1)))])
def Tt:T:=.ite (qC 0 i0) (.opt (rB yA 240 x0 (uZ i0)) fun a=>.light (fun m=>dA yA 242 ⟨0,m⟩ a)<|uL fun n2=>.opt (rB yA 240 x1 (uZ i0)) fun a=>.light (fun m=>dA yA 242 ⟨0,m⟩ a)<|uL fun n=>.ite (!zB n2 n) (.opt (rB yA 240 x0 (uZ i0)) fun a=>.light (fun m=>dA yA 242 ⟨0,m⟩ a)<|uL fun n8=>.opt (rB yA 240 x1 (uZ i0)) fun a=>.light (fun m=>dA yA 242 ⟨0,m⟩ a)<|uL fun n=>.ite (lB n8 n) (.ret (uZ (-1))) (.ret (uZ 1))) (.jump 2 [x0,x1,(uZ (uW (i0-1)))])) (.ret (uZ 0))
def t284:T:=.opt (aA x0)<|uI fun n1=>.opt (rB yA 240 x0 (uZ (uW (n1-1)))) fun a=>.light (fun m=>dA yA 242 ⟨0,m⟩ a)<|uL fun n=>.call 294 [.int .u32 n]<|uI fun n6=>.call 295 [x0,uZ n1,uZ n6]<|uE fun n8=>.call 295 [x1,uZ n1,uZ n6]<|uE fun n=>.ite true (.ite true (.jump 2 [.int .u64 n8,.int .u64 n,.int .u64 0,.int .u64 1,.int .u64 0,.int .u64 0,.int .u64 0,.int .u64 0,.bool false,.int .u64 0,.int .u64 1,.int .u64 0,.int .u64 0,.bool false]) .fail) .fail
def zep:T:=.ite (qC i3 i1) (.ite (qC (iA .u64 (j1+i3)) (iA .u64 (i0-i1))) (.opt (wW .u64 i0 i1)<|uE fun n1=>.opt (xW .u64 i0 i1)<|uE fun n=>.ite true (.ite true (.ite true (.ite true (.ite true (.jump 2 [.int .u64 i1,.int .u64 n,(.int .u64 (iA .u64 (i9+(iA .u64 (n1*i2))))),(.int .u64 (iA .u64 (j1+(iA .u64 (n1*i3))))),.int .u64 i4,.int .u64 i5,.int .u64 i6,.int .u64 i7,.bool g0,.int .u64 i9,.int .u64 i2,.int .u64 j1,.int .u64 i3,(.bool (!g1))]) .fail) .fail) .fail) .fail) .fail) (.ite true (.ret (.agg [.int .u64 i8,.int .u64 i9,.int .u64 j0,.int .u64 j1,.bool g1])) .fail)) (.ite true (.ret (.agg [.int .u64 i8,.int .u64 i9,.int .u64 j0,.int .u64 j1,.bool g1])) .fail)
def t285:T:=.call 283 [x0,x1]<|uI fun n=>.ite (lB n 0) (.call 296 [x0] fun a=>.ret (.tup [.nilslice,a])) (.opt (aA x1)<|uI fun n=>.ite (zB n 1) (.opt (rB yA 240 x1 (uZ 0)) fun a=>.light (fun m=>dA yA 242 ⟨0,m⟩ a)<|uL fun n=>.call 241 [x0,.int .u32 n] fun a8=>.opt (uX 0 a8) fun a9=>.opt (uX 1 a8)<|uL fun n=>.heavy (jE yA 240 1 [(0,(.int .u32 n))]) fun a=>.call 260 [a] fun a=>.ret (.tup [a9,a])) (.opt (aA x1)<|uI fun n15=>.opt (rB yA 240 x1 (uZ (uW (n15-1)))) fun a=>.light (fun m=>dA yA 242 ⟨0,m⟩ a)<|uL fun n=>.call 294 [.int .u32 n]<|uI fun n20=>.call 297 [x1,uZ n20] fun a=>.light (fun m=>zE yA 240 ⟨0,m⟩ a none (some (uZ n15))) fun a22=>.call 297 [x0,uZ n20] fun a23=>.opt (aA x0)<|uI fun n=>.heavy (fJ yA 240 (uZ (uW ((uW (n-n15))+1))) (uZ (uW ((uW (n-n15))+1)))) fun a=>.opt (aA a)<|uI fun n=>.jump 2 [uZ n15,uZ n20,a22,a23,a,(uZ (uW (n-1)))]))
def Tq:T:=.ite (qC 0 i2) (.light (fun m=>zE yA 240 ⟨0,m⟩ x1 (some (uZ i2)) (some (uZ (uW ((uW (i2+i0))+1))))) fun a=>.call 298 [a,x0]<|uL fun n=>.opt (rB yA 240 x2 (uZ i2)) fun a=>.heavy (pE yA 242 a (.int .u32 n)) fun _=>.jump 2 [uZ i0,uZ i1,x0,x1,x2,(uZ (uW (i2-1)))]) (.jump 6 [uZ i0,uZ i1,x1,x2,uZ i0,uZ 0])
def Tp:T:=.ite (lB i3 i2) (.opt (rB yA 240 x0 (qB i3)) fun a=>.light (fun m=>dA yA 242 ⟨0,m⟩ a)<|uL fun n2=>.opt (rB yA 240 x0 (uZ i3)) fun a=>.light (fun m=>dA yA 242 ⟨0,m⟩ a)<|uL fun n=>.opt (gI Nat.lor .u64 (iA .u64 ((iA .u64 n2)*4294967296)) (iA .u64 n))<|uE fun n=>.opt (De .u64 n i1)<|uE fun n=>.opt (rB yA 240 x0 (uZ i3)) fun a=>.heavy (pE yA 242 a (.int .u32 (iA .u32 n))) fun _=>.jump 6 [uZ i0,uZ i1,x0,x1,uZ i2,(qB i3)]) (.light (fun m=>zE yA 240 ⟨0,m⟩ x0 none (some (uZ i0))) fun a11=>.call 260 [x1] fun a12=>.light (fun m=>zE yA 240 ⟨0,m⟩ x0 none (some (uZ i0))) fun a=>.ite (same 10 a a11) (.call 260 [a11] fun a=>.ret (.tup [a12,a])) .fail)
def t286:T:=.opt (aA x0)<|uI fun n1=>.opt (aA x1)<|uI fun n=>.heavy (fJ yA 240 (uZ (uW ((bif lB n1 n then n else n1)+1))) (uZ (uW ((bif lB n1 n then n else n1)+1)))) fun a=>.opt (aA a)<|uI fun n=>.jump 2 [.int .u64 i0,x0,.int .u64 i1,x1,a,.int .u64 0,.int .u64 0,.int .u32 0,uZ n,uZ 0]
def To:T:=.ite (lB i6 i5) (.opt (aA x0)<|uI fun n=>.ite (lB i6 n) (.opt (rB yA 240 x0 (uZ i6)) fun a=>.light (fun m=>dA yA 242 ⟨0,m⟩ a)<|uL fun n=>.jump 17 [.int .u64 i0,x0,.int .u64 i1,x1,x2,(.int .u64 (iA .u64 (i2+(iA .u64 (i0*(iA .u64 n)))))),.int .u64 i3,.int .u32 i4,uZ i6,uZ i5,uZ i6]) (.jump 17 [.int .u64 i0,x0,.int .u64 i1,x1,x2,.int .u64 i2,.int .u64 i3,.int .u32 i4,uZ i6,uZ i5,uZ i6])) (.call 260 [x2] fun a=>.ret a)
def CV:T:=.opt (aA x1)<|uI fun n=>.ite (lB i5 n) (.opt (rB yA 240 x1 (uZ i5)) fun a=>.light (fun m=>dA yA 242 ⟨0,m⟩ a)<|uL fun n=>.jump 21 [.int .u64 i0,x0,.int .u64 i1,x1,x2,.int .u64 i2,(.int .u64 (iA .u64 (i3+(iA .u64 (i1*(iA .u64 n)))))),.int .u32 i4,uZ i5,uZ i6,uZ i7]) (.jump 21 [.int .u64 i0,x0,.int .u64 i1,x1,x2,.int .u64 i2,.int .u64 i3,.int .u32 i4,uZ i5,uZ i6,uZ i7])
def CU:T:=.call 299 [(.int .u32 (iA .u32 i2)),(.int .u32 (iA .u32 i3)),.int .u32 i4] fun a=>.opt (uX 0 a)<|uL fun n2=>.opt (uX 1 a)<|uL fun n=>.opt (rB yA 240 x2 (uZ i5)) fun a=>.heavy (pE yA 242 a (.int .u32 n2)) fun _=>.jump 2 [.int .u64 i0,x0,.int .u64 i1,x1,x2,(.int .u64 (Int.fdiv i2 4294967296)),(.int .u64 (Int.fdiv i3 4294967296)),.int .u32 n,uZ i6,(qB i7)]
def t287:T:=.heavy (eR yA 209) fun a0=>.heavy (pE yA 209 a0 (.int .u64 0)) fun _=>.call 242 [x0] fun a=>.range (npC yA) a 2 1 [a0] (.light (fun m=>dA yA 209 ⟨0,m⟩ a0)<|uE fun n=>.ret (.int .u64 n)) (.ret (.int .u64 0))
def zeo:T:=.light (fun m=>dA yA 209 ⟨0,m⟩ x0)<|uE fun n=>.opt (gI Nat.lor .u64 (iA .u64 (n*4294967296)) (iA .u64 i0))<|uE fun n=>.heavy (pE yA 209 x0 (.int .u64 n)) fun _=>.ret (.bool true)
def t288:T:=.heavy (jE yA 240 2 [(0,(.int .u32 (iA .u32 i0))),(1,(.int .u32 (iA .u32 (Int.fdiv i0 4294967296))))]) fun a=>.call 260 [a] fun a=>.ret a
def t294:T:=.call 301 [.int .u32 i0]<|uI fun n=>.ret (uZ (uW (32-n)))
def t295:T:=.heavy (tO x0) fun a=>.callv (.func (.func 302) [] [a]) [(uZ (uW (i0-1)))]<|uE fun n2=>.callv (.func (.func 302) [] [a]) [(uZ (uW (i0-2)))]<|uE fun n=>.opt (gI Nat.lor .u64 (iA .u64 (n2*4294967296)) n)<|uE fun n=>.opt (kU .u64 n i1)<|uE fun n8=>.callv (.func (.func 302) [] [a]) [(uZ (uW (i0-3)))]<|uE fun n=>.opt (De .u64 n (uW (32-i1)))<|uE fun n=>.opt (gI Nat.lor .u64 n8 n)<|uE fun n=>.ret (.int .u64 n)
def t296:T:=.opt ((zN .eql).f yA 240 (.tmp 3) (.const (.slice none 0 0)) x0 .nilslice)<|uB fun b=>.ite b (.ret .nilslice) (.heavy (jE yA 240 0 []) fun a=>.heavy (vF yA 240 240 a x0) fun a=>.ret a)
def t297:T:=.opt (aA x0)<|uI fun n=>.heavy (fJ yA 240 (qB n) (qB n)) fun a=>.opt (aA x0)<|uI fun n=>.jump 2 [uZ i0,a,x0,uZ n,uZ 0]
def Tn:T:=.ite (lB i2 i1) (.opt (rB yA 240 x1 (uZ i2)) fun a=>.light (fun m=>dA yA 242 ⟨0,m⟩ a)<|uL fun n=>.opt (kU .u64 (iA .u64 n) i0)<|uE fun n4=>.opt (rB yA 240 x0 (uZ i2)) fun a=>.light (fun m=>dA yA 242 ⟨0,m⟩ a)<|uL fun n=>.opt (gI Nat.lor .u32 n (iA .u32 n4))<|uL fun n=>.opt (rB yA 240 x0 (uZ i2)) fun a=>.heavy (pE yA 242 a (.int .u32 n)) fun _=>.opt (rB yA 240 x0 (qB i2)) fun a=>.heavy (pE yA 242 a (.int .u32 (iA .u32 (Int.fdiv n4 4294967296)))) fun _=>.jump 2 [uZ i0,x0,x1,uZ i1,(qB i2)]) (.ret x0)
def t298:T:=.opt (aA x1)<|uI fun n1=>.opt (rB yA 240 x0 (uZ n1)) fun a=>.light (fun m=>dA yA 242 ⟨0,m⟩ a)<|uL fun n4=>.opt (rB yA 240 x0 (uZ (uW (n1-1)))) fun a=>.light (fun m=>dA yA 242 ⟨0,m⟩ a)<|uL fun n=>.opt (gI Nat.lor .u64 (iA .u64 ((iA .u64 n4)*4294967296)) (iA .u64 n))<|uE fun n9=>.opt (rB yA 240 x1 (uZ (uW (n1-1)))) fun a=>.light (fun m=>dA yA 242 ⟨0,m⟩ a)<|uL fun n12=>.opt (wW .u64 n9 (iA .u64 n12))<|uE fun n14=>.opt (xW .u64 n9 (iA .u64 n12))<|uE fun n=>.jump 2 [x0,x1,uZ n1,(.int .u64 (iA .u64 n12)),.int .u64 n14,.int .u64 n]
def Tk:T:=.ite (qC 4294967296 i2) (uQ12 i3 i1 x0 x1 i0 i2) (.opt (rB yA 240 x1 (uZ (uW (i0-2)))) fun a=>.light (fun m=>dA yA 242 ⟨0,m⟩ a)<|uL fun n2=>.opt (rB yA 240 x0 (uZ (uW (i0-2)))) fun a=>.light (fun m=>dA yA 242 ⟨0,m⟩ a)<|uL fun n=>.opt (gI Nat.lor .u64 (iA .u64 (i3*4294967296)) (iA .u64 n))<|uE fun n=>.ite (lB n (iA .u64 (i2*(iA .u64 n2)))) (uQ12 i3 i1 x0 x1 i0 i2) (.jump 19 [x0,x1,uZ i0,.int .u64 i2]))
def CT:T:=.opt (aA x1)<|uI fun n=>.jump 6 [x0,x1,uZ i0,.int .u64 i1,.int .u64 0,.int .u64 0,x1,uZ n,uZ 0]
def Tj:T:=.ite (lB i5 i4) (.opt (rB yA 240 x2 (uZ i5)) fun a=>.light (fun m=>dA yA 242 ⟨0,m⟩ a)<|uL fun n2=>.opt (rB yA 240 x0 (uZ i5)) fun a=>.light (fun m=>dA yA 242 ⟨0,m⟩ a)<|uL fun n=>.opt (rB yA 240 x0 (uZ i5)) fun a=>.heavy (pE yA 242 a (.int .u32 (iA .u32 (iA .u64 ((iA .u64 ((iA .u64 n)-(iA .u64 (iA .u32 (iA .u64 ((iA .u64 (i1*(iA .u64 n2)))+i2))))))-i3))))) fun _=>.jump 6 [x0,x1,uZ i0,.int .u64 i1,(.int .u64 (Int.fdiv (iA .u64 ((iA .u64 (i1*(iA .u64 n2)))+i2)) 4294967296)),(.int .u64 (Int.fdiv (iA .u64 ((iA .u64 ((iA .u64 n)-(iA .u64 (iA .u32 (iA .u64 ((iA .u64 (i1*(iA .u64 n2)))+i2))))))-i3)) 9223372036854775808)),x2,uZ i4,(qB i5)]) (.opt (rB yA 240 x0 (uZ i0)) fun a=>.light (fun m=>dA yA 242 ⟨0,m⟩ a)<|uL fun n=>.opt (rB yA 240 x0 (uZ i0)) fun a=>.heavy (pE yA 242 a (.int .u32 (iA .u32 (iA .u64 ((iA .u64 ((iA .u64 n)-i2))-i3))))) fun _=>.ite (zB (Int.fdiv (iA .u64 ((iA .u64 ((iA .u64 n)-i2))-i3)) 9223372036854775808) 0) (.ret (.int .u32 (iA .u32 i1))) (.opt (aA x1)<|uI fun n=>.jump 10 [x0,uZ i0,.int .u64 i1,.int .u32 0,x1,uZ n,uZ 0]))
def Tl:T:=.ite (lB i4 i3) (.opt (rB yA 240 x1 (uZ i4)) fun a=>.light (fun m=>dA yA 242 ⟨0,m⟩ a)<|uL fun n2=>.opt (rB yA 240 x0 (uZ i4)) fun a=>.light (fun m=>dA yA 242 ⟨0,m⟩ a)<|uL fun n=>.call 303 [.int .u32 n,.int .u32 n2,.int .u32 i2] fun a=>.opt (uX 0 a)<|uL fun n8=>.opt (uX 1 a)<|uL fun n=>.opt (rB yA 240 x0 (uZ i4)) fun a=>.heavy (pE yA 242 a (.int .u32 n8)) fun _=>.jump 10 [x0,uZ i0,.int .u64 i1,.int .u32 n,x1,uZ i3,(qB i4)]) (.opt (rB yA 240 x0 (uZ i0)) fun a=>.light (fun m=>dA yA 242 ⟨0,m⟩ a)<|uL fun n=>.opt (rB yA 240 x0 (uZ i0)) fun a=>.heavy (pE yA 242 a (.int .u32 (iA .u32 (n+i2)))) fun _=>.ret (.int .u32 (iA .u32 (iA .u64 (i1-1)))))
def t299:T:=.opt (Cd (.int .u32 i0))<|uL fun n=>.opt (iAnd .u32 n i1)<|uL fun n3=>.opt (gI Nat.xor .u32 i0 i1)<|uL fun n=>.opt (Cd (.int .u32 n))<|uL fun n=>.opt (iAnd .u32 n (iA .u32 ((iA .u32 (i0-i1))-i2)))<|uL fun n=>.opt (gI Nat.lor .u32 n3 n)<|uL fun n=>.ret (.tup [(.int .u32 (iA .u32 ((iA .u32 (i0-i1))-i2))),(.int .u32 (Int.fdiv n 2147483648))])
def t301:T:=.ite (qC 65536 i0) (.jump 9 [(.int .u32 (Int.fdiv i0 65536)),uZ 16]) (.jump 9 [.int .u32 i0,uZ 0])
def Ti:T:=.ite (qC 256 i0) (.jump 15 [(.int .u32 (Int.fdiv i0 256)),(uZ (uW (i1+8)))]) (.jump 15 [.int .u32 i0,uZ i1])
def CS:T:=.opt (fR yA 9 (.str [0,1,2,2,3,3,3,3,4,4,4,4,4,4,4,4,5,5,5,5,5,5,5,5,5,5,5,5,5,5,5,5,6,6,6,6,6,6,6,6,6,6,6,6,6,6,6,6,6,6,6,6,6,6,6,6,6,6,6,6,6,6,6,6,7,7,7,7,7,7,7,7,7,7,7,7,7,7,7,7,7,7,7,7,7,7,7,7,7,7,7,7,7,7,7,7,7,7,7,7,7,7,7,7,7,7,7,7,7,7,7,7,7,7,7,7,7,7,7,7,7,7,7,7,7,7,7,7,8,8,8,8,8,8,8,8,8,8,8,8,8,8,8,8,8,8,8,8,8,8,8,8,8,8,8,8,8,8,8,8,8,8,8,8,8,8,8,8,8,8,8,8,8,8,8,8,8,8,8,8,8,8,8,8,8,8,8,8,8,8,8,8,8,8,8,8,8,8,8,8,8,8,8,8,8,8,8,8,8,8,8,8,8,8,8,8,8,8,8,8,8,8,8,8,8,8,8,8,8,8,8,8,8,8,8,8,8,8,8,8,8,8,8,8,8,8,8,8,8,8,8,8,8,8,8,8]) (uY (iA .u8 i0)))<|uU fun n=>.ret (uZ (uW (i1+(uW n))))
def t302:T:=.light (fun m=>dA yA 240 ⟨0,m⟩ x0) fun a=>.opt (aA a)<|uI fun n=>.ite (qC n i0) (.ret (.int .u64 0)) (.light (fun m=>dA yA 240 ⟨0,m⟩ x0) fun a=>.opt (rB yA 240 a (uZ i0)) fun a=>.light (fun m=>dA yA 242 ⟨0,m⟩ a)<|uL fun n=>.ret (.int .u64 (iA .u64 n)))
def t303:T:=.ret (.tup [(.int .u32 (iA .u32 (iA .u64 ((iA .u64 ((iA .u64 i0)+(iA .u64 i1)))+(iA .u64 i2))))),(.int .u32 (iA .u32 (Int.fdiv (iA .u64 ((iA .u64 ((iA .u64 i0)+(iA .u64 i1)))+(iA .u64 i2))) 4294967296)))])
variable {i0 i1 i2 i3 i4 i5 i6 i7 i8 i9 j0 j1 j2 j3 j4 j5 j6 j7}{l0 l1 l2 l3 l4 l5 l6 l7}{x0 x1 x2 x3 x4 x5 x6 x7 x8 x9 y0 y1}{g0 g1 g2 g3 g4 g5 g6 g7 g8 g9}
def w3(h:wp 3 (t3 l0 x0 x1 x2) m Q):Wf 3 [.agg [.str l0,x0,x1,x2]] m Q:=xB (oA 3) h
def w6(h:wp 6 (t6 i0 l0 x0 x1 x2) m Q):Wf 6 [.agg [.str l0,x0,x1,x2],uZ i0] m Q:=xB (oA 6) h
def j6_2(h:wp 6 (t6_2 i0 i1 i2 l0 x0 x1 x2) m Q):jp 6 2 [uZ i0,uZ i1,uZ i2,.str l0,x0,x1,x2] m Q:=vC (oA 6) h
def j6_6(h:wp 6 (t6_6 i0 i1 i2 l0 x0 x1 x2) m Q):jp 6 6 [uZ i0,uZ i1,uZ i2,.str l0,x0,x1,x2] m Q:=vC (oA 6) h
def j6_10(h:wp 6 (zhf i0 i1 i2 i3 l0 x0 x1 x2) m Q):jp 6 10 [uZ i0,uZ i1,uZ i2,uZ i3,.str l0,x0,x1,x2] m Q:=vC (oA 6) h
def j6_14(h:wp 6 (zhe i0 i1 i2 l0 x0 x1 x2) m Q):jp 6 14 [uZ i0,uZ i1,uZ i2,.str l0,x0,x1,x2] m Q:=vC (oA 6) h
def w8(h:wp 8 (t8 l0 x0 x1 x2) m Q):Wf 8 [.agg [.str l0,x0,x1,x2]] m Q:=xB (oA 8) h
def w9(h:wp 9 (t9 i0 i1 i2 i3 l0 x0 x1 x2 g0 g1) m Q):Wf 9 [.agg [uY i0,.str l0,uY i1,.bool g0,x0,.bool g1,x1,uZ i2,x2],uZ i3] m Q:=xB (oA 9) h
def j9_2(h:wp 9 (t9_2 i0 i1 i2 i3 i4 i5 l0 x0 x1 x2 g0 g1) m Q):jp 9 2 [uZ i0,uZ i1,uZ i2,uY i3,.str l0,uY i4,.bool g0,x0,.bool g1,x1,uZ i5,x2] m Q:=vC (oA 9) h
def w16(h:wp 16 (t16 x0 x1) m Q):Wf 16 [.agg [.bool g0,x0,.bool g1,x1]] m Q:=xB (oA 16) h
def w20(h:wp 20 (t20 l0 x0 x1 x2) m Q):Wf 20 [.agg [.str l0,x0,x1,x2]] m Q:=xB (oA 20) h
def j20_2(h:wp 20 (t20_2 l0 x0 x1 x2) m Q):jp 20 2 [x0,x1,x2,.str l0] m Q:=vC (oA 20) h
def w21(h:wp 21 (t21 l0 x0 x1 x2) m Q):Wf 21 [.agg [.str l0,x0,x1,x2]] m Q:=xB (oA 21) h
def w23(h:wp 23 (t23 l0 x0 x1 x2) m Q):Wf 23 [.agg [.str l0,x0,x1,x2]] m Q:=xB (oA 23) h
def w24(h:wp 24 (t24 l0 x0 x1 x2) m Q):Wf 24 [.agg [.str l0,x0,x1,x2]] m Q:=xB (oA 24) h
def j24_2(h:wp 24 (zho i0 l0 l1 x0 x1 x2) m Q):jp 24 2 [.str l0,uZ i0,.str l1,x0,x1,x2] m Q:=vC (oA 24) h
def j24_21(h:wp 24 (zev i0 l0 l1 x0 x1 x2) m Q):jp 24 21 [.str l0,uZ i0,.str l1,x0,x1,x2] m Q:=vC (oA 24) h
def j24_6(h:wp 24 (zhn i0 l0 l1 x0 x1 x2) m Q):jp 24 6 [.str l0,uZ i0,.str l1,x0,x1,x2] m Q:=vC (oA 24) h
def j24_37(h:wp 24 (zeu i0 l0 l1 l2 x0 x1 x2 x3 g0) m Q):jp 24 37 [.str l0,uZ i0,.str l1,x0,x1,x2,.str l2,.bool g0,x3] m Q:=vC (oA 24) h
def zfy(h:wp 24 (Uf i0 i1 l0 l1 l2 x0 x1 x2 x3 g0) m Q):jp 24 10 [.str l0,uZ i0,uZ i1,.str l1,x0,x1,x2,.str l2,.bool g0,x3] m Q:=vC (oA 24) h
def j24_51(h:wp 24 (zet i0 i1 i4 l0 l1 l2 x0 x1 x2 x3 x4 x5 g0 g1 g2) m Q):jp 24 51 [.str l0,uZ i0,uZ i1,.str l1,x0,x1,x2,.str l2,.bool g0,x3,uZ i2,uZ i3,uZ i4,.bool g1,x4,.bool g2,x5] m Q:=vC (oA 24) h
def zfx(h:wp 24 (Ue i0 l0 l1 x0 x1 x2) m Q):jp 24 14 [.str l0,uZ i0,.str l1,x0,x1,x2] m Q:=vC (oA 24) h
def w25(h:wp 25 (t25 l0 x0 x1 x2) m Q):Wf 25 [.agg [.str l0,x0,x1,x2]] m Q:=xB (oA 25) h
def j25_2(h:wp 25 (zhm i0 l0 x0 x1 x2) m Q):jp 25 2 [uZ i0,.str l0,x0,x1,x2] m Q:=vC (oA 25) h
def j25_6(h:wp 25 (zhl i0 l0 x0 x1 x2) m Q):jp 25 6 [uZ i0,.str l0,x0,x1,x2] m Q:=vC (oA 25) h
def zfs(h:wp 25 (Tz i0 i1 l0 l1 x0 x1 x2 x3 g0) m Q):jp 25 10 [uZ i0,uZ i1,.str l0,x0,x1,x2,.str l1,.bool g0,x3] m Q:=vC (oA 25) h
def zfr(h:wp 25 (Tx i0 l0 x0 x1 x2) m Q):jp 25 14 [uZ i0,.str l0,x0,x1,x2] m Q:=vC (oA 25) h
def w26(h:wp 26 (t26 l0 l1 x0 x1 x2 x3 x4 x5) m Q):Wf 26 [.agg [.str l0,x0,x1,x2],.agg [.str l1,x3,x4,x5]] m Q:=xB (oA 26) h
def w27(h:wp 27 (t27 i0 i1 i2 l0 x0 x1 x2 g0 g1) m Q):Wf 27 [.agg [uY i0,.str l0,uY i1,.bool g0,x0,.bool g1,x1,uZ i2,x2]] m Q:=xB (oA 27) h
def w30(h:wp 30 (t30 i0 i1 x0 x1 g0 g1) m Q):Wf 30 [.agg [uY i0,.bool g0,x0,.bool g1,x1,uZ i1]] m Q:=xB (oA 30) h
def w31(h:wp 31 (t31 i0 i1 i2 i3 i4 i5 l0 l1 x0 x1 x2 x3 x4 x5 g0 g1 g2 g3) m Q):Wf 31 [.agg [uY i0,.str l0,uY i1,.bool g0,x0,.bool g1,x1,uZ i2,x2],.agg [uY i3,.str l1,uY i4,.bool g2,x3,.bool g3,x4,uZ i5,x5]] m Q:=xB (oA 31) h
def w39(h:wp 39 (t39 i0 i1 x0 x1 g0 g1) m Q):Wf 39 [.agg [uY i0,.bool g0,x0,.bool g1,x1,uZ i1]] m Q:=xB (oA 39) h
def w40(h:wp 40 (t40 i0 i1 x0 x1 g0 g1) m Q):Wf 40 [.agg [uY i0,.bool g0,x0,.bool g1,x1,uZ i1]] m Q:=xB (oA 40) h
def w44(h:wp 44 (t44 l0 x0 x1 x2) m Q):Wf 44 [.agg [.str l0,x0,x1,x2]] m Q:=xB (oA 44) h
def w45(h:wp 45 (t45 l0 x0) m Q):Wf 45 [x0,.str l0] m Q:=xB (oA 45) h
def w46(h:wp 46 (t46 x0) m Q):Wf 46 [x0] m Q:=xB (oA 46) h
def w48(h:wp 48 (t48 ) m Q):Wf 48 [] m Q:=xB (oA 48) h
def w49(h:wp 49 (t49 l0 x0 x1 x2 x3) m Q):Wf 49 [.agg [x0],.agg [.str l0,x1,x2,x3]] m Q:=xB (oA 49) h
def w50(h:wp 50 (t50 x0) m Q):Wf 50 [x0] m Q:=xB (oA 50) h
def j50_2(h:wp 50 (zhk i0 x0 x1) m Q):jp 50 2 [x0,x1,uZ i0] m Q:=vC (oA 50) h
def w51(h:wp 51 (t51 x0) m Q):Wf 51 [x0] m Q:=xB (oA 51) h
def j51_2(h:wp 51 (t51_2 i0 x0 x1) m Q):jp 51 2 [x0,x1,uZ i0] m Q:=vC (oA 51) h
def j51_6(h:wp 51 (zhj i0 x0 x1) m Q):jp 51 6 [x0,x1,uZ i0] m Q:=vC (oA 51) h
def w52(h:wp 52 (t52 x0) m Q):Wf 52 [x0] m Q:=xB (oA 52) h
def j52_2(h:wp 52 (t52_2 i0 x0 x1) m Q):jp 52 2 [x0,x1,uZ i0] m Q:=vC (oA 52) h
def j52_6(h:wp 52 (zhi i0 x0 x1) m Q):jp 52 6 [x0,x1,uZ i0] m Q:=vC (oA 52) h
def w53(h:wp 53 (t53 i0) m Q):Wf 53 [uY i0] m Q:=xB (oA 53) h
def w54(h:wp 54 (t54 i0) m Q):Wf 54 [uZ i0] m Q:=xB (oA 54) h
def w55(h:wp 55 (t55 i0) m Q):Wf 55 [uZ i0] m Q:=xB (oA 55) h
def w56(h:wp 56 (t56 x0 x1 g0 g1) m Q):Wf 56 [.agg [.bool g0,x0,.bool g1,x1]] m Q:=xB (oA 56) h
def j56_17(h:wp 56 (zen l0 l1) m Q):jp 56 17 [.str l0,.str l1] m Q:=vC (oA 56) h
def w57(h:wp 57 (t57 i0 i1 i2 i3 i4 i5 i6 i7 i8 l0 l1 l2 l3 x0 x1 x2 x3 x4 x5 g0 g1 g2 g3 g4) m Q):Wf 57 [.agg [.str l0,.str l1,uZ i0,uZ i1,uZ i2,.bool g0,uY i3,.str l2,uY i4,.bool g1,x0,.bool g2,x1,uZ i5,x2,uY i6,.str l3,uY i7,.bool g3,x3,.bool g4,x4,uZ i8,x5]] m Q:=xB (oA 57) h
def j57_9(h:wp 57 (t57_9 i0 i2 i3 i4 i5 i6 i7 i8 l0 l1 l2 l3 l4 x0 x1 x2 x3 x4 x5 g0 g1 g2 g3 g4) m Q):jp 57 9 [.str l0,.str l1,.str l2,uZ i0,uZ i1,uZ i2,.bool g0,uY i3,.str l3,uY i4,.bool g1,x0,.bool g2,x1,uZ i5,x2,uY i6,.str l4,uY i7,.bool g3,x3,.bool g4,x4,uZ i8,x5] m Q:=vC (oA 57) h
def w58(h:wp 58 (t58 l0) m Q):Wf 58 [.str l0] m Q:=xB (oA 58) h
def w59(h:wp 59 (t59 i0) m Q):Wf 59 [uZ i0] m Q:=xB (oA 59) h
def w60(h:wp 60 (t60 i0) m Q):Wf 60 [uZ i0] m Q:=xB (oA 60) h
def w61(h:wp 61 (t61 i0 i1 i2 i3 i4 i5 i6 i7 i8 l0 l1 l2 l3 x0 x1 x2 x3 x4 x5 g0 g1 g2 g3 g4) m Q):Wf 61 [.agg [.str l0,.str l1,uZ i0,uZ i1,uZ i2,.bool g0,uY i3,.str l2,uY i4,.bool g1,x0,.bool g2,x1,uZ i5,x2,uY i6,.str l3,uY i7,.bool g3,x3,.bool g4,x4,uZ i8,x5]] m Q:=xB (oA 61) h
def w62(h:wp 62 (t62 l0 l1 x0 x1 x2 x3 x4 x5) m Q):Wf 62 [.agg [.str l0,x0,x1,x2],.agg [.str l1,x3,x4,x5]] m Q:=xB (oA 62) h
def w63(h:wp 63 (t63 x0 x1) m Q):Wf 63 [x0,x1] m Q:=xB (oA 63) h
def j63_2(h:wp 63 (t63_2 i0 x0 x1) m Q):jp 63 2 [x0,x1,uZ i0] m Q:=vC (oA 63) h
def w64(h:wp 64 (t64 x0 x1) m Q):Wf 64 [x0,x1] m Q:=xB (oA 64) h
def j64_2(h:wp 64 (t64_2 i0 x0 x1) m Q):jp 64 2 [x0,x1,uZ i0] m Q:=vC (oA 64) h
def w65(h:wp 65 (t65 x0 x1) m Q):Wf 65 [x0,x1] m Q:=xB (oA 65) h
def j65_2(h:wp 65 (t65_2 i0 x0 x1) m Q):jp 65 2 [x0,x1,uZ i0] m Q:=vC (oA 65) h
def w66(h:wp 66 (t66 i0 i1 x0 x1 g0 g1) m Q):Wf 66 [.agg [uY i0,.bool g0,x0,.bool g1,x1,uZ i1]] m Q:=xB (oA 66) h
def w67(h:wp 67 (t67 x0) m Q):Wf 67 [x0] m Q:=xB (oA 67) h
def j67_2(h:wp 67 (t67_2 i0 x0 x1) m Q):jp 67 2 [x0,x1,uZ i0] m Q:=vC (oA 67) h
def j67_6(h:wp 67 (zhh i0 x0 x1) m Q):jp 67 6 [x0,x1,uZ i0] m Q:=vC (oA 67) h
def w68(h:wp 68 (t68 i0 i1 i2 i3 l0 x0 x1 x2 x3 g0 g1) m Q):Wf 68 [.agg [x0],.agg [uY i0,.str l0,uY i1,.bool g0,x1,.bool g1,x2,uZ i2,x3],uZ i3] m Q:=xB (oA 68) h
def j68_33(h:wp 68 (zem i0 i4 i5 x0 x3 x4 x5 g2 g3) m Q):jp 68 33 [uZ i0,x0,uY i1,.str l0,uY i2,.bool g0,x1,.bool g1,x2,uZ i3,x3,uY i4,.bool g2,x4,.bool g3,x5,uZ i5] m Q:=vC (oA 68) h
def j68_4(h:wp 68 (zhg i0 i1 i2 x0 x1) m Q):jp 68 4 [uZ i0,x0,uZ i1,uZ i2,x1] m Q:=vC (oA 68) h
def w69(h:wp 69 (t69 i0 i1 i2 l0 x0 x1 x2 g0 g1) m Q):Wf 69 [.agg [uY i0,.str l0,uY i1,.bool g0,x0,.bool g1,x1,uZ i2,x2]] m Q:=xB (oA 69) h
def w70(h:wp 70 (t70 i0 i1 i2 i3 l0 x0 x1 x2 g0 g1) m Q):Wf 70 [.agg [uY i0,.str l0,uY i1,.bool g0,x0,.bool g1,x1,uZ i2,x2],uZ i3] m Q:=xB (oA 70) h
def j70_19(h:wp 70 (zel i0 i1 i2 i3 l0 x0 x1 x2 g0 g1) m Q):jp 70 19 [uZ i0,uY i1,.str l0,uY i2,.bool g0,x0,.bool g1,x1,uZ i3,x2] m Q:=vC (oA 70) h
def j70_37(h:wp 70 (zek i0 i1 i2 i3 l0 x0 x1 x2 g0 g1) m Q):jp 70 37 [uZ i0,uY i1,.str l0,uY i2,.bool g0,x0,.bool g1,x1,uZ i3,x2] m Q:=vC (oA 70) h
def j70_2(h:wp 70 (zhd i0 i1 i2 i3 i4 l0 x0 x1 x2 g0 g1) m Q):jp 70 2 [uZ i0,uZ i1,uY i2,.str l0,uY i3,.bool g0,x0,.bool g1,x1,uZ i4,x2] m Q:=vC (oA 70) h
def j71_51(h:wp 71 (zej i0 i1 i2 l0 l1 x0 x1 x2 g0 g1) m Q):jp 71 51 [.str l0,uY i0,.str l1,uY i1,.bool g0,x0,.bool g1,x1,uZ i2,x2] m Q:=vC (oA 71) h
def j71_4(h:wp 71 (zhc i0 i1 i2 i3 l0 l1 x0 x1 x2 g0 g1) m Q):jp 71 4 [.str l0,uZ i0,uY i1,.str l1,uY i2,.bool g0,x0,.bool g1,x1,uZ i3,x2] m Q:=vC (oA 71) h
def j71_61(h:wp 71 (t71_61 i0 i1 i2 i3 l0 l1 x0 x1 x2 g0 g1) m Q):jp 71 61 [.str l0,uZ i0,uY i1,.str l1,uY i2,.bool g0,x0,.bool g1,x1,uZ i3,x2] m Q:=vC (oA 71) h
def w72(h:wp 72 (t72 x0 x1 g0 g1) m Q):Wf 72 [.agg [.bool g0,x0,.bool g1,x1]] m Q:=xB (oA 72) h
def w73(h:wp 73 (t73 i0 i1 i2 i3 i4 i5 l0 l1 x0 x1 x2 x3 x4 x5 g0 g1 g2 g3) m Q):Wf 73 [.agg [uY i0,.str l0,uY i1,.bool g0,x0,.bool g1,x1,uZ i2,x2],.agg [uY i3,.str l1,uY i4,.bool g2,x3,.bool g3,x4,uZ i5,x5]] m Q:=xB (oA 73) h
def w74(h:wp 74 (t74 i0 i1 i2 i3 x0 x1 x2 x3 g0 g1 g2 g3) m Q):Wf 74 [.agg [uY i0,.bool g0,x0,.bool g1,x1,uZ i1],.agg [uY i2,.bool g2,x2,.bool g3,x3,uZ i3]] m Q:=xB (oA 74) h
def w75(h:wp 75 (t75 x0 x1) m Q):Wf 75 [x0,x1] m Q:=xB (oA 75) h
def j75_2(h:wp 75 (t75_2 i0 x0 x1) m Q):jp 75 2 [x0,x1,uZ i0] m Q:=vC (oA 75) h
def w89(h:wp 89 (t89 x0 x1 g0 g1) m Q):Wf 89 [.agg [.bool g0,x0,.bool g1,x1]] m Q:=xB (oA 89) h
def w90(h:wp 90 (t90 x0 x1 g0 g1) m Q):Wf 90 [.agg [.bool g0,x0,.bool g1,x1]] m Q:=xB (oA 90) h
def w91(h:wp 91 (t91 i0) m Q):Wf 91 [uZ i0] m Q:=xB (oA 91) h
def w92(h:wp 92 (t92 g0) m Q):Wf 92 [.bool g0] m Q:=xB (oA 92) h
def w93(h:wp 93 (t93 x0 x1 g0 g1) m Q):Wf 93 [.agg [.bool g0,x0,.bool g1,x1]] m Q:=xB (oA 93) h
def w94(h:wp 94 (t94 i0) m Q):Wf 94 [uZ i0] m Q:=xB (oA 94) h
def w95(h:wp 95 (t95 i0) m Q):Wf 95 [uZ i0] m Q:=xB (oA 95) h
def w100(h:wp 100 (t100 x0 x1) m Q):Wf 100 [x0,x1] m Q:=xB (oA 100) h
def zgh(h:wp 100 (Uz i0 i1 x0 x1 x2) m Q):jp 100 2 [x0,x1,x2,uZ i0,uZ i1] m Q:=vC (oA 100) h
def zi3(h:wp 100 (DC i0 i1 i2 l0 l1 x0 x1 x2) m Q):jp 100 15 [x0,x1,.str l0,x2,uZ i0,uZ i1,.str l1,uY i2,.bool g0] m Q:=vC (oA 100) h
def zgg(h:wp 100 (Uy i0 i1 x0 x1 x2) m Q):jp 100 6 [x0,x1,x2,uZ i0,uZ i1] m Q:=vC (oA 100) h
def zi2(h:wp 100 (DB i0 i1 l0 l1 x0 x1 x2 x3 g0) m Q):jp 100 31 [x0,x1,.str l0,x2,uZ i0,uZ i1,.str l1,.bool g0,x3] m Q:=vC (oA 100) h
def JX(h:wp 100 (Vd i0 i1 i2 i3 l0 x0 x1 x2 x3 x4 g0) m Q):jp 100 10 [x0,x1,x2,uZ i0,uZ i1,x3,uZ i2,uZ i3,.str l0,.bool g0,x4] m Q:=vC (oA 100) h
def JW(h:wp 100 (Vc i0 i1 x0 x1) m Q):jp 100 14 [x0,x1,uZ i0,uZ i1] m Q:=vC (oA 100) h
def w101(h:wp 101 (t101 i0) m Q):Wf 101 [uY i0] m Q:=xB (oA 101) h
def w102(h:wp 102 (t102 i0 i1 i2 x0 x1 g0 g1 g2) m Q):Wf 102 [.agg [uZ i0,uZ i1,uZ i2,.bool g0,x0,.bool g1,x1],.bool g2] m Q:=xB (oA 102) h
def j102_9(h:wp 102 (ze2 i2 l0 x0 x1 g0 g1) m Q):jp 102 9 [.str l0,uZ i0,uZ i1,uZ i2,.bool g0,x0,.bool g1,x1] m Q:=vC (oA 102) h
def w103(h:wp 103 (t103 i0 i1 i2 i3 i4 i5 i6 i7 i8 l0 l1 l2 l3 x0 x1 x2 x3 x4 x5 g0 g1 g2 g3 g4) m Q):Wf 103 [.agg [.str l0,.str l1,uZ i0,uZ i1,uZ i2,.bool g0,uY i3,.str l2,uY i4,.bool g1,x0,.bool g2,x1,uZ i5,x2,uY i6,.str l3,uY i7,.bool g3,x3,.bool g4,x4,uZ i8,x5]] m Q:=xB (oA 103) h
def j103_9(h:wp 103 (ze1 i0 i2 i3 i4 i5 i6 i7 i8 l0 l1 l2 l3 l4 x0 x1 x2 x3 x4 x5 g0 g1 g2 g3 g4) m Q):jp 103 9 [.str l0,.str l1,.str l2,uZ i0,uZ i1,uZ i2,.bool g0,uY i3,.str l3,uY i4,.bool g1,x0,.bool g2,x1,uZ i5,x2,uY i6,.str l4,uY i7,.bool g3,x3,.bool g4,x4,uZ i8,x5] m Q:=vC (oA 103) h
def w105(h:wp 105 (t105 ) m Q):Wf 105 [] m Q:=xB (oA 105) h
def w106(h:wp 106 (t106 i0 l0) m Q):Wf 106 [.agg [.str l0,uY i0,.bool g0]] m Q:=xB (oA 106) h
def w107(h:wp 107 (t107 l0) m Q):Wf 107 [.str l0] m Q:=xB (oA 107) h
def w108(h:wp 108 (t108 x0 x1) m Q):Wf 108 [x0,x1] m Q:=xB (oA 108) h
def j108_2(h:wp 108 (t108_2 i0 i1 x0 x1) m Q):jp 108 2 [x0,x1,uZ i0,uZ i1] m Q:=vC (oA 108) h
def w109(h:wp 109 (t109 x0 x1) m Q):Wf 109 [x0,x1] m Q:=xB (oA 109) h
def j109_2(h:wp 109 (t109_2 i0 i1 x0 x1) m Q):jp 109 2 [x0,x1,uZ i0,uZ i1] m Q:=vC (oA 109) h
def w110(h:wp 110 (t110 l0 x0 g0) m Q):Wf 110 [.agg [.str l0,.bool g0,x0]] m Q:=xB (oA 110) h
def w111(h:wp 111 (t111 x0 x1) m Q):Wf 111 [x0,x1] m Q:=xB (oA 111) h
def j111_2(h:wp 111 (t111_2 i0 i1 x0 x1) m Q):jp 111 2 [x0,x1,uZ i0,uZ i1] m Q:=vC (oA 111) h
def w112(h:wp 112 (t112 i0 i1 i2 i3 i4 i5 i6 i7 i8 l0 l1 l2 l3 x0 x1 x2 x3 x4 x5 x6 g0 g1 g2 g3 g4) m Q):Wf 112 [.agg [x0],.agg [.str l0,.str l1,uZ i0,uZ i1,uZ i2,.bool g0,uY i3,.str l2,uY i4,.bool g1,x1,.bool g2,x2,uZ i5,x3,uY i6,.str l3,uY i7,.bool g3,x4,.bool g4,x5,uZ i8,x6]] m Q:=xB (oA 112) h
def w113(h:wp 113 (t113 i0 i1) m Q):Wf 113 [uZ i0,uZ i1] m Q:=xB (oA 113) h
def w114(h:wp 114 (t114 l0 x0 g0) m Q):Wf 114 [.agg [.str l0,.bool g0,x0]] m Q:=xB (oA 114) h
def w115(h:wp 115 (t115 i0 i1) m Q):Wf 115 [uZ i0,uZ i1] m Q:=xB (oA 115) h
def w116(h:wp 116 (t116 i0 i1 i2 i3 i4 i5 i6 i7 i8 l0 l1 l2 l3 x0 x1 x2 x3 x4 x5 g0 g1 g2 g3 g4) m Q):Wf 116 [.agg [.str l0,.str l1,uZ i0,uZ i1,uZ i2,.bool g0,uY i3,.str l2,uY i4,.bool g1,x0,.bool g2,x1,uZ i5,x2,uY i6,.str l3,uY i7,.bool g3,x3,.bool g4,x4,uZ i8,x5]] m Q:=xB (oA 116) h
def w117(h:wp 117 (t117 i0 i1) m Q):Wf 117 [uZ i0,uZ i1] m Q:=xB (oA 117) h
def w118(h:wp 118 (t118 x0 g0) m Q):Wf 118 [.agg [.bool g0,x0]] m Q:=xB (oA 118) h
def j118_2(h:wp 118 (ze0 l0 x0 x1 g0) m Q):jp 118 2 [x0,.str l0,.bool g0,x1] m Q:=vC (oA 118) h
def w119(h:wp 119 (t119 i0) m Q):Wf 119 [uZ i0] m Q:=xB (oA 119) h
def j119_9(h:wp 119 (zez i0 i1 x0 g0) m Q):jp 119 9 [uZ i0,.int .u64 i1,.bool g0,x0] m Q:=vC (oA 119) h
def zgf(h:wp 119 (Ux i0 i1 x0 x1 g0) m Q):jp 119 2 [uZ i0,.int .u64 i1,x0,.bool g0,x1] m Q:=vC (oA 119) h
def w120(h:wp 120 (t120 i0) m Q):Wf 120 [uZ i0] m Q:=xB (oA 120) h
def Ys(h:wp 120 (Nk i0 i1 i2) m Q):jp 120 2 [uZ i0,uZ i1,uZ i2] m Q:=vC (oA 120) h
def w121(h:wp 121 (t121 i0 i1) m Q):Wf 121 [uZ i0,uZ i1] m Q:=xB (oA 121) h
def zge(h:wp 121 (Uw i0 i1 i2 l0) m Q):jp 121 2 [uZ i0,uZ i1,.str l0,uZ i2] m Q:=vC (oA 121) h
def w122(h:wp 122 (t122 x0 x1 g0 g1) m Q):Wf 122 [.agg [.bool g0,x0,.bool g1,x1]] m Q:=xB (oA 122) h
def w123(h:wp 123 (t123 i0) m Q):Wf 123 [uY i0] m Q:=xB (oA 123) h
def w124(h:wp 124 (t124 i0 l0) m Q):Wf 124 [.str l0,uZ i0] m Q:=xB (oA 124) h
def zgd(h:wp 124 (Uv i0 l0) m Q):jp 124 2 [.str l0,uZ i0] m Q:=vC (oA 124) h
def w125(h:wp 125 (t125 l0) m Q):Wf 125 [.str l0] m Q:=xB (oA 125) h
def zgc(h:wp 125 (Uu i0 l0 x0) m Q):jp 125 2 [.str l0,x0,uZ i0] m Q:=vC (oA 125) h
def w126(h:wp 126 (t126 i0 i1 i2 l0 x0 x1 x2 g0 g1) m Q):Wf 126 [.agg [uY i0,.str l0,uY i1,.bool g0,x0,.bool g1,x1,uZ i2,x2]] m Q:=xB (oA 126) h
def w127(h:wp 127 (t127 x0 x1) m Q):Wf 127 [x0,x1] m Q:=xB (oA 127) h
def j127_2(h:wp 127 (t127_2 i0 x0 x1) m Q):jp 127 2 [x0,x1,uZ i0] m Q:=vC (oA 127) h
def w128(h:wp 128 (t128 x0 x1) m Q):Wf 128 [x0,x1] m Q:=xB (oA 128) h
def j128_2(h:wp 128 (t128_2 i0 x0 x1) m Q):jp 128 2 [x0,x1,uZ i0] m Q:=vC (oA 128) h
def w129(h:wp 129 (t129 x0 x1) m Q):Wf 129 [x0,x1] m Q:=xB (oA 129) h
def j129_2(h:wp 129 (t129_2 i0 x0 x1) m Q):jp 129 2 [x0,x1,uZ i0] m Q:=vC (oA 129) h
def w130(h:wp 130 (t130 l0 l1 x0 x1 g0 g1) m Q):Wf 130 [.agg [.str l0,.bool g0,x0],.agg [.str l1,.bool g1,x1]] m Q:=xB (oA 130) h
def w131(h:wp 131 (t131 l0 l1 x0 x1 g0 g1) m Q):Wf 131 [.agg [.str l0,.bool g0,x0],.agg [.str l1,.bool g1,x1]] m Q:=xB (oA 131) h
def w132(h:wp 132 (t132 i0 i1 i2 i3 i4 i5 i6 i7 i8 i9 j0 j1 j2 j3 j4 j5 j6 j7 l0 l1 l2 l3 l4 l5 l6 l7 x0 x1 x2 x3 x4 x5 x6 x7 x8 x9 y0 y1 g0 g1 g2 g3 g4 g5 g6 g7 g8 g9) m Q):Wf 132 [.agg [.str l0,.str l1,uZ i0,uZ i1,uZ i2,.bool g0,uY i3,.str l2,uY i4,.bool g1,x0,.bool g2,x1,uZ i5,x2,uY i6,.str l3,uY i7,.bool g3,x3,.bool g4,x4,uZ i8,x5],.agg [.str l4,.str l5,uZ i9,uZ j0,uZ j1,.bool g5,uY j2,.str l6,uY j3,.bool g6,x6,.bool g7,x7,uZ j4,x8,uY j5,.str l7,uY j6,.bool g8,x9,.bool g9,y0,uZ j7,y1]] m Q:=xB (oA 132) h
def w133(h:wp 133 (t133 i0 i1 i2 i3 i4 i5 i6 i7 i8 i9 j0 j1 j2 j3 j4 j5 j6 j7 l0 l1 l2 l3 l4 l5 l6 l7 x0 x1 x2 x3 x4 x5 x6 x7 x8 x9 y0 y1 g0 g1 g2 g3 g4 g5 g6 g7 g8 g9) m Q):Wf 133 [.agg [.str l0,.str l1,uZ i0,uZ i1,uZ i2,.bool g0,uY i3,.str l2,uY i4,.bool g1,x0,.bool g2,x1,uZ i5,x2,uY i6,.str l3,uY i7,.bool g3,x3,.bool g4,x4,uZ i8,x5],.agg [.str l4,.str l5,uZ i9,uZ j0,uZ j1,.bool g5,uY j2,.str l6,uY j3,.bool g6,x6,.bool g7,x7,uZ j4,x8,uY j5,.str l7,uY j6,.bool g8,x9,.bool g9,y0,uZ j7,y1]] m Q:=xB (oA 133) h
def w134(h:wp 134 (t134 x0 x1 g0 g1) m Q):Wf 134 [.agg [.bool g0,x0,.bool g1,x1]] m Q:=xB (oA 134) h
def w135(h:wp 135 (t135 i0 i1) m Q):Wf 135 [uZ i0,uZ i1] m Q:=xB (oA 135) h
def w136(h:wp 136 (t136 i0 i1 x0 x1 g0 g1) m Q):Wf 136 [.agg [uY i0,.bool g0,x0,.bool g1,x1,uZ i1]] m Q:=xB (oA 136) h
def w137(h:wp 137 (t137 i0 i1 i2 l0 x0 x1 x2 x3 g0 g1) m Q):Wf 137 [x0,.agg [uY i0,.str l0,uY i1,.bool g0,x1,.bool g1,x2,uZ i2,x3]] m Q:=xB (oA 137) h
def w139(h:wp 139 (t139 i0) m Q):Wf 139 [uY i0] m Q:=xB (oA 139) h
def w140(h:wp 140 (t140 i0) m Q):Wf 140 [uY i0] m Q:=xB (oA 140) h
def w141(h:wp 141 (t141 i0 i1 i2 i3 l0 x0 x1 x2 g0 g1) m Q):Wf 141 [.agg [uY i0,.str l0,uY i1,.bool g0,x0,.bool g1,x1,uZ i2,x2],uZ i3] m Q:=xB (oA 141) h
def w142(h:wp 142 (t142 i0) m Q):Wf 142 [.agg [uY i0,.str l0,uY i1,.bool g0,x0,.bool g1,x1,uZ i2,x2]] m Q:=xB (oA 142) h
def w143(h:wp 143 (t143 i0) m Q):Wf 143 [uY i0] m Q:=xB (oA 143) h
def w144(h:wp 144 (t144 i0 i1 i2 i3 x0 x1 x2 x3 g0 g1 g2 g3) m Q):Wf 144 [.agg [uY i0,.bool g0,x0,.bool g1,x1,uZ i1],.agg [uY i2,.bool g2,x2,.bool g3,x3,uZ i3]] m Q:=xB (oA 144) h
def w145(h:wp 145 (t145 x0 x1) m Q):Wf 145 [x0,x1] m Q:=xB (oA 145) h
def j145_2(h:wp 145 (t145_2 i0 x0 x1) m Q):jp 145 2 [x0,x1,uZ i0] m Q:=vC (oA 145) h
def w146(h:wp 146 (t146 x0 x1 x2 x3 g0 g1 g2 g3) m Q):Wf 146 [.agg [.bool g0,x0,.bool g1,x1],.agg [.bool g2,x2,.bool g3,x3]] m Q:=xB (oA 146) h
def w149(h:wp 149 (t149 i0 l0) m Q):Wf 149 [.str l0,uZ i0] m Q:=xB (oA 149) h
def w157(h:wp 157 (t157 x0 x1 g0 g1) m Q):Wf 157 [.agg [.bool g0,x0,.bool g1,x1]] m Q:=xB (oA 157) h
def w158(h:wp 158 (t158 x0 x1 g0 g1) m Q):Wf 158 [.agg [.bool g0,x0,.bool g1,x1]] m Q:=xB (oA 158) h
def w159(h:wp 159 (t159 l0 l1) m Q):Wf 159 [.str l0,.str l1] m Q:=xB (oA 159) h
def w160(h:wp 160 (t160 g0) m Q):Wf 160 [.bool g0] m Q:=xB (oA 160) h
def w161(h:wp 161 (t161 l0) m Q):Wf 161 [.str l0] m Q:=xB (oA 161) h
def w162(h:wp 162 (t162 i0) m Q):Wf 162 [uZ i0] m Q:=xB (oA 162) h
def w163(h:wp 163 (t163 i0 i1 i2 i3 i4 i5 i6 i7 i8 i9 j0 j1 j2) m Q):Wf 163 [.agg [uY i0,uY i1,uY i2,uY i3,uY i4,uY i5,uY i6,uY i7,uY i8,uY i9],uZ j0,uZ j1,uZ j2] m Q:=xB (oA 163) h
def zgb(h:wp 163 (t163_2 i0 i1 i2 i3 i4 i5 i6 i7 i8 i9 j0 j1 j2 x0) m Q):jp 163 2 [uZ i0,uZ i1,x0,uZ i2,uY i3,uY i4,uY i5,uY i6,uY i7,uY i8,uY i9,uY j0,uY j1,uY j2] m Q:=vC (oA 163) h
def w166(h:wp 166 (t166 i0 i1 l0 g0) m Q):Wf 166 [.str l0,.bool g0,uZ i0,uZ i1] m Q:=xB (oA 166) h
def w167(h:wp 167 (t167 l0) m Q):Wf 167 [.str l0] m Q:=xB (oA 167) h
def w168(h:wp 168 (t168 i0 i1 i2 l0) m Q):Wf 168 [.str l0,uZ i0,uZ i1,uZ i2] m Q:=xB (oA 168) h
def w169(h:wp 169 (t169 i0) m Q):Wf 169 [uY i0] m Q:=xB (oA 169) h
def w170(h:wp 170 (t170 l0 x0) m Q):Wf 170 [.str l0,x0] m Q:=xB (oA 170) h
def zga(h:wp 170 (Ut i0 l0 x0) m Q):jp 170 2 [.str l0,x0,uZ i0] m Q:=vC (oA 170) h
def w171(h:wp 171 (t171 i0) m Q):Wf 171 [uY i0] m Q:=xB (oA 171) h
def w172(h:wp 172 (t172 l0) m Q):Wf 172 [.str l0] m Q:=xB (oA 172) h
def w173(h:wp 173 (t173 i0) m Q):Wf 173 [uZ i0] m Q:=xB (oA 173) h
def w174(h:wp 174 (t174 i0 i1 i2 x0 x1 x2 x3 g0 g1) m Q):Wf 174 [.agg [uZ i0,uZ i1,uZ i2,.bool g0,x0,.bool g1,x1],x2,x3] m Q:=xB (oA 174) h
def w175(h:wp 175 (t175 x0 x1) m Q):Wf 175 [x0,x1] m Q:=xB (oA 175) h
def j175_2(h:wp 175 (t175_2 i0 i1 x0 x1) m Q):jp 175 2 [x0,x1,uZ i0,uZ i1] m Q:=vC (oA 175) h
def w176(h:wp 176 (t176 i0 i1 i2 l0 x0 x1 x2 g0 g1) m Q):Wf 176 [.agg [uY i0,.str l0,uY i1,.bool g0,x0,.bool g1,x1,uZ i2,x2]] m Q:=xB (oA 176) h
def w177(h:wp 177 (t177 i0 i1) m Q):Wf 177 [uZ i0,uZ i1] m Q:=xB (oA 177) h
def w178(h:wp 178 (t178 x0) m Q):Wf 178 [x0] m Q:=xB (oA 178) h
def j178_2(h:wp 178 (t178_2 i0 x0 x1) m Q):jp 178 2 [x0,x1,uZ i0] m Q:=vC (oA 178) h
def zf9(h:wp 178 (Us i0 x0 x1) m Q):jp 178 6 [x0,x1,uZ i0] m Q:=vC (oA 178) h
def w179(h:wp 179 (t179 x0 g0) m Q):Wf 179 [.agg [.bool g0,x0]] m Q:=xB (oA 179) h
def w180(h:wp 180 (t180 x0) m Q):Wf 180 [x0] m Q:=xB (oA 180) h
def w181(h:wp 181 (t181 x0 g0) m Q):Wf 181 [.bool g0,x0] m Q:=xB (oA 181) h
def w182(h:wp 182 (t182 i0 i1) m Q):Wf 182 [uZ i0,uZ i1] m Q:=xB (oA 182) h
def w183(h:wp 183 (t183 x0 x1 g0 g1) m Q):Wf 183 [.agg [.bool g0,x0,.bool g1,x1]] m Q:=xB (oA 183) h
def w184(h:wp 184 (t184 x0) m Q):Wf 184 [x0] m Q:=xB (oA 184) h
def w185(h:wp 185 (t185 i0) m Q):Wf 185 [uY i0] m Q:=xB (oA 185) h
def w186(h:wp 186 (t186 ) m Q):Wf 186 [] m Q:=xB (oA 186) h
def w187(h:wp 187 (t187 x0 x1) m Q):Wf 187 [x0,x1] m Q:=xB (oA 187) h
def j187_2(h:wp 187 (t187_2 i0 x0 x1) m Q):jp 187 2 [x0,x1,uZ i0] m Q:=vC (oA 187) h
def w188(h:wp 188 (t188 x0 x1) m Q):Wf 188 [x0,x1] m Q:=xB (oA 188) h
def j188_2(h:wp 188 (t188_2 i0 x0 x1) m Q):jp 188 2 [x0,x1,uZ i0] m Q:=vC (oA 188) h
def w189(h:wp 189 (t189 x0 g0) m Q):Wf 189 [.agg [.bool g0,x0]] m Q:=xB (oA 189) h
def w190(h:wp 190 (t190 i0 i1 i2 i3 l0 x0 x1 x2 x3 g0 g1) m Q):Wf 190 [x0,.agg [uY i0,.str l0,uY i1,.bool g0,x1,.bool g1,x2,uZ i2,x3],uZ i3] m Q:=xB (oA 190) h
def w191(h:wp 191 (t191 i0 i1 i2 l0 x0 x1 x2 x3 x4 g0 g1) m Q):Wf 191 [x0,.agg [uY i0,.str l0,uY i1,.bool g0,x1,.bool g1,x2,uZ i2,x3],x4] m Q:=xB (oA 191) h
def j191_9(h:wp 191 (zey i0 i1 i2 l0 x0 x1 x2 x3 g0 g1) m Q):jp 191 9 [x0,uY i0,.str l0,uY i1,.bool g0,x1,.bool g1,x2,uZ i2,x3] m Q:=vC (oA 191) h
def zf8(h:wp 191 (Ur i0 i1 i2 i3 i4 l0 x0 x1 x2 x3 x4 g0 g1) m Q):jp 191 2 [x0,x1,uZ i0,uZ i1,uY i2,.str l0,uY i3,.bool g0,x2,.bool g1,x3,uZ i4,x4] m Q:=vC (oA 191) h
def w192(h:wp 192 (t192 x0 x1 x2 x3 g0 g1 g2 g3) m Q):Wf 192 [.agg [.bool g0,x0,.bool g1,x1],.agg [.bool g2,x2,.bool g3,x3]] m Q:=xB (oA 192) h
def w193(h:wp 193 (t193 x0 x1 g0 g1) m Q):Wf 193 [.agg [.bool g0,x0],.agg [.bool g1,x1]] m Q:=xB (oA 193) h
def w197(h:wp 197 (t197 i0) m Q):Wf 197 [uY i0] m Q:=xB (oA 197) h
def w201(h:wp 201 (t201 x0 x1) m Q):Wf 201 [x0,x1] m Q:=xB (oA 201) h
def zf7(h:wp 201 (Uq i0 i1 x0 x1 x2) m Q):jp 201 2 [x0,x1,x2,uZ i0,uZ i1] m Q:=vC (oA 201) h
def zi1(h:wp 201 (DA i0 i1 x0 x1 x2) m Q):jp 201 17 [x0,x1,x2,uZ i0,uZ i1] m Q:=vC (oA 201) h
def zi0(h:wp 201 (CZ i0 i1 x0 x1 x2) m Q):jp 201 21 [x0,x1,x2,uZ i0,uZ i1] m Q:=vC (oA 201) h
def w203(h:wp 203 (t203 x0) m Q):Wf 203 [x0] m Q:=xB (oA 203) h
def Yr(h:wp 203 (Nj i0 x0) m Q):jp 203 2 [x0,uZ i0] m Q:=vC (oA 203) h
def w210(h:wp 210 (t210 x0 x1 g0 g1) m Q):Wf 210 [.agg [.bool g0,x0,.bool g1,x1]] m Q:=xB (oA 210) h
def w211(h:wp 211 (t211 x0 g0) m Q):Wf 211 [.agg [.bool g0,x0]] m Q:=xB (oA 211) h
def zf6(h:wp 211 (Uo i0 l0 x0 x1 x2 g0) m Q):jp 211 2 [.str l0,uZ i0,x0,x1,.bool g0,x2] m Q:=vC (oA 211) h
def ziz(h:wp 211 (CY i0 l0 x0 x1) m Q):jp 211 29 [.str l0,uZ i0,x0,x1] m Q:=vC (oA 211) h
def j211_6(h:wp 211 (zex i0 x0) m Q):jp 211 6 [x0,.int .u32 i0] m Q:=vC (oA 211) h
def JV(h:wp 211 (Up i0 i1 l0 x0) m Q):jp 211 10 [x0,.str l0,uZ i0,uZ i1] m Q:=vC (oA 211) h
def w212(h:wp 212 (t212 x1 g1) m Q):Wf 212 [.agg [.bool g0,x0,.bool g1,x1]] m Q:=xB (oA 212) h
def w213(h:wp 213 (t213 l0 l1) m Q):Wf 213 [.str l0,.str l1] m Q:=xB (oA 213) h
def w214(h:wp 214 (t214 l0 l1) m Q):Wf 214 [.str l0,.str l1] m Q:=xB (oA 214) h
def w215(h:wp 215 (t215 i0) m Q):Wf 215 [uZ i0] m Q:=xB (oA 215) h
def w216(h:wp 216 (t216 i0) m Q):Wf 216 [uZ i0] m Q:=xB (oA 216) h
def w217(h:wp 217 (t217 i0) m Q):Wf 217 [uZ i0] m Q:=xB (oA 217) h
def Yq(h:wp 217 (t217_2 i0 i1 i2 i3) m Q):jp 217 2 [uZ i0,uZ i1,uZ i2,uZ i3] m Q:=vC (oA 217) h
def w219(h:wp 219 (t219 i0) m Q):Wf 219 [uY i0] m Q:=xB (oA 219) h
def w221(h:wp 221 (t221 i0 i1 i2 x0 x1 g0 g1) m Q):Wf 221 [.agg [uZ i0,uZ i1,uZ i2,.bool g0,x0,.bool g1,x1]] m Q:=xB (oA 221) h
def w222(h:wp 222 (t222 i0 i1) m Q):Wf 222 [uZ i0,uZ i1] m Q:=xB (oA 222) h
def w223(h:wp 223 (t223 i0 x0) m Q):Wf 223 [x0,uZ i0] m Q:=xB (oA 223) h
def zf5(h:wp 223 (Un i0 i1 i2 x0 x1) m Q):jp 223 2 [x0,uZ i0,x1,uZ i1,uZ i2] m Q:=vC (oA 223) h
def w224(h:wp 224 (t224 i0) m Q):Wf 224 [uZ i0] m Q:=xB (oA 224) h
def w225(h:wp 225 (t225 x0 x1) m Q):Wf 225 [.agg [.bool g0,x0,.bool g1,x1]] m Q:=xB (oA 225) h
def w226(h:wp 226 (t226 x0 x1) m Q):Wf 226 [x0,x1] m Q:=xB (oA 226) h
def j226_2(h:wp 226 (zew x0 x1) m Q):jp 226 2 [x0,x1] m Q:=vC (oA 226) h
def w227(h:wp 227 (t227 i0 i1 i2 i3 i4 i5 x0 x1 x2 x3 g0 g1 g2 g3) m Q):Wf 227 [.agg [uZ i0,uZ i1,uZ i2,.bool g0,x0,.bool g1,x1],.agg [uZ i3,uZ i4,uZ i5,.bool g2,x2,.bool g3,x3]] m Q:=xB (oA 227) h
def w228(h:wp 228 (t228 i0 i1 i2 i3 i4 i5 x0 x1 x2 x3 g0 g1 g2 g3) m Q):Wf 228 [.agg [uZ i0,uZ i1,uZ i2,.bool g0,x0,.bool g1,x1],.agg [uZ i3,uZ i4,uZ i5,.bool g2,x2,.bool g3,x3]] m Q:=xB (oA 228) h
def w229(h:wp 229 (t229 x0) m Q):Wf 229 [x0] m Q:=xB (oA 229) h
def zf4(h:wp 229 (Um i0 x0 x1) m Q):jp 229 2 [x0,x1,uZ i0] m Q:=vC (oA 229) h
def w230(h:wp 230 (t230 i0) m Q):Wf 230 [uY i0] m Q:=xB (oA 230) h
def w231(h:wp 231 (t231 x0 x1 g0 g1) m Q):Wf 231 [.agg [.bool g0,x0],.agg [.bool g1,x1]] m Q:=xB (oA 231) h
def w232(h:wp 232 (t232 x0 x1) m Q):Wf 232 [x0,x1] m Q:=xB (oA 232) h
def zf3(h:wp 232 (Ul i0 x0 x1) m Q):jp 232 2 [x0,x1,uZ i0] m Q:=vC (oA 232) h
def w235(h:wp 235 (t235 x0 x1) m Q):Wf 235 [x0,x1] m Q:=xB (oA 235) h
def zf2(h:wp 235 (Uj i0 x0 x1 x2) m Q):jp 235 2 [x0,x1,uZ i0,x2] m Q:=vC (oA 235) h
def zf1(h:wp 235 (Ui i0 i1 x0 x1) m Q):jp 235 6 [x0,uZ i0,x1,uZ i1] m Q:=vC (oA 235) h
def JU(h:wp 235 (Uk i0 i1 x0 x1 x2) m Q):jp 235 10 [uZ i0,x0,x1,x2,uZ i1] m Q:=vC (oA 235) h
def w236(h:wp 236 (t236 x0 x1) m Q):Wf 236 [.agg [.bool g0,x0,.bool g1,x1]] m Q:=xB (oA 236) h
def w237(h:wp 237 (t237 x0 g0) m Q):Wf 237 [.agg [.bool g0,x0]] m Q:=xB (oA 237) h
def w238(h:wp 238 (t238 x0 g0) m Q):Wf 238 [.agg [.bool g0,x0]] m Q:=xB (oA 238) h
def w239(h:wp 239 (t239 x0 x1 g0 g1) m Q):Wf 239 [.agg [.bool g0,x0],.agg [.bool g1,x1]] m Q:=xB (oA 239) h
def w240(h:wp 240 (t240 x0) m Q):Wf 240 [x0] m Q:=xB (oA 240) h
def zf0(h:wp 240 (Uh i0 i1 x0 x1) m Q):jp 240 2 [x0,x1,uZ i0,uZ i1] m Q:=vC (oA 240) h
def w241(h:wp 241 (t241 i0 x0) m Q):Wf 241 [x0,.int .u32 i0] m Q:=xB (oA 241) h
def zfz(h:wp 241 (Ug i0 i1 i2 x0 x1) m Q):jp 241 2 [x0,.int .u32 i0,x1,.int .u32 i1,uZ i2] m Q:=vC (oA 241) h
def w242(h:wp 242 (t242 x0) m Q):Wf 242 [x0] m Q:=xB (oA 242) h
def w244(h:wp 244 (t244 l0 l1) m Q):Wf 244 [.str l0,.str l1] m Q:=xB (oA 244) h
def w245(h:wp 245 (t245 l0 l1) m Q):Wf 245 [.str l0,.str l1] m Q:=xB (oA 245) h
def w246(h:wp 246 (t246 i0 x0) m Q):Wf 246 [uZ i0,x0] m Q:=xB (oA 246) h
def Yp(h:wp 246 (t246_2 i0 i1 x0) m Q):jp 246 2 [x0,uZ i0,uZ i1] m Q:=vC (oA 246) h
def w247(h:wp 247 (t247 i0 x0) m Q):Wf 247 [uZ i0,x0] m Q:=xB (oA 247) h
def w248(h:wp 248 (t248 i0) m Q):Wf 248 [uZ i0] m Q:=xB (oA 248) h
def w249(h:wp 249 (t249 i0 i1) m Q):Wf 249 [uZ i0,uZ i1] m Q:=xB (oA 249) h
def w252(h:wp 252 (t252 i0 i1) m Q):Wf 252 [uZ i0,uZ i1] m Q:=xB (oA 252) h
def w253(h:wp 253 (t253 x0 x1) m Q):Wf 253 [x0,x1] m Q:=xB (oA 253) h
def zfw(h:wp 253 (Ud i0 x0 x1) m Q):jp 253 2 [x0,x1,uZ i0] m Q:=vC (oA 253) h
def w255(h:wp 255 (t255 x0 x1) m Q):Wf 255 [x0,x1] m Q:=xB (oA 255) h
def zfv(h:wp 255 (Uc i0 x0 x1) m Q):jp 255 2 [x0,x1,uZ i0] m Q:=vC (oA 255) h
def w256(h:wp 256 (t256 x0) m Q):Wf 256 [x0] m Q:=xB (oA 256) h
def zfu(h:wp 256 (Ub i0 i1 x0 x1) m Q):jp 256 2 [x0,x1,uZ i0,uZ i1] m Q:=vC (oA 256) h
def w257(h:wp 257 (t257 x0 x1) m Q):Wf 257 [x0,x1] m Q:=xB (oA 257) h
def zft(h:wp 257 (Ua i0 i1 x0 x1 x2) m Q):jp 257 2 [x0,x1,x2,uZ i0,uZ i1] m Q:=vC (oA 257) h
def ziy(h:wp 257 (CX i0 i1 x0 x1 x2) m Q):jp 257 19 [x0,x1,x2,uZ i0,uZ i1] m Q:=vC (oA 257) h
def w258(h:wp 258 (t258 x0 x1 g0 g1) m Q):Wf 258 [.agg [.bool g0,x0],.agg [.bool g1,x1]] m Q:=xB (oA 258) h
def w259(h:wp 259 (t259 i0 i1 i2) m Q):Wf 259 [.int .u32 i0,.int .u32 i1,.int .u32 i2] m Q:=xB (oA 259) h
def j259_7(h:wp 259 (zes i0 i1 i2) m Q):jp 259 7 [.int .u32 i0,.int .u32 i1,.int .u32 i2] m Q:=vC (oA 259) h
def w260(h:wp 260 (t260 x0) m Q):Wf 260 [x0] m Q:=xB (oA 260) h
def Yo(h:wp 260 (Ni x0) m Q):jp 260 2 [x0] m Q:=vC (oA 260) h
def w261(h:wp 261 (t261 x0 x1) m Q):Wf 261 [x0,x1] m Q:=xB (oA 261) h
def zfq(h:wp 261 (Tw i0 x0 x1) m Q):jp 261 2 [x0,x1,uZ i0] m Q:=vC (oA 261) h
def w263(h:wp 263 (t263 i0) m Q):Wf 263 [uZ i0] m Q:=xB (oA 263) h
def w270(h:wp 270 (t270 x0) m Q):Wf 270 [x0] m Q:=xB (oA 270) h
def zfp(h:wp 270 (Tv i0 i1 x0) m Q):jp 270 2 [x0,uZ i0,uZ i1] m Q:=vC (oA 270) h
def w271(h:wp 271 (t271 x0 g0) m Q):Wf 271 [.bool g0,x0] m Q:=xB (oA 271) h
def zfo(h:wp 271 (Tu i0 i1 x0 x1 x2 g0 g1) m Q):jp 271 2 [.bool g0,x0,x1,uZ i0,uZ i1,.bool g1,x2] m Q:=vC (oA 271) h
def w272(h:wp 272 (t272 x0 x1) m Q):Wf 272 [x0,x1] m Q:=xB (oA 272) h
def j272_2(h:wp 272 (zer x0 x1) m Q):jp 272 2 [x0,x1] m Q:=vC (oA 272) h
def zix(h:wp 272 (CW x0 x1) m Q):jp 272 33 [x0,x1] m Q:=vC (oA 272) h
def j272_6(h:wp 272 (zeq i0 i1) m Q):jp 272 6 [.int .u64 i0,.int .u64 i1] m Q:=vC (oA 272) h
def w283(h:wp 283 (t283 x0 x1) m Q):Wf 283 [x0,x1] m Q:=xB (oA 283) h
def zfn(h:wp 283 (Tt i0 x0 x1) m Q):jp 283 2 [x0,x1,uZ i0] m Q:=vC (oA 283) h
def w284(h:wp 284 (t284 x0 x1) m Q):Wf 284 [x0,x1] m Q:=xB (oA 284) h
def j284_2(h:wp 284 (zep i0 i1 i2 i3 i4 i5 i6 i7 i8 i9 j0 j1 g0 g1) m Q):jp 284 2 [.int .u64 i0,.int .u64 i1,.int .u64 i2,.int .u64 i3,.int .u64 i4,.int .u64 i5,.int .u64 i6,.int .u64 i7,.bool g0,.int .u64 i8,.int .u64 i9,.int .u64 j0,.int .u64 j1,.bool g1] m Q:=vC (oA 284) h
def w285(h:wp 285 (t285 x0 x1) m Q):Wf 285 [x0,x1] m Q:=xB (oA 285) h
def zfm(h:wp 285 (Tq i0 i1 i2 x0 x1 x2) m Q):jp 285 2 [uZ i0,uZ i1,x0,x1,x2,uZ i2] m Q:=vC (oA 285) h
def zfl(h:wp 285 (Tp i0 i1 i2 i3 x0 x1) m Q):jp 285 6 [uZ i0,uZ i1,x0,x1,uZ i2,uZ i3] m Q:=vC (oA 285) h
def w286(h:wp 286 (t286 i0 i1 x0 x1) m Q):Wf 286 [.int .u64 i0,x0,.int .u64 i1,x1] m Q:=xB (oA 286) h
def zfk(h:wp 286 (To i0 i1 i2 i3 i4 i5 i6 x0 x1 x2) m Q):jp 286 2 [.int .u64 i0,x0,.int .u64 i1,x1,x2,.int .u64 i2,.int .u64 i3,.int .u32 i4,uZ i5,uZ i6] m Q:=vC (oA 286) h
def ziw(h:wp 286 (CV i0 i1 i2 i3 i4 i5 i6 i7 x0 x1 x2) m Q):jp 286 17 [.int .u64 i0,x0,.int .u64 i1,x1,x2,.int .u64 i2,.int .u64 i3,.int .u32 i4,uZ i5,uZ i6,uZ i7] m Q:=vC (oA 286) h
def ziv(h:wp 286 (CU i0 i1 i2 i3 i4 i5 i6 i7 x0 x1 x2) m Q):jp 286 21 [.int .u64 i0,x0,.int .u64 i1,x1,x2,.int .u64 i2,.int .u64 i3,.int .u32 i4,uZ i5,uZ i6,uZ i7] m Q:=vC (oA 286) h
def w287(h:wp 287 (t287 x0) m Q):Wf 287 [x0] m Q:=xB (oA 287) h
def j287_2(h:wp 287 (zeo i0 x0) m Q):jp 287 2 [x0,.int .u32 i0] m Q:=vC (oA 287) h
def w288(h:wp 288 (t288 i0) m Q):Wf 288 [.int .u64 i0] m Q:=xB (oA 288) h
def w294(h:wp 294 (t294 i0) m Q):Wf 294 [.int .u32 i0] m Q:=xB (oA 294) h
def w295(h:wp 295 (t295 i0 i1 x0) m Q):Wf 295 [x0,uZ i0,uZ i1] m Q:=xB (oA 295) h
def w296(h:wp 296 (t296 x0) m Q):Wf 296 [x0] m Q:=xB (oA 296) h
def w297(h:wp 297 (t297 i0 x0) m Q):Wf 297 [x0,uZ i0] m Q:=xB (oA 297) h
def zfj(h:wp 297 (Tn i0 i1 i2 x0 x1) m Q):jp 297 2 [uZ i0,x0,x1,uZ i1,uZ i2] m Q:=vC (oA 297) h
def w298(h:wp 298 (t298 x0 x1) m Q):Wf 298 [x0,x1] m Q:=xB (oA 298) h
def zfi(h:wp 298 (Tk i0 i1 i2 i3 x0 x1) m Q):jp 298 2 [x0,x1,uZ i0,.int .u64 i1,.int .u64 i2,.int .u64 i3] m Q:=vC (oA 298) h
def ziu(h:wp 298 (CT i0 i1 x0 x1) m Q):jp 298 19 [x0,x1,uZ i0,.int .u64 i1] m Q:=vC (oA 298) h
def zfh(h:wp 298 (Tj i0 i1 i2 i3 i4 i5 x0 x1 x2) m Q):jp 298 6 [x0,x1,uZ i0,.int .u64 i1,.int .u64 i2,.int .u64 i3,x2,uZ i4,uZ i5] m Q:=vC (oA 298) h
def JT(h:wp 298 (Tl i0 i1 i2 i3 i4 x0 x1) m Q):jp 298 10 [x0,uZ i0,.int .u64 i1,.int .u32 i2,x1,uZ i3,uZ i4] m Q:=vC (oA 298) h
def w299(h:wp 299 (t299 i0 i1 i2) m Q):Wf 299 [.int .u32 i0,.int .u32 i1,.int .u32 i2] m Q:=xB (oA 299) h
def w301(h:wp 301 (t301 i0) m Q):Wf 301 [.int .u32 i0] m Q:=xB (oA 301) h
def zfg(h:wp 301 (Ti i0 i1) m Q):jp 301 9 [.int .u32 i0,uZ i1] m Q:=vC (oA 301) h
def zit(h:wp 301 (CS i0 i1) m Q):jp 301 15 [.int .u32 i0,uZ i1] m Q:=vC (oA 301) h
def w302(h:wp 302 (t302 i0 x0) m Q):Wf 302 [uZ i0,x0] m Q:=xB (oA 302) h
def w303(h:wp 303 (t303 i0 i1 i2) m Q):Wf 303 [.int .u32 i0,.int .u32 i1,.int .u32 i2] m Q:=xB (oA 303) h
end Go.Proofs
