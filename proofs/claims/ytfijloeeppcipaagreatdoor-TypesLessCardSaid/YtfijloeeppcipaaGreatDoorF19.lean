/- The trees of functions. (Printed by a tool; the kernel agrees.) -/
import Derived.Test.YtfijloeeppcipaaGreatDoorF18
set_option linter.all false
noncomputable section
set_option maxRecDepth 100000
namespace Go.Proofs
open Go Go.Am
variable [nC]{m:Tr rA}{Q:xC}
abbrev pI:List zA:=[.int .u8 0,.str [],.bool false,.int .i64 0,.int .i64 0,.int .i64 0,.int .i64 0,.int .i64 0]
abbrev uK:List zA:=[.str [],.nilslice,.nilslice,.nilslice]
abbrev vK:List zA:=[.str [],.bool false,.nilslice]
abbrev z0m:List zA:=[.str [],.int .u8 0,.bool false]
abbrev z4k:List zA:=[.int .u8 0,.str [],.int .u8 0,.bool false,.nilslice,.bool false,.nilslice,.int .i64 0,.nilslice]
abbrev zz5z:List zA:=[.str [],.str [],.int .i64 0,.int .i64 0,.int .i64 0,.bool false,.int .u8 0,.str [],.int .u8 0,.bool false,.nilslice,.bool false,.nilslice,.int .i64 0,.nilslice,.int .u8 0,.str [],.int .u8 0,.bool false,.nilslice,.bool false,.nilslice,.int .i64 0,.nilslice]
abbrev zz6z:List zA:=[.bool false,.nilslice]
abbrev zz7z:List zA:=[.bool false,.nilslice,.bool false,.nilslice]
abbrev zz8z:List zA:=[.int .i64 0,.int .i64 0,.int .i64 0,.bool false,.nilslice,.bool false,.nilslice]
def yC{f kf:Nat}{fn:Func}{A:vB}{x:List zA}{T:T}(h:kB yA F f fn kf A)(k:qA yA.base (Wq yA F eH) (Jq yA F f) T m Q)(h1:(Nat.ble (zB x) kf&&Nat.ble (zB x) fn.ntmps)=true:=by kernel_rfl)(h2:entT yA fn kf f A x=T:=by kernel_rfl):Wc yA F f x m Q:=z9b h h1 (by rw[h2];exact k)
def uD{f kf i:Nat}{fn:Func}{A:vB}{x:List zA}{T:T}(h:kB yA F f fn kf A)(k:qA yA.base (Wq yA F eH) (Jq yA F f) T m Q)(h2:zsb (ptsT yA fn kf f A) i x=[T]:=by kernel_rfl):Jq yA F f i x m Q:=Jq_of1 h h2 k
def eqT{b:Nat}{W J:cG}{x y:T}{m:Tr rA}{Q:xC}(e:x=y)(h:qA b W J y m Q):qA b W J x m Q:=e ▸ h
def t5 (A0:List Nat)(A1 A2 A3:zA)(p1:Int):T:=
 .call 9 [] fun a0=>
 .asB a0 fun b1=>.ite (!b1)
 (.ret (.bool false))
 (.call 15 [.agg [.str A0,A1,A2,A3],.int .i64 2000] fun a2=>
 .asI .i64 a2 fun n3=>.ite (iB 2000 n3)
 (.ret (.bool true))
 (.call 16 [.agg [.str A0,A1,A2,A3]] fun a4=>
 .opt (sB 0 a4) fun a5=>.asI .i64 a5 fun n6=>.opt (sB 1 a4) fun a7=>.asI .i64 a7 fun n8=>.call 17 [.agg [.str A0,A1,A2,A3]] fun a9=>
 .asG uK a9 fun X10=>
 .ite (rB zA.one [.str (X10.s 0),X10.v 1,X10.v 2,X10.v 3]) (.ite (mA n8 0)
 (.opt (oB A3) fun a11=>.asI .i64 a11 fun n12=>.ite (mA n12 0)
 (.ret (.bool (mA n6 0)))
 (.opt (oB A3) fun a13=>.asI .i64 a13 fun n14=>.call 18 [.int .i64 p1,.int .i64 n14] fun a15=>
 .asI .i64 a15 fun n16=>.light (fun m=>qF yA 24 ⟨0,m⟩ (X10.v 3) none (some (.int .i64 n16))) fun a17=>.light (fun m=>qF yA 24 ⟨0,m⟩ (X10.v 3) (some (.int .i64 (sA .i64 (n16+1)))) none) fun a18=>.heavy (gE yA 24 24 a17 a18) fun a19=>
 .ite (rB zA.one [a19]) (.call 16 [(.agg [.str (X10.s 0),X10.v 1,X10.v 2,a19])] fun a20=>
 .opt (sB 0 a20) fun a21=>.asI .i64 a21 fun n22=>.opt (sB 1 a20) fun a23=>.asI .i64 a23 fun n24=>.ite (mA n6 0)
 (.ite (mA n22 0)
 (.ret (.bool (mA n24 0)))
 (.ret (.bool false)))
 (.ret (.bool false))) .fail))
 (.ite (mA n6 (-1))
 (.ite true (.call 16 [(.agg [.str (X10.s 0),X10.v 1,X10.v 2,.nilslice])] fun a25=>
 .opt (sB 0 a25) fun a26=>.asI .i64 a26 fun n27=>.opt (sB 1 a25) fun a28=>.asI .i64 a28 fun n29=>.ite (mA n8 5)
 (.opt (oB A3) fun a30=>.asI .i64 a30 fun n31=>.ite (mA n27 (-1))
 (.ite (mA n29 n8)
 (.ret (.bool true))
 (.ite (iB 400 n31)
 (.ite (mA n29 143)
 (.ret (.bool true))
 (.ite (mA n27 0)
 (.ite (mA n29 0)
 (.ret (.bool (iB 400 n31)))
 (.ret (.bool false)))
 (.ret (.bool false))))
 (.ite (mA n27 0)
 (.ite (mA n29 0)
 (.ret (.bool (iB 400 n31)))
 (.ret (.bool false)))
 (.ret (.bool false)))))
 (.ite (mA n27 0)
 (.ite (mA n29 0)
 (.ret (.bool (iB 400 n31)))
 (.ret (.bool false)))
 (.ret (.bool false))))
 (.ite (mA n27 (-1))
 (.ite (mA n29 n8)
 (.ret (.bool true))
 (.ite (mA n27 0)
 (.ite (mA n29 0)
 (.ret (.bool false))
 (.ret (.bool false)))
 (.ret (.bool false))))
 (.ite (mA n27 0)
 (.ite (mA n29 0)
 (.ret (.bool false))
 (.ret (.bool false)))
 (.ret (.bool false))))) .fail)
 (.ite (iB n6 0)
 (.ret (.bool false))
 (.opt (oB A3) fun a32=>.asI .i64 a32 fun n33=>.ite (pC n33 n6)
 (.ret (.bool false))
 (.light (fun m=>qF yA 24 ⟨0,m⟩ (X10.v 3) none (some (.int .i64 n6))) fun a34=>.ite (rB zA.one [a34]) (.call 16 [(.agg [.str (X10.s 0),X10.v 1,X10.v 2,a34])] fun a35=>
 .opt (sB 0 a35) fun a36=>.asI .i64 a36 fun n37=>.opt (sB 1 a35) fun a38=>.asI .i64 a38 fun n39=>.opt (jB yA 24 A3 (.int .i64 n6)) fun a40=>.light (fun m=>oA yA 56 ⟨0,m⟩ a40) fun a41=>.asG zz5z a41 fun X42=>
 .heavy (sH yA 24 1 [(0,(.agg [.str (X42.s 0),.str (X42.s 1),.int .i64 (X42.i 2),.int .i64 (X42.i 3),.int .i64 (X42.i 4),.bool (X42.b 5),.int .u8 (X42.i 6),.str (X42.s 7),.int .u8 (X42.i 8),.bool (X42.b 9),X42.v 10,.bool (X42.b 11),X42.v 12,.int .i64 (X42.i 13),X42.v 14,.int .u8 (X42.i 15),.str (X42.s 16),.int .u8 (X42.i 17),.bool (X42.b 18),X42.v 19,.bool (X42.b 20),X42.v 21,.int .i64 (X42.i 22),X42.v 23]))]) fun a43=>
 .ite (same 10 a34 a34) (.heavy (gE yA 24 24 a34 a43) fun a44=>
 .ite (rB zA.one [a44]) (.call 16 [(.agg [.str (X10.s 0),X10.v 1,X10.v 2,a44])] fun a45=>
 .opt (sB 0 a45) fun a46=>.asI .i64 a46 fun n47=>.opt (sB 1 a45) fun a48=>.asI .i64 a48 fun n49=>.ite (mA n37 0)
 (.ite (mA n39 0)
 (.ite (mA n47 n6)
 (.ret (.bool (mA n49 n8)))
 (.ret (.bool false)))
 (.ret (.bool false)))
 (.ret (.bool false))) .fail) .fail) .fail))))) .fail))
def w5(A0:List Nat)(A1 A2 A3:zA)(p1:Int)(h:wp 5 (t5 A0 A1 A2 A3 p1) m Q):Wf 5 [.agg [.str A0,A1,A2,A3],.int .i64 p1] m Q:=yC ok5 h
def t12 (A0:Int)(A1:List Nat)(A2:Int)(A3:Bool)(A4:zA)(A5:Bool)(A6:zA)(A7:Int)(A8:zA):T:=
 .call 30 [.agg [.int .u8 A2,.bool A3,A4,.bool A5,A6,.int .i64 A7]] fun a0=>
 .asG [.int .u8 0,.bool false,.nilslice,.bool false,.nilslice,.int .i64 0] a0 fun X1=>
 .ite (rB zA.one [.int .u8 (X1.i 0),.bool (X1.b 1),X1.v 2,.bool (X1.b 3),X1.v 4,.int .i64 (X1.i 5)]) (.call 31 [A8] fun a2=>
 .ite (rB zA.one [a2]) (.ite (rB zA.one [.int .u8 A0,.str A1,.int .u8 (X1.i 0),.bool (X1.b 1),X1.v 2,.bool (X1.b 3),X1.v 4,.int .i64 (X1.i 5),a2]) (.ret (.agg [.int .u8 A0,.str A1,.int .u8 (X1.i 0),.bool (X1.b 1),X1.v 2,.bool (X1.b 3),X1.v 4,.int .i64 (X1.i 5),a2])) .fail) .fail) .fail
def w12(A0:Int)(A1:List Nat)(A2:Int)(A3:Bool)(A4:zA)(A5:Bool)(A6:zA)(A7:Int)(A8:zA)(h:wp 12 (t12 A0 A1 A2 A3 A4 A5 A6 A7 A8) m Q):Wf 12 [.agg [.int .u8 A0,.str A1,.int .u8 A2,.bool A3,A4,.bool A5,A6,.int .i64 A7,A8]] m Q:=yC ok12 h
def t15 (A0:List Nat)(A1 A2 A3:zA)(p1:Int):T:=
 .opt (oB A1) fun a0=>.asI .i64 a0 fun n1=>.opt (oB A2) fun a2=>.asI .i64 a2 fun n3=>.opt (oB A3) fun a4=>.asI .i64 a4 fun n5=>.jump 2 [.int .i64 p1,(.int .i64 (sA .i64 ((sA .i64 ((sA .i64 ((sA .i64 (1+(sA .i64 (Int.tdiv (Int.ofNat (zB A0)) 30))))+n1))+n3))+n5))),.int .i64 0,.str A0,A1,A2,A3]
def w15(A0:List Nat)(A1 A2 A3:zA)(p1:Int)(h:wp 15 (t15 A0 A1 A2 A3 p1) m Q):Wf 15 [.agg [.str A0,A1,A2,A3],.int .i64 p1] m Q:=yC ok15 h
def z6x(v1 v5 v6:Int)(A0:List Nat)(A1 A2 A3:zA):T:=
 .opt (oB A1) fun a0=>.asI .i64 a0 fun n1=>.ite (iB v6 n1)
 (.ite (pC v5 v1)
 (.opt (jB yA 22 A1 (.int .i64 v6)) fun a2=>.opt (fB yA 59 0 a2) fun a3=>.light (fun m=>oA yA 9 ⟨0,m⟩ a3) fun a4=>.asS a4 fun s5=>.jump 2 [.int .i64 v1,(.int .i64 (sA .i64 (v5+(sA .i64 (Int.tdiv (Int.ofNat (zB s5)) 30))))),(.int .i64 (sA .i64 (v6+1))),.str A0,A1,A2,A3])
 (.jump 6 [.int .i64 v1,.int .i64 v5,.int .i64 0,.str A0,A1,A2,A3]))
 (.jump 6 [.int .i64 v1,.int .i64 v5,.int .i64 0,.str A0,A1,A2,A3])
def j15_2(v1 v5 v6:Int)(A0:List Nat)(A1 A2 A3:zA)(h:wp 15 (z6x v1 v5 v6 A0 A1 A2 A3) m Q):jp 15 2 [.int .i64 v1,.int .i64 v5,.int .i64 v6,.str A0,A1,A2,A3] m Q:=uD ok15 h
def z6w(v1 v5 v7:Int)(A0:List Nat)(A1 A2 A3:zA):T:=
 .opt (oB A2) fun a0=>.asI .i64 a0 fun n1=>.ite (iB v7 n1)
 (.ite (pC v5 v1)
 (.opt (jB yA 23 A2 (.int .i64 v7)) fun a2=>.opt (fB yA 81 0 a2) fun a3=>.light (fun m=>oA yA 9 ⟨0,m⟩ a3) fun a4=>.asS a4 fun s5=>.jump 10 [.int .i64 v1,(.int .i64 (sA .i64 (v5+(sA .i64 (Int.tdiv (Int.ofNat (zB s5)) 30))))),.int .i64 v7,.int .i64 0,.str A0,A1,A2,A3])
 (.jump 14 [.int .i64 v1,.int .i64 v5,.int .i64 0,.str A0,A1,A2,A3]))
 (.jump 14 [.int .i64 v1,.int .i64 v5,.int .i64 0,.str A0,A1,A2,A3])
def j15_6(v1 v5 v7:Int)(A0:List Nat)(A1 A2 A3:zA)(h:wp 15 (z6w v1 v5 v7 A0 A1 A2 A3) m Q):jp 15 6 [.int .i64 v1,.int .i64 v5,.int .i64 v7,.str A0,A1,A2,A3] m Q:=uD ok15 h
def zvs(v1 v5 v7 v8:Int)(A0:List Nat)(A1 A2 A3:zA):T:=
 .opt (jB yA 23 A2 (.int .i64 v7)) fun a0=>.opt (fB yA 81 2 a0) fun a1=>.light (fun m=>oA yA 79 ⟨0,m⟩ a1) fun a2=>.opt (oB a2) fun a3=>.asI .i64 a3 fun n4=>.ite (iB v8 n4)
 (.ite (pC v5 v1)
 (.opt (jB yA 23 A2 (.int .i64 v7)) fun a5=>.opt (fB yA 81 2 a5) fun a6=>.light (fun m=>oA yA 79 ⟨0,m⟩ a6) fun a7=>.opt (jB yA 79 a7 (.int .i64 v8)) fun a8=>.opt (fB yA 84 3 a8) fun a9=>.light (fun m=>oA yA 31 ⟨0,m⟩ a9) fun a10=>.asG zz7z a10 fun X11=>
 .call 32 [(.agg [.bool (X11.b 0),X11.v 1,.bool (X11.b 2),X11.v 3])] fun xF=>
 .asI .i64 xF fun n13=>.jump 10 [.int .i64 v1,(.int .i64 (sA .i64 (v5+n13))),.int .i64 v7,(.int .i64 (sA .i64 (v8+1))),.str A0,A1,A2,A3])
 (.jump 6 [.int .i64 v1,.int .i64 v5,(.int .i64 (sA .i64 (v7+1))),.str A0,A1,A2,A3]))
 (.jump 6 [.int .i64 v1,.int .i64 v5,(.int .i64 (sA .i64 (v7+1))),.str A0,A1,A2,A3])
def z5t(v1 v5 v7 v8:Int)(A0:List Nat)(A1 A2 A3:zA)(h:wp 15 (zvs v1 v5 v7 v8 A0 A1 A2 A3) m Q):jp 15 10 [.int .i64 v1,.int .i64 v5,.int .i64 v7,.int .i64 v8,.str A0,A1,A2,A3] m Q:=uD ok15 h
def zvr(v1 v5 v9:Int)(A0:List Nat)(A1 A2 A3:zA):T:=
 .opt (oB A3) fun a0=>.asI .i64 a0 fun n1=>.ite (iB v9 n1)
 (.ite (pC v5 v1)
 (.opt (jB yA 24 A3 (.int .i64 v9)) fun a2=>.light (fun m=>oA yA 56 ⟨0,m⟩ a2) fun a3=>.asG zz5z a3 fun X4=>
 .ite (rB zA.one [.str (X4.s 0),.str (X4.s 1),.int .i64 (X4.i 2),.int .i64 (X4.i 3),.int .i64 (X4.i 4),.bool (X4.b 5),.int .u8 (X4.i 6),.str (X4.s 7),.int .u8 (X4.i 8),.bool (X4.b 9),X4.v 10,.bool (X4.b 11),X4.v 12,.int .i64 (X4.i 13),X4.v 14,.int .u8 (X4.i 15),.str (X4.s 16),.int .u8 (X4.i 17),.bool (X4.b 18),X4.v 19,.bool (X4.b 20),X4.v 21,.int .i64 (X4.i 22),X4.v 23]) (.call 22 [(.agg [.int .u8 (X4.i 6),.str (X4.s 7),.int .u8 (X4.i 8),.bool (X4.b 9),X4.v 10,.bool (X4.b 11),X4.v 12,.int .i64 (X4.i 13),X4.v 14]),(.int .i64 (sA .i64 (v1-v5)))] fun a5=>
 .asI .i64 a5 fun n6=>.ite (same 10 (.str (X4.s 0)) (.str (X4.s 0))) (.ite (same 10 (.int .i64 (Int.ofNat (zB (X4.s 0)))) (.int .i64 (Int.ofNat (zB (X4.s 0))))) (.ite (same 10 (.str (X4.s 1)) (.str (X4.s 1))) (.ite (same 10 (.int .i64 (Int.ofNat (zB (X4.s 1)))) (.int .i64 (Int.ofNat (zB (X4.s 1))))) (.ite (pC (sA .i64 (v5+(sA .i64 ((sA .i64 ((sA .i64 (Int.tdiv (Int.ofNat (zB (X4.s 0))) 30))+(sA .i64 (Int.tdiv (Int.ofNat (zB (X4.s 1))) 30))))+n6)))) v1)
 (.call 22 [(.agg [.int .u8 (X4.i 15),.str (X4.s 16),.int .u8 (X4.i 17),.bool (X4.b 18),X4.v 19,.bool (X4.b 20),X4.v 21,.int .i64 (X4.i 22),X4.v 23]),(.int .i64 (sA .i64 (v1-(sA .i64 (v5+(sA .i64 ((sA .i64 ((sA .i64 (Int.tdiv (Int.ofNat (zB (X4.s 0))) 30))+(sA .i64 (Int.tdiv (Int.ofNat (zB (X4.s 1))) 30))))+n6)))))))] fun a7=>
 .asI .i64 a7 fun n8=>.jump 14 [.int .i64 v1,(.int .i64 (sA .i64 ((sA .i64 (v5+(sA .i64 ((sA .i64 ((sA .i64 (Int.tdiv (Int.ofNat (zB (X4.s 0))) 30))+(sA .i64 (Int.tdiv (Int.ofNat (zB (X4.s 1))) 30))))+n6))))+n8))),(.int .i64 (sA .i64 (v9+1))),.str A0,A1,A2,A3])
 (.jump 14 [.int .i64 v1,(.int .i64 (sA .i64 (v5+(sA .i64 ((sA .i64 ((sA .i64 (Int.tdiv (Int.ofNat (zB (X4.s 0))) 30))+(sA .i64 (Int.tdiv (Int.ofNat (zB (X4.s 1))) 30))))+n6))))),(.int .i64 (sA .i64 (v9+1))),.str A0,A1,A2,A3])) .fail) .fail) .fail) .fail) .fail)
 (.ret (.int .i64 v5)))
 (.ret (.int .i64 v5))
def z5s(v1 v5 v9:Int)(A0:List Nat)(A1 A2 A3:zA)(h:wp 15 (zvr v1 v5 v9 A0 A1 A2 A3) m Q):jp 15 14 [.int .i64 v1,.int .i64 v5,.int .i64 v9,.str A0,A1,A2,A3] m Q:=uD ok15 h
def t16 (A0:List Nat)(A1 A2 A3:zA):T:=
 .call 33 [.agg [.str A0,A1,A2,A3]] fun a0=>
 .asI .i64 a0 fun n1=>.ite (!mA n1 0)
 (.ret (.tup [(.int .i64 (-1)),.int .i64 n1]))
 (.call 28 [.agg [.str A0,A1,A2,A3]] fun a2=>
 .opt (oB A3) fun a3=>.asI .i64 a3 fun n4=>.jump 2 [a2,A3,.int .i64 n4,.int .i64 0])
def w16(A0:List Nat)(A1 A2 A3:zA)(h:wp 16 (t16 A0 A1 A2 A3) m Q):Wf 16 [.agg [.str A0,A1,A2,A3]] m Q:=yC ok16 h
def t16_2(v5 v17:zA)(v18 v19:Int):T:=
 .ite (iB v19 v18)
 (.opt (jB yA 24 v17 (.int .i64 v19)) fun a0=>.light (fun m=>oA yA 56 ⟨0,m⟩ a0) fun a1=>.asG zz5z a1 fun X2=>
 .ite (rB zA.one [.str (X2.s 0),.str (X2.s 1),.int .i64 (X2.i 2),.int .i64 (X2.i 3),.int .i64 (X2.i 4),.bool (X2.b 5),.int .u8 (X2.i 6),.str (X2.s 7),.int .u8 (X2.i 8),.bool (X2.b 9),X2.v 10,.bool (X2.b 11),X2.v 12,.int .i64 (X2.i 13),X2.v 14,.int .u8 (X2.i 15),.str (X2.s 16),.int .u8 (X2.i 17),.bool (X2.b 18),X2.v 19,.bool (X2.b 20),X2.v 21,.int .i64 (X2.i 22),X2.v 23]) (.call 34 [v5,(.agg [.str (X2.s 0),.str (X2.s 1),.int .i64 (X2.i 2),.int .i64 (X2.i 3),.int .i64 (X2.i 4),.bool (X2.b 5),.int .u8 (X2.i 6),.str (X2.s 7),.int .u8 (X2.i 8),.bool (X2.b 9),X2.v 10,.bool (X2.b 11),X2.v 12,.int .i64 (X2.i 13),X2.v 14,.int .u8 (X2.i 15),.str (X2.s 16),.int .u8 (X2.i 17),.bool (X2.b 18),X2.v 19,.bool (X2.b 20),X2.v 21,.int .i64 (X2.i 22),X2.v 23])] fun a3=>
 .asI .i64 a3 fun n4=>.ite (!mA n4 0)
 (.ret (.tup [.int .i64 v19,.int .i64 n4]))
 (.jump 2 [v5,v17,.int .i64 v18,(.int .i64 (sA .i64 (v19+1)))])) .fail)
 (.ret (.tup [.int .i64 0,.int .i64 0]))
def j16_2(v5 v17:zA)(v18 v19:Int)(h:wp 16 (t16_2 v5 v17 v18 v19) m Q):jp 16 2 [v5,v17,.int .i64 v18,.int .i64 v19] m Q:=uD ok16 h
def t17 (A0:List Nat)(A1 A2 A3:zA):T:=
 .call 35 [A1] fun a0=>
 .ite (rB zA.one [a0]) (.call 36 [A2] fun a1=>
 .ite (rB zA.one [a1]) (.call 37 [A3] fun a2=>
 .ite (rB zA.one [a2]) (.ite (rB zA.one [.str A0,a0,a1,a2]) (.ret (.agg [.str A0,a0,a1,a2])) .fail) .fail) .fail) .fail
def w17(A0:List Nat)(A1 A2 A3:zA)(h:wp 17 (t17 A0 A1 A2 A3) m Q):Wf 17 [.agg [.str A0,A1,A2,A3]] m Q:=yC ok17 h
def t18 (p0 p1:Int):T:=
 .ite (iB p1 1)
 (.ret (.int .i64 0))
 (.opt (zt6 .i64 p0 p1) fun a0=>.asI .i64 a0 fun n1=>.ite (iB n1 0)
 (.ret (.int .i64 (sA .i64 (n1+p1))))
 (.ret (.int .i64 n1)))
def w18(p0 p1:Int)(h:wp 18 (t18 p0 p1) m Q):Wf 18 [.int .i64 p0,.int .i64 p1] m Q:=yC ok18 h
def t19 (A0:List Nat)(A1 A2 A3:zA)(p1:List Nat):T:=
 .opt (oB A1) fun a0=>.asI .i64 a0 fun n1=>.jump 2 [.str p1,A1,.int .i64 n1,.int .i64 0,.str [],.int .u8 0,.bool false]
def w19(A0:List Nat)(A1 A2 A3:zA)(p1:List Nat)(h:wp 19 (t19 A0 A1 A2 A3 p1) m Q):Wf 19 [.agg [.str A0,A1,A2,A3],.str p1] m Q:=yC ok19 h
def t19_2(v1:List Nat)(v9:zA)(v10 v11:Int)(A0:List Nat)(A1:Int)(A2:Bool):T:=
 .ite (iB v11 v10)
 (.opt (jB yA 22 v9 (.int .i64 v11)) fun a0=>.light (fun m=>oA yA 59 ⟨0,m⟩ a0) fun a1=>.asG z0m a1 fun X2=>
 .ite true (.ite (zF (X2.s 0) v1)
 (.ite true (.ret (.tup [(.agg [.str (X2.s 0),.int .u8 (X2.i 1),.bool (X2.b 2)]),.bool true])) .fail)
 (.jump 2 [.str v1,v9,.int .i64 v10,(.int .i64 (sA .i64 (v11+1))),.str A0,.int .u8 A1,.bool A2])) .fail)
 (.ite true (.ite true (.ret (.tup [.agg [.str [],.int .u8 0,.bool false],.bool false])) .fail) .fail)
def j19_2(v1:List Nat)(v9:zA)(v10 v11:Int)(A0:List Nat)(A1:Int)(A2:Bool)(h:wp 19 (t19_2 v1 v9 v10 v11 A0 A1 A2) m Q):jp 19 2 [.str v1,v9,.int .i64 v10,.int .i64 v11,.str A0,.int .u8 A1,.bool A2] m Q:=uD ok19 h
def t22 (A0:Int)(A1:List Nat)(A2:Int)(A3:Bool)(A4:zA)(A5:Bool)(A6:zA)(A7:Int)(A8:zA)(p1:Int):T:=
 .call 32 [.agg [.bool A3,A4,.bool A5,A6]] fun a0=>
 .asI .i64 a0 fun n1=>.ite (same 10 (.str A1) (.str A1)) (.ite (same 10 (.int .i64 (Int.ofNat (zB A1))) (.int .i64 (Int.ofNat (zB A1)))) (.jump 2 [.int .i64 p1,(.int .i64 (sA .i64 (n1+(sA .i64 (Int.tdiv (Int.ofNat (zB A1)) 30))))),.int .i64 0,.int .u8 A0,.str A1,.int .u8 A2,.bool A3,A4,.bool A5,A6,.int .i64 A7,A8]) .fail) .fail
def w22(A0:Int)(A1:List Nat)(A2:Int)(A3:Bool)(A4:zA)(A5:Bool)(A6:zA)(A7:Int)(A8:zA)(p1:Int)(h:wp 22 (t22 A0 A1 A2 A3 A4 A5 A6 A7 A8 p1) m Q):Wf 22 [.agg [.int .u8 A0,.str A1,.int .u8 A2,.bool A3,A4,.bool A5,A6,.int .i64 A7,A8],.int .i64 p1] m Q:=yC ok22 h
def z6v(v1 v5 v6 A0:Int)(A1:List Nat)(A2:Int)(A3:Bool)(A4:zA)(A5:Bool)(A6:zA)(A7:Int)(A8:zA):T:=
 .opt (oB A8) fun a0=>.asI .i64 a0 fun n1=>.ite (iB v6 n1)
 (.ite (pC v5 v1)
 (.opt (jB yA 34 A8 (.int .i64 v6)) fun a2=>.light (fun m=>oA yA 36 ⟨0,m⟩ a2) fun a3=>.asG z4k a3 fun X4=>
 .call 22 [(.agg [.int .u8 (X4.i 0),.str (X4.s 1),.int .u8 (X4.i 2),.bool (X4.b 3),X4.v 4,.bool (X4.b 5),X4.v 6,.int .i64 (X4.i 7),X4.v 8]),(.int .i64 (sA .i64 (v1-v5)))] fun a5=>
 .asI .i64 a5 fun n6=>.jump 2 [.int .i64 v1,(.int .i64 (sA .i64 (v5+n6))),(.int .i64 (sA .i64 (v6+1))),.int .u8 A0,.str A1,.int .u8 A2,.bool A3,A4,.bool A5,A6,.int .i64 A7,A8])
 (.ret (.int .i64 v5)))
 (.ret (.int .i64 v5))
def j22_2(v1 v5 v6 A0:Int)(A1:List Nat)(A2:Int)(A3:Bool)(A4:zA)(A5:Bool)(A6:zA)(A7:Int)(A8:zA)(h:wp 22 (z6v v1 v5 v6 A0 A1 A2 A3 A4 A5 A6 A7 A8) m Q):jp 22 2 [.int .i64 v1,.int .i64 v5,.int .i64 v6,.int .u8 A0,.str A1,.int .u8 A2,.bool A3,A4,.bool A5,A6,.int .i64 A7,A8] m Q:=uD ok22 h
def t23 (A0:Int)(A1:List Nat)(A2:Int)(A3:Bool)(A4:zA)(A5:Bool)(A6:zA)(A7:Int)(A8:zA):T:=
 .opt (oB A8) fun a0=>.asI .i64 a0 fun n1=>.jump 2 [.int .i64 1,A8,.int .i64 n1,.int .i64 0]
def w23(A0:Int)(A1:List Nat)(A2:Int)(A3:Bool)(A4:zA)(A5:Bool)(A6:zA)(A7:Int)(A8:zA)(h:wp 23 (t23 A0 A1 A2 A3 A4 A5 A6 A7 A8) m Q):Wf 23 [.agg [.int .u8 A0,.str A1,.int .u8 A2,.bool A3,A4,.bool A5,A6,.int .i64 A7,A8]] m Q:=yC ok23 h
def z6u(v3:Int)(v7:zA)(v8 v9:Int):T:=
 .ite (iB v9 v8)
 (.opt (jB yA 34 v7 (.int .i64 v9)) fun a0=>.light (fun m=>oA yA 36 ⟨0,m⟩ a0) fun a1=>.asG z4k a1 fun X2=>
 .ite (rB zA.one [.int .u8 (X2.i 0),.str (X2.s 1),.int .u8 (X2.i 2),.bool (X2.b 3),X2.v 4,.bool (X2.b 5),X2.v 6,.int .i64 (X2.i 7),X2.v 8]) (.call 23 [(.agg [.int .u8 (X2.i 0),.str (X2.s 1),.int .u8 (X2.i 2),.bool (X2.b 3),X2.v 4,.bool (X2.b 5),X2.v 6,.int .i64 (X2.i 7),X2.v 8])] fun a3=>
 .asI .i64 a3 fun n4=>.jump 2 [(.int .i64 (sA .i64 (v3+n4))),v7,.int .i64 v8,(.int .i64 (sA .i64 (v9+1)))]) .fail)
 (.ret (.int .i64 v3))
def j23_2(v3:Int)(v7:zA)(v8 v9:Int)(h:wp 23 (z6u v3 v7 v8 v9) m Q):jp 23 2 [.int .i64 v3,v7,.int .i64 v8,.int .i64 v9] m Q:=uD ok23 h
def t24 (A0:List Nat)(A1 A2 A3:zA)(A4:Int)(A5:List Nat)(A6:Int)(A7:Bool)(A8:zA)(A9:Bool)(B0:zA)(B1:Int)(B2:zA):T:=
 .call 19 [.agg [.str A0,A1,A2,A3],.str A5] fun a0=>
 .opt (sB 0 a0) fun a1=>.asG z0m a1 fun X2=>
 .opt (sB 1 a0) fun a3=>.asB a3 fun b4=>.ite true (.call 40 [.agg [.str A0,A1,A2,A3],.str A5] fun a5=>
 .opt (sB 0 a5) fun a6=>.asG vK a6 fun X7=>
 .opt (sB 1 a5) fun a8=>.asB a8 fun b9=>.ite (rB zA.one [.str (X7.s 0),.bool (X7.b 1),X7.v 2]) (.ite (mA A4 3)
 (.ite (mA A4 3)
 (.ite (!b4)
 (.ret (.bool false))
 (.ite (!(X2.b 2))
 (.ret (.bool false))
 (.jump 47 [.str A0,A1,A2,A3,.int .u8 A4,.str A5,.int .u8 A6,.bool A7,A8,.bool A9,B0,.int .i64 B1,B2])))
 (.ite (mA A4 5)
 (.ite (!b4)
 (.ret (.bool false))
 (.ite (X2.b 2)
 (.ret (.bool false))
 (.jump 47 [.str A0,A1,A2,A3,.int .u8 A4,.str A5,.int .u8 A6,.bool A7,A8,.bool A9,B0,.int .i64 B1,B2])))
 (.ite (mA A4 21)
 (.ite (!b4)
 (.ret (.bool false))
 (.ite (!(X2.b 2))
 (.ret (.bool false))
 (.ite (!mA (X2.i 1) 2)
 (.ret (.bool false))
 (.jump 47 [.str A0,A1,A2,A3,.int .u8 A4,.str A5,.int .u8 A6,.bool A7,A8,.bool A9,B0,.int .i64 B1,B2]))))
 (.ite (mA A4 22)
 (.ite (!b4)
 (.ret (.bool false))
 (.ite (!(X2.b 2))
 (.ret (.bool false))
 (.ite (!mA (X2.i 1) 3)
 (.ret (.bool false))
 (.jump 47 [.str A0,A1,A2,A3,.int .u8 A4,.str A5,.int .u8 A6,.bool A7,A8,.bool A9,B0,.int .i64 B1,B2]))))
 (.ite (mA A4 6)
 (.ite (!b9)
 (.ret (.bool false))
 (.opt (oB B2) fun a10=>.asI .i64 a10 fun n11=>.ite (!bEq (X7.b 1) (mA n11 2))
 (.ret (.bool false))
 (.jump 47 [.str A0,A1,A2,A3,.int .u8 A4,.str A5,.int .u8 A6,.bool A7,A8,.bool A9,B0,.int .i64 B1,B2])))
 (.ite (mA A4 23)
 (.ite (!b9)
 (.ret (.bool false))
 (.ite (X7.b 1)
 (.ret (.bool false))
 (.jump 47 [.str A0,A1,A2,A3,.int .u8 A4,.str A5,.int .u8 A6,.bool A7,A8,.bool A9,B0,.int .i64 B1,B2])))
 (.jump 47 [.str A0,A1,A2,A3,.int .u8 A4,.str A5,.int .u8 A6,.bool A7,A8,.bool A9,B0,.int .i64 B1,B2])))))))
 (.ite (mA A4 4)
 (.ite (!b4)
 (.ret (.bool false))
 (.ite (!(X2.b 2))
 (.ret (.bool false))
 (.jump 47 [.str A0,A1,A2,A3,.int .u8 A4,.str A5,.int .u8 A6,.bool A7,A8,.bool A9,B0,.int .i64 B1,B2])))
 (.ite (mA A4 5)
 (.ite (!b4)
 (.ret (.bool false))
 (.ite (X2.b 2)
 (.ret (.bool false))
 (.jump 47 [.str A0,A1,A2,A3,.int .u8 A4,.str A5,.int .u8 A6,.bool A7,A8,.bool A9,B0,.int .i64 B1,B2])))
 (.ite (mA A4 21)
 (.ite (!b4)
 (.ret (.bool false))
 (.ite (!(X2.b 2))
 (.ret (.bool false))
 (.ite (!mA (X2.i 1) 2)
 (.ret (.bool false))
 (.jump 47 [.str A0,A1,A2,A3,.int .u8 A4,.str A5,.int .u8 A6,.bool A7,A8,.bool A9,B0,.int .i64 B1,B2]))))
 (.ite (mA A4 22)
 (.ite (!b4)
 (.ret (.bool false))
 (.ite (!(X2.b 2))
 (.ret (.bool false))
 (.ite (!mA (X2.i 1) 3)
 (.ret (.bool false))
 (.jump 47 [.str A0,A1,A2,A3,.int .u8 A4,.str A5,.int .u8 A6,.bool A7,A8,.bool A9,B0,.int .i64 B1,B2]))))
 (.ite (mA A4 6)
 (.ite (!b9)
 (.ret (.bool false))
 (.opt (oB B2) fun xF=>.asI .i64 xF fun n13=>.ite (!bEq (X7.b 1) (mA n13 2))
 (.ret (.bool false))
 (.jump 47 [.str A0,A1,A2,A3,.int .u8 A4,.str A5,.int .u8 A6,.bool A7,A8,.bool A9,B0,.int .i64 B1,B2])))
 (.ite (mA A4 23)
 (.ite (!b9)
 (.ret (.bool false))
 (.ite (X7.b 1)
 (.ret (.bool false))
 (.jump 47 [.str A0,A1,A2,A3,.int .u8 A4,.str A5,.int .u8 A6,.bool A7,A8,.bool A9,B0,.int .i64 B1,B2])))
 (.jump 47 [.str A0,A1,A2,A3,.int .u8 A4,.str A5,.int .u8 A6,.bool A7,A8,.bool A9,B0,.int .i64 B1,B2])))))))) .fail) .fail
def w24(A0:List Nat)(A1 A2 A3:zA)(A4:Int)(A5:List Nat)(A6:Int)(A7:Bool)(A8:zA)(A9:Bool)(B0:zA)(B1:Int)(B2:zA)(h:wp 24 (t24 A0 A1 A2 A3 A4 A5 A6 A7 A8 A9 B0 B1 B2) m Q):Wf 24 [.agg [.str A0,A1,A2,A3],.agg [.int .u8 A4,.str A5,.int .u8 A6,.bool A7,A8,.bool A9,B0,.int .i64 B1,B2]] m Q:=yC ok24 h
def t28 (A0:List Nat)(A1 A2 A3:zA):T:=
 .ite true (.ite true (.ite true (.ite true (.ite true (.ite true (.ite true (.ite true (.ite true (.ite true (.ite true (.ite true (.ite true (.ite true (.ite true (.ite true (.ite true (.ite true (.ite true (.ite true (.ite true (.ite true (.ite true (.ite true (.ite true (.heavy fS fun a0=>
 .heavy (vP yA [.upd 100 a0 (.agg [.int .u8 2,.int .u8 0,.int .u8 0,.int .u8 0]) (.int .u8 4),.upd 100 a0 (.agg [.int .u8 4,.int .u8 4,.int .u8 0,.int .u8 0]) (.int .u8 1),.upd 100 a0 (.agg [.int .u8 6,.int .u8 2,.int .u8 0,.int .u8 0]) (.int .u8 2),.upd 100 a0 (.agg [.int .u8 6,.int .u8 2,.int .u8 2,.int .u8 0]) (.int .u8 2),.upd 100 a0 (.agg [.int .u8 8,.int .u8 4,.int .u8 4,.int .u8 0]) (.int .u8 5),.upd 100 a0 (.agg [.int .u8 9,.int .u8 2,.int .u8 2,.int .u8 0]) (.int .u8 2),.upd 100 a0 (.agg [.int .u8 9,.int .u8 3,.int .u8 2,.int .u8 0]) (.int .u8 3),.upd 100 a0 (.agg [.int .u8 9,.int .u8 2,.int .u8 3,.int .u8 0]) (.int .u8 3),.upd 100 a0 (.agg [.int .u8 10,.int .u8 2,.int .u8 2,.int .u8 0]) (.int .u8 2),.upd 100 a0 (.agg [.int .u8 10,.int .u8 3,.int .u8 2,.int .u8 0]) (.int .u8 3),.upd 100 a0 (.agg [.int .u8 10,.int .u8 3,.int .u8 3,.int .u8 0]) (.int .u8 2),.upd 100 a0 (.agg [.int .u8 15,.int .u8 1,.int .u8 1,.int .u8 0]) (.int .u8 1),.upd 100 a0 (.agg [.int .u8 16,.int .u8 1,.int .u8 1,.int .u8 0]) (.int .u8 1),.upd 100 a0 (.agg [.int .u8 17,.int .u8 1,.int .u8 0,.int .u8 0]) (.int .u8 1),.upd 100 a0 (.agg [.int .u8 19,.int .u8 2,.int .u8 2,.int .u8 0]) (.int .u8 2),.upd 100 a0 (.agg [.int .u8 19,.int .u8 3,.int .u8 3,.int .u8 0]) (.int .u8 3),.upd 100 a0 (.agg [.int .u8 20,.int .u8 4,.int .u8 4,.int .u8 0]) (.int .u8 6),.upd 100 a0 (.agg [.int .u8 21,.int .u8 4,.int .u8 4,.int .u8 0]) (.int .u8 2),.upd 100 a0 (.agg [.int .u8 22,.int .u8 4,.int .u8 4,.int .u8 6]) (.int .u8 3),.upd 100 a0 (.agg [.int .u8 23,.int .u8 4,.int .u8 4,.int .u8 0]) (.int .u8 2),.upd 100 a0 (.agg [.int .u8 24,.int .u8 2,.int .u8 0,.int .u8 0]) (.int .u8 6),.upd 100 a0 (.agg [.int .u8 25,.int .u8 5,.int .u8 0,.int .u8 0]) (.int .u8 2),.upd 100 a0 (.agg [.int .u8 25,.int .u8 6,.int .u8 0,.int .u8 0]) (.int .u8 2),.upd 100 a0 (.agg [.int .u8 25,.int .u8 3,.int .u8 0,.int .u8 0]) (.int .u8 2),.upd 100 a0 (.agg [.int .u8 26,.int .u8 4,.int .u8 0,.int .u8 0]) (.int .u8 4)]) fun _=>
 .ite true (.jump 2 [a0,.agg [.int .u8 7,.int .u8 8],.int .i64 0,.str A0,A1,A2,A3]) .fail) .fail) .fail) .fail) .fail) .fail) .fail) .fail) .fail) .fail) .fail) .fail) .fail) .fail) .fail) .fail) .fail) .fail) .fail) .fail) .fail) .fail) .fail) .fail) .fail) .fail
def w28(A0:List Nat)(A1 A2 A3:zA)(h:wp 28 (t28 A0 A1 A2 A3) m Q):Wf 28 [.agg [.str A0,A1,A2,A3]] m Q:=yC ok28 h
def t28_2(v3:zA)(A0 A1 v37:Int)(A2:List Nat)(A3 A4 A5:zA):T:=
 .ite (iB v37 2)
 (.opt (yJ yA 101 (.agg [.int .u8 A0,.int .u8 A1]) (.int .i64 v37)) fun a0=>.asI .u8 a0 fun n1=>.ite true (.jump 6 [v3,.int .u8 n1,.agg [.int .u8 A0,.int .u8 A1],.int .i64 v37,.agg [.int .u8 2,.int .u8 3,.int .u8 5,.int .u8 6],.int .i64 0,.str A2,A3,A4,A5]) .fail)
 (.jump 10 [v3,.int .u8 1,.str A2,A3,A4,A5])
def z7x(v3:zA)(A0 A1 v37:Int)(A2:List Nat)(A3 A4 A5:zA)(h:wp 28 (t28_2 v3 A0 A1 v37 A2 A3 A4 A5) m Q):jp 28 2 [v3,.agg [.int .u8 A0,.int .u8 A1],.int .i64 v37,.str A2,A3,A4,A5] m Q:=uD ok28 h
def t28_6(v3:zA)(v5 A0 A1 v37 A2 A3 A4 A5 v41:Int)(A6:List Nat)(A7 A8 A9:zA):T:=
 .ite (iB v41 4)
 (.opt (yJ yA 102 (.agg [.int .u8 A2,.int .u8 A3,.int .u8 A4,.int .u8 A5]) (.int .i64 v41)) fun a0=>.asI .u8 a0 fun n1=>.ite true (.heavy (xI yA 100 v3 (.agg [.int .u8 v5,.int .u8 n1,.int .u8 n1,.int .u8 0]) (.int .u8 n1)) fun _=>
 .jump 6 [v3,.int .u8 v5,.agg [.int .u8 A0,.int .u8 A1],.int .i64 v37,.agg [.int .u8 A2,.int .u8 A3,.int .u8 A4,.int .u8 A5],(.int .i64 (sA .i64 (v41+1))),.str A6,A7,A8,A9]) .fail)
 (.ite true (.heavy (xI yA 100 v3 (.agg [.int .u8 v5,.int .u8 4,.int .u8 5,.int .u8 0]) (.int .u8 4)) fun _=>
 .ite true (.heavy (xI yA 100 v3 (.agg [.int .u8 v5,.int .u8 4,.int .u8 6,.int .u8 0]) (.int .u8 4)) fun _=>
 .jump 2 [v3,.agg [.int .u8 A0,.int .u8 A1],(.int .i64 (sA .i64 (v37+1))),.str A6,A7,A8,A9]) .fail) .fail)
def zx4(v3:zA)(v5 A0 A1 v37 A2 A3 A4 A5 v41:Int)(A6:List Nat)(A7 A8 A9:zA)(h:wp 28 (t28_6 v3 v5 A0 A1 v37 A2 A3 A4 A5 v41 A6 A7 A8 A9) m Q):jp 28 6 [v3,.int .u8 v5,.agg [.int .u8 A0,.int .u8 A1],.int .i64 v37,.agg [.int .u8 A2,.int .u8 A3,.int .u8 A4,.int .u8 A5],.int .i64 v41,.str A6,A7,A8,A9] m Q:=uD ok28 h
def t28_10(v3:zA)(v8:Int)(A0:List Nat)(A1 A2 A3:zA):T:=
 .ite (pC v8 6)
 (.ite true (.heavy (xI yA 100 v3 (.agg [.int .u8 14,.int .u8 v8,.int .u8 v8,.int .u8 0]) (.int .u8 1)) fun _=>
 .ite true (.heavy (xI yA 100 v3 (.agg [.int .u8 18,.int .u8 1,.int .u8 v8,.int .u8 v8]) (.int .u8 v8)) fun _=>
 .ite (!mA v8 1)
 (.ite true (.heavy (xI yA 100 v3 (.agg [.int .u8 11,.int .u8 v8,.int .u8 v8,.int .u8 0]) (.int .u8 v8)) fun _=>
 .ite true (.heavy (xI yA 100 v3 (.agg [.int .u8 12,.int .u8 v8,.int .u8 v8,.int .u8 0]) (.int .u8 v8)) fun _=>
 .ite true (.heavy (xI yA 100 v3 (.agg [.int .u8 13,.int .u8 v8,.int .u8 v8,.int .u8 0]) (.int .u8 1)) fun _=>
 .jump 10 [v3,(.int .u8 (sA .u8 (v8+1))),.str A0,A1,A2,A3]) .fail) .fail) .fail)
 (.jump 10 [v3,(.int .u8 (sA .u8 (v8+1))),.str A0,A1,A2,A3])) .fail) .fail)
 (.ite (rB zA.one [v3]) (.heavy (zrn (.agg [.str A0,A1,A2,A3,v3])) fun a0=>
 .ret a0) .fail)
def zx5(v3:zA)(v8:Int)(A0:List Nat)(A1 A2 A3:zA)(h:wp 28 (t28_10 v3 v8 A0 A1 A2 A3) m Q):jp 28 10 [v3,.int .u8 v8,.str A0,A1,A2,A3] m Q:=uD ok28 h
def t30 (A0:Int)(A1:Bool)(A2:zA)(A3:Bool)(A4:zA)(A5:Int):T:=
 .call 45 [.agg [.bool A1,A2,.bool A3,A4]] fun a0=>
 .asG zz7z a0 fun X1=>
 .ite (rB zA.one [.bool (X1.b 0),X1.v 1,.bool (X1.b 2),X1.v 3]) (.ite (rB zA.one [.int .u8 A0,.bool (X1.b 0),X1.v 1,.bool (X1.b 2),X1.v 3,.int .i64 A5]) (.ret (.agg [.int .u8 A0,.bool (X1.b 0),X1.v 1,.bool (X1.b 2),X1.v 3,.int .i64 A5])) .fail) .fail
def w30(A0:Int)(A1:Bool)(A2:zA)(A3:Bool)(A4:zA)(A5:Int)(h:wp 30 (t30 A0 A1 A2 A3 A4 A5) m Q):Wf 30 [.agg [.int .u8 A0,.bool A1,A2,.bool A3,A4,.int .i64 A5]] m Q:=yC ok30 h
def t31 (p0:zA):T:=
 .jump 2 [p0,.nilslice,.int .i64 0]
def w31(p0:zA)(h:wp 31 (t31 p0) m Q):Wf 31 [p0] m Q:=yC ok31 h
def t31_2(v0 v3:zA)(v4:Int):T:=
 .opt (oB v0) fun a0=>.asI .i64 a0 fun n1=>.ite (iB v4 n1)
 (.opt (jB yA 34 v0 (.int .i64 v4)) fun a2=>.light (fun m=>oA yA 36 ⟨0,m⟩ a2) fun a3=>.asG z4k a3 fun X4=>
 .call 12 [(.agg [.int .u8 (X4.i 0),.str (X4.s 1),.int .u8 (X4.i 2),.bool (X4.b 3),X4.v 4,.bool (X4.b 5),X4.v 6,.int .i64 (X4.i 7),X4.v 8])] fun a5=>
 .asG z4k a5 fun X6=>
 .ite (rB zA.one [.int .u8 (X6.i 0),.str (X6.s 1),.int .u8 (X6.i 2),.bool (X6.b 3),X6.v 4,.bool (X6.b 5),X6.v 6,.int .i64 (X6.i 7),X6.v 8]) (.heavy (sH yA 34 1 [(0,(.agg [.int .u8 (X6.i 0),.str (X6.s 1),.int .u8 (X6.i 2),.bool (X6.b 3),X6.v 4,.bool (X6.b 5),X6.v 6,.int .i64 (X6.i 7),X6.v 8]))]) fun a7=>
 .heavy (gE yA 34 34 v3 a7) fun a8=>
 .jump 2 [v0,a8,(.int .i64 (sA .i64 (v4+1)))]) .fail)
 (.ret v3)
def j31_2(v0 v3:zA)(v4:Int)(h:wp 31 (t31_2 v0 v3 v4) m Q):jp 31 2 [v0,v3,.int .i64 v4] m Q:=uD ok31 h
def t32 (A0:Bool)(A1:zA)(A2:Bool)(A3:zA):T:=
 .opt (oB A1) fun a0=>.asI .i64 a0 fun n1=>.opt (oB A3) fun a2=>.asI .i64 a2 fun n3=>.ret (.int .i64 (sA .i64 ((sA .i64 (1+n1))+n3)))
def w32(A0:Bool)(A1:zA)(A2:Bool)(A3:zA)(h:wp 32 (t32 A0 A1 A2 A3) m Q):Wf 32 [.agg [.bool A0,A1,.bool A2,A3]] m Q:=yC ok32 h
def t33 (A0:List Nat)(A1 A2 A3:zA):T:=
 .ite (rB zA.one [.str A0,A1,A2]) (.call 46 [.agg [.str A0,A1,A2,.nilslice]] fun a0=>
 .asB a0 fun b1=>.ite (!b1)
 (.ret (.int .i64 140))
 (.opt (oB A1) fun a2=>.asI .i64 a2 fun n3=>.ite (iB 64 n3)
 (.opt (oB A2) fun a4=>.asI .i64 a4 fun n5=>.jump 2 [.bool true,A2,.int .i64 n5,.int .i64 0,.str A0,A1,A2,A3])
 (.opt (oB A2) fun a6=>.asI .i64 a6 fun n7=>.ite (iB 16 n7)
 (.opt (oB A2) fun a8=>.asI .i64 a8 fun n9=>.jump 2 [.bool true,A2,.int .i64 n9,.int .i64 0,.str A0,A1,A2,A3])
 (.opt (oB A3) fun a10=>.asI .i64 a10 fun n11=>.opt (oB A2) fun xF=>.asI .i64 xF fun n13=>.jump 2 [(.bool (iB 400 n11)),A2,.int .i64 n13,.int .i64 0,.str A0,A1,A2,A3])))) .fail
def w33(A0:List Nat)(A1 A2 A3:zA)(h:wp 33 (t33 A0 A1 A2 A3) m Q):Wf 33 [.agg [.str A0,A1,A2,A3]] m Q:=yC ok33 h
def t33_2(v3:Bool)(v32:zA)(v33 v34:Int)(A0:List Nat)(A1 A2 A3:zA):T:=
 .ite (iB v34 v33)
 (.opt (jB yA 23 v32 (.int .i64 v34)) fun a0=>.light (fun m=>oA yA 81 ⟨0,m⟩ a0) fun a1=>.asG vK a1 fun X2=>
 .ite (rB zA.one [.str (X2.s 0),.bool (X2.b 1),X2.v 2]) (.ite v3
 (.jump 2 [.bool true,v32,.int .i64 v33,(.int .i64 (sA .i64 (v34+1))),.str A0,A1,A2,A3])
 (.opt (oB (X2.v 2)) fun a3=>.asI .i64 a3 fun n4=>.jump 2 [(.bool (iB 400 n4)),v32,.int .i64 v33,(.int .i64 (sA .i64 (v34+1))),.str A0,A1,A2,A3])) .fail)
 (.ite v3
 (.ret (.int .i64 5))
 (.call 47 [A1,(.func (.func 48) [] [])] fun a5=>
 .asB a5 fun b6=>.ite b6
 (.ret (.int .i64 143))
 (.call 49 [A2,(.func (.func 50) [] [])] fun a7=>
 .asB a7 fun b8=>.ite b8
 (.ret (.int .i64 143))
 (.ret (.int .i64 0)))))
def j33_2(v3:Bool)(v32:zA)(v33 v34:Int)(A0:List Nat)(A1 A2 A3:zA)(h:wp 33 (t33_2 v3 v32 v33 v34 A0 A1 A2 A3) m Q):jp 33 2 [.bool v3,v32,.int .i64 v33,.int .i64 v34,.str A0,A1,A2,A3] m Q:=uD ok33 h
def t34 (p0:zA)(A0 A1:List Nat)(A2 A3 A4:Int)(A5:Bool)(A6:Int)(A7:List Nat)(A8:Int)(A9:Bool)(B0:zA)(B1:Bool)(B2:zA)(B3:Int)(B4:zA)(B5:Int)(B6:List Nat)(B7:Int)(B8:Bool)(B9:zA)(D0:Bool)(D1:zA)(D2:Int)(D3:zA):T:=
 .heavy (sH yA 24 1 [(0,(.agg [.str A0,.str A1,.int .i64 A2,.int .i64 A3,.int .i64 A4,.bool A5,.int .u8 A6,.str A7,.int .u8 A8,.bool A9,B0,.bool B1,B2,.int .i64 B3,B4,.int .u8 B5,.str B6,.int .u8 B7,.bool B8,B9,.bool D0,D1,.int .i64 D2,D3]))]) fun a0=>
 .ite (rB zA.one [.str [120],a0]) (.call 46 [.agg [.str [120],.nilslice,.nilslice,a0]] fun a1=>
 .asB a1 fun b2=>.ite (!b2)
 (.ret (.int .i64 140))
 (.ite (pC A3 A2)
 (.ret (.int .i64 144))
 (.call 23 [.agg [.int .u8 A6,.str A7,.int .u8 A8,.bool A9,B0,.bool B1,B2,.int .i64 B3,B4]] fun a3=>
 .asI .i64 a3 fun n4=>.ite (iB 200 n4)
 (.ret (.int .i64 5))
 (.call 23 [.agg [.int .u8 B5,.str B6,.int .u8 B7,.bool B8,B9,.bool D0,D1,.int .i64 D2,D3]] fun a5=>
 .asI .i64 a5 fun n6=>.ite (iB 200 n6)
 (.ret (.int .i64 5))
 (.opt (aE p0) fun a7=>.opt (fB yA 104 0 a7) fun a8=>.light (fun m=>oA yA 26 ⟨0,m⟩ a8) fun a9=>.asG uK a9 fun X10=>
 .heavy (aG yA 59) fun a11=>
 .call 19 [(.agg [.str (X10.s 0),X10.v 1,X10.v 2,X10.v 3]),.str A0] fun xF=>
 .opt (sB 0 xF) fun a13=>.asG z0m a13 fun X14=>
 .opt (sB 1 xF) fun a15=>.asB a15 fun b16=>.heavy (qD yA 59 a11 (.agg [.str (X14.s 0),.int .u8 (X14.i 1),.bool (X14.b 2)])) fun _=>
 .ite (!b16)
 (.ret (.int .i64 141))
 (.opt (fB yA 59 2 a11) fun a17=>.light (fun m=>oA yA 4 ⟨0,m⟩ a17) fun a18=>.asB a18 fun b19=>.ite b19
 (.ret (.int .i64 141))
 (.ite A5
 (.ret (.int .i64 0))
 (.ite true (.opt (fB yA 59 1 a11) fun a20=>.light (fun m=>oA yA 5 ⟨0,m⟩ a20) fun a21=>.asI .u8 a21 fun n22=>.ite true (.ite true (.jump 2 [p0,.agg [.int .u8 A6,.str A7,.int .u8 A8,.bool A9,B0,.bool B1,B2,.int .i64 B3,B4,.int .u8 1,.int .u8 B5,.str B6,.int .u8 B7,.bool B8,B9,.bool D0,D1,.int .i64 D2,D3,.int .u8 n22],.int .i64 0]) .fail) .fail) .fail)))))))) .fail
def w34(p0:zA)(A0 A1:List Nat)(A2 A3 A4:Int)(A5:Bool)(A6:Int)(A7:List Nat)(A8:Int)(A9:Bool)(B0:zA)(B1:Bool)(B2:zA)(B3:Int)(B4:zA)(B5:Int)(B6:List Nat)(B7:Int)(B8:Bool)(B9:zA)(D0:Bool)(D1:zA)(D2:Int)(D3:zA)(h:wp 34 (t34 p0 A0 A1 A2 A3 A4 A5 A6 A7 A8 A9 B0 B1 B2 B3 B4 B5 B6 B7 B8 B9 D0 D1 D2 D3) m Q):Wf 34 [p0,.agg [.str A0,.str A1,.int .i64 A2,.int .i64 A3,.int .i64 A4,.bool A5,.int .u8 A6,.str A7,.int .u8 A8,.bool A9,B0,.bool B1,B2,.int .i64 B3,B4,.int .u8 B5,.str B6,.int .u8 B7,.bool B8,B9,.bool D0,D1,.int .i64 D2,D3]] m Q:=yC ok34 h
def t34_2(v0:zA)(A0:Int)(A1:List Nat)(A2:Int)(A3:Bool)(A4:zA)(A5:Bool)(A6:zA)(A7:Int)(A8:zA)(A9 B0:Int)(B1:List Nat)(B2:Int)(B3:Bool)(B4:zA)(B5:Bool)(B6:zA)(B7:Int)(B8:zA)(B9 v58:Int):T:=
 .ite (iB v58 2)
 (.opt (yJ yA 113 (.agg [.int .u8 A0,.str A1,.int .u8 A2,.bool A3,A4,.bool A5,A6,.int .i64 A7,A8,.int .u8 A9,.int .u8 B0,.str B1,.int .u8 B2,.bool B3,B4,.bool B5,B6,.int .i64 B7,B8,.int .u8 B9]) (.int .i64 v58)) fun a0=>.asG [.int .u8 0,.str [],.int .u8 0,.bool false,.nilslice,.bool false,.nilslice,.int .i64 0,.nilslice,.int .u8 0] a0 fun X1=>
 .ite (rB zA.one [.int .u8 (X1.i 0),.str (X1.s 1),.int .u8 (X1.i 2),.bool (X1.b 3),X1.v 4,.bool (X1.b 5),X1.v 6,.int .i64 (X1.i 7),X1.v 8,.int .u8 (X1.i 9)]) (.call 44 [v0,(.agg [.int .u8 (X1.i 0),.str (X1.s 1),.int .u8 (X1.i 2),.bool (X1.b 3),X1.v 4,.bool (X1.b 5),X1.v 6,.int .i64 (X1.i 7),X1.v 8])] fun a2=>
 .opt (sB 0 a2) fun a3=>.asI .u8 a3 fun n4=>.opt (sB 1 a2) fun a5=>.asI .i64 a5 fun n6=>.ite (!mA n6 0)
 (.ret (.int .i64 n6))
 (.ite (!mA n4 (X1.i 9))
 (.ret (.int .i64 142))
 (.jump 2 [v0,.agg [.int .u8 A0,.str A1,.int .u8 A2,.bool A3,A4,.bool A5,A6,.int .i64 A7,A8,.int .u8 A9,.int .u8 B0,.str B1,.int .u8 B2,.bool B3,B4,.bool B5,B6,.int .i64 B7,B8,.int .u8 B9],(.int .i64 (sA .i64 (v58+1)))]))) .fail)
 (.ret (.int .i64 0))
def z7w(v0:zA)(A0:Int)(A1:List Nat)(A2:Int)(A3:Bool)(A4:zA)(A5:Bool)(A6:zA)(A7:Int)(A8:zA)(A9 B0:Int)(B1:List Nat)(B2:Int)(B3:Bool)(B4:zA)(B5:Bool)(B6:zA)(B7:Int)(B8:zA)(B9 v58:Int)(h:wp 34 (t34_2 v0 A0 A1 A2 A3 A4 A5 A6 A7 A8 A9 B0 B1 B2 B3 B4 B5 B6 B7 B8 B9 v58) m Q):jp 34 2 [v0,.agg [.int .u8 A0,.str A1,.int .u8 A2,.bool A3,A4,.bool A5,A6,.int .i64 A7,A8,.int .u8 A9,.int .u8 B0,.str B1,.int .u8 B2,.bool B3,B4,.bool B5,B6,.int .i64 B7,B8,.int .u8 B9],.int .i64 v58] m Q:=uD ok34 h
def t35 (p0:zA):T:=
 .heavy (gE yA 22 22 .nilslice p0) fun a0=>
 .ret a0
def w35(p0:zA)(h:wp 35 (t35 p0) m Q):Wf 35 [p0] m Q:=yC ok35 h
def t36 (p0:zA):T:=
 .jump 2 [p0,.nilslice,.int .i64 0]
def w36(p0:zA)(h:wp 36 (t36 p0) m Q):Wf 36 [p0] m Q:=yC ok36 h
def t36_2(v0 v3:zA)(v4:Int):T:=
 .opt (oB v0) fun a0=>.asI .i64 a0 fun n1=>.ite (iB v4 n1)
 (.opt (jB yA 23 v0 (.int .i64 v4)) fun a2=>.light (fun m=>oA yA 81 ⟨0,m⟩ a2) fun a3=>.asG vK a3 fun X4=>
 .call 51 [(.agg [.str (X4.s 0),.bool (X4.b 1),X4.v 2])] fun a5=>
 .asG vK a5 fun X6=>
 .ite (rB zA.one [.str (X6.s 0),.bool (X6.b 1),X6.v 2]) (.heavy (sH yA 23 1 [(0,(.agg [.str (X6.s 0),.bool (X6.b 1),X6.v 2]))]) fun a7=>
 .heavy (gE yA 23 23 v3 a7) fun a8=>
 .jump 2 [v0,a8,(.int .i64 (sA .i64 (v4+1)))]) .fail)
 (.ret v3)
def j36_2(v0 v3:zA)(v4:Int)(h:wp 36 (t36_2 v0 v3 v4) m Q):jp 36 2 [v0,v3,.int .i64 v4] m Q:=uD ok36 h
def t37 (p0:zA):T:=
 .jump 2 [p0,.nilslice,.int .i64 0]
def w37(p0:zA)(h:wp 37 (t37 p0) m Q):Wf 37 [p0] m Q:=yC ok37 h
def t37_2(v0 v3:zA)(v4:Int):T:=
 .opt (oB v0) fun a0=>.asI .i64 a0 fun n1=>.ite (iB v4 n1)
 (.opt (jB yA 24 v0 (.int .i64 v4)) fun a2=>.light (fun m=>oA yA 56 ⟨0,m⟩ a2) fun a3=>.asG zz5z a3 fun X4=>
 .call 52 [(.agg [.str (X4.s 0),.str (X4.s 1),.int .i64 (X4.i 2),.int .i64 (X4.i 3),.int .i64 (X4.i 4),.bool (X4.b 5),.int .u8 (X4.i 6),.str (X4.s 7),.int .u8 (X4.i 8),.bool (X4.b 9),X4.v 10,.bool (X4.b 11),X4.v 12,.int .i64 (X4.i 13),X4.v 14,.int .u8 (X4.i 15),.str (X4.s 16),.int .u8 (X4.i 17),.bool (X4.b 18),X4.v 19,.bool (X4.b 20),X4.v 21,.int .i64 (X4.i 22),X4.v 23])] fun a5=>
 .asG zz5z a5 fun X6=>
 .ite (rB zA.one [.str (X6.s 0),.str (X6.s 1),.int .i64 (X6.i 2),.int .i64 (X6.i 3),.int .i64 (X6.i 4),.bool (X6.b 5),.int .u8 (X6.i 6),.str (X6.s 7),.int .u8 (X6.i 8),.bool (X6.b 9),X6.v 10,.bool (X6.b 11),X6.v 12,.int .i64 (X6.i 13),X6.v 14,.int .u8 (X6.i 15),.str (X6.s 16),.int .u8 (X6.i 17),.bool (X6.b 18),X6.v 19,.bool (X6.b 20),X6.v 21,.int .i64 (X6.i 22),X6.v 23]) (.heavy (sH yA 24 1 [(0,(.agg [.str (X6.s 0),.str (X6.s 1),.int .i64 (X6.i 2),.int .i64 (X6.i 3),.int .i64 (X6.i 4),.bool (X6.b 5),.int .u8 (X6.i 6),.str (X6.s 7),.int .u8 (X6.i 8),.bool (X6.b 9),X6.v 10,.bool (X6.b 11),X6.v 12,.int .i64 (X6.i 13),X6.v 14,.int .u8 (X6.i 15),.str (X6.s 16),.int .u8 (X6.i 17),.bool (X6.b 18),X6.v 19,.bool (X6.b 20),X6.v 21,.int .i64 (X6.i 22),X6.v 23]))]) fun a7=>
 .heavy (gE yA 24 24 v3 a7) fun a8=>
 .jump 2 [v0,a8,(.int .i64 (sA .i64 (v4+1)))]) .fail)
 (.ret v3)
def j37_2(v0 v3:zA)(v4:Int)(h:wp 37 (t37_2 v0 v3 v4) m Q):jp 37 2 [v0,v3,.int .i64 v4] m Q:=uD ok37 h
def t44 (p0:zA)(A0:Int)(A1:List Nat)(A2:Int)(A3:Bool)(A4:zA)(A5:Bool)(A6:zA)(A7:Int)(A8:zA):T:=
 .heavy (aG yA 137) fun a0=>
 .opt (oB A8) fun a1=>.asI .i64 a1 fun n2=>.jump 2 [p0,a0,A8,.int .i64 n2,.int .i64 0,.int .u8 A0,.str A1,.int .u8 A2,.bool A3,A4,.bool A5,A6,.int .i64 A7,A8]
def w44(p0:zA)(A0:Int)(A1:List Nat)(A2:Int)(A3:Bool)(A4:zA)(A5:Bool)(A6:zA)(A7:Int)(A8:zA)(h:wp 44 (t44 p0 A0 A1 A2 A3 A4 A5 A6 A7 A8) m Q):Wf 44 [p0,.agg [.int .u8 A0,.str A1,.int .u8 A2,.bool A3,A4,.bool A5,A6,.int .i64 A7,A8]] m Q:=yC ok44 h
def z6t(v0 v6 v17:zA)(v18 v19 A0:Int)(A1:List Nat)(A2:Int)(A3:Bool)(A4:zA)(A5:Bool)(A6:zA)(A7:Int)(A8:zA):T:=
 .ite (iB v19 v18)
 (.opt (jB yA 34 v17 (.int .i64 v19)) fun a0=>.light (fun m=>oA yA 36 ⟨0,m⟩ a0) fun a1=>.asG z4k a1 fun X2=>
 .ite (rB zA.one [.int .u8 (X2.i 0),.str (X2.s 1),.int .u8 (X2.i 2),.bool (X2.b 3),X2.v 4,.bool (X2.b 5),X2.v 6,.int .i64 (X2.i 7),X2.v 8]) (.call 44 [v0,(.agg [.int .u8 (X2.i 0),.str (X2.s 1),.int .u8 (X2.i 2),.bool (X2.b 3),X2.v 4,.bool (X2.b 5),X2.v 6,.int .i64 (X2.i 7),X2.v 8])] fun a3=>
 .opt (sB 0 a3) fun a4=>.asI .u8 a4 fun n5=>.opt (sB 1 a3) fun a6=>.asI .i64 a6 fun n7=>.ite (!mA n7 0)
 (.ret (.tup [.int .u8 0,.int .i64 n7]))
 (.opt (jB yA 137 v6 (.int .i64 v19)) fun a8=>.heavy (qD yA 5 a8 (.int .u8 n5)) fun _=>
 .jump 2 [v0,v6,v17,.int .i64 v18,(.int .i64 (sA .i64 (v19+1))),.int .u8 A0,.str A1,.int .u8 A2,.bool A3,A4,.bool A5,A6,.int .i64 A7,A8])) .fail)
 (.call 66 [v0,.agg [.int .u8 A0,.str A1,.int .u8 A2,.bool A3,A4,.bool A5,A6,.int .i64 A7,A8]] fun a9=>
 .opt (sB 0 a9) fun a10=>.asI .u8 a10 fun n11=>.opt (sB 1 a9) fun xF=>.asB xF fun b13=>.ite (!b13)
 (.ret (.tup [.int .u8 0,.int .i64 141]))
 (.opt (jB yA 137 v6 (.int .i64 0)) fun a14=>.light (fun m=>oA yA 5 ⟨0,m⟩ a14) fun a15=>.asI .u8 a15 fun n16=>.opt (jB yA 137 v6 (.int .i64 1)) fun a17=>.light (fun m=>oA yA 5 ⟨0,m⟩ a17) fun a18=>.asI .u8 a18 fun n19=>.opt (jB yA 137 v6 (.int .i64 2)) fun a20=>.light (fun m=>oA yA 5 ⟨0,m⟩ a20) fun a21=>.asI .u8 a21 fun n22=>.ite true (.ite true (.ite (mA A0 1)
 (.ret (.tup [.int .u8 A2,.int .i64 0]))
 (.ite (mA A0 3)
 (.ite (mA A0 3)
 (.opt (jB yA 137 v6 (.int .i64 0)) fun a23=>.light (fun m=>oA yA 5 ⟨0,m⟩ a23) fun a24=>.asI .u8 a24 fun n25=>.jump 59 [(.bool (mA n25 4)),.int .u8 n11])
 (.ite (mA A0 21)
 (.opt (aE v0) fun a26=>.opt (fB yA 104 1 a26) fun a27=>.light (fun m=>oA yA 100 ⟨0,m⟩ a27) fun a28=>.light (fun m=>bG yA 100 ⟨0,m⟩ a28 (.agg [.int .u8 A0,.int .u8 n16,.int .u8 n19,.int .u8 n22]) true) fun a29=>.opt (sB 0 a29) fun a30=>.asI .u8 a30 fun n31=>.opt (sB 1 a29) fun a32=>.asB a32 fun b33=>.ite b33
 (.jump 59 [(.bool (mA n11 2)),.int .u8 n31])
 (.jump 59 [.bool false,.int .u8 n31]))
 (.ite (mA A0 22)
 (.opt (aE v0) fun a34=>.opt (fB yA 104 1 a34) fun a35=>.light (fun m=>oA yA 100 ⟨0,m⟩ a35) fun a36=>.light (fun m=>bG yA 100 ⟨0,m⟩ a36 (.agg [.int .u8 A0,.int .u8 n16,.int .u8 n19,.int .u8 n22]) true) fun a37=>.opt (sB 0 a37) fun a38=>.asI .u8 a38 fun n39=>.opt (sB 1 a37) fun a40=>.asB a40 fun b41=>.ite b41
 (.jump 59 [(.bool (mA n11 3)),.int .u8 n39])
 (.jump 59 [.bool false,.int .u8 n39]))
 (.opt (aE v0) fun a42=>.opt (fB yA 104 1 a42) fun a43=>.light (fun m=>oA yA 100 ⟨0,m⟩ a43) fun a44=>.light (fun m=>bG yA 100 ⟨0,m⟩ a44 (.agg [.int .u8 A0,.int .u8 n16,.int .u8 n19,.int .u8 n22]) true) fun a45=>.opt (sB 0 a45) fun a46=>.asI .u8 a46 fun n47=>.opt (sB 1 a45) fun a48=>.asB a48 fun b49=>.jump 59 [.bool b49,.int .u8 n47]))))
 (.ite (mA A0 5)
 (.opt (jB yA 137 v6 (.int .i64 0)) fun a50=>.light (fun m=>oA yA 5 ⟨0,m⟩ a50) fun a51=>.asI .u8 a51 fun n52=>.jump 59 [(.bool (mA n52 4)),.int .u8 n11])
 (.ite (mA A0 21)
 (.opt (aE v0) fun a53=>.opt (fB yA 104 1 a53) fun a54=>.light (fun m=>oA yA 100 ⟨0,m⟩ a54) fun a55=>.light (fun m=>bG yA 100 ⟨0,m⟩ a55 (.agg [.int .u8 A0,.int .u8 n16,.int .u8 n19,.int .u8 n22]) true) fun a56=>.opt (sB 0 a56) fun a57=>.asI .u8 a57 fun n58=>.opt (sB 1 a56) fun a59=>.asB a59 fun b60=>.ite b60
 (.jump 59 [(.bool (mA n11 2)),.int .u8 n58])
 (.jump 59 [.bool false,.int .u8 n58]))
 (.ite (mA A0 22)
 (.opt (aE v0) fun a61=>.opt (fB yA 104 1 a61) fun a62=>.light (fun m=>oA yA 100 ⟨0,m⟩ a62) fun a63=>.light (fun m=>bG yA 100 ⟨0,m⟩ a63 (.agg [.int .u8 A0,.int .u8 n16,.int .u8 n19,.int .u8 n22]) true) fun a64=>.opt (sB 0 a64) fun a65=>.asI .u8 a65 fun n66=>.opt (sB 1 a64) fun a67=>.asB a67 fun b68=>.ite b68
 (.jump 59 [(.bool (mA n11 3)),.int .u8 n66])
 (.jump 59 [.bool false,.int .u8 n66]))
 (.opt (aE v0) fun a69=>.opt (fB yA 104 1 a69) fun a70=>.light (fun m=>oA yA 100 ⟨0,m⟩ a70) fun a71=>.light (fun m=>bG yA 100 ⟨0,m⟩ a71 (.agg [.int .u8 A0,.int .u8 n16,.int .u8 n19,.int .u8 n22]) true) fun a72=>.opt (sB 0 a72) fun a73=>.asI .u8 a73 fun n74=>.opt (sB 1 a72) fun a75=>.asB a75 fun b76=>.jump 59 [.bool b76,.int .u8 n74])))))) .fail) .fail))
def j44_2(v0 v6 v17:zA)(v18 v19 A0:Int)(A1:List Nat)(A2:Int)(A3:Bool)(A4:zA)(A5:Bool)(A6:zA)(A7:Int)(A8:zA)(h:wp 44 (z6t v0 v6 v17 v18 v19 A0 A1 A2 A3 A4 A5 A6 A7 A8) m Q):jp 44 2 [v0,v6,v17,.int .i64 v18,.int .i64 v19,.int .u8 A0,.str A1,.int .u8 A2,.bool A3,A4,.bool A5,A6,.int .i64 A7,A8] m Q:=uD ok44 h
def z4u(v14:Bool)(v15:Int):T:=
 .ite (!v14)
 (.ret (.tup [.int .u8 0,.int .i64 142]))
 (.ret (.tup [.int .u8 v15,.int .i64 0]))
def j44_59(v14:Bool)(v15:Int)(h:wp 44 (z4u v14 v15) m Q):jp 44 59 [.bool v14,.int .u8 v15] m Q:=uD ok44 h
def t45 (A0:Bool)(A1:zA)(A2:Bool)(A3:zA):T:=
 .call 67 [.agg [.bool A0,A1]] fun a0=>
 .asG zz6z a0 fun X1=>
 .ite (rB zA.one [.bool (X1.b 0),X1.v 1]) (.call 67 [.agg [.bool A2,A3]] fun a2=>
 .asG zz6z a2 fun X3=>
 .ite (rB zA.one [.bool (X3.b 0),X3.v 1]) (.ite (rB zA.one [.bool (X1.b 0),X1.v 1,.bool (X3.b 0),X3.v 1]) (.ret (.agg [.bool (X1.b 0),X1.v 1,.bool (X3.b 0),X3.v 1])) .fail) .fail) .fail
def w45(A0:Bool)(A1:zA)(A2:Bool)(A3:zA)(h:wp 45 (t45 A0 A1 A2 A3) m Q):Wf 45 [.agg [.bool A0,A1,.bool A2,A3]] m Q:=yC ok45 h
def t46 (A0:List Nat)(A1 A2 A3:zA):T:=
 .call 63 [] fun a0=>
 .asG [.nilptr] a0 fun X1=>
 .ite (same 10 (.agg [.str A0,A1,A2,A3]) (.agg [.str A0,A1,A2,A3])) (.call 68 [(.agg [X1.v 0]),.agg [.str A0,A1,A2,A3]] fun a2=>
 .asB a2 fun b3=>.ret (.bool b3)) .fail
def w46(A0:List Nat)(A1 A2 A3:zA)(h:wp 46 (t46 A0 A1 A2 A3) m Q):Wf 46 [.agg [.str A0,A1,A2,A3]] m Q:=yC ok46 h
def t47 (p0 p1:zA):T:=
 .heavy fS fun a0=>
 .opt (oB p0) fun a1=>.asI .i64 a1 fun n2=>.jump 2 [p1,a0,p0,.int .i64 n2,.int .i64 0]
def w47(p0 p1:zA)(h:wp 47 (t47 p0 p1) m Q):Wf 47 [p0,p1] m Q:=yC ok47 h
def t47_2(v1 v5 v9:zA)(v10 v11:Int):T:=
 .ite (iB v11 v10)
 (.opt (jB yA 22 v9 (.int .i64 v11)) fun a0=>.light (fun m=>oA yA 59 ⟨0,m⟩ a0) fun a1=>.asG z0m a1 fun X2=>
 .ite true (.callv v1 [(.agg [.str (X2.s 0),.int .u8 (X2.i 1),.bool (X2.b 2)])] fun a3=>
 .asS a3 fun s4=>.light (fun m=>bG yA 140 ⟨0,m⟩ v5 (.str s4) false) fun a5=>.asB a5 fun b6=>.ite b6
 (.ret (.bool true))
 (.callv v1 [(.agg [.str (X2.s 0),.int .u8 (X2.i 1),.bool (X2.b 2)])] fun a7=>
 .asS a7 fun s8=>.heavy (xI yA 140 v5 (.str s8) (.bool true)) fun _=>
 .jump 2 [v1,v5,v9,.int .i64 v10,(.int .i64 (sA .i64 (v11+1)))])) .fail)
 (.ret (.bool false))
def j47_2(v1 v5 v9:zA)(v10 v11:Int)(h:wp 47 (t47_2 v1 v5 v9 v10 v11) m Q):jp 47 2 [v1,v5,v9,.int .i64 v10,.int .i64 v11] m Q:=uD ok47 h
def t48 (A0:List Nat)(A1:Int)(A2:Bool):T:=
 .ret (.str A0)
def w48(A0:List Nat)(A1:Int)(A2:Bool)(h:wp 48 (t48 A0 A1 A2) m Q):Wf 48 [.agg [.str A0,.int .u8 A1,.bool A2]] m Q:=yC ok48 h
def t49 (p0 p1:zA):T:=
 .heavy fS fun a0=>
 .opt (oB p0) fun a1=>.asI .i64 a1 fun n2=>.jump 2 [p1,a0,p0,.int .i64 n2,.int .i64 0]
def w49(p0 p1:zA)(h:wp 49 (t49 p0 p1) m Q):Wf 49 [p0,p1] m Q:=yC ok49 h
def t49_2(v1 v5 v9:zA)(v10 v11:Int):T:=
 .ite (iB v11 v10)
 (.opt (jB yA 23 v9 (.int .i64 v11)) fun a0=>.light (fun m=>oA yA 81 ⟨0,m⟩ a0) fun a1=>.asG vK a1 fun X2=>
 .ite (rB zA.one [.str (X2.s 0),.bool (X2.b 1),X2.v 2]) (.callv v1 [(.agg [.str (X2.s 0),.bool (X2.b 1),X2.v 2])] fun a3=>
 .asS a3 fun s4=>.light (fun m=>bG yA 140 ⟨0,m⟩ v5 (.str s4) false) fun a5=>.asB a5 fun b6=>.ite b6
 (.ret (.bool true))
 (.callv v1 [(.agg [.str (X2.s 0),.bool (X2.b 1),X2.v 2])] fun a7=>
 .asS a7 fun s8=>.heavy (xI yA 140 v5 (.str s8) (.bool true)) fun _=>
 .jump 2 [v1,v5,v9,.int .i64 v10,(.int .i64 (sA .i64 (v11+1)))])) .fail)
 (.ret (.bool false))
def j49_2(v1 v5 v9:zA)(v10 v11:Int)(h:wp 49 (t49_2 v1 v5 v9 v10 v11) m Q):jp 49 2 [v1,v5,v9,.int .i64 v10,.int .i64 v11] m Q:=uD ok49 h
def t50 (A0:List Nat)(A1:Bool)(A2:zA):T:=
 .ret (.str A0)
def w50(A0:List Nat)(A1:Bool)(A2:zA)(h:wp 50 (t50 A0 A1 A2) m Q):Wf 50 [.agg [.str A0,.bool A1,A2]] m Q:=yC ok50 h
def t51 (A0:List Nat)(A1:Bool)(A2:zA):T:=
 .call 69 [A2] fun a0=>
 .ite (rB zA.one [a0]) (.ite (rB zA.one [.str A0,.bool A1,a0]) (.ret (.agg [.str A0,.bool A1,a0])) .fail) .fail
def w51(A0:List Nat)(A1:Bool)(A2:zA)(h:wp 51 (t51 A0 A1 A2) m Q):Wf 51 [.agg [.str A0,.bool A1,A2]] m Q:=yC ok51 h
def t52 (A0 A1:List Nat)(A2 A3 A4:Int)(A5:Bool)(A6:Int)(A7:List Nat)(A8:Int)(A9:Bool)(B0:zA)(B1:Bool)(B2:zA)(B3:Int)(B4:zA)(B5:Int)(B6:List Nat)(B7:Int)(B8:Bool)(B9:zA)(D0:Bool)(D1:zA)(D2:Int)(D3:zA):T:=
 .call 12 [.agg [.int .u8 A6,.str A7,.int .u8 A8,.bool A9,B0,.bool B1,B2,.int .i64 B3,B4]] fun a0=>
 .asG z4k a0 fun X1=>
 .ite (rB zA.one [.int .u8 (X1.i 0),.str (X1.s 1),.int .u8 (X1.i 2),.bool (X1.b 3),X1.v 4,.bool (X1.b 5),X1.v 6,.int .i64 (X1.i 7),X1.v 8]) (.call 12 [.agg [.int .u8 B5,.str B6,.int .u8 B7,.bool B8,B9,.bool D0,D1,.int .i64 D2,D3]] fun a2=>
 .asG z4k a2 fun X3=>
 .ite (rB zA.one [.int .u8 (X3.i 0),.str (X3.s 1),.int .u8 (X3.i 2),.bool (X3.b 3),X3.v 4,.bool (X3.b 5),X3.v 6,.int .i64 (X3.i 7),X3.v 8]) (.ite (rB zA.one [.str A0,.str A1,.int .i64 A2,.int .i64 A3,.int .i64 A4,.bool A5,.int .u8 (X1.i 0),.str (X1.s 1),.int .u8 (X1.i 2),.bool (X1.b 3),X1.v 4,.bool (X1.b 5),X1.v 6,.int .i64 (X1.i 7),X1.v 8,.int .u8 (X3.i 0),.str (X3.s 1),.int .u8 (X3.i 2),.bool (X3.b 3),X3.v 4,.bool (X3.b 5),X3.v 6,.int .i64 (X3.i 7),X3.v 8]) (.ret (.agg [.str A0,.str A1,.int .i64 A2,.int .i64 A3,.int .i64 A4,.bool A5,.int .u8 (X1.i 0),.str (X1.s 1),.int .u8 (X1.i 2),.bool (X1.b 3),X1.v 4,.bool (X1.b 5),X1.v 6,.int .i64 (X1.i 7),X1.v 8,.int .u8 (X3.i 0),.str (X3.s 1),.int .u8 (X3.i 2),.bool (X3.b 3),X3.v 4,.bool (X3.b 5),X3.v 6,.int .i64 (X3.i 7),X3.v 8])) .fail) .fail) .fail
def w52(A0 A1:List Nat)(A2 A3 A4:Int)(A5:Bool)(A6:Int)(A7:List Nat)(A8:Int)(A9:Bool)(B0:zA)(B1:Bool)(B2:zA)(B3:Int)(B4:zA)(B5:Int)(B6:List Nat)(B7:Int)(B8:Bool)(B9:zA)(D0:Bool)(D1:zA)(D2:Int)(D3:zA)(h:wp 52 (t52 A0 A1 A2 A3 A4 A5 A6 A7 A8 A9 B0 B1 B2 B3 B4 B5 B6 B7 B8 B9 D0 D1 D2 D3) m Q):Wf 52 [.agg [.str A0,.str A1,.int .i64 A2,.int .i64 A3,.int .i64 A4,.bool A5,.int .u8 A6,.str A7,.int .u8 A8,.bool A9,B0,.bool B1,B2,.int .i64 B3,B4,.int .u8 B5,.str B6,.int .u8 B7,.bool B8,B9,.bool D0,D1,.int .i64 D2,D3]] m Q:=yC ok52 h
def t54 (A0:List Nat)(A1 A2 A3:zA)(p1:List Nat):T:=
 .opt (oB A2) fun a0=>.asI .i64 a0 fun n1=>.jump 2 [.str p1,A2,.int .i64 n1,.int .i64 0,.str [],.bool false,.nilslice]
def w54(A0:List Nat)(A1 A2 A3:zA)(p1:List Nat)(h:wp 54 (t54 A0 A1 A2 A3 p1) m Q):Wf 54 [.agg [.str A0,A1,A2,A3],.str p1] m Q:=yC ok54 h
def t54_2(v1:List Nat)(v9:zA)(v10 v11:Int)(A0:List Nat)(A1:Bool)(A2:zA):T:=
 .ite (iB v11 v10)
 (.opt (jB yA 23 v9 (.int .i64 v11)) fun a0=>.light (fun m=>oA yA 81 ⟨0,m⟩ a0) fun a1=>.asG vK a1 fun X2=>
 .ite (rB zA.one [.str (X2.s 0),.bool (X2.b 1),X2.v 2]) (.ite (zF (X2.s 0) v1)
 (.ite (rB zA.one [.str (X2.s 0),.bool (X2.b 1),X2.v 2]) (.ret (.tup [(.agg [.str (X2.s 0),.bool (X2.b 1),X2.v 2]),.bool true])) .fail)
 (.jump 2 [.str v1,v9,.int .i64 v10,(.int .i64 (sA .i64 (v11+1))),.str A0,.bool A1,A2])) .fail)
 (.ite true (.ite true (.ret (.tup [.agg [.str [],.bool false,.nilslice],.bool false])) .fail) .fail)
def z7v(v1:List Nat)(v9:zA)(v10 v11:Int)(A0:List Nat)(A1:Bool)(A2:zA)(h:wp 54 (t54_2 v1 v9 v10 v11 A0 A1 A2) m Q):jp 54 2 [.str v1,v9,.int .i64 v10,.int .i64 v11,.str A0,.bool A1,A2] m Q:=uD ok54 h
def t63  : T:=
 .call 83 [] fun a0=>
 .ite (rB zA.one [a0]) (.ite (rB zA.one [a0]) (.ret (.agg [a0])) .fail) .fail
def w63 (h:wp 63 (t63 ) m Q):Wf 63 [] m Q:=yC ok63 h
def t64 (A0:zA)(A1:Int)(A2:List Nat)(A3:Int)(A4:Bool)(A5:zA)(A6:Bool)(A7:zA)(A8:Int)(A9:zA)(p2:Int):T:=
 .ite (iB 24 p2)
 (.ret (.bool false))
 (.ite (pC 27 (sA .i64 A1))
 (.ret (.bool false))
 (.opt (aE A0) fun a0=>.opt (jB yA 188 a0 (.int .u8 A1)) fun a1=>.opt (aE a1) fun a2=>.opt (fB yA 159 0 a2) fun a3=>.light (fun m=>oA yA 5 ⟨0,m⟩ a3) fun a4=>.asI .u8 a4 fun n5=>.ite (mA n5 0)
 (.ret (.bool false))
 (.opt (oB A9) fun a6=>.asI .i64 a6 fun n7=>.opt (aE a1) fun a8=>.opt (fB yA 159 3 a8) fun a9=>.light (fun m=>oA yA 3 ⟨0,m⟩ a9) fun a10=>.asI .i64 a10 fun n11=>.ite (iB n7 n11)
 (.ret (.bool false))
 (.opt (oB A9) fun xF=>.asI .i64 xF fun n13=>.opt (aE a1) fun a14=>.opt (fB yA 159 4 a14) fun a15=>.light (fun m=>oA yA 3 ⟨0,m⟩ a15) fun a16=>.asI .i64 a16 fun n17=>.ite (iB n17 n13)
 (.ret (.bool false))
 (.opt (aE a1) fun a18=>.opt (fB yA 159 2 a18) fun a19=>.light (fun m=>oA yA 4 ⟨0,m⟩ a19) fun a20=>.asB a20 fun b21=>.ite b21
 (.call 84 [.str A2] fun a22=>
 .asB a22 fun b23=>.ite (!b23)
 (.ret (.bool false))
 (.opt (aE a1) fun a24=>.opt (fB yA 159 2 a24) fun a25=>.light (fun m=>oA yA 4 ⟨0,m⟩ a25) fun a26=>.asB a26 fun b27=>.ite (!b27)
 (.ite (!zF A2 [])
 (.ret (.bool false))
 (.ite (rB zA.one [.int .u8 A3,.bool A4,A5,.bool A6,A7,.int .i64 A8]) (.ite (mA A1 1)
 (.call 85 [.agg [.int .u8 A3,.bool A4,A5,.bool A6,A7,.int .i64 A8]] fun a28=>
 .asB a28 fun b29=>.ret (.bool b29))
 (.ite (mA A1 19)
 (.ite (iB A8 1)
 (.ret (.bool false))
 (.ite (iB 6 A8)
 (.ret (.bool false))
 (.ite true (.jump 33 [.int .i64 p2,A0,.int .u8 A1,.str A2,.int .u8 A3,.bool A4,A5,.bool A6,A7,.int .i64 A8,A9,.int .u8 A3,.bool A4,A5,.bool A6,A7,.int .i64 0]) .fail)))
 (.jump 33 [.int .i64 p2,A0,.int .u8 A1,.str A2,.int .u8 A3,.bool A4,A5,.bool A6,A7,.int .i64 A8,A9,.int .u8 A3,.bool A4,A5,.bool A6,A7,.int .i64 A8]))) .fail))
 (.ite (rB zA.one [.int .u8 A3,.bool A4,A5,.bool A6,A7,.int .i64 A8]) (.ite (mA A1 1)
 (.call 85 [.agg [.int .u8 A3,.bool A4,A5,.bool A6,A7,.int .i64 A8]] fun a30=>
 .asB a30 fun b31=>.ret (.bool b31))
 (.ite (mA A1 19)
 (.ite (iB A8 1)
 (.ret (.bool false))
 (.ite (iB 6 A8)
 (.ret (.bool false))
 (.ite true (.jump 33 [.int .i64 p2,A0,.int .u8 A1,.str A2,.int .u8 A3,.bool A4,A5,.bool A6,A7,.int .i64 A8,A9,.int .u8 A3,.bool A4,A5,.bool A6,A7,.int .i64 0]) .fail)))
 (.jump 33 [.int .i64 p2,A0,.int .u8 A1,.str A2,.int .u8 A3,.bool A4,A5,.bool A6,A7,.int .i64 A8,A9,.int .u8 A3,.bool A4,A5,.bool A6,A7,.int .i64 A8]))) .fail)))
 (.opt (aE a1) fun a32=>.opt (fB yA 159 2 a32) fun a33=>.light (fun m=>oA yA 4 ⟨0,m⟩ a33) fun a34=>.asB a34 fun b35=>.ite (!b35)
 (.ite (!zF A2 [])
 (.ret (.bool false))
 (.ite (rB zA.one [.int .u8 A3,.bool A4,A5,.bool A6,A7,.int .i64 A8]) (.ite (mA A1 1)
 (.call 85 [.agg [.int .u8 A3,.bool A4,A5,.bool A6,A7,.int .i64 A8]] fun a36=>
 .asB a36 fun b37=>.ret (.bool b37))
 (.ite (mA A1 19)
 (.ite (iB A8 1)
 (.ret (.bool false))
 (.ite (iB 6 A8)
 (.ret (.bool false))
 (.ite true (.jump 33 [.int .i64 p2,A0,.int .u8 A1,.str A2,.int .u8 A3,.bool A4,A5,.bool A6,A7,.int .i64 A8,A9,.int .u8 A3,.bool A4,A5,.bool A6,A7,.int .i64 0]) .fail)))
 (.jump 33 [.int .i64 p2,A0,.int .u8 A1,.str A2,.int .u8 A3,.bool A4,A5,.bool A6,A7,.int .i64 A8,A9,.int .u8 A3,.bool A4,A5,.bool A6,A7,.int .i64 A8]))) .fail))
 (.ite (rB zA.one [.int .u8 A3,.bool A4,A5,.bool A6,A7,.int .i64 A8]) (.ite (mA A1 1)
 (.call 85 [.agg [.int .u8 A3,.bool A4,A5,.bool A6,A7,.int .i64 A8]] fun a38=>
 .asB a38 fun b39=>.ret (.bool b39))
 (.ite (mA A1 19)
 (.ite (iB A8 1)
 (.ret (.bool false))
 (.ite (iB 6 A8)
 (.ret (.bool false))
 (.ite true (.jump 33 [.int .i64 p2,A0,.int .u8 A1,.str A2,.int .u8 A3,.bool A4,A5,.bool A6,A7,.int .i64 A8,A9,.int .u8 A3,.bool A4,A5,.bool A6,A7,.int .i64 0]) .fail)))
 (.jump 33 [.int .i64 p2,A0,.int .u8 A1,.str A2,.int .u8 A3,.bool A4,A5,.bool A6,A7,.int .i64 A8,A9,.int .u8 A3,.bool A4,A5,.bool A6,A7,.int .i64 A8]))) .fail)))))))
def w64(A0:zA)(A1:Int)(A2:List Nat)(A3:Int)(A4:Bool)(A5:zA)(A6:Bool)(A7:zA)(A8:Int)(A9:zA)(p2:Int)(h:wp 64 (t64 A0 A1 A2 A3 A4 A5 A6 A7 A8 A9 p2) m Q):Wf 64 [.agg [A0],.agg [.int .u8 A1,.str A2,.int .u8 A3,.bool A4,A5,.bool A6,A7,.int .i64 A8,A9],.int .i64 p2] m Q:=yC ok64 h
def z4t(v2:Int)(A0:zA)(A1:Int)(A2:List Nat)(A3:Int)(A4:Bool)(A5:zA)(A6:Bool)(A7:zA)(A8:Int)(A9:zA)(B0:Int)(B1:Bool)(B2:zA)(B3:Bool)(B4:zA)(B5:Int):T:=
 .call 86 [.agg [.int .u8 B0,.bool B1,B2,.bool B3,B4,.int .i64 B5]] fun a0=>
 .asB a0 fun b1=>.ite (!b1)
 (.ret (.bool false))
 (.opt (oB A9) fun a2=>.asI .i64 a2 fun n3=>.jump 4 [.int .i64 v2,A9,.int .i64 n3,.int .i64 0,A0])
def j64_33(v2:Int)(A0:zA)(A1:Int)(A2:List Nat)(A3:Int)(A4:Bool)(A5:zA)(A6:Bool)(A7:zA)(A8:Int)(A9:zA)(B0:Int)(B1:Bool)(B2:zA)(B3:Bool)(B4:zA)(B5:Int)(h:wp 64 (z4t v2 A0 A1 A2 A3 A4 A5 A6 A7 A8 A9 B0 B1 B2 B3 B4 B5) m Q):jp 64 33 [.int .i64 v2,A0,.int .u8 A1,.str A2,.int .u8 A3,.bool A4,A5,.bool A6,A7,.int .i64 A8,A9,.int .u8 B0,.bool B1,B2,.bool B3,B4,.int .i64 B5] m Q:=uD ok64 h
def z6s(v2:Int)(v95:zA)(v96 v97:Int)(A0:zA):T:=
 .ite (iB v97 v96)
 (.opt (jB yA 34 v95 (.int .i64 v97)) fun a0=>.light (fun m=>oA yA 36 ⟨0,m⟩ a0) fun a1=>.asG z4k a1 fun X2=>
 .ite (rB zA.one [.int .u8 (X2.i 0),.str (X2.s 1),.int .u8 (X2.i 2),.bool (X2.b 3),X2.v 4,.bool (X2.b 5),X2.v 6,.int .i64 (X2.i 7),X2.v 8]) (.call 64 [.agg [A0],(.agg [.int .u8 (X2.i 0),.str (X2.s 1),.int .u8 (X2.i 2),.bool (X2.b 3),X2.v 4,.bool (X2.b 5),X2.v 6,.int .i64 (X2.i 7),X2.v 8]),(.int .i64 (sA .i64 (v2+1)))] fun a3=>
 .asB a3 fun b4=>.ite (!b4)
 (.ret (.bool false))
 (.jump 4 [.int .i64 v2,v95,.int .i64 v96,(.int .i64 (sA .i64 (v97+1))),A0])) .fail)
 (.ret (.bool true))
def j64_4(v2:Int)(v95:zA)(v96 v97:Int)(A0:zA)(h:wp 64 (z6s v2 v95 v96 v97 A0) m Q):jp 64 4 [.int .i64 v2,v95,.int .i64 v96,.int .i64 v97,A0] m Q:=uD ok64 h
def t66 (p0:zA)(A0:Int)(A1:List Nat)(A2:Int)(A3:Bool)(A4:zA)(A5:Bool)(A6:zA)(A7:Int)(A8:zA):T:=
 .ite (mA A0 3)
 (.ite (mA A0 3)
 (.opt (aE p0) fun a0=>.opt (fB yA 104 0 a0) fun a1=>.light (fun m=>oA yA 26 ⟨0,m⟩ a1) fun a2=>.asG uK a2 fun X3=>
 .heavy (aG yA 59) fun a4=>
 .call 19 [(.agg [.str (X3.s 0),X3.v 1,X3.v 2,X3.v 3]),.str A1] fun a5=>
 .opt (sB 0 a5) fun a6=>.asG z0m a6 fun X7=>
 .opt (sB 1 a5) fun a8=>.asB a8 fun b9=>.heavy (qD yA 59 a4 (.agg [.str (X7.s 0),.int .u8 (X7.i 1),.bool (X7.b 2)])) fun _=>
 .ite b9
 (.opt (fB yA 59 2 a4) fun a10=>.light (fun m=>oA yA 4 ⟨0,m⟩ a10) fun a11=>.asB a11 fun b12=>.opt (fB yA 59 1 a4) fun a13=>.light (fun m=>oA yA 5 ⟨0,m⟩ a13) fun a14=>.asI .u8 a14 fun n15=>.ite (bEq b12 (!mA A0 5))
 (.opt (fB yA 59 1 a4) fun a16=>.light (fun m=>oA yA 5 ⟨0,m⟩ a16) fun a17=>.asI .u8 a17 fun n18=>.ite (pC 1 n18)
 (.opt (fB yA 59 1 a4) fun a19=>.light (fun m=>oA yA 5 ⟨0,m⟩ a19) fun a20=>.asI .u8 a20 fun n21=>.ret (.tup [.int .u8 n15,(.bool (pC n21 6))]))
 (.ret (.tup [.int .u8 n15,.bool false])))
 (.ret (.tup [.int .u8 n15,.bool false])))
 (.opt (fB yA 59 1 a4) fun a22=>.light (fun m=>oA yA 5 ⟨0,m⟩ a22) fun a23=>.asI .u8 a23 fun n24=>.ret (.tup [.int .u8 n24,.bool false])))
 (.ite (mA A0 6)
 (.opt (aE p0) fun a25=>.opt (fB yA 104 0 a25) fun a26=>.light (fun m=>oA yA 26 ⟨0,m⟩ a26) fun a27=>.asG uK a27 fun X28=>
 .heavy (aG yA 81) fun a29=>
 .call 54 [(.agg [.str (X28.s 0),X28.v 1,X28.v 2,X28.v 3]),.str A1] fun a30=>
 .opt (sB 0 a30) fun a31=>.asG vK a31 fun X32=>
 .opt (sB 1 a30) fun a33=>.asB a33 fun b34=>.heavy (qD yA 81 a29 (.agg [.str (X32.s 0),.bool (X32.b 1),X32.v 2])) fun _=>
 .ite b34
 (.opt (fB yA 81 1 a29) fun a35=>.light (fun m=>oA yA 4 ⟨0,m⟩ a35) fun a36=>.asB a36 fun b37=>.opt (oB A8) fun a38=>.asI .i64 a38 fun n39=>.ret (.tup [.int .u8 0,(.bool (bEq b37 (mA n39 2)))]))
 (.ret (.tup [.int .u8 0,.bool false])))
 (.ite (mA A0 23)
 (.opt (aE p0) fun a40=>.opt (fB yA 104 0 a40) fun a41=>.light (fun m=>oA yA 26 ⟨0,m⟩ a41) fun a42=>.asG uK a42 fun X43=>
 .heavy (aG yA 81) fun a44=>
 .call 54 [(.agg [.str (X43.s 0),X43.v 1,X43.v 2,X43.v 3]),.str A1] fun a45=>
 .opt (sB 0 a45) fun a46=>.asG vK a46 fun X47=>
 .opt (sB 1 a45) fun a48=>.asB a48 fun b49=>.heavy (qD yA 81 a44 (.agg [.str (X47.s 0),.bool (X47.b 1),X47.v 2])) fun _=>
 .ite b49
 (.opt (fB yA 81 1 a44) fun a50=>.light (fun m=>oA yA 4 ⟨0,m⟩ a50) fun a51=>.asB a51 fun b52=>.ret (.tup [.int .u8 0,(.bool (!b52))]))
 (.ret (.tup [.int .u8 0,.bool false])))
 (.ret (.tup [.int .u8 0,.bool true])))))
 (.ite (mA A0 4)
 (.ite (mA A0 4)
 (.opt (aE p0) fun a53=>.opt (fB yA 104 0 a53) fun a54=>.light (fun m=>oA yA 26 ⟨0,m⟩ a54) fun a55=>.asG uK a55 fun X56=>
 .heavy (aG yA 59) fun a57=>
 .call 19 [(.agg [.str (X56.s 0),X56.v 1,X56.v 2,X56.v 3]),.str A1] fun a58=>
 .opt (sB 0 a58) fun a59=>.asG z0m a59 fun X60=>
 .opt (sB 1 a58) fun a61=>.asB a61 fun b62=>.heavy (qD yA 59 a57 (.agg [.str (X60.s 0),.int .u8 (X60.i 1),.bool (X60.b 2)])) fun _=>
 .ite b62
 (.opt (fB yA 59 2 a57) fun a63=>.light (fun m=>oA yA 4 ⟨0,m⟩ a63) fun a64=>.asB a64 fun b65=>.opt (fB yA 59 1 a57) fun a66=>.light (fun m=>oA yA 5 ⟨0,m⟩ a66) fun a67=>.asI .u8 a67 fun n68=>.ite (bEq b65 (!mA A0 5))
 (.opt (fB yA 59 1 a57) fun a69=>.light (fun m=>oA yA 5 ⟨0,m⟩ a69) fun a70=>.asI .u8 a70 fun n71=>.ite (pC 1 n71)
 (.opt (fB yA 59 1 a57) fun a72=>.light (fun m=>oA yA 5 ⟨0,m⟩ a72) fun a73=>.asI .u8 a73 fun n74=>.ret (.tup [.int .u8 n68,(.bool (pC n74 6))]))
 (.ret (.tup [.int .u8 n68,.bool false])))
 (.ret (.tup [.int .u8 n68,.bool false])))
 (.opt (fB yA 59 1 a57) fun a75=>.light (fun m=>oA yA 5 ⟨0,m⟩ a75) fun a76=>.asI .u8 a76 fun n77=>.ret (.tup [.int .u8 n77,.bool false])))
 (.ite (mA A0 6)
 (.opt (aE p0) fun a78=>.opt (fB yA 104 0 a78) fun a79=>.light (fun m=>oA yA 26 ⟨0,m⟩ a79) fun a80=>.asG uK a80 fun X81=>
 .heavy (aG yA 81) fun a82=>
 .call 54 [(.agg [.str (X81.s 0),X81.v 1,X81.v 2,X81.v 3]),.str A1] fun a83=>
 .opt (sB 0 a83) fun a84=>.asG vK a84 fun X85=>
 .opt (sB 1 a83) fun a86=>.asB a86 fun b87=>.heavy (qD yA 81 a82 (.agg [.str (X85.s 0),.bool (X85.b 1),X85.v 2])) fun _=>
 .ite b87
 (.opt (fB yA 81 1 a82) fun a88=>.light (fun m=>oA yA 4 ⟨0,m⟩ a88) fun a89=>.asB a89 fun b90=>.opt (oB A8) fun a91=>.asI .i64 a91 fun n92=>.ret (.tup [.int .u8 0,(.bool (bEq b90 (mA n92 2)))]))
 (.ret (.tup [.int .u8 0,.bool false])))
 (.ite (mA A0 23)
 (.opt (aE p0) fun a93=>.opt (fB yA 104 0 a93) fun a94=>.light (fun m=>oA yA 26 ⟨0,m⟩ a94) fun a95=>.asG uK a95 fun X96=>
 .heavy (aG yA 81) fun a97=>
 .call 54 [(.agg [.str (X96.s 0),X96.v 1,X96.v 2,X96.v 3]),.str A1] fun a98=>
 .opt (sB 0 a98) fun a99=>.asG vK a99 fun X100=>
 .opt (sB 1 a98) fun a101=>.asB a101 fun b102=>.heavy (qD yA 81 a97 (.agg [.str (X100.s 0),.bool (X100.b 1),X100.v 2])) fun _=>
 .ite b102
 (.opt (fB yA 81 1 a97) fun a103=>.light (fun m=>oA yA 4 ⟨0,m⟩ a103) fun a104=>.asB a104 fun b105=>.ret (.tup [.int .u8 0,(.bool (!b105))]))
 (.ret (.tup [.int .u8 0,.bool false])))
 (.ret (.tup [.int .u8 0,.bool true])))))
 (.ite (mA A0 21)
 (.ite (mA A0 21)
 (.opt (aE p0) fun a106=>.opt (fB yA 104 0 a106) fun a107=>.light (fun m=>oA yA 26 ⟨0,m⟩ a107) fun a108=>.asG uK a108 fun X109=>
 .heavy (aG yA 59) fun z4d=>
 .call 19 [(.agg [.str (X109.s 0),X109.v 1,X109.v 2,X109.v 3]),.str A1] fun a111=>
 .opt (sB 0 a111) fun a112=>.asG z0m a112 fun X113=>
 .opt (sB 1 a111) fun a114=>.asB a114 fun b115=>.heavy (qD yA 59 z4d (.agg [.str (X113.s 0),.int .u8 (X113.i 1),.bool (X113.b 2)])) fun _=>
 .ite b115
 (.opt (fB yA 59 2 z4d) fun a116=>.light (fun m=>oA yA 4 ⟨0,m⟩ a116) fun a117=>.asB a117 fun b118=>.opt (fB yA 59 1 z4d) fun a119=>.light (fun m=>oA yA 5 ⟨0,m⟩ a119) fun a120=>.asI .u8 a120 fun n121=>.ite (bEq b118 (!mA A0 5))
 (.opt (fB yA 59 1 z4d) fun a122=>.light (fun m=>oA yA 5 ⟨0,m⟩ a122) fun a123=>.asI .u8 a123 fun n124=>.ite (pC 1 n124)
 (.opt (fB yA 59 1 z4d) fun a125=>.light (fun m=>oA yA 5 ⟨0,m⟩ a125) fun a126=>.asI .u8 a126 fun n127=>.ret (.tup [.int .u8 n121,(.bool (pC n127 6))]))
 (.ret (.tup [.int .u8 n121,.bool false])))
 (.ret (.tup [.int .u8 n121,.bool false])))
 (.opt (fB yA 59 1 z4d) fun a128=>.light (fun m=>oA yA 5 ⟨0,m⟩ a128) fun a129=>.asI .u8 a129 fun n130=>.ret (.tup [.int .u8 n130,.bool false])))
 (.ite (mA A0 6)
 (.opt (aE p0) fun a131=>.opt (fB yA 104 0 a131) fun a132=>.light (fun m=>oA yA 26 ⟨0,m⟩ a132) fun a133=>.asG uK a133 fun X134=>
 .heavy (aG yA 81) fun a135=>
 .call 54 [(.agg [.str (X134.s 0),X134.v 1,X134.v 2,X134.v 3]),.str A1] fun a136=>
 .opt (sB 0 a136) fun a137=>.asG vK a137 fun X138=>
 .opt (sB 1 a136) fun a139=>.asB a139 fun b140=>.heavy (qD yA 81 a135 (.agg [.str (X138.s 0),.bool (X138.b 1),X138.v 2])) fun _=>
 .ite b140
 (.opt (fB yA 81 1 a135) fun a141=>.light (fun m=>oA yA 4 ⟨0,m⟩ a141) fun a142=>.asB a142 fun b143=>.opt (oB A8) fun a144=>.asI .i64 a144 fun n145=>.ret (.tup [.int .u8 0,(.bool (bEq b143 (mA n145 2)))]))
 (.ret (.tup [.int .u8 0,.bool false])))
 (.ite (mA A0 23)
 (.opt (aE p0) fun a146=>.opt (fB yA 104 0 a146) fun a147=>.light (fun m=>oA yA 26 ⟨0,m⟩ a147) fun a148=>.asG uK a148 fun X149=>
 .heavy (aG yA 81) fun a150=>
 .call 54 [(.agg [.str (X149.s 0),X149.v 1,X149.v 2,X149.v 3]),.str A1] fun a151=>
 .opt (sB 0 a151) fun a152=>.asG vK a152 fun X153=>
 .opt (sB 1 a151) fun a154=>.asB a154 fun b155=>.heavy (qD yA 81 a150 (.agg [.str (X153.s 0),.bool (X153.b 1),X153.v 2])) fun _=>
 .ite b155
 (.opt (fB yA 81 1 a150) fun a156=>.light (fun m=>oA yA 4 ⟨0,m⟩ a156) fun a157=>.asB a157 fun b158=>.ret (.tup [.int .u8 0,(.bool (!b158))]))
 (.ret (.tup [.int .u8 0,.bool false])))
 (.ret (.tup [.int .u8 0,.bool true])))))
 (.ite (mA A0 22)
 (.ite (mA A0 22)
 (.opt (aE p0) fun a159=>.opt (fB yA 104 0 a159) fun a160=>.light (fun m=>oA yA 26 ⟨0,m⟩ a160) fun a161=>.asG uK a161 fun X162=>
 .heavy (aG yA 59) fun a163=>
 .call 19 [(.agg [.str (X162.s 0),X162.v 1,X162.v 2,X162.v 3]),.str A1] fun a164=>
 .opt (sB 0 a164) fun a165=>.asG z0m a165 fun X166=>
 .opt (sB 1 a164) fun a167=>.asB a167 fun b168=>.heavy (qD yA 59 a163 (.agg [.str (X166.s 0),.int .u8 (X166.i 1),.bool (X166.b 2)])) fun _=>
 .ite b168
 (.opt (fB yA 59 2 a163) fun a169=>.light (fun m=>oA yA 4 ⟨0,m⟩ a169) fun a170=>.asB a170 fun b171=>.opt (fB yA 59 1 a163) fun a172=>.light (fun m=>oA yA 5 ⟨0,m⟩ a172) fun a173=>.asI .u8 a173 fun n174=>.ite (bEq b171 (!mA A0 5))
 (.opt (fB yA 59 1 a163) fun a175=>.light (fun m=>oA yA 5 ⟨0,m⟩ a175) fun a176=>.asI .u8 a176 fun n177=>.ite (pC 1 n177)
 (.opt (fB yA 59 1 a163) fun a178=>.light (fun m=>oA yA 5 ⟨0,m⟩ a178) fun a179=>.asI .u8 a179 fun n180=>.ret (.tup [.int .u8 n174,(.bool (pC n180 6))]))
 (.ret (.tup [.int .u8 n174,.bool false])))
 (.ret (.tup [.int .u8 n174,.bool false])))
 (.opt (fB yA 59 1 a163) fun a181=>.light (fun m=>oA yA 5 ⟨0,m⟩ a181) fun a182=>.asI .u8 a182 fun n183=>.ret (.tup [.int .u8 n183,.bool false])))
 (.ite (mA A0 6)
 (.opt (aE p0) fun a184=>.opt (fB yA 104 0 a184) fun a185=>.light (fun m=>oA yA 26 ⟨0,m⟩ a185) fun a186=>.asG uK a186 fun X187=>
 .heavy (aG yA 81) fun a188=>
 .call 54 [(.agg [.str (X187.s 0),X187.v 1,X187.v 2,X187.v 3]),.str A1] fun a189=>
 .opt (sB 0 a189) fun a190=>.asG vK a190 fun X191=>
 .opt (sB 1 a189) fun a192=>.asB a192 fun b193=>.heavy (qD yA 81 a188 (.agg [.str (X191.s 0),.bool (X191.b 1),X191.v 2])) fun _=>
 .ite b193
 (.opt (fB yA 81 1 a188) fun a194=>.light (fun m=>oA yA 4 ⟨0,m⟩ a194) fun a195=>.asB a195 fun b196=>.opt (oB A8) fun a197=>.asI .i64 a197 fun n198=>.ret (.tup [.int .u8 0,(.bool (bEq b196 (mA n198 2)))]))
 (.ret (.tup [.int .u8 0,.bool false])))
 (.ite (mA A0 23)
 (.opt (aE p0) fun a199=>.opt (fB yA 104 0 a199) fun a200=>.light (fun m=>oA yA 26 ⟨0,m⟩ a200) fun a201=>.asG uK a201 fun X202=>
 .heavy (aG yA 81) fun a203=>
 .call 54 [(.agg [.str (X202.s 0),X202.v 1,X202.v 2,X202.v 3]),.str A1] fun a204=>
 .opt (sB 0 a204) fun a205=>.asG vK a205 fun X206=>
 .opt (sB 1 a204) fun a207=>.asB a207 fun b208=>.heavy (qD yA 81 a203 (.agg [.str (X206.s 0),.bool (X206.b 1),X206.v 2])) fun _=>
 .ite b208
 (.opt (fB yA 81 1 a203) fun a209=>.light (fun m=>oA yA 4 ⟨0,m⟩ a209) fun a210=>.asB a210 fun b211=>.ret (.tup [.int .u8 0,(.bool (!b211))]))
 (.ret (.tup [.int .u8 0,.bool false])))
 (.ret (.tup [.int .u8 0,.bool true])))))
 (.ite (mA A0 5)
 (.opt (aE p0) fun a212=>.opt (fB yA 104 0 a212) fun a213=>.light (fun m=>oA yA 26 ⟨0,m⟩ a213) fun a214=>.asG uK a214 fun X215=>
 .heavy (aG yA 59) fun a216=>
 .call 19 [(.agg [.str (X215.s 0),X215.v 1,X215.v 2,X215.v 3]),.str A1] fun a217=>
 .opt (sB 0 a217) fun a218=>.asG z0m a218 fun X219=>
 .opt (sB 1 a217) fun a220=>.asB a220 fun b221=>.heavy (qD yA 59 a216 (.agg [.str (X219.s 0),.int .u8 (X219.i 1),.bool (X219.b 2)])) fun _=>
 .ite b221
 (.opt (fB yA 59 2 a216) fun a222=>.light (fun m=>oA yA 4 ⟨0,m⟩ a222) fun a223=>.asB a223 fun b224=>.opt (fB yA 59 1 a216) fun a225=>.light (fun m=>oA yA 5 ⟨0,m⟩ a225) fun a226=>.asI .u8 a226 fun n227=>.ite (bEq b224 (!mA A0 5))
 (.opt (fB yA 59 1 a216) fun a228=>.light (fun m=>oA yA 5 ⟨0,m⟩ a228) fun a229=>.asI .u8 a229 fun n230=>.ite (pC 1 n230)
 (.opt (fB yA 59 1 a216) fun a231=>.light (fun m=>oA yA 5 ⟨0,m⟩ a231) fun a232=>.asI .u8 a232 fun n233=>.ret (.tup [.int .u8 n227,(.bool (pC n233 6))]))
 (.ret (.tup [.int .u8 n227,.bool false])))
 (.ret (.tup [.int .u8 n227,.bool false])))
 (.opt (fB yA 59 1 a216) fun a234=>.light (fun m=>oA yA 5 ⟨0,m⟩ a234) fun a235=>.asI .u8 a235 fun n236=>.ret (.tup [.int .u8 n236,.bool false])))
 (.ite (mA A0 6)
 (.opt (aE p0) fun a237=>.opt (fB yA 104 0 a237) fun a238=>.light (fun m=>oA yA 26 ⟨0,m⟩ a238) fun a239=>.asG uK a239 fun X240=>
 .heavy (aG yA 81) fun a241=>
 .call 54 [(.agg [.str (X240.s 0),X240.v 1,X240.v 2,X240.v 3]),.str A1] fun a242=>
 .opt (sB 0 a242) fun a243=>.asG vK a243 fun X244=>
 .opt (sB 1 a242) fun a245=>.asB a245 fun b246=>.heavy (qD yA 81 a241 (.agg [.str (X244.s 0),.bool (X244.b 1),X244.v 2])) fun _=>
 .ite b246
 (.opt (fB yA 81 1 a241) fun a247=>.light (fun m=>oA yA 4 ⟨0,m⟩ a247) fun a248=>.asB a248 fun b249=>.opt (oB A8) fun a250=>.asI .i64 a250 fun n251=>.ret (.tup [.int .u8 0,(.bool (bEq b249 (mA n251 2)))]))
 (.ret (.tup [.int .u8 0,.bool false])))
 (.ite (mA A0 23)
 (.opt (aE p0) fun a252=>.opt (fB yA 104 0 a252) fun a253=>.light (fun m=>oA yA 26 ⟨0,m⟩ a253) fun a254=>.asG uK a254 fun X255=>
 .heavy (aG yA 81) fun a256=>
 .call 54 [(.agg [.str (X255.s 0),X255.v 1,X255.v 2,X255.v 3]),.str A1] fun a257=>
 .opt (sB 0 a257) fun a258=>.asG vK a258 fun X259=>
 .opt (sB 1 a257) fun a260=>.asB a260 fun b261=>.heavy (qD yA 81 a256 (.agg [.str (X259.s 0),.bool (X259.b 1),X259.v 2])) fun _=>
 .ite b261
 (.opt (fB yA 81 1 a256) fun a262=>.light (fun m=>oA yA 4 ⟨0,m⟩ a262) fun a263=>.asB a263 fun b264=>.ret (.tup [.int .u8 0,(.bool (!b264))]))
 (.ret (.tup [.int .u8 0,.bool false])))
 (.ret (.tup [.int .u8 0,.bool true]))))))))
def w66(p0:zA)(A0:Int)(A1:List Nat)(A2:Int)(A3:Bool)(A4:zA)(A5:Bool)(A6:zA)(A7:Int)(A8:zA)(h:wp 66 (t66 p0 A0 A1 A2 A3 A4 A5 A6 A7 A8) m Q):Wf 66 [p0,.agg [.int .u8 A0,.str A1,.int .u8 A2,.bool A3,A4,.bool A5,A6,.int .i64 A7,A8]] m Q:=yC ok66 h
def t67 (A0:Bool)(A1:zA):T:=
 .call 89 [A1] fun a0=>
 .ite (rB zA.one [a0]) (.ite (rB zA.one [.bool A0,a0]) (.ret (.agg [.bool A0,a0])) .fail) .fail
def w67(A0:Bool)(A1:zA)(h:wp 67 (t67 A0 A1) m Q):Wf 67 [.agg [.bool A0,A1]] m Q:=yC ok67 h
def t68 (A0:zA)(A1:List Nat)(A2 A3 A4:zA):T:=
 .call 84 [.str A1] fun a0=>
 .asB a0 fun b1=>.ite b1
 (.call 91 [A2,(.func (.func 90) [] [])] fun a2=>
 .asB a2 fun b3=>.ite b3
 (.call 92 [A3,(.func (.func 93) [] [])] fun a4=>
 .asB a4 fun b5=>.ite b5
 (.call 94 [A4,(.func (.func 95) [.agg [A0]] [])] fun a6=>
 .asB a6 fun b7=>.ret (.bool b7))
 (.ret (.bool false)))
 (.ret (.bool false)))
 (.ret (.bool false))
def w68(A0:zA)(A1:List Nat)(A2 A3 A4:zA)(h:wp 68 (t68 A0 A1 A2 A3 A4) m Q):Wf 68 [.agg [A0],.agg [.str A1,A2,A3,A4]] m Q:=yC ok68 h
def t69 (p0:zA):T:=
 .jump 2 [p0,.nilslice,.int .i64 0]
def w69(p0:zA)(h:wp 69 (t69 p0) m Q):Wf 69 [p0] m Q:=yC ok69 h
def t69_2(v0 v3:zA)(v4:Int):T:=
 .opt (oB v0) fun a0=>.asI .i64 a0 fun n1=>.ite (iB v4 n1)
 (.opt (jB yA 79 v0 (.int .i64 v4)) fun a2=>.light (fun m=>oA yA 84 ⟨0,m⟩ a2) fun a3=>.asG zz8z a3 fun X4=>
 .call 96 [(.agg [.int .i64 (X4.i 0),.int .i64 (X4.i 1),.int .i64 (X4.i 2),.bool (X4.b 3),X4.v 4,.bool (X4.b 5),X4.v 6])] fun a5=>
 .asG zz8z a5 fun X6=>
 .ite (rB zA.one [.int .i64 (X6.i 0),.int .i64 (X6.i 1),.int .i64 (X6.i 2),.bool (X6.b 3),X6.v 4,.bool (X6.b 5),X6.v 6]) (.heavy (sH yA 79 1 [(0,(.agg [.int .i64 (X6.i 0),.int .i64 (X6.i 1),.int .i64 (X6.i 2),.bool (X6.b 3),X6.v 4,.bool (X6.b 5),X6.v 6]))]) fun a7=>
 .heavy (gE yA 79 79 v3 a7) fun a8=>
 .jump 2 [v0,a8,(.int .i64 (sA .i64 (v4+1)))]) .fail)
 (.ret v3)
def j69_2(v0 v3:zA)(v4:Int)(h:wp 69 (t69_2 v0 v3 v4) m Q):jp 69 2 [v0,v3,.int .i64 v4] m Q:=uD ok69 h
def t83  : T:=
 .ite true (.ite true (.callv (.func (.func 109) [] []) [.str [102,97,99,116,32]] fun a0=>
 .asG pI a0 fun X1=>
 .callv (.func (.func 109) [] []) [.str [104,97,115,32]] fun a2=>
 .asG pI a2 fun X3=>
 .callv (.func (.func 109) [] []) [.str []] fun a4=>
 .asG pI a4 fun X5=>
 .callv (.func (.func 108) [] []) [.str [108,111,111,107],.bool true,.int .i64 1,.int .i64 2] fun a6=>
 .asG pI a6 fun X7=>
 .callv (.func (.func 110) [] []) [.str [43],.int .i64 5,.int .i64 5,.int .i64 6] fun a8=>
 .asG pI a8 fun X9=>
 .callv (.func (.func 110) [] []) [.str [45],.int .i64 5,.int .i64 5,.int .i64 6] fun a10=>
 .asG pI a10 fun X11=>
 .callv (.func (.func 110) [] []) [.str [42],.int .i64 6,.int .i64 6,.int .i64 7] fun xF=>
 .asG pI xF fun X13=>
 .callv (.func (.func 110) [] []) [.str [47],.int .i64 6,.int .i64 6,.int .i64 7] fun a14=>
 .asG pI a14 fun X15=>
 .callv (.func (.func 108) [] []) [.str [109,105,110],.bool false,.int .i64 2,.int .i64 2] fun a16=>
 .asG pI a16 fun X17=>
 .callv (.func (.func 108) [] []) [.str [109,97,120],.bool false,.int .i64 2,.int .i64 2] fun a18=>
 .asG pI a18 fun X19=>
 .callv (.func (.func 110) [] []) [.str [60],.int .i64 4,.int .i64 5,.int .i64 5] fun a20=>
 .asG pI a20 fun X21=>
 .callv (.func (.func 110) [] []) [.str [61],.int .i64 4,.int .i64 5,.int .i64 5] fun a22=>
 .asG pI a22 fun X23=>
 .callv (.func (.func 110) [] []) [.str [97,110,100],.int .i64 2,.int .i64 2,.int .i64 3] fun a24=>
 .asG pI a24 fun X25=>
 .callv (.func (.func 110) [] []) [.str [111,114],.int .i64 1,.int .i64 1,.int .i64 2] fun a26=>
 .asG pI a26 fun X27=>
 .ite true (.callv (.func (.func 108) [] []) [.str [105,102],.bool false,.int .i64 3,.int .i64 3] fun a28=>
 .asG pI a28 fun X29=>
 .callv (.func (.func 108) [] []) [.str [114,111,117,110,100],.bool false,.int .i64 2,.int .i64 2] fun a30=>
 .asG pI a30 fun X31=>
 .callv (.func (.func 108) [] []) [.str [98,101,116,119,101,101,110],.bool false,.int .i64 2,.int .i64 2] fun a32=>
 .asG pI a32 fun X33=>
 .callv (.func (.func 108) [] []) [.str [115,101,114,118,105,99,101],.bool true,.int .i64 2,.int .i64 2] fun a34=>
 .asG pI a34 fun X35=>
 .callv (.func (.func 108) [] []) [.str [98,101,115,116],.bool true,.int .i64 3,.int .i64 3] fun a36=>
 .asG pI a36 fun X37=>
 .callv (.func (.func 108) [] []) [.str [103,114,111,119],.bool true,.int .i64 2,.int .i64 2] fun a38=>
 .asG pI a38 fun X39=>
 .callv (.func (.func 108) [] []) [.str [109,111,110,116,104,115],.bool false,.int .i64 1,.int .i64 1] fun a40=>
 .asG pI a40 fun X41=>
 .callv (.func (.func 108) [] []) [.str [110,117,109,98,101,114],.bool false,.int .i64 1,.int .i64 1] fun a42=>
 .asG pI a42 fun X43=>
 .callv (.func (.func 108) [] []) [.str [115,116,97,114,116],.bool false,.int .i64 1,.int .i64 1] fun a44=>
 .asG pI a44 fun X45=>
 .ite true (.heavy (zrn (.agg [.int .u8 0,.str [],.bool false,.int .i64 0,.int .i64 0,.int .i64 0,.int .i64 0,.int .i64 0,.int .u8 1,.str [],.bool false,.int .i64 0,.int .i64 0,.int .i64 7,.int .i64 0,.int .i64 0,.int .u8 2,.str [116,111,100,97,121],.bool false,.int .i64 0,.int .i64 0,.int .i64 7,.int .i64 0,.int .i64 0,.int .u8 (X1.i 0),.str (X1.s 1),.bool (X1.b 2),.int .i64 (X1.i 3),.int .i64 (X1.i 4),.int .i64 (X1.i 5),.int .i64 (X1.i 6),.int .i64 (X1.i 7),.int .u8 (X3.i 0),.str (X3.s 1),.bool (X3.b 2),.int .i64 (X3.i 3),.int .i64 (X3.i 4),.int .i64 (X3.i 5),.int .i64 (X3.i 6),.int .i64 (X3.i 7),.int .u8 (X5.i 0),.str (X5.s 1),.bool (X5.b 2),.int .i64 (X5.i 3),.int .i64 (X5.i 4),.int .i64 (X5.i 5),.int .i64 (X5.i 6),.int .i64 (X5.i 7),.int .u8 (X7.i 0),.str (X7.s 1),.bool (X7.b 2),.int .i64 (X7.i 3),.int .i64 (X7.i 4),.int .i64 (X7.i 5),.int .i64 (X7.i 6),.int .i64 (X7.i 7),.int .u8 (X9.i 0),.str (X9.s 1),.bool (X9.b 2),.int .i64 (X9.i 3),.int .i64 (X9.i 4),.int .i64 (X9.i 5),.int .i64 (X9.i 6),.int .i64 (X9.i 7),.int .u8 (X11.i 0),.str (X11.s 1),.bool (X11.b 2),.int .i64 (X11.i 3),.int .i64 (X11.i 4),.int .i64 (X11.i 5),.int .i64 (X11.i 6),.int .i64 (X11.i 7),.int .u8 (X13.i 0),.str (X13.s 1),.bool (X13.b 2),.int .i64 (X13.i 3),.int .i64 (X13.i 4),.int .i64 (X13.i 5),.int .i64 (X13.i 6),.int .i64 (X13.i 7),.int .u8 (X15.i 0),.str (X15.s 1),.bool (X15.b 2),.int .i64 (X15.i 3),.int .i64 (X15.i 4),.int .i64 (X15.i 5),.int .i64 (X15.i 6),.int .i64 (X15.i 7),.int .u8 (X17.i 0),.str (X17.s 1),.bool (X17.b 2),.int .i64 (X17.i 3),.int .i64 (X17.i 4),.int .i64 (X17.i 5),.int .i64 (X17.i 6),.int .i64 (X17.i 7),.int .u8 (X19.i 0),.str (X19.s 1),.bool (X19.b 2),.int .i64 (X19.i 3),.int .i64 (X19.i 4),.int .i64 (X19.i 5),.int .i64 (X19.i 6),.int .i64 (X19.i 7),.int .u8 (X21.i 0),.str (X21.s 1),.bool (X21.b 2),.int .i64 (X21.i 3),.int .i64 (X21.i 4),.int .i64 (X21.i 5),.int .i64 (X21.i 6),.int .i64 (X21.i 7),.int .u8 (X23.i 0),.str (X23.s 1),.bool (X23.b 2),.int .i64 (X23.i 3),.int .i64 (X23.i 4),.int .i64 (X23.i 5),.int .i64 (X23.i 6),.int .i64 (X23.i 7),.int .u8 (X25.i 0),.str (X25.s 1),.bool (X25.b 2),.int .i64 (X25.i 3),.int .i64 (X25.i 4),.int .i64 (X25.i 5),.int .i64 (X25.i 6),.int .i64 (X25.i 7),.int .u8 (X27.i 0),.str (X27.s 1),.bool (X27.b 2),.int .i64 (X27.i 3),.int .i64 (X27.i 4),.int .i64 (X27.i 5),.int .i64 (X27.i 6),.int .i64 (X27.i 7),.int .u8 5,.str [110,111,116,32],.bool false,.int .i64 1,.int .i64 1,.int .i64 3,.int .i64 3,.int .i64 3,.int .u8 (X29.i 0),.str (X29.s 1),.bool (X29.b 2),.int .i64 (X29.i 3),.int .i64 (X29.i 4),.int .i64 (X29.i 5),.int .i64 (X29.i 6),.int .i64 (X29.i 7),.int .u8 (X31.i 0),.str (X31.s 1),.bool (X31.b 2),.int .i64 (X31.i 3),.int .i64 (X31.i 4),.int .i64 (X31.i 5),.int .i64 (X31.i 6),.int .i64 (X31.i 7),.int .u8 (X33.i 0),.str (X33.s 1),.bool (X33.b 2),.int .i64 (X33.i 3),.int .i64 (X33.i 4),.int .i64 (X33.i 5),.int .i64 (X33.i 6),.int .i64 (X33.i 7),.int .u8 (X35.i 0),.str (X35.s 1),.bool (X35.b 2),.int .i64 (X35.i 3),.int .i64 (X35.i 4),.int .i64 (X35.i 5),.int .i64 (X35.i 6),.int .i64 (X35.i 7),.int .u8 (X37.i 0),.str (X37.s 1),.bool (X37.b 2),.int .i64 (X37.i 3),.int .i64 (X37.i 4),.int .i64 (X37.i 5),.int .i64 (X37.i 6),.int .i64 (X37.i 7),.int .u8 (X39.i 0),.str (X39.s 1),.bool (X39.b 2),.int .i64 (X39.i 3),.int .i64 (X39.i 4),.int .i64 (X39.i 5),.int .i64 (X39.i 6),.int .i64 (X39.i 7),.int .u8 (X41.i 0),.str (X41.s 1),.bool (X41.b 2),.int .i64 (X41.i 3),.int .i64 (X41.i 4),.int .i64 (X41.i 5),.int .i64 (X41.i 6),.int .i64 (X41.i 7),.int .u8 (X43.i 0),.str (X43.s 1),.bool (X43.b 2),.int .i64 (X43.i 3),.int .i64 (X43.i 4),.int .i64 (X43.i 5),.int .i64 (X43.i 6),.int .i64 (X43.i 7),.int .u8 (X45.i 0),.str (X45.s 1),.bool (X45.b 2),.int .i64 (X45.i 3),.int .i64 (X45.i 4),.int .i64 (X45.i 5),.int .i64 (X45.i 6),.int .i64 (X45.i 7)])) fun a46=>
 .ret a46) .fail) .fail) .fail) .fail
def w83 (h:wp 83 (t83 ) m Q):Wf 83 [] m Q:=yC ok83 h
def t84 (p0:List Nat):T:=
 .ite (zF p0 [])
 (.ret (.bool false))
 (.ite (iB 24 (Int.ofNat (zB p0)))
 (.ret (.bool false))
 (.opt (yJ yA 9 (.str p0) (.int .i64 0)) fun a0=>.asI .u8 a0 fun n1=>.call 111 [.int .u8 n1] fun a2=>
 .asB a2 fun b3=>.ite (!b3)
 (.ret (.bool false))
 (.call 112 [.str p0,(.func (.func 113) [] [])] fun a4=>
 .asS a4 fun s5=>.ite (zF s5 p0)
 (.call 114 [.str p0] fun a6=>
 .asB a6 fun b7=>.ret (.bool (!b7)))
 (.ret (.bool false)))))
def w84(p0:List Nat)(h:wp 84 (t84 p0) m Q):Wf 84 [.str p0] m Q:=yC ok84 h
def t85 (A0:Int)(A1:Bool)(A2:zA)(A3:Bool)(A4:zA)(A5:Int):T:=
 .ite (mA A0 2)
 (.ite (mA A0 2)
 (.ite (mA A5 0)
 (.call 115 [.agg [.bool A1,A2,.bool A3,A4]] fun a0=>
 .asB a0 fun b1=>.ret (.bool b1))
 (.ret (.bool false)))
 (.ite (mA A0 1)
 (.call 116 [.agg [.bool A1,A2,.bool A3,A4]] fun a2=>
 .asB a2 fun b3=>.ite b3
 (.ite (mA A5 0)
 (.ret (.bool true))
 (.ret (.bool (mA A5 1))))
 (.ret (.bool false)))
 (.ite (mA A0 4)
 (.call 116 [.agg [.bool A1,A2,.bool A3,A4]] fun a4=>
 .asB a4 fun b5=>.ite b5
 (.call 117 [.int .i64 A5] fun a6=>
 .asB a6 fun b7=>.ret (.bool b7))
 (.ret (.bool false)))
 (.ite (mA A0 5)
 (.ite (mA A0 5)
 (.call 116 [.agg [.bool A1,A2,.bool A3,A4]] fun a8=>
 .asB a8 fun b9=>.ite b9
 (.ite (pC (-1048576) A5)
 (.ret (.bool (pC A5 1048576)))
 (.ret (.bool false)))
 (.ret (.bool false)))
 (.ret (.bool false)))
 (.ite (mA A0 6)
 (.call 116 [.agg [.bool A1,A2,.bool A3,A4]] fun a10=>
 .asB a10 fun b11=>.ite b11
 (.ite (pC (-1048576) A5)
 (.ret (.bool (pC A5 1048576)))
 (.ret (.bool false)))
 (.ret (.bool false)))
 (.ret (.bool false)))))))
 (.ite (mA A0 3)
 (.ite (mA A5 0)
 (.call 115 [.agg [.bool A1,A2,.bool A3,A4]] fun xF=>
 .asB xF fun b13=>.ret (.bool b13))
 (.ret (.bool false)))
 (.ite (mA A0 1)
 (.call 116 [.agg [.bool A1,A2,.bool A3,A4]] fun a14=>
 .asB a14 fun b15=>.ite b15
 (.ite (mA A5 0)
 (.ret (.bool true))
 (.ret (.bool (mA A5 1))))
 (.ret (.bool false)))
 (.ite (mA A0 4)
 (.call 116 [.agg [.bool A1,A2,.bool A3,A4]] fun a16=>
 .asB a16 fun b17=>.ite b17
 (.call 117 [.int .i64 A5] fun a18=>
 .asB a18 fun b19=>.ret (.bool b19))
 (.ret (.bool false)))
 (.ite (mA A0 5)
 (.ite (mA A0 5)
 (.call 116 [.agg [.bool A1,A2,.bool A3,A4]] fun a20=>
 .asB a20 fun b21=>.ite b21
 (.ite (pC (-1048576) A5)
 (.ret (.bool (pC A5 1048576)))
 (.ret (.bool false)))
 (.ret (.bool false)))
 (.ret (.bool false)))
 (.ite (mA A0 6)
 (.call 116 [.agg [.bool A1,A2,.bool A3,A4]] fun a22=>
 .asB a22 fun b23=>.ite b23
 (.ite (pC (-1048576) A5)
 (.ret (.bool (pC A5 1048576)))
 (.ret (.bool false)))
 (.ret (.bool false)))
 (.ret (.bool false)))))))
def w85(A0:Int)(A1:Bool)(A2:zA)(A3:Bool)(A4:zA)(A5:Int)(h:wp 85 (t85 A0 A1 A2 A3 A4 A5) m Q):Wf 85 [.agg [.int .u8 A0,.bool A1,A2,.bool A3,A4,.int .i64 A5]] m Q:=yC ok85 h
def t86 (A0:Int)(A1:Bool)(A2:zA)(A3:Bool)(A4:zA)(A5:Int):T:=
 .ite (mA A0 0)
 (.ite (mA A5 0)
 (.call 116 [.agg [.bool A1,A2,.bool A3,A4]] fun a0=>
 .asB a0 fun b1=>.ret (.bool b1))
 (.ret (.bool false)))
 (.ret (.bool false))
def w86(A0:Int)(A1:Bool)(A2:zA)(A3:Bool)(A4:zA)(A5:Int)(h:wp 86 (t86 A0 A1 A2 A3 A4 A5) m Q):Wf 86 [.agg [.int .u8 A0,.bool A1,A2,.bool A3,A4,.int .i64 A5]] m Q:=yC ok86 h
def t89 (p0:zA):T:=
 .heavy (gE yA 27 27 .nilslice p0) fun a0=>
 .ret a0
def w89(p0:zA)(h:wp 89 (t89 p0) m Q):Wf 89 [p0] m Q:=yC ok89 h
def t90 (A0:List Nat)(A1:Int)(A2:Bool):T:=
 .call 84 [.str A0] fun a0=>
 .asB a0 fun b1=>.ite b1
 (.ite (pC 1 A1)
 (.ret (.bool (pC A1 6)))
 (.ret (.bool false)))
 (.ret (.bool false))
def w90(A0:List Nat)(A1:Int)(A2:Bool)(h:wp 90 (t90 A0 A1 A2) m Q):Wf 90 [.agg [.str A0,.int .u8 A1,.bool A2]] m Q:=yC ok90 h
def t91 (p0 p1:zA):T:=
 .opt (oB p0) fun a0=>.asI .i64 a0 fun n1=>.jump 2 [p1,p0,.int .i64 n1,.int .i64 0]
def w91(p0 p1:zA)(h:wp 91 (t91 p0 p1) m Q):Wf 91 [p0,p1] m Q:=yC ok91 h
def t91_2(v1 v7:zA)(v8 v9:Int):T:=
 .ite (iB v9 v8)
 (.opt (jB yA 22 v7 (.int .i64 v9)) fun a0=>.light (fun m=>oA yA 59 ⟨0,m⟩ a0) fun a1=>.asG z0m a1 fun X2=>
 .ite true (.callv v1 [(.agg [.str (X2.s 0),.int .u8 (X2.i 1),.bool (X2.b 2)])] fun a3=>
 .asB a3 fun b4=>.ite (!b4)
 (.ret (.bool false))
 (.jump 2 [v1,v7,.int .i64 v8,(.int .i64 (sA .i64 (v9+1)))])) .fail)
 (.ret (.bool true))
def j91_2(v1 v7:zA)(v8 v9:Int)(h:wp 91 (t91_2 v1 v7 v8 v9) m Q):jp 91 2 [v1,v7,.int .i64 v8,.int .i64 v9] m Q:=uD ok91 h
def t92 (p0 p1:zA):T:=
 .opt (oB p0) fun a0=>.asI .i64 a0 fun n1=>.jump 2 [p1,p0,.int .i64 n1,.int .i64 0]
def w92(p0 p1:zA)(h:wp 92 (t92 p0 p1) m Q):Wf 92 [p0,p1] m Q:=yC ok92 h
def t92_2(v1 v7:zA)(v8 v9:Int):T:=
 .ite (iB v9 v8)
 (.opt (jB yA 23 v7 (.int .i64 v9)) fun a0=>.light (fun m=>oA yA 81 ⟨0,m⟩ a0) fun a1=>.asG vK a1 fun X2=>
 .ite (rB zA.one [.str (X2.s 0),.bool (X2.b 1),X2.v 2]) (.callv v1 [(.agg [.str (X2.s 0),.bool (X2.b 1),X2.v 2])] fun a3=>
 .asB a3 fun b4=>.ite (!b4)
 (.ret (.bool false))
 (.jump 2 [v1,v7,.int .i64 v8,(.int .i64 (sA .i64 (v9+1)))])) .fail)
 (.ret (.bool true))
def j92_2(v1 v7:zA)(v8 v9:Int)(h:wp 92 (t92_2 v1 v7 v8 v9) m Q):jp 92 2 [v1,v7,.int .i64 v8,.int .i64 v9] m Q:=uD ok92 h
def t93 (A0:List Nat)(A1:Bool)(A2:zA):T:=
 .heavy (zrn (.agg [.str A0,.bool A1,A2])) fun a0=>
 .heavy (aG yA 191) fun a1=>
 .heavy (qD yA 191 a1 (.func (.func 123) [] [])) fun _=>
 .opt (fB yA 81 0 a0) fun a2=>.light (fun m=>oA yA 9 ⟨0,m⟩ a2) fun a3=>.asS a3 fun s4=>.call 84 [.str s4] fun a5=>
 .asB a5 fun b6=>.ite b6
 (.opt (fB yA 81 2 a0) fun a7=>.light (fun m=>oA yA 79 ⟨0,m⟩ a7) fun a8=>.call 125 [a8,(.func (.func 124) [] [a1,a0])] fun a9=>
 .asB a9 fun b10=>.ret (.bool b10))
 (.ret (.bool false))
def w93(A0:List Nat)(A1:Bool)(A2:zA)(h:wp 93 (t93 A0 A1 A2) m Q):Wf 93 [.agg [.str A0,.bool A1,A2]] m Q:=yC ok93 h
def t94 (p0 p1:zA):T:=
 .opt (oB p0) fun a0=>.asI .i64 a0 fun n1=>.jump 2 [p1,p0,.int .i64 n1,.int .i64 0]
def w94(p0 p1:zA)(h:wp 94 (t94 p0 p1) m Q):Wf 94 [p0,p1] m Q:=yC ok94 h
def t94_2(v1 v7:zA)(v8 v9:Int):T:=
 .ite (iB v9 v8)
 (.opt (jB yA 24 v7 (.int .i64 v9)) fun a0=>.light (fun m=>oA yA 56 ⟨0,m⟩ a0) fun a1=>.asG zz5z a1 fun X2=>
 .ite (rB zA.one [.str (X2.s 0),.str (X2.s 1),.int .i64 (X2.i 2),.int .i64 (X2.i 3),.int .i64 (X2.i 4),.bool (X2.b 5),.int .u8 (X2.i 6),.str (X2.s 7),.int .u8 (X2.i 8),.bool (X2.b 9),X2.v 10,.bool (X2.b 11),X2.v 12,.int .i64 (X2.i 13),X2.v 14,.int .u8 (X2.i 15),.str (X2.s 16),.int .u8 (X2.i 17),.bool (X2.b 18),X2.v 19,.bool (X2.b 20),X2.v 21,.int .i64 (X2.i 22),X2.v 23]) (.callv v1 [(.agg [.str (X2.s 0),.str (X2.s 1),.int .i64 (X2.i 2),.int .i64 (X2.i 3),.int .i64 (X2.i 4),.bool (X2.b 5),.int .u8 (X2.i 6),.str (X2.s 7),.int .u8 (X2.i 8),.bool (X2.b 9),X2.v 10,.bool (X2.b 11),X2.v 12,.int .i64 (X2.i 13),X2.v 14,.int .u8 (X2.i 15),.str (X2.s 16),.int .u8 (X2.i 17),.bool (X2.b 18),X2.v 19,.bool (X2.b 20),X2.v 21,.int .i64 (X2.i 22),X2.v 23])] fun a3=>
 .asB a3 fun b4=>.ite (!b4)
 (.ret (.bool false))
 (.jump 2 [v1,v7,.int .i64 v8,(.int .i64 (sA .i64 (v9+1)))])) .fail)
 (.ret (.bool true))
def j94_2(v1 v7:zA)(v8 v9:Int)(h:wp 94 (t94_2 v1 v7 v8 v9) m Q):jp 94 2 [v1,v7,.int .i64 v8,.int .i64 v9] m Q:=uD ok94 h
def t95 (A0:zA)(A1 A2:List Nat)(A3 A4 A5:Int)(A6:Bool)(A7:Int)(A8:List Nat)(A9:Int)(B0:Bool)(B1:zA)(B2:Bool)(B3:zA)(B4:Int)(B5:zA)(B6:Int)(B7:List Nat)(B8:Int)(B9:Bool)(D0:zA)(D1:Bool)(D2:zA)(D3:Int)(D4:zA):T:=
 .call 84 [.str A1] fun a0=>
 .asB a0 fun b1=>.ite (!b1)
 (.ret (.bool false))
 (.call 84 [.str A2] fun a2=>
 .asB a2 fun b3=>.ite (!b3)
 (.ret (.bool false))
 (.call 117 [.int .i64 A3] fun a4=>
 .asB a4 fun b5=>.ite (!b5)
 (.ret (.bool false))
 (.call 117 [.int .i64 A5] fun a6=>
 .asB a6 fun b7=>.ite (!b7)
 (.ret (.bool false))
 (.call 117 [.int .i64 A4] fun a8=>
 .asB a8 fun b9=>.ite (!b9)
 (.ite (!mA A4 65536)
 (.ret (.bool false))
 (.ite A6
 (.call 126 [.agg [.int .u8 A7,.str A8,.int .u8 A9,.bool B0,B1,.bool B2,B3,.int .i64 B4,B5]] fun a10=>
 .asB a10 fun b11=>.ite b11
 (.call 126 [.agg [.int .u8 B6,.str B7,.int .u8 B8,.bool B9,D0,.bool D1,D2,.int .i64 D3,D4]] fun xF=>
 .asB xF fun b13=>.ret (.bool b13))
 (.ret (.bool false)))
 (.call 64 [.agg [A0],.agg [.int .u8 A7,.str A8,.int .u8 A9,.bool B0,B1,.bool B2,B3,.int .i64 B4,B5],.int .i64 1] fun a14=>
 .asB a14 fun b15=>.ite b15
 (.call 64 [.agg [A0],.agg [.int .u8 B6,.str B7,.int .u8 B8,.bool B9,D0,.bool D1,D2,.int .i64 D3,D4],.int .i64 1] fun a16=>
 .asB a16 fun b17=>.ret (.bool b17))
 (.ret (.bool false)))))
 (.ite A6
 (.call 126 [.agg [.int .u8 A7,.str A8,.int .u8 A9,.bool B0,B1,.bool B2,B3,.int .i64 B4,B5]] fun a18=>
 .asB a18 fun b19=>.ite b19
 (.call 126 [.agg [.int .u8 B6,.str B7,.int .u8 B8,.bool B9,D0,.bool D1,D2,.int .i64 D3,D4]] fun a20=>
 .asB a20 fun b21=>.ret (.bool b21))
 (.ret (.bool false)))
 (.call 64 [.agg [A0],.agg [.int .u8 A7,.str A8,.int .u8 A9,.bool B0,B1,.bool B2,B3,.int .i64 B4,B5],.int .i64 1] fun a22=>
 .asB a22 fun b23=>.ite b23
 (.call 64 [.agg [A0],.agg [.int .u8 B6,.str B7,.int .u8 B8,.bool B9,D0,.bool D1,D2,.int .i64 D3,D4],.int .i64 1] fun a24=>
 .asB a24 fun b25=>.ret (.bool b25))
 (.ret (.bool false))))))))
def w95(A0:zA)(A1 A2:List Nat)(A3 A4 A5:Int)(A6:Bool)(A7:Int)(A8:List Nat)(A9:Int)(B0:Bool)(B1:zA)(B2:Bool)(B3:zA)(B4:Int)(B5:zA)(B6:Int)(B7:List Nat)(B8:Int)(B9:Bool)(D0:zA)(D1:Bool)(D2:zA)(D3:Int)(D4:zA)(h:wp 95 (t95 A0 A1 A2 A3 A4 A5 A6 A7 A8 A9 B0 B1 B2 B3 B4 B5 B6 B7 B8 B9 D0 D1 D2 D3 D4) m Q):Wf 95 [.agg [A0],.agg [.str A1,.str A2,.int .i64 A3,.int .i64 A4,.int .i64 A5,.bool A6,.int .u8 A7,.str A8,.int .u8 A9,.bool B0,B1,.bool B2,B3,.int .i64 B4,B5,.int .u8 B6,.str B7,.int .u8 B8,.bool B9,D0,.bool D1,D2,.int .i64 D3,D4]] m Q:=yC ok95 h
def t96 (A0 A1 A2:Int)(A3:Bool)(A4:zA)(A5:Bool)(A6:zA):T:=
 .call 45 [.agg [.bool A3,A4,.bool A5,A6]] fun a0=>
 .asG zz7z a0 fun X1=>
 .ite (rB zA.one [.bool (X1.b 0),X1.v 1,.bool (X1.b 2),X1.v 3]) (.ite (rB zA.one [.int .i64 A0,.int .i64 A1,.int .i64 A2,.bool (X1.b 0),X1.v 1,.bool (X1.b 2),X1.v 3]) (.ret (.agg [.int .i64 A0,.int .i64 A1,.int .i64 A2,.bool (X1.b 0),X1.v 1,.bool (X1.b 2),X1.v 3])) .fail) .fail
def w96(A0 A1 A2:Int)(A3:Bool)(A4:zA)(A5:Bool)(A6:zA)(h:wp 96 (t96 A0 A1 A2 A3 A4 A5 A6) m Q):Wf 96 [.agg [.int .i64 A0,.int .i64 A1,.int .i64 A2,.bool A3,A4,.bool A5,A6]] m Q:=yC ok96 h
def t108 (p0:List Nat)(p1:Bool)(p2 p3:Int):T:=
 .ite true (.ite true (.ret (.agg [.int .u8 6,.str p0,.bool p1,.int .i64 p2,.int .i64 p3,.int .i64 7,.int .i64 1,.int .i64 1])) .fail) .fail
def w108(p0:List Nat)(p1:Bool)(p2 p3:Int)(h:wp 108 (t108 p0 p1 p2 p3) m Q):Wf 108 [.str p0,.bool p1,.int .i64 p2,.int .i64 p3] m Q:=yC ok108 h
def t109 (p0:List Nat):T:=
 .ite true (.ite true (.ret (.agg [.int .u8 3,.str p0,.bool true,.int .i64 1,.int .i64 1,.int .i64 7,.int .i64 7,.int .i64 7])) .fail) .fail
def w109(p0:List Nat)(h:wp 109 (t109 p0) m Q):Wf 109 [.str p0] m Q:=yC ok109 h
def t110 (p0:List Nat)(p1 p2 p3:Int):T:=
 .ite true (.ite true (.ret (.agg [.int .u8 4,.str p0,.bool false,.int .i64 2,.int .i64 2,.int .i64 p1,.int .i64 p2,.int .i64 p3])) .fail) .fail
def w110(p0:List Nat)(p1 p2 p3:Int)(h:wp 110 (t110 p0 p1 p2 p3) m Q):Wf 110 [.str p0,.int .i64 p1,.int .i64 p2,.int .i64 p3] m Q:=yC ok110 h
def t111 (p0:Int):T:=
 .ite (pC 65 p0)
 (.ite (pC p0 90)
 (.ret (.bool true))
 (.ite (pC 97 p0)
 (.ret (.bool (pC p0 122)))
 (.ret (.bool false))))
 (.ite (pC 97 p0)
 (.ret (.bool (pC p0 122)))
 (.ret (.bool false)))
def w111(p0:Int)(h:wp 111 (t111 p0) m Q):Wf 111 [.int .u8 p0] m Q:=yC ok111 h
def t112 (p0:List Nat)(p1:zA):T:=
 .jump 2 [.str p0,p1,.int .i64 0]
def w112(p0:List Nat)(p1:zA)(h:wp 112 (t112 p0 p1) m Q):Wf 112 [.str p0,p1] m Q:=yC ok112 h
def zvt(v0:List Nat)(v1:zA)(v5:Int):T:=
 .ite (iB v5 (Int.ofNat (zB v0)))
 (.opt (yJ yA 9 (.str v0) (.int .i64 v5)) fun a0=>.asI .u8 a0 fun n1=>.callv v1 [.int .u8 n1] fun a2=>
 .asB a2 fun b3=>.ite b3
 (.jump 2 [.str v0,v1,(.int .i64 (sA .i64 (v5+1)))])
 (.opt (qF yA 9 H0A (.str v0) none (some (.int .i64 v5))) fun a4=>.asS a4 fun s5=>.ret (.str s5)))
 (.opt (qF yA 9 H0A (.str v0) none (some (.int .i64 v5))) fun a6=>.asS a6 fun s7=>.ret (.str s7))
def z5u(v0:List Nat)(v1:zA)(v5:Int)(h:wp 112 (zvt v0 v1 v5) m Q):jp 112 2 [.str v0,v1,.int .i64 v5] m Q:=uD ok112 h
def t113 (p0:Int):T:=
 .call 111 [.int .u8 p0] fun a0=>
 .asB a0 fun b1=>.ite b1
 (.ret (.bool true))
 (.call 139 [.int .u8 p0] fun a2=>
 .asB a2 fun b3=>.ite b3
 (.ret (.bool true))
 (.ret (.bool (mA p0 95))))
def w113(p0:Int)(h:wp 113 (t113 p0) m Q):Wf 113 [.int .u8 p0] m Q:=yC ok113 h
def t114 (p0:List Nat):T:=
 .ite (iB (Int.ofNat (zB p0)) 2)
 (.ret (.bool false))
 (.ite (iB 7 (Int.ofNat (zB p0)))
 (.ret (.bool false))
 (.call 112 [.str p0,(.func (.func 111) [] [])] fun a0=>
 .asS a0 fun s1=>.ite (!zF s1 p0)
 (.ret (.bool false))
 (.heavy fS fun a2=>
 .heavy (xI yA 213 a2 (.int .i64 2) (.str [32,116,111,32,105,115,32,97,116,32,105,102,32,111,114,32,117,112,32])) fun _=>
 .heavy (xI yA 213 a2 (.int .i64 3) (.str [32,100,101,102,32,114,111,119,32,111,110,101,32,116,119,111,32,101,110,100,32,111,102,102,32,104,97,115,32,109,105,110,32,109,97,120,32,97,110,100,32,110,111,116,32])) fun _=>
 .heavy (xI yA 213 a2 (.int .i64 4) (.str [32,112,108,97,110,32,102,97,99,116,32,102,114,111,109,32,119,104,101,110,32,116,104,101,110,32,100,97,116,101,32,100,97,121,115,32,116,114,117,101,32,108,111,111,107,32,98,101,115,116,32,103,114,111,119,32,100,111,119,110,32,99,101,105,108,32,104,97,108,102,32,101,118,101,110,32])) fun _=>
 .heavy (xI yA 213 a2 (.int .i64 5) (.str [32,116,97,98,108,101,32,107,110,111,119,110,32,116,114,117,116,104,32,109,111,110,101,121,32,102,97,108,115,101,32,109,105,110,117,115,32,116,111,100,97,121,32,114,111,117,110,100,32,115,116,97,114,116,32,102,108,111,111,114,32])) fun _=>
 .heavy (xI yA 213 a2 (.int .i64 6) (.str [32,99,108,97,117,115,101,32,110,117,109,98,101,114,32,109,111,110,116,104,115,32])) fun _=>
 .heavy (xI yA 213 a2 (.int .i64 7) (.str [32,98,101,116,119,101,101,110,32,115,101,114,118,105,99,101,32])) fun _=>
 .light (fun m=>bG yA 213 ⟨0,m⟩ a2 (.int .i64 (Int.ofNat (zB p0))) false) fun a3=>.asS a3 fun s4=>.opt (z42 [32] p0) fun a5=>.asS a5 fun s6=>.opt (z42 s6 [32]) fun a7=>.asS a7 fun s8=>.call 140 [.str s4,.str s8] fun a9=>
 .asB a9 fun b10=>.ret (.bool b10))))
def w114(p0:List Nat)(h:wp 114 (t114 p0) m Q):Wf 114 [.str p0] m Q:=yC ok114 h
def t115 (A0:Bool)(A1:zA)(A2:Bool)(A3:zA):T:=
 .opt (oB A1) fun a0=>.asI .i64 a0 fun n1=>.ite (iB 42 n1)
 (.ret (.bool false))
 (.opt (oB A3) fun a2=>.asI .i64 a2 fun n3=>.ite (iB 42 n3)
 (.ret (.bool false))
 (.call 141 [.agg [.bool A0,A1,.bool A2,A3]] fun a4=>
 .asB a4 fun b5=>.ite (!b5)
 (.ret (.bool false))
 (.call 142 [.agg [.bool A0,A1,.bool A2,A3]] fun a6=>
 .opt (sB 0 a6) fun a7=>.asS a7 fun s8=>.opt (sB 1 a6) fun a9=>.asI .i64 a9 fun n10=>.ite (mA n10 0)
 (.call 143 [.str s8,.str [45]] fun a11=>
 .asS a11 fun s12=>.ret (.bool (pC (Int.ofNat (zB s12)) 200)))
 (.ret (.bool false)))))
def w115(A0:Bool)(A1:zA)(A2:Bool)(A3:zA)(h:wp 115 (t115 A0 A1 A2 A3) m Q):Wf 115 [.agg [.bool A0,A1,.bool A2,A3]] m Q:=yC ok115 h
def t116 (A0:Bool)(A1:zA)(A2:Bool)(A3:zA):T:=
 .ite (!A0)
 (.ite (!A2)
 (.opt (oB A1) fun a0=>.asI .i64 a0 fun n1=>.opt (oB A3) fun a2=>.asI .i64 a2 fun n3=>.ret (.bool (mA (sA .i64 (n1+n3)) 0)))
 (.ret (.bool false)))
 (.ret (.bool false))
def w116(A0:Bool)(A1:zA)(A2:Bool)(A3:zA)(h:wp 116 (t116 A0 A1 A2 A3) m Q):Wf 116 [.agg [.bool A0,A1,.bool A2,A3]] m Q:=yC ok116 h
def t117 (p0:Int):T:=
 .ite (pC 0 p0)
 (.ret (.bool (iB p0 65536)))
 (.ret (.bool false))
def w117(p0:Int)(h:wp 117 (t117 p0) m Q):Wf 117 [.int .i64 p0] m Q:=yC ok117 h
def t123 (p0:Int):T:=
 .ite (pC (-2147483648) p0)
 (.ret (.bool (iB p0 2147483648)))
 (.ret (.bool false))
def w123(p0:Int)(h:wp 123 (t123 p0) m Q):Wf 123 [.int .i64 p0] m Q:=yC ok123 h
def t124 (A0 A1 A2:Int)(A3:Bool)(A4:zA)(A5:Bool)(A6 w0 w1:zA):T:=
 .light (fun m=>oA yA 191 ⟨0,m⟩ w0) fun a0=>.callv a0 [.int .i64 A0] fun a1=>
 .asB a1 fun b2=>.ite b2
 (.light (fun m=>oA yA 191 ⟨0,m⟩ w0) fun a3=>.callv a3 [.int .i64 A1] fun a4=>
 .asB a4 fun b5=>.ite b5
 (.opt (fB yA 81 1 w1) fun a6=>.light (fun m=>oA yA 4 ⟨0,m⟩ a6) fun a7=>.asB a7 fun b8=>.ite b8
 (.call 117 [.int .i64 A2] fun a9=>
 .asB a9 fun b10=>.ite b10
 (.call 115 [.agg [.bool A3,A4,.bool A5,A6]] fun a11=>
 .asB a11 fun b12=>.ret (.bool b12))
 (.ret (.bool false)))
 (.ite (mA A1 0)
 (.call 117 [.int .i64 A2] fun a13=>
 .asB a13 fun b14=>.ite b14
 (.call 115 [.agg [.bool A3,A4,.bool A5,A6]] fun a15=>
 .asB a15 fun b16=>.ret (.bool b16))
 (.ret (.bool false)))
 (.ret (.bool false))))
 (.ret (.bool false)))
 (.ret (.bool false))
def w124(A0 A1 A2:Int)(A3:Bool)(A4:zA)(A5:Bool)(A6 w0 w1:zA)(h:wp 124 (t124 A0 A1 A2 A3 A4 A5 A6 w0 w1) m Q):Wf 124 [.agg [.int .i64 A0,.int .i64 A1,.int .i64 A2,.bool A3,A4,.bool A5,A6],w0,w1] m Q:=yC ok124 h
def t125 (p0 p1:zA):T:=
 .opt (oB p0) fun a0=>.asI .i64 a0 fun n1=>.jump 2 [p1,p0,.int .i64 n1,.int .i64 0]
def w125(p0 p1:zA)(h:wp 125 (t125 p0 p1) m Q):Wf 125 [p0,p1] m Q:=yC ok125 h
def t125_2(v1 v7:zA)(v8 v9:Int):T:=
 .ite (iB v9 v8)
 (.opt (jB yA 79 v7 (.int .i64 v9)) fun a0=>.light (fun m=>oA yA 84 ⟨0,m⟩ a0) fun a1=>.asG zz8z a1 fun X2=>
 .ite (rB zA.one [.int .i64 (X2.i 0),.int .i64 (X2.i 1),.int .i64 (X2.i 2),.bool (X2.b 3),X2.v 4,.bool (X2.b 5),X2.v 6]) (.callv v1 [(.agg [.int .i64 (X2.i 0),.int .i64 (X2.i 1),.int .i64 (X2.i 2),.bool (X2.b 3),X2.v 4,.bool (X2.b 5),X2.v 6])] fun a3=>
 .asB a3 fun b4=>.ite (!b4)
 (.ret (.bool false))
 (.jump 2 [v1,v7,.int .i64 v8,(.int .i64 (sA .i64 (v9+1)))])) .fail)
 (.ret (.bool true))
def j125_2(v1 v7:zA)(v8 v9:Int)(h:wp 125 (t125_2 v1 v7 v8 v9) m Q):jp 125 2 [v1,v7,.int .i64 v8,.int .i64 v9] m Q:=uD ok125 h
def t126 (A0:Int)(A1:List Nat)(A2:Int)(A3:Bool)(A4:zA)(A5:Bool)(A6:zA)(A7:Int)(A8:zA):T:=
 .ite (mA A0 0)
 (.ite (zF A1 [])
 (.opt (oB A8) fun a0=>.asI .i64 a0 fun n1=>.ite (mA n1 0)
 (.call 86 [.agg [.int .u8 A2,.bool A3,A4,.bool A5,A6,.int .i64 A7]] fun a2=>
 .asB a2 fun b3=>.ret (.bool b3))
 (.ret (.bool false)))
 (.ret (.bool false)))
 (.ret (.bool false))
def w126(A0:Int)(A1:List Nat)(A2:Int)(A3:Bool)(A4:zA)(A5:Bool)(A6:zA)(A7:Int)(A8:zA)(h:wp 126 (t126 A0 A1 A2 A3 A4 A5 A6 A7 A8) m Q):Wf 126 [.agg [.int .u8 A0,.str A1,.int .u8 A2,.bool A3,A4,.bool A5,A6,.int .i64 A7,A8]] m Q:=yC ok126 h
def t139 (p0:Int):T:=
 .ite (pC 48 p0)
 (.ret (.bool (pC p0 57)))
 (.ret (.bool false))
def w139(p0:Int)(h:wp 139 (t139 p0) m Q):Wf 139 [.int .u8 p0] m Q:=yC ok139 h
def t141 (A0:Bool)(A1:zA)(A2:Bool)(A3:zA):T:=
 .ite true (.call 166 [.agg [.bool A0,A1,.bool A2,A3]] fun a0=>
 .asB a0 fun b1=>.ret (.bool b1)) .fail
def w141(A0:Bool)(A1:zA)(A2:Bool)(A3:zA)(h:wp 141 (t141 A0 A1 A2 A3) m Q):Wf 141 [.agg [.bool A0,A1,.bool A2,A3]] m Q:=yC ok141 h
def t142 (A0:Bool)(A1:zA)(A2:Bool)(A3:zA):T:=
 .call 141 [.agg [.bool A0,A1,.bool A2,A3]] fun a0=>
 .asB a0 fun b1=>.ite (!b1)
 (.ret (.tup [.str [],.int .i64 2]))
 (.call 167 [.agg [.bool A0,A1]] fun a2=>
 .opt (sB 0 a2) fun a3=>.asS a3 fun s4=>.opt (sB 1 a2) fun a5=>.asI .i64 a5 fun n6=>.ite true (.call 168 [.agg [.bool A0,A1,.bool A2,A3]] fun a7=>
 .asB a7 fun b8=>.ite (!b8)
 (.call 167 [.agg [.bool A2,A3]] fun a9=>
 .opt (sB 0 a9) fun a10=>.asS a10 fun s11=>.opt (sB 1 a9) fun xF=>.asI .i64 xF fun n13=>.opt (z42 [47] s11) fun a14=>.asS a14 fun s15=>.opt (z42 s4 s15) fun a16=>.asS a16 fun s17=>.ret (.tup [.str s17,.int .i64 0]))
 (.ret (.tup [.str s4,.int .i64 0]))) .fail)
def w142(A0:Bool)(A1:zA)(A2:Bool)(A3:zA)(h:wp 142 (t142 A0 A1 A2 A3) m Q):Wf 142 [.agg [.bool A0,A1,.bool A2,A3]] m Q:=yC ok142 h
def t143 (p0 p1:List Nat):T:=
 .call 169 [.str p0,.str p1] fun a0=>
 .asS a0 fun s1=>.ret (.str s1)
def w143(p0 p1:List Nat)(h:wp 143 (t143 p0 p1) m Q):Wf 143 [.str p0,.str p1] m Q:=yC ok143 h
def t166 (A0:Bool)(A1:zA)(A2:Bool)(A3:zA):T:=
 .call 186 [.agg [.bool A0,A1,.bool A2,A3]] fun a0=>
 .asB a0 fun b1=>.ite b1
 (.ret (.bool false))
 (.call 187 [.agg [.bool A0,A1]] fun a2=>
 .asB a2 fun b3=>.ite (!b3)
 (.ret (.bool false))
 (.call 187 [.agg [.bool A2,A3]] fun a4=>
 .asB a4 fun b5=>.ite (!b5)
 (.ret (.bool false))
 (.ite A2
 (.ret (.bool false))
 (.opt (oB A3) fun a6=>.asI .i64 a6 fun n7=>.ite (mA n7 0)
 (.ret (.bool false))
 (.call 168 [.agg [.bool A0,A1,.bool A2,A3]] fun a8=>
 .asB a8 fun b9=>.ite b9
 (.ret (.bool true))
 (.call 189 [.agg [.bool A0,A1],.agg [.bool A2,A3]] fun a10=>
 .asG zz6z a10 fun X11=>
 .call 188 [(.agg [.bool (X11.b 0),X11.v 1])] fun xF=>
 .asB xF fun b13=>.ret (.bool b13)))))))
def w166(A0:Bool)(A1:zA)(A2:Bool)(A3:zA)(h:wp 166 (t166 A0 A1 A2 A3) m Q):Wf 166 [.agg [.bool A0,A1,.bool A2,A3]] m Q:=yC ok166 h
def t167 (A0:Bool)(A1:zA):T:=
 .call 187 [.agg [.bool A0,A1]] fun a0=>
 .asB a0 fun b1=>.ite (!b1)
 (.ret (.tup [.str [],.int .i64 2]))
 (.opt (oB A1) fun a2=>.asI .i64 a2 fun n3=>.ite (mA n3 0)
 (.ret (.tup [.str [48],.int .i64 0]))
 (.call 190 [A1] fun a4=>
 .jump 2 [.str [],.int .i64 0,.nilslice,a4,.bool A0,A1]))
def w167(A0:Bool)(A1:zA)(h:wp 167 (t167 A0 A1) m Q):Wf 167 [.agg [.bool A0,A1]] m Q:=yC zw1 h
def zvq(v2:List Nat)(v3:Int)(v4 v5:zA)(A0:Bool)(A1:zA):T:=
 .opt (oB v5) fun a0=>.asI .i64 a0 fun n1=>.ite (iB 0 n1)
 (.call 191 [v5,.int .u32 1000000000] fun a2=>
 .opt (sB 0 a2) fun a3=>.opt (sB 1 a2) fun a4=>.asI .u32 a4 fun n5=>.heavy (sH yA 244 1 [(0,(.int .u32 n5))]) fun a6=>
 .heavy (gE yA 244 244 v4 a6) fun a7=>
 .jump 2 [.str v2,.int .i64 v3,a7,a3,.bool A0,A1])
 (.heavy (aG yA 38) fun a8=>
 .ite A0
 (.light (fun m=>oA yA 38 ⟨0,m⟩ a8) fun a9=>.heavy (sH yA 38 1 [(0,(.int .u8 45))]) fun a10=>
 .heavy (gE yA 38 38 a9 a10) fun a11=>
 .heavy (qD yA 38 a8 a11) fun _=>
 .jump 29 [.str v2,.int .i64 v3,v4,a8])
 (.jump 29 [.str v2,.int .i64 v3,v4,a8]))
def z5r(v2:List Nat)(v3:Int)(v4 v5:zA)(A0:Bool)(A1:zA)(h:wp 167 (zvq v2 v3 v4 v5 A0 A1) m Q):jp 167 2 [.str v2,.int .i64 v3,v4,v5,.bool A0,A1] m Q:=uD zw1 h
def zvp(v2:List Nat)(v3:Int)(v4 v8:zA):T:=
 .call 192 [v4] fun a0=>
 .range (npC yA) a0 6 1 [v8]
 (.light (fun m=>oA yA 38 ⟨0,m⟩ v8) fun a1=>.light (fun m=>rN yA 38 9 ⟨0,m⟩ a1) fun a2=>.asS a2 fun s3=>.ret (.tup [.str s3,.int .i64 0]))
 (.ret (.tup [.str v2,.int .i64 v3]))
def z75(v2:List Nat)(v3:Int)(v4 v8:zA)(h:wp 167 (zvp v2 v3 v4 v8) m Q):jp 167 29 [.str v2,.int .i64 v3,v4,v8] m Q:=uD zw1 h
def z40(v8:zA)(v41:Int):T:=
 .call 193 [(.int .u64 (sA .u64 v41)),.int .i64 10] fun a0=>
 .asS a0 fun s1=>.light (fun m=>oA yA 38 ⟨0,m⟩ v8) fun a2=>.opt (oB a2) fun a3=>.asI .i64 a3 fun n4=>.ite (iB 1 n4)
 (.jump 10 [v8,.str s1,(.int .i64 (sA .i64 (9-(Int.ofNat (zB s1))))),.int .i64 0])
 (.light (fun m=>oA yA 38 ⟨0,m⟩ v8) fun a5=>.opt (oB a5) fun a6=>.asI .i64 a6 fun n7=>.ite (mA n7 1)
 (.light (fun m=>oA yA 38 ⟨0,m⟩ v8) fun a8=>.opt (jB yA 38 a8 (.int .i64 0)) fun a9=>.light (fun m=>oA yA 5 ⟨0,m⟩ a9) fun a10=>.asI .u8 a10 fun n11=>.ite (!mA n11 45)
 (.jump 10 [v8,.str s1,(.int .i64 (sA .i64 (9-(Int.ofNat (zB s1))))),.int .i64 0])
 (.light (fun m=>oA yA 38 ⟨0,m⟩ v8) fun xF=>.heavy (gE yA 38 9 xF (.str s1)) fun a13=>
 .heavy (qD yA 38 v8 a13) fun _=>
 .ret (.bool true)))
 (.light (fun m=>oA yA 38 ⟨0,m⟩ v8) fun a14=>.heavy (gE yA 38 9 a14 (.str s1)) fun a15=>
 .heavy (qD yA 38 v8 a15) fun _=>
 .ret (.bool true)))
def j167_6(v8:zA)(v41:Int)(h:wp 167 (z40 v8 v41) m Q):jp 167 6 [v8,.int .u32 v41] m Q:=uD zw1 h
def zmo(v8:zA)(v10:List Nat)(v61 v62:Int):T:=
 .ite (iB v62 v61)
 (.light (fun m=>oA yA 38 ⟨0,m⟩ v8) fun a0=>.heavy (sH yA 38 1 [(0,(.int .u8 48))]) fun a1=>
 .heavy (gE yA 38 38 a0 a1) fun a2=>
 .heavy (qD yA 38 v8 a2) fun _=>
 .jump 10 [v8,.str v10,.int .i64 v61,(.int .i64 (sA .i64 (v62+1)))])
 (.light (fun m=>oA yA 38 ⟨0,m⟩ v8) fun a3=>.heavy (gE yA 38 9 a3 (.str v10)) fun a4=>
 .heavy (qD yA 38 v8 a4) fun _=>
 .ret (.bool true))
def zx8(v8:zA)(v10:List Nat)(v61 v62:Int)(h:wp 167 (zmo v8 v10 v61 v62) m Q):jp 167 10 [v8,.str v10,.int .i64 v61,.int .i64 v62] m Q:=uD zw1 h
def t168 (A0:Bool)(A1:zA)(A2:Bool)(A3:zA):T:=
 .call 188 [.agg [.bool A2,A3]] fun a0=>
 .asB a0 fun b1=>.ret (.bool b1)
def w168(A0:Bool)(A1:zA)(A2:Bool)(A3:zA)(h:wp 168 (t168 A0 A1 A2 A3) m Q):Wf 168 [.agg [.bool A0,A1,.bool A2,A3]] m Q:=yC ok168 h
def t169 (p0 p1:List Nat):T:=
 .call 194 [.str p0,.str p1] fun a0=>
 .asB a0 fun b1=>.ite b1
 (.opt (qF yA 9 H0A (.str p0) (some (.int .i64 (Int.ofNat (zB p1)))) none) fun a2=>.asS a2 fun s3=>.ret (.str s3))
 (.ret (.str p0))
def w169(p0 p1:List Nat)(h:wp 169 (t169 p0 p1) m Q):Wf 169 [.str p0,.str p1] m Q:=yC ok169 h
def t186 (A0:Bool)(A1:zA)(A2:Bool)(A3:zA):T:=
 .opt (oB A1) fun a0=>.asI .i64 a0 fun n1=>.ite (iB 256 n1)
 (.ret (.bool true))
 (.opt (oB A3) fun a2=>.asI .i64 a2 fun n3=>.ret (.bool (iB 256 n3)))
def w186(A0:Bool)(A1:zA)(A2:Bool)(A3:zA)(h:wp 186 (t186 A0 A1 A2 A3) m Q):Wf 186 [.agg [.bool A0,A1,.bool A2,A3]] m Q:=yC ok186 h
def t187 (A0:Bool)(A1:zA):T:=
 .opt (oB A1) fun a0=>.asI .i64 a0 fun n1=>.ite (mA n1 0)
 (.ret (.bool (!A0)))
 (.ite (pC n1 1024)
 (.opt (jB yA 27 A1 (.int .i64 (sA .i64 (n1-1)))) fun a2=>.light (fun m=>oA yA 202 ⟨0,m⟩ a2) fun a3=>.asI .u16 a3 fun n4=>.ret (.bool (!mA n4 0)))
 (.ret (.bool false)))
def w187(A0:Bool)(A1:zA)(h:wp 187 (t187 A0 A1) m Q):Wf 187 [.agg [.bool A0,A1]] m Q:=yC ok187 h
def t188 (A0:Bool)(A1:zA):T:=
 .ite (!A0)
 (.opt (oB A1) fun a0=>.asI .i64 a0 fun n1=>.ite (mA n1 1)
 (.opt (jB yA 27 A1 (.int .i64 0)) fun a2=>.light (fun m=>oA yA 202 ⟨0,m⟩ a2) fun a3=>.asI .u16 a3 fun n4=>.ret (.bool (mA n4 1)))
 (.ret (.bool false)))
 (.ret (.bool false))
def w188(A0:Bool)(A1:zA)(h:wp 188 (t188 A0 A1) m Q):Wf 188 [.agg [.bool A0,A1]] m Q:=yC ok188 h
def t189 (A0:Bool)(A1:zA)(A2:Bool)(A3:zA):T:=
 .call 210 [.agg [.bool A0,A1],.agg [.bool A2,A3]] fun a0=>
 .opt (sB 0 a0) fun a1=>.asG zz6z a1 fun X2=>
 .opt (sB 1 a0) fun a3=>.asI .i64 a3 fun n4=>.ite (rB zA.one [.bool (X2.b 0),X2.v 1]) (.ite (rB zA.one [.bool (X2.b 0),X2.v 1]) (.ret (.agg [.bool (X2.b 0),X2.v 1])) .fail) .fail
def w189(A0:Bool)(A1:zA)(A2:Bool)(A3:zA)(h:wp 189 (t189 A0 A1 A2 A3) m Q):Wf 189 [.agg [.bool A0,A1],.agg [.bool A2,A3]] m Q:=yC ok189 h
def t190 (p0:zA):T:=
 .opt (oB p0) fun a0=>.asI .i64 a0 fun n1=>.heavy (sN yA 244 (.int .i64 (sA .i64 (Int.tdiv (sA .i64 (n1+1)) 2))) (.int .i64 (sA .i64 (Int.tdiv (sA .i64 (n1+1)) 2)))) fun a2=>
 .opt (oB p0) fun a3=>.asI .i64 a3 fun n4=>.jump 2 [a2,p0,.int .i64 n4,.int .i64 0]
def w190(p0:zA)(h:wp 190 (t190 p0) m Q):Wf 190 [p0] m Q:=yC ok190 h
def zvo(v3 v11:zA)(v12 v13:Int):T:=
 .ite (iB v13 v12)
 (.opt (jB yA 27 v11 (.int .i64 v13)) fun a0=>.light (fun m=>oA yA 202 ⟨0,m⟩ a0) fun a1=>.asI .u16 a1 fun n2=>.opt (jB yA 244 v3 (.int .i64 (sA .i64 (Int.tdiv v13 2)))) fun a3=>.light (fun m=>oA yA 246 ⟨0,m⟩ a3) fun a4=>.asI .u32 a4 fun n5=>.opt (zyf .u32 (sA .u32 n2) (sA .i64 (16*(Int.tmod v13 2)))) fun a6=>.asI .u32 a6 fun n7=>.opt (rH Nat.lor .u32 n5 n7) fun a8=>.asI .u32 a8 fun n9=>.opt (jB yA 244 v3 (.int .i64 (sA .i64 (Int.tdiv v13 2)))) fun a10=>.heavy (qD yA 246 a10 (.int .u32 n9)) fun _=>
 .jump 2 [v3,v11,.int .i64 v12,(.int .i64 (sA .i64 (v13+1)))])
 (.ret v3)
def z5q(v3 v11:zA)(v12 v13:Int)(h:wp 190 (zvo v3 v11 v12 v13) m Q):jp 190 2 [v3,v11,.int .i64 v12,.int .i64 v13] m Q:=uD ok190 h
def t191 (p0:zA)(p1:Int):T:=
 .opt (oB p0) fun a0=>.asI .i64 a0 fun n1=>.heavy (sN yA 244 (.int .i64 n1) (.int .i64 n1)) fun a2=>
 .opt (oB p0) fun a3=>.asI .i64 a3 fun n4=>.jump 2 [p0,.int .u32 p1,a2,.int .u32 0,(.int .i64 (sA .i64 (n4-1)))]
def w191(p0:zA)(p1:Int)(h:wp 191 (t191 p0 p1) m Q):Wf 191 [p0,.int .u32 p1] m Q:=yC ok191 h
def zvn(v0:zA)(v1:Int)(v6:zA)(v7 v8:Int):T:=
 .ite (pC 0 v8)
 (.opt (jB yA 244 v0 (.int .i64 v8)) fun a0=>.light (fun m=>oA yA 246 ⟨0,m⟩ a0) fun a1=>.asI .u32 a1 fun n2=>.call 211 [.int .u32 v7,.int .u32 n2,.int .u32 v1] fun a3=>
 .opt (sB 0 a3) fun a4=>.asI .u32 a4 fun n5=>.opt (sB 1 a3) fun a6=>.asI .u32 a6 fun n7=>.opt (jB yA 244 v6 (.int .i64 v8)) fun a8=>.heavy (qD yA 246 a8 (.int .u32 n5)) fun _=>
 .jump 2 [v0,.int .u32 v1,v6,.int .u32 n7,(.int .i64 (sA .i64 (v8-1)))])
 (.call 212 [v6] fun a9=>
 .ret (.tup [a9,.int .u32 v7]))
def z5p(v0:zA)(v1:Int)(v6:zA)(v7 v8:Int)(h:wp 191 (zvn v0 v1 v6 v7 v8) m Q):jp 191 2 [v0,.int .u32 v1,v6,.int .u32 v7,.int .i64 v8] m Q:=uD ok191 h
def t192 (p0:zA):T:=
 .heavy (zrn p0) fun a0=>
 .ret (.func (.func 213) [] [a0])
def w192(p0:zA)(h:wp 192 (t192 p0) m Q):Wf 192 [p0] m Q:=yC ok192 h
def t194 (p0 p1:List Nat):T:=
 .ite (pC (Int.ofNat (zB p1)) (Int.ofNat (zB p0)))
 (.opt (qF yA 9 H0A (.str p0) none (some (.int .i64 (Int.ofNat (zB p1))))) fun a0=>.asS a0 fun s1=>.ret (.bool (zF s1 p1)))
 (.ret (.bool false))
def w194(p0 p1:List Nat)(h:wp 194 (t194 p0 p1) m Q):Wf 194 [.str p0,.str p1] m Q:=yC ok194 h
def t210 (A0:Bool)(A1:zA)(A2:Bool)(A3:zA):T:=
 .heavy (sH yA 279 2 [(0,(.agg [.bool A0,A1])),(1,(.agg [.bool A2,A3]))]) fun a0=>
 .call 224 [a0] fun a1=>
 .asB a1 fun b2=>.ite (!b2)
 (.ite true (.ite true (.ret (.tup [.agg [.bool false,.nilslice],.int .i64 2])) .fail) .fail)
 (.call 190 [A1] fun a3=>
 .ite (same 10 A3 A3) (.call 190 [A3] fun a4=>
 .call 226 [a3,a4] fun a5=>
 .call 225 [.bool false,a5] fun a6=>
 .asG zz6z a6 fun X7=>
 .ite (rB zA.one [.bool (X7.b 0),X7.v 1]) (.ret (.tup [(.agg [.bool (X7.b 0),X7.v 1]),.int .i64 0])) .fail) .fail)
def w210(A0:Bool)(A1:zA)(A2:Bool)(A3:zA)(h:wp 210 (t210 A0 A1 A2 A3) m Q):Wf 210 [.agg [.bool A0,A1],.agg [.bool A2,A3]] m Q:=yC ok210 h
def t211 (p0 p1 p2:Int):T:=
 .ite (!mA p2 0)
 (.ite (pC p2 p0)
 (.light (fun m=>oA yA 193 ⟨0,m⟩ (.ptr 2 0)) fun a0=>.fail)
 (.jump 7 [.int .u32 p0,.int .u32 p1,.int .u32 p2]))
 (.jump 7 [.int .u32 p0,.int .u32 p1,.int .u32 p2])
def w211(p0 p1 p2:Int)(h:wp 211 (t211 p0 p1 p2) m Q):Wf 211 [.int .u32 p0,.int .u32 p1,.int .u32 p2] m Q:=yC ok211 h
def z4z(v0 v1 v2:Int):T:=
 .opt (rH Nat.lor .u64 (sA .u64 ((sA .u64 v0)*4294967296)) (sA .u64 v1)) fun a0=>.asI .u64 a0 fun n1=>.opt (z24 .u64 n1 (sA .u64 v2)) fun a2=>.asI .u64 a2 fun n3=>.opt (zt6 .u64 n1 (sA .u64 v2)) fun a4=>.asI .u64 a4 fun n5=>.ret (.tup [(.int .u32 (sA .u32 n3)),(.int .u32 (sA .u32 n5))])
def j211_7(v0 v1 v2:Int)(h:wp 211 (z4z v0 v1 v2) m Q):jp 211 7 [.int .u32 v0,.int .u32 v1,.int .u32 v2] m Q:=uD ok211 h
def t212 (p0:zA):T:=
 .jump 2 [p0]
def w212(p0:zA)(h:wp 212 (t212 p0) m Q):Wf 212 [p0] m Q:=yC ok212 h
def zo9(v0:zA):T:=
 .opt (oB v0) fun a0=>.asI .i64 a0 fun n1=>.ite (iB 0 n1)
 (.opt (oB v0) fun a2=>.asI .i64 a2 fun n3=>.opt (jB yA 244 v0 (.int .i64 (sA .i64 (n3-1)))) fun a4=>.light (fun m=>oA yA 246 ⟨0,m⟩ a4) fun a5=>.asI .u32 a5 fun n6=>.ite (mA n6 0)
 (.opt (oB v0) fun a7=>.asI .i64 a7 fun n8=>.light (fun m=>qF yA 244 ⟨0,m⟩ v0 none (some (.int .i64 (sA .i64 (n8-1))))) fun a9=>.jump 2 [a9])
 (.ret v0))
 (.ret v0)
def zx7(v0:zA)(h:wp 212 (zo9 v0) m Q):jp 212 2 [v0] m Q:=uD ok212 h
def t213 (p0 w0:zA):T:=
 .light (fun m=>oA yA 244 ⟨0,m⟩ w0) fun a0=>.opt (oB a0) fun a1=>.asI .i64 a1 fun n2=>.jump 2 [p0,w0,(.int .i64 (sA .i64 (n2-1)))]
def w213(p0 w0:zA)(h:wp 213 (t213 p0 w0) m Q):Wf 213 [p0,w0] m Q:=yC ok213 h
def zvm(v0 v1:zA)(v3:Int):T:=
 .ite (pC 0 v3)
 (.light (fun m=>oA yA 244 ⟨0,m⟩ v1) fun a0=>.opt (jB yA 244 a0 (.int .i64 v3)) fun a1=>.light (fun m=>oA yA 246 ⟨0,m⟩ a1) fun a2=>.asI .u32 a2 fun n3=>.callv v0 [.int .u32 n3] fun a4=>
 .asB a4 fun b5=>.ite (!b5)
 (.ret (.tup []))
 (.jump 2 [v0,v1,(.int .i64 (sA .i64 (v3-1)))]))
 (.ret (.tup []))
def z5o(v0 v1:zA)(v3:Int)(h:wp 213 (zvm v0 v1 v3) m Q):jp 213 2 [v0,v1,.int .i64 v3] m Q:=uD ok213 h
def t224 (p0:zA):T:=
 .opt (oB p0) fun a0=>.asI .i64 a0 fun n1=>.jump 2 [p0,.int .i64 n1,.int .i64 0]
def w224(p0:zA)(h:wp 224 (t224 p0) m Q):Wf 224 [p0] m Q:=yC ok224 h
def zvl(v5:zA)(v6 v7:Int):T:=
 .ite (iB v7 v6)
 (.opt (jB yA 279 v5 (.int .i64 v7)) fun a0=>.light (fun m=>oA yA 29 ⟨0,m⟩ a0) fun a1=>.asG zz6z a1 fun X2=>
 .ite (rB zA.one [.bool (X2.b 0),X2.v 1]) (.call 187 [(.agg [.bool (X2.b 0),X2.v 1])] fun a3=>
 .asB a3 fun b4=>.ite (!b4)
 (.ret (.bool false))
 (.jump 2 [v5,.int .i64 v6,(.int .i64 (sA .i64 (v7+1)))])) .fail)
 (.ret (.bool true))
def z5n(v5:zA)(v6 v7:Int)(h:wp 224 (zvl v5 v6 v7) m Q):jp 224 2 [v5,.int .i64 v6,.int .i64 v7] m Q:=uD ok224 h
def t225 (p0:Bool)(p1:zA):T:=
 .call 212 [p1] fun a0=>
 .opt (oB a0) fun a1=>.asI .i64 a1 fun n2=>.ite (mA n2 0)
 (.ite true (.ite true (.ret (.agg [.bool false,.nilslice])) .fail) .fail)
 (.opt (oB a0) fun a3=>.asI .i64 a3 fun n4=>.heavy (sN yA 27 (.int .i64 (sA .i64 (2*n4))) (.int .i64 (sA .i64 (2*n4)))) fun a5=>
 .opt (oB a0) fun a6=>.asI .i64 a6 fun n7=>.jump 2 [.bool p0,a5,a0,.int .i64 n7,.int .i64 0,.bool false,.nilslice])
def w225(p0:Bool)(p1:zA)(h:wp 225 (t225 p0 p1) m Q):Wf 225 [.bool p0,p1] m Q:=yC ok225 h
def zvk(v0:Bool)(v5 v18:zA)(v19 v20:Int)(A0:Bool)(A1:zA):T:=
 .ite (iB v20 v19)
 (.opt (jB yA 244 v18 (.int .i64 v20)) fun a0=>.light (fun m=>oA yA 246 ⟨0,m⟩ a0) fun a1=>.asI .u32 a1 fun n2=>.opt (jB yA 27 v5 (.int .i64 (sA .i64 (2*v20)))) fun a3=>.heavy (qD yA 202 a3 (.int .u16 (sA .u16 n2))) fun _=>
 .opt (jB yA 27 v5 (.int .i64 (sA .i64 ((sA .i64 (2*v20))+1)))) fun a4=>.heavy (qD yA 202 a4 (.int .u16 (sA .u16 (Int.fdiv n2 65536)))) fun _=>
 .jump 2 [.bool v0,v5,v18,.int .i64 v19,(.int .i64 (sA .i64 (v20+1))),.bool A0,A1])
 (.opt (oB v5) fun a5=>.asI .i64 a5 fun n6=>.opt (jB yA 27 v5 (.int .i64 (sA .i64 (n6-1)))) fun a7=>.light (fun m=>oA yA 202 ⟨0,m⟩ a7) fun a8=>.asI .u16 a8 fun n9=>.ite (mA n9 0)
 (.opt (oB v5) fun a10=>.asI .i64 a10 fun n11=>.light (fun m=>qF yA 27 ⟨0,m⟩ v5 none (some (.int .i64 (sA .i64 (n11-1))))) fun xF=>.ite (rB zA.one [.bool v0,xF]) (.ite (rB zA.one [.bool v0,xF]) (.ret (.agg [.bool v0,xF])) .fail) .fail)
 (.ite (rB zA.one [.bool v0,v5]) (.ite (rB zA.one [.bool v0,v5]) (.ret (.agg [.bool v0,v5])) .fail) .fail))
def z5m(v0:Bool)(v5 v18:zA)(v19 v20:Int)(A0:Bool)(A1:zA)(h:wp 225 (zvk v0 v5 v18 v19 v20 A0 A1) m Q):jp 225 2 [.bool v0,v5,v18,.int .i64 v19,.int .i64 v20,.bool A0,A1] m Q:=uD ok225 h
def t226 (p0 p1:zA):T:=
 .call 236 [p0,p1] fun a0=>
 .asI .i64 a0 fun n1=>.ite (iB n1 0)
 (.jump 2 [p1,p0])
 (.jump 2 [p0,p1])
def w226(p0 p1:zA)(h:wp 226 (t226 p0 p1) m Q):Wf 226 [p0,p1] m Q:=yC z2c h
def z4y(v0 v1:zA):T:=
 .opt (oB v1) fun a0=>.asI .i64 a0 fun n1=>.ite (iB 2 n1)
 (.call 237 [v0,v1] fun a2=>
 .asG [.int .u64 0,.int .u64 0,.int .u64 0,.int .u64 0,.bool false] a2 fun X3=>
 .ite true (.ite (mA (X3.i 2) 0)
 (.call 238 [v0,v1] fun a4=>
 .opt (sB 0 a4) fun a5=>.opt (sB 1 a4) fun a6=>.jump 2 [v1,a6])
 (.ite (X3.b 4)
 (.call 239 [.int .u64 (X3.i 0),v0,.int .u64 (X3.i 2),v1] fun a7=>
 .ite (same 10 (.int .u64 (X3.i 3)) (.int .u64 (X3.i 3))) (.ite (same 10 (.int .u64 (X3.i 1)) (.int .u64 (X3.i 1))) (.call 239 [.int .u64 (X3.i 3),v1,.int .u64 (X3.i 1),v0] fun a8=>
 .jump 2 [a7,a8]) .fail) .fail)
 (.call 239 [.int .u64 (X3.i 2),v1,.int .u64 (X3.i 0),v0] fun a9=>
 .ite (same 10 (.int .u64 (X3.i 1)) (.int .u64 (X3.i 1))) (.ite (same 10 (.int .u64 (X3.i 3)) (.int .u64 (X3.i 3))) (.call 239 [.int .u64 (X3.i 1),v0,.int .u64 (X3.i 3),v1] fun a10=>
 .jump 2 [a9,a10]) .fail) .fail))) .fail)
 (.opt (oB v1) fun a11=>.asI .i64 a11 fun n12=>.ite (mA n12 0)
 (.ret v0)
 (.opt (oB v0) fun a13=>.asI .i64 a13 fun n14=>.ite (iB 2 n14)
 (.call 238 [v0,v1] fun a15=>
 .opt (sB 0 a15) fun a16=>.opt (sB 1 a15) fun a17=>.jump 33 [v1,a17])
 (.jump 33 [v0,v1])))
def j226_2(v0 v1:zA)(h:wp 226 (z4y v0 v1) m Q):jp 226 2 [v0,v1] m Q:=uD z2c h
def zvj(v0 v1:zA):T:=
 .call 240 [v0] fun a0=>
 .asI .u64 a0 fun n1=>.call 240 [v1] fun a2=>
 .asI .u64 a2 fun n3=>.jump 6 [.int .u64 n1,.int .u64 n3]
def z74(v0 v1:zA)(h:wp 226 (zvj v0 v1) m Q):jp 226 33 [v0,v1] m Q:=uD z2c h
def z4x(v10 v11:Int):T:=
 .ite (!mA v11 0)
 (.opt (zt6 .u64 v10 v11) fun a0=>.asI .u64 a0 fun n1=>.jump 6 [.int .u64 v11,.int .u64 n1])
 (.call 241 [.int .u64 v10] fun a2=>
 .ret a2)
def j226_6(v10 v11:Int)(h:wp 226 (z4x v10 v11) m Q):jp 226 6 [.int .u64 v10,.int .u64 v11] m Q:=uD z2c h
def t236 (p0 p1:zA):T:=
 .opt (oB p0) fun a0=>.asI .i64 a0 fun n1=>.opt (oB p1) fun a2=>.asI .i64 a2 fun n3=>.ite (!mA n1 n3)
 (.opt (oB p0) fun a4=>.asI .i64 a4 fun n5=>.opt (oB p1) fun a6=>.asI .i64 a6 fun n7=>.ite (iB n5 n7)
 (.ret (.int .i64 (-1)))
 (.ret (.int .i64 1)))
 (.opt (oB p0) fun a8=>.asI .i64 a8 fun n9=>.jump 2 [p0,p1,(.int .i64 (sA .i64 (n9-1)))])
def w236(p0 p1:zA)(h:wp 236 (t236 p0 p1) m Q):Wf 236 [p0,p1] m Q:=yC ok236 h
def zvi(v0 v1:zA)(v5:Int):T:=
 .ite (pC 0 v5)
 (.opt (jB yA 244 v0 (.int .i64 v5)) fun a0=>.light (fun m=>oA yA 246 ⟨0,m⟩ a0) fun a1=>.asI .u32 a1 fun n2=>.opt (jB yA 244 v1 (.int .i64 v5)) fun a3=>.light (fun m=>oA yA 246 ⟨0,m⟩ a3) fun a4=>.asI .u32 a4 fun n5=>.ite (!mA n2 n5)
 (.opt (jB yA 244 v0 (.int .i64 v5)) fun a6=>.light (fun m=>oA yA 246 ⟨0,m⟩ a6) fun a7=>.asI .u32 a7 fun n8=>.opt (jB yA 244 v1 (.int .i64 v5)) fun a9=>.light (fun m=>oA yA 246 ⟨0,m⟩ a9) fun a10=>.asI .u32 a10 fun n11=>.ite (iB n8 n11)
 (.ret (.int .i64 (-1)))
 (.ret (.int .i64 1)))
 (.jump 2 [v0,v1,(.int .i64 (sA .i64 (v5-1)))]))
 (.ret (.int .i64 0))
def z5l(v0 v1:zA)(v5:Int)(h:wp 236 (zvi v0 v1 v5) m Q):jp 236 2 [v0,v1,.int .i64 v5] m Q:=uD ok236 h
def t237 (p0 p1:zA):T:=
 .opt (oB p0) fun a0=>.asI .i64 a0 fun n1=>.opt (jB yA 244 p0 (.int .i64 (sA .i64 (n1-1)))) fun a2=>.light (fun m=>oA yA 246 ⟨0,m⟩ a2) fun a3=>.asI .u32 a3 fun n4=>.call 249 [.int .u32 n4] fun a5=>
 .asI .i64 a5 fun n6=>.call 250 [p0,.int .i64 n1,.int .i64 n6] fun a7=>
 .asI .u64 a7 fun n8=>.call 250 [p1,.int .i64 n1,.int .i64 n6] fun a9=>
 .asI .u64 a9 fun n10=>.ite true (.ite true (.jump 2 [.int .u64 n8,.int .u64 n10,.int .u64 0,.int .u64 1,.int .u64 0,.int .u64 0,.int .u64 0,.int .u64 0,.bool false,.int .u64 0,.int .u64 1,.int .u64 0,.int .u64 0,.bool false]) .fail) .fail
def w237(p0 p1:zA)(h:wp 237 (t237 p0 p1) m Q):Wf 237 [p0,p1] m Q:=yC ok237 h
def z4w(v7 v8 v10 v11 A0 A1 A2 A3:Int)(A4:Bool)(A5 A6 A7 A8:Int)(A9:Bool):T:=
 .ite (pC v11 v8)
 (.ite (pC (sA .u64 (A8+v11)) (sA .u64 (v7-v8)))
 (.opt (z24 .u64 v7 v8) fun a0=>.asI .u64 a0 fun n1=>.opt (zt6 .u64 v7 v8) fun a2=>.asI .u64 a2 fun n3=>.ite true (.ite true (.ite true (.ite true (.ite true (.jump 2 [.int .u64 v8,.int .u64 n3,(.int .u64 (sA .u64 (A6+(sA .u64 (n1*v10))))),(.int .u64 (sA .u64 (A8+(sA .u64 (n1*v11))))),.int .u64 A0,.int .u64 A1,.int .u64 A2,.int .u64 A3,.bool A4,.int .u64 A6,.int .u64 v10,.int .u64 A8,.int .u64 v11,(.bool (!A9))]) .fail) .fail) .fail) .fail) .fail)
 (.ite true (.ret (.agg [.int .u64 A5,.int .u64 A6,.int .u64 A7,.int .u64 A8,.bool A9])) .fail))
 (.ite true (.ret (.agg [.int .u64 A5,.int .u64 A6,.int .u64 A7,.int .u64 A8,.bool A9])) .fail)
def j237_2(v7 v8 v10 v11 A0 A1 A2 A3:Int)(A4:Bool)(A5 A6 A7 A8:Int)(A9:Bool)(h:wp 237 (z4w v7 v8 v10 v11 A0 A1 A2 A3 A4 A5 A6 A7 A8 A9) m Q):jp 237 2 [.int .u64 v7,.int .u64 v8,.int .u64 v10,.int .u64 v11,.int .u64 A0,.int .u64 A1,.int .u64 A2,.int .u64 A3,.bool A4,.int .u64 A5,.int .u64 A6,.int .u64 A7,.int .u64 A8,.bool A9] m Q:=uD ok237 h
def t238 (p0 p1:zA):T:=
 .call 236 [p0,p1] fun a0=>
 .asI .i64 a0 fun n1=>.ite (iB n1 0)
 (.call 251 [p0] fun a2=>
 .ret (.tup [.nilslice,a2]))
 (.opt (oB p1) fun a3=>.asI .i64 a3 fun n4=>.ite (mA n4 1)
 (.opt (jB yA 244 p1 (.int .i64 0)) fun a5=>.light (fun m=>oA yA 246 ⟨0,m⟩ a5) fun a6=>.asI .u32 a6 fun n7=>.call 191 [p0,.int .u32 n7] fun a8=>
 .opt (sB 0 a8) fun a9=>.opt (sB 1 a8) fun a10=>.asI .u32 a10 fun n11=>.heavy (sH yA 244 1 [(0,(.int .u32 n11))]) fun xF=>
 .call 212 [xF] fun a13=>
 .ret (.tup [a9,a13]))
 (.opt (oB p1) fun a14=>.asI .i64 a14 fun n15=>.opt (jB yA 244 p1 (.int .i64 (sA .i64 (n15-1)))) fun a16=>.light (fun m=>oA yA 246 ⟨0,m⟩ a16) fun a17=>.asI .u32 a17 fun n18=>.call 249 [.int .u32 n18] fun a19=>
 .asI .i64 a19 fun n20=>.call 252 [p1,.int .i64 n20] fun a21=>
 .light (fun m=>qF yA 244 ⟨0,m⟩ a21 none (some (.int .i64 n15))) fun a22=>.call 252 [p0,.int .i64 n20] fun a23=>
 .opt (oB p0) fun a24=>.asI .i64 a24 fun n25=>.heavy (sN yA 244 (.int .i64 (sA .i64 ((sA .i64 (n25-n15))+1))) (.int .i64 (sA .i64 ((sA .i64 (n25-n15))+1)))) fun a26=>
 .opt (oB a26) fun a27=>.asI .i64 a27 fun n28=>.jump 2 [.int .i64 n15,.int .i64 n20,a22,a23,a26,(.int .i64 (sA .i64 (n28-1)))]))
def w238(p0 p1:zA)(h:wp 238 (t238 p0 p1) m Q):Wf 238 [p0,p1] m Q:=yC z7c h
def zvh(v8 v9:Int)(v10 v11 v12:zA)(v13:Int):T:=
 .ite (pC 0 v13)
 (.light (fun m=>qF yA 244 ⟨0,m⟩ v11 (some (.int .i64 v13)) (some (.int .i64 (sA .i64 ((sA .i64 (v13+v8))+1))))) fun a0=>.call 253 [a0,v10] fun a1=>
 .asI .u32 a1 fun n2=>.opt (jB yA 244 v12 (.int .i64 v13)) fun a3=>.heavy (qD yA 246 a3 (.int .u32 n2)) fun _=>
 .jump 2 [.int .i64 v8,.int .i64 v9,v10,v11,v12,(.int .i64 (sA .i64 (v13-1)))])
 (.jump 6 [.int .i64 v8,.int .i64 v9,v11,v12,.int .i64 v8,.int .i64 0])
def z5k(v8 v9:Int)(v10 v11 v12:zA)(v13:Int)(h:wp 238 (zvh v8 v9 v10 v11 v12 v13) m Q):jp 238 2 [.int .i64 v8,.int .i64 v9,v10,v11,v12,.int .i64 v13] m Q:=uD z7c h
def zvg(v8 v9:Int)(v11 v12:zA)(v77 v78:Int):T:=
 .ite (iB v78 v77)
 (.opt (jB yA 244 v11 (.int .i64 (sA .i64 (v78+1)))) fun a0=>.light (fun m=>oA yA 246 ⟨0,m⟩ a0) fun a1=>.asI .u32 a1 fun n2=>.opt (jB yA 244 v11 (.int .i64 v78)) fun a3=>.light (fun m=>oA yA 246 ⟨0,m⟩ a3) fun a4=>.asI .u32 a4 fun n5=>.opt (rH Nat.lor .u64 (sA .u64 ((sA .u64 n2)*4294967296)) (sA .u64 n5)) fun a6=>.asI .u64 a6 fun n7=>.opt (z79 .u64 n7 v9) fun a8=>.asI .u64 a8 fun n9=>.opt (jB yA 244 v11 (.int .i64 v78)) fun a10=>.heavy (qD yA 246 a10 (.int .u32 (sA .u32 n9))) fun _=>
 .jump 6 [.int .i64 v8,.int .i64 v9,v11,v12,.int .i64 v77,(.int .i64 (sA .i64 (v78+1)))])
 (.light (fun m=>qF yA 244 ⟨0,m⟩ v11 none (some (.int .i64 v8))) fun a11=>.call 212 [v12] fun xF=>
 .light (fun m=>qF yA 244 ⟨0,m⟩ v11 none (some (.int .i64 v8))) fun a13=>.ite (same 10 a13 a11) (.call 212 [a11] fun a14=>
 .ret (.tup [xF,a14])) .fail)
def z5j(v8 v9:Int)(v11 v12:zA)(v77 v78:Int)(h:wp 238 (zvg v8 v9 v11 v12 v77 v78) m Q):jp 238 6 [.int .i64 v8,.int .i64 v9,v11,v12,.int .i64 v77,.int .i64 v78] m Q:=uD z7c h
def t239 (p0:Int)(p1:zA)(p2:Int)(p3:zA):T:=
 .opt (oB p1) fun a0=>.asI .i64 a0 fun n1=>.opt (oB p3) fun a2=>.asI .i64 a2 fun n3=>.heavy (sN yA 244 (.int .i64 (sA .i64 ((bif iB n1 n3 then n3 else n1)+1))) (.int .i64 (sA .i64 ((bif iB n1 n3 then n3 else n1)+1)))) fun a4=>
 .opt (oB a4) fun a5=>.asI .i64 a5 fun n6=>.jump 2 [.int .u64 p0,p1,.int .u64 p2,p3,a4,.int .u64 0,.int .u64 0,.int .u32 0,.int .i64 n6,.int .i64 0]
def w239(p0:Int)(p1:zA)(p2:Int)(p3:zA)(h:wp 239 (t239 p0 p1 p2 p3) m Q):Wf 239 [.int .u64 p0,p1,.int .u64 p2,p3] m Q:=yC z2b h
def zve(v0:Int)(v1:zA)(v2:Int)(v3 v9:zA)(v10 v11 v12 v22 v23:Int):T:=
 .ite (iB v23 v22)
 (.opt (oB v1) fun a0=>.asI .i64 a0 fun n1=>.ite (iB v23 n1)
 (.opt (jB yA 244 v1 (.int .i64 v23)) fun a2=>.light (fun m=>oA yA 246 ⟨0,m⟩ a2) fun a3=>.asI .u32 a3 fun n4=>.jump 17 [.int .u64 v0,v1,.int .u64 v2,v3,v9,(.int .u64 (sA .u64 (v10+(sA .u64 (v0*(sA .u64 n4)))))),.int .u64 v11,.int .u32 v12,.int .i64 v23,.int .i64 v22,.int .i64 v23])
 (.jump 17 [.int .u64 v0,v1,.int .u64 v2,v3,v9,.int .u64 v10,.int .u64 v11,.int .u32 v12,.int .i64 v23,.int .i64 v22,.int .i64 v23]))
 (.call 212 [v9] fun a5=>
 .ret a5)
def z5i(v0:Int)(v1:zA)(v2:Int)(v3 v9:zA)(v10 v11 v12 v22 v23:Int)(h:wp 239 (zve v0 v1 v2 v3 v9 v10 v11 v12 v22 v23) m Q):jp 239 2 [.int .u64 v0,v1,.int .u64 v2,v3,v9,.int .u64 v10,.int .u64 v11,.int .u32 v12,.int .i64 v22,.int .i64 v23] m Q:=uD z2b h
def zvf(v0:Int)(v1:zA)(v2:Int)(v3 v9:zA)(v10 v11 v12 v13 v22 v23:Int):T:=
 .opt (oB v3) fun a0=>.asI .i64 a0 fun n1=>.ite (iB v13 n1)
 (.opt (jB yA 244 v3 (.int .i64 v13)) fun a2=>.light (fun m=>oA yA 246 ⟨0,m⟩ a2) fun a3=>.asI .u32 a3 fun n4=>.jump 21 [.int .u64 v0,v1,.int .u64 v2,v3,v9,.int .u64 v10,(.int .u64 (sA .u64 (v11+(sA .u64 (v2*(sA .u64 n4)))))),.int .u32 v12,.int .i64 v13,.int .i64 v22,.int .i64 v23])
 (.jump 21 [.int .u64 v0,v1,.int .u64 v2,v3,v9,.int .u64 v10,.int .u64 v11,.int .u32 v12,.int .i64 v13,.int .i64 v22,.int .i64 v23])
def z73(v0:Int)(v1:zA)(v2:Int)(v3 v9:zA)(v10 v11 v12 v13 v22 v23:Int)(h:wp 239 (zvf v0 v1 v2 v3 v9 v10 v11 v12 v13 v22 v23) m Q):jp 239 17 [.int .u64 v0,v1,.int .u64 v2,v3,v9,.int .u64 v10,.int .u64 v11,.int .u32 v12,.int .i64 v13,.int .i64 v22,.int .i64 v23] m Q:=uD z2b h
def zvd(v0:Int)(v1:zA)(v2:Int)(v3 v9:zA)(v10 v11 v12 v13 v22 v23:Int):T:=
 .call 254 [(.int .u32 (sA .u32 v10)),(.int .u32 (sA .u32 v11)),.int .u32 v12] fun a0=>
 .opt (sB 0 a0) fun a1=>.asI .u32 a1 fun n2=>.opt (sB 1 a0) fun a3=>.asI .u32 a3 fun n4=>.opt (jB yA 244 v9 (.int .i64 v13)) fun a5=>.heavy (qD yA 246 a5 (.int .u32 n2)) fun _=>
 .jump 2 [.int .u64 v0,v1,.int .u64 v2,v3,v9,(.int .u64 (Int.fdiv v10 4294967296)),(.int .u64 (Int.fdiv v11 4294967296)),.int .u32 n4,.int .i64 v22,(.int .i64 (sA .i64 (v23+1)))]
def z71(v0:Int)(v1:zA)(v2:Int)(v3 v9:zA)(v10 v11 v12 v13 v22 v23:Int)(h:wp 239 (zvd v0 v1 v2 v3 v9 v10 v11 v12 v13 v22 v23) m Q):jp 239 21 [.int .u64 v0,v1,.int .u64 v2,v3,v9,.int .u64 v10,.int .u64 v11,.int .u32 v12,.int .i64 v13,.int .i64 v22,.int .i64 v23] m Q:=uD z2b h
def t240 (p0:zA):T:=
 .heavy (aG yA 225) fun a0=>
 .heavy (qD yA 225 a0 (.int .u64 0)) fun _=>
 .call 192 [p0] fun a1=>
 .range (npC yA) a1 2 1 [a0]
 (.light (fun m=>oA yA 225 ⟨0,m⟩ a0) fun a2=>.asI .u64 a2 fun n3=>.ret (.int .u64 n3))
 (.ret (.int .u64 0))
def w240(p0:zA)(h:wp 240 (t240 p0) m Q):Wf 240 [p0] m Q:=yC ok240 h
def z4v(v3:zA)(v7:Int):T:=
 .light (fun m=>oA yA 225 ⟨0,m⟩ v3) fun a0=>.asI .u64 a0 fun n1=>.opt (rH Nat.lor .u64 (sA .u64 (n1*4294967296)) (sA .u64 v7)) fun a2=>.asI .u64 a2 fun n3=>.heavy (qD yA 225 v3 (.int .u64 n3)) fun _=>
 .ret (.bool true)
def j240_2(v3:zA)(v7:Int)(h:wp 240 (z4v v3 v7) m Q):jp 240 2 [v3,.int .u32 v7] m Q:=uD ok240 h
def t241 (p0:Int):T:=
 .heavy (sH yA 244 2 [(0,(.int .u32 (sA .u32 p0))),(1,(.int .u32 (sA .u32 (Int.fdiv p0 4294967296))))]) fun a0=>
 .call 212 [a0] fun a1=>
 .ret a1
def w241(p0:Int)(h:wp 241 (t241 p0) m Q):Wf 241 [.int .u64 p0] m Q:=yC ok241 h
def t249 (p0:Int):T:=
 .call 258 [.int .u32 p0] fun a0=>
 .asI .i64 a0 fun n1=>.ret (.int .i64 (sA .i64 (32-n1)))
def w249(p0:Int)(h:wp 249 (t249 p0) m Q):Wf 249 [.int .u32 p0] m Q:=yC ok249 h
def t250 (p0:zA)(p1 p2:Int):T:=
 .heavy (zrn p0) fun a0=>
 .callv (.func (.func 259) [] [a0]) [(.int .i64 (sA .i64 (p1-1)))] fun a1=>
 .asI .u64 a1 fun n2=>.callv (.func (.func 259) [] [a0]) [(.int .i64 (sA .i64 (p1-2)))] fun a3=>
 .asI .u64 a3 fun n4=>.opt (rH Nat.lor .u64 (sA .u64 (n2*4294967296)) n4) fun a5=>.asI .u64 a5 fun n6=>.opt (zyf .u64 n6 p2) fun a7=>.asI .u64 a7 fun n8=>.callv (.func (.func 259) [] [a0]) [(.int .i64 (sA .i64 (p1-3)))] fun a9=>
 .asI .u64 a9 fun n10=>.opt (z79 .u64 n10 (sA .i64 (32-p2))) fun a11=>.asI .u64 a11 fun n12=>.opt (rH Nat.lor .u64 n8 n12) fun a13=>.asI .u64 a13 fun n14=>.ret (.int .u64 n14)
def e250(p0:zA)(p1 p2:Int):entT yA Tryz.f250 8 250 a250 [p0,.int .i64 p1,.int .i64 p2]=t250 p0 p1 p2:=by kernel_rfl
def w250(p0:zA)(p1 p2:Int)(h:wp 250 (t250 p0 p1 p2) m Q):Wf 250 [p0,.int .i64 p1,.int .i64 p2] m Q:=z9b ok250 (by kernel_rfl) (by rw[e250];exact h)
def t251 (p0:zA):T:=
 .opt ((binA .eql).f yA 244 (.tmp 3) (.const (.slice none 0 0)) p0 .nilslice) fun a0=>.asB a0 fun b1=>.ite b1
 (.ret .nilslice)
 (.heavy (sH yA 244 0 []) fun a2=>
 .heavy (gE yA 244 244 a2 p0) fun a3=>
 .ret a3)
def w251(p0:zA)(h:wp 251 (t251 p0) m Q):Wf 251 [p0] m Q:=yC ok251 h
def t252 (p0:zA)(p1:Int):T:=
 .opt (oB p0) fun a0=>.asI .i64 a0 fun n1=>.heavy (sN yA 244 (.int .i64 (sA .i64 (n1+1))) (.int .i64 (sA .i64 (n1+1)))) fun a2=>
 .opt (oB p0) fun a3=>.asI .i64 a3 fun n4=>.jump 2 [.int .i64 p1,a2,p0,.int .i64 n4,.int .i64 0]
def w252(p0:zA)(p1:Int)(h:wp 252 (t252 p0 p1) m Q):Wf 252 [p0,.int .i64 p1] m Q:=yC ok252 h
def zvc(v1:Int)(v5 v13:zA)(v14 v15:Int):T:=
 .ite (iB v15 v14)
 (.opt (jB yA 244 v13 (.int .i64 v15)) fun a0=>.light (fun m=>oA yA 246 ⟨0,m⟩ a0) fun a1=>.asI .u32 a1 fun n2=>.opt (zyf .u64 (sA .u64 n2) v1) fun a3=>.asI .u64 a3 fun n4=>.opt (jB yA 244 v5 (.int .i64 v15)) fun a5=>.light (fun m=>oA yA 246 ⟨0,m⟩ a5) fun a6=>.asI .u32 a6 fun n7=>.opt (rH Nat.lor .u32 n7 (sA .u32 n4)) fun a8=>.asI .u32 a8 fun n9=>.opt (jB yA 244 v5 (.int .i64 v15)) fun a10=>.heavy (qD yA 246 a10 (.int .u32 n9)) fun _=>
 .opt (jB yA 244 v5 (.int .i64 (sA .i64 (v15+1)))) fun a11=>.heavy (qD yA 246 a11 (.int .u32 (sA .u32 (Int.fdiv n4 4294967296)))) fun _=>
 .jump 2 [.int .i64 v1,v5,v13,.int .i64 v14,(.int .i64 (sA .i64 (v15+1)))])
 (.ret v5)
def z5h(v1:Int)(v5 v13:zA)(v14 v15:Int)(h:wp 252 (zvc v1 v5 v13 v14 v15) m Q):jp 252 2 [.int .i64 v1,v5,v13,.int .i64 v14,.int .i64 v15] m Q:=uD ok252 h
def t253 (p0 p1:zA):T:=
 .opt (oB p1) fun a0=>.asI .i64 a0 fun n1=>.opt (jB yA 244 p0 (.int .i64 n1)) fun a2=>.light (fun m=>oA yA 246 ⟨0,m⟩ a2) fun a3=>.asI .u32 a3 fun n4=>.opt (jB yA 244 p0 (.int .i64 (sA .i64 (n1-1)))) fun a5=>.light (fun m=>oA yA 246 ⟨0,m⟩ a5) fun a6=>.asI .u32 a6 fun n7=>.opt (rH Nat.lor .u64 (sA .u64 ((sA .u64 n4)*4294967296)) (sA .u64 n7)) fun a8=>.asI .u64 a8 fun n9=>.opt (jB yA 244 p1 (.int .i64 (sA .i64 (n1-1)))) fun a10=>.light (fun m=>oA yA 246 ⟨0,m⟩ a10) fun a11=>.asI .u32 a11 fun n12=>.opt (z24 .u64 n9 (sA .u64 n12)) fun a13=>.asI .u64 a13 fun n14=>.opt (zt6 .u64 n9 (sA .u64 n12)) fun a15=>.asI .u64 a15 fun n16=>.jump 2 [p0,p1,.int .i64 n1,(.int .u64 (sA .u64 n12)),.int .u64 n14,.int .u64 n16]
def w253(p0 p1:zA)(h:wp 253 (t253 p0 p1) m Q):Wf 253 [p0,p1] m Q:=yC zw0 h
def zva(v0 v1:zA)(v5 v7 v8 v9:Int):T:=
 .ite (pC 4294967296 v8)
 (.ite (pC 4294967296 (sA .u64 (v9+v7)))
 (.jump 19 [v0,v1,.int .i64 v5,(.int .u64 (sA .u64 (v8-1)))])
 (.jump 2 [v0,v1,.int .i64 v5,.int .u64 v7,(.int .u64 (sA .u64 (v8-1))),(.int .u64 (sA .u64 (v9+v7)))]))
 (.opt (jB yA 244 v1 (.int .i64 (sA .i64 (v5-2)))) fun a0=>.light (fun m=>oA yA 246 ⟨0,m⟩ a0) fun a1=>.asI .u32 a1 fun n2=>.opt (jB yA 244 v0 (.int .i64 (sA .i64 (v5-2)))) fun a3=>.light (fun m=>oA yA 246 ⟨0,m⟩ a3) fun a4=>.asI .u32 a4 fun n5=>.opt (rH Nat.lor .u64 (sA .u64 (v9*4294967296)) (sA .u64 n5)) fun a6=>.asI .u64 a6 fun n7=>.ite (iB n7 (sA .u64 (v8*(sA .u64 n2))))
 (.ite (pC 4294967296 (sA .u64 (v9+v7)))
 (.jump 19 [v0,v1,.int .i64 v5,(.int .u64 (sA .u64 (v8-1)))])
 (.jump 2 [v0,v1,.int .i64 v5,.int .u64 v7,(.int .u64 (sA .u64 (v8-1))),(.int .u64 (sA .u64 (v9+v7)))]))
 (.jump 19 [v0,v1,.int .i64 v5,.int .u64 v8]))
def z5g(v0 v1:zA)(v5 v7 v8 v9:Int)(h:wp 253 (zva v0 v1 v5 v7 v8 v9) m Q):jp 253 2 [v0,v1,.int .i64 v5,.int .u64 v7,.int .u64 v8,.int .u64 v9] m Q:=uD zw0 h
def zvb(v0 v1:zA)(v5 v8:Int):T:=
 .opt (oB v1) fun a0=>.asI .i64 a0 fun n1=>.jump 6 [v0,v1,.int .i64 v5,.int .u64 v8,.int .u64 0,.int .u64 0,v1,.int .i64 n1,.int .i64 0]
def z7z(v0 v1:zA)(v5 v8:Int)(h:wp 253 (zvb v0 v1 v5 v8) m Q):jp 253 19 [v0,v1,.int .i64 v5,.int .u64 v8] m Q:=uD zw0 h
def zu9(v0 v1:zA)(v5 v8 v10 v11:Int)(v76:zA)(v77 v78:Int):T:=
 .ite (iB v78 v77)
 (.opt (jB yA 244 v76 (.int .i64 v78)) fun a0=>.light (fun m=>oA yA 246 ⟨0,m⟩ a0) fun a1=>.asI .u32 a1 fun n2=>.opt (jB yA 244 v0 (.int .i64 v78)) fun a3=>.light (fun m=>oA yA 246 ⟨0,m⟩ a3) fun a4=>.asI .u32 a4 fun n5=>.opt (jB yA 244 v0 (.int .i64 v78)) fun a6=>.heavy (qD yA 246 a6 (.int .u32 (sA .u32 (sA .u64 ((sA .u64 ((sA .u64 n5)-(sA .u64 (sA .u32 (sA .u64 ((sA .u64 (v8*(sA .u64 n2)))+v10))))))-v11))))) fun _=>
 .jump 6 [v0,v1,.int .i64 v5,.int .u64 v8,(.int .u64 (Int.fdiv (sA .u64 ((sA .u64 (v8*(sA .u64 n2)))+v10)) 4294967296)),(.int .u64 (Int.fdiv (sA .u64 ((sA .u64 ((sA .u64 n5)-(sA .u64 (sA .u32 (sA .u64 ((sA .u64 (v8*(sA .u64 n2)))+v10))))))-v11)) 9223372036854775808)),v76,.int .i64 v77,(.int .i64 (sA .i64 (v78+1)))])
 (.opt (jB yA 244 v0 (.int .i64 v5)) fun a7=>.light (fun m=>oA yA 246 ⟨0,m⟩ a7) fun a8=>.asI .u32 a8 fun n9=>.opt (jB yA 244 v0 (.int .i64 v5)) fun a10=>.heavy (qD yA 246 a10 (.int .u32 (sA .u32 (sA .u64 ((sA .u64 ((sA .u64 n9)-v10))-v11))))) fun _=>
 .ite (mA (Int.fdiv (sA .u64 ((sA .u64 ((sA .u64 n9)-v10))-v11)) 9223372036854775808) 0)
 (.ret (.int .u32 (sA .u32 v8)))
 (.opt (oB v1) fun a11=>.asI .i64 a11 fun n12=>.jump 10 [v0,.int .i64 v5,.int .u64 v8,.int .u32 0,v1,.int .i64 n12,.int .i64 0]))
def z5f(v0 v1:zA)(v5 v8 v10 v11:Int)(v76:zA)(v77 v78:Int)(h:wp 253 (zu9 v0 v1 v5 v8 v10 v11 v76 v77 v78) m Q):jp 253 6 [v0,v1,.int .i64 v5,.int .u64 v8,.int .u64 v10,.int .u64 v11,v76,.int .i64 v77,.int .i64 v78] m Q:=uD zw0 h
def zmn(v0:zA)(v5 v8 v17:Int)(v129:zA)(v130 v131:Int):T:=
 .ite (iB v131 v130)
 (.opt (jB yA 244 v129 (.int .i64 v131)) fun a0=>.light (fun m=>oA yA 246 ⟨0,m⟩ a0) fun a1=>.asI .u32 a1 fun n2=>.opt (jB yA 244 v0 (.int .i64 v131)) fun a3=>.light (fun m=>oA yA 246 ⟨0,m⟩ a3) fun a4=>.asI .u32 a4 fun n5=>.call 260 [.int .u32 n5,.int .u32 n2,.int .u32 v17] fun a6=>
 .opt (sB 0 a6) fun a7=>.asI .u32 a7 fun n8=>.opt (sB 1 a6) fun a9=>.asI .u32 a9 fun n10=>.opt (jB yA 244 v0 (.int .i64 v131)) fun a11=>.heavy (qD yA 246 a11 (.int .u32 n8)) fun _=>
 .jump 10 [v0,.int .i64 v5,.int .u64 v8,.int .u32 n10,v129,.int .i64 v130,(.int .i64 (sA .i64 (v131+1)))])
 (.opt (jB yA 244 v0 (.int .i64 v5)) fun xF=>.light (fun m=>oA yA 246 ⟨0,m⟩ xF) fun a13=>.asI .u32 a13 fun n14=>.opt (jB yA 244 v0 (.int .i64 v5)) fun a15=>.heavy (qD yA 246 a15 (.int .u32 (sA .u32 (n14+v17)))) fun _=>
 .ret (.int .u32 (sA .u32 (sA .u64 (v8-1)))))
def zx6(v0:zA)(v5 v8 v17:Int)(v129:zA)(v130 v131:Int)(h:wp 253 (zmn v0 v5 v8 v17 v129 v130 v131) m Q):jp 253 10 [v0,.int .i64 v5,.int .u64 v8,.int .u32 v17,v129,.int .i64 v130,.int .i64 v131] m Q:=uD zw0 h
def t254 (p0 p1 p2:Int):T:=
 .opt (zmi (.int .u32 p0)) fun a0=>.asI .u32 a0 fun n1=>.opt (iAnd .u32 n1 p1) fun a2=>.asI .u32 a2 fun n3=>.opt (rH Nat.xor .u32 p0 p1) fun a4=>.asI .u32 a4 fun n5=>.opt (zmi (.int .u32 n5)) fun a6=>.asI .u32 a6 fun n7=>.opt (iAnd .u32 n7 (sA .u32 ((sA .u32 (p0-p1))-p2))) fun a8=>.asI .u32 a8 fun n9=>.opt (rH Nat.lor .u32 n3 n9) fun a10=>.asI .u32 a10 fun n11=>.ret (.tup [(.int .u32 (sA .u32 ((sA .u32 (p0-p1))-p2))),(.int .u32 (Int.fdiv n11 2147483648))])
def w254(p0 p1 p2:Int)(h:wp 254 (t254 p0 p1 p2) m Q):Wf 254 [.int .u32 p0,.int .u32 p1,.int .u32 p2] m Q:=yC ok254 h
def t258 (p0:Int):T:=
 .ite (pC 65536 p0)
 (.jump 9 [(.int .u32 (Int.fdiv p0 65536)),.int .i64 16])
 (.jump 9 [.int .u32 p0,.int .i64 0])
def w258(p0:Int)(h:wp 258 (t258 p0) m Q):Wf 258 [.int .u32 p0] m Q:=yC z7b h
def zu7(v0 v2:Int):T:=
 .ite (pC 256 v0)
 (.jump 15 [(.int .u32 (Int.fdiv v0 256)),(.int .i64 (sA .i64 (v2+8)))])
 (.jump 15 [.int .u32 v0,.int .i64 v2])
def z5e(v0 v2:Int)(h:wp 258 (zu7 v0 v2) m Q):jp 258 9 [.int .u32 v0,.int .i64 v2] m Q:=uD z7b h
def zu8(v0 v2:Int):T:=
 .opt (yJ yA 9 (.str [0,1,2,2,3,3,3,3,4,4,4,4,4,4,4,4,5,5,5,5,5,5,5,5,5,5,5,5,5,5,5,5,6,6,6,6,6,6,6,6,6,6,6,6,6,6,6,6,6,6,6,6,6,6,6,6,6,6,6,6,6,6,6,6,7,7,7,7,7,7,7,7,7,7,7,7,7,7,7,7,7,7,7,7,7,7,7,7,7,7,7,7,7,7,7,7,7,7,7,7,7,7,7,7,7,7,7,7,7,7,7,7,7,7,7,7,7,7,7,7,7,7,7,7,7,7,7,7,8,8,8,8,8,8,8,8,8,8,8,8,8,8,8,8,8,8,8,8,8,8,8,8,8,8,8,8,8,8,8,8,8,8,8,8,8,8,8,8,8,8,8,8,8,8,8,8,8,8,8,8,8,8,8,8,8,8,8,8,8,8,8,8,8,8,8,8,8,8,8,8,8,8,8,8,8,8,8,8,8,8,8,8,8,8,8,8,8,8,8,8,8,8,8,8,8,8,8,8,8,8,8,8,8,8,8,8,8,8,8,8,8,8,8,8,8,8,8,8,8,8,8,8,8,8,8,8]) (.int .u8 (sA .u8 v0))) fun a0=>.asI .u8 a0 fun n1=>.ret (.int .i64 (sA .i64 (v2+(sA .i64 n1))))
def z7y(v0 v2:Int)(h:wp 258 (zu8 v0 v2) m Q):jp 258 15 [.int .u32 v0,.int .i64 v2] m Q:=uD z7b h
def t259 (p0:Int)(w0:zA):T:=
 .light (fun m=>oA yA 244 ⟨0,m⟩ w0) fun a0=>.opt (oB a0) fun a1=>.asI .i64 a1 fun n2=>.ite (pC n2 p0)
 (.ret (.int .u64 0))
 (.light (fun m=>oA yA 244 ⟨0,m⟩ w0) fun a3=>.opt (jB yA 244 a3 (.int .i64 p0)) fun a4=>.light (fun m=>oA yA 246 ⟨0,m⟩ a4) fun a5=>.asI .u32 a5 fun n6=>.ret (.int .u64 (sA .u64 n6)))
def w259(p0:Int)(w0:zA)(h:wp 259 (t259 p0 w0) m Q):Wf 259 [.int .i64 p0,w0] m Q:=yC ok259 h
def t260 (p0 p1 p2:Int):T:=
 .ret (.tup [(.int .u32 (sA .u32 (sA .u64 ((sA .u64 ((sA .u64 p0)+(sA .u64 p1)))+(sA .u64 p2))))),(.int .u32 (sA .u32 (Int.fdiv (sA .u64 ((sA .u64 ((sA .u64 p0)+(sA .u64 p1)))+(sA .u64 p2))) 4294967296)))])
def e260(p0 p1 p2:Int):entT yA Tryz.f260 9 260 a260 [.int .u32 p0,.int .u32 p1,.int .u32 p2]=t260 p0 p1 p2:=by kernel_rfl
def w260(p0 p1 p2:Int)(h:wp 260 (t260 p0 p1 p2) m Q):Wf 260 [.int .u32 p0,.int .u32 p1,.int .u32 p2] m Q:=z9b ok260 (by kernel_rfl) (by rw[e260];exact h)
end Go.Proofs
