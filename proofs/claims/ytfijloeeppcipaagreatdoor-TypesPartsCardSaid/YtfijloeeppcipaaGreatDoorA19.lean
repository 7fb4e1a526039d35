/- The trees of functions. (Printed by a tool; the kernel agrees.) -/
import Derived.Test.YtfijloeeppcipaaGreatDoorA18
set_option linter.all false
noncomputable section
set_option maxRecDepth 100000
namespace Go.Proofs
open Go Go.Am
variable [fC]{m:Tr rA}{Q:vC}
abbrev zI:List zA:=[.int .u8 0,.str [],.bool false,.int .i64 0,.int .i64 0,.int .i64 0,.int .i64 0,.int .i64 0]
abbrev sK:List zA:=[.str [],.nilslice,.nilslice,.nilslice]
abbrev zme:List zA:=[.str [],.bool false,.nilslice]
abbrev z00:List zA:=[.int .u8 0,.str [],.int .u8 0,.bool false,.nilslice,.bool false,.nilslice,.int .i64 0,.nilslice]
abbrev z0z:List zA:=[.str [],.int .u8 0,.bool false]
abbrev z6l:List zA:=[.int .u8 0,.int .u8 0,.int .u8 0,.int .u8 0,.int .u8 0,.int .u8 0,.int .u8 0,.int .u8 0,.int .u8 0,.int .u8 0]
abbrev zz6z:List zA:=[.bool false,.nilslice]
abbrev zz7z:List zA:=[.str [],.str [],.int .i64 0,.int .i64 0,.int .i64 0,.bool false,.int .u8 0,.str [],.int .u8 0,.bool false,.nilslice,.bool false,.nilslice,.int .i64 0,.nilslice,.int .u8 0,.str [],.int .u8 0,.bool false,.nilslice,.bool false,.nilslice,.int .i64 0,.nilslice]
theorem iB{f kf:Nat}{fn:Func}{A:xB}{x:List zA}{T:T}(h:pB yA F f fn kf A)(k:pA yA.base (Wq yA F uJ) (Jq yA F f) T m Q)(h1:(Nat.ble (wB x) kf&&Nat.ble (wB x) fn.ntmps)=true:=by kernel_rfl)(h2:entT yA fn kf f A x=T:=by kernel_rfl):Wc yA F f x m Q:=z9l h h1 (by rw[h2];exact k)
theorem kD{f kf i:Nat}{fn:Func}{A:xB}{x:List zA}{T:T}(h:pB yA F f fn kf A)(k:pA yA.base (Wq yA F uJ) (Jq yA F f) T m Q)(h2:zsv (ptsT yA fn kf f A) i x=[T]:=by kernel_rfl):Jq yA F f i x m Q:=Jq_of1 h h2 k
theorem eqT{b:Nat}{W J:vI}{x y:T}{m:Tr rA}{Q:vC}(e:x=y)(h:pA b W J y m Q):pA b W J x m Q:=e ▸ h
def t7 (A0:Int)(A1:List Nat)(A2:Int)(A3:Bool)(A4:zA)(A5:Bool)(A6:zA)(A7:Int)(A8:zA):T:=
 .call 9 [] fun a0=>
 .asB a0 fun b1=>.ite (!b1)
 (.ret (.bool false))
 (.call 22 [.agg [.int .u8 A0,.str A1,.int .u8 A2,.bool A3,A4,.bool A5,A6,.int .i64 A7,A8],.int .i64 400] fun a2=>
 .asI .i64 a2 fun n3=>.ite (dB 400 n3)
 (.ret (.bool true))
 (.jump 2 [.int .i64 1,.int .i64 0,.int .u8 A0,.str A1,.int .u8 A2,.bool A3,A4,.bool A5,A6,.int .i64 A7,A8]))
theorem w7(A0:Int)(A1:List Nat)(A2:Int)(A3:Bool)(A4:zA)(A5:Bool)(A6:zA)(A7:Int)(A8:zA)(h:wp 7 (t7 A0 A1 A2 A3 A4 A5 A6 A7 A8) m Q):Wf 7 [.agg [.int .u8 A0,.str A1,.int .u8 A2,.bool A3,A4,.bool A5,A6,.int .i64 A7,A8]] m Q:=iB ok7 h
def t7_2 (v3 v4 A0:Int)(A1:List Nat)(A2:Int)(A3:Bool)(A4:zA)(A5:Bool)(A6:zA)(A7:Int)(A8:zA):T:=
 .opt (yC A8) fun a0=>.asI .i64 a0 fun n1=>.ite (dB v4 n1)
 (.opt (jB yA 34 A8 (.int .i64 v4)) fun a2=>.light (fun m=>oA yA 36 ⟨0,m⟩ a2) fun a3=>.asG z00 a3 fun X4=>
 .call 23 [(.agg [.int .u8 (X4.i 0),.str (X4.s 1),.int .u8 (X4.i 2),.bool (X4.b 3),X4.v 4,.bool (X4.b 5),X4.v 6,.int .i64 (X4.i 7),X4.v 8])] fun a5=>
 .asI .i64 a5 fun n6=>.jump 2 [(.int .i64 (vA .i64 (v3+n6))),(.int .i64 (vA .i64 (v4+1))),.int .u8 A0,.str A1,.int .u8 A2,.bool A3,A4,.bool A5,A6,.int .i64 A7,A8])
 (.heavy (dH yA 34 1 [(0,(.agg [.int .u8 A0,.str A1,.int .u8 A2,.bool A3,A4,.bool A5,A6,.int .i64 A7,A8]))]) fun a7=>
 .ite (tC zA.one [.int .u8 17,a7]) (.ite (tC zA.one [.int .u8 17,.str [],.int .u8 0,.bool false,.nilslice,.bool false,.nilslice,.int .i64 0,a7]) (.call 23 [.agg [.int .u8 A0,.str A1,.int .u8 A2,.bool A3,A4,.bool A5,A6,.int .i64 A7,A8]] fun a8=>
 .asI .i64 a8 fun n9=>.ite (!mA n9 v3)
 (.ret (.bool false))
 (.call 23 [.agg [.int .u8 17,.str [],.int .u8 0,.bool false,.nilslice,.bool false,.nilslice,.int .i64 0,a7]] fun a10=>
 .asI .i64 a10 fun n11=>.ite (!mA n11 (vA .i64 (v3+1)))
 (.ret (.bool false))
 (.ite true (.heavy (dH yA 22 1 [(0,(.agg [.str [97],.int .u8 1,.bool false]))]) fun a12=>
 .ite (tC zA.one [.str [112],a12]) (.ite (tC zA.one [.str [112],a12,.nilslice,.nilslice]) (.call 11 [.agg [.str [112],a12,.nilslice,.nilslice],.agg [.int .u8 17,.str [],.int .u8 0,.bool false,.nilslice,.bool false,.nilslice,.int .i64 0,a7]] fun a13=>
 .opt (rB 0 a13) fun a14=>.asI .u8 a14 fun n15=>.opt (rB 1 a13) fun a16=>.asI .i64 a16 fun n17=>.ite true (.heavy (dH yA 24 1 [(0,(.agg [.str [97],.str [98],.int .i64 0,.int .i64 1,.int .i64 0,.bool false,.int .u8 17,.str [],.int .u8 0,.bool false,.nilslice,.bool false,.nilslice,.int .i64 0,a7,.int .u8 17,.str [],.int .u8 0,.bool false,.nilslice,.bool false,.nilslice,.int .i64 0,a7]))]) fun a18=>
 .ite (tC zA.one [a18]) (.call 16 [.agg [.str [112],a12,.nilslice,a18]] fun a19=>
 .opt (rB 0 a19) fun a20=>.asI .i64 a20 fun n21=>.opt (rB 1 a19) fun a22=>.asI .i64 a22 fun n23=>.ite (!mA n21 0)
 (.ret (.bool false))
 (.ite (dB 200 (vA .i64 (v3+1)))
 (.ite (mA n23 5)
 (.ret (.bool true))
 (.ite (mA n23 140)
 (.ret (.bool (mA n17 n23)))
 (.ret (.bool false))))
 (.ite (mA n23 n17)
 (.ite (!mA n17 0)
 (.ret (.bool true))
 (.ret (.bool (mA n15 1))))
 (.ret (.bool false))))) .fail) .fail) .fail) .fail) .fail))) .fail) .fail)
theorem j7_2(v3 v4 A0:Int)(A1:List Nat)(A2:Int)(A3:Bool)(A4:zA)(A5:Bool)(A6:zA)(A7:Int)(A8:zA)(h:wp 7 (t7_2 v3 v4 A0 A1 A2 A3 A4 A5 A6 A7 A8) m Q):jp 7 2 [.int .i64 v3,.int .i64 v4,.int .u8 A0,.str A1,.int .u8 A2,.bool A3,A4,.bool A5,A6,.int .i64 A7,A8] m Q:=kD ok7 h
def t11 (A0:List Nat)(A1 A2 A3:zA)(A4:Int)(A5:List Nat)(A6:Int)(A7:Bool)(A8:zA)(A9:Bool)(B0:zA)(B1:Int)(B2:zA):T:=
 .call 28 [.agg [.str A0,A1,A2,A3]] fun a0=>
 .ite (same 10 (.agg [.int .u8 A4,.str A5,.int .u8 A6,.bool A7,A8,.bool A9,B0,.int .i64 B1,B2]) (.agg [.int .u8 A4,.str A5,.int .u8 A6,.bool A7,A8,.bool A9,B0,.int .i64 B1,B2])) (.call 29 [a0,.agg [.int .u8 A4,.str A5,.int .u8 A6,.bool A7,A8,.bool A9,B0,.int .i64 B1,B2]] fun a1=>
 .opt (rB 0 a1) fun a2=>.asI .u8 a2 fun n3=>.opt (rB 1 a1) fun a4=>.asI .i64 a4 fun n5=>.ret (.tup [.int .u8 n3,.int .i64 n5])) .fail
theorem w11(A0:List Nat)(A1 A2 A3:zA)(A4:Int)(A5:List Nat)(A6:Int)(A7:Bool)(A8:zA)(A9:Bool)(B0:zA)(B1:Int)(B2:zA)(h:wp 11 (t11 A0 A1 A2 A3 A4 A5 A6 A7 A8 A9 B0 B1 B2) m Q):Wf 11 [.agg [.str A0,A1,A2,A3],.agg [.int .u8 A4,.str A5,.int .u8 A6,.bool A7,A8,.bool A9,B0,.int .i64 B1,B2]] m Q:=iB ok11 h
def t16 (A0:List Nat)(A1 A2 A3:zA):T:=
 .call 33 [.agg [.str A0,A1,A2,A3]] fun a0=>
 .asI .i64 a0 fun n1=>.ite (!mA n1 0)
 (.ret (.tup [(.int .i64 (-1)),.int .i64 n1]))
 (.call 28 [.agg [.str A0,A1,A2,A3]] fun a2=>
 .opt (yC A3) fun a3=>.asI .i64 a3 fun n4=>.jump 2 [a2,A3,.int .i64 n4,.int .i64 0])
theorem w16(A0:List Nat)(A1 A2 A3:zA)(h:wp 16 (t16 A0 A1 A2 A3) m Q):Wf 16 [.agg [.str A0,A1,A2,A3]] m Q:=iB ok16 h
def t16_2(v5 v17:zA)(v18 v19:Int):T:=
 .ite (dB v19 v18)
 (.opt (jB yA 24 v17 (.int .i64 v19)) fun a0=>.light (fun m=>oA yA 56 ⟨0,m⟩ a0) fun a1=>.asG zz7z a1 fun X2=>
 .ite (tC zA.one [.str (X2.s 0),.str (X2.s 1),.int .i64 (X2.i 2),.int .i64 (X2.i 3),.int .i64 (X2.i 4),.bool (X2.b 5),.int .u8 (X2.i 6),.str (X2.s 7),.int .u8 (X2.i 8),.bool (X2.b 9),X2.v 10,.bool (X2.b 11),X2.v 12,.int .i64 (X2.i 13),X2.v 14,.int .u8 (X2.i 15),.str (X2.s 16),.int .u8 (X2.i 17),.bool (X2.b 18),X2.v 19,.bool (X2.b 20),X2.v 21,.int .i64 (X2.i 22),X2.v 23]) (.call 34 [v5,(.agg [.str (X2.s 0),.str (X2.s 1),.int .i64 (X2.i 2),.int .i64 (X2.i 3),.int .i64 (X2.i 4),.bool (X2.b 5),.int .u8 (X2.i 6),.str (X2.s 7),.int .u8 (X2.i 8),.bool (X2.b 9),X2.v 10,.bool (X2.b 11),X2.v 12,.int .i64 (X2.i 13),X2.v 14,.int .u8 (X2.i 15),.str (X2.s 16),.int .u8 (X2.i 17),.bool (X2.b 18),X2.v 19,.bool (X2.b 20),X2.v 21,.int .i64 (X2.i 22),X2.v 23])] fun a3=>
 .asI .i64 a3 fun n4=>.ite (!mA n4 0)
 (.ret (.tup [.int .i64 v19,.int .i64 n4]))
 (.jump 2 [v5,v17,.int .i64 v18,(.int .i64 (vA .i64 (v19+1)))])) .fail)
 (.ret (.tup [.int .i64 0,.int .i64 0]))
theorem j16_2(v5 v17:zA)(v18 v19:Int)(h:wp 16 (t16_2 v5 v17 v18 v19) m Q):jp 16 2 [v5,v17,.int .i64 v18,.int .i64 v19] m Q:=kD ok16 h
def t19 (A0:List Nat)(A1 A2 A3:zA)(p1:List Nat):T:=
 .opt (yC A1) fun a0=>.asI .i64 a0 fun n1=>.jump 2 [.str p1,A1,.int .i64 n1,.int .i64 0,.str [],.int .u8 0,.bool false]
theorem w19(A0:List Nat)(A1 A2 A3:zA)(p1:List Nat)(h:wp 19 (t19 A0 A1 A2 A3 p1) m Q):Wf 19 [.agg [.str A0,A1,A2,A3],.str p1] m Q:=iB ok19 h
def t19_2(v1:List Nat)(v9:zA)(v10 v11:Int)(A0:List Nat)(A1:Int)(A2:Bool):T:=
 .ite (dB v11 v10)
 (.opt (jB yA 22 v9 (.int .i64 v11)) fun a0=>.light (fun m=>oA yA 59 ⟨0,m⟩ a0) fun a1=>.asG z0z a1 fun X2=>
 .ite true (.ite (zF (X2.s 0) v1)
 (.ite true (.ret (.tup [(.agg [.str (X2.s 0),.int .u8 (X2.i 1),.bool (X2.b 2)]),.bool true])) .fail)
 (.jump 2 [.str v1,v9,.int .i64 v10,(.int .i64 (vA .i64 (v11+1))),.str A0,.int .u8 A1,.bool A2])) .fail)
 (.ite true (.ite true (.ret (.tup [.agg [.str [],.int .u8 0,.bool false],.bool false])) .fail) .fail)
theorem j19_2(v1:List Nat)(v9:zA)(v10 v11:Int)(A0:List Nat)(A1:Int)(A2:Bool)(h:wp 19 (t19_2 v1 v9 v10 v11 A0 A1 A2) m Q):jp 19 2 [.str v1,v9,.int .i64 v10,.int .i64 v11,.str A0,.int .u8 A1,.bool A2] m Q:=kD ok19 h
def t22 (A0:Int)(A1:List Nat)(A2:Int)(A3:Bool)(A4:zA)(A5:Bool)(A6:zA)(A7:Int)(A8:zA)(p1:Int):T:=
 .call 32 [.agg [.bool A3,A4,.bool A5,A6]] fun a0=>
 .asI .i64 a0 fun n1=>.ite (same 10 (.str A1) (.str A1)) (.ite (same 10 (.int .i64 (Int.ofNat (wB A1))) (.int .i64 (Int.ofNat (wB A1)))) (.jump 2 [.int .i64 p1,(.int .i64 (vA .i64 (n1+(vA .i64 (Int.tdiv (Int.ofNat (wB A1)) 30))))),.int .i64 0,.int .u8 A0,.str A1,.int .u8 A2,.bool A3,A4,.bool A5,A6,.int .i64 A7,A8]) .fail) .fail
theorem w22(A0:Int)(A1:List Nat)(A2:Int)(A3:Bool)(A4:zA)(A5:Bool)(A6:zA)(A7:Int)(A8:zA)(p1:Int)(h:wp 22 (t22 A0 A1 A2 A3 A4 A5 A6 A7 A8 p1) m Q):Wf 22 [.agg [.int .u8 A0,.str A1,.int .u8 A2,.bool A3,A4,.bool A5,A6,.int .i64 A7,A8],.int .i64 p1] m Q:=iB ok22 h
def z66(v1 v5 v6 A0:Int)(A1:List Nat)(A2:Int)(A3:Bool)(A4:zA)(A5:Bool)(A6:zA)(A7:Int)(A8:zA):T:=
 .opt (yC A8) fun a0=>.asI .i64 a0 fun n1=>.ite (dB v6 n1)
 (.ite (jC v5 v1)
 (.opt (jB yA 34 A8 (.int .i64 v6)) fun a2=>.light (fun m=>oA yA 36 ⟨0,m⟩ a2) fun a3=>.asG z00 a3 fun X4=>
 .call 22 [(.agg [.int .u8 (X4.i 0),.str (X4.s 1),.int .u8 (X4.i 2),.bool (X4.b 3),X4.v 4,.bool (X4.b 5),X4.v 6,.int .i64 (X4.i 7),X4.v 8]),(.int .i64 (vA .i64 (v1-v5)))] fun a5=>
 .asI .i64 a5 fun n6=>.jump 2 [.int .i64 v1,(.int .i64 (vA .i64 (v5+n6))),(.int .i64 (vA .i64 (v6+1))),.int .u8 A0,.str A1,.int .u8 A2,.bool A3,A4,.bool A5,A6,.int .i64 A7,A8])
 (.ret (.int .i64 v5)))
 (.ret (.int .i64 v5))
theorem j22_2(v1 v5 v6 A0:Int)(A1:List Nat)(A2:Int)(A3:Bool)(A4:zA)(A5:Bool)(A6:zA)(A7:Int)(A8:zA)(h:wp 22 (z66 v1 v5 v6 A0 A1 A2 A3 A4 A5 A6 A7 A8) m Q):jp 22 2 [.int .i64 v1,.int .i64 v5,.int .i64 v6,.int .u8 A0,.str A1,.int .u8 A2,.bool A3,A4,.bool A5,A6,.int .i64 A7,A8] m Q:=kD ok22 h
def t23 (A0:Int)(A1:List Nat)(A2:Int)(A3:Bool)(A4:zA)(A5:Bool)(A6:zA)(A7:Int)(A8:zA):T:=
 .opt (yC A8) fun a0=>.asI .i64 a0 fun n1=>.jump 2 [.int .i64 1,A8,.int .i64 n1,.int .i64 0]
theorem w23(A0:Int)(A1:List Nat)(A2:Int)(A3:Bool)(A4:zA)(A5:Bool)(A6:zA)(A7:Int)(A8:zA)(h:wp 23 (t23 A0 A1 A2 A3 A4 A5 A6 A7 A8) m Q):Wf 23 [.agg [.int .u8 A0,.str A1,.int .u8 A2,.bool A3,A4,.bool A5,A6,.int .i64 A7,A8]] m Q:=iB ok23 h
def z65(v3:Int)(v7:zA)(v8 v9:Int):T:=
 .ite (dB v9 v8)
 (.opt (jB yA 34 v7 (.int .i64 v9)) fun a0=>.light (fun m=>oA yA 36 ⟨0,m⟩ a0) fun a1=>.asG z00 a1 fun X2=>
 .ite (tC zA.one [.int .u8 (X2.i 0),.str (X2.s 1),.int .u8 (X2.i 2),.bool (X2.b 3),X2.v 4,.bool (X2.b 5),X2.v 6,.int .i64 (X2.i 7),X2.v 8]) (.call 23 [(.agg [.int .u8 (X2.i 0),.str (X2.s 1),.int .u8 (X2.i 2),.bool (X2.b 3),X2.v 4,.bool (X2.b 5),X2.v 6,.int .i64 (X2.i 7),X2.v 8])] fun a3=>
 .asI .i64 a3 fun n4=>.jump 2 [(.int .i64 (vA .i64 (v3+n4))),v7,.int .i64 v8,(.int .i64 (vA .i64 (v9+1)))]) .fail)
 (.ret (.int .i64 v3))
theorem j23_2(v3:Int)(v7:zA)(v8 v9:Int)(h:wp 23 (z65 v3 v7 v8 v9) m Q):jp 23 2 [.int .i64 v3,v7,.int .i64 v8,.int .i64 v9] m Q:=kD ok23 h
def t24 (A0:List Nat)(A1 A2 A3:zA)(A4:Int)(A5:List Nat)(A6:Int)(A7:Bool)(A8:zA)(A9:Bool)(B0:zA)(B1:Int)(B2:zA):T:=
 .call 19 [.agg [.str A0,A1,A2,A3],.str A5] fun a0=>
 .opt (rB 0 a0) fun a1=>.asG z0z a1 fun X2=>
 .opt (rB 1 a0) fun a3=>.asB a3 fun b4=>.ite true (.call 40 [.agg [.str A0,A1,A2,A3],.str A5] fun a5=>
 .opt (rB 0 a5) fun a6=>.asG zme a6 fun X7=>
 .opt (rB 1 a5) fun a8=>.asB a8 fun b9=>.ite (tC zA.one [.str (X7.s 0),.bool (X7.b 1),X7.v 2]) (.ite (mA A4 3)
 (.ite (mA A4 3)
 (.ite (!b4)
 (.ret (.bool false))
 (.ite (!(X2.b 2))
 (.ret (.bool false))
 (.jump 47 [.str A0,A1,A2,A3,.int .u8 A4,.str A5,.int .u8 A6,.bool A7,A8,.bool A9,B0,.int .i64 B1,B2])))
 (.ite (mA A4 5)
 (.ite (!b4)
 (.ret (.bool false))
 (.ite (X2.b 2)
 (.ret (.bool false))
 (.jump 47 [.str A0,A1,A2,A3,.int .u8 A4,.str A5,.int .u8 A6,.bool A7,A8,.bool A9,B0,.int .i64 B1,B2])))
 (.ite (mA A4 21)
 (.ite (!b4)
 (.ret (.bool false))
 (.ite (!(X2.b 2))
 (.ret (.bool false))
 (.ite (!mA (X2.i 1) 2)
 (.ret (.bool false))
 (.jump 47 [.str A0,A1,A2,A3,.int .u8 A4,.str A5,.int .u8 A6,.bool A7,A8,.bool A9,B0,.int .i64 B1,B2]))))
 (.ite (mA A4 22)
 (.ite (!b4)
 (.ret (.bool false))
 (.ite (!(X2.b 2))
 (.ret (.bool false))
 (.ite (!mA (X2.i 1) 3)
 (.ret (.bool false))
 (.jump 47 [.str A0,A1,A2,A3,.int .u8 A4,.str A5,.int .u8 A6,.bool A7,A8,.bool A9,B0,.int .i64 B1,B2]))))
 (.ite (mA A4 6)
 (.ite (!b9)
 (.ret (.bool false))
 (.opt (yC B2) fun a10=>.asI .i64 a10 fun n11=>.ite (!bEq (X7.b 1) (mA n11 2))
 (.ret (.bool false))
 (.jump 47 [.str A0,A1,A2,A3,.int .u8 A4,.str A5,.int .u8 A6,.bool A7,A8,.bool A9,B0,.int .i64 B1,B2])))
 (.ite (mA A4 23)
 (.ite (!b9)
 (.ret (.bool false))
 (.ite (X7.b 1)
 (.ret (.bool false))
 (.jump 47 [.str A0,A1,A2,A3,.int .u8 A4,.str A5,.int .u8 A6,.bool A7,A8,.bool A9,B0,.int .i64 B1,B2])))
 (.jump 47 [.str A0,A1,A2,A3,.int .u8 A4,.str A5,.int .u8 A6,.bool A7,A8,.bool A9,B0,.int .i64 B1,B2])))))))
 (.ite (mA A4 4)
 (.ite (!b4)
 (.ret (.bool false))
 (.ite (!(X2.b 2))
 (.ret (.bool false))
 (.jump 47 [.str A0,A1,A2,A3,.int .u8 A4,.str A5,.int .u8 A6,.bool A7,A8,.bool A9,B0,.int .i64 B1,B2])))
 (.ite (mA A4 5)
 (.ite (!b4)
 (.ret (.bool false))
 (.ite (X2.b 2)
 (.ret (.bool false))
 (.jump 47 [.str A0,A1,A2,A3,.int .u8 A4,.str A5,.int .u8 A6,.bool A7,A8,.bool A9,B0,.int .i64 B1,B2])))
 (.ite (mA A4 21)
 (.ite (!b4)
 (.ret (.bool false))
 (.ite (!(X2.b 2))
 (.ret (.bool false))
 (.ite (!mA (X2.i 1) 2)
 (.ret (.bool false))
 (.jump 47 [.str A0,A1,A2,A3,.int .u8 A4,.str A5,.int .u8 A6,.bool A7,A8,.bool A9,B0,.int .i64 B1,B2]))))
 (.ite (mA A4 22)
 (.ite (!b4)
 (.ret (.bool false))
 (.ite (!(X2.b 2))
 (.ret (.bool false))
 (.ite (!mA (X2.i 1) 3)
 (.ret (.bool false))
 (.jump 47 [.str A0,A1,A2,A3,.int .u8 A4,.str A5,.int .u8 A6,.bool A7,A8,.bool A9,B0,.int .i64 B1,B2]))))
 (.ite (mA A4 6)
 (.ite (!b9)
 (.ret (.bool false))
 (.opt (yC B2) fun a12=>.asI .i64 a12 fun n13=>.ite (!bEq (X7.b 1) (mA n13 2))
 (.ret (.bool false))
 (.jump 47 [.str A0,A1,A2,A3,.int .u8 A4,.str A5,.int .u8 A6,.bool A7,A8,.bool A9,B0,.int .i64 B1,B2])))
 (.ite (mA A4 23)
 (.ite (!b9)
 (.ret (.bool false))
 (.ite (X7.b 1)
 (.ret (.bool false))
 (.jump 47 [.str A0,A1,A2,A3,.int .u8 A4,.str A5,.int .u8 A6,.bool A7,A8,.bool A9,B0,.int .i64 B1,B2])))
 (.jump 47 [.str A0,A1,A2,A3,.int .u8 A4,.str A5,.int .u8 A6,.bool A7,A8,.bool A9,B0,.int .i64 B1,B2])))))))) .fail) .fail
theorem w24(A0:List Nat)(A1 A2 A3:zA)(A4:Int)(A5:List Nat)(A6:Int)(A7:Bool)(A8:zA)(A9:Bool)(B0:zA)(B1:Int)(B2:zA)(h:wp 24 (t24 A0 A1 A2 A3 A4 A5 A6 A7 A8 A9 B0 B1 B2) m Q):Wf 24 [.agg [.str A0,A1,A2,A3],.agg [.int .u8 A4,.str A5,.int .u8 A6,.bool A7,A8,.bool A9,B0,.int .i64 B1,B2]] m Q:=iB ok24 h
def t28 (A0:List Nat)(A1 A2 A3:zA):T:=
 .ite true (.ite true (.ite true (.ite true (.ite true (.ite true (.ite true (.ite true (.ite true (.ite true (.ite true (.ite true (.ite true (.ite true (.ite true (.ite true (.ite true (.ite true (.ite true (.ite true (.ite true (.ite true (.ite true (.ite true (.ite true (.heavy dS fun a0=>
 .heavy (rP yA [.upd 100 a0 (.agg [.int .u8 2,.int .u8 0,.int .u8 0,.int .u8 0]) (.int .u8 4),.upd 100 a0 (.agg [.int .u8 4,.int .u8 4,.int .u8 0,.int .u8 0]) (.int .u8 1),.upd 100 a0 (.agg [.int .u8 6,.int .u8 2,.int .u8 0,.int .u8 0]) (.int .u8 2),.upd 100 a0 (.agg [.int .u8 6,.int .u8 2,.int .u8 2,.int .u8 0]) (.int .u8 2),.upd 100 a0 (.agg [.int .u8 8,.int .u8 4,.int .u8 4,.int .u8 0]) (.int .u8 5),.upd 100 a0 (.agg [.int .u8 9,.int .u8 2,.int .u8 2,.int .u8 0]) (.int .u8 2),.upd 100 a0 (.agg [.int .u8 9,.int .u8 3,.int .u8 2,.int .u8 0]) (.int .u8 3),.upd 100 a0 (.agg [.int .u8 9,.int .u8 2,.int .u8 3,.int .u8 0]) (.int .u8 3),.upd 100 a0 (.agg [.int .u8 10,.int .u8 2,.int .u8 2,.int .u8 0]) (.int .u8 2),.upd 100 a0 (.agg [.int .u8 10,.int .u8 3,.int .u8 2,.int .u8 0]) (.int .u8 3),.upd 100 a0 (.agg [.int .u8 10,.int .u8 3,.int .u8 3,.int .u8 0]) (.int .u8 2),.upd 100 a0 (.agg [.int .u8 15,.int .u8 1,.int .u8 1,.int .u8 0]) (.int .u8 1),.upd 100 a0 (.agg [.int .u8 16,.int .u8 1,.int .u8 1,.int .u8 0]) (.int .u8 1),.upd 100 a0 (.agg [.int .u8 17,.int .u8 1,.int .u8 0,.int .u8 0]) (.int .u8 1),.upd 100 a0 (.agg [.int .u8 19,.int .u8 2,.int .u8 2,.int .u8 0]) (.int .u8 2),.upd 100 a0 (.agg [.int .u8 19,.int .u8 3,.int .u8 3,.int .u8 0]) (.int .u8 3),.upd 100 a0 (.agg [.int .u8 20,.int .u8 4,.int .u8 4,.int .u8 0]) (.int .u8 6),.upd 100 a0 (.agg [.int .u8 21,.int .u8 4,.int .u8 4,.int .u8 0]) (.int .u8 2),.upd 100 a0 (.agg [.int .u8 22,.int .u8 4,.int .u8 4,.int .u8 6]) (.int .u8 3),.upd 100 a0 (.agg [.int .u8 23,.int .u8 4,.int .u8 4,.int .u8 0]) (.int .u8 2),.upd 100 a0 (.agg [.int .u8 24,.int .u8 2,.int .u8 0,.int .u8 0]) (.int .u8 6),.upd 100 a0 (.agg [.int .u8 25,.int .u8 5,.int .u8 0,.int .u8 0]) (.int .u8 2),.upd 100 a0 (.agg [.int .u8 25,.int .u8 6,.int .u8 0,.int .u8 0]) (.int .u8 2),.upd 100 a0 (.agg [.int .u8 25,.int .u8 3,.int .u8 0,.int .u8 0]) (.int .u8 2),.upd 100 a0 (.agg [.int .u8 26,.int .u8 4,.int .u8 0,.int .u8 0]) (.int .u8 4)]) fun _=>
 .ite true (.jump 2 [a0,.agg [.int .u8 7,.int .u8 8],.int .i64 0,.str A0,A1,A2,A3]) .fail) .fail) .fail) .fail) .fail) .fail) .fail) .fail) .fail) .fail) .fail) .fail) .fail) .fail) .fail) .fail) .fail) .fail) .fail) .fail) .fail) .fail) .fail) .fail) .fail) .fail
theorem w28(A0:List Nat)(A1 A2 A3:zA)(h:wp 28 (t28 A0 A1 A2 A3) m Q):Wf 28 [.agg [.str A0,A1,A2,A3]] m Q:=iB ok28 h
def t28_2(v3:zA)(A0 A1 v37:Int)(A2:List Nat)(A3 A4 A5:zA):T:=
 .ite (dB v37 2)
 (.opt (cI yA 101 (.agg [.int .u8 A0,.int .u8 A1]) (.int .i64 v37)) fun a0=>.asI .u8 a0 fun n1=>.ite true (.jump 6 [v3,.int .u8 n1,.agg [.int .u8 A0,.int .u8 A1],.int .i64 v37,.agg [.int .u8 2,.int .u8 3,.int .u8 5,.int .u8 6],.int .i64 0,.str A2,A3,A4,A5]) .fail)
 (.jump 10 [v3,.int .u8 1,.str A2,A3,A4,A5])
theorem z8b(v3:zA)(A0 A1 v37:Int)(A2:List Nat)(A3 A4 A5:zA)(h:wp 28 (t28_2 v3 A0 A1 v37 A2 A3 A4 A5) m Q):jp 28 2 [v3,.agg [.int .u8 A0,.int .u8 A1],.int .i64 v37,.str A2,A3,A4,A5] m Q:=kD ok28 h
def t28_6(v3:zA)(v5 A0 A1 v37 A2 A3 A4 A5 v41:Int)(A6:List Nat)(A7 A8 A9:zA):T:=
 .ite (dB v41 4)
 (.opt (cI yA 102 (.agg [.int .u8 A2,.int .u8 A3,.int .u8 A4,.int .u8 A5]) (.int .i64 v41)) fun a0=>.asI .u8 a0 fun n1=>.ite true (.heavy (eH yA 100 v3 (.agg [.int .u8 v5,.int .u8 n1,.int .u8 n1,.int .u8 0]) (.int .u8 n1)) fun _=>
 .jump 6 [v3,.int .u8 v5,.agg [.int .u8 A0,.int .u8 A1],.int .i64 v37,.agg [.int .u8 A2,.int .u8 A3,.int .u8 A4,.int .u8 A5],(.int .i64 (vA .i64 (v41+1))),.str A6,A7,A8,A9]) .fail)
 (.ite true (.heavy (eH yA 100 v3 (.agg [.int .u8 v5,.int .u8 4,.int .u8 5,.int .u8 0]) (.int .u8 4)) fun _=>
 .ite true (.heavy (eH yA 100 v3 (.agg [.int .u8 v5,.int .u8 4,.int .u8 6,.int .u8 0]) (.int .u8 4)) fun _=>
 .jump 2 [v3,.agg [.int .u8 A0,.int .u8 A1],(.int .i64 (vA .i64 (v37+1))),.str A6,A7,A8,A9]) .fail) .fail)
theorem zyk(v3:zA)(v5 A0 A1 v37 A2 A3 A4 A5 v41:Int)(A6:List Nat)(A7 A8 A9:zA)(h:wp 28 (t28_6 v3 v5 A0 A1 v37 A2 A3 A4 A5 v41 A6 A7 A8 A9) m Q):jp 28 6 [v3,.int .u8 v5,.agg [.int .u8 A0,.int .u8 A1],.int .i64 v37,.agg [.int .u8 A2,.int .u8 A3,.int .u8 A4,.int .u8 A5],.int .i64 v41,.str A6,A7,A8,A9] m Q:=kD ok28 h
def t28_10(v3:zA)(v8:Int)(A0:List Nat)(A1 A2 A3:zA):T:=
 .ite (jC v8 6)
 (.ite true (.heavy (eH yA 100 v3 (.agg [.int .u8 14,.int .u8 v8,.int .u8 v8,.int .u8 0]) (.int .u8 1)) fun _=>
 .ite true (.heavy (eH yA 100 v3 (.agg [.int .u8 18,.int .u8 1,.int .u8 v8,.int .u8 v8]) (.int .u8 v8)) fun _=>
 .ite (!mA v8 1)
 (.ite true (.heavy (eH yA 100 v3 (.agg [.int .u8 11,.int .u8 v8,.int .u8 v8,.int .u8 0]) (.int .u8 v8)) fun _=>
 .ite true (.heavy (eH yA 100 v3 (.agg [.int .u8 12,.int .u8 v8,.int .u8 v8,.int .u8 0]) (.int .u8 v8)) fun _=>
 .ite true (.heavy (eH yA 100 v3 (.agg [.int .u8 13,.int .u8 v8,.int .u8 v8,.int .u8 0]) (.int .u8 1)) fun _=>
 .jump 10 [v3,(.int .u8 (vA .u8 (v8+1))),.str A0,A1,A2,A3]) .fail) .fail) .fail)
 (.jump 10 [v3,(.int .u8 (vA .u8 (v8+1))),.str A0,A1,A2,A3])) .fail) .fail)
 (.ite (tC zA.one [v3]) (.heavy (zmo (.agg [.str A0,A1,A2,A3,v3])) fun a0=>
 .ret a0) .fail)
theorem zyl(v3:zA)(v8:Int)(A0:List Nat)(A1 A2 A3:zA)(h:wp 28 (t28_10 v3 v8 A0 A1 A2 A3) m Q):jp 28 10 [v3,.int .u8 v8,.str A0,A1,A2,A3] m Q:=kD ok28 h
def t29 (p0:zA)(A0:Int)(A1:List Nat)(A2:Int)(A3:Bool)(A4:zA)(A5:Bool)(A6:zA)(A7:Int)(A8:zA):T:=
 .call 43 [.agg [.int .u8 A0,.str A1,.int .u8 A2,.bool A3,A4,.bool A5,A6,.int .i64 A7,A8]] fun a0=>
 .opt (rB 0 a0) fun a1=>.asS a1 fun s2=>.opt (rB 1 a0) fun a3=>.asI .i64 a3 fun n4=>.ite (mA n4 2)
 (.ret (.tup [.int .u8 0,.int .i64 140]))
 (.call 44 [p0,.agg [.int .u8 A0,.str A1,.int .u8 A2,.bool A3,A4,.bool A5,A6,.int .i64 A7,A8]] fun a5=>
 .opt (rB 0 a5) fun a6=>.asI .u8 a6 fun n7=>.opt (rB 1 a5) fun a8=>.asI .i64 a8 fun n9=>.ret (.tup [.int .u8 n7,.int .i64 n9]))
theorem w29(p0:zA)(A0:Int)(A1:List Nat)(A2:Int)(A3:Bool)(A4:zA)(A5:Bool)(A6:zA)(A7:Int)(A8:zA)(h:wp 29 (t29 p0 A0 A1 A2 A3 A4 A5 A6 A7 A8) m Q):Wf 29 [p0,.agg [.int .u8 A0,.str A1,.int .u8 A2,.bool A3,A4,.bool A5,A6,.int .i64 A7,A8]] m Q:=iB ok29 h
def t32 (A0:Bool)(A1:zA)(A2:Bool)(A3:zA):T:=
 .opt (yC A1) fun a0=>.asI .i64 a0 fun n1=>.opt (yC A3) fun a2=>.asI .i64 a2 fun n3=>.ret (.int .i64 (vA .i64 ((vA .i64 (1+n1))+n3)))
theorem w32(A0:Bool)(A1:zA)(A2:Bool)(A3:zA)(h:wp 32 (t32 A0 A1 A2 A3) m Q):Wf 32 [.agg [.bool A0,A1,.bool A2,A3]] m Q:=iB ok32 h
def t33 (A0:List Nat)(A1 A2 A3:zA):T:=
 .ite (tC zA.one [.str A0,A1,A2]) (.call 46 [.agg [.str A0,A1,A2,.nilslice]] fun a0=>
 .asB a0 fun b1=>.ite (!b1)
 (.ret (.int .i64 140))
 (.opt (yC A1) fun a2=>.asI .i64 a2 fun n3=>.ite (dB 64 n3)
 (.opt (yC A2) fun a4=>.asI .i64 a4 fun n5=>.jump 2 [.bool true,A2,.int .i64 n5,.int .i64 0,.str A0,A1,A2,A3])
 (.opt (yC A2) fun a6=>.asI .i64 a6 fun n7=>.ite (dB 16 n7)
 (.opt (yC A2) fun a8=>.asI .i64 a8 fun n9=>.jump 2 [.bool true,A2,.int .i64 n9,.int .i64 0,.str A0,A1,A2,A3])
 (.opt (yC A3) fun a10=>.asI .i64 a10 fun n11=>.opt (yC A2) fun a12=>.asI .i64 a12 fun n13=>.jump 2 [(.bool (dB 400 n11)),A2,.int .i64 n13,.int .i64 0,.str A0,A1,A2,A3])))) .fail
theorem w33(A0:List Nat)(A1 A2 A3:zA)(h:wp 33 (t33 A0 A1 A2 A3) m Q):Wf 33 [.agg [.str A0,A1,A2,A3]] m Q:=iB ok33 h
def t33_2(v3:Bool)(v32:zA)(v33 v34:Int)(A0:List Nat)(A1 A2 A3:zA):T:=
 .ite (dB v34 v33)
 (.opt (jB yA 23 v32 (.int .i64 v34)) fun a0=>.light (fun m=>oA yA 81 ⟨0,m⟩ a0) fun a1=>.asG zme a1 fun X2=>
 .ite (tC zA.one [.str (X2.s 0),.bool (X2.b 1),X2.v 2]) (.ite v3
 (.jump 2 [.bool true,v32,.int .i64 v33,(.int .i64 (vA .i64 (v34+1))),.str A0,A1,A2,A3])
 (.opt (yC (X2.v 2)) fun a3=>.asI .i64 a3 fun n4=>.jump 2 [(.bool (dB 400 n4)),v32,.int .i64 v33,(.int .i64 (vA .i64 (v34+1))),.str A0,A1,A2,A3])) .fail)
 (.ite v3
 (.ret (.int .i64 5))
 (.call 47 [A1,(.func (.func 48) [] [])] fun a5=>
 .asB a5 fun b6=>.ite b6
 (.ret (.int .i64 143))
 (.call 49 [A2,(.func (.func 50) [] [])] fun a7=>
 .asB a7 fun b8=>.ite b8
 (.ret (.int .i64 143))
 (.ret (.int .i64 0)))))
theorem j33_2(v3:Bool)(v32:zA)(v33 v34:Int)(A0:List Nat)(A1 A2 A3:zA)(h:wp 33 (t33_2 v3 v32 v33 v34 A0 A1 A2 A3) m Q):jp 33 2 [.bool v3,v32,.int .i64 v33,.int .i64 v34,.str A0,A1,A2,A3] m Q:=kD ok33 h
def t34 (p0:zA)(A0 A1:List Nat)(A2 A3 A4:Int)(A5:Bool)(A6:Int)(A7:List Nat)(A8:Int)(A9:Bool)(B0:zA)(B1:Bool)(B2:zA)(B3:Int)(B4:zA)(B5:Int)(B6:List Nat)(B7:Int)(B8:Bool)(B9:zA)(D0:Bool)(D1:zA)(D2:Int)(D3:zA):T:=
 .heavy (dH yA 24 1 [(0,(.agg [.str A0,.str A1,.int .i64 A2,.int .i64 A3,.int .i64 A4,.bool A5,.int .u8 A6,.str A7,.int .u8 A8,.bool A9,B0,.bool B1,B2,.int .i64 B3,B4,.int .u8 B5,.str B6,.int .u8 B7,.bool B8,B9,.bool D0,D1,.int .i64 D2,D3]))]) fun a0=>
 .ite (tC zA.one [.str [120],a0]) (.call 46 [.agg [.str [120],.nilslice,.nilslice,a0]] fun a1=>
 .asB a1 fun b2=>.ite (!b2)
 (.ret (.int .i64 140))
 (.ite (jC A3 A2)
 (.ret (.int .i64 144))
 (.call 23 [.agg [.int .u8 A6,.str A7,.int .u8 A8,.bool A9,B0,.bool B1,B2,.int .i64 B3,B4]] fun a3=>
 .asI .i64 a3 fun n4=>.ite (dB 200 n4)
 (.ret (.int .i64 5))
 (.call 23 [.agg [.int .u8 B5,.str B6,.int .u8 B7,.bool B8,B9,.bool D0,D1,.int .i64 D2,D3]] fun a5=>
 .asI .i64 a5 fun n6=>.ite (dB 200 n6)
 (.ret (.int .i64 5))
 (.opt (nC p0) fun a7=>.opt (qB yA 104 0 a7) fun a8=>.light (fun m=>oA yA 26 ⟨0,m⟩ a8) fun a9=>.asG sK a9 fun X10=>
 .heavy (fG yA 59) fun oF=>
 .call 19 [(.agg [.str (X10.s 0),X10.v 1,X10.v 2,X10.v 3]),.str A0] fun a12=>
 .opt (rB 0 a12) fun a13=>.asG z0z a13 fun X14=>
 .opt (rB 1 a12) fun a15=>.asB a15 fun b16=>.heavy (cC yA 59 oF (.agg [.str (X14.s 0),.int .u8 (X14.i 1),.bool (X14.b 2)])) fun _=>
 .ite (!b16)
 (.ret (.int .i64 141))
 (.opt (qB yA 59 2 oF) fun a17=>.light (fun m=>oA yA 4 ⟨0,m⟩ a17) fun a18=>.asB a18 fun b19=>.ite b19
 (.ret (.int .i64 141))
 (.ite A5
 (.ret (.int .i64 0))
 (.ite true (.opt (qB yA 59 1 oF) fun a20=>.light (fun m=>oA yA 5 ⟨0,m⟩ a20) fun a21=>.asI .u8 a21 fun n22=>.ite true (.ite true (.jump 2 [p0,.agg [.int .u8 A6,.str A7,.int .u8 A8,.bool A9,B0,.bool B1,B2,.int .i64 B3,B4,.int .u8 1,.int .u8 B5,.str B6,.int .u8 B7,.bool B8,B9,.bool D0,D1,.int .i64 D2,D3,.int .u8 n22],.int .i64 0]) .fail) .fail) .fail)))))))) .fail
theorem w34(p0:zA)(A0 A1:List Nat)(A2 A3 A4:Int)(A5:Bool)(A6:Int)(A7:List Nat)(A8:Int)(A9:Bool)(B0:zA)(B1:Bool)(B2:zA)(B3:Int)(B4:zA)(B5:Int)(B6:List Nat)(B7:Int)(B8:Bool)(B9:zA)(D0:Bool)(D1:zA)(D2:Int)(D3:zA)(h:wp 34 (t34 p0 A0 A1 A2 A3 A4 A5 A6 A7 A8 A9 B0 B1 B2 B3 B4 B5 B6 B7 B8 B9 D0 D1 D2 D3) m Q):Wf 34 [p0,.agg [.str A0,.str A1,.int .i64 A2,.int .i64 A3,.int .i64 A4,.bool A5,.int .u8 A6,.str A7,.int .u8 A8,.bool A9,B0,.bool B1,B2,.int .i64 B3,B4,.int .u8 B5,.str B6,.int .u8 B7,.bool B8,B9,.bool D0,D1,.int .i64 D2,D3]] m Q:=iB ok34 h
def t34_2(v0:zA)(A0:Int)(A1:List Nat)(A2:Int)(A3:Bool)(A4:zA)(A5:Bool)(A6:zA)(A7:Int)(A8:zA)(A9 B0:Int)(B1:List Nat)(B2:Int)(B3:Bool)(B4:zA)(B5:Bool)(B6:zA)(B7:Int)(B8:zA)(B9 v58:Int):T:=
 .ite (dB v58 2)
 (.opt (cI yA 113 (.agg [.int .u8 A0,.str A1,.int .u8 A2,.bool A3,A4,.bool A5,A6,.int .i64 A7,A8,.int .u8 A9,.int .u8 B0,.str B1,.int .u8 B2,.bool B3,B4,.bool B5,B6,.int .i64 B7,B8,.int .u8 B9]) (.int .i64 v58)) fun a0=>.asG [.int .u8 0,.str [],.int .u8 0,.bool false,.nilslice,.bool false,.nilslice,.int .i64 0,.nilslice,.int .u8 0] a0 fun X1=>
 .ite (tC zA.one [.int .u8 (X1.i 0),.str (X1.s 1),.int .u8 (X1.i 2),.bool (X1.b 3),X1.v 4,.bool (X1.b 5),X1.v 6,.int .i64 (X1.i 7),X1.v 8,.int .u8 (X1.i 9)]) (.call 44 [v0,(.agg [.int .u8 (X1.i 0),.str (X1.s 1),.int .u8 (X1.i 2),.bool (X1.b 3),X1.v 4,.bool (X1.b 5),X1.v 6,.int .i64 (X1.i 7),X1.v 8])] fun a2=>
 .opt (rB 0 a2) fun a3=>.asI .u8 a3 fun n4=>.opt (rB 1 a2) fun a5=>.asI .i64 a5 fun n6=>.ite (!mA n6 0)
 (.ret (.int .i64 n6))
 (.ite (!mA n4 (X1.i 9))
 (.ret (.int .i64 142))
 (.jump 2 [v0,.agg [.int .u8 A0,.str A1,.int .u8 A2,.bool A3,A4,.bool A5,A6,.int .i64 A7,A8,.int .u8 A9,.int .u8 B0,.str B1,.int .u8 B2,.bool B3,B4,.bool B5,B6,.int .i64 B7,B8,.int .u8 B9],(.int .i64 (vA .i64 (v58+1)))]))) .fail)
 (.ret (.int .i64 0))
theorem z8a(v0:zA)(A0:Int)(A1:List Nat)(A2:Int)(A3:Bool)(A4:zA)(A5:Bool)(A6:zA)(A7:Int)(A8:zA)(A9 B0:Int)(B1:List Nat)(B2:Int)(B3:Bool)(B4:zA)(B5:Bool)(B6:zA)(B7:Int)(B8:zA)(B9 v58:Int)(h:wp 34 (t34_2 v0 A0 A1 A2 A3 A4 A5 A6 A7 A8 A9 B0 B1 B2 B3 B4 B5 B6 B7 B8 B9 v58) m Q):jp 34 2 [v0,.agg [.int .u8 A0,.str A1,.int .u8 A2,.bool A3,A4,.bool A5,A6,.int .i64 A7,A8,.int .u8 A9,.int .u8 B0,.str B1,.int .u8 B2,.bool B3,B4,.bool B5,B6,.int .i64 B7,B8,.int .u8 B9],.int .i64 v58] m Q:=kD ok34 h
def t43 (A0:Int)(A1:List Nat)(A2:Int)(A3:Bool)(A4:zA)(A5:Bool)(A6:zA)(A7:Int)(A8:zA):T:=
 .call 63 [] fun a0=>
 .asG [.nilptr] a0 fun X1=>
 .ite (same 10 (.agg [.int .u8 A0,.str A1,.int .u8 A2,.bool A3,A4,.bool A5,A6,.int .i64 A7,A8]) (.agg [.int .u8 A0,.str A1,.int .u8 A2,.bool A3,A4,.bool A5,A6,.int .i64 A7,A8])) (.call 64 [(.agg [X1.v 0]),.agg [.int .u8 A0,.str A1,.int .u8 A2,.bool A3,A4,.bool A5,A6,.int .i64 A7,A8],.int .i64 1] fun a2=>
 .asB a2 fun b3=>.ite (!b3)
 (.ret (.tup [.str [],.int .i64 2]))
 (.call 65 [.agg [.int .u8 A0,.str A1,.int .u8 A2,.bool A3,A4,.bool A5,A6,.int .i64 A7,A8]] fun a4=>
 .asS a4 fun s5=>.ite (dB 65536 (Int.ofNat (wB s5)))
 (.ret (.tup [.str [],.int .i64 3]))
 (.ret (.tup [.str s5,.int .i64 0])))) .fail
theorem w43(A0:Int)(A1:List Nat)(A2:Int)(A3:Bool)(A4:zA)(A5:Bool)(A6:zA)(A7:Int)(A8:zA)(h:wp 43 (t43 A0 A1 A2 A3 A4 A5 A6 A7 A8) m Q):Wf 43 [.agg [.int .u8 A0,.str A1,.int .u8 A2,.bool A3,A4,.bool A5,A6,.int .i64 A7,A8]] m Q:=iB ok43 h
def t44 (p0:zA)(A0:Int)(A1:List Nat)(A2:Int)(A3:Bool)(A4:zA)(A5:Bool)(A6:zA)(A7:Int)(A8:zA):T:=
 .heavy (fG yA 137) fun a0=>
 .opt (yC A8) fun a1=>.asI .i64 a1 fun n2=>.jump 2 [p0,a0,A8,.int .i64 n2,.int .i64 0,.int .u8 A0,.str A1,.int .u8 A2,.bool A3,A4,.bool A5,A6,.int .i64 A7,A8]
theorem w44(p0:zA)(A0:Int)(A1:List Nat)(A2:Int)(A3:Bool)(A4:zA)(A5:Bool)(A6:zA)(A7:Int)(A8:zA)(h:wp 44 (t44 p0 A0 A1 A2 A3 A4 A5 A6 A7 A8) m Q):Wf 44 [p0,.agg [.int .u8 A0,.str A1,.int .u8 A2,.bool A3,A4,.bool A5,A6,.int .i64 A7,A8]] m Q:=iB ok44 h
def z64(v0 v6 v17:zA)(v18 v19 A0:Int)(A1:List Nat)(A2:Int)(A3:Bool)(A4:zA)(A5:Bool)(A6:zA)(A7:Int)(A8:zA):T:=
 .ite (dB v19 v18)
 (.opt (jB yA 34 v17 (.int .i64 v19)) fun a0=>.light (fun m=>oA yA 36 ⟨0,m⟩ a0) fun a1=>.asG z00 a1 fun X2=>
 .ite (tC zA.one [.int .u8 (X2.i 0),.str (X2.s 1),.int .u8 (X2.i 2),.bool (X2.b 3),X2.v 4,.bool (X2.b 5),X2.v 6,.int .i64 (X2.i 7),X2.v 8]) (.call 44 [v0,(.agg [.int .u8 (X2.i 0),.str (X2.s 1),.int .u8 (X2.i 2),.bool (X2.b 3),X2.v 4,.bool (X2.b 5),X2.v 6,.int .i64 (X2.i 7),X2.v 8])] fun a3=>
 .opt (rB 0 a3) fun a4=>.asI .u8 a4 fun n5=>.opt (rB 1 a3) fun a6=>.asI .i64 a6 fun n7=>.ite (!mA n7 0)
 (.ret (.tup [.int .u8 0,.int .i64 n7]))
 (.opt (jB yA 137 v6 (.int .i64 v19)) fun a8=>.heavy (cC yA 5 a8 (.int .u8 n5)) fun _=>
 .jump 2 [v0,v6,v17,.int .i64 v18,(.int .i64 (vA .i64 (v19+1))),.int .u8 A0,.str A1,.int .u8 A2,.bool A3,A4,.bool A5,A6,.int .i64 A7,A8])) .fail)
 (.call 66 [v0,.agg [.int .u8 A0,.str A1,.int .u8 A2,.bool A3,A4,.bool A5,A6,.int .i64 A7,A8]] fun a9=>
 .opt (rB 0 a9) fun a10=>.asI .u8 a10 fun n11=>.opt (rB 1 a9) fun a12=>.asB a12 fun b13=>.ite (!b13)
 (.ret (.tup [.int .u8 0,.int .i64 141]))
 (.opt (jB yA 137 v6 (.int .i64 0)) fun a14=>.light (fun m=>oA yA 5 ⟨0,m⟩ a14) fun a15=>.asI .u8 a15 fun n16=>.opt (jB yA 137 v6 (.int .i64 1)) fun a17=>.light (fun m=>oA yA 5 ⟨0,m⟩ a17) fun a18=>.asI .u8 a18 fun n19=>.opt (jB yA 137 v6 (.int .i64 2)) fun a20=>.light (fun m=>oA yA 5 ⟨0,m⟩ a20) fun a21=>.asI .u8 a21 fun n22=>.ite true (.ite true (.ite (mA A0 1)
 (.ret (.tup [.int .u8 A2,.int .i64 0]))
 (.ite (mA A0 3)
 (.ite (mA A0 3)
 (.opt (jB yA 137 v6 (.int .i64 0)) fun a23=>.light (fun m=>oA yA 5 ⟨0,m⟩ a23) fun a24=>.asI .u8 a24 fun n25=>.jump 59 [(.bool (mA n25 4)),.int .u8 n11])
 (.ite (mA A0 21)
 (.opt (nC v0) fun a26=>.opt (qB yA 104 1 a26) fun a27=>.light (fun m=>oA yA 100 ⟨0,m⟩ a27) fun a28=>.light (fun m=>bG yA 100 ⟨0,m⟩ a28 (.agg [.int .u8 A0,.int .u8 n16,.int .u8 n19,.int .u8 n22]) true) fun a29=>.opt (rB 0 a29) fun a30=>.asI .u8 a30 fun n31=>.opt (rB 1 a29) fun a32=>.asB a32 fun b33=>.ite b33
 (.jump 59 [(.bool (mA n11 2)),.int .u8 n31])
 (.jump 59 [.bool false,.int .u8 n31]))
 (.ite (mA A0 22)
 (.opt (nC v0) fun a34=>.opt (qB yA 104 1 a34) fun a35=>.light (fun m=>oA yA 100 ⟨0,m⟩ a35) fun a36=>.light (fun m=>bG yA 100 ⟨0,m⟩ a36 (.agg [.int .u8 A0,.int .u8 n16,.int .u8 n19,.int .u8 n22]) true) fun a37=>.opt (rB 0 a37) fun a38=>.asI .u8 a38 fun n39=>.opt (rB 1 a37) fun a40=>.asB a40 fun b41=>.ite b41
 (.jump 59 [(.bool (mA n11 3)),.int .u8 n39])
 (.jump 59 [.bool false,.int .u8 n39]))
 (.opt (nC v0) fun a42=>.opt (qB yA 104 1 a42) fun a43=>.light (fun m=>oA yA 100 ⟨0,m⟩ a43) fun a44=>.light (fun m=>bG yA 100 ⟨0,m⟩ a44 (.agg [.int .u8 A0,.int .u8 n16,.int .u8 n19,.int .u8 n22]) true) fun a45=>.opt (rB 0 a45) fun a46=>.asI .u8 a46 fun n47=>.opt (rB 1 a45) fun a48=>.asB a48 fun b49=>.jump 59 [.bool b49,.int .u8 n47]))))
 (.ite (mA A0 5)
 (.opt (jB yA 137 v6 (.int .i64 0)) fun a50=>.light (fun m=>oA yA 5 ⟨0,m⟩ a50) fun a51=>.asI .u8 a51 fun n52=>.jump 59 [(.bool (mA n52 4)),.int .u8 n11])
 (.ite (mA A0 21)
 (.opt (nC v0) fun a53=>.opt (qB yA 104 1 a53) fun a54=>.light (fun m=>oA yA 100 ⟨0,m⟩ a54) fun a55=>.light (fun m=>bG yA 100 ⟨0,m⟩ a55 (.agg [.int .u8 A0,.int .u8 n16,.int .u8 n19,.int .u8 n22]) true) fun a56=>.opt (rB 0 a56) fun a57=>.asI .u8 a57 fun n58=>.opt (rB 1 a56) fun a59=>.asB a59 fun b60=>.ite b60
 (.jump 59 [(.bool (mA n11 2)),.int .u8 n58])
 (.jump 59 [.bool false,.int .u8 n58]))
 (.ite (mA A0 22)
 (.opt (nC v0) fun a61=>.opt (qB yA 104 1 a61) fun a62=>.light (fun m=>oA yA 100 ⟨0,m⟩ a62) fun a63=>.light (fun m=>bG yA 100 ⟨0,m⟩ a63 (.agg [.int .u8 A0,.int .u8 n16,.int .u8 n19,.int .u8 n22]) true) fun a64=>.opt (rB 0 a64) fun a65=>.asI .u8 a65 fun n66=>.opt (rB 1 a64) fun a67=>.asB a67 fun b68=>.ite b68
 (.jump 59 [(.bool (mA n11 3)),.int .u8 n66])
 (.jump 59 [.bool false,.int .u8 n66]))
 (.opt (nC v0) fun a69=>.opt (qB yA 104 1 a69) fun a70=>.light (fun m=>oA yA 100 ⟨0,m⟩ a70) fun a71=>.light (fun m=>bG yA 100 ⟨0,m⟩ a71 (.agg [.int .u8 A0,.int .u8 n16,.int .u8 n19,.int .u8 n22]) true) fun a72=>.opt (rB 0 a72) fun a73=>.asI .u8 a73 fun n74=>.opt (rB 1 a72) fun a75=>.asB a75 fun b76=>.jump 59 [.bool b76,.int .u8 n74])))))) .fail) .fail))
theorem j44_2(v0 v6 v17:zA)(v18 v19 A0:Int)(A1:List Nat)(A2:Int)(A3:Bool)(A4:zA)(A5:Bool)(A6:zA)(A7:Int)(A8:zA)(h:wp 44 (z64 v0 v6 v17 v18 v19 A0 A1 A2 A3 A4 A5 A6 A7 A8) m Q):jp 44 2 [v0,v6,v17,.int .i64 v18,.int .i64 v19,.int .u8 A0,.str A1,.int .u8 A2,.bool A3,A4,.bool A5,A6,.int .i64 A7,A8] m Q:=kD ok44 h
def z45(v14:Bool)(v15:Int):T:=
 .ite (!v14)
 (.ret (.tup [.int .u8 0,.int .i64 142]))
 (.ret (.tup [.int .u8 v15,.int .i64 0]))
theorem j44_59(v14:Bool)(v15:Int)(h:wp 44 (z45 v14 v15) m Q):jp 44 59 [.bool v14,.int .u8 v15] m Q:=kD ok44 h
def t46 (A0:List Nat)(A1 A2 A3:zA):T:=
 .call 63 [] fun a0=>
 .asG [.nilptr] a0 fun X1=>
 .ite (same 10 (.agg [.str A0,A1,A2,A3]) (.agg [.str A0,A1,A2,A3])) (.call 68 [(.agg [X1.v 0]),.agg [.str A0,A1,A2,A3]] fun a2=>
 .asB a2 fun b3=>.ret (.bool b3)) .fail
theorem w46(A0:List Nat)(A1 A2 A3:zA)(h:wp 46 (t46 A0 A1 A2 A3) m Q):Wf 46 [.agg [.str A0,A1,A2,A3]] m Q:=iB ok46 h
def t47 (p0 p1:zA):T:=
 .heavy dS fun a0=>
 .opt (yC p0) fun a1=>.asI .i64 a1 fun n2=>.jump 2 [p1,a0,p0,.int .i64 n2,.int .i64 0]
theorem w47(p0 p1:zA)(h:wp 47 (t47 p0 p1) m Q):Wf 47 [p0,p1] m Q:=iB ok47 h
def t47_2(v1 v5 v9:zA)(v10 v11:Int):T:=
 .ite (dB v11 v10)
 (.opt (jB yA 22 v9 (.int .i64 v11)) fun a0=>.light (fun m=>oA yA 59 ⟨0,m⟩ a0) fun a1=>.asG z0z a1 fun X2=>
 .ite true (.callv v1 [(.agg [.str (X2.s 0),.int .u8 (X2.i 1),.bool (X2.b 2)])] fun a3=>
 .asS a3 fun s4=>.light (fun m=>bG yA 140 ⟨0,m⟩ v5 (.str s4) false) fun a5=>.asB a5 fun b6=>.ite b6
 (.ret (.bool true))
 (.callv v1 [(.agg [.str (X2.s 0),.int .u8 (X2.i 1),.bool (X2.b 2)])] fun a7=>
 .asS a7 fun s8=>.heavy (eH yA 140 v5 (.str s8) (.bool true)) fun _=>
 .jump 2 [v1,v5,v9,.int .i64 v10,(.int .i64 (vA .i64 (v11+1)))])) .fail)
 (.ret (.bool false))
theorem j47_2(v1 v5 v9:zA)(v10 v11:Int)(h:wp 47 (t47_2 v1 v5 v9 v10 v11) m Q):jp 47 2 [v1,v5,v9,.int .i64 v10,.int .i64 v11] m Q:=kD ok47 h
def t48 (A0:List Nat)(A1:Int)(A2:Bool):T:=
 .ret (.str A0)
theorem w48(A0:List Nat)(A1:Int)(A2:Bool)(h:wp 48 (t48 A0 A1 A2) m Q):Wf 48 [.agg [.str A0,.int .u8 A1,.bool A2]] m Q:=iB ok48 h
def t49 (p0 p1:zA):T:=
 .heavy dS fun a0=>
 .opt (yC p0) fun a1=>.asI .i64 a1 fun n2=>.jump 2 [p1,a0,p0,.int .i64 n2,.int .i64 0]
theorem w49(p0 p1:zA)(h:wp 49 (t49 p0 p1) m Q):Wf 49 [p0,p1] m Q:=iB ok49 h
def t49_2(v1 v5 v9:zA)(v10 v11:Int):T:=
 .ite (dB v11 v10)
 (.opt (jB yA 23 v9 (.int .i64 v11)) fun a0=>.light (fun m=>oA yA 81 ⟨0,m⟩ a0) fun a1=>.asG zme a1 fun X2=>
 .ite (tC zA.one [.str (X2.s 0),.bool (X2.b 1),X2.v 2]) (.callv v1 [(.agg [.str (X2.s 0),.bool (X2.b 1),X2.v 2])] fun a3=>
 .asS a3 fun s4=>.light (fun m=>bG yA 140 ⟨0,m⟩ v5 (.str s4) false) fun a5=>.asB a5 fun b6=>.ite b6
 (.ret (.bool true))
 (.callv v1 [(.agg [.str (X2.s 0),.bool (X2.b 1),X2.v 2])] fun a7=>
 .asS a7 fun s8=>.heavy (eH yA 140 v5 (.str s8) (.bool true)) fun _=>
 .jump 2 [v1,v5,v9,.int .i64 v10,(.int .i64 (vA .i64 (v11+1)))])) .fail)
 (.ret (.bool false))
theorem j49_2(v1 v5 v9:zA)(v10 v11:Int)(h:wp 49 (t49_2 v1 v5 v9 v10 v11) m Q):jp 49 2 [v1,v5,v9,.int .i64 v10,.int .i64 v11] m Q:=kD ok49 h
def t50 (A0:List Nat)(A1:Bool)(A2:zA):T:=
 .ret (.str A0)
theorem w50(A0:List Nat)(A1:Bool)(A2:zA)(h:wp 50 (t50 A0 A1 A2) m Q):Wf 50 [.agg [.str A0,.bool A1,A2]] m Q:=iB ok50 h
def t54 (A0:List Nat)(A1 A2 A3:zA)(p1:List Nat):T:=
 .opt (yC A2) fun a0=>.asI .i64 a0 fun n1=>.jump 2 [.str p1,A2,.int .i64 n1,.int .i64 0,.str [],.bool false,.nilslice]
theorem w54(A0:List Nat)(A1 A2 A3:zA)(p1:List Nat)(h:wp 54 (t54 A0 A1 A2 A3 p1) m Q):Wf 54 [.agg [.str A0,A1,A2,A3],.str p1] m Q:=iB ok54 h
def t54_2(v1:List Nat)(v9:zA)(v10 v11:Int)(A0:List Nat)(A1:Bool)(A2:zA):T:=
 .ite (dB v11 v10)
 (.opt (jB yA 23 v9 (.int .i64 v11)) fun a0=>.light (fun m=>oA yA 81 ⟨0,m⟩ a0) fun a1=>.asG zme a1 fun X2=>
 .ite (tC zA.one [.str (X2.s 0),.bool (X2.b 1),X2.v 2]) (.ite (zF (X2.s 0) v1)
 (.ite (tC zA.one [.str (X2.s 0),.bool (X2.b 1),X2.v 2]) (.ret (.tup [(.agg [.str (X2.s 0),.bool (X2.b 1),X2.v 2]),.bool true])) .fail)
 (.jump 2 [.str v1,v9,.int .i64 v10,(.int .i64 (vA .i64 (v11+1))),.str A0,.bool A1,A2])) .fail)
 (.ite true (.ite true (.ret (.tup [.agg [.str [],.bool false,.nilslice],.bool false])) .fail) .fail)
theorem z79(v1:List Nat)(v9:zA)(v10 v11:Int)(A0:List Nat)(A1:Bool)(A2:zA)(h:wp 54 (t54_2 v1 v9 v10 v11 A0 A1 A2) m Q):jp 54 2 [.str v1,v9,.int .i64 v10,.int .i64 v11,.str A0,.bool A1,A2] m Q:=kD ok54 h
def t63  : T:=
 .call 83 [] fun a0=>
 .ite (tC zA.one [a0]) (.ite (tC zA.one [a0]) (.ret (.agg [a0])) .fail) .fail
theorem w63 (h:wp 63 (t63 ) m Q):Wf 63 [] m Q:=iB ok63 h
def t64 (A0:zA)(A1:Int)(A2:List Nat)(A3:Int)(A4:Bool)(A5:zA)(A6:Bool)(A7:zA)(A8:Int)(A9:zA)(p2:Int):T:=
 .ite (dB 24 p2)
 (.ret (.bool false))
 (.ite (jC 27 (vA .i64 A1))
 (.ret (.bool false))
 (.opt (nC A0) fun a0=>.opt (jB yA 188 a0 (.int .u8 A1)) fun a1=>.opt (nC a1) fun a2=>.opt (qB yA 159 0 a2) fun a3=>.light (fun m=>oA yA 5 ⟨0,m⟩ a3) fun a4=>.asI .u8 a4 fun n5=>.ite (mA n5 0)
 (.ret (.bool false))
 (.opt (yC A9) fun a6=>.asI .i64 a6 fun n7=>.opt (nC a1) fun a8=>.opt (qB yA 159 3 a8) fun a9=>.light (fun m=>oA yA 3 ⟨0,m⟩ a9) fun a10=>.asI .i64 a10 fun n11=>.ite (dB n7 n11)
 (.ret (.bool false))
 (.opt (yC A9) fun a12=>.asI .i64 a12 fun n13=>.opt (nC a1) fun a14=>.opt (qB yA 159 4 a14) fun a15=>.light (fun m=>oA yA 3 ⟨0,m⟩ a15) fun a16=>.asI .i64 a16 fun n17=>.ite (dB n17 n13)
 (.ret (.bool false))
 (.opt (nC a1) fun a18=>.opt (qB yA 159 2 a18) fun a19=>.light (fun m=>oA yA 4 ⟨0,m⟩ a19) fun a20=>.asB a20 fun b21=>.ite b21
 (.call 84 [.str A2] fun a22=>
 .asB a22 fun b23=>.ite (!b23)
 (.ret (.bool false))
 (.opt (nC a1) fun a24=>.opt (qB yA 159 2 a24) fun a25=>.light (fun m=>oA yA 4 ⟨0,m⟩ a25) fun a26=>.asB a26 fun b27=>.ite (!b27)
 (.ite (!zF A2 [])
 (.ret (.bool false))
 (.ite (tC zA.one [.int .u8 A3,.bool A4,A5,.bool A6,A7,.int .i64 A8]) (.ite (mA A1 1)
 (.call 85 [.agg [.int .u8 A3,.bool A4,A5,.bool A6,A7,.int .i64 A8]] fun a28=>
 .asB a28 fun b29=>.ret (.bool b29))
 (.ite (mA A1 19)
 (.ite (dB A8 1)
 (.ret (.bool false))
 (.ite (dB 6 A8)
 (.ret (.bool false))
 (.ite true (.jump 33 [.int .i64 p2,A0,.int .u8 A1,.str A2,.int .u8 A3,.bool A4,A5,.bool A6,A7,.int .i64 A8,A9,.int .u8 A3,.bool A4,A5,.bool A6,A7,.int .i64 0]) .fail)))
 (.jump 33 [.int .i64 p2,A0,.int .u8 A1,.str A2,.int .u8 A3,.bool A4,A5,.bool A6,A7,.int .i64 A8,A9,.int .u8 A3,.bool A4,A5,.bool A6,A7,.int .i64 A8]))) .fail))
 (.ite (tC zA.one [.int .u8 A3,.bool A4,A5,.bool A6,A7,.int .i64 A8]) (.ite (mA A1 1)
 (.call 85 [.agg [.int .u8 A3,.bool A4,A5,.bool A6,A7,.int .i64 A8]] fun a30=>
 .asB a30 fun b31=>.ret (.bool b31))
 (.ite (mA A1 19)
 (.ite (dB A8 1)
 (.ret (.bool false))
 (.ite (dB 6 A8)
 (.ret (.bool false))
 (.ite true (.jump 33 [.int .i64 p2,A0,.int .u8 A1,.str A2,.int .u8 A3,.bool A4,A5,.bool A6,A7,.int .i64 A8,A9,.int .u8 A3,.bool A4,A5,.bool A6,A7,.int .i64 0]) .fail)))
 (.jump 33 [.int .i64 p2,A0,.int .u8 A1,.str A2,.int .u8 A3,.bool A4,A5,.bool A6,A7,.int .i64 A8,A9,.int .u8 A3,.bool A4,A5,.bool A6,A7,.int .i64 A8]))) .fail)))
 (.opt (nC a1) fun a32=>.opt (qB yA 159 2 a32) fun a33=>.light (fun m=>oA yA 4 ⟨0,m⟩ a33) fun a34=>.asB a34 fun b35=>.ite (!b35)
 (.ite (!zF A2 [])
 (.ret (.bool false))
 (.ite (tC zA.one [.int .u8 A3,.bool A4,A5,.bool A6,A7,.int .i64 A8]) (.ite (mA A1 1)
 (.call 85 [.agg [.int .u8 A3,.bool A4,A5,.bool A6,A7,.int .i64 A8]] fun a36=>
 .asB a36 fun b37=>.ret (.bool b37))
 (.ite (mA A1 19)
 (.ite (dB A8 1)
 (.ret (.bool false))
 (.ite (dB 6 A8)
 (.ret (.bool false))
 (.ite true (.jump 33 [.int .i64 p2,A0,.int .u8 A1,.str A2,.int .u8 A3,.bool A4,A5,.bool A6,A7,.int .i64 A8,A9,.int .u8 A3,.bool A4,A5,.bool A6,A7,.int .i64 0]) .fail)))
 (.jump 33 [.int .i64 p2,A0,.int .u8 A1,.str A2,.int .u8 A3,.bool A4,A5,.bool A6,A7,.int .i64 A8,A9,.int .u8 A3,.bool A4,A5,.bool A6,A7,.int .i64 A8]))) .fail))
 (.ite (tC zA.one [.int .u8 A3,.bool A4,A5,.bool A6,A7,.int .i64 A8]) (.ite (mA A1 1)
 (.call 85 [.agg [.int .u8 A3,.bool A4,A5,.bool A6,A7,.int .i64 A8]] fun a38=>
 .asB a38 fun b39=>.ret (.bool b39))
 (.ite (mA A1 19)
 (.ite (dB A8 1)
 (.ret (.bool false))
 (.ite (dB 6 A8)
 (.ret (.bool false))
 (.ite true (.jump 33 [.int .i64 p2,A0,.int .u8 A1,.str A2,.int .u8 A3,.bool A4,A5,.bool A6,A7,.int .i64 A8,A9,.int .u8 A3,.bool A4,A5,.bool A6,A7,.int .i64 0]) .fail)))
 (.jump 33 [.int .i64 p2,A0,.int .u8 A1,.str A2,.int .u8 A3,.bool A4,A5,.bool A6,A7,.int .i64 A8,A9,.int .u8 A3,.bool A4,A5,.bool A6,A7,.int .i64 A8]))) .fail)))))))
theorem w64(A0:zA)(A1:Int)(A2:List Nat)(A3:Int)(A4:Bool)(A5:zA)(A6:Bool)(A7:zA)(A8:Int)(A9:zA)(p2:Int)(h:wp 64 (t64 A0 A1 A2 A3 A4 A5 A6 A7 A8 A9 p2) m Q):Wf 64 [.agg [A0],.agg [.int .u8 A1,.str A2,.int .u8 A3,.bool A4,A5,.bool A6,A7,.int .i64 A8,A9],.int .i64 p2] m Q:=iB ok64 h
def z44(v2:Int)(A0:zA)(A1:Int)(A2:List Nat)(A3:Int)(A4:Bool)(A5:zA)(A6:Bool)(A7:zA)(A8:Int)(A9:zA)(B0:Int)(B1:Bool)(B2:zA)(B3:Bool)(B4:zA)(B5:Int):T:=
 .call 86 [.agg [.int .u8 B0,.bool B1,B2,.bool B3,B4,.int .i64 B5]] fun a0=>
 .asB a0 fun b1=>.ite (!b1)
 (.ret (.bool false))
 (.opt (yC A9) fun a2=>.asI .i64 a2 fun n3=>.jump 4 [.int .i64 v2,A9,.int .i64 n3,.int .i64 0,A0])
theorem j64_33(v2:Int)(A0:zA)(A1:Int)(A2:List Nat)(A3:Int)(A4:Bool)(A5:zA)(A6:Bool)(A7:zA)(A8:Int)(A9:zA)(B0:Int)(B1:Bool)(B2:zA)(B3:Bool)(B4:zA)(B5:Int)(h:wp 64 (z44 v2 A0 A1 A2 A3 A4 A5 A6 A7 A8 A9 B0 B1 B2 B3 B4 B5) m Q):jp 64 33 [.int .i64 v2,A0,.int .u8 A1,.str A2,.int .u8 A3,.bool A4,A5,.bool A6,A7,.int .i64 A8,A9,.int .u8 B0,.bool B1,B2,.bool B3,B4,.int .i64 B5] m Q:=kD ok64 h
def z63(v2:Int)(v95:zA)(v96 v97:Int)(A0:zA):T:=
 .ite (dB v97 v96)
 (.opt (jB yA 34 v95 (.int .i64 v97)) fun a0=>.light (fun m=>oA yA 36 ⟨0,m⟩ a0) fun a1=>.asG z00 a1 fun X2=>
 .ite (tC zA.one [.int .u8 (X2.i 0),.str (X2.s 1),.int .u8 (X2.i 2),.bool (X2.b 3),X2.v 4,.bool (X2.b 5),X2.v 6,.int .i64 (X2.i 7),X2.v 8]) (.call 64 [.agg [A0],(.agg [.int .u8 (X2.i 0),.str (X2.s 1),.int .u8 (X2.i 2),.bool (X2.b 3),X2.v 4,.bool (X2.b 5),X2.v 6,.int .i64 (X2.i 7),X2.v 8]),(.int .i64 (vA .i64 (v2+1)))] fun a3=>
 .asB a3 fun b4=>.ite (!b4)
 (.ret (.bool false))
 (.jump 4 [.int .i64 v2,v95,.int .i64 v96,(.int .i64 (vA .i64 (v97+1))),A0])) .fail)
 (.ret (.bool true))
theorem j64_4(v2:Int)(v95:zA)(v96 v97:Int)(A0:zA)(h:wp 64 (z63 v2 v95 v96 v97 A0) m Q):jp 64 4 [.int .i64 v2,v95,.int .i64 v96,.int .i64 v97,A0] m Q:=kD ok64 h
def t65 (A0:Int)(A1:List Nat)(A2:Int)(A3:Bool)(A4:zA)(A5:Bool)(A6:zA)(A7:Int)(A8:zA):T:=
 .call 83 [] fun a0=>
 .ite (tC zA.one [a0]) (.heavy (zr5 yA 166 (.agg [.nilptr,.nilslice,a0])) fun a1=>
 .call 87 [a1,.agg [.int .u8 A0,.str A1,.int .u8 A2,.bool A3,A4,.bool A5,A6,.int .i64 A7,A8]] fun a2=>
 .opt (nC a1) fun a3=>.opt (qB yA 166 0 a3) fun a4=>.call 88 [a4] fun a5=>
 .asS a5 fun s6=>.ret (.str s6)) .fail
theorem w65(A0:Int)(A1:List Nat)(A2:Int)(A3:Bool)(A4:zA)(A5:Bool)(A6:zA)(A7:Int)(A8:zA)(h:wp 65 (t65 A0 A1 A2 A3 A4 A5 A6 A7 A8) m Q):Wf 65 [.agg [.int .u8 A0,.str A1,.int .u8 A2,.bool A3,A4,.bool A5,A6,.int .i64 A7,A8]] m Q:=iB ok65 h
def t66 (p0:zA)(A0:Int)(A1:List Nat)(A2:Int)(A3:Bool)(A4:zA)(A5:Bool)(A6:zA)(A7:Int)(A8:zA):T:=
 .ite (mA A0 3)
 (.ite (mA A0 3)
 (.opt (nC p0) fun a0=>.opt (qB yA 104 0 a0) fun a1=>.light (fun m=>oA yA 26 ⟨0,m⟩ a1) fun a2=>.asG sK a2 fun X3=>
 .heavy (fG yA 59) fun a4=>
 .call 19 [(.agg [.str (X3.s 0),X3.v 1,X3.v 2,X3.v 3]),.str A1] fun a5=>
 .opt (rB 0 a5) fun a6=>.asG z0z a6 fun X7=>
 .opt (rB 1 a5) fun a8=>.asB a8 fun b9=>.heavy (cC yA 59 a4 (.agg [.str (X7.s 0),.int .u8 (X7.i 1),.bool (X7.b 2)])) fun _=>
 .ite b9
 (.opt (qB yA 59 2 a4) fun a10=>.light (fun m=>oA yA 4 ⟨0,m⟩ a10) fun oF=>.asB oF fun b12=>.opt (qB yA 59 1 a4) fun a13=>.light (fun m=>oA yA 5 ⟨0,m⟩ a13) fun a14=>.asI .u8 a14 fun n15=>.ite (bEq b12 (!mA A0 5))
 (.opt (qB yA 59 1 a4) fun a16=>.light (fun m=>oA yA 5 ⟨0,m⟩ a16) fun a17=>.asI .u8 a17 fun n18=>.ite (jC 1 n18)
 (.opt (qB yA 59 1 a4) fun a19=>.light (fun m=>oA yA 5 ⟨0,m⟩ a19) fun a20=>.asI .u8 a20 fun n21=>.ret (.tup [.int .u8 n15,(.bool (jC n21 6))]))
 (.ret (.tup [.int .u8 n15,.bool false])))
 (.ret (.tup [.int .u8 n15,.bool false])))
 (.opt (qB yA 59 1 a4) fun a22=>.light (fun m=>oA yA 5 ⟨0,m⟩ a22) fun a23=>.asI .u8 a23 fun n24=>.ret (.tup [.int .u8 n24,.bool false])))
 (.ite (mA A0 6)
 (.opt (nC p0) fun a25=>.opt (qB yA 104 0 a25) fun a26=>.light (fun m=>oA yA 26 ⟨0,m⟩ a26) fun a27=>.asG sK a27 fun X28=>
 .heavy (fG yA 81) fun a29=>
 .call 54 [(.agg [.str (X28.s 0),X28.v 1,X28.v 2,X28.v 3]),.str A1] fun a30=>
 .opt (rB 0 a30) fun a31=>.asG zme a31 fun X32=>
 .opt (rB 1 a30) fun a33=>.asB a33 fun b34=>.heavy (cC yA 81 a29 (.agg [.str (X32.s 0),.bool (X32.b 1),X32.v 2])) fun _=>
 .ite b34
 (.opt (qB yA 81 1 a29) fun a35=>.light (fun m=>oA yA 4 ⟨0,m⟩ a35) fun a36=>.asB a36 fun b37=>.opt (yC A8) fun a38=>.asI .i64 a38 fun n39=>.ret (.tup [.int .u8 0,(.bool (bEq b37 (mA n39 2)))]))
 (.ret (.tup [.int .u8 0,.bool false])))
 (.ite (mA A0 23)
 (.opt (nC p0) fun a40=>.opt (qB yA 104 0 a40) fun a41=>.light (fun m=>oA yA 26 ⟨0,m⟩ a41) fun a42=>.asG sK a42 fun X43=>
 .heavy (fG yA 81) fun a44=>
 .call 54 [(.agg [.str (X43.s 0),X43.v 1,X43.v 2,X43.v 3]),.str A1] fun a45=>
 .opt (rB 0 a45) fun a46=>.asG zme a46 fun X47=>
 .opt (rB 1 a45) fun a48=>.asB a48 fun b49=>.heavy (cC yA 81 a44 (.agg [.str (X47.s 0),.bool (X47.b 1),X47.v 2])) fun _=>
 .ite b49
 (.opt (qB yA 81 1 a44) fun a50=>.light (fun m=>oA yA 4 ⟨0,m⟩ a50) fun a51=>.asB a51 fun b52=>.ret (.tup [.int .u8 0,(.bool (!b52))]))
 (.ret (.tup [.int .u8 0,.bool false])))
 (.ret (.tup [.int .u8 0,.bool true])))))
 (.ite (mA A0 4)
 (.ite (mA A0 4)
 (.opt (nC p0) fun a53=>.opt (qB yA 104 0 a53) fun a54=>.light (fun m=>oA yA 26 ⟨0,m⟩ a54) fun a55=>.asG sK a55 fun X56=>
 .heavy (fG yA 59) fun a57=>
 .call 19 [(.agg [.str (X56.s 0),X56.v 1,X56.v 2,X56.v 3]),.str A1] fun a58=>
 .opt (rB 0 a58) fun a59=>.asG z0z a59 fun X60=>
 .opt (rB 1 a58) fun a61=>.asB a61 fun b62=>.heavy (cC yA 59 a57 (.agg [.str (X60.s 0),.int .u8 (X60.i 1),.bool (X60.b 2)])) fun _=>
 .ite b62
 (.opt (qB yA 59 2 a57) fun a63=>.light (fun m=>oA yA 4 ⟨0,m⟩ a63) fun a64=>.asB a64 fun b65=>.opt (qB yA 59 1 a57) fun a66=>.light (fun m=>oA yA 5 ⟨0,m⟩ a66) fun a67=>.asI .u8 a67 fun n68=>.ite (bEq b65 (!mA A0 5))
 (.opt (qB yA 59 1 a57) fun a69=>.light (fun m=>oA yA 5 ⟨0,m⟩ a69) fun a70=>.asI .u8 a70 fun n71=>.ite (jC 1 n71)
 (.opt (qB yA 59 1 a57) fun a72=>.light (fun m=>oA yA 5 ⟨0,m⟩ a72) fun a73=>.asI .u8 a73 fun n74=>.ret (.tup [.int .u8 n68,(.bool (jC n74 6))]))
 (.ret (.tup [.int .u8 n68,.bool false])))
 (.ret (.tup [.int .u8 n68,.bool false])))
 (.opt (qB yA 59 1 a57) fun a75=>.light (fun m=>oA yA 5 ⟨0,m⟩ a75) fun a76=>.asI .u8 a76 fun n77=>.ret (.tup [.int .u8 n77,.bool false])))
 (.ite (mA A0 6)
 (.opt (nC p0) fun a78=>.opt (qB yA 104 0 a78) fun a79=>.light (fun m=>oA yA 26 ⟨0,m⟩ a79) fun a80=>.asG sK a80 fun X81=>
 .heavy (fG yA 81) fun a82=>
 .call 54 [(.agg [.str (X81.s 0),X81.v 1,X81.v 2,X81.v 3]),.str A1] fun a83=>
 .opt (rB 0 a83) fun a84=>.asG zme a84 fun X85=>
 .opt (rB 1 a83) fun a86=>.asB a86 fun b87=>.heavy (cC yA 81 a82 (.agg [.str (X85.s 0),.bool (X85.b 1),X85.v 2])) fun _=>
 .ite b87
 (.opt (qB yA 81 1 a82) fun a88=>.light (fun m=>oA yA 4 ⟨0,m⟩ a88) fun a89=>.asB a89 fun b90=>.opt (yC A8) fun a91=>.asI .i64 a91 fun n92=>.ret (.tup [.int .u8 0,(.bool (bEq b90 (mA n92 2)))]))
 (.ret (.tup [.int .u8 0,.bool false])))
 (.ite (mA A0 23)
 (.opt (nC p0) fun a93=>.opt (qB yA 104 0 a93) fun a94=>.light (fun m=>oA yA 26 ⟨0,m⟩ a94) fun a95=>.asG sK a95 fun X96=>
 .heavy (fG yA 81) fun a97=>
 .call 54 [(.agg [.str (X96.s 0),X96.v 1,X96.v 2,X96.v 3]),.str A1] fun a98=>
 .opt (rB 0 a98) fun a99=>.asG zme a99 fun X100=>
 .opt (rB 1 a98) fun a101=>.asB a101 fun b102=>.heavy (cC yA 81 a97 (.agg [.str (X100.s 0),.bool (X100.b 1),X100.v 2])) fun _=>
 .ite b102
 (.opt (qB yA 81 1 a97) fun a103=>.light (fun m=>oA yA 4 ⟨0,m⟩ a103) fun a104=>.asB a104 fun b105=>.ret (.tup [.int .u8 0,(.bool (!b105))]))
 (.ret (.tup [.int .u8 0,.bool false])))
 (.ret (.tup [.int .u8 0,.bool true])))))
 (.ite (mA A0 21)
 (.ite (mA A0 21)
 (.opt (nC p0) fun a106=>.opt (qB yA 104 0 a106) fun a107=>.light (fun m=>oA yA 26 ⟨0,m⟩ a107) fun a108=>.asG sK a108 fun X109=>
 .heavy (fG yA 59) fun z4q=>
 .call 19 [(.agg [.str (X109.s 0),X109.v 1,X109.v 2,X109.v 3]),.str A1] fun a111=>
 .opt (rB 0 a111) fun a112=>.asG z0z a112 fun X113=>
 .opt (rB 1 a111) fun a114=>.asB a114 fun b115=>.heavy (cC yA 59 z4q (.agg [.str (X113.s 0),.int .u8 (X113.i 1),.bool (X113.b 2)])) fun _=>
 .ite b115
 (.opt (qB yA 59 2 z4q) fun a116=>.light (fun m=>oA yA 4 ⟨0,m⟩ a116) fun a117=>.asB a117 fun b118=>.opt (qB yA 59 1 z4q) fun a119=>.light (fun m=>oA yA 5 ⟨0,m⟩ a119) fun a120=>.asI .u8 a120 fun n121=>.ite (bEq b118 (!mA A0 5))
 (.opt (qB yA 59 1 z4q) fun a122=>.light (fun m=>oA yA 5 ⟨0,m⟩ a122) fun a123=>.asI .u8 a123 fun n124=>.ite (jC 1 n124)
 (.opt (qB yA 59 1 z4q) fun a125=>.light (fun m=>oA yA 5 ⟨0,m⟩ a125) fun a126=>.asI .u8 a126 fun n127=>.ret (.tup [.int .u8 n121,(.bool (jC n127 6))]))
 (.ret (.tup [.int .u8 n121,.bool false])))
 (.ret (.tup [.int .u8 n121,.bool false])))
 (.opt (qB yA 59 1 z4q) fun a128=>.light (fun m=>oA yA 5 ⟨0,m⟩ a128) fun a129=>.asI .u8 a129 fun n130=>.ret (.tup [.int .u8 n130,.bool false])))
 (.ite (mA A0 6)
 (.opt (nC p0) fun a131=>.opt (qB yA 104 0 a131) fun a132=>.light (fun m=>oA yA 26 ⟨0,m⟩ a132) fun a133=>.asG sK a133 fun X134=>
 .heavy (fG yA 81) fun a135=>
 .call 54 [(.agg [.str (X134.s 0),X134.v 1,X134.v 2,X134.v 3]),.str A1] fun a136=>
 .opt (rB 0 a136) fun a137=>.asG zme a137 fun X138=>
 .opt (rB 1 a136) fun a139=>.asB a139 fun b140=>.heavy (cC yA 81 a135 (.agg [.str (X138.s 0),.bool (X138.b 1),X138.v 2])) fun _=>
 .ite b140
 (.opt (qB yA 81 1 a135) fun a141=>.light (fun m=>oA yA 4 ⟨0,m⟩ a141) fun a142=>.asB a142 fun b143=>.opt (yC A8) fun a144=>.asI .i64 a144 fun n145=>.ret (.tup [.int .u8 0,(.bool (bEq b143 (mA n145 2)))]))
 (.ret (.tup [.int .u8 0,.bool false])))
 (.ite (mA A0 23)
 (.opt (nC p0) fun a146=>.opt (qB yA 104 0 a146) fun a147=>.light (fun m=>oA yA 26 ⟨0,m⟩ a147) fun a148=>.asG sK a148 fun X149=>
 .heavy (fG yA 81) fun a150=>
 .call 54 [(.agg [.str (X149.s 0),X149.v 1,X149.v 2,X149.v 3]),.str A1] fun a151=>
 .opt (rB 0 a151) fun a152=>.asG zme a152 fun X153=>
 .opt (rB 1 a151) fun a154=>.asB a154 fun b155=>.heavy (cC yA 81 a150 (.agg [.str (X153.s 0),.bool (X153.b 1),X153.v 2])) fun _=>
 .ite b155
 (.opt (qB yA 81 1 a150) fun a156=>.light (fun m=>oA yA 4 ⟨0,m⟩ a156) fun a157=>.asB a157 fun b158=>.ret (.tup [.int .u8 0,(.bool (!b158))]))
 (.ret (.tup [.int .u8 0,.bool false])))
 (.ret (.tup [.int .u8 0,.bool true])))))
 (.ite (mA A0 22)
 (.ite (mA A0 22)
 (.opt (nC p0) fun a159=>.opt (qB yA 104 0 a159) fun a160=>.light (fun m=>oA yA 26 ⟨0,m⟩ a160) fun a161=>.asG sK a161 fun X162=>
 .heavy (fG yA 59) fun a163=>
 .call 19 [(.agg [.str (X162.s 0),X162.v 1,X162.v 2,X162.v 3]),.str A1] fun a164=>
 .opt (rB 0 a164) fun a165=>.asG z0z a165 fun X166=>
 .opt (rB 1 a164) fun a167=>.asB a167 fun b168=>.heavy (cC yA 59 a163 (.agg [.str (X166.s 0),.int .u8 (X166.i 1),.bool (X166.b 2)])) fun _=>
 .ite b168
 (.opt (qB yA 59 2 a163) fun a169=>.light (fun m=>oA yA 4 ⟨0,m⟩ a169) fun a170=>.asB a170 fun b171=>.opt (qB yA 59 1 a163) fun a172=>.light (fun m=>oA yA 5 ⟨0,m⟩ a172) fun a173=>.asI .u8 a173 fun n174=>.ite (bEq b171 (!mA A0 5))
 (.opt (qB yA 59 1 a163) fun a175=>.light (fun m=>oA yA 5 ⟨0,m⟩ a175) fun a176=>.asI .u8 a176 fun n177=>.ite (jC 1 n177)
 (.opt (qB yA 59 1 a163) fun a178=>.light (fun m=>oA yA 5 ⟨0,m⟩ a178) fun a179=>.asI .u8 a179 fun n180=>.ret (.tup [.int .u8 n174,(.bool (jC n180 6))]))
 (.ret (.tup [.int .u8 n174,.bool false])))
 (.ret (.tup [.int .u8 n174,.bool false])))
 (.opt (qB yA 59 1 a163) fun a181=>.light (fun m=>oA yA 5 ⟨0,m⟩ a181) fun a182=>.asI .u8 a182 fun n183=>.ret (.tup [.int .u8 n183,.bool false])))
 (.ite (mA A0 6)
 (.opt (nC p0) fun a184=>.opt (qB yA 104 0 a184) fun a185=>.light (fun m=>oA yA 26 ⟨0,m⟩ a185) fun a186=>.asG sK a186 fun X187=>
 .heavy (fG yA 81) fun a188=>
 .call 54 [(.agg [.str (X187.s 0),X187.v 1,X187.v 2,X187.v 3]),.str A1] fun a189=>
 .opt (rB 0 a189) fun a190=>.asG zme a190 fun X191=>
 .opt (rB 1 a189) fun a192=>.asB a192 fun b193=>.heavy (cC yA 81 a188 (.agg [.str (X191.s 0),.bool (X191.b 1),X191.v 2])) fun _=>
 .ite b193
 (.opt (qB yA 81 1 a188) fun a194=>.light (fun m=>oA yA 4 ⟨0,m⟩ a194) fun a195=>.asB a195 fun b196=>.opt (yC A8) fun a197=>.asI .i64 a197 fun n198=>.ret (.tup [.int .u8 0,(.bool (bEq b196 (mA n198 2)))]))
 (.ret (.tup [.int .u8 0,.bool false])))
 (.ite (mA A0 23)
 (.opt (nC p0) fun a199=>.opt (qB yA 104 0 a199) fun a200=>.light (fun m=>oA yA 26 ⟨0,m⟩ a200) fun a201=>.asG sK a201 fun X202=>
 .heavy (fG yA 81) fun a203=>
 .call 54 [(.agg [.str (X202.s 0),X202.v 1,X202.v 2,X202.v 3]),.str A1] fun a204=>
 .opt (rB 0 a204) fun a205=>.asG zme a205 fun X206=>
 .opt (rB 1 a204) fun a207=>.asB a207 fun b208=>.heavy (cC yA 81 a203 (.agg [.str (X206.s 0),.bool (X206.b 1),X206.v 2])) fun _=>
 .ite b208
 (.opt (qB yA 81 1 a203) fun a209=>.light (fun m=>oA yA 4 ⟨0,m⟩ a209) fun a210=>.asB a210 fun b211=>.ret (.tup [.int .u8 0,(.bool (!b211))]))
 (.ret (.tup [.int .u8 0,.bool false])))
 (.ret (.tup [.int .u8 0,.bool true])))))
 (.ite (mA A0 5)
 (.opt (nC p0) fun a212=>.opt (qB yA 104 0 a212) fun a213=>.light (fun m=>oA yA 26 ⟨0,m⟩ a213) fun a214=>.asG sK a214 fun X215=>
 .heavy (fG yA 59) fun z4p=>
 .call 19 [(.agg [.str (X215.s 0),X215.v 1,X215.v 2,X215.v 3]),.str A1] fun a217=>
 .opt (rB 0 a217) fun a218=>.asG z0z a218 fun X219=>
 .opt (rB 1 a217) fun a220=>.asB a220 fun b221=>.heavy (cC yA 59 z4p (.agg [.str (X219.s 0),.int .u8 (X219.i 1),.bool (X219.b 2)])) fun _=>
 .ite b221
 (.opt (qB yA 59 2 z4p) fun a222=>.light (fun m=>oA yA 4 ⟨0,m⟩ a222) fun a223=>.asB a223 fun b224=>.opt (qB yA 59 1 z4p) fun a225=>.light (fun m=>oA yA 5 ⟨0,m⟩ a225) fun a226=>.asI .u8 a226 fun n227=>.ite (bEq b224 (!mA A0 5))
 (.opt (qB yA 59 1 z4p) fun a228=>.light (fun m=>oA yA 5 ⟨0,m⟩ a228) fun a229=>.asI .u8 a229 fun n230=>.ite (jC 1 n230)
 (.opt (qB yA 59 1 z4p) fun a231=>.light (fun m=>oA yA 5 ⟨0,m⟩ a231) fun a232=>.asI .u8 a232 fun n233=>.ret (.tup [.int .u8 n227,(.bool (jC n233 6))]))
 (.ret (.tup [.int .u8 n227,.bool false])))
 (.ret (.tup [.int .u8 n227,.bool false])))
 (.opt (qB yA 59 1 z4p) fun a234=>.light (fun m=>oA yA 5 ⟨0,m⟩ a234) fun a235=>.asI .u8 a235 fun n236=>.ret (.tup [.int .u8 n236,.bool false])))
 (.ite (mA A0 6)
 (.opt (nC p0) fun a237=>.opt (qB yA 104 0 a237) fun a238=>.light (fun m=>oA yA 26 ⟨0,m⟩ a238) fun a239=>.asG sK a239 fun X240=>
 .heavy (fG yA 81) fun a241=>
 .call 54 [(.agg [.str (X240.s 0),X240.v 1,X240.v 2,X240.v 3]),.str A1] fun a242=>
 .opt (rB 0 a242) fun a243=>.asG zme a243 fun X244=>
 .opt (rB 1 a242) fun a245=>.asB a245 fun b246=>.heavy (cC yA 81 a241 (.agg [.str (X244.s 0),.bool (X244.b 1),X244.v 2])) fun _=>
 .ite b246
 (.opt (qB yA 81 1 a241) fun a247=>.light (fun m=>oA yA 4 ⟨0,m⟩ a247) fun a248=>.asB a248 fun b249=>.opt (yC A8) fun a250=>.asI .i64 a250 fun n251=>.ret (.tup [.int .u8 0,(.bool (bEq b249 (mA n251 2)))]))
 (.ret (.tup [.int .u8 0,.bool false])))
 (.ite (mA A0 23)
 (.opt (nC p0) fun a252=>.opt (qB yA 104 0 a252) fun a253=>.light (fun m=>oA yA 26 ⟨0,m⟩ a253) fun a254=>.asG sK a254 fun X255=>
 .heavy (fG yA 81) fun a256=>
 .call 54 [(.agg [.str (X255.s 0),X255.v 1,X255.v 2,X255.v 3]),.str A1] fun a257=>
 .opt (rB 0 a257) fun a258=>.asG zme a258 fun X259=>
 .opt (rB 1 a257) fun a260=>.asB a260 fun b261=>.heavy (cC yA 81 a256 (.agg [.str (X259.s 0),.bool (X259.b 1),X259.v 2])) fun _=>
 .ite b261
 (.opt (qB yA 81 1 a256) fun a262=>.light (fun m=>oA yA 4 ⟨0,m⟩ a262) fun a263=>.asB a263 fun b264=>.ret (.tup [.int .u8 0,(.bool (!b264))]))
 (.ret (.tup [.int .u8 0,.bool false])))
 (.ret (.tup [.int .u8 0,.bool true]))))))))
theorem w66(p0:zA)(A0:Int)(A1:List Nat)(A2:Int)(A3:Bool)(A4:zA)(A5:Bool)(A6:zA)(A7:Int)(A8:zA)(h:wp 66 (t66 p0 A0 A1 A2 A3 A4 A5 A6 A7 A8) m Q):Wf 66 [p0,.agg [.int .u8 A0,.str A1,.int .u8 A2,.bool A3,A4,.bool A5,A6,.int .i64 A7,A8]] m Q:=iB ok66 h
def t68 (A0:zA)(A1:List Nat)(A2 A3 A4:zA):T:=
 .call 84 [.str A1] fun a0=>
 .asB a0 fun b1=>.ite b1
 (.call 91 [A2,(.func (.func 90) [] [])] fun a2=>
 .asB a2 fun b3=>.ite b3
 (.call 92 [A3,(.func (.func 93) [] [])] fun a4=>
 .asB a4 fun b5=>.ite b5
 (.call 94 [A4,(.func (.func 95) [.agg [A0]] [])] fun a6=>
 .asB a6 fun b7=>.ret (.bool b7))
 (.ret (.bool false)))
 (.ret (.bool false)))
 (.ret (.bool false))
theorem w68(A0:zA)(A1:List Nat)(A2 A3 A4:zA)(h:wp 68 (t68 A0 A1 A2 A3 A4) m Q):Wf 68 [.agg [A0],.agg [.str A1,A2,A3,A4]] m Q:=iB ok68 h
def t83  : T:=
 .ite true (.ite true (.callv (.func (.func 109) [] []) [.str [102,97,99,116,32]] fun a0=>
 .asG zI a0 fun X1=>
 .callv (.func (.func 109) [] []) [.str [104,97,115,32]] fun a2=>
 .asG zI a2 fun X3=>
 .callv (.func (.func 109) [] []) [.str []] fun a4=>
 .asG zI a4 fun X5=>
 .callv (.func (.func 108) [] []) [.str [108,111,111,107],.bool true,.int .i64 1,.int .i64 2] fun a6=>
 .asG zI a6 fun X7=>
 .callv (.func (.func 110) [] []) [.str [43],.int .i64 5,.int .i64 5,.int .i64 6] fun a8=>
 .asG zI a8 fun X9=>
 .callv (.func (.func 110) [] []) [.str [45],.int .i64 5,.int .i64 5,.int .i64 6] fun a10=>
 .asG zI a10 fun X11=>
 .callv (.func (.func 110) [] []) [.str [42],.int .i64 6,.int .i64 6,.int .i64 7] fun a12=>
 .asG zI a12 fun X13=>
 .callv (.func (.func 110) [] []) [.str [47],.int .i64 6,.int .i64 6,.int .i64 7] fun a14=>
 .asG zI a14 fun X15=>
 .callv (.func (.func 108) [] []) [.str [109,105,110],.bool false,.int .i64 2,.int .i64 2] fun a16=>
 .asG zI a16 fun X17=>
 .callv (.func (.func 108) [] []) [.str [109,97,120],.bool false,.int .i64 2,.int .i64 2] fun a18=>
 .asG zI a18 fun X19=>
 .callv (.func (.func 110) [] []) [.str [60],.int .i64 4,.int .i64 5,.int .i64 5] fun a20=>
 .asG zI a20 fun X21=>
 .callv (.func (.func 110) [] []) [.str [61],.int .i64 4,.int .i64 5,.int .i64 5] fun a22=>
 .asG zI a22 fun X23=>
 .callv (.func (.func 110) [] []) [.str [97,110,100],.int .i64 2,.int .i64 2,.int .i64 3] fun a24=>
 .asG zI a24 fun X25=>
 .callv (.func (.func 110) [] []) [.str [111,114],.int .i64 1,.int .i64 1,.int .i64 2] fun a26=>
 .asG zI a26 fun X27=>
 .ite true (.callv (.func (.func 108) [] []) [.str [105,102],.bool false,.int .i64 3,.int .i64 3] fun a28=>
 .asG zI a28 fun X29=>
 .callv (.func (.func 108) [] []) [.str [114,111,117,110,100],.bool false,.int .i64 2,.int .i64 2] fun a30=>
 .asG zI a30 fun X31=>
 .callv (.func (.func 108) [] []) [.str [98,101,116,119,101,101,110],.bool false,.int .i64 2,.int .i64 2] fun a32=>
 .asG zI a32 fun X33=>
 .callv (.func (.func 108) [] []) [.str [115,101,114,118,105,99,101],.bool true,.int .i64 2,.int .i64 2] fun a34=>
 .asG zI a34 fun X35=>
 .callv (.func (.func 108) [] []) [.str [98,101,115,116],.bool true,.int .i64 3,.int .i64 3] fun a36=>
 .asG zI a36 fun X37=>
 .callv (.func (.func 108) [] []) [.str [103,114,111,119],.bool true,.int .i64 2,.int .i64 2] fun a38=>
 .asG zI a38 fun X39=>
 .callv (.func (.func 108) [] []) [.str [109,111,110,116,104,115],.bool false,.int .i64 1,.int .i64 1] fun a40=>
 .asG zI a40 fun X41=>
 .callv (.func (.func 108) [] []) [.str [110,117,109,98,101,114],.bool false,.int .i64 1,.int .i64 1] fun a42=>
 .asG zI a42 fun X43=>
 .callv (.func (.func 108) [] []) [.str [115,116,97,114,116],.bool false,.int .i64 1,.int .i64 1] fun a44=>
 .asG zI a44 fun X45=>
 .ite true (.heavy (zmo (.agg [.int .u8 0,.str [],.bool false,.int .i64 0,.int .i64 0,.int .i64 0,.int .i64 0,.int .i64 0,.int .u8 1,.str [],.bool false,.int .i64 0,.int .i64 0,.int .i64 7,.int .i64 0,.int .i64 0,.int .u8 2,.str [116,111,100,97,121],.bool false,.int .i64 0,.int .i64 0,.int .i64 7,.int .i64 0,.int .i64 0,.int .u8 (X1.i 0),.str (X1.s 1),.bool (X1.b 2),.int .i64 (X1.i 3),.int .i64 (X1.i 4),.int .i64 (X1.i 5),.int .i64 (X1.i 6),.int .i64 (X1.i 7),.int .u8 (X3.i 0),.str (X3.s 1),.bool (X3.b 2),.int .i64 (X3.i 3),.int .i64 (X3.i 4),.int .i64 (X3.i 5),.int .i64 (X3.i 6),.int .i64 (X3.i 7),.int .u8 (X5.i 0),.str (X5.s 1),.bool (X5.b 2),.int .i64 (X5.i 3),.int .i64 (X5.i 4),.int .i64 (X5.i 5),.int .i64 (X5.i 6),.int .i64 (X5.i 7),.int .u8 (X7.i 0),.str (X7.s 1),.bool (X7.b 2),.int .i64 (X7.i 3),.int .i64 (X7.i 4),.int .i64 (X7.i 5),.int .i64 (X7.i 6),.int .i64 (X7.i 7),.int .u8 (X9.i 0),.str (X9.s 1),.bool (X9.b 2),.int .i64 (X9.i 3),.int .i64 (X9.i 4),.int .i64 (X9.i 5),.int .i64 (X9.i 6),.int .i64 (X9.i 7),.int .u8 (X11.i 0),.str (X11.s 1),.bool (X11.b 2),.int .i64 (X11.i 3),.int .i64 (X11.i 4),.int .i64 (X11.i 5),.int .i64 (X11.i 6),.int .i64 (X11.i 7),.int .u8 (X13.i 0),.str (X13.s 1),.bool (X13.b 2),.int .i64 (X13.i 3),.int .i64 (X13.i 4),.int .i64 (X13.i 5),.int .i64 (X13.i 6),.int .i64 (X13.i 7),.int .u8 (X15.i 0),.str (X15.s 1),.bool (X15.b 2),.int .i64 (X15.i 3),.int .i64 (X15.i 4),.int .i64 (X15.i 5),.int .i64 (X15.i 6),.int .i64 (X15.i 7),.int .u8 (X17.i 0),.str (X17.s 1),.bool (X17.b 2),.int .i64 (X17.i 3),.int .i64 (X17.i 4),.int .i64 (X17.i 5),.int .i64 (X17.i 6),.int .i64 (X17.i 7),.int .u8 (X19.i 0),.str (X19.s 1),.bool (X19.b 2),.int .i64 (X19.i 3),.int .i64 (X19.i 4),.int .i64 (X19.i 5),.int .i64 (X19.i 6),.int .i64 (X19.i 7),.int .u8 (X21.i 0),.str (X21.s 1),.bool (X21.b 2),.int .i64 (X21.i 3),.int .i64 (X21.i 4),.int .i64 (X21.i 5),.int .i64 (X21.i 6),.int .i64 (X21.i 7),.int .u8 (X23.i 0),.str (X23.s 1),.bool (X23.b 2),.int .i64 (X23.i 3),.int .i64 (X23.i 4),.int .i64 (X23.i 5),.int .i64 (X23.i 6),.int .i64 (X23.i 7),.int .u8 (X25.i 0),.str (X25.s 1),.bool (X25.b 2),.int .i64 (X25.i 3),.int .i64 (X25.i 4),.int .i64 (X25.i 5),.int .i64 (X25.i 6),.int .i64 (X25.i 7),.int .u8 (X27.i 0),.str (X27.s 1),.bool (X27.b 2),.int .i64 (X27.i 3),.int .i64 (X27.i 4),.int .i64 (X27.i 5),.int .i64 (X27.i 6),.int .i64 (X27.i 7),.int .u8 5,.str [110,111,116,32],.bool false,.int .i64 1,.int .i64 1,.int .i64 3,.int .i64 3,.int .i64 3,.int .u8 (X29.i 0),.str (X29.s 1),.bool (X29.b 2),.int .i64 (X29.i 3),.int .i64 (X29.i 4),.int .i64 (X29.i 5),.int .i64 (X29.i 6),.int .i64 (X29.i 7),.int .u8 (X31.i 0),.str (X31.s 1),.bool (X31.b 2),.int .i64 (X31.i 3),.int .i64 (X31.i 4),.int .i64 (X31.i 5),.int .i64 (X31.i 6),.int .i64 (X31.i 7),.int .u8 (X33.i 0),.str (X33.s 1),.bool (X33.b 2),.int .i64 (X33.i 3),.int .i64 (X33.i 4),.int .i64 (X33.i 5),.int .i64 (X33.i 6),.int .i64 (X33.i 7),.int .u8 (X35.i 0),.str (X35.s 1),.bool (X35.b 2),.int .i64 (X35.i 3),.int .i64 (X35.i 4),.int .i64 (X35.i 5),.int .i64 (X35.i 6),.int .i64 (X35.i 7),.int .u8 (X37.i 0),.str (X37.s 1),.bool (X37.b 2),.int .i64 (X37.i 3),.int .i64 (X37.i 4),.int .i64 (X37.i 5),.int .i64 (X37.i 6),.int .i64 (X37.i 7),.int .u8 (X39.i 0),.str (X39.s 1),.bool (X39.b 2),.int .i64 (X39.i 3),.int .i64 (X39.i 4),.int .i64 (X39.i 5),.int .i64 (X39.i 6),.int .i64 (X39.i 7),.int .u8 (X41.i 0),.str (X41.s 1),.bool (X41.b 2),.int .i64 (X41.i 3),.int .i64 (X41.i 4),.int .i64 (X41.i 5),.int .i64 (X41.i 6),.int .i64 (X41.i 7),.int .u8 (X43.i 0),.str (X43.s 1),.bool (X43.b 2),.int .i64 (X43.i 3),.int .i64 (X43.i 4),.int .i64 (X43.i 5),.int .i64 (X43.i 6),.int .i64 (X43.i 7),.int .u8 (X45.i 0),.str (X45.s 1),.bool (X45.b 2),.int .i64 (X45.i 3),.int .i64 (X45.i 4),.int .i64 (X45.i 5),.int .i64 (X45.i 6),.int .i64 (X45.i 7)])) fun a46=>
 .ret a46) .fail) .fail) .fail) .fail
theorem w83 (h:wp 83 (t83 ) m Q):Wf 83 [] m Q:=iB ok83 h
def t84 (p0:List Nat):T:=
 .ite (zF p0 [])
 (.ret (.bool false))
 (.ite (dB 24 (Int.ofNat (wB p0)))
 (.ret (.bool false))
 (.opt (cI yA 9 (.str p0) (.int .i64 0)) fun a0=>.asI .u8 a0 fun n1=>.call 111 [.int .u8 n1] fun a2=>
 .asB a2 fun b3=>.ite (!b3)
 (.ret (.bool false))
 (.call 112 [.str p0,(.func (.func 113) [] [])] fun a4=>
 .asS a4 fun s5=>.ite (zF s5 p0)
 (.call 114 [.str p0] fun a6=>
 .asB a6 fun b7=>.ret (.bool (!b7)))
 (.ret (.bool false)))))
theorem w84(p0:List Nat)(h:wp 84 (t84 p0) m Q):Wf 84 [.str p0] m Q:=iB ok84 h
def t85 (A0:Int)(A1:Bool)(A2:zA)(A3:Bool)(A4:zA)(A5:Int):T:=
 .ite (mA A0 2)
 (.ite (mA A0 2)
 (.ite (mA A5 0)
 (.call 115 [.agg [.bool A1,A2,.bool A3,A4]] fun a0=>
 .asB a0 fun b1=>.ret (.bool b1))
 (.ret (.bool false)))
 (.ite (mA A0 1)
 (.call 116 [.agg [.bool A1,A2,.bool A3,A4]] fun a2=>
 .asB a2 fun b3=>.ite b3
 (.ite (mA A5 0)
 (.ret (.bool true))
 (.ret (.bool (mA A5 1))))
 (.ret (.bool false)))
 (.ite (mA A0 4)
 (.call 116 [.agg [.bool A1,A2,.bool A3,A4]] fun a4=>
 .asB a4 fun b5=>.ite b5
 (.call 117 [.int .i64 A5] fun a6=>
 .asB a6 fun b7=>.ret (.bool b7))
 (.ret (.bool false)))
 (.ite (mA A0 5)
 (.ite (mA A0 5)
 (.call 116 [.agg [.bool A1,A2,.bool A3,A4]] fun a8=>
 .asB a8 fun b9=>.ite b9
 (.ite (jC (-1048576) A5)
 (.ret (.bool (jC A5 1048576)))
 (.ret (.bool false)))
 (.ret (.bool false)))
 (.ret (.bool false)))
 (.ite (mA A0 6)
 (.call 116 [.agg [.bool A1,A2,.bool A3,A4]] fun a10=>
 .asB a10 fun b11=>.ite b11
 (.ite (jC (-1048576) A5)
 (.ret (.bool (jC A5 1048576)))
 (.ret (.bool false)))
 (.ret (.bool false)))
 (.ret (.bool false)))))))
 (.ite (mA A0 3)
 (.ite (mA A5 0)
 (.call 115 [.agg [.bool A1,A2,.bool A3,A4]] fun a12=>
 .asB a12 fun b13=>.ret (.bool b13))
 (.ret (.bool false)))
 (.ite (mA A0 1)
 (.call 116 [.agg [.bool A1,A2,.bool A3,A4]] fun a14=>
 .asB a14 fun b15=>.ite b15
 (.ite (mA A5 0)
 (.ret (.bool true))
 (.ret (.bool (mA A5 1))))
 (.ret (.bool false)))
 (.ite (mA A0 4)
 (.call 116 [.agg [.bool A1,A2,.bool A3,A4]] fun a16=>
 .asB a16 fun b17=>.ite b17
 (.call 117 [.int .i64 A5] fun a18=>
 .asB a18 fun b19=>.ret (.bool b19))
 (.ret (.bool false)))
 (.ite (mA A0 5)
 (.ite (mA A0 5)
 (.call 116 [.agg [.bool A1,A2,.bool A3,A4]] fun a20=>
 .asB a20 fun b21=>.ite b21
 (.ite (jC (-1048576) A5)
 (.ret (.bool (jC A5 1048576)))
 (.ret (.bool false)))
 (.ret (.bool false)))
 (.ret (.bool false)))
 (.ite (mA A0 6)
 (.call 116 [.agg [.bool A1,A2,.bool A3,A4]] fun a22=>
 .asB a22 fun b23=>.ite b23
 (.ite (jC (-1048576) A5)
 (.ret (.bool (jC A5 1048576)))
 (.ret (.bool false)))
 (.ret (.bool false)))
 (.ret (.bool false)))))))
theorem w85(A0:Int)(A1:Bool)(A2:zA)(A3:Bool)(A4:zA)(A5:Int)(h:wp 85 (t85 A0 A1 A2 A3 A4 A5) m Q):Wf 85 [.agg [.int .u8 A0,.bool A1,A2,.bool A3,A4,.int .i64 A5]] m Q:=iB ok85 h
def t86 (A0:Int)(A1:Bool)(A2:zA)(A3:Bool)(A4:zA)(A5:Int):T:=
 .ite (mA A0 0)
 (.ite (mA A5 0)
 (.call 116 [.agg [.bool A1,A2,.bool A3,A4]] fun a0=>
 .asB a0 fun b1=>.ret (.bool b1))
 (.ret (.bool false)))
 (.ret (.bool false))
theorem w86(A0:Int)(A1:Bool)(A2:zA)(A3:Bool)(A4:zA)(A5:Int)(h:wp 86 (t86 A0 A1 A2 A3 A4 A5) m Q):Wf 86 [.agg [.int .u8 A0,.bool A1,A2,.bool A3,A4,.int .i64 A5]] m Q:=iB ok86 h
def t87 (p0:zA)(A0:Int)(A1:List Nat)(A2:Int)(A3:Bool)(A4:zA)(A5:Bool)(A6:zA)(A7:Int)(A8:zA):T:=
 .opt (nC p0) fun a0=>.opt (qB yA 166 0 a0) fun a1=>.call 118 [a1] fun a2=>
 .asI .i64 a2 fun n3=>.ite (dB 65536 n3)
 (.ret (.tup []))
 (.opt (nC p0) fun a4=>.opt (qB yA 166 1 a4) fun a5=>.light (fun m=>oA yA 132 ⟨0,m⟩ a5) fun a6=>.opt (nC a6) fun a7=>.opt (jB yA 188 a7 (.int .u8 A0)) fun a8=>.opt (nC a8) fun a9=>.opt (qB yA 159 0 a9) fun a10=>.light (fun m=>oA yA 5 ⟨0,m⟩ a10) fun oF=>.asI .u8 oF fun n12=>.ite (mA n12 1)
 (.opt (nC p0) fun a13=>.opt (qB yA 166 0 a13) fun a14=>.call 120 [.agg [.int .u8 A2,.bool A3,A4,.bool A5,A6,.int .i64 A7]] fun a15=>
 .asS a15 fun s16=>.call 119 [a14,.str s16] fun a17=>
 .ret (.tup []))
 (.ite (mA n12 2)
 (.opt (nC p0) fun a18=>.opt (qB yA 166 0 a18) fun a19=>.opt (nC a8) fun a20=>.opt (qB yA 159 1 a20) fun a21=>.light (fun m=>oA yA 9 ⟨0,m⟩ a21) fun a22=>.asS a22 fun s23=>.call 119 [a19,.str s23] fun a24=>
 .ret (.tup []))
 (.ite (mA n12 3)
 (.opt (nC p0) fun a25=>.opt (qB yA 166 0 a25) fun a26=>.opt (nC a8) fun a27=>.opt (qB yA 159 1 a27) fun a28=>.light (fun m=>oA yA 9 ⟨0,m⟩ a28) fun a29=>.asS a29 fun s30=>.opt (xJ s30 A1) fun a31=>.asS a31 fun s32=>.opt (xJ s32 [32,97,116,32]) fun a33=>.asS a33 fun s34=>.call 119 [a26,.str s34] fun a35=>
 .opt (jB yA 34 A8 (.int .i64 0)) fun a36=>.light (fun m=>oA yA 36 ⟨0,m⟩ a36) fun a37=>.asG z00 a37 fun X38=>
 .opt (nC a8) fun a39=>.opt (qB yA 159 6 a39) fun a40=>.light (fun m=>oA yA 3 ⟨0,m⟩ a40) fun a41=>.asI .i64 a41 fun n42=>.call 121 [p0,(.agg [.int .u8 (X38.i 0),.str (X38.s 1),.int .u8 (X38.i 2),.bool (X38.b 3),X38.v 4,.bool (X38.b 5),X38.v 6,.int .i64 (X38.i 7),X38.v 8]),.int .i64 n42] fun a43=>
 .ret (.tup []))
 (.ite (mA n12 4)
 (.opt (jB yA 34 A8 (.int .i64 0)) fun a44=>.light (fun m=>oA yA 36 ⟨0,m⟩ a44) fun a45=>.asG z00 a45 fun X46=>
 .opt (nC a8) fun a47=>.opt (qB yA 159 6 a47) fun a48=>.light (fun m=>oA yA 3 ⟨0,m⟩ a48) fun a49=>.asI .i64 a49 fun n50=>.call 121 [p0,(.agg [.int .u8 (X46.i 0),.str (X46.s 1),.int .u8 (X46.i 2),.bool (X46.b 3),X46.v 4,.bool (X46.b 5),X46.v 6,.int .i64 (X46.i 7),X46.v 8]),.int .i64 n50] fun a51=>
 .opt (nC p0) fun a52=>.opt (qB yA 166 0 a52) fun a53=>.opt (nC a8) fun a54=>.opt (qB yA 159 1 a54) fun a55=>.light (fun m=>oA yA 9 ⟨0,m⟩ a55) fun a56=>.asS a56 fun s57=>.opt (xJ [32] s57) fun a58=>.asS a58 fun s59=>.opt (xJ s59 [32]) fun a60=>.asS a60 fun s61=>.call 119 [a53,.str s61] fun a62=>
 .opt (jB yA 34 A8 (.int .i64 1)) fun a63=>.light (fun m=>oA yA 36 ⟨0,m⟩ a63) fun a64=>.asG z00 a64 fun X65=>
 .opt (nC a8) fun a66=>.opt (qB yA 159 7 a66) fun a67=>.light (fun m=>oA yA 3 ⟨0,m⟩ a67) fun a68=>.asI .i64 a68 fun n69=>.call 121 [p0,(.agg [.int .u8 (X65.i 0),.str (X65.s 1),.int .u8 (X65.i 2),.bool (X65.b 3),X65.v 4,.bool (X65.b 5),X65.v 6,.int .i64 (X65.i 7),X65.v 8]),.int .i64 n69] fun a70=>
 .ret (.tup []))
 (.ite (mA n12 5)
 (.opt (nC p0) fun a71=>.opt (qB yA 166 0 a71) fun a72=>.opt (nC a8) fun a73=>.opt (qB yA 159 1 a73) fun a74=>.light (fun m=>oA yA 9 ⟨0,m⟩ a74) fun a75=>.asS a75 fun s76=>.call 119 [a72,.str s76] fun a77=>
 .opt (jB yA 34 A8 (.int .i64 0)) fun a78=>.light (fun m=>oA yA 36 ⟨0,m⟩ a78) fun a79=>.asG z00 a79 fun X80=>
 .opt (nC a8) fun a81=>.opt (qB yA 159 6 a81) fun a82=>.light (fun m=>oA yA 3 ⟨0,m⟩ a82) fun a83=>.asI .i64 a83 fun n84=>.call 121 [p0,(.agg [.int .u8 (X80.i 0),.str (X80.s 1),.int .u8 (X80.i 2),.bool (X80.b 3),X80.v 4,.bool (X80.b 5),X80.v 6,.int .i64 (X80.i 7),X80.v 8]),.int .i64 n84] fun a85=>
 .ret (.tup []))
 (.ite (mA n12 6)
 (.call 122 [p0,.agg [.int .u8 A0,.str A1,.int .u8 A2,.bool A3,A4,.bool A5,A6,.int .i64 A7,A8],a8] fun a86=>
 .ret (.tup []))
 (.ret (.tup []))))))))
theorem w87(p0:zA)(A0:Int)(A1:List Nat)(A2:Int)(A3:Bool)(A4:zA)(A5:Bool)(A6:zA)(A7:Int)(A8:zA)(h:wp 87 (t87 p0 A0 A1 A2 A3 A4 A5 A6 A7 A8) m Q):Wf 87 [p0,.agg [.int .u8 A0,.str A1,.int .u8 A2,.bool A3,A4,.bool A5,A6,.int .i64 A7,A8]] m Q:=iB ok87 h
def t90 (A0:List Nat)(A1:Int)(A2:Bool):T:=
 .call 84 [.str A0] fun a0=>
 .asB a0 fun b1=>.ite b1
 (.ite (jC 1 A1)
 (.ret (.bool (jC A1 6)))
 (.ret (.bool false)))
 (.ret (.bool false))
theorem w90(A0:List Nat)(A1:Int)(A2:Bool)(h:wp 90 (t90 A0 A1 A2) m Q):Wf 90 [.agg [.str A0,.int .u8 A1,.bool A2]] m Q:=iB ok90 h
def t91 (p0 p1:zA):T:=
 .opt (yC p0) fun a0=>.asI .i64 a0 fun n1=>.jump 2 [p1,p0,.int .i64 n1,.int .i64 0]
theorem w91(p0 p1:zA)(h:wp 91 (t91 p0 p1) m Q):Wf 91 [p0,p1] m Q:=iB ok91 h
def t91_2(v1 v7:zA)(v8 v9:Int):T:=
 .ite (dB v9 v8)
 (.opt (jB yA 22 v7 (.int .i64 v9)) fun a0=>.light (fun m=>oA yA 59 ⟨0,m⟩ a0) fun a1=>.asG z0z a1 fun X2=>
 .ite true (.callv v1 [(.agg [.str (X2.s 0),.int .u8 (X2.i 1),.bool (X2.b 2)])] fun a3=>
 .asB a3 fun b4=>.ite (!b4)
 (.ret (.bool false))
 (.jump 2 [v1,v7,.int .i64 v8,(.int .i64 (vA .i64 (v9+1)))])) .fail)
 (.ret (.bool true))
theorem j91_2(v1 v7:zA)(v8 v9:Int)(h:wp 91 (t91_2 v1 v7 v8 v9) m Q):jp 91 2 [v1,v7,.int .i64 v8,.int .i64 v9] m Q:=kD ok91 h
def t92 (p0 p1:zA):T:=
 .opt (yC p0) fun a0=>.asI .i64 a0 fun n1=>.jump 2 [p1,p0,.int .i64 n1,.int .i64 0]
theorem w92(p0 p1:zA)(h:wp 92 (t92 p0 p1) m Q):Wf 92 [p0,p1] m Q:=iB ok92 h
def t92_2(v1 v7:zA)(v8 v9:Int):T:=
 .ite (dB v9 v8)
 (.opt (jB yA 23 v7 (.int .i64 v9)) fun a0=>.light (fun m=>oA yA 81 ⟨0,m⟩ a0) fun a1=>.asG zme a1 fun X2=>
 .ite (tC zA.one [.str (X2.s 0),.bool (X2.b 1),X2.v 2]) (.callv v1 [(.agg [.str (X2.s 0),.bool (X2.b 1),X2.v 2])] fun a3=>
 .asB a3 fun b4=>.ite (!b4)
 (.ret (.bool false))
 (.jump 2 [v1,v7,.int .i64 v8,(.int .i64 (vA .i64 (v9+1)))])) .fail)
 (.ret (.bool true))
theorem j92_2(v1 v7:zA)(v8 v9:Int)(h:wp 92 (t92_2 v1 v7 v8 v9) m Q):jp 92 2 [v1,v7,.int .i64 v8,.int .i64 v9] m Q:=kD ok92 h
def t93 (A0:List Nat)(A1:Bool)(A2:zA):T:=
 .heavy (zmo (.agg [.str A0,.bool A1,A2])) fun a0=>
 .heavy (fG yA 191) fun a1=>
 .heavy (cC yA 191 a1 (.func (.func 123) [] [])) fun _=>
 .opt (qB yA 81 0 a0) fun a2=>.light (fun m=>oA yA 9 ⟨0,m⟩ a2) fun a3=>.asS a3 fun s4=>.call 84 [.str s4] fun a5=>
 .asB a5 fun b6=>.ite b6
 (.opt (qB yA 81 2 a0) fun a7=>.light (fun m=>oA yA 79 ⟨0,m⟩ a7) fun a8=>.call 125 [a8,(.func (.func 124) [] [a1,a0])] fun a9=>
 .asB a9 fun b10=>.ret (.bool b10))
 (.ret (.bool false))
theorem w93(A0:List Nat)(A1:Bool)(A2:zA)(h:wp 93 (t93 A0 A1 A2) m Q):Wf 93 [.agg [.str A0,.bool A1,A2]] m Q:=iB ok93 h
def t94 (p0 p1:zA):T:=
 .opt (yC p0) fun a0=>.asI .i64 a0 fun n1=>.jump 2 [p1,p0,.int .i64 n1,.int .i64 0]
theorem w94(p0 p1:zA)(h:wp 94 (t94 p0 p1) m Q):Wf 94 [p0,p1] m Q:=iB ok94 h
def t94_2(v1 v7:zA)(v8 v9:Int):T:=
 .ite (dB v9 v8)
 (.opt (jB yA 24 v7 (.int .i64 v9)) fun a0=>.light (fun m=>oA yA 56 ⟨0,m⟩ a0) fun a1=>.asG zz7z a1 fun X2=>
 .ite (tC zA.one [.str (X2.s 0),.str (X2.s 1),.int .i64 (X2.i 2),.int .i64 (X2.i 3),.int .i64 (X2.i 4),.bool (X2.b 5),.int .u8 (X2.i 6),.str (X2.s 7),.int .u8 (X2.i 8),.bool (X2.b 9),X2.v 10,.bool (X2.b 11),X2.v 12,.int .i64 (X2.i 13),X2.v 14,.int .u8 (X2.i 15),.str (X2.s 16),.int .u8 (X2.i 17),.bool (X2.b 18),X2.v 19,.bool (X2.b 20),X2.v 21,.int .i64 (X2.i 22),X2.v 23]) (.callv v1 [(.agg [.str (X2.s 0),.str (X2.s 1),.int .i64 (X2.i 2),.int .i64 (X2.i 3),.int .i64 (X2.i 4),.bool (X2.b 5),.int .u8 (X2.i 6),.str (X2.s 7),.int .u8 (X2.i 8),.bool (X2.b 9),X2.v 10,.bool (X2.b 11),X2.v 12,.int .i64 (X2.i 13),X2.v 14,.int .u8 (X2.i 15),.str (X2.s 16),.int .u8 (X2.i 17),.bool (X2.b 18),X2.v 19,.bool (X2.b 20),X2.v 21,.int .i64 (X2.i 22),X2.v 23])] fun a3=>
 .asB a3 fun b4=>.ite (!b4)
 (.ret (.bool false))
 (.jump 2 [v1,v7,.int .i64 v8,(.int .i64 (vA .i64 (v9+1)))])) .fail)
 (.ret (.bool true))
theorem j94_2(v1 v7:zA)(v8 v9:Int)(h:wp 94 (t94_2 v1 v7 v8 v9) m Q):jp 94 2 [v1,v7,.int .i64 v8,.int .i64 v9] m Q:=kD ok94 h
def t95 (A0:zA)(A1 A2:List Nat)(A3 A4 A5:Int)(A6:Bool)(A7:Int)(A8:List Nat)(A9:Int)(B0:Bool)(B1:zA)(B2:Bool)(B3:zA)(B4:Int)(B5:zA)(B6:Int)(B7:List Nat)(B8:Int)(B9:Bool)(D0:zA)(D1:Bool)(D2:zA)(D3:Int)(D4:zA):T:=
 .call 84 [.str A1] fun a0=>
 .asB a0 fun b1=>.ite (!b1)
 (.ret (.bool false))
 (.call 84 [.str A2] fun a2=>
 .asB a2 fun b3=>.ite (!b3)
 (.ret (.bool false))
 (.call 117 [.int .i64 A3] fun a4=>
 .asB a4 fun b5=>.ite (!b5)
 (.ret (.bool false))
 (.call 117 [.int .i64 A5] fun a6=>
 .asB a6 fun b7=>.ite (!b7)
 (.ret (.bool false))
 (.call 117 [.int .i64 A4] fun a8=>
 .asB a8 fun b9=>.ite (!b9)
 (.ite (!mA A4 65536)
 (.ret (.bool false))
 (.ite A6
 (.call 126 [.agg [.int .u8 A7,.str A8,.int .u8 A9,.bool B0,B1,.bool B2,B3,.int .i64 B4,B5]] fun a10=>
 .asB a10 fun b11=>.ite b11
 (.call 126 [.agg [.int .u8 B6,.str B7,.int .u8 B8,.bool B9,D0,.bool D1,D2,.int .i64 D3,D4]] fun a12=>
 .asB a12 fun b13=>.ret (.bool b13))
 (.ret (.bool false)))
 (.call 64 [.agg [A0],.agg [.int .u8 A7,.str A8,.int .u8 A9,.bool B0,B1,.bool B2,B3,.int .i64 B4,B5],.int .i64 1] fun a14=>
 .asB a14 fun b15=>.ite b15
 (.call 64 [.agg [A0],.agg [.int .u8 B6,.str B7,.int .u8 B8,.bool B9,D0,.bool D1,D2,.int .i64 D3,D4],.int .i64 1] fun a16=>
 .asB a16 fun b17=>.ret (.bool b17))
 (.ret (.bool false)))))
 (.ite A6
 (.call 126 [.agg [.int .u8 A7,.str A8,.int .u8 A9,.bool B0,B1,.bool B2,B3,.int .i64 B4,B5]] fun a18=>
 .asB a18 fun b19=>.ite b19
 (.call 126 [.agg [.int .u8 B6,.str B7,.int .u8 B8,.bool B9,D0,.bool D1,D2,.int .i64 D3,D4]] fun a20=>
 .asB a20 fun b21=>.ret (.bool b21))
 (.ret (.bool false)))
 (.call 64 [.agg [A0],.agg [.int .u8 A7,.str A8,.int .u8 A9,.bool B0,B1,.bool B2,B3,.int .i64 B4,B5],.int .i64 1] fun a22=>
 .asB a22 fun b23=>.ite b23
 (.call 64 [.agg [A0],.agg [.int .u8 B6,.str B7,.int .u8 B8,.bool B9,D0,.bool D1,D2,.int .i64 D3,D4],.int .i64 1] fun a24=>
 .asB a24 fun b25=>.ret (.bool b25))
 (.ret (.bool false))))))))
theorem w95(A0:zA)(A1 A2:List Nat)(A3 A4 A5:Int)(A6:Bool)(A7:Int)(A8:List Nat)(A9:Int)(B0:Bool)(B1:zA)(B2:Bool)(B3:zA)(B4:Int)(B5:zA)(B6:Int)(B7:List Nat)(B8:Int)(B9:Bool)(D0:zA)(D1:Bool)(D2:zA)(D3:Int)(D4:zA)(h:wp 95 (t95 A0 A1 A2 A3 A4 A5 A6 A7 A8 A9 B0 B1 B2 B3 B4 B5 B6 B7 B8 B9 D0 D1 D2 D3 D4) m Q):Wf 95 [.agg [A0],.agg [.str A1,.str A2,.int .i64 A3,.int .i64 A4,.int .i64 A5,.bool A6,.int .u8 A7,.str A8,.int .u8 A9,.bool B0,B1,.bool B2,B3,.int .i64 B4,B5,.int .u8 B6,.str B7,.int .u8 B8,.bool B9,D0,.bool D1,D2,.int .i64 D3,D4]] m Q:=iB ok95 h
def t108 (p0:List Nat)(p1:Bool)(p2 p3:Int):T:=
 .ite true (.ite true (.ret (.agg [.int .u8 6,.str p0,.bool p1,.int .i64 p2,.int .i64 p3,.int .i64 7,.int .i64 1,.int .i64 1])) .fail) .fail
theorem w108(p0:List Nat)(p1:Bool)(p2 p3:Int)(h:wp 108 (t108 p0 p1 p2 p3) m Q):Wf 108 [.str p0,.bool p1,.int .i64 p2,.int .i64 p3] m Q:=iB ok108 h
def t109 (p0:List Nat):T:=
 .ite true (.ite true (.ret (.agg [.int .u8 3,.str p0,.bool true,.int .i64 1,.int .i64 1,.int .i64 7,.int .i64 7,.int .i64 7])) .fail) .fail
theorem w109(p0:List Nat)(h:wp 109 (t109 p0) m Q):Wf 109 [.str p0] m Q:=iB ok109 h
def t110 (p0:List Nat)(p1 p2 p3:Int):T:=
 .ite true (.ite true (.ret (.agg [.int .u8 4,.str p0,.bool false,.int .i64 2,.int .i64 2,.int .i64 p1,.int .i64 p2,.int .i64 p3])) .fail) .fail
theorem w110(p0:List Nat)(p1 p2 p3:Int)(h:wp 110 (t110 p0 p1 p2 p3) m Q):Wf 110 [.str p0,.int .i64 p1,.int .i64 p2,.int .i64 p3] m Q:=iB ok110 h
def t111 (p0:Int):T:=
 .ite (jC 65 p0)
 (.ite (jC p0 90)
 (.ret (.bool true))
 (.ite (jC 97 p0)
 (.ret (.bool (jC p0 122)))
 (.ret (.bool false))))
 (.ite (jC 97 p0)
 (.ret (.bool (jC p0 122)))
 (.ret (.bool false)))
theorem w111(p0:Int)(h:wp 111 (t111 p0) m Q):Wf 111 [.int .u8 p0] m Q:=iB ok111 h
def t112 (p0:List Nat)(p1:zA):T:=
 .jump 2 [.str p0,p1,.int .i64 0]
theorem w112(p0:List Nat)(p1:zA)(h:wp 112 (t112 p0 p1) m Q):Wf 112 [.str p0,p1] m Q:=iB ok112 h
def zwa(v0:List Nat)(v1:zA)(v5:Int):T:=
 .ite (dB v5 (Int.ofNat (wB v0)))
 (.opt (cI yA 9 (.str v0) (.int .i64 v5)) fun a0=>.asI .u8 a0 fun n1=>.callv v1 [.int .u8 n1] fun a2=>
 .asB a2 fun b3=>.ite b3
 (.jump 2 [.str v0,v1,(.int .i64 (vA .i64 (v5+1)))])
 (.opt (zG yA 9 H0A (.str v0) none (some (.int .i64 v5))) fun a4=>.asS a4 fun s5=>.ret (.str s5)))
 (.opt (zG yA 9 H0A (.str v0) none (some (.int .i64 v5))) fun a6=>.asS a6 fun s7=>.ret (.str s7))
theorem z57(v0:List Nat)(v1:zA)(v5:Int)(h:wp 112 (zwa v0 v1 v5) m Q):jp 112 2 [.str v0,v1,.int .i64 v5] m Q:=kD ok112 h
def t113 (p0:Int):T:=
 .call 111 [.int .u8 p0] fun a0=>
 .asB a0 fun b1=>.ite b1
 (.ret (.bool true))
 (.call 139 [.int .u8 p0] fun a2=>
 .asB a2 fun b3=>.ite b3
 (.ret (.bool true))
 (.ret (.bool (mA p0 95))))
theorem w113(p0:Int)(h:wp 113 (t113 p0) m Q):Wf 113 [.int .u8 p0] m Q:=iB ok113 h
def t114 (p0:List Nat):T:=
 .ite (dB (Int.ofNat (wB p0)) 2)
 (.ret (.bool false))
 (.ite (dB 7 (Int.ofNat (wB p0)))
 (.ret (.bool false))
 (.call 112 [.str p0,(.func (.func 111) [] [])] fun a0=>
 .asS a0 fun s1=>.ite (!zF s1 p0)
 (.ret (.bool false))
 (.heavy dS fun a2=>
 .heavy (eH yA 213 a2 (.int .i64 2) (.str [32,116,111,32,105,115,32,97,116,32,105,102,32,111,114,32,117,112,32])) fun _=>
 .heavy (eH yA 213 a2 (.int .i64 3) (.str [32,100,101,102,32,114,111,119,32,111,110,101,32,116,119,111,32,101,110,100,32,111,102,102,32,104,97,115,32,109,105,110,32,109,97,120,32,97,110,100,32,110,111,116,32])) fun _=>
 .heavy (eH yA 213 a2 (.int .i64 4) (.str [32,112,108,97,110,32,102,97,99,116,32,102,114,111,109,32,119,104,101,110,32,116,104,101,110,32,100,97,116,101,32,100,97,121,115,32,116,114,117,101,32,108,111,111,107,32,98,101,115,116,32,103,114,111,119,32,100,111,119,110,32,99,101,105,108,32,104,97,108,102,32,101,118,101,110,32])) fun _=>
 .heavy (eH yA 213 a2 (.int .i64 5) (.str [32,116,97,98,108,101,32,107,110,111,119,110,32,116,114,117,116,104,32,109,111,110,101,121,32,102,97,108,115,101,32,109,105,110,117,115,32,116,111,100,97,121,32,114,111,117,110,100,32,115,116,97,114,116,32,102,108,111,111,114,32])) fun _=>
 .heavy (eH yA 213 a2 (.int .i64 6) (.str [32,99,108,97,117,115,101,32,110,117,109,98,101,114,32,109,111,110,116,104,115,32])) fun _=>
 .heavy (eH yA 213 a2 (.int .i64 7) (.str [32,98,101,116,119,101,101,110,32,115,101,114,118,105,99,101,32])) fun _=>
 .light (fun m=>bG yA 213 ⟨0,m⟩ a2 (.int .i64 (Int.ofNat (wB p0))) false) fun a3=>.asS a3 fun s4=>.opt (xJ [32] p0) fun a5=>.asS a5 fun s6=>.opt (xJ s6 [32]) fun a7=>.asS a7 fun s8=>.call 140 [.str s4,.str s8] fun a9=>
 .asB a9 fun b10=>.ret (.bool b10))))
theorem w114(p0:List Nat)(h:wp 114 (t114 p0) m Q):Wf 114 [.str p0] m Q:=iB ok114 h
def t115 (A0:Bool)(A1:zA)(A2:Bool)(A3:zA):T:=
 .opt (yC A1) fun a0=>.asI .i64 a0 fun n1=>.ite (dB 42 n1)
 (.ret (.bool false))
 (.opt (yC A3) fun a2=>.asI .i64 a2 fun n3=>.ite (dB 42 n3)
 (.ret (.bool false))
 (.call 141 [.agg [.bool A0,A1,.bool A2,A3]] fun a4=>
 .asB a4 fun b5=>.ite (!b5)
 (.ret (.bool false))
 (.call 142 [.agg [.bool A0,A1,.bool A2,A3]] fun a6=>
 .opt (rB 0 a6) fun a7=>.asS a7 fun s8=>.opt (rB 1 a6) fun a9=>.asI .i64 a9 fun n10=>.ite (mA n10 0)
 (.call 143 [.str s8,.str [45]] fun oF=>
 .asS oF fun s12=>.ret (.bool (jC (Int.ofNat (wB s12)) 200)))
 (.ret (.bool false)))))
theorem w115(A0:Bool)(A1:zA)(A2:Bool)(A3:zA)(h:wp 115 (t115 A0 A1 A2 A3) m Q):Wf 115 [.agg [.bool A0,A1,.bool A2,A3]] m Q:=iB ok115 h
def t116 (A0:Bool)(A1:zA)(A2:Bool)(A3:zA):T:=
 .ite (!A0)
 (.ite (!A2)
 (.opt (yC A1) fun a0=>.asI .i64 a0 fun n1=>.opt (yC A3) fun a2=>.asI .i64 a2 fun n3=>.ret (.bool (mA (vA .i64 (n1+n3)) 0)))
 (.ret (.bool false)))
 (.ret (.bool false))
theorem w116(A0:Bool)(A1:zA)(A2:Bool)(A3:zA)(h:wp 116 (t116 A0 A1 A2 A3) m Q):Wf 116 [.agg [.bool A0,A1,.bool A2,A3]] m Q:=iB ok116 h
def t117 (p0:Int):T:=
 .ite (jC 0 p0)
 (.ret (.bool (dB p0 65536)))
 (.ret (.bool false))
theorem w117(p0:Int)(h:wp 117 (t117 p0) m Q):Wf 117 [.int .i64 p0] m Q:=iB ok117 h
def t118 (p0:zA):T:=
 .opt (nC p0) fun a0=>.opt (qB yA 164 1 a0) fun a1=>.light (fun m=>oA yA 38 ⟨0,m⟩ a1) fun a2=>.opt (yC a2) fun a3=>.asI .i64 a3 fun n4=>.ret (.int .i64 n4)
theorem w118(p0:zA)(h:wp 118 (t118 p0) m Q):Wf 118 [p0] m Q:=iB ok118 h
def t119 (p0:zA)(p1:List Nat):T:=
 .call 144 [p0] fun a0=>
 .opt (nC p0) fun a1=>.opt (qB yA 164 1 a1) fun a2=>.light (fun m=>oA yA 38 ⟨0,m⟩ a2) fun a3=>.heavy (gH yA 38 9 a3 (.str p1)) fun a4=>
 .opt (nC p0) fun a5=>.opt (qB yA 164 1 a5) fun a6=>.heavy (cC yA 38 a6 a4) fun _=>
 .ret (.tup [(.int .i64 (Int.ofNat (wB p1))),.niliface])
theorem w119(p0:zA)(p1:List Nat)(h:wp 119 (t119 p0 p1) m Q):Wf 119 [p0,.str p1] m Q:=iB ok119 h
def t120 (A0:Int)(A1:Bool)(A2:zA)(A3:Bool)(A4:zA)(A5:Int):T:=
 .ite (mA A0 1)
 (.call 145 [(.bool (mA A5 1))] fun a0=>
 .asS a0 fun s1=>.ret (.str s1))
 (.ite (mA A0 2)
 (.call 146 [.agg [.bool A1,A2,.bool A3,A4]] fun a2=>
 .asS a2 fun s3=>.ret (.str s3))
 (.ite (mA A0 3)
 (.call 146 [.agg [.bool A1,A2,.bool A3,A4]] fun a4=>
 .asS a4 fun s5=>.opt (xJ [109,111,110,101,121,32] s5) fun a6=>.asS a6 fun s7=>.ret (.str s7))
 (.ite (mA A0 4)
 (.call 147 [.int .i64 A5] fun a8=>
 .asS a8 fun s9=>.ret (.str s9))
 (.ite (mA A0 5)
 (.call 148 [.int .i64 A5] fun a10=>
 .asS a10 fun s11=>.opt (xJ s11 [32,100,97,121,115]) fun a12=>.asS a12 fun s13=>.ret (.str s13))
 (.ite (mA A0 6)
 (.call 148 [.int .i64 A5] fun a14=>
 .asS a14 fun s15=>.opt (xJ s15 [32,109,111,110,116,104,115]) fun a16=>.asS a16 fun s17=>.ret (.str s17))
 (.ret (.str [])))))))
theorem w120(A0:Int)(A1:Bool)(A2:zA)(A3:Bool)(A4:zA)(A5:Int)(h:wp 120 (t120 A0 A1 A2 A3 A4 A5) m Q):Wf 120 [.agg [.int .u8 A0,.bool A1,A2,.bool A3,A4,.int .i64 A5]] m Q:=iB ok120 h
def t121 (p0:zA)(A0:Int)(A1:List Nat)(A2:Int)(A3:Bool)(A4:zA)(A5:Bool)(A6:zA)(A7:Int)(A8:zA)(p2:Int):T:=
 .opt (nC p0) fun a0=>.opt (qB yA 166 1 a0) fun a1=>.light (fun m=>oA yA 132 ⟨0,m⟩ a1) fun a2=>.opt (nC a2) fun a3=>.opt (jB yA 188 a3 (.int .u8 A0)) fun a4=>.opt (qB yA 159 5 a4) fun a5=>.light (fun m=>oA yA 3 ⟨0,m⟩ a5) fun a6=>.asI .i64 a6 fun n7=>.ite (jC p2 n7)
 (.call 87 [p0,.agg [.int .u8 A0,.str A1,.int .u8 A2,.bool A3,A4,.bool A5,A6,.int .i64 A7,A8]] fun a8=>
 .ret (.tup []))
 (.opt (nC p0) fun a9=>.opt (qB yA 166 0 a9) fun a10=>.call 119 [a10,.str [40]] fun oF=>
 .call 87 [p0,.agg [.int .u8 A0,.str A1,.int .u8 A2,.bool A3,A4,.bool A5,A6,.int .i64 A7,A8]] fun a12=>
 .opt (nC p0) fun a13=>.opt (qB yA 166 0 a13) fun a14=>.call 119 [a14,.str [41]] fun a15=>
 .ret (.tup []))
theorem w121(p0:zA)(A0:Int)(A1:List Nat)(A2:Int)(A3:Bool)(A4:zA)(A5:Bool)(A6:zA)(A7:Int)(A8:zA)(p2:Int)(h:wp 121 (t121 p0 A0 A1 A2 A3 A4 A5 A6 A7 A8 p2) m Q):Wf 121 [p0,.agg [.int .u8 A0,.str A1,.int .u8 A2,.bool A3,A4,.bool A5,A6,.int .i64 A7,A8],.int .i64 p2] m Q:=iB ok121 h
def t122 (p0:zA)(A0:Int)(A1:List Nat)(A2:Int)(A3:Bool)(A4:zA)(A5:Bool)(A6:zA)(A7:Int)(A8 p2:zA):T:=
 .opt (nC p0) fun a0=>.opt (qB yA 166 0 a0) fun a1=>.opt (nC p2) fun a2=>.opt (qB yA 159 1 a2) fun a3=>.light (fun m=>oA yA 9 ⟨0,m⟩ a3) fun a4=>.asS a4 fun s5=>.opt (xJ s5 [40]) fun a6=>.asS a6 fun s7=>.call 119 [a1,.str s7] fun a8=>
 .opt (nC p2) fun a9=>.opt (qB yA 159 2 a9) fun a10=>.light (fun m=>oA yA 4 ⟨0,m⟩ a10) fun oF=>.asB oF fun b12=>.ite b12
 (.opt (nC p0) fun a13=>.opt (qB yA 166 0 a13) fun a14=>.opt (xJ A1 [44,32]) fun a15=>.asS a15 fun s16=>.call 119 [a14,.str s16] fun a17=>
 .jump 9 [p0,.int .u8 A0,.str A1,.int .u8 A2,.bool A3,A4,.bool A5,A6,.int .i64 A7,A8])
 (.jump 9 [p0,.int .u8 A0,.str A1,.int .u8 A2,.bool A3,A4,.bool A5,A6,.int .i64 A7,A8])
theorem w122(p0:zA)(A0:Int)(A1:List Nat)(A2:Int)(A3:Bool)(A4:zA)(A5:Bool)(A6:zA)(A7:Int)(A8 p2:zA)(h:wp 122 (t122 p0 A0 A1 A2 A3 A4 A5 A6 A7 A8 p2) m Q):Wf 122 [p0,.agg [.int .u8 A0,.str A1,.int .u8 A2,.bool A3,A4,.bool A5,A6,.int .i64 A7,A8],p2] m Q:=iB z7p h
def z5d(v0:zA)(A0:Int)(A1:List Nat)(A2:Int)(A3:Bool)(A4:zA)(A5:Bool)(A6:zA)(A7:Int)(A8:zA):T:=
 .opt (yC A8) fun a0=>.asI .i64 a0 fun n1=>.jump 2 [v0,A8,.int .i64 n1,.int .i64 0,.int .u8 A0,.str A1,.int .u8 A2,.bool A3,A4,.bool A5,A6,.int .i64 A7,A8]
theorem j122_9(v0:zA)(A0:Int)(A1:List Nat)(A2:Int)(A3:Bool)(A4:zA)(A5:Bool)(A6:zA)(A7:Int)(A8:zA)(h:wp 122 (z5d v0 A0 A1 A2 A3 A4 A5 A6 A7 A8) m Q):jp 122 9 [v0,.int .u8 A0,.str A1,.int .u8 A2,.bool A3,A4,.bool A5,A6,.int .i64 A7,A8] m Q:=kD z7p h
def zv9(v0 v29:zA)(v30 v31 A0:Int)(A1:List Nat)(A2:Int)(A3:Bool)(A4:zA)(A5:Bool)(A6:zA)(A7:Int)(A8:zA):T:=
 .ite (dB v31 v30)
 (.opt (jB yA 34 v29 (.int .i64 v31)) fun a0=>.light (fun m=>oA yA 36 ⟨0,m⟩ a0) fun a1=>.asG z00 a1 fun X2=>
 .ite (tC zA.one [.int .u8 (X2.i 0),.str (X2.s 1),.int .u8 (X2.i 2),.bool (X2.b 3),X2.v 4,.bool (X2.b 5),X2.v 6,.int .i64 (X2.i 7),X2.v 8]) (.ite (dB 0 v31)
 (.opt (nC v0) fun a3=>.opt (qB yA 166 0 a3) fun a4=>.call 119 [a4,.str [44,32]] fun a5=>
 .call 87 [v0,(.agg [.int .u8 (X2.i 0),.str (X2.s 1),.int .u8 (X2.i 2),.bool (X2.b 3),X2.v 4,.bool (X2.b 5),X2.v 6,.int .i64 (X2.i 7),X2.v 8])] fun a6=>
 .jump 2 [v0,v29,.int .i64 v30,(.int .i64 (vA .i64 (v31+1))),.int .u8 A0,.str A1,.int .u8 A2,.bool A3,A4,.bool A5,A6,.int .i64 A7,A8])
 (.call 87 [v0,(.agg [.int .u8 (X2.i 0),.str (X2.s 1),.int .u8 (X2.i 2),.bool (X2.b 3),X2.v 4,.bool (X2.b 5),X2.v 6,.int .i64 (X2.i 7),X2.v 8])] fun a7=>
 .jump 2 [v0,v29,.int .i64 v30,(.int .i64 (vA .i64 (v31+1))),.int .u8 A0,.str A1,.int .u8 A2,.bool A3,A4,.bool A5,A6,.int .i64 A7,A8])) .fail)
 (.ite (mA A0 19)
 (.opt (nC v0) fun a8=>.opt (qB yA 166 0 a8) fun a9=>.call 149 [(.int .u8 (vA .u8 A7))] fun a10=>
 .asS a10 fun s11=>.opt (xJ [44,32] s11) fun a12=>.asS a12 fun s13=>.call 119 [a9,.str s13] fun a14=>
 .opt (nC v0) fun a15=>.opt (qB yA 166 0 a15) fun a16=>.call 119 [a16,.str [41]] fun a17=>
 .ret (.tup []))
 (.opt (nC v0) fun a18=>.opt (qB yA 166 0 a18) fun a19=>.call 119 [a19,.str [41]] fun a20=>
 .ret (.tup [])))
theorem z56(v0 v29:zA)(v30 v31 A0:Int)(A1:List Nat)(A2:Int)(A3:Bool)(A4:zA)(A5:Bool)(A6:zA)(A7:Int)(A8:zA)(h:wp 122 (zv9 v0 v29 v30 v31 A0 A1 A2 A3 A4 A5 A6 A7 A8) m Q):jp 122 2 [v0,v29,.int .i64 v30,.int .i64 v31,.int .u8 A0,.str A1,.int .u8 A2,.bool A3,A4,.bool A5,A6,.int .i64 A7,A8] m Q:=kD z7p h
def t123 (p0:Int):T:=
 .ite (jC (-2147483648) p0)
 (.ret (.bool (dB p0 2147483648)))
 (.ret (.bool false))
theorem w123(p0:Int)(h:wp 123 (t123 p0) m Q):Wf 123 [.int .i64 p0] m Q:=iB ok123 h
def t124 (A0 A1 A2:Int)(A3:Bool)(A4:zA)(A5:Bool)(A6 w0 w1:zA):T:=
 .light (fun m=>oA yA 191 ⟨0,m⟩ w0) fun a0=>.callv a0 [.int .i64 A0] fun a1=>
 .asB a1 fun b2=>.ite b2
 (.light (fun m=>oA yA 191 ⟨0,m⟩ w0) fun a3=>.callv a3 [.int .i64 A1] fun a4=>
 .asB a4 fun b5=>.ite b5
 (.opt (qB yA 81 1 w1) fun a6=>.light (fun m=>oA yA 4 ⟨0,m⟩ a6) fun a7=>.asB a7 fun b8=>.ite b8
 (.call 117 [.int .i64 A2] fun a9=>
 .asB a9 fun b10=>.ite b10
 (.call 115 [.agg [.bool A3,A4,.bool A5,A6]] fun oF=>
 .asB oF fun b12=>.ret (.bool b12))
 (.ret (.bool false)))
 (.ite (mA A1 0)
 (.call 117 [.int .i64 A2] fun a13=>
 .asB a13 fun b14=>.ite b14
 (.call 115 [.agg [.bool A3,A4,.bool A5,A6]] fun a15=>
 .asB a15 fun b16=>.ret (.bool b16))
 (.ret (.bool false)))
 (.ret (.bool false))))
 (.ret (.bool false)))
 (.ret (.bool false))
theorem w124(A0 A1 A2:Int)(A3:Bool)(A4:zA)(A5:Bool)(A6 w0 w1:zA)(h:wp 124 (t124 A0 A1 A2 A3 A4 A5 A6 w0 w1) m Q):Wf 124 [.agg [.int .i64 A0,.int .i64 A1,.int .i64 A2,.bool A3,A4,.bool A5,A6],w0,w1] m Q:=iB ok124 h
def t125 (p0 p1:zA):T:=
 .opt (yC p0) fun a0=>.asI .i64 a0 fun n1=>.jump 2 [p1,p0,.int .i64 n1,.int .i64 0]
theorem w125(p0 p1:zA)(h:wp 125 (t125 p0 p1) m Q):Wf 125 [p0,p1] m Q:=iB ok125 h
def t125_2(v1 v7:zA)(v8 v9:Int):T:=
 .ite (dB v9 v8)
 (.opt (jB yA 79 v7 (.int .i64 v9)) fun a0=>.light (fun m=>oA yA 84 ⟨0,m⟩ a0) fun a1=>.asG [.int .i64 0,.int .i64 0,.int .i64 0,.bool false,.nilslice,.bool false,.nilslice] a1 fun X2=>
 .ite (tC zA.one [.int .i64 (X2.i 0),.int .i64 (X2.i 1),.int .i64 (X2.i 2),.bool (X2.b 3),X2.v 4,.bool (X2.b 5),X2.v 6]) (.callv v1 [(.agg [.int .i64 (X2.i 0),.int .i64 (X2.i 1),.int .i64 (X2.i 2),.bool (X2.b 3),X2.v 4,.bool (X2.b 5),X2.v 6])] fun a3=>
 .asB a3 fun b4=>.ite (!b4)
 (.ret (.bool false))
 (.jump 2 [v1,v7,.int .i64 v8,(.int .i64 (vA .i64 (v9+1)))])) .fail)
 (.ret (.bool true))
theorem j125_2(v1 v7:zA)(v8 v9:Int)(h:wp 125 (t125_2 v1 v7 v8 v9) m Q):jp 125 2 [v1,v7,.int .i64 v8,.int .i64 v9] m Q:=kD ok125 h
def t126 (A0:Int)(A1:List Nat)(A2:Int)(A3:Bool)(A4:zA)(A5:Bool)(A6:zA)(A7:Int)(A8:zA):T:=
 .ite (mA A0 0)
 (.ite (zF A1 [])
 (.opt (yC A8) fun a0=>.asI .i64 a0 fun n1=>.ite (mA n1 0)
 (.call 86 [.agg [.int .u8 A2,.bool A3,A4,.bool A5,A6,.int .i64 A7]] fun a2=>
 .asB a2 fun b3=>.ret (.bool b3))
 (.ret (.bool false)))
 (.ret (.bool false)))
 (.ret (.bool false))
theorem w126(A0:Int)(A1:List Nat)(A2:Int)(A3:Bool)(A4:zA)(A5:Bool)(A6:zA)(A7:Int)(A8:zA)(h:wp 126 (t126 A0 A1 A2 A3 A4 A5 A6 A7 A8) m Q):Wf 126 [.agg [.int .u8 A0,.str A1,.int .u8 A2,.bool A3,A4,.bool A5,A6,.int .i64 A7,A8]] m Q:=iB ok126 h
def t139 (p0:Int):T:=
 .ite (jC 48 p0)
 (.ret (.bool (jC p0 57)))
 (.ret (.bool false))
theorem w139(p0:Int)(h:wp 139 (t139 p0) m Q):Wf 139 [.int .u8 p0] m Q:=iB ok139 h
def t141 (A0:Bool)(A1:zA)(A2:Bool)(A3:zA):T:=
 .ite true (.call 166 [.agg [.bool A0,A1,.bool A2,A3]] fun a0=>
 .asB a0 fun b1=>.ret (.bool b1)) .fail
theorem w141(A0:Bool)(A1:zA)(A2:Bool)(A3:zA)(h:wp 141 (t141 A0 A1 A2 A3) m Q):Wf 141 [.agg [.bool A0,A1,.bool A2,A3]] m Q:=iB ok141 h
def t142 (A0:Bool)(A1:zA)(A2:Bool)(A3:zA):T:=
 .call 141 [.agg [.bool A0,A1,.bool A2,A3]] fun a0=>
 .asB a0 fun b1=>.ite (!b1)
 (.ret (.tup [.str [],.int .i64 2]))
 (.call 167 [.agg [.bool A0,A1]] fun a2=>
 .opt (rB 0 a2) fun a3=>.asS a3 fun s4=>.opt (rB 1 a2) fun a5=>.asI .i64 a5 fun n6=>.ite true (.call 168 [.agg [.bool A0,A1,.bool A2,A3]] fun a7=>
 .asB a7 fun b8=>.ite (!b8)
 (.call 167 [.agg [.bool A2,A3]] fun a9=>
 .opt (rB 0 a9) fun a10=>.asS a10 fun s11=>.opt (rB 1 a9) fun a12=>.asI .i64 a12 fun n13=>.opt (xJ [47] s11) fun a14=>.asS a14 fun s15=>.opt (xJ s4 s15) fun a16=>.asS a16 fun s17=>.ret (.tup [.str s17,.int .i64 0]))
 (.ret (.tup [.str s4,.int .i64 0]))) .fail)
theorem w142(A0:Bool)(A1:zA)(A2:Bool)(A3:zA)(h:wp 142 (t142 A0 A1 A2 A3) m Q):Wf 142 [.agg [.bool A0,A1,.bool A2,A3]] m Q:=iB ok142 h
def t143 (p0 p1:List Nat):T:=
 .call 169 [.str p0,.str p1] fun a0=>
 .asS a0 fun s1=>.ret (.str s1)
theorem w143(p0 p1:List Nat)(h:wp 143 (t143 p0 p1) m Q):Wf 143 [.str p0,.str p1] m Q:=iB ok143 h
def t145 (p0:Bool):T:=
 .call 171 [.bool p0] fun a0=>
 .asS a0 fun s1=>.ret (.str s1)
theorem w145(p0:Bool)(h:wp 145 (t145 p0) m Q):Wf 145 [.bool p0] m Q:=iB ok145 h
def t146 (A0:Bool)(A1:zA)(A2:Bool)(A3:zA):T:=
 .call 142 [.agg [.bool A0,A1,.bool A2,A3]] fun a0=>
 .opt (rB 0 a0) fun a1=>.asS a1 fun s2=>.opt (rB 1 a0) fun a3=>.asI .i64 a3 fun n4=>.call 172 [.str s2] fun a5=>
 .asS a5 fun s6=>.ret (.str s6)
theorem w146(A0:Bool)(A1:zA)(A2:Bool)(A3:zA)(h:wp 146 (t146 A0 A1 A2 A3) m Q):Wf 146 [.agg [.bool A0,A1,.bool A2,A3]] m Q:=iB ok146 h
def t147 (p0:Int):T:=
 .call 173 [.int .i64 p0] fun a0=>
 .opt (rB 0 a0) fun a1=>.asI .i64 a1 fun n2=>.opt (rB 1 a0) fun a3=>.asI .i64 a3 fun n4=>.opt (rB 2 a0) fun a5=>.asI .i64 a5 fun n6=>.opt (rB 3 a0) fun a7=>.asI .i64 a7 fun n8=>.ite (!mA n8 0)
 (.ret (.str []))
 (.ite true (.heavy (fG yA 236) fun a9=>
 .heavy (cC yA 236 a9 (.agg [.int .u8 0,.int .u8 0,.int .u8 0,.int .u8 0,.int .u8 45,.int .u8 0,.int .u8 0,.int .u8 45,.int .u8 0,.int .u8 0])) fun _=>
 .light (fun m=>oA yA 236 ⟨0,m⟩ a9) fun a10=>.asG z6l a10 fun X11=>
 .call 174 [(.agg [.int .u8 (X11.i 0),.int .u8 (X11.i 1),.int .u8 (X11.i 2),.int .u8 (X11.i 3),.int .u8 (X11.i 4),.int .u8 (X11.i 5),.int .u8 (X11.i 6),.int .u8 (X11.i 7),.int .u8 (X11.i 8),.int .u8 (X11.i 9)]),.int .i64 0,.int .i64 4,.int .i64 n2] fun a12=>
 .asG z6l a12 fun X13=>
 .heavy (cC yA 236 a9 (.agg [.int .u8 (X13.i 0),.int .u8 (X13.i 1),.int .u8 (X13.i 2),.int .u8 (X13.i 3),.int .u8 (X13.i 4),.int .u8 (X13.i 5),.int .u8 (X13.i 6),.int .u8 (X13.i 7),.int .u8 (X13.i 8),.int .u8 (X13.i 9)])) fun _=>
 .light (fun m=>oA yA 236 ⟨0,m⟩ a9) fun a14=>.asG z6l a14 fun X15=>
 .call 174 [(.agg [.int .u8 (X15.i 0),.int .u8 (X15.i 1),.int .u8 (X15.i 2),.int .u8 (X15.i 3),.int .u8 (X15.i 4),.int .u8 (X15.i 5),.int .u8 (X15.i 6),.int .u8 (X15.i 7),.int .u8 (X15.i 8),.int .u8 (X15.i 9)]),.int .i64 5,.int .i64 2,.int .i64 n4] fun a16=>
 .asG z6l a16 fun X17=>
 .heavy (cC yA 236 a9 (.agg [.int .u8 (X17.i 0),.int .u8 (X17.i 1),.int .u8 (X17.i 2),.int .u8 (X17.i 3),.int .u8 (X17.i 4),.int .u8 (X17.i 5),.int .u8 (X17.i 6),.int .u8 (X17.i 7),.int .u8 (X17.i 8),.int .u8 (X17.i 9)])) fun _=>
 .light (fun m=>oA yA 236 ⟨0,m⟩ a9) fun a18=>.asG z6l a18 fun X19=>
 .call 174 [(.agg [.int .u8 (X19.i 0),.int .u8 (X19.i 1),.int .u8 (X19.i 2),.int .u8 (X19.i 3),.int .u8 (X19.i 4),.int .u8 (X19.i 5),.int .u8 (X19.i 6),.int .u8 (X19.i 7),.int .u8 (X19.i 8),.int .u8 (X19.i 9)]),.int .i64 8,.int .i64 2,.int .i64 n6] fun a20=>
 .asG z6l a20 fun X21=>
 .heavy (cC yA 236 a9 (.agg [.int .u8 (X21.i 0),.int .u8 (X21.i 1),.int .u8 (X21.i 2),.int .u8 (X21.i 3),.int .u8 (X21.i 4),.int .u8 (X21.i 5),.int .u8 (X21.i 6),.int .u8 (X21.i 7),.int .u8 (X21.i 8),.int .u8 (X21.i 9)])) fun _=>
 .light (fun m=>zG yA 236 ⟨0,m⟩ a9 none none) fun a22=>.light (fun m=>oK yA 38 9 ⟨0,m⟩ a22) fun a23=>.asS a23 fun s24=>.ret (.str s24)) .fail)
theorem w147(p0:Int)(h:wp 147 (t147 p0) m Q):Wf 147 [.int .i64 p0] m Q:=iB ok147 h
def t148 (p0:Int):T:=
 .call 175 [.int .i64 p0] fun a0=>
 .asS a0 fun s1=>.call 172 [.str s1] fun a2=>
 .asS a2 fun s3=>.ret (.str s3)
theorem w148(p0:Int)(h:wp 148 (t148 p0) m Q):Wf 148 [.int .i64 p0] m Q:=iB ok148 h
def t149 (p0:Int):T:=
 .ite (dB (vA .i64 p0) 7)
 (.opt (jB yA 238 (.ptr 0 0) (.int .u8 p0)) fun a0=>.light (fun m=>oA yA 9 ⟨0,m⟩ a0) fun a1=>.asS a1 fun s2=>.ret (.str s2))
 (.ret (.str []))
theorem w149(p0:Int)(h:wp 149 (t149 p0) m Q):Wf 149 [.int .u8 p0] m Q:=iB ok149 h
def t166 (A0:Bool)(A1:zA)(A2:Bool)(A3:zA):T:=
 .call 186 [.agg [.bool A0,A1,.bool A2,A3]] fun a0=>
 .asB a0 fun b1=>.ite b1
 (.ret (.bool false))
 (.call 187 [.agg [.bool A0,A1]] fun a2=>
 .asB a2 fun b3=>.ite (!b3)
 (.ret (.bool false))
 (.call 187 [.agg [.bool A2,A3]] fun a4=>
 .asB a4 fun b5=>.ite (!b5)
 (.ret (.bool false))
 (.ite A2
 (.ret (.bool false))
 (.opt (yC A3) fun a6=>.asI .i64 a6 fun n7=>.ite (mA n7 0)
 (.ret (.bool false))
 (.call 168 [.agg [.bool A0,A1,.bool A2,A3]] fun a8=>
 .asB a8 fun b9=>.ite b9
 (.ret (.bool true))
 (.call 189 [.agg [.bool A0,A1],.agg [.bool A2,A3]] fun a10=>
 .asG zz6z a10 fun X11=>
 .call 188 [(.agg [.bool (X11.b 0),X11.v 1])] fun a12=>
 .asB a12 fun b13=>.ret (.bool b13)))))))
theorem w166(A0:Bool)(A1:zA)(A2:Bool)(A3:zA)(h:wp 166 (t166 A0 A1 A2 A3) m Q):Wf 166 [.agg [.bool A0,A1,.bool A2,A3]] m Q:=iB ok166 h
def t167 (A0:Bool)(A1:zA):T:=
 .call 187 [.agg [.bool A0,A1]] fun a0=>
 .asB a0 fun b1=>.ite (!b1)
 (.ret (.tup [.str [],.int .i64 2]))
 (.opt (yC A1) fun a2=>.asI .i64 a2 fun n3=>.ite (mA n3 0)
 (.ret (.tup [.str [48],.int .i64 0]))
 (.call 190 [A1] fun a4=>
 .jump 2 [.str [],.int .i64 0,.nilslice,a4,.bool A0,A1]))
theorem w167(A0:Bool)(A1:zA)(h:wp 167 (t167 A0 A1) m Q):Wf 167 [.agg [.bool A0,A1]] m Q:=iB zxh h
def zv8(v2:List Nat)(v3:Int)(v4 v5:zA)(A0:Bool)(A1:zA):T:=
 .opt (yC v5) fun a0=>.asI .i64 a0 fun n1=>.ite (dB 0 n1)
 (.call 191 [v5,.int .u32 1000000000] fun a2=>
 .opt (rB 0 a2) fun a3=>.opt (rB 1 a2) fun a4=>.asI .u32 a4 fun n5=>.heavy (dH yA 244 1 [(0,(.int .u32 n5))]) fun a6=>
 .heavy (gH yA 244 244 v4 a6) fun a7=>
 .jump 2 [.str v2,.int .i64 v3,a7,a3,.bool A0,A1])
 (.heavy (fG yA 38) fun a8=>
 .ite A0
 (.light (fun m=>oA yA 38 ⟨0,m⟩ a8) fun a9=>.heavy (dH yA 38 1 [(0,(.int .u8 45))]) fun a10=>
 .heavy (gH yA 38 38 a9 a10) fun oF=>
 .heavy (cC yA 38 a8 oF) fun _=>
 .jump 29 [.str v2,.int .i64 v3,v4,a8])
 (.jump 29 [.str v2,.int .i64 v3,v4,a8]))
theorem z55(v2:List Nat)(v3:Int)(v4 v5:zA)(A0:Bool)(A1:zA)(h:wp 167 (zv8 v2 v3 v4 v5 A0 A1) m Q):jp 167 2 [.str v2,.int .i64 v3,v4,v5,.bool A0,A1] m Q:=kD zxh h
def zv7(v2:List Nat)(v3:Int)(v4 v8:zA):T:=
 .call 192 [v4] fun a0=>
 .range (npC yA) a0 6 1 [v8]
 (.light (fun m=>oA yA 38 ⟨0,m⟩ v8) fun a1=>.light (fun m=>oK yA 38 9 ⟨0,m⟩ a1) fun a2=>.asS a2 fun s3=>.ret (.tup [.str s3,.int .i64 0]))
 (.ret (.tup [.str v2,.int .i64 v3]))
theorem z8h(v2:List Nat)(v3:Int)(v4 v8:zA)(h:wp 167 (zv7 v2 v3 v4 v8) m Q):jp 167 29 [.str v2,.int .i64 v3,v4,v8] m Q:=kD zxh h
def z5c(v8:zA)(v41:Int):T:=
 .call 193 [(.int .u64 (vA .u64 v41)),.int .i64 10] fun a0=>
 .asS a0 fun s1=>.light (fun m=>oA yA 38 ⟨0,m⟩ v8) fun a2=>.opt (yC a2) fun a3=>.asI .i64 a3 fun n4=>.ite (dB 1 n4)
 (.jump 10 [v8,.str s1,(.int .i64 (vA .i64 (9-(Int.ofNat (wB s1))))),.int .i64 0])
 (.light (fun m=>oA yA 38 ⟨0,m⟩ v8) fun a5=>.opt (yC a5) fun a6=>.asI .i64 a6 fun n7=>.ite (mA n7 1)
 (.light (fun m=>oA yA 38 ⟨0,m⟩ v8) fun a8=>.opt (jB yA 38 a8 (.int .i64 0)) fun a9=>.light (fun m=>oA yA 5 ⟨0,m⟩ a9) fun a10=>.asI .u8 a10 fun n11=>.ite (!mA n11 45)
 (.jump 10 [v8,.str s1,(.int .i64 (vA .i64 (9-(Int.ofNat (wB s1))))),.int .i64 0])
 (.light (fun m=>oA yA 38 ⟨0,m⟩ v8) fun a12=>.heavy (gH yA 38 9 a12 (.str s1)) fun a13=>
 .heavy (cC yA 38 v8 a13) fun _=>
 .ret (.bool true)))
 (.light (fun m=>oA yA 38 ⟨0,m⟩ v8) fun a14=>.heavy (gH yA 38 9 a14 (.str s1)) fun a15=>
 .heavy (cC yA 38 v8 a15) fun _=>
 .ret (.bool true)))
theorem j167_6(v8:zA)(v41:Int)(h:wp 167 (z5c v8 v41) m Q):jp 167 6 [v8,.int .u32 v41] m Q:=kD zxh h
def zmv(v8:zA)(v10:List Nat)(v61 v62:Int):T:=
 .ite (dB v62 v61)
 (.light (fun m=>oA yA 38 ⟨0,m⟩ v8) fun a0=>.heavy (dH yA 38 1 [(0,(.int .u8 48))]) fun a1=>
 .heavy (gH yA 38 38 a0 a1) fun a2=>
 .heavy (cC yA 38 v8 a2) fun _=>
 .jump 10 [v8,.str v10,.int .i64 v61,(.int .i64 (vA .i64 (v62+1)))])
 (.light (fun m=>oA yA 38 ⟨0,m⟩ v8) fun a3=>.heavy (gH yA 38 9 a3 (.str v10)) fun a4=>
 .heavy (cC yA 38 v8 a4) fun _=>
 .ret (.bool true))
theorem zyq(v8:zA)(v10:List Nat)(v61 v62:Int)(h:wp 167 (zmv v8 v10 v61 v62) m Q):jp 167 10 [v8,.str v10,.int .i64 v61,.int .i64 v62] m Q:=kD zxh h
def t168 (A0:Bool)(A1:zA)(A2:Bool)(A3:zA):T:=
 .call 188 [.agg [.bool A2,A3]] fun a0=>
 .asB a0 fun b1=>.ret (.bool b1)
theorem w168(A0:Bool)(A1:zA)(A2:Bool)(A3:zA)(h:wp 168 (t168 A0 A1 A2 A3) m Q):Wf 168 [.agg [.bool A0,A1,.bool A2,A3]] m Q:=iB ok168 h
def t169 (p0 p1:List Nat):T:=
 .call 194 [.str p0,.str p1] fun a0=>
 .asB a0 fun b1=>.ite b1
 (.opt (zG yA 9 H0A (.str p0) (some (.int .i64 (Int.ofNat (wB p1)))) none) fun a2=>.asS a2 fun s3=>.ret (.str s3))
 (.ret (.str p0))
theorem w169(p0 p1:List Nat)(h:wp 169 (t169 p0 p1) m Q):Wf 169 [.str p0,.str p1] m Q:=iB ok169 h
def t171 (p0:Bool):T:=
 .ite p0
 (.ret (.str [116,114,117,101]))
 (.ret (.str [102,97,108,115,101]))
theorem w171(p0:Bool)(h:wp 171 (t171 p0) m Q):Wf 171 [.bool p0] m Q:=iB ok171 h
def t172 (p0:List Nat):T:=
 .call 195 [.str p0,.str [45]] fun a0=>
 .opt (rB 0 a0) fun a1=>.asS a1 fun s2=>.opt (rB 1 a0) fun a3=>.asB a3 fun b4=>.ite b4
 (.opt (xJ [109,105,110,117,115,32] s2) fun a5=>.asS a5 fun s6=>.ret (.str s6))
 (.ret (.str p0))
theorem w172(p0:List Nat)(h:wp 172 (t172 p0) m Q):Wf 172 [.str p0] m Q:=iB ok172 h
def t173 (p0:Int):T:=
 .call 196 [.int .i64 p0] fun a0=>
 .asB a0 fun b1=>.ite (!b1)
 (.ret (.tup [.int .i64 0,.int .i64 0,.int .i64 0,.int .i64 2]))
 (.call 197 [.int .i64 p0] fun a2=>
 .asI .i64 a2 fun n3=>.call 198 [.int .i64 n3] fun a4=>
 .asI .i64 a4 fun n5=>.ret (.tup [(.int .i64 (vA .i64 (1900+(vA .i64 (Int.tdiv n3 12))))),(.int .i64 (vA .i64 ((Int.tmod n3 12)+1))),(.int .i64 (vA .i64 ((vA .i64 (p0-n5))+1))),.int .i64 0]))
theorem w173(p0:Int)(h:wp 173 (t173 p0) m Q):Wf 173 [.int .i64 p0] m Q:=iB ok173 h
def t174 (A0 A1 A2 A3 A4 A5 A6 A7 A8 A9 p1 p2 p3:Int):T:=
 .heavy (zmo (.agg [.int .u8 A0,.int .u8 A1,.int .u8 A2,.int .u8 A3,.int .u8 A4,.int .u8 A5,.int .u8 A6,.int .u8 A7,.int .u8 A8,.int .u8 A9])) fun a0=>
 .jump 2 [.int .i64 p1,.int .i64 p3,a0,(.int .i64 (vA .i64 ((vA .i64 (p1+p2))-1))),.int .u8 0,.int .u8 0,.int .u8 0,.int .u8 0,.int .u8 0,.int .u8 0,.int .u8 0,.int .u8 0,.int .u8 0,.int .u8 0]
theorem w174(A0 A1 A2 A3 A4 A5 A6 A7 A8 A9 p1 p2 p3:Int)(h:wp 174 (t174 A0 A1 A2 A3 A4 A5 A6 A7 A8 A9 p1 p2 p3) m Q):Wf 174 [.agg [.int .u8 A0,.int .u8 A1,.int .u8 A2,.int .u8 A3,.int .u8 A4,.int .u8 A5,.int .u8 A6,.int .u8 A7,.int .u8 A8,.int .u8 A9],.int .i64 p1,.int .i64 p2,.int .i64 p3] m Q:=iB ok174 h
def t174_2(v1 v3:Int)(v4:zA)(v9 A0 A1 A2 A3 A4 A5 A6 A7 A8 A9:Int):T:=
 .ite (jC v1 v9)
 (.opt (jB yA 236 v4 (.int .i64 v9)) fun a0=>.heavy (cC yA 5 a0 (.int .u8 (vA .u8 (vA .i64 (48+(Int.tmod v3 10)))))) fun _=>
 .jump 2 [.int .i64 v1,(.int .i64 (vA .i64 (Int.tdiv v3 10))),v4,(.int .i64 (vA .i64 (v9-1))),.int .u8 A0,.int .u8 A1,.int .u8 A2,.int .u8 A3,.int .u8 A4,.int .u8 A5,.int .u8 A6,.int .u8 A7,.int .u8 A8,.int .u8 A9])
 (.light (fun m=>oA yA 236 ⟨0,m⟩ v4) fun a1=>.asG z6l a1 fun X2=>
 .ite true (.ret (.agg [.int .u8 (X2.i 0),.int .u8 (X2.i 1),.int .u8 (X2.i 2),.int .u8 (X2.i 3),.int .u8 (X2.i 4),.int .u8 (X2.i 5),.int .u8 (X2.i 6),.int .u8 (X2.i 7),.int .u8 (X2.i 8),.int .u8 (X2.i 9)])) .fail)
theorem z54(v1 v3:Int)(v4:zA)(v9 A0 A1 A2 A3 A4 A5 A6 A7 A8 A9:Int)(h:wp 174 (t174_2 v1 v3 v4 v9 A0 A1 A2 A3 A4 A5 A6 A7 A8 A9) m Q):jp 174 2 [.int .i64 v1,.int .i64 v3,v4,.int .i64 v9,.int .u8 A0,.int .u8 A1,.int .u8 A2,.int .u8 A3,.int .u8 A4,.int .u8 A5,.int .u8 A6,.int .u8 A7,.int .u8 A8,.int .u8 A9] m Q:=kD ok174 h
def t186 (A0:Bool)(A1:zA)(A2:Bool)(A3:zA):T:=
 .opt (yC A1) fun a0=>.asI .i64 a0 fun n1=>.ite (dB 256 n1)
 (.ret (.bool true))
 (.opt (yC A3) fun a2=>.asI .i64 a2 fun n3=>.ret (.bool (dB 256 n3)))
theorem w186(A0:Bool)(A1:zA)(A2:Bool)(A3:zA)(h:wp 186 (t186 A0 A1 A2 A3) m Q):Wf 186 [.agg [.bool A0,A1,.bool A2,A3]] m Q:=iB ok186 h
def t187 (A0:Bool)(A1:zA):T:=
 .opt (yC A1) fun a0=>.asI .i64 a0 fun n1=>.ite (mA n1 0)
 (.ret (.bool (!A0)))
 (.ite (jC n1 1024)
 (.opt (jB yA 27 A1 (.int .i64 (vA .i64 (n1-1)))) fun a2=>.light (fun m=>oA yA 202 ⟨0,m⟩ a2) fun a3=>.asI .u16 a3 fun n4=>.ret (.bool (!mA n4 0)))
 (.ret (.bool false)))
theorem w187(A0:Bool)(A1:zA)(h:wp 187 (t187 A0 A1) m Q):Wf 187 [.agg [.bool A0,A1]] m Q:=iB ok187 h
def t188 (A0:Bool)(A1:zA):T:=
 .ite (!A0)
 (.opt (yC A1) fun a0=>.asI .i64 a0 fun n1=>.ite (mA n1 1)
 (.opt (jB yA 27 A1 (.int .i64 0)) fun a2=>.light (fun m=>oA yA 202 ⟨0,m⟩ a2) fun a3=>.asI .u16 a3 fun n4=>.ret (.bool (mA n4 1)))
 (.ret (.bool false)))
 (.ret (.bool false))
theorem w188(A0:Bool)(A1:zA)(h:wp 188 (t188 A0 A1) m Q):Wf 188 [.agg [.bool A0,A1]] m Q:=iB ok188 h
def t189 (A0:Bool)(A1:zA)(A2:Bool)(A3:zA):T:=
 .call 210 [.agg [.bool A0,A1],.agg [.bool A2,A3]] fun a0=>
 .opt (rB 0 a0) fun a1=>.asG zz6z a1 fun X2=>
 .opt (rB 1 a0) fun a3=>.asI .i64 a3 fun n4=>.ite (tC zA.one [.bool (X2.b 0),X2.v 1]) (.ite (tC zA.one [.bool (X2.b 0),X2.v 1]) (.ret (.agg [.bool (X2.b 0),X2.v 1])) .fail) .fail
theorem w189(A0:Bool)(A1:zA)(A2:Bool)(A3:zA)(h:wp 189 (t189 A0 A1 A2 A3) m Q):Wf 189 [.agg [.bool A0,A1],.agg [.bool A2,A3]] m Q:=iB ok189 h
def t190 (p0:zA):T:=
 .opt (yC p0) fun a0=>.asI .i64 a0 fun n1=>.heavy (mN yA 244 (.int .i64 (vA .i64 (Int.tdiv (vA .i64 (n1+1)) 2))) (.int .i64 (vA .i64 (Int.tdiv (vA .i64 (n1+1)) 2)))) fun a2=>
 .opt (yC p0) fun a3=>.asI .i64 a3 fun n4=>.jump 2 [a2,p0,.int .i64 n4,.int .i64 0]
theorem w190(p0:zA)(h:wp 190 (t190 p0) m Q):Wf 190 [p0] m Q:=iB ok190 h
def zv6(v3 v11:zA)(v12 v13:Int):T:=
 .ite (dB v13 v12)
 (.opt (jB yA 27 v11 (.int .i64 v13)) fun a0=>.light (fun m=>oA yA 202 ⟨0,m⟩ a0) fun a1=>.asI .u16 a1 fun n2=>.opt (jB yA 244 v3 (.int .i64 (vA .i64 (Int.tdiv v13 2)))) fun a3=>.light (fun m=>oA yA 246 ⟨0,m⟩ a3) fun a4=>.asI .u32 a4 fun n5=>.opt (zyw .u32 (vA .u32 n2) (vA .i64 (16*(Int.tmod v13 2)))) fun a6=>.asI .u32 a6 fun n7=>.opt (sH Nat.lor .u32 n5 n7) fun a8=>.asI .u32 a8 fun n9=>.opt (jB yA 244 v3 (.int .i64 (vA .i64 (Int.tdiv v13 2)))) fun a10=>.heavy (cC yA 246 a10 (.int .u32 n9)) fun _=>
 .jump 2 [v3,v11,.int .i64 v12,(.int .i64 (vA .i64 (v13+1)))])
 (.ret v3)
theorem z52(v3 v11:zA)(v12 v13:Int)(h:wp 190 (zv6 v3 v11 v12 v13) m Q):jp 190 2 [v3,v11,.int .i64 v12,.int .i64 v13] m Q:=kD ok190 h
def t191 (p0:zA)(p1:Int):T:=
 .opt (yC p0) fun a0=>.asI .i64 a0 fun n1=>.heavy (mN yA 244 (.int .i64 n1) (.int .i64 n1)) fun a2=>
 .opt (yC p0) fun a3=>.asI .i64 a3 fun n4=>.jump 2 [p0,.int .u32 p1,a2,.int .u32 0,(.int .i64 (vA .i64 (n4-1)))]
theorem w191(p0:zA)(p1:Int)(h:wp 191 (t191 p0 p1) m Q):Wf 191 [p0,.int .u32 p1] m Q:=iB ok191 h
def zv5(v0:zA)(v1:Int)(v6:zA)(v7 v8:Int):T:=
 .ite (jC 0 v8)
 (.opt (jB yA 244 v0 (.int .i64 v8)) fun a0=>.light (fun m=>oA yA 246 ⟨0,m⟩ a0) fun a1=>.asI .u32 a1 fun n2=>.call 211 [.int .u32 v7,.int .u32 n2,.int .u32 v1] fun a3=>
 .opt (rB 0 a3) fun a4=>.asI .u32 a4 fun n5=>.opt (rB 1 a3) fun a6=>.asI .u32 a6 fun n7=>.opt (jB yA 244 v6 (.int .i64 v8)) fun a8=>.heavy (cC yA 246 a8 (.int .u32 n5)) fun _=>
 .jump 2 [v0,.int .u32 v1,v6,.int .u32 n7,(.int .i64 (vA .i64 (v8-1)))])
 (.call 212 [v6] fun a9=>
 .ret (.tup [a9,.int .u32 v7]))
theorem z50(v0:zA)(v1:Int)(v6:zA)(v7 v8:Int)(h:wp 191 (zv5 v0 v1 v6 v7 v8) m Q):jp 191 2 [v0,.int .u32 v1,v6,.int .u32 v7,.int .i64 v8] m Q:=kD ok191 h
def t192 (p0:zA):T:=
 .heavy (zmo p0) fun a0=>
 .ret (.func (.func 213) [] [a0])
theorem w192(p0:zA)(h:wp 192 (t192 p0) m Q):Wf 192 [p0] m Q:=iB ok192 h
def t194 (p0 p1:List Nat):T:=
 .ite (jC (Int.ofNat (wB p1)) (Int.ofNat (wB p0)))
 (.opt (zG yA 9 H0A (.str p0) none (some (.int .i64 (Int.ofNat (wB p1))))) fun a0=>.asS a0 fun s1=>.ret (.bool (zF s1 p1)))
 (.ret (.bool false))
theorem w194(p0 p1:List Nat)(h:wp 194 (t194 p0 p1) m Q):Wf 194 [.str p0,.str p1] m Q:=iB ok194 h
def t195 (p0 p1:List Nat):T:=
 .call 215 [.str p0,.str p1] fun a0=>
 .opt (rB 0 a0) fun a1=>.asS a1 fun s2=>.opt (rB 1 a0) fun a3=>.asB a3 fun b4=>.ret (.tup [.str s2,.bool b4])
theorem w195(p0 p1:List Nat)(h:wp 195 (t195 p0 p1) m Q):Wf 195 [.str p0,.str p1] m Q:=iB ok195 h
def t196 (p0:Int):T:=
 .ite (jC 0 p0)
 (.ret (.bool (dB p0 65536)))
 (.ret (.bool false))
theorem w196(p0:Int)(h:wp 196 (t196 p0) m Q):Wf 196 [.int .i64 p0] m Q:=iB ok196 h
def t197 (p0:Int):T:=
 .heavy (zmo (.int .i64 p0)) fun a0=>
 .call 216 [.int .i64 2154,(.func (.func 217) [] [a0])] fun a1=>
 .asI .i64 a1 fun n2=>.ret (.int .i64 n2)
theorem w197(p0:Int)(h:wp 197 (t197 p0) m Q):Wf 197 [.int .i64 p0] m Q:=iB ok197 h
def t198 (p0:Int):T:=
 .call 218 [(.int .i64 (vA .i64 ((vA .i64 (1900+(vA .i64 (Int.tdiv p0 12))))-1)))] fun a0=>
 .asI .i64 a0 fun n1=>.call 218 [.int .i64 1899] fun a2=>
 .asI .i64 a2 fun n3=>.jump 2 [.int .i64 p0,(.int .i64 (vA .i64 (1900+(vA .i64 (Int.tdiv p0 12))))),(.int .i64 (vA .i64 ((vA .i64 ((vA .i64 (365*(vA .i64 ((vA .i64 (1900+(vA .i64 (Int.tdiv p0 12))))-1900))))+n1))-n3))),.int .i64 1]
theorem w198(p0:Int)(h:wp 198 (t198 p0) m Q):Wf 198 [.int .i64 p0] m Q:=iB ok198 h
def t198_2(v0 v3 v4 v5:Int):T:=
 .ite (jC v5 (Int.tmod v0 12))
 (.call 219 [.int .i64 v3,.int .i64 v5] fun a0=>
 .asI .i64 a0 fun n1=>.jump 2 [.int .i64 v0,.int .i64 v3,(.int .i64 (vA .i64 (v4+n1))),(.int .i64 (vA .i64 (v5+1)))])
 (.ret (.int .i64 v4))
theorem zyp(v0 v3 v4 v5:Int)(h:wp 198 (t198_2 v0 v3 v4 v5) m Q):jp 198 2 [.int .i64 v0,.int .i64 v3,.int .i64 v4,.int .i64 v5] m Q:=kD ok198 h
def t210 (A0:Bool)(A1:zA)(A2:Bool)(A3:zA):T:=
 .heavy (dH yA 279 2 [(0,(.agg [.bool A0,A1])),(1,(.agg [.bool A2,A3]))]) fun a0=>
 .call 224 [a0] fun a1=>
 .asB a1 fun b2=>.ite (!b2)
 (.ite true (.ite true (.ret (.tup [.agg [.bool false,.nilslice],.int .i64 2])) .fail) .fail)
 (.call 190 [A1] fun a3=>
 .ite (same 10 A3 A3) (.call 190 [A3] fun a4=>
 .call 226 [a3,a4] fun a5=>
 .call 225 [.bool false,a5] fun a6=>
 .asG zz6z a6 fun X7=>
 .ite (tC zA.one [.bool (X7.b 0),X7.v 1]) (.ret (.tup [(.agg [.bool (X7.b 0),X7.v 1]),.int .i64 0])) .fail) .fail)
theorem w210(A0:Bool)(A1:zA)(A2:Bool)(A3:zA)(h:wp 210 (t210 A0 A1 A2 A3) m Q):Wf 210 [.agg [.bool A0,A1],.agg [.bool A2,A3]] m Q:=iB ok210 h
def t211 (p0 p1 p2:Int):T:=
 .ite (!mA p2 0)
 (.ite (jC p2 p0)
 (.light (fun m=>oA yA 193 ⟨0,m⟩ (.ptr 2 0)) fun a0=>.fail)
 (.jump 7 [.int .u32 p0,.int .u32 p1,.int .u32 p2]))
 (.jump 7 [.int .u32 p0,.int .u32 p1,.int .u32 p2])
theorem w211(p0 p1 p2:Int)(h:wp 211 (t211 p0 p1 p2) m Q):Wf 211 [.int .u32 p0,.int .u32 p1,.int .u32 p2] m Q:=iB ok211 h
def z5b(v0 v1 v2:Int):T:=
 .opt (sH Nat.lor .u64 (vA .u64 ((vA .u64 v0)*4294967296)) (vA .u64 v1)) fun a0=>.asI .u64 a0 fun n1=>.opt (z3e .u64 n1 (vA .u64 v2)) fun a2=>.asI .u64 a2 fun n3=>.opt (z3d .u64 n1 (vA .u64 v2)) fun a4=>.asI .u64 a4 fun n5=>.ret (.tup [(.int .u32 (vA .u32 n3)),(.int .u32 (vA .u32 n5))])
theorem j211_7(v0 v1 v2:Int)(h:wp 211 (z5b v0 v1 v2) m Q):jp 211 7 [.int .u32 v0,.int .u32 v1,.int .u32 v2] m Q:=kD ok211 h
def t212 (p0:zA):T:=
 .jump 2 [p0]
theorem w212(p0:zA)(h:wp 212 (t212 p0) m Q):Wf 212 [p0] m Q:=iB ok212 h
def zpl(v0:zA):T:=
 .opt (yC v0) fun a0=>.asI .i64 a0 fun n1=>.ite (dB 0 n1)
 (.opt (yC v0) fun a2=>.asI .i64 a2 fun n3=>.opt (jB yA 244 v0 (.int .i64 (vA .i64 (n3-1)))) fun a4=>.light (fun m=>oA yA 246 ⟨0,m⟩ a4) fun a5=>.asI .u32 a5 fun n6=>.ite (mA n6 0)
 (.opt (yC v0) fun a7=>.asI .i64 a7 fun n8=>.light (fun m=>zG yA 244 ⟨0,m⟩ v0 none (some (.int .i64 (vA .i64 (n8-1))))) fun a9=>.jump 2 [a9])
 (.ret v0))
 (.ret v0)
theorem zyo(v0:zA)(h:wp 212 (zpl v0) m Q):jp 212 2 [v0] m Q:=kD ok212 h
def t213 (p0 w0:zA):T:=
 .light (fun m=>oA yA 244 ⟨0,m⟩ w0) fun a0=>.opt (yC a0) fun a1=>.asI .i64 a1 fun n2=>.jump 2 [p0,w0,(.int .i64 (vA .i64 (n2-1)))]
theorem w213(p0 w0:zA)(h:wp 213 (t213 p0 w0) m Q):Wf 213 [p0,w0] m Q:=iB ok213 h
def zv4(v0 v1:zA)(v3:Int):T:=
 .ite (jC 0 v3)
 (.light (fun m=>oA yA 244 ⟨0,m⟩ v1) fun a0=>.opt (jB yA 244 a0 (.int .i64 v3)) fun a1=>.light (fun m=>oA yA 246 ⟨0,m⟩ a1) fun a2=>.asI .u32 a2 fun n3=>.callv v0 [.int .u32 n3] fun a4=>
 .asB a4 fun b5=>.ite (!b5)
 (.ret (.tup []))
 (.jump 2 [v0,v1,(.int .i64 (vA .i64 (v3-1)))]))
 (.ret (.tup []))
theorem z5z(v0 v1:zA)(v3:Int)(h:wp 213 (zv4 v0 v1 v3) m Q):jp 213 2 [v0,v1,.int .i64 v3] m Q:=kD ok213 h
def t215 (p0 p1:List Nat):T:=
 .call 194 [.str p0,.str p1] fun a0=>
 .asB a0 fun b1=>.ite (!b1)
 (.ret (.tup [.str p0,.bool false]))
 (.opt (zG yA 9 H0A (.str p0) (some (.int .i64 (Int.ofNat (wB p1)))) none) fun a2=>.asS a2 fun s3=>.ret (.tup [.str s3,.bool true]))
theorem w215(p0 p1:List Nat)(h:wp 215 (t215 p0 p1) m Q):Wf 215 [.str p0,.str p1] m Q:=iB ok215 h
def t216 (p0:Int)(p1:zA):T:=
 .jump 2 [p1,.int .i64 0,.int .i64 p0]
theorem w216(p0:Int)(p1:zA)(h:wp 216 (t216 p0 p1) m Q):Wf 216 [.int .i64 p0,p1] m Q:=iB ok216 h
def t216_2(v1:zA)(v5 v6:Int):T:=
 .ite (dB v5 v6)
 (.callv v1 [(.int .i64 (vA .i64 (Int.fdiv (vA .u64 (vA .i64 (v5+v6))) 2)))] fun a0=>
 .asB a0 fun b1=>.ite (!b1)
 (.jump 2 [v1,(.int .i64 (vA .i64 ((vA .i64 (Int.fdiv (vA .u64 (vA .i64 (v5+v6))) 2))+1))),.int .i64 v6])
 (.jump 2 [v1,.int .i64 v5,(.int .i64 (vA .i64 (Int.fdiv (vA .u64 (vA .i64 (v5+v6))) 2)))]))
 (.ret (.int .i64 v5))
theorem zyn(v1:zA)(v5 v6:Int)(h:wp 216 (t216_2 v1 v5 v6) m Q):jp 216 2 [v1,.int .i64 v5,.int .i64 v6] m Q:=kD ok216 h
def t217 (p0:Int)(w0:zA):T:=
 .light (fun m=>oA yA 3 ⟨0,m⟩ w0) fun a0=>.asI .i64 a0 fun n1=>.call 198 [(.int .i64 (vA .i64 (p0+1)))] fun a2=>
 .asI .i64 a2 fun n3=>.light (fun m=>oA yA 3 ⟨0,m⟩ w0) fun a4=>.ite (same 10 a4 (.int .i64 n1)) (.ret (.bool (dB n1 n3))) .fail
theorem w217(p0:Int)(w0:zA)(h:wp 217 (t217 p0 w0) m Q):Wf 217 [.int .i64 p0,w0] m Q:=iB ok217 h
def t218 (p0:Int):T:=
 .ret (.int .i64 (vA .i64 ((vA .i64 ((vA .i64 (Int.tdiv p0 4))-(vA .i64 (Int.tdiv p0 100))))+(vA .i64 (Int.tdiv p0 400)))))
theorem w218(p0:Int)(h:wp 218 (t218 p0) m Q):Wf 218 [.int .i64 p0] m Q:=iB ok218 h
def t219 (p0 p1:Int):T:=
 .ite (dB p1 1)
 (.ret (.int .i64 0))
 (.ite (dB 12 p1)
 (.ret (.int .i64 0))
 (.ite (mA p1 2)
 (.call 231 [.int .i64 p0] fun a0=>
 .asB a0 fun b1=>.ite b1
 (.ret (.int .i64 29))
 (.opt (jB yA 275 (.ptr 3 0) (.int .i64 (vA .i64 (p1-1)))) fun a2=>.light (fun m=>oA yA 3 ⟨0,m⟩ a2) fun a3=>.asI .i64 a3 fun n4=>.ret (.int .i64 n4)))
 (.opt (jB yA 275 (.ptr 3 0) (.int .i64 (vA .i64 (p1-1)))) fun a5=>.light (fun m=>oA yA 3 ⟨0,m⟩ a5) fun a6=>.asI .i64 a6 fun n7=>.ret (.int .i64 n7))))
theorem w219(p0 p1:Int)(h:wp 219 (t219 p0 p1) m Q):Wf 219 [.int .i64 p0,.int .i64 p1] m Q:=iB ok219 h
def t224 (p0:zA):T:=
 .opt (yC p0) fun a0=>.asI .i64 a0 fun n1=>.jump 2 [p0,.int .i64 n1,.int .i64 0]
theorem w224(p0:zA)(h:wp 224 (t224 p0) m Q):Wf 224 [p0] m Q:=iB ok224 h
def zv3(v5:zA)(v6 v7:Int):T:=
 .ite (dB v7 v6)
 (.opt (jB yA 279 v5 (.int .i64 v7)) fun a0=>.light (fun m=>oA yA 29 ⟨0,m⟩ a0) fun a1=>.asG zz6z a1 fun X2=>
 .ite (tC zA.one [.bool (X2.b 0),X2.v 1]) (.call 187 [(.agg [.bool (X2.b 0),X2.v 1])] fun a3=>
 .asB a3 fun b4=>.ite (!b4)
 (.ret (.bool false))
 (.jump 2 [v5,.int .i64 v6,(.int .i64 (vA .i64 (v7+1)))])) .fail)
 (.ret (.bool true))
theorem z5y(v5:zA)(v6 v7:Int)(h:wp 224 (zv3 v5 v6 v7) m Q):jp 224 2 [v5,.int .i64 v6,.int .i64 v7] m Q:=kD ok224 h
def t225 (p0:Bool)(p1:zA):T:=
 .call 212 [p1] fun a0=>
 .opt (yC a0) fun a1=>.asI .i64 a1 fun n2=>.ite (mA n2 0)
 (.ite true (.ite true (.ret (.agg [.bool false,.nilslice])) .fail) .fail)
 (.opt (yC a0) fun a3=>.asI .i64 a3 fun n4=>.heavy (mN yA 27 (.int .i64 (vA .i64 (2*n4))) (.int .i64 (vA .i64 (2*n4)))) fun a5=>
 .opt (yC a0) fun a6=>.asI .i64 a6 fun n7=>.jump 2 [.bool p0,a5,a0,.int .i64 n7,.int .i64 0,.bool false,.nilslice])
theorem w225(p0:Bool)(p1:zA)(h:wp 225 (t225 p0 p1) m Q):Wf 225 [.bool p0,p1] m Q:=iB ok225 h
def zv2(v0:Bool)(v5 v18:zA)(v19 v20:Int)(A0:Bool)(A1:zA):T:=
 .ite (dB v20 v19)
 (.opt (jB yA 244 v18 (.int .i64 v20)) fun a0=>.light (fun m=>oA yA 246 ⟨0,m⟩ a0) fun a1=>.asI .u32 a1 fun n2=>.opt (jB yA 27 v5 (.int .i64 (vA .i64 (2*v20)))) fun a3=>.heavy (cC yA 202 a3 (.int .u16 (vA .u16 n2))) fun _=>
 .opt (jB yA 27 v5 (.int .i64 (vA .i64 ((vA .i64 (2*v20))+1)))) fun a4=>.heavy (cC yA 202 a4 (.int .u16 (vA .u16 (Int.fdiv n2 65536)))) fun _=>
 .jump 2 [.bool v0,v5,v18,.int .i64 v19,(.int .i64 (vA .i64 (v20+1))),.bool A0,A1])
 (.opt (yC v5) fun a5=>.asI .i64 a5 fun n6=>.opt (jB yA 27 v5 (.int .i64 (vA .i64 (n6-1)))) fun a7=>.light (fun m=>oA yA 202 ⟨0,m⟩ a7) fun a8=>.asI .u16 a8 fun n9=>.ite (mA n9 0)
 (.opt (yC v5) fun a10=>.asI .i64 a10 fun n11=>.light (fun m=>zG yA 27 ⟨0,m⟩ v5 none (some (.int .i64 (vA .i64 (n11-1))))) fun a12=>.ite (tC zA.one [.bool v0,a12]) (.ite (tC zA.one [.bool v0,a12]) (.ret (.agg [.bool v0,a12])) .fail) .fail)
 (.ite (tC zA.one [.bool v0,v5]) (.ite (tC zA.one [.bool v0,v5]) (.ret (.agg [.bool v0,v5])) .fail) .fail))
theorem z5x(v0:Bool)(v5 v18:zA)(v19 v20:Int)(A0:Bool)(A1:zA)(h:wp 225 (zv2 v0 v5 v18 v19 v20 A0 A1) m Q):jp 225 2 [.bool v0,v5,v18,.int .i64 v19,.int .i64 v20,.bool A0,A1] m Q:=kD ok225 h
def t226 (p0 p1:zA):T:=
 .call 236 [p0,p1] fun a0=>
 .asI .i64 a0 fun n1=>.ite (dB n1 0)
 (.jump 2 [p1,p0])
 (.jump 2 [p0,p1])
theorem w226(p0 p1:zA)(h:wp 226 (t226 p0 p1) m Q):Wf 226 [p0,p1] m Q:=iB z2k h
def z5a(v0 v1:zA):T:=
 .opt (yC v1) fun a0=>.asI .i64 a0 fun n1=>.ite (dB 2 n1)
 (.call 237 [v0,v1] fun a2=>
 .asG [.int .u64 0,.int .u64 0,.int .u64 0,.int .u64 0,.bool false] a2 fun X3=>
 .ite true (.ite (mA (X3.i 2) 0)
 (.call 238 [v0,v1] fun a4=>
 .opt (rB 0 a4) fun a5=>.opt (rB 1 a4) fun a6=>.jump 2 [v1,a6])
 (.ite (X3.b 4)
 (.call 239 [.int .u64 (X3.i 0),v0,.int .u64 (X3.i 2),v1] fun a7=>
 .ite (same 10 (.int .u64 (X3.i 3)) (.int .u64 (X3.i 3))) (.ite (same 10 (.int .u64 (X3.i 1)) (.int .u64 (X3.i 1))) (.call 239 [.int .u64 (X3.i 3),v1,.int .u64 (X3.i 1),v0] fun a8=>
 .jump 2 [a7,a8]) .fail) .fail)
 (.call 239 [.int .u64 (X3.i 2),v1,.int .u64 (X3.i 0),v0] fun a9=>
 .ite (same 10 (.int .u64 (X3.i 1)) (.int .u64 (X3.i 1))) (.ite (same 10 (.int .u64 (X3.i 3)) (.int .u64 (X3.i 3))) (.call 239 [.int .u64 (X3.i 1),v0,.int .u64 (X3.i 3),v1] fun a10=>
 .jump 2 [a9,a10]) .fail) .fail))) .fail)
 (.opt (yC v1) fun oF=>.asI .i64 oF fun n12=>.ite (mA n12 0)
 (.ret v0)
 (.opt (yC v0) fun a13=>.asI .i64 a13 fun n14=>.ite (dB 2 n14)
 (.call 238 [v0,v1] fun a15=>
 .opt (rB 0 a15) fun a16=>.opt (rB 1 a15) fun a17=>.jump 33 [v1,a17])
 (.jump 33 [v0,v1])))
theorem j226_2(v0 v1:zA)(h:wp 226 (z5a v0 v1) m Q):jp 226 2 [v0,v1] m Q:=kD z2k h
def zv1(v0 v1:zA):T:=
 .call 240 [v0] fun a0=>
 .asI .u64 a0 fun n1=>.call 240 [v1] fun a2=>
 .asI .u64 a2 fun n3=>.jump 6 [.int .u64 n1,.int .u64 n3]
theorem z8g(v0 v1:zA)(h:wp 226 (zv1 v0 v1) m Q):jp 226 33 [v0,v1] m Q:=kD z2k h
def z49(v10 v11:Int):T:=
 .ite (!mA v11 0)
 (.opt (z3d .u64 v10 v11) fun a0=>.asI .u64 a0 fun n1=>.jump 6 [.int .u64 v11,.int .u64 n1])
 (.call 241 [.int .u64 v10] fun a2=>
 .ret a2)
theorem j226_6(v10 v11:Int)(h:wp 226 (z49 v10 v11) m Q):jp 226 6 [.int .u64 v10,.int .u64 v11] m Q:=kD z2k h
def t231 (p0:Int):T:=
 .ite (mA (Int.tmod p0 4) 0)
 (.ite (!mA (Int.tmod p0 100) 0)
 (.ret (.bool true))
 (.ret (.bool (mA (Int.tmod p0 400) 0))))
 (.ret (.bool false))
theorem w231(p0:Int)(h:wp 231 (t231 p0) m Q):Wf 231 [.int .i64 p0] m Q:=iB ok231 h
def t236 (p0 p1:zA):T:=
 .opt (yC p0) fun a0=>.asI .i64 a0 fun n1=>.opt (yC p1) fun a2=>.asI .i64 a2 fun n3=>.ite (!mA n1 n3)
 (.opt (yC p0) fun a4=>.asI .i64 a4 fun n5=>.opt (yC p1) fun a6=>.asI .i64 a6 fun n7=>.ite (dB n5 n7)
 (.ret (.int .i64 (-1)))
 (.ret (.int .i64 1)))
 (.opt (yC p0) fun a8=>.asI .i64 a8 fun n9=>.jump 2 [p0,p1,(.int .i64 (vA .i64 (n9-1)))])
theorem w236(p0 p1:zA)(h:wp 236 (t236 p0 p1) m Q):Wf 236 [p0,p1] m Q:=iB ok236 h
def zv0(v0 v1:zA)(v5:Int):T:=
 .ite (jC 0 v5)
 (.opt (jB yA 244 v0 (.int .i64 v5)) fun a0=>.light (fun m=>oA yA 246 ⟨0,m⟩ a0) fun a1=>.asI .u32 a1 fun n2=>.opt (jB yA 244 v1 (.int .i64 v5)) fun a3=>.light (fun m=>oA yA 246 ⟨0,m⟩ a3) fun a4=>.asI .u32 a4 fun n5=>.ite (!mA n2 n5)
 (.opt (jB yA 244 v0 (.int .i64 v5)) fun a6=>.light (fun m=>oA yA 246 ⟨0,m⟩ a6) fun a7=>.asI .u32 a7 fun n8=>.opt (jB yA 244 v1 (.int .i64 v5)) fun a9=>.light (fun m=>oA yA 246 ⟨0,m⟩ a9) fun a10=>.asI .u32 a10 fun n11=>.ite (dB n8 n11)
 (.ret (.int .i64 (-1)))
 (.ret (.int .i64 1)))
 (.jump 2 [v0,v1,(.int .i64 (vA .i64 (v5-1)))]))
 (.ret (.int .i64 0))
theorem z5w(v0 v1:zA)(v5:Int)(h:wp 236 (zv0 v0 v1 v5) m Q):jp 236 2 [v0,v1,.int .i64 v5] m Q:=kD ok236 h
def t237 (p0 p1:zA):T:=
 .opt (yC p0) fun a0=>.asI .i64 a0 fun n1=>.opt (jB yA 244 p0 (.int .i64 (vA .i64 (n1-1)))) fun a2=>.light (fun m=>oA yA 246 ⟨0,m⟩ a2) fun a3=>.asI .u32 a3 fun n4=>.call 249 [.int .u32 n4] fun a5=>
 .asI .i64 a5 fun n6=>.call 250 [p0,.int .i64 n1,.int .i64 n6] fun a7=>
 .asI .u64 a7 fun n8=>.call 250 [p1,.int .i64 n1,.int .i64 n6] fun a9=>
 .asI .u64 a9 fun n10=>.ite true (.ite true (.jump 2 [.int .u64 n8,.int .u64 n10,.int .u64 0,.int .u64 1,.int .u64 0,.int .u64 0,.int .u64 0,.int .u64 0,.bool false,.int .u64 0,.int .u64 1,.int .u64 0,.int .u64 0,.bool false]) .fail) .fail
theorem w237(p0 p1:zA)(h:wp 237 (t237 p0 p1) m Q):Wf 237 [p0,p1] m Q:=iB ok237 h
def z48(v7 v8 v10 v11 A0 A1 A2 A3:Int)(A4:Bool)(A5 A6 A7 A8:Int)(A9:Bool):T:=
 .ite (jC v11 v8)
 (.ite (jC (vA .u64 (A8+v11)) (vA .u64 (v7-v8)))
 (.opt (z3e .u64 v7 v8) fun a0=>.asI .u64 a0 fun n1=>.opt (z3d .u64 v7 v8) fun a2=>.asI .u64 a2 fun n3=>.ite true (.ite true (.ite true (.ite true (.ite true (.jump 2 [.int .u64 v8,.int .u64 n3,(.int .u64 (vA .u64 (A6+(vA .u64 (n1*v10))))),(.int .u64 (vA .u64 (A8+(vA .u64 (n1*v11))))),.int .u64 A0,.int .u64 A1,.int .u64 A2,.int .u64 A3,.bool A4,.int .u64 A6,.int .u64 v10,.int .u64 A8,.int .u64 v11,(.bool (!A9))]) .fail) .fail) .fail) .fail) .fail)
 (.ite true (.ret (.agg [.int .u64 A5,.int .u64 A6,.int .u64 A7,.int .u64 A8,.bool A9])) .fail))
 (.ite true (.ret (.agg [.int .u64 A5,.int .u64 A6,.int .u64 A7,.int .u64 A8,.bool A9])) .fail)
theorem j237_2(v7 v8 v10 v11 A0 A1 A2 A3:Int)(A4:Bool)(A5 A6 A7 A8:Int)(A9:Bool)(h:wp 237 (z48 v7 v8 v10 v11 A0 A1 A2 A3 A4 A5 A6 A7 A8 A9) m Q):jp 237 2 [.int .u64 v7,.int .u64 v8,.int .u64 v10,.int .u64 v11,.int .u64 A0,.int .u64 A1,.int .u64 A2,.int .u64 A3,.bool A4,.int .u64 A5,.int .u64 A6,.int .u64 A7,.int .u64 A8,.bool A9] m Q:=kD ok237 h
def t238 (p0 p1:zA):T:=
 .call 236 [p0,p1] fun a0=>
 .asI .i64 a0 fun n1=>.ite (dB n1 0)
 (.call 251 [p0] fun a2=>
 .ret (.tup [.nilslice,a2]))
 (.opt (yC p1) fun a3=>.asI .i64 a3 fun n4=>.ite (mA n4 1)
 (.opt (jB yA 244 p1 (.int .i64 0)) fun a5=>.light (fun m=>oA yA 246 ⟨0,m⟩ a5) fun a6=>.asI .u32 a6 fun n7=>.call 191 [p0,.int .u32 n7] fun a8=>
 .opt (rB 0 a8) fun a9=>.opt (rB 1 a8) fun a10=>.asI .u32 a10 fun n11=>.heavy (dH yA 244 1 [(0,(.int .u32 n11))]) fun a12=>
 .call 212 [a12] fun a13=>
 .ret (.tup [a9,a13]))
 (.opt (yC p1) fun a14=>.asI .i64 a14 fun n15=>.opt (jB yA 244 p1 (.int .i64 (vA .i64 (n15-1)))) fun a16=>.light (fun m=>oA yA 246 ⟨0,m⟩ a16) fun a17=>.asI .u32 a17 fun n18=>.call 249 [.int .u32 n18] fun a19=>
 .asI .i64 a19 fun n20=>.call 252 [p1,.int .i64 n20] fun a21=>
 .light (fun m=>zG yA 244 ⟨0,m⟩ a21 none (some (.int .i64 n15))) fun a22=>.call 252 [p0,.int .i64 n20] fun a23=>
 .opt (yC p0) fun a24=>.asI .i64 a24 fun n25=>.heavy (mN yA 244 (.int .i64 (vA .i64 ((vA .i64 (n25-n15))+1))) (.int .i64 (vA .i64 ((vA .i64 (n25-n15))+1)))) fun a26=>
 .opt (yC a26) fun a27=>.asI .i64 a27 fun n28=>.jump 2 [.int .i64 n15,.int .i64 n20,a22,a23,a26,(.int .i64 (vA .i64 (n28-1)))]))
theorem w238(p0 p1:zA)(h:wp 238 (t238 p0 p1) m Q):Wf 238 [p0,p1] m Q:=iB z7o h
def zvz(v8 v9:Int)(v10 v11 v12:zA)(v13:Int):T:=
 .ite (jC 0 v13)
 (.light (fun m=>zG yA 244 ⟨0,m⟩ v11 (some (.int .i64 v13)) (some (.int .i64 (vA .i64 ((vA .i64 (v13+v8))+1))))) fun a0=>.call 253 [a0,v10] fun a1=>
 .asI .u32 a1 fun n2=>.opt (jB yA 244 v12 (.int .i64 v13)) fun a3=>.heavy (cC yA 246 a3 (.int .u32 n2)) fun _=>
 .jump 2 [.int .i64 v8,.int .i64 v9,v10,v11,v12,(.int .i64 (vA .i64 (v13-1)))])
 (.jump 6 [.int .i64 v8,.int .i64 v9,v11,v12,.int .i64 v8,.int .i64 0])
theorem z5v(v8 v9:Int)(v10 v11 v12:zA)(v13:Int)(h:wp 238 (zvz v8 v9 v10 v11 v12 v13) m Q):jp 238 2 [.int .i64 v8,.int .i64 v9,v10,v11,v12,.int .i64 v13] m Q:=kD z7o h
def zvy(v8 v9:Int)(v11 v12:zA)(v77 v78:Int):T:=
 .ite (dB v78 v77)
 (.opt (jB yA 244 v11 (.int .i64 (vA .i64 (v78+1)))) fun a0=>.light (fun m=>oA yA 246 ⟨0,m⟩ a0) fun a1=>.asI .u32 a1 fun n2=>.opt (jB yA 244 v11 (.int .i64 v78)) fun a3=>.light (fun m=>oA yA 246 ⟨0,m⟩ a3) fun a4=>.asI .u32 a4 fun n5=>.opt (sH Nat.lor .u64 (vA .u64 ((vA .u64 n2)*4294967296)) (vA .u64 n5)) fun a6=>.asI .u64 a6 fun n7=>.opt (z8m .u64 n7 v9) fun a8=>.asI .u64 a8 fun n9=>.opt (jB yA 244 v11 (.int .i64 v78)) fun a10=>.heavy (cC yA 246 a10 (.int .u32 (vA .u32 n9))) fun _=>
 .jump 6 [.int .i64 v8,.int .i64 v9,v11,v12,.int .i64 v77,(.int .i64 (vA .i64 (v78+1)))])
 (.light (fun m=>zG yA 244 ⟨0,m⟩ v11 none (some (.int .i64 v8))) fun oF=>.call 212 [v12] fun a12=>
 .light (fun m=>zG yA 244 ⟨0,m⟩ v11 none (some (.int .i64 v8))) fun a13=>.ite (same 10 a13 oF) (.call 212 [oF] fun a14=>
 .ret (.tup [a12,a14])) .fail)
theorem z5u(v8 v9:Int)(v11 v12:zA)(v77 v78:Int)(h:wp 238 (zvy v8 v9 v11 v12 v77 v78) m Q):jp 238 6 [.int .i64 v8,.int .i64 v9,v11,v12,.int .i64 v77,.int .i64 v78] m Q:=kD z7o h
def t239 (p0:Int)(p1:zA)(p2:Int)(p3:zA):T:=
 .opt (yC p1) fun a0=>.asI .i64 a0 fun n1=>.opt (yC p3) fun a2=>.asI .i64 a2 fun n3=>.heavy (mN yA 244 (.int .i64 (vA .i64 ((bif dB n1 n3 then n3 else n1)+1))) (.int .i64 (vA .i64 ((bif dB n1 n3 then n3 else n1)+1)))) fun a4=>
 .opt (yC a4) fun a5=>.asI .i64 a5 fun n6=>.jump 2 [.int .u64 p0,p1,.int .u64 p2,p3,a4,.int .u64 0,.int .u64 0,.int .u32 0,.int .i64 n6,.int .i64 0]
theorem w239(p0:Int)(p1:zA)(p2:Int)(p3:zA)(h:wp 239 (t239 p0 p1 p2 p3) m Q):Wf 239 [.int .u64 p0,p1,.int .u64 p2,p3] m Q:=iB z2j h
def zvw(v0:Int)(v1:zA)(v2:Int)(v3 v9:zA)(v10 v11 v12 v22 v23:Int):T:=
 .ite (dB v23 v22)
 (.opt (yC v1) fun a0=>.asI .i64 a0 fun n1=>.ite (dB v23 n1)
 (.opt (jB yA 244 v1 (.int .i64 v23)) fun a2=>.light (fun m=>oA yA 246 ⟨0,m⟩ a2) fun a3=>.asI .u32 a3 fun n4=>.jump 17 [.int .u64 v0,v1,.int .u64 v2,v3,v9,(.int .u64 (vA .u64 (v10+(vA .u64 (v0*(vA .u64 n4)))))),.int .u64 v11,.int .u32 v12,.int .i64 v23,.int .i64 v22,.int .i64 v23])
 (.jump 17 [.int .u64 v0,v1,.int .u64 v2,v3,v9,.int .u64 v10,.int .u64 v11,.int .u32 v12,.int .i64 v23,.int .i64 v22,.int .i64 v23]))
 (.call 212 [v9] fun a5=>
 .ret a5)
theorem z5t(v0:Int)(v1:zA)(v2:Int)(v3 v9:zA)(v10 v11 v12 v22 v23:Int)(h:wp 239 (zvw v0 v1 v2 v3 v9 v10 v11 v12 v22 v23) m Q):jp 239 2 [.int .u64 v0,v1,.int .u64 v2,v3,v9,.int .u64 v10,.int .u64 v11,.int .u32 v12,.int .i64 v22,.int .i64 v23] m Q:=kD z2j h
def zvx(v0:Int)(v1:zA)(v2:Int)(v3 v9:zA)(v10 v11 v12 v13 v22 v23:Int):T:=
 .opt (yC v3) fun a0=>.asI .i64 a0 fun n1=>.ite (dB v13 n1)
 (.opt (jB yA 244 v3 (.int .i64 v13)) fun a2=>.light (fun m=>oA yA 246 ⟨0,m⟩ a2) fun a3=>.asI .u32 a3 fun n4=>.jump 21 [.int .u64 v0,v1,.int .u64 v2,v3,v9,.int .u64 v10,(.int .u64 (vA .u64 (v11+(vA .u64 (v2*(vA .u64 n4)))))),.int .u32 v12,.int .i64 v13,.int .i64 v22,.int .i64 v23])
 (.jump 21 [.int .u64 v0,v1,.int .u64 v2,v3,v9,.int .u64 v10,.int .u64 v11,.int .u32 v12,.int .i64 v13,.int .i64 v22,.int .i64 v23])
theorem z8f(v0:Int)(v1:zA)(v2:Int)(v3 v9:zA)(v10 v11 v12 v13 v22 v23:Int)(h:wp 239 (zvx v0 v1 v2 v3 v9 v10 v11 v12 v13 v22 v23) m Q):jp 239 17 [.int .u64 v0,v1,.int .u64 v2,v3,v9,.int .u64 v10,.int .u64 v11,.int .u32 v12,.int .i64 v13,.int .i64 v22,.int .i64 v23] m Q:=kD z2j h
def zvv(v0:Int)(v1:zA)(v2:Int)(v3 v9:zA)(v10 v11 v12 v13 v22 v23:Int):T:=
 .call 254 [(.int .u32 (vA .u32 v10)),(.int .u32 (vA .u32 v11)),.int .u32 v12] fun a0=>
 .opt (rB 0 a0) fun a1=>.asI .u32 a1 fun n2=>.opt (rB 1 a0) fun a3=>.asI .u32 a3 fun n4=>.opt (jB yA 244 v9 (.int .i64 v13)) fun a5=>.heavy (cC yA 246 a5 (.int .u32 n2)) fun _=>
 .jump 2 [.int .u64 v0,v1,.int .u64 v2,v3,v9,(.int .u64 (Int.fdiv v10 4294967296)),(.int .u64 (Int.fdiv v11 4294967296)),.int .u32 n4,.int .i64 v22,(.int .i64 (vA .i64 (v23+1)))]
theorem z8e(v0:Int)(v1:zA)(v2:Int)(v3 v9:zA)(v10 v11 v12 v13 v22 v23:Int)(h:wp 239 (zvv v0 v1 v2 v3 v9 v10 v11 v12 v13 v22 v23) m Q):jp 239 21 [.int .u64 v0,v1,.int .u64 v2,v3,v9,.int .u64 v10,.int .u64 v11,.int .u32 v12,.int .i64 v13,.int .i64 v22,.int .i64 v23] m Q:=kD z2j h
def t240 (p0:zA):T:=
 .heavy (fG yA 225) fun a0=>
 .heavy (cC yA 225 a0 (.int .u64 0)) fun _=>
 .call 192 [p0] fun a1=>
 .range (npC yA) a1 2 1 [a0]
 (.light (fun m=>oA yA 225 ⟨0,m⟩ a0) fun a2=>.asI .u64 a2 fun n3=>.ret (.int .u64 n3))
 (.ret (.int .u64 0))
theorem w240(p0:zA)(h:wp 240 (t240 p0) m Q):Wf 240 [p0] m Q:=iB ok240 h
def z47(v3:zA)(v7:Int):T:=
 .light (fun m=>oA yA 225 ⟨0,m⟩ v3) fun a0=>.asI .u64 a0 fun n1=>.opt (sH Nat.lor .u64 (vA .u64 (n1*4294967296)) (vA .u64 v7)) fun a2=>.asI .u64 a2 fun n3=>.heavy (cC yA 225 v3 (.int .u64 n3)) fun _=>
 .ret (.bool true)
theorem j240_2(v3:zA)(v7:Int)(h:wp 240 (z47 v3 v7) m Q):jp 240 2 [v3,.int .u32 v7] m Q:=kD ok240 h
def t241 (p0:Int):T:=
 .heavy (dH yA 244 2 [(0,(.int .u32 (vA .u32 p0))),(1,(.int .u32 (vA .u32 (Int.fdiv p0 4294967296))))]) fun a0=>
 .call 212 [a0] fun a1=>
 .ret a1
theorem w241(p0:Int)(h:wp 241 (t241 p0) m Q):Wf 241 [.int .u64 p0] m Q:=iB ok241 h
def t249 (p0:Int):T:=
 .call 258 [.int .u32 p0] fun a0=>
 .asI .i64 a0 fun n1=>.ret (.int .i64 (vA .i64 (32-n1)))
theorem w249(p0:Int)(h:wp 249 (t249 p0) m Q):Wf 249 [.int .u32 p0] m Q:=iB ok249 h
def t250 (p0:zA)(p1 p2:Int):T:=
 .heavy (zmo p0) fun a0=>
 .callv (.func (.func 259) [] [a0]) [(.int .i64 (vA .i64 (p1-1)))] fun a1=>
 .asI .u64 a1 fun n2=>.callv (.func (.func 259) [] [a0]) [(.int .i64 (vA .i64 (p1-2)))] fun a3=>
 .asI .u64 a3 fun n4=>.opt (sH Nat.lor .u64 (vA .u64 (n2*4294967296)) n4) fun a5=>.asI .u64 a5 fun n6=>.opt (zyw .u64 n6 p2) fun a7=>.asI .u64 a7 fun n8=>.callv (.func (.func 259) [] [a0]) [(.int .i64 (vA .i64 (p1-3)))] fun a9=>
 .asI .u64 a9 fun n10=>.opt (z8m .u64 n10 (vA .i64 (32-p2))) fun oF=>.asI .u64 oF fun n12=>.opt (sH Nat.lor .u64 n8 n12) fun a13=>.asI .u64 a13 fun n14=>.ret (.int .u64 n14)
theorem e250(p0:zA)(p1 p2:Int):entT yA Tryz.f250 8 250 a250 [p0,.int .i64 p1,.int .i64 p2]=t250 p0 p1 p2:=by kernel_rfl
theorem w250(p0:zA)(p1 p2:Int)(h:wp 250 (t250 p0 p1 p2) m Q):Wf 250 [p0,.int .i64 p1,.int .i64 p2] m Q:=z9l ok250 (by kernel_rfl) (by rw[e250];exact h)
def t251 (p0:zA):T:=
 .opt ((binA .eql).f yA 244 (.tmp 3) (.const (.slice none 0 0)) p0 .nilslice) fun a0=>.asB a0 fun b1=>.ite b1
 (.ret .nilslice)
 (.heavy (dH yA 244 0 []) fun a2=>
 .heavy (gH yA 244 244 a2 p0) fun a3=>
 .ret a3)
theorem w251(p0:zA)(h:wp 251 (t251 p0) m Q):Wf 251 [p0] m Q:=iB ok251 h
def t252 (p0:zA)(p1:Int):T:=
 .opt (yC p0) fun a0=>.asI .i64 a0 fun n1=>.heavy (mN yA 244 (.int .i64 (vA .i64 (n1+1))) (.int .i64 (vA .i64 (n1+1)))) fun a2=>
 .opt (yC p0) fun a3=>.asI .i64 a3 fun n4=>.jump 2 [.int .i64 p1,a2,p0,.int .i64 n4,.int .i64 0]
theorem w252(p0:zA)(p1:Int)(h:wp 252 (t252 p0 p1) m Q):Wf 252 [p0,.int .i64 p1] m Q:=iB ok252 h
def zvu(v1:Int)(v5 v13:zA)(v14 v15:Int):T:=
 .ite (dB v15 v14)
 (.opt (jB yA 244 v13 (.int .i64 v15)) fun a0=>.light (fun m=>oA yA 246 ⟨0,m⟩ a0) fun a1=>.asI .u32 a1 fun n2=>.opt (zyw .u64 (vA .u64 n2) v1) fun a3=>.asI .u64 a3 fun n4=>.opt (jB yA 244 v5 (.int .i64 v15)) fun a5=>.light (fun m=>oA yA 246 ⟨0,m⟩ a5) fun a6=>.asI .u32 a6 fun n7=>.opt (sH Nat.lor .u32 n7 (vA .u32 n4)) fun a8=>.asI .u32 a8 fun n9=>.opt (jB yA 244 v5 (.int .i64 v15)) fun a10=>.heavy (cC yA 246 a10 (.int .u32 n9)) fun _=>
 .opt (jB yA 244 v5 (.int .i64 (vA .i64 (v15+1)))) fun oF=>.heavy (cC yA 246 oF (.int .u32 (vA .u32 (Int.fdiv n4 4294967296)))) fun _=>
 .jump 2 [.int .i64 v1,v5,v13,.int .i64 v14,(.int .i64 (vA .i64 (v15+1)))])
 (.ret v5)
theorem z5s(v1:Int)(v5 v13:zA)(v14 v15:Int)(h:wp 252 (zvu v1 v5 v13 v14 v15) m Q):jp 252 2 [.int .i64 v1,v5,v13,.int .i64 v14,.int .i64 v15] m Q:=kD ok252 h
def t253 (p0 p1:zA):T:=
 .opt (yC p1) fun a0=>.asI .i64 a0 fun n1=>.opt (jB yA 244 p0 (.int .i64 n1)) fun a2=>.light (fun m=>oA yA 246 ⟨0,m⟩ a2) fun a3=>.asI .u32 a3 fun n4=>.opt (jB yA 244 p0 (.int .i64 (vA .i64 (n1-1)))) fun a5=>.light (fun m=>oA yA 246 ⟨0,m⟩ a5) fun a6=>.asI .u32 a6 fun n7=>.opt (sH Nat.lor .u64 (vA .u64 ((vA .u64 n4)*4294967296)) (vA .u64 n7)) fun a8=>.asI .u64 a8 fun n9=>.opt (jB yA 244 p1 (.int .i64 (vA .i64 (n1-1)))) fun a10=>.light (fun m=>oA yA 246 ⟨0,m⟩ a10) fun oF=>.asI .u32 oF fun n12=>.opt (z3e .u64 n9 (vA .u64 n12)) fun a13=>.asI .u64 a13 fun n14=>.opt (z3d .u64 n9 (vA .u64 n12)) fun a15=>.asI .u64 a15 fun n16=>.jump 2 [p0,p1,.int .i64 n1,(.int .u64 (vA .u64 n12)),.int .u64 n14,.int .u64 n16]
theorem w253(p0 p1:zA)(h:wp 253 (t253 p0 p1) m Q):Wf 253 [p0,p1] m Q:=iB zxg h
def zvs(v0 v1:zA)(v5 v7 v8 v9:Int):T:=
 .ite (jC 4294967296 v8)
 (.ite (jC 4294967296 (vA .u64 (v9+v7)))
 (.jump 19 [v0,v1,.int .i64 v5,(.int .u64 (vA .u64 (v8-1)))])
 (.jump 2 [v0,v1,.int .i64 v5,.int .u64 v7,(.int .u64 (vA .u64 (v8-1))),(.int .u64 (vA .u64 (v9+v7)))]))
 (.opt (jB yA 244 v1 (.int .i64 (vA .i64 (v5-2)))) fun a0=>.light (fun m=>oA yA 246 ⟨0,m⟩ a0) fun a1=>.asI .u32 a1 fun n2=>.opt (jB yA 244 v0 (.int .i64 (vA .i64 (v5-2)))) fun a3=>.light (fun m=>oA yA 246 ⟨0,m⟩ a3) fun a4=>.asI .u32 a4 fun n5=>.opt (sH Nat.lor .u64 (vA .u64 (v9*4294967296)) (vA .u64 n5)) fun a6=>.asI .u64 a6 fun n7=>.ite (dB n7 (vA .u64 (v8*(vA .u64 n2))))
 (.ite (jC 4294967296 (vA .u64 (v9+v7)))
 (.jump 19 [v0,v1,.int .i64 v5,(.int .u64 (vA .u64 (v8-1)))])
 (.jump 2 [v0,v1,.int .i64 v5,.int .u64 v7,(.int .u64 (vA .u64 (v8-1))),(.int .u64 (vA .u64 (v9+v7)))]))
 (.jump 19 [v0,v1,.int .i64 v5,.int .u64 v8]))
theorem z5r(v0 v1:zA)(v5 v7 v8 v9:Int)(h:wp 253 (zvs v0 v1 v5 v7 v8 v9) m Q):jp 253 2 [v0,v1,.int .i64 v5,.int .u64 v7,.int .u64 v8,.int .u64 v9] m Q:=kD zxg h
def zvt(v0 v1:zA)(v5 v8:Int):T:=
 .opt (yC v1) fun a0=>.asI .i64 a0 fun n1=>.jump 6 [v0,v1,.int .i64 v5,.int .u64 v8,.int .u64 0,.int .u64 0,v1,.int .i64 n1,.int .i64 0]
theorem z8d(v0 v1:zA)(v5 v8:Int)(h:wp 253 (zvt v0 v1 v5 v8) m Q):jp 253 19 [v0,v1,.int .i64 v5,.int .u64 v8] m Q:=kD zxg h
def zvr(v0 v1:zA)(v5 v8 v10 v11:Int)(v76:zA)(v77 v78:Int):T:=
 .ite (dB v78 v77)
 (.opt (jB yA 244 v76 (.int .i64 v78)) fun a0=>.light (fun m=>oA yA 246 ⟨0,m⟩ a0) fun a1=>.asI .u32 a1 fun n2=>.opt (jB yA 244 v0 (.int .i64 v78)) fun a3=>.light (fun m=>oA yA 246 ⟨0,m⟩ a3) fun a4=>.asI .u32 a4 fun n5=>.opt (jB yA 244 v0 (.int .i64 v78)) fun a6=>.heavy (cC yA 246 a6 (.int .u32 (vA .u32 (vA .u64 ((vA .u64 ((vA .u64 n5)-(vA .u64 (vA .u32 (vA .u64 ((vA .u64 (v8*(vA .u64 n2)))+v10))))))-v11))))) fun _=>
 .jump 6 [v0,v1,.int .i64 v5,.int .u64 v8,(.int .u64 (Int.fdiv (vA .u64 ((vA .u64 (v8*(vA .u64 n2)))+v10)) 4294967296)),(.int .u64 (Int.fdiv (vA .u64 ((vA .u64 ((vA .u64 n5)-(vA .u64 (vA .u32 (vA .u64 ((vA .u64 (v8*(vA .u64 n2)))+v10))))))-v11)) 9223372036854775808)),v76,.int .i64 v77,(.int .i64 (vA .i64 (v78+1)))])
 (.opt (jB yA 244 v0 (.int .i64 v5)) fun a7=>.light (fun m=>oA yA 246 ⟨0,m⟩ a7) fun a8=>.asI .u32 a8 fun n9=>.opt (jB yA 244 v0 (.int .i64 v5)) fun a10=>.heavy (cC yA 246 a10 (.int .u32 (vA .u32 (vA .u64 ((vA .u64 ((vA .u64 n9)-v10))-v11))))) fun _=>
 .ite (mA (Int.fdiv (vA .u64 ((vA .u64 ((vA .u64 n9)-v10))-v11)) 9223372036854775808) 0)
 (.ret (.int .u32 (vA .u32 v8)))
 (.opt (yC v1) fun oF=>.asI .i64 oF fun n12=>.jump 10 [v0,.int .i64 v5,.int .u64 v8,.int .u32 0,v1,.int .i64 n12,.int .i64 0]))
theorem z5q(v0 v1:zA)(v5 v8 v10 v11:Int)(v76:zA)(v77 v78:Int)(h:wp 253 (zvr v0 v1 v5 v8 v10 v11 v76 v77 v78) m Q):jp 253 6 [v0,v1,.int .i64 v5,.int .u64 v8,.int .u64 v10,.int .u64 v11,v76,.int .i64 v77,.int .i64 v78] m Q:=kD zxg h
def zmu(v0:zA)(v5 v8 v17:Int)(v129:zA)(v130 v131:Int):T:=
 .ite (dB v131 v130)
 (.opt (jB yA 244 v129 (.int .i64 v131)) fun a0=>.light (fun m=>oA yA 246 ⟨0,m⟩ a0) fun a1=>.asI .u32 a1 fun n2=>.opt (jB yA 244 v0 (.int .i64 v131)) fun a3=>.light (fun m=>oA yA 246 ⟨0,m⟩ a3) fun a4=>.asI .u32 a4 fun n5=>.call 260 [.int .u32 n5,.int .u32 n2,.int .u32 v17] fun a6=>
 .opt (rB 0 a6) fun a7=>.asI .u32 a7 fun n8=>.opt (rB 1 a6) fun a9=>.asI .u32 a9 fun n10=>.opt (jB yA 244 v0 (.int .i64 v131)) fun oF=>.heavy (cC yA 246 oF (.int .u32 n8)) fun _=>
 .jump 10 [v0,.int .i64 v5,.int .u64 v8,.int .u32 n10,v129,.int .i64 v130,(.int .i64 (vA .i64 (v131+1)))])
 (.opt (jB yA 244 v0 (.int .i64 v5)) fun a12=>.light (fun m=>oA yA 246 ⟨0,m⟩ a12) fun a13=>.asI .u32 a13 fun n14=>.opt (jB yA 244 v0 (.int .i64 v5)) fun a15=>.heavy (cC yA 246 a15 (.int .u32 (vA .u32 (n14+v17)))) fun _=>
 .ret (.int .u32 (vA .u32 (vA .u64 (v8-1)))))
theorem zym(v0:zA)(v5 v8 v17:Int)(v129:zA)(v130 v131:Int)(h:wp 253 (zmu v0 v5 v8 v17 v129 v130 v131) m Q):jp 253 10 [v0,.int .i64 v5,.int .u64 v8,.int .u32 v17,v129,.int .i64 v130,.int .i64 v131] m Q:=kD zxg h
def t254 (p0 p1 p2:Int):T:=
 .opt (zmr (.int .u32 p0)) fun a0=>.asI .u32 a0 fun n1=>.opt (iAnd .u32 n1 p1) fun a2=>.asI .u32 a2 fun n3=>.opt (sH Nat.xor .u32 p0 p1) fun a4=>.asI .u32 a4 fun n5=>.opt (zmr (.int .u32 n5)) fun a6=>.asI .u32 a6 fun n7=>.opt (iAnd .u32 n7 (vA .u32 ((vA .u32 (p0-p1))-p2))) fun a8=>.asI .u32 a8 fun n9=>.opt (sH Nat.lor .u32 n3 n9) fun a10=>.asI .u32 a10 fun n11=>.ret (.tup [(.int .u32 (vA .u32 ((vA .u32 (p0-p1))-p2))),(.int .u32 (Int.fdiv n11 2147483648))])
theorem w254(p0 p1 p2:Int)(h:wp 254 (t254 p0 p1 p2) m Q):Wf 254 [.int .u32 p0,.int .u32 p1,.int .u32 p2] m Q:=iB ok254 h
def t258 (p0:Int):T:=
 .ite (jC 65536 p0)
 (.jump 9 [(.int .u32 (Int.fdiv p0 65536)),.int .i64 16])
 (.jump 9 [.int .u32 p0,.int .i64 0])
theorem w258(p0:Int)(h:wp 258 (t258 p0) m Q):Wf 258 [.int .u32 p0] m Q:=iB z7n h
def zvp(v0 v2:Int):T:=
 .ite (jC 256 v0)
 (.jump 15 [(.int .u32 (Int.fdiv v0 256)),(.int .i64 (vA .i64 (v2+8)))])
 (.jump 15 [.int .u32 v0,.int .i64 v2])
theorem z5p(v0 v2:Int)(h:wp 258 (zvp v0 v2) m Q):jp 258 9 [.int .u32 v0,.int .i64 v2] m Q:=kD z7n h
def zvq(v0 v2:Int):T:=
 .opt (cI yA 9 (.str [0,1,2,2,3,3,3,3,4,4,4,4,4,4,4,4,5,5,5,5,5,5,5,5,5,5,5,5,5,5,5,5,6,6,6,6,6,6,6,6,6,6,6,6,6,6,6,6,6,6,6,6,6,6,6,6,6,6,6,6,6,6,6,6,7,7,7,7,7,7,7,7,7,7,7,7,7,7,7,7,7,7,7,7,7,7,7,7,7,7,7,7,7,7,7,7,7,7,7,7,7,7,7,7,7,7,7,7,7,7,7,7,7,7,7,7,7,7,7,7,7,7,7,7,7,7,7,7,8,8,8,8,8,8,8,8,8,8,8,8,8,8,8,8,8,8,8,8,8,8,8,8,8,8,8,8,8,8,8,8,8,8,8,8,8,8,8,8,8,8,8,8,8,8,8,8,8,8,8,8,8,8,8,8,8,8,8,8,8,8,8,8,8,8,8,8,8,8,8,8,8,8,8,8,8,8,8,8,8,8,8,8,8,8,8,8,8,8,8,8,8,8,8,8,8,8,8,8,8,8,8,8,8,8,8,8,8,8,8,8,8,8,8,8,8,8,8,8,8,8,8,8,8,8,8,8]) (.int .u8 (vA .u8 v0))) fun a0=>.asI .u8 a0 fun n1=>.ret (.int .i64 (vA .i64 (v2+(vA .i64 n1))))
theorem z8c(v0 v2:Int)(h:wp 258 (zvq v0 v2) m Q):jp 258 15 [.int .u32 v0,.int .i64 v2] m Q:=kD z7n h
def t259 (p0:Int)(w0:zA):T:=
 .light (fun m=>oA yA 244 ⟨0,m⟩ w0) fun a0=>.opt (yC a0) fun a1=>.asI .i64 a1 fun n2=>.ite (jC n2 p0)
 (.ret (.int .u64 0))
 (.light (fun m=>oA yA 244 ⟨0,m⟩ w0) fun a3=>.opt (jB yA 244 a3 (.int .i64 p0)) fun a4=>.light (fun m=>oA yA 246 ⟨0,m⟩ a4) fun a5=>.asI .u32 a5 fun n6=>.ret (.int .u64 (vA .u64 n6)))
theorem w259(p0:Int)(w0:zA)(h:wp 259 (t259 p0 w0) m Q):Wf 259 [.int .i64 p0,w0] m Q:=iB ok259 h
def t260 (p0 p1 p2:Int):T:=
 .ret (.tup [(.int .u32 (vA .u32 (vA .u64 ((vA .u64 ((vA .u64 p0)+(vA .u64 p1)))+(vA .u64 p2))))),(.int .u32 (vA .u32 (Int.fdiv (vA .u64 ((vA .u64 ((vA .u64 p0)+(vA .u64 p1)))+(vA .u64 p2))) 4294967296)))])
theorem e260(p0 p1 p2:Int):entT yA Tryz.f260 9 260 a260 [.int .u32 p0,.int .u32 p1,.int .u32 p2]=t260 p0 p1 p2:=by kernel_rfl
theorem w260(p0 p1 p2:Int)(h:wp 260 (t260 p0 p1 p2) m Q):Wf 260 [.int .u32 p0,.int .u32 p1,.int .u32 p2] m Q:=z9l ok260 (by kernel_rfl) (by rw[e260];exact h)
end Go.Proofs
