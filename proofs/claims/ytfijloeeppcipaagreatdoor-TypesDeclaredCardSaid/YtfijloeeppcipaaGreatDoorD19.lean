/- The trees of functions. (Printed by a tool; the kernel agrees.) -/
import Derived.Test.YtfijloeeppcipaaGreatDoorD18
set_option linter.all false
noncomputable section
set_option maxRecDepth 100000
namespace Go.Proofs
open Go Go.Am
variable [fC]{m:Tr rA}{Q:uC}
abbrev uI:List zA:=[.int .u8 0,.str [],.bool false,.int .i64 0,.int .i64 0,.int .i64 0,.int .i64 0,.int .i64 0]
abbrev zm6:List zA:=[.str [],.bool false,.nilslice]
abbrev zm5:List zA:=[.str [],.nilslice,.nilslice,.nilslice]
abbrev zvs:List zA:=[.str [],.int .u8 0,.bool false]
abbrev z19:List zA:=[.int .u8 0,.str [],.int .u8 0,.bool false,.nilslice,.bool false,.nilslice,.int .i64 0,.nilslice]
abbrev z71:List zA:=[.int .u8 0,.int .u8 0,.int .u8 0,.int .u8 0,.int .u8 0,.int .u8 0,.int .u8 0,.int .u8 0,.int .u8 0,.int .u8 0]
abbrev zz6z:List zA:=[.bool false,.nilslice]
abbrev zz7z:List zA:=[.str [],.str [],.int .i64 0,.int .i64 0,.int .i64 0,.bool false,.int .u8 0,.str [],.int .u8 0,.bool false,.nilslice,.bool false,.nilslice,.int .i64 0,.nilslice,.int .u8 0,.str [],.int .u8 0,.bool false,.nilslice,.bool false,.nilslice,.int .i64 0,.nilslice]
abbrev zz8z:List zA:=[.int .i64 0,.int .i64 0,.int .i64 0,.bool false,.nilslice,.bool false,.nilslice]
def dB{f kf:Nat}{fn:Func}{A:uB}{x:List zA}{T:T}(h:pB yA F f fn kf A)(k:qA yA.base (Wq yA F uJ) (Jq yA F f) T m Q)(h1:(Nat.ble (yB x) kf&&Nat.ble (yB x) fn.ntmps)=true:=by kernel_rfl)(h2:entT yA fn kf f A x=T:=by kernel_rfl):Wc yA F f x m Q:=zza4 h h1 (by rw[h2];exact k)
def vD{f kf i:Nat}{fn:Func}{A:uB}{x:List zA}{T:T}(h:pB yA F f fn kf A)(k:qA yA.base (Wq yA F uJ) (Jq yA F f) T m Q)(h2:ztz (ptsT yA fn kf f A) i x=[T]:=by kernel_rfl):Jq yA F f i x m Q:=Jq_of1 h h2 k
def eqT{b:Nat}{W J:vI}{x y:T}{m:Tr rA}{Q:uC}(e:x=y)(h:qA b W J y m Q):qA b W J x m Q:=e ▸ h
def t8 (A0:List Nat)(A1 A2 A3:zA):T:=
 .call 9 [] fun a0=>
 .asB a0 fun b1=>.ite (!b1)
 (.ret (.bool false))
 (.call 15 [.agg [.str A0,A1,A2,A3],.int .i64 2000] fun a2=>
 .asI .i64 a2 fun n3=>.ite (iB 2000 n3)
 (.ret (.bool true))
 (.call 16 [.agg [.str A0,A1,A2,A3]] fun a4=>
 .opt (rB 0 a4) fun a5=>.asI .i64 a5 fun n6=>.opt (rB 1 a4) fun a7=>.asI .i64 a7 fun n8=>.ite (!iA n8 0)
 (.ret (.bool true))
 (.jump 2 [.int .i64 0,.str A0,A1,A2,A3])))
def w8(A0:List Nat)(A1 A2 A3:zA)(h:wp 8 (t8 A0 A1 A2 A3) m Q):Wf 8 [.agg [.str A0,A1,A2,A3]] m Q:=dB ok8 h
def t8_2 (v5:Int)(A0:List Nat)(A1 A2 A3:zA):T:=
 .opt (bB A1) fun a0=>.asI .i64 a0 fun n1=>.ite (iB v5 n1)
 (.jump 6 [.int .i64 v5,.int .i64 0,.str A0,A1,A2,A3])
 (.jump 10 [.int .i64 0,.str A0,A1,A2,A3])
def j8_2(v5:Int)(A0:List Nat)(A1 A2 A3:zA)(h:wp 8 (t8_2 v5 A0 A1 A2 A3) m Q):jp 8 2 [.int .i64 v5,.str A0,A1,A2,A3] m Q:=vD ok8 h
def t8_6 (v5 v6:Int)(A0:List Nat)(A1 A2 A3:zA):T:=
 .ite (iB v6 v5)
 (.opt (mB yA 22 A1 (.int .i64 v5)) fun a0=>.opt (tB yA 59 0 a0) fun a1=>.light (fun m=>oA yA 9 ⟨0,m⟩ a1) fun a2=>.asS a2 fun s3=>.opt (mB yA 22 A1 (.int .i64 v6)) fun a4=>.opt (tB yA 59 0 a4) fun a5=>.light (fun m=>oA yA 9 ⟨0,m⟩ a5) fun a6=>.asS a6 fun s7=>.ite (xF s3 s7)
 (.ret (.bool false))
 (.jump 6 [.int .i64 v5,(.int .i64 (wA .i64 (v6+1))),.str A0,A1,A2,A3]))
 (.jump 2 [(.int .i64 (wA .i64 (v5+1))),.str A0,A1,A2,A3])
def j8_6(v5 v6:Int)(A0:List Nat)(A1 A2 A3:zA)(h:wp 8 (t8_6 v5 v6 A0 A1 A2 A3) m Q):jp 8 6 [.int .i64 v5,.int .i64 v6,.str A0,A1,A2,A3] m Q:=vD ok8 h
def z8k(v7:Int)(A0:List Nat)(A1 A2 A3:zA):T:=
 .opt (bB A3) fun a0=>.asI .i64 a0 fun n1=>.ite (iB v7 n1)
 (.opt (mB yA 24 A3 (.int .i64 v7)) fun a2=>.light (fun m=>oA yA 56 ⟨0,m⟩ a2) fun a3=>.asG zz7z a3 fun X4=>
 .ite (tC zA.one [.str (X4.s 0),.str (X4.s 1),.int .i64 (X4.i 2),.int .i64 (X4.i 3),.int .i64 (X4.i 4),.bool (X4.b 5),.int .u8 (X4.i 6),.str (X4.s 7),.int .u8 (X4.i 8),.bool (X4.b 9),X4.v 10,.bool (X4.b 11),X4.v 12,.int .i64 (X4.i 13),X4.v 14,.int .u8 (X4.i 15),.str (X4.s 16),.int .u8 (X4.i 17),.bool (X4.b 18),X4.v 19,.bool (X4.b 20),X4.v 21,.int .i64 (X4.i 22),X4.v 23]) (.call 19 [.agg [.str A0,A1,A2,A3],.str (X4.s 0)] fun a5=>
 .opt (rB 0 a5) fun a6=>.asG zvs a6 fun X7=>
 .opt (rB 1 a5) fun a8=>.asB a8 fun b9=>.ite true (.ite (!b9)
 (.ret (.bool false))
 (.ite (X7.b 2)
 (.ret (.bool false))
 (.ite (nC (X4.i 3) (X4.i 2))
 (.ret (.bool false))
 (.call 23 [(.agg [.int .u8 (X4.i 6),.str (X4.s 7),.int .u8 (X4.i 8),.bool (X4.b 9),X4.v 10,.bool (X4.b 11),X4.v 12,.int .i64 (X4.i 13),X4.v 14])] fun a10=>
 .asI .i64 a10 fun n11=>.ite (iB 200 n11)
 (.ret (.bool false))
 (.call 23 [(.agg [.int .u8 (X4.i 15),.str (X4.s 16),.int .u8 (X4.i 17),.bool (X4.b 18),X4.v 19,.bool (X4.b 20),X4.v 21,.int .i64 (X4.i 22),X4.v 23])] fun a12=>
 .asI .i64 a12 fun n13=>.ite (iB 200 n13)
 (.ret (.bool false))
 (.ite (X4.b 5)
 (.jump 10 [(.int .i64 (wA .i64 (v7+1))),.str A0,A1,A2,A3])
 (.call 11 [.agg [.str A0,A1,A2,A3],(.agg [.int .u8 (X4.i 6),.str (X4.s 7),.int .u8 (X4.i 8),.bool (X4.b 9),X4.v 10,.bool (X4.b 11),X4.v 12,.int .i64 (X4.i 13),X4.v 14])] fun a14=>
 .opt (rB 0 a14) fun a15=>.asI .u8 a15 fun n16=>.opt (rB 1 a14) fun a17=>.asI .i64 a17 fun n18=>.call 11 [.agg [.str A0,A1,A2,A3],(.agg [.int .u8 (X4.i 15),.str (X4.s 16),.int .u8 (X4.i 17),.bool (X4.b 18),X4.v 19,.bool (X4.b 20),X4.v 21,.int .i64 (X4.i 22),X4.v 23])] fun a19=>
 .opt (rB 0 a19) fun a20=>.asI .u8 a20 fun n21=>.opt (rB 1 a19) fun a22=>.asI .i64 a22 fun n23=>.ite (!iA n18 0)
 (.ret (.bool false))
 (.ite (!iA n23 0)
 (.ret (.bool false))
 (.ite (!iA n16 1)
 (.ret (.bool false))
 (.ite (!iA n21 (X7.i 1))
 (.ret (.bool false))
 (.call 24 [.agg [.str A0,A1,A2,A3],(.agg [.int .u8 (X4.i 6),.str (X4.s 7),.int .u8 (X4.i 8),.bool (X4.b 9),X4.v 10,.bool (X4.b 11),X4.v 12,.int .i64 (X4.i 13),X4.v 14])] fun a24=>
 .asB a24 fun b25=>.ite (!b25)
 (.ret (.bool false))
 (.call 24 [.agg [.str A0,A1,A2,A3],(.agg [.int .u8 (X4.i 15),.str (X4.s 16),.int .u8 (X4.i 17),.bool (X4.b 18),X4.v 19,.bool (X4.b 20),X4.v 21,.int .i64 (X4.i 22),X4.v 23])] fun a26=>
 .asB a26 fun b27=>.ite (!b27)
 (.ret (.bool false))
 (.jump 10 [(.int .i64 (wA .i64 (v7+1))),.str A0,A1,A2,A3]))))))))))))) .fail) .fail)
 (.ret (.bool true))
def j8_10(v7:Int)(A0:List Nat)(A1 A2 A3:zA)(h:wp 8 (z8k v7 A0 A1 A2 A3) m Q):jp 8 10 [.int .i64 v7,.str A0,A1,A2,A3] m Q:=vD ok8 h
def t11 (A0:List Nat)(A1 A2 A3:zA)(A4:Int)(A5:List Nat)(A6:Int)(A7:Bool)(A8:zA)(A9:Bool)(B0:zA)(B1:Int)(B2:zA):T:=
 .call 28 [.agg [.str A0,A1,A2,A3]] fun a0=>
 .ite (same 10 (.agg [.int .u8 A4,.str A5,.int .u8 A6,.bool A7,A8,.bool A9,B0,.int .i64 B1,B2]) (.agg [.int .u8 A4,.str A5,.int .u8 A6,.bool A7,A8,.bool A9,B0,.int .i64 B1,B2])) (.call 29 [a0,.agg [.int .u8 A4,.str A5,.int .u8 A6,.bool A7,A8,.bool A9,B0,.int .i64 B1,B2]] fun a1=>
 .opt (rB 0 a1) fun a2=>.asI .u8 a2 fun n3=>.opt (rB 1 a1) fun a4=>.asI .i64 a4 fun n5=>.ret (.tup [.int .u8 n3,.int .i64 n5])) .fail
def w11(A0:List Nat)(A1 A2 A3:zA)(A4:Int)(A5:List Nat)(A6:Int)(A7:Bool)(A8:zA)(A9:Bool)(B0:zA)(B1:Int)(B2:zA)(h:wp 11 (t11 A0 A1 A2 A3 A4 A5 A6 A7 A8 A9 B0 B1 B2) m Q):Wf 11 [.agg [.str A0,A1,A2,A3],.agg [.int .u8 A4,.str A5,.int .u8 A6,.bool A7,A8,.bool A9,B0,.int .i64 B1,B2]] m Q:=dB ok11 h
def t15 (A0:List Nat)(A1 A2 A3:zA)(p1:Int):T:=
 .opt (bB A1) fun a0=>.asI .i64 a0 fun n1=>.opt (bB A2) fun a2=>.asI .i64 a2 fun n3=>.opt (bB A3) fun a4=>.asI .i64 a4 fun n5=>.jump 2 [.int .i64 p1,(.int .i64 (wA .i64 ((wA .i64 ((wA .i64 ((wA .i64 (1+(wA .i64 (Int.tdiv (Int.ofNat (yB A0)) 30))))+n1))+n3))+n5))),.int .i64 0,.str A0,A1,A2,A3]
def w15(A0:List Nat)(A1 A2 A3:zA)(p1:Int)(h:wp 15 (t15 A0 A1 A2 A3 p1) m Q):Wf 15 [.agg [.str A0,A1,A2,A3],.int .i64 p1] m Q:=dB ok15 h
def z8s(v1 v5 v6:Int)(A0:List Nat)(A1 A2 A3:zA):T:=
 .opt (bB A1) fun a0=>.asI .i64 a0 fun n1=>.ite (iB v6 n1)
 (.ite (nC v5 v1)
 (.opt (mB yA 22 A1 (.int .i64 v6)) fun a2=>.opt (tB yA 59 0 a2) fun a3=>.light (fun m=>oA yA 9 ⟨0,m⟩ a3) fun a4=>.asS a4 fun s5=>.jump 2 [.int .i64 v1,(.int .i64 (wA .i64 (v5+(wA .i64 (Int.tdiv (Int.ofNat (yB s5)) 30))))),(.int .i64 (wA .i64 (v6+1))),.str A0,A1,A2,A3])
 (.jump 6 [.int .i64 v1,.int .i64 v5,.int .i64 0,.str A0,A1,A2,A3]))
 (.jump 6 [.int .i64 v1,.int .i64 v5,.int .i64 0,.str A0,A1,A2,A3])
def j15_2(v1 v5 v6:Int)(A0:List Nat)(A1 A2 A3:zA)(h:wp 15 (z8s v1 v5 v6 A0 A1 A2 A3) m Q):jp 15 2 [.int .i64 v1,.int .i64 v5,.int .i64 v6,.str A0,A1,A2,A3] m Q:=vD ok15 h
def z8r(v1 v5 v7:Int)(A0:List Nat)(A1 A2 A3:zA):T:=
 .opt (bB A2) fun a0=>.asI .i64 a0 fun n1=>.ite (iB v7 n1)
 (.ite (nC v5 v1)
 (.opt (mB yA 23 A2 (.int .i64 v7)) fun a2=>.opt (tB yA 81 0 a2) fun a3=>.light (fun m=>oA yA 9 ⟨0,m⟩ a3) fun a4=>.asS a4 fun s5=>.jump 10 [.int .i64 v1,(.int .i64 (wA .i64 (v5+(wA .i64 (Int.tdiv (Int.ofNat (yB s5)) 30))))),.int .i64 v7,.int .i64 0,.str A0,A1,A2,A3])
 (.jump 14 [.int .i64 v1,.int .i64 v5,.int .i64 0,.str A0,A1,A2,A3]))
 (.jump 14 [.int .i64 v1,.int .i64 v5,.int .i64 0,.str A0,A1,A2,A3])
def j15_6(v1 v5 v7:Int)(A0:List Nat)(A1 A2 A3:zA)(h:wp 15 (z8r v1 v5 v7 A0 A1 A2 A3) m Q):jp 15 6 [.int .i64 v1,.int .i64 v5,.int .i64 v7,.str A0,A1,A2,A3] m Q:=vD ok15 h
def zxe(v1 v5 v7 v8:Int)(A0:List Nat)(A1 A2 A3:zA):T:=
 .opt (mB yA 23 A2 (.int .i64 v7)) fun a0=>.opt (tB yA 81 2 a0) fun a1=>.light (fun m=>oA yA 79 ⟨0,m⟩ a1) fun a2=>.opt (bB a2) fun a3=>.asI .i64 a3 fun n4=>.ite (iB v8 n4)
 (.ite (nC v5 v1)
 (.opt (mB yA 23 A2 (.int .i64 v7)) fun a5=>.opt (tB yA 81 2 a5) fun a6=>.light (fun m=>oA yA 79 ⟨0,m⟩ a6) fun a7=>.opt (mB yA 79 a7 (.int .i64 v8)) fun a8=>.opt (tB yA 84 3 a8) fun a9=>.light (fun m=>oA yA 31 ⟨0,m⟩ a9) fun a10=>.asG [.bool false,.nilslice,.bool false,.nilslice] a10 fun X11=>
 .call 32 [(.agg [.bool (X11.b 0),X11.v 1,.bool (X11.b 2),X11.v 3])] fun a12=>
 .asI .i64 a12 fun n13=>.jump 10 [.int .i64 v1,(.int .i64 (wA .i64 (v5+n13))),.int .i64 v7,(.int .i64 (wA .i64 (v8+1))),.str A0,A1,A2,A3])
 (.jump 6 [.int .i64 v1,.int .i64 v5,(.int .i64 (wA .i64 (v7+1))),.str A0,A1,A2,A3]))
 (.jump 6 [.int .i64 v1,.int .i64 v5,(.int .i64 (wA .i64 (v7+1))),.str A0,A1,A2,A3])
def z7l(v1 v5 v7 v8:Int)(A0:List Nat)(A1 A2 A3:zA)(h:wp 15 (zxe v1 v5 v7 v8 A0 A1 A2 A3) m Q):jp 15 10 [.int .i64 v1,.int .i64 v5,.int .i64 v7,.int .i64 v8,.str A0,A1,A2,A3] m Q:=vD ok15 h
def zxd(v1 v5 v9:Int)(A0:List Nat)(A1 A2 A3:zA):T:=
 .opt (bB A3) fun a0=>.asI .i64 a0 fun n1=>.ite (iB v9 n1)
 (.ite (nC v5 v1)
 (.opt (mB yA 24 A3 (.int .i64 v9)) fun a2=>.light (fun m=>oA yA 56 ⟨0,m⟩ a2) fun a3=>.asG zz7z a3 fun X4=>
 .ite (tC zA.one [.str (X4.s 0),.str (X4.s 1),.int .i64 (X4.i 2),.int .i64 (X4.i 3),.int .i64 (X4.i 4),.bool (X4.b 5),.int .u8 (X4.i 6),.str (X4.s 7),.int .u8 (X4.i 8),.bool (X4.b 9),X4.v 10,.bool (X4.b 11),X4.v 12,.int .i64 (X4.i 13),X4.v 14,.int .u8 (X4.i 15),.str (X4.s 16),.int .u8 (X4.i 17),.bool (X4.b 18),X4.v 19,.bool (X4.b 20),X4.v 21,.int .i64 (X4.i 22),X4.v 23]) (.call 22 [(.agg [.int .u8 (X4.i 6),.str (X4.s 7),.int .u8 (X4.i 8),.bool (X4.b 9),X4.v 10,.bool (X4.b 11),X4.v 12,.int .i64 (X4.i 13),X4.v 14]),(.int .i64 (wA .i64 (v1-v5)))] fun a5=>
 .asI .i64 a5 fun n6=>.ite (same 10 (.str (X4.s 0)) (.str (X4.s 0))) (.ite (same 10 (.int .i64 (Int.ofNat (yB (X4.s 0)))) (.int .i64 (Int.ofNat (yB (X4.s 0))))) (.ite (same 10 (.str (X4.s 1)) (.str (X4.s 1))) (.ite (same 10 (.int .i64 (Int.ofNat (yB (X4.s 1)))) (.int .i64 (Int.ofNat (yB (X4.s 1))))) (.ite (nC (wA .i64 (v5+(wA .i64 ((wA .i64 ((wA .i64 (Int.tdiv (Int.ofNat (yB (X4.s 0))) 30))+(wA .i64 (Int.tdiv (Int.ofNat (yB (X4.s 1))) 30))))+n6)))) v1)
 (.call 22 [(.agg [.int .u8 (X4.i 15),.str (X4.s 16),.int .u8 (X4.i 17),.bool (X4.b 18),X4.v 19,.bool (X4.b 20),X4.v 21,.int .i64 (X4.i 22),X4.v 23]),(.int .i64 (wA .i64 (v1-(wA .i64 (v5+(wA .i64 ((wA .i64 ((wA .i64 (Int.tdiv (Int.ofNat (yB (X4.s 0))) 30))+(wA .i64 (Int.tdiv (Int.ofNat (yB (X4.s 1))) 30))))+n6)))))))] fun a7=>
 .asI .i64 a7 fun n8=>.jump 14 [.int .i64 v1,(.int .i64 (wA .i64 ((wA .i64 (v5+(wA .i64 ((wA .i64 ((wA .i64 (Int.tdiv (Int.ofNat (yB (X4.s 0))) 30))+(wA .i64 (Int.tdiv (Int.ofNat (yB (X4.s 1))) 30))))+n6))))+n8))),(.int .i64 (wA .i64 (v9+1))),.str A0,A1,A2,A3])
 (.jump 14 [.int .i64 v1,(.int .i64 (wA .i64 (v5+(wA .i64 ((wA .i64 ((wA .i64 (Int.tdiv (Int.ofNat (yB (X4.s 0))) 30))+(wA .i64 (Int.tdiv (Int.ofNat (yB (X4.s 1))) 30))))+n6))))),(.int .i64 (wA .i64 (v9+1))),.str A0,A1,A2,A3])) .fail) .fail) .fail) .fail) .fail)
 (.ret (.int .i64 v5)))
 (.ret (.int .i64 v5))
def z7k(v1 v5 v9:Int)(A0:List Nat)(A1 A2 A3:zA)(h:wp 15 (zxd v1 v5 v9 A0 A1 A2 A3) m Q):jp 15 14 [.int .i64 v1,.int .i64 v5,.int .i64 v9,.str A0,A1,A2,A3] m Q:=vD ok15 h
def t16 (A0:List Nat)(A1 A2 A3:zA):T:=
 .call 33 [.agg [.str A0,A1,A2,A3]] fun a0=>
 .asI .i64 a0 fun n1=>.ite (!iA n1 0)
 (.ret (.tup [(.int .i64 (-1)),.int .i64 n1]))
 (.call 28 [.agg [.str A0,A1,A2,A3]] fun a2=>
 .opt (bB A3) fun a3=>.asI .i64 a3 fun n4=>.jump 2 [a2,A3,.int .i64 n4,.int .i64 0])
def w16(A0:List Nat)(A1 A2 A3:zA)(h:wp 16 (t16 A0 A1 A2 A3) m Q):Wf 16 [.agg [.str A0,A1,A2,A3]] m Q:=dB ok16 h
def t16_2(v5 v17:zA)(v18 v19:Int):T:=
 .ite (iB v19 v18)
 (.opt (mB yA 24 v17 (.int .i64 v19)) fun a0=>.light (fun m=>oA yA 56 ⟨0,m⟩ a0) fun a1=>.asG zz7z a1 fun X2=>
 .ite (tC zA.one [.str (X2.s 0),.str (X2.s 1),.int .i64 (X2.i 2),.int .i64 (X2.i 3),.int .i64 (X2.i 4),.bool (X2.b 5),.int .u8 (X2.i 6),.str (X2.s 7),.int .u8 (X2.i 8),.bool (X2.b 9),X2.v 10,.bool (X2.b 11),X2.v 12,.int .i64 (X2.i 13),X2.v 14,.int .u8 (X2.i 15),.str (X2.s 16),.int .u8 (X2.i 17),.bool (X2.b 18),X2.v 19,.bool (X2.b 20),X2.v 21,.int .i64 (X2.i 22),X2.v 23]) (.call 34 [v5,(.agg [.str (X2.s 0),.str (X2.s 1),.int .i64 (X2.i 2),.int .i64 (X2.i 3),.int .i64 (X2.i 4),.bool (X2.b 5),.int .u8 (X2.i 6),.str (X2.s 7),.int .u8 (X2.i 8),.bool (X2.b 9),X2.v 10,.bool (X2.b 11),X2.v 12,.int .i64 (X2.i 13),X2.v 14,.int .u8 (X2.i 15),.str (X2.s 16),.int .u8 (X2.i 17),.bool (X2.b 18),X2.v 19,.bool (X2.b 20),X2.v 21,.int .i64 (X2.i 22),X2.v 23])] fun a3=>
 .asI .i64 a3 fun n4=>.ite (!iA n4 0)
 (.ret (.tup [.int .i64 v19,.int .i64 n4]))
 (.jump 2 [v5,v17,.int .i64 v18,(.int .i64 (wA .i64 (v19+1)))])) .fail)
 (.ret (.tup [.int .i64 0,.int .i64 0]))
def j16_2(v5 v17:zA)(v18 v19:Int)(h:wp 16 (t16_2 v5 v17 v18 v19) m Q):jp 16 2 [v5,v17,.int .i64 v18,.int .i64 v19] m Q:=vD ok16 h
def t19 (A0:List Nat)(A1 A2 A3:zA)(p1:List Nat):T:=
 .opt (bB A1) fun a0=>.asI .i64 a0 fun n1=>.jump 2 [.str p1,A1,.int .i64 n1,.int .i64 0,.str [],.int .u8 0,.bool false]
def w19(A0:List Nat)(A1 A2 A3:zA)(p1:List Nat)(h:wp 19 (t19 A0 A1 A2 A3 p1) m Q):Wf 19 [.agg [.str A0,A1,A2,A3],.str p1] m Q:=dB ok19 h
def t19_2(v1:List Nat)(v9:zA)(v10 v11:Int)(A0:List Nat)(A1:Int)(A2:Bool):T:=
 .ite (iB v11 v10)
 (.opt (mB yA 22 v9 (.int .i64 v11)) fun a0=>.light (fun m=>oA yA 59 ⟨0,m⟩ a0) fun a1=>.asG zvs a1 fun X2=>
 .ite true (.ite (xF (X2.s 0) v1)
 (.ite true (.ret (.tup [(.agg [.str (X2.s 0),.int .u8 (X2.i 1),.bool (X2.b 2)]),.bool true])) .fail)
 (.jump 2 [.str v1,v9,.int .i64 v10,(.int .i64 (wA .i64 (v11+1))),.str A0,.int .u8 A1,.bool A2])) .fail)
 (.ite true (.ite true (.ret (.tup [.agg [.str [],.int .u8 0,.bool false],.bool false])) .fail) .fail)
def j19_2(v1:List Nat)(v9:zA)(v10 v11:Int)(A0:List Nat)(A1:Int)(A2:Bool)(h:wp 19 (t19_2 v1 v9 v10 v11 A0 A1 A2) m Q):jp 19 2 [.str v1,v9,.int .i64 v10,.int .i64 v11,.str A0,.int .u8 A1,.bool A2] m Q:=vD ok19 h
def t22 (A0:Int)(A1:List Nat)(A2:Int)(A3:Bool)(A4:zA)(A5:Bool)(A6:zA)(A7:Int)(A8:zA)(p1:Int):T:=
 .call 32 [.agg [.bool A3,A4,.bool A5,A6]] fun a0=>
 .asI .i64 a0 fun n1=>.ite (same 10 (.str A1) (.str A1)) (.ite (same 10 (.int .i64 (Int.ofNat (yB A1))) (.int .i64 (Int.ofNat (yB A1)))) (.jump 2 [.int .i64 p1,(.int .i64 (wA .i64 (n1+(wA .i64 (Int.tdiv (Int.ofNat (yB A1)) 30))))),.int .i64 0,.int .u8 A0,.str A1,.int .u8 A2,.bool A3,A4,.bool A5,A6,.int .i64 A7,A8]) .fail) .fail
def w22(A0:Int)(A1:List Nat)(A2:Int)(A3:Bool)(A4:zA)(A5:Bool)(A6:zA)(A7:Int)(A8:zA)(p1:Int)(h:wp 22 (t22 A0 A1 A2 A3 A4 A5 A6 A7 A8 p1) m Q):Wf 22 [.agg [.int .u8 A0,.str A1,.int .u8 A2,.bool A3,A4,.bool A5,A6,.int .i64 A7,A8],.int .i64 p1] m Q:=dB ok22 h
def z8q(v1 v5 v6 A0:Int)(A1:List Nat)(A2:Int)(A3:Bool)(A4:zA)(A5:Bool)(A6:zA)(A7:Int)(A8:zA):T:=
 .opt (bB A8) fun a0=>.asI .i64 a0 fun n1=>.ite (iB v6 n1)
 (.ite (nC v5 v1)
 (.opt (mB yA 34 A8 (.int .i64 v6)) fun a2=>.light (fun m=>oA yA 36 ⟨0,m⟩ a2) fun a3=>.asG z19 a3 fun X4=>
 .call 22 [(.agg [.int .u8 (X4.i 0),.str (X4.s 1),.int .u8 (X4.i 2),.bool (X4.b 3),X4.v 4,.bool (X4.b 5),X4.v 6,.int .i64 (X4.i 7),X4.v 8]),(.int .i64 (wA .i64 (v1-v5)))] fun a5=>
 .asI .i64 a5 fun n6=>.jump 2 [.int .i64 v1,(.int .i64 (wA .i64 (v5+n6))),(.int .i64 (wA .i64 (v6+1))),.int .u8 A0,.str A1,.int .u8 A2,.bool A3,A4,.bool A5,A6,.int .i64 A7,A8])
 (.ret (.int .i64 v5)))
 (.ret (.int .i64 v5))
def j22_2(v1 v5 v6 A0:Int)(A1:List Nat)(A2:Int)(A3:Bool)(A4:zA)(A5:Bool)(A6:zA)(A7:Int)(A8:zA)(h:wp 22 (z8q v1 v5 v6 A0 A1 A2 A3 A4 A5 A6 A7 A8) m Q):jp 22 2 [.int .i64 v1,.int .i64 v5,.int .i64 v6,.int .u8 A0,.str A1,.int .u8 A2,.bool A3,A4,.bool A5,A6,.int .i64 A7,A8] m Q:=vD ok22 h
def t23 (A0:Int)(A1:List Nat)(A2:Int)(A3:Bool)(A4:zA)(A5:Bool)(A6:zA)(A7:Int)(A8:zA):T:=
 .opt (bB A8) fun a0=>.asI .i64 a0 fun n1=>.jump 2 [.int .i64 1,A8,.int .i64 n1,.int .i64 0]
def w23(A0:Int)(A1:List Nat)(A2:Int)(A3:Bool)(A4:zA)(A5:Bool)(A6:zA)(A7:Int)(A8:zA)(h:wp 23 (t23 A0 A1 A2 A3 A4 A5 A6 A7 A8) m Q):Wf 23 [.agg [.int .u8 A0,.str A1,.int .u8 A2,.bool A3,A4,.bool A5,A6,.int .i64 A7,A8]] m Q:=dB ok23 h
def z8p(v3:Int)(v7:zA)(v8 v9:Int):T:=
 .ite (iB v9 v8)
 (.opt (mB yA 34 v7 (.int .i64 v9)) fun a0=>.light (fun m=>oA yA 36 ⟨0,m⟩ a0) fun a1=>.asG z19 a1 fun X2=>
 .ite (tC zA.one [.int .u8 (X2.i 0),.str (X2.s 1),.int .u8 (X2.i 2),.bool (X2.b 3),X2.v 4,.bool (X2.b 5),X2.v 6,.int .i64 (X2.i 7),X2.v 8]) (.call 23 [(.agg [.int .u8 (X2.i 0),.str (X2.s 1),.int .u8 (X2.i 2),.bool (X2.b 3),X2.v 4,.bool (X2.b 5),X2.v 6,.int .i64 (X2.i 7),X2.v 8])] fun a3=>
 .asI .i64 a3 fun n4=>.jump 2 [(.int .i64 (wA .i64 (v3+n4))),v7,.int .i64 v8,(.int .i64 (wA .i64 (v9+1)))]) .fail)
 (.ret (.int .i64 v3))
def j23_2(v3:Int)(v7:zA)(v8 v9:Int)(h:wp 23 (z8p v3 v7 v8 v9) m Q):jp 23 2 [.int .i64 v3,v7,.int .i64 v8,.int .i64 v9] m Q:=vD ok23 h
def t24 (A0:List Nat)(A1 A2 A3:zA)(A4:Int)(A5:List Nat)(A6:Int)(A7:Bool)(A8:zA)(A9:Bool)(B0:zA)(B1:Int)(B2:zA):T:=
 .call 19 [.agg [.str A0,A1,A2,A3],.str A5] fun a0=>
 .opt (rB 0 a0) fun a1=>.asG zvs a1 fun X2=>
 .opt (rB 1 a0) fun a3=>.asB a3 fun b4=>.ite true (.call 40 [.agg [.str A0,A1,A2,A3],.str A5] fun a5=>
 .opt (rB 0 a5) fun a6=>.asG zm6 a6 fun X7=>
 .opt (rB 1 a5) fun a8=>.asB a8 fun b9=>.ite (tC zA.one [.str (X7.s 0),.bool (X7.b 1),X7.v 2]) (.ite (iA A4 3)
 (.ite (iA A4 3)
 (.ite (!b4)
 (.ret (.bool false))
 (.ite (!(X2.b 2))
 (.ret (.bool false))
 (.jump 47 [.str A0,A1,A2,A3,.int .u8 A4,.str A5,.int .u8 A6,.bool A7,A8,.bool A9,B0,.int .i64 B1,B2])))
 (.ite (iA A4 5)
 (.ite (!b4)
 (.ret (.bool false))
 (.ite (X2.b 2)
 (.ret (.bool false))
 (.jump 47 [.str A0,A1,A2,A3,.int .u8 A4,.str A5,.int .u8 A6,.bool A7,A8,.bool A9,B0,.int .i64 B1,B2])))
 (.ite (iA A4 21)
 (.ite (!b4)
 (.ret (.bool false))
 (.ite (!(X2.b 2))
 (.ret (.bool false))
 (.ite (!iA (X2.i 1) 2)
 (.ret (.bool false))
 (.jump 47 [.str A0,A1,A2,A3,.int .u8 A4,.str A5,.int .u8 A6,.bool A7,A8,.bool A9,B0,.int .i64 B1,B2]))))
 (.ite (iA A4 22)
 (.ite (!b4)
 (.ret (.bool false))
 (.ite (!(X2.b 2))
 (.ret (.bool false))
 (.ite (!iA (X2.i 1) 3)
 (.ret (.bool false))
 (.jump 47 [.str A0,A1,A2,A3,.int .u8 A4,.str A5,.int .u8 A6,.bool A7,A8,.bool A9,B0,.int .i64 B1,B2]))))
 (.ite (iA A4 6)
 (.ite (!b9)
 (.ret (.bool false))
 (.opt (bB B2) fun a10=>.asI .i64 a10 fun n11=>.ite (!cF (X7.b 1) (iA n11 2))
 (.ret (.bool false))
 (.jump 47 [.str A0,A1,A2,A3,.int .u8 A4,.str A5,.int .u8 A6,.bool A7,A8,.bool A9,B0,.int .i64 B1,B2])))
 (.ite (iA A4 23)
 (.ite (!b9)
 (.ret (.bool false))
 (.ite (X7.b 1)
 (.ret (.bool false))
 (.jump 47 [.str A0,A1,A2,A3,.int .u8 A4,.str A5,.int .u8 A6,.bool A7,A8,.bool A9,B0,.int .i64 B1,B2])))
 (.jump 47 [.str A0,A1,A2,A3,.int .u8 A4,.str A5,.int .u8 A6,.bool A7,A8,.bool A9,B0,.int .i64 B1,B2])))))))
 (.ite (iA A4 4)
 (.ite (!b4)
 (.ret (.bool false))
 (.ite (!(X2.b 2))
 (.ret (.bool false))
 (.jump 47 [.str A0,A1,A2,A3,.int .u8 A4,.str A5,.int .u8 A6,.bool A7,A8,.bool A9,B0,.int .i64 B1,B2])))
 (.ite (iA A4 5)
 (.ite (!b4)
 (.ret (.bool false))
 (.ite (X2.b 2)
 (.ret (.bool false))
 (.jump 47 [.str A0,A1,A2,A3,.int .u8 A4,.str A5,.int .u8 A6,.bool A7,A8,.bool A9,B0,.int .i64 B1,B2])))
 (.ite (iA A4 21)
 (.ite (!b4)
 (.ret (.bool false))
 (.ite (!(X2.b 2))
 (.ret (.bool false))
 (.ite (!iA (X2.i 1) 2)
 (.ret (.bool false))
 (.jump 47 [.str A0,A1,A2,A3,.int .u8 A4,.str A5,.int .u8 A6,.bool A7,A8,.bool A9,B0,.int .i64 B1,B2]))))
 (.ite (iA A4 22)
 (.ite (!b4)
 (.ret (.bool false))
 (.ite (!(X2.b 2))
 (.ret (.bool false))
 (.ite (!iA (X2.i 1) 3)
 (.ret (.bool false))
 (.jump 47 [.str A0,A1,A2,A3,.int .u8 A4,.str A5,.int .u8 A6,.bool A7,A8,.bool A9,B0,.int .i64 B1,B2]))))
 (.ite (iA A4 6)
 (.ite (!b9)
 (.ret (.bool false))
 (.opt (bB B2) fun a12=>.asI .i64 a12 fun n13=>.ite (!cF (X7.b 1) (iA n13 2))
 (.ret (.bool false))
 (.jump 47 [.str A0,A1,A2,A3,.int .u8 A4,.str A5,.int .u8 A6,.bool A7,A8,.bool A9,B0,.int .i64 B1,B2])))
 (.ite (iA A4 23)
 (.ite (!b9)
 (.ret (.bool false))
 (.ite (X7.b 1)
 (.ret (.bool false))
 (.jump 47 [.str A0,A1,A2,A3,.int .u8 A4,.str A5,.int .u8 A6,.bool A7,A8,.bool A9,B0,.int .i64 B1,B2])))
 (.jump 47 [.str A0,A1,A2,A3,.int .u8 A4,.str A5,.int .u8 A6,.bool A7,A8,.bool A9,B0,.int .i64 B1,B2])))))))) .fail) .fail
def w24(A0:List Nat)(A1 A2 A3:zA)(A4:Int)(A5:List Nat)(A6:Int)(A7:Bool)(A8:zA)(A9:Bool)(B0:zA)(B1:Int)(B2:zA)(h:wp 24 (t24 A0 A1 A2 A3 A4 A5 A6 A7 A8 A9 B0 B1 B2) m Q):Wf 24 [.agg [.str A0,A1,A2,A3],.agg [.int .u8 A4,.str A5,.int .u8 A6,.bool A7,A8,.bool A9,B0,.int .i64 B1,B2]] m Q:=dB ok24 h
def z6m(A0:List Nat)(A1 A2 A3:zA)(A4:Int)(A5:List Nat)(A6:Int)(A7:Bool)(A8:zA)(A9:Bool)(B0:zA)(B1:Int)(B2:zA):T:=
 .jump 4 [.int .i64 0,.str A0,A1,A2,A3,.int .u8 A4,.str A5,.int .u8 A6,.bool A7,A8,.bool A9,B0,.int .i64 B1,B2]
def j24_47(A0:List Nat)(A1 A2 A3:zA)(A4:Int)(A5:List Nat)(A6:Int)(A7:Bool)(A8:zA)(A9:Bool)(B0:zA)(B1:Int)(B2:zA)(h:wp 24 (z6m A0 A1 A2 A3 A4 A5 A6 A7 A8 A9 B0 B1 B2) m Q):jp 24 47 [.str A0,A1,A2,A3,.int .u8 A4,.str A5,.int .u8 A6,.bool A7,A8,.bool A9,B0,.int .i64 B1,B2] m Q:=vD ok24 h
def z8o(v9:Int)(A0:List Nat)(A1 A2 A3:zA)(A4:Int)(A5:List Nat)(A6:Int)(A7:Bool)(A8:zA)(A9:Bool)(B0:zA)(B1:Int)(B2:zA):T:=
 .opt (bB B2) fun a0=>.asI .i64 a0 fun n1=>.ite (iB v9 n1)
 (.opt (mB yA 34 B2 (.int .i64 v9)) fun a2=>.light (fun m=>oA yA 36 ⟨0,m⟩ a2) fun a3=>.asG z19 a3 fun X4=>
 .call 24 [.agg [.str A0,A1,A2,A3],(.agg [.int .u8 (X4.i 0),.str (X4.s 1),.int .u8 (X4.i 2),.bool (X4.b 3),X4.v 4,.bool (X4.b 5),X4.v 6,.int .i64 (X4.i 7),X4.v 8])] fun a5=>
 .asB a5 fun b6=>.ite (!b6)
 (.ret (.bool false))
 (.jump 4 [(.int .i64 (wA .i64 (v9+1))),.str A0,A1,A2,A3,.int .u8 A4,.str A5,.int .u8 A6,.bool A7,A8,.bool A9,B0,.int .i64 B1,B2]))
 (.ret (.bool true))
def j24_4(v9:Int)(A0:List Nat)(A1 A2 A3:zA)(A4:Int)(A5:List Nat)(A6:Int)(A7:Bool)(A8:zA)(A9:Bool)(B0:zA)(B1:Int)(B2:zA)(h:wp 24 (z8o v9 A0 A1 A2 A3 A4 A5 A6 A7 A8 A9 B0 B1 B2) m Q):jp 24 4 [.int .i64 v9,.str A0,A1,A2,A3,.int .u8 A4,.str A5,.int .u8 A6,.bool A7,A8,.bool A9,B0,.int .i64 B1,B2] m Q:=vD ok24 h
def t28 (A0:List Nat)(A1 A2 A3:zA):T:=
 .ite true (.ite true (.ite true (.ite true (.ite true (.ite true (.ite true (.ite true (.ite true (.ite true (.ite true (.ite true (.ite true (.ite true (.ite true (.ite true (.ite true (.ite true (.ite true (.ite true (.ite true (.ite true (.ite true (.ite true (.ite true (.heavy tT fun a0=>
 .heavy (nP yA [.upd 100 a0 (.agg [.int .u8 2,.int .u8 0,.int .u8 0,.int .u8 0]) (.int .u8 4),.upd 100 a0 (.agg [.int .u8 4,.int .u8 4,.int .u8 0,.int .u8 0]) (.int .u8 1),.upd 100 a0 (.agg [.int .u8 6,.int .u8 2,.int .u8 0,.int .u8 0]) (.int .u8 2),.upd 100 a0 (.agg [.int .u8 6,.int .u8 2,.int .u8 2,.int .u8 0]) (.int .u8 2),.upd 100 a0 (.agg [.int .u8 8,.int .u8 4,.int .u8 4,.int .u8 0]) (.int .u8 5),.upd 100 a0 (.agg [.int .u8 9,.int .u8 2,.int .u8 2,.int .u8 0]) (.int .u8 2),.upd 100 a0 (.agg [.int .u8 9,.int .u8 3,.int .u8 2,.int .u8 0]) (.int .u8 3),.upd 100 a0 (.agg [.int .u8 9,.int .u8 2,.int .u8 3,.int .u8 0]) (.int .u8 3),.upd 100 a0 (.agg [.int .u8 10,.int .u8 2,.int .u8 2,.int .u8 0]) (.int .u8 2),.upd 100 a0 (.agg [.int .u8 10,.int .u8 3,.int .u8 2,.int .u8 0]) (.int .u8 3),.upd 100 a0 (.agg [.int .u8 10,.int .u8 3,.int .u8 3,.int .u8 0]) (.int .u8 2),.upd 100 a0 (.agg [.int .u8 15,.int .u8 1,.int .u8 1,.int .u8 0]) (.int .u8 1),.upd 100 a0 (.agg [.int .u8 16,.int .u8 1,.int .u8 1,.int .u8 0]) (.int .u8 1),.upd 100 a0 (.agg [.int .u8 17,.int .u8 1,.int .u8 0,.int .u8 0]) (.int .u8 1),.upd 100 a0 (.agg [.int .u8 19,.int .u8 2,.int .u8 2,.int .u8 0]) (.int .u8 2),.upd 100 a0 (.agg [.int .u8 19,.int .u8 3,.int .u8 3,.int .u8 0]) (.int .u8 3),.upd 100 a0 (.agg [.int .u8 20,.int .u8 4,.int .u8 4,.int .u8 0]) (.int .u8 6),.upd 100 a0 (.agg [.int .u8 21,.int .u8 4,.int .u8 4,.int .u8 0]) (.int .u8 2),.upd 100 a0 (.agg [.int .u8 22,.int .u8 4,.int .u8 4,.int .u8 6]) (.int .u8 3),.upd 100 a0 (.agg [.int .u8 23,.int .u8 4,.int .u8 4,.int .u8 0]) (.int .u8 2),.upd 100 a0 (.agg [.int .u8 24,.int .u8 2,.int .u8 0,.int .u8 0]) (.int .u8 6),.upd 100 a0 (.agg [.int .u8 25,.int .u8 5,.int .u8 0,.int .u8 0]) (.int .u8 2),.upd 100 a0 (.agg [.int .u8 25,.int .u8 6,.int .u8 0,.int .u8 0]) (.int .u8 2),.upd 100 a0 (.agg [.int .u8 25,.int .u8 3,.int .u8 0,.int .u8 0]) (.int .u8 2),.upd 100 a0 (.agg [.int .u8 26,.int .u8 4,.int .u8 0,.int .u8 0]) (.int .u8 4)]) fun _=>
 .ite true (.jump 2 [a0,.agg [.int .u8 7,.int .u8 8],.int .i64 0,.str A0,A1,A2,A3]) .fail) .fail) .fail) .fail) .fail) .fail) .fail) .fail) .fail) .fail) .fail) .fail) .fail) .fail) .fail) .fail) .fail) .fail) .fail) .fail) .fail) .fail) .fail) .fail) .fail) .fail
def w28(A0:List Nat)(A1 A2 A3:zA)(h:wp 28 (t28 A0 A1 A2 A3) m Q):Wf 28 [.agg [.str A0,A1,A2,A3]] m Q:=dB ok28 h
def t28_2(v3:zA)(A0 A1 v37:Int)(A2:List Nat)(A3 A4 A5:zA):T:=
 .ite (iB v37 2)
 (.opt (xJ yA 101 (.agg [.int .u8 A0,.int .u8 A1]) (.int .i64 v37)) fun a0=>.asI .u8 a0 fun n1=>.ite true (.jump 6 [v3,.int .u8 n1,.agg [.int .u8 A0,.int .u8 A1],.int .i64 v37,.agg [.int .u8 2,.int .u8 3,.int .u8 5,.int .u8 6],.int .i64 0,.str A2,A3,A4,A5]) .fail)
 (.jump 10 [v3,.int .u8 1,.str A2,A3,A4,A5])
def z9v(v3:zA)(A0 A1 v37:Int)(A2:List Nat)(A3 A4 A5:zA)(h:wp 28 (t28_2 v3 A0 A1 v37 A2 A3 A4 A5) m Q):jp 28 2 [v3,.agg [.int .u8 A0,.int .u8 A1],.int .i64 v37,.str A2,A3,A4,A5] m Q:=vD ok28 h
def t28_6(v3:zA)(v5 A0 A1 v37 A2 A3 A4 A5 v41:Int)(A6:List Nat)(A7 A8 A9:zA):T:=
 .ite (iB v41 4)
 (.opt (xJ yA 102 (.agg [.int .u8 A2,.int .u8 A3,.int .u8 A4,.int .u8 A5]) (.int .i64 v41)) fun a0=>.asI .u8 a0 fun n1=>.ite true (.heavy (aH yA 100 v3 (.agg [.int .u8 v5,.int .u8 n1,.int .u8 n1,.int .u8 0]) (.int .u8 n1)) fun _=>
 .jump 6 [v3,.int .u8 v5,.agg [.int .u8 A0,.int .u8 A1],.int .i64 v37,.agg [.int .u8 A2,.int .u8 A3,.int .u8 A4,.int .u8 A5],(.int .i64 (wA .i64 (v41+1))),.str A6,A7,A8,A9]) .fail)
 (.ite true (.heavy (aH yA 100 v3 (.agg [.int .u8 v5,.int .u8 4,.int .u8 5,.int .u8 0]) (.int .u8 4)) fun _=>
 .ite true (.heavy (aH yA 100 v3 (.agg [.int .u8 v5,.int .u8 4,.int .u8 6,.int .u8 0]) (.int .u8 4)) fun _=>
 .jump 2 [v3,.agg [.int .u8 A0,.int .u8 A1],(.int .i64 (wA .i64 (v37+1))),.str A6,A7,A8,A9]) .fail) .fail)
def zzt(v3:zA)(v5 A0 A1 v37 A2 A3 A4 A5 v41:Int)(A6:List Nat)(A7 A8 A9:zA)(h:wp 28 (t28_6 v3 v5 A0 A1 v37 A2 A3 A4 A5 v41 A6 A7 A8 A9) m Q):jp 28 6 [v3,.int .u8 v5,.agg [.int .u8 A0,.int .u8 A1],.int .i64 v37,.agg [.int .u8 A2,.int .u8 A3,.int .u8 A4,.int .u8 A5],.int .i64 v41,.str A6,A7,A8,A9] m Q:=vD ok28 h
def t28_10(v3:zA)(v8:Int)(A0:List Nat)(A1 A2 A3:zA):T:=
 .ite (nC v8 6)
 (.ite true (.heavy (aH yA 100 v3 (.agg [.int .u8 14,.int .u8 v8,.int .u8 v8,.int .u8 0]) (.int .u8 1)) fun _=>
 .ite true (.heavy (aH yA 100 v3 (.agg [.int .u8 18,.int .u8 1,.int .u8 v8,.int .u8 v8]) (.int .u8 v8)) fun _=>
 .ite (!iA v8 1)
 (.ite true (.heavy (aH yA 100 v3 (.agg [.int .u8 11,.int .u8 v8,.int .u8 v8,.int .u8 0]) (.int .u8 v8)) fun _=>
 .ite true (.heavy (aH yA 100 v3 (.agg [.int .u8 12,.int .u8 v8,.int .u8 v8,.int .u8 0]) (.int .u8 v8)) fun _=>
 .ite true (.heavy (aH yA 100 v3 (.agg [.int .u8 13,.int .u8 v8,.int .u8 v8,.int .u8 0]) (.int .u8 1)) fun _=>
 .jump 10 [v3,(.int .u8 (wA .u8 (v8+1))),.str A0,A1,A2,A3]) .fail) .fail) .fail)
 (.jump 10 [v3,(.int .u8 (wA .u8 (v8+1))),.str A0,A1,A2,A3])) .fail) .fail)
 (.ite (tC zA.one [v3]) (.heavy (znk (.agg [.str A0,A1,A2,A3,v3])) fun a0=>
 .ret a0) .fail)
def zzu(v3:zA)(v8:Int)(A0:List Nat)(A1 A2 A3:zA)(h:wp 28 (t28_10 v3 v8 A0 A1 A2 A3) m Q):jp 28 10 [v3,.int .u8 v8,.str A0,A1,A2,A3] m Q:=vD ok28 h
def t29 (p0:zA)(A0:Int)(A1:List Nat)(A2:Int)(A3:Bool)(A4:zA)(A5:Bool)(A6:zA)(A7:Int)(A8:zA):T:=
 .call 43 [.agg [.int .u8 A0,.str A1,.int .u8 A2,.bool A3,A4,.bool A5,A6,.int .i64 A7,A8]] fun a0=>
 .opt (rB 0 a0) fun a1=>.asS a1 fun s2=>.opt (rB 1 a0) fun a3=>.asI .i64 a3 fun n4=>.ite (iA n4 2)
 (.ret (.tup [.int .u8 0,.int .i64 140]))
 (.call 44 [p0,.agg [.int .u8 A0,.str A1,.int .u8 A2,.bool A3,A4,.bool A5,A6,.int .i64 A7,A8]] fun a5=>
 .opt (rB 0 a5) fun a6=>.asI .u8 a6 fun n7=>.opt (rB 1 a5) fun a8=>.asI .i64 a8 fun n9=>.ret (.tup [.int .u8 n7,.int .i64 n9]))
def w29(p0:zA)(A0:Int)(A1:List Nat)(A2:Int)(A3:Bool)(A4:zA)(A5:Bool)(A6:zA)(A7:Int)(A8:zA)(h:wp 29 (t29 p0 A0 A1 A2 A3 A4 A5 A6 A7 A8) m Q):Wf 29 [p0,.agg [.int .u8 A0,.str A1,.int .u8 A2,.bool A3,A4,.bool A5,A6,.int .i64 A7,A8]] m Q:=dB ok29 h
def t32 (A0:Bool)(A1:zA)(A2:Bool)(A3:zA):T:=
 .opt (bB A1) fun a0=>.asI .i64 a0 fun n1=>.opt (bB A3) fun a2=>.asI .i64 a2 fun n3=>.ret (.int .i64 (wA .i64 ((wA .i64 (1+n1))+n3)))
def w32(A0:Bool)(A1:zA)(A2:Bool)(A3:zA)(h:wp 32 (t32 A0 A1 A2 A3) m Q):Wf 32 [.agg [.bool A0,A1,.bool A2,A3]] m Q:=dB ok32 h
def t33 (A0:List Nat)(A1 A2 A3:zA):T:=
 .ite (tC zA.one [.str A0,A1,A2]) (.call 46 [.agg [.str A0,A1,A2,.nilslice]] fun a0=>
 .asB a0 fun b1=>.ite (!b1)
 (.ret (.int .i64 140))
 (.opt (bB A1) fun a2=>.asI .i64 a2 fun n3=>.ite (iB 64 n3)
 (.opt (bB A2) fun a4=>.asI .i64 a4 fun n5=>.jump 2 [.bool true,A2,.int .i64 n5,.int .i64 0,.str A0,A1,A2,A3])
 (.opt (bB A2) fun a6=>.asI .i64 a6 fun n7=>.ite (iB 16 n7)
 (.opt (bB A2) fun a8=>.asI .i64 a8 fun n9=>.jump 2 [.bool true,A2,.int .i64 n9,.int .i64 0,.str A0,A1,A2,A3])
 (.opt (bB A3) fun a10=>.asI .i64 a10 fun n11=>.opt (bB A2) fun a12=>.asI .i64 a12 fun n13=>.jump 2 [(.bool (iB 400 n11)),A2,.int .i64 n13,.int .i64 0,.str A0,A1,A2,A3])))) .fail
def w33(A0:List Nat)(A1 A2 A3:zA)(h:wp 33 (t33 A0 A1 A2 A3) m Q):Wf 33 [.agg [.str A0,A1,A2,A3]] m Q:=dB ok33 h
def t33_2(v3:Bool)(v32:zA)(v33 v34:Int)(A0:List Nat)(A1 A2 A3:zA):T:=
 .ite (iB v34 v33)
 (.opt (mB yA 23 v32 (.int .i64 v34)) fun a0=>.light (fun m=>oA yA 81 ⟨0,m⟩ a0) fun a1=>.asG zm6 a1 fun X2=>
 .ite (tC zA.one [.str (X2.s 0),.bool (X2.b 1),X2.v 2]) (.ite v3
 (.jump 2 [.bool true,v32,.int .i64 v33,(.int .i64 (wA .i64 (v34+1))),.str A0,A1,A2,A3])
 (.opt (bB (X2.v 2)) fun a3=>.asI .i64 a3 fun n4=>.jump 2 [(.bool (iB 400 n4)),v32,.int .i64 v33,(.int .i64 (wA .i64 (v34+1))),.str A0,A1,A2,A3])) .fail)
 (.ite v3
 (.ret (.int .i64 5))
 (.call 47 [A1,(.func (.func 48) [] [])] fun a5=>
 .asB a5 fun b6=>.ite b6
 (.ret (.int .i64 143))
 (.call 49 [A2,(.func (.func 50) [] [])] fun a7=>
 .asB a7 fun b8=>.ite b8
 (.ret (.int .i64 143))
 (.ret (.int .i64 0)))))
def j33_2(v3:Bool)(v32:zA)(v33 v34:Int)(A0:List Nat)(A1 A2 A3:zA)(h:wp 33 (t33_2 v3 v32 v33 v34 A0 A1 A2 A3) m Q):jp 33 2 [.bool v3,v32,.int .i64 v33,.int .i64 v34,.str A0,A1,A2,A3] m Q:=vD ok33 h
def t34 (p0:zA)(A0 A1:List Nat)(A2 A3 A4:Int)(A5:Bool)(A6:Int)(A7:List Nat)(A8:Int)(A9:Bool)(B0:zA)(B1:Bool)(B2:zA)(B3:Int)(B4:zA)(B5:Int)(B6:List Nat)(B7:Int)(B8:Bool)(B9:zA)(D0:Bool)(D1:zA)(D2:Int)(D3:zA):T:=
 .heavy (gI yA 24 1 [(0,(.agg [.str A0,.str A1,.int .i64 A2,.int .i64 A3,.int .i64 A4,.bool A5,.int .u8 A6,.str A7,.int .u8 A8,.bool A9,B0,.bool B1,B2,.int .i64 B3,B4,.int .u8 B5,.str B6,.int .u8 B7,.bool B8,B9,.bool D0,D1,.int .i64 D2,D3]))]) fun a0=>
 .ite (tC zA.one [.str [120],a0]) (.call 46 [.agg [.str [120],.nilslice,.nilslice,a0]] fun a1=>
 .asB a1 fun b2=>.ite (!b2)
 (.ret (.int .i64 140))
 (.ite (nC A3 A2)
 (.ret (.int .i64 144))
 (.call 23 [.agg [.int .u8 A6,.str A7,.int .u8 A8,.bool A9,B0,.bool B1,B2,.int .i64 B3,B4]] fun a3=>
 .asI .i64 a3 fun n4=>.ite (iB 200 n4)
 (.ret (.int .i64 5))
 (.call 23 [.agg [.int .u8 B5,.str B6,.int .u8 B7,.bool B8,B9,.bool D0,D1,.int .i64 D2,D3]] fun a5=>
 .asI .i64 a5 fun n6=>.ite (iB 200 n6)
 (.ret (.int .i64 5))
 (.opt (iC p0) fun a7=>.opt (tB yA 104 0 a7) fun a8=>.light (fun m=>oA yA 26 ⟨0,m⟩ a8) fun a9=>.asG zm5 a9 fun X10=>
 .heavy (bG yA 59) fun lF=>
 .call 19 [(.agg [.str (X10.s 0),X10.v 1,X10.v 2,X10.v 3]),.str A0] fun a12=>
 .opt (rB 0 a12) fun a13=>.asG zvs a13 fun X14=>
 .opt (rB 1 a12) fun a15=>.asB a15 fun b16=>.heavy (wD yA 59 lF (.agg [.str (X14.s 0),.int .u8 (X14.i 1),.bool (X14.b 2)])) fun _=>
 .ite (!b16)
 (.ret (.int .i64 141))
 (.opt (tB yA 59 2 lF) fun a17=>.light (fun m=>oA yA 4 ⟨0,m⟩ a17) fun a18=>.asB a18 fun b19=>.ite b19
 (.ret (.int .i64 141))
 (.ite A5
 (.ret (.int .i64 0))
 (.ite true (.opt (tB yA 59 1 lF) fun a20=>.light (fun m=>oA yA 5 ⟨0,m⟩ a20) fun a21=>.asI .u8 a21 fun n22=>.ite true (.ite true (.jump 2 [p0,.agg [.int .u8 A6,.str A7,.int .u8 A8,.bool A9,B0,.bool B1,B2,.int .i64 B3,B4,.int .u8 1,.int .u8 B5,.str B6,.int .u8 B7,.bool B8,B9,.bool D0,D1,.int .i64 D2,D3,.int .u8 n22],.int .i64 0]) .fail) .fail) .fail)))))))) .fail
def w34(p0:zA)(A0 A1:List Nat)(A2 A3 A4:Int)(A5:Bool)(A6:Int)(A7:List Nat)(A8:Int)(A9:Bool)(B0:zA)(B1:Bool)(B2:zA)(B3:Int)(B4:zA)(B5:Int)(B6:List Nat)(B7:Int)(B8:Bool)(B9:zA)(D0:Bool)(D1:zA)(D2:Int)(D3:zA)(h:wp 34 (t34 p0 A0 A1 A2 A3 A4 A5 A6 A7 A8 A9 B0 B1 B2 B3 B4 B5 B6 B7 B8 B9 D0 D1 D2 D3) m Q):Wf 34 [p0,.agg [.str A0,.str A1,.int .i64 A2,.int .i64 A3,.int .i64 A4,.bool A5,.int .u8 A6,.str A7,.int .u8 A8,.bool A9,B0,.bool B1,B2,.int .i64 B3,B4,.int .u8 B5,.str B6,.int .u8 B7,.bool B8,B9,.bool D0,D1,.int .i64 D2,D3]] m Q:=dB ok34 h
def t34_2(v0:zA)(A0:Int)(A1:List Nat)(A2:Int)(A3:Bool)(A4:zA)(A5:Bool)(A6:zA)(A7:Int)(A8:zA)(A9 B0:Int)(B1:List Nat)(B2:Int)(B3:Bool)(B4:zA)(B5:Bool)(B6:zA)(B7:Int)(B8:zA)(B9 v58:Int):T:=
 .ite (iB v58 2)
 (.opt (xJ yA 113 (.agg [.int .u8 A0,.str A1,.int .u8 A2,.bool A3,A4,.bool A5,A6,.int .i64 A7,A8,.int .u8 A9,.int .u8 B0,.str B1,.int .u8 B2,.bool B3,B4,.bool B5,B6,.int .i64 B7,B8,.int .u8 B9]) (.int .i64 v58)) fun a0=>.asG [.int .u8 0,.str [],.int .u8 0,.bool false,.nilslice,.bool false,.nilslice,.int .i64 0,.nilslice,.int .u8 0] a0 fun X1=>
 .ite (tC zA.one [.int .u8 (X1.i 0),.str (X1.s 1),.int .u8 (X1.i 2),.bool (X1.b 3),X1.v 4,.bool (X1.b 5),X1.v 6,.int .i64 (X1.i 7),X1.v 8,.int .u8 (X1.i 9)]) (.call 44 [v0,(.agg [.int .u8 (X1.i 0),.str (X1.s 1),.int .u8 (X1.i 2),.bool (X1.b 3),X1.v 4,.bool (X1.b 5),X1.v 6,.int .i64 (X1.i 7),X1.v 8])] fun a2=>
 .opt (rB 0 a2) fun a3=>.asI .u8 a3 fun n4=>.opt (rB 1 a2) fun a5=>.asI .i64 a5 fun n6=>.ite (!iA n6 0)
 (.ret (.int .i64 n6))
 (.ite (!iA n4 (X1.i 9))
 (.ret (.int .i64 142))
 (.jump 2 [v0,.agg [.int .u8 A0,.str A1,.int .u8 A2,.bool A3,A4,.bool A5,A6,.int .i64 A7,A8,.int .u8 A9,.int .u8 B0,.str B1,.int .u8 B2,.bool B3,B4,.bool B5,B6,.int .i64 B7,B8,.int .u8 B9],(.int .i64 (wA .i64 (v58+1)))]))) .fail)
 (.ret (.int .i64 0))
def z9u(v0:zA)(A0:Int)(A1:List Nat)(A2:Int)(A3:Bool)(A4:zA)(A5:Bool)(A6:zA)(A7:Int)(A8:zA)(A9 B0:Int)(B1:List Nat)(B2:Int)(B3:Bool)(B4:zA)(B5:Bool)(B6:zA)(B7:Int)(B8:zA)(B9 v58:Int)(h:wp 34 (t34_2 v0 A0 A1 A2 A3 A4 A5 A6 A7 A8 A9 B0 B1 B2 B3 B4 B5 B6 B7 B8 B9 v58) m Q):jp 34 2 [v0,.agg [.int .u8 A0,.str A1,.int .u8 A2,.bool A3,A4,.bool A5,A6,.int .i64 A7,A8,.int .u8 A9,.int .u8 B0,.str B1,.int .u8 B2,.bool B3,B4,.bool B5,B6,.int .i64 B7,B8,.int .u8 B9],.int .i64 v58] m Q:=vD ok34 h
def t40 (A0:List Nat)(A1 A2 A3:zA)(p1:List Nat):T:=
 .call 54 [.agg [.str A0,A1,A2,A3],.str p1] fun a0=>
 .opt (rB 0 a0) fun a1=>.asG zm6 a1 fun X2=>
 .opt (rB 1 a0) fun a3=>.asB a3 fun b4=>.ite (tC zA.one [.str (X2.s 0),.bool (X2.b 1),X2.v 2]) (.ite (!b4)
 (.ite true (.ite true (.ret (.tup [.agg [.str [],.bool false,.nilslice],.bool false])) .fail) .fail)
 (.opt (bB (X2.v 2)) fun a5=>.asI .i64 a5 fun n6=>.heavy (qL yA 79 (.int .i64 n6) (.int .i64 n6)) fun a7=>
 .opt (bB (X2.v 2)) fun a8=>.asI .i64 a8 fun n9=>.jump 2 [a7,X2.v 2,.int .i64 n9,.int .i64 0,.str [],.bool false,.nilslice,.str (X2.s 0),.bool (X2.b 1),X2.v 2])) .fail
def w40(A0:List Nat)(A1 A2 A3:zA)(p1:List Nat)(h:wp 40 (t40 A0 A1 A2 A3 p1) m Q):Wf 40 [.agg [.str A0,A1,A2,A3],.str p1] m Q:=dB ok40 h
def z8n(v8 v25:zA)(v26 v27:Int)(A0:List Nat)(A1:Bool)(A2:zA)(A3:List Nat)(A4:Bool)(A5:zA):T:=
 .ite (iB v27 v26)
 (.opt (mB yA 79 v25 (.int .i64 v27)) fun a0=>.light (fun m=>oA yA 84 ⟨0,m⟩ a0) fun a1=>.asG zz8z a1 fun X2=>
 .ite (tC zA.one [.int .i64 (X2.i 0),.int .i64 (X2.i 1),.int .i64 (X2.i 2),.bool (X2.b 3),X2.v 4,.bool (X2.b 5),X2.v 6]) (.call 55 [(.agg [.bool (X2.b 3),X2.v 4])] fun a3=>
 .asG zz6z a3 fun X4=>
 .ite (same 10 (.agg [.bool (X2.b 5),X2.v 6]) (.agg [.bool (X2.b 5),X2.v 6])) (.call 55 [(.agg [.bool (X2.b 5),X2.v 6])] fun a5=>
 .asG zz6z a5 fun X6=>
 .ite true (.ite (tC zA.one [.bool (X4.b 0),X4.v 1,.bool (X6.b 0),X6.v 1]) (.opt (mB yA 79 v8 (.int .i64 v27)) fun a7=>.heavy (wD yA 84 a7 (.agg [.int .i64 (X2.i 0),.int .i64 (X2.i 1),.int .i64 (X2.i 2),.bool (X4.b 0),X4.v 1,.bool (X6.b 0),X6.v 1])) fun _=>
 .jump 2 [v8,v25,.int .i64 v26,(.int .i64 (wA .i64 (v27+1))),.str A0,.bool A1,A2,.str A3,.bool A4,A5]) .fail) .fail) .fail) .fail)
 (.ite (tC zA.one [v8]) (.ite (tC zA.one [.str A3,.bool A4,v8]) (.ret (.tup [.agg [.str A3,.bool A4,v8],.bool true])) .fail) .fail)
def j40_2(v8 v25:zA)(v26 v27:Int)(A0:List Nat)(A1:Bool)(A2:zA)(A3:List Nat)(A4:Bool)(A5:zA)(h:wp 40 (z8n v8 v25 v26 v27 A0 A1 A2 A3 A4 A5) m Q):jp 40 2 [v8,v25,.int .i64 v26,.int .i64 v27,.str A0,.bool A1,A2,.str A3,.bool A4,A5] m Q:=vD ok40 h
def t43 (A0:Int)(A1:List Nat)(A2:Int)(A3:Bool)(A4:zA)(A5:Bool)(A6:zA)(A7:Int)(A8:zA):T:=
 .call 63 [] fun a0=>
 .asG [.nilptr] a0 fun X1=>
 .ite (same 10 (.agg [.int .u8 A0,.str A1,.int .u8 A2,.bool A3,A4,.bool A5,A6,.int .i64 A7,A8]) (.agg [.int .u8 A0,.str A1,.int .u8 A2,.bool A3,A4,.bool A5,A6,.int .i64 A7,A8])) (.call 64 [(.agg [X1.v 0]),.agg [.int .u8 A0,.str A1,.int .u8 A2,.bool A3,A4,.bool A5,A6,.int .i64 A7,A8],.int .i64 1] fun a2=>
 .asB a2 fun b3=>.ite (!b3)
 (.ret (.tup [.str [],.int .i64 2]))
 (.call 65 [.agg [.int .u8 A0,.str A1,.int .u8 A2,.bool A3,A4,.bool A5,A6,.int .i64 A7,A8]] fun a4=>
 .asS a4 fun s5=>.ite (iB 65536 (Int.ofNat (yB s5)))
 (.ret (.tup [.str [],.int .i64 3]))
 (.ret (.tup [.str s5,.int .i64 0])))) .fail
def w43(A0:Int)(A1:List Nat)(A2:Int)(A3:Bool)(A4:zA)(A5:Bool)(A6:zA)(A7:Int)(A8:zA)(h:wp 43 (t43 A0 A1 A2 A3 A4 A5 A6 A7 A8) m Q):Wf 43 [.agg [.int .u8 A0,.str A1,.int .u8 A2,.bool A3,A4,.bool A5,A6,.int .i64 A7,A8]] m Q:=dB ok43 h
def t44 (p0:zA)(A0:Int)(A1:List Nat)(A2:Int)(A3:Bool)(A4:zA)(A5:Bool)(A6:zA)(A7:Int)(A8:zA):T:=
 .heavy (bG yA 137) fun a0=>
 .opt (bB A8) fun a1=>.asI .i64 a1 fun n2=>.jump 2 [p0,a0,A8,.int .i64 n2,.int .i64 0,.int .u8 A0,.str A1,.int .u8 A2,.bool A3,A4,.bool A5,A6,.int .i64 A7,A8]
def w44(p0:zA)(A0:Int)(A1:List Nat)(A2:Int)(A3:Bool)(A4:zA)(A5:Bool)(A6:zA)(A7:Int)(A8:zA)(h:wp 44 (t44 p0 A0 A1 A2 A3 A4 A5 A6 A7 A8) m Q):Wf 44 [p0,.agg [.int .u8 A0,.str A1,.int .u8 A2,.bool A3,A4,.bool A5,A6,.int .i64 A7,A8]] m Q:=dB ok44 h
def z8m(v0 v6 v17:zA)(v18 v19 A0:Int)(A1:List Nat)(A2:Int)(A3:Bool)(A4:zA)(A5:Bool)(A6:zA)(A7:Int)(A8:zA):T:=
 .ite (iB v19 v18)
 (.opt (mB yA 34 v17 (.int .i64 v19)) fun a0=>.light (fun m=>oA yA 36 ⟨0,m⟩ a0) fun a1=>.asG z19 a1 fun X2=>
 .ite (tC zA.one [.int .u8 (X2.i 0),.str (X2.s 1),.int .u8 (X2.i 2),.bool (X2.b 3),X2.v 4,.bool (X2.b 5),X2.v 6,.int .i64 (X2.i 7),X2.v 8]) (.call 44 [v0,(.agg [.int .u8 (X2.i 0),.str (X2.s 1),.int .u8 (X2.i 2),.bool (X2.b 3),X2.v 4,.bool (X2.b 5),X2.v 6,.int .i64 (X2.i 7),X2.v 8])] fun a3=>
 .opt (rB 0 a3) fun a4=>.asI .u8 a4 fun n5=>.opt (rB 1 a3) fun a6=>.asI .i64 a6 fun n7=>.ite (!iA n7 0)
 (.ret (.tup [.int .u8 0,.int .i64 n7]))
 (.opt (mB yA 137 v6 (.int .i64 v19)) fun a8=>.heavy (wD yA 5 a8 (.int .u8 n5)) fun _=>
 .jump 2 [v0,v6,v17,.int .i64 v18,(.int .i64 (wA .i64 (v19+1))),.int .u8 A0,.str A1,.int .u8 A2,.bool A3,A4,.bool A5,A6,.int .i64 A7,A8])) .fail)
 (.call 66 [v0,.agg [.int .u8 A0,.str A1,.int .u8 A2,.bool A3,A4,.bool A5,A6,.int .i64 A7,A8]] fun a9=>
 .opt (rB 0 a9) fun a10=>.asI .u8 a10 fun n11=>.opt (rB 1 a9) fun a12=>.asB a12 fun b13=>.ite (!b13)
 (.ret (.tup [.int .u8 0,.int .i64 141]))
 (.opt (mB yA 137 v6 (.int .i64 0)) fun a14=>.light (fun m=>oA yA 5 ⟨0,m⟩ a14) fun a15=>.asI .u8 a15 fun n16=>.opt (mB yA 137 v6 (.int .i64 1)) fun a17=>.light (fun m=>oA yA 5 ⟨0,m⟩ a17) fun a18=>.asI .u8 a18 fun n19=>.opt (mB yA 137 v6 (.int .i64 2)) fun a20=>.light (fun m=>oA yA 5 ⟨0,m⟩ a20) fun a21=>.asI .u8 a21 fun n22=>.ite true (.ite true (.ite (iA A0 1)
 (.ret (.tup [.int .u8 A2,.int .i64 0]))
 (.ite (iA A0 3)
 (.ite (iA A0 3)
 (.opt (mB yA 137 v6 (.int .i64 0)) fun a23=>.light (fun m=>oA yA 5 ⟨0,m⟩ a23) fun a24=>.asI .u8 a24 fun n25=>.jump 59 [(.bool (iA n25 4)),.int .u8 n11])
 (.ite (iA A0 21)
 (.opt (iC v0) fun a26=>.opt (tB yA 104 1 a26) fun a27=>.light (fun m=>oA yA 100 ⟨0,m⟩ a27) fun a28=>.light (fun m=>xH yA 100 ⟨0,m⟩ a28 (.agg [.int .u8 A0,.int .u8 n16,.int .u8 n19,.int .u8 n22]) true) fun a29=>.opt (rB 0 a29) fun a30=>.asI .u8 a30 fun n31=>.opt (rB 1 a29) fun a32=>.asB a32 fun b33=>.ite b33
 (.jump 59 [(.bool (iA n11 2)),.int .u8 n31])
 (.jump 59 [.bool false,.int .u8 n31]))
 (.ite (iA A0 22)
 (.opt (iC v0) fun a34=>.opt (tB yA 104 1 a34) fun a35=>.light (fun m=>oA yA 100 ⟨0,m⟩ a35) fun a36=>.light (fun m=>xH yA 100 ⟨0,m⟩ a36 (.agg [.int .u8 A0,.int .u8 n16,.int .u8 n19,.int .u8 n22]) true) fun a37=>.opt (rB 0 a37) fun a38=>.asI .u8 a38 fun n39=>.opt (rB 1 a37) fun a40=>.asB a40 fun b41=>.ite b41
 (.jump 59 [(.bool (iA n11 3)),.int .u8 n39])
 (.jump 59 [.bool false,.int .u8 n39]))
 (.opt (iC v0) fun a42=>.opt (tB yA 104 1 a42) fun a43=>.light (fun m=>oA yA 100 ⟨0,m⟩ a43) fun a44=>.light (fun m=>xH yA 100 ⟨0,m⟩ a44 (.agg [.int .u8 A0,.int .u8 n16,.int .u8 n19,.int .u8 n22]) true) fun a45=>.opt (rB 0 a45) fun a46=>.asI .u8 a46 fun n47=>.opt (rB 1 a45) fun a48=>.asB a48 fun b49=>.jump 59 [.bool b49,.int .u8 n47]))))
 (.ite (iA A0 5)
 (.opt (mB yA 137 v6 (.int .i64 0)) fun a50=>.light (fun m=>oA yA 5 ⟨0,m⟩ a50) fun a51=>.asI .u8 a51 fun n52=>.jump 59 [(.bool (iA n52 4)),.int .u8 n11])
 (.ite (iA A0 21)
 (.opt (iC v0) fun a53=>.opt (tB yA 104 1 a53) fun a54=>.light (fun m=>oA yA 100 ⟨0,m⟩ a54) fun a55=>.light (fun m=>xH yA 100 ⟨0,m⟩ a55 (.agg [.int .u8 A0,.int .u8 n16,.int .u8 n19,.int .u8 n22]) true) fun a56=>.opt (rB 0 a56) fun a57=>.asI .u8 a57 fun n58=>.opt (rB 1 a56) fun a59=>.asB a59 fun b60=>.ite b60
 (.jump 59 [(.bool (iA n11 2)),.int .u8 n58])
 (.jump 59 [.bool false,.int .u8 n58]))
 (.ite (iA A0 22)
 (.opt (iC v0) fun a61=>.opt (tB yA 104 1 a61) fun a62=>.light (fun m=>oA yA 100 ⟨0,m⟩ a62) fun a63=>.light (fun m=>xH yA 100 ⟨0,m⟩ a63 (.agg [.int .u8 A0,.int .u8 n16,.int .u8 n19,.int .u8 n22]) true) fun a64=>.opt (rB 0 a64) fun a65=>.asI .u8 a65 fun n66=>.opt (rB 1 a64) fun a67=>.asB a67 fun b68=>.ite b68
 (.jump 59 [(.bool (iA n11 3)),.int .u8 n66])
 (.jump 59 [.bool false,.int .u8 n66]))
 (.opt (iC v0) fun a69=>.opt (tB yA 104 1 a69) fun a70=>.light (fun m=>oA yA 100 ⟨0,m⟩ a70) fun a71=>.light (fun m=>xH yA 100 ⟨0,m⟩ a71 (.agg [.int .u8 A0,.int .u8 n16,.int .u8 n19,.int .u8 n22]) true) fun a72=>.opt (rB 0 a72) fun a73=>.asI .u8 a73 fun n74=>.opt (rB 1 a72) fun a75=>.asB a75 fun b76=>.jump 59 [.bool b76,.int .u8 n74])))))) .fail) .fail))
def j44_2(v0 v6 v17:zA)(v18 v19 A0:Int)(A1:List Nat)(A2:Int)(A3:Bool)(A4:zA)(A5:Bool)(A6:zA)(A7:Int)(A8:zA)(h:wp 44 (z8m v0 v6 v17 v18 v19 A0 A1 A2 A3 A4 A5 A6 A7 A8) m Q):jp 44 2 [v0,v6,v17,.int .i64 v18,.int .i64 v19,.int .u8 A0,.str A1,.int .u8 A2,.bool A3,A4,.bool A5,A6,.int .i64 A7,A8] m Q:=vD ok44 h
def z6l(v14:Bool)(v15:Int):T:=
 .ite (!v14)
 (.ret (.tup [.int .u8 0,.int .i64 142]))
 (.ret (.tup [.int .u8 v15,.int .i64 0]))
def j44_59(v14:Bool)(v15:Int)(h:wp 44 (z6l v14 v15) m Q):jp 44 59 [.bool v14,.int .u8 v15] m Q:=vD ok44 h
def t46 (A0:List Nat)(A1 A2 A3:zA):T:=
 .call 63 [] fun a0=>
 .asG [.nilptr] a0 fun X1=>
 .ite (same 10 (.agg [.str A0,A1,A2,A3]) (.agg [.str A0,A1,A2,A3])) (.call 68 [(.agg [X1.v 0]),.agg [.str A0,A1,A2,A3]] fun a2=>
 .asB a2 fun b3=>.ret (.bool b3)) .fail
def w46(A0:List Nat)(A1 A2 A3:zA)(h:wp 46 (t46 A0 A1 A2 A3) m Q):Wf 46 [.agg [.str A0,A1,A2,A3]] m Q:=dB ok46 h
def t47 (p0 p1:zA):T:=
 .heavy tT fun a0=>
 .opt (bB p0) fun a1=>.asI .i64 a1 fun n2=>.jump 2 [p1,a0,p0,.int .i64 n2,.int .i64 0]
def w47(p0 p1:zA)(h:wp 47 (t47 p0 p1) m Q):Wf 47 [p0,p1] m Q:=dB ok47 h
def t47_2(v1 v5 v9:zA)(v10 v11:Int):T:=
 .ite (iB v11 v10)
 (.opt (mB yA 22 v9 (.int .i64 v11)) fun a0=>.light (fun m=>oA yA 59 ⟨0,m⟩ a0) fun a1=>.asG zvs a1 fun X2=>
 .ite true (.callv v1 [(.agg [.str (X2.s 0),.int .u8 (X2.i 1),.bool (X2.b 2)])] fun a3=>
 .asS a3 fun s4=>.light (fun m=>xH yA 140 ⟨0,m⟩ v5 (.str s4) false) fun a5=>.asB a5 fun b6=>.ite b6
 (.ret (.bool true))
 (.callv v1 [(.agg [.str (X2.s 0),.int .u8 (X2.i 1),.bool (X2.b 2)])] fun a7=>
 .asS a7 fun s8=>.heavy (aH yA 140 v5 (.str s8) (.bool true)) fun _=>
 .jump 2 [v1,v5,v9,.int .i64 v10,(.int .i64 (wA .i64 (v11+1)))])) .fail)
 (.ret (.bool false))
def j47_2(v1 v5 v9:zA)(v10 v11:Int)(h:wp 47 (t47_2 v1 v5 v9 v10 v11) m Q):jp 47 2 [v1,v5,v9,.int .i64 v10,.int .i64 v11] m Q:=vD ok47 h
def t48 (A0:List Nat)(A1:Int)(A2:Bool):T:=
 .ret (.str A0)
def w48(A0:List Nat)(A1:Int)(A2:Bool)(h:wp 48 (t48 A0 A1 A2) m Q):Wf 48 [.agg [.str A0,.int .u8 A1,.bool A2]] m Q:=dB ok48 h
def t49 (p0 p1:zA):T:=
 .heavy tT fun a0=>
 .opt (bB p0) fun a1=>.asI .i64 a1 fun n2=>.jump 2 [p1,a0,p0,.int .i64 n2,.int .i64 0]
def w49(p0 p1:zA)(h:wp 49 (t49 p0 p1) m Q):Wf 49 [p0,p1] m Q:=dB ok49 h
def t49_2(v1 v5 v9:zA)(v10 v11:Int):T:=
 .ite (iB v11 v10)
 (.opt (mB yA 23 v9 (.int .i64 v11)) fun a0=>.light (fun m=>oA yA 81 ⟨0,m⟩ a0) fun a1=>.asG zm6 a1 fun X2=>
 .ite (tC zA.one [.str (X2.s 0),.bool (X2.b 1),X2.v 2]) (.callv v1 [(.agg [.str (X2.s 0),.bool (X2.b 1),X2.v 2])] fun a3=>
 .asS a3 fun s4=>.light (fun m=>xH yA 140 ⟨0,m⟩ v5 (.str s4) false) fun a5=>.asB a5 fun b6=>.ite b6
 (.ret (.bool true))
 (.callv v1 [(.agg [.str (X2.s 0),.bool (X2.b 1),X2.v 2])] fun a7=>
 .asS a7 fun s8=>.heavy (aH yA 140 v5 (.str s8) (.bool true)) fun _=>
 .jump 2 [v1,v5,v9,.int .i64 v10,(.int .i64 (wA .i64 (v11+1)))])) .fail)
 (.ret (.bool false))
def j49_2(v1 v5 v9:zA)(v10 v11:Int)(h:wp 49 (t49_2 v1 v5 v9 v10 v11) m Q):jp 49 2 [v1,v5,v9,.int .i64 v10,.int .i64 v11] m Q:=vD ok49 h
def t50 (A0:List Nat)(A1:Bool)(A2:zA):T:=
 .ret (.str A0)
def w50(A0:List Nat)(A1:Bool)(A2:zA)(h:wp 50 (t50 A0 A1 A2) m Q):Wf 50 [.agg [.str A0,.bool A1,A2]] m Q:=dB ok50 h
def t54 (A0:List Nat)(A1 A2 A3:zA)(p1:List Nat):T:=
 .opt (bB A2) fun a0=>.asI .i64 a0 fun n1=>.jump 2 [.str p1,A2,.int .i64 n1,.int .i64 0,.str [],.bool false,.nilslice]
def w54(A0:List Nat)(A1 A2 A3:zA)(p1:List Nat)(h:wp 54 (t54 A0 A1 A2 A3 p1) m Q):Wf 54 [.agg [.str A0,A1,A2,A3],.str p1] m Q:=dB ok54 h
def t54_2(v1:List Nat)(v9:zA)(v10 v11:Int)(A0:List Nat)(A1:Bool)(A2:zA):T:=
 .ite (iB v11 v10)
 (.opt (mB yA 23 v9 (.int .i64 v11)) fun a0=>.light (fun m=>oA yA 81 ⟨0,m⟩ a0) fun a1=>.asG zm6 a1 fun X2=>
 .ite (tC zA.one [.str (X2.s 0),.bool (X2.b 1),X2.v 2]) (.ite (xF (X2.s 0) v1)
 (.ite (tC zA.one [.str (X2.s 0),.bool (X2.b 1),X2.v 2]) (.ret (.tup [(.agg [.str (X2.s 0),.bool (X2.b 1),X2.v 2]),.bool true])) .fail)
 (.jump 2 [.str v1,v9,.int .i64 v10,(.int .i64 (wA .i64 (v11+1))),.str A0,.bool A1,A2])) .fail)
 (.ite true (.ite true (.ret (.tup [.agg [.str [],.bool false,.nilslice],.bool false])) .fail) .fail)
def z9t(v1:List Nat)(v9:zA)(v10 v11:Int)(A0:List Nat)(A1:Bool)(A2:zA)(h:wp 54 (t54_2 v1 v9 v10 v11 A0 A1 A2) m Q):jp 54 2 [.str v1,v9,.int .i64 v10,.int .i64 v11,.str A0,.bool A1,A2] m Q:=vD ok54 h
def t55 (A0:Bool)(A1:zA):T:=
 .heavy (cG yA 27 27 .nilslice A1) fun a0=>
 .ite (tC zA.one [a0]) (.ite (tC zA.one [.bool A0,a0]) (.ret (.agg [.bool A0,a0])) .fail) .fail
def w55(A0:Bool)(A1:zA)(h:wp 55 (t55 A0 A1) m Q):Wf 55 [.agg [.bool A0,A1]] m Q:=dB ok55 h
def t63  : T:=
 .call 83 [] fun a0=>
 .ite (tC zA.one [a0]) (.ite (tC zA.one [a0]) (.ret (.agg [a0])) .fail) .fail
def w63 (h:wp 63 (t63 ) m Q):Wf 63 [] m Q:=dB ok63 h
def t64 (A0:zA)(A1:Int)(A2:List Nat)(A3:Int)(A4:Bool)(A5:zA)(A6:Bool)(A7:zA)(A8:Int)(A9:zA)(p2:Int):T:=
 .ite (iB 24 p2)
 (.ret (.bool false))
 (.ite (nC 27 (wA .i64 A1))
 (.ret (.bool false))
 (.opt (iC A0) fun a0=>.opt (mB yA 188 a0 (.int .u8 A1)) fun a1=>.opt (iC a1) fun a2=>.opt (tB yA 159 0 a2) fun a3=>.light (fun m=>oA yA 5 ⟨0,m⟩ a3) fun a4=>.asI .u8 a4 fun n5=>.ite (iA n5 0)
 (.ret (.bool false))
 (.opt (bB A9) fun a6=>.asI .i64 a6 fun n7=>.opt (iC a1) fun a8=>.opt (tB yA 159 3 a8) fun a9=>.light (fun m=>oA yA 3 ⟨0,m⟩ a9) fun a10=>.asI .i64 a10 fun n11=>.ite (iB n7 n11)
 (.ret (.bool false))
 (.opt (bB A9) fun a12=>.asI .i64 a12 fun n13=>.opt (iC a1) fun a14=>.opt (tB yA 159 4 a14) fun a15=>.light (fun m=>oA yA 3 ⟨0,m⟩ a15) fun a16=>.asI .i64 a16 fun n17=>.ite (iB n17 n13)
 (.ret (.bool false))
 (.opt (iC a1) fun a18=>.opt (tB yA 159 2 a18) fun a19=>.light (fun m=>oA yA 4 ⟨0,m⟩ a19) fun a20=>.asB a20 fun b21=>.ite b21
 (.call 84 [.str A2] fun a22=>
 .asB a22 fun b23=>.ite (!b23)
 (.ret (.bool false))
 (.opt (iC a1) fun a24=>.opt (tB yA 159 2 a24) fun a25=>.light (fun m=>oA yA 4 ⟨0,m⟩ a25) fun a26=>.asB a26 fun b27=>.ite (!b27)
 (.ite (!xF A2 [])
 (.ret (.bool false))
 (.ite (tC zA.one [.int .u8 A3,.bool A4,A5,.bool A6,A7,.int .i64 A8]) (.ite (iA A1 1)
 (.call 85 [.agg [.int .u8 A3,.bool A4,A5,.bool A6,A7,.int .i64 A8]] fun a28=>
 .asB a28 fun b29=>.ret (.bool b29))
 (.ite (iA A1 19)
 (.ite (iB A8 1)
 (.ret (.bool false))
 (.ite (iB 6 A8)
 (.ret (.bool false))
 (.ite true (.jump 33 [.int .i64 p2,A0,.int .u8 A1,.str A2,.int .u8 A3,.bool A4,A5,.bool A6,A7,.int .i64 A8,A9,.int .u8 A3,.bool A4,A5,.bool A6,A7,.int .i64 0]) .fail)))
 (.jump 33 [.int .i64 p2,A0,.int .u8 A1,.str A2,.int .u8 A3,.bool A4,A5,.bool A6,A7,.int .i64 A8,A9,.int .u8 A3,.bool A4,A5,.bool A6,A7,.int .i64 A8]))) .fail))
 (.ite (tC zA.one [.int .u8 A3,.bool A4,A5,.bool A6,A7,.int .i64 A8]) (.ite (iA A1 1)
 (.call 85 [.agg [.int .u8 A3,.bool A4,A5,.bool A6,A7,.int .i64 A8]] fun a30=>
 .asB a30 fun b31=>.ret (.bool b31))
 (.ite (iA A1 19)
 (.ite (iB A8 1)
 (.ret (.bool false))
 (.ite (iB 6 A8)
 (.ret (.bool false))
 (.ite true (.jump 33 [.int .i64 p2,A0,.int .u8 A1,.str A2,.int .u8 A3,.bool A4,A5,.bool A6,A7,.int .i64 A8,A9,.int .u8 A3,.bool A4,A5,.bool A6,A7,.int .i64 0]) .fail)))
 (.jump 33 [.int .i64 p2,A0,.int .u8 A1,.str A2,.int .u8 A3,.bool A4,A5,.bool A6,A7,.int .i64 A8,A9,.int .u8 A3,.bool A4,A5,.bool A6,A7,.int .i64 A8]))) .fail)))
 (.opt (iC a1) fun a32=>.opt (tB yA 159 2 a32) fun a33=>.light (fun m=>oA yA 4 ⟨0,m⟩ a33) fun a34=>.asB a34 fun b35=>.ite (!b35)
 (.ite (!xF A2 [])
 (.ret (.bool false))
 (.ite (tC zA.one [.int .u8 A3,.bool A4,A5,.bool A6,A7,.int .i64 A8]) (.ite (iA A1 1)
 (.call 85 [.agg [.int .u8 A3,.bool A4,A5,.bool A6,A7,.int .i64 A8]] fun a36=>
 .asB a36 fun b37=>.ret (.bool b37))
 (.ite (iA A1 19)
 (.ite (iB A8 1)
 (.ret (.bool false))
 (.ite (iB 6 A8)
 (.ret (.bool false))
 (.ite true (.jump 33 [.int .i64 p2,A0,.int .u8 A1,.str A2,.int .u8 A3,.bool A4,A5,.bool A6,A7,.int .i64 A8,A9,.int .u8 A3,.bool A4,A5,.bool A6,A7,.int .i64 0]) .fail)))
 (.jump 33 [.int .i64 p2,A0,.int .u8 A1,.str A2,.int .u8 A3,.bool A4,A5,.bool A6,A7,.int .i64 A8,A9,.int .u8 A3,.bool A4,A5,.bool A6,A7,.int .i64 A8]))) .fail))
 (.ite (tC zA.one [.int .u8 A3,.bool A4,A5,.bool A6,A7,.int .i64 A8]) (.ite (iA A1 1)
 (.call 85 [.agg [.int .u8 A3,.bool A4,A5,.bool A6,A7,.int .i64 A8]] fun a38=>
 .asB a38 fun b39=>.ret (.bool b39))
 (.ite (iA A1 19)
 (.ite (iB A8 1)
 (.ret (.bool false))
 (.ite (iB 6 A8)
 (.ret (.bool false))
 (.ite true (.jump 33 [.int .i64 p2,A0,.int .u8 A1,.str A2,.int .u8 A3,.bool A4,A5,.bool A6,A7,.int .i64 A8,A9,.int .u8 A3,.bool A4,A5,.bool A6,A7,.int .i64 0]) .fail)))
 (.jump 33 [.int .i64 p2,A0,.int .u8 A1,.str A2,.int .u8 A3,.bool A4,A5,.bool A6,A7,.int .i64 A8,A9,.int .u8 A3,.bool A4,A5,.bool A6,A7,.int .i64 A8]))) .fail)))))))
def w64(A0:zA)(A1:Int)(A2:List Nat)(A3:Int)(A4:Bool)(A5:zA)(A6:Bool)(A7:zA)(A8:Int)(A9:zA)(p2:Int)(h:wp 64 (t64 A0 A1 A2 A3 A4 A5 A6 A7 A8 A9 p2) m Q):Wf 64 [.agg [A0],.agg [.int .u8 A1,.str A2,.int .u8 A3,.bool A4,A5,.bool A6,A7,.int .i64 A8,A9],.int .i64 p2] m Q:=dB ok64 h
def z6k(v2:Int)(A0:zA)(A1:Int)(A2:List Nat)(A3:Int)(A4:Bool)(A5:zA)(A6:Bool)(A7:zA)(A8:Int)(A9:zA)(B0:Int)(B1:Bool)(B2:zA)(B3:Bool)(B4:zA)(B5:Int):T:=
 .call 86 [.agg [.int .u8 B0,.bool B1,B2,.bool B3,B4,.int .i64 B5]] fun a0=>
 .asB a0 fun b1=>.ite (!b1)
 (.ret (.bool false))
 (.opt (bB A9) fun a2=>.asI .i64 a2 fun n3=>.jump 4 [.int .i64 v2,A9,.int .i64 n3,.int .i64 0,A0])
def j64_33(v2:Int)(A0:zA)(A1:Int)(A2:List Nat)(A3:Int)(A4:Bool)(A5:zA)(A6:Bool)(A7:zA)(A8:Int)(A9:zA)(B0:Int)(B1:Bool)(B2:zA)(B3:Bool)(B4:zA)(B5:Int)(h:wp 64 (z6k v2 A0 A1 A2 A3 A4 A5 A6 A7 A8 A9 B0 B1 B2 B3 B4 B5) m Q):jp 64 33 [.int .i64 v2,A0,.int .u8 A1,.str A2,.int .u8 A3,.bool A4,A5,.bool A6,A7,.int .i64 A8,A9,.int .u8 B0,.bool B1,B2,.bool B3,B4,.int .i64 B5] m Q:=vD ok64 h
def z8l(v2:Int)(v95:zA)(v96 v97:Int)(A0:zA):T:=
 .ite (iB v97 v96)
 (.opt (mB yA 34 v95 (.int .i64 v97)) fun a0=>.light (fun m=>oA yA 36 ⟨0,m⟩ a0) fun a1=>.asG z19 a1 fun X2=>
 .ite (tC zA.one [.int .u8 (X2.i 0),.str (X2.s 1),.int .u8 (X2.i 2),.bool (X2.b 3),X2.v 4,.bool (X2.b 5),X2.v 6,.int .i64 (X2.i 7),X2.v 8]) (.call 64 [.agg [A0],(.agg [.int .u8 (X2.i 0),.str (X2.s 1),.int .u8 (X2.i 2),.bool (X2.b 3),X2.v 4,.bool (X2.b 5),X2.v 6,.int .i64 (X2.i 7),X2.v 8]),(.int .i64 (wA .i64 (v2+1)))] fun a3=>
 .asB a3 fun b4=>.ite (!b4)
 (.ret (.bool false))
 (.jump 4 [.int .i64 v2,v95,.int .i64 v96,(.int .i64 (wA .i64 (v97+1))),A0])) .fail)
 (.ret (.bool true))
def j64_4(v2:Int)(v95:zA)(v96 v97:Int)(A0:zA)(h:wp 64 (z8l v2 v95 v96 v97 A0) m Q):jp 64 4 [.int .i64 v2,v95,.int .i64 v96,.int .i64 v97,A0] m Q:=vD ok64 h
def t65 (A0:Int)(A1:List Nat)(A2:Int)(A3:Bool)(A4:zA)(A5:Bool)(A6:zA)(A7:Int)(A8:zA):T:=
 .call 83 [] fun a0=>
 .ite (tC zA.one [a0]) (.heavy (zs9 yA 166 (.agg [.nilptr,.nilslice,a0])) fun a1=>
 .call 87 [a1,.agg [.int .u8 A0,.str A1,.int .u8 A2,.bool A3,A4,.bool A5,A6,.int .i64 A7,A8]] fun a2=>
 .opt (iC a1) fun a3=>.opt (tB yA 166 0 a3) fun a4=>.call 88 [a4] fun a5=>
 .asS a5 fun s6=>.ret (.str s6)) .fail
def w65(A0:Int)(A1:List Nat)(A2:Int)(A3:Bool)(A4:zA)(A5:Bool)(A6:zA)(A7:Int)(A8:zA)(h:wp 65 (t65 A0 A1 A2 A3 A4 A5 A6 A7 A8) m Q):Wf 65 [.agg [.int .u8 A0,.str A1,.int .u8 A2,.bool A3,A4,.bool A5,A6,.int .i64 A7,A8]] m Q:=dB ok65 h
def t66 (p0:zA)(A0:Int)(A1:List Nat)(A2:Int)(A3:Bool)(A4:zA)(A5:Bool)(A6:zA)(A7:Int)(A8:zA):T:=
 .ite (iA A0 3)
 (.ite (iA A0 3)
 (.opt (iC p0) fun a0=>.opt (tB yA 104 0 a0) fun a1=>.light (fun m=>oA yA 26 ⟨0,m⟩ a1) fun a2=>.asG zm5 a2 fun X3=>
 .heavy (bG yA 59) fun a4=>
 .call 19 [(.agg [.str (X3.s 0),X3.v 1,X3.v 2,X3.v 3]),.str A1] fun a5=>
 .opt (rB 0 a5) fun a6=>.asG zvs a6 fun X7=>
 .opt (rB 1 a5) fun a8=>.asB a8 fun b9=>.heavy (wD yA 59 a4 (.agg [.str (X7.s 0),.int .u8 (X7.i 1),.bool (X7.b 2)])) fun _=>
 .ite b9
 (.opt (tB yA 59 2 a4) fun a10=>.light (fun m=>oA yA 4 ⟨0,m⟩ a10) fun lF=>.asB lF fun b12=>.opt (tB yA 59 1 a4) fun a13=>.light (fun m=>oA yA 5 ⟨0,m⟩ a13) fun a14=>.asI .u8 a14 fun n15=>.ite (cF b12 (!iA A0 5))
 (.opt (tB yA 59 1 a4) fun a16=>.light (fun m=>oA yA 5 ⟨0,m⟩ a16) fun a17=>.asI .u8 a17 fun n18=>.ite (nC 1 n18)
 (.opt (tB yA 59 1 a4) fun a19=>.light (fun m=>oA yA 5 ⟨0,m⟩ a19) fun a20=>.asI .u8 a20 fun n21=>.ret (.tup [.int .u8 n15,(.bool (nC n21 6))]))
 (.ret (.tup [.int .u8 n15,.bool false])))
 (.ret (.tup [.int .u8 n15,.bool false])))
 (.opt (tB yA 59 1 a4) fun a22=>.light (fun m=>oA yA 5 ⟨0,m⟩ a22) fun a23=>.asI .u8 a23 fun n24=>.ret (.tup [.int .u8 n24,.bool false])))
 (.ite (iA A0 6)
 (.opt (iC p0) fun a25=>.opt (tB yA 104 0 a25) fun a26=>.light (fun m=>oA yA 26 ⟨0,m⟩ a26) fun a27=>.asG zm5 a27 fun X28=>
 .heavy (bG yA 81) fun a29=>
 .call 54 [(.agg [.str (X28.s 0),X28.v 1,X28.v 2,X28.v 3]),.str A1] fun a30=>
 .opt (rB 0 a30) fun a31=>.asG zm6 a31 fun X32=>
 .opt (rB 1 a30) fun a33=>.asB a33 fun b34=>.heavy (wD yA 81 a29 (.agg [.str (X32.s 0),.bool (X32.b 1),X32.v 2])) fun _=>
 .ite b34
 (.opt (tB yA 81 1 a29) fun a35=>.light (fun m=>oA yA 4 ⟨0,m⟩ a35) fun a36=>.asB a36 fun b37=>.opt (bB A8) fun a38=>.asI .i64 a38 fun n39=>.ret (.tup [.int .u8 0,(.bool (cF b37 (iA n39 2)))]))
 (.ret (.tup [.int .u8 0,.bool false])))
 (.ite (iA A0 23)
 (.opt (iC p0) fun a40=>.opt (tB yA 104 0 a40) fun a41=>.light (fun m=>oA yA 26 ⟨0,m⟩ a41) fun a42=>.asG zm5 a42 fun X43=>
 .heavy (bG yA 81) fun a44=>
 .call 54 [(.agg [.str (X43.s 0),X43.v 1,X43.v 2,X43.v 3]),.str A1] fun a45=>
 .opt (rB 0 a45) fun a46=>.asG zm6 a46 fun X47=>
 .opt (rB 1 a45) fun a48=>.asB a48 fun b49=>.heavy (wD yA 81 a44 (.agg [.str (X47.s 0),.bool (X47.b 1),X47.v 2])) fun _=>
 .ite b49
 (.opt (tB yA 81 1 a44) fun a50=>.light (fun m=>oA yA 4 ⟨0,m⟩ a50) fun a51=>.asB a51 fun b52=>.ret (.tup [.int .u8 0,(.bool (!b52))]))
 (.ret (.tup [.int .u8 0,.bool false])))
 (.ret (.tup [.int .u8 0,.bool true])))))
 (.ite (iA A0 4)
 (.ite (iA A0 4)
 (.opt (iC p0) fun a53=>.opt (tB yA 104 0 a53) fun a54=>.light (fun m=>oA yA 26 ⟨0,m⟩ a54) fun a55=>.asG zm5 a55 fun X56=>
 .heavy (bG yA 59) fun a57=>
 .call 19 [(.agg [.str (X56.s 0),X56.v 1,X56.v 2,X56.v 3]),.str A1] fun a58=>
 .opt (rB 0 a58) fun a59=>.asG zvs a59 fun X60=>
 .opt (rB 1 a58) fun a61=>.asB a61 fun b62=>.heavy (wD yA 59 a57 (.agg [.str (X60.s 0),.int .u8 (X60.i 1),.bool (X60.b 2)])) fun _=>
 .ite b62
 (.opt (tB yA 59 2 a57) fun a63=>.light (fun m=>oA yA 4 ⟨0,m⟩ a63) fun a64=>.asB a64 fun b65=>.opt (tB yA 59 1 a57) fun a66=>.light (fun m=>oA yA 5 ⟨0,m⟩ a66) fun a67=>.asI .u8 a67 fun n68=>.ite (cF b65 (!iA A0 5))
 (.opt (tB yA 59 1 a57) fun a69=>.light (fun m=>oA yA 5 ⟨0,m⟩ a69) fun a70=>.asI .u8 a70 fun n71=>.ite (nC 1 n71)
 (.opt (tB yA 59 1 a57) fun a72=>.light (fun m=>oA yA 5 ⟨0,m⟩ a72) fun a73=>.asI .u8 a73 fun n74=>.ret (.tup [.int .u8 n68,(.bool (nC n74 6))]))
 (.ret (.tup [.int .u8 n68,.bool false])))
 (.ret (.tup [.int .u8 n68,.bool false])))
 (.opt (tB yA 59 1 a57) fun a75=>.light (fun m=>oA yA 5 ⟨0,m⟩ a75) fun a76=>.asI .u8 a76 fun n77=>.ret (.tup [.int .u8 n77,.bool false])))
 (.ite (iA A0 6)
 (.opt (iC p0) fun a78=>.opt (tB yA 104 0 a78) fun a79=>.light (fun m=>oA yA 26 ⟨0,m⟩ a79) fun a80=>.asG zm5 a80 fun X81=>
 .heavy (bG yA 81) fun a82=>
 .call 54 [(.agg [.str (X81.s 0),X81.v 1,X81.v 2,X81.v 3]),.str A1] fun a83=>
 .opt (rB 0 a83) fun a84=>.asG zm6 a84 fun X85=>
 .opt (rB 1 a83) fun a86=>.asB a86 fun b87=>.heavy (wD yA 81 a82 (.agg [.str (X85.s 0),.bool (X85.b 1),X85.v 2])) fun _=>
 .ite b87
 (.opt (tB yA 81 1 a82) fun a88=>.light (fun m=>oA yA 4 ⟨0,m⟩ a88) fun a89=>.asB a89 fun b90=>.opt (bB A8) fun a91=>.asI .i64 a91 fun n92=>.ret (.tup [.int .u8 0,(.bool (cF b90 (iA n92 2)))]))
 (.ret (.tup [.int .u8 0,.bool false])))
 (.ite (iA A0 23)
 (.opt (iC p0) fun a93=>.opt (tB yA 104 0 a93) fun a94=>.light (fun m=>oA yA 26 ⟨0,m⟩ a94) fun a95=>.asG zm5 a95 fun X96=>
 .heavy (bG yA 81) fun a97=>
 .call 54 [(.agg [.str (X96.s 0),X96.v 1,X96.v 2,X96.v 3]),.str A1] fun a98=>
 .opt (rB 0 a98) fun a99=>.asG zm6 a99 fun X100=>
 .opt (rB 1 a98) fun a101=>.asB a101 fun b102=>.heavy (wD yA 81 a97 (.agg [.str (X100.s 0),.bool (X100.b 1),X100.v 2])) fun _=>
 .ite b102
 (.opt (tB yA 81 1 a97) fun a103=>.light (fun m=>oA yA 4 ⟨0,m⟩ a103) fun a104=>.asB a104 fun b105=>.ret (.tup [.int .u8 0,(.bool (!b105))]))
 (.ret (.tup [.int .u8 0,.bool false])))
 (.ret (.tup [.int .u8 0,.bool true])))))
 (.ite (iA A0 21)
 (.ite (iA A0 21)
 (.opt (iC p0) fun a106=>.opt (tB yA 104 0 a106) fun a107=>.light (fun m=>oA yA 26 ⟨0,m⟩ a107) fun a108=>.asG zm5 a108 fun X109=>
 .heavy (bG yA 59) fun z55=>
 .call 19 [(.agg [.str (X109.s 0),X109.v 1,X109.v 2,X109.v 3]),.str A1] fun a111=>
 .opt (rB 0 a111) fun a112=>.asG zvs a112 fun X113=>
 .opt (rB 1 a111) fun a114=>.asB a114 fun b115=>.heavy (wD yA 59 z55 (.agg [.str (X113.s 0),.int .u8 (X113.i 1),.bool (X113.b 2)])) fun _=>
 .ite b115
 (.opt (tB yA 59 2 z55) fun a116=>.light (fun m=>oA yA 4 ⟨0,m⟩ a116) fun a117=>.asB a117 fun b118=>.opt (tB yA 59 1 z55) fun a119=>.light (fun m=>oA yA 5 ⟨0,m⟩ a119) fun a120=>.asI .u8 a120 fun n121=>.ite (cF b118 (!iA A0 5))
 (.opt (tB yA 59 1 z55) fun a122=>.light (fun m=>oA yA 5 ⟨0,m⟩ a122) fun a123=>.asI .u8 a123 fun n124=>.ite (nC 1 n124)
 (.opt (tB yA 59 1 z55) fun a125=>.light (fun m=>oA yA 5 ⟨0,m⟩ a125) fun a126=>.asI .u8 a126 fun n127=>.ret (.tup [.int .u8 n121,(.bool (nC n127 6))]))
 (.ret (.tup [.int .u8 n121,.bool false])))
 (.ret (.tup [.int .u8 n121,.bool false])))
 (.opt (tB yA 59 1 z55) fun a128=>.light (fun m=>oA yA 5 ⟨0,m⟩ a128) fun a129=>.asI .u8 a129 fun n130=>.ret (.tup [.int .u8 n130,.bool false])))
 (.ite (iA A0 6)
 (.opt (iC p0) fun a131=>.opt (tB yA 104 0 a131) fun a132=>.light (fun m=>oA yA 26 ⟨0,m⟩ a132) fun a133=>.asG zm5 a133 fun X134=>
 .heavy (bG yA 81) fun a135=>
 .call 54 [(.agg [.str (X134.s 0),X134.v 1,X134.v 2,X134.v 3]),.str A1] fun a136=>
 .opt (rB 0 a136) fun a137=>.asG zm6 a137 fun X138=>
 .opt (rB 1 a136) fun a139=>.asB a139 fun b140=>.heavy (wD yA 81 a135 (.agg [.str (X138.s 0),.bool (X138.b 1),X138.v 2])) fun _=>
 .ite b140
 (.opt (tB yA 81 1 a135) fun a141=>.light (fun m=>oA yA 4 ⟨0,m⟩ a141) fun a142=>.asB a142 fun b143=>.opt (bB A8) fun a144=>.asI .i64 a144 fun n145=>.ret (.tup [.int .u8 0,(.bool (cF b143 (iA n145 2)))]))
 (.ret (.tup [.int .u8 0,.bool false])))
 (.ite (iA A0 23)
 (.opt (iC p0) fun a146=>.opt (tB yA 104 0 a146) fun a147=>.light (fun m=>oA yA 26 ⟨0,m⟩ a147) fun a148=>.asG zm5 a148 fun X149=>
 .heavy (bG yA 81) fun a150=>
 .call 54 [(.agg [.str (X149.s 0),X149.v 1,X149.v 2,X149.v 3]),.str A1] fun a151=>
 .opt (rB 0 a151) fun a152=>.asG zm6 a152 fun X153=>
 .opt (rB 1 a151) fun a154=>.asB a154 fun b155=>.heavy (wD yA 81 a150 (.agg [.str (X153.s 0),.bool (X153.b 1),X153.v 2])) fun _=>
 .ite b155
 (.opt (tB yA 81 1 a150) fun a156=>.light (fun m=>oA yA 4 ⟨0,m⟩ a156) fun a157=>.asB a157 fun b158=>.ret (.tup [.int .u8 0,(.bool (!b158))]))
 (.ret (.tup [.int .u8 0,.bool false])))
 (.ret (.tup [.int .u8 0,.bool true])))))
 (.ite (iA A0 22)
 (.ite (iA A0 22)
 (.opt (iC p0) fun a159=>.opt (tB yA 104 0 a159) fun a160=>.light (fun m=>oA yA 26 ⟨0,m⟩ a160) fun a161=>.asG zm5 a161 fun X162=>
 .heavy (bG yA 59) fun a163=>
 .call 19 [(.agg [.str (X162.s 0),X162.v 1,X162.v 2,X162.v 3]),.str A1] fun a164=>
 .opt (rB 0 a164) fun a165=>.asG zvs a165 fun X166=>
 .opt (rB 1 a164) fun a167=>.asB a167 fun b168=>.heavy (wD yA 59 a163 (.agg [.str (X166.s 0),.int .u8 (X166.i 1),.bool (X166.b 2)])) fun _=>
 .ite b168
 (.opt (tB yA 59 2 a163) fun a169=>.light (fun m=>oA yA 4 ⟨0,m⟩ a169) fun a170=>.asB a170 fun b171=>.opt (tB yA 59 1 a163) fun a172=>.light (fun m=>oA yA 5 ⟨0,m⟩ a172) fun a173=>.asI .u8 a173 fun n174=>.ite (cF b171 (!iA A0 5))
 (.opt (tB yA 59 1 a163) fun a175=>.light (fun m=>oA yA 5 ⟨0,m⟩ a175) fun a176=>.asI .u8 a176 fun n177=>.ite (nC 1 n177)
 (.opt (tB yA 59 1 a163) fun a178=>.light (fun m=>oA yA 5 ⟨0,m⟩ a178) fun a179=>.asI .u8 a179 fun n180=>.ret (.tup [.int .u8 n174,(.bool (nC n180 6))]))
 (.ret (.tup [.int .u8 n174,.bool false])))
 (.ret (.tup [.int .u8 n174,.bool false])))
 (.opt (tB yA 59 1 a163) fun a181=>.light (fun m=>oA yA 5 ⟨0,m⟩ a181) fun a182=>.asI .u8 a182 fun n183=>.ret (.tup [.int .u8 n183,.bool false])))
 (.ite (iA A0 6)
 (.opt (iC p0) fun a184=>.opt (tB yA 104 0 a184) fun a185=>.light (fun m=>oA yA 26 ⟨0,m⟩ a185) fun a186=>.asG zm5 a186 fun X187=>
 .heavy (bG yA 81) fun a188=>
 .call 54 [(.agg [.str (X187.s 0),X187.v 1,X187.v 2,X187.v 3]),.str A1] fun a189=>
 .opt (rB 0 a189) fun a190=>.asG zm6 a190 fun X191=>
 .opt (rB 1 a189) fun a192=>.asB a192 fun b193=>.heavy (wD yA 81 a188 (.agg [.str (X191.s 0),.bool (X191.b 1),X191.v 2])) fun _=>
 .ite b193
 (.opt (tB yA 81 1 a188) fun a194=>.light (fun m=>oA yA 4 ⟨0,m⟩ a194) fun a195=>.asB a195 fun b196=>.opt (bB A8) fun a197=>.asI .i64 a197 fun n198=>.ret (.tup [.int .u8 0,(.bool (cF b196 (iA n198 2)))]))
 (.ret (.tup [.int .u8 0,.bool false])))
 (.ite (iA A0 23)
 (.opt (iC p0) fun a199=>.opt (tB yA 104 0 a199) fun a200=>.light (fun m=>oA yA 26 ⟨0,m⟩ a200) fun a201=>.asG zm5 a201 fun X202=>
 .heavy (bG yA 81) fun a203=>
 .call 54 [(.agg [.str (X202.s 0),X202.v 1,X202.v 2,X202.v 3]),.str A1] fun a204=>
 .opt (rB 0 a204) fun a205=>.asG zm6 a205 fun X206=>
 .opt (rB 1 a204) fun a207=>.asB a207 fun b208=>.heavy (wD yA 81 a203 (.agg [.str (X206.s 0),.bool (X206.b 1),X206.v 2])) fun _=>
 .ite b208
 (.opt (tB yA 81 1 a203) fun a209=>.light (fun m=>oA yA 4 ⟨0,m⟩ a209) fun a210=>.asB a210 fun b211=>.ret (.tup [.int .u8 0,(.bool (!b211))]))
 (.ret (.tup [.int .u8 0,.bool false])))
 (.ret (.tup [.int .u8 0,.bool true])))))
 (.ite (iA A0 5)
 (.opt (iC p0) fun a212=>.opt (tB yA 104 0 a212) fun a213=>.light (fun m=>oA yA 26 ⟨0,m⟩ a213) fun a214=>.asG zm5 a214 fun X215=>
 .heavy (bG yA 59) fun z54=>
 .call 19 [(.agg [.str (X215.s 0),X215.v 1,X215.v 2,X215.v 3]),.str A1] fun a217=>
 .opt (rB 0 a217) fun a218=>.asG zvs a218 fun X219=>
 .opt (rB 1 a217) fun a220=>.asB a220 fun b221=>.heavy (wD yA 59 z54 (.agg [.str (X219.s 0),.int .u8 (X219.i 1),.bool (X219.b 2)])) fun _=>
 .ite b221
 (.opt (tB yA 59 2 z54) fun a222=>.light (fun m=>oA yA 4 ⟨0,m⟩ a222) fun a223=>.asB a223 fun b224=>.opt (tB yA 59 1 z54) fun a225=>.light (fun m=>oA yA 5 ⟨0,m⟩ a225) fun a226=>.asI .u8 a226 fun n227=>.ite (cF b224 (!iA A0 5))
 (.opt (tB yA 59 1 z54) fun a228=>.light (fun m=>oA yA 5 ⟨0,m⟩ a228) fun a229=>.asI .u8 a229 fun n230=>.ite (nC 1 n230)
 (.opt (tB yA 59 1 z54) fun a231=>.light (fun m=>oA yA 5 ⟨0,m⟩ a231) fun a232=>.asI .u8 a232 fun n233=>.ret (.tup [.int .u8 n227,(.bool (nC n233 6))]))
 (.ret (.tup [.int .u8 n227,.bool false])))
 (.ret (.tup [.int .u8 n227,.bool false])))
 (.opt (tB yA 59 1 z54) fun a234=>.light (fun m=>oA yA 5 ⟨0,m⟩ a234) fun a235=>.asI .u8 a235 fun n236=>.ret (.tup [.int .u8 n236,.bool false])))
 (.ite (iA A0 6)
 (.opt (iC p0) fun a237=>.opt (tB yA 104 0 a237) fun a238=>.light (fun m=>oA yA 26 ⟨0,m⟩ a238) fun a239=>.asG zm5 a239 fun X240=>
 .heavy (bG yA 81) fun a241=>
 .call 54 [(.agg [.str (X240.s 0),X240.v 1,X240.v 2,X240.v 3]),.str A1] fun a242=>
 .opt (rB 0 a242) fun a243=>.asG zm6 a243 fun X244=>
 .opt (rB 1 a242) fun a245=>.asB a245 fun b246=>.heavy (wD yA 81 a241 (.agg [.str (X244.s 0),.bool (X244.b 1),X244.v 2])) fun _=>
 .ite b246
 (.opt (tB yA 81 1 a241) fun a247=>.light (fun m=>oA yA 4 ⟨0,m⟩ a247) fun a248=>.asB a248 fun b249=>.opt (bB A8) fun a250=>.asI .i64 a250 fun n251=>.ret (.tup [.int .u8 0,(.bool (cF b249 (iA n251 2)))]))
 (.ret (.tup [.int .u8 0,.bool false])))
 (.ite (iA A0 23)
 (.opt (iC p0) fun a252=>.opt (tB yA 104 0 a252) fun a253=>.light (fun m=>oA yA 26 ⟨0,m⟩ a253) fun a254=>.asG zm5 a254 fun X255=>
 .heavy (bG yA 81) fun a256=>
 .call 54 [(.agg [.str (X255.s 0),X255.v 1,X255.v 2,X255.v 3]),.str A1] fun a257=>
 .opt (rB 0 a257) fun a258=>.asG zm6 a258 fun X259=>
 .opt (rB 1 a257) fun a260=>.asB a260 fun b261=>.heavy (wD yA 81 a256 (.agg [.str (X259.s 0),.bool (X259.b 1),X259.v 2])) fun _=>
 .ite b261
 (.opt (tB yA 81 1 a256) fun a262=>.light (fun m=>oA yA 4 ⟨0,m⟩ a262) fun a263=>.asB a263 fun b264=>.ret (.tup [.int .u8 0,(.bool (!b264))]))
 (.ret (.tup [.int .u8 0,.bool false])))
 (.ret (.tup [.int .u8 0,.bool true]))))))))
def w66(p0:zA)(A0:Int)(A1:List Nat)(A2:Int)(A3:Bool)(A4:zA)(A5:Bool)(A6:zA)(A7:Int)(A8:zA)(h:wp 66 (t66 p0 A0 A1 A2 A3 A4 A5 A6 A7 A8) m Q):Wf 66 [p0,.agg [.int .u8 A0,.str A1,.int .u8 A2,.bool A3,A4,.bool A5,A6,.int .i64 A7,A8]] m Q:=dB ok66 h
def t68 (A0:zA)(A1:List Nat)(A2 A3 A4:zA):T:=
 .call 84 [.str A1] fun a0=>
 .asB a0 fun b1=>.ite b1
 (.call 91 [A2,(.func (.func 90) [] [])] fun a2=>
 .asB a2 fun b3=>.ite b3
 (.call 92 [A3,(.func (.func 93) [] [])] fun a4=>
 .asB a4 fun b5=>.ite b5
 (.call 94 [A4,(.func (.func 95) [.agg [A0]] [])] fun a6=>
 .asB a6 fun b7=>.ret (.bool b7))
 (.ret (.bool false)))
 (.ret (.bool false)))
 (.ret (.bool false))
def w68(A0:zA)(A1:List Nat)(A2 A3 A4:zA)(h:wp 68 (t68 A0 A1 A2 A3 A4) m Q):Wf 68 [.agg [A0],.agg [.str A1,A2,A3,A4]] m Q:=dB ok68 h
def t83  : T:=
 .ite true (.ite true (.callv (.func (.func 109) [] []) [.str [102,97,99,116,32]] fun a0=>
 .asG uI a0 fun X1=>
 .callv (.func (.func 109) [] []) [.str [104,97,115,32]] fun a2=>
 .asG uI a2 fun X3=>
 .callv (.func (.func 109) [] []) [.str []] fun a4=>
 .asG uI a4 fun X5=>
 .callv (.func (.func 108) [] []) [.str [108,111,111,107],.bool true,.int .i64 1,.int .i64 2] fun a6=>
 .asG uI a6 fun X7=>
 .callv (.func (.func 110) [] []) [.str [43],.int .i64 5,.int .i64 5,.int .i64 6] fun a8=>
 .asG uI a8 fun X9=>
 .callv (.func (.func 110) [] []) [.str [45],.int .i64 5,.int .i64 5,.int .i64 6] fun a10=>
 .asG uI a10 fun X11=>
 .callv (.func (.func 110) [] []) [.str [42],.int .i64 6,.int .i64 6,.int .i64 7] fun a12=>
 .asG uI a12 fun X13=>
 .callv (.func (.func 110) [] []) [.str [47],.int .i64 6,.int .i64 6,.int .i64 7] fun a14=>
 .asG uI a14 fun X15=>
 .callv (.func (.func 108) [] []) [.str [109,105,110],.bool false,.int .i64 2,.int .i64 2] fun a16=>
 .asG uI a16 fun X17=>
 .callv (.func (.func 108) [] []) [.str [109,97,120],.bool false,.int .i64 2,.int .i64 2] fun a18=>
 .asG uI a18 fun X19=>
 .callv (.func (.func 110) [] []) [.str [60],.int .i64 4,.int .i64 5,.int .i64 5] fun a20=>
 .asG uI a20 fun X21=>
 .callv (.func (.func 110) [] []) [.str [61],.int .i64 4,.int .i64 5,.int .i64 5] fun a22=>
 .asG uI a22 fun X23=>
 .callv (.func (.func 110) [] []) [.str [97,110,100],.int .i64 2,.int .i64 2,.int .i64 3] fun a24=>
 .asG uI a24 fun X25=>
 .callv (.func (.func 110) [] []) [.str [111,114],.int .i64 1,.int .i64 1,.int .i64 2] fun a26=>
 .asG uI a26 fun X27=>
 .ite true (.callv (.func (.func 108) [] []) [.str [105,102],.bool false,.int .i64 3,.int .i64 3] fun a28=>
 .asG uI a28 fun X29=>
 .callv (.func (.func 108) [] []) [.str [114,111,117,110,100],.bool false,.int .i64 2,.int .i64 2] fun a30=>
 .asG uI a30 fun X31=>
 .callv (.func (.func 108) [] []) [.str [98,101,116,119,101,101,110],.bool false,.int .i64 2,.int .i64 2] fun a32=>
 .asG uI a32 fun X33=>
 .callv (.func (.func 108) [] []) [.str [115,101,114,118,105,99,101],.bool true,.int .i64 2,.int .i64 2] fun a34=>
 .asG uI a34 fun X35=>
 .callv (.func (.func 108) [] []) [.str [98,101,115,116],.bool true,.int .i64 3,.int .i64 3] fun a36=>
 .asG uI a36 fun X37=>
 .callv (.func (.func 108) [] []) [.str [103,114,111,119],.bool true,.int .i64 2,.int .i64 2] fun a38=>
 .asG uI a38 fun X39=>
 .callv (.func (.func 108) [] []) [.str [109,111,110,116,104,115],.bool false,.int .i64 1,.int .i64 1] fun a40=>
 .asG uI a40 fun X41=>
 .callv (.func (.func 108) [] []) [.str [110,117,109,98,101,114],.bool false,.int .i64 1,.int .i64 1] fun a42=>
 .asG uI a42 fun X43=>
 .callv (.func (.func 108) [] []) [.str [115,116,97,114,116],.bool false,.int .i64 1,.int .i64 1] fun a44=>
 .asG uI a44 fun X45=>
 .ite true (.heavy (znk (.agg [.int .u8 0,.str [],.bool false,.int .i64 0,.int .i64 0,.int .i64 0,.int .i64 0,.int .i64 0,.int .u8 1,.str [],.bool false,.int .i64 0,.int .i64 0,.int .i64 7,.int .i64 0,.int .i64 0,.int .u8 2,.str [116,111,100,97,121],.bool false,.int .i64 0,.int .i64 0,.int .i64 7,.int .i64 0,.int .i64 0,.int .u8 (X1.i 0),.str (X1.s 1),.bool (X1.b 2),.int .i64 (X1.i 3),.int .i64 (X1.i 4),.int .i64 (X1.i 5),.int .i64 (X1.i 6),.int .i64 (X1.i 7),.int .u8 (X3.i 0),.str (X3.s 1),.bool (X3.b 2),.int .i64 (X3.i 3),.int .i64 (X3.i 4),.int .i64 (X3.i 5),.int .i64 (X3.i 6),.int .i64 (X3.i 7),.int .u8 (X5.i 0),.str (X5.s 1),.bool (X5.b 2),.int .i64 (X5.i 3),.int .i64 (X5.i 4),.int .i64 (X5.i 5),.int .i64 (X5.i 6),.int .i64 (X5.i 7),.int .u8 (X7.i 0),.str (X7.s 1),.bool (X7.b 2),.int .i64 (X7.i 3),.int .i64 (X7.i 4),.int .i64 (X7.i 5),.int .i64 (X7.i 6),.int .i64 (X7.i 7),.int .u8 (X9.i 0),.str (X9.s 1),.bool (X9.b 2),.int .i64 (X9.i 3),.int .i64 (X9.i 4),.int .i64 (X9.i 5),.int .i64 (X9.i 6),.int .i64 (X9.i 7),.int .u8 (X11.i 0),.str (X11.s 1),.bool (X11.b 2),.int .i64 (X11.i 3),.int .i64 (X11.i 4),.int .i64 (X11.i 5),.int .i64 (X11.i 6),.int .i64 (X11.i 7),.int .u8 (X13.i 0),.str (X13.s 1),.bool (X13.b 2),.int .i64 (X13.i 3),.int .i64 (X13.i 4),.int .i64 (X13.i 5),.int .i64 (X13.i 6),.int .i64 (X13.i 7),.int .u8 (X15.i 0),.str (X15.s 1),.bool (X15.b 2),.int .i64 (X15.i 3),.int .i64 (X15.i 4),.int .i64 (X15.i 5),.int .i64 (X15.i 6),.int .i64 (X15.i 7),.int .u8 (X17.i 0),.str (X17.s 1),.bool (X17.b 2),.int .i64 (X17.i 3),.int .i64 (X17.i 4),.int .i64 (X17.i 5),.int .i64 (X17.i 6),.int .i64 (X17.i 7),.int .u8 (X19.i 0),.str (X19.s 1),.bool (X19.b 2),.int .i64 (X19.i 3),.int .i64 (X19.i 4),.int .i64 (X19.i 5),.int .i64 (X19.i 6),.int .i64 (X19.i 7),.int .u8 (X21.i 0),.str (X21.s 1),.bool (X21.b 2),.int .i64 (X21.i 3),.int .i64 (X21.i 4),.int .i64 (X21.i 5),.int .i64 (X21.i 6),.int .i64 (X21.i 7),.int .u8 (X23.i 0),.str (X23.s 1),.bool (X23.b 2),.int .i64 (X23.i 3),.int .i64 (X23.i 4),.int .i64 (X23.i 5),.int .i64 (X23.i 6),.int .i64 (X23.i 7),.int .u8 (X25.i 0),.str (X25.s 1),.bool (X25.b 2),.int .i64 (X25.i 3),.int .i64 (X25.i 4),.int .i64 (X25.i 5),.int .i64 (X25.i 6),.int .i64 (X25.i 7),.int .u8 (X27.i 0),.str (X27.s 1),.bool (X27.b 2),.int .i64 (X27.i 3),.int .i64 (X27.i 4),.int .i64 (X27.i 5),.int .i64 (X27.i 6),.int .i64 (X27.i 7),.int .u8 5,.str [110,111,116,32],.bool false,.int .i64 1,.int .i64 1,.int .i64 3,.int .i64 3,.int .i64 3,.int .u8 (X29.i 0),.str (X29.s 1),.bool (X29.b 2),.int .i64 (X29.i 3),.int .i64 (X29.i 4),.int .i64 (X29.i 5),.int .i64 (X29.i 6),.int .i64 (X29.i 7),.int .u8 (X31.i 0),.str (X31.s 1),.bool (X31.b 2),.int .i64 (X31.i 3),.int .i64 (X31.i 4),.int .i64 (X31.i 5),.int .i64 (X31.i 6),.int .i64 (X31.i 7),.int .u8 (X33.i 0),.str (X33.s 1),.bool (X33.b 2),.int .i64 (X33.i 3),.int .i64 (X33.i 4),.int .i64 (X33.i 5),.int .i64 (X33.i 6),.int .i64 (X33.i 7),.int .u8 (X35.i 0),.str (X35.s 1),.bool (X35.b 2),.int .i64 (X35.i 3),.int .i64 (X35.i 4),.int .i64 (X35.i 5),.int .i64 (X35.i 6),.int .i64 (X35.i 7),.int .u8 (X37.i 0),.str (X37.s 1),.bool (X37.b 2),.int .i64 (X37.i 3),.int .i64 (X37.i 4),.int .i64 (X37.i 5),.int .i64 (X37.i 6),.int .i64 (X37.i 7),.int .u8 (X39.i 0),.str (X39.s 1),.bool (X39.b 2),.int .i64 (X39.i 3),.int .i64 (X39.i 4),.int .i64 (X39.i 5),.int .i64 (X39.i 6),.int .i64 (X39.i 7),.int .u8 (X41.i 0),.str (X41.s 1),.bool (X41.b 2),.int .i64 (X41.i 3),.int .i64 (X41.i 4),.int .i64 (X41.i 5),.int .i64 (X41.i 6),.int .i64 (X41.i 7),.int .u8 (X43.i 0),.str (X43.s 1),.bool (X43.b 2),.int .i64 (X43.i 3),.int .i64 (X43.i 4),.int .i64 (X43.i 5),.int .i64 (X43.i 6),.int .i64 (X43.i 7),.int .u8 (X45.i 0),.str (X45.s 1),.bool (X45.b 2),.int .i64 (X45.i 3),.int .i64 (X45.i 4),.int .i64 (X45.i 5),.int .i64 (X45.i 6),.int .i64 (X45.i 7)])) fun a46=>
 .ret a46) .fail) .fail) .fail) .fail
def w83 (h:wp 83 (t83 ) m Q):Wf 83 [] m Q:=dB ok83 h
def t84 (p0:List Nat):T:=
 .ite (xF p0 [])
 (.ret (.bool false))
 (.ite (iB 24 (Int.ofNat (yB p0)))
 (.ret (.bool false))
 (.opt (xJ yA 9 (.str p0) (.int .i64 0)) fun a0=>.asI .u8 a0 fun n1=>.call 111 [.int .u8 n1] fun a2=>
 .asB a2 fun b3=>.ite (!b3)
 (.ret (.bool false))
 (.call 112 [.str p0,(.func (.func 113) [] [])] fun a4=>
 .asS a4 fun s5=>.ite (xF s5 p0)
 (.call 114 [.str p0] fun a6=>
 .asB a6 fun b7=>.ret (.bool (!b7)))
 (.ret (.bool false)))))
def w84(p0:List Nat)(h:wp 84 (t84 p0) m Q):Wf 84 [.str p0] m Q:=dB ok84 h
def t85 (A0:Int)(A1:Bool)(A2:zA)(A3:Bool)(A4:zA)(A5:Int):T:=
 .ite (iA A0 2)
 (.ite (iA A0 2)
 (.ite (iA A5 0)
 (.call 115 [.agg [.bool A1,A2,.bool A3,A4]] fun a0=>
 .asB a0 fun b1=>.ret (.bool b1))
 (.ret (.bool false)))
 (.ite (iA A0 1)
 (.call 116 [.agg [.bool A1,A2,.bool A3,A4]] fun a2=>
 .asB a2 fun b3=>.ite b3
 (.ite (iA A5 0)
 (.ret (.bool true))
 (.ret (.bool (iA A5 1))))
 (.ret (.bool false)))
 (.ite (iA A0 4)
 (.call 116 [.agg [.bool A1,A2,.bool A3,A4]] fun a4=>
 .asB a4 fun b5=>.ite b5
 (.call 117 [.int .i64 A5] fun a6=>
 .asB a6 fun b7=>.ret (.bool b7))
 (.ret (.bool false)))
 (.ite (iA A0 5)
 (.ite (iA A0 5)
 (.call 116 [.agg [.bool A1,A2,.bool A3,A4]] fun a8=>
 .asB a8 fun b9=>.ite b9
 (.ite (nC (-1048576) A5)
 (.ret (.bool (nC A5 1048576)))
 (.ret (.bool false)))
 (.ret (.bool false)))
 (.ret (.bool false)))
 (.ite (iA A0 6)
 (.call 116 [.agg [.bool A1,A2,.bool A3,A4]] fun a10=>
 .asB a10 fun b11=>.ite b11
 (.ite (nC (-1048576) A5)
 (.ret (.bool (nC A5 1048576)))
 (.ret (.bool false)))
 (.ret (.bool false)))
 (.ret (.bool false)))))))
 (.ite (iA A0 3)
 (.ite (iA A5 0)
 (.call 115 [.agg [.bool A1,A2,.bool A3,A4]] fun a12=>
 .asB a12 fun b13=>.ret (.bool b13))
 (.ret (.bool false)))
 (.ite (iA A0 1)
 (.call 116 [.agg [.bool A1,A2,.bool A3,A4]] fun a14=>
 .asB a14 fun b15=>.ite b15
 (.ite (iA A5 0)
 (.ret (.bool true))
 (.ret (.bool (iA A5 1))))
 (.ret (.bool false)))
 (.ite (iA A0 4)
 (.call 116 [.agg [.bool A1,A2,.bool A3,A4]] fun a16=>
 .asB a16 fun b17=>.ite b17
 (.call 117 [.int .i64 A5] fun a18=>
 .asB a18 fun b19=>.ret (.bool b19))
 (.ret (.bool false)))
 (.ite (iA A0 5)
 (.ite (iA A0 5)
 (.call 116 [.agg [.bool A1,A2,.bool A3,A4]] fun a20=>
 .asB a20 fun b21=>.ite b21
 (.ite (nC (-1048576) A5)
 (.ret (.bool (nC A5 1048576)))
 (.ret (.bool false)))
 (.ret (.bool false)))
 (.ret (.bool false)))
 (.ite (iA A0 6)
 (.call 116 [.agg [.bool A1,A2,.bool A3,A4]] fun a22=>
 .asB a22 fun b23=>.ite b23
 (.ite (nC (-1048576) A5)
 (.ret (.bool (nC A5 1048576)))
 (.ret (.bool false)))
 (.ret (.bool false)))
 (.ret (.bool false)))))))
def w85(A0:Int)(A1:Bool)(A2:zA)(A3:Bool)(A4:zA)(A5:Int)(h:wp 85 (t85 A0 A1 A2 A3 A4 A5) m Q):Wf 85 [.agg [.int .u8 A0,.bool A1,A2,.bool A3,A4,.int .i64 A5]] m Q:=dB ok85 h
def t86 (A0:Int)(A1:Bool)(A2:zA)(A3:Bool)(A4:zA)(A5:Int):T:=
 .ite (iA A0 0)
 (.ite (iA A5 0)
 (.call 116 [.agg [.bool A1,A2,.bool A3,A4]] fun a0=>
 .asB a0 fun b1=>.ret (.bool b1))
 (.ret (.bool false)))
 (.ret (.bool false))
def w86(A0:Int)(A1:Bool)(A2:zA)(A3:Bool)(A4:zA)(A5:Int)(h:wp 86 (t86 A0 A1 A2 A3 A4 A5) m Q):Wf 86 [.agg [.int .u8 A0,.bool A1,A2,.bool A3,A4,.int .i64 A5]] m Q:=dB ok86 h
def t87 (p0:zA)(A0:Int)(A1:List Nat)(A2:Int)(A3:Bool)(A4:zA)(A5:Bool)(A6:zA)(A7:Int)(A8:zA):T:=
 .opt (iC p0) fun a0=>.opt (tB yA 166 0 a0) fun a1=>.call 118 [a1] fun a2=>
 .asI .i64 a2 fun n3=>.ite (iB 65536 n3)
 (.ret (.tup []))
 (.opt (iC p0) fun a4=>.opt (tB yA 166 1 a4) fun a5=>.light (fun m=>oA yA 132 ⟨0,m⟩ a5) fun a6=>.opt (iC a6) fun a7=>.opt (mB yA 188 a7 (.int .u8 A0)) fun a8=>.opt (iC a8) fun a9=>.opt (tB yA 159 0 a9) fun a10=>.light (fun m=>oA yA 5 ⟨0,m⟩ a10) fun lF=>.asI .u8 lF fun n12=>.ite (iA n12 1)
 (.opt (iC p0) fun a13=>.opt (tB yA 166 0 a13) fun a14=>.call 120 [.agg [.int .u8 A2,.bool A3,A4,.bool A5,A6,.int .i64 A7]] fun a15=>
 .asS a15 fun s16=>.call 119 [a14,.str s16] fun a17=>
 .ret (.tup []))
 (.ite (iA n12 2)
 (.opt (iC p0) fun a18=>.opt (tB yA 166 0 a18) fun a19=>.opt (iC a8) fun a20=>.opt (tB yA 159 1 a20) fun a21=>.light (fun m=>oA yA 9 ⟨0,m⟩ a21) fun a22=>.asS a22 fun s23=>.call 119 [a19,.str s23] fun a24=>
 .ret (.tup []))
 (.ite (iA n12 3)
 (.opt (iC p0) fun a25=>.opt (tB yA 166 0 a25) fun a26=>.opt (iC a8) fun a27=>.opt (tB yA 159 1 a27) fun a28=>.light (fun m=>oA yA 9 ⟨0,m⟩ a28) fun a29=>.asS a29 fun s30=>.opt (pJ s30 A1) fun a31=>.asS a31 fun s32=>.opt (pJ s32 [32,97,116,32]) fun a33=>.asS a33 fun s34=>.call 119 [a26,.str s34] fun a35=>
 .opt (mB yA 34 A8 (.int .i64 0)) fun a36=>.light (fun m=>oA yA 36 ⟨0,m⟩ a36) fun a37=>.asG z19 a37 fun X38=>
 .opt (iC a8) fun a39=>.opt (tB yA 159 6 a39) fun a40=>.light (fun m=>oA yA 3 ⟨0,m⟩ a40) fun a41=>.asI .i64 a41 fun n42=>.call 121 [p0,(.agg [.int .u8 (X38.i 0),.str (X38.s 1),.int .u8 (X38.i 2),.bool (X38.b 3),X38.v 4,.bool (X38.b 5),X38.v 6,.int .i64 (X38.i 7),X38.v 8]),.int .i64 n42] fun a43=>
 .ret (.tup []))
 (.ite (iA n12 4)
 (.opt (mB yA 34 A8 (.int .i64 0)) fun a44=>.light (fun m=>oA yA 36 ⟨0,m⟩ a44) fun a45=>.asG z19 a45 fun X46=>
 .opt (iC a8) fun a47=>.opt (tB yA 159 6 a47) fun a48=>.light (fun m=>oA yA 3 ⟨0,m⟩ a48) fun a49=>.asI .i64 a49 fun n50=>.call 121 [p0,(.agg [.int .u8 (X46.i 0),.str (X46.s 1),.int .u8 (X46.i 2),.bool (X46.b 3),X46.v 4,.bool (X46.b 5),X46.v 6,.int .i64 (X46.i 7),X46.v 8]),.int .i64 n50] fun a51=>
 .opt (iC p0) fun a52=>.opt (tB yA 166 0 a52) fun a53=>.opt (iC a8) fun a54=>.opt (tB yA 159 1 a54) fun a55=>.light (fun m=>oA yA 9 ⟨0,m⟩ a55) fun a56=>.asS a56 fun s57=>.opt (pJ [32] s57) fun a58=>.asS a58 fun s59=>.opt (pJ s59 [32]) fun a60=>.asS a60 fun s61=>.call 119 [a53,.str s61] fun a62=>
 .opt (mB yA 34 A8 (.int .i64 1)) fun a63=>.light (fun m=>oA yA 36 ⟨0,m⟩ a63) fun a64=>.asG z19 a64 fun X65=>
 .opt (iC a8) fun a66=>.opt (tB yA 159 7 a66) fun a67=>.light (fun m=>oA yA 3 ⟨0,m⟩ a67) fun a68=>.asI .i64 a68 fun n69=>.call 121 [p0,(.agg [.int .u8 (X65.i 0),.str (X65.s 1),.int .u8 (X65.i 2),.bool (X65.b 3),X65.v 4,.bool (X65.b 5),X65.v 6,.int .i64 (X65.i 7),X65.v 8]),.int .i64 n69] fun a70=>
 .ret (.tup []))
 (.ite (iA n12 5)
 (.opt (iC p0) fun a71=>.opt (tB yA 166 0 a71) fun a72=>.opt (iC a8) fun a73=>.opt (tB yA 159 1 a73) fun a74=>.light (fun m=>oA yA 9 ⟨0,m⟩ a74) fun a75=>.asS a75 fun s76=>.call 119 [a72,.str s76] fun a77=>
 .opt (mB yA 34 A8 (.int .i64 0)) fun a78=>.light (fun m=>oA yA 36 ⟨0,m⟩ a78) fun a79=>.asG z19 a79 fun X80=>
 .opt (iC a8) fun a81=>.opt (tB yA 159 6 a81) fun a82=>.light (fun m=>oA yA 3 ⟨0,m⟩ a82) fun a83=>.asI .i64 a83 fun n84=>.call 121 [p0,(.agg [.int .u8 (X80.i 0),.str (X80.s 1),.int .u8 (X80.i 2),.bool (X80.b 3),X80.v 4,.bool (X80.b 5),X80.v 6,.int .i64 (X80.i 7),X80.v 8]),.int .i64 n84] fun a85=>
 .ret (.tup []))
 (.ite (iA n12 6)
 (.call 122 [p0,.agg [.int .u8 A0,.str A1,.int .u8 A2,.bool A3,A4,.bool A5,A6,.int .i64 A7,A8],a8] fun a86=>
 .ret (.tup []))
 (.ret (.tup []))))))))
def w87(p0:zA)(A0:Int)(A1:List Nat)(A2:Int)(A3:Bool)(A4:zA)(A5:Bool)(A6:zA)(A7:Int)(A8:zA)(h:wp 87 (t87 p0 A0 A1 A2 A3 A4 A5 A6 A7 A8) m Q):Wf 87 [p0,.agg [.int .u8 A0,.str A1,.int .u8 A2,.bool A3,A4,.bool A5,A6,.int .i64 A7,A8]] m Q:=dB ok87 h
def t90 (A0:List Nat)(A1:Int)(A2:Bool):T:=
 .call 84 [.str A0] fun a0=>
 .asB a0 fun b1=>.ite b1
 (.ite (nC 1 A1)
 (.ret (.bool (nC A1 6)))
 (.ret (.bool false)))
 (.ret (.bool false))
def w90(A0:List Nat)(A1:Int)(A2:Bool)(h:wp 90 (t90 A0 A1 A2) m Q):Wf 90 [.agg [.str A0,.int .u8 A1,.bool A2]] m Q:=dB ok90 h
def t91 (p0 p1:zA):T:=
 .opt (bB p0) fun a0=>.asI .i64 a0 fun n1=>.jump 2 [p1,p0,.int .i64 n1,.int .i64 0]
def w91(p0 p1:zA)(h:wp 91 (t91 p0 p1) m Q):Wf 91 [p0,p1] m Q:=dB ok91 h
def t91_2(v1 v7:zA)(v8 v9:Int):T:=
 .ite (iB v9 v8)
 (.opt (mB yA 22 v7 (.int .i64 v9)) fun a0=>.light (fun m=>oA yA 59 ⟨0,m⟩ a0) fun a1=>.asG zvs a1 fun X2=>
 .ite true (.callv v1 [(.agg [.str (X2.s 0),.int .u8 (X2.i 1),.bool (X2.b 2)])] fun a3=>
 .asB a3 fun b4=>.ite (!b4)
 (.ret (.bool false))
 (.jump 2 [v1,v7,.int .i64 v8,(.int .i64 (wA .i64 (v9+1)))])) .fail)
 (.ret (.bool true))
def j91_2(v1 v7:zA)(v8 v9:Int)(h:wp 91 (t91_2 v1 v7 v8 v9) m Q):jp 91 2 [v1,v7,.int .i64 v8,.int .i64 v9] m Q:=vD ok91 h
def t92 (p0 p1:zA):T:=
 .opt (bB p0) fun a0=>.asI .i64 a0 fun n1=>.jump 2 [p1,p0,.int .i64 n1,.int .i64 0]
def w92(p0 p1:zA)(h:wp 92 (t92 p0 p1) m Q):Wf 92 [p0,p1] m Q:=dB ok92 h
def t92_2(v1 v7:zA)(v8 v9:Int):T:=
 .ite (iB v9 v8)
 (.opt (mB yA 23 v7 (.int .i64 v9)) fun a0=>.light (fun m=>oA yA 81 ⟨0,m⟩ a0) fun a1=>.asG zm6 a1 fun X2=>
 .ite (tC zA.one [.str (X2.s 0),.bool (X2.b 1),X2.v 2]) (.callv v1 [(.agg [.str (X2.s 0),.bool (X2.b 1),X2.v 2])] fun a3=>
 .asB a3 fun b4=>.ite (!b4)
 (.ret (.bool false))
 (.jump 2 [v1,v7,.int .i64 v8,(.int .i64 (wA .i64 (v9+1)))])) .fail)
 (.ret (.bool true))
def j92_2(v1 v7:zA)(v8 v9:Int)(h:wp 92 (t92_2 v1 v7 v8 v9) m Q):jp 92 2 [v1,v7,.int .i64 v8,.int .i64 v9] m Q:=vD ok92 h
def t93 (A0:List Nat)(A1:Bool)(A2:zA):T:=
 .heavy (znk (.agg [.str A0,.bool A1,A2])) fun a0=>
 .heavy (bG yA 191) fun a1=>
 .heavy (wD yA 191 a1 (.func (.func 123) [] [])) fun _=>
 .opt (tB yA 81 0 a0) fun a2=>.light (fun m=>oA yA 9 ⟨0,m⟩ a2) fun a3=>.asS a3 fun s4=>.call 84 [.str s4] fun a5=>
 .asB a5 fun b6=>.ite b6
 (.opt (tB yA 81 2 a0) fun a7=>.light (fun m=>oA yA 79 ⟨0,m⟩ a7) fun a8=>.call 125 [a8,(.func (.func 124) [] [a1,a0])] fun a9=>
 .asB a9 fun b10=>.ret (.bool b10))
 (.ret (.bool false))
def w93(A0:List Nat)(A1:Bool)(A2:zA)(h:wp 93 (t93 A0 A1 A2) m Q):Wf 93 [.agg [.str A0,.bool A1,A2]] m Q:=dB ok93 h
def t94 (p0 p1:zA):T:=
 .opt (bB p0) fun a0=>.asI .i64 a0 fun n1=>.jump 2 [p1,p0,.int .i64 n1,.int .i64 0]
def w94(p0 p1:zA)(h:wp 94 (t94 p0 p1) m Q):Wf 94 [p0,p1] m Q:=dB ok94 h
def t94_2(v1 v7:zA)(v8 v9:Int):T:=
 .ite (iB v9 v8)
 (.opt (mB yA 24 v7 (.int .i64 v9)) fun a0=>.light (fun m=>oA yA 56 ⟨0,m⟩ a0) fun a1=>.asG zz7z a1 fun X2=>
 .ite (tC zA.one [.str (X2.s 0),.str (X2.s 1),.int .i64 (X2.i 2),.int .i64 (X2.i 3),.int .i64 (X2.i 4),.bool (X2.b 5),.int .u8 (X2.i 6),.str (X2.s 7),.int .u8 (X2.i 8),.bool (X2.b 9),X2.v 10,.bool (X2.b 11),X2.v 12,.int .i64 (X2.i 13),X2.v 14,.int .u8 (X2.i 15),.str (X2.s 16),.int .u8 (X2.i 17),.bool (X2.b 18),X2.v 19,.bool (X2.b 20),X2.v 21,.int .i64 (X2.i 22),X2.v 23]) (.callv v1 [(.agg [.str (X2.s 0),.str (X2.s 1),.int .i64 (X2.i 2),.int .i64 (X2.i 3),.int .i64 (X2.i 4),.bool (X2.b 5),.int .u8 (X2.i 6),.str (X2.s 7),.int .u8 (X2.i 8),.bool (X2.b 9),X2.v 10,.bool (X2.b 11),X2.v 12,.int .i64 (X2.i 13),X2.v 14,.int .u8 (X2.i 15),.str (X2.s 16),.int .u8 (X2.i 17),.bool (X2.b 18),X2.v 19,.bool (X2.b 20),X2.v 21,.int .i64 (X2.i 22),X2.v 23])] fun a3=>
 .asB a3 fun b4=>.ite (!b4)
 (.ret (.bool false))
 (.jump 2 [v1,v7,.int .i64 v8,(.int .i64 (wA .i64 (v9+1)))])) .fail)
 (.ret (.bool true))
def j94_2(v1 v7:zA)(v8 v9:Int)(h:wp 94 (t94_2 v1 v7 v8 v9) m Q):jp 94 2 [v1,v7,.int .i64 v8,.int .i64 v9] m Q:=vD ok94 h
def t95 (A0:zA)(A1 A2:List Nat)(A3 A4 A5:Int)(A6:Bool)(A7:Int)(A8:List Nat)(A9:Int)(B0:Bool)(B1:zA)(B2:Bool)(B3:zA)(B4:Int)(B5:zA)(B6:Int)(B7:List Nat)(B8:Int)(B9:Bool)(D0:zA)(D1:Bool)(D2:zA)(D3:Int)(D4:zA):T:=
 .call 84 [.str A1] fun a0=>
 .asB a0 fun b1=>.ite (!b1)
 (.ret (.bool false))
 (.call 84 [.str A2] fun a2=>
 .asB a2 fun b3=>.ite (!b3)
 (.ret (.bool false))
 (.call 117 [.int .i64 A3] fun a4=>
 .asB a4 fun b5=>.ite (!b5)
 (.ret (.bool false))
 (.call 117 [.int .i64 A5] fun a6=>
 .asB a6 fun b7=>.ite (!b7)
 (.ret (.bool false))
 (.call 117 [.int .i64 A4] fun a8=>
 .asB a8 fun b9=>.ite (!b9)
 (.ite (!iA A4 65536)
 (.ret (.bool false))
 (.ite A6
 (.call 126 [.agg [.int .u8 A7,.str A8,.int .u8 A9,.bool B0,B1,.bool B2,B3,.int .i64 B4,B5]] fun a10=>
 .asB a10 fun b11=>.ite b11
 (.call 126 [.agg [.int .u8 B6,.str B7,.int .u8 B8,.bool B9,D0,.bool D1,D2,.int .i64 D3,D4]] fun a12=>
 .asB a12 fun b13=>.ret (.bool b13))
 (.ret (.bool false)))
 (.call 64 [.agg [A0],.agg [.int .u8 A7,.str A8,.int .u8 A9,.bool B0,B1,.bool B2,B3,.int .i64 B4,B5],.int .i64 1] fun a14=>
 .asB a14 fun b15=>.ite b15
 (.call 64 [.agg [A0],.agg [.int .u8 B6,.str B7,.int .u8 B8,.bool B9,D0,.bool D1,D2,.int .i64 D3,D4],.int .i64 1] fun a16=>
 .asB a16 fun b17=>.ret (.bool b17))
 (.ret (.bool false)))))
 (.ite A6
 (.call 126 [.agg [.int .u8 A7,.str A8,.int .u8 A9,.bool B0,B1,.bool B2,B3,.int .i64 B4,B5]] fun a18=>
 .asB a18 fun b19=>.ite b19
 (.call 126 [.agg [.int .u8 B6,.str B7,.int .u8 B8,.bool B9,D0,.bool D1,D2,.int .i64 D3,D4]] fun a20=>
 .asB a20 fun b21=>.ret (.bool b21))
 (.ret (.bool false)))
 (.call 64 [.agg [A0],.agg [.int .u8 A7,.str A8,.int .u8 A9,.bool B0,B1,.bool B2,B3,.int .i64 B4,B5],.int .i64 1] fun a22=>
 .asB a22 fun b23=>.ite b23
 (.call 64 [.agg [A0],.agg [.int .u8 B6,.str B7,.int .u8 B8,.bool B9,D0,.bool D1,D2,.int .i64 D3,D4],.int .i64 1] fun a24=>
 .asB a24 fun b25=>.ret (.bool b25))
 (.ret (.bool false))))))))
def w95(A0:zA)(A1 A2:List Nat)(A3 A4 A5:Int)(A6:Bool)(A7:Int)(A8:List Nat)(A9:Int)(B0:Bool)(B1:zA)(B2:Bool)(B3:zA)(B4:Int)(B5:zA)(B6:Int)(B7:List Nat)(B8:Int)(B9:Bool)(D0:zA)(D1:Bool)(D2:zA)(D3:Int)(D4:zA)(h:wp 95 (t95 A0 A1 A2 A3 A4 A5 A6 A7 A8 A9 B0 B1 B2 B3 B4 B5 B6 B7 B8 B9 D0 D1 D2 D3 D4) m Q):Wf 95 [.agg [A0],.agg [.str A1,.str A2,.int .i64 A3,.int .i64 A4,.int .i64 A5,.bool A6,.int .u8 A7,.str A8,.int .u8 A9,.bool B0,B1,.bool B2,B3,.int .i64 B4,B5,.int .u8 B6,.str B7,.int .u8 B8,.bool B9,D0,.bool D1,D2,.int .i64 D3,D4]] m Q:=dB ok95 h
def t108 (p0:List Nat)(p1:Bool)(p2 p3:Int):T:=
 .ite true (.ite true (.ret (.agg [.int .u8 6,.str p0,.bool p1,.int .i64 p2,.int .i64 p3,.int .i64 7,.int .i64 1,.int .i64 1])) .fail) .fail
def w108(p0:List Nat)(p1:Bool)(p2 p3:Int)(h:wp 108 (t108 p0 p1 p2 p3) m Q):Wf 108 [.str p0,.bool p1,.int .i64 p2,.int .i64 p3] m Q:=dB ok108 h
def t109 (p0:List Nat):T:=
 .ite true (.ite true (.ret (.agg [.int .u8 3,.str p0,.bool true,.int .i64 1,.int .i64 1,.int .i64 7,.int .i64 7,.int .i64 7])) .fail) .fail
def w109(p0:List Nat)(h:wp 109 (t109 p0) m Q):Wf 109 [.str p0] m Q:=dB ok109 h
def t110 (p0:List Nat)(p1 p2 p3:Int):T:=
 .ite true (.ite true (.ret (.agg [.int .u8 4,.str p0,.bool false,.int .i64 2,.int .i64 2,.int .i64 p1,.int .i64 p2,.int .i64 p3])) .fail) .fail
def w110(p0:List Nat)(p1 p2 p3:Int)(h:wp 110 (t110 p0 p1 p2 p3) m Q):Wf 110 [.str p0,.int .i64 p1,.int .i64 p2,.int .i64 p3] m Q:=dB ok110 h
def t111 (p0:Int):T:=
 .ite (nC 65 p0)
 (.ite (nC p0 90)
 (.ret (.bool true))
 (.ite (nC 97 p0)
 (.ret (.bool (nC p0 122)))
 (.ret (.bool false))))
 (.ite (nC 97 p0)
 (.ret (.bool (nC p0 122)))
 (.ret (.bool false)))
def w111(p0:Int)(h:wp 111 (t111 p0) m Q):Wf 111 [.int .u8 p0] m Q:=dB ok111 h
def t112 (p0:List Nat)(p1:zA):T:=
 .jump 2 [.str p0,p1,.int .i64 0]
def w112(p0:List Nat)(p1:zA)(h:wp 112 (t112 p0 p1) m Q):Wf 112 [.str p0,p1] m Q:=dB ok112 h
def zxg(v0:List Nat)(v1:zA)(v5:Int):T:=
 .ite (iB v5 (Int.ofNat (yB v0)))
 (.opt (xJ yA 9 (.str v0) (.int .i64 v5)) fun a0=>.asI .u8 a0 fun n1=>.callv v1 [.int .u8 n1] fun a2=>
 .asB a2 fun b3=>.ite b3
 (.jump 2 [.str v0,v1,(.int .i64 (wA .i64 (v5+1)))])
 (.opt (uG yA 9 H0A (.str v0) none (some (.int .i64 v5))) fun a4=>.asS a4 fun s5=>.ret (.str s5)))
 (.opt (uG yA 9 H0A (.str v0) none (some (.int .i64 v5))) fun a6=>.asS a6 fun s7=>.ret (.str s7))
def z7n(v0:List Nat)(v1:zA)(v5:Int)(h:wp 112 (zxg v0 v1 v5) m Q):jp 112 2 [.str v0,v1,.int .i64 v5] m Q:=vD ok112 h
def t113 (p0:Int):T:=
 .call 111 [.int .u8 p0] fun a0=>
 .asB a0 fun b1=>.ite b1
 (.ret (.bool true))
 (.call 139 [.int .u8 p0] fun a2=>
 .asB a2 fun b3=>.ite b3
 (.ret (.bool true))
 (.ret (.bool (iA p0 95))))
def w113(p0:Int)(h:wp 113 (t113 p0) m Q):Wf 113 [.int .u8 p0] m Q:=dB ok113 h
def t114 (p0:List Nat):T:=
 .ite (iB (Int.ofNat (yB p0)) 2)
 (.ret (.bool false))
 (.ite (iB 7 (Int.ofNat (yB p0)))
 (.ret (.bool false))
 (.call 112 [.str p0,(.func (.func 111) [] [])] fun a0=>
 .asS a0 fun s1=>.ite (!xF s1 p0)
 (.ret (.bool false))
 (.heavy tT fun a2=>
 .heavy (aH yA 213 a2 (.int .i64 2) (.str [32,116,111,32,105,115,32,97,116,32,105,102,32,111,114,32,117,112,32])) fun _=>
 .heavy (aH yA 213 a2 (.int .i64 3) (.str [32,100,101,102,32,114,111,119,32,111,110,101,32,116,119,111,32,101,110,100,32,111,102,102,32,104,97,115,32,109,105,110,32,109,97,120,32,97,110,100,32,110,111,116,32])) fun _=>
 .heavy (aH yA 213 a2 (.int .i64 4) (.str [32,112,108,97,110,32,102,97,99,116,32,102,114,111,109,32,119,104,101,110,32,116,104,101,110,32,100,97,116,101,32,100,97,121,115,32,116,114,117,101,32,108,111,111,107,32,98,101,115,116,32,103,114,111,119,32,100,111,119,110,32,99,101,105,108,32,104,97,108,102,32,101,118,101,110,32])) fun _=>
 .heavy (aH yA 213 a2 (.int .i64 5) (.str [32,116,97,98,108,101,32,107,110,111,119,110,32,116,114,117,116,104,32,109,111,110,101,121,32,102,97,108,115,101,32,109,105,110,117,115,32,116,111,100,97,121,32,114,111,117,110,100,32,115,116,97,114,116,32,102,108,111,111,114,32])) fun _=>
 .heavy (aH yA 213 a2 (.int .i64 6) (.str [32,99,108,97,117,115,101,32,110,117,109,98,101,114,32,109,111,110,116,104,115,32])) fun _=>
 .heavy (aH yA 213 a2 (.int .i64 7) (.str [32,98,101,116,119,101,101,110,32,115,101,114,118,105,99,101,32])) fun _=>
 .light (fun m=>xH yA 213 ⟨0,m⟩ a2 (.int .i64 (Int.ofNat (yB p0))) false) fun a3=>.asS a3 fun s4=>.opt (pJ [32] p0) fun a5=>.asS a5 fun s6=>.opt (pJ s6 [32]) fun a7=>.asS a7 fun s8=>.call 140 [.str s4,.str s8] fun a9=>
 .asB a9 fun b10=>.ret (.bool b10))))
def w114(p0:List Nat)(h:wp 114 (t114 p0) m Q):Wf 114 [.str p0] m Q:=dB ok114 h
def t115 (A0:Bool)(A1:zA)(A2:Bool)(A3:zA):T:=
 .opt (bB A1) fun a0=>.asI .i64 a0 fun n1=>.ite (iB 42 n1)
 (.ret (.bool false))
 (.opt (bB A3) fun a2=>.asI .i64 a2 fun n3=>.ite (iB 42 n3)
 (.ret (.bool false))
 (.call 141 [.agg [.bool A0,A1,.bool A2,A3]] fun a4=>
 .asB a4 fun b5=>.ite (!b5)
 (.ret (.bool false))
 (.call 142 [.agg [.bool A0,A1,.bool A2,A3]] fun a6=>
 .opt (rB 0 a6) fun a7=>.asS a7 fun s8=>.opt (rB 1 a6) fun a9=>.asI .i64 a9 fun n10=>.ite (iA n10 0)
 (.call 143 [.str s8,.str [45]] fun lF=>
 .asS lF fun s12=>.ret (.bool (nC (Int.ofNat (yB s12)) 200)))
 (.ret (.bool false)))))
def w115(A0:Bool)(A1:zA)(A2:Bool)(A3:zA)(h:wp 115 (t115 A0 A1 A2 A3) m Q):Wf 115 [.agg [.bool A0,A1,.bool A2,A3]] m Q:=dB ok115 h
def t116 (A0:Bool)(A1:zA)(A2:Bool)(A3:zA):T:=
 .ite (!A0)
 (.ite (!A2)
 (.opt (bB A1) fun a0=>.asI .i64 a0 fun n1=>.opt (bB A3) fun a2=>.asI .i64 a2 fun n3=>.ret (.bool (iA (wA .i64 (n1+n3)) 0)))
 (.ret (.bool false)))
 (.ret (.bool false))
def w116(A0:Bool)(A1:zA)(A2:Bool)(A3:zA)(h:wp 116 (t116 A0 A1 A2 A3) m Q):Wf 116 [.agg [.bool A0,A1,.bool A2,A3]] m Q:=dB ok116 h
def t117 (p0:Int):T:=
 .ite (nC 0 p0)
 (.ret (.bool (iB p0 65536)))
 (.ret (.bool false))
def w117(p0:Int)(h:wp 117 (t117 p0) m Q):Wf 117 [.int .i64 p0] m Q:=dB ok117 h
def t118 (p0:zA):T:=
 .opt (iC p0) fun a0=>.opt (tB yA 164 1 a0) fun a1=>.light (fun m=>oA yA 38 ⟨0,m⟩ a1) fun a2=>.opt (bB a2) fun a3=>.asI .i64 a3 fun n4=>.ret (.int .i64 n4)
def w118(p0:zA)(h:wp 118 (t118 p0) m Q):Wf 118 [p0] m Q:=dB ok118 h
def t119 (p0:zA)(p1:List Nat):T:=
 .call 144 [p0] fun a0=>
 .opt (iC p0) fun a1=>.opt (tB yA 164 1 a1) fun a2=>.light (fun m=>oA yA 38 ⟨0,m⟩ a2) fun a3=>.heavy (cG yA 38 9 a3 (.str p1)) fun a4=>
 .opt (iC p0) fun a5=>.opt (tB yA 164 1 a5) fun a6=>.heavy (wD yA 38 a6 a4) fun _=>
 .ret (.tup [(.int .i64 (Int.ofNat (yB p1))),.niliface])
def w119(p0:zA)(p1:List Nat)(h:wp 119 (t119 p0 p1) m Q):Wf 119 [p0,.str p1] m Q:=dB ok119 h
def t120 (A0:Int)(A1:Bool)(A2:zA)(A3:Bool)(A4:zA)(A5:Int):T:=
 .ite (iA A0 1)
 (.call 145 [(.bool (iA A5 1))] fun a0=>
 .asS a0 fun s1=>.ret (.str s1))
 (.ite (iA A0 2)
 (.call 146 [.agg [.bool A1,A2,.bool A3,A4]] fun a2=>
 .asS a2 fun s3=>.ret (.str s3))
 (.ite (iA A0 3)
 (.call 146 [.agg [.bool A1,A2,.bool A3,A4]] fun a4=>
 .asS a4 fun s5=>.opt (pJ [109,111,110,101,121,32] s5) fun a6=>.asS a6 fun s7=>.ret (.str s7))
 (.ite (iA A0 4)
 (.call 147 [.int .i64 A5] fun a8=>
 .asS a8 fun s9=>.ret (.str s9))
 (.ite (iA A0 5)
 (.call 148 [.int .i64 A5] fun a10=>
 .asS a10 fun s11=>.opt (pJ s11 [32,100,97,121,115]) fun a12=>.asS a12 fun s13=>.ret (.str s13))
 (.ite (iA A0 6)
 (.call 148 [.int .i64 A5] fun a14=>
 .asS a14 fun s15=>.opt (pJ s15 [32,109,111,110,116,104,115]) fun a16=>.asS a16 fun s17=>.ret (.str s17))
 (.ret (.str [])))))))
def w120(A0:Int)(A1:Bool)(A2:zA)(A3:Bool)(A4:zA)(A5:Int)(h:wp 120 (t120 A0 A1 A2 A3 A4 A5) m Q):Wf 120 [.agg [.int .u8 A0,.bool A1,A2,.bool A3,A4,.int .i64 A5]] m Q:=dB ok120 h
def t121 (p0:zA)(A0:Int)(A1:List Nat)(A2:Int)(A3:Bool)(A4:zA)(A5:Bool)(A6:zA)(A7:Int)(A8:zA)(p2:Int):T:=
 .opt (iC p0) fun a0=>.opt (tB yA 166 1 a0) fun a1=>.light (fun m=>oA yA 132 ⟨0,m⟩ a1) fun a2=>.opt (iC a2) fun a3=>.opt (mB yA 188 a3 (.int .u8 A0)) fun a4=>.opt (tB yA 159 5 a4) fun a5=>.light (fun m=>oA yA 3 ⟨0,m⟩ a5) fun a6=>.asI .i64 a6 fun n7=>.ite (nC p2 n7)
 (.call 87 [p0,.agg [.int .u8 A0,.str A1,.int .u8 A2,.bool A3,A4,.bool A5,A6,.int .i64 A7,A8]] fun a8=>
 .ret (.tup []))
 (.opt (iC p0) fun a9=>.opt (tB yA 166 0 a9) fun a10=>.call 119 [a10,.str [40]] fun lF=>
 .call 87 [p0,.agg [.int .u8 A0,.str A1,.int .u8 A2,.bool A3,A4,.bool A5,A6,.int .i64 A7,A8]] fun a12=>
 .opt (iC p0) fun a13=>.opt (tB yA 166 0 a13) fun a14=>.call 119 [a14,.str [41]] fun a15=>
 .ret (.tup []))
def w121(p0:zA)(A0:Int)(A1:List Nat)(A2:Int)(A3:Bool)(A4:zA)(A5:Bool)(A6:zA)(A7:Int)(A8:zA)(p2:Int)(h:wp 121 (t121 p0 A0 A1 A2 A3 A4 A5 A6 A7 A8 p2) m Q):Wf 121 [p0,.agg [.int .u8 A0,.str A1,.int .u8 A2,.bool A3,A4,.bool A5,A6,.int .i64 A7,A8],.int .i64 p2] m Q:=dB ok121 h
def t122 (p0:zA)(A0:Int)(A1:List Nat)(A2:Int)(A3:Bool)(A4:zA)(A5:Bool)(A6:zA)(A7:Int)(A8 p2:zA):T:=
 .opt (iC p0) fun a0=>.opt (tB yA 166 0 a0) fun a1=>.opt (iC p2) fun a2=>.opt (tB yA 159 1 a2) fun a3=>.light (fun m=>oA yA 9 ⟨0,m⟩ a3) fun a4=>.asS a4 fun s5=>.opt (pJ s5 [40]) fun a6=>.asS a6 fun s7=>.call 119 [a1,.str s7] fun a8=>
 .opt (iC p2) fun a9=>.opt (tB yA 159 2 a9) fun a10=>.light (fun m=>oA yA 4 ⟨0,m⟩ a10) fun lF=>.asB lF fun b12=>.ite b12
 (.opt (iC p0) fun a13=>.opt (tB yA 166 0 a13) fun a14=>.opt (pJ A1 [44,32]) fun a15=>.asS a15 fun s16=>.call 119 [a14,.str s16] fun a17=>
 .jump 9 [p0,.int .u8 A0,.str A1,.int .u8 A2,.bool A3,A4,.bool A5,A6,.int .i64 A7,A8])
 (.jump 9 [p0,.int .u8 A0,.str A1,.int .u8 A2,.bool A3,A4,.bool A5,A6,.int .i64 A7,A8])
def w122(p0:zA)(A0:Int)(A1:List Nat)(A2:Int)(A3:Bool)(A4:zA)(A5:Bool)(A6:zA)(A7:Int)(A8 p2:zA)(h:wp 122 (t122 p0 A0 A1 A2 A3 A4 A5 A6 A7 A8 p2) m Q):Wf 122 [p0,.agg [.int .u8 A0,.str A1,.int .u8 A2,.bool A3,A4,.bool A5,A6,.int .i64 A7,A8],p2] m Q:=dB z9b h
def z6t(v0:zA)(A0:Int)(A1:List Nat)(A2:Int)(A3:Bool)(A4:zA)(A5:Bool)(A6:zA)(A7:Int)(A8:zA):T:=
 .opt (bB A8) fun a0=>.asI .i64 a0 fun n1=>.jump 2 [v0,A8,.int .i64 n1,.int .i64 0,.int .u8 A0,.str A1,.int .u8 A2,.bool A3,A4,.bool A5,A6,.int .i64 A7,A8]
def j122_9(v0:zA)(A0:Int)(A1:List Nat)(A2:Int)(A3:Bool)(A4:zA)(A5:Bool)(A6:zA)(A7:Int)(A8:zA)(h:wp 122 (z6t v0 A0 A1 A2 A3 A4 A5 A6 A7 A8) m Q):jp 122 9 [v0,.int .u8 A0,.str A1,.int .u8 A2,.bool A3,A4,.bool A5,A6,.int .i64 A7,A8] m Q:=vD z9b h
def zxf(v0 v29:zA)(v30 v31 A0:Int)(A1:List Nat)(A2:Int)(A3:Bool)(A4:zA)(A5:Bool)(A6:zA)(A7:Int)(A8:zA):T:=
 .ite (iB v31 v30)
 (.opt (mB yA 34 v29 (.int .i64 v31)) fun a0=>.light (fun m=>oA yA 36 ⟨0,m⟩ a0) fun a1=>.asG z19 a1 fun X2=>
 .ite (tC zA.one [.int .u8 (X2.i 0),.str (X2.s 1),.int .u8 (X2.i 2),.bool (X2.b 3),X2.v 4,.bool (X2.b 5),X2.v 6,.int .i64 (X2.i 7),X2.v 8]) (.ite (iB 0 v31)
 (.opt (iC v0) fun a3=>.opt (tB yA 166 0 a3) fun a4=>.call 119 [a4,.str [44,32]] fun a5=>
 .call 87 [v0,(.agg [.int .u8 (X2.i 0),.str (X2.s 1),.int .u8 (X2.i 2),.bool (X2.b 3),X2.v 4,.bool (X2.b 5),X2.v 6,.int .i64 (X2.i 7),X2.v 8])] fun a6=>
 .jump 2 [v0,v29,.int .i64 v30,(.int .i64 (wA .i64 (v31+1))),.int .u8 A0,.str A1,.int .u8 A2,.bool A3,A4,.bool A5,A6,.int .i64 A7,A8])
 (.call 87 [v0,(.agg [.int .u8 (X2.i 0),.str (X2.s 1),.int .u8 (X2.i 2),.bool (X2.b 3),X2.v 4,.bool (X2.b 5),X2.v 6,.int .i64 (X2.i 7),X2.v 8])] fun a7=>
 .jump 2 [v0,v29,.int .i64 v30,(.int .i64 (wA .i64 (v31+1))),.int .u8 A0,.str A1,.int .u8 A2,.bool A3,A4,.bool A5,A6,.int .i64 A7,A8])) .fail)
 (.ite (iA A0 19)
 (.opt (iC v0) fun a8=>.opt (tB yA 166 0 a8) fun a9=>.call 149 [(.int .u8 (wA .u8 A7))] fun a10=>
 .asS a10 fun s11=>.opt (pJ [44,32] s11) fun a12=>.asS a12 fun s13=>.call 119 [a9,.str s13] fun a14=>
 .opt (iC v0) fun a15=>.opt (tB yA 166 0 a15) fun a16=>.call 119 [a16,.str [41]] fun a17=>
 .ret (.tup []))
 (.opt (iC v0) fun a18=>.opt (tB yA 166 0 a18) fun a19=>.call 119 [a19,.str [41]] fun a20=>
 .ret (.tup [])))
def z7m(v0 v29:zA)(v30 v31 A0:Int)(A1:List Nat)(A2:Int)(A3:Bool)(A4:zA)(A5:Bool)(A6:zA)(A7:Int)(A8:zA)(h:wp 122 (zxf v0 v29 v30 v31 A0 A1 A2 A3 A4 A5 A6 A7 A8) m Q):jp 122 2 [v0,v29,.int .i64 v30,.int .i64 v31,.int .u8 A0,.str A1,.int .u8 A2,.bool A3,A4,.bool A5,A6,.int .i64 A7,A8] m Q:=vD z9b h
def t123 (p0:Int):T:=
 .ite (nC (-2147483648) p0)
 (.ret (.bool (iB p0 2147483648)))
 (.ret (.bool false))
def w123(p0:Int)(h:wp 123 (t123 p0) m Q):Wf 123 [.int .i64 p0] m Q:=dB ok123 h
def t124 (A0 A1 A2:Int)(A3:Bool)(A4:zA)(A5:Bool)(A6 w0 w1:zA):T:=
 .light (fun m=>oA yA 191 ⟨0,m⟩ w0) fun a0=>.callv a0 [.int .i64 A0] fun a1=>
 .asB a1 fun b2=>.ite b2
 (.light (fun m=>oA yA 191 ⟨0,m⟩ w0) fun a3=>.callv a3 [.int .i64 A1] fun a4=>
 .asB a4 fun b5=>.ite b5
 (.opt (tB yA 81 1 w1) fun a6=>.light (fun m=>oA yA 4 ⟨0,m⟩ a6) fun a7=>.asB a7 fun b8=>.ite b8
 (.call 117 [.int .i64 A2] fun a9=>
 .asB a9 fun b10=>.ite b10
 (.call 115 [.agg [.bool A3,A4,.bool A5,A6]] fun lF=>
 .asB lF fun b12=>.ret (.bool b12))
 (.ret (.bool false)))
 (.ite (iA A1 0)
 (.call 117 [.int .i64 A2] fun a13=>
 .asB a13 fun b14=>.ite b14
 (.call 115 [.agg [.bool A3,A4,.bool A5,A6]] fun a15=>
 .asB a15 fun b16=>.ret (.bool b16))
 (.ret (.bool false)))
 (.ret (.bool false))))
 (.ret (.bool false)))
 (.ret (.bool false))
def w124(A0 A1 A2:Int)(A3:Bool)(A4:zA)(A5:Bool)(A6 w0 w1:zA)(h:wp 124 (t124 A0 A1 A2 A3 A4 A5 A6 w0 w1) m Q):Wf 124 [.agg [.int .i64 A0,.int .i64 A1,.int .i64 A2,.bool A3,A4,.bool A5,A6],w0,w1] m Q:=dB ok124 h
def t125 (p0 p1:zA):T:=
 .opt (bB p0) fun a0=>.asI .i64 a0 fun n1=>.jump 2 [p1,p0,.int .i64 n1,.int .i64 0]
def w125(p0 p1:zA)(h:wp 125 (t125 p0 p1) m Q):Wf 125 [p0,p1] m Q:=dB ok125 h
def t125_2(v1 v7:zA)(v8 v9:Int):T:=
 .ite (iB v9 v8)
 (.opt (mB yA 79 v7 (.int .i64 v9)) fun a0=>.light (fun m=>oA yA 84 ⟨0,m⟩ a0) fun a1=>.asG zz8z a1 fun X2=>
 .ite (tC zA.one [.int .i64 (X2.i 0),.int .i64 (X2.i 1),.int .i64 (X2.i 2),.bool (X2.b 3),X2.v 4,.bool (X2.b 5),X2.v 6]) (.callv v1 [(.agg [.int .i64 (X2.i 0),.int .i64 (X2.i 1),.int .i64 (X2.i 2),.bool (X2.b 3),X2.v 4,.bool (X2.b 5),X2.v 6])] fun a3=>
 .asB a3 fun b4=>.ite (!b4)
 (.ret (.bool false))
 (.jump 2 [v1,v7,.int .i64 v8,(.int .i64 (wA .i64 (v9+1)))])) .fail)
 (.ret (.bool true))
def j125_2(v1 v7:zA)(v8 v9:Int)(h:wp 125 (t125_2 v1 v7 v8 v9) m Q):jp 125 2 [v1,v7,.int .i64 v8,.int .i64 v9] m Q:=vD ok125 h
def t126 (A0:Int)(A1:List Nat)(A2:Int)(A3:Bool)(A4:zA)(A5:Bool)(A6:zA)(A7:Int)(A8:zA):T:=
 .ite (iA A0 0)
 (.ite (xF A1 [])
 (.opt (bB A8) fun a0=>.asI .i64 a0 fun n1=>.ite (iA n1 0)
 (.call 86 [.agg [.int .u8 A2,.bool A3,A4,.bool A5,A6,.int .i64 A7]] fun a2=>
 .asB a2 fun b3=>.ret (.bool b3))
 (.ret (.bool false)))
 (.ret (.bool false)))
 (.ret (.bool false))
def w126(A0:Int)(A1:List Nat)(A2:Int)(A3:Bool)(A4:zA)(A5:Bool)(A6:zA)(A7:Int)(A8:zA)(h:wp 126 (t126 A0 A1 A2 A3 A4 A5 A6 A7 A8) m Q):Wf 126 [.agg [.int .u8 A0,.str A1,.int .u8 A2,.bool A3,A4,.bool A5,A6,.int .i64 A7,A8]] m Q:=dB ok126 h
def t139 (p0:Int):T:=
 .ite (nC 48 p0)
 (.ret (.bool (nC p0 57)))
 (.ret (.bool false))
def w139(p0:Int)(h:wp 139 (t139 p0) m Q):Wf 139 [.int .u8 p0] m Q:=dB ok139 h
def t141 (A0:Bool)(A1:zA)(A2:Bool)(A3:zA):T:=
 .ite true (.call 166 [.agg [.bool A0,A1,.bool A2,A3]] fun a0=>
 .asB a0 fun b1=>.ret (.bool b1)) .fail
def w141(A0:Bool)(A1:zA)(A2:Bool)(A3:zA)(h:wp 141 (t141 A0 A1 A2 A3) m Q):Wf 141 [.agg [.bool A0,A1,.bool A2,A3]] m Q:=dB ok141 h
def t142 (A0:Bool)(A1:zA)(A2:Bool)(A3:zA):T:=
 .call 141 [.agg [.bool A0,A1,.bool A2,A3]] fun a0=>
 .asB a0 fun b1=>.ite (!b1)
 (.ret (.tup [.str [],.int .i64 2]))
 (.call 167 [.agg [.bool A0,A1]] fun a2=>
 .opt (rB 0 a2) fun a3=>.asS a3 fun s4=>.opt (rB 1 a2) fun a5=>.asI .i64 a5 fun n6=>.ite true (.call 168 [.agg [.bool A0,A1,.bool A2,A3]] fun a7=>
 .asB a7 fun b8=>.ite (!b8)
 (.call 167 [.agg [.bool A2,A3]] fun a9=>
 .opt (rB 0 a9) fun a10=>.asS a10 fun s11=>.opt (rB 1 a9) fun a12=>.asI .i64 a12 fun n13=>.opt (pJ [47] s11) fun a14=>.asS a14 fun s15=>.opt (pJ s4 s15) fun a16=>.asS a16 fun s17=>.ret (.tup [.str s17,.int .i64 0]))
 (.ret (.tup [.str s4,.int .i64 0]))) .fail)
def w142(A0:Bool)(A1:zA)(A2:Bool)(A3:zA)(h:wp 142 (t142 A0 A1 A2 A3) m Q):Wf 142 [.agg [.bool A0,A1,.bool A2,A3]] m Q:=dB ok142 h
def t143 (p0 p1:List Nat):T:=
 .call 169 [.str p0,.str p1] fun a0=>
 .asS a0 fun s1=>.ret (.str s1)
def w143(p0 p1:List Nat)(h:wp 143 (t143 p0 p1) m Q):Wf 143 [.str p0,.str p1] m Q:=dB ok143 h
def t145 (p0:Bool):T:=
 .call 171 [.bool p0] fun a0=>
 .asS a0 fun s1=>.ret (.str s1)
def w145(p0:Bool)(h:wp 145 (t145 p0) m Q):Wf 145 [.bool p0] m Q:=dB ok145 h
def t146 (A0:Bool)(A1:zA)(A2:Bool)(A3:zA):T:=
 .call 142 [.agg [.bool A0,A1,.bool A2,A3]] fun a0=>
 .opt (rB 0 a0) fun a1=>.asS a1 fun s2=>.opt (rB 1 a0) fun a3=>.asI .i64 a3 fun n4=>.call 172 [.str s2] fun a5=>
 .asS a5 fun s6=>.ret (.str s6)
def w146(A0:Bool)(A1:zA)(A2:Bool)(A3:zA)(h:wp 146 (t146 A0 A1 A2 A3) m Q):Wf 146 [.agg [.bool A0,A1,.bool A2,A3]] m Q:=dB ok146 h
def t147 (p0:Int):T:=
 .call 173 [.int .i64 p0] fun a0=>
 .opt (rB 0 a0) fun a1=>.asI .i64 a1 fun n2=>.opt (rB 1 a0) fun a3=>.asI .i64 a3 fun n4=>.opt (rB 2 a0) fun a5=>.asI .i64 a5 fun n6=>.opt (rB 3 a0) fun a7=>.asI .i64 a7 fun n8=>.ite (!iA n8 0)
 (.ret (.str []))
 (.ite true (.heavy (bG yA 236) fun a9=>
 .heavy (wD yA 236 a9 (.agg [.int .u8 0,.int .u8 0,.int .u8 0,.int .u8 0,.int .u8 45,.int .u8 0,.int .u8 0,.int .u8 45,.int .u8 0,.int .u8 0])) fun _=>
 .light (fun m=>oA yA 236 ⟨0,m⟩ a9) fun a10=>.asG z71 a10 fun X11=>
 .call 174 [(.agg [.int .u8 (X11.i 0),.int .u8 (X11.i 1),.int .u8 (X11.i 2),.int .u8 (X11.i 3),.int .u8 (X11.i 4),.int .u8 (X11.i 5),.int .u8 (X11.i 6),.int .u8 (X11.i 7),.int .u8 (X11.i 8),.int .u8 (X11.i 9)]),.int .i64 0,.int .i64 4,.int .i64 n2] fun a12=>
 .asG z71 a12 fun X13=>
 .heavy (wD yA 236 a9 (.agg [.int .u8 (X13.i 0),.int .u8 (X13.i 1),.int .u8 (X13.i 2),.int .u8 (X13.i 3),.int .u8 (X13.i 4),.int .u8 (X13.i 5),.int .u8 (X13.i 6),.int .u8 (X13.i 7),.int .u8 (X13.i 8),.int .u8 (X13.i 9)])) fun _=>
 .light (fun m=>oA yA 236 ⟨0,m⟩ a9) fun a14=>.asG z71 a14 fun X15=>
 .call 174 [(.agg [.int .u8 (X15.i 0),.int .u8 (X15.i 1),.int .u8 (X15.i 2),.int .u8 (X15.i 3),.int .u8 (X15.i 4),.int .u8 (X15.i 5),.int .u8 (X15.i 6),.int .u8 (X15.i 7),.int .u8 (X15.i 8),.int .u8 (X15.i 9)]),.int .i64 5,.int .i64 2,.int .i64 n4] fun a16=>
 .asG z71 a16 fun X17=>
 .heavy (wD yA 236 a9 (.agg [.int .u8 (X17.i 0),.int .u8 (X17.i 1),.int .u8 (X17.i 2),.int .u8 (X17.i 3),.int .u8 (X17.i 4),.int .u8 (X17.i 5),.int .u8 (X17.i 6),.int .u8 (X17.i 7),.int .u8 (X17.i 8),.int .u8 (X17.i 9)])) fun _=>
 .light (fun m=>oA yA 236 ⟨0,m⟩ a9) fun a18=>.asG z71 a18 fun X19=>
 .call 174 [(.agg [.int .u8 (X19.i 0),.int .u8 (X19.i 1),.int .u8 (X19.i 2),.int .u8 (X19.i 3),.int .u8 (X19.i 4),.int .u8 (X19.i 5),.int .u8 (X19.i 6),.int .u8 (X19.i 7),.int .u8 (X19.i 8),.int .u8 (X19.i 9)]),.int .i64 8,.int .i64 2,.int .i64 n6] fun a20=>
 .asG z71 a20 fun X21=>
 .heavy (wD yA 236 a9 (.agg [.int .u8 (X21.i 0),.int .u8 (X21.i 1),.int .u8 (X21.i 2),.int .u8 (X21.i 3),.int .u8 (X21.i 4),.int .u8 (X21.i 5),.int .u8 (X21.i 6),.int .u8 (X21.i 7),.int .u8 (X21.i 8),.int .u8 (X21.i 9)])) fun _=>
 .light (fun m=>uG yA 236 ⟨0,m⟩ a9 none none) fun a22=>.light (fun m=>dK yA 38 9 ⟨0,m⟩ a22) fun a23=>.asS a23 fun s24=>.ret (.str s24)) .fail)
def w147(p0:Int)(h:wp 147 (t147 p0) m Q):Wf 147 [.int .i64 p0] m Q:=dB ok147 h
def t148 (p0:Int):T:=
 .call 175 [.int .i64 p0] fun a0=>
 .asS a0 fun s1=>.call 172 [.str s1] fun a2=>
 .asS a2 fun s3=>.ret (.str s3)
def w148(p0:Int)(h:wp 148 (t148 p0) m Q):Wf 148 [.int .i64 p0] m Q:=dB ok148 h
def t149 (p0:Int):T:=
 .ite (iB (wA .i64 p0) 7)
 (.opt (mB yA 238 (.ptr 0 0) (.int .u8 p0)) fun a0=>.light (fun m=>oA yA 9 ⟨0,m⟩ a0) fun a1=>.asS a1 fun s2=>.ret (.str s2))
 (.ret (.str []))
def w149(p0:Int)(h:wp 149 (t149 p0) m Q):Wf 149 [.int .u8 p0] m Q:=dB ok149 h
def t166 (A0:Bool)(A1:zA)(A2:Bool)(A3:zA):T:=
 .call 186 [.agg [.bool A0,A1,.bool A2,A3]] fun a0=>
 .asB a0 fun b1=>.ite b1
 (.ret (.bool false))
 (.call 187 [.agg [.bool A0,A1]] fun a2=>
 .asB a2 fun b3=>.ite (!b3)
 (.ret (.bool false))
 (.call 187 [.agg [.bool A2,A3]] fun a4=>
 .asB a4 fun b5=>.ite (!b5)
 (.ret (.bool false))
 (.ite A2
 (.ret (.bool false))
 (.opt (bB A3) fun a6=>.asI .i64 a6 fun n7=>.ite (iA n7 0)
 (.ret (.bool false))
 (.call 168 [.agg [.bool A0,A1,.bool A2,A3]] fun a8=>
 .asB a8 fun b9=>.ite b9
 (.ret (.bool true))
 (.call 189 [.agg [.bool A0,A1],.agg [.bool A2,A3]] fun a10=>
 .asG zz6z a10 fun X11=>
 .call 188 [(.agg [.bool (X11.b 0),X11.v 1])] fun a12=>
 .asB a12 fun b13=>.ret (.bool b13)))))))
def w166(A0:Bool)(A1:zA)(A2:Bool)(A3:zA)(h:wp 166 (t166 A0 A1 A2 A3) m Q):Wf 166 [.agg [.bool A0,A1,.bool A2,A3]] m Q:=dB ok166 h
def t167 (A0:Bool)(A1:zA):T:=
 .call 187 [.agg [.bool A0,A1]] fun a0=>
 .asB a0 fun b1=>.ite (!b1)
 (.ret (.tup [.str [],.int .i64 2]))
 (.opt (bB A1) fun a2=>.asI .i64 a2 fun n3=>.ite (iA n3 0)
 (.ret (.tup [.str [48],.int .i64 0]))
 (.call 190 [A1] fun a4=>
 .jump 2 [.str [],.int .i64 0,.nilslice,a4,.bool A0,A1]))
def w167(A0:Bool)(A1:zA)(h:wp 167 (t167 A0 A1) m Q):Wf 167 [.agg [.bool A0,A1]] m Q:=dB zyn h
def zxc(v2:List Nat)(v3:Int)(v4 v5:zA)(A0:Bool)(A1:zA):T:=
 .opt (bB v5) fun a0=>.asI .i64 a0 fun n1=>.ite (iB 0 n1)
 (.call 191 [v5,.int .u32 1000000000] fun a2=>
 .opt (rB 0 a2) fun a3=>.opt (rB 1 a2) fun a4=>.asI .u32 a4 fun n5=>.heavy (gI yA 244 1 [(0,(.int .u32 n5))]) fun a6=>
 .heavy (cG yA 244 244 v4 a6) fun a7=>
 .jump 2 [.str v2,.int .i64 v3,a7,a3,.bool A0,A1])
 (.heavy (bG yA 38) fun a8=>
 .ite A0
 (.light (fun m=>oA yA 38 ⟨0,m⟩ a8) fun a9=>.heavy (gI yA 38 1 [(0,(.int .u8 45))]) fun a10=>
 .heavy (cG yA 38 38 a9 a10) fun lF=>
 .heavy (wD yA 38 a8 lF) fun _=>
 .jump 29 [.str v2,.int .i64 v3,v4,a8])
 (.jump 29 [.str v2,.int .i64 v3,v4,a8]))
def z7j(v2:List Nat)(v3:Int)(v4 v5:zA)(A0:Bool)(A1:zA)(h:wp 167 (zxc v2 v3 v4 v5 A0 A1) m Q):jp 167 2 [.str v2,.int .i64 v3,v4,v5,.bool A0,A1] m Q:=vD zyn h
def zxb(v2:List Nat)(v3:Int)(v4 v8:zA):T:=
 .call 192 [v4] fun a0=>
 .range (npC yA) a0 6 1 [v8]
 (.light (fun m=>oA yA 38 ⟨0,m⟩ v8) fun a1=>.light (fun m=>dK yA 38 9 ⟨0,m⟩ a1) fun a2=>.asS a2 fun s3=>.ret (.tup [.str s3,.int .i64 0]))
 (.ret (.tup [.str v2,.int .i64 v3]))
def z91(v2:List Nat)(v3:Int)(v4 v8:zA)(h:wp 167 (zxb v2 v3 v4 v8) m Q):jp 167 29 [.str v2,.int .i64 v3,v4,v8] m Q:=vD zyn h
def z6s(v8:zA)(v41:Int):T:=
 .call 193 [(.int .u64 (wA .u64 v41)),.int .i64 10] fun a0=>
 .asS a0 fun s1=>.light (fun m=>oA yA 38 ⟨0,m⟩ v8) fun a2=>.opt (bB a2) fun a3=>.asI .i64 a3 fun n4=>.ite (iB 1 n4)
 (.jump 10 [v8,.str s1,(.int .i64 (wA .i64 (9-(Int.ofNat (yB s1))))),.int .i64 0])
 (.light (fun m=>oA yA 38 ⟨0,m⟩ v8) fun a5=>.opt (bB a5) fun a6=>.asI .i64 a6 fun n7=>.ite (iA n7 1)
 (.light (fun m=>oA yA 38 ⟨0,m⟩ v8) fun a8=>.opt (mB yA 38 a8 (.int .i64 0)) fun a9=>.light (fun m=>oA yA 5 ⟨0,m⟩ a9) fun a10=>.asI .u8 a10 fun n11=>.ite (!iA n11 45)
 (.jump 10 [v8,.str s1,(.int .i64 (wA .i64 (9-(Int.ofNat (yB s1))))),.int .i64 0])
 (.light (fun m=>oA yA 38 ⟨0,m⟩ v8) fun a12=>.heavy (cG yA 38 9 a12 (.str s1)) fun a13=>
 .heavy (wD yA 38 v8 a13) fun _=>
 .ret (.bool true)))
 (.light (fun m=>oA yA 38 ⟨0,m⟩ v8) fun a14=>.heavy (cG yA 38 9 a14 (.str s1)) fun a15=>
 .heavy (wD yA 38 v8 a15) fun _=>
 .ret (.bool true)))
def j167_6(v8:zA)(v41:Int)(h:wp 167 (z6s v8 v41) m Q):jp 167 6 [v8,.int .u32 v41] m Q:=vD zyn h
def zns(v8:zA)(v10:List Nat)(v61 v62:Int):T:=
 .ite (iB v62 v61)
 (.light (fun m=>oA yA 38 ⟨0,m⟩ v8) fun a0=>.heavy (gI yA 38 1 [(0,(.int .u8 48))]) fun a1=>
 .heavy (cG yA 38 38 a0 a1) fun a2=>
 .heavy (wD yA 38 v8 a2) fun _=>
 .jump 10 [v8,.str v10,.int .i64 v61,(.int .i64 (wA .i64 (v62+1)))])
 (.light (fun m=>oA yA 38 ⟨0,m⟩ v8) fun a3=>.heavy (cG yA 38 9 a3 (.str v10)) fun a4=>
 .heavy (wD yA 38 v8 a4) fun _=>
 .ret (.bool true))
def zzz(v8:zA)(v10:List Nat)(v61 v62:Int)(h:wp 167 (zns v8 v10 v61 v62) m Q):jp 167 10 [v8,.str v10,.int .i64 v61,.int .i64 v62] m Q:=vD zyn h
def t168 (A0:Bool)(A1:zA)(A2:Bool)(A3:zA):T:=
 .call 188 [.agg [.bool A2,A3]] fun a0=>
 .asB a0 fun b1=>.ret (.bool b1)
def w168(A0:Bool)(A1:zA)(A2:Bool)(A3:zA)(h:wp 168 (t168 A0 A1 A2 A3) m Q):Wf 168 [.agg [.bool A0,A1,.bool A2,A3]] m Q:=dB ok168 h
def t169 (p0 p1:List Nat):T:=
 .call 194 [.str p0,.str p1] fun a0=>
 .asB a0 fun b1=>.ite b1
 (.opt (uG yA 9 H0A (.str p0) (some (.int .i64 (Int.ofNat (yB p1)))) none) fun a2=>.asS a2 fun s3=>.ret (.str s3))
 (.ret (.str p0))
def w169(p0 p1:List Nat)(h:wp 169 (t169 p0 p1) m Q):Wf 169 [.str p0,.str p1] m Q:=dB ok169 h
def t171 (p0:Bool):T:=
 .ite p0
 (.ret (.str [116,114,117,101]))
 (.ret (.str [102,97,108,115,101]))
def w171(p0:Bool)(h:wp 171 (t171 p0) m Q):Wf 171 [.bool p0] m Q:=dB ok171 h
def t172 (p0:List Nat):T:=
 .call 195 [.str p0,.str [45]] fun a0=>
 .opt (rB 0 a0) fun a1=>.asS a1 fun s2=>.opt (rB 1 a0) fun a3=>.asB a3 fun b4=>.ite b4
 (.opt (pJ [109,105,110,117,115,32] s2) fun a5=>.asS a5 fun s6=>.ret (.str s6))
 (.ret (.str p0))
def w172(p0:List Nat)(h:wp 172 (t172 p0) m Q):Wf 172 [.str p0] m Q:=dB ok172 h
def t173 (p0:Int):T:=
 .call 196 [.int .i64 p0] fun a0=>
 .asB a0 fun b1=>.ite (!b1)
 (.ret (.tup [.int .i64 0,.int .i64 0,.int .i64 0,.int .i64 2]))
 (.call 197 [.int .i64 p0] fun a2=>
 .asI .i64 a2 fun n3=>.call 198 [.int .i64 n3] fun a4=>
 .asI .i64 a4 fun n5=>.ret (.tup [(.int .i64 (wA .i64 (1900+(wA .i64 (Int.tdiv n3 12))))),(.int .i64 (wA .i64 ((Int.tmod n3 12)+1))),(.int .i64 (wA .i64 ((wA .i64 (p0-n5))+1))),.int .i64 0]))
def w173(p0:Int)(h:wp 173 (t173 p0) m Q):Wf 173 [.int .i64 p0] m Q:=dB ok173 h
def t174 (A0 A1 A2 A3 A4 A5 A6 A7 A8 A9 p1 p2 p3:Int):T:=
 .heavy (znk (.agg [.int .u8 A0,.int .u8 A1,.int .u8 A2,.int .u8 A3,.int .u8 A4,.int .u8 A5,.int .u8 A6,.int .u8 A7,.int .u8 A8,.int .u8 A9])) fun a0=>
 .jump 2 [.int .i64 p1,.int .i64 p3,a0,(.int .i64 (wA .i64 ((wA .i64 (p1+p2))-1))),.int .u8 0,.int .u8 0,.int .u8 0,.int .u8 0,.int .u8 0,.int .u8 0,.int .u8 0,.int .u8 0,.int .u8 0,.int .u8 0]
def w174(A0 A1 A2 A3 A4 A5 A6 A7 A8 A9 p1 p2 p3:Int)(h:wp 174 (t174 A0 A1 A2 A3 A4 A5 A6 A7 A8 A9 p1 p2 p3) m Q):Wf 174 [.agg [.int .u8 A0,.int .u8 A1,.int .u8 A2,.int .u8 A3,.int .u8 A4,.int .u8 A5,.int .u8 A6,.int .u8 A7,.int .u8 A8,.int .u8 A9],.int .i64 p1,.int .i64 p2,.int .i64 p3] m Q:=dB ok174 h
def t174_2(v1 v3:Int)(v4:zA)(v9 A0 A1 A2 A3 A4 A5 A6 A7 A8 A9:Int):T:=
 .ite (nC v1 v9)
 (.opt (mB yA 236 v4 (.int .i64 v9)) fun a0=>.heavy (wD yA 5 a0 (.int .u8 (wA .u8 (wA .i64 (48+(Int.tmod v3 10)))))) fun _=>
 .jump 2 [.int .i64 v1,(.int .i64 (wA .i64 (Int.tdiv v3 10))),v4,(.int .i64 (wA .i64 (v9-1))),.int .u8 A0,.int .u8 A1,.int .u8 A2,.int .u8 A3,.int .u8 A4,.int .u8 A5,.int .u8 A6,.int .u8 A7,.int .u8 A8,.int .u8 A9])
 (.light (fun m=>oA yA 236 ⟨0,m⟩ v4) fun a1=>.asG z71 a1 fun X2=>
 .ite true (.ret (.agg [.int .u8 (X2.i 0),.int .u8 (X2.i 1),.int .u8 (X2.i 2),.int .u8 (X2.i 3),.int .u8 (X2.i 4),.int .u8 (X2.i 5),.int .u8 (X2.i 6),.int .u8 (X2.i 7),.int .u8 (X2.i 8),.int .u8 (X2.i 9)])) .fail)
def z7i(v1 v3:Int)(v4:zA)(v9 A0 A1 A2 A3 A4 A5 A6 A7 A8 A9:Int)(h:wp 174 (t174_2 v1 v3 v4 v9 A0 A1 A2 A3 A4 A5 A6 A7 A8 A9) m Q):jp 174 2 [.int .i64 v1,.int .i64 v3,v4,.int .i64 v9,.int .u8 A0,.int .u8 A1,.int .u8 A2,.int .u8 A3,.int .u8 A4,.int .u8 A5,.int .u8 A6,.int .u8 A7,.int .u8 A8,.int .u8 A9] m Q:=vD ok174 h
def t186 (A0:Bool)(A1:zA)(A2:Bool)(A3:zA):T:=
 .opt (bB A1) fun a0=>.asI .i64 a0 fun n1=>.ite (iB 256 n1)
 (.ret (.bool true))
 (.opt (bB A3) fun a2=>.asI .i64 a2 fun n3=>.ret (.bool (iB 256 n3)))
def w186(A0:Bool)(A1:zA)(A2:Bool)(A3:zA)(h:wp 186 (t186 A0 A1 A2 A3) m Q):Wf 186 [.agg [.bool A0,A1,.bool A2,A3]] m Q:=dB ok186 h
def t187 (A0:Bool)(A1:zA):T:=
 .opt (bB A1) fun a0=>.asI .i64 a0 fun n1=>.ite (iA n1 0)
 (.ret (.bool (!A0)))
 (.ite (nC n1 1024)
 (.opt (mB yA 27 A1 (.int .i64 (wA .i64 (n1-1)))) fun a2=>.light (fun m=>oA yA 202 ⟨0,m⟩ a2) fun a3=>.asI .u16 a3 fun n4=>.ret (.bool (!iA n4 0)))
 (.ret (.bool false)))
def w187(A0:Bool)(A1:zA)(h:wp 187 (t187 A0 A1) m Q):Wf 187 [.agg [.bool A0,A1]] m Q:=dB ok187 h
def t188 (A0:Bool)(A1:zA):T:=
 .ite (!A0)
 (.opt (bB A1) fun a0=>.asI .i64 a0 fun n1=>.ite (iA n1 1)
 (.opt (mB yA 27 A1 (.int .i64 0)) fun a2=>.light (fun m=>oA yA 202 ⟨0,m⟩ a2) fun a3=>.asI .u16 a3 fun n4=>.ret (.bool (iA n4 1)))
 (.ret (.bool false)))
 (.ret (.bool false))
def w188(A0:Bool)(A1:zA)(h:wp 188 (t188 A0 A1) m Q):Wf 188 [.agg [.bool A0,A1]] m Q:=dB ok188 h
def t189 (A0:Bool)(A1:zA)(A2:Bool)(A3:zA):T:=
 .call 210 [.agg [.bool A0,A1],.agg [.bool A2,A3]] fun a0=>
 .opt (rB 0 a0) fun a1=>.asG zz6z a1 fun X2=>
 .opt (rB 1 a0) fun a3=>.asI .i64 a3 fun n4=>.ite (tC zA.one [.bool (X2.b 0),X2.v 1]) (.ite (tC zA.one [.bool (X2.b 0),X2.v 1]) (.ret (.agg [.bool (X2.b 0),X2.v 1])) .fail) .fail
def w189(A0:Bool)(A1:zA)(A2:Bool)(A3:zA)(h:wp 189 (t189 A0 A1 A2 A3) m Q):Wf 189 [.agg [.bool A0,A1],.agg [.bool A2,A3]] m Q:=dB ok189 h
def t190 (p0:zA):T:=
 .opt (bB p0) fun a0=>.asI .i64 a0 fun n1=>.heavy (qL yA 244 (.int .i64 (wA .i64 (Int.tdiv (wA .i64 (n1+1)) 2))) (.int .i64 (wA .i64 (Int.tdiv (wA .i64 (n1+1)) 2)))) fun a2=>
 .opt (bB p0) fun a3=>.asI .i64 a3 fun n4=>.jump 2 [a2,p0,.int .i64 n4,.int .i64 0]
def w190(p0:zA)(h:wp 190 (t190 p0) m Q):Wf 190 [p0] m Q:=dB ok190 h
def zxa(v3 v11:zA)(v12 v13:Int):T:=
 .ite (iB v13 v12)
 (.opt (mB yA 27 v11 (.int .i64 v13)) fun a0=>.light (fun m=>oA yA 202 ⟨0,m⟩ a0) fun a1=>.asI .u16 a1 fun n2=>.opt (mB yA 244 v3 (.int .i64 (wA .i64 (Int.tdiv v13 2)))) fun a3=>.light (fun m=>oA yA 246 ⟨0,m⟩ a3) fun a4=>.asI .u32 a4 fun n5=>.opt (zz5 .u32 (wA .u32 n2) (wA .i64 (16*(Int.tmod v13 2)))) fun a6=>.asI .u32 a6 fun n7=>.opt (qH Nat.lor .u32 n5 n7) fun a8=>.asI .u32 a8 fun n9=>.opt (mB yA 244 v3 (.int .i64 (wA .i64 (Int.tdiv v13 2)))) fun a10=>.heavy (wD yA 246 a10 (.int .u32 n9)) fun _=>
 .jump 2 [v3,v11,.int .i64 v12,(.int .i64 (wA .i64 (v13+1)))])
 (.ret v3)
def z7h(v3 v11:zA)(v12 v13:Int)(h:wp 190 (zxa v3 v11 v12 v13) m Q):jp 190 2 [v3,v11,.int .i64 v12,.int .i64 v13] m Q:=vD ok190 h
def t191 (p0:zA)(p1:Int):T:=
 .opt (bB p0) fun a0=>.asI .i64 a0 fun n1=>.heavy (qL yA 244 (.int .i64 n1) (.int .i64 n1)) fun a2=>
 .opt (bB p0) fun a3=>.asI .i64 a3 fun n4=>.jump 2 [p0,.int .u32 p1,a2,.int .u32 0,(.int .i64 (wA .i64 (n4-1)))]
def w191(p0:zA)(p1:Int)(h:wp 191 (t191 p0 p1) m Q):Wf 191 [p0,.int .u32 p1] m Q:=dB ok191 h
def zw9(v0:zA)(v1:Int)(v6:zA)(v7 v8:Int):T:=
 .ite (nC 0 v8)
 (.opt (mB yA 244 v0 (.int .i64 v8)) fun a0=>.light (fun m=>oA yA 246 ⟨0,m⟩ a0) fun a1=>.asI .u32 a1 fun n2=>.call 211 [.int .u32 v7,.int .u32 n2,.int .u32 v1] fun a3=>
 .opt (rB 0 a3) fun a4=>.asI .u32 a4 fun n5=>.opt (rB 1 a3) fun a6=>.asI .u32 a6 fun n7=>.opt (mB yA 244 v6 (.int .i64 v8)) fun a8=>.heavy (wD yA 246 a8 (.int .u32 n5)) fun _=>
 .jump 2 [v0,.int .u32 v1,v6,.int .u32 n7,(.int .i64 (wA .i64 (v8-1)))])
 (.call 212 [v6] fun a9=>
 .ret (.tup [a9,.int .u32 v7]))
def z7g(v0:zA)(v1:Int)(v6:zA)(v7 v8:Int)(h:wp 191 (zw9 v0 v1 v6 v7 v8) m Q):jp 191 2 [v0,.int .u32 v1,v6,.int .u32 v7,.int .i64 v8] m Q:=vD ok191 h
def t192 (p0:zA):T:=
 .heavy (znk p0) fun a0=>
 .ret (.func (.func 213) [] [a0])
def w192(p0:zA)(h:wp 192 (t192 p0) m Q):Wf 192 [p0] m Q:=dB ok192 h
def t194 (p0 p1:List Nat):T:=
 .ite (nC (Int.ofNat (yB p1)) (Int.ofNat (yB p0)))
 (.opt (uG yA 9 H0A (.str p0) none (some (.int .i64 (Int.ofNat (yB p1))))) fun a0=>.asS a0 fun s1=>.ret (.bool (xF s1 p1)))
 (.ret (.bool false))
def w194(p0 p1:List Nat)(h:wp 194 (t194 p0 p1) m Q):Wf 194 [.str p0,.str p1] m Q:=dB ok194 h
def t195 (p0 p1:List Nat):T:=
 .call 215 [.str p0,.str p1] fun a0=>
 .opt (rB 0 a0) fun a1=>.asS a1 fun s2=>.opt (rB 1 a0) fun a3=>.asB a3 fun b4=>.ret (.tup [.str s2,.bool b4])
def w195(p0 p1:List Nat)(h:wp 195 (t195 p0 p1) m Q):Wf 195 [.str p0,.str p1] m Q:=dB ok195 h
def t196 (p0:Int):T:=
 .ite (nC 0 p0)
 (.ret (.bool (iB p0 65536)))
 (.ret (.bool false))
def w196(p0:Int)(h:wp 196 (t196 p0) m Q):Wf 196 [.int .i64 p0] m Q:=dB ok196 h
def t197 (p0:Int):T:=
 .heavy (znk (.int .i64 p0)) fun a0=>
 .call 216 [.int .i64 2154,(.func (.func 217) [] [a0])] fun a1=>
 .asI .i64 a1 fun n2=>.ret (.int .i64 n2)
def w197(p0:Int)(h:wp 197 (t197 p0) m Q):Wf 197 [.int .i64 p0] m Q:=dB ok197 h
def t198 (p0:Int):T:=
 .call 218 [(.int .i64 (wA .i64 ((wA .i64 (1900+(wA .i64 (Int.tdiv p0 12))))-1)))] fun a0=>
 .asI .i64 a0 fun n1=>.call 218 [.int .i64 1899] fun a2=>
 .asI .i64 a2 fun n3=>.jump 2 [.int .i64 p0,(.int .i64 (wA .i64 (1900+(wA .i64 (Int.tdiv p0 12))))),(.int .i64 (wA .i64 ((wA .i64 ((wA .i64 (365*(wA .i64 ((wA .i64 (1900+(wA .i64 (Int.tdiv p0 12))))-1900))))+n1))-n3))),.int .i64 1]
def w198(p0:Int)(h:wp 198 (t198 p0) m Q):Wf 198 [.int .i64 p0] m Q:=dB ok198 h
def t198_2(v0 v3 v4 v5:Int):T:=
 .ite (nC v5 (Int.tmod v0 12))
 (.call 219 [.int .i64 v3,.int .i64 v5] fun a0=>
 .asI .i64 a0 fun n1=>.jump 2 [.int .i64 v0,.int .i64 v3,(.int .i64 (wA .i64 (v4+n1))),(.int .i64 (wA .i64 (v5+1)))])
 (.ret (.int .i64 v4))
def zzy(v0 v3 v4 v5:Int)(h:wp 198 (t198_2 v0 v3 v4 v5) m Q):jp 198 2 [.int .i64 v0,.int .i64 v3,.int .i64 v4,.int .i64 v5] m Q:=vD ok198 h
def t210 (A0:Bool)(A1:zA)(A2:Bool)(A3:zA):T:=
 .heavy (gI yA 279 2 [(0,(.agg [.bool A0,A1])),(1,(.agg [.bool A2,A3]))]) fun a0=>
 .call 224 [a0] fun a1=>
 .asB a1 fun b2=>.ite (!b2)
 (.ite true (.ite true (.ret (.tup [.agg [.bool false,.nilslice],.int .i64 2])) .fail) .fail)
 (.call 190 [A1] fun a3=>
 .ite (same 10 A3 A3) (.call 190 [A3] fun a4=>
 .call 226 [a3,a4] fun a5=>
 .call 225 [.bool false,a5] fun a6=>
 .asG zz6z a6 fun X7=>
 .ite (tC zA.one [.bool (X7.b 0),X7.v 1]) (.ret (.tup [(.agg [.bool (X7.b 0),X7.v 1]),.int .i64 0])) .fail) .fail)
def w210(A0:Bool)(A1:zA)(A2:Bool)(A3:zA)(h:wp 210 (t210 A0 A1 A2 A3) m Q):Wf 210 [.agg [.bool A0,A1],.agg [.bool A2,A3]] m Q:=dB ok210 h
def t211 (p0 p1 p2:Int):T:=
 .ite (!iA p2 0)
 (.ite (nC p2 p0)
 (.light (fun m=>oA yA 193 ⟨0,m⟩ (.ptr 2 0)) fun a0=>.fail)
 (.jump 7 [.int .u32 p0,.int .u32 p1,.int .u32 p2]))
 (.jump 7 [.int .u32 p0,.int .u32 p1,.int .u32 p2])
def w211(p0 p1 p2:Int)(h:wp 211 (t211 p0 p1 p2) m Q):Wf 211 [.int .u32 p0,.int .u32 p1,.int .u32 p2] m Q:=dB ok211 h
def z6r(v0 v1 v2:Int):T:=
 .opt (qH Nat.lor .u64 (wA .u64 ((wA .u64 v0)*4294967296)) (wA .u64 v1)) fun a0=>.asI .u64 a0 fun n1=>.opt (z4q .u64 n1 (wA .u64 v2)) fun a2=>.asI .u64 a2 fun n3=>.opt (z4p .u64 n1 (wA .u64 v2)) fun a4=>.asI .u64 a4 fun n5=>.ret (.tup [(.int .u32 (wA .u32 n3)),(.int .u32 (wA .u32 n5))])
def j211_7(v0 v1 v2:Int)(h:wp 211 (z6r v0 v1 v2) m Q):jp 211 7 [.int .u32 v0,.int .u32 v1,.int .u32 v2] m Q:=vD ok211 h
def t212 (p0:zA):T:=
 .jump 2 [p0]
def w212(p0:zA)(h:wp 212 (t212 p0) m Q):Wf 212 [p0] m Q:=dB ok212 h
def zqm(v0:zA):T:=
 .opt (bB v0) fun a0=>.asI .i64 a0 fun n1=>.ite (iB 0 n1)
 (.opt (bB v0) fun a2=>.asI .i64 a2 fun n3=>.opt (mB yA 244 v0 (.int .i64 (wA .i64 (n3-1)))) fun a4=>.light (fun m=>oA yA 246 ⟨0,m⟩ a4) fun a5=>.asI .u32 a5 fun n6=>.ite (iA n6 0)
 (.opt (bB v0) fun a7=>.asI .i64 a7 fun n8=>.light (fun m=>uG yA 244 ⟨0,m⟩ v0 none (some (.int .i64 (wA .i64 (n8-1))))) fun a9=>.jump 2 [a9])
 (.ret v0))
 (.ret v0)
def zzx(v0:zA)(h:wp 212 (zqm v0) m Q):jp 212 2 [v0] m Q:=vD ok212 h
def t213 (p0 w0:zA):T:=
 .light (fun m=>oA yA 244 ⟨0,m⟩ w0) fun a0=>.opt (bB a0) fun a1=>.asI .i64 a1 fun n2=>.jump 2 [p0,w0,(.int .i64 (wA .i64 (n2-1)))]
def w213(p0 w0:zA)(h:wp 213 (t213 p0 w0) m Q):Wf 213 [p0,w0] m Q:=dB ok213 h
def zw8(v0 v1:zA)(v3:Int):T:=
 .ite (nC 0 v3)
 (.light (fun m=>oA yA 244 ⟨0,m⟩ v1) fun a0=>.opt (mB yA 244 a0 (.int .i64 v3)) fun a1=>.light (fun m=>oA yA 246 ⟨0,m⟩ a1) fun a2=>.asI .u32 a2 fun n3=>.callv v0 [.int .u32 n3] fun a4=>
 .asB a4 fun b5=>.ite (!b5)
 (.ret (.tup []))
 (.jump 2 [v0,v1,(.int .i64 (wA .i64 (v3-1)))]))
 (.ret (.tup []))
def z7f(v0 v1:zA)(v3:Int)(h:wp 213 (zw8 v0 v1 v3) m Q):jp 213 2 [v0,v1,.int .i64 v3] m Q:=vD ok213 h
def t215 (p0 p1:List Nat):T:=
 .call 194 [.str p0,.str p1] fun a0=>
 .asB a0 fun b1=>.ite (!b1)
 (.ret (.tup [.str p0,.bool false]))
 (.opt (uG yA 9 H0A (.str p0) (some (.int .i64 (Int.ofNat (yB p1)))) none) fun a2=>.asS a2 fun s3=>.ret (.tup [.str s3,.bool true]))
def w215(p0 p1:List Nat)(h:wp 215 (t215 p0 p1) m Q):Wf 215 [.str p0,.str p1] m Q:=dB ok215 h
def t216 (p0:Int)(p1:zA):T:=
 .jump 2 [p1,.int .i64 0,.int .i64 p0]
def w216(p0:Int)(p1:zA)(h:wp 216 (t216 p0 p1) m Q):Wf 216 [.int .i64 p0,p1] m Q:=dB ok216 h
def t216_2(v1:zA)(v5 v6:Int):T:=
 .ite (iB v5 v6)
 (.callv v1 [(.int .i64 (wA .i64 (Int.fdiv (wA .u64 (wA .i64 (v5+v6))) 2)))] fun a0=>
 .asB a0 fun b1=>.ite (!b1)
 (.jump 2 [v1,(.int .i64 (wA .i64 ((wA .i64 (Int.fdiv (wA .u64 (wA .i64 (v5+v6))) 2))+1))),.int .i64 v6])
 (.jump 2 [v1,.int .i64 v5,(.int .i64 (wA .i64 (Int.fdiv (wA .u64 (wA .i64 (v5+v6))) 2)))]))
 (.ret (.int .i64 v5))
def zzw(v1:zA)(v5 v6:Int)(h:wp 216 (t216_2 v1 v5 v6) m Q):jp 216 2 [v1,.int .i64 v5,.int .i64 v6] m Q:=vD ok216 h
def t217 (p0:Int)(w0:zA):T:=
 .light (fun m=>oA yA 3 ⟨0,m⟩ w0) fun a0=>.asI .i64 a0 fun n1=>.call 198 [(.int .i64 (wA .i64 (p0+1)))] fun a2=>
 .asI .i64 a2 fun n3=>.light (fun m=>oA yA 3 ⟨0,m⟩ w0) fun a4=>.ite (same 10 a4 (.int .i64 n1)) (.ret (.bool (iB n1 n3))) .fail
def w217(p0:Int)(w0:zA)(h:wp 217 (t217 p0 w0) m Q):Wf 217 [.int .i64 p0,w0] m Q:=dB ok217 h
def t218 (p0:Int):T:=
 .ret (.int .i64 (wA .i64 ((wA .i64 ((wA .i64 (Int.tdiv p0 4))-(wA .i64 (Int.tdiv p0 100))))+(wA .i64 (Int.tdiv p0 400)))))
def w218(p0:Int)(h:wp 218 (t218 p0) m Q):Wf 218 [.int .i64 p0] m Q:=dB ok218 h
def t219 (p0 p1:Int):T:=
 .ite (iB p1 1)
 (.ret (.int .i64 0))
 (.ite (iB 12 p1)
 (.ret (.int .i64 0))
 (.ite (iA p1 2)
 (.call 231 [.int .i64 p0] fun a0=>
 .asB a0 fun b1=>.ite b1
 (.ret (.int .i64 29))
 (.opt (mB yA 275 (.ptr 3 0) (.int .i64 (wA .i64 (p1-1)))) fun a2=>.light (fun m=>oA yA 3 ⟨0,m⟩ a2) fun a3=>.asI .i64 a3 fun n4=>.ret (.int .i64 n4)))
 (.opt (mB yA 275 (.ptr 3 0) (.int .i64 (wA .i64 (p1-1)))) fun a5=>.light (fun m=>oA yA 3 ⟨0,m⟩ a5) fun a6=>.asI .i64 a6 fun n7=>.ret (.int .i64 n7))))
def w219(p0 p1:Int)(h:wp 219 (t219 p0 p1) m Q):Wf 219 [.int .i64 p0,.int .i64 p1] m Q:=dB ok219 h
def t224 (p0:zA):T:=
 .opt (bB p0) fun a0=>.asI .i64 a0 fun n1=>.jump 2 [p0,.int .i64 n1,.int .i64 0]
def w224(p0:zA)(h:wp 224 (t224 p0) m Q):Wf 224 [p0] m Q:=dB ok224 h
def zw7(v5:zA)(v6 v7:Int):T:=
 .ite (iB v7 v6)
 (.opt (mB yA 279 v5 (.int .i64 v7)) fun a0=>.light (fun m=>oA yA 29 ⟨0,m⟩ a0) fun a1=>.asG zz6z a1 fun X2=>
 .ite (tC zA.one [.bool (X2.b 0),X2.v 1]) (.call 187 [(.agg [.bool (X2.b 0),X2.v 1])] fun a3=>
 .asB a3 fun b4=>.ite (!b4)
 (.ret (.bool false))
 (.jump 2 [v5,.int .i64 v6,(.int .i64 (wA .i64 (v7+1)))])) .fail)
 (.ret (.bool true))
def z7e(v5:zA)(v6 v7:Int)(h:wp 224 (zw7 v5 v6 v7) m Q):jp 224 2 [v5,.int .i64 v6,.int .i64 v7] m Q:=vD ok224 h
def t225 (p0:Bool)(p1:zA):T:=
 .call 212 [p1] fun a0=>
 .opt (bB a0) fun a1=>.asI .i64 a1 fun n2=>.ite (iA n2 0)
 (.ite true (.ite true (.ret (.agg [.bool false,.nilslice])) .fail) .fail)
 (.opt (bB a0) fun a3=>.asI .i64 a3 fun n4=>.heavy (qL yA 27 (.int .i64 (wA .i64 (2*n4))) (.int .i64 (wA .i64 (2*n4)))) fun a5=>
 .opt (bB a0) fun a6=>.asI .i64 a6 fun n7=>.jump 2 [.bool p0,a5,a0,.int .i64 n7,.int .i64 0,.bool false,.nilslice])
def w225(p0:Bool)(p1:zA)(h:wp 225 (t225 p0 p1) m Q):Wf 225 [.bool p0,p1] m Q:=dB ok225 h
def zw6(v0:Bool)(v5 v18:zA)(v19 v20:Int)(A0:Bool)(A1:zA):T:=
 .ite (iB v20 v19)
 (.opt (mB yA 244 v18 (.int .i64 v20)) fun a0=>.light (fun m=>oA yA 246 ⟨0,m⟩ a0) fun a1=>.asI .u32 a1 fun n2=>.opt (mB yA 27 v5 (.int .i64 (wA .i64 (2*v20)))) fun a3=>.heavy (wD yA 202 a3 (.int .u16 (wA .u16 n2))) fun _=>
 .opt (mB yA 27 v5 (.int .i64 (wA .i64 ((wA .i64 (2*v20))+1)))) fun a4=>.heavy (wD yA 202 a4 (.int .u16 (wA .u16 (Int.fdiv n2 65536)))) fun _=>
 .jump 2 [.bool v0,v5,v18,.int .i64 v19,(.int .i64 (wA .i64 (v20+1))),.bool A0,A1])
 (.opt (bB v5) fun a5=>.asI .i64 a5 fun n6=>.opt (mB yA 27 v5 (.int .i64 (wA .i64 (n6-1)))) fun a7=>.light (fun m=>oA yA 202 ⟨0,m⟩ a7) fun a8=>.asI .u16 a8 fun n9=>.ite (iA n9 0)
 (.opt (bB v5) fun a10=>.asI .i64 a10 fun n11=>.light (fun m=>uG yA 27 ⟨0,m⟩ v5 none (some (.int .i64 (wA .i64 (n11-1))))) fun a12=>.ite (tC zA.one [.bool v0,a12]) (.ite (tC zA.one [.bool v0,a12]) (.ret (.agg [.bool v0,a12])) .fail) .fail)
 (.ite (tC zA.one [.bool v0,v5]) (.ite (tC zA.one [.bool v0,v5]) (.ret (.agg [.bool v0,v5])) .fail) .fail))
def z7d(v0:Bool)(v5 v18:zA)(v19 v20:Int)(A0:Bool)(A1:zA)(h:wp 225 (zw6 v0 v5 v18 v19 v20 A0 A1) m Q):jp 225 2 [.bool v0,v5,v18,.int .i64 v19,.int .i64 v20,.bool A0,A1] m Q:=vD ok225 h
def t226 (p0 p1:zA):T:=
 .call 236 [p0,p1] fun a0=>
 .asI .i64 a0 fun n1=>.ite (iB n1 0)
 (.jump 2 [p1,p0])
 (.jump 2 [p0,p1])
def w226(p0 p1:zA)(h:wp 226 (t226 p0 p1) m Q):Wf 226 [p0,p1] m Q:=dB z3y h
def z6q(v0 v1:zA):T:=
 .opt (bB v1) fun a0=>.asI .i64 a0 fun n1=>.ite (iB 2 n1)
 (.call 237 [v0,v1] fun a2=>
 .asG [.int .u64 0,.int .u64 0,.int .u64 0,.int .u64 0,.bool false] a2 fun X3=>
 .ite true (.ite (iA (X3.i 2) 0)
 (.call 238 [v0,v1] fun a4=>
 .opt (rB 0 a4) fun a5=>.opt (rB 1 a4) fun a6=>.jump 2 [v1,a6])
 (.ite (X3.b 4)
 (.call 239 [.int .u64 (X3.i 0),v0,.int .u64 (X3.i 2),v1] fun a7=>
 .ite (same 10 (.int .u64 (X3.i 3)) (.int .u64 (X3.i 3))) (.ite (same 10 (.int .u64 (X3.i 1)) (.int .u64 (X3.i 1))) (.call 239 [.int .u64 (X3.i 3),v1,.int .u64 (X3.i 1),v0] fun a8=>
 .jump 2 [a7,a8]) .fail) .fail)
 (.call 239 [.int .u64 (X3.i 2),v1,.int .u64 (X3.i 0),v0] fun a9=>
 .ite (same 10 (.int .u64 (X3.i 1)) (.int .u64 (X3.i 1))) (.ite (same 10 (.int .u64 (X3.i 3)) (.int .u64 (X3.i 3))) (.call 239 [.int .u64 (X3.i 1),v0,.int .u64 (X3.i 3),v1] fun a10=>
 .jump 2 [a9,a10]) .fail) .fail))) .fail)
 (.opt (bB v1) fun lF=>.asI .i64 lF fun n12=>.ite (iA n12 0)
 (.ret v0)
 (.opt (bB v0) fun a13=>.asI .i64 a13 fun n14=>.ite (iB 2 n14)
 (.call 238 [v0,v1] fun a15=>
 .opt (rB 0 a15) fun a16=>.opt (rB 1 a15) fun a17=>.jump 33 [v1,a17])
 (.jump 33 [v0,v1])))
def j226_2(v0 v1:zA)(h:wp 226 (z6q v0 v1) m Q):jp 226 2 [v0,v1] m Q:=vD z3y h
def zw5(v0 v1:zA):T:=
 .call 240 [v0] fun a0=>
 .asI .u64 a0 fun n1=>.call 240 [v1] fun a2=>
 .asI .u64 a2 fun n3=>.jump 6 [.int .u64 n1,.int .u64 n3]
def z90(v0 v1:zA)(h:wp 226 (zw5 v0 v1) m Q):jp 226 33 [v0,v1] m Q:=vD z3y h
def z6p(v10 v11:Int):T:=
 .ite (!iA v11 0)
 (.opt (z4p .u64 v10 v11) fun a0=>.asI .u64 a0 fun n1=>.jump 6 [.int .u64 v11,.int .u64 n1])
 (.call 241 [.int .u64 v10] fun a2=>
 .ret a2)
def j226_6(v10 v11:Int)(h:wp 226 (z6p v10 v11) m Q):jp 226 6 [.int .u64 v10,.int .u64 v11] m Q:=vD z3y h
def t231 (p0:Int):T:=
 .ite (iA (Int.tmod p0 4) 0)
 (.ite (!iA (Int.tmod p0 100) 0)
 (.ret (.bool true))
 (.ret (.bool (iA (Int.tmod p0 400) 0))))
 (.ret (.bool false))
def w231(p0:Int)(h:wp 231 (t231 p0) m Q):Wf 231 [.int .i64 p0] m Q:=dB ok231 h
def t236 (p0 p1:zA):T:=
 .opt (bB p0) fun a0=>.asI .i64 a0 fun n1=>.opt (bB p1) fun a2=>.asI .i64 a2 fun n3=>.ite (!iA n1 n3)
 (.opt (bB p0) fun a4=>.asI .i64 a4 fun n5=>.opt (bB p1) fun a6=>.asI .i64 a6 fun n7=>.ite (iB n5 n7)
 (.ret (.int .i64 (-1)))
 (.ret (.int .i64 1)))
 (.opt (bB p0) fun a8=>.asI .i64 a8 fun n9=>.jump 2 [p0,p1,(.int .i64 (wA .i64 (n9-1)))])
def w236(p0 p1:zA)(h:wp 236 (t236 p0 p1) m Q):Wf 236 [p0,p1] m Q:=dB ok236 h
def zw4(v0 v1:zA)(v5:Int):T:=
 .ite (nC 0 v5)
 (.opt (mB yA 244 v0 (.int .i64 v5)) fun a0=>.light (fun m=>oA yA 246 ⟨0,m⟩ a0) fun a1=>.asI .u32 a1 fun n2=>.opt (mB yA 244 v1 (.int .i64 v5)) fun a3=>.light (fun m=>oA yA 246 ⟨0,m⟩ a3) fun a4=>.asI .u32 a4 fun n5=>.ite (!iA n2 n5)
 (.opt (mB yA 244 v0 (.int .i64 v5)) fun a6=>.light (fun m=>oA yA 246 ⟨0,m⟩ a6) fun a7=>.asI .u32 a7 fun n8=>.opt (mB yA 244 v1 (.int .i64 v5)) fun a9=>.light (fun m=>oA yA 246 ⟨0,m⟩ a9) fun a10=>.asI .u32 a10 fun n11=>.ite (iB n8 n11)
 (.ret (.int .i64 (-1)))
 (.ret (.int .i64 1)))
 (.jump 2 [v0,v1,(.int .i64 (wA .i64 (v5-1)))]))
 (.ret (.int .i64 0))
def z7c(v0 v1:zA)(v5:Int)(h:wp 236 (zw4 v0 v1 v5) m Q):jp 236 2 [v0,v1,.int .i64 v5] m Q:=vD ok236 h
def t237 (p0 p1:zA):T:=
 .opt (bB p0) fun a0=>.asI .i64 a0 fun n1=>.opt (mB yA 244 p0 (.int .i64 (wA .i64 (n1-1)))) fun a2=>.light (fun m=>oA yA 246 ⟨0,m⟩ a2) fun a3=>.asI .u32 a3 fun n4=>.call 249 [.int .u32 n4] fun a5=>
 .asI .i64 a5 fun n6=>.call 250 [p0,.int .i64 n1,.int .i64 n6] fun a7=>
 .asI .u64 a7 fun n8=>.call 250 [p1,.int .i64 n1,.int .i64 n6] fun a9=>
 .asI .u64 a9 fun n10=>.ite true (.ite true (.jump 2 [.int .u64 n8,.int .u64 n10,.int .u64 0,.int .u64 1,.int .u64 0,.int .u64 0,.int .u64 0,.int .u64 0,.bool false,.int .u64 0,.int .u64 1,.int .u64 0,.int .u64 0,.bool false]) .fail) .fail
def w237(p0 p1:zA)(h:wp 237 (t237 p0 p1) m Q):Wf 237 [p0,p1] m Q:=dB ok237 h
def z6o(v7 v8 v10 v11 A0 A1 A2 A3:Int)(A4:Bool)(A5 A6 A7 A8:Int)(A9:Bool):T:=
 .ite (nC v11 v8)
 (.ite (nC (wA .u64 (A8+v11)) (wA .u64 (v7-v8)))
 (.opt (z4q .u64 v7 v8) fun a0=>.asI .u64 a0 fun n1=>.opt (z4p .u64 v7 v8) fun a2=>.asI .u64 a2 fun n3=>.ite true (.ite true (.ite true (.ite true (.ite true (.jump 2 [.int .u64 v8,.int .u64 n3,(.int .u64 (wA .u64 (A6+(wA .u64 (n1*v10))))),(.int .u64 (wA .u64 (A8+(wA .u64 (n1*v11))))),.int .u64 A0,.int .u64 A1,.int .u64 A2,.int .u64 A3,.bool A4,.int .u64 A6,.int .u64 v10,.int .u64 A8,.int .u64 v11,(.bool (!A9))]) .fail) .fail) .fail) .fail) .fail)
 (.ite true (.ret (.agg [.int .u64 A5,.int .u64 A6,.int .u64 A7,.int .u64 A8,.bool A9])) .fail))
 (.ite true (.ret (.agg [.int .u64 A5,.int .u64 A6,.int .u64 A7,.int .u64 A8,.bool A9])) .fail)
def j237_2(v7 v8 v10 v11 A0 A1 A2 A3:Int)(A4:Bool)(A5 A6 A7 A8:Int)(A9:Bool)(h:wp 237 (z6o v7 v8 v10 v11 A0 A1 A2 A3 A4 A5 A6 A7 A8 A9) m Q):jp 237 2 [.int .u64 v7,.int .u64 v8,.int .u64 v10,.int .u64 v11,.int .u64 A0,.int .u64 A1,.int .u64 A2,.int .u64 A3,.bool A4,.int .u64 A5,.int .u64 A6,.int .u64 A7,.int .u64 A8,.bool A9] m Q:=vD ok237 h
def t238 (p0 p1:zA):T:=
 .call 236 [p0,p1] fun a0=>
 .asI .i64 a0 fun n1=>.ite (iB n1 0)
 (.call 251 [p0] fun a2=>
 .ret (.tup [.nilslice,a2]))
 (.opt (bB p1) fun a3=>.asI .i64 a3 fun n4=>.ite (iA n4 1)
 (.opt (mB yA 244 p1 (.int .i64 0)) fun a5=>.light (fun m=>oA yA 246 ⟨0,m⟩ a5) fun a6=>.asI .u32 a6 fun n7=>.call 191 [p0,.int .u32 n7] fun a8=>
 .opt (rB 0 a8) fun a9=>.opt (rB 1 a8) fun a10=>.asI .u32 a10 fun n11=>.heavy (gI yA 244 1 [(0,(.int .u32 n11))]) fun a12=>
 .call 212 [a12] fun a13=>
 .ret (.tup [a9,a13]))
 (.opt (bB p1) fun a14=>.asI .i64 a14 fun n15=>.opt (mB yA 244 p1 (.int .i64 (wA .i64 (n15-1)))) fun a16=>.light (fun m=>oA yA 246 ⟨0,m⟩ a16) fun a17=>.asI .u32 a17 fun n18=>.call 249 [.int .u32 n18] fun a19=>
 .asI .i64 a19 fun n20=>.call 252 [p1,.int .i64 n20] fun a21=>
 .light (fun m=>uG yA 244 ⟨0,m⟩ a21 none (some (.int .i64 n15))) fun a22=>.call 252 [p0,.int .i64 n20] fun a23=>
 .opt (bB p0) fun a24=>.asI .i64 a24 fun n25=>.heavy (qL yA 244 (.int .i64 (wA .i64 ((wA .i64 (n25-n15))+1))) (.int .i64 (wA .i64 ((wA .i64 (n25-n15))+1)))) fun a26=>
 .opt (bB a26) fun a27=>.asI .i64 a27 fun n28=>.jump 2 [.int .i64 n15,.int .i64 n20,a22,a23,a26,(.int .i64 (wA .i64 (n28-1)))]))
def w238(p0 p1:zA)(h:wp 238 (t238 p0 p1) m Q):Wf 238 [p0,p1] m Q:=dB z9a h
def zw3(v8 v9:Int)(v10 v11 v12:zA)(v13:Int):T:=
 .ite (nC 0 v13)
 (.light (fun m=>uG yA 244 ⟨0,m⟩ v11 (some (.int .i64 v13)) (some (.int .i64 (wA .i64 ((wA .i64 (v13+v8))+1))))) fun a0=>.call 253 [a0,v10] fun a1=>
 .asI .u32 a1 fun n2=>.opt (mB yA 244 v12 (.int .i64 v13)) fun a3=>.heavy (wD yA 246 a3 (.int .u32 n2)) fun _=>
 .jump 2 [.int .i64 v8,.int .i64 v9,v10,v11,v12,(.int .i64 (wA .i64 (v13-1)))])
 (.jump 6 [.int .i64 v8,.int .i64 v9,v11,v12,.int .i64 v8,.int .i64 0])
def z7b(v8 v9:Int)(v10 v11 v12:zA)(v13:Int)(h:wp 238 (zw3 v8 v9 v10 v11 v12 v13) m Q):jp 238 2 [.int .i64 v8,.int .i64 v9,v10,v11,v12,.int .i64 v13] m Q:=vD z9a h
def zw2(v8 v9:Int)(v11 v12:zA)(v77 v78:Int):T:=
 .ite (iB v78 v77)
 (.opt (mB yA 244 v11 (.int .i64 (wA .i64 (v78+1)))) fun a0=>.light (fun m=>oA yA 246 ⟨0,m⟩ a0) fun a1=>.asI .u32 a1 fun n2=>.opt (mB yA 244 v11 (.int .i64 v78)) fun a3=>.light (fun m=>oA yA 246 ⟨0,m⟩ a3) fun a4=>.asI .u32 a4 fun n5=>.opt (qH Nat.lor .u64 (wA .u64 ((wA .u64 n2)*4294967296)) (wA .u64 n5)) fun a6=>.asI .u64 a6 fun n7=>.opt (z96 .u64 n7 v9) fun a8=>.asI .u64 a8 fun n9=>.opt (mB yA 244 v11 (.int .i64 v78)) fun a10=>.heavy (wD yA 246 a10 (.int .u32 (wA .u32 n9))) fun _=>
 .jump 6 [.int .i64 v8,.int .i64 v9,v11,v12,.int .i64 v77,(.int .i64 (wA .i64 (v78+1)))])
 (.light (fun m=>uG yA 244 ⟨0,m⟩ v11 none (some (.int .i64 v8))) fun lF=>.call 212 [v12] fun a12=>
 .light (fun m=>uG yA 244 ⟨0,m⟩ v11 none (some (.int .i64 v8))) fun a13=>.ite (same 10 a13 lF) (.call 212 [lF] fun a14=>
 .ret (.tup [a12,a14])) .fail)
def z7a(v8 v9:Int)(v11 v12:zA)(v77 v78:Int)(h:wp 238 (zw2 v8 v9 v11 v12 v77 v78) m Q):jp 238 6 [.int .i64 v8,.int .i64 v9,v11,v12,.int .i64 v77,.int .i64 v78] m Q:=vD z9a h
def t239 (p0:Int)(p1:zA)(p2:Int)(p3:zA):T:=
 .opt (bB p1) fun a0=>.asI .i64 a0 fun n1=>.opt (bB p3) fun a2=>.asI .i64 a2 fun n3=>.heavy (qL yA 244 (.int .i64 (wA .i64 ((bif iB n1 n3 then n3 else n1)+1))) (.int .i64 (wA .i64 ((bif iB n1 n3 then n3 else n1)+1)))) fun a4=>
 .opt (bB a4) fun a5=>.asI .i64 a5 fun n6=>.jump 2 [.int .u64 p0,p1,.int .u64 p2,p3,a4,.int .u64 0,.int .u64 0,.int .u32 0,.int .i64 n6,.int .i64 0]
def w239(p0:Int)(p1:zA)(p2:Int)(p3:zA)(h:wp 239 (t239 p0 p1 p2 p3) m Q):Wf 239 [.int .u64 p0,p1,.int .u64 p2,p3] m Q:=dB z3x h
def zw0(v0:Int)(v1:zA)(v2:Int)(v3 v9:zA)(v10 v11 v12 v22 v23:Int):T:=
 .ite (iB v23 v22)
 (.opt (bB v1) fun a0=>.asI .i64 a0 fun n1=>.ite (iB v23 n1)
 (.opt (mB yA 244 v1 (.int .i64 v23)) fun a2=>.light (fun m=>oA yA 246 ⟨0,m⟩ a2) fun a3=>.asI .u32 a3 fun n4=>.jump 17 [.int .u64 v0,v1,.int .u64 v2,v3,v9,(.int .u64 (wA .u64 (v10+(wA .u64 (v0*(wA .u64 n4)))))),.int .u64 v11,.int .u32 v12,.int .i64 v23,.int .i64 v22,.int .i64 v23])
 (.jump 17 [.int .u64 v0,v1,.int .u64 v2,v3,v9,.int .u64 v10,.int .u64 v11,.int .u32 v12,.int .i64 v23,.int .i64 v22,.int .i64 v23]))
 (.call 212 [v9] fun a5=>
 .ret a5)
def z69(v0:Int)(v1:zA)(v2:Int)(v3 v9:zA)(v10 v11 v12 v22 v23:Int)(h:wp 239 (zw0 v0 v1 v2 v3 v9 v10 v11 v12 v22 v23) m Q):jp 239 2 [.int .u64 v0,v1,.int .u64 v2,v3,v9,.int .u64 v10,.int .u64 v11,.int .u32 v12,.int .i64 v22,.int .i64 v23] m Q:=vD z3x h
def zw1(v0:Int)(v1:zA)(v2:Int)(v3 v9:zA)(v10 v11 v12 v13 v22 v23:Int):T:=
 .opt (bB v3) fun a0=>.asI .i64 a0 fun n1=>.ite (iB v13 n1)
 (.opt (mB yA 244 v3 (.int .i64 v13)) fun a2=>.light (fun m=>oA yA 246 ⟨0,m⟩ a2) fun a3=>.asI .u32 a3 fun n4=>.jump 21 [.int .u64 v0,v1,.int .u64 v2,v3,v9,.int .u64 v10,(.int .u64 (wA .u64 (v11+(wA .u64 (v2*(wA .u64 n4)))))),.int .u32 v12,.int .i64 v13,.int .i64 v22,.int .i64 v23])
 (.jump 21 [.int .u64 v0,v1,.int .u64 v2,v3,v9,.int .u64 v10,.int .u64 v11,.int .u32 v12,.int .i64 v13,.int .i64 v22,.int .i64 v23])
def z9z(v0:Int)(v1:zA)(v2:Int)(v3 v9:zA)(v10 v11 v12 v13 v22 v23:Int)(h:wp 239 (zw1 v0 v1 v2 v3 v9 v10 v11 v12 v13 v22 v23) m Q):jp 239 17 [.int .u64 v0,v1,.int .u64 v2,v3,v9,.int .u64 v10,.int .u64 v11,.int .u32 v12,.int .i64 v13,.int .i64 v22,.int .i64 v23] m Q:=vD z3x h
def zwz(v0:Int)(v1:zA)(v2:Int)(v3 v9:zA)(v10 v11 v12 v13 v22 v23:Int):T:=
 .call 254 [(.int .u32 (wA .u32 v10)),(.int .u32 (wA .u32 v11)),.int .u32 v12] fun a0=>
 .opt (rB 0 a0) fun a1=>.asI .u32 a1 fun n2=>.opt (rB 1 a0) fun a3=>.asI .u32 a3 fun n4=>.opt (mB yA 244 v9 (.int .i64 v13)) fun a5=>.heavy (wD yA 246 a5 (.int .u32 n2)) fun _=>
 .jump 2 [.int .u64 v0,v1,.int .u64 v2,v3,v9,(.int .u64 (Int.fdiv v10 4294967296)),(.int .u64 (Int.fdiv v11 4294967296)),.int .u32 n4,.int .i64 v22,(.int .i64 (wA .i64 (v23+1)))]
def z9y(v0:Int)(v1:zA)(v2:Int)(v3 v9:zA)(v10 v11 v12 v13 v22 v23:Int)(h:wp 239 (zwz v0 v1 v2 v3 v9 v10 v11 v12 v13 v22 v23) m Q):jp 239 21 [.int .u64 v0,v1,.int .u64 v2,v3,v9,.int .u64 v10,.int .u64 v11,.int .u32 v12,.int .i64 v13,.int .i64 v22,.int .i64 v23] m Q:=vD z3x h
def t240 (p0:zA):T:=
 .heavy (bG yA 225) fun a0=>
 .heavy (wD yA 225 a0 (.int .u64 0)) fun _=>
 .call 192 [p0] fun a1=>
 .range (npC yA) a1 2 1 [a0]
 (.light (fun m=>oA yA 225 ⟨0,m⟩ a0) fun a2=>.asI .u64 a2 fun n3=>.ret (.int .u64 n3))
 (.ret (.int .u64 0))
def w240(p0:zA)(h:wp 240 (t240 p0) m Q):Wf 240 [p0] m Q:=dB ok240 h
def z6n(v3:zA)(v7:Int):T:=
 .light (fun m=>oA yA 225 ⟨0,m⟩ v3) fun a0=>.asI .u64 a0 fun n1=>.opt (qH Nat.lor .u64 (wA .u64 (n1*4294967296)) (wA .u64 v7)) fun a2=>.asI .u64 a2 fun n3=>.heavy (wD yA 225 v3 (.int .u64 n3)) fun _=>
 .ret (.bool true)
def j240_2(v3:zA)(v7:Int)(h:wp 240 (z6n v3 v7) m Q):jp 240 2 [v3,.int .u32 v7] m Q:=vD ok240 h
def t241 (p0:Int):T:=
 .heavy (gI yA 244 2 [(0,(.int .u32 (wA .u32 p0))),(1,(.int .u32 (wA .u32 (Int.fdiv p0 4294967296))))]) fun a0=>
 .call 212 [a0] fun a1=>
 .ret a1
def w241(p0:Int)(h:wp 241 (t241 p0) m Q):Wf 241 [.int .u64 p0] m Q:=dB ok241 h
def t249 (p0:Int):T:=
 .call 258 [.int .u32 p0] fun a0=>
 .asI .i64 a0 fun n1=>.ret (.int .i64 (wA .i64 (32-n1)))
def w249(p0:Int)(h:wp 249 (t249 p0) m Q):Wf 249 [.int .u32 p0] m Q:=dB ok249 h
def t250 (p0:zA)(p1 p2:Int):T:=
 .heavy (znk p0) fun a0=>
 .callv (.func (.func 259) [] [a0]) [(.int .i64 (wA .i64 (p1-1)))] fun a1=>
 .asI .u64 a1 fun n2=>.callv (.func (.func 259) [] [a0]) [(.int .i64 (wA .i64 (p1-2)))] fun a3=>
 .asI .u64 a3 fun n4=>.opt (qH Nat.lor .u64 (wA .u64 (n2*4294967296)) n4) fun a5=>.asI .u64 a5 fun n6=>.opt (zz5 .u64 n6 p2) fun a7=>.asI .u64 a7 fun n8=>.callv (.func (.func 259) [] [a0]) [(.int .i64 (wA .i64 (p1-3)))] fun a9=>
 .asI .u64 a9 fun n10=>.opt (z96 .u64 n10 (wA .i64 (32-p2))) fun lF=>.asI .u64 lF fun n12=>.opt (qH Nat.lor .u64 n8 n12) fun a13=>.asI .u64 a13 fun n14=>.ret (.int .u64 n14)
def e250(p0:zA)(p1 p2:Int):entT yA Tryz.f250 8 250 a250 [p0,.int .i64 p1,.int .i64 p2]=t250 p0 p1 p2:=by kernel_rfl
def w250(p0:zA)(p1 p2:Int)(h:wp 250 (t250 p0 p1 p2) m Q):Wf 250 [p0,.int .i64 p1,.int .i64 p2] m Q:=zza4 ok250 (by kernel_rfl) (by rw[e250];exact h)
def t251 (p0:zA):T:=
 .opt ((binA .eql).f yA 244 (.tmp 3) (.const (.slice none 0 0)) p0 .nilslice) fun a0=>.asB a0 fun b1=>.ite b1
 (.ret .nilslice)
 (.heavy (gI yA 244 0 []) fun a2=>
 .heavy (cG yA 244 244 a2 p0) fun a3=>
 .ret a3)
def w251(p0:zA)(h:wp 251 (t251 p0) m Q):Wf 251 [p0] m Q:=dB ok251 h
def t252 (p0:zA)(p1:Int):T:=
 .opt (bB p0) fun a0=>.asI .i64 a0 fun n1=>.heavy (qL yA 244 (.int .i64 (wA .i64 (n1+1))) (.int .i64 (wA .i64 (n1+1)))) fun a2=>
 .opt (bB p0) fun a3=>.asI .i64 a3 fun n4=>.jump 2 [.int .i64 p1,a2,p0,.int .i64 n4,.int .i64 0]
def w252(p0:zA)(p1:Int)(h:wp 252 (t252 p0 p1) m Q):Wf 252 [p0,.int .i64 p1] m Q:=dB ok252 h
def zwy(v1:Int)(v5 v13:zA)(v14 v15:Int):T:=
 .ite (iB v15 v14)
 (.opt (mB yA 244 v13 (.int .i64 v15)) fun a0=>.light (fun m=>oA yA 246 ⟨0,m⟩ a0) fun a1=>.asI .u32 a1 fun n2=>.opt (zz5 .u64 (wA .u64 n2) v1) fun a3=>.asI .u64 a3 fun n4=>.opt (mB yA 244 v5 (.int .i64 v15)) fun a5=>.light (fun m=>oA yA 246 ⟨0,m⟩ a5) fun a6=>.asI .u32 a6 fun n7=>.opt (qH Nat.lor .u32 n7 (wA .u32 n4)) fun a8=>.asI .u32 a8 fun n9=>.opt (mB yA 244 v5 (.int .i64 v15)) fun a10=>.heavy (wD yA 246 a10 (.int .u32 n9)) fun _=>
 .opt (mB yA 244 v5 (.int .i64 (wA .i64 (v15+1)))) fun lF=>.heavy (wD yA 246 lF (.int .u32 (wA .u32 (Int.fdiv n4 4294967296)))) fun _=>
 .jump 2 [.int .i64 v1,v5,v13,.int .i64 v14,(.int .i64 (wA .i64 (v15+1)))])
 (.ret v5)
def z68(v1:Int)(v5 v13:zA)(v14 v15:Int)(h:wp 252 (zwy v1 v5 v13 v14 v15) m Q):jp 252 2 [.int .i64 v1,v5,v13,.int .i64 v14,.int .i64 v15] m Q:=vD ok252 h
def t253 (p0 p1:zA):T:=
 .opt (bB p1) fun a0=>.asI .i64 a0 fun n1=>.opt (mB yA 244 p0 (.int .i64 n1)) fun a2=>.light (fun m=>oA yA 246 ⟨0,m⟩ a2) fun a3=>.asI .u32 a3 fun n4=>.opt (mB yA 244 p0 (.int .i64 (wA .i64 (n1-1)))) fun a5=>.light (fun m=>oA yA 246 ⟨0,m⟩ a5) fun a6=>.asI .u32 a6 fun n7=>.opt (qH Nat.lor .u64 (wA .u64 ((wA .u64 n4)*4294967296)) (wA .u64 n7)) fun a8=>.asI .u64 a8 fun n9=>.opt (mB yA 244 p1 (.int .i64 (wA .i64 (n1-1)))) fun a10=>.light (fun m=>oA yA 246 ⟨0,m⟩ a10) fun lF=>.asI .u32 lF fun n12=>.opt (z4q .u64 n9 (wA .u64 n12)) fun a13=>.asI .u64 a13 fun n14=>.opt (z4p .u64 n9 (wA .u64 n12)) fun a15=>.asI .u64 a15 fun n16=>.jump 2 [p0,p1,.int .i64 n1,(.int .u64 (wA .u64 n12)),.int .u64 n14,.int .u64 n16]
def w253(p0 p1:zA)(h:wp 253 (t253 p0 p1) m Q):Wf 253 [p0,p1] m Q:=dB zym h
def zww(v0 v1:zA)(v5 v7 v8 v9:Int):T:=
 .ite (nC 4294967296 v8)
 (.ite (nC 4294967296 (wA .u64 (v9+v7)))
 (.jump 19 [v0,v1,.int .i64 v5,(.int .u64 (wA .u64 (v8-1)))])
 (.jump 2 [v0,v1,.int .i64 v5,.int .u64 v7,(.int .u64 (wA .u64 (v8-1))),(.int .u64 (wA .u64 (v9+v7)))]))
 (.opt (mB yA 244 v1 (.int .i64 (wA .i64 (v5-2)))) fun a0=>.light (fun m=>oA yA 246 ⟨0,m⟩ a0) fun a1=>.asI .u32 a1 fun n2=>.opt (mB yA 244 v0 (.int .i64 (wA .i64 (v5-2)))) fun a3=>.light (fun m=>oA yA 246 ⟨0,m⟩ a3) fun a4=>.asI .u32 a4 fun n5=>.opt (qH Nat.lor .u64 (wA .u64 (v9*4294967296)) (wA .u64 n5)) fun a6=>.asI .u64 a6 fun n7=>.ite (iB n7 (wA .u64 (v8*(wA .u64 n2))))
 (.ite (nC 4294967296 (wA .u64 (v9+v7)))
 (.jump 19 [v0,v1,.int .i64 v5,(.int .u64 (wA .u64 (v8-1)))])
 (.jump 2 [v0,v1,.int .i64 v5,.int .u64 v7,(.int .u64 (wA .u64 (v8-1))),(.int .u64 (wA .u64 (v9+v7)))]))
 (.jump 19 [v0,v1,.int .i64 v5,.int .u64 v8]))
def z67(v0 v1:zA)(v5 v7 v8 v9:Int)(h:wp 253 (zww v0 v1 v5 v7 v8 v9) m Q):jp 253 2 [v0,v1,.int .i64 v5,.int .u64 v7,.int .u64 v8,.int .u64 v9] m Q:=vD zym h
def zwx(v0 v1:zA)(v5 v8:Int):T:=
 .opt (bB v1) fun a0=>.asI .i64 a0 fun n1=>.jump 6 [v0,v1,.int .i64 v5,.int .u64 v8,.int .u64 0,.int .u64 0,v1,.int .i64 n1,.int .i64 0]
def z9x(v0 v1:zA)(v5 v8:Int)(h:wp 253 (zwx v0 v1 v5 v8) m Q):jp 253 19 [v0,v1,.int .i64 v5,.int .u64 v8] m Q:=vD zym h
def zwv(v0 v1:zA)(v5 v8 v10 v11:Int)(v76:zA)(v77 v78:Int):T:=
 .ite (iB v78 v77)
 (.opt (mB yA 244 v76 (.int .i64 v78)) fun a0=>.light (fun m=>oA yA 246 ⟨0,m⟩ a0) fun a1=>.asI .u32 a1 fun n2=>.opt (mB yA 244 v0 (.int .i64 v78)) fun a3=>.light (fun m=>oA yA 246 ⟨0,m⟩ a3) fun a4=>.asI .u32 a4 fun n5=>.opt (mB yA 244 v0 (.int .i64 v78)) fun a6=>.heavy (wD yA 246 a6 (.int .u32 (wA .u32 (wA .u64 ((wA .u64 ((wA .u64 n5)-(wA .u64 (wA .u32 (wA .u64 ((wA .u64 (v8*(wA .u64 n2)))+v10))))))-v11))))) fun _=>
 .jump 6 [v0,v1,.int .i64 v5,.int .u64 v8,(.int .u64 (Int.fdiv (wA .u64 ((wA .u64 (v8*(wA .u64 n2)))+v10)) 4294967296)),(.int .u64 (Int.fdiv (wA .u64 ((wA .u64 ((wA .u64 n5)-(wA .u64 (wA .u32 (wA .u64 ((wA .u64 (v8*(wA .u64 n2)))+v10))))))-v11)) 9223372036854775808)),v76,.int .i64 v77,(.int .i64 (wA .i64 (v78+1)))])
 (.opt (mB yA 244 v0 (.int .i64 v5)) fun a7=>.light (fun m=>oA yA 246 ⟨0,m⟩ a7) fun a8=>.asI .u32 a8 fun n9=>.opt (mB yA 244 v0 (.int .i64 v5)) fun a10=>.heavy (wD yA 246 a10 (.int .u32 (wA .u32 (wA .u64 ((wA .u64 ((wA .u64 n9)-v10))-v11))))) fun _=>
 .ite (iA (Int.fdiv (wA .u64 ((wA .u64 ((wA .u64 n9)-v10))-v11)) 9223372036854775808) 0)
 (.ret (.int .u32 (wA .u32 v8)))
 (.opt (bB v1) fun lF=>.asI .i64 lF fun n12=>.jump 10 [v0,.int .i64 v5,.int .u64 v8,.int .u32 0,v1,.int .i64 n12,.int .i64 0]))
def z66(v0 v1:zA)(v5 v8 v10 v11:Int)(v76:zA)(v77 v78:Int)(h:wp 253 (zwv v0 v1 v5 v8 v10 v11 v76 v77 v78) m Q):jp 253 6 [v0,v1,.int .i64 v5,.int .u64 v8,.int .u64 v10,.int .u64 v11,v76,.int .i64 v77,.int .i64 v78] m Q:=vD zym h
def znr(v0:zA)(v5 v8 v17:Int)(v129:zA)(v130 v131:Int):T:=
 .ite (iB v131 v130)
 (.opt (mB yA 244 v129 (.int .i64 v131)) fun a0=>.light (fun m=>oA yA 246 ⟨0,m⟩ a0) fun a1=>.asI .u32 a1 fun n2=>.opt (mB yA 244 v0 (.int .i64 v131)) fun a3=>.light (fun m=>oA yA 246 ⟨0,m⟩ a3) fun a4=>.asI .u32 a4 fun n5=>.call 260 [.int .u32 n5,.int .u32 n2,.int .u32 v17] fun a6=>
 .opt (rB 0 a6) fun a7=>.asI .u32 a7 fun n8=>.opt (rB 1 a6) fun a9=>.asI .u32 a9 fun n10=>.opt (mB yA 244 v0 (.int .i64 v131)) fun lF=>.heavy (wD yA 246 lF (.int .u32 n8)) fun _=>
 .jump 10 [v0,.int .i64 v5,.int .u64 v8,.int .u32 n10,v129,.int .i64 v130,(.int .i64 (wA .i64 (v131+1)))])
 (.opt (mB yA 244 v0 (.int .i64 v5)) fun a12=>.light (fun m=>oA yA 246 ⟨0,m⟩ a12) fun a13=>.asI .u32 a13 fun n14=>.opt (mB yA 244 v0 (.int .i64 v5)) fun a15=>.heavy (wD yA 246 a15 (.int .u32 (wA .u32 (n14+v17)))) fun _=>
 .ret (.int .u32 (wA .u32 (wA .u64 (v8-1)))))
def zzv(v0:zA)(v5 v8 v17:Int)(v129:zA)(v130 v131:Int)(h:wp 253 (znr v0 v5 v8 v17 v129 v130 v131) m Q):jp 253 10 [v0,.int .i64 v5,.int .u64 v8,.int .u32 v17,v129,.int .i64 v130,.int .i64 v131] m Q:=vD zym h
def t254 (p0 p1 p2:Int):T:=
 .opt (znn (.int .u32 p0)) fun a0=>.asI .u32 a0 fun n1=>.opt (iAnd .u32 n1 p1) fun a2=>.asI .u32 a2 fun n3=>.opt (qH Nat.xor .u32 p0 p1) fun a4=>.asI .u32 a4 fun n5=>.opt (znn (.int .u32 n5)) fun a6=>.asI .u32 a6 fun n7=>.opt (iAnd .u32 n7 (wA .u32 ((wA .u32 (p0-p1))-p2))) fun a8=>.asI .u32 a8 fun n9=>.opt (qH Nat.lor .u32 n3 n9) fun a10=>.asI .u32 a10 fun n11=>.ret (.tup [(.int .u32 (wA .u32 ((wA .u32 (p0-p1))-p2))),(.int .u32 (Int.fdiv n11 2147483648))])
def w254(p0 p1 p2:Int)(h:wp 254 (t254 p0 p1 p2) m Q):Wf 254 [.int .u32 p0,.int .u32 p1,.int .u32 p2] m Q:=dB ok254 h
def t258 (p0:Int):T:=
 .ite (nC 65536 p0)
 (.jump 9 [(.int .u32 (Int.fdiv p0 65536)),.int .i64 16])
 (.jump 9 [.int .u32 p0,.int .i64 0])
def w258(p0:Int)(h:wp 258 (t258 p0) m Q):Wf 258 [.int .u32 p0] m Q:=dB z89 h
def zwt(v0 v2:Int):T:=
 .ite (nC 256 v0)
 (.jump 15 [(.int .u32 (Int.fdiv v0 256)),(.int .i64 (wA .i64 (v2+8)))])
 (.jump 15 [.int .u32 v0,.int .i64 v2])
def z65(v0 v2:Int)(h:wp 258 (zwt v0 v2) m Q):jp 258 9 [.int .u32 v0,.int .i64 v2] m Q:=vD z89 h
def zwu(v0 v2:Int):T:=
 .opt (xJ yA 9 (.str [0,1,2,2,3,3,3,3,4,4,4,4,4,4,4,4,5,5,5,5,5,5,5,5,5,5,5,5,5,5,5,5,6,6,6,6,6,6,6,6,6,6,6,6,6,6,6,6,6,6,6,6,6,6,6,6,6,6,6,6,6,6,6,6,7,7,7,7,7,7,7,7,7,7,7,7,7,7,7,7,7,7,7,7,7,7,7,7,7,7,7,7,7,7,7,7,7,7,7,7,7,7,7,7,7,7,7,7,7,7,7,7,7,7,7,7,7,7,7,7,7,7,7,7,7,7,7,7,8,8,8,8,8,8,8,8,8,8,8,8,8,8,8,8,8,8,8,8,8,8,8,8,8,8,8,8,8,8,8,8,8,8,8,8,8,8,8,8,8,8,8,8,8,8,8,8,8,8,8,8,8,8,8,8,8,8,8,8,8,8,8,8,8,8,8,8,8,8,8,8,8,8,8,8,8,8,8,8,8,8,8,8,8,8,8,8,8,8,8,8,8,8,8,8,8,8,8,8,8,8,8,8,8,8,8,8,8,8,8,8,8,8,8,8,8,8,8,8,8,8,8,8,8,8,8,8]) (.int .u8 (wA .u8 v0))) fun a0=>.asI .u8 a0 fun n1=>.ret (.int .i64 (wA .i64 (v2+(wA .i64 n1))))
def z9w(v0 v2:Int)(h:wp 258 (zwu v0 v2) m Q):jp 258 15 [.int .u32 v0,.int .i64 v2] m Q:=vD z89 h
def t259 (p0:Int)(w0:zA):T:=
 .light (fun m=>oA yA 244 ⟨0,m⟩ w0) fun a0=>.opt (bB a0) fun a1=>.asI .i64 a1 fun n2=>.ite (nC n2 p0)
 (.ret (.int .u64 0))
 (.light (fun m=>oA yA 244 ⟨0,m⟩ w0) fun a3=>.opt (mB yA 244 a3 (.int .i64 p0)) fun a4=>.light (fun m=>oA yA 246 ⟨0,m⟩ a4) fun a5=>.asI .u32 a5 fun n6=>.ret (.int .u64 (wA .u64 n6)))
def w259(p0:Int)(w0:zA)(h:wp 259 (t259 p0 w0) m Q):Wf 259 [.int .i64 p0,w0] m Q:=dB ok259 h
def t260 (p0 p1 p2:Int):T:=
 .ret (.tup [(.int .u32 (wA .u32 (wA .u64 ((wA .u64 ((wA .u64 p0)+(wA .u64 p1)))+(wA .u64 p2))))),(.int .u32 (wA .u32 (Int.fdiv (wA .u64 ((wA .u64 ((wA .u64 p0)+(wA .u64 p1)))+(wA .u64 p2))) 4294967296)))])
def e260(p0 p1 p2:Int):entT yA Tryz.f260 9 260 a260 [.int .u32 p0,.int .u32 p1,.int .u32 p2]=t260 p0 p1 p2:=by kernel_rfl
def w260(p0 p1 p2:Int)(h:wp 260 (t260 p0 p1 p2) m Q):Wf 260 [.int .u32 p0,.int .u32 p1,.int .u32 p2] m Q:=zza4 ok260 (by kernel_rfl) (by rw[e260];exact h)
end Go.Proofs
