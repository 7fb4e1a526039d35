/- The trees of functions. (Printed by a tool; the kernel agrees.) -/
import Derived.Test.YtfijloeeppcipaaGreatDoorH18
set_option linter.all false
noncomputable section
set_option maxRecDepth 100000
namespace Go.Proofs
open Go Go.Am
variable [sC]{m:Tr rA}{Q:bB}
abbrev qI:List zA:=[.int .u8 0,.str [],.bool false,.int .i64 0,.int .i64 0,.int .i64 0,.int .i64 0,.int .i64 0]
abbrev zmn:List zA:=[.int .u8 0,.str [],.int .u8 0,.bool false,.nilslice,.bool false,.nilslice,.int .i64 0,.nilslice]
abbrev zmt:List zA:=[.str [],.nilslice,.nilslice,.nilslice]
abbrev zu9:List zA:=[.str [],.bool false,.nilslice]
abbrev z7u:List zA:=[.str [],.int .u8 0,.bool false]
abbrev z7t:List zA:=[.int .u8 0,.int .u8 0,.int .u8 0,.int .u8 0,.int .u8 0,.int .u8 0,.int .u8 0,.int .u8 0,.int .u8 0,.int .u8 0]
abbrev zz6z:List zA:=[.bool false,.nilslice]
abbrev zz7z:List zA:=[.bool false,.nilslice,.bool false,.nilslice]
def aB{f kf:Nat}{fn:Func}{A:vB}{x:List zA}{T:T}(h:mB yA F f fn kf A)(k:pA yA.base (Wq yA F yJ) (Jq yA F f) T m Q)(h1:(Nat.ble (aA x) kf&&Nat.ble (aA x) fn.ntmps)=true:=by kernel_rfl)(h2:entT yA fn kf f A x=T:=by kernel_rfl):Wc yA F f x m Q:=zzao h h1 (by rw[h2];exact k)
def cD{f kf i:Nat}{fn:Func}{A:vB}{x:List zA}{T:T}(h:mB yA F f fn kf A)(k:pA yA.base (Wq yA F yJ) (Jq yA F f) T m Q)(h2:ztj (ptsT yA fn kf f A) i x=[T]:=by kernel_rfl):Jq yA F f i x m Q:=Jq_of1 h h2 k
def eqT{b:Nat}{W J:bG}{x y:T}{m:Tr rA}{Q:bB}(e:x=y)(h:pA b W J y m Q):pA b W J x m Q:=e ▸ h
def t3 (A0:List Nat)(A1 A2 A3:zA)(A4:Int)(A5:List Nat)(A6:Int)(A7:Bool)(A8:zA)(A9:Bool)(B0:zA)(B1:Int)(B2:zA)(B3:Int)(B4:List Nat)(B5:Int)(B6:Bool)(B7:zA)(B8:Bool)(B9:zA)(D0:Int)(D1 p2:zA):T:=
 .call 9 [] fun a0=>
 .asB a0 fun b1=>.ite (!b1)
 (.ret (.bool false))
 (.call 10 [.agg [.str A0,A1,A2,A3],.agg [.int .u8 A4,.str A5,.int .u8 A6,.bool A7,A8,.bool A9,B0,.int .i64 B1,B2]] fun a2=>
 .asB a2 fun b3=>.ite (!b3)
 (.ret (.bool true))
 (.call 10 [.agg [.str A0,A1,A2,A3],.agg [.int .u8 B3,.str B4,.int .u8 B5,.bool B6,B7,.bool B8,B9,.int .i64 D0,D1]] fun a4=>
 .asB a4 fun b5=>.ite (!b5)
 (.ret (.bool true))
 (.call 11 [.agg [.str A0,A1,A2,A3],.agg [.int .u8 A4,.str A5,.int .u8 A6,.bool A7,A8,.bool A9,B0,.int .i64 B1,B2]] fun a6=>
 .opt (rB 0 a6) fun a7=>.asI .u8 a7 fun n8=>.opt (rB 1 a6) fun a9=>.asI .i64 a9 fun n10=>.ite (!lA n10 0)
 (.ret (.bool (lA n8 0)))
 (.call 12 [.agg [.int .u8 A4,.str A5,.int .u8 A6,.bool A7,A8,.bool A9,B0,.int .i64 B1,B2]] fun a11=>
 .asG zmn a11 fun X12=>
 .heavy (yH yA 36) fun a13=>
 .heavy (eC yA 36 a13 (.agg [.int .u8 (X12.i 0),.str (X12.s 1),.int .u8 (X12.i 2),.bool (X12.b 3),X12.v 4,.bool (X12.b 5),X12.v 6,.int .i64 (X12.i 7),X12.v 8])) fun _=>
 .call 13 [a13,p2] fun tF=>
 .opt (rC tF) fun a15=>.light (fun m=>mA yA 36 ⟨0,m⟩ a15) fun a16=>.asG zmn a16 fun X17=>
 .call 11 [.agg [.str A0,A1,A2,A3],(.agg [.int .u8 (X17.i 0),.str (X17.s 1),.int .u8 (X17.i 2),.bool (X17.b 3),X17.v 4,.bool (X17.b 5),X17.v 6,.int .i64 (X17.i 7),X17.v 8])] fun a18=>
 .opt (rB 0 a18) fun a19=>.asI .u8 a19 fun n20=>.opt (rB 1 a18) fun a21=>.asI .i64 a21 fun n22=>.call 11 [.agg [.str A0,A1,A2,A3],.agg [.int .u8 B3,.str B4,.int .u8 B5,.bool B6,B7,.bool B8,B9,.int .i64 D0,D1]] fun a23=>
 .opt (rB 0 a23) fun a24=>.asI .u8 a24 fun n25=>.opt (rB 1 a23) fun a26=>.asI .i64 a26 fun n27=>.ite (!lA n22 0)
 (.ret (.bool false))
 (.ite (!lA n27 0)
 (.ret (.bool true))
 (.ite (!lA n20 n25)
 (.ret (.bool true))
 (.call 12 [.agg [.int .u8 B3,.str B4,.int .u8 B5,.bool B6,B7,.bool B8,B9,.int .i64 D0,D1]] fun a28=>
 .asG zmn a28 fun X29=>
 .opt (rC tF) fun a30=>.heavy (eC yA 36 a30 (.agg [.int .u8 (X29.i 0),.str (X29.s 1),.int .u8 (X29.i 2),.bool (X29.b 3),X29.v 4,.bool (X29.b 5),X29.v 6,.int .i64 (X29.i 7),X29.v 8])) fun _=>
 .light (fun m=>mA yA 36 ⟨0,m⟩ a13) fun a31=>.asG zmn a31 fun X32=>
 .call 11 [.agg [.str A0,A1,A2,A3],(.agg [.int .u8 (X32.i 0),.str (X32.s 1),.int .u8 (X32.i 2),.bool (X32.b 3),X32.v 4,.bool (X32.b 5),X32.v 6,.int .i64 (X32.i 7),X32.v 8])] fun a33=>
 .opt (rB 0 a33) fun a34=>.asI .u8 a34 fun n35=>.opt (rB 1 a33) fun a36=>.asI .i64 a36 fun n37=>.ite (lA n37 140)
 (.light (fun m=>mA yA 36 ⟨0,m⟩ a13) fun a38=>.asG zmn a38 fun X39=>
 .call 14 [(.agg [.int .u8 (X39.i 0),.str (X39.s 1),.int .u8 (X39.i 2),.bool (X39.b 3),X39.v 4,.bool (X39.b 5),X39.v 6,.int .i64 (X39.i 7),X39.v 8]),.int .i64 24] fun a40=>
 .asB a40 fun b41=>.ite b41
 (.ret (.bool true))
 (.ite (lA n37 0)
 (.ret (.bool (lA n35 n8)))
 (.ret (.bool false))))
 (.ite (lA n37 0)
 (.ret (.bool (lA n35 n8)))
 (.ret (.bool false))))))))))
def w3(A0:List Nat)(A1 A2 A3:zA)(A4:Int)(A5:List Nat)(A6:Int)(A7:Bool)(A8:zA)(A9:Bool)(B0:zA)(B1:Int)(B2:zA)(B3:Int)(B4:List Nat)(B5:Int)(B6:Bool)(B7:zA)(B8:Bool)(B9:zA)(D0:Int)(D1 p2:zA)(h:wp 3 (t3 A0 A1 A2 A3 A4 A5 A6 A7 A8 A9 B0 B1 B2 B3 B4 B5 B6 B7 B8 B9 D0 D1 p2) m Q):Wf 3 [.agg [.str A0,A1,A2,A3],.agg [.int .u8 A4,.str A5,.int .u8 A6,.bool A7,A8,.bool A9,B0,.int .i64 B1,B2,.int .u8 B3,.str B4,.int .u8 B5,.bool B6,B7,.bool B8,B9,.int .i64 D0,D1],p2] m Q:=aB ok3 h
def t10 (A0:List Nat)(A1 A2 A3:zA)(A4:Int)(A5:List Nat)(A6:Int)(A7:Bool)(A8:zA)(A9:Bool)(B0:zA)(B1:Int)(B2:zA):T:=
 .call 15 [.agg [.str A0,A1,A2,A3],.int .i64 2000] fun a0=>
 .asI .i64 a0 fun n1=>.ite (nC n1 2000)
 (.call 22 [.agg [.int .u8 A4,.str A5,.int .u8 A6,.bool A7,A8,.bool A9,B0,.int .i64 B1,B2],.int .i64 400] fun a2=>
 .asI .i64 a2 fun n3=>.ret (.bool (nC n3 400)))
 (.ret (.bool false))
def w10(A0:List Nat)(A1 A2 A3:zA)(A4:Int)(A5:List Nat)(A6:Int)(A7:Bool)(A8:zA)(A9:Bool)(B0:zA)(B1:Int)(B2:zA)(h:wp 10 (t10 A0 A1 A2 A3 A4 A5 A6 A7 A8 A9 B0 B1 B2) m Q):Wf 10 [.agg [.str A0,A1,A2,A3],.agg [.int .u8 A4,.str A5,.int .u8 A6,.bool A7,A8,.bool A9,B0,.int .i64 B1,B2]] m Q:=aB ok10 h
def t11 (A0:List Nat)(A1 A2 A3:zA)(A4:Int)(A5:List Nat)(A6:Int)(A7:Bool)(A8:zA)(A9:Bool)(B0:zA)(B1:Int)(B2:zA):T:=
 .call 28 [.agg [.str A0,A1,A2,A3]] fun a0=>
 .ite (same 10 (.agg [.int .u8 A4,.str A5,.int .u8 A6,.bool A7,A8,.bool A9,B0,.int .i64 B1,B2]) (.agg [.int .u8 A4,.str A5,.int .u8 A6,.bool A7,A8,.bool A9,B0,.int .i64 B1,B2])) (.call 29 [a0,.agg [.int .u8 A4,.str A5,.int .u8 A6,.bool A7,A8,.bool A9,B0,.int .i64 B1,B2]] fun a1=>
 .opt (rB 0 a1) fun a2=>.asI .u8 a2 fun n3=>.opt (rB 1 a1) fun a4=>.asI .i64 a4 fun n5=>.ret (.tup [.int .u8 n3,.int .i64 n5])) .fail
def w11(A0:List Nat)(A1 A2 A3:zA)(A4:Int)(A5:List Nat)(A6:Int)(A7:Bool)(A8:zA)(A9:Bool)(B0:zA)(B1:Int)(B2:zA)(h:wp 11 (t11 A0 A1 A2 A3 A4 A5 A6 A7 A8 A9 B0 B1 B2) m Q):Wf 11 [.agg [.str A0,A1,A2,A3],.agg [.int .u8 A4,.str A5,.int .u8 A6,.bool A7,A8,.bool A9,B0,.int .i64 B1,B2]] m Q:=aB ok11 h
def t12 (A0:Int)(A1:List Nat)(A2:Int)(A3:Bool)(A4:zA)(A5:Bool)(A6:zA)(A7:Int)(A8:zA):T:=
 .call 30 [.agg [.int .u8 A2,.bool A3,A4,.bool A5,A6,.int .i64 A7]] fun a0=>
 .asG [.int .u8 0,.bool false,.nilslice,.bool false,.nilslice,.int .i64 0] a0 fun X1=>
 .ite (tC zA.one [.int .u8 (X1.i 0),.bool (X1.b 1),X1.v 2,.bool (X1.b 3),X1.v 4,.int .i64 (X1.i 5)]) (.call 31 [A8] fun a2=>
 .ite (tC zA.one [a2]) (.ite (tC zA.one [.int .u8 A0,.str A1,.int .u8 (X1.i 0),.bool (X1.b 1),X1.v 2,.bool (X1.b 3),X1.v 4,.int .i64 (X1.i 5),a2]) (.ret (.agg [.int .u8 A0,.str A1,.int .u8 (X1.i 0),.bool (X1.b 1),X1.v 2,.bool (X1.b 3),X1.v 4,.int .i64 (X1.i 5),a2])) .fail) .fail) .fail
def w12(A0:Int)(A1:List Nat)(A2:Int)(A3:Bool)(A4:zA)(A5:Bool)(A6:zA)(A7:Int)(A8:zA)(h:wp 12 (t12 A0 A1 A2 A3 A4 A5 A6 A7 A8) m Q):Wf 12 [.agg [.int .u8 A0,.str A1,.int .u8 A2,.bool A3,A4,.bool A5,A6,.int .i64 A7,A8]] m Q:=aB ok12 h
def t13 (p0 p1:zA):T:=
 .jump 2 [p0,p1,.int .i64 0]
def w13(p0 p1:zA)(h:wp 13 (t13 p0 p1) m Q):Wf 13 [p0,p1] m Q:=aB ok13 h
def z8i(v0 v1:zA)(v5:Int):T:=
 .opt (zC v1) fun a0=>.asI .i64 a0 fun n1=>.ite (vC v5 n1)
 (.opt (rC v0) fun a2=>.opt (sB yA 36 3 a2) fun a3=>.light (fun m=>mA yA 34 ⟨0,m⟩ a3) fun a4=>.opt (zC a4) fun a5=>.asI .i64 a5 fun n6=>.ite (vC 0 n6)
 (.opt (rC v0) fun a7=>.opt (sB yA 36 3 a7) fun a8=>.light (fun m=>mA yA 34 ⟨0,m⟩ a8) fun a9=>.opt (lB yA 38 v1 (.int .i64 v5)) fun vD=>.light (fun m=>mA yA 5 ⟨0,m⟩ vD) fun a11=>.asI .u8 a11 fun n12=>.opt (rC v0) fun a13=>.opt (sB yA 36 3 a13) fun tF=>.light (fun m=>mA yA 34 ⟨0,m⟩ tF) fun a15=>.opt (zC a15) fun a16=>.asI .i64 a16 fun n17=>.opt (z2b .i64 (wA .i64 n12) n17) fun a18=>.asI .i64 a18 fun n19=>.opt (lB yA 34 a9 (.int .i64 n19)) fun a20=>.jump 2 [a20,v1,(.int .i64 (wA .i64 (v5+1)))])
 (.ret v0))
 (.ret v0)
def j13_2(v0 v1:zA)(v5:Int)(h:wp 13 (z8i v0 v1 v5) m Q):jp 13 2 [v0,v1,.int .i64 v5] m Q:=cD ok13 h
def t14 (A0:Int)(A1:List Nat)(A2:Int)(A3:Bool)(A4:zA)(A5:Bool)(A6:zA)(A7:Int)(A8:zA)(p1:Int):T:=
 .ite (nC p1 0)
 (.ret (.bool true))
 (.jump 2 [.int .i64 p1,.int .i64 0,.int .u8 A0,.str A1,.int .u8 A2,.bool A3,A4,.bool A5,A6,.int .i64 A7,A8])
def w14(A0:Int)(A1:List Nat)(A2:Int)(A3:Bool)(A4:zA)(A5:Bool)(A6:zA)(A7:Int)(A8:zA)(p1:Int)(h:wp 14 (t14 A0 A1 A2 A3 A4 A5 A6 A7 A8 p1) m Q):Wf 14 [.agg [.int .u8 A0,.str A1,.int .u8 A2,.bool A3,A4,.bool A5,A6,.int .i64 A7,A8],.int .i64 p1] m Q:=aB ok14 h
def z8h(v1 v5 A0:Int)(A1:List Nat)(A2:Int)(A3:Bool)(A4:zA)(A5:Bool)(A6:zA)(A7:Int)(A8:zA):T:=
 .opt (zC A8) fun a0=>.asI .i64 a0 fun n1=>.ite (vC v5 n1)
 (.opt (lB yA 34 A8 (.int .i64 v5)) fun a2=>.light (fun m=>mA yA 36 ⟨0,m⟩ a2) fun a3=>.asG zmn a3 fun X4=>
 .call 14 [(.agg [.int .u8 (X4.i 0),.str (X4.s 1),.int .u8 (X4.i 2),.bool (X4.b 3),X4.v 4,.bool (X4.b 5),X4.v 6,.int .i64 (X4.i 7),X4.v 8]),(.int .i64 (wA .i64 (v1-1)))] fun a5=>
 .asB a5 fun b6=>.ite b6
 (.ret (.bool true))
 (.jump 2 [.int .i64 v1,(.int .i64 (wA .i64 (v5+1))),.int .u8 A0,.str A1,.int .u8 A2,.bool A3,A4,.bool A5,A6,.int .i64 A7,A8]))
 (.ret (.bool false))
def j14_2(v1 v5 A0:Int)(A1:List Nat)(A2:Int)(A3:Bool)(A4:zA)(A5:Bool)(A6:zA)(A7:Int)(A8:zA)(h:wp 14 (z8h v1 v5 A0 A1 A2 A3 A4 A5 A6 A7 A8) m Q):jp 14 2 [.int .i64 v1,.int .i64 v5,.int .u8 A0,.str A1,.int .u8 A2,.bool A3,A4,.bool A5,A6,.int .i64 A7,A8] m Q:=cD ok14 h
def t15 (A0:List Nat)(A1 A2 A3:zA)(p1:Int):T:=
 .opt (zC A1) fun a0=>.asI .i64 a0 fun n1=>.opt (zC A2) fun a2=>.asI .i64 a2 fun n3=>.opt (zC A3) fun a4=>.asI .i64 a4 fun n5=>.jump 2 [.int .i64 p1,(.int .i64 (wA .i64 ((wA .i64 ((wA .i64 ((wA .i64 (1+(wA .i64 (Int.tdiv (Int.ofNat (aA A0)) 30))))+n1))+n3))+n5))),.int .i64 0,.str A0,A1,A2,A3]
def w15(A0:List Nat)(A1 A2 A3:zA)(p1:Int)(h:wp 15 (t15 A0 A1 A2 A3 p1) m Q):Wf 15 [.agg [.str A0,A1,A2,A3],.int .i64 p1] m Q:=aB ok15 h
def z8g(v1 v5 v6:Int)(A0:List Nat)(A1 A2 A3:zA):T:=
 .opt (zC A1) fun a0=>.asI .i64 a0 fun n1=>.ite (vC v6 n1)
 (.ite (nC v5 v1)
 (.opt (lB yA 22 A1 (.int .i64 v6)) fun a2=>.opt (sB yA 59 0 a2) fun a3=>.light (fun m=>mA yA 9 ⟨0,m⟩ a3) fun a4=>.asS a4 fun s5=>.jump 2 [.int .i64 v1,(.int .i64 (wA .i64 (v5+(wA .i64 (Int.tdiv (Int.ofNat (aA s5)) 30))))),(.int .i64 (wA .i64 (v6+1))),.str A0,A1,A2,A3])
 (.jump 6 [.int .i64 v1,.int .i64 v5,.int .i64 0,.str A0,A1,A2,A3]))
 (.jump 6 [.int .i64 v1,.int .i64 v5,.int .i64 0,.str A0,A1,A2,A3])
def j15_2(v1 v5 v6:Int)(A0:List Nat)(A1 A2 A3:zA)(h:wp 15 (z8g v1 v5 v6 A0 A1 A2 A3) m Q):jp 15 2 [.int .i64 v1,.int .i64 v5,.int .i64 v6,.str A0,A1,A2,A3] m Q:=cD ok15 h
def z8f(v1 v5 v7:Int)(A0:List Nat)(A1 A2 A3:zA):T:=
 .opt (zC A2) fun a0=>.asI .i64 a0 fun n1=>.ite (vC v7 n1)
 (.ite (nC v5 v1)
 (.opt (lB yA 23 A2 (.int .i64 v7)) fun a2=>.opt (sB yA 81 0 a2) fun a3=>.light (fun m=>mA yA 9 ⟨0,m⟩ a3) fun a4=>.asS a4 fun s5=>.jump 10 [.int .i64 v1,(.int .i64 (wA .i64 (v5+(wA .i64 (Int.tdiv (Int.ofNat (aA s5)) 30))))),.int .i64 v7,.int .i64 0,.str A0,A1,A2,A3])
 (.jump 14 [.int .i64 v1,.int .i64 v5,.int .i64 0,.str A0,A1,A2,A3]))
 (.jump 14 [.int .i64 v1,.int .i64 v5,.int .i64 0,.str A0,A1,A2,A3])
def j15_6(v1 v5 v7:Int)(A0:List Nat)(A1 A2 A3:zA)(h:wp 15 (z8f v1 v5 v7 A0 A1 A2 A3) m Q):jp 15 6 [.int .i64 v1,.int .i64 v5,.int .i64 v7,.str A0,A1,A2,A3] m Q:=cD ok15 h
def zw1(v1 v5 v7 v8:Int)(A0:List Nat)(A1 A2 A3:zA):T:=
 .opt (lB yA 23 A2 (.int .i64 v7)) fun a0=>.opt (sB yA 81 2 a0) fun a1=>.light (fun m=>mA yA 79 ⟨0,m⟩ a1) fun a2=>.opt (zC a2) fun a3=>.asI .i64 a3 fun n4=>.ite (vC v8 n4)
 (.ite (nC v5 v1)
 (.opt (lB yA 23 A2 (.int .i64 v7)) fun a5=>.opt (sB yA 81 2 a5) fun a6=>.light (fun m=>mA yA 79 ⟨0,m⟩ a6) fun a7=>.opt (lB yA 79 a7 (.int .i64 v8)) fun a8=>.opt (sB yA 84 3 a8) fun a9=>.light (fun m=>mA yA 31 ⟨0,m⟩ a9) fun vD=>.asG zz7z vD fun X11=>
 .call 32 [(.agg [.bool (X11.b 0),X11.v 1,.bool (X11.b 2),X11.v 3])] fun rF=>
 .asI .i64 rF fun n13=>.jump 10 [.int .i64 v1,(.int .i64 (wA .i64 (v5+n13))),.int .i64 v7,(.int .i64 (wA .i64 (v8+1))),.str A0,A1,A2,A3])
 (.jump 6 [.int .i64 v1,.int .i64 v5,(.int .i64 (wA .i64 (v7+1))),.str A0,A1,A2,A3]))
 (.jump 6 [.int .i64 v1,.int .i64 v5,(.int .i64 (wA .i64 (v7+1))),.str A0,A1,A2,A3])
def z7e(v1 v5 v7 v8:Int)(A0:List Nat)(A1 A2 A3:zA)(h:wp 15 (zw1 v1 v5 v7 v8 A0 A1 A2 A3) m Q):jp 15 10 [.int .i64 v1,.int .i64 v5,.int .i64 v7,.int .i64 v8,.str A0,A1,A2,A3] m Q:=cD ok15 h
def zw0(v1 v5 v9:Int)(A0:List Nat)(A1 A2 A3:zA):T:=
 .opt (zC A3) fun a0=>.asI .i64 a0 fun n1=>.ite (vC v9 n1)
 (.ite (nC v5 v1)
 (.opt (lB yA 24 A3 (.int .i64 v9)) fun a2=>.light (fun m=>mA yA 56 ⟨0,m⟩ a2) fun a3=>.asG [.str [],.str [],.int .i64 0,.int .i64 0,.int .i64 0,.bool false,.int .u8 0,.str [],.int .u8 0,.bool false,.nilslice,.bool false,.nilslice,.int .i64 0,.nilslice,.int .u8 0,.str [],.int .u8 0,.bool false,.nilslice,.bool false,.nilslice,.int .i64 0,.nilslice] a3 fun X4=>
 .ite (tC zA.one [.str (X4.s 0),.str (X4.s 1),.int .i64 (X4.i 2),.int .i64 (X4.i 3),.int .i64 (X4.i 4),.bool (X4.b 5),.int .u8 (X4.i 6),.str (X4.s 7),.int .u8 (X4.i 8),.bool (X4.b 9),X4.v 10,.bool (X4.b 11),X4.v 12,.int .i64 (X4.i 13),X4.v 14,.int .u8 (X4.i 15),.str (X4.s 16),.int .u8 (X4.i 17),.bool (X4.b 18),X4.v 19,.bool (X4.b 20),X4.v 21,.int .i64 (X4.i 22),X4.v 23]) (.call 22 [(.agg [.int .u8 (X4.i 6),.str (X4.s 7),.int .u8 (X4.i 8),.bool (X4.b 9),X4.v 10,.bool (X4.b 11),X4.v 12,.int .i64 (X4.i 13),X4.v 14]),(.int .i64 (wA .i64 (v1-v5)))] fun a5=>
 .asI .i64 a5 fun n6=>.ite (same 10 (.str (X4.s 0)) (.str (X4.s 0))) (.ite (same 10 (.int .i64 (Int.ofNat (aA (X4.s 0)))) (.int .i64 (Int.ofNat (aA (X4.s 0))))) (.ite (same 10 (.str (X4.s 1)) (.str (X4.s 1))) (.ite (same 10 (.int .i64 (Int.ofNat (aA (X4.s 1)))) (.int .i64 (Int.ofNat (aA (X4.s 1))))) (.ite (nC (wA .i64 (v5+(wA .i64 ((wA .i64 ((wA .i64 (Int.tdiv (Int.ofNat (aA (X4.s 0))) 30))+(wA .i64 (Int.tdiv (Int.ofNat (aA (X4.s 1))) 30))))+n6)))) v1)
 (.call 22 [(.agg [.int .u8 (X4.i 15),.str (X4.s 16),.int .u8 (X4.i 17),.bool (X4.b 18),X4.v 19,.bool (X4.b 20),X4.v 21,.int .i64 (X4.i 22),X4.v 23]),(.int .i64 (wA .i64 (v1-(wA .i64 (v5+(wA .i64 ((wA .i64 ((wA .i64 (Int.tdiv (Int.ofNat (aA (X4.s 0))) 30))+(wA .i64 (Int.tdiv (Int.ofNat (aA (X4.s 1))) 30))))+n6)))))))] fun a7=>
 .asI .i64 a7 fun n8=>.jump 14 [.int .i64 v1,(.int .i64 (wA .i64 ((wA .i64 (v5+(wA .i64 ((wA .i64 ((wA .i64 (Int.tdiv (Int.ofNat (aA (X4.s 0))) 30))+(wA .i64 (Int.tdiv (Int.ofNat (aA (X4.s 1))) 30))))+n6))))+n8))),(.int .i64 (wA .i64 (v9+1))),.str A0,A1,A2,A3])
 (.jump 14 [.int .i64 v1,(.int .i64 (wA .i64 (v5+(wA .i64 ((wA .i64 ((wA .i64 (Int.tdiv (Int.ofNat (aA (X4.s 0))) 30))+(wA .i64 (Int.tdiv (Int.ofNat (aA (X4.s 1))) 30))))+n6))))),(.int .i64 (wA .i64 (v9+1))),.str A0,A1,A2,A3])) .fail) .fail) .fail) .fail) .fail)
 (.ret (.int .i64 v5)))
 (.ret (.int .i64 v5))
def z7d(v1 v5 v9:Int)(A0:List Nat)(A1 A2 A3:zA)(h:wp 15 (zw0 v1 v5 v9 A0 A1 A2 A3) m Q):jp 15 14 [.int .i64 v1,.int .i64 v5,.int .i64 v9,.str A0,A1,A2,A3] m Q:=cD ok15 h
def t19 (A0:List Nat)(A1 A2 A3:zA)(p1:List Nat):T:=
 .opt (zC A1) fun a0=>.asI .i64 a0 fun n1=>.jump 2 [.str p1,A1,.int .i64 n1,.int .i64 0,.str [],.int .u8 0,.bool false]
def w19(A0:List Nat)(A1 A2 A3:zA)(p1:List Nat)(h:wp 19 (t19 A0 A1 A2 A3 p1) m Q):Wf 19 [.agg [.str A0,A1,A2,A3],.str p1] m Q:=aB ok19 h
def t19_2(v1:List Nat)(v9:zA)(v10 v11:Int)(A0:List Nat)(A1:Int)(A2:Bool):T:=
 .ite (vC v11 v10)
 (.opt (lB yA 22 v9 (.int .i64 v11)) fun a0=>.light (fun m=>mA yA 59 ⟨0,m⟩ a0) fun a1=>.asG z7u a1 fun X2=>
 .ite true (.ite (cF (X2.s 0) v1)
 (.ite true (.ret (.tup [(.agg [.str (X2.s 0),.int .u8 (X2.i 1),.bool (X2.b 2)]),.bool true])) .fail)
 (.jump 2 [.str v1,v9,.int .i64 v10,(.int .i64 (wA .i64 (v11+1))),.str A0,.int .u8 A1,.bool A2])) .fail)
 (.ite true (.ite true (.ret (.tup [.agg [.str [],.int .u8 0,.bool false],.bool false])) .fail) .fail)
def j19_2(v1:List Nat)(v9:zA)(v10 v11:Int)(A0:List Nat)(A1:Int)(A2:Bool)(h:wp 19 (t19_2 v1 v9 v10 v11 A0 A1 A2) m Q):jp 19 2 [.str v1,v9,.int .i64 v10,.int .i64 v11,.str A0,.int .u8 A1,.bool A2] m Q:=cD ok19 h
def t22 (A0:Int)(A1:List Nat)(A2:Int)(A3:Bool)(A4:zA)(A5:Bool)(A6:zA)(A7:Int)(A8:zA)(p1:Int):T:=
 .call 32 [.agg [.bool A3,A4,.bool A5,A6]] fun a0=>
 .asI .i64 a0 fun n1=>.ite (same 10 (.str A1) (.str A1)) (.ite (same 10 (.int .i64 (Int.ofNat (aA A1))) (.int .i64 (Int.ofNat (aA A1)))) (.jump 2 [.int .i64 p1,(.int .i64 (wA .i64 (n1+(wA .i64 (Int.tdiv (Int.ofNat (aA A1)) 30))))),.int .i64 0,.int .u8 A0,.str A1,.int .u8 A2,.bool A3,A4,.bool A5,A6,.int .i64 A7,A8]) .fail) .fail
def w22(A0:Int)(A1:List Nat)(A2:Int)(A3:Bool)(A4:zA)(A5:Bool)(A6:zA)(A7:Int)(A8:zA)(p1:Int)(h:wp 22 (t22 A0 A1 A2 A3 A4 A5 A6 A7 A8 p1) m Q):Wf 22 [.agg [.int .u8 A0,.str A1,.int .u8 A2,.bool A3,A4,.bool A5,A6,.int .i64 A7,A8],.int .i64 p1] m Q:=aB ok22 h
def z8e(v1 v5 v6 A0:Int)(A1:List Nat)(A2:Int)(A3:Bool)(A4:zA)(A5:Bool)(A6:zA)(A7:Int)(A8:zA):T:=
 .opt (zC A8) fun a0=>.asI .i64 a0 fun n1=>.ite (vC v6 n1)
 (.ite (nC v5 v1)
 (.opt (lB yA 34 A8 (.int .i64 v6)) fun a2=>.light (fun m=>mA yA 36 ⟨0,m⟩ a2) fun a3=>.asG zmn a3 fun X4=>
 .call 22 [(.agg [.int .u8 (X4.i 0),.str (X4.s 1),.int .u8 (X4.i 2),.bool (X4.b 3),X4.v 4,.bool (X4.b 5),X4.v 6,.int .i64 (X4.i 7),X4.v 8]),(.int .i64 (wA .i64 (v1-v5)))] fun a5=>
 .asI .i64 a5 fun n6=>.jump 2 [.int .i64 v1,(.int .i64 (wA .i64 (v5+n6))),(.int .i64 (wA .i64 (v6+1))),.int .u8 A0,.str A1,.int .u8 A2,.bool A3,A4,.bool A5,A6,.int .i64 A7,A8])
 (.ret (.int .i64 v5)))
 (.ret (.int .i64 v5))
def j22_2(v1 v5 v6 A0:Int)(A1:List Nat)(A2:Int)(A3:Bool)(A4:zA)(A5:Bool)(A6:zA)(A7:Int)(A8:zA)(h:wp 22 (z8e v1 v5 v6 A0 A1 A2 A3 A4 A5 A6 A7 A8) m Q):jp 22 2 [.int .i64 v1,.int .i64 v5,.int .i64 v6,.int .u8 A0,.str A1,.int .u8 A2,.bool A3,A4,.bool A5,A6,.int .i64 A7,A8] m Q:=cD ok22 h
def t24 (A0:List Nat)(A1 A2 A3:zA)(A4:Int)(A5:List Nat)(A6:Int)(A7:Bool)(A8:zA)(A9:Bool)(B0:zA)(B1:Int)(B2:zA):T:=
 .call 19 [.agg [.str A0,A1,A2,A3],.str A5] fun a0=>
 .opt (rB 0 a0) fun a1=>.asG z7u a1 fun X2=>
 .opt (rB 1 a0) fun a3=>.asB a3 fun b4=>.ite true (.call 40 [.agg [.str A0,A1,A2,A3],.str A5] fun a5=>
 .opt (rB 0 a5) fun a6=>.asG zu9 a6 fun X7=>
 .opt (rB 1 a5) fun a8=>.asB a8 fun b9=>.ite (tC zA.one [.str (X7.s 0),.bool (X7.b 1),X7.v 2]) (.ite (lA A4 3)
 (.ite (lA A4 3)
 (.ite (!b4)
 (.ret (.bool false))
 (.ite (!(X2.b 2))
 (.ret (.bool false))
 (.jump 47 [.str A0,A1,A2,A3,.int .u8 A4,.str A5,.int .u8 A6,.bool A7,A8,.bool A9,B0,.int .i64 B1,B2])))
 (.ite (lA A4 5)
 (.ite (!b4)
 (.ret (.bool false))
 (.ite (X2.b 2)
 (.ret (.bool false))
 (.jump 47 [.str A0,A1,A2,A3,.int .u8 A4,.str A5,.int .u8 A6,.bool A7,A8,.bool A9,B0,.int .i64 B1,B2])))
 (.ite (lA A4 21)
 (.ite (!b4)
 (.ret (.bool false))
 (.ite (!(X2.b 2))
 (.ret (.bool false))
 (.ite (!lA (X2.i 1) 2)
 (.ret (.bool false))
 (.jump 47 [.str A0,A1,A2,A3,.int .u8 A4,.str A5,.int .u8 A6,.bool A7,A8,.bool A9,B0,.int .i64 B1,B2]))))
 (.ite (lA A4 22)
 (.ite (!b4)
 (.ret (.bool false))
 (.ite (!(X2.b 2))
 (.ret (.bool false))
 (.ite (!lA (X2.i 1) 3)
 (.ret (.bool false))
 (.jump 47 [.str A0,A1,A2,A3,.int .u8 A4,.str A5,.int .u8 A6,.bool A7,A8,.bool A9,B0,.int .i64 B1,B2]))))
 (.ite (lA A4 6)
 (.ite (!b9)
 (.ret (.bool false))
 (.opt (zC B2) fun vD=>.asI .i64 vD fun n11=>.ite (!bEq (X7.b 1) (lA n11 2))
 (.ret (.bool false))
 (.jump 47 [.str A0,A1,A2,A3,.int .u8 A4,.str A5,.int .u8 A6,.bool A7,A8,.bool A9,B0,.int .i64 B1,B2])))
 (.ite (lA A4 23)
 (.ite (!b9)
 (.ret (.bool false))
 (.ite (X7.b 1)
 (.ret (.bool false))
 (.jump 47 [.str A0,A1,A2,A3,.int .u8 A4,.str A5,.int .u8 A6,.bool A7,A8,.bool A9,B0,.int .i64 B1,B2])))
 (.jump 47 [.str A0,A1,A2,A3,.int .u8 A4,.str A5,.int .u8 A6,.bool A7,A8,.bool A9,B0,.int .i64 B1,B2])))))))
 (.ite (lA A4 4)
 (.ite (!b4)
 (.ret (.bool false))
 (.ite (!(X2.b 2))
 (.ret (.bool false))
 (.jump 47 [.str A0,A1,A2,A3,.int .u8 A4,.str A5,.int .u8 A6,.bool A7,A8,.bool A9,B0,.int .i64 B1,B2])))
 (.ite (lA A4 5)
 (.ite (!b4)
 (.ret (.bool false))
 (.ite (X2.b 2)
 (.ret (.bool false))
 (.jump 47 [.str A0,A1,A2,A3,.int .u8 A4,.str A5,.int .u8 A6,.bool A7,A8,.bool A9,B0,.int .i64 B1,B2])))
 (.ite (lA A4 21)
 (.ite (!b4)
 (.ret (.bool false))
 (.ite (!(X2.b 2))
 (.ret (.bool false))
 (.ite (!lA (X2.i 1) 2)
 (.ret (.bool false))
 (.jump 47 [.str A0,A1,A2,A3,.int .u8 A4,.str A5,.int .u8 A6,.bool A7,A8,.bool A9,B0,.int .i64 B1,B2]))))
 (.ite (lA A4 22)
 (.ite (!b4)
 (.ret (.bool false))
 (.ite (!(X2.b 2))
 (.ret (.bool false))
 (.ite (!lA (X2.i 1) 3)
 (.ret (.bool false))
 (.jump 47 [.str A0,A1,A2,A3,.int .u8 A4,.str A5,.int .u8 A6,.bool A7,A8,.bool A9,B0,.int .i64 B1,B2]))))
 (.ite (lA A4 6)
 (.ite (!b9)
 (.ret (.bool false))
 (.opt (zC B2) fun rF=>.asI .i64 rF fun n13=>.ite (!bEq (X7.b 1) (lA n13 2))
 (.ret (.bool false))
 (.jump 47 [.str A0,A1,A2,A3,.int .u8 A4,.str A5,.int .u8 A6,.bool A7,A8,.bool A9,B0,.int .i64 B1,B2])))
 (.ite (lA A4 23)
 (.ite (!b9)
 (.ret (.bool false))
 (.ite (X7.b 1)
 (.ret (.bool false))
 (.jump 47 [.str A0,A1,A2,A3,.int .u8 A4,.str A5,.int .u8 A6,.bool A7,A8,.bool A9,B0,.int .i64 B1,B2])))
 (.jump 47 [.str A0,A1,A2,A3,.int .u8 A4,.str A5,.int .u8 A6,.bool A7,A8,.bool A9,B0,.int .i64 B1,B2])))))))) .fail) .fail
def w24(A0:List Nat)(A1 A2 A3:zA)(A4:Int)(A5:List Nat)(A6:Int)(A7:Bool)(A8:zA)(A9:Bool)(B0:zA)(B1:Int)(B2:zA)(h:wp 24 (t24 A0 A1 A2 A3 A4 A5 A6 A7 A8 A9 B0 B1 B2) m Q):Wf 24 [.agg [.str A0,A1,A2,A3],.agg [.int .u8 A4,.str A5,.int .u8 A6,.bool A7,A8,.bool A9,B0,.int .i64 B1,B2]] m Q:=aB ok24 h
def t28 (A0:List Nat)(A1 A2 A3:zA):T:=
 .ite true (.ite true (.ite true (.ite true (.ite true (.ite true (.ite true (.ite true (.ite true (.ite true (.ite true (.ite true (.ite true (.ite true (.ite true (.ite true (.ite true (.ite true (.ite true (.ite true (.ite true (.ite true (.ite true (.ite true (.ite true (.heavy fV fun a0=>
 .heavy (nP yA [.upd 100 a0 (.agg [.int .u8 2,.int .u8 0,.int .u8 0,.int .u8 0]) (.int .u8 4),.upd 100 a0 (.agg [.int .u8 4,.int .u8 4,.int .u8 0,.int .u8 0]) (.int .u8 1),.upd 100 a0 (.agg [.int .u8 6,.int .u8 2,.int .u8 0,.int .u8 0]) (.int .u8 2),.upd 100 a0 (.agg [.int .u8 6,.int .u8 2,.int .u8 2,.int .u8 0]) (.int .u8 2),.upd 100 a0 (.agg [.int .u8 8,.int .u8 4,.int .u8 4,.int .u8 0]) (.int .u8 5),.upd 100 a0 (.agg [.int .u8 9,.int .u8 2,.int .u8 2,.int .u8 0]) (.int .u8 2),.upd 100 a0 (.agg [.int .u8 9,.int .u8 3,.int .u8 2,.int .u8 0]) (.int .u8 3),.upd 100 a0 (.agg [.int .u8 9,.int .u8 2,.int .u8 3,.int .u8 0]) (.int .u8 3),.upd 100 a0 (.agg [.int .u8 10,.int .u8 2,.int .u8 2,.int .u8 0]) (.int .u8 2),.upd 100 a0 (.agg [.int .u8 10,.int .u8 3,.int .u8 2,.int .u8 0]) (.int .u8 3),.upd 100 a0 (.agg [.int .u8 10,.int .u8 3,.int .u8 3,.int .u8 0]) (.int .u8 2),.upd 100 a0 (.agg [.int .u8 15,.int .u8 1,.int .u8 1,.int .u8 0]) (.int .u8 1),.upd 100 a0 (.agg [.int .u8 16,.int .u8 1,.int .u8 1,.int .u8 0]) (.int .u8 1),.upd 100 a0 (.agg [.int .u8 17,.int .u8 1,.int .u8 0,.int .u8 0]) (.int .u8 1),.upd 100 a0 (.agg [.int .u8 19,.int .u8 2,.int .u8 2,.int .u8 0]) (.int .u8 2),.upd 100 a0 (.agg [.int .u8 19,.int .u8 3,.int .u8 3,.int .u8 0]) (.int .u8 3),.upd 100 a0 (.agg [.int .u8 20,.int .u8 4,.int .u8 4,.int .u8 0]) (.int .u8 6),.upd 100 a0 (.agg [.int .u8 21,.int .u8 4,.int .u8 4,.int .u8 0]) (.int .u8 2),.upd 100 a0 (.agg [.int .u8 22,.int .u8 4,.int .u8 4,.int .u8 6]) (.int .u8 3),.upd 100 a0 (.agg [.int .u8 23,.int .u8 4,.int .u8 4,.int .u8 0]) (.int .u8 2),.upd 100 a0 (.agg [.int .u8 24,.int .u8 2,.int .u8 0,.int .u8 0]) (.int .u8 6),.upd 100 a0 (.agg [.int .u8 25,.int .u8 5,.int .u8 0,.int .u8 0]) (.int .u8 2),.upd 100 a0 (.agg [.int .u8 25,.int .u8 6,.int .u8 0,.int .u8 0]) (.int .u8 2),.upd 100 a0 (.agg [.int .u8 25,.int .u8 3,.int .u8 0,.int .u8 0]) (.int .u8 2),.upd 100 a0 (.agg [.int .u8 26,.int .u8 4,.int .u8 0,.int .u8 0]) (.int .u8 4)]) fun _=>
 .ite true (.jump 2 [a0,.agg [.int .u8 7,.int .u8 8],.int .i64 0,.str A0,A1,A2,A3]) .fail) .fail) .fail) .fail) .fail) .fail) .fail) .fail) .fail) .fail) .fail) .fail) .fail) .fail) .fail) .fail) .fail) .fail) .fail) .fail) .fail) .fail) .fail) .fail) .fail) .fail
def w28(A0:List Nat)(A1 A2 A3:zA)(h:wp 28 (t28 A0 A1 A2 A3) m Q):Wf 28 [.agg [.str A0,A1,A2,A3]] m Q:=aB ok28 h
def t28_2(v3:zA)(A0 A1 v37:Int)(A2:List Nat)(A3 A4 A5:zA):T:=
 .ite (vC v37 2)
 (.opt (sK yA 101 (.agg [.int .u8 A0,.int .u8 A1]) (.int .i64 v37)) fun a0=>.asI .u8 a0 fun n1=>.ite true (.jump 6 [v3,.int .u8 n1,.agg [.int .u8 A0,.int .u8 A1],.int .i64 v37,.agg [.int .u8 2,.int .u8 3,.int .u8 5,.int .u8 6],.int .i64 0,.str A2,A3,A4,A5]) .fail)
 (.jump 10 [v3,.int .u8 1,.str A2,A3,A4,A5])
def z9f(v3:zA)(A0 A1 v37:Int)(A2:List Nat)(A3 A4 A5:zA)(h:wp 28 (t28_2 v3 A0 A1 v37 A2 A3 A4 A5) m Q):jp 28 2 [v3,.agg [.int .u8 A0,.int .u8 A1],.int .i64 v37,.str A2,A3,A4,A5] m Q:=cD ok28 h
def t28_6(v3:zA)(v5 A0 A1 v37 A2 A3 A4 A5 v41:Int)(A6:List Nat)(A7 A8 A9:zA):T:=
 .ite (vC v41 4)
 (.opt (sK yA 102 (.agg [.int .u8 A2,.int .u8 A3,.int .u8 A4,.int .u8 A5]) (.int .i64 v41)) fun a0=>.asI .u8 a0 fun n1=>.ite true (.heavy (mI yA 100 v3 (.agg [.int .u8 v5,.int .u8 n1,.int .u8 n1,.int .u8 0]) (.int .u8 n1)) fun _=>
 .jump 6 [v3,.int .u8 v5,.agg [.int .u8 A0,.int .u8 A1],.int .i64 v37,.agg [.int .u8 A2,.int .u8 A3,.int .u8 A4,.int .u8 A5],(.int .i64 (wA .i64 (v41+1))),.str A6,A7,A8,A9]) .fail)
 (.ite true (.heavy (mI yA 100 v3 (.agg [.int .u8 v5,.int .u8 4,.int .u8 5,.int .u8 0]) (.int .u8 4)) fun _=>
 .ite true (.heavy (mI yA 100 v3 (.agg [.int .u8 v5,.int .u8 4,.int .u8 6,.int .u8 0]) (.int .u8 4)) fun _=>
 .jump 2 [v3,.agg [.int .u8 A0,.int .u8 A1],(.int .i64 (wA .i64 (v37+1))),.str A6,A7,A8,A9]) .fail) .fail)
def zzk(v3:zA)(v5 A0 A1 v37 A2 A3 A4 A5 v41:Int)(A6:List Nat)(A7 A8 A9:zA)(h:wp 28 (t28_6 v3 v5 A0 A1 v37 A2 A3 A4 A5 v41 A6 A7 A8 A9) m Q):jp 28 6 [v3,.int .u8 v5,.agg [.int .u8 A0,.int .u8 A1],.int .i64 v37,.agg [.int .u8 A2,.int .u8 A3,.int .u8 A4,.int .u8 A5],.int .i64 v41,.str A6,A7,A8,A9] m Q:=cD ok28 h
def t28_10(v3:zA)(v8:Int)(A0:List Nat)(A1 A2 A3:zA):T:=
 .ite (nC v8 6)
 (.ite true (.heavy (mI yA 100 v3 (.agg [.int .u8 14,.int .u8 v8,.int .u8 v8,.int .u8 0]) (.int .u8 1)) fun _=>
 .ite true (.heavy (mI yA 100 v3 (.agg [.int .u8 18,.int .u8 1,.int .u8 v8,.int .u8 v8]) (.int .u8 v8)) fun _=>
 .ite (!lA v8 1)
 (.ite true (.heavy (mI yA 100 v3 (.agg [.int .u8 11,.int .u8 v8,.int .u8 v8,.int .u8 0]) (.int .u8 v8)) fun _=>
 .ite true (.heavy (mI yA 100 v3 (.agg [.int .u8 12,.int .u8 v8,.int .u8 v8,.int .u8 0]) (.int .u8 v8)) fun _=>
 .ite true (.heavy (mI yA 100 v3 (.agg [.int .u8 13,.int .u8 v8,.int .u8 v8,.int .u8 0]) (.int .u8 1)) fun _=>
 .jump 10 [v3,(.int .u8 (wA .u8 (v8+1))),.str A0,A1,A2,A3]) .fail) .fail) .fail)
 (.jump 10 [v3,(.int .u8 (wA .u8 (v8+1))),.str A0,A1,A2,A3])) .fail) .fail)
 (.ite (tC zA.one [v3]) (.heavy (zpx (.agg [.str A0,A1,A2,A3,v3])) fun a0=>
 .ret a0) .fail)
def zzl(v3:zA)(v8:Int)(A0:List Nat)(A1 A2 A3:zA)(h:wp 28 (t28_10 v3 v8 A0 A1 A2 A3) m Q):jp 28 10 [v3,.int .u8 v8,.str A0,A1,A2,A3] m Q:=cD ok28 h
def t29 (p0:zA)(A0:Int)(A1:List Nat)(A2:Int)(A3:Bool)(A4:zA)(A5:Bool)(A6:zA)(A7:Int)(A8:zA):T:=
 .call 43 [.agg [.int .u8 A0,.str A1,.int .u8 A2,.bool A3,A4,.bool A5,A6,.int .i64 A7,A8]] fun a0=>
 .opt (rB 0 a0) fun a1=>.asS a1 fun s2=>.opt (rB 1 a0) fun a3=>.asI .i64 a3 fun n4=>.ite (lA n4 2)
 (.ret (.tup [.int .u8 0,.int .i64 140]))
 (.call 44 [p0,.agg [.int .u8 A0,.str A1,.int .u8 A2,.bool A3,A4,.bool A5,A6,.int .i64 A7,A8]] fun a5=>
 .opt (rB 0 a5) fun a6=>.asI .u8 a6 fun n7=>.opt (rB 1 a5) fun a8=>.asI .i64 a8 fun n9=>.ret (.tup [.int .u8 n7,.int .i64 n9]))
def w29(p0:zA)(A0:Int)(A1:List Nat)(A2:Int)(A3:Bool)(A4:zA)(A5:Bool)(A6:zA)(A7:Int)(A8:zA)(h:wp 29 (t29 p0 A0 A1 A2 A3 A4 A5 A6 A7 A8) m Q):Wf 29 [p0,.agg [.int .u8 A0,.str A1,.int .u8 A2,.bool A3,A4,.bool A5,A6,.int .i64 A7,A8]] m Q:=aB ok29 h
def t30 (A0:Int)(A1:Bool)(A2:zA)(A3:Bool)(A4:zA)(A5:Int):T:=
 .call 45 [.agg [.bool A1,A2,.bool A3,A4]] fun a0=>
 .asG zz7z a0 fun X1=>
 .ite (tC zA.one [.bool (X1.b 0),X1.v 1,.bool (X1.b 2),X1.v 3]) (.ite (tC zA.one [.int .u8 A0,.bool (X1.b 0),X1.v 1,.bool (X1.b 2),X1.v 3,.int .i64 A5]) (.ret (.agg [.int .u8 A0,.bool (X1.b 0),X1.v 1,.bool (X1.b 2),X1.v 3,.int .i64 A5])) .fail) .fail
def w30(A0:Int)(A1:Bool)(A2:zA)(A3:Bool)(A4:zA)(A5:Int)(h:wp 30 (t30 A0 A1 A2 A3 A4 A5) m Q):Wf 30 [.agg [.int .u8 A0,.bool A1,A2,.bool A3,A4,.int .i64 A5]] m Q:=aB ok30 h
def t31 (p0:zA):T:=
 .jump 2 [p0,.nilslice,.int .i64 0]
def w31(p0:zA)(h:wp 31 (t31 p0) m Q):Wf 31 [p0] m Q:=aB ok31 h
def t31_2(v0 v3:zA)(v4:Int):T:=
 .opt (zC v0) fun a0=>.asI .i64 a0 fun n1=>.ite (vC v4 n1)
 (.opt (lB yA 34 v0 (.int .i64 v4)) fun a2=>.light (fun m=>mA yA 36 ⟨0,m⟩ a2) fun a3=>.asG zmn a3 fun X4=>
 .call 12 [(.agg [.int .u8 (X4.i 0),.str (X4.s 1),.int .u8 (X4.i 2),.bool (X4.b 3),X4.v 4,.bool (X4.b 5),X4.v 6,.int .i64 (X4.i 7),X4.v 8])] fun a5=>
 .asG zmn a5 fun X6=>
 .ite (tC zA.one [.int .u8 (X6.i 0),.str (X6.s 1),.int .u8 (X6.i 2),.bool (X6.b 3),X6.v 4,.bool (X6.b 5),X6.v 6,.int .i64 (X6.i 7),X6.v 8]) (.heavy (lI yA 34 1 [(0,(.agg [.int .u8 (X6.i 0),.str (X6.s 1),.int .u8 (X6.i 2),.bool (X6.b 3),X6.v 4,.bool (X6.b 5),X6.v 6,.int .i64 (X6.i 7),X6.v 8]))]) fun a7=>
 .heavy (pF yA 34 34 v3 a7) fun a8=>
 .jump 2 [v0,a8,(.int .i64 (wA .i64 (v4+1)))]) .fail)
 (.ret v3)
def j31_2(v0 v3:zA)(v4:Int)(h:wp 31 (t31_2 v0 v3 v4) m Q):jp 31 2 [v0,v3,.int .i64 v4] m Q:=cD ok31 h
def t32 (A0:Bool)(A1:zA)(A2:Bool)(A3:zA):T:=
 .opt (zC A1) fun a0=>.asI .i64 a0 fun n1=>.opt (zC A3) fun a2=>.asI .i64 a2 fun n3=>.ret (.int .i64 (wA .i64 ((wA .i64 (1+n1))+n3)))
def w32(A0:Bool)(A1:zA)(A2:Bool)(A3:zA)(h:wp 32 (t32 A0 A1 A2 A3) m Q):Wf 32 [.agg [.bool A0,A1,.bool A2,A3]] m Q:=aB ok32 h
def t43 (A0:Int)(A1:List Nat)(A2:Int)(A3:Bool)(A4:zA)(A5:Bool)(A6:zA)(A7:Int)(A8:zA):T:=
 .call 63 [] fun a0=>
 .asG [.nilptr] a0 fun X1=>
 .ite (same 10 (.agg [.int .u8 A0,.str A1,.int .u8 A2,.bool A3,A4,.bool A5,A6,.int .i64 A7,A8]) (.agg [.int .u8 A0,.str A1,.int .u8 A2,.bool A3,A4,.bool A5,A6,.int .i64 A7,A8])) (.call 64 [(.agg [X1.v 0]),.agg [.int .u8 A0,.str A1,.int .u8 A2,.bool A3,A4,.bool A5,A6,.int .i64 A7,A8],.int .i64 1] fun a2=>
 .asB a2 fun b3=>.ite (!b3)
 (.ret (.tup [.str [],.int .i64 2]))
 (.call 65 [.agg [.int .u8 A0,.str A1,.int .u8 A2,.bool A3,A4,.bool A5,A6,.int .i64 A7,A8]] fun a4=>
 .asS a4 fun s5=>.ite (vC 65536 (Int.ofNat (aA s5)))
 (.ret (.tup [.str [],.int .i64 3]))
 (.ret (.tup [.str s5,.int .i64 0])))) .fail
def w43(A0:Int)(A1:List Nat)(A2:Int)(A3:Bool)(A4:zA)(A5:Bool)(A6:zA)(A7:Int)(A8:zA)(h:wp 43 (t43 A0 A1 A2 A3 A4 A5 A6 A7 A8) m Q):Wf 43 [.agg [.int .u8 A0,.str A1,.int .u8 A2,.bool A3,A4,.bool A5,A6,.int .i64 A7,A8]] m Q:=aB ok43 h
def t44 (p0:zA)(A0:Int)(A1:List Nat)(A2:Int)(A3:Bool)(A4:zA)(A5:Bool)(A6:zA)(A7:Int)(A8:zA):T:=
 .heavy (yH yA 137) fun a0=>
 .opt (zC A8) fun a1=>.asI .i64 a1 fun n2=>.jump 2 [p0,a0,A8,.int .i64 n2,.int .i64 0,.int .u8 A0,.str A1,.int .u8 A2,.bool A3,A4,.bool A5,A6,.int .i64 A7,A8]
def w44(p0:zA)(A0:Int)(A1:List Nat)(A2:Int)(A3:Bool)(A4:zA)(A5:Bool)(A6:zA)(A7:Int)(A8:zA)(h:wp 44 (t44 p0 A0 A1 A2 A3 A4 A5 A6 A7 A8) m Q):Wf 44 [p0,.agg [.int .u8 A0,.str A1,.int .u8 A2,.bool A3,A4,.bool A5,A6,.int .i64 A7,A8]] m Q:=aB ok44 h
def z8d(v0 v6 v17:zA)(v18 v19 A0:Int)(A1:List Nat)(A2:Int)(A3:Bool)(A4:zA)(A5:Bool)(A6:zA)(A7:Int)(A8:zA):T:=
 .ite (vC v19 v18)
 (.opt (lB yA 34 v17 (.int .i64 v19)) fun a0=>.light (fun m=>mA yA 36 ⟨0,m⟩ a0) fun a1=>.asG zmn a1 fun X2=>
 .ite (tC zA.one [.int .u8 (X2.i 0),.str (X2.s 1),.int .u8 (X2.i 2),.bool (X2.b 3),X2.v 4,.bool (X2.b 5),X2.v 6,.int .i64 (X2.i 7),X2.v 8]) (.call 44 [v0,(.agg [.int .u8 (X2.i 0),.str (X2.s 1),.int .u8 (X2.i 2),.bool (X2.b 3),X2.v 4,.bool (X2.b 5),X2.v 6,.int .i64 (X2.i 7),X2.v 8])] fun a3=>
 .opt (rB 0 a3) fun a4=>.asI .u8 a4 fun n5=>.opt (rB 1 a3) fun a6=>.asI .i64 a6 fun n7=>.ite (!lA n7 0)
 (.ret (.tup [.int .u8 0,.int .i64 n7]))
 (.opt (lB yA 137 v6 (.int .i64 v19)) fun a8=>.heavy (eC yA 5 a8 (.int .u8 n5)) fun _=>
 .jump 2 [v0,v6,v17,.int .i64 v18,(.int .i64 (wA .i64 (v19+1))),.int .u8 A0,.str A1,.int .u8 A2,.bool A3,A4,.bool A5,A6,.int .i64 A7,A8])) .fail)
 (.call 66 [v0,.agg [.int .u8 A0,.str A1,.int .u8 A2,.bool A3,A4,.bool A5,A6,.int .i64 A7,A8]] fun a9=>
 .opt (rB 0 a9) fun vD=>.asI .u8 vD fun n11=>.opt (rB 1 a9) fun rF=>.asB rF fun b13=>.ite (!b13)
 (.ret (.tup [.int .u8 0,.int .i64 141]))
 (.opt (lB yA 137 v6 (.int .i64 0)) fun tF=>.light (fun m=>mA yA 5 ⟨0,m⟩ tF) fun a15=>.asI .u8 a15 fun n16=>.opt (lB yA 137 v6 (.int .i64 1)) fun a17=>.light (fun m=>mA yA 5 ⟨0,m⟩ a17) fun a18=>.asI .u8 a18 fun n19=>.opt (lB yA 137 v6 (.int .i64 2)) fun a20=>.light (fun m=>mA yA 5 ⟨0,m⟩ a20) fun a21=>.asI .u8 a21 fun n22=>.ite true (.ite true (.ite (lA A0 1)
 (.ret (.tup [.int .u8 A2,.int .i64 0]))
 (.ite (lA A0 3)
 (.ite (lA A0 3)
 (.opt (lB yA 137 v6 (.int .i64 0)) fun a23=>.light (fun m=>mA yA 5 ⟨0,m⟩ a23) fun a24=>.asI .u8 a24 fun n25=>.jump 59 [(.bool (lA n25 4)),.int .u8 n11])
 (.ite (lA A0 21)
 (.opt (rC v0) fun a26=>.opt (sB yA 104 1 a26) fun a27=>.light (fun m=>mA yA 100 ⟨0,m⟩ a27) fun a28=>.light (fun m=>yI yA 100 ⟨0,m⟩ a28 (.agg [.int .u8 A0,.int .u8 n16,.int .u8 n19,.int .u8 n22]) true) fun a29=>.opt (rB 0 a29) fun a30=>.asI .u8 a30 fun n31=>.opt (rB 1 a29) fun a32=>.asB a32 fun b33=>.ite b33
 (.jump 59 [(.bool (lA n11 2)),.int .u8 n31])
 (.jump 59 [.bool false,.int .u8 n31]))
 (.ite (lA A0 22)
 (.opt (rC v0) fun a34=>.opt (sB yA 104 1 a34) fun a35=>.light (fun m=>mA yA 100 ⟨0,m⟩ a35) fun a36=>.light (fun m=>yI yA 100 ⟨0,m⟩ a36 (.agg [.int .u8 A0,.int .u8 n16,.int .u8 n19,.int .u8 n22]) true) fun a37=>.opt (rB 0 a37) fun a38=>.asI .u8 a38 fun n39=>.opt (rB 1 a37) fun a40=>.asB a40 fun b41=>.ite b41
 (.jump 59 [(.bool (lA n11 3)),.int .u8 n39])
 (.jump 59 [.bool false,.int .u8 n39]))
 (.opt (rC v0) fun a42=>.opt (sB yA 104 1 a42) fun a43=>.light (fun m=>mA yA 100 ⟨0,m⟩ a43) fun a44=>.light (fun m=>yI yA 100 ⟨0,m⟩ a44 (.agg [.int .u8 A0,.int .u8 n16,.int .u8 n19,.int .u8 n22]) true) fun a45=>.opt (rB 0 a45) fun a46=>.asI .u8 a46 fun n47=>.opt (rB 1 a45) fun a48=>.asB a48 fun b49=>.jump 59 [.bool b49,.int .u8 n47]))))
 (.ite (lA A0 5)
 (.opt (lB yA 137 v6 (.int .i64 0)) fun a50=>.light (fun m=>mA yA 5 ⟨0,m⟩ a50) fun a51=>.asI .u8 a51 fun n52=>.jump 59 [(.bool (lA n52 4)),.int .u8 n11])
 (.ite (lA A0 21)
 (.opt (rC v0) fun a53=>.opt (sB yA 104 1 a53) fun a54=>.light (fun m=>mA yA 100 ⟨0,m⟩ a54) fun a55=>.light (fun m=>yI yA 100 ⟨0,m⟩ a55 (.agg [.int .u8 A0,.int .u8 n16,.int .u8 n19,.int .u8 n22]) true) fun a56=>.opt (rB 0 a56) fun a57=>.asI .u8 a57 fun n58=>.opt (rB 1 a56) fun a59=>.asB a59 fun b60=>.ite b60
 (.jump 59 [(.bool (lA n11 2)),.int .u8 n58])
 (.jump 59 [.bool false,.int .u8 n58]))
 (.ite (lA A0 22)
 (.opt (rC v0) fun a61=>.opt (sB yA 104 1 a61) fun a62=>.light (fun m=>mA yA 100 ⟨0,m⟩ a62) fun a63=>.light (fun m=>yI yA 100 ⟨0,m⟩ a63 (.agg [.int .u8 A0,.int .u8 n16,.int .u8 n19,.int .u8 n22]) true) fun a64=>.opt (rB 0 a64) fun a65=>.asI .u8 a65 fun n66=>.opt (rB 1 a64) fun a67=>.asB a67 fun b68=>.ite b68
 (.jump 59 [(.bool (lA n11 3)),.int .u8 n66])
 (.jump 59 [.bool false,.int .u8 n66]))
 (.opt (rC v0) fun a69=>.opt (sB yA 104 1 a69) fun a70=>.light (fun m=>mA yA 100 ⟨0,m⟩ a70) fun a71=>.light (fun m=>yI yA 100 ⟨0,m⟩ a71 (.agg [.int .u8 A0,.int .u8 n16,.int .u8 n19,.int .u8 n22]) true) fun a72=>.opt (rB 0 a72) fun a73=>.asI .u8 a73 fun n74=>.opt (rB 1 a72) fun a75=>.asB a75 fun b76=>.jump 59 [.bool b76,.int .u8 n74])))))) .fail) .fail))
def j44_2(v0 v6 v17:zA)(v18 v19 A0:Int)(A1:List Nat)(A2:Int)(A3:Bool)(A4:zA)(A5:Bool)(A6:zA)(A7:Int)(A8:zA)(h:wp 44 (z8d v0 v6 v17 v18 v19 A0 A1 A2 A3 A4 A5 A6 A7 A8) m Q):jp 44 2 [v0,v6,v17,.int .i64 v18,.int .i64 v19,.int .u8 A0,.str A1,.int .u8 A2,.bool A3,A4,.bool A5,A6,.int .i64 A7,A8] m Q:=cD ok44 h
def z6e(v14:Bool)(v15:Int):T:=
 .ite (!v14)
 (.ret (.tup [.int .u8 0,.int .i64 142]))
 (.ret (.tup [.int .u8 v15,.int .i64 0]))
def j44_59(v14:Bool)(v15:Int)(h:wp 44 (z6e v14 v15) m Q):jp 44 59 [.bool v14,.int .u8 v15] m Q:=cD ok44 h
def t45 (A0:Bool)(A1:zA)(A2:Bool)(A3:zA):T:=
 .call 67 [.agg [.bool A0,A1]] fun a0=>
 .asG zz6z a0 fun X1=>
 .ite (tC zA.one [.bool (X1.b 0),X1.v 1]) (.call 67 [.agg [.bool A2,A3]] fun a2=>
 .asG zz6z a2 fun X3=>
 .ite (tC zA.one [.bool (X3.b 0),X3.v 1]) (.ite (tC zA.one [.bool (X1.b 0),X1.v 1,.bool (X3.b 0),X3.v 1]) (.ret (.agg [.bool (X1.b 0),X1.v 1,.bool (X3.b 0),X3.v 1])) .fail) .fail) .fail
def w45(A0:Bool)(A1:zA)(A2:Bool)(A3:zA)(h:wp 45 (t45 A0 A1 A2 A3) m Q):Wf 45 [.agg [.bool A0,A1,.bool A2,A3]] m Q:=aB ok45 h
def t54 (A0:List Nat)(A1 A2 A3:zA)(p1:List Nat):T:=
 .opt (zC A2) fun a0=>.asI .i64 a0 fun n1=>.jump 2 [.str p1,A2,.int .i64 n1,.int .i64 0,.str [],.bool false,.nilslice]
def w54(A0:List Nat)(A1 A2 A3:zA)(p1:List Nat)(h:wp 54 (t54 A0 A1 A2 A3 p1) m Q):Wf 54 [.agg [.str A0,A1,A2,A3],.str p1] m Q:=aB ok54 h
def t54_2(v1:List Nat)(v9:zA)(v10 v11:Int)(A0:List Nat)(A1:Bool)(A2:zA):T:=
 .ite (vC v11 v10)
 (.opt (lB yA 23 v9 (.int .i64 v11)) fun a0=>.light (fun m=>mA yA 81 ⟨0,m⟩ a0) fun a1=>.asG zu9 a1 fun X2=>
 .ite (tC zA.one [.str (X2.s 0),.bool (X2.b 1),X2.v 2]) (.ite (cF (X2.s 0) v1)
 (.ite (tC zA.one [.str (X2.s 0),.bool (X2.b 1),X2.v 2]) (.ret (.tup [(.agg [.str (X2.s 0),.bool (X2.b 1),X2.v 2]),.bool true])) .fail)
 (.jump 2 [.str v1,v9,.int .i64 v10,(.int .i64 (wA .i64 (v11+1))),.str A0,.bool A1,A2])) .fail)
 (.ite true (.ite true (.ret (.tup [.agg [.str [],.bool false,.nilslice],.bool false])) .fail) .fail)
def z9e(v1:List Nat)(v9:zA)(v10 v11:Int)(A0:List Nat)(A1:Bool)(A2:zA)(h:wp 54 (t54_2 v1 v9 v10 v11 A0 A1 A2) m Q):jp 54 2 [.str v1,v9,.int .i64 v10,.int .i64 v11,.str A0,.bool A1,A2] m Q:=cD ok54 h
def t63  : T:=
 .call 83 [] fun a0=>
 .ite (tC zA.one [a0]) (.ite (tC zA.one [a0]) (.ret (.agg [a0])) .fail) .fail
def w63 (h:wp 63 (t63 ) m Q):Wf 63 [] m Q:=aB ok63 h
def t64 (A0:zA)(A1:Int)(A2:List Nat)(A3:Int)(A4:Bool)(A5:zA)(A6:Bool)(A7:zA)(A8:Int)(A9:zA)(p2:Int):T:=
 .ite (vC 24 p2)
 (.ret (.bool false))
 (.ite (nC 27 (wA .i64 A1))
 (.ret (.bool false))
 (.opt (rC A0) fun a0=>.opt (lB yA 188 a0 (.int .u8 A1)) fun a1=>.opt (rC a1) fun a2=>.opt (sB yA 159 0 a2) fun a3=>.light (fun m=>mA yA 5 ⟨0,m⟩ a3) fun a4=>.asI .u8 a4 fun n5=>.ite (lA n5 0)
 (.ret (.bool false))
 (.opt (zC A9) fun a6=>.asI .i64 a6 fun n7=>.opt (rC a1) fun a8=>.opt (sB yA 159 3 a8) fun a9=>.light (fun m=>mA yA 3 ⟨0,m⟩ a9) fun vD=>.asI .i64 vD fun n11=>.ite (vC n7 n11)
 (.ret (.bool false))
 (.opt (zC A9) fun rF=>.asI .i64 rF fun n13=>.opt (rC a1) fun tF=>.opt (sB yA 159 4 tF) fun a15=>.light (fun m=>mA yA 3 ⟨0,m⟩ a15) fun a16=>.asI .i64 a16 fun n17=>.ite (vC n17 n13)
 (.ret (.bool false))
 (.opt (rC a1) fun a18=>.opt (sB yA 159 2 a18) fun a19=>.light (fun m=>mA yA 4 ⟨0,m⟩ a19) fun a20=>.asB a20 fun b21=>.ite b21
 (.call 84 [.str A2] fun a22=>
 .asB a22 fun b23=>.ite (!b23)
 (.ret (.bool false))
 (.opt (rC a1) fun a24=>.opt (sB yA 159 2 a24) fun a25=>.light (fun m=>mA yA 4 ⟨0,m⟩ a25) fun a26=>.asB a26 fun b27=>.ite (!b27)
 (.ite (!cF A2 [])
 (.ret (.bool false))
 (.ite (tC zA.one [.int .u8 A3,.bool A4,A5,.bool A6,A7,.int .i64 A8]) (.ite (lA A1 1)
 (.call 85 [.agg [.int .u8 A3,.bool A4,A5,.bool A6,A7,.int .i64 A8]] fun a28=>
 .asB a28 fun b29=>.ret (.bool b29))
 (.ite (lA A1 19)
 (.ite (vC A8 1)
 (.ret (.bool false))
 (.ite (vC 6 A8)
 (.ret (.bool false))
 (.ite true (.jump 33 [.int .i64 p2,A0,.int .u8 A1,.str A2,.int .u8 A3,.bool A4,A5,.bool A6,A7,.int .i64 A8,A9,.int .u8 A3,.bool A4,A5,.bool A6,A7,.int .i64 0]) .fail)))
 (.jump 33 [.int .i64 p2,A0,.int .u8 A1,.str A2,.int .u8 A3,.bool A4,A5,.bool A6,A7,.int .i64 A8,A9,.int .u8 A3,.bool A4,A5,.bool A6,A7,.int .i64 A8]))) .fail))
 (.ite (tC zA.one [.int .u8 A3,.bool A4,A5,.bool A6,A7,.int .i64 A8]) (.ite (lA A1 1)
 (.call 85 [.agg [.int .u8 A3,.bool A4,A5,.bool A6,A7,.int .i64 A8]] fun a30=>
 .asB a30 fun b31=>.ret (.bool b31))
 (.ite (lA A1 19)
 (.ite (vC A8 1)
 (.ret (.bool false))
 (.ite (vC 6 A8)
 (.ret (.bool false))
 (.ite true (.jump 33 [.int .i64 p2,A0,.int .u8 A1,.str A2,.int .u8 A3,.bool A4,A5,.bool A6,A7,.int .i64 A8,A9,.int .u8 A3,.bool A4,A5,.bool A6,A7,.int .i64 0]) .fail)))
 (.jump 33 [.int .i64 p2,A0,.int .u8 A1,.str A2,.int .u8 A3,.bool A4,A5,.bool A6,A7,.int .i64 A8,A9,.int .u8 A3,.bool A4,A5,.bool A6,A7,.int .i64 A8]))) .fail)))
 (.opt (rC a1) fun a32=>.opt (sB yA 159 2 a32) fun a33=>.light (fun m=>mA yA 4 ⟨0,m⟩ a33) fun a34=>.asB a34 fun b35=>.ite (!b35)
 (.ite (!cF A2 [])
 (.ret (.bool false))
 (.ite (tC zA.one [.int .u8 A3,.bool A4,A5,.bool A6,A7,.int .i64 A8]) (.ite (lA A1 1)
 (.call 85 [.agg [.int .u8 A3,.bool A4,A5,.bool A6,A7,.int .i64 A8]] fun a36=>
 .asB a36 fun b37=>.ret (.bool b37))
 (.ite (lA A1 19)
 (.ite (vC A8 1)
 (.ret (.bool false))
 (.ite (vC 6 A8)
 (.ret (.bool false))
 (.ite true (.jump 33 [.int .i64 p2,A0,.int .u8 A1,.str A2,.int .u8 A3,.bool A4,A5,.bool A6,A7,.int .i64 A8,A9,.int .u8 A3,.bool A4,A5,.bool A6,A7,.int .i64 0]) .fail)))
 (.jump 33 [.int .i64 p2,A0,.int .u8 A1,.str A2,.int .u8 A3,.bool A4,A5,.bool A6,A7,.int .i64 A8,A9,.int .u8 A3,.bool A4,A5,.bool A6,A7,.int .i64 A8]))) .fail))
 (.ite (tC zA.one [.int .u8 A3,.bool A4,A5,.bool A6,A7,.int .i64 A8]) (.ite (lA A1 1)
 (.call 85 [.agg [.int .u8 A3,.bool A4,A5,.bool A6,A7,.int .i64 A8]] fun a38=>
 .asB a38 fun b39=>.ret (.bool b39))
 (.ite (lA A1 19)
 (.ite (vC A8 1)
 (.ret (.bool false))
 (.ite (vC 6 A8)
 (.ret (.bool false))
 (.ite true (.jump 33 [.int .i64 p2,A0,.int .u8 A1,.str A2,.int .u8 A3,.bool A4,A5,.bool A6,A7,.int .i64 A8,A9,.int .u8 A3,.bool A4,A5,.bool A6,A7,.int .i64 0]) .fail)))
 (.jump 33 [.int .i64 p2,A0,.int .u8 A1,.str A2,.int .u8 A3,.bool A4,A5,.bool A6,A7,.int .i64 A8,A9,.int .u8 A3,.bool A4,A5,.bool A6,A7,.int .i64 A8]))) .fail)))))))
def w64(A0:zA)(A1:Int)(A2:List Nat)(A3:Int)(A4:Bool)(A5:zA)(A6:Bool)(A7:zA)(A8:Int)(A9:zA)(p2:Int)(h:wp 64 (t64 A0 A1 A2 A3 A4 A5 A6 A7 A8 A9 p2) m Q):Wf 64 [.agg [A0],.agg [.int .u8 A1,.str A2,.int .u8 A3,.bool A4,A5,.bool A6,A7,.int .i64 A8,A9],.int .i64 p2] m Q:=aB ok64 h
def z6d(v2:Int)(A0:zA)(A1:Int)(A2:List Nat)(A3:Int)(A4:Bool)(A5:zA)(A6:Bool)(A7:zA)(A8:Int)(A9:zA)(B0:Int)(B1:Bool)(B2:zA)(B3:Bool)(B4:zA)(B5:Int):T:=
 .call 86 [.agg [.int .u8 B0,.bool B1,B2,.bool B3,B4,.int .i64 B5]] fun a0=>
 .asB a0 fun b1=>.ite (!b1)
 (.ret (.bool false))
 (.opt (zC A9) fun a2=>.asI .i64 a2 fun n3=>.jump 4 [.int .i64 v2,A9,.int .i64 n3,.int .i64 0,A0])
def j64_33(v2:Int)(A0:zA)(A1:Int)(A2:List Nat)(A3:Int)(A4:Bool)(A5:zA)(A6:Bool)(A7:zA)(A8:Int)(A9:zA)(B0:Int)(B1:Bool)(B2:zA)(B3:Bool)(B4:zA)(B5:Int)(h:wp 64 (z6d v2 A0 A1 A2 A3 A4 A5 A6 A7 A8 A9 B0 B1 B2 B3 B4 B5) m Q):jp 64 33 [.int .i64 v2,A0,.int .u8 A1,.str A2,.int .u8 A3,.bool A4,A5,.bool A6,A7,.int .i64 A8,A9,.int .u8 B0,.bool B1,B2,.bool B3,B4,.int .i64 B5] m Q:=cD ok64 h
def z8c(v2:Int)(v95:zA)(v96 v97:Int)(A0:zA):T:=
 .ite (vC v97 v96)
 (.opt (lB yA 34 v95 (.int .i64 v97)) fun a0=>.light (fun m=>mA yA 36 ⟨0,m⟩ a0) fun a1=>.asG zmn a1 fun X2=>
 .ite (tC zA.one [.int .u8 (X2.i 0),.str (X2.s 1),.int .u8 (X2.i 2),.bool (X2.b 3),X2.v 4,.bool (X2.b 5),X2.v 6,.int .i64 (X2.i 7),X2.v 8]) (.call 64 [.agg [A0],(.agg [.int .u8 (X2.i 0),.str (X2.s 1),.int .u8 (X2.i 2),.bool (X2.b 3),X2.v 4,.bool (X2.b 5),X2.v 6,.int .i64 (X2.i 7),X2.v 8]),(.int .i64 (wA .i64 (v2+1)))] fun a3=>
 .asB a3 fun b4=>.ite (!b4)
 (.ret (.bool false))
 (.jump 4 [.int .i64 v2,v95,.int .i64 v96,(.int .i64 (wA .i64 (v97+1))),A0])) .fail)
 (.ret (.bool true))
def j64_4(v2:Int)(v95:zA)(v96 v97:Int)(A0:zA)(h:wp 64 (z8c v2 v95 v96 v97 A0) m Q):jp 64 4 [.int .i64 v2,v95,.int .i64 v96,.int .i64 v97,A0] m Q:=cD ok64 h
def t65 (A0:Int)(A1:List Nat)(A2:Int)(A3:Bool)(A4:zA)(A5:Bool)(A6:zA)(A7:Int)(A8:zA):T:=
 .call 83 [] fun a0=>
 .ite (tC zA.one [a0]) (.heavy (zsv yA 166 (.agg [.nilptr,.nilslice,a0])) fun a1=>
 .call 87 [a1,.agg [.int .u8 A0,.str A1,.int .u8 A2,.bool A3,A4,.bool A5,A6,.int .i64 A7,A8]] fun a2=>
 .opt (rC a1) fun a3=>.opt (sB yA 166 0 a3) fun a4=>.call 88 [a4] fun a5=>
 .asS a5 fun s6=>.ret (.str s6)) .fail
def w65(A0:Int)(A1:List Nat)(A2:Int)(A3:Bool)(A4:zA)(A5:Bool)(A6:zA)(A7:Int)(A8:zA)(h:wp 65 (t65 A0 A1 A2 A3 A4 A5 A6 A7 A8) m Q):Wf 65 [.agg [.int .u8 A0,.str A1,.int .u8 A2,.bool A3,A4,.bool A5,A6,.int .i64 A7,A8]] m Q:=aB ok65 h
def t66 (p0:zA)(A0:Int)(A1:List Nat)(A2:Int)(A3:Bool)(A4:zA)(A5:Bool)(A6:zA)(A7:Int)(A8:zA):T:=
 .ite (lA A0 3)
 (.ite (lA A0 3)
 (.opt (rC p0) fun a0=>.opt (sB yA 104 0 a0) fun a1=>.light (fun m=>mA yA 26 ⟨0,m⟩ a1) fun a2=>.asG zmt a2 fun X3=>
 .heavy (yH yA 59) fun a4=>
 .call 19 [(.agg [.str (X3.s 0),X3.v 1,X3.v 2,X3.v 3]),.str A1] fun a5=>
 .opt (rB 0 a5) fun a6=>.asG z7u a6 fun X7=>
 .opt (rB 1 a5) fun a8=>.asB a8 fun b9=>.heavy (eC yA 59 a4 (.agg [.str (X7.s 0),.int .u8 (X7.i 1),.bool (X7.b 2)])) fun _=>
 .ite b9
 (.opt (sB yA 59 2 a4) fun vD=>.light (fun m=>mA yA 4 ⟨0,m⟩ vD) fun a11=>.asB a11 fun b12=>.opt (sB yA 59 1 a4) fun a13=>.light (fun m=>mA yA 5 ⟨0,m⟩ a13) fun tF=>.asI .u8 tF fun n15=>.ite (bEq b12 (!lA A0 5))
 (.opt (sB yA 59 1 a4) fun a16=>.light (fun m=>mA yA 5 ⟨0,m⟩ a16) fun a17=>.asI .u8 a17 fun n18=>.ite (nC 1 n18)
 (.opt (sB yA 59 1 a4) fun a19=>.light (fun m=>mA yA 5 ⟨0,m⟩ a19) fun a20=>.asI .u8 a20 fun n21=>.ret (.tup [.int .u8 n15,(.bool (nC n21 6))]))
 (.ret (.tup [.int .u8 n15,.bool false])))
 (.ret (.tup [.int .u8 n15,.bool false])))
 (.opt (sB yA 59 1 a4) fun a22=>.light (fun m=>mA yA 5 ⟨0,m⟩ a22) fun a23=>.asI .u8 a23 fun n24=>.ret (.tup [.int .u8 n24,.bool false])))
 (.ite (lA A0 6)
 (.opt (rC p0) fun a25=>.opt (sB yA 104 0 a25) fun a26=>.light (fun m=>mA yA 26 ⟨0,m⟩ a26) fun a27=>.asG zmt a27 fun X28=>
 .heavy (yH yA 81) fun a29=>
 .call 54 [(.agg [.str (X28.s 0),X28.v 1,X28.v 2,X28.v 3]),.str A1] fun a30=>
 .opt (rB 0 a30) fun a31=>.asG zu9 a31 fun X32=>
 .opt (rB 1 a30) fun a33=>.asB a33 fun b34=>.heavy (eC yA 81 a29 (.agg [.str (X32.s 0),.bool (X32.b 1),X32.v 2])) fun _=>
 .ite b34
 (.opt (sB yA 81 1 a29) fun a35=>.light (fun m=>mA yA 4 ⟨0,m⟩ a35) fun a36=>.asB a36 fun b37=>.opt (zC A8) fun a38=>.asI .i64 a38 fun n39=>.ret (.tup [.int .u8 0,(.bool (bEq b37 (lA n39 2)))]))
 (.ret (.tup [.int .u8 0,.bool false])))
 (.ite (lA A0 23)
 (.opt (rC p0) fun a40=>.opt (sB yA 104 0 a40) fun a41=>.light (fun m=>mA yA 26 ⟨0,m⟩ a41) fun a42=>.asG zmt a42 fun X43=>
 .heavy (yH yA 81) fun a44=>
 .call 54 [(.agg [.str (X43.s 0),X43.v 1,X43.v 2,X43.v 3]),.str A1] fun a45=>
 .opt (rB 0 a45) fun a46=>.asG zu9 a46 fun X47=>
 .opt (rB 1 a45) fun a48=>.asB a48 fun b49=>.heavy (eC yA 81 a44 (.agg [.str (X47.s 0),.bool (X47.b 1),X47.v 2])) fun _=>
 .ite b49
 (.opt (sB yA 81 1 a44) fun a50=>.light (fun m=>mA yA 4 ⟨0,m⟩ a50) fun a51=>.asB a51 fun b52=>.ret (.tup [.int .u8 0,(.bool (!b52))]))
 (.ret (.tup [.int .u8 0,.bool false])))
 (.ret (.tup [.int .u8 0,.bool true])))))
 (.ite (lA A0 4)
 (.ite (lA A0 4)
 (.opt (rC p0) fun a53=>.opt (sB yA 104 0 a53) fun a54=>.light (fun m=>mA yA 26 ⟨0,m⟩ a54) fun a55=>.asG zmt a55 fun X56=>
 .heavy (yH yA 59) fun a57=>
 .call 19 [(.agg [.str (X56.s 0),X56.v 1,X56.v 2,X56.v 3]),.str A1] fun a58=>
 .opt (rB 0 a58) fun a59=>.asG z7u a59 fun X60=>
 .opt (rB 1 a58) fun a61=>.asB a61 fun b62=>.heavy (eC yA 59 a57 (.agg [.str (X60.s 0),.int .u8 (X60.i 1),.bool (X60.b 2)])) fun _=>
 .ite b62
 (.opt (sB yA 59 2 a57) fun a63=>.light (fun m=>mA yA 4 ⟨0,m⟩ a63) fun a64=>.asB a64 fun b65=>.opt (sB yA 59 1 a57) fun a66=>.light (fun m=>mA yA 5 ⟨0,m⟩ a66) fun a67=>.asI .u8 a67 fun n68=>.ite (bEq b65 (!lA A0 5))
 (.opt (sB yA 59 1 a57) fun a69=>.light (fun m=>mA yA 5 ⟨0,m⟩ a69) fun a70=>.asI .u8 a70 fun n71=>.ite (nC 1 n71)
 (.opt (sB yA 59 1 a57) fun a72=>.light (fun m=>mA yA 5 ⟨0,m⟩ a72) fun a73=>.asI .u8 a73 fun n74=>.ret (.tup [.int .u8 n68,(.bool (nC n74 6))]))
 (.ret (.tup [.int .u8 n68,.bool false])))
 (.ret (.tup [.int .u8 n68,.bool false])))
 (.opt (sB yA 59 1 a57) fun a75=>.light (fun m=>mA yA 5 ⟨0,m⟩ a75) fun a76=>.asI .u8 a76 fun n77=>.ret (.tup [.int .u8 n77,.bool false])))
 (.ite (lA A0 6)
 (.opt (rC p0) fun a78=>.opt (sB yA 104 0 a78) fun a79=>.light (fun m=>mA yA 26 ⟨0,m⟩ a79) fun a80=>.asG zmt a80 fun X81=>
 .heavy (yH yA 81) fun a82=>
 .call 54 [(.agg [.str (X81.s 0),X81.v 1,X81.v 2,X81.v 3]),.str A1] fun a83=>
 .opt (rB 0 a83) fun a84=>.asG zu9 a84 fun X85=>
 .opt (rB 1 a83) fun a86=>.asB a86 fun b87=>.heavy (eC yA 81 a82 (.agg [.str (X85.s 0),.bool (X85.b 1),X85.v 2])) fun _=>
 .ite b87
 (.opt (sB yA 81 1 a82) fun a88=>.light (fun m=>mA yA 4 ⟨0,m⟩ a88) fun a89=>.asB a89 fun b90=>.opt (zC A8) fun a91=>.asI .i64 a91 fun n92=>.ret (.tup [.int .u8 0,(.bool (bEq b90 (lA n92 2)))]))
 (.ret (.tup [.int .u8 0,.bool false])))
 (.ite (lA A0 23)
 (.opt (rC p0) fun a93=>.opt (sB yA 104 0 a93) fun a94=>.light (fun m=>mA yA 26 ⟨0,m⟩ a94) fun a95=>.asG zmt a95 fun X96=>
 .heavy (yH yA 81) fun a97=>
 .call 54 [(.agg [.str (X96.s 0),X96.v 1,X96.v 2,X96.v 3]),.str A1] fun a98=>
 .opt (rB 0 a98) fun a99=>.asG zu9 a99 fun X100=>
 .opt (rB 1 a98) fun a101=>.asB a101 fun b102=>.heavy (eC yA 81 a97 (.agg [.str (X100.s 0),.bool (X100.b 1),X100.v 2])) fun _=>
 .ite b102
 (.opt (sB yA 81 1 a97) fun a103=>.light (fun m=>mA yA 4 ⟨0,m⟩ a103) fun a104=>.asB a104 fun b105=>.ret (.tup [.int .u8 0,(.bool (!b105))]))
 (.ret (.tup [.int .u8 0,.bool false])))
 (.ret (.tup [.int .u8 0,.bool true])))))
 (.ite (lA A0 21)
 (.ite (lA A0 21)
 (.opt (rC p0) fun a106=>.opt (sB yA 104 0 a106) fun a107=>.light (fun m=>mA yA 26 ⟨0,m⟩ a107) fun a108=>.asG zmt a108 fun X109=>
 .heavy (yH yA 59) fun z5u=>
 .call 19 [(.agg [.str (X109.s 0),X109.v 1,X109.v 2,X109.v 3]),.str A1] fun a111=>
 .opt (rB 0 a111) fun a112=>.asG z7u a112 fun X113=>
 .opt (rB 1 a111) fun a114=>.asB a114 fun b115=>.heavy (eC yA 59 z5u (.agg [.str (X113.s 0),.int .u8 (X113.i 1),.bool (X113.b 2)])) fun _=>
 .ite b115
 (.opt (sB yA 59 2 z5u) fun a116=>.light (fun m=>mA yA 4 ⟨0,m⟩ a116) fun a117=>.asB a117 fun b118=>.opt (sB yA 59 1 z5u) fun a119=>.light (fun m=>mA yA 5 ⟨0,m⟩ a119) fun a120=>.asI .u8 a120 fun n121=>.ite (bEq b118 (!lA A0 5))
 (.opt (sB yA 59 1 z5u) fun a122=>.light (fun m=>mA yA 5 ⟨0,m⟩ a122) fun a123=>.asI .u8 a123 fun n124=>.ite (nC 1 n124)
 (.opt (sB yA 59 1 z5u) fun a125=>.light (fun m=>mA yA 5 ⟨0,m⟩ a125) fun a126=>.asI .u8 a126 fun n127=>.ret (.tup [.int .u8 n121,(.bool (nC n127 6))]))
 (.ret (.tup [.int .u8 n121,.bool false])))
 (.ret (.tup [.int .u8 n121,.bool false])))
 (.opt (sB yA 59 1 z5u) fun a128=>.light (fun m=>mA yA 5 ⟨0,m⟩ a128) fun a129=>.asI .u8 a129 fun n130=>.ret (.tup [.int .u8 n130,.bool false])))
 (.ite (lA A0 6)
 (.opt (rC p0) fun a131=>.opt (sB yA 104 0 a131) fun a132=>.light (fun m=>mA yA 26 ⟨0,m⟩ a132) fun a133=>.asG zmt a133 fun X134=>
 .heavy (yH yA 81) fun a135=>
 .call 54 [(.agg [.str (X134.s 0),X134.v 1,X134.v 2,X134.v 3]),.str A1] fun a136=>
 .opt (rB 0 a136) fun a137=>.asG zu9 a137 fun X138=>
 .opt (rB 1 a136) fun a139=>.asB a139 fun b140=>.heavy (eC yA 81 a135 (.agg [.str (X138.s 0),.bool (X138.b 1),X138.v 2])) fun _=>
 .ite b140
 (.opt (sB yA 81 1 a135) fun a141=>.light (fun m=>mA yA 4 ⟨0,m⟩ a141) fun a142=>.asB a142 fun b143=>.opt (zC A8) fun a144=>.asI .i64 a144 fun n145=>.ret (.tup [.int .u8 0,(.bool (bEq b143 (lA n145 2)))]))
 (.ret (.tup [.int .u8 0,.bool false])))
 (.ite (lA A0 23)
 (.opt (rC p0) fun a146=>.opt (sB yA 104 0 a146) fun a147=>.light (fun m=>mA yA 26 ⟨0,m⟩ a147) fun a148=>.asG zmt a148 fun X149=>
 .heavy (yH yA 81) fun a150=>
 .call 54 [(.agg [.str (X149.s 0),X149.v 1,X149.v 2,X149.v 3]),.str A1] fun a151=>
 .opt (rB 0 a151) fun a152=>.asG zu9 a152 fun X153=>
 .opt (rB 1 a151) fun a154=>.asB a154 fun b155=>.heavy (eC yA 81 a150 (.agg [.str (X153.s 0),.bool (X153.b 1),X153.v 2])) fun _=>
 .ite b155
 (.opt (sB yA 81 1 a150) fun a156=>.light (fun m=>mA yA 4 ⟨0,m⟩ a156) fun a157=>.asB a157 fun b158=>.ret (.tup [.int .u8 0,(.bool (!b158))]))
 (.ret (.tup [.int .u8 0,.bool false])))
 (.ret (.tup [.int .u8 0,.bool true])))))
 (.ite (lA A0 22)
 (.ite (lA A0 22)
 (.opt (rC p0) fun a159=>.opt (sB yA 104 0 a159) fun a160=>.light (fun m=>mA yA 26 ⟨0,m⟩ a160) fun a161=>.asG zmt a161 fun X162=>
 .heavy (yH yA 59) fun a163=>
 .call 19 [(.agg [.str (X162.s 0),X162.v 1,X162.v 2,X162.v 3]),.str A1] fun a164=>
 .opt (rB 0 a164) fun a165=>.asG z7u a165 fun X166=>
 .opt (rB 1 a164) fun a167=>.asB a167 fun b168=>.heavy (eC yA 59 a163 (.agg [.str (X166.s 0),.int .u8 (X166.i 1),.bool (X166.b 2)])) fun _=>
 .ite b168
 (.opt (sB yA 59 2 a163) fun a169=>.light (fun m=>mA yA 4 ⟨0,m⟩ a169) fun a170=>.asB a170 fun b171=>.opt (sB yA 59 1 a163) fun a172=>.light (fun m=>mA yA 5 ⟨0,m⟩ a172) fun a173=>.asI .u8 a173 fun n174=>.ite (bEq b171 (!lA A0 5))
 (.opt (sB yA 59 1 a163) fun a175=>.light (fun m=>mA yA 5 ⟨0,m⟩ a175) fun a176=>.asI .u8 a176 fun n177=>.ite (nC 1 n177)
 (.opt (sB yA 59 1 a163) fun a178=>.light (fun m=>mA yA 5 ⟨0,m⟩ a178) fun a179=>.asI .u8 a179 fun n180=>.ret (.tup [.int .u8 n174,(.bool (nC n180 6))]))
 (.ret (.tup [.int .u8 n174,.bool false])))
 (.ret (.tup [.int .u8 n174,.bool false])))
 (.opt (sB yA 59 1 a163) fun a181=>.light (fun m=>mA yA 5 ⟨0,m⟩ a181) fun a182=>.asI .u8 a182 fun n183=>.ret (.tup [.int .u8 n183,.bool false])))
 (.ite (lA A0 6)
 (.opt (rC p0) fun a184=>.opt (sB yA 104 0 a184) fun a185=>.light (fun m=>mA yA 26 ⟨0,m⟩ a185) fun a186=>.asG zmt a186 fun X187=>
 .heavy (yH yA 81) fun a188=>
 .call 54 [(.agg [.str (X187.s 0),X187.v 1,X187.v 2,X187.v 3]),.str A1] fun a189=>
 .opt (rB 0 a189) fun a190=>.asG zu9 a190 fun X191=>
 .opt (rB 1 a189) fun a192=>.asB a192 fun b193=>.heavy (eC yA 81 a188 (.agg [.str (X191.s 0),.bool (X191.b 1),X191.v 2])) fun _=>
 .ite b193
 (.opt (sB yA 81 1 a188) fun a194=>.light (fun m=>mA yA 4 ⟨0,m⟩ a194) fun a195=>.asB a195 fun b196=>.opt (zC A8) fun a197=>.asI .i64 a197 fun n198=>.ret (.tup [.int .u8 0,(.bool (bEq b196 (lA n198 2)))]))
 (.ret (.tup [.int .u8 0,.bool false])))
 (.ite (lA A0 23)
 (.opt (rC p0) fun a199=>.opt (sB yA 104 0 a199) fun a200=>.light (fun m=>mA yA 26 ⟨0,m⟩ a200) fun a201=>.asG zmt a201 fun X202=>
 .heavy (yH yA 81) fun a203=>
 .call 54 [(.agg [.str (X202.s 0),X202.v 1,X202.v 2,X202.v 3]),.str A1] fun a204=>
 .opt (rB 0 a204) fun a205=>.asG zu9 a205 fun X206=>
 .opt (rB 1 a204) fun a207=>.asB a207 fun b208=>.heavy (eC yA 81 a203 (.agg [.str (X206.s 0),.bool (X206.b 1),X206.v 2])) fun _=>
 .ite b208
 (.opt (sB yA 81 1 a203) fun a209=>.light (fun m=>mA yA 4 ⟨0,m⟩ a209) fun a210=>.asB a210 fun b211=>.ret (.tup [.int .u8 0,(.bool (!b211))]))
 (.ret (.tup [.int .u8 0,.bool false])))
 (.ret (.tup [.int .u8 0,.bool true])))))
 (.ite (lA A0 5)
 (.opt (rC p0) fun a212=>.opt (sB yA 104 0 a212) fun a213=>.light (fun m=>mA yA 26 ⟨0,m⟩ a213) fun a214=>.asG zmt a214 fun X215=>
 .heavy (yH yA 59) fun z5t=>
 .call 19 [(.agg [.str (X215.s 0),X215.v 1,X215.v 2,X215.v 3]),.str A1] fun a217=>
 .opt (rB 0 a217) fun a218=>.asG z7u a218 fun X219=>
 .opt (rB 1 a217) fun a220=>.asB a220 fun b221=>.heavy (eC yA 59 z5t (.agg [.str (X219.s 0),.int .u8 (X219.i 1),.bool (X219.b 2)])) fun _=>
 .ite b221
 (.opt (sB yA 59 2 z5t) fun a222=>.light (fun m=>mA yA 4 ⟨0,m⟩ a222) fun a223=>.asB a223 fun b224=>.opt (sB yA 59 1 z5t) fun a225=>.light (fun m=>mA yA 5 ⟨0,m⟩ a225) fun a226=>.asI .u8 a226 fun n227=>.ite (bEq b224 (!lA A0 5))
 (.opt (sB yA 59 1 z5t) fun a228=>.light (fun m=>mA yA 5 ⟨0,m⟩ a228) fun a229=>.asI .u8 a229 fun n230=>.ite (nC 1 n230)
 (.opt (sB yA 59 1 z5t) fun a231=>.light (fun m=>mA yA 5 ⟨0,m⟩ a231) fun a232=>.asI .u8 a232 fun n233=>.ret (.tup [.int .u8 n227,(.bool (nC n233 6))]))
 (.ret (.tup [.int .u8 n227,.bool false])))
 (.ret (.tup [.int .u8 n227,.bool false])))
 (.opt (sB yA 59 1 z5t) fun a234=>.light (fun m=>mA yA 5 ⟨0,m⟩ a234) fun a235=>.asI .u8 a235 fun n236=>.ret (.tup [.int .u8 n236,.bool false])))
 (.ite (lA A0 6)
 (.opt (rC p0) fun a237=>.opt (sB yA 104 0 a237) fun a238=>.light (fun m=>mA yA 26 ⟨0,m⟩ a238) fun a239=>.asG zmt a239 fun X240=>
 .heavy (yH yA 81) fun a241=>
 .call 54 [(.agg [.str (X240.s 0),X240.v 1,X240.v 2,X240.v 3]),.str A1] fun a242=>
 .opt (rB 0 a242) fun a243=>.asG zu9 a243 fun X244=>
 .opt (rB 1 a242) fun a245=>.asB a245 fun b246=>.heavy (eC yA 81 a241 (.agg [.str (X244.s 0),.bool (X244.b 1),X244.v 2])) fun _=>
 .ite b246
 (.opt (sB yA 81 1 a241) fun a247=>.light (fun m=>mA yA 4 ⟨0,m⟩ a247) fun a248=>.asB a248 fun b249=>.opt (zC A8) fun a250=>.asI .i64 a250 fun n251=>.ret (.tup [.int .u8 0,(.bool (bEq b249 (lA n251 2)))]))
 (.ret (.tup [.int .u8 0,.bool false])))
 (.ite (lA A0 23)
 (.opt (rC p0) fun a252=>.opt (sB yA 104 0 a252) fun a253=>.light (fun m=>mA yA 26 ⟨0,m⟩ a253) fun a254=>.asG zmt a254 fun X255=>
 .heavy (yH yA 81) fun a256=>
 .call 54 [(.agg [.str (X255.s 0),X255.v 1,X255.v 2,X255.v 3]),.str A1] fun a257=>
 .opt (rB 0 a257) fun a258=>.asG zu9 a258 fun X259=>
 .opt (rB 1 a257) fun a260=>.asB a260 fun b261=>.heavy (eC yA 81 a256 (.agg [.str (X259.s 0),.bool (X259.b 1),X259.v 2])) fun _=>
 .ite b261
 (.opt (sB yA 81 1 a256) fun a262=>.light (fun m=>mA yA 4 ⟨0,m⟩ a262) fun a263=>.asB a263 fun b264=>.ret (.tup [.int .u8 0,(.bool (!b264))]))
 (.ret (.tup [.int .u8 0,.bool false])))
 (.ret (.tup [.int .u8 0,.bool true]))))))))
def w66(p0:zA)(A0:Int)(A1:List Nat)(A2:Int)(A3:Bool)(A4:zA)(A5:Bool)(A6:zA)(A7:Int)(A8:zA)(h:wp 66 (t66 p0 A0 A1 A2 A3 A4 A5 A6 A7 A8) m Q):Wf 66 [p0,.agg [.int .u8 A0,.str A1,.int .u8 A2,.bool A3,A4,.bool A5,A6,.int .i64 A7,A8]] m Q:=aB ok66 h
def t67 (A0:Bool)(A1:zA):T:=
 .call 89 [A1] fun a0=>
 .ite (tC zA.one [a0]) (.ite (tC zA.one [.bool A0,a0]) (.ret (.agg [.bool A0,a0])) .fail) .fail
def w67(A0:Bool)(A1:zA)(h:wp 67 (t67 A0 A1) m Q):Wf 67 [.agg [.bool A0,A1]] m Q:=aB ok67 h
def t83  : T:=
 .ite true (.ite true (.callv (.func (.func 109) [] []) [.str [102,97,99,116,32]] fun a0=>
 .asG qI a0 fun X1=>
 .callv (.func (.func 109) [] []) [.str [104,97,115,32]] fun a2=>
 .asG qI a2 fun X3=>
 .callv (.func (.func 109) [] []) [.str []] fun a4=>
 .asG qI a4 fun X5=>
 .callv (.func (.func 108) [] []) [.str [108,111,111,107],.bool true,.int .i64 1,.int .i64 2] fun a6=>
 .asG qI a6 fun X7=>
 .callv (.func (.func 110) [] []) [.str [43],.int .i64 5,.int .i64 5,.int .i64 6] fun a8=>
 .asG qI a8 fun X9=>
 .callv (.func (.func 110) [] []) [.str [45],.int .i64 5,.int .i64 5,.int .i64 6] fun vD=>
 .asG qI vD fun X11=>
 .callv (.func (.func 110) [] []) [.str [42],.int .i64 6,.int .i64 6,.int .i64 7] fun rF=>
 .asG qI rF fun X13=>
 .callv (.func (.func 110) [] []) [.str [47],.int .i64 6,.int .i64 6,.int .i64 7] fun tF=>
 .asG qI tF fun X15=>
 .callv (.func (.func 108) [] []) [.str [109,105,110],.bool false,.int .i64 2,.int .i64 2] fun a16=>
 .asG qI a16 fun X17=>
 .callv (.func (.func 108) [] []) [.str [109,97,120],.bool false,.int .i64 2,.int .i64 2] fun a18=>
 .asG qI a18 fun X19=>
 .callv (.func (.func 110) [] []) [.str [60],.int .i64 4,.int .i64 5,.int .i64 5] fun a20=>
 .asG qI a20 fun X21=>
 .callv (.func (.func 110) [] []) [.str [61],.int .i64 4,.int .i64 5,.int .i64 5] fun a22=>
 .asG qI a22 fun X23=>
 .callv (.func (.func 110) [] []) [.str [97,110,100],.int .i64 2,.int .i64 2,.int .i64 3] fun a24=>
 .asG qI a24 fun X25=>
 .callv (.func (.func 110) [] []) [.str [111,114],.int .i64 1,.int .i64 1,.int .i64 2] fun a26=>
 .asG qI a26 fun X27=>
 .ite true (.callv (.func (.func 108) [] []) [.str [105,102],.bool false,.int .i64 3,.int .i64 3] fun a28=>
 .asG qI a28 fun X29=>
 .callv (.func (.func 108) [] []) [.str [114,111,117,110,100],.bool false,.int .i64 2,.int .i64 2] fun a30=>
 .asG qI a30 fun X31=>
 .callv (.func (.func 108) [] []) [.str [98,101,116,119,101,101,110],.bool false,.int .i64 2,.int .i64 2] fun a32=>
 .asG qI a32 fun X33=>
 .callv (.func (.func 108) [] []) [.str [115,101,114,118,105,99,101],.bool true,.int .i64 2,.int .i64 2] fun a34=>
 .asG qI a34 fun X35=>
 .callv (.func (.func 108) [] []) [.str [98,101,115,116],.bool true,.int .i64 3,.int .i64 3] fun a36=>
 .asG qI a36 fun X37=>
 .callv (.func (.func 108) [] []) [.str [103,114,111,119],.bool true,.int .i64 2,.int .i64 2] fun a38=>
 .asG qI a38 fun X39=>
 .callv (.func (.func 108) [] []) [.str [109,111,110,116,104,115],.bool false,.int .i64 1,.int .i64 1] fun a40=>
 .asG qI a40 fun X41=>
 .callv (.func (.func 108) [] []) [.str [110,117,109,98,101,114],.bool false,.int .i64 1,.int .i64 1] fun a42=>
 .asG qI a42 fun X43=>
 .callv (.func (.func 108) [] []) [.str [115,116,97,114,116],.bool false,.int .i64 1,.int .i64 1] fun a44=>
 .asG qI a44 fun X45=>
 .ite true (.heavy (zpx (.agg [.int .u8 0,.str [],.bool false,.int .i64 0,.int .i64 0,.int .i64 0,.int .i64 0,.int .i64 0,.int .u8 1,.str [],.bool false,.int .i64 0,.int .i64 0,.int .i64 7,.int .i64 0,.int .i64 0,.int .u8 2,.str [116,111,100,97,121],.bool false,.int .i64 0,.int .i64 0,.int .i64 7,.int .i64 0,.int .i64 0,.int .u8 (X1.i 0),.str (X1.s 1),.bool (X1.b 2),.int .i64 (X1.i 3),.int .i64 (X1.i 4),.int .i64 (X1.i 5),.int .i64 (X1.i 6),.int .i64 (X1.i 7),.int .u8 (X3.i 0),.str (X3.s 1),.bool (X3.b 2),.int .i64 (X3.i 3),.int .i64 (X3.i 4),.int .i64 (X3.i 5),.int .i64 (X3.i 6),.int .i64 (X3.i 7),.int .u8 (X5.i 0),.str (X5.s 1),.bool (X5.b 2),.int .i64 (X5.i 3),.int .i64 (X5.i 4),.int .i64 (X5.i 5),.int .i64 (X5.i 6),.int .i64 (X5.i 7),.int .u8 (X7.i 0),.str (X7.s 1),.bool (X7.b 2),.int .i64 (X7.i 3),.int .i64 (X7.i 4),.int .i64 (X7.i 5),.int .i64 (X7.i 6),.int .i64 (X7.i 7),.int .u8 (X9.i 0),.str (X9.s 1),.bool (X9.b 2),.int .i64 (X9.i 3),.int .i64 (X9.i 4),.int .i64 (X9.i 5),.int .i64 (X9.i 6),.int .i64 (X9.i 7),.int .u8 (X11.i 0),.str (X11.s 1),.bool (X11.b 2),.int .i64 (X11.i 3),.int .i64 (X11.i 4),.int .i64 (X11.i 5),.int .i64 (X11.i 6),.int .i64 (X11.i 7),.int .u8 (X13.i 0),.str (X13.s 1),.bool (X13.b 2),.int .i64 (X13.i 3),.int .i64 (X13.i 4),.int .i64 (X13.i 5),.int .i64 (X13.i 6),.int .i64 (X13.i 7),.int .u8 (X15.i 0),.str (X15.s 1),.bool (X15.b 2),.int .i64 (X15.i 3),.int .i64 (X15.i 4),.int .i64 (X15.i 5),.int .i64 (X15.i 6),.int .i64 (X15.i 7),.int .u8 (X17.i 0),.str (X17.s 1),.bool (X17.b 2),.int .i64 (X17.i 3),.int .i64 (X17.i 4),.int .i64 (X17.i 5),.int .i64 (X17.i 6),.int .i64 (X17.i 7),.int .u8 (X19.i 0),.str (X19.s 1),.bool (X19.b 2),.int .i64 (X19.i 3),.int .i64 (X19.i 4),.int .i64 (X19.i 5),.int .i64 (X19.i 6),.int .i64 (X19.i 7),.int .u8 (X21.i 0),.str (X21.s 1),.bool (X21.b 2),.int .i64 (X21.i 3),.int .i64 (X21.i 4),.int .i64 (X21.i 5),.int .i64 (X21.i 6),.int .i64 (X21.i 7),.int .u8 (X23.i 0),.str (X23.s 1),.bool (X23.b 2),.int .i64 (X23.i 3),.int .i64 (X23.i 4),.int .i64 (X23.i 5),.int .i64 (X23.i 6),.int .i64 (X23.i 7),.int .u8 (X25.i 0),.str (X25.s 1),.bool (X25.b 2),.int .i64 (X25.i 3),.int .i64 (X25.i 4),.int .i64 (X25.i 5),.int .i64 (X25.i 6),.int .i64 (X25.i 7),.int .u8 (X27.i 0),.str (X27.s 1),.bool (X27.b 2),.int .i64 (X27.i 3),.int .i64 (X27.i 4),.int .i64 (X27.i 5),.int .i64 (X27.i 6),.int .i64 (X27.i 7),.int .u8 5,.str [110,111,116,32],.bool false,.int .i64 1,.int .i64 1,.int .i64 3,.int .i64 3,.int .i64 3,.int .u8 (X29.i 0),.str (X29.s 1),.bool (X29.b 2),.int .i64 (X29.i 3),.int .i64 (X29.i 4),.int .i64 (X29.i 5),.int .i64 (X29.i 6),.int .i64 (X29.i 7),.int .u8 (X31.i 0),.str (X31.s 1),.bool (X31.b 2),.int .i64 (X31.i 3),.int .i64 (X31.i 4),.int .i64 (X31.i 5),.int .i64 (X31.i 6),.int .i64 (X31.i 7),.int .u8 (X33.i 0),.str (X33.s 1),.bool (X33.b 2),.int .i64 (X33.i 3),.int .i64 (X33.i 4),.int .i64 (X33.i 5),.int .i64 (X33.i 6),.int .i64 (X33.i 7),.int .u8 (X35.i 0),.str (X35.s 1),.bool (X35.b 2),.int .i64 (X35.i 3),.int .i64 (X35.i 4),.int .i64 (X35.i 5),.int .i64 (X35.i 6),.int .i64 (X35.i 7),.int .u8 (X37.i 0),.str (X37.s 1),.bool (X37.b 2),.int .i64 (X37.i 3),.int .i64 (X37.i 4),.int .i64 (X37.i 5),.int .i64 (X37.i 6),.int .i64 (X37.i 7),.int .u8 (X39.i 0),.str (X39.s 1),.bool (X39.b 2),.int .i64 (X39.i 3),.int .i64 (X39.i 4),.int .i64 (X39.i 5),.int .i64 (X39.i 6),.int .i64 (X39.i 7),.int .u8 (X41.i 0),.str (X41.s 1),.bool (X41.b 2),.int .i64 (X41.i 3),.int .i64 (X41.i 4),.int .i64 (X41.i 5),.int .i64 (X41.i 6),.int .i64 (X41.i 7),.int .u8 (X43.i 0),.str (X43.s 1),.bool (X43.b 2),.int .i64 (X43.i 3),.int .i64 (X43.i 4),.int .i64 (X43.i 5),.int .i64 (X43.i 6),.int .i64 (X43.i 7),.int .u8 (X45.i 0),.str (X45.s 1),.bool (X45.b 2),.int .i64 (X45.i 3),.int .i64 (X45.i 4),.int .i64 (X45.i 5),.int .i64 (X45.i 6),.int .i64 (X45.i 7)])) fun a46=>
 .ret a46) .fail) .fail) .fail) .fail
def w83 (h:wp 83 (t83 ) m Q):Wf 83 [] m Q:=aB ok83 h
def t84 (p0:List Nat):T:=
 .ite (cF p0 [])
 (.ret (.bool false))
 (.ite (vC 24 (Int.ofNat (aA p0)))
 (.ret (.bool false))
 (.opt (sK yA 9 (.str p0) (.int .i64 0)) fun a0=>.asI .u8 a0 fun n1=>.call 111 [.int .u8 n1] fun a2=>
 .asB a2 fun b3=>.ite (!b3)
 (.ret (.bool false))
 (.call 112 [.str p0,(.func (.func 113) [] [])] fun a4=>
 .asS a4 fun s5=>.ite (cF s5 p0)
 (.call 114 [.str p0] fun a6=>
 .asB a6 fun b7=>.ret (.bool (!b7)))
 (.ret (.bool false)))))
def w84(p0:List Nat)(h:wp 84 (t84 p0) m Q):Wf 84 [.str p0] m Q:=aB ok84 h
def t85 (A0:Int)(A1:Bool)(A2:zA)(A3:Bool)(A4:zA)(A5:Int):T:=
 .ite (lA A0 2)
 (.ite (lA A0 2)
 (.ite (lA A5 0)
 (.call 115 [.agg [.bool A1,A2,.bool A3,A4]] fun a0=>
 .asB a0 fun b1=>.ret (.bool b1))
 (.ret (.bool false)))
 (.ite (lA A0 1)
 (.call 116 [.agg [.bool A1,A2,.bool A3,A4]] fun a2=>
 .asB a2 fun b3=>.ite b3
 (.ite (lA A5 0)
 (.ret (.bool true))
 (.ret (.bool (lA A5 1))))
 (.ret (.bool false)))
 (.ite (lA A0 4)
 (.call 116 [.agg [.bool A1,A2,.bool A3,A4]] fun a4=>
 .asB a4 fun b5=>.ite b5
 (.call 117 [.int .i64 A5] fun a6=>
 .asB a6 fun b7=>.ret (.bool b7))
 (.ret (.bool false)))
 (.ite (lA A0 5)
 (.ite (lA A0 5)
 (.call 116 [.agg [.bool A1,A2,.bool A3,A4]] fun a8=>
 .asB a8 fun b9=>.ite b9
 (.ite (nC (-1048576) A5)
 (.ret (.bool (nC A5 1048576)))
 (.ret (.bool false)))
 (.ret (.bool false)))
 (.ret (.bool false)))
 (.ite (lA A0 6)
 (.call 116 [.agg [.bool A1,A2,.bool A3,A4]] fun vD=>
 .asB vD fun b11=>.ite b11
 (.ite (nC (-1048576) A5)
 (.ret (.bool (nC A5 1048576)))
 (.ret (.bool false)))
 (.ret (.bool false)))
 (.ret (.bool false)))))))
 (.ite (lA A0 3)
 (.ite (lA A5 0)
 (.call 115 [.agg [.bool A1,A2,.bool A3,A4]] fun rF=>
 .asB rF fun b13=>.ret (.bool b13))
 (.ret (.bool false)))
 (.ite (lA A0 1)
 (.call 116 [.agg [.bool A1,A2,.bool A3,A4]] fun tF=>
 .asB tF fun b15=>.ite b15
 (.ite (lA A5 0)
 (.ret (.bool true))
 (.ret (.bool (lA A5 1))))
 (.ret (.bool false)))
 (.ite (lA A0 4)
 (.call 116 [.agg [.bool A1,A2,.bool A3,A4]] fun a16=>
 .asB a16 fun b17=>.ite b17
 (.call 117 [.int .i64 A5] fun a18=>
 .asB a18 fun b19=>.ret (.bool b19))
 (.ret (.bool false)))
 (.ite (lA A0 5)
 (.ite (lA A0 5)
 (.call 116 [.agg [.bool A1,A2,.bool A3,A4]] fun a20=>
 .asB a20 fun b21=>.ite b21
 (.ite (nC (-1048576) A5)
 (.ret (.bool (nC A5 1048576)))
 (.ret (.bool false)))
 (.ret (.bool false)))
 (.ret (.bool false)))
 (.ite (lA A0 6)
 (.call 116 [.agg [.bool A1,A2,.bool A3,A4]] fun a22=>
 .asB a22 fun b23=>.ite b23
 (.ite (nC (-1048576) A5)
 (.ret (.bool (nC A5 1048576)))
 (.ret (.bool false)))
 (.ret (.bool false)))
 (.ret (.bool false)))))))
def w85(A0:Int)(A1:Bool)(A2:zA)(A3:Bool)(A4:zA)(A5:Int)(h:wp 85 (t85 A0 A1 A2 A3 A4 A5) m Q):Wf 85 [.agg [.int .u8 A0,.bool A1,A2,.bool A3,A4,.int .i64 A5]] m Q:=aB ok85 h
def t86 (A0:Int)(A1:Bool)(A2:zA)(A3:Bool)(A4:zA)(A5:Int):T:=
 .ite (lA A0 0)
 (.ite (lA A5 0)
 (.call 116 [.agg [.bool A1,A2,.bool A3,A4]] fun a0=>
 .asB a0 fun b1=>.ret (.bool b1))
 (.ret (.bool false)))
 (.ret (.bool false))
def w86(A0:Int)(A1:Bool)(A2:zA)(A3:Bool)(A4:zA)(A5:Int)(h:wp 86 (t86 A0 A1 A2 A3 A4 A5) m Q):Wf 86 [.agg [.int .u8 A0,.bool A1,A2,.bool A3,A4,.int .i64 A5]] m Q:=aB ok86 h
def t87 (p0:zA)(A0:Int)(A1:List Nat)(A2:Int)(A3:Bool)(A4:zA)(A5:Bool)(A6:zA)(A7:Int)(A8:zA):T:=
 .opt (rC p0) fun a0=>.opt (sB yA 166 0 a0) fun a1=>.call 118 [a1] fun a2=>
 .asI .i64 a2 fun n3=>.ite (vC 65536 n3)
 (.ret (.tup []))
 (.opt (rC p0) fun a4=>.opt (sB yA 166 1 a4) fun a5=>.light (fun m=>mA yA 132 ⟨0,m⟩ a5) fun a6=>.opt (rC a6) fun a7=>.opt (lB yA 188 a7 (.int .u8 A0)) fun a8=>.opt (rC a8) fun a9=>.opt (sB yA 159 0 a9) fun vD=>.light (fun m=>mA yA 5 ⟨0,m⟩ vD) fun a11=>.asI .u8 a11 fun n12=>.ite (lA n12 1)
 (.opt (rC p0) fun a13=>.opt (sB yA 166 0 a13) fun tF=>.call 120 [.agg [.int .u8 A2,.bool A3,A4,.bool A5,A6,.int .i64 A7]] fun a15=>
 .asS a15 fun s16=>.call 119 [tF,.str s16] fun a17=>
 .ret (.tup []))
 (.ite (lA n12 2)
 (.opt (rC p0) fun a18=>.opt (sB yA 166 0 a18) fun a19=>.opt (rC a8) fun a20=>.opt (sB yA 159 1 a20) fun a21=>.light (fun m=>mA yA 9 ⟨0,m⟩ a21) fun a22=>.asS a22 fun s23=>.call 119 [a19,.str s23] fun a24=>
 .ret (.tup []))
 (.ite (lA n12 3)
 (.opt (rC p0) fun a25=>.opt (sB yA 166 0 a25) fun a26=>.opt (rC a8) fun a27=>.opt (sB yA 159 1 a27) fun a28=>.light (fun m=>mA yA 9 ⟨0,m⟩ a28) fun a29=>.asS a29 fun s30=>.opt (nJ s30 A1) fun a31=>.asS a31 fun s32=>.opt (nJ s32 [32,97,116,32]) fun a33=>.asS a33 fun s34=>.call 119 [a26,.str s34] fun a35=>
 .opt (lB yA 34 A8 (.int .i64 0)) fun a36=>.light (fun m=>mA yA 36 ⟨0,m⟩ a36) fun a37=>.asG zmn a37 fun X38=>
 .opt (rC a8) fun a39=>.opt (sB yA 159 6 a39) fun a40=>.light (fun m=>mA yA 3 ⟨0,m⟩ a40) fun a41=>.asI .i64 a41 fun n42=>.call 121 [p0,(.agg [.int .u8 (X38.i 0),.str (X38.s 1),.int .u8 (X38.i 2),.bool (X38.b 3),X38.v 4,.bool (X38.b 5),X38.v 6,.int .i64 (X38.i 7),X38.v 8]),.int .i64 n42] fun a43=>
 .ret (.tup []))
 (.ite (lA n12 4)
 (.opt (lB yA 34 A8 (.int .i64 0)) fun a44=>.light (fun m=>mA yA 36 ⟨0,m⟩ a44) fun a45=>.asG zmn a45 fun X46=>
 .opt (rC a8) fun a47=>.opt (sB yA 159 6 a47) fun a48=>.light (fun m=>mA yA 3 ⟨0,m⟩ a48) fun a49=>.asI .i64 a49 fun n50=>.call 121 [p0,(.agg [.int .u8 (X46.i 0),.str (X46.s 1),.int .u8 (X46.i 2),.bool (X46.b 3),X46.v 4,.bool (X46.b 5),X46.v 6,.int .i64 (X46.i 7),X46.v 8]),.int .i64 n50] fun a51=>
 .opt (rC p0) fun a52=>.opt (sB yA 166 0 a52) fun a53=>.opt (rC a8) fun a54=>.opt (sB yA 159 1 a54) fun a55=>.light (fun m=>mA yA 9 ⟨0,m⟩ a55) fun a56=>.asS a56 fun s57=>.opt (nJ [32] s57) fun a58=>.asS a58 fun s59=>.opt (nJ s59 [32]) fun a60=>.asS a60 fun s61=>.call 119 [a53,.str s61] fun a62=>
 .opt (lB yA 34 A8 (.int .i64 1)) fun a63=>.light (fun m=>mA yA 36 ⟨0,m⟩ a63) fun a64=>.asG zmn a64 fun X65=>
 .opt (rC a8) fun a66=>.opt (sB yA 159 7 a66) fun a67=>.light (fun m=>mA yA 3 ⟨0,m⟩ a67) fun a68=>.asI .i64 a68 fun n69=>.call 121 [p0,(.agg [.int .u8 (X65.i 0),.str (X65.s 1),.int .u8 (X65.i 2),.bool (X65.b 3),X65.v 4,.bool (X65.b 5),X65.v 6,.int .i64 (X65.i 7),X65.v 8]),.int .i64 n69] fun a70=>
 .ret (.tup []))
 (.ite (lA n12 5)
 (.opt (rC p0) fun a71=>.opt (sB yA 166 0 a71) fun a72=>.opt (rC a8) fun a73=>.opt (sB yA 159 1 a73) fun a74=>.light (fun m=>mA yA 9 ⟨0,m⟩ a74) fun a75=>.asS a75 fun s76=>.call 119 [a72,.str s76] fun a77=>
 .opt (lB yA 34 A8 (.int .i64 0)) fun a78=>.light (fun m=>mA yA 36 ⟨0,m⟩ a78) fun a79=>.asG zmn a79 fun X80=>
 .opt (rC a8) fun a81=>.opt (sB yA 159 6 a81) fun a82=>.light (fun m=>mA yA 3 ⟨0,m⟩ a82) fun a83=>.asI .i64 a83 fun n84=>.call 121 [p0,(.agg [.int .u8 (X80.i 0),.str (X80.s 1),.int .u8 (X80.i 2),.bool (X80.b 3),X80.v 4,.bool (X80.b 5),X80.v 6,.int .i64 (X80.i 7),X80.v 8]),.int .i64 n84] fun a85=>
 .ret (.tup []))
 (.ite (lA n12 6)
 (.call 122 [p0,.agg [.int .u8 A0,.str A1,.int .u8 A2,.bool A3,A4,.bool A5,A6,.int .i64 A7,A8],a8] fun a86=>
 .ret (.tup []))
 (.ret (.tup []))))))))
def w87(p0:zA)(A0:Int)(A1:List Nat)(A2:Int)(A3:Bool)(A4:zA)(A5:Bool)(A6:zA)(A7:Int)(A8:zA)(h:wp 87 (t87 p0 A0 A1 A2 A3 A4 A5 A6 A7 A8) m Q):Wf 87 [p0,.agg [.int .u8 A0,.str A1,.int .u8 A2,.bool A3,A4,.bool A5,A6,.int .i64 A7,A8]] m Q:=aB ok87 h
def t89 (p0:zA):T:=
 .heavy (pF yA 27 27 .nilslice p0) fun a0=>
 .ret a0
def w89(p0:zA)(h:wp 89 (t89 p0) m Q):Wf 89 [p0] m Q:=aB ok89 h
def t108 (p0:List Nat)(p1:Bool)(p2 p3:Int):T:=
 .ite true (.ite true (.ret (.agg [.int .u8 6,.str p0,.bool p1,.int .i64 p2,.int .i64 p3,.int .i64 7,.int .i64 1,.int .i64 1])) .fail) .fail
def w108(p0:List Nat)(p1:Bool)(p2 p3:Int)(h:wp 108 (t108 p0 p1 p2 p3) m Q):Wf 108 [.str p0,.bool p1,.int .i64 p2,.int .i64 p3] m Q:=aB ok108 h
def t109 (p0:List Nat):T:=
 .ite true (.ite true (.ret (.agg [.int .u8 3,.str p0,.bool true,.int .i64 1,.int .i64 1,.int .i64 7,.int .i64 7,.int .i64 7])) .fail) .fail
def w109(p0:List Nat)(h:wp 109 (t109 p0) m Q):Wf 109 [.str p0] m Q:=aB ok109 h
def t110 (p0:List Nat)(p1 p2 p3:Int):T:=
 .ite true (.ite true (.ret (.agg [.int .u8 4,.str p0,.bool false,.int .i64 2,.int .i64 2,.int .i64 p1,.int .i64 p2,.int .i64 p3])) .fail) .fail
def w110(p0:List Nat)(p1 p2 p3:Int)(h:wp 110 (t110 p0 p1 p2 p3) m Q):Wf 110 [.str p0,.int .i64 p1,.int .i64 p2,.int .i64 p3] m Q:=aB ok110 h
def t111 (p0:Int):T:=
 .ite (nC 65 p0)
 (.ite (nC p0 90)
 (.ret (.bool true))
 (.ite (nC 97 p0)
 (.ret (.bool (nC p0 122)))
 (.ret (.bool false))))
 (.ite (nC 97 p0)
 (.ret (.bool (nC p0 122)))
 (.ret (.bool false)))
def w111(p0:Int)(h:wp 111 (t111 p0) m Q):Wf 111 [.int .u8 p0] m Q:=aB ok111 h
def t112 (p0:List Nat)(p1:zA):T:=
 .jump 2 [.str p0,p1,.int .i64 0]
def w112(p0:List Nat)(p1:zA)(h:wp 112 (t112 p0 p1) m Q):Wf 112 [.str p0,p1] m Q:=aB ok112 h
def zw3(v0:List Nat)(v1:zA)(v5:Int):T:=
 .ite (vC v5 (Int.ofNat (aA v0)))
 (.opt (sK yA 9 (.str v0) (.int .i64 v5)) fun a0=>.asI .u8 a0 fun n1=>.callv v1 [.int .u8 n1] fun a2=>
 .asB a2 fun b3=>.ite b3
 (.jump 2 [.str v0,v1,(.int .i64 (wA .i64 (v5+1)))])
 (.opt (vG yA 9 H0A (.str v0) none (some (.int .i64 v5))) fun a4=>.asS a4 fun s5=>.ret (.str s5)))
 (.opt (vG yA 9 H0A (.str v0) none (some (.int .i64 v5))) fun a6=>.asS a6 fun s7=>.ret (.str s7))
def z7g(v0:List Nat)(v1:zA)(v5:Int)(h:wp 112 (zw3 v0 v1 v5) m Q):jp 112 2 [.str v0,v1,.int .i64 v5] m Q:=cD ok112 h
def t113 (p0:Int):T:=
 .call 111 [.int .u8 p0] fun a0=>
 .asB a0 fun b1=>.ite b1
 (.ret (.bool true))
 (.call 139 [.int .u8 p0] fun a2=>
 .asB a2 fun b3=>.ite b3
 (.ret (.bool true))
 (.ret (.bool (lA p0 95))))
def w113(p0:Int)(h:wp 113 (t113 p0) m Q):Wf 113 [.int .u8 p0] m Q:=aB ok113 h
def t114 (p0:List Nat):T:=
 .ite (vC (Int.ofNat (aA p0)) 2)
 (.ret (.bool false))
 (.ite (vC 7 (Int.ofNat (aA p0)))
 (.ret (.bool false))
 (.call 112 [.str p0,(.func (.func 111) [] [])] fun a0=>
 .asS a0 fun s1=>.ite (!cF s1 p0)
 (.ret (.bool false))
 (.heavy fV fun a2=>
 .heavy (mI yA 213 a2 (.int .i64 2) (.str [32,116,111,32,105,115,32,97,116,32,105,102,32,111,114,32,117,112,32])) fun _=>
 .heavy (mI yA 213 a2 (.int .i64 3) (.str [32,100,101,102,32,114,111,119,32,111,110,101,32,116,119,111,32,101,110,100,32,111,102,102,32,104,97,115,32,109,105,110,32,109,97,120,32,97,110,100,32,110,111,116,32])) fun _=>
 .heavy (mI yA 213 a2 (.int .i64 4) (.str [32,112,108,97,110,32,102,97,99,116,32,102,114,111,109,32,119,104,101,110,32,116,104,101,110,32,100,97,116,101,32,100,97,121,115,32,116,114,117,101,32,108,111,111,107,32,98,101,115,116,32,103,114,111,119,32,100,111,119,110,32,99,101,105,108,32,104,97,108,102,32,101,118,101,110,32])) fun _=>
 .heavy (mI yA 213 a2 (.int .i64 5) (.str [32,116,97,98,108,101,32,107,110,111,119,110,32,116,114,117,116,104,32,109,111,110,101,121,32,102,97,108,115,101,32,109,105,110,117,115,32,116,111,100,97,121,32,114,111,117,110,100,32,115,116,97,114,116,32,102,108,111,111,114,32])) fun _=>
 .heavy (mI yA 213 a2 (.int .i64 6) (.str [32,99,108,97,117,115,101,32,110,117,109,98,101,114,32,109,111,110,116,104,115,32])) fun _=>
 .heavy (mI yA 213 a2 (.int .i64 7) (.str [32,98,101,116,119,101,101,110,32,115,101,114,118,105,99,101,32])) fun _=>
 .light (fun m=>yI yA 213 ⟨0,m⟩ a2 (.int .i64 (Int.ofNat (aA p0))) false) fun a3=>.asS a3 fun s4=>.opt (nJ [32] p0) fun a5=>.asS a5 fun s6=>.opt (nJ s6 [32]) fun a7=>.asS a7 fun s8=>.call 140 [.str s4,.str s8] fun a9=>
 .asB a9 fun b10=>.ret (.bool b10))))
def w114(p0:List Nat)(h:wp 114 (t114 p0) m Q):Wf 114 [.str p0] m Q:=aB ok114 h
def t115 (A0:Bool)(A1:zA)(A2:Bool)(A3:zA):T:=
 .opt (zC A1) fun a0=>.asI .i64 a0 fun n1=>.ite (vC 42 n1)
 (.ret (.bool false))
 (.opt (zC A3) fun a2=>.asI .i64 a2 fun n3=>.ite (vC 42 n3)
 (.ret (.bool false))
 (.call 141 [.agg [.bool A0,A1,.bool A2,A3]] fun a4=>
 .asB a4 fun b5=>.ite (!b5)
 (.ret (.bool false))
 (.call 142 [.agg [.bool A0,A1,.bool A2,A3]] fun a6=>
 .opt (rB 0 a6) fun a7=>.asS a7 fun s8=>.opt (rB 1 a6) fun a9=>.asI .i64 a9 fun n10=>.ite (lA n10 0)
 (.call 143 [.str s8,.str [45]] fun a11=>
 .asS a11 fun s12=>.ret (.bool (nC (Int.ofNat (aA s12)) 200)))
 (.ret (.bool false)))))
def w115(A0:Bool)(A1:zA)(A2:Bool)(A3:zA)(h:wp 115 (t115 A0 A1 A2 A3) m Q):Wf 115 [.agg [.bool A0,A1,.bool A2,A3]] m Q:=aB ok115 h
def t116 (A0:Bool)(A1:zA)(A2:Bool)(A3:zA):T:=
 .ite (!A0)
 (.ite (!A2)
 (.opt (zC A1) fun a0=>.asI .i64 a0 fun n1=>.opt (zC A3) fun a2=>.asI .i64 a2 fun n3=>.ret (.bool (lA (wA .i64 (n1+n3)) 0)))
 (.ret (.bool false)))
 (.ret (.bool false))
def w116(A0:Bool)(A1:zA)(A2:Bool)(A3:zA)(h:wp 116 (t116 A0 A1 A2 A3) m Q):Wf 116 [.agg [.bool A0,A1,.bool A2,A3]] m Q:=aB ok116 h
def t117 (p0:Int):T:=
 .ite (nC 0 p0)
 (.ret (.bool (vC p0 65536)))
 (.ret (.bool false))
def w117(p0:Int)(h:wp 117 (t117 p0) m Q):Wf 117 [.int .i64 p0] m Q:=aB ok117 h
def t118 (p0:zA):T:=
 .opt (rC p0) fun a0=>.opt (sB yA 164 1 a0) fun a1=>.light (fun m=>mA yA 38 ⟨0,m⟩ a1) fun a2=>.opt (zC a2) fun a3=>.asI .i64 a3 fun n4=>.ret (.int .i64 n4)
def w118(p0:zA)(h:wp 118 (t118 p0) m Q):Wf 118 [p0] m Q:=aB ok118 h
def t119 (p0:zA)(p1:List Nat):T:=
 .call 144 [p0] fun a0=>
 .opt (rC p0) fun a1=>.opt (sB yA 164 1 a1) fun a2=>.light (fun m=>mA yA 38 ⟨0,m⟩ a2) fun a3=>.heavy (pF yA 38 9 a3 (.str p1)) fun a4=>
 .opt (rC p0) fun a5=>.opt (sB yA 164 1 a5) fun a6=>.heavy (eC yA 38 a6 a4) fun _=>
 .ret (.tup [(.int .i64 (Int.ofNat (aA p1))),.niliface])
def w119(p0:zA)(p1:List Nat)(h:wp 119 (t119 p0 p1) m Q):Wf 119 [p0,.str p1] m Q:=aB ok119 h
def t120 (A0:Int)(A1:Bool)(A2:zA)(A3:Bool)(A4:zA)(A5:Int):T:=
 .ite (lA A0 1)
 (.call 145 [(.bool (lA A5 1))] fun a0=>
 .asS a0 fun s1=>.ret (.str s1))
 (.ite (lA A0 2)
 (.call 146 [.agg [.bool A1,A2,.bool A3,A4]] fun a2=>
 .asS a2 fun s3=>.ret (.str s3))
 (.ite (lA A0 3)
 (.call 146 [.agg [.bool A1,A2,.bool A3,A4]] fun a4=>
 .asS a4 fun s5=>.opt (nJ [109,111,110,101,121,32] s5) fun a6=>.asS a6 fun s7=>.ret (.str s7))
 (.ite (lA A0 4)
 (.call 147 [.int .i64 A5] fun a8=>
 .asS a8 fun s9=>.ret (.str s9))
 (.ite (lA A0 5)
 (.call 148 [.int .i64 A5] fun vD=>
 .asS vD fun s11=>.opt (nJ s11 [32,100,97,121,115]) fun rF=>.asS rF fun s13=>.ret (.str s13))
 (.ite (lA A0 6)
 (.call 148 [.int .i64 A5] fun tF=>
 .asS tF fun s15=>.opt (nJ s15 [32,109,111,110,116,104,115]) fun a16=>.asS a16 fun s17=>.ret (.str s17))
 (.ret (.str [])))))))
def w120(A0:Int)(A1:Bool)(A2:zA)(A3:Bool)(A4:zA)(A5:Int)(h:wp 120 (t120 A0 A1 A2 A3 A4 A5) m Q):Wf 120 [.agg [.int .u8 A0,.bool A1,A2,.bool A3,A4,.int .i64 A5]] m Q:=aB ok120 h
def t121 (p0:zA)(A0:Int)(A1:List Nat)(A2:Int)(A3:Bool)(A4:zA)(A5:Bool)(A6:zA)(A7:Int)(A8:zA)(p2:Int):T:=
 .opt (rC p0) fun a0=>.opt (sB yA 166 1 a0) fun a1=>.light (fun m=>mA yA 132 ⟨0,m⟩ a1) fun a2=>.opt (rC a2) fun a3=>.opt (lB yA 188 a3 (.int .u8 A0)) fun a4=>.opt (sB yA 159 5 a4) fun a5=>.light (fun m=>mA yA 3 ⟨0,m⟩ a5) fun a6=>.asI .i64 a6 fun n7=>.ite (nC p2 n7)
 (.call 87 [p0,.agg [.int .u8 A0,.str A1,.int .u8 A2,.bool A3,A4,.bool A5,A6,.int .i64 A7,A8]] fun a8=>
 .ret (.tup []))
 (.opt (rC p0) fun a9=>.opt (sB yA 166 0 a9) fun vD=>.call 119 [vD,.str [40]] fun a11=>
 .call 87 [p0,.agg [.int .u8 A0,.str A1,.int .u8 A2,.bool A3,A4,.bool A5,A6,.int .i64 A7,A8]] fun rF=>
 .opt (rC p0) fun a13=>.opt (sB yA 166 0 a13) fun tF=>.call 119 [tF,.str [41]] fun a15=>
 .ret (.tup []))
def w121(p0:zA)(A0:Int)(A1:List Nat)(A2:Int)(A3:Bool)(A4:zA)(A5:Bool)(A6:zA)(A7:Int)(A8:zA)(p2:Int)(h:wp 121 (t121 p0 A0 A1 A2 A3 A4 A5 A6 A7 A8 p2) m Q):Wf 121 [p0,.agg [.int .u8 A0,.str A1,.int .u8 A2,.bool A3,A4,.bool A5,A6,.int .i64 A7,A8],.int .i64 p2] m Q:=aB ok121 h
def t122 (p0:zA)(A0:Int)(A1:List Nat)(A2:Int)(A3:Bool)(A4:zA)(A5:Bool)(A6:zA)(A7:Int)(A8 p2:zA):T:=
 .opt (rC p0) fun a0=>.opt (sB yA 166 0 a0) fun a1=>.opt (rC p2) fun a2=>.opt (sB yA 159 1 a2) fun a3=>.light (fun m=>mA yA 9 ⟨0,m⟩ a3) fun a4=>.asS a4 fun s5=>.opt (nJ s5 [40]) fun a6=>.asS a6 fun s7=>.call 119 [a1,.str s7] fun a8=>
 .opt (rC p2) fun a9=>.opt (sB yA 159 2 a9) fun vD=>.light (fun m=>mA yA 4 ⟨0,m⟩ vD) fun a11=>.asB a11 fun b12=>.ite b12
 (.opt (rC p0) fun a13=>.opt (sB yA 166 0 a13) fun tF=>.opt (nJ A1 [44,32]) fun a15=>.asS a15 fun s16=>.call 119 [tF,.str s16] fun a17=>
 .jump 9 [p0,.int .u8 A0,.str A1,.int .u8 A2,.bool A3,A4,.bool A5,A6,.int .i64 A7,A8])
 (.jump 9 [p0,.int .u8 A0,.str A1,.int .u8 A2,.bool A3,A4,.bool A5,A6,.int .i64 A7,A8])
def w122(p0:zA)(A0:Int)(A1:List Nat)(A2:Int)(A3:Bool)(A4:zA)(A5:Bool)(A6:zA)(A7:Int)(A8 p2:zA)(h:wp 122 (t122 p0 A0 A1 A2 A3 A4 A5 A6 A7 A8 p2) m Q):Wf 122 [p0,.agg [.int .u8 A0,.str A1,.int .u8 A2,.bool A3,A4,.bool A5,A6,.int .i64 A7,A8],p2] m Q:=aB z8w h
def z6l(v0:zA)(A0:Int)(A1:List Nat)(A2:Int)(A3:Bool)(A4:zA)(A5:Bool)(A6:zA)(A7:Int)(A8:zA):T:=
 .opt (zC A8) fun a0=>.asI .i64 a0 fun n1=>.jump 2 [v0,A8,.int .i64 n1,.int .i64 0,.int .u8 A0,.str A1,.int .u8 A2,.bool A3,A4,.bool A5,A6,.int .i64 A7,A8]
def j122_9(v0:zA)(A0:Int)(A1:List Nat)(A2:Int)(A3:Bool)(A4:zA)(A5:Bool)(A6:zA)(A7:Int)(A8:zA)(h:wp 122 (z6l v0 A0 A1 A2 A3 A4 A5 A6 A7 A8) m Q):jp 122 9 [v0,.int .u8 A0,.str A1,.int .u8 A2,.bool A3,A4,.bool A5,A6,.int .i64 A7,A8] m Q:=cD z8w h
def zw2(v0 v29:zA)(v30 v31 A0:Int)(A1:List Nat)(A2:Int)(A3:Bool)(A4:zA)(A5:Bool)(A6:zA)(A7:Int)(A8:zA):T:=
 .ite (vC v31 v30)
 (.opt (lB yA 34 v29 (.int .i64 v31)) fun a0=>.light (fun m=>mA yA 36 ⟨0,m⟩ a0) fun a1=>.asG zmn a1 fun X2=>
 .ite (tC zA.one [.int .u8 (X2.i 0),.str (X2.s 1),.int .u8 (X2.i 2),.bool (X2.b 3),X2.v 4,.bool (X2.b 5),X2.v 6,.int .i64 (X2.i 7),X2.v 8]) (.ite (vC 0 v31)
 (.opt (rC v0) fun a3=>.opt (sB yA 166 0 a3) fun a4=>.call 119 [a4,.str [44,32]] fun a5=>
 .call 87 [v0,(.agg [.int .u8 (X2.i 0),.str (X2.s 1),.int .u8 (X2.i 2),.bool (X2.b 3),X2.v 4,.bool (X2.b 5),X2.v 6,.int .i64 (X2.i 7),X2.v 8])] fun a6=>
 .jump 2 [v0,v29,.int .i64 v30,(.int .i64 (wA .i64 (v31+1))),.int .u8 A0,.str A1,.int .u8 A2,.bool A3,A4,.bool A5,A6,.int .i64 A7,A8])
 (.call 87 [v0,(.agg [.int .u8 (X2.i 0),.str (X2.s 1),.int .u8 (X2.i 2),.bool (X2.b 3),X2.v 4,.bool (X2.b 5),X2.v 6,.int .i64 (X2.i 7),X2.v 8])] fun a7=>
 .jump 2 [v0,v29,.int .i64 v30,(.int .i64 (wA .i64 (v31+1))),.int .u8 A0,.str A1,.int .u8 A2,.bool A3,A4,.bool A5,A6,.int .i64 A7,A8])) .fail)
 (.ite (lA A0 19)
 (.opt (rC v0) fun a8=>.opt (sB yA 166 0 a8) fun a9=>.call 149 [(.int .u8 (wA .u8 A7))] fun vD=>
 .asS vD fun s11=>.opt (nJ [44,32] s11) fun rF=>.asS rF fun s13=>.call 119 [a9,.str s13] fun tF=>
 .opt (rC v0) fun a15=>.opt (sB yA 166 0 a15) fun a16=>.call 119 [a16,.str [41]] fun a17=>
 .ret (.tup []))
 (.opt (rC v0) fun a18=>.opt (sB yA 166 0 a18) fun a19=>.call 119 [a19,.str [41]] fun a20=>
 .ret (.tup [])))
def z7f(v0 v29:zA)(v30 v31 A0:Int)(A1:List Nat)(A2:Int)(A3:Bool)(A4:zA)(A5:Bool)(A6:zA)(A7:Int)(A8:zA)(h:wp 122 (zw2 v0 v29 v30 v31 A0 A1 A2 A3 A4 A5 A6 A7 A8) m Q):jp 122 2 [v0,v29,.int .i64 v30,.int .i64 v31,.int .u8 A0,.str A1,.int .u8 A2,.bool A3,A4,.bool A5,A6,.int .i64 A7,A8] m Q:=cD z8w h
def t139 (p0:Int):T:=
 .ite (nC 48 p0)
 (.ret (.bool (nC p0 57)))
 (.ret (.bool false))
def w139(p0:Int)(h:wp 139 (t139 p0) m Q):Wf 139 [.int .u8 p0] m Q:=aB ok139 h
def t141 (A0:Bool)(A1:zA)(A2:Bool)(A3:zA):T:=
 .ite true (.call 166 [.agg [.bool A0,A1,.bool A2,A3]] fun a0=>
 .asB a0 fun b1=>.ret (.bool b1)) .fail
def w141(A0:Bool)(A1:zA)(A2:Bool)(A3:zA)(h:wp 141 (t141 A0 A1 A2 A3) m Q):Wf 141 [.agg [.bool A0,A1,.bool A2,A3]] m Q:=aB ok141 h
def t142 (A0:Bool)(A1:zA)(A2:Bool)(A3:zA):T:=
 .call 141 [.agg [.bool A0,A1,.bool A2,A3]] fun a0=>
 .asB a0 fun b1=>.ite (!b1)
 (.ret (.tup [.str [],.int .i64 2]))
 (.call 167 [.agg [.bool A0,A1]] fun a2=>
 .opt (rB 0 a2) fun a3=>.asS a3 fun s4=>.opt (rB 1 a2) fun a5=>.asI .i64 a5 fun n6=>.ite true (.call 168 [.agg [.bool A0,A1,.bool A2,A3]] fun a7=>
 .asB a7 fun b8=>.ite (!b8)
 (.call 167 [.agg [.bool A2,A3]] fun a9=>
 .opt (rB 0 a9) fun vD=>.asS vD fun s11=>.opt (rB 1 a9) fun rF=>.asI .i64 rF fun n13=>.opt (nJ [47] s11) fun tF=>.asS tF fun s15=>.opt (nJ s4 s15) fun a16=>.asS a16 fun s17=>.ret (.tup [.str s17,.int .i64 0]))
 (.ret (.tup [.str s4,.int .i64 0]))) .fail)
def w142(A0:Bool)(A1:zA)(A2:Bool)(A3:zA)(h:wp 142 (t142 A0 A1 A2 A3) m Q):Wf 142 [.agg [.bool A0,A1,.bool A2,A3]] m Q:=aB ok142 h
def t143 (p0 p1:List Nat):T:=
 .call 169 [.str p0,.str p1] fun a0=>
 .asS a0 fun s1=>.ret (.str s1)
def w143(p0 p1:List Nat)(h:wp 143 (t143 p0 p1) m Q):Wf 143 [.str p0,.str p1] m Q:=aB ok143 h
def t145 (p0:Bool):T:=
 .call 171 [.bool p0] fun a0=>
 .asS a0 fun s1=>.ret (.str s1)
def w145(p0:Bool)(h:wp 145 (t145 p0) m Q):Wf 145 [.bool p0] m Q:=aB ok145 h
def t146 (A0:Bool)(A1:zA)(A2:Bool)(A3:zA):T:=
 .call 142 [.agg [.bool A0,A1,.bool A2,A3]] fun a0=>
 .opt (rB 0 a0) fun a1=>.asS a1 fun s2=>.opt (rB 1 a0) fun a3=>.asI .i64 a3 fun n4=>.call 172 [.str s2] fun a5=>
 .asS a5 fun s6=>.ret (.str s6)
def w146(A0:Bool)(A1:zA)(A2:Bool)(A3:zA)(h:wp 146 (t146 A0 A1 A2 A3) m Q):Wf 146 [.agg [.bool A0,A1,.bool A2,A3]] m Q:=aB ok146 h
def t147 (p0:Int):T:=
 .call 173 [.int .i64 p0] fun a0=>
 .opt (rB 0 a0) fun a1=>.asI .i64 a1 fun n2=>.opt (rB 1 a0) fun a3=>.asI .i64 a3 fun n4=>.opt (rB 2 a0) fun a5=>.asI .i64 a5 fun n6=>.opt (rB 3 a0) fun a7=>.asI .i64 a7 fun n8=>.ite (!lA n8 0)
 (.ret (.str []))
 (.ite true (.heavy (yH yA 236) fun a9=>
 .heavy (eC yA 236 a9 (.agg [.int .u8 0,.int .u8 0,.int .u8 0,.int .u8 0,.int .u8 45,.int .u8 0,.int .u8 0,.int .u8 45,.int .u8 0,.int .u8 0])) fun _=>
 .light (fun m=>mA yA 236 ⟨0,m⟩ a9) fun vD=>.asG z7t vD fun X11=>
 .call 174 [(.agg [.int .u8 (X11.i 0),.int .u8 (X11.i 1),.int .u8 (X11.i 2),.int .u8 (X11.i 3),.int .u8 (X11.i 4),.int .u8 (X11.i 5),.int .u8 (X11.i 6),.int .u8 (X11.i 7),.int .u8 (X11.i 8),.int .u8 (X11.i 9)]),.int .i64 0,.int .i64 4,.int .i64 n2] fun rF=>
 .asG z7t rF fun X13=>
 .heavy (eC yA 236 a9 (.agg [.int .u8 (X13.i 0),.int .u8 (X13.i 1),.int .u8 (X13.i 2),.int .u8 (X13.i 3),.int .u8 (X13.i 4),.int .u8 (X13.i 5),.int .u8 (X13.i 6),.int .u8 (X13.i 7),.int .u8 (X13.i 8),.int .u8 (X13.i 9)])) fun _=>
 .light (fun m=>mA yA 236 ⟨0,m⟩ a9) fun tF=>.asG z7t tF fun X15=>
 .call 174 [(.agg [.int .u8 (X15.i 0),.int .u8 (X15.i 1),.int .u8 (X15.i 2),.int .u8 (X15.i 3),.int .u8 (X15.i 4),.int .u8 (X15.i 5),.int .u8 (X15.i 6),.int .u8 (X15.i 7),.int .u8 (X15.i 8),.int .u8 (X15.i 9)]),.int .i64 5,.int .i64 2,.int .i64 n4] fun a16=>
 .asG z7t a16 fun X17=>
 .heavy (eC yA 236 a9 (.agg [.int .u8 (X17.i 0),.int .u8 (X17.i 1),.int .u8 (X17.i 2),.int .u8 (X17.i 3),.int .u8 (X17.i 4),.int .u8 (X17.i 5),.int .u8 (X17.i 6),.int .u8 (X17.i 7),.int .u8 (X17.i 8),.int .u8 (X17.i 9)])) fun _=>
 .light (fun m=>mA yA 236 ⟨0,m⟩ a9) fun a18=>.asG z7t a18 fun X19=>
 .call 174 [(.agg [.int .u8 (X19.i 0),.int .u8 (X19.i 1),.int .u8 (X19.i 2),.int .u8 (X19.i 3),.int .u8 (X19.i 4),.int .u8 (X19.i 5),.int .u8 (X19.i 6),.int .u8 (X19.i 7),.int .u8 (X19.i 8),.int .u8 (X19.i 9)]),.int .i64 8,.int .i64 2,.int .i64 n6] fun a20=>
 .asG z7t a20 fun X21=>
 .heavy (eC yA 236 a9 (.agg [.int .u8 (X21.i 0),.int .u8 (X21.i 1),.int .u8 (X21.i 2),.int .u8 (X21.i 3),.int .u8 (X21.i 4),.int .u8 (X21.i 5),.int .u8 (X21.i 6),.int .u8 (X21.i 7),.int .u8 (X21.i 8),.int .u8 (X21.i 9)])) fun _=>
 .light (fun m=>vG yA 236 ⟨0,m⟩ a9 none none) fun a22=>.light (fun m=>fK yA 38 9 ⟨0,m⟩ a22) fun a23=>.asS a23 fun s24=>.ret (.str s24)) .fail)
def w147(p0:Int)(h:wp 147 (t147 p0) m Q):Wf 147 [.int .i64 p0] m Q:=aB ok147 h
def t148 (p0:Int):T:=
 .call 175 [.int .i64 p0] fun a0=>
 .asS a0 fun s1=>.call 172 [.str s1] fun a2=>
 .asS a2 fun s3=>.ret (.str s3)
def w148(p0:Int)(h:wp 148 (t148 p0) m Q):Wf 148 [.int .i64 p0] m Q:=aB ok148 h
def t149 (p0:Int):T:=
 .ite (vC (wA .i64 p0) 7)
 (.opt (lB yA 238 (.ptr 0 0) (.int .u8 p0)) fun a0=>.light (fun m=>mA yA 9 ⟨0,m⟩ a0) fun a1=>.asS a1 fun s2=>.ret (.str s2))
 (.ret (.str []))
def w149(p0:Int)(h:wp 149 (t149 p0) m Q):Wf 149 [.int .u8 p0] m Q:=aB ok149 h
def t166 (A0:Bool)(A1:zA)(A2:Bool)(A3:zA):T:=
 .call 186 [.agg [.bool A0,A1,.bool A2,A3]] fun a0=>
 .asB a0 fun b1=>.ite b1
 (.ret (.bool false))
 (.call 187 [.agg [.bool A0,A1]] fun a2=>
 .asB a2 fun b3=>.ite (!b3)
 (.ret (.bool false))
 (.call 187 [.agg [.bool A2,A3]] fun a4=>
 .asB a4 fun b5=>.ite (!b5)
 (.ret (.bool false))
 (.ite A2
 (.ret (.bool false))
 (.opt (zC A3) fun a6=>.asI .i64 a6 fun n7=>.ite (lA n7 0)
 (.ret (.bool false))
 (.call 168 [.agg [.bool A0,A1,.bool A2,A3]] fun a8=>
 .asB a8 fun b9=>.ite b9
 (.ret (.bool true))
 (.call 189 [.agg [.bool A0,A1],.agg [.bool A2,A3]] fun vD=>
 .asG zz6z vD fun X11=>
 .call 188 [(.agg [.bool (X11.b 0),X11.v 1])] fun rF=>
 .asB rF fun b13=>.ret (.bool b13)))))))
def w166(A0:Bool)(A1:zA)(A2:Bool)(A3:zA)(h:wp 166 (t166 A0 A1 A2 A3) m Q):Wf 166 [.agg [.bool A0,A1,.bool A2,A3]] m Q:=aB ok166 h
def t167 (A0:Bool)(A1:zA):T:=
 .call 187 [.agg [.bool A0,A1]] fun a0=>
 .asB a0 fun b1=>.ite (!b1)
 (.ret (.tup [.str [],.int .i64 2]))
 (.opt (zC A1) fun a2=>.asI .i64 a2 fun n3=>.ite (lA n3 0)
 (.ret (.tup [.str [48],.int .i64 0]))
 (.call 190 [A1] fun a4=>
 .jump 2 [.str [],.int .i64 0,.nilslice,a4,.bool A0,A1]))
def w167(A0:Bool)(A1:zA)(h:wp 167 (t167 A0 A1) m Q):Wf 167 [.agg [.bool A0,A1]] m Q:=aB zyg h
def zwz(v2:List Nat)(v3:Int)(v4 v5:zA)(A0:Bool)(A1:zA):T:=
 .opt (zC v5) fun a0=>.asI .i64 a0 fun n1=>.ite (vC 0 n1)
 (.call 191 [v5,.int .u32 1000000000] fun a2=>
 .opt (rB 0 a2) fun a3=>.opt (rB 1 a2) fun a4=>.asI .u32 a4 fun n5=>.heavy (lI yA 244 1 [(0,(.int .u32 n5))]) fun a6=>
 .heavy (pF yA 244 244 v4 a6) fun a7=>
 .jump 2 [.str v2,.int .i64 v3,a7,a3,.bool A0,A1])
 (.heavy (yH yA 38) fun a8=>
 .ite A0
 (.light (fun m=>mA yA 38 ⟨0,m⟩ a8) fun a9=>.heavy (lI yA 38 1 [(0,(.int .u8 45))]) fun vD=>
 .heavy (pF yA 38 38 a9 vD) fun a11=>
 .heavy (eC yA 38 a8 a11) fun _=>
 .jump 29 [.str v2,.int .i64 v3,v4,a8])
 (.jump 29 [.str v2,.int .i64 v3,v4,a8]))
def z7c(v2:List Nat)(v3:Int)(v4 v5:zA)(A0:Bool)(A1:zA)(h:wp 167 (zwz v2 v3 v4 v5 A0 A1) m Q):jp 167 2 [.str v2,.int .i64 v3,v4,v5,.bool A0,A1] m Q:=cD zyg h
def zwy(v2:List Nat)(v3:Int)(v4 v8:zA):T:=
 .call 192 [v4] fun a0=>
 .range (npC yA) a0 6 1 [v8]
 (.light (fun m=>mA yA 38 ⟨0,m⟩ v8) fun a1=>.light (fun m=>fK yA 38 9 ⟨0,m⟩ a1) fun a2=>.asS a2 fun s3=>.ret (.tup [.str s3,.int .i64 0]))
 (.ret (.tup [.str v2,.int .i64 v3]))
def z9l(v2:List Nat)(v3:Int)(v4 v8:zA)(h:wp 167 (zwy v2 v3 v4 v8) m Q):jp 167 29 [.str v2,.int .i64 v3,v4,v8] m Q:=cD zyg h
def z6k(v8:zA)(v41:Int):T:=
 .call 193 [(.int .u64 (wA .u64 v41)),.int .i64 10] fun a0=>
 .asS a0 fun s1=>.light (fun m=>mA yA 38 ⟨0,m⟩ v8) fun a2=>.opt (zC a2) fun a3=>.asI .i64 a3 fun n4=>.ite (vC 1 n4)
 (.jump 10 [v8,.str s1,(.int .i64 (wA .i64 (9-(Int.ofNat (aA s1))))),.int .i64 0])
 (.light (fun m=>mA yA 38 ⟨0,m⟩ v8) fun a5=>.opt (zC a5) fun a6=>.asI .i64 a6 fun n7=>.ite (lA n7 1)
 (.light (fun m=>mA yA 38 ⟨0,m⟩ v8) fun a8=>.opt (lB yA 38 a8 (.int .i64 0)) fun a9=>.light (fun m=>mA yA 5 ⟨0,m⟩ a9) fun vD=>.asI .u8 vD fun n11=>.ite (!lA n11 45)
 (.jump 10 [v8,.str s1,(.int .i64 (wA .i64 (9-(Int.ofNat (aA s1))))),.int .i64 0])
 (.light (fun m=>mA yA 38 ⟨0,m⟩ v8) fun rF=>.heavy (pF yA 38 9 rF (.str s1)) fun a13=>
 .heavy (eC yA 38 v8 a13) fun _=>
 .ret (.bool true)))
 (.light (fun m=>mA yA 38 ⟨0,m⟩ v8) fun tF=>.heavy (pF yA 38 9 tF (.str s1)) fun a15=>
 .heavy (eC yA 38 v8 a15) fun _=>
 .ret (.bool true)))
def j167_6(v8:zA)(v41:Int)(h:wp 167 (z6k v8 v41) m Q):jp 167 6 [v8,.int .u32 v41] m Q:=cD zyg h
def zm9(v8:zA)(v10:List Nat)(v61 v62:Int):T:=
 .ite (vC v62 v61)
 (.light (fun m=>mA yA 38 ⟨0,m⟩ v8) fun a0=>.heavy (lI yA 38 1 [(0,(.int .u8 48))]) fun a1=>
 .heavy (pF yA 38 38 a0 a1) fun a2=>
 .heavy (eC yA 38 v8 a2) fun _=>
 .jump 10 [v8,.str v10,.int .i64 v61,(.int .i64 (wA .i64 (v62+1)))])
 (.light (fun m=>mA yA 38 ⟨0,m⟩ v8) fun a3=>.heavy (pF yA 38 9 a3 (.str v10)) fun a4=>
 .heavy (eC yA 38 v8 a4) fun _=>
 .ret (.bool true))
def zzq(v8:zA)(v10:List Nat)(v61 v62:Int)(h:wp 167 (zm9 v8 v10 v61 v62) m Q):jp 167 10 [v8,.str v10,.int .i64 v61,.int .i64 v62] m Q:=cD zyg h
def t168 (A0:Bool)(A1:zA)(A2:Bool)(A3:zA):T:=
 .call 188 [.agg [.bool A2,A3]] fun a0=>
 .asB a0 fun b1=>.ret (.bool b1)
def w168(A0:Bool)(A1:zA)(A2:Bool)(A3:zA)(h:wp 168 (t168 A0 A1 A2 A3) m Q):Wf 168 [.agg [.bool A0,A1,.bool A2,A3]] m Q:=aB ok168 h
def t169 (p0 p1:List Nat):T:=
 .call 194 [.str p0,.str p1] fun a0=>
 .asB a0 fun b1=>.ite b1
 (.opt (vG yA 9 H0A (.str p0) (some (.int .i64 (Int.ofNat (aA p1)))) none) fun a2=>.asS a2 fun s3=>.ret (.str s3))
 (.ret (.str p0))
def w169(p0 p1:List Nat)(h:wp 169 (t169 p0 p1) m Q):Wf 169 [.str p0,.str p1] m Q:=aB ok169 h
def t171 (p0:Bool):T:=
 .ite p0
 (.ret (.str [116,114,117,101]))
 (.ret (.str [102,97,108,115,101]))
def w171(p0:Bool)(h:wp 171 (t171 p0) m Q):Wf 171 [.bool p0] m Q:=aB ok171 h
def t172 (p0:List Nat):T:=
 .call 195 [.str p0,.str [45]] fun a0=>
 .opt (rB 0 a0) fun a1=>.asS a1 fun s2=>.opt (rB 1 a0) fun a3=>.asB a3 fun b4=>.ite b4
 (.opt (nJ [109,105,110,117,115,32] s2) fun a5=>.asS a5 fun s6=>.ret (.str s6))
 (.ret (.str p0))
def w172(p0:List Nat)(h:wp 172 (t172 p0) m Q):Wf 172 [.str p0] m Q:=aB ok172 h
def t173 (p0:Int):T:=
 .call 196 [.int .i64 p0] fun a0=>
 .asB a0 fun b1=>.ite (!b1)
 (.ret (.tup [.int .i64 0,.int .i64 0,.int .i64 0,.int .i64 2]))
 (.call 197 [.int .i64 p0] fun a2=>
 .asI .i64 a2 fun n3=>.call 198 [.int .i64 n3] fun a4=>
 .asI .i64 a4 fun n5=>.ret (.tup [(.int .i64 (wA .i64 (1900+(wA .i64 (Int.tdiv n3 12))))),(.int .i64 (wA .i64 ((Int.tmod n3 12)+1))),(.int .i64 (wA .i64 ((wA .i64 (p0-n5))+1))),.int .i64 0]))
def w173(p0:Int)(h:wp 173 (t173 p0) m Q):Wf 173 [.int .i64 p0] m Q:=aB ok173 h
def t174 (A0 A1 A2 A3 A4 A5 A6 A7 A8 A9 p1 p2 p3:Int):T:=
 .heavy (zpx (.agg [.int .u8 A0,.int .u8 A1,.int .u8 A2,.int .u8 A3,.int .u8 A4,.int .u8 A5,.int .u8 A6,.int .u8 A7,.int .u8 A8,.int .u8 A9])) fun a0=>
 .jump 2 [.int .i64 p1,.int .i64 p3,a0,(.int .i64 (wA .i64 ((wA .i64 (p1+p2))-1))),.int .u8 0,.int .u8 0,.int .u8 0,.int .u8 0,.int .u8 0,.int .u8 0,.int .u8 0,.int .u8 0,.int .u8 0,.int .u8 0]
def w174(A0 A1 A2 A3 A4 A5 A6 A7 A8 A9 p1 p2 p3:Int)(h:wp 174 (t174 A0 A1 A2 A3 A4 A5 A6 A7 A8 A9 p1 p2 p3) m Q):Wf 174 [.agg [.int .u8 A0,.int .u8 A1,.int .u8 A2,.int .u8 A3,.int .u8 A4,.int .u8 A5,.int .u8 A6,.int .u8 A7,.int .u8 A8,.int .u8 A9],.int .i64 p1,.int .i64 p2,.int .i64 p3] m Q:=aB ok174 h
def t174_2(v1 v3:Int)(v4:zA)(v9 A0 A1 A2 A3 A4 A5 A6 A7 A8 A9:Int):T:=
 .ite (nC v1 v9)
 (.opt (lB yA 236 v4 (.int .i64 v9)) fun a0=>.heavy (eC yA 5 a0 (.int .u8 (wA .u8 (wA .i64 (48+(Int.tmod v3 10)))))) fun _=>
 .jump 2 [.int .i64 v1,(.int .i64 (wA .i64 (Int.tdiv v3 10))),v4,(.int .i64 (wA .i64 (v9-1))),.int .u8 A0,.int .u8 A1,.int .u8 A2,.int .u8 A3,.int .u8 A4,.int .u8 A5,.int .u8 A6,.int .u8 A7,.int .u8 A8,.int .u8 A9])
 (.light (fun m=>mA yA 236 ⟨0,m⟩ v4) fun a1=>.asG z7t a1 fun X2=>
 .ite true (.ret (.agg [.int .u8 (X2.i 0),.int .u8 (X2.i 1),.int .u8 (X2.i 2),.int .u8 (X2.i 3),.int .u8 (X2.i 4),.int .u8 (X2.i 5),.int .u8 (X2.i 6),.int .u8 (X2.i 7),.int .u8 (X2.i 8),.int .u8 (X2.i 9)])) .fail)
def z7b(v1 v3:Int)(v4:zA)(v9 A0 A1 A2 A3 A4 A5 A6 A7 A8 A9:Int)(h:wp 174 (t174_2 v1 v3 v4 v9 A0 A1 A2 A3 A4 A5 A6 A7 A8 A9) m Q):jp 174 2 [.int .i64 v1,.int .i64 v3,v4,.int .i64 v9,.int .u8 A0,.int .u8 A1,.int .u8 A2,.int .u8 A3,.int .u8 A4,.int .u8 A5,.int .u8 A6,.int .u8 A7,.int .u8 A8,.int .u8 A9] m Q:=cD ok174 h
def t186 (A0:Bool)(A1:zA)(A2:Bool)(A3:zA):T:=
 .opt (zC A1) fun a0=>.asI .i64 a0 fun n1=>.ite (vC 256 n1)
 (.ret (.bool true))
 (.opt (zC A3) fun a2=>.asI .i64 a2 fun n3=>.ret (.bool (vC 256 n3)))
def w186(A0:Bool)(A1:zA)(A2:Bool)(A3:zA)(h:wp 186 (t186 A0 A1 A2 A3) m Q):Wf 186 [.agg [.bool A0,A1,.bool A2,A3]] m Q:=aB ok186 h
def t187 (A0:Bool)(A1:zA):T:=
 .opt (zC A1) fun a0=>.asI .i64 a0 fun n1=>.ite (lA n1 0)
 (.ret (.bool (!A0)))
 (.ite (nC n1 1024)
 (.opt (lB yA 27 A1 (.int .i64 (wA .i64 (n1-1)))) fun a2=>.light (fun m=>mA yA 202 ⟨0,m⟩ a2) fun a3=>.asI .u16 a3 fun n4=>.ret (.bool (!lA n4 0)))
 (.ret (.bool false)))
def w187(A0:Bool)(A1:zA)(h:wp 187 (t187 A0 A1) m Q):Wf 187 [.agg [.bool A0,A1]] m Q:=aB ok187 h
def t188 (A0:Bool)(A1:zA):T:=
 .ite (!A0)
 (.opt (zC A1) fun a0=>.asI .i64 a0 fun n1=>.ite (lA n1 1)
 (.opt (lB yA 27 A1 (.int .i64 0)) fun a2=>.light (fun m=>mA yA 202 ⟨0,m⟩ a2) fun a3=>.asI .u16 a3 fun n4=>.ret (.bool (lA n4 1)))
 (.ret (.bool false)))
 (.ret (.bool false))
def w188(A0:Bool)(A1:zA)(h:wp 188 (t188 A0 A1) m Q):Wf 188 [.agg [.bool A0,A1]] m Q:=aB ok188 h
def t189 (A0:Bool)(A1:zA)(A2:Bool)(A3:zA):T:=
 .call 210 [.agg [.bool A0,A1],.agg [.bool A2,A3]] fun a0=>
 .opt (rB 0 a0) fun a1=>.asG zz6z a1 fun X2=>
 .opt (rB 1 a0) fun a3=>.asI .i64 a3 fun n4=>.ite (tC zA.one [.bool (X2.b 0),X2.v 1]) (.ite (tC zA.one [.bool (X2.b 0),X2.v 1]) (.ret (.agg [.bool (X2.b 0),X2.v 1])) .fail) .fail
def w189(A0:Bool)(A1:zA)(A2:Bool)(A3:zA)(h:wp 189 (t189 A0 A1 A2 A3) m Q):Wf 189 [.agg [.bool A0,A1],.agg [.bool A2,A3]] m Q:=aB ok189 h
def t190 (p0:zA):T:=
 .opt (zC p0) fun a0=>.asI .i64 a0 fun n1=>.heavy (lN yA 244 (.int .i64 (wA .i64 (Int.tdiv (wA .i64 (n1+1)) 2))) (.int .i64 (wA .i64 (Int.tdiv (wA .i64 (n1+1)) 2)))) fun a2=>
 .opt (zC p0) fun a3=>.asI .i64 a3 fun n4=>.jump 2 [a2,p0,.int .i64 n4,.int .i64 0]
def w190(p0:zA)(h:wp 190 (t190 p0) m Q):Wf 190 [p0] m Q:=aB ok190 h
def zwx(v3 v11:zA)(v12 v13:Int):T:=
 .ite (vC v13 v12)
 (.opt (lB yA 27 v11 (.int .i64 v13)) fun a0=>.light (fun m=>mA yA 202 ⟨0,m⟩ a0) fun a1=>.asI .u16 a1 fun n2=>.opt (lB yA 244 v3 (.int .i64 (wA .i64 (Int.tdiv v13 2)))) fun a3=>.light (fun m=>mA yA 246 ⟨0,m⟩ a3) fun a4=>.asI .u32 a4 fun n5=>.opt (zzw .u32 (wA .u32 n2) (wA .i64 (16*(Int.tmod v13 2)))) fun a6=>.asI .u32 a6 fun n7=>.opt (qH Nat.lor .u32 n5 n7) fun a8=>.asI .u32 a8 fun n9=>.opt (lB yA 244 v3 (.int .i64 (wA .i64 (Int.tdiv v13 2)))) fun vD=>.heavy (eC yA 246 vD (.int .u32 n9)) fun _=>
 .jump 2 [v3,v11,.int .i64 v12,(.int .i64 (wA .i64 (v13+1)))])
 (.ret v3)
def z7a(v3 v11:zA)(v12 v13:Int)(h:wp 190 (zwx v3 v11 v12 v13) m Q):jp 190 2 [v3,v11,.int .i64 v12,.int .i64 v13] m Q:=cD ok190 h
def t191 (p0:zA)(p1:Int):T:=
 .opt (zC p0) fun a0=>.asI .i64 a0 fun n1=>.heavy (lN yA 244 (.int .i64 n1) (.int .i64 n1)) fun a2=>
 .opt (zC p0) fun a3=>.asI .i64 a3 fun n4=>.jump 2 [p0,.int .u32 p1,a2,.int .u32 0,(.int .i64 (wA .i64 (n4-1)))]
def w191(p0:zA)(p1:Int)(h:wp 191 (t191 p0 p1) m Q):Wf 191 [p0,.int .u32 p1] m Q:=aB ok191 h
def zww(v0:zA)(v1:Int)(v6:zA)(v7 v8:Int):T:=
 .ite (nC 0 v8)
 (.opt (lB yA 244 v0 (.int .i64 v8)) fun a0=>.light (fun m=>mA yA 246 ⟨0,m⟩ a0) fun a1=>.asI .u32 a1 fun n2=>.call 211 [.int .u32 v7,.int .u32 n2,.int .u32 v1] fun a3=>
 .opt (rB 0 a3) fun a4=>.asI .u32 a4 fun n5=>.opt (rB 1 a3) fun a6=>.asI .u32 a6 fun n7=>.opt (lB yA 244 v6 (.int .i64 v8)) fun a8=>.heavy (eC yA 246 a8 (.int .u32 n5)) fun _=>
 .jump 2 [v0,.int .u32 v1,v6,.int .u32 n7,(.int .i64 (wA .i64 (v8-1)))])
 (.call 212 [v6] fun a9=>
 .ret (.tup [a9,.int .u32 v7]))
def z69(v0:zA)(v1:Int)(v6:zA)(v7 v8:Int)(h:wp 191 (zww v0 v1 v6 v7 v8) m Q):jp 191 2 [v0,.int .u32 v1,v6,.int .u32 v7,.int .i64 v8] m Q:=cD ok191 h
def t192 (p0:zA):T:=
 .heavy (zpx p0) fun a0=>
 .ret (.func (.func 213) [] [a0])
def w192(p0:zA)(h:wp 192 (t192 p0) m Q):Wf 192 [p0] m Q:=aB ok192 h
def t194 (p0 p1:List Nat):T:=
 .ite (nC (Int.ofNat (aA p1)) (Int.ofNat (aA p0)))
 (.opt (vG yA 9 H0A (.str p0) none (some (.int .i64 (Int.ofNat (aA p1))))) fun a0=>.asS a0 fun s1=>.ret (.bool (cF s1 p1)))
 (.ret (.bool false))
def w194(p0 p1:List Nat)(h:wp 194 (t194 p0 p1) m Q):Wf 194 [.str p0,.str p1] m Q:=aB ok194 h
def t195 (p0 p1:List Nat):T:=
 .call 215 [.str p0,.str p1] fun a0=>
 .opt (rB 0 a0) fun a1=>.asS a1 fun s2=>.opt (rB 1 a0) fun a3=>.asB a3 fun b4=>.ret (.tup [.str s2,.bool b4])
def w195(p0 p1:List Nat)(h:wp 195 (t195 p0 p1) m Q):Wf 195 [.str p0,.str p1] m Q:=aB ok195 h
def t196 (p0:Int):T:=
 .ite (nC 0 p0)
 (.ret (.bool (vC p0 65536)))
 (.ret (.bool false))
def w196(p0:Int)(h:wp 196 (t196 p0) m Q):Wf 196 [.int .i64 p0] m Q:=aB ok196 h
def t197 (p0:Int):T:=
 .heavy (zpx (.int .i64 p0)) fun a0=>
 .call 216 [.int .i64 2154,(.func (.func 217) [] [a0])] fun a1=>
 .asI .i64 a1 fun n2=>.ret (.int .i64 n2)
def w197(p0:Int)(h:wp 197 (t197 p0) m Q):Wf 197 [.int .i64 p0] m Q:=aB ok197 h
def t198 (p0:Int):T:=
 .call 218 [(.int .i64 (wA .i64 ((wA .i64 (1900+(wA .i64 (Int.tdiv p0 12))))-1)))] fun a0=>
 .asI .i64 a0 fun n1=>.call 218 [.int .i64 1899] fun a2=>
 .asI .i64 a2 fun n3=>.jump 2 [.int .i64 p0,(.int .i64 (wA .i64 (1900+(wA .i64 (Int.tdiv p0 12))))),(.int .i64 (wA .i64 ((wA .i64 ((wA .i64 (365*(wA .i64 ((wA .i64 (1900+(wA .i64 (Int.tdiv p0 12))))-1900))))+n1))-n3))),.int .i64 1]
def w198(p0:Int)(h:wp 198 (t198 p0) m Q):Wf 198 [.int .i64 p0] m Q:=aB ok198 h
def t198_2(v0 v3 v4 v5:Int):T:=
 .ite (nC v5 (Int.tmod v0 12))
 (.call 219 [.int .i64 v3,.int .i64 v5] fun a0=>
 .asI .i64 a0 fun n1=>.jump 2 [.int .i64 v0,.int .i64 v3,(.int .i64 (wA .i64 (v4+n1))),(.int .i64 (wA .i64 (v5+1)))])
 (.ret (.int .i64 v4))
def zzp(v0 v3 v4 v5:Int)(h:wp 198 (t198_2 v0 v3 v4 v5) m Q):jp 198 2 [.int .i64 v0,.int .i64 v3,.int .i64 v4,.int .i64 v5] m Q:=cD ok198 h
def t210 (A0:Bool)(A1:zA)(A2:Bool)(A3:zA):T:=
 .heavy (lI yA 279 2 [(0,(.agg [.bool A0,A1])),(1,(.agg [.bool A2,A3]))]) fun a0=>
 .call 224 [a0] fun a1=>
 .asB a1 fun b2=>.ite (!b2)
 (.ite true (.ite true (.ret (.tup [.agg [.bool false,.nilslice],.int .i64 2])) .fail) .fail)
 (.call 190 [A1] fun a3=>
 .ite (same 10 A3 A3) (.call 190 [A3] fun a4=>
 .call 226 [a3,a4] fun a5=>
 .call 225 [.bool false,a5] fun a6=>
 .asG zz6z a6 fun X7=>
 .ite (tC zA.one [.bool (X7.b 0),X7.v 1]) (.ret (.tup [(.agg [.bool (X7.b 0),X7.v 1]),.int .i64 0])) .fail) .fail)
def w210(A0:Bool)(A1:zA)(A2:Bool)(A3:zA)(h:wp 210 (t210 A0 A1 A2 A3) m Q):Wf 210 [.agg [.bool A0,A1],.agg [.bool A2,A3]] m Q:=aB ok210 h
def t211 (p0 p1 p2:Int):T:=
 .ite (!lA p2 0)
 (.ite (nC p2 p0)
 (.light (fun m=>mA yA 193 ⟨0,m⟩ (.ptr 2 0)) fun a0=>.fail)
 (.jump 7 [.int .u32 p0,.int .u32 p1,.int .u32 p2]))
 (.jump 7 [.int .u32 p0,.int .u32 p1,.int .u32 p2])
def w211(p0 p1 p2:Int)(h:wp 211 (t211 p0 p1 p2) m Q):Wf 211 [.int .u32 p0,.int .u32 p1,.int .u32 p2] m Q:=aB ok211 h
def z6j(v0 v1 v2:Int):T:=
 .opt (qH Nat.lor .u64 (wA .u64 ((wA .u64 v0)*4294967296)) (wA .u64 v1)) fun a0=>.asI .u64 a0 fun n1=>.opt (z4h .u64 n1 (wA .u64 v2)) fun a2=>.asI .u64 a2 fun n3=>.opt (z2b .u64 n1 (wA .u64 v2)) fun a4=>.asI .u64 a4 fun n5=>.ret (.tup [(.int .u32 (wA .u32 n3)),(.int .u32 (wA .u32 n5))])
def j211_7(v0 v1 v2:Int)(h:wp 211 (z6j v0 v1 v2) m Q):jp 211 7 [.int .u32 v0,.int .u32 v1,.int .u32 v2] m Q:=cD ok211 h
def t212 (p0:zA):T:=
 .jump 2 [p0]
def w212(p0:zA)(h:wp 212 (t212 p0) m Q):Wf 212 [p0] m Q:=aB ok212 h
def zp5(v0:zA):T:=
 .opt (zC v0) fun a0=>.asI .i64 a0 fun n1=>.ite (vC 0 n1)
 (.opt (zC v0) fun a2=>.asI .i64 a2 fun n3=>.opt (lB yA 244 v0 (.int .i64 (wA .i64 (n3-1)))) fun a4=>.light (fun m=>mA yA 246 ⟨0,m⟩ a4) fun a5=>.asI .u32 a5 fun n6=>.ite (lA n6 0)
 (.opt (zC v0) fun a7=>.asI .i64 a7 fun n8=>.light (fun m=>vG yA 244 ⟨0,m⟩ v0 none (some (.int .i64 (wA .i64 (n8-1))))) fun a9=>.jump 2 [a9])
 (.ret v0))
 (.ret v0)
def zzo(v0:zA)(h:wp 212 (zp5 v0) m Q):jp 212 2 [v0] m Q:=cD ok212 h
def t213 (p0 w0:zA):T:=
 .light (fun m=>mA yA 244 ⟨0,m⟩ w0) fun a0=>.opt (zC a0) fun a1=>.asI .i64 a1 fun n2=>.jump 2 [p0,w0,(.int .i64 (wA .i64 (n2-1)))]
def w213(p0 w0:zA)(h:wp 213 (t213 p0 w0) m Q):Wf 213 [p0,w0] m Q:=aB ok213 h
def zwv(v0 v1:zA)(v3:Int):T:=
 .ite (nC 0 v3)
 (.light (fun m=>mA yA 244 ⟨0,m⟩ v1) fun a0=>.opt (lB yA 244 a0 (.int .i64 v3)) fun a1=>.light (fun m=>mA yA 246 ⟨0,m⟩ a1) fun a2=>.asI .u32 a2 fun n3=>.callv v0 [.int .u32 n3] fun a4=>
 .asB a4 fun b5=>.ite (!b5)
 (.ret (.tup []))
 (.jump 2 [v0,v1,(.int .i64 (wA .i64 (v3-1)))]))
 (.ret (.tup []))
def z68(v0 v1:zA)(v3:Int)(h:wp 213 (zwv v0 v1 v3) m Q):jp 213 2 [v0,v1,.int .i64 v3] m Q:=cD ok213 h
def t215 (p0 p1:List Nat):T:=
 .call 194 [.str p0,.str p1] fun a0=>
 .asB a0 fun b1=>.ite (!b1)
 (.ret (.tup [.str p0,.bool false]))
 (.opt (vG yA 9 H0A (.str p0) (some (.int .i64 (Int.ofNat (aA p1)))) none) fun a2=>.asS a2 fun s3=>.ret (.tup [.str s3,.bool true]))
def w215(p0 p1:List Nat)(h:wp 215 (t215 p0 p1) m Q):Wf 215 [.str p0,.str p1] m Q:=aB ok215 h
def t216 (p0:Int)(p1:zA):T:=
 .jump 2 [p1,.int .i64 0,.int .i64 p0]
def w216(p0:Int)(p1:zA)(h:wp 216 (t216 p0 p1) m Q):Wf 216 [.int .i64 p0,p1] m Q:=aB ok216 h
def t216_2(v1:zA)(v5 v6:Int):T:=
 .ite (vC v5 v6)
 (.callv v1 [(.int .i64 (wA .i64 (Int.fdiv (wA .u64 (wA .i64 (v5+v6))) 2)))] fun a0=>
 .asB a0 fun b1=>.ite (!b1)
 (.jump 2 [v1,(.int .i64 (wA .i64 ((wA .i64 (Int.fdiv (wA .u64 (wA .i64 (v5+v6))) 2))+1))),.int .i64 v6])
 (.jump 2 [v1,.int .i64 v5,(.int .i64 (wA .i64 (Int.fdiv (wA .u64 (wA .i64 (v5+v6))) 2)))]))
 (.ret (.int .i64 v5))
def zzn(v1:zA)(v5 v6:Int)(h:wp 216 (t216_2 v1 v5 v6) m Q):jp 216 2 [v1,.int .i64 v5,.int .i64 v6] m Q:=cD ok216 h
def t217 (p0:Int)(w0:zA):T:=
 .light (fun m=>mA yA 3 ⟨0,m⟩ w0) fun a0=>.asI .i64 a0 fun n1=>.call 198 [(.int .i64 (wA .i64 (p0+1)))] fun a2=>
 .asI .i64 a2 fun n3=>.light (fun m=>mA yA 3 ⟨0,m⟩ w0) fun a4=>.ite (same 10 a4 (.int .i64 n1)) (.ret (.bool (vC n1 n3))) .fail
def w217(p0:Int)(w0:zA)(h:wp 217 (t217 p0 w0) m Q):Wf 217 [.int .i64 p0,w0] m Q:=aB ok217 h
def t218 (p0:Int):T:=
 .ret (.int .i64 (wA .i64 ((wA .i64 ((wA .i64 (Int.tdiv p0 4))-(wA .i64 (Int.tdiv p0 100))))+(wA .i64 (Int.tdiv p0 400)))))
def w218(p0:Int)(h:wp 218 (t218 p0) m Q):Wf 218 [.int .i64 p0] m Q:=aB ok218 h
def t219 (p0 p1:Int):T:=
 .ite (vC p1 1)
 (.ret (.int .i64 0))
 (.ite (vC 12 p1)
 (.ret (.int .i64 0))
 (.ite (lA p1 2)
 (.call 231 [.int .i64 p0] fun a0=>
 .asB a0 fun b1=>.ite b1
 (.ret (.int .i64 29))
 (.opt (lB yA 275 (.ptr 3 0) (.int .i64 (wA .i64 (p1-1)))) fun a2=>.light (fun m=>mA yA 3 ⟨0,m⟩ a2) fun a3=>.asI .i64 a3 fun n4=>.ret (.int .i64 n4)))
 (.opt (lB yA 275 (.ptr 3 0) (.int .i64 (wA .i64 (p1-1)))) fun a5=>.light (fun m=>mA yA 3 ⟨0,m⟩ a5) fun a6=>.asI .i64 a6 fun n7=>.ret (.int .i64 n7))))
def w219(p0 p1:Int)(h:wp 219 (t219 p0 p1) m Q):Wf 219 [.int .i64 p0,.int .i64 p1] m Q:=aB ok219 h
def t224 (p0:zA):T:=
 .opt (zC p0) fun a0=>.asI .i64 a0 fun n1=>.jump 2 [p0,.int .i64 n1,.int .i64 0]
def w224(p0:zA)(h:wp 224 (t224 p0) m Q):Wf 224 [p0] m Q:=aB ok224 h
def zwu(v5:zA)(v6 v7:Int):T:=
 .ite (vC v7 v6)
 (.opt (lB yA 279 v5 (.int .i64 v7)) fun a0=>.light (fun m=>mA yA 29 ⟨0,m⟩ a0) fun a1=>.asG zz6z a1 fun X2=>
 .ite (tC zA.one [.bool (X2.b 0),X2.v 1]) (.call 187 [(.agg [.bool (X2.b 0),X2.v 1])] fun a3=>
 .asB a3 fun b4=>.ite (!b4)
 (.ret (.bool false))
 (.jump 2 [v5,.int .i64 v6,(.int .i64 (wA .i64 (v7+1)))])) .fail)
 (.ret (.bool true))
def z67(v5:zA)(v6 v7:Int)(h:wp 224 (zwu v5 v6 v7) m Q):jp 224 2 [v5,.int .i64 v6,.int .i64 v7] m Q:=cD ok224 h
def t225 (p0:Bool)(p1:zA):T:=
 .call 212 [p1] fun a0=>
 .opt (zC a0) fun a1=>.asI .i64 a1 fun n2=>.ite (lA n2 0)
 (.ite true (.ite true (.ret (.agg [.bool false,.nilslice])) .fail) .fail)
 (.opt (zC a0) fun a3=>.asI .i64 a3 fun n4=>.heavy (lN yA 27 (.int .i64 (wA .i64 (2*n4))) (.int .i64 (wA .i64 (2*n4)))) fun a5=>
 .opt (zC a0) fun a6=>.asI .i64 a6 fun n7=>.jump 2 [.bool p0,a5,a0,.int .i64 n7,.int .i64 0,.bool false,.nilslice])
def w225(p0:Bool)(p1:zA)(h:wp 225 (t225 p0 p1) m Q):Wf 225 [.bool p0,p1] m Q:=aB ok225 h
def zwt(v0:Bool)(v5 v18:zA)(v19 v20:Int)(A0:Bool)(A1:zA):T:=
 .ite (vC v20 v19)
 (.opt (lB yA 244 v18 (.int .i64 v20)) fun a0=>.light (fun m=>mA yA 246 ⟨0,m⟩ a0) fun a1=>.asI .u32 a1 fun n2=>.opt (lB yA 27 v5 (.int .i64 (wA .i64 (2*v20)))) fun a3=>.heavy (eC yA 202 a3 (.int .u16 (wA .u16 n2))) fun _=>
 .opt (lB yA 27 v5 (.int .i64 (wA .i64 ((wA .i64 (2*v20))+1)))) fun a4=>.heavy (eC yA 202 a4 (.int .u16 (wA .u16 (Int.fdiv n2 65536)))) fun _=>
 .jump 2 [.bool v0,v5,v18,.int .i64 v19,(.int .i64 (wA .i64 (v20+1))),.bool A0,A1])
 (.opt (zC v5) fun a5=>.asI .i64 a5 fun n6=>.opt (lB yA 27 v5 (.int .i64 (wA .i64 (n6-1)))) fun a7=>.light (fun m=>mA yA 202 ⟨0,m⟩ a7) fun a8=>.asI .u16 a8 fun n9=>.ite (lA n9 0)
 (.opt (zC v5) fun vD=>.asI .i64 vD fun n11=>.light (fun m=>vG yA 27 ⟨0,m⟩ v5 none (some (.int .i64 (wA .i64 (n11-1))))) fun rF=>.ite (tC zA.one [.bool v0,rF]) (.ite (tC zA.one [.bool v0,rF]) (.ret (.agg [.bool v0,rF])) .fail) .fail)
 (.ite (tC zA.one [.bool v0,v5]) (.ite (tC zA.one [.bool v0,v5]) (.ret (.agg [.bool v0,v5])) .fail) .fail))
def z66(v0:Bool)(v5 v18:zA)(v19 v20:Int)(A0:Bool)(A1:zA)(h:wp 225 (zwt v0 v5 v18 v19 v20 A0 A1) m Q):jp 225 2 [.bool v0,v5,v18,.int .i64 v19,.int .i64 v20,.bool A0,A1] m Q:=cD ok225 h
def t226 (p0 p1:zA):T:=
 .call 236 [p0,p1] fun a0=>
 .asI .i64 a0 fun n1=>.ite (vC n1 0)
 (.jump 2 [p1,p0])
 (.jump 2 [p0,p1])
def w226(p0 p1:zA)(h:wp 226 (t226 p0 p1) m Q):Wf 226 [p0,p1] m Q:=aB z3p h
def z6i(v0 v1:zA):T:=
 .opt (zC v1) fun a0=>.asI .i64 a0 fun n1=>.ite (vC 2 n1)
 (.call 237 [v0,v1] fun a2=>
 .asG [.int .u64 0,.int .u64 0,.int .u64 0,.int .u64 0,.bool false] a2 fun X3=>
 .ite true (.ite (lA (X3.i 2) 0)
 (.call 238 [v0,v1] fun a4=>
 .opt (rB 0 a4) fun a5=>.opt (rB 1 a4) fun a6=>.jump 2 [v1,a6])
 (.ite (X3.b 4)
 (.call 239 [.int .u64 (X3.i 0),v0,.int .u64 (X3.i 2),v1] fun a7=>
 .ite (same 10 (.int .u64 (X3.i 3)) (.int .u64 (X3.i 3))) (.ite (same 10 (.int .u64 (X3.i 1)) (.int .u64 (X3.i 1))) (.call 239 [.int .u64 (X3.i 3),v1,.int .u64 (X3.i 1),v0] fun a8=>
 .jump 2 [a7,a8]) .fail) .fail)
 (.call 239 [.int .u64 (X3.i 2),v1,.int .u64 (X3.i 0),v0] fun a9=>
 .ite (same 10 (.int .u64 (X3.i 1)) (.int .u64 (X3.i 1))) (.ite (same 10 (.int .u64 (X3.i 3)) (.int .u64 (X3.i 3))) (.call 239 [.int .u64 (X3.i 1),v0,.int .u64 (X3.i 3),v1] fun vD=>
 .jump 2 [a9,vD]) .fail) .fail))) .fail)
 (.opt (zC v1) fun a11=>.asI .i64 a11 fun n12=>.ite (lA n12 0)
 (.ret v0)
 (.opt (zC v0) fun a13=>.asI .i64 a13 fun n14=>.ite (vC 2 n14)
 (.call 238 [v0,v1] fun a15=>
 .opt (rB 0 a15) fun a16=>.opt (rB 1 a15) fun a17=>.jump 33 [v1,a17])
 (.jump 33 [v0,v1])))
def j226_2(v0 v1:zA)(h:wp 226 (z6i v0 v1) m Q):jp 226 2 [v0,v1] m Q:=cD z3p h
def zws(v0 v1:zA):T:=
 .call 240 [v0] fun a0=>
 .asI .u64 a0 fun n1=>.call 240 [v1] fun a2=>
 .asI .u64 a2 fun n3=>.jump 6 [.int .u64 n1,.int .u64 n3]
def z9k(v0 v1:zA)(h:wp 226 (zws v0 v1) m Q):jp 226 33 [v0,v1] m Q:=cD z3p h
def z6h(v10 v11:Int):T:=
 .ite (!lA v11 0)
 (.opt (z2b .u64 v10 v11) fun a0=>.asI .u64 a0 fun n1=>.jump 6 [.int .u64 v11,.int .u64 n1])
 (.call 241 [.int .u64 v10] fun a2=>
 .ret a2)
def j226_6(v10 v11:Int)(h:wp 226 (z6h v10 v11) m Q):jp 226 6 [.int .u64 v10,.int .u64 v11] m Q:=cD z3p h
def t231 (p0:Int):T:=
 .ite (lA (Int.tmod p0 4) 0)
 (.ite (!lA (Int.tmod p0 100) 0)
 (.ret (.bool true))
 (.ret (.bool (lA (Int.tmod p0 400) 0))))
 (.ret (.bool false))
def w231(p0:Int)(h:wp 231 (t231 p0) m Q):Wf 231 [.int .i64 p0] m Q:=aB ok231 h
def t236 (p0 p1:zA):T:=
 .opt (zC p0) fun a0=>.asI .i64 a0 fun n1=>.opt (zC p1) fun a2=>.asI .i64 a2 fun n3=>.ite (!lA n1 n3)
 (.opt (zC p0) fun a4=>.asI .i64 a4 fun n5=>.opt (zC p1) fun a6=>.asI .i64 a6 fun n7=>.ite (vC n5 n7)
 (.ret (.int .i64 (-1)))
 (.ret (.int .i64 1)))
 (.opt (zC p0) fun a8=>.asI .i64 a8 fun n9=>.jump 2 [p0,p1,(.int .i64 (wA .i64 (n9-1)))])
def w236(p0 p1:zA)(h:wp 236 (t236 p0 p1) m Q):Wf 236 [p0,p1] m Q:=aB ok236 h
def zwr(v0 v1:zA)(v5:Int):T:=
 .ite (nC 0 v5)
 (.opt (lB yA 244 v0 (.int .i64 v5)) fun a0=>.light (fun m=>mA yA 246 ⟨0,m⟩ a0) fun a1=>.asI .u32 a1 fun n2=>.opt (lB yA 244 v1 (.int .i64 v5)) fun a3=>.light (fun m=>mA yA 246 ⟨0,m⟩ a3) fun a4=>.asI .u32 a4 fun n5=>.ite (!lA n2 n5)
 (.opt (lB yA 244 v0 (.int .i64 v5)) fun a6=>.light (fun m=>mA yA 246 ⟨0,m⟩ a6) fun a7=>.asI .u32 a7 fun n8=>.opt (lB yA 244 v1 (.int .i64 v5)) fun a9=>.light (fun m=>mA yA 246 ⟨0,m⟩ a9) fun vD=>.asI .u32 vD fun n11=>.ite (vC n8 n11)
 (.ret (.int .i64 (-1)))
 (.ret (.int .i64 1)))
 (.jump 2 [v0,v1,(.int .i64 (wA .i64 (v5-1)))]))
 (.ret (.int .i64 0))
def z65(v0 v1:zA)(v5:Int)(h:wp 236 (zwr v0 v1 v5) m Q):jp 236 2 [v0,v1,.int .i64 v5] m Q:=cD ok236 h
def t237 (p0 p1:zA):T:=
 .opt (zC p0) fun a0=>.asI .i64 a0 fun n1=>.opt (lB yA 244 p0 (.int .i64 (wA .i64 (n1-1)))) fun a2=>.light (fun m=>mA yA 246 ⟨0,m⟩ a2) fun a3=>.asI .u32 a3 fun n4=>.call 249 [.int .u32 n4] fun a5=>
 .asI .i64 a5 fun n6=>.call 250 [p0,.int .i64 n1,.int .i64 n6] fun a7=>
 .asI .u64 a7 fun n8=>.call 250 [p1,.int .i64 n1,.int .i64 n6] fun a9=>
 .asI .u64 a9 fun n10=>.ite true (.ite true (.jump 2 [.int .u64 n8,.int .u64 n10,.int .u64 0,.int .u64 1,.int .u64 0,.int .u64 0,.int .u64 0,.int .u64 0,.bool false,.int .u64 0,.int .u64 1,.int .u64 0,.int .u64 0,.bool false]) .fail) .fail
def w237(p0 p1:zA)(h:wp 237 (t237 p0 p1) m Q):Wf 237 [p0,p1] m Q:=aB ok237 h
def z6g(v7 v8 v10 v11 A0 A1 A2 A3:Int)(A4:Bool)(A5 A6 A7 A8:Int)(A9:Bool):T:=
 .ite (nC v11 v8)
 (.ite (nC (wA .u64 (A8+v11)) (wA .u64 (v7-v8)))
 (.opt (z4h .u64 v7 v8) fun a0=>.asI .u64 a0 fun n1=>.opt (z2b .u64 v7 v8) fun a2=>.asI .u64 a2 fun n3=>.ite true (.ite true (.ite true (.ite true (.ite true (.jump 2 [.int .u64 v8,.int .u64 n3,(.int .u64 (wA .u64 (A6+(wA .u64 (n1*v10))))),(.int .u64 (wA .u64 (A8+(wA .u64 (n1*v11))))),.int .u64 A0,.int .u64 A1,.int .u64 A2,.int .u64 A3,.bool A4,.int .u64 A6,.int .u64 v10,.int .u64 A8,.int .u64 v11,(.bool (!A9))]) .fail) .fail) .fail) .fail) .fail)
 (.ite true (.ret (.agg [.int .u64 A5,.int .u64 A6,.int .u64 A7,.int .u64 A8,.bool A9])) .fail))
 (.ite true (.ret (.agg [.int .u64 A5,.int .u64 A6,.int .u64 A7,.int .u64 A8,.bool A9])) .fail)
def j237_2(v7 v8 v10 v11 A0 A1 A2 A3:Int)(A4:Bool)(A5 A6 A7 A8:Int)(A9:Bool)(h:wp 237 (z6g v7 v8 v10 v11 A0 A1 A2 A3 A4 A5 A6 A7 A8 A9) m Q):jp 237 2 [.int .u64 v7,.int .u64 v8,.int .u64 v10,.int .u64 v11,.int .u64 A0,.int .u64 A1,.int .u64 A2,.int .u64 A3,.bool A4,.int .u64 A5,.int .u64 A6,.int .u64 A7,.int .u64 A8,.bool A9] m Q:=cD ok237 h
def t238 (p0 p1:zA):T:=
 .call 236 [p0,p1] fun a0=>
 .asI .i64 a0 fun n1=>.ite (vC n1 0)
 (.call 251 [p0] fun a2=>
 .ret (.tup [.nilslice,a2]))
 (.opt (zC p1) fun a3=>.asI .i64 a3 fun n4=>.ite (lA n4 1)
 (.opt (lB yA 244 p1 (.int .i64 0)) fun a5=>.light (fun m=>mA yA 246 ⟨0,m⟩ a5) fun a6=>.asI .u32 a6 fun n7=>.call 191 [p0,.int .u32 n7] fun a8=>
 .opt (rB 0 a8) fun a9=>.opt (rB 1 a8) fun vD=>.asI .u32 vD fun n11=>.heavy (lI yA 244 1 [(0,(.int .u32 n11))]) fun rF=>
 .call 212 [rF] fun a13=>
 .ret (.tup [a9,a13]))
 (.opt (zC p1) fun tF=>.asI .i64 tF fun n15=>.opt (lB yA 244 p1 (.int .i64 (wA .i64 (n15-1)))) fun a16=>.light (fun m=>mA yA 246 ⟨0,m⟩ a16) fun a17=>.asI .u32 a17 fun n18=>.call 249 [.int .u32 n18] fun a19=>
 .asI .i64 a19 fun n20=>.call 252 [p1,.int .i64 n20] fun a21=>
 .light (fun m=>vG yA 244 ⟨0,m⟩ a21 none (some (.int .i64 n15))) fun a22=>.call 252 [p0,.int .i64 n20] fun a23=>
 .opt (zC p0) fun a24=>.asI .i64 a24 fun n25=>.heavy (lN yA 244 (.int .i64 (wA .i64 ((wA .i64 (n25-n15))+1))) (.int .i64 (wA .i64 ((wA .i64 (n25-n15))+1)))) fun a26=>
 .opt (zC a26) fun a27=>.asI .i64 a27 fun n28=>.jump 2 [.int .i64 n15,.int .i64 n20,a22,a23,a26,(.int .i64 (wA .i64 (n28-1)))]))
def w238(p0 p1:zA)(h:wp 238 (t238 p0 p1) m Q):Wf 238 [p0,p1] m Q:=aB z8v h
def zwq(v8 v9:Int)(v10 v11 v12:zA)(v13:Int):T:=
 .ite (nC 0 v13)
 (.light (fun m=>vG yA 244 ⟨0,m⟩ v11 (some (.int .i64 v13)) (some (.int .i64 (wA .i64 ((wA .i64 (v13+v8))+1))))) fun a0=>.call 253 [a0,v10] fun a1=>
 .asI .u32 a1 fun n2=>.opt (lB yA 244 v12 (.int .i64 v13)) fun a3=>.heavy (eC yA 246 a3 (.int .u32 n2)) fun _=>
 .jump 2 [.int .i64 v8,.int .i64 v9,v10,v11,v12,(.int .i64 (wA .i64 (v13-1)))])
 (.jump 6 [.int .i64 v8,.int .i64 v9,v11,v12,.int .i64 v8,.int .i64 0])
def z64(v8 v9:Int)(v10 v11 v12:zA)(v13:Int)(h:wp 238 (zwq v8 v9 v10 v11 v12 v13) m Q):jp 238 2 [.int .i64 v8,.int .i64 v9,v10,v11,v12,.int .i64 v13] m Q:=cD z8v h
def zwp(v8 v9:Int)(v11 v12:zA)(v77 v78:Int):T:=
 .ite (vC v78 v77)
 (.opt (lB yA 244 v11 (.int .i64 (wA .i64 (v78+1)))) fun a0=>.light (fun m=>mA yA 246 ⟨0,m⟩ a0) fun a1=>.asI .u32 a1 fun n2=>.opt (lB yA 244 v11 (.int .i64 v78)) fun a3=>.light (fun m=>mA yA 246 ⟨0,m⟩ a3) fun a4=>.asI .u32 a4 fun n5=>.opt (qH Nat.lor .u64 (wA .u64 ((wA .u64 n2)*4294967296)) (wA .u64 n5)) fun a6=>.asI .u64 a6 fun n7=>.opt (z9q .u64 n7 v9) fun a8=>.asI .u64 a8 fun n9=>.opt (lB yA 244 v11 (.int .i64 v78)) fun vD=>.heavy (eC yA 246 vD (.int .u32 (wA .u32 n9))) fun _=>
 .jump 6 [.int .i64 v8,.int .i64 v9,v11,v12,.int .i64 v77,(.int .i64 (wA .i64 (v78+1)))])
 (.light (fun m=>vG yA 244 ⟨0,m⟩ v11 none (some (.int .i64 v8))) fun a11=>.call 212 [v12] fun rF=>
 .light (fun m=>vG yA 244 ⟨0,m⟩ v11 none (some (.int .i64 v8))) fun a13=>.ite (same 10 a13 a11) (.call 212 [a11] fun tF=>
 .ret (.tup [rF,tF])) .fail)
def z63(v8 v9:Int)(v11 v12:zA)(v77 v78:Int)(h:wp 238 (zwp v8 v9 v11 v12 v77 v78) m Q):jp 238 6 [.int .i64 v8,.int .i64 v9,v11,v12,.int .i64 v77,.int .i64 v78] m Q:=cD z8v h
def t239 (p0:Int)(p1:zA)(p2:Int)(p3:zA):T:=
 .opt (zC p1) fun a0=>.asI .i64 a0 fun n1=>.opt (zC p3) fun a2=>.asI .i64 a2 fun n3=>.heavy (lN yA 244 (.int .i64 (wA .i64 ((bif vC n1 n3 then n3 else n1)+1))) (.int .i64 (wA .i64 ((bif vC n1 n3 then n3 else n1)+1)))) fun a4=>
 .opt (zC a4) fun a5=>.asI .i64 a5 fun n6=>.jump 2 [.int .u64 p0,p1,.int .u64 p2,p3,a4,.int .u64 0,.int .u64 0,.int .u32 0,.int .i64 n6,.int .i64 0]
def w239(p0:Int)(p1:zA)(p2:Int)(p3:zA)(h:wp 239 (t239 p0 p1 p2 p3) m Q):Wf 239 [.int .u64 p0,p1,.int .u64 p2,p3] m Q:=aB z3o h
def zwn(v0:Int)(v1:zA)(v2:Int)(v3 v9:zA)(v10 v11 v12 v22 v23:Int):T:=
 .ite (vC v23 v22)
 (.opt (zC v1) fun a0=>.asI .i64 a0 fun n1=>.ite (vC v23 n1)
 (.opt (lB yA 244 v1 (.int .i64 v23)) fun a2=>.light (fun m=>mA yA 246 ⟨0,m⟩ a2) fun a3=>.asI .u32 a3 fun n4=>.jump 17 [.int .u64 v0,v1,.int .u64 v2,v3,v9,(.int .u64 (wA .u64 (v10+(wA .u64 (v0*(wA .u64 n4)))))),.int .u64 v11,.int .u32 v12,.int .i64 v23,.int .i64 v22,.int .i64 v23])
 (.jump 17 [.int .u64 v0,v1,.int .u64 v2,v3,v9,.int .u64 v10,.int .u64 v11,.int .u32 v12,.int .i64 v23,.int .i64 v22,.int .i64 v23]))
 (.call 212 [v9] fun a5=>
 .ret a5)
def z62(v0:Int)(v1:zA)(v2:Int)(v3 v9:zA)(v10 v11 v12 v22 v23:Int)(h:wp 239 (zwn v0 v1 v2 v3 v9 v10 v11 v12 v22 v23) m Q):jp 239 2 [.int .u64 v0,v1,.int .u64 v2,v3,v9,.int .u64 v10,.int .u64 v11,.int .u32 v12,.int .i64 v22,.int .i64 v23] m Q:=cD z3o h
def zwo(v0:Int)(v1:zA)(v2:Int)(v3 v9:zA)(v10 v11 v12 v13 v22 v23:Int):T:=
 .opt (zC v3) fun a0=>.asI .i64 a0 fun n1=>.ite (vC v13 n1)
 (.opt (lB yA 244 v3 (.int .i64 v13)) fun a2=>.light (fun m=>mA yA 246 ⟨0,m⟩ a2) fun a3=>.asI .u32 a3 fun n4=>.jump 21 [.int .u64 v0,v1,.int .u64 v2,v3,v9,.int .u64 v10,(.int .u64 (wA .u64 (v11+(wA .u64 (v2*(wA .u64 n4)))))),.int .u32 v12,.int .i64 v13,.int .i64 v22,.int .i64 v23])
 (.jump 21 [.int .u64 v0,v1,.int .u64 v2,v3,v9,.int .u64 v10,.int .u64 v11,.int .u32 v12,.int .i64 v13,.int .i64 v22,.int .i64 v23])
def z9j(v0:Int)(v1:zA)(v2:Int)(v3 v9:zA)(v10 v11 v12 v13 v22 v23:Int)(h:wp 239 (zwo v0 v1 v2 v3 v9 v10 v11 v12 v13 v22 v23) m Q):jp 239 17 [.int .u64 v0,v1,.int .u64 v2,v3,v9,.int .u64 v10,.int .u64 v11,.int .u32 v12,.int .i64 v13,.int .i64 v22,.int .i64 v23] m Q:=cD z3o h
def zwm(v0:Int)(v1:zA)(v2:Int)(v3 v9:zA)(v10 v11 v12 v13 v22 v23:Int):T:=
 .call 254 [(.int .u32 (wA .u32 v10)),(.int .u32 (wA .u32 v11)),.int .u32 v12] fun a0=>
 .opt (rB 0 a0) fun a1=>.asI .u32 a1 fun n2=>.opt (rB 1 a0) fun a3=>.asI .u32 a3 fun n4=>.opt (lB yA 244 v9 (.int .i64 v13)) fun a5=>.heavy (eC yA 246 a5 (.int .u32 n2)) fun _=>
 .jump 2 [.int .u64 v0,v1,.int .u64 v2,v3,v9,(.int .u64 (Int.fdiv v10 4294967296)),(.int .u64 (Int.fdiv v11 4294967296)),.int .u32 n4,.int .i64 v22,(.int .i64 (wA .i64 (v23+1)))]
def z9i(v0:Int)(v1:zA)(v2:Int)(v3 v9:zA)(v10 v11 v12 v13 v22 v23:Int)(h:wp 239 (zwm v0 v1 v2 v3 v9 v10 v11 v12 v13 v22 v23) m Q):jp 239 21 [.int .u64 v0,v1,.int .u64 v2,v3,v9,.int .u64 v10,.int .u64 v11,.int .u32 v12,.int .i64 v13,.int .i64 v22,.int .i64 v23] m Q:=cD z3o h
def t240 (p0:zA):T:=
 .heavy (yH yA 225) fun a0=>
 .heavy (eC yA 225 a0 (.int .u64 0)) fun _=>
 .call 192 [p0] fun a1=>
 .range (npC yA) a1 2 1 [a0]
 (.light (fun m=>mA yA 225 ⟨0,m⟩ a0) fun a2=>.asI .u64 a2 fun n3=>.ret (.int .u64 n3))
 (.ret (.int .u64 0))
def w240(p0:zA)(h:wp 240 (t240 p0) m Q):Wf 240 [p0] m Q:=aB ok240 h
def z6f(v3:zA)(v7:Int):T:=
 .light (fun m=>mA yA 225 ⟨0,m⟩ v3) fun a0=>.asI .u64 a0 fun n1=>.opt (qH Nat.lor .u64 (wA .u64 (n1*4294967296)) (wA .u64 v7)) fun a2=>.asI .u64 a2 fun n3=>.heavy (eC yA 225 v3 (.int .u64 n3)) fun _=>
 .ret (.bool true)
def j240_2(v3:zA)(v7:Int)(h:wp 240 (z6f v3 v7) m Q):jp 240 2 [v3,.int .u32 v7] m Q:=cD ok240 h
def t241 (p0:Int):T:=
 .heavy (lI yA 244 2 [(0,(.int .u32 (wA .u32 p0))),(1,(.int .u32 (wA .u32 (Int.fdiv p0 4294967296))))]) fun a0=>
 .call 212 [a0] fun a1=>
 .ret a1
def w241(p0:Int)(h:wp 241 (t241 p0) m Q):Wf 241 [.int .u64 p0] m Q:=aB ok241 h
def t249 (p0:Int):T:=
 .call 258 [.int .u32 p0] fun a0=>
 .asI .i64 a0 fun n1=>.ret (.int .i64 (wA .i64 (32-n1)))
def w249(p0:Int)(h:wp 249 (t249 p0) m Q):Wf 249 [.int .u32 p0] m Q:=aB ok249 h
def t250 (p0:zA)(p1 p2:Int):T:=
 .heavy (zpx p0) fun a0=>
 .callv (.func (.func 259) [] [a0]) [(.int .i64 (wA .i64 (p1-1)))] fun a1=>
 .asI .u64 a1 fun n2=>.callv (.func (.func 259) [] [a0]) [(.int .i64 (wA .i64 (p1-2)))] fun a3=>
 .asI .u64 a3 fun n4=>.opt (qH Nat.lor .u64 (wA .u64 (n2*4294967296)) n4) fun a5=>.asI .u64 a5 fun n6=>.opt (zzw .u64 n6 p2) fun a7=>.asI .u64 a7 fun n8=>.callv (.func (.func 259) [] [a0]) [(.int .i64 (wA .i64 (p1-3)))] fun a9=>
 .asI .u64 a9 fun n10=>.opt (z9q .u64 n10 (wA .i64 (32-p2))) fun a11=>.asI .u64 a11 fun n12=>.opt (qH Nat.lor .u64 n8 n12) fun a13=>.asI .u64 a13 fun n14=>.ret (.int .u64 n14)
def e250(p0:zA)(p1 p2:Int):entT yA Tryz.f250 8 250 a250 [p0,.int .i64 p1,.int .i64 p2]=t250 p0 p1 p2:=by kernel_rfl
def w250(p0:zA)(p1 p2:Int)(h:wp 250 (t250 p0 p1 p2) m Q):Wf 250 [p0,.int .i64 p1,.int .i64 p2] m Q:=zzao ok250 (by kernel_rfl) (by rw[e250];exact h)
def t251 (p0:zA):T:=
 .opt ((binA .eql).f yA 244 (.tmp 3) (.const (.slice none 0 0)) p0 .nilslice) fun a0=>.asB a0 fun b1=>.ite b1
 (.ret .nilslice)
 (.heavy (lI yA 244 0 []) fun a2=>
 .heavy (pF yA 244 244 a2 p0) fun a3=>
 .ret a3)
def w251(p0:zA)(h:wp 251 (t251 p0) m Q):Wf 251 [p0] m Q:=aB ok251 h
def t252 (p0:zA)(p1:Int):T:=
 .opt (zC p0) fun a0=>.asI .i64 a0 fun n1=>.heavy (lN yA 244 (.int .i64 (wA .i64 (n1+1))) (.int .i64 (wA .i64 (n1+1)))) fun a2=>
 .opt (zC p0) fun a3=>.asI .i64 a3 fun n4=>.jump 2 [.int .i64 p1,a2,p0,.int .i64 n4,.int .i64 0]
def w252(p0:zA)(p1:Int)(h:wp 252 (t252 p0 p1) m Q):Wf 252 [p0,.int .i64 p1] m Q:=aB ok252 h
def zwl(v1:Int)(v5 v13:zA)(v14 v15:Int):T:=
 .ite (vC v15 v14)
 (.opt (lB yA 244 v13 (.int .i64 v15)) fun a0=>.light (fun m=>mA yA 246 ⟨0,m⟩ a0) fun a1=>.asI .u32 a1 fun n2=>.opt (zzw .u64 (wA .u64 n2) v1) fun a3=>.asI .u64 a3 fun n4=>.opt (lB yA 244 v5 (.int .i64 v15)) fun a5=>.light (fun m=>mA yA 246 ⟨0,m⟩ a5) fun a6=>.asI .u32 a6 fun n7=>.opt (qH Nat.lor .u32 n7 (wA .u32 n4)) fun a8=>.asI .u32 a8 fun n9=>.opt (lB yA 244 v5 (.int .i64 v15)) fun vD=>.heavy (eC yA 246 vD (.int .u32 n9)) fun _=>
 .opt (lB yA 244 v5 (.int .i64 (wA .i64 (v15+1)))) fun a11=>.heavy (eC yA 246 a11 (.int .u32 (wA .u32 (Int.fdiv n4 4294967296)))) fun _=>
 .jump 2 [.int .i64 v1,v5,v13,.int .i64 v14,(.int .i64 (wA .i64 (v15+1)))])
 (.ret v5)
def z61(v1:Int)(v5 v13:zA)(v14 v15:Int)(h:wp 252 (zwl v1 v5 v13 v14 v15) m Q):jp 252 2 [.int .i64 v1,v5,v13,.int .i64 v14,.int .i64 v15] m Q:=cD ok252 h
def t253 (p0 p1:zA):T:=
 .opt (zC p1) fun a0=>.asI .i64 a0 fun n1=>.opt (lB yA 244 p0 (.int .i64 n1)) fun a2=>.light (fun m=>mA yA 246 ⟨0,m⟩ a2) fun a3=>.asI .u32 a3 fun n4=>.opt (lB yA 244 p0 (.int .i64 (wA .i64 (n1-1)))) fun a5=>.light (fun m=>mA yA 246 ⟨0,m⟩ a5) fun a6=>.asI .u32 a6 fun n7=>.opt (qH Nat.lor .u64 (wA .u64 ((wA .u64 n4)*4294967296)) (wA .u64 n7)) fun a8=>.asI .u64 a8 fun n9=>.opt (lB yA 244 p1 (.int .i64 (wA .i64 (n1-1)))) fun vD=>.light (fun m=>mA yA 246 ⟨0,m⟩ vD) fun a11=>.asI .u32 a11 fun n12=>.opt (z4h .u64 n9 (wA .u64 n12)) fun a13=>.asI .u64 a13 fun n14=>.opt (z2b .u64 n9 (wA .u64 n12)) fun a15=>.asI .u64 a15 fun n16=>.jump 2 [p0,p1,.int .i64 n1,(.int .u64 (wA .u64 n12)),.int .u64 n14,.int .u64 n16]
def w253(p0 p1:zA)(h:wp 253 (t253 p0 p1) m Q):Wf 253 [p0,p1] m Q:=aB zyf h
def zwj(v0 v1:zA)(v5 v7 v8 v9:Int):T:=
 .ite (nC 4294967296 v8)
 (.ite (nC 4294967296 (wA .u64 (v9+v7)))
 (.jump 19 [v0,v1,.int .i64 v5,(.int .u64 (wA .u64 (v8-1)))])
 (.jump 2 [v0,v1,.int .i64 v5,.int .u64 v7,(.int .u64 (wA .u64 (v8-1))),(.int .u64 (wA .u64 (v9+v7)))]))
 (.opt (lB yA 244 v1 (.int .i64 (wA .i64 (v5-2)))) fun a0=>.light (fun m=>mA yA 246 ⟨0,m⟩ a0) fun a1=>.asI .u32 a1 fun n2=>.opt (lB yA 244 v0 (.int .i64 (wA .i64 (v5-2)))) fun a3=>.light (fun m=>mA yA 246 ⟨0,m⟩ a3) fun a4=>.asI .u32 a4 fun n5=>.opt (qH Nat.lor .u64 (wA .u64 (v9*4294967296)) (wA .u64 n5)) fun a6=>.asI .u64 a6 fun n7=>.ite (vC n7 (wA .u64 (v8*(wA .u64 n2))))
 (.ite (nC 4294967296 (wA .u64 (v9+v7)))
 (.jump 19 [v0,v1,.int .i64 v5,(.int .u64 (wA .u64 (v8-1)))])
 (.jump 2 [v0,v1,.int .i64 v5,.int .u64 v7,(.int .u64 (wA .u64 (v8-1))),(.int .u64 (wA .u64 (v9+v7)))]))
 (.jump 19 [v0,v1,.int .i64 v5,.int .u64 v8]))
def z60(v0 v1:zA)(v5 v7 v8 v9:Int)(h:wp 253 (zwj v0 v1 v5 v7 v8 v9) m Q):jp 253 2 [v0,v1,.int .i64 v5,.int .u64 v7,.int .u64 v8,.int .u64 v9] m Q:=cD zyf h
def zwk(v0 v1:zA)(v5 v8:Int):T:=
 .opt (zC v1) fun a0=>.asI .i64 a0 fun n1=>.jump 6 [v0,v1,.int .i64 v5,.int .u64 v8,.int .u64 0,.int .u64 0,v1,.int .i64 n1,.int .i64 0]
def z9h(v0 v1:zA)(v5 v8:Int)(h:wp 253 (zwk v0 v1 v5 v8) m Q):jp 253 19 [v0,v1,.int .i64 v5,.int .u64 v8] m Q:=cD zyf h
def zwi(v0 v1:zA)(v5 v8 v10 v11:Int)(v76:zA)(v77 v78:Int):T:=
 .ite (vC v78 v77)
 (.opt (lB yA 244 v76 (.int .i64 v78)) fun a0=>.light (fun m=>mA yA 246 ⟨0,m⟩ a0) fun a1=>.asI .u32 a1 fun n2=>.opt (lB yA 244 v0 (.int .i64 v78)) fun a3=>.light (fun m=>mA yA 246 ⟨0,m⟩ a3) fun a4=>.asI .u32 a4 fun n5=>.opt (lB yA 244 v0 (.int .i64 v78)) fun a6=>.heavy (eC yA 246 a6 (.int .u32 (wA .u32 (wA .u64 ((wA .u64 ((wA .u64 n5)-(wA .u64 (wA .u32 (wA .u64 ((wA .u64 (v8*(wA .u64 n2)))+v10))))))-v11))))) fun _=>
 .jump 6 [v0,v1,.int .i64 v5,.int .u64 v8,(.int .u64 (Int.fdiv (wA .u64 ((wA .u64 (v8*(wA .u64 n2)))+v10)) 4294967296)),(.int .u64 (Int.fdiv (wA .u64 ((wA .u64 ((wA .u64 n5)-(wA .u64 (wA .u32 (wA .u64 ((wA .u64 (v8*(wA .u64 n2)))+v10))))))-v11)) 9223372036854775808)),v76,.int .i64 v77,(.int .i64 (wA .i64 (v78+1)))])
 (.opt (lB yA 244 v0 (.int .i64 v5)) fun a7=>.light (fun m=>mA yA 246 ⟨0,m⟩ a7) fun a8=>.asI .u32 a8 fun n9=>.opt (lB yA 244 v0 (.int .i64 v5)) fun vD=>.heavy (eC yA 246 vD (.int .u32 (wA .u32 (wA .u64 ((wA .u64 ((wA .u64 n9)-v10))-v11))))) fun _=>
 .ite (lA (Int.fdiv (wA .u64 ((wA .u64 ((wA .u64 n9)-v10))-v11)) 9223372036854775808) 0)
 (.ret (.int .u32 (wA .u32 v8)))
 (.opt (zC v1) fun a11=>.asI .i64 a11 fun n12=>.jump 10 [v0,.int .i64 v5,.int .u64 v8,.int .u32 0,v1,.int .i64 n12,.int .i64 0]))
def z6z(v0 v1:zA)(v5 v8 v10 v11:Int)(v76:zA)(v77 v78:Int)(h:wp 253 (zwi v0 v1 v5 v8 v10 v11 v76 v77 v78) m Q):jp 253 6 [v0,v1,.int .i64 v5,.int .u64 v8,.int .u64 v10,.int .u64 v11,v76,.int .i64 v77,.int .i64 v78] m Q:=cD zyf h
def zm8(v0:zA)(v5 v8 v17:Int)(v129:zA)(v130 v131:Int):T:=
 .ite (vC v131 v130)
 (.opt (lB yA 244 v129 (.int .i64 v131)) fun a0=>.light (fun m=>mA yA 246 ⟨0,m⟩ a0) fun a1=>.asI .u32 a1 fun n2=>.opt (lB yA 244 v0 (.int .i64 v131)) fun a3=>.light (fun m=>mA yA 246 ⟨0,m⟩ a3) fun a4=>.asI .u32 a4 fun n5=>.call 260 [.int .u32 n5,.int .u32 n2,.int .u32 v17] fun a6=>
 .opt (rB 0 a6) fun a7=>.asI .u32 a7 fun n8=>.opt (rB 1 a6) fun a9=>.asI .u32 a9 fun n10=>.opt (lB yA 244 v0 (.int .i64 v131)) fun a11=>.heavy (eC yA 246 a11 (.int .u32 n8)) fun _=>
 .jump 10 [v0,.int .i64 v5,.int .u64 v8,.int .u32 n10,v129,.int .i64 v130,(.int .i64 (wA .i64 (v131+1)))])
 (.opt (lB yA 244 v0 (.int .i64 v5)) fun rF=>.light (fun m=>mA yA 246 ⟨0,m⟩ rF) fun a13=>.asI .u32 a13 fun n14=>.opt (lB yA 244 v0 (.int .i64 v5)) fun a15=>.heavy (eC yA 246 a15 (.int .u32 (wA .u32 (n14+v17)))) fun _=>
 .ret (.int .u32 (wA .u32 (wA .u64 (v8-1)))))
def zzm(v0:zA)(v5 v8 v17:Int)(v129:zA)(v130 v131:Int)(h:wp 253 (zm8 v0 v5 v8 v17 v129 v130 v131) m Q):jp 253 10 [v0,.int .i64 v5,.int .u64 v8,.int .u32 v17,v129,.int .i64 v130,.int .i64 v131] m Q:=cD zyf h
def t254 (p0 p1 p2:Int):T:=
 .opt (zm4 (.int .u32 p0)) fun a0=>.asI .u32 a0 fun n1=>.opt (iAnd .u32 n1 p1) fun a2=>.asI .u32 a2 fun n3=>.opt (qH Nat.xor .u32 p0 p1) fun a4=>.asI .u32 a4 fun n5=>.opt (zm4 (.int .u32 n5)) fun a6=>.asI .u32 a6 fun n7=>.opt (iAnd .u32 n7 (wA .u32 ((wA .u32 (p0-p1))-p2))) fun a8=>.asI .u32 a8 fun n9=>.opt (qH Nat.lor .u32 n3 n9) fun vD=>.asI .u32 vD fun n11=>.ret (.tup [(.int .u32 (wA .u32 ((wA .u32 (p0-p1))-p2))),(.int .u32 (Int.fdiv n11 2147483648))])
def w254(p0 p1 p2:Int)(h:wp 254 (t254 p0 p1 p2) m Q):Wf 254 [.int .u32 p0,.int .u32 p1,.int .u32 p2] m Q:=aB ok254 h
def t258 (p0:Int):T:=
 .ite (nC 65536 p0)
 (.jump 9 [(.int .u32 (Int.fdiv p0 65536)),.int .i64 16])
 (.jump 9 [.int .u32 p0,.int .i64 0])
def w258(p0:Int)(h:wp 258 (t258 p0) m Q):Wf 258 [.int .u32 p0] m Q:=aB z8u h
def zwg(v0 v2:Int):T:=
 .ite (nC 256 v0)
 (.jump 15 [(.int .u32 (Int.fdiv v0 256)),(.int .i64 (wA .i64 (v2+8)))])
 (.jump 15 [.int .u32 v0,.int .i64 v2])
def z6y(v0 v2:Int)(h:wp 258 (zwg v0 v2) m Q):jp 258 9 [.int .u32 v0,.int .i64 v2] m Q:=cD z8u h
def zwh(v0 v2:Int):T:=
 .opt (sK yA 9 (.str [0,1,2,2,3,3,3,3,4,4,4,4,4,4,4,4,5,5,5,5,5,5,5,5,5,5,5,5,5,5,5,5,6,6,6,6,6,6,6,6,6,6,6,6,6,6,6,6,6,6,6,6,6,6,6,6,6,6,6,6,6,6,6,6,7,7,7,7,7,7,7,7,7,7,7,7,7,7,7,7,7,7,7,7,7,7,7,7,7,7,7,7,7,7,7,7,7,7,7,7,7,7,7,7,7,7,7,7,7,7,7,7,7,7,7,7,7,7,7,7,7,7,7,7,7,7,7,7,8,8,8,8,8,8,8,8,8,8,8,8,8,8,8,8,8,8,8,8,8,8,8,8,8,8,8,8,8,8,8,8,8,8,8,8,8,8,8,8,8,8,8,8,8,8,8,8,8,8,8,8,8,8,8,8,8,8,8,8,8,8,8,8,8,8,8,8,8,8,8,8,8,8,8,8,8,8,8,8,8,8,8,8,8,8,8,8,8,8,8,8,8,8,8,8,8,8,8,8,8,8,8,8,8,8,8,8,8,8,8,8,8,8,8,8,8,8,8,8,8,8,8,8,8,8,8,8]) (.int .u8 (wA .u8 v0))) fun a0=>.asI .u8 a0 fun n1=>.ret (.int .i64 (wA .i64 (v2+(wA .i64 n1))))
def z9g(v0 v2:Int)(h:wp 258 (zwh v0 v2) m Q):jp 258 15 [.int .u32 v0,.int .i64 v2] m Q:=cD z8u h
def t259 (p0:Int)(w0:zA):T:=
 .light (fun m=>mA yA 244 ⟨0,m⟩ w0) fun a0=>.opt (zC a0) fun a1=>.asI .i64 a1 fun n2=>.ite (nC n2 p0)
 (.ret (.int .u64 0))
 (.light (fun m=>mA yA 244 ⟨0,m⟩ w0) fun a3=>.opt (lB yA 244 a3 (.int .i64 p0)) fun a4=>.light (fun m=>mA yA 246 ⟨0,m⟩ a4) fun a5=>.asI .u32 a5 fun n6=>.ret (.int .u64 (wA .u64 n6)))
def w259(p0:Int)(w0:zA)(h:wp 259 (t259 p0 w0) m Q):Wf 259 [.int .i64 p0,w0] m Q:=aB ok259 h
def t260 (p0 p1 p2:Int):T:=
 .ret (.tup [(.int .u32 (wA .u32 (wA .u64 ((wA .u64 ((wA .u64 p0)+(wA .u64 p1)))+(wA .u64 p2))))),(.int .u32 (wA .u32 (Int.fdiv (wA .u64 ((wA .u64 ((wA .u64 p0)+(wA .u64 p1)))+(wA .u64 p2))) 4294967296)))])
def e260(p0 p1 p2:Int):entT yA Tryz.f260 9 260 a260 [.int .u32 p0,.int .u32 p1,.int .u32 p2]=t260 p0 p1 p2:=by kernel_rfl
def w260(p0 p1 p2:Int)(h:wp 260 (t260 p0 p1 p2) m Q):Wf 260 [.int .u32 p0,.int .u32 p1,.int .u32 p2] m Q:=zzao ok260 (by kernel_rfl) (by rw[e260];exact h)
end Go.Proofs
