/- The trees of functions. (Printed by a tool; the kernel agrees.) -/
import Derived.Test.YtbgilkcahebbfaaGreatDoorF18
set_option linter.all false
noncomputable section
set_option maxRecDepth 100000
namespace Go.Proofs
open Go Go.Am
variable [jC]{m:Tr qA}{Q:bB}
abbrev eH:List zA:=[.int .u8 0,.str [],.bool false,.int .i64 0,.int .i64 0,.int .i64 0,.int .i64 0,.int .i64 0]
abbrev zqq:List zA:=[.int .u8 0,.str [],.int .u8 0,.bool false,.nilslice,.bool false,.nilslice,.int .i64 0,.nilslice]
abbrev z4v:List zA:=[.int .u8 0,.int .u8 0,.int .u8 0,.int .u8 0,.int .u8 0,.int .u8 0,.int .u8 0,.int .u8 0,.int .u8 0,.int .u8 0]
abbrev zz3z:List zA:=[.bool false,.nilslice]
def aB{f kf:Nat}{fn:Func}{A:xB}{x:List zA}{T:T}(h:rB yA F f fn kf A)(k:pA yA.base (Wq yA F lI) (Jq yA F f) T m Q)(h1:(Nat.ble (aA x) kf&&Nat.ble (aA x) fn.ntmps)=true:=by kernel_rfl)(h2:entT yA fn kf f A x=T:=by kernel_rfl):Wc yA F f x m Q:=z7h h h1 (by rw[h2];exact k)
def nE{f kf i:Nat}{fn:Func}{A:xB}{x:List zA}{T:T}(h:rB yA F f fn kf A)(k:pA yA.base (Wq yA F lI) (Jq yA F f) T m Q)(h2:zrr (ptsT yA fn kf f A) i x=[T]:=by kernel_rfl):Jq yA F f i x m Q:=Jq_of1 h h2 k
def eqT{b:Nat}{W J:fG}{x y:T}{m:Tr qA}{Q:bB}(e:x=y)(h:pA b W J y m Q):pA b W J x m Q:=e ▸ h
def t3 (A0:Int)(A1:List Nat)(A2:Int)(A3:Bool)(A4:zA)(A5:Bool)(A6:zA)(A7:Int)(A8 p1:zA)(p2:Int):T:=
 .call 6 [] fun a0=>
 .asB a0 fun b1=>.ite (!b1)
 (.ret (.bool false))
 (.call 7 [.agg [.int .u8 A0,.str A1,.int .u8 A2,.bool A3,A4,.bool A5,A6,.int .i64 A7,A8],.int .i64 400] fun a2=>
 .asI .i64 a2 fun n3=>.ite (vC 400 n3)
 (.ret (.bool true))
 (.call 8 [.agg [.int .u8 A0,.str A1,.int .u8 A2,.bool A3,A4,.bool A5,A6,.int .i64 A7,A8]] fun a4=>
 .opt (zD 0 a4) fun a5=>.asS a5 fun s6=>.opt (zD 1 a4) fun a7=>.asI .i64 a7 fun n8=>.ite (!uB n8 0)
 (.ret (.bool true))
 (.call 9 [.agg [.int .u8 A0,.str A1,.int .u8 A2,.bool A3,A4,.bool A5,A6,.int .i64 A7,A8]] fun a9=>
 .asG zqq a9 fun X10=>
 .heavy (uM yA 31) fun tE=>
 .heavy (sC yA 31 tE (.agg [.int .u8 (X10.i 0),.str (X10.s 1),.int .u8 (X10.i 2),.bool (X10.b 3),X10.v 4,.bool (X10.b 5),X10.v 6,.int .i64 (X10.i 7),X10.v 8])) fun _=>
 .jump 2 [p1,.int .u8 p2,tE,tE,.int .i64 0])))
def w3(A0:Int)(A1:List Nat)(A2:Int)(A3:Bool)(A4:zA)(A5:Bool)(A6:zA)(A7:Int)(A8 p1:zA)(p2:Int)(h:wp 3 (t3 A0 A1 A2 A3 A4 A5 A6 A7 A8 p1 p2) m Q):Wf 3 [.agg [.int .u8 A0,.str A1,.int .u8 A2,.bool A3,A4,.bool A5,A6,.int .i64 A7,A8],p1,.int .u8 p2] m Q:=aB ok3 h
def t3_2 (v1:zA)(v2:Int)(v9 v10:zA)(v11:Int):T:=
 .opt (yC v1) fun a0=>.asI .i64 a0 fun n1=>.ite (vC v11 n1)
 (.opt (oB v10) fun a2=>.opt (vB yA 31 3 a2) fun a3=>.light (fun m=>mA yA 29 ⟨0,m⟩ a3) fun a4=>.opt (yC a4) fun a5=>.asI .i64 a5 fun n6=>.ite (vC 0 n6)
 (.opt (oB v10) fun a7=>.opt (vB yA 31 3 a7) fun a8=>.light (fun m=>mA yA 29 ⟨0,m⟩ a8) fun a9=>.opt (zC yA 32 v1 (.int .i64 v11)) fun xD=>.light (fun m=>mA yA 5 ⟨0,m⟩ xD) fun tE=>.asI .u8 tE fun n12=>.opt (oB v10) fun a13=>.opt (vB yA 31 3 a13) fun a14=>.light (fun m=>mA yA 29 ⟨0,m⟩ a14) fun a15=>.opt (yC a15) fun a16=>.asI .i64 a16 fun n17=>.opt (zzo .i64 (tA .i64 n12) n17) fun a18=>.asI .i64 a18 fun n19=>.opt (zC yA 29 a9 (.int .i64 n19)) fun a20=>.jump 2 [v1,.int .u8 v2,v9,a20,(.int .i64 (tA .i64 (v11+1)))])
 (.ite (uB (Int.tmod v2 6) 0)
 (.opt (oB v10) fun a21=>.opt (vB yA 31 0 a21) fun a22=>.light (fun m=>mA yA 5 ⟨0,m⟩ a22) fun a23=>.asI .u8 a23 fun n24=>.ite (uB n24 6)
 (.opt (oB v10) fun a25=>.opt (vB yA 31 3 a25) fun a26=>.light (fun m=>mA yA 29 ⟨0,m⟩ a26) fun a27=>.opt (yC a27) fun a28=>.asI .i64 a28 fun n29=>.ite (uB n29 1)
 (.opt (oB v10) fun a30=>.opt (vB yA 31 3 a30) fun a31=>.light (fun m=>mA yA 29 ⟨0,m⟩ a31) fun a32=>.ite true (.opt (yC a32) fun a33=>.asI .i64 a33 fun n34=>.heavy (dG yA 29 1 [(0,(.agg [.int .u8 0,.str [],.int .u8 0,.bool false,.nilslice,.bool false,.nilslice,.int .i64 0,.nilslice]))]) fun a35=>
 .light (fun m=>mA yA 29 ⟨0,m⟩ a31) fun a36=>.ite (same 10 a36 a32) (.opt (yC a32) fun a37=>.ite (same 10 a37 (.int .i64 n34)) (.heavy (bE yA 29 29 a32 a35) fun a38=>
 .opt (zC yA 29 a38 (.int .i64 n34)) fun a39=>.opt (oB v10) fun a40=>.opt (vB yA 31 3 a40) fun a41=>.heavy (vM yA [.store 31 a39 (.agg [.int .u8 2,.str [],.int .u8 0,.bool false,.nilslice,.bool false,.nilslice,.int .i64 0,.nilslice]),.store 29 a41 a38]) fun _=>
 .jump 39 [v9,v10]) .fail) .fail) .fail)
 (.jump 39 [v9,v10]))
 (.jump 39 [v9,v10]))
 (.ite (uB (Int.tmod v2 6) 1)
 (.opt (oB v10) fun a42=>.opt (vB yA 31 0 a42) fun a43=>.light (fun m=>mA yA 5 ⟨0,m⟩ a43) fun a44=>.asI .u8 a44 fun n45=>.ite (uB n45 1)
 (.opt (oB v10) fun a46=>.opt (vB yA 31 0 a46) fun a47=>.heavy (sC yA 5 a47 (.int .u8 17)) fun _=>
 .opt (oB v10) fun a48=>.opt (vB yA 31 3 a48) fun a49=>.heavy (sC yA 29 a49 .nilslice) fun _=>
 .jump 61 [v9])
 (.opt (oB v10) fun a50=>.opt (vB yA 31 0 a50) fun a51=>.light (fun m=>mA yA 5 ⟨0,m⟩ a51) fun a52=>.asI .u8 a52 fun n53=>.ite (uB n53 2)
 (.opt (oB v10) fun a54=>.opt (vB yA 31 0 a54) fun a55=>.heavy (sC yA 5 a55 (.int .u8 17)) fun _=>
 .opt (oB v10) fun a56=>.opt (vB yA 31 3 a56) fun a57=>.heavy (sC yA 29 a57 .nilslice) fun _=>
 .jump 61 [v9])
 (.opt (oB v10) fun a58=>.opt (vB yA 31 3 a58) fun a59=>.heavy (sC yA 29 a59 .nilslice) fun _=>
 .jump 61 [v9])))
 (.ite (uB (Int.tmod v2 6) 2)
 (.opt (oB v10) fun a60=>.opt (vB yA 31 1 a60) fun a61=>.light (fun m=>mA yA 9 ⟨0,m⟩ a61) fun a62=>.asS a62 fun s63=>.opt (zI s63 [46]) fun a64=>.asS a64 fun s65=>.opt (oB v10) fun a66=>.opt (vB yA 31 1 a66) fun a67=>.heavy (sC yA 9 a67 (.str s65)) fun _=>
 .jump 61 [v9])
 (.ite (uB (Int.tmod v2 6) 3)
 (.opt (oB v10) fun a68=>.opt (vB yA 31 2 a68) fun a69=>.opt (vB yA 28 0 a69) fun a70=>.light (fun m=>mA yA 5 ⟨0,m⟩ a70) fun a71=>.asI .u8 a71 fun n72=>.opt (oB v10) fun a73=>.opt (vB yA 31 2 a73) fun a74=>.opt (vB yA 28 0 a74) fun a75=>.heavy (sC yA 5 a75 (.int .u8 (tA .u8 (n72+7)))) fun _=>
 .jump 61 [v9])
 (.ite (uB (Int.tmod v2 6) 4)
 (.opt (oB v10) fun a76=>.opt (vB yA 31 0 a76) fun a77=>.light (fun m=>mA yA 5 ⟨0,m⟩ a77) fun a78=>.asI .u8 a78 fun n79=>.opt (oB v10) fun a80=>.opt (vB yA 31 0 a80) fun a81=>.heavy (sC yA 5 a81 (.int .u8 (tA .u8 (n79+26)))) fun _=>
 .jump 61 [v9])
 (.opt (oB v10) fun a82=>.opt (vB yA 31 2 a82) fun a83=>.opt (vB yA 28 2 a83) fun a84=>.light (fun m=>mA yA 3 ⟨0,m⟩ a84) fun a85=>.asI .i64 a85 fun n86=>.opt (oB v10) fun a87=>.opt (vB yA 31 2 a87) fun a88=>.opt (vB yA 28 2 a88) fun a89=>.heavy (sC yA 3 a89 (.int .i64 (tA .i64 (n86+4194304)))) fun _=>
 .jump 61 [v9])))))))
 (.ite (uB (Int.tmod v2 6) 0)
 (.opt (oB v10) fun a90=>.opt (vB yA 31 0 a90) fun a91=>.light (fun m=>mA yA 5 ⟨0,m⟩ a91) fun a92=>.asI .u8 a92 fun n93=>.ite (uB n93 6)
 (.opt (oB v10) fun a94=>.opt (vB yA 31 3 a94) fun a95=>.light (fun m=>mA yA 29 ⟨0,m⟩ a95) fun a96=>.opt (yC a96) fun a97=>.asI .i64 a97 fun n98=>.ite (uB n98 1)
 (.opt (oB v10) fun a99=>.opt (vB yA 31 3 a99) fun a100=>.light (fun m=>mA yA 29 ⟨0,m⟩ a100) fun a101=>.ite true (.opt (yC a101) fun a102=>.asI .i64 a102 fun n103=>.heavy (dG yA 29 1 [(0,(.agg [.int .u8 0,.str [],.int .u8 0,.bool false,.nilslice,.bool false,.nilslice,.int .i64 0,.nilslice]))]) fun a104=>
 .light (fun m=>mA yA 29 ⟨0,m⟩ a100) fun a105=>.ite (same 10 a105 a101) (.opt (yC a101) fun a106=>.ite (same 10 a106 (.int .i64 n103)) (.heavy (bE yA 29 29 a101 a104) fun a107=>
 .opt (zC yA 29 a107 (.int .i64 n103)) fun a108=>.opt (oB v10) fun a109=>.opt (vB yA 31 3 a109) fun a110=>.heavy (vM yA [.store 31 a108 (.agg [.int .u8 2,.str [],.int .u8 0,.bool false,.nilslice,.bool false,.nilslice,.int .i64 0,.nilslice]),.store 29 a110 a107]) fun _=>
 .jump 39 [v9,v10]) .fail) .fail) .fail)
 (.jump 39 [v9,v10]))
 (.jump 39 [v9,v10]))
 (.ite (uB (Int.tmod v2 6) 1)
 (.opt (oB v10) fun a111=>.opt (vB yA 31 0 a111) fun a112=>.light (fun m=>mA yA 5 ⟨0,m⟩ a112) fun a113=>.asI .u8 a113 fun n114=>.ite (uB n114 1)
 (.opt (oB v10) fun a115=>.opt (vB yA 31 0 a115) fun a116=>.heavy (sC yA 5 a116 (.int .u8 17)) fun _=>
 .opt (oB v10) fun a117=>.opt (vB yA 31 3 a117) fun a118=>.heavy (sC yA 29 a118 .nilslice) fun _=>
 .jump 61 [v9])
 (.opt (oB v10) fun a119=>.opt (vB yA 31 0 a119) fun a120=>.light (fun m=>mA yA 5 ⟨0,m⟩ a120) fun a121=>.asI .u8 a121 fun n122=>.ite (uB n122 2)
 (.opt (oB v10) fun a123=>.opt (vB yA 31 0 a123) fun a124=>.heavy (sC yA 5 a124 (.int .u8 17)) fun _=>
 .opt (oB v10) fun a125=>.opt (vB yA 31 3 a125) fun a126=>.heavy (sC yA 29 a126 .nilslice) fun _=>
 .jump 61 [v9])
 (.opt (oB v10) fun a127=>.opt (vB yA 31 3 a127) fun a128=>.heavy (sC yA 29 a128 .nilslice) fun _=>
 .jump 61 [v9])))
 (.ite (uB (Int.tmod v2 6) 2)
 (.opt (oB v10) fun a129=>.opt (vB yA 31 1 a129) fun a130=>.light (fun m=>mA yA 9 ⟨0,m⟩ a130) fun a131=>.asS a131 fun s132=>.opt (zI s132 [46]) fun a133=>.asS a133 fun s134=>.opt (oB v10) fun a135=>.opt (vB yA 31 1 a135) fun a136=>.heavy (sC yA 9 a136 (.str s134)) fun _=>
 .jump 61 [v9])
 (.ite (uB (Int.tmod v2 6) 3)
 (.opt (oB v10) fun a137=>.opt (vB yA 31 2 a137) fun a138=>.opt (vB yA 28 0 a138) fun a139=>.light (fun m=>mA yA 5 ⟨0,m⟩ a139) fun a140=>.asI .u8 a140 fun n141=>.opt (oB v10) fun a142=>.opt (vB yA 31 2 a142) fun a143=>.opt (vB yA 28 0 a143) fun a144=>.heavy (sC yA 5 a144 (.int .u8 (tA .u8 (n141+7)))) fun _=>
 .jump 61 [v9])
 (.ite (uB (Int.tmod v2 6) 4)
 (.opt (oB v10) fun a145=>.opt (vB yA 31 0 a145) fun a146=>.light (fun m=>mA yA 5 ⟨0,m⟩ a146) fun a147=>.asI .u8 a147 fun n148=>.opt (oB v10) fun a149=>.opt (vB yA 31 0 a149) fun a150=>.heavy (sC yA 5 a150 (.int .u8 (tA .u8 (n148+26)))) fun _=>
 .jump 61 [v9])
 (.opt (oB v10) fun a151=>.opt (vB yA 31 2 a151) fun a152=>.opt (vB yA 28 2 a152) fun a153=>.light (fun m=>mA yA 3 ⟨0,m⟩ a153) fun a154=>.asI .i64 a154 fun n155=>.opt (oB v10) fun a156=>.opt (vB yA 31 2 a156) fun a157=>.opt (vB yA 28 2 a157) fun a158=>.heavy (sC yA 3 a158 (.int .i64 (tA .i64 (n155+4194304)))) fun _=>
 .jump 61 [v9]))))))
def j3_2(v1:zA)(v2:Int)(v9 v10:zA)(v11:Int)(h:wp 3 (t3_2 v1 v2 v9 v10 v11) m Q):jp 3 2 [v1,.int .u8 v2,v9,v10,.int .i64 v11] m Q:=nE ok3 h
def t3_39(v9 v10:zA):T:=
 .opt (oB v10) fun a0=>.opt (vB yA 31 3 a0) fun a1=>.light (fun m=>mA yA 29 ⟨0,m⟩ a1) fun a2=>.ite true (.opt (yC a2) fun a3=>.asI .i64 a3 fun n4=>.heavy (dG yA 29 1 [(0,(.agg [.int .u8 0,.str [],.int .u8 0,.bool false,.nilslice,.bool false,.nilslice,.int .i64 0,.nilslice]))]) fun a5=>
 .light (fun m=>mA yA 29 ⟨0,m⟩ a1) fun a6=>.ite (same 10 a6 a2) (.opt (yC a2) fun a7=>.ite (same 10 a7 (.int .i64 n4)) (.heavy (bE yA 29 29 a2 a5) fun a8=>
 .opt (zC yA 29 a8 (.int .i64 n4)) fun a9=>.opt (oB v10) fun xD=>.opt (vB yA 31 3 xD) fun tE=>.heavy (vM yA [.store 31 a9 (.agg [.int .u8 2,.str [],.int .u8 0,.bool false,.nilslice,.bool false,.nilslice,.int .i64 0,.nilslice]),.store 29 tE a8]) fun _=>
 .jump 61 [v9]) .fail) .fail) .fail
def j3_39(v9 v10:zA)(h:wp 3 (t3_39 v9 v10) m Q):jp 3 39 [v9,v10] m Q:=nE ok3 h
def t3_61(v9:zA):T:=
 .light (fun m=>mA yA 31 ⟨0,m⟩ v9) fun a0=>.asG zqq a0 fun X1=>
 .call 8 [(.agg [.int .u8 (X1.i 0),.str (X1.s 1),.int .u8 (X1.i 2),.bool (X1.b 3),X1.v 4,.bool (X1.b 5),X1.v 6,.int .i64 (X1.i 7),X1.v 8])] fun a2=>
 .opt (zD 0 a2) fun a3=>.asS a3 fun s4=>.opt (zD 1 a2) fun a5=>.asI .i64 a5 fun n6=>.light (fun m=>mA yA 31 ⟨0,m⟩ v9) fun a7=>.asG zqq a7 fun X8=>
 .light (fun m=>mA yA 31 ⟨0,m⟩ v9) fun a9=>.asG zqq a9 fun X10=>
 .ite true (.heavy (dG yA 42 1 [(0,(.agg [.str [97],.str [98],.int .i64 0,.int .i64 1,.int .i64 0,.bool false,.int .u8 (X8.i 0),.str (X8.s 1),.int .u8 (X8.i 2),.bool (X8.b 3),X8.v 4,.bool (X8.b 5),X8.v 6,.int .i64 (X8.i 7),X8.v 8,.int .u8 (X10.i 0),.str (X10.s 1),.int .u8 (X10.i 2),.bool (X10.b 3),X10.v 4,.bool (X10.b 5),X10.v 6,.int .i64 (X10.i 7),X10.v 8]))]) fun tE=>
 .ite (tC zA.one [.str [112],tE]) (.ite (tC zA.one [.str [112],.nilslice,.nilslice,tE]) (.call 10 [.agg [.str [112],.nilslice,.nilslice,tE]] fun a12=>
 .opt (zD 0 a12) fun a13=>.asS a13 fun s14=>.opt (zD 1 a12) fun a15=>.asI .i64 a15 fun n16=>.ite (xG s4 [])
 (.ite (uB n6 2)
 (.ite (xG s14 [])
 (.ite (uB n16 2)
 (.call 11 [.agg [.str [112],.nilslice,.nilslice,tE]] fun a17=>
 .asB a17 fun b18=>.ret (.bool (!b18)))
 (.ret (.bool false)))
 (.ret (.bool false)))
 (.ret (.bool false)))
 (.ret (.bool false))) .fail) .fail) .fail
def j3_61(v9:zA)(h:wp 3 (t3_61 v9) m Q):jp 3 61 [v9] m Q:=nE ok3 h
def t7 (A0:Int)(A1:List Nat)(A2:Int)(A3:Bool)(A4:zA)(A5:Bool)(A6:zA)(A7:Int)(A8:zA)(p1:Int):T:=
 .call 16 [.agg [.bool A3,A4,.bool A5,A6]] fun a0=>
 .asI .i64 a0 fun n1=>.ite (same 10 (.str A1) (.str A1)) (.ite (same 10 (.int .i64 (Int.ofNat (aA A1))) (.int .i64 (Int.ofNat (aA A1)))) (.jump 2 [.int .i64 p1,(.int .i64 (tA .i64 (n1+(tA .i64 (Int.tdiv (Int.ofNat (aA A1)) 30))))),.int .i64 0,.int .u8 A0,.str A1,.int .u8 A2,.bool A3,A4,.bool A5,A6,.int .i64 A7,A8]) .fail) .fail
def w7(A0:Int)(A1:List Nat)(A2:Int)(A3:Bool)(A4:zA)(A5:Bool)(A6:zA)(A7:Int)(A8:zA)(p1:Int)(h:wp 7 (t7 A0 A1 A2 A3 A4 A5 A6 A7 A8 p1) m Q):Wf 7 [.agg [.int .u8 A0,.str A1,.int .u8 A2,.bool A3,A4,.bool A5,A6,.int .i64 A7,A8],.int .i64 p1] m Q:=aB ok7 h
def t7_2 (v1 v5 v6 A0:Int)(A1:List Nat)(A2:Int)(A3:Bool)(A4:zA)(A5:Bool)(A6:zA)(A7:Int)(A8:zA):T:=
 .opt (yC A8) fun a0=>.asI .i64 a0 fun n1=>.ite (vC v6 n1)
 (.ite (sD v5 v1)
 (.opt (zC yA 29 A8 (.int .i64 v6)) fun a2=>.light (fun m=>mA yA 31 ⟨0,m⟩ a2) fun a3=>.asG zqq a3 fun X4=>
 .call 7 [(.agg [.int .u8 (X4.i 0),.str (X4.s 1),.int .u8 (X4.i 2),.bool (X4.b 3),X4.v 4,.bool (X4.b 5),X4.v 6,.int .i64 (X4.i 7),X4.v 8]),(.int .i64 (tA .i64 (v1-v5)))] fun a5=>
 .asI .i64 a5 fun n6=>.jump 2 [.int .i64 v1,(.int .i64 (tA .i64 (v5+n6))),(.int .i64 (tA .i64 (v6+1))),.int .u8 A0,.str A1,.int .u8 A2,.bool A3,A4,.bool A5,A6,.int .i64 A7,A8])
 (.ret (.int .i64 v5)))
 (.ret (.int .i64 v5))
def j7_2(v1 v5 v6 A0:Int)(A1:List Nat)(A2:Int)(A3:Bool)(A4:zA)(A5:Bool)(A6:zA)(A7:Int)(A8:zA)(h:wp 7 (t7_2 v1 v5 v6 A0 A1 A2 A3 A4 A5 A6 A7 A8) m Q):jp 7 2 [.int .i64 v1,.int .i64 v5,.int .i64 v6,.int .u8 A0,.str A1,.int .u8 A2,.bool A3,A4,.bool A5,A6,.int .i64 A7,A8] m Q:=nE ok7 h
def t8 (A0:Int)(A1:List Nat)(A2:Int)(A3:Bool)(A4:zA)(A5:Bool)(A6:zA)(A7:Int)(A8:zA):T:=
 .call 17 [] fun a0=>
 .asG [.nilptr] a0 fun X1=>
 .ite (same 10 (.agg [.int .u8 A0,.str A1,.int .u8 A2,.bool A3,A4,.bool A5,A6,.int .i64 A7,A8]) (.agg [.int .u8 A0,.str A1,.int .u8 A2,.bool A3,A4,.bool A5,A6,.int .i64 A7,A8])) (.call 18 [(.agg [X1.v 0]),.agg [.int .u8 A0,.str A1,.int .u8 A2,.bool A3,A4,.bool A5,A6,.int .i64 A7,A8],.int .i64 1] fun a2=>
 .asB a2 fun b3=>.ite (!b3)
 (.ret (.tup [.str [],.int .i64 2]))
 (.call 19 [.agg [.int .u8 A0,.str A1,.int .u8 A2,.bool A3,A4,.bool A5,A6,.int .i64 A7,A8]] fun a4=>
 .asS a4 fun s5=>.ite (vC 65536 (Int.ofNat (aA s5)))
 (.ret (.tup [.str [],.int .i64 3]))
 (.ret (.tup [.str s5,.int .i64 0])))) .fail
def w8(A0:Int)(A1:List Nat)(A2:Int)(A3:Bool)(A4:zA)(A5:Bool)(A6:zA)(A7:Int)(A8:zA)(h:wp 8 (t8 A0 A1 A2 A3 A4 A5 A6 A7 A8) m Q):Wf 8 [.agg [.int .u8 A0,.str A1,.int .u8 A2,.bool A3,A4,.bool A5,A6,.int .i64 A7,A8]] m Q:=aB ok8 h
def t9 (A0:Int)(A1:List Nat)(A2:Int)(A3:Bool)(A4:zA)(A5:Bool)(A6:zA)(A7:Int)(A8:zA):T:=
 .call 20 [.agg [.int .u8 A2,.bool A3,A4,.bool A5,A6,.int .i64 A7]] fun a0=>
 .asG [.int .u8 0,.bool false,.nilslice,.bool false,.nilslice,.int .i64 0] a0 fun X1=>
 .ite (tC zA.one [.int .u8 (X1.i 0),.bool (X1.b 1),X1.v 2,.bool (X1.b 3),X1.v 4,.int .i64 (X1.i 5)]) (.call 21 [A8] fun a2=>
 .ite (tC zA.one [a2]) (.ite (tC zA.one [.int .u8 A0,.str A1,.int .u8 (X1.i 0),.bool (X1.b 1),X1.v 2,.bool (X1.b 3),X1.v 4,.int .i64 (X1.i 5),a2]) (.ret (.agg [.int .u8 A0,.str A1,.int .u8 (X1.i 0),.bool (X1.b 1),X1.v 2,.bool (X1.b 3),X1.v 4,.int .i64 (X1.i 5),a2])) .fail) .fail) .fail
def w9(A0:Int)(A1:List Nat)(A2:Int)(A3:Bool)(A4:zA)(A5:Bool)(A6:zA)(A7:Int)(A8:zA)(h:wp 9 (t9 A0 A1 A2 A3 A4 A5 A6 A7 A8) m Q):Wf 9 [.agg [.int .u8 A0,.str A1,.int .u8 A2,.bool A3,A4,.bool A5,A6,.int .i64 A7,A8]] m Q:=aB ok9 h
def t10 (A0:List Nat)(A1 A2 A3:zA):T:=
 .heavy (uM yA 9) fun a0=>
 .heavy (uM yA 35) fun a1=>
 .call 11 [.agg [.str A0,A1,A2,A3]] fun a2=>
 .asB a2 fun b3=>.ite (!b3)
 (.heavy (sC yA 9 a0 (.str [])) fun _=>
 .heavy (sC yA 35 a1 (.int .i64 2)) fun _=>
 .light (fun m=>mA yA 9 ⟨0,m⟩ a0) fun a4=>.light (fun m=>mA yA 35 ⟨0,m⟩ a1) fun a5=>.ret (.tup [a4,a5]))
 (.heavy (zcc yA 77) fun a6=>
 .call 22 [.agg [.str A0,A1,A2,A3]] fun a7=>
 .range (npC yA) a7 2 1 [a0,a1,a6]
 (.call 25 [a6] fun a8=>
 .asS a8 fun s9=>.heavy (sC yA 9 a0 (.str s9)) fun _=>
 .heavy (sC yA 35 a1 (.int .i64 0)) fun _=>
 .light (fun m=>mA yA 9 ⟨0,m⟩ a0) fun xD=>.light (fun m=>mA yA 35 ⟨0,m⟩ a1) fun tE=>.ret (.tup [xD,tE]))
 (.light (fun m=>mA yA 9 ⟨0,m⟩ a0) fun a12=>.light (fun m=>mA yA 35 ⟨0,m⟩ a1) fun a13=>.ret (.tup [a12,a13])))
def w10(A0:List Nat)(A1 A2 A3:zA)(h:wp 10 (t10 A0 A1 A2 A3) m Q):Wf 10 [.agg [.str A0,A1,A2,A3]] m Q:=aB ok10 h
def t11 (A0:List Nat)(A1 A2 A3:zA):T:=
 .call 17 [] fun a0=>
 .asG [.nilptr] a0 fun X1=>
 .ite (same 10 (.agg [.str A0,A1,A2,A3]) (.agg [.str A0,A1,A2,A3])) (.call 26 [(.agg [X1.v 0]),.agg [.str A0,A1,A2,A3]] fun a2=>
 .asB a2 fun b3=>.ret (.bool b3)) .fail
def w11(A0:List Nat)(A1 A2 A3:zA)(h:wp 11 (t11 A0 A1 A2 A3) m Q):Wf 11 [.agg [.str A0,A1,A2,A3]] m Q:=aB ok11 h
def t16 (A0:Bool)(A1:zA)(A2:Bool)(A3:zA):T:=
 .opt (yC A1) fun a0=>.asI .i64 a0 fun n1=>.opt (yC A3) fun a2=>.asI .i64 a2 fun n3=>.ret (.int .i64 (tA .i64 ((tA .i64 (1+n1))+n3)))
def w16(A0:Bool)(A1:zA)(A2:Bool)(A3:zA)(h:wp 16 (t16 A0 A1 A2 A3) m Q):Wf 16 [.agg [.bool A0,A1,.bool A2,A3]] m Q:=aB ok16 h
def t17  : T:=
 .call 37 [] fun a0=>
 .ite (tC zA.one [a0]) (.ite (tC zA.one [a0]) (.ret (.agg [a0])) .fail) .fail
def w17 (h:wp 17 (t17 ) m Q):Wf 17 [] m Q:=aB ok17 h
def t18 (A0:zA)(A1:Int)(A2:List Nat)(A3:Int)(A4:Bool)(A5:zA)(A6:Bool)(A7:zA)(A8:Int)(A9:zA)(p2:Int):T:=
 .ite (vC 24 p2)
 (.ret (.bool false))
 (.ite (sD 27 (tA .i64 A1))
 (.ret (.bool false))
 (.opt (oB A0) fun a0=>.opt (zC yA 147 a0 (.int .u8 A1)) fun a1=>.opt (oB a1) fun a2=>.opt (vB yA 106 0 a2) fun a3=>.light (fun m=>mA yA 5 ⟨0,m⟩ a3) fun a4=>.asI .u8 a4 fun n5=>.ite (uB n5 0)
 (.ret (.bool false))
 (.opt (yC A9) fun a6=>.asI .i64 a6 fun n7=>.opt (oB a1) fun a8=>.opt (vB yA 106 3 a8) fun a9=>.light (fun m=>mA yA 3 ⟨0,m⟩ a9) fun xD=>.asI .i64 xD fun n11=>.ite (vC n7 n11)
 (.ret (.bool false))
 (.opt (yC A9) fun a12=>.asI .i64 a12 fun n13=>.opt (oB a1) fun a14=>.opt (vB yA 106 4 a14) fun a15=>.light (fun m=>mA yA 3 ⟨0,m⟩ a15) fun a16=>.asI .i64 a16 fun n17=>.ite (vC n17 n13)
 (.ret (.bool false))
 (.opt (oB a1) fun a18=>.opt (vB yA 106 2 a18) fun a19=>.light (fun m=>mA yA 4 ⟨0,m⟩ a19) fun a20=>.asB a20 fun b21=>.ite b21
 (.call 38 [.str A2] fun a22=>
 .asB a22 fun b23=>.ite (!b23)
 (.ret (.bool false))
 (.opt (oB a1) fun a24=>.opt (vB yA 106 2 a24) fun a25=>.light (fun m=>mA yA 4 ⟨0,m⟩ a25) fun a26=>.asB a26 fun b27=>.ite (!b27)
 (.ite (!xG A2 [])
 (.ret (.bool false))
 (.ite (tC zA.one [.int .u8 A3,.bool A4,A5,.bool A6,A7,.int .i64 A8]) (.ite (uB A1 1)
 (.call 27 [.agg [.int .u8 A3,.bool A4,A5,.bool A6,A7,.int .i64 A8]] fun a28=>
 .asB a28 fun b29=>.ret (.bool b29))
 (.ite (uB A1 19)
 (.ite (vC A8 1)
 (.ret (.bool false))
 (.ite (vC 6 A8)
 (.ret (.bool false))
 (.ite true (.jump 33 [.int .i64 p2,A0,.int .u8 A1,.str A2,.int .u8 A3,.bool A4,A5,.bool A6,A7,.int .i64 A8,A9,.int .u8 A3,.bool A4,A5,.bool A6,A7,.int .i64 0]) .fail)))
 (.jump 33 [.int .i64 p2,A0,.int .u8 A1,.str A2,.int .u8 A3,.bool A4,A5,.bool A6,A7,.int .i64 A8,A9,.int .u8 A3,.bool A4,A5,.bool A6,A7,.int .i64 A8]))) .fail))
 (.ite (tC zA.one [.int .u8 A3,.bool A4,A5,.bool A6,A7,.int .i64 A8]) (.ite (uB A1 1)
 (.call 27 [.agg [.int .u8 A3,.bool A4,A5,.bool A6,A7,.int .i64 A8]] fun a30=>
 .asB a30 fun b31=>.ret (.bool b31))
 (.ite (uB A1 19)
 (.ite (vC A8 1)
 (.ret (.bool false))
 (.ite (vC 6 A8)
 (.ret (.bool false))
 (.ite true (.jump 33 [.int .i64 p2,A0,.int .u8 A1,.str A2,.int .u8 A3,.bool A4,A5,.bool A6,A7,.int .i64 A8,A9,.int .u8 A3,.bool A4,A5,.bool A6,A7,.int .i64 0]) .fail)))
 (.jump 33 [.int .i64 p2,A0,.int .u8 A1,.str A2,.int .u8 A3,.bool A4,A5,.bool A6,A7,.int .i64 A8,A9,.int .u8 A3,.bool A4,A5,.bool A6,A7,.int .i64 A8]))) .fail)))
 (.opt (oB a1) fun a32=>.opt (vB yA 106 2 a32) fun a33=>.light (fun m=>mA yA 4 ⟨0,m⟩ a33) fun a34=>.asB a34 fun b35=>.ite (!b35)
 (.ite (!xG A2 [])
 (.ret (.bool false))
 (.ite (tC zA.one [.int .u8 A3,.bool A4,A5,.bool A6,A7,.int .i64 A8]) (.ite (uB A1 1)
 (.call 27 [.agg [.int .u8 A3,.bool A4,A5,.bool A6,A7,.int .i64 A8]] fun a36=>
 .asB a36 fun b37=>.ret (.bool b37))
 (.ite (uB A1 19)
 (.ite (vC A8 1)
 (.ret (.bool false))
 (.ite (vC 6 A8)
 (.ret (.bool false))
 (.ite true (.jump 33 [.int .i64 p2,A0,.int .u8 A1,.str A2,.int .u8 A3,.bool A4,A5,.bool A6,A7,.int .i64 A8,A9,.int .u8 A3,.bool A4,A5,.bool A6,A7,.int .i64 0]) .fail)))
 (.jump 33 [.int .i64 p2,A0,.int .u8 A1,.str A2,.int .u8 A3,.bool A4,A5,.bool A6,A7,.int .i64 A8,A9,.int .u8 A3,.bool A4,A5,.bool A6,A7,.int .i64 A8]))) .fail))
 (.ite (tC zA.one [.int .u8 A3,.bool A4,A5,.bool A6,A7,.int .i64 A8]) (.ite (uB A1 1)
 (.call 27 [.agg [.int .u8 A3,.bool A4,A5,.bool A6,A7,.int .i64 A8]] fun a38=>
 .asB a38 fun b39=>.ret (.bool b39))
 (.ite (uB A1 19)
 (.ite (vC A8 1)
 (.ret (.bool false))
 (.ite (vC 6 A8)
 (.ret (.bool false))
 (.ite true (.jump 33 [.int .i64 p2,A0,.int .u8 A1,.str A2,.int .u8 A3,.bool A4,A5,.bool A6,A7,.int .i64 A8,A9,.int .u8 A3,.bool A4,A5,.bool A6,A7,.int .i64 0]) .fail)))
 (.jump 33 [.int .i64 p2,A0,.int .u8 A1,.str A2,.int .u8 A3,.bool A4,A5,.bool A6,A7,.int .i64 A8,A9,.int .u8 A3,.bool A4,A5,.bool A6,A7,.int .i64 A8]))) .fail)))))))
def w18(A0:zA)(A1:Int)(A2:List Nat)(A3:Int)(A4:Bool)(A5:zA)(A6:Bool)(A7:zA)(A8:Int)(A9:zA)(p2:Int)(h:wp 18 (t18 A0 A1 A2 A3 A4 A5 A6 A7 A8 A9 p2) m Q):Wf 18 [.agg [A0],.agg [.int .u8 A1,.str A2,.int .u8 A3,.bool A4,A5,.bool A6,A7,.int .i64 A8,A9],.int .i64 p2] m Q:=aB ok18 h
def z3o(v2:Int)(A0:zA)(A1:Int)(A2:List Nat)(A3:Int)(A4:Bool)(A5:zA)(A6:Bool)(A7:zA)(A8:Int)(A9:zA)(B0:Int)(B1:Bool)(B2:zA)(B3:Bool)(B4:zA)(B5:Int):T:=
 .call 39 [.agg [.int .u8 B0,.bool B1,B2,.bool B3,B4,.int .i64 B5]] fun a0=>
 .asB a0 fun b1=>.ite (!b1)
 (.ret (.bool false))
 (.opt (yC A9) fun a2=>.asI .i64 a2 fun n3=>.jump 4 [.int .i64 v2,A9,.int .i64 n3,.int .i64 0,A0])
def j18_33(v2:Int)(A0:zA)(A1:Int)(A2:List Nat)(A3:Int)(A4:Bool)(A5:zA)(A6:Bool)(A7:zA)(A8:Int)(A9:zA)(B0:Int)(B1:Bool)(B2:zA)(B3:Bool)(B4:zA)(B5:Int)(h:wp 18 (z3o v2 A0 A1 A2 A3 A4 A5 A6 A7 A8 A9 B0 B1 B2 B3 B4 B5) m Q):jp 18 33 [.int .i64 v2,A0,.int .u8 A1,.str A2,.int .u8 A3,.bool A4,A5,.bool A6,A7,.int .i64 A8,A9,.int .u8 B0,.bool B1,B2,.bool B3,B4,.int .i64 B5] m Q:=nE ok18 h
def z5f(v2:Int)(v95:zA)(v96 v97:Int)(A0:zA):T:=
 .ite (vC v97 v96)
 (.opt (zC yA 29 v95 (.int .i64 v97)) fun a0=>.light (fun m=>mA yA 31 ⟨0,m⟩ a0) fun a1=>.asG zqq a1 fun X2=>
 .ite (tC zA.one [.int .u8 (X2.i 0),.str (X2.s 1),.int .u8 (X2.i 2),.bool (X2.b 3),X2.v 4,.bool (X2.b 5),X2.v 6,.int .i64 (X2.i 7),X2.v 8]) (.call 18 [.agg [A0],(.agg [.int .u8 (X2.i 0),.str (X2.s 1),.int .u8 (X2.i 2),.bool (X2.b 3),X2.v 4,.bool (X2.b 5),X2.v 6,.int .i64 (X2.i 7),X2.v 8]),(.int .i64 (tA .i64 (v2+1)))] fun a3=>
 .asB a3 fun b4=>.ite (!b4)
 (.ret (.bool false))
 (.jump 4 [.int .i64 v2,v95,.int .i64 v96,(.int .i64 (tA .i64 (v97+1))),A0])) .fail)
 (.ret (.bool true))
def j18_4(v2:Int)(v95:zA)(v96 v97:Int)(A0:zA)(h:wp 18 (z5f v2 v95 v96 v97 A0) m Q):jp 18 4 [.int .i64 v2,v95,.int .i64 v96,.int .i64 v97,A0] m Q:=nE ok18 h
def t19 (A0:Int)(A1:List Nat)(A2:Int)(A3:Bool)(A4:zA)(A5:Bool)(A6:zA)(A7:Int)(A8:zA):T:=
 .call 37 [] fun a0=>
 .ite (tC zA.one [a0]) (.heavy (zqz yA 110 (.agg [.nilptr,.nilslice,a0])) fun a1=>
 .call 40 [a1,.agg [.int .u8 A0,.str A1,.int .u8 A2,.bool A3,A4,.bool A5,A6,.int .i64 A7,A8]] fun a2=>
 .opt (oB a1) fun a3=>.opt (vB yA 110 0 a3) fun a4=>.call 25 [a4] fun a5=>
 .asS a5 fun s6=>.ret (.str s6)) .fail
def w19(A0:Int)(A1:List Nat)(A2:Int)(A3:Bool)(A4:zA)(A5:Bool)(A6:zA)(A7:Int)(A8:zA)(h:wp 19 (t19 A0 A1 A2 A3 A4 A5 A6 A7 A8) m Q):Wf 19 [.agg [.int .u8 A0,.str A1,.int .u8 A2,.bool A3,A4,.bool A5,A6,.int .i64 A7,A8]] m Q:=aB ok19 h
def t20 (A0:Int)(A1:Bool)(A2:zA)(A3:Bool)(A4:zA)(A5:Int):T:=
 .call 41 [.agg [.bool A1,A2,.bool A3,A4]] fun a0=>
 .asG [.bool false,.nilslice,.bool false,.nilslice] a0 fun X1=>
 .ite (tC zA.one [.bool (X1.b 0),X1.v 1,.bool (X1.b 2),X1.v 3]) (.ite (tC zA.one [.int .u8 A0,.bool (X1.b 0),X1.v 1,.bool (X1.b 2),X1.v 3,.int .i64 A5]) (.ret (.agg [.int .u8 A0,.bool (X1.b 0),X1.v 1,.bool (X1.b 2),X1.v 3,.int .i64 A5])) .fail) .fail
def w20(A0:Int)(A1:Bool)(A2:zA)(A3:Bool)(A4:zA)(A5:Int)(h:wp 20 (t20 A0 A1 A2 A3 A4 A5) m Q):Wf 20 [.agg [.int .u8 A0,.bool A1,A2,.bool A3,A4,.int .i64 A5]] m Q:=aB ok20 h
def t21 (p0:zA):T:=
 .jump 2 [p0,.nilslice,.int .i64 0]
def w21(p0:zA)(h:wp 21 (t21 p0) m Q):Wf 21 [p0] m Q:=aB ok21 h
def t21_2(v0 v3:zA)(v4:Int):T:=
 .opt (yC v0) fun a0=>.asI .i64 a0 fun n1=>.ite (vC v4 n1)
 (.opt (zC yA 29 v0 (.int .i64 v4)) fun a2=>.light (fun m=>mA yA 31 ⟨0,m⟩ a2) fun a3=>.asG zqq a3 fun X4=>
 .call 9 [(.agg [.int .u8 (X4.i 0),.str (X4.s 1),.int .u8 (X4.i 2),.bool (X4.b 3),X4.v 4,.bool (X4.b 5),X4.v 6,.int .i64 (X4.i 7),X4.v 8])] fun a5=>
 .asG zqq a5 fun X6=>
 .ite (tC zA.one [.int .u8 (X6.i 0),.str (X6.s 1),.int .u8 (X6.i 2),.bool (X6.b 3),X6.v 4,.bool (X6.b 5),X6.v 6,.int .i64 (X6.i 7),X6.v 8]) (.heavy (dG yA 29 1 [(0,(.agg [.int .u8 (X6.i 0),.str (X6.s 1),.int .u8 (X6.i 2),.bool (X6.b 3),X6.v 4,.bool (X6.b 5),X6.v 6,.int .i64 (X6.i 7),X6.v 8]))]) fun a7=>
 .heavy (bE yA 29 29 v3 a7) fun a8=>
 .jump 2 [v0,a8,(.int .i64 (tA .i64 (v4+1)))]) .fail)
 (.ret v3)
def j21_2(v0 v3:zA)(v4:Int)(h:wp 21 (t21_2 v0 v3 v4) m Q):jp 21 2 [v0,v3,.int .i64 v4] m Q:=nE ok21 h
def t23 (p0:zA)(p1:List Nat):T:=
 .call 46 [p0] fun a0=>
 .opt (oB p0) fun a1=>.opt (vB yA 77 1 a1) fun a2=>.light (fun m=>mA yA 32 ⟨0,m⟩ a2) fun a3=>.heavy (bE yA 32 9 a3 (.str p1)) fun a4=>
 .opt (oB p0) fun a5=>.opt (vB yA 77 1 a5) fun a6=>.heavy (sC yA 32 a6 a4) fun _=>
 .ret (.tup [(.int .i64 (Int.ofNat (aA p1))),.niliface])
def w23(p0:zA)(p1:List Nat)(h:wp 23 (t23 p0 p1) m Q):Wf 23 [p0,.str p1] m Q:=aB ok23 h
def t24 (p0:zA):T:=
 .opt (oB p0) fun a0=>.opt (vB yA 77 1 a0) fun a1=>.light (fun m=>mA yA 32 ⟨0,m⟩ a1) fun a2=>.opt (yC a2) fun a3=>.asI .i64 a3 fun n4=>.ret (.int .i64 n4)
def w24(p0:zA)(h:wp 24 (t24 p0) m Q):Wf 24 [p0] m Q:=aB ok24 h
def t26 (A0:zA)(A1:List Nat)(A2 A3 A4:zA):T:=
 .call 38 [.str A1] fun a0=>
 .asB a0 fun b1=>.ite b1
 (.call 48 [A2,(.func (.func 47) [] [])] fun a2=>
 .asB a2 fun b3=>.ite b3
 (.call 49 [A3,(.func (.func 50) [] [])] fun a4=>
 .asB a4 fun b5=>.ite b5
 (.call 51 [A4,(.func (.func 52) [.agg [A0]] [])] fun a6=>
 .asB a6 fun b7=>.ret (.bool b7))
 (.ret (.bool false)))
 (.ret (.bool false)))
 (.ret (.bool false))
def w26(A0:zA)(A1:List Nat)(A2 A3 A4:zA)(h:wp 26 (t26 A0 A1 A2 A3 A4) m Q):Wf 26 [.agg [A0],.agg [.str A1,A2,A3,A4]] m Q:=aB ok26 h
def t27 (A0:Int)(A1:Bool)(A2:zA)(A3:Bool)(A4:zA)(A5:Int):T:=
 .ite (uB A0 2)
 (.ite (uB A0 2)
 (.ite (uB A5 0)
 (.call 53 [.agg [.bool A1,A2,.bool A3,A4]] fun a0=>
 .asB a0 fun b1=>.ret (.bool b1))
 (.ret (.bool false)))
 (.ite (uB A0 1)
 (.call 54 [.agg [.bool A1,A2,.bool A3,A4]] fun a2=>
 .asB a2 fun b3=>.ite b3
 (.ite (uB A5 0)
 (.ret (.bool true))
 (.ret (.bool (uB A5 1))))
 (.ret (.bool false)))
 (.ite (uB A0 4)
 (.call 54 [.agg [.bool A1,A2,.bool A3,A4]] fun a4=>
 .asB a4 fun b5=>.ite b5
 (.call 55 [.int .i64 A5] fun a6=>
 .asB a6 fun b7=>.ret (.bool b7))
 (.ret (.bool false)))
 (.ite (uB A0 5)
 (.ite (uB A0 5)
 (.call 54 [.agg [.bool A1,A2,.bool A3,A4]] fun a8=>
 .asB a8 fun b9=>.ite b9
 (.ite (sD (-1048576) A5)
 (.ret (.bool (sD A5 1048576)))
 (.ret (.bool false)))
 (.ret (.bool false)))
 (.ret (.bool false)))
 (.ite (uB A0 6)
 (.call 54 [.agg [.bool A1,A2,.bool A3,A4]] fun xD=>
 .asB xD fun b11=>.ite b11
 (.ite (sD (-1048576) A5)
 (.ret (.bool (sD A5 1048576)))
 (.ret (.bool false)))
 (.ret (.bool false)))
 (.ret (.bool false)))))))
 (.ite (uB A0 3)
 (.ite (uB A5 0)
 (.call 53 [.agg [.bool A1,A2,.bool A3,A4]] fun a12=>
 .asB a12 fun b13=>.ret (.bool b13))
 (.ret (.bool false)))
 (.ite (uB A0 1)
 (.call 54 [.agg [.bool A1,A2,.bool A3,A4]] fun a14=>
 .asB a14 fun b15=>.ite b15
 (.ite (uB A5 0)
 (.ret (.bool true))
 (.ret (.bool (uB A5 1))))
 (.ret (.bool false)))
 (.ite (uB A0 4)
 (.call 54 [.agg [.bool A1,A2,.bool A3,A4]] fun a16=>
 .asB a16 fun b17=>.ite b17
 (.call 55 [.int .i64 A5] fun a18=>
 .asB a18 fun b19=>.ret (.bool b19))
 (.ret (.bool false)))
 (.ite (uB A0 5)
 (.ite (uB A0 5)
 (.call 54 [.agg [.bool A1,A2,.bool A3,A4]] fun a20=>
 .asB a20 fun b21=>.ite b21
 (.ite (sD (-1048576) A5)
 (.ret (.bool (sD A5 1048576)))
 (.ret (.bool false)))
 (.ret (.bool false)))
 (.ret (.bool false)))
 (.ite (uB A0 6)
 (.call 54 [.agg [.bool A1,A2,.bool A3,A4]] fun a22=>
 .asB a22 fun b23=>.ite b23
 (.ite (sD (-1048576) A5)
 (.ret (.bool (sD A5 1048576)))
 (.ret (.bool false)))
 (.ret (.bool false)))
 (.ret (.bool false)))))))
def w27(A0:Int)(A1:Bool)(A2:zA)(A3:Bool)(A4:zA)(A5:Int)(h:wp 27 (t27 A0 A1 A2 A3 A4 A5) m Q):Wf 27 [.agg [.int .u8 A0,.bool A1,A2,.bool A3,A4,.int .i64 A5]] m Q:=aB ok27 h
def t28 (A0:Int)(A1:Bool)(A2:zA)(A3:Bool)(A4:zA)(A5:Int):T:=
 .ite (uB A0 1)
 (.call 56 [(.bool (uB A5 1))] fun a0=>
 .asS a0 fun s1=>.ret (.str s1))
 (.ite (uB A0 2)
 (.call 57 [.agg [.bool A1,A2,.bool A3,A4]] fun a2=>
 .asS a2 fun s3=>.ret (.str s3))
 (.ite (uB A0 3)
 (.call 57 [.agg [.bool A1,A2,.bool A3,A4]] fun a4=>
 .asS a4 fun s5=>.opt (zI [109,111,110,101,121,32] s5) fun a6=>.asS a6 fun s7=>.ret (.str s7))
 (.ite (uB A0 4)
 (.call 58 [.int .i64 A5] fun a8=>
 .asS a8 fun s9=>.ret (.str s9))
 (.ite (uB A0 5)
 (.call 59 [.int .i64 A5] fun xD=>
 .asS xD fun s11=>.opt (zI s11 [32,100,97,121,115]) fun a12=>.asS a12 fun s13=>.ret (.str s13))
 (.ite (uB A0 6)
 (.call 59 [.int .i64 A5] fun a14=>
 .asS a14 fun s15=>.opt (zI s15 [32,109,111,110,116,104,115]) fun a16=>.asS a16 fun s17=>.ret (.str s17))
 (.ret (.str [])))))))
def w28(A0:Int)(A1:Bool)(A2:zA)(A3:Bool)(A4:zA)(A5:Int)(h:wp 28 (t28 A0 A1 A2 A3 A4 A5) m Q):Wf 28 [.agg [.int .u8 A0,.bool A1,A2,.bool A3,A4,.int .i64 A5]] m Q:=aB ok28 h
def t37  : T:=
 .ite true (.ite true (.callv (.func (.func 77) [] []) [.str [102,97,99,116,32]] fun a0=>
 .asG eH a0 fun X1=>
 .callv (.func (.func 77) [] []) [.str [104,97,115,32]] fun a2=>
 .asG eH a2 fun X3=>
 .callv (.func (.func 77) [] []) [.str []] fun a4=>
 .asG eH a4 fun X5=>
 .callv (.func (.func 76) [] []) [.str [108,111,111,107],.bool true,.int .i64 1,.int .i64 2] fun a6=>
 .asG eH a6 fun X7=>
 .callv (.func (.func 78) [] []) [.str [43],.int .i64 5,.int .i64 5,.int .i64 6] fun a8=>
 .asG eH a8 fun X9=>
 .callv (.func (.func 78) [] []) [.str [45],.int .i64 5,.int .i64 5,.int .i64 6] fun xD=>
 .asG eH xD fun X11=>
 .callv (.func (.func 78) [] []) [.str [42],.int .i64 6,.int .i64 6,.int .i64 7] fun a12=>
 .asG eH a12 fun X13=>
 .callv (.func (.func 78) [] []) [.str [47],.int .i64 6,.int .i64 6,.int .i64 7] fun a14=>
 .asG eH a14 fun X15=>
 .callv (.func (.func 76) [] []) [.str [109,105,110],.bool false,.int .i64 2,.int .i64 2] fun a16=>
 .asG eH a16 fun X17=>
 .callv (.func (.func 76) [] []) [.str [109,97,120],.bool false,.int .i64 2,.int .i64 2] fun a18=>
 .asG eH a18 fun X19=>
 .callv (.func (.func 78) [] []) [.str [60],.int .i64 4,.int .i64 5,.int .i64 5] fun a20=>
 .asG eH a20 fun X21=>
 .callv (.func (.func 78) [] []) [.str [61],.int .i64 4,.int .i64 5,.int .i64 5] fun a22=>
 .asG eH a22 fun X23=>
 .callv (.func (.func 78) [] []) [.str [97,110,100],.int .i64 2,.int .i64 2,.int .i64 3] fun a24=>
 .asG eH a24 fun X25=>
 .callv (.func (.func 78) [] []) [.str [111,114],.int .i64 1,.int .i64 1,.int .i64 2] fun a26=>
 .asG eH a26 fun X27=>
 .ite true (.callv (.func (.func 76) [] []) [.str [105,102],.bool false,.int .i64 3,.int .i64 3] fun a28=>
 .asG eH a28 fun X29=>
 .callv (.func (.func 76) [] []) [.str [114,111,117,110,100],.bool false,.int .i64 2,.int .i64 2] fun a30=>
 .asG eH a30 fun X31=>
 .callv (.func (.func 76) [] []) [.str [98,101,116,119,101,101,110],.bool false,.int .i64 2,.int .i64 2] fun a32=>
 .asG eH a32 fun X33=>
 .callv (.func (.func 76) [] []) [.str [115,101,114,118,105,99,101],.bool true,.int .i64 2,.int .i64 2] fun a34=>
 .asG eH a34 fun X35=>
 .callv (.func (.func 76) [] []) [.str [98,101,115,116],.bool true,.int .i64 3,.int .i64 3] fun a36=>
 .asG eH a36 fun X37=>
 .callv (.func (.func 76) [] []) [.str [103,114,111,119],.bool true,.int .i64 2,.int .i64 2] fun a38=>
 .asG eH a38 fun X39=>
 .callv (.func (.func 76) [] []) [.str [109,111,110,116,104,115],.bool false,.int .i64 1,.int .i64 1] fun a40=>
 .asG eH a40 fun X41=>
 .callv (.func (.func 76) [] []) [.str [110,117,109,98,101,114],.bool false,.int .i64 1,.int .i64 1] fun a42=>
 .asG eH a42 fun X43=>
 .callv (.func (.func 76) [] []) [.str [115,116,97,114,116],.bool false,.int .i64 1,.int .i64 1] fun a44=>
 .asG eH a44 fun X45=>
 .ite true (.heavy (zq0 (.agg [.int .u8 0,.str [],.bool false,.int .i64 0,.int .i64 0,.int .i64 0,.int .i64 0,.int .i64 0,.int .u8 1,.str [],.bool false,.int .i64 0,.int .i64 0,.int .i64 7,.int .i64 0,.int .i64 0,.int .u8 2,.str [116,111,100,97,121],.bool false,.int .i64 0,.int .i64 0,.int .i64 7,.int .i64 0,.int .i64 0,.int .u8 (X1.i 0),.str (X1.s 1),.bool (X1.b 2),.int .i64 (X1.i 3),.int .i64 (X1.i 4),.int .i64 (X1.i 5),.int .i64 (X1.i 6),.int .i64 (X1.i 7),.int .u8 (X3.i 0),.str (X3.s 1),.bool (X3.b 2),.int .i64 (X3.i 3),.int .i64 (X3.i 4),.int .i64 (X3.i 5),.int .i64 (X3.i 6),.int .i64 (X3.i 7),.int .u8 (X5.i 0),.str (X5.s 1),.bool (X5.b 2),.int .i64 (X5.i 3),.int .i64 (X5.i 4),.int .i64 (X5.i 5),.int .i64 (X5.i 6),.int .i64 (X5.i 7),.int .u8 (X7.i 0),.str (X7.s 1),.bool (X7.b 2),.int .i64 (X7.i 3),.int .i64 (X7.i 4),.int .i64 (X7.i 5),.int .i64 (X7.i 6),.int .i64 (X7.i 7),.int .u8 (X9.i 0),.str (X9.s 1),.bool (X9.b 2),.int .i64 (X9.i 3),.int .i64 (X9.i 4),.int .i64 (X9.i 5),.int .i64 (X9.i 6),.int .i64 (X9.i 7),.int .u8 (X11.i 0),.str (X11.s 1),.bool (X11.b 2),.int .i64 (X11.i 3),.int .i64 (X11.i 4),.int .i64 (X11.i 5),.int .i64 (X11.i 6),.int .i64 (X11.i 7),.int .u8 (X13.i 0),.str (X13.s 1),.bool (X13.b 2),.int .i64 (X13.i 3),.int .i64 (X13.i 4),.int .i64 (X13.i 5),.int .i64 (X13.i 6),.int .i64 (X13.i 7),.int .u8 (X15.i 0),.str (X15.s 1),.bool (X15.b 2),.int .i64 (X15.i 3),.int .i64 (X15.i 4),.int .i64 (X15.i 5),.int .i64 (X15.i 6),.int .i64 (X15.i 7),.int .u8 (X17.i 0),.str (X17.s 1),.bool (X17.b 2),.int .i64 (X17.i 3),.int .i64 (X17.i 4),.int .i64 (X17.i 5),.int .i64 (X17.i 6),.int .i64 (X17.i 7),.int .u8 (X19.i 0),.str (X19.s 1),.bool (X19.b 2),.int .i64 (X19.i 3),.int .i64 (X19.i 4),.int .i64 (X19.i 5),.int .i64 (X19.i 6),.int .i64 (X19.i 7),.int .u8 (X21.i 0),.str (X21.s 1),.bool (X21.b 2),.int .i64 (X21.i 3),.int .i64 (X21.i 4),.int .i64 (X21.i 5),.int .i64 (X21.i 6),.int .i64 (X21.i 7),.int .u8 (X23.i 0),.str (X23.s 1),.bool (X23.b 2),.int .i64 (X23.i 3),.int .i64 (X23.i 4),.int .i64 (X23.i 5),.int .i64 (X23.i 6),.int .i64 (X23.i 7),.int .u8 (X25.i 0),.str (X25.s 1),.bool (X25.b 2),.int .i64 (X25.i 3),.int .i64 (X25.i 4),.int .i64 (X25.i 5),.int .i64 (X25.i 6),.int .i64 (X25.i 7),.int .u8 (X27.i 0),.str (X27.s 1),.bool (X27.b 2),.int .i64 (X27.i 3),.int .i64 (X27.i 4),.int .i64 (X27.i 5),.int .i64 (X27.i 6),.int .i64 (X27.i 7),.int .u8 5,.str [110,111,116,32],.bool false,.int .i64 1,.int .i64 1,.int .i64 3,.int .i64 3,.int .i64 3,.int .u8 (X29.i 0),.str (X29.s 1),.bool (X29.b 2),.int .i64 (X29.i 3),.int .i64 (X29.i 4),.int .i64 (X29.i 5),.int .i64 (X29.i 6),.int .i64 (X29.i 7),.int .u8 (X31.i 0),.str (X31.s 1),.bool (X31.b 2),.int .i64 (X31.i 3),.int .i64 (X31.i 4),.int .i64 (X31.i 5),.int .i64 (X31.i 6),.int .i64 (X31.i 7),.int .u8 (X33.i 0),.str (X33.s 1),.bool (X33.b 2),.int .i64 (X33.i 3),.int .i64 (X33.i 4),.int .i64 (X33.i 5),.int .i64 (X33.i 6),.int .i64 (X33.i 7),.int .u8 (X35.i 0),.str (X35.s 1),.bool (X35.b 2),.int .i64 (X35.i 3),.int .i64 (X35.i 4),.int .i64 (X35.i 5),.int .i64 (X35.i 6),.int .i64 (X35.i 7),.int .u8 (X37.i 0),.str (X37.s 1),.bool (X37.b 2),.int .i64 (X37.i 3),.int .i64 (X37.i 4),.int .i64 (X37.i 5),.int .i64 (X37.i 6),.int .i64 (X37.i 7),.int .u8 (X39.i 0),.str (X39.s 1),.bool (X39.b 2),.int .i64 (X39.i 3),.int .i64 (X39.i 4),.int .i64 (X39.i 5),.int .i64 (X39.i 6),.int .i64 (X39.i 7),.int .u8 (X41.i 0),.str (X41.s 1),.bool (X41.b 2),.int .i64 (X41.i 3),.int .i64 (X41.i 4),.int .i64 (X41.i 5),.int .i64 (X41.i 6),.int .i64 (X41.i 7),.int .u8 (X43.i 0),.str (X43.s 1),.bool (X43.b 2),.int .i64 (X43.i 3),.int .i64 (X43.i 4),.int .i64 (X43.i 5),.int .i64 (X43.i 6),.int .i64 (X43.i 7),.int .u8 (X45.i 0),.str (X45.s 1),.bool (X45.b 2),.int .i64 (X45.i 3),.int .i64 (X45.i 4),.int .i64 (X45.i 5),.int .i64 (X45.i 6),.int .i64 (X45.i 7)])) fun a46=>
 .ret a46) .fail) .fail) .fail) .fail
def w37 (h:wp 37 (t37 ) m Q):Wf 37 [] m Q:=aB ok37 h
def t38 (p0:List Nat):T:=
 .ite (xG p0 [])
 (.ret (.bool false))
 (.ite (vC 24 (Int.ofNat (aA p0)))
 (.ret (.bool false))
 (.opt (xQ yA 9 (.str p0) (.int .i64 0)) fun a0=>.asI .u8 a0 fun n1=>.call 79 [.int .u8 n1] fun a2=>
 .asB a2 fun b3=>.ite (!b3)
 (.ret (.bool false))
 (.call 80 [.str p0,(.func (.func 81) [] [])] fun a4=>
 .asS a4 fun s5=>.ite (xG s5 p0)
 (.call 82 [.str p0] fun a6=>
 .asB a6 fun b7=>.ret (.bool (!b7)))
 (.ret (.bool false)))))
def w38(p0:List Nat)(h:wp 38 (t38 p0) m Q):Wf 38 [.str p0] m Q:=aB ok38 h
def t39 (A0:Int)(A1:Bool)(A2:zA)(A3:Bool)(A4:zA)(A5:Int):T:=
 .ite (uB A0 0)
 (.ite (uB A5 0)
 (.call 54 [.agg [.bool A1,A2,.bool A3,A4]] fun a0=>
 .asB a0 fun b1=>.ret (.bool b1))
 (.ret (.bool false)))
 (.ret (.bool false))
def w39(A0:Int)(A1:Bool)(A2:zA)(A3:Bool)(A4:zA)(A5:Int)(h:wp 39 (t39 A0 A1 A2 A3 A4 A5) m Q):Wf 39 [.agg [.int .u8 A0,.bool A1,A2,.bool A3,A4,.int .i64 A5]] m Q:=aB ok39 h
def t40 (p0:zA)(A0:Int)(A1:List Nat)(A2:Int)(A3:Bool)(A4:zA)(A5:Bool)(A6:zA)(A7:Int)(A8:zA):T:=
 .opt (oB p0) fun a0=>.opt (vB yA 110 0 a0) fun a1=>.call 24 [a1] fun a2=>
 .asI .i64 a2 fun n3=>.ite (vC 65536 n3)
 (.ret (.tup []))
 (.opt (oB p0) fun a4=>.opt (vB yA 110 1 a4) fun a5=>.light (fun m=>mA yA 67 ⟨0,m⟩ a5) fun a6=>.opt (oB a6) fun a7=>.opt (zC yA 147 a7 (.int .u8 A0)) fun a8=>.opt (oB a8) fun a9=>.opt (vB yA 106 0 a9) fun xD=>.light (fun m=>mA yA 5 ⟨0,m⟩ xD) fun tE=>.asI .u8 tE fun n12=>.ite (uB n12 1)
 (.opt (oB p0) fun a13=>.opt (vB yA 110 0 a13) fun a14=>.call 28 [.agg [.int .u8 A2,.bool A3,A4,.bool A5,A6,.int .i64 A7]] fun a15=>
 .asS a15 fun s16=>.call 23 [a14,.str s16] fun a17=>
 .ret (.tup []))
 (.ite (uB n12 2)
 (.opt (oB p0) fun a18=>.opt (vB yA 110 0 a18) fun a19=>.opt (oB a8) fun a20=>.opt (vB yA 106 1 a20) fun a21=>.light (fun m=>mA yA 9 ⟨0,m⟩ a21) fun a22=>.asS a22 fun s23=>.call 23 [a19,.str s23] fun a24=>
 .ret (.tup []))
 (.ite (uB n12 3)
 (.opt (oB p0) fun a25=>.opt (vB yA 110 0 a25) fun a26=>.opt (oB a8) fun a27=>.opt (vB yA 106 1 a27) fun a28=>.light (fun m=>mA yA 9 ⟨0,m⟩ a28) fun a29=>.asS a29 fun s30=>.opt (zI s30 A1) fun a31=>.asS a31 fun s32=>.opt (zI s32 [32,97,116,32]) fun a33=>.asS a33 fun s34=>.call 23 [a26,.str s34] fun a35=>
 .opt (zC yA 29 A8 (.int .i64 0)) fun a36=>.light (fun m=>mA yA 31 ⟨0,m⟩ a36) fun a37=>.asG zqq a37 fun X38=>
 .opt (oB a8) fun a39=>.opt (vB yA 106 6 a39) fun a40=>.light (fun m=>mA yA 3 ⟨0,m⟩ a40) fun a41=>.asI .i64 a41 fun n42=>.call 83 [p0,(.agg [.int .u8 (X38.i 0),.str (X38.s 1),.int .u8 (X38.i 2),.bool (X38.b 3),X38.v 4,.bool (X38.b 5),X38.v 6,.int .i64 (X38.i 7),X38.v 8]),.int .i64 n42] fun a43=>
 .ret (.tup []))
 (.ite (uB n12 4)
 (.opt (zC yA 29 A8 (.int .i64 0)) fun a44=>.light (fun m=>mA yA 31 ⟨0,m⟩ a44) fun a45=>.asG zqq a45 fun X46=>
 .opt (oB a8) fun a47=>.opt (vB yA 106 6 a47) fun a48=>.light (fun m=>mA yA 3 ⟨0,m⟩ a48) fun a49=>.asI .i64 a49 fun n50=>.call 83 [p0,(.agg [.int .u8 (X46.i 0),.str (X46.s 1),.int .u8 (X46.i 2),.bool (X46.b 3),X46.v 4,.bool (X46.b 5),X46.v 6,.int .i64 (X46.i 7),X46.v 8]),.int .i64 n50] fun a51=>
 .opt (oB p0) fun a52=>.opt (vB yA 110 0 a52) fun a53=>.opt (oB a8) fun a54=>.opt (vB yA 106 1 a54) fun a55=>.light (fun m=>mA yA 9 ⟨0,m⟩ a55) fun a56=>.asS a56 fun s57=>.opt (zI [32] s57) fun a58=>.asS a58 fun s59=>.opt (zI s59 [32]) fun a60=>.asS a60 fun s61=>.call 23 [a53,.str s61] fun a62=>
 .opt (zC yA 29 A8 (.int .i64 1)) fun a63=>.light (fun m=>mA yA 31 ⟨0,m⟩ a63) fun a64=>.asG zqq a64 fun X65=>
 .opt (oB a8) fun a66=>.opt (vB yA 106 7 a66) fun a67=>.light (fun m=>mA yA 3 ⟨0,m⟩ a67) fun a68=>.asI .i64 a68 fun n69=>.call 83 [p0,(.agg [.int .u8 (X65.i 0),.str (X65.s 1),.int .u8 (X65.i 2),.bool (X65.b 3),X65.v 4,.bool (X65.b 5),X65.v 6,.int .i64 (X65.i 7),X65.v 8]),.int .i64 n69] fun a70=>
 .ret (.tup []))
 (.ite (uB n12 5)
 (.opt (oB p0) fun a71=>.opt (vB yA 110 0 a71) fun a72=>.opt (oB a8) fun a73=>.opt (vB yA 106 1 a73) fun a74=>.light (fun m=>mA yA 9 ⟨0,m⟩ a74) fun a75=>.asS a75 fun s76=>.call 23 [a72,.str s76] fun a77=>
 .opt (zC yA 29 A8 (.int .i64 0)) fun a78=>.light (fun m=>mA yA 31 ⟨0,m⟩ a78) fun a79=>.asG zqq a79 fun X80=>
 .opt (oB a8) fun a81=>.opt (vB yA 106 6 a81) fun a82=>.light (fun m=>mA yA 3 ⟨0,m⟩ a82) fun a83=>.asI .i64 a83 fun n84=>.call 83 [p0,(.agg [.int .u8 (X80.i 0),.str (X80.s 1),.int .u8 (X80.i 2),.bool (X80.b 3),X80.v 4,.bool (X80.b 5),X80.v 6,.int .i64 (X80.i 7),X80.v 8]),.int .i64 n84] fun a85=>
 .ret (.tup []))
 (.ite (uB n12 6)
 (.call 84 [p0,.agg [.int .u8 A0,.str A1,.int .u8 A2,.bool A3,A4,.bool A5,A6,.int .i64 A7,A8],a8] fun a86=>
 .ret (.tup []))
 (.ret (.tup []))))))))
def w40(p0:zA)(A0:Int)(A1:List Nat)(A2:Int)(A3:Bool)(A4:zA)(A5:Bool)(A6:zA)(A7:Int)(A8:zA)(h:wp 40 (t40 p0 A0 A1 A2 A3 A4 A5 A6 A7 A8) m Q):Wf 40 [p0,.agg [.int .u8 A0,.str A1,.int .u8 A2,.bool A3,A4,.bool A5,A6,.int .i64 A7,A8]] m Q:=aB ok40 h
def t41 (A0:Bool)(A1:zA)(A2:Bool)(A3:zA):T:=
 .call 85 [.agg [.bool A0,A1]] fun a0=>
 .asG zz3z a0 fun X1=>
 .ite (tC zA.one [.bool (X1.b 0),X1.v 1]) (.call 85 [.agg [.bool A2,A3]] fun a2=>
 .asG zz3z a2 fun X3=>
 .ite (tC zA.one [.bool (X3.b 0),X3.v 1]) (.ite (tC zA.one [.bool (X1.b 0),X1.v 1,.bool (X3.b 0),X3.v 1]) (.ret (.agg [.bool (X1.b 0),X1.v 1,.bool (X3.b 0),X3.v 1])) .fail) .fail) .fail
def w41(A0:Bool)(A1:zA)(A2:Bool)(A3:zA)(h:wp 41 (t41 A0 A1 A2 A3) m Q):Wf 41 [.agg [.bool A0,A1,.bool A2,A3]] m Q:=aB ok41 h
def t47 (A0:List Nat)(A1:Int)(A2:Bool):T:=
 .call 38 [.str A0] fun a0=>
 .asB a0 fun b1=>.ite b1
 (.ite (sD 1 A1)
 (.ret (.bool (sD A1 6)))
 (.ret (.bool false)))
 (.ret (.bool false))
def w47(A0:List Nat)(A1:Int)(A2:Bool)(h:wp 47 (t47 A0 A1 A2) m Q):Wf 47 [.agg [.str A0,.int .u8 A1,.bool A2]] m Q:=aB ok47 h
def t48 (p0 p1:zA):T:=
 .opt (yC p0) fun a0=>.asI .i64 a0 fun n1=>.jump 2 [p1,p0,.int .i64 n1,.int .i64 0]
def w48(p0 p1:zA)(h:wp 48 (t48 p0 p1) m Q):Wf 48 [p0,p1] m Q:=aB ok48 h
def t48_2(v1 v7:zA)(v8 v9:Int):T:=
 .ite (vC v9 v8)
 (.opt (zC yA 43 v7 (.int .i64 v9)) fun a0=>.light (fun m=>mA yA 114 ⟨0,m⟩ a0) fun a1=>.asG [.str [],.int .u8 0,.bool false] a1 fun X2=>
 .ite true (.callv v1 [(.agg [.str (X2.s 0),.int .u8 (X2.i 1),.bool (X2.b 2)])] fun a3=>
 .asB a3 fun b4=>.ite (!b4)
 (.ret (.bool false))
 (.jump 2 [v1,v7,.int .i64 v8,(.int .i64 (tA .i64 (v9+1)))])) .fail)
 (.ret (.bool true))
def j48_2(v1 v7:zA)(v8 v9:Int)(h:wp 48 (t48_2 v1 v7 v8 v9) m Q):jp 48 2 [v1,v7,.int .i64 v8,.int .i64 v9] m Q:=nE ok48 h
def t49 (p0 p1:zA):T:=
 .opt (yC p0) fun a0=>.asI .i64 a0 fun n1=>.jump 2 [p1,p0,.int .i64 n1,.int .i64 0]
def w49(p0 p1:zA)(h:wp 49 (t49 p0 p1) m Q):Wf 49 [p0,p1] m Q:=aB ok49 h
def t49_2(v1 v7:zA)(v8 v9:Int):T:=
 .ite (vC v9 v8)
 (.opt (zC yA 44 v7 (.int .i64 v9)) fun a0=>.light (fun m=>mA yA 53 ⟨0,m⟩ a0) fun a1=>.asG [.str [],.bool false,.nilslice] a1 fun X2=>
 .ite (tC zA.one [.str (X2.s 0),.bool (X2.b 1),X2.v 2]) (.callv v1 [(.agg [.str (X2.s 0),.bool (X2.b 1),X2.v 2])] fun a3=>
 .asB a3 fun b4=>.ite (!b4)
 (.ret (.bool false))
 (.jump 2 [v1,v7,.int .i64 v8,(.int .i64 (tA .i64 (v9+1)))])) .fail)
 (.ret (.bool true))
def j49_2(v1 v7:zA)(v8 v9:Int)(h:wp 49 (t49_2 v1 v7 v8 v9) m Q):jp 49 2 [v1,v7,.int .i64 v8,.int .i64 v9] m Q:=nE ok49 h
def t50 (A0:List Nat)(A1:Bool)(A2:zA):T:=
 .heavy (zq0 (.agg [.str A0,.bool A1,A2])) fun a0=>
 .heavy (uM yA 59) fun a1=>
 .heavy (sC yA 59 a1 (.func (.func 87) [] [])) fun _=>
 .opt (vB yA 53 0 a0) fun a2=>.light (fun m=>mA yA 9 ⟨0,m⟩ a2) fun a3=>.asS a3 fun s4=>.call 38 [.str s4] fun a5=>
 .asB a5 fun b6=>.ite b6
 (.opt (vB yA 53 2 a0) fun a7=>.light (fun m=>mA yA 51 ⟨0,m⟩ a7) fun a8=>.call 89 [a8,(.func (.func 88) [] [a1,a0])] fun a9=>
 .asB a9 fun b10=>.ret (.bool b10))
 (.ret (.bool false))
def w50(A0:List Nat)(A1:Bool)(A2:zA)(h:wp 50 (t50 A0 A1 A2) m Q):Wf 50 [.agg [.str A0,.bool A1,A2]] m Q:=aB ok50 h
def t51 (p0 p1:zA):T:=
 .opt (yC p0) fun a0=>.asI .i64 a0 fun n1=>.jump 2 [p1,p0,.int .i64 n1,.int .i64 0]
def w51(p0 p1:zA)(h:wp 51 (t51 p0 p1) m Q):Wf 51 [p0,p1] m Q:=aB ok51 h
def t51_2(v1 v7:zA)(v8 v9:Int):T:=
 .ite (vC v9 v8)
 (.opt (zC yA 42 v7 (.int .i64 v9)) fun a0=>.light (fun m=>mA yA 41 ⟨0,m⟩ a0) fun a1=>.asG [.str [],.str [],.int .i64 0,.int .i64 0,.int .i64 0,.bool false,.int .u8 0,.str [],.int .u8 0,.bool false,.nilslice,.bool false,.nilslice,.int .i64 0,.nilslice,.int .u8 0,.str [],.int .u8 0,.bool false,.nilslice,.bool false,.nilslice,.int .i64 0,.nilslice] a1 fun X2=>
 .ite (tC zA.one [.str (X2.s 0),.str (X2.s 1),.int .i64 (X2.i 2),.int .i64 (X2.i 3),.int .i64 (X2.i 4),.bool (X2.b 5),.int .u8 (X2.i 6),.str (X2.s 7),.int .u8 (X2.i 8),.bool (X2.b 9),X2.v 10,.bool (X2.b 11),X2.v 12,.int .i64 (X2.i 13),X2.v 14,.int .u8 (X2.i 15),.str (X2.s 16),.int .u8 (X2.i 17),.bool (X2.b 18),X2.v 19,.bool (X2.b 20),X2.v 21,.int .i64 (X2.i 22),X2.v 23]) (.callv v1 [(.agg [.str (X2.s 0),.str (X2.s 1),.int .i64 (X2.i 2),.int .i64 (X2.i 3),.int .i64 (X2.i 4),.bool (X2.b 5),.int .u8 (X2.i 6),.str (X2.s 7),.int .u8 (X2.i 8),.bool (X2.b 9),X2.v 10,.bool (X2.b 11),X2.v 12,.int .i64 (X2.i 13),X2.v 14,.int .u8 (X2.i 15),.str (X2.s 16),.int .u8 (X2.i 17),.bool (X2.b 18),X2.v 19,.bool (X2.b 20),X2.v 21,.int .i64 (X2.i 22),X2.v 23])] fun a3=>
 .asB a3 fun b4=>.ite (!b4)
 (.ret (.bool false))
 (.jump 2 [v1,v7,.int .i64 v8,(.int .i64 (tA .i64 (v9+1)))])) .fail)
 (.ret (.bool true))
def j51_2(v1 v7:zA)(v8 v9:Int)(h:wp 51 (t51_2 v1 v7 v8 v9) m Q):jp 51 2 [v1,v7,.int .i64 v8,.int .i64 v9] m Q:=nE ok51 h
def t52 (A0:zA)(A1 A2:List Nat)(A3 A4 A5:Int)(A6:Bool)(A7:Int)(A8:List Nat)(A9:Int)(B0:Bool)(B1:zA)(B2:Bool)(B3:zA)(B4:Int)(B5:zA)(B6:Int)(B7:List Nat)(B8:Int)(B9:Bool)(D0:zA)(D1:Bool)(D2:zA)(D3:Int)(D4:zA):T:=
 .call 38 [.str A1] fun a0=>
 .asB a0 fun b1=>.ite (!b1)
 (.ret (.bool false))
 (.call 38 [.str A2] fun a2=>
 .asB a2 fun b3=>.ite (!b3)
 (.ret (.bool false))
 (.call 55 [.int .i64 A3] fun a4=>
 .asB a4 fun b5=>.ite (!b5)
 (.ret (.bool false))
 (.call 55 [.int .i64 A5] fun a6=>
 .asB a6 fun b7=>.ite (!b7)
 (.ret (.bool false))
 (.call 55 [.int .i64 A4] fun a8=>
 .asB a8 fun b9=>.ite (!b9)
 (.ite (!uB A4 65536)
 (.ret (.bool false))
 (.ite A6
 (.call 90 [.agg [.int .u8 A7,.str A8,.int .u8 A9,.bool B0,B1,.bool B2,B3,.int .i64 B4,B5]] fun xD=>
 .asB xD fun b11=>.ite b11
 (.call 90 [.agg [.int .u8 B6,.str B7,.int .u8 B8,.bool B9,D0,.bool D1,D2,.int .i64 D3,D4]] fun a12=>
 .asB a12 fun b13=>.ret (.bool b13))
 (.ret (.bool false)))
 (.call 18 [.agg [A0],.agg [.int .u8 A7,.str A8,.int .u8 A9,.bool B0,B1,.bool B2,B3,.int .i64 B4,B5],.int .i64 1] fun a14=>
 .asB a14 fun b15=>.ite b15
 (.call 18 [.agg [A0],.agg [.int .u8 B6,.str B7,.int .u8 B8,.bool B9,D0,.bool D1,D2,.int .i64 D3,D4],.int .i64 1] fun a16=>
 .asB a16 fun b17=>.ret (.bool b17))
 (.ret (.bool false)))))
 (.ite A6
 (.call 90 [.agg [.int .u8 A7,.str A8,.int .u8 A9,.bool B0,B1,.bool B2,B3,.int .i64 B4,B5]] fun a18=>
 .asB a18 fun b19=>.ite b19
 (.call 90 [.agg [.int .u8 B6,.str B7,.int .u8 B8,.bool B9,D0,.bool D1,D2,.int .i64 D3,D4]] fun a20=>
 .asB a20 fun b21=>.ret (.bool b21))
 (.ret (.bool false)))
 (.call 18 [.agg [A0],.agg [.int .u8 A7,.str A8,.int .u8 A9,.bool B0,B1,.bool B2,B3,.int .i64 B4,B5],.int .i64 1] fun a22=>
 .asB a22 fun b23=>.ite b23
 (.call 18 [.agg [A0],.agg [.int .u8 B6,.str B7,.int .u8 B8,.bool B9,D0,.bool D1,D2,.int .i64 D3,D4],.int .i64 1] fun a24=>
 .asB a24 fun b25=>.ret (.bool b25))
 (.ret (.bool false))))))))
def w52(A0:zA)(A1 A2:List Nat)(A3 A4 A5:Int)(A6:Bool)(A7:Int)(A8:List Nat)(A9:Int)(B0:Bool)(B1:zA)(B2:Bool)(B3:zA)(B4:Int)(B5:zA)(B6:Int)(B7:List Nat)(B8:Int)(B9:Bool)(D0:zA)(D1:Bool)(D2:zA)(D3:Int)(D4:zA)(h:wp 52 (t52 A0 A1 A2 A3 A4 A5 A6 A7 A8 A9 B0 B1 B2 B3 B4 B5 B6 B7 B8 B9 D0 D1 D2 D3 D4) m Q):Wf 52 [.agg [A0],.agg [.str A1,.str A2,.int .i64 A3,.int .i64 A4,.int .i64 A5,.bool A6,.int .u8 A7,.str A8,.int .u8 A9,.bool B0,B1,.bool B2,B3,.int .i64 B4,B5,.int .u8 B6,.str B7,.int .u8 B8,.bool B9,D0,.bool D1,D2,.int .i64 D3,D4]] m Q:=aB ok52 h
def t53 (A0:Bool)(A1:zA)(A2:Bool)(A3:zA):T:=
 .opt (yC A1) fun a0=>.asI .i64 a0 fun n1=>.ite (vC 42 n1)
 (.ret (.bool false))
 (.opt (yC A3) fun a2=>.asI .i64 a2 fun n3=>.ite (vC 42 n3)
 (.ret (.bool false))
 (.call 91 [.agg [.bool A0,A1,.bool A2,A3]] fun a4=>
 .asB a4 fun b5=>.ite (!b5)
 (.ret (.bool false))
 (.call 92 [.agg [.bool A0,A1,.bool A2,A3]] fun a6=>
 .opt (zD 0 a6) fun a7=>.asS a7 fun s8=>.opt (zD 1 a6) fun a9=>.asI .i64 a9 fun n10=>.ite (uB n10 0)
 (.call 93 [.str s8,.str [45]] fun tE=>
 .asS tE fun s12=>.ret (.bool (sD (Int.ofNat (aA s12)) 200)))
 (.ret (.bool false)))))
def w53(A0:Bool)(A1:zA)(A2:Bool)(A3:zA)(h:wp 53 (t53 A0 A1 A2 A3) m Q):Wf 53 [.agg [.bool A0,A1,.bool A2,A3]] m Q:=aB ok53 h
def t54 (A0:Bool)(A1:zA)(A2:Bool)(A3:zA):T:=
 .ite (!A0)
 (.ite (!A2)
 (.opt (yC A1) fun a0=>.asI .i64 a0 fun n1=>.opt (yC A3) fun a2=>.asI .i64 a2 fun n3=>.ret (.bool (uB (tA .i64 (n1+n3)) 0)))
 (.ret (.bool false)))
 (.ret (.bool false))
def w54(A0:Bool)(A1:zA)(A2:Bool)(A3:zA)(h:wp 54 (t54 A0 A1 A2 A3) m Q):Wf 54 [.agg [.bool A0,A1,.bool A2,A3]] m Q:=aB ok54 h
def t55 (p0:Int):T:=
 .ite (sD 0 p0)
 (.ret (.bool (vC p0 65536)))
 (.ret (.bool false))
def w55(p0:Int)(h:wp 55 (t55 p0) m Q):Wf 55 [.int .i64 p0] m Q:=aB ok55 h
def t56 (p0:Bool):T:=
 .call 94 [.bool p0] fun a0=>
 .asS a0 fun s1=>.ret (.str s1)
def w56(p0:Bool)(h:wp 56 (t56 p0) m Q):Wf 56 [.bool p0] m Q:=aB ok56 h
def t57 (A0:Bool)(A1:zA)(A2:Bool)(A3:zA):T:=
 .call 92 [.agg [.bool A0,A1,.bool A2,A3]] fun a0=>
 .opt (zD 0 a0) fun a1=>.asS a1 fun s2=>.opt (zD 1 a0) fun a3=>.asI .i64 a3 fun n4=>.call 95 [.str s2] fun a5=>
 .asS a5 fun s6=>.ret (.str s6)
def w57(A0:Bool)(A1:zA)(A2:Bool)(A3:zA)(h:wp 57 (t57 A0 A1 A2 A3) m Q):Wf 57 [.agg [.bool A0,A1,.bool A2,A3]] m Q:=aB ok57 h
def t58 (p0:Int):T:=
 .call 96 [.int .i64 p0] fun a0=>
 .opt (zD 0 a0) fun a1=>.asI .i64 a1 fun n2=>.opt (zD 1 a0) fun a3=>.asI .i64 a3 fun n4=>.opt (zD 2 a0) fun a5=>.asI .i64 a5 fun n6=>.opt (zD 3 a0) fun a7=>.asI .i64 a7 fun n8=>.ite (!uB n8 0)
 (.ret (.str []))
 (.ite true (.heavy (uM yA 164) fun a9=>
 .heavy (sC yA 164 a9 (.agg [.int .u8 0,.int .u8 0,.int .u8 0,.int .u8 0,.int .u8 45,.int .u8 0,.int .u8 0,.int .u8 45,.int .u8 0,.int .u8 0])) fun _=>
 .light (fun m=>mA yA 164 ⟨0,m⟩ a9) fun xD=>.asG z4v xD fun X11=>
 .call 97 [(.agg [.int .u8 (X11.i 0),.int .u8 (X11.i 1),.int .u8 (X11.i 2),.int .u8 (X11.i 3),.int .u8 (X11.i 4),.int .u8 (X11.i 5),.int .u8 (X11.i 6),.int .u8 (X11.i 7),.int .u8 (X11.i 8),.int .u8 (X11.i 9)]),.int .i64 0,.int .i64 4,.int .i64 n2] fun a12=>
 .asG z4v a12 fun X13=>
 .heavy (sC yA 164 a9 (.agg [.int .u8 (X13.i 0),.int .u8 (X13.i 1),.int .u8 (X13.i 2),.int .u8 (X13.i 3),.int .u8 (X13.i 4),.int .u8 (X13.i 5),.int .u8 (X13.i 6),.int .u8 (X13.i 7),.int .u8 (X13.i 8),.int .u8 (X13.i 9)])) fun _=>
 .light (fun m=>mA yA 164 ⟨0,m⟩ a9) fun a14=>.asG z4v a14 fun X15=>
 .call 97 [(.agg [.int .u8 (X15.i 0),.int .u8 (X15.i 1),.int .u8 (X15.i 2),.int .u8 (X15.i 3),.int .u8 (X15.i 4),.int .u8 (X15.i 5),.int .u8 (X15.i 6),.int .u8 (X15.i 7),.int .u8 (X15.i 8),.int .u8 (X15.i 9)]),.int .i64 5,.int .i64 2,.int .i64 n4] fun a16=>
 .asG z4v a16 fun X17=>
 .heavy (sC yA 164 a9 (.agg [.int .u8 (X17.i 0),.int .u8 (X17.i 1),.int .u8 (X17.i 2),.int .u8 (X17.i 3),.int .u8 (X17.i 4),.int .u8 (X17.i 5),.int .u8 (X17.i 6),.int .u8 (X17.i 7),.int .u8 (X17.i 8),.int .u8 (X17.i 9)])) fun _=>
 .light (fun m=>mA yA 164 ⟨0,m⟩ a9) fun a18=>.asG z4v a18 fun X19=>
 .call 97 [(.agg [.int .u8 (X19.i 0),.int .u8 (X19.i 1),.int .u8 (X19.i 2),.int .u8 (X19.i 3),.int .u8 (X19.i 4),.int .u8 (X19.i 5),.int .u8 (X19.i 6),.int .u8 (X19.i 7),.int .u8 (X19.i 8),.int .u8 (X19.i 9)]),.int .i64 8,.int .i64 2,.int .i64 n6] fun a20=>
 .asG z4v a20 fun X21=>
 .heavy (sC yA 164 a9 (.agg [.int .u8 (X21.i 0),.int .u8 (X21.i 1),.int .u8 (X21.i 2),.int .u8 (X21.i 3),.int .u8 (X21.i 4),.int .u8 (X21.i 5),.int .u8 (X21.i 6),.int .u8 (X21.i 7),.int .u8 (X21.i 8),.int .u8 (X21.i 9)])) fun _=>
 .light (fun m=>gF yA 164 ⟨0,m⟩ a9 none none) fun a22=>.light (fun m=>xK yA 32 9 ⟨0,m⟩ a22) fun a23=>.asS a23 fun s24=>.ret (.str s24)) .fail)
def w58(p0:Int)(h:wp 58 (t58 p0) m Q):Wf 58 [.int .i64 p0] m Q:=aB ok58 h
def t59 (p0:Int):T:=
 .call 98 [.int .i64 p0] fun a0=>
 .asS a0 fun s1=>.call 95 [.str s1] fun a2=>
 .asS a2 fun s3=>.ret (.str s3)
def w59(p0:Int)(h:wp 59 (t59 p0) m Q):Wf 59 [.int .i64 p0] m Q:=aB ok59 h
def t76 (p0:List Nat)(p1:Bool)(p2 p3:Int):T:=
 .ite true (.ite true (.ret (.agg [.int .u8 6,.str p0,.bool p1,.int .i64 p2,.int .i64 p3,.int .i64 7,.int .i64 1,.int .i64 1])) .fail) .fail
def w76(p0:List Nat)(p1:Bool)(p2 p3:Int)(h:wp 76 (t76 p0 p1 p2 p3) m Q):Wf 76 [.str p0,.bool p1,.int .i64 p2,.int .i64 p3] m Q:=aB ok76 h
def t77 (p0:List Nat):T:=
 .ite true (.ite true (.ret (.agg [.int .u8 3,.str p0,.bool true,.int .i64 1,.int .i64 1,.int .i64 7,.int .i64 7,.int .i64 7])) .fail) .fail
def w77(p0:List Nat)(h:wp 77 (t77 p0) m Q):Wf 77 [.str p0] m Q:=aB ok77 h
def t78 (p0:List Nat)(p1 p2 p3:Int):T:=
 .ite true (.ite true (.ret (.agg [.int .u8 4,.str p0,.bool false,.int .i64 2,.int .i64 2,.int .i64 p1,.int .i64 p2,.int .i64 p3])) .fail) .fail
def w78(p0:List Nat)(p1 p2 p3:Int)(h:wp 78 (t78 p0 p1 p2 p3) m Q):Wf 78 [.str p0,.int .i64 p1,.int .i64 p2,.int .i64 p3] m Q:=aB ok78 h
def t79 (p0:Int):T:=
 .ite (sD 65 p0)
 (.ite (sD p0 90)
 (.ret (.bool true))
 (.ite (sD 97 p0)
 (.ret (.bool (sD p0 122)))
 (.ret (.bool false))))
 (.ite (sD 97 p0)
 (.ret (.bool (sD p0 122)))
 (.ret (.bool false)))
def w79(p0:Int)(h:wp 79 (t79 p0) m Q):Wf 79 [.int .u8 p0] m Q:=aB ok79 h
def t80 (p0:List Nat)(p1:zA):T:=
 .jump 2 [.str p0,p1,.int .i64 0]
def w80(p0:List Nat)(p1:zA)(h:wp 80 (t80 p0 p1) m Q):Wf 80 [.str p0,p1] m Q:=aB ok80 h
def z5e(v0:List Nat)(v1:zA)(v5:Int):T:=
 .ite (vC v5 (Int.ofNat (aA v0)))
 (.opt (xQ yA 9 (.str v0) (.int .i64 v5)) fun a0=>.asI .u8 a0 fun n1=>.callv v1 [.int .u8 n1] fun a2=>
 .asB a2 fun b3=>.ite b3
 (.jump 2 [.str v0,v1,(.int .i64 (tA .i64 (v5+1)))])
 (.opt (gF yA 9 H0A (.str v0) none (some (.int .i64 v5))) fun a4=>.asS a4 fun s5=>.ret (.str s5)))
 (.opt (gF yA 9 H0A (.str v0) none (some (.int .i64 v5))) fun a6=>.asS a6 fun s7=>.ret (.str s7))
def j80_2(v0:List Nat)(v1:zA)(v5:Int)(h:wp 80 (z5e v0 v1 v5) m Q):jp 80 2 [.str v0,v1,.int .i64 v5] m Q:=nE ok80 h
def t81 (p0:Int):T:=
 .call 79 [.int .u8 p0] fun a0=>
 .asB a0 fun b1=>.ite b1
 (.ret (.bool true))
 (.call 112 [.int .u8 p0] fun a2=>
 .asB a2 fun b3=>.ite b3
 (.ret (.bool true))
 (.ret (.bool (uB p0 95))))
def w81(p0:Int)(h:wp 81 (t81 p0) m Q):Wf 81 [.int .u8 p0] m Q:=aB ok81 h
def t82 (p0:List Nat):T:=
 .ite (vC (Int.ofNat (aA p0)) 2)
 (.ret (.bool false))
 (.ite (vC 7 (Int.ofNat (aA p0)))
 (.ret (.bool false))
 (.call 80 [.str p0,(.func (.func 79) [] [])] fun a0=>
 .asS a0 fun s1=>.ite (!xG s1 p0)
 (.ret (.bool false))
 (.heavy zbi fun a2=>
 .heavy (wM yA 180 a2 (.int .i64 2) (.str [32,116,111,32,105,115,32,97,116,32,105,102,32,111,114,32,117,112,32])) fun _=>
 .heavy (wM yA 180 a2 (.int .i64 3) (.str [32,100,101,102,32,114,111,119,32,111,110,101,32,116,119,111,32,101,110,100,32,111,102,102,32,104,97,115,32,109,105,110,32,109,97,120,32,97,110,100,32,110,111,116,32])) fun _=>
 .heavy (wM yA 180 a2 (.int .i64 4) (.str [32,112,108,97,110,32,102,97,99,116,32,102,114,111,109,32,119,104,101,110,32,116,104,101,110,32,100,97,116,101,32,100,97,121,115,32,116,114,117,101,32,108,111,111,107,32,98,101,115,116,32,103,114,111,119,32,100,111,119,110,32,99,101,105,108,32,104,97,108,102,32,101,118,101,110,32])) fun _=>
 .heavy (wM yA 180 a2 (.int .i64 5) (.str [32,116,97,98,108,101,32,107,110,111,119,110,32,116,114,117,116,104,32,109,111,110,101,121,32,102,97,108,115,101,32,109,105,110,117,115,32,116,111,100,97,121,32,114,111,117,110,100,32,115,116,97,114,116,32,102,108,111,111,114,32])) fun _=>
 .heavy (wM yA 180 a2 (.int .i64 6) (.str [32,99,108,97,117,115,101,32,110,117,109,98,101,114,32,109,111,110,116,104,115,32])) fun _=>
 .heavy (wM yA 180 a2 (.int .i64 7) (.str [32,98,101,116,119,101,101,110,32,115,101,114,118,105,99,101,32])) fun _=>
 .light (fun m=>zP yA 180 ⟨0,m⟩ a2 (.int .i64 (Int.ofNat (aA p0))) false) fun a3=>.asS a3 fun s4=>.opt (zI [32] p0) fun a5=>.asS a5 fun s6=>.opt (zI s6 [32]) fun a7=>.asS a7 fun s8=>.call 113 [.str s4,.str s8] fun a9=>
 .asB a9 fun b10=>.ret (.bool b10))))
def w82(p0:List Nat)(h:wp 82 (t82 p0) m Q):Wf 82 [.str p0] m Q:=aB ok82 h
def t83 (p0:zA)(A0:Int)(A1:List Nat)(A2:Int)(A3:Bool)(A4:zA)(A5:Bool)(A6:zA)(A7:Int)(A8:zA)(p2:Int):T:=
 .opt (oB p0) fun a0=>.opt (vB yA 110 1 a0) fun a1=>.light (fun m=>mA yA 67 ⟨0,m⟩ a1) fun a2=>.opt (oB a2) fun a3=>.opt (zC yA 147 a3 (.int .u8 A0)) fun a4=>.opt (vB yA 106 5 a4) fun a5=>.light (fun m=>mA yA 3 ⟨0,m⟩ a5) fun a6=>.asI .i64 a6 fun n7=>.ite (sD p2 n7)
 (.call 40 [p0,.agg [.int .u8 A0,.str A1,.int .u8 A2,.bool A3,A4,.bool A5,A6,.int .i64 A7,A8]] fun a8=>
 .ret (.tup []))
 (.opt (oB p0) fun a9=>.opt (vB yA 110 0 a9) fun xD=>.call 23 [xD,.str [40]] fun tE=>
 .call 40 [p0,.agg [.int .u8 A0,.str A1,.int .u8 A2,.bool A3,A4,.bool A5,A6,.int .i64 A7,A8]] fun a12=>
 .opt (oB p0) fun a13=>.opt (vB yA 110 0 a13) fun a14=>.call 23 [a14,.str [41]] fun a15=>
 .ret (.tup []))
def w83(p0:zA)(A0:Int)(A1:List Nat)(A2:Int)(A3:Bool)(A4:zA)(A5:Bool)(A6:zA)(A7:Int)(A8:zA)(p2:Int)(h:wp 83 (t83 p0 A0 A1 A2 A3 A4 A5 A6 A7 A8 p2) m Q):Wf 83 [p0,.agg [.int .u8 A0,.str A1,.int .u8 A2,.bool A3,A4,.bool A5,A6,.int .i64 A7,A8],.int .i64 p2] m Q:=aB ok83 h
def t84 (p0:zA)(A0:Int)(A1:List Nat)(A2:Int)(A3:Bool)(A4:zA)(A5:Bool)(A6:zA)(A7:Int)(A8 p2:zA):T:=
 .opt (oB p0) fun a0=>.opt (vB yA 110 0 a0) fun a1=>.opt (oB p2) fun a2=>.opt (vB yA 106 1 a2) fun a3=>.light (fun m=>mA yA 9 ⟨0,m⟩ a3) fun a4=>.asS a4 fun s5=>.opt (zI s5 [40]) fun a6=>.asS a6 fun s7=>.call 23 [a1,.str s7] fun a8=>
 .opt (oB p2) fun a9=>.opt (vB yA 106 2 a9) fun xD=>.light (fun m=>mA yA 4 ⟨0,m⟩ xD) fun tE=>.asB tE fun b12=>.ite b12
 (.opt (oB p0) fun a13=>.opt (vB yA 110 0 a13) fun a14=>.opt (zI A1 [44,32]) fun a15=>.asS a15 fun s16=>.call 23 [a14,.str s16] fun a17=>
 .jump 9 [p0,.int .u8 A0,.str A1,.int .u8 A2,.bool A3,A4,.bool A5,A6,.int .i64 A7,A8])
 (.jump 9 [p0,.int .u8 A0,.str A1,.int .u8 A2,.bool A3,A4,.bool A5,A6,.int .i64 A7,A8])
def w84(p0:zA)(A0:Int)(A1:List Nat)(A2:Int)(A3:Bool)(A4:zA)(A5:Bool)(A6:zA)(A7:Int)(A8 p2:zA)(h:wp 84 (t84 p0 A0 A1 A2 A3 A4 A5 A6 A7 A8 p2) m Q):Wf 84 [p0,.agg [.int .u8 A0,.str A1,.int .u8 A2,.bool A3,A4,.bool A5,A6,.int .i64 A7,A8],p2] m Q:=aB ok84 h
def t84_9(v0:zA)(A0:Int)(A1:List Nat)(A2:Int)(A3:Bool)(A4:zA)(A5:Bool)(A6:zA)(A7:Int)(A8:zA):T:=
 .opt (yC A8) fun a0=>.asI .i64 a0 fun n1=>.jump 2 [v0,A8,.int .i64 n1,.int .i64 0,.int .u8 A0,.str A1,.int .u8 A2,.bool A3,A4,.bool A5,A6,.int .i64 A7,A8]
def j84_9(v0:zA)(A0:Int)(A1:List Nat)(A2:Int)(A3:Bool)(A4:zA)(A5:Bool)(A6:zA)(A7:Int)(A8:zA)(h:wp 84 (t84_9 v0 A0 A1 A2 A3 A4 A5 A6 A7 A8) m Q):jp 84 9 [v0,.int .u8 A0,.str A1,.int .u8 A2,.bool A3,A4,.bool A5,A6,.int .i64 A7,A8] m Q:=nE ok84 h
def z5d(v0 v29:zA)(v30 v31 A0:Int)(A1:List Nat)(A2:Int)(A3:Bool)(A4:zA)(A5:Bool)(A6:zA)(A7:Int)(A8:zA):T:=
 .ite (vC v31 v30)
 (.opt (zC yA 29 v29 (.int .i64 v31)) fun a0=>.light (fun m=>mA yA 31 ⟨0,m⟩ a0) fun a1=>.asG zqq a1 fun X2=>
 .ite (tC zA.one [.int .u8 (X2.i 0),.str (X2.s 1),.int .u8 (X2.i 2),.bool (X2.b 3),X2.v 4,.bool (X2.b 5),X2.v 6,.int .i64 (X2.i 7),X2.v 8]) (.ite (vC 0 v31)
 (.opt (oB v0) fun a3=>.opt (vB yA 110 0 a3) fun a4=>.call 23 [a4,.str [44,32]] fun a5=>
 .call 40 [v0,(.agg [.int .u8 (X2.i 0),.str (X2.s 1),.int .u8 (X2.i 2),.bool (X2.b 3),X2.v 4,.bool (X2.b 5),X2.v 6,.int .i64 (X2.i 7),X2.v 8])] fun a6=>
 .jump 2 [v0,v29,.int .i64 v30,(.int .i64 (tA .i64 (v31+1))),.int .u8 A0,.str A1,.int .u8 A2,.bool A3,A4,.bool A5,A6,.int .i64 A7,A8])
 (.call 40 [v0,(.agg [.int .u8 (X2.i 0),.str (X2.s 1),.int .u8 (X2.i 2),.bool (X2.b 3),X2.v 4,.bool (X2.b 5),X2.v 6,.int .i64 (X2.i 7),X2.v 8])] fun a7=>
 .jump 2 [v0,v29,.int .i64 v30,(.int .i64 (tA .i64 (v31+1))),.int .u8 A0,.str A1,.int .u8 A2,.bool A3,A4,.bool A5,A6,.int .i64 A7,A8])) .fail)
 (.ite (uB A0 19)
 (.opt (oB v0) fun a8=>.opt (vB yA 110 0 a8) fun a9=>.call 114 [(.int .u8 (tA .u8 A7))] fun xD=>
 .asS xD fun s11=>.opt (zI [44,32] s11) fun a12=>.asS a12 fun s13=>.call 23 [a9,.str s13] fun a14=>
 .opt (oB v0) fun a15=>.opt (vB yA 110 0 a15) fun a16=>.call 23 [a16,.str [41]] fun a17=>
 .ret (.tup []))
 (.opt (oB v0) fun a18=>.opt (vB yA 110 0 a18) fun a19=>.call 23 [a19,.str [41]] fun a20=>
 .ret (.tup [])))
def j84_2(v0 v29:zA)(v30 v31 A0:Int)(A1:List Nat)(A2:Int)(A3:Bool)(A4:zA)(A5:Bool)(A6:zA)(A7:Int)(A8:zA)(h:wp 84 (z5d v0 v29 v30 v31 A0 A1 A2 A3 A4 A5 A6 A7 A8) m Q):jp 84 2 [v0,v29,.int .i64 v30,.int .i64 v31,.int .u8 A0,.str A1,.int .u8 A2,.bool A3,A4,.bool A5,A6,.int .i64 A7,A8] m Q:=nE ok84 h
def t85 (A0:Bool)(A1:zA):T:=
 .call 115 [A1] fun a0=>
 .ite (tC zA.one [a0]) (.ite (tC zA.one [.bool A0,a0]) (.ret (.agg [.bool A0,a0])) .fail) .fail
def w85(A0:Bool)(A1:zA)(h:wp 85 (t85 A0 A1) m Q):Wf 85 [.agg [.bool A0,A1]] m Q:=aB ok85 h
def t87 (p0:Int):T:=
 .ite (sD (-2147483648) p0)
 (.ret (.bool (vC p0 2147483648)))
 (.ret (.bool false))
def w87(p0:Int)(h:wp 87 (t87 p0) m Q):Wf 87 [.int .i64 p0] m Q:=aB ok87 h
def t88 (A0 A1 A2:Int)(A3:Bool)(A4:zA)(A5:Bool)(A6 w0 w1:zA):T:=
 .light (fun m=>mA yA 59 ⟨0,m⟩ w0) fun a0=>.callv a0 [.int .i64 A0] fun a1=>
 .asB a1 fun b2=>.ite b2
 (.light (fun m=>mA yA 59 ⟨0,m⟩ w0) fun a3=>.callv a3 [.int .i64 A1] fun a4=>
 .asB a4 fun b5=>.ite b5
 (.opt (vB yA 53 1 w1) fun a6=>.light (fun m=>mA yA 4 ⟨0,m⟩ a6) fun a7=>.asB a7 fun b8=>.ite b8
 (.call 55 [.int .i64 A2] fun a9=>
 .asB a9 fun b10=>.ite b10
 (.call 53 [.agg [.bool A3,A4,.bool A5,A6]] fun tE=>
 .asB tE fun b12=>.ret (.bool b12))
 (.ret (.bool false)))
 (.ite (uB A1 0)
 (.call 55 [.int .i64 A2] fun a13=>
 .asB a13 fun b14=>.ite b14
 (.call 53 [.agg [.bool A3,A4,.bool A5,A6]] fun a15=>
 .asB a15 fun b16=>.ret (.bool b16))
 (.ret (.bool false)))
 (.ret (.bool false))))
 (.ret (.bool false)))
 (.ret (.bool false))
def w88(A0 A1 A2:Int)(A3:Bool)(A4:zA)(A5:Bool)(A6 w0 w1:zA)(h:wp 88 (t88 A0 A1 A2 A3 A4 A5 A6 w0 w1) m Q):Wf 88 [.agg [.int .i64 A0,.int .i64 A1,.int .i64 A2,.bool A3,A4,.bool A5,A6],w0,w1] m Q:=aB ok88 h
def t89 (p0 p1:zA):T:=
 .opt (yC p0) fun a0=>.asI .i64 a0 fun n1=>.jump 2 [p1,p0,.int .i64 n1,.int .i64 0]
def w89(p0 p1:zA)(h:wp 89 (t89 p0 p1) m Q):Wf 89 [p0,p1] m Q:=aB ok89 h
def t89_2(v1 v7:zA)(v8 v9:Int):T:=
 .ite (vC v9 v8)
 (.opt (zC yA 51 v7 (.int .i64 v9)) fun a0=>.light (fun m=>mA yA 55 ⟨0,m⟩ a0) fun a1=>.asG [.int .i64 0,.int .i64 0,.int .i64 0,.bool false,.nilslice,.bool false,.nilslice] a1 fun X2=>
 .ite (tC zA.one [.int .i64 (X2.i 0),.int .i64 (X2.i 1),.int .i64 (X2.i 2),.bool (X2.b 3),X2.v 4,.bool (X2.b 5),X2.v 6]) (.callv v1 [(.agg [.int .i64 (X2.i 0),.int .i64 (X2.i 1),.int .i64 (X2.i 2),.bool (X2.b 3),X2.v 4,.bool (X2.b 5),X2.v 6])] fun a3=>
 .asB a3 fun b4=>.ite (!b4)
 (.ret (.bool false))
 (.jump 2 [v1,v7,.int .i64 v8,(.int .i64 (tA .i64 (v9+1)))])) .fail)
 (.ret (.bool true))
def j89_2(v1 v7:zA)(v8 v9:Int)(h:wp 89 (t89_2 v1 v7 v8 v9) m Q):jp 89 2 [v1,v7,.int .i64 v8,.int .i64 v9] m Q:=nE ok89 h
def t90 (A0:Int)(A1:List Nat)(A2:Int)(A3:Bool)(A4:zA)(A5:Bool)(A6:zA)(A7:Int)(A8:zA):T:=
 .ite (uB A0 0)
 (.ite (xG A1 [])
 (.opt (yC A8) fun a0=>.asI .i64 a0 fun n1=>.ite (uB n1 0)
 (.call 39 [.agg [.int .u8 A2,.bool A3,A4,.bool A5,A6,.int .i64 A7]] fun a2=>
 .asB a2 fun b3=>.ret (.bool b3))
 (.ret (.bool false)))
 (.ret (.bool false)))
 (.ret (.bool false))
def w90(A0:Int)(A1:List Nat)(A2:Int)(A3:Bool)(A4:zA)(A5:Bool)(A6:zA)(A7:Int)(A8:zA)(h:wp 90 (t90 A0 A1 A2 A3 A4 A5 A6 A7 A8) m Q):Wf 90 [.agg [.int .u8 A0,.str A1,.int .u8 A2,.bool A3,A4,.bool A5,A6,.int .i64 A7,A8]] m Q:=aB ok90 h
def t91 (A0:Bool)(A1:zA)(A2:Bool)(A3:zA):T:=
 .ite true (.call 116 [.agg [.bool A0,A1,.bool A2,A3]] fun a0=>
 .asB a0 fun b1=>.ret (.bool b1)) .fail
def w91(A0:Bool)(A1:zA)(A2:Bool)(A3:zA)(h:wp 91 (t91 A0 A1 A2 A3) m Q):Wf 91 [.agg [.bool A0,A1,.bool A2,A3]] m Q:=aB ok91 h
def t92 (A0:Bool)(A1:zA)(A2:Bool)(A3:zA):T:=
 .call 91 [.agg [.bool A0,A1,.bool A2,A3]] fun a0=>
 .asB a0 fun b1=>.ite (!b1)
 (.ret (.tup [.str [],.int .i64 2]))
 (.call 117 [.agg [.bool A0,A1]] fun a2=>
 .opt (zD 0 a2) fun a3=>.asS a3 fun s4=>.opt (zD 1 a2) fun a5=>.asI .i64 a5 fun n6=>.ite true (.call 118 [.agg [.bool A0,A1,.bool A2,A3]] fun a7=>
 .asB a7 fun b8=>.ite (!b8)
 (.call 117 [.agg [.bool A2,A3]] fun a9=>
 .opt (zD 0 a9) fun xD=>.asS xD fun s11=>.opt (zD 1 a9) fun a12=>.asI .i64 a12 fun n13=>.opt (zI [47] s11) fun a14=>.asS a14 fun s15=>.opt (zI s4 s15) fun a16=>.asS a16 fun s17=>.ret (.tup [.str s17,.int .i64 0]))
 (.ret (.tup [.str s4,.int .i64 0]))) .fail)
def w92(A0:Bool)(A1:zA)(A2:Bool)(A3:zA)(h:wp 92 (t92 A0 A1 A2 A3) m Q):Wf 92 [.agg [.bool A0,A1,.bool A2,A3]] m Q:=aB ok92 h
def t93 (p0 p1:List Nat):T:=
 .call 119 [.str p0,.str p1] fun a0=>
 .asS a0 fun s1=>.ret (.str s1)
def w93(p0 p1:List Nat)(h:wp 93 (t93 p0 p1) m Q):Wf 93 [.str p0,.str p1] m Q:=aB ok93 h
def t94 (p0:Bool):T:=
 .ite p0
 (.ret (.str [116,114,117,101]))
 (.ret (.str [102,97,108,115,101]))
def w94(p0:Bool)(h:wp 94 (t94 p0) m Q):Wf 94 [.bool p0] m Q:=aB ok94 h
def t95 (p0:List Nat):T:=
 .call 120 [.str p0,.str [45]] fun a0=>
 .opt (zD 0 a0) fun a1=>.asS a1 fun s2=>.opt (zD 1 a0) fun a3=>.asB a3 fun b4=>.ite b4
 (.opt (zI [109,105,110,117,115,32] s2) fun a5=>.asS a5 fun s6=>.ret (.str s6))
 (.ret (.str p0))
def w95(p0:List Nat)(h:wp 95 (t95 p0) m Q):Wf 95 [.str p0] m Q:=aB ok95 h
def t96 (p0:Int):T:=
 .call 121 [.int .i64 p0] fun a0=>
 .asB a0 fun b1=>.ite (!b1)
 (.ret (.tup [.int .i64 0,.int .i64 0,.int .i64 0,.int .i64 2]))
 (.call 122 [.int .i64 p0] fun a2=>
 .asI .i64 a2 fun n3=>.call 123 [.int .i64 n3] fun a4=>
 .asI .i64 a4 fun n5=>.ret (.tup [(.int .i64 (tA .i64 (1900+(tA .i64 (Int.tdiv n3 12))))),(.int .i64 (tA .i64 ((Int.tmod n3 12)+1))),(.int .i64 (tA .i64 ((tA .i64 (p0-n5))+1))),.int .i64 0]))
def w96(p0:Int)(h:wp 96 (t96 p0) m Q):Wf 96 [.int .i64 p0] m Q:=aB ok96 h
def t97 (A0 A1 A2 A3 A4 A5 A6 A7 A8 A9 p1 p2 p3:Int):T:=
 .heavy (zq0 (.agg [.int .u8 A0,.int .u8 A1,.int .u8 A2,.int .u8 A3,.int .u8 A4,.int .u8 A5,.int .u8 A6,.int .u8 A7,.int .u8 A8,.int .u8 A9])) fun a0=>
 .jump 2 [.int .i64 p1,.int .i64 p3,a0,(.int .i64 (tA .i64 ((tA .i64 (p1+p2))-1))),.int .u8 0,.int .u8 0,.int .u8 0,.int .u8 0,.int .u8 0,.int .u8 0,.int .u8 0,.int .u8 0,.int .u8 0,.int .u8 0]
def w97(A0 A1 A2 A3 A4 A5 A6 A7 A8 A9 p1 p2 p3:Int)(h:wp 97 (t97 A0 A1 A2 A3 A4 A5 A6 A7 A8 A9 p1 p2 p3) m Q):Wf 97 [.agg [.int .u8 A0,.int .u8 A1,.int .u8 A2,.int .u8 A3,.int .u8 A4,.int .u8 A5,.int .u8 A6,.int .u8 A7,.int .u8 A8,.int .u8 A9],.int .i64 p1,.int .i64 p2,.int .i64 p3] m Q:=aB ok97 h
def t97_2(v1 v3:Int)(v4:zA)(v9 A0 A1 A2 A3 A4 A5 A6 A7 A8 A9:Int):T:=
 .ite (sD v1 v9)
 (.opt (zC yA 164 v4 (.int .i64 v9)) fun a0=>.heavy (sC yA 5 a0 (.int .u8 (tA .u8 (tA .i64 (48+(Int.tmod v3 10)))))) fun _=>
 .jump 2 [.int .i64 v1,(.int .i64 (tA .i64 (Int.tdiv v3 10))),v4,(.int .i64 (tA .i64 (v9-1))),.int .u8 A0,.int .u8 A1,.int .u8 A2,.int .u8 A3,.int .u8 A4,.int .u8 A5,.int .u8 A6,.int .u8 A7,.int .u8 A8,.int .u8 A9])
 (.light (fun m=>mA yA 164 ⟨0,m⟩ v4) fun a1=>.asG z4v a1 fun X2=>
 .ite true (.ret (.agg [.int .u8 (X2.i 0),.int .u8 (X2.i 1),.int .u8 (X2.i 2),.int .u8 (X2.i 3),.int .u8 (X2.i 4),.int .u8 (X2.i 5),.int .u8 (X2.i 6),.int .u8 (X2.i 7),.int .u8 (X2.i 8),.int .u8 (X2.i 9)])) .fail)
def j97_2(v1 v3:Int)(v4:zA)(v9 A0 A1 A2 A3 A4 A5 A6 A7 A8 A9:Int)(h:wp 97 (t97_2 v1 v3 v4 v9 A0 A1 A2 A3 A4 A5 A6 A7 A8 A9) m Q):jp 97 2 [.int .i64 v1,.int .i64 v3,v4,.int .i64 v9,.int .u8 A0,.int .u8 A1,.int .u8 A2,.int .u8 A3,.int .u8 A4,.int .u8 A5,.int .u8 A6,.int .u8 A7,.int .u8 A8,.int .u8 A9] m Q:=nE ok97 h
def t112 (p0:Int):T:=
 .ite (sD 48 p0)
 (.ret (.bool (sD p0 57)))
 (.ret (.bool false))
def w112(p0:Int)(h:wp 112 (t112 p0) m Q):Wf 112 [.int .u8 p0] m Q:=aB ok112 h
def t114 (p0:Int):T:=
 .ite (vC (tA .i64 p0) 7)
 (.opt (zC yA 153 (.ptr 1 0) (.int .u8 p0)) fun a0=>.light (fun m=>mA yA 9 ⟨0,m⟩ a0) fun a1=>.asS a1 fun s2=>.ret (.str s2))
 (.ret (.str []))
def w114(p0:Int)(h:wp 114 (t114 p0) m Q):Wf 114 [.int .u8 p0] m Q:=aB ok114 h
def t115 (p0:zA):T:=
 .heavy (bE yA 22 22 .nilslice p0) fun a0=>
 .ret a0
def w115(p0:zA)(h:wp 115 (t115 p0) m Q):Wf 115 [p0] m Q:=aB ok115 h
def t116 (A0:Bool)(A1:zA)(A2:Bool)(A3:zA):T:=
 .call 147 [.agg [.bool A0,A1,.bool A2,A3]] fun a0=>
 .asB a0 fun b1=>.ite b1
 (.ret (.bool false))
 (.call 148 [.agg [.bool A0,A1]] fun a2=>
 .asB a2 fun b3=>.ite (!b3)
 (.ret (.bool false))
 (.call 148 [.agg [.bool A2,A3]] fun a4=>
 .asB a4 fun b5=>.ite (!b5)
 (.ret (.bool false))
 (.ite A2
 (.ret (.bool false))
 (.opt (yC A3) fun a6=>.asI .i64 a6 fun n7=>.ite (uB n7 0)
 (.ret (.bool false))
 (.call 118 [.agg [.bool A0,A1,.bool A2,A3]] fun a8=>
 .asB a8 fun b9=>.ite b9
 (.ret (.bool true))
 (.call 150 [.agg [.bool A0,A1],.agg [.bool A2,A3]] fun xD=>
 .asG zz3z xD fun X11=>
 .call 149 [(.agg [.bool (X11.b 0),X11.v 1])] fun a12=>
 .asB a12 fun b13=>.ret (.bool b13)))))))
def w116(A0:Bool)(A1:zA)(A2:Bool)(A3:zA)(h:wp 116 (t116 A0 A1 A2 A3) m Q):Wf 116 [.agg [.bool A0,A1,.bool A2,A3]] m Q:=aB ok116 h
def t117 (A0:Bool)(A1:zA):T:=
 .call 148 [.agg [.bool A0,A1]] fun a0=>
 .asB a0 fun b1=>.ite (!b1)
 (.ret (.tup [.str [],.int .i64 2]))
 (.opt (yC A1) fun a2=>.asI .i64 a2 fun n3=>.ite (uB n3 0)
 (.ret (.tup [.str [48],.int .i64 0]))
 (.call 151 [A1] fun a4=>
 .jump 2 [.str [],.int .i64 0,.nilslice,a4,.bool A0,A1]))
def w117(A0:Bool)(A1:zA)(h:wp 117 (t117 A0 A1) m Q):Wf 117 [.agg [.bool A0,A1]] m Q:=aB zv5 h
def zu1(v2:List Nat)(v3:Int)(v4 v5:zA)(A0:Bool)(A1:zA):T:=
 .opt (yC v5) fun a0=>.asI .i64 a0 fun n1=>.ite (vC 0 n1)
 (.call 152 [v5,.int .u32 1000000000] fun a2=>
 .opt (zD 0 a2) fun a3=>.opt (zD 1 a2) fun a4=>.asI .u32 a4 fun n5=>.heavy (dG yA 200 1 [(0,(.int .u32 n5))]) fun a6=>
 .heavy (bE yA 200 200 v4 a6) fun a7=>
 .jump 2 [.str v2,.int .i64 v3,a7,a3,.bool A0,A1])
 (.heavy (uM yA 32) fun a8=>
 .ite A0
 (.light (fun m=>mA yA 32 ⟨0,m⟩ a8) fun a9=>.heavy (dG yA 32 1 [(0,(.int .u8 45))]) fun xD=>
 .heavy (bE yA 32 32 a9 xD) fun tE=>
 .heavy (sC yA 32 a8 tE) fun _=>
 .jump 29 [.str v2,.int .i64 v3,v4,a8])
 (.jump 29 [.str v2,.int .i64 v3,v4,a8]))
def z4i(v2:List Nat)(v3:Int)(v4 v5:zA)(A0:Bool)(A1:zA)(h:wp 117 (zu1 v2 v3 v4 v5 A0 A1) m Q):jp 117 2 [.str v2,.int .i64 v3,v4,v5,.bool A0,A1] m Q:=nE zv5 h
def zu0(v2:List Nat)(v3:Int)(v4 v8:zA):T:=
 .call 153 [v4] fun a0=>
 .range (npC yA) a0 6 1 [v8]
 (.light (fun m=>mA yA 32 ⟨0,m⟩ v8) fun a1=>.light (fun m=>xK yA 32 9 ⟨0,m⟩ a1) fun a2=>.asS a2 fun s3=>.ret (.tup [.str s3,.int .i64 0]))
 (.ret (.tup [.str v2,.int .i64 v3]))
def z6c(v2:List Nat)(v3:Int)(v4 v8:zA)(h:wp 117 (zu0 v2 v3 v4 v8) m Q):jp 117 29 [.str v2,.int .i64 v3,v4,v8] m Q:=nE zv5 h
def z3q(v8:zA)(v41:Int):T:=
 .call 154 [(.int .u64 (tA .u64 v41)),.int .i64 10] fun a0=>
 .asS a0 fun s1=>.light (fun m=>mA yA 32 ⟨0,m⟩ v8) fun a2=>.opt (yC a2) fun a3=>.asI .i64 a3 fun n4=>.ite (vC 1 n4)
 (.jump 10 [v8,.str s1,(.int .i64 (tA .i64 (9-(Int.ofNat (aA s1))))),.int .i64 0])
 (.light (fun m=>mA yA 32 ⟨0,m⟩ v8) fun a5=>.opt (yC a5) fun a6=>.asI .i64 a6 fun n7=>.ite (uB n7 1)
 (.light (fun m=>mA yA 32 ⟨0,m⟩ v8) fun a8=>.opt (zC yA 32 a8 (.int .i64 0)) fun a9=>.light (fun m=>mA yA 5 ⟨0,m⟩ a9) fun xD=>.asI .u8 xD fun n11=>.ite (!uB n11 45)
 (.jump 10 [v8,.str s1,(.int .i64 (tA .i64 (9-(Int.ofNat (aA s1))))),.int .i64 0])
 (.light (fun m=>mA yA 32 ⟨0,m⟩ v8) fun a12=>.heavy (bE yA 32 9 a12 (.str s1)) fun a13=>
 .heavy (sC yA 32 v8 a13) fun _=>
 .ret (.bool true)))
 (.light (fun m=>mA yA 32 ⟨0,m⟩ v8) fun a14=>.heavy (bE yA 32 9 a14 (.str s1)) fun a15=>
 .heavy (sC yA 32 v8 a15) fun _=>
 .ret (.bool true)))
def j117_6(v8:zA)(v41:Int)(h:wp 117 (z3q v8 v41) m Q):jp 117 6 [v8,.int .u32 v41] m Q:=nE zv5 h
def zls(v8:zA)(v10:List Nat)(v61 v62:Int):T:=
 .ite (vC v62 v61)
 (.light (fun m=>mA yA 32 ⟨0,m⟩ v8) fun a0=>.heavy (dG yA 32 1 [(0,(.int .u8 48))]) fun a1=>
 .heavy (bE yA 32 32 a0 a1) fun a2=>
 .heavy (sC yA 32 v8 a2) fun _=>
 .jump 10 [v8,.str v10,.int .i64 v61,(.int .i64 (tA .i64 (v62+1)))])
 (.light (fun m=>mA yA 32 ⟨0,m⟩ v8) fun a3=>.heavy (bE yA 32 9 a3 (.str v10)) fun a4=>
 .heavy (sC yA 32 v8 a4) fun _=>
 .ret (.bool true))
def zxc(v8:zA)(v10:List Nat)(v61 v62:Int)(h:wp 117 (zls v8 v10 v61 v62) m Q):jp 117 10 [v8,.str v10,.int .i64 v61,.int .i64 v62] m Q:=nE zv5 h
def t118 (A0:Bool)(A1:zA)(A2:Bool)(A3:zA):T:=
 .call 149 [.agg [.bool A2,A3]] fun a0=>
 .asB a0 fun b1=>.ret (.bool b1)
def w118(A0:Bool)(A1:zA)(A2:Bool)(A3:zA)(h:wp 118 (t118 A0 A1 A2 A3) m Q):Wf 118 [.agg [.bool A0,A1,.bool A2,A3]] m Q:=aB ok118 h
def t119 (p0 p1:List Nat):T:=
 .call 155 [.str p0,.str p1] fun a0=>
 .asB a0 fun b1=>.ite b1
 (.opt (gF yA 9 H0A (.str p0) (some (.int .i64 (Int.ofNat (aA p1)))) none) fun a2=>.asS a2 fun s3=>.ret (.str s3))
 (.ret (.str p0))
def w119(p0 p1:List Nat)(h:wp 119 (t119 p0 p1) m Q):Wf 119 [.str p0,.str p1] m Q:=aB ok119 h
def t120 (p0 p1:List Nat):T:=
 .call 156 [.str p0,.str p1] fun a0=>
 .opt (zD 0 a0) fun a1=>.asS a1 fun s2=>.opt (zD 1 a0) fun a3=>.asB a3 fun b4=>.ret (.tup [.str s2,.bool b4])
def w120(p0 p1:List Nat)(h:wp 120 (t120 p0 p1) m Q):Wf 120 [.str p0,.str p1] m Q:=aB ok120 h
def t121 (p0:Int):T:=
 .ite (sD 0 p0)
 (.ret (.bool (vC p0 65536)))
 (.ret (.bool false))
def w121(p0:Int)(h:wp 121 (t121 p0) m Q):Wf 121 [.int .i64 p0] m Q:=aB ok121 h
def t122 (p0:Int):T:=
 .heavy (zq0 (.int .i64 p0)) fun a0=>
 .call 157 [.int .i64 2154,(.func (.func 158) [] [a0])] fun a1=>
 .asI .i64 a1 fun n2=>.ret (.int .i64 n2)
def w122(p0:Int)(h:wp 122 (t122 p0) m Q):Wf 122 [.int .i64 p0] m Q:=aB ok122 h
def t123 (p0:Int):T:=
 .call 159 [(.int .i64 (tA .i64 ((tA .i64 (1900+(tA .i64 (Int.tdiv p0 12))))-1)))] fun a0=>
 .asI .i64 a0 fun n1=>.call 159 [.int .i64 1899] fun a2=>
 .asI .i64 a2 fun n3=>.jump 2 [.int .i64 p0,(.int .i64 (tA .i64 (1900+(tA .i64 (Int.tdiv p0 12))))),(.int .i64 (tA .i64 ((tA .i64 ((tA .i64 (365*(tA .i64 ((tA .i64 (1900+(tA .i64 (Int.tdiv p0 12))))-1900))))+n1))-n3))),.int .i64 1]
def w123(p0:Int)(h:wp 123 (t123 p0) m Q):Wf 123 [.int .i64 p0] m Q:=aB ok123 h
def t123_2(v0 v3 v4 v5:Int):T:=
 .ite (sD v5 (Int.tmod v0 12))
 (.call 160 [.int .i64 v3,.int .i64 v5] fun a0=>
 .asI .i64 a0 fun n1=>.jump 2 [.int .i64 v0,.int .i64 v3,(.int .i64 (tA .i64 (v4+n1))),(.int .i64 (tA .i64 (v5+1)))])
 (.ret (.int .i64 v4))
def zxb(v0 v3 v4 v5:Int)(h:wp 123 (t123_2 v0 v3 v4 v5) m Q):jp 123 2 [.int .i64 v0,.int .i64 v3,.int .i64 v4,.int .i64 v5] m Q:=nE ok123 h
def t147 (A0:Bool)(A1:zA)(A2:Bool)(A3:zA):T:=
 .opt (yC A1) fun a0=>.asI .i64 a0 fun n1=>.ite (vC 256 n1)
 (.ret (.bool true))
 (.opt (yC A3) fun a2=>.asI .i64 a2 fun n3=>.ret (.bool (vC 256 n3)))
def w147(A0:Bool)(A1:zA)(A2:Bool)(A3:zA)(h:wp 147 (t147 A0 A1 A2 A3) m Q):Wf 147 [.agg [.bool A0,A1,.bool A2,A3]] m Q:=aB ok147 h
def t148 (A0:Bool)(A1:zA):T:=
 .opt (yC A1) fun a0=>.asI .i64 a0 fun n1=>.ite (uB n1 0)
 (.ret (.bool (!A0)))
 (.ite (sD n1 1024)
 (.opt (zC yA 22 A1 (.int .i64 (tA .i64 (n1-1)))) fun a2=>.light (fun m=>mA yA 50 ⟨0,m⟩ a2) fun a3=>.asI .u16 a3 fun n4=>.ret (.bool (!uB n4 0)))
 (.ret (.bool false)))
def w148(A0:Bool)(A1:zA)(h:wp 148 (t148 A0 A1) m Q):Wf 148 [.agg [.bool A0,A1]] m Q:=aB ok148 h
def t149 (A0:Bool)(A1:zA):T:=
 .ite (!A0)
 (.opt (yC A1) fun a0=>.asI .i64 a0 fun n1=>.ite (uB n1 1)
 (.opt (zC yA 22 A1 (.int .i64 0)) fun a2=>.light (fun m=>mA yA 50 ⟨0,m⟩ a2) fun a3=>.asI .u16 a3 fun n4=>.ret (.bool (uB n4 1)))
 (.ret (.bool false)))
 (.ret (.bool false))
def w149(A0:Bool)(A1:zA)(h:wp 149 (t149 A0 A1) m Q):Wf 149 [.agg [.bool A0,A1]] m Q:=aB ok149 h
def t150 (A0:Bool)(A1:zA)(A2:Bool)(A3:zA):T:=
 .call 172 [.agg [.bool A0,A1],.agg [.bool A2,A3]] fun a0=>
 .opt (zD 0 a0) fun a1=>.asG zz3z a1 fun X2=>
 .opt (zD 1 a0) fun a3=>.asI .i64 a3 fun n4=>.ite (tC zA.one [.bool (X2.b 0),X2.v 1]) (.ite (tC zA.one [.bool (X2.b 0),X2.v 1]) (.ret (.agg [.bool (X2.b 0),X2.v 1])) .fail) .fail
def w150(A0:Bool)(A1:zA)(A2:Bool)(A3:zA)(h:wp 150 (t150 A0 A1 A2 A3) m Q):Wf 150 [.agg [.bool A0,A1],.agg [.bool A2,A3]] m Q:=aB ok150 h
def t151 (p0:zA):T:=
 .opt (yC p0) fun a0=>.asI .i64 a0 fun n1=>.heavy (zN yA 200 (.int .i64 (tA .i64 (Int.tdiv (tA .i64 (n1+1)) 2))) (.int .i64 (tA .i64 (Int.tdiv (tA .i64 (n1+1)) 2)))) fun a2=>
 .opt (yC p0) fun a3=>.asI .i64 a3 fun n4=>.jump 2 [a2,p0,.int .i64 n4,.int .i64 0]
def w151(p0:zA)(h:wp 151 (t151 p0) m Q):Wf 151 [p0] m Q:=aB ok151 h
def zuz(v3 v11:zA)(v12 v13:Int):T:=
 .ite (vC v13 v12)
 (.opt (zC yA 22 v11 (.int .i64 v13)) fun a0=>.light (fun m=>mA yA 50 ⟨0,m⟩ a0) fun a1=>.asI .u16 a1 fun n2=>.opt (zC yA 200 v3 (.int .i64 (tA .i64 (Int.tdiv v13 2)))) fun a3=>.light (fun m=>mA yA 202 ⟨0,m⟩ a3) fun a4=>.asI .u32 a4 fun n5=>.opt (zxi .u32 (tA .u32 n2) (tA .i64 (16*(Int.tmod v13 2)))) fun a6=>.asI .u32 a6 fun n7=>.opt (zH Nat.lor .u32 n5 n7) fun a8=>.asI .u32 a8 fun n9=>.opt (zC yA 200 v3 (.int .i64 (tA .i64 (Int.tdiv v13 2)))) fun xD=>.heavy (sC yA 202 xD (.int .u32 n9)) fun _=>
 .jump 2 [v3,v11,.int .i64 v12,(.int .i64 (tA .i64 (v13+1)))])
 (.ret v3)
def z4h(v3 v11:zA)(v12 v13:Int)(h:wp 151 (zuz v3 v11 v12 v13) m Q):jp 151 2 [v3,v11,.int .i64 v12,.int .i64 v13] m Q:=nE ok151 h
def t152 (p0:zA)(p1:Int):T:=
 .opt (yC p0) fun a0=>.asI .i64 a0 fun n1=>.heavy (zN yA 200 (.int .i64 n1) (.int .i64 n1)) fun a2=>
 .opt (yC p0) fun a3=>.asI .i64 a3 fun n4=>.jump 2 [p0,.int .u32 p1,a2,.int .u32 0,(.int .i64 (tA .i64 (n4-1)))]
def w152(p0:zA)(p1:Int)(h:wp 152 (t152 p0 p1) m Q):Wf 152 [p0,.int .u32 p1] m Q:=aB ok152 h
def zuy(v0:zA)(v1:Int)(v6:zA)(v7 v8:Int):T:=
 .ite (sD 0 v8)
 (.opt (zC yA 200 v0 (.int .i64 v8)) fun a0=>.light (fun m=>mA yA 202 ⟨0,m⟩ a0) fun a1=>.asI .u32 a1 fun n2=>.call 173 [.int .u32 v7,.int .u32 n2,.int .u32 v1] fun a3=>
 .opt (zD 0 a3) fun a4=>.asI .u32 a4 fun n5=>.opt (zD 1 a3) fun a6=>.asI .u32 a6 fun n7=>.opt (zC yA 200 v6 (.int .i64 v8)) fun a8=>.heavy (sC yA 202 a8 (.int .u32 n5)) fun _=>
 .jump 2 [v0,.int .u32 v1,v6,.int .u32 n7,(.int .i64 (tA .i64 (v8-1)))])
 (.call 174 [v6] fun a9=>
 .ret (.tup [a9,.int .u32 v7]))
def z4g(v0:zA)(v1:Int)(v6:zA)(v7 v8:Int)(h:wp 152 (zuy v0 v1 v6 v7 v8) m Q):jp 152 2 [v0,.int .u32 v1,v6,.int .u32 v7,.int .i64 v8] m Q:=nE ok152 h
def t153 (p0:zA):T:=
 .heavy (zq0 p0) fun a0=>
 .ret (.func (.func 175) [] [a0])
def w153(p0:zA)(h:wp 153 (t153 p0) m Q):Wf 153 [p0] m Q:=aB ok153 h
def t155 (p0 p1:List Nat):T:=
 .ite (sD (Int.ofNat (aA p1)) (Int.ofNat (aA p0)))
 (.opt (gF yA 9 H0A (.str p0) none (some (.int .i64 (Int.ofNat (aA p1))))) fun a0=>.asS a0 fun s1=>.ret (.bool (xG s1 p1)))
 (.ret (.bool false))
def w155(p0 p1:List Nat)(h:wp 155 (t155 p0 p1) m Q):Wf 155 [.str p0,.str p1] m Q:=aB ok155 h
def t156 (p0 p1:List Nat):T:=
 .call 155 [.str p0,.str p1] fun a0=>
 .asB a0 fun b1=>.ite (!b1)
 (.ret (.tup [.str p0,.bool false]))
 (.opt (gF yA 9 H0A (.str p0) (some (.int .i64 (Int.ofNat (aA p1)))) none) fun a2=>.asS a2 fun s3=>.ret (.tup [.str s3,.bool true]))
def w156(p0 p1:List Nat)(h:wp 156 (t156 p0 p1) m Q):Wf 156 [.str p0,.str p1] m Q:=aB ok156 h
def t157 (p0:Int)(p1:zA):T:=
 .jump 2 [p1,.int .i64 0,.int .i64 p0]
def w157(p0:Int)(p1:zA)(h:wp 157 (t157 p0 p1) m Q):Wf 157 [.int .i64 p0,p1] m Q:=aB ok157 h
def t157_2(v1:zA)(v5 v6:Int):T:=
 .ite (vC v5 v6)
 (.callv v1 [(.int .i64 (tA .i64 (Int.fdiv (tA .u64 (tA .i64 (v5+v6))) 2)))] fun a0=>
 .asB a0 fun b1=>.ite (!b1)
 (.jump 2 [v1,(.int .i64 (tA .i64 ((tA .i64 (Int.fdiv (tA .u64 (tA .i64 (v5+v6))) 2))+1))),.int .i64 v6])
 (.jump 2 [v1,.int .i64 v5,(.int .i64 (tA .i64 (Int.fdiv (tA .u64 (tA .i64 (v5+v6))) 2)))]))
 (.ret (.int .i64 v5))
def zxa(v1:zA)(v5 v6:Int)(h:wp 157 (t157_2 v1 v5 v6) m Q):jp 157 2 [v1,.int .i64 v5,.int .i64 v6] m Q:=nE ok157 h
def t158 (p0:Int)(w0:zA):T:=
 .light (fun m=>mA yA 3 ⟨0,m⟩ w0) fun a0=>.asI .i64 a0 fun n1=>.call 123 [(.int .i64 (tA .i64 (p0+1)))] fun a2=>
 .asI .i64 a2 fun n3=>.light (fun m=>mA yA 3 ⟨0,m⟩ w0) fun a4=>.ite (same 10 a4 (.int .i64 n1)) (.ret (.bool (vC n1 n3))) .fail
def w158(p0:Int)(w0:zA)(h:wp 158 (t158 p0 w0) m Q):Wf 158 [.int .i64 p0,w0] m Q:=aB ok158 h
def t159 (p0:Int):T:=
 .ret (.int .i64 (tA .i64 ((tA .i64 ((tA .i64 (Int.tdiv p0 4))-(tA .i64 (Int.tdiv p0 100))))+(tA .i64 (Int.tdiv p0 400)))))
def w159(p0:Int)(h:wp 159 (t159 p0) m Q):Wf 159 [.int .i64 p0] m Q:=aB ok159 h
def t160 (p0 p1:Int):T:=
 .ite (vC p1 1)
 (.ret (.int .i64 0))
 (.ite (vC 12 p1)
 (.ret (.int .i64 0))
 (.ite (uB p1 2)
 (.call 177 [.int .i64 p0] fun a0=>
 .asB a0 fun b1=>.ite b1
 (.ret (.int .i64 29))
 (.opt (zC yA 220 (.ptr 2 0) (.int .i64 (tA .i64 (p1-1)))) fun a2=>.light (fun m=>mA yA 3 ⟨0,m⟩ a2) fun a3=>.asI .i64 a3 fun n4=>.ret (.int .i64 n4)))
 (.opt (zC yA 220 (.ptr 2 0) (.int .i64 (tA .i64 (p1-1)))) fun a5=>.light (fun m=>mA yA 3 ⟨0,m⟩ a5) fun a6=>.asI .i64 a6 fun n7=>.ret (.int .i64 n7))))
def w160(p0 p1:Int)(h:wp 160 (t160 p0 p1) m Q):Wf 160 [.int .i64 p0,.int .i64 p1] m Q:=aB ok160 h
def t172 (A0:Bool)(A1:zA)(A2:Bool)(A3:zA):T:=
 .heavy (dG yA 237 2 [(0,(.agg [.bool A0,A1])),(1,(.agg [.bool A2,A3]))]) fun a0=>
 .call 192 [a0] fun a1=>
 .asB a1 fun b2=>.ite (!b2)
 (.ite true (.ite true (.ret (.tup [.agg [.bool false,.nilslice],.int .i64 2])) .fail) .fail)
 (.call 151 [A1] fun a3=>
 .ite (same 10 A3 A3) (.call 151 [A3] fun a4=>
 .call 194 [a3,a4] fun a5=>
 .call 193 [.bool false,a5] fun a6=>
 .asG zz3z a6 fun X7=>
 .ite (tC zA.one [.bool (X7.b 0),X7.v 1]) (.ret (.tup [(.agg [.bool (X7.b 0),X7.v 1]),.int .i64 0])) .fail) .fail)
def w172(A0:Bool)(A1:zA)(A2:Bool)(A3:zA)(h:wp 172 (t172 A0 A1 A2 A3) m Q):Wf 172 [.agg [.bool A0,A1],.agg [.bool A2,A3]] m Q:=aB ok172 h
def t173 (p0 p1 p2:Int):T:=
 .ite (!uB p2 0)
 (.ite (sD p2 p0)
 (.light (fun m=>mA yA 82 ⟨0,m⟩ (.ptr 4 0)) fun a0=>.fail)
 (.jump 7 [.int .u32 p0,.int .u32 p1,.int .u32 p2]))
 (.jump 7 [.int .u32 p0,.int .u32 p1,.int .u32 p2])
def w173(p0 p1 p2:Int)(h:wp 173 (t173 p0 p1 p2) m Q):Wf 173 [.int .u32 p0,.int .u32 p1,.int .u32 p2] m Q:=aB ok173 h
def z3p(v0 v1 v2:Int):T:=
 .opt (zH Nat.lor .u64 (tA .u64 ((tA .u64 v0)*4294967296)) (tA .u64 v1)) fun a0=>.asI .u64 a0 fun n1=>.opt (z1r .u64 n1 (tA .u64 v2)) fun a2=>.asI .u64 a2 fun n3=>.opt (zzo .u64 n1 (tA .u64 v2)) fun a4=>.asI .u64 a4 fun n5=>.ret (.tup [(.int .u32 (tA .u32 n3)),(.int .u32 (tA .u32 n5))])
def j173_7(v0 v1 v2:Int)(h:wp 173 (z3p v0 v1 v2) m Q):jp 173 7 [.int .u32 v0,.int .u32 v1,.int .u32 v2] m Q:=nE ok173 h
def t174 (p0:zA):T:=
 .jump 2 [p0]
def w174(p0:zA)(h:wp 174 (t174 p0) m Q):Wf 174 [p0] m Q:=aB ok174 h
def zol(v0:zA):T:=
 .opt (yC v0) fun a0=>.asI .i64 a0 fun n1=>.ite (vC 0 n1)
 (.opt (yC v0) fun a2=>.asI .i64 a2 fun n3=>.opt (zC yA 200 v0 (.int .i64 (tA .i64 (n3-1)))) fun a4=>.light (fun m=>mA yA 202 ⟨0,m⟩ a4) fun a5=>.asI .u32 a5 fun n6=>.ite (uB n6 0)
 (.opt (yC v0) fun a7=>.asI .i64 a7 fun n8=>.light (fun m=>gF yA 200 ⟨0,m⟩ v0 none (some (.int .i64 (tA .i64 (n8-1))))) fun a9=>.jump 2 [a9])
 (.ret v0))
 (.ret v0)
def zw9(v0:zA)(h:wp 174 (zol v0) m Q):jp 174 2 [v0] m Q:=nE ok174 h
def t175 (p0 w0:zA):T:=
 .light (fun m=>mA yA 200 ⟨0,m⟩ w0) fun a0=>.opt (yC a0) fun a1=>.asI .i64 a1 fun n2=>.jump 2 [p0,w0,(.int .i64 (tA .i64 (n2-1)))]
def w175(p0 w0:zA)(h:wp 175 (t175 p0 w0) m Q):Wf 175 [p0,w0] m Q:=aB ok175 h
def zux(v0 v1:zA)(v3:Int):T:=
 .ite (sD 0 v3)
 (.light (fun m=>mA yA 200 ⟨0,m⟩ v1) fun a0=>.opt (zC yA 200 a0 (.int .i64 v3)) fun a1=>.light (fun m=>mA yA 202 ⟨0,m⟩ a1) fun a2=>.asI .u32 a2 fun n3=>.callv v0 [.int .u32 n3] fun a4=>
 .asB a4 fun b5=>.ite (!b5)
 (.ret (.tup []))
 (.jump 2 [v0,v1,(.int .i64 (tA .i64 (v3-1)))]))
 (.ret (.tup []))
def z4f(v0 v1:zA)(v3:Int)(h:wp 175 (zux v0 v1 v3) m Q):jp 175 2 [v0,v1,.int .i64 v3] m Q:=nE ok175 h
def t177 (p0:Int):T:=
 .ite (uB (Int.tmod p0 4) 0)
 (.ite (!uB (Int.tmod p0 100) 0)
 (.ret (.bool true))
 (.ret (.bool (uB (Int.tmod p0 400) 0))))
 (.ret (.bool false))
def w177(p0:Int)(h:wp 177 (t177 p0) m Q):Wf 177 [.int .i64 p0] m Q:=aB ok177 h
def t192 (p0:zA):T:=
 .opt (yC p0) fun a0=>.asI .i64 a0 fun n1=>.jump 2 [p0,.int .i64 n1,.int .i64 0]
def w192(p0:zA)(h:wp 192 (t192 p0) m Q):Wf 192 [p0] m Q:=aB ok192 h
def zuw(v5:zA)(v6 v7:Int):T:=
 .ite (vC v7 v6)
 (.opt (zC yA 237 v5 (.int .i64 v7)) fun a0=>.light (fun m=>mA yA 24 ⟨0,m⟩ a0) fun a1=>.asG zz3z a1 fun X2=>
 .ite (tC zA.one [.bool (X2.b 0),X2.v 1]) (.call 148 [(.agg [.bool (X2.b 0),X2.v 1])] fun a3=>
 .asB a3 fun b4=>.ite (!b4)
 (.ret (.bool false))
 (.jump 2 [v5,.int .i64 v6,(.int .i64 (tA .i64 (v7+1)))])) .fail)
 (.ret (.bool true))
def z4e(v5:zA)(v6 v7:Int)(h:wp 192 (zuw v5 v6 v7) m Q):jp 192 2 [v5,.int .i64 v6,.int .i64 v7] m Q:=nE ok192 h
def t193 (p0:Bool)(p1:zA):T:=
 .call 174 [p1] fun a0=>
 .opt (yC a0) fun a1=>.asI .i64 a1 fun n2=>.ite (uB n2 0)
 (.ite true (.ite true (.ret (.agg [.bool false,.nilslice])) .fail) .fail)
 (.opt (yC a0) fun a3=>.asI .i64 a3 fun n4=>.heavy (zN yA 22 (.int .i64 (tA .i64 (2*n4))) (.int .i64 (tA .i64 (2*n4)))) fun a5=>
 .opt (yC a0) fun a6=>.asI .i64 a6 fun n7=>.jump 2 [.bool p0,a5,a0,.int .i64 n7,.int .i64 0,.bool false,.nilslice])
def w193(p0:Bool)(p1:zA)(h:wp 193 (t193 p0 p1) m Q):Wf 193 [.bool p0,p1] m Q:=aB ok193 h
def zuv(v0:Bool)(v5 v18:zA)(v19 v20:Int)(A0:Bool)(A1:zA):T:=
 .ite (vC v20 v19)
 (.opt (zC yA 200 v18 (.int .i64 v20)) fun a0=>.light (fun m=>mA yA 202 ⟨0,m⟩ a0) fun a1=>.asI .u32 a1 fun n2=>.opt (zC yA 22 v5 (.int .i64 (tA .i64 (2*v20)))) fun a3=>.heavy (sC yA 50 a3 (.int .u16 (tA .u16 n2))) fun _=>
 .opt (zC yA 22 v5 (.int .i64 (tA .i64 ((tA .i64 (2*v20))+1)))) fun a4=>.heavy (sC yA 50 a4 (.int .u16 (tA .u16 (Int.fdiv n2 65536)))) fun _=>
 .jump 2 [.bool v0,v5,v18,.int .i64 v19,(.int .i64 (tA .i64 (v20+1))),.bool A0,A1])
 (.opt (yC v5) fun a5=>.asI .i64 a5 fun n6=>.opt (zC yA 22 v5 (.int .i64 (tA .i64 (n6-1)))) fun a7=>.light (fun m=>mA yA 50 ⟨0,m⟩ a7) fun a8=>.asI .u16 a8 fun n9=>.ite (uB n9 0)
 (.opt (yC v5) fun xD=>.asI .i64 xD fun n11=>.light (fun m=>gF yA 22 ⟨0,m⟩ v5 none (some (.int .i64 (tA .i64 (n11-1))))) fun a12=>.ite (tC zA.one [.bool v0,a12]) (.ite (tC zA.one [.bool v0,a12]) (.ret (.agg [.bool v0,a12])) .fail) .fail)
 (.ite (tC zA.one [.bool v0,v5]) (.ite (tC zA.one [.bool v0,v5]) (.ret (.agg [.bool v0,v5])) .fail) .fail))
def z4d(v0:Bool)(v5 v18:zA)(v19 v20:Int)(A0:Bool)(A1:zA)(h:wp 193 (zuv v0 v5 v18 v19 v20 A0 A1) m Q):jp 193 2 [.bool v0,v5,v18,.int .i64 v19,.int .i64 v20,.bool A0,A1] m Q:=nE ok193 h
def t194 (p0 p1:zA):T:=
 .call 203 [p0,p1] fun a0=>
 .asI .i64 a0 fun n1=>.ite (vC n1 0)
 (.jump 2 [p1,p0])
 (.jump 2 [p0,p1])
def w194(p0 p1:zA)(h:wp 194 (t194 p0 p1) m Q):Wf 194 [p0,p1] m Q:=aB z00 h
def z3n(v0 v1:zA):T:=
 .opt (yC v1) fun a0=>.asI .i64 a0 fun n1=>.ite (vC 2 n1)
 (.call 204 [v0,v1] fun a2=>
 .asG [.int .u64 0,.int .u64 0,.int .u64 0,.int .u64 0,.bool false] a2 fun X3=>
 .ite true (.ite (uB (X3.i 2) 0)
 (.call 205 [v0,v1] fun a4=>
 .opt (zD 0 a4) fun a5=>.opt (zD 1 a4) fun a6=>.jump 2 [v1,a6])
 (.ite (X3.b 4)
 (.call 206 [.int .u64 (X3.i 0),v0,.int .u64 (X3.i 2),v1] fun a7=>
 .ite (same 10 (.int .u64 (X3.i 3)) (.int .u64 (X3.i 3))) (.ite (same 10 (.int .u64 (X3.i 1)) (.int .u64 (X3.i 1))) (.call 206 [.int .u64 (X3.i 3),v1,.int .u64 (X3.i 1),v0] fun a8=>
 .jump 2 [a7,a8]) .fail) .fail)
 (.call 206 [.int .u64 (X3.i 2),v1,.int .u64 (X3.i 0),v0] fun a9=>
 .ite (same 10 (.int .u64 (X3.i 1)) (.int .u64 (X3.i 1))) (.ite (same 10 (.int .u64 (X3.i 3)) (.int .u64 (X3.i 3))) (.call 206 [.int .u64 (X3.i 1),v0,.int .u64 (X3.i 3),v1] fun xD=>
 .jump 2 [a9,xD]) .fail) .fail))) .fail)
 (.opt (yC v1) fun tE=>.asI .i64 tE fun n12=>.ite (uB n12 0)
 (.ret v0)
 (.opt (yC v0) fun a13=>.asI .i64 a13 fun n14=>.ite (vC 2 n14)
 (.call 205 [v0,v1] fun a15=>
 .opt (zD 0 a15) fun a16=>.opt (zD 1 a15) fun a17=>.jump 33 [v1,a17])
 (.jump 33 [v0,v1])))
def j194_2(v0 v1:zA)(h:wp 194 (z3n v0 v1) m Q):jp 194 2 [v0,v1] m Q:=nE z00 h
def zuu(v0 v1:zA):T:=
 .call 207 [v0] fun a0=>
 .asI .u64 a0 fun n1=>.call 207 [v1] fun a2=>
 .asI .u64 a2 fun n3=>.jump 6 [.int .u64 n1,.int .u64 n3]
def z6b(v0 v1:zA)(h:wp 194 (zuu v0 v1) m Q):jp 194 33 [v0,v1] m Q:=nE z00 h
def z3m(v10 v11:Int):T:=
 .ite (!uB v11 0)
 (.opt (zzo .u64 v10 v11) fun a0=>.asI .u64 a0 fun n1=>.jump 6 [.int .u64 v11,.int .u64 n1])
 (.call 208 [.int .u64 v10] fun a2=>
 .ret a2)
def j194_6(v10 v11:Int)(h:wp 194 (z3m v10 v11) m Q):jp 194 6 [.int .u64 v10,.int .u64 v11] m Q:=nE z00 h
def t203 (p0 p1:zA):T:=
 .opt (yC p0) fun a0=>.asI .i64 a0 fun n1=>.opt (yC p1) fun a2=>.asI .i64 a2 fun n3=>.ite (!uB n1 n3)
 (.opt (yC p0) fun a4=>.asI .i64 a4 fun n5=>.opt (yC p1) fun a6=>.asI .i64 a6 fun n7=>.ite (vC n5 n7)
 (.ret (.int .i64 (-1)))
 (.ret (.int .i64 1)))
 (.opt (yC p0) fun a8=>.asI .i64 a8 fun n9=>.jump 2 [p0,p1,(.int .i64 (tA .i64 (n9-1)))])
def w203(p0 p1:zA)(h:wp 203 (t203 p0 p1) m Q):Wf 203 [p0,p1] m Q:=aB ok203 h
def zut(v0 v1:zA)(v5:Int):T:=
 .ite (sD 0 v5)
 (.opt (zC yA 200 v0 (.int .i64 v5)) fun a0=>.light (fun m=>mA yA 202 ⟨0,m⟩ a0) fun a1=>.asI .u32 a1 fun n2=>.opt (zC yA 200 v1 (.int .i64 v5)) fun a3=>.light (fun m=>mA yA 202 ⟨0,m⟩ a3) fun a4=>.asI .u32 a4 fun n5=>.ite (!uB n2 n5)
 (.opt (zC yA 200 v0 (.int .i64 v5)) fun a6=>.light (fun m=>mA yA 202 ⟨0,m⟩ a6) fun a7=>.asI .u32 a7 fun n8=>.opt (zC yA 200 v1 (.int .i64 v5)) fun a9=>.light (fun m=>mA yA 202 ⟨0,m⟩ a9) fun xD=>.asI .u32 xD fun n11=>.ite (vC n8 n11)
 (.ret (.int .i64 (-1)))
 (.ret (.int .i64 1)))
 (.jump 2 [v0,v1,(.int .i64 (tA .i64 (v5-1)))]))
 (.ret (.int .i64 0))
def z4c(v0 v1:zA)(v5:Int)(h:wp 203 (zut v0 v1 v5) m Q):jp 203 2 [v0,v1,.int .i64 v5] m Q:=nE ok203 h
def t204 (p0 p1:zA):T:=
 .opt (yC p0) fun a0=>.asI .i64 a0 fun n1=>.opt (zC yA 200 p0 (.int .i64 (tA .i64 (n1-1)))) fun a2=>.light (fun m=>mA yA 202 ⟨0,m⟩ a2) fun a3=>.asI .u32 a3 fun n4=>.call 212 [.int .u32 n4] fun a5=>
 .asI .i64 a5 fun n6=>.call 213 [p0,.int .i64 n1,.int .i64 n6] fun a7=>
 .asI .u64 a7 fun n8=>.call 213 [p1,.int .i64 n1,.int .i64 n6] fun a9=>
 .asI .u64 a9 fun n10=>.ite true (.ite true (.jump 2 [.int .u64 n8,.int .u64 n10,.int .u64 0,.int .u64 1,.int .u64 0,.int .u64 0,.int .u64 0,.int .u64 0,.bool false,.int .u64 0,.int .u64 1,.int .u64 0,.int .u64 0,.bool false]) .fail) .fail
def w204(p0 p1:zA)(h:wp 204 (t204 p0 p1) m Q):Wf 204 [p0,p1] m Q:=aB ok204 h
def z3l(v7 v8 v10 v11 A0 A1 A2 A3:Int)(A4:Bool)(A5 A6 A7 A8:Int)(A9:Bool):T:=
 .ite (sD v11 v8)
 (.ite (sD (tA .u64 (A8+v11)) (tA .u64 (v7-v8)))
 (.opt (z1r .u64 v7 v8) fun a0=>.asI .u64 a0 fun n1=>.opt (zzo .u64 v7 v8) fun a2=>.asI .u64 a2 fun n3=>.ite true (.ite true (.ite true (.ite true (.ite true (.jump 2 [.int .u64 v8,.int .u64 n3,(.int .u64 (tA .u64 (A6+(tA .u64 (n1*v10))))),(.int .u64 (tA .u64 (A8+(tA .u64 (n1*v11))))),.int .u64 A0,.int .u64 A1,.int .u64 A2,.int .u64 A3,.bool A4,.int .u64 A6,.int .u64 v10,.int .u64 A8,.int .u64 v11,(.bool (!A9))]) .fail) .fail) .fail) .fail) .fail)
 (.ite true (.ret (.agg [.int .u64 A5,.int .u64 A6,.int .u64 A7,.int .u64 A8,.bool A9])) .fail))
 (.ite true (.ret (.agg [.int .u64 A5,.int .u64 A6,.int .u64 A7,.int .u64 A8,.bool A9])) .fail)
def j204_2(v7 v8 v10 v11 A0 A1 A2 A3:Int)(A4:Bool)(A5 A6 A7 A8:Int)(A9:Bool)(h:wp 204 (z3l v7 v8 v10 v11 A0 A1 A2 A3 A4 A5 A6 A7 A8 A9) m Q):jp 204 2 [.int .u64 v7,.int .u64 v8,.int .u64 v10,.int .u64 v11,.int .u64 A0,.int .u64 A1,.int .u64 A2,.int .u64 A3,.bool A4,.int .u64 A5,.int .u64 A6,.int .u64 A7,.int .u64 A8,.bool A9] m Q:=nE ok204 h
def t205 (p0 p1:zA):T:=
 .call 203 [p0,p1] fun a0=>
 .asI .i64 a0 fun n1=>.ite (vC n1 0)
 (.call 214 [p0] fun a2=>
 .ret (.tup [.nilslice,a2]))
 (.opt (yC p1) fun a3=>.asI .i64 a3 fun n4=>.ite (uB n4 1)
 (.opt (zC yA 200 p1 (.int .i64 0)) fun a5=>.light (fun m=>mA yA 202 ⟨0,m⟩ a5) fun a6=>.asI .u32 a6 fun n7=>.call 152 [p0,.int .u32 n7] fun a8=>
 .opt (zD 0 a8) fun a9=>.opt (zD 1 a8) fun xD=>.asI .u32 xD fun n11=>.heavy (dG yA 200 1 [(0,(.int .u32 n11))]) fun a12=>
 .call 174 [a12] fun a13=>
 .ret (.tup [a9,a13]))
 (.opt (yC p1) fun a14=>.asI .i64 a14 fun n15=>.opt (zC yA 200 p1 (.int .i64 (tA .i64 (n15-1)))) fun a16=>.light (fun m=>mA yA 202 ⟨0,m⟩ a16) fun a17=>.asI .u32 a17 fun n18=>.call 212 [.int .u32 n18] fun a19=>
 .asI .i64 a19 fun n20=>.call 215 [p1,.int .i64 n20] fun a21=>
 .light (fun m=>gF yA 200 ⟨0,m⟩ a21 none (some (.int .i64 n15))) fun a22=>.call 215 [p0,.int .i64 n20] fun a23=>
 .opt (yC p0) fun a24=>.asI .i64 a24 fun n25=>.heavy (zN yA 200 (.int .i64 (tA .i64 ((tA .i64 (n25-n15))+1))) (.int .i64 (tA .i64 ((tA .i64 (n25-n15))+1)))) fun a26=>
 .opt (yC a26) fun a27=>.asI .i64 a27 fun n28=>.jump 2 [.int .i64 n15,.int .i64 n20,a22,a23,a26,(.int .i64 (tA .i64 (n28-1)))]))
def w205(p0 p1:zA)(h:wp 205 (t205 p0 p1) m Q):Wf 205 [p0,p1] m Q:=aB z5r h
def zus(v8 v9:Int)(v10 v11 v12:zA)(v13:Int):T:=
 .ite (sD 0 v13)
 (.light (fun m=>gF yA 200 ⟨0,m⟩ v11 (some (.int .i64 v13)) (some (.int .i64 (tA .i64 ((tA .i64 (v13+v8))+1))))) fun a0=>.call 216 [a0,v10] fun a1=>
 .asI .u32 a1 fun n2=>.opt (zC yA 200 v12 (.int .i64 v13)) fun a3=>.heavy (sC yA 202 a3 (.int .u32 n2)) fun _=>
 .jump 2 [.int .i64 v8,.int .i64 v9,v10,v11,v12,(.int .i64 (tA .i64 (v13-1)))])
 (.jump 6 [.int .i64 v8,.int .i64 v9,v11,v12,.int .i64 v8,.int .i64 0])
def z4b(v8 v9:Int)(v10 v11 v12:zA)(v13:Int)(h:wp 205 (zus v8 v9 v10 v11 v12 v13) m Q):jp 205 2 [.int .i64 v8,.int .i64 v9,v10,v11,v12,.int .i64 v13] m Q:=nE z5r h
def zur(v8 v9:Int)(v11 v12:zA)(v77 v78:Int):T:=
 .ite (vC v78 v77)
 (.opt (zC yA 200 v11 (.int .i64 (tA .i64 (v78+1)))) fun a0=>.light (fun m=>mA yA 202 ⟨0,m⟩ a0) fun a1=>.asI .u32 a1 fun n2=>.opt (zC yA 200 v11 (.int .i64 v78)) fun a3=>.light (fun m=>mA yA 202 ⟨0,m⟩ a3) fun a4=>.asI .u32 a4 fun n5=>.opt (zH Nat.lor .u64 (tA .u64 ((tA .u64 n2)*4294967296)) (tA .u64 n5)) fun a6=>.asI .u64 a6 fun n7=>.opt (z6g .u64 n7 v9) fun a8=>.asI .u64 a8 fun n9=>.opt (zC yA 200 v11 (.int .i64 v78)) fun xD=>.heavy (sC yA 202 xD (.int .u32 (tA .u32 n9))) fun _=>
 .jump 6 [.int .i64 v8,.int .i64 v9,v11,v12,.int .i64 v77,(.int .i64 (tA .i64 (v78+1)))])
 (.light (fun m=>gF yA 200 ⟨0,m⟩ v11 none (some (.int .i64 v8))) fun tE=>.call 174 [v12] fun a12=>
 .light (fun m=>gF yA 200 ⟨0,m⟩ v11 none (some (.int .i64 v8))) fun a13=>.ite (same 10 a13 tE) (.call 174 [tE] fun a14=>
 .ret (.tup [a12,a14])) .fail)
def z4a(v8 v9:Int)(v11 v12:zA)(v77 v78:Int)(h:wp 205 (zur v8 v9 v11 v12 v77 v78) m Q):jp 205 6 [.int .i64 v8,.int .i64 v9,v11,v12,.int .i64 v77,.int .i64 v78] m Q:=nE z5r h
def t206 (p0:Int)(p1:zA)(p2:Int)(p3:zA):T:=
 .opt (yC p1) fun a0=>.asI .i64 a0 fun n1=>.opt (yC p3) fun a2=>.asI .i64 a2 fun n3=>.heavy (zN yA 200 (.int .i64 (tA .i64 ((bif vC n1 n3 then n3 else n1)+1))) (.int .i64 (tA .i64 ((bif vC n1 n3 then n3 else n1)+1)))) fun a4=>
 .opt (yC a4) fun a5=>.asI .i64 a5 fun n6=>.jump 2 [.int .u64 p0,p1,.int .u64 p2,p3,a4,.int .u64 0,.int .u64 0,.int .u32 0,.int .i64 n6,.int .i64 0]
def w206(p0:Int)(p1:zA)(p2:Int)(p3:zA)(h:wp 206 (t206 p0 p1 p2 p3) m Q):Wf 206 [.int .u64 p0,p1,.int .u64 p2,p3] m Q:=aB z0z h
def zup(v0:Int)(v1:zA)(v2:Int)(v3 v9:zA)(v10 v11 v12 v22 v23:Int):T:=
 .ite (vC v23 v22)
 (.opt (yC v1) fun a0=>.asI .i64 a0 fun n1=>.ite (vC v23 n1)
 (.opt (zC yA 200 v1 (.int .i64 v23)) fun a2=>.light (fun m=>mA yA 202 ⟨0,m⟩ a2) fun a3=>.asI .u32 a3 fun n4=>.jump 17 [.int .u64 v0,v1,.int .u64 v2,v3,v9,(.int .u64 (tA .u64 (v10+(tA .u64 (v0*(tA .u64 n4)))))),.int .u64 v11,.int .u32 v12,.int .i64 v23,.int .i64 v22,.int .i64 v23])
 (.jump 17 [.int .u64 v0,v1,.int .u64 v2,v3,v9,.int .u64 v10,.int .u64 v11,.int .u32 v12,.int .i64 v23,.int .i64 v22,.int .i64 v23]))
 (.call 174 [v9] fun a5=>
 .ret a5)
def z39(v0:Int)(v1:zA)(v2:Int)(v3 v9:zA)(v10 v11 v12 v22 v23:Int)(h:wp 206 (zup v0 v1 v2 v3 v9 v10 v11 v12 v22 v23) m Q):jp 206 2 [.int .u64 v0,v1,.int .u64 v2,v3,v9,.int .u64 v10,.int .u64 v11,.int .u32 v12,.int .i64 v22,.int .i64 v23] m Q:=nE z0z h
def zuq(v0:Int)(v1:zA)(v2:Int)(v3 v9:zA)(v10 v11 v12 v13 v22 v23:Int):T:=
 .opt (yC v3) fun a0=>.asI .i64 a0 fun n1=>.ite (vC v13 n1)
 (.opt (zC yA 200 v3 (.int .i64 v13)) fun a2=>.light (fun m=>mA yA 202 ⟨0,m⟩ a2) fun a3=>.asI .u32 a3 fun n4=>.jump 21 [.int .u64 v0,v1,.int .u64 v2,v3,v9,.int .u64 v10,(.int .u64 (tA .u64 (v11+(tA .u64 (v2*(tA .u64 n4)))))),.int .u32 v12,.int .i64 v13,.int .i64 v22,.int .i64 v23])
 (.jump 21 [.int .u64 v0,v1,.int .u64 v2,v3,v9,.int .u64 v10,.int .u64 v11,.int .u32 v12,.int .i64 v13,.int .i64 v22,.int .i64 v23])
def z6a(v0:Int)(v1:zA)(v2:Int)(v3 v9:zA)(v10 v11 v12 v13 v22 v23:Int)(h:wp 206 (zuq v0 v1 v2 v3 v9 v10 v11 v12 v13 v22 v23) m Q):jp 206 17 [.int .u64 v0,v1,.int .u64 v2,v3,v9,.int .u64 v10,.int .u64 v11,.int .u32 v12,.int .i64 v13,.int .i64 v22,.int .i64 v23] m Q:=nE z0z h
def zuo(v0:Int)(v1:zA)(v2:Int)(v3 v9:zA)(v10 v11 v12 v13 v22 v23:Int):T:=
 .call 217 [(.int .u32 (tA .u32 v10)),(.int .u32 (tA .u32 v11)),.int .u32 v12] fun a0=>
 .opt (zD 0 a0) fun a1=>.asI .u32 a1 fun n2=>.opt (zD 1 a0) fun a3=>.asI .u32 a3 fun n4=>.opt (zC yA 200 v9 (.int .i64 v13)) fun a5=>.heavy (sC yA 202 a5 (.int .u32 n2)) fun _=>
 .jump 2 [.int .u64 v0,v1,.int .u64 v2,v3,v9,(.int .u64 (Int.fdiv v10 4294967296)),(.int .u64 (Int.fdiv v11 4294967296)),.int .u32 n4,.int .i64 v22,(.int .i64 (tA .i64 (v23+1)))]
def z59(v0:Int)(v1:zA)(v2:Int)(v3 v9:zA)(v10 v11 v12 v13 v22 v23:Int)(h:wp 206 (zuo v0 v1 v2 v3 v9 v10 v11 v12 v13 v22 v23) m Q):jp 206 21 [.int .u64 v0,v1,.int .u64 v2,v3,v9,.int .u64 v10,.int .u64 v11,.int .u32 v12,.int .i64 v13,.int .i64 v22,.int .i64 v23] m Q:=nE z0z h
def t207 (p0:zA):T:=
 .heavy (uM yA 195) fun a0=>
 .heavy (sC yA 195 a0 (.int .u64 0)) fun _=>
 .call 153 [p0] fun a1=>
 .range (npC yA) a1 2 1 [a0]
 (.light (fun m=>mA yA 195 ⟨0,m⟩ a0) fun a2=>.asI .u64 a2 fun n3=>.ret (.int .u64 n3))
 (.ret (.int .u64 0))
def w207(p0:zA)(h:wp 207 (t207 p0) m Q):Wf 207 [p0] m Q:=aB ok207 h
def z3k(v3:zA)(v7:Int):T:=
 .light (fun m=>mA yA 195 ⟨0,m⟩ v3) fun a0=>.asI .u64 a0 fun n1=>.opt (zH Nat.lor .u64 (tA .u64 (n1*4294967296)) (tA .u64 v7)) fun a2=>.asI .u64 a2 fun n3=>.heavy (sC yA 195 v3 (.int .u64 n3)) fun _=>
 .ret (.bool true)
def j207_2(v3:zA)(v7:Int)(h:wp 207 (z3k v3 v7) m Q):jp 207 2 [v3,.int .u32 v7] m Q:=nE ok207 h
def t208 (p0:Int):T:=
 .heavy (dG yA 200 2 [(0,(.int .u32 (tA .u32 p0))),(1,(.int .u32 (tA .u32 (Int.fdiv p0 4294967296))))]) fun a0=>
 .call 174 [a0] fun a1=>
 .ret a1
def w208(p0:Int)(h:wp 208 (t208 p0) m Q):Wf 208 [.int .u64 p0] m Q:=aB ok208 h
def t212 (p0:Int):T:=
 .call 219 [.int .u32 p0] fun a0=>
 .asI .i64 a0 fun n1=>.ret (.int .i64 (tA .i64 (32-n1)))
def w212(p0:Int)(h:wp 212 (t212 p0) m Q):Wf 212 [.int .u32 p0] m Q:=aB ok212 h
def t213 (p0:zA)(p1 p2:Int):T:=
 .heavy (zq0 p0) fun a0=>
 .callv (.func (.func 220) [] [a0]) [(.int .i64 (tA .i64 (p1-1)))] fun a1=>
 .asI .u64 a1 fun n2=>.callv (.func (.func 220) [] [a0]) [(.int .i64 (tA .i64 (p1-2)))] fun a3=>
 .asI .u64 a3 fun n4=>.opt (zH Nat.lor .u64 (tA .u64 (n2*4294967296)) n4) fun a5=>.asI .u64 a5 fun n6=>.opt (zxi .u64 n6 p2) fun a7=>.asI .u64 a7 fun n8=>.callv (.func (.func 220) [] [a0]) [(.int .i64 (tA .i64 (p1-3)))] fun a9=>
 .asI .u64 a9 fun n10=>.opt (z6g .u64 n10 (tA .i64 (32-p2))) fun tE=>.asI .u64 tE fun n12=>.opt (zH Nat.lor .u64 n8 n12) fun a13=>.asI .u64 a13 fun n14=>.ret (.int .u64 n14)
def e213(p0:zA)(p1 p2:Int):entT yA Tryz.f213 8 213 a213 [p0,.int .i64 p1,.int .i64 p2]=t213 p0 p1 p2:=by kernel_rfl
def w213(p0:zA)(p1 p2:Int)(h:wp 213 (t213 p0 p1 p2) m Q):Wf 213 [p0,.int .i64 p1,.int .i64 p2] m Q:=z7h ok213 (by kernel_rfl) (by rw[e213];exact h)
def t214 (p0:zA):T:=
 .opt ((binA .eql).f yA 200 (.tmp 3) (.const (.slice none 0 0)) p0 .nilslice) fun a0=>.asB a0 fun b1=>.ite b1
 (.ret .nilslice)
 (.heavy (dG yA 200 0 []) fun a2=>
 .heavy (bE yA 200 200 a2 p0) fun a3=>
 .ret a3)
def w214(p0:zA)(h:wp 214 (t214 p0) m Q):Wf 214 [p0] m Q:=aB ok214 h
def t215 (p0:zA)(p1:Int):T:=
 .opt (yC p0) fun a0=>.asI .i64 a0 fun n1=>.heavy (zN yA 200 (.int .i64 (tA .i64 (n1+1))) (.int .i64 (tA .i64 (n1+1)))) fun a2=>
 .opt (yC p0) fun a3=>.asI .i64 a3 fun n4=>.jump 2 [.int .i64 p1,a2,p0,.int .i64 n4,.int .i64 0]
def w215(p0:zA)(p1:Int)(h:wp 215 (t215 p0 p1) m Q):Wf 215 [p0,.int .i64 p1] m Q:=aB ok215 h
def zun(v1:Int)(v5 v13:zA)(v14 v15:Int):T:=
 .ite (vC v15 v14)
 (.opt (zC yA 200 v13 (.int .i64 v15)) fun a0=>.light (fun m=>mA yA 202 ⟨0,m⟩ a0) fun a1=>.asI .u32 a1 fun n2=>.opt (zxi .u64 (tA .u64 n2) v1) fun a3=>.asI .u64 a3 fun n4=>.opt (zC yA 200 v5 (.int .i64 v15)) fun a5=>.light (fun m=>mA yA 202 ⟨0,m⟩ a5) fun a6=>.asI .u32 a6 fun n7=>.opt (zH Nat.lor .u32 n7 (tA .u32 n4)) fun a8=>.asI .u32 a8 fun n9=>.opt (zC yA 200 v5 (.int .i64 v15)) fun xD=>.heavy (sC yA 202 xD (.int .u32 n9)) fun _=>
 .opt (zC yA 200 v5 (.int .i64 (tA .i64 (v15+1)))) fun tE=>.heavy (sC yA 202 tE (.int .u32 (tA .u32 (Int.fdiv n4 4294967296)))) fun _=>
 .jump 2 [.int .i64 v1,v5,v13,.int .i64 v14,(.int .i64 (tA .i64 (v15+1)))])
 (.ret v5)
def z38(v1:Int)(v5 v13:zA)(v14 v15:Int)(h:wp 215 (zun v1 v5 v13 v14 v15) m Q):jp 215 2 [.int .i64 v1,v5,v13,.int .i64 v14,.int .i64 v15] m Q:=nE ok215 h
def t216 (p0 p1:zA):T:=
 .opt (yC p1) fun a0=>.asI .i64 a0 fun n1=>.opt (zC yA 200 p0 (.int .i64 n1)) fun a2=>.light (fun m=>mA yA 202 ⟨0,m⟩ a2) fun a3=>.asI .u32 a3 fun n4=>.opt (zC yA 200 p0 (.int .i64 (tA .i64 (n1-1)))) fun a5=>.light (fun m=>mA yA 202 ⟨0,m⟩ a5) fun a6=>.asI .u32 a6 fun n7=>.opt (zH Nat.lor .u64 (tA .u64 ((tA .u64 n4)*4294967296)) (tA .u64 n7)) fun a8=>.asI .u64 a8 fun n9=>.opt (zC yA 200 p1 (.int .i64 (tA .i64 (n1-1)))) fun xD=>.light (fun m=>mA yA 202 ⟨0,m⟩ xD) fun tE=>.asI .u32 tE fun n12=>.opt (z1r .u64 n9 (tA .u64 n12)) fun a13=>.asI .u64 a13 fun n14=>.opt (zzo .u64 n9 (tA .u64 n12)) fun a15=>.asI .u64 a15 fun n16=>.jump 2 [p0,p1,.int .i64 n1,(.int .u64 (tA .u64 n12)),.int .u64 n14,.int .u64 n16]
def w216(p0 p1:zA)(h:wp 216 (t216 p0 p1) m Q):Wf 216 [p0,p1] m Q:=aB zv4 h
def zul(v0 v1:zA)(v5 v7 v8 v9:Int):T:=
 .ite (sD 4294967296 v8)
 (.ite (sD 4294967296 (tA .u64 (v9+v7)))
 (.jump 19 [v0,v1,.int .i64 v5,(.int .u64 (tA .u64 (v8-1)))])
 (.jump 2 [v0,v1,.int .i64 v5,.int .u64 v7,(.int .u64 (tA .u64 (v8-1))),(.int .u64 (tA .u64 (v9+v7)))]))
 (.opt (zC yA 200 v1 (.int .i64 (tA .i64 (v5-2)))) fun a0=>.light (fun m=>mA yA 202 ⟨0,m⟩ a0) fun a1=>.asI .u32 a1 fun n2=>.opt (zC yA 200 v0 (.int .i64 (tA .i64 (v5-2)))) fun a3=>.light (fun m=>mA yA 202 ⟨0,m⟩ a3) fun a4=>.asI .u32 a4 fun n5=>.opt (zH Nat.lor .u64 (tA .u64 (v9*4294967296)) (tA .u64 n5)) fun a6=>.asI .u64 a6 fun n7=>.ite (vC n7 (tA .u64 (v8*(tA .u64 n2))))
 (.ite (sD 4294967296 (tA .u64 (v9+v7)))
 (.jump 19 [v0,v1,.int .i64 v5,(.int .u64 (tA .u64 (v8-1)))])
 (.jump 2 [v0,v1,.int .i64 v5,.int .u64 v7,(.int .u64 (tA .u64 (v8-1))),(.int .u64 (tA .u64 (v9+v7)))]))
 (.jump 19 [v0,v1,.int .i64 v5,.int .u64 v8]))
def z36(v0 v1:zA)(v5 v7 v8 v9:Int)(h:wp 216 (zul v0 v1 v5 v7 v8 v9) m Q):jp 216 2 [v0,v1,.int .i64 v5,.int .u64 v7,.int .u64 v8,.int .u64 v9] m Q:=nE zv4 h
def zum(v0 v1:zA)(v5 v8:Int):T:=
 .opt (yC v1) fun a0=>.asI .i64 a0 fun n1=>.jump 6 [v0,v1,.int .i64 v5,.int .u64 v8,.int .u64 0,.int .u64 0,v1,.int .i64 n1,.int .i64 0]
def z58(v0 v1:zA)(v5 v8:Int)(h:wp 216 (zum v0 v1 v5 v8) m Q):jp 216 19 [v0,v1,.int .i64 v5,.int .u64 v8] m Q:=nE zv4 h
def zuk(v0 v1:zA)(v5 v8 v10 v11:Int)(v76:zA)(v77 v78:Int):T:=
 .ite (vC v78 v77)
 (.opt (zC yA 200 v76 (.int .i64 v78)) fun a0=>.light (fun m=>mA yA 202 ⟨0,m⟩ a0) fun a1=>.asI .u32 a1 fun n2=>.opt (zC yA 200 v0 (.int .i64 v78)) fun a3=>.light (fun m=>mA yA 202 ⟨0,m⟩ a3) fun a4=>.asI .u32 a4 fun n5=>.opt (zC yA 200 v0 (.int .i64 v78)) fun a6=>.heavy (sC yA 202 a6 (.int .u32 (tA .u32 (tA .u64 ((tA .u64 ((tA .u64 n5)-(tA .u64 (tA .u32 (tA .u64 ((tA .u64 (v8*(tA .u64 n2)))+v10))))))-v11))))) fun _=>
 .jump 6 [v0,v1,.int .i64 v5,.int .u64 v8,(.int .u64 (Int.fdiv (tA .u64 ((tA .u64 (v8*(tA .u64 n2)))+v10)) 4294967296)),(.int .u64 (Int.fdiv (tA .u64 ((tA .u64 ((tA .u64 n5)-(tA .u64 (tA .u32 (tA .u64 ((tA .u64 (v8*(tA .u64 n2)))+v10))))))-v11)) 9223372036854775808)),v76,.int .i64 v77,(.int .i64 (tA .i64 (v78+1)))])
 (.opt (zC yA 200 v0 (.int .i64 v5)) fun a7=>.light (fun m=>mA yA 202 ⟨0,m⟩ a7) fun a8=>.asI .u32 a8 fun n9=>.opt (zC yA 200 v0 (.int .i64 v5)) fun xD=>.heavy (sC yA 202 xD (.int .u32 (tA .u32 (tA .u64 ((tA .u64 ((tA .u64 n9)-v10))-v11))))) fun _=>
 .ite (uB (Int.fdiv (tA .u64 ((tA .u64 ((tA .u64 n9)-v10))-v11)) 9223372036854775808) 0)
 (.ret (.int .u32 (tA .u32 v8)))
 (.opt (yC v1) fun tE=>.asI .i64 tE fun n12=>.jump 10 [v0,.int .i64 v5,.int .u64 v8,.int .u32 0,v1,.int .i64 n12,.int .i64 0]))
def z35(v0 v1:zA)(v5 v8 v10 v11:Int)(v76:zA)(v77 v78:Int)(h:wp 216 (zuk v0 v1 v5 v8 v10 v11 v76 v77 v78) m Q):jp 216 6 [v0,v1,.int .i64 v5,.int .u64 v8,.int .u64 v10,.int .u64 v11,v76,.int .i64 v77,.int .i64 v78] m Q:=nE zv4 h
def zlr(v0:zA)(v5 v8 v17:Int)(v129:zA)(v130 v131:Int):T:=
 .ite (vC v131 v130)
 (.opt (zC yA 200 v129 (.int .i64 v131)) fun a0=>.light (fun m=>mA yA 202 ⟨0,m⟩ a0) fun a1=>.asI .u32 a1 fun n2=>.opt (zC yA 200 v0 (.int .i64 v131)) fun a3=>.light (fun m=>mA yA 202 ⟨0,m⟩ a3) fun a4=>.asI .u32 a4 fun n5=>.call 221 [.int .u32 n5,.int .u32 n2,.int .u32 v17] fun a6=>
 .opt (zD 0 a6) fun a7=>.asI .u32 a7 fun n8=>.opt (zD 1 a6) fun a9=>.asI .u32 a9 fun n10=>.opt (zC yA 200 v0 (.int .i64 v131)) fun tE=>.heavy (sC yA 202 tE (.int .u32 n8)) fun _=>
 .jump 10 [v0,.int .i64 v5,.int .u64 v8,.int .u32 n10,v129,.int .i64 v130,(.int .i64 (tA .i64 (v131+1)))])
 (.opt (zC yA 200 v0 (.int .i64 v5)) fun a12=>.light (fun m=>mA yA 202 ⟨0,m⟩ a12) fun a13=>.asI .u32 a13 fun n14=>.opt (zC yA 200 v0 (.int .i64 v5)) fun a15=>.heavy (sC yA 202 a15 (.int .u32 (tA .u32 (n14+v17)))) fun _=>
 .ret (.int .u32 (tA .u32 (tA .u64 (v8-1)))))
def zw8(v0:zA)(v5 v8 v17:Int)(v129:zA)(v130 v131:Int)(h:wp 216 (zlr v0 v5 v8 v17 v129 v130 v131) m Q):jp 216 10 [v0,.int .i64 v5,.int .u64 v8,.int .u32 v17,v129,.int .i64 v130,.int .i64 v131] m Q:=nE zv4 h
def t217 (p0 p1 p2:Int):T:=
 .opt (zlp (.int .u32 p0)) fun a0=>.asI .u32 a0 fun n1=>.opt (iAnd .u32 n1 p1) fun a2=>.asI .u32 a2 fun n3=>.opt (zH Nat.xor .u32 p0 p1) fun a4=>.asI .u32 a4 fun n5=>.opt (zlp (.int .u32 n5)) fun a6=>.asI .u32 a6 fun n7=>.opt (iAnd .u32 n7 (tA .u32 ((tA .u32 (p0-p1))-p2))) fun a8=>.asI .u32 a8 fun n9=>.opt (zH Nat.lor .u32 n3 n9) fun xD=>.asI .u32 xD fun n11=>.ret (.tup [(.int .u32 (tA .u32 ((tA .u32 (p0-p1))-p2))),(.int .u32 (Int.fdiv n11 2147483648))])
def w217(p0 p1 p2:Int)(h:wp 217 (t217 p0 p1 p2) m Q):Wf 217 [.int .u32 p0,.int .u32 p1,.int .u32 p2] m Q:=aB ok217 h
def t219 (p0:Int):T:=
 .ite (sD 65536 p0)
 (.jump 9 [(.int .u32 (Int.fdiv p0 65536)),.int .i64 16])
 (.jump 9 [.int .u32 p0,.int .i64 0])
def w219(p0:Int)(h:wp 219 (t219 p0) m Q):Wf 219 [.int .u32 p0] m Q:=aB z5q h
def zui(v0 v2:Int):T:=
 .ite (sD 256 v0)
 (.jump 15 [(.int .u32 (Int.fdiv v0 256)),(.int .i64 (tA .i64 (v2+8)))])
 (.jump 15 [.int .u32 v0,.int .i64 v2])
def z34(v0 v2:Int)(h:wp 219 (zui v0 v2) m Q):jp 219 9 [.int .u32 v0,.int .i64 v2] m Q:=nE z5q h
def zuj(v0 v2:Int):T:=
 .opt (xQ yA 9 (.str [0,1,2,2,3,3,3,3,4,4,4,4,4,4,4,4,5,5,5,5,5,5,5,5,5,5,5,5,5,5,5,5,6,6,6,6,6,6,6,6,6,6,6,6,6,6,6,6,6,6,6,6,6,6,6,6,6,6,6,6,6,6,6,6,7,7,7,7,7,7,7,7,7,7,7,7,7,7,7,7,7,7,7,7,7,7,7,7,7,7,7,7,7,7,7,7,7,7,7,7,7,7,7,7,7,7,7,7,7,7,7,7,7,7,7,7,7,7,7,7,7,7,7,7,7,7,7,7,8,8,8,8,8,8,8,8,8,8,8,8,8,8,8,8,8,8,8,8,8,8,8,8,8,8,8,8,8,8,8,8,8,8,8,8,8,8,8,8,8,8,8,8,8,8,8,8,8,8,8,8,8,8,8,8,8,8,8,8,8,8,8,8,8,8,8,8,8,8,8,8,8,8,8,8,8,8,8,8,8,8,8,8,8,8,8,8,8,8,8,8,8,8,8,8,8,8,8,8,8,8,8,8,8,8,8,8,8,8,8,8,8,8,8,8,8,8,8,8,8,8,8,8,8,8,8,8]) (.int .u8 (tA .u8 v0))) fun a0=>.asI .u8 a0 fun n1=>.ret (.int .i64 (tA .i64 (v2+(tA .i64 n1))))
def z57(v0 v2:Int)(h:wp 219 (zuj v0 v2) m Q):jp 219 15 [.int .u32 v0,.int .i64 v2] m Q:=nE z5q h
def t220 (p0:Int)(w0:zA):T:=
 .light (fun m=>mA yA 200 ⟨0,m⟩ w0) fun a0=>.opt (yC a0) fun a1=>.asI .i64 a1 fun n2=>.ite (sD n2 p0)
 (.ret (.int .u64 0))
 (.light (fun m=>mA yA 200 ⟨0,m⟩ w0) fun a3=>.opt (zC yA 200 a3 (.int .i64 p0)) fun a4=>.light (fun m=>mA yA 202 ⟨0,m⟩ a4) fun a5=>.asI .u32 a5 fun n6=>.ret (.int .u64 (tA .u64 n6)))
def w220(p0:Int)(w0:zA)(h:wp 220 (t220 p0 w0) m Q):Wf 220 [.int .i64 p0,w0] m Q:=aB ok220 h
def t221 (p0 p1 p2:Int):T:=
 .ret (.tup [(.int .u32 (tA .u32 (tA .u64 ((tA .u64 ((tA .u64 p0)+(tA .u64 p1)))+(tA .u64 p2))))),(.int .u32 (tA .u32 (Int.fdiv (tA .u64 ((tA .u64 ((tA .u64 p0)+(tA .u64 p1)))+(tA .u64 p2))) 4294967296)))])
def e221(p0 p1 p2:Int):entT yA Tryz.f221 9 221 a221 [.int .u32 p0,.int .u32 p1,.int .u32 p2]=t221 p0 p1 p2:=by kernel_rfl
def w221(p0 p1 p2:Int)(h:wp 221 (t221 p0 p1 p2) m Q):Wf 221 [.int .u32 p0,.int .u32 p1,.int .u32 p2] m Q:=z7h ok221 (by kernel_rfl) (by rw[e221];exact h)
end Go.Proofs
