/- The trees of functions. (Printed by a tool; the kernel agrees.) -/
import Derived.Test.YthmbkdkibhffbaaGreatDoorG11
set_option linter.all false
noncomputable section
set_option maxRecDepth 100000
namespace Go.Proofs
open Go Go.Am
variable [dC]{m:Tr jA}{Q:cB}
abbrev uJ:List zA:=[.int .u8 0,.str [],.int .u8 0,.bool false,.nilslice,.bool false,.nilslice,.int .i64 0,.nilslice]
abbrev z2a:List zA:=[.int .u8 0,.bool false,.nilslice,.bool false,.nilslice,.int .i64 0]
abbrev z4b:List zA:=[.int .u8 0,.int .i64 0,.int .i64 0]
abbrev zz3z:List zA:=[.bool false,.nilslice]
abbrev zz4z:List zA:=[.int .i64 0,.int .i64 0,.int .i64 0,.bool false,.nilslice,.bool false,.nilslice]
abbrev zz5z:List zA:=[.str [],.str [],.int .i64 0,.int .i64 0,.int .i64 0,.bool false,.int .u8 0,.str [],.int .u8 0,.bool false,.nilslice,.bool false,.nilslice,.int .i64 0,.nilslice,.int .u8 0,.str [],.int .u8 0,.bool false,.nilslice,.bool false,.nilslice,.int .i64 0,.nilslice]
abbrev zz6z:List zA:=[.str [],.nilslice,.nilslice,.nilslice,.nilslice,.nilslice,.nilslice,.nilslice]
abbrev zz7z:List zA:=[.bool false,.nilslice,.bool false,.nilslice]
theorem rC{f kf:Nat}{fn:Func}{A:jB}{x:List zA}{T:T}(h:yC yA F f fn kf A)(k:pA yA.base (Wq yA F pI) (Jq yA F f) T m Q)(h1:(Nat.ble (wB x) kf&&Nat.ble (wB x) fn.ntmps)=true:=by kernel_rfl)(h2:entT yA fn kf f A x=T:=by kernel_rfl):Wc yA F f x m Q:=z7n h h1 (by rw[h2];exact k)
theorem iD{f kf i:Nat}{fn:Func}{A:jB}{x:List zA}{T:T}(h:yC yA F f fn kf A)(k:pA yA.base (Wq yA F pI) (Jq yA F f) T m Q)(h2:zqn (ptsT yA fn kf f A) i x=[T]:=by kernel_rfl):Jq yA F f i x m Q:=Jq_of1 h h2 k
theorem eqT{b:Nat}{W J:yJ}{x y:T}{m:Tr jA}{Q:cB}(e:x=y)(h:pA b W J y m Q):pA b W J x m Q:=e ▸ h
def t11 (A0:List Nat)(A1 A2 A3 A4 A5 A6 A7:zA)(p1:Int):T:=
 .call 14 [] fun a0=>
 .asB a0 fun b1=>.ite (!b1)
 (.ret (.bool false))
 (.call 16 [.agg [.str A0,A1,A2,A3,A4,A5,A6,A7],.int .i64 2000] fun a2=>
 .asI .i64 a2 fun n3=>.ite (iB 2000 n3)
 (.ret (.bool true))
 (.opt (uB A6) fun a4=>.asI .i64 a4 fun n5=>.ite (wA n5 0)
 (.ret (.bool true))
 (.opt (uB A6) fun a6=>.asI .i64 a6 fun n7=>.call 26 [.int .i64 p1,.int .i64 n7] fun a8=>
 .asI .i64 a8 fun n9=>.ite (same 10 A6 A6) (.opt (zB yA 32 A6 (.int .i64 n9)) fun a10=>.light (fun m=>mA yA 37 ⟨0,m⟩ a10) fun bC=>.call 28 [.agg [.str A0,A1,A2,A3,A4,A5,A6,A7],bC] fun a12=>
 .opt (vC 0 a12) fun fE=>.asG uJ fE fun X14=>
 .opt (vC 1 a12) fun a15=>.asI .i64 a15 fun n16=>.ite (bB zA.one [.int .u8 (X14.i 0),.str (X14.s 1),.int .u8 (X14.i 2),.bool (X14.b 3),X14.v 4,.bool (X14.b 5),X14.v 6,.int .i64 (X14.i 7),X14.v 8]) (.ite (!wA n16 0)
 (.ite (wA n16 190)
 (.ite true (.call 29 [(.agg [.int .u8 (X14.i 0),.str (X14.s 1),.int .u8 (X14.i 2),.bool (X14.b 3),X14.v 4,.bool (X14.b 5),X14.v 6,.int .i64 (X14.i 7),X14.v 8]),.agg [.int .u8 0,.str [],.int .u8 0,.bool false,.nilslice,.bool false,.nilslice,.int .i64 0,.nilslice]] fun a17=>
 .asB a17 fun b18=>.ret (.bool b18)) .fail)
 (.ret (.bool false)))
 (.ite true (.heavy (oF yA 24 1 [(0,(.agg [.str [],.str [],.int .i64 0,.int .i64 0,.int .i64 0,.bool false,.int .u8 (X14.i 0),.str (X14.s 1),.int .u8 (X14.i 2),.bool (X14.b 3),X14.v 4,.bool (X14.b 5),X14.v 6,.int .i64 (X14.i 7),X14.v 8,.int .u8 0,.str [],.int .u8 0,.bool false,.nilslice,.bool false,.nilslice,.int .i64 0,.nilslice]))]) fun a19=>
 .ite (bB zA.one [a19]) (.call 22 [.agg [.str [],.nilslice,.nilslice,a19]] fun a20=>
 .opt (vC 0 a20) fun a21=>.asG zz6z a21 fun X22=>
 .opt (vC 1 a20) fun a23=>.asI .i64 a23 fun n24=>.ite (bB zA.one [.str (X22.s 0),X22.v 1,X22.v 2,X22.v 3,X22.v 4,X22.v 5,X22.v 6,X22.v 7]) (.ite (!wA n24 0)
 (.ite (wA n24 2)
 (.call 31 [(.agg [.int .u8 (X14.i 0),.str (X14.s 1),.int .u8 (X14.i 2),.bool (X14.b 3),X14.v 4,.bool (X14.b 5),X14.v 6,.int .i64 (X14.i 7),X14.v 8])] fun a25=>
 .asI .i64 a25 fun n26=>.ite (iB 200 n26)
 (.ret (.bool true))
 (.call 32 [(.agg [.int .u8 (X14.i 0),.str (X14.s 1),.int .u8 (X14.i 2),.bool (X14.b 3),X14.v 4,.bool (X14.b 5),X14.v 6,.int .i64 (X14.i 7),X14.v 8]),.int .i64 24] fun a27=>
 .asB a27 fun b28=>.ret (.bool b28)))
 (.ret (.bool false)))
 (.opt (uB (X22.v 6)) fun a29=>.asI .i64 a29 fun n30=>.ite (!wA n30 1)
 (.ret (.bool false))
 (.opt (zB yA 32 (X22.v 6) (.int .i64 0)) fun a31=>.light (fun m=>mA yA 37 ⟨0,m⟩ a31) fun a32=>.opt (uB a32) fun a33=>.asI .i64 a33 fun n34=>.opt (uB bC) fun a35=>.asI .i64 a35 fun n36=>.ite (!wA n34 n36)
 (.ret (.bool false))
 (.jump 2 [bC,.int .i64 0,.str A0,A1,A2,A3,A4,A5,A6,A7,.str (X22.s 0),X22.v 1,X22.v 2,X22.v 3,X22.v 4,X22.v 5,X22.v 6,X22.v 7])))) .fail) .fail) .fail)) .fail) .fail)))
theorem w11(A0:List Nat)(A1 A2 A3 A4 A5 A6 A7:zA)(p1:Int)(h:wp 11 (t11 A0 A1 A2 A3 A4 A5 A6 A7 p1) m Q):Wf 11 [.agg [.str A0,A1,A2,A3,A4,A5,A6,A7],.int .i64 p1] m Q:=rC ok11 h
def z47(v5:zA)(v10:Int)(A0:List Nat)(A1 A2 A3 A4 A5 A6 A7:zA)(A8:List Nat)(A9 B0 B1 B2 B3 B4 B5:zA):T:=
 .opt (uB v5) fun a0=>.asI .i64 a0 fun n1=>.ite (iB v10 n1)
 (.opt (zB yA 37 v5 (.int .i64 v10)) fun a2=>.light (fun m=>mA yA 54 ⟨0,m⟩ a2) fun a3=>.asG z4b a3 fun X4=>
 .opt (zB yA 32 B4 (.int .i64 0)) fun a5=>.light (fun m=>mA yA 37 ⟨0,m⟩ a5) fun a6=>.opt (zB yA 37 a6 (.int .i64 v10)) fun a7=>.light (fun m=>mA yA 54 ⟨0,m⟩ a7) fun a8=>.asG z4b a8 fun X9=>
 .heavy (sM yA 54) fun a10=>
 .heavy (sM yA 54) fun bC=>
 .heavy (xE yA 54 a10 (.agg [.int .u8 (X4.i 0),.int .i64 (X4.i 1),.int .i64 (X4.i 2)])) fun _=>
 .ite (same 10 B4 B4) (.light (fun m=>mA yA 37 ⟨0,m⟩ a5) fun a12=>.ite (same 10 a12 a6) (.light (fun m=>mA yA 54 ⟨0,m⟩ a7) fun fE=>.ite (same 10 fE (.agg [.int .u8 (X9.i 0),.int .i64 (X9.i 1),.int .i64 (X9.i 2)])) (.heavy (xE yA 54 bC (.agg [.int .u8 (X9.i 0),.int .i64 (X9.i 1),.int .i64 (X9.i 2)])) fun _=>
 .opt (pB yA 54 0 a10) fun a14=>.light (fun m=>mA yA 5 ⟨0,m⟩ a14) fun a15=>.asI .u8 a15 fun n16=>.opt (pB yA 54 0 bC) fun a17=>.light (fun m=>mA yA 5 ⟨0,m⟩ a17) fun a18=>.asI .u8 a18 fun n19=>.ite (!wA n16 n19)
 (.ret (.bool false))
 (.opt (pB yA 54 2 a10) fun a20=>.light (fun m=>mA yA 3 ⟨0,m⟩ a20) fun a21=>.asI .i64 a21 fun n22=>.opt (pB yA 54 2 bC) fun a23=>.light (fun m=>mA yA 3 ⟨0,m⟩ a23) fun a24=>.asI .i64 a24 fun n25=>.ite (!wA n22 n25)
 (.ret (.bool false))
 (.opt (pB yA 54 0 a10) fun a26=>.light (fun m=>mA yA 5 ⟨0,m⟩ a26) fun a27=>.asI .u8 a27 fun n28=>.ite (wA n28 1)
 (.opt (pB yA 54 1 a10) fun a29=>.light (fun m=>mA yA 3 ⟨0,m⟩ a29) fun a30=>.asI .i64 a30 fun n31=>.opt (zB yA 31 A5 (.int .i64 n31)) fun a32=>.light (fun m=>mA yA 47 ⟨0,m⟩ a32) fun a33=>.asG z2a a33 fun X34=>
 .opt (pB yA 54 1 bC) fun a35=>.light (fun m=>mA yA 3 ⟨0,m⟩ a35) fun a36=>.asI .i64 a36 fun n37=>.opt (zB yA 31 B3 (.int .i64 n37)) fun a38=>.light (fun m=>mA yA 47 ⟨0,m⟩ a38) fun a39=>.asG z2a a39 fun X40=>
 .call 24 [(.agg [.int .u8 (X34.i 0),.bool (X34.b 1),X34.v 2,.bool (X34.b 3),X34.v 4,.int .i64 (X34.i 5)]),(.agg [.int .u8 (X40.i 0),.bool (X40.b 1),X40.v 2,.bool (X40.b 3),X40.v 4,.int .i64 (X40.i 5)])] fun a41=>
 .asB a41 fun b42=>.ite (!b42)
 (.ret (.bool false))
 (.jump 2 [v5,(.int .i64 (vA .i64 (v10+1))),.str A0,A1,A2,A3,A4,A5,A6,A7,.str A8,A9,B0,B1,B2,B3,B4,B5]))
 (.ite (wA n28 3)
 (.ite (wA n28 3)
 (.opt (pB yA 54 1 a10) fun a43=>.light (fun m=>mA yA 3 ⟨0,m⟩ a43) fun a44=>.asI .i64 a44 fun n45=>.opt (zB yA 30 A4 (.int .i64 n45)) fun a46=>.light (fun m=>mA yA 9 ⟨0,m⟩ a46) fun a47=>.asS a47 fun s48=>.opt (pB yA 54 1 bC) fun a49=>.light (fun m=>mA yA 3 ⟨0,m⟩ a49) fun a50=>.asI .i64 a50 fun n51=>.opt (zB yA 30 B2 (.int .i64 n51)) fun a52=>.light (fun m=>mA yA 9 ⟨0,m⟩ a52) fun a53=>.asS a53 fun s54=>.ite (!eI s48 s54)
 (.ret (.bool false))
 (.jump 2 [v5,(.int .i64 (vA .i64 (v10+1))),.str A0,A1,A2,A3,A4,A5,A6,A7,.str A8,A9,B0,B1,B2,B3,B4,B5]))
 (.opt (pB yA 54 1 a10) fun a55=>.light (fun m=>mA yA 3 ⟨0,m⟩ a55) fun a56=>.asI .i64 a56 fun n57=>.opt (pB yA 54 1 bC) fun a58=>.light (fun m=>mA yA 3 ⟨0,m⟩ a58) fun a59=>.asI .i64 a59 fun n60=>.ite (!wA n57 n60)
 (.ret (.bool false))
 (.jump 2 [v5,(.int .i64 (vA .i64 (v10+1))),.str A0,A1,A2,A3,A4,A5,A6,A7,.str A8,A9,B0,B1,B2,B3,B4,B5])))
 (.ite (wA n28 4)
 (.ite (wA n28 4)
 (.opt (pB yA 54 1 a10) fun a61=>.light (fun m=>mA yA 3 ⟨0,m⟩ a61) fun a62=>.asI .i64 a62 fun n63=>.opt (zB yA 30 A4 (.int .i64 n63)) fun a64=>.light (fun m=>mA yA 9 ⟨0,m⟩ a64) fun a65=>.asS a65 fun s66=>.opt (pB yA 54 1 bC) fun a67=>.light (fun m=>mA yA 3 ⟨0,m⟩ a67) fun a68=>.asI .i64 a68 fun n69=>.opt (zB yA 30 B2 (.int .i64 n69)) fun a70=>.light (fun m=>mA yA 9 ⟨0,m⟩ a70) fun a71=>.asS a71 fun s72=>.ite (!eI s66 s72)
 (.ret (.bool false))
 (.jump 2 [v5,(.int .i64 (vA .i64 (v10+1))),.str A0,A1,A2,A3,A4,A5,A6,A7,.str A8,A9,B0,B1,B2,B3,B4,B5]))
 (.opt (pB yA 54 1 a10) fun a73=>.light (fun m=>mA yA 3 ⟨0,m⟩ a73) fun a74=>.asI .i64 a74 fun n75=>.opt (pB yA 54 1 bC) fun a76=>.light (fun m=>mA yA 3 ⟨0,m⟩ a76) fun a77=>.asI .i64 a77 fun n78=>.ite (!wA n75 n78)
 (.ret (.bool false))
 (.jump 2 [v5,(.int .i64 (vA .i64 (v10+1))),.str A0,A1,A2,A3,A4,A5,A6,A7,.str A8,A9,B0,B1,B2,B3,B4,B5])))
 (.ite (wA n28 5)
 (.ite (wA n28 5)
 (.opt (pB yA 54 1 a10) fun a79=>.light (fun m=>mA yA 3 ⟨0,m⟩ a79) fun a80=>.asI .i64 a80 fun n81=>.opt (zB yA 30 A4 (.int .i64 n81)) fun a82=>.light (fun m=>mA yA 9 ⟨0,m⟩ a82) fun a83=>.asS a83 fun s84=>.opt (pB yA 54 1 bC) fun a85=>.light (fun m=>mA yA 3 ⟨0,m⟩ a85) fun a86=>.asI .i64 a86 fun n87=>.opt (zB yA 30 B2 (.int .i64 n87)) fun a88=>.light (fun m=>mA yA 9 ⟨0,m⟩ a88) fun a89=>.asS a89 fun s90=>.ite (!eI s84 s90)
 (.ret (.bool false))
 (.jump 2 [v5,(.int .i64 (vA .i64 (v10+1))),.str A0,A1,A2,A3,A4,A5,A6,A7,.str A8,A9,B0,B1,B2,B3,B4,B5]))
 (.opt (pB yA 54 1 a10) fun a91=>.light (fun m=>mA yA 3 ⟨0,m⟩ a91) fun a92=>.asI .i64 a92 fun n93=>.opt (pB yA 54 1 bC) fun a94=>.light (fun m=>mA yA 3 ⟨0,m⟩ a94) fun a95=>.asI .i64 a95 fun n96=>.ite (!wA n93 n96)
 (.ret (.bool false))
 (.jump 2 [v5,(.int .i64 (vA .i64 (v10+1))),.str A0,A1,A2,A3,A4,A5,A6,A7,.str A8,A9,B0,B1,B2,B3,B4,B5])))
 (.ite (wA n28 6)
 (.ite (wA n28 6)
 (.opt (pB yA 54 1 a10) fun a97=>.light (fun m=>mA yA 3 ⟨0,m⟩ a97) fun a98=>.asI .i64 a98 fun n99=>.opt (zB yA 30 A4 (.int .i64 n99)) fun a100=>.light (fun m=>mA yA 9 ⟨0,m⟩ a100) fun a101=>.asS a101 fun s102=>.opt (pB yA 54 1 bC) fun a103=>.light (fun m=>mA yA 3 ⟨0,m⟩ a103) fun a104=>.asI .i64 a104 fun n105=>.opt (zB yA 30 B2 (.int .i64 n105)) fun a106=>.light (fun m=>mA yA 9 ⟨0,m⟩ a106) fun a107=>.asS a107 fun s108=>.ite (!eI s102 s108)
 (.ret (.bool false))
 (.jump 2 [v5,(.int .i64 (vA .i64 (v10+1))),.str A0,A1,A2,A3,A4,A5,A6,A7,.str A8,A9,B0,B1,B2,B3,B4,B5]))
 (.opt (pB yA 54 1 a10) fun a109=>.light (fun m=>mA yA 3 ⟨0,m⟩ a109) fun a110=>.asI .i64 a110 fun n111=>.opt (pB yA 54 1 bC) fun a112=>.light (fun m=>mA yA 3 ⟨0,m⟩ a112) fun a113=>.asI .i64 a113 fun n114=>.ite (!wA n111 n114)
 (.ret (.bool false))
 (.jump 2 [v5,(.int .i64 (vA .i64 (v10+1))),.str A0,A1,A2,A3,A4,A5,A6,A7,.str A8,A9,B0,B1,B2,B3,B4,B5])))
 (.ite (wA n28 8)
 (.opt (pB yA 54 1 a10) fun a115=>.light (fun m=>mA yA 3 ⟨0,m⟩ a115) fun a116=>.asI .i64 a116 fun n117=>.opt (zB yA 30 A4 (.int .i64 n117)) fun a118=>.light (fun m=>mA yA 9 ⟨0,m⟩ a118) fun a119=>.asS a119 fun s120=>.opt (pB yA 54 1 bC) fun a121=>.light (fun m=>mA yA 3 ⟨0,m⟩ a121) fun a122=>.asI .i64 a122 fun n123=>.opt (zB yA 30 B2 (.int .i64 n123)) fun a124=>.light (fun m=>mA yA 9 ⟨0,m⟩ a124) fun a125=>.asS a125 fun s126=>.ite (!eI s120 s126)
 (.ret (.bool false))
 (.jump 2 [v5,(.int .i64 (vA .i64 (v10+1))),.str A0,A1,A2,A3,A4,A5,A6,A7,.str A8,A9,B0,B1,B2,B3,B4,B5]))
 (.opt (pB yA 54 1 a10) fun a127=>.light (fun m=>mA yA 3 ⟨0,m⟩ a127) fun a128=>.asI .i64 a128 fun n129=>.opt (pB yA 54 1 bC) fun a130=>.light (fun m=>mA yA 3 ⟨0,m⟩ a130) fun a131=>.asI .i64 a131 fun n132=>.ite (!wA n129 n132)
 (.ret (.bool false))
 (.jump 2 [v5,(.int .i64 (vA .i64 (v10+1))),.str A0,A1,A2,A3,A4,A5,A6,A7,.str A8,A9,B0,B1,B2,B3,B4,B5])))))))))) .fail) .fail) .fail)
 (.ret (.bool true))
theorem j11_2(v5:zA)(v10:Int)(A0:List Nat)(A1 A2 A3 A4 A5 A6 A7:zA)(A8:List Nat)(A9 B0 B1 B2 B3 B4 B5:zA)(h:wp 11 (z47 v5 v10 A0 A1 A2 A3 A4 A5 A6 A7 A8 A9 B0 B1 B2 B3 B4 B5) m Q):jp 11 2 [v5,.int .i64 v10,.str A0,A1,A2,A3,A4,A5,A6,A7,.str A8,A9,B0,B1,B2,B3,B4,B5] m Q:=iD ok11 h
def t13 (A0:List Nat)(A1 A2 A3:zA)(p1:Int):T:=
 .opt (uB A1) fun a0=>.asI .i64 a0 fun n1=>.opt (uB A2) fun a2=>.asI .i64 a2 fun n3=>.opt (uB A3) fun a4=>.asI .i64 a4 fun n5=>.jump 2 [.int .i64 p1,(.int .i64 (vA .i64 ((vA .i64 ((vA .i64 ((vA .i64 (1+(vA .i64 (Int.tdiv (Int.ofNat (wB A0)) 30))))+n1))+n3))+n5))),.int .i64 0,.str A0,A1,A2,A3]
theorem w13(A0:List Nat)(A1 A2 A3:zA)(p1:Int)(h:wp 13 (t13 A0 A1 A2 A3 p1) m Q):Wf 13 [.agg [.str A0,A1,A2,A3],.int .i64 p1] m Q:=rC ok13 h
def z45(v1 v5 v6:Int)(A0:List Nat)(A1 A2 A3:zA):T:=
 .opt (uB A1) fun a0=>.asI .i64 a0 fun n1=>.ite (iB v6 n1)
 (.ite (sC v5 v1)
 (.opt (zB yA 22 A1 (.int .i64 v6)) fun a2=>.opt (pB yA 79 0 a2) fun a3=>.light (fun m=>mA yA 9 ⟨0,m⟩ a3) fun a4=>.asS a4 fun s5=>.jump 2 [.int .i64 v1,(.int .i64 (vA .i64 (v5+(vA .i64 (Int.tdiv (Int.ofNat (wB s5)) 30))))),(.int .i64 (vA .i64 (v6+1))),.str A0,A1,A2,A3])
 (.jump 6 [.int .i64 v1,.int .i64 v5,.int .i64 0,.str A0,A1,A2,A3]))
 (.jump 6 [.int .i64 v1,.int .i64 v5,.int .i64 0,.str A0,A1,A2,A3])
theorem j13_2(v1 v5 v6:Int)(A0:List Nat)(A1 A2 A3:zA)(h:wp 13 (z45 v1 v5 v6 A0 A1 A2 A3) m Q):jp 13 2 [.int .i64 v1,.int .i64 v5,.int .i64 v6,.str A0,A1,A2,A3] m Q:=iD ok13 h
def z44(v1 v5 v7:Int)(A0:List Nat)(A1 A2 A3:zA):T:=
 .opt (uB A2) fun a0=>.asI .i64 a0 fun n1=>.ite (iB v7 n1)
 (.ite (sC v5 v1)
 (.opt (zB yA 23 A2 (.int .i64 v7)) fun a2=>.opt (pB yA 82 0 a2) fun a3=>.light (fun m=>mA yA 9 ⟨0,m⟩ a3) fun a4=>.asS a4 fun s5=>.jump 10 [.int .i64 v1,(.int .i64 (vA .i64 (v5+(vA .i64 (Int.tdiv (Int.ofNat (wB s5)) 30))))),.int .i64 v7,.int .i64 0,.str A0,A1,A2,A3])
 (.jump 14 [.int .i64 v1,.int .i64 v5,.int .i64 0,.str A0,A1,A2,A3]))
 (.jump 14 [.int .i64 v1,.int .i64 v5,.int .i64 0,.str A0,A1,A2,A3])
theorem j13_6(v1 v5 v7:Int)(A0:List Nat)(A1 A2 A3:zA)(h:wp 13 (z44 v1 v5 v7 A0 A1 A2 A3) m Q):jp 13 6 [.int .i64 v1,.int .i64 v5,.int .i64 v7,.str A0,A1,A2,A3] m Q:=iD ok13 h
def ztt(v1 v5 v7 v8:Int)(A0:List Nat)(A1 A2 A3:zA):T:=
 .opt (zB yA 23 A2 (.int .i64 v7)) fun a0=>.opt (pB yA 82 2 a0) fun a1=>.light (fun m=>mA yA 80 ⟨0,m⟩ a1) fun a2=>.opt (uB a2) fun a3=>.asI .i64 a3 fun n4=>.ite (iB v8 n4)
 (.ite (sC v5 v1)
 (.opt (zB yA 23 A2 (.int .i64 v7)) fun a5=>.opt (pB yA 82 2 a5) fun a6=>.light (fun m=>mA yA 80 ⟨0,m⟩ a6) fun a7=>.opt (zB yA 80 a7 (.int .i64 v8)) fun a8=>.opt (pB yA 85 3 a8) fun a9=>.light (fun m=>mA yA 45 ⟨0,m⟩ a9) fun a10=>.asG zz7z a10 fun X11=>
 .call 36 [(.agg [.bool (X11.b 0),X11.v 1,.bool (X11.b 2),X11.v 3])] fun a12=>
 .asI .i64 a12 fun n13=>.jump 10 [.int .i64 v1,(.int .i64 (vA .i64 (v5+n13))),.int .i64 v7,(.int .i64 (vA .i64 (v8+1))),.str A0,A1,A2,A3])
 (.jump 6 [.int .i64 v1,.int .i64 v5,(.int .i64 (vA .i64 (v7+1))),.str A0,A1,A2,A3]))
 (.jump 6 [.int .i64 v1,.int .i64 v5,(.int .i64 (vA .i64 (v7+1))),.str A0,A1,A2,A3])
theorem z3t(v1 v5 v7 v8:Int)(A0:List Nat)(A1 A2 A3:zA)(h:wp 13 (ztt v1 v5 v7 v8 A0 A1 A2 A3) m Q):jp 13 10 [.int .i64 v1,.int .i64 v5,.int .i64 v7,.int .i64 v8,.str A0,A1,A2,A3] m Q:=iD ok13 h
def zts(v1 v5 v9:Int)(A0:List Nat)(A1 A2 A3:zA):T:=
 .opt (uB A3) fun a0=>.asI .i64 a0 fun n1=>.ite (iB v9 n1)
 (.ite (sC v5 v1)
 (.opt (zB yA 24 A3 (.int .i64 v9)) fun a2=>.light (fun m=>mA yA 52 ⟨0,m⟩ a2) fun a3=>.asG zz5z a3 fun X4=>
 .ite (bB zA.one [.str (X4.s 0),.str (X4.s 1),.int .i64 (X4.i 2),.int .i64 (X4.i 3),.int .i64 (X4.i 4),.bool (X4.b 5),.int .u8 (X4.i 6),.str (X4.s 7),.int .u8 (X4.i 8),.bool (X4.b 9),X4.v 10,.bool (X4.b 11),X4.v 12,.int .i64 (X4.i 13),X4.v 14,.int .u8 (X4.i 15),.str (X4.s 16),.int .u8 (X4.i 17),.bool (X4.b 18),X4.v 19,.bool (X4.b 20),X4.v 21,.int .i64 (X4.i 22),X4.v 23]) (.call 37 [(.agg [.int .u8 (X4.i 6),.str (X4.s 7),.int .u8 (X4.i 8),.bool (X4.b 9),X4.v 10,.bool (X4.b 11),X4.v 12,.int .i64 (X4.i 13),X4.v 14]),(.int .i64 (vA .i64 (v1-v5)))] fun a5=>
 .asI .i64 a5 fun n6=>.ite (same 10 (.str (X4.s 0)) (.str (X4.s 0))) (.ite (same 10 (.int .i64 (Int.ofNat (wB (X4.s 0)))) (.int .i64 (Int.ofNat (wB (X4.s 0))))) (.ite (same 10 (.str (X4.s 1)) (.str (X4.s 1))) (.ite (same 10 (.int .i64 (Int.ofNat (wB (X4.s 1)))) (.int .i64 (Int.ofNat (wB (X4.s 1))))) (.ite (sC (vA .i64 (v5+(vA .i64 ((vA .i64 ((vA .i64 (Int.tdiv (Int.ofNat (wB (X4.s 0))) 30))+(vA .i64 (Int.tdiv (Int.ofNat (wB (X4.s 1))) 30))))+n6)))) v1)
 (.call 37 [(.agg [.int .u8 (X4.i 15),.str (X4.s 16),.int .u8 (X4.i 17),.bool (X4.b 18),X4.v 19,.bool (X4.b 20),X4.v 21,.int .i64 (X4.i 22),X4.v 23]),(.int .i64 (vA .i64 (v1-(vA .i64 (v5+(vA .i64 ((vA .i64 ((vA .i64 (Int.tdiv (Int.ofNat (wB (X4.s 0))) 30))+(vA .i64 (Int.tdiv (Int.ofNat (wB (X4.s 1))) 30))))+n6)))))))] fun a7=>
 .asI .i64 a7 fun n8=>.jump 14 [.int .i64 v1,(.int .i64 (vA .i64 ((vA .i64 (v5+(vA .i64 ((vA .i64 ((vA .i64 (Int.tdiv (Int.ofNat (wB (X4.s 0))) 30))+(vA .i64 (Int.tdiv (Int.ofNat (wB (X4.s 1))) 30))))+n6))))+n8))),(.int .i64 (vA .i64 (v9+1))),.str A0,A1,A2,A3])
 (.jump 14 [.int .i64 v1,(.int .i64 (vA .i64 (v5+(vA .i64 ((vA .i64 ((vA .i64 (Int.tdiv (Int.ofNat (wB (X4.s 0))) 30))+(vA .i64 (Int.tdiv (Int.ofNat (wB (X4.s 1))) 30))))+n6))))),(.int .i64 (vA .i64 (v9+1))),.str A0,A1,A2,A3])) .fail) .fail) .fail) .fail) .fail)
 (.ret (.int .i64 v5)))
 (.ret (.int .i64 v5))
theorem z3s(v1 v5 v9:Int)(A0:List Nat)(A1 A2 A3:zA)(h:wp 13 (zts v1 v5 v9 A0 A1 A2 A3) m Q):jp 13 14 [.int .i64 v1,.int .i64 v5,.int .i64 v9,.str A0,A1,A2,A3] m Q:=iD ok13 h
def t16 (A0:List Nat)(A1 A2 A3 A4 A5 A6 A7:zA)(p1:Int):T:=
 .opt (uB A4) fun a0=>.asI .i64 a0 fun n1=>.opt (uB A6) fun a2=>.asI .i64 a2 fun n3=>.opt (uB A7) fun a4=>.asI .i64 a4 fun n5=>.call 13 [.agg [.str A0,A1,A2,A3],.int .i64 p1] fun a6=>
 .asI .i64 a6 fun n7=>.ite (same 10 A4 A4) (.opt (uB A4) fun a8=>.ite (same 10 a8 (.int .i64 n1)) (.ite (same 10 A6 A6) (.opt (uB A6) fun a9=>.ite (same 10 a9 (.int .i64 n3)) (.ite (same 10 A7 A7) (.opt (uB A7) fun a10=>.ite (same 10 a10 (.int .i64 n5)) (.jump 2 [.int .i64 p1,(.int .i64 (vA .i64 ((vA .i64 ((vA .i64 (n7+n1))+n3))+n5))),.int .i64 0,.str A0,A1,A2,A3,A4,A5,A6,A7]) .fail) .fail) .fail) .fail) .fail) .fail
theorem w16(A0:List Nat)(A1 A2 A3 A4 A5 A6 A7:zA)(p1:Int)(h:wp 16 (t16 A0 A1 A2 A3 A4 A5 A6 A7 p1) m Q):Wf 16 [.agg [.str A0,A1,A2,A3,A4,A5,A6,A7],.int .i64 p1] m Q:=rC ok16 h
def zzc(v1 v5 v6:Int)(A0:List Nat)(A1 A2 A3 A4 A5 A6 A7:zA):T:=
 .opt (uB A4) fun a0=>.asI .i64 a0 fun n1=>.ite (iB v6 n1)
 (.ite (sC v5 v1)
 (.opt (zB yA 30 A4 (.int .i64 v6)) fun a2=>.light (fun m=>mA yA 9 ⟨0,m⟩ a2) fun a3=>.asS a3 fun s4=>.jump 2 [.int .i64 v1,(.int .i64 (vA .i64 (v5+(vA .i64 (Int.tdiv (Int.ofNat (wB s4)) 30))))),(.int .i64 (vA .i64 (v6+1))),.str A0,A1,A2,A3,A4,A5,A6,A7])
 (.jump 6 [.int .i64 v1,.int .i64 v5,.int .i64 0,.str A0,A1,A2,A3,A4,A5,A6,A7]))
 (.jump 6 [.int .i64 v1,.int .i64 v5,.int .i64 0,.str A0,A1,A2,A3,A4,A5,A6,A7])
theorem z6g(v1 v5 v6:Int)(A0:List Nat)(A1 A2 A3 A4 A5 A6 A7:zA)(h:wp 16 (zzc v1 v5 v6 A0 A1 A2 A3 A4 A5 A6 A7) m Q):jp 16 2 [.int .i64 v1,.int .i64 v5,.int .i64 v6,.str A0,A1,A2,A3,A4,A5,A6,A7] m Q:=iD ok16 h
def zzb(v1 v5 v7:Int)(A0:List Nat)(A1 A2 A3 A4 A5 A6 A7:zA):T:=
 .opt (uB A5) fun a0=>.asI .i64 a0 fun n1=>.ite (iB v7 n1)
 (.ite (sC v5 v1)
 (.opt (zB yA 31 A5 (.int .i64 v7)) fun a2=>.opt (pB yA 47 1 a2) fun a3=>.light (fun m=>mA yA 45 ⟨0,m⟩ a3) fun a4=>.asG zz7z a4 fun X5=>
 .call 36 [(.agg [.bool (X5.b 0),X5.v 1,.bool (X5.b 2),X5.v 3])] fun a6=>
 .asI .i64 a6 fun n7=>.jump 6 [.int .i64 v1,(.int .i64 (vA .i64 (v5+n7))),(.int .i64 (vA .i64 (v7+1))),.str A0,A1,A2,A3,A4,A5,A6,A7])
 (.jump 10 [.int .i64 v1,.int .i64 v5,.int .i64 0,.str A0,A1,A2,A3,A4,A5,A6,A7]))
 (.jump 10 [.int .i64 v1,.int .i64 v5,.int .i64 0,.str A0,A1,A2,A3,A4,A5,A6,A7])
theorem z6f(v1 v5 v7:Int)(A0:List Nat)(A1 A2 A3 A4 A5 A6 A7:zA)(h:wp 16 (zzb v1 v5 v7 A0 A1 A2 A3 A4 A5 A6 A7) m Q):jp 16 6 [.int .i64 v1,.int .i64 v5,.int .i64 v7,.str A0,A1,A2,A3,A4,A5,A6,A7] m Q:=iD ok16 h
def znr(v1 v5 v8:Int)(A0:List Nat)(A1 A2 A3 A4 A5 A6 A7:zA):T:=
 .opt (uB A6) fun a0=>.asI .i64 a0 fun n1=>.ite (iB v8 n1)
 (.ite (sC v5 v1)
 (.opt (zB yA 32 A6 (.int .i64 v8)) fun a2=>.light (fun m=>mA yA 37 ⟨0,m⟩ a2) fun a3=>.opt (uB a3) fun a4=>.asI .i64 a4 fun n5=>.jump 10 [.int .i64 v1,(.int .i64 (vA .i64 (v5+n5))),(.int .i64 (vA .i64 (v8+1))),.str A0,A1,A2,A3,A4,A5,A6,A7])
 (.jump 14 [.int .i64 v1,.int .i64 v5,.int .i64 0,.str A0,A1,A2,A3,A4,A5,A6,A7]))
 (.jump 14 [.int .i64 v1,.int .i64 v5,.int .i64 0,.str A0,A1,A2,A3,A4,A5,A6,A7])
theorem zwp(v1 v5 v8:Int)(A0:List Nat)(A1 A2 A3 A4 A5 A6 A7:zA)(h:wp 16 (znr v1 v5 v8 A0 A1 A2 A3 A4 A5 A6 A7) m Q):jp 16 10 [.int .i64 v1,.int .i64 v5,.int .i64 v8,.str A0,A1,A2,A3,A4,A5,A6,A7] m Q:=iD ok16 h
def znq(v1 v5 v9:Int)(A0:List Nat)(A1 A2 A3 A4 A5 A6 A7:zA):T:=
 .opt (uB A7) fun a0=>.asI .i64 a0 fun n1=>.ite (iB v9 n1)
 (.ite (sC v5 v1)
 (.opt (zB yA 32 A7 (.int .i64 v9)) fun a2=>.light (fun m=>mA yA 37 ⟨0,m⟩ a2) fun a3=>.opt (uB a3) fun a4=>.asI .i64 a4 fun n5=>.jump 14 [.int .i64 v1,(.int .i64 (vA .i64 (v5+n5))),(.int .i64 (vA .i64 (v9+1))),.str A0,A1,A2,A3,A4,A5,A6,A7])
 (.ret (.int .i64 v5)))
 (.ret (.int .i64 v5))
theorem zwo(v1 v5 v9:Int)(A0:List Nat)(A1 A2 A3 A4 A5 A6 A7:zA)(h:wp 16 (znq v1 v5 v9 A0 A1 A2 A3 A4 A5 A6 A7) m Q):jp 16 14 [.int .i64 v1,.int .i64 v5,.int .i64 v9,.str A0,A1,A2,A3,A4,A5,A6,A7] m Q:=iD ok16 h
def t22 (A0:List Nat)(A1 A2 A3:zA):T:=
 .call 33 [.agg [.str A0,A1,A2,A3]] fun a0=>
 .asB a0 fun b1=>.ite (!b1)
 (.ite true (.ite true (.ret (.tup [.agg [.str [],.nilslice,.nilslice,.nilslice,.nilslice,.nilslice,.nilslice,.nilslice],.int .i64 2])) .fail) .fail)
 (.call 51 [.agg [.str A0,A1,A2,A3]] fun a2=>
 .asG [.str [],.nilslice,.nilslice,.nilslice] a2 fun X3=>
 .ite true (.heavy aU fun a4=>
 .heavy aU fun a5=>
 .ite (bB zA.one [a4,a5]) (.heavy (zsj (.agg [.str (X3.s 0),X3.v 1,X3.v 2,X3.v 3,.nilslice,.nilslice,.nilslice,.nilslice,a4,a5,.nilslice])) fun a6=>
 .opt (uB A3) fun a7=>.asI .i64 a7 fun n8=>.jump 2 [a6,A3,.int .i64 n8,.int .i64 0,.str [],.nilslice,.nilslice,.nilslice,.nilslice,.nilslice,.nilslice,.nilslice]) .fail) .fail)
theorem w22(A0:List Nat)(A1 A2 A3:zA)(h:wp 22 (t22 A0 A1 A2 A3) m Q):Wf 22 [.agg [.str A0,A1,A2,A3]] m Q:=rC ok22 h
def z43(v4 v19:zA)(v20 v21:Int)(A0:List Nat)(A1 A2 A3 A4 A5 A6 A7:zA):T:=
 .ite (iB v21 v20)
 (.opt (zB yA 24 v19 (.int .i64 v21)) fun a0=>.light (fun m=>mA yA 52 ⟨0,m⟩ a0) fun a1=>.asG zz5z a1 fun X2=>
 .ite (bB zA.one [.str (X2.s 0),.str (X2.s 1),.int .i64 (X2.i 2),.int .i64 (X2.i 3),.int .i64 (X2.i 4),.bool (X2.b 5),.int .u8 (X2.i 6),.str (X2.s 7),.int .u8 (X2.i 8),.bool (X2.b 9),X2.v 10,.bool (X2.b 11),X2.v 12,.int .i64 (X2.i 13),X2.v 14,.int .u8 (X2.i 15),.str (X2.s 16),.int .u8 (X2.i 17),.bool (X2.b 18),X2.v 19,.bool (X2.b 20),X2.v 21,.int .i64 (X2.i 22),X2.v 23]) (.opt (fG v4) fun a3=>.opt (pB yA 109 0 a3) fun a4=>.opt (pB yA 34 3 a4) fun a5=>.light (fun m=>mA yA 32 ⟨0,m⟩ a5) fun a6=>.call 52 [v4,(.agg [.int .u8 (X2.i 6),.str (X2.s 7),.int .u8 (X2.i 8),.bool (X2.b 9),X2.v 10,.bool (X2.b 11),X2.v 12,.int .i64 (X2.i 13),X2.v 14])] fun a7=>
 .light (fun m=>mA yA 32 ⟨0,m⟩ a5) fun a8=>.ite (same 10 a8 a6) (.heavy (oF yA 32 1 [(0,a7)]) fun a9=>
 .light (fun m=>mA yA 32 ⟨0,m⟩ a5) fun a10=>.ite (same 10 a10 a6) (.heavy (eE yA 32 32 a6 a9) fun bC=>
 .opt (fG v4) fun a12=>.opt (pB yA 109 0 a12) fun fE=>.opt (pB yA 34 3 fE) fun a14=>.heavy (xE yA 32 a14 bC) fun _=>
 .opt (fG v4) fun a15=>.opt (pB yA 109 0 a15) fun mG=>.opt (pB yA 34 4 mG) fun a17=>.light (fun m=>mA yA 32 ⟨0,m⟩ a17) fun a18=>.call 52 [v4,(.agg [.int .u8 (X2.i 15),.str (X2.s 16),.int .u8 (X2.i 17),.bool (X2.b 18),X2.v 19,.bool (X2.b 20),X2.v 21,.int .i64 (X2.i 22),X2.v 23])] fun a19=>
 .light (fun m=>mA yA 32 ⟨0,m⟩ a17) fun a20=>.ite (same 10 a20 a18) (.heavy (oF yA 32 1 [(0,a19)]) fun a21=>
 .light (fun m=>mA yA 32 ⟨0,m⟩ a17) fun a22=>.ite (same 10 a22 a18) (.heavy (eE yA 32 32 a18 a21) fun a23=>
 .opt (fG v4) fun a24=>.opt (pB yA 109 0 a24) fun a25=>.opt (pB yA 34 4 a25) fun a26=>.heavy (xE yA 32 a26 a23) fun _=>
 .jump 2 [v4,v19,.int .i64 v20,(.int .i64 (vA .i64 (v21+1))),.str A0,A1,A2,A3,A4,A5,A6,A7]) .fail) .fail) .fail) .fail) .fail)
 (.opt (fG v4) fun a27=>.opt (pB yA 109 0 a27) fun a28=>.light (fun m=>mA yA 34 ⟨0,m⟩ a28) fun a29=>.asG zz6z a29 fun X30=>
 .ite (bB zA.one [.str (X30.s 0),X30.v 1,X30.v 2,X30.v 3,X30.v 4,X30.v 5,X30.v 6,X30.v 7]) (.ret (.tup [(.agg [.str (X30.s 0),X30.v 1,X30.v 2,X30.v 3,X30.v 4,X30.v 5,X30.v 6,X30.v 7]),.int .i64 0])) .fail)
theorem j22_2(v4 v19:zA)(v20 v21:Int)(A0:List Nat)(A1 A2 A3 A4 A5 A6 A7:zA)(h:wp 22 (z43 v4 v19 v20 v21 A0 A1 A2 A3 A4 A5 A6 A7) m Q):jp 22 2 [v4,v19,.int .i64 v20,.int .i64 v21,.str A0,A1,A2,A3,A4,A5,A6,A7] m Q:=iD ok22 h
def t24 (A0:Int)(A1:Bool)(A2:zA)(A3:Bool)(A4:zA)(A5 A6:Int)(A7:Bool)(A8:zA)(A9:Bool)(B0:zA)(B1:Int):T:=
 .ite (wA A0 A6)
 (.ite (wA A5 B1)
 (.call 53 [.agg [.bool A1,A2,.bool A3,A4],.agg [.bool A7,A8,.bool A9,B0]] fun a0=>
 .asB a0 fun b1=>.ret (.bool b1))
 (.ret (.bool false)))
 (.ret (.bool false))
theorem w24(A0:Int)(A1:Bool)(A2:zA)(A3:Bool)(A4:zA)(A5 A6:Int)(A7:Bool)(A8:zA)(A9:Bool)(B0:zA)(B1:Int)(h:wp 24 (t24 A0 A1 A2 A3 A4 A5 A6 A7 A8 A9 B0 B1) m Q):Wf 24 [.agg [.int .u8 A0,.bool A1,A2,.bool A3,A4,.int .i64 A5],.agg [.int .u8 A6,.bool A7,A8,.bool A9,B0,.int .i64 B1]] m Q:=rC ok24 h
def t25 (A0:Int)(A1:Bool)(A2:zA)(A3:Bool)(A4:zA)(A5:Int):T:=
 .ite (wA A0 2)
 (.ite (wA A0 2)
 (.ite (wA A5 0)
 (.call 54 [.agg [.bool A1,A2,.bool A3,A4]] fun a0=>
 .asB a0 fun b1=>.ret (.bool b1))
 (.ret (.bool false)))
 (.ite (wA A0 1)
 (.ite true (.call 53 [.agg [.bool A1,A2,.bool A3,A4],.agg [.bool false,.nilslice,.bool false,.nilslice]] fun a2=>
 .asB a2 fun b3=>.ite b3
 (.ite (sC 0 A5)
 (.ret (.bool (sC A5 1)))
 (.ret (.bool false)))
 (.ret (.bool false))) .fail)
 (.ite (wA A0 4)
 (.ite true (.call 53 [.agg [.bool A1,A2,.bool A3,A4],.agg [.bool false,.nilslice,.bool false,.nilslice]] fun a4=>
 .asB a4 fun b5=>.ite b5
 (.ite (sC 0 A5)
 (.ret (.bool (iB A5 65536)))
 (.ret (.bool false)))
 (.ret (.bool false))) .fail)
 (.ite (wA A0 5)
 (.ite (wA A0 5)
 (.ite true (.call 53 [.agg [.bool A1,A2,.bool A3,A4],.agg [.bool false,.nilslice,.bool false,.nilslice]] fun a6=>
 .asB a6 fun b7=>.ite b7
 (.ite (sC (-1048576) A5)
 (.ret (.bool (sC A5 1048576)))
 (.ret (.bool false)))
 (.ret (.bool false))) .fail)
 (.ret (.bool false)))
 (.ite (wA A0 6)
 (.ite true (.call 53 [.agg [.bool A1,A2,.bool A3,A4],.agg [.bool false,.nilslice,.bool false,.nilslice]] fun a8=>
 .asB a8 fun b9=>.ite b9
 (.ite (sC (-1048576) A5)
 (.ret (.bool (sC A5 1048576)))
 (.ret (.bool false)))
 (.ret (.bool false))) .fail)
 (.ret (.bool false)))))))
 (.ite (wA A0 3)
 (.ite (wA A5 0)
 (.call 54 [.agg [.bool A1,A2,.bool A3,A4]] fun a10=>
 .asB a10 fun b11=>.ret (.bool b11))
 (.ret (.bool false)))
 (.ite (wA A0 1)
 (.ite true (.call 53 [.agg [.bool A1,A2,.bool A3,A4],.agg [.bool false,.nilslice,.bool false,.nilslice]] fun a12=>
 .asB a12 fun b13=>.ite b13
 (.ite (sC 0 A5)
 (.ret (.bool (sC A5 1)))
 (.ret (.bool false)))
 (.ret (.bool false))) .fail)
 (.ite (wA A0 4)
 (.ite true (.call 53 [.agg [.bool A1,A2,.bool A3,A4],.agg [.bool false,.nilslice,.bool false,.nilslice]] fun a14=>
 .asB a14 fun b15=>.ite b15
 (.ite (sC 0 A5)
 (.ret (.bool (iB A5 65536)))
 (.ret (.bool false)))
 (.ret (.bool false))) .fail)
 (.ite (wA A0 5)
 (.ite (wA A0 5)
 (.ite true (.call 53 [.agg [.bool A1,A2,.bool A3,A4],.agg [.bool false,.nilslice,.bool false,.nilslice]] fun mG=>
 .asB mG fun b17=>.ite b17
 (.ite (sC (-1048576) A5)
 (.ret (.bool (sC A5 1048576)))
 (.ret (.bool false)))
 (.ret (.bool false))) .fail)
 (.ret (.bool false)))
 (.ite (wA A0 6)
 (.ite true (.call 53 [.agg [.bool A1,A2,.bool A3,A4],.agg [.bool false,.nilslice,.bool false,.nilslice]] fun a18=>
 .asB a18 fun b19=>.ite b19
 (.ite (sC (-1048576) A5)
 (.ret (.bool (sC A5 1048576)))
 (.ret (.bool false)))
 (.ret (.bool false))) .fail)
 (.ret (.bool false)))))))
theorem w25(A0:Int)(A1:Bool)(A2:zA)(A3:Bool)(A4:zA)(A5:Int)(h:wp 25 (t25 A0 A1 A2 A3 A4 A5) m Q):Wf 25 [.agg [.int .u8 A0,.bool A1,A2,.bool A3,A4,.int .i64 A5]] m Q:=rC ok25 h
def t26 (p0 p1:Int):T:=
 .ite (iB p1 1)
 (.ret (.int .i64 0))
 (.opt (zrz .i64 p0 p1) fun a0=>.asI .i64 a0 fun n1=>.ite (iB n1 0)
 (.ret (.int .i64 (vA .i64 (n1+p1))))
 (.ret (.int .i64 n1)))
theorem w26(p0 p1:Int)(h:wp 26 (t26 p0 p1) m Q):Wf 26 [.int .i64 p0,.int .i64 p1] m Q:=rC ok26 h
def t28 (A0:List Nat)(A1 A2 A3 A4 A5 A6 A7 p1:zA):T:=
 .call 58 [.agg [.str A0,A1,A2,A3,A4,A5,A6,A7],p1] fun a0=>
 .asB a0 fun b1=>.ite (!b1)
 (.ite true (.ite true (.ret (.tup [.agg [.int .u8 0,.str [],.int .u8 0,.bool false,.nilslice,.bool false,.nilslice,.int .i64 0,.nilslice],.int .i64 190])) .fail) .fail)
 (.opt (uB p1) fun a2=>.asI .i64 a2 fun n3=>.jump 2 [p1,p1,.int .i64 n3,.int .i64 0,.str A0,A1,A2,A3,A4,A5,A6,A7,.int .u8 0,.str [],.int .u8 0,.bool false,.nilslice,.bool false,.nilslice,.int .i64 0,.nilslice])
theorem w28(A0:List Nat)(A1 A2 A3 A4 A5 A6 A7 p1:zA)(h:wp 28 (t28 A0 A1 A2 A3 A4 A5 A6 A7 p1) m Q):Wf 28 [.agg [.str A0,A1,A2,A3,A4,A5,A6,A7],p1] m Q:=rC ok28 h
def z42(v1 v16:zA)(v17 v18:Int)(A0:List Nat)(A1 A2 A3 A4 A5 A6 A7:zA)(A8:Int)(A9:List Nat)(B0:Int)(B1:Bool)(B2:zA)(B3:Bool)(B4:zA)(B5:Int)(B6:zA):T:=
 .ite (iB v18 v17)
 (.opt (zB yA 37 v16 (.int .i64 v18)) fun a0=>.light (fun m=>mA yA 54 ⟨0,m⟩ a0) fun a1=>.asG z4b a1 fun X2=>
 .ite true (.ite (wA (X2.i 0) 13)
 (.ite true (.ite true (.ret (.tup [.agg [.int .u8 0,.str [],.int .u8 0,.bool false,.nilslice,.bool false,.nilslice,.int .i64 0,.nilslice],.int .i64 190])) .fail) .fail)
 (.ite (wA (X2.i 0) 1)
 (.opt (zB yA 31 A5 (.int .i64 (X2.i 1))) fun a3=>.light (fun m=>mA yA 47 ⟨0,m⟩ a3) fun a4=>.asG z2a a4 fun X5=>
 .call 25 [(.agg [.int .u8 (X5.i 0),.bool (X5.b 1),X5.v 2,.bool (X5.b 3),X5.v 4,.int .i64 (X5.i 5)])] fun a6=>
 .asB a6 fun b7=>.ite (!b7)
 (.ite true (.ite true (.ret (.tup [.agg [.int .u8 0,.str [],.int .u8 0,.bool false,.nilslice,.bool false,.nilslice,.int .i64 0,.nilslice],.int .i64 190])) .fail) .fail)
 (.jump 2 [v1,v16,.int .i64 v17,(.int .i64 (vA .i64 (v18+1))),.str A0,A1,A2,A3,A4,A5,A6,A7,.int .u8 A8,.str A9,.int .u8 B0,.bool B1,B2,.bool B3,B4,.int .i64 B5,B6]))
 (.jump 2 [v1,v16,.int .i64 v17,(.int .i64 (vA .i64 (v18+1))),.str A0,A1,A2,A3,A4,A5,A6,A7,.int .u8 A8,.str A9,.int .u8 B0,.bool B1,B2,.bool B3,B4,.int .i64 B5,B6]))) .fail)
 (.ite (bB zA.one [v1]) (.heavy (sM yA 118) fun a8=>
 .heavy (xE yA 118 a8 (.agg [.str A0,A1,A2,A3,A4,A5,A6,A7,v1])) fun _=>
 .opt (uB v1) fun a9=>.asI .i64 a9 fun n10=>.call 59 [a8,.int .i64 0,.int .i64 n10] fun bC=>
 .opt (vC 0 bC) fun a12=>.asG uJ a12 fun X13=>
 .opt (vC 1 bC) fun a14=>.asB a14 fun b15=>.ite (bB zA.one [.int .u8 (X13.i 0),.str (X13.s 1),.int .u8 (X13.i 2),.bool (X13.b 3),X13.v 4,.bool (X13.b 5),X13.v 6,.int .i64 (X13.i 7),X13.v 8]) (.ite (!b15)
 (.ite true (.ite true (.ret (.tup [.agg [.int .u8 0,.str [],.int .u8 0,.bool false,.nilslice,.bool false,.nilslice,.int .i64 0,.nilslice],.int .i64 190])) .fail) .fail)
 (.ite (bB zA.one [.int .u8 (X13.i 0),.str (X13.s 1),.int .u8 (X13.i 2),.bool (X13.b 3),X13.v 4,.bool (X13.b 5),X13.v 6,.int .i64 (X13.i 7),X13.v 8]) (.ret (.tup [(.agg [.int .u8 (X13.i 0),.str (X13.s 1),.int .u8 (X13.i 2),.bool (X13.b 3),X13.v 4,.bool (X13.b 5),X13.v 6,.int .i64 (X13.i 7),X13.v 8]),.int .i64 0])) .fail)) .fail) .fail)
theorem j28_2(v1 v16:zA)(v17 v18:Int)(A0:List Nat)(A1 A2 A3 A4 A5 A6 A7:zA)(A8:Int)(A9:List Nat)(B0:Int)(B1:Bool)(B2:zA)(B3:Bool)(B4:zA)(B5:Int)(B6:zA)(h:wp 28 (z42 v1 v16 v17 v18 A0 A1 A2 A3 A4 A5 A6 A7 A8 A9 B0 B1 B2 B3 B4 B5 B6) m Q):jp 28 2 [v1,v16,.int .i64 v17,.int .i64 v18,.str A0,A1,A2,A3,A4,A5,A6,A7,.int .u8 A8,.str A9,.int .u8 B0,.bool B1,B2,.bool B3,B4,.int .i64 B5,B6] m Q:=iD ok28 h
def t29 (A0:Int)(A1:List Nat)(A2:Int)(A3:Bool)(A4:zA)(A5:Bool)(A6:zA)(A7:Int)(A8:zA)(A9:Int)(B0:List Nat)(B1:Int)(B2:Bool)(B3:zA)(B4:Bool)(B5:zA)(B6:Int)(B7:zA):T:=
 .ite (wA A0 A9)
 (.ite (eI A1 B0)
 (.call 60 [.agg [.int .u8 A2,.bool A3,A4,.bool A5,A6,.int .i64 A7],.agg [.int .u8 B1,.bool B2,B3,.bool B4,B5,.int .i64 B6]] fun a0=>
 .asB a0 fun b1=>.ite b1
 (.call 61 [A8,B7] fun a2=>
 .asB a2 fun b3=>.ret (.bool b3))
 (.ret (.bool false)))
 (.ret (.bool false)))
 (.ret (.bool false))
theorem w29(A0:Int)(A1:List Nat)(A2:Int)(A3:Bool)(A4:zA)(A5:Bool)(A6:zA)(A7:Int)(A8:zA)(A9:Int)(B0:List Nat)(B1:Int)(B2:Bool)(B3:zA)(B4:Bool)(B5:zA)(B6:Int)(B7:zA)(h:wp 29 (t29 A0 A1 A2 A3 A4 A5 A6 A7 A8 A9 B0 B1 B2 B3 B4 B5 B6 B7) m Q):Wf 29 [.agg [.int .u8 A0,.str A1,.int .u8 A2,.bool A3,A4,.bool A5,A6,.int .i64 A7,A8],.agg [.int .u8 A9,.str B0,.int .u8 B1,.bool B2,B3,.bool B4,B5,.int .i64 B6,B7]] m Q:=rC ok29 h
def t31 (A0:Int)(A1:List Nat)(A2:Int)(A3:Bool)(A4:zA)(A5:Bool)(A6:zA)(A7:Int)(A8:zA):T:=
 .opt (uB A8) fun a0=>.asI .i64 a0 fun n1=>.jump 2 [.int .i64 1,A8,.int .i64 n1,.int .i64 0]
theorem w31(A0:Int)(A1:List Nat)(A2:Int)(A3:Bool)(A4:zA)(A5:Bool)(A6:zA)(A7:Int)(A8:zA)(h:wp 31 (t31 A0 A1 A2 A3 A4 A5 A6 A7 A8) m Q):Wf 31 [.agg [.int .u8 A0,.str A1,.int .u8 A2,.bool A3,A4,.bool A5,A6,.int .i64 A7,A8]] m Q:=rC ok31 h
def z41(v3:Int)(v7:zA)(v8 v9:Int):T:=
 .ite (iB v9 v8)
 (.opt (zB yA 48 v7 (.int .i64 v9)) fun a0=>.light (fun m=>mA yA 50 ⟨0,m⟩ a0) fun a1=>.asG uJ a1 fun X2=>
 .ite (bB zA.one [.int .u8 (X2.i 0),.str (X2.s 1),.int .u8 (X2.i 2),.bool (X2.b 3),X2.v 4,.bool (X2.b 5),X2.v 6,.int .i64 (X2.i 7),X2.v 8]) (.call 31 [(.agg [.int .u8 (X2.i 0),.str (X2.s 1),.int .u8 (X2.i 2),.bool (X2.b 3),X2.v 4,.bool (X2.b 5),X2.v 6,.int .i64 (X2.i 7),X2.v 8])] fun a3=>
 .asI .i64 a3 fun n4=>.jump 2 [(.int .i64 (vA .i64 (v3+n4))),v7,.int .i64 v8,(.int .i64 (vA .i64 (v9+1)))]) .fail)
 (.ret (.int .i64 v3))
theorem j31_2(v3:Int)(v7:zA)(v8 v9:Int)(h:wp 31 (z41 v3 v7 v8 v9) m Q):jp 31 2 [.int .i64 v3,v7,.int .i64 v8,.int .i64 v9] m Q:=iD ok31 h
def t32 (A0:Int)(A1:List Nat)(A2:Int)(A3:Bool)(A4:zA)(A5:Bool)(A6:zA)(A7:Int)(A8:zA)(p1:Int):T:=
 .ite (sC p1 0)
 (.ret (.bool true))
 (.jump 2 [.int .i64 p1,.int .i64 0,.int .u8 A0,.str A1,.int .u8 A2,.bool A3,A4,.bool A5,A6,.int .i64 A7,A8])
theorem w32(A0:Int)(A1:List Nat)(A2:Int)(A3:Bool)(A4:zA)(A5:Bool)(A6:zA)(A7:Int)(A8:zA)(p1:Int)(h:wp 32 (t32 A0 A1 A2 A3 A4 A5 A6 A7 A8 p1) m Q):Wf 32 [.agg [.int .u8 A0,.str A1,.int .u8 A2,.bool A3,A4,.bool A5,A6,.int .i64 A7,A8],.int .i64 p1] m Q:=rC ok32 h
def z40(v1 v5 A0:Int)(A1:List Nat)(A2:Int)(A3:Bool)(A4:zA)(A5:Bool)(A6:zA)(A7:Int)(A8:zA):T:=
 .opt (uB A8) fun a0=>.asI .i64 a0 fun n1=>.ite (iB v5 n1)
 (.opt (zB yA 48 A8 (.int .i64 v5)) fun a2=>.light (fun m=>mA yA 50 ⟨0,m⟩ a2) fun a3=>.asG uJ a3 fun X4=>
 .call 32 [(.agg [.int .u8 (X4.i 0),.str (X4.s 1),.int .u8 (X4.i 2),.bool (X4.b 3),X4.v 4,.bool (X4.b 5),X4.v 6,.int .i64 (X4.i 7),X4.v 8]),(.int .i64 (vA .i64 (v1-1)))] fun a5=>
 .asB a5 fun b6=>.ite b6
 (.ret (.bool true))
 (.jump 2 [.int .i64 v1,(.int .i64 (vA .i64 (v5+1))),.int .u8 A0,.str A1,.int .u8 A2,.bool A3,A4,.bool A5,A6,.int .i64 A7,A8]))
 (.ret (.bool false))
theorem j32_2(v1 v5 A0:Int)(A1:List Nat)(A2:Int)(A3:Bool)(A4:zA)(A5:Bool)(A6:zA)(A7:Int)(A8:zA)(h:wp 32 (z40 v1 v5 A0 A1 A2 A3 A4 A5 A6 A7 A8) m Q):jp 32 2 [.int .i64 v1,.int .i64 v5,.int .u8 A0,.str A1,.int .u8 A2,.bool A3,A4,.bool A5,A6,.int .i64 A7,A8] m Q:=iD ok32 h
def t33 (A0:List Nat)(A1 A2 A3:zA):T:=
 .opt (uB A1) fun a0=>.asI .i64 a0 fun n1=>.ite (iB 64 n1)
 (.ret (.bool false))
 (.opt (uB A3) fun a2=>.asI .i64 a2 fun n3=>.ite (iB 400 n3)
 (.ret (.bool false))
 (.opt (uB A2) fun a4=>.asI .i64 a4 fun n5=>.ite (iB 16 n5)
 (.ret (.bool false))
 (.opt (uB A3) fun a6=>.asI .i64 a6 fun n7=>.jump 2 [A3,.int .i64 n7,.int .i64 0,.str A0,A1,A2,A3])))
theorem w33(A0:List Nat)(A1 A2 A3:zA)(h:wp 33 (t33 A0 A1 A2 A3) m Q):Wf 33 [.agg [.str A0,A1,A2,A3]] m Q:=rC ok33 h
def z4z(v24:zA)(v25 v26:Int)(A0:List Nat)(A1 A2 A3:zA):T:=
 .ite (iB v26 v25)
 (.opt (zB yA 24 v24 (.int .i64 v26)) fun a0=>.light (fun m=>mA yA 52 ⟨0,m⟩ a0) fun a1=>.asG zz5z a1 fun X2=>
 .ite (bB zA.one [.str (X2.s 0),.str (X2.s 1),.int .i64 (X2.i 2),.int .i64 (X2.i 3),.int .i64 (X2.i 4),.bool (X2.b 5),.int .u8 (X2.i 6),.str (X2.s 7),.int .u8 (X2.i 8),.bool (X2.b 9),X2.v 10,.bool (X2.b 11),X2.v 12,.int .i64 (X2.i 13),X2.v 14,.int .u8 (X2.i 15),.str (X2.s 16),.int .u8 (X2.i 17),.bool (X2.b 18),X2.v 19,.bool (X2.b 20),X2.v 21,.int .i64 (X2.i 22),X2.v 23]) (.call 63 [(.agg [.int .u8 (X2.i 6),.str (X2.s 7),.int .u8 (X2.i 8),.bool (X2.b 9),X2.v 10,.bool (X2.b 11),X2.v 12,.int .i64 (X2.i 13),X2.v 14])] fun a3=>
 .asB a3 fun b4=>.ite (!b4)
 (.ret (.bool false))
 (.call 63 [(.agg [.int .u8 (X2.i 15),.str (X2.s 16),.int .u8 (X2.i 17),.bool (X2.b 18),X2.v 19,.bool (X2.b 20),X2.v 21,.int .i64 (X2.i 22),X2.v 23])] fun a5=>
 .asB a5 fun b6=>.ite (!b6)
 (.ret (.bool false))
 (.jump 2 [v24,.int .i64 v25,(.int .i64 (vA .i64 (v26+1))),.str A0,A1,A2,A3]))) .fail)
 (.opt (uB A2) fun a7=>.asI .i64 a7 fun n8=>.jump 6 [A2,.int .i64 n8,.int .i64 0])
theorem j33_2(v24:zA)(v25 v26:Int)(A0:List Nat)(A1 A2 A3:zA)(h:wp 33 (z4z v24 v25 v26 A0 A1 A2 A3) m Q):jp 33 2 [v24,.int .i64 v25,.int .i64 v26,.str A0,A1,A2,A3] m Q:=iD ok33 h
def z4y(v42:zA)(v43 v44:Int):T:=
 .ite (iB v44 v43)
 (.opt (zB yA 23 v42 (.int .i64 v44)) fun a0=>.light (fun m=>mA yA 82 ⟨0,m⟩ a0) fun a1=>.asG [.str [],.bool false,.nilslice] a1 fun X2=>
 .ite (bB zA.one [.str (X2.s 0),.bool (X2.b 1),X2.v 2]) (.call 64 [(.agg [.str (X2.s 0),.bool (X2.b 1),X2.v 2])] fun a3=>
 .asB a3 fun b4=>.ite (!b4)
 (.ret (.bool false))
 (.jump 6 [v42,.int .i64 v43,(.int .i64 (vA .i64 (v44+1)))])) .fail)
 (.ret (.bool true))
theorem j33_6(v42:zA)(v43 v44:Int)(h:wp 33 (z4y v42 v43 v44) m Q):jp 33 6 [v42,.int .i64 v43,.int .i64 v44] m Q:=iD ok33 h
def t36 (A0:Bool)(A1:zA)(A2:Bool)(A3:zA):T:=
 .opt (uB A1) fun a0=>.asI .i64 a0 fun n1=>.opt (uB A3) fun a2=>.asI .i64 a2 fun n3=>.ret (.int .i64 (vA .i64 ((vA .i64 (1+n1))+n3)))
theorem w36(A0:Bool)(A1:zA)(A2:Bool)(A3:zA)(h:wp 36 (t36 A0 A1 A2 A3) m Q):Wf 36 [.agg [.bool A0,A1,.bool A2,A3]] m Q:=rC ok36 h
def t37 (A0:Int)(A1:List Nat)(A2:Int)(A3:Bool)(A4:zA)(A5:Bool)(A6:zA)(A7:Int)(A8:zA)(p1:Int):T:=
 .call 36 [.agg [.bool A3,A4,.bool A5,A6]] fun a0=>
 .asI .i64 a0 fun n1=>.ite (same 10 (.str A1) (.str A1)) (.ite (same 10 (.int .i64 (Int.ofNat (wB A1))) (.int .i64 (Int.ofNat (wB A1)))) (.jump 2 [.int .i64 p1,(.int .i64 (vA .i64 (n1+(vA .i64 (Int.tdiv (Int.ofNat (wB A1)) 30))))),.int .i64 0,.int .u8 A0,.str A1,.int .u8 A2,.bool A3,A4,.bool A5,A6,.int .i64 A7,A8]) .fail) .fail
theorem w37(A0:Int)(A1:List Nat)(A2:Int)(A3:Bool)(A4:zA)(A5:Bool)(A6:zA)(A7:Int)(A8:zA)(p1:Int)(h:wp 37 (t37 A0 A1 A2 A3 A4 A5 A6 A7 A8 p1) m Q):Wf 37 [.agg [.int .u8 A0,.str A1,.int .u8 A2,.bool A3,A4,.bool A5,A6,.int .i64 A7,A8],.int .i64 p1] m Q:=rC ok37 h
def z4x(v1 v5 v6 A0:Int)(A1:List Nat)(A2:Int)(A3:Bool)(A4:zA)(A5:Bool)(A6:zA)(A7:Int)(A8:zA):T:=
 .opt (uB A8) fun a0=>.asI .i64 a0 fun n1=>.ite (iB v6 n1)
 (.ite (sC v5 v1)
 (.opt (zB yA 48 A8 (.int .i64 v6)) fun a2=>.light (fun m=>mA yA 50 ⟨0,m⟩ a2) fun a3=>.asG uJ a3 fun X4=>
 .call 37 [(.agg [.int .u8 (X4.i 0),.str (X4.s 1),.int .u8 (X4.i 2),.bool (X4.b 3),X4.v 4,.bool (X4.b 5),X4.v 6,.int .i64 (X4.i 7),X4.v 8]),(.int .i64 (vA .i64 (v1-v5)))] fun a5=>
 .asI .i64 a5 fun n6=>.jump 2 [.int .i64 v1,(.int .i64 (vA .i64 (v5+n6))),(.int .i64 (vA .i64 (v6+1))),.int .u8 A0,.str A1,.int .u8 A2,.bool A3,A4,.bool A5,A6,.int .i64 A7,A8])
 (.ret (.int .i64 v5)))
 (.ret (.int .i64 v5))
theorem j37_2(v1 v5 v6 A0:Int)(A1:List Nat)(A2:Int)(A3:Bool)(A4:zA)(A5:Bool)(A6:zA)(A7:Int)(A8:zA)(h:wp 37 (z4x v1 v5 v6 A0 A1 A2 A3 A4 A5 A6 A7 A8) m Q):jp 37 2 [.int .i64 v1,.int .i64 v5,.int .i64 v6,.int .u8 A0,.str A1,.int .u8 A2,.bool A3,A4,.bool A5,A6,.int .i64 A7,A8] m Q:=iD ok37 h
def t51 (A0:List Nat)(A1 A2 A3:zA):T:=
 .call 99 [A1] fun a0=>
 .ite (bB zA.one [a0]) (.call 100 [A2] fun a1=>
 .ite (bB zA.one [a1]) (.opt (uB a1) fun a2=>.asI .i64 a2 fun n3=>.jump 2 [a1,.int .i64 n3,.int .i64 0,.str A0,a0,a1,A3,.str [],.nilslice,.nilslice,.nilslice]) .fail) .fail
theorem w51(A0:List Nat)(A1 A2 A3:zA)(h:wp 51 (t51 A0 A1 A2 A3) m Q):Wf 51 [.agg [.str A0,A1,A2,A3]] m Q:=rC ok51 h
def z4w(v18:zA)(v19 v20:Int)(A0:List Nat)(A1 A2 A3:zA)(A4:List Nat)(A5 A6 A7:zA):T:=
 .ite (iB v20 v19)
 (.opt (zB yA 23 v18 (.int .i64 v20)) fun a0=>.light (fun m=>mA yA 82 ⟨0,m⟩ a0) fun a1=>.asG [.str [],.bool false,.nilslice] a1 fun X2=>
 .ite (bB zA.one [.str (X2.s 0),.bool (X2.b 1),X2.v 2]) (.call 101 [X2.v 2] fun a3=>
 .opt (uB a3) fun a4=>.asI .i64 a4 fun n5=>.jump 6 [.int .i64 v20,a3,v18,.int .i64 v19,.int .i64 v20,a3,.int .i64 n5,.int .i64 0,.str A0,A1,A2,A3,.str A4,A5,A6,A7]) .fail)
 (.call 103 [A3] fun a6=>
 .ite (bB zA.one [a6]) (.opt (uB a6) fun a7=>.asI .i64 a7 fun n8=>.jump 10 [.int .i64 n8,.int .i64 0,.str A0,A1,A2,a6,.str A4,A5,A6,A7]) .fail)
theorem j51_2(v18:zA)(v19 v20:Int)(A0:List Nat)(A1 A2 A3:zA)(A4:List Nat)(A5 A6 A7:zA)(h:wp 51 (z4w v18 v19 v20 A0 A1 A2 A3 A4 A5 A6 A7) m Q):jp 51 2 [v18,.int .i64 v19,.int .i64 v20,.str A0,A1,A2,A3,.str A4,A5,A6,A7] m Q:=iD ok51 h
def z4v(v3:Int)(v5 v18:zA)(v19 v20:Int)(v28:zA)(v29 v30:Int)(A0:List Nat)(A1 A2 A3:zA)(A4:List Nat)(A5 A6 A7:zA):T:=
 .ite (iB v30 v29)
 (.opt (zB yA 80 v28 (.int .i64 v30)) fun a0=>.light (fun m=>mA yA 85 ⟨0,m⟩ a0) fun a1=>.asG zz4z a1 fun X2=>
 .ite (bB zA.one [.int .i64 (X2.i 0),.int .i64 (X2.i 1),.int .i64 (X2.i 2),.bool (X2.b 3),X2.v 4,.bool (X2.b 5),X2.v 6]) (.ite true (.call 102 [(.agg [.int .u8 0,.bool (X2.b 3),X2.v 4,.bool (X2.b 5),X2.v 6,.int .i64 0])] fun a3=>
 .asG z2a a3 fun X4=>
 .opt (zB yA 80 v5 (.int .i64 v30)) fun a5=>.opt (pB yA 85 3 a5) fun a6=>.heavy (xE yA 45 a6 (.agg [.bool (X4.b 1),X4.v 2,.bool (X4.b 3),X4.v 4])) fun _=>
 .jump 6 [.int .i64 v3,v5,v18,.int .i64 v19,.int .i64 v20,v28,.int .i64 v29,(.int .i64 (vA .i64 (v30+1))),.str A0,A1,A2,A3,.str A4,A5,A6,A7]) .fail) .fail)
 (.opt (zB yA 23 A2 (.int .i64 v3)) fun a7=>.opt (pB yA 82 2 a7) fun a8=>.heavy (xE yA 80 a8 v5) fun _=>
 .jump 2 [v18,.int .i64 v19,(.int .i64 (vA .i64 (v20+1))),.str A0,A1,A2,A3,.str A4,A5,A6,A7])
theorem j51_6(v3:Int)(v5 v18:zA)(v19 v20:Int)(v28:zA)(v29 v30:Int)(A0:List Nat)(A1 A2 A3:zA)(A4:List Nat)(A5 A6 A7:zA)(h:wp 51 (z4v v3 v5 v18 v19 v20 v28 v29 v30 A0 A1 A2 A3 A4 A5 A6 A7) m Q):jp 51 6 [.int .i64 v3,v5,v18,.int .i64 v19,.int .i64 v20,v28,.int .i64 v29,.int .i64 v30,.str A0,A1,A2,A3,.str A4,A5,A6,A7] m Q:=iD ok51 h
def zs4(v58 v59:Int)(A0:List Nat)(A1 A2 A3:zA)(A4:List Nat)(A5 A6 A7:zA):T:=
 .ite (iB v59 v58)
 (.ite true (.ite true (.opt (zB yA 24 A3 (.int .i64 v59)) fun a0=>.opt (pB yA 52 6 a0) fun a1=>.heavy (xE yA 50 a1 (.agg [.int .u8 0,.str [],.int .u8 0,.bool false,.nilslice,.bool false,.nilslice,.int .i64 0,.nilslice])) fun _=>
 .ite (same 10 A3 A3) (.opt (zB yA 24 A3 (.int .i64 v59)) fun a2=>.opt (pB yA 52 7 a2) fun a3=>.heavy (xE yA 50 a3 (.agg [.int .u8 0,.str [],.int .u8 0,.bool false,.nilslice,.bool false,.nilslice,.int .i64 0,.nilslice])) fun _=>
 .jump 10 [.int .i64 v58,(.int .i64 (vA .i64 (v59+1))),.str A0,A1,A2,A3,.str A4,A5,A6,A7]) .fail) .fail) .fail)
 (.ite (bB zA.one [.str A0,A1,A2,A3]) (.ret (.agg [.str A0,A1,A2,A3])) .fail)
theorem z29(v58 v59:Int)(A0:List Nat)(A1 A2 A3:zA)(A4:List Nat)(A5 A6 A7:zA)(h:wp 51 (zs4 v58 v59 A0 A1 A2 A3 A4 A5 A6 A7) m Q):jp 51 10 [.int .i64 v58,.int .i64 v59,.str A0,A1,A2,A3,.str A4,A5,A6,A7] m Q:=iD ok51 h
def t52 (p0:zA)(A0:Int)(A1:List Nat)(A2:Int)(A3:Bool)(A4:zA)(A5:Bool)(A6:zA)(A7:Int)(A8:zA):T:=
 .opt (fG p0) fun a0=>.opt (pB yA 109 3 a0) fun a1=>.heavy (xE yA 37 a1 .nilslice) fun _=>
 .call 104 [p0,.agg [.int .u8 A0,.str A1,.int .u8 A2,.bool A3,A4,.bool A5,A6,.int .i64 A7,A8]] fun a2=>
 .opt (fG p0) fun a3=>.opt (pB yA 109 3 a3) fun a4=>.light (fun m=>mA yA 37 ⟨0,m⟩ a4) fun a5=>.ret a5
theorem w52(p0:zA)(A0:Int)(A1:List Nat)(A2:Int)(A3:Bool)(A4:zA)(A5:Bool)(A6:zA)(A7:Int)(A8:zA)(h:wp 52 (t52 p0 A0 A1 A2 A3 A4 A5 A6 A7 A8) m Q):Wf 52 [p0,.agg [.int .u8 A0,.str A1,.int .u8 A2,.bool A3,A4,.bool A5,A6,.int .i64 A7,A8]] m Q:=rC ok52 h
def t53 (A0:Bool)(A1:zA)(A2:Bool)(A3:zA)(A4:Bool)(A5:zA)(A6:Bool)(A7:zA):T:=
 .call 105 [.agg [.bool A0,A1],.agg [.bool A4,A5]] fun a0=>
 .asB a0 fun b1=>.ite b1
 (.call 105 [.agg [.bool A2,A3],.agg [.bool A6,A7]] fun a2=>
 .asB a2 fun b3=>.ret (.bool b3))
 (.ret (.bool false))
theorem w53(A0:Bool)(A1:zA)(A2:Bool)(A3:zA)(A4:Bool)(A5:zA)(A6:Bool)(A7:zA)(h:wp 53 (t53 A0 A1 A2 A3 A4 A5 A6 A7) m Q):Wf 53 [.agg [.bool A0,A1,.bool A2,A3],.agg [.bool A4,A5,.bool A6,A7]] m Q:=rC ok53 h
def t54 (A0:Bool)(A1:zA)(A2:Bool)(A3:zA):T:=
 .ite true (.call 106 [.agg [.bool A0,A1,.bool A2,A3]] fun a0=>
 .asB a0 fun b1=>.ret (.bool b1)) .fail
theorem w54(A0:Bool)(A1:zA)(A2:Bool)(A3:zA)(h:wp 54 (t54 A0 A1 A2 A3) m Q):Wf 54 [.agg [.bool A0,A1,.bool A2,A3]] m Q:=rC ok54 h
def t58 (A0:List Nat)(A1 A2 A3 A4 A5 A6 A7 p1:zA):T:=
 .opt (uB p1) fun a0=>.asI .i64 a0 fun n1=>.ite (iB 1000 n1)
 (.ret (.bool false))
 (.opt (uB p1) fun a2=>.asI .i64 a2 fun n3=>.heavy (sL yA 105 (.int .i64 (vA .i64 (n3+1))) (.int .i64 (vA .i64 (n3+1)))) fun a4=>
 .heavy (sM yA 105) fun a5=>
 .heavy (xE yA 105 a5 a4) fun _=>
 .light (fun m=>mA yA 105 ⟨0,m⟩ a5) fun a6=>.opt (zB yA 105 a6 (.int .i64 0)) fun a7=>.heavy (xE yA 3 a7 (.int .i64 1)) fun _=>
 .opt (uB p1) fun a8=>.asI .i64 a8 fun n9=>.jump 2 [p1,a5,(.func (.func 109) [] [a5]),p1,.int .i64 n9,.int .i64 0,.str A0,A1,A2,A3,A4,A5,A6,A7])
theorem w58(A0:List Nat)(A1 A2 A3 A4 A5 A6 A7 p1:zA)(h:wp 58 (t58 A0 A1 A2 A3 A4 A5 A6 A7 p1) m Q):Wf 58 [.agg [.str A0,A1,A2,A3,A4,A5,A6,A7],p1] m Q:=rC ok58 h
def z4u(v1 v5 v6 v22:zA)(v23 v24:Int)(A0:List Nat)(A1 A2 A3 A4 A5 A6 A7:zA):T:=
 .ite (iB v24 v23)
 (.opt (zB yA 37 v22 (.int .i64 v24)) fun a0=>.light (fun m=>mA yA 54 ⟨0,m⟩ a0) fun a1=>.asG z4b a1 fun X2=>
 .ite true (.light (fun m=>mA yA 105 ⟨0,m⟩ v5) fun a3=>.opt (zB yA 105 a3 (.int .i64 v24)) fun a4=>.light (fun m=>mA yA 3 ⟨0,m⟩ a4) fun a5=>.asI .i64 a5 fun n6=>.ite (wA n6 0)
 (.ret (.bool false))
 (.opt (uB v1) fun a7=>.asI .i64 a7 fun n8=>.call 110 [.agg [.str A0,A1,A2,A3,A4,A5,A6,A7],(.agg [.int .u8 (X2.i 0),.int .i64 (X2.i 1),.int .i64 (X2.i 2)]),.int .i64 v24,.int .i64 n8] fun a9=>
 .asB a9 fun b10=>.ite (!b10)
 (.ret (.bool false))
 (.call 111 [(.agg [.int .u8 (X2.i 0),.int .i64 (X2.i 1),.int .i64 (X2.i 2)])] fun bC=>
 .opt (vC 0 bC) fun a12=>.asI .i64 a12 fun n13=>.opt (vC 1 bC) fun a14=>.asI .i64 a14 fun n15=>.light (fun m=>mA yA 105 ⟨0,m⟩ v5) fun mG=>.opt (zB yA 105 mG (.int .i64 v24)) fun a17=>.light (fun m=>mA yA 3 ⟨0,m⟩ a17) fun a18=>.asI .i64 a18 fun n19=>.ite (iB (vA .i64 ((vA .i64 (n19-1))-n13)) 0)
 (.ret (.bool false))
 (.ite (iB 64 (vA .i64 ((vA .i64 ((vA .i64 (n19-1))-n13))+n15)))
 (.ret (.bool false))
 (.call 112 [.int .u8 (X2.i 0)] fun a20=>
 .asB a20 fun b21=>.ite b21
 (.callv v6 [.int .i64 (X2.i 1),(.int .i64 (vA .i64 ((vA .i64 ((vA .i64 (n19-1))-n13))+n15)))] fun a22=>
 .asB a22 fun b23=>.ite (!b23)
 (.ret (.bool false))
 (.ite (!wA (X2.i 0) 9)
 (.callv v6 [(.int .i64 (vA .i64 (v24+1))),(.int .i64 (vA .i64 ((vA .i64 ((vA .i64 (n19-1))-n13))+n15)))] fun a24=>
 .asB a24 fun b25=>.ite (!b25)
 (.ret (.bool false))
 (.jump 2 [v1,v5,v6,v22,.int .i64 v23,(.int .i64 (vA .i64 (v24+1))),.str A0,A1,A2,A3,A4,A5,A6,A7]))
 (.jump 2 [v1,v5,v6,v22,.int .i64 v23,(.int .i64 (vA .i64 (v24+1))),.str A0,A1,A2,A3,A4,A5,A6,A7])))
 (.ite (!wA (X2.i 0) 9)
 (.callv v6 [(.int .i64 (vA .i64 (v24+1))),(.int .i64 (vA .i64 ((vA .i64 ((vA .i64 (n19-1))-n13))+n15)))] fun a26=>
 .asB a26 fun b27=>.ite (!b27)
 (.ret (.bool false))
 (.jump 2 [v1,v5,v6,v22,.int .i64 v23,(.int .i64 (vA .i64 (v24+1))),.str A0,A1,A2,A3,A4,A5,A6,A7]))
 (.jump 2 [v1,v5,v6,v22,.int .i64 v23,(.int .i64 (vA .i64 (v24+1))),.str A0,A1,A2,A3,A4,A5,A6,A7]))))))) .fail)
 (.light (fun m=>mA yA 105 ⟨0,m⟩ v5) fun a28=>.opt (uB v1) fun a29=>.asI .i64 a29 fun n30=>.opt (zB yA 105 a28 (.int .i64 n30)) fun a31=>.light (fun m=>mA yA 3 ⟨0,m⟩ a31) fun a32=>.asI .i64 a32 fun n33=>.ret (.bool (wA n33 2)))
theorem j58_2(v1 v5 v6 v22:zA)(v23 v24:Int)(A0:List Nat)(A1 A2 A3 A4 A5 A6 A7:zA)(h:wp 58 (z4u v1 v5 v6 v22 v23 v24 A0 A1 A2 A3 A4 A5 A6 A7) m Q):jp 58 2 [v1,v5,v6,v22,.int .i64 v23,.int .i64 v24,.str A0,A1,A2,A3,A4,A5,A6,A7] m Q:=iD ok58 h
def t59 (p0:zA)(p1 p2:Int):T:=
 .jump 2 [p0,.int .i64 p2,.nilslice,.int .i64 p1,.int .u8 0,.str [],.int .u8 0,.bool false,.nilslice,.bool false,.nilslice,.int .i64 0,.nilslice]
theorem w59(p0:zA)(p1 p2:Int)(h:wp 59 (t59 p0 p1 p2) m Q):Wf 59 [p0,.int .i64 p1,.int .i64 p2] m Q:=rC ok59 h
def z4t(v0:zA)(v2:Int)(v8:zA)(v9 A0:Int)(A1:List Nat)(A2:Int)(A3:Bool)(A4:zA)(A5:Bool)(A6:zA)(A7:Int)(A8:zA):T:=
 .ite (iB v9 v2)
 (.opt (fG v0) fun a0=>.opt (pB yA 118 1 a0) fun a1=>.light (fun m=>mA yA 37 ⟨0,m⟩ a1) fun a2=>.opt (zB yA 37 a2 (.int .i64 v9)) fun a3=>.light (fun m=>mA yA 54 ⟨0,m⟩ a3) fun a4=>.asG z4b a4 fun X5=>
 .ite true (.call 112 [.int .u8 (X5.i 0)] fun a6=>
 .asB a6 fun b7=>.ite b7
 (.opt (uB v8) fun a8=>.asI .i64 a8 fun n9=>.ite (wA n9 0)
 (.ite true (.ite true (.ret (.tup [.agg [.int .u8 0,.str [],.int .u8 0,.bool false,.nilslice,.bool false,.nilslice,.int .i64 0,.nilslice],.bool false])) .fail) .fail)
 (.opt (uB v8) fun a10=>.asI .i64 a10 fun n11=>.opt (zB yA 48 v8 (.int .i64 (vA .i64 (n11-1)))) fun a12=>.light (fun m=>mA yA 50 ⟨0,m⟩ a12) fun fE=>.asG uJ fE fun X14=>
 .call 113 [v0,(.agg [.int .u8 (X14.i 0),.str (X14.s 1),.int .u8 (X14.i 2),.bool (X14.b 3),X14.v 4,.bool (X14.b 5),X14.v 6,.int .i64 (X14.i 7),X14.v 8]),.int .i64 v9,.int .i64 v2] fun a15=>
 .opt (vC 0 a15) fun mG=>.asG uJ mG fun X17=>
 .opt (vC 1 a15) fun a18=>.asI .i64 a18 fun n19=>.opt (vC 2 a15) fun a20=>.asB a20 fun b21=>.ite (bB zA.one [.int .u8 (X17.i 0),.str (X17.s 1),.int .u8 (X17.i 2),.bool (X17.b 3),X17.v 4,.bool (X17.b 5),X17.v 6,.int .i64 (X17.i 7),X17.v 8]) (.ite (!b21)
 (.ite true (.ite true (.ret (.tup [.agg [.int .u8 0,.str [],.int .u8 0,.bool false,.nilslice,.bool false,.nilslice,.int .i64 0,.nilslice],.bool false])) .fail) .fail)
 (.opt (zB yA 48 v8 (.int .i64 (vA .i64 (n11-1)))) fun a22=>.heavy (xE yA 50 a22 (.agg [.int .u8 (X17.i 0),.str (X17.s 1),.int .u8 (X17.i 2),.bool (X17.b 3),X17.v 4,.bool (X17.b 5),X17.v 6,.int .i64 (X17.i 7),X17.v 8])) fun _=>
 .jump 2 [v0,.int .i64 v2,v8,.int .i64 n19,.int .u8 A0,.str A1,.int .u8 A2,.bool A3,A4,.bool A5,A6,.int .i64 A7,A8])) .fail))
 (.call 111 [(.agg [.int .u8 (X5.i 0),.int .i64 (X5.i 1),.int .i64 (X5.i 2)])] fun a23=>
 .opt (vC 0 a23) fun a24=>.asI .i64 a24 fun n25=>.opt (vC 1 a23) fun a26=>.asI .i64 a26 fun n27=>.ite (wA (X5.i 0) 12)
 (.ite true (.ite true (.ret (.tup [.agg [.int .u8 0,.str [],.int .u8 0,.bool false,.nilslice,.bool false,.nilslice,.int .i64 0,.nilslice],.bool false])) .fail) .fail)
 (.opt (uB v8) fun a28=>.asI .i64 a28 fun n29=>.ite (iB n29 n25)
 (.ite true (.ite true (.ret (.tup [.agg [.int .u8 0,.str [],.int .u8 0,.bool false,.nilslice,.bool false,.nilslice,.int .i64 0,.nilslice],.bool false])) .fail) .fail)
 (.opt (uB v8) fun a30=>.asI .i64 a30 fun n31=>.call 114 [v0,(.agg [.int .u8 (X5.i 0),.int .i64 (X5.i 1),.int .i64 (X5.i 2)])] fun a32=>
 .asG uJ a32 fun X33=>
 .ite (bB zA.one [.int .u8 (X33.i 0),.str (X33.s 1),.int .u8 (X33.i 2),.bool (X33.b 3),X33.v 4,.bool (X33.b 5),X33.v 6,.int .i64 (X33.i 7),X33.v 8]) (.light (fun m=>yH yA 48 ⟨0,m⟩ v8 (some (.int .i64 (vA .i64 (n31-n25)))) none) fun a34=>.heavy (eE yA 48 48 .nilslice a34) fun a35=>
 .ite (bB zA.one [a35]) (.light (fun m=>yH yA 48 ⟨0,m⟩ v8 none (some (.int .i64 (vA .i64 (n31-n25))))) fun a36=>.heavy (oF yA 48 1 [(0,(.agg [.int .u8 (X33.i 0),.str (X33.s 1),.int .u8 (X33.i 2),.bool (X33.b 3),X33.v 4,.bool (X33.b 5),X33.v 6,.int .i64 (X33.i 7),a35]))]) fun a37=>
 .light (fun m=>yH yA 48 ⟨0,m⟩ v8 none (some (.int .i64 (vA .i64 (n31-n25))))) fun a38=>.ite (same 10 a38 a36) (.heavy (eE yA 48 48 a36 a37) fun a39=>
 .jump 2 [v0,.int .i64 v2,a39,(.int .i64 (vA .i64 (v9+1))),.int .u8 A0,.str A1,.int .u8 A2,.bool A3,A4,.bool A5,A6,.int .i64 A7,A8]) .fail) .fail) .fail)))) .fail)
 (.opt (uB v8) fun a40=>.asI .i64 a40 fun n41=>.ite (!wA n41 1)
 (.ite true (.ite true (.ret (.tup [.agg [.int .u8 0,.str [],.int .u8 0,.bool false,.nilslice,.bool false,.nilslice,.int .i64 0,.nilslice],.bool false])) .fail) .fail)
 (.opt (zB yA 48 v8 (.int .i64 0)) fun a42=>.light (fun m=>mA yA 50 ⟨0,m⟩ a42) fun a43=>.asG uJ a43 fun X44=>
 .ite (bB zA.one [.int .u8 (X44.i 0),.str (X44.s 1),.int .u8 (X44.i 2),.bool (X44.b 3),X44.v 4,.bool (X44.b 5),X44.v 6,.int .i64 (X44.i 7),X44.v 8]) (.ret (.tup [(.agg [.int .u8 (X44.i 0),.str (X44.s 1),.int .u8 (X44.i 2),.bool (X44.b 3),X44.v 4,.bool (X44.b 5),X44.v 6,.int .i64 (X44.i 7),X44.v 8]),.bool true])) .fail))
theorem j59_2(v0:zA)(v2:Int)(v8:zA)(v9 A0:Int)(A1:List Nat)(A2:Int)(A3:Bool)(A4:zA)(A5:Bool)(A6:zA)(A7:Int)(A8:zA)(h:wp 59 (z4t v0 v2 v8 v9 A0 A1 A2 A3 A4 A5 A6 A7 A8) m Q):jp 59 2 [v0,.int .i64 v2,v8,.int .i64 v9,.int .u8 A0,.str A1,.int .u8 A2,.bool A3,A4,.bool A5,A6,.int .i64 A7,A8] m Q:=iD ok59 h
def t60 (A0:Int)(A1:Bool)(A2:zA)(A3:Bool)(A4:zA)(A5 A6:Int)(A7:Bool)(A8:zA)(A9:Bool)(B0:zA)(B1:Int):T:=
 .ite (wA A0 A6)
 (.call 115 [.agg [.bool A1,A2,.bool A3,A4],.agg [.bool A7,A8,.bool A9,B0]] fun a0=>
 .asB a0 fun b1=>.ite b1
 (.ret (.bool (wA A5 B1)))
 (.ret (.bool false)))
 (.ret (.bool false))
theorem w60(A0:Int)(A1:Bool)(A2:zA)(A3:Bool)(A4:zA)(A5 A6:Int)(A7:Bool)(A8:zA)(A9:Bool)(B0:zA)(B1:Int)(h:wp 60 (t60 A0 A1 A2 A3 A4 A5 A6 A7 A8 A9 B0 B1) m Q):Wf 60 [.agg [.int .u8 A0,.bool A1,A2,.bool A3,A4,.int .i64 A5],.agg [.int .u8 A6,.bool A7,A8,.bool A9,B0,.int .i64 B1]] m Q:=rC ok60 h
def t61 (p0 p1:zA):T:=
 .opt (uB p0) fun a0=>.asI .i64 a0 fun n1=>.opt (uB p1) fun a2=>.asI .i64 a2 fun n3=>.ite (!wA n1 n3)
 (.ret (.bool false))
 (.jump 2 [p0,p1,.int .i64 0])
theorem w61(p0 p1:zA)(h:wp 61 (t61 p0 p1) m Q):Wf 61 [p0,p1] m Q:=rC ok61 h
def z4s(v0 v1:zA)(v5:Int):T:=
 .opt (uB v0) fun a0=>.asI .i64 a0 fun n1=>.ite (iB v5 n1)
 (.opt (zB yA 48 v0 (.int .i64 v5)) fun a2=>.light (fun m=>mA yA 50 ⟨0,m⟩ a2) fun a3=>.asG uJ a3 fun X4=>
 .opt (zB yA 48 v1 (.int .i64 v5)) fun a5=>.light (fun m=>mA yA 50 ⟨0,m⟩ a5) fun a6=>.asG uJ a6 fun X7=>
 .call 29 [(.agg [.int .u8 (X4.i 0),.str (X4.s 1),.int .u8 (X4.i 2),.bool (X4.b 3),X4.v 4,.bool (X4.b 5),X4.v 6,.int .i64 (X4.i 7),X4.v 8]),(.agg [.int .u8 (X7.i 0),.str (X7.s 1),.int .u8 (X7.i 2),.bool (X7.b 3),X7.v 4,.bool (X7.b 5),X7.v 6,.int .i64 (X7.i 7),X7.v 8])] fun a8=>
 .asB a8 fun b9=>.ite (!b9)
 (.ret (.bool false))
 (.jump 2 [v0,v1,(.int .i64 (vA .i64 (v5+1)))]))
 (.ret (.bool true))
theorem j61_2(v0 v1:zA)(v5:Int)(h:wp 61 (z4s v0 v1 v5) m Q):jp 61 2 [v0,v1,.int .i64 v5] m Q:=iD ok61 h
def t63 (A0:Int)(A1:List Nat)(A2:Int)(A3:Bool)(A4:zA)(A5:Bool)(A6:zA)(A7:Int)(A8:zA):T:=
 .heavy (sM yA 3) fun a0=>
 .heavy (xE yA 3 a0 (.int .i64 0)) fun _=>
 .heavy (sM yA 73) fun a1=>
 .heavy (xE yA 73 a1 (.func (.func 116) [] [a0,a1])) fun _=>
 .light (fun m=>mA yA 73 ⟨0,m⟩ a1) fun a2=>.callv a2 [.agg [.int .u8 A0,.str A1,.int .u8 A2,.bool A3,A4,.bool A5,A6,.int .i64 A7,A8],.int .i64 1] fun a3=>
 .asB a3 fun b4=>.ret (.bool b4)
theorem w63(A0:Int)(A1:List Nat)(A2:Int)(A3:Bool)(A4:zA)(A5:Bool)(A6:zA)(A7:Int)(A8:zA)(h:wp 63 (t63 A0 A1 A2 A3 A4 A5 A6 A7 A8) m Q):Wf 63 [.agg [.int .u8 A0,.str A1,.int .u8 A2,.bool A3,A4,.bool A5,A6,.int .i64 A7,A8]] m Q:=rC ok63 h
def t64 (A0:List Nat)(A1:Bool)(A2:zA):T:=
 .heavy (zsj (.agg [.str A0,.bool A1,A2])) fun a0=>
 .opt (pB yA 82 0 a0) fun a1=>.light (fun m=>mA yA 9 ⟨0,m⟩ a1) fun a2=>.asS a2 fun s3=>.ite (iB (Int.ofNat (wB s3)) 1)
 (.ret (.bool false))
 (.opt (pB yA 82 0 a0) fun a4=>.light (fun m=>mA yA 9 ⟨0,m⟩ a4) fun a5=>.asS a5 fun s6=>.ite (iB 24 (Int.ofNat (wB s6)))
 (.ret (.bool false))
 (.opt (pB yA 82 2 a0) fun a7=>.light (fun m=>mA yA 80 ⟨0,m⟩ a7) fun a8=>.opt (uB a8) fun a9=>.asI .i64 a9 fun n10=>.ite (iB 400 n10)
 (.ret (.bool false))
 (.opt (pB yA 82 2 a0) fun bC=>.light (fun m=>mA yA 80 ⟨0,m⟩ bC) fun a12=>.call 117 [a12,(.func (.func 118) [] [])] fun fE=>
 .asB fE fun b14=>.ite b14
 (.opt (pB yA 82 2 a0) fun a15=>.light (fun m=>mA yA 80 ⟨0,m⟩ a15) fun mG=>.call 119 [mG,(.func (.func 120) [] [a0])] fun a17=>
 .asB a17 fun b18=>.ret (.bool (!b18)))
 (.ret (.bool false)))))
theorem w64(A0:List Nat)(A1:Bool)(A2:zA)(h:wp 64 (t64 A0 A1 A2) m Q):Wf 64 [.agg [.str A0,.bool A1,A2]] m Q:=rC ok64 h
def t99 (p0:zA):T:=
 .opt ((wL .eql).f yA 22 (.tmp 3) (.const (.slice none 0 0)) p0 .nilslice) fun a0=>.asB a0 fun b1=>.ite b1
 (.ret .nilslice)
 (.heavy (oF yA 22 0 []) fun a2=>
 .heavy (eE yA 22 22 a2 p0) fun a3=>
 .ret a3)
theorem w99(p0:zA)(h:wp 99 (t99 p0) m Q):Wf 99 [p0] m Q:=rC ok99 h
def t100 (p0:zA):T:=
 .opt ((wL .eql).f yA 23 (.tmp 3) (.const (.slice none 0 0)) p0 .nilslice) fun a0=>.asB a0 fun b1=>.ite b1
 (.ret .nilslice)
 (.heavy (oF yA 23 0 []) fun a2=>
 .heavy (eE yA 23 23 a2 p0) fun a3=>
 .ret a3)
theorem w100(p0:zA)(h:wp 100 (t100 p0) m Q):Wf 100 [p0] m Q:=rC ok100 h
def t101 (p0:zA):T:=
 .opt ((wL .eql).f yA 80 (.tmp 3) (.const (.slice none 0 0)) p0 .nilslice) fun a0=>.asB a0 fun b1=>.ite b1
 (.ret .nilslice)
 (.heavy (oF yA 80 0 []) fun a2=>
 .heavy (eE yA 80 80 a2 p0) fun a3=>
 .ret a3)
theorem w101(p0:zA)(h:wp 101 (t101 p0) m Q):Wf 101 [p0] m Q:=rC ok101 h
def t102 (A0:Int)(A1:Bool)(A2:zA)(A3:Bool)(A4:zA)(A5:Int):T:=
 .heavy (eE yA 41 41 .nilslice A2) fun a0=>
 .ite (bB zA.one [a0]) (.heavy (eE yA 41 41 .nilslice A4) fun a1=>
 .ite (bB zA.one [a1]) (.ite (bB zA.one [.int .u8 A0,.bool A1,a0,.bool A3,a1,.int .i64 A5]) (.ret (.agg [.int .u8 A0,.bool A1,a0,.bool A3,a1,.int .i64 A5])) .fail) .fail) .fail
theorem w102(A0:Int)(A1:Bool)(A2:zA)(A3:Bool)(A4:zA)(A5:Int)(h:wp 102 (t102 A0 A1 A2 A3 A4 A5) m Q):Wf 102 [.agg [.int .u8 A0,.bool A1,A2,.bool A3,A4,.int .i64 A5]] m Q:=rC ok102 h
def t103 (p0:zA):T:=
 .opt ((wL .eql).f yA 24 (.tmp 3) (.const (.slice none 0 0)) p0 .nilslice) fun a0=>.asB a0 fun b1=>.ite b1
 (.ret .nilslice)
 (.heavy (oF yA 24 0 []) fun a2=>
 .heavy (eE yA 24 24 a2 p0) fun a3=>
 .ret a3)
theorem w103(p0:zA)(h:wp 103 (t103 p0) m Q):Wf 103 [p0] m Q:=rC ok103 h
def t104 (p0:zA)(A0:Int)(A1:List Nat)(A2:Int)(A3:Bool)(A4:zA)(A5:Bool)(A6:zA)(A7:Int)(A8:zA):T:=
 .call 167 [.agg [.int .u8 A0,.str A1,.int .u8 A2,.bool A3,A4,.bool A5,A6,.int .i64 A7,A8]] fun a0=>
 .asB a0 fun b1=>.ite (!b1)
 (.call 168 [p0,.int .u8 13,.int .i64 0,.int .i64 0] fun a2=>
 .ret (.tup []))
 (.ite (wA A0 15)
 (.ite true (.call 169 [p0,.agg [.int .u8 A0,.str A1,.int .u8 A2,.bool A3,A4,.bool A5,A6,.int .i64 A7,A8],.int .u8 10,.agg [.int .u8 1,.bool false,.nilslice,.bool false,.nilslice,.int .i64 0]] fun a3=>
 .ret (.tup [])) .fail)
 (.ite (wA A0 16)
 (.ite true (.call 169 [p0,.agg [.int .u8 A0,.str A1,.int .u8 A2,.bool A3,A4,.bool A5,A6,.int .i64 A7,A8],.int .u8 11,.agg [.int .u8 1,.bool false,.nilslice,.bool false,.nilslice,.int .i64 1]] fun a4=>
 .ret (.tup [])) .fail)
 (.ite (wA A0 18)
 (.opt (zB yA 48 A8 (.int .i64 0)) fun a5=>.light (fun m=>mA yA 50 ⟨0,m⟩ a5) fun a6=>.asG uJ a6 fun X7=>
 .call 104 [p0,(.agg [.int .u8 (X7.i 0),.str (X7.s 1),.int .u8 (X7.i 2),.bool (X7.b 3),X7.v 4,.bool (X7.b 5),X7.v 6,.int .i64 (X7.i 7),X7.v 8])] fun a8=>
 .call 168 [p0,.int .u8 10,.int .i64 0,.int .i64 0] fun a9=>
 .opt (zB yA 48 A8 (.int .i64 1)) fun a10=>.light (fun m=>mA yA 50 ⟨0,m⟩ a10) fun bC=>.asG uJ bC fun X12=>
 .call 104 [p0,(.agg [.int .u8 (X12.i 0),.str (X12.s 1),.int .u8 (X12.i 2),.bool (X12.b 3),X12.v 4,.bool (X12.b 5),X12.v 6,.int .i64 (X12.i 7),X12.v 8])] fun fE=>
 .call 168 [p0,.int .u8 9,.int .i64 0,.int .i64 0] fun a14=>
 .callv a9 [] fun a15=>
 .opt (zB yA 48 A8 (.int .i64 2)) fun mG=>.light (fun m=>mA yA 50 ⟨0,m⟩ mG) fun a17=>.asG uJ a17 fun X18=>
 .call 104 [p0,(.agg [.int .u8 (X18.i 0),.str (X18.s 1),.int .u8 (X18.i 2),.bool (X18.b 3),X18.v 4,.bool (X18.b 5),X18.v 6,.int .i64 (X18.i 7),X18.v 8])] fun a19=>
 .callv a14 [] fun a20=>
 .ret (.tup []))
 (.opt (uB A8) fun a21=>.asI .i64 a21 fun n22=>.jump 4 [p0,A8,.int .i64 n22,.int .i64 0,.int .u8 A0,.str A1,.int .u8 A2,.bool A3,A4,.bool A5,A6,.int .i64 A7,A8]))))
theorem w104(p0:zA)(A0:Int)(A1:List Nat)(A2:Int)(A3:Bool)(A4:zA)(A5:Bool)(A6:zA)(A7:Int)(A8:zA)(h:wp 104 (t104 p0 A0 A1 A2 A3 A4 A5 A6 A7 A8) m Q):Wf 104 [p0,.agg [.int .u8 A0,.str A1,.int .u8 A2,.bool A3,A4,.bool A5,A6,.int .i64 A7,A8]] m Q:=rC ok104 h
def ztz(v0 v61:zA)(v62 v63 A0:Int)(A1:List Nat)(A2:Int)(A3:Bool)(A4:zA)(A5:Bool)(A6:zA)(A7:Int)(A8:zA):T:=
 .ite (iB v63 v62)
 (.opt (zB yA 48 v61 (.int .i64 v63)) fun a0=>.light (fun m=>mA yA 50 ⟨0,m⟩ a0) fun a1=>.asG uJ a1 fun X2=>
 .ite (bB zA.one [.int .u8 (X2.i 0),.str (X2.s 1),.int .u8 (X2.i 2),.bool (X2.b 3),X2.v 4,.bool (X2.b 5),X2.v 6,.int .i64 (X2.i 7),X2.v 8]) (.call 104 [v0,(.agg [.int .u8 (X2.i 0),.str (X2.s 1),.int .u8 (X2.i 2),.bool (X2.b 3),X2.v 4,.bool (X2.b 5),X2.v 6,.int .i64 (X2.i 7),X2.v 8])] fun a3=>
 .jump 4 [v0,v61,.int .i64 v62,(.int .i64 (vA .i64 (v63+1))),.int .u8 A0,.str A1,.int .u8 A2,.bool A3,A4,.bool A5,A6,.int .i64 A7,A8]) .fail)
 (.call 170 [v0,.agg [.int .u8 A0,.str A1,.int .u8 A2,.bool A3,A4,.bool A5,A6,.int .i64 A7,A8]] fun a4=>
 .ret (.tup []))
theorem z3w(v0 v61:zA)(v62 v63 A0:Int)(A1:List Nat)(A2:Int)(A3:Bool)(A4:zA)(A5:Bool)(A6:zA)(A7:Int)(A8:zA)(h:wp 104 (ztz v0 v61 v62 v63 A0 A1 A2 A3 A4 A5 A6 A7 A8) m Q):jp 104 4 [v0,v61,.int .i64 v62,.int .i64 v63,.int .u8 A0,.str A1,.int .u8 A2,.bool A3,A4,.bool A5,A6,.int .i64 A7,A8] m Q:=iD ok104 h
def t105 (A0:Bool)(A1:zA)(A2:Bool)(A3:zA):T:=
 .ite (bEq A0 A2)
 (.call 171 [A1,A3] fun a0=>
 .asB a0 fun b1=>.ret (.bool b1))
 (.ret (.bool false))
theorem w105(A0:Bool)(A1:zA)(A2:Bool)(A3:zA)(h:wp 105 (t105 A0 A1 A2 A3) m Q):Wf 105 [.agg [.bool A0,A1],.agg [.bool A2,A3]] m Q:=rC ok105 h
def t106 (A0:Bool)(A1:zA)(A2:Bool)(A3:zA):T:=
 .call 172 [.agg [.bool A0,A1,.bool A2,A3]] fun a0=>
 .asB a0 fun b1=>.ite b1
 (.ret (.bool false))
 (.call 173 [.agg [.bool A0,A1]] fun a2=>
 .asB a2 fun b3=>.ite (!b3)
 (.ret (.bool false))
 (.call 173 [.agg [.bool A2,A3]] fun a4=>
 .asB a4 fun b5=>.ite (!b5)
 (.ret (.bool false))
 (.ite A2
 (.ret (.bool false))
 (.opt (uB A3) fun a6=>.asI .i64 a6 fun n7=>.ite (wA n7 0)
 (.ret (.bool false))
 (.call 174 [.agg [.bool A0,A1,.bool A2,A3]] fun a8=>
 .asB a8 fun b9=>.ite b9
 (.ret (.bool true))
 (.call 176 [.agg [.bool A0,A1],.agg [.bool A2,A3]] fun a10=>
 .asG zz3z a10 fun X11=>
 .call 175 [(.agg [.bool (X11.b 0),X11.v 1])] fun a12=>
 .asB a12 fun b13=>.ret (.bool b13)))))))
theorem w106(A0:Bool)(A1:zA)(A2:Bool)(A3:zA)(h:wp 106 (t106 A0 A1 A2 A3) m Q):Wf 106 [.agg [.bool A0,A1,.bool A2,A3]] m Q:=rC ok106 h
def t109 (p0 p1:Int)(w0:zA):T:=
 .light (fun m=>mA yA 105 ⟨0,m⟩ w0) fun a0=>.opt (zB yA 105 a0 (.int .i64 p0)) fun a1=>.light (fun m=>mA yA 3 ⟨0,m⟩ a1) fun a2=>.asI .i64 a2 fun n3=>.ite (wA n3 0)
 (.light (fun m=>mA yA 105 ⟨0,m⟩ w0) fun a4=>.opt (zB yA 105 a4 (.int .i64 p0)) fun a5=>.heavy (xE yA 3 a5 (.int .i64 (vA .i64 (p1+1)))) fun _=>
 .jump 7 [.int .i64 p0,.int .i64 p1,w0])
 (.jump 7 [.int .i64 p0,.int .i64 p1,w0])
theorem w109(p0 p1:Int)(w0:zA)(h:wp 109 (t109 p0 p1 w0) m Q):Wf 109 [.int .i64 p0,.int .i64 p1,w0] m Q:=rC ok109 h
def zty(v0 v1:Int)(v2:zA):T:=
 .light (fun m=>mA yA 105 ⟨0,m⟩ v2) fun a0=>.opt (zB yA 105 a0 (.int .i64 v0)) fun a1=>.light (fun m=>mA yA 3 ⟨0,m⟩ a1) fun a2=>.asI .i64 a2 fun n3=>.ret (.bool (wA n3 (vA .i64 (v1+1))))
theorem z3v(v0 v1:Int)(v2:zA)(h:wp 109 (zty v0 v1 v2) m Q):jp 109 7 [.int .i64 v0,.int .i64 v1,v2] m Q:=iD ok109 h
def t110 (A0:List Nat)(A1 A2 A3 A4 A5 A6 A7:zA)(A8 A9 B0 p2 p3:Int):T:=
 .ite (wA A8 1)
 (.ite (sC 0 A9)
 (.opt (uB A5) fun a0=>.asI .i64 a0 fun n1=>.jump 45 [(.bool (iB A9 n1)),(.bool (wA B0 0)),.int .u8 A8,.int .i64 A9,.int .i64 B0])
 (.jump 45 [.bool false,(.bool (wA B0 0)),.int .u8 A8,.int .i64 A9,.int .i64 B0]))
 (.ite (wA A8 3)
 (.ite (wA A8 3)
 (.ite (sC 0 A9)
 (.opt (uB A4) fun a2=>.asI .i64 a2 fun n3=>.jump 45 [(.bool (iB A9 n3)),(.bool (wA B0 0)),.int .u8 A8,.int .i64 A9,.int .i64 B0])
 (.jump 45 [.bool false,(.bool (wA B0 0)),.int .u8 A8,.int .i64 A9,.int .i64 B0]))
 (.ite (wA A8 7)
 (.call 179 [.int .i64 A9] fun a4=>
 .asB a4 fun b5=>.ite (wA B0 0)
 (.jump 45 [.bool b5,.bool true,.int .u8 A8,.int .i64 A9,.int .i64 B0])
 (.jump 45 [.bool b5,(.bool (wA A9 19)),.int .u8 A8,.int .i64 A9,.int .i64 B0]))
 (.ite (wA A8 9)
 (.ite (wA A8 9)
 (.ite (iB p2 A9)
 (.jump 45 [(.bool (sC A9 p3)),(.bool (wA B0 0)),.int .u8 A8,.int .i64 A9,.int .i64 B0])
 (.jump 45 [.bool false,(.bool (wA B0 0)),.int .u8 A8,.int .i64 A9,.int .i64 B0]))
 (.ite (wA A8 2)
 (.ite (wA A8 2)
 (.jump 45 [(.bool (wA A9 0)),(.bool (wA B0 0)),.int .u8 A8,.int .i64 A9,.int .i64 B0])
 (.ret (.bool false)))
 (.ite (wA A8 12)
 (.ite (wA A8 12)
 (.jump 45 [(.bool (wA A9 0)),(.bool (wA B0 0)),.int .u8 A8,.int .i64 A9,.int .i64 B0])
 (.ret (.bool false)))
 (.ite (wA A8 13)
 (.jump 45 [(.bool (wA A9 0)),(.bool (wA B0 0)),.int .u8 A8,.int .i64 A9,.int .i64 B0])
 (.ret (.bool false))))))
 (.ite (wA A8 10)
 (.ite (wA A8 10)
 (.ite (iB p2 A9)
 (.jump 45 [(.bool (sC A9 p3)),(.bool (wA B0 0)),.int .u8 A8,.int .i64 A9,.int .i64 B0])
 (.jump 45 [.bool false,(.bool (wA B0 0)),.int .u8 A8,.int .i64 A9,.int .i64 B0]))
 (.ite (wA A8 2)
 (.ite (wA A8 2)
 (.jump 45 [(.bool (wA A9 0)),(.bool (wA B0 0)),.int .u8 A8,.int .i64 A9,.int .i64 B0])
 (.ret (.bool false)))
 (.ite (wA A8 12)
 (.ite (wA A8 12)
 (.jump 45 [(.bool (wA A9 0)),(.bool (wA B0 0)),.int .u8 A8,.int .i64 A9,.int .i64 B0])
 (.ret (.bool false)))
 (.ite (wA A8 13)
 (.jump 45 [(.bool (wA A9 0)),(.bool (wA B0 0)),.int .u8 A8,.int .i64 A9,.int .i64 B0])
 (.ret (.bool false))))))
 (.ite (wA A8 11)
 (.ite (iB p2 A9)
 (.jump 45 [(.bool (sC A9 p3)),(.bool (wA B0 0)),.int .u8 A8,.int .i64 A9,.int .i64 B0])
 (.jump 45 [.bool false,(.bool (wA B0 0)),.int .u8 A8,.int .i64 A9,.int .i64 B0]))
 (.ite (wA A8 2)
 (.ite (wA A8 2)
 (.jump 45 [(.bool (wA A9 0)),(.bool (wA B0 0)),.int .u8 A8,.int .i64 A9,.int .i64 B0])
 (.ret (.bool false)))
 (.ite (wA A8 12)
 (.ite (wA A8 12)
 (.jump 45 [(.bool (wA A9 0)),(.bool (wA B0 0)),.int .u8 A8,.int .i64 A9,.int .i64 B0])
 (.ret (.bool false)))
 (.ite (wA A8 13)
 (.jump 45 [(.bool (wA A9 0)),(.bool (wA B0 0)),.int .u8 A8,.int .i64 A9,.int .i64 B0])
 (.ret (.bool false))))))))))
 (.ite (wA A8 4)
 (.ite (wA A8 4)
 (.ite (sC 0 A9)
 (.opt (uB A4) fun a6=>.asI .i64 a6 fun n7=>.jump 45 [(.bool (iB A9 n7)),(.bool (wA B0 0)),.int .u8 A8,.int .i64 A9,.int .i64 B0])
 (.jump 45 [.bool false,(.bool (wA B0 0)),.int .u8 A8,.int .i64 A9,.int .i64 B0]))
 (.ite (wA A8 7)
 (.call 179 [.int .i64 A9] fun a8=>
 .asB a8 fun b9=>.ite (wA B0 0)
 (.jump 45 [.bool b9,.bool true,.int .u8 A8,.int .i64 A9,.int .i64 B0])
 (.jump 45 [.bool b9,(.bool (wA A9 19)),.int .u8 A8,.int .i64 A9,.int .i64 B0]))
 (.ite (wA A8 9)
 (.ite (wA A8 9)
 (.ite (iB p2 A9)
 (.jump 45 [(.bool (sC A9 p3)),(.bool (wA B0 0)),.int .u8 A8,.int .i64 A9,.int .i64 B0])
 (.jump 45 [.bool false,(.bool (wA B0 0)),.int .u8 A8,.int .i64 A9,.int .i64 B0]))
 (.ite (wA A8 2)
 (.ite (wA A8 2)
 (.jump 45 [(.bool (wA A9 0)),(.bool (wA B0 0)),.int .u8 A8,.int .i64 A9,.int .i64 B0])
 (.ret (.bool false)))
 (.ite (wA A8 12)
 (.ite (wA A8 12)
 (.jump 45 [(.bool (wA A9 0)),(.bool (wA B0 0)),.int .u8 A8,.int .i64 A9,.int .i64 B0])
 (.ret (.bool false)))
 (.ite (wA A8 13)
 (.jump 45 [(.bool (wA A9 0)),(.bool (wA B0 0)),.int .u8 A8,.int .i64 A9,.int .i64 B0])
 (.ret (.bool false))))))
 (.ite (wA A8 10)
 (.ite (wA A8 10)
 (.ite (iB p2 A9)
 (.jump 45 [(.bool (sC A9 p3)),(.bool (wA B0 0)),.int .u8 A8,.int .i64 A9,.int .i64 B0])
 (.jump 45 [.bool false,(.bool (wA B0 0)),.int .u8 A8,.int .i64 A9,.int .i64 B0]))
 (.ite (wA A8 2)
 (.ite (wA A8 2)
 (.jump 45 [(.bool (wA A9 0)),(.bool (wA B0 0)),.int .u8 A8,.int .i64 A9,.int .i64 B0])
 (.ret (.bool false)))
 (.ite (wA A8 12)
 (.ite (wA A8 12)
 (.jump 45 [(.bool (wA A9 0)),(.bool (wA B0 0)),.int .u8 A8,.int .i64 A9,.int .i64 B0])
 (.ret (.bool false)))
 (.ite (wA A8 13)
 (.jump 45 [(.bool (wA A9 0)),(.bool (wA B0 0)),.int .u8 A8,.int .i64 A9,.int .i64 B0])
 (.ret (.bool false))))))
 (.ite (wA A8 11)
 (.ite (iB p2 A9)
 (.jump 45 [(.bool (sC A9 p3)),(.bool (wA B0 0)),.int .u8 A8,.int .i64 A9,.int .i64 B0])
 (.jump 45 [.bool false,(.bool (wA B0 0)),.int .u8 A8,.int .i64 A9,.int .i64 B0]))
 (.ite (wA A8 2)
 (.ite (wA A8 2)
 (.jump 45 [(.bool (wA A9 0)),(.bool (wA B0 0)),.int .u8 A8,.int .i64 A9,.int .i64 B0])
 (.ret (.bool false)))
 (.ite (wA A8 12)
 (.ite (wA A8 12)
 (.jump 45 [(.bool (wA A9 0)),(.bool (wA B0 0)),.int .u8 A8,.int .i64 A9,.int .i64 B0])
 (.ret (.bool false)))
 (.ite (wA A8 13)
 (.jump 45 [(.bool (wA A9 0)),(.bool (wA B0 0)),.int .u8 A8,.int .i64 A9,.int .i64 B0])
 (.ret (.bool false))))))))))
 (.ite (wA A8 5)
 (.ite (wA A8 5)
 (.ite (sC 0 A9)
 (.opt (uB A4) fun a10=>.asI .i64 a10 fun n11=>.jump 45 [(.bool (iB A9 n11)),(.bool (wA B0 0)),.int .u8 A8,.int .i64 A9,.int .i64 B0])
 (.jump 45 [.bool false,(.bool (wA B0 0)),.int .u8 A8,.int .i64 A9,.int .i64 B0]))
 (.ite (wA A8 7)
 (.call 179 [.int .i64 A9] fun a12=>
 .asB a12 fun b13=>.ite (wA B0 0)
 (.jump 45 [.bool b13,.bool true,.int .u8 A8,.int .i64 A9,.int .i64 B0])
 (.jump 45 [.bool b13,(.bool (wA A9 19)),.int .u8 A8,.int .i64 A9,.int .i64 B0]))
 (.ite (wA A8 9)
 (.ite (wA A8 9)
 (.ite (iB p2 A9)
 (.jump 45 [(.bool (sC A9 p3)),(.bool (wA B0 0)),.int .u8 A8,.int .i64 A9,.int .i64 B0])
 (.jump 45 [.bool false,(.bool (wA B0 0)),.int .u8 A8,.int .i64 A9,.int .i64 B0]))
 (.ite (wA A8 2)
 (.ite (wA A8 2)
 (.jump 45 [(.bool (wA A9 0)),(.bool (wA B0 0)),.int .u8 A8,.int .i64 A9,.int .i64 B0])
 (.ret (.bool false)))
 (.ite (wA A8 12)
 (.ite (wA A8 12)
 (.jump 45 [(.bool (wA A9 0)),(.bool (wA B0 0)),.int .u8 A8,.int .i64 A9,.int .i64 B0])
 (.ret (.bool false)))
 (.ite (wA A8 13)
 (.jump 45 [(.bool (wA A9 0)),(.bool (wA B0 0)),.int .u8 A8,.int .i64 A9,.int .i64 B0])
 (.ret (.bool false))))))
 (.ite (wA A8 10)
 (.ite (wA A8 10)
 (.ite (iB p2 A9)
 (.jump 45 [(.bool (sC A9 p3)),(.bool (wA B0 0)),.int .u8 A8,.int .i64 A9,.int .i64 B0])
 (.jump 45 [.bool false,(.bool (wA B0 0)),.int .u8 A8,.int .i64 A9,.int .i64 B0]))
 (.ite (wA A8 2)
 (.ite (wA A8 2)
 (.jump 45 [(.bool (wA A9 0)),(.bool (wA B0 0)),.int .u8 A8,.int .i64 A9,.int .i64 B0])
 (.ret (.bool false)))
 (.ite (wA A8 12)
 (.ite (wA A8 12)
 (.jump 45 [(.bool (wA A9 0)),(.bool (wA B0 0)),.int .u8 A8,.int .i64 A9,.int .i64 B0])
 (.ret (.bool false)))
 (.ite (wA A8 13)
 (.jump 45 [(.bool (wA A9 0)),(.bool (wA B0 0)),.int .u8 A8,.int .i64 A9,.int .i64 B0])
 (.ret (.bool false))))))
 (.ite (wA A8 11)
 (.ite (iB p2 A9)
 (.jump 45 [(.bool (sC A9 p3)),(.bool (wA B0 0)),.int .u8 A8,.int .i64 A9,.int .i64 B0])
 (.jump 45 [.bool false,(.bool (wA B0 0)),.int .u8 A8,.int .i64 A9,.int .i64 B0]))
 (.ite (wA A8 2)
 (.ite (wA A8 2)
 (.jump 45 [(.bool (wA A9 0)),(.bool (wA B0 0)),.int .u8 A8,.int .i64 A9,.int .i64 B0])
 (.ret (.bool false)))
 (.ite (wA A8 12)
 (.ite (wA A8 12)
 (.jump 45 [(.bool (wA A9 0)),(.bool (wA B0 0)),.int .u8 A8,.int .i64 A9,.int .i64 B0])
 (.ret (.bool false)))
 (.ite (wA A8 13)
 (.jump 45 [(.bool (wA A9 0)),(.bool (wA B0 0)),.int .u8 A8,.int .i64 A9,.int .i64 B0])
 (.ret (.bool false))))))))))
 (.ite (wA A8 6)
 (.ite (wA A8 6)
 (.ite (sC 0 A9)
 (.opt (uB A4) fun a14=>.asI .i64 a14 fun n15=>.jump 45 [(.bool (iB A9 n15)),(.bool (wA B0 0)),.int .u8 A8,.int .i64 A9,.int .i64 B0])
 (.jump 45 [.bool false,(.bool (wA B0 0)),.int .u8 A8,.int .i64 A9,.int .i64 B0]))
 (.ite (wA A8 7)
 (.call 179 [.int .i64 A9] fun mG=>
 .asB mG fun b17=>.ite (wA B0 0)
 (.jump 45 [.bool b17,.bool true,.int .u8 A8,.int .i64 A9,.int .i64 B0])
 (.jump 45 [.bool b17,(.bool (wA A9 19)),.int .u8 A8,.int .i64 A9,.int .i64 B0]))
 (.ite (wA A8 9)
 (.ite (wA A8 9)
 (.ite (iB p2 A9)
 (.jump 45 [(.bool (sC A9 p3)),(.bool (wA B0 0)),.int .u8 A8,.int .i64 A9,.int .i64 B0])
 (.jump 45 [.bool false,(.bool (wA B0 0)),.int .u8 A8,.int .i64 A9,.int .i64 B0]))
 (.ite (wA A8 2)
 (.ite (wA A8 2)
 (.jump 45 [(.bool (wA A9 0)),(.bool (wA B0 0)),.int .u8 A8,.int .i64 A9,.int .i64 B0])
 (.ret (.bool false)))
 (.ite (wA A8 12)
 (.ite (wA A8 12)
 (.jump 45 [(.bool (wA A9 0)),(.bool (wA B0 0)),.int .u8 A8,.int .i64 A9,.int .i64 B0])
 (.ret (.bool false)))
 (.ite (wA A8 13)
 (.jump 45 [(.bool (wA A9 0)),(.bool (wA B0 0)),.int .u8 A8,.int .i64 A9,.int .i64 B0])
 (.ret (.bool false))))))
 (.ite (wA A8 10)
 (.ite (wA A8 10)
 (.ite (iB p2 A9)
 (.jump 45 [(.bool (sC A9 p3)),(.bool (wA B0 0)),.int .u8 A8,.int .i64 A9,.int .i64 B0])
 (.jump 45 [.bool false,(.bool (wA B0 0)),.int .u8 A8,.int .i64 A9,.int .i64 B0]))
 (.ite (wA A8 2)
 (.ite (wA A8 2)
 (.jump 45 [(.bool (wA A9 0)),(.bool (wA B0 0)),.int .u8 A8,.int .i64 A9,.int .i64 B0])
 (.ret (.bool false)))
 (.ite (wA A8 12)
 (.ite (wA A8 12)
 (.jump 45 [(.bool (wA A9 0)),(.bool (wA B0 0)),.int .u8 A8,.int .i64 A9,.int .i64 B0])
 (.ret (.bool false)))
 (.ite (wA A8 13)
 (.jump 45 [(.bool (wA A9 0)),(.bool (wA B0 0)),.int .u8 A8,.int .i64 A9,.int .i64 B0])
 (.ret (.bool false))))))
 (.ite (wA A8 11)
 (.ite (iB p2 A9)
 (.jump 45 [(.bool (sC A9 p3)),(.bool (wA B0 0)),.int .u8 A8,.int .i64 A9,.int .i64 B0])
 (.jump 45 [.bool false,(.bool (wA B0 0)),.int .u8 A8,.int .i64 A9,.int .i64 B0]))
 (.ite (wA A8 2)
 (.ite (wA A8 2)
 (.jump 45 [(.bool (wA A9 0)),(.bool (wA B0 0)),.int .u8 A8,.int .i64 A9,.int .i64 B0])
 (.ret (.bool false)))
 (.ite (wA A8 12)
 (.ite (wA A8 12)
 (.jump 45 [(.bool (wA A9 0)),(.bool (wA B0 0)),.int .u8 A8,.int .i64 A9,.int .i64 B0])
 (.ret (.bool false)))
 (.ite (wA A8 13)
 (.jump 45 [(.bool (wA A9 0)),(.bool (wA B0 0)),.int .u8 A8,.int .i64 A9,.int .i64 B0])
 (.ret (.bool false))))))))))
 (.ite (wA A8 8)
 (.ite (sC 0 A9)
 (.opt (uB A4) fun a18=>.asI .i64 a18 fun n19=>.jump 45 [(.bool (iB A9 n19)),(.bool (wA B0 0)),.int .u8 A8,.int .i64 A9,.int .i64 B0])
 (.jump 45 [.bool false,(.bool (wA B0 0)),.int .u8 A8,.int .i64 A9,.int .i64 B0]))
 (.ite (wA A8 7)
 (.call 179 [.int .i64 A9] fun a20=>
 .asB a20 fun b21=>.ite (wA B0 0)
 (.jump 45 [.bool b21,.bool true,.int .u8 A8,.int .i64 A9,.int .i64 B0])
 (.jump 45 [.bool b21,(.bool (wA A9 19)),.int .u8 A8,.int .i64 A9,.int .i64 B0]))
 (.ite (wA A8 9)
 (.ite (wA A8 9)
 (.ite (iB p2 A9)
 (.jump 45 [(.bool (sC A9 p3)),(.bool (wA B0 0)),.int .u8 A8,.int .i64 A9,.int .i64 B0])
 (.jump 45 [.bool false,(.bool (wA B0 0)),.int .u8 A8,.int .i64 A9,.int .i64 B0]))
 (.ite (wA A8 2)
 (.ite (wA A8 2)
 (.jump 45 [(.bool (wA A9 0)),(.bool (wA B0 0)),.int .u8 A8,.int .i64 A9,.int .i64 B0])
 (.ret (.bool false)))
 (.ite (wA A8 12)
 (.ite (wA A8 12)
 (.jump 45 [(.bool (wA A9 0)),(.bool (wA B0 0)),.int .u8 A8,.int .i64 A9,.int .i64 B0])
 (.ret (.bool false)))
 (.ite (wA A8 13)
 (.jump 45 [(.bool (wA A9 0)),(.bool (wA B0 0)),.int .u8 A8,.int .i64 A9,.int .i64 B0])
 (.ret (.bool false))))))
 (.ite (wA A8 10)
 (.ite (wA A8 10)
 (.ite (iB p2 A9)
 (.jump 45 [(.bool (sC A9 p3)),(.bool (wA B0 0)),.int .u8 A8,.int .i64 A9,.int .i64 B0])
 (.jump 45 [.bool false,(.bool (wA B0 0)),.int .u8 A8,.int .i64 A9,.int .i64 B0]))
 (.ite (wA A8 2)
 (.ite (wA A8 2)
 (.jump 45 [(.bool (wA A9 0)),(.bool (wA B0 0)),.int .u8 A8,.int .i64 A9,.int .i64 B0])
 (.ret (.bool false)))
 (.ite (wA A8 12)
 (.ite (wA A8 12)
 (.jump 45 [(.bool (wA A9 0)),(.bool (wA B0 0)),.int .u8 A8,.int .i64 A9,.int .i64 B0])
 (.ret (.bool false)))
 (.ite (wA A8 13)
 (.jump 45 [(.bool (wA A9 0)),(.bool (wA B0 0)),.int .u8 A8,.int .i64 A9,.int .i64 B0])
 (.ret (.bool false))))))
 (.ite (wA A8 11)
 (.ite (iB p2 A9)
 (.jump 45 [(.bool (sC A9 p3)),(.bool (wA B0 0)),.int .u8 A8,.int .i64 A9,.int .i64 B0])
 (.jump 45 [.bool false,(.bool (wA B0 0)),.int .u8 A8,.int .i64 A9,.int .i64 B0]))
 (.ite (wA A8 2)
 (.ite (wA A8 2)
 (.jump 45 [(.bool (wA A9 0)),(.bool (wA B0 0)),.int .u8 A8,.int .i64 A9,.int .i64 B0])
 (.ret (.bool false)))
 (.ite (wA A8 12)
 (.ite (wA A8 12)
 (.jump 45 [(.bool (wA A9 0)),(.bool (wA B0 0)),.int .u8 A8,.int .i64 A9,.int .i64 B0])
 (.ret (.bool false)))
 (.ite (wA A8 13)
 (.jump 45 [(.bool (wA A9 0)),(.bool (wA B0 0)),.int .u8 A8,.int .i64 A9,.int .i64 B0])
 (.ret (.bool false))))))))))))))
theorem w110(A0:List Nat)(A1 A2 A3 A4 A5 A6 A7:zA)(A8 A9 B0 p2 p3:Int)(h:wp 110 (t110 A0 A1 A2 A3 A4 A5 A6 A7 A8 A9 B0 p2 p3) m Q):Wf 110 [.agg [.str A0,A1,A2,A3,A4,A5,A6,A7],.agg [.int .u8 A8,.int .i64 A9,.int .i64 B0],.int .i64 p2,.int .i64 p3] m Q:=rC z5n h
def ztx(v9 v10:Bool)(A0 A1 A2:Int):T:=
 .ite (wA A0 6)
 (.ite (wA A2 1)
 (.jump 55 [.bool v9,.bool true])
 (.jump 55 [.bool v9,(.bool (wA A2 2))]))
 (.ite (wA A0 8)
 (.call 180 [.int .i64 A2] fun a0=>
 .asB a0 fun b1=>.jump 55 [.bool v9,.bool b1])
 (.jump 55 [.bool v9,.bool v10]))
theorem z6j(v9 v10:Bool)(A0 A1 A2:Int)(h:wp 110 (ztx v9 v10 A0 A1 A2) m Q):jp 110 45 [.bool v9,.bool v10,.int .u8 A0,.int .i64 A1,.int .i64 A2] m Q:=iD z5n h
def ztw(v9 v10:Bool):T:=
 .ite v9
 (.ret (.bool v10))
 (.ret (.bool false))
theorem z6i(v9 v10:Bool)(h:wp 110 (ztw v9 v10) m Q):jp 110 55 [.bool v9,.bool v10] m Q:=iD z5n h
def t111 (A0 A1 A2:Int):T:=
 .ite true (.heavy (sM yA 232) fun a0=>
 .heavy (xE yA 232 a0 (.agg [.int .i64 0,.int .i64 0,.int .i64 0,.int .i64 1,.int .i64 1,.int .i64 1,.int .i64 0,.int .i64 0,.int .i64 0,.int .i64 0,.int .i64 1,.int .i64 1,.int .i64 1,.int .i64 0])) fun _=>
 .ite (wA A0 6)
 (.ret (.tup [.int .i64 A2,.int .i64 1]))
 (.ite (wA A0 7)
 (.call 181 [(.int .u8 (vA .u8 A1))] fun a1=>
 .opt (vC 0 a1) fun a2=>.asI .i64 a2 fun n3=>.opt (vC 1 a1) fun a4=>.asI .i64 a4 fun n5=>.ret (.tup [.int .i64 n3,.int .i64 1]))
 (.ite (wA A0 8)
 (.call 181 [(.int .u8 (vA .u8 A2))] fun a6=>
 .opt (vC 0 a6) fun a7=>.asI .i64 a7 fun n8=>.opt (vC 1 a6) fun a9=>.asI .i64 a9 fun n10=>.ret (.tup [.int .i64 n8,.int .i64 1]))
 (.ite (wA A0 9)
 (.ite (wA A0 9)
 (.opt (zB yA 232 a0 (.int .u8 A0)) fun bC=>.light (fun m=>mA yA 3 ⟨0,m⟩ bC) fun a12=>.asI .i64 a12 fun n13=>.ret (.tup [.int .i64 n13,.int .i64 0]))
 (.opt (zB yA 232 a0 (.int .u8 A0)) fun a14=>.light (fun m=>mA yA 3 ⟨0,m⟩ a14) fun a15=>.asI .i64 a15 fun n16=>.ret (.tup [.int .i64 n16,.int .i64 1])))
 (.ite (wA A0 10)
 (.ite (wA A0 10)
 (.opt (zB yA 232 a0 (.int .u8 A0)) fun a17=>.light (fun m=>mA yA 3 ⟨0,m⟩ a17) fun a18=>.asI .i64 a18 fun n19=>.ret (.tup [.int .i64 n19,.int .i64 0]))
 (.opt (zB yA 232 a0 (.int .u8 A0)) fun a20=>.light (fun m=>mA yA 3 ⟨0,m⟩ a20) fun a21=>.asI .i64 a21 fun n22=>.ret (.tup [.int .i64 n22,.int .i64 1])))
 (.ite (wA A0 11)
 (.opt (zB yA 232 a0 (.int .u8 A0)) fun a23=>.light (fun m=>mA yA 3 ⟨0,m⟩ a23) fun a24=>.asI .i64 a24 fun n25=>.ret (.tup [.int .i64 n25,.int .i64 0]))
 (.opt (zB yA 232 a0 (.int .u8 A0)) fun a26=>.light (fun m=>mA yA 3 ⟨0,m⟩ a26) fun a27=>.asI .i64 a27 fun n28=>.ret (.tup [.int .i64 n28,.int .i64 1])))))))) .fail
theorem w111(A0 A1 A2:Int)(h:wp 111 (t111 A0 A1 A2) m Q):Wf 111 [.agg [.int .u8 A0,.int .i64 A1,.int .i64 A2]] m Q:=rC ok111 h
def t112 (p0:Int):T:=
 .ite (sC 9 p0)
 (.ret (.bool (sC p0 11)))
 (.ret (.bool false))
theorem w112(p0:Int)(h:wp 112 (t112 p0) m Q):Wf 112 [.int .u8 p0] m Q:=rC ok112 h
def t113 (p0:zA)(A0:Int)(A1:List Nat)(A2:Int)(A3:Bool)(A4:zA)(A5:Bool)(A6:zA)(A7:Int)(A8:zA)(p2 p3:Int):T:=
 .opt (fG p0) fun a0=>.opt (pB yA 118 1 a0) fun a1=>.light (fun m=>mA yA 37 ⟨0,m⟩ a1) fun a2=>.opt (zB yA 37 a2 (.int .i64 p2)) fun a3=>.light (fun m=>mA yA 54 ⟨0,m⟩ a3) fun a4=>.asG z4b a4 fun X5=>
 .ite true (.ite (wA (X5.i 0) 9)
 (.ite true (.ite true (.ret (.tup [.agg [.int .u8 0,.str [],.int .u8 0,.bool false,.nilslice,.bool false,.nilslice,.int .i64 0,.nilslice],.int .i64 0,.bool false])) .fail) .fail)
 (.ite (iB (X5.i 1) (vA .i64 (p2+2)))
 (.ite true (.ite true (.ret (.tup [.agg [.int .u8 0,.str [],.int .u8 0,.bool false,.nilslice,.bool false,.nilslice,.int .i64 0,.nilslice],.int .i64 0,.bool false])) .fail) .fail)
 (.ite (sC p3 (X5.i 1))
 (.ite true (.ite true (.ret (.tup [.agg [.int .u8 0,.str [],.int .u8 0,.bool false,.nilslice,.bool false,.nilslice,.int .i64 0,.nilslice],.int .i64 0,.bool false])) .fail) .fail)
 (.opt (fG p0) fun a6=>.opt (pB yA 118 1 a6) fun a7=>.light (fun m=>mA yA 37 ⟨0,m⟩ a7) fun a8=>.opt (zB yA 37 a8 (.int .i64 (vA .i64 ((X5.i 1)-1)))) fun a9=>.opt (pB yA 54 0 a9) fun a10=>.light (fun m=>mA yA 5 ⟨0,m⟩ a10) fun bC=>.asI .u8 bC fun n12=>.ite (!wA n12 9)
 (.ite true (.ite true (.ret (.tup [.agg [.int .u8 0,.str [],.int .u8 0,.bool false,.nilslice,.bool false,.nilslice,.int .i64 0,.nilslice],.int .i64 0,.bool false])) .fail) .fail)
 (.opt (fG p0) fun fE=>.opt (pB yA 118 1 fE) fun a14=>.light (fun m=>mA yA 37 ⟨0,m⟩ a14) fun a15=>.opt (zB yA 37 a15 (.int .i64 (vA .i64 ((X5.i 1)-1)))) fun mG=>.opt (pB yA 54 1 mG) fun a17=>.light (fun m=>mA yA 3 ⟨0,m⟩ a17) fun a18=>.asI .i64 a18 fun n19=>.ite (iB p3 n19)
 (.ite true (.ite true (.ret (.tup [.agg [.int .u8 0,.str [],.int .u8 0,.bool false,.nilslice,.bool false,.nilslice,.int .i64 0,.nilslice],.int .i64 0,.bool false])) .fail) .fail)
 (.opt (fG p0) fun a20=>.opt (pB yA 118 1 a20) fun a21=>.light (fun m=>mA yA 37 ⟨0,m⟩ a21) fun a22=>.opt (zB yA 37 a22 (.int .i64 (vA .i64 ((X5.i 1)-2)))) fun a23=>.opt (pB yA 54 0 a23) fun a24=>.light (fun m=>mA yA 5 ⟨0,m⟩ a24) fun a25=>.asI .u8 a25 fun n26=>.ite (wA n26 12)
 (.ite true (.ite true (.ite (wA (X5.i 0) 11)
 (.ite true (.jump 29 [p0,.int .i64 p2,.int .i64 (X5.i 1),.int .i64 n19,.int .u8 16,.int .u8 A0,.str A1,.int .u8 A2,.bool A3,A4,.bool A5,A6,.int .i64 A7,A8,.int .u8 0,.str [],.int .u8 0,.bool false,.nilslice,.bool false,.nilslice,.int .i64 0,.nilslice,.int .u8 1,.bool false,.nilslice,.bool false,.nilslice,.int .i64 1]) .fail)
 (.jump 29 [p0,.int .i64 p2,.int .i64 (X5.i 1),.int .i64 n19,.int .u8 15,.int .u8 A0,.str A1,.int .u8 A2,.bool A3,A4,.bool A5,A6,.int .i64 A7,A8,.int .u8 0,.str [],.int .u8 0,.bool false,.nilslice,.bool false,.nilslice,.int .i64 0,.nilslice,.int .u8 1,.bool false,.nilslice,.bool false,.nilslice,.int .i64 0])) .fail) .fail)
 (.call 59 [p0,(.int .i64 (vA .i64 (p2+1))),(.int .i64 (vA .i64 ((X5.i 1)-1)))] fun a27=>
 .opt (vC 0 a27) fun a28=>.asG uJ a28 fun X29=>
 .opt (vC 1 a27) fun a30=>.asB a30 fun b31=>.ite (bB zA.one [.int .u8 (X29.i 0),.str (X29.s 1),.int .u8 (X29.i 2),.bool (X29.b 3),X29.v 4,.bool (X29.b 5),X29.v 6,.int .i64 (X29.i 7),X29.v 8]) (.ite (!b31)
 (.ite true (.ite true (.ret (.tup [.agg [.int .u8 0,.str [],.int .u8 0,.bool false,.nilslice,.bool false,.nilslice,.int .i64 0,.nilslice],.int .i64 0,.bool false])) .fail) .fail)
 (.ite (!wA (X5.i 0) 10)
 (.ite true (.ite true (.ret (.tup [.agg [.int .u8 0,.str [],.int .u8 0,.bool false,.nilslice,.bool false,.nilslice,.int .i64 0,.nilslice],.int .i64 0,.bool false])) .fail) .fail)
 (.call 59 [p0,.int .i64 (X5.i 1),.int .i64 n19] fun a32=>
 .opt (vC 0 a32) fun a33=>.asG uJ a33 fun X34=>
 .opt (vC 1 a32) fun a35=>.asB a35 fun b36=>.ite (bB zA.one [.int .u8 (X34.i 0),.str (X34.s 1),.int .u8 (X34.i 2),.bool (X34.b 3),X34.v 4,.bool (X34.b 5),X34.v 6,.int .i64 (X34.i 7),X34.v 8]) (.heavy (oF yA 48 3 [(0,(.agg [.int .u8 A0,.str A1,.int .u8 A2,.bool A3,A4,.bool A5,A6,.int .i64 A7,A8])),(1,(.agg [.int .u8 (X29.i 0),.str (X29.s 1),.int .u8 (X29.i 2),.bool (X29.b 3),X29.v 4,.bool (X29.b 5),X29.v 6,.int .i64 (X29.i 7),X29.v 8])),(2,(.agg [.int .u8 (X34.i 0),.str (X34.s 1),.int .u8 (X34.i 2),.bool (X34.b 3),X34.v 4,.bool (X34.b 5),X34.v 6,.int .i64 (X34.i 7),X34.v 8]))]) fun a37=>
 .ite (bB zA.one [.int .u8 18,a37]) (.ite (bB zA.one [.int .u8 18,.str [],.int .u8 0,.bool false,.nilslice,.bool false,.nilslice,.int .i64 0,a37]) (.ret (.tup [.agg [.int .u8 18,.str [],.int .u8 0,.bool false,.nilslice,.bool false,.nilslice,.int .i64 0,a37],.int .i64 n19,.bool b36])) .fail) .fail) .fail))) .fail))))))) .fail
theorem w113(p0:zA)(A0:Int)(A1:List Nat)(A2:Int)(A3:Bool)(A4:zA)(A5:Bool)(A6:zA)(A7:Int)(A8:zA)(p2 p3:Int)(h:wp 113 (t113 p0 A0 A1 A2 A3 A4 A5 A6 A7 A8 p2 p3) m Q):Wf 113 [p0,.agg [.int .u8 A0,.str A1,.int .u8 A2,.bool A3,A4,.bool A5,A6,.int .i64 A7,A8],.int .i64 p2,.int .i64 p3] m Q:=rC ok113 h
def ztv(v0:zA)(v2 v12 v13 v15 A0:Int)(A1:List Nat)(A2:Int)(A3:Bool)(A4:zA)(A5:Bool)(A6:zA)(A7:Int)(A8:zA)(A9:Int)(B0:List Nat)(B1:Int)(B2:Bool)(B3:zA)(B4:Bool)(B5:zA)(B6:Int)(B7:zA)(B8:Int)(B9:Bool)(D0:zA)(D1:Bool)(D2:zA)(D3:Int):T:=
 .opt (fG v0) fun a0=>.opt (pB yA 118 1 a0) fun a1=>.light (fun m=>mA yA 37 ⟨0,m⟩ a1) fun a2=>.opt (zB yA 37 a2 (.int .i64 v12)) fun a3=>.light (fun m=>mA yA 54 ⟨0,m⟩ a3) fun a4=>.asG z4b a4 fun X5=>
 .ite true (.call 59 [v0,(.int .i64 (vA .i64 (v2+1))),(.int .i64 (vA .i64 (v12-2)))] fun a6=>
 .opt (vC 0 a6) fun a7=>.asG uJ a7 fun X8=>
 .opt (vC 1 a6) fun a9=>.asB a9 fun b10=>.ite (bB zA.one [.int .u8 (X8.i 0),.str (X8.s 1),.int .u8 (X8.i 2),.bool (X8.b 3),X8.v 4,.bool (X8.b 5),X8.v 6,.int .i64 (X8.i 7),X8.v 8]) (.ite b10
 (.ite (wA v13 (vA .i64 (v12+1)))
 (.ite (wA (X5.i 0) 1)
 (.opt (fG v0) fun bC=>.opt (pB yA 118 0 bC) fun a12=>.opt (pB yA 34 2 a12) fun fE=>.light (fun m=>mA yA 31 ⟨0,m⟩ fE) fun a14=>.opt (zB yA 31 a14 (.int .i64 (X5.i 1))) fun a15=>.light (fun m=>mA yA 47 ⟨0,m⟩ a15) fun mG=>.asG z2a mG fun X17=>
 .call 24 [(.agg [.int .u8 (X17.i 0),.bool (X17.b 1),X17.v 2,.bool (X17.b 3),X17.v 4,.int .i64 (X17.i 5)]),.agg [.int .u8 B8,.bool B9,D0,.bool D1,D2,.int .i64 D3]] fun a18=>
 .asB a18 fun b19=>.heavy (oF yA 48 2 [(0,(.agg [.int .u8 A0,.str A1,.int .u8 A2,.bool A3,A4,.bool A5,A6,.int .i64 A7,A8])),(1,(.agg [.int .u8 (X8.i 0),.str (X8.s 1),.int .u8 (X8.i 2),.bool (X8.b 3),X8.v 4,.bool (X8.b 5),X8.v 6,.int .i64 (X8.i 7),X8.v 8]))]) fun a20=>
 .ite (bB zA.one [.int .u8 v15,a20]) (.ite (bB zA.one [.int .u8 v15,.str [],.int .u8 0,.bool false,.nilslice,.bool false,.nilslice,.int .i64 0,a20]) (.ret (.tup [.agg [.int .u8 v15,.str [],.int .u8 0,.bool false,.nilslice,.bool false,.nilslice,.int .i64 0,a20],.int .i64 v13,.bool b19])) .fail) .fail)
 (.heavy (oF yA 48 2 [(0,(.agg [.int .u8 A0,.str A1,.int .u8 A2,.bool A3,A4,.bool A5,A6,.int .i64 A7,A8])),(1,(.agg [.int .u8 (X8.i 0),.str (X8.s 1),.int .u8 (X8.i 2),.bool (X8.b 3),X8.v 4,.bool (X8.b 5),X8.v 6,.int .i64 (X8.i 7),X8.v 8]))]) fun a21=>
 .ite (bB zA.one [.int .u8 v15,a21]) (.ite (bB zA.one [.int .u8 v15,.str [],.int .u8 0,.bool false,.nilslice,.bool false,.nilslice,.int .i64 0,a21]) (.ret (.tup [.agg [.int .u8 v15,.str [],.int .u8 0,.bool false,.nilslice,.bool false,.nilslice,.int .i64 0,a21],.int .i64 v13,.bool false])) .fail) .fail))
 (.heavy (oF yA 48 2 [(0,(.agg [.int .u8 A0,.str A1,.int .u8 A2,.bool A3,A4,.bool A5,A6,.int .i64 A7,A8])),(1,(.agg [.int .u8 (X8.i 0),.str (X8.s 1),.int .u8 (X8.i 2),.bool (X8.b 3),X8.v 4,.bool (X8.b 5),X8.v 6,.int .i64 (X8.i 7),X8.v 8]))]) fun a22=>
 .ite (bB zA.one [.int .u8 v15,a22]) (.ite (bB zA.one [.int .u8 v15,.str [],.int .u8 0,.bool false,.nilslice,.bool false,.nilslice,.int .i64 0,a22]) (.ret (.tup [.agg [.int .u8 v15,.str [],.int .u8 0,.bool false,.nilslice,.bool false,.nilslice,.int .i64 0,a22],.int .i64 v13,.bool false])) .fail) .fail))
 (.heavy (oF yA 48 2 [(0,(.agg [.int .u8 A0,.str A1,.int .u8 A2,.bool A3,A4,.bool A5,A6,.int .i64 A7,A8])),(1,(.agg [.int .u8 (X8.i 0),.str (X8.s 1),.int .u8 (X8.i 2),.bool (X8.b 3),X8.v 4,.bool (X8.b 5),X8.v 6,.int .i64 (X8.i 7),X8.v 8]))]) fun a23=>
 .ite (bB zA.one [.int .u8 v15,a23]) (.ite (bB zA.one [.int .u8 v15,.str [],.int .u8 0,.bool false,.nilslice,.bool false,.nilslice,.int .i64 0,a23]) (.ret (.tup [.agg [.int .u8 v15,.str [],.int .u8 0,.bool false,.nilslice,.bool false,.nilslice,.int .i64 0,a23],.int .i64 v13,.bool false])) .fail) .fail)) .fail) .fail
theorem z6h(v0:zA)(v2 v12 v13 v15 A0:Int)(A1:List Nat)(A2:Int)(A3:Bool)(A4:zA)(A5:Bool)(A6:zA)(A7:Int)(A8:zA)(A9:Int)(B0:List Nat)(B1:Int)(B2:Bool)(B3:zA)(B4:Bool)(B5:zA)(B6:Int)(B7:zA)(B8:Int)(B9:Bool)(D0:zA)(D1:Bool)(D2:zA)(D3:Int)(h:wp 113 (ztv v0 v2 v12 v13 v15 A0 A1 A2 A3 A4 A5 A6 A7 A8 A9 B0 B1 B2 B3 B4 B5 B6 B7 B8 B9 D0 D1 D2 D3) m Q):jp 113 29 [v0,.int .i64 v2,.int .i64 v12,.int .i64 v13,.int .u8 v15,.int .u8 A0,.str A1,.int .u8 A2,.bool A3,A4,.bool A5,A6,.int .i64 A7,A8,.int .u8 A9,.str B0,.int .u8 B1,.bool B2,B3,.bool B4,B5,.int .i64 B6,B7,.int .u8 B8,.bool B9,D0,.bool D1,D2,.int .i64 D3] m Q:=iD ok113 h
def t114 (p0:zA)(A0 A1 A2:Int):T:=
 .ite (wA A0 1)
 (.opt (fG p0) fun a0=>.opt (pB yA 118 0 a0) fun a1=>.opt (pB yA 34 2 a1) fun a2=>.light (fun m=>mA yA 31 ⟨0,m⟩ a2) fun a3=>.opt (zB yA 31 a3 (.int .i64 A1)) fun a4=>.light (fun m=>mA yA 47 ⟨0,m⟩ a4) fun a5=>.asG z2a a5 fun X6=>
 .call 102 [(.agg [.int .u8 (X6.i 0),.bool (X6.b 1),X6.v 2,.bool (X6.b 3),X6.v 4,.int .i64 (X6.i 5)])] fun a7=>
 .asG z2a a7 fun X8=>
 .ite true (.ite (bB zA.one [.int .u8 1,.str [],.int .u8 (X8.i 0),.bool (X8.b 1),X8.v 2,.bool (X8.b 3),X8.v 4,.int .i64 (X8.i 5),.nilslice]) (.ret (.agg [.int .u8 1,.str [],.int .u8 (X8.i 0),.bool (X8.b 1),X8.v 2,.bool (X8.b 3),X8.v 4,.int .i64 (X8.i 5),.nilslice])) .fail) .fail)
 (.ite (wA A0 3)
 (.opt (fG p0) fun a9=>.opt (pB yA 118 0 a9) fun a10=>.opt (pB yA 34 1 a10) fun bC=>.light (fun m=>mA yA 30 ⟨0,m⟩ bC) fun a12=>.opt (zB yA 30 a12 (.int .i64 A1)) fun fE=>.light (fun m=>mA yA 9 ⟨0,m⟩ fE) fun a14=>.asS a14 fun s15=>.ite true (.ite true (.ret (.agg [.int .u8 3,.str s15,.int .u8 0,.bool false,.nilslice,.bool false,.nilslice,.int .i64 0,.nilslice])) .fail) .fail)
 (.ite (wA A0 4)
 (.opt (fG p0) fun mG=>.opt (pB yA 118 0 mG) fun a17=>.opt (pB yA 34 1 a17) fun a18=>.light (fun m=>mA yA 30 ⟨0,m⟩ a18) fun a19=>.opt (zB yA 30 a19 (.int .i64 A1)) fun a20=>.light (fun m=>mA yA 9 ⟨0,m⟩ a20) fun a21=>.asS a21 fun s22=>.ite true (.ite true (.ret (.agg [.int .u8 4,.str s22,.int .u8 0,.bool false,.nilslice,.bool false,.nilslice,.int .i64 0,.nilslice])) .fail) .fail)
 (.ite (wA A0 5)
 (.opt (fG p0) fun a23=>.opt (pB yA 118 0 a23) fun a24=>.opt (pB yA 34 1 a24) fun a25=>.light (fun m=>mA yA 30 ⟨0,m⟩ a25) fun a26=>.opt (zB yA 30 a26 (.int .i64 A1)) fun a27=>.light (fun m=>mA yA 9 ⟨0,m⟩ a27) fun a28=>.asS a28 fun s29=>.ite true (.ite true (.ret (.agg [.int .u8 5,.str s29,.int .u8 0,.bool false,.nilslice,.bool false,.nilslice,.int .i64 0,.nilslice])) .fail) .fail)
 (.ite (wA A0 6)
 (.opt (fG p0) fun a30=>.opt (pB yA 118 0 a30) fun a31=>.opt (pB yA 34 1 a31) fun a32=>.light (fun m=>mA yA 30 ⟨0,m⟩ a32) fun a33=>.opt (zB yA 30 a33 (.int .i64 A1)) fun a34=>.light (fun m=>mA yA 9 ⟨0,m⟩ a34) fun a35=>.asS a35 fun s36=>.ite true (.ite true (.ret (.agg [.int .u8 6,.str s36,.int .u8 0,.bool false,.nilslice,.bool false,.nilslice,.int .i64 0,.nilslice])) .fail) .fail)
 (.ite (wA A0 8)
 (.opt (fG p0) fun a37=>.opt (pB yA 118 0 a37) fun a38=>.opt (pB yA 34 1 a38) fun a39=>.light (fun m=>mA yA 30 ⟨0,m⟩ a39) fun a40=>.opt (zB yA 30 a40 (.int .i64 A1)) fun a41=>.light (fun m=>mA yA 9 ⟨0,m⟩ a41) fun a42=>.asS a42 fun s43=>.ite true (.ite true (.ret (.agg [(.int .u8 (vA .u8 A2)),.str s43,.int .u8 0,.bool false,.nilslice,.bool false,.nilslice,.int .i64 0,.nilslice])) .fail) .fail)
 (.ite (wA A0 7)
 (.ite true (.ite true (.ite true (.ret (.agg [(.int .u8 (vA .u8 A1)),.str [],.int .u8 0,.bool false,.nilslice,.bool false,.nilslice,.int .i64 A2,.nilslice])) .fail) .fail) .fail)
 (.ite true (.ite true (.ret (.agg [.int .u8 2,.str [],.int .u8 0,.bool false,.nilslice,.bool false,.nilslice,.int .i64 0,.nilslice])) .fail) .fail)))))))
theorem w114(p0:zA)(A0 A1 A2:Int)(h:wp 114 (t114 p0 A0 A1 A2) m Q):Wf 114 [p0,.agg [.int .u8 A0,.int .i64 A1,.int .i64 A2]] m Q:=rC ok114 h
def t115 (A0:Bool)(A1:zA)(A2:Bool)(A3:zA)(A4:Bool)(A5:zA)(A6:Bool)(A7:zA):T:=
 .call 182 [.agg [.bool A0,A1],.agg [.bool A4,A5]] fun a0=>
 .asB a0 fun b1=>.ite b1
 (.call 182 [.agg [.bool A2,A3],.agg [.bool A6,A7]] fun a2=>
 .asB a2 fun b3=>.ret (.bool b3))
 (.ret (.bool false))
theorem w115(A0:Bool)(A1:zA)(A2:Bool)(A3:zA)(A4:Bool)(A5:zA)(A6:Bool)(A7:zA)(h:wp 115 (t115 A0 A1 A2 A3 A4 A5 A6 A7) m Q):Wf 115 [.agg [.bool A0,A1,.bool A2,A3],.agg [.bool A4,A5,.bool A6,A7]] m Q:=rC ok115 h
def t116 (A0:Int)(A1:List Nat)(A2:Int)(A3:Bool)(A4:zA)(A5:Bool)(A6:zA)(A7:Int)(A8:zA)(p1:Int)(w0 w1:zA):T:=
 .light (fun m=>mA yA 3 ⟨0,m⟩ w0) fun a0=>.asI .i64 a0 fun n1=>.heavy (xE yA 3 w0 (.int .i64 (vA .i64 (n1+1)))) fun _=>
 .light (fun m=>mA yA 3 ⟨0,m⟩ w0) fun a2=>.asI .i64 a2 fun n3=>.ite (iB 200 n3)
 (.ret (.bool false))
 (.ite (iB 24 p1)
 (.ret (.bool false))
 (.opt (uB A8) fun a4=>.asI .i64 a4 fun n5=>.jump 2 [.int .i64 p1,w1,A8,.int .i64 n5,.int .i64 0]))
theorem w116(A0:Int)(A1:List Nat)(A2:Int)(A3:Bool)(A4:zA)(A5:Bool)(A6:zA)(A7:Int)(A8:zA)(p1:Int)(w0 w1:zA)(h:wp 116 (t116 A0 A1 A2 A3 A4 A5 A6 A7 A8 p1 w0 w1) m Q):Wf 116 [.agg [.int .u8 A0,.str A1,.int .u8 A2,.bool A3,A4,.bool A5,A6,.int .i64 A7,A8],.int .i64 p1,w0,w1] m Q:=rC ok116 h
def ztu(v1:Int)(v3 v18:zA)(v19 v20:Int):T:=
 .ite (iB v20 v19)
 (.opt (zB yA 48 v18 (.int .i64 v20)) fun a0=>.light (fun m=>mA yA 50 ⟨0,m⟩ a0) fun a1=>.asG uJ a1 fun X2=>
 .ite (bB zA.one [.int .u8 (X2.i 0),.str (X2.s 1),.int .u8 (X2.i 2),.bool (X2.b 3),X2.v 4,.bool (X2.b 5),X2.v 6,.int .i64 (X2.i 7),X2.v 8]) (.light (fun m=>mA yA 73 ⟨0,m⟩ v3) fun a3=>.callv a3 [(.agg [.int .u8 (X2.i 0),.str (X2.s 1),.int .u8 (X2.i 2),.bool (X2.b 3),X2.v 4,.bool (X2.b 5),X2.v 6,.int .i64 (X2.i 7),X2.v 8]),(.int .i64 (vA .i64 (v1+1)))] fun a4=>
 .asB a4 fun b5=>.ite (!b5)
 (.ret (.bool false))
 (.jump 2 [.int .i64 v1,v3,v18,.int .i64 v19,(.int .i64 (vA .i64 (v20+1)))])) .fail)
 (.ret (.bool true))
theorem z3u(v1:Int)(v3 v18:zA)(v19 v20:Int)(h:wp 116 (ztu v1 v3 v18 v19 v20) m Q):jp 116 2 [.int .i64 v1,v3,v18,.int .i64 v19,.int .i64 v20] m Q:=iD ok116 h
def t117 (p0 p1:zA):T:=
 .opt (uB p0) fun a0=>.asI .i64 a0 fun n1=>.jump 2 [p0,p1,(.int .i64 (vA .i64 (n1-1)))]
theorem w117(p0 p1:zA)(h:wp 117 (t117 p0 p1) m Q):Wf 117 [p0,p1] m Q:=rC ok117 h
def znt(v0 v1:zA)(v5:Int):T:=
 .ite (iB 0 v5)
 (.opt (zB yA 80 v0 (.int .i64 v5)) fun a0=>.light (fun m=>mA yA 85 ⟨0,m⟩ a0) fun a1=>.asG zz4z a1 fun X2=>
 .opt (zB yA 80 v0 (.int .i64 (vA .i64 (v5-1)))) fun a3=>.light (fun m=>mA yA 85 ⟨0,m⟩ a3) fun a4=>.asG zz4z a4 fun X5=>
 .callv v1 [(.agg [.int .i64 (X2.i 0),.int .i64 (X2.i 1),.int .i64 (X2.i 2),.bool (X2.b 3),X2.v 4,.bool (X2.b 5),X2.v 6]),(.agg [.int .i64 (X5.i 0),.int .i64 (X5.i 1),.int .i64 (X5.i 2),.bool (X5.b 3),X5.v 4,.bool (X5.b 5),X5.v 6])] fun a6=>
 .asI .i64 a6 fun n7=>.ite (iB n7 0)
 (.ret (.bool false))
 (.jump 2 [v0,v1,(.int .i64 (vA .i64 (v5-1)))]))
 (.ret (.bool true))
theorem zwr(v0 v1:zA)(v5:Int)(h:wp 117 (znt v0 v1 v5) m Q):jp 117 2 [v0,v1,.int .i64 v5] m Q:=iD ok117 h
def t118 (A0 A1 A2:Int)(A3:Bool)(A4:zA)(A5:Bool)(A6:zA)(A7 A8 A9:Int)(B0:Bool)(B1:zA)(B2:Bool)(B3:zA):T:=
 .call 184 [.int .i64 A0,.int .i64 A7] fun a0=>
 .asI .i64 a0 fun n1=>.ite (same 10 (.int .i64 A1) (.int .i64 A1)) (.ite (same 10 (.int .i64 A8) (.int .i64 A8)) (.ite (same 10 (.int .i64 A2) (.int .i64 A2)) (.ite (same 10 (.int .i64 A9) (.int .i64 A9)) (.call 184 [.int .i64 A1,.int .i64 A8] fun a2=>
 .asI .i64 a2 fun n3=>.ite (same 10 (.int .i64 A2) (.int .i64 A2)) (.ite (same 10 (.int .i64 A9) (.int .i64 A9)) (.call 184 [.int .i64 A2,.int .i64 A9] fun a4=>
 .asI .i64 a4 fun n5=>.heavy (oF yA 105 3 [(0,(.int .i64 n1)),(1,(.int .i64 n3)),(2,(.int .i64 n5))]) fun a6=>
 .call 183 [a6] fun a7=>
 .asI .i64 a7 fun n8=>.ret (.int .i64 n8)) .fail) .fail) .fail) .fail) .fail) .fail
theorem w118(A0 A1 A2:Int)(A3:Bool)(A4:zA)(A5:Bool)(A6:zA)(A7 A8 A9:Int)(B0:Bool)(B1:zA)(B2:Bool)(B3:zA)(h:wp 118 (t118 A0 A1 A2 A3 A4 A5 A6 A7 A8 A9 B0 B1 B2 B3) m Q):Wf 118 [.agg [.int .i64 A0,.int .i64 A1,.int .i64 A2,.bool A3,A4,.bool A5,A6],.agg [.int .i64 A7,.int .i64 A8,.int .i64 A9,.bool B0,B1,.bool B2,B3]] m Q:=rC ok118 h
def t119 (p0 p1:zA):T:=
 .call 185 [p0,p1] fun a0=>
 .asI .i64 a0 fun n1=>.ret (.bool (sC 0 n1))
theorem w119(p0 p1:zA)(h:wp 119 (t119 p0 p1) m Q):Wf 119 [p0,p1] m Q:=rC ok119 h
def t120 (A0 A1 A2:Int)(A3:Bool)(A4:zA)(A5:Bool)(A6 w0:zA):T:=
 .opt (pB yA 82 1 w0) fun a0=>.light (fun m=>mA yA 4 ⟨0,m⟩ a0) fun a1=>.asB a1 fun b2=>.call 121 [.bool b2,.agg [.int .i64 A0,.int .i64 A1,.int .i64 A2,.bool A3,A4,.bool A5,A6]] fun a3=>
 .asB a3 fun b4=>.ret (.bool (!b4))
theorem w120(A0 A1 A2:Int)(A3:Bool)(A4:zA)(A5:Bool)(A6 w0:zA)(h:wp 120 (t120 A0 A1 A2 A3 A4 A5 A6 w0) m Q):Wf 120 [.agg [.int .i64 A0,.int .i64 A1,.int .i64 A2,.bool A3,A4,.bool A5,A6],w0] m Q:=rC ok120 h
def t121 (p0:Bool)(A0 A1 A2:Int)(A3:Bool)(A4:zA)(A5:Bool)(A6:zA):T:=
 .ite true (.jump 2 [.bool p0,.agg [.int .i64 A0,.int .i64 A1],.int .i64 0,.int .i64 A0,.int .i64 A1,.int .i64 A2,.bool A3,A4,.bool A5,A6]) .fail
theorem w121(p0:Bool)(A0 A1 A2:Int)(A3:Bool)(A4:zA)(A5:Bool)(A6:zA)(h:wp 121 (t121 p0 A0 A1 A2 A3 A4 A5 A6) m Q):Wf 121 [.bool p0,.agg [.int .i64 A0,.int .i64 A1,.int .i64 A2,.bool A3,A4,.bool A5,A6]] m Q:=rC ok121 h
def zns(v0:Bool)(A0 A1 v12 A2 A3 A4:Int)(A5:Bool)(A6:zA)(A7:Bool)(A8:zA):T:=
 .ite (iB v12 2)
 (.opt (aN yA 236 (.agg [.int .i64 A0,.int .i64 A1]) (.int .i64 v12)) fun a0=>.asI .i64 a0 fun n1=>.ite (iB n1 (-2147483648))
 (.ret (.bool false))
 (.ite (iB 2147483647 n1)
 (.ret (.bool false))
 (.jump 2 [.bool v0,.agg [.int .i64 A0,.int .i64 A1],(.int .i64 (vA .i64 (v12+1))),.int .i64 A2,.int .i64 A3,.int .i64 A4,.bool A5,A6,.bool A7,A8])))
 (.ite v0
 (.ite (sC 0 A4)
 (.ite (iB A4 65536)
 (.call 54 [.agg [.bool A5,A6,.bool A7,A8]] fun a2=>
 .asB a2 fun b3=>.ret (.bool b3))
 (.ret (.bool false)))
 (.ret (.bool false)))
 (.ite (wA A3 0)
 (.ite (sC 0 A4)
 (.ite (iB A4 65536)
 (.call 54 [.agg [.bool A5,A6,.bool A7,A8]] fun a4=>
 .asB a4 fun b5=>.ret (.bool b5))
 (.ret (.bool false)))
 (.ret (.bool false)))
 (.ret (.bool false))))
theorem zwq(v0:Bool)(A0 A1 v12 A2 A3 A4:Int)(A5:Bool)(A6:zA)(A7:Bool)(A8:zA)(h:wp 121 (zns v0 A0 A1 v12 A2 A3 A4 A5 A6 A7 A8) m Q):jp 121 2 [.bool v0,.agg [.int .i64 A0,.int .i64 A1],.int .i64 v12,.int .i64 A2,.int .i64 A3,.int .i64 A4,.bool A5,A6,.bool A7,A8] m Q:=iD ok121 h
def t167 (A0:Int)(A1:List Nat)(A2:Int)(A3:Bool)(A4:zA)(A5:Bool)(A6:zA)(A7:Int)(A8:zA):T:=
 .ite (wA A0 1)
 (.call 25 [.agg [.int .u8 A2,.bool A3,A4,.bool A5,A6,.int .i64 A7]] fun a0=>
 .asB a0 fun b1=>.ite (!b1)
 (.ret (.bool false))
 (.call 181 [.int .u8 A0] fun a2=>
 .opt (vC 0 a2) fun a3=>.asI .i64 a3 fun n4=>.opt (vC 1 a2) fun a5=>.asI .i64 a5 fun n6=>.opt (uB A8) fun a7=>.asI .i64 a7 fun n8=>.ite (sC n4 n8)
 (.opt (uB A8) fun a9=>.asI .i64 a9 fun n10=>.ret (.bool (sC n10 n6)))
 (.ret (.bool false))))
 (.call 181 [.int .u8 A0] fun bC=>
 .opt (vC 0 bC) fun a12=>.asI .i64 a12 fun n13=>.opt (vC 1 bC) fun a14=>.asI .i64 a14 fun n15=>.opt (uB A8) fun mG=>.asI .i64 mG fun n17=>.ite (sC n13 n17)
 (.opt (uB A8) fun a18=>.asI .i64 a18 fun n19=>.ret (.bool (sC n19 n15)))
 (.ret (.bool false)))
theorem w167(A0:Int)(A1:List Nat)(A2:Int)(A3:Bool)(A4:zA)(A5:Bool)(A6:zA)(A7:Int)(A8:zA)(h:wp 167 (t167 A0 A1 A2 A3 A4 A5 A6 A7 A8) m Q):Wf 167 [.agg [.int .u8 A0,.str A1,.int .u8 A2,.bool A3,A4,.bool A5,A6,.int .i64 A7,A8]] m Q:=rC ok167 h
def t168 (p0:zA)(p1 p2 p3:Int):T:=
 .heavy (zsj p0) fun a0=>
 .light (fun m=>mA yA 106 ⟨0,m⟩ a0) fun a1=>.opt (fG a1) fun a2=>.opt (pB yA 109 3 a2) fun a3=>.light (fun m=>mA yA 37 ⟨0,m⟩ a3) fun a4=>.opt (uB a4) fun a5=>.asI .i64 a5 fun n6=>.heavy (sM yA 3) fun a7=>
 .heavy (xE yA 3 a7 (.int .i64 n6)) fun _=>
 .light (fun m=>mA yA 106 ⟨0,m⟩ a0) fun a8=>.light (fun m=>mA yA 106 ⟨0,m⟩ a0) fun a9=>.opt (fG a9) fun a10=>.opt (pB yA 109 3 a10) fun bC=>.light (fun m=>mA yA 37 ⟨0,m⟩ bC) fun a12=>.ite true (.heavy (oF yA 37 1 [(0,(.agg [.int .u8 p1,.int .i64 p2,.int .i64 p3]))]) fun fE=>
 .light (fun m=>mA yA 106 ⟨0,m⟩ a0) fun a14=>.ite (same 10 a14 a8) (.light (fun m=>mA yA 106 ⟨0,m⟩ a0) fun a15=>.ite (same 10 a15 a9) (.light (fun m=>mA yA 37 ⟨0,m⟩ bC) fun mG=>.ite (same 10 mG a12) (.heavy (eE yA 37 37 a12 fE) fun a17=>
 .light (fun m=>mA yA 106 ⟨0,m⟩ a0) fun a18=>.ite (same 10 a18 a8) (.opt (fG a8) fun a19=>.opt (pB yA 109 3 a19) fun a20=>.heavy (xE yA 37 a20 a17) fun _=>
 .ret (.func (.func 232) [] [a0,a7])) .fail) .fail) .fail) .fail) .fail
theorem w168(p0:zA)(p1 p2 p3:Int)(h:wp 168 (t168 p0 p1 p2 p3) m Q):Wf 168 [p0,.int .u8 p1,.int .i64 p2,.int .i64 p3] m Q:=rC ok168 h
def t169 (p0:zA)(A0:Int)(A1:List Nat)(A2:Int)(A3:Bool)(A4:zA)(A5:Bool)(A6:zA)(A7:Int)(A8:zA)(p2 A9:Int)(B0:Bool)(B1:zA)(B2:Bool)(B3:zA)(B4:Int):T:=
 .opt (zB yA 48 A8 (.int .i64 0)) fun a0=>.light (fun m=>mA yA 50 ⟨0,m⟩ a0) fun a1=>.asG uJ a1 fun X2=>
 .call 104 [p0,(.agg [.int .u8 (X2.i 0),.str (X2.s 1),.int .u8 (X2.i 2),.bool (X2.b 3),X2.v 4,.bool (X2.b 5),X2.v 6,.int .i64 (X2.i 7),X2.v 8])] fun a3=>
 .call 168 [p0,.int .u8 p2,.int .i64 0,.int .i64 0] fun a4=>
 .opt (zB yA 48 A8 (.int .i64 1)) fun a5=>.light (fun m=>mA yA 50 ⟨0,m⟩ a5) fun a6=>.asG uJ a6 fun X7=>
 .call 104 [p0,(.agg [.int .u8 (X7.i 0),.str (X7.s 1),.int .u8 (X7.i 2),.bool (X7.b 3),X7.v 4,.bool (X7.b 5),X7.v 6,.int .i64 (X7.i 7),X7.v 8])] fun a8=>
 .call 168 [p0,.int .u8 12,.int .i64 0,.int .i64 0] fun a9=>
 .call 168 [p0,.int .u8 9,.int .i64 0,.int .i64 0] fun a10=>
 .callv a4 [] fun bC=>
 .call 233 [p0,.agg [.int .u8 A9,.bool B0,B1,.bool B2,B3,.int .i64 B4]] fun a12=>
 .asI .i64 a12 fun n13=>.call 168 [p0,.int .u8 1,.int .i64 n13,.int .i64 0] fun a14=>
 .callv a10 [] fun a15=>
 .ret (.tup [])
theorem w169(p0:zA)(A0:Int)(A1:List Nat)(A2:Int)(A3:Bool)(A4:zA)(A5:Bool)(A6:zA)(A7:Int)(A8:zA)(p2 A9:Int)(B0:Bool)(B1:zA)(B2:Bool)(B3:zA)(B4:Int)(h:wp 169 (t169 p0 A0 A1 A2 A3 A4 A5 A6 A7 A8 p2 A9 B0 B1 B2 B3 B4) m Q):Wf 169 [p0,.agg [.int .u8 A0,.str A1,.int .u8 A2,.bool A3,A4,.bool A5,A6,.int .i64 A7,A8],.int .u8 p2,.agg [.int .u8 A9,.bool B0,B1,.bool B2,B3,.int .i64 B4]] m Q:=rC ok169 h
def t170 (p0:zA)(A0:Int)(A1:List Nat)(A2:Int)(A3:Bool)(A4:zA)(A5:Bool)(A6:zA)(A7:Int)(A8:zA):T:=
 .ite (wA A0 1)
 (.call 233 [p0,.agg [.int .u8 A2,.bool A3,A4,.bool A5,A6,.int .i64 A7]] fun a0=>
 .asI .i64 a0 fun n1=>.call 168 [p0,.int .u8 1,.int .i64 n1,.int .i64 0] fun a2=>
 .ret (.tup []))
 (.ite (wA A0 2)
 (.call 168 [p0,.int .u8 2,.int .i64 0,.int .i64 0] fun a3=>
 .ret (.tup []))
 (.ite (wA A0 3)
 (.call 234 [p0,.str A1] fun a4=>
 .asI .i64 a4 fun n5=>.call 168 [p0,.int .u8 3,.int .i64 n5,.int .i64 0] fun a6=>
 .ret (.tup []))
 (.ite (wA A0 4)
 (.call 234 [p0,.str A1] fun a7=>
 .asI .i64 a7 fun n8=>.call 168 [p0,.int .u8 4,.int .i64 n8,.int .i64 0] fun a9=>
 .ret (.tup []))
 (.ite (wA A0 5)
 (.call 234 [p0,.str A1] fun a10=>
 .asI .i64 a10 fun n11=>.call 168 [p0,.int .u8 5,.int .i64 n11,.int .i64 0] fun a12=>
 .ret (.tup []))
 (.ite (wA A0 6)
 (.opt (uB A8) fun fE=>.asI .i64 fE fun n14=>.call 234 [p0,.str A1] fun a15=>
 .asI .i64 a15 fun n16=>.ite (same 10 A8 A8) (.opt (uB A8) fun a17=>.ite (same 10 a17 (.int .i64 n14)) (.call 168 [p0,.int .u8 6,.int .i64 n16,.int .i64 n14] fun a18=>
 .ret (.tup [])) .fail) .fail)
 (.ite (wA A0 21)
 (.ite (wA A0 21)
 (.call 234 [p0,.str A1] fun a19=>
 .asI .i64 a19 fun n20=>.ite (same 10 (.int .u8 A0) (.int .u8 A0)) (.ite (same 10 (.int .i64 (vA .i64 A0)) (.int .i64 (vA .i64 A0))) (.call 168 [p0,.int .u8 8,.int .i64 n20,(.int .i64 (vA .i64 A0))] fun a21=>
 .ret (.tup [])) .fail) .fail)
 (.ite (wA A0 19)
 (.call 168 [p0,.int .u8 7,(.int .i64 (vA .i64 A0)),.int .i64 A7] fun a22=>
 .ret (.tup []))
 (.call 168 [p0,.int .u8 7,(.int .i64 (vA .i64 A0)),.int .i64 0] fun a23=>
 .ret (.tup []))))
 (.ite (wA A0 23)
 (.ite (wA A0 23)
 (.call 234 [p0,.str A1] fun a24=>
 .asI .i64 a24 fun n25=>.ite (same 10 (.int .u8 A0) (.int .u8 A0)) (.ite (same 10 (.int .i64 (vA .i64 A0)) (.int .i64 (vA .i64 A0))) (.call 168 [p0,.int .u8 8,.int .i64 n25,(.int .i64 (vA .i64 A0))] fun a26=>
 .ret (.tup [])) .fail) .fail)
 (.ite (wA A0 19)
 (.call 168 [p0,.int .u8 7,(.int .i64 (vA .i64 A0)),.int .i64 A7] fun a27=>
 .ret (.tup []))
 (.call 168 [p0,.int .u8 7,(.int .i64 (vA .i64 A0)),.int .i64 0] fun a28=>
 .ret (.tup []))))
 (.ite (wA A0 22)
 (.call 234 [p0,.str A1] fun a29=>
 .asI .i64 a29 fun n30=>.ite (same 10 (.int .u8 A0) (.int .u8 A0)) (.ite (same 10 (.int .i64 (vA .i64 A0)) (.int .i64 (vA .i64 A0))) (.call 168 [p0,.int .u8 8,.int .i64 n30,(.int .i64 (vA .i64 A0))] fun a31=>
 .ret (.tup [])) .fail) .fail)
 (.ite (wA A0 19)
 (.call 168 [p0,.int .u8 7,(.int .i64 (vA .i64 A0)),.int .i64 A7] fun a32=>
 .ret (.tup []))
 (.call 168 [p0,.int .u8 7,(.int .i64 (vA .i64 A0)),.int .i64 0] fun a33=>
 .ret (.tup [])))))))))))
theorem w170(p0:zA)(A0:Int)(A1:List Nat)(A2:Int)(A3:Bool)(A4:zA)(A5:Bool)(A6:zA)(A7:Int)(A8:zA)(h:wp 170 (t170 p0 A0 A1 A2 A3 A4 A5 A6 A7 A8) m Q):Wf 170 [p0,.agg [.int .u8 A0,.str A1,.int .u8 A2,.bool A3,A4,.bool A5,A6,.int .i64 A7,A8]] m Q:=rC ok170 h
def t171 (p0 p1:zA):T:=
 .opt (uB p0) fun a0=>.asI .i64 a0 fun n1=>.opt (uB p1) fun a2=>.asI .i64 a2 fun n3=>.ite (!wA n1 n3)
 (.ret (.bool false))
 (.opt (uB p0) fun a4=>.asI .i64 a4 fun n5=>.jump 2 [p0,p1,.int .i64 n5,.int .i64 0])
theorem w171(p0 p1:zA)(h:wp 171 (t171 p0 p1) m Q):Wf 171 [p0,p1] m Q:=rC ok171 h
def ztr(v0 v1:zA)(v12 v13:Int):T:=
 .ite (iB v13 v12)
 (.opt (zB yA 41 v0 (.int .i64 v13)) fun a0=>.light (fun m=>mA yA 227 ⟨0,m⟩ a0) fun a1=>.asI .u16 a1 fun n2=>.opt (zB yA 41 v1 (.int .i64 v13)) fun a3=>.light (fun m=>mA yA 227 ⟨0,m⟩ a3) fun a4=>.asI .u16 a4 fun n5=>.ite (!wA n2 n5)
 (.ret (.bool false))
 (.jump 2 [v0,v1,.int .i64 v12,(.int .i64 (vA .i64 (v13+1)))]))
 (.ret (.bool true))
theorem z3r(v0 v1:zA)(v12 v13:Int)(h:wp 171 (ztr v0 v1 v12 v13) m Q):jp 171 2 [v0,v1,.int .i64 v12,.int .i64 v13] m Q:=iD ok171 h
def t172 (A0:Bool)(A1:zA)(A2:Bool)(A3:zA):T:=
 .opt (uB A1) fun a0=>.asI .i64 a0 fun n1=>.ite (iB 256 n1)
 (.ret (.bool true))
 (.opt (uB A3) fun a2=>.asI .i64 a2 fun n3=>.ret (.bool (iB 256 n3)))
theorem w172(A0:Bool)(A1:zA)(A2:Bool)(A3:zA)(h:wp 172 (t172 A0 A1 A2 A3) m Q):Wf 172 [.agg [.bool A0,A1,.bool A2,A3]] m Q:=rC ok172 h
def t173 (A0:Bool)(A1:zA):T:=
 .opt (uB A1) fun a0=>.asI .i64 a0 fun n1=>.ite (wA n1 0)
 (.ret (.bool (!A0)))
 (.ite (sC n1 1024)
 (.opt (zB yA 41 A1 (.int .i64 (vA .i64 (n1-1)))) fun a2=>.light (fun m=>mA yA 227 ⟨0,m⟩ a2) fun a3=>.asI .u16 a3 fun n4=>.ret (.bool (!wA n4 0)))
 (.ret (.bool false)))
theorem w173(A0:Bool)(A1:zA)(h:wp 173 (t173 A0 A1) m Q):Wf 173 [.agg [.bool A0,A1]] m Q:=rC ok173 h
def t174 (A0:Bool)(A1:zA)(A2:Bool)(A3:zA):T:=
 .call 175 [.agg [.bool A2,A3]] fun a0=>
 .asB a0 fun b1=>.ret (.bool b1)
theorem w174(A0:Bool)(A1:zA)(A2:Bool)(A3:zA)(h:wp 174 (t174 A0 A1 A2 A3) m Q):Wf 174 [.agg [.bool A0,A1,.bool A2,A3]] m Q:=rC ok174 h
def t175 (A0:Bool)(A1:zA):T:=
 .ite (!A0)
 (.opt (uB A1) fun a0=>.asI .i64 a0 fun n1=>.ite (wA n1 1)
 (.opt (zB yA 41 A1 (.int .i64 0)) fun a2=>.light (fun m=>mA yA 227 ⟨0,m⟩ a2) fun a3=>.asI .u16 a3 fun n4=>.ret (.bool (wA n4 1)))
 (.ret (.bool false)))
 (.ret (.bool false))
theorem w175(A0:Bool)(A1:zA)(h:wp 175 (t175 A0 A1) m Q):Wf 175 [.agg [.bool A0,A1]] m Q:=rC ok175 h
def t176 (A0:Bool)(A1:zA)(A2:Bool)(A3:zA):T:=
 .call 235 [.agg [.bool A0,A1],.agg [.bool A2,A3]] fun a0=>
 .opt (vC 0 a0) fun a1=>.asG zz3z a1 fun X2=>
 .opt (vC 1 a0) fun a3=>.asI .i64 a3 fun n4=>.ite (bB zA.one [.bool (X2.b 0),X2.v 1]) (.ite (bB zA.one [.bool (X2.b 0),X2.v 1]) (.ret (.agg [.bool (X2.b 0),X2.v 1])) .fail) .fail
theorem w176(A0:Bool)(A1:zA)(A2:Bool)(A3:zA)(h:wp 176 (t176 A0 A1 A2 A3) m Q):Wf 176 [.agg [.bool A0,A1],.agg [.bool A2,A3]] m Q:=rC ok176 h
def t179 (p0:Int):T:=
 .ite (sC 7 p0)
 (.ite (sC p0 14)
 (.ret (.bool true))
 (.ite (wA p0 17)
 (.ret (.bool true))
 (.ite (wA p0 19)
 (.ret (.bool true))
 (.ite (wA p0 20)
 (.ret (.bool true))
 (.ite (sC 24 p0)
 (.ret (.bool (sC p0 26)))
 (.ret (.bool false)))))))
 (.ite (wA p0 17)
 (.ret (.bool true))
 (.ite (wA p0 19)
 (.ret (.bool true))
 (.ite (wA p0 20)
 (.ret (.bool true))
 (.ite (sC 24 p0)
 (.ret (.bool (sC p0 26)))
 (.ret (.bool false))))))
theorem w179(p0:Int)(h:wp 179 (t179 p0) m Q):Wf 179 [.int .i64 p0] m Q:=rC ok179 h
def t180 (p0:Int):T:=
 .ite (sC 21 p0)
 (.ret (.bool (sC p0 23)))
 (.ret (.bool false))
theorem w180(p0:Int)(h:wp 180 (t180 p0) m Q):Wf 180 [.int .i64 p0] m Q:=rC ok180 h
def t181 (p0:Int):T:=
 .ite (wA p0 1)
 (.ite (wA p0 1)
 (.ret (.tup [.int .i64 0,.int .i64 0]))
 (.ite (wA p0 5)
 (.ret (.tup [.int .i64 1,.int .i64 1]))
 (.ite (wA p0 6)
 (.ret (.tup [.int .i64 1,.int .i64 2]))
 (.ite (wA p0 15)
 (.ite (wA p0 15)
 (.ret (.tup [.int .i64 2,.int .i64 2]))
 (.ite (wA p0 18)
 (.ret (.tup [.int .i64 3,.int .i64 3]))
 (.ite (sC 27 (vA .i64 p0))
 (.ret (.tup [.int .i64 1,.int .i64 0]))
 (.opt (zB yA 273 (.ptr 0 0) (.int .u8 p0)) fun a0=>.light (fun m=>mA yA 9 ⟨0,m⟩ a0) fun a1=>.asS a1 fun s2=>.ite (eI s2 [])
 (.ret (.tup [.int .i64 1,.int .i64 0]))
 (.opt (zB yA 273 (.ptr 0 0) (.int .u8 p0)) fun a3=>.light (fun m=>mA yA 9 ⟨0,m⟩ a3) fun a4=>.asS a4 fun s5=>.call 238 [.str s5,.str [32]] fun a6=>
 .opt (vC 0 a6) fun a7=>.asS a7 fun s8=>.opt (vC 1 a6) fun a9=>.asS a9 fun s10=>.opt (vC 2 a6) fun bC=>.asB bC fun b12=>.ret (.tup [(.int .i64 (Int.ofNat (wB s8))),(.int .i64 (Int.ofNat (wB s8)))]))))))
 (.ite (wA p0 16)
 (.ret (.tup [.int .i64 2,.int .i64 2]))
 (.ite (wA p0 18)
 (.ret (.tup [.int .i64 3,.int .i64 3]))
 (.ite (sC 27 (vA .i64 p0))
 (.ret (.tup [.int .i64 1,.int .i64 0]))
 (.opt (zB yA 273 (.ptr 0 0) (.int .u8 p0)) fun fE=>.light (fun m=>mA yA 9 ⟨0,m⟩ fE) fun a14=>.asS a14 fun s15=>.ite (eI s15 [])
 (.ret (.tup [.int .i64 1,.int .i64 0]))
 (.opt (zB yA 273 (.ptr 0 0) (.int .u8 p0)) fun mG=>.light (fun m=>mA yA 9 ⟨0,m⟩ mG) fun a17=>.asS a17 fun s18=>.call 238 [.str s18,.str [32]] fun a19=>
 .opt (vC 0 a19) fun a20=>.asS a20 fun s21=>.opt (vC 1 a19) fun a22=>.asS a22 fun s23=>.opt (vC 2 a19) fun a24=>.asB a24 fun b25=>.ret (.tup [(.int .i64 (Int.ofNat (wB s21))),(.int .i64 (Int.ofNat (wB s21)))]))))))))))
 (.ite (wA p0 2)
 (.ret (.tup [.int .i64 0,.int .i64 0]))
 (.ite (wA p0 5)
 (.ret (.tup [.int .i64 1,.int .i64 1]))
 (.ite (wA p0 6)
 (.ret (.tup [.int .i64 1,.int .i64 2]))
 (.ite (wA p0 15)
 (.ite (wA p0 15)
 (.ret (.tup [.int .i64 2,.int .i64 2]))
 (.ite (wA p0 18)
 (.ret (.tup [.int .i64 3,.int .i64 3]))
 (.ite (sC 27 (vA .i64 p0))
 (.ret (.tup [.int .i64 1,.int .i64 0]))
 (.opt (zB yA 273 (.ptr 0 0) (.int .u8 p0)) fun a26=>.light (fun m=>mA yA 9 ⟨0,m⟩ a26) fun a27=>.asS a27 fun s28=>.ite (eI s28 [])
 (.ret (.tup [.int .i64 1,.int .i64 0]))
 (.opt (zB yA 273 (.ptr 0 0) (.int .u8 p0)) fun a29=>.light (fun m=>mA yA 9 ⟨0,m⟩ a29) fun a30=>.asS a30 fun s31=>.call 238 [.str s31,.str [32]] fun a32=>
 .opt (vC 0 a32) fun a33=>.asS a33 fun s34=>.opt (vC 1 a32) fun a35=>.asS a35 fun s36=>.opt (vC 2 a32) fun a37=>.asB a37 fun b38=>.ret (.tup [(.int .i64 (Int.ofNat (wB s34))),(.int .i64 (Int.ofNat (wB s34)))]))))))
 (.ite (wA p0 16)
 (.ret (.tup [.int .i64 2,.int .i64 2]))
 (.ite (wA p0 18)
 (.ret (.tup [.int .i64 3,.int .i64 3]))
 (.ite (sC 27 (vA .i64 p0))
 (.ret (.tup [.int .i64 1,.int .i64 0]))
 (.opt (zB yA 273 (.ptr 0 0) (.int .u8 p0)) fun a39=>.light (fun m=>mA yA 9 ⟨0,m⟩ a39) fun a40=>.asS a40 fun s41=>.ite (eI s41 [])
 (.ret (.tup [.int .i64 1,.int .i64 0]))
 (.opt (zB yA 273 (.ptr 0 0) (.int .u8 p0)) fun a42=>.light (fun m=>mA yA 9 ⟨0,m⟩ a42) fun a43=>.asS a43 fun s44=>.call 238 [.str s44,.str [32]] fun a45=>
 .opt (vC 0 a45) fun a46=>.asS a46 fun s47=>.opt (vC 1 a45) fun a48=>.asS a48 fun s49=>.opt (vC 2 a45) fun a50=>.asB a50 fun b51=>.ret (.tup [(.int .i64 (Int.ofNat (wB s47))),(.int .i64 (Int.ofNat (wB s47)))]))))))))))
theorem w181(p0:Int)(h:wp 181 (t181 p0) m Q):Wf 181 [.int .u8 p0] m Q:=rC ok181 h
def t182 (A0:Bool)(A1:zA)(A2:Bool)(A3:zA):T:=
 .ite (bEq A0 A2)
 (.call 239 [A1,A3] fun a0=>
 .asB a0 fun b1=>.ret (.bool b1))
 (.ret (.bool false))
theorem w182(A0:Bool)(A1:zA)(A2:Bool)(A3:zA)(h:wp 182 (t182 A0 A1 A2 A3) m Q):Wf 182 [.agg [.bool A0,A1],.agg [.bool A2,A3]] m Q:=rC ok182 h
def t183 (p0:zA):T:=
 .opt (uB p0) fun a0=>.asI .i64 a0 fun n1=>.jump 2 [.int .i64 0,p0,.int .i64 n1,.int .i64 0]
theorem w183(p0:zA)(h:wp 183 (t183 p0) m Q):Wf 183 [p0] m Q:=rC ok183 h
def ztq(v3:Int)(v6:zA)(v7 v8:Int):T:=
 .ite (iB v8 v7)
 (.opt (zB yA 105 v6 (.int .i64 v8)) fun a0=>.light (fun m=>mA yA 3 ⟨0,m⟩ a0) fun a1=>.asI .i64 a1 fun n2=>.ite (!wA n2 v3)
 (.ret (.int .i64 n2))
 (.jump 2 [.int .i64 v3,v6,.int .i64 v7,(.int .i64 (vA .i64 (v8+1)))]))
 (.ret (.int .i64 v3))
theorem z3q(v3:Int)(v6:zA)(v7 v8:Int)(h:wp 183 (ztq v3 v6 v7 v8) m Q):jp 183 2 [.int .i64 v3,v6,.int .i64 v7,.int .i64 v8] m Q:=iD ok183 h
def t184 (p0 p1:Int):T:=
 .call 240 [.int .i64 p0] fun a0=>
 .asB a0 fun b1=>.call 240 [.int .i64 p1] fun a2=>
 .asB a2 fun b3=>.ite b1
 (.ite b3
 (.ret (.int .i64 0))
 (.ret (.int .i64 (-1))))
 (.ite b3
 (.ret (.int .i64 1))
 (.ite (iB p0 p1)
 (.ret (.int .i64 (-1)))
 (.ite (iB p1 p0)
 (.ret (.int .i64 1))
 (.ret (.int .i64 0)))))
theorem w184(p0 p1:Int)(h:wp 184 (t184 p0 p1) m Q):Wf 184 [.int .i64 p0,.int .i64 p1] m Q:=rC ok184 h
def t185 (p0 p1:zA):T:=
 .opt (uB p0) fun a0=>.asI .i64 a0 fun n1=>.jump 2 [p0,p1,.int .i64 n1,.int .i64 0]
theorem w185(p0 p1:zA)(h:wp 185 (t185 p0 p1) m Q):Wf 185 [p0,p1] m Q:=rC ok185 h
def ztp(v0 v1:zA)(v7 v8:Int):T:=
 .ite (iB v8 v7)
 (.opt (zB yA 80 v0 (.int .i64 v8)) fun a0=>.light (fun m=>mA yA 85 ⟨0,m⟩ a0) fun a1=>.asG zz4z a1 fun X2=>
 .callv v1 [(.agg [.int .i64 (X2.i 0),.int .i64 (X2.i 1),.int .i64 (X2.i 2),.bool (X2.b 3),X2.v 4,.bool (X2.b 5),X2.v 6])] fun a3=>
 .asB a3 fun b4=>.ite b4
 (.ret (.int .i64 v8))
 (.jump 2 [v0,v1,.int .i64 v7,(.int .i64 (vA .i64 (v8+1)))]))
 (.ret (.int .i64 (-1)))
theorem z3p(v0 v1:zA)(v7 v8:Int)(h:wp 185 (ztp v0 v1 v7 v8) m Q):jp 185 2 [v0,v1,.int .i64 v7,.int .i64 v8] m Q:=iD ok185 h
def t232 (w0 w1:zA):T:=
 .light (fun m=>mA yA 106 ⟨0,m⟩ w0) fun a0=>.opt (fG a0) fun a1=>.opt (pB yA 109 3 a1) fun a2=>.light (fun m=>mA yA 37 ⟨0,m⟩ a2) fun a3=>.light (fun m=>mA yA 3 ⟨0,m⟩ w1) fun a4=>.asI .i64 a4 fun n5=>.light (fun m=>mA yA 106 ⟨0,m⟩ w0) fun a6=>.opt (fG a6) fun a7=>.opt (pB yA 109 3 a7) fun a8=>.light (fun m=>mA yA 37 ⟨0,m⟩ a8) fun a9=>.opt (uB a9) fun a10=>.asI .i64 a10 fun n11=>.opt (zB yA 37 a3 (.int .i64 n5)) fun a12=>.opt (pB yA 54 1 a12) fun fE=>.heavy (xE yA 3 fE (.int .i64 n11)) fun _=>
 .ret (.tup [])
theorem w232(w0 w1:zA)(h:wp 232 (t232 w0 w1) m Q):Wf 232 [w0,w1] m Q:=rC ok232 h
def t233 (p0:zA)(A0:Int)(A1:Bool)(A2:zA)(A3:Bool)(A4:zA)(A5:Int):T:=
 .opt (fG p0) fun a0=>.opt (pB yA 109 0 a0) fun a1=>.opt (pB yA 34 2 a1) fun a2=>.light (fun m=>mA yA 31 ⟨0,m⟩ a2) fun a3=>.opt (fG p0) fun a4=>.opt (pB yA 109 2 a4) fun a5=>.light (fun m=>mA yA 107 ⟨0,m⟩ a5) fun a6=>.call 276 [.agg [.int .u8 A0,.bool A1,A2,.bool A3,A4,.int .i64 A5]] fun a7=>
 .asS a7 fun s8=>.light (fun m=>mA yA 31 ⟨0,m⟩ a2) fun a9=>.ite (same 10 a9 a3) (.light (fun m=>mA yA 107 ⟨0,m⟩ a5) fun a10=>.ite (same 10 a10 a6) (.ite (same 10 (.agg [.int .u8 A0,.bool A1,A2,.bool A3,A4,.int .i64 A5]) (.agg [.int .u8 A0,.bool A1,A2,.bool A3,A4,.int .i64 A5])) (.call 102 [.agg [.int .u8 A0,.bool A1,A2,.bool A3,A4,.int .i64 A5]] fun bC=>
 .asG z2a bC fun X12=>
 .light (fun m=>mA yA 31 ⟨0,m⟩ a2) fun fE=>.ite (same 10 fE a3) (.light (fun m=>mA yA 107 ⟨0,m⟩ a5) fun a14=>.ite (same 10 a14 a6) (.call 275 [a3,a6,.str s8,(.agg [.int .u8 (X12.i 0),.bool (X12.b 1),X12.v 2,.bool (X12.b 3),X12.v 4,.int .i64 (X12.i 5)])] fun a15=>
 .opt (vC 0 a15) fun mG=>.opt (vC 1 a15) fun a17=>.asI .i64 a17 fun n18=>.opt (fG p0) fun a19=>.opt (pB yA 109 0 a19) fun a20=>.opt (pB yA 34 2 a20) fun a21=>.heavy (xE yA 31 a21 mG) fun _=>
 .ret (.int .i64 n18)) .fail) .fail) .fail) .fail) .fail
theorem w233(p0:zA)(A0:Int)(A1:Bool)(A2:zA)(A3:Bool)(A4:zA)(A5:Int)(h:wp 233 (t233 p0 A0 A1 A2 A3 A4 A5) m Q):Wf 233 [p0,.agg [.int .u8 A0,.bool A1,A2,.bool A3,A4,.int .i64 A5]] m Q:=rC ok233 h
def t234 (p0:zA)(p1:List Nat):T:=
 .opt (fG p0) fun a0=>.opt (pB yA 109 0 a0) fun a1=>.opt (pB yA 34 1 a1) fun a2=>.light (fun m=>mA yA 30 ⟨0,m⟩ a2) fun a3=>.opt (fG p0) fun a4=>.opt (pB yA 109 1 a4) fun a5=>.light (fun m=>mA yA 107 ⟨0,m⟩ a5) fun a6=>.call 277 [a3,a6,.str p1,.str p1] fun a7=>
 .opt (vC 0 a7) fun a8=>.opt (vC 1 a7) fun a9=>.asI .i64 a9 fun n10=>.opt (fG p0) fun bC=>.opt (pB yA 109 0 bC) fun a12=>.opt (pB yA 34 1 a12) fun fE=>.heavy (xE yA 30 fE a8) fun _=>
 .ret (.int .i64 n10)
theorem w234(p0:zA)(p1:List Nat)(h:wp 234 (t234 p0 p1) m Q):Wf 234 [p0,.str p1] m Q:=rC ok234 h
def t235 (A0:Bool)(A1:zA)(A2:Bool)(A3:zA):T:=
 .heavy (oF yA 326 2 [(0,(.agg [.bool A0,A1])),(1,(.agg [.bool A2,A3]))]) fun a0=>
 .call 278 [a0] fun a1=>
 .asB a1 fun b2=>.ite (!b2)
 (.ite true (.ite true (.ret (.tup [.agg [.bool false,.nilslice],.int .i64 2])) .fail) .fail)
 (.call 281 [A1] fun a3=>
 .ite (same 10 A3 A3) (.call 281 [A3] fun a4=>
 .call 280 [a3,a4] fun a5=>
 .call 279 [.bool false,a5] fun a6=>
 .asG zz3z a6 fun X7=>
 .ite (bB zA.one [.bool (X7.b 0),X7.v 1]) (.ret (.tup [(.agg [.bool (X7.b 0),X7.v 1]),.int .i64 0])) .fail) .fail)
theorem w235(A0:Bool)(A1:zA)(A2:Bool)(A3:zA)(h:wp 235 (t235 A0 A1 A2 A3) m Q):Wf 235 [.agg [.bool A0,A1],.agg [.bool A2,A3]] m Q:=rC ok235 h
def t239 (p0 p1:zA):T:=
 .opt (uB p0) fun a0=>.asI .i64 a0 fun n1=>.opt (uB p1) fun a2=>.asI .i64 a2 fun n3=>.ite (!wA n1 n3)
 (.ret (.bool false))
 (.jump 2 [p0,p1,.int .i64 0])
theorem w239(p0 p1:zA)(h:wp 239 (t239 p0 p1) m Q):Wf 239 [p0,p1] m Q:=rC ok239 h
def zto(v0 v1:zA)(v5:Int):T:=
 .opt (uB v0) fun a0=>.asI .i64 a0 fun n1=>.ite (iB v5 n1)
 (.opt (zB yA 41 v0 (.int .i64 v5)) fun a2=>.light (fun m=>mA yA 227 ⟨0,m⟩ a2) fun a3=>.asI .u16 a3 fun n4=>.opt (zB yA 41 v1 (.int .i64 v5)) fun a5=>.light (fun m=>mA yA 227 ⟨0,m⟩ a5) fun a6=>.asI .u16 a6 fun n7=>.ite (!wA n4 n7)
 (.ret (.bool false))
 (.jump 2 [v0,v1,(.int .i64 (vA .i64 (v5+1)))]))
 (.ret (.bool true))
theorem z3o(v0 v1:zA)(v5:Int)(h:wp 239 (zto v0 v1 v5) m Q):jp 239 2 [v0,v1,.int .i64 v5] m Q:=iD ok239 h
def t240 (p0:Int):T:=
 .ret (.bool (!wA p0 p0))
theorem w240(p0:Int)(h:wp 240 (t240 p0) m Q):Wf 240 [.int .i64 p0] m Q:=rC ok240 h
def t246 (p0:Bool):T:=
 .call 287 [.bool p0] fun a0=>
 .asS a0 fun s1=>.ret (.str s1)
theorem w246(p0:Bool)(h:wp 246 (t246 p0) m Q):Wf 246 [.bool p0] m Q:=rC ok246 h
def t275 (p0 p1:zA)(p2:List Nat)(A0:Int)(A1:Bool)(A2:zA)(A3:Bool)(A4:zA)(A5:Int):T:=
 .light (fun m=>cP yA 107 ⟨0,m⟩ p1 (.str p2) true) fun a0=>.opt (vC 0 a0) fun a1=>.asI .i64 a1 fun n2=>.opt (vC 1 a0) fun a3=>.asB a3 fun b4=>.ite (!b4)
 (.opt (uB p0) fun a5=>.asI .i64 a5 fun n6=>.heavy (tS yA 107 p1 (.str p2) (.int .i64 n6)) fun _=>
 .heavy (oF yA 31 1 [(0,(.agg [.int .u8 A0,.bool A1,A2,.bool A3,A4,.int .i64 A5]))]) fun a7=>
 .heavy (eE yA 31 31 p0 a7) fun a8=>
 .ret (.tup [a8,.int .i64 n6]))
 (.ret (.tup [p0,.int .i64 n2]))
theorem w275(p0 p1:zA)(p2:List Nat)(A0:Int)(A1:Bool)(A2:zA)(A3:Bool)(A4:zA)(A5:Int)(h:wp 275 (t275 p0 p1 p2 A0 A1 A2 A3 A4 A5) m Q):Wf 275 [p0,p1,.str p2,.agg [.int .u8 A0,.bool A1,A2,.bool A3,A4,.int .i64 A5]] m Q:=rC ok275 h
def t276 (A0:Int)(A1:Bool)(A2:zA)(A3:Bool)(A4:zA)(A5:Int):T:=
 .call 291 [(.int .i64 (vA .i64 A0))] fun a0=>
 .asS a0 fun s1=>.ite (same 10 (.int .i64 A5) (.int .i64 A5)) (.opt (zug s1 [44]) fun a2=>.asS a2 fun s3=>.call 291 [.int .i64 A5] fun a4=>
 .asS a4 fun s5=>.opt (zug s3 s5) fun a6=>.asS a6 fun s7=>.ite true (.jump 2 [.str s7,.agg [.bool A1,A2,.bool A3,A4],.int .i64 0]) .fail) .fail
theorem w276(A0:Int)(A1:Bool)(A2:zA)(A3:Bool)(A4:zA)(A5:Int)(h:wp 276 (t276 A0 A1 A2 A3 A4 A5) m Q):Wf 276 [.agg [.int .u8 A0,.bool A1,A2,.bool A3,A4,.int .i64 A5]] m Q:=rC z5m h
def ztn(v3:List Nat)(A0:Bool)(A1:zA)(A2:Bool)(A3:zA)(v25:Int):T:=
 .ite (iB v25 2)
 (.opt (aN yA 325 (.agg [.bool A0,A1,.bool A2,A3]) (.int .i64 v25)) fun a0=>.asG zz3z a0 fun X1=>
 .ite (bB zA.one [.bool (X1.b 0),X1.v 1]) (.opt (uB (X1.v 1)) fun a2=>.asI .i64 a2 fun n3=>.heavy (sL yA 188 (.int .i64 0) (.int .i64 (vA .i64 ((vA .i64 (2*n3))+1)))) fun a4=>
 .opt (uB (X1.v 1)) fun a5=>.asI .i64 a5 fun n6=>.jump 6 [.str v3,a4,.agg [.bool A0,A1,.bool A2,A3],.int .i64 v25,X1.v 1,.int .i64 n6,.int .i64 0,.bool (X1.b 0),X1.v 1]) .fail)
 (.ret (.str v3))
theorem z3n(v3:List Nat)(A0:Bool)(A1:zA)(A2:Bool)(A3:zA)(v25:Int)(h:wp 276 (ztn v3 A0 A1 A2 A3 v25) m Q):jp 276 2 [.str v3,.agg [.bool A0,A1,.bool A2,A3],.int .i64 v25] m Q:=iD z5m h
def ztm(v3:List Nat)(v6:zA)(A0:Bool)(A1:zA)(A2:Bool)(A3:zA)(v25:Int)(v35:zA)(v36 v37:Int)(A4:Bool)(A5:zA):T:=
 .ite (iB v37 v36)
 (.opt (zB yA 41 v35 (.int .i64 v37)) fun a0=>.light (fun m=>mA yA 227 ⟨0,m⟩ a0) fun a1=>.asI .u16 a1 fun n2=>.heavy (oF yA 188 2 [(0,(.int .u8 (vA .u8 (Int.fdiv n2 256)))),(1,(.int .u8 (vA .u8 n2)))]) fun a3=>
 .heavy (eE yA 188 188 v6 a3) fun a4=>
 .jump 6 [.str v3,a4,.agg [.bool A0,A1,.bool A2,A3],.int .i64 v25,v35,.int .i64 v36,(.int .i64 (vA .i64 (v37+1))),.bool A4,A5])
 (.opt (uB v6) fun a5=>.asI .i64 a5 fun n6=>.light (fun m=>tM yA 188 9 ⟨0,m⟩ v6) fun a7=>.asS a7 fun s8=>.call 246 [.bool A4] fun a9=>
 .asS a9 fun s10=>.opt (uB v6) fun bC=>.ite (same 10 bC (.int .i64 n6)) (.light (fun m=>tM yA 188 9 ⟨0,m⟩ v6) fun a12=>.ite (same 10 a12 (.str s8)) (.opt (zug [44] s10) fun fE=>.asS fE fun s14=>.call 291 [.int .i64 n6] fun a15=>
 .asS a15 fun s16=>.light (fun m=>tM yA 188 9 ⟨0,m⟩ v6) fun a17=>.ite (same 10 a17 (.str s8)) (.opt (zug s14 s16) fun a18=>.asS a18 fun s19=>.opt (zug s19 [44]) fun a20=>.asS a20 fun s21=>.opt (zug s21 s8) fun a22=>.asS a22 fun s23=>.opt (zug v3 s23) fun a24=>.asS a24 fun s25=>.jump 2 [.str s25,.agg [.bool A0,A1,.bool A2,A3],(.int .i64 (vA .i64 (v25+1)))]) .fail) .fail) .fail)
theorem z3m(v3:List Nat)(v6:zA)(A0:Bool)(A1:zA)(A2:Bool)(A3:zA)(v25:Int)(v35:zA)(v36 v37:Int)(A4:Bool)(A5:zA)(h:wp 276 (ztm v3 v6 A0 A1 A2 A3 v25 v35 v36 v37 A4 A5) m Q):jp 276 6 [.str v3,v6,.agg [.bool A0,A1,.bool A2,A3],.int .i64 v25,v35,.int .i64 v36,.int .i64 v37,.bool A4,A5] m Q:=iD z5m h
def t277 (p0 p1:zA)(p2 p3:List Nat):T:=
 .light (fun m=>cP yA 107 ⟨0,m⟩ p1 (.str p2) true) fun a0=>.opt (vC 0 a0) fun a1=>.asI .i64 a1 fun n2=>.opt (vC 1 a0) fun a3=>.asB a3 fun b4=>.ite (!b4)
 (.opt (uB p0) fun a5=>.asI .i64 a5 fun n6=>.heavy (tS yA 107 p1 (.str p2) (.int .i64 n6)) fun _=>
 .heavy (oF yA 30 1 [(0,(.str p3))]) fun a7=>
 .heavy (eE yA 30 30 p0 a7) fun a8=>
 .ret (.tup [a8,.int .i64 n6]))
 (.ret (.tup [p0,.int .i64 n2]))
theorem w277(p0 p1:zA)(p2 p3:List Nat)(h:wp 277 (t277 p0 p1 p2 p3) m Q):Wf 277 [p0,p1,.str p2,.str p3] m Q:=rC ok277 h
def t278 (p0:zA):T:=
 .opt (uB p0) fun a0=>.asI .i64 a0 fun n1=>.jump 2 [p0,.int .i64 n1,.int .i64 0]
theorem w278(p0:zA)(h:wp 278 (t278 p0) m Q):Wf 278 [p0] m Q:=rC ok278 h
def ztl(v5:zA)(v6 v7:Int):T:=
 .ite (iB v7 v6)
 (.opt (zB yA 326 v5 (.int .i64 v7)) fun a0=>.light (fun m=>mA yA 43 ⟨0,m⟩ a0) fun a1=>.asG zz3z a1 fun X2=>
 .ite (bB zA.one [.bool (X2.b 0),X2.v 1]) (.call 173 [(.agg [.bool (X2.b 0),X2.v 1])] fun a3=>
 .asB a3 fun b4=>.ite (!b4)
 (.ret (.bool false))
 (.jump 2 [v5,.int .i64 v6,(.int .i64 (vA .i64 (v7+1)))])) .fail)
 (.ret (.bool true))
theorem z3l(v5:zA)(v6 v7:Int)(h:wp 278 (ztl v5 v6 v7) m Q):jp 278 2 [v5,.int .i64 v6,.int .i64 v7] m Q:=iD ok278 h
def t279 (p0:Bool)(p1:zA):T:=
 .call 313 [p1] fun a0=>
 .opt (uB a0) fun a1=>.asI .i64 a1 fun n2=>.ite (wA n2 0)
 (.ite true (.ite true (.ret (.agg [.bool false,.nilslice])) .fail) .fail)
 (.opt (uB a0) fun a3=>.asI .i64 a3 fun n4=>.heavy (sL yA 41 (.int .i64 (vA .i64 (2*n4))) (.int .i64 (vA .i64 (2*n4)))) fun a5=>
 .opt (uB a0) fun a6=>.asI .i64 a6 fun n7=>.jump 2 [.bool p0,a5,a0,.int .i64 n7,.int .i64 0,.bool false,.nilslice])
theorem w279(p0:Bool)(p1:zA)(h:wp 279 (t279 p0 p1) m Q):Wf 279 [.bool p0,p1] m Q:=rC ok279 h
def ztk(v0:Bool)(v5 v18:zA)(v19 v20:Int)(A0:Bool)(A1:zA):T:=
 .ite (iB v20 v19)
 (.opt (zB yA 305 v18 (.int .i64 v20)) fun a0=>.light (fun m=>mA yA 328 ⟨0,m⟩ a0) fun a1=>.asI .u32 a1 fun n2=>.opt (zB yA 41 v5 (.int .i64 (vA .i64 (2*v20)))) fun a3=>.heavy (xE yA 227 a3 (.int .u16 (vA .u16 n2))) fun _=>
 .opt (zB yA 41 v5 (.int .i64 (vA .i64 ((vA .i64 (2*v20))+1)))) fun a4=>.heavy (xE yA 227 a4 (.int .u16 (vA .u16 (Int.fdiv n2 65536)))) fun _=>
 .jump 2 [.bool v0,v5,v18,.int .i64 v19,(.int .i64 (vA .i64 (v20+1))),.bool A0,A1])
 (.opt (uB v5) fun a5=>.asI .i64 a5 fun n6=>.opt (zB yA 41 v5 (.int .i64 (vA .i64 (n6-1)))) fun a7=>.light (fun m=>mA yA 227 ⟨0,m⟩ a7) fun a8=>.asI .u16 a8 fun n9=>.ite (wA n9 0)
 (.opt (uB v5) fun a10=>.asI .i64 a10 fun n11=>.light (fun m=>yH yA 41 ⟨0,m⟩ v5 none (some (.int .i64 (vA .i64 (n11-1))))) fun a12=>.ite (bB zA.one [.bool v0,a12]) (.ite (bB zA.one [.bool v0,a12]) (.ret (.agg [.bool v0,a12])) .fail) .fail)
 (.ite (bB zA.one [.bool v0,v5]) (.ite (bB zA.one [.bool v0,v5]) (.ret (.agg [.bool v0,v5])) .fail) .fail))
theorem z3k(v0:Bool)(v5 v18:zA)(v19 v20:Int)(A0:Bool)(A1:zA)(h:wp 279 (ztk v0 v5 v18 v19 v20 A0 A1) m Q):jp 279 2 [.bool v0,v5,v18,.int .i64 v19,.int .i64 v20,.bool A0,A1] m Q:=iD ok279 h
def t280 (p0 p1:zA):T:=
 .call 314 [p0,p1] fun a0=>
 .asI .i64 a0 fun n1=>.ite (iB n1 0)
 (.jump 2 [p1,p0])
 (.jump 2 [p0,p1])
theorem w280(p0 p1:zA)(h:wp 280 (t280 p0 p1) m Q):Wf 280 [p0,p1] m Q:=rC z0d h
def z2o(v0 v1:zA):T:=
 .opt (uB v1) fun a0=>.asI .i64 a0 fun n1=>.ite (iB 2 n1)
 (.call 315 [v0,v1] fun a2=>
 .asG [.int .u64 0,.int .u64 0,.int .u64 0,.int .u64 0,.bool false] a2 fun X3=>
 .ite true (.ite (wA (X3.i 2) 0)
 (.call 316 [v0,v1] fun a4=>
 .opt (vC 0 a4) fun a5=>.opt (vC 1 a4) fun a6=>.jump 2 [v1,a6])
 (.ite (X3.b 4)
 (.call 317 [.int .u64 (X3.i 0),v0,.int .u64 (X3.i 2),v1] fun a7=>
 .ite (same 10 (.int .u64 (X3.i 3)) (.int .u64 (X3.i 3))) (.ite (same 10 (.int .u64 (X3.i 1)) (.int .u64 (X3.i 1))) (.call 317 [.int .u64 (X3.i 3),v1,.int .u64 (X3.i 1),v0] fun a8=>
 .jump 2 [a7,a8]) .fail) .fail)
 (.call 317 [.int .u64 (X3.i 2),v1,.int .u64 (X3.i 0),v0] fun a9=>
 .ite (same 10 (.int .u64 (X3.i 1)) (.int .u64 (X3.i 1))) (.ite (same 10 (.int .u64 (X3.i 3)) (.int .u64 (X3.i 3))) (.call 317 [.int .u64 (X3.i 1),v0,.int .u64 (X3.i 3),v1] fun a10=>
 .jump 2 [a9,a10]) .fail) .fail))) .fail)
 (.opt (uB v1) fun bC=>.asI .i64 bC fun n12=>.ite (wA n12 0)
 (.ret v0)
 (.opt (uB v0) fun fE=>.asI .i64 fE fun n14=>.ite (iB 2 n14)
 (.call 316 [v0,v1] fun a15=>
 .opt (vC 0 a15) fun mG=>.opt (vC 1 a15) fun a17=>.jump 33 [v1,a17])
 (.jump 33 [v0,v1])))
theorem j280_2(v0 v1:zA)(h:wp 280 (z2o v0 v1) m Q):jp 280 2 [v0,v1] m Q:=iD z0d h
def ztj(v0 v1:zA):T:=
 .call 318 [v0] fun a0=>
 .asI .u64 a0 fun n1=>.call 318 [v1] fun a2=>
 .asI .u64 a2 fun n3=>.jump 6 [.int .u64 n1,.int .u64 n3]
theorem z6e(v0 v1:zA)(h:wp 280 (ztj v0 v1) m Q):jp 280 33 [v0,v1] m Q:=iD z0d h
def z2n(v10 v11:Int):T:=
 .ite (!wA v11 0)
 (.opt (zrz .u64 v10 v11) fun a0=>.asI .u64 a0 fun n1=>.jump 6 [.int .u64 v11,.int .u64 n1])
 (.call 319 [.int .u64 v10] fun a2=>
 .ret a2)
theorem j280_6(v10 v11:Int)(h:wp 280 (z2n v10 v11) m Q):jp 280 6 [.int .u64 v10,.int .u64 v11] m Q:=iD z0d h
def t281 (p0:zA):T:=
 .opt (uB p0) fun a0=>.asI .i64 a0 fun n1=>.heavy (sL yA 305 (.int .i64 (vA .i64 (Int.tdiv (vA .i64 (n1+1)) 2))) (.int .i64 (vA .i64 (Int.tdiv (vA .i64 (n1+1)) 2)))) fun a2=>
 .opt (uB p0) fun a3=>.asI .i64 a3 fun n4=>.jump 2 [a2,p0,.int .i64 n4,.int .i64 0]
theorem w281(p0:zA)(h:wp 281 (t281 p0) m Q):Wf 281 [p0] m Q:=rC ok281 h
def zti(v3 v11:zA)(v12 v13:Int):T:=
 .ite (iB v13 v12)
 (.opt (zB yA 41 v11 (.int .i64 v13)) fun a0=>.light (fun m=>mA yA 227 ⟨0,m⟩ a0) fun a1=>.asI .u16 a1 fun n2=>.opt (zB yA 305 v3 (.int .i64 (vA .i64 (Int.tdiv v13 2)))) fun a3=>.light (fun m=>mA yA 328 ⟨0,m⟩ a3) fun a4=>.asI .u32 a4 fun n5=>.opt (zq3 .u32 (vA .u32 n2) (vA .i64 (16*(Int.tmod v13 2)))) fun a6=>.asI .u32 a6 fun n7=>.opt (oH Nat.lor .u32 n5 n7) fun a8=>.asI .u32 a8 fun n9=>.opt (zB yA 305 v3 (.int .i64 (vA .i64 (Int.tdiv v13 2)))) fun a10=>.heavy (xE yA 328 a10 (.int .u32 n9)) fun _=>
 .jump 2 [v3,v11,.int .i64 v12,(.int .i64 (vA .i64 (v13+1)))])
 (.ret v3)
theorem z3j(v3 v11:zA)(v12 v13:Int)(h:wp 281 (zti v3 v11 v12 v13) m Q):jp 281 2 [v3,v11,.int .i64 v12,.int .i64 v13] m Q:=iD ok281 h
def t287 (p0:Bool):T:=
 .ite p0
 (.ret (.str [116,114,117,101]))
 (.ret (.str [102,97,108,115,101]))
theorem w287(p0:Bool)(h:wp 287 (t287 p0) m Q):Wf 287 [.bool p0] m Q:=rC ok287 h
def t313 (p0:zA):T:=
 .jump 2 [p0]
theorem w313(p0:zA)(h:wp 313 (t313 p0) m Q):Wf 313 [p0] m Q:=rC ok313 h
def znp(v0:zA):T:=
 .opt (uB v0) fun a0=>.asI .i64 a0 fun n1=>.ite (iB 0 n1)
 (.opt (uB v0) fun a2=>.asI .i64 a2 fun n3=>.opt (zB yA 305 v0 (.int .i64 (vA .i64 (n3-1)))) fun a4=>.light (fun m=>mA yA 328 ⟨0,m⟩ a4) fun a5=>.asI .u32 a5 fun n6=>.ite (wA n6 0)
 (.opt (uB v0) fun a7=>.asI .i64 a7 fun n8=>.light (fun m=>yH yA 305 ⟨0,m⟩ v0 none (some (.int .i64 (vA .i64 (n8-1))))) fun a9=>.jump 2 [a9])
 (.ret v0))
 (.ret v0)
theorem zwn(v0:zA)(h:wp 313 (znp v0) m Q):jp 313 2 [v0] m Q:=iD ok313 h
def t314 (p0 p1:zA):T:=
 .opt (uB p0) fun a0=>.asI .i64 a0 fun n1=>.opt (uB p1) fun a2=>.asI .i64 a2 fun n3=>.ite (!wA n1 n3)
 (.opt (uB p0) fun a4=>.asI .i64 a4 fun n5=>.opt (uB p1) fun a6=>.asI .i64 a6 fun n7=>.ite (iB n5 n7)
 (.ret (.int .i64 (-1)))
 (.ret (.int .i64 1)))
 (.opt (uB p0) fun a8=>.asI .i64 a8 fun n9=>.jump 2 [p0,p1,(.int .i64 (vA .i64 (n9-1)))])
theorem w314(p0 p1:zA)(h:wp 314 (t314 p0 p1) m Q):Wf 314 [p0,p1] m Q:=rC ok314 h
def zth(v0 v1:zA)(v5:Int):T:=
 .ite (sC 0 v5)
 (.opt (zB yA 305 v0 (.int .i64 v5)) fun a0=>.light (fun m=>mA yA 328 ⟨0,m⟩ a0) fun a1=>.asI .u32 a1 fun n2=>.opt (zB yA 305 v1 (.int .i64 v5)) fun a3=>.light (fun m=>mA yA 328 ⟨0,m⟩ a3) fun a4=>.asI .u32 a4 fun n5=>.ite (!wA n2 n5)
 (.opt (zB yA 305 v0 (.int .i64 v5)) fun a6=>.light (fun m=>mA yA 328 ⟨0,m⟩ a6) fun a7=>.asI .u32 a7 fun n8=>.opt (zB yA 305 v1 (.int .i64 v5)) fun a9=>.light (fun m=>mA yA 328 ⟨0,m⟩ a9) fun a10=>.asI .u32 a10 fun n11=>.ite (iB n8 n11)
 (.ret (.int .i64 (-1)))
 (.ret (.int .i64 1)))
 (.jump 2 [v0,v1,(.int .i64 (vA .i64 (v5-1)))]))
 (.ret (.int .i64 0))
theorem z3i(v0 v1:zA)(v5:Int)(h:wp 314 (zth v0 v1 v5) m Q):jp 314 2 [v0,v1,.int .i64 v5] m Q:=iD ok314 h
def t315 (p0 p1:zA):T:=
 .opt (uB p0) fun a0=>.asI .i64 a0 fun n1=>.opt (zB yA 305 p0 (.int .i64 (vA .i64 (n1-1)))) fun a2=>.light (fun m=>mA yA 328 ⟨0,m⟩ a2) fun a3=>.asI .u32 a3 fun n4=>.call 337 [.int .u32 n4] fun a5=>
 .asI .i64 a5 fun n6=>.call 338 [p0,.int .i64 n1,.int .i64 n6] fun a7=>
 .asI .u64 a7 fun n8=>.call 338 [p1,.int .i64 n1,.int .i64 n6] fun a9=>
 .asI .u64 a9 fun n10=>.ite true (.ite true (.jump 2 [.int .u64 n8,.int .u64 n10,.int .u64 0,.int .u64 1,.int .u64 0,.int .u64 0,.int .u64 0,.int .u64 0,.bool false,.int .u64 0,.int .u64 1,.int .u64 0,.int .u64 0,.bool false]) .fail) .fail
theorem w315(p0 p1:zA)(h:wp 315 (t315 p0 p1) m Q):Wf 315 [p0,p1] m Q:=rC ok315 h
def z2m(v7 v8 v10 v11 A0 A1 A2 A3:Int)(A4:Bool)(A5 A6 A7 A8:Int)(A9:Bool):T:=
 .ite (sC v11 v8)
 (.ite (sC (vA .u64 (A8+v11)) (vA .u64 (v7-v8)))
 (.opt (z02 .u64 v7 v8) fun a0=>.asI .u64 a0 fun n1=>.opt (zrz .u64 v7 v8) fun a2=>.asI .u64 a2 fun n3=>.ite true (.ite true (.ite true (.ite true (.ite true (.jump 2 [.int .u64 v8,.int .u64 n3,(.int .u64 (vA .u64 (A6+(vA .u64 (n1*v10))))),(.int .u64 (vA .u64 (A8+(vA .u64 (n1*v11))))),.int .u64 A0,.int .u64 A1,.int .u64 A2,.int .u64 A3,.bool A4,.int .u64 A6,.int .u64 v10,.int .u64 A8,.int .u64 v11,(.bool (!A9))]) .fail) .fail) .fail) .fail) .fail)
 (.ite true (.ret (.agg [.int .u64 A5,.int .u64 A6,.int .u64 A7,.int .u64 A8,.bool A9])) .fail))
 (.ite true (.ret (.agg [.int .u64 A5,.int .u64 A6,.int .u64 A7,.int .u64 A8,.bool A9])) .fail)
theorem j315_2(v7 v8 v10 v11 A0 A1 A2 A3:Int)(A4:Bool)(A5 A6 A7 A8:Int)(A9:Bool)(h:wp 315 (z2m v7 v8 v10 v11 A0 A1 A2 A3 A4 A5 A6 A7 A8 A9) m Q):jp 315 2 [.int .u64 v7,.int .u64 v8,.int .u64 v10,.int .u64 v11,.int .u64 A0,.int .u64 A1,.int .u64 A2,.int .u64 A3,.bool A4,.int .u64 A5,.int .u64 A6,.int .u64 A7,.int .u64 A8,.bool A9] m Q:=iD ok315 h
def t316 (p0 p1:zA):T:=
 .call 314 [p0,p1] fun a0=>
 .asI .i64 a0 fun n1=>.ite (iB n1 0)
 (.call 339 [p0] fun a2=>
 .ret (.tup [.nilslice,a2]))
 (.opt (uB p1) fun a3=>.asI .i64 a3 fun n4=>.ite (wA n4 1)
 (.opt (zB yA 305 p1 (.int .i64 0)) fun a5=>.light (fun m=>mA yA 328 ⟨0,m⟩ a5) fun a6=>.asI .u32 a6 fun n7=>.call 321 [p0,.int .u32 n7] fun a8=>
 .opt (vC 0 a8) fun a9=>.opt (vC 1 a8) fun a10=>.asI .u32 a10 fun n11=>.heavy (oF yA 305 1 [(0,(.int .u32 n11))]) fun a12=>
 .call 313 [a12] fun fE=>
 .ret (.tup [a9,fE]))
 (.opt (uB p1) fun a14=>.asI .i64 a14 fun n15=>.opt (zB yA 305 p1 (.int .i64 (vA .i64 (n15-1)))) fun mG=>.light (fun m=>mA yA 328 ⟨0,m⟩ mG) fun a17=>.asI .u32 a17 fun n18=>.call 337 [.int .u32 n18] fun a19=>
 .asI .i64 a19 fun n20=>.call 340 [p1,.int .i64 n20] fun a21=>
 .light (fun m=>yH yA 305 ⟨0,m⟩ a21 none (some (.int .i64 n15))) fun a22=>.call 340 [p0,.int .i64 n20] fun a23=>
 .opt (uB p0) fun a24=>.asI .i64 a24 fun n25=>.heavy (sL yA 305 (.int .i64 (vA .i64 ((vA .i64 (n25-n15))+1))) (.int .i64 (vA .i64 ((vA .i64 (n25-n15))+1)))) fun a26=>
 .opt (uB a26) fun a27=>.asI .i64 a27 fun n28=>.jump 2 [.int .i64 n15,.int .i64 n20,a22,a23,a26,(.int .i64 (vA .i64 (n28-1)))]))
theorem w316(p0 p1:zA)(h:wp 316 (t316 p0 p1) m Q):Wf 316 [p0,p1] m Q:=rC z5l h
def ztg(v8 v9:Int)(v10 v11 v12:zA)(v13:Int):T:=
 .ite (sC 0 v13)
 (.light (fun m=>yH yA 305 ⟨0,m⟩ v11 (some (.int .i64 v13)) (some (.int .i64 (vA .i64 ((vA .i64 (v13+v8))+1))))) fun a0=>.call 341 [a0,v10] fun a1=>
 .asI .u32 a1 fun n2=>.opt (zB yA 305 v12 (.int .i64 v13)) fun a3=>.heavy (xE yA 328 a3 (.int .u32 n2)) fun _=>
 .jump 2 [.int .i64 v8,.int .i64 v9,v10,v11,v12,(.int .i64 (vA .i64 (v13-1)))])
 (.jump 6 [.int .i64 v8,.int .i64 v9,v11,v12,.int .i64 v8,.int .i64 0])
theorem z3h(v8 v9:Int)(v10 v11 v12:zA)(v13:Int)(h:wp 316 (ztg v8 v9 v10 v11 v12 v13) m Q):jp 316 2 [.int .i64 v8,.int .i64 v9,v10,v11,v12,.int .i64 v13] m Q:=iD z5l h
def ztf(v8 v9:Int)(v11 v12:zA)(v77 v78:Int):T:=
 .ite (iB v78 v77)
 (.opt (zB yA 305 v11 (.int .i64 (vA .i64 (v78+1)))) fun a0=>.light (fun m=>mA yA 328 ⟨0,m⟩ a0) fun a1=>.asI .u32 a1 fun n2=>.opt (zB yA 305 v11 (.int .i64 v78)) fun a3=>.light (fun m=>mA yA 328 ⟨0,m⟩ a3) fun a4=>.asI .u32 a4 fun n5=>.opt (oH Nat.lor .u64 (vA .u64 ((vA .u64 n2)*4294967296)) (vA .u64 n5)) fun a6=>.asI .u64 a6 fun n7=>.opt (z6l .u64 n7 v9) fun a8=>.asI .u64 a8 fun n9=>.opt (zB yA 305 v11 (.int .i64 v78)) fun a10=>.heavy (xE yA 328 a10 (.int .u32 (vA .u32 n9))) fun _=>
 .jump 6 [.int .i64 v8,.int .i64 v9,v11,v12,.int .i64 v77,(.int .i64 (vA .i64 (v78+1)))])
 (.light (fun m=>yH yA 305 ⟨0,m⟩ v11 none (some (.int .i64 v8))) fun bC=>.call 313 [v12] fun a12=>
 .light (fun m=>yH yA 305 ⟨0,m⟩ v11 none (some (.int .i64 v8))) fun fE=>.ite (same 10 fE bC) (.call 313 [bC] fun a14=>
 .ret (.tup [a12,a14])) .fail)
theorem z3g(v8 v9:Int)(v11 v12:zA)(v77 v78:Int)(h:wp 316 (ztf v8 v9 v11 v12 v77 v78) m Q):jp 316 6 [.int .i64 v8,.int .i64 v9,v11,v12,.int .i64 v77,.int .i64 v78] m Q:=iD z5l h
def t317 (p0:Int)(p1:zA)(p2:Int)(p3:zA):T:=
 .opt (uB p1) fun a0=>.asI .i64 a0 fun n1=>.opt (uB p3) fun a2=>.asI .i64 a2 fun n3=>.heavy (sL yA 305 (.int .i64 (vA .i64 ((bif iB n1 n3 then n3 else n1)+1))) (.int .i64 (vA .i64 ((bif iB n1 n3 then n3 else n1)+1)))) fun a4=>
 .opt (uB a4) fun a5=>.asI .i64 a5 fun n6=>.jump 2 [.int .u64 p0,p1,.int .u64 p2,p3,a4,.int .u64 0,.int .u64 0,.int .u32 0,.int .i64 n6,.int .i64 0]
theorem w317(p0:Int)(p1:zA)(p2:Int)(p3:zA)(h:wp 317 (t317 p0 p1 p2 p3) m Q):Wf 317 [.int .u64 p0,p1,.int .u64 p2,p3] m Q:=rC z0c h
def ztd(v0:Int)(v1:zA)(v2:Int)(v3 v9:zA)(v10 v11 v12 v22 v23:Int):T:=
 .ite (iB v23 v22)
 (.opt (uB v1) fun a0=>.asI .i64 a0 fun n1=>.ite (iB v23 n1)
 (.opt (zB yA 305 v1 (.int .i64 v23)) fun a2=>.light (fun m=>mA yA 328 ⟨0,m⟩ a2) fun a3=>.asI .u32 a3 fun n4=>.jump 17 [.int .u64 v0,v1,.int .u64 v2,v3,v9,(.int .u64 (vA .u64 (v10+(vA .u64 (v0*(vA .u64 n4)))))),.int .u64 v11,.int .u32 v12,.int .i64 v23,.int .i64 v22,.int .i64 v23])
 (.jump 17 [.int .u64 v0,v1,.int .u64 v2,v3,v9,.int .u64 v10,.int .u64 v11,.int .u32 v12,.int .i64 v23,.int .i64 v22,.int .i64 v23]))
 (.call 313 [v9] fun a5=>
 .ret a5)
theorem z3f(v0:Int)(v1:zA)(v2:Int)(v3 v9:zA)(v10 v11 v12 v22 v23:Int)(h:wp 317 (ztd v0 v1 v2 v3 v9 v10 v11 v12 v22 v23) m Q):jp 317 2 [.int .u64 v0,v1,.int .u64 v2,v3,v9,.int .u64 v10,.int .u64 v11,.int .u32 v12,.int .i64 v22,.int .i64 v23] m Q:=iD z0c h
def zte(v0:Int)(v1:zA)(v2:Int)(v3 v9:zA)(v10 v11 v12 v13 v22 v23:Int):T:=
 .opt (uB v3) fun a0=>.asI .i64 a0 fun n1=>.ite (iB v13 n1)
 (.opt (zB yA 305 v3 (.int .i64 v13)) fun a2=>.light (fun m=>mA yA 328 ⟨0,m⟩ a2) fun a3=>.asI .u32 a3 fun n4=>.jump 21 [.int .u64 v0,v1,.int .u64 v2,v3,v9,.int .u64 v10,(.int .u64 (vA .u64 (v11+(vA .u64 (v2*(vA .u64 n4)))))),.int .u32 v12,.int .i64 v13,.int .i64 v22,.int .i64 v23])
 (.jump 21 [.int .u64 v0,v1,.int .u64 v2,v3,v9,.int .u64 v10,.int .u64 v11,.int .u32 v12,.int .i64 v13,.int .i64 v22,.int .i64 v23])
theorem z6d(v0:Int)(v1:zA)(v2:Int)(v3 v9:zA)(v10 v11 v12 v13 v22 v23:Int)(h:wp 317 (zte v0 v1 v2 v3 v9 v10 v11 v12 v13 v22 v23) m Q):jp 317 17 [.int .u64 v0,v1,.int .u64 v2,v3,v9,.int .u64 v10,.int .u64 v11,.int .u32 v12,.int .i64 v13,.int .i64 v22,.int .i64 v23] m Q:=iD z0c h
def ztc(v0:Int)(v1:zA)(v2:Int)(v3 v9:zA)(v10 v11 v12 v13 v22 v23:Int):T:=
 .call 342 [(.int .u32 (vA .u32 v10)),(.int .u32 (vA .u32 v11)),.int .u32 v12] fun a0=>
 .opt (vC 0 a0) fun a1=>.asI .u32 a1 fun n2=>.opt (vC 1 a0) fun a3=>.asI .u32 a3 fun n4=>.opt (zB yA 305 v9 (.int .i64 v13)) fun a5=>.heavy (xE yA 328 a5 (.int .u32 n2)) fun _=>
 .jump 2 [.int .u64 v0,v1,.int .u64 v2,v3,v9,(.int .u64 (Int.fdiv v10 4294967296)),(.int .u64 (Int.fdiv v11 4294967296)),.int .u32 n4,.int .i64 v22,(.int .i64 (vA .i64 (v23+1)))]
theorem z6c(v0:Int)(v1:zA)(v2:Int)(v3 v9:zA)(v10 v11 v12 v13 v22 v23:Int)(h:wp 317 (ztc v0 v1 v2 v3 v9 v10 v11 v12 v13 v22 v23) m Q):jp 317 21 [.int .u64 v0,v1,.int .u64 v2,v3,v9,.int .u64 v10,.int .u64 v11,.int .u32 v12,.int .i64 v13,.int .i64 v22,.int .i64 v23] m Q:=iD z0c h
def t319 (p0:Int):T:=
 .heavy (oF yA 305 2 [(0,(.int .u32 (vA .u32 p0))),(1,(.int .u32 (vA .u32 (Int.fdiv p0 4294967296))))]) fun a0=>
 .call 313 [a0] fun a1=>
 .ret a1
theorem w319(p0:Int)(h:wp 319 (t319 p0) m Q):Wf 319 [.int .u64 p0] m Q:=rC ok319 h
def t321 (p0:zA)(p1:Int):T:=
 .opt (uB p0) fun a0=>.asI .i64 a0 fun n1=>.heavy (sL yA 305 (.int .i64 n1) (.int .i64 n1)) fun a2=>
 .opt (uB p0) fun a3=>.asI .i64 a3 fun n4=>.jump 2 [p0,.int .u32 p1,a2,.int .u32 0,(.int .i64 (vA .i64 (n4-1)))]
theorem w321(p0:zA)(p1:Int)(h:wp 321 (t321 p0 p1) m Q):Wf 321 [p0,.int .u32 p1] m Q:=rC ok321 h
def ztb(v0:zA)(v1:Int)(v6:zA)(v7 v8:Int):T:=
 .ite (sC 0 v8)
 (.opt (zB yA 305 v0 (.int .i64 v8)) fun a0=>.light (fun m=>mA yA 328 ⟨0,m⟩ a0) fun a1=>.asI .u32 a1 fun n2=>.call 347 [.int .u32 v7,.int .u32 n2,.int .u32 v1] fun a3=>
 .opt (vC 0 a3) fun a4=>.asI .u32 a4 fun n5=>.opt (vC 1 a3) fun a6=>.asI .u32 a6 fun n7=>.opt (zB yA 305 v6 (.int .i64 v8)) fun a8=>.heavy (xE yA 328 a8 (.int .u32 n5)) fun _=>
 .jump 2 [v0,.int .u32 v1,v6,.int .u32 n7,(.int .i64 (vA .i64 (v8-1)))])
 (.call 313 [v6] fun a9=>
 .ret (.tup [a9,.int .u32 v7]))
theorem z3e(v0:zA)(v1:Int)(v6:zA)(v7 v8:Int)(h:wp 321 (ztb v0 v1 v6 v7 v8) m Q):jp 321 2 [v0,.int .u32 v1,v6,.int .u32 v7,.int .i64 v8] m Q:=iD ok321 h
def t337 (p0:Int):T:=
 .call 360 [.int .u32 p0] fun a0=>
 .asI .i64 a0 fun n1=>.ret (.int .i64 (vA .i64 (32-n1)))
theorem w337(p0:Int)(h:wp 337 (t337 p0) m Q):Wf 337 [.int .u32 p0] m Q:=rC ok337 h
def t338 (p0:zA)(p1 p2:Int):T:=
 .heavy (zsj p0) fun a0=>
 .callv (.func (.func 361) [] [a0]) [(.int .i64 (vA .i64 (p1-1)))] fun a1=>
 .asI .u64 a1 fun n2=>.callv (.func (.func 361) [] [a0]) [(.int .i64 (vA .i64 (p1-2)))] fun a3=>
 .asI .u64 a3 fun n4=>.opt (oH Nat.lor .u64 (vA .u64 (n2*4294967296)) n4) fun a5=>.asI .u64 a5 fun n6=>.opt (zq3 .u64 n6 p2) fun a7=>.asI .u64 a7 fun n8=>.callv (.func (.func 361) [] [a0]) [(.int .i64 (vA .i64 (p1-3)))] fun a9=>
 .asI .u64 a9 fun n10=>.opt (z6l .u64 n10 (vA .i64 (32-p2))) fun bC=>.asI .u64 bC fun n12=>.opt (oH Nat.lor .u64 n8 n12) fun fE=>.asI .u64 fE fun n14=>.ret (.int .u64 n14)
theorem e338(p0:zA)(p1 p2:Int):entT yA Tryz.f338 8 338 a338 [p0,.int .i64 p1,.int .i64 p2]=t338 p0 p1 p2:=by kernel_rfl
theorem w338(p0:zA)(p1 p2:Int)(h:wp 338 (t338 p0 p1 p2) m Q):Wf 338 [p0,.int .i64 p1,.int .i64 p2] m Q:=z7n ok338 (by kernel_rfl) (by rw[e338];exact h)
def t339 (p0:zA):T:=
 .opt ((wL .eql).f yA 305 (.tmp 3) (.const (.slice none 0 0)) p0 .nilslice) fun a0=>.asB a0 fun b1=>.ite b1
 (.ret .nilslice)
 (.heavy (oF yA 305 0 []) fun a2=>
 .heavy (eE yA 305 305 a2 p0) fun a3=>
 .ret a3)
theorem w339(p0:zA)(h:wp 339 (t339 p0) m Q):Wf 339 [p0] m Q:=rC ok339 h
def t340 (p0:zA)(p1:Int):T:=
 .opt (uB p0) fun a0=>.asI .i64 a0 fun n1=>.heavy (sL yA 305 (.int .i64 (vA .i64 (n1+1))) (.int .i64 (vA .i64 (n1+1)))) fun a2=>
 .opt (uB p0) fun a3=>.asI .i64 a3 fun n4=>.jump 2 [.int .i64 p1,a2,p0,.int .i64 n4,.int .i64 0]
theorem w340(p0:zA)(p1:Int)(h:wp 340 (t340 p0 p1) m Q):Wf 340 [p0,.int .i64 p1] m Q:=rC ok340 h
def zta(v1:Int)(v5 v13:zA)(v14 v15:Int):T:=
 .ite (iB v15 v14)
 (.opt (zB yA 305 v13 (.int .i64 v15)) fun a0=>.light (fun m=>mA yA 328 ⟨0,m⟩ a0) fun a1=>.asI .u32 a1 fun n2=>.opt (zq3 .u64 (vA .u64 n2) v1) fun a3=>.asI .u64 a3 fun n4=>.opt (zB yA 305 v5 (.int .i64 v15)) fun a5=>.light (fun m=>mA yA 328 ⟨0,m⟩ a5) fun a6=>.asI .u32 a6 fun n7=>.opt (oH Nat.lor .u32 n7 (vA .u32 n4)) fun a8=>.asI .u32 a8 fun n9=>.opt (zB yA 305 v5 (.int .i64 v15)) fun a10=>.heavy (xE yA 328 a10 (.int .u32 n9)) fun _=>
 .opt (zB yA 305 v5 (.int .i64 (vA .i64 (v15+1)))) fun bC=>.heavy (xE yA 328 bC (.int .u32 (vA .u32 (Int.fdiv n4 4294967296)))) fun _=>
 .jump 2 [.int .i64 v1,v5,v13,.int .i64 v14,(.int .i64 (vA .i64 (v15+1)))])
 (.ret v5)
theorem z3d(v1:Int)(v5 v13:zA)(v14 v15:Int)(h:wp 340 (zta v1 v5 v13 v14 v15) m Q):jp 340 2 [.int .i64 v1,v5,v13,.int .i64 v14,.int .i64 v15] m Q:=iD ok340 h
def t341 (p0 p1:zA):T:=
 .opt (uB p1) fun a0=>.asI .i64 a0 fun n1=>.opt (zB yA 305 p0 (.int .i64 n1)) fun a2=>.light (fun m=>mA yA 328 ⟨0,m⟩ a2) fun a3=>.asI .u32 a3 fun n4=>.opt (zB yA 305 p0 (.int .i64 (vA .i64 (n1-1)))) fun a5=>.light (fun m=>mA yA 328 ⟨0,m⟩ a5) fun a6=>.asI .u32 a6 fun n7=>.opt (oH Nat.lor .u64 (vA .u64 ((vA .u64 n4)*4294967296)) (vA .u64 n7)) fun a8=>.asI .u64 a8 fun n9=>.opt (zB yA 305 p1 (.int .i64 (vA .i64 (n1-1)))) fun a10=>.light (fun m=>mA yA 328 ⟨0,m⟩ a10) fun bC=>.asI .u32 bC fun n12=>.opt (z02 .u64 n9 (vA .u64 n12)) fun fE=>.asI .u64 fE fun n14=>.opt (zrz .u64 n9 (vA .u64 n12)) fun a15=>.asI .u64 a15 fun n16=>.jump 2 [p0,p1,.int .i64 n1,(.int .u64 (vA .u64 n12)),.int .u64 n14,.int .u64 n16]
theorem w341(p0 p1:zA)(h:wp 341 (t341 p0 p1) m Q):Wf 341 [p0,p1] m Q:=rC zve h
def zs8(v0 v1:zA)(v5 v7 v8 v9:Int):T:=
 .ite (sC 4294967296 v8)
 (.ite (sC 4294967296 (vA .u64 (v9+v7)))
 (.jump 19 [v0,v1,.int .i64 v5,(.int .u64 (vA .u64 (v8-1)))])
 (.jump 2 [v0,v1,.int .i64 v5,.int .u64 v7,(.int .u64 (vA .u64 (v8-1))),(.int .u64 (vA .u64 (v9+v7)))]))
 (.opt (zB yA 305 v1 (.int .i64 (vA .i64 (v5-2)))) fun a0=>.light (fun m=>mA yA 328 ⟨0,m⟩ a0) fun a1=>.asI .u32 a1 fun n2=>.opt (zB yA 305 v0 (.int .i64 (vA .i64 (v5-2)))) fun a3=>.light (fun m=>mA yA 328 ⟨0,m⟩ a3) fun a4=>.asI .u32 a4 fun n5=>.opt (oH Nat.lor .u64 (vA .u64 (v9*4294967296)) (vA .u64 n5)) fun a6=>.asI .u64 a6 fun n7=>.ite (iB n7 (vA .u64 (v8*(vA .u64 n2))))
 (.ite (sC 4294967296 (vA .u64 (v9+v7)))
 (.jump 19 [v0,v1,.int .i64 v5,(.int .u64 (vA .u64 (v8-1)))])
 (.jump 2 [v0,v1,.int .i64 v5,.int .u64 v7,(.int .u64 (vA .u64 (v8-1))),(.int .u64 (vA .u64 (v9+v7)))]))
 (.jump 19 [v0,v1,.int .i64 v5,.int .u64 v8]))
theorem z3c(v0 v1:zA)(v5 v7 v8 v9:Int)(h:wp 341 (zs8 v0 v1 v5 v7 v8 v9) m Q):jp 341 2 [v0,v1,.int .i64 v5,.int .u64 v7,.int .u64 v8,.int .u64 v9] m Q:=iD zve h
def zs9(v0 v1:zA)(v5 v8:Int):T:=
 .opt (uB v1) fun a0=>.asI .i64 a0 fun n1=>.jump 6 [v0,v1,.int .i64 v5,.int .u64 v8,.int .u64 0,.int .u64 0,v1,.int .i64 n1,.int .i64 0]
theorem z6b(v0 v1:zA)(v5 v8:Int)(h:wp 341 (zs9 v0 v1 v5 v8) m Q):jp 341 19 [v0,v1,.int .i64 v5,.int .u64 v8] m Q:=iD zve h
def zs7(v0 v1:zA)(v5 v8 v10 v11:Int)(v76:zA)(v77 v78:Int):T:=
 .ite (iB v78 v77)
 (.opt (zB yA 305 v76 (.int .i64 v78)) fun a0=>.light (fun m=>mA yA 328 ⟨0,m⟩ a0) fun a1=>.asI .u32 a1 fun n2=>.opt (zB yA 305 v0 (.int .i64 v78)) fun a3=>.light (fun m=>mA yA 328 ⟨0,m⟩ a3) fun a4=>.asI .u32 a4 fun n5=>.opt (zB yA 305 v0 (.int .i64 v78)) fun a6=>.heavy (xE yA 328 a6 (.int .u32 (vA .u32 (vA .u64 ((vA .u64 ((vA .u64 n5)-(vA .u64 (vA .u32 (vA .u64 ((vA .u64 (v8*(vA .u64 n2)))+v10))))))-v11))))) fun _=>
 .jump 6 [v0,v1,.int .i64 v5,.int .u64 v8,(.int .u64 (Int.fdiv (vA .u64 ((vA .u64 (v8*(vA .u64 n2)))+v10)) 4294967296)),(.int .u64 (Int.fdiv (vA .u64 ((vA .u64 ((vA .u64 n5)-(vA .u64 (vA .u32 (vA .u64 ((vA .u64 (v8*(vA .u64 n2)))+v10))))))-v11)) 9223372036854775808)),v76,.int .i64 v77,(.int .i64 (vA .i64 (v78+1)))])
 (.opt (zB yA 305 v0 (.int .i64 v5)) fun a7=>.light (fun m=>mA yA 328 ⟨0,m⟩ a7) fun a8=>.asI .u32 a8 fun n9=>.opt (zB yA 305 v0 (.int .i64 v5)) fun a10=>.heavy (xE yA 328 a10 (.int .u32 (vA .u32 (vA .u64 ((vA .u64 ((vA .u64 n9)-v10))-v11))))) fun _=>
 .ite (wA (Int.fdiv (vA .u64 ((vA .u64 ((vA .u64 n9)-v10))-v11)) 9223372036854775808) 0)
 (.ret (.int .u32 (vA .u32 v8)))
 (.opt (uB v1) fun bC=>.asI .i64 bC fun n12=>.jump 10 [v0,.int .i64 v5,.int .u64 v8,.int .u32 0,v1,.int .i64 n12,.int .i64 0]))
theorem z3b(v0 v1:zA)(v5 v8 v10 v11:Int)(v76:zA)(v77 v78:Int)(h:wp 341 (zs7 v0 v1 v5 v8 v10 v11 v76 v77 v78) m Q):jp 341 6 [v0,v1,.int .i64 v5,.int .u64 v8,.int .u64 v10,.int .u64 v11,v76,.int .i64 v77,.int .i64 v78] m Q:=iD zve h
def zk9(v0:zA)(v5 v8 v17:Int)(v129:zA)(v130 v131:Int):T:=
 .ite (iB v131 v130)
 (.opt (zB yA 305 v129 (.int .i64 v131)) fun a0=>.light (fun m=>mA yA 328 ⟨0,m⟩ a0) fun a1=>.asI .u32 a1 fun n2=>.opt (zB yA 305 v0 (.int .i64 v131)) fun a3=>.light (fun m=>mA yA 328 ⟨0,m⟩ a3) fun a4=>.asI .u32 a4 fun n5=>.call 362 [.int .u32 n5,.int .u32 n2,.int .u32 v17] fun a6=>
 .opt (vC 0 a6) fun a7=>.asI .u32 a7 fun n8=>.opt (vC 1 a6) fun a9=>.asI .u32 a9 fun n10=>.opt (zB yA 305 v0 (.int .i64 v131)) fun bC=>.heavy (xE yA 328 bC (.int .u32 n8)) fun _=>
 .jump 10 [v0,.int .i64 v5,.int .u64 v8,.int .u32 n10,v129,.int .i64 v130,(.int .i64 (vA .i64 (v131+1)))])
 (.opt (zB yA 305 v0 (.int .i64 v5)) fun a12=>.light (fun m=>mA yA 328 ⟨0,m⟩ a12) fun fE=>.asI .u32 fE fun n14=>.opt (zB yA 305 v0 (.int .i64 v5)) fun a15=>.heavy (xE yA 328 a15 (.int .u32 (vA .u32 (n14+v17)))) fun _=>
 .ret (.int .u32 (vA .u32 (vA .u64 (v8-1)))))
theorem zwm(v0:zA)(v5 v8 v17:Int)(v129:zA)(v130 v131:Int)(h:wp 341 (zk9 v0 v5 v8 v17 v129 v130 v131) m Q):jp 341 10 [v0,.int .i64 v5,.int .u64 v8,.int .u32 v17,v129,.int .i64 v130,.int .i64 v131] m Q:=iD zve h
def t342 (p0 p1 p2:Int):T:=
 .opt (zk4 (.int .u32 p0)) fun a0=>.asI .u32 a0 fun n1=>.opt (oH Nat.land .u32 n1 p1) fun a2=>.asI .u32 a2 fun n3=>.opt (oH Nat.xor .u32 p0 p1) fun a4=>.asI .u32 a4 fun n5=>.opt (zk4 (.int .u32 n5)) fun a6=>.asI .u32 a6 fun n7=>.opt (oH Nat.land .u32 n7 (vA .u32 ((vA .u32 (p0-p1))-p2))) fun a8=>.asI .u32 a8 fun n9=>.opt (oH Nat.lor .u32 n3 n9) fun a10=>.asI .u32 a10 fun n11=>.ret (.tup [(.int .u32 (vA .u32 ((vA .u32 (p0-p1))-p2))),(.int .u32 (Int.fdiv n11 2147483648))])
theorem w342(p0 p1 p2:Int)(h:wp 342 (t342 p0 p1 p2) m Q):Wf 342 [.int .u32 p0,.int .u32 p1,.int .u32 p2] m Q:=rC ok342 h
def t347 (p0 p1 p2:Int):T:=
 .ite (!wA p2 0)
 (.ite (sC p2 p0)
 (.light (fun m=>mA yA 245 ⟨0,m⟩ (.ptr 3 0)) fun a0=>.fail)
 (.jump 7 [.int .u32 p0,.int .u32 p1,.int .u32 p2]))
 (.jump 7 [.int .u32 p0,.int .u32 p1,.int .u32 p2])
theorem w347(p0 p1 p2:Int)(h:wp 347 (t347 p0 p1 p2) m Q):Wf 347 [.int .u32 p0,.int .u32 p1,.int .u32 p2] m Q:=rC ok347 h
def z2l(v0 v1 v2:Int):T:=
 .opt (oH Nat.lor .u64 (vA .u64 ((vA .u64 v0)*4294967296)) (vA .u64 v1)) fun a0=>.asI .u64 a0 fun n1=>.opt (z02 .u64 n1 (vA .u64 v2)) fun a2=>.asI .u64 a2 fun n3=>.opt (zrz .u64 n1 (vA .u64 v2)) fun a4=>.asI .u64 a4 fun n5=>.ret (.tup [(.int .u32 (vA .u32 n3)),(.int .u32 (vA .u32 n5))])
theorem j347_7(v0 v1 v2:Int)(h:wp 347 (z2l v0 v1 v2) m Q):jp 347 7 [.int .u32 v0,.int .u32 v1,.int .u32 v2] m Q:=iD ok347 h
def t360 (p0:Int):T:=
 .ite (sC 65536 p0)
 (.jump 9 [(.int .u32 (Int.fdiv p0 65536)),.int .i64 16])
 (.jump 9 [.int .u32 p0,.int .i64 0])
theorem w360(p0:Int)(h:wp 360 (t360 p0) m Q):Wf 360 [.int .u32 p0] m Q:=rC z5k h
def zs5(v0 v2:Int):T:=
 .ite (sC 256 v0)
 (.jump 15 [(.int .u32 (Int.fdiv v0 256)),(.int .i64 (vA .i64 (v2+8)))])
 (.jump 15 [.int .u32 v0,.int .i64 v2])
theorem z3a(v0 v2:Int)(h:wp 360 (zs5 v0 v2) m Q):jp 360 9 [.int .u32 v0,.int .i64 v2] m Q:=iD z5k h
def zs6(v0 v2:Int):T:=
 .opt (aN yA 9 (.str [0,1,2,2,3,3,3,3,4,4,4,4,4,4,4,4,5,5,5,5,5,5,5,5,5,5,5,5,5,5,5,5,6,6,6,6,6,6,6,6,6,6,6,6,6,6,6,6,6,6,6,6,6,6,6,6,6,6,6,6,6,6,6,6,7,7,7,7,7,7,7,7,7,7,7,7,7,7,7,7,7,7,7,7,7,7,7,7,7,7,7,7,7,7,7,7,7,7,7,7,7,7,7,7,7,7,7,7,7,7,7,7,7,7,7,7,7,7,7,7,7,7,7,7,7,7,7,7,8,8,8,8,8,8,8,8,8,8,8,8,8,8,8,8,8,8,8,8,8,8,8,8,8,8,8,8,8,8,8,8,8,8,8,8,8,8,8,8,8,8,8,8,8,8,8,8,8,8,8,8,8,8,8,8,8,8,8,8,8,8,8,8,8,8,8,8,8,8,8,8,8,8,8,8,8,8,8,8,8,8,8,8,8,8,8,8,8,8,8,8,8,8,8,8,8,8,8,8,8,8,8,8,8,8,8,8,8,8,8,8,8,8,8,8,8,8,8,8,8,8,8,8,8,8,8,8]) (.int .u8 (vA .u8 v0))) fun a0=>.asI .u8 a0 fun n1=>.ret (.int .i64 (vA .i64 (v2+(vA .i64 n1))))
theorem z6a(v0 v2:Int)(h:wp 360 (zs6 v0 v2) m Q):jp 360 15 [.int .u32 v0,.int .i64 v2] m Q:=iD z5k h
def t361 (p0:Int)(w0:zA):T:=
 .light (fun m=>mA yA 305 ⟨0,m⟩ w0) fun a0=>.opt (uB a0) fun a1=>.asI .i64 a1 fun n2=>.ite (sC n2 p0)
 (.ret (.int .u64 0))
 (.light (fun m=>mA yA 305 ⟨0,m⟩ w0) fun a3=>.opt (zB yA 305 a3 (.int .i64 p0)) fun a4=>.light (fun m=>mA yA 328 ⟨0,m⟩ a4) fun a5=>.asI .u32 a5 fun n6=>.ret (.int .u64 (vA .u64 n6)))
theorem w361(p0:Int)(w0:zA)(h:wp 361 (t361 p0 w0) m Q):Wf 361 [.int .i64 p0,w0] m Q:=rC ok361 h
def t362 (p0 p1 p2:Int):T:=
 .ret (.tup [(.int .u32 (vA .u32 (vA .u64 ((vA .u64 ((vA .u64 p0)+(vA .u64 p1)))+(vA .u64 p2))))),(.int .u32 (vA .u32 (Int.fdiv (vA .u64 ((vA .u64 ((vA .u64 p0)+(vA .u64 p1)))+(vA .u64 p2))) 4294967296)))])
theorem e362(p0 p1 p2:Int):entT yA Tryz.f362 9 362 a362 [.int .u32 p0,.int .u32 p1,.int .u32 p2]=t362 p0 p1 p2:=by kernel_rfl
theorem w362(p0 p1 p2:Int)(h:wp 362 (t362 p0 p1 p2) m Q):Wf 362 [.int .u32 p0,.int .u32 p1,.int .u32 p2] m Q:=z7n ok362 (by kernel_rfl) (by rw[e362];exact h)
end Go.Proofs
