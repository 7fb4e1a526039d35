/- The trees of functions. (Printed by a tool; the kernel agrees.) -/
import Derived.Test.YtfijloeeppcipaaGreatDoorG18
set_option linter.all false
noncomputable section
set_option maxRecDepth 100000
namespace Go.Proofs
open Go Go.Am
variable [lC]{m:Tr rA}{Q:cB}
abbrev uH:List zA:=[.int .u8 0,.str [],.int .u8 0,.bool false,.nilslice,.bool false,.nilslice,.int .i64 0,.nilslice]
abbrev mI:List zA:=[.int .u8 0,.str [],.bool false,.int .i64 0,.int .i64 0,.int .i64 0,.int .i64 0,.int .i64 0]
abbrev kK:List zA:=[.str [],.nilslice,.nilslice,.nilslice]
abbrev lK:List zA:=[.str [],.bool false,.nilslice]
abbrev zvw:List zA:=[.str [],.int .u8 0,.bool false]
abbrev zz5z:List zA:=[.bool false,.nilslice]
abbrev zz6z:List zA:=[.str [],.str [],.int .i64 0,.int .i64 0,.int .i64 0,.bool false,.int .u8 0,.str [],.int .u8 0,.bool false,.nilslice,.bool false,.nilslice,.int .i64 0,.nilslice,.int .u8 0,.str [],.int .u8 0,.bool false,.nilslice,.bool false,.nilslice,.int .i64 0,.nilslice]
abbrev zz7z:List zA:=[.bool false,.nilslice,.bool false,.nilslice]
abbrev zz8z:List zA:=[.int .i64 0,.int .i64 0,.int .i64 0,.bool false,.nilslice,.bool false,.nilslice]
def yC{f kf:Nat}{fn:Func}{A:vB}{x:List zA}{T:T}(h:pB yA F f fn kf A)(k:qA yA.base (Wq yA F aH) (Jq yA F f) T m Q)(h1:(Nat.ble (yB x) kf&&Nat.ble (yB x) fn.ntmps)=true:=by kernel_rfl)(h2:entT yA fn kf f A x=T:=by kernel_rfl):Wc yA F f x m Q:=zzbu h h1 (by rw[h2];exact k)
def wD{f kf i:Nat}{fn:Func}{A:vB}{x:List zA}{T:T}(h:pB yA F f fn kf A)(k:qA yA.base (Wq yA F aH) (Jq yA F f) T m Q)(h2:zty (ptsT yA fn kf f A) i x=[T]:=by kernel_rfl):Jq yA F f i x m Q:=Jq_of1 h h2 k
def eqT{b:Nat}{W J:vH}{x y:T}{m:Tr rA}{Q:cB}(e:x=y)(h:qA b W J y m Q):qA b W J x m Q:=e ▸ h
def t6 (A0:List Nat)(A1 A2 A3:zA)(p1:Int):T:=
 .call 9 [] fun a0=>
 .asB a0 fun b1=>.ite (!b1)
 (.ret (.bool false))
 (.call 15 [.agg [.str A0,A1,A2,A3],.int .i64 2000] fun a2=>
 .asI .i64 a2 fun n3=>.ite (bB 2000 n3)
 (.ret (.bool true))
 (.call 16 [.agg [.str A0,A1,A2,A3]] fun a4=>
 .opt (mB 0 a4) fun a5=>.asI .i64 a5 fun n6=>.opt (mB 1 a4) fun a7=>.asI .i64 a7 fun n8=>.call 19 [.agg [.str A0,A1,A2,A3],.str [102,114,101,115,104,95,110,97,109,101]] fun a9=>
 .opt (mB 0 a9) fun a10=>.asG zvw a10 fun X11=>
 .opt (mB 1 a9) fun jD=>.asB jD fun b13=>.ite true (.ite (!jA n8 0)
 (.ret (.bool true))
 (.ite b13
 (.ret (.bool true))
 (.opt (oB A1) fun a14=>.asI .i64 a14 fun n15=>.ite (jA n15 0)
 (.ret (.bool true))
 (.opt (oB A1) fun a16=>.asI .i64 a16 fun n17=>.call 18 [.int .i64 p1,.int .i64 n17] fun a18=>
 .asI .i64 a18 fun n19=>.opt (qB yA 22 A1 (.int .i64 n19)) fun a20=>.opt (tB yA 59 0 a20) fun a21=>.light (fun m=>mA yA 9 ⟨0,m⟩ a21) fun a22=>.asS a22 fun s23=>.call 17 [.agg [.str A0,A1,A2,A3]] fun a24=>
 .asG kK a24 fun X25=>
 .ite (kB zA.one [.str (X25.s 0),X25.v 1,X25.v 2,X25.v 3]) (.opt (qB yA 22 (X25.v 1) (.int .i64 n19)) fun a26=>.opt (tB yA 59 0 a26) fun a27=>.heavy (rC yA 9 a27 (.str [102,114,101,115,104,95,110,97,109,101])) fun _=>
 .call 16 [(.agg [.str (X25.s 0),X25.v 1,X25.v 2,X25.v 3])] fun a28=>
 .opt (mB 0 a28) fun a29=>.asI .i64 a29 fun n30=>.opt (mB 1 a28) fun a31=>.asI .i64 a31 fun n32=>.jump 2 [.str s23,.int .i64 n32,.bool false,.int .i64 0,.str (X25.s 0),X25.v 1,X25.v 2,X25.v 3]) .fail)))) .fail))
def w6(A0:List Nat)(A1 A2 A3:zA)(p1:Int)(h:wp 6 (t6 A0 A1 A2 A3 p1) m Q):Wf 6 [.agg [.str A0,A1,A2,A3],.int .i64 p1] m Q:=yC ok6 h
def t6_2 (v10:List Nat)(v13:Int)(v14:Bool)(v15:Int)(A0:List Nat)(A1 A2 A3:zA):T:=
 .opt (oB A3) fun a0=>.asI .i64 a0 fun n1=>.ite (bB v15 n1)
 (.opt (qB yA 24 A3 (.int .i64 v15)) fun a2=>.opt (cC a2) fun a3=>.opt (tB yA 56 6 a3) fun a4=>.light (fun m=>mA yA 36 ⟨0,m⟩ a4) fun a5=>.asG uH a5 fun X6=>
 .opt (cC a2) fun a7=>.opt (tB yA 56 7 a7) fun a8=>.light (fun m=>mA yA 36 ⟨0,m⟩ a8) fun a9=>.asG uH a9 fun X10=>
 .heavy (yH yA 36) fun a11=>
 .heavy (yH yA 36) fun jD=>
 .call 20 [(.agg [.int .u8 (X6.i 0),.str (X6.s 1),.int .u8 (X6.i 2),.bool (X6.b 3),X6.v 4,.bool (X6.b 5),X6.v 6,.int .i64 (X6.i 7),X6.v 8]),.str v10,.str [102,114,101,115,104,95,110,97,109,101]] fun a13=>
 .asG uH a13 fun X14=>
 .light (fun m=>mA yA 36 ⟨0,m⟩ a8) fun a15=>.ite (same 10 a15 (.agg [.int .u8 (X10.i 0),.str (X10.s 1),.int .u8 (X10.i 2),.bool (X10.b 3),X10.v 4,.bool (X10.b 5),X10.v 6,.int .i64 (X10.i 7),X10.v 8])) (.call 20 [(.agg [.int .u8 (X10.i 0),.str (X10.s 1),.int .u8 (X10.i 2),.bool (X10.b 3),X10.v 4,.bool (X10.b 5),X10.v 6,.int .i64 (X10.i 7),X10.v 8]),.str v10,.str [102,114,101,115,104,95,110,97,109,101]] fun a16=>
 .asG uH a16 fun X17=>
 .heavy (rC yA 36 a11 (.agg [.int .u8 (X14.i 0),.str (X14.s 1),.int .u8 (X14.i 2),.bool (X14.b 3),X14.v 4,.bool (X14.b 5),X14.v 6,.int .i64 (X14.i 7),X14.v 8])) fun _=>
 .heavy (rC yA 36 jD (.agg [.int .u8 (X17.i 0),.str (X17.s 1),.int .u8 (X17.i 2),.bool (X17.b 3),X17.v 4,.bool (X17.b 5),X17.v 6,.int .i64 (X17.i 7),X17.v 8])) fun _=>
 .ite v14
 (.light (fun m=>mA yA 36 ⟨0,m⟩ a11) fun a18=>.asG uH a18 fun X19=>
 .light (fun m=>mA yA 36 ⟨0,m⟩ jD) fun a20=>.asG uH a20 fun X21=>
 .opt (cC a2) fun a22=>.opt (tB yA 56 6 a22) fun a23=>.heavy (rC yA 36 a23 (.agg [.int .u8 (X19.i 0),.str (X19.s 1),.int .u8 (X19.i 2),.bool (X19.b 3),X19.v 4,.bool (X19.b 5),X19.v 6,.int .i64 (X19.i 7),X19.v 8])) fun _=>
 .light (fun m=>mA yA 36 ⟨0,m⟩ jD) fun a24=>.ite (same 10 a24 (.agg [.int .u8 (X21.i 0),.str (X21.s 1),.int .u8 (X21.i 2),.bool (X21.b 3),X21.v 4,.bool (X21.b 5),X21.v 6,.int .i64 (X21.i 7),X21.v 8])) (.opt (cC a2) fun a25=>.opt (tB yA 56 7 a25) fun a26=>.heavy (rC yA 36 a26 (.agg [.int .u8 (X21.i 0),.str (X21.s 1),.int .u8 (X21.i 2),.bool (X21.b 3),X21.v 4,.bool (X21.b 5),X21.v 6,.int .i64 (X21.i 7),X21.v 8])) fun _=>
 .opt (cC a2) fun a27=>.opt (tB yA 56 0 a27) fun a28=>.light (fun m=>mA yA 9 ⟨0,m⟩ a28) fun a29=>.asS a29 fun s30=>.ite (wE s30 v10)
 (.opt (cC a2) fun a31=>.opt (tB yA 56 0 a31) fun a32=>.heavy (rC yA 9 a32 (.str [102,114,101,115,104,95,110,97,109,101])) fun _=>
 .jump 2 [.str v10,.int .i64 v13,.bool true,(.int .i64 (tA .i64 (v15+1))),.str A0,A1,A2,A3])
 (.jump 2 [.str v10,.int .i64 v13,.bool true,(.int .i64 (tA .i64 (v15+1))),.str A0,A1,A2,A3])) .fail)
 (.opt (cC a2) fun a33=>.opt (tB yA 56 0 a33) fun a34=>.light (fun m=>mA yA 9 ⟨0,m⟩ a34) fun a35=>.asS a35 fun s36=>.ite (wE s36 v10)
 (.light (fun m=>mA yA 36 ⟨0,m⟩ a11) fun a37=>.asG uH a37 fun X38=>
 .light (fun m=>mA yA 36 ⟨0,m⟩ jD) fun a39=>.asG uH a39 fun X40=>
 .opt (cC a2) fun a41=>.opt (tB yA 56 6 a41) fun a42=>.heavy (rC yA 36 a42 (.agg [.int .u8 (X38.i 0),.str (X38.s 1),.int .u8 (X38.i 2),.bool (X38.b 3),X38.v 4,.bool (X38.b 5),X38.v 6,.int .i64 (X38.i 7),X38.v 8])) fun _=>
 .light (fun m=>mA yA 36 ⟨0,m⟩ jD) fun a43=>.ite (same 10 a43 (.agg [.int .u8 (X40.i 0),.str (X40.s 1),.int .u8 (X40.i 2),.bool (X40.b 3),X40.v 4,.bool (X40.b 5),X40.v 6,.int .i64 (X40.i 7),X40.v 8])) (.opt (cC a2) fun a44=>.opt (tB yA 56 7 a44) fun a45=>.heavy (rC yA 36 a45 (.agg [.int .u8 (X40.i 0),.str (X40.s 1),.int .u8 (X40.i 2),.bool (X40.b 3),X40.v 4,.bool (X40.b 5),X40.v 6,.int .i64 (X40.i 7),X40.v 8])) fun _=>
 .opt (cC a2) fun a46=>.opt (tB yA 56 0 a46) fun a47=>.light (fun m=>mA yA 9 ⟨0,m⟩ a47) fun a48=>.asS a48 fun s49=>.ite (wE s49 v10)
 (.opt (cC a2) fun a50=>.opt (tB yA 56 0 a50) fun a51=>.heavy (rC yA 9 a51 (.str [102,114,101,115,104,95,110,97,109,101])) fun _=>
 .jump 2 [.str v10,.int .i64 v13,.bool true,(.int .i64 (tA .i64 (v15+1))),.str A0,A1,A2,A3])
 (.jump 2 [.str v10,.int .i64 v13,.bool true,(.int .i64 (tA .i64 (v15+1))),.str A0,A1,A2,A3])) .fail)
 (.light (fun m=>mA yA 36 ⟨0,m⟩ a11) fun a52=>.asG uH a52 fun X53=>
 .opt (cC a2) fun a54=>.opt (tB yA 56 6 a54) fun a55=>.light (fun m=>mA yA 36 ⟨0,m⟩ a55) fun a56=>.asG uH a56 fun X57=>
 .call 21 [(.agg [.int .u8 (X53.i 0),.str (X53.s 1),.int .u8 (X53.i 2),.bool (X53.b 3),X53.v 4,.bool (X53.b 5),X53.v 6,.int .i64 (X53.i 7),X53.v 8]),(.agg [.int .u8 (X57.i 0),.str (X57.s 1),.int .u8 (X57.i 2),.bool (X57.b 3),X57.v 4,.bool (X57.b 5),X57.v 6,.int .i64 (X57.i 7),X57.v 8])] fun a58=>
 .asB a58 fun b59=>.ite (!b59)
 (.light (fun m=>mA yA 36 ⟨0,m⟩ a11) fun a60=>.asG uH a60 fun X61=>
 .light (fun m=>mA yA 36 ⟨0,m⟩ jD) fun a62=>.asG uH a62 fun X63=>
 .opt (cC a2) fun a64=>.opt (tB yA 56 6 a64) fun a65=>.heavy (rC yA 36 a65 (.agg [.int .u8 (X61.i 0),.str (X61.s 1),.int .u8 (X61.i 2),.bool (X61.b 3),X61.v 4,.bool (X61.b 5),X61.v 6,.int .i64 (X61.i 7),X61.v 8])) fun _=>
 .light (fun m=>mA yA 36 ⟨0,m⟩ jD) fun a66=>.ite (same 10 a66 (.agg [.int .u8 (X63.i 0),.str (X63.s 1),.int .u8 (X63.i 2),.bool (X63.b 3),X63.v 4,.bool (X63.b 5),X63.v 6,.int .i64 (X63.i 7),X63.v 8])) (.opt (cC a2) fun a67=>.opt (tB yA 56 7 a67) fun a68=>.heavy (rC yA 36 a68 (.agg [.int .u8 (X63.i 0),.str (X63.s 1),.int .u8 (X63.i 2),.bool (X63.b 3),X63.v 4,.bool (X63.b 5),X63.v 6,.int .i64 (X63.i 7),X63.v 8])) fun _=>
 .opt (cC a2) fun a69=>.opt (tB yA 56 0 a69) fun a70=>.light (fun m=>mA yA 9 ⟨0,m⟩ a70) fun a71=>.asS a71 fun s72=>.ite (wE s72 v10)
 (.opt (cC a2) fun a73=>.opt (tB yA 56 0 a73) fun a74=>.heavy (rC yA 9 a74 (.str [102,114,101,115,104,95,110,97,109,101])) fun _=>
 .jump 2 [.str v10,.int .i64 v13,.bool true,(.int .i64 (tA .i64 (v15+1))),.str A0,A1,A2,A3])
 (.jump 2 [.str v10,.int .i64 v13,.bool true,(.int .i64 (tA .i64 (v15+1))),.str A0,A1,A2,A3])) .fail)
 (.light (fun m=>mA yA 36 ⟨0,m⟩ jD) fun a75=>.asG uH a75 fun X76=>
 .opt (cC a2) fun a77=>.opt (tB yA 56 7 a77) fun a78=>.light (fun m=>mA yA 36 ⟨0,m⟩ a78) fun a79=>.asG uH a79 fun X80=>
 .call 21 [(.agg [.int .u8 (X76.i 0),.str (X76.s 1),.int .u8 (X76.i 2),.bool (X76.b 3),X76.v 4,.bool (X76.b 5),X76.v 6,.int .i64 (X76.i 7),X76.v 8]),(.agg [.int .u8 (X80.i 0),.str (X80.s 1),.int .u8 (X80.i 2),.bool (X80.b 3),X80.v 4,.bool (X80.b 5),X80.v 6,.int .i64 (X80.i 7),X80.v 8])] fun a81=>
 .asB a81 fun b82=>.light (fun m=>mA yA 36 ⟨0,m⟩ a11) fun a83=>.asG uH a83 fun X84=>
 .light (fun m=>mA yA 36 ⟨0,m⟩ jD) fun a85=>.asG uH a85 fun X86=>
 .opt (cC a2) fun a87=>.opt (tB yA 56 6 a87) fun a88=>.heavy (rC yA 36 a88 (.agg [.int .u8 (X84.i 0),.str (X84.s 1),.int .u8 (X84.i 2),.bool (X84.b 3),X84.v 4,.bool (X84.b 5),X84.v 6,.int .i64 (X84.i 7),X84.v 8])) fun _=>
 .light (fun m=>mA yA 36 ⟨0,m⟩ jD) fun a89=>.ite (same 10 a89 (.agg [.int .u8 (X86.i 0),.str (X86.s 1),.int .u8 (X86.i 2),.bool (X86.b 3),X86.v 4,.bool (X86.b 5),X86.v 6,.int .i64 (X86.i 7),X86.v 8])) (.opt (cC a2) fun a90=>.opt (tB yA 56 7 a90) fun a91=>.heavy (rC yA 36 a91 (.agg [.int .u8 (X86.i 0),.str (X86.s 1),.int .u8 (X86.i 2),.bool (X86.b 3),X86.v 4,.bool (X86.b 5),X86.v 6,.int .i64 (X86.i 7),X86.v 8])) fun _=>
 .opt (cC a2) fun a92=>.opt (tB yA 56 0 a92) fun a93=>.light (fun m=>mA yA 9 ⟨0,m⟩ a93) fun a94=>.asS a94 fun s95=>.ite (wE s95 v10)
 (.opt (cC a2) fun a96=>.opt (tB yA 56 0 a96) fun a97=>.heavy (rC yA 9 a97 (.str [102,114,101,115,104,95,110,97,109,101])) fun _=>
 .jump 2 [.str v10,.int .i64 v13,(.bool (!b82)),(.int .i64 (tA .i64 (v15+1))),.str A0,A1,A2,A3])
 (.jump 2 [.str v10,.int .i64 v13,(.bool (!b82)),(.int .i64 (tA .i64 (v15+1))),.str A0,A1,A2,A3])) .fail)))) .fail)
 (.call 16 [.agg [.str A0,A1,A2,A3]] fun a98=>
 .opt (mB 0 a98) fun a99=>.asI .i64 a99 fun n100=>.opt (mB 1 a98) fun a101=>.asI .i64 a101 fun n102=>.ite (jA n102 0)
 (.ite (bEq (jA v13 0) (!v14))
 (.ite (jA v13 0)
 (.ret (.bool true))
 (.ret (.bool (jA v13 141))))
 (.ret (.bool false)))
 (.ret (.bool false)))
def j6_2(v10:List Nat)(v13:Int)(v14:Bool)(v15:Int)(A0:List Nat)(A1 A2 A3:zA)(h:wp 6 (t6_2 v10 v13 v14 v15 A0 A1 A2 A3) m Q):jp 6 2 [.str v10,.int .i64 v13,.bool v14,.int .i64 v15,.str A0,A1,A2,A3] m Q:=wD ok6 h
def t12 (A0:Int)(A1:List Nat)(A2:Int)(A3:Bool)(A4:zA)(A5:Bool)(A6:zA)(A7:Int)(A8:zA):T:=
 .call 30 [.agg [.int .u8 A2,.bool A3,A4,.bool A5,A6,.int .i64 A7]] fun a0=>
 .asG [.int .u8 0,.bool false,.nilslice,.bool false,.nilslice,.int .i64 0] a0 fun X1=>
 .ite (kB zA.one [.int .u8 (X1.i 0),.bool (X1.b 1),X1.v 2,.bool (X1.b 3),X1.v 4,.int .i64 (X1.i 5)]) (.call 31 [A8] fun a2=>
 .ite (kB zA.one [a2]) (.ite (kB zA.one [.int .u8 A0,.str A1,.int .u8 (X1.i 0),.bool (X1.b 1),X1.v 2,.bool (X1.b 3),X1.v 4,.int .i64 (X1.i 5),a2]) (.ret (.agg [.int .u8 A0,.str A1,.int .u8 (X1.i 0),.bool (X1.b 1),X1.v 2,.bool (X1.b 3),X1.v 4,.int .i64 (X1.i 5),a2])) .fail) .fail) .fail
def w12(A0:Int)(A1:List Nat)(A2:Int)(A3:Bool)(A4:zA)(A5:Bool)(A6:zA)(A7:Int)(A8:zA)(h:wp 12 (t12 A0 A1 A2 A3 A4 A5 A6 A7 A8) m Q):Wf 12 [.agg [.int .u8 A0,.str A1,.int .u8 A2,.bool A3,A4,.bool A5,A6,.int .i64 A7,A8]] m Q:=yC ok12 h
def t15 (A0:List Nat)(A1 A2 A3:zA)(p1:Int):T:=
 .opt (oB A1) fun a0=>.asI .i64 a0 fun n1=>.opt (oB A2) fun a2=>.asI .i64 a2 fun n3=>.opt (oB A3) fun a4=>.asI .i64 a4 fun n5=>.jump 2 [.int .i64 p1,(.int .i64 (tA .i64 ((tA .i64 ((tA .i64 ((tA .i64 (1+(tA .i64 (Int.tdiv (Int.ofNat (yB A0)) 30))))+n1))+n3))+n5))),.int .i64 0,.str A0,A1,A2,A3]
def w15(A0:List Nat)(A1 A2 A3:zA)(p1:Int)(h:wp 15 (t15 A0 A1 A2 A3 p1) m Q):Wf 15 [.agg [.str A0,A1,A2,A3],.int .i64 p1] m Q:=yC ok15 h
def z9e(v1 v5 v6:Int)(A0:List Nat)(A1 A2 A3:zA):T:=
 .opt (oB A1) fun a0=>.asI .i64 a0 fun n1=>.ite (bB v6 n1)
 (.ite (jC v5 v1)
 (.opt (qB yA 22 A1 (.int .i64 v6)) fun a2=>.opt (tB yA 59 0 a2) fun a3=>.light (fun m=>mA yA 9 ⟨0,m⟩ a3) fun a4=>.asS a4 fun s5=>.jump 2 [.int .i64 v1,(.int .i64 (tA .i64 (v5+(tA .i64 (Int.tdiv (Int.ofNat (yB s5)) 30))))),(.int .i64 (tA .i64 (v6+1))),.str A0,A1,A2,A3])
 (.jump 6 [.int .i64 v1,.int .i64 v5,.int .i64 0,.str A0,A1,A2,A3]))
 (.jump 6 [.int .i64 v1,.int .i64 v5,.int .i64 0,.str A0,A1,A2,A3])
def j15_2(v1 v5 v6:Int)(A0:List Nat)(A1 A2 A3:zA)(h:wp 15 (z9e v1 v5 v6 A0 A1 A2 A3) m Q):jp 15 2 [.int .i64 v1,.int .i64 v5,.int .i64 v6,.str A0,A1,A2,A3] m Q:=wD ok15 h
def z9d(v1 v5 v7:Int)(A0:List Nat)(A1 A2 A3:zA):T:=
 .opt (oB A2) fun a0=>.asI .i64 a0 fun n1=>.ite (bB v7 n1)
 (.ite (jC v5 v1)
 (.opt (qB yA 23 A2 (.int .i64 v7)) fun a2=>.opt (tB yA 81 0 a2) fun a3=>.light (fun m=>mA yA 9 ⟨0,m⟩ a3) fun a4=>.asS a4 fun s5=>.jump 10 [.int .i64 v1,(.int .i64 (tA .i64 (v5+(tA .i64 (Int.tdiv (Int.ofNat (yB s5)) 30))))),.int .i64 v7,.int .i64 0,.str A0,A1,A2,A3])
 (.jump 14 [.int .i64 v1,.int .i64 v5,.int .i64 0,.str A0,A1,A2,A3]))
 (.jump 14 [.int .i64 v1,.int .i64 v5,.int .i64 0,.str A0,A1,A2,A3])
def j15_6(v1 v5 v7:Int)(A0:List Nat)(A1 A2 A3:zA)(h:wp 15 (z9d v1 v5 v7 A0 A1 A2 A3) m Q):jp 15 6 [.int .i64 v1,.int .i64 v5,.int .i64 v7,.str A0,A1,A2,A3] m Q:=wD ok15 h
def zxh(v1 v5 v7 v8:Int)(A0:List Nat)(A1 A2 A3:zA):T:=
 .opt (qB yA 23 A2 (.int .i64 v7)) fun a0=>.opt (tB yA 81 2 a0) fun a1=>.light (fun m=>mA yA 79 ⟨0,m⟩ a1) fun a2=>.opt (oB a2) fun a3=>.asI .i64 a3 fun n4=>.ite (bB v8 n4)
 (.ite (jC v5 v1)
 (.opt (qB yA 23 A2 (.int .i64 v7)) fun a5=>.opt (tB yA 81 2 a5) fun a6=>.light (fun m=>mA yA 79 ⟨0,m⟩ a6) fun a7=>.opt (qB yA 79 a7 (.int .i64 v8)) fun a8=>.opt (tB yA 84 3 a8) fun a9=>.light (fun m=>mA yA 31 ⟨0,m⟩ a9) fun a10=>.asG zz7z a10 fun X11=>
 .call 32 [(.agg [.bool (X11.b 0),X11.v 1,.bool (X11.b 2),X11.v 3])] fun jD=>
 .asI .i64 jD fun n13=>.jump 10 [.int .i64 v1,(.int .i64 (tA .i64 (v5+n13))),.int .i64 v7,(.int .i64 (tA .i64 (v8+1))),.str A0,A1,A2,A3])
 (.jump 6 [.int .i64 v1,.int .i64 v5,(.int .i64 (tA .i64 (v7+1))),.str A0,A1,A2,A3]))
 (.jump 6 [.int .i64 v1,.int .i64 v5,(.int .i64 (tA .i64 (v7+1))),.str A0,A1,A2,A3])
def z77(v1 v5 v7 v8:Int)(A0:List Nat)(A1 A2 A3:zA)(h:wp 15 (zxh v1 v5 v7 v8 A0 A1 A2 A3) m Q):jp 15 10 [.int .i64 v1,.int .i64 v5,.int .i64 v7,.int .i64 v8,.str A0,A1,A2,A3] m Q:=wD ok15 h
def zxg(v1 v5 v9:Int)(A0:List Nat)(A1 A2 A3:zA):T:=
 .opt (oB A3) fun a0=>.asI .i64 a0 fun n1=>.ite (bB v9 n1)
 (.ite (jC v5 v1)
 (.opt (qB yA 24 A3 (.int .i64 v9)) fun a2=>.light (fun m=>mA yA 56 ⟨0,m⟩ a2) fun a3=>.asG zz6z a3 fun X4=>
 .ite (kB zA.one [.str (X4.s 0),.str (X4.s 1),.int .i64 (X4.i 2),.int .i64 (X4.i 3),.int .i64 (X4.i 4),.bool (X4.b 5),.int .u8 (X4.i 6),.str (X4.s 7),.int .u8 (X4.i 8),.bool (X4.b 9),X4.v 10,.bool (X4.b 11),X4.v 12,.int .i64 (X4.i 13),X4.v 14,.int .u8 (X4.i 15),.str (X4.s 16),.int .u8 (X4.i 17),.bool (X4.b 18),X4.v 19,.bool (X4.b 20),X4.v 21,.int .i64 (X4.i 22),X4.v 23]) (.call 22 [(.agg [.int .u8 (X4.i 6),.str (X4.s 7),.int .u8 (X4.i 8),.bool (X4.b 9),X4.v 10,.bool (X4.b 11),X4.v 12,.int .i64 (X4.i 13),X4.v 14]),(.int .i64 (tA .i64 (v1-v5)))] fun a5=>
 .asI .i64 a5 fun n6=>.ite (same 10 (.str (X4.s 0)) (.str (X4.s 0))) (.ite (same 10 (.int .i64 (Int.ofNat (yB (X4.s 0)))) (.int .i64 (Int.ofNat (yB (X4.s 0))))) (.ite (same 10 (.str (X4.s 1)) (.str (X4.s 1))) (.ite (same 10 (.int .i64 (Int.ofNat (yB (X4.s 1)))) (.int .i64 (Int.ofNat (yB (X4.s 1))))) (.ite (jC (tA .i64 (v5+(tA .i64 ((tA .i64 ((tA .i64 (Int.tdiv (Int.ofNat (yB (X4.s 0))) 30))+(tA .i64 (Int.tdiv (Int.ofNat (yB (X4.s 1))) 30))))+n6)))) v1)
 (.call 22 [(.agg [.int .u8 (X4.i 15),.str (X4.s 16),.int .u8 (X4.i 17),.bool (X4.b 18),X4.v 19,.bool (X4.b 20),X4.v 21,.int .i64 (X4.i 22),X4.v 23]),(.int .i64 (tA .i64 (v1-(tA .i64 (v5+(tA .i64 ((tA .i64 ((tA .i64 (Int.tdiv (Int.ofNat (yB (X4.s 0))) 30))+(tA .i64 (Int.tdiv (Int.ofNat (yB (X4.s 1))) 30))))+n6)))))))] fun a7=>
 .asI .i64 a7 fun n8=>.jump 14 [.int .i64 v1,(.int .i64 (tA .i64 ((tA .i64 (v5+(tA .i64 ((tA .i64 ((tA .i64 (Int.tdiv (Int.ofNat (yB (X4.s 0))) 30))+(tA .i64 (Int.tdiv (Int.ofNat (yB (X4.s 1))) 30))))+n6))))+n8))),(.int .i64 (tA .i64 (v9+1))),.str A0,A1,A2,A3])
 (.jump 14 [.int .i64 v1,(.int .i64 (tA .i64 (v5+(tA .i64 ((tA .i64 ((tA .i64 (Int.tdiv (Int.ofNat (yB (X4.s 0))) 30))+(tA .i64 (Int.tdiv (Int.ofNat (yB (X4.s 1))) 30))))+n6))))),(.int .i64 (tA .i64 (v9+1))),.str A0,A1,A2,A3])) .fail) .fail) .fail) .fail) .fail)
 (.ret (.int .i64 v5)))
 (.ret (.int .i64 v5))
def z76(v1 v5 v9:Int)(A0:List Nat)(A1 A2 A3:zA)(h:wp 15 (zxg v1 v5 v9 A0 A1 A2 A3) m Q):jp 15 14 [.int .i64 v1,.int .i64 v5,.int .i64 v9,.str A0,A1,A2,A3] m Q:=wD ok15 h
def t16 (A0:List Nat)(A1 A2 A3:zA):T:=
 .call 33 [.agg [.str A0,A1,A2,A3]] fun a0=>
 .asI .i64 a0 fun n1=>.ite (!jA n1 0)
 (.ret (.tup [(.int .i64 (-1)),.int .i64 n1]))
 (.call 28 [.agg [.str A0,A1,A2,A3]] fun a2=>
 .opt (oB A3) fun a3=>.asI .i64 a3 fun n4=>.jump 2 [a2,A3,.int .i64 n4,.int .i64 0])
def w16(A0:List Nat)(A1 A2 A3:zA)(h:wp 16 (t16 A0 A1 A2 A3) m Q):Wf 16 [.agg [.str A0,A1,A2,A3]] m Q:=yC ok16 h
def t16_2(v5 v17:zA)(v18 v19:Int):T:=
 .ite (bB v19 v18)
 (.opt (qB yA 24 v17 (.int .i64 v19)) fun a0=>.light (fun m=>mA yA 56 ⟨0,m⟩ a0) fun a1=>.asG zz6z a1 fun X2=>
 .ite (kB zA.one [.str (X2.s 0),.str (X2.s 1),.int .i64 (X2.i 2),.int .i64 (X2.i 3),.int .i64 (X2.i 4),.bool (X2.b 5),.int .u8 (X2.i 6),.str (X2.s 7),.int .u8 (X2.i 8),.bool (X2.b 9),X2.v 10,.bool (X2.b 11),X2.v 12,.int .i64 (X2.i 13),X2.v 14,.int .u8 (X2.i 15),.str (X2.s 16),.int .u8 (X2.i 17),.bool (X2.b 18),X2.v 19,.bool (X2.b 20),X2.v 21,.int .i64 (X2.i 22),X2.v 23]) (.call 34 [v5,(.agg [.str (X2.s 0),.str (X2.s 1),.int .i64 (X2.i 2),.int .i64 (X2.i 3),.int .i64 (X2.i 4),.bool (X2.b 5),.int .u8 (X2.i 6),.str (X2.s 7),.int .u8 (X2.i 8),.bool (X2.b 9),X2.v 10,.bool (X2.b 11),X2.v 12,.int .i64 (X2.i 13),X2.v 14,.int .u8 (X2.i 15),.str (X2.s 16),.int .u8 (X2.i 17),.bool (X2.b 18),X2.v 19,.bool (X2.b 20),X2.v 21,.int .i64 (X2.i 22),X2.v 23])] fun a3=>
 .asI .i64 a3 fun n4=>.ite (!jA n4 0)
 (.ret (.tup [.int .i64 v19,.int .i64 n4]))
 (.jump 2 [v5,v17,.int .i64 v18,(.int .i64 (tA .i64 (v19+1)))])) .fail)
 (.ret (.tup [.int .i64 0,.int .i64 0]))
def j16_2(v5 v17:zA)(v18 v19:Int)(h:wp 16 (t16_2 v5 v17 v18 v19) m Q):jp 16 2 [v5,v17,.int .i64 v18,.int .i64 v19] m Q:=wD ok16 h
def t17 (A0:List Nat)(A1 A2 A3:zA):T:=
 .call 35 [A1] fun a0=>
 .ite (kB zA.one [a0]) (.call 36 [A2] fun a1=>
 .ite (kB zA.one [a1]) (.call 37 [A3] fun a2=>
 .ite (kB zA.one [a2]) (.ite (kB zA.one [.str A0,a0,a1,a2]) (.ret (.agg [.str A0,a0,a1,a2])) .fail) .fail) .fail) .fail
def w17(A0:List Nat)(A1 A2 A3:zA)(h:wp 17 (t17 A0 A1 A2 A3) m Q):Wf 17 [.agg [.str A0,A1,A2,A3]] m Q:=yC ok17 h
def t18 (p0 p1:Int):T:=
 .ite (bB p1 1)
 (.ret (.int .i64 0))
 (.opt (zvu .i64 p0 p1) fun a0=>.asI .i64 a0 fun n1=>.ite (bB n1 0)
 (.ret (.int .i64 (tA .i64 (n1+p1))))
 (.ret (.int .i64 n1)))
def w18(p0 p1:Int)(h:wp 18 (t18 p0 p1) m Q):Wf 18 [.int .i64 p0,.int .i64 p1] m Q:=yC ok18 h
def t19 (A0:List Nat)(A1 A2 A3:zA)(p1:List Nat):T:=
 .opt (oB A1) fun a0=>.asI .i64 a0 fun n1=>.jump 2 [.str p1,A1,.int .i64 n1,.int .i64 0,.str [],.int .u8 0,.bool false]
def w19(A0:List Nat)(A1 A2 A3:zA)(p1:List Nat)(h:wp 19 (t19 A0 A1 A2 A3 p1) m Q):Wf 19 [.agg [.str A0,A1,A2,A3],.str p1] m Q:=yC ok19 h
def t19_2(v1:List Nat)(v9:zA)(v10 v11:Int)(A0:List Nat)(A1:Int)(A2:Bool):T:=
 .ite (bB v11 v10)
 (.opt (qB yA 22 v9 (.int .i64 v11)) fun a0=>.light (fun m=>mA yA 59 ⟨0,m⟩ a0) fun a1=>.asG zvw a1 fun X2=>
 .ite true (.ite (wE (X2.s 0) v1)
 (.ite true (.ret (.tup [(.agg [.str (X2.s 0),.int .u8 (X2.i 1),.bool (X2.b 2)]),.bool true])) .fail)
 (.jump 2 [.str v1,v9,.int .i64 v10,(.int .i64 (tA .i64 (v11+1))),.str A0,.int .u8 A1,.bool A2])) .fail)
 (.ite true (.ite true (.ret (.tup [.agg [.str [],.int .u8 0,.bool false],.bool false])) .fail) .fail)
def j19_2(v1:List Nat)(v9:zA)(v10 v11:Int)(A0:List Nat)(A1:Int)(A2:Bool)(h:wp 19 (t19_2 v1 v9 v10 v11 A0 A1 A2) m Q):jp 19 2 [.str v1,v9,.int .i64 v10,.int .i64 v11,.str A0,.int .u8 A1,.bool A2] m Q:=wD ok19 h
def t20 (A0:Int)(A1:List Nat)(A2:Int)(A3:Bool)(A4:zA)(A5:Bool)(A6:zA)(A7:Int)(A8:zA)(p1 p2:List Nat):T:=
 .call 12 [.agg [.int .u8 A0,.str A1,.int .u8 A2,.bool A3,A4,.bool A5,A6,.int .i64 A7,A8]] fun a0=>
 .asG uH a0 fun X1=>
 .ite (kB zA.one [.int .u8 (X1.i 0),.str (X1.s 1),.int .u8 (X1.i 2),.bool (X1.b 3),X1.v 4,.bool (X1.b 5),X1.v 6,.int .i64 (X1.i 7),X1.v 8]) (.ite (wE (X1.s 1) p1)
 (.ite (!jA (X1.i 0) 6)
 (.ite (!jA (X1.i 0) 23)
 (.ite true (.jump 9 [.str p1,.str p2,.int .u8 0,.str [],.int .u8 0,.bool false,.nilslice,.bool false,.nilslice,.int .i64 0,.nilslice,.int .u8 (X1.i 0),.str p2,.int .u8 (X1.i 2),.bool (X1.b 3),X1.v 4,.bool (X1.b 5),X1.v 6,.int .i64 (X1.i 7),X1.v 8]) .fail)
 (.jump 9 [.str p1,.str p2,.int .u8 0,.str [],.int .u8 0,.bool false,.nilslice,.bool false,.nilslice,.int .i64 0,.nilslice,.int .u8 (X1.i 0),.str (X1.s 1),.int .u8 (X1.i 2),.bool (X1.b 3),X1.v 4,.bool (X1.b 5),X1.v 6,.int .i64 (X1.i 7),X1.v 8]))
 (.jump 9 [.str p1,.str p2,.int .u8 0,.str [],.int .u8 0,.bool false,.nilslice,.bool false,.nilslice,.int .i64 0,.nilslice,.int .u8 (X1.i 0),.str (X1.s 1),.int .u8 (X1.i 2),.bool (X1.b 3),X1.v 4,.bool (X1.b 5),X1.v 6,.int .i64 (X1.i 7),X1.v 8]))
 (.jump 9 [.str p1,.str p2,.int .u8 0,.str [],.int .u8 0,.bool false,.nilslice,.bool false,.nilslice,.int .i64 0,.nilslice,.int .u8 (X1.i 0),.str (X1.s 1),.int .u8 (X1.i 2),.bool (X1.b 3),X1.v 4,.bool (X1.b 5),X1.v 6,.int .i64 (X1.i 7),X1.v 8])) .fail
def w20(A0:Int)(A1:List Nat)(A2:Int)(A3:Bool)(A4:zA)(A5:Bool)(A6:zA)(A7:Int)(A8:zA)(p1 p2:List Nat)(h:wp 20 (t20 A0 A1 A2 A3 A4 A5 A6 A7 A8 p1 p2) m Q):Wf 20 [.agg [.int .u8 A0,.str A1,.int .u8 A2,.bool A3,A4,.bool A5,A6,.int .i64 A7,A8],.str p1,.str p2] m Q:=yC ok20 h
def t20_9(v1 v2:List Nat)(A0:Int)(A1:List Nat)(A2:Int)(A3:Bool)(A4:zA)(A5:Bool)(A6:zA)(A7:Int)(A8:zA)(A9:Int)(B0:List Nat)(B1:Int)(B2:Bool)(B3:zA)(B4:Bool)(B5:zA)(B6:Int)(B7:zA):T:=
 .jump 2 [.str v1,.str v2,.int .i64 0,.int .u8 A0,.str A1,.int .u8 A2,.bool A3,A4,.bool A5,A6,.int .i64 A7,A8,.int .u8 A9,.str B0,.int .u8 B1,.bool B2,B3,.bool B4,B5,.int .i64 B6,B7]
def j20_9(v1 v2:List Nat)(A0:Int)(A1:List Nat)(A2:Int)(A3:Bool)(A4:zA)(A5:Bool)(A6:zA)(A7:Int)(A8:zA)(A9:Int)(B0:List Nat)(B1:Int)(B2:Bool)(B3:zA)(B4:Bool)(B5:zA)(B6:Int)(B7:zA)(h:wp 20 (t20_9 v1 v2 A0 A1 A2 A3 A4 A5 A6 A7 A8 A9 B0 B1 B2 B3 B4 B5 B6 B7) m Q):jp 20 9 [.str v1,.str v2,.int .u8 A0,.str A1,.int .u8 A2,.bool A3,A4,.bool A5,A6,.int .i64 A7,A8,.int .u8 A9,.str B0,.int .u8 B1,.bool B2,B3,.bool B4,B5,.int .i64 B6,B7] m Q:=wD ok20 h
def z9c(v1 v2:List Nat)(v8 A0:Int)(A1:List Nat)(A2:Int)(A3:Bool)(A4:zA)(A5:Bool)(A6:zA)(A7:Int)(A8:zA)(A9:Int)(B0:List Nat)(B1:Int)(B2:Bool)(B3:zA)(B4:Bool)(B5:zA)(B6:Int)(B7:zA):T:=
 .opt (oB B7) fun a0=>.asI .i64 a0 fun n1=>.ite (bB v8 n1)
 (.opt (qB yA 34 B7 (.int .i64 v8)) fun a2=>.light (fun m=>mA yA 36 ⟨0,m⟩ a2) fun a3=>.asG uH a3 fun X4=>
 .call 20 [(.agg [.int .u8 (X4.i 0),.str (X4.s 1),.int .u8 (X4.i 2),.bool (X4.b 3),X4.v 4,.bool (X4.b 5),X4.v 6,.int .i64 (X4.i 7),X4.v 8]),.str v1,.str v2] fun a5=>
 .asG uH a5 fun X6=>
 .ite (same 10 B7 B7) (.opt (qB yA 34 B7 (.int .i64 v8)) fun a7=>.heavy (rC yA 36 a7 (.agg [.int .u8 (X6.i 0),.str (X6.s 1),.int .u8 (X6.i 2),.bool (X6.b 3),X6.v 4,.bool (X6.b 5),X6.v 6,.int .i64 (X6.i 7),X6.v 8])) fun _=>
 .jump 2 [.str v1,.str v2,(.int .i64 (tA .i64 (v8+1))),.int .u8 A0,.str A1,.int .u8 A2,.bool A3,A4,.bool A5,A6,.int .i64 A7,A8,.int .u8 A9,.str B0,.int .u8 B1,.bool B2,B3,.bool B4,B5,.int .i64 B6,B7]) .fail)
 (.ite (kB zA.one [.int .u8 A9,.str B0,.int .u8 B1,.bool B2,B3,.bool B4,B5,.int .i64 B6,B7]) (.ret (.agg [.int .u8 A9,.str B0,.int .u8 B1,.bool B2,B3,.bool B4,B5,.int .i64 B6,B7])) .fail)
def j20_2(v1 v2:List Nat)(v8 A0:Int)(A1:List Nat)(A2:Int)(A3:Bool)(A4:zA)(A5:Bool)(A6:zA)(A7:Int)(A8:zA)(A9:Int)(B0:List Nat)(B1:Int)(B2:Bool)(B3:zA)(B4:Bool)(B5:zA)(B6:Int)(B7:zA)(h:wp 20 (z9c v1 v2 v8 A0 A1 A2 A3 A4 A5 A6 A7 A8 A9 B0 B1 B2 B3 B4 B5 B6 B7) m Q):jp 20 2 [.str v1,.str v2,.int .i64 v8,.int .u8 A0,.str A1,.int .u8 A2,.bool A3,A4,.bool A5,A6,.int .i64 A7,A8,.int .u8 A9,.str B0,.int .u8 B1,.bool B2,B3,.bool B4,B5,.int .i64 B6,B7] m Q:=wD ok20 h
def t21 (A0:Int)(A1:List Nat)(A2:Int)(A3:Bool)(A4:zA)(A5:Bool)(A6:zA)(A7:Int)(A8:zA)(A9:Int)(B0:List Nat)(B1:Int)(B2:Bool)(B3:zA)(B4:Bool)(B5:zA)(B6:Int)(B7:zA):T:=
 .ite (jA A0 A9)
 (.ite (wE A1 B0)
 (.call 38 [.agg [.int .u8 A2,.bool A3,A4,.bool A5,A6,.int .i64 A7],.agg [.int .u8 B1,.bool B2,B3,.bool B4,B5,.int .i64 B6]] fun a0=>
 .asB a0 fun b1=>.ite b1
 (.call 39 [A8,B7] fun a2=>
 .asB a2 fun b3=>.ret (.bool b3))
 (.ret (.bool false)))
 (.ret (.bool false)))
 (.ret (.bool false))
def w21(A0:Int)(A1:List Nat)(A2:Int)(A3:Bool)(A4:zA)(A5:Bool)(A6:zA)(A7:Int)(A8:zA)(A9:Int)(B0:List Nat)(B1:Int)(B2:Bool)(B3:zA)(B4:Bool)(B5:zA)(B6:Int)(B7:zA)(h:wp 21 (t21 A0 A1 A2 A3 A4 A5 A6 A7 A8 A9 B0 B1 B2 B3 B4 B5 B6 B7) m Q):Wf 21 [.agg [.int .u8 A0,.str A1,.int .u8 A2,.bool A3,A4,.bool A5,A6,.int .i64 A7,A8],.agg [.int .u8 A9,.str B0,.int .u8 B1,.bool B2,B3,.bool B4,B5,.int .i64 B6,B7]] m Q:=yC ok21 h
def t22 (A0:Int)(A1:List Nat)(A2:Int)(A3:Bool)(A4:zA)(A5:Bool)(A6:zA)(A7:Int)(A8:zA)(p1:Int):T:=
 .call 32 [.agg [.bool A3,A4,.bool A5,A6]] fun a0=>
 .asI .i64 a0 fun n1=>.ite (same 10 (.str A1) (.str A1)) (.ite (same 10 (.int .i64 (Int.ofNat (yB A1))) (.int .i64 (Int.ofNat (yB A1)))) (.jump 2 [.int .i64 p1,(.int .i64 (tA .i64 (n1+(tA .i64 (Int.tdiv (Int.ofNat (yB A1)) 30))))),.int .i64 0,.int .u8 A0,.str A1,.int .u8 A2,.bool A3,A4,.bool A5,A6,.int .i64 A7,A8]) .fail) .fail
def w22(A0:Int)(A1:List Nat)(A2:Int)(A3:Bool)(A4:zA)(A5:Bool)(A6:zA)(A7:Int)(A8:zA)(p1:Int)(h:wp 22 (t22 A0 A1 A2 A3 A4 A5 A6 A7 A8 p1) m Q):Wf 22 [.agg [.int .u8 A0,.str A1,.int .u8 A2,.bool A3,A4,.bool A5,A6,.int .i64 A7,A8],.int .i64 p1] m Q:=yC ok22 h
def z9b(v1 v5 v6 A0:Int)(A1:List Nat)(A2:Int)(A3:Bool)(A4:zA)(A5:Bool)(A6:zA)(A7:Int)(A8:zA):T:=
 .opt (oB A8) fun a0=>.asI .i64 a0 fun n1=>.ite (bB v6 n1)
 (.ite (jC v5 v1)
 (.opt (qB yA 34 A8 (.int .i64 v6)) fun a2=>.light (fun m=>mA yA 36 ⟨0,m⟩ a2) fun a3=>.asG uH a3 fun X4=>
 .call 22 [(.agg [.int .u8 (X4.i 0),.str (X4.s 1),.int .u8 (X4.i 2),.bool (X4.b 3),X4.v 4,.bool (X4.b 5),X4.v 6,.int .i64 (X4.i 7),X4.v 8]),(.int .i64 (tA .i64 (v1-v5)))] fun a5=>
 .asI .i64 a5 fun n6=>.jump 2 [.int .i64 v1,(.int .i64 (tA .i64 (v5+n6))),(.int .i64 (tA .i64 (v6+1))),.int .u8 A0,.str A1,.int .u8 A2,.bool A3,A4,.bool A5,A6,.int .i64 A7,A8])
 (.ret (.int .i64 v5)))
 (.ret (.int .i64 v5))
def j22_2(v1 v5 v6 A0:Int)(A1:List Nat)(A2:Int)(A3:Bool)(A4:zA)(A5:Bool)(A6:zA)(A7:Int)(A8:zA)(h:wp 22 (z9b v1 v5 v6 A0 A1 A2 A3 A4 A5 A6 A7 A8) m Q):jp 22 2 [.int .i64 v1,.int .i64 v5,.int .i64 v6,.int .u8 A0,.str A1,.int .u8 A2,.bool A3,A4,.bool A5,A6,.int .i64 A7,A8] m Q:=wD ok22 h
def t23 (A0:Int)(A1:List Nat)(A2:Int)(A3:Bool)(A4:zA)(A5:Bool)(A6:zA)(A7:Int)(A8:zA):T:=
 .opt (oB A8) fun a0=>.asI .i64 a0 fun n1=>.jump 2 [.int .i64 1,A8,.int .i64 n1,.int .i64 0]
def w23(A0:Int)(A1:List Nat)(A2:Int)(A3:Bool)(A4:zA)(A5:Bool)(A6:zA)(A7:Int)(A8:zA)(h:wp 23 (t23 A0 A1 A2 A3 A4 A5 A6 A7 A8) m Q):Wf 23 [.agg [.int .u8 A0,.str A1,.int .u8 A2,.bool A3,A4,.bool A5,A6,.int .i64 A7,A8]] m Q:=yC ok23 h
def z9a(v3:Int)(v7:zA)(v8 v9:Int):T:=
 .ite (bB v9 v8)
 (.opt (qB yA 34 v7 (.int .i64 v9)) fun a0=>.light (fun m=>mA yA 36 ⟨0,m⟩ a0) fun a1=>.asG uH a1 fun X2=>
 .ite (kB zA.one [.int .u8 (X2.i 0),.str (X2.s 1),.int .u8 (X2.i 2),.bool (X2.b 3),X2.v 4,.bool (X2.b 5),X2.v 6,.int .i64 (X2.i 7),X2.v 8]) (.call 23 [(.agg [.int .u8 (X2.i 0),.str (X2.s 1),.int .u8 (X2.i 2),.bool (X2.b 3),X2.v 4,.bool (X2.b 5),X2.v 6,.int .i64 (X2.i 7),X2.v 8])] fun a3=>
 .asI .i64 a3 fun n4=>.jump 2 [(.int .i64 (tA .i64 (v3+n4))),v7,.int .i64 v8,(.int .i64 (tA .i64 (v9+1)))]) .fail)
 (.ret (.int .i64 v3))
def j23_2(v3:Int)(v7:zA)(v8 v9:Int)(h:wp 23 (z9a v3 v7 v8 v9) m Q):jp 23 2 [.int .i64 v3,v7,.int .i64 v8,.int .i64 v9] m Q:=wD ok23 h
def t24 (A0:List Nat)(A1 A2 A3:zA)(A4:Int)(A5:List Nat)(A6:Int)(A7:Bool)(A8:zA)(A9:Bool)(B0:zA)(B1:Int)(B2:zA):T:=
 .call 19 [.agg [.str A0,A1,A2,A3],.str A5] fun a0=>
 .opt (mB 0 a0) fun a1=>.asG zvw a1 fun X2=>
 .opt (mB 1 a0) fun a3=>.asB a3 fun b4=>.ite true (.call 40 [.agg [.str A0,A1,A2,A3],.str A5] fun a5=>
 .opt (mB 0 a5) fun a6=>.asG lK a6 fun X7=>
 .opt (mB 1 a5) fun a8=>.asB a8 fun b9=>.ite (kB zA.one [.str (X7.s 0),.bool (X7.b 1),X7.v 2]) (.ite (jA A4 3)
 (.ite (jA A4 3)
 (.ite (!b4)
 (.ret (.bool false))
 (.ite (!(X2.b 2))
 (.ret (.bool false))
 (.jump 47 [.str A0,A1,A2,A3,.int .u8 A4,.str A5,.int .u8 A6,.bool A7,A8,.bool A9,B0,.int .i64 B1,B2])))
 (.ite (jA A4 5)
 (.ite (!b4)
 (.ret (.bool false))
 (.ite (X2.b 2)
 (.ret (.bool false))
 (.jump 47 [.str A0,A1,A2,A3,.int .u8 A4,.str A5,.int .u8 A6,.bool A7,A8,.bool A9,B0,.int .i64 B1,B2])))
 (.ite (jA A4 21)
 (.ite (!b4)
 (.ret (.bool false))
 (.ite (!(X2.b 2))
 (.ret (.bool false))
 (.ite (!jA (X2.i 1) 2)
 (.ret (.bool false))
 (.jump 47 [.str A0,A1,A2,A3,.int .u8 A4,.str A5,.int .u8 A6,.bool A7,A8,.bool A9,B0,.int .i64 B1,B2]))))
 (.ite (jA A4 22)
 (.ite (!b4)
 (.ret (.bool false))
 (.ite (!(X2.b 2))
 (.ret (.bool false))
 (.ite (!jA (X2.i 1) 3)
 (.ret (.bool false))
 (.jump 47 [.str A0,A1,A2,A3,.int .u8 A4,.str A5,.int .u8 A6,.bool A7,A8,.bool A9,B0,.int .i64 B1,B2]))))
 (.ite (jA A4 6)
 (.ite (!b9)
 (.ret (.bool false))
 (.opt (oB B2) fun a10=>.asI .i64 a10 fun n11=>.ite (!bEq (X7.b 1) (jA n11 2))
 (.ret (.bool false))
 (.jump 47 [.str A0,A1,A2,A3,.int .u8 A4,.str A5,.int .u8 A6,.bool A7,A8,.bool A9,B0,.int .i64 B1,B2])))
 (.ite (jA A4 23)
 (.ite (!b9)
 (.ret (.bool false))
 (.ite (X7.b 1)
 (.ret (.bool false))
 (.jump 47 [.str A0,A1,A2,A3,.int .u8 A4,.str A5,.int .u8 A6,.bool A7,A8,.bool A9,B0,.int .i64 B1,B2])))
 (.jump 47 [.str A0,A1,A2,A3,.int .u8 A4,.str A5,.int .u8 A6,.bool A7,A8,.bool A9,B0,.int .i64 B1,B2])))))))
 (.ite (jA A4 4)
 (.ite (!b4)
 (.ret (.bool false))
 (.ite (!(X2.b 2))
 (.ret (.bool false))
 (.jump 47 [.str A0,A1,A2,A3,.int .u8 A4,.str A5,.int .u8 A6,.bool A7,A8,.bool A9,B0,.int .i64 B1,B2])))
 (.ite (jA A4 5)
 (.ite (!b4)
 (.ret (.bool false))
 (.ite (X2.b 2)
 (.ret (.bool false))
 (.jump 47 [.str A0,A1,A2,A3,.int .u8 A4,.str A5,.int .u8 A6,.bool A7,A8,.bool A9,B0,.int .i64 B1,B2])))
 (.ite (jA A4 21)
 (.ite (!b4)
 (.ret (.bool false))
 (.ite (!(X2.b 2))
 (.ret (.bool false))
 (.ite (!jA (X2.i 1) 2)
 (.ret (.bool false))
 (.jump 47 [.str A0,A1,A2,A3,.int .u8 A4,.str A5,.int .u8 A6,.bool A7,A8,.bool A9,B0,.int .i64 B1,B2]))))
 (.ite (jA A4 22)
 (.ite (!b4)
 (.ret (.bool false))
 (.ite (!(X2.b 2))
 (.ret (.bool false))
 (.ite (!jA (X2.i 1) 3)
 (.ret (.bool false))
 (.jump 47 [.str A0,A1,A2,A3,.int .u8 A4,.str A5,.int .u8 A6,.bool A7,A8,.bool A9,B0,.int .i64 B1,B2]))))
 (.ite (jA A4 6)
 (.ite (!b9)
 (.ret (.bool false))
 (.opt (oB B2) fun jD=>.asI .i64 jD fun n13=>.ite (!bEq (X7.b 1) (jA n13 2))
 (.ret (.bool false))
 (.jump 47 [.str A0,A1,A2,A3,.int .u8 A4,.str A5,.int .u8 A6,.bool A7,A8,.bool A9,B0,.int .i64 B1,B2])))
 (.ite (jA A4 23)
 (.ite (!b9)
 (.ret (.bool false))
 (.ite (X7.b 1)
 (.ret (.bool false))
 (.jump 47 [.str A0,A1,A2,A3,.int .u8 A4,.str A5,.int .u8 A6,.bool A7,A8,.bool A9,B0,.int .i64 B1,B2])))
 (.jump 47 [.str A0,A1,A2,A3,.int .u8 A4,.str A5,.int .u8 A6,.bool A7,A8,.bool A9,B0,.int .i64 B1,B2])))))))) .fail) .fail
def w24(A0:List Nat)(A1 A2 A3:zA)(A4:Int)(A5:List Nat)(A6:Int)(A7:Bool)(A8:zA)(A9:Bool)(B0:zA)(B1:Int)(B2:zA)(h:wp 24 (t24 A0 A1 A2 A3 A4 A5 A6 A7 A8 A9 B0 B1 B2) m Q):Wf 24 [.agg [.str A0,A1,A2,A3],.agg [.int .u8 A4,.str A5,.int .u8 A6,.bool A7,A8,.bool A9,B0,.int .i64 B1,B2]] m Q:=yC ok24 h
def t28 (A0:List Nat)(A1 A2 A3:zA):T:=
 .ite true (.ite true (.ite true (.ite true (.ite true (.ite true (.ite true (.ite true (.ite true (.ite true (.ite true (.ite true (.ite true (.ite true (.ite true (.ite true (.ite true (.ite true (.ite true (.ite true (.ite true (.ite true (.ite true (.ite true (.ite true (.heavy lT fun a0=>
 .heavy (dP yA [.upd 100 a0 (.agg [.int .u8 2,.int .u8 0,.int .u8 0,.int .u8 0]) (.int .u8 4),.upd 100 a0 (.agg [.int .u8 4,.int .u8 4,.int .u8 0,.int .u8 0]) (.int .u8 1),.upd 100 a0 (.agg [.int .u8 6,.int .u8 2,.int .u8 0,.int .u8 0]) (.int .u8 2),.upd 100 a0 (.agg [.int .u8 6,.int .u8 2,.int .u8 2,.int .u8 0]) (.int .u8 2),.upd 100 a0 (.agg [.int .u8 8,.int .u8 4,.int .u8 4,.int .u8 0]) (.int .u8 5),.upd 100 a0 (.agg [.int .u8 9,.int .u8 2,.int .u8 2,.int .u8 0]) (.int .u8 2),.upd 100 a0 (.agg [.int .u8 9,.int .u8 3,.int .u8 2,.int .u8 0]) (.int .u8 3),.upd 100 a0 (.agg [.int .u8 9,.int .u8 2,.int .u8 3,.int .u8 0]) (.int .u8 3),.upd 100 a0 (.agg [.int .u8 10,.int .u8 2,.int .u8 2,.int .u8 0]) (.int .u8 2),.upd 100 a0 (.agg [.int .u8 10,.int .u8 3,.int .u8 2,.int .u8 0]) (.int .u8 3),.upd 100 a0 (.agg [.int .u8 10,.int .u8 3,.int .u8 3,.int .u8 0]) (.int .u8 2),.upd 100 a0 (.agg [.int .u8 15,.int .u8 1,.int .u8 1,.int .u8 0]) (.int .u8 1),.upd 100 a0 (.agg [.int .u8 16,.int .u8 1,.int .u8 1,.int .u8 0]) (.int .u8 1),.upd 100 a0 (.agg [.int .u8 17,.int .u8 1,.int .u8 0,.int .u8 0]) (.int .u8 1),.upd 100 a0 (.agg [.int .u8 19,.int .u8 2,.int .u8 2,.int .u8 0]) (.int .u8 2),.upd 100 a0 (.agg [.int .u8 19,.int .u8 3,.int .u8 3,.int .u8 0]) (.int .u8 3),.upd 100 a0 (.agg [.int .u8 20,.int .u8 4,.int .u8 4,.int .u8 0]) (.int .u8 6),.upd 100 a0 (.agg [.int .u8 21,.int .u8 4,.int .u8 4,.int .u8 0]) (.int .u8 2),.upd 100 a0 (.agg [.int .u8 22,.int .u8 4,.int .u8 4,.int .u8 6]) (.int .u8 3),.upd 100 a0 (.agg [.int .u8 23,.int .u8 4,.int .u8 4,.int .u8 0]) (.int .u8 2),.upd 100 a0 (.agg [.int .u8 24,.int .u8 2,.int .u8 0,.int .u8 0]) (.int .u8 6),.upd 100 a0 (.agg [.int .u8 25,.int .u8 5,.int .u8 0,.int .u8 0]) (.int .u8 2),.upd 100 a0 (.agg [.int .u8 25,.int .u8 6,.int .u8 0,.int .u8 0]) (.int .u8 2),.upd 100 a0 (.agg [.int .u8 25,.int .u8 3,.int .u8 0,.int .u8 0]) (.int .u8 2),.upd 100 a0 (.agg [.int .u8 26,.int .u8 4,.int .u8 0,.int .u8 0]) (.int .u8 4)]) fun _=>
 .ite true (.jump 2 [a0,.agg [.int .u8 7,.int .u8 8],.int .i64 0,.str A0,A1,A2,A3]) .fail) .fail) .fail) .fail) .fail) .fail) .fail) .fail) .fail) .fail) .fail) .fail) .fail) .fail) .fail) .fail) .fail) .fail) .fail) .fail) .fail) .fail) .fail) .fail) .fail) .fail
def w28(A0:List Nat)(A1 A2 A3:zA)(h:wp 28 (t28 A0 A1 A2 A3) m Q):Wf 28 [.agg [.str A0,A1,A2,A3]] m Q:=yC ok28 h
def t28_2(v3:zA)(A0 A1 v37:Int)(A2:List Nat)(A3 A4 A5:zA):T:=
 .ite (bB v37 2)
 (.opt (sJ yA 101 (.agg [.int .u8 A0,.int .u8 A1]) (.int .i64 v37)) fun a0=>.asI .u8 a0 fun n1=>.ite true (.jump 6 [v3,.int .u8 n1,.agg [.int .u8 A0,.int .u8 A1],.int .i64 v37,.agg [.int .u8 2,.int .u8 3,.int .u8 5,.int .u8 6],.int .i64 0,.str A2,A3,A4,A5]) .fail)
 (.jump 10 [v3,.int .u8 1,.str A2,A3,A4,A5])
def zzaf(v3:zA)(A0 A1 v37:Int)(A2:List Nat)(A3 A4 A5:zA)(h:wp 28 (t28_2 v3 A0 A1 v37 A2 A3 A4 A5) m Q):jp 28 2 [v3,.agg [.int .u8 A0,.int .u8 A1],.int .i64 v37,.str A2,A3,A4,A5] m Q:=wD ok28 h
def t28_6(v3:zA)(v5 A0 A1 v37 A2 A3 A4 A5 v41:Int)(A6:List Nat)(A7 A8 A9:zA):T:=
 .ite (bB v41 4)
 (.opt (sJ yA 102 (.agg [.int .u8 A2,.int .u8 A3,.int .u8 A4,.int .u8 A5]) (.int .i64 v41)) fun a0=>.asI .u8 a0 fun n1=>.ite true (.heavy (rI yA 100 v3 (.agg [.int .u8 v5,.int .u8 n1,.int .u8 n1,.int .u8 0]) (.int .u8 n1)) fun _=>
 .jump 6 [v3,.int .u8 v5,.agg [.int .u8 A0,.int .u8 A1],.int .i64 v37,.agg [.int .u8 A2,.int .u8 A3,.int .u8 A4,.int .u8 A5],(.int .i64 (tA .i64 (v41+1))),.str A6,A7,A8,A9]) .fail)
 (.ite true (.heavy (rI yA 100 v3 (.agg [.int .u8 v5,.int .u8 4,.int .u8 5,.int .u8 0]) (.int .u8 4)) fun _=>
 .ite true (.heavy (rI yA 100 v3 (.agg [.int .u8 v5,.int .u8 4,.int .u8 6,.int .u8 0]) (.int .u8 4)) fun _=>
 .jump 2 [v3,.agg [.int .u8 A0,.int .u8 A1],(.int .i64 (tA .i64 (v37+1))),.str A6,A7,A8,A9]) .fail) .fail)
def zzx(v3:zA)(v5 A0 A1 v37 A2 A3 A4 A5 v41:Int)(A6:List Nat)(A7 A8 A9:zA)(h:wp 28 (t28_6 v3 v5 A0 A1 v37 A2 A3 A4 A5 v41 A6 A7 A8 A9) m Q):jp 28 6 [v3,.int .u8 v5,.agg [.int .u8 A0,.int .u8 A1],.int .i64 v37,.agg [.int .u8 A2,.int .u8 A3,.int .u8 A4,.int .u8 A5],.int .i64 v41,.str A6,A7,A8,A9] m Q:=wD ok28 h
def t28_10(v3:zA)(v8:Int)(A0:List Nat)(A1 A2 A3:zA):T:=
 .ite (jC v8 6)
 (.ite true (.heavy (rI yA 100 v3 (.agg [.int .u8 14,.int .u8 v8,.int .u8 v8,.int .u8 0]) (.int .u8 1)) fun _=>
 .ite true (.heavy (rI yA 100 v3 (.agg [.int .u8 18,.int .u8 1,.int .u8 v8,.int .u8 v8]) (.int .u8 v8)) fun _=>
 .ite (!jA v8 1)
 (.ite true (.heavy (rI yA 100 v3 (.agg [.int .u8 11,.int .u8 v8,.int .u8 v8,.int .u8 0]) (.int .u8 v8)) fun _=>
 .ite true (.heavy (rI yA 100 v3 (.agg [.int .u8 12,.int .u8 v8,.int .u8 v8,.int .u8 0]) (.int .u8 v8)) fun _=>
 .ite true (.heavy (rI yA 100 v3 (.agg [.int .u8 13,.int .u8 v8,.int .u8 v8,.int .u8 0]) (.int .u8 1)) fun _=>
 .jump 10 [v3,(.int .u8 (tA .u8 (v8+1))),.str A0,A1,A2,A3]) .fail) .fail) .fail)
 (.jump 10 [v3,(.int .u8 (tA .u8 (v8+1))),.str A0,A1,A2,A3])) .fail) .fail)
 (.ite (kB zA.one [v3]) (.heavy (ztb (.agg [.str A0,A1,A2,A3,v3])) fun a0=>
 .ret a0) .fail)
def zzy(v3:zA)(v8:Int)(A0:List Nat)(A1 A2 A3:zA)(h:wp 28 (t28_10 v3 v8 A0 A1 A2 A3) m Q):jp 28 10 [v3,.int .u8 v8,.str A0,A1,A2,A3] m Q:=wD ok28 h
def t30 (A0:Int)(A1:Bool)(A2:zA)(A3:Bool)(A4:zA)(A5:Int):T:=
 .call 45 [.agg [.bool A1,A2,.bool A3,A4]] fun a0=>
 .asG zz7z a0 fun X1=>
 .ite (kB zA.one [.bool (X1.b 0),X1.v 1,.bool (X1.b 2),X1.v 3]) (.ite (kB zA.one [.int .u8 A0,.bool (X1.b 0),X1.v 1,.bool (X1.b 2),X1.v 3,.int .i64 A5]) (.ret (.agg [.int .u8 A0,.bool (X1.b 0),X1.v 1,.bool (X1.b 2),X1.v 3,.int .i64 A5])) .fail) .fail
def w30(A0:Int)(A1:Bool)(A2:zA)(A3:Bool)(A4:zA)(A5:Int)(h:wp 30 (t30 A0 A1 A2 A3 A4 A5) m Q):Wf 30 [.agg [.int .u8 A0,.bool A1,A2,.bool A3,A4,.int .i64 A5]] m Q:=yC ok30 h
def t31 (p0:zA):T:=
 .jump 2 [p0,.nilslice,.int .i64 0]
def w31(p0:zA)(h:wp 31 (t31 p0) m Q):Wf 31 [p0] m Q:=yC ok31 h
def t31_2(v0 v3:zA)(v4:Int):T:=
 .opt (oB v0) fun a0=>.asI .i64 a0 fun n1=>.ite (bB v4 n1)
 (.opt (qB yA 34 v0 (.int .i64 v4)) fun a2=>.light (fun m=>mA yA 36 ⟨0,m⟩ a2) fun a3=>.asG uH a3 fun X4=>
 .call 12 [(.agg [.int .u8 (X4.i 0),.str (X4.s 1),.int .u8 (X4.i 2),.bool (X4.b 3),X4.v 4,.bool (X4.b 5),X4.v 6,.int .i64 (X4.i 7),X4.v 8])] fun a5=>
 .asG uH a5 fun X6=>
 .ite (kB zA.one [.int .u8 (X6.i 0),.str (X6.s 1),.int .u8 (X6.i 2),.bool (X6.b 3),X6.v 4,.bool (X6.b 5),X6.v 6,.int .i64 (X6.i 7),X6.v 8]) (.heavy (cH yA 34 1 [(0,(.agg [.int .u8 (X6.i 0),.str (X6.s 1),.int .u8 (X6.i 2),.bool (X6.b 3),X6.v 4,.bool (X6.b 5),X6.v 6,.int .i64 (X6.i 7),X6.v 8]))]) fun a7=>
 .heavy (pF yA 34 34 v3 a7) fun a8=>
 .jump 2 [v0,a8,(.int .i64 (tA .i64 (v4+1)))]) .fail)
 (.ret v3)
def j31_2(v0 v3:zA)(v4:Int)(h:wp 31 (t31_2 v0 v3 v4) m Q):jp 31 2 [v0,v3,.int .i64 v4] m Q:=wD ok31 h
def t32 (A0:Bool)(A1:zA)(A2:Bool)(A3:zA):T:=
 .opt (oB A1) fun a0=>.asI .i64 a0 fun n1=>.opt (oB A3) fun a2=>.asI .i64 a2 fun n3=>.ret (.int .i64 (tA .i64 ((tA .i64 (1+n1))+n3)))
def w32(A0:Bool)(A1:zA)(A2:Bool)(A3:zA)(h:wp 32 (t32 A0 A1 A2 A3) m Q):Wf 32 [.agg [.bool A0,A1,.bool A2,A3]] m Q:=yC ok32 h
def t33 (A0:List Nat)(A1 A2 A3:zA):T:=
 .ite (kB zA.one [.str A0,A1,A2]) (.call 46 [.agg [.str A0,A1,A2,.nilslice]] fun a0=>
 .asB a0 fun b1=>.ite (!b1)
 (.ret (.int .i64 140))
 (.opt (oB A1) fun a2=>.asI .i64 a2 fun n3=>.ite (bB 64 n3)
 (.opt (oB A2) fun a4=>.asI .i64 a4 fun n5=>.jump 2 [.bool true,A2,.int .i64 n5,.int .i64 0,.str A0,A1,A2,A3])
 (.opt (oB A2) fun a6=>.asI .i64 a6 fun n7=>.ite (bB 16 n7)
 (.opt (oB A2) fun a8=>.asI .i64 a8 fun n9=>.jump 2 [.bool true,A2,.int .i64 n9,.int .i64 0,.str A0,A1,A2,A3])
 (.opt (oB A3) fun a10=>.asI .i64 a10 fun n11=>.opt (oB A2) fun jD=>.asI .i64 jD fun n13=>.jump 2 [(.bool (bB 400 n11)),A2,.int .i64 n13,.int .i64 0,.str A0,A1,A2,A3])))) .fail
def w33(A0:List Nat)(A1 A2 A3:zA)(h:wp 33 (t33 A0 A1 A2 A3) m Q):Wf 33 [.agg [.str A0,A1,A2,A3]] m Q:=yC ok33 h
def t33_2(v3:Bool)(v32:zA)(v33 v34:Int)(A0:List Nat)(A1 A2 A3:zA):T:=
 .ite (bB v34 v33)
 (.opt (qB yA 23 v32 (.int .i64 v34)) fun a0=>.light (fun m=>mA yA 81 ⟨0,m⟩ a0) fun a1=>.asG lK a1 fun X2=>
 .ite (kB zA.one [.str (X2.s 0),.bool (X2.b 1),X2.v 2]) (.ite v3
 (.jump 2 [.bool true,v32,.int .i64 v33,(.int .i64 (tA .i64 (v34+1))),.str A0,A1,A2,A3])
 (.opt (oB (X2.v 2)) fun a3=>.asI .i64 a3 fun n4=>.jump 2 [(.bool (bB 400 n4)),v32,.int .i64 v33,(.int .i64 (tA .i64 (v34+1))),.str A0,A1,A2,A3])) .fail)
 (.ite v3
 (.ret (.int .i64 5))
 (.call 47 [A1,(.func (.func 48) [] [])] fun a5=>
 .asB a5 fun b6=>.ite b6
 (.ret (.int .i64 143))
 (.call 49 [A2,(.func (.func 50) [] [])] fun a7=>
 .asB a7 fun b8=>.ite b8
 (.ret (.int .i64 143))
 (.ret (.int .i64 0)))))
def j33_2(v3:Bool)(v32:zA)(v33 v34:Int)(A0:List Nat)(A1 A2 A3:zA)(h:wp 33 (t33_2 v3 v32 v33 v34 A0 A1 A2 A3) m Q):jp 33 2 [.bool v3,v32,.int .i64 v33,.int .i64 v34,.str A0,A1,A2,A3] m Q:=wD ok33 h
def t34 (p0:zA)(A0 A1:List Nat)(A2 A3 A4:Int)(A5:Bool)(A6:Int)(A7:List Nat)(A8:Int)(A9:Bool)(B0:zA)(B1:Bool)(B2:zA)(B3:Int)(B4:zA)(B5:Int)(B6:List Nat)(B7:Int)(B8:Bool)(B9:zA)(D0:Bool)(D1:zA)(D2:Int)(D3:zA):T:=
 .heavy (cH yA 24 1 [(0,(.agg [.str A0,.str A1,.int .i64 A2,.int .i64 A3,.int .i64 A4,.bool A5,.int .u8 A6,.str A7,.int .u8 A8,.bool A9,B0,.bool B1,B2,.int .i64 B3,B4,.int .u8 B5,.str B6,.int .u8 B7,.bool B8,B9,.bool D0,D1,.int .i64 D2,D3]))]) fun a0=>
 .ite (kB zA.one [.str [120],a0]) (.call 46 [.agg [.str [120],.nilslice,.nilslice,a0]] fun a1=>
 .asB a1 fun b2=>.ite (!b2)
 (.ret (.int .i64 140))
 (.ite (jC A3 A2)
 (.ret (.int .i64 144))
 (.call 23 [.agg [.int .u8 A6,.str A7,.int .u8 A8,.bool A9,B0,.bool B1,B2,.int .i64 B3,B4]] fun a3=>
 .asI .i64 a3 fun n4=>.ite (bB 200 n4)
 (.ret (.int .i64 5))
 (.call 23 [.agg [.int .u8 B5,.str B6,.int .u8 B7,.bool B8,B9,.bool D0,D1,.int .i64 D2,D3]] fun a5=>
 .asI .i64 a5 fun n6=>.ite (bB 200 n6)
 (.ret (.int .i64 5))
 (.opt (cC p0) fun a7=>.opt (tB yA 104 0 a7) fun a8=>.light (fun m=>mA yA 26 ⟨0,m⟩ a8) fun a9=>.asG kK a9 fun X10=>
 .heavy (yH yA 59) fun a11=>
 .call 19 [(.agg [.str (X10.s 0),X10.v 1,X10.v 2,X10.v 3]),.str A0] fun jD=>
 .opt (mB 0 jD) fun a13=>.asG zvw a13 fun X14=>
 .opt (mB 1 jD) fun a15=>.asB a15 fun b16=>.heavy (rC yA 59 a11 (.agg [.str (X14.s 0),.int .u8 (X14.i 1),.bool (X14.b 2)])) fun _=>
 .ite (!b16)
 (.ret (.int .i64 141))
 (.opt (tB yA 59 2 a11) fun a17=>.light (fun m=>mA yA 4 ⟨0,m⟩ a17) fun a18=>.asB a18 fun b19=>.ite b19
 (.ret (.int .i64 141))
 (.ite A5
 (.ret (.int .i64 0))
 (.ite true (.opt (tB yA 59 1 a11) fun a20=>.light (fun m=>mA yA 5 ⟨0,m⟩ a20) fun a21=>.asI .u8 a21 fun n22=>.ite true (.ite true (.jump 2 [p0,.agg [.int .u8 A6,.str A7,.int .u8 A8,.bool A9,B0,.bool B1,B2,.int .i64 B3,B4,.int .u8 1,.int .u8 B5,.str B6,.int .u8 B7,.bool B8,B9,.bool D0,D1,.int .i64 D2,D3,.int .u8 n22],.int .i64 0]) .fail) .fail) .fail)))))))) .fail
def w34(p0:zA)(A0 A1:List Nat)(A2 A3 A4:Int)(A5:Bool)(A6:Int)(A7:List Nat)(A8:Int)(A9:Bool)(B0:zA)(B1:Bool)(B2:zA)(B3:Int)(B4:zA)(B5:Int)(B6:List Nat)(B7:Int)(B8:Bool)(B9:zA)(D0:Bool)(D1:zA)(D2:Int)(D3:zA)(h:wp 34 (t34 p0 A0 A1 A2 A3 A4 A5 A6 A7 A8 A9 B0 B1 B2 B3 B4 B5 B6 B7 B8 B9 D0 D1 D2 D3) m Q):Wf 34 [p0,.agg [.str A0,.str A1,.int .i64 A2,.int .i64 A3,.int .i64 A4,.bool A5,.int .u8 A6,.str A7,.int .u8 A8,.bool A9,B0,.bool B1,B2,.int .i64 B3,B4,.int .u8 B5,.str B6,.int .u8 B7,.bool B8,B9,.bool D0,D1,.int .i64 D2,D3]] m Q:=yC ok34 h
def t34_2(v0:zA)(A0:Int)(A1:List Nat)(A2:Int)(A3:Bool)(A4:zA)(A5:Bool)(A6:zA)(A7:Int)(A8:zA)(A9 B0:Int)(B1:List Nat)(B2:Int)(B3:Bool)(B4:zA)(B5:Bool)(B6:zA)(B7:Int)(B8:zA)(B9 v58:Int):T:=
 .ite (bB v58 2)
 (.opt (sJ yA 113 (.agg [.int .u8 A0,.str A1,.int .u8 A2,.bool A3,A4,.bool A5,A6,.int .i64 A7,A8,.int .u8 A9,.int .u8 B0,.str B1,.int .u8 B2,.bool B3,B4,.bool B5,B6,.int .i64 B7,B8,.int .u8 B9]) (.int .i64 v58)) fun a0=>.asG [.int .u8 0,.str [],.int .u8 0,.bool false,.nilslice,.bool false,.nilslice,.int .i64 0,.nilslice,.int .u8 0] a0 fun X1=>
 .ite (kB zA.one [.int .u8 (X1.i 0),.str (X1.s 1),.int .u8 (X1.i 2),.bool (X1.b 3),X1.v 4,.bool (X1.b 5),X1.v 6,.int .i64 (X1.i 7),X1.v 8,.int .u8 (X1.i 9)]) (.call 44 [v0,(.agg [.int .u8 (X1.i 0),.str (X1.s 1),.int .u8 (X1.i 2),.bool (X1.b 3),X1.v 4,.bool (X1.b 5),X1.v 6,.int .i64 (X1.i 7),X1.v 8])] fun a2=>
 .opt (mB 0 a2) fun a3=>.asI .u8 a3 fun n4=>.opt (mB 1 a2) fun a5=>.asI .i64 a5 fun n6=>.ite (!jA n6 0)
 (.ret (.int .i64 n6))
 (.ite (!jA n4 (X1.i 9))
 (.ret (.int .i64 142))
 (.jump 2 [v0,.agg [.int .u8 A0,.str A1,.int .u8 A2,.bool A3,A4,.bool A5,A6,.int .i64 A7,A8,.int .u8 A9,.int .u8 B0,.str B1,.int .u8 B2,.bool B3,B4,.bool B5,B6,.int .i64 B7,B8,.int .u8 B9],(.int .i64 (tA .i64 (v58+1)))]))) .fail)
 (.ret (.int .i64 0))
def zzae(v0:zA)(A0:Int)(A1:List Nat)(A2:Int)(A3:Bool)(A4:zA)(A5:Bool)(A6:zA)(A7:Int)(A8:zA)(A9 B0:Int)(B1:List Nat)(B2:Int)(B3:Bool)(B4:zA)(B5:Bool)(B6:zA)(B7:Int)(B8:zA)(B9 v58:Int)(h:wp 34 (t34_2 v0 A0 A1 A2 A3 A4 A5 A6 A7 A8 A9 B0 B1 B2 B3 B4 B5 B6 B7 B8 B9 v58) m Q):jp 34 2 [v0,.agg [.int .u8 A0,.str A1,.int .u8 A2,.bool A3,A4,.bool A5,A6,.int .i64 A7,A8,.int .u8 A9,.int .u8 B0,.str B1,.int .u8 B2,.bool B3,B4,.bool B5,B6,.int .i64 B7,B8,.int .u8 B9],.int .i64 v58] m Q:=wD ok34 h
def t35 (p0:zA):T:=
 .heavy (pF yA 22 22 .nilslice p0) fun a0=>
 .ret a0
def w35(p0:zA)(h:wp 35 (t35 p0) m Q):Wf 35 [p0] m Q:=yC ok35 h
def t36 (p0:zA):T:=
 .jump 2 [p0,.nilslice,.int .i64 0]
def w36(p0:zA)(h:wp 36 (t36 p0) m Q):Wf 36 [p0] m Q:=yC ok36 h
def t36_2(v0 v3:zA)(v4:Int):T:=
 .opt (oB v0) fun a0=>.asI .i64 a0 fun n1=>.ite (bB v4 n1)
 (.opt (qB yA 23 v0 (.int .i64 v4)) fun a2=>.light (fun m=>mA yA 81 ⟨0,m⟩ a2) fun a3=>.asG lK a3 fun X4=>
 .call 51 [(.agg [.str (X4.s 0),.bool (X4.b 1),X4.v 2])] fun a5=>
 .asG lK a5 fun X6=>
 .ite (kB zA.one [.str (X6.s 0),.bool (X6.b 1),X6.v 2]) (.heavy (cH yA 23 1 [(0,(.agg [.str (X6.s 0),.bool (X6.b 1),X6.v 2]))]) fun a7=>
 .heavy (pF yA 23 23 v3 a7) fun a8=>
 .jump 2 [v0,a8,(.int .i64 (tA .i64 (v4+1)))]) .fail)
 (.ret v3)
def j36_2(v0 v3:zA)(v4:Int)(h:wp 36 (t36_2 v0 v3 v4) m Q):jp 36 2 [v0,v3,.int .i64 v4] m Q:=wD ok36 h
def t37 (p0:zA):T:=
 .jump 2 [p0,.nilslice,.int .i64 0]
def w37(p0:zA)(h:wp 37 (t37 p0) m Q):Wf 37 [p0] m Q:=yC ok37 h
def t37_2(v0 v3:zA)(v4:Int):T:=
 .opt (oB v0) fun a0=>.asI .i64 a0 fun n1=>.ite (bB v4 n1)
 (.opt (qB yA 24 v0 (.int .i64 v4)) fun a2=>.light (fun m=>mA yA 56 ⟨0,m⟩ a2) fun a3=>.asG zz6z a3 fun X4=>
 .call 52 [(.agg [.str (X4.s 0),.str (X4.s 1),.int .i64 (X4.i 2),.int .i64 (X4.i 3),.int .i64 (X4.i 4),.bool (X4.b 5),.int .u8 (X4.i 6),.str (X4.s 7),.int .u8 (X4.i 8),.bool (X4.b 9),X4.v 10,.bool (X4.b 11),X4.v 12,.int .i64 (X4.i 13),X4.v 14,.int .u8 (X4.i 15),.str (X4.s 16),.int .u8 (X4.i 17),.bool (X4.b 18),X4.v 19,.bool (X4.b 20),X4.v 21,.int .i64 (X4.i 22),X4.v 23])] fun a5=>
 .asG zz6z a5 fun X6=>
 .ite (kB zA.one [.str (X6.s 0),.str (X6.s 1),.int .i64 (X6.i 2),.int .i64 (X6.i 3),.int .i64 (X6.i 4),.bool (X6.b 5),.int .u8 (X6.i 6),.str (X6.s 7),.int .u8 (X6.i 8),.bool (X6.b 9),X6.v 10,.bool (X6.b 11),X6.v 12,.int .i64 (X6.i 13),X6.v 14,.int .u8 (X6.i 15),.str (X6.s 16),.int .u8 (X6.i 17),.bool (X6.b 18),X6.v 19,.bool (X6.b 20),X6.v 21,.int .i64 (X6.i 22),X6.v 23]) (.heavy (cH yA 24 1 [(0,(.agg [.str (X6.s 0),.str (X6.s 1),.int .i64 (X6.i 2),.int .i64 (X6.i 3),.int .i64 (X6.i 4),.bool (X6.b 5),.int .u8 (X6.i 6),.str (X6.s 7),.int .u8 (X6.i 8),.bool (X6.b 9),X6.v 10,.bool (X6.b 11),X6.v 12,.int .i64 (X6.i 13),X6.v 14,.int .u8 (X6.i 15),.str (X6.s 16),.int .u8 (X6.i 17),.bool (X6.b 18),X6.v 19,.bool (X6.b 20),X6.v 21,.int .i64 (X6.i 22),X6.v 23]))]) fun a7=>
 .heavy (pF yA 24 24 v3 a7) fun a8=>
 .jump 2 [v0,a8,(.int .i64 (tA .i64 (v4+1)))]) .fail)
 (.ret v3)
def j37_2(v0 v3:zA)(v4:Int)(h:wp 37 (t37_2 v0 v3 v4) m Q):jp 37 2 [v0,v3,.int .i64 v4] m Q:=wD ok37 h
def t38 (A0:Int)(A1:Bool)(A2:zA)(A3:Bool)(A4:zA)(A5 A6:Int)(A7:Bool)(A8:zA)(A9:Bool)(B0:zA)(B1:Int):T:=
 .ite (jA A0 A6)
 (.call 53 [.agg [.bool A1,A2,.bool A3,A4],.agg [.bool A7,A8,.bool A9,B0]] fun a0=>
 .asB a0 fun b1=>.ite b1
 (.ret (.bool (jA A5 B1)))
 (.ret (.bool false)))
 (.ret (.bool false))
def w38(A0:Int)(A1:Bool)(A2:zA)(A3:Bool)(A4:zA)(A5 A6:Int)(A7:Bool)(A8:zA)(A9:Bool)(B0:zA)(B1:Int)(h:wp 38 (t38 A0 A1 A2 A3 A4 A5 A6 A7 A8 A9 B0 B1) m Q):Wf 38 [.agg [.int .u8 A0,.bool A1,A2,.bool A3,A4,.int .i64 A5],.agg [.int .u8 A6,.bool A7,A8,.bool A9,B0,.int .i64 B1]] m Q:=yC ok38 h
def t39 (p0 p1:zA):T:=
 .opt (oB p0) fun a0=>.asI .i64 a0 fun n1=>.opt (oB p1) fun a2=>.asI .i64 a2 fun n3=>.ite (!jA n1 n3)
 (.ret (.bool false))
 (.jump 2 [p0,p1,.int .i64 0])
def w39(p0 p1:zA)(h:wp 39 (t39 p0 p1) m Q):Wf 39 [p0,p1] m Q:=yC ok39 h
def z89(v0 v1:zA)(v5:Int):T:=
 .opt (oB v0) fun a0=>.asI .i64 a0 fun n1=>.ite (bB v5 n1)
 (.opt (qB yA 34 v0 (.int .i64 v5)) fun a2=>.light (fun m=>mA yA 36 ⟨0,m⟩ a2) fun a3=>.asG uH a3 fun X4=>
 .opt (qB yA 34 v1 (.int .i64 v5)) fun a5=>.light (fun m=>mA yA 36 ⟨0,m⟩ a5) fun a6=>.asG uH a6 fun X7=>
 .call 21 [(.agg [.int .u8 (X4.i 0),.str (X4.s 1),.int .u8 (X4.i 2),.bool (X4.b 3),X4.v 4,.bool (X4.b 5),X4.v 6,.int .i64 (X4.i 7),X4.v 8]),(.agg [.int .u8 (X7.i 0),.str (X7.s 1),.int .u8 (X7.i 2),.bool (X7.b 3),X7.v 4,.bool (X7.b 5),X7.v 6,.int .i64 (X7.i 7),X7.v 8])] fun a8=>
 .asB a8 fun b9=>.ite (!b9)
 (.ret (.bool false))
 (.jump 2 [v0,v1,(.int .i64 (tA .i64 (v5+1)))]))
 (.ret (.bool true))
def j39_2(v0 v1:zA)(v5:Int)(h:wp 39 (z89 v0 v1 v5) m Q):jp 39 2 [v0,v1,.int .i64 v5] m Q:=wD ok39 h
def t44 (p0:zA)(A0:Int)(A1:List Nat)(A2:Int)(A3:Bool)(A4:zA)(A5:Bool)(A6:zA)(A7:Int)(A8:zA):T:=
 .heavy (yH yA 137) fun a0=>
 .opt (oB A8) fun a1=>.asI .i64 a1 fun n2=>.jump 2 [p0,a0,A8,.int .i64 n2,.int .i64 0,.int .u8 A0,.str A1,.int .u8 A2,.bool A3,A4,.bool A5,A6,.int .i64 A7,A8]
def w44(p0:zA)(A0:Int)(A1:List Nat)(A2:Int)(A3:Bool)(A4:zA)(A5:Bool)(A6:zA)(A7:Int)(A8:zA)(h:wp 44 (t44 p0 A0 A1 A2 A3 A4 A5 A6 A7 A8) m Q):Wf 44 [p0,.agg [.int .u8 A0,.str A1,.int .u8 A2,.bool A3,A4,.bool A5,A6,.int .i64 A7,A8]] m Q:=yC ok44 h
def z88(v0 v6 v17:zA)(v18 v19 A0:Int)(A1:List Nat)(A2:Int)(A3:Bool)(A4:zA)(A5:Bool)(A6:zA)(A7:Int)(A8:zA):T:=
 .ite (bB v19 v18)
 (.opt (qB yA 34 v17 (.int .i64 v19)) fun a0=>.light (fun m=>mA yA 36 ⟨0,m⟩ a0) fun a1=>.asG uH a1 fun X2=>
 .ite (kB zA.one [.int .u8 (X2.i 0),.str (X2.s 1),.int .u8 (X2.i 2),.bool (X2.b 3),X2.v 4,.bool (X2.b 5),X2.v 6,.int .i64 (X2.i 7),X2.v 8]) (.call 44 [v0,(.agg [.int .u8 (X2.i 0),.str (X2.s 1),.int .u8 (X2.i 2),.bool (X2.b 3),X2.v 4,.bool (X2.b 5),X2.v 6,.int .i64 (X2.i 7),X2.v 8])] fun a3=>
 .opt (mB 0 a3) fun a4=>.asI .u8 a4 fun n5=>.opt (mB 1 a3) fun a6=>.asI .i64 a6 fun n7=>.ite (!jA n7 0)
 (.ret (.tup [.int .u8 0,.int .i64 n7]))
 (.opt (qB yA 137 v6 (.int .i64 v19)) fun a8=>.heavy (rC yA 5 a8 (.int .u8 n5)) fun _=>
 .jump 2 [v0,v6,v17,.int .i64 v18,(.int .i64 (tA .i64 (v19+1))),.int .u8 A0,.str A1,.int .u8 A2,.bool A3,A4,.bool A5,A6,.int .i64 A7,A8])) .fail)
 (.call 66 [v0,.agg [.int .u8 A0,.str A1,.int .u8 A2,.bool A3,A4,.bool A5,A6,.int .i64 A7,A8]] fun a9=>
 .opt (mB 0 a9) fun a10=>.asI .u8 a10 fun n11=>.opt (mB 1 a9) fun jD=>.asB jD fun b13=>.ite (!b13)
 (.ret (.tup [.int .u8 0,.int .i64 141]))
 (.opt (qB yA 137 v6 (.int .i64 0)) fun a14=>.light (fun m=>mA yA 5 ⟨0,m⟩ a14) fun a15=>.asI .u8 a15 fun n16=>.opt (qB yA 137 v6 (.int .i64 1)) fun a17=>.light (fun m=>mA yA 5 ⟨0,m⟩ a17) fun a18=>.asI .u8 a18 fun n19=>.opt (qB yA 137 v6 (.int .i64 2)) fun a20=>.light (fun m=>mA yA 5 ⟨0,m⟩ a20) fun a21=>.asI .u8 a21 fun n22=>.ite true (.ite true (.ite (jA A0 1)
 (.ret (.tup [.int .u8 A2,.int .i64 0]))
 (.ite (jA A0 3)
 (.ite (jA A0 3)
 (.opt (qB yA 137 v6 (.int .i64 0)) fun a23=>.light (fun m=>mA yA 5 ⟨0,m⟩ a23) fun a24=>.asI .u8 a24 fun n25=>.jump 59 [(.bool (jA n25 4)),.int .u8 n11])
 (.ite (jA A0 21)
 (.opt (cC v0) fun a26=>.opt (tB yA 104 1 a26) fun a27=>.light (fun m=>mA yA 100 ⟨0,m⟩ a27) fun a28=>.light (fun m=>oH yA 100 ⟨0,m⟩ a28 (.agg [.int .u8 A0,.int .u8 n16,.int .u8 n19,.int .u8 n22]) true) fun a29=>.opt (mB 0 a29) fun a30=>.asI .u8 a30 fun n31=>.opt (mB 1 a29) fun a32=>.asB a32 fun b33=>.ite b33
 (.jump 59 [(.bool (jA n11 2)),.int .u8 n31])
 (.jump 59 [.bool false,.int .u8 n31]))
 (.ite (jA A0 22)
 (.opt (cC v0) fun a34=>.opt (tB yA 104 1 a34) fun a35=>.light (fun m=>mA yA 100 ⟨0,m⟩ a35) fun a36=>.light (fun m=>oH yA 100 ⟨0,m⟩ a36 (.agg [.int .u8 A0,.int .u8 n16,.int .u8 n19,.int .u8 n22]) true) fun a37=>.opt (mB 0 a37) fun a38=>.asI .u8 a38 fun n39=>.opt (mB 1 a37) fun a40=>.asB a40 fun b41=>.ite b41
 (.jump 59 [(.bool (jA n11 3)),.int .u8 n39])
 (.jump 59 [.bool false,.int .u8 n39]))
 (.opt (cC v0) fun a42=>.opt (tB yA 104 1 a42) fun a43=>.light (fun m=>mA yA 100 ⟨0,m⟩ a43) fun a44=>.light (fun m=>oH yA 100 ⟨0,m⟩ a44 (.agg [.int .u8 A0,.int .u8 n16,.int .u8 n19,.int .u8 n22]) true) fun a45=>.opt (mB 0 a45) fun a46=>.asI .u8 a46 fun n47=>.opt (mB 1 a45) fun a48=>.asB a48 fun b49=>.jump 59 [.bool b49,.int .u8 n47]))))
 (.ite (jA A0 5)
 (.opt (qB yA 137 v6 (.int .i64 0)) fun a50=>.light (fun m=>mA yA 5 ⟨0,m⟩ a50) fun a51=>.asI .u8 a51 fun n52=>.jump 59 [(.bool (jA n52 4)),.int .u8 n11])
 (.ite (jA A0 21)
 (.opt (cC v0) fun a53=>.opt (tB yA 104 1 a53) fun a54=>.light (fun m=>mA yA 100 ⟨0,m⟩ a54) fun a55=>.light (fun m=>oH yA 100 ⟨0,m⟩ a55 (.agg [.int .u8 A0,.int .u8 n16,.int .u8 n19,.int .u8 n22]) true) fun a56=>.opt (mB 0 a56) fun a57=>.asI .u8 a57 fun n58=>.opt (mB 1 a56) fun a59=>.asB a59 fun b60=>.ite b60
 (.jump 59 [(.bool (jA n11 2)),.int .u8 n58])
 (.jump 59 [.bool false,.int .u8 n58]))
 (.ite (jA A0 22)
 (.opt (cC v0) fun a61=>.opt (tB yA 104 1 a61) fun a62=>.light (fun m=>mA yA 100 ⟨0,m⟩ a62) fun a63=>.light (fun m=>oH yA 100 ⟨0,m⟩ a63 (.agg [.int .u8 A0,.int .u8 n16,.int .u8 n19,.int .u8 n22]) true) fun a64=>.opt (mB 0 a64) fun a65=>.asI .u8 a65 fun n66=>.opt (mB 1 a64) fun a67=>.asB a67 fun b68=>.ite b68
 (.jump 59 [(.bool (jA n11 3)),.int .u8 n66])
 (.jump 59 [.bool false,.int .u8 n66]))
 (.opt (cC v0) fun a69=>.opt (tB yA 104 1 a69) fun a70=>.light (fun m=>mA yA 100 ⟨0,m⟩ a70) fun a71=>.light (fun m=>oH yA 100 ⟨0,m⟩ a71 (.agg [.int .u8 A0,.int .u8 n16,.int .u8 n19,.int .u8 n22]) true) fun a72=>.opt (mB 0 a72) fun a73=>.asI .u8 a73 fun n74=>.opt (mB 1 a72) fun a75=>.asB a75 fun b76=>.jump 59 [.bool b76,.int .u8 n74])))))) .fail) .fail))
def j44_2(v0 v6 v17:zA)(v18 v19 A0:Int)(A1:List Nat)(A2:Int)(A3:Bool)(A4:zA)(A5:Bool)(A6:zA)(A7:Int)(A8:zA)(h:wp 44 (z88 v0 v6 v17 v18 v19 A0 A1 A2 A3 A4 A5 A6 A7 A8) m Q):jp 44 2 [v0,v6,v17,.int .i64 v18,.int .i64 v19,.int .u8 A0,.str A1,.int .u8 A2,.bool A3,A4,.bool A5,A6,.int .i64 A7,A8] m Q:=wD ok44 h
def z62(v14:Bool)(v15:Int):T:=
 .ite (!v14)
 (.ret (.tup [.int .u8 0,.int .i64 142]))
 (.ret (.tup [.int .u8 v15,.int .i64 0]))
def j44_59(v14:Bool)(v15:Int)(h:wp 44 (z62 v14 v15) m Q):jp 44 59 [.bool v14,.int .u8 v15] m Q:=wD ok44 h
def t45 (A0:Bool)(A1:zA)(A2:Bool)(A3:zA):T:=
 .call 67 [.agg [.bool A0,A1]] fun a0=>
 .asG zz5z a0 fun X1=>
 .ite (kB zA.one [.bool (X1.b 0),X1.v 1]) (.call 67 [.agg [.bool A2,A3]] fun a2=>
 .asG zz5z a2 fun X3=>
 .ite (kB zA.one [.bool (X3.b 0),X3.v 1]) (.ite (kB zA.one [.bool (X1.b 0),X1.v 1,.bool (X3.b 0),X3.v 1]) (.ret (.agg [.bool (X1.b 0),X1.v 1,.bool (X3.b 0),X3.v 1])) .fail) .fail) .fail
def w45(A0:Bool)(A1:zA)(A2:Bool)(A3:zA)(h:wp 45 (t45 A0 A1 A2 A3) m Q):Wf 45 [.agg [.bool A0,A1,.bool A2,A3]] m Q:=yC ok45 h
def t46 (A0:List Nat)(A1 A2 A3:zA):T:=
 .call 63 [] fun a0=>
 .asG [.nilptr] a0 fun X1=>
 .ite (same 10 (.agg [.str A0,A1,A2,A3]) (.agg [.str A0,A1,A2,A3])) (.call 68 [(.agg [X1.v 0]),.agg [.str A0,A1,A2,A3]] fun a2=>
 .asB a2 fun b3=>.ret (.bool b3)) .fail
def w46(A0:List Nat)(A1 A2 A3:zA)(h:wp 46 (t46 A0 A1 A2 A3) m Q):Wf 46 [.agg [.str A0,A1,A2,A3]] m Q:=yC ok46 h
def t47 (p0 p1:zA):T:=
 .heavy lT fun a0=>
 .opt (oB p0) fun a1=>.asI .i64 a1 fun n2=>.jump 2 [p1,a0,p0,.int .i64 n2,.int .i64 0]
def w47(p0 p1:zA)(h:wp 47 (t47 p0 p1) m Q):Wf 47 [p0,p1] m Q:=yC ok47 h
def t47_2(v1 v5 v9:zA)(v10 v11:Int):T:=
 .ite (bB v11 v10)
 (.opt (qB yA 22 v9 (.int .i64 v11)) fun a0=>.light (fun m=>mA yA 59 ⟨0,m⟩ a0) fun a1=>.asG zvw a1 fun X2=>
 .ite true (.callv v1 [(.agg [.str (X2.s 0),.int .u8 (X2.i 1),.bool (X2.b 2)])] fun a3=>
 .asS a3 fun s4=>.light (fun m=>oH yA 140 ⟨0,m⟩ v5 (.str s4) false) fun a5=>.asB a5 fun b6=>.ite b6
 (.ret (.bool true))
 (.callv v1 [(.agg [.str (X2.s 0),.int .u8 (X2.i 1),.bool (X2.b 2)])] fun a7=>
 .asS a7 fun s8=>.heavy (rI yA 140 v5 (.str s8) (.bool true)) fun _=>
 .jump 2 [v1,v5,v9,.int .i64 v10,(.int .i64 (tA .i64 (v11+1)))])) .fail)
 (.ret (.bool false))
def j47_2(v1 v5 v9:zA)(v10 v11:Int)(h:wp 47 (t47_2 v1 v5 v9 v10 v11) m Q):jp 47 2 [v1,v5,v9,.int .i64 v10,.int .i64 v11] m Q:=wD ok47 h
def t48 (A0:List Nat)(A1:Int)(A2:Bool):T:=
 .ret (.str A0)
def w48(A0:List Nat)(A1:Int)(A2:Bool)(h:wp 48 (t48 A0 A1 A2) m Q):Wf 48 [.agg [.str A0,.int .u8 A1,.bool A2]] m Q:=yC ok48 h
def t49 (p0 p1:zA):T:=
 .heavy lT fun a0=>
 .opt (oB p0) fun a1=>.asI .i64 a1 fun n2=>.jump 2 [p1,a0,p0,.int .i64 n2,.int .i64 0]
def w49(p0 p1:zA)(h:wp 49 (t49 p0 p1) m Q):Wf 49 [p0,p1] m Q:=yC ok49 h
def t49_2(v1 v5 v9:zA)(v10 v11:Int):T:=
 .ite (bB v11 v10)
 (.opt (qB yA 23 v9 (.int .i64 v11)) fun a0=>.light (fun m=>mA yA 81 ⟨0,m⟩ a0) fun a1=>.asG lK a1 fun X2=>
 .ite (kB zA.one [.str (X2.s 0),.bool (X2.b 1),X2.v 2]) (.callv v1 [(.agg [.str (X2.s 0),.bool (X2.b 1),X2.v 2])] fun a3=>
 .asS a3 fun s4=>.light (fun m=>oH yA 140 ⟨0,m⟩ v5 (.str s4) false) fun a5=>.asB a5 fun b6=>.ite b6
 (.ret (.bool true))
 (.callv v1 [(.agg [.str (X2.s 0),.bool (X2.b 1),X2.v 2])] fun a7=>
 .asS a7 fun s8=>.heavy (rI yA 140 v5 (.str s8) (.bool true)) fun _=>
 .jump 2 [v1,v5,v9,.int .i64 v10,(.int .i64 (tA .i64 (v11+1)))])) .fail)
 (.ret (.bool false))
def j49_2(v1 v5 v9:zA)(v10 v11:Int)(h:wp 49 (t49_2 v1 v5 v9 v10 v11) m Q):jp 49 2 [v1,v5,v9,.int .i64 v10,.int .i64 v11] m Q:=wD ok49 h
def t50 (A0:List Nat)(A1:Bool)(A2:zA):T:=
 .ret (.str A0)
def w50(A0:List Nat)(A1:Bool)(A2:zA)(h:wp 50 (t50 A0 A1 A2) m Q):Wf 50 [.agg [.str A0,.bool A1,A2]] m Q:=yC ok50 h
def t51 (A0:List Nat)(A1:Bool)(A2:zA):T:=
 .call 69 [A2] fun a0=>
 .ite (kB zA.one [a0]) (.ite (kB zA.one [.str A0,.bool A1,a0]) (.ret (.agg [.str A0,.bool A1,a0])) .fail) .fail
def w51(A0:List Nat)(A1:Bool)(A2:zA)(h:wp 51 (t51 A0 A1 A2) m Q):Wf 51 [.agg [.str A0,.bool A1,A2]] m Q:=yC ok51 h
def t52 (A0 A1:List Nat)(A2 A3 A4:Int)(A5:Bool)(A6:Int)(A7:List Nat)(A8:Int)(A9:Bool)(B0:zA)(B1:Bool)(B2:zA)(B3:Int)(B4:zA)(B5:Int)(B6:List Nat)(B7:Int)(B8:Bool)(B9:zA)(D0:Bool)(D1:zA)(D2:Int)(D3:zA):T:=
 .call 12 [.agg [.int .u8 A6,.str A7,.int .u8 A8,.bool A9,B0,.bool B1,B2,.int .i64 B3,B4]] fun a0=>
 .asG uH a0 fun X1=>
 .ite (kB zA.one [.int .u8 (X1.i 0),.str (X1.s 1),.int .u8 (X1.i 2),.bool (X1.b 3),X1.v 4,.bool (X1.b 5),X1.v 6,.int .i64 (X1.i 7),X1.v 8]) (.call 12 [.agg [.int .u8 B5,.str B6,.int .u8 B7,.bool B8,B9,.bool D0,D1,.int .i64 D2,D3]] fun a2=>
 .asG uH a2 fun X3=>
 .ite (kB zA.one [.int .u8 (X3.i 0),.str (X3.s 1),.int .u8 (X3.i 2),.bool (X3.b 3),X3.v 4,.bool (X3.b 5),X3.v 6,.int .i64 (X3.i 7),X3.v 8]) (.ite (kB zA.one [.str A0,.str A1,.int .i64 A2,.int .i64 A3,.int .i64 A4,.bool A5,.int .u8 (X1.i 0),.str (X1.s 1),.int .u8 (X1.i 2),.bool (X1.b 3),X1.v 4,.bool (X1.b 5),X1.v 6,.int .i64 (X1.i 7),X1.v 8,.int .u8 (X3.i 0),.str (X3.s 1),.int .u8 (X3.i 2),.bool (X3.b 3),X3.v 4,.bool (X3.b 5),X3.v 6,.int .i64 (X3.i 7),X3.v 8]) (.ret (.agg [.str A0,.str A1,.int .i64 A2,.int .i64 A3,.int .i64 A4,.bool A5,.int .u8 (X1.i 0),.str (X1.s 1),.int .u8 (X1.i 2),.bool (X1.b 3),X1.v 4,.bool (X1.b 5),X1.v 6,.int .i64 (X1.i 7),X1.v 8,.int .u8 (X3.i 0),.str (X3.s 1),.int .u8 (X3.i 2),.bool (X3.b 3),X3.v 4,.bool (X3.b 5),X3.v 6,.int .i64 (X3.i 7),X3.v 8])) .fail) .fail) .fail
def w52(A0 A1:List Nat)(A2 A3 A4:Int)(A5:Bool)(A6:Int)(A7:List Nat)(A8:Int)(A9:Bool)(B0:zA)(B1:Bool)(B2:zA)(B3:Int)(B4:zA)(B5:Int)(B6:List Nat)(B7:Int)(B8:Bool)(B9:zA)(D0:Bool)(D1:zA)(D2:Int)(D3:zA)(h:wp 52 (t52 A0 A1 A2 A3 A4 A5 A6 A7 A8 A9 B0 B1 B2 B3 B4 B5 B6 B7 B8 B9 D0 D1 D2 D3) m Q):Wf 52 [.agg [.str A0,.str A1,.int .i64 A2,.int .i64 A3,.int .i64 A4,.bool A5,.int .u8 A6,.str A7,.int .u8 A8,.bool A9,B0,.bool B1,B2,.int .i64 B3,B4,.int .u8 B5,.str B6,.int .u8 B7,.bool B8,B9,.bool D0,D1,.int .i64 D2,D3]] m Q:=yC ok52 h
def t53 (A0:Bool)(A1:zA)(A2:Bool)(A3:zA)(A4:Bool)(A5:zA)(A6:Bool)(A7:zA):T:=
 .call 70 [.agg [.bool A0,A1],.agg [.bool A4,A5]] fun a0=>
 .asB a0 fun b1=>.ite b1
 (.call 70 [.agg [.bool A2,A3],.agg [.bool A6,A7]] fun a2=>
 .asB a2 fun b3=>.ret (.bool b3))
 (.ret (.bool false))
def w53(A0:Bool)(A1:zA)(A2:Bool)(A3:zA)(A4:Bool)(A5:zA)(A6:Bool)(A7:zA)(h:wp 53 (t53 A0 A1 A2 A3 A4 A5 A6 A7) m Q):Wf 53 [.agg [.bool A0,A1,.bool A2,A3],.agg [.bool A4,A5,.bool A6,A7]] m Q:=yC ok53 h
def t54 (A0:List Nat)(A1 A2 A3:zA)(p1:List Nat):T:=
 .opt (oB A2) fun a0=>.asI .i64 a0 fun n1=>.jump 2 [.str p1,A2,.int .i64 n1,.int .i64 0,.str [],.bool false,.nilslice]
def w54(A0:List Nat)(A1 A2 A3:zA)(p1:List Nat)(h:wp 54 (t54 A0 A1 A2 A3 p1) m Q):Wf 54 [.agg [.str A0,A1,A2,A3],.str p1] m Q:=yC ok54 h
def t54_2(v1:List Nat)(v9:zA)(v10 v11:Int)(A0:List Nat)(A1:Bool)(A2:zA):T:=
 .ite (bB v11 v10)
 (.opt (qB yA 23 v9 (.int .i64 v11)) fun a0=>.light (fun m=>mA yA 81 ⟨0,m⟩ a0) fun a1=>.asG lK a1 fun X2=>
 .ite (kB zA.one [.str (X2.s 0),.bool (X2.b 1),X2.v 2]) (.ite (wE (X2.s 0) v1)
 (.ite (kB zA.one [.str (X2.s 0),.bool (X2.b 1),X2.v 2]) (.ret (.tup [(.agg [.str (X2.s 0),.bool (X2.b 1),X2.v 2]),.bool true])) .fail)
 (.jump 2 [.str v1,v9,.int .i64 v10,(.int .i64 (tA .i64 (v11+1))),.str A0,.bool A1,A2])) .fail)
 (.ite true (.ite true (.ret (.tup [.agg [.str [],.bool false,.nilslice],.bool false])) .fail) .fail)
def zzad(v1:List Nat)(v9:zA)(v10 v11:Int)(A0:List Nat)(A1:Bool)(A2:zA)(h:wp 54 (t54_2 v1 v9 v10 v11 A0 A1 A2) m Q):jp 54 2 [.str v1,v9,.int .i64 v10,.int .i64 v11,.str A0,.bool A1,A2] m Q:=wD ok54 h
def t63  : T:=
 .call 83 [] fun a0=>
 .ite (kB zA.one [a0]) (.ite (kB zA.one [a0]) (.ret (.agg [a0])) .fail) .fail
def w63 (h:wp 63 (t63 ) m Q):Wf 63 [] m Q:=yC ok63 h
def t64 (A0:zA)(A1:Int)(A2:List Nat)(A3:Int)(A4:Bool)(A5:zA)(A6:Bool)(A7:zA)(A8:Int)(A9:zA)(p2:Int):T:=
 .ite (bB 24 p2)
 (.ret (.bool false))
 (.ite (jC 27 (tA .i64 A1))
 (.ret (.bool false))
 (.opt (cC A0) fun a0=>.opt (qB yA 188 a0 (.int .u8 A1)) fun a1=>.opt (cC a1) fun a2=>.opt (tB yA 159 0 a2) fun a3=>.light (fun m=>mA yA 5 ⟨0,m⟩ a3) fun a4=>.asI .u8 a4 fun n5=>.ite (jA n5 0)
 (.ret (.bool false))
 (.opt (oB A9) fun a6=>.asI .i64 a6 fun n7=>.opt (cC a1) fun a8=>.opt (tB yA 159 3 a8) fun a9=>.light (fun m=>mA yA 3 ⟨0,m⟩ a9) fun a10=>.asI .i64 a10 fun n11=>.ite (bB n7 n11)
 (.ret (.bool false))
 (.opt (oB A9) fun jD=>.asI .i64 jD fun n13=>.opt (cC a1) fun a14=>.opt (tB yA 159 4 a14) fun a15=>.light (fun m=>mA yA 3 ⟨0,m⟩ a15) fun a16=>.asI .i64 a16 fun n17=>.ite (bB n17 n13)
 (.ret (.bool false))
 (.opt (cC a1) fun a18=>.opt (tB yA 159 2 a18) fun a19=>.light (fun m=>mA yA 4 ⟨0,m⟩ a19) fun a20=>.asB a20 fun b21=>.ite b21
 (.call 84 [.str A2] fun a22=>
 .asB a22 fun b23=>.ite (!b23)
 (.ret (.bool false))
 (.opt (cC a1) fun a24=>.opt (tB yA 159 2 a24) fun a25=>.light (fun m=>mA yA 4 ⟨0,m⟩ a25) fun a26=>.asB a26 fun b27=>.ite (!b27)
 (.ite (!wE A2 [])
 (.ret (.bool false))
 (.ite (kB zA.one [.int .u8 A3,.bool A4,A5,.bool A6,A7,.int .i64 A8]) (.ite (jA A1 1)
 (.call 85 [.agg [.int .u8 A3,.bool A4,A5,.bool A6,A7,.int .i64 A8]] fun a28=>
 .asB a28 fun b29=>.ret (.bool b29))
 (.ite (jA A1 19)
 (.ite (bB A8 1)
 (.ret (.bool false))
 (.ite (bB 6 A8)
 (.ret (.bool false))
 (.ite true (.jump 33 [.int .i64 p2,A0,.int .u8 A1,.str A2,.int .u8 A3,.bool A4,A5,.bool A6,A7,.int .i64 A8,A9,.int .u8 A3,.bool A4,A5,.bool A6,A7,.int .i64 0]) .fail)))
 (.jump 33 [.int .i64 p2,A0,.int .u8 A1,.str A2,.int .u8 A3,.bool A4,A5,.bool A6,A7,.int .i64 A8,A9,.int .u8 A3,.bool A4,A5,.bool A6,A7,.int .i64 A8]))) .fail))
 (.ite (kB zA.one [.int .u8 A3,.bool A4,A5,.bool A6,A7,.int .i64 A8]) (.ite (jA A1 1)
 (.call 85 [.agg [.int .u8 A3,.bool A4,A5,.bool A6,A7,.int .i64 A8]] fun a30=>
 .asB a30 fun b31=>.ret (.bool b31))
 (.ite (jA A1 19)
 (.ite (bB A8 1)
 (.ret (.bool false))
 (.ite (bB 6 A8)
 (.ret (.bool false))
 (.ite true (.jump 33 [.int .i64 p2,A0,.int .u8 A1,.str A2,.int .u8 A3,.bool A4,A5,.bool A6,A7,.int .i64 A8,A9,.int .u8 A3,.bool A4,A5,.bool A6,A7,.int .i64 0]) .fail)))
 (.jump 33 [.int .i64 p2,A0,.int .u8 A1,.str A2,.int .u8 A3,.bool A4,A5,.bool A6,A7,.int .i64 A8,A9,.int .u8 A3,.bool A4,A5,.bool A6,A7,.int .i64 A8]))) .fail)))
 (.opt (cC a1) fun a32=>.opt (tB yA 159 2 a32) fun a33=>.light (fun m=>mA yA 4 ⟨0,m⟩ a33) fun a34=>.asB a34 fun b35=>.ite (!b35)
 (.ite (!wE A2 [])
 (.ret (.bool false))
 (.ite (kB zA.one [.int .u8 A3,.bool A4,A5,.bool A6,A7,.int .i64 A8]) (.ite (jA A1 1)
 (.call 85 [.agg [.int .u8 A3,.bool A4,A5,.bool A6,A7,.int .i64 A8]] fun a36=>
 .asB a36 fun b37=>.ret (.bool b37))
 (.ite (jA A1 19)
 (.ite (bB A8 1)
 (.ret (.bool false))
 (.ite (bB 6 A8)
 (.ret (.bool false))
 (.ite true (.jump 33 [.int .i64 p2,A0,.int .u8 A1,.str A2,.int .u8 A3,.bool A4,A5,.bool A6,A7,.int .i64 A8,A9,.int .u8 A3,.bool A4,A5,.bool A6,A7,.int .i64 0]) .fail)))
 (.jump 33 [.int .i64 p2,A0,.int .u8 A1,.str A2,.int .u8 A3,.bool A4,A5,.bool A6,A7,.int .i64 A8,A9,.int .u8 A3,.bool A4,A5,.bool A6,A7,.int .i64 A8]))) .fail))
 (.ite (kB zA.one [.int .u8 A3,.bool A4,A5,.bool A6,A7,.int .i64 A8]) (.ite (jA A1 1)
 (.call 85 [.agg [.int .u8 A3,.bool A4,A5,.bool A6,A7,.int .i64 A8]] fun a38=>
 .asB a38 fun b39=>.ret (.bool b39))
 (.ite (jA A1 19)
 (.ite (bB A8 1)
 (.ret (.bool false))
 (.ite (bB 6 A8)
 (.ret (.bool false))
 (.ite true (.jump 33 [.int .i64 p2,A0,.int .u8 A1,.str A2,.int .u8 A3,.bool A4,A5,.bool A6,A7,.int .i64 A8,A9,.int .u8 A3,.bool A4,A5,.bool A6,A7,.int .i64 0]) .fail)))
 (.jump 33 [.int .i64 p2,A0,.int .u8 A1,.str A2,.int .u8 A3,.bool A4,A5,.bool A6,A7,.int .i64 A8,A9,.int .u8 A3,.bool A4,A5,.bool A6,A7,.int .i64 A8]))) .fail)))))))
def w64(A0:zA)(A1:Int)(A2:List Nat)(A3:Int)(A4:Bool)(A5:zA)(A6:Bool)(A7:zA)(A8:Int)(A9:zA)(p2:Int)(h:wp 64 (t64 A0 A1 A2 A3 A4 A5 A6 A7 A8 A9 p2) m Q):Wf 64 [.agg [A0],.agg [.int .u8 A1,.str A2,.int .u8 A3,.bool A4,A5,.bool A6,A7,.int .i64 A8,A9],.int .i64 p2] m Q:=yC ok64 h
def z61(v2:Int)(A0:zA)(A1:Int)(A2:List Nat)(A3:Int)(A4:Bool)(A5:zA)(A6:Bool)(A7:zA)(A8:Int)(A9:zA)(B0:Int)(B1:Bool)(B2:zA)(B3:Bool)(B4:zA)(B5:Int):T:=
 .call 86 [.agg [.int .u8 B0,.bool B1,B2,.bool B3,B4,.int .i64 B5]] fun a0=>
 .asB a0 fun b1=>.ite (!b1)
 (.ret (.bool false))
 (.opt (oB A9) fun a2=>.asI .i64 a2 fun n3=>.jump 4 [.int .i64 v2,A9,.int .i64 n3,.int .i64 0,A0])
def j64_33(v2:Int)(A0:zA)(A1:Int)(A2:List Nat)(A3:Int)(A4:Bool)(A5:zA)(A6:Bool)(A7:zA)(A8:Int)(A9:zA)(B0:Int)(B1:Bool)(B2:zA)(B3:Bool)(B4:zA)(B5:Int)(h:wp 64 (z61 v2 A0 A1 A2 A3 A4 A5 A6 A7 A8 A9 B0 B1 B2 B3 B4 B5) m Q):jp 64 33 [.int .i64 v2,A0,.int .u8 A1,.str A2,.int .u8 A3,.bool A4,A5,.bool A6,A7,.int .i64 A8,A9,.int .u8 B0,.bool B1,B2,.bool B3,B4,.int .i64 B5] m Q:=wD ok64 h
def z87(v2:Int)(v95:zA)(v96 v97:Int)(A0:zA):T:=
 .ite (bB v97 v96)
 (.opt (qB yA 34 v95 (.int .i64 v97)) fun a0=>.light (fun m=>mA yA 36 ⟨0,m⟩ a0) fun a1=>.asG uH a1 fun X2=>
 .ite (kB zA.one [.int .u8 (X2.i 0),.str (X2.s 1),.int .u8 (X2.i 2),.bool (X2.b 3),X2.v 4,.bool (X2.b 5),X2.v 6,.int .i64 (X2.i 7),X2.v 8]) (.call 64 [.agg [A0],(.agg [.int .u8 (X2.i 0),.str (X2.s 1),.int .u8 (X2.i 2),.bool (X2.b 3),X2.v 4,.bool (X2.b 5),X2.v 6,.int .i64 (X2.i 7),X2.v 8]),(.int .i64 (tA .i64 (v2+1)))] fun a3=>
 .asB a3 fun b4=>.ite (!b4)
 (.ret (.bool false))
 (.jump 4 [.int .i64 v2,v95,.int .i64 v96,(.int .i64 (tA .i64 (v97+1))),A0])) .fail)
 (.ret (.bool true))
def j64_4(v2:Int)(v95:zA)(v96 v97:Int)(A0:zA)(h:wp 64 (z87 v2 v95 v96 v97 A0) m Q):jp 64 4 [.int .i64 v2,v95,.int .i64 v96,.int .i64 v97,A0] m Q:=wD ok64 h
def t66 (p0:zA)(A0:Int)(A1:List Nat)(A2:Int)(A3:Bool)(A4:zA)(A5:Bool)(A6:zA)(A7:Int)(A8:zA):T:=
 .ite (jA A0 3)
 (.ite (jA A0 3)
 (.opt (cC p0) fun a0=>.opt (tB yA 104 0 a0) fun a1=>.light (fun m=>mA yA 26 ⟨0,m⟩ a1) fun a2=>.asG kK a2 fun X3=>
 .heavy (yH yA 59) fun a4=>
 .call 19 [(.agg [.str (X3.s 0),X3.v 1,X3.v 2,X3.v 3]),.str A1] fun a5=>
 .opt (mB 0 a5) fun a6=>.asG zvw a6 fun X7=>
 .opt (mB 1 a5) fun a8=>.asB a8 fun b9=>.heavy (rC yA 59 a4 (.agg [.str (X7.s 0),.int .u8 (X7.i 1),.bool (X7.b 2)])) fun _=>
 .ite b9
 (.opt (tB yA 59 2 a4) fun a10=>.light (fun m=>mA yA 4 ⟨0,m⟩ a10) fun a11=>.asB a11 fun b12=>.opt (tB yA 59 1 a4) fun a13=>.light (fun m=>mA yA 5 ⟨0,m⟩ a13) fun a14=>.asI .u8 a14 fun n15=>.ite (bEq b12 (!jA A0 5))
 (.opt (tB yA 59 1 a4) fun a16=>.light (fun m=>mA yA 5 ⟨0,m⟩ a16) fun a17=>.asI .u8 a17 fun n18=>.ite (jC 1 n18)
 (.opt (tB yA 59 1 a4) fun a19=>.light (fun m=>mA yA 5 ⟨0,m⟩ a19) fun a20=>.asI .u8 a20 fun n21=>.ret (.tup [.int .u8 n15,(.bool (jC n21 6))]))
 (.ret (.tup [.int .u8 n15,.bool false])))
 (.ret (.tup [.int .u8 n15,.bool false])))
 (.opt (tB yA 59 1 a4) fun a22=>.light (fun m=>mA yA 5 ⟨0,m⟩ a22) fun a23=>.asI .u8 a23 fun n24=>.ret (.tup [.int .u8 n24,.bool false])))
 (.ite (jA A0 6)
 (.opt (cC p0) fun a25=>.opt (tB yA 104 0 a25) fun a26=>.light (fun m=>mA yA 26 ⟨0,m⟩ a26) fun a27=>.asG kK a27 fun X28=>
 .heavy (yH yA 81) fun a29=>
 .call 54 [(.agg [.str (X28.s 0),X28.v 1,X28.v 2,X28.v 3]),.str A1] fun a30=>
 .opt (mB 0 a30) fun a31=>.asG lK a31 fun X32=>
 .opt (mB 1 a30) fun a33=>.asB a33 fun b34=>.heavy (rC yA 81 a29 (.agg [.str (X32.s 0),.bool (X32.b 1),X32.v 2])) fun _=>
 .ite b34
 (.opt (tB yA 81 1 a29) fun a35=>.light (fun m=>mA yA 4 ⟨0,m⟩ a35) fun a36=>.asB a36 fun b37=>.opt (oB A8) fun a38=>.asI .i64 a38 fun n39=>.ret (.tup [.int .u8 0,(.bool (bEq b37 (jA n39 2)))]))
 (.ret (.tup [.int .u8 0,.bool false])))
 (.ite (jA A0 23)
 (.opt (cC p0) fun a40=>.opt (tB yA 104 0 a40) fun a41=>.light (fun m=>mA yA 26 ⟨0,m⟩ a41) fun a42=>.asG kK a42 fun X43=>
 .heavy (yH yA 81) fun a44=>
 .call 54 [(.agg [.str (X43.s 0),X43.v 1,X43.v 2,X43.v 3]),.str A1] fun a45=>
 .opt (mB 0 a45) fun a46=>.asG lK a46 fun X47=>
 .opt (mB 1 a45) fun a48=>.asB a48 fun b49=>.heavy (rC yA 81 a44 (.agg [.str (X47.s 0),.bool (X47.b 1),X47.v 2])) fun _=>
 .ite b49
 (.opt (tB yA 81 1 a44) fun a50=>.light (fun m=>mA yA 4 ⟨0,m⟩ a50) fun a51=>.asB a51 fun b52=>.ret (.tup [.int .u8 0,(.bool (!b52))]))
 (.ret (.tup [.int .u8 0,.bool false])))
 (.ret (.tup [.int .u8 0,.bool true])))))
 (.ite (jA A0 4)
 (.ite (jA A0 4)
 (.opt (cC p0) fun a53=>.opt (tB yA 104 0 a53) fun a54=>.light (fun m=>mA yA 26 ⟨0,m⟩ a54) fun a55=>.asG kK a55 fun X56=>
 .heavy (yH yA 59) fun a57=>
 .call 19 [(.agg [.str (X56.s 0),X56.v 1,X56.v 2,X56.v 3]),.str A1] fun a58=>
 .opt (mB 0 a58) fun a59=>.asG zvw a59 fun X60=>
 .opt (mB 1 a58) fun a61=>.asB a61 fun b62=>.heavy (rC yA 59 a57 (.agg [.str (X60.s 0),.int .u8 (X60.i 1),.bool (X60.b 2)])) fun _=>
 .ite b62
 (.opt (tB yA 59 2 a57) fun a63=>.light (fun m=>mA yA 4 ⟨0,m⟩ a63) fun a64=>.asB a64 fun b65=>.opt (tB yA 59 1 a57) fun a66=>.light (fun m=>mA yA 5 ⟨0,m⟩ a66) fun a67=>.asI .u8 a67 fun n68=>.ite (bEq b65 (!jA A0 5))
 (.opt (tB yA 59 1 a57) fun a69=>.light (fun m=>mA yA 5 ⟨0,m⟩ a69) fun a70=>.asI .u8 a70 fun n71=>.ite (jC 1 n71)
 (.opt (tB yA 59 1 a57) fun a72=>.light (fun m=>mA yA 5 ⟨0,m⟩ a72) fun a73=>.asI .u8 a73 fun n74=>.ret (.tup [.int .u8 n68,(.bool (jC n74 6))]))
 (.ret (.tup [.int .u8 n68,.bool false])))
 (.ret (.tup [.int .u8 n68,.bool false])))
 (.opt (tB yA 59 1 a57) fun a75=>.light (fun m=>mA yA 5 ⟨0,m⟩ a75) fun a76=>.asI .u8 a76 fun n77=>.ret (.tup [.int .u8 n77,.bool false])))
 (.ite (jA A0 6)
 (.opt (cC p0) fun a78=>.opt (tB yA 104 0 a78) fun a79=>.light (fun m=>mA yA 26 ⟨0,m⟩ a79) fun a80=>.asG kK a80 fun X81=>
 .heavy (yH yA 81) fun a82=>
 .call 54 [(.agg [.str (X81.s 0),X81.v 1,X81.v 2,X81.v 3]),.str A1] fun a83=>
 .opt (mB 0 a83) fun a84=>.asG lK a84 fun X85=>
 .opt (mB 1 a83) fun a86=>.asB a86 fun b87=>.heavy (rC yA 81 a82 (.agg [.str (X85.s 0),.bool (X85.b 1),X85.v 2])) fun _=>
 .ite b87
 (.opt (tB yA 81 1 a82) fun a88=>.light (fun m=>mA yA 4 ⟨0,m⟩ a88) fun a89=>.asB a89 fun b90=>.opt (oB A8) fun a91=>.asI .i64 a91 fun n92=>.ret (.tup [.int .u8 0,(.bool (bEq b90 (jA n92 2)))]))
 (.ret (.tup [.int .u8 0,.bool false])))
 (.ite (jA A0 23)
 (.opt (cC p0) fun a93=>.opt (tB yA 104 0 a93) fun a94=>.light (fun m=>mA yA 26 ⟨0,m⟩ a94) fun a95=>.asG kK a95 fun X96=>
 .heavy (yH yA 81) fun a97=>
 .call 54 [(.agg [.str (X96.s 0),X96.v 1,X96.v 2,X96.v 3]),.str A1] fun a98=>
 .opt (mB 0 a98) fun a99=>.asG lK a99 fun X100=>
 .opt (mB 1 a98) fun a101=>.asB a101 fun b102=>.heavy (rC yA 81 a97 (.agg [.str (X100.s 0),.bool (X100.b 1),X100.v 2])) fun _=>
 .ite b102
 (.opt (tB yA 81 1 a97) fun a103=>.light (fun m=>mA yA 4 ⟨0,m⟩ a103) fun a104=>.asB a104 fun b105=>.ret (.tup [.int .u8 0,(.bool (!b105))]))
 (.ret (.tup [.int .u8 0,.bool false])))
 (.ret (.tup [.int .u8 0,.bool true])))))
 (.ite (jA A0 21)
 (.ite (jA A0 21)
 (.opt (cC p0) fun a106=>.opt (tB yA 104 0 a106) fun a107=>.light (fun m=>mA yA 26 ⟨0,m⟩ a107) fun a108=>.asG kK a108 fun X109=>
 .heavy (yH yA 59) fun z6m=>
 .call 19 [(.agg [.str (X109.s 0),X109.v 1,X109.v 2,X109.v 3]),.str A1] fun a111=>
 .opt (mB 0 a111) fun a112=>.asG zvw a112 fun X113=>
 .opt (mB 1 a111) fun a114=>.asB a114 fun b115=>.heavy (rC yA 59 z6m (.agg [.str (X113.s 0),.int .u8 (X113.i 1),.bool (X113.b 2)])) fun _=>
 .ite b115
 (.opt (tB yA 59 2 z6m) fun a116=>.light (fun m=>mA yA 4 ⟨0,m⟩ a116) fun a117=>.asB a117 fun b118=>.opt (tB yA 59 1 z6m) fun a119=>.light (fun m=>mA yA 5 ⟨0,m⟩ a119) fun a120=>.asI .u8 a120 fun n121=>.ite (bEq b118 (!jA A0 5))
 (.opt (tB yA 59 1 z6m) fun a122=>.light (fun m=>mA yA 5 ⟨0,m⟩ a122) fun a123=>.asI .u8 a123 fun n124=>.ite (jC 1 n124)
 (.opt (tB yA 59 1 z6m) fun a125=>.light (fun m=>mA yA 5 ⟨0,m⟩ a125) fun a126=>.asI .u8 a126 fun n127=>.ret (.tup [.int .u8 n121,(.bool (jC n127 6))]))
 (.ret (.tup [.int .u8 n121,.bool false])))
 (.ret (.tup [.int .u8 n121,.bool false])))
 (.opt (tB yA 59 1 z6m) fun a128=>.light (fun m=>mA yA 5 ⟨0,m⟩ a128) fun a129=>.asI .u8 a129 fun n130=>.ret (.tup [.int .u8 n130,.bool false])))
 (.ite (jA A0 6)
 (.opt (cC p0) fun a131=>.opt (tB yA 104 0 a131) fun a132=>.light (fun m=>mA yA 26 ⟨0,m⟩ a132) fun a133=>.asG kK a133 fun X134=>
 .heavy (yH yA 81) fun a135=>
 .call 54 [(.agg [.str (X134.s 0),X134.v 1,X134.v 2,X134.v 3]),.str A1] fun a136=>
 .opt (mB 0 a136) fun a137=>.asG lK a137 fun X138=>
 .opt (mB 1 a136) fun a139=>.asB a139 fun b140=>.heavy (rC yA 81 a135 (.agg [.str (X138.s 0),.bool (X138.b 1),X138.v 2])) fun _=>
 .ite b140
 (.opt (tB yA 81 1 a135) fun a141=>.light (fun m=>mA yA 4 ⟨0,m⟩ a141) fun a142=>.asB a142 fun b143=>.opt (oB A8) fun a144=>.asI .i64 a144 fun n145=>.ret (.tup [.int .u8 0,(.bool (bEq b143 (jA n145 2)))]))
 (.ret (.tup [.int .u8 0,.bool false])))
 (.ite (jA A0 23)
 (.opt (cC p0) fun a146=>.opt (tB yA 104 0 a146) fun a147=>.light (fun m=>mA yA 26 ⟨0,m⟩ a147) fun a148=>.asG kK a148 fun X149=>
 .heavy (yH yA 81) fun a150=>
 .call 54 [(.agg [.str (X149.s 0),X149.v 1,X149.v 2,X149.v 3]),.str A1] fun a151=>
 .opt (mB 0 a151) fun a152=>.asG lK a152 fun X153=>
 .opt (mB 1 a151) fun a154=>.asB a154 fun b155=>.heavy (rC yA 81 a150 (.agg [.str (X153.s 0),.bool (X153.b 1),X153.v 2])) fun _=>
 .ite b155
 (.opt (tB yA 81 1 a150) fun a156=>.light (fun m=>mA yA 4 ⟨0,m⟩ a156) fun a157=>.asB a157 fun b158=>.ret (.tup [.int .u8 0,(.bool (!b158))]))
 (.ret (.tup [.int .u8 0,.bool false])))
 (.ret (.tup [.int .u8 0,.bool true])))))
 (.ite (jA A0 22)
 (.ite (jA A0 22)
 (.opt (cC p0) fun a159=>.opt (tB yA 104 0 a159) fun a160=>.light (fun m=>mA yA 26 ⟨0,m⟩ a160) fun a161=>.asG kK a161 fun X162=>
 .heavy (yH yA 59) fun a163=>
 .call 19 [(.agg [.str (X162.s 0),X162.v 1,X162.v 2,X162.v 3]),.str A1] fun a164=>
 .opt (mB 0 a164) fun a165=>.asG zvw a165 fun X166=>
 .opt (mB 1 a164) fun a167=>.asB a167 fun b168=>.heavy (rC yA 59 a163 (.agg [.str (X166.s 0),.int .u8 (X166.i 1),.bool (X166.b 2)])) fun _=>
 .ite b168
 (.opt (tB yA 59 2 a163) fun a169=>.light (fun m=>mA yA 4 ⟨0,m⟩ a169) fun a170=>.asB a170 fun b171=>.opt (tB yA 59 1 a163) fun a172=>.light (fun m=>mA yA 5 ⟨0,m⟩ a172) fun a173=>.asI .u8 a173 fun n174=>.ite (bEq b171 (!jA A0 5))
 (.opt (tB yA 59 1 a163) fun a175=>.light (fun m=>mA yA 5 ⟨0,m⟩ a175) fun a176=>.asI .u8 a176 fun n177=>.ite (jC 1 n177)
 (.opt (tB yA 59 1 a163) fun a178=>.light (fun m=>mA yA 5 ⟨0,m⟩ a178) fun a179=>.asI .u8 a179 fun n180=>.ret (.tup [.int .u8 n174,(.bool (jC n180 6))]))
 (.ret (.tup [.int .u8 n174,.bool false])))
 (.ret (.tup [.int .u8 n174,.bool false])))
 (.opt (tB yA 59 1 a163) fun a181=>.light (fun m=>mA yA 5 ⟨0,m⟩ a181) fun a182=>.asI .u8 a182 fun n183=>.ret (.tup [.int .u8 n183,.bool false])))
 (.ite (jA A0 6)
 (.opt (cC p0) fun a184=>.opt (tB yA 104 0 a184) fun a185=>.light (fun m=>mA yA 26 ⟨0,m⟩ a185) fun a186=>.asG kK a186 fun X187=>
 .heavy (yH yA 81) fun a188=>
 .call 54 [(.agg [.str (X187.s 0),X187.v 1,X187.v 2,X187.v 3]),.str A1] fun a189=>
 .opt (mB 0 a189) fun a190=>.asG lK a190 fun X191=>
 .opt (mB 1 a189) fun a192=>.asB a192 fun b193=>.heavy (rC yA 81 a188 (.agg [.str (X191.s 0),.bool (X191.b 1),X191.v 2])) fun _=>
 .ite b193
 (.opt (tB yA 81 1 a188) fun a194=>.light (fun m=>mA yA 4 ⟨0,m⟩ a194) fun a195=>.asB a195 fun b196=>.opt (oB A8) fun a197=>.asI .i64 a197 fun n198=>.ret (.tup [.int .u8 0,(.bool (bEq b196 (jA n198 2)))]))
 (.ret (.tup [.int .u8 0,.bool false])))
 (.ite (jA A0 23)
 (.opt (cC p0) fun a199=>.opt (tB yA 104 0 a199) fun a200=>.light (fun m=>mA yA 26 ⟨0,m⟩ a200) fun a201=>.asG kK a201 fun X202=>
 .heavy (yH yA 81) fun a203=>
 .call 54 [(.agg [.str (X202.s 0),X202.v 1,X202.v 2,X202.v 3]),.str A1] fun a204=>
 .opt (mB 0 a204) fun a205=>.asG lK a205 fun X206=>
 .opt (mB 1 a204) fun a207=>.asB a207 fun b208=>.heavy (rC yA 81 a203 (.agg [.str (X206.s 0),.bool (X206.b 1),X206.v 2])) fun _=>
 .ite b208
 (.opt (tB yA 81 1 a203) fun a209=>.light (fun m=>mA yA 4 ⟨0,m⟩ a209) fun a210=>.asB a210 fun b211=>.ret (.tup [.int .u8 0,(.bool (!b211))]))
 (.ret (.tup [.int .u8 0,.bool false])))
 (.ret (.tup [.int .u8 0,.bool true])))))
 (.ite (jA A0 5)
 (.opt (cC p0) fun a212=>.opt (tB yA 104 0 a212) fun a213=>.light (fun m=>mA yA 26 ⟨0,m⟩ a213) fun a214=>.asG kK a214 fun X215=>
 .heavy (yH yA 59) fun a216=>
 .call 19 [(.agg [.str (X215.s 0),X215.v 1,X215.v 2,X215.v 3]),.str A1] fun a217=>
 .opt (mB 0 a217) fun a218=>.asG zvw a218 fun X219=>
 .opt (mB 1 a217) fun a220=>.asB a220 fun b221=>.heavy (rC yA 59 a216 (.agg [.str (X219.s 0),.int .u8 (X219.i 1),.bool (X219.b 2)])) fun _=>
 .ite b221
 (.opt (tB yA 59 2 a216) fun a222=>.light (fun m=>mA yA 4 ⟨0,m⟩ a222) fun a223=>.asB a223 fun b224=>.opt (tB yA 59 1 a216) fun a225=>.light (fun m=>mA yA 5 ⟨0,m⟩ a225) fun a226=>.asI .u8 a226 fun n227=>.ite (bEq b224 (!jA A0 5))
 (.opt (tB yA 59 1 a216) fun a228=>.light (fun m=>mA yA 5 ⟨0,m⟩ a228) fun a229=>.asI .u8 a229 fun n230=>.ite (jC 1 n230)
 (.opt (tB yA 59 1 a216) fun a231=>.light (fun m=>mA yA 5 ⟨0,m⟩ a231) fun a232=>.asI .u8 a232 fun n233=>.ret (.tup [.int .u8 n227,(.bool (jC n233 6))]))
 (.ret (.tup [.int .u8 n227,.bool false])))
 (.ret (.tup [.int .u8 n227,.bool false])))
 (.opt (tB yA 59 1 a216) fun a234=>.light (fun m=>mA yA 5 ⟨0,m⟩ a234) fun a235=>.asI .u8 a235 fun n236=>.ret (.tup [.int .u8 n236,.bool false])))
 (.ite (jA A0 6)
 (.opt (cC p0) fun a237=>.opt (tB yA 104 0 a237) fun a238=>.light (fun m=>mA yA 26 ⟨0,m⟩ a238) fun a239=>.asG kK a239 fun X240=>
 .heavy (yH yA 81) fun a241=>
 .call 54 [(.agg [.str (X240.s 0),X240.v 1,X240.v 2,X240.v 3]),.str A1] fun a242=>
 .opt (mB 0 a242) fun a243=>.asG lK a243 fun X244=>
 .opt (mB 1 a242) fun a245=>.asB a245 fun b246=>.heavy (rC yA 81 a241 (.agg [.str (X244.s 0),.bool (X244.b 1),X244.v 2])) fun _=>
 .ite b246
 (.opt (tB yA 81 1 a241) fun a247=>.light (fun m=>mA yA 4 ⟨0,m⟩ a247) fun a248=>.asB a248 fun b249=>.opt (oB A8) fun a250=>.asI .i64 a250 fun n251=>.ret (.tup [.int .u8 0,(.bool (bEq b249 (jA n251 2)))]))
 (.ret (.tup [.int .u8 0,.bool false])))
 (.ite (jA A0 23)
 (.opt (cC p0) fun a252=>.opt (tB yA 104 0 a252) fun a253=>.light (fun m=>mA yA 26 ⟨0,m⟩ a253) fun a254=>.asG kK a254 fun X255=>
 .heavy (yH yA 81) fun a256=>
 .call 54 [(.agg [.str (X255.s 0),X255.v 1,X255.v 2,X255.v 3]),.str A1] fun a257=>
 .opt (mB 0 a257) fun a258=>.asG lK a258 fun X259=>
 .opt (mB 1 a257) fun a260=>.asB a260 fun b261=>.heavy (rC yA 81 a256 (.agg [.str (X259.s 0),.bool (X259.b 1),X259.v 2])) fun _=>
 .ite b261
 (.opt (tB yA 81 1 a256) fun a262=>.light (fun m=>mA yA 4 ⟨0,m⟩ a262) fun a263=>.asB a263 fun b264=>.ret (.tup [.int .u8 0,(.bool (!b264))]))
 (.ret (.tup [.int .u8 0,.bool false])))
 (.ret (.tup [.int .u8 0,.bool true]))))))))
def w66(p0:zA)(A0:Int)(A1:List Nat)(A2:Int)(A3:Bool)(A4:zA)(A5:Bool)(A6:zA)(A7:Int)(A8:zA)(h:wp 66 (t66 p0 A0 A1 A2 A3 A4 A5 A6 A7 A8) m Q):Wf 66 [p0,.agg [.int .u8 A0,.str A1,.int .u8 A2,.bool A3,A4,.bool A5,A6,.int .i64 A7,A8]] m Q:=yC ok66 h
def t67 (A0:Bool)(A1:zA):T:=
 .call 89 [A1] fun a0=>
 .ite (kB zA.one [a0]) (.ite (kB zA.one [.bool A0,a0]) (.ret (.agg [.bool A0,a0])) .fail) .fail
def w67(A0:Bool)(A1:zA)(h:wp 67 (t67 A0 A1) m Q):Wf 67 [.agg [.bool A0,A1]] m Q:=yC ok67 h
def t68 (A0:zA)(A1:List Nat)(A2 A3 A4:zA):T:=
 .call 84 [.str A1] fun a0=>
 .asB a0 fun b1=>.ite b1
 (.call 91 [A2,(.func (.func 90) [] [])] fun a2=>
 .asB a2 fun b3=>.ite b3
 (.call 92 [A3,(.func (.func 93) [] [])] fun a4=>
 .asB a4 fun b5=>.ite b5
 (.call 94 [A4,(.func (.func 95) [.agg [A0]] [])] fun a6=>
 .asB a6 fun b7=>.ret (.bool b7))
 (.ret (.bool false)))
 (.ret (.bool false)))
 (.ret (.bool false))
def w68(A0:zA)(A1:List Nat)(A2 A3 A4:zA)(h:wp 68 (t68 A0 A1 A2 A3 A4) m Q):Wf 68 [.agg [A0],.agg [.str A1,A2,A3,A4]] m Q:=yC ok68 h
def t69 (p0:zA):T:=
 .jump 2 [p0,.nilslice,.int .i64 0]
def w69(p0:zA)(h:wp 69 (t69 p0) m Q):Wf 69 [p0] m Q:=yC ok69 h
def t69_2(v0 v3:zA)(v4:Int):T:=
 .opt (oB v0) fun a0=>.asI .i64 a0 fun n1=>.ite (bB v4 n1)
 (.opt (qB yA 79 v0 (.int .i64 v4)) fun a2=>.light (fun m=>mA yA 84 ⟨0,m⟩ a2) fun a3=>.asG zz8z a3 fun X4=>
 .call 96 [(.agg [.int .i64 (X4.i 0),.int .i64 (X4.i 1),.int .i64 (X4.i 2),.bool (X4.b 3),X4.v 4,.bool (X4.b 5),X4.v 6])] fun a5=>
 .asG zz8z a5 fun X6=>
 .ite (kB zA.one [.int .i64 (X6.i 0),.int .i64 (X6.i 1),.int .i64 (X6.i 2),.bool (X6.b 3),X6.v 4,.bool (X6.b 5),X6.v 6]) (.heavy (cH yA 79 1 [(0,(.agg [.int .i64 (X6.i 0),.int .i64 (X6.i 1),.int .i64 (X6.i 2),.bool (X6.b 3),X6.v 4,.bool (X6.b 5),X6.v 6]))]) fun a7=>
 .heavy (pF yA 79 79 v3 a7) fun a8=>
 .jump 2 [v0,a8,(.int .i64 (tA .i64 (v4+1)))]) .fail)
 (.ret v3)
def j69_2(v0 v3:zA)(v4:Int)(h:wp 69 (t69_2 v0 v3 v4) m Q):jp 69 2 [v0,v3,.int .i64 v4] m Q:=wD ok69 h
def t70 (A0:Bool)(A1:zA)(A2:Bool)(A3:zA):T:=
 .ite (bEq A0 A2)
 (.call 97 [A1,A3] fun a0=>
 .asB a0 fun b1=>.ret (.bool b1))
 (.ret (.bool false))
def w70(A0:Bool)(A1:zA)(A2:Bool)(A3:zA)(h:wp 70 (t70 A0 A1 A2 A3) m Q):Wf 70 [.agg [.bool A0,A1],.agg [.bool A2,A3]] m Q:=yC ok70 h
def t83  : T:=
 .ite true (.ite true (.callv (.func (.func 109) [] []) [.str [102,97,99,116,32]] fun a0=>
 .asG mI a0 fun X1=>
 .callv (.func (.func 109) [] []) [.str [104,97,115,32]] fun a2=>
 .asG mI a2 fun X3=>
 .callv (.func (.func 109) [] []) [.str []] fun a4=>
 .asG mI a4 fun X5=>
 .callv (.func (.func 108) [] []) [.str [108,111,111,107],.bool true,.int .i64 1,.int .i64 2] fun a6=>
 .asG mI a6 fun X7=>
 .callv (.func (.func 110) [] []) [.str [43],.int .i64 5,.int .i64 5,.int .i64 6] fun a8=>
 .asG mI a8 fun X9=>
 .callv (.func (.func 110) [] []) [.str [45],.int .i64 5,.int .i64 5,.int .i64 6] fun a10=>
 .asG mI a10 fun X11=>
 .callv (.func (.func 110) [] []) [.str [42],.int .i64 6,.int .i64 6,.int .i64 7] fun jD=>
 .asG mI jD fun X13=>
 .callv (.func (.func 110) [] []) [.str [47],.int .i64 6,.int .i64 6,.int .i64 7] fun a14=>
 .asG mI a14 fun X15=>
 .callv (.func (.func 108) [] []) [.str [109,105,110],.bool false,.int .i64 2,.int .i64 2] fun a16=>
 .asG mI a16 fun X17=>
 .callv (.func (.func 108) [] []) [.str [109,97,120],.bool false,.int .i64 2,.int .i64 2] fun a18=>
 .asG mI a18 fun X19=>
 .callv (.func (.func 110) [] []) [.str [60],.int .i64 4,.int .i64 5,.int .i64 5] fun a20=>
 .asG mI a20 fun X21=>
 .callv (.func (.func 110) [] []) [.str [61],.int .i64 4,.int .i64 5,.int .i64 5] fun a22=>
 .asG mI a22 fun X23=>
 .callv (.func (.func 110) [] []) [.str [97,110,100],.int .i64 2,.int .i64 2,.int .i64 3] fun a24=>
 .asG mI a24 fun X25=>
 .callv (.func (.func 110) [] []) [.str [111,114],.int .i64 1,.int .i64 1,.int .i64 2] fun a26=>
 .asG mI a26 fun X27=>
 .ite true (.callv (.func (.func 108) [] []) [.str [105,102],.bool false,.int .i64 3,.int .i64 3] fun a28=>
 .asG mI a28 fun X29=>
 .callv (.func (.func 108) [] []) [.str [114,111,117,110,100],.bool false,.int .i64 2,.int .i64 2] fun a30=>
 .asG mI a30 fun X31=>
 .callv (.func (.func 108) [] []) [.str [98,101,116,119,101,101,110],.bool false,.int .i64 2,.int .i64 2] fun a32=>
 .asG mI a32 fun X33=>
 .callv (.func (.func 108) [] []) [.str [115,101,114,118,105,99,101],.bool true,.int .i64 2,.int .i64 2] fun a34=>
 .asG mI a34 fun X35=>
 .callv (.func (.func 108) [] []) [.str [98,101,115,116],.bool true,.int .i64 3,.int .i64 3] fun a36=>
 .asG mI a36 fun X37=>
 .callv (.func (.func 108) [] []) [.str [103,114,111,119],.bool true,.int .i64 2,.int .i64 2] fun a38=>
 .asG mI a38 fun X39=>
 .callv (.func (.func 108) [] []) [.str [109,111,110,116,104,115],.bool false,.int .i64 1,.int .i64 1] fun a40=>
 .asG mI a40 fun X41=>
 .callv (.func (.func 108) [] []) [.str [110,117,109,98,101,114],.bool false,.int .i64 1,.int .i64 1] fun a42=>
 .asG mI a42 fun X43=>
 .callv (.func (.func 108) [] []) [.str [115,116,97,114,116],.bool false,.int .i64 1,.int .i64 1] fun a44=>
 .asG mI a44 fun X45=>
 .ite true (.heavy (ztb (.agg [.int .u8 0,.str [],.bool false,.int .i64 0,.int .i64 0,.int .i64 0,.int .i64 0,.int .i64 0,.int .u8 1,.str [],.bool false,.int .i64 0,.int .i64 0,.int .i64 7,.int .i64 0,.int .i64 0,.int .u8 2,.str [116,111,100,97,121],.bool false,.int .i64 0,.int .i64 0,.int .i64 7,.int .i64 0,.int .i64 0,.int .u8 (X1.i 0),.str (X1.s 1),.bool (X1.b 2),.int .i64 (X1.i 3),.int .i64 (X1.i 4),.int .i64 (X1.i 5),.int .i64 (X1.i 6),.int .i64 (X1.i 7),.int .u8 (X3.i 0),.str (X3.s 1),.bool (X3.b 2),.int .i64 (X3.i 3),.int .i64 (X3.i 4),.int .i64 (X3.i 5),.int .i64 (X3.i 6),.int .i64 (X3.i 7),.int .u8 (X5.i 0),.str (X5.s 1),.bool (X5.b 2),.int .i64 (X5.i 3),.int .i64 (X5.i 4),.int .i64 (X5.i 5),.int .i64 (X5.i 6),.int .i64 (X5.i 7),.int .u8 (X7.i 0),.str (X7.s 1),.bool (X7.b 2),.int .i64 (X7.i 3),.int .i64 (X7.i 4),.int .i64 (X7.i 5),.int .i64 (X7.i 6),.int .i64 (X7.i 7),.int .u8 (X9.i 0),.str (X9.s 1),.bool (X9.b 2),.int .i64 (X9.i 3),.int .i64 (X9.i 4),.int .i64 (X9.i 5),.int .i64 (X9.i 6),.int .i64 (X9.i 7),.int .u8 (X11.i 0),.str (X11.s 1),.bool (X11.b 2),.int .i64 (X11.i 3),.int .i64 (X11.i 4),.int .i64 (X11.i 5),.int .i64 (X11.i 6),.int .i64 (X11.i 7),.int .u8 (X13.i 0),.str (X13.s 1),.bool (X13.b 2),.int .i64 (X13.i 3),.int .i64 (X13.i 4),.int .i64 (X13.i 5),.int .i64 (X13.i 6),.int .i64 (X13.i 7),.int .u8 (X15.i 0),.str (X15.s 1),.bool (X15.b 2),.int .i64 (X15.i 3),.int .i64 (X15.i 4),.int .i64 (X15.i 5),.int .i64 (X15.i 6),.int .i64 (X15.i 7),.int .u8 (X17.i 0),.str (X17.s 1),.bool (X17.b 2),.int .i64 (X17.i 3),.int .i64 (X17.i 4),.int .i64 (X17.i 5),.int .i64 (X17.i 6),.int .i64 (X17.i 7),.int .u8 (X19.i 0),.str (X19.s 1),.bool (X19.b 2),.int .i64 (X19.i 3),.int .i64 (X19.i 4),.int .i64 (X19.i 5),.int .i64 (X19.i 6),.int .i64 (X19.i 7),.int .u8 (X21.i 0),.str (X21.s 1),.bool (X21.b 2),.int .i64 (X21.i 3),.int .i64 (X21.i 4),.int .i64 (X21.i 5),.int .i64 (X21.i 6),.int .i64 (X21.i 7),.int .u8 (X23.i 0),.str (X23.s 1),.bool (X23.b 2),.int .i64 (X23.i 3),.int .i64 (X23.i 4),.int .i64 (X23.i 5),.int .i64 (X23.i 6),.int .i64 (X23.i 7),.int .u8 (X25.i 0),.str (X25.s 1),.bool (X25.b 2),.int .i64 (X25.i 3),.int .i64 (X25.i 4),.int .i64 (X25.i 5),.int .i64 (X25.i 6),.int .i64 (X25.i 7),.int .u8 (X27.i 0),.str (X27.s 1),.bool (X27.b 2),.int .i64 (X27.i 3),.int .i64 (X27.i 4),.int .i64 (X27.i 5),.int .i64 (X27.i 6),.int .i64 (X27.i 7),.int .u8 5,.str [110,111,116,32],.bool false,.int .i64 1,.int .i64 1,.int .i64 3,.int .i64 3,.int .i64 3,.int .u8 (X29.i 0),.str (X29.s 1),.bool (X29.b 2),.int .i64 (X29.i 3),.int .i64 (X29.i 4),.int .i64 (X29.i 5),.int .i64 (X29.i 6),.int .i64 (X29.i 7),.int .u8 (X31.i 0),.str (X31.s 1),.bool (X31.b 2),.int .i64 (X31.i 3),.int .i64 (X31.i 4),.int .i64 (X31.i 5),.int .i64 (X31.i 6),.int .i64 (X31.i 7),.int .u8 (X33.i 0),.str (X33.s 1),.bool (X33.b 2),.int .i64 (X33.i 3),.int .i64 (X33.i 4),.int .i64 (X33.i 5),.int .i64 (X33.i 6),.int .i64 (X33.i 7),.int .u8 (X35.i 0),.str (X35.s 1),.bool (X35.b 2),.int .i64 (X35.i 3),.int .i64 (X35.i 4),.int .i64 (X35.i 5),.int .i64 (X35.i 6),.int .i64 (X35.i 7),.int .u8 (X37.i 0),.str (X37.s 1),.bool (X37.b 2),.int .i64 (X37.i 3),.int .i64 (X37.i 4),.int .i64 (X37.i 5),.int .i64 (X37.i 6),.int .i64 (X37.i 7),.int .u8 (X39.i 0),.str (X39.s 1),.bool (X39.b 2),.int .i64 (X39.i 3),.int .i64 (X39.i 4),.int .i64 (X39.i 5),.int .i64 (X39.i 6),.int .i64 (X39.i 7),.int .u8 (X41.i 0),.str (X41.s 1),.bool (X41.b 2),.int .i64 (X41.i 3),.int .i64 (X41.i 4),.int .i64 (X41.i 5),.int .i64 (X41.i 6),.int .i64 (X41.i 7),.int .u8 (X43.i 0),.str (X43.s 1),.bool (X43.b 2),.int .i64 (X43.i 3),.int .i64 (X43.i 4),.int .i64 (X43.i 5),.int .i64 (X43.i 6),.int .i64 (X43.i 7),.int .u8 (X45.i 0),.str (X45.s 1),.bool (X45.b 2),.int .i64 (X45.i 3),.int .i64 (X45.i 4),.int .i64 (X45.i 5),.int .i64 (X45.i 6),.int .i64 (X45.i 7)])) fun a46=>
 .ret a46) .fail) .fail) .fail) .fail
def w83 (h:wp 83 (t83 ) m Q):Wf 83 [] m Q:=yC ok83 h
def t84 (p0:List Nat):T:=
 .ite (wE p0 [])
 (.ret (.bool false))
 (.ite (bB 24 (Int.ofNat (yB p0)))
 (.ret (.bool false))
 (.opt (sJ yA 9 (.str p0) (.int .i64 0)) fun a0=>.asI .u8 a0 fun n1=>.call 111 [.int .u8 n1] fun a2=>
 .asB a2 fun b3=>.ite (!b3)
 (.ret (.bool false))
 (.call 112 [.str p0,(.func (.func 113) [] [])] fun a4=>
 .asS a4 fun s5=>.ite (wE s5 p0)
 (.call 114 [.str p0] fun a6=>
 .asB a6 fun b7=>.ret (.bool (!b7)))
 (.ret (.bool false)))))
def w84(p0:List Nat)(h:wp 84 (t84 p0) m Q):Wf 84 [.str p0] m Q:=yC ok84 h
def t85 (A0:Int)(A1:Bool)(A2:zA)(A3:Bool)(A4:zA)(A5:Int):T:=
 .ite (jA A0 2)
 (.ite (jA A0 2)
 (.ite (jA A5 0)
 (.call 115 [.agg [.bool A1,A2,.bool A3,A4]] fun a0=>
 .asB a0 fun b1=>.ret (.bool b1))
 (.ret (.bool false)))
 (.ite (jA A0 1)
 (.call 116 [.agg [.bool A1,A2,.bool A3,A4]] fun a2=>
 .asB a2 fun b3=>.ite b3
 (.ite (jA A5 0)
 (.ret (.bool true))
 (.ret (.bool (jA A5 1))))
 (.ret (.bool false)))
 (.ite (jA A0 4)
 (.call 116 [.agg [.bool A1,A2,.bool A3,A4]] fun a4=>
 .asB a4 fun b5=>.ite b5
 (.call 117 [.int .i64 A5] fun a6=>
 .asB a6 fun b7=>.ret (.bool b7))
 (.ret (.bool false)))
 (.ite (jA A0 5)
 (.ite (jA A0 5)
 (.call 116 [.agg [.bool A1,A2,.bool A3,A4]] fun a8=>
 .asB a8 fun b9=>.ite b9
 (.ite (jC (-1048576) A5)
 (.ret (.bool (jC A5 1048576)))
 (.ret (.bool false)))
 (.ret (.bool false)))
 (.ret (.bool false)))
 (.ite (jA A0 6)
 (.call 116 [.agg [.bool A1,A2,.bool A3,A4]] fun a10=>
 .asB a10 fun b11=>.ite b11
 (.ite (jC (-1048576) A5)
 (.ret (.bool (jC A5 1048576)))
 (.ret (.bool false)))
 (.ret (.bool false)))
 (.ret (.bool false)))))))
 (.ite (jA A0 3)
 (.ite (jA A5 0)
 (.call 115 [.agg [.bool A1,A2,.bool A3,A4]] fun jD=>
 .asB jD fun b13=>.ret (.bool b13))
 (.ret (.bool false)))
 (.ite (jA A0 1)
 (.call 116 [.agg [.bool A1,A2,.bool A3,A4]] fun a14=>
 .asB a14 fun b15=>.ite b15
 (.ite (jA A5 0)
 (.ret (.bool true))
 (.ret (.bool (jA A5 1))))
 (.ret (.bool false)))
 (.ite (jA A0 4)
 (.call 116 [.agg [.bool A1,A2,.bool A3,A4]] fun a16=>
 .asB a16 fun b17=>.ite b17
 (.call 117 [.int .i64 A5] fun a18=>
 .asB a18 fun b19=>.ret (.bool b19))
 (.ret (.bool false)))
 (.ite (jA A0 5)
 (.ite (jA A0 5)
 (.call 116 [.agg [.bool A1,A2,.bool A3,A4]] fun a20=>
 .asB a20 fun b21=>.ite b21
 (.ite (jC (-1048576) A5)
 (.ret (.bool (jC A5 1048576)))
 (.ret (.bool false)))
 (.ret (.bool false)))
 (.ret (.bool false)))
 (.ite (jA A0 6)
 (.call 116 [.agg [.bool A1,A2,.bool A3,A4]] fun a22=>
 .asB a22 fun b23=>.ite b23
 (.ite (jC (-1048576) A5)
 (.ret (.bool (jC A5 1048576)))
 (.ret (.bool false)))
 (.ret (.bool false)))
 (.ret (.bool false)))))))
def w85(A0:Int)(A1:Bool)(A2:zA)(A3:Bool)(A4:zA)(A5:Int)(h:wp 85 (t85 A0 A1 A2 A3 A4 A5) m Q):Wf 85 [.agg [.int .u8 A0,.bool A1,A2,.bool A3,A4,.int .i64 A5]] m Q:=yC ok85 h
def t86 (A0:Int)(A1:Bool)(A2:zA)(A3:Bool)(A4:zA)(A5:Int):T:=
 .ite (jA A0 0)
 (.ite (jA A5 0)
 (.call 116 [.agg [.bool A1,A2,.bool A3,A4]] fun a0=>
 .asB a0 fun b1=>.ret (.bool b1))
 (.ret (.bool false)))
 (.ret (.bool false))
def w86(A0:Int)(A1:Bool)(A2:zA)(A3:Bool)(A4:zA)(A5:Int)(h:wp 86 (t86 A0 A1 A2 A3 A4 A5) m Q):Wf 86 [.agg [.int .u8 A0,.bool A1,A2,.bool A3,A4,.int .i64 A5]] m Q:=yC ok86 h
def t89 (p0:zA):T:=
 .heavy (pF yA 27 27 .nilslice p0) fun a0=>
 .ret a0
def w89(p0:zA)(h:wp 89 (t89 p0) m Q):Wf 89 [p0] m Q:=yC ok89 h
def t90 (A0:List Nat)(A1:Int)(A2:Bool):T:=
 .call 84 [.str A0] fun a0=>
 .asB a0 fun b1=>.ite b1
 (.ite (jC 1 A1)
 (.ret (.bool (jC A1 6)))
 (.ret (.bool false)))
 (.ret (.bool false))
def w90(A0:List Nat)(A1:Int)(A2:Bool)(h:wp 90 (t90 A0 A1 A2) m Q):Wf 90 [.agg [.str A0,.int .u8 A1,.bool A2]] m Q:=yC ok90 h
def t91 (p0 p1:zA):T:=
 .opt (oB p0) fun a0=>.asI .i64 a0 fun n1=>.jump 2 [p1,p0,.int .i64 n1,.int .i64 0]
def w91(p0 p1:zA)(h:wp 91 (t91 p0 p1) m Q):Wf 91 [p0,p1] m Q:=yC ok91 h
def t91_2(v1 v7:zA)(v8 v9:Int):T:=
 .ite (bB v9 v8)
 (.opt (qB yA 22 v7 (.int .i64 v9)) fun a0=>.light (fun m=>mA yA 59 ⟨0,m⟩ a0) fun a1=>.asG zvw a1 fun X2=>
 .ite true (.callv v1 [(.agg [.str (X2.s 0),.int .u8 (X2.i 1),.bool (X2.b 2)])] fun a3=>
 .asB a3 fun b4=>.ite (!b4)
 (.ret (.bool false))
 (.jump 2 [v1,v7,.int .i64 v8,(.int .i64 (tA .i64 (v9+1)))])) .fail)
 (.ret (.bool true))
def j91_2(v1 v7:zA)(v8 v9:Int)(h:wp 91 (t91_2 v1 v7 v8 v9) m Q):jp 91 2 [v1,v7,.int .i64 v8,.int .i64 v9] m Q:=wD ok91 h
def t92 (p0 p1:zA):T:=
 .opt (oB p0) fun a0=>.asI .i64 a0 fun n1=>.jump 2 [p1,p0,.int .i64 n1,.int .i64 0]
def w92(p0 p1:zA)(h:wp 92 (t92 p0 p1) m Q):Wf 92 [p0,p1] m Q:=yC ok92 h
def t92_2(v1 v7:zA)(v8 v9:Int):T:=
 .ite (bB v9 v8)
 (.opt (qB yA 23 v7 (.int .i64 v9)) fun a0=>.light (fun m=>mA yA 81 ⟨0,m⟩ a0) fun a1=>.asG lK a1 fun X2=>
 .ite (kB zA.one [.str (X2.s 0),.bool (X2.b 1),X2.v 2]) (.callv v1 [(.agg [.str (X2.s 0),.bool (X2.b 1),X2.v 2])] fun a3=>
 .asB a3 fun b4=>.ite (!b4)
 (.ret (.bool false))
 (.jump 2 [v1,v7,.int .i64 v8,(.int .i64 (tA .i64 (v9+1)))])) .fail)
 (.ret (.bool true))
def j92_2(v1 v7:zA)(v8 v9:Int)(h:wp 92 (t92_2 v1 v7 v8 v9) m Q):jp 92 2 [v1,v7,.int .i64 v8,.int .i64 v9] m Q:=wD ok92 h
def t93 (A0:List Nat)(A1:Bool)(A2:zA):T:=
 .heavy (ztb (.agg [.str A0,.bool A1,A2])) fun a0=>
 .heavy (yH yA 191) fun a1=>
 .heavy (rC yA 191 a1 (.func (.func 123) [] [])) fun _=>
 .opt (tB yA 81 0 a0) fun a2=>.light (fun m=>mA yA 9 ⟨0,m⟩ a2) fun a3=>.asS a3 fun s4=>.call 84 [.str s4] fun a5=>
 .asB a5 fun b6=>.ite b6
 (.opt (tB yA 81 2 a0) fun a7=>.light (fun m=>mA yA 79 ⟨0,m⟩ a7) fun a8=>.call 125 [a8,(.func (.func 124) [] [a1,a0])] fun a9=>
 .asB a9 fun b10=>.ret (.bool b10))
 (.ret (.bool false))
def w93(A0:List Nat)(A1:Bool)(A2:zA)(h:wp 93 (t93 A0 A1 A2) m Q):Wf 93 [.agg [.str A0,.bool A1,A2]] m Q:=yC ok93 h
def t94 (p0 p1:zA):T:=
 .opt (oB p0) fun a0=>.asI .i64 a0 fun n1=>.jump 2 [p1,p0,.int .i64 n1,.int .i64 0]
def w94(p0 p1:zA)(h:wp 94 (t94 p0 p1) m Q):Wf 94 [p0,p1] m Q:=yC ok94 h
def t94_2(v1 v7:zA)(v8 v9:Int):T:=
 .ite (bB v9 v8)
 (.opt (qB yA 24 v7 (.int .i64 v9)) fun a0=>.light (fun m=>mA yA 56 ⟨0,m⟩ a0) fun a1=>.asG zz6z a1 fun X2=>
 .ite (kB zA.one [.str (X2.s 0),.str (X2.s 1),.int .i64 (X2.i 2),.int .i64 (X2.i 3),.int .i64 (X2.i 4),.bool (X2.b 5),.int .u8 (X2.i 6),.str (X2.s 7),.int .u8 (X2.i 8),.bool (X2.b 9),X2.v 10,.bool (X2.b 11),X2.v 12,.int .i64 (X2.i 13),X2.v 14,.int .u8 (X2.i 15),.str (X2.s 16),.int .u8 (X2.i 17),.bool (X2.b 18),X2.v 19,.bool (X2.b 20),X2.v 21,.int .i64 (X2.i 22),X2.v 23]) (.callv v1 [(.agg [.str (X2.s 0),.str (X2.s 1),.int .i64 (X2.i 2),.int .i64 (X2.i 3),.int .i64 (X2.i 4),.bool (X2.b 5),.int .u8 (X2.i 6),.str (X2.s 7),.int .u8 (X2.i 8),.bool (X2.b 9),X2.v 10,.bool (X2.b 11),X2.v 12,.int .i64 (X2.i 13),X2.v 14,.int .u8 (X2.i 15),.str (X2.s 16),.int .u8 (X2.i 17),.bool (X2.b 18),X2.v 19,.bool (X2.b 20),X2.v 21,.int .i64 (X2.i 22),X2.v 23])] fun a3=>
 .asB a3 fun b4=>.ite (!b4)
 (.ret (.bool false))
 (.jump 2 [v1,v7,.int .i64 v8,(.int .i64 (tA .i64 (v9+1)))])) .fail)
 (.ret (.bool true))
def j94_2(v1 v7:zA)(v8 v9:Int)(h:wp 94 (t94_2 v1 v7 v8 v9) m Q):jp 94 2 [v1,v7,.int .i64 v8,.int .i64 v9] m Q:=wD ok94 h
def t95 (A0:zA)(A1 A2:List Nat)(A3 A4 A5:Int)(A6:Bool)(A7:Int)(A8:List Nat)(A9:Int)(B0:Bool)(B1:zA)(B2:Bool)(B3:zA)(B4:Int)(B5:zA)(B6:Int)(B7:List Nat)(B8:Int)(B9:Bool)(D0:zA)(D1:Bool)(D2:zA)(D3:Int)(D4:zA):T:=
 .call 84 [.str A1] fun a0=>
 .asB a0 fun b1=>.ite (!b1)
 (.ret (.bool false))
 (.call 84 [.str A2] fun a2=>
 .asB a2 fun b3=>.ite (!b3)
 (.ret (.bool false))
 (.call 117 [.int .i64 A3] fun a4=>
 .asB a4 fun b5=>.ite (!b5)
 (.ret (.bool false))
 (.call 117 [.int .i64 A5] fun a6=>
 .asB a6 fun b7=>.ite (!b7)
 (.ret (.bool false))
 (.call 117 [.int .i64 A4] fun a8=>
 .asB a8 fun b9=>.ite (!b9)
 (.ite (!jA A4 65536)
 (.ret (.bool false))
 (.ite A6
 (.call 126 [.agg [.int .u8 A7,.str A8,.int .u8 A9,.bool B0,B1,.bool B2,B3,.int .i64 B4,B5]] fun a10=>
 .asB a10 fun b11=>.ite b11
 (.call 126 [.agg [.int .u8 B6,.str B7,.int .u8 B8,.bool B9,D0,.bool D1,D2,.int .i64 D3,D4]] fun jD=>
 .asB jD fun b13=>.ret (.bool b13))
 (.ret (.bool false)))
 (.call 64 [.agg [A0],.agg [.int .u8 A7,.str A8,.int .u8 A9,.bool B0,B1,.bool B2,B3,.int .i64 B4,B5],.int .i64 1] fun a14=>
 .asB a14 fun b15=>.ite b15
 (.call 64 [.agg [A0],.agg [.int .u8 B6,.str B7,.int .u8 B8,.bool B9,D0,.bool D1,D2,.int .i64 D3,D4],.int .i64 1] fun a16=>
 .asB a16 fun b17=>.ret (.bool b17))
 (.ret (.bool false)))))
 (.ite A6
 (.call 126 [.agg [.int .u8 A7,.str A8,.int .u8 A9,.bool B0,B1,.bool B2,B3,.int .i64 B4,B5]] fun a18=>
 .asB a18 fun b19=>.ite b19
 (.call 126 [.agg [.int .u8 B6,.str B7,.int .u8 B8,.bool B9,D0,.bool D1,D2,.int .i64 D3,D4]] fun a20=>
 .asB a20 fun b21=>.ret (.bool b21))
 (.ret (.bool false)))
 (.call 64 [.agg [A0],.agg [.int .u8 A7,.str A8,.int .u8 A9,.bool B0,B1,.bool B2,B3,.int .i64 B4,B5],.int .i64 1] fun a22=>
 .asB a22 fun b23=>.ite b23
 (.call 64 [.agg [A0],.agg [.int .u8 B6,.str B7,.int .u8 B8,.bool B9,D0,.bool D1,D2,.int .i64 D3,D4],.int .i64 1] fun a24=>
 .asB a24 fun b25=>.ret (.bool b25))
 (.ret (.bool false))))))))
def w95(A0:zA)(A1 A2:List Nat)(A3 A4 A5:Int)(A6:Bool)(A7:Int)(A8:List Nat)(A9:Int)(B0:Bool)(B1:zA)(B2:Bool)(B3:zA)(B4:Int)(B5:zA)(B6:Int)(B7:List Nat)(B8:Int)(B9:Bool)(D0:zA)(D1:Bool)(D2:zA)(D3:Int)(D4:zA)(h:wp 95 (t95 A0 A1 A2 A3 A4 A5 A6 A7 A8 A9 B0 B1 B2 B3 B4 B5 B6 B7 B8 B9 D0 D1 D2 D3 D4) m Q):Wf 95 [.agg [A0],.agg [.str A1,.str A2,.int .i64 A3,.int .i64 A4,.int .i64 A5,.bool A6,.int .u8 A7,.str A8,.int .u8 A9,.bool B0,B1,.bool B2,B3,.int .i64 B4,B5,.int .u8 B6,.str B7,.int .u8 B8,.bool B9,D0,.bool D1,D2,.int .i64 D3,D4]] m Q:=yC ok95 h
def t96 (A0 A1 A2:Int)(A3:Bool)(A4:zA)(A5:Bool)(A6:zA):T:=
 .call 45 [.agg [.bool A3,A4,.bool A5,A6]] fun a0=>
 .asG zz7z a0 fun X1=>
 .ite (kB zA.one [.bool (X1.b 0),X1.v 1,.bool (X1.b 2),X1.v 3]) (.ite (kB zA.one [.int .i64 A0,.int .i64 A1,.int .i64 A2,.bool (X1.b 0),X1.v 1,.bool (X1.b 2),X1.v 3]) (.ret (.agg [.int .i64 A0,.int .i64 A1,.int .i64 A2,.bool (X1.b 0),X1.v 1,.bool (X1.b 2),X1.v 3])) .fail) .fail
def w96(A0 A1 A2:Int)(A3:Bool)(A4:zA)(A5:Bool)(A6:zA)(h:wp 96 (t96 A0 A1 A2 A3 A4 A5 A6) m Q):Wf 96 [.agg [.int .i64 A0,.int .i64 A1,.int .i64 A2,.bool A3,A4,.bool A5,A6]] m Q:=yC ok96 h
def t97 (p0 p1:zA):T:=
 .opt (oB p0) fun a0=>.asI .i64 a0 fun n1=>.opt (oB p1) fun a2=>.asI .i64 a2 fun n3=>.ite (!jA n1 n3)
 (.ret (.bool false))
 (.jump 2 [p0,p1,.int .i64 0])
def w97(p0 p1:zA)(h:wp 97 (t97 p0 p1) m Q):Wf 97 [p0,p1] m Q:=yC ok97 h
def z86(v0 v1:zA)(v5:Int):T:=
 .opt (oB v0) fun a0=>.asI .i64 a0 fun n1=>.ite (bB v5 n1)
 (.opt (qB yA 27 v0 (.int .i64 v5)) fun a2=>.light (fun m=>mA yA 202 ⟨0,m⟩ a2) fun a3=>.asI .u16 a3 fun n4=>.opt (qB yA 27 v1 (.int .i64 v5)) fun a5=>.light (fun m=>mA yA 202 ⟨0,m⟩ a5) fun a6=>.asI .u16 a6 fun n7=>.ite (!jA n4 n7)
 (.ret (.bool false))
 (.jump 2 [v0,v1,(.int .i64 (tA .i64 (v5+1)))]))
 (.ret (.bool true))
def j97_2(v0 v1:zA)(v5:Int)(h:wp 97 (z86 v0 v1 v5) m Q):jp 97 2 [v0,v1,.int .i64 v5] m Q:=wD ok97 h
def t108 (p0:List Nat)(p1:Bool)(p2 p3:Int):T:=
 .ite true (.ite true (.ret (.agg [.int .u8 6,.str p0,.bool p1,.int .i64 p2,.int .i64 p3,.int .i64 7,.int .i64 1,.int .i64 1])) .fail) .fail
def w108(p0:List Nat)(p1:Bool)(p2 p3:Int)(h:wp 108 (t108 p0 p1 p2 p3) m Q):Wf 108 [.str p0,.bool p1,.int .i64 p2,.int .i64 p3] m Q:=yC ok108 h
def t109 (p0:List Nat):T:=
 .ite true (.ite true (.ret (.agg [.int .u8 3,.str p0,.bool true,.int .i64 1,.int .i64 1,.int .i64 7,.int .i64 7,.int .i64 7])) .fail) .fail
def w109(p0:List Nat)(h:wp 109 (t109 p0) m Q):Wf 109 [.str p0] m Q:=yC ok109 h
def t110 (p0:List Nat)(p1 p2 p3:Int):T:=
 .ite true (.ite true (.ret (.agg [.int .u8 4,.str p0,.bool false,.int .i64 2,.int .i64 2,.int .i64 p1,.int .i64 p2,.int .i64 p3])) .fail) .fail
def w110(p0:List Nat)(p1 p2 p3:Int)(h:wp 110 (t110 p0 p1 p2 p3) m Q):Wf 110 [.str p0,.int .i64 p1,.int .i64 p2,.int .i64 p3] m Q:=yC ok110 h
def t111 (p0:Int):T:=
 .ite (jC 65 p0)
 (.ite (jC p0 90)
 (.ret (.bool true))
 (.ite (jC 97 p0)
 (.ret (.bool (jC p0 122)))
 (.ret (.bool false))))
 (.ite (jC 97 p0)
 (.ret (.bool (jC p0 122)))
 (.ret (.bool false)))
def w111(p0:Int)(h:wp 111 (t111 p0) m Q):Wf 111 [.int .u8 p0] m Q:=yC ok111 h
def t112 (p0:List Nat)(p1:zA):T:=
 .jump 2 [.str p0,p1,.int .i64 0]
def w112(p0:List Nat)(p1:zA)(h:wp 112 (t112 p0 p1) m Q):Wf 112 [.str p0,p1] m Q:=yC ok112 h
def zxi(v0:List Nat)(v1:zA)(v5:Int):T:=
 .ite (bB v5 (Int.ofNat (yB v0)))
 (.opt (sJ yA 9 (.str v0) (.int .i64 v5)) fun a0=>.asI .u8 a0 fun n1=>.callv v1 [.int .u8 n1] fun a2=>
 .asB a2 fun b3=>.ite b3
 (.jump 2 [.str v0,v1,(.int .i64 (tA .i64 (v5+1)))])
 (.opt (zH yA 9 H0A (.str v0) none (some (.int .i64 v5))) fun a4=>.asS a4 fun s5=>.ret (.str s5)))
 (.opt (zH yA 9 H0A (.str v0) none (some (.int .i64 v5))) fun a6=>.asS a6 fun s7=>.ret (.str s7))
def z78(v0:List Nat)(v1:zA)(v5:Int)(h:wp 112 (zxi v0 v1 v5) m Q):jp 112 2 [.str v0,v1,.int .i64 v5] m Q:=wD ok112 h
def t113 (p0:Int):T:=
 .call 111 [.int .u8 p0] fun a0=>
 .asB a0 fun b1=>.ite b1
 (.ret (.bool true))
 (.call 139 [.int .u8 p0] fun a2=>
 .asB a2 fun b3=>.ite b3
 (.ret (.bool true))
 (.ret (.bool (jA p0 95))))
def w113(p0:Int)(h:wp 113 (t113 p0) m Q):Wf 113 [.int .u8 p0] m Q:=yC ok113 h
def t114 (p0:List Nat):T:=
 .ite (bB (Int.ofNat (yB p0)) 2)
 (.ret (.bool false))
 (.ite (bB 7 (Int.ofNat (yB p0)))
 (.ret (.bool false))
 (.call 112 [.str p0,(.func (.func 111) [] [])] fun a0=>
 .asS a0 fun s1=>.ite (!wE s1 p0)
 (.ret (.bool false))
 (.heavy lT fun a2=>
 .heavy (rI yA 213 a2 (.int .i64 2) (.str [32,116,111,32,105,115,32,97,116,32,105,102,32,111,114,32,117,112,32])) fun _=>
 .heavy (rI yA 213 a2 (.int .i64 3) (.str [32,100,101,102,32,114,111,119,32,111,110,101,32,116,119,111,32,101,110,100,32,111,102,102,32,104,97,115,32,109,105,110,32,109,97,120,32,97,110,100,32,110,111,116,32])) fun _=>
 .heavy (rI yA 213 a2 (.int .i64 4) (.str [32,112,108,97,110,32,102,97,99,116,32,102,114,111,109,32,119,104,101,110,32,116,104,101,110,32,100,97,116,101,32,100,97,121,115,32,116,114,117,101,32,108,111,111,107,32,98,101,115,116,32,103,114,111,119,32,100,111,119,110,32,99,101,105,108,32,104,97,108,102,32,101,118,101,110,32])) fun _=>
 .heavy (rI yA 213 a2 (.int .i64 5) (.str [32,116,97,98,108,101,32,107,110,111,119,110,32,116,114,117,116,104,32,109,111,110,101,121,32,102,97,108,115,101,32,109,105,110,117,115,32,116,111,100,97,121,32,114,111,117,110,100,32,115,116,97,114,116,32,102,108,111,111,114,32])) fun _=>
 .heavy (rI yA 213 a2 (.int .i64 6) (.str [32,99,108,97,117,115,101,32,110,117,109,98,101,114,32,109,111,110,116,104,115,32])) fun _=>
 .heavy (rI yA 213 a2 (.int .i64 7) (.str [32,98,101,116,119,101,101,110,32,115,101,114,118,105,99,101,32])) fun _=>
 .light (fun m=>oH yA 213 ⟨0,m⟩ a2 (.int .i64 (Int.ofNat (yB p0))) false) fun a3=>.asS a3 fun s4=>.opt (z7b [32] p0) fun a5=>.asS a5 fun s6=>.opt (z7b s6 [32]) fun a7=>.asS a7 fun s8=>.call 140 [.str s4,.str s8] fun a9=>
 .asB a9 fun b10=>.ret (.bool b10))))
def w114(p0:List Nat)(h:wp 114 (t114 p0) m Q):Wf 114 [.str p0] m Q:=yC ok114 h
def t115 (A0:Bool)(A1:zA)(A2:Bool)(A3:zA):T:=
 .opt (oB A1) fun a0=>.asI .i64 a0 fun n1=>.ite (bB 42 n1)
 (.ret (.bool false))
 (.opt (oB A3) fun a2=>.asI .i64 a2 fun n3=>.ite (bB 42 n3)
 (.ret (.bool false))
 (.call 141 [.agg [.bool A0,A1,.bool A2,A3]] fun a4=>
 .asB a4 fun b5=>.ite (!b5)
 (.ret (.bool false))
 (.call 142 [.agg [.bool A0,A1,.bool A2,A3]] fun a6=>
 .opt (mB 0 a6) fun a7=>.asS a7 fun s8=>.opt (mB 1 a6) fun a9=>.asI .i64 a9 fun n10=>.ite (jA n10 0)
 (.call 143 [.str s8,.str [45]] fun a11=>
 .asS a11 fun s12=>.ret (.bool (jC (Int.ofNat (yB s12)) 200)))
 (.ret (.bool false)))))
def w115(A0:Bool)(A1:zA)(A2:Bool)(A3:zA)(h:wp 115 (t115 A0 A1 A2 A3) m Q):Wf 115 [.agg [.bool A0,A1,.bool A2,A3]] m Q:=yC ok115 h
def t116 (A0:Bool)(A1:zA)(A2:Bool)(A3:zA):T:=
 .ite (!A0)
 (.ite (!A2)
 (.opt (oB A1) fun a0=>.asI .i64 a0 fun n1=>.opt (oB A3) fun a2=>.asI .i64 a2 fun n3=>.ret (.bool (jA (tA .i64 (n1+n3)) 0)))
 (.ret (.bool false)))
 (.ret (.bool false))
def w116(A0:Bool)(A1:zA)(A2:Bool)(A3:zA)(h:wp 116 (t116 A0 A1 A2 A3) m Q):Wf 116 [.agg [.bool A0,A1,.bool A2,A3]] m Q:=yC ok116 h
def t117 (p0:Int):T:=
 .ite (jC 0 p0)
 (.ret (.bool (bB p0 65536)))
 (.ret (.bool false))
def w117(p0:Int)(h:wp 117 (t117 p0) m Q):Wf 117 [.int .i64 p0] m Q:=yC ok117 h
def t123 (p0:Int):T:=
 .ite (jC (-2147483648) p0)
 (.ret (.bool (bB p0 2147483648)))
 (.ret (.bool false))
def w123(p0:Int)(h:wp 123 (t123 p0) m Q):Wf 123 [.int .i64 p0] m Q:=yC ok123 h
def t124 (A0 A1 A2:Int)(A3:Bool)(A4:zA)(A5:Bool)(A6 w0 w1:zA):T:=
 .light (fun m=>mA yA 191 ⟨0,m⟩ w0) fun a0=>.callv a0 [.int .i64 A0] fun a1=>
 .asB a1 fun b2=>.ite b2
 (.light (fun m=>mA yA 191 ⟨0,m⟩ w0) fun a3=>.callv a3 [.int .i64 A1] fun a4=>
 .asB a4 fun b5=>.ite b5
 (.opt (tB yA 81 1 w1) fun a6=>.light (fun m=>mA yA 4 ⟨0,m⟩ a6) fun a7=>.asB a7 fun b8=>.ite b8
 (.call 117 [.int .i64 A2] fun a9=>
 .asB a9 fun b10=>.ite b10
 (.call 115 [.agg [.bool A3,A4,.bool A5,A6]] fun a11=>
 .asB a11 fun b12=>.ret (.bool b12))
 (.ret (.bool false)))
 (.ite (jA A1 0)
 (.call 117 [.int .i64 A2] fun a13=>
 .asB a13 fun b14=>.ite b14
 (.call 115 [.agg [.bool A3,A4,.bool A5,A6]] fun a15=>
 .asB a15 fun b16=>.ret (.bool b16))
 (.ret (.bool false)))
 (.ret (.bool false))))
 (.ret (.bool false)))
 (.ret (.bool false))
def w124(A0 A1 A2:Int)(A3:Bool)(A4:zA)(A5:Bool)(A6 w0 w1:zA)(h:wp 124 (t124 A0 A1 A2 A3 A4 A5 A6 w0 w1) m Q):Wf 124 [.agg [.int .i64 A0,.int .i64 A1,.int .i64 A2,.bool A3,A4,.bool A5,A6],w0,w1] m Q:=yC ok124 h
def t125 (p0 p1:zA):T:=
 .opt (oB p0) fun a0=>.asI .i64 a0 fun n1=>.jump 2 [p1,p0,.int .i64 n1,.int .i64 0]
def w125(p0 p1:zA)(h:wp 125 (t125 p0 p1) m Q):Wf 125 [p0,p1] m Q:=yC ok125 h
def t125_2(v1 v7:zA)(v8 v9:Int):T:=
 .ite (bB v9 v8)
 (.opt (qB yA 79 v7 (.int .i64 v9)) fun a0=>.light (fun m=>mA yA 84 ⟨0,m⟩ a0) fun a1=>.asG zz8z a1 fun X2=>
 .ite (kB zA.one [.int .i64 (X2.i 0),.int .i64 (X2.i 1),.int .i64 (X2.i 2),.bool (X2.b 3),X2.v 4,.bool (X2.b 5),X2.v 6]) (.callv v1 [(.agg [.int .i64 (X2.i 0),.int .i64 (X2.i 1),.int .i64 (X2.i 2),.bool (X2.b 3),X2.v 4,.bool (X2.b 5),X2.v 6])] fun a3=>
 .asB a3 fun b4=>.ite (!b4)
 (.ret (.bool false))
 (.jump 2 [v1,v7,.int .i64 v8,(.int .i64 (tA .i64 (v9+1)))])) .fail)
 (.ret (.bool true))
def j125_2(v1 v7:zA)(v8 v9:Int)(h:wp 125 (t125_2 v1 v7 v8 v9) m Q):jp 125 2 [v1,v7,.int .i64 v8,.int .i64 v9] m Q:=wD ok125 h
def t126 (A0:Int)(A1:List Nat)(A2:Int)(A3:Bool)(A4:zA)(A5:Bool)(A6:zA)(A7:Int)(A8:zA):T:=
 .ite (jA A0 0)
 (.ite (wE A1 [])
 (.opt (oB A8) fun a0=>.asI .i64 a0 fun n1=>.ite (jA n1 0)
 (.call 86 [.agg [.int .u8 A2,.bool A3,A4,.bool A5,A6,.int .i64 A7]] fun a2=>
 .asB a2 fun b3=>.ret (.bool b3))
 (.ret (.bool false)))
 (.ret (.bool false)))
 (.ret (.bool false))
def w126(A0:Int)(A1:List Nat)(A2:Int)(A3:Bool)(A4:zA)(A5:Bool)(A6:zA)(A7:Int)(A8:zA)(h:wp 126 (t126 A0 A1 A2 A3 A4 A5 A6 A7 A8) m Q):Wf 126 [.agg [.int .u8 A0,.str A1,.int .u8 A2,.bool A3,A4,.bool A5,A6,.int .i64 A7,A8]] m Q:=yC ok126 h
def t139 (p0:Int):T:=
 .ite (jC 48 p0)
 (.ret (.bool (jC p0 57)))
 (.ret (.bool false))
def w139(p0:Int)(h:wp 139 (t139 p0) m Q):Wf 139 [.int .u8 p0] m Q:=yC ok139 h
def t141 (A0:Bool)(A1:zA)(A2:Bool)(A3:zA):T:=
 .ite true (.call 166 [.agg [.bool A0,A1,.bool A2,A3]] fun a0=>
 .asB a0 fun b1=>.ret (.bool b1)) .fail
def w141(A0:Bool)(A1:zA)(A2:Bool)(A3:zA)(h:wp 141 (t141 A0 A1 A2 A3) m Q):Wf 141 [.agg [.bool A0,A1,.bool A2,A3]] m Q:=yC ok141 h
def t142 (A0:Bool)(A1:zA)(A2:Bool)(A3:zA):T:=
 .call 141 [.agg [.bool A0,A1,.bool A2,A3]] fun a0=>
 .asB a0 fun b1=>.ite (!b1)
 (.ret (.tup [.str [],.int .i64 2]))
 (.call 167 [.agg [.bool A0,A1]] fun a2=>
 .opt (mB 0 a2) fun a3=>.asS a3 fun s4=>.opt (mB 1 a2) fun a5=>.asI .i64 a5 fun n6=>.ite true (.call 168 [.agg [.bool A0,A1,.bool A2,A3]] fun a7=>
 .asB a7 fun b8=>.ite (!b8)
 (.call 167 [.agg [.bool A2,A3]] fun a9=>
 .opt (mB 0 a9) fun a10=>.asS a10 fun s11=>.opt (mB 1 a9) fun jD=>.asI .i64 jD fun n13=>.opt (z7b [47] s11) fun a14=>.asS a14 fun s15=>.opt (z7b s4 s15) fun a16=>.asS a16 fun s17=>.ret (.tup [.str s17,.int .i64 0]))
 (.ret (.tup [.str s4,.int .i64 0]))) .fail)
def w142(A0:Bool)(A1:zA)(A2:Bool)(A3:zA)(h:wp 142 (t142 A0 A1 A2 A3) m Q):Wf 142 [.agg [.bool A0,A1,.bool A2,A3]] m Q:=yC ok142 h
def t143 (p0 p1:List Nat):T:=
 .call 169 [.str p0,.str p1] fun a0=>
 .asS a0 fun s1=>.ret (.str s1)
def w143(p0 p1:List Nat)(h:wp 143 (t143 p0 p1) m Q):Wf 143 [.str p0,.str p1] m Q:=yC ok143 h
def t166 (A0:Bool)(A1:zA)(A2:Bool)(A3:zA):T:=
 .call 186 [.agg [.bool A0,A1,.bool A2,A3]] fun a0=>
 .asB a0 fun b1=>.ite b1
 (.ret (.bool false))
 (.call 187 [.agg [.bool A0,A1]] fun a2=>
 .asB a2 fun b3=>.ite (!b3)
 (.ret (.bool false))
 (.call 187 [.agg [.bool A2,A3]] fun a4=>
 .asB a4 fun b5=>.ite (!b5)
 (.ret (.bool false))
 (.ite A2
 (.ret (.bool false))
 (.opt (oB A3) fun a6=>.asI .i64 a6 fun n7=>.ite (jA n7 0)
 (.ret (.bool false))
 (.call 168 [.agg [.bool A0,A1,.bool A2,A3]] fun a8=>
 .asB a8 fun b9=>.ite b9
 (.ret (.bool true))
 (.call 189 [.agg [.bool A0,A1],.agg [.bool A2,A3]] fun a10=>
 .asG zz5z a10 fun X11=>
 .call 188 [(.agg [.bool (X11.b 0),X11.v 1])] fun jD=>
 .asB jD fun b13=>.ret (.bool b13)))))))
def w166(A0:Bool)(A1:zA)(A2:Bool)(A3:zA)(h:wp 166 (t166 A0 A1 A2 A3) m Q):Wf 166 [.agg [.bool A0,A1,.bool A2,A3]] m Q:=yC ok166 h
def t167 (A0:Bool)(A1:zA):T:=
 .call 187 [.agg [.bool A0,A1]] fun a0=>
 .asB a0 fun b1=>.ite (!b1)
 (.ret (.tup [.str [],.int .i64 2]))
 (.opt (oB A1) fun a2=>.asI .i64 a2 fun n3=>.ite (jA n3 0)
 (.ret (.tup [.str [48],.int .i64 0]))
 (.call 190 [A1] fun a4=>
 .jump 2 [.str [],.int .i64 0,.nilslice,a4,.bool A0,A1]))
def w167(A0:Bool)(A1:zA)(h:wp 167 (t167 A0 A1) m Q):Wf 167 [.agg [.bool A0,A1]] m Q:=yC zys h
def zxf(v2:List Nat)(v3:Int)(v4 v5:zA)(A0:Bool)(A1:zA):T:=
 .opt (oB v5) fun a0=>.asI .i64 a0 fun n1=>.ite (bB 0 n1)
 (.call 191 [v5,.int .u32 1000000000] fun a2=>
 .opt (mB 0 a2) fun a3=>.opt (mB 1 a2) fun a4=>.asI .u32 a4 fun n5=>.heavy (cH yA 244 1 [(0,(.int .u32 n5))]) fun a6=>
 .heavy (pF yA 244 244 v4 a6) fun a7=>
 .jump 2 [.str v2,.int .i64 v3,a7,a3,.bool A0,A1])
 (.heavy (yH yA 38) fun a8=>
 .ite A0
 (.light (fun m=>mA yA 38 ⟨0,m⟩ a8) fun a9=>.heavy (cH yA 38 1 [(0,(.int .u8 45))]) fun a10=>
 .heavy (pF yA 38 38 a9 a10) fun a11=>
 .heavy (rC yA 38 a8 a11) fun _=>
 .jump 29 [.str v2,.int .i64 v3,v4,a8])
 (.jump 29 [.str v2,.int .i64 v3,v4,a8]))
def z75(v2:List Nat)(v3:Int)(v4 v5:zA)(A0:Bool)(A1:zA)(h:wp 167 (zxf v2 v3 v4 v5 A0 A1) m Q):jp 167 2 [.str v2,.int .i64 v3,v4,v5,.bool A0,A1] m Q:=wD zys h
def zxe(v2:List Nat)(v3:Int)(v4 v8:zA):T:=
 .call 192 [v4] fun a0=>
 .range (npC yA) a0 6 1 [v8]
 (.light (fun m=>mA yA 38 ⟨0,m⟩ v8) fun a1=>.light (fun m=>dN yA 38 9 ⟨0,m⟩ a1) fun a2=>.asS a2 fun s3=>.ret (.tup [.str s3,.int .i64 0]))
 (.ret (.tup [.str v2,.int .i64 v3]))
def zzal(v2:List Nat)(v3:Int)(v4 v8:zA)(h:wp 167 (zxe v2 v3 v4 v8) m Q):jp 167 29 [.str v2,.int .i64 v3,v4,v8] m Q:=wD zys h
def z68(v8:zA)(v41:Int):T:=
 .call 193 [(.int .u64 (tA .u64 v41)),.int .i64 10] fun a0=>
 .asS a0 fun s1=>.light (fun m=>mA yA 38 ⟨0,m⟩ v8) fun a2=>.opt (oB a2) fun a3=>.asI .i64 a3 fun n4=>.ite (bB 1 n4)
 (.jump 10 [v8,.str s1,(.int .i64 (tA .i64 (9-(Int.ofNat (yB s1))))),.int .i64 0])
 (.light (fun m=>mA yA 38 ⟨0,m⟩ v8) fun a5=>.opt (oB a5) fun a6=>.asI .i64 a6 fun n7=>.ite (jA n7 1)
 (.light (fun m=>mA yA 38 ⟨0,m⟩ v8) fun a8=>.opt (qB yA 38 a8 (.int .i64 0)) fun a9=>.light (fun m=>mA yA 5 ⟨0,m⟩ a9) fun a10=>.asI .u8 a10 fun n11=>.ite (!jA n11 45)
 (.jump 10 [v8,.str s1,(.int .i64 (tA .i64 (9-(Int.ofNat (yB s1))))),.int .i64 0])
 (.light (fun m=>mA yA 38 ⟨0,m⟩ v8) fun jD=>.heavy (pF yA 38 9 jD (.str s1)) fun a13=>
 .heavy (rC yA 38 v8 a13) fun _=>
 .ret (.bool true)))
 (.light (fun m=>mA yA 38 ⟨0,m⟩ v8) fun a14=>.heavy (pF yA 38 9 a14 (.str s1)) fun a15=>
 .heavy (rC yA 38 v8 a15) fun _=>
 .ret (.bool true)))
def j167_6(v8:zA)(v41:Int)(h:wp 167 (z68 v8 v41) m Q):jp 167 6 [v8,.int .u32 v41] m Q:=wD zys h
def zn1(v8:zA)(v10:List Nat)(v61 v62:Int):T:=
 .ite (bB v62 v61)
 (.light (fun m=>mA yA 38 ⟨0,m⟩ v8) fun a0=>.heavy (cH yA 38 1 [(0,(.int .u8 48))]) fun a1=>
 .heavy (pF yA 38 38 a0 a1) fun a2=>
 .heavy (rC yA 38 v8 a2) fun _=>
 .jump 10 [v8,.str v10,.int .i64 v61,(.int .i64 (tA .i64 (v62+1)))])
 (.light (fun m=>mA yA 38 ⟨0,m⟩ v8) fun a3=>.heavy (pF yA 38 9 a3 (.str v10)) fun a4=>
 .heavy (rC yA 38 v8 a4) fun _=>
 .ret (.bool true))
def zz1(v8:zA)(v10:List Nat)(v61 v62:Int)(h:wp 167 (zn1 v8 v10 v61 v62) m Q):jp 167 10 [v8,.str v10,.int .i64 v61,.int .i64 v62] m Q:=wD zys h
def t168 (A0:Bool)(A1:zA)(A2:Bool)(A3:zA):T:=
 .call 188 [.agg [.bool A2,A3]] fun a0=>
 .asB a0 fun b1=>.ret (.bool b1)
def w168(A0:Bool)(A1:zA)(A2:Bool)(A3:zA)(h:wp 168 (t168 A0 A1 A2 A3) m Q):Wf 168 [.agg [.bool A0,A1,.bool A2,A3]] m Q:=yC ok168 h
def t169 (p0 p1:List Nat):T:=
 .call 194 [.str p0,.str p1] fun a0=>
 .asB a0 fun b1=>.ite b1
 (.opt (zH yA 9 H0A (.str p0) (some (.int .i64 (Int.ofNat (yB p1)))) none) fun a2=>.asS a2 fun s3=>.ret (.str s3))
 (.ret (.str p0))
def w169(p0 p1:List Nat)(h:wp 169 (t169 p0 p1) m Q):Wf 169 [.str p0,.str p1] m Q:=yC ok169 h
def t186 (A0:Bool)(A1:zA)(A2:Bool)(A3:zA):T:=
 .opt (oB A1) fun a0=>.asI .i64 a0 fun n1=>.ite (bB 256 n1)
 (.ret (.bool true))
 (.opt (oB A3) fun a2=>.asI .i64 a2 fun n3=>.ret (.bool (bB 256 n3)))
def w186(A0:Bool)(A1:zA)(A2:Bool)(A3:zA)(h:wp 186 (t186 A0 A1 A2 A3) m Q):Wf 186 [.agg [.bool A0,A1,.bool A2,A3]] m Q:=yC ok186 h
def t187 (A0:Bool)(A1:zA):T:=
 .opt (oB A1) fun a0=>.asI .i64 a0 fun n1=>.ite (jA n1 0)
 (.ret (.bool (!A0)))
 (.ite (jC n1 1024)
 (.opt (qB yA 27 A1 (.int .i64 (tA .i64 (n1-1)))) fun a2=>.light (fun m=>mA yA 202 ⟨0,m⟩ a2) fun a3=>.asI .u16 a3 fun n4=>.ret (.bool (!jA n4 0)))
 (.ret (.bool false)))
def w187(A0:Bool)(A1:zA)(h:wp 187 (t187 A0 A1) m Q):Wf 187 [.agg [.bool A0,A1]] m Q:=yC ok187 h
def t188 (A0:Bool)(A1:zA):T:=
 .ite (!A0)
 (.opt (oB A1) fun a0=>.asI .i64 a0 fun n1=>.ite (jA n1 1)
 (.opt (qB yA 27 A1 (.int .i64 0)) fun a2=>.light (fun m=>mA yA 202 ⟨0,m⟩ a2) fun a3=>.asI .u16 a3 fun n4=>.ret (.bool (jA n4 1)))
 (.ret (.bool false)))
 (.ret (.bool false))
def w188(A0:Bool)(A1:zA)(h:wp 188 (t188 A0 A1) m Q):Wf 188 [.agg [.bool A0,A1]] m Q:=yC ok188 h
def t189 (A0:Bool)(A1:zA)(A2:Bool)(A3:zA):T:=
 .call 210 [.agg [.bool A0,A1],.agg [.bool A2,A3]] fun a0=>
 .opt (mB 0 a0) fun a1=>.asG zz5z a1 fun X2=>
 .opt (mB 1 a0) fun a3=>.asI .i64 a3 fun n4=>.ite (kB zA.one [.bool (X2.b 0),X2.v 1]) (.ite (kB zA.one [.bool (X2.b 0),X2.v 1]) (.ret (.agg [.bool (X2.b 0),X2.v 1])) .fail) .fail
def w189(A0:Bool)(A1:zA)(A2:Bool)(A3:zA)(h:wp 189 (t189 A0 A1 A2 A3) m Q):Wf 189 [.agg [.bool A0,A1],.agg [.bool A2,A3]] m Q:=yC ok189 h
def t190 (p0:zA):T:=
 .opt (oB p0) fun a0=>.asI .i64 a0 fun n1=>.heavy (fN yA 244 (.int .i64 (tA .i64 (Int.tdiv (tA .i64 (n1+1)) 2))) (.int .i64 (tA .i64 (Int.tdiv (tA .i64 (n1+1)) 2)))) fun a2=>
 .opt (oB p0) fun a3=>.asI .i64 a3 fun n4=>.jump 2 [a2,p0,.int .i64 n4,.int .i64 0]
def w190(p0:zA)(h:wp 190 (t190 p0) m Q):Wf 190 [p0] m Q:=yC ok190 h
def zxd(v3 v11:zA)(v12 v13:Int):T:=
 .ite (bB v13 v12)
 (.opt (qB yA 27 v11 (.int .i64 v13)) fun a0=>.light (fun m=>mA yA 202 ⟨0,m⟩ a0) fun a1=>.asI .u16 a1 fun n2=>.opt (qB yA 244 v3 (.int .i64 (tA .i64 (Int.tdiv v13 2)))) fun a3=>.light (fun m=>mA yA 246 ⟨0,m⟩ a3) fun a4=>.asI .u32 a4 fun n5=>.opt (zz8 .u32 (tA .u32 n2) (tA .i64 (16*(Int.tmod v13 2)))) fun a6=>.asI .u32 a6 fun n7=>.opt (gH Nat.lor .u32 n5 n7) fun a8=>.asI .u32 a8 fun n9=>.opt (qB yA 244 v3 (.int .i64 (tA .i64 (Int.tdiv v13 2)))) fun a10=>.heavy (rC yA 246 a10 (.int .u32 n9)) fun _=>
 .jump 2 [v3,v11,.int .i64 v12,(.int .i64 (tA .i64 (v13+1)))])
 (.ret v3)
def z74(v3 v11:zA)(v12 v13:Int)(h:wp 190 (zxd v3 v11 v12 v13) m Q):jp 190 2 [v3,v11,.int .i64 v12,.int .i64 v13] m Q:=wD ok190 h
def t191 (p0:zA)(p1:Int):T:=
 .opt (oB p0) fun a0=>.asI .i64 a0 fun n1=>.heavy (fN yA 244 (.int .i64 n1) (.int .i64 n1)) fun a2=>
 .opt (oB p0) fun a3=>.asI .i64 a3 fun n4=>.jump 2 [p0,.int .u32 p1,a2,.int .u32 0,(.int .i64 (tA .i64 (n4-1)))]
def w191(p0:zA)(p1:Int)(h:wp 191 (t191 p0 p1) m Q):Wf 191 [p0,.int .u32 p1] m Q:=yC ok191 h
def zxc(v0:zA)(v1:Int)(v6:zA)(v7 v8:Int):T:=
 .ite (jC 0 v8)
 (.opt (qB yA 244 v0 (.int .i64 v8)) fun a0=>.light (fun m=>mA yA 246 ⟨0,m⟩ a0) fun a1=>.asI .u32 a1 fun n2=>.call 211 [.int .u32 v7,.int .u32 n2,.int .u32 v1] fun a3=>
 .opt (mB 0 a3) fun a4=>.asI .u32 a4 fun n5=>.opt (mB 1 a3) fun a6=>.asI .u32 a6 fun n7=>.opt (qB yA 244 v6 (.int .i64 v8)) fun a8=>.heavy (rC yA 246 a8 (.int .u32 n5)) fun _=>
 .jump 2 [v0,.int .u32 v1,v6,.int .u32 n7,(.int .i64 (tA .i64 (v8-1)))])
 (.call 212 [v6] fun a9=>
 .ret (.tup [a9,.int .u32 v7]))
def z73(v0:zA)(v1:Int)(v6:zA)(v7 v8:Int)(h:wp 191 (zxc v0 v1 v6 v7 v8) m Q):jp 191 2 [v0,.int .u32 v1,v6,.int .u32 v7,.int .i64 v8] m Q:=wD ok191 h
def t192 (p0:zA):T:=
 .heavy (ztb p0) fun a0=>
 .ret (.func (.func 213) [] [a0])
def w192(p0:zA)(h:wp 192 (t192 p0) m Q):Wf 192 [p0] m Q:=yC ok192 h
def t194 (p0 p1:List Nat):T:=
 .ite (jC (Int.ofNat (yB p1)) (Int.ofNat (yB p0)))
 (.opt (zH yA 9 H0A (.str p0) none (some (.int .i64 (Int.ofNat (yB p1))))) fun a0=>.asS a0 fun s1=>.ret (.bool (wE s1 p1)))
 (.ret (.bool false))
def w194(p0 p1:List Nat)(h:wp 194 (t194 p0 p1) m Q):Wf 194 [.str p0,.str p1] m Q:=yC ok194 h
def t210 (A0:Bool)(A1:zA)(A2:Bool)(A3:zA):T:=
 .heavy (cH yA 279 2 [(0,(.agg [.bool A0,A1])),(1,(.agg [.bool A2,A3]))]) fun a0=>
 .call 224 [a0] fun a1=>
 .asB a1 fun b2=>.ite (!b2)
 (.ite true (.ite true (.ret (.tup [.agg [.bool false,.nilslice],.int .i64 2])) .fail) .fail)
 (.call 190 [A1] fun a3=>
 .ite (same 10 A3 A3) (.call 190 [A3] fun a4=>
 .call 226 [a3,a4] fun a5=>
 .call 225 [.bool false,a5] fun a6=>
 .asG zz5z a6 fun X7=>
 .ite (kB zA.one [.bool (X7.b 0),X7.v 1]) (.ret (.tup [(.agg [.bool (X7.b 0),X7.v 1]),.int .i64 0])) .fail) .fail)
def w210(A0:Bool)(A1:zA)(A2:Bool)(A3:zA)(h:wp 210 (t210 A0 A1 A2 A3) m Q):Wf 210 [.agg [.bool A0,A1],.agg [.bool A2,A3]] m Q:=yC ok210 h
def t211 (p0 p1 p2:Int):T:=
 .ite (!jA p2 0)
 (.ite (jC p2 p0)
 (.light (fun m=>mA yA 193 ⟨0,m⟩ (.ptr 2 0)) fun a0=>.fail)
 (.jump 7 [.int .u32 p0,.int .u32 p1,.int .u32 p2]))
 (.jump 7 [.int .u32 p0,.int .u32 p1,.int .u32 p2])
def w211(p0 p1 p2:Int)(h:wp 211 (t211 p0 p1 p2) m Q):Wf 211 [.int .u32 p0,.int .u32 p1,.int .u32 p2] m Q:=yC ok211 h
def z67(v0 v1 v2:Int):T:=
 .opt (gH Nat.lor .u64 (tA .u64 ((tA .u64 v0)*4294967296)) (tA .u64 v1)) fun a0=>.asI .u64 a0 fun n1=>.opt (z49 .u64 n1 (tA .u64 v2)) fun a2=>.asI .u64 a2 fun n3=>.opt (zvu .u64 n1 (tA .u64 v2)) fun a4=>.asI .u64 a4 fun n5=>.ret (.tup [(.int .u32 (tA .u32 n3)),(.int .u32 (tA .u32 n5))])
def j211_7(v0 v1 v2:Int)(h:wp 211 (z67 v0 v1 v2) m Q):jp 211 7 [.int .u32 v0,.int .u32 v1,.int .u32 v2] m Q:=wD ok211 h
def t212 (p0:zA):T:=
 .jump 2 [p0]
def w212(p0:zA)(h:wp 212 (t212 p0) m Q):Wf 212 [p0] m Q:=yC ok212 h
def zqw(v0:zA):T:=
 .opt (oB v0) fun a0=>.asI .i64 a0 fun n1=>.ite (bB 0 n1)
 (.opt (oB v0) fun a2=>.asI .i64 a2 fun n3=>.opt (qB yA 244 v0 (.int .i64 (tA .i64 (n3-1)))) fun a4=>.light (fun m=>mA yA 246 ⟨0,m⟩ a4) fun a5=>.asI .u32 a5 fun n6=>.ite (jA n6 0)
 (.opt (oB v0) fun a7=>.asI .i64 a7 fun n8=>.light (fun m=>zH yA 244 ⟨0,m⟩ v0 none (some (.int .i64 (tA .i64 (n8-1))))) fun a9=>.jump 2 [a9])
 (.ret v0))
 (.ret v0)
def zz0(v0:zA)(h:wp 212 (zqw v0) m Q):jp 212 2 [v0] m Q:=wD ok212 h
def t213 (p0 w0:zA):T:=
 .light (fun m=>mA yA 244 ⟨0,m⟩ w0) fun a0=>.opt (oB a0) fun a1=>.asI .i64 a1 fun n2=>.jump 2 [p0,w0,(.int .i64 (tA .i64 (n2-1)))]
def w213(p0 w0:zA)(h:wp 213 (t213 p0 w0) m Q):Wf 213 [p0,w0] m Q:=yC ok213 h
def zxb(v0 v1:zA)(v3:Int):T:=
 .ite (jC 0 v3)
 (.light (fun m=>mA yA 244 ⟨0,m⟩ v1) fun a0=>.opt (qB yA 244 a0 (.int .i64 v3)) fun a1=>.light (fun m=>mA yA 246 ⟨0,m⟩ a1) fun a2=>.asI .u32 a2 fun n3=>.callv v0 [.int .u32 n3] fun a4=>
 .asB a4 fun b5=>.ite (!b5)
 (.ret (.tup []))
 (.jump 2 [v0,v1,(.int .i64 (tA .i64 (v3-1)))]))
 (.ret (.tup []))
def z71(v0 v1:zA)(v3:Int)(h:wp 213 (zxb v0 v1 v3) m Q):jp 213 2 [v0,v1,.int .i64 v3] m Q:=wD ok213 h
def t224 (p0:zA):T:=
 .opt (oB p0) fun a0=>.asI .i64 a0 fun n1=>.jump 2 [p0,.int .i64 n1,.int .i64 0]
def w224(p0:zA)(h:wp 224 (t224 p0) m Q):Wf 224 [p0] m Q:=yC ok224 h
def zxa(v5:zA)(v6 v7:Int):T:=
 .ite (bB v7 v6)
 (.opt (qB yA 279 v5 (.int .i64 v7)) fun a0=>.light (fun m=>mA yA 29 ⟨0,m⟩ a0) fun a1=>.asG zz5z a1 fun X2=>
 .ite (kB zA.one [.bool (X2.b 0),X2.v 1]) (.call 187 [(.agg [.bool (X2.b 0),X2.v 1])] fun a3=>
 .asB a3 fun b4=>.ite (!b4)
 (.ret (.bool false))
 (.jump 2 [v5,.int .i64 v6,(.int .i64 (tA .i64 (v7+1)))])) .fail)
 (.ret (.bool true))
def z7z(v5:zA)(v6 v7:Int)(h:wp 224 (zxa v5 v6 v7) m Q):jp 224 2 [v5,.int .i64 v6,.int .i64 v7] m Q:=wD ok224 h
def t225 (p0:Bool)(p1:zA):T:=
 .call 212 [p1] fun a0=>
 .opt (oB a0) fun a1=>.asI .i64 a1 fun n2=>.ite (jA n2 0)
 (.ite true (.ite true (.ret (.agg [.bool false,.nilslice])) .fail) .fail)
 (.opt (oB a0) fun a3=>.asI .i64 a3 fun n4=>.heavy (fN yA 27 (.int .i64 (tA .i64 (2*n4))) (.int .i64 (tA .i64 (2*n4)))) fun a5=>
 .opt (oB a0) fun a6=>.asI .i64 a6 fun n7=>.jump 2 [.bool p0,a5,a0,.int .i64 n7,.int .i64 0,.bool false,.nilslice])
def w225(p0:Bool)(p1:zA)(h:wp 225 (t225 p0 p1) m Q):Wf 225 [.bool p0,p1] m Q:=yC ok225 h
def zw9(v0:Bool)(v5 v18:zA)(v19 v20:Int)(A0:Bool)(A1:zA):T:=
 .ite (bB v20 v19)
 (.opt (qB yA 244 v18 (.int .i64 v20)) fun a0=>.light (fun m=>mA yA 246 ⟨0,m⟩ a0) fun a1=>.asI .u32 a1 fun n2=>.opt (qB yA 27 v5 (.int .i64 (tA .i64 (2*v20)))) fun a3=>.heavy (rC yA 202 a3 (.int .u16 (tA .u16 n2))) fun _=>
 .opt (qB yA 27 v5 (.int .i64 (tA .i64 ((tA .i64 (2*v20))+1)))) fun a4=>.heavy (rC yA 202 a4 (.int .u16 (tA .u16 (Int.fdiv n2 65536)))) fun _=>
 .jump 2 [.bool v0,v5,v18,.int .i64 v19,(.int .i64 (tA .i64 (v20+1))),.bool A0,A1])
 (.opt (oB v5) fun a5=>.asI .i64 a5 fun n6=>.opt (qB yA 27 v5 (.int .i64 (tA .i64 (n6-1)))) fun a7=>.light (fun m=>mA yA 202 ⟨0,m⟩ a7) fun a8=>.asI .u16 a8 fun n9=>.ite (jA n9 0)
 (.opt (oB v5) fun a10=>.asI .i64 a10 fun n11=>.light (fun m=>zH yA 27 ⟨0,m⟩ v5 none (some (.int .i64 (tA .i64 (n11-1))))) fun jD=>.ite (kB zA.one [.bool v0,jD]) (.ite (kB zA.one [.bool v0,jD]) (.ret (.agg [.bool v0,jD])) .fail) .fail)
 (.ite (kB zA.one [.bool v0,v5]) (.ite (kB zA.one [.bool v0,v5]) (.ret (.agg [.bool v0,v5])) .fail) .fail))
def z7y(v0:Bool)(v5 v18:zA)(v19 v20:Int)(A0:Bool)(A1:zA)(h:wp 225 (zw9 v0 v5 v18 v19 v20 A0 A1) m Q):jp 225 2 [.bool v0,v5,v18,.int .i64 v19,.int .i64 v20,.bool A0,A1] m Q:=wD ok225 h
def t226 (p0 p1:zA):T:=
 .call 236 [p0,p1] fun a0=>
 .asI .i64 a0 fun n1=>.ite (bB n1 0)
 (.jump 2 [p1,p0])
 (.jump 2 [p0,p1])
def w226(p0 p1:zA)(h:wp 226 (t226 p0 p1) m Q):Wf 226 [p0,p1] m Q:=yC z4j h
def z66(v0 v1:zA):T:=
 .opt (oB v1) fun a0=>.asI .i64 a0 fun n1=>.ite (bB 2 n1)
 (.call 237 [v0,v1] fun a2=>
 .asG [.int .u64 0,.int .u64 0,.int .u64 0,.int .u64 0,.bool false] a2 fun X3=>
 .ite true (.ite (jA (X3.i 2) 0)
 (.call 238 [v0,v1] fun a4=>
 .opt (mB 0 a4) fun a5=>.opt (mB 1 a4) fun a6=>.jump 2 [v1,a6])
 (.ite (X3.b 4)
 (.call 239 [.int .u64 (X3.i 0),v0,.int .u64 (X3.i 2),v1] fun a7=>
 .ite (same 10 (.int .u64 (X3.i 3)) (.int .u64 (X3.i 3))) (.ite (same 10 (.int .u64 (X3.i 1)) (.int .u64 (X3.i 1))) (.call 239 [.int .u64 (X3.i 3),v1,.int .u64 (X3.i 1),v0] fun a8=>
 .jump 2 [a7,a8]) .fail) .fail)
 (.call 239 [.int .u64 (X3.i 2),v1,.int .u64 (X3.i 0),v0] fun a9=>
 .ite (same 10 (.int .u64 (X3.i 1)) (.int .u64 (X3.i 1))) (.ite (same 10 (.int .u64 (X3.i 3)) (.int .u64 (X3.i 3))) (.call 239 [.int .u64 (X3.i 1),v0,.int .u64 (X3.i 3),v1] fun a10=>
 .jump 2 [a9,a10]) .fail) .fail))) .fail)
 (.opt (oB v1) fun a11=>.asI .i64 a11 fun n12=>.ite (jA n12 0)
 (.ret v0)
 (.opt (oB v0) fun a13=>.asI .i64 a13 fun n14=>.ite (bB 2 n14)
 (.call 238 [v0,v1] fun a15=>
 .opt (mB 0 a15) fun a16=>.opt (mB 1 a15) fun a17=>.jump 33 [v1,a17])
 (.jump 33 [v0,v1])))
def j226_2(v0 v1:zA)(h:wp 226 (z66 v0 v1) m Q):jp 226 2 [v0,v1] m Q:=wD z4j h
def zw8(v0 v1:zA):T:=
 .call 240 [v0] fun a0=>
 .asI .u64 a0 fun n1=>.call 240 [v1] fun a2=>
 .asI .u64 a2 fun n3=>.jump 6 [.int .u64 n1,.int .u64 n3]
def zzak(v0 v1:zA)(h:wp 226 (zw8 v0 v1) m Q):jp 226 33 [v0,v1] m Q:=wD z4j h
def z65(v10 v11:Int):T:=
 .ite (!jA v11 0)
 (.opt (zvu .u64 v10 v11) fun a0=>.asI .u64 a0 fun n1=>.jump 6 [.int .u64 v11,.int .u64 n1])
 (.call 241 [.int .u64 v10] fun a2=>
 .ret a2)
def j226_6(v10 v11:Int)(h:wp 226 (z65 v10 v11) m Q):jp 226 6 [.int .u64 v10,.int .u64 v11] m Q:=wD z4j h
def t236 (p0 p1:zA):T:=
 .opt (oB p0) fun a0=>.asI .i64 a0 fun n1=>.opt (oB p1) fun a2=>.asI .i64 a2 fun n3=>.ite (!jA n1 n3)
 (.opt (oB p0) fun a4=>.asI .i64 a4 fun n5=>.opt (oB p1) fun a6=>.asI .i64 a6 fun n7=>.ite (bB n5 n7)
 (.ret (.int .i64 (-1)))
 (.ret (.int .i64 1)))
 (.opt (oB p0) fun a8=>.asI .i64 a8 fun n9=>.jump 2 [p0,p1,(.int .i64 (tA .i64 (n9-1)))])
def w236(p0 p1:zA)(h:wp 236 (t236 p0 p1) m Q):Wf 236 [p0,p1] m Q:=yC ok236 h
def zw7(v0 v1:zA)(v5:Int):T:=
 .ite (jC 0 v5)
 (.opt (qB yA 244 v0 (.int .i64 v5)) fun a0=>.light (fun m=>mA yA 246 ⟨0,m⟩ a0) fun a1=>.asI .u32 a1 fun n2=>.opt (qB yA 244 v1 (.int .i64 v5)) fun a3=>.light (fun m=>mA yA 246 ⟨0,m⟩ a3) fun a4=>.asI .u32 a4 fun n5=>.ite (!jA n2 n5)
 (.opt (qB yA 244 v0 (.int .i64 v5)) fun a6=>.light (fun m=>mA yA 246 ⟨0,m⟩ a6) fun a7=>.asI .u32 a7 fun n8=>.opt (qB yA 244 v1 (.int .i64 v5)) fun a9=>.light (fun m=>mA yA 246 ⟨0,m⟩ a9) fun a10=>.asI .u32 a10 fun n11=>.ite (bB n8 n11)
 (.ret (.int .i64 (-1)))
 (.ret (.int .i64 1)))
 (.jump 2 [v0,v1,(.int .i64 (tA .i64 (v5-1)))]))
 (.ret (.int .i64 0))
def z7x(v0 v1:zA)(v5:Int)(h:wp 236 (zw7 v0 v1 v5) m Q):jp 236 2 [v0,v1,.int .i64 v5] m Q:=wD ok236 h
def t237 (p0 p1:zA):T:=
 .opt (oB p0) fun a0=>.asI .i64 a0 fun n1=>.opt (qB yA 244 p0 (.int .i64 (tA .i64 (n1-1)))) fun a2=>.light (fun m=>mA yA 246 ⟨0,m⟩ a2) fun a3=>.asI .u32 a3 fun n4=>.call 249 [.int .u32 n4] fun a5=>
 .asI .i64 a5 fun n6=>.call 250 [p0,.int .i64 n1,.int .i64 n6] fun a7=>
 .asI .u64 a7 fun n8=>.call 250 [p1,.int .i64 n1,.int .i64 n6] fun a9=>
 .asI .u64 a9 fun n10=>.ite true (.ite true (.jump 2 [.int .u64 n8,.int .u64 n10,.int .u64 0,.int .u64 1,.int .u64 0,.int .u64 0,.int .u64 0,.int .u64 0,.bool false,.int .u64 0,.int .u64 1,.int .u64 0,.int .u64 0,.bool false]) .fail) .fail
def w237(p0 p1:zA)(h:wp 237 (t237 p0 p1) m Q):Wf 237 [p0,p1] m Q:=yC ok237 h
def z64(v7 v8 v10 v11 A0 A1 A2 A3:Int)(A4:Bool)(A5 A6 A7 A8:Int)(A9:Bool):T:=
 .ite (jC v11 v8)
 (.ite (jC (tA .u64 (A8+v11)) (tA .u64 (v7-v8)))
 (.opt (z49 .u64 v7 v8) fun a0=>.asI .u64 a0 fun n1=>.opt (zvu .u64 v7 v8) fun a2=>.asI .u64 a2 fun n3=>.ite true (.ite true (.ite true (.ite true (.ite true (.jump 2 [.int .u64 v8,.int .u64 n3,(.int .u64 (tA .u64 (A6+(tA .u64 (n1*v10))))),(.int .u64 (tA .u64 (A8+(tA .u64 (n1*v11))))),.int .u64 A0,.int .u64 A1,.int .u64 A2,.int .u64 A3,.bool A4,.int .u64 A6,.int .u64 v10,.int .u64 A8,.int .u64 v11,(.bool (!A9))]) .fail) .fail) .fail) .fail) .fail)
 (.ite true (.ret (.agg [.int .u64 A5,.int .u64 A6,.int .u64 A7,.int .u64 A8,.bool A9])) .fail))
 (.ite true (.ret (.agg [.int .u64 A5,.int .u64 A6,.int .u64 A7,.int .u64 A8,.bool A9])) .fail)
def j237_2(v7 v8 v10 v11 A0 A1 A2 A3:Int)(A4:Bool)(A5 A6 A7 A8:Int)(A9:Bool)(h:wp 237 (z64 v7 v8 v10 v11 A0 A1 A2 A3 A4 A5 A6 A7 A8 A9) m Q):jp 237 2 [.int .u64 v7,.int .u64 v8,.int .u64 v10,.int .u64 v11,.int .u64 A0,.int .u64 A1,.int .u64 A2,.int .u64 A3,.bool A4,.int .u64 A5,.int .u64 A6,.int .u64 A7,.int .u64 A8,.bool A9] m Q:=wD ok237 h
def t238 (p0 p1:zA):T:=
 .call 236 [p0,p1] fun a0=>
 .asI .i64 a0 fun n1=>.ite (bB n1 0)
 (.call 251 [p0] fun a2=>
 .ret (.tup [.nilslice,a2]))
 (.opt (oB p1) fun a3=>.asI .i64 a3 fun n4=>.ite (jA n4 1)
 (.opt (qB yA 244 p1 (.int .i64 0)) fun a5=>.light (fun m=>mA yA 246 ⟨0,m⟩ a5) fun a6=>.asI .u32 a6 fun n7=>.call 191 [p0,.int .u32 n7] fun a8=>
 .opt (mB 0 a8) fun a9=>.opt (mB 1 a8) fun a10=>.asI .u32 a10 fun n11=>.heavy (cH yA 244 1 [(0,(.int .u32 n11))]) fun jD=>
 .call 212 [jD] fun a13=>
 .ret (.tup [a9,a13]))
 (.opt (oB p1) fun a14=>.asI .i64 a14 fun n15=>.opt (qB yA 244 p1 (.int .i64 (tA .i64 (n15-1)))) fun a16=>.light (fun m=>mA yA 246 ⟨0,m⟩ a16) fun a17=>.asI .u32 a17 fun n18=>.call 249 [.int .u32 n18] fun a19=>
 .asI .i64 a19 fun n20=>.call 252 [p1,.int .i64 n20] fun a21=>
 .light (fun m=>zH yA 244 ⟨0,m⟩ a21 none (some (.int .i64 n15))) fun a22=>.call 252 [p0,.int .i64 n20] fun a23=>
 .opt (oB p0) fun a24=>.asI .i64 a24 fun n25=>.heavy (fN yA 244 (.int .i64 (tA .i64 ((tA .i64 (n25-n15))+1))) (.int .i64 (tA .i64 ((tA .i64 (n25-n15))+1)))) fun a26=>
 .opt (oB a26) fun a27=>.asI .i64 a27 fun n28=>.jump 2 [.int .i64 n15,.int .i64 n20,a22,a23,a26,(.int .i64 (tA .i64 (n28-1)))]))
def w238(p0 p1:zA)(h:wp 238 (t238 p0 p1) m Q):Wf 238 [p0,p1] m Q:=yC z9u h
def zw6(v8 v9:Int)(v10 v11 v12:zA)(v13:Int):T:=
 .ite (jC 0 v13)
 (.light (fun m=>zH yA 244 ⟨0,m⟩ v11 (some (.int .i64 v13)) (some (.int .i64 (tA .i64 ((tA .i64 (v13+v8))+1))))) fun a0=>.call 253 [a0,v10] fun a1=>
 .asI .u32 a1 fun n2=>.opt (qB yA 244 v12 (.int .i64 v13)) fun a3=>.heavy (rC yA 246 a3 (.int .u32 n2)) fun _=>
 .jump 2 [.int .i64 v8,.int .i64 v9,v10,v11,v12,(.int .i64 (tA .i64 (v13-1)))])
 (.jump 6 [.int .i64 v8,.int .i64 v9,v11,v12,.int .i64 v8,.int .i64 0])
def z7w(v8 v9:Int)(v10 v11 v12:zA)(v13:Int)(h:wp 238 (zw6 v8 v9 v10 v11 v12 v13) m Q):jp 238 2 [.int .i64 v8,.int .i64 v9,v10,v11,v12,.int .i64 v13] m Q:=wD z9u h
def zw5(v8 v9:Int)(v11 v12:zA)(v77 v78:Int):T:=
 .ite (bB v78 v77)
 (.opt (qB yA 244 v11 (.int .i64 (tA .i64 (v78+1)))) fun a0=>.light (fun m=>mA yA 246 ⟨0,m⟩ a0) fun a1=>.asI .u32 a1 fun n2=>.opt (qB yA 244 v11 (.int .i64 v78)) fun a3=>.light (fun m=>mA yA 246 ⟨0,m⟩ a3) fun a4=>.asI .u32 a4 fun n5=>.opt (gH Nat.lor .u64 (tA .u64 ((tA .u64 n2)*4294967296)) (tA .u64 n5)) fun a6=>.asI .u64 a6 fun n7=>.opt (zzap .u64 n7 v9) fun a8=>.asI .u64 a8 fun n9=>.opt (qB yA 244 v11 (.int .i64 v78)) fun a10=>.heavy (rC yA 246 a10 (.int .u32 (tA .u32 n9))) fun _=>
 .jump 6 [.int .i64 v8,.int .i64 v9,v11,v12,.int .i64 v77,(.int .i64 (tA .i64 (v78+1)))])
 (.light (fun m=>zH yA 244 ⟨0,m⟩ v11 none (some (.int .i64 v8))) fun a11=>.call 212 [v12] fun jD=>
 .light (fun m=>zH yA 244 ⟨0,m⟩ v11 none (some (.int .i64 v8))) fun a13=>.ite (same 10 a13 a11) (.call 212 [a11] fun a14=>
 .ret (.tup [jD,a14])) .fail)
def z7v(v8 v9:Int)(v11 v12:zA)(v77 v78:Int)(h:wp 238 (zw5 v8 v9 v11 v12 v77 v78) m Q):jp 238 6 [.int .i64 v8,.int .i64 v9,v11,v12,.int .i64 v77,.int .i64 v78] m Q:=wD z9u h
def t239 (p0:Int)(p1:zA)(p2:Int)(p3:zA):T:=
 .opt (oB p1) fun a0=>.asI .i64 a0 fun n1=>.opt (oB p3) fun a2=>.asI .i64 a2 fun n3=>.heavy (fN yA 244 (.int .i64 (tA .i64 ((bif bB n1 n3 then n3 else n1)+1))) (.int .i64 (tA .i64 ((bif bB n1 n3 then n3 else n1)+1)))) fun a4=>
 .opt (oB a4) fun a5=>.asI .i64 a5 fun n6=>.jump 2 [.int .u64 p0,p1,.int .u64 p2,p3,a4,.int .u64 0,.int .u64 0,.int .u32 0,.int .i64 n6,.int .i64 0]
def w239(p0:Int)(p1:zA)(p2:Int)(p3:zA)(h:wp 239 (t239 p0 p1 p2 p3) m Q):Wf 239 [.int .u64 p0,p1,.int .u64 p2,p3] m Q:=yC z4i h
def zw3(v0:Int)(v1:zA)(v2:Int)(v3 v9:zA)(v10 v11 v12 v22 v23:Int):T:=
 .ite (bB v23 v22)
 (.opt (oB v1) fun a0=>.asI .i64 a0 fun n1=>.ite (bB v23 n1)
 (.opt (qB yA 244 v1 (.int .i64 v23)) fun a2=>.light (fun m=>mA yA 246 ⟨0,m⟩ a2) fun a3=>.asI .u32 a3 fun n4=>.jump 17 [.int .u64 v0,v1,.int .u64 v2,v3,v9,(.int .u64 (tA .u64 (v10+(tA .u64 (v0*(tA .u64 n4)))))),.int .u64 v11,.int .u32 v12,.int .i64 v23,.int .i64 v22,.int .i64 v23])
 (.jump 17 [.int .u64 v0,v1,.int .u64 v2,v3,v9,.int .u64 v10,.int .u64 v11,.int .u32 v12,.int .i64 v23,.int .i64 v22,.int .i64 v23]))
 (.call 212 [v9] fun a5=>
 .ret a5)
def z7u(v0:Int)(v1:zA)(v2:Int)(v3 v9:zA)(v10 v11 v12 v22 v23:Int)(h:wp 239 (zw3 v0 v1 v2 v3 v9 v10 v11 v12 v22 v23) m Q):jp 239 2 [.int .u64 v0,v1,.int .u64 v2,v3,v9,.int .u64 v10,.int .u64 v11,.int .u32 v12,.int .i64 v22,.int .i64 v23] m Q:=wD z4i h
def zw4(v0:Int)(v1:zA)(v2:Int)(v3 v9:zA)(v10 v11 v12 v13 v22 v23:Int):T:=
 .opt (oB v3) fun a0=>.asI .i64 a0 fun n1=>.ite (bB v13 n1)
 (.opt (qB yA 244 v3 (.int .i64 v13)) fun a2=>.light (fun m=>mA yA 246 ⟨0,m⟩ a2) fun a3=>.asI .u32 a3 fun n4=>.jump 21 [.int .u64 v0,v1,.int .u64 v2,v3,v9,.int .u64 v10,(.int .u64 (tA .u64 (v11+(tA .u64 (v2*(tA .u64 n4)))))),.int .u32 v12,.int .i64 v13,.int .i64 v22,.int .i64 v23])
 (.jump 21 [.int .u64 v0,v1,.int .u64 v2,v3,v9,.int .u64 v10,.int .u64 v11,.int .u32 v12,.int .i64 v13,.int .i64 v22,.int .i64 v23])
def zzaj(v0:Int)(v1:zA)(v2:Int)(v3 v9:zA)(v10 v11 v12 v13 v22 v23:Int)(h:wp 239 (zw4 v0 v1 v2 v3 v9 v10 v11 v12 v13 v22 v23) m Q):jp 239 17 [.int .u64 v0,v1,.int .u64 v2,v3,v9,.int .u64 v10,.int .u64 v11,.int .u32 v12,.int .i64 v13,.int .i64 v22,.int .i64 v23] m Q:=wD z4i h
def zw2(v0:Int)(v1:zA)(v2:Int)(v3 v9:zA)(v10 v11 v12 v13 v22 v23:Int):T:=
 .call 254 [(.int .u32 (tA .u32 v10)),(.int .u32 (tA .u32 v11)),.int .u32 v12] fun a0=>
 .opt (mB 0 a0) fun a1=>.asI .u32 a1 fun n2=>.opt (mB 1 a0) fun a3=>.asI .u32 a3 fun n4=>.opt (qB yA 244 v9 (.int .i64 v13)) fun a5=>.heavy (rC yA 246 a5 (.int .u32 n2)) fun _=>
 .jump 2 [.int .u64 v0,v1,.int .u64 v2,v3,v9,(.int .u64 (Int.fdiv v10 4294967296)),(.int .u64 (Int.fdiv v11 4294967296)),.int .u32 n4,.int .i64 v22,(.int .i64 (tA .i64 (v23+1)))]
def zzai(v0:Int)(v1:zA)(v2:Int)(v3 v9:zA)(v10 v11 v12 v13 v22 v23:Int)(h:wp 239 (zw2 v0 v1 v2 v3 v9 v10 v11 v12 v13 v22 v23) m Q):jp 239 21 [.int .u64 v0,v1,.int .u64 v2,v3,v9,.int .u64 v10,.int .u64 v11,.int .u32 v12,.int .i64 v13,.int .i64 v22,.int .i64 v23] m Q:=wD z4i h
def t240 (p0:zA):T:=
 .heavy (yH yA 225) fun a0=>
 .heavy (rC yA 225 a0 (.int .u64 0)) fun _=>
 .call 192 [p0] fun a1=>
 .range (npC yA) a1 2 1 [a0]
 (.light (fun m=>mA yA 225 ⟨0,m⟩ a0) fun a2=>.asI .u64 a2 fun n3=>.ret (.int .u64 n3))
 (.ret (.int .u64 0))
def w240(p0:zA)(h:wp 240 (t240 p0) m Q):Wf 240 [p0] m Q:=yC ok240 h
def z63(v3:zA)(v7:Int):T:=
 .light (fun m=>mA yA 225 ⟨0,m⟩ v3) fun a0=>.asI .u64 a0 fun n1=>.opt (gH Nat.lor .u64 (tA .u64 (n1*4294967296)) (tA .u64 v7)) fun a2=>.asI .u64 a2 fun n3=>.heavy (rC yA 225 v3 (.int .u64 n3)) fun _=>
 .ret (.bool true)
def j240_2(v3:zA)(v7:Int)(h:wp 240 (z63 v3 v7) m Q):jp 240 2 [v3,.int .u32 v7] m Q:=wD ok240 h
def t241 (p0:Int):T:=
 .heavy (cH yA 244 2 [(0,(.int .u32 (tA .u32 p0))),(1,(.int .u32 (tA .u32 (Int.fdiv p0 4294967296))))]) fun a0=>
 .call 212 [a0] fun a1=>
 .ret a1
def w241(p0:Int)(h:wp 241 (t241 p0) m Q):Wf 241 [.int .u64 p0] m Q:=yC ok241 h
def t249 (p0:Int):T:=
 .call 258 [.int .u32 p0] fun a0=>
 .asI .i64 a0 fun n1=>.ret (.int .i64 (tA .i64 (32-n1)))
def w249(p0:Int)(h:wp 249 (t249 p0) m Q):Wf 249 [.int .u32 p0] m Q:=yC ok249 h
def t250 (p0:zA)(p1 p2:Int):T:=
 .heavy (ztb p0) fun a0=>
 .callv (.func (.func 259) [] [a0]) [(.int .i64 (tA .i64 (p1-1)))] fun a1=>
 .asI .u64 a1 fun n2=>.callv (.func (.func 259) [] [a0]) [(.int .i64 (tA .i64 (p1-2)))] fun a3=>
 .asI .u64 a3 fun n4=>.opt (gH Nat.lor .u64 (tA .u64 (n2*4294967296)) n4) fun a5=>.asI .u64 a5 fun n6=>.opt (zz8 .u64 n6 p2) fun a7=>.asI .u64 a7 fun n8=>.callv (.func (.func 259) [] [a0]) [(.int .i64 (tA .i64 (p1-3)))] fun a9=>
 .asI .u64 a9 fun n10=>.opt (zzap .u64 n10 (tA .i64 (32-p2))) fun a11=>.asI .u64 a11 fun n12=>.opt (gH Nat.lor .u64 n8 n12) fun a13=>.asI .u64 a13 fun n14=>.ret (.int .u64 n14)
def e250(p0:zA)(p1 p2:Int):entT yA Tryz.f250 8 250 a250 [p0,.int .i64 p1,.int .i64 p2]=t250 p0 p1 p2:=by kernel_rfl
def w250(p0:zA)(p1 p2:Int)(h:wp 250 (t250 p0 p1 p2) m Q):Wf 250 [p0,.int .i64 p1,.int .i64 p2] m Q:=zzbu ok250 (by kernel_rfl) (by rw[e250];exact h)
def t251 (p0:zA):T:=
 .opt ((binA .eql).f yA 244 (.tmp 3) (.const (.slice none 0 0)) p0 .nilslice) fun a0=>.asB a0 fun b1=>.ite b1
 (.ret .nilslice)
 (.heavy (cH yA 244 0 []) fun a2=>
 .heavy (pF yA 244 244 a2 p0) fun a3=>
 .ret a3)
def w251(p0:zA)(h:wp 251 (t251 p0) m Q):Wf 251 [p0] m Q:=yC ok251 h
def t252 (p0:zA)(p1:Int):T:=
 .opt (oB p0) fun a0=>.asI .i64 a0 fun n1=>.heavy (fN yA 244 (.int .i64 (tA .i64 (n1+1))) (.int .i64 (tA .i64 (n1+1)))) fun a2=>
 .opt (oB p0) fun a3=>.asI .i64 a3 fun n4=>.jump 2 [.int .i64 p1,a2,p0,.int .i64 n4,.int .i64 0]
def w252(p0:zA)(p1:Int)(h:wp 252 (t252 p0 p1) m Q):Wf 252 [p0,.int .i64 p1] m Q:=yC ok252 h
def zw1(v1:Int)(v5 v13:zA)(v14 v15:Int):T:=
 .ite (bB v15 v14)
 (.opt (qB yA 244 v13 (.int .i64 v15)) fun a0=>.light (fun m=>mA yA 246 ⟨0,m⟩ a0) fun a1=>.asI .u32 a1 fun n2=>.opt (zz8 .u64 (tA .u64 n2) v1) fun a3=>.asI .u64 a3 fun n4=>.opt (qB yA 244 v5 (.int .i64 v15)) fun a5=>.light (fun m=>mA yA 246 ⟨0,m⟩ a5) fun a6=>.asI .u32 a6 fun n7=>.opt (gH Nat.lor .u32 n7 (tA .u32 n4)) fun a8=>.asI .u32 a8 fun n9=>.opt (qB yA 244 v5 (.int .i64 v15)) fun a10=>.heavy (rC yA 246 a10 (.int .u32 n9)) fun _=>
 .opt (qB yA 244 v5 (.int .i64 (tA .i64 (v15+1)))) fun a11=>.heavy (rC yA 246 a11 (.int .u32 (tA .u32 (Int.fdiv n4 4294967296)))) fun _=>
 .jump 2 [.int .i64 v1,v5,v13,.int .i64 v14,(.int .i64 (tA .i64 (v15+1)))])
 (.ret v5)
def z7t(v1:Int)(v5 v13:zA)(v14 v15:Int)(h:wp 252 (zw1 v1 v5 v13 v14 v15) m Q):jp 252 2 [.int .i64 v1,v5,v13,.int .i64 v14,.int .i64 v15] m Q:=wD ok252 h
def t253 (p0 p1:zA):T:=
 .opt (oB p1) fun a0=>.asI .i64 a0 fun n1=>.opt (qB yA 244 p0 (.int .i64 n1)) fun a2=>.light (fun m=>mA yA 246 ⟨0,m⟩ a2) fun a3=>.asI .u32 a3 fun n4=>.opt (qB yA 244 p0 (.int .i64 (tA .i64 (n1-1)))) fun a5=>.light (fun m=>mA yA 246 ⟨0,m⟩ a5) fun a6=>.asI .u32 a6 fun n7=>.opt (gH Nat.lor .u64 (tA .u64 ((tA .u64 n4)*4294967296)) (tA .u64 n7)) fun a8=>.asI .u64 a8 fun n9=>.opt (qB yA 244 p1 (.int .i64 (tA .i64 (n1-1)))) fun a10=>.light (fun m=>mA yA 246 ⟨0,m⟩ a10) fun a11=>.asI .u32 a11 fun n12=>.opt (z49 .u64 n9 (tA .u64 n12)) fun a13=>.asI .u64 a13 fun n14=>.opt (zvu .u64 n9 (tA .u64 n12)) fun a15=>.asI .u64 a15 fun n16=>.jump 2 [p0,p1,.int .i64 n1,(.int .u64 (tA .u64 n12)),.int .u64 n14,.int .u64 n16]
def w253(p0 p1:zA)(h:wp 253 (t253 p0 p1) m Q):Wf 253 [p0,p1] m Q:=yC zyr h
def zwz(v0 v1:zA)(v5 v7 v8 v9:Int):T:=
 .ite (jC 4294967296 v8)
 (.ite (jC 4294967296 (tA .u64 (v9+v7)))
 (.jump 19 [v0,v1,.int .i64 v5,(.int .u64 (tA .u64 (v8-1)))])
 (.jump 2 [v0,v1,.int .i64 v5,.int .u64 v7,(.int .u64 (tA .u64 (v8-1))),(.int .u64 (tA .u64 (v9+v7)))]))
 (.opt (qB yA 244 v1 (.int .i64 (tA .i64 (v5-2)))) fun a0=>.light (fun m=>mA yA 246 ⟨0,m⟩ a0) fun a1=>.asI .u32 a1 fun n2=>.opt (qB yA 244 v0 (.int .i64 (tA .i64 (v5-2)))) fun a3=>.light (fun m=>mA yA 246 ⟨0,m⟩ a3) fun a4=>.asI .u32 a4 fun n5=>.opt (gH Nat.lor .u64 (tA .u64 (v9*4294967296)) (tA .u64 n5)) fun a6=>.asI .u64 a6 fun n7=>.ite (bB n7 (tA .u64 (v8*(tA .u64 n2))))
 (.ite (jC 4294967296 (tA .u64 (v9+v7)))
 (.jump 19 [v0,v1,.int .i64 v5,(.int .u64 (tA .u64 (v8-1)))])
 (.jump 2 [v0,v1,.int .i64 v5,.int .u64 v7,(.int .u64 (tA .u64 (v8-1))),(.int .u64 (tA .u64 (v9+v7)))]))
 (.jump 19 [v0,v1,.int .i64 v5,.int .u64 v8]))
def z7s(v0 v1:zA)(v5 v7 v8 v9:Int)(h:wp 253 (zwz v0 v1 v5 v7 v8 v9) m Q):jp 253 2 [v0,v1,.int .i64 v5,.int .u64 v7,.int .u64 v8,.int .u64 v9] m Q:=wD zyr h
def zw0(v0 v1:zA)(v5 v8:Int):T:=
 .opt (oB v1) fun a0=>.asI .i64 a0 fun n1=>.jump 6 [v0,v1,.int .i64 v5,.int .u64 v8,.int .u64 0,.int .u64 0,v1,.int .i64 n1,.int .i64 0]
def zzah(v0 v1:zA)(v5 v8:Int)(h:wp 253 (zw0 v0 v1 v5 v8) m Q):jp 253 19 [v0,v1,.int .i64 v5,.int .u64 v8] m Q:=wD zyr h
def zwy(v0 v1:zA)(v5 v8 v10 v11:Int)(v76:zA)(v77 v78:Int):T:=
 .ite (bB v78 v77)
 (.opt (qB yA 244 v76 (.int .i64 v78)) fun a0=>.light (fun m=>mA yA 246 ⟨0,m⟩ a0) fun a1=>.asI .u32 a1 fun n2=>.opt (qB yA 244 v0 (.int .i64 v78)) fun a3=>.light (fun m=>mA yA 246 ⟨0,m⟩ a3) fun a4=>.asI .u32 a4 fun n5=>.opt (qB yA 244 v0 (.int .i64 v78)) fun a6=>.heavy (rC yA 246 a6 (.int .u32 (tA .u32 (tA .u64 ((tA .u64 ((tA .u64 n5)-(tA .u64 (tA .u32 (tA .u64 ((tA .u64 (v8*(tA .u64 n2)))+v10))))))-v11))))) fun _=>
 .jump 6 [v0,v1,.int .i64 v5,.int .u64 v8,(.int .u64 (Int.fdiv (tA .u64 ((tA .u64 (v8*(tA .u64 n2)))+v10)) 4294967296)),(.int .u64 (Int.fdiv (tA .u64 ((tA .u64 ((tA .u64 n5)-(tA .u64 (tA .u32 (tA .u64 ((tA .u64 (v8*(tA .u64 n2)))+v10))))))-v11)) 9223372036854775808)),v76,.int .i64 v77,(.int .i64 (tA .i64 (v78+1)))])
 (.opt (qB yA 244 v0 (.int .i64 v5)) fun a7=>.light (fun m=>mA yA 246 ⟨0,m⟩ a7) fun a8=>.asI .u32 a8 fun n9=>.opt (qB yA 244 v0 (.int .i64 v5)) fun a10=>.heavy (rC yA 246 a10 (.int .u32 (tA .u32 (tA .u64 ((tA .u64 ((tA .u64 n9)-v10))-v11))))) fun _=>
 .ite (jA (Int.fdiv (tA .u64 ((tA .u64 ((tA .u64 n9)-v10))-v11)) 9223372036854775808) 0)
 (.ret (.int .u32 (tA .u32 v8)))
 (.opt (oB v1) fun a11=>.asI .i64 a11 fun n12=>.jump 10 [v0,.int .i64 v5,.int .u64 v8,.int .u32 0,v1,.int .i64 n12,.int .i64 0]))
def z7r(v0 v1:zA)(v5 v8 v10 v11:Int)(v76:zA)(v77 v78:Int)(h:wp 253 (zwy v0 v1 v5 v8 v10 v11 v76 v77 v78) m Q):jp 253 6 [v0,v1,.int .i64 v5,.int .u64 v8,.int .u64 v10,.int .u64 v11,v76,.int .i64 v77,.int .i64 v78] m Q:=wD zyr h
def zn0(v0:zA)(v5 v8 v17:Int)(v129:zA)(v130 v131:Int):T:=
 .ite (bB v131 v130)
 (.opt (qB yA 244 v129 (.int .i64 v131)) fun a0=>.light (fun m=>mA yA 246 ⟨0,m⟩ a0) fun a1=>.asI .u32 a1 fun n2=>.opt (qB yA 244 v0 (.int .i64 v131)) fun a3=>.light (fun m=>mA yA 246 ⟨0,m⟩ a3) fun a4=>.asI .u32 a4 fun n5=>.call 260 [.int .u32 n5,.int .u32 n2,.int .u32 v17] fun a6=>
 .opt (mB 0 a6) fun a7=>.asI .u32 a7 fun n8=>.opt (mB 1 a6) fun a9=>.asI .u32 a9 fun n10=>.opt (qB yA 244 v0 (.int .i64 v131)) fun a11=>.heavy (rC yA 246 a11 (.int .u32 n8)) fun _=>
 .jump 10 [v0,.int .i64 v5,.int .u64 v8,.int .u32 n10,v129,.int .i64 v130,(.int .i64 (tA .i64 (v131+1)))])
 (.opt (qB yA 244 v0 (.int .i64 v5)) fun jD=>.light (fun m=>mA yA 246 ⟨0,m⟩ jD) fun a13=>.asI .u32 a13 fun n14=>.opt (qB yA 244 v0 (.int .i64 v5)) fun a15=>.heavy (rC yA 246 a15 (.int .u32 (tA .u32 (n14+v17)))) fun _=>
 .ret (.int .u32 (tA .u32 (tA .u64 (v8-1)))))
def zzz(v0:zA)(v5 v8 v17:Int)(v129:zA)(v130 v131:Int)(h:wp 253 (zn0 v0 v5 v8 v17 v129 v130 v131) m Q):jp 253 10 [v0,.int .i64 v5,.int .u64 v8,.int .u32 v17,v129,.int .i64 v130,.int .i64 v131] m Q:=wD zyr h
def t254 (p0 p1 p2:Int):T:=
 .opt (znw (.int .u32 p0)) fun a0=>.asI .u32 a0 fun n1=>.opt (iAnd .u32 n1 p1) fun a2=>.asI .u32 a2 fun n3=>.opt (gH Nat.xor .u32 p0 p1) fun a4=>.asI .u32 a4 fun n5=>.opt (znw (.int .u32 n5)) fun a6=>.asI .u32 a6 fun n7=>.opt (iAnd .u32 n7 (tA .u32 ((tA .u32 (p0-p1))-p2))) fun a8=>.asI .u32 a8 fun n9=>.opt (gH Nat.lor .u32 n3 n9) fun a10=>.asI .u32 a10 fun n11=>.ret (.tup [(.int .u32 (tA .u32 ((tA .u32 (p0-p1))-p2))),(.int .u32 (Int.fdiv n11 2147483648))])
def w254(p0 p1 p2:Int)(h:wp 254 (t254 p0 p1 p2) m Q):Wf 254 [.int .u32 p0,.int .u32 p1,.int .u32 p2] m Q:=yC ok254 h
def t258 (p0:Int):T:=
 .ite (jC 65536 p0)
 (.jump 9 [(.int .u32 (Int.fdiv p0 65536)),.int .i64 16])
 (.jump 9 [.int .u32 p0,.int .i64 0])
def w258(p0:Int)(h:wp 258 (t258 p0) m Q):Wf 258 [.int .u32 p0] m Q:=yC z9t h
def zww(v0 v2:Int):T:=
 .ite (jC 256 v0)
 (.jump 15 [(.int .u32 (Int.fdiv v0 256)),(.int .i64 (tA .i64 (v2+8)))])
 (.jump 15 [.int .u32 v0,.int .i64 v2])
def z7q(v0 v2:Int)(h:wp 258 (zww v0 v2) m Q):jp 258 9 [.int .u32 v0,.int .i64 v2] m Q:=wD z9t h
def zwx(v0 v2:Int):T:=
 .opt (sJ yA 9 (.str [0,1,2,2,3,3,3,3,4,4,4,4,4,4,4,4,5,5,5,5,5,5,5,5,5,5,5,5,5,5,5,5,6,6,6,6,6,6,6,6,6,6,6,6,6,6,6,6,6,6,6,6,6,6,6,6,6,6,6,6,6,6,6,6,7,7,7,7,7,7,7,7,7,7,7,7,7,7,7,7,7,7,7,7,7,7,7,7,7,7,7,7,7,7,7,7,7,7,7,7,7,7,7,7,7,7,7,7,7,7,7,7,7,7,7,7,7,7,7,7,7,7,7,7,7,7,7,7,8,8,8,8,8,8,8,8,8,8,8,8,8,8,8,8,8,8,8,8,8,8,8,8,8,8,8,8,8,8,8,8,8,8,8,8,8,8,8,8,8,8,8,8,8,8,8,8,8,8,8,8,8,8,8,8,8,8,8,8,8,8,8,8,8,8,8,8,8,8,8,8,8,8,8,8,8,8,8,8,8,8,8,8,8,8,8,8,8,8,8,8,8,8,8,8,8,8,8,8,8,8,8,8,8,8,8,8,8,8,8,8,8,8,8,8,8,8,8,8,8,8,8,8,8,8,8,8]) (.int .u8 (tA .u8 v0))) fun a0=>.asI .u8 a0 fun n1=>.ret (.int .i64 (tA .i64 (v2+(tA .i64 n1))))
def zzag(v0 v2:Int)(h:wp 258 (zwx v0 v2) m Q):jp 258 15 [.int .u32 v0,.int .i64 v2] m Q:=wD z9t h
def t259 (p0:Int)(w0:zA):T:=
 .light (fun m=>mA yA 244 ⟨0,m⟩ w0) fun a0=>.opt (oB a0) fun a1=>.asI .i64 a1 fun n2=>.ite (jC n2 p0)
 (.ret (.int .u64 0))
 (.light (fun m=>mA yA 244 ⟨0,m⟩ w0) fun a3=>.opt (qB yA 244 a3 (.int .i64 p0)) fun a4=>.light (fun m=>mA yA 246 ⟨0,m⟩ a4) fun a5=>.asI .u32 a5 fun n6=>.ret (.int .u64 (tA .u64 n6)))
def w259(p0:Int)(w0:zA)(h:wp 259 (t259 p0 w0) m Q):Wf 259 [.int .i64 p0,w0] m Q:=yC ok259 h
def t260 (p0 p1 p2:Int):T:=
 .ret (.tup [(.int .u32 (tA .u32 (tA .u64 ((tA .u64 ((tA .u64 p0)+(tA .u64 p1)))+(tA .u64 p2))))),(.int .u32 (tA .u32 (Int.fdiv (tA .u64 ((tA .u64 ((tA .u64 p0)+(tA .u64 p1)))+(tA .u64 p2))) 4294967296)))])
def e260(p0 p1 p2:Int):entT yA Tryz.f260 9 260 a260 [.int .u32 p0,.int .u32 p1,.int .u32 p2]=t260 p0 p1 p2:=by kernel_rfl
def w260(p0 p1 p2:Int)(h:wp 260 (t260 p0 p1 p2) m Q):Wf 260 [.int .u32 p0,.int .u32 p1,.int .u32 p2] m Q:=zzbu ok260 (by kernel_rfl) (by rw[e260];exact h)
end Go.Proofs
