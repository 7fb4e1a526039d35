/- The trees of functions that may panic. (Printed by a tool; the kernel agrees.) -/
import Derived.Carry
import Derived.ChangeArms
import Derived.HandedShaped
import Derived.JoinedOf
import Derived.LaidMore
import Derived.OpenShut
import Derived.ProofKit
import Derived.Stop.Joined
import Derived.Test.YtfmlbimokklmgaaGreatDoorRows
import GoSem.ClaimJoined
import Derived.Test.YtfmlbimokklmgaaGreatDoorF15
set_option linter.all false
noncomputable section
set_option maxRecDepth 100000
namespace Go.Proofs
open Go Go.Am
variable {f kf:Nat}{fn:Func}{A:wE}{x:List zA}{U:T}
variable [eC]
def tF (f:Nat):Bool:=aH f [29,41,42,43,46,47,48,57,58,59,60,68,69,73,75,89,90,91,96,110,112,117,135,151,161,168,180,181,187]
abbrev qF(E:sB)(f:Nat)(T:T)(m:Tr vA)(Q:sB):Prop:=pA yA.base (dE yA F vC tF E) (JqE yA F E f) T m Q
abbrev iJ(E:sB)(f:Nat)(a:List zA)(m:Tr vA)(Q:sB):Prop:=fJ yA F E f a m Q
abbrev pH(E:sB)(f i:Nat)(a:List zA)(m:Tr vA)(Q:sB):Prop:=JqE yA F E f i a m Q
def pQ(f:Nat)(h:(vC f&&Nat.blt f yo)=true:=by kernel_rfl){E:sB}(a:List zA)(m:Tr vA)(R:sB):dE yA F vC tF E f a m R=vE (wC yA F f a m) fun v=>R v m:=yab h
def pW(f:Nat)(h:(vC f&&Nat.blt f yo)=false:=by kernel_rfl)(h1:Nat.beq f pn=false:=by kernel_rfl)(h2:(tF f&&Nat.blt f pn)=false:=by kernel_rfl){E:sB}(a:List zA)(m:Tr vA)(R:sB):dE yA F vC tF E f a m R=Wc yA F f a m R:=by unfold dE;rw[h,h1,h2];simp
def pE(f:Nat)(h:(vC f&&Nat.blt f yo)=false:=by kernel_rfl)(h1:Nat.beq f pn=false:=by kernel_rfl)(h2:(tF f&&Nat.blt f pn)=true:=by kernel_rfl){E:sB}(a:List zA)(m:Tr vA)(R:sB):dE yA F vC tF E f a m R=fJ yA F E f a m R:=by unfold dE;rw[h,h1,h2];simp
def pX{E:sB}(v:zA)(m:Tr vA)(R:sB)(h:E v m):dE yA F vC tF E pn [v] m R:=by unfold dE;rw[show(vC pn&&Nat.blt pn yo)=false by kernel_rfl,show Nat.beq pn pn=true by kernel_rfl];simp[h]
variable {E:sB}{m:Tr vA}{Q:sB}
def gA     (h:oM yA F f fn kf A)(k:qF E f U m Q)(h0:mK A.code=[]:=by kernel_rfl)(h1:(Nat.ble (zB x) kf&&Nat.ble (zB x) fn.ntmps)=true:=by kernel_rfl)(h2:entT yA fn kf f A x=U:=by kernel_rfl):iJ E f x m Q:=zf1 (BD (by kernel_rfl)) BC h (.inr h0) h1 (by rw[h2];exact k)
def gJ{i:Nat}    (h:oM yA F f fn kf A)(k:qF E f U m Q)(h0:mK A.code=[]:=by kernel_rfl)(h2:Ec (ptsT yA fn kf f A) i x=[U]:=by kernel_rfl):pH E f i x m Q:=NO (BD (by kernel_rfl)) BC h (.inr h0) h2 k
def t29 (p0:zA):T:=
 .heavy (nK yA 27) fun a0=>
 .heavy (cC yA 93 1 [(0,(.str [112,108,97,110]))]) fun a1=>
 .call 57 [p0,a1] fun a2=>
 .call 58 [p0] fun a3=>
 .asS a3 fun s4=>.opt (kC yA 27 0 a0) fun a5=>.heavy (zC yA 9 a5 (.str s4)) fun _=>
 .call 59 [p0,(.int .u8 5)] fun a6=>
 .asG [(.int .u8 0),(.str []),(.int .i64 0),(.int .i64 0)] a6 fun X7=>
 .jump 2 [p0,a0,(.str []),.nilslice,.nilslice,.nilslice]
def w29(p0:zA)(h:qF E 29 (t29 p0) m Q):iJ E 29 [p0] m Q:=gA (mF 29) h
def Ow(v0 v3:zA)(c2_0:List Nat)(c2_1 c2_2 c2_3:zA):T:=
 .opt (zG v0) fun a0=>.opt (kC yA 121 1 a0) fun a1=>.light (fun m=>mA yA 3 ⟨0,m⟩ a1) fun a2=>.asI .i64 a2 fun n3=>.opt (zG v0) fun a4=>.opt (kC yA 121 0 a4) fun a5=>.light (fun m=>mA yA 66 ⟨0,m⟩ a5) fun a6=>.opt (pC a6) fun a7=>.asI .i64 a7 fun n8=>.ite (iB n3 n8)
 (.call 60 [v0,v3] fun a9=>
 .call 59 [v0,(.int .u8 5)] fun a10=>
 .asG [(.int .u8 0),(.str []),(.int .i64 0),(.int .i64 0)] a10 fun X11=>
 .jump 2 [v0,v3,(.str c2_0),c2_1,c2_2,c2_3])
 (.light (fun m=>mA yA 27 ⟨0,m⟩ v3) fun a12=>.asG [(.str []),.nilslice,.nilslice,.nilslice] a12 fun X13=>
 .ite (fB zA.one [(.str (X13.s 0)),(X13.v 1),(X13.v 2),(X13.v 3)]) (.ret (.agg [(.str (X13.s 0)),(X13.v 1),(X13.v 2),(X13.v 3)])) .fail)
def zie(v0 v3:zA)(c2_0:List Nat)(c2_1 c2_2 c2_3:zA)(h:qF E 29 (Ow v0 v3 c2_0 c2_1 c2_2 c2_3) m Q):pH E 29 2 [v0,v3,(.str c2_0),c2_1,c2_2,c2_3] m Q:=gJ (mF 29) h
def t42 (p0:zA):T:=
 .ite true (.heavy (cC yA 161 1 [(0,(.agg [(.str [111,114]),(.int .u8 16)]))]) fun a0=>
 .call 68 [p0,(.func (.func 69) [p0] []),a0] fun a1=>
 .asG [(.int .u8 0),(.str []),(.int .u8 0),(.bool false),.nilslice,(.bool false),.nilslice,(.int .i64 0),.nilslice] a1 fun X2=>
 .ite (fB zA.one [(.int .u8 (X2.i 0)),(.str (X2.s 1)),(.int .u8 (X2.i 2)),(.bool (X2.b 3)),(X2.v 4),(.bool (X2.b 5)),(X2.v 6),(.int .i64 (X2.i 7)),(X2.v 8)]) (.ret (.agg [(.int .u8 (X2.i 0)),(.str (X2.s 1)),(.int .u8 (X2.i 2)),(.bool (X2.b 3)),(X2.v 4),(.bool (X2.b 5)),(X2.v 6),(.int .i64 (X2.i 7)),(X2.v 8)])) .fail) .fail
def w42(p0:zA)(h:qF E 42 (t42 p0) m Q):iJ E 42 [p0] m Q:=gA (mF 42) h
def t47 (p0:zA):T:=
 .call 71 [p0] fun a0=>
 .asG [(.int .u8 0),(.str []),(.int .i64 0),(.int .i64 0)] a0 fun X1=>
 .ite true (.call 72 [p0,(.str [116,114,117,101])] fun a2=>
 .asB a2 fun b3=>.ite b3
 (.ite true (.ite true (.ret (.tup [(.agg [(.int .u8 1),(.bool false),.nilslice,(.bool false),.nilslice,(.int .i64 1)]),(.bool true)])) .fail) .fail)
 (.call 72 [p0,(.str [102,97,108,115,101])] fun a4=>
 .asB a4 fun b5=>.ite b5
 (.ite true (.ite true (.ret (.tup [(.agg [(.int .u8 1),(.bool false),.nilslice,(.bool false),.nilslice,(.int .i64 0)]),(.bool true)])) .fail) .fail)
 (.ite (tC (X1.i 0) 3)
 (.call 73 [p0] fun a6=>
 .asI .i64 a6 fun n7=>.ite true (.ite true (.ret (.tup [(.agg [(.int .u8 4),(.bool false),.nilslice,(.bool false),.nilslice,(.int .i64 n7)]),(.bool true)])) .fail) .fail)
 (.call 72 [p0,(.str [109,111,110,101,121])] fun a8=>
 .asB a8 fun b9=>.ite b9
 (.call 72 [p0,(.str [109,105,110,117,115])] fun a10=>
 .asB a10 fun b11=>.call 59 [p0,(.int .u8 2)] fun a12=>
 .asG [(.int .u8 0),(.str []),(.int .i64 0),(.int .i64 0)] a12 fun X13=>
 .call 74 [(.str (X13.s 1)),(.bool b11)] fun a14=>
 .asG [(.bool false),.nilslice,(.bool false),.nilslice] a14 fun X15=>
 .ite true (.ite (fB zA.one [(.int .u8 3),(.bool (X15.b 0)),(X15.v 1),(.bool (X15.b 2)),(X15.v 3),(.int .i64 0)]) (.ret (.tup [(.agg [(.int .u8 3),(.bool (X15.b 0)),(X15.v 1),(.bool (X15.b 2)),(X15.v 3),(.int .i64 0)]),(.bool true)])) .fail) .fail)
 (.call 72 [p0,(.str [109,105,110,117,115])] fun a16=>
 .asB a16 fun b17=>.ite b17
 (.call 75 [p0,(.bool true)] fun a18=>
 .asG [(.int .u8 0),(.bool false),.nilslice,(.bool false),.nilslice,(.int .i64 0)] a18 fun X19=>
 .ite (fB zA.one [(.int .u8 (X19.i 0)),(.bool (X19.b 1)),(X19.v 2),(.bool (X19.b 3)),(X19.v 4),(.int .i64 (X19.i 5))]) (.ret (.tup [(.agg [(.int .u8 (X19.i 0)),(.bool (X19.b 1)),(X19.v 2),(.bool (X19.b 3)),(X19.v 4),(.int .i64 (X19.i 5))]),(.bool true)])) .fail)
 (.ite (tC (X1.i 0) 2)
 (.call 75 [p0,(.bool false)] fun a20=>
 .asG [(.int .u8 0),(.bool false),.nilslice,(.bool false),.nilslice,(.int .i64 0)] a20 fun X21=>
 .ite (fB zA.one [(.int .u8 (X21.i 0)),(.bool (X21.b 1)),(X21.v 2),(.bool (X21.b 3)),(X21.v 4),(.int .i64 (X21.i 5))]) (.ret (.tup [(.agg [(.int .u8 (X21.i 0)),(.bool (X21.b 1)),(X21.v 2),(.bool (X21.b 3)),(X21.v 4),(.int .i64 (X21.i 5))]),(.bool true)])) .fail)
 (.ite true (.ite true (.ret (.tup [(.agg [(.int .u8 0),(.bool false),.nilslice,(.bool false),.nilslice,(.int .i64 0)]),(.bool false)])) .fail) .fail))))))) .fail
def w47(p0:zA)(h:qF E 47 (t47 p0) m Q):iJ E 47 [p0] m Q:=gA (mF 47) h
def t48 (p0:zA)(p1:Int):T:=
 .call 71 [p0] fun a0=>
 .asG [(.int .u8 0),(.str []),(.int .i64 0),(.int .i64 0)] a0 fun X1=>
 .ite true (.call pn [(.iface 123 (.agg [(.int .i64 (X1.i 2)),(.int .i64 (X1.i 3)),(.int .i64 p1)]))] fun a2=>
 .ret (.tup [])) .fail
def w48(p0:zA)(p1:Int)(h:qF E 48 (t48 p0 p1) m Q):iJ E 48 [p0,(.int .i64 p1)] m Q:=gA (mF 48) h
def t57 (p0 p1:zA):T:=
 .opt (pC p1) fun a0=>.asI .i64 a0 fun n1=>.jump 2 [p0,p1,(.int .i64 n1),(.int .i64 0)]
def w57(p0 p1:zA)(h:qF E 57 (t57 p0 p1) m Q):iJ E 57 [p0,p1] m Q:=gA (mF 57) h
def zg6(v0 v6:zA)(v7 v8:Int):T:=
 .ite (iB v8 v7)
 (.opt (xC yA 93 v6 (.int .i64 v8)) fun a0=>.light (fun m=>mA yA 9 ⟨0,m⟩ a0) fun a1=>.asS a1 fun s2=>.call 72 [v0,(.str s2)] fun a3=>
 .asB a3 fun b4=>.ite (!b4)
 (.call 48 [v0,(.int .i64 120)] fun a5=>
 .jump 2 [v0,v6,(.int .i64 v7),(.int .i64 (cA .i64 (v8+1)))])
 (.jump 2 [v0,v6,(.int .i64 v7),(.int .i64 (cA .i64 (v8+1)))]))
 (.ret (.tup []))
def j57_2(v0 v6:zA)(v7 v8:Int)(h:qF E 57 (zg6 v0 v6 v7 v8) m Q):pH E 57 2 [v0,v6,(.int .i64 v7),(.int .i64 v8)] m Q:=gJ (mF 57) h
def t58 (p0:zA):T:=
 .call 88 [p0] fun a0=>
 .asB a0 fun b1=>.ite (!b1)
 (.call 48 [p0,(.int .i64 120)] fun a2=>
 .call 59 [p0,(.int .u8 1)] fun a3=>
 .asG [(.int .u8 0),(.str []),(.int .i64 0),(.int .i64 0)] a3 fun X4=>
 .ret (.str (X4.s 1)))
 (.call 59 [p0,(.int .u8 1)] fun a5=>
 .asG [(.int .u8 0),(.str []),(.int .i64 0),(.int .i64 0)] a5 fun X6=>
 .ret (.str (X6.s 1)))
def w58(p0:zA)(h:qF E 58 (t58 p0) m Q):iJ E 58 [p0] m Q:=gA (mF 58) h
def t59 (p0:zA)(p1:Int):T:=
 .call 71 [p0] fun a0=>
 .asG [(.int .u8 0),(.str []),(.int .i64 0),(.int .i64 0)] a0 fun X1=>
 .ite true (.ite (!tC (X1.i 0) p1)
 (.call 48 [p0,(.int .i64 120)] fun a2=>
 .jump 9 [p0,(.int .u8 0),(.str []),(.int .i64 0),(.int .i64 0),(.int .u8 (X1.i 0)),(.str (X1.s 1)),(.int .i64 (X1.i 2)),(.int .i64 (X1.i 3))])
 (.jump 9 [p0,(.int .u8 0),(.str []),(.int .i64 0),(.int .i64 0),(.int .u8 (X1.i 0)),(.str (X1.s 1)),(.int .i64 (X1.i 2)),(.int .i64 (X1.i 3))])) .fail
def w59(p0:zA)(p1:Int)(h:qF E 59 (t59 p0 p1) m Q):iJ E 59 [p0,(.int .u8 p1)] m Q:=gA (mF 59) h
def t59_9(v0:zA)(c4_0:Int)(c4_1:List Nat)(c4_2 c4_3 c5_0:Int)(c5_1:List Nat)(c5_2 c5_3:Int):T:=
 .opt (zG v0) fun a0=>.opt (kC yA 121 1 a0) fun a1=>.light (fun m=>mA yA 3 ⟨0,m⟩ a1) fun a2=>.asI .i64 a2 fun n3=>.opt (zG v0) fun a4=>.opt (kC yA 121 1 a4) fun a5=>.heavy (zC yA 3 a5 (.int .i64 (cA .i64 (n3+1)))) fun _=>
 .ite true (.ret (.agg [(.int .u8 c5_0),(.str c5_1),(.int .i64 c5_2),(.int .i64 c5_3)])) .fail
def j59_9(v0:zA)(c4_0:Int)(c4_1:List Nat)(c4_2 c4_3 c5_0:Int)(c5_1:List Nat)(c5_2 c5_3:Int)(h:qF E 59 (t59_9 v0 c4_0 c4_1 c4_2 c4_3 c5_0 c5_1 c5_2 c5_3) m Q):pH E 59 9 [v0,(.int .u8 c4_0),(.str c4_1),(.int .i64 c4_2),(.int .i64 c4_3),(.int .u8 c5_0),(.str c5_1),(.int .i64 c5_2),(.int .i64 c5_3)] m Q:=gJ (mF 59) h
def t60 (p0 p1:zA):T:=
 .opt (zG p1) fun a0=>.opt (kC yA 27 2 a0) fun a1=>.light (fun m=>mA yA 24 ⟨0,m⟩ a1) fun a2=>.opt (pC a2) fun a3=>.asI .i64 a3 fun n4=>.call 72 [p0,(.str [102,97,99,116])] fun a5=>
 .asB a5 fun b6=>.ite b6
 (.opt (zG p1) fun a7=>.opt (kC yA 27 1 a7) fun a8=>.light (fun m=>mA yA 23 ⟨0,m⟩ a8) fun a9=>.call 89 [p0,(.bool true)] fun a10=>
 .asG [(.str []),(.int .u8 0),(.bool false)] a10 fun X11=>
 .light (fun m=>mA yA 23 ⟨0,m⟩ a8) fun a12=>.ite (same 10 a12 a9) (.heavy (cC yA 23 1 [(0,(.agg [(.str (X11.s 0)),(.int .u8 (X11.i 1)),(.bool (X11.b 2))]))]) fun a13=>
 .light (fun m=>mA yA 23 ⟨0,m⟩ a8) fun a14=>.ite (same 10 a14 a9) (.heavy (gE yA 23 23 a9 a13) fun a15=>
 .opt (zG p1) fun a16=>.opt (kC yA 27 1 a16) fun a17=>.heavy (zC yA 23 a17 a15) fun _=>
 .ret (.tup [])) .fail) .fail)
 (.call 72 [p0,(.str [100,101,102])] fun a18=>
 .asB a18 fun b19=>.ite b19
 (.opt (zG p1) fun a20=>.opt (kC yA 27 1 a20) fun a21=>.light (fun m=>mA yA 23 ⟨0,m⟩ a21) fun a22=>.call 89 [p0,(.bool false)] fun a23=>
 .asG [(.str []),(.int .u8 0),(.bool false)] a23 fun X24=>
 .light (fun m=>mA yA 23 ⟨0,m⟩ a21) fun a25=>.ite (same 10 a25 a22) (.heavy (cC yA 23 1 [(0,(.agg [(.str (X24.s 0)),(.int .u8 (X24.i 1)),(.bool (X24.b 2))]))]) fun a26=>
 .light (fun m=>mA yA 23 ⟨0,m⟩ a21) fun a27=>.ite (same 10 a27 a22) (.heavy (gE yA 23 23 a22 a26) fun a28=>
 .opt (zG p1) fun a29=>.opt (kC yA 27 1 a29) fun a30=>.heavy (zC yA 23 a30 a28) fun _=>
 .ret (.tup [])) .fail) .fail)
 (.call 72 [p0,(.str [116,97,98,108,101])] fun a31=>
 .asB a31 fun b32=>.ite b32
 (.call 58 [p0] fun a33=>
 .asS a33 fun s34=>.call 72 [p0,(.str [116,119,111])] fun a35=>
 .asB a35 fun b36=>.ite (!b36)
 (.heavy (cC yA 93 1 [(0,(.str [111,110,101]))]) fun a37=>
 .call 57 [p0,a37] fun a38=>
 .jump 23 [p1,(.str s34),(.bool b36)])
 (.jump 23 [p1,(.str s34),(.bool b36)]))
 (.ite (iB 0 n4)
 (.call 72 [p0,(.str [114,111,119])] fun a39=>
 .asB a39 fun b40=>.ite b40
 (.opt (zG p1) fun a41=>.opt (kC yA 27 2 a41) fun a42=>.light (fun m=>mA yA 24 ⟨0,m⟩ a42) fun a43=>.opt (xC yA 24 a43 (.int .i64 (cA .i64 (n4-1)))) fun a44=>.opt (zG a44) fun a45=>.opt (kC yA 130 2 a45) fun a46=>.light (fun m=>mA yA 128 ⟨0,m⟩ a46) fun a47=>.opt (zG a44) fun a48=>.opt (kC yA 130 1 a48) fun a49=>.light (fun m=>mA yA 4 ⟨0,m⟩ a49) fun a50=>.asB a50 fun b51=>.call 90 [p0,(.bool b51)] fun a52=>
 .asG [(.int .i64 0),(.int .i64 0),(.int .i64 0),(.bool false),.nilslice,(.bool false),.nilslice] a52 fun X53=>
 .light (fun m=>mA yA 128 ⟨0,m⟩ a46) fun a54=>.ite (same 10 a54 a47) (.heavy (cC yA 128 1 [(0,(.agg [(.int .i64 (X53.i 0)),(.int .i64 (X53.i 1)),(.int .i64 (X53.i 2)),(.bool (X53.b 3)),(X53.v 4),(.bool (X53.b 5)),(X53.v 6)]))]) fun a55=>
 .light (fun m=>mA yA 128 ⟨0,m⟩ a46) fun a56=>.ite (same 10 a56 a47) (.heavy (gE yA 128 128 a47 a55) fun a57=>
 .opt (zG a44) fun a58=>.opt (kC yA 130 2 a58) fun a59=>.heavy (zC yA 128 a59 a57) fun _=>
 .ret (.tup [])) .fail) .fail)
 (.call 72 [p0,(.str [99,108,97,117,115,101])] fun a60=>
 .asB a60 fun b61=>.ite b61
 (.opt (zG p1) fun a62=>.opt (kC yA 27 3 a62) fun a63=>.light (fun m=>mA yA 25 ⟨0,m⟩ a63) fun a64=>.call 91 [p0] fun a65=>
 .asG [(.str []),(.str []),(.int .i64 0),(.int .i64 0),(.int .i64 0),(.bool false),(.int .u8 0),(.str []),(.int .u8 0),(.bool false),.nilslice,(.bool false),.nilslice,(.int .i64 0),.nilslice,(.int .u8 0),(.str []),(.int .u8 0),(.bool false),.nilslice,(.bool false),.nilslice,(.int .i64 0),.nilslice] a65 fun X66=>
 .light (fun m=>mA yA 25 ⟨0,m⟩ a63) fun a67=>.ite (same 10 a67 a64) (.heavy (cC yA 25 1 [(0,(.agg [(.str (X66.s 0)),(.str (X66.s 1)),(.int .i64 (X66.i 2)),(.int .i64 (X66.i 3)),(.int .i64 (X66.i 4)),(.bool (X66.b 5)),(.int .u8 (X66.i 6)),(.str (X66.s 7)),(.int .u8 (X66.i 8)),(.bool (X66.b 9)),(X66.v 10),(.bool (X66.b 11)),(X66.v 12),(.int .i64 (X66.i 13)),(X66.v 14),(.int .u8 (X66.i 15)),(.str (X66.s 16)),(.int .u8 (X66.i 17)),(.bool (X66.b 18)),(X66.v 19),(.bool (X66.b 20)),(X66.v 21),(.int .i64 (X66.i 22)),(X66.v 23)]))]) fun a68=>
 .light (fun m=>mA yA 25 ⟨0,m⟩ a63) fun a69=>.ite (same 10 a69 a64) (.heavy (gE yA 25 25 a64 a68) fun a70=>
 .opt (zG p1) fun a71=>.opt (kC yA 27 3 a71) fun a72=>.heavy (zC yA 25 a72 a70) fun _=>
 .ret (.tup [])) .fail) .fail)
 (.call 48 [p0,(.int .i64 120)] fun a73=>
 .ret (.tup []))))
 (.call 72 [p0,(.str [99,108,97,117,115,101])] fun a74=>
 .asB a74 fun b75=>.ite b75
 (.opt (zG p1) fun a76=>.opt (kC yA 27 3 a76) fun a77=>.light (fun m=>mA yA 25 ⟨0,m⟩ a77) fun a78=>.call 91 [p0] fun a79=>
 .asG [(.str []),(.str []),(.int .i64 0),(.int .i64 0),(.int .i64 0),(.bool false),(.int .u8 0),(.str []),(.int .u8 0),(.bool false),.nilslice,(.bool false),.nilslice,(.int .i64 0),.nilslice,(.int .u8 0),(.str []),(.int .u8 0),(.bool false),.nilslice,(.bool false),.nilslice,(.int .i64 0),.nilslice] a79 fun X80=>
 .light (fun m=>mA yA 25 ⟨0,m⟩ a77) fun a81=>.ite (same 10 a81 a78) (.heavy (cC yA 25 1 [(0,(.agg [(.str (X80.s 0)),(.str (X80.s 1)),(.int .i64 (X80.i 2)),(.int .i64 (X80.i 3)),(.int .i64 (X80.i 4)),(.bool (X80.b 5)),(.int .u8 (X80.i 6)),(.str (X80.s 7)),(.int .u8 (X80.i 8)),(.bool (X80.b 9)),(X80.v 10),(.bool (X80.b 11)),(X80.v 12),(.int .i64 (X80.i 13)),(X80.v 14),(.int .u8 (X80.i 15)),(.str (X80.s 16)),(.int .u8 (X80.i 17)),(.bool (X80.b 18)),(X80.v 19),(.bool (X80.b 20)),(X80.v 21),(.int .i64 (X80.i 22)),(X80.v 23)]))]) fun a82=>
 .light (fun m=>mA yA 25 ⟨0,m⟩ a77) fun a83=>.ite (same 10 a83 a78) (.heavy (gE yA 25 25 a78 a82) fun a84=>
 .opt (zG p1) fun a85=>.opt (kC yA 27 3 a85) fun a86=>.heavy (zC yA 25 a86 a84) fun _=>
 .ret (.tup [])) .fail) .fail)
 (.call 48 [p0,(.int .i64 120)] fun a87=>
 .ret (.tup []))))))
def w60(p0 p1:zA)(h:qF E 60 (t60 p0 p1) m Q):iJ E 60 [p0,p1] m Q:=gA (mF 60) h
def zd6(v1:zA)(v5:List Nat)(v6:Bool):T:=
 .opt (zG v1) fun a0=>.opt (kC yA 27 2 a0) fun a1=>.light (fun m=>mA yA 24 ⟨0,m⟩ a1) fun a2=>.ite true (.heavy (cC yA 24 1 [(0,(.agg [(.str v5),(.bool v6),.nilslice]))]) fun a3=>
 .heavy (gE yA 24 24 a2 a3) fun a4=>
 .opt (zG v1) fun a5=>.opt (kC yA 27 2 a5) fun a6=>.heavy (zC yA 24 a6 a4) fun _=>
 .ret (.tup [])) .fail
def j60_23(v1:zA)(v5:List Nat)(v6:Bool)(h:qF E 60 (zd6 v1 v5 v6) m Q):pH E 60 23 [v1,(.str v5),(.bool v6)] m Q:=gJ (mF 60) h
def t68 (p0 p1 p2:zA):T:=
 .callv p1 [] fun a0=>
 .asG [(.int .u8 0),(.str []),(.int .u8 0),(.bool false),.nilslice,(.bool false),.nilslice,(.int .i64 0),.nilslice] a0 fun X1=>
 .ite (fB zA.one [(.int .u8 (X1.i 0)),(.str (X1.s 1)),(.int .u8 (X1.i 2)),(.bool (X1.b 3)),(X1.v 4),(.bool (X1.b 5)),(X1.v 6),(.int .i64 (X1.i 7)),(X1.v 8)]) (.jump 2 [p0,p1,p2,(.int .u8 0),(.str []),(.int .u8 0),(.bool false),.nilslice,(.bool false),.nilslice,(.int .i64 0),.nilslice,(.int .u8 (X1.i 0)),(.str (X1.s 1)),(.int .u8 (X1.i 2)),(.bool (X1.b 3)),(X1.v 4),(.bool (X1.b 5)),(X1.v 6),(.int .i64 (X1.i 7)),(X1.v 8)]) .fail
def w68(p0 p1 p2:zA)(h:qF E 68 (t68 p0 p1 p2) m Q):iJ E 68 [p0,p1,p2] m Q:=gA (mF 68) h
def zg5(v0 v1 v2:zA)(c6_0:Int)(c6_1:List Nat)(c6_2:Int)(c6_3:Bool)(c6_4:zA)(c6_5:Bool)(c6_6:zA)(c6_7:Int)(c6_8:zA)(c7_0:Int)(c7_1:List Nat)(c7_2:Int)(c7_3:Bool)(c7_4:zA)(c7_5:Bool)(c7_6:zA)(c7_7:Int)(c7_8:zA):T:=
 .call 95 [v0,v2] fun a0=>
 .opt (yH 0 a0) fun a1=>.asI .u8 a1 fun n2=>.opt (yH 1 a0) fun a3=>.asB a3 fun b4=>.ite (!b4)
 (.ite (fB zA.one [(.int .u8 c7_0),(.str c7_1),(.int .u8 c7_2),(.bool c7_3),c7_4,(.bool c7_5),c7_6,(.int .i64 c7_7),c7_8]) (.ret (.agg [(.int .u8 c7_0),(.str c7_1),(.int .u8 c7_2),(.bool c7_3),c7_4,(.bool c7_5),c7_6,(.int .i64 c7_7),c7_8])) .fail)
 (.callv v1 [] fun a5=>
 .asG [(.int .u8 0),(.str []),(.int .u8 0),(.bool false),.nilslice,(.bool false),.nilslice,(.int .i64 0),.nilslice] a5 fun X6=>
 .ite (fB zA.one [(.int .u8 (X6.i 0)),(.str (X6.s 1)),(.int .u8 (X6.i 2)),(.bool (X6.b 3)),(X6.v 4),(.bool (X6.b 5)),(X6.v 6),(.int .i64 (X6.i 7)),(X6.v 8)]) (.heavy (cC yA 48 2 [(0,(.agg [(.int .u8 c7_0),(.str c7_1),(.int .u8 c7_2),(.bool c7_3),c7_4,(.bool c7_5),c7_6,(.int .i64 c7_7),c7_8])),(1,(.agg [(.int .u8 (X6.i 0)),(.str (X6.s 1)),(.int .u8 (X6.i 2)),(.bool (X6.b 3)),(X6.v 4),(.bool (X6.b 5)),(X6.v 6),(.int .i64 (X6.i 7)),(X6.v 8)]))]) fun a7=>
 .ite (fB zA.one [(.int .u8 n2),a7]) (.ite (fB zA.one [(.int .u8 n2),(.str []),(.int .u8 0),(.bool false),.nilslice,(.bool false),.nilslice,(.int .i64 0),a7]) (.jump 2 [v0,v1,v2,(.int .u8 c6_0),(.str c6_1),(.int .u8 c6_2),(.bool c6_3),c6_4,(.bool c6_5),c6_6,(.int .i64 c6_7),c6_8,(.int .u8 n2),(.str []),(.int .u8 0),(.bool false),.nilslice,(.bool false),.nilslice,(.int .i64 0),a7]) .fail) .fail) .fail)
def j68_2(v0 v1 v2:zA)(c6_0:Int)(c6_1:List Nat)(c6_2:Int)(c6_3:Bool)(c6_4:zA)(c6_5:Bool)(c6_6:zA)(c6_7:Int)(c6_8:zA)(c7_0:Int)(c7_1:List Nat)(c7_2:Int)(c7_3:Bool)(c7_4:zA)(c7_5:Bool)(c7_6:zA)(c7_7:Int)(c7_8:zA)(h:qF E 68 (zg5 v0 v1 v2 c6_0 c6_1 c6_2 c6_3 c6_4 c6_5 c6_6 c6_7 c6_8 c7_0 c7_1 c7_2 c7_3 c7_4 c7_5 c7_6 c7_7 c7_8) m Q):pH E 68 2 [v0,v1,v2,(.int .u8 c6_0),(.str c6_1),(.int .u8 c6_2),(.bool c6_3),c6_4,(.bool c6_5),c6_6,(.int .i64 c6_7),c6_8,(.int .u8 c7_0),(.str c7_1),(.int .u8 c7_2),(.bool c7_3),c7_4,(.bool c7_5),c7_6,(.int .i64 c7_7),c7_8] m Q:=gJ (mF 68) h
def t69 (p0:zA):T:=
 .ite true (.heavy (cC yA 161 1 [(0,(.agg [(.str [97,110,100]),(.int .u8 15)]))]) fun a0=>
 .call 68 [p0,(.func (.func 96) [p0] []),a0] fun a1=>
 .asG [(.int .u8 0),(.str []),(.int .u8 0),(.bool false),.nilslice,(.bool false),.nilslice,(.int .i64 0),.nilslice] a1 fun X2=>
 .ite (fB zA.one [(.int .u8 (X2.i 0)),(.str (X2.s 1)),(.int .u8 (X2.i 2)),(.bool (X2.b 3)),(X2.v 4),(.bool (X2.b 5)),(X2.v 6),(.int .i64 (X2.i 7)),(X2.v 8)]) (.ret (.agg [(.int .u8 (X2.i 0)),(.str (X2.s 1)),(.int .u8 (X2.i 2)),(.bool (X2.b 3)),(X2.v 4),(.bool (X2.b 5)),(X2.v 6),(.int .i64 (X2.i 7)),(X2.v 8)])) .fail) .fail
def w69(p0:zA)(h:qF E 69 (t69 p0) m Q):iJ E 69 [p0] m Q:=gA (mF 69) h
def t73 (p0:zA):T:=
 .call 59 [p0,(.int .u8 3)] fun a0=>
 .asG [(.int .u8 0),(.str []),(.int .i64 0),(.int .i64 0)] a0 fun X1=>
 .call 97 [(.str (X1.s 1))] fun a2=>
 .opt (yH 0 a2) fun a3=>.asI .i64 a3 fun n4=>.opt (yH 1 a2) fun a5=>.asI .i64 a5 fun n6=>.ret (.int .i64 n4)
def w73(p0:zA)(h:qF E 73 (t73 p0) m Q):iJ E 73 [p0] m Q:=gA (mF 73) h
def t75 (p0:zA)(p1:Bool):T:=
 .opt (zG p0) fun a0=>.opt (kC yA 121 1 a0) fun a1=>.light (fun m=>mA yA 3 ⟨0,m⟩ a1) fun a2=>.asI .i64 a2 fun n3=>.call 59 [p0,(.int .u8 2)] fun a4=>
 .asG [(.int .u8 0),(.str []),(.int .i64 0),(.int .i64 0)] a4 fun X5=>
 .ite true (.opt (zG p0) fun a6=>.opt (kC yA 121 1 a6) fun a7=>.light (fun m=>mA yA 3 ⟨0,m⟩ a7) fun a8=>.asI .i64 a8 fun n9=>.call 72 [p0,(.str [100,97,121,115])] fun a10=>
 .asB a10 fun b11=>.ite b11
 (.jump 21 [p0,(.bool p1),(.int .i64 n3),(.int .u8 5),(.int .i64 n9),(.int .u8 0),(.bool false),.nilslice,(.bool false),.nilslice,(.int .i64 0),(.int .u8 (X5.i 0)),(.str (X5.s 1)),(.int .i64 (X5.i 2)),(.int .i64 (X5.i 3))])
 (.call 72 [p0,(.str [109,111,110,116,104,115])] fun a12=>
 .asB a12 fun b13=>.ite b13
 (.jump 21 [p0,(.bool p1),(.int .i64 n3),(.int .u8 6),(.int .i64 n9),(.int .u8 0),(.bool false),.nilslice,(.bool false),.nilslice,(.int .i64 0),(.int .u8 (X5.i 0)),(.str (X5.s 1)),(.int .i64 (X5.i 2)),(.int .i64 (X5.i 3))])
 (.call 74 [(.str (X5.s 1)),(.bool p1)] fun a14=>
 .asG [(.bool false),.nilslice,(.bool false),.nilslice] a14 fun X15=>
 .ite true (.ite (fB zA.one [(.int .u8 2),(.bool (X15.b 0)),(X15.v 1),(.bool (X15.b 2)),(X15.v 3),(.int .i64 0)]) (.ret (.agg [(.int .u8 2),(.bool (X15.b 0)),(X15.v 1),(.bool (X15.b 2)),(X15.v 3),(.int .i64 0)])) .fail) .fail))) .fail
def w75(p0:zA)(p1:Bool)(h:qF E 75 (t75 p0 p1) m Q):iJ E 75 [p0,(.bool p1)] m Q:=gA (mF 75) h
def zd5(v0:zA)(v1:Bool)(v5 v7 v8 c4_0:Int)(c4_1:Bool)(c4_2:zA)(c4_3:Bool)(c4_4:zA)(c4_5 c6_0:Int)(c6_1:List Nat)(c6_2 c6_3:Int):T:=
 .call 66 [(.str c6_1),(.str [47])] fun a0=>
 .asB a0 fun b1=>.ite b1
 (.opt (zG v0) fun a2=>.opt (kC yA 121 1 a2) fun a3=>.heavy (zC yA 3 a3 (.int .i64 v8)) fun _=>
 .call 48 [v0,(.int .i64 120)] fun a4=>
 .jump 27 [v0,(.bool v1),(.int .i64 v5),(.int .u8 v7),(.int .u8 c4_0),(.bool c4_1),c4_2,(.bool c4_3),c4_4,(.int .i64 c4_5),(.int .u8 c6_0),(.str c6_1),(.int .i64 c6_2),(.int .i64 c6_3)])
 (.jump 27 [v0,(.bool v1),(.int .i64 v5),(.int .u8 v7),(.int .u8 c4_0),(.bool c4_1),c4_2,(.bool c4_3),c4_4,(.int .i64 c4_5),(.int .u8 c6_0),(.str c6_1),(.int .i64 c6_2),(.int .i64 c6_3)])
def j75_21(v0:zA)(v1:Bool)(v5 v7 v8 c4_0:Int)(c4_1:Bool)(c4_2:zA)(c4_3:Bool)(c4_4:zA)(c4_5 c6_0:Int)(c6_1:List Nat)(c6_2 c6_3:Int)(h:qF E 75 (zd5 v0 v1 v5 v7 v8 c4_0 c4_1 c4_2 c4_3 c4_4 c4_5 c6_0 c6_1 c6_2 c6_3) m Q):pH E 75 21 [v0,(.bool v1),(.int .i64 v5),(.int .u8 v7),(.int .i64 v8),(.int .u8 c4_0),(.bool c4_1),c4_2,(.bool c4_3),c4_4,(.int .i64 c4_5),(.int .u8 c6_0),(.str c6_1),(.int .i64 c6_2),(.int .i64 c6_3)] m Q:=gJ (mF 75) h
def zd4(v0:zA)(v1:Bool)(v5 v7 c4_0:Int)(c4_1:Bool)(c4_2:zA)(c4_3:Bool)(c4_4:zA)(c4_5 c6_0:Int)(c6_1:List Nat)(c6_2 c6_3:Int):T:=
 .call 102 [(.str c6_1),(.bool v1),(.int .i64 (-1048576)),(.int .i64 1048576)] fun a0=>
 .opt (yH 0 a0) fun a1=>.asI .i64 a1 fun n2=>.opt (yH 1 a0) fun a3=>.asB a3 fun b4=>.ite (!b4)
 (.opt (zG v0) fun a5=>.opt (kC yA 121 1 a5) fun a6=>.heavy (zC yA 3 a6 (.int .i64 v5)) fun _=>
 .call 48 [v0,(.int .i64 121)] fun a7=>
 .ite true (.ite true (.ret (.agg [(.int .u8 v7),(.bool false),.nilslice,(.bool false),.nilslice,(.int .i64 n2)])) .fail) .fail)
 (.ite true (.ite true (.ret (.agg [(.int .u8 v7),(.bool false),.nilslice,(.bool false),.nilslice,(.int .i64 n2)])) .fail) .fail)
def j75_27(v0:zA)(v1:Bool)(v5 v7 c4_0:Int)(c4_1:Bool)(c4_2:zA)(c4_3:Bool)(c4_4:zA)(c4_5 c6_0:Int)(c6_1:List Nat)(c6_2 c6_3:Int)(h:qF E 75 (zd4 v0 v1 v5 v7 c4_0 c4_1 c4_2 c4_3 c4_4 c4_5 c6_0 c6_1 c6_2 c6_3) m Q):pH E 75 27 [v0,(.bool v1),(.int .i64 v5),(.int .u8 v7),(.int .u8 c4_0),(.bool c4_1),c4_2,(.bool c4_3),c4_4,(.int .i64 c4_5),(.int .u8 c6_0),(.str c6_1),(.int .i64 c6_2),(.int .i64 c6_3)] m Q:=gJ (mF 75) h
def t89 (p0:zA)(p1:Bool):T:=
 .call 58 [p0] fun a0=>
 .asS a0 fun s1=>.call 110 [p0,(.int .u8 1),(.int .u8 6),(.func (.func 111) [] [])] fun a2=>
 .asI .u8 a2 fun n3=>.ite true (.ite true (.ret (.agg [(.str s1),(.int .u8 n3),(.bool p1)])) .fail) .fail
def w89(p0:zA)(p1:Bool)(h:qF E 89 (t89 p0 p1) m Q):iJ E 89 [p0,(.bool p1)] m Q:=gA (mF 89) h
def t90 (p0:zA)(p1:Bool):T:=
 .call 112 [p0] fun a0=>
 .asI .i64 a0 fun n1=>.ite true (.ite p1
 (.call 112 [p0] fun a2=>
 .asI .i64 a2 fun n3=>.ite true (.jump 11 [p0,(.int .i64 0),(.int .i64 0),(.int .i64 0),(.bool false),.nilslice,(.bool false),.nilslice,(.int .i64 n1),(.int .i64 n3),(.int .i64 0),(.bool false),.nilslice,(.bool false),.nilslice]) .fail)
 (.jump 11 [p0,(.int .i64 0),(.int .i64 0),(.int .i64 0),(.bool false),.nilslice,(.bool false),.nilslice,(.int .i64 n1),(.int .i64 0),(.int .i64 0),(.bool false),.nilslice,(.bool false),.nilslice])) .fail
def w90(p0:zA)(p1:Bool)(h:qF E 90 (t90 p0 p1) m Q):iJ E 90 [p0,(.bool p1)] m Q:=gA (mF 90) h
def zd2(v0:zA)(c4_0 c4_1 c4_2:Int)(c4_3:Bool)(c4_4:zA)(c4_5:Bool)(c4_6:zA)(c5_0 c5_1 c5_2:Int)(c5_3:Bool)(c5_4:zA)(c5_5:Bool)(c5_6:zA):T:=
 .heavy (cC yA 93 1 [(0,(.str [107,110,111,119,110]))]) fun a0=>
 .call 57 [v0,a0] fun a1=>
 .call 73 [v0] fun a2=>
 .asI .i64 a2 fun n3=>.ite true (.heavy (cC yA 93 1 [(0,(.str [105,115]))]) fun a4=>
 .call 57 [v0,a4] fun a5=>
 .call 72 [v0,(.str [109,105,110,117,115])] fun a6=>
 .asB a6 fun b7=>.call 59 [v0,(.int .u8 2)] fun a8=>
 .asG [(.int .u8 0),(.str []),(.int .i64 0),(.int .i64 0)] a8 fun X9=>
 .call 74 [(.str (X9.s 1)),(.bool b7)] fun a10=>
 .asG [(.bool false),.nilslice,(.bool false),.nilslice] a10 fun X11=>
 .ite (fB zA.one [(.bool (X11.b 0)),(X11.v 1),(.bool (X11.b 2)),(X11.v 3)]) (.ite (fB zA.one [(.int .i64 c5_0),(.int .i64 c5_1),(.int .i64 n3),(.bool (X11.b 0)),(X11.v 1),(.bool (X11.b 2)),(X11.v 3)]) (.ret (.agg [(.int .i64 c5_0),(.int .i64 c5_1),(.int .i64 n3),(.bool (X11.b 0)),(X11.v 1),(.bool (X11.b 2)),(X11.v 3)])) .fail) .fail) .fail
def j90_11(v0:zA)(c4_0 c4_1 c4_2:Int)(c4_3:Bool)(c4_4:zA)(c4_5:Bool)(c4_6:zA)(c5_0 c5_1 c5_2:Int)(c5_3:Bool)(c5_4:zA)(c5_5:Bool)(c5_6:zA)(h:qF E 90 (zd2 v0 c4_0 c4_1 c4_2 c4_3 c4_4 c4_5 c4_6 c5_0 c5_1 c5_2 c5_3 c5_4 c5_5 c5_6) m Q):pH E 90 11 [v0,(.int .i64 c4_0),(.int .i64 c4_1),(.int .i64 c4_2),(.bool c4_3),c4_4,(.bool c4_5),c4_6,(.int .i64 c5_0),(.int .i64 c5_1),(.int .i64 c5_2),(.bool c5_3),c5_4,(.bool c5_5),c5_6] m Q:=gJ (mF 90) h
def t91 (p0:zA):T:=
 .ite true (.ite true (.call 58 [p0] fun a0=>
 .asS a0 fun s1=>.ite true (.call 58 [p0] fun a2=>
 .asS a2 fun s3=>.ite true (.heavy (cC yA 93 1 [(0,(.str [102,114,111,109]))]) fun a4=>
 .call 57 [p0,a4] fun a5=>
 .call 73 [p0] fun a6=>
 .asI .i64 a6 fun n7=>.ite true (.heavy (cC yA 93 1 [(0,(.str [116,111]))]) fun a8=>
 .call 57 [p0,a8] fun a9=>
 .call 72 [p0,(.str [101,110,100])] fun a10=>
 .asB a10 fun b11=>.ite (!b11)
 (.call 73 [p0] fun a12=>
 .asI .i64 a12 fun n13=>.ite true (.jump 19 [p0,(.str []),(.str []),(.int .i64 0),(.int .i64 0),(.int .i64 0),(.bool false),(.int .u8 0),(.str []),(.int .u8 0),(.bool false),.nilslice,(.bool false),.nilslice,(.int .i64 0),.nilslice,(.int .u8 0),(.str []),(.int .u8 0),(.bool false),.nilslice,(.bool false),.nilslice,(.int .i64 0),.nilslice,(.str s1),(.str s3),(.int .i64 n7),(.int .i64 n13),(.int .i64 0),(.bool false),(.int .u8 0),(.str []),(.int .u8 0),(.bool false),.nilslice,(.bool false),.nilslice,(.int .i64 0),.nilslice,(.int .u8 0),(.str []),(.int .u8 0),(.bool false),.nilslice,(.bool false),.nilslice,(.int .i64 0),.nilslice]) .fail)
 (.jump 19 [p0,(.str []),(.str []),(.int .i64 0),(.int .i64 0),(.int .i64 0),(.bool false),(.int .u8 0),(.str []),(.int .u8 0),(.bool false),.nilslice,(.bool false),.nilslice,(.int .i64 0),.nilslice,(.int .u8 0),(.str []),(.int .u8 0),(.bool false),.nilslice,(.bool false),.nilslice,(.int .i64 0),.nilslice,(.str s1),(.str s3),(.int .i64 n7),(.int .i64 65536),(.int .i64 0),(.bool false),(.int .u8 0),(.str []),(.int .u8 0),(.bool false),.nilslice,(.bool false),.nilslice,(.int .i64 0),.nilslice,(.int .u8 0),(.str []),(.int .u8 0),(.bool false),.nilslice,(.bool false),.nilslice,(.int .i64 0),.nilslice])) .fail) .fail) .fail) .fail) .fail
def w91(p0:zA)(h:qF E 91 (t91 p0) m Q):iJ E 91 [p0] m Q:=gA (mF 91) h
def zd1(v0:zA)(c2_0 c2_1:List Nat)(c2_2 c2_3 c2_4:Int)(c2_5:Bool)(c2_6:Int)(c2_7:List Nat)(c2_8:Int)(c2_9:Bool)(c2_10:zA)(c2_11:Bool)(c2_12:zA)(c2_13:Int)(c2_14:zA)(c2_15:Int)(c2_16:List Nat)(c2_17:Int)(c2_18:Bool)(c2_19:zA)(c2_20:Bool)(c2_21:zA)(c2_22:Int)(c2_23:zA)(c3_0 c3_1:List Nat)(c3_2 c3_3 c3_4:Int)(c3_5:Bool)(c3_6:Int)(c3_7:List Nat)(c3_8:Int)(c3_9:Bool)(c3_10:zA)(c3_11:Bool)(c3_12:zA)(c3_13:Int)(c3_14:zA)(c3_15:Int)(c3_16:List Nat)(c3_17:Int)(c3_18:Bool)(c3_19:zA)(c3_20:Bool)(c3_21:zA)(c3_22:Int)(c3_23:zA):T:=
 .heavy (cC yA 93 1 [(0,(.str [107,110,111,119,110]))]) fun a0=>
 .call 57 [v0,a0] fun a1=>
 .call 73 [v0] fun a2=>
 .asI .i64 a2 fun n3=>.ite true (.call 72 [v0,(.str [111,102,102])] fun a4=>
 .asB a4 fun b5=>.ite b5
 (.ite true (.ite (fB zA.one [(.str c3_0),(.str c3_1),(.int .i64 c3_2),(.int .i64 c3_3),(.int .i64 n3),(.bool true),(.int .u8 c3_6),(.str c3_7),(.int .u8 c3_8),(.bool c3_9),c3_10,(.bool c3_11),c3_12,(.int .i64 c3_13),c3_14,(.int .u8 c3_15),(.str c3_16),(.int .u8 c3_17),(.bool c3_18),c3_19,(.bool c3_20),c3_21,(.int .i64 c3_22),c3_23]) (.ret (.agg [(.str c3_0),(.str c3_1),(.int .i64 c3_2),(.int .i64 c3_3),(.int .i64 n3),(.bool true),(.int .u8 c3_6),(.str c3_7),(.int .u8 c3_8),(.bool c3_9),c3_10,(.bool c3_11),c3_12,(.int .i64 c3_13),c3_14,(.int .u8 c3_15),(.str c3_16),(.int .u8 c3_17),(.bool c3_18),c3_19,(.bool c3_20),c3_21,(.int .i64 c3_22),c3_23])) .fail) .fail)
 (.heavy (cC yA 93 1 [(0,(.str [119,104,101,110]))]) fun a6=>
 .call 57 [v0,a6] fun a7=>
 .call 42 [v0] fun a8=>
 .asG [(.int .u8 0),(.str []),(.int .u8 0),(.bool false),.nilslice,(.bool false),.nilslice,(.int .i64 0),.nilslice] a8 fun X9=>
 .ite (fB zA.one [(.int .u8 (X9.i 0)),(.str (X9.s 1)),(.int .u8 (X9.i 2)),(.bool (X9.b 3)),(X9.v 4),(.bool (X9.b 5)),(X9.v 6),(.int .i64 (X9.i 7)),(X9.v 8)]) (.heavy (cC yA 93 1 [(0,(.str [116,104,101,110]))]) fun a10=>
 .call 57 [v0,a10] fun a11=>
 .call 42 [v0] fun a12=>
 .asG [(.int .u8 0),(.str []),(.int .u8 0),(.bool false),.nilslice,(.bool false),.nilslice,(.int .i64 0),.nilslice] a12 fun X13=>
 .ite (fB zA.one [(.int .u8 (X13.i 0)),(.str (X13.s 1)),(.int .u8 (X13.i 2)),(.bool (X13.b 3)),(X13.v 4),(.bool (X13.b 5)),(X13.v 6),(.int .i64 (X13.i 7)),(X13.v 8)]) (.ite (fB zA.one [(.str c3_0),(.str c3_1),(.int .i64 c3_2),(.int .i64 c3_3),(.int .i64 n3),(.bool c3_5),(.int .u8 (X9.i 0)),(.str (X9.s 1)),(.int .u8 (X9.i 2)),(.bool (X9.b 3)),(X9.v 4),(.bool (X9.b 5)),(X9.v 6),(.int .i64 (X9.i 7)),(X9.v 8),(.int .u8 (X13.i 0)),(.str (X13.s 1)),(.int .u8 (X13.i 2)),(.bool (X13.b 3)),(X13.v 4),(.bool (X13.b 5)),(X13.v 6),(.int .i64 (X13.i 7)),(X13.v 8)]) (.ret (.agg [(.str c3_0),(.str c3_1),(.int .i64 c3_2),(.int .i64 c3_3),(.int .i64 n3),(.bool c3_5),(.int .u8 (X9.i 0)),(.str (X9.s 1)),(.int .u8 (X9.i 2)),(.bool (X9.b 3)),(X9.v 4),(.bool (X9.b 5)),(X9.v 6),(.int .i64 (X9.i 7)),(X9.v 8),(.int .u8 (X13.i 0)),(.str (X13.s 1)),(.int .u8 (X13.i 2)),(.bool (X13.b 3)),(X13.v 4),(.bool (X13.b 5)),(X13.v 6),(.int .i64 (X13.i 7)),(X13.v 8)])) .fail) .fail) .fail)) .fail
def j91_19(v0:zA)(c2_0 c2_1:List Nat)(c2_2 c2_3 c2_4:Int)(c2_5:Bool)(c2_6:Int)(c2_7:List Nat)(c2_8:Int)(c2_9:Bool)(c2_10:zA)(c2_11:Bool)(c2_12:zA)(c2_13:Int)(c2_14:zA)(c2_15:Int)(c2_16:List Nat)(c2_17:Int)(c2_18:Bool)(c2_19:zA)(c2_20:Bool)(c2_21:zA)(c2_22:Int)(c2_23:zA)(c3_0 c3_1:List Nat)(c3_2 c3_3 c3_4:Int)(c3_5:Bool)(c3_6:Int)(c3_7:List Nat)(c3_8:Int)(c3_9:Bool)(c3_10:zA)(c3_11:Bool)(c3_12:zA)(c3_13:Int)(c3_14:zA)(c3_15:Int)(c3_16:List Nat)(c3_17:Int)(c3_18:Bool)(c3_19:zA)(c3_20:Bool)(c3_21:zA)(c3_22:Int)(c3_23:zA)(h:qF E 91 (zd1 v0 c2_0 c2_1 c2_2 c2_3 c2_4 c2_5 c2_6 c2_7 c2_8 c2_9 c2_10 c2_11 c2_12 c2_13 c2_14 c2_15 c2_16 c2_17 c2_18 c2_19 c2_20 c2_21 c2_22 c2_23 c3_0 c3_1 c3_2 c3_3 c3_4 c3_5 c3_6 c3_7 c3_8 c3_9 c3_10 c3_11 c3_12 c3_13 c3_14 c3_15 c3_16 c3_17 c3_18 c3_19 c3_20 c3_21 c3_22 c3_23) m Q):pH E 91 19 [v0,(.str c2_0),(.str c2_1),(.int .i64 c2_2),(.int .i64 c2_3),(.int .i64 c2_4),(.bool c2_5),(.int .u8 c2_6),(.str c2_7),(.int .u8 c2_8),(.bool c2_9),c2_10,(.bool c2_11),c2_12,(.int .i64 c2_13),c2_14,(.int .u8 c2_15),(.str c2_16),(.int .u8 c2_17),(.bool c2_18),c2_19,(.bool c2_20),c2_21,(.int .i64 c2_22),c2_23,(.str c3_0),(.str c3_1),(.int .i64 c3_2),(.int .i64 c3_3),(.int .i64 c3_4),(.bool c3_5),(.int .u8 c3_6),(.str c3_7),(.int .u8 c3_8),(.bool c3_9),c3_10,(.bool c3_11),c3_12,(.int .i64 c3_13),c3_14,(.int .u8 c3_15),(.str c3_16),(.int .u8 c3_17),(.bool c3_18),c3_19,(.bool c3_20),c3_21,(.int .i64 c3_22),c3_23] m Q:=gJ (mF 91) h
def t96 (p0:zA):T:=
 .jump 2 [p0,(.int .i64 0),(.int .u8 0),(.str []),(.int .u8 0),(.bool false),.nilslice,(.bool false),.nilslice,(.int .i64 0),.nilslice]
def w96(p0:zA)(h:qF E 96 (t96 p0) m Q):iJ E 96 [p0] m Q:=gA (mF 96) h
def zg2(v0:zA)(v3 c2_0:Int)(c2_1:List Nat)(c2_2:Int)(c2_3:Bool)(c2_4:zA)(c2_5:Bool)(c2_6:zA)(c2_7:Int)(c2_8:zA):T:=
 .call 72 [v0,(.str [110,111,116])] fun a0=>
 .asB a0 fun b1=>.ite b1
 (.jump 2 [v0,(.int .i64 (cA .i64 (v3+1))),(.int .u8 c2_0),(.str c2_1),(.int .u8 c2_2),(.bool c2_3),c2_4,(.bool c2_5),c2_6,(.int .i64 c2_7),c2_8])
 (.call 117 [v0] fun a2=>
 .asG [(.int .u8 0),(.str []),(.int .u8 0),(.bool false),.nilslice,(.bool false),.nilslice,(.int .i64 0),.nilslice] a2 fun X3=>
 .ite (fB zA.one [(.int .u8 (X3.i 0)),(.str (X3.s 1)),(.int .u8 (X3.i 2)),(.bool (X3.b 3)),(X3.v 4),(.bool (X3.b 5)),(X3.v 6),(.int .i64 (X3.i 7)),(X3.v 8)]) (.jump 6 [(.int .i64 v3),(.int .u8 c2_0),(.str c2_1),(.int .u8 c2_2),(.bool c2_3),c2_4,(.bool c2_5),c2_6,(.int .i64 c2_7),c2_8,(.int .u8 (X3.i 0)),(.str (X3.s 1)),(.int .u8 (X3.i 2)),(.bool (X3.b 3)),(X3.v 4),(.bool (X3.b 5)),(X3.v 6),(.int .i64 (X3.i 7)),(X3.v 8)]) .fail)
def j96_2(v0:zA)(v3 c2_0:Int)(c2_1:List Nat)(c2_2:Int)(c2_3:Bool)(c2_4:zA)(c2_5:Bool)(c2_6:zA)(c2_7:Int)(c2_8:zA)(h:qF E 96 (zg2 v0 v3 c2_0 c2_1 c2_2 c2_3 c2_4 c2_5 c2_6 c2_7 c2_8) m Q):pH E 96 2 [v0,(.int .i64 v3),(.int .u8 c2_0),(.str c2_1),(.int .u8 c2_2),(.bool c2_3),c2_4,(.bool c2_5),c2_6,(.int .i64 c2_7),c2_8] m Q:=gJ (mF 96) h
def zg1(v3 c2_0:Int)(c2_1:List Nat)(c2_2:Int)(c2_3:Bool)(c2_4:zA)(c2_5:Bool)(c2_6:zA)(c2_7:Int)(c2_8:zA)(c4_0:Int)(c4_1:List Nat)(c4_2:Int)(c4_3:Bool)(c4_4:zA)(c4_5:Bool)(c4_6:zA)(c4_7:Int)(c4_8:zA):T:=
 .ite (iB 0 v3)
 (.heavy (cC yA 48 1 [(0,(.agg [(.int .u8 c4_0),(.str c4_1),(.int .u8 c4_2),(.bool c4_3),c4_4,(.bool c4_5),c4_6,(.int .i64 c4_7),c4_8]))]) fun a0=>
 .ite (fB zA.one [(.int .u8 17),a0]) (.ite (fB zA.one [(.int .u8 17),(.str []),(.int .u8 0),(.bool false),.nilslice,(.bool false),.nilslice,(.int .i64 0),a0]) (.jump 6 [(.int .i64 (cA .i64 (v3-1))),(.int .u8 c2_0),(.str c2_1),(.int .u8 c2_2),(.bool c2_3),c2_4,(.bool c2_5),c2_6,(.int .i64 c2_7),c2_8,(.int .u8 17),(.str []),(.int .u8 0),(.bool false),.nilslice,(.bool false),.nilslice,(.int .i64 0),a0]) .fail) .fail)
 (.ite (fB zA.one [(.int .u8 c4_0),(.str c4_1),(.int .u8 c4_2),(.bool c4_3),c4_4,(.bool c4_5),c4_6,(.int .i64 c4_7),c4_8]) (.ret (.agg [(.int .u8 c4_0),(.str c4_1),(.int .u8 c4_2),(.bool c4_3),c4_4,(.bool c4_5),c4_6,(.int .i64 c4_7),c4_8])) .fail)
def j96_6(v3 c2_0:Int)(c2_1:List Nat)(c2_2:Int)(c2_3:Bool)(c2_4:zA)(c2_5:Bool)(c2_6:zA)(c2_7:Int)(c2_8:zA)(c4_0:Int)(c4_1:List Nat)(c4_2:Int)(c4_3:Bool)(c4_4:zA)(c4_5:Bool)(c4_6:zA)(c4_7:Int)(c4_8:zA)(h:qF E 96 (zg1 v3 c2_0 c2_1 c2_2 c2_3 c2_4 c2_5 c2_6 c2_7 c2_8 c4_0 c4_1 c4_2 c4_3 c4_4 c4_5 c4_6 c4_7 c4_8) m Q):pH E 96 6 [(.int .i64 v3),(.int .u8 c2_0),(.str c2_1),(.int .u8 c2_2),(.bool c2_3),c2_4,(.bool c2_5),c2_6,(.int .i64 c2_7),c2_8,(.int .u8 c4_0),(.str c4_1),(.int .u8 c4_2),(.bool c4_3),c4_4,(.bool c4_5),c4_6,(.int .i64 c4_7),c4_8] m Q:=gJ (mF 96) h
def t110 (p0:zA)(p1 p2:Int)(p3:zA):T:=
 .jump 2 [p0,(.int .u8 p2),p3,(.int .u8 p1)]
def w110(p0:zA)(p1 p2:Int)(p3:zA)(h:qF E 110 (t110 p0 p1 p2 p3) m Q):iJ E 110 [p0,(.int .u8 p1),(.int .u8 p2),p3] m Q:=gA (mF 110) h
def Vp(v0:zA)(v2:Int)(v3:zA)(v9:Int):T:=
 .ite (bG v9 v2)
 (.callv v3 [(.int .u8 v9)] fun a0=>
 .asS a0 fun s1=>.call 72 [v0,(.str s1)] fun a2=>
 .asB a2 fun b3=>.ite b3
 (.ret (.int .u8 v9))
 (.jump 2 [v0,(.int .u8 v2),v3,(.int .u8 (cA .u8 (v9+1)))]))
 (.call 48 [v0,(.int .i64 120)] fun a4=>
 .ret (.int .u8 0))
def zfj(v0:zA)(v2:Int)(v3:zA)(v9:Int)(h:qF E 110 (Vp v0 v2 v3 v9) m Q):pH E 110 2 [v0,(.int .u8 v2),v3,(.int .u8 v9)] m Q:=gJ (mF 110) h
def t112 (p0:zA):T:=
 .call 72 [p0,(.str [109,105,110,117,115])] fun a0=>
 .asB a0 fun b1=>.call 71 [p0] fun a2=>
 .asG [(.int .u8 0),(.str []),(.int .i64 0),(.int .i64 0)] a2 fun X3=>
 .ite true (.ite (!tC (X3.i 0) 2)
 (.call 48 [p0,(.int .i64 120)] fun a4=>
 .jump 11 [p0,(.bool b1),(.int .u8 (X3.i 0)),(.str (X3.s 1)),(.int .i64 (X3.i 2)),(.int .i64 (X3.i 3))])
 (.call 66 [(.str (X3.s 1)),(.str [47])] fun a5=>
 .asB a5 fun b6=>.ite b6
 (.call 48 [p0,(.int .i64 120)] fun a7=>
 .jump 11 [p0,(.bool b1),(.int .u8 (X3.i 0)),(.str (X3.s 1)),(.int .i64 (X3.i 2)),(.int .i64 (X3.i 3))])
 (.jump 11 [p0,(.bool b1),(.int .u8 (X3.i 0)),(.str (X3.s 1)),(.int .i64 (X3.i 2)),(.int .i64 (X3.i 3))]))) .fail
def w112(p0:zA)(h:qF E 112 (t112 p0) m Q):iJ E 112 [p0] m Q:=gA (mF 112) h
def DB(v0:zA)(v3:Bool)(c4_0:Int)(c4_1:List Nat)(c4_2 c4_3:Int):T:=
 .call 102 [(.str c4_1),(.bool v3),(.int .i64 (-2147483648)),(.int .i64 2147483647)] fun a0=>
 .opt (yH 0 a0) fun a1=>.asI .i64 a1 fun n2=>.opt (yH 1 a0) fun a3=>.asB a3 fun b4=>.ite (!b4)
 (.call 48 [v0,(.int .i64 121)] fun a5=>
 .jump 17 [v0,(.int .i64 n2)])
 (.jump 17 [v0,(.int .i64 n2)])
def zio(v0:zA)(v3:Bool)(c4_0:Int)(c4_1:List Nat)(c4_2 c4_3:Int)(h:qF E 112 (DB v0 v3 c4_0 c4_1 c4_2 c4_3) m Q):pH E 112 11 [v0,(.bool v3),(.int .u8 c4_0),(.str c4_1),(.int .i64 c4_2),(.int .i64 c4_3)] m Q:=gJ (mF 112) h
def DA(v0:zA)(v5:Int):T:=
 .opt (zG v0) fun a0=>.opt (kC yA 121 1 a0) fun a1=>.light (fun m=>mA yA 3 ⟨0,m⟩ a1) fun a2=>.asI .i64 a2 fun n3=>.opt (zG v0) fun a4=>.opt (kC yA 121 1 a4) fun a5=>.heavy (zC yA 3 a5 (.int .i64 (cA .i64 (n3+1)))) fun _=>
 .ret (.int .i64 v5)
def zin(v0:zA)(v5:Int)(h:qF E 112 (DA v0 v5) m Q):pH E 112 17 [v0,(.int .i64 v5)] m Q:=gJ (mF 112) h
def t117 (p0:zA):T:=
 .call 135 [p0] fun a0=>
 .asG [(.int .u8 0),(.str []),(.int .u8 0),(.bool false),.nilslice,(.bool false),.nilslice,(.int .i64 0),.nilslice] a0 fun X1=>
 .ite (fB zA.one [(.int .u8 (X1.i 0)),(.str (X1.s 1)),(.int .u8 (X1.i 2)),(.bool (X1.b 3)),(X1.v 4),(.bool (X1.b 5)),(X1.v 6),(.int .i64 (X1.i 7)),(X1.v 8)]) (.ite true (.ite true (.heavy (cC yA 161 2 [(0,(.agg [(.str [60]),(.int .u8 13)])),(1,(.agg [(.str [61]),(.int .u8 14)]))]) fun a2=>
 .call 95 [p0,a2] fun a3=>
 .opt (yH 0 a3) fun a4=>.asI .u8 a4 fun n5=>.opt (yH 1 a3) fun a6=>.asB a6 fun b7=>.ite (!b7)
 (.ite (fB zA.one [(.int .u8 (X1.i 0)),(.str (X1.s 1)),(.int .u8 (X1.i 2)),(.bool (X1.b 3)),(X1.v 4),(.bool (X1.b 5)),(X1.v 6),(.int .i64 (X1.i 7)),(X1.v 8)]) (.ret (.agg [(.int .u8 (X1.i 0)),(.str (X1.s 1)),(.int .u8 (X1.i 2)),(.bool (X1.b 3)),(X1.v 4),(.bool (X1.b 5)),(X1.v 6),(.int .i64 (X1.i 7)),(X1.v 8)])) .fail)
 (.call 135 [p0] fun a8=>
 .asG [(.int .u8 0),(.str []),(.int .u8 0),(.bool false),.nilslice,(.bool false),.nilslice,(.int .i64 0),.nilslice] a8 fun X9=>
 .ite (fB zA.one [(.int .u8 (X9.i 0)),(.str (X9.s 1)),(.int .u8 (X9.i 2)),(.bool (X9.b 3)),(X9.v 4),(.bool (X9.b 5)),(X9.v 6),(.int .i64 (X9.i 7)),(X9.v 8)]) (.heavy (cC yA 48 2 [(0,(.agg [(.int .u8 (X1.i 0)),(.str (X1.s 1)),(.int .u8 (X1.i 2)),(.bool (X1.b 3)),(X1.v 4),(.bool (X1.b 5)),(X1.v 6),(.int .i64 (X1.i 7)),(X1.v 8)])),(1,(.agg [(.int .u8 (X9.i 0)),(.str (X9.s 1)),(.int .u8 (X9.i 2)),(.bool (X9.b 3)),(X9.v 4),(.bool (X9.b 5)),(X9.v 6),(.int .i64 (X9.i 7)),(X9.v 8)]))]) fun a10=>
 .ite (fB zA.one [(.int .u8 n5),a10]) (.ite (fB zA.one [(.int .u8 n5),(.str []),(.int .u8 0),(.bool false),.nilslice,(.bool false),.nilslice,(.int .i64 0),a10]) (.ret (.agg [(.int .u8 n5),(.str []),(.int .u8 0),(.bool false),.nilslice,(.bool false),.nilslice,(.int .i64 0),a10])) .fail) .fail) .fail)) .fail) .fail) .fail
def w117(p0:zA)(h:qF E 117 (t117 p0) m Q):iJ E 117 [p0] m Q:=gA (mF 117) h
def t135 (p0:zA):T:=
 .ite true (.ite true (.heavy (cC yA 161 2 [(0,(.agg [(.str [43]),(.int .u8 7)])),(1,(.agg [(.str [45]),(.int .u8 8)]))]) fun a0=>
 .call 68 [p0,(.func (.func 151) [p0] []),a0] fun a1=>
 .asG [(.int .u8 0),(.str []),(.int .u8 0),(.bool false),.nilslice,(.bool false),.nilslice,(.int .i64 0),.nilslice] a1 fun X2=>
 .ite (fB zA.one [(.int .u8 (X2.i 0)),(.str (X2.s 1)),(.int .u8 (X2.i 2)),(.bool (X2.b 3)),(X2.v 4),(.bool (X2.b 5)),(X2.v 6),(.int .i64 (X2.i 7)),(X2.v 8)]) (.ret (.agg [(.int .u8 (X2.i 0)),(.str (X2.s 1)),(.int .u8 (X2.i 2)),(.bool (X2.b 3)),(X2.v 4),(.bool (X2.b 5)),(X2.v 6),(.int .i64 (X2.i 7)),(X2.v 8)])) .fail) .fail) .fail
def w135(p0:zA)(h:qF E 135 (t135 p0) m Q):iJ E 135 [p0] m Q:=gA (mF 135) h
def t151 (p0:zA):T:=
 .ite true (.ite true (.heavy (cC yA 161 2 [(0,(.agg [(.str [42]),(.int .u8 9)])),(1,(.agg [(.str [47]),(.int .u8 10)]))]) fun a0=>
 .call 68 [p0,(.func (.func 161) [p0] []),a0] fun a1=>
 .asG [(.int .u8 0),(.str []),(.int .u8 0),(.bool false),.nilslice,(.bool false),.nilslice,(.int .i64 0),.nilslice] a1 fun X2=>
 .ite (fB zA.one [(.int .u8 (X2.i 0)),(.str (X2.s 1)),(.int .u8 (X2.i 2)),(.bool (X2.b 3)),(X2.v 4),(.bool (X2.b 5)),(X2.v 6),(.int .i64 (X2.i 7)),(X2.v 8)]) (.ret (.agg [(.int .u8 (X2.i 0)),(.str (X2.s 1)),(.int .u8 (X2.i 2)),(.bool (X2.b 3)),(X2.v 4),(.bool (X2.b 5)),(X2.v 6),(.int .i64 (X2.i 7)),(X2.v 8)])) .fail) .fail) .fail
def w151(p0:zA)(h:qF E 151 (t151 p0) m Q):iJ E 151 [p0] m Q:=gA (mF 151) h
def t161 (p0:zA):T:=
 .opt (zG p0) fun a0=>.opt (kC yA 121 2 a0) fun a1=>.light (fun m=>mA yA 3 ⟨0,m⟩ a1) fun a2=>.asI .i64 a2 fun n3=>.ite (iB 100 n3)
 (.call 48 [p0,(.int .i64 122)] fun a4=>
 .jump 7 [p0,(.int .u8 0),(.str []),(.int .u8 0),(.bool false),.nilslice,(.bool false),.nilslice,(.int .i64 0),.nilslice])
 (.jump 7 [p0,(.int .u8 0),(.str []),(.int .u8 0),(.bool false),.nilslice,(.bool false),.nilslice,(.int .i64 0),.nilslice])
def w161(p0:zA)(h:qF E 161 (t161 p0) m Q):iJ E 161 [p0] m Q:=gA (mF 161) h
def zee(v0:zA)(c2_0:Int)(c2_1:List Nat)(c2_2:Int)(c2_3:Bool)(c2_4:zA)(c2_5:Bool)(c2_6:zA)(c2_7:Int)(c2_8:zA):T:=
 .opt (zG v0) fun a0=>.opt (kC yA 121 2 a0) fun a1=>.light (fun m=>mA yA 3 ⟨0,m⟩ a1) fun a2=>.asI .i64 a2 fun n3=>.opt (zG v0) fun a4=>.opt (kC yA 121 2 a4) fun a5=>.heavy (zC yA 3 a5 (.int .i64 (cA .i64 (n3+1)))) fun _=>
 .call 168 [v0] fun a6=>
 .asG [(.int .u8 0),(.str []),(.int .u8 0),(.bool false),.nilslice,(.bool false),.nilslice,(.int .i64 0),.nilslice] a6 fun X7=>
 .ite (fB zA.one [(.int .u8 (X7.i 0)),(.str (X7.s 1)),(.int .u8 (X7.i 2)),(.bool (X7.b 3)),(X7.v 4),(.bool (X7.b 5)),(X7.v 6),(.int .i64 (X7.i 7)),(X7.v 8)]) (.opt (zG v0) fun a8=>.opt (kC yA 121 2 a8) fun a9=>.light (fun m=>mA yA 3 ⟨0,m⟩ a9) fun a10=>.asI .i64 a10 fun n11=>.opt (zG v0) fun a12=>.opt (kC yA 121 2 a12) fun a13=>.heavy (zC yA 3 a13 (.int .i64 (cA .i64 (n11-1)))) fun _=>
 .ite (fB zA.one [(.int .u8 (X7.i 0)),(.str (X7.s 1)),(.int .u8 (X7.i 2)),(.bool (X7.b 3)),(X7.v 4),(.bool (X7.b 5)),(X7.v 6),(.int .i64 (X7.i 7)),(X7.v 8)]) (.ret (.agg [(.int .u8 (X7.i 0)),(.str (X7.s 1)),(.int .u8 (X7.i 2)),(.bool (X7.b 3)),(X7.v 4),(.bool (X7.b 5)),(X7.v 6),(.int .i64 (X7.i 7)),(X7.v 8)])) .fail) .fail
def j161_7(v0:zA)(c2_0:Int)(c2_1:List Nat)(c2_2:Int)(c2_3:Bool)(c2_4:zA)(c2_5:Bool)(c2_6:zA)(c2_7:Int)(c2_8:zA)(h:qF E 161 (zee v0 c2_0 c2_1 c2_2 c2_3 c2_4 c2_5 c2_6 c2_7 c2_8) m Q):pH E 161 7 [v0,(.int .u8 c2_0),(.str c2_1),(.int .u8 c2_2),(.bool c2_3),c2_4,(.bool c2_5),c2_6,(.int .i64 c2_7),c2_8] m Q:=gJ (mF 161) h
def t168 (p0:zA):T:=
 .call 47 [p0] fun a0=>
 .opt (yH 0 a0) fun a1=>.asG [(.int .u8 0),(.bool false),.nilslice,(.bool false),.nilslice,(.int .i64 0)] a1 fun X2=>
 .opt (yH 1 a0) fun a3=>.asB a3 fun b4=>.ite (fB zA.one [(.int .u8 (X2.i 0)),(.bool (X2.b 1)),(X2.v 2),(.bool (X2.b 3)),(X2.v 4),(.int .i64 (X2.i 5))]) (.ite b4
 (.ite true (.ite (fB zA.one [(.int .u8 1),(.str []),(.int .u8 (X2.i 0)),(.bool (X2.b 1)),(X2.v 2),(.bool (X2.b 3)),(X2.v 4),(.int .i64 (X2.i 5)),.nilslice]) (.ret (.agg [(.int .u8 1),(.str []),(.int .u8 (X2.i 0)),(.bool (X2.b 1)),(X2.v 2),(.bool (X2.b 3)),(X2.v 4),(.int .i64 (X2.i 5)),.nilslice])) .fail) .fail)
 (.call 72 [p0,(.str [40])] fun a5=>
 .asB a5 fun b6=>.ite b6
 (.call 42 [p0] fun a7=>
 .asG [(.int .u8 0),(.str []),(.int .u8 0),(.bool false),.nilslice,(.bool false),.nilslice,(.int .i64 0),.nilslice] a7 fun X8=>
 .ite (fB zA.one [(.int .u8 (X8.i 0)),(.str (X8.s 1)),(.int .u8 (X8.i 2)),(.bool (X8.b 3)),(X8.v 4),(.bool (X8.b 5)),(X8.v 6),(.int .i64 (X8.i 7)),(X8.v 8)]) (.heavy (cC yA 93 1 [(0,(.str [41]))]) fun a9=>
 .call 57 [p0,a9] fun a10=>
 .ite (fB zA.one [(.int .u8 (X8.i 0)),(.str (X8.s 1)),(.int .u8 (X8.i 2)),(.bool (X8.b 3)),(X8.v 4),(.bool (X8.b 5)),(X8.v 6),(.int .i64 (X8.i 7)),(X8.v 8)]) (.ret (.agg [(.int .u8 (X8.i 0)),(.str (X8.s 1)),(.int .u8 (X8.i 2)),(.bool (X8.b 3)),(X8.v 4),(.bool (X8.b 5)),(X8.v 6),(.int .i64 (X8.i 7)),(X8.v 8)])) .fail) .fail)
 (.call 72 [p0,(.str [116,111,100,97,121])] fun a11=>
 .asB a11 fun b12=>.ite b12
 (.ite true (.ite true (.ret (.agg [(.int .u8 2),(.str []),(.int .u8 0),(.bool false),.nilslice,(.bool false),.nilslice,(.int .i64 0),.nilslice])) .fail) .fail)
 (.call 72 [p0,(.str [102,97,99,116])] fun a13=>
 .asB a13 fun b14=>.ite b14
 (.call 180 [p0,(.int .u8 3)] fun a15=>
 .asG [(.int .u8 0),(.str []),(.int .u8 0),(.bool false),.nilslice,(.bool false),.nilslice,(.int .i64 0),.nilslice] a15 fun X16=>
 .ite (fB zA.one [(.int .u8 (X16.i 0)),(.str (X16.s 1)),(.int .u8 (X16.i 2)),(.bool (X16.b 3)),(X16.v 4),(.bool (X16.b 5)),(X16.v 6),(.int .i64 (X16.i 7)),(X16.v 8)]) (.ret (.agg [(.int .u8 (X16.i 0)),(.str (X16.s 1)),(.int .u8 (X16.i 2)),(.bool (X16.b 3)),(X16.v 4),(.bool (X16.b 5)),(X16.v 6),(.int .i64 (X16.i 7)),(X16.v 8)])) .fail)
 (.call 72 [p0,(.str [104,97,115])] fun a17=>
 .asB a17 fun b18=>.ite b18
 (.call 180 [p0,(.int .u8 4)] fun a19=>
 .asG [(.int .u8 0),(.str []),(.int .u8 0),(.bool false),.nilslice,(.bool false),.nilslice,(.int .i64 0),.nilslice] a19 fun X20=>
 .ite (fB zA.one [(.int .u8 (X20.i 0)),(.str (X20.s 1)),(.int .u8 (X20.i 2)),(.bool (X20.b 3)),(X20.v 4),(.bool (X20.b 5)),(X20.v 6),(.int .i64 (X20.i 7)),(X20.v 8)]) (.ret (.agg [(.int .u8 (X20.i 0)),(.str (X20.s 1)),(.int .u8 (X20.i 2)),(.bool (X20.b 3)),(X20.v 4),(.bool (X20.b 5)),(X20.v 6),(.int .i64 (X20.i 7)),(X20.v 8)])) .fail)
 (.call 88 [p0] fun a21=>
 .asB a21 fun b22=>.ite b22
 (.call 180 [p0,(.int .u8 5)] fun a23=>
 .asG [(.int .u8 0),(.str []),(.int .u8 0),(.bool false),.nilslice,(.bool false),.nilslice,(.int .i64 0),.nilslice] a23 fun X24=>
 .ite (fB zA.one [(.int .u8 (X24.i 0)),(.str (X24.s 1)),(.int .u8 (X24.i 2)),(.bool (X24.b 3)),(X24.v 4),(.bool (X24.b 5)),(X24.v 6),(.int .i64 (X24.i 7)),(X24.v 8)]) (.ret (.agg [(.int .u8 (X24.i 0)),(.str (X24.s 1)),(.int .u8 (X24.i 2)),(.bool (X24.b 3)),(X24.v 4),(.bool (X24.b 5)),(X24.v 6),(.int .i64 (X24.i 7)),(X24.v 8)])) .fail)
 (.call 181 [p0] fun a25=>
 .asG [(.int .u8 0),(.str []),(.int .u8 0),(.bool false),.nilslice,(.bool false),.nilslice,(.int .i64 0),.nilslice] a25 fun X26=>
 .ite (fB zA.one [(.int .u8 (X26.i 0)),(.str (X26.s 1)),(.int .u8 (X26.i 2)),(.bool (X26.b 3)),(X26.v 4),(.bool (X26.b 5)),(X26.v 6),(.int .i64 (X26.i 7)),(X26.v 8)]) (.ret (.agg [(.int .u8 (X26.i 0)),(.str (X26.s 1)),(.int .u8 (X26.i 2)),(.bool (X26.b 3)),(X26.v 4),(.bool (X26.b 5)),(X26.v 6),(.int .i64 (X26.i 7)),(X26.v 8)])) .fail))))))) .fail
def w168(p0:zA)(h:qF E 168 (t168 p0) m Q):iJ E 168 [p0] m Q:=gA (mF 168) h
def t180 (p0:zA)(p1:Int):T:=
 .call 58 [p0] fun a0=>
 .asS a0 fun s1=>.heavy (cC yA 93 1 [(0,(.str [97,116]))]) fun a2=>
 .call 57 [p0,a2] fun a3=>
 .call 161 [p0] fun a4=>
 .asG [(.int .u8 0),(.str []),(.int .u8 0),(.bool false),.nilslice,(.bool false),.nilslice,(.int .i64 0),.nilslice] a4 fun X5=>
 .heavy (cC yA 48 1 [(0,(.agg [(.int .u8 (X5.i 0)),(.str (X5.s 1)),(.int .u8 (X5.i 2)),(.bool (X5.b 3)),(X5.v 4),(.bool (X5.b 5)),(X5.v 6),(.int .i64 (X5.i 7)),(X5.v 8)]))]) fun a6=>
 .ite (fB zA.one [(.int .u8 p1),(.str s1),a6]) (.ite (fB zA.one [(.int .u8 p1),(.str s1),(.int .u8 0),(.bool false),.nilslice,(.bool false),.nilslice,(.int .i64 0),a6]) (.ret (.agg [(.int .u8 p1),(.str s1),(.int .u8 0),(.bool false),.nilslice,(.bool false),.nilslice,(.int .i64 0),a6])) .fail) .fail
def w180(p0:zA)(p1:Int)(h:qF E 180 (t180 p0 p1) m Q):iJ E 180 [p0,(.int .u8 p1)] m Q:=gA (mF 180) h
def t181 (p0:zA):T:=
 .heavy (wN p0) fun a0=>
 .ite true (.ite true (.ite true (.ite true (.ite true (.ite true (.ite true (.ite true (.ite true (.ite true (.ite true (.ite true (.ite true (.heavy (nK yA 250) fun a1=>
 .heavy (zC yA 250 a1 (.agg [(.str [108,111,111,107]),(.int .u8 6),(.bool true),(.int .i64 1),(.int .i64 2),(.str [109,105,110]),(.int .u8 11),(.bool false),(.int .i64 2),(.int .i64 2),(.str [109,97,120]),(.int .u8 12),(.bool false),(.int .i64 2),(.int .i64 2),(.str [98,101,116,119,101,101,110]),(.int .u8 20),(.bool false),(.int .i64 2),(.int .i64 2),(.str [105,102]),(.int .u8 18),(.bool false),(.int .i64 3),(.int .i64 3),(.str [114,111,117,110,100]),(.int .u8 19),(.bool false),(.int .i64 2),(.int .i64 2),(.str [115,101,114,118,105,99,101]),(.int .u8 21),(.bool true),(.int .i64 2),(.int .i64 2),(.str [103,114,111,119]),(.int .u8 23),(.bool true),(.int .i64 2),(.int .i64 2),(.str [98,101,115,116]),(.int .u8 22),(.bool true),(.int .i64 3),(.int .i64 3),(.str [109,111,110,116,104,115]),(.int .u8 24),(.bool false),(.int .i64 1),(.int .i64 1),(.str [110,117,109,98,101,114]),(.int .u8 25),(.bool false),(.int .i64 1),(.int .i64 1),(.str [115,116,97,114,116]),(.int .u8 26),(.bool false),(.int .i64 1),(.int .i64 1)])) fun _=>
 .callv (.func (.func 187) [] [a1,a0]) [] fun a2=>
 .asG [(.str []),(.int .u8 0),(.bool false),(.int .i64 0),(.int .i64 0)] a2 fun X3=>
 .ite true (.ite true (.ite true (.light (fun m=>mA yA 84 ⟨0,m⟩ a0) fun a4=>.heavy (cC yA 93 1 [(0,(.str [40]))]) fun a5=>
 .call 57 [a4,a5] fun a6=>
 .ite (X3.b 2)
 (.light (fun m=>mA yA 84 ⟨0,m⟩ a0) fun a7=>.call 58 [a7] fun a8=>
 .asS a8 fun s9=>.ite true (.light (fun m=>mA yA 84 ⟨0,m⟩ a0) fun a10=>.heavy (cC yA 93 1 [(0,(.str [44]))]) fun a11=>
 .call 57 [a10,a11] fun a12=>
 .jump 19 [a0,(.int .u8 0),(.str []),(.int .u8 0),(.bool false),.nilslice,(.bool false),.nilslice,(.int .i64 0),.nilslice,(.str (X3.s 0)),(.int .u8 (X3.i 1)),(.bool (X3.b 2)),(.int .i64 (X3.i 3)),(.int .i64 (X3.i 4)),(.int .u8 (X3.i 1)),(.str s9),(.int .u8 0),(.bool false),.nilslice,(.bool false),.nilslice,(.int .i64 0),.nilslice]) .fail)
 (.jump 19 [a0,(.int .u8 0),(.str []),(.int .u8 0),(.bool false),.nilslice,(.bool false),.nilslice,(.int .i64 0),.nilslice,(.str (X3.s 0)),(.int .u8 (X3.i 1)),(.bool (X3.b 2)),(.int .i64 (X3.i 3)),(.int .i64 (X3.i 4)),(.int .u8 (X3.i 1)),(.str []),(.int .u8 0),(.bool false),.nilslice,(.bool false),.nilslice,(.int .i64 0),.nilslice])) .fail) .fail) .fail) .fail) .fail) .fail) .fail) .fail) .fail) .fail) .fail) .fail) .fail) .fail) .fail) .fail
def w181(p0:zA)(h:qF E 181 (t181 p0) m Q):iJ E 181 [p0] m Q:=gA (mF 181) h
def CU(v1:zA)(c2_0:Int)(c2_1:List Nat)(c2_2:Int)(c2_3:Bool)(c2_4:zA)(c2_5:Bool)(c2_6:zA)(c2_7:Int)(c2_8:zA)(c5_0:List Nat)(c5_1:Int)(c5_2:Bool)(c5_3 c5_4 c6_0:Int)(c6_1:List Nat)(c6_2:Int)(c6_3:Bool)(c6_4:zA)(c6_5:Bool)(c6_6:zA)(c6_7:Int)(c6_8:zA):T:=
 .light (fun m=>mA yA 84 ⟨0,m⟩ v1) fun a0=>.call 42 [a0] fun a1=>
 .asG [(.int .u8 0),(.str []),(.int .u8 0),(.bool false),.nilslice,(.bool false),.nilslice,(.int .i64 0),.nilslice] a1 fun X2=>
 .ite (same 10 c6_8 c6_8) (.heavy (cC yA 48 1 [(0,(.agg [(.int .u8 (X2.i 0)),(.str (X2.s 1)),(.int .u8 (X2.i 2)),(.bool (X2.b 3)),(X2.v 4),(.bool (X2.b 5)),(X2.v 6),(.int .i64 (X2.i 7)),(X2.v 8)]))]) fun a3=>
 .ite (same 10 c6_8 c6_8) (.heavy (gE yA 48 48 c6_8 a3) fun a4=>
 .ite (fB zA.one [a4]) (.jump 2 [v1,(.int .u8 c2_0),(.str c2_1),(.int .u8 c2_2),(.bool c2_3),c2_4,(.bool c2_5),c2_6,(.int .i64 c2_7),c2_8,(.str c5_0),(.int .u8 c5_1),(.bool c5_2),(.int .i64 c5_3),(.int .i64 c5_4),(.int .u8 c6_0),(.str c6_1),(.int .u8 c6_2),(.bool c6_3),c6_4,(.bool c6_5),c6_6,(.int .i64 c6_7),a4]) .fail) .fail) .fail
def zih(v1:zA)(c2_0:Int)(c2_1:List Nat)(c2_2:Int)(c2_3:Bool)(c2_4:zA)(c2_5:Bool)(c2_6:zA)(c2_7:Int)(c2_8:zA)(c5_0:List Nat)(c5_1:Int)(c5_2:Bool)(c5_3 c5_4 c6_0:Int)(c6_1:List Nat)(c6_2:Int)(c6_3:Bool)(c6_4:zA)(c6_5:Bool)(c6_6:zA)(c6_7:Int)(c6_8:zA)(h:qF E 181 (CU v1 c2_0 c2_1 c2_2 c2_3 c2_4 c2_5 c2_6 c2_7 c2_8 c5_0 c5_1 c5_2 c5_3 c5_4 c6_0 c6_1 c6_2 c6_3 c6_4 c6_5 c6_6 c6_7 c6_8) m Q):pH E 181 19 [v1,(.int .u8 c2_0),(.str c2_1),(.int .u8 c2_2),(.bool c2_3),c2_4,(.bool c2_5),c2_6,(.int .i64 c2_7),c2_8,(.str c5_0),(.int .u8 c5_1),(.bool c5_2),(.int .i64 c5_3),(.int .i64 c5_4),(.int .u8 c6_0),(.str c6_1),(.int .u8 c6_2),(.bool c6_3),c6_4,(.bool c6_5),c6_6,(.int .i64 c6_7),c6_8] m Q:=gJ (mF 181) h
def Uv(v1:zA)(c2_0:Int)(c2_1:List Nat)(c2_2:Int)(c2_3:Bool)(c2_4:zA)(c2_5:Bool)(c2_6:zA)(c2_7:Int)(c2_8:zA)(c5_0:List Nat)(c5_1:Int)(c5_2:Bool)(c5_3 c5_4 c6_0:Int)(c6_1:List Nat)(c6_2:Int)(c6_3:Bool)(c6_4:zA)(c6_5:Bool)(c6_6:zA)(c6_7:Int)(c6_8:zA):T:=
 .opt (pC c6_8) fun a0=>.asI .i64 a0 fun n1=>.ite (iB n1 c5_3)
 (.light (fun m=>mA yA 84 ⟨0,m⟩ v1) fun a2=>.heavy (cC yA 93 1 [(0,(.str [44]))]) fun a3=>
 .call 57 [a2,a3] fun a4=>
 .light (fun m=>mA yA 84 ⟨0,m⟩ v1) fun a5=>.call 42 [a5] fun a6=>
 .asG [(.int .u8 0),(.str []),(.int .u8 0),(.bool false),.nilslice,(.bool false),.nilslice,(.int .i64 0),.nilslice] a6 fun X7=>
 .ite (same 10 c6_8 c6_8) (.heavy (cC yA 48 1 [(0,(.agg [(.int .u8 (X7.i 0)),(.str (X7.s 1)),(.int .u8 (X7.i 2)),(.bool (X7.b 3)),(X7.v 4),(.bool (X7.b 5)),(X7.v 6),(.int .i64 (X7.i 7)),(X7.v 8)]))]) fun a8=>
 .ite (same 10 c6_8 c6_8) (.heavy (gE yA 48 48 c6_8 a8) fun a9=>
 .ite (fB zA.one [a9]) (.jump 2 [v1,(.int .u8 c2_0),(.str c2_1),(.int .u8 c2_2),(.bool c2_3),c2_4,(.bool c2_5),c2_6,(.int .i64 c2_7),c2_8,(.str c5_0),(.int .u8 c5_1),(.bool c5_2),(.int .i64 c5_3),(.int .i64 c5_4),(.int .u8 c6_0),(.str c6_1),(.int .u8 c6_2),(.bool c6_3),c6_4,(.bool c6_5),c6_6,(.int .i64 c6_7),a9]) .fail) .fail) .fail)
 (.jump 6 [v1,(.int .u8 c2_0),(.str c2_1),(.int .u8 c2_2),(.bool c2_3),c2_4,(.bool c2_5),c2_6,(.int .i64 c2_7),c2_8,(.str c5_0),(.int .u8 c5_1),(.bool c5_2),(.int .i64 c5_3),(.int .i64 c5_4),(.int .u8 c6_0),(.str c6_1),(.int .u8 c6_2),(.bool c6_3),c6_4,(.bool c6_5),c6_6,(.int .i64 c6_7),c6_8])
def ze2(v1:zA)(c2_0:Int)(c2_1:List Nat)(c2_2:Int)(c2_3:Bool)(c2_4:zA)(c2_5:Bool)(c2_6:zA)(c2_7:Int)(c2_8:zA)(c5_0:List Nat)(c5_1:Int)(c5_2:Bool)(c5_3 c5_4 c6_0:Int)(c6_1:List Nat)(c6_2:Int)(c6_3:Bool)(c6_4:zA)(c6_5:Bool)(c6_6:zA)(c6_7:Int)(c6_8:zA)(h:qF E 181 (Uv v1 c2_0 c2_1 c2_2 c2_3 c2_4 c2_5 c2_6 c2_7 c2_8 c5_0 c5_1 c5_2 c5_3 c5_4 c6_0 c6_1 c6_2 c6_3 c6_4 c6_5 c6_6 c6_7 c6_8) m Q):pH E 181 2 [v1,(.int .u8 c2_0),(.str c2_1),(.int .u8 c2_2),(.bool c2_3),c2_4,(.bool c2_5),c2_6,(.int .i64 c2_7),c2_8,(.str c5_0),(.int .u8 c5_1),(.bool c5_2),(.int .i64 c5_3),(.int .i64 c5_4),(.int .u8 c6_0),(.str c6_1),(.int .u8 c6_2),(.bool c6_3),c6_4,(.bool c6_5),c6_6,(.int .i64 c6_7),c6_8] m Q:=gJ (mF 181) h
def Uu(v1:zA)(c2_0:Int)(c2_1:List Nat)(c2_2:Int)(c2_3:Bool)(c2_4:zA)(c2_5:Bool)(c2_6:zA)(c2_7:Int)(c2_8:zA)(c5_0:List Nat)(c5_1:Int)(c5_2:Bool)(c5_3 c5_4 c6_0:Int)(c6_1:List Nat)(c6_2:Int)(c6_3:Bool)(c6_4:zA)(c6_5:Bool)(c6_6:zA)(c6_7:Int)(c6_8:zA):T:=
 .opt (pC c6_8) fun a0=>.asI .i64 a0 fun n1=>.ite (iB n1 c5_4)
 (.light (fun m=>mA yA 84 ⟨0,m⟩ v1) fun a2=>.call 72 [a2,(.str [44])] fun a3=>
 .asB a3 fun b4=>.ite b4
 (.light (fun m=>mA yA 84 ⟨0,m⟩ v1) fun a5=>.call 42 [a5] fun a6=>
 .asG [(.int .u8 0),(.str []),(.int .u8 0),(.bool false),.nilslice,(.bool false),.nilslice,(.int .i64 0),.nilslice] a6 fun X7=>
 .ite (same 10 c6_8 c6_8) (.heavy (cC yA 48 1 [(0,(.agg [(.int .u8 (X7.i 0)),(.str (X7.s 1)),(.int .u8 (X7.i 2)),(.bool (X7.b 3)),(X7.v 4),(.bool (X7.b 5)),(X7.v 6),(.int .i64 (X7.i 7)),(X7.v 8)]))]) fun a8=>
 .ite (same 10 c6_8 c6_8) (.heavy (gE yA 48 48 c6_8 a8) fun a9=>
 .ite (fB zA.one [a9]) (.jump 6 [v1,(.int .u8 c2_0),(.str c2_1),(.int .u8 c2_2),(.bool c2_3),c2_4,(.bool c2_5),c2_6,(.int .i64 c2_7),c2_8,(.str c5_0),(.int .u8 c5_1),(.bool c5_2),(.int .i64 c5_3),(.int .i64 c5_4),(.int .u8 c6_0),(.str c6_1),(.int .u8 c6_2),(.bool c6_3),c6_4,(.bool c6_5),c6_6,(.int .i64 c6_7),a9]) .fail) .fail) .fail)
 (.ite (tC c5_1 19)
 (.light (fun m=>mA yA 84 ⟨0,m⟩ v1) fun a10=>.heavy (cC yA 93 1 [(0,(.str [44]))]) fun a11=>
 .call 57 [a10,a11] fun a12=>
 .light (fun m=>mA yA 84 ⟨0,m⟩ v1) fun a13=>.call 110 [a13,(.int .u8 1),(.int .u8 6),(.func (.func 188) [] [])] fun a14=>
 .asI .u8 a14 fun n15=>.ite true (.jump 37 [v1,(.int .u8 c2_0),(.str c2_1),(.int .u8 c2_2),(.bool c2_3),c2_4,(.bool c2_5),c2_6,(.int .i64 c2_7),c2_8,(.int .u8 c6_0),(.str c6_1),(.int .u8 c6_2),(.bool c6_3),c6_4,(.bool c6_5),c6_6,(.int .i64 (cA .i64 n15)),c6_8]) .fail)
 (.jump 37 [v1,(.int .u8 c2_0),(.str c2_1),(.int .u8 c2_2),(.bool c2_3),c2_4,(.bool c2_5),c2_6,(.int .i64 c2_7),c2_8,(.int .u8 c6_0),(.str c6_1),(.int .u8 c6_2),(.bool c6_3),c6_4,(.bool c6_5),c6_6,(.int .i64 c6_7),c6_8])))
 (.ite (tC c5_1 19)
 (.light (fun m=>mA yA 84 ⟨0,m⟩ v1) fun a16=>.heavy (cC yA 93 1 [(0,(.str [44]))]) fun a17=>
 .call 57 [a16,a17] fun a18=>
 .light (fun m=>mA yA 84 ⟨0,m⟩ v1) fun a19=>.call 110 [a19,(.int .u8 1),(.int .u8 6),(.func (.func 188) [] [])] fun a20=>
 .asI .u8 a20 fun n21=>.ite true (.jump 37 [v1,(.int .u8 c2_0),(.str c2_1),(.int .u8 c2_2),(.bool c2_3),c2_4,(.bool c2_5),c2_6,(.int .i64 c2_7),c2_8,(.int .u8 c6_0),(.str c6_1),(.int .u8 c6_2),(.bool c6_3),c6_4,(.bool c6_5),c6_6,(.int .i64 (cA .i64 n21)),c6_8]) .fail)
 (.jump 37 [v1,(.int .u8 c2_0),(.str c2_1),(.int .u8 c2_2),(.bool c2_3),c2_4,(.bool c2_5),c2_6,(.int .i64 c2_7),c2_8,(.int .u8 c6_0),(.str c6_1),(.int .u8 c6_2),(.bool c6_3),c6_4,(.bool c6_5),c6_6,(.int .i64 c6_7),c6_8]))
def ze1(v1:zA)(c2_0:Int)(c2_1:List Nat)(c2_2:Int)(c2_3:Bool)(c2_4:zA)(c2_5:Bool)(c2_6:zA)(c2_7:Int)(c2_8:zA)(c5_0:List Nat)(c5_1:Int)(c5_2:Bool)(c5_3 c5_4 c6_0:Int)(c6_1:List Nat)(c6_2:Int)(c6_3:Bool)(c6_4:zA)(c6_5:Bool)(c6_6:zA)(c6_7:Int)(c6_8:zA)(h:qF E 181 (Uu v1 c2_0 c2_1 c2_2 c2_3 c2_4 c2_5 c2_6 c2_7 c2_8 c5_0 c5_1 c5_2 c5_3 c5_4 c6_0 c6_1 c6_2 c6_3 c6_4 c6_5 c6_6 c6_7 c6_8) m Q):pH E 181 6 [v1,(.int .u8 c2_0),(.str c2_1),(.int .u8 c2_2),(.bool c2_3),c2_4,(.bool c2_5),c2_6,(.int .i64 c2_7),c2_8,(.str c5_0),(.int .u8 c5_1),(.bool c5_2),(.int .i64 c5_3),(.int .i64 c5_4),(.int .u8 c6_0),(.str c6_1),(.int .u8 c6_2),(.bool c6_3),c6_4,(.bool c6_5),c6_6,(.int .i64 c6_7),c6_8] m Q:=gJ (mF 181) h
def CT(v1:zA)(c2_0:Int)(c2_1:List Nat)(c2_2:Int)(c2_3:Bool)(c2_4:zA)(c2_5:Bool)(c2_6:zA)(c2_7:Int)(c2_8:zA)(c6_0:Int)(c6_1:List Nat)(c6_2:Int)(c6_3:Bool)(c6_4:zA)(c6_5:Bool)(c6_6:zA)(c6_7:Int)(c6_8:zA):T:=
 .light (fun m=>mA yA 84 ⟨0,m⟩ v1) fun a0=>.heavy (cC yA 93 1 [(0,(.str [41]))]) fun a1=>
 .call 57 [a0,a1] fun a2=>
 .ite (fB zA.one [(.int .u8 c6_0),(.str c6_1),(.int .u8 c6_2),(.bool c6_3),c6_4,(.bool c6_5),c6_6,(.int .i64 c6_7),c6_8]) (.ret (.agg [(.int .u8 c6_0),(.str c6_1),(.int .u8 c6_2),(.bool c6_3),c6_4,(.bool c6_5),c6_6,(.int .i64 c6_7),c6_8])) .fail
def zig(v1:zA)(c2_0:Int)(c2_1:List Nat)(c2_2:Int)(c2_3:Bool)(c2_4:zA)(c2_5:Bool)(c2_6:zA)(c2_7:Int)(c2_8:zA)(c6_0:Int)(c6_1:List Nat)(c6_2:Int)(c6_3:Bool)(c6_4:zA)(c6_5:Bool)(c6_6:zA)(c6_7:Int)(c6_8:zA)(h:qF E 181 (CT v1 c2_0 c2_1 c2_2 c2_3 c2_4 c2_5 c2_6 c2_7 c2_8 c6_0 c6_1 c6_2 c6_3 c6_4 c6_5 c6_6 c6_7 c6_8) m Q):pH E 181 37 [v1,(.int .u8 c2_0),(.str c2_1),(.int .u8 c2_2),(.bool c2_3),c2_4,(.bool c2_5),c2_6,(.int .i64 c2_7),c2_8,(.int .u8 c6_0),(.str c6_1),(.int .u8 c6_2),(.bool c6_3),c6_4,(.bool c6_5),c6_6,(.int .i64 c6_7),c6_8] m Q:=gJ (mF 181) h
def t187 (w0 w1:zA):T:=
 .light (fun m=>mA yA 250 ⟨0,m⟩ w0) fun a0=>.jump 2 [w1,a0,(.int .i64 0),(.str []),(.int .u8 0),(.bool false),(.int .i64 0),(.int .i64 0)]
def w187(w0 w1:zA)(h:qF E 187 (t187 w0 w1) m Q):iJ E 187 [w0,w1] m Q:=gA (mF 187) h
def Us(v1 v5:zA)(v6:Int)(c2_0:List Nat)(c2_1:Int)(c2_2:Bool)(c2_3 c2_4:Int):T:=
 .ite (iB v6 12)
 (.opt (nI yA 250 v5 (.int .i64 v6)) fun a0=>.asG [(.str []),(.int .u8 0),(.bool false),(.int .i64 0),(.int .i64 0)] a0 fun X1=>
 .ite true (.light (fun m=>mA yA 84 ⟨0,m⟩ v1) fun a2=>.call 72 [a2,(.str (X1.s 0))] fun a3=>
 .asB a3 fun b4=>.ite b4
 (.ite true (.ret (.agg [(.str (X1.s 0)),(.int .u8 (X1.i 1)),(.bool (X1.b 2)),(.int .i64 (X1.i 3)),(.int .i64 (X1.i 4))])) .fail)
 (.jump 2 [v1,v5,(.int .i64 (cA .i64 (v6+1))),(.str c2_0),(.int .u8 c2_1),(.bool c2_2),(.int .i64 c2_3),(.int .i64 c2_4)])) .fail)
 (.light (fun m=>mA yA 84 ⟨0,m⟩ v1) fun a5=>.call 48 [a5,(.int .i64 120)] fun a6=>
 .ite true (.ite true (.ret (.agg [(.str []),(.int .u8 0),(.bool false),(.int .i64 0),(.int .i64 0)])) .fail) .fail)
def zez(v1 v5:zA)(v6:Int)(c2_0:List Nat)(c2_1:Int)(c2_2:Bool)(c2_3 c2_4:Int)(h:qF E 187 (Us v1 v5 v6 c2_0 c2_1 c2_2 c2_3 c2_4) m Q):pH E 187 2 [v1,v5,(.int .i64 v6),(.str c2_0),(.int .u8 c2_1),(.bool c2_2),(.int .i64 c2_3),(.int .i64 c2_4)] m Q:=gJ (mF 187) h
end Go.Proofs
namespace Go.Am
open Go Go.RowKit
variable {b:Bool}{x y:T}{K:zA->T}{v:zA}{a:List zA}
section
variable {base:Nat}{W J:kE}{t:Tr vA}{Q:sB}
theorem rA  (h:b=true)(k:pA base W J x t Q):pA base W J (.ite b x y) t Q:=by
 show if b=true then _ else _;simp_all
theorem qB  (h:b≠true)(k:pA base W J y t Q):pA base W J (.ite b x y) t Q:=by
 show if b=true then _ else _;simp_all
theorem iA{x:Option zA}  (h:x=some v)(k:pA base W J (K v) t Q):pA base W J (.opt x K) t Q:=by
 show vE x _;simp_all
theorem sC{x:Tr vA->Option zA}  (h:x t=some v)(k:pA base W J (K v) t Q):pA base W J (.light x K) t Q:=by
 show vE (x t) _;simp_all
def yB{f:Nat}  (k:W f a t (fun v t'=>pA base W J (K v) t' Q)):pA base W J (.call f a K) t Q:=k
theorem pB{n:Int}{i:IntKind}{K:Int->T}(k:pA base W J (K n) t Q):pA base W J (.asI i (.int i n) K) t Q:=by
 show vE (Hp i (.int i n)) _;rw[yC];exact k
theorem cD {K:Bool->T}(k:pA base W J (K b) t Q):pA base W J (.asB (.bool b) K) t Q:=k
def dF{s:List Nat}{K:List Nat->T}(k:pA base W J (K s) t Q):pA base W J (.asS (.str s) K) t Q:=k
theorem aC{zs:List zA}{a:zA}{K:kG->T}{X:kG}(h:jJ zs a=some X)(k:pA base W J (K X) t Q):pA base W J (.asG zs a K) t Q:=by
 show vE (jJ zs a) _;simp_all
theorem lC{x:xA->Option (zA × xA)} (k:∀b,t.get b=none->base<=b->∃v H,x ⟨b,t⟩=some (v,H)/\pA base W J (K v) H.t Q):pA base W J (.heavy x K) t Q:=by
 intro b h1 h2;obtain⟨v,H,h3,h4⟩:=k b h1 h2
 simp_all
def jC{i:Nat} (k:J i a t Q):pA base W J (.jump i a) t Q:=k
end
section
variable {t:Tr vA}{C:oA}
theorem zH.mid{T el sz:Nat}{agg:Bool}(h:zH C T el sz agg){l:List D} (hr:bA t sz l v){k:Nat}{d:D}(hk:l[k]?=some d) :
  ∃v',vG C T ⟨0,t⟩ v (some (.int .i64 (k:Int))) (some (.int .i64 ((k+1:Nat):Int)))=some v'/\bA t sz [d] v':=by
 obtain⟨⟨y,hy1,hy2⟩,⟨z,hz1,hz2,hz3⟩⟩:=h
 obtain⟨cl,he,hd⟩:=hr
 have hlen:=hd.length
 have hlt:=(ybc.1 hk).1
 obtain⟨cs,hc,hrd⟩:=hd.get hk
 unfold vG;rw[hy1,qA];have hb:∀(y n:Nat),jW y (.int .i64 (n:Int))=xB (Nat.ble n y) (some n):=fun y n=>rfl
 rcases he with⟨rfl,rfl⟩ | ⟨b,off,cap,rfl,hcap,⟨c,n,lo,hg,hlo⟩,he⟩
 ·grind
 ·refine⟨.slice b (off+k*sz) 1 (cap-k),?_,[cs],.inr ⟨b,off+k*sz,cap-k,rfl,by grind,⟨c,n,lo,hg,hlo⟩,fun i q hi=>?_⟩,dC.2 ⟨cs,[],rfl,hrd,wF.2 rfl⟩⟩
  ·unfold gN
   simp only[zA.asStr,zA.asSlice];rw[hy2,qA];unfold uQ;rw[hz1,qA];unfold dQ Aj;simp only[hb];rw[oE.2 (show k+1<=cap by omega)]
   simp only[yE,qA];rw[oE.2 (show k<=k+1 by omega)]
   simp only[yE,qA];have hne:Nat.beq cap k=false:=by
    grind [mC]
   have he2:iN ⟨0,t⟩ b z.size cap k false=false:=by
    grind [iN]
   rw[he2,yay,cond_false];have hf:mO ⟨0,t⟩ b z.size cap k false=true:=by
    unfold mO qE;rw[hg,qA];simp only[vA.asCells];rcases hlo with rfl | ⟨x,rfl,hx⟩
    all_goals simp_all
   rw[oE.2 (show k+1<=cap by omega),hf,hne,hz2]
   simp only[Bool.and_self,yE,cond_false];rw[show k+1-k=1 by omega]
  grind
end
end Go.Am
namespace Go.Am
open Go Go.RowKit
section
section
variable {t tf:Tr vA}{C:oA}
theorem KJ{sz:Nat}{z c1 c2:List zA}(hz:z.length=sz)(h1:c1.length=sz)(h2:c2.length=sz):kK (fun i=>some (i*sz,sz)) [(0,.agg c1),(1,.agg c2)] (tI z 2)=some [c1,c2].flatten:=by
 have e:tI z 2=z++z:=by
  show fD z (fD z [])=_;rw[iG,iG,ycd]
 rw[e];have o1:yT (z++z) (0*sz) sz (.agg c1)=some (c1++z):=by
  unfold yT;have e1:(zA.agg c1).cells=c1:=rfl
  simp only[e1,oD,h1,Nat.zero_mul,ybw,iR,mP,iG,List.take_zero,yah];rw[mC.2 rfl,oE.2 (by grind)]
  simp only[Bool.and_self,yE];rw[<- hz,List.drop_left]
 have o2:yT (c1++z) (1*sz) sz (.agg c2)=some (c1++c2):=by
  unfold yT;have e1:(zA.agg c2).cells=c2:=rfl
  simp only[e1,oD,h2,Nat.one_mul,iR,mP,iG];rw[mC.2 rfl,oE.2 (by grind)]
  simp only[Bool.and_self,yE];rw[<- h1,List.take_left,ybt (by grind),ycd]
 grind [kK,qA]
end
end
section
section
variable {t tf:Tr vA}{C:oA}
theorem wD.app:∀ {l m:List D} {cl cm:List (List zA)},wD tf l cl->wD tf m cm->wD tf (l++m) (cl++cm):=by
 intro l;induction l with
 | nil=>grind [wF]
 | cons d l ih=>
  grind [dC]
variable {base sz:Nat}{l:List D}{v:zA}
def ZN{T el:Nat}(hT:eJ C T el sz){x:zA}(hx:sM t sz x []){n:Nat}:gE C T T .nilslice x ⟨n,t⟩=some (.nilslice,⟨n,t⟩):=by
 obtain⟨⟨y,hy1,hy2,hy3⟩,⟨z,hz1,hz2,hz3,hz4,hz5⟩,hnb⟩:=hT
 have hcode:=NB.code hnb hz1
 obtain⟨hf,hlen⟩:=hx.first (n:=n)
 unfold gE sS;rw[hy1,qA,qA,hy3];simp only[ycl,yE];rw[hy2,qA,hz1,qA,hlen,qA,hz2,hf,qA];rfl
end
end
section
variable {J W:kE}{S el g p sz:Nat}{zs:List zA}{L:List kD}{ds:List D}{v0:zA}{Q:sB}
section
variable {t tf tf0:Tr vA}{C:oA}
def CopyL(base:Nat)(tf:Tr vA)(L:List kD)(sz:Nat)(l:List D)(Q:sB):Prop:=∀tf' t' v,aA tf tf'->lA base tf' t' (bB base sz l v::L)->Q v t'
theorem YB  (hT:eJ C S el sz)(hS:zH C S el sz true)(hsz:sz<1000000)
  (hz:∀d∈ds,d.zs=zs) (hg:∀d∈ds,cU C.base W g d) (hlen:ds.length<300000)
  (hj:∀v i t,pA C.base W J (Cj C S el g p zs v0 v i) t Q->J p [v0,v,.int .i64 i] t Q) (hQ:CopyL C.base tf0 L sz ds Q) (h0:bA tf0 sz ds v0) :
  ∀(m i:Nat) (tf t:Tr vA) (v:zA),i+m=ds.length->aA tf0 tf->lA C.base tf t (bB C.base sz (ds.take i) v::L)->J p [v0,v,.int .i64 (i:Int)] t Q:=by
 intro m;induction m with
 | zero=>
  intro i tf t v hi hf ho;refine hj _ _ _ ?_
  simp only[Cj,pA];rw[h0.len,sA,yC,sA,yaa (fun e=>by grind [jF])]
  rw[yca (by omega)]at ho
  exact hQ tf t v hf ho
 | succ m ih=>
  intro i tf t v hi hf ho;have hlt:i<ds.length:=by omega
  have hd:ds[i]?=some ds[i]:=ybd hlt
  have hm:ds[i]∈ds:=ycj hlt
  obtain⟨b,off,cs,g1,g2,g3,g4,g5⟩:=zH.at (t:=tf) hS (by simp) (h0.mono hf) hd
  have g1':=g1
  obtain⟨b',off',cs',f1,f2,f3,f4,f5⟩:=zH.at (t:=t) hS (by simp) (h0.mono (hf.trans ho.tle)) hd
  rw[g1]at f1;cases f1
  have ecs:cs'=cs:=by
   obtain⟨c,n,lo,q1,q2⟩:=g3
   obtain⟨c',n',lo',q3,q4⟩:=f3
   rw[ho.tle _ _ q1]at q3
   cases q3
   refine List.ext_getElem? fun j=>?_
   grind
  subst ecs;refine hj _ _ _ ?_
  simp only[Cj,pA];rw[h0.len,sA,yC,sA,yab (jF.2 (by omega)),g1,sA,f2,sA]
  have hzz:=hz _ hm
  show vE (jJ zs (.agg cs')) _
  rw[vL g5 hzz,sA,g5.mk hzz];refine hg _ hm ho g5 fun tf' t' cs2 k1 k2 k3=>?_
  rw[vL k3 hzz,sA,k3.mk hzz,yab k3.all];intro n hn _;have hl2:cs2.length=sz:=by
   have e1:=g5.mk hzz
   have e2:=k3.mk hzz
   have key:∀(zs:List zA) (X Y:kG) (j:Nat),(kM zs X j).length=(kM zs Y j).length:=by
    intro zs;induction zs with
    | nil=>intro X Y j;rfl
    | cons z zs ih=>
     intro X Y j;show(El z X j::kM zs X (j+1)).length=(El z Y j::kM zs Y (j+1)).length
     rw[ybn,ybn,ih X Y (j+1)]
   grind
  obtain⟨t1,a1,a2,a3,a4⟩:=lit1 (C:=C) hT hl2 hsz hn
  rw[a1,sA];intro n2 hn2 hb2;obtain⟨v2,k,t2,c1,c2⟩:=lA.pushL (A:=[]) (n:=n2) hT (k2.junk hn a4) a2 k3 (RD.ones _ _ k3) (by grind) hn2 hb2
  rw[c1,sA,iC (by omega) (by omega)]
  have e:ds.take i++[ds[i]]=ds.take (i+1):=by simp_all
  rw[e]at c2;exact ih (i+1) tf' t2 v2 (by omega) (hf.trans k1) c2
def LL  (hT:eJ C S el sz)(hS:zH C S el sz true)(hsz:sz<1000000)
  (hz:∀d∈ds,d.zs=zs) (hg:∀d∈ds,cU C.base W g d) (hlen:ds.length<300000)
  (hj:∀v i t,pA C.base W J (Cj C S el g p zs v0 v i) t Q->J p [v0,v,.int .i64 i] t Q) (hQ:CopyL C.base tf L sz ds Q) (h0:bA tf sz ds v0) (ho:lA C.base tf t L):J p [v0,.nilslice,.int .i64 0] t Q:=by
 refine YB hT hS hsz hz hg hlen hj hQ h0 ds.length 0 tf t .nilslice (by omega) (aA.refl _) ?_
 rw[List.take_zero];exact lA.add (A:=[]) (o':=bB C.base sz ([]:List D) .nilslice) ho (fun _ _=>rfl) (fun k hk=>by simp[bB,aG]at hk) (.inl ⟨rfl,rfl⟩) (by simp[bB,aG]) ho.tle
def zai{T k m n b q:Nat}{x:zA}{new:List zA}(hT:eJ C T el sz)(hl:Er x=some m)(hf:zY ⟨q,t⟩ sz m x=some new)(hk:k+m<=n) :
  gE C T T (.slice b 0 k n) x ⟨q,t⟩=(match (generalizing:=false) new with | []=>some (.slice b 0 (k+m) n,⟨q,t⟩) | _::_=>ob (yJ C ⟨q,t⟩ b (0+k*sz) new) fun H'=>some (.slice b 0 (k+m) n,H')):=by
 obtain⟨⟨y,hy1,hy2,hy3⟩,⟨z,hz1,hz2,hz3,hz4,hz5⟩,hnb⟩:=hT
 unfold gE sS;rw[hy1,qA,qA,hy3];simp only[ycl,yE];rw[hy2,qA,hz1,qA,hl,qA,hz2,hf,qA];simp only[zA.asSlice];rw[oE.2 hk,cond_true]
 unfold rW;rw[hz2]
 cases new<;>rfl
end
end
section
variable {n:Nat}{A B:List kD}{lo:Option Lo}{cs:List zA}
section
variable {t tf:Tr vA}{C:oA}{base:Nat}
def DY{α:Type}{A B:List α}{x y:α} (h:A.length=n):(A++x::B).set n y=A++y::B:=by
 subst h;rw[List.set_append_right _ _ (ybk _),Nat.sub_self,List.set_cons_zero]
theorem lA.newCel  {t':Tr vA}  (h:lA base tf t (A++B))(hn:t.get n=none)(hb:base<=n)(hc:yD t' n lo cs)(ht:aA t t')(ho:fF n t t'):lA base tf t' (A++jB n lo cs::B):=
 lA.add (o':=jB n lo cs) h (fun k hk=>ho k (fun e=>hk (by simp[jB,e]))) (fun k hk=>by
  grind [jB]) hc (by simp[jB]) (h.tle.trans ht)
def lA.cel    (h:lA base tf t (A++jB n lo cs::B)):yD t n lo cs:=h.ok (jB n lo cs) (by simp)
def lA.setCel {j T:Nat}  {y:lD}{v:zA}(h:lA C.base tf t (A++jB n lo cs::B))(hT:C.tys.get T=some y)(hl:v.cells.length=y.size)(hj:j+v.cells.length<=cs.length)(hone:fB zA.one v.cells=true) :
  ∃t',(∀q,zC C T (.ptr n j) v ⟨q,t⟩=some (dD,⟨q,t'⟩))/\lA C.base tf t' (A++jB n lo (pJ cs j v.cells)::B):=by
 have hlow:=h.low n (by simp[jB])
 obtain⟨t',s1,s2,s3⟩:=h.cel.store (C:=C) hlow.1 (j:=j) (v:=v) hT hl hj hone
 exact⟨t',s1,lA.upd (o:=jB n lo cs) (o':=jB n lo (pJ cs j v.cells)) h (fun k h1 _=>s3 k (fun e=>h1 (by simp[jB,e]))) (fun k hk=>.inl hk) s2 (by simp[jB]) (h.tle.off hlow.2 s3)⟩
end
end
end Go.Am
namespace Go.Proofs
open Go Go.Am
variable {α:Type}{b d' e k n':Nat}{w:List Nat}
variable [eC]
def uC.d(t:uC):D:=.st [.int .u8 (t.kind:Int),.str t.text,.int .i64 (t.line:Int),.int .i64 (t.col:Int)]
def uC.cs(t:uC):List zA:=[.int .u8 (t.kind:Int),.str t.text,.int .i64 (t.line:Int),.int .i64 (t.col:Int)]
theorem rd_tok{t:Tr vA}{x:uC}{cs:List zA}(h:RD t x.d cs):cs=x.cs:=by
 grind [uC.d,uC.cs,oI,dC,wF,pK,aJ]
structure cI where
 tk:List uC
 bp:Nat
 ts:zA
 el:Nat
 ec:Nat
 L:List kD
abbrev nG(P:cI)(n d:Nat):kD:=jB P.bp none [P.ts,.int .i64 (n:Int),.int .i64 (d:Int),.int .i64 (P.el:Int),.int .i64 (P.ec:Int)]
def rL(t:Tr vA):Prop:=At t 1 0 ((List.range 7).map fun i=>.str (Et i))/\At t 4 0 ((List.range 7).map fun i=>.str (cS i))/\At t 2 0 (Ln.map fun(n:Nat)=>.int .i64 (n:Int))
theorem rL.mono{t t':Tr vA}(h:rL t)(hl:aA t t'):rL t':=⟨h.1.mono hl,h.2.1.mono hl,h.2.2.mono hl⟩
structure St (P:cI) (tf t:Tr vA) (n d:Nat):Prop where
 ts:bA tf 4 (P.tk.map uC.d) P.ts
 ob:lA yA.base tf t (nG P n d::P.L)
 len:P.tk.length<300000
 le:n<=P.tk.length
 good:∀x∈P.tk,rP x
 glob:rL tf
def tG(P:cI)(i:Nat):uC:=(P.tk[i]?).getD ⟨0,[],P.el,P.ec⟩
def Sb(P:cI)(e i:Nat):zA:=.iface 123 (.agg [.int .i64 ((tG P i).line:Int),.int .i64 ((tG P i).col:Int),.int .i64 (e:Int)])
def Ok {α:Type}(P:cI)(rd:Tr vA->α->zA->Prop)(d:Nat)(tf:Tr vA)(r:PR α)(Q E:sB):Prop:=
 match r with
 | .ok a n=>∀tf' t' v,aA tf tf'->St P tf' t' n d->rd tf' a v->Q v t'
 | .er e i=>∀tf' t' n' d',aA tf tf'->St P tf' t' n' d'->E (Sb P e i) t'
section
variable {P:cI}{tf t:Tr vA}{n d:Nat}{Q E:sB}
theorem Ok.mono {rd:Tr vA->α->zA->Prop}{r:PR α}(h:Ok P rd d tf r Q E){tf':Tr vA}(hl:aA tf tf'):Ok P rd d tf' r Q E:=by
 cases r with
 | ok a n=>exact fun tf2 t' v k1 k2 k3=>h tf2 t' v (hl.trans k1) k2 k3
 | er e i=>exact fun tf2 t' n' d' k1 k2=>h tf2 t' n' d' (hl.trans k1) k2
def Ok.bind{β:Type}{rd1:Tr vA->α->zA->Prop}{rd:Tr vA->β->zA->Prop}{r:PR α}{f:α->Nat->PR β}{Q1:sB}(h:Ok P rd d tf (r.bind f) Q E)
  (k:∀a n1 tf1 t1 v,r=.ok a n1->aA tf tf1->St P tf1 t1 n1 d->rd1 tf1 a v->Ok P rd d tf1 (f a n1) Q E->Q1 v t1):Ok P rd1 d tf r Q1 E:=by
 cases r with
 | ok a n=>exact fun tf' t' v h1 h2 h3=>k a n tf' t' v rfl h1 h2 h3 (Ok.mono h h1)
 | er e i=>exact h
def Ok.now {rd:Tr vA->α->zA->Prop}{a:α}{v:zA}(h:Ok P rd d tf (.ok a n) Q E)(hst:St P tf t n d)(hr:rd tf a v):Q v t:=h tf t v (aA.refl _) hst hr
def Ok.err {rd:Tr vA->α->zA->Prop}{i:Nat}(h:Ok P rd d tf (.er e i) Q E) (hst:St P tf t n' d'):E (Sb P e i) t:=h tf t n' d' (aA.refl _) hst
def St.cel(h:St P tf t n d):yD t P.bp none [P.ts,.int .i64 (n:Int),.int .i64 (d:Int),.int .i64 (P.el:Int),.int .i64 (P.ec:Int)]:=h.ob.cel (A:=[])
def nl{o:Nat}:zG (.ptr b o)=some (.ptr b o):=rfl
def f0  : kC yA 121 0 (.ptr b 0)=some (.ptr b 0):=by kernel_rfl
def f1  : kC yA 121 1 (.ptr b 0)=some (.ptr b 1):=by kernel_rfl
def f2  : kC yA 121 2 (.ptr b 0)=some (.ptr b 2):=by kernel_rfl
def f3  : kC yA 121 3 (.ptr b 0)=some (.ptr b 3):=by kernel_rfl
def St.l0(h:St P tf t n d):mA yA 66 ⟨0,t⟩ (.ptr P.bp 0)=some P.ts:=h.cel.load1 jS rfl rfl
def St.l1(h:St P tf t n d):mA yA 3 ⟨0,t⟩ (.ptr P.bp 1)=some (.int .i64 (n:Int)):=h.cel.load1 qO rfl rfl
def St.l2(h:St P tf t n d):mA yA 3 ⟨0,t⟩ (.ptr P.bp 2)=some (.int .i64 (d:Int)):=h.cel.load1 qO rfl rfl
def St.l3(h:St P tf t n d):mA yA 29 ⟨0,t⟩ (.ptr P.bp 3)=some (.agg [.int .i64 (P.el:Int),.int .i64 (P.ec:Int)]):=by
 have:=h.cel.at.load (j:=3) (n:=2) vV rfl rfl (by simp)
 simpa using this
def St.tsr(h:St P tf t n d):bA t 4 (P.tk.map uC.d) P.ts:=h.ts.mono h.ob.tle
def St.len'(h:St P tf t n d):pC P.ts=some (.int .i64 (P.tk.length:Int)):=by
 have:=h.ts.len
 rwa [ybf]at this
def qS(x:uC):jJ Ga (.agg x.cs)=some (cellsOf x.cs):=cQ rfl
def cT0(x:uC):(cellsOf x.cs).i 0=(x.kind:Int):=rfl
def cT1(x:uC):(cellsOf x.cs).s 1=x.text:=rfl
def cT2(x:uC):(cellsOf x.cs).i 2=(x.line:Int):=rfl
def cT3(x:uC):(cellsOf x.cs).i 3=(x.col:Int):=rfl
def Hd(h:St P tf t n d):wC yA F 71 [.ptr P.bp 0] t=some (.agg (tG P n).cs):=by
 refine bD.2 (w71 ?_)
 simp only[fI,uI,uG,uZ,uY,uA10,t71,pA,nl,f0,f1,f3,h.l0,h.l1,h.len',sA,yC,jF];by_cases hn:n<P.tk.length
 ·rw[yab (by omega)]
  have hx:P.tk[n]?=some P.tk[n]:=ybd hn
  have hd:(P.tk.map uC.d)[n]?=some P.tk[n].d:=by rw[ybu,hx];rfl
  obtain⟨b,o,cs,h1,h2,_,_,h3⟩:=sl66.at (fun h=>by cases h) h.tsr hd
  rw[h1,sA,h2,sA];have e:=rd_tok h3
  subst e;show vE (jJ Ga (.agg P.tk[n].cs)) _
  rw[qS,sA];simp only[if_true,cT0,cT1,cT2,cT3];unfold tG;rw[hx];exact⟨rfl,trivial⟩
 ·rw[yaa (by omega),h.l3,sA]
  have hx:P.tk[n]?=none:=List.getElem?_eq_none (by omega)
  show vE (some (cellsOf _)) _
  rw[sA];simp only[if_true];unfold tG;rw[hx];exact⟨rfl,trivial⟩
def zj2  : acc P.tk w n=((decide ((tG P n).kind=1)||decide ((tG P n).kind=4))&&qG (tG P n).text w):=by
 unfold acc tG
 cases P.tk[n]? with
 | none=>rfl
 | some x=>rfl
def Lv (hk:0<k):zD P.tk k n=decide ((tG P n).kind=k):=by
 unfold zD tG
 cases P.tk[n]? with
 | none=>simp;omega
 | some x=>rfl
def Uj:fE P.tk n=(tG P n).text:=by
 unfold fE tG
 cases P.tk[n]? with
 | none=>rfl
 | some x=>rfl
def St.set1(h:St P tf t n d) (hn:n'<=P.tk.length):∃t',(∀q,zC yA 3 (.ptr P.bp 1) (.int .i64 (n':Int)) ⟨q,t⟩=some (dD,⟨q,t'⟩))/\St P tf t' n' d:=by
 obtain⟨t',h1,h2⟩:=lA.setCel (A:=[]) (j:=1) (v:=.int .i64 (n':Int)) h.ob qO rfl (by show 1+1<=5;omega) rfl
 exact⟨t',h1,h.ts,h2,h.len,hn,h.good,h.glob⟩
def St.set2(h:St P tf t n d)  : ∃t',(∀q,zC yA 3 (.ptr P.bp 2) (.int .i64 (d':Int)) ⟨q,t⟩=some (dD,⟨q,t'⟩))/\St P tf t' n d':=by
 obtain⟨t',h1,h2⟩:=lA.setCel (A:=[]) (j:=2) (v:=.int .i64 (d':Int)) h.ob qO rfl (by show 2+1<=5;omega) rfl
 exact⟨t',h1,h.ts,h2,h.len,h.le,h.good,h.glob⟩
def Ng (h:acc P.tk w n=true):n<P.tk.length:=by
 unfold acc at h
 cases hx:P.tk[n]? with
 | none=>rw[hx]at h;cases h
 | some x=>exact(ybc.1 hx).1
def Cq (h:St P tf t n d)(hQ:∀t',St P tf t' (if acc P.tk w n then n+1 else n) d->Q (.bool (acc P.tk w n)) t'):Wc yA F 72 [.ptr P.bp 0,.str w] t Q:=by
 refine w72 ?_
 simp only[uG,uQ7,fI,uI,oC,t72,pA];rw[q71,Hd h,sA,qS,sA];have ha:=zj2 (P:=P) (n:=n) (w:=w)
 simp only[if_true,cT0,cT1,nl,f1,sA,nJ];have step:qG (tG P n).text w=true->(decide ((tG P n).kind=1)||decide ((tG P n).kind=4))=true->vE (mA yA 3 ⟨0,t⟩ (.ptr P.bp 1)) (fun v=>vE (Hp .i64 v) fun n'=>∀b,t.get b=none->yA.base<=b->vE (zC yA 3 (.ptr P.bp 1) (tD n') ⟨b,t⟩) fun p=>Q (.bool (qG (tG P n).text w)) p.2.t):=by
  intro h1 h2;rw[h1,h2]at ha;have ha:acc P.tk w n=true:=ha
  rw[h.l1,sA,yC,sA];intro b _ _;have hlt:=Ng ha
  have hl:=h.len
  obtain⟨t',k1,k2⟩:=h.set1 (n':=n+1) (by omega)
  have e:tD (n:Int)=.int .i64 ((n+1:Nat):Int):=by
   show zA.int .i64 (cA .i64 ((n:Int)+1))=_
   rw[iC (by omega) (by omega)];rfl
  rw[e,k1,sA,h1];rw[ha]at hQ;exact hQ t' k2
 by_cases hk:(tG P n).kind=1
 ·rw[yab (by omega)]
  cases he:qG (tG P n).text w with
  | true=>rw[yab rfl];rw[<- he];exact step he (by simp[hk])
  | false=>
   rw[yaa (by simp)]
   rw[he,yay]at ha;rw[ha]at hQ;exact hQ t h
 ·rw[yaa (by omega)]
  by_cases hk4:(tG P n).kind=4
  ·rw[yab (by omega)]
   cases he:qG (tG P n).text w with
   | true=>rw[yab rfl];rw[<- he];exact step he (by simp[hk4])
   | false=>
    rw[yaa (by simp)]
    rw[he,yay]at ha;rw[ha]at hQ;exact hQ t h
  ·rw[yaa (by omega)]
   have ha:acc P.tk w n=false:=by rw[ha];simp[hk,hk4]
   rw[ha]at hQ;exact hQ t h
def JE(h:St P tf t n d):wC yA F 88 [.ptr P.bp 0] t=some (.bool (sK P.tk n)):=by
 refine bD.2 (w88 ?_)
 simp only[uG,uB,oC,t88,pA];rw[q71,Hd h,sA,qS,sA];simp only[if_true,cT0,cT1,nJ,q13,zhu,sA,zA.asBool];unfold sK;rw[Lv (by omega),Uj]
 by_cases hk:(tG P n).kind=1
 ·rw[yab (by omega)];simp[hk]
 ·rw[yaa (by omega)];simp[hk]
def KL (h:St P tf t n d)(hE:E (Sb P e n) t):fJ yA F E 48 [.ptr P.bp 0,.int .i64 (e:Int)] t Q:=by
 refine w48 _ _ ?_
 unfold t48;refine yB ?_
 rw[pQ 71,Hd h,sA];refine aC (qS _) (rA rfl ?_)
 refine yB (pX _ _ _ ?_)
 exact hE
def Ok.fail {rd:Tr vA->α->zA->Prop} (h:St P tf t n d)(hk:Ok P rd d tf (.er e n) Q E){Q':sB}:dE yA F vC tF E 48 [.ptr P.bp 0,.int .i64 (e:Int)] t Q':=by
 rw[pE 48];exact KL h (hk.err h)
def rdStr(_:Tr vA)(s:List Nat)(v:zA):Prop:=v=.str s
def rdU (_:Tr vA)(_:Unit)(v:zA):Prop:=v=.tup []
def rdInt(_:Tr vA)(s:Int)(v:zA):Prop:=v=.int .i64 s
def rdU8 (_:Tr vA)(s:Nat)(v:zA):Prop:=v=.int .u8 (s:Int)
def rdTok(k:Nat)(_:Tr vA)(s:List Nat)(v:zA):Prop:=∃x:uC,x.kind=k/\x.text=s/\v=.agg x.cs
def Dl (hk0:0<k)(h:St P tf t n d)(hk:Ok P (rdTok k) d tf (tE P.tk k n) Q E):fJ yA F E 59 [.ptr P.bp 0,.int .u8 (k:Int)] t Q:=by
 refine w59 _ _ ?_
 unfold t59;refine yB ?_
 rw[pQ 71,Hd h,sA];refine aC (qS _) (rA rfl ?_)
 unfold tE at hk;rw[Lv hk0]at hk;by_cases hx:(tG P n).kind=k
 ·rw[decide_eq_true hx,yab rfl]at hk
  refine qB (by rw[cT0,hx];simp[sF]) (jC (j59_9 _ _ _ _ _ _ _ _ _ ?_))
  unfold t59_9;refine iA nl (iA f1 (sC h.l1 (pB (iA nl (iA f1 (lC fun b _ _=>?_))))))
  have hlt:n<P.tk.length:=by
   unfold tG at hx
   cases hy:P.tk[n]? with
   | none=>rw[hy]at hx;simp at hx;omega
   | some x=>exact(ybc.1 hy).1
  have hl:=h.len
  obtain⟨t',k1,k2⟩:=h.set1 (n':=n+1) (by omega)
  have e:cA .i64 ((n:Int)+1)=((n+1:Nat):Int):=by
   rw[iC (by omega) (by omega)];rfl
  rw[e];refine⟨_,_,k1 b,rA rfl ?_⟩
  exact Ok.now hk k2 ⟨tG P n,hx,by rw[Uj],rfl⟩
 ·rw[decide_eq_false hx,yaa (by simp)]at hk
  refine rA (by rw[cT0];simp[sF];omega) (yB (Ok.fail h hk))
def Eh(h:St P tf t n d)(hk:Ok P rdStr d tf (rI P.tk n) Q E):fJ yA F E 58 [.ptr P.bp 0] t Q:=by
 refine w58 _ ?_
 unfold t58;refine yB ?_
 rw[pQ 88,JE h,sA];refine cD ?_
 unfold rI at hk
 cases hx:sK P.tk n with
 | false=>
  rw[hx,yaa (by simp)]at hk
  exact rA rfl (yB (Ok.fail h hk))
 | true=>
  rw[hx,yab rfl]at hk;refine qB (by simp) (yB ?_)
  rw[pE 59];refine Dl (k:=1) (by omega) h ?_
  have hkd:zD P.tk 1 n=true:=by unfold sK at hx;simp only[ybb]at hx;exact hx.1
  unfold tE;rw[hkd,yab rfl];intro tf' t' v k1 k2 ⟨x,_,e,k3⟩
  subst k3;refine aC (qS _) ?_
  exact hk tf' t' _ k1 k2 (by show zA.str x.text=.str _;rw[e])
end
end Go.Proofs
namespace Go.Am
open Go Go.RowKit
def Bp{α:Type}(f:Nat->Option α):Nat->Tr α
 | 0=>.leaf
 | n+1=>match f n with
  | some v=>(Bp f n).set n v
  | none=>Bp f n
theorem Ce{α:Type}(f:Nat->Option α):∀(n a:Nat),(Bp f n).get a=if a<n then f a else none:=by
 intro n;induction n with
 | zero=>intro a;rw[yaa (by omega)];exact Tr.get_leaf _
 | succ n ih=>
  grind [Bp,Tr.get_set]
def Fw (N:Nat):Value->Option zA
 | .bool b=>some (.bool b)
 | .int k n=>some (.int k n)
 | .string s=>some (.str (rF s))
 | .slice none 0 0=>some .nilslice
 | .slice (some _) 0 0=>some (.slice 0 0 0 0)
 | .slice (some ⟨b,off,none⟩) len cap=>if b<N then some (.slice (256+b) off len cap)else none
 | _=>none
def absB (N:Nat):Obj->Option vA
 | .cells cs _ _=>some (.cells (Bp (fun j=>(cs[j]?).bind (Fw N)) cs.size) cs.size none)
 | _=>none
def eP (w:World):Tr vA:=Bp (fun a=>if a<256 then(w.heap[a]?).bind (absB w.heap.size)else(w.heap[a-256]?).bind (absB w.heap.size)) (256+w.heap.size)
def muW (w:World):Mu:=⟨fun a=>if a<256 then some ⟨a,true,0,0,true⟩else if a<256+w.heap.size then some ⟨a-256,true,0,0,true⟩else none,fun _=>none⟩
section
variable {w:World}
theorem zdn{v:Value}{a:zA}(h:Fw w.heap.size v=some a):uA (muW w) a v:=by
 unfold Fw at h;split at h
 ·cases h;rw[uA]
 ·cases h;rw[uA]
 ·grind [uA]
 ·cases h;rw[uA]
 ·grind [uA]
 ·split at h
  ·rename_i hb
   cases h;rename_i b off len cap _;rw[uA];refine .inl ⟨⟨b,true,0,0,true⟩,cap,?_,rfl,ybk _,fun _=>rfl,fun h=>by cases h⟩
   show(if 256+b<256 then some (⟨256+b,true,0,0,true⟩:BI)else if 256+b<256+w.heap.size then some ⟨256+b-256,true,0,0,true⟩else none)=_
   rw[yaa (by omega),yab (by omega),show 256+b-256=b by omega]
  ·cases h
 ·cases h
theorem NN{o:Obj}{x:vA}(h:absB w.heap.size o=some x)(b:Nat):sJ (muW w) ⟨b,true,0,0,true⟩ x o/\x.asLoop=none/\x.asDeferred=none:=by
 cases o<;>first | (cases h;done) | skip
 rename_i cs elem fr
 cases h;refine⟨⟨cs,elem,fr,rfl,ybk _,.inl rfl,fun j v hv=>?_,rfl⟩,rfl,rfl⟩
 grind [Ce,zdn]
theorem hrelW:vB (256+w.heap.size) w.heap.size (muW w) ⟨256+w.heap.size,eP w⟩ w:=by
 have hget:∀a x,(eP w).get a=some x->∃b o,b<w.heap.size/\w.heap[b]?=some o/\absB w.heap.size o=some x/\a<256+w.heap.size/\b=(if a<256 then a else a-256):=by
  grind [eP,Ce]
 have hmu:∀a,(muW w) a=if a<256 then some ⟨a,true,0,0,true⟩else if a<256+w.heap.size then some ⟨a-256,true,0,0,true⟩else none:=fun _=>rfl
 have big:∀a,256+w.heap.size<=a->(muW w) a=none:=fun a h=>by rw[hmu,yaa (by omega),yaa (by omega)]
 have same:∀a x i,(eP w).get a=some x->(muW w) a=some i->∃o,w.heap[i.b]?=some o/\i.b<w.heap.size/\absB w.heap.size o=some x/\i=⟨i.b,true,0,0,true⟩:=by
  grind
 refine⟨by omega,fun g hg=>by rw[hmu,yab hg],fun a x i _ hx hi=>?_,ybk _,ybk _,fun a ha=>⟨big a ha,?_⟩,fun a x i hx hi=>?_,fun a i ha hi=>?_,fun a b x y i j hx _ hi _ ha _ _=>?_,fun a x t h=>by cases h⟩
 ·obtain⟨o,_,h2,h3,_⟩:=same a x i hx hi
  exact⟨h2,(NN h3 0).2⟩
 all_goals grind [eP,Ce,NN]
end
end Go.Am
namespace Go.Am
open Go Go.RowKit
def tiles(P:Program):Nat->List Field->Nat->Bool
 | off,[],n=>off == n
 | off,f::fs,n=>f.offset == off&&tiles P (off+P.cellsOf f.type) fs n
structure Plain (P:Program) (S:TypeId->Prop):Prop where
 part:∀t,S t->match P.underlying t with
  | some .bool=>True
  | some (.int _)=>True
  | some .string=>True
  | some (.slice e)=>S e/\0<P.cellsOf e
  | some (.struct fs)=>(∀f∈fs.toList,S f.type)/\tiles P 0 fs.toList (P.cellsOf t)=true
  | _=>False
end Go.Am
namespace Go.Am
open Go Go.RowKit
structure zf5 (P:Program) where
 (b i u8 u16 s limbs whole frac val expr exprs row rows table tables dfn dfns clause clauses plan:TypeId)
 hb:P.underlying b=some .bool
 hi:P.underlying i=some (.int .i64)
 hu8:P.underlying u8=some (.int .u8)
 hu16:P.underlying u16=some (.int .u16)
 hs:P.underlying s=some .string
 hlimbs:P.underlying limbs=some (.slice u16)
 hexprs:P.underlying exprs=some (.slice expr)
 hrows:P.underlying rows=some (.slice row)
 htables:P.underlying tables=some (.slice table)
 hdfns:P.underlying dfns=some (.slice dfn)
 hclauses:P.underlying clauses=some (.slice clause)
 hwhole:∃fs,P.underlying whole=some (.struct fs)/\fs.toList.map (·.type)=[b,limbs]
 hfrac:∃fs,P.underlying frac=some (.struct fs)/\fs.toList.map (·.type)=[whole,whole]
 hval:∃fs,P.underlying val=some (.struct fs)/\fs.toList.map (·.type)=[u8,frac,i]
 hexpr:∃fs,P.underlying expr=some (.struct fs)/\fs.toList.map (·.type)=[u8,s,val,exprs]
 hrow:∃fs,P.underlying row=some (.struct fs)/\fs.toList.map (·.type)=[i,i,i,frac]
 htable:∃fs,P.underlying table=some (.struct fs)/\fs.toList.map (·.type)=[s,b,rows]
 hdfn:∃fs,P.underlying dfn=some (.struct fs)/\fs.toList.map (·.type)=[s,u8,b]
 hclause:∃fs,P.underlying clause=some (.struct fs)/\fs.toList.map (·.type)=[s,s,i,i,i,b,expr,expr]
 hplan:∃fs,P.underlying plan=some (.struct fs)/\fs.toList.map (·.type)=[s,dfns,tables,clauses]
 cu16:P.cellsOf u16=1
 cexpr:P.cellsOf expr=9
 crow:P.cellsOf row=7
 ctable:P.cellsOf table=3
 cdfn:P.cellsOf dfn=3
 cclause:P.cellsOf clause=24
 bytes:1<=P.bytesOf u16/\1<=P.bytesOf expr/\1<=P.bytesOf row/\1<=P.bytesOf table/\1<=P.bytesOf dfn/\1<=P.bytesOf clause
namespace zf5
end zf5
end Go.Am
namespace Go.Am
open Go Go.RowKit Go.Proofs
variable {g:Nat}{tg:TypeId}
def SI[eC](B N:Nat)(hb:B<=256+eC.n):Nk Tryz.prog yA B N aM:=by
 intro f g hg args H v H' hv μ w args' hH hI hl;have hg:Xb.get f=some g:=hg
 unfold Xb at hg;rcases pV hg with⟨rfl,rfl⟩ | hg
 ·exact zZ hv hH fun hv=>FI hv hl
 rcases pV hg with⟨rfl,rfl⟩ | hg
 ·exact zZ hv hH fun hv=>FG hv hl
 rcases pV hg with⟨rfl,rfl⟩ | hg
 ·exact zZ hv hH fun hv=>FH hI hv hl
 rcases pV hg with⟨rfl,rfl⟩ | hg
 ·exact zZ hv hH fun hv=>FJ hI hv hl
 rcases pV hg with⟨rfl,rfl⟩ | hg
 ·exact .inr (SJ hb hH hv hl)
 rcases pV hg with⟨rfl,rfl⟩ | hg
 ·exact .inr (SL hb hH hv hl)
 rcases pV hg with⟨rfl,rfl⟩ | hg
 ·exact zZ hv hH fun hv=>SM hI hv hl
 ·rw[Tr.get_leaf]at hg;cases hg
def sim30[eC](hN:5<=eC.n):gK Tryz.prog yA (256+eC.n) eC.n aM:=
 ⟨zdu rfl,Zk rfl,SI _ _ (ybk _),ybk _,by kernel_rfl,fun _ _ hb h=>h.below hN hb⟩
section
variable {w:World}
theorem zhy{b:Nat}{y:vA}(h:(eP w).get b=some y):b<256+w.heap.size:=by
 grind [eP,Ce]
def OW(hL:aM w)(f:Nat)(args:List zA)(args':Array Value)(hp:∀ [eC],yA.prims.get f=none)(hl:tB (muW w) args args'.toList)
  (h:∀ [eC],∃Q:sB,Wc yA F f args (eP w) Q/\∀v t,Q v t->v=.bool true) (hf:Nat.blt f yo=true:=by rfl) :
  Calls Tryz.prog f args' w fun e w'=>e=.returned (.bool true)/\Below w.heap.size w w':=by
 letI:eC:=⟨w.heap.size⟩
 obtain⟨Q,h1,h2⟩:=h
 refine(YV (H:=⟨256+w.heap.size,eP w⟩) (sim30 hL.size) hL zjq hp (ybk _) (fun b y hb=>zhy hb) hrelW hl h1 hf).mono fun e w' ⟨v,v',t',μ',g1,g2,g3,g4,g5⟩=>?_
 have:=h2 v t' g4
 subst this;rw[uA]at g3;exact⟨by rw[g1,g3],g5⟩
def DH {l:List (List UInt8)} (hg:g<256)(h:w.heap[g]?=some (.cells (fS l).toArray tg (0,0)))[eC]:At (eP w) g 0 (l.map fun b=>.str (b.map UInt8.toNat)):=by
 have hb:=(ybe.1 h).1
 have e:(eP w).get g=some (.cells (Bp (fun j=>((fS l).toArray[j]?).bind (Fw w.heap.size)) (fS l).toArray.size) (fS l).toArray.size none):=by
  unfold eP;rw[Ce,yab (by omega),yab (by omega),h]
  rfl
 refine⟨_,_,_,e,fun j a ha=>?_⟩
 rw[Ce,ybw];rw[ybu]at ha
 cases hbt:l[j]? with
 | none=>rw[hbt]at ha;cases ha
 | some b=>
  rw[hbt]at ha;obtain rfl:=yci ha
  have hj:=(ybc.1 hbt).1
  rw[yab (by simpa[fS]using hj)]
  simp only[fS,List.getElem?_toArray,ybu,hbt,Option.map_some,yai,Fw];rfl
def ziu {l:List Int} (hg:g<256)(h:w.heap[g]?=some (.cells (cX l).toArray tg (0,0)))[eC]:At (eP w) g 0 (l.map fun n=>.int .i64 n):=by
 have hb:=(ybe.1 h).1
 have e:(eP w).get g=some (.cells (Bp (fun j=>((cX l).toArray[j]?).bind (Fw w.heap.size)) (cX l).toArray.size) (cX l).toArray.size none):=by
  unfold eP;rw[Ce,yab (by omega),yab (by omega),h]
  rfl
 refine⟨_,_,_,e,fun j a ha=>?_⟩
 rw[Ce,ybw];rw[ybu]at ha
 cases hbt:l[j]? with
 | none=>rw[hbt]at ha;cases ha
 | some b=>
  rw[hbt]at ha;obtain rfl:=yci ha
  have hj:=(ybc.1 hbt).1
  rw[yab (by simpa[cX]using hj)]
  simp only[cX,List.getElem?_toArray,ybu,hbt,Option.map_some,yai,Fw]
def ziy(h:aM w):∀ [eC],rL (eP w):=by
 intro _;obtain⟨t1,h1⟩:=h.kinds
 obtain⟨t2,h2⟩:=h.modes
 obtain⟨t3,h3⟩:=h.lens
 exact⟨DH (by decide) h1,DH (by decide) h2,ziu (by decide) h3⟩
end
end Go.Am
namespace Go.Am
open Go Go.RowKit Go.ChangeShapes Go.WideShapes Go.ChangeAt
variable {f:FuncId}{s:ChangeSpec}{fn:Func}
section
variable {H:Type}{enc:TypeId × Value->H}{P:Program}
def CA(hl:laidOutB P=true){W W':World}(hb:Below W.heap.size W W'):∀ {ts:List TypeId} {vs:List Value} {ds:List (DataW H)} {ps:List MemPlace},(∀t∈ts,P.readableRec t=true/\t<P.types.size) →
  DataW.TrodAll enc P W 0 (fun _=>true) true ts vs ds ps->(∀x∈ps,x.block<W.heap.size)->DataW.TrodAll enc P W' 0 (fun b=>decide (b<W.heap.size)) true ts vs ds ps
 | [],[],[],_,_,h,_=>h
 | t::ts,_::_,_::_,_,ht,⟨p,q,h1,h2,e⟩,hs=>by
  subst e;exact⟨p,q,Below.trod hl (ht t (by simp)).1 (ht t (by simp)).2 h1 hb fun x hx=>hs x (ydc _ hx),
   CA hl hb (fun t ht'=>ht t (ybr _ ht')) h2 fun x hx=>hs x (ycf _ hx),rfl⟩
 | [],_::_,_,_,_,h,_=>by simp[DataW.TrodAll]at h
 | [],[],_::_,_,_,h,_=>by simp[DataW.TrodAll]at h
 | _::_,[],_,_,_,h,_=>by simp[DataW.TrodAll]at h
 | _::_,_::_,[],_,_,h,_=>by simp[DataW.TrodAll]at h
theorem law_post(hl:laidOutB P=true){f:Func} {tb:TypeId}(hp:∀t∈f.params.toList,P.readableRec t=true/\t<P.types.size)(hv:s.vars=[])(hres:f.resultTypes = #[tb])(htb:P.underlying tb=some .bool)
  {W W':World} {args:Array Value} {ds gs:List (DataW H)} {before:List MemPlace} (hfn:s.fn H ds={ results:=[.lit (.bool true)],args:=ds })
  (hW:DataW.Whole enc P f.params.toList s.vars false W args.toList ds gs before) (hb:Below W.heap.size W W') :
  s.post enc P f false true false false W args (.bool true) W':=by
 have hW0:=hW
 obtain⟨p,q,hA,hV,rfl,hfz,hnd⟩:=hW
 rw[hv]at hV;obtain⟨rfl,rfl⟩:=trodVars_none hV
 refine⟨ds,[],p++[],[],p,[],hW0,?_,?_,?_,hb.frame _,fun h=>by cases h⟩
 ·rw[ycd,hfn,hres]
  exact trodAll_mk1 (shut_bool htb _)
 ·rw[ycd,hfn]
  exact CA hl hb hp hA fun x hx=>hW0.lt x (by simp_all)
 ·rw[ycd,hfn,hv]
  exact rfl
theorem ZZ{a:Assume}{C:Checked}{os:Os}   {conds:List PathCond}{apart fresh handsOn again:Bool}{X:World->Array Value->Prop}
  (hX:∀(w w':World) (args:Array Value),w.heap=w'.heap->X w args->X w' args)
  (own:ownKnob C.prog.godebug=none) (started:os.Started) (noInit:C.prog.inits.idxOf? f=none) (hfn:C.prog.funcs[f]?=some fn)
  (witness:∃(w:World) (tape:Tape) (i:Input),w.os=os/\(w.forCall tape i).Shaped C.prog/\i.vars=[]/\Input.okWide C.prog (w.forCall tape i) .any w.heap.size f i ∧
   ((s.pre enc C.prog fn conds apart (w.forCall tape i).memory i.args/\X (w.forCall tape i).memory i.args)/\sizedMet enc C.prog fn (OpenSpec.ofChange s) apart (w.forCall tape i).memory i.args)/\a.holds C.prog (lone (Frame.enter C.prog f i.args .normal) [] (w.forCall tape i)))
  (contract:∀(W:World) (base:Nat) (args:Array Value) (ds gs:List (DataW H)) (before:List MemPlace),
   (∀(j:Nat) t v,fn.params[j]?=some t->args[j]?=some v->Value.okWide C.prog W .any base t v) →
   DataW.Whole enc C.prog fn.params.toList s.vars apart W args.toList ds gs before →
   (DataW.weightsEach C.prog (fn.params.toList++s.plain.varTypes C.prog) (ds++gs)).all (· <= reachBytes)=true->X W args->W.ShapedOpen C.prog →
   Calls C.prog f args W fun e W'=>∃v,e=.returned v/\s.post enc C.prog fn apart fresh handsOn again W args v W') :
  ReturnsInHanded a C os f .any (fun w args=>(s.pre enc C.prog fn conds apart w args/\X w args)/\sizedMet enc C.prog fn (OpenSpec.ofChange s) apart w args) (s.post enc C.prog fn apart fresh handsOn again):=by
 refine returnsInHanded_of_calls own started noInit witness ?_
 intro w tape i _ hsh _ hok hpre _;obtain⟨_,_,_,fn',hfn',_,_,_,_,hval⟩:=hok
 have e:fn'=fn:=yci (hfn'.symm.trans hfn)
 subst e;obtain⟨⟨⟨ds,gs,before,hw,hc⟩,hx⟩,hz⟩:=hpre
 have hw':=DataW.Whole.of_heap (w':=w.forCall tape i) (by rfl) hw
 refine(contract (w.forCall tape i) w.heap.size i.args ds gs before hval hw' (hz.weights hw) (hX _ _ _ (by rfl) hx) hsh).mono fun e W' ⟨v,he,hp⟩=>?_
 grind [ChangeSpec.post_blind]
variable {w:World}{base:Nat}{spare:Nat->Bool}{held:Bool}{fuel:Nat}{t e:TypeId}{cs:List Value}{ps:List MemPlace}
theorem AV{α:Type}{g:α->DataW H}{u:α->Value}{l:List α}{n:Nat}(ht:P.underlying t=some (.array n e))(hc:P.cellsOf e=1)(hn:P.cellsOf t=n)
  (h1:∀(m:Nat) (c:List Value) (x:DataW H × List MemPlace) (a:α),DataW.trod enc P w base spare held m e c=some x->x.1=g a->c=[u a])
  (h:DataW.trod enc P w base spare held fuel t cs=some (.agg (l.map g),ps)):cs=l.map u:=by
 obtain⟨xs,m,_,hx,hlen,hxs,hel⟩:=DataW.trod_array ht h
 simp only[Prod.mk.injEq,DataW.agg.injEq]at hx;have hl:l.length=n:=by have:=congrArg List.length hx.1;grind
 rw[hn]at hlen;refine List.ext_getElem (by rw[hlen,ybf,hl]) fun i hi1 hi2=>?_
 have hi:i<n:=by omega
 have:=hel i hi
 rw[hc]at this;have hc1:((cs.drop (i*1)).take 1)=[cs[i]]:=by
  grind [List.drop_eq_getElem_cons]
 rw[hc1,ybd (by omega)]at this
 have hxi:xs[i].1=g (l[i]'(by omega)):=by
  have:=congrArg (fun z=>z[i]?) hx.1
  grind
 grind
def DJ(he:P.underlying e=some .string)(m:Nat)(c:List Value)(x:DataW H × List MemPlace)(b:List UInt8)(h:DataW.trod enc P w base spare held m e c=some x)(hx:x.1=.lit (.string b)):c=[.string ⟨b.toArray⟩]:=by
 obtain⟨s,rfl,rfl,_⟩:=DataW.trod_string he h
 simp at hx;rw[<- hx]
def zck(he:P.underlying e=some (.int .i64))(m:Nat)(c:List Value)(x:DataW H × List MemPlace)(n:Int)(h:DataW.trod enc P w base spare held m e c=some x)(hx:x.1=.lit (.int .i64 n)):c=[.int .i64 n]:=by
 obtain⟨k,rfl,rfl,_⟩:=DataW.trod_int he h
 simp at hx;rw[hx]
end
theorem joined_of{P:Program}   {c:OpenClaim}
  (A:(c.wf (OpenSpec.ofChange s)&&laidOutB P&&mapsRowed P&&fn.params.all (P.readableRec ·)&&namedTie P c.named s.vars&&(c.stops == [])&&(P.stops == [])&&(c.knobs == [])&&(P.stopKnobs == []))=true)
  (h1:(c.inPlace == P.inPlace f)=true) (h2:(c.unfollowed == P.unfollowed f)=true) (h3:(c.recurses == P.recurses f)=true) (h4:(c.named == P.varsNamed f)=true)
  (E:((c.maps == (fn.params.toList++s.plain.varTypes P).any (P.mapsRec ·))&&(c.ifaces == (fn.params.toList++s.plain.varTypes P).any (P.ifacesRec ·))&&(c.mapsOut == P.mapsAmong fn.resultTypes.toList) &&
   (c.loops == (fn.params.toList++s.plain.varTypes P).any (P.loopsFrom ·))&&(c.wideKeys == (fn.params.toList++s.plain.varTypes P++fn.resultTypes.toList).any (P.wideKeysFrom ·)) &&
   s.vars.all (P.varReadable ·)&&fn.resultTypes.all (fun t=>P.readableRec t&&decide (t<P.types.size))&&(c.ifacesOut == fn.resultTypes.toList.any (P.ifacesRec ·))&&(c.loopsOut == fn.resultTypes.toList.any (P.loopsFrom ·))&&c.shortTexts.isNone)=true)
  (h5:(c.plainKeys == P.plainKeys)=true) (h6:P.stopsHeard=true) (h7:P.mayEnter=true) (h8:(c.lifted == P.liftsFinal)=true)
  (R:((P.make == some c.make)&&(c.kinds == (if c.domain.isEmpty then []else fn.params.toList.map fun t=>match P.underlying t with | some (.int k)=>some k | _=>none))&&(c.pinned == c.pinnedBy) &&
   (c.veiled == (fn.params.toList++s.plain.varTypes P++fn.resultTypes.toList).any (P.veiledRec ·))&&c.veiledFits P fn.params.toList (fn.params.toList++s.plain.varTypes P++fn.resultTypes.toList))=true) :
  joinedFacts P f fn s c=true:=by
 unfold joinedFacts;simp only[ybb]at A E R ⊢
 grind
end Go.Am
namespace Go.Proofs.YtfmlbimokklmgaaGreatDoor
open Go Go.Am Go.RowKit Go.ChangeShapes Go.WideShapes Go.ChangeAt
variable {W:World}{g:Nat}
theorem own:ownKnob Tryz.prog.godebug=none:=by kernel_rfl
def laidOut:laidOutB Tryz.prog=true:=by kernel_rfl
def gLens : Tryz.prog.globalNamed "annuitant/calendar.lengths" = some 2 := by kernel_rfl
def gKinds : Tryz.prog.globalNamed "annuitant/parse.kindWords" = some 1 := by kernel_rfl
def gModes : Tryz.prog.globalNamed "annuitant/parse.modeWords" = some 4 := by kernel_rfl
def tLens:(Tryz.prog.globals[2]?).map (·.type)=some 219:=by kernel_rfl
def tKinds:(Tryz.prog.globals[1]?).map (·.type)=some 201:=by kernel_rfl
def tModes:(Tryz.prog.globals[4]?).map (·.type)=some 201:=by kernel_rfl
def laid3 : List (String × DataW Unit) := [("annuitant/calendar.lengths", Rows.laid_annuitant_calendar_lengths), ("annuitant/parse.kindWords", Rows.laid_annuitant_parse_kindWords), ("annuitant/parse.modeWords", Rows.laid_annuitant_parse_modeWords)]
def door_met(os:Os)(args:Array Value):laidMetH Tryz.prog laid3 ((World.doorLaid Tryz.prog 24 os).forCall (fun _ _=>0) ⟨#[],args,[]⟩).memory:=
 laidMetH_of_parts3 (fuel:=8) (laidMet_of_run' 8 (by kernel_rfl) (by kernel_rfl)) (by kernel_rfl) (by kernel_rfl)
def Tv {n:String} {cs:Array Value}(hg:Tryz.prog.globalNamed n=some g)(hv:W.var? Tryz.prog n=some cs)(hc:∃c t,W.heap[g]?=some (.cells c t (0,0))):∃t,W.heap[g]?=some (.cells cs t (0,0)):=by
 obtain⟨c,t,hc⟩:=hc
 unfold World.var? at hv
 rw[hg]at hv;simp only[yai,hc,Option.some.injEq]at hv;subst hv;exact⟨t,hc⟩
def Wk{n:Nat}{p q:List MemPlace}(h:0<n):MemPlace.cell g 0∈MemPlace.row ⟨g,0,none⟩ n++p++q:=
 ydc _ (ydc _ (yaq.2 ⟨0,List.mem_range.2 h,rfl⟩))
def laid_of (h:laidMetH Tryz.prog laid3 W)(hsh:W.ShapedOpen Tryz.prog):aM W:=by
 rw[MakeChecks.laidMetH_plain _ _ _ (by kernel_rfl)]at h
 obtain⟨ps,⟨g0,t0,cs0,f0,p0,q0,hg0,ht0,hv0,hd0,⟨g1,t1,cs1,f1,p1,q1,hg1,ht1,hv1,hd1,⟨g2,t2,cs2,f2,p2,q2,hg2,ht2,hv2,hd2,_,hp2⟩,hp1⟩,hp0⟩,_,hcell⟩:=h
 obtain rfl:=yci (gLens.symm.trans hg0)
 obtain rfl:=yci (gKinds.symm.trans hg1)
 obtain rfl:=yci (gModes.symm.trans hg2)
 obtain rfl:=yci (tLens.symm.trans ht0)
 obtain rfl:=yci (tKinds.symm.trans ht1)
 obtain rfl:=yci (tModes.symm.trans ht2)
 have c3:Tryz.prog.cellsOf 3=1:=by kernel_rfl
 have c9:Tryz.prog.cellsOf 9=1:=by kernel_rfl
 have c201:Tryz.prog.cellsOf 201=7:=by kernel_rfl
 have c219:Tryz.prog.cellsOf 219=12:=by kernel_rfl
 have e0:cs0.toList=cX nZ:=AV (l:=nZ) (g:=fun n=>.lit (.int .i64 n)) (u:=fun n=>.int .i64 n) Tryz.underlying219 c3 c219 (fun m c x a=>zck Tryz.underlying3 m c x a) hd0
 have e1:cs1.toList=fS jZ:=AV (l:=jZ) (g:=fun b=>.lit (.string b)) (u:=fun b=>.string ⟨b.toArray⟩) Tryz.underlying201 c9 c201 (fun m c x a=>DJ Tryz.underlying9 m c x a) hd1
 have e2:cs2.toList=fS vZ:=AV (l:=vZ) (g:=fun b=>.lit (.string b)) (u:=fun b=>.string ⟨b.toArray⟩) Tryz.underlying201 c9 c201 (fun m c x a=>DJ Tryz.underlying9 m c x a) hd2
 have s0:cs0=(cX nZ).toArray:=by rw[<- e0]
 have s1:cs1=(fS jZ).toArray:=by rw[<- e1]
 have s2:cs2=(fS vZ).toArray:=by rw[<- e2]
 subst s0 s1 s2
 have m0:MemPlace.cell 2 0∈ps:=by rw[hp0];exact Wk (by decide)
 have m1:MemPlace.cell 1 0∈ps:=by rw[hp0,hp1];exact ycf _ (Wk (by decide))
 have m2:MemPlace.cell 4 0∈ps:=by rw[hp0,hp1,hp2];exact ycf _ (ycf _ (Wk (by decide)))
 exact⟨Tv hg1 hv1 (hcell 1 0 m1).1,Tv hg2 hv2 (hcell 4 0 m2).1,Tv hg0 hv0 (hcell 2 0 m0).1,Tryz.laysM144.s1_3 W hsh⟩
def stopsHeard:Tryz.prog.stopsHeard=true:=by kernel_rfl
def mayEnter:Tryz.prog.mayEnter=true:=by kernel_rfl
def bool4:Tryz.prog.underlying 4=some .bool:=Tryz.underlying4
end Go.Proofs.YtfmlbimokklmgaaGreatDoor
namespace Go.Am
open Go Go.RowKit Go.Proofs
def MS(a:ByteArray):∀b∈rF a,b<256:=by
 intro b hb;unfold rF at hb;obtain⟨x,_,rfl⟩:=yaq.1 hb
 exact x.toNat_lt
end Go.Am
namespace Go.Proofs.YtfmlbimokklmgaaGreatDoor
open Go Go.Am Go.RowKit
def val_str{W:World}{base:Nat}{v:Value}(h:Value.okWide Tryz.prog W .any base 9 v):∃s,v=.string s:=by
 have hu:=Tryz.underlying9
 unfold Value.okWide at h;rw[hu]at h;have h:Value.ok Tryz.prog W .any base 9 v:=h
 unfold Value.ok at h;rw[hu]at h
 cases v<;>first | exact⟨_,rfl⟩ | exact h.elim
end Go.Proofs.YtfmlbimokklmgaaGreatDoor
namespace Go.Am
open Go Go.RowKit
theorem Tr.pick(p:Nat->Bool)(t:Tr vA):∀n:Nat,∃t':Tr vA,∀b,t'.get b=if b<n/\p b=true then none else t.get b:=by
 intro n;induction n with
 | zero=>exact⟨t,fun b=>by simp⟩
 | succ n ih=>
  obtain⟨t',h⟩:=ih
  cases hp:p n with
  | false=>exact⟨t',fun b=>by rw[h];by_cases hb:b=n<;>grind⟩
  | true=>exact⟨t'.del n,fun b=>by rw[Tr.get_del,h];by_cases hb:b=n<;>grind⟩
section
variable {C:oA}{F:Tr wE}{f:Nat}{args:List zA}{tf t:Tr vA}{Q:sB}
theorem Wc.under(h:Wc C F f args tf Q)(hle:aA tf t):Wc C F f args t fun v t'=>∃tf',Q v tf'/\aA tf' t'/\∀b y,t.get b=some y->tf.get b=none->t'.get b=some y/\tf'.get b=none:=by
 intro X HA ho;have hX:Ov C.base tf (fun b=>match tf.get b with | some _=>none | none=>match t.get b with | some y=>some y | none=>X b) HA:=by
  refine⟨ho.base,fun b hb=>?_,fun b y hb=>?_,fun b y hb=>ho.lt _ _ (hle _ _ hb)⟩
  ·cases h1:tf.get b with
   | some y=>rw[ho.up (hle _ _ h1)]
   | none=>
    simp only[h1]at hb
    cases h2:t.get b with
    | some y=>simp[h2]at hb
    | none=>simp only[h2]at hb;rw[ho.same b hb,h2]
  ·cases h1:tf.get b with
   | some y=>simp[h1]at hb
   | none=>
    simp only[h1]at hb
    cases h2:t.get b with
    | some z=>simp only[h2]at hb;cases hb;exact⟨ho.up h2,rfl,ho.lt _ _ h2⟩
    | none=>simp only[h2]at hb;obtain⟨e1,e2,e3⟩:=ho.ext _ _ hb;exact⟨e1,rfl,e3⟩
 obtain⟨v,tf',HA',X',h1,h2,h3,h4⟩:=tQ.1 (h _ _ hX)
 have hk:∀b y,t.get b=some y->tf.get b=none->X' b=some y:=fun b y g1 g2=>h3 b y (by simp only[g2,g1])
 obtain⟨t',ht'⟩:=Tr.pick (fun b=>(X' b).isSome && !(tf.get b).isNone.not && !((t.get b).isSome&&(tf.get b).isNone)) HA'.t HA'.next
 have hbase:=h2.base
 refine tQ.2 ⟨v,t',HA',fun b=>if ((X' b).isSome && !(tf.get b).isNone.not && !((t.get b).isSome&&(tf.get b).isNone))=true then X' b else none,h1,⟨h2.base,fun b hb=>?_,fun b y hb=>?_,fun b y hb=>?_⟩,?_,tf',h4,?_,?_⟩
 ·rw[ht']
  split
  ·rename_i hc;rw[yab hc.2]at hb;rw[hb]at hc;simp at hc
  ·rfl
 ·split at hb
  ·rename_i hc
   obtain⟨e1,e2,e3⟩:=h2.ext b y hb
   exact⟨e1,by rw[ht',yab ⟨e3,hc⟩],e3⟩
  ·cases hb
 ·rw[ht']at hb
  split at hb
  ·cases hb
  ·cases hx:X' b with
   | some z=>exact(h2.ext b z hx).2.2
   | none=>rw[h2.same b hx]at hb;exact h2.lt b y hb
 ·intro b y hb
  have g1:t.get b=none:=(ho.ext b y hb).2.1
  have g2:tf.get b=none:=by
   cases hx:tf.get b with
   | none=>rfl
   | some z=>rw[hle _ _ hx]at g1;cases g1
  have g3:X' b=some y:=h3 b y (by simp only[g2,g1,hb])
  simp[g1,g2,g3]
 ·intro b y hb
  rw[ht'];split
  ·rename_i hc
   cases hx:X' b with
   | none=>rw[hx]at hc;simp at hc
   | some z=>rw[(h2.ext b z hx).2.1]at hb;cases hb
  ·exact h2.up hb
 ·intro b y g1 g2
  have g3:=hk b y g1 g2
  refine⟨?_,(h2.ext b y g3).2.1⟩
  rw[ht',yaa]
  ·exact(h2.ext b y g3).1
  ·simp[g1,g2]
def Wc.objs{R:zA->Tr vA->Prop}{L:List kD}(h:Wc C F f args tf fun v tf'=>aA tf tf'/\R v tf')(ho:lA C.base tf t L)(hQ:∀v tf' t',aA tf tf'->lA C.base tf' t' L->R v tf'->Q v t'):Wc C F f args t Q:=by
 refine(Wc.under h ho.tle).mono fun v t' ⟨tf',⟨k1,k2⟩,k3,k4⟩=>hQ v tf' t' k1 ?_ k2
 refine ho.keep k1 k3 fun k hk=>?_
 obtain⟨y,hy⟩:=ho.live hk
 obtain⟨e1,e2⟩:=k4 k y hy (ho.low k hk).2
 exact⟨by rw[e1,hy],e2⟩
end
end Go.Am
