/- The trees of functions that may panic. (Printed by a tool; the kernel agrees.) -/
import Derived.Carry
import Derived.ChangeArms
import Derived.HandedShaped
import Derived.JoinedOf
import Derived.LaidMore
import Derived.OpenShut
import Derived.ProofKit
import Derived.Stop.Joined
import Derived.Test.YtfmlbimokklmgaaGreatDoorRows
import GoSem.ClaimJoined
import Derived.Test.YtfmlbimokklmgaaGreatDoorE15
set_option linter.all false
noncomputable section
set_option maxRecDepth 100000
namespace Go.Proofs
open Go Go.Am
variable {f kf:Nat}{fn:Func}{A:bD}{x:List zA}{U:T}
variable [gC]
def vF (f:Nat):Bool:=bH f [29,41,42,43,46,47,48,57,58,59,60,68,69,73,75,89,90,91,96,110,112,117,135,151,161,168,180,181,187]
abbrev rF(E:pB)(f:Nat)(T:T)(m:Tr vA)(Q:pB):Prop:=pA yA.base (jE yA F qC vF E) (JqE yA F E f) T m Q
abbrev mJ(E:pB)(f:Nat)(a:List zA)(m:Tr vA)(Q:pB):Prop:=lJ yA F E f a m Q
abbrev sH(E:pB)(f i:Nat)(a:List zA)(m:Tr vA)(Q:pB):Prop:=JqE yA F E f i a m Q
def pQ(f:Nat)(h:(qC f&&Nat.blt f yo)=true:=by kernel_rfl){E:pB}(a:List zA)(m:Tr vA)(R:pB):jE yA F qC vF E f a m R=vE (sC yA F f a m) fun v=>R v m:=yab h
def pW(f:Nat)(h:(qC f&&Nat.blt f yo)=false:=by kernel_rfl)(h1:Nat.beq f pn=false:=by kernel_rfl)(h2:(vF f&&Nat.blt f pn)=false:=by kernel_rfl){E:pB}(a:List zA)(m:Tr vA)(R:pB):jE yA F qC vF E f a m R=Wc yA F f a m R:=by unfold jE;rw[h,h1,h2];simp
def pE(f:Nat)(h:(qC f&&Nat.blt f yo)=false:=by kernel_rfl)(h1:Nat.beq f pn=false:=by kernel_rfl)(h2:(vF f&&Nat.blt f pn)=true:=by kernel_rfl){E:pB}(a:List zA)(m:Tr vA)(R:pB):jE yA F qC vF E f a m R=lJ yA F E f a m R:=by unfold jE;rw[h,h1,h2];simp
def pX{E:pB}(v:zA)(m:Tr vA)(R:pB)(h:E v m):jE yA F qC vF E pn [v] m R:=by unfold jE;rw[show(qC pn&&Nat.blt pn yo)=false by kernel_rfl,show Nat.beq pn pn=true by kernel_rfl];simp[h]
variable {E:pB}{m:Tr vA}{Q:pB}
def gA     (h:rM yA F f fn kf A)(k:rF E f U m Q)(h0:rK A.code=[]:=by kernel_rfl)(h1:(Nat.ble (zB x) kf&&Nat.ble (zB x) fn.ntmps)=true:=by kernel_rfl)(h2:entT yA fn kf f A x=U:=by kernel_rfl):mJ E f x m Q:=zf0 (AM (by kernel_rfl)) AL h (.inr h0) h1 (by rw[h2];exact k)
def gJ{i:Nat}    (h:rM yA F f fn kf A)(k:rF E f U m Q)(h0:rK A.code=[]:=by kernel_rfl)(h2:Eb (ptsT yA fn kf f A) i x=[U]:=by kernel_rfl):sH E f i x m Q:=NI (AM (by kernel_rfl)) AL h (.inr h0) h2 k
def t29 (p0:zA):T:=
 .heavy (tK yA 27) fun a0=>
 .heavy (eC yA 93 1 [(0,(.str [112,108,97,110]))]) fun a1=>
 .call 57 [p0,a1] fun a2=>
 .call 58 [p0] fun a3=>
 .asS a3 fun s4=>.opt (nC yA 27 0 a0) fun a5=>.heavy (zC yA 9 a5 (.str s4)) fun _=>
 .call 59 [p0,(.int .u8 5)] fun a6=>
 .asG [(.int .u8 0),(.str []),(.int .i64 0),(.int .i64 0)] a6 fun X7=>
 .jump 2 [p0,a0,(.str []),.nilslice,.nilslice,.nilslice]
def w29(p0:zA)(h:rF E 29 (t29 p0) m Q):mJ E 29 [p0] m Q:=gA (oF 29) h
def Ol(v0 v3:zA)(c2_0:List Nat)(c2_1 c2_2 c2_3:zA):T:=
 .opt (iF v0) fun a0=>.opt (nC yA 121 1 a0) fun a1=>.light (fun m=>lA yA 3 ⟨0,m⟩ a1) fun a2=>.asI .i64 a2 fun n3=>.opt (iF v0) fun a4=>.opt (nC yA 121 0 a4) fun a5=>.light (fun m=>lA yA 66 ⟨0,m⟩ a5) fun a6=>.opt (uC a6) fun a7=>.asI .i64 a7 fun n8=>.ite (cB n3 n8)
 (.call 60 [v0,v3] fun a9=>
 .call 59 [v0,(.int .u8 5)] fun a10=>
 .asG [(.int .u8 0),(.str []),(.int .i64 0),(.int .i64 0)] a10 fun X11=>
 .jump 2 [v0,v3,(.str c2_0),c2_1,c2_2,c2_3])
 (.light (fun m=>lA yA 27 ⟨0,m⟩ v3) fun a12=>.asG [(.str []),.nilslice,.nilslice,.nilslice] a12 fun X13=>
 .ite (aB zA.one [(.str (X13.s 0)),(X13.v 1),(X13.v 2),(X13.v 3)]) (.ret (.agg [(.str (X13.s 0)),(X13.v 1),(X13.v 2),(X13.v 3)])) .fail)
def zif(v0 v3:zA)(c2_0:List Nat)(c2_1 c2_2 c2_3:zA)(h:rF E 29 (Ol v0 v3 c2_0 c2_1 c2_2 c2_3) m Q):sH E 29 2 [v0,v3,(.str c2_0),c2_1,c2_2,c2_3] m Q:=gJ (oF 29) h
def t42 (p0:zA):T:=
 .ite true (.heavy (eC yA 161 1 [(0,(.agg [(.str [111,114]),(.int .u8 16)]))]) fun a0=>
 .call 68 [p0,(.func (.func 69) [p0] []),a0] fun a1=>
 .asG [(.int .u8 0),(.str []),(.int .u8 0),(.bool false),.nilslice,(.bool false),.nilslice,(.int .i64 0),.nilslice] a1 fun X2=>
 .ite (aB zA.one [(.int .u8 (X2.i 0)),(.str (X2.s 1)),(.int .u8 (X2.i 2)),(.bool (X2.b 3)),(X2.v 4),(.bool (X2.b 5)),(X2.v 6),(.int .i64 (X2.i 7)),(X2.v 8)]) (.ret (.agg [(.int .u8 (X2.i 0)),(.str (X2.s 1)),(.int .u8 (X2.i 2)),(.bool (X2.b 3)),(X2.v 4),(.bool (X2.b 5)),(X2.v 6),(.int .i64 (X2.i 7)),(X2.v 8)])) .fail) .fail
def w42(p0:zA)(h:rF E 42 (t42 p0) m Q):mJ E 42 [p0] m Q:=gA (oF 42) h
def t47 (p0:zA):T:=
 .call 71 [p0] fun a0=>
 .asG [(.int .u8 0),(.str []),(.int .i64 0),(.int .i64 0)] a0 fun X1=>
 .ite true (.call 72 [p0,(.str [116,114,117,101])] fun a2=>
 .asB a2 fun b3=>.ite b3
 (.ite true (.ite true (.ret (.tup [(.agg [(.int .u8 1),(.bool false),.nilslice,(.bool false),.nilslice,(.int .i64 1)]),(.bool true)])) .fail) .fail)
 (.call 72 [p0,(.str [102,97,108,115,101])] fun a4=>
 .asB a4 fun b5=>.ite b5
 (.ite true (.ite true (.ret (.tup [(.agg [(.int .u8 1),(.bool false),.nilslice,(.bool false),.nilslice,(.int .i64 0)]),(.bool true)])) .fail) .fail)
 (.ite (oB (X1.i 0) 3)
 (.call 73 [p0] fun a6=>
 .asI .i64 a6 fun n7=>.ite true (.ite true (.ret (.tup [(.agg [(.int .u8 4),(.bool false),.nilslice,(.bool false),.nilslice,(.int .i64 n7)]),(.bool true)])) .fail) .fail)
 (.call 72 [p0,(.str [109,111,110,101,121])] fun a8=>
 .asB a8 fun b9=>.ite b9
 (.call 72 [p0,(.str [109,105,110,117,115])] fun a10=>
 .asB a10 fun b11=>.call 59 [p0,(.int .u8 2)] fun a12=>
 .asG [(.int .u8 0),(.str []),(.int .i64 0),(.int .i64 0)] a12 fun X13=>
 .call 74 [(.str (X13.s 1)),(.bool b11)] fun a14=>
 .asG [(.bool false),.nilslice,(.bool false),.nilslice] a14 fun X15=>
 .ite true (.ite (aB zA.one [(.int .u8 3),(.bool (X15.b 0)),(X15.v 1),(.bool (X15.b 2)),(X15.v 3),(.int .i64 0)]) (.ret (.tup [(.agg [(.int .u8 3),(.bool (X15.b 0)),(X15.v 1),(.bool (X15.b 2)),(X15.v 3),(.int .i64 0)]),(.bool true)])) .fail) .fail)
 (.call 72 [p0,(.str [109,105,110,117,115])] fun a16=>
 .asB a16 fun b17=>.ite b17
 (.call 75 [p0,(.bool true)] fun a18=>
 .asG [(.int .u8 0),(.bool false),.nilslice,(.bool false),.nilslice,(.int .i64 0)] a18 fun X19=>
 .ite (aB zA.one [(.int .u8 (X19.i 0)),(.bool (X19.b 1)),(X19.v 2),(.bool (X19.b 3)),(X19.v 4),(.int .i64 (X19.i 5))]) (.ret (.tup [(.agg [(.int .u8 (X19.i 0)),(.bool (X19.b 1)),(X19.v 2),(.bool (X19.b 3)),(X19.v 4),(.int .i64 (X19.i 5))]),(.bool true)])) .fail)
 (.ite (oB (X1.i 0) 2)
 (.call 75 [p0,(.bool false)] fun a20=>
 .asG [(.int .u8 0),(.bool false),.nilslice,(.bool false),.nilslice,(.int .i64 0)] a20 fun X21=>
 .ite (aB zA.one [(.int .u8 (X21.i 0)),(.bool (X21.b 1)),(X21.v 2),(.bool (X21.b 3)),(X21.v 4),(.int .i64 (X21.i 5))]) (.ret (.tup [(.agg [(.int .u8 (X21.i 0)),(.bool (X21.b 1)),(X21.v 2),(.bool (X21.b 3)),(X21.v 4),(.int .i64 (X21.i 5))]),(.bool true)])) .fail)
 (.ite true (.ite true (.ret (.tup [(.agg [(.int .u8 0),(.bool false),.nilslice,(.bool false),.nilslice,(.int .i64 0)]),(.bool false)])) .fail) .fail))))))) .fail
def w47(p0:zA)(h:rF E 47 (t47 p0) m Q):mJ E 47 [p0] m Q:=gA (oF 47) h
def t48 (p0:zA)(p1:Int):T:=
 .call 71 [p0] fun a0=>
 .asG [(.int .u8 0),(.str []),(.int .i64 0),(.int .i64 0)] a0 fun X1=>
 .ite true (.call pn [(.iface 123 (.agg [(.int .i64 (X1.i 2)),(.int .i64 (X1.i 3)),(.int .i64 p1)]))] fun a2=>
 .ret (.tup [])) .fail
def w48(p0:zA)(p1:Int)(h:rF E 48 (t48 p0 p1) m Q):mJ E 48 [p0,(.int .i64 p1)] m Q:=gA (oF 48) h
def t57 (p0 p1:zA):T:=
 .opt (uC p1) fun a0=>.asI .i64 a0 fun n1=>.jump 2 [p0,p1,(.int .i64 n1),(.int .i64 0)]
def w57(p0 p1:zA)(h:rF E 57 (t57 p0 p1) m Q):mJ E 57 [p0,p1] m Q:=gA (oF 57) h
def zg6(v0 v6:zA)(v7 v8:Int):T:=
 .ite (cB v8 v7)
 (.opt (wC yA 93 v6 (.int .i64 v8)) fun a0=>.light (fun m=>lA yA 9 ⟨0,m⟩ a0) fun a1=>.asS a1 fun s2=>.call 72 [v0,(.str s2)] fun a3=>
 .asB a3 fun b4=>.ite (!b4)
 (.call 48 [v0,(.int .i64 120)] fun a5=>
 .jump 2 [v0,v6,(.int .i64 v7),(.int .i64 (iA .i64 (v8+1)))])
 (.jump 2 [v0,v6,(.int .i64 v7),(.int .i64 (iA .i64 (v8+1)))]))
 (.ret (.tup []))
def j57_2(v0 v6:zA)(v7 v8:Int)(h:rF E 57 (zg6 v0 v6 v7 v8) m Q):sH E 57 2 [v0,v6,(.int .i64 v7),(.int .i64 v8)] m Q:=gJ (oF 57) h
def t58 (p0:zA):T:=
 .call 88 [p0] fun a0=>
 .asB a0 fun b1=>.ite (!b1)
 (.call 48 [p0,(.int .i64 120)] fun a2=>
 .call 59 [p0,(.int .u8 1)] fun a3=>
 .asG [(.int .u8 0),(.str []),(.int .i64 0),(.int .i64 0)] a3 fun X4=>
 .ret (.str (X4.s 1)))
 (.call 59 [p0,(.int .u8 1)] fun a5=>
 .asG [(.int .u8 0),(.str []),(.int .i64 0),(.int .i64 0)] a5 fun X6=>
 .ret (.str (X6.s 1)))
def w58(p0:zA)(h:rF E 58 (t58 p0) m Q):mJ E 58 [p0] m Q:=gA (oF 58) h
def t59 (p0:zA)(p1:Int):T:=
 .call 71 [p0] fun a0=>
 .asG [(.int .u8 0),(.str []),(.int .i64 0),(.int .i64 0)] a0 fun X1=>
 .ite true (.ite (!oB (X1.i 0) p1)
 (.call 48 [p0,(.int .i64 120)] fun a2=>
 .jump 9 [p0,(.int .u8 0),(.str []),(.int .i64 0),(.int .i64 0),(.int .u8 (X1.i 0)),(.str (X1.s 1)),(.int .i64 (X1.i 2)),(.int .i64 (X1.i 3))])
 (.jump 9 [p0,(.int .u8 0),(.str []),(.int .i64 0),(.int .i64 0),(.int .u8 (X1.i 0)),(.str (X1.s 1)),(.int .i64 (X1.i 2)),(.int .i64 (X1.i 3))])) .fail
def w59(p0:zA)(p1:Int)(h:rF E 59 (t59 p0 p1) m Q):mJ E 59 [p0,(.int .u8 p1)] m Q:=gA (oF 59) h
def t59_9(v0:zA)(c4_0:Int)(c4_1:List Nat)(c4_2 c4_3 c5_0:Int)(c5_1:List Nat)(c5_2 c5_3:Int):T:=
 .opt (iF v0) fun a0=>.opt (nC yA 121 1 a0) fun a1=>.light (fun m=>lA yA 3 ⟨0,m⟩ a1) fun a2=>.asI .i64 a2 fun n3=>.opt (iF v0) fun a4=>.opt (nC yA 121 1 a4) fun a5=>.heavy (zC yA 3 a5 (.int .i64 (iA .i64 (n3+1)))) fun _=>
 .ite true (.ret (.agg [(.int .u8 c5_0),(.str c5_1),(.int .i64 c5_2),(.int .i64 c5_3)])) .fail
def j59_9(v0:zA)(c4_0:Int)(c4_1:List Nat)(c4_2 c4_3 c5_0:Int)(c5_1:List Nat)(c5_2 c5_3:Int)(h:rF E 59 (t59_9 v0 c4_0 c4_1 c4_2 c4_3 c5_0 c5_1 c5_2 c5_3) m Q):sH E 59 9 [v0,(.int .u8 c4_0),(.str c4_1),(.int .i64 c4_2),(.int .i64 c4_3),(.int .u8 c5_0),(.str c5_1),(.int .i64 c5_2),(.int .i64 c5_3)] m Q:=gJ (oF 59) h
def t60 (p0 p1:zA):T:=
 .opt (iF p1) fun a0=>.opt (nC yA 27 2 a0) fun a1=>.light (fun m=>lA yA 24 ⟨0,m⟩ a1) fun a2=>.opt (uC a2) fun a3=>.asI .i64 a3 fun n4=>.call 72 [p0,(.str [102,97,99,116])] fun a5=>
 .asB a5 fun b6=>.ite b6
 (.opt (iF p1) fun a7=>.opt (nC yA 27 1 a7) fun a8=>.light (fun m=>lA yA 23 ⟨0,m⟩ a8) fun a9=>.call 89 [p0,(.bool true)] fun a10=>
 .asG [(.str []),(.int .u8 0),(.bool false)] a10 fun X11=>
 .light (fun m=>lA yA 23 ⟨0,m⟩ a8) fun a12=>.ite (same 10 a12 a9) (.heavy (eC yA 23 1 [(0,(.agg [(.str (X11.s 0)),(.int .u8 (X11.i 1)),(.bool (X11.b 2))]))]) fun a13=>
 .light (fun m=>lA yA 23 ⟨0,m⟩ a8) fun a14=>.ite (same 10 a14 a9) (.heavy (cG yA 23 23 a9 a13) fun a15=>
 .opt (iF p1) fun a16=>.opt (nC yA 27 1 a16) fun a17=>.heavy (zC yA 23 a17 a15) fun _=>
 .ret (.tup [])) .fail) .fail)
 (.call 72 [p0,(.str [100,101,102])] fun a18=>
 .asB a18 fun b19=>.ite b19
 (.opt (iF p1) fun a20=>.opt (nC yA 27 1 a20) fun a21=>.light (fun m=>lA yA 23 ⟨0,m⟩ a21) fun a22=>.call 89 [p0,(.bool false)] fun a23=>
 .asG [(.str []),(.int .u8 0),(.bool false)] a23 fun X24=>
 .light (fun m=>lA yA 23 ⟨0,m⟩ a21) fun a25=>.ite (same 10 a25 a22) (.heavy (eC yA 23 1 [(0,(.agg [(.str (X24.s 0)),(.int .u8 (X24.i 1)),(.bool (X24.b 2))]))]) fun a26=>
 .light (fun m=>lA yA 23 ⟨0,m⟩ a21) fun a27=>.ite (same 10 a27 a22) (.heavy (cG yA 23 23 a22 a26) fun a28=>
 .opt (iF p1) fun a29=>.opt (nC yA 27 1 a29) fun a30=>.heavy (zC yA 23 a30 a28) fun _=>
 .ret (.tup [])) .fail) .fail)
 (.call 72 [p0,(.str [116,97,98,108,101])] fun a31=>
 .asB a31 fun b32=>.ite b32
 (.call 58 [p0] fun a33=>
 .asS a33 fun s34=>.call 72 [p0,(.str [116,119,111])] fun a35=>
 .asB a35 fun b36=>.ite (!b36)
 (.heavy (eC yA 93 1 [(0,(.str [111,110,101]))]) fun a37=>
 .call 57 [p0,a37] fun a38=>
 .jump 23 [p1,(.str s34),(.bool b36)])
 (.jump 23 [p1,(.str s34),(.bool b36)]))
 (.ite (cB 0 n4)
 (.call 72 [p0,(.str [114,111,119])] fun a39=>
 .asB a39 fun b40=>.ite b40
 (.opt (iF p1) fun a41=>.opt (nC yA 27 2 a41) fun a42=>.light (fun m=>lA yA 24 ⟨0,m⟩ a42) fun a43=>.opt (wC yA 24 a43 (.int .i64 (iA .i64 (n4-1)))) fun a44=>.opt (iF a44) fun a45=>.opt (nC yA 130 2 a45) fun a46=>.light (fun m=>lA yA 128 ⟨0,m⟩ a46) fun a47=>.opt (iF a44) fun a48=>.opt (nC yA 130 1 a48) fun a49=>.light (fun m=>lA yA 4 ⟨0,m⟩ a49) fun a50=>.asB a50 fun b51=>.call 90 [p0,(.bool b51)] fun a52=>
 .asG [(.int .i64 0),(.int .i64 0),(.int .i64 0),(.bool false),.nilslice,(.bool false),.nilslice] a52 fun X53=>
 .light (fun m=>lA yA 128 ⟨0,m⟩ a46) fun a54=>.ite (same 10 a54 a47) (.heavy (eC yA 128 1 [(0,(.agg [(.int .i64 (X53.i 0)),(.int .i64 (X53.i 1)),(.int .i64 (X53.i 2)),(.bool (X53.b 3)),(X53.v 4),(.bool (X53.b 5)),(X53.v 6)]))]) fun a55=>
 .light (fun m=>lA yA 128 ⟨0,m⟩ a46) fun a56=>.ite (same 10 a56 a47) (.heavy (cG yA 128 128 a47 a55) fun a57=>
 .opt (iF a44) fun a58=>.opt (nC yA 130 2 a58) fun a59=>.heavy (zC yA 128 a59 a57) fun _=>
 .ret (.tup [])) .fail) .fail)
 (.call 72 [p0,(.str [99,108,97,117,115,101])] fun a60=>
 .asB a60 fun b61=>.ite b61
 (.opt (iF p1) fun a62=>.opt (nC yA 27 3 a62) fun a63=>.light (fun m=>lA yA 25 ⟨0,m⟩ a63) fun a64=>.call 91 [p0] fun a65=>
 .asG [(.str []),(.str []),(.int .i64 0),(.int .i64 0),(.int .i64 0),(.bool false),(.int .u8 0),(.str []),(.int .u8 0),(.bool false),.nilslice,(.bool false),.nilslice,(.int .i64 0),.nilslice,(.int .u8 0),(.str []),(.int .u8 0),(.bool false),.nilslice,(.bool false),.nilslice,(.int .i64 0),.nilslice] a65 fun X66=>
 .light (fun m=>lA yA 25 ⟨0,m⟩ a63) fun a67=>.ite (same 10 a67 a64) (.heavy (eC yA 25 1 [(0,(.agg [(.str (X66.s 0)),(.str (X66.s 1)),(.int .i64 (X66.i 2)),(.int .i64 (X66.i 3)),(.int .i64 (X66.i 4)),(.bool (X66.b 5)),(.int .u8 (X66.i 6)),(.str (X66.s 7)),(.int .u8 (X66.i 8)),(.bool (X66.b 9)),(X66.v 10),(.bool (X66.b 11)),(X66.v 12),(.int .i64 (X66.i 13)),(X66.v 14),(.int .u8 (X66.i 15)),(.str (X66.s 16)),(.int .u8 (X66.i 17)),(.bool (X66.b 18)),(X66.v 19),(.bool (X66.b 20)),(X66.v 21),(.int .i64 (X66.i 22)),(X66.v 23)]))]) fun a68=>
 .light (fun m=>lA yA 25 ⟨0,m⟩ a63) fun a69=>.ite (same 10 a69 a64) (.heavy (cG yA 25 25 a64 a68) fun a70=>
 .opt (iF p1) fun a71=>.opt (nC yA 27 3 a71) fun a72=>.heavy (zC yA 25 a72 a70) fun _=>
 .ret (.tup [])) .fail) .fail)
 (.call 48 [p0,(.int .i64 120)] fun a73=>
 .ret (.tup []))))
 (.call 72 [p0,(.str [99,108,97,117,115,101])] fun a74=>
 .asB a74 fun b75=>.ite b75
 (.opt (iF p1) fun a76=>.opt (nC yA 27 3 a76) fun a77=>.light (fun m=>lA yA 25 ⟨0,m⟩ a77) fun a78=>.call 91 [p0] fun a79=>
 .asG [(.str []),(.str []),(.int .i64 0),(.int .i64 0),(.int .i64 0),(.bool false),(.int .u8 0),(.str []),(.int .u8 0),(.bool false),.nilslice,(.bool false),.nilslice,(.int .i64 0),.nilslice,(.int .u8 0),(.str []),(.int .u8 0),(.bool false),.nilslice,(.bool false),.nilslice,(.int .i64 0),.nilslice] a79 fun X80=>
 .light (fun m=>lA yA 25 ⟨0,m⟩ a77) fun a81=>.ite (same 10 a81 a78) (.heavy (eC yA 25 1 [(0,(.agg [(.str (X80.s 0)),(.str (X80.s 1)),(.int .i64 (X80.i 2)),(.int .i64 (X80.i 3)),(.int .i64 (X80.i 4)),(.bool (X80.b 5)),(.int .u8 (X80.i 6)),(.str (X80.s 7)),(.int .u8 (X80.i 8)),(.bool (X80.b 9)),(X80.v 10),(.bool (X80.b 11)),(X80.v 12),(.int .i64 (X80.i 13)),(X80.v 14),(.int .u8 (X80.i 15)),(.str (X80.s 16)),(.int .u8 (X80.i 17)),(.bool (X80.b 18)),(X80.v 19),(.bool (X80.b 20)),(X80.v 21),(.int .i64 (X80.i 22)),(X80.v 23)]))]) fun a82=>
 .light (fun m=>lA yA 25 ⟨0,m⟩ a77) fun a83=>.ite (same 10 a83 a78) (.heavy (cG yA 25 25 a78 a82) fun a84=>
 .opt (iF p1) fun a85=>.opt (nC yA 27 3 a85) fun a86=>.heavy (zC yA 25 a86 a84) fun _=>
 .ret (.tup [])) .fail) .fail)
 (.call 48 [p0,(.int .i64 120)] fun a87=>
 .ret (.tup []))))))
def w60(p0 p1:zA)(h:rF E 60 (t60 p0 p1) m Q):mJ E 60 [p0,p1] m Q:=gA (oF 60) h
def zd2(v1:zA)(v5:List Nat)(v6:Bool):T:=
 .opt (iF v1) fun a0=>.opt (nC yA 27 2 a0) fun a1=>.light (fun m=>lA yA 24 ⟨0,m⟩ a1) fun a2=>.ite true (.heavy (eC yA 24 1 [(0,(.agg [(.str v5),(.bool v6),.nilslice]))]) fun a3=>
 .heavy (cG yA 24 24 a2 a3) fun a4=>
 .opt (iF v1) fun a5=>.opt (nC yA 27 2 a5) fun a6=>.heavy (zC yA 24 a6 a4) fun _=>
 .ret (.tup [])) .fail
def j60_23(v1:zA)(v5:List Nat)(v6:Bool)(h:rF E 60 (zd2 v1 v5 v6) m Q):sH E 60 23 [v1,(.str v5),(.bool v6)] m Q:=gJ (oF 60) h
def t68 (p0 p1 p2:zA):T:=
 .callv p1 [] fun a0=>
 .asG [(.int .u8 0),(.str []),(.int .u8 0),(.bool false),.nilslice,(.bool false),.nilslice,(.int .i64 0),.nilslice] a0 fun X1=>
 .ite (aB zA.one [(.int .u8 (X1.i 0)),(.str (X1.s 1)),(.int .u8 (X1.i 2)),(.bool (X1.b 3)),(X1.v 4),(.bool (X1.b 5)),(X1.v 6),(.int .i64 (X1.i 7)),(X1.v 8)]) (.jump 2 [p0,p1,p2,(.int .u8 0),(.str []),(.int .u8 0),(.bool false),.nilslice,(.bool false),.nilslice,(.int .i64 0),.nilslice,(.int .u8 (X1.i 0)),(.str (X1.s 1)),(.int .u8 (X1.i 2)),(.bool (X1.b 3)),(X1.v 4),(.bool (X1.b 5)),(X1.v 6),(.int .i64 (X1.i 7)),(X1.v 8)]) .fail
def w68(p0 p1 p2:zA)(h:rF E 68 (t68 p0 p1 p2) m Q):mJ E 68 [p0,p1,p2] m Q:=gA (oF 68) h
def zg5(v0 v1 v2:zA)(c6_0:Int)(c6_1:List Nat)(c6_2:Int)(c6_3:Bool)(c6_4:zA)(c6_5:Bool)(c6_6:zA)(c6_7:Int)(c6_8:zA)(c7_0:Int)(c7_1:List Nat)(c7_2:Int)(c7_3:Bool)(c7_4:zA)(c7_5:Bool)(c7_6:zA)(c7_7:Int)(c7_8:zA):T:=
 .call 95 [v0,v2] fun a0=>
 .opt (dG 0 a0) fun a1=>.asI .u8 a1 fun n2=>.opt (dG 1 a0) fun a3=>.asB a3 fun b4=>.ite (!b4)
 (.ite (aB zA.one [(.int .u8 c7_0),(.str c7_1),(.int .u8 c7_2),(.bool c7_3),c7_4,(.bool c7_5),c7_6,(.int .i64 c7_7),c7_8]) (.ret (.agg [(.int .u8 c7_0),(.str c7_1),(.int .u8 c7_2),(.bool c7_3),c7_4,(.bool c7_5),c7_6,(.int .i64 c7_7),c7_8])) .fail)
 (.callv v1 [] fun a5=>
 .asG [(.int .u8 0),(.str []),(.int .u8 0),(.bool false),.nilslice,(.bool false),.nilslice,(.int .i64 0),.nilslice] a5 fun X6=>
 .ite (aB zA.one [(.int .u8 (X6.i 0)),(.str (X6.s 1)),(.int .u8 (X6.i 2)),(.bool (X6.b 3)),(X6.v 4),(.bool (X6.b 5)),(X6.v 6),(.int .i64 (X6.i 7)),(X6.v 8)]) (.heavy (eC yA 48 2 [(0,(.agg [(.int .u8 c7_0),(.str c7_1),(.int .u8 c7_2),(.bool c7_3),c7_4,(.bool c7_5),c7_6,(.int .i64 c7_7),c7_8])),(1,(.agg [(.int .u8 (X6.i 0)),(.str (X6.s 1)),(.int .u8 (X6.i 2)),(.bool (X6.b 3)),(X6.v 4),(.bool (X6.b 5)),(X6.v 6),(.int .i64 (X6.i 7)),(X6.v 8)]))]) fun a7=>
 .ite (aB zA.one [(.int .u8 n2),a7]) (.ite (aB zA.one [(.int .u8 n2),(.str []),(.int .u8 0),(.bool false),.nilslice,(.bool false),.nilslice,(.int .i64 0),a7]) (.jump 2 [v0,v1,v2,(.int .u8 c6_0),(.str c6_1),(.int .u8 c6_2),(.bool c6_3),c6_4,(.bool c6_5),c6_6,(.int .i64 c6_7),c6_8,(.int .u8 n2),(.str []),(.int .u8 0),(.bool false),.nilslice,(.bool false),.nilslice,(.int .i64 0),a7]) .fail) .fail) .fail)
def j68_2(v0 v1 v2:zA)(c6_0:Int)(c6_1:List Nat)(c6_2:Int)(c6_3:Bool)(c6_4:zA)(c6_5:Bool)(c6_6:zA)(c6_7:Int)(c6_8:zA)(c7_0:Int)(c7_1:List Nat)(c7_2:Int)(c7_3:Bool)(c7_4:zA)(c7_5:Bool)(c7_6:zA)(c7_7:Int)(c7_8:zA)(h:rF E 68 (zg5 v0 v1 v2 c6_0 c6_1 c6_2 c6_3 c6_4 c6_5 c6_6 c6_7 c6_8 c7_0 c7_1 c7_2 c7_3 c7_4 c7_5 c7_6 c7_7 c7_8) m Q):sH E 68 2 [v0,v1,v2,(.int .u8 c6_0),(.str c6_1),(.int .u8 c6_2),(.bool c6_3),c6_4,(.bool c6_5),c6_6,(.int .i64 c6_7),c6_8,(.int .u8 c7_0),(.str c7_1),(.int .u8 c7_2),(.bool c7_3),c7_4,(.bool c7_5),c7_6,(.int .i64 c7_7),c7_8] m Q:=gJ (oF 68) h
def t69 (p0:zA):T:=
 .ite true (.heavy (eC yA 161 1 [(0,(.agg [(.str [97,110,100]),(.int .u8 15)]))]) fun a0=>
 .call 68 [p0,(.func (.func 96) [p0] []),a0] fun a1=>
 .asG [(.int .u8 0),(.str []),(.int .u8 0),(.bool false),.nilslice,(.bool false),.nilslice,(.int .i64 0),.nilslice] a1 fun X2=>
 .ite (aB zA.one [(.int .u8 (X2.i 0)),(.str (X2.s 1)),(.int .u8 (X2.i 2)),(.bool (X2.b 3)),(X2.v 4),(.bool (X2.b 5)),(X2.v 6),(.int .i64 (X2.i 7)),(X2.v 8)]) (.ret (.agg [(.int .u8 (X2.i 0)),(.str (X2.s 1)),(.int .u8 (X2.i 2)),(.bool (X2.b 3)),(X2.v 4),(.bool (X2.b 5)),(X2.v 6),(.int .i64 (X2.i 7)),(X2.v 8)])) .fail) .fail
def w69(p0:zA)(h:rF E 69 (t69 p0) m Q):mJ E 69 [p0] m Q:=gA (oF 69) h
def t73 (p0:zA):T:=
 .call 59 [p0,(.int .u8 3)] fun a0=>
 .asG [(.int .u8 0),(.str []),(.int .i64 0),(.int .i64 0)] a0 fun X1=>
 .call 97 [(.str (X1.s 1))] fun a2=>
 .opt (dG 0 a2) fun a3=>.asI .i64 a3 fun n4=>.opt (dG 1 a2) fun a5=>.asI .i64 a5 fun n6=>.ret (.int .i64 n4)
def w73(p0:zA)(h:rF E 73 (t73 p0) m Q):mJ E 73 [p0] m Q:=gA (oF 73) h
def t75 (p0:zA)(p1:Bool):T:=
 .opt (iF p0) fun a0=>.opt (nC yA 121 1 a0) fun a1=>.light (fun m=>lA yA 3 ⟨0,m⟩ a1) fun a2=>.asI .i64 a2 fun n3=>.call 59 [p0,(.int .u8 2)] fun a4=>
 .asG [(.int .u8 0),(.str []),(.int .i64 0),(.int .i64 0)] a4 fun X5=>
 .ite true (.opt (iF p0) fun a6=>.opt (nC yA 121 1 a6) fun a7=>.light (fun m=>lA yA 3 ⟨0,m⟩ a7) fun a8=>.asI .i64 a8 fun n9=>.call 72 [p0,(.str [100,97,121,115])] fun a10=>
 .asB a10 fun b11=>.ite b11
 (.jump 21 [p0,(.bool p1),(.int .i64 n3),(.int .u8 5),(.int .i64 n9),(.int .u8 0),(.bool false),.nilslice,(.bool false),.nilslice,(.int .i64 0),(.int .u8 (X5.i 0)),(.str (X5.s 1)),(.int .i64 (X5.i 2)),(.int .i64 (X5.i 3))])
 (.call 72 [p0,(.str [109,111,110,116,104,115])] fun a12=>
 .asB a12 fun b13=>.ite b13
 (.jump 21 [p0,(.bool p1),(.int .i64 n3),(.int .u8 6),(.int .i64 n9),(.int .u8 0),(.bool false),.nilslice,(.bool false),.nilslice,(.int .i64 0),(.int .u8 (X5.i 0)),(.str (X5.s 1)),(.int .i64 (X5.i 2)),(.int .i64 (X5.i 3))])
 (.call 74 [(.str (X5.s 1)),(.bool p1)] fun a14=>
 .asG [(.bool false),.nilslice,(.bool false),.nilslice] a14 fun X15=>
 .ite true (.ite (aB zA.one [(.int .u8 2),(.bool (X15.b 0)),(X15.v 1),(.bool (X15.b 2)),(X15.v 3),(.int .i64 0)]) (.ret (.agg [(.int .u8 2),(.bool (X15.b 0)),(X15.v 1),(.bool (X15.b 2)),(X15.v 3),(.int .i64 0)])) .fail) .fail))) .fail
def w75(p0:zA)(p1:Bool)(h:rF E 75 (t75 p0 p1) m Q):mJ E 75 [p0,(.bool p1)] m Q:=gA (oF 75) h
def zd1(v0:zA)(v1:Bool)(v5 v7 v8 c4_0:Int)(c4_1:Bool)(c4_2:zA)(c4_3:Bool)(c4_4:zA)(c4_5 c6_0:Int)(c6_1:List Nat)(c6_2 c6_3:Int):T:=
 .call 66 [(.str c6_1),(.str [47])] fun a0=>
 .asB a0 fun b1=>.ite b1
 (.opt (iF v0) fun a2=>.opt (nC yA 121 1 a2) fun a3=>.heavy (zC yA 3 a3 (.int .i64 v8)) fun _=>
 .call 48 [v0,(.int .i64 120)] fun a4=>
 .jump 27 [v0,(.bool v1),(.int .i64 v5),(.int .u8 v7),(.int .u8 c4_0),(.bool c4_1),c4_2,(.bool c4_3),c4_4,(.int .i64 c4_5),(.int .u8 c6_0),(.str c6_1),(.int .i64 c6_2),(.int .i64 c6_3)])
 (.jump 27 [v0,(.bool v1),(.int .i64 v5),(.int .u8 v7),(.int .u8 c4_0),(.bool c4_1),c4_2,(.bool c4_3),c4_4,(.int .i64 c4_5),(.int .u8 c6_0),(.str c6_1),(.int .i64 c6_2),(.int .i64 c6_3)])
def j75_21(v0:zA)(v1:Bool)(v5 v7 v8 c4_0:Int)(c4_1:Bool)(c4_2:zA)(c4_3:Bool)(c4_4:zA)(c4_5 c6_0:Int)(c6_1:List Nat)(c6_2 c6_3:Int)(h:rF E 75 (zd1 v0 v1 v5 v7 v8 c4_0 c4_1 c4_2 c4_3 c4_4 c4_5 c6_0 c6_1 c6_2 c6_3) m Q):sH E 75 21 [v0,(.bool v1),(.int .i64 v5),(.int .u8 v7),(.int .i64 v8),(.int .u8 c4_0),(.bool c4_1),c4_2,(.bool c4_3),c4_4,(.int .i64 c4_5),(.int .u8 c6_0),(.str c6_1),(.int .i64 c6_2),(.int .i64 c6_3)] m Q:=gJ (oF 75) h
def zd0(v0:zA)(v1:Bool)(v5 v7 c4_0:Int)(c4_1:Bool)(c4_2:zA)(c4_3:Bool)(c4_4:zA)(c4_5 c6_0:Int)(c6_1:List Nat)(c6_2 c6_3:Int):T:=
 .call 102 [(.str c6_1),(.bool v1),(.int .i64 (-1048576)),(.int .i64 1048576)] fun a0=>
 .opt (dG 0 a0) fun a1=>.asI .i64 a1 fun n2=>.opt (dG 1 a0) fun a3=>.asB a3 fun b4=>.ite (!b4)
 (.opt (iF v0) fun a5=>.opt (nC yA 121 1 a5) fun a6=>.heavy (zC yA 3 a6 (.int .i64 v5)) fun _=>
 .call 48 [v0,(.int .i64 121)] fun a7=>
 .ite true (.ite true (.ret (.agg [(.int .u8 v7),(.bool false),.nilslice,(.bool false),.nilslice,(.int .i64 n2)])) .fail) .fail)
 (.ite true (.ite true (.ret (.agg [(.int .u8 v7),(.bool false),.nilslice,(.bool false),.nilslice,(.int .i64 n2)])) .fail) .fail)
def j75_27(v0:zA)(v1:Bool)(v5 v7 c4_0:Int)(c4_1:Bool)(c4_2:zA)(c4_3:Bool)(c4_4:zA)(c4_5 c6_0:Int)(c6_1:List Nat)(c6_2 c6_3:Int)(h:rF E 75 (zd0 v0 v1 v5 v7 c4_0 c4_1 c4_2 c4_3 c4_4 c4_5 c6_0 c6_1 c6_2 c6_3) m Q):sH E 75 27 [v0,(.bool v1),(.int .i64 v5),(.int .u8 v7),(.int .u8 c4_0),(.bool c4_1),c4_2,(.bool c4_3),c4_4,(.int .i64 c4_5),(.int .u8 c6_0),(.str c6_1),(.int .i64 c6_2),(.int .i64 c6_3)] m Q:=gJ (oF 75) h
def t89 (p0:zA)(p1:Bool):T:=
 .call 58 [p0] fun a0=>
 .asS a0 fun s1=>.call 110 [p0,(.int .u8 1),(.int .u8 6),(.func (.func 111) [] [])] fun a2=>
 .asI .u8 a2 fun n3=>.ite true (.ite true (.ret (.agg [(.str s1),(.int .u8 n3),(.bool p1)])) .fail) .fail
def w89(p0:zA)(p1:Bool)(h:rF E 89 (t89 p0 p1) m Q):mJ E 89 [p0,(.bool p1)] m Q:=gA (oF 89) h
def t90 (p0:zA)(p1:Bool):T:=
 .call 112 [p0] fun a0=>
 .asI .i64 a0 fun n1=>.ite true (.ite p1
 (.call 112 [p0] fun a2=>
 .asI .i64 a2 fun n3=>.ite true (.jump 11 [p0,(.int .i64 0),(.int .i64 0),(.int .i64 0),(.bool false),.nilslice,(.bool false),.nilslice,(.int .i64 n1),(.int .i64 n3),(.int .i64 0),(.bool false),.nilslice,(.bool false),.nilslice]) .fail)
 (.jump 11 [p0,(.int .i64 0),(.int .i64 0),(.int .i64 0),(.bool false),.nilslice,(.bool false),.nilslice,(.int .i64 n1),(.int .i64 0),(.int .i64 0),(.bool false),.nilslice,(.bool false),.nilslice])) .fail
def w90(p0:zA)(p1:Bool)(h:rF E 90 (t90 p0 p1) m Q):mJ E 90 [p0,(.bool p1)] m Q:=gA (oF 90) h
def zdy(v0:zA)(c4_0 c4_1 c4_2:Int)(c4_3:Bool)(c4_4:zA)(c4_5:Bool)(c4_6:zA)(c5_0 c5_1 c5_2:Int)(c5_3:Bool)(c5_4:zA)(c5_5:Bool)(c5_6:zA):T:=
 .heavy (eC yA 93 1 [(0,(.str [107,110,111,119,110]))]) fun a0=>
 .call 57 [v0,a0] fun a1=>
 .call 73 [v0] fun a2=>
 .asI .i64 a2 fun n3=>.ite true (.heavy (eC yA 93 1 [(0,(.str [105,115]))]) fun a4=>
 .call 57 [v0,a4] fun a5=>
 .call 72 [v0,(.str [109,105,110,117,115])] fun a6=>
 .asB a6 fun b7=>.call 59 [v0,(.int .u8 2)] fun a8=>
 .asG [(.int .u8 0),(.str []),(.int .i64 0),(.int .i64 0)] a8 fun X9=>
 .call 74 [(.str (X9.s 1)),(.bool b7)] fun a10=>
 .asG [(.bool false),.nilslice,(.bool false),.nilslice] a10 fun X11=>
 .ite (aB zA.one [(.bool (X11.b 0)),(X11.v 1),(.bool (X11.b 2)),(X11.v 3)]) (.ite (aB zA.one [(.int .i64 c5_0),(.int .i64 c5_1),(.int .i64 n3),(.bool (X11.b 0)),(X11.v 1),(.bool (X11.b 2)),(X11.v 3)]) (.ret (.agg [(.int .i64 c5_0),(.int .i64 c5_1),(.int .i64 n3),(.bool (X11.b 0)),(X11.v 1),(.bool (X11.b 2)),(X11.v 3)])) .fail) .fail) .fail
def j90_11(v0:zA)(c4_0 c4_1 c4_2:Int)(c4_3:Bool)(c4_4:zA)(c4_5:Bool)(c4_6:zA)(c5_0 c5_1 c5_2:Int)(c5_3:Bool)(c5_4:zA)(c5_5:Bool)(c5_6:zA)(h:rF E 90 (zdy v0 c4_0 c4_1 c4_2 c4_3 c4_4 c4_5 c4_6 c5_0 c5_1 c5_2 c5_3 c5_4 c5_5 c5_6) m Q):sH E 90 11 [v0,(.int .i64 c4_0),(.int .i64 c4_1),(.int .i64 c4_2),(.bool c4_3),c4_4,(.bool c4_5),c4_6,(.int .i64 c5_0),(.int .i64 c5_1),(.int .i64 c5_2),(.bool c5_3),c5_4,(.bool c5_5),c5_6] m Q:=gJ (oF 90) h
def t91 (p0:zA):T:=
 .ite true (.ite true (.call 58 [p0] fun a0=>
 .asS a0 fun s1=>.ite true (.call 58 [p0] fun a2=>
 .asS a2 fun s3=>.ite true (.heavy (eC yA 93 1 [(0,(.str [102,114,111,109]))]) fun a4=>
 .call 57 [p0,a4] fun a5=>
 .call 73 [p0] fun a6=>
 .asI .i64 a6 fun n7=>.ite true (.heavy (eC yA 93 1 [(0,(.str [116,111]))]) fun a8=>
 .call 57 [p0,a8] fun a9=>
 .call 72 [p0,(.str [101,110,100])] fun a10=>
 .asB a10 fun b11=>.ite (!b11)
 (.call 73 [p0] fun a12=>
 .asI .i64 a12 fun n13=>.ite true (.jump 19 [p0,(.str []),(.str []),(.int .i64 0),(.int .i64 0),(.int .i64 0),(.bool false),(.int .u8 0),(.str []),(.int .u8 0),(.bool false),.nilslice,(.bool false),.nilslice,(.int .i64 0),.nilslice,(.int .u8 0),(.str []),(.int .u8 0),(.bool false),.nilslice,(.bool false),.nilslice,(.int .i64 0),.nilslice,(.str s1),(.str s3),(.int .i64 n7),(.int .i64 n13),(.int .i64 0),(.bool false),(.int .u8 0),(.str []),(.int .u8 0),(.bool false),.nilslice,(.bool false),.nilslice,(.int .i64 0),.nilslice,(.int .u8 0),(.str []),(.int .u8 0),(.bool false),.nilslice,(.bool false),.nilslice,(.int .i64 0),.nilslice]) .fail)
 (.jump 19 [p0,(.str []),(.str []),(.int .i64 0),(.int .i64 0),(.int .i64 0),(.bool false),(.int .u8 0),(.str []),(.int .u8 0),(.bool false),.nilslice,(.bool false),.nilslice,(.int .i64 0),.nilslice,(.int .u8 0),(.str []),(.int .u8 0),(.bool false),.nilslice,(.bool false),.nilslice,(.int .i64 0),.nilslice,(.str s1),(.str s3),(.int .i64 n7),(.int .i64 65536),(.int .i64 0),(.bool false),(.int .u8 0),(.str []),(.int .u8 0),(.bool false),.nilslice,(.bool false),.nilslice,(.int .i64 0),.nilslice,(.int .u8 0),(.str []),(.int .u8 0),(.bool false),.nilslice,(.bool false),.nilslice,(.int .i64 0),.nilslice])) .fail) .fail) .fail) .fail) .fail
def w91(p0:zA)(h:rF E 91 (t91 p0) m Q):mJ E 91 [p0] m Q:=gA (oF 91) h
def zdx(v0:zA)(c2_0 c2_1:List Nat)(c2_2 c2_3 c2_4:Int)(c2_5:Bool)(c2_6:Int)(c2_7:List Nat)(c2_8:Int)(c2_9:Bool)(c2_10:zA)(c2_11:Bool)(c2_12:zA)(c2_13:Int)(c2_14:zA)(c2_15:Int)(c2_16:List Nat)(c2_17:Int)(c2_18:Bool)(c2_19:zA)(c2_20:Bool)(c2_21:zA)(c2_22:Int)(c2_23:zA)(c3_0 c3_1:List Nat)(c3_2 c3_3 c3_4:Int)(c3_5:Bool)(c3_6:Int)(c3_7:List Nat)(c3_8:Int)(c3_9:Bool)(c3_10:zA)(c3_11:Bool)(c3_12:zA)(c3_13:Int)(c3_14:zA)(c3_15:Int)(c3_16:List Nat)(c3_17:Int)(c3_18:Bool)(c3_19:zA)(c3_20:Bool)(c3_21:zA)(c3_22:Int)(c3_23:zA):T:=
 .heavy (eC yA 93 1 [(0,(.str [107,110,111,119,110]))]) fun a0=>
 .call 57 [v0,a0] fun a1=>
 .call 73 [v0] fun a2=>
 .asI .i64 a2 fun n3=>.ite true (.call 72 [v0,(.str [111,102,102])] fun a4=>
 .asB a4 fun b5=>.ite b5
 (.ite true (.ite (aB zA.one [(.str c3_0),(.str c3_1),(.int .i64 c3_2),(.int .i64 c3_3),(.int .i64 n3),(.bool true),(.int .u8 c3_6),(.str c3_7),(.int .u8 c3_8),(.bool c3_9),c3_10,(.bool c3_11),c3_12,(.int .i64 c3_13),c3_14,(.int .u8 c3_15),(.str c3_16),(.int .u8 c3_17),(.bool c3_18),c3_19,(.bool c3_20),c3_21,(.int .i64 c3_22),c3_23]) (.ret (.agg [(.str c3_0),(.str c3_1),(.int .i64 c3_2),(.int .i64 c3_3),(.int .i64 n3),(.bool true),(.int .u8 c3_6),(.str c3_7),(.int .u8 c3_8),(.bool c3_9),c3_10,(.bool c3_11),c3_12,(.int .i64 c3_13),c3_14,(.int .u8 c3_15),(.str c3_16),(.int .u8 c3_17),(.bool c3_18),c3_19,(.bool c3_20),c3_21,(.int .i64 c3_22),c3_23])) .fail) .fail)
 (.heavy (eC yA 93 1 [(0,(.str [119,104,101,110]))]) fun a6=>
 .call 57 [v0,a6] fun a7=>
 .call 42 [v0] fun a8=>
 .asG [(.int .u8 0),(.str []),(.int .u8 0),(.bool false),.nilslice,(.bool false),.nilslice,(.int .i64 0),.nilslice] a8 fun X9=>
 .ite (aB zA.one [(.int .u8 (X9.i 0)),(.str (X9.s 1)),(.int .u8 (X9.i 2)),(.bool (X9.b 3)),(X9.v 4),(.bool (X9.b 5)),(X9.v 6),(.int .i64 (X9.i 7)),(X9.v 8)]) (.heavy (eC yA 93 1 [(0,(.str [116,104,101,110]))]) fun a10=>
 .call 57 [v0,a10] fun a11=>
 .call 42 [v0] fun a12=>
 .asG [(.int .u8 0),(.str []),(.int .u8 0),(.bool false),.nilslice,(.bool false),.nilslice,(.int .i64 0),.nilslice] a12 fun X13=>
 .ite (aB zA.one [(.int .u8 (X13.i 0)),(.str (X13.s 1)),(.int .u8 (X13.i 2)),(.bool (X13.b 3)),(X13.v 4),(.bool (X13.b 5)),(X13.v 6),(.int .i64 (X13.i 7)),(X13.v 8)]) (.ite (aB zA.one [(.str c3_0),(.str c3_1),(.int .i64 c3_2),(.int .i64 c3_3),(.int .i64 n3),(.bool c3_5),(.int .u8 (X9.i 0)),(.str (X9.s 1)),(.int .u8 (X9.i 2)),(.bool (X9.b 3)),(X9.v 4),(.bool (X9.b 5)),(X9.v 6),(.int .i64 (X9.i 7)),(X9.v 8),(.int .u8 (X13.i 0)),(.str (X13.s 1)),(.int .u8 (X13.i 2)),(.bool (X13.b 3)),(X13.v 4),(.bool (X13.b 5)),(X13.v 6),(.int .i64 (X13.i 7)),(X13.v 8)]) (.ret (.agg [(.str c3_0),(.str c3_1),(.int .i64 c3_2),(.int .i64 c3_3),(.int .i64 n3),(.bool c3_5),(.int .u8 (X9.i 0)),(.str (X9.s 1)),(.int .u8 (X9.i 2)),(.bool (X9.b 3)),(X9.v 4),(.bool (X9.b 5)),(X9.v 6),(.int .i64 (X9.i 7)),(X9.v 8),(.int .u8 (X13.i 0)),(.str (X13.s 1)),(.int .u8 (X13.i 2)),(.bool (X13.b 3)),(X13.v 4),(.bool (X13.b 5)),(X13.v 6),(.int .i64 (X13.i 7)),(X13.v 8)])) .fail) .fail) .fail)) .fail
def j91_19(v0:zA)(c2_0 c2_1:List Nat)(c2_2 c2_3 c2_4:Int)(c2_5:Bool)(c2_6:Int)(c2_7:List Nat)(c2_8:Int)(c2_9:Bool)(c2_10:zA)(c2_11:Bool)(c2_12:zA)(c2_13:Int)(c2_14:zA)(c2_15:Int)(c2_16:List Nat)(c2_17:Int)(c2_18:Bool)(c2_19:zA)(c2_20:Bool)(c2_21:zA)(c2_22:Int)(c2_23:zA)(c3_0 c3_1:List Nat)(c3_2 c3_3 c3_4:Int)(c3_5:Bool)(c3_6:Int)(c3_7:List Nat)(c3_8:Int)(c3_9:Bool)(c3_10:zA)(c3_11:Bool)(c3_12:zA)(c3_13:Int)(c3_14:zA)(c3_15:Int)(c3_16:List Nat)(c3_17:Int)(c3_18:Bool)(c3_19:zA)(c3_20:Bool)(c3_21:zA)(c3_22:Int)(c3_23:zA)(h:rF E 91 (zdx v0 c2_0 c2_1 c2_2 c2_3 c2_4 c2_5 c2_6 c2_7 c2_8 c2_9 c2_10 c2_11 c2_12 c2_13 c2_14 c2_15 c2_16 c2_17 c2_18 c2_19 c2_20 c2_21 c2_22 c2_23 c3_0 c3_1 c3_2 c3_3 c3_4 c3_5 c3_6 c3_7 c3_8 c3_9 c3_10 c3_11 c3_12 c3_13 c3_14 c3_15 c3_16 c3_17 c3_18 c3_19 c3_20 c3_21 c3_22 c3_23) m Q):sH E 91 19 [v0,(.str c2_0),(.str c2_1),(.int .i64 c2_2),(.int .i64 c2_3),(.int .i64 c2_4),(.bool c2_5),(.int .u8 c2_6),(.str c2_7),(.int .u8 c2_8),(.bool c2_9),c2_10,(.bool c2_11),c2_12,(.int .i64 c2_13),c2_14,(.int .u8 c2_15),(.str c2_16),(.int .u8 c2_17),(.bool c2_18),c2_19,(.bool c2_20),c2_21,(.int .i64 c2_22),c2_23,(.str c3_0),(.str c3_1),(.int .i64 c3_2),(.int .i64 c3_3),(.int .i64 c3_4),(.bool c3_5),(.int .u8 c3_6),(.str c3_7),(.int .u8 c3_8),(.bool c3_9),c3_10,(.bool c3_11),c3_12,(.int .i64 c3_13),c3_14,(.int .u8 c3_15),(.str c3_16),(.int .u8 c3_17),(.bool c3_18),c3_19,(.bool c3_20),c3_21,(.int .i64 c3_22),c3_23] m Q:=gJ (oF 91) h
def t96 (p0:zA):T:=
 .jump 2 [p0,(.int .i64 0),(.int .u8 0),(.str []),(.int .u8 0),(.bool false),.nilslice,(.bool false),.nilslice,(.int .i64 0),.nilslice]
def w96(p0:zA)(h:rF E 96 (t96 p0) m Q):mJ E 96 [p0] m Q:=gA (oF 96) h
def zg2(v0:zA)(v3 c2_0:Int)(c2_1:List Nat)(c2_2:Int)(c2_3:Bool)(c2_4:zA)(c2_5:Bool)(c2_6:zA)(c2_7:Int)(c2_8:zA):T:=
 .call 72 [v0,(.str [110,111,116])] fun a0=>
 .asB a0 fun b1=>.ite b1
 (.jump 2 [v0,(.int .i64 (iA .i64 (v3+1))),(.int .u8 c2_0),(.str c2_1),(.int .u8 c2_2),(.bool c2_3),c2_4,(.bool c2_5),c2_6,(.int .i64 c2_7),c2_8])
 (.call 117 [v0] fun a2=>
 .asG [(.int .u8 0),(.str []),(.int .u8 0),(.bool false),.nilslice,(.bool false),.nilslice,(.int .i64 0),.nilslice] a2 fun X3=>
 .ite (aB zA.one [(.int .u8 (X3.i 0)),(.str (X3.s 1)),(.int .u8 (X3.i 2)),(.bool (X3.b 3)),(X3.v 4),(.bool (X3.b 5)),(X3.v 6),(.int .i64 (X3.i 7)),(X3.v 8)]) (.jump 6 [(.int .i64 v3),(.int .u8 c2_0),(.str c2_1),(.int .u8 c2_2),(.bool c2_3),c2_4,(.bool c2_5),c2_6,(.int .i64 c2_7),c2_8,(.int .u8 (X3.i 0)),(.str (X3.s 1)),(.int .u8 (X3.i 2)),(.bool (X3.b 3)),(X3.v 4),(.bool (X3.b 5)),(X3.v 6),(.int .i64 (X3.i 7)),(X3.v 8)]) .fail)
def j96_2(v0:zA)(v3 c2_0:Int)(c2_1:List Nat)(c2_2:Int)(c2_3:Bool)(c2_4:zA)(c2_5:Bool)(c2_6:zA)(c2_7:Int)(c2_8:zA)(h:rF E 96 (zg2 v0 v3 c2_0 c2_1 c2_2 c2_3 c2_4 c2_5 c2_6 c2_7 c2_8) m Q):sH E 96 2 [v0,(.int .i64 v3),(.int .u8 c2_0),(.str c2_1),(.int .u8 c2_2),(.bool c2_3),c2_4,(.bool c2_5),c2_6,(.int .i64 c2_7),c2_8] m Q:=gJ (oF 96) h
def zg1(v3 c2_0:Int)(c2_1:List Nat)(c2_2:Int)(c2_3:Bool)(c2_4:zA)(c2_5:Bool)(c2_6:zA)(c2_7:Int)(c2_8:zA)(c4_0:Int)(c4_1:List Nat)(c4_2:Int)(c4_3:Bool)(c4_4:zA)(c4_5:Bool)(c4_6:zA)(c4_7:Int)(c4_8:zA):T:=
 .ite (cB 0 v3)
 (.heavy (eC yA 48 1 [(0,(.agg [(.int .u8 c4_0),(.str c4_1),(.int .u8 c4_2),(.bool c4_3),c4_4,(.bool c4_5),c4_6,(.int .i64 c4_7),c4_8]))]) fun a0=>
 .ite (aB zA.one [(.int .u8 17),a0]) (.ite (aB zA.one [(.int .u8 17),(.str []),(.int .u8 0),(.bool false),.nilslice,(.bool false),.nilslice,(.int .i64 0),a0]) (.jump 6 [(.int .i64 (iA .i64 (v3-1))),(.int .u8 c2_0),(.str c2_1),(.int .u8 c2_2),(.bool c2_3),c2_4,(.bool c2_5),c2_6,(.int .i64 c2_7),c2_8,(.int .u8 17),(.str []),(.int .u8 0),(.bool false),.nilslice,(.bool false),.nilslice,(.int .i64 0),a0]) .fail) .fail)
 (.ite (aB zA.one [(.int .u8 c4_0),(.str c4_1),(.int .u8 c4_2),(.bool c4_3),c4_4,(.bool c4_5),c4_6,(.int .i64 c4_7),c4_8]) (.ret (.agg [(.int .u8 c4_0),(.str c4_1),(.int .u8 c4_2),(.bool c4_3),c4_4,(.bool c4_5),c4_6,(.int .i64 c4_7),c4_8])) .fail)
def j96_6(v3 c2_0:Int)(c2_1:List Nat)(c2_2:Int)(c2_3:Bool)(c2_4:zA)(c2_5:Bool)(c2_6:zA)(c2_7:Int)(c2_8:zA)(c4_0:Int)(c4_1:List Nat)(c4_2:Int)(c4_3:Bool)(c4_4:zA)(c4_5:Bool)(c4_6:zA)(c4_7:Int)(c4_8:zA)(h:rF E 96 (zg1 v3 c2_0 c2_1 c2_2 c2_3 c2_4 c2_5 c2_6 c2_7 c2_8 c4_0 c4_1 c4_2 c4_3 c4_4 c4_5 c4_6 c4_7 c4_8) m Q):sH E 96 6 [(.int .i64 v3),(.int .u8 c2_0),(.str c2_1),(.int .u8 c2_2),(.bool c2_3),c2_4,(.bool c2_5),c2_6,(.int .i64 c2_7),c2_8,(.int .u8 c4_0),(.str c4_1),(.int .u8 c4_2),(.bool c4_3),c4_4,(.bool c4_5),c4_6,(.int .i64 c4_7),c4_8] m Q:=gJ (oF 96) h
def t110 (p0:zA)(p1 p2:Int)(p3:zA):T:=
 .jump 2 [p0,(.int .u8 p2),p3,(.int .u8 p1)]
def w110(p0:zA)(p1 p2:Int)(p3:zA)(h:rF E 110 (t110 p0 p1 p2 p3) m Q):mJ E 110 [p0,(.int .u8 p1),(.int .u8 p2),p3] m Q:=gA (oF 110) h
def Uw(v0:zA)(v2:Int)(v3:zA)(v9:Int):T:=
 .ite (fG v9 v2)
 (.callv v3 [(.int .u8 v9)] fun a0=>
 .asS a0 fun s1=>.call 72 [v0,(.str s1)] fun a2=>
 .asB a2 fun b3=>.ite b3
 (.ret (.int .u8 v9))
 (.jump 2 [v0,(.int .u8 v2),v3,(.int .u8 (iA .u8 (v9+1)))]))
 (.call 48 [v0,(.int .i64 120)] fun a4=>
 .ret (.int .u8 0))
def zfj(v0:zA)(v2:Int)(v3:zA)(v9:Int)(h:rF E 110 (Uw v0 v2 v3 v9) m Q):sH E 110 2 [v0,(.int .u8 v2),v3,(.int .u8 v9)] m Q:=gJ (oF 110) h
def t112 (p0:zA):T:=
 .call 72 [p0,(.str [109,105,110,117,115])] fun a0=>
 .asB a0 fun b1=>.call 71 [p0] fun a2=>
 .asG [(.int .u8 0),(.str []),(.int .i64 0),(.int .i64 0)] a2 fun X3=>
 .ite true (.ite (!oB (X3.i 0) 2)
 (.call 48 [p0,(.int .i64 120)] fun a4=>
 .jump 11 [p0,(.bool b1),(.int .u8 (X3.i 0)),(.str (X3.s 1)),(.int .i64 (X3.i 2)),(.int .i64 (X3.i 3))])
 (.call 66 [(.str (X3.s 1)),(.str [47])] fun a5=>
 .asB a5 fun b6=>.ite b6
 (.call 48 [p0,(.int .i64 120)] fun a7=>
 .jump 11 [p0,(.bool b1),(.int .u8 (X3.i 0)),(.str (X3.s 1)),(.int .i64 (X3.i 2)),(.int .i64 (X3.i 3))])
 (.jump 11 [p0,(.bool b1),(.int .u8 (X3.i 0)),(.str (X3.s 1)),(.int .i64 (X3.i 2)),(.int .i64 (X3.i 3))]))) .fail
def w112(p0:zA)(h:rF E 112 (t112 p0) m Q):mJ E 112 [p0] m Q:=gA (oF 112) h
def CL(v0:zA)(v3:Bool)(c4_0:Int)(c4_1:List Nat)(c4_2 c4_3:Int):T:=
 .call 102 [(.str c4_1),(.bool v3),(.int .i64 (-2147483648)),(.int .i64 2147483647)] fun a0=>
 .opt (dG 0 a0) fun a1=>.asI .i64 a1 fun n2=>.opt (dG 1 a0) fun a3=>.asB a3 fun b4=>.ite (!b4)
 (.call 48 [v0,(.int .i64 121)] fun a5=>
 .jump 17 [v0,(.int .i64 n2)])
 (.jump 17 [v0,(.int .i64 n2)])
def ziq(v0:zA)(v3:Bool)(c4_0:Int)(c4_1:List Nat)(c4_2 c4_3:Int)(h:rF E 112 (CL v0 v3 c4_0 c4_1 c4_2 c4_3) m Q):sH E 112 11 [v0,(.bool v3),(.int .u8 c4_0),(.str c4_1),(.int .i64 c4_2),(.int .i64 c4_3)] m Q:=gJ (oF 112) h
def CK(v0:zA)(v5:Int):T:=
 .opt (iF v0) fun a0=>.opt (nC yA 121 1 a0) fun a1=>.light (fun m=>lA yA 3 ⟨0,m⟩ a1) fun a2=>.asI .i64 a2 fun n3=>.opt (iF v0) fun a4=>.opt (nC yA 121 1 a4) fun a5=>.heavy (zC yA 3 a5 (.int .i64 (iA .i64 (n3+1)))) fun _=>
 .ret (.int .i64 v5)
def zio(v0:zA)(v5:Int)(h:rF E 112 (CK v0 v5) m Q):sH E 112 17 [v0,(.int .i64 v5)] m Q:=gJ (oF 112) h
def t117 (p0:zA):T:=
 .call 135 [p0] fun a0=>
 .asG [(.int .u8 0),(.str []),(.int .u8 0),(.bool false),.nilslice,(.bool false),.nilslice,(.int .i64 0),.nilslice] a0 fun X1=>
 .ite (aB zA.one [(.int .u8 (X1.i 0)),(.str (X1.s 1)),(.int .u8 (X1.i 2)),(.bool (X1.b 3)),(X1.v 4),(.bool (X1.b 5)),(X1.v 6),(.int .i64 (X1.i 7)),(X1.v 8)]) (.ite true (.ite true (.heavy (eC yA 161 2 [(0,(.agg [(.str [60]),(.int .u8 13)])),(1,(.agg [(.str [61]),(.int .u8 14)]))]) fun a2=>
 .call 95 [p0,a2] fun a3=>
 .opt (dG 0 a3) fun a4=>.asI .u8 a4 fun n5=>.opt (dG 1 a3) fun a6=>.asB a6 fun b7=>.ite (!b7)
 (.ite (aB zA.one [(.int .u8 (X1.i 0)),(.str (X1.s 1)),(.int .u8 (X1.i 2)),(.bool (X1.b 3)),(X1.v 4),(.bool (X1.b 5)),(X1.v 6),(.int .i64 (X1.i 7)),(X1.v 8)]) (.ret (.agg [(.int .u8 (X1.i 0)),(.str (X1.s 1)),(.int .u8 (X1.i 2)),(.bool (X1.b 3)),(X1.v 4),(.bool (X1.b 5)),(X1.v 6),(.int .i64 (X1.i 7)),(X1.v 8)])) .fail)
 (.call 135 [p0] fun a8=>
 .asG [(.int .u8 0),(.str []),(.int .u8 0),(.bool false),.nilslice,(.bool false),.nilslice,(.int .i64 0),.nilslice] a8 fun X9=>
 .ite (aB zA.one [(.int .u8 (X9.i 0)),(.str (X9.s 1)),(.int .u8 (X9.i 2)),(.bool (X9.b 3)),(X9.v 4),(.bool (X9.b 5)),(X9.v 6),(.int .i64 (X9.i 7)),(X9.v 8)]) (.heavy (eC yA 48 2 [(0,(.agg [(.int .u8 (X1.i 0)),(.str (X1.s 1)),(.int .u8 (X1.i 2)),(.bool (X1.b 3)),(X1.v 4),(.bool (X1.b 5)),(X1.v 6),(.int .i64 (X1.i 7)),(X1.v 8)])),(1,(.agg [(.int .u8 (X9.i 0)),(.str (X9.s 1)),(.int .u8 (X9.i 2)),(.bool (X9.b 3)),(X9.v 4),(.bool (X9.b 5)),(X9.v 6),(.int .i64 (X9.i 7)),(X9.v 8)]))]) fun a10=>
 .ite (aB zA.one [(.int .u8 n5),a10]) (.ite (aB zA.one [(.int .u8 n5),(.str []),(.int .u8 0),(.bool false),.nilslice,(.bool false),.nilslice,(.int .i64 0),a10]) (.ret (.agg [(.int .u8 n5),(.str []),(.int .u8 0),(.bool false),.nilslice,(.bool false),.nilslice,(.int .i64 0),a10])) .fail) .fail) .fail)) .fail) .fail) .fail
def w117(p0:zA)(h:rF E 117 (t117 p0) m Q):mJ E 117 [p0] m Q:=gA (oF 117) h
def t135 (p0:zA):T:=
 .ite true (.ite true (.heavy (eC yA 161 2 [(0,(.agg [(.str [43]),(.int .u8 7)])),(1,(.agg [(.str [45]),(.int .u8 8)]))]) fun a0=>
 .call 68 [p0,(.func (.func 151) [p0] []),a0] fun a1=>
 .asG [(.int .u8 0),(.str []),(.int .u8 0),(.bool false),.nilslice,(.bool false),.nilslice,(.int .i64 0),.nilslice] a1 fun X2=>
 .ite (aB zA.one [(.int .u8 (X2.i 0)),(.str (X2.s 1)),(.int .u8 (X2.i 2)),(.bool (X2.b 3)),(X2.v 4),(.bool (X2.b 5)),(X2.v 6),(.int .i64 (X2.i 7)),(X2.v 8)]) (.ret (.agg [(.int .u8 (X2.i 0)),(.str (X2.s 1)),(.int .u8 (X2.i 2)),(.bool (X2.b 3)),(X2.v 4),(.bool (X2.b 5)),(X2.v 6),(.int .i64 (X2.i 7)),(X2.v 8)])) .fail) .fail) .fail
def w135(p0:zA)(h:rF E 135 (t135 p0) m Q):mJ E 135 [p0] m Q:=gA (oF 135) h
def t151 (p0:zA):T:=
 .ite true (.ite true (.heavy (eC yA 161 2 [(0,(.agg [(.str [42]),(.int .u8 9)])),(1,(.agg [(.str [47]),(.int .u8 10)]))]) fun a0=>
 .call 68 [p0,(.func (.func 161) [p0] []),a0] fun a1=>
 .asG [(.int .u8 0),(.str []),(.int .u8 0),(.bool false),.nilslice,(.bool false),.nilslice,(.int .i64 0),.nilslice] a1 fun X2=>
 .ite (aB zA.one [(.int .u8 (X2.i 0)),(.str (X2.s 1)),(.int .u8 (X2.i 2)),(.bool (X2.b 3)),(X2.v 4),(.bool (X2.b 5)),(X2.v 6),(.int .i64 (X2.i 7)),(X2.v 8)]) (.ret (.agg [(.int .u8 (X2.i 0)),(.str (X2.s 1)),(.int .u8 (X2.i 2)),(.bool (X2.b 3)),(X2.v 4),(.bool (X2.b 5)),(X2.v 6),(.int .i64 (X2.i 7)),(X2.v 8)])) .fail) .fail) .fail
def w151(p0:zA)(h:rF E 151 (t151 p0) m Q):mJ E 151 [p0] m Q:=gA (oF 151) h
def t161 (p0:zA):T:=
 .opt (iF p0) fun a0=>.opt (nC yA 121 2 a0) fun a1=>.light (fun m=>lA yA 3 ⟨0,m⟩ a1) fun a2=>.asI .i64 a2 fun n3=>.ite (cB 100 n3)
 (.call 48 [p0,(.int .i64 122)] fun a4=>
 .jump 7 [p0,(.int .u8 0),(.str []),(.int .u8 0),(.bool false),.nilslice,(.bool false),.nilslice,(.int .i64 0),.nilslice])
 (.jump 7 [p0,(.int .u8 0),(.str []),(.int .u8 0),(.bool false),.nilslice,(.bool false),.nilslice,(.int .i64 0),.nilslice])
def w161(p0:zA)(h:rF E 161 (t161 p0) m Q):mJ E 161 [p0] m Q:=gA (oF 161) h
def zea(v0:zA)(c2_0:Int)(c2_1:List Nat)(c2_2:Int)(c2_3:Bool)(c2_4:zA)(c2_5:Bool)(c2_6:zA)(c2_7:Int)(c2_8:zA):T:=
 .opt (iF v0) fun a0=>.opt (nC yA 121 2 a0) fun a1=>.light (fun m=>lA yA 3 ⟨0,m⟩ a1) fun a2=>.asI .i64 a2 fun n3=>.opt (iF v0) fun a4=>.opt (nC yA 121 2 a4) fun a5=>.heavy (zC yA 3 a5 (.int .i64 (iA .i64 (n3+1)))) fun _=>
 .call 168 [v0] fun a6=>
 .asG [(.int .u8 0),(.str []),(.int .u8 0),(.bool false),.nilslice,(.bool false),.nilslice,(.int .i64 0),.nilslice] a6 fun X7=>
 .ite (aB zA.one [(.int .u8 (X7.i 0)),(.str (X7.s 1)),(.int .u8 (X7.i 2)),(.bool (X7.b 3)),(X7.v 4),(.bool (X7.b 5)),(X7.v 6),(.int .i64 (X7.i 7)),(X7.v 8)]) (.opt (iF v0) fun a8=>.opt (nC yA 121 2 a8) fun a9=>.light (fun m=>lA yA 3 ⟨0,m⟩ a9) fun a10=>.asI .i64 a10 fun n11=>.opt (iF v0) fun a12=>.opt (nC yA 121 2 a12) fun a13=>.heavy (zC yA 3 a13 (.int .i64 (iA .i64 (n11-1)))) fun _=>
 .ite (aB zA.one [(.int .u8 (X7.i 0)),(.str (X7.s 1)),(.int .u8 (X7.i 2)),(.bool (X7.b 3)),(X7.v 4),(.bool (X7.b 5)),(X7.v 6),(.int .i64 (X7.i 7)),(X7.v 8)]) (.ret (.agg [(.int .u8 (X7.i 0)),(.str (X7.s 1)),(.int .u8 (X7.i 2)),(.bool (X7.b 3)),(X7.v 4),(.bool (X7.b 5)),(X7.v 6),(.int .i64 (X7.i 7)),(X7.v 8)])) .fail) .fail
def j161_7(v0:zA)(c2_0:Int)(c2_1:List Nat)(c2_2:Int)(c2_3:Bool)(c2_4:zA)(c2_5:Bool)(c2_6:zA)(c2_7:Int)(c2_8:zA)(h:rF E 161 (zea v0 c2_0 c2_1 c2_2 c2_3 c2_4 c2_5 c2_6 c2_7 c2_8) m Q):sH E 161 7 [v0,(.int .u8 c2_0),(.str c2_1),(.int .u8 c2_2),(.bool c2_3),c2_4,(.bool c2_5),c2_6,(.int .i64 c2_7),c2_8] m Q:=gJ (oF 161) h
def t168 (p0:zA):T:=
 .call 47 [p0] fun a0=>
 .opt (dG 0 a0) fun a1=>.asG [(.int .u8 0),(.bool false),.nilslice,(.bool false),.nilslice,(.int .i64 0)] a1 fun X2=>
 .opt (dG 1 a0) fun a3=>.asB a3 fun b4=>.ite (aB zA.one [(.int .u8 (X2.i 0)),(.bool (X2.b 1)),(X2.v 2),(.bool (X2.b 3)),(X2.v 4),(.int .i64 (X2.i 5))]) (.ite b4
 (.ite true (.ite (aB zA.one [(.int .u8 1),(.str []),(.int .u8 (X2.i 0)),(.bool (X2.b 1)),(X2.v 2),(.bool (X2.b 3)),(X2.v 4),(.int .i64 (X2.i 5)),.nilslice]) (.ret (.agg [(.int .u8 1),(.str []),(.int .u8 (X2.i 0)),(.bool (X2.b 1)),(X2.v 2),(.bool (X2.b 3)),(X2.v 4),(.int .i64 (X2.i 5)),.nilslice])) .fail) .fail)
 (.call 72 [p0,(.str [40])] fun a5=>
 .asB a5 fun b6=>.ite b6
 (.call 42 [p0] fun a7=>
 .asG [(.int .u8 0),(.str []),(.int .u8 0),(.bool false),.nilslice,(.bool false),.nilslice,(.int .i64 0),.nilslice] a7 fun X8=>
 .ite (aB zA.one [(.int .u8 (X8.i 0)),(.str (X8.s 1)),(.int .u8 (X8.i 2)),(.bool (X8.b 3)),(X8.v 4),(.bool (X8.b 5)),(X8.v 6),(.int .i64 (X8.i 7)),(X8.v 8)]) (.heavy (eC yA 93 1 [(0,(.str [41]))]) fun a9=>
 .call 57 [p0,a9] fun a10=>
 .ite (aB zA.one [(.int .u8 (X8.i 0)),(.str (X8.s 1)),(.int .u8 (X8.i 2)),(.bool (X8.b 3)),(X8.v 4),(.bool (X8.b 5)),(X8.v 6),(.int .i64 (X8.i 7)),(X8.v 8)]) (.ret (.agg [(.int .u8 (X8.i 0)),(.str (X8.s 1)),(.int .u8 (X8.i 2)),(.bool (X8.b 3)),(X8.v 4),(.bool (X8.b 5)),(X8.v 6),(.int .i64 (X8.i 7)),(X8.v 8)])) .fail) .fail)
 (.call 72 [p0,(.str [116,111,100,97,121])] fun a11=>
 .asB a11 fun b12=>.ite b12
 (.ite true (.ite true (.ret (.agg [(.int .u8 2),(.str []),(.int .u8 0),(.bool false),.nilslice,(.bool false),.nilslice,(.int .i64 0),.nilslice])) .fail) .fail)
 (.call 72 [p0,(.str [102,97,99,116])] fun a13=>
 .asB a13 fun b14=>.ite b14
 (.call 180 [p0,(.int .u8 3)] fun a15=>
 .asG [(.int .u8 0),(.str []),(.int .u8 0),(.bool false),.nilslice,(.bool false),.nilslice,(.int .i64 0),.nilslice] a15 fun X16=>
 .ite (aB zA.one [(.int .u8 (X16.i 0)),(.str (X16.s 1)),(.int .u8 (X16.i 2)),(.bool (X16.b 3)),(X16.v 4),(.bool (X16.b 5)),(X16.v 6),(.int .i64 (X16.i 7)),(X16.v 8)]) (.ret (.agg [(.int .u8 (X16.i 0)),(.str (X16.s 1)),(.int .u8 (X16.i 2)),(.bool (X16.b 3)),(X16.v 4),(.bool (X16.b 5)),(X16.v 6),(.int .i64 (X16.i 7)),(X16.v 8)])) .fail)
 (.call 72 [p0,(.str [104,97,115])] fun a17=>
 .asB a17 fun b18=>.ite b18
 (.call 180 [p0,(.int .u8 4)] fun a19=>
 .asG [(.int .u8 0),(.str []),(.int .u8 0),(.bool false),.nilslice,(.bool false),.nilslice,(.int .i64 0),.nilslice] a19 fun X20=>
 .ite (aB zA.one [(.int .u8 (X20.i 0)),(.str (X20.s 1)),(.int .u8 (X20.i 2)),(.bool (X20.b 3)),(X20.v 4),(.bool (X20.b 5)),(X20.v 6),(.int .i64 (X20.i 7)),(X20.v 8)]) (.ret (.agg [(.int .u8 (X20.i 0)),(.str (X20.s 1)),(.int .u8 (X20.i 2)),(.bool (X20.b 3)),(X20.v 4),(.bool (X20.b 5)),(X20.v 6),(.int .i64 (X20.i 7)),(X20.v 8)])) .fail)
 (.call 88 [p0] fun a21=>
 .asB a21 fun b22=>.ite b22
 (.call 180 [p0,(.int .u8 5)] fun a23=>
 .asG [(.int .u8 0),(.str []),(.int .u8 0),(.bool false),.nilslice,(.bool false),.nilslice,(.int .i64 0),.nilslice] a23 fun X24=>
 .ite (aB zA.one [(.int .u8 (X24.i 0)),(.str (X24.s 1)),(.int .u8 (X24.i 2)),(.bool (X24.b 3)),(X24.v 4),(.bool (X24.b 5)),(X24.v 6),(.int .i64 (X24.i 7)),(X24.v 8)]) (.ret (.agg [(.int .u8 (X24.i 0)),(.str (X24.s 1)),(.int .u8 (X24.i 2)),(.bool (X24.b 3)),(X24.v 4),(.bool (X24.b 5)),(X24.v 6),(.int .i64 (X24.i 7)),(X24.v 8)])) .fail)
 (.call 181 [p0] fun a25=>
 .asG [(.int .u8 0),(.str []),(.int .u8 0),(.bool false),.nilslice,(.bool false),.nilslice,(.int .i64 0),.nilslice] a25 fun X26=>
 .ite (aB zA.one [(.int .u8 (X26.i 0)),(.str (X26.s 1)),(.int .u8 (X26.i 2)),(.bool (X26.b 3)),(X26.v 4),(.bool (X26.b 5)),(X26.v 6),(.int .i64 (X26.i 7)),(X26.v 8)]) (.ret (.agg [(.int .u8 (X26.i 0)),(.str (X26.s 1)),(.int .u8 (X26.i 2)),(.bool (X26.b 3)),(X26.v 4),(.bool (X26.b 5)),(X26.v 6),(.int .i64 (X26.i 7)),(X26.v 8)])) .fail))))))) .fail
def w168(p0:zA)(h:rF E 168 (t168 p0) m Q):mJ E 168 [p0] m Q:=gA (oF 168) h
def t180 (p0:zA)(p1:Int):T:=
 .call 58 [p0] fun a0=>
 .asS a0 fun s1=>.heavy (eC yA 93 1 [(0,(.str [97,116]))]) fun a2=>
 .call 57 [p0,a2] fun a3=>
 .call 161 [p0] fun a4=>
 .asG [(.int .u8 0),(.str []),(.int .u8 0),(.bool false),.nilslice,(.bool false),.nilslice,(.int .i64 0),.nilslice] a4 fun X5=>
 .heavy (eC yA 48 1 [(0,(.agg [(.int .u8 (X5.i 0)),(.str (X5.s 1)),(.int .u8 (X5.i 2)),(.bool (X5.b 3)),(X5.v 4),(.bool (X5.b 5)),(X5.v 6),(.int .i64 (X5.i 7)),(X5.v 8)]))]) fun a6=>
 .ite (aB zA.one [(.int .u8 p1),(.str s1),a6]) (.ite (aB zA.one [(.int .u8 p1),(.str s1),(.int .u8 0),(.bool false),.nilslice,(.bool false),.nilslice,(.int .i64 0),a6]) (.ret (.agg [(.int .u8 p1),(.str s1),(.int .u8 0),(.bool false),.nilslice,(.bool false),.nilslice,(.int .i64 0),a6])) .fail) .fail
def w180(p0:zA)(p1:Int)(h:rF E 180 (t180 p0 p1) m Q):mJ E 180 [p0,(.int .u8 p1)] m Q:=gA (oF 180) h
def t181 (p0:zA):T:=
 .heavy (aM p0) fun a0=>
 .ite true (.ite true (.ite true (.ite true (.ite true (.ite true (.ite true (.ite true (.ite true (.ite true (.ite true (.ite true (.ite true (.heavy (tK yA 250) fun a1=>
 .heavy (zC yA 250 a1 (.agg [(.str [108,111,111,107]),(.int .u8 6),(.bool true),(.int .i64 1),(.int .i64 2),(.str [109,105,110]),(.int .u8 11),(.bool false),(.int .i64 2),(.int .i64 2),(.str [109,97,120]),(.int .u8 12),(.bool false),(.int .i64 2),(.int .i64 2),(.str [98,101,116,119,101,101,110]),(.int .u8 20),(.bool false),(.int .i64 2),(.int .i64 2),(.str [105,102]),(.int .u8 18),(.bool false),(.int .i64 3),(.int .i64 3),(.str [114,111,117,110,100]),(.int .u8 19),(.bool false),(.int .i64 2),(.int .i64 2),(.str [115,101,114,118,105,99,101]),(.int .u8 21),(.bool true),(.int .i64 2),(.int .i64 2),(.str [103,114,111,119]),(.int .u8 23),(.bool true),(.int .i64 2),(.int .i64 2),(.str [98,101,115,116]),(.int .u8 22),(.bool true),(.int .i64 3),(.int .i64 3),(.str [109,111,110,116,104,115]),(.int .u8 24),(.bool false),(.int .i64 1),(.int .i64 1),(.str [110,117,109,98,101,114]),(.int .u8 25),(.bool false),(.int .i64 1),(.int .i64 1),(.str [115,116,97,114,116]),(.int .u8 26),(.bool false),(.int .i64 1),(.int .i64 1)])) fun _=>
 .callv (.func (.func 187) [] [a1,a0]) [] fun a2=>
 .asG [(.str []),(.int .u8 0),(.bool false),(.int .i64 0),(.int .i64 0)] a2 fun X3=>
 .ite true (.ite true (.ite true (.light (fun m=>lA yA 84 ⟨0,m⟩ a0) fun a4=>.heavy (eC yA 93 1 [(0,(.str [40]))]) fun a5=>
 .call 57 [a4,a5] fun a6=>
 .ite (X3.b 2)
 (.light (fun m=>lA yA 84 ⟨0,m⟩ a0) fun a7=>.call 58 [a7] fun a8=>
 .asS a8 fun s9=>.ite true (.light (fun m=>lA yA 84 ⟨0,m⟩ a0) fun a10=>.heavy (eC yA 93 1 [(0,(.str [44]))]) fun a11=>
 .call 57 [a10,a11] fun a12=>
 .jump 19 [a0,(.int .u8 0),(.str []),(.int .u8 0),(.bool false),.nilslice,(.bool false),.nilslice,(.int .i64 0),.nilslice,(.str (X3.s 0)),(.int .u8 (X3.i 1)),(.bool (X3.b 2)),(.int .i64 (X3.i 3)),(.int .i64 (X3.i 4)),(.int .u8 (X3.i 1)),(.str s9),(.int .u8 0),(.bool false),.nilslice,(.bool false),.nilslice,(.int .i64 0),.nilslice]) .fail)
 (.jump 19 [a0,(.int .u8 0),(.str []),(.int .u8 0),(.bool false),.nilslice,(.bool false),.nilslice,(.int .i64 0),.nilslice,(.str (X3.s 0)),(.int .u8 (X3.i 1)),(.bool (X3.b 2)),(.int .i64 (X3.i 3)),(.int .i64 (X3.i 4)),(.int .u8 (X3.i 1)),(.str []),(.int .u8 0),(.bool false),.nilslice,(.bool false),.nilslice,(.int .i64 0),.nilslice])) .fail) .fail) .fail) .fail) .fail) .fail) .fail) .fail) .fail) .fail) .fail) .fail) .fail) .fail) .fail) .fail
def w181(p0:zA)(h:rF E 181 (t181 p0) m Q):mJ E 181 [p0] m Q:=gA (oF 181) h
def CC(v1:zA)(c2_0:Int)(c2_1:List Nat)(c2_2:Int)(c2_3:Bool)(c2_4:zA)(c2_5:Bool)(c2_6:zA)(c2_7:Int)(c2_8:zA)(c5_0:List Nat)(c5_1:Int)(c5_2:Bool)(c5_3 c5_4 c6_0:Int)(c6_1:List Nat)(c6_2:Int)(c6_3:Bool)(c6_4:zA)(c6_5:Bool)(c6_6:zA)(c6_7:Int)(c6_8:zA):T:=
 .light (fun m=>lA yA 84 ⟨0,m⟩ v1) fun a0=>.call 42 [a0] fun a1=>
 .asG [(.int .u8 0),(.str []),(.int .u8 0),(.bool false),.nilslice,(.bool false),.nilslice,(.int .i64 0),.nilslice] a1 fun X2=>
 .ite (same 10 c6_8 c6_8) (.heavy (eC yA 48 1 [(0,(.agg [(.int .u8 (X2.i 0)),(.str (X2.s 1)),(.int .u8 (X2.i 2)),(.bool (X2.b 3)),(X2.v 4),(.bool (X2.b 5)),(X2.v 6),(.int .i64 (X2.i 7)),(X2.v 8)]))]) fun a3=>
 .ite (same 10 c6_8 c6_8) (.heavy (cG yA 48 48 c6_8 a3) fun a4=>
 .ite (aB zA.one [a4]) (.jump 2 [v1,(.int .u8 c2_0),(.str c2_1),(.int .u8 c2_2),(.bool c2_3),c2_4,(.bool c2_5),c2_6,(.int .i64 c2_7),c2_8,(.str c5_0),(.int .u8 c5_1),(.bool c5_2),(.int .i64 c5_3),(.int .i64 c5_4),(.int .u8 c6_0),(.str c6_1),(.int .u8 c6_2),(.bool c6_3),c6_4,(.bool c6_5),c6_6,(.int .i64 c6_7),a4]) .fail) .fail) .fail
def zii(v1:zA)(c2_0:Int)(c2_1:List Nat)(c2_2:Int)(c2_3:Bool)(c2_4:zA)(c2_5:Bool)(c2_6:zA)(c2_7:Int)(c2_8:zA)(c5_0:List Nat)(c5_1:Int)(c5_2:Bool)(c5_3 c5_4 c6_0:Int)(c6_1:List Nat)(c6_2:Int)(c6_3:Bool)(c6_4:zA)(c6_5:Bool)(c6_6:zA)(c6_7:Int)(c6_8:zA)(h:rF E 181 (CC v1 c2_0 c2_1 c2_2 c2_3 c2_4 c2_5 c2_6 c2_7 c2_8 c5_0 c5_1 c5_2 c5_3 c5_4 c6_0 c6_1 c6_2 c6_3 c6_4 c6_5 c6_6 c6_7 c6_8) m Q):sH E 181 19 [v1,(.int .u8 c2_0),(.str c2_1),(.int .u8 c2_2),(.bool c2_3),c2_4,(.bool c2_5),c2_6,(.int .i64 c2_7),c2_8,(.str c5_0),(.int .u8 c5_1),(.bool c5_2),(.int .i64 c5_3),(.int .i64 c5_4),(.int .u8 c6_0),(.str c6_1),(.int .u8 c6_2),(.bool c6_3),c6_4,(.bool c6_5),c6_6,(.int .i64 c6_7),c6_8] m Q:=gJ (oF 181) h
def Ud(v1:zA)(c2_0:Int)(c2_1:List Nat)(c2_2:Int)(c2_3:Bool)(c2_4:zA)(c2_5:Bool)(c2_6:zA)(c2_7:Int)(c2_8:zA)(c5_0:List Nat)(c5_1:Int)(c5_2:Bool)(c5_3 c5_4 c6_0:Int)(c6_1:List Nat)(c6_2:Int)(c6_3:Bool)(c6_4:zA)(c6_5:Bool)(c6_6:zA)(c6_7:Int)(c6_8:zA):T:=
 .opt (uC c6_8) fun a0=>.asI .i64 a0 fun n1=>.ite (cB n1 c5_3)
 (.light (fun m=>lA yA 84 ⟨0,m⟩ v1) fun a2=>.heavy (eC yA 93 1 [(0,(.str [44]))]) fun a3=>
 .call 57 [a2,a3] fun a4=>
 .light (fun m=>lA yA 84 ⟨0,m⟩ v1) fun a5=>.call 42 [a5] fun a6=>
 .asG [(.int .u8 0),(.str []),(.int .u8 0),(.bool false),.nilslice,(.bool false),.nilslice,(.int .i64 0),.nilslice] a6 fun X7=>
 .ite (same 10 c6_8 c6_8) (.heavy (eC yA 48 1 [(0,(.agg [(.int .u8 (X7.i 0)),(.str (X7.s 1)),(.int .u8 (X7.i 2)),(.bool (X7.b 3)),(X7.v 4),(.bool (X7.b 5)),(X7.v 6),(.int .i64 (X7.i 7)),(X7.v 8)]))]) fun a8=>
 .ite (same 10 c6_8 c6_8) (.heavy (cG yA 48 48 c6_8 a8) fun a9=>
 .ite (aB zA.one [a9]) (.jump 2 [v1,(.int .u8 c2_0),(.str c2_1),(.int .u8 c2_2),(.bool c2_3),c2_4,(.bool c2_5),c2_6,(.int .i64 c2_7),c2_8,(.str c5_0),(.int .u8 c5_1),(.bool c5_2),(.int .i64 c5_3),(.int .i64 c5_4),(.int .u8 c6_0),(.str c6_1),(.int .u8 c6_2),(.bool c6_3),c6_4,(.bool c6_5),c6_6,(.int .i64 c6_7),a9]) .fail) .fail) .fail)
 (.jump 6 [v1,(.int .u8 c2_0),(.str c2_1),(.int .u8 c2_2),(.bool c2_3),c2_4,(.bool c2_5),c2_6,(.int .i64 c2_7),c2_8,(.str c5_0),(.int .u8 c5_1),(.bool c5_2),(.int .i64 c5_3),(.int .i64 c5_4),(.int .u8 c6_0),(.str c6_1),(.int .u8 c6_2),(.bool c6_3),c6_4,(.bool c6_5),c6_6,(.int .i64 c6_7),c6_8])
def ze2(v1:zA)(c2_0:Int)(c2_1:List Nat)(c2_2:Int)(c2_3:Bool)(c2_4:zA)(c2_5:Bool)(c2_6:zA)(c2_7:Int)(c2_8:zA)(c5_0:List Nat)(c5_1:Int)(c5_2:Bool)(c5_3 c5_4 c6_0:Int)(c6_1:List Nat)(c6_2:Int)(c6_3:Bool)(c6_4:zA)(c6_5:Bool)(c6_6:zA)(c6_7:Int)(c6_8:zA)(h:rF E 181 (Ud v1 c2_0 c2_1 c2_2 c2_3 c2_4 c2_5 c2_6 c2_7 c2_8 c5_0 c5_1 c5_2 c5_3 c5_4 c6_0 c6_1 c6_2 c6_3 c6_4 c6_5 c6_6 c6_7 c6_8) m Q):sH E 181 2 [v1,(.int .u8 c2_0),(.str c2_1),(.int .u8 c2_2),(.bool c2_3),c2_4,(.bool c2_5),c2_6,(.int .i64 c2_7),c2_8,(.str c5_0),(.int .u8 c5_1),(.bool c5_2),(.int .i64 c5_3),(.int .i64 c5_4),(.int .u8 c6_0),(.str c6_1),(.int .u8 c6_2),(.bool c6_3),c6_4,(.bool c6_5),c6_6,(.int .i64 c6_7),c6_8] m Q:=gJ (oF 181) h
def Uc(v1:zA)(c2_0:Int)(c2_1:List Nat)(c2_2:Int)(c2_3:Bool)(c2_4:zA)(c2_5:Bool)(c2_6:zA)(c2_7:Int)(c2_8:zA)(c5_0:List Nat)(c5_1:Int)(c5_2:Bool)(c5_3 c5_4 c6_0:Int)(c6_1:List Nat)(c6_2:Int)(c6_3:Bool)(c6_4:zA)(c6_5:Bool)(c6_6:zA)(c6_7:Int)(c6_8:zA):T:=
 .opt (uC c6_8) fun a0=>.asI .i64 a0 fun n1=>.ite (cB n1 c5_4)
 (.light (fun m=>lA yA 84 ⟨0,m⟩ v1) fun a2=>.call 72 [a2,(.str [44])] fun a3=>
 .asB a3 fun b4=>.ite b4
 (.light (fun m=>lA yA 84 ⟨0,m⟩ v1) fun a5=>.call 42 [a5] fun a6=>
 .asG [(.int .u8 0),(.str []),(.int .u8 0),(.bool false),.nilslice,(.bool false),.nilslice,(.int .i64 0),.nilslice] a6 fun X7=>
 .ite (same 10 c6_8 c6_8) (.heavy (eC yA 48 1 [(0,(.agg [(.int .u8 (X7.i 0)),(.str (X7.s 1)),(.int .u8 (X7.i 2)),(.bool (X7.b 3)),(X7.v 4),(.bool (X7.b 5)),(X7.v 6),(.int .i64 (X7.i 7)),(X7.v 8)]))]) fun a8=>
 .ite (same 10 c6_8 c6_8) (.heavy (cG yA 48 48 c6_8 a8) fun a9=>
 .ite (aB zA.one [a9]) (.jump 6 [v1,(.int .u8 c2_0),(.str c2_1),(.int .u8 c2_2),(.bool c2_3),c2_4,(.bool c2_5),c2_6,(.int .i64 c2_7),c2_8,(.str c5_0),(.int .u8 c5_1),(.bool c5_2),(.int .i64 c5_3),(.int .i64 c5_4),(.int .u8 c6_0),(.str c6_1),(.int .u8 c6_2),(.bool c6_3),c6_4,(.bool c6_5),c6_6,(.int .i64 c6_7),a9]) .fail) .fail) .fail)
 (.ite (oB c5_1 19)
 (.light (fun m=>lA yA 84 ⟨0,m⟩ v1) fun a10=>.heavy (eC yA 93 1 [(0,(.str [44]))]) fun a11=>
 .call 57 [a10,a11] fun a12=>
 .light (fun m=>lA yA 84 ⟨0,m⟩ v1) fun a13=>.call 110 [a13,(.int .u8 1),(.int .u8 6),(.func (.func 188) [] [])] fun a14=>
 .asI .u8 a14 fun n15=>.ite true (.jump 37 [v1,(.int .u8 c2_0),(.str c2_1),(.int .u8 c2_2),(.bool c2_3),c2_4,(.bool c2_5),c2_6,(.int .i64 c2_7),c2_8,(.int .u8 c6_0),(.str c6_1),(.int .u8 c6_2),(.bool c6_3),c6_4,(.bool c6_5),c6_6,(.int .i64 (iA .i64 n15)),c6_8]) .fail)
 (.jump 37 [v1,(.int .u8 c2_0),(.str c2_1),(.int .u8 c2_2),(.bool c2_3),c2_4,(.bool c2_5),c2_6,(.int .i64 c2_7),c2_8,(.int .u8 c6_0),(.str c6_1),(.int .u8 c6_2),(.bool c6_3),c6_4,(.bool c6_5),c6_6,(.int .i64 c6_7),c6_8])))
 (.ite (oB c5_1 19)
 (.light (fun m=>lA yA 84 ⟨0,m⟩ v1) fun a16=>.heavy (eC yA 93 1 [(0,(.str [44]))]) fun a17=>
 .call 57 [a16,a17] fun a18=>
 .light (fun m=>lA yA 84 ⟨0,m⟩ v1) fun a19=>.call 110 [a19,(.int .u8 1),(.int .u8 6),(.func (.func 188) [] [])] fun a20=>
 .asI .u8 a20 fun n21=>.ite true (.jump 37 [v1,(.int .u8 c2_0),(.str c2_1),(.int .u8 c2_2),(.bool c2_3),c2_4,(.bool c2_5),c2_6,(.int .i64 c2_7),c2_8,(.int .u8 c6_0),(.str c6_1),(.int .u8 c6_2),(.bool c6_3),c6_4,(.bool c6_5),c6_6,(.int .i64 (iA .i64 n21)),c6_8]) .fail)
 (.jump 37 [v1,(.int .u8 c2_0),(.str c2_1),(.int .u8 c2_2),(.bool c2_3),c2_4,(.bool c2_5),c2_6,(.int .i64 c2_7),c2_8,(.int .u8 c6_0),(.str c6_1),(.int .u8 c6_2),(.bool c6_3),c6_4,(.bool c6_5),c6_6,(.int .i64 c6_7),c6_8]))
def ze1(v1:zA)(c2_0:Int)(c2_1:List Nat)(c2_2:Int)(c2_3:Bool)(c2_4:zA)(c2_5:Bool)(c2_6:zA)(c2_7:Int)(c2_8:zA)(c5_0:List Nat)(c5_1:Int)(c5_2:Bool)(c5_3 c5_4 c6_0:Int)(c6_1:List Nat)(c6_2:Int)(c6_3:Bool)(c6_4:zA)(c6_5:Bool)(c6_6:zA)(c6_7:Int)(c6_8:zA)(h:rF E 181 (Uc v1 c2_0 c2_1 c2_2 c2_3 c2_4 c2_5 c2_6 c2_7 c2_8 c5_0 c5_1 c5_2 c5_3 c5_4 c6_0 c6_1 c6_2 c6_3 c6_4 c6_5 c6_6 c6_7 c6_8) m Q):sH E 181 6 [v1,(.int .u8 c2_0),(.str c2_1),(.int .u8 c2_2),(.bool c2_3),c2_4,(.bool c2_5),c2_6,(.int .i64 c2_7),c2_8,(.str c5_0),(.int .u8 c5_1),(.bool c5_2),(.int .i64 c5_3),(.int .i64 c5_4),(.int .u8 c6_0),(.str c6_1),(.int .u8 c6_2),(.bool c6_3),c6_4,(.bool c6_5),c6_6,(.int .i64 c6_7),c6_8] m Q:=gJ (oF 181) h
def CB(v1:zA)(c2_0:Int)(c2_1:List Nat)(c2_2:Int)(c2_3:Bool)(c2_4:zA)(c2_5:Bool)(c2_6:zA)(c2_7:Int)(c2_8:zA)(c6_0:Int)(c6_1:List Nat)(c6_2:Int)(c6_3:Bool)(c6_4:zA)(c6_5:Bool)(c6_6:zA)(c6_7:Int)(c6_8:zA):T:=
 .light (fun m=>lA yA 84 ⟨0,m⟩ v1) fun a0=>.heavy (eC yA 93 1 [(0,(.str [41]))]) fun a1=>
 .call 57 [a0,a1] fun a2=>
 .ite (aB zA.one [(.int .u8 c6_0),(.str c6_1),(.int .u8 c6_2),(.bool c6_3),c6_4,(.bool c6_5),c6_6,(.int .i64 c6_7),c6_8]) (.ret (.agg [(.int .u8 c6_0),(.str c6_1),(.int .u8 c6_2),(.bool c6_3),c6_4,(.bool c6_5),c6_6,(.int .i64 c6_7),c6_8])) .fail
def zih(v1:zA)(c2_0:Int)(c2_1:List Nat)(c2_2:Int)(c2_3:Bool)(c2_4:zA)(c2_5:Bool)(c2_6:zA)(c2_7:Int)(c2_8:zA)(c6_0:Int)(c6_1:List Nat)(c6_2:Int)(c6_3:Bool)(c6_4:zA)(c6_5:Bool)(c6_6:zA)(c6_7:Int)(c6_8:zA)(h:rF E 181 (CB v1 c2_0 c2_1 c2_2 c2_3 c2_4 c2_5 c2_6 c2_7 c2_8 c6_0 c6_1 c6_2 c6_3 c6_4 c6_5 c6_6 c6_7 c6_8) m Q):sH E 181 37 [v1,(.int .u8 c2_0),(.str c2_1),(.int .u8 c2_2),(.bool c2_3),c2_4,(.bool c2_5),c2_6,(.int .i64 c2_7),c2_8,(.int .u8 c6_0),(.str c6_1),(.int .u8 c6_2),(.bool c6_3),c6_4,(.bool c6_5),c6_6,(.int .i64 c6_7),c6_8] m Q:=gJ (oF 181) h
def t187 (w0 w1:zA):T:=
 .light (fun m=>lA yA 250 ⟨0,m⟩ w0) fun a0=>.jump 2 [w1,a0,(.int .i64 0),(.str []),(.int .u8 0),(.bool false),(.int .i64 0),(.int .i64 0)]
def w187(w0 w1:zA)(h:rF E 187 (t187 w0 w1) m Q):mJ E 187 [w0,w1] m Q:=gA (oF 187) h
def Ua(v1 v5:zA)(v6:Int)(c2_0:List Nat)(c2_1:Int)(c2_2:Bool)(c2_3 c2_4:Int):T:=
 .ite (cB v6 12)
 (.opt (oI yA 250 v5 (.int .i64 v6)) fun a0=>.asG [(.str []),(.int .u8 0),(.bool false),(.int .i64 0),(.int .i64 0)] a0 fun X1=>
 .ite true (.light (fun m=>lA yA 84 ⟨0,m⟩ v1) fun a2=>.call 72 [a2,(.str (X1.s 0))] fun a3=>
 .asB a3 fun b4=>.ite b4
 (.ite true (.ret (.agg [(.str (X1.s 0)),(.int .u8 (X1.i 1)),(.bool (X1.b 2)),(.int .i64 (X1.i 3)),(.int .i64 (X1.i 4))])) .fail)
 (.jump 2 [v1,v5,(.int .i64 (iA .i64 (v6+1))),(.str c2_0),(.int .u8 c2_1),(.bool c2_2),(.int .i64 c2_3),(.int .i64 c2_4)])) .fail)
 (.light (fun m=>lA yA 84 ⟨0,m⟩ v1) fun a5=>.call 48 [a5,(.int .i64 120)] fun a6=>
 .ite true (.ite true (.ret (.agg [(.str []),(.int .u8 0),(.bool false),(.int .i64 0),(.int .i64 0)])) .fail) .fail)
def zez(v1 v5:zA)(v6:Int)(c2_0:List Nat)(c2_1:Int)(c2_2:Bool)(c2_3 c2_4:Int)(h:rF E 187 (Ua v1 v5 v6 c2_0 c2_1 c2_2 c2_3 c2_4) m Q):sH E 187 2 [v1,v5,(.int .i64 v6),(.str c2_0),(.int .u8 c2_1),(.bool c2_2),(.int .i64 c2_3),(.int .i64 c2_4)] m Q:=gJ (oF 187) h
end Go.Proofs
namespace Go.Am
open Go Go.RowKit
variable {b:Bool}{x y:T}{K:zA->T}{v:zA}{a:List zA}
section
variable {base:Nat}{W J:eE}{t:Tr vA}{Q:pB}
theorem sA  (h:b=true)(k:pA base W J x t Q):pA base W J (.ite b x y) t Q:=by
 show if b=true then _ else _;simp_all
theorem tB  (h:b≠true)(k:pA base W J y t Q):pA base W J (.ite b x y) t Q:=by
 show if b=true then _ else _;simp_all
theorem oA{x:Option zA}  (h:x=some v)(k:pA base W J (K v) t Q):pA base W J (.opt x K) t Q:=by
 show vE x _;simp_all
theorem vC{x:Tr vA->Option zA}  (h:x t=some v)(k:pA base W J (K v) t Q):pA base W J (.light x K) t Q:=by
 show vE (x t) _;simp_all
def yB{f:Nat}  (k:W f a t (fun v t'=>pA base W J (K v) t' Q)):pA base W J (.call f a K) t Q:=k
theorem sB{n:Int}{i:IntKind}{K:Int->T}(k:pA base W J (K n) t Q):pA base W J (.asI i (.int i n) K) t Q:=by
 show vE (Hj i (.int i n)) _;rw[rC];exact k
theorem pD {K:Bool->T}(k:pA base W J (K b) t Q):pA base W J (.asB (.bool b) K) t Q:=k
def lF{s:List Nat}{K:List Nat->T}(k:pA base W J (K s) t Q):pA base W J (.asS (.str s) K) t Q:=k
theorem fC{zs:List zA}{a:zA}{K:jG->T}{X:jG}(h:xK zs a=some X)(k:pA base W J (K X) t Q):pA base W J (.asG zs a K) t Q:=by
 show vE (xK zs a) _;simp_all
theorem jC{x:xA->Option (zA × xA)} (k:∀b,t.get b=none->base<=b->∃v H,x ⟨b,t⟩=some (v,H)/\pA base W J (K v) H.t Q):pA base W J (.heavy x K) t Q:=by
 intro b h1 h2;obtain⟨v,H,h3,h4⟩:=k b h1 h2
 simp_all
def kC{i:Nat} (k:J i a t Q):pA base W J (.jump i a) t Q:=k
end
section
variable {t:Tr vA}{C:mA}
theorem gI.mid{T el sz:Nat}{agg:Bool}(h:gI C T el sz agg){l:List D} (hr:bA t sz l v){k:Nat}{d:D}(hk:l[k]?=some d) :
  ∃v',uF C T ⟨0,t⟩ v (some (.int .i64 (k:Int))) (some (.int .i64 ((k+1:Nat):Int)))=some v'/\bA t sz [d] v':=by
 obtain⟨⟨y,hy1,hy2⟩,⟨z,hz1,hz2,hz3⟩⟩:=h
 obtain⟨cl,he,hd⟩:=hr
 have hlen:=hd.length
 have hlt:=(ybc.1 hk).1
 obtain⟨cs,hc,hrd⟩:=hd.get hk
 unfold uF;rw[hy1,rA];have hb:∀(y n:Nat),mW y (.int .i64 (n:Int))=xB (Nat.ble n y) (some n):=fun y n=>rfl
 rcases he with⟨rfl,rfl⟩ | ⟨b,off,cap,rfl,hcap,⟨c,n,lo,hg,hlo⟩,he⟩
 ·grind
 ·refine⟨.slice b (off+k*sz) 1 (cap-k),?_,[cs],.inr ⟨b,off+k*sz,cap-k,rfl,by grind,⟨c,n,lo,hg,hlo⟩,fun i q hi=>?_⟩,yD.2 ⟨cs,[],rfl,hrd,sF.2 rfl⟩⟩
  ·unfold iN
   simp only[zA.asStr,zA.asSlice];rw[hy2,rA];unfold sQ;rw[hz1,rA];unfold dQ Aj;simp only[hb];rw[qE.2 (show k+1<=cap by omega)]
   simp only[sE,rA];rw[qE.2 (show k<=k+1 by omega)]
   simp only[sE,rA];have hne:Nat.beq cap k=false:=by
    grind [lC]
   have he2:jN ⟨0,t⟩ b z.size cap k false=false:=by
    grind [jN]
   rw[he2,yay,cond_false];have hf:kO ⟨0,t⟩ b z.size cap k false=true:=by
    unfold kO kD;rw[hg,rA];simp only[vA.asCells];rcases hlo with rfl | ⟨x,rfl,hx⟩
    all_goals simp_all
   rw[qE.2 (show k+1<=cap by omega),hf,hne,hz2]
   simp only[Bool.and_self,sE,cond_false];rw[show k+1-k=1 by omega]
  grind
end
end Go.Am
namespace Go.Am
open Go Go.RowKit
section
section
variable {t tf:Tr vA}{C:mA}
theorem KH{sz:Nat}{z c1 c2:List zA}(hz:z.length=sz)(h1:c1.length=sz)(h2:c2.length=sz):kL (fun i=>some (i*sz,sz)) [(0,.agg c1),(1,.agg c2)] (nI z 2)=some [c1,c2].flatten:=by
 have e:nI z 2=z++z:=by
  show eD z (eD z [])=_;rw[aG,aG,ycd]
 rw[e];have o1:iU (z++z) (0*sz) sz (.agg c1)=some (c1++z):=by
  unfold iU;have e1:(zA.agg c1).cells=c1:=rfl
  simp only[e1,oD,h1,Nat.zero_mul,ybw,eR,lQ,aG,List.take_zero,yah];rw[lC.2 rfl,qE.2 (by grind)]
  simp only[Bool.and_self,sE];rw[<- hz,List.drop_left]
 have o2:iU (c1++z) (1*sz) sz (.agg c2)=some (c1++c2):=by
  unfold iU;have e1:(zA.agg c2).cells=c2:=rfl
  simp only[e1,oD,h2,Nat.one_mul,eR,lQ,aG];rw[lC.2 rfl,qE.2 (by grind)]
  simp only[Bool.and_self,sE];rw[<- h1,List.take_left,ybt (by grind),ycd]
 grind [kL,rA]
end
end
section
section
variable {t tf:Tr vA}{C:mA}
theorem xD.app:∀ {l m:List D} {cl cm:List (List zA)},xD tf l cl->xD tf m cm->xD tf (l++m) (cl++cm):=by
 intro l;induction l with
 | nil=>grind [sF]
 | cons d l ih=>
  grind [yD]
variable {base sz:Nat}{l:List D}{v:zA}
end
end
section
variable {n:Nat}{A B:List iE}{lo:Option Lo}{cs:List zA}
section
variable {t tf:Tr vA}{C:mA}{base:Nat}
def DH{α:Type}{A B:List α}{x y:α} (h:A.length=n):(A++x::B).set n y=A++y::B:=by
 subst h;rw[List.set_append_right _ _ (ybk _),Nat.sub_self,List.set_cons_zero]
theorem fA.newCel  {t':Tr vA}  (h:fA base tf t (A++B))(hn:t.get n=none)(hb:base<=n)(hc:dC t' n lo cs)(ht:aA t t')(ho:bF n t t'):fA base tf t' (A++fB n lo cs::B):=
 fA.add (o':=fB n lo cs) h (fun k hk=>ho k (fun e=>hk (by simp[fB,e]))) (fun k hk=>by
  grind [fB]) hc (by simp[fB]) (h.tle.trans ht)
def fA.cel    (h:fA base tf t (A++fB n lo cs::B)):dC t n lo cs:=h.ok (fB n lo cs) (by simp)
def fA.setCel {j T:Nat}  {y:lD}{v:zA}(h:fA C.base tf t (A++fB n lo cs::B))(hT:C.tys.get T=some y)(hl:v.cells.length=y.size)(hj:j+v.cells.length<=cs.length)(hone:aB zA.one v.cells=true) :
  ∃t',(∀q,zC C T (.ptr n j) v ⟨q,t⟩=some (fD,⟨q,t'⟩))/\fA C.base tf t' (A++fB n lo (rJ cs j v.cells)::B):=by
 have hlow:=h.low n (by simp[fB])
 obtain⟨t',s1,s2,s3⟩:=h.cel.store (C:=C) hlow.1 (j:=j) (v:=v) hT hl hj hone
 exact⟨t',s1,fA.upd (o:=fB n lo cs) (o':=fB n lo (rJ cs j v.cells)) h (fun k h1 _=>s3 k (fun e=>h1 (by simp[fB,e]))) (fun k hk=>.inl hk) s2 (by simp[fB]) (h.tle.off hlow.2 s3)⟩
end
end
end Go.Am
namespace Go.Proofs
open Go Go.Am
variable {α:Type}{b d' e k n':Nat}{w:List Nat}
variable [gC]
def lB.d(t:lB):D:=.st [.int .u8 (t.kind:Int),.str t.text,.int .i64 (t.line:Int),.int .i64 (t.col:Int)]
def lB.cs(t:lB):List zA:=[.int .u8 (t.kind:Int),.str t.text,.int .i64 (t.line:Int),.int .i64 (t.col:Int)]
theorem Ph{t:Tr vA}{x:lB}{cs:List zA}(h:RD t x.d cs):cs=x.cs:=by
 grind [lB.d,lB.cs,kJ,yD,sF,mK,lK]
structure cI where
 tk:List lB
 bp:Nat
 ts:zA
 el:Nat
 ec:Nat
 L:List iE
abbrev tG(P:cI)(n d:Nat):iE:=fB P.bp none [P.ts,.int .i64 (n:Int),.int .i64 (d:Int),.int .i64 (P.el:Int),.int .i64 (P.ec:Int)]
def kK(t:Tr vA):Prop:=At t 1 0 ((List.range 7).map fun i=>.str (Eo i))/\At t 4 0 ((List.range 7).map fun i=>.str (dS i))/\At t 2 0 (Li.map fun(n:Nat)=>.int .i64 (n:Int))
theorem kK.mono{t t':Tr vA}(h:kK t)(hl:aA t t'):kK t':=⟨h.1.mono hl,h.2.1.mono hl,h.2.2.mono hl⟩
structure St (P:cI) (tf t:Tr vA) (n d:Nat):Prop where
 ts:bA tf 4 (P.tk.map lB.d) P.ts
 ob:fA yA.base tf t (tG P n d::P.L)
 len:P.tk.length<300000
 le:n<=P.tk.length
 good:∀x∈P.tk,dT x
 glob:kK tf
def yG(P:cI)(i:Nat):lB:=(P.tk[i]?).getD ⟨0,[],P.el,P.ec⟩
def Ro(P:cI)(e i:Nat):zA:=.iface 123 (.agg [.int .i64 ((yG P i).line:Int),.int .i64 ((yG P i).col:Int),.int .i64 (e:Int)])
def Ok {α:Type}(P:cI)(rd:Tr vA->α->zA->Prop)(d:Nat)(tf:Tr vA)(r:PR α)(Q E:pB):Prop:=
 match r with
 | .ok a n=>∀tf' t' v,aA tf tf'->St P tf' t' n d->rd tf' a v->Q v t'
 | .er e i=>∀tf' t' n' d',aA tf tf'->St P tf' t' n' d'->E (Ro P e i) t'
section
variable {P:cI}{tf t:Tr vA}{n d:Nat}{Q E:pB}
theorem Ok.mono {rd:Tr vA->α->zA->Prop}{r:PR α}(h:Ok P rd d tf r Q E){tf':Tr vA}(hl:aA tf tf'):Ok P rd d tf' r Q E:=by
 cases r with
 | ok a n=>exact fun tf2 t' v k1 k2 k3=>h tf2 t' v (hl.trans k1) k2 k3
 | er e i=>exact fun tf2 t' n' d' k1 k2=>h tf2 t' n' d' (hl.trans k1) k2
def Ok.bind{β:Type}{rd1:Tr vA->α->zA->Prop}{rd:Tr vA->β->zA->Prop}{r:PR α}{f:α->Nat->PR β}{Q1:pB}(h:Ok P rd d tf (r.bind f) Q E)
  (k:∀a n1 tf1 t1 v,r=.ok a n1->aA tf tf1->St P tf1 t1 n1 d->rd1 tf1 a v->Ok P rd d tf1 (f a n1) Q E->Q1 v t1):Ok P rd1 d tf r Q1 E:=by
 cases r with
 | ok a n=>exact fun tf' t' v h1 h2 h3=>k a n tf' t' v rfl h1 h2 h3 (Ok.mono h h1)
 | er e i=>exact h
def Ok.now {rd:Tr vA->α->zA->Prop}{a:α}{v:zA}(h:Ok P rd d tf (.ok a n) Q E)(hst:St P tf t n d)(hr:rd tf a v):Q v t:=h tf t v (aA.refl _) hst hr
def Ok.err {rd:Tr vA->α->zA->Prop}{i:Nat}(h:Ok P rd d tf (.er e i) Q E) (hst:St P tf t n' d'):E (Ro P e i) t:=h tf t n' d' (aA.refl _) hst
def St.cel(h:St P tf t n d):dC t P.bp none [P.ts,.int .i64 (n:Int),.int .i64 (d:Int),.int .i64 (P.el:Int),.int .i64 (P.ec:Int)]:=h.ob.cel (A:=[])
def nl{o:Nat}:iF (.ptr b o)=some (.ptr b o):=rfl
def f0  : nC yA 121 0 (.ptr b 0)=some (.ptr b 0):=by kernel_rfl
def f1  : nC yA 121 1 (.ptr b 0)=some (.ptr b 1):=by kernel_rfl
def f2  : nC yA 121 2 (.ptr b 0)=some (.ptr b 2):=by kernel_rfl
def f3  : nC yA 121 3 (.ptr b 0)=some (.ptr b 3):=by kernel_rfl
def St.l0(h:St P tf t n d):lA yA 66 ⟨0,t⟩ (.ptr P.bp 0)=some P.ts:=h.cel.load1 kS rfl rfl
def St.l1(h:St P tf t n d):lA yA 3 ⟨0,t⟩ (.ptr P.bp 1)=some (.int .i64 (n:Int)):=h.cel.load1 nO rfl rfl
def St.l2(h:St P tf t n d):lA yA 3 ⟨0,t⟩ (.ptr P.bp 2)=some (.int .i64 (d:Int)):=h.cel.load1 nO rfl rfl
def St.l3(h:St P tf t n d):lA yA 29 ⟨0,t⟩ (.ptr P.bp 3)=some (.agg [.int .i64 (P.el:Int),.int .i64 (P.ec:Int)]):=by
 have:=h.cel.at.load (j:=3) (n:=2) eT rfl rfl (by simp)
 simpa using this
def St.tsr(h:St P tf t n d):bA t 4 (P.tk.map lB.d) P.ts:=h.ts.mono h.ob.tle
def St.len'(h:St P tf t n d):uC P.ts=some (.int .i64 (P.tk.length:Int)):=by
 have:=h.ts.len
 rwa [ybf]at this
def bQ(x:lB):xK Cy (.agg x.cs)=some (cellsOf x.cs):=cQ rfl
def cT0(x:lB):(cellsOf x.cs).i 0=(x.kind:Int):=rfl
def cT1(x:lB):(cellsOf x.cs).s 1=x.text:=rfl
def cT2(x:lB):(cellsOf x.cs).i 2=(x.line:Int):=rfl
def cT3(x:lB):(cellsOf x.cs).i 3=(x.col:Int):=rfl
def Gx(h:St P tf t n d):sC yA F 71 [.ptr P.bp 0] t=some (.agg (yG P n).cs):=by
 refine dD.2 (w71 ?_)
 simp only[yI,uI,uG,uZ,uY,uA10,t71,pA,nl,f0,f1,f3,h.l0,h.l1,h.len',qA,rC,vG];by_cases hn:n<P.tk.length
 ·rw[yab (by omega)]
  have hx:P.tk[n]?=some P.tk[n]:=ybd hn
  have hd:(P.tk.map lB.d)[n]?=some P.tk[n].d:=by rw[ybu,hx];rfl
  obtain⟨b,o,cs,h1,h2,_,_,h3⟩:=sl66.at (fun h=>by cases h) h.tsr hd
  rw[h1,qA,h2,qA];have e:=Ph h3
  subst e;show vE (xK Cy (.agg P.tk[n].cs)) _
  rw[bQ,qA];simp only[if_true,cT0,cT1,cT2,cT3];unfold yG;rw[hx];exact⟨rfl,trivial⟩
 ·rw[yaa (by omega),h.l3,qA]
  have hx:P.tk[n]?=none:=List.getElem?_eq_none (by omega)
  show vE (some (cellsOf _)) _
  rw[qA];simp only[if_true];unfold yG;rw[hx];exact⟨rfl,trivial⟩
def zjx  : acc P.tk w n=((decide ((yG P n).kind=1)||decide ((yG P n).kind=4))&&qG (yG P n).text w):=by
 unfold acc yG
 cases P.tk[n]? with
 | none=>rfl
 | some x=>rfl
def Lr (hk:0<k):bC P.tk k n=decide ((yG P n).kind=k):=by
 unfold bC yG
 cases P.tk[n]? with
 | none=>simp;omega
 | some x=>rfl
def Tq:lE P.tk n=(yG P n).text:=by
 unfold lE yG
 cases P.tk[n]? with
 | none=>rfl
 | some x=>rfl
def St.set1(h:St P tf t n d) (hn:n'<=P.tk.length):∃t',(∀q,zC yA 3 (.ptr P.bp 1) (.int .i64 (n':Int)) ⟨q,t⟩=some (fD,⟨q,t'⟩))/\St P tf t' n' d:=by
 obtain⟨t',h1,h2⟩:=fA.setCel (A:=[]) (j:=1) (v:=.int .i64 (n':Int)) h.ob nO rfl (by show 1+1<=5;omega) rfl
 exact⟨t',h1,h.ts,h2,h.len,hn,h.good,h.glob⟩
def St.set2(h:St P tf t n d)  : ∃t',(∀q,zC yA 3 (.ptr P.bp 2) (.int .i64 (d':Int)) ⟨q,t⟩=some (fD,⟨q,t'⟩))/\St P tf t' n d':=by
 obtain⟨t',h1,h2⟩:=fA.setCel (A:=[]) (j:=2) (v:=.int .i64 (d':Int)) h.ob nO rfl (by show 2+1<=5;omega) rfl
 exact⟨t',h1,h.ts,h2,h.len,h.le,h.good,h.glob⟩
def Na (h:acc P.tk w n=true):n<P.tk.length:=by
 unfold acc at h
 cases hx:P.tk[n]? with
 | none=>rw[hx]at h;cases h
 | some x=>exact(ybc.1 hx).1
def Cq (h:St P tf t n d)(hQ:∀t',St P tf t' (if acc P.tk w n then n+1 else n) d->Q (.bool (acc P.tk w n)) t'):Wc yA F 72 [.ptr P.bp 0,.str w] t Q:=by
 refine w72 ?_
 simp only[uG,uQ7,yI,uI,tC,t72,pA];rw[q71,Gx h,qA,bQ,qA];have ha:=zjx (P:=P) (n:=n) (w:=w)
 simp only[if_true,cT0,cT1,nl,f1,qA,mG];have step:qG (yG P n).text w=true->(decide ((yG P n).kind=1)||decide ((yG P n).kind=4))=true->vE (lA yA 3 ⟨0,t⟩ (.ptr P.bp 1)) (fun v=>vE (Hj .i64 v) fun n'=>∀b,t.get b=none->yA.base<=b->vE (zC yA 3 (.ptr P.bp 1) (wD n') ⟨b,t⟩) fun p=>Q (.bool (qG (yG P n).text w)) p.2.t):=by
  intro h1 h2;rw[h1,h2]at ha;have ha:acc P.tk w n=true:=ha
  rw[h.l1,qA,rC,qA];intro b _ _;have hlt:=Na ha
  have hl:=h.len
  obtain⟨t',k1,k2⟩:=h.set1 (n':=n+1) (by omega)
  have e:wD (n:Int)=.int .i64 ((n+1:Nat):Int):=by
   show zA.int .i64 (iA .i64 ((n:Int)+1))=_
   rw[iC (by omega) (by omega)];rfl
  rw[e,k1,qA,h1];rw[ha]at hQ;exact hQ t' k2
 by_cases hk:(yG P n).kind=1
 ·rw[yab (by omega)]
  cases he:qG (yG P n).text w with
  | true=>rw[yab rfl];rw[<- he];exact step he (by simp[hk])
  | false=>
   rw[yaa (by simp)]
   rw[he,yay]at ha;rw[ha]at hQ;exact hQ t h
 ·rw[yaa (by omega)]
  by_cases hk4:(yG P n).kind=4
  ·rw[yab (by omega)]
   cases he:qG (yG P n).text w with
   | true=>rw[yab rfl];rw[<- he];exact step he (by simp[hk4])
   | false=>
    rw[yaa (by simp)]
    rw[he,yay]at ha;rw[ha]at hQ;exact hQ t h
  ·rw[yaa (by omega)]
   have ha:acc P.tk w n=false:=by rw[ha];simp[hk,hk4]
   rw[ha]at hQ;exact hQ t h
def IZ(h:St P tf t n d):sC yA F 88 [.ptr P.bp 0] t=some (.bool (bK P.tk n)):=by
 refine dD.2 (w88 ?_)
 simp only[uG,uB,tC,t88,pA];rw[q71,Gx h,qA,bQ,qA];simp only[if_true,cT0,cT1,mG,q13,zhw,qA,zA.asBool];unfold bK;rw[Lr (by omega),Tq]
 by_cases hk:(yG P n).kind=1
 ·rw[yab (by omega)];simp[hk]
 ·rw[yaa (by omega)];simp[hk]
def KJ (h:St P tf t n d)(hE:E (Ro P e n) t):lJ yA F E 48 [.ptr P.bp 0,.int .i64 (e:Int)] t Q:=by
 refine w48 _ _ ?_
 unfold t48;refine yB ?_
 rw[pQ 71,Gx h,qA];refine fC (bQ _) (sA rfl ?_)
 refine yB (pX _ _ _ ?_)
 exact hE
def Ok.fail {rd:Tr vA->α->zA->Prop} (h:St P tf t n d)(hk:Ok P rd d tf (.er e n) Q E){Q':pB}:jE yA F qC vF E 48 [.ptr P.bp 0,.int .i64 (e:Int)] t Q':=by
 rw[pE 48];exact KJ h (hk.err h)
def rdStr(_:Tr vA)(s:List Nat)(v:zA):Prop:=v=.str s
def rdU (_:Tr vA)(_:Unit)(v:zA):Prop:=v=.tup []
def rdInt(_:Tr vA)(s:Int)(v:zA):Prop:=v=.int .i64 s
def rdU8 (_:Tr vA)(s:Nat)(v:zA):Prop:=v=.int .u8 (s:Int)
def rdTok(k:Nat)(_:Tr vA)(s:List Nat)(v:zA):Prop:=∃x:lB,x.kind=k/\x.text=s/\v=.agg x.cs
def Dm (hk0:0<k)(h:St P tf t n d)(hk:Ok P (rdTok k) d tf (aC P.tk k n) Q E):lJ yA F E 59 [.ptr P.bp 0,.int .u8 (k:Int)] t Q:=by
 refine w59 _ _ ?_
 unfold t59;refine yB ?_
 rw[pQ 71,Gx h,qA];refine fC (bQ _) (sA rfl ?_)
 unfold aC at hk;rw[Lr hk0]at hk;by_cases hx:(yG P n).kind=k
 ·rw[decide_eq_true hx,yab rfl]at hk
  refine tB (by rw[cT0,hx];simp[aE]) (kC (j59_9 _ _ _ _ _ _ _ _ _ ?_))
  unfold t59_9;refine oA nl (oA f1 (vC h.l1 (sB (oA nl (oA f1 (jC fun b _ _=>?_))))))
  have hlt:n<P.tk.length:=by
   unfold yG at hx
   cases hy:P.tk[n]? with
   | none=>rw[hy]at hx;simp at hx;omega
   | some x=>exact(ybc.1 hy).1
  have hl:=h.len
  obtain⟨t',k1,k2⟩:=h.set1 (n':=n+1) (by omega)
  have e:iA .i64 ((n:Int)+1)=((n+1:Nat):Int):=by
   rw[iC (by omega) (by omega)];rfl
  rw[e];refine⟨_,_,k1 b,sA rfl ?_⟩
  exact Ok.now hk k2 ⟨yG P n,hx,by rw[Tq],rfl⟩
 ·rw[decide_eq_false hx,yaa (by simp)]at hk
  refine sA (by rw[cT0];simp[aE];omega) (yB (Ok.fail h hk))
def Eg(h:St P tf t n d)(hk:Ok P rdStr d tf (kH P.tk n) Q E):lJ yA F E 58 [.ptr P.bp 0] t Q:=by
 refine w58 _ ?_
 unfold t58;refine yB ?_
 rw[pQ 88,IZ h,qA];refine pD ?_
 unfold kH at hk
 cases hx:bK P.tk n with
 | false=>
  rw[hx,yaa (by simp)]at hk
  exact sA rfl (yB (Ok.fail h hk))
 | true=>
  rw[hx,yab rfl]at hk;refine tB (by simp) (yB ?_)
  rw[pE 59];refine Dm (k:=1) (by omega) h ?_
  have hkd:bC P.tk 1 n=true:=by unfold bK at hx;simp only[ybb]at hx;exact hx.1
  unfold aC;rw[hkd,yab rfl];intro tf' t' v k1 k2 ⟨x,_,e,k3⟩
  subst k3;refine fC (bQ _) ?_
  exact hk tf' t' _ k1 k2 (by show zA.str x.text=.str _;rw[e])
end
end Go.Proofs
namespace Go.Am
open Go Go.RowKit
def Bn{α:Type}(f:Nat->Option α):Nat->Tr α
 | 0=>.leaf
 | n+1=>match f n with
  | some v=>(Bn f n).set n v
  | none=>Bn f n
theorem Ch{α:Type}(f:Nat->Option α):∀(n a:Nat),(Bn f n).get a=if a<n then f a else none:=by
 intro n;induction n with
 | zero=>intro a;rw[yaa (by omega)];exact Tr.get_leaf _
 | succ n ih=>
  grind [Bn,Tr.get_set]
def Fs (N:Nat):Value->Option zA
 | .bool b=>some (.bool b)
 | .int k n=>some (.int k n)
 | .string s=>some (.str (nF s))
 | .slice none 0 0=>some .nilslice
 | .slice (some _) 0 0=>some (.slice 0 0 0 0)
 | .slice (some ⟨b,off,none⟩) len cap=>if b<N then some (.slice (256+b) off len cap)else none
 | _=>none
def absB (N:Nat):Obj->Option vA
 | .cells cs _ _=>some (.cells (Bn (fun j=>(cs[j]?).bind (Fs N)) cs.size) cs.size none)
 | _=>none
def dP (w:World):Tr vA:=Bn (fun a=>if a<256 then(w.heap[a]?).bind (absB w.heap.size)else(w.heap[a-256]?).bind (absB w.heap.size)) (256+w.heap.size)
def muW (w:World):Mu:=⟨fun a=>if a<256 then some ⟨a,true,0,0,true⟩else if a<256+w.heap.size then some ⟨a-256,true,0,0,true⟩else none,fun _=>none⟩
section
variable {w:World}
theorem zdj{v:Value}{a:zA}(h:Fs w.heap.size v=some a):uA (muW w) a v:=by
 unfold Fs at h;split at h
 ·cases h;rw[uA]
 ·cases h;rw[uA]
 ·grind [uA]
 ·cases h;rw[uA]
 ·grind [uA]
 ·split at h
  ·rename_i hb
   cases h;rename_i b off len cap _;rw[uA];refine .inl ⟨⟨b,true,0,0,true⟩,cap,?_,rfl,ybk _,fun _=>rfl,fun h=>by cases h⟩
   show(if 256+b<256 then some (⟨256+b,true,0,0,true⟩:BI)else if 256+b<256+w.heap.size then some ⟨256+b-256,true,0,0,true⟩else none)=_
   rw[yaa (by omega),yab (by omega),show 256+b-256=b by omega]
  ·cases h
 ·cases h
theorem NH{o:Obj}{x:vA}(h:absB w.heap.size o=some x)(b:Nat):vJ (muW w) ⟨b,true,0,0,true⟩ x o/\x.asLoop=none/\x.asDeferred=none:=by
 cases o<;>first | (cases h;done) | skip
 rename_i cs elem fr
 cases h;refine⟨⟨cs,elem,fr,rfl,ybk _,.inl rfl,fun j v hv=>?_,rfl⟩,rfl,rfl⟩
 grind [Ch,zdj]
theorem hrelW:vB (256+w.heap.size) w.heap.size (muW w) ⟨256+w.heap.size,dP w⟩ w:=by
 have hget:∀a x,(dP w).get a=some x->∃b o,b<w.heap.size/\w.heap[b]?=some o/\absB w.heap.size o=some x/\a<256+w.heap.size/\b=(if a<256 then a else a-256):=by
  grind [dP,Ch]
 have hmu:∀a,(muW w) a=if a<256 then some ⟨a,true,0,0,true⟩else if a<256+w.heap.size then some ⟨a-256,true,0,0,true⟩else none:=fun _=>rfl
 have big:∀a,256+w.heap.size<=a->(muW w) a=none:=fun a h=>by rw[hmu,yaa (by omega),yaa (by omega)]
 have same:∀a x i,(dP w).get a=some x->(muW w) a=some i->∃o,w.heap[i.b]?=some o/\i.b<w.heap.size/\absB w.heap.size o=some x/\i=⟨i.b,true,0,0,true⟩:=by
  grind
 refine⟨by omega,fun g hg=>by rw[hmu,yab hg],fun a x i _ hx hi=>?_,ybk _,ybk _,fun a ha=>⟨big a ha,?_⟩,fun a x i hx hi=>?_,fun a i ha hi=>?_,fun a b x y i j hx _ hi _ ha _ _=>?_,fun a x t h=>by cases h⟩
 ·obtain⟨o,_,h2,h3,_⟩:=same a x i hx hi
  exact⟨h2,(NH h3 0).2⟩
 all_goals grind [dP,Ch,NH]
end
end Go.Am
namespace Go.Am
open Go Go.RowKit
def tiles(P:Program):Nat->List Field->Nat->Bool
 | off,[],n=>off == n
 | off,f::fs,n=>f.offset == off&&tiles P (off+P.cellsOf f.type) fs n
structure Plain (P:Program) (S:TypeId->Prop):Prop where
 part:∀t,S t->match P.underlying t with
  | some .bool=>True
  | some (.int _)=>True
  | some .string=>True
  | some (.slice e)=>S e/\0<P.cellsOf e
  | some (.struct fs)=>(∀f∈fs.toList,S f.type)/\tiles P 0 fs.toList (P.cellsOf t)=true
  | _=>False
end Go.Am
namespace Go.Am
open Go Go.RowKit
structure zf4 (P:Program) where
 (b i u8 u16 s limbs whole frac val expr exprs row rows table tables dfn dfns clause clauses plan:TypeId)
 hb:P.underlying b=some .bool
 hi:P.underlying i=some (.int .i64)
 hu8:P.underlying u8=some (.int .u8)
 hu16:P.underlying u16=some (.int .u16)
 hs:P.underlying s=some .string
 hlimbs:P.underlying limbs=some (.slice u16)
 hexprs:P.underlying exprs=some (.slice expr)
 hrows:P.underlying rows=some (.slice row)
 htables:P.underlying tables=some (.slice table)
 hdfns:P.underlying dfns=some (.slice dfn)
 hclauses:P.underlying clauses=some (.slice clause)
 hwhole:∃fs,P.underlying whole=some (.struct fs)/\fs.toList.map (·.type)=[b,limbs]
 hfrac:∃fs,P.underlying frac=some (.struct fs)/\fs.toList.map (·.type)=[whole,whole]
 hval:∃fs,P.underlying val=some (.struct fs)/\fs.toList.map (·.type)=[u8,frac,i]
 hexpr:∃fs,P.underlying expr=some (.struct fs)/\fs.toList.map (·.type)=[u8,s,val,exprs]
 hrow:∃fs,P.underlying row=some (.struct fs)/\fs.toList.map (·.type)=[i,i,i,frac]
 htable:∃fs,P.underlying table=some (.struct fs)/\fs.toList.map (·.type)=[s,b,rows]
 hdfn:∃fs,P.underlying dfn=some (.struct fs)/\fs.toList.map (·.type)=[s,u8,b]
 hclause:∃fs,P.underlying clause=some (.struct fs)/\fs.toList.map (·.type)=[s,s,i,i,i,b,expr,expr]
 hplan:∃fs,P.underlying plan=some (.struct fs)/\fs.toList.map (·.type)=[s,dfns,tables,clauses]
 cu16:P.cellsOf u16=1
 cexpr:P.cellsOf expr=9
 crow:P.cellsOf row=7
 ctable:P.cellsOf table=3
 cdfn:P.cellsOf dfn=3
 cclause:P.cellsOf clause=24
 bytes:1<=P.bytesOf u16/\1<=P.bytesOf expr/\1<=P.bytesOf row/\1<=P.bytesOf table/\1<=P.bytesOf dfn/\1<=P.bytesOf clause
namespace zf4
end zf4
end Go.Am
namespace Go.Am
open Go Go.RowKit Go.Proofs
variable {g:Nat}{tg:TypeId}
def SD[gC](B N:Nat)(hb:B<=256+gC.n):Nf Tryz.prog yA B N fM:=by
 intro f g hg args H v H' hv μ w args' hH hI hl;have hg:Wl.get f=some g:=hg
 unfold Wl at hg;rcases pV hg with⟨rfl,rfl⟩ | hg
 ·exact aY hv hH fun hv=>EY hv hl
 rcases pV hg with⟨rfl,rfl⟩ | hg
 ·exact aY hv hH fun hv=>EW hv hl
 rcases pV hg with⟨rfl,rfl⟩ | hg
 ·exact aY hv hH fun hv=>EX hI hv hl
 rcases pV hg with⟨rfl,rfl⟩ | hg
 ·exact aY hv hH fun hv=>EZ hI hv hl
 rcases pV hg with⟨rfl,rfl⟩ | hg
 ·exact .inr (SE hb hH hv hl)
 rcases pV hg with⟨rfl,rfl⟩ | hg
 ·exact .inr (SF hb hH hv hl)
 rcases pV hg with⟨rfl,rfl⟩ | hg
 ·exact aY hv hH fun hv=>SG hI hv hl
 ·rw[Tr.get_leaf]at hg;cases hg
def sim30[gC](hN:5<=gC.n):oK Tryz.prog yA (256+gC.n) gC.n fM:=
 ⟨zdq rfl,Yt rfl,SD _ _ (ybk _),ybk _,by kernel_rfl,fun _ _ hb h=>h.below hN hb⟩
section
variable {w:World}
theorem zhz{b:Nat}{y:vA}(h:(dP w).get b=some y):b<256+w.heap.size:=by
 grind [dP,Ch]
def OQ(hL:fM w)(f:Nat)(args:List zA)(args':Array Value)(hp:∀ [gC],yA.prims.get f=none)(hl:rB (muW w) args args'.toList)
  (h:∀ [gC],∃Q:pB,Wc yA F f args (dP w) Q/\∀v t,Q v t->v=.bool true) (hf:Nat.blt f yo=true:=by rfl) :
  Calls Tryz.prog f args' w fun e w'=>e=.returned (.bool true)/\Below w.heap.size w w':=by
 letI:gC:=⟨w.heap.size⟩
 obtain⟨Q,h1,h2⟩:=h
 refine(YR (H:=⟨256+w.heap.size,dP w⟩) (sim30 hL.size) hL zjm hp (ybk _) (fun b y hb=>zhz hb) hrelW hl h1 hf).mono fun e w' ⟨v,v',t',μ',g1,g2,g3,g4,g5⟩=>?_
 have:=h2 v t' g4
 subst this;rw[uA]at g3;exact⟨by rw[g1,g3],g5⟩
def CR {l:List (List UInt8)} (hg:g<256)(h:w.heap[g]?=some (.cells (gS l).toArray tg (0,0)))[gC]:At (dP w) g 0 (l.map fun b=>.str (b.map UInt8.toNat)):=by
 have hb:=(ybe.1 h).1
 have e:(dP w).get g=some (.cells (Bn (fun j=>((gS l).toArray[j]?).bind (Fs w.heap.size)) (gS l).toArray.size) (gS l).toArray.size none):=by
  unfold dP;rw[Ch,yab (by omega),yab (by omega),h]
  rfl
 refine⟨_,_,_,e,fun j a ha=>?_⟩
 rw[Ch,ybw];rw[ybu]at ha
 cases hbt:l[j]? with
 | none=>rw[hbt]at ha;cases ha
 | some b=>
  rw[hbt]at ha;obtain rfl:=yci ha
  have hj:=(ybc.1 hbt).1
  rw[yab (by simpa[gS]using hj)]
  simp only[gS,List.getElem?_toArray,ybu,hbt,Option.map_some,yai,Fs];rfl
def ziv {l:List Int} (hg:g<256)(h:w.heap[g]?=some (.cells (fX l).toArray tg (0,0)))[gC]:At (dP w) g 0 (l.map fun n=>.int .i64 n):=by
 have hb:=(ybe.1 h).1
 have e:(dP w).get g=some (.cells (Bn (fun j=>((fX l).toArray[j]?).bind (Fs w.heap.size)) (fX l).toArray.size) (fX l).toArray.size none):=by
  unfold dP;rw[Ch,yab (by omega),yab (by omega),h]
  rfl
 refine⟨_,_,_,e,fun j a ha=>?_⟩
 rw[Ch,ybw];rw[ybu]at ha
 cases hbt:l[j]? with
 | none=>rw[hbt]at ha;cases ha
 | some b=>
  rw[hbt]at ha;obtain rfl:=yci ha
  have hj:=(ybc.1 hbt).1
  rw[yab (by simpa[fX]using hj)]
  simp only[fX,List.getElem?_toArray,ybu,hbt,Option.map_some,yai,Fs]
def ziz(h:fM w):∀ [gC],kK (dP w):=by
 intro _;obtain⟨t1,h1⟩:=h.kinds
 obtain⟨t2,h2⟩:=h.modes
 obtain⟨t3,h3⟩:=h.lens
 exact⟨CR (by decide) h1,CR (by decide) h2,ziv (by decide) h3⟩
end
end Go.Am
namespace Go.Am
open Go Go.RowKit Go.ChangeShapes Go.WideShapes Go.ChangeAt
variable {f:FuncId}{s:ChangeSpec}{fn:Func}
section
variable {H:Type}{enc:TypeId × Value->H}{P:Program}
def BJ(hl:laidOutB P=true){W W':World}(hb:Below W.heap.size W W'):∀ {ts:List TypeId} {vs:List Value} {ds:List (DataW H)} {ps:List MemPlace},(∀t∈ts,P.readableRec t=true/\t<P.types.size) →
  DataW.TrodAll enc P W 0 (fun _=>true) true ts vs ds ps->(∀x∈ps,x.block<W.heap.size)->DataW.TrodAll enc P W' 0 (fun b=>decide (b<W.heap.size)) true ts vs ds ps
 | [],[],[],_,_,h,_=>h
 | t::ts,_::_,_::_,_,ht,⟨p,q,h1,h2,e⟩,hs=>by
  subst e;exact⟨p,q,Below.trod hl (ht t (by simp)).1 (ht t (by simp)).2 h1 hb fun x hx=>hs x (ydc _ hx),
   BJ hl hb (fun t ht'=>ht t (ybr _ ht')) h2 fun x hx=>hs x (ycf _ hx),rfl⟩
 | [],_::_,_,_,_,h,_=>by simp[DataW.TrodAll]at h
 | [],[],_::_,_,_,h,_=>by simp[DataW.TrodAll]at h
 | _::_,[],_,_,_,h,_=>by simp[DataW.TrodAll]at h
 | _::_,_::_,[],_,_,h,_=>by simp[DataW.TrodAll]at h
theorem law_post(hl:laidOutB P=true){f:Func} {tb:TypeId}(hp:∀t∈f.params.toList,P.readableRec t=true/\t<P.types.size)(hv:s.vars=[])(hres:f.resultTypes = #[tb])(htb:P.underlying tb=some .bool)
  {W W':World} {args:Array Value} {ds gs:List (DataW H)} {before:List MemPlace} (hfn:s.fn H ds={ results:=[.lit (.bool true)],args:=ds })
  (hW:DataW.Whole enc P f.params.toList s.vars false W args.toList ds gs before) (hb:Below W.heap.size W W') :
  s.post enc P f false true false false W args (.bool true) W':=by
 have hW0:=hW
 obtain⟨p,q,hA,hV,rfl,hfz,hnd⟩:=hW
 rw[hv]at hV;obtain⟨rfl,rfl⟩:=trodVars_none hV
 refine⟨ds,[],p++[],[],p,[],hW0,?_,?_,?_,hb.frame _,fun h=>by cases h⟩
 ·rw[ycd,hfn,hres]
  exact trodAll_mk1 (shut_bool htb _)
 ·rw[ycd,hfn]
  exact BJ hl hb hp hA fun x hx=>hW0.lt x (by simp_all)
 ·rw[ycd,hfn,hv]
  exact rfl
theorem ZZ{a:Assume}{C:Checked}{os:Os}   {conds:List PathCond}{apart fresh handsOn again:Bool}{X:World->Array Value->Prop}
  (hX:∀(w w':World) (args:Array Value),w.heap=w'.heap->X w args->X w' args)
  (own:ownKnob C.prog.godebug=none) (started:os.Started) (noInit:C.prog.inits.idxOf? f=none) (hfn:C.prog.funcs[f]?=some fn)
  (witness:∃(w:World) (tape:Tape) (i:Input),w.os=os/\(w.forCall tape i).Shaped C.prog/\i.vars=[]/\Input.okWide C.prog (w.forCall tape i) .any w.heap.size f i ∧
   ((s.pre enc C.prog fn conds apart (w.forCall tape i).memory i.args/\X (w.forCall tape i).memory i.args)/\sizedMet enc C.prog fn (OpenSpec.ofChange s) apart (w.forCall tape i).memory i.args)/\a.holds C.prog (lone (Frame.enter C.prog f i.args .normal) [] (w.forCall tape i)))
  (contract:∀(W:World) (base:Nat) (args:Array Value) (ds gs:List (DataW H)) (before:List MemPlace),
   (∀(j:Nat) t v,fn.params[j]?=some t->args[j]?=some v->Value.okWide C.prog W .any base t v) →
   DataW.Whole enc C.prog fn.params.toList s.vars apart W args.toList ds gs before →
   (DataW.weightsEach C.prog (fn.params.toList++s.plain.varTypes C.prog) (ds++gs)).all (· <= reachBytes)=true->X W args->W.ShapedOpen C.prog →
   Calls C.prog f args W fun e W'=>∃v,e=.returned v/\s.post enc C.prog fn apart fresh handsOn again W args v W') :
  ReturnsInHanded a C os f .any (fun w args=>(s.pre enc C.prog fn conds apart w args/\X w args)/\sizedMet enc C.prog fn (OpenSpec.ofChange s) apart w args) (s.post enc C.prog fn apart fresh handsOn again):=by
 refine returnsInHanded_of_calls own started noInit witness ?_
 intro w tape i _ hsh _ hok hpre _;obtain⟨_,_,_,fn',hfn',_,_,_,_,hval⟩:=hok
 have e:fn'=fn:=yci (hfn'.symm.trans hfn)
 subst e;obtain⟨⟨⟨ds,gs,before,hw,hc⟩,hx⟩,hz⟩:=hpre
 have hw':=DataW.Whole.of_heap (w':=w.forCall tape i) (by rfl) hw
 refine(contract (w.forCall tape i) w.heap.size i.args ds gs before hval hw' (hz.weights hw) (hX _ _ _ (by rfl) hx) hsh).mono fun e W' ⟨v,he,hp⟩=>?_
 grind [ChangeSpec.post_blind]
variable {w:World}{base:Nat}{spare:Nat->Bool}{held:Bool}{fuel:Nat}{t e:TypeId}{cs:List Value}{ps:List MemPlace}
theorem AG{α:Type}{g:α->DataW H}{u:α->Value}{l:List α}{n:Nat}(ht:P.underlying t=some (.array n e))(hc:P.cellsOf e=1)(hn:P.cellsOf t=n)
  (h1:∀(m:Nat) (c:List Value) (x:DataW H × List MemPlace) (a:α),DataW.trod enc P w base spare held m e c=some x->x.1=g a->c=[u a])
  (h:DataW.trod enc P w base spare held fuel t cs=some (.agg (l.map g),ps)):cs=l.map u:=by
 obtain⟨xs,m,_,hx,hlen,hxs,hel⟩:=DataW.trod_array ht h
 simp only[Prod.mk.injEq,DataW.agg.injEq]at hx;have hl:l.length=n:=by have:=congrArg List.length hx.1;grind
 rw[hn]at hlen;refine List.ext_getElem (by rw[hlen,ybf,hl]) fun i hi1 hi2=>?_
 have hi:i<n:=by omega
 have:=hel i hi
 rw[hc]at this;have hc1:((cs.drop (i*1)).take 1)=[cs[i]]:=by
  grind [List.drop_eq_getElem_cons]
 rw[hc1,ybd (by omega)]at this
 have hxi:xs[i].1=g (l[i]'(by omega)):=by
  have:=congrArg (fun z=>z[i]?) hx.1
  grind
 grind
def CT(he:P.underlying e=some .string)(m:Nat)(c:List Value)(x:DataW H × List MemPlace)(b:List UInt8)(h:DataW.trod enc P w base spare held m e c=some x)(hx:x.1=.lit (.string b)):c=[.string ⟨b.toArray⟩]:=by
 obtain⟨s,rfl,rfl,_⟩:=DataW.trod_string he h
 simp at hx;rw[<- hx]
def zce(he:P.underlying e=some (.int .i64))(m:Nat)(c:List Value)(x:DataW H × List MemPlace)(n:Int)(h:DataW.trod enc P w base spare held m e c=some x)(hx:x.1=.lit (.int .i64 n)):c=[.int .i64 n]:=by
 obtain⟨k,rfl,rfl,_⟩:=DataW.trod_int he h
 simp at hx;rw[hx]
end
theorem joined_of{P:Program}   {c:OpenClaim}
  (A:(c.wf (OpenSpec.ofChange s)&&laidOutB P&&mapsRowed P&&fn.params.all (P.readableRec ·)&&namedTie P c.named s.vars&&(c.stops == [])&&(P.stops == [])&&(c.knobs == [])&&(P.stopKnobs == []))=true)
  (h1:(c.inPlace == P.inPlace f)=true) (h2:(c.unfollowed == P.unfollowed f)=true) (h3:(c.recurses == P.recurses f)=true) (h4:(c.named == P.varsNamed f)=true)
  (E:((c.maps == (fn.params.toList++s.plain.varTypes P).any (P.mapsRec ·))&&(c.ifaces == (fn.params.toList++s.plain.varTypes P).any (P.ifacesRec ·))&&(c.mapsOut == P.mapsAmong fn.resultTypes.toList) &&
   (c.loops == (fn.params.toList++s.plain.varTypes P).any (P.loopsFrom ·))&&(c.wideKeys == (fn.params.toList++s.plain.varTypes P++fn.resultTypes.toList).any (P.wideKeysFrom ·)) &&
   s.vars.all (P.varReadable ·)&&fn.resultTypes.all (fun t=>P.readableRec t&&decide (t<P.types.size))&&(c.ifacesOut == fn.resultTypes.toList.any (P.ifacesRec ·))&&(c.loopsOut == fn.resultTypes.toList.any (P.loopsFrom ·))&&c.shortTexts.isNone)=true)
  (h5:(c.plainKeys == P.plainKeys)=true) (h6:P.stopsHeard=true) (h7:P.mayEnter=true) (h8:(c.lifted == P.liftsFinal)=true)
  (R:((P.make == some c.make)&&(c.kinds == (if c.domain.isEmpty then []else fn.params.toList.map fun t=>match P.underlying t with | some (.int k)=>some k | _=>none))&&(c.pinned == c.pinnedBy) &&
   (c.veiled == (fn.params.toList++s.plain.varTypes P++fn.resultTypes.toList).any (P.veiledRec ·))&&c.veiledFits P fn.params.toList (fn.params.toList++s.plain.varTypes P++fn.resultTypes.toList))=true) :
  joinedFacts P f fn s c=true:=by
 unfold joinedFacts;simp only[ybb]at A E R ⊢
 grind
end Go.Am
namespace Go.Proofs.YtfmlbimokklmgaaGreatDoor
open Go Go.Am Go.RowKit Go.ChangeShapes Go.WideShapes Go.ChangeAt
variable {W:World}{g:Nat}
theorem own:ownKnob Tryz.prog.godebug=none:=by kernel_rfl
def laidOut:laidOutB Tryz.prog=true:=by kernel_rfl
def gLens : Tryz.prog.globalNamed "annuitant/calendar.lengths" = some 2 := by kernel_rfl
def gKinds : Tryz.prog.globalNamed "annuitant/parse.kindWords" = some 1 := by kernel_rfl
def gModes : Tryz.prog.globalNamed "annuitant/parse.modeWords" = some 4 := by kernel_rfl
def tLens:(Tryz.prog.globals[2]?).map (·.type)=some 219:=by kernel_rfl
def tKinds:(Tryz.prog.globals[1]?).map (·.type)=some 201:=by kernel_rfl
def tModes:(Tryz.prog.globals[4]?).map (·.type)=some 201:=by kernel_rfl
def laid3 : List (String × DataW Unit) := [("annuitant/calendar.lengths", Rows.laid_annuitant_calendar_lengths), ("annuitant/parse.kindWords", Rows.laid_annuitant_parse_kindWords), ("annuitant/parse.modeWords", Rows.laid_annuitant_parse_modeWords)]
def door_met(os:Os)(args:Array Value):laidMetH Tryz.prog laid3 ((World.doorLaid Tryz.prog 24 os).forCall (fun _ _=>0) ⟨#[],args,[]⟩).memory:=
 laidMetH_of_parts3 (fuel:=8) (laidMet_of_run' 8 (by kernel_rfl) (by kernel_rfl)) (by kernel_rfl) (by kernel_rfl)
def Tc {n:String} {cs:Array Value}(hg:Tryz.prog.globalNamed n=some g)(hv:W.var? Tryz.prog n=some cs)(hc:∃c t,W.heap[g]?=some (.cells c t (0,0))):∃t,W.heap[g]?=some (.cells cs t (0,0)):=by
 obtain⟨c,t,hc⟩:=hc
 unfold World.var? at hv
 rw[hg]at hv;simp only[yai,hc,Option.some.injEq]at hv;subst hv;exact⟨t,hc⟩
def Vs{n:Nat}{p q:List MemPlace}(h:0<n):MemPlace.cell g 0∈MemPlace.row ⟨g,0,none⟩ n++p++q:=
 ydc _ (ydc _ (yaq.2 ⟨0,List.mem_range.2 h,rfl⟩))
def laid_of (h:laidMetH Tryz.prog laid3 W)(hsh:W.ShapedOpen Tryz.prog):fM W:=by
 rw[MakeChecks.laidMetH_plain _ _ _ (by kernel_rfl)]at h
 obtain⟨ps,⟨g0,t0,cs0,f0,p0,q0,hg0,ht0,hv0,hd0,⟨g1,t1,cs1,f1,p1,q1,hg1,ht1,hv1,hd1,⟨g2,t2,cs2,f2,p2,q2,hg2,ht2,hv2,hd2,_,hp2⟩,hp1⟩,hp0⟩,_,hcell⟩:=h
 obtain rfl:=yci (gLens.symm.trans hg0)
 obtain rfl:=yci (gKinds.symm.trans hg1)
 obtain rfl:=yci (gModes.symm.trans hg2)
 obtain rfl:=yci (tLens.symm.trans ht0)
 obtain rfl:=yci (tKinds.symm.trans ht1)
 obtain rfl:=yci (tModes.symm.trans ht2)
 have c3:Tryz.prog.cellsOf 3=1:=by kernel_rfl
 have c9:Tryz.prog.cellsOf 9=1:=by kernel_rfl
 have c201:Tryz.prog.cellsOf 201=7:=by kernel_rfl
 have c219:Tryz.prog.cellsOf 219=12:=by kernel_rfl
 have e0:cs0.toList=fX pZ:=AG (l:=pZ) (g:=fun n=>.lit (.int .i64 n)) (u:=fun n=>.int .i64 n) Tryz.underlying219 c3 c219 (fun m c x a=>zce Tryz.underlying3 m c x a) hd0
 have e1:cs1.toList=gS lZ:=AG (l:=lZ) (g:=fun b=>.lit (.string b)) (u:=fun b=>.string ⟨b.toArray⟩) Tryz.underlying201 c9 c201 (fun m c x a=>CT Tryz.underlying9 m c x a) hd1
 have e2:cs2.toList=gS wZ:=AG (l:=wZ) (g:=fun b=>.lit (.string b)) (u:=fun b=>.string ⟨b.toArray⟩) Tryz.underlying201 c9 c201 (fun m c x a=>CT Tryz.underlying9 m c x a) hd2
 have s0:cs0=(fX pZ).toArray:=by rw[<- e0]
 have s1:cs1=(gS lZ).toArray:=by rw[<- e1]
 have s2:cs2=(gS wZ).toArray:=by rw[<- e2]
 subst s0 s1 s2
 have m0:MemPlace.cell 2 0∈ps:=by rw[hp0];exact Vs (by decide)
 have m1:MemPlace.cell 1 0∈ps:=by rw[hp0,hp1];exact ycf _ (Vs (by decide))
 have m2:MemPlace.cell 4 0∈ps:=by rw[hp0,hp1,hp2];exact ycf _ (ycf _ (Vs (by decide)))
 exact⟨Tc hg1 hv1 (hcell 1 0 m1).1,Tc hg2 hv2 (hcell 4 0 m2).1,Tc hg0 hv0 (hcell 2 0 m0).1,Tryz.laysM144.s1_3 W hsh⟩
def stopsHeard:Tryz.prog.stopsHeard=true:=by kernel_rfl
def mayEnter:Tryz.prog.mayEnter=true:=by kernel_rfl
def bool4:Tryz.prog.underlying 4=some .bool:=Tryz.underlying4
end Go.Proofs.YtfmlbimokklmgaaGreatDoor
namespace Go.Am
open Go Go.RowKit Go.Proofs
def zdb(a:ByteArray):∀b∈nF a,b<256:=by
 intro b hb;unfold nF at hb;obtain⟨x,_,rfl⟩:=yaq.1 hb
 exact x.toNat_lt
end Go.Am
namespace Go.Proofs.YtfmlbimokklmgaaGreatDoor
open Go Go.Am Go.RowKit
def val_str{W:World}{base:Nat}{v:Value}(h:Value.okWide Tryz.prog W .any base 9 v):∃s,v=.string s:=by
 have hu:=Tryz.underlying9
 unfold Value.okWide at h;rw[hu]at h;have h:Value.ok Tryz.prog W .any base 9 v:=h
 unfold Value.ok at h;rw[hu]at h
 cases v<;>first | exact⟨_,rfl⟩ | exact h.elim
end Go.Proofs.YtfmlbimokklmgaaGreatDoor
namespace Go.Am
open Go Go.RowKit
theorem Tr.pick(p:Nat->Bool)(t:Tr vA):∀n:Nat,∃t':Tr vA,∀b,t'.get b=if b<n/\p b=true then none else t.get b:=by
 intro n;induction n with
 | zero=>exact⟨t,fun b=>by simp⟩
 | succ n ih=>
  obtain⟨t',h⟩:=ih
  cases hp:p n with
  | false=>exact⟨t',fun b=>by rw[h];by_cases hb:b=n<;>grind⟩
  | true=>exact⟨t'.del n,fun b=>by rw[Tr.get_del,h];by_cases hb:b=n<;>grind⟩
section
variable {C:mA}{F:Tr bD}{f:Nat}{args:List zA}{tf t:Tr vA}{Q:pB}
theorem Wc.under(h:Wc C F f args tf Q)(hle:aA tf t):Wc C F f args t fun v t'=>∃tf',Q v tf'/\aA tf' t'/\∀b y,t.get b=some y->tf.get b=none->t'.get b=some y/\tf'.get b=none:=by
 intro X HA ho;have hX:Ov C.base tf (fun b=>match tf.get b with | some _=>none | none=>match t.get b with | some y=>some y | none=>X b) HA:=by
  refine⟨ho.base,fun b hb=>?_,fun b y hb=>?_,fun b y hb=>ho.lt _ _ (hle _ _ hb)⟩
  ·cases h1:tf.get b with
   | some y=>rw[ho.up (hle _ _ h1)]
   | none=>
    simp only[h1]at hb
    cases h2:t.get b with
    | some y=>simp[h2]at hb
    | none=>simp only[h2]at hb;rw[ho.same b hb,h2]
  ·cases h1:tf.get b with
   | some y=>simp[h1]at hb
   | none=>
    simp only[h1]at hb
    cases h2:t.get b with
    | some z=>simp only[h2]at hb;cases hb;exact⟨ho.up h2,rfl,ho.lt _ _ h2⟩
    | none=>simp only[h2]at hb;obtain⟨e1,e2,e3⟩:=ho.ext _ _ hb;exact⟨e1,rfl,e3⟩
 obtain⟨v,tf',HA',X',h1,h2,h3,h4⟩:=rQ.1 (h _ _ hX)
 have hk:∀b y,t.get b=some y->tf.get b=none->X' b=some y:=fun b y g1 g2=>h3 b y (by simp only[g2,g1])
 obtain⟨t',ht'⟩:=Tr.pick (fun b=>(X' b).isSome && !(tf.get b).isNone.not && !((t.get b).isSome&&(tf.get b).isNone)) HA'.t HA'.next
 have hbase:=h2.base
 refine rQ.2 ⟨v,t',HA',fun b=>if ((X' b).isSome && !(tf.get b).isNone.not && !((t.get b).isSome&&(tf.get b).isNone))=true then X' b else none,h1,⟨h2.base,fun b hb=>?_,fun b y hb=>?_,fun b y hb=>?_⟩,?_,tf',h4,?_,?_⟩
 ·rw[ht']
  split
  ·rename_i hc;rw[yab hc.2]at hb;rw[hb]at hc;simp at hc
  ·rfl
 ·split at hb
  ·rename_i hc
   obtain⟨e1,e2,e3⟩:=h2.ext b y hb
   exact⟨e1,by rw[ht',yab ⟨e3,hc⟩],e3⟩
  ·cases hb
 ·rw[ht']at hb
  split at hb
  ·cases hb
  ·cases hx:X' b with
   | some z=>exact(h2.ext b z hx).2.2
   | none=>rw[h2.same b hx]at hb;exact h2.lt b y hb
 ·intro b y hb
  have g1:t.get b=none:=(ho.ext b y hb).2.1
  have g2:tf.get b=none:=by
   cases hx:tf.get b with
   | none=>rfl
   | some z=>rw[hle _ _ hx]at g1;cases g1
  have g3:X' b=some y:=h3 b y (by simp only[g2,g1,hb])
  simp[g1,g2,g3]
 ·intro b y hb
  rw[ht'];split
  ·rename_i hc
   cases hx:X' b with
   | none=>rw[hx]at hc;simp at hc
   | some z=>rw[(h2.ext b z hx).2.1]at hb;cases hb
  ·exact h2.up hb
 ·intro b y g1 g2
  have g3:=hk b y g1 g2
  refine⟨?_,(h2.ext b y g3).2.1⟩
  rw[ht',yaa]
  ·exact(h2.ext b y g3).1
  ·simp[g1,g2]
def Wc.objs{R:zA->Tr vA->Prop}{L:List iE}(h:Wc C F f args tf fun v tf'=>aA tf tf'/\R v tf')(ho:fA C.base tf t L)(hQ:∀v tf' t',aA tf tf'->fA C.base tf' t' L->R v tf'->Q v t'):Wc C F f args t Q:=by
 refine(Wc.under h ho.tle).mono fun v t' ⟨tf',⟨k1,k2⟩,k3,k4⟩=>hQ v tf' t' k1 ?_ k2
 refine ho.keep k1 k3 fun k hk=>?_
 obtain⟨y,hy⟩:=ho.live hk
 obtain⟨e1,e2⟩:=k4 k y hy (ho.low k hk).2
 exact⟨by rw[e1,hy],e2⟩
end
end Go.Am
namespace Go.Proofs
open Go Go.Am
variable {a3 b cap k:Nat}{l row:List Nat}
variable [gC]
def el189:It yA 189 56 1:=⟨⟨_,pM,rfl,rfl⟩,⟨_,eH,rfl,rfl,by decide,by decide⟩⟩
def sP (l:List Nat):List zA:=l.map fun(n:Nat)=>zA.int .u32 (n:Int)
def BG(l:List Nat):(sP l).length=l.length:=by simp[sP]
theorem dC.words{t:Tr vA}{n:Nat} (h:dC t b none (sP l))(hn:n<=l.length)(hc:n<=cap):bA t 1 (xC .u32 (l.take n)) (.slice b 0 n cap):=by
 obtain⟨c,h1,h2⟩:=h
 refine⟨(l.take n).map fun(x:Nat)=>[zA.int .u32 (x:Int)],.inr ⟨b,0,cap,?_,by simp;omega,⟨c,_,_,h1,.inl rfl⟩,fun i cs hi=>?_⟩,?_⟩
 ·simp;omega
 ·rw[ybu]at hi
  cases hx:(l.take n)[i]? with
  | none=>rw[hx]at hi;cases hi
  | some x=>
   rw[hx]at hi;cases hi;refine⟨rfl,c,_,_,h1,fun j a hj=>?_⟩
   match j,hj with
   | 0,hj=>
    cases hj;rw[show 0+i*1+0=i by omega];refine h2 i _ ?_
    have:=(ybc.1 hx).1
    rw[ydf]at hx;unfold sP;rw[ybu];grind
 ·induction l.take n with
  | nil=>exact sF.2 rfl
  | cons x r ih=>exact yD.2 ⟨_,_,rfl,lK.2 rfl,ih⟩
def dC.le{tf t:Tr vA} {lo:Option Lo}{cs:List zA}(h:dC tf b lo cs)(hl:aA tf t):dC t b lo cs:=by
 obtain⟨c,h1,h2⟩:=h
 exact⟨c,hl _ _ h1,h2⟩
def aT{base:Nat}{W J:eE}{t:Tr vA}{Q:pB}{f:zA}{args:List zA}{K:zA->T}{g:Nat}{a:List zA}(h:iL f args=some (g,a))(k:W g a t (fun v t'=>pA base W J (K v) t' Q)):pA base W J (.callv f args K) t Q:=by
 show vE (iL f args) _
 rw[h];exact k
section
variable {t t0:Tr vA}{Q:pB}
abbrev Ck(a3 b a1 a0:Nat)(row:List Nat)(k cap:Nat)(c:Nat):List iE:=[fB a3 none [.slice b 0 k cap],fB b none (sP row),fB a1 none [.int .u64 (c:Int)],fB a0 none [.ptr a3 0]]
def zfs{a1 a0 c s:Nat} (h:fA yA.base t0 t (Ck a3 b a1 a0 row k cap c))(hk:k<cap)(hcap:cap=row.length)(hs:s+c<18446744073709551616)
  (hQ:∀t',fA yA.base t0 t' (Ck a3 b a1 a0 (row.set k ((s+c)%4294967296)) (k+1) cap ((s+c) / 4294967296))->Q (.tup []) t'):Wc yA F 154 [.int .u64 (s:Int),.ptr a1 0,.ptr a0 0] t Q:=by
 have l1:∀ {t},fA yA.base t0 t (Ck a3 b a1 a0 row k cap c)->lA yA 207 ⟨0,t⟩ (.ptr a1 0)=some (.int .u64 (c:Int)):=fun h=>(fA.cel (A:=[_,_]) h).load1 wQ rfl rfl
 have l2:∀ {t},fA yA.base t0 t (Ck a3 b a1 a0 row k cap c)->lA yA 206 ⟨0,t⟩ (.ptr a0 0)=some (.ptr a3 0):=fun h=>(fA.cel (A:=[_,_,_]) h).load1 ty206 rfl rfl
 have l3:∀ {t},fA yA.base t0 t (Ck a3 b a1 a0 row k cap c)->lA yA 189 ⟨0,t⟩ (.ptr a3 0)=some (.slice b 0 k cap):=fun h=>(fA.cel (A:=[]) h).load1 pM rfl rfl
 have nl:∀b o,iF (.ptr b o)=some (.ptr b o):=fun _ _=>rfl
 refine w154 ?_
 unfold t154 uE;have e1:iA .u64 ((s:Int)+(c:Int))=((s+c:Nat):Int):=by rw[jF (by omega) (by omega)];omega
 have e2:iA .u32 ((s+c:Nat):Int)=(((s+c)%4294967296:Nat):Int):=by rw[kT];omega
 have e3:Int.fdiv ((s+c:Nat):Int) 4294967296=(((s+c) / 4294967296:Nat):Int):=by rw[Int.fdiv_eq_ediv_of_nonneg _ (by omega)];omega
 refine vC (l1 h) (sB ?_)
 rw[e1,e2,e3];refine vC (l2 h) (vC (l2 h) (oA (nl _ _) (vC (l3 h) (jC fun n hn hnb=>?_))))
 obtain⟨t1,g1,g2,g3,g4⟩:=Em (C:=yA) (T:=189) (ps:=[(0,.int .u32 (((s+c)%4294967296:Nat):Int))]) (cl:=[[.int .u32 (((s+c)%4294967296:Nat):Int)]]) (n:=1) (sz:=1) pM rfl eH rfl rfl (by omega) (by
   have e:nI [zA.int .u32 0] 1=[.int .u32 0]:=rfl
   show kL _ _ (nI [zA.int .u32 0] 1)=_
   rw[e];rfl) (by intro i cs hi;match i,hi with | 0,hi=>cases hi;rfl) rfl hn
 have h1:=h.junk hn g4
 have sm:∀b o,same 10 (.ptr b o) (.ptr b o)=true:=fun b o=>by simp[same,Nat.beq_refl]
 refine⟨_,_,g1,vC (l2 h1) (sA (sm _ _) (vC (l2 h1) (sA (sm _ _) (vC (l3 h1) (sA DR (jC fun n2 _ _=>?_))))))⟩
 have hlow:=h1.low b (by simp[fB])
 obtain⟨t2,k1,k2,k3⟩:=ZP (C:=yA) (n:=n2) (k:=k) (m:=1) (cap:=cap) el189 (fA.cel (A:=[_]) h1) hlow.1 g2 rfl (by omega) (by omega) (by rw[BG];omega) (by intro a ha;simp at ha;subst ha;rfl)
 have e4:rJ (sP row) k [[zA.int .u32 (((s+c)%4294967296:Nat):Int)]].flatten=sP (row.set k ((s+c)%4294967296)):=by
  apply List.ext_getElem?
  intro i;have q1:(sP (row.set k ((s+c)%4294967296)))[i]?=((row.set k ((s+c)%4294967296))[i]?).map fun(n:Nat)=>zA.int .u32 (n:Int):=ybu
  have q2:(sP row)[i]?=(row[i]?).map fun(n:Nat)=>zA.int .u32 (n:Int):=ybu
  rw[Ec (by rw[BG];show k+1<=_;omega),q1,q2,ycw]
  show(if k<=i/\i<k+1 then [zA.int .u32 (((s+c)%4294967296:Nat):Int)][i-k]? else _)=_
  by_cases hi:i=k
  ·subst hi
   rw[yab ⟨ybk _,by omega⟩,yab rfl,yab (by omega),Nat.sub_self];rfl
  ·rw[yaa (by omega),yaa (fun e=>hi e.symm)]
 rw[e4]at k2;have h2:fA yA.base t0 t2 (Ck a3 b a1 a0 (row.set k ((s+c)%4294967296)) k cap c):=fA.upd (A:=[_]) (o:=fB b none (sP row)) h1 (fun q hq _=>k3 q (fun e=>hq (by simp[fB,e]))) (fun q hq=>.inl hq) k2 (by simp[fB]) (h1.tle.off hlow.2 k3)
 refine⟨_,_,k1,?_⟩
 have l2':lA yA 206 ⟨0,t2⟩ (.ptr a0 0)=some (.ptr a3 0):=(fA.cel (A:=[_,_,_]) h2).load1 ty206 rfl rfl
 refine vC l2' (sA (sm _ _) (oA (nl _ _) (jC fun n3 _ _=>?_)))
 obtain⟨t3,m1,m2⟩:=fA.setCel (A:=[]) (j:=0) (v:=.slice b 0 (k+1) cap) h2 pM rfl (by show 0+1<=1;omega) rfl
 refine⟨_,_,m1 n3,jC fun n4 _ _=>?_⟩
 obtain⟨t4,p1,p2⟩:=fA.setCel (A:=[_,_]) (j:=0) (v:=.int .u64 (((s+c) / 4294967296:Nat):Int)) m2 wQ rfl (by show 0+1<=1;omega) rfl
 exact⟨_,_,p1 n4,hQ t4 p2⟩
def YA  (h:fA yA.base t0 t [fB a3 none [.slice b 0 k cap],fB b none (sP row)])(hQ:∀t' a1 a0,fA yA.base t0 t' (Ck a3 b a1 a0 row k cap 0)->Q (.func (.func 154) [] [.ptr a1 0,.ptr a0 0]) t'):Wc yA F 139 [.ptr a3 0] t Q:=by
 refine w139 ?_
 unfold t139;refine jC fun a0 h0 hb0=>?_
 obtain⟨t1,e1,e2,e3,e4⟩:=Sg (v:=.ptr a3 0) h0
 have o1:=fA.newCel (A:=[_,_]) (B:=[]) h h0 hb0 e2 e3 e4
 refine⟨_,_,e1,jC fun a1 h1 hb1=>?_⟩
 obtain⟨t2,f1,f2,f3,f4⟩:=rS (C:=yA) wQ h1
 have o2:=fA.newCel (A:=[_,_]) (B:=[_]) o1 h1 hb1 f2 f3 f4
 refine⟨_,_,f1,jC fun n _ _=>?_⟩
 obtain⟨t3,m1,m2⟩:=fA.setCel (A:=[_,_]) (j:=0) (v:=.int .u64 0) o2 wQ rfl (by show 0+1<=1;omega) rfl
 exact⟨_,_,m1 n,hQ t3 a1 a0 m2⟩
theorem zax {v:zA}{f p:Nat}(hv:bA t 1 (xC .u32 l) v)(hl:l.length<100000)(hlt:kB 4294967296 l)(hf:f<4294967296)(hp:p<4294967296)
  (hQ:∀t' r rv,aA t t'->bA t' 1 (xC .u32 r) rv->kB 4294967296 r->norm r->val 4294967296 r=val 4294967296 l*f+p->r.length<=l.length+1->Q rv t'):Wc yA F 121 [v,.int .u32 (f:Int),.int .u32 (p:Int)] t Q:=by
 have hlen:=hv.len
 rw[iH]at hlen;have ho:fA yA.base t t []:=⟨aA.refl _,by simp,by simp,by simp⟩
 refine w121 ?_
 unfold t121 uI;have e0:wD (l.length:Int)=.int .i64 ((l.length+1:Nat):Int):=by
  show zA.int .i64 (iA .i64 ((l.length:Int)+1))=_
  rw[iC (by omega) (by omega)];rfl
 refine oA hlen (sB (jC fun b hb hbb=>?_))
 rw[e0];obtain⟨t1,g1,g2,g3,g4⟩:=TX (C:=yA) (T:=189) (el:=56) (k:=.u32) (cap:=l.length+1) pM rfl eH rfl rfl (by decide) (by omega) hb
 have hrow:List.replicate (l.length+1) (zA.int .u32 0)=sP (List.replicate (l.length+1) 0):=by
  unfold sP;rw[List.map_replicate];rfl
 rw[hrow]at g2;have o1:=fA.newCel (A:=[]) (B:=[]) ho hb hbb g2 g3 g4
 refine⟨_,_,g1,jC fun a3 h3 hb3=>?_⟩
 obtain⟨t2,f1,f2,f3,f4⟩:=rS (C:=yA) pM h3
 have o2:=fA.newCel (A:=[]) (B:=[_]) o1 h3 hb3 f2 f3 f4
 refine⟨_,_,f1,jC fun n _ _=>?_⟩
 obtain⟨t3,m1,m2⟩:=fA.setCel (A:=[]) (j:=0) (v:=.slice b 0 0 (l.length+1)) o2 pM rfl (by show 0+1<=1;omega) rfl
 refine⟨_,_,m1 n,yB ?_⟩
 rw[q139];refine YA m2 fun t4 a1 a0 o4=>?_
 have e5:iA .u64 (p:Int)=(p:Int):=jF (by omega) (by omega)
 refine oA hlen (sB (kC ?_))
 rw[e5];have hfn:∀s:Int,iL (.func (.func 154) [] [.ptr a1 0,.ptr a0 0]) [.int .u64 s]=some (154,[.int .u64 s,.ptr a1 0,.ptr a0 0]):=fun s=>rfl
 have loop:∀(k i x c:Nat) (row:List Nat) (t5:Tr vA),i+k=l.length->row.length=l.length+1->kB 4294967296 (row.take i)->x+c<4294967296->val 4294967296 (row.take i)+4294967296^i*(x+c)=val 4294967296 (l.take i)*f+p →
   fA yA.base t t5 (Ck a3 b a1 a0 row i (l.length+1) c)->jp 121 2 [.int .u32 (f:Int),.ptr a3 0,.func (.func 154) [] [.ptr a1 0,.ptr a0 0],.int .u64 (x:Int),v,.int .i64 (l.length:Int),.int .i64 (i:Int)] t5 Q:=by
  intro k;induction k with
  | zero=>
   intro i x c row t5 hi hrl hra hxc hval o5;have hi:i=l.length:=by omega
   subst hi;refine zfg ?_
   unfold Ut;refine tB (by simp[mC]) (aT (hfn _) ?_)
   rw[q154];refine zfs o5 (by omega) hrl.symm (by omega) fun t6 o6=>?_
   have hd0:(x+c) / 4294967296=0:=Nat.div_eq_of_lt hxc
   have hm0:(x+c)%4294967296=x+c:=Nat.mod_eq_of_lt hxc
   rw[hm0]at o6;have lv:lA yA 189 ⟨0,t6⟩ (.ptr a3 0)=some (.slice b 0 (l.length+1) (l.length+1)):=(fA.cel (A:=[]) o6).load1 pM rfl rfl
   refine vC lv (yB ?_)
   obtain⟨c0,y1,y2⟩:=fA.cel (A:=[_]) o6
   have od:=fA.drop (A:=[_]) o6
   have hni:=fA.notin (A:=[_]) (o:=fB b none (sP (row.set l.length (x+c)))) o6 (k:=b) (by simp[fB])
   obtain⟨r1,r2⟩:=od.froze hni y1 (o6.low b (by simp[fB])).2
   have hw:dC (t.set b (.cells c0 (sP (row.set l.length (x+c))).length none)) b none (sP (row.set l.length (x+c))):=⟨c0,by rw[Tr.get_set,yab rfl],y2⟩
   have hR:=dC.words (dC.le hw r1.tle) (n:=l.length+1) (cap:=l.length+1) (by simp[hrl]) (ybk _)
   have hrow:(row.set l.length (x+c)).take (l.length+1)=row.take l.length++[x+c]:=by
    rw[vQ (x:=x+c) (by rw[ycw];simp[hrl])]
    rw[List.take_set_of_le (ybk _)]
   rw[hrow]at hR;obtain⟨v',h1,h2⟩:=Az (by simp;omega) hR
   rw[Ea,h1,qA];have hlen2:(row.take l.length).length=l.length:=by rw[yda];omega
   refine hQ t6 _ _ (r2.trans r1.tle) h2 (oT (xY hra hxc)) (mV _) ?_ ?_
   ·rw[uV,lN,hlen2,hval,List.take_length]
   ·have:=Jw (row.take l.length++[x+c])
    rw[ybg,hlen2]at this;simpa using this
  | succ k ih=>
   intro i x c row t5 hi hrl hra hxc hval o5;have hx:l[i]?=some l[i]:=ybd (by omega)
   refine zfg ?_
   unfold Ut uL;obtain⟨b',o',cs,h1,h2,_,_,h3⟩:=iG.at (fun _=>rfl) (hv.mono o5.tle) (LD hx)
   have e:=lK.1 h3
   subst e;have hw:l[i]<4294967296:=hlt _ (ycj _)
   have hm:l[i]*f<=4294967295*4294967295:=ydb (by omega) (by omega)
   have e1:iA .u64 (iA .u64 (iA .u64 (l[i]:Int)*iA .u64 (f:Int))+(x:Int))=((l[i]*f+x:Nat):Int):=by
    rw[jF (n:=(l[i]:Int)) (by omega) (by omega),jF (n:=(f:Int)) (by omega) (by omega),<- Int.natCast_mul,jF (n:=((l[i]*f:Nat):Int)) (by omega) (by omega),jF (by omega) (by omega)]
    omega
   refine sA (by rw[mC];exact decide_eq_true (by omega)) (oA h1 (vC h2 (sB ?_)))
   rw[e1];refine aT (hfn _) ?_
   rw[q154];refine zfs o5 (by omega) hrl.symm (by omega) fun t6 o6=>?_
   have e2:wD (i:Int)=.int .i64 ((i+1:Nat):Int):=by
    show zA.int .i64 (iA .i64 ((i:Int)+1))=_
    rw[iC (by omega) (by omega)];rfl
   refine kC ?_
   rw[e2];have hrow:(row.set i ((l[i]*f+x+c)%4294967296)).take (i+1)=row.take i++[(l[i]*f+x+c)%4294967296]:=by
    rw[vQ (x:=(l[i]*f+x+c)%4294967296) (by rw[ycw];simp;omega)]
    rw[List.take_set_of_le (ybk _)]
   have hlen2:(row.take i).length=i:=by rw[yda];omega
   refine ih (i+1) 0 ((l[i]*f+x+c) / 4294967296) _ t6 (by omega) (by simp[hrl]) ?_ (by omega) ?_ o6
   ·rw[hrow];exact xY hra (by omega)
   ·rw[hrow,lN,hlen2,vQ hx,lN,yda,Nat.min_eq_left (by omega),ybo,yag,ybw]
    have key:4294967296*((l[i]*f+x+c) / 4294967296)+(l[i]*f+x+c)%4294967296=l[i]*f+x+c:=ych _ _
    calc val 4294967296 (row.take i)+4294967296^i*((l[i]*f+x+c)%4294967296)+4294967296^i*4294967296*((l[i]*f+x+c) / 4294967296)
      = val 4294967296 (row.take i)+4294967296^i*(4294967296*((l[i]*f+x+c) / 4294967296)+(l[i]*f+x+c)%4294967296):=by grind
     _=(val 4294967296 (row.take i)+4294967296^i*(x+c))+4294967296^i*(l[i]*f):=by rw[key];grind
     _=_:=by rw[hval];grind
 refine loop l.length 0 p 0 _ t4 (by omega) (by simp) (fun x hx=>by simp at hx) (by omega) (by simp[val]) o4
end
end Go.Proofs
namespace Go.Am
open Go Go.RowKit
inductive E where
 | pl (d:D)
 | sl (sz:Nat) (l:List E) (m:List D)
 | st (l:List E)
section
variable {t t' tf:Tr vA}{C:mA}
end
end Go.Am
